/-
  RUse
-/
import Derived.Test.YtobjdpngnfbicaaGreatDoorZK14
import Derived.Test.YtobjdpngnfbicaaGreatDoorZK02
open Go.Lib renaming hid->ae
open Go.IntWalk renaming i64_in->af
open Nat renaming le_refl->aq,le_trans->au
open List renaming length_append->ax,append_assoc->az,getElem_mem->aA
open Go.Proofs.Tryz renaming prog->aC
namespace Go.Proofs.YtobjdpngnfbicaaGreatDoor
open Go.RowKit
set_option linter.unusedVariables false
set_option maxRecDepth 20000
attribute [local go_sem ↓] bq
attribute [local go_sem] opC upC
def slLen:Value -> Nat
 | .slice _ n _=>n
 | _=>0
def MrgRel {α:Type} (pl:α -> RPl) (better:α -> α -> α) (enc:α -> List Value) (k:Nat) (te:TypeId) (w:World) (A B R:List α) (s0 s1 s9:Value) (wr:World):Prop:=
 ∃ (i j:Nat) (pre:List α),i <= A.length /\ j <= B.length /\ Rows (fun b=>b < w.heap.size) wr k s0 (A.drop i).length ((A.drop i).flatMap enc) /\ Rows (fun b=>b < w.heap.size) wr k s1 (B.drop j).length ((B.drop j).flatMap enc) /\
   wr.ownsRow w.heap.size te k s9 pre.length (pre.flatMap enc) /\ pre ++ mergeL pl better (A.drop i) (B.drop j)=R /\ pre.length <= i+j /\ Below w.heap.size w wr
theorem rows_len {F:aV} {w:World} {k n:Nat} {v:Value} {X:List Value} (h:Rows F w k v n X):∃ a c,v=.slice a n c /\ n <= c /\ c <= maxLen:=by
 obtain⟨a,c,rfl,h1,h2,-⟩:=h.shape;exact⟨a,c,rfl,h1,h2⟩
theorem rows_tail {F:aV} {w:World} {k n b off cap:Nat} {X:List Value} {aN:Option Addr} (h:Rows F w k (.slice (some ⟨b,off,none⟩) n cap) n X) (hn:1 <= n) (ha:(if cap=1 then some (⟨b,off,none⟩:Addr) else some ⟨b,off+k,none⟩)=aN):
 Rows F w k (.slice aN (n - 1) (cap - 1)) (n - 1) (X.drop k):=by
 obtain⟨a',cap',hv,hc,hm,hz,hX,h⟩:=h;simp at hv;obtain⟨rfl,rfl⟩:=hv
 obtain⟨q,rfl⟩:∃ q,n=q+1:=⟨n - 1,by omega⟩
 simp only[Nat.add_sub_cancel];have hmul:(q+1) * k=q * k+k:=Nat.succ_mul q k;refine⟨aN,cap - 1,rfl,by omega,by omega,fun hN=>?_,by rw[List.length_drop,hX,hmul];omega,?_⟩
 ·rw[hN] at ha;split at ha <;> cases ha
 ·rcases Nat.eq_zero_or_pos q with h0 | h0
  ·exact .inl h0
  ·right;rcases h with h | ⟨b',off',L,t,fz,hb,hF,hg,hl,hr⟩
   ·omega
   ·simp at hb;obtain⟨rfl,rfl⟩:=hb;rw[if_neg (by omega)] at ha;refine⟨b,off+k,L,t,fz,ha.symm,hF,hg,by omega,fun i hi=>?_⟩;have:=hr (k+i) (by omega);rw[Nat.add_assoc,this,List.getElem?_drop]
theorem flat_tail {α:Type} (enc:α -> List Value) (k:Nat) (hk:∀ x,(enc x).length=k) (A:List α) (i:Nat) (h:i < A.length):((A.drop i).flatMap enc).drop k=(A.drop (i+1)).flatMap enc:=by
 rw[List.drop_eq_getElem_cons h,List.flatMap_cons,<- hk A[i],List.drop_left]
theorem flat_snoc {α:Type} (enc:α -> List Value) (pre:List α) (x:α):(pre ++ [x]).flatMap enc=pre.flatMap enc ++ enc x:=by simp
set_option maxRecDepth 100000 in
set_option maxHeartbeats 6000000 in
theorem mergeIt_later (w:World)  (F G:aV) (va vb:Value) (A B:List RIt) (ha:Rows F w 4 va A.length (A.flatMap aZ)) (hb:Rows G w 4 vb B.length (B.flatMap aZ)) (hlA:A.length <= 1000000) (hlB:B.length <= 1000000)
 (hbet:∀ x ∈ A,∀ y ∈ B,RIt.pl x=RIt.pl y -> ∀ W,Below w.heap.size w W -> Calls aC 115 #[itV x,itV y] W fun e w'=>e=.returned (itV (laterR x y)) /\ Below W.heap.size W w'):
 Calls aC 103 #[va,vb,.func (.func 104) #[] #[],.func (.func 115) #[] #[]] w fun e w'=>
  ∃ r,e=.returned r /\ w'.ownsRow w.heap.size 108 4 r (mergeL RIt.pl laterR A B).length ((mergeL RIt.pl laterR A B).flatMap aZ) /\ Below w.heap.size w w':=by
 replace ha:=ha.mono (G:=fun b=>b < w.heap.size) fun b _ hlt=>hlt
 replace hb:=hb.mono (G:=fun b=>b < w.heap.size) fun b _ hlt=>hlt
 obtain⟨R,hR⟩:∃ R,mergeL RIt.pl laterR A B=R:=⟨_,rfl⟩
 rw[hR];have HS:=ae (show MrgRel RIt.pl laterR aZ 4 108 w A B R va vb (.slice none 0 0) w from ⟨0,0,[],by omega,by omega,by simpa using ha,by simpa using hb,World.ownsRow_nil _ _ _ _,by simpa using hR,by simp,Below.refl _ _⟩);have HBet:=ae hbet;obtain⟨aa,ca,rfl,-⟩:=ha.shape;obtain⟨ab,cb,rfl,-⟩:=hb.shape;clear ha hb hR hbet
 go_enter Tryz.func103,Tryz.ntmps103
 go_wp2_with fail
 go_loopw [0,1,9] (fun s0 s1 s9 wr=>MrgRel RIt.pl laterR aZ 4 108 w A B R s0 s1 s9 wr) (fun s0 s1 _ _=>slLen s0+slLen s1)
 case atStart=>exact HS.out
 case round=>
  obtain⟨i,j,pre,hi,hj,hA,hB,hown,hR,hpl,hbw⟩:=hrel;obtain⟨a0,c0,rfl,hc0,hm0⟩:=rows_len hA;obtain⟨a1,c1,rfl,hc1,hm1⟩:=rows_len hB;obtain⟨a9,c9,hs9⟩:=own_shape hown;subst hs9
  obtain⟨na,hna⟩:∃ na,(A.drop i).length=na:=⟨_,rfl⟩
  obtain⟨nb,hnb⟩:∃ nb,(B.drop j).length=nb:=⟨_,rfl⟩
  obtain⟨np,hnp⟩:∃ np,pre.length=np:=⟨_,rfl⟩
  have HA:=ae hA;have HB:=ae hB;have HO:=ae hown;have HR:=ae hR;have Hbw:=ae hbw;rw[hna] at hc0 ⊢;rw[hnb] at hc1 ⊢;rw[hnp] at hpl ⊢;have Hna:=ae hna;have Hnb:=ae hnb;have Hnp:=ae hnp;have hna':na=A.length - i:=by rw[<- hna];simp
  have hnb':nb=B.length - j:=by rw[<- hnb];simp
  have Hna':=ae hna';have Hnb':=ae hnb';clear hA hB hown hR hna hnb hnp hbw HS hna' hnb';unfold maxLen at hm0 hm1
  by_cases h0:0 < na
  ·by_cases h1:0 < nb
   ·have h0I:(0:Int) < (na:Int):=by omega
    have h1I:(0:Int) < (nb:Int):=by omega
    have h0I2:(1:Int) <= (na:Int):=by omega
    have h1I2:(1:Int) <= (nb:Int):=by omega
    have hiA:i < A.length:=by have:=Hna'.out;omega
    have hjB:j < B.length:=by have:=Hnb'.out;omega
    have hA:=HA.out;have hB:=HB.out;obtain⟨ba,oa,rfl,hFa,hlta,hca⟩:=eE hA (by rw[Hna.out];exact h0);obtain⟨bb,ob,rfl,hFb,hltb,hcb⟩:=eE hB (by rw[Hnb.out];exact h1);obtain⟨x0,x1,x2,x3⟩:=hca 0 (by rw[Hna.out];exact h0);obtain⟨y0,y1,y2,y3⟩:=hcb 0 (by rw[Hnb.out];exact h1)
    obtain⟨x,hx⟩:∃ x,A[i]=x:=⟨_,rfl⟩
    obtain⟨y,hy⟩:∃ y,B[j]=y:=⟨_,rfl⟩
    have hx':(A.drop i)[0]'(by rw[Hna.out];exact h0)=x:=by rw[List.getElem_drop];simpa using hx
    have hy':(B.drop j)[0]'(by rw[Hnb.out];exact h1)=y:=by rw[List.getElem_drop];simpa using hy
    rw[hx'] at x0 x1 x2 x3;rw[hy'] at y0 y1 y2 y3;simp only[Nat.zero_mul,Nat.add_zero] at x0 x1 x2 x3 y0 y1 y2 y3
    have HXC:=ae (show ∀ w',aK (fun b=>w.heap.size <= b) wr w' -> (w'.cell? ⟨ba,oa,none⟩=some (.string ⟨x.key.toArray⟩) /\ w'.cell? ⟨ba,oa+1,none⟩=some (.int .i64 x.dev) /\ w'.cell? ⟨ba,oa+2,none⟩=some (.int .i64 x.seq) /\ w'.cell? ⟨ba,oa+3,none⟩=some (.int .i64 x.val)) /\ w'.cell? ⟨bb,ob,none⟩=some (.string ⟨y.key.toArray⟩) /\ w'.cell? ⟨bb,ob+1,none⟩=some (.int .i64 y.dev) /\ w'.cell? ⟨bb,ob+2,none⟩=some (.int .i64 y.seq) /\ w'.cell? ⟨bb,ob+3,none⟩=some (.int .i64 y.val) from fun w' hh=>by
     have hk:∀ (q:Nat) u,wr.cell? ⟨ba,q,none⟩=some u -> w'.cell? ⟨ba,q,none⟩=some u:=fun q u h=>by
      have hb:w'.heap[ba]?=wr.heap[ba]?:=hh.block ba hlta (by omega);unfold World.cell? at *;rw[hb];exact h
     have hk2:∀ (q:Nat) u,wr.cell? ⟨bb,q,none⟩=some u -> w'.cell? ⟨bb,q,none⟩=some u:=fun q u h=>by
      have hb:w'.heap[bb]?=wr.heap[bb]?:=hh.block bb hltb (by omega);unfold World.cell? at *;rw[hb];exact h
     exact⟨⟨hk _ _ x0,hk _ _ x1,hk _ _ x2,hk _ _ x3⟩,hk2 _ _ y0,hk2 _ _ y1,hk2 _ _ y2,hk2 _ _ y3⟩)
    have p0:∀ w',aI wr.drew w' -> w'.cell? _=_:=fun w' hh=>laterC x0 hh
    have p1:∀ w',aI wr.drew w' -> w'.cell? _=_:=fun w' hh=>laterC x1 hh
    have p2:∀ w',aI wr.drew w' -> w'.cell? _=_:=fun w' hh=>laterC x2 hh
    have q0:∀ w',aI wr.drew w' -> w'.cell? _=_:=fun w' hh=>laterC y0 hh
    have q1:∀ w',aI wr.drew w' -> w'.cell? _=_:=fun w' hh=>laterC y1 hh
    have q2:∀ w',aI wr.drew w' -> w'.cell? _=_:=fun w' hh=>laterC y2 hh
    have p3:∀ w',aI wr.drew w' -> w'.cell? _=_:=fun w' hh=>laterC x3 hh;have q3:∀ w',aI wr.drew w' -> w'.cell? _=_:=fun w' hh=>laterC y3 hh
    have HPX:=ae (fun W=>show Calls aC 104 #[.agg #[.string ⟨x.key.toArray⟩,.int .i64 x.dev,.int .i64 x.seq,.int .i64 x.val]] W _ from itPlace_any W x);have HPY:=ae (fun W=>show Calls aC 104 #[.agg #[.string ⟨y.key.toArray⟩,.int .i64 y.dev,.int .i64 y.seq,.int .i64 y.val]] W _ from itPlace_any W y);have HC:=ae (fun W=>compare_any W x.pl y.pl);have Hx:=ae hx;have Hy:=ae hy;clear hca hcb hx hy hx' hy' x0 x1 x2 x3 y0 y1 y2 y3 hA hB;go_wp2_with fail;refine aJ aI [(0,true),(1,true),(2,true),(3,true),(5,true),(6,true),(7,true),(8,true),(4,false),(9,false),(10,false),(11,true)] (by kernel_rfl) (by kernel_rfl) aH aG ?_
    repeat (refine aF (v:=?_) rfl (aD rfl) (fun w' hC=>?_) (fun K hK=>?_);rotate_left;(focus (go_simp;(try simp(disch:=omega) only[af]);first | done | exact rfl));go_simp;(try simp(disch:=omega) only[af]);refine hK _ ?_;clear hK K)
    refine aQ rfl rfl (fun KK hK=>?_);go_simp;refine(HPX.out _).mono ?_;rintro e w1 ⟨rfl,hb1⟩;refine⟨_,rfl,hb1,hK _ _ ?_⟩;clear hK KK HPX p0 p1 p2 q0 q1 q2 p3 q3;go_simp;have Hl1:=ae (show aI wr w1 from (Below.refl _ _).drew.trans hb1);clear hb1
    repeat (refine aF (v:=?_) rfl (aD rfl) (fun w' hC=>?_) (fun K hK=>?_);rotate_left;(focus (go_simp;(try simp(disch:=omega) only[af]);first | done | exact rfl));go_simp;(try simp(disch:=omega) only[af]);refine hK _ ?_;clear hK K)
    refine aQ rfl rfl (fun KK hK=>?_);go_simp;refine(HPY.out _).mono ?_;rintro e w2 ⟨rfl,hb2⟩;refine⟨_,rfl,hb2,hK _ _ ?_⟩;clear hK KK HPY;go_simp;have Hl2:=ae (aG _ _ _ Hl1.out hb2);clear hb2 Hl1
    repeat (refine aF (v:=?_) rfl (aD rfl) (fun w' hC=>?_) (fun K hK=>?_);rotate_left;(focus (go_simp;(try simp(disch:=omega) only[af]);first | done | exact rfl));go_simp;(try simp(disch:=omega) only[af]);refine hK _ ?_;clear hK K)
    refine aQ rfl rfl (fun KK hK=>?_);go_simp;refine(HC.out _).mono ?_;rintro e w3 ⟨rfl,hb3⟩;refine⟨_,rfl,hb3,hK _ _ ?_⟩;clear hK KK HC;go_simp;have hl3:aI wr w3:=aG _ _ _ Hl2.out hb3;have hb3':Below w.heap.size w w3:=Hbw.out.trans (RowKit.Below.mono hl3 Hbw.out.size);have hF3:aK (fun b=>w.heap.size <= b) wr w3:=aK.of_below hl3;obtain⟨⟨e0,e1,e2,e3⟩,g0,g1,g2,g3⟩:=HXC.out w3 hF3;have HO3:=ae (bc HO.out hl3);have HA3:=ae (HA.out.keep (w':=w3) fun b hb hlt=>RowKit.Below.block hl3 b hlt);have HB3:=ae (HB.out.keep (w':=w3) fun b hb hlt=>RowKit.Below.block hl3 b hlt);have Hl3:=ae hl3;have Hb3:=ae hb3';clear hb3 Hl2 hb3' hl3 hF3
    by_cases hlt:plt x.pl y.pl
    ·have hv:pcmp x.pl y.pl = -1:=by unfold pcmp;rw[if_pos hlt]
     rw[hv];have hmm:=merge_at_lt laterR A B i j hiA hjB (by rw[Hx.out,Hy.out];exact hlt);have Hmm:=ae hmm;clear hv hlt hmm
     repeat (refine aF (v:=?_) rfl (aD rfl) (fun w' hC=>?_) (fun K hK=>?_);rotate_left;(focus (go_simp;(try simp(disch:=omega) only[af]);first | done | exact rfl));go_simp;(try simp(disch:=omega) only[af]);refine hK _ ?_;clear hK K)
     refine aW ?_;have HX3:=ae (fun w' (hh:aK (fun b=>w.heap.size <= b) w3.drew w')=>HXC.out w' ((aK.of_below (F:=fun b=>w.heap.size <= b) Hl3.out).drew.trans hh (fun i h=>.inl h)));obtain⟨i0,t1,t2,t3,t4⟩:=info_parts infoItP;have hO3:w3.drew.ownsRow w.heap.size 108 4 (.slice a9 np c9) np (pre.flatMap aZ):=by have:=HO3.out;rw[Hnp.out] at this;exact this
     obtain⟨v5,w5,hr5,hown5,hg5⟩:=bF (P:=aC) w3.drew w.heap.size 34 108 Tryz.underlying34 t1 t2 t3 t4 rfl (by decide) (.slice a9 np c9) np _ hO3 #[.string ⟨x.key.toArray⟩,.int .i64 x.dev,.int .i64 x.seq,.int .i64 x.val] rfl (by simp[Value.oneCell']) (by unfold maxLen;omega) (by omega) (show w.heap.size <= w3.heap.size from Hb3.out.size);obtain⟨a5,c5,rfl⟩:=own_shape hown5;have k1:aP (fun b=>w.heap.size <= b) w3.drew (w3.drew.alloc (.cells #[.string ⟨x.key.toArray⟩,.int .i64 x.dev,.int .i64 x.seq,.int .i64 x.val] 108)):=aP.of_below (aE _ _);have hoA:=bc hO3 (aE w3.drew (.cells #[.string ⟨x.key.toArray⟩,.int .i64 x.dev,.int .i64 x.seq,.int .i64 x.val] 108))
     have k2:aP (fun b=>w.heap.size <= b) (w3.drew.alloc (.cells #[.string ⟨x.key.toArray⟩,.int .i64 x.dev,.int .i64 x.seq,.int .i64 x.val] 108)) w5:=⟨hg5.os,hg5.tape,hg5.output,hg5.size,fun q hq hn=>hg5.block q hq (fun e=>hn (hoA.lt q e.symm).1)⟩
     have hk5:aK (fun b=>w.heap.size <= b) w3 w5:=(aK.of_below (F:=fun b=>w.heap.size <= b) ((Below.refl _ _).drew)).trans (aK.trans k1 k2 (fun i h=>.inl h)) (fun i h=>.inl h);have hb5:Below w.heap.size w w5:=Hb3.out.trans (hk5.below (fun i h=>h) Hb3.out.size)
     obtain⟨wz,hwz⟩:∃ wz,wz=w3.drew.alloc (.cells #[.string ⟨x.key.toArray⟩,.int .i64 x.dev,.int .i64 x.seq,.int .i64 x.val] 108):=⟨_,rfl⟩
     rw[<- hwz] at hr5 k1 k2;have hr5':(AP #[34,34] 34 #[.slice a9 np c9,.slice (some ⟨w3.heap.size,0,none⟩) 1 1]).run aC wz=.ok (.slice a5 (np+1) c5) w5:=hr5;have Hown5:=ae hown5;have Hk5:=ae hk5;have Hb5:=ae hb5;have r0:∀ w',aP (fun b=>w.heap.size <= b) w3.drew w' -> w'.cell? _=_:=fun w' hh=>(HX3.out w' hh).1.1;have r1:∀ w',aP (fun b=>w.heap.size <= b) w3.drew w' -> w'.cell? _=_:=fun w' hh=>(HX3.out w' hh).1.2.1;have r2:∀ w',aP (fun b=>w.heap.size <= b) w3.drew w' -> w'.cell? _=_:=fun w' hh=>(HX3.out w' hh).1.2.2.1;have r3:∀ w',aP (fun b=>w.heap.size <= b) w3.drew w' -> w'.cell? _=_:=fun w' hh=>(HX3.out w' hh).1.2.2.2
     have Hwz:=ae hwz;clear hown5 hg5 hoA hk5 hb5 hwz hr5 t1 t2 t3 t4 hO3;go_wp2_with fail;refine aJ (aP (fun b=>w.heap.size <= b)) [(0,true),(1,true),(2,true),(3,true),(6,true),(7,true),(4,false),(5,false),(8,true),(9,true)] (by kernel_rfl) (by kernel_rfl) (bH _) (bG _) ?_
     repeat (refine aF (v:=?_) rfl (aD rfl) (fun w' hC=>?_) (fun K hK=>?_);rotate_left;(focus (go_simp;(try simp(disch:=omega) only[af]);first | done | exact rfl));go_simp;(try simp(disch:=omega) only[af]);refine hK _ ?_;clear hK K)
     generalize haN:(if c0=1 then some (⟨ba,oa,none⟩:Addr) else some ⟨ba,oa+4,none⟩)=aN at *;refine aQ rfl rfl (fun KK hK=>?_);go_simp;rw[show (w3.alloc (.cells #[.string ⟨x.key.toArray⟩,.int .i64 x.dev,.int .i64 x.seq,.int .i64 x.val] 108)).drew=wz from Hwz.out.symm]
     first | refine⟨k1,hK _ _ ?_⟩ | refine hK _ _ ?_
     clear hK KK;go_simp;refine aQ rfl rfl (fun KK hK=>?_);go_simp
     first | refine⟨k2,hK _ _ ?_⟩ | refine hK _ _ ?_
     clear hK KK r0 r1 r2 r3;go_simp
     repeat (refine aF (v:=?_) rfl (aD rfl) (fun w' hC=>?_) (fun K hK=>?_);rotate_left;(focus (go_simp;(try simp(disch:=omega) only[af]);first | done | exact rfl));go_simp;(try simp(disch:=omega) only[af]);refine hK _ ?_;clear hK K)
     refine aW ?_;go_wp2_with fail
     go_roundw
     case measure=>simp[slLen];omega
     case rel=>
      refine⟨i+1,j,pre ++ [x],by omega,hj,?_,?_,?_,?_,?_,Hb5.out⟩
      ·have h1:=HA3.out.keep (w':=w5) fun b hb hlt=>Hk5.out.block b hlt (by omega)
       rw[Hna.out] at h1;have h2:=rows_tail h1 (by omega) haN;rw[flat_tail aZ 4 br A i hiA] at h2;have h3:(A.drop (i+1)).length=na - 1:=by have:=Hna'.out;simp;omega
       rw[h3];exact h2
      ·have h1:=HB3.out.keep (w':=w5) fun b hb hlt=>Hk5.out.block b hlt (by omega)
       rw[Hnb.out] at h1 ⊢;exact h1
      ·rw[flat_snoc,ax,Hnp.out];exact Hown5.out
      ·rw[<- HR.out,Hmm.out,Hx.out];simp
      ·rw[ax,Hnp.out];simp;omega
    ·by_cases hgt:plt y.pl x.pl
     ·have hv:pcmp x.pl y.pl=1:=by unfold pcmp;rw[if_neg hlt,if_pos hgt]
      rw[hv];have hmm:=merge_at_gt laterR A B i j hiA hjB (by rw[Hx.out,Hy.out];exact hgt);have Hmm:=ae hmm;clear hv hlt hmm hgt
      repeat (refine aF (v:=?_) rfl (aD rfl) (fun w' hC=>?_) (fun K hK=>?_);rotate_left;(focus (go_simp;(try simp(disch:=omega) only[af]);first | done | exact rfl));go_simp;(try simp(disch:=omega) only[af]);refine hK _ ?_;clear hK K)
      refine aW ?_;go_wp2_with fail;have HX3:=ae (fun w' (hh:aK (fun b=>w.heap.size <= b) w3.drew w')=>HXC.out w' ((aK.of_below (F:=fun b=>w.heap.size <= b) Hl3.out).drew.trans hh (fun i h=>.inl h)));obtain⟨i0,t1,t2,t3,t4⟩:=info_parts infoItP;have hO3:w3.drew.ownsRow w.heap.size 108 4 (.slice a9 np c9) np (pre.flatMap aZ):=by have:=HO3.out;rw[Hnp.out] at this;exact this
      obtain⟨v5,w5,hr5,hown5,hg5⟩:=bF (P:=aC) w3.drew w.heap.size 34 108 Tryz.underlying34 t1 t2 t3 t4 rfl (by decide) (.slice a9 np c9) np _ hO3 #[.string ⟨y.key.toArray⟩,.int .i64 y.dev,.int .i64 y.seq,.int .i64 y.val] rfl (by simp[Value.oneCell']) (by unfold maxLen;omega) (by omega) (show w.heap.size <= w3.heap.size from Hb3.out.size);obtain⟨a5,c5,rfl⟩:=own_shape hown5;have k1:aP (fun b=>w.heap.size <= b) w3.drew (w3.drew.alloc (.cells #[.string ⟨y.key.toArray⟩,.int .i64 y.dev,.int .i64 y.seq,.int .i64 y.val] 108)):=aP.of_below (aE _ _);have hoA:=bc hO3 (aE w3.drew (.cells #[.string ⟨y.key.toArray⟩,.int .i64 y.dev,.int .i64 y.seq,.int .i64 y.val] 108))
      have k2:aP (fun b=>w.heap.size <= b) (w3.drew.alloc (.cells #[.string ⟨y.key.toArray⟩,.int .i64 y.dev,.int .i64 y.seq,.int .i64 y.val] 108)) w5:=⟨hg5.os,hg5.tape,hg5.output,hg5.size,fun q hq hn=>hg5.block q hq (fun e=>hn (hoA.lt q e.symm).1)⟩
      have hk5:aK (fun b=>w.heap.size <= b) w3 w5:=(aK.of_below (F:=fun b=>w.heap.size <= b) ((Below.refl _ _).drew)).trans (aK.trans k1 k2 (fun i h=>.inl h)) (fun i h=>.inl h);have hb5:Below w.heap.size w w5:=Hb3.out.trans (hk5.below (fun i h=>h) Hb3.out.size)
      obtain⟨wz,hwz⟩:∃ wz,wz=w3.drew.alloc (.cells #[.string ⟨y.key.toArray⟩,.int .i64 y.dev,.int .i64 y.seq,.int .i64 y.val] 108):=⟨_,rfl⟩
      rw[<- hwz] at hr5 k1 k2;have hr5':(AP #[34,34] 34 #[.slice a9 np c9,.slice (some ⟨w3.heap.size,0,none⟩) 1 1]).run aC wz=.ok (.slice a5 (np+1) c5) w5:=hr5;have Hown5:=ae hown5;have Hk5:=ae hk5;have Hb5:=ae hb5;have r0:∀ w',aP (fun b=>w.heap.size <= b) w3.drew w' -> w'.cell? _=_:=fun w' hh=>(HX3.out w' hh).2.1;have r1:∀ w',aP (fun b=>w.heap.size <= b) w3.drew w' -> w'.cell? _=_:=fun w' hh=>(HX3.out w' hh).2.2.1;have r2:∀ w',aP (fun b=>w.heap.size <= b) w3.drew w' -> w'.cell? _=_:=fun w' hh=>(HX3.out w' hh).2.2.2.1;have r3:∀ w',aP (fun b=>w.heap.size <= b) w3.drew w' -> w'.cell? _=_:=fun w' hh=>(HX3.out w' hh).2.2.2.2
      have Hwz:=ae hwz;clear hown5 hg5 hoA hk5 hb5 hwz hr5 t1 t2 t3 t4 hO3;go_wp2_with fail;refine aJ (aP (fun b=>w.heap.size <= b)) [(0,true),(1,true),(2,true),(3,true),(6,true),(7,true),(4,false),(5,false),(8,true),(9,true)] (by kernel_rfl) (by kernel_rfl) (bH _) (bG _) ?_
      repeat (refine aF (v:=?_) rfl (aD rfl) (fun w' hC=>?_) (fun K hK=>?_);rotate_left;(focus (go_simp;(try simp(disch:=omega) only[af]);first | done | exact rfl));go_simp;(try simp(disch:=omega) only[af]);refine hK _ ?_;clear hK K)
      generalize hbN:(if c1=1 then some (⟨bb,ob,none⟩:Addr) else some ⟨bb,ob+4,none⟩)=bN at *;refine aQ rfl rfl (fun KK hK=>?_);go_simp;rw[show (w3.alloc (.cells #[.string ⟨y.key.toArray⟩,.int .i64 y.dev,.int .i64 y.seq,.int .i64 y.val] 108)).drew=wz from Hwz.out.symm]
      first | refine⟨k1,hK _ _ ?_⟩ | refine hK _ _ ?_
      clear hK KK;go_simp;refine aQ rfl rfl (fun KK hK=>?_);go_simp
      first | refine⟨k2,hK _ _ ?_⟩ | refine hK _ _ ?_
      clear hK KK r0 r1 r2 r3;go_simp
      repeat (refine aF (v:=?_) rfl (aD rfl) (fun w' hC=>?_) (fun K hK=>?_);rotate_left;(focus (go_simp;(try simp(disch:=omega) only[af]);first | done | exact rfl));go_simp;(try simp(disch:=omega) only[af]);refine hK _ ?_;clear hK K)
      refine aW ?_;go_wp2_with fail
      go_roundw
      case measure=>simp[slLen];omega
      case rel=>
       refine⟨i,j+1,pre ++ [y],hi,by omega,?_,?_,?_,?_,?_,Hb5.out⟩
       ·have h1:=HA3.out.keep (w':=w5) fun b hb hlt=>Hk5.out.block b hlt (by omega)
        rw[Hna.out] at h1 ⊢;exact h1
       ·have h1:=HB3.out.keep (w':=w5) fun b hb hlt=>Hk5.out.block b hlt (by omega)
        rw[Hnb.out] at h1;have h2:=rows_tail h1 (by omega) hbN;rw[flat_tail aZ 4 br B j hjB] at h2;have h3:(B.drop (j+1)).length=nb - 1:=by have:=Hnb'.out;simp;omega
        rw[h3];exact h2
       ·rw[flat_snoc,ax,Hnp.out];exact Hown5.out
       ·rw[<- HR.out,Hmm.out,Hy.out];simp
       ·rw[ax,Hnp.out];simp;omega
     ·have hxy:=plt_tri hlt hgt;have hv:pcmp x.pl y.pl=0:=by unfold pcmp;rw[if_neg hlt,if_neg hgt]
      rw[hv];have hmm:=merge_at_eq laterR A B i j hiA hjB (by rw[Hx.out,Hy.out];exact hxy);rw[Hx.out,Hy.out] at hmm;have hbt:=HBet.out x (by rw[<- Hx.out];exact aA hiA) y (by rw[<- Hy.out];exact aA hjB) hxy w3.drew Hb3.out.drew
      obtain⟨z,hz⟩:∃ z,laterR x y=z:=⟨_,rfl⟩
      rw[hz] at hbt hmm;have HBt:=ae (show Calls aC 115 #[.agg #[.string ⟨x.key.toArray⟩,.int .i64 x.dev,.int .i64 x.seq,.int .i64 x.val],.agg #[.string ⟨y.key.toArray⟩,.int .i64 y.dev,.int .i64 y.seq,.int .i64 y.val]] w3.drew _ from hbt);have Hmm:=ae hmm;have HX3:=ae (fun w' (hh:aK (fun b=>w.heap.size <= b) w3.drew w')=>HXC.out w' ((aK.of_below (F:=fun b=>w.heap.size <= b) Hl3.out).drew.trans hh (fun i h=>.inl h)));have r0:∀ w',aP (fun b=>w.heap.size <= b) w3.drew w' -> w'.cell? _=_:=fun w' hh=>(HX3.out w' hh).1.1;have r1:∀ w',aP (fun b=>w.heap.size <= b) w3.drew w' -> w'.cell? _=_:=fun w' hh=>(HX3.out w' hh).1.2.1;have r2:∀ w',aP (fun b=>w.heap.size <= b) w3.drew w' -> w'.cell? _=_:=fun w' hh=>(HX3.out w' hh).1.2.2.1;have r3:∀ w',aP (fun b=>w.heap.size <= b) w3.drew w' -> w'.cell? _=_:=fun w' hh=>(HX3.out w' hh).1.2.2.2
      have u0:∀ w',aP (fun b=>w.heap.size <= b) w3.drew w' -> w'.cell? _=_:=fun w' hh=>(HX3.out w' hh).2.1;have u1:∀ w',aP (fun b=>w.heap.size <= b) w3.drew w' -> w'.cell? _=_:=fun w' hh=>(HX3.out w' hh).2.2.1;have u2:∀ w',aP (fun b=>w.heap.size <= b) w3.drew w' -> w'.cell? _=_:=fun w' hh=>(HX3.out w' hh).2.2.2.1;have u3:∀ w',aP (fun b=>w.heap.size <= b) w3.drew w' -> w'.cell? _=_:=fun w' hh=>(HX3.out w' hh).2.2.2.2
      clear hv hlt hmm hgt hbt hxy
      repeat (refine aF (v:=?_) rfl (aD rfl) (fun w' hC=>?_) (fun K hK=>?_);rotate_left;(focus (go_simp;(try simp(disch:=omega) only[af]);first | done | exact rfl));go_simp;(try simp(disch:=omega) only[af]);refine hK _ ?_;clear hK K)
      refine aW ?_;go_wp2_with fail;refine aJ (aP (fun b=>w.heap.size <= b)) [(0,true),(1,true),(2,true),(3,true),(4,true),(5,true),(6,true),(7,true),(11,true),(12,true),(13,true),(14,true),(8,false),(9,false),(10,false),(15,true),(16,true),(17,true)] (by kernel_rfl) (by kernel_rfl) (bH _) (bG _) ?_
      repeat (refine aF (v:=?_) rfl (aD rfl) (fun w' hC=>?_) (fun K hK=>?_);rotate_left;(focus (go_simp;(try simp(disch:=omega) only[af]);first | done | exact rfl));go_simp;(try simp(disch:=omega) only[af]);refine hK _ ?_;clear hK K)
      generalize haN:(if c0=1 then some (⟨ba,oa,none⟩:Addr) else some ⟨ba,oa+4,none⟩)=aN at *;generalize hbN:(if c1=1 then some (⟨bb,ob,none⟩:Addr) else some ⟨bb,ob+4,none⟩)=bN at *;refine aQ rfl rfl (fun KK hK=>?_);go_simp;refine HBt.out.mono ?_;rintro e w4 ⟨rfl,hb4⟩;refine⟨_,rfl,aP.of_below hb4,hK _ _ ?_⟩;clear hK KK HBt r0 r1 r2 r3 u0 u1 u2 u3;go_simp;simp only[itV];have hl4:aI w3 w4:=(Below.refl _ _).drew.trans hb4;have hb4':Below w.heap.size w w4:=Hb3.out.trans (RowKit.Below.mono hl4 Hb3.out.size);obtain⟨i0,t1,t2,t3,t4⟩:=info_parts infoItP;have hO4:w4.ownsRow w.heap.size 108 4 (.slice a9 np c9) np (pre.flatMap aZ):=by have:=bc HO3.out hl4;rw[Hnp.out] at this;exact this
      obtain⟨v5,w5,hr5,hown5,hg5⟩:=bF (P:=aC) w4 w.heap.size 34 108 Tryz.underlying34 t1 t2 t3 t4 rfl (by decide) (.slice a9 np c9) np _ hO4 #[.string ⟨z.key.toArray⟩,.int .i64 z.dev,.int .i64 z.seq,.int .i64 z.val] rfl (by simp[Value.oneCell']) (by unfold maxLen;omega) (by omega) hb4'.size;obtain⟨a5,c5,rfl⟩:=own_shape hown5;have k1:aP (fun b=>w.heap.size <= b) w4 (w4.alloc (.cells #[.string ⟨z.key.toArray⟩,.int .i64 z.dev,.int .i64 z.seq,.int .i64 z.val] 108)):=aP.of_below (aE _ _);have hoA:=bc hO4 (aE w4 (.cells #[.string ⟨z.key.toArray⟩,.int .i64 z.dev,.int .i64 z.seq,.int .i64 z.val] 108))
      have k2:aP (fun b=>w.heap.size <= b) (w4.alloc (.cells #[.string ⟨z.key.toArray⟩,.int .i64 z.dev,.int .i64 z.seq,.int .i64 z.val] 108)) w5:=⟨hg5.os,hg5.tape,hg5.output,hg5.size,fun q hq hn=>hg5.block q hq (fun e=>hn (hoA.lt q e.symm).1)⟩
      have hk5:aK (fun b=>w.heap.size <= b) w3 w5:=(aK.of_below (F:=fun b=>w.heap.size <= b) hl4).trans (aK.trans k1 k2 (fun i h=>.inl h)) (fun i h=>.inl h);have hb5:Below w.heap.size w w5:=Hb3.out.trans (hk5.below (fun i h=>h) Hb3.out.size);have Hown5:=ae hown5;have Hk5:=ae hk5;have Hb5:=ae hb5;clear hown5 hg5 hoA hk5 hb5 t1 t2 t3 t4 hO4 hb4 hl4 hb4';refine aQ rfl rfl (fun KK hK=>?_);go_simp
      first | refine⟨k1,hK _ _ ?_⟩ | refine hK _ _ ?_
      clear hK KK;go_simp;refine aQ rfl rfl (fun KK hK=>?_);go_simp
      first | refine⟨k2,hK _ _ ?_⟩ | refine hK _ _ ?_
      clear hK KK;go_simp
      repeat (refine aF (v:=?_) rfl (aD rfl) (fun w' hC=>?_) (fun K hK=>?_);rotate_left;(focus (go_simp;(try simp(disch:=omega) only[af]);first | done | exact rfl));go_simp;(try simp(disch:=omega) only[af]);refine hK _ ?_;clear hK K)
      refine aW ?_;go_wp2_with fail
      go_roundw
      case measure=>simp[slLen];omega
      case rel=>
       refine⟨i+1,j+1,pre ++ [z],by omega,by omega,?_,?_,?_,?_,?_,Hb5.out⟩
       ·have h1:=HA3.out.keep (w':=w5) fun b hb hlt=>Hk5.out.block b hlt (by omega)
        rw[Hna.out] at h1;have h2:=rows_tail h1 (by omega) haN;rw[flat_tail aZ 4 br A i hiA] at h2;have h3:(A.drop (i+1)).length=na - 1:=by have:=Hna'.out;simp;omega
        rw[h3];exact h2
       ·have h1:=HB3.out.keep (w':=w5) fun b hb hlt=>Hk5.out.block b hlt (by omega)
        rw[Hnb.out] at h1;have h2:=rows_tail h1 (by omega) hbN;rw[flat_tail aZ 4 br B j hjB] at h2;have h3:(B.drop (j+1)).length=nb - 1:=by have:=Hnb'.out;simp;omega
        rw[h3];exact h2
       ·rw[flat_snoc,ax,Hnp.out];exact Hown5.out
       ·rw[<- HR.out,Hmm.out];simp
       ·rw[ax,Hnp.out];simp;omega
   ·have hfin:=merge_end (pl:=RIt.pl) laterR A B i j (by have:=Hnb'.out;omega);obtain⟨i0,t1,t2,t3,t4⟩:=info_parts infoItP;have hO:=HO.out;rw[Hnp.out] at hO;have hA:=HA.out;rw[Hna.out] at hA;have hB:=HB.out;rw[Hnb.out] at hB;have Hi:=ae hi;have Hj:=ae hj;obtain⟨v5,w5,hr5,hown5,hg5⟩:=bw (P:=aC) wr w.heap.size 34 108 Tryz.underlying34 t1 t2 t3 t4 rfl (by decide) (.slice a9 np c9) np _ hO (fun b=>b < w.heap.size) _ na _ hA (dS _) (by have:=Hna'.out;unfold maxLen;omega) (by have:=Hna'.out;omega) Hbw.out.size;obtain⟨a5,c5,rfl⟩:=own_shape hown5;have hb5:Below w.heap.size wr w5:=Below.grownOwn hO hg5 Hbw.out.size (aq _);have hB5:=hB.keep (w':=w5) fun b hb hlt=>hb5.block b hb
    obtain⟨v6,w6,hr6,hown6,hg6⟩:=bw (P:=aC) w5 w.heap.size 34 108 Tryz.underlying34 t1 t2 t3 t4 rfl (by decide) (.slice a5 (np+na) c5) (np+na) _ hown5 (fun b=>b < w.heap.size) _ nb _ hB5 (dS _) (by have:=Hna'.out;have:=Hnb'.out;unfold maxLen;omega) (by have:=Hna'.out;have:=Hnb'.out;omega) (au Hbw.out.size hb5.size);obtain⟨a6,c6,rfl⟩:=own_shape hown6;have hb6:Below w.heap.size wr w6:=hb5.trans (Below.grownOwn hown5 hg6 (au Hbw.out.size hb5.size) (aq _));have Hb6:=ae (Hbw.out.trans hb6)
    have Hown6:=ae (show w6.ownsRow w.heap.size 108 4 (.slice a6 (np+na+nb) c6) R.length (R.flatMap aZ) by
     rw[<- HR.out,hfin];have h1:(pre ++ (A.drop i ++ B.drop j)).length=np+na+nb:=by rw[ax,ax,Hnp.out,Hna.out,Hnb.out];omega
     rw[h1]
     simpa[az] using hown6)
    clear hb5 hb6 hown5 hown6 hg5 hg6 hB5 hA hB hO hfin t1 t2 t3 t4 hi hj;go_wp2_with fail
    go_ret
    exact⟨_,rfl,Hown6.out,Hb6.out⟩
  ·have hfin:=merge_end (pl:=RIt.pl) laterR A B i j (by have:=Hna'.out;omega);obtain⟨i0,t1,t2,t3,t4⟩:=info_parts infoItP;have hO:=HO.out;rw[Hnp.out] at hO;have hA:=HA.out;rw[Hna.out] at hA;have hB:=HB.out;rw[Hnb.out] at hB;have Hi:=ae hi;have Hj:=ae hj;obtain⟨v5,w5,hr5,hown5,hg5⟩:=bw (P:=aC) wr w.heap.size 34 108 Tryz.underlying34 t1 t2 t3 t4 rfl (by decide) (.slice a9 np c9) np _ hO (fun b=>b < w.heap.size) _ na _ hA (dS _) (by have:=Hna'.out;unfold maxLen;omega) (by have:=Hna'.out;omega) Hbw.out.size;obtain⟨a5,c5,rfl⟩:=own_shape hown5;have hb5:Below w.heap.size wr w5:=Below.grownOwn hO hg5 Hbw.out.size (aq _);have hB5:=hB.keep (w':=w5) fun b hb hlt=>hb5.block b hb
   obtain⟨v6,w6,hr6,hown6,hg6⟩:=bw (P:=aC) w5 w.heap.size 34 108 Tryz.underlying34 t1 t2 t3 t4 rfl (by decide) (.slice a5 (np+na) c5) (np+na) _ hown5 (fun b=>b < w.heap.size) _ nb _ hB5 (dS _) (by have:=Hna'.out;have:=Hnb'.out;unfold maxLen;omega) (by have:=Hna'.out;have:=Hnb'.out;omega) (au Hbw.out.size hb5.size);obtain⟨a6,c6,rfl⟩:=own_shape hown6;have hb6:Below w.heap.size wr w6:=hb5.trans (Below.grownOwn hown5 hg6 (au Hbw.out.size hb5.size) (aq _));have Hb6:=ae (Hbw.out.trans hb6)
   have Hown6:=ae (show w6.ownsRow w.heap.size 108 4 (.slice a6 (np+na+nb) c6) R.length (R.flatMap aZ) by
    rw[<- HR.out,hfin];have h1:(pre ++ (A.drop i ++ B.drop j)).length=np+na+nb:=by rw[ax,ax,Hnp.out,Hna.out,Hnb.out];omega
    rw[h1]
    simpa[az] using hown6)
   clear hb5 hb6 hown5 hown6 hg5 hg6 hB5 hA hB hO hfin t1 t2 t3 t4 hi hj;go_wp2_with fail
   go_ret
   exact⟨_,rfl,Hown6.out,Hb6.out⟩
set_option maxRecDepth 100000 in
set_option maxHeartbeats 6000000 in
theorem mergeIt_use (w:World) (nw:Nat) (now:Int) (F G:aV) (va vb:Value) (A B:List RIt) (ha:Rows F w 4 va A.length (A.flatMap aZ)) (hb:Rows G w 4 vb B.length (B.flatMap aZ)) (hlA:A.length <= 1000000) (hlB:B.length <= 1000000)
 (hbet:∀ x ∈ A,∀ y ∈ B,RIt.pl x=RIt.pl y -> ∀ W,Below w.heap.size w W -> Calls aC 105 #[itV x,itV y,.pointer (some ⟨nw,0,none⟩)] W fun e w'=>e=.returned (itV ((useBetter now) x y)) /\ Below W.heap.size W w'):
 Calls aC 103 #[va,vb,.func (.func 104) #[] #[],.func (.func 105) #[] #[.pointer (some ⟨nw,0,none⟩)]] w fun e w'=>
  ∃ r,e=.returned r /\ w'.ownsRow w.heap.size 108 4 r (mergeL RIt.pl (useBetter now) A B).length ((mergeL RIt.pl (useBetter now) A B).flatMap aZ) /\ Below w.heap.size w w':=by
 replace ha:=ha.mono (G:=fun b=>b < w.heap.size) fun b _ hlt=>hlt
 replace hb:=hb.mono (G:=fun b=>b < w.heap.size) fun b _ hlt=>hlt
 obtain⟨R,hR⟩:∃ R,mergeL RIt.pl (useBetter now) A B=R:=⟨_,rfl⟩
 rw[hR];have HS:=ae (show MrgRel RIt.pl (useBetter now) aZ 4 108 w A B R va vb (.slice none 0 0) w from ⟨0,0,[],by omega,by omega,by simpa using ha,by simpa using hb,World.ownsRow_nil _ _ _ _,by simpa using hR,by simp,Below.refl _ _⟩);have HBet:=ae hbet;obtain⟨aa,ca,rfl,-⟩:=ha.shape;obtain⟨ab,cb,rfl,-⟩:=hb.shape;clear ha hb hR hbet
 go_enter Tryz.func103,Tryz.ntmps103
 go_wp2_with fail
 go_loopw [0,1,9] (fun s0 s1 s9 wr=>MrgRel RIt.pl (useBetter now) aZ 4 108 w A B R s0 s1 s9 wr) (fun s0 s1 _ _=>slLen s0+slLen s1)
 case atStart=>exact HS.out
 case round=>
  obtain⟨i,j,pre,hi,hj,hA,hB,hown,hR,hpl,hbw⟩:=hrel;obtain⟨a0,c0,rfl,hc0,hm0⟩:=rows_len hA;obtain⟨a1,c1,rfl,hc1,hm1⟩:=rows_len hB;obtain⟨a9,c9,hs9⟩:=own_shape hown;subst hs9
  obtain⟨na,hna⟩:∃ na,(A.drop i).length=na:=⟨_,rfl⟩
  obtain⟨nb,hnb⟩:∃ nb,(B.drop j).length=nb:=⟨_,rfl⟩
  obtain⟨np,hnp⟩:∃ np,pre.length=np:=⟨_,rfl⟩
  have HA:=ae hA;have HB:=ae hB;have HO:=ae hown;have HR:=ae hR;have Hbw:=ae hbw;rw[hna] at hc0 ⊢;rw[hnb] at hc1 ⊢;rw[hnp] at hpl ⊢;have Hna:=ae hna;have Hnb:=ae hnb;have Hnp:=ae hnp;have hna':na=A.length - i:=by rw[<- hna];simp
  have hnb':nb=B.length - j:=by rw[<- hnb];simp
  have Hna':=ae hna';have Hnb':=ae hnb';clear hA hB hown hR hna hnb hnp hbw HS hna' hnb';unfold maxLen at hm0 hm1
  by_cases h0:0 < na
  ·by_cases h1:0 < nb
   ·have h0I:(0:Int) < (na:Int):=by omega
    have h1I:(0:Int) < (nb:Int):=by omega
    have h0I2:(1:Int) <= (na:Int):=by omega
    have h1I2:(1:Int) <= (nb:Int):=by omega
    have hiA:i < A.length:=by have:=Hna'.out;omega
    have hjB:j < B.length:=by have:=Hnb'.out;omega
    have hA:=HA.out;have hB:=HB.out;obtain⟨ba,oa,rfl,hFa,hlta,hca⟩:=eE hA (by rw[Hna.out];exact h0);obtain⟨bb,ob,rfl,hFb,hltb,hcb⟩:=eE hB (by rw[Hnb.out];exact h1);obtain⟨x0,x1,x2,x3⟩:=hca 0 (by rw[Hna.out];exact h0);obtain⟨y0,y1,y2,y3⟩:=hcb 0 (by rw[Hnb.out];exact h1)
    obtain⟨x,hx⟩:∃ x,A[i]=x:=⟨_,rfl⟩
    obtain⟨y,hy⟩:∃ y,B[j]=y:=⟨_,rfl⟩
    have hx':(A.drop i)[0]'(by rw[Hna.out];exact h0)=x:=by rw[List.getElem_drop];simpa using hx
    have hy':(B.drop j)[0]'(by rw[Hnb.out];exact h1)=y:=by rw[List.getElem_drop];simpa using hy
    rw[hx'] at x0 x1 x2 x3;rw[hy'] at y0 y1 y2 y3;simp only[Nat.zero_mul,Nat.add_zero] at x0 x1 x2 x3 y0 y1 y2 y3
    have HXC:=ae (show ∀ w',aK (fun b=>w.heap.size <= b) wr w' -> (w'.cell? ⟨ba,oa,none⟩=some (.string ⟨x.key.toArray⟩) /\ w'.cell? ⟨ba,oa+1,none⟩=some (.int .i64 x.dev) /\ w'.cell? ⟨ba,oa+2,none⟩=some (.int .i64 x.seq) /\ w'.cell? ⟨ba,oa+3,none⟩=some (.int .i64 x.val)) /\ w'.cell? ⟨bb,ob,none⟩=some (.string ⟨y.key.toArray⟩) /\ w'.cell? ⟨bb,ob+1,none⟩=some (.int .i64 y.dev) /\ w'.cell? ⟨bb,ob+2,none⟩=some (.int .i64 y.seq) /\ w'.cell? ⟨bb,ob+3,none⟩=some (.int .i64 y.val) from fun w' hh=>by
     have hk:∀ (q:Nat) u,wr.cell? ⟨ba,q,none⟩=some u -> w'.cell? ⟨ba,q,none⟩=some u:=fun q u h=>by
      have hb:w'.heap[ba]?=wr.heap[ba]?:=hh.block ba hlta (by omega);unfold World.cell? at *;rw[hb];exact h
     have hk2:∀ (q:Nat) u,wr.cell? ⟨bb,q,none⟩=some u -> w'.cell? ⟨bb,q,none⟩=some u:=fun q u h=>by
      have hb:w'.heap[bb]?=wr.heap[bb]?:=hh.block bb hltb (by omega);unfold World.cell? at *;rw[hb];exact h
     exact⟨⟨hk _ _ x0,hk _ _ x1,hk _ _ x2,hk _ _ x3⟩,hk2 _ _ y0,hk2 _ _ y1,hk2 _ _ y2,hk2 _ _ y3⟩)
    have p0:∀ w',aI wr.drew w' -> w'.cell? _=_:=fun w' hh=>laterC x0 hh
    have p1:∀ w',aI wr.drew w' -> w'.cell? _=_:=fun w' hh=>laterC x1 hh
    have p2:∀ w',aI wr.drew w' -> w'.cell? _=_:=fun w' hh=>laterC x2 hh
    have q0:∀ w',aI wr.drew w' -> w'.cell? _=_:=fun w' hh=>laterC y0 hh
    have q1:∀ w',aI wr.drew w' -> w'.cell? _=_:=fun w' hh=>laterC y1 hh
    have q2:∀ w',aI wr.drew w' -> w'.cell? _=_:=fun w' hh=>laterC y2 hh
    have p3:∀ w',aI wr.drew w' -> w'.cell? _=_:=fun w' hh=>laterC x3 hh;have q3:∀ w',aI wr.drew w' -> w'.cell? _=_:=fun w' hh=>laterC y3 hh
    have HPX:=ae (fun W=>show Calls aC 104 #[.agg #[.string ⟨x.key.toArray⟩,.int .i64 x.dev,.int .i64 x.seq,.int .i64 x.val]] W _ from itPlace_any W x);have HPY:=ae (fun W=>show Calls aC 104 #[.agg #[.string ⟨y.key.toArray⟩,.int .i64 y.dev,.int .i64 y.seq,.int .i64 y.val]] W _ from itPlace_any W y);have HC:=ae (fun W=>compare_any W x.pl y.pl);have Hx:=ae hx;have Hy:=ae hy;clear hca hcb hx hy hx' hy' x0 x1 x2 x3 y0 y1 y2 y3 hA hB;go_wp2_with fail;refine aJ aI [(0,true),(1,true),(2,true),(3,true),(5,true),(6,true),(7,true),(8,true),(4,false),(9,false),(10,false),(11,true)] (by kernel_rfl) (by kernel_rfl) aH aG ?_
    repeat (refine aF (v:=?_) rfl (aD rfl) (fun w' hC=>?_) (fun K hK=>?_);rotate_left;(focus (go_simp;(try simp(disch:=omega) only[af]);first | done | exact rfl));go_simp;(try simp(disch:=omega) only[af]);refine hK _ ?_;clear hK K)
    refine aQ rfl rfl (fun KK hK=>?_);go_simp;refine(HPX.out _).mono ?_;rintro e w1 ⟨rfl,hb1⟩;refine⟨_,rfl,hb1,hK _ _ ?_⟩;clear hK KK HPX p0 p1 p2 q0 q1 q2 p3 q3;go_simp;have Hl1:=ae (show aI wr w1 from (Below.refl _ _).drew.trans hb1);clear hb1
    repeat (refine aF (v:=?_) rfl (aD rfl) (fun w' hC=>?_) (fun K hK=>?_);rotate_left;(focus (go_simp;(try simp(disch:=omega) only[af]);first | done | exact rfl));go_simp;(try simp(disch:=omega) only[af]);refine hK _ ?_;clear hK K)
    refine aQ rfl rfl (fun KK hK=>?_);go_simp;refine(HPY.out _).mono ?_;rintro e w2 ⟨rfl,hb2⟩;refine⟨_,rfl,hb2,hK _ _ ?_⟩;clear hK KK HPY;go_simp;have Hl2:=ae (aG _ _ _ Hl1.out hb2);clear hb2 Hl1
    repeat (refine aF (v:=?_) rfl (aD rfl) (fun w' hC=>?_) (fun K hK=>?_);rotate_left;(focus (go_simp;(try simp(disch:=omega) only[af]);first | done | exact rfl));go_simp;(try simp(disch:=omega) only[af]);refine hK _ ?_;clear hK K)
    refine aQ rfl rfl (fun KK hK=>?_);go_simp;refine(HC.out _).mono ?_;rintro e w3 ⟨rfl,hb3⟩;refine⟨_,rfl,hb3,hK _ _ ?_⟩;clear hK KK HC;go_simp;have hl3:aI wr w3:=aG _ _ _ Hl2.out hb3;have hb3':Below w.heap.size w w3:=Hbw.out.trans (RowKit.Below.mono hl3 Hbw.out.size);have hF3:aK (fun b=>w.heap.size <= b) wr w3:=aK.of_below hl3;obtain⟨⟨e0,e1,e2,e3⟩,g0,g1,g2,g3⟩:=HXC.out w3 hF3;have HO3:=ae (bc HO.out hl3);have HA3:=ae (HA.out.keep (w':=w3) fun b hb hlt=>RowKit.Below.block hl3 b hlt);have HB3:=ae (HB.out.keep (w':=w3) fun b hb hlt=>RowKit.Below.block hl3 b hlt);have Hl3:=ae hl3;have Hb3:=ae hb3';clear hb3 Hl2 hb3' hl3 hF3
    by_cases hlt:plt x.pl y.pl
    ·have hv:pcmp x.pl y.pl = -1:=by unfold pcmp;rw[if_pos hlt]
     rw[hv];have hmm:=merge_at_lt (useBetter now) A B i j hiA hjB (by rw[Hx.out,Hy.out];exact hlt);have Hmm:=ae hmm;clear hv hlt hmm
     repeat (refine aF (v:=?_) rfl (aD rfl) (fun w' hC=>?_) (fun K hK=>?_);rotate_left;(focus (go_simp;(try simp(disch:=omega) only[af]);first | done | exact rfl));go_simp;(try simp(disch:=omega) only[af]);refine hK _ ?_;clear hK K)
     refine aW ?_;have HX3:=ae (fun w' (hh:aK (fun b=>w.heap.size <= b) w3.drew w')=>HXC.out w' ((aK.of_below (F:=fun b=>w.heap.size <= b) Hl3.out).drew.trans hh (fun i h=>.inl h)));obtain⟨i0,t1,t2,t3,t4⟩:=info_parts infoItP;have hO3:w3.drew.ownsRow w.heap.size 108 4 (.slice a9 np c9) np (pre.flatMap aZ):=by have:=HO3.out;rw[Hnp.out] at this;exact this
     obtain⟨v5,w5,hr5,hown5,hg5⟩:=bF (P:=aC) w3.drew w.heap.size 34 108 Tryz.underlying34 t1 t2 t3 t4 rfl (by decide) (.slice a9 np c9) np _ hO3 #[.string ⟨x.key.toArray⟩,.int .i64 x.dev,.int .i64 x.seq,.int .i64 x.val] rfl (by simp[Value.oneCell']) (by unfold maxLen;omega) (by omega) (show w.heap.size <= w3.heap.size from Hb3.out.size);obtain⟨a5,c5,rfl⟩:=own_shape hown5;have k1:aP (fun b=>w.heap.size <= b) w3.drew (w3.drew.alloc (.cells #[.string ⟨x.key.toArray⟩,.int .i64 x.dev,.int .i64 x.seq,.int .i64 x.val] 108)):=aP.of_below (aE _ _);have hoA:=bc hO3 (aE w3.drew (.cells #[.string ⟨x.key.toArray⟩,.int .i64 x.dev,.int .i64 x.seq,.int .i64 x.val] 108))
     have k2:aP (fun b=>w.heap.size <= b) (w3.drew.alloc (.cells #[.string ⟨x.key.toArray⟩,.int .i64 x.dev,.int .i64 x.seq,.int .i64 x.val] 108)) w5:=⟨hg5.os,hg5.tape,hg5.output,hg5.size,fun q hq hn=>hg5.block q hq (fun e=>hn (hoA.lt q e.symm).1)⟩
     have hk5:aK (fun b=>w.heap.size <= b) w3 w5:=(aK.of_below (F:=fun b=>w.heap.size <= b) ((Below.refl _ _).drew)).trans (aK.trans k1 k2 (fun i h=>.inl h)) (fun i h=>.inl h);have hb5:Below w.heap.size w w5:=Hb3.out.trans (hk5.below (fun i h=>h) Hb3.out.size)
     obtain⟨wz,hwz⟩:∃ wz,wz=w3.drew.alloc (.cells #[.string ⟨x.key.toArray⟩,.int .i64 x.dev,.int .i64 x.seq,.int .i64 x.val] 108):=⟨_,rfl⟩
     rw[<- hwz] at hr5 k1 k2;have hr5':(AP #[34,34] 34 #[.slice a9 np c9,.slice (some ⟨w3.heap.size,0,none⟩) 1 1]).run aC wz=.ok (.slice a5 (np+1) c5) w5:=hr5;have Hown5:=ae hown5;have Hk5:=ae hk5;have Hb5:=ae hb5;have r0:∀ w',aP (fun b=>w.heap.size <= b) w3.drew w' -> w'.cell? _=_:=fun w' hh=>(HX3.out w' hh).1.1;have r1:∀ w',aP (fun b=>w.heap.size <= b) w3.drew w' -> w'.cell? _=_:=fun w' hh=>(HX3.out w' hh).1.2.1;have r2:∀ w',aP (fun b=>w.heap.size <= b) w3.drew w' -> w'.cell? _=_:=fun w' hh=>(HX3.out w' hh).1.2.2.1;have r3:∀ w',aP (fun b=>w.heap.size <= b) w3.drew w' -> w'.cell? _=_:=fun w' hh=>(HX3.out w' hh).1.2.2.2
     have Hwz:=ae hwz;clear hown5 hg5 hoA hk5 hb5 hwz hr5 t1 t2 t3 t4 hO3;go_wp2_with fail;refine aJ (aP (fun b=>w.heap.size <= b)) [(0,true),(1,true),(2,true),(3,true),(6,true),(7,true),(4,false),(5,false),(8,true),(9,true)] (by kernel_rfl) (by kernel_rfl) (bH _) (bG _) ?_
     repeat (refine aF (v:=?_) rfl (aD rfl) (fun w' hC=>?_) (fun K hK=>?_);rotate_left;(focus (go_simp;(try simp(disch:=omega) only[af]);first | done | exact rfl));go_simp;(try simp(disch:=omega) only[af]);refine hK _ ?_;clear hK K)
     generalize haN:(if c0=1 then some (⟨ba,oa,none⟩:Addr) else some ⟨ba,oa+4,none⟩)=aN at *;refine aQ rfl rfl (fun KK hK=>?_);go_simp;rw[show (w3.alloc (.cells #[.string ⟨x.key.toArray⟩,.int .i64 x.dev,.int .i64 x.seq,.int .i64 x.val] 108)).drew=wz from Hwz.out.symm]
     first | refine⟨k1,hK _ _ ?_⟩ | refine hK _ _ ?_
     clear hK KK;go_simp;refine aQ rfl rfl (fun KK hK=>?_);go_simp
     first | refine⟨k2,hK _ _ ?_⟩ | refine hK _ _ ?_
     clear hK KK r0 r1 r2 r3;go_simp
     repeat (refine aF (v:=?_) rfl (aD rfl) (fun w' hC=>?_) (fun K hK=>?_);rotate_left;(focus (go_simp;(try simp(disch:=omega) only[af]);first | done | exact rfl));go_simp;(try simp(disch:=omega) only[af]);refine hK _ ?_;clear hK K)
     refine aW ?_;go_wp2_with fail
     go_roundw
     case measure=>simp[slLen];omega
     case rel=>
      refine⟨i+1,j,pre ++ [x],by omega,hj,?_,?_,?_,?_,?_,Hb5.out⟩
      ·have h1:=HA3.out.keep (w':=w5) fun b hb hlt=>Hk5.out.block b hlt (by omega)
       rw[Hna.out] at h1;have h2:=rows_tail h1 (by omega) haN;rw[flat_tail aZ 4 br A i hiA] at h2;have h3:(A.drop (i+1)).length=na - 1:=by have:=Hna'.out;simp;omega
       rw[h3];exact h2
      ·have h1:=HB3.out.keep (w':=w5) fun b hb hlt=>Hk5.out.block b hlt (by omega)
       rw[Hnb.out] at h1 ⊢;exact h1
      ·rw[flat_snoc,ax,Hnp.out];exact Hown5.out
      ·rw[<- HR.out,Hmm.out,Hx.out];simp
      ·rw[ax,Hnp.out];simp;omega
    ·by_cases hgt:plt y.pl x.pl
     ·have hv:pcmp x.pl y.pl=1:=by unfold pcmp;rw[if_neg hlt,if_pos hgt]
      rw[hv];have hmm:=merge_at_gt (useBetter now) A B i j hiA hjB (by rw[Hx.out,Hy.out];exact hgt);have Hmm:=ae hmm;clear hv hlt hmm hgt
      repeat (refine aF (v:=?_) rfl (aD rfl) (fun w' hC=>?_) (fun K hK=>?_);rotate_left;(focus (go_simp;(try simp(disch:=omega) only[af]);first | done | exact rfl));go_simp;(try simp(disch:=omega) only[af]);refine hK _ ?_;clear hK K)
      refine aW ?_;go_wp2_with fail;have HX3:=ae (fun w' (hh:aK (fun b=>w.heap.size <= b) w3.drew w')=>HXC.out w' ((aK.of_below (F:=fun b=>w.heap.size <= b) Hl3.out).drew.trans hh (fun i h=>.inl h)));obtain⟨i0,t1,t2,t3,t4⟩:=info_parts infoItP;have hO3:w3.drew.ownsRow w.heap.size 108 4 (.slice a9 np c9) np (pre.flatMap aZ):=by have:=HO3.out;rw[Hnp.out] at this;exact this
      obtain⟨v5,w5,hr5,hown5,hg5⟩:=bF (P:=aC) w3.drew w.heap.size 34 108 Tryz.underlying34 t1 t2 t3 t4 rfl (by decide) (.slice a9 np c9) np _ hO3 #[.string ⟨y.key.toArray⟩,.int .i64 y.dev,.int .i64 y.seq,.int .i64 y.val] rfl (by simp[Value.oneCell']) (by unfold maxLen;omega) (by omega) (show w.heap.size <= w3.heap.size from Hb3.out.size);obtain⟨a5,c5,rfl⟩:=own_shape hown5;have k1:aP (fun b=>w.heap.size <= b) w3.drew (w3.drew.alloc (.cells #[.string ⟨y.key.toArray⟩,.int .i64 y.dev,.int .i64 y.seq,.int .i64 y.val] 108)):=aP.of_below (aE _ _);have hoA:=bc hO3 (aE w3.drew (.cells #[.string ⟨y.key.toArray⟩,.int .i64 y.dev,.int .i64 y.seq,.int .i64 y.val] 108))
      have k2:aP (fun b=>w.heap.size <= b) (w3.drew.alloc (.cells #[.string ⟨y.key.toArray⟩,.int .i64 y.dev,.int .i64 y.seq,.int .i64 y.val] 108)) w5:=⟨hg5.os,hg5.tape,hg5.output,hg5.size,fun q hq hn=>hg5.block q hq (fun e=>hn (hoA.lt q e.symm).1)⟩
      have hk5:aK (fun b=>w.heap.size <= b) w3 w5:=(aK.of_below (F:=fun b=>w.heap.size <= b) ((Below.refl _ _).drew)).trans (aK.trans k1 k2 (fun i h=>.inl h)) (fun i h=>.inl h);have hb5:Below w.heap.size w w5:=Hb3.out.trans (hk5.below (fun i h=>h) Hb3.out.size)
      obtain⟨wz,hwz⟩:∃ wz,wz=w3.drew.alloc (.cells #[.string ⟨y.key.toArray⟩,.int .i64 y.dev,.int .i64 y.seq,.int .i64 y.val] 108):=⟨_,rfl⟩
      rw[<- hwz] at hr5 k1 k2;have hr5':(AP #[34,34] 34 #[.slice a9 np c9,.slice (some ⟨w3.heap.size,0,none⟩) 1 1]).run aC wz=.ok (.slice a5 (np+1) c5) w5:=hr5;have Hown5:=ae hown5;have Hk5:=ae hk5;have Hb5:=ae hb5;have r0:∀ w',aP (fun b=>w.heap.size <= b) w3.drew w' -> w'.cell? _=_:=fun w' hh=>(HX3.out w' hh).2.1;have r1:∀ w',aP (fun b=>w.heap.size <= b) w3.drew w' -> w'.cell? _=_:=fun w' hh=>(HX3.out w' hh).2.2.1;have r2:∀ w',aP (fun b=>w.heap.size <= b) w3.drew w' -> w'.cell? _=_:=fun w' hh=>(HX3.out w' hh).2.2.2.1;have r3:∀ w',aP (fun b=>w.heap.size <= b) w3.drew w' -> w'.cell? _=_:=fun w' hh=>(HX3.out w' hh).2.2.2.2
      have Hwz:=ae hwz;clear hown5 hg5 hoA hk5 hb5 hwz hr5 t1 t2 t3 t4 hO3;go_wp2_with fail;refine aJ (aP (fun b=>w.heap.size <= b)) [(0,true),(1,true),(2,true),(3,true),(6,true),(7,true),(4,false),(5,false),(8,true),(9,true)] (by kernel_rfl) (by kernel_rfl) (bH _) (bG _) ?_
      repeat (refine aF (v:=?_) rfl (aD rfl) (fun w' hC=>?_) (fun K hK=>?_);rotate_left;(focus (go_simp;(try simp(disch:=omega) only[af]);first | done | exact rfl));go_simp;(try simp(disch:=omega) only[af]);refine hK _ ?_;clear hK K)
      generalize hbN:(if c1=1 then some (⟨bb,ob,none⟩:Addr) else some ⟨bb,ob+4,none⟩)=bN at *;refine aQ rfl rfl (fun KK hK=>?_);go_simp;rw[show (w3.alloc (.cells #[.string ⟨y.key.toArray⟩,.int .i64 y.dev,.int .i64 y.seq,.int .i64 y.val] 108)).drew=wz from Hwz.out.symm]
      first | refine⟨k1,hK _ _ ?_⟩ | refine hK _ _ ?_
      clear hK KK;go_simp;refine aQ rfl rfl (fun KK hK=>?_);go_simp
      first | refine⟨k2,hK _ _ ?_⟩ | refine hK _ _ ?_
      clear hK KK r0 r1 r2 r3;go_simp
      repeat (refine aF (v:=?_) rfl (aD rfl) (fun w' hC=>?_) (fun K hK=>?_);rotate_left;(focus (go_simp;(try simp(disch:=omega) only[af]);first | done | exact rfl));go_simp;(try simp(disch:=omega) only[af]);refine hK _ ?_;clear hK K)
      refine aW ?_;go_wp2_with fail
      go_roundw
      case measure=>simp[slLen];omega
      case rel=>
       refine⟨i,j+1,pre ++ [y],hi,by omega,?_,?_,?_,?_,?_,Hb5.out⟩
       ·have h1:=HA3.out.keep (w':=w5) fun b hb hlt=>Hk5.out.block b hlt (by omega)
        rw[Hna.out] at h1 ⊢;exact h1
       ·have h1:=HB3.out.keep (w':=w5) fun b hb hlt=>Hk5.out.block b hlt (by omega)
        rw[Hnb.out] at h1;have h2:=rows_tail h1 (by omega) hbN;rw[flat_tail aZ 4 br B j hjB] at h2;have h3:(B.drop (j+1)).length=nb - 1:=by have:=Hnb'.out;simp;omega
        rw[h3];exact h2
       ·rw[flat_snoc,ax,Hnp.out];exact Hown5.out
       ·rw[<- HR.out,Hmm.out,Hy.out];simp
       ·rw[ax,Hnp.out];simp;omega
     ·have hxy:=plt_tri hlt hgt;have hv:pcmp x.pl y.pl=0:=by unfold pcmp;rw[if_neg hlt,if_neg hgt]
      rw[hv];have hmm:=merge_at_eq (useBetter now) A B i j hiA hjB (by rw[Hx.out,Hy.out];exact hxy);rw[Hx.out,Hy.out] at hmm;have hbt:=HBet.out x (by rw[<- Hx.out];exact aA hiA) y (by rw[<- Hy.out];exact aA hjB) hxy w3.drew Hb3.out.drew
      obtain⟨z,hz⟩:∃ z,(useBetter now) x y=z:=⟨_,rfl⟩
      rw[hz] at hbt hmm;have HBt:=ae (show Calls aC 105 #[.agg #[.string ⟨x.key.toArray⟩,.int .i64 x.dev,.int .i64 x.seq,.int .i64 x.val],.agg #[.string ⟨y.key.toArray⟩,.int .i64 y.dev,.int .i64 y.seq,.int .i64 y.val],.pointer (some ⟨nw,0,none⟩)] w3.drew _ from hbt);have Hmm:=ae hmm;have HX3:=ae (fun w' (hh:aK (fun b=>w.heap.size <= b) w3.drew w')=>HXC.out w' ((aK.of_below (F:=fun b=>w.heap.size <= b) Hl3.out).drew.trans hh (fun i h=>.inl h)));have r0:∀ w',aP (fun b=>w.heap.size <= b) w3.drew w' -> w'.cell? _=_:=fun w' hh=>(HX3.out w' hh).1.1;have r1:∀ w',aP (fun b=>w.heap.size <= b) w3.drew w' -> w'.cell? _=_:=fun w' hh=>(HX3.out w' hh).1.2.1;have r2:∀ w',aP (fun b=>w.heap.size <= b) w3.drew w' -> w'.cell? _=_:=fun w' hh=>(HX3.out w' hh).1.2.2.1;have r3:∀ w',aP (fun b=>w.heap.size <= b) w3.drew w' -> w'.cell? _=_:=fun w' hh=>(HX3.out w' hh).1.2.2.2
      have u0:∀ w',aP (fun b=>w.heap.size <= b) w3.drew w' -> w'.cell? _=_:=fun w' hh=>(HX3.out w' hh).2.1;have u1:∀ w',aP (fun b=>w.heap.size <= b) w3.drew w' -> w'.cell? _=_:=fun w' hh=>(HX3.out w' hh).2.2.1;have u2:∀ w',aP (fun b=>w.heap.size <= b) w3.drew w' -> w'.cell? _=_:=fun w' hh=>(HX3.out w' hh).2.2.2.1;have u3:∀ w',aP (fun b=>w.heap.size <= b) w3.drew w' -> w'.cell? _=_:=fun w' hh=>(HX3.out w' hh).2.2.2.2
      clear hv hlt hmm hgt hbt hxy
      repeat (refine aF (v:=?_) rfl (aD rfl) (fun w' hC=>?_) (fun K hK=>?_);rotate_left;(focus (go_simp;(try simp(disch:=omega) only[af]);first | done | exact rfl));go_simp;(try simp(disch:=omega) only[af]);refine hK _ ?_;clear hK K)
      refine aW ?_;go_wp2_with fail;refine aJ (aP (fun b=>w.heap.size <= b)) [(0,true),(1,true),(2,true),(3,true),(4,true),(5,true),(6,true),(7,true),(11,true),(12,true),(13,true),(14,true),(8,false),(9,false),(10,false),(15,true),(16,true),(17,true)] (by kernel_rfl) (by kernel_rfl) (bH _) (bG _) ?_
      repeat (refine aF (v:=?_) rfl (aD rfl) (fun w' hC=>?_) (fun K hK=>?_);rotate_left;(focus (go_simp;(try simp(disch:=omega) only[af]);first | done | exact rfl));go_simp;(try simp(disch:=omega) only[af]);refine hK _ ?_;clear hK K)
      generalize haN:(if c0=1 then some (⟨ba,oa,none⟩:Addr) else some ⟨ba,oa+4,none⟩)=aN at *;generalize hbN:(if c1=1 then some (⟨bb,ob,none⟩:Addr) else some ⟨bb,ob+4,none⟩)=bN at *;refine aQ rfl rfl (fun KK hK=>?_);go_simp;refine HBt.out.mono ?_;rintro e w4 ⟨rfl,hb4⟩;refine⟨_,rfl,aP.of_below hb4,hK _ _ ?_⟩;clear hK KK HBt r0 r1 r2 r3 u0 u1 u2 u3;go_simp;simp only[itV];have hl4:aI w3 w4:=(Below.refl _ _).drew.trans hb4;have hb4':Below w.heap.size w w4:=Hb3.out.trans (RowKit.Below.mono hl4 Hb3.out.size);obtain⟨i0,t1,t2,t3,t4⟩:=info_parts infoItP;have hO4:w4.ownsRow w.heap.size 108 4 (.slice a9 np c9) np (pre.flatMap aZ):=by have:=bc HO3.out hl4;rw[Hnp.out] at this;exact this
      obtain⟨v5,w5,hr5,hown5,hg5⟩:=bF (P:=aC) w4 w.heap.size 34 108 Tryz.underlying34 t1 t2 t3 t4 rfl (by decide) (.slice a9 np c9) np _ hO4 #[.string ⟨z.key.toArray⟩,.int .i64 z.dev,.int .i64 z.seq,.int .i64 z.val] rfl (by simp[Value.oneCell']) (by unfold maxLen;omega) (by omega) hb4'.size;obtain⟨a5,c5,rfl⟩:=own_shape hown5;have k1:aP (fun b=>w.heap.size <= b) w4 (w4.alloc (.cells #[.string ⟨z.key.toArray⟩,.int .i64 z.dev,.int .i64 z.seq,.int .i64 z.val] 108)):=aP.of_below (aE _ _);have hoA:=bc hO4 (aE w4 (.cells #[.string ⟨z.key.toArray⟩,.int .i64 z.dev,.int .i64 z.seq,.int .i64 z.val] 108))
      have k2:aP (fun b=>w.heap.size <= b) (w4.alloc (.cells #[.string ⟨z.key.toArray⟩,.int .i64 z.dev,.int .i64 z.seq,.int .i64 z.val] 108)) w5:=⟨hg5.os,hg5.tape,hg5.output,hg5.size,fun q hq hn=>hg5.block q hq (fun e=>hn (hoA.lt q e.symm).1)⟩
      have hk5:aK (fun b=>w.heap.size <= b) w3 w5:=(aK.of_below (F:=fun b=>w.heap.size <= b) hl4).trans (aK.trans k1 k2 (fun i h=>.inl h)) (fun i h=>.inl h);have hb5:Below w.heap.size w w5:=Hb3.out.trans (hk5.below (fun i h=>h) Hb3.out.size);have Hown5:=ae hown5;have Hk5:=ae hk5;have Hb5:=ae hb5;clear hown5 hg5 hoA hk5 hb5 t1 t2 t3 t4 hO4 hb4 hl4 hb4';refine aQ rfl rfl (fun KK hK=>?_);go_simp
      first | refine⟨k1,hK _ _ ?_⟩ | refine hK _ _ ?_
      clear hK KK;go_simp;refine aQ rfl rfl (fun KK hK=>?_);go_simp
      first | refine⟨k2,hK _ _ ?_⟩ | refine hK _ _ ?_
      clear hK KK;go_simp
      repeat (refine aF (v:=?_) rfl (aD rfl) (fun w' hC=>?_) (fun K hK=>?_);rotate_left;(focus (go_simp;(try simp(disch:=omega) only[af]);first | done | exact rfl));go_simp;(try simp(disch:=omega) only[af]);refine hK _ ?_;clear hK K)
      refine aW ?_;go_wp2_with fail
      go_roundw
      case measure=>simp[slLen];omega
      case rel=>
       refine⟨i+1,j+1,pre ++ [z],by omega,by omega,?_,?_,?_,?_,?_,Hb5.out⟩
       ·have h1:=HA3.out.keep (w':=w5) fun b hb hlt=>Hk5.out.block b hlt (by omega)
        rw[Hna.out] at h1;have h2:=rows_tail h1 (by omega) haN;rw[flat_tail aZ 4 br A i hiA] at h2;have h3:(A.drop (i+1)).length=na - 1:=by have:=Hna'.out;simp;omega
        rw[h3];exact h2
       ·have h1:=HB3.out.keep (w':=w5) fun b hb hlt=>Hk5.out.block b hlt (by omega)
        rw[Hnb.out] at h1;have h2:=rows_tail h1 (by omega) hbN;rw[flat_tail aZ 4 br B j hjB] at h2;have h3:(B.drop (j+1)).length=nb - 1:=by have:=Hnb'.out;simp;omega
        rw[h3];exact h2
       ·rw[flat_snoc,ax,Hnp.out];exact Hown5.out
       ·rw[<- HR.out,Hmm.out];simp
       ·rw[ax,Hnp.out];simp;omega
   ·have hfin:=merge_end (pl:=RIt.pl) (useBetter now) A B i j (by have:=Hnb'.out;omega);obtain⟨i0,t1,t2,t3,t4⟩:=info_parts infoItP;have hO:=HO.out;rw[Hnp.out] at hO;have hA:=HA.out;rw[Hna.out] at hA;have hB:=HB.out;rw[Hnb.out] at hB;have Hi:=ae hi;have Hj:=ae hj;obtain⟨v5,w5,hr5,hown5,hg5⟩:=bw (P:=aC) wr w.heap.size 34 108 Tryz.underlying34 t1 t2 t3 t4 rfl (by decide) (.slice a9 np c9) np _ hO (fun b=>b < w.heap.size) _ na _ hA (dS _) (by have:=Hna'.out;unfold maxLen;omega) (by have:=Hna'.out;omega) Hbw.out.size;obtain⟨a5,c5,rfl⟩:=own_shape hown5;have hb5:Below w.heap.size wr w5:=Below.grownOwn hO hg5 Hbw.out.size (aq _);have hB5:=hB.keep (w':=w5) fun b hb hlt=>hb5.block b hb
    obtain⟨v6,w6,hr6,hown6,hg6⟩:=bw (P:=aC) w5 w.heap.size 34 108 Tryz.underlying34 t1 t2 t3 t4 rfl (by decide) (.slice a5 (np+na) c5) (np+na) _ hown5 (fun b=>b < w.heap.size) _ nb _ hB5 (dS _) (by have:=Hna'.out;have:=Hnb'.out;unfold maxLen;omega) (by have:=Hna'.out;have:=Hnb'.out;omega) (au Hbw.out.size hb5.size);obtain⟨a6,c6,rfl⟩:=own_shape hown6;have hb6:Below w.heap.size wr w6:=hb5.trans (Below.grownOwn hown5 hg6 (au Hbw.out.size hb5.size) (aq _));have Hb6:=ae (Hbw.out.trans hb6)
    have Hown6:=ae (show w6.ownsRow w.heap.size 108 4 (.slice a6 (np+na+nb) c6) R.length (R.flatMap aZ) by
     rw[<- HR.out,hfin];have h1:(pre ++ (A.drop i ++ B.drop j)).length=np+na+nb:=by rw[ax,ax,Hnp.out,Hna.out,Hnb.out];omega
     rw[h1]
     simpa[az] using hown6)
    clear hb5 hb6 hown5 hown6 hg5 hg6 hB5 hA hB hO hfin t1 t2 t3 t4 hi hj;go_wp2_with fail
    go_ret
    exact⟨_,rfl,Hown6.out,Hb6.out⟩
  ·have hfin:=merge_end (pl:=RIt.pl) (useBetter now) A B i j (by have:=Hna'.out;omega);obtain⟨i0,t1,t2,t3,t4⟩:=info_parts infoItP;have hO:=HO.out;rw[Hnp.out] at hO;have hA:=HA.out;rw[Hna.out] at hA;have hB:=HB.out;rw[Hnb.out] at hB;have Hi:=ae hi;have Hj:=ae hj;obtain⟨v5,w5,hr5,hown5,hg5⟩:=bw (P:=aC) wr w.heap.size 34 108 Tryz.underlying34 t1 t2 t3 t4 rfl (by decide) (.slice a9 np c9) np _ hO (fun b=>b < w.heap.size) _ na _ hA (dS _) (by have:=Hna'.out;unfold maxLen;omega) (by have:=Hna'.out;omega) Hbw.out.size;obtain⟨a5,c5,rfl⟩:=own_shape hown5;have hb5:Below w.heap.size wr w5:=Below.grownOwn hO hg5 Hbw.out.size (aq _);have hB5:=hB.keep (w':=w5) fun b hb hlt=>hb5.block b hb
   obtain⟨v6,w6,hr6,hown6,hg6⟩:=bw (P:=aC) w5 w.heap.size 34 108 Tryz.underlying34 t1 t2 t3 t4 rfl (by decide) (.slice a5 (np+na) c5) (np+na) _ hown5 (fun b=>b < w.heap.size) _ nb _ hB5 (dS _) (by have:=Hna'.out;have:=Hnb'.out;unfold maxLen;omega) (by have:=Hna'.out;have:=Hnb'.out;omega) (au Hbw.out.size hb5.size);obtain⟨a6,c6,rfl⟩:=own_shape hown6;have hb6:Below w.heap.size wr w6:=hb5.trans (Below.grownOwn hown5 hg6 (au Hbw.out.size hb5.size) (aq _));have Hb6:=ae (Hbw.out.trans hb6)
   have Hown6:=ae (show w6.ownsRow w.heap.size 108 4 (.slice a6 (np+na+nb) c6) R.length (R.flatMap aZ) by
    rw[<- HR.out,hfin];have h1:(pre ++ (A.drop i ++ B.drop j)).length=np+na+nb:=by rw[ax,ax,Hnp.out,Hna.out,Hnb.out];omega
    rw[h1]
    simpa[az] using hown6)
   clear hb5 hb6 hown5 hown6 hg5 hg6 hB5 hA hB hO hfin t1 t2 t3 t4 hi hj;go_wp2_with fail
   go_ret
   exact⟨_,rfl,Hown6.out,Hb6.out⟩
set_option maxRecDepth 100000 in
set_option maxHeartbeats 6000000 in
theorem mergeGo_deeper (w:World)  (F G:aV) (va vb:Value) (A B:List RGo) (ha:Rows F w 3 va A.length (A.flatMap cn)) (hb:Rows G w 3 vb B.length (B.flatMap cn)) (hlA:A.length <= 1000000) (hlB:B.length <= 1000000)
 (hbet:∀ x ∈ A,∀ y ∈ B,RGo.pl x=RGo.pl y -> ∀ W,Below w.heap.size w W -> Calls aC 113 #[goV x,goV y] W fun e w'=>e=.returned (goV (deeperR x y)) /\ Below W.heap.size W w'):
 Calls aC 111 #[va,vb,.func (.func 112) #[] #[],.func (.func 113) #[] #[]] w fun e w'=>
  ∃ r,e=.returned r /\ w'.ownsRow w.heap.size 111 3 r (mergeL RGo.pl deeperR A B).length ((mergeL RGo.pl deeperR A B).flatMap cn) /\ Below w.heap.size w w':=by
 replace ha:=ha.mono (G:=fun b=>b < w.heap.size) fun b _ hlt=>hlt
 replace hb:=hb.mono (G:=fun b=>b < w.heap.size) fun b _ hlt=>hlt
 obtain⟨R,hR⟩:∃ R,mergeL RGo.pl deeperR A B=R:=⟨_,rfl⟩
 rw[hR];have HS:=ae (show MrgRel RGo.pl deeperR cn 3 111 w A B R va vb (.slice none 0 0) w from ⟨0,0,[],by omega,by omega,by simpa using ha,by simpa using hb,World.ownsRow_nil _ _ _ _,by simpa using hR,by simp,Below.refl _ _⟩);have HBet:=ae hbet;obtain⟨aa,ca,rfl,-⟩:=ha.shape;obtain⟨ab,cb,rfl,-⟩:=hb.shape;clear ha hb hR hbet
 go_enter Tryz.func111,Tryz.ntmps111
 go_wp2_with fail
 go_loopw [0,1,9] (fun s0 s1 s9 wr=>MrgRel RGo.pl deeperR cn 3 111 w A B R s0 s1 s9 wr) (fun s0 s1 _ _=>slLen s0+slLen s1)
 case atStart=>exact HS.out
 case round=>
  obtain⟨i,j,pre,hi,hj,hA,hB,hown,hR,hpl,hbw⟩:=hrel;obtain⟨a0,c0,rfl,hc0,hm0⟩:=rows_len hA;obtain⟨a1,c1,rfl,hc1,hm1⟩:=rows_len hB;obtain⟨a9,c9,hs9⟩:=own_shape hown;subst hs9
  obtain⟨na,hna⟩:∃ na,(A.drop i).length=na:=⟨_,rfl⟩
  obtain⟨nb,hnb⟩:∃ nb,(B.drop j).length=nb:=⟨_,rfl⟩
  obtain⟨np,hnp⟩:∃ np,pre.length=np:=⟨_,rfl⟩
  have HA:=ae hA;have HB:=ae hB;have HO:=ae hown;have HR:=ae hR;have Hbw:=ae hbw;rw[hna] at hc0 ⊢;rw[hnb] at hc1 ⊢;rw[hnp] at hpl ⊢;have Hna:=ae hna;have Hnb:=ae hnb;have Hnp:=ae hnp;have hna':na=A.length - i:=by rw[<- hna];simp
  have hnb':nb=B.length - j:=by rw[<- hnb];simp
  have Hna':=ae hna';have Hnb':=ae hnb';clear hA hB hown hR hna hnb hnp hbw HS hna' hnb';unfold maxLen at hm0 hm1
  by_cases h0:0 < na
  ·by_cases h1:0 < nb
   ·have h0I:(0:Int) < (na:Int):=by omega
    have h1I:(0:Int) < (nb:Int):=by omega
    have h0I2:(1:Int) <= (na:Int):=by omega
    have h1I2:(1:Int) <= (nb:Int):=by omega
    have hiA:i < A.length:=by have:=Hna'.out;omega
    have hjB:j < B.length:=by have:=Hnb'.out;omega
    have hA:=HA.out;have hB:=HB.out;obtain⟨ba,oa,rfl,hFa,hlta,hca⟩:=eF hA (by rw[Hna.out];exact h0);obtain⟨bb,ob,rfl,hFb,hltb,hcb⟩:=eF hB (by rw[Hnb.out];exact h1);obtain⟨x0,x1,x2⟩:=hca 0 (by rw[Hna.out];exact h0);obtain⟨y0,y1,y2⟩:=hcb 0 (by rw[Hnb.out];exact h1)
    obtain⟨x,hx⟩:∃ x,A[i]=x:=⟨_,rfl⟩
    obtain⟨y,hy⟩:∃ y,B[j]=y:=⟨_,rfl⟩
    have hx':(A.drop i)[0]'(by rw[Hna.out];exact h0)=x:=by rw[List.getElem_drop];simpa using hx
    have hy':(B.drop j)[0]'(by rw[Hnb.out];exact h1)=y:=by rw[List.getElem_drop];simpa using hy
    rw[hx'] at x0 x1 x2;rw[hy'] at y0 y1 y2;simp only[Nat.zero_mul,Nat.add_zero] at x0 x1 x2 y0 y1 y2
    have HXC:=ae (show ∀ w',aK (fun b=>w.heap.size <= b) wr w' -> (w'.cell? ⟨ba,oa,none⟩=some (.string ⟨x.key.toArray⟩) /\ w'.cell? ⟨ba,oa+1,none⟩=some (.int .i64 x.dev) /\ w'.cell? ⟨ba,oa+2,none⟩=some (.int .i64 x.seq)) /\ w'.cell? ⟨bb,ob,none⟩=some (.string ⟨y.key.toArray⟩) /\ w'.cell? ⟨bb,ob+1,none⟩=some (.int .i64 y.dev) /\ w'.cell? ⟨bb,ob+2,none⟩=some (.int .i64 y.seq) from fun w' hh=>by
     have hk:∀ (q:Nat) u,wr.cell? ⟨ba,q,none⟩=some u -> w'.cell? ⟨ba,q,none⟩=some u:=fun q u h=>by
      have hb:w'.heap[ba]?=wr.heap[ba]?:=hh.block ba hlta (by omega);unfold World.cell? at *;rw[hb];exact h
     have hk2:∀ (q:Nat) u,wr.cell? ⟨bb,q,none⟩=some u -> w'.cell? ⟨bb,q,none⟩=some u:=fun q u h=>by
      have hb:w'.heap[bb]?=wr.heap[bb]?:=hh.block bb hltb (by omega);unfold World.cell? at *;rw[hb];exact h
     exact⟨⟨hk _ _ x0,hk _ _ x1,hk _ _ x2⟩,hk2 _ _ y0,hk2 _ _ y1,hk2 _ _ y2⟩)
    have p0:∀ w',aI wr.drew w' -> w'.cell? _=_:=fun w' hh=>laterC x0 hh
    have p1:∀ w',aI wr.drew w' -> w'.cell? _=_:=fun w' hh=>laterC x1 hh
    have p2:∀ w',aI wr.drew w' -> w'.cell? _=_:=fun w' hh=>laterC x2 hh
    have q0:∀ w',aI wr.drew w' -> w'.cell? _=_:=fun w' hh=>laterC y0 hh
    have q1:∀ w',aI wr.drew w' -> w'.cell? _=_:=fun w' hh=>laterC y1 hh
    have q2:∀ w',aI wr.drew w' -> w'.cell? _=_:=fun w' hh=>laterC y2 hh
    skip
    have HPX:=ae (fun W=>show Calls aC 112 #[.agg #[.string ⟨x.key.toArray⟩,.int .i64 x.dev,.int .i64 x.seq]] W _ from goPlace_any W x);have HPY:=ae (fun W=>show Calls aC 112 #[.agg #[.string ⟨y.key.toArray⟩,.int .i64 y.dev,.int .i64 y.seq]] W _ from goPlace_any W y);have HC:=ae (fun W=>compare_any W x.pl y.pl);have Hx:=ae hx;have Hy:=ae hy;clear hca hcb hx hy hx' hy' x0 x1 x2 y0 y1 y2 hA hB;go_wp2_with fail;refine aJ aI [(0,true),(1,true),(2,true),(3,true),(5,true),(6,true),(7,true),(8,true),(4,false),(9,false),(10,false),(11,true)] (by kernel_rfl) (by kernel_rfl) aH aG ?_
    repeat (refine aF (v:=?_) rfl (aD rfl) (fun w' hC=>?_) (fun K hK=>?_);rotate_left;(focus (go_simp;(try simp(disch:=omega) only[af]);first | done | exact rfl));go_simp;(try simp(disch:=omega) only[af]);refine hK _ ?_;clear hK K)
    refine aQ rfl rfl (fun KK hK=>?_);go_simp;refine(HPX.out _).mono ?_;rintro e w1 ⟨rfl,hb1⟩;refine⟨_,rfl,hb1,hK _ _ ?_⟩;clear hK KK HPX p0 p1 p2 q0 q1 q2 ;go_simp;have Hl1:=ae (show aI wr w1 from (Below.refl _ _).drew.trans hb1);clear hb1
    repeat (refine aF (v:=?_) rfl (aD rfl) (fun w' hC=>?_) (fun K hK=>?_);rotate_left;(focus (go_simp;(try simp(disch:=omega) only[af]);first | done | exact rfl));go_simp;(try simp(disch:=omega) only[af]);refine hK _ ?_;clear hK K)
    refine aQ rfl rfl (fun KK hK=>?_);go_simp;refine(HPY.out _).mono ?_;rintro e w2 ⟨rfl,hb2⟩;refine⟨_,rfl,hb2,hK _ _ ?_⟩;clear hK KK HPY;go_simp;have Hl2:=ae (aG _ _ _ Hl1.out hb2);clear hb2 Hl1
    repeat (refine aF (v:=?_) rfl (aD rfl) (fun w' hC=>?_) (fun K hK=>?_);rotate_left;(focus (go_simp;(try simp(disch:=omega) only[af]);first | done | exact rfl));go_simp;(try simp(disch:=omega) only[af]);refine hK _ ?_;clear hK K)
    refine aQ rfl rfl (fun KK hK=>?_);go_simp;refine(HC.out _).mono ?_;rintro e w3 ⟨rfl,hb3⟩;refine⟨_,rfl,hb3,hK _ _ ?_⟩;clear hK KK HC;go_simp;have hl3:aI wr w3:=aG _ _ _ Hl2.out hb3;have hb3':Below w.heap.size w w3:=Hbw.out.trans (RowKit.Below.mono hl3 Hbw.out.size);have hF3:aK (fun b=>w.heap.size <= b) wr w3:=aK.of_below hl3;obtain⟨⟨e0,e1,e2⟩,g0,g1,g2⟩:=HXC.out w3 hF3;have HO3:=ae (bc HO.out hl3);have HA3:=ae (HA.out.keep (w':=w3) fun b hb hlt=>RowKit.Below.block hl3 b hlt);have HB3:=ae (HB.out.keep (w':=w3) fun b hb hlt=>RowKit.Below.block hl3 b hlt);have Hl3:=ae hl3;have Hb3:=ae hb3';clear hb3 Hl2 hb3' hl3 hF3
    by_cases hlt:plt x.pl y.pl
    ·have hv:pcmp x.pl y.pl = -1:=by unfold pcmp;rw[if_pos hlt]
     rw[hv];have hmm:=merge_at_lt deeperR A B i j hiA hjB (by rw[Hx.out,Hy.out];exact hlt);have Hmm:=ae hmm;clear hv hlt hmm
     repeat (refine aF (v:=?_) rfl (aD rfl) (fun w' hC=>?_) (fun K hK=>?_);rotate_left;(focus (go_simp;(try simp(disch:=omega) only[af]);first | done | exact rfl));go_simp;(try simp(disch:=omega) only[af]);refine hK _ ?_;clear hK K)
     refine aW ?_;have HX3:=ae (fun w' (hh:aK (fun b=>w.heap.size <= b) w3.drew w')=>HXC.out w' ((aK.of_below (F:=fun b=>w.heap.size <= b) Hl3.out).drew.trans hh (fun i h=>.inl h)));obtain⟨i0,t1,t2,t3,t4⟩:=info_parts infoGoP;have hO3:w3.drew.ownsRow w.heap.size 111 3 (.slice a9 np c9) np (pre.flatMap cn):=by have:=HO3.out;rw[Hnp.out] at this;exact this
     obtain⟨v5,w5,hr5,hown5,hg5⟩:=bF (P:=aC) w3.drew w.heap.size 35 111 Tryz.underlying35 t1 t2 t3 t4 rfl (by decide) (.slice a9 np c9) np _ hO3 #[.string ⟨x.key.toArray⟩,.int .i64 x.dev,.int .i64 x.seq] rfl (by simp[Value.oneCell']) (by unfold maxLen;omega) (by omega) (show w.heap.size <= w3.heap.size from Hb3.out.size);obtain⟨a5,c5,rfl⟩:=own_shape hown5;have k1:aP (fun b=>w.heap.size <= b) w3.drew (w3.drew.alloc (.cells #[.string ⟨x.key.toArray⟩,.int .i64 x.dev,.int .i64 x.seq] 111)):=aP.of_below (aE _ _);have hoA:=bc hO3 (aE w3.drew (.cells #[.string ⟨x.key.toArray⟩,.int .i64 x.dev,.int .i64 x.seq] 111))
     have k2:aP (fun b=>w.heap.size <= b) (w3.drew.alloc (.cells #[.string ⟨x.key.toArray⟩,.int .i64 x.dev,.int .i64 x.seq] 111)) w5:=⟨hg5.os,hg5.tape,hg5.output,hg5.size,fun q hq hn=>hg5.block q hq (fun e=>hn (hoA.lt q e.symm).1)⟩
     have hk5:aK (fun b=>w.heap.size <= b) w3 w5:=(aK.of_below (F:=fun b=>w.heap.size <= b) ((Below.refl _ _).drew)).trans (aK.trans k1 k2 (fun i h=>.inl h)) (fun i h=>.inl h);have hb5:Below w.heap.size w w5:=Hb3.out.trans (hk5.below (fun i h=>h) Hb3.out.size)
     obtain⟨wz,hwz⟩:∃ wz,wz=w3.drew.alloc (.cells #[.string ⟨x.key.toArray⟩,.int .i64 x.dev,.int .i64 x.seq] 111):=⟨_,rfl⟩
     rw[<- hwz] at hr5 k1 k2;have hr5':(AP #[35,35] 35 #[.slice a9 np c9,.slice (some ⟨w3.heap.size,0,none⟩) 1 1]).run aC wz=.ok (.slice a5 (np+1) c5) w5:=hr5;have Hown5:=ae hown5;have Hk5:=ae hk5;have Hb5:=ae hb5;have r0:∀ w',aP (fun b=>w.heap.size <= b) w3.drew w' -> w'.cell? _=_:=fun w' hh=>(HX3.out w' hh).1.1;have r1:∀ w',aP (fun b=>w.heap.size <= b) w3.drew w' -> w'.cell? _=_:=fun w' hh=>(HX3.out w' hh).1.2.1;have r2:∀ w',aP (fun b=>w.heap.size <= b) w3.drew w' -> w'.cell? _=_:=fun w' hh=>(HX3.out w' hh).1.2.2
     have Hwz:=ae hwz;clear hown5 hg5 hoA hk5 hb5 hwz hr5 t1 t2 t3 t4 hO3;go_wp2_with fail;refine aJ (aP (fun b=>w.heap.size <= b)) [(0,true),(1,true),(2,true),(3,true),(6,true),(7,true),(4,false),(5,false),(8,true),(9,true)] (by kernel_rfl) (by kernel_rfl) (bH _) (bG _) ?_
     repeat (refine aF (v:=?_) rfl (aD rfl) (fun w' hC=>?_) (fun K hK=>?_);rotate_left;(focus (go_simp;(try simp(disch:=omega) only[af]);first | done | exact rfl));go_simp;(try simp(disch:=omega) only[af]);refine hK _ ?_;clear hK K)
     generalize haN:(if c0=1 then some (⟨ba,oa,none⟩:Addr) else some ⟨ba,oa+3,none⟩)=aN at *;refine aQ rfl rfl (fun KK hK=>?_);go_simp;rw[show (w3.alloc (.cells #[.string ⟨x.key.toArray⟩,.int .i64 x.dev,.int .i64 x.seq] 111)).drew=wz from Hwz.out.symm]
     first | refine⟨k1,hK _ _ ?_⟩ | refine hK _ _ ?_
     clear hK KK;go_simp;refine aQ rfl rfl (fun KK hK=>?_);go_simp
     first | refine⟨k2,hK _ _ ?_⟩ | refine hK _ _ ?_
     clear hK KK r0 r1 r2 ;go_simp
     repeat (refine aF (v:=?_) rfl (aD rfl) (fun w' hC=>?_) (fun K hK=>?_);rotate_left;(focus (go_simp;(try simp(disch:=omega) only[af]);first | done | exact rfl));go_simp;(try simp(disch:=omega) only[af]);refine hK _ ?_;clear hK K)
     refine aW ?_;go_wp2_with fail
     go_roundw
     case measure=>simp[slLen];omega
     case rel=>
      refine⟨i+1,j,pre ++ [x],by omega,hj,?_,?_,?_,?_,?_,Hb5.out⟩
      ·have h1:=HA3.out.keep (w':=w5) fun b hb hlt=>Hk5.out.block b hlt (by omega)
       rw[Hna.out] at h1;have h2:=rows_tail h1 (by omega) haN;rw[flat_tail cn 3 eO A i hiA] at h2;have h3:(A.drop (i+1)).length=na - 1:=by have:=Hna'.out;simp;omega
       rw[h3];exact h2
      ·have h1:=HB3.out.keep (w':=w5) fun b hb hlt=>Hk5.out.block b hlt (by omega)
       rw[Hnb.out] at h1 ⊢;exact h1
      ·rw[flat_snoc,ax,Hnp.out];exact Hown5.out
      ·rw[<- HR.out,Hmm.out,Hx.out];simp
      ·rw[ax,Hnp.out];simp;omega
    ·by_cases hgt:plt y.pl x.pl
     ·have hv:pcmp x.pl y.pl=1:=by unfold pcmp;rw[if_neg hlt,if_pos hgt]
      rw[hv];have hmm:=merge_at_gt deeperR A B i j hiA hjB (by rw[Hx.out,Hy.out];exact hgt);have Hmm:=ae hmm;clear hv hlt hmm hgt
      repeat (refine aF (v:=?_) rfl (aD rfl) (fun w' hC=>?_) (fun K hK=>?_);rotate_left;(focus (go_simp;(try simp(disch:=omega) only[af]);first | done | exact rfl));go_simp;(try simp(disch:=omega) only[af]);refine hK _ ?_;clear hK K)
      refine aW ?_;go_wp2_with fail;have HX3:=ae (fun w' (hh:aK (fun b=>w.heap.size <= b) w3.drew w')=>HXC.out w' ((aK.of_below (F:=fun b=>w.heap.size <= b) Hl3.out).drew.trans hh (fun i h=>.inl h)));obtain⟨i0,t1,t2,t3,t4⟩:=info_parts infoGoP;have hO3:w3.drew.ownsRow w.heap.size 111 3 (.slice a9 np c9) np (pre.flatMap cn):=by have:=HO3.out;rw[Hnp.out] at this;exact this
      obtain⟨v5,w5,hr5,hown5,hg5⟩:=bF (P:=aC) w3.drew w.heap.size 35 111 Tryz.underlying35 t1 t2 t3 t4 rfl (by decide) (.slice a9 np c9) np _ hO3 #[.string ⟨y.key.toArray⟩,.int .i64 y.dev,.int .i64 y.seq] rfl (by simp[Value.oneCell']) (by unfold maxLen;omega) (by omega) (show w.heap.size <= w3.heap.size from Hb3.out.size);obtain⟨a5,c5,rfl⟩:=own_shape hown5;have k1:aP (fun b=>w.heap.size <= b) w3.drew (w3.drew.alloc (.cells #[.string ⟨y.key.toArray⟩,.int .i64 y.dev,.int .i64 y.seq] 111)):=aP.of_below (aE _ _);have hoA:=bc hO3 (aE w3.drew (.cells #[.string ⟨y.key.toArray⟩,.int .i64 y.dev,.int .i64 y.seq] 111))
      have k2:aP (fun b=>w.heap.size <= b) (w3.drew.alloc (.cells #[.string ⟨y.key.toArray⟩,.int .i64 y.dev,.int .i64 y.seq] 111)) w5:=⟨hg5.os,hg5.tape,hg5.output,hg5.size,fun q hq hn=>hg5.block q hq (fun e=>hn (hoA.lt q e.symm).1)⟩
      have hk5:aK (fun b=>w.heap.size <= b) w3 w5:=(aK.of_below (F:=fun b=>w.heap.size <= b) ((Below.refl _ _).drew)).trans (aK.trans k1 k2 (fun i h=>.inl h)) (fun i h=>.inl h);have hb5:Below w.heap.size w w5:=Hb3.out.trans (hk5.below (fun i h=>h) Hb3.out.size)
      obtain⟨wz,hwz⟩:∃ wz,wz=w3.drew.alloc (.cells #[.string ⟨y.key.toArray⟩,.int .i64 y.dev,.int .i64 y.seq] 111):=⟨_,rfl⟩
      rw[<- hwz] at hr5 k1 k2;have hr5':(AP #[35,35] 35 #[.slice a9 np c9,.slice (some ⟨w3.heap.size,0,none⟩) 1 1]).run aC wz=.ok (.slice a5 (np+1) c5) w5:=hr5;have Hown5:=ae hown5;have Hk5:=ae hk5;have Hb5:=ae hb5;have r0:∀ w',aP (fun b=>w.heap.size <= b) w3.drew w' -> w'.cell? _=_:=fun w' hh=>(HX3.out w' hh).2.1;have r1:∀ w',aP (fun b=>w.heap.size <= b) w3.drew w' -> w'.cell? _=_:=fun w' hh=>(HX3.out w' hh).2.2.1;have r2:∀ w',aP (fun b=>w.heap.size <= b) w3.drew w' -> w'.cell? _=_:=fun w' hh=>(HX3.out w' hh).2.2.2
      have Hwz:=ae hwz;clear hown5 hg5 hoA hk5 hb5 hwz hr5 t1 t2 t3 t4 hO3;go_wp2_with fail;refine aJ (aP (fun b=>w.heap.size <= b)) [(0,true),(1,true),(2,true),(3,true),(6,true),(7,true),(4,false),(5,false),(8,true),(9,true)] (by kernel_rfl) (by kernel_rfl) (bH _) (bG _) ?_
      repeat (refine aF (v:=?_) rfl (aD rfl) (fun w' hC=>?_) (fun K hK=>?_);rotate_left;(focus (go_simp;(try simp(disch:=omega) only[af]);first | done | exact rfl));go_simp;(try simp(disch:=omega) only[af]);refine hK _ ?_;clear hK K)
      generalize hbN:(if c1=1 then some (⟨bb,ob,none⟩:Addr) else some ⟨bb,ob+3,none⟩)=bN at *;refine aQ rfl rfl (fun KK hK=>?_);go_simp;rw[show (w3.alloc (.cells #[.string ⟨y.key.toArray⟩,.int .i64 y.dev,.int .i64 y.seq] 111)).drew=wz from Hwz.out.symm]
      first | refine⟨k1,hK _ _ ?_⟩ | refine hK _ _ ?_
      clear hK KK;go_simp;refine aQ rfl rfl (fun KK hK=>?_);go_simp
      first | refine⟨k2,hK _ _ ?_⟩ | refine hK _ _ ?_
      clear hK KK r0 r1 r2 ;go_simp
      repeat (refine aF (v:=?_) rfl (aD rfl) (fun w' hC=>?_) (fun K hK=>?_);rotate_left;(focus (go_simp;(try simp(disch:=omega) only[af]);first | done | exact rfl));go_simp;(try simp(disch:=omega) only[af]);refine hK _ ?_;clear hK K)
      refine aW ?_;go_wp2_with fail
      go_roundw
      case measure=>simp[slLen];omega
      case rel=>
       refine⟨i,j+1,pre ++ [y],hi,by omega,?_,?_,?_,?_,?_,Hb5.out⟩
       ·have h1:=HA3.out.keep (w':=w5) fun b hb hlt=>Hk5.out.block b hlt (by omega)
        rw[Hna.out] at h1 ⊢;exact h1
       ·have h1:=HB3.out.keep (w':=w5) fun b hb hlt=>Hk5.out.block b hlt (by omega)
        rw[Hnb.out] at h1;have h2:=rows_tail h1 (by omega) hbN;rw[flat_tail cn 3 eO B j hjB] at h2;have h3:(B.drop (j+1)).length=nb - 1:=by have:=Hnb'.out;simp;omega
        rw[h3];exact h2
       ·rw[flat_snoc,ax,Hnp.out];exact Hown5.out
       ·rw[<- HR.out,Hmm.out,Hy.out];simp
       ·rw[ax,Hnp.out];simp;omega
     ·have hxy:=plt_tri hlt hgt;have hv:pcmp x.pl y.pl=0:=by unfold pcmp;rw[if_neg hlt,if_neg hgt]
      rw[hv];have hmm:=merge_at_eq deeperR A B i j hiA hjB (by rw[Hx.out,Hy.out];exact hxy);rw[Hx.out,Hy.out] at hmm;have hbt:=HBet.out x (by rw[<- Hx.out];exact aA hiA) y (by rw[<- Hy.out];exact aA hjB) hxy w3.drew Hb3.out.drew
      obtain⟨z,hz⟩:∃ z,deeperR x y=z:=⟨_,rfl⟩
      rw[hz] at hbt hmm;have HBt:=ae (show Calls aC 113 #[.agg #[.string ⟨x.key.toArray⟩,.int .i64 x.dev,.int .i64 x.seq],.agg #[.string ⟨y.key.toArray⟩,.int .i64 y.dev,.int .i64 y.seq]] w3.drew _ from hbt);have Hmm:=ae hmm;have HX3:=ae (fun w' (hh:aK (fun b=>w.heap.size <= b) w3.drew w')=>HXC.out w' ((aK.of_below (F:=fun b=>w.heap.size <= b) Hl3.out).drew.trans hh (fun i h=>.inl h)));have r0:∀ w',aP (fun b=>w.heap.size <= b) w3.drew w' -> w'.cell? _=_:=fun w' hh=>(HX3.out w' hh).1.1;have r1:∀ w',aP (fun b=>w.heap.size <= b) w3.drew w' -> w'.cell? _=_:=fun w' hh=>(HX3.out w' hh).1.2.1;have r2:∀ w',aP (fun b=>w.heap.size <= b) w3.drew w' -> w'.cell? _=_:=fun w' hh=>(HX3.out w' hh).1.2.2
      have u0:∀ w',aP (fun b=>w.heap.size <= b) w3.drew w' -> w'.cell? _=_:=fun w' hh=>(HX3.out w' hh).2.1;have u1:∀ w',aP (fun b=>w.heap.size <= b) w3.drew w' -> w'.cell? _=_:=fun w' hh=>(HX3.out w' hh).2.2.1;have u2:∀ w',aP (fun b=>w.heap.size <= b) w3.drew w' -> w'.cell? _=_:=fun w' hh=>(HX3.out w' hh).2.2.2
      clear hv hlt hmm hgt hbt hxy
      repeat (refine aF (v:=?_) rfl (aD rfl) (fun w' hC=>?_) (fun K hK=>?_);rotate_left;(focus (go_simp;(try simp(disch:=omega) only[af]);first | done | exact rfl));go_simp;(try simp(disch:=omega) only[af]);refine hK _ ?_;clear hK K)
      refine aW ?_;go_wp2_with fail;refine aJ (aP (fun b=>w.heap.size <= b)) [(0,true),(1,true),(2,true),(3,true),(4,true),(5,true),(6,true),(7,true),(11,true),(12,true),(13,true),(14,true),(8,false),(9,false),(10,false),(15,true),(16,true),(17,true)] (by kernel_rfl) (by kernel_rfl) (bH _) (bG _) ?_
      repeat (refine aF (v:=?_) rfl (aD rfl) (fun w' hC=>?_) (fun K hK=>?_);rotate_left;(focus (go_simp;(try simp(disch:=omega) only[af]);first | done | exact rfl));go_simp;(try simp(disch:=omega) only[af]);refine hK _ ?_;clear hK K)
      generalize haN:(if c0=1 then some (⟨ba,oa,none⟩:Addr) else some ⟨ba,oa+3,none⟩)=aN at *;generalize hbN:(if c1=1 then some (⟨bb,ob,none⟩:Addr) else some ⟨bb,ob+3,none⟩)=bN at *;refine aQ rfl rfl (fun KK hK=>?_);go_simp;refine HBt.out.mono ?_;rintro e w4 ⟨rfl,hb4⟩;refine⟨_,rfl,aP.of_below hb4,hK _ _ ?_⟩;clear hK KK HBt r0 r1 r2  u0 u1 u2 ;go_simp;simp only[goV];have hl4:aI w3 w4:=(Below.refl _ _).drew.trans hb4;have hb4':Below w.heap.size w w4:=Hb3.out.trans (RowKit.Below.mono hl4 Hb3.out.size);obtain⟨i0,t1,t2,t3,t4⟩:=info_parts infoGoP;have hO4:w4.ownsRow w.heap.size 111 3 (.slice a9 np c9) np (pre.flatMap cn):=by have:=bc HO3.out hl4;rw[Hnp.out] at this;exact this
      obtain⟨v5,w5,hr5,hown5,hg5⟩:=bF (P:=aC) w4 w.heap.size 35 111 Tryz.underlying35 t1 t2 t3 t4 rfl (by decide) (.slice a9 np c9) np _ hO4 #[.string ⟨z.key.toArray⟩,.int .i64 z.dev,.int .i64 z.seq] rfl (by simp[Value.oneCell']) (by unfold maxLen;omega) (by omega) hb4'.size;obtain⟨a5,c5,rfl⟩:=own_shape hown5;have k1:aP (fun b=>w.heap.size <= b) w4 (w4.alloc (.cells #[.string ⟨z.key.toArray⟩,.int .i64 z.dev,.int .i64 z.seq] 111)):=aP.of_below (aE _ _);have hoA:=bc hO4 (aE w4 (.cells #[.string ⟨z.key.toArray⟩,.int .i64 z.dev,.int .i64 z.seq] 111))
      have k2:aP (fun b=>w.heap.size <= b) (w4.alloc (.cells #[.string ⟨z.key.toArray⟩,.int .i64 z.dev,.int .i64 z.seq] 111)) w5:=⟨hg5.os,hg5.tape,hg5.output,hg5.size,fun q hq hn=>hg5.block q hq (fun e=>hn (hoA.lt q e.symm).1)⟩
      have hk5:aK (fun b=>w.heap.size <= b) w3 w5:=(aK.of_below (F:=fun b=>w.heap.size <= b) hl4).trans (aK.trans k1 k2 (fun i h=>.inl h)) (fun i h=>.inl h);have hb5:Below w.heap.size w w5:=Hb3.out.trans (hk5.below (fun i h=>h) Hb3.out.size);have Hown5:=ae hown5;have Hk5:=ae hk5;have Hb5:=ae hb5;clear hown5 hg5 hoA hk5 hb5 t1 t2 t3 t4 hO4 hb4 hl4 hb4';refine aQ rfl rfl (fun KK hK=>?_);go_simp
      first | refine⟨k1,hK _ _ ?_⟩ | refine hK _ _ ?_
      clear hK KK;go_simp;refine aQ rfl rfl (fun KK hK=>?_);go_simp
      first | refine⟨k2,hK _ _ ?_⟩ | refine hK _ _ ?_
      clear hK KK;go_simp
      repeat (refine aF (v:=?_) rfl (aD rfl) (fun w' hC=>?_) (fun K hK=>?_);rotate_left;(focus (go_simp;(try simp(disch:=omega) only[af]);first | done | exact rfl));go_simp;(try simp(disch:=omega) only[af]);refine hK _ ?_;clear hK K)
      refine aW ?_;go_wp2_with fail
      go_roundw
      case measure=>simp[slLen];omega
      case rel=>
       refine⟨i+1,j+1,pre ++ [z],by omega,by omega,?_,?_,?_,?_,?_,Hb5.out⟩
       ·have h1:=HA3.out.keep (w':=w5) fun b hb hlt=>Hk5.out.block b hlt (by omega)
        rw[Hna.out] at h1;have h2:=rows_tail h1 (by omega) haN;rw[flat_tail cn 3 eO A i hiA] at h2;have h3:(A.drop (i+1)).length=na - 1:=by have:=Hna'.out;simp;omega
        rw[h3];exact h2
       ·have h1:=HB3.out.keep (w':=w5) fun b hb hlt=>Hk5.out.block b hlt (by omega)
        rw[Hnb.out] at h1;have h2:=rows_tail h1 (by omega) hbN;rw[flat_tail cn 3 eO B j hjB] at h2;have h3:(B.drop (j+1)).length=nb - 1:=by have:=Hnb'.out;simp;omega
        rw[h3];exact h2
       ·rw[flat_snoc,ax,Hnp.out];exact Hown5.out
       ·rw[<- HR.out,Hmm.out];simp
       ·rw[ax,Hnp.out];simp;omega
   ·have hfin:=merge_end (pl:=RGo.pl) deeperR A B i j (by have:=Hnb'.out;omega);obtain⟨i0,t1,t2,t3,t4⟩:=info_parts infoGoP;have hO:=HO.out;rw[Hnp.out] at hO;have hA:=HA.out;rw[Hna.out] at hA;have hB:=HB.out;rw[Hnb.out] at hB;have Hi:=ae hi;have Hj:=ae hj;obtain⟨v5,w5,hr5,hown5,hg5⟩:=bw (P:=aC) wr w.heap.size 35 111 Tryz.underlying35 t1 t2 t3 t4 rfl (by decide) (.slice a9 np c9) np _ hO (fun b=>b < w.heap.size) _ na _ hA (f9 _) (by have:=Hna'.out;unfold maxLen;omega) (by have:=Hna'.out;omega) Hbw.out.size;obtain⟨a5,c5,rfl⟩:=own_shape hown5;have hb5:Below w.heap.size wr w5:=Below.grownOwn hO hg5 Hbw.out.size (aq _);have hB5:=hB.keep (w':=w5) fun b hb hlt=>hb5.block b hb
    obtain⟨v6,w6,hr6,hown6,hg6⟩:=bw (P:=aC) w5 w.heap.size 35 111 Tryz.underlying35 t1 t2 t3 t4 rfl (by decide) (.slice a5 (np+na) c5) (np+na) _ hown5 (fun b=>b < w.heap.size) _ nb _ hB5 (f9 _) (by have:=Hna'.out;have:=Hnb'.out;unfold maxLen;omega) (by have:=Hna'.out;have:=Hnb'.out;omega) (au Hbw.out.size hb5.size);obtain⟨a6,c6,rfl⟩:=own_shape hown6;have hb6:Below w.heap.size wr w6:=hb5.trans (Below.grownOwn hown5 hg6 (au Hbw.out.size hb5.size) (aq _));have Hb6:=ae (Hbw.out.trans hb6)
    have Hown6:=ae (show w6.ownsRow w.heap.size 111 3 (.slice a6 (np+na+nb) c6) R.length (R.flatMap cn) by
     rw[<- HR.out,hfin];have h1:(pre ++ (A.drop i ++ B.drop j)).length=np+na+nb:=by rw[ax,ax,Hnp.out,Hna.out,Hnb.out];omega
     rw[h1]
     simpa[az] using hown6)
    clear hb5 hb6 hown5 hown6 hg5 hg6 hB5 hA hB hO hfin t1 t2 t3 t4 hi hj;go_wp2_with fail
    go_ret
    exact⟨_,rfl,Hown6.out,Hb6.out⟩
  ·have hfin:=merge_end (pl:=RGo.pl) deeperR A B i j (by have:=Hna'.out;omega);obtain⟨i0,t1,t2,t3,t4⟩:=info_parts infoGoP;have hO:=HO.out;rw[Hnp.out] at hO;have hA:=HA.out;rw[Hna.out] at hA;have hB:=HB.out;rw[Hnb.out] at hB;have Hi:=ae hi;have Hj:=ae hj;obtain⟨v5,w5,hr5,hown5,hg5⟩:=bw (P:=aC) wr w.heap.size 35 111 Tryz.underlying35 t1 t2 t3 t4 rfl (by decide) (.slice a9 np c9) np _ hO (fun b=>b < w.heap.size) _ na _ hA (f9 _) (by have:=Hna'.out;unfold maxLen;omega) (by have:=Hna'.out;omega) Hbw.out.size;obtain⟨a5,c5,rfl⟩:=own_shape hown5;have hb5:Below w.heap.size wr w5:=Below.grownOwn hO hg5 Hbw.out.size (aq _);have hB5:=hB.keep (w':=w5) fun b hb hlt=>hb5.block b hb
   obtain⟨v6,w6,hr6,hown6,hg6⟩:=bw (P:=aC) w5 w.heap.size 35 111 Tryz.underlying35 t1 t2 t3 t4 rfl (by decide) (.slice a5 (np+na) c5) (np+na) _ hown5 (fun b=>b < w.heap.size) _ nb _ hB5 (f9 _) (by have:=Hna'.out;have:=Hnb'.out;unfold maxLen;omega) (by have:=Hna'.out;have:=Hnb'.out;omega) (au Hbw.out.size hb5.size);obtain⟨a6,c6,rfl⟩:=own_shape hown6;have hb6:Below w.heap.size wr w6:=hb5.trans (Below.grownOwn hown5 hg6 (au Hbw.out.size hb5.size) (aq _));have Hb6:=ae (Hbw.out.trans hb6)
   have Hown6:=ae (show w6.ownsRow w.heap.size 111 3 (.slice a6 (np+na+nb) c6) R.length (R.flatMap cn) by
    rw[<- HR.out,hfin];have h1:(pre ++ (A.drop i ++ B.drop j)).length=np+na+nb:=by rw[ax,ax,Hnp.out,Hna.out,Hnb.out];omega
    rw[h1]
    simpa[az] using hown6)
   clear hb5 hb6 hown5 hown6 hg5 hg6 hB5 hA hB hO hfin t1 t2 t3 t4 hi hj;go_wp2_with fail
   go_ret
   exact⟨_,rfl,Hown6.out,Hb6.out⟩
end Go.Proofs.YtobjdpngnfbicaaGreatDoor
/- Which of two elements is kept: later, deeper, Use's. -/
namespace Go.Proofs.YtobjdpngnfbicaaGreatDoor
open Go.RowKit
set_option linter.unusedVariables false
set_option maxRecDepth 20000
attribute [local go_sem ↓] bq
attribute [local go_sem] opC upC
theorem cell3 {w:World} {b:Nat} {x y z:Value} {t:TypeId} (h:Blk w b [x,y,z] t):w.cell? ⟨b,0,none⟩=some x /\ w.cell? ⟨b,1,none⟩=some y /\ w.cell? ⟨b,2,none⟩=some z:=by
 have h0:=h.cell 0;have h1:=h.cell 1;have h2:=h.cell 2;simp at h0 h1 h2;exact⟨h0,h1,h2⟩
theorem cell4 {w:World} {b:Nat} {x y z u:Value} {t:TypeId} (h:Blk w b [x,y,z,u] t):w.cell? ⟨b,0,none⟩=some x /\ w.cell? ⟨b,1,none⟩=some y /\ w.cell? ⟨b,2,none⟩=some z /\ w.cell? ⟨b,3,none⟩=some u:=by
 have h0:=h.cell 0;have h1:=h.cell 1;have h2:=h.cell 2;have h3:=h.cell 3;simp at h0 h1 h2 h3;exact⟨h0,h1,h2,h3⟩
theorem fin4 {w W:World} {B b:Nat} {x y z u:Value} {t:TypeId} (kr:Blk W b [x,y,z,u] t) (hb:Below B w W) (hB:B <= b) (s1 s2 s3 s4:Value):
 ∃ wf,wf=(((W.setCell ⟨b,0,none⟩ s1).setCell ⟨b,1,none⟩ s2).setCell ⟨b,2,none⟩ s3).setCell ⟨b,3,none⟩ s4 /\ Blk wf b [s1,s2,s3,s4] t /\ Below B w wf:=
 ⟨_,rfl,(((kr.set 0 s1).set 1 s2).set 2 s3).set 3 s4,(((hb.setCell (p:=⟨b,0,none⟩) hB _).setCell (p:=⟨b,1,none⟩) hB _).setCell (p:=⟨b,2,none⟩) hB _).setCell (p:=⟨b,3,none⟩) hB _⟩
set_option maxRecDepth 100000 in
set_option maxHeartbeats 1500000 in
theorem deeper_any (w:World) (x y:RGo):
 Calls aC 113 #[goV x,goV y] w fun e w'=>e=.returned (goV (deeperR x y)) /\ Below w.heap.size w w':=by
 obtain⟨wf,hwf⟩:∃ wf,wf=((w.alloc (.cells #[.string ⟨x.key.toArray⟩,.int .i64 x.dev,.int .i64 x.seq] 111)).alloc (.cells #[.string ⟨y.key.toArray⟩,.int .i64 y.dev,.int .i64 y.seq] 111)):=⟨_,rfl⟩
 have hbf:Below w.heap.size w wf:=by rw[hwf];exact(aE _ _).alloc (by simp) _
 have hzf:wf.heap.size=w.heap.size+2:=by rw[hwf];simp
 have Hbf:=ae hbf;have Hzf:=ae hzf;have Hwf:=ae hwf;clear hbf hzf hwf;unfold goV
 go_enter Tryz.func113,Tryz.ntmps113
 by_cases hlt:x.seq < y.seq
 ·have hd:deeperR x y=y:=by unfold deeperR;rw[if_pos hlt]
  rw[hd];clear hd;go_wp2_with fail;rw[<- Hwf.out];have hbz:=aE wf (.cells #[.string ⟨y.key.toArray⟩,.int .i64 y.dev,.int .i64 y.seq] 111);obtain⟨q0,q1,q2⟩:=cell3 (Blk.new wf #[.string ⟨y.key.toArray⟩,.int .i64 y.dev,.int .i64 y.seq] 111);rw[Hzf.out] at q0 q1 q2;refine bodyPost_ret (v:=.agg #[.string ⟨y.key.toArray⟩,.int .i64 y.dev,.int .i64 y.seq]) (by simp[results,Tryz.results113,go_sem,q0,q1,q2]) rfl ⟨rfl,Hbf.out.trans (hbz.mono Hbf.out.size)⟩
 ·have hd:deeperR x y=x:=by unfold deeperR;rw[if_neg hlt]
  rw[hd];clear hd;go_wp2_with fail;rw[<- Hwf.out];have hbz:=aE wf (.cells #[.string ⟨x.key.toArray⟩,.int .i64 x.dev,.int .i64 x.seq] 111);obtain⟨q0,q1,q2⟩:=cell3 (Blk.new wf #[.string ⟨x.key.toArray⟩,.int .i64 x.dev,.int .i64 x.seq] 111);rw[Hzf.out] at q0 q1 q2;refine bodyPost_ret (v:=.agg #[.string ⟨x.key.toArray⟩,.int .i64 x.dev,.int .i64 x.seq]) (by simp[results,Tryz.results113,go_sem,q0,q1,q2]) rfl ⟨rfl,Hbf.out.trans (hbz.mono Hbf.out.size)⟩
set_option maxRecDepth 100000 in
set_option maxHeartbeats 1500000 in
theorem useB_any (w:World) (nw:Nat) (now:Int) (hnw:w.cell? ⟨nw,0,none⟩=some (.int .i64 now)) (old x:RIt) (hn:0 <= now /\ now <= 2199023255552) (hs:0 <= old.seq /\ old.seq <= 2199023255552):
 Calls aC 105 #[itV old,itV x,.pointer (some ⟨nw,0,none⟩)] w fun e w'=>e=.returned (itV (useBetter now old x)) /\ Below w.heap.size w w':=by
 obtain⟨w1,hw1⟩:∃ w1,w1=w.alloc (.cells #[.string ⟨old.key.toArray⟩,.int .i64 old.dev,.int .i64 old.seq,.int .i64 old.val] 108):=⟨_,rfl⟩
 obtain⟨w2,hw2⟩:∃ w2,w2=w1.alloc (.cells #[.string ⟨x.key.toArray⟩,.int .i64 x.dev,.int .i64 x.seq,.int .i64 x.val] 108):=⟨_,rfl⟩
 obtain⟨w3,hw3⟩:∃ w3,w3=w2.alloc (.cells #[.string ⟨#[]⟩,.int .i64 0,.int .i64 0,.int .i64 0] 108):=⟨_,rfl⟩
 have hz1:w1.heap.size=w.heap.size+1:=by rw[hw1];simp
 have hz2:w2.heap.size=w.heap.size+2:=by rw[hw2];simp[hz1]
 have hz3:w3.heap.size=w.heap.size+3:=by rw[hw3];simp[hz2]
 have hb3:Below w.heap.size w w3:=by
  rw[hw3,hw2,hw1];exact((aE _ _).alloc (by simp) _).alloc (by simp;omega) _
 have hX:Blk w3 (w.heap.size+1) [.string ⟨x.key.toArray⟩,.int .i64 x.dev,.int .i64 x.seq,.int .i64 x.val] 108:=by
  have:=Blk.new w1 #[.string ⟨x.key.toArray⟩,.int .i64 x.dev,.int .i64 x.seq,.int .i64 x.val] 108;rw[hw3,hw2,<- hz1];exact this.alloc _
 have hR:Blk w3 (w.heap.size+2) [.string ⟨#[]⟩,.int .i64 0,.int .i64 0,.int .i64 0] 108:=by
  have:=Blk.new w2 #[.string ⟨#[]⟩,.int .i64 0,.int .i64 0,.int .i64 0] 108;rw[hw3,<- hz2];exact this
 have hnlt:nw < w.heap.size:=cellLt hnw;have hnlt1:nw < w.heap.size+1:=by omega
 have hnlt2:nw < w.heap.size+1+1:=by omega
 have hU:=sM old.val (now - old.seq) w3 (by omega)
 obtain⟨u,hu⟩:∃ u,DM.aft (now - old.seq).toNat (DM.bnd old.val)+65536=u:=⟨_,rfl⟩
 rw[hu] at hU;have hr:useBetter now old x=⟨x.key,x.dev,x.seq,u⟩:=by unfold useBetter decUse;rw[hu]
 rw[hr];have HU:=ae hU;have HX:=ae hX;have HR:=ae hR;have Hb3:=ae hb3;have Hz3:=ae hz3;have Hw3:=ae (show w3=((w.alloc (.cells #[.string ⟨old.key.toArray⟩,.int .i64 old.dev,.int .i64 old.seq,.int .i64 old.val] 108)).alloc (.cells #[.string ⟨x.key.toArray⟩,.int .i64 x.dev,.int .i64 x.seq,.int .i64 x.val] 108)).alloc (.cells #[.string ⟨#[]⟩,.int .i64 0,.int .i64 0,.int .i64 0] 108) by rw[hw3,hw2,hw1]);obtain⟨hn1,hn2⟩:=hn;obtain⟨hs1,hs2⟩:=hs;clear hU hX hR hb3 hu hr hz3 hz1 hz2 hw1 hw2 hw3;unfold itV
 go_enter Tryz.func105,Tryz.ntmps105
 go_wp2_with fail;rw[<- Hw3.out];refine HU.out.mono ?_;rintro e w4 ⟨rfl,hb4⟩;have kX:=HX.out.keep (hb4.block _ HX.out.lt);have kR:=HR.out.keep (hb4.block _ HR.out.lt);obtain⟨x0,x1,x2,x3⟩:=cell4 kX;obtain⟨y0,y1,y2,y3⟩:=cell4 kR;have fX:=kX.free 3;have z0:=kR.free 0;have z1:=kR.free 1;have z2:=kR.free 2;have z3:=kR.free 3
 obtain⟨w5,hw5⟩:∃ w5,w5=w4.setCell ⟨w.heap.size+1,3,none⟩ (.int .i64 u):=⟨_,rfl⟩
 have hb5:Below w.heap.size w w5:=by rw[hw5];exact(Hb3.out.trans (hb4.mono Hb3.out.size)).setCell (Nat.le_succ _) _
 have kR5:Blk w5 (w.heap.size+2) [.string ⟨#[]⟩,.int .i64 0,.int .i64 0,.int .i64 0] 108:=by
  rw[hw5];exact kR.set_other _ (by show w.heap.size+2≠w.heap.size+1;omega)
 obtain⟨wf,hwf,hblk,hbf⟩:=fin4 kR5 hb5 (by omega) (.string ⟨x.key.toArray⟩) (.int .i64 x.dev) (.int .i64 x.seq) (.int .i64 u);rw[hw5] at hwf;have Q:=ae (cell4 hblk);have Hbf:=ae hbf;have Hwf:=ae hwf;clear HU hb4 kX kR kR5 hblk hb5 hw5 hbf hwf;go_wp2_with fail;rw[<- Hwf.out];obtain⟨q0,q1,q2,q3⟩:=Q.out;exact bodyPost_ret (v:=.agg #[.string ⟨x.key.toArray⟩,.int .i64 x.dev,.int .i64 x.seq,.int .i64 u]) (by simp[results,Tryz.results105,go_sem,q0,q1,q2,q3]) rfl ⟨rfl,Hbf.out⟩
end Go.Proofs.YtobjdpngnfbicaaGreatDoor
/- Use. -/
namespace Go.Proofs.YtobjdpngnfbicaaGreatDoor
open Go.RowKit Go.Sort
set_option linter.unusedVariables false
set_option maxRecDepth 20000
attribute [local go_sem ↓] bq
def UPost (w:World) (mr:RMap × Int) (e:Ending) (w':World):Prop:=
 (∃ r,e=.returned (.tuple #[r,.int .i64 mr.2]) /\ iU w' w.heap.size r mr.1 /\ Bnd mr.1) /\ Below w.heap.size w w'
theorem own_nil (w:World) (base:Nat):iU w base nilV .empty:=⟨_,_,_,rfl,World.ownsRow_nil _ _ _ _,World.ownsRow_nil _ _ _ _,World.ownsRow_nil _ _ _ _⟩
theorem bnd_empty:Bnd .empty:=⟨nofun,nofun,nofun⟩
theorem i64ok_of {n:Int} (h:-4611686018427387904 <= n /\ n <= 4611686018427387904):cw n:=by unfold cw;omega
theorem bnd_formed {m:RMap} (f:Formed m):Bnd m:=by
 have sg:=seen_get f;refine⟨fun n hn=>?_,fun x hx=>?_,fun x hx=>?_⟩
 ·have:=f.seen n hn;exact i64ok_of (by omega)
 ·obtain⟨h1,h2,h3,h4⟩:=known_seq (f.iknown x hx);have h5:=keyOk_len (known_key (f.iknown x hx));have h6:=f.val x hx;have h7:=sg x.pl.2.toNat;rw[f.len] at h2;have e1:x.pl.2=x.dev:=rfl;have e2:x.pl.1=x.key:=rfl;rw[e1] at h1 h2 h4 h7;rw[e2] at h5;exact⟨by omega,i64ok_of (by omega),i64ok_of (by omega),i64ok_of (by omega)⟩
 ·obtain⟨h1,h2,h3,h4⟩:=known_seq (f.gknown x hx);have h5:=keyOk_len (known_key (f.gknown x hx));have h7:=sg x.pl.2.toNat;rw[f.len] at h2;have e1:x.pl.2=x.dev:=rfl;have e2:x.pl.1=x.key:=rfl;rw[e1] at h1 h2 h4 h7;rw[e2] at h5;exact⟨by omega,i64ok_of (by omega),i64ok_of (by omega)⟩
theorem up_bnd {m:RMap} (f:Formed m) {d:Int} (h1:0 <= d) (h2:d < 8):∀ n ∈ seenUp m d,0 <= n /\ n <= 1099511627777:=by
 intro n hn;obtain⟨i,hi,rfl⟩:=List.mem_iff_getElem.1 hn;have h3:=up_get m d (dev_lt f h1 h2) i;rw[List.getD_eq_getElem?_getD,List.getElem?_eq_getElem hi] at h3;have h4:=seen_get f i;simp only[Option.getD_some] at h3;rw[h3];split <;> omega
theorem use_bnd {m:RMap} (f:Formed m) {d:Int} {l:List RKey} (ha:Allowed d l):Bnd (useM m d l) /\ (∀ x ∈ (useM m d l).items,x.key.length <= 400) /\ ∀ x ∈ (useM m d l).gone,x.key.length <= 400:=by
 have b:=bnd_formed f;have hn:=seen_get f d.toNat;have hnow:1 <= nowR m d /\ nowR m d <= 1099511627777:=by unfold nowR;omega
 have ki:∀ x ∈ m.items,x.key.length <= 400:=fun x hx=>keyOk_len (known_key (f.iknown x hx))
 have kg:∀ x ∈ m.gone,x.key.length <= 400:=fun x hx=>keyOk_len (known_key (f.gknown x hx))
 have key:∀ x ∈ (useM m d l).items,(x.key.length <= 400) /\ cw x.dev /\ cw x.seq /\ cw x.val:=fun x hx=>by
  rcases use_mem f.items ha.nodup hx with ⟨k,hk,rfl⟩ | hx
  ·have e1:=Prod.mk.inj (refItem_pl m d k);have e2:=refItem_seq m d k;have e3:=refItem_val f ha.lo ha.hi k;have l1:=ha.lo;have l2:=ha.hi;refine⟨by rw[e1.1];exact keyOk_len (ha.keys k hk),by rw[e1.2];exact i64ok_of (by omega),by rw[e2];exact i64ok_of (by omega),i64ok_of (by omega)⟩
  ·exact⟨ki x hx,(b.itemsB x hx).2⟩
 exact⟨⟨fun n hn=>by have:=up_bnd f ha.lo ha.hi n hn;exact i64ok_of (by omega),fun x hx=>⟨by have:=(key x hx).1;omega,(key x hx).2⟩,b.goneB⟩,fun x hx=>(key x hx).1,kg⟩
set_option maxRecDepth 100000 in
set_option maxHeartbeats 4000000 in
theorem puse_any (w:World) (hT:cL w) (h3:4 <= w.heap.size) (F:aV) (v:Value) (m:RMap) (h:cY F w v m) (hki:∀ x ∈ m.items,x.key.length <= 1000000) (hkg:∀ x ∈ m.gone,x.key.length <= 1000000)
 (hl2:m.items.length <= 1000000) (hl3:m.gone.length <= 1000000) (d:Int) (G:aV) (lv:Value) (l:List RKey) (hlv:Rows G w 1 lv l.length (l.map eS)) (hl:l.length <= 1000000) (hk:∀ k ∈ l,k.length <= 4611686018427387903):
 Calls aC 57 #[v,.int .i64 d,lv] w (UPost w (useR m d l)):=by
 replace h:=h.mono (G:=fun b=>b < w.heap.size) fun b _ hlt=>hlt
 replace hlv:=hlv.mono (G:=fun b=>b < w.heap.size) fun b _ hlt=>hlt
 obtain⟨s1,s2,s3,rfl,h⟩:=h;obtain⟨a1,p1,rfl,-⟩:=h.seen.shape;obtain⟨a2,p2,rfl,-⟩:=h.items.shape;obtain⟨a3,p3,rfl,-⟩:=h.gone.shape;have l1:=h.seen.len;have l2:=h.items.len;have l3:=h.gone.len;unfold maxLen at l1 l2 l3
 obtain⟨n1,hn1⟩:∃ n,m.seen.length=n:=⟨_,rfl⟩
 obtain⟨n2,hn2⟩:∃ n,m.items.length=n:=⟨_,rfl⟩
 obtain⟨n3,hn3⟩:∃ n,m.gone.length=n:=⟨_,rfl⟩
 rw[hn1,hn2,hn3] at h;rw[hn1] at l1 ⊢;rw[hn2] at l2 ⊢;rw[hn3] at l3 ⊢
 obtain⟨wx,hwx⟩:∃ wx,wx=w.alloc (.cells #[.slice a1 n1 p1,.slice a2 n2 p2,.slice a3 n3 p3] 37):=⟨_,rfl⟩
 have hbx:Below w.heap.size w wx:=by rw[hwx];exact aE _ _
 have hzx:wx.heap.size=w.heap.size+1:=by rw[hwx];simp
 have hx:=h.keep (w':=wx) fun b _ hlt=>hbx.block b hlt
 have hnx:Blk wx w.heap.size [.slice a1 n1 p1,.slice a2 n2 p2,.slice a3 n3 p3] 37:=by rw[hwx];exact Blk.new _ _ _
 have Hx:=ae hx;have Hn1:=ae hn1;have Hn2:=ae hn2;have Hn3:=ae hn3;have Hwx:=ae hwx;have Hbx:=ae hbx;have Hzx:=ae hzx;have c0:=hnx.cell 0;have c1:=hnx.cell 1;have c2:=hnx.cell 2;simp at c0 c1 c2;have Hnx:=ae hnx;clear hx hn1 hn2 hn3 hwx hbx hnx hzx;clear h
 obtain⟨nl,hnl⟩:∃ nl,l.length=nl:=⟨_,rfl⟩
 obtain⟨al,cl,rfl,-⟩:=hlv.shape;have Hlv:=ae hlv;rw[hnl];have Hnl:=ae hnl
 obtain⟨w2,hw2⟩:∃ w2,w2=wx.alloc (.cells #[.slice none 0 0,.slice none 0 0,.slice none 0 0] 37):=⟨_,rfl⟩
 have hb2:Below w.heap.size w w2:=by rw[hw2];exact Hbx.out.alloc Hbx.out.size _
 have hz2:w2.heap.size=w.heap.size+2:=by rw[hw2];simp[Hzx.out]
 have k2:Blk w2 (w.heap.size+1) [.slice none 0 0,.slice none 0 0,.slice none 0 0] 37:=by
  have:=Blk.new wx #[.slice none 0 0,.slice none 0 0,.slice none 0 0] 37;rw[hw2,<- Hzx.out];exact this
 have HR:=ae (show ∀ W,Below w2.heap.size w2 W -> Below w.heap.size w W /\ Blk W (w.heap.size+1) [.slice none 0 0,.slice none 0 0,.slice none 0 0] 37 from fun W hl=>⟨hb2.trans (hl.mono (by omega)),k2.keep (hl.block _ k2.lt)⟩)
 have HE:=ae (show Calls aC 102 #[.agg #[.slice a1 n1 p1,.slice a2 n2 p2,.slice a3 n3 p3],.int .i64 d,.slice al nl cl] w2 (EvPost w2 m d l) by
  have:=event_any w2 (bi hT h3 hb2) (by omega) _ (.agg #[.slice a1 n1 p1,.slice a2 n2 p2,.slice a3 n3 p3]) m ⟨_,_,_,rfl,Hx.out.keep (w':=w2) fun b _ hlt=>by rw[hw2];exact Below.heap_alloc _ _ _ hlt⟩ hki hkg hl2 hl3 d _ (.slice al l.length cl) l (Hlv.out.keep (w':=w2) fun b _ hlt=>hb2.block b hlt) hl hk;rw[Hnl.out] at this
  exact this)
 have HT:=ae (show ∀ W,Below w2.heap.size w2 W -> cL W /\ 4 <= W.heap.size from fun W hl=>⟨bi hT h3 (HR.out W hl).1,au h3 (HR.out W hl).1.size⟩);have Hw2:=ae hw2;have Hz2:=ae hz2;rw[hnl] at hl;rw[Hn2.out] at hl2;clear hw2 hb2 hz2 k2 Hx Hnx hT hki hkg c0 c1 c2 hlv hnl hk Hlv hl3
 go_enter Tryz.func57,Tryz.ntmps57
 go_wp2_with fail;rw[<- Hwx.out,<- Hw2.out];refine HE.out.mono ?_;rintro e w3 ⟨(⟨hok,rfl⟩ | ⟨hok,hal,rfl⟩ | ⟨hok,hal,r,s,rfl,⟨s1,s2,s3,rfl,ho⟩,hos⟩),hb3⟩
 ·have Hu:=ae (show useR m d l=(.empty,5) by unfold useR;rw[hok];rfl);have kr:=(HR.out w3 hb3).2.alloc (.cells #[.slice none 0 0,.slice none 0 0,.slice none 0 0] 37);have hbel:=(HR.out w3 hb3).1.alloc (HR.out w3 hb3).1.size (.cells #[.slice none 0 0,.slice none 0 0,.slice none 0 0] 37);have HL3:=ae hb3;clear HE hok hb3;unfold nilV;obtain⟨wf,hwf,hblk,hbf⟩:=fin3 kr hbel (Nat.le_succ _) (.slice none 0 0) (.slice none 0 0) (.slice none 0 0);obtain⟨y0,y1,y2⟩:=cell3 kr;have z0:=kr.free 0;have z1:=kr.free 1;have z2:=kr.free 2;have Q:=ae (cell3 hblk);have Hbf:=ae hbf;have Hwf:=ae hwf;clear hwf hblk hbf;go_wp2_with fail;rw[<- Hwf.out];obtain⟨q0,q1,q2⟩:=Q.out;exact bodyPost_ret (v:=.tuple #[nilV,.int .i64 5]) (by simp[results,Tryz.results57,go_sem,q0,q1,q2,nilV]) rfl ⟨⟨_,by rw[Hu.out],by rw[Hu.out];exact own_nil _ _,by rw[Hu.out];exact bnd_empty⟩,Hbf.out⟩
 ·have Hu:=ae (show useR m d l=(.empty,1) by unfold useR;rw[hok,hal];rfl);have kr:=(HR.out w3 hb3).2.alloc (.cells #[.slice none 0 0,.slice none 0 0,.slice none 0 0] 37);have hbel:=(HR.out w3 hb3).1.alloc (HR.out w3 hb3).1.size (.cells #[.slice none 0 0,.slice none 0 0,.slice none 0 0] 37);have HL3:=ae hb3;clear HE hok hb3 hal;unfold nilV;obtain⟨wf,hwf,hblk,hbf⟩:=fin3 kr hbel (Nat.le_succ _) (.slice none 0 0) (.slice none 0 0) (.slice none 0 0);obtain⟨y0,y1,y2⟩:=cell3 kr;have z0:=kr.free 0;have z1:=kr.free 1;have z2:=kr.free 2;have Q:=ae (cell3 hblk);have Hbf:=ae hbf;have Hwf:=ae hwf;clear hwf hblk hbf;go_wp2_with fail;rw[<- Hwf.out];obtain⟨q0,q1,q2⟩:=Q.out;exact bodyPost_ret (v:=.tuple #[nilV,.int .i64 1]) (by simp[results,Tryz.results57,go_sem,q0,q1,q2,nilV]) rfl ⟨⟨_,by rw[Hu.out],by rw[Hu.out];exact own_nil _ _,by rw[Hu.out];exact bnd_empty⟩,Hbf.out⟩
 ·have ha:=(allowed_iff d l).1 hal;have f:=valid_formed hok;have hn1:(seenUp m d).length=n1:=(up_len m d).trans Hn1.out;have hn8:=f.len;rw[Hn1.out] at hn8;have hsl:(sortK l).length=nl:=by rw[(sortK_perm l).length_eq];exact Hnl.out
  have Hsl:=ae hsl;obtain⟨b1,c1,hs1⟩:=own_shape ho.seen;obtain⟨b2,c2,hs2⟩:=own_shape ho.items;obtain⟨b3,c3,hs3⟩:=own_shape ho.gone;rw[Hnl.out] at hos;obtain⟨bs,cs,rfl⟩:=own_shape hos;dsimp only at hs1 hs2 hs3;rw[hn1] at hs1;rw[Hn2.out] at hs2;rw[Hn3.out] at hs3;subst hs1 hs2 hs3
  have hg1:∃ g,b1=some ⟨g,0,none⟩:=by
   rcases ho.seen.2 with ⟨_,h0⟩ | ⟨g,cap,cur,hv,_⟩
   ·dsimp only at h0;omega
   ·simp at hv;exact⟨g,hv.1⟩
  obtain⟨g,rfl⟩:=hg1;obtain⟨q,rfl⟩:=Int.eq_ofNat_of_zero_le ha.lo;have hq8:=ha.hi;have hqn:q < n1:=by omega
  obtain⟨now,hnow⟩:∃ now,nowR m q=now:=⟨_,rfl⟩
  have hq:q < (seenUp m q).length:=by rw[hn1];exact hqn
  have hup:(seenUp m q)[q]=now:=by
   have h1:=up_get m (q:Int) (dev_lt f ha.lo ha.hi) q;rw[Int.toNat_natCast,if_pos rfl,List.getD_eq_getElem?_getD,List.getElem?_eq_getElem hq] at h1;rw[<- hnow];unfold nowR;rw[Int.toNat_natCast];simpa using h1
  have hnb:0 <= now /\ now <= 1099511627777:=by
   have:=up_bnd f ha.lo ha.hi now (by rw[<- hup];exact aA hq);exact this
  obtain⟨w4,hw4⟩:∃ w4,w4=w3.alloc (.cells #[.slice (some ⟨g,0,none⟩) n1 c1,.slice b2 n2 c2,.slice b3 n3 c3] 37):=⟨_,rfl⟩
  have hz4:w4.heap.size=w3.heap.size+1:=by rw[hw4];simp
  have hb4:Below w3.heap.size w3 w4:=by rw[hw4];exact aE _ _
  have hO4:Blk w4 w3.heap.size [.slice (some ⟨g,0,none⟩) n1 c1,.slice b2 n2 c2,.slice b3 n3 c3] 37:=by rw[hw4];exact Blk.new _ _ _
  have ho4:=ho.below hb4;have ho1:=ho4.seen;dsimp only at ho1;rw[hn1] at ho1
  have e0:w4.cell? ⟨g,q,none⟩=some (.int .i64 now):=by
   rw[ho1.cellAt q (by omega)];simp[hq,hup]
  have hglt:g < w3.heap.size:=by
   rcases ho.seen.2 with ⟨hh,_⟩ | ⟨g',cap,cur,hv,hb,hg,_⟩
   ·simp at hh
   ·simp at hv;obtain⟨rfl,-⟩:=hv;exact lt_of_block hg
  have e0':w3.cell? ⟨g,q,none⟩=some (.int .i64 now):=by
   rw[<- e0,hw4];unfold World.cell?;rw[show (w3.alloc (.cells #[.slice (some ⟨g,0,none⟩) n1 c1,.slice b2 n2 c2,.slice b3 n3 c3] 37)).heap[g]?=w3.heap[g]? from Below.heap_alloc _ _ _ hglt]
  have hglt1:g < w3.heap.size+1:=by omega
  have hqI:(q:Int) < (n1:Int):=by omega
  obtain⟨w5,hw5⟩:∃ w5,w5=w4.alloc (.cells #[.int .i64 now] 3):=⟨_,rfl⟩
  have hz5:w5.heap.size=w3.heap.size+2:=by rw[hw5];simp[hz4]
  have hb5:Below w3.heap.size w3 w5:=by rw[hw5];exact hb4.alloc (by omega) _
  have HL3:=ae hb3;have hz23:w2.heap.size <= w3.heap.size:=hb3.size
  have HK5:=ae (show ∀ W,Below w5.heap.size w5 W -> Below w2.heap.size w2 W /\ Blk W w3.heap.size [.slice (some ⟨g,0,none⟩) n1 c1,.slice b2 n2 c2,.slice b3 n3 c3] 37 /\ W.cell? ⟨w3.heap.size+1,0,none⟩=some (.int .i64 now) /\ cD W w2.heap.size (.slice (some ⟨g,0,none⟩) n1 c1) (.slice b2 n2 c2) (.slice b3 n3 c3) ⟨seenUp m q,m.items,m.gone⟩ /\ W.ownsRow w2.heap.size 9 1 (.slice bs nl cs) nl ((sortK l).map eS) from fun W hl=>by
   have k5:Blk w5 w3.heap.size [.slice (some ⟨g,0,none⟩) n1 c1,.slice b2 n2 c2,.slice b3 n3 c3] 37:=by rw[hw5];exact hO4.alloc _
   have kn:Blk w5 (w3.heap.size+1) [.int .i64 now] 3:=by
    have:=Blk.new w4 #[.int .i64 now] 3;rw[hw5,<- hz4];exact this
   have hL:Below w3.heap.size w3 W:=hb5.trans (hl.mono (by omega));refine⟨HL3.out.trans (hL.mono hz23),k5.keep (hl.block _ k5.lt),?_,ho.below hL,bc hos hL⟩;have:=(kn.keep (hl.block _ kn.lt)).cell 0
   simpa using this)
  have H0:=ae (show Below w5.heap.size w5 w5 from Below.refl _ _);have Hw5:=ae (show w5=(w3.alloc (.cells #[.slice (some ⟨g,0,none⟩) n1 c1,.slice b2 n2 c2,.slice b3 n3 c3] 37)).alloc (.cells #[.int .i64 now] 3) by rw[hw5,hw4]);have Ha:=ae ha;have Hf:=ae f;have Hok:=ae hok;have Hal:=ae hal;have Hnb:=ae hnb;have Hnow:=ae hnow;have Hz5:=ae hz5;have Hz23:=ae hz23;clear HE hok hb3 hal ha f hn1 hn8 hos ho hup hnb hw4 hb4 hO4 ho4 ho1 e0 hw5 hb5 hz4 hz5 hsl hnow hq hq8;go_wp2_with fail;rw[<- Hw5.out];clear e0'
  go_loopw [33,11] (fun i s wr=>∃ k:Nat,k <= nl /\ i=.int .i64 (k:Int) /\ Below w5.heap.size w5 wr /\ wr.ownsRow w5.heap.size 108 4 s k ((((sortK l).take k).map (usedIt q now)).flatMap aZ)) (fun i _ _=>nl - (intOf i).toNat)
  case atStart=>exact⟨0,by omega,rfl,H0.out,World.ownsRow_nil _ _ _ _⟩
  case round=>
   obtain⟨k,hk,rfl,hbw,hown⟩:=hrel;obtain⟨a11,c11,rfl⟩:=own_shape hown;have Hbw:=ae hbw;have Hown:=ae hown;obtain⟨-,hOb,hnc,-,hos⟩:=HK5.out wr hbw;clear hbw hown
   by_cases hkn:k < nl
   ·have hkI:(k:Int) < (nl:Int):=by omega
    have hkl:k < (sortK l).length:=by rw[Hsl.out];exact hkn
    have hsr:=Rows.of_owns hos;obtain⟨bb,ob,rfl,-,-,hc⟩:=fZ (l:=sortK l) (by rw[Hsl.out];exact hsr) (by rw[Hsl.out];omega);have e1:=hc k hkl
    obtain⟨x,hx⟩:∃ x,(sortK l)[k]=x:=⟨_,rfl⟩
    rw[hx] at e1;obtain⟨i0,t1,t2,t3,t4⟩:=info_parts infoItP;obtain⟨v6,w6,hr6,hown6,hg6⟩:=bF (P:=aC) wr w5.heap.size 34 108 Tryz.underlying34 t1 t2 t3 t4 rfl (by decide) (.slice a11 k c11) k _ Hown.out #[.string ⟨x.toArray⟩,.int .i64 q,.int .i64 now,.int .i64 65536] rfl (by simp[Value.oneCell']) (by unfold maxLen;omega) (by omega) Hbw.out.size;obtain⟨a6,c6,rfl⟩:=own_shape hown6
    have hb6:Below w5.heap.size wr w6:=(((Below.refl w5.heap.size wr).alloc Hbw.out.size _).trans (Below.grownOwn (bc Hown.out (aE _ _)) hg6 (by simp;have:=Hbw.out.size;omega) (aq _)))
    have Hb6:=ae (Hbw.out.trans hb6)
    have Hown6:=ae (show w6.ownsRow w5.heap.size 108 4 (.slice a6 (k+1) c6) (k+1) ((((sortK l).take (k+1)).map (usedIt q now)).flatMap aZ) by
     rw[List.take_succ_eq_append_getElem hkl,List.map_append,List.flatMap_append,hx]
     exact hown6)
    clear hown6 hg6 hb6 t1 t2 t3 t4 hc hx hsr hos hOb;go_wp2_with fail
    go_roundw
    case rel=>exact⟨k+1,by omega,by go_num,Hb6.out,Hown6.out⟩
    case measure=>simp[intOf];omega
   ·have hkI:¬ (k:Int) < (nl:Int):=by omega
    obtain⟨o0,o1,o2⟩:=cell3 hOb;have hke:k=(sortK l).length:=by rw[Hsl.out];omega
    have hkl:k=nl:=by omega
    subst hkl
    have hUd:wr.ownsRow w5.heap.size 108 4 (.slice a11 k c11) ((sortK l).map (usedIt q now)).length (((sortK l).map (usedIt q now)).flatMap aZ):=by
     have h1:=Hown.out;rw[List.length_map,<- hke];rw[show (sortK l).take k=sortK l by rw[hke,List.take_length]] at h1;exact h1
    have hit:(useM m q l).items=mergeL RIt.pl (useBetter now) m.items ((sortK l).map (usedIt q now)):=by
     show mergeL RIt.pl (useBetter (nowR m q)) m.items ((sortK l).map (usedIt q (nowR m q)))=_;rw[Hnow.out]
    obtain⟨hL,-,-,hoW,-⟩:=HK5.out wr Hbw.out
    have hMr:=mergeIt_use wr (w3.heap.size+1) now _ _ (.slice b2 n2 c2) (.slice a11 k c11) m.items ((sortK l).map (usedIt q now)) (Rows.of_owns hoW.items) (Rows.of_owns hUd) (by rw[Hn2.out];exact hl2) (by rw[List.length_map,<- hke];exact hl) (fun x hx y hy _ W hW=>useB_any W _ now ((hW.cell (p:=⟨w3.heap.size+1,0,none⟩) (cellLt hnc)).trans hnc) x y ⟨Hnb.out.1,by have:=Hnb.out.2;omega⟩ (by
     have h1:=(known_seq (Hf.out.iknown x hx)).2.2;have h2:=(seen_get Hf.out x.pl.2.toNat).2
     omega))
    rw[<- hit] at hMr
    obtain⟨nr,hnr⟩:∃ nr,(useM m q l).items.length=nr:=⟨_,rfl⟩
    rw[hnr] at hMr;have HMr:=ae hMr;have Hnr:=ae hnr;clear hMr hit hnr hUd hos hoW hL hOb Hown hke;go_wp2_with fail;refine HMr.out.mono ?_;rintro e w6 ⟨r6,rfl,ho6,hb6⟩;obtain⟨a6,c6,rfl⟩:=own_shape ho6;have hL6:Below w5.heap.size w5 w6:=Hbw.out.trans (hb6.mono Hbw.out.size);obtain⟨hL,hOb,-,hoW,-⟩:=HK5.out w6 hL6;obtain⟨o0,o1,o2⟩:=cell3 hOb;have fo1:=hOb.free 1
    obtain⟨w7,hw7⟩:∃ w7,w7=w6.setCell ⟨w3.heap.size,1,none⟩ (.slice a6 nr c6):=⟨_,rfl⟩
    have hO7:Blk w7 w3.heap.size [.slice (some ⟨g,0,none⟩) n1 c1,.slice a6 nr c6,.slice b3 n3 c3] 37:=by rw[hw7];exact hOb.set 1 _
    have hL7:Below w2.heap.size w2 w7:=by rw[hw7];exact hL.setCell (by show w2.heap.size <= w3.heap.size;exact Hz23.out) _
    have hwr5:=Hbw.out.size;have hz5:=Hz5.out;have hz2:=Hz2.out
    have ho7:cD w7 w.heap.size (.slice (some ⟨g,0,none⟩) n1 c1) (.slice a6 nr c6) (.slice b3 n3 c3) (useM m q l):=by
     rw[hw7];refine⟨own_base (aS hoW.seen hOb (by decide) _) (by omega),?_,own_base (aS hoW.gone hOb (by decide) _) (by omega)⟩;rw[Hnr.out];exact own_base (aS ho6 hOb (by decide) _) (by omega)
    obtain⟨hbnd,hki,hkg⟩:=use_bnd Hf.out Ha.out;have hLm:=limited_any w7 (HT.out w7 hL7).1 (HT.out w7 hL7).2 _ (.agg #[.slice (some ⟨g,0,none⟩) n1 c1,.slice a6 nr c6,.slice b3 n3 c3]) (useM m q l) ⟨_,_,_,rfl,ho7.map hbnd⟩ (fun x hx=>by have:=hki x hx;omega) (fun x hx=>by have:=hkg x hx;omega)
    obtain⟨ok,hok⟩:∃ ok,validR (useM m q l)=ok:=⟨_,rfl⟩
    rw[hok] at hLm
    have hu:useR m q l=if ok=true then (useM m q l,0) else (.empty,7):=by
     unfold useR fullR;rw[Hok.out,Hal.out,hok];cases ok <;> rfl
    have HLm:=ae hLm;have Ho7:=ae ho7;have HL7:=ae hL7;have Hu:=ae hu;have Hbnd:=ae hbnd;have Hw7:=ae hw7;obtain⟨o0',o1',o2'⟩:=cell3 hO7;clear HMr ho6 hb6 hL6 hL hOb hoW hw7 hO7 hL7 hwr5 hz5 hz2 ho7 hbnd hki hkg hLm hok hu hnc;go_wp2_with fail;rw[<- Hw7.out];refine HLm.out.mono ?_;rintro e w8 ⟨rfl,hb8⟩;have hL8:Below w2.heap.size w2 w8:=HL7.out.trans (hb8.mono HL7.out.size);have kr:=(HR.out w8 hL8).2;have hbel:=(HR.out w8 hL8).1;have Ho8:=ae (Ho7.out.below hb8);clear HLm hb8 hL8;cases ok with
    | false=>
      have Hu0:=ae (show useR m q l=(.empty,7) from Hu.out.trans (if_neg Bool.false_ne_true));obtain⟨wf,hwf,hblk,hbf⟩:=fin3 kr hbel (Nat.le_succ _) (.slice none 0 0) (.slice none 0 0) (.slice none 0 0);obtain⟨y0,y1,y2⟩:=cell3 kr;have z0:=kr.free 0;have z1:=kr.free 1;have z2:=kr.free 2;have Q:=ae (cell3 hblk);have Hbf:=ae hbf;have Hwf:=ae hwf;clear hwf hblk hbf;go_wp2_with fail;rw[<- Hwf.out];obtain⟨q0,q1,q2⟩:=Q.out;exact bodyPost_ret (v:=.tuple #[nilV,.int .i64 7]) (by simp[results,Tryz.results57,go_sem,q0,q1,q2,nilV]) rfl ⟨⟨_,by rw[Hu0.out],by rw[Hu0.out];exact own_nil _ _,by rw[Hu0.out];exact bnd_empty⟩,Hbf.out⟩
    | true=>
      have Hu0:=ae (show useR m q l=(useM m q l,0) from Hu.out.trans (if_pos rfl));obtain⟨wf,hwf,hblk,hbf⟩:=fin3 kr hbel (Nat.le_succ _) (.slice (some ⟨g,0,none⟩) n1 c1) (.slice a6 nr c6) (.slice b3 n3 c3);obtain⟨y0,y1,y2⟩:=cell3 kr;have z0:=kr.free 0;have z1:=kr.free 1;have z2:=kr.free 2;have Q:=ae (cell3 hblk)
      have Hof:=ae (show cD wf w.heap.size (.slice (some ⟨g,0,none⟩) n1 c1) (.slice a6 nr c6) (.slice b3 n3 c3) (useM m q l) by
       rw[hwf]
       exact((Ho8.out.setCell kr _).setCell (kr.set 0 _) _).setCell ((kr.set 0 _).set 1 _) _)
      have Hbf:=ae hbf;have Hwf:=ae hwf;clear hwf hblk hbf;go_wp2_with fail;rw[<- Hwf.out];obtain⟨q0,q1,q2⟩:=Q.out;exact bodyPost_ret (v:=.tuple #[.agg #[.slice (some ⟨g,0,none⟩) n1 c1,.slice a6 nr c6,.slice b3 n3 c3],.int .i64 0]) (by simp[results,Tryz.results57,go_sem,q0,q1,q2]) rfl ⟨⟨_,by rw[Hu0.out],by rw[Hu0.out];exact⟨_,_,_,rfl,Hof.out⟩,by rw[Hu0.out];exact Hbnd.out⟩,Hbf.out⟩
end Go.Proofs.YtobjdpngnfbicaaGreatDoor
