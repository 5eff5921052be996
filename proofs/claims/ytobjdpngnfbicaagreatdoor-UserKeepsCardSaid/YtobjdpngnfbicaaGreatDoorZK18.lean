/-
  UList UReadL UListC Disk6 Disk7 Disk8 Disk9 Mk Use
-/
import Derived.Test.YtobjdpngnfbicaaGreatDoorZK08
import Derived.Test.YtobjdpngnfbicaaGreatDoorZK17
import Derived.Test.YtobjdpngnfbicaaGreatDoorZK09
import Derived.Test.YtobjdpngnfbicaaGreatDoorZK05
open Go.Lib renaming hid->ae
open Go.IntWalk renaming i64_in->af,i64_quo->ah,u32_in->aj,rem_in->am,u8_in->ap
open Nat renaming le_refl->aq,le_trans->au
open List renaming length_append->ax
open Go.Proofs.Tryz renaming prog->aC
namespace Go.Proofs.YtobjdpngnfbicaaGreatDoor
open Go.RowKit
set_option linter.unusedVariables false
set_option maxRecDepth 20000
section
open Go.Lib
attribute [local go_sem ↓] bq
attribute [local go_sem] opC upC
def rz (w:World) (R:Nat) (sl:Value) (bl:Nat) (o:Option (List RKey × List UInt8)) (e:Ending) (w':World):Prop:=
 (match o with
  | some (l,r)=>(∃ v,e=.returned v /\ w'.ownsRow w.heap.size 9 1 v l.length (l.map eS)) /\ ∃ at':Nat,at'+r.length=bl /\ Blk w' R [sl,.int .i64 (at':Int)] 247
  | none=>e=.panicked g7) /\ aK (fun q=>q=R) w w'
theorem aK.later {F:aV} {w w1 w2:World} (h:aK F w w1) (hb:Below w.heap.size w1 w2):aK F w w2:=
 ⟨hb.os.trans h.os,hb.tape.trans h.tape,hb.output.trans h.output,au h.size hb.size,fun q hq hn=>(hb.block q hq).trans (h.block q hq hn)⟩
theorem qw {b r:List UInt8} {k0 k1 n:Nat} (h:jn (b.drop k0)=some (n,r)) (hk:k0 <= b.length) (h1:k1+r.length=b.length):r=b.drop k1 /\ n <= r.length:=by
 unfold jn at h;cases ho:rdF (b.drop k0) 9 with
 | none=>rw[ho] at h;cases h
 | some p=>
   obtain⟨m,q⟩:=p;rw[ho] at h;dsimp only at h;split at h
   ·rename_i hm;obtain⟨rfl,rfl⟩:=Prod.mk.inj (Option.some.inj h);obtain⟨h2,h3⟩:=iB ho;rw[List.length_drop] at h2 h3;refine⟨?_,hm⟩;rw[List.drop_drop,show k0+(b.length - k0 - q.length)=k1 by omega] at h3;exact h3
   ·cases h
theorem rA {b r:List UInt8} {k:RKey} {kx k2:Nat} (h:rdT (b.drop kx)=some (k,r)) (hk:kx <= b.length) (h1:k2+r.length=b.length):r=b.drop k2:=by
 unfold rdT at h;cases ho:rdF (b.drop kx) 9 with
 | none=>rw[ho] at h;cases h
 | some p=>
   obtain⟨m,q⟩:=p;rw[ho] at h;dsimp only at h;split at h
   ·rename_i hm;obtain⟨rfl,rfl⟩:=Prod.mk.inj (Option.some.inj h);obtain⟨h2,h3⟩:=iB ho;rw[List.length_drop] at h2 h3;rw[List.length_drop] at h1;rw[List.drop_drop] at h3;rw[h3,List.drop_drop]
    congr 1
    omega
   ·cases h
set_option maxRecDepth 100000 in
set_option maxHeartbeats 2000000 in
theorem qx (w:World) (R:Nat) (F:aV) (av:Option Addr) (cap:Nat) (b:List UInt8) (k0:Nat) (hR:Blk w R [.slice av b.length cap,.int .i64 (k0:Int)] 247) (hB:Bytes F w (.slice av b.length cap) b) (hF:∀ q,F q -> q≠R) (hk:k0 <= b.length) (hl:b.length <= 400000):
 Calls aC 202 #[.pointer (some ⟨R,0,none⟩)] w (rz w R (.slice av b.length cap) b.length (rdL (b.drop k0))):=by
 have hM:=qq w R F av cap b k0 hR hB hF hk;have HB:=ae (show ∀ W,aK (fun q=>q=R) w W -> Bytes F W (.slice av b.length cap) b from fun W hW=>hB.only hW fun q hq e=>hF q hq e);have Hlt:=ae (show R < w.heap.size from hR.lt);rw[rn]
 obtain⟨o,ho⟩:∃ o,jn (b.drop k0)=o:=⟨_,rfl⟩
 rw[ho] at hM ⊢;have HM:=ae hM;have Ho:=ae ho;have Hl:=ae hl;have HF:=ae hF;have Hk:=ae hk;clear hM hB ho hR hl hF hk
 go_enter Tryz.func202,Tryz.ntmps202
 go_wp2_with fail;refine HM.out.mono ?_;rintro e w1 hC;clear HM;cases o with
 | none=>
   obtain⟨rfl,hO⟩:=hC;have HO:=ae hO;clear hO;go_wp2_with fail;exact⟨rfl,rfl,HO.out⟩
 | some p=>
   obtain⟨n,r⟩:=p;obtain⟨⟨rfl,k1,hk1,hb1⟩,hO⟩:=hC;obtain⟨hr1,hnr⟩:=qw Ho.out Hk.out hk1
   obtain⟨RL,hRL⟩:∃ RL,ij n r=RL:=⟨_,rfl⟩
   have hnb:n <= 400000:=by have:=Hl.out;omega
   have Hb1:=ae hb1;have HO:=ae hO;have Hr1:=ae hr1;have HRL:=ae hRL;have Hk1:=ae (show k1 <= b.length by omega);clear hb1 hO hr1 hRL hk1;go_wp2_with fail
   go_loopw [3,4] (fun v i wr=>∃ (m:Nat) (L:List RKey) (kx:Nat),i=.int .i64 (m:Int) /\ L.length+m=n /\ kx <= b.length /\ (ij m (b.drop kx)).map (fun p=>(L ++ p.1,p.2))=RL /\ wr.ownsRow w.heap.size 9 1 v L.length (L.map eS) /\ Blk wr R [.slice av b.length cap,.int .i64 (kx:Int)] 247 /\ aK (fun q=>q=R) w wr) (fun _ i _=>(intOf i).toNat)
   case atStart=>exact⟨n,[],k1,rfl,by simp,Hk1.out,by rw[<- Hr1.out,HRL.out];cases RL <;> rfl,World.ownsRow_nil _ _ _ _,Hb1.out,HO.out⟩
   case round=>
    obtain⟨m,L,kx,rfl,hLn,hkx,heq,hown,hbl,hon⟩:=hrel;obtain⟨ao,co,rfl⟩:=own_shape hown;have hT:=lu wr R F av cap b kx hbl (HB.out wr hon) HF.out hkx
    obtain⟨ot,hot⟩:∃ ot,rdT (b.drop kx)=ot:=⟨_,rfl⟩
    rw[hot] at hT;have HT:=ae hT;have Hot:=ae hot;clear hT hot;have Hown:=ae hown;have Heq:=ae heq;have Hon:=ae hon;have Hbl:=ae hbl;have Hkx:=ae hkx;clear hown heq hon hbl hkx
    by_cases h0:0 < m
    ·have h0I:(0:Int) < (m:Int):=by omega
     obtain⟨m',rfl⟩:∃ m',m=m'+1:=⟨m - 1,by omega⟩
     go_wp2_with fail;refine HT.out.mono ?_;rintro e w2 hC2;clear HT;cases ot with
     | none=>
       obtain⟨rfl,hO2⟩:=hC2
       have Hfin:=ae (show RL=none by
        rw[<- Heq.out];unfold ij;rw[Hot.out]
        rfl)
       have HO2:=ae (show aK (fun q=>q=R) w w2 from Hon.out.trans hO2 fun _ h=>.inl h);clear hO2;go_wp2_with fail;refine⟨rfl,?_⟩;show rz w R _ _ (ij n r) _ _;rw[HRL.out,Hfin.out];exact⟨rfl,HO2.out⟩
     | some p=>
       obtain⟨k,t⟩:=p;obtain⟨⟨rfl,k2,hk2,hb2⟩,hO2⟩:=hC2;have ht:=rA Hot.out Hkx.out hk2
       have hq:(ij m' (b.drop k2)).map (fun p=>((L ++ [k]) ++ p.1,p.2))=RL:=by
        rw[<- Heq.out]
        conv=>rhs;unfold ij
        rw[Hot.out];dsimp only;rw[ht,Option.map_map]
        congr 1
        funext p
        simp
       have hown:=j8 Hown.out hO2 (fun q hq e=>by have:=Hlt.out;have e':q=R:=e;omega);have hon2:aK (fun q=>q=R) w w2:=Hon.out.trans hO2 fun _ h=>.inl h
       have hsz:=hon2.size;obtain⟨i0,t1,t2,t3,t4⟩:=info_parts ry;obtain⟨v5,w9,hr5,hown5,hg5⟩:=bF (P:=aC) w2 w.heap.size 32 9 Tryz.underlying32 t1 t2 t3 t4 rfl (by decide) (.slice ao L.length co) L.length _ hown #[.string ⟨k.toArray⟩] rfl (by simp[Value.oneCell']) (by unfold maxLen;omega) (by omega) hsz;obtain⟨a9,c9,rfl⟩:=own_shape hown5;have hb9:Below w.heap.size w2 w9:=((Below.refl w.heap.size w2).alloc hsz _).trans (Below.grownOwn (bc hown (aE _ _)) hg5 (by simp;omega) (aq _))
       have Hf:=ae (show w9.ownsRow w.heap.size 9 1 (.slice a9 (L.length+1) c9) (L ++ [k]).length ((L ++ [k]).map eS) by
        rw[ax,List.map_append];exact hown5)
       have HB9:=ae (show Blk w9 R [.slice av b.length cap,.int .i64 (k2:Int)] 247 from hb2.keep (hb9.block R Hlt.out));have HO9:=ae (hon2.later hb9);have Hq:=ae hq;have Hk2:=ae (show k2 <= b.length by omega);clear hq hown hon2 hsz hown5 hg5 hb9 t1 t2 t3 t4 ht hk2 hb2 hO2;go_wp2_with fail;clear hr5
       go_roundw
       case rel=>exact⟨m',L ++ [k],k2,by go_num,by simp;omega,Hk2.out,Hq.out,by simpa using Hf.out,HB9.out,HO9.out⟩
       case measure=>simp[intOf]
    ·obtain rfl:m=0:=by omega
     have Hfin:=ae (show RL=some (L,b.drop kx) by rw[<- Heq.out];show some (L ++ [],_)=_;rw[List.append_nil]);go_wp2_with fail
     go_ret
     show rz w R _ _ (ij n r) _ _;rw[HRL.out,Hfin.out];exact⟨⟨⟨_,rfl,Hown.out⟩,kx,by rw[List.length_drop];have:=Hkx.out;omega,Hbl.out⟩,Hon.out⟩
end
section
attribute [local go_sem] opC upC
theorem me {w:World} {base:Nat} {e:TypeId} {k n:Nat} {v:Value} {xs:List Value} (h:w.ownsRow base e k v n xs) {q:Nat} (hq:v.ownBlock=some q):base <= q:=by
 rcases h.2 with ⟨rfl,_⟩ | ⟨g,cap,cur,rfl,hb,_⟩
 ·have hq':(none:Option Nat)=some q:=hq;cases hq'
 ·have hq':some g=some q:=hq;obtain rfl:=Option.some.inj hq';exact hb
theorem rB {w:World} {base base':Nat} {e:TypeId} {k n:Nat} {v:Value} {xs:List Value} (h:w.ownsRow base e k v n xs) (hb:base' <= base):w.ownsRow base' e k v n xs:=by
 refine⟨h.1,?_⟩;rcases h.2 with h0 | ⟨g,cap,cur,hv,hg,hr⟩
 ·exact .inl h0
 ·exact .inr ⟨g,cap,cur,hv,au hb hg,hr⟩
def mf (w:World) (bl:Nat) (o:Option (List RKey × List UInt8)) (e:Ending) (w':World):Prop:=Below w.heap.size w w' /\ match o with
 | none=>e=.returned (.tuple #[.slice none 0 0,.int .i64 0,.bool false])
 | some (l,r)=>∃ a c,e=.returned (.tuple #[.slice a l.length c,.int .i64 ((bl - r.length:Nat):Int),.bool true]) /\ w'.ownsRow w.heap.size 9 1 (.slice a l.length c) l.length (l.map eS)
set_option maxRecDepth 100000 in
set_option maxHeartbeats 1000000 in
theorem mh (g:Nat) (x0 x1 x2:Value) (t0 t1 t2:TypeId) (w:World) (h0:Blk w g [x0] t0) (h1:Blk w (g+1) [x1] t1) (h2:Blk w (g+2) [x2] t2):
 CallsD aC 219 #[.pointer (some ⟨g,0,none⟩),.pointer (some ⟨g+1,0,none⟩),.pointer (some ⟨g+2,0,none⟩)] (.panicking g7) w fun e u' w'=>
  e=.returned (.tuple #[]) /\ u'=.panicking iz /\ Blk w' g [.slice none 0 0] t0 /\ Blk w' (g+1) [.int .i64 0] t1 /\ Blk w' (g+2) [.bool false] t2 /\ Below g w w':=by
 refine callsD_of_wpS Tryz.func219 rfl fun c₀ cs hu=>?_
 apply wpS_seq;apply wpS_region;simp[wpOpsS,go_sem,recoverD,hu,Tryz.ntmps219,Exit.thenS,g7];refine wpS_of_wp ?_;have hta:∀ w,(Instr.typeAssert (.iface 245 (.agg #[])) 20 245 true).run aC w=.ok (.tuple #[.agg #[],.bool true]) w:=fun _=>by kernel_rfl
 obtain⟨wf,hwf⟩:∃ wf,wf=w.alloc (.cells #[] 245):=⟨_,rfl⟩
 have k0:Blk wf g [x0] t0:=by rw[hwf];exact h0.alloc _
 have k1:Blk wf (g+1) [x1] t1:=by rw[hwf];exact h1.alloc _
 have k2:Blk wf (g+2) [x2] t2:=by rw[hwf];exact h2.alloc _
 have y0:wf.cell? ⟨g,0,none⟩=some x0:=by simpa using k0.cell 0
 have y1:wf.cell? ⟨g+1,0,none⟩=some x1:=by simpa using k1.cell 0
 have y2:wf.cell? ⟨g+2,0,none⟩=some x2:=by simpa using k2.cell 0
 have z0:=k0.free 0;have z1:=k1.free 0;have z2:=k2.free 0;rw[hwf] at y0 y1 y2 z0 z1 z2;go_wp2_with fail;rw[<- hwf];have hb:Below g w wf:=by rw[hwf];exact(Below.refl g w).alloc (Nat.le_of_lt h0.lt) _
 refine⟨rfl,.panicking iz,rfl,.tuple #[],by simp[results,Tryz.results219,go_sem],rfl,rfl,?_,?_,?_,?_⟩
 ·exact((k0.set 0 _).set_other _ (by show g≠g+1;omega)).set_other _ (by show g≠g+2;omega)
 ·exact((k1.set_other _ (by show g+1≠g;omega)).set 0 _).set_other _ (by show g+1≠g+2;omega)
 ·exact((k2.set_other _ (by show g+2≠g;omega)).set_other _ (by show g+2≠g+1;omega)).set 0 _
 ·exact((hb.setCell (p:=⟨g,0,none⟩) (aq _) _).setCell (p:=⟨g+1,0,none⟩) (Nat.le_succ _) _).setCell (p:=⟨g+2,0,none⟩) (by show g <= g+2;omega) _
set_option maxRecDepth 100000 in
set_option maxHeartbeats 1000000 in
theorem nB (p0 p1 p2:Value) (w:World):
 CallsD aC 219 #[p0,p1,p2] .returning w fun e u' w'=>e=.returned (.tuple #[]) /\ u'=.returning /\ w'=w:=by
 refine callsD_of_wpS Tryz.func219 rfl fun c₀ cs hu=>?_
 apply wpS_seq;apply wpS_region;simp[wpOpsS,go_sem,recoverD,hu,Tryz.ntmps219,Exit.thenS];refine wpS_of_wp ?_;go_wp2_with fail;cases c₀
 simp_all [bodyPostS,results,Tryz.results219,go_sem]
set_option maxRecDepth 100000 in
set_option maxHeartbeats 2000000 in
theorem qy (w:World) (F:aV) (av:Option Addr) (cap:Nat) (b:List UInt8) (k0:Nat) (hB:Bytes F w (.slice av b.length cap) b) (hF:∀ q,F q -> q < w.heap.size) (hk:k0 <= b.length) (hl:b.length <= 400000):
 Calls aC 201 #[.slice av b.length cap,.int .i64 (k0:Int),.func (.func 202) #[] #[]] w (mf w b.length (rdL (b.drop k0))):=by
 have hmf:∀ (fn:Fn) (first cap:Array Value) (w:World),(Instr.makeFunc fn first cap).run aC w=.ok (.func fn first cap) w:=fun _ _ _ _=>rfl
 obtain⟨g,hg⟩:∃ g,w.heap.size=g:=⟨_,rfl⟩
 obtain⟨w1,hw1⟩:∃ w1,w1=((w.alloc (.cells #[.slice none 0 0] 32)).alloc (.cells #[.int .i64 0] 3)).alloc (.cells #[.bool false] 4):=⟨_,rfl⟩
 obtain⟨w2,hw2⟩:∃ w2,w2=w1.alloc (.cells #[.slice av b.length cap,.int .i64 (k0:Int)] 247):=⟨_,rfl⟩
 have hz1:w1.heap.size=g+3:=by rw[hw1,<- hg];simp
 have hb1:Below g w w1:=by
  rw[hw1,<- hg];exact(((Below.refl w.heap.size w).alloc (aq _) _).alloc (by simp) _).alloc (by simp;omega) _
 have hb2:Below g w w2:=hb1.trans (by rw[hw2];exact(aE _ _).mono (by omega))
 have k0':Blk w2 g [.slice none 0 0] 32:=by
  have:=(((Blk.new w #[.slice none 0 0] 32).alloc (.cells #[.int .i64 0] 3)).alloc (.cells #[.bool false] 4)).alloc (.cells #[.slice av b.length cap,.int .i64 (k0:Int)] 247);rw[hw2,hw1,<- hg];exact this
 have k1':Blk w2 (g+1) [.int .i64 0] 3:=by
  have:=((Blk.new (w.alloc (.cells #[.slice none 0 0] 32)) #[.int .i64 0] 3).alloc (.cells #[.bool false] 4)).alloc (.cells #[.slice av b.length cap,.int .i64 (k0:Int)] 247);simp only[World.size_alloc,hg] at this;rw[hw2,hw1];exact this
 have k2':Blk w2 (g+2) [.bool false] 4:=by
  have:=(Blk.new ((w.alloc (.cells #[.slice none 0 0] 32)).alloc (.cells #[.int .i64 0] 3)) #[.bool false] 4).alloc (.cells #[.slice av b.length cap,.int .i64 (k0:Int)] 247);simp only[World.size_alloc,hg] at this;rw[hw2,hw1];exact this
 have kR:Blk w2 (g+3) [.slice av b.length cap,.int .i64 (k0:Int)] 247:=by
  have:=Blk.new w1 #[.slice av b.length cap,.int .i64 (k0:Int)] 247;rw[<- hw2,hz1] at this;exact this
 have hN:=qx w2 (g+3) F av cap b k0 kR (hB.keep (w':=w2) fun q hq _=>hb2.block q (by rw[<- hg];exact hF q hq)) (fun q hq=>by have:=hF q hq;omega) hk hl
 obtain⟨o,ho⟩:∃ o,rdL (b.drop k0)=o:=⟨_,rfl⟩
 rw[ho] at hN;rw[ho];have Hz2:=ae (show w2.heap.size=g+4 by rw[hw2];simp[hz1]);have HN:=ae hN;have Hb2:=ae hb2;have K0:=ae k0';have K1:=ae k1';have K2:=ae k2';have Hw2:=ae (show w2=(((w.alloc (.cells #[.slice none 0 0] 32)).alloc (.cells #[.int .i64 0] 3)).alloc (.cells #[.bool false] 4)).alloc (.cells #[.slice av b.length cap,.int .i64 (k0:Int)] 247) by rw[hw2,hw1]);have Hg:=ae hg;have hneg:¬ (k0:Int) < 0:=by omega
 obtain⟨n,hn⟩:∃ n,b.length=n:=⟨_,rfl⟩
 clear hN hb1 hb2 k0' k1' k2' kR hw1 hw2 hz1 hB hF ho hg hn
 go_enter_defers Tryz.func201,Tryz.ntmps201
 go_wp2_with fail;rw[<- Hw2.out];rw[Hg.out];refine HN.out.mono ?_;rintro e w3 hC;clear HN;have hne:∀ q,q≠g+3 -> q < w2.heap.size -> aK (fun q=>q=g+3) w2 w3 -> w3.heap[q]?=w2.heap[q]?:=fun q h hlt hO=>hO.block q hlt h
 have Hne:=ae hne;clear hne;cases o with
 | none=>
   obtain⟨rfl,hO⟩:=hC;have h0:=K0.out.keep (Hne.out _ (by omega) K0.out.lt hO);have h1:=K1.out.keep (Hne.out _ (by omega) K1.out.lt hO);have h2:=K2.out.keep (Hne.out _ (by omega) K2.out.lt hO);have hb3:Below g w w3:=Hb2.out.trans (hO.below (fun q hq=>by have hq':q=g+3:=hq;omega) (by have:=Hb2.out.size;have:=Hg.out;omega));have H0:=ae h0;have H1:=ae h1;have H2:=ae h2;have Hb3:=ae hb3;clear hO h0 h1 h2 hb3 Hne;go_wp2_with fail;refine leaves_cons (f:=219) (args:=#[.pointer (some ⟨g,0,none⟩),.pointer (some ⟨g+1,0,none⟩),.pointer (some ⟨g+1+1,0,none⟩)]) (by simp) (by simp[go_sem]) ?_;refine(mh g _ _ _ _ _ _ w3 H0.out H1.out H2.out).mono ?_;rintro e u' w4 ⟨rfl,rfl,q0,q1,q2,hb4⟩;have c0:w4.cell? ⟨g,0,none⟩=some _:=q0.cell 0;have c1:w4.cell? ⟨g+1,0,none⟩=some _:=q1.cell 0;have c2:w4.cell? ⟨g+1+1,0,none⟩=some _:=q2.cell 0;simp[Leaves,settle,results,Tryz.results201,go_sem,iz,c0,c1,c2];exact⟨by rw[Hg.out];exact Hb3.out.trans hb4,rfl⟩
 | some p=>
   obtain⟨l,r⟩:=p;obtain⟨⟨⟨v,rfl,hown⟩,at1,hat,hR⟩,hO⟩:=hC;obtain⟨al,cl,rfl⟩:=own_shape hown;rw[Hz2.out] at hown;have h0:=K0.out.keep (Hne.out _ (by omega) K0.out.lt hO);have h1:=K1.out.keep (Hne.out _ (by omega) K1.out.lt hO);have h2:=K2.out.keep (Hne.out _ (by omega) K2.out.lt hO);have hb3:Below g w w3:=Hb2.out.trans (hO.below (fun q hq=>by have hq':q=g+3:=hq;omega) (by have:=Hb2.out.size;have:=Hg.out;omega))
   obtain⟨w4,hw4⟩:∃ w4,w4=w3.setCell ⟨g,0,none⟩ (.slice al l.length cl):=⟨_,rfl⟩
   have q0:Blk w4 g [.slice al l.length cl] 32:=by rw[hw4];exact h0.set 0 _
   have q1:Blk w4 (g+1) [.int .i64 0] 3:=by rw[hw4];exact h1.set_other _ (by show g+1≠g;omega)
   have q2:Blk w4 (g+1+1) [.bool false] 4:=by rw[hw4];exact h2.set_other _ (by show g+1+1≠g;omega)
   have qR:Blk w4 (g+1+1+1) [.slice av b.length cap,.int .i64 (at1:Int)] 247:=by rw[hw4];exact hR.set_other _ (by show g+1+1+1≠g;omega)
   have hb4:Below g w w4:=by rw[hw4];exact hb3.setCell (p:=⟨g,0,none⟩) (aq _) _
   have qow4:w4.ownsRow (g+4) 9 1 (.slice al l.length cl) l.length (l.map eS):=by rw[hw4];exact eR hown (fun q hq e=>by have:=me hown hq;omega) _
   have Qo:=ae qow4;clear qow4 hown;have c0:w3.cell? ⟨g,0,none⟩=some _:=h0.cell 0;have z0:=h0.free 0;have Q0:=ae q0;have Q1:=ae q1;have Q2:=ae q2;have QR:=ae qR;have Hb4:=ae hb4;have Hw4:=ae hw4;have Hat:=ae hat;clear hO hR h0 h1 h2 hb3 Hne q0 q1 q2 qR hb4 hw4 hat;go_wp2_with fail;rw[<- Hw4.out];clear c0 z0 Hw4;have pg:∀ w',C3 g (.slice al l.length cl) w4.drew w' -> w'.cell? ⟨g,0,none⟩=some (.slice al l.length cl):=fun w' hh=>hh.2 (Q0.out.cell 0)
   have pr:∀ w',C3 g (.slice al l.length cl) w4.drew w' -> w'.cell? ⟨g+1+1+1,1,none⟩=some (.int .i64 (at1:Int)):=fun w' hh=>C3.cell hh (a:=w4.drew) (QR.out.cell 1) (by show g+2 < g+1+1+1;omega)
   refine aJ (C3 g (.slice al l.length cl)) [(0,true),(1,true),(2,true),(3,true),(4,true),(5,false),(6,false),(7,false)] (by kernel_rfl) (by kernel_rfl) (C3.refl _ _) (C3.trans _ _) ?_
   repeat (refine aF (v:=?_) rfl (aD rfl) (fun w' hC=>?_) (fun K hK=>?_);rotate_left;(focus (go_simp;(try simp(disch:=omega) only[af]);(try simp(disch:=omega) only[aj]);(try simp(disch:=omega) only[ap]);(try simp(disch:=omega) only[ah]);(try simp(disch:=omega) only[am]);first | done | exact rfl));go_simp;(try simp(disch:=omega) only[af]);(try simp(disch:=omega) only[aj]);(try simp(disch:=omega) only[ap]);(try simp(disch:=omega) only[ah]);(try simp(disch:=omega) only[am]);refine hK _ ?_;clear hK K)
   refine aQ rfl rfl (fun KK hK=>?_);have a0:w4.drew.cell? ⟨g,0,none⟩=some _:=Q0.out.cell 0;have a1:w4.drew.frozen? ⟨g,0,none⟩=false:=Q0.out.free 0;go_simp
   obtain⟨w5,hnw⟩:∃ W,W=w4.setCell ⟨g,0,none⟩ (.slice al l.length cl):=⟨_,rfl⟩
   have q0w5:Blk w5 g [.slice al l.length cl] 32:=by rw[hnw];exact(Q0.out.set 0 _)
   have q1w5:Blk w5 (g+1) [.int .i64 0] 3:=by rw[hnw];exact(Q1.out.set_other _ (by show g+1≠g;omega))
   have q2w5:Blk w5 (g+1+1) [.bool false] 4:=by rw[hnw];exact(Q2.out.set_other _ (by show g+1+1≠g;omega))
   have hbw5:Below g w w5:=by rw[hnw];exact Hb4.out.setCell (p:=⟨g,0,none⟩) (by show g <= g;omega) _
   have qow5:w5.ownsRow (g+4) 9 1 (.slice al l.length cl) l.length (l.map eS):=by rw[hnw];exact eR Qo.out (fun q hq e=>by have:=me Qo.out hq;omega) _
   have hon:aK (fun q=>g <= q /\ q <= g+2) w4.drew w5.drew:=by rw[hnw];exact(aK.refl _ w4.drew).setCell (p:=⟨g,0,none⟩) (.inl (by show g <= g /\ g <= g+2;omega)) _
   rw[<- hnw];refine⟨⟨hon,fun _=>q0w5.cell 0⟩,hK _ _ ?_⟩;clear hK KK hnw hon a0 a1;go_simp;refine aQ rfl rfl (fun KK hK=>?_);have a0:w5.drew.cell? ⟨g+1,0,none⟩=some _:=q1w5.cell 0;have a1:w5.drew.frozen? ⟨g+1,0,none⟩=false:=q1w5.free 0;go_simp
   obtain⟨w6,hnw⟩:∃ W,W=w5.setCell ⟨g+1,0,none⟩ (.int .i64 (at1:Int)):=⟨_,rfl⟩
   have q0w6:Blk w6 g [.slice al l.length cl] 32:=by rw[hnw];exact(q0w5.set_other _ (by show g≠g+1;omega))
   have q1w6:Blk w6 (g+1) [.int .i64 (at1:Int)] 3:=by rw[hnw];exact(q1w5.set 0 _)
   have q2w6:Blk w6 (g+1+1) [.bool false] 4:=by rw[hnw];exact(q2w5.set_other _ (by show g+1+1≠g+1;omega))
   have hbw6:Below g w w6:=by rw[hnw];exact hbw5.setCell (p:=⟨g+1,0,none⟩) (by show g <= g+1;omega) _
   have qow6:w6.ownsRow (g+4) 9 1 (.slice al l.length cl) l.length (l.map eS):=by rw[hnw];exact eR qow5 (fun q hq e=>by have:=me qow5 hq;omega) _
   have hon:aK (fun q=>g <= q /\ q <= g+2) w5.drew w6.drew:=by rw[hnw];exact(aK.refl _ w5.drew).setCell (p:=⟨g+1,0,none⟩) (.inl (by show g <= g+1 /\ g+1 <= g+2;omega)) _
   rw[<- hnw];refine⟨⟨hon,fun _=>q0w6.cell 0⟩,hK _ _ ?_⟩;clear hK KK hnw hon a0 a1;go_simp;refine aQ rfl rfl (fun KK hK=>?_);have a0:w6.drew.cell? ⟨g+1+1,0,none⟩=some _:=q2w6.cell 0;have a1:w6.drew.frozen? ⟨g+1+1,0,none⟩=false:=q2w6.free 0;go_simp
   obtain⟨w7,hnw⟩:∃ W,W=w6.setCell ⟨g+1+1,0,none⟩ (.bool true):=⟨_,rfl⟩
   have q0w7:Blk w7 g [.slice al l.length cl] 32:=by rw[hnw];exact(q0w6.set_other _ (by show g≠g+1+1;omega))
   have q1w7:Blk w7 (g+1) [.int .i64 (at1:Int)] 3:=by rw[hnw];exact(q1w6.set_other _ (by show g+1≠g+1+1;omega))
   have q2w7:Blk w7 (g+1+1) [.bool true] 4:=by rw[hnw];exact(q2w6.set 0 _)
   have hbw7:Below g w w7:=by rw[hnw];exact hbw6.setCell (p:=⟨g+1+1,0,none⟩) (by show g <= g+1+1;omega) _
   have qow7:w7.ownsRow (g+4) 9 1 (.slice al l.length cl) l.length (l.map eS):=by rw[hnw];exact eR qow6 (fun q hq e=>by have:=me qow6 hq;omega) _
   have hon:aK (fun q=>g <= q /\ q <= g+2) w6.drew w7.drew:=by rw[hnw];exact(aK.refl _ w6.drew).setCell (p:=⟨g+1+1,0,none⟩) (.inl (by show g <= g+1+1 /\ g+1+1 <= g+2;omega)) _
   rw[<- hnw];refine⟨⟨hon,fun _=>q0w7.cell 0⟩,hK _ _ ?_⟩;clear hK KK hnw hon a0 a1;go_simp;refine aW ?_;clear pg pr;have Q0:=ae q0w7;have Q1:=ae q1w7;have Q2:=ae q2w7;have HB:=ae hbw7;have Qf:=ae qow7;clear qow5 qow6 qow7 q0w7 q1w7 q2w7 hbw7;go_wp2_with fail;refine leaves_cons (f:=219) (args:=#[.pointer (some ⟨g,0,none⟩),.pointer (some ⟨g+1,0,none⟩),.pointer (some ⟨g+1+1,0,none⟩)]) (by simp) (by simp[go_sem]) ?_;refine(nB _ _ _ w7.drew).mono ?_;rintro e u' w8 ⟨rfl,rfl,hw8⟩;have c0:w8.cell? ⟨g,0,none⟩=some (.slice al l.length cl):=by rw[hw8];exact Q0.out.cell 0
   have c1:w8.cell? ⟨g+1,0,none⟩=some (.int .i64 (at1:Int)):=by rw[hw8];exact Q1.out.cell 0
   have c2:w8.cell? ⟨g+1+1,0,none⟩=some (.bool true):=by rw[hw8];exact Q2.out.cell 0
   have Hw8:=ae hw8;clear hw8;simp[Leaves,settle,results,Tryz.results201,go_sem,c0,c1,c2];exact⟨by rw[Hg.out,Hw8.out];exact HB.out.drew,al,cl,by rw[show b.length - r.length=at1 by have:=Hat.out;omega],by rw[Hg.out,Hw8.out];exact rB Qf.out (by omega)⟩
end
section
attribute [local go_sem] opC upC
theorem nC (w:World) (F:aV) (av:Option Addr) (cap:Nat) (b:List UInt8) (k0:Nat) (hB:Bytes F w (.slice av b.length cap) b) (hF:∀ q,F q -> q < w.heap.size) (hk:k0 <= b.length) (hl:b.length <= 400000):
 Calls aC 159 #[.slice av b.length cap,.int .i64 (k0:Int)] w (mf w b.length (rdL (b.drop k0))):=by
 have hR:=qy w F av cap b k0 hB hF hk hl
 obtain⟨o,ho⟩:∃ o,rdL (b.drop k0)=o:=⟨_,rfl⟩
 rw[ho] at hR ⊢;have HR:=ae hR;clear hB hF ho hR
 go_enter Tryz.func159,Tryz.ntmps159
 go_wp2_with fail;refine HR.out.mono ?_;rintro e w1 hC;clear HR;cases o with
 | none=>
   obtain⟨hb,rfl⟩:=hC;go_wp2_with fail
   go_ret3
   exact⟨hb,rfl⟩
 | some p=>
   obtain⟨l,r⟩:=p;obtain⟨hb,a,c,rfl,ho⟩:=hC;have Ho:=ae ho;clear ho;go_wp2_with fail
   go_ret3
   exact⟨hb,a,c,rfl,Ho.out⟩
end
section
attribute [local go_sem ↓] bq df dg dk cP dh
theorem oN (w:World) (K:DK) (M:MD) (h:bj w K M) (t:List UInt8) (hft:M.fault=some (0,t)) (i:Nat) (hi:i < M.S.length) (hdn:M.down=false) (F:aV) (v:Value) (l:List UInt8) (hv:Bytes F w v l) (hl:l.length=64):
 Calls aC 33 #[.pointer (some ⟨K.d,0,none⟩),.int .i64 (i:Int),v] w fun e w'=>e=.returned (.int .i64 341) /\
  bj w' { K with bf:=K.d } { M with S:=M.S.set i t,fault:=none,down:=true } /\ aK K.foot w w' /\ w'.heap.size=w.heap.size:=by
 have hc:M.chk (i:Int)=0:=by unfold MD.chk;rw[hdn,if_neg (by simp),if_pos (by omega)]
 have Hc:=ae hc;clear hc;obtain⟨a,cap,rfl,hcp,hm,hz,hx⟩:=hv;clear hx hz;have h0:=h;have hnf:=h.ne2 (by rw[hft];simp);obtain⟨h1,h2,⟨cap',hcap,hcm,h3⟩,⟨L,h4,h5⟩,h6,h7⟩:=h;obtain⟨ht,hk,h7⟩:=h7 0 t hft;rw[hft] at h3;have hne:=h3.ne h4 (by decide);have hlt:=h3.lt;have c0:=h3.cell 0;have c2:=h3.cell 2;have k0:=h7.cell 0;simp at c0 c2 k0;have hsl:=h5.1;have hld0:=rf (P:=aC) (w:=w.drew) Tryz.underlying99 rfl eQ (off:=1) h7 (by simp;omega);rw[List.drop_one,List.tail_cons,List.take_of_length_le (by simp;omega)] at hld0;have hst:=oA (P:=aC) (w:=w.drew) eQ (off:=i * 64) h4 (V:=t.map B) (by simpa using ht) (by omega) (fy t);have H6:=ae h6;have Hft:=ae hft;clear h6 hft;have HS:=ae (h5.put i hi t ht)
 obtain⟨w3,hw3⟩:∃ w3,w3=w.drew.setRow K.bs (L.take (i * 64) ++ t.map B ++ L.drop (i * 64+64)).toArray:=⟨_,rfl⟩
 rw[<- hw3] at hst;have h3b:=h3.drew.row_other (L.take (i * 64) ++ t.map B ++ L.drop (i * 64+64)).toArray hne;have h4b:=h4.drew.row (L.take (i * 64) ++ t.map B ++ L.drop (i * 64+64));rw[<- hw3] at h3b h4b;have hon:aK K.foot w w3:=by rw[hw3];exact(aK.refl _ _).drew.setRow (.inl (.inr (.inl rfl))) _
 have hsz:w3.heap.size=w.heap.size:=by rw[hw3];simp
 have c2b:=h3b.cell 2;have f2b:=h3b.free 2;have c1b:=h3b.cell 1;have f1b:=h3b.free 1;simp at c1b c2b;have Hsz:=ae hsz;clear hsz;clear hw3;generalize hl2:l.length=ln at *;obtain rfl:ln=64:=hl;have HL:=ae hl2;clear hl2;have Ht:=ae ht;clear ht;have hn0:(i:Int) < (M.S.length:Int):=by omega
 go_enter Tryz.func33,Tryz.ntmps33
 go_wp2_with fail;refine(e9 w K M i h0).mono ?_;rintro e w' ⟨rfl,rfl⟩;rw[Hc.out];go_wp2_with fail
 go_still_tail 13,(by kernel_rfl)
 change wpList _ _ _ _ _ w.drew;go_wp2_with fail
 go_ret
 refine⟨rfl,⟨by simpa using h1,by simpa using h2,⟨cap',by simpa using hcap,hcm,?_⟩,⟨_,(h4b.set_other _ hne.symm).set_other _ hne.symm,HS.out⟩,fun _=>rfl,nofun⟩,(hon.setCell (.inl (.inl rfl)) _).setCell (.inl (.inl rfl)) _,?_⟩
 ·simpa using (h3b.set 2 (.pointer none)).set 1 (.bool true)
 ·simp[World.setCell];exact Hsz.out
theorem oO (w:World) (K:DK) (M:MD) (h:bj w K M) (n:Nat) (t:List UInt8) (hft:M.fault=some (n+1,t)) (i:Nat) (hi:i < M.S.length) (hdn:M.down=false) (hw:M.writes < 4611686018427387904) (F:aV) (v:Value) (l:List UInt8) (hv:Bytes F w v l) (hl:l.length=64)
 (hF:∀ b,F b -> ¬ K.foot b):
 Calls aC 33 #[.pointer (some ⟨K.d,0,none⟩),.int .i64 (i:Int),v] w fun e w'=>e=.returned (.int .i64 0) /\
  bj w' K { M with S:=M.S.set i l,fault:=some (n,t),writes:=M.writes+1 } /\ aK K.foot w w' /\ w'.heap.size=w.heap.size:=by
 have hc:M.chk (i:Int)=0:=by unfold MD.chk;rw[hdn,if_neg (by simp),if_pos (by omega)]
 have Hc:=ae hc;clear hc;have hv0:=hv;obtain⟨a,cap,rfl,hcp,hm,hz,hx⟩:=hv;obtain⟨b,off,rfl,hFb,hld⟩:=hv0.load hl;have har:=fun W:World=>gN W (some ⟨b,off,none⟩) 64 cap (aq _)
 clear hx hz;have h0:=h;have hnf:=h.ne2 (by rw[hft];simp);have hnf2:=h.ne.2;obtain⟨h1,h2,⟨cap',hcap,hcm,h3⟩,⟨L,h4,h5⟩,h6,h7⟩:=h;obtain⟨ht,hk,h7⟩:=h7 (n+1) t hft;rw[hft] at h3;have hne:=h3.ne h4 (by decide);have hlt:=h3.lt;have c0:=h3.cell 0;have c2:=h3.cell 2;have c3:=h3.cell 3;have k0:=h7.cell 0;have kf0:=h7.free 0;simp at c0 c2 c3 k0
 have hsl:=h5.1
  -- behind the fault's count
 have h3a:=h3.set_other (a:=⟨K.bf,0,none⟩) (.int .i64 (n:Int)) hnf;have h4a:=h4.set_other (a:=⟨K.bf,0,none⟩) (.int .i64 (n:Int)) hnf2;have h7a:=h7.set 0 (.int .i64 (n:Int));have hon:aK K.foot w (w.setCell ⟨K.bf,0,none⟩ (.int .i64 (n:Int))):=(aK.refl _ _).setCell (.inl (.inr (.inr rfl))) _
 have hld0:=hld ((w.setCell ⟨K.bf,0,none⟩ (.int .i64 (n:Int))).drew) (by
  have hb:=hF b hFb
  exact Below.heap_setCell w ⟨K.bf,0,none⟩ _ b (fun e=>hb (.inr (.inr e))))
 clear hld;have hsz:(w.setCell ⟨K.bf,0,none⟩ (.int .i64 (n:Int))).heap.size=w.heap.size:=by simp[World.setCell]
 generalize hw2:w.setCell ⟨K.bf,0,none⟩ (.int .i64 (n:Int))=w2 at *;have Hw2:=ae hw2;clear hw2;have c0a:=h3a.cell 0;simp at c0a;have hst:=oA (P:=aC) (w:=w2.drew) eQ (off:=i * 64) h4a (V:=l.map B) (by simpa using hl) (by omega) (fy l);have H6:=ae h6;have Hft:=ae hft;clear h6 hft;have HS:=ae (h5.put i hi l hl)
 obtain⟨w3,hw3⟩:∃ w3,w3=w2.drew.setRow K.bs (L.take (i * 64) ++ l.map B ++ L.drop (i * 64+64)).toArray:=⟨_,rfl⟩
 rw[<- hw3] at hst;have h3b:=h3a.drew.row_other (L.take (i * 64) ++ l.map B ++ L.drop (i * 64+64)).toArray hne;have h4b:=h4a.drew.row (L.take (i * 64) ++ l.map B ++ L.drop (i * 64+64));have h7b:=h7a.drew.row_other (L.take (i * 64) ++ l.map B ++ L.drop (i * 64+64)).toArray hnf2.symm;rw[<- hw3] at h3b h4b h7b;have hon3:aK K.foot w w3:=by rw[hw3];exact hon.drew.setRow (.inl (.inr (.inl rfl))) _
 have hsz3:w3.heap.size=w.heap.size:=by rw[hw3];simpa using hsz
 have c3b:=h3b.cell 3;have f3b:=h3b.free 3;simp at c3b;have Hsz3:=ae hsz3;clear hsz hsz3;clear hw3;generalize hl2:l.length=ln at *;obtain rfl:ln=64:=hl;have HL:=ae hl2;clear hl2;have Ht:=ae ht;clear ht;have hn0:(i:Int) < (M.S.length:Int):=by omega
 have hbf:((n:Int)+1 == 0)=false:=beq_eq_false_iff_ne.2 (by omega)
 go_enter Tryz.func33,Tryz.ntmps33
 go_wp2_with fail;refine(e9 w K M i h0).mono ?_;rintro e w' ⟨rfl,rfl⟩;rw[Hc.out];go_wp2_with fail;rw[Hw2.out]
 go_still_tail 9,(by kernel_rfl)
 change wpList _ _ _ _ _ w2.drew;go_wp2_with fail
 go_ret
 refine⟨rfl,⟨by simpa using h1,by simpa using h2,⟨cap',by simpa using hcap,hcm,?_⟩,⟨_,h4b.set_other _ hne.symm,HS.out⟩,nofun,fun k t' ht'=>?_⟩,hon3.setCell (.inl (.inl rfl)) _,?_⟩
 ·simpa using h3b.set 3 (.int .i64 ((M.writes:Int)+1))
 ·simp at ht';obtain⟨rfl,rfl⟩:=ht';exact⟨Ht.out,by omega,by simpa using h7b.set_other _ hnf.symm⟩
 ·simp[World.setCell];exact Hsz3.out
theorem rC (w:World) (K:DK) (M:MD) (h:bj w K M) (i:Nat) (hi:i < M.S.length) (hdn:M.down=false) (hw:M.writes < 4611686018427387904) (F:aV) (v:Value) (l:List UInt8) (hv:Bytes F w v l) (hl:l.length=64)
 (hF:∀ b,F b -> ¬ K.foot b):
 Calls aC 33 #[.pointer (some ⟨K.d,0,none⟩),.int .i64 (i:Int),v] w fun e w'=>e=.returned (.int .i64 (M.write i l).2) /\
  (∃ K',K'.d=K.d /\ (∀ b,K'.foot b -> K.foot b) /\ bj w' K' (M.write i l).1) /\ aK K.foot w w' /\ w'.heap.size=w.heap.size:=by
 cases hft:M.fault with
 | none=>
   refine(oE w K M h hft i hi hdn hw F v l hv hl).mono ?_;rintro e w' ⟨rfl,hd,ho,hs⟩;have e1:M.write i l=({ M with S:=M.S.set i l,writes:=M.writes+1 },0):=by simp[MD.write,hft]
   rw[e1];exact⟨rfl,⟨K,rfl,fun _ hb=>hb,hd⟩,ho,hs⟩
 | some p=>
   obtain⟨n,t⟩:=p;cases n with
   | zero=>
     refine(oN w K M h t hft i hi hdn F v l hv hl).mono ?_;rintro e w' ⟨rfl,hd,ho,hs⟩;have e1:M.write i l=({ M with S:=M.S.set i t,fault:=none,down:=true },341):=by simp[MD.write,hft]
     rw[e1];refine⟨rfl,⟨{ K with bf:=K.d },rfl,?_,hd⟩,ho,hs⟩;rintro b (rfl | rfl | rfl)
     ·exact .inl rfl
     ·exact .inr (.inl rfl)
     ·exact .inl rfl
   | succ n=>
     refine(oO w K M h n t hft i hi hdn hw F v l hv hl hF).mono ?_;rintro e w' ⟨rfl,hd,ho,hs⟩;have e1:M.write i l=({ M with S:=M.S.set i l,fault:=some (n,t),writes:=M.writes+1 },0):=by simp[MD.write,hft]
     rw[e1];exact⟨rfl,⟨K,rfl,fun _ hb=>hb,hd⟩,ho,hs⟩
end
section
attribute [local go_sem ↓] bq df dg dk cP dh
theorem iC (l c:Value):Instr.makeSlice 85 l c=MK 85 l c:=rfl
attribute [local go_sem ↓] iC
theorem oP:(aC.info? 99).map (fun i=>(i.zero,i.size,i.bytes))=some (some (.agg (Array.replicate 64 (.int .u8 0))),64,64):=by kernel_rfl
theorem fr (u:Value) (k n:Nat) (hk:0 < k):madeCells (Array.replicate k u) n=Array.replicate n u:=by
 apply Array.ext
 ·simp[madeCells]
 ·intro i h1 h2;simp only[madeCells,Array.getElem_map,Array.getElem_range,Array.size_replicate,Array.getElem_replicate];rw[getElem!_pos (Array.replicate k u) (i % k) (by simpa using Nat.mod_lt i hk)];simp
def MD.fresh (n:Nat):MD:={ S:=List.replicate n (List.replicate 64 0),down:=false,fault:=none,writes:=0 }
theorem la (n m:Nat) (h:n * 64 <= m):fu (List.replicate m (.int .u8 0)) (List.replicate n (List.replicate 64 0)):=by
 refine⟨by simpa using h,fun i hi=>?_,fun s hs=>?_⟩
 ·simp only[List.length_replicate] at hi;simp only[List.drop_replicate,List.take_replicate,List.getElem_replicate,List.map_replicate];rw[show min 64 (m - i * 64)=64 from by omega];rfl
 ·rw[List.eq_of_mem_replicate hs];simp
theorem tm (w:World) (n:Nat) (h1:0 < n) (h2:n <= 65536):
 Calls aC 11 #[.int .i64 (n:Int)] w fun e w'=>∃ K:DK,e=.returned (.tuple #[.pointer (some ⟨K.d,0,none⟩),.int .i64 0]) /\ bj w' K (MD.fresh n) /\ Below w.heap.size w w' /\ (∀ b,K.foot b -> w.heap.size <= b):=by
 obtain⟨i0,hi,hz0,hz1,hz2⟩:=info_parts oP;obtain⟨w2,hr,hown,hgb⟩:=run_make_full (P:=aC) w w.heap.size 85 99 i0 _ 64 Tryz.underlying85 hi hz0 hz1 .i64 .i64 n (by rw[hz2];omega) (by unfold maxLen;omega) (aq _);have hr':(MK 85 (.int .i64 (n:Int)) (.int .i64 (n:Int))).run aC w=.ok (.slice (some ⟨w.heap.size,0,none⟩) n n) w2:=hr;obtain⟨g,cap,cur,hv,hg1,hg2,hg3,hg4,hg5,hg6⟩:=hown.2.resolve_left (by rintro⟨h,_⟩;cases h);simp at hv;obtain⟨rfl,rfl⟩:=hv;have hblk:Blk w2 w.heap.size cur.toList 99:=by unfold Blk;simpa using hg2
 have hcur:cur.toList=List.replicate (n * 64) (.int .u8 0):=by
  rw[List.take_of_length_le (by simp;omega)] at hg6;rw[hg6];simp only[Value.cells];rw[fr _ _ _ (by decide)];simp
 rw[hcur] at hblk;have hlt:=hblk.lt;have hkb:Below w.heap.size w w2:=(Below.refl _ _).grown hgb (aq _) (by simp);have Hkb:=ae hkb;clear hr hown hgb hg1 hg2 hg3 hg4 hg5 hg6 hcur hkb;have Hb:=ae hblk;clear hblk
 go_enter Tryz.func11,Tryz.ntmps11
 go_wp2_with fail;go_ret2;refine⟨⟨w2.heap.size,w.heap.size,w2.heap.size⟩,rfl,⟨by simpa[MD.fresh] using h1,by simpa[MD.fresh] using h2,⟨n,by simp[MD.fresh],by unfold maxLen;omega,?_⟩,⟨_,Hb.out.alloc _,?_⟩,fun _=>rfl,nofun⟩,Hkb.out.alloc (by omega) _,?_⟩
 ·simpa[MD.fresh] using Blk.new w2 #[.slice (some ⟨w.heap.size,0,none⟩) n n,.bool false,.pointer none,.int .i64 0] 88
 ·exact la n (n * 64) (aq _)
 ·rintro b (rfl | rfl | rfl)
  ·exact Nat.le_of_lt hlt
  ·exact aq _
  ·exact Nat.le_of_lt hlt
end
section
attribute [local go_sem ↓] bq df dg dk cP dh
def AL (t:TypeId) (h:Bool) (old:Value):Sem Value:=Instr.alloc t h old
theorem gh (h:Bool) (old:Value):Instr.alloc 101 h old=AL 101 h old:=rfl
attribute [local go_sem ↓] gh
theorem fu.cut {L M:List Value} {S:List (List UInt8)} (h:fu L S) (hM:S.length * 64 <= M.length) (he:M.take (S.length * 64)=L.take (S.length * 64)):fu M S:=by
 refine⟨hM,fun i hi=>?_,h.2.2⟩;rw[<- h.2.1 i hi];apply List.ext_getElem?;intro k;simp only[List.getElem?_take,List.getElem?_drop]
 by_cases hk:k < 64
 ·rw[if_pos hk,if_pos hk];have:(M.take (S.length * 64))[i * 64+k]?=(L.take (S.length * 64))[i * 64+k]?:=by rw[he]
  rw[List.getElem?_take,List.getElem?_take,if_pos (by omega),if_pos (by omega)] at this;exact this
 ·rw[if_neg hk,if_neg hk]
end
section
attribute [local go_sem ↓] bq df dg dk cP dh gh
end
section
theorem fl (l c:Value):Instr.makeSlice 41 l c=MK 41 l c:=rfl
attribute [local go_sem ↓] bq fl
theorem j9 (w:World) (n:Nat) (h:n <= 140737488355328):
 ∃ w',(MK 41 (.int .i64 (n:Int)) (.int .i64 (n:Int))).run aC w=.ok (.slice (some ⟨w.heap.size,0,none⟩) n n) w' /\ Blk w' w.heap.size (List.replicate n (B 0)) 5 /\ Below w.heap.size w w':=by
 obtain⟨i0,hi,hz0,hz1,hz2⟩:=info_parts ig;obtain⟨w2,hr,hown,hgb⟩:=run_make_full (P:=aC) w w.heap.size 41 5 i0 _ 1 Tryz.underlying41 hi hz0 hz1 .i64 .i64 n (by rw[hz2];omega) (by unfold maxLen;omega) (aq _);refine⟨w2,hr,?_,(Below.refl _ _).grown hgb (aq _) (by simp)⟩;obtain⟨g,cap,cur,hv,hg1,hg2,hg3,hg4,hg5,hg6⟩:=hown.2.resolve_left (by rintro⟨h,_⟩;cases h);simp at hv;obtain⟨rfl,rfl⟩:=hv
 have hcur:cur.toList=List.replicate n (B 0):=by
  rw[List.take_of_length_le (by simp;omega)] at hg6;rw[hg6];have:(Value.int .u8 0).cells=Array.replicate 1 (.int .u8 0):=rfl;rw[this,fr _ _ _ (by decide)];simp only[Array.toList_replicate,Nat.mul_one];rfl
 unfold Blk;rw[<- hcur];simpa using hg2
theorem mj {w:World} {g:Nat} {l:List UInt8} {t:TypeId} (h:Blk w g (l.map B) t) (hl:l.length <= maxLen) (F:aV) (hF:F g):Bytes F w (.slice (some ⟨g,0,none⟩) l.length l.length) l:=
 ⟨_,_,rfl,aq _,hl,nofun,.inr ⟨g,0,_,t,(0,0),rfl,hF,h,by simp,fun i hi=>by simp[List.getElem?_eq_getElem hi]⟩⟩
theorem jH {w:World} {g:Nat} {c:UInt8} {t:TypeId} (h:Blk w g (List.replicate 64 (B c)) t) (F:aV) (hF:F g):Bytes F w (.slice (some ⟨g,0,none⟩) 64 64) (List.replicate 64 c):=by
 have:=mj (l:=List.replicate 64 c) (t:=t) (w:=w) (g:=g) (by simpa using h) (by simp[maxLen]) F hF;simpa using this
end
theorem bj.kept {w w':World} {K:DK} {M:MD} (h:bj w K M) (hb:Below w.heap.size w w'):bj w' K M:=
 h.keep fun b hf=>hb.block b (h.lt b hf)
theorem rD (w:World) (K:DK) (M:MD) (h:bj w K M) (n:Int) (h0:0 <= n) (hn:n <= 9223372036854775807) (F:aV) (v:Value) (l:List UInt8) (hv:Bytes F w v l) (hl:l.length=64):
 Calls aC 15 #[.pointer (some ⟨K.d,0,none⟩),.int .i64 n,v] w fun e w'=>e=.returned (.int .i64 0) /\
  (∃ K',K'.d=K.d /\ (∀ b,K'.foot b -> K.foot b \/ w.heap.size <= b) /\ bj w' K' { M with fault:=some (n.toNat,l) }) /\ aK K.foot w w':=by
 obtain⟨m,rfl⟩:=Int.eq_ofNat_of_zero_le h0;refine(sG w K M h m (by omega) F v l hv hl).mono ?_;rintro e w' ⟨rfl,hd,ho⟩;refine⟨rfl,⟨⟨K.d,K.bs,w.heap.size⟩,rfl,?_,hd⟩,ho⟩;rintro b (rfl | rfl | rfl)
 ·exact .inl (.inl rfl)
 ·exact .inl (.inr (.inl rfl))
 ·exact .inr (aq _)
theorem gT {F:aV} {w:World} {v:Value} {l:List UInt8} (h:Bytes F w v l):(convert 41 9 v).run aC w=.ok (.string ⟨l.toArray⟩) w:=by
 obtain⟨a,cap,rfl,hc,hm,hz,hx⟩:=h;cases a with
 | none=>
   have hl:l = []:=by
    rcases hx with h | ⟨b,off,L,t,fz,h,_⟩
    ·exact h
    ·cases h
   subst hl;rw[run_convert_bytes_string w 41 9 5 none _ cap Tryz.underlying41 Tryz.underlying5 Tryz.underlying9];rfl
 | some ad=>
   refine run_convert_bytes_back w 41 9 5 ad cap l Tryz.underlying41 Tryz.underlying5 Tryz.underlying9 (fun j hj=>?_);rcases hx with rfl | ⟨b,off,L,t,fz,hb,hF,hg,hL,hr⟩
   ·simp at hj
   ·simp at hb;subst hb;rw[Addr.add_lit,cell_of_row w b (off+j) L t fz hg];exact hr j hj
/-! the same with the disk's address by itself -/
end Go.Proofs.YtobjdpngnfbicaaGreatDoor
