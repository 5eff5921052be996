/-
  UCall
-/
import Derived.Test.YtobjdpngnfbicaaGreatDoorZK26
import Derived.Test.YtobjdpngnfbicaaGreatDoorZK28
import Derived.Test.YtobjdpngnfbicaaGreatDoorZK30
import Derived.Test.YtobjdpngnfbicaaGreatDoorZK31
open Go.Lib renaming hid->ae
open Go.IntWalk renaming i64_in->af,i64_quo->ah,u32_in->aj,rem_in->am,u8_in->ap
open Nat renaming le_refl->aq,le_trans->au
open List renaming length_append->ax,length_cons->aB
open Go.Proofs.Tryz renaming prog->aC
namespace Go.Proofs.YtobjdpngnfbicaaGreatDoor
open Go.RowKit
set_option linter.unusedVariables false
set_option maxRecDepth 20000
section
open Go.Lib
attribute [local go_sem] opC upC
theorem gY {B0:Nat} {T:TypeId} {w w':World} {a:Addr} {x:Value} (h:w.cell? a=some x) (hB:B0=w.heap.size) (hh:bC B0 T w.drew w'):w'.cell? a=some x:=by
 have hb:=(hh.below (by rw[hB];exact aq _)).block a.block (by rw[hB];exact cellLt h);have hb':w'.heap[a.block]?=w.heap[a.block]?:=hb;unfold World.cell? at *;rw[hb'];exact h
theorem bC.belD {B0:Nat} {T:TypeId} {w w':World} (hB:B0=w.heap.size) (hh:bC B0 T w.drew w'):Below w.heap.size w w':=by
 have:=hh.below (by rw[hB];exact aq _);rw[hB] at this;exact(Below.refl _ _).drew.trans this
def pW:List eN:=[.steady 0,.steady 1,.steady 2,.steady 3,.steady 4,.steady 5,.steady 6,.steady 7,.steady 8,.steady 9,.move 10,.steady 11,.steady 12,.steady 13,.float 14,.fixed 15,.steady 16]
theorem ct.same {w:World} {jk:JK} {u:Nat} {M:MD} {U:MU} {n:Int} (h:UAt w jk u M U):ct w jk u (M,U,n) (.returned (.int .i64 n)) w:=⟨rfl,jk,rfl,rfl,h,fun q hq=>.inl hq,aK.refl _ _⟩
theorem ct.kept {w w':World} {jk:JK} {u:Nat} {M:MD} {U:MU} {n:Int} (h:UAt w jk u M U) (hb:Below w.heap.size w w'):ct w jk u (M,U,n) (.returned (.int .i64 n)) w':=⟨rfl,jk,rfl,rfl,h.keep hb,fun q hq=>.inl hq,aK.of_below hb⟩
theorem ct.after {w w1 w':World} {jk:JK} {u:Nat} {r:MD × MU × Int} {e:Ending} (hb:Below w.heap.size w w1) (h:ct w1 jk u r e w'):ct w jk u r e w':=by
 obtain⟨h1,jk',h2,h3,h4,h5,h6⟩:=h;exact⟨h1,jk',h2,h3,h4,fun q hq=>(h5 q hq).imp id fun hh=>au hb.size hh,(aK.of_below (F:=fun q=>jk.all q \/ q=u) hb).trans h6 fun q hq=>.inl hq⟩
theorem kD (l:List RKey) (h:∀ k ∈ l,k.length <= 1000):(dI l).length <= 10+l.length * 1010:=by
 have hq:∀ (q:List RKey),(∀ x ∈ q,x.length <= 1000) -> (q.flatMap codeText).length <= q.length * 1010:=fun q=>by
  induction q with
  | nil=>intro _;simp
  | cons x q ih=>
    intro hx;have h1:=ih fun y hy=>hx y (List.mem_cons_of_mem _ hy)
    have h2:=hx x List.mem_cons_self;have h3:=uvar_len x.length;have h4:(codeText x).length=(uvar x.length).length+x.length:=by unfold codeText;rw[ax]
    rw[List.flatMap_cons,ax,aB,h4];omega
 have h1:=hq l h;have h2:=uvar_len l.length;unfold dI;rw[ax];omega
theorem bJ.njBelow {w w':World} {s1 s2 s3:Value} {m:RMap} (h:bJ (NJ w) w s1 s2 s3 m) (hb:Below w.heap.size w w'):bJ (NJ w') w' s1 s2 s3 m:=
 (h.keep (w':=w') fun q _ hlt=>hb.block q hlt).mono fun q hq _=>dz hq (hb.block q (lK hq))
set_option maxRecDepth 100000 in
set_option maxHeartbeats 4000000 in
theorem pq (w:World) (hT:cL w) (h3:4 <= w.heap.size) (hq:bQ w) (jk:JK) (u:Nat) (M:MD) (U:MU) (h:UAt w jk u M U) (hd:U.dev < 8) (hv:validR U.m=true) (F:aV) (kv:Value) (l:List RKey) (hl:Rows F w 1 kv l.length (l.map Go.Proofs.encStr)) (hln:l.length <= 1000) (hkl:∀ k ∈ l,k.length <= 1000) (hw:M.writes+200000 < 4611686018427387904):
 Calls aC 61 #[.pointer (some ⟨u,0,none⟩),.int .u8 1,kv,.func (.func 57) #[] #[]] w (ct w jk u (cq M U l)):=by
 replace hl:=hl.mono (G:=fun q=>q < w.heap.size) fun q _ hlt=>hlt
 obtain⟨ak,ck,rfl,-⟩:=id hl;obtain⟨a1,p1,a2,p2,a3,p3,hb,hm⟩:=h.box;have hk:=b9 hv;have hlens:=valid_lens hv
 obtain⟨m,hmm⟩:∃ m,U.m=m:=⟨_,rfl⟩
 obtain⟨d,hdd⟩:∃ d,U.dev=d:=⟨_,rfl⟩
 obtain⟨bd,hbd⟩:∃ b,U.J.dead=b:=⟨_,rfl⟩
 obtain⟨n,hn⟩:∃ n,l.length=n:=⟨_,rfl⟩
 obtain⟨RR,hRR⟩:∃ r,useR U.m U.dev l=r:=⟨_,rfl⟩
 have hD:=gp w jk u M U h;rw[hmm,hdd] at hb hRR;rw[hmm] at hm hk hlens;rw[hbd] at hD;obtain⟨c0,c1,c2,c3,c4⟩:=cO hb;have HD:=ae hD;have HU:=ae h;have Hd:=ae hd;have Hv:=ae hv;have Hl:=ae hl;have Hw:=ae hw;have Hkl:=ae hkl;have Hm:=ae hm;have Hk:=ae hk;have Hlens:=ae hlens;have Hmm:=ae hmm;have Hdd:=ae hdd;have Hbd':=ae hbd;have HRR:=ae hRR;have Hn:=ae hn;have HT:=ae hT;have HQ:=ae hq;rw[hn] at hln ⊢;clear hD h hd hv hl hw hkl hm hk hlens hmm hdd hbd hRR hn hT hq hb c4
 go_enter Tryz.func61,Tryz.ntmps61
 go_wp2_with fail;refine HD.out.mono ?_;rintro e w1 ⟨rfl,rfl⟩;clear HD;cases bd with
 | true=>
   have Heq:=ae (show cq M U l=(M,U,8) by unfold cq cT;rw[if_pos Hbd'.out]);go_wp2_with fail
   go_ret
   rw[Heq.out];exact ct.same HU.out
 | false=>
   by_cases h0:n=0
   ·have h0I:(n:Int)=0:=by omega
    have Heq:=ae (show cq M U l=(M,U,0) by unfold cq cT;rw[if_neg (by rw[Hbd'.out];decide),if_pos (List.length_eq_zero_iff.1 (Hn.out.trans h0))]);clear h0;go_wp2_with fail
    go_ret
    rw[Heq.out];exact ct.same HU.out
   ·have h0I:¬ (n:Int)=0:=by omega
    have Hne:=ae (show l≠[] from fun e=>h0 (by rw[<- Hn.out,e];rfl));obtain⟨x,er⟩:=RR;have pz:∀ q x,w.cell? q=some x -> ∀ w',bC w.heap.size 37 w.drew w' -> w'.cell? q=some x:=fun q x hc w' hh=>gY hc rfl hh
    have pc0:=pz _ _ c0;have pc1:=pz _ _ c1;have pc2:=pz _ _ c2;have pc3:=pz _ _ c3;clear h0 c0 c1 c2 c3 pz;go_wp2_with fail
    skip
    refine dX (bC w.heap.size 37) (iu w.heap.size 37 3) [14] pW 60 (by kernel_rfl) (by kernel_rfl) (ew _ _) (bP _ _) (fB #[.slice none 0 0,.slice none 0 0,.slice none 0 0] rfl (aq _) (fun j hj=>?_) (fun i j hi hj hne=>?_)) ?_
    ·obtain rfl:j=14:=by simpa using hj
     exact⟨_,rfl,rfl,fun a W=>by go_simp⟩
    ·simp at hi hj;omega
    unfold pW
    repeat (refine cF (v:=?_) rfl (aD rfl) (fun w' hC=>?_) (fun K hK=>?_);rotate_left;(focus (go_simp;(try simp(disch:=omega) only[af]);(try simp(disch:=omega) only[aj]);(try simp(disch:=omega) only[ap]);(try simp(disch:=omega) only[ah]);(try simp(disch:=omega) only[am]);first | done | exact rfl));go_simp;(try simp(disch:=omega) only[af]);(try simp(disch:=omega) only[aj]);(try simp(disch:=omega) only[ap]);(try simp(disch:=omega) only[ah]);(try simp(disch:=omega) only[am]);refine hK _ ?_;clear hK K)
    refine gX rfl rfl (fun Wa hWa KK hK=>?_);go_simp;have hba:Below w.heap.size w Wa:=hWa.belD rfl;have hU:=puse_any Wa (bi HT.out h3 hba) (au h3 hba.size) _ (.agg #[.slice a1 m.seen.length p1,.slice a2 m.items.length p2,.slice a3 m.gone.length p3]) m ⟨_,_,_,rfl,Hm.out.keep (w':=Wa) fun q _ hlt=>hba.block q hlt⟩ Hk.out.1 Hk.out.2 (by have:=Hlens.out;omega) (by have:=Hlens.out;omega) (d:Int) _ (.slice ak l.length ck) l (Hl.out.keep (w':=Wa) fun q _ hlt=>hba.block q hlt) (by rw[Hn.out];omega) (fun k hk=>by have:=Hkl.out k hk;omega);rw[HRR.out,Hn.out] at hU;have Hsz:=ae hba.size;refine hU.mono ?_;rintro e wq7 ⟨⟨r1,rfl,ho,hbd⟩,hb7⟩;refine⟨_,rfl,bC.of_later hb7,hK _ _ ?_⟩;clear hK KK hU pc0 pc1 pc2 pc3;go_simp;obtain⟨t1,t2,t3,rfl,ho⟩:=ho;dsimp only at ho hbd;obtain⟨n1,m1,rfl⟩:=own_shape ho.seen;obtain⟨n2,m2,rfl⟩:=own_shape ho.items;obtain⟨n3,m3,rfl⟩:=own_shape ho.gone;have hb07:Below w.heap.size w wq7:=hba.trans (hb7.mono hba.size);have Hb07:=ae hb07;have Ho:=ae ho;have Hbd:=ae hbd;clear hb07 ho hbd hb7 hba hWa
    repeat (refine cF (v:=?_) rfl (aD rfl) (fun w' hC=>?_) (fun K hK=>?_);rotate_left;(focus (go_simp;(try simp(disch:=omega) only[af]);(try simp(disch:=omega) only[aj]);(try simp(disch:=omega) only[ap]);(try simp(disch:=omega) only[ah]);(try simp(disch:=omega) only[am]);first | done | exact rfl));go_simp;(try simp(disch:=omega) only[af]);(try simp(disch:=omega) only[aj]);(try simp(disch:=omega) only[ap]);(try simp(disch:=omega) only[ah]);(try simp(disch:=omega) only[am]);refine hK _ ?_;clear hK K)
    refine eT rfl (fun vO Wd hWd hZ hU KK hK=>?_);obtain⟨Om,LO,rfl,hO1,hO2,hO3⟩:=hZ;refine hK _ _ ?_;clear hK KK hU;go_simp
    obtain⟨x0,x1,x2,rfl⟩:∃ x0 x1 x2,LO = [x0,x1,x2]:=by
     match LO,hO3 with
     | [x0,x1,x2],_=>exact⟨x0,x1,x2,rfl⟩
    have hbd':Below w.heap.size w Wd:=Hb07.out.trans (hWd.below Hb07.out.size);obtain⟨w6,hw8,hblk8,hb8⟩:=fin3 hO2 hbd' hO1 (.slice n1 x.seen.length m1) (.slice n2 x.items.length m2) (.slice n3 x.gone.length m3)
    have hl8:bC w.heap.size 37 Wd w6:=by
     rw[hw8];exact bP _ _ _ _ _ (bP _ _ _ _ _ (bC.set hO2 hO1 0 _) (bC.set (hO2.set 0 _) hO1 1 _)) (bC.set ((hO2.set 0 _).set 1 _) hO1 2 _)
    have ho8:cD w6 w.heap.size (.slice n1 x.seen.length m1) (.slice n2 x.items.length m2) (.slice n3 x.gone.length m3) x:=
     ⟨own_base (hl8.own (hWd.own Ho.out.seen (by decide)) (by decide)) Hsz.out,own_base (hl8.own (hWd.own Ho.out.items (by decide)) (by decide)) Hsz.out,own_base (hl8.own (hWd.own Ho.out.gone (by decide)) (by decide)) Hsz.out⟩
    have HO1w6:=ae hO1;have HOw6:=ae ho8;have HBkw6:=ae hblk8;have HBdw6:=ae Hbd.out;obtain⟨y0,y1,y2⟩:=cell3 hO2;have z0:=hO2.free 0;have z1:=hO2.free 1;have z2:=hO2.free 2;have HBw6:=ae hb8;have Hl8:=ae hl8;have Hw8:=ae hw8;clear hb8 hl8 hw8 hblk8 hbd' hWd hO2 hO3 Ho Hbd Hb07 ho8;refine eU rfl rfl (fun KK hK=>?_);go_simp;rw[<- Hw8.out];refine⟨Hl8.out,hK _ _ ?_⟩;clear hK KK y0 y1 y2 z0 z1 z2 Hl8 Hw8 hO1;go_simp
    repeat (refine cF (v:=?_) rfl (aD rfl) (fun w' hC=>?_) (fun K hK=>?_);rotate_left;(focus (go_simp;(try simp(disch:=omega) only[af]);(try simp(disch:=omega) only[aj]);(try simp(disch:=omega) only[ap]);(try simp(disch:=omega) only[ah]);(try simp(disch:=omega) only[am]);first | done | exact rfl));go_simp;(try simp(disch:=omega) only[af]);(try simp(disch:=omega) only[aj]);(try simp(disch:=omega) only[ap]);(try simp(disch:=omega) only[ah]);(try simp(disch:=omega) only[am]);refine hK _ ?_;clear hK K)
    refine gr ?_
    by_cases he:er=0
    ·subst he;have HU6:=ae (HU.out.keep HBw6.out);have HX6:=ae (HOw6.out.nj HBdw6.out);have Heq:=ae (show cq M U l=ce M U (k6 l) x by unfold cq cT;rw[if_neg (by rw[Hbd'.out];decide),if_neg Hne.out,Hmm.out,Hdd.out,HRR.out];rfl)
     obtain⟨w7,hw7⟩:∃ q,q=w6.drew:=⟨_,rfl⟩
     have hb7:Below w6.heap.size w6 w7:=by rw[hw7];exact(Below.refl w6.heap.size w6).drew
     have hB7:Below w.heap.size w w7:=HBw6.out.trans (hb7.mono HBw6.out.size);obtain⟨o0,o1,o2⟩:=cell3 (HBkw6.out.keep (hb7.block _ HBkw6.out.lt));have pz:∀ q x,w7.cell? q=some x -> ∀ w',aI w7 w' -> w'.cell? q=some x:=fun q x hc w' hh=>(hh.cell (p:=q) (cellLt hc)).trans hc
     have po0:=pz _ _ o0;have po1:=pz _ _ o1;have po2:=pz _ _ o2;have hP:=jw w7 _ (.slice ak l.length ck) l (Hl.out.keep (w':=w7) fun q hq _=>hB7.block q hq) (by rw[Hn.out];omega) (fun k hk=>by have:=Hkl.out k hk;omega);rw[Hn.out] at hP;have HP:=ae hP;have Hw7:=ae hw7;have HB7:=ae hB7;have HX7:=ae (HX6.out.njBelow hb7);have HLB:=ae (show (dI l).length <= 2000000 by have:=kD l Hkl.out;rw[Hn.out] at this;omega);clear hP hw7 hb7 hB7 o0 o1 o2 pz;go_wp2_with fail;refine bh aI 7 [(0,true),(1,true),(2,true),(6,true),(3,false),(4,false),(5,false),(7,false),(8,true)] (by kernel_rfl) (by kernel_rfl) (by kernel_rfl) aH aG ?_;rw[<- Hw7.out]
     repeat (refine aX (v:=?_) rfl (aD rfl) (fun w' hC=>?_) (fun K hK=>?_);rotate_left;(focus (go_simp;first | done | exact rfl));go_simp;refine hK _ ?_;clear hK K)
     clear po0 po1 po2;refine bS rfl rfl (fun KK hK=>?_);go_simp;refine HP.out.mono ?_;rintro e w8 ⟨⟨r8,rfl,ho8⟩,hb8⟩;refine⟨_,rfl,hb8,hK _ _ ?_⟩;clear hK KK HP;go_simp;have h8:Bytes (fun _=>True) w8 r8 (dI l):=Bytes.of_owns ho8 _ fun _ _ _=>trivial
     obtain⟨a8,c8,rfl⟩:=own_shape ho8;have hr9:=ip h8.insideU (fun b hb=>hb)
     obtain⟨w9,hw9⟩:∃ w9,w9=w8.alloc (.cells #[.slice a8 (dI l).length c8] 41):=⟨_,rfl⟩
     rw[<- hw9] at hr9;have hb9:Below w7.heap.size w7 w9:=by rw[hw9];exact hb8.alloc hb8.size _
     have hR:=gF w9 _ 1 _ _ hr9 (by rw[gn];have:=HLB.out;omega) (by simp);rw[gn] at hR;have HR:=ae (show Calls aC 81 #[.int .u8 1,.slice (some ⟨w8.heap.size,0,none⟩) 1 1] w9 _ from hR);have Hw9:=ae hw9;have Hb9:=ae hb9;have Hb89:=ae (show Below w8.heap.size w8 w9 by rw[hw9];exact aE _ _)
     obtain⟨nb,hnb⟩:∃ nb,(dI l).length=nb:=⟨_,rfl⟩
     rw[hnb] at Hw9 ⊢;clear hR hr9 hw9 hb9 h8 ho8 hb8 hnb;refine bS rfl rfl (fun KK hK=>?_);go_simp;rw[<- Hw9.out];refine⟨Hb89.out,hK _ _ ?_⟩;clear hK KK;go_simp;refine bS rfl rfl (fun KK hK=>?_);go_simp;refine HR.out.mono ?_;rintro e w10 ⟨⟨r10,rfl,ho10⟩,hb10⟩;refine⟨_,rfl,hb10,hK _ _ ?_⟩;clear hK KK HR;go_simp;have hb7a:Below w7.heap.size w7 w10:=Hb9.out.trans (hb10.mono Hb9.out.size);have hBA:Below w.heap.size w w10:=HB7.out.trans (hb7a.mono HB7.out.size);have hjl:=HU.out.jat.lt;have h9w:w.heap.size <= w9.heap.size:=au HB7.out.size Hb9.out.size;have hB10:Bytes (fun q=>w9.heap.size <= q /\ q < w10.heap.size) w10 r10 (k6 l):=Bytes.of_owns ho10 _ fun q h1 h2=>⟨h1,h2⟩
     have hW:=i7 w10 (bi HT.out h3 hBA) (au h3 hBA.size) (HQ.out.keep (hBA.block 0 (by omega))) jk u M U (HU.out.keep hBA) Hd.out Hv.out _ r10 (k6 l) hB10 (fun q hq=>⟨hq.2,fun ha=>by have:=hjl q ha;omega⟩) (.agg #[.slice n1 x.seen.length m1,.slice n2 x.items.length m2,.slice n3 x.gone.length m3]) x ⟨_,_,_,rfl,HX7.out.njBelow hb7a⟩ Hw.out (by show (dI l).length+1 <= _;have:=HLB.out;omega);have HW:=ae hW;have HBA:=ae hBA;obtain⟨a10,c10,rfl⟩:=own_shape ho10;clear hW hBA hb7a hjl h9w hB10 ho10 hb10
     repeat (refine aX (v:=?_) rfl (aD rfl) (fun w' hC=>?_) (fun K hK=>?_);rotate_left;(focus (go_simp;first | done | exact rfl));go_simp;refine hK _ ?_;clear hK K)
     refine bK rfl rfl rfl (fun KK hK=>?_);go_simp;refine HW.out.mono ?_;rintro e w11 ⟨rfl,hrest⟩;refine⟨_,rfl,hK _ _ ?_⟩;clear hK KK HW;go_simp
     repeat (refine aX (v:=?_) rfl (aD rfl) (fun w' hC=>?_) (fun K hK=>?_);rotate_left;(focus (go_simp;first | done | exact rfl));go_simp;refine hK _ ?_;clear hK K)
     refine bR ?_;have Hrest:=ae hrest;clear hrest;go_wp2_with fail
     go_ret
     rw[Heq.out];exact ct.after HBA.out ⟨rfl,Hrest.out⟩
    ·have heI:¬ er=0:=he;have Heq:=ae (show cq M U l=(M,U,er) by unfold cq cT;rw[if_neg (by rw[Hbd'.out];decide),if_neg Hne.out,Hmm.out,Hdd.out,HRR.out];exact if_neg he);clear he;go_wp2_with fail
     go_ret
     rw[Heq.out];exact ct.kept HU.out HBw6.out
set_option maxRecDepth 100000 in
set_option maxHeartbeats 4000000 in
theorem qE (w:World) (hT:cL w) (h3:4 <= w.heap.size) (hq:bQ w) (jk:JK) (u:Nat) (M:MD) (U:MU) (h:UAt w jk u M U) (hd:U.dev < 8) (hv:validR U.m=true) (F:aV) (kv:Value) (l:List RKey) (hl:Rows F w 1 kv l.length (l.map Go.Proofs.encStr)) (hln:l.length <= 1000) (hkl:∀ k ∈ l,k.length <= 1000) (hw:M.writes+200000 < 4611686018427387904):
 Calls aC 61 #[.pointer (some ⟨u,0,none⟩),.int .u8 2,kv,.func (.func 58) #[] #[]] w (ct w jk u (du M U l)):=by
 replace hl:=hl.mono (G:=fun q=>q < w.heap.size) fun q _ hlt=>hlt
 obtain⟨ak,ck,rfl,-⟩:=id hl;obtain⟨a1,p1,a2,p2,a3,p3,hb,hm⟩:=h.box;have hk:=b9 hv;have hlens:=valid_lens hv
 obtain⟨m,hmm⟩:∃ m,U.m=m:=⟨_,rfl⟩
 obtain⟨d,hdd⟩:∃ d,U.dev=d:=⟨_,rfl⟩
 obtain⟨bd,hbd⟩:∃ b,U.J.dead=b:=⟨_,rfl⟩
 obtain⟨n,hn⟩:∃ n,l.length=n:=⟨_,rfl⟩
 obtain⟨RR,hRR⟩:∃ r,forgetR U.m U.dev l=r:=⟨_,rfl⟩
 have hD:=gp w jk u M U h;rw[hmm,hdd] at hb hRR;rw[hmm] at hm hk hlens;rw[hbd] at hD;obtain⟨c0,c1,c2,c3,c4⟩:=cO hb;have HD:=ae hD;have HU:=ae h;have Hd:=ae hd;have Hv:=ae hv;have Hl:=ae hl;have Hw:=ae hw;have Hkl:=ae hkl;have Hm:=ae hm;have Hk:=ae hk;have Hlens:=ae hlens;have Hmm:=ae hmm;have Hdd:=ae hdd;have Hbd':=ae hbd;have HRR:=ae hRR;have Hn:=ae hn;have HT:=ae hT;have HQ:=ae hq;rw[hn] at hln ⊢;clear hD h hd hv hl hw hkl hm hk hlens hmm hdd hbd hRR hn hT hq hb c4
 go_enter Tryz.func61,Tryz.ntmps61
 go_wp2_with fail;refine HD.out.mono ?_;rintro e w1 ⟨rfl,rfl⟩;clear HD;cases bd with
 | true=>
   have Heq:=ae (show du M U l=(M,U,8) by unfold du cT;rw[if_pos Hbd'.out]);go_wp2_with fail
   go_ret
   rw[Heq.out];exact ct.same HU.out
 | false=>
   by_cases h0:n=0
   ·have h0I:(n:Int)=0:=by omega
    have Heq:=ae (show du M U l=(M,U,0) by unfold du cT;rw[if_neg (by rw[Hbd'.out];decide),if_pos (List.length_eq_zero_iff.1 (Hn.out.trans h0))]);clear h0;go_wp2_with fail
    go_ret
    rw[Heq.out];exact ct.same HU.out
   ·have h0I:¬ (n:Int)=0:=by omega
    have Hne:=ae (show l≠[] from fun e=>h0 (by rw[<- Hn.out,e];rfl));obtain⟨x,er⟩:=RR;have pz:∀ q x,w.cell? q=some x -> ∀ w',bC w.heap.size 37 w.drew w' -> w'.cell? q=some x:=fun q x hc w' hh=>gY hc rfl hh
    have pc0:=pz _ _ c0;have pc1:=pz _ _ c1;have pc2:=pz _ _ c2;have pc3:=pz _ _ c3;clear h0 c0 c1 c2 c3 pz;go_wp2_with fail
    skip
    refine dX (bC w.heap.size 37) (iu w.heap.size 37 3) [14] pW 60 (by kernel_rfl) (by kernel_rfl) (ew _ _) (bP _ _) (fB #[.slice none 0 0,.slice none 0 0,.slice none 0 0] rfl (aq _) (fun j hj=>?_) (fun i j hi hj hne=>?_)) ?_
    ·obtain rfl:j=14:=by simpa using hj
     exact⟨_,rfl,rfl,fun a W=>by go_simp⟩
    ·simp at hi hj;omega
    unfold pW
    repeat (refine cF (v:=?_) rfl (aD rfl) (fun w' hC=>?_) (fun K hK=>?_);rotate_left;(focus (go_simp;(try simp(disch:=omega) only[af]);(try simp(disch:=omega) only[aj]);(try simp(disch:=omega) only[ap]);(try simp(disch:=omega) only[ah]);(try simp(disch:=omega) only[am]);first | done | exact rfl));go_simp;(try simp(disch:=omega) only[af]);(try simp(disch:=omega) only[aj]);(try simp(disch:=omega) only[ap]);(try simp(disch:=omega) only[ah]);(try simp(disch:=omega) only[am]);refine hK _ ?_;clear hK K)
    refine gX rfl rfl (fun Wa hWa KK hK=>?_);go_simp;have hba:Below w.heap.size w Wa:=hWa.belD rfl;have hU:=gO Wa (bi HT.out h3 hba) (au h3 hba.size) _ (.agg #[.slice a1 m.seen.length p1,.slice a2 m.items.length p2,.slice a3 m.gone.length p3]) m ⟨_,_,_,rfl,Hm.out.keep (w':=Wa) fun q _ hlt=>hba.block q hlt⟩ Hk.out.1 Hk.out.2 (by have:=Hlens.out;omega) (by have:=Hlens.out;omega) (d:Int) _ (.slice ak l.length ck) l (Hl.out.keep (w':=Wa) fun q _ hlt=>hba.block q hlt) (by rw[Hn.out];omega) (fun k hk=>by have:=Hkl.out k hk;omega);rw[HRR.out,Hn.out] at hU;have Hsz:=ae hba.size;refine hU.mono ?_;rintro e wq7 ⟨⟨r1,rfl,ho,hbd⟩,hb7⟩;refine⟨_,rfl,bC.of_later hb7,hK _ _ ?_⟩;clear hK KK hU pc0 pc1 pc2 pc3;go_simp;obtain⟨t1,t2,t3,rfl,ho⟩:=ho;dsimp only at ho hbd;obtain⟨n1,m1,rfl⟩:=own_shape ho.seen;obtain⟨n2,m2,rfl⟩:=own_shape ho.items;obtain⟨n3,m3,rfl⟩:=own_shape ho.gone;have hb07:Below w.heap.size w wq7:=hba.trans (hb7.mono hba.size);have Hb07:=ae hb07;have Ho:=ae ho;have Hbd:=ae hbd;clear hb07 ho hbd hb7 hba hWa
    repeat (refine cF (v:=?_) rfl (aD rfl) (fun w' hC=>?_) (fun K hK=>?_);rotate_left;(focus (go_simp;(try simp(disch:=omega) only[af]);(try simp(disch:=omega) only[aj]);(try simp(disch:=omega) only[ap]);(try simp(disch:=omega) only[ah]);(try simp(disch:=omega) only[am]);first | done | exact rfl));go_simp;(try simp(disch:=omega) only[af]);(try simp(disch:=omega) only[aj]);(try simp(disch:=omega) only[ap]);(try simp(disch:=omega) only[ah]);(try simp(disch:=omega) only[am]);refine hK _ ?_;clear hK K)
    refine eT rfl (fun vO Wd hWd hZ hU KK hK=>?_);obtain⟨Om,LO,rfl,hO1,hO2,hO3⟩:=hZ;refine hK _ _ ?_;clear hK KK hU;go_simp
    obtain⟨x0,x1,x2,rfl⟩:∃ x0 x1 x2,LO = [x0,x1,x2]:=by
     match LO,hO3 with
     | [x0,x1,x2],_=>exact⟨x0,x1,x2,rfl⟩
    have hbd':Below w.heap.size w Wd:=Hb07.out.trans (hWd.below Hb07.out.size);obtain⟨w6,hw8,hblk8,hb8⟩:=fin3 hO2 hbd' hO1 (.slice n1 x.seen.length m1) (.slice n2 x.items.length m2) (.slice n3 x.gone.length m3)
    have hl8:bC w.heap.size 37 Wd w6:=by
     rw[hw8];exact bP _ _ _ _ _ (bP _ _ _ _ _ (bC.set hO2 hO1 0 _) (bC.set (hO2.set 0 _) hO1 1 _)) (bC.set ((hO2.set 0 _).set 1 _) hO1 2 _)
    have ho8:cD w6 w.heap.size (.slice n1 x.seen.length m1) (.slice n2 x.items.length m2) (.slice n3 x.gone.length m3) x:=
     ⟨own_base (hl8.own (hWd.own Ho.out.seen (by decide)) (by decide)) Hsz.out,own_base (hl8.own (hWd.own Ho.out.items (by decide)) (by decide)) Hsz.out,own_base (hl8.own (hWd.own Ho.out.gone (by decide)) (by decide)) Hsz.out⟩
    have HO1w6:=ae hO1;have HOw6:=ae ho8;have HBkw6:=ae hblk8;have HBdw6:=ae Hbd.out;obtain⟨y0,y1,y2⟩:=cell3 hO2;have z0:=hO2.free 0;have z1:=hO2.free 1;have z2:=hO2.free 2;have HBw6:=ae hb8;have Hl8:=ae hl8;have Hw8:=ae hw8;clear hb8 hl8 hw8 hblk8 hbd' hWd hO2 hO3 Ho Hbd Hb07 ho8;refine eU rfl rfl (fun KK hK=>?_);go_simp;rw[<- Hw8.out];refine⟨Hl8.out,hK _ _ ?_⟩;clear hK KK y0 y1 y2 z0 z1 z2 Hl8 Hw8 hO1;go_simp
    repeat (refine cF (v:=?_) rfl (aD rfl) (fun w' hC=>?_) (fun K hK=>?_);rotate_left;(focus (go_simp;(try simp(disch:=omega) only[af]);(try simp(disch:=omega) only[aj]);(try simp(disch:=omega) only[ap]);(try simp(disch:=omega) only[ah]);(try simp(disch:=omega) only[am]);first | done | exact rfl));go_simp;(try simp(disch:=omega) only[af]);(try simp(disch:=omega) only[aj]);(try simp(disch:=omega) only[ap]);(try simp(disch:=omega) only[ah]);(try simp(disch:=omega) only[am]);refine hK _ ?_;clear hK K)
    refine gr ?_
    by_cases he:er=0
    ·subst he;have HU6:=ae (HU.out.keep HBw6.out);have HX6:=ae (HOw6.out.nj HBdw6.out);have Heq:=ae (show du M U l=ce M U (eZ l) x by unfold du cT;rw[if_neg (by rw[Hbd'.out];decide),if_neg Hne.out,Hmm.out,Hdd.out,HRR.out];rfl)
     obtain⟨w7,hw7⟩:∃ q,q=w6.drew:=⟨_,rfl⟩
     have hb7:Below w6.heap.size w6 w7:=by rw[hw7];exact(Below.refl w6.heap.size w6).drew
     have hB7:Below w.heap.size w w7:=HBw6.out.trans (hb7.mono HBw6.out.size);obtain⟨o0,o1,o2⟩:=cell3 (HBkw6.out.keep (hb7.block _ HBkw6.out.lt));have pz:∀ q x,w7.cell? q=some x -> ∀ w',aI w7 w' -> w'.cell? q=some x:=fun q x hc w' hh=>(hh.cell (p:=q) (cellLt hc)).trans hc
     have po0:=pz _ _ o0;have po1:=pz _ _ o1;have po2:=pz _ _ o2;have hP:=jw w7 _ (.slice ak l.length ck) l (Hl.out.keep (w':=w7) fun q hq _=>hB7.block q hq) (by rw[Hn.out];omega) (fun k hk=>by have:=Hkl.out k hk;omega);rw[Hn.out] at hP;have HP:=ae hP;have Hw7:=ae hw7;have HB7:=ae hB7;have HX7:=ae (HX6.out.njBelow hb7);have HLB:=ae (show (dI l).length <= 2000000 by have:=kD l Hkl.out;rw[Hn.out] at this;omega);clear hP hw7 hb7 hB7 o0 o1 o2 pz;go_wp2_with fail;refine bh aI 7 [(0,true),(1,true),(2,true),(6,true),(3,false),(4,false),(5,false),(7,false),(8,true)] (by kernel_rfl) (by kernel_rfl) (by kernel_rfl) aH aG ?_;rw[<- Hw7.out]
     repeat (refine aX (v:=?_) rfl (aD rfl) (fun w' hC=>?_) (fun K hK=>?_);rotate_left;(focus (go_simp;first | done | exact rfl));go_simp;refine hK _ ?_;clear hK K)
     clear po0 po1 po2;refine bS rfl rfl (fun KK hK=>?_);go_simp;refine HP.out.mono ?_;rintro e w8 ⟨⟨r8,rfl,ho8⟩,hb8⟩;refine⟨_,rfl,hb8,hK _ _ ?_⟩;clear hK KK HP;go_simp;have h8:Bytes (fun _=>True) w8 r8 (dI l):=Bytes.of_owns ho8 _ fun _ _ _=>trivial
     obtain⟨a8,c8,rfl⟩:=own_shape ho8;have hr9:=ip h8.insideU (fun b hb=>hb)
     obtain⟨w9,hw9⟩:∃ w9,w9=w8.alloc (.cells #[.slice a8 (dI l).length c8] 41):=⟨_,rfl⟩
     rw[<- hw9] at hr9;have hb9:Below w7.heap.size w7 w9:=by rw[hw9];exact hb8.alloc hb8.size _
     have hR:=gF w9 _ 2 _ _ hr9 (by rw[gn];have:=HLB.out;omega) (by simp);rw[gn] at hR;have HR:=ae (show Calls aC 81 #[.int .u8 2,.slice (some ⟨w8.heap.size,0,none⟩) 1 1] w9 _ from hR);have Hw9:=ae hw9;have Hb9:=ae hb9;have Hb89:=ae (show Below w8.heap.size w8 w9 by rw[hw9];exact aE _ _)
     obtain⟨nb,hnb⟩:∃ nb,(dI l).length=nb:=⟨_,rfl⟩
     rw[hnb] at Hw9 ⊢;clear hR hr9 hw9 hb9 h8 ho8 hb8 hnb;refine bS rfl rfl (fun KK hK=>?_);go_simp;rw[<- Hw9.out];refine⟨Hb89.out,hK _ _ ?_⟩;clear hK KK;go_simp;refine bS rfl rfl (fun KK hK=>?_);go_simp;refine HR.out.mono ?_;rintro e w10 ⟨⟨r10,rfl,ho10⟩,hb10⟩;refine⟨_,rfl,hb10,hK _ _ ?_⟩;clear hK KK HR;go_simp;have hb7a:Below w7.heap.size w7 w10:=Hb9.out.trans (hb10.mono Hb9.out.size);have hBA:Below w.heap.size w w10:=HB7.out.trans (hb7a.mono HB7.out.size);have hjl:=HU.out.jat.lt;have h9w:w.heap.size <= w9.heap.size:=au HB7.out.size Hb9.out.size;have hB10:Bytes (fun q=>w9.heap.size <= q /\ q < w10.heap.size) w10 r10 (eZ l):=Bytes.of_owns ho10 _ fun q h1 h2=>⟨h1,h2⟩
     have hW:=i7 w10 (bi HT.out h3 hBA) (au h3 hBA.size) (HQ.out.keep (hBA.block 0 (by omega))) jk u M U (HU.out.keep hBA) Hd.out Hv.out _ r10 (eZ l) hB10 (fun q hq=>⟨hq.2,fun ha=>by have:=hjl q ha;omega⟩) (.agg #[.slice n1 x.seen.length m1,.slice n2 x.items.length m2,.slice n3 x.gone.length m3]) x ⟨_,_,_,rfl,HX7.out.njBelow hb7a⟩ Hw.out (by show (dI l).length+1 <= _;have:=HLB.out;omega);have HW:=ae hW;have HBA:=ae hBA;obtain⟨a10,c10,rfl⟩:=own_shape ho10;clear hW hBA hb7a hjl h9w hB10 ho10 hb10
     repeat (refine aX (v:=?_) rfl (aD rfl) (fun w' hC=>?_) (fun K hK=>?_);rotate_left;(focus (go_simp;first | done | exact rfl));go_simp;refine hK _ ?_;clear hK K)
     refine bK rfl rfl rfl (fun KK hK=>?_);go_simp;refine HW.out.mono ?_;rintro e w11 ⟨rfl,hrest⟩;refine⟨_,rfl,hK _ _ ?_⟩;clear hK KK HW;go_simp
     repeat (refine aX (v:=?_) rfl (aD rfl) (fun w' hC=>?_) (fun K hK=>?_);rotate_left;(focus (go_simp;first | done | exact rfl));go_simp;refine hK _ ?_;clear hK K)
     refine bR ?_;have Hrest:=ae hrest;clear hrest;go_wp2_with fail
     go_ret
     rw[Heq.out];exact ct.after HBA.out ⟨rfl,Hrest.out⟩
    ·have heI:¬ er=0:=he;have Heq:=ae (show du M U l=(M,U,er) by unfold du cT;rw[if_neg (by rw[Hbd'.out];decide),if_neg Hne.out,Hmm.out,Hdd.out,HRR.out];exact if_neg he);clear he;go_wp2_with fail
     go_ret
     rw[Heq.out];exact ct.kept HU.out HBw6.out
theorem jc (w:World) (hT:cL w) (h3:4 <= w.heap.size) (hq:bQ w) (jk:JK) (u:Nat) (M:MD) (U:MU) (h:UAt w jk u M U) (hd:U.dev < 8) (hv:validR U.m=true) (F:aV) (kv:Value) (l:List RKey) (hl:Rows F w 1 kv l.length (l.map Go.Proofs.encStr)) (hln:l.length <= 1000) (hkl:∀ k ∈ l,k.length <= 1000) (hw:M.writes+200000 < 4611686018427387904):
 Calls aC 23 #[.pointer (some ⟨u,0,none⟩),kv] w (ct w jk u (cq M U l)):=by
 have HC:=ae (pq w hT h3 hq jk u M U h hd hv F kv l hl hln hkl hw);obtain⟨ak,ck,rfl,-⟩:=id hl
 obtain⟨n,hn⟩:∃ n,l.length=n:=⟨_,rfl⟩
 rw[hn] at HC ⊢;clear hl hln hkl hw h hd hv hq hT hn
 go_enter Tryz.func23,Tryz.ntmps23
 go_wp2_with fail;refine HC.out.mono ?_;rintro e w1 ⟨rfl,hrest⟩;have Hrest:=ae hrest;clear HC hrest;go_wp2_with fail
 go_ret
 exact⟨rfl,Hrest.out⟩
theorem nU (w:World) (hT:cL w) (h3:4 <= w.heap.size) (hq:bQ w) (jk:JK) (u:Nat) (M:MD) (U:MU) (h:UAt w jk u M U) (hd:U.dev < 8) (hv:validR U.m=true) (F:aV) (kv:Value) (l:List RKey) (hl:Rows F w 1 kv l.length (l.map Go.Proofs.encStr)) (hln:l.length <= 1000) (hkl:∀ k ∈ l,k.length <= 1000) (hw:M.writes+200000 < 4611686018427387904):
 Calls aC 40 #[.pointer (some ⟨u,0,none⟩),kv] w (ct w jk u (du M U l)):=by
 have HC:=ae (qE w hT h3 hq jk u M U h hd hv F kv l hl hln hkl hw);obtain⟨ak,ck,rfl,-⟩:=id hl
 obtain⟨n,hn⟩:∃ n,l.length=n:=⟨_,rfl⟩
 rw[hn] at HC ⊢;clear hl hln hkl hw h hd hv hq hT hn
 go_enter Tryz.func40,Tryz.ntmps40
 go_wp2_with fail;refine HC.out.mono ?_;rintro e w1 ⟨rfl,hrest⟩;have Hrest:=ae hrest;clear HC hrest;go_wp2_with fail
 go_ret
 exact⟨rfl,Hrest.out⟩
theorem pt (w:World) (jk:JK) (u:Nat) (M:MD) (U:MU) (h:UAt w jk u M U):
 Calls aC 17 #[.pointer (some ⟨u,0,none⟩)] w fun e w'=>e=.returned (.int .i64 (U.dev:Int)) /\ w=w':=by
 obtain⟨a1,p1,a2,p2,a3,p3,hb,hm⟩:=h.box;obtain⟨c0,-,-,-,-⟩:=cO hb
 obtain⟨d,hd⟩:∃ d,U.dev=d:=⟨_,rfl⟩
 rw[hd] at c0 ⊢;clear hb hm hd h
 go_enter Tryz.func17,Tryz.ntmps17
 go_wp2_with fail
 go_ret
 exact⟨rfl,rfl⟩
end
end Go.Proofs.YtobjdpngnfbicaaGreatDoor
