/-
  UCall2 UCall3
-/
import Derived.Test.YtobjdpngnfbicaaGreatDoorZK32
import Derived.Test.YtobjdpngnfbicaaGreatDoorZK07
open Go.Lib renaming hid->ae
open Go.IntWalk renaming i64_in->af,i64_quo->ah,u32_in->aj,rem_in->am,u8_in->ap
open Nat renaming le_refl->aq,le_trans->au
open Go.Proofs.Tryz renaming prog->aC
namespace Go.Proofs.YtobjdpngnfbicaaGreatDoor
open Go.RowKit
set_option linter.unusedVariables false
set_option maxRecDepth 20000
section
open Go.Lib
attribute [local go_sem] opC upC
set_option maxHeartbeats 4000000 in
theorem sW (w:World) (hT:cL w) (h3:4 <= w.heap.size) (hq:bQ w) (jk:JK) (u:Nat) (M:MD) (U:MU) (h:UAt w jk u M U) (hd:U.dev < 8) (hv:validR U.m=true) (hw:M.writes+200000 < 4611686018427387904):
 Calls aC 41 #[.pointer (some ⟨u,0,none⟩)] w (ct w jk u (eJ M U)):=by
 have hD:=gp w jk u M U h
 obtain⟨bd,hbd⟩:∃ b,U.J.dead=b:=⟨_,rfl⟩
 rw[hbd] at hD
 obtain⟨w3,hw3⟩:∃ q,q=w.drew:=⟨_,rfl⟩
 have hb3:Below w.heap.size w w3:=by rw[hw3];exact(Below.refl w.heap.size w).drew
 have hU3:=h.keep hb3;obtain⟨b1,e1,b2,e2,b3,e3,hb,-⟩:=hU3.box;obtain⟨-,-,-,-,c4⟩:=cO hb
 obtain⟨jj,hjj⟩:∃ jj,jk.j=jj:=⟨_,rfl⟩
 rw[hjj] at c4;have pc4:∀ w',aI w3 w' -> w'.cell? ⟨u,4,none⟩=some (.pointer (some ⟨jj,0,none⟩)):=fun w' hh=>(hh.cell (p:=⟨u,4,none⟩) (cellLt c4)).trans c4
 have HSt:=ae (i6 w3 (bi hT h3 hb3) (au h3 hb3.size) jk u M U hU3 hd hv)
 obtain⟨sB,hsB⟩:∃ sB,dq U.dev U.m=sB:=⟨_,rfl⟩
 rw[hsB] at HSt;have HD:=ae hD;have HsB:=ae hsB;have Hw3:=ae hw3;have HU:=ae h;have HU3:=ae hU3;have HB3:=ae hb3;have Hja:=ae hjj;have Hbd:=ae hbd;have Hw:=ae hw;have HQ:=ae hq;have HT:=ae hT;clear hD hb hb3 hw3 c4 hsB hU3 h hjj hbd hw hq hT hd hv
 go_enter Tryz.func41,Tryz.ntmps41
 go_wp2_with fail;refine HD.out.mono ?_;rintro e w1 ⟨rfl,rfl⟩;clear HD;cases bd with
 | true=>
   have Heq:=ae (show eJ M U=(M,U,8) by unfold eJ;rw[if_pos Hbd.out]);clear pc4 HSt;go_wp2_with fail
   go_ret
   rw[Heq.out];exact ct.same HU.out
 | false=>
   have Heq:=ae (show eJ M U=fv M U by unfold eJ;rw[if_neg (by rw[Hbd.out];decide)]);go_wp2_with fail;refine bh aI 6 [(0,true),(1,true),(2,true),(3,true),(4,true),(5,false),(6,false),(7,true)] (by kernel_rfl) (by kernel_rfl) (by kernel_rfl) aH aG ?_;rw[<- Hw3.out]
   repeat (refine aX (v:=?_) rfl (aD rfl) (fun w' hC=>?_) (fun K hK=>?_);rotate_left;(focus (go_simp;first | done | exact rfl));go_simp;refine hK _ ?_;clear hK K)
   clear pc4;refine bS rfl rfl (fun KK hK=>?_);go_simp;refine HSt.out.mono ?_;rintro e w4 ⟨⟨r4,rfl,ho4⟩,hb4⟩;refine⟨_,rfl,hb4,hK _ _ ?_⟩;clear hK KK HSt;go_simp;have hU4:=HU3.out.keep hb4;have hj3:=HU3.out.jat.lt;have hB4:Bytes (fun q=>w3.heap.size <= q /\ q < w4.heap.size) w4 r4 sB:=Bytes.of_owns ho4 _ fun q h1 h2=>⟨h1,h2⟩
   have hb04:Below w.heap.size w w4:=HB3.out.trans (hb4.mono HB3.out.size)
   have HA:=ae (by
    have hA:=jt w4 jk M U.J hU4.jat _ _ sB hB4 (fun q hq=>⟨hq.2,fun ha=>by have:=hj3 q ha;omega⟩) (fun h0=>by have:=hU4.low 0 h0;omega) (HQ.out.keep (hb04.block 0 (by omega))) (by have:=Hw.out;omega);rw[Hja.out] at hA
    exact hA)
   have HU4:=ae hU4;have Hb04:=ae hb04;obtain⟨a4,c4,rfl⟩:=own_shape ho4
   obtain⟨r,hr⟩:∃ r,bD M U.J sB=r:=⟨_,rfl⟩
   rw[hr] at HA;obtain⟨M5,J5,er⟩:=r;have Hr:=ae hr;clear hU4 hj3 hB4 ho4 hb4 hr hb04
   repeat (refine aX (v:=?_) rfl (aD rfl) (fun w' hC=>?_) (fun K hK=>?_);rotate_left;(focus (go_simp;first | done | exact rfl));go_simp;refine hK _ ?_;clear hK K)
   refine bK rfl rfl rfl (fun KK hK=>?_);go_simp;refine HA.out.mono ?_;rintro e w5 ⟨rfl,jk3,k1,k2,k3,k4,k5⟩;obtain⟨J5',g1,g2,g3,hU5⟩:=HU4.out.moved k5 k3 (k1.trans Hja.out.symm) k4 (by have:=Hb04.out.size;omega)
   have HR5:=ae (show ct w jk u (fv M U) (.returned (.int .i64 er)) w5 from by
    have e:fv M U=(M5,⟨U.dev,U.m,J5⟩,er):=by unfold fv;rw[HsB.out,Hr.out]
    rw[e]
    exact⟨rfl,J5',g1,by rw[g2];exact k2,hU5,fun q hq=>(g3 q hq).imp id fun hh=>au Hb04.out.size hh,(aK.of_below (F:=fun q=>jk.all q \/ q=u) Hb04.out).trans k5 fun q hq=>.inl (.inl hq)⟩)
   refine⟨_,rfl,hK _ _ ?_⟩;clear hK KK HA k1 k2 k3 k4 k5 g1 g2 g3 hU5;go_simp
   repeat (refine aX (v:=?_) rfl (aD rfl) (fun w' hC=>?_) (fun K hK=>?_);rotate_left;(focus (go_simp;first | done | exact rfl));go_simp;refine hK _ ?_;clear hK K)
   refine bR ?_;go_wp2_with fail
   go_ret
   rw[Heq.out];exact HR5.out
def pX (w:World) (m:RMap) (e:Ending) (w':World):Prop:=(∃ r,e=.returned r /\ iU w' w.heap.size r m /\ Bnd m) /\ Below w.heap.size w w'
set_option maxRecDepth 100000 in
set_option maxHeartbeats 4000000 in
theorem rR (w:World) (jk:JK) (u:Nat) (M:MD) (U:MU) (h:UAt w jk u M U) (hv:validR U.m=true):
 Calls aC 19 #[.pointer (some ⟨u,0,none⟩)] w (pX w U.m):=by
 obtain⟨a1,p1,a2,p2,a3,p3,hb,hm⟩:=h.box;have hlens:=valid_lens hv
 obtain⟨m,hmm⟩:∃ m,U.m=m:=⟨_,rfl⟩
 rw[hmm] at hb hm hlens ⊢
 obtain⟨w1,hw1⟩:∃ w1,w1=w.alloc (.cells #[.slice none 0 0,.slice none 0 0,.slice none 0 0] 37):=⟨_,rfl⟩
 have hb1:Below w.heap.size w w1:=by rw[hw1];exact aE _ _
 have hO:Blk w1 w.heap.size [.slice none 0 0,.slice none 0 0,.slice none 0 0] 37:=by rw[hw1];exact Blk.new _ _ _
 have hz1:w1.heap.size=w.heap.size+1:=by rw[hw1];simp
 obtain⟨w2,hw2⟩:∃ q,q=w1.drew:=⟨_,rfl⟩
 have hb2:Below w1.heap.size w1 w2:=by rw[hw2];exact(Below.refl w1.heap.size w1).drew
 have hb02:Below w.heap.size w w2:=hb1.trans (hb2.mono hb1.size);obtain⟨c0,c1,c2,c3,c4⟩:=cO (hb.keep (hb02.block _ hb.lt));have pz:∀ q x,w2.cell? q=some x -> ∀ w',aI w2 w' -> w'.cell? q=some x:=fun q x hc w' hh=>(hh.cell (p:=q) (cellLt hc)).trans hc
 have pc1:=pz _ _ c1;have pc2:=pz _ _ c2;have pc3:=pz _ _ c3
 have HM:=ae (show ∀ W,Below w2.heap.size w2 W -> bJ (NJ w) W (.slice a1 m.seen.length p1) (.slice a2 m.items.length p2) (.slice a3 m.gone.length p3) m /\ Below w.heap.size w W /\ Blk W w.heap.size [.slice none 0 0,.slice none 0 0,.slice none 0 0] 37 from fun W hW=>by
  have hB:Below w.heap.size w W:=hb02.trans (hW.mono hb02.size)
  exact⟨hm.keep fun q _ hlt=>hB.block q hlt,hB,(hO.keep (hb2.block _ hO.lt)).keep (hW.block _ (by have:=hb2.size;omega))⟩)
 obtain⟨d,hd⟩:∃ d,U.dev=d:=⟨_,rfl⟩
 have HC1:=ae (j4 w2 _ (.slice a1 m.seen.length p1) m.seen (HM.out w2 (Below.refl _ _)).1.seen (by have:=hlens.1;omega));have Hw1:=ae hw1;have Hw2:=ae hw2;have Hlens:=ae hlens;have Hbnd:=ae hm.bnd
 obtain⟨n1,hn1⟩:∃ n,m.seen.length=n:=⟨_,rfl⟩
 obtain⟨n2,hn2⟩:∃ n,m.items.length=n:=⟨_,rfl⟩
 obtain⟨n3,hn3⟩:∃ n,m.gone.length=n:=⟨_,rfl⟩
 rw[hn1] at pc1 HC1;rw[hn2] at pc2;rw[hn3] at pc3;have Hn1:=ae hn1;have Hn2:=ae hn2;have Hn3:=ae hn3;clear hb hm hlens hw1 hb1 hO hz1 hw2 hb2 hb02 c0 c1 c2 c3 c4 pz h hv hn1 hn2 hn3
 go_enter Tryz.func19,Tryz.ntmps19
 go_wp2_with fail;rw[<- Hw1.out];refine bh aI 19 [(0,true),(1,true),(2,true),(3,true),(4,true),(6,true),(7,true),(8,true),(9,true),(10,true),(12,true),(13,true),(14,true),(15,true),(16,true),(5,false),(11,false),(17,false),(18,true),(19,false)] (by kernel_rfl) (by kernel_rfl) (by kernel_rfl) aH aG ?_;rw[<- Hw2.out]
 repeat (refine aX (v:=?_) rfl (aD rfl) (fun w' hC=>?_) (fun K hK=>?_);rotate_left;(focus (go_simp;first | done | exact rfl));go_simp;refine hK _ ?_;clear hK K)
 clear pc1 pc2 pc3;refine bS rfl rfl (fun KK hK=>?_);go_simp;refine HC1.out.mono ?_;rintro e w3 ⟨r3,rfl,ho3,hb3⟩;refine⟨_,rfl,hb3,hK _ _ ?_⟩;clear hK KK HC1;go_simp;have hC2:=jp w3 _ (.slice a2 m.items.length p2) m.items (HM.out w3 hb3).1.items (by have:=Hlens.out.2.1;omega);rw[Hn2.out] at hC2;refine bS rfl rfl (fun KK hK=>?_);go_simp;refine hC2.mono ?_;rintro e w4 ⟨r4,rfl,ho4,hb4⟩;refine⟨_,rfl,hb4,hK _ _ ?_⟩;clear hK KK hC2;go_simp;have hb24:Below w2.heap.size w2 w4:=hb3.trans (hb4.mono hb3.size);have hC3:=jq w4 _ (.slice a3 m.gone.length p3) m.gone (HM.out w4 hb24).1.gone (by have:=Hlens.out.2.2.1;omega);rw[Hn3.out] at hC3;refine bS rfl rfl (fun KK hK=>?_);go_simp;refine hC3.mono ?_;rintro e w5 ⟨r5,rfl,ho5,hb5⟩;refine⟨_,rfl,hb5,hK _ _ ?_⟩;clear hK KK hC3;go_simp;obtain⟨b3,d3,rfl⟩:=own_shape ho3;obtain⟨b4,d4,rfl⟩:=own_shape ho4;obtain⟨b5,d5,rfl⟩:=own_shape ho5;have hb35:Below w3.heap.size w3 w5:=hb4.trans (hb5.mono hb4.size);have hb25:Below w2.heap.size w2 w5:=hb3.trans (hb35.mono hb3.size);obtain⟨-,hB5,kO⟩:=HM.out w5 hb25;have hs2:w.heap.size <= w2.heap.size:=(HM.out w2 (Below.refl _ _)).2.1.size;rw[<- Hn1.out] at ho3;rw[<- Hn2.out] at ho4;rw[<- Hn3.out] at ho5
 have hown:cD w5 w.heap.size (.slice b3 m.seen.length d3) (.slice b4 m.items.length d4) (.slice b5 m.gone.length d5) m:=
  ⟨own_base (bc ho3 hb35) hs2,own_base (bc ho4 hb5) (au hs2 hb3.size),own_base ho5 (au hs2 hb24.size)⟩
 obtain⟨w6,hw6,hblk,hb6⟩:=fin3 kO hB5 (aq _) (.slice b3 m.seen.length d3) (.slice b4 m.items.length d4) (.slice b5 m.gone.length d5)
 have hown6:cD w6 w.heap.size (.slice b3 m.seen.length d3) (.slice b4 m.items.length d4) (.slice b5 m.gone.length d5) m:=by
  have one:∀ {W:World} {L:List Value} (i:Nat) (x:Value),cD W w.heap.size (.slice b3 m.seen.length d3) (.slice b4 m.items.length d4) (.slice b5 m.gone.length d5) m -> Blk W w.heap.size L 37 -> cD (W.setCell ⟨w.heap.size,i,none⟩ x) w.heap.size (.slice b3 m.seen.length d3) (.slice b4 m.items.length d4) (.slice b5 m.gone.length d5) m:=fun i x h hb=>
   ⟨aS h.seen hb (by decide) x,aS h.items hb (by decide) x,aS h.gone hb (by decide) x⟩
  rw[hw6];exact one 2 _ (one 1 _ (one 0 _ hown kO) (kO.set 0 _)) ((kO.set 0 _).set 1 _)
 obtain⟨y0,y1,y2⟩:=cell3 kO;have z0:=kO.free 0;have z1:=kO.free 1;have z2:=kO.free 2;have Q:=ae (cell3 hblk);have Hown6:=ae hown6;have Hb6:=ae hb6;have Hw6:=ae hw6;rw[Hn1.out,Hn2.out,Hn3.out] at Q Hw6;clear hown hown6 hblk hb6 hw6 ho3 ho4 ho5 hb3 hb4 hb5 hb24 hb35 hb25 kO hB5 hs2
 repeat (refine aX (v:=?_) rfl (aD rfl) (fun w' hC=>?_) (fun K hK=>?_);rotate_left;(focus (go_simp;first | done | exact rfl));go_simp;refine hK _ ?_;clear hK K)
 refine bK rfl rfl rfl (fun KK hK=>?_);go_simp;rw[<- Hw6.out];refine hK _ _ ?_;clear hK KK y0 y1 y2 z0 z1 z2;go_simp;refine bR ?_;go_wp2_with fail;obtain⟨q0,q1,q2⟩:=Q.out;exact bodyPost_ret (v:=.agg #[.slice b3 n1 d3,.slice b4 n2 d4,.slice b5 n3 d5]) (by simp[results,Tryz.results19,go_sem,q0,q1,q2]) rfl ⟨⟨_,rfl,⟨_,_,_,rfl,by have h:=Hown6.out;rw[Hn1.out,Hn2.out,Hn3.out] at h;exact h⟩,Hbnd.out⟩,Hb6.out⟩
end
section
open Go.Lib
attribute [local go_sem] opC upC
def pY:List eN:=[.steady 0,.steady 1,.steady 2,.steady 3,.steady 4,.move 5,.steady 6,.steady 7,.steady 8,.float 9,.fixed 10,.steady 11]
theorem qF {a b x:RMap} (h:mergeR a b=(x,0)):validR b=true /\ validR x=true:=by
 unfold mergeR at h;split at h
 ·rename_i hv;simp only[Bool.and_eq_true] at hv;unfold fullR at h;split at h
  ·rename_i hx;obtain⟨rfl,-⟩:=Prod.mk.inj h;exact⟨hv.2,hx⟩
  ·exact absurd (Prod.mk.inj h).2 (by decide)
 ·exact absurd (Prod.mk.inj h).2 (by decide)
theorem mD {m:RMap} (h:validR m=true):encR m=(codeR m,0):=by unfold encR;rw[h];rfl
set_option maxRecDepth 100000 in
set_option maxHeartbeats 6000000 in
theorem rS (w:World) (hT:cL w) (h3:4 <= w.heap.size) (hq:bQ w) (jk:JK) (u:Nat) (M:MD) (U:MU) (h:UAt w jk u M U) (hd:U.dev < 8) (hv:validR U.m=true) (F:aV) (gv:Value) (g:RMap) (hg:cY F w gv g) (hw:M.writes+200000 < 4611686018427387904):
 Calls aC 38 #[.pointer (some ⟨u,0,none⟩),gv] w (ct w jk u (dJ M U g)):=by
 replace hg:=hg.mono (G:=fun q=>q < w.heap.size) fun q _ hlt=>hlt
 obtain⟨s1,s2,s3,rfl,hg⟩:=hg;obtain⟨gx1,gy1,rfl,-⟩:=hg.seen.shape;obtain⟨gx2,gy2,rfl,-⟩:=hg.items.shape;obtain⟨gx3,gy3,rfl,-⟩:=hg.gone.shape;obtain⟨a1,p1,a2,p2,a3,p3,hb,hm⟩:=h.box
 obtain⟨w1,hw1⟩:∃ w1,w1=w.alloc (.cells #[.slice gx1 g.seen.length gy1,.slice gx2 g.items.length gy2,.slice gx3 g.gone.length gy3] 37):=⟨_,rfl⟩
 have hb1:Below w.heap.size w w1:=by rw[hw1];exact aE _ _
 have hO3:Blk w1 w.heap.size [.slice gx1 g.seen.length gy1,.slice gx2 g.items.length gy2,.slice gx3 g.gone.length gy3] 37:=by rw[hw1];exact Blk.new _ _ _
 have hk:=b9 hv
 obtain⟨m,hmm⟩:∃ m,U.m=m:=⟨_,rfl⟩
 obtain⟨bd,hbd⟩:∃ b,U.J.dead=b:=⟨_,rfl⟩
 obtain⟨RR,hRR⟩:∃ r,mergeR U.m g=r:=⟨_,rfl⟩
 have hD:=gp w1 jk u M U (h.keep hb1);rw[hmm] at hb hRR hm hk;rw[hbd] at hD
 have HW:=ae (show ∀ W,Below w1.heap.size w1 W -> Below w.heap.size w W /\ (W.cell? ⟨u,1,none⟩=some (.slice a1 m.seen.length p1) /\ W.cell? ⟨u,2,none⟩=some (.slice a2 m.items.length p2) /\ W.cell? ⟨u,3,none⟩=some (.slice a3 m.gone.length p3)) /\ bJ (NJ w) W (.slice a1 m.seen.length p1) (.slice a2 m.items.length p2) (.slice a3 m.gone.length p3) m /\
  (W.cell? ⟨w.heap.size,0,none⟩=some (.slice gx1 g.seen.length gy1) /\ W.cell? ⟨w.heap.size,1,none⟩=some (.slice gx2 g.items.length gy2) /\ W.cell? ⟨w.heap.size,2,none⟩=some (.slice gx3 g.gone.length gy3)) /\ bJ (fun q=>q < w.heap.size) W (.slice gx1 g.seen.length gy1) (.slice gx2 g.items.length gy2) (.slice gx3 g.gone.length gy3) g from fun W hW=>by
  have hB:Below w.heap.size w W:=hb1.trans (hW.mono hb1.size);obtain⟨-,c1,c2,c3,-⟩:=cO (hb.keep (hB.block _ hb.lt))
  exact⟨hB,⟨c1,c2,c3⟩,hm.keep fun q _ hlt=>hB.block q hlt,cell3 (hO3.keep (hW.block _ hO3.lt)),hg.keep fun q hq _=>hB.block q hq⟩)
 have HD:=ae hD;have HU:=ae h;have Hd:=ae hd;have Hv:=ae hv;have Hw:=ae hw;have Hk:=ae hk;have Hmm:=ae hmm;have Hbd':=ae hbd;have HRR:=ae hRR;have HT:=ae hT;have HQ:=ae hq;have Hw1:=ae hw1;have Hb1:=ae hb1;clear hD h hd hv hw hk hmm hbd hRR hT hq hb hm hg hO3 hw1 hb1
 go_enter Tryz.func38,Tryz.ntmps38
 go_wp2_with fail;rw[<- Hw1.out];refine HD.out.mono ?_;rintro e w2 ⟨rfl,rfl⟩;clear HD;cases bd with
 | true=>
   have Heq:=ae (show dJ M U g=(M,U,8) by unfold dJ;rw[if_pos Hbd'.out]);go_wp2_with fail
   go_ret
   rw[Heq.out];exact ct.kept HU.out Hb1.out
 | false=>
   obtain⟨x,er⟩:=RR;obtain⟨-,⟨c1,c2,c3⟩,-,⟨g1,g2,g3⟩,-⟩:=HW.out w1 (Below.refl _ _);have pz:∀ q x,w1.cell? q=some x -> ∀ w',bC w1.heap.size 37 w1.drew w' -> w'.cell? q=some x:=fun q x hc w' hh=>gY hc rfl hh
   have pc1:=pz _ _ c1;have pc2:=pz _ _ c2;have pc3:=pz _ _ c3;have pg1:=pz _ _ g1;have pg2:=pz _ _ g2;have pg3:=pz _ _ g3;clear c1 c2 c3 g1 g2 g3 pz;go_wp2_with fail
   skip
   refine dX (bC w1.heap.size 37) (iu w1.heap.size 37 3) [9] pY 60 (by kernel_rfl) (by kernel_rfl) (ew _ _) (bP _ _) (fB #[.slice none 0 0,.slice none 0 0,.slice none 0 0] rfl (aq _) (fun j hj=>?_) (fun i j hi hj hne=>?_)) ?_
   ·obtain rfl:j=9:=by simpa using hj
    exact⟨_,rfl,rfl,fun a W=>by go_simp⟩
   ·simp at hi hj;omega
   unfold pY
   repeat (refine cF (v:=?_) rfl (aD rfl) (fun w' hC=>?_) (fun K hK=>?_);rotate_left;(focus (go_simp;(try simp(disch:=omega) only[af]);(try simp(disch:=omega) only[aj]);(try simp(disch:=omega) only[ap]);(try simp(disch:=omega) only[ah]);(try simp(disch:=omega) only[am]);first | done | exact rfl));go_simp;(try simp(disch:=omega) only[af]);(try simp(disch:=omega) only[aj]);(try simp(disch:=omega) only[ap]);(try simp(disch:=omega) only[ah]);(try simp(disch:=omega) only[am]);refine hK _ ?_;clear hK K)
   refine gX rfl rfl (fun Wa hWa KK hK=>?_);go_simp;have hba:Below w1.heap.size w1 Wa:=hWa.belD rfl;obtain⟨hwa,-,hma,-,hga⟩:=HW.out Wa hba;have hU:=iq Wa (bi HT.out h3 hwa) (au h3 hwa.size) _ _ (.agg #[.slice a1 m.seen.length p1,.slice a2 m.items.length p2,.slice a3 m.gone.length p3]) (.agg #[.slice gx1 g.seen.length gy1,.slice gx2 g.items.length gy2,.slice gx3 g.gone.length gy3]) m g ⟨_,_,_,rfl,hma⟩ ⟨_,_,_,rfl,hga⟩;rw[HRR.out] at hU;have Hsz:=ae hba.size;refine hU.mono ?_;rintro e wq7 ⟨⟨r1,rfl,ho,hbd⟩,hb7⟩;refine⟨_,rfl,bC.of_later hb7,hK _ _ ?_⟩;clear hK KK hU pc1 pc2 pc3 pg1 pg2 pg3;go_simp;obtain⟨t1,t2,t3,rfl,ho⟩:=ho;dsimp only at ho hbd;obtain⟨n1,m1,rfl⟩:=own_shape ho.seen;obtain⟨n2,m2,rfl⟩:=own_shape ho.items;obtain⟨n3,m3,rfl⟩:=own_shape ho.gone;have hb07:Below w1.heap.size w1 wq7:=hba.trans (hb7.mono hba.size);have Hb07:=ae hb07;have Ho:=ae ho;have Hbd:=ae hbd;clear hb07 ho hbd hb7 hba hWa hwa hma hga
   repeat (refine cF (v:=?_) rfl (aD rfl) (fun w' hC=>?_) (fun K hK=>?_);rotate_left;(focus (go_simp;(try simp(disch:=omega) only[af]);(try simp(disch:=omega) only[aj]);(try simp(disch:=omega) only[ap]);(try simp(disch:=omega) only[ah]);(try simp(disch:=omega) only[am]);first | done | exact rfl));go_simp;(try simp(disch:=omega) only[af]);(try simp(disch:=omega) only[aj]);(try simp(disch:=omega) only[ap]);(try simp(disch:=omega) only[ah]);(try simp(disch:=omega) only[am]);refine hK _ ?_;clear hK K)
   refine eT rfl (fun vO Wd hWd hZ hU KK hK=>?_);obtain⟨Om,LO,rfl,hO1,hO2,hO3⟩:=hZ;refine hK _ _ ?_;clear hK KK hU;go_simp
   obtain⟨x0,x1,x2,rfl⟩:∃ x0 x1 x2,LO = [x0,x1,x2]:=by
    match LO,hO3 with
    | [x0,x1,x2],_=>exact⟨x0,x1,x2,rfl⟩
   have hbd':Below w1.heap.size w1 Wd:=Hb07.out.trans (hWd.below Hb07.out.size);obtain⟨w6,hw8,hblk8,hb8⟩:=fin3 hO2 hbd' hO1 (.slice n1 x.seen.length m1) (.slice n2 x.items.length m2) (.slice n3 x.gone.length m3)
   have hl8:bC w1.heap.size 37 Wd w6:=by
    rw[hw8];exact bP _ _ _ _ _ (bP _ _ _ _ _ (bC.set hO2 hO1 0 _) (bC.set (hO2.set 0 _) hO1 1 _)) (bC.set ((hO2.set 0 _).set 1 _) hO1 2 _)
   have ho8:cD w6 w1.heap.size (.slice n1 x.seen.length m1) (.slice n2 x.items.length m2) (.slice n3 x.gone.length m3) x:=
    ⟨own_base (hl8.own (hWd.own Ho.out.seen (by decide)) (by decide)) Hsz.out,own_base (hl8.own (hWd.own Ho.out.items (by decide)) (by decide)) Hsz.out,own_base (hl8.own (hWd.own Ho.out.gone (by decide)) (by decide)) Hsz.out⟩
   have HO1w6:=ae hO1;have HOw6:=ae ho8;have HBkw6:=ae hblk8;have HBdw6:=ae Hbd.out;obtain⟨y0,y1,y2⟩:=cell3 hO2;have z0:=hO2.free 0;have z1:=hO2.free 1;have z2:=hO2.free 2;have HBw6:=ae hb8;have Hl8:=ae hl8;have Hw8:=ae hw8;clear hb8 hl8 hw8 hblk8 hbd' hWd hO2 hO3 Ho Hbd Hb07 ho8;refine eU rfl rfl (fun KK hK=>?_);go_simp;rw[<- Hw8.out];refine⟨Hl8.out,hK _ _ ?_⟩;clear hK KK y0 y1 y2 z0 z1 z2 Hl8 Hw8 hO1;go_simp
   repeat (refine cF (v:=?_) rfl (aD rfl) (fun w' hC=>?_) (fun K hK=>?_);rotate_left;(focus (go_simp;(try simp(disch:=omega) only[af]);(try simp(disch:=omega) only[aj]);(try simp(disch:=omega) only[ap]);(try simp(disch:=omega) only[ah]);(try simp(disch:=omega) only[am]);first | done | exact rfl));go_simp;(try simp(disch:=omega) only[af]);(try simp(disch:=omega) only[aj]);(try simp(disch:=omega) only[ap]);(try simp(disch:=omega) only[ah]);(try simp(disch:=omega) only[am]);refine hK _ ?_;clear hK K)
   refine gr ?_
   by_cases he:er=0
   ·subst he;obtain⟨hgv,hxv⟩:=qF HRR.out;obtain⟨hB6,⟨c1,c2,c3⟩,hm6,-,-⟩:=HW.out w6 HBw6.out;have HX6:=ae (HOw6.out.nj HBdw6.out);have hE:=fR w6 (bi HT.out h3 hB6) (au h3 hB6.size) _ (.agg #[.slice a1 m.seen.length p1,.slice a2 m.items.length p2,.slice a3 m.gone.length p3]) m ⟨_,_,_,rfl,hm6⟩ Hk.out.1 Hk.out.2;rw[mD (by rw[<- Hmm.out];exact Hv.out)] at hE;have HE:=ae hE;have Hgv:=ae hgv;have Hxv:=ae hxv;have Heq:=ae (show dJ M U g=(if codeR m=codeR x then (M,U,0) else ce M U (fU g) x) by unfold dJ;rw[if_neg (by rw[Hbd'.out];decide),Hmm.out,HRR.out];exact if_pos rfl);clear hE hgv hxv hB6 hm6;go_wp2_with fail;refine HE.out.mono ?_;rintro e w7 ⟨⟨v7,rfl,hv7⟩,hb7⟩;have hx7:=HX6.out.njBelow hb7;obtain⟨o0,o1,o2⟩:=cell3 (HBkw6.out.keep (hb7.block _ HBkw6.out.lt));have hB17:Below w1.heap.size w1 w7:=HBw6.out.trans (hb7.mono HBw6.out.size);have hB7:=(HW.out w7 hB17).1;have hxk:=b9 Hxv.out;have hE2:=fR w7 (bi HT.out h3 hB7) (au h3 hB7.size) _ (.agg #[.slice n1 x.seen.length m1,.slice n2 x.items.length m2,.slice n3 x.gone.length m3]) x ⟨_,_,_,rfl,hx7⟩ hxk.1 hxk.2;rw[mD Hxv.out] at hE2;have HE2:=ae hE2;have HV7:=ae hv7;have HB17:=ae hB17;have HX7:=ae hx7;have HO7:=ae (HBkw6.out.keep (hb7.block _ HBkw6.out.lt));clear HE hE2 hv7 hb7 hx7 hB17 hB7 hxk c1 c2 c3;dsimp only at HV7;go_wp2_with fail;refine HE2.out.mono ?_;rintro e w8 ⟨⟨v8,rfl,hv8⟩,hb8⟩;have h71:=jR (HV7.out.keep (w':=w8) fun b _ hlt=>hb8.block b hlt);have h81:=jR hv8;have HB18:=ae (show Below w1.heap.size w1 w8 from HB17.out.trans (hb8.mono HB17.out.size));have HX8:=ae (HX7.out.njBelow hb8);have HO8:=ae (HO7.out.keep (hb8.block _ HO7.out.lt));clear HE2 hv8 hb8 o0 o1 o2
    obtain⟨cm,hcm⟩:∃ c,codeR m=c:=⟨_,rfl⟩
    obtain⟨cx,hcx⟩:∃ c,codeR x=c:=⟨_,rfl⟩
    rw[hcm] at h71;rw[hcx] at h81;have Hcm:=ae hcm;have Hcx:=ae hcx;clear hcm hcx
    by_cases hc:cm=cx
    ·subst hc;have Heq2:=ae (show dJ M U g=(M,U,0) by rw[Heq.out,Hcm.out,Hcx.out];exact if_pos rfl);go_wp2_with fail
     go_ret
     rw[Heq2.out];exact ct.kept HU.out (HW.out w8 HB18.out).1
    ·have hcB:(cm == cx)=false:=by simpa using hc
     have Heq2:=ae (show dJ M U g=ce M U (fU g) x by rw[Heq.out,Hcm.out,Hcx.out];exact if_neg hc);obtain⟨hB8,-,-,⟨g1,g2,g3⟩,hga⟩:=HW.out w8 HB18.out;have hE3:=fR w8 (bi HT.out h3 hB8) (au h3 hB8.size) _ (.agg #[.slice gx1 g.seen.length gy1,.slice gx2 g.items.length gy2,.slice gx3 g.gone.length gy3]) g ⟨_,_,_,rfl,hga⟩ (b9 Hgv.out).1 (b9 Hgv.out).2;rw[mD Hgv.out] at hE3;have HE3:=ae hE3;have HLC:=ae (valid_lens Hgv.out).2.2.2;clear hE3 hB8 hga hc;go_wp2_with fail;refine HE3.out.mono ?_;rintro e w9 ⟨⟨v9,rfl,hv9⟩,hb9⟩;dsimp only at hv9
     obtain⟨w10,hw10⟩:∃ q,q=w9.drew:=⟨_,rfl⟩
     have hb10:Below w8.heap.size w8 w10:=by rw[hw10];exact hb9.drew
     have hB10:Below w1.heap.size w1 w10:=HB18.out.trans (hb10.mono HB18.out.size);obtain⟨o0,o1,o2⟩:=cell3 (HO8.out.keep (hb10.block _ HO8.out.lt));have pz:∀ q x,w10.cell? q=some x -> ∀ w',aI w10 w' -> w'.cell? q=some x:=fun q x hc w' hh=>(hh.cell (p:=q) (cellLt hc)).trans hc
     have po0:=pz _ _ o0;have po1:=pz _ _ o1;have po2:=pz _ _ o2;have hv10:Bytes (fun _=>True) w10 v9 (codeR g):=by rw[hw10];exact hv9
     obtain⟨a9,c9,rfl,-⟩:=id hv10;have hr:=ip hv10.insideU (fun b hb=>hb)
     obtain⟨w11,hw11⟩:∃ w11,w11=w10.alloc (.cells #[.slice a9 (codeR g).length c9] 41):=⟨_,rfl⟩
     rw[<- hw11] at hr;have hb11:Below w10.heap.size w10 w11:=by rw[hw11];exact aE _ _
     have hR:=gF w11 _ 3 _ _ hr (by rw[gn];have:=HLC.out;omega) (by simp);rw[gn] at hR;have HR:=ae (show Calls aC 81 #[.int .u8 3,.slice (some ⟨w10.heap.size,0,none⟩) 1 1] w11 _ from hR);have Hw11:=ae hw11;have Hb11:=ae hb11;have HB10:=ae hB10;have Hw10:=ae hw10;have HX10:=ae (HX8.out.njBelow hb10)
     obtain⟨ng,hng⟩:∃ n,(codeR g).length=n:=⟨_,rfl⟩
     rw[hng] at Hw11 ⊢;clear HE3 hv9 hb9 hb10 hB10 hw10 o0 o1 o2 pz hv10 hr hb11 hR hw11 hng h71 h81 hcB g1 g2 g3;go_wp2_with fail;refine bh aI 5 [(0,true),(1,true),(4,true),(2,false),(3,false),(5,false),(6,true)] (by kernel_rfl) (by kernel_rfl) (by kernel_rfl) aH aG ?_;rw[<- Hw10.out]
     repeat (refine aX (v:=?_) rfl (aD rfl) (fun w' hC=>?_) (fun K hK=>?_);rotate_left;(focus (go_simp;first | done | exact rfl));go_simp;refine hK _ ?_;clear hK K)
     clear po0 po1 po2;refine bS rfl rfl (fun KK hK=>?_);go_simp;rw[<- Hw11.out];refine⟨Hb11.out,hK _ _ ?_⟩;clear hK KK;go_simp;refine bS rfl rfl (fun KK hK=>?_);go_simp;refine HR.out.mono ?_;rintro e w12 ⟨⟨r12,rfl,ho12⟩,hb12⟩;refine⟨_,rfl,hb12,hK _ _ ?_⟩;clear hK KK HR;go_simp;have hb1c:Below w10.heap.size w10 w12:=Hb11.out.trans (hb12.mono Hb11.out.size);have hB12:Below w1.heap.size w1 w12:=HB10.out.trans (hb1c.mono HB10.out.size);have hBA:=(HW.out w12 hB12).1;have hjl:=HU.out.jat.lt;have h11w:w.heap.size <= w11.heap.size:=au (HW.out w10 HB10.out).1.size Hb11.out.size;have hBy:Bytes (fun q=>w11.heap.size <= q /\ q < w12.heap.size) w12 r12 (fU g):=Bytes.of_owns ho12 _ fun q h1 h2=>⟨h1,h2⟩
     have HWr:=ae (i7 w12 (bi HT.out h3 hBA) (au h3 hBA.size) (HQ.out.keep (hBA.block 0 (by omega))) jk u M U (HU.out.keep hBA) Hd.out Hv.out _ r12 (fU g) hBy (fun q hq=>⟨hq.2,fun ha=>by have:=hjl q ha;omega⟩) (.agg #[.slice n1 x.seen.length m1,.slice n2 x.items.length m2,.slice n3 x.gone.length m3]) x ⟨_,_,_,rfl,HX10.out.njBelow hb1c⟩ Hw.out (by show (codeR g).length+1 <= _;have:=HLC.out;omega));have HBA:=ae hBA;obtain⟨a12,c12,rfl⟩:=own_shape ho12;clear hBA hB12 hb1c hjl h11w hBy ho12 hb12
     repeat (refine aX (v:=?_) rfl (aD rfl) (fun w' hC=>?_) (fun K hK=>?_);rotate_left;(focus (go_simp;first | done | exact rfl));go_simp;refine hK _ ?_;clear hK K)
     refine bK rfl rfl rfl (fun KK hK=>?_);go_simp;refine HWr.out.mono ?_;rintro e w13 ⟨rfl,hrest⟩;refine⟨_,rfl,hK _ _ ?_⟩;clear hK KK HWr;go_simp
     repeat (refine aX (v:=?_) rfl (aD rfl) (fun w' hC=>?_) (fun K hK=>?_);rotate_left;(focus (go_simp;first | done | exact rfl));go_simp;refine hK _ ?_;clear hK K)
     refine bR ?_;have Hrest:=ae hrest;clear hrest;go_wp2_with fail
     go_ret
     rw[Heq2.out];exact ct.after HBA.out ⟨rfl,Hrest.out⟩
   ·have heI:¬ er=0:=he;have Heq:=ae (show dJ M U g=(M,U,er) by unfold dJ;rw[if_neg (by rw[Hbd'.out];decide),Hmm.out,HRR.out];exact if_neg he);clear he;go_wp2_with fail
    go_ret
    rw[Heq.out];exact ct.kept HU.out (HW.out w6 HBw6.out).1
end
end Go.Proofs.YtobjdpngnfbicaaGreatDoor
