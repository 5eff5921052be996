/-
  UBegin UKeys
-/
import Derived.Test.YtobjdpngnfbicaaGreatDoorZK33
import Derived.Test.YtobjdpngnfbicaaGreatDoorZK17
import Derived.Test.YtobjdpngnfbicaaGreatDoorZK09
import Derived.Test.YtobjdpngnfbicaaGreatDoorZK18
open Go.Lib renaming hid->ae
open Go.IntWalk renaming i64_in->af,i64_quo->ah,u32_in->aj,rem_in->am,u8_in->ap
open Nat renaming le_refl->aq,le_trans->au,lt_of_lt_of_le->aw
open List renaming length_cons->aB
open Go.Proofs.Tryz renaming prog->aC
namespace Go.Proofs.YtobjdpngnfbicaaGreatDoor
open Go.RowKit
set_option linter.unusedVariables false
set_option maxRecDepth 20000
section
open Go.Lib
attribute [local go_sem] opC upC
theorem lL {W:World} {q:Nat} (h:MTy W q):NJ W q:=by
 obtain⟨L,t,fz,h1,h2⟩:=h;refine⟨L,t,fz,h1,?_⟩;rcases h2 with rfl | rfl | rfl
 ·exact⟨o5,by decide,by decide⟩
 ·exact⟨pT,by decide,by decide⟩
 ·exact⟨pU,by decide,by decide⟩
theorem UAt.setD {w w':World} {jk:JK} {u:Nat} {M:MD} {U:MU} (h:UAt w jk u M U) {d:Nat} (hw:w'=w.setCell ⟨u,0,none⟩ (.int .i64 (d:Int))):UAt w' jk u M ⟨d,U.m,U.J⟩ /\ aK (fun q=>q=u) w w':=by
 obtain⟨b1,c1,b2,c2,b3,c3,hb,hm⟩:=h.box
 have hk:∀ q,q≠u -> w'.heap[q]?=w.heap[q]?:=fun q hq=>by
  rw[hw];exact Below.heap_setCell _ _ _ _ hq
 have hz:w'.heap.size=w.heap.size:=by rw[hw];simp[World.setCell]
 have hnu:∀ q,NJ w q -> q≠u:=fun q ⟨L,t,fz,hh,_,ht⟩ e=>by
  subst e;unfold Blk at hb;rw[hb] at hh;injection hh with hh
  injection hh with _ hh
  exact ht.1 hh.symm
 have hju:∀ b,jk.all b -> b≠u:=fun b hb' e=>h.apart (e ▸ hb')
 refine⟨⟨⟨b1,c1,b2,c2,b3,c3,?_,(hm.keep (w':=w') fun q hq _=>hk q (hnu q hq)).mono fun q hq _=>dz hq (hk q (hnu q hq))⟩,h.jat.keep (fun b hb'=>hk b (hju b hb')) (by omega),h.typ.keep fun b hb'=>hk b (hju b hb'),h.low⟩,?_⟩
 ·rw[hw];exact hb.set 0 _
 ·rw[hw];exact(aK.refl (fun q=>q=u) w).setCell (p:=⟨u,0,none⟩) (.inl rfl) _
theorem tN {w:World} {jk:JK} {u:Nat} {M:MD} {U:MU} (h:UAt w jk u M U) {q:Nat} (hq:NJ w q):q≠u:=fun e=>by
 obtain⟨b1,c1,b2,c2,b3,c3,hb,-⟩:=h.box;obtain⟨L,t,fz,hh,_,ht⟩:=hq;subst e;unfold Blk at hb;rw[hb] at hh;injection hh with hh
 injection hh with _ hh
 exact ht.1 hh.symm
theorem bJ.past {w w':World} {s1 s2 s3:Value} {x:RMap} (hx:bJ (NJ w) w s1 s2 s3 x) {jk:JK} {u:Nat} {M:MD} {U:MU} (h:UAt w jk u M U) {W:World} (ho:aK (fun q=>q=u) w W) (he:w'.heap=W.heap:=by rfl):bJ (NJ w') w' s1 s2 s3 x:=by
 have hk:∀ q,NJ w q -> w'.heap[q]?=w.heap[q]?:=fun q hq=>by
  rw[he];exact ho.block q (lK hq) (tN h hq)
 exact(hx.keep (w':=w') fun q hq _=>hk q hq).mono fun q hq _=>dz hq (hk q hq)
def ez (w:World) (jk:JK) (u:Nat) (M:MD) (U:MU) (r:List UInt8) (e:Ending) (w':World):Prop:=match dY (0 :: r) with
 | none=>e=.returned (.bool false) /\ aK (fun q=>q=u) w w'
 | some p=>e=.returned (.bool true) /\ UAt w' jk u M ⟨p.1,p.2,U.J⟩ /\ aK (fun q=>q=u) w w'
set_option maxRecDepth 100000 in
set_option maxHeartbeats 4000000 in
theorem qG (w:World) (hT:cL w) (h3:4 <= w.heap.size) (jk:JK) (u:Nat) (M:MD) (U:MU) (h:UAt w jk u M U) (F:aV) (av:Option Addr) (cap:Nat) (r:List UInt8) (hB:Bytes F w (.slice av r.length cap) r) (hF:∀ q,F q -> q < w.heap.size) (hl:r.length <= 400000):
 Calls aC 50 #[.pointer (some ⟨u,0,none⟩),.slice av r.length cap] w (ez w jk u M U r):=by
 obtain⟨-,hc1,hc2,-⟩:=hB.cells;have hcap:cap <= 9223372036854775807:=by unfold maxLen at hc2;omega
 have hU:=nf w F av cap r 0 hB hF (Nat.zero_le _);unfold iA at hU;rw[List.drop_zero] at hU;cases ho:rdF r 9 with
 | none=>
   rw[ho] at hU;have Hno:=ae (show dY (0 :: r)=none by unfold dY;dsimp only;rw[if_pos rfl,ho]);have HU:=ae (show Calls aC 99 #[.slice av r.length cap,.int .i64 0] w fun e w'=>e=.returned (jW r.length none) /\ Below w.heap.size w w' from hU);unfold jW at HU;clear hU ho h hB hF hT
   go_enter Tryz.func50,Tryz.ntmps50
   go_wp2_with fail;refine HU.out.mono ?_;rintro e w1 ⟨rfl,hb1⟩;clear HU;go_wp2_with fail
   exact bodyPost_ret (v:=.bool false) (by simp[results,Tryz.results50,go_sem]) rfl (by
    unfold ez;rw[Hno.out];exact⟨rfl,aK.of_below hb1⟩)
 | some p=>
   obtain⟨n,t⟩:=p;rw[ho] at hU;have hld:=iQ ho;have hdr:=iB ho
   obtain⟨k,hk⟩:∃ k,r.length - t.length=k:=⟨_,rfl⟩
   have HU:=ae (show Calls aC 99 #[.slice av r.length cap,.int .i64 0] w fun e w'=>e=.returned (.tuple #[.int .u64 (n:Int),.int .i64 (k:Int),.bool true]) /\ Below w.heap.size w w' from by rw[<- hk];exact hU);rw[hk] at hdr;have hkr:k <= r.length:=by omega
   by_cases h8:n < 8
   case neg=>
    have hI:((n:Int) < 8)=False:=eq_false (by omega);have hI2:decide ((8:Int) <= (n:Int))=true:=decide_eq_true (by omega);have Hno:=ae (show dY (0 :: r)=none by unfold dY;dsimp only;rw[if_pos rfl,ho];dsimp only;rw[if_neg h8]);clear hU ho h hB hF hT hk hdr hkr
    go_enter Tryz.func50,Tryz.ntmps50
    go_wp2_with fail;refine HU.out.mono ?_;rintro e w1 ⟨rfl,hb1⟩;clear HU;go_wp2_with fail
    exact bodyPost_ret (v:=.bool false) (by simp[results,Tryz.results50,go_sem]) rfl (by
     unfold ez;rw[Hno.out];exact⟨rfl,aK.of_below hb1⟩)
   have hI:((n:Int) < 8)=True:=eq_true (by omega);have hI2:decide ((8:Int) <= (n:Int))=false:=decide_eq_false (by omega);have hd:=hB.drop k hkr;rw[<- hdr.2,show r.length - k=t.length by omega] at hd
   obtain⟨av2,hav2⟩:∃ a,(if cap=k then av else av.map fun x=>x.add k)=a:=⟨_,rfl⟩
   rw[hav2] at hd;have hlt:r.length - k=t.length:=by omega
   have HW:=ae (show ∀ W,Below w.heap.size w W -> cL W /\ 4 <= W.heap.size /\ Bytes F W (.slice av2 t.length (cap - k)) t /\ ∀ q,F q -> q < W.heap.size from fun W hW=>⟨bi hT h3 hW,au h3 hW.size,hd.keep (w':=W) fun q hq _=>hW.block q (hF q hq),fun q hq=>aw (hF q hq) hW.size⟩);have HUA:=ae h;have Hho:=ae ho;have Hav2:=ae hav2;have Hlt:=ae hlt;have Hl:=ae (show t.length <= 400000 by omega);have hkI:(k:Int) <= (r.length:Int):=by omega
   clear hU ho h hB hF hT hk hdr hd hav2 hlt hld hl
   go_enter Tryz.func50,Tryz.ntmps50
   go_wp2_with fail;refine HU.out.mono ?_;rintro e w1 ⟨rfl,hb1⟩;clear HU;go_wp2_with fail
   case inl h=>
    have ee:=Hav2.out;rw[if_pos h] at ee;rw[Hlt.out];have hDc:=ik w1 (HW.out w1 hb1).1 (HW.out w1 hb1).2.1 F av2 (cap - k) t (HW.out w1 hb1).2.2.1 (HW.out w1 hb1).2.2.2 Hl.out;rw[<- ee] at hDc;unfold mc at hDc
    obtain⟨R,hR⟩:∃ R,dR t=R:=⟨_,rfl⟩
    rw[hR] at hDc;obtain⟨x,er⟩:=R;dsimp only at hDc;rw[show cap - k=0 by omega] at hDc;have HR:=ae hR;have HDc:=ae hDc;clear hDc ee hR h;refine HDc.out.mono ?_;rintro e w2 ⟨v,rfl,hv,hb2⟩;clear HDc;obtain⟨s1,s2,s3,rfl,hx⟩:=hv;obtain⟨x1,y1,rfl,-⟩:=hx.seen.shape;obtain⟨x2,y2,rfl,-⟩:=hx.items.shape;obtain⟨x3,y3,rfl,-⟩:=hx.gone.shape
    obtain⟨w3,hw3⟩:∃ w3,w3=w2.alloc (.cells #[.slice x1 x.seen.length y1,.slice x2 x.items.length y2,.slice x3 x.gone.length y3] 37):=⟨_,rfl⟩
    have hb3:Below w2.heap.size w2 w3:=by rw[hw3];exact aE _ _
    have hO3:Blk w3 w2.heap.size [.slice x1 x.seen.length y1,.slice x2 x.items.length y2,.slice x3 x.gone.length y3] 37:=by rw[hw3];exact Blk.new _ _ _
    have hx3:bJ (NJ w3) w3 (.slice x1 x.seen.length y1) (.slice x2 x.items.length y2) (.slice x3 x.gone.length y3) x:=(hx.keep (w':=w3) fun q _ hlt=>hb3.block q hlt).mono fun q hq _=>dz (lL hq.2) (hb3.block q (by
     obtain⟨L,t,fz,hh,_⟩:=hq.2
     exact lt_of_block hh))
    have hB3:Below w.heap.size w w3:=(hb1.trans (hb2.mono hb1.size)).trans (hb3.mono (au hb1.size hb2.size));have hU3:=HUA.out.keep hB3;have hul:u < w2.heap.size:=by have:=HUA.out.lt;have:=hb1.size;have:=hb2.size;omega
    have HX3:=ae hx3;have HB3:=ae hB3;have HU3:=ae hU3;have Hw3:=ae hw3;have HO3:=ae hO3;have Hul:=ae hul;clear hx hb3 hO3 hx3 hB3 hU3 hb2 hw3 hul;go_wp2_with fail;refine bh (aP (fun q=>q=u)) 10 [(0,true),(1,true),(2,true),(3,true),(4,true),(5,true),(6,true),(7,false),(8,true),(9,true),(10,false)] (by kernel_rfl) (by kernel_rfl) (by kernel_rfl) (bH _) (bG _) ?_;rw[<- Hw3.out]
    have qs:∀ w',aP (fun q=>q=u) w3.drew w' -> w'.cell? ⟨w2.heap.size,0,none⟩=some (.slice x1 x.seen.length y1) /\ w'.cell? ⟨w2.heap.size,1,none⟩=some (.slice x2 x.items.length y2) /\ w'.cell? ⟨w2.heap.size,2,none⟩=some (.slice x3 x.gone.length y3):=fun w' hh=>
     cell3 (HO3.out.keep (w':=w') (hh.block w2.heap.size HO3.out.lt (by have:=Hul.out;show ¬ w2.heap.size=u;omega)))
    have q0:=fun w' hh=>(qs w' hh).1
    have q1:=fun w' hh=>(qs w' hh).2.1
    have q2:=fun w' hh=>(qs w' hh).2.2
    clear qs;have hwr:IntKind.i64.wrap (n:Int)=(n:Int):=af _ (by omega)
    repeat (refine aX (v:=?_) rfl (aD rfl) (fun w' hC=>?_) (fun K hK=>?_);rotate_left;(focus (go_simp;first | done | exact rfl));go_simp;refine hK _ ?_;clear hK K)
    clear q0 q1 q2 hwr;obtain⟨a1,p1,a2,p2,a3,p3,hbU,-⟩:=HU3.out.box;have z0:=(cO hbU).1;have zf:=hbU.free 0;refine bS rfl rfl (fun KK hK=>?_);go_simp
    obtain⟨w4,hw4⟩:∃ w4,w4=w3.setCell ⟨u,0,none⟩ (.int .i64 (n:Int)):=⟨_,rfl⟩
    rw[<- hw4];have h4:=(HU3.out.keep ((Below.refl w3.heap.size w3).drew)).setD (d:=n) (w':=w4.drew) (by rw[hw4];rfl);have hx4:bJ (NJ w4.drew) w4.drew (.slice x1 x.seen.length y1) (.slice x2 x.items.length y2) (.slice x3 x.gone.length y3) x:=HX3.out.past (w':=w4.drew) HU3.out (show aK (fun q=>q=u) w3 w4 by rw[hw4];exact(aK.refl (fun q=>q=u) w3).setCell (p:=⟨u,0,none⟩) (.inl rfl) _);have H4:=ae h4;have HX4:=ae hx4;refine⟨h4.2,hK _ _ ?_⟩;clear hK KK h4 hx4 hw4 hbU z0 zf;go_simp
    repeat (refine aX (v:=?_) rfl (aD rfl) (fun w' hC=>?_) (fun K hK=>?_);rotate_left;(focus (go_simp;first | done | exact rfl));go_simp;refine hK _ ?_;clear hK K)
    obtain⟨a1,p1,a2,p2,a3,p3,hbU,-⟩:=H4.out.1.box;have hbU:Blk w4 u _ _:=hbU;obtain⟨-,z1,z2,z3,-⟩:=cO hbU;have f1:=hbU.free 1;have f2:=hbU.free 2;have f3:=hbU.free 3;refine bK rfl rfl rfl (fun KK hK=>?_);go_simp
    obtain⟨w5,hw5⟩:∃ w5,w5=((w4.setCell ⟨u,1,none⟩ (.slice x1 x.seen.length y1)).setCell ⟨u,2,none⟩ (.slice x2 x.items.length y2)).setCell ⟨u,3,none⟩ (.slice x3 x.gone.length y3):=⟨_,rfl⟩
    rw[<- hw5];have h5:=H4.out.1.setM HX4.out (w':=w5.drew) (by rw[hw5];rfl)
    have Hfin:=ae (show ez w jk u M U r (.returned (.bool (er == 0))) w5.drew from by
     have hbg:dY (0 :: r)=if er=0 then some (n,x) else none:=by
      unfold dY;dsimp only;rw[if_pos rfl,Hho.out];dsimp only;rw[if_pos h8,HR.out]
     have hon:aK (fun q=>q=u) w w5.drew:=((aK.of_below (F:=fun q=>q=u) HB3.out.drew).trans H4.out.2 fun _ hi=>.inl hi).trans h5.2 fun _ hi=>.inl hi
     unfold ez;rw[hbg]
     by_cases h0:er=0
     ·rw[if_pos h0,h0];exact⟨rfl,h5.1,hon⟩
     ·rw[if_neg h0]
      exact⟨by rw[beq_eq_false_iff_ne.2 h0],hon⟩)
    refine hK _ _ ?_;clear hK KK hbU z1 z2 z3 f1 f2 f3 hw5 h5;go_simp
    repeat (refine aX (v:=?_) rfl (aD rfl) (fun w' hC=>?_) (fun K hK=>?_);rotate_left;(focus (go_simp;first | done | exact rfl));go_simp;refine hK _ ?_;clear hK K)
    refine bR ?_;go_wp2_with fail;exact bodyPost_ret (v:=.bool (er == 0)) (by simp[results,Tryz.results50,go_sem]) rfl Hfin.out
   case inr h=>
    have ee:=Hav2.out;rw[if_neg h] at ee;rw[Hlt.out];have hDc:=ik w1 (HW.out w1 hb1).1 (HW.out w1 hb1).2.1 F av2 (cap - k) t (HW.out w1 hb1).2.2.1 (HW.out w1 hb1).2.2.2 Hl.out;rw[<- ee] at hDc;unfold mc at hDc
    obtain⟨R,hR⟩:∃ R,dR t=R:=⟨_,rfl⟩
    rw[hR] at hDc;obtain⟨x,er⟩:=R;dsimp only at hDc
    skip
    have HR:=ae hR;have HDc:=ae hDc;clear hDc ee hR h;refine HDc.out.mono ?_;rintro e w2 ⟨v,rfl,hv,hb2⟩;clear HDc;obtain⟨s1,s2,s3,rfl,hx⟩:=hv;obtain⟨x1,y1,rfl,-⟩:=hx.seen.shape;obtain⟨x2,y2,rfl,-⟩:=hx.items.shape;obtain⟨x3,y3,rfl,-⟩:=hx.gone.shape
    obtain⟨w3,hw3⟩:∃ w3,w3=w2.alloc (.cells #[.slice x1 x.seen.length y1,.slice x2 x.items.length y2,.slice x3 x.gone.length y3] 37):=⟨_,rfl⟩
    have hb3:Below w2.heap.size w2 w3:=by rw[hw3];exact aE _ _
    have hO3:Blk w3 w2.heap.size [.slice x1 x.seen.length y1,.slice x2 x.items.length y2,.slice x3 x.gone.length y3] 37:=by rw[hw3];exact Blk.new _ _ _
    have hx3:bJ (NJ w3) w3 (.slice x1 x.seen.length y1) (.slice x2 x.items.length y2) (.slice x3 x.gone.length y3) x:=(hx.keep (w':=w3) fun q _ hlt=>hb3.block q hlt).mono fun q hq _=>dz (lL hq.2) (hb3.block q (by
     obtain⟨L,t,fz,hh,_⟩:=hq.2
     exact lt_of_block hh))
    have hB3:Below w.heap.size w w3:=(hb1.trans (hb2.mono hb1.size)).trans (hb3.mono (au hb1.size hb2.size));have hU3:=HUA.out.keep hB3;have hul:u < w2.heap.size:=by have:=HUA.out.lt;have:=hb1.size;have:=hb2.size;omega
    have HX3:=ae hx3;have HB3:=ae hB3;have HU3:=ae hU3;have Hw3:=ae hw3;have HO3:=ae hO3;have Hul:=ae hul;clear hx hb3 hO3 hx3 hB3 hU3 hb2 hw3 hul;go_wp2_with fail;refine bh (aP (fun q=>q=u)) 10 [(0,true),(1,true),(2,true),(3,true),(4,true),(5,true),(6,true),(7,false),(8,true),(9,true),(10,false)] (by kernel_rfl) (by kernel_rfl) (by kernel_rfl) (bH _) (bG _) ?_;rw[<- Hw3.out]
    have qs:∀ w',aP (fun q=>q=u) w3.drew w' -> w'.cell? ⟨w2.heap.size,0,none⟩=some (.slice x1 x.seen.length y1) /\ w'.cell? ⟨w2.heap.size,1,none⟩=some (.slice x2 x.items.length y2) /\ w'.cell? ⟨w2.heap.size,2,none⟩=some (.slice x3 x.gone.length y3):=fun w' hh=>
     cell3 (HO3.out.keep (w':=w') (hh.block w2.heap.size HO3.out.lt (by have:=Hul.out;show ¬ w2.heap.size=u;omega)))
    have q0:=fun w' hh=>(qs w' hh).1
    have q1:=fun w' hh=>(qs w' hh).2.1
    have q2:=fun w' hh=>(qs w' hh).2.2
    clear qs;have hwr:IntKind.i64.wrap (n:Int)=(n:Int):=af _ (by omega)
    repeat (refine aX (v:=?_) rfl (aD rfl) (fun w' hC=>?_) (fun K hK=>?_);rotate_left;(focus (go_simp;first | done | exact rfl));go_simp;refine hK _ ?_;clear hK K)
    clear q0 q1 q2 hwr;obtain⟨a1,p1,a2,p2,a3,p3,hbU,-⟩:=HU3.out.box;have z0:=(cO hbU).1;have zf:=hbU.free 0;refine bS rfl rfl (fun KK hK=>?_);go_simp
    obtain⟨w4,hw4⟩:∃ w4,w4=w3.setCell ⟨u,0,none⟩ (.int .i64 (n:Int)):=⟨_,rfl⟩
    rw[<- hw4];have h4:=(HU3.out.keep ((Below.refl w3.heap.size w3).drew)).setD (d:=n) (w':=w4.drew) (by rw[hw4];rfl);have hx4:bJ (NJ w4.drew) w4.drew (.slice x1 x.seen.length y1) (.slice x2 x.items.length y2) (.slice x3 x.gone.length y3) x:=HX3.out.past (w':=w4.drew) HU3.out (show aK (fun q=>q=u) w3 w4 by rw[hw4];exact(aK.refl (fun q=>q=u) w3).setCell (p:=⟨u,0,none⟩) (.inl rfl) _);have H4:=ae h4;have HX4:=ae hx4;refine⟨h4.2,hK _ _ ?_⟩;clear hK KK h4 hx4 hw4 hbU z0 zf;go_simp
    repeat (refine aX (v:=?_) rfl (aD rfl) (fun w' hC=>?_) (fun K hK=>?_);rotate_left;(focus (go_simp;first | done | exact rfl));go_simp;refine hK _ ?_;clear hK K)
    obtain⟨a1,p1,a2,p2,a3,p3,hbU,-⟩:=H4.out.1.box;have hbU:Blk w4 u _ _:=hbU;obtain⟨-,z1,z2,z3,-⟩:=cO hbU;have f1:=hbU.free 1;have f2:=hbU.free 2;have f3:=hbU.free 3;refine bK rfl rfl rfl (fun KK hK=>?_);go_simp
    obtain⟨w5,hw5⟩:∃ w5,w5=((w4.setCell ⟨u,1,none⟩ (.slice x1 x.seen.length y1)).setCell ⟨u,2,none⟩ (.slice x2 x.items.length y2)).setCell ⟨u,3,none⟩ (.slice x3 x.gone.length y3):=⟨_,rfl⟩
    rw[<- hw5];have h5:=H4.out.1.setM HX4.out (w':=w5.drew) (by rw[hw5];rfl)
    have Hfin:=ae (show ez w jk u M U r (.returned (.bool (er == 0))) w5.drew from by
     have hbg:dY (0 :: r)=if er=0 then some (n,x) else none:=by
      unfold dY;dsimp only;rw[if_pos rfl,Hho.out];dsimp only;rw[if_pos h8,HR.out]
     have hon:aK (fun q=>q=u) w w5.drew:=((aK.of_below (F:=fun q=>q=u) HB3.out.drew).trans H4.out.2 fun _ hi=>.inl hi).trans h5.2 fun _ hi=>.inl hi
     unfold ez;rw[hbg]
     by_cases h0:er=0
     ·rw[if_pos h0,h0];exact⟨rfl,h5.1,hon⟩
     ·rw[if_neg h0]
      exact⟨by rw[beq_eq_false_iff_ne.2 h0],hon⟩)
    refine hK _ _ ?_;clear hK KK hbU z1 z2 z3 f1 f2 f3 hw5 h5;go_simp
    repeat (refine aX (v:=?_) rfl (aD rfl) (fun w' hC=>?_) (fun K hK=>?_);rotate_left;(focus (go_simp;first | done | exact rfl));go_simp;refine hK _ ?_;clear hK K)
    refine bR ?_;go_wp2_with fail;exact bodyPost_ret (v:=.bool (er == 0)) (by simp[results,Tryz.results50,go_sem]) rfl Hfin.out
end
section
open Go.Lib
attribute [local go_sem] opC upC
theorem rT {b:List UInt8} {k:RKey} {r:List UInt8} (h:rdT b=some (k,r)):k.length <= b.length /\ r.length <= b.length:=by
 unfold rdT at h;cases e:rdF b 9 with
 | none=>rw[e] at h;cases h
 | some p=>
   obtain⟨n,t⟩:=p;rw[e] at h;dsimp only at h;have hl:=iQ e
   by_cases hn:n <= t.length
   ·rw[if_pos hn] at h;obtain⟨rfl,rfl⟩:=Prod.mk.inj (Option.some.inj h);rw[List.length_take,List.length_drop];omega
   ·rw[if_neg hn] at h;cases h
theorem nV:∀ (n:Nat) (b:List UInt8) (l:List RKey) (r:List UInt8),ij n b=some (l,r) -> l.length=n /\ ∀ k ∈ l,k.length <= b.length
 | 0,b,l,r,h=>by
   obtain⟨rfl,rfl⟩:=Prod.mk.inj (Option.some.inj h);exact⟨rfl,nofun⟩
 | n+1,b,l,r,h=>by
   unfold ij at h;cases e:rdT b with
   | none=>rw[e] at h;cases h
   | some p=>
     obtain⟨k,t⟩:=p;rw[e] at h;dsimp only at h;cases e2:ij n t with
     | none=>rw[e2] at h;cases h
     | some q=>
       obtain⟨l',r'⟩:=q;rw[e2] at h;obtain⟨rfl,rfl⟩:=Prod.mk.inj (Option.some.inj h);obtain⟨h1,h2⟩:=nV n t l' r' e2;have h3:=rT e;refine⟨by rw[aB,h1],fun x hx=>?_⟩;rcases List.mem_cons.1 hx with rfl | hx
       ·exact h3.1
       ·exact au (h2 x hx) h3.2
theorem pZ {b:List UInt8} {l:List RKey} {r:List UInt8} (h:rdL b=some (l,r)):l.length <= b.length /\ ∀ k ∈ l,k.length <= b.length:=by
 unfold rdL at h;cases e:rdF b 9 with
 | none=>rw[e] at h;cases h
 | some p=>
   obtain⟨n,t⟩:=p;rw[e] at h;dsimp only at h;have hl:=iQ e
   by_cases hn:n <= t.length
   ·rw[if_pos hn] at h;obtain⟨h1,h2⟩:=nV n t l r h;exact⟨by omega,fun k hk=>by have:=h2 k hk;omega⟩
   ·rw[if_neg hn] at h;cases h
def p4:List eN:=[.steady 0,.steady 1,.steady 2,.steady 3,.steady 4,.steady 5,.steady 6,.steady 7,.steady 8,.steady 9,.move 10,.steady 11,.steady 12,.steady 13,.float 14,.fixed 15,.steady 16]
def dB (w:World) (jk:JK) (u:Nat) (M:MD) (U:MU) (o:Option RMap) (e:Ending) (w':World):Prop:=match o with
 | none=>e=.returned (.bool false) /\ aK (fun q=>q=u) w w'
 | some x=>e=.returned (.bool true) /\ UAt w' jk u M ⟨U.dev,x,U.J⟩ /\ aK (fun q=>q=u) w w'
set_option maxRecDepth 100000 in
set_option maxHeartbeats 4000000 in
theorem nW (w:World) (hT:cL w) (h3:4 <= w.heap.size) (jk:JK) (u:Nat) (M:MD) (U:MU) (h:UAt w jk u M U) (hd:U.dev < 8) (hv:validR U.m=true) (F:aV) (av:Option Addr) (cap:Nat) (b:List UInt8) (hB:Bytes F w (.slice av b.length cap) b) (hF:∀ q,F q -> q < w.heap.size) (hl:b.length <= 400000):
 Calls aC 101 #[.pointer (some ⟨u,0,none⟩),.slice av b.length cap,.func (.func 57) #[] #[]] w (dB w jk u M U (match rdL b with | some (l,[])=>okR (useR U.m U.dev l) | _=>none)):=by
 have hL:=nC w F av cap b 0 hB hF (Nat.zero_le _) hl;rw[List.drop_zero] at hL
 obtain⟨o,ho⟩:∃ o,rdL b=o:=⟨_,rfl⟩
 rw[ho] at hL ⊢;have HL:=ae (show Calls aC 159 #[.slice av b.length cap,.int .i64 0] w (mf w b.length o) from hL);have HU:=ae h;have Hho:=ae ho;have Hv:=ae hv;have HT:=ae hT;have Hlb:=ae hl;clear hL h hB hF hv hT hl
 go_enter Tryz.func101,Tryz.ntmps101
 go_wp2_with fail;refine HL.out.mono ?_;rintro e w1 hC;clear HL;cases o with
 | none=>
   obtain⟨hb,rfl⟩:=hC;have Hb:=ae hb;clear hb;go_wp2_with fail;exact bodyPost_ret (v:=.bool false) (by simp[results,Tryz.results101,go_sem]) rfl ⟨rfl,aK.of_below Hb.out⟩
 | some p=>
   obtain⟨l,r⟩:=p;obtain⟨hb,a,c,rfl,hown⟩:=hC
   have hbp:0 < b.length:=by
    cases b with
    | nil=>
      have ho':(none:Option (List RKey × List UInt8))=some (l,r):=Hho.out;cases ho'
    | cons y t=>simp
   have Hb:=ae hb;have Hown:=ae hown;clear hb hown;cases r with
   | cons y r'=>
     obtain⟨q,hq⟩:∃ q,b.length - (y :: r').length=q:=⟨_,rfl⟩
     have hqI:¬ (q:Int)=(b.length:Int):=by rw[aB] at hq;omega
     rw[hq];clear hq hbp;go_wp2_with fail;exact bodyPost_ret (v:=.bool false) (by simp[results,Tryz.results101,go_sem]) rfl ⟨rfl,aK.of_below Hb.out⟩
   | nil=>
     rw[show b.length - ([]:List UInt8).length=b.length from rfl];have hU1:=HU.out.keep Hb.out;have hk:=b9 Hv.out;have hlens:=valid_lens Hv.out;obtain⟨a1,p1,a2,p2,a3,p3,hbx,hm⟩:=hU1.box
     obtain⟨m,hmm⟩:∃ m,U.m=m:=⟨_,rfl⟩
     obtain⟨d,hdd⟩:∃ d,U.dev=d:=⟨_,rfl⟩
     have Hll:=ae (pZ Hho.out);have hrow:=(Rows.of_owns Hown.out).mono (G:=fun q=>q < w1.heap.size) fun q hq _=>hq.2
     obtain⟨n,hn⟩:∃ n,l.length=n:=⟨_,rfl⟩
     obtain⟨bl,hbl⟩:∃ n,b.length=n:=⟨_,rfl⟩
     obtain⟨RR,hRR⟩:∃ r,useR U.m U.dev l=r:=⟨_,rfl⟩
     have Hgoal:=ae (show okR (useR U.m U.dev l)=okR RR by rw[hRR]);rw[hmm,hdd] at hbx hRR;rw[hmm] at hm hk hlens;obtain⟨c0,c1,c2,c3,c4⟩:=cO hbx;have Hm:=ae hm;have Hk:=ae hk;have Hlens:=ae hlens;have HRR:=ae hRR;have Hn:=ae hn;have Hbl:=ae hbl;have Hrow:=ae hrow;have HU1:=ae hU1;rw[hn,hbl];clear hm hk hlens hRR hn hrow hU1 hbx c4 hmm hdd Hown;obtain⟨x,er⟩:=RR;have pz:∀ q x,w1.cell? q=some x -> ∀ w',bC w1.heap.size 37 w1.drew w' -> w'.cell? q=some x:=fun q x hc w' hh=>gY hc rfl hh
     have pc0:=pz _ _ c0;have pc1:=pz _ _ c1;have pc2:=pz _ _ c2;have pc3:=pz _ _ c3;clear c0 c1 c2 c3 pz hbp hbl;go_wp2_with fail
     skip
     refine dX (bC w1.heap.size 37) (iu w1.heap.size 37 3) [14] p4 60 (by kernel_rfl) (by kernel_rfl) (ew _ _) (bP _ _) (fB #[.slice none 0 0,.slice none 0 0,.slice none 0 0] rfl (aq _) (fun j hj=>?_) (fun i j hi hj hne=>?_)) ?_
     ·obtain rfl:j=14:=by simpa using hj
      exact⟨_,rfl,rfl,fun a W=>by go_simp⟩
     ·simp at hi hj;omega
     unfold p4
     repeat (refine cF (v:=?_) rfl (aD rfl) (fun w' hC=>?_) (fun K hK=>?_);rotate_left;(focus (go_simp;(try simp(disch:=omega) only[af]);(try simp(disch:=omega) only[aj]);(try simp(disch:=omega) only[ap]);(try simp(disch:=omega) only[ah]);(try simp(disch:=omega) only[am]);first | done | exact rfl));go_simp;(try simp(disch:=omega) only[af]);(try simp(disch:=omega) only[aj]);(try simp(disch:=omega) only[ap]);(try simp(disch:=omega) only[ah]);(try simp(disch:=omega) only[am]);refine hK _ ?_;clear hK K)
     refine gX rfl rfl (fun Wa hWa KK hK=>?_);go_simp;have hba:Below w1.heap.size w1 Wa:=hWa.belD rfl;have hwa:Below w.heap.size w Wa:=Hb.out.trans (hba.mono Hb.out.size);have hU:=puse_any Wa (bi HT.out h3 hwa) (au h3 hwa.size) _ (.agg #[.slice a1 m.seen.length p1,.slice a2 m.items.length p2,.slice a3 m.gone.length p3]) m ⟨_,_,_,rfl,Hm.out.keep (w':=Wa) fun q _ hlt=>hba.block q hlt⟩ Hk.out.1 Hk.out.2 (by have:=Hlens.out;omega) (by have:=Hlens.out;omega) (d:Int) _ (.slice a l.length c) l (Hrow.out.keep (w':=Wa) fun q _ hlt=>hba.block q hlt) (by have:=Hll.out.1;have:=Hlb.out;omega) (fun k hk=>by have:=Hll.out.2 k hk;have:=Hlb.out;omega);rw[HRR.out,Hn.out] at hU;have Hsz:=ae hba.size;refine hU.mono ?_;rintro e wq7 ⟨⟨r1,rfl,ho,hbd⟩,hb7⟩;refine⟨_,rfl,bC.of_later hb7,hK _ _ ?_⟩;clear hK KK hU pc0 pc1 pc2 pc3;go_simp;obtain⟨t1,t2,t3,rfl,ho⟩:=ho;dsimp only at ho hbd;obtain⟨n1,m1,rfl⟩:=own_shape ho.seen;obtain⟨n2,m2,rfl⟩:=own_shape ho.items;obtain⟨n3,m3,rfl⟩:=own_shape ho.gone;have hb07:Below w1.heap.size w1 wq7:=hba.trans (hb7.mono hba.size);have Hb07:=ae hb07;have Ho:=ae ho;have Hbd:=ae hbd;clear hb07 ho hbd hb7 hba hWa hwa
     repeat (refine cF (v:=?_) rfl (aD rfl) (fun w' hC=>?_) (fun K hK=>?_);rotate_left;(focus (go_simp;(try simp(disch:=omega) only[af]);(try simp(disch:=omega) only[aj]);(try simp(disch:=omega) only[ap]);(try simp(disch:=omega) only[ah]);(try simp(disch:=omega) only[am]);first | done | exact rfl));go_simp;(try simp(disch:=omega) only[af]);(try simp(disch:=omega) only[aj]);(try simp(disch:=omega) only[ap]);(try simp(disch:=omega) only[ah]);(try simp(disch:=omega) only[am]);refine hK _ ?_;clear hK K)
     refine eT rfl (fun vO Wd hWd hZ hU KK hK=>?_);obtain⟨Om,LO,rfl,hO1,hO2,hO3⟩:=hZ;refine hK _ _ ?_;clear hK KK hU;go_simp
     obtain⟨x0,x1,x2,rfl⟩:∃ x0 x1 x2,LO = [x0,x1,x2]:=by
      match LO,hO3 with
      | [x0,x1,x2],_=>exact⟨x0,x1,x2,rfl⟩
     have hbd':Below w1.heap.size w1 Wd:=Hb07.out.trans (hWd.below Hb07.out.size);obtain⟨w6,hw8,hblk8,hb8⟩:=fin3 hO2 hbd' hO1 (.slice n1 x.seen.length m1) (.slice n2 x.items.length m2) (.slice n3 x.gone.length m3)
     have hl8:bC w1.heap.size 37 Wd w6:=by
      rw[hw8];exact bP _ _ _ _ _ (bP _ _ _ _ _ (bC.set hO2 hO1 0 _) (bC.set (hO2.set 0 _) hO1 1 _)) (bC.set ((hO2.set 0 _).set 1 _) hO1 2 _)
     have ho8:cD w6 w1.heap.size (.slice n1 x.seen.length m1) (.slice n2 x.items.length m2) (.slice n3 x.gone.length m3) x:=
      ⟨own_base (hl8.own (hWd.own Ho.out.seen (by decide)) (by decide)) Hsz.out,own_base (hl8.own (hWd.own Ho.out.items (by decide)) (by decide)) Hsz.out,own_base (hl8.own (hWd.own Ho.out.gone (by decide)) (by decide)) Hsz.out⟩
     have HO1w6:=ae hO1;have HOw6:=ae ho8;have HBkw6:=ae hblk8;have HBdw6:=ae Hbd.out;obtain⟨y0,y1,y2⟩:=cell3 hO2;have z0:=hO2.free 0;have z1:=hO2.free 1;have z2:=hO2.free 2;have HBw6:=ae hb8;have Hl8:=ae hl8;have Hw8:=ae hw8;clear hb8 hl8 hw8 hblk8 hbd' hWd hO2 hO3 Ho Hbd Hb07 ho8;refine eU rfl rfl (fun KK hK=>?_);go_simp;rw[<- Hw8.out];refine⟨Hl8.out,hK _ _ ?_⟩;clear hK KK y0 y1 y2 z0 z1 z2 Hl8 Hw8 hO1;go_simp
     repeat (refine cF (v:=?_) rfl (aD rfl) (fun w' hC=>?_) (fun K hK=>?_);rotate_left;(focus (go_simp;(try simp(disch:=omega) only[af]);(try simp(disch:=omega) only[aj]);(try simp(disch:=omega) only[ap]);(try simp(disch:=omega) only[ah]);(try simp(disch:=omega) only[am]);first | done | exact rfl));go_simp;(try simp(disch:=omega) only[af]);(try simp(disch:=omega) only[aj]);(try simp(disch:=omega) only[ap]);(try simp(disch:=omega) only[ah]);(try simp(disch:=omega) only[am]);refine hK _ ?_;clear hK K)
     refine gr ?_;have HU6:=ae (HU1.out.keep HBw6.out);have HX6:=ae (HOw6.out.nj HBdw6.out);have HB6:=ae (show Below w.heap.size w w6 from Hb.out.trans (HBw6.out.mono Hb.out.size));obtain⟨b1,q1,b2,q2,b3,q3,hbU,-⟩:=HU6.out.box;obtain⟨-,z1,z2,z3,-⟩:=cO hbU;have f1:=hbU.free 1;have f2:=hbU.free 2;have f3:=hbU.free 3;obtain⟨o0,o1,o2⟩:=cell3 HBkw6.out
     obtain⟨w7,hw7⟩:∃ w7,w7=((w6.setCell ⟨u,1,none⟩ (.slice n1 x.seen.length m1)).setCell ⟨u,2,none⟩ (.slice n2 x.items.length m2)).setCell ⟨u,3,none⟩ (.slice n3 x.gone.length m3):=⟨_,rfl⟩
     have h7:=HU6.out.setM HX6.out hw7
     have Hfin:=ae (show dB w jk u M U (okR (x,er)) (.returned (.bool (er == 0))) w7 from by
      have hon:aK (fun q=>q=u) w w7:=(aK.of_below (F:=fun q=>q=u) HB6.out).trans h7.2 fun _ hi=>.inl hi
      by_cases h0:er=0
      ·rw[show okR (x,er)=some x from if_pos h0,h0];exact⟨rfl,h7.1,hon⟩
      ·rw[show okR (x,er)=none from if_neg h0]
       exact⟨by rw[beq_eq_false_iff_ne.2 h0],hon⟩)
     have Hw7:=ae hw7;clear hw7 h7 hbU;go_wp2_with fail;rw[Hgoal.out];rw[<- Hw7.out];exact bodyPost_ret (v:=.bool (er == 0)) (by simp[results,Tryz.results101,go_sem]) rfl Hfin.out
set_option maxRecDepth 100000 in
set_option maxHeartbeats 4000000 in
theorem kE (w:World) (hT:cL w) (h3:4 <= w.heap.size) (jk:JK) (u:Nat) (M:MD) (U:MU) (h:UAt w jk u M U) (hd:U.dev < 8) (hv:validR U.m=true) (F:aV) (av:Option Addr) (cap:Nat) (b:List UInt8) (hB:Bytes F w (.slice av b.length cap) b) (hF:∀ q,F q -> q < w.heap.size) (hl:b.length <= 400000):
 Calls aC 101 #[.pointer (some ⟨u,0,none⟩),.slice av b.length cap,.func (.func 58) #[] #[]] w (dB w jk u M U (match rdL b with | some (l,[])=>okR (forgetR U.m U.dev l) | _=>none)):=by
 have hL:=nC w F av cap b 0 hB hF (Nat.zero_le _) hl;rw[List.drop_zero] at hL
 obtain⟨o,ho⟩:∃ o,rdL b=o:=⟨_,rfl⟩
 rw[ho] at hL ⊢;have HL:=ae (show Calls aC 159 #[.slice av b.length cap,.int .i64 0] w (mf w b.length o) from hL);have HU:=ae h;have Hho:=ae ho;have Hv:=ae hv;have HT:=ae hT;have Hlb:=ae hl;clear hL h hB hF hv hT hl
 go_enter Tryz.func101,Tryz.ntmps101
 go_wp2_with fail;refine HL.out.mono ?_;rintro e w1 hC;clear HL;cases o with
 | none=>
   obtain⟨hb,rfl⟩:=hC;have Hb:=ae hb;clear hb;go_wp2_with fail;exact bodyPost_ret (v:=.bool false) (by simp[results,Tryz.results101,go_sem]) rfl ⟨rfl,aK.of_below Hb.out⟩
 | some p=>
   obtain⟨l,r⟩:=p;obtain⟨hb,a,c,rfl,hown⟩:=hC
   have hbp:0 < b.length:=by
    cases b with
    | nil=>
      have ho':(none:Option (List RKey × List UInt8))=some (l,r):=Hho.out;cases ho'
    | cons y t=>simp
   have Hb:=ae hb;have Hown:=ae hown;clear hb hown;cases r with
   | cons y r'=>
     obtain⟨q,hq⟩:∃ q,b.length - (y :: r').length=q:=⟨_,rfl⟩
     have hqI:¬ (q:Int)=(b.length:Int):=by rw[aB] at hq;omega
     rw[hq];clear hq hbp;go_wp2_with fail;exact bodyPost_ret (v:=.bool false) (by simp[results,Tryz.results101,go_sem]) rfl ⟨rfl,aK.of_below Hb.out⟩
   | nil=>
     rw[show b.length - ([]:List UInt8).length=b.length from rfl];have hU1:=HU.out.keep Hb.out;have hk:=b9 Hv.out;have hlens:=valid_lens Hv.out;obtain⟨a1,p1,a2,p2,a3,p3,hbx,hm⟩:=hU1.box
     obtain⟨m,hmm⟩:∃ m,U.m=m:=⟨_,rfl⟩
     obtain⟨d,hdd⟩:∃ d,U.dev=d:=⟨_,rfl⟩
     have Hll:=ae (pZ Hho.out);have hrow:=(Rows.of_owns Hown.out).mono (G:=fun q=>q < w1.heap.size) fun q hq _=>hq.2
     obtain⟨n,hn⟩:∃ n,l.length=n:=⟨_,rfl⟩
     obtain⟨bl,hbl⟩:∃ n,b.length=n:=⟨_,rfl⟩
     obtain⟨RR,hRR⟩:∃ r,forgetR U.m U.dev l=r:=⟨_,rfl⟩
     have Hgoal:=ae (show okR (forgetR U.m U.dev l)=okR RR by rw[hRR]);rw[hmm,hdd] at hbx hRR;rw[hmm] at hm hk hlens;obtain⟨c0,c1,c2,c3,c4⟩:=cO hbx;have Hm:=ae hm;have Hk:=ae hk;have Hlens:=ae hlens;have HRR:=ae hRR;have Hn:=ae hn;have Hbl:=ae hbl;have Hrow:=ae hrow;have HU1:=ae hU1;rw[hn,hbl];clear hm hk hlens hRR hn hrow hU1 hbx c4 hmm hdd Hown;obtain⟨x,er⟩:=RR;have pz:∀ q x,w1.cell? q=some x -> ∀ w',bC w1.heap.size 37 w1.drew w' -> w'.cell? q=some x:=fun q x hc w' hh=>gY hc rfl hh
     have pc0:=pz _ _ c0;have pc1:=pz _ _ c1;have pc2:=pz _ _ c2;have pc3:=pz _ _ c3;clear c0 c1 c2 c3 pz hbp hbl;go_wp2_with fail
     skip
     refine dX (bC w1.heap.size 37) (iu w1.heap.size 37 3) [14] p4 60 (by kernel_rfl) (by kernel_rfl) (ew _ _) (bP _ _) (fB #[.slice none 0 0,.slice none 0 0,.slice none 0 0] rfl (aq _) (fun j hj=>?_) (fun i j hi hj hne=>?_)) ?_
     ·obtain rfl:j=14:=by simpa using hj
      exact⟨_,rfl,rfl,fun a W=>by go_simp⟩
     ·simp at hi hj;omega
     unfold p4
     repeat (refine cF (v:=?_) rfl (aD rfl) (fun w' hC=>?_) (fun K hK=>?_);rotate_left;(focus (go_simp;(try simp(disch:=omega) only[af]);(try simp(disch:=omega) only[aj]);(try simp(disch:=omega) only[ap]);(try simp(disch:=omega) only[ah]);(try simp(disch:=omega) only[am]);first | done | exact rfl));go_simp;(try simp(disch:=omega) only[af]);(try simp(disch:=omega) only[aj]);(try simp(disch:=omega) only[ap]);(try simp(disch:=omega) only[ah]);(try simp(disch:=omega) only[am]);refine hK _ ?_;clear hK K)
     refine gX rfl rfl (fun Wa hWa KK hK=>?_);go_simp;have hba:Below w1.heap.size w1 Wa:=hWa.belD rfl;have hwa:Below w.heap.size w Wa:=Hb.out.trans (hba.mono Hb.out.size);have hU:=gO Wa (bi HT.out h3 hwa) (au h3 hwa.size) _ (.agg #[.slice a1 m.seen.length p1,.slice a2 m.items.length p2,.slice a3 m.gone.length p3]) m ⟨_,_,_,rfl,Hm.out.keep (w':=Wa) fun q _ hlt=>hba.block q hlt⟩ Hk.out.1 Hk.out.2 (by have:=Hlens.out;omega) (by have:=Hlens.out;omega) (d:Int) _ (.slice a l.length c) l (Hrow.out.keep (w':=Wa) fun q _ hlt=>hba.block q hlt) (by have:=Hll.out.1;have:=Hlb.out;omega) (fun k hk=>by have:=Hll.out.2 k hk;have:=Hlb.out;omega);rw[HRR.out,Hn.out] at hU;have Hsz:=ae hba.size;refine hU.mono ?_;rintro e wq7 ⟨⟨r1,rfl,ho,hbd⟩,hb7⟩;refine⟨_,rfl,bC.of_later hb7,hK _ _ ?_⟩;clear hK KK hU pc0 pc1 pc2 pc3;go_simp;obtain⟨t1,t2,t3,rfl,ho⟩:=ho;dsimp only at ho hbd;obtain⟨n1,m1,rfl⟩:=own_shape ho.seen;obtain⟨n2,m2,rfl⟩:=own_shape ho.items;obtain⟨n3,m3,rfl⟩:=own_shape ho.gone;have hb07:Below w1.heap.size w1 wq7:=hba.trans (hb7.mono hba.size);have Hb07:=ae hb07;have Ho:=ae ho;have Hbd:=ae hbd;clear hb07 ho hbd hb7 hba hWa hwa
     repeat (refine cF (v:=?_) rfl (aD rfl) (fun w' hC=>?_) (fun K hK=>?_);rotate_left;(focus (go_simp;(try simp(disch:=omega) only[af]);(try simp(disch:=omega) only[aj]);(try simp(disch:=omega) only[ap]);(try simp(disch:=omega) only[ah]);(try simp(disch:=omega) only[am]);first | done | exact rfl));go_simp;(try simp(disch:=omega) only[af]);(try simp(disch:=omega) only[aj]);(try simp(disch:=omega) only[ap]);(try simp(disch:=omega) only[ah]);(try simp(disch:=omega) only[am]);refine hK _ ?_;clear hK K)
     refine eT rfl (fun vO Wd hWd hZ hU KK hK=>?_);obtain⟨Om,LO,rfl,hO1,hO2,hO3⟩:=hZ;refine hK _ _ ?_;clear hK KK hU;go_simp
     obtain⟨x0,x1,x2,rfl⟩:∃ x0 x1 x2,LO = [x0,x1,x2]:=by
      match LO,hO3 with
      | [x0,x1,x2],_=>exact⟨x0,x1,x2,rfl⟩
     have hbd':Below w1.heap.size w1 Wd:=Hb07.out.trans (hWd.below Hb07.out.size);obtain⟨w6,hw8,hblk8,hb8⟩:=fin3 hO2 hbd' hO1 (.slice n1 x.seen.length m1) (.slice n2 x.items.length m2) (.slice n3 x.gone.length m3)
     have hl8:bC w1.heap.size 37 Wd w6:=by
      rw[hw8];exact bP _ _ _ _ _ (bP _ _ _ _ _ (bC.set hO2 hO1 0 _) (bC.set (hO2.set 0 _) hO1 1 _)) (bC.set ((hO2.set 0 _).set 1 _) hO1 2 _)
     have ho8:cD w6 w1.heap.size (.slice n1 x.seen.length m1) (.slice n2 x.items.length m2) (.slice n3 x.gone.length m3) x:=
      ⟨own_base (hl8.own (hWd.own Ho.out.seen (by decide)) (by decide)) Hsz.out,own_base (hl8.own (hWd.own Ho.out.items (by decide)) (by decide)) Hsz.out,own_base (hl8.own (hWd.own Ho.out.gone (by decide)) (by decide)) Hsz.out⟩
     have HO1w6:=ae hO1;have HOw6:=ae ho8;have HBkw6:=ae hblk8;have HBdw6:=ae Hbd.out;obtain⟨y0,y1,y2⟩:=cell3 hO2;have z0:=hO2.free 0;have z1:=hO2.free 1;have z2:=hO2.free 2;have HBw6:=ae hb8;have Hl8:=ae hl8;have Hw8:=ae hw8;clear hb8 hl8 hw8 hblk8 hbd' hWd hO2 hO3 Ho Hbd Hb07 ho8;refine eU rfl rfl (fun KK hK=>?_);go_simp;rw[<- Hw8.out];refine⟨Hl8.out,hK _ _ ?_⟩;clear hK KK y0 y1 y2 z0 z1 z2 Hl8 Hw8 hO1;go_simp
     repeat (refine cF (v:=?_) rfl (aD rfl) (fun w' hC=>?_) (fun K hK=>?_);rotate_left;(focus (go_simp;(try simp(disch:=omega) only[af]);(try simp(disch:=omega) only[aj]);(try simp(disch:=omega) only[ap]);(try simp(disch:=omega) only[ah]);(try simp(disch:=omega) only[am]);first | done | exact rfl));go_simp;(try simp(disch:=omega) only[af]);(try simp(disch:=omega) only[aj]);(try simp(disch:=omega) only[ap]);(try simp(disch:=omega) only[ah]);(try simp(disch:=omega) only[am]);refine hK _ ?_;clear hK K)
     refine gr ?_;have HU6:=ae (HU1.out.keep HBw6.out);have HX6:=ae (HOw6.out.nj HBdw6.out);have HB6:=ae (show Below w.heap.size w w6 from Hb.out.trans (HBw6.out.mono Hb.out.size));obtain⟨b1,q1,b2,q2,b3,q3,hbU,-⟩:=HU6.out.box;obtain⟨-,z1,z2,z3,-⟩:=cO hbU;have f1:=hbU.free 1;have f2:=hbU.free 2;have f3:=hbU.free 3;obtain⟨o0,o1,o2⟩:=cell3 HBkw6.out
     obtain⟨w7,hw7⟩:∃ w7,w7=((w6.setCell ⟨u,1,none⟩ (.slice n1 x.seen.length m1)).setCell ⟨u,2,none⟩ (.slice n2 x.items.length m2)).setCell ⟨u,3,none⟩ (.slice n3 x.gone.length m3):=⟨_,rfl⟩
     have h7:=HU6.out.setM HX6.out hw7
     have Hfin:=ae (show dB w jk u M U (okR (x,er)) (.returned (.bool (er == 0))) w7 from by
      have hon:aK (fun q=>q=u) w w7:=(aK.of_below (F:=fun q=>q=u) HB6.out).trans h7.2 fun _ hi=>.inl hi
      by_cases h0:er=0
      ·rw[show okR (x,er)=some x from if_pos h0,h0];exact⟨rfl,h7.1,hon⟩
      ·rw[show okR (x,er)=none from if_neg h0]
       exact⟨by rw[beq_eq_false_iff_ne.2 h0],hon⟩)
     have Hw7:=ae hw7;clear hw7 h7 hbU;go_wp2_with fail;rw[Hgoal.out];rw[<- Hw7.out];exact bodyPost_ret (v:=.bool (er == 0)) (by simp[results,Tryz.results101,go_sem]) rfl Hfin.out
end
end Go.Proofs.YtobjdpngnfbicaaGreatDoor
