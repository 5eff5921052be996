/-
  RRd
-/
import Derived.Test.YtobjdpngnfbicaaGreatDoorZK09
import Derived.Test.YtobjdpngnfbicaaGreatDoorZK15
open Go.Lib renaming hid->ae
open Go.IntWalk renaming i64_in->af
open Nat renaming lt_of_lt_of_le->aw
open Go.Proofs.Tryz renaming prog->aC
namespace Go.Proofs.YtobjdpngnfbicaaGreatDoor
open Go.RowKit
set_option linter.unusedVariables false
set_option maxRecDepth 20000
section
open Go.Lib
attribute [local go_sem] opC upC
def gK (W:World) (R:Nat) (av:Option Addr) (cap:Nat) (b:List UInt8) (st:de):Prop:=
 ∃ (k:Nat) (bad:Bool),Blk W R [.slice av b.length cap,.int .i64 (k:Int),.bool bad] 207 /\ k <= b.length /\ st=if bad then none else some (b.drop k)
theorem gK.keep {W W':World} {R:Nat} {av:Option Addr} {cap:Nat} {b:List UInt8} {st:de} (h:gK W R av cap b st) (hb:W'.heap[R]?=W.heap[R]?):gK W' R av cap b st:=by
 obtain⟨k,bad,h1,h2,h3⟩:=h;exact⟨k,bad,h1.keep hb,h2,h3⟩
theorem gK.lt {W:World} {R:Nat} {av:Option Addr} {cap:Nat} {b:List UInt8} {st:de} (h:gK W R av cap b st):R < W.heap.size:=by
 obtain⟨k,bad,h1,-⟩:=h;exact h1.lt
def RdC (w:World) (fn:FuncId) (av:Option Addr) (cap bl k:Nat) (x:Value) (nx:Nat) (ok:Bool):Prop:=
 ∀ W,Below w.heap.size w W -> Calls aC fn #[.slice av bl cap,.int .i64 (k:Int)] W fun e w'=>e=.returned (.tuple #[x,.int .i64 (nx:Int),.bool ok]) /\ Below W.heap.size W w'
set_option maxRecDepth 100000 in
set_option maxHeartbeats 2000000 in
theorem lB (w:World) (R:Nat) (av:Option Addr) (cap:Nat) (b:List UInt8) (k n nx:Nat) (bad ok:Bool) (hb:Blk w R [.slice av b.length cap,.int .i64 (k:Int),.bool bad] 207) (hbl:b.length <= 9223372036854775807) (hk:k <= b.length) (hn:n < 18446744073709551616) (hnx:nx <= b.length)
 (hU:RdC w 99 av cap b.length k (.int .u64 (n:Int)) nx ok):
 Calls aC 157 #[.pointer (some ⟨R,0,none⟩)] w fun e w'=>
  e=.returned (.int .i64 (if bad=false /\ ok=true /\ n <= 1099511627776 then (n:Int) else 0)) /\ gK w' R av cap b (if bad=false /\ ok=true /\ n <= 1099511627776 then some (b.drop nx) else none) /\ aK (fun q=>q=R) w w':=by
 unfold RdC at hU;have HU:=ae hU;clear hU;cases bad with
 | true=>
   rw[if_neg (by simp),if_neg (by simp)];obtain⟨c0,c1,c2⟩:=cell3 hb;have p0:∀ w',aI w.drew w' -> w'.cell? _=_:=fun w' hh=>laterC c0 hh
   have p1:∀ w',aI w.drew w' -> w'.cell? _=_:=fun w' hh=>laterC c1 hh
   have Hb:=ae hb;clear hb c0 c1 c2
   go_enter Tryz.func157,Tryz.ntmps157
   go_wp2_with fail;refine aJ aI [(0,true),(1,true),(2,true),(3,true),(4,true),(5,true),(6,true),(7,true),(8,false),(9,true),(10,true),(11,true),(12,true),(13,true),(14,true),(15,true)] (by kernel_rfl) (by kernel_rfl) aH aG ?_
   repeat (refine aF (v:=?_) rfl (aD rfl) (fun w' hC=>?_) (fun K hK=>?_);rotate_left;(focus (go_simp;(try simp(disch:=omega) only[af]);first | done | exact rfl));go_simp;(try simp(disch:=omega) only[af]);refine hK _ ?_;clear hK K)
   refine aQ rfl rfl (fun KK hK=>?_);go_simp;refine(HU.out _ (Below.refl w.heap.size w).drew).mono ?_;rintro e w1 ⟨rfl,hb1⟩;refine⟨_,rfl,hb1,hK _ _ ?_⟩;have hw1:Below w.heap.size w w1:=(Below.refl w.heap.size w).drew.trans hb1;have hb2:=Hb.out.keep (hw1.block _ Hb.out.lt);have Ho1:=ae (show aK (fun q=>q=R) w w1 from aK.of_below hw1);obtain⟨c0,c1,c2⟩:=cell3 hb2;have f1:=hb2.free 1;have f2:=hb2.free 2;have Hb2:=ae hb2;clear hK KK p0 p1 HU hb1 hw1 hb2 Hb;go_simp
   repeat (refine aF (v:=?_) rfl (aD rfl) (fun w' hC=>?_) (fun K hK=>?_);rotate_left;(focus (go_simp;(try simp(disch:=omega) only[af]);first | done | exact rfl));go_simp;(try simp(disch:=omega) only[af]);refine hK _ ?_;clear hK K)
   refine aW ?_;go_wp2_with fail
   go_ret
   exact⟨rfl,⟨k,true,Hb2.out.set 2 _,hk,rfl⟩,Ho1.out.setCell (.inl rfl) _⟩
 | false=>
   cases ok with
   | false=>
     rw[if_neg (by simp),if_neg (by simp)];obtain⟨c0,c1,c2⟩:=cell3 hb;have p0:∀ w',aI w.drew w' -> w'.cell? _=_:=fun w' hh=>laterC c0 hh
     have p1:∀ w',aI w.drew w' -> w'.cell? _=_:=fun w' hh=>laterC c1 hh
     have Hb:=ae hb;clear hb c0 c1 c2
     go_enter Tryz.func157,Tryz.ntmps157
     go_wp2_with fail;refine aJ aI [(0,true),(1,true),(2,true),(3,true),(4,true),(5,true),(6,true),(7,true),(8,false),(9,true),(10,true),(11,true),(12,true),(13,true),(14,true),(15,true)] (by kernel_rfl) (by kernel_rfl) aH aG ?_
     repeat (refine aF (v:=?_) rfl (aD rfl) (fun w' hC=>?_) (fun K hK=>?_);rotate_left;(focus (go_simp;(try simp(disch:=omega) only[af]);first | done | exact rfl));go_simp;(try simp(disch:=omega) only[af]);refine hK _ ?_;clear hK K)
     refine aQ rfl rfl (fun KK hK=>?_);go_simp;refine(HU.out _ (Below.refl w.heap.size w).drew).mono ?_;rintro e w1 ⟨rfl,hb1⟩;refine⟨_,rfl,hb1,hK _ _ ?_⟩;have hw1:Below w.heap.size w w1:=(Below.refl w.heap.size w).drew.trans hb1;have hb2:=Hb.out.keep (hw1.block _ Hb.out.lt);have Ho1:=ae (show aK (fun q=>q=R) w w1 from aK.of_below hw1);obtain⟨c0,c1,c2⟩:=cell3 hb2;have f1:=hb2.free 1;have f2:=hb2.free 2;have Hb2:=ae hb2;clear hK KK p0 p1 HU hb1 hw1 hb2 Hb;go_simp
     repeat (refine aF (v:=?_) rfl (aD rfl) (fun w' hC=>?_) (fun K hK=>?_);rotate_left;(focus (go_simp;(try simp(disch:=omega) only[af]);first | done | exact rfl));go_simp;(try simp(disch:=omega) only[af]);refine hK _ ?_;clear hK K)
     refine aW ?_;go_wp2_with fail
     go_ret
     exact⟨rfl,⟨k,true,Hb2.out.set 2 _,hk,rfl⟩,Ho1.out.setCell (.inl rfl) _⟩
   | true=>
     by_cases hm:n <= 1099511627776
     ·rw[if_pos ⟨rfl,rfl,hm⟩,if_pos ⟨rfl,rfl,hm⟩];have hI:¬ (1099511627776:Int) < (n:Int):=by omega
      obtain⟨c0,c1,c2⟩:=cell3 hb;have p0:∀ w',aI w.drew w' -> w'.cell? _=_:=fun w' hh=>laterC c0 hh
      have p1:∀ w',aI w.drew w' -> w'.cell? _=_:=fun w' hh=>laterC c1 hh
      have Hb:=ae hb;clear hb c0 c1 c2
      go_enter Tryz.func157,Tryz.ntmps157
      go_wp2_with fail;refine aJ aI [(0,true),(1,true),(2,true),(3,true),(4,true),(5,true),(6,true),(7,true),(8,false),(9,true),(10,true),(11,true),(12,true),(13,true),(14,true),(15,true)] (by kernel_rfl) (by kernel_rfl) aH aG ?_
      repeat (refine aF (v:=?_) rfl (aD rfl) (fun w' hC=>?_) (fun K hK=>?_);rotate_left;(focus (go_simp;(try simp(disch:=omega) only[af]);first | done | exact rfl));go_simp;(try simp(disch:=omega) only[af]);refine hK _ ?_;clear hK K)
      refine aQ rfl rfl (fun KK hK=>?_);go_simp;refine(HU.out _ (Below.refl w.heap.size w).drew).mono ?_;rintro e w1 ⟨rfl,hb1⟩;refine⟨_,rfl,hb1,hK _ _ ?_⟩;have hw1:Below w.heap.size w w1:=(Below.refl w.heap.size w).drew.trans hb1;have hb2:=Hb.out.keep (hw1.block _ Hb.out.lt);have Ho1:=ae (show aK (fun q=>q=R) w w1 from aK.of_below hw1);obtain⟨c0,c1,c2⟩:=cell3 hb2;have f1:=hb2.free 1;have f2:=hb2.free 2;have Hb2:=ae hb2;clear hK KK p0 p1 HU hb1 hw1 hb2 Hb;go_simp
      repeat (refine aF (v:=?_) rfl (aD rfl) (fun w' hC=>?_) (fun K hK=>?_);rotate_left;(focus (go_simp;(try simp(disch:=omega) only[af]);first | done | exact rfl));go_simp;(try simp(disch:=omega) only[af]);refine hK _ ?_;clear hK K)
      refine aW ?_;go_wp2_with fail
      go_ret
      have hd:decide ((1099511627776:Int) < (n:Int))=false:=decide_eq_false (by omega);refine⟨rfl,⟨nx,false,?_,hnx,rfl⟩,(Ho1.out.setCell (.inl rfl) _).setCell (.inl rfl) _⟩;rw[hd];exact(Hb2.out.set 2 _).set 1 _
     ·rw[if_neg (by omega),if_neg (by omega)];have hI:(1099511627776:Int) < (n:Int):=by omega
      obtain⟨c0,c1,c2⟩:=cell3 hb;have p0:∀ w',aI w.drew w' -> w'.cell? _=_:=fun w' hh=>laterC c0 hh
      have p1:∀ w',aI w.drew w' -> w'.cell? _=_:=fun w' hh=>laterC c1 hh
      have Hb:=ae hb;clear hb c0 c1 c2
      go_enter Tryz.func157,Tryz.ntmps157
      go_wp2_with fail;refine aJ aI [(0,true),(1,true),(2,true),(3,true),(4,true),(5,true),(6,true),(7,true),(8,false),(9,true),(10,true),(11,true),(12,true),(13,true),(14,true),(15,true)] (by kernel_rfl) (by kernel_rfl) aH aG ?_
      repeat (refine aF (v:=?_) rfl (aD rfl) (fun w' hC=>?_) (fun K hK=>?_);rotate_left;(focus (go_simp;(try simp(disch:=omega) only[af]);first | done | exact rfl));go_simp;(try simp(disch:=omega) only[af]);refine hK _ ?_;clear hK K)
      refine aQ rfl rfl (fun KK hK=>?_);go_simp;refine(HU.out _ (Below.refl w.heap.size w).drew).mono ?_;rintro e w1 ⟨rfl,hb1⟩;refine⟨_,rfl,hb1,hK _ _ ?_⟩;have hw1:Below w.heap.size w w1:=(Below.refl w.heap.size w).drew.trans hb1;have hb2:=Hb.out.keep (hw1.block _ Hb.out.lt);have Ho1:=ae (show aK (fun q=>q=R) w w1 from aK.of_below hw1);obtain⟨c0,c1,c2⟩:=cell3 hb2;have f1:=hb2.free 1;have f2:=hb2.free 2;have Hb2:=ae hb2;clear hK KK p0 p1 HU hb1 hw1 hb2 Hb;go_simp
      repeat (refine aF (v:=?_) rfl (aD rfl) (fun w' hC=>?_) (fun K hK=>?_);rotate_left;(focus (go_simp;(try simp(disch:=omega) only[af]);first | done | exact rfl));go_simp;(try simp(disch:=omega) only[af]);refine hK _ ?_;clear hK K)
      refine aW ?_;go_wp2_with fail
      go_ret
      exact⟨rfl,⟨k,true,Hb2.out.set 2 _,hk,rfl⟩,Ho1.out.setCell (.inl rfl) _⟩
set_option maxRecDepth 100000 in
set_option maxHeartbeats 2000000 in
theorem j7 (w:World) (R:Nat) (av:Option Addr) (cap:Nat) (b:List UInt8) (k:Nat) (t:RKey) (nx:Nat) (bad ok:Bool) (hb:Blk w R [.slice av b.length cap,.int .i64 (k:Int),.bool bad] 207) (hbl:b.length <= 9223372036854775807) (hk:k <= b.length) (hnx:nx <= b.length)
 (hU:RdC w 200 av cap b.length k (.string ⟨t.toArray⟩) nx ok):
 Calls aC 158 #[.pointer (some ⟨R,0,none⟩)] w fun e w'=>
  e=.returned (.string ⟨(if bad=false /\ ok=true then t else []).toArray⟩) /\ gK w' R av cap b (if bad=false /\ ok=true then some (b.drop nx) else none) /\ aK (fun q=>q=R) w w':=by
 unfold RdC at hU;have HU:=ae hU;clear hU;cases bad with
 | true=>
   rw[if_neg (by simp),if_neg (by simp)];obtain⟨c0,c1,c2⟩:=cell3 hb;have p0:∀ w',aI w.drew w' -> w'.cell? _=_:=fun w' hh=>laterC c0 hh
   have p1:∀ w',aI w.drew w' -> w'.cell? _=_:=fun w' hh=>laterC c1 hh
   have Hb:=ae hb;clear hb c0 c1 c2
   go_enter Tryz.func158,Tryz.ntmps158
   go_wp2_with fail;refine aJ aI [(0,true),(1,true),(2,true),(3,true),(4,true),(5,true),(6,true),(7,true),(8,false),(9,true),(10,true),(11,true),(12,true),(13,true),(14,true),(15,true)] (by kernel_rfl) (by kernel_rfl) aH aG ?_
   repeat (refine aF (v:=?_) rfl (aD rfl) (fun w' hC=>?_) (fun K hK=>?_);rotate_left;(focus (go_simp;(try simp(disch:=omega) only[af]);first | done | exact rfl));go_simp;(try simp(disch:=omega) only[af]);refine hK _ ?_;clear hK K)
   refine aQ rfl rfl (fun KK hK=>?_);go_simp;refine(HU.out _ (Below.refl w.heap.size w).drew).mono ?_;rintro e w1 ⟨rfl,hb1⟩;refine⟨_,rfl,hb1,hK _ _ ?_⟩;have hw1:Below w.heap.size w w1:=(Below.refl w.heap.size w).drew.trans hb1;have hb2:=Hb.out.keep (hw1.block _ Hb.out.lt);have Ho1:=ae (show aK (fun q=>q=R) w w1 from aK.of_below hw1);obtain⟨c0,c1,c2⟩:=cell3 hb2;have f1:=hb2.free 1;have f2:=hb2.free 2;have Hb2:=ae hb2;clear hK KK p0 p1 HU hb1 hw1 hb2 Hb;go_simp
   repeat (refine aF (v:=?_) rfl (aD rfl) (fun w' hC=>?_) (fun K hK=>?_);rotate_left;(focus (go_simp;(try simp(disch:=omega) only[af]);first | done | exact rfl));go_simp;(try simp(disch:=omega) only[af]);refine hK _ ?_;clear hK K)
   refine aW ?_;go_wp2_with fail
   go_ret
   exact⟨rfl,⟨k,true,Hb2.out.set 2 _,hk,rfl⟩,Ho1.out.setCell (.inl rfl) _⟩
 | false=>
   cases ok with
   | false=>
     rw[if_neg (by simp),if_neg (by simp)];obtain⟨c0,c1,c2⟩:=cell3 hb;have p0:∀ w',aI w.drew w' -> w'.cell? _=_:=fun w' hh=>laterC c0 hh
     have p1:∀ w',aI w.drew w' -> w'.cell? _=_:=fun w' hh=>laterC c1 hh
     have Hb:=ae hb;clear hb c0 c1 c2
     go_enter Tryz.func158,Tryz.ntmps158
     go_wp2_with fail;refine aJ aI [(0,true),(1,true),(2,true),(3,true),(4,true),(5,true),(6,true),(7,true),(8,false),(9,true),(10,true),(11,true),(12,true),(13,true),(14,true),(15,true)] (by kernel_rfl) (by kernel_rfl) aH aG ?_
     repeat (refine aF (v:=?_) rfl (aD rfl) (fun w' hC=>?_) (fun K hK=>?_);rotate_left;(focus (go_simp;(try simp(disch:=omega) only[af]);first | done | exact rfl));go_simp;(try simp(disch:=omega) only[af]);refine hK _ ?_;clear hK K)
     refine aQ rfl rfl (fun KK hK=>?_);go_simp;refine(HU.out _ (Below.refl w.heap.size w).drew).mono ?_;rintro e w1 ⟨rfl,hb1⟩;refine⟨_,rfl,hb1,hK _ _ ?_⟩;have hw1:Below w.heap.size w w1:=(Below.refl w.heap.size w).drew.trans hb1;have hb2:=Hb.out.keep (hw1.block _ Hb.out.lt);have Ho1:=ae (show aK (fun q=>q=R) w w1 from aK.of_below hw1);obtain⟨c0,c1,c2⟩:=cell3 hb2;have f1:=hb2.free 1;have f2:=hb2.free 2;have Hb2:=ae hb2;clear hK KK p0 p1 HU hb1 hw1 hb2 Hb;go_simp
     repeat (refine aF (v:=?_) rfl (aD rfl) (fun w' hC=>?_) (fun K hK=>?_);rotate_left;(focus (go_simp;(try simp(disch:=omega) only[af]);first | done | exact rfl));go_simp;(try simp(disch:=omega) only[af]);refine hK _ ?_;clear hK K)
     refine aW ?_;go_wp2_with fail
     go_ret
     exact⟨rfl,⟨k,true,Hb2.out.set 2 _,hk,rfl⟩,Ho1.out.setCell (.inl rfl) _⟩
   | true=>
     rw[if_pos ⟨rfl,rfl⟩,if_pos ⟨rfl,rfl⟩];obtain⟨c0,c1,c2⟩:=cell3 hb;have p0:∀ w',aI w.drew w' -> w'.cell? _=_:=fun w' hh=>laterC c0 hh
     have p1:∀ w',aI w.drew w' -> w'.cell? _=_:=fun w' hh=>laterC c1 hh
     have Hb:=ae hb;clear hb c0 c1 c2
     go_enter Tryz.func158,Tryz.ntmps158
     go_wp2_with fail;refine aJ aI [(0,true),(1,true),(2,true),(3,true),(4,true),(5,true),(6,true),(7,true),(8,false),(9,true),(10,true),(11,true),(12,true),(13,true),(14,true),(15,true)] (by kernel_rfl) (by kernel_rfl) aH aG ?_
     repeat (refine aF (v:=?_) rfl (aD rfl) (fun w' hC=>?_) (fun K hK=>?_);rotate_left;(focus (go_simp;(try simp(disch:=omega) only[af]);first | done | exact rfl));go_simp;(try simp(disch:=omega) only[af]);refine hK _ ?_;clear hK K)
     refine aQ rfl rfl (fun KK hK=>?_);go_simp;refine(HU.out _ (Below.refl w.heap.size w).drew).mono ?_;rintro e w1 ⟨rfl,hb1⟩;refine⟨_,rfl,hb1,hK _ _ ?_⟩;have hw1:Below w.heap.size w w1:=(Below.refl w.heap.size w).drew.trans hb1;have hb2:=Hb.out.keep (hw1.block _ Hb.out.lt);have Ho1:=ae (show aK (fun q=>q=R) w w1 from aK.of_below hw1);obtain⟨c0,c1,c2⟩:=cell3 hb2;have f1:=hb2.free 1;have f2:=hb2.free 2;have Hb2:=ae hb2;clear hK KK p0 p1 HU hb1 hw1 hb2 Hb;go_simp
     repeat (refine aF (v:=?_) rfl (aD rfl) (fun w' hC=>?_) (fun K hK=>?_);rotate_left;(focus (go_simp;(try simp(disch:=omega) only[af]);first | done | exact rfl));go_simp;(try simp(disch:=omega) only[af]);refine hK _ ?_;clear hK K)
     refine aW ?_;go_wp2_with fail
     go_ret
     refine⟨rfl,⟨nx,false,?_,hnx,rfl⟩,(Ho1.out.setCell (.inl rfl) _).setCell (.inl rfl) _⟩;exact(Hb2.out.set 2 _).set 1 _
theorem sO {b r:List UInt8} {t:RKey} (h:rdT b=some (t,r)):r.length <= b.length /\ r=b.drop (b.length - r.length):=by
 unfold rdT at h;split at h
 ·rename_i n q hq;have h1:=(fk.1 hq).2;split at h
  ·rename_i hn;simp at h;obtain⟨rfl,rfl⟩:=h;have hl:=congrArg List.length h1;simp at hl;refine⟨by simp;omega,?_⟩;rw[h1];simp;rw[show (uvar n).length+q.length - (q.length - n)=(uvar n).length+n by omega,List.drop_append];simp
  ·simp at h
 ·simp at h
theorem iB {b r:List UInt8} {n:Nat} (h:rdF b 9=some (n,r)):r.length <= b.length /\ r=b.drop (b.length - r.length):=by
 have h1:=(fk.1 h).2;have hl:=congrArg List.length h1;simp at hl;refine⟨by omega,?_⟩;rw[h1];simp
theorem dK (w:World) (R:Nat) (F:aV) (av:Option Addr) (cap:Nat) (b:List UInt8) (st:de) (hR:gK w R av cap b st) (hB:Bytes F w (.slice av b.length cap) b) (hF:∀ q,F q -> q < w.heap.size):
 Calls aC 157 #[.pointer (some ⟨R,0,none⟩)] w fun e w'=>e=.returned (.int .i64 (cu st).1) /\ gK w' R av cap b (cu st).2 /\ aK (fun q=>q=R) w w':=by
 obtain⟨k,bad,hb,hk,rfl⟩:=hR;have hbl:b.length <= 9223372036854775807:=by obtain⟨-,h1,h2,-⟩:=hB.cells;unfold maxLen at h2;omega
 have hU:∀ W,Below w.heap.size w W -> Calls aC 99 #[.slice av b.length cap,.int .i64 (k:Int)] W fun e w'=>e=.returned (iA b k) /\ Below W.heap.size W w':=fun W hW=>nf W F av cap b k (hB.keep (w':=W) fun q hq hlt=>hW.block q hlt) (fun q hq=>aw (hF q hq) hW.size) hk
 unfold iA at hU;cases ho:rdF (b.drop k) 9 with
 | none=>
   rw[ho] at hU;have:=lB w R av cap b k 0 0 bad false hb hbl hk (by omega) (by omega) hU;rw[if_neg (by simp),if_neg (by simp)] at this
   have hn:cu (if bad then none else some (b.drop k))=(0,none):=by
    cases bad
    ·show cu (some (b.drop k))=_;unfold cu;dsimp only;rw[ho]
    ·rfl
   rw[hn];exact this
 | some p=>
   obtain⟨n,r⟩:=p;rw[ho] at hU;obtain⟨h1,h2⟩:=iB ho;have hl:=iQ ho;rw[List.length_drop] at h1 h2
   have hr:b.drop (b.length - r.length)=r:=by
    conv=>rhs;rw[h2]
    rw[List.drop_drop]
    congr 1
    omega
   have:=lB w R av cap b k n (b.length - r.length) bad true hb hbl hk hl.2.2 (by omega) hU;rw[hr] at this;cases bad with
   | true=>
     rw[if_neg (by simp),if_neg (by simp)] at this;exact this
   | false=>
     have hn:cu (some (b.drop k))=if n <= 1099511627776 then ((n:Int),some r) else (0,none):=by
      unfold cu;dsimp only;rw[ho]
     show Calls _ _ _ _ fun e w'=>e=.returned (.int .i64 (cu (some (b.drop k))).1) /\ gK w' R av cap b (cu (some (b.drop k))).2 /\ aK (fun q=>q=R) w w'
     rw[hn]
     by_cases hm:n <= 1099511627776
     ·rw[if_pos hm];rw[if_pos ⟨rfl,rfl,hm⟩,if_pos ⟨rfl,rfl,hm⟩] at this;exact this
     ·rw[if_neg hm];rw[if_neg (by omega),if_neg (by omega)] at this;exact this
theorem iV (w:World) (R:Nat) (F:aV) (av:Option Addr) (cap:Nat) (b:List UInt8) (st:de) (hR:gK w R av cap b st) (hB:Bytes F w (.slice av b.length cap) b) (hF:∀ q,F q -> q < w.heap.size):
 Calls aC 158 #[.pointer (some ⟨R,0,none⟩)] w fun e w'=>e=.returned (.string ⟨(cz st).1.toArray⟩) /\ gK w' R av cap b (cz st).2 /\ aK (fun q=>q=R) w w':=by
 obtain⟨k,bad,hb,hk,rfl⟩:=hR;have hbl:b.length <= 9223372036854775807:=by obtain⟨-,h1,h2,-⟩:=hB.cells;unfold maxLen at h2;omega
 have hU:∀ W,Below w.heap.size w W -> Calls aC 200 #[.slice av b.length cap,.int .i64 (k:Int)] W fun e w'=>e=.returned (jo b k) /\ Below W.heap.size W w':=fun W hW=>ro W F av cap b k (hB.keep (w':=W) fun q hq hlt=>hW.block q hlt) (fun q hq=>aw (hF q hq) hW.size) hk
 unfold jo at hU;cases ho:rdT (b.drop k) with
 | none=>
   rw[ho] at hU;have:=j7 w R av cap b k [] 0 bad false hb hbl hk (by omega) hU;rw[if_neg (by simp),if_neg (by simp)] at this
   have hn:cz (if bad then none else some (b.drop k))=([],none):=by
    cases bad
    ·show cz (some (b.drop k))=_;unfold cz;dsimp only;rw[ho]
    ·rfl
   rw[hn];exact this
 | some p=>
   obtain⟨t,r⟩:=p;rw[ho] at hU;obtain⟨h1,h2⟩:=sO ho;rw[List.length_drop] at h1 h2
   have hr:b.drop (b.length - r.length)=r:=by
    conv=>rhs;rw[h2]
    rw[List.drop_drop]
    congr 1
    omega
   have:=j7 w R av cap b k t (b.length - r.length) bad true hb hbl hk (by omega) hU;rw[hr] at this;cases bad with
   | true=>
     rw[if_neg (by simp),if_neg (by simp)] at this;exact this
   | false=>
     have hn:cz (some (b.drop k))=(t,some r):=by
      unfold cz;dsimp only;rw[ho]
     show Calls _ _ _ _ fun e w'=>e=.returned (.string ⟨(cz (some (b.drop k))).1.toArray⟩) /\ gK w' R av cap b (cz (some (b.drop k))).2 /\ aK (fun q=>q=R) w w'
     rw[hn];rw[if_pos ⟨rfl,rfl⟩,if_pos ⟨rfl,rfl⟩] at this;exact this
end
end Go.Proofs.YtobjdpngnfbicaaGreatDoor
