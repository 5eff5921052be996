/-
  RClone Range RSort ShelfD
-/
import Derived.Test.YtobjdpngnfbicaaGreatDoorZK06
import Derived.Test.YtobjdpngnfbicaaGreatDoorZK04
import Derived.Test.YtobjdpngnfbicaaGreatDoorZK05
import Derived.RangeFuncFrom
import Derived.Test.YtobjdpngnfbicaaGreatDoorZK03
import Derived.OrdersIn
import Derived.RangeFuncCalls
import Derived.RangeFuncNested
import Derived.RangeFuncBound
import Derived.RangeFuncLeaves
import Derived.OwnWalkIn
import Derived.TacticsInMore
import Derived.LoopNIn
import Derived.LoopIn
import Derived.Test.YtobjdpngnfbicaaGreatDoorZK10
import Derived.Sort.OwnSorted
import Derived.Shelf.Small.Bits
import Derived.Shelf.Small.Wraps
import Derived.Shelf.Strconv.Itoa0
import Derived.Shelf.Strings.Search1
import Derived.Shelf.Strings.Search2
import Derived.Shelf.Strings.Cut
import Derived.Shelf.LaysM
import Derived.Shelf.Strings.Shaped
import Derived.Shelf.Sort.Plain
import Derived.Shelf.GgClosure.StringsIndexFunc
import Derived.Ground.GgwProg
import Derived.Shelf.GgClosure.StringsIndexFuncTop
import Derived.Shelf.GgClosure.StringsRunes
import Derived.Shelf.Strings.FuncGrows
import Derived.Shelf.Slices.CompactS
import Derived.Shelf.Slices.In.SortNone
import Derived.Ground.NamesProg
import Derived.Test.YtobjdpngnfbicaaGreatDoorProg
open Go.Lib renaming hid->ae
open Nat renaming le_refl->aq,le_trans->au
open List renaming length_cons->aB
open Go.Proofs.Tryz renaming prog->aC
namespace Go.Proofs.YtobjdpngnfbicaaGreatDoor
open Go.RowKit
set_option linter.unusedVariables false
set_option maxRecDepth 20000
section
attribute [local go_sem ↓] bq
set_option maxHeartbeats 1000000 in
theorem j4 (w:World) (F:aV) (v:Value) (l:List Int) (hv:Rows F w 1 v l.length (l.map eI)) (hlen:l.length <= 1000000):
 Calls aC 54 #[v] w fun e w'=>∃ r,e=.returned r /\ w'.ownsRow w.heap.size 3 1 r l.length (l.map eI) /\ Below w.heap.size w w':=by
 have hW:Rows F (w.alloc (.cells #[] 3)) 1 v l.length (l.map eI):=hv.keep fun b _ hb=>Below.heap_alloc _ _ _ hb
 obtain⟨i0,q1,q2,q3,q4⟩:=info_parts infoI
 obtain⟨v',w',hr,hown,hgb⟩:=bw (P:=aC) (w.alloc (.cells #[] 3)) w.heap.size 33 3 Tryz.underlying33 q1 q2 q3 q4 rfl (by decide) (.slice (some ⟨w.heap.size,0,none⟩) 0 0) 0 []
  ⟨rfl,.inr ⟨w.heap.size,0,#[],rfl,aq _,by unfold World.alloc;simp,aq _,by unfold maxLen;omega,rfl,rfl⟩⟩ F v l.length (l.map eI) hW (rg l) (by unfold maxLen;omega) (by omega) (by simp)
 rw[Nat.zero_add,List.nil_append] at hown
 obtain⟨n,hn⟩:∃ n,l.length=n:=⟨_,rfl⟩
 obtain⟨a,cap,rfl,hc,hm,hz⟩:=hv.shape;rw[hn] at hown hr hc ⊢;obtain⟨a',c',rfl⟩:=own_shape hown;have Hown:=ae hown;have Hgb:=ae hgb;have Hn:=ae hn;clear hown hgb hn hW hv q1 q2 q3 q4;cases a with
 | none=>
   obtain rfl:=hz rfl;obtain rfl:n=0:=by omega
   obtain rfl:l = []:=List.length_eq_zero_iff.1 Hn.out;have hn:=fun (W:World)=>Lib.run_eql_slice_nil (P:=aC) W 33 3 none 0 0 0 0 Tryz.underlying33
   go_enter Tryz.func54,Tryz.ntmps54
   go_wp2_with fail
   go_ret
   exact⟨_,rfl,World.ownsRow_nil _ _ _ _,Below.refl _ _⟩
 | some ad=>
   have hn:=fun (W:World)=>Lib.run_eql_slice_nil (P:=aC) W 33 3 (some ad) n cap 0 0 Tryz.underlying33
   go_enter Tryz.func54,Tryz.ntmps54
   go_wp2_with fail
   go_ret
   exact⟨_,rfl,Hown.out,(aE _ _).grown Hgb.out (by simp) (fun k hk=>by simp[Value.ownBlock] at hk;omega)⟩
set_option maxHeartbeats 1000000 in
theorem jp (w:World) (F:aV) (v:Value) (l:List RIt) (hv:Rows F w 4 v l.length (l.flatMap aZ)) (hlen:l.length <= 1000000):
 Calls aC 55 #[v] w fun e w'=>∃ r,e=.returned r /\ w'.ownsRow w.heap.size 108 4 r l.length (l.flatMap aZ) /\ Below w.heap.size w w':=by
 have hW:Rows F (w.alloc (.cells #[] 108)) 4 v l.length (l.flatMap aZ):=hv.keep fun b _ hb=>Below.heap_alloc _ _ _ hb
 obtain⟨i0,q1,q2,q3,q4⟩:=info_parts infoItP
 obtain⟨v',w',hr,hown,hgb⟩:=bw (P:=aC) (w.alloc (.cells #[] 108)) w.heap.size 34 108 Tryz.underlying34 q1 q2 q3 q4 rfl (by decide) (.slice (some ⟨w.heap.size,0,none⟩) 0 0) 0 []
  ⟨rfl,.inr ⟨w.heap.size,0,#[],rfl,aq _,by unfold World.alloc;simp,aq _,by unfold maxLen;omega,rfl,rfl⟩⟩ F v l.length (l.flatMap aZ) hW (dS l) (by unfold maxLen;omega) (by omega) (by simp)
 rw[Nat.zero_add,List.nil_append] at hown
 obtain⟨n,hn⟩:∃ n,l.length=n:=⟨_,rfl⟩
 obtain⟨a,cap,rfl,hc,hm,hz⟩:=hv.shape;rw[hn] at hown hr hc ⊢;obtain⟨a',c',rfl⟩:=own_shape hown;have Hown:=ae hown;have Hgb:=ae hgb;have Hn:=ae hn;clear hown hgb hn hW hv q1 q2 q3 q4;cases a with
 | none=>
   obtain rfl:=hz rfl;obtain rfl:n=0:=by omega
   obtain rfl:l = []:=List.length_eq_zero_iff.1 Hn.out;have hn:=fun (W:World)=>Lib.run_eql_slice_nil (P:=aC) W 34 108 none 0 0 0 0 Tryz.underlying34
   go_enter Tryz.func55,Tryz.ntmps55
   go_wp2_with fail
   go_ret
   exact⟨_,rfl,World.ownsRow_nil _ _ _ _,Below.refl _ _⟩
 | some ad=>
   have hn:=fun (W:World)=>Lib.run_eql_slice_nil (P:=aC) W 34 108 (some ad) n cap 0 0 Tryz.underlying34
   go_enter Tryz.func55,Tryz.ntmps55
   go_wp2_with fail
   go_ret
   exact⟨_,rfl,Hown.out,(aE _ _).grown Hgb.out (by simp) (fun k hk=>by simp[Value.ownBlock] at hk;omega)⟩
set_option maxHeartbeats 1000000 in
theorem jq (w:World) (F:aV) (v:Value) (l:List RGo) (hv:Rows F w 3 v l.length (l.flatMap cn)) (hlen:l.length <= 1000000):
 Calls aC 56 #[v] w fun e w'=>∃ r,e=.returned r /\ w'.ownsRow w.heap.size 111 3 r l.length (l.flatMap cn) /\ Below w.heap.size w w':=by
 have hW:Rows F (w.alloc (.cells #[] 111)) 3 v l.length (l.flatMap cn):=hv.keep fun b _ hb=>Below.heap_alloc _ _ _ hb
 obtain⟨i0,q1,q2,q3,q4⟩:=info_parts infoGoP
 obtain⟨v',w',hr,hown,hgb⟩:=bw (P:=aC) (w.alloc (.cells #[] 111)) w.heap.size 35 111 Tryz.underlying35 q1 q2 q3 q4 rfl (by decide) (.slice (some ⟨w.heap.size,0,none⟩) 0 0) 0 []
  ⟨rfl,.inr ⟨w.heap.size,0,#[],rfl,aq _,by unfold World.alloc;simp,aq _,by unfold maxLen;omega,rfl,rfl⟩⟩ F v l.length (l.flatMap cn) hW (f9 l) (by unfold maxLen;omega) (by omega) (by simp)
 rw[Nat.zero_add,List.nil_append] at hown
 obtain⟨n,hn⟩:∃ n,l.length=n:=⟨_,rfl⟩
 obtain⟨a,cap,rfl,hc,hm,hz⟩:=hv.shape;rw[hn] at hown hr hc ⊢;obtain⟨a',c',rfl⟩:=own_shape hown;have Hown:=ae hown;have Hgb:=ae hgb;have Hn:=ae hn;clear hown hgb hn hW hv q1 q2 q3 q4;cases a with
 | none=>
   obtain rfl:=hz rfl;obtain rfl:n=0:=by omega
   obtain rfl:l = []:=List.length_eq_zero_iff.1 Hn.out;have hn:=fun (W:World)=>Lib.run_eql_slice_nil (P:=aC) W 35 111 none 0 0 0 0 Tryz.underlying35
   go_enter Tryz.func56,Tryz.ntmps56
   go_wp2_with fail
   go_ret
   exact⟨_,rfl,World.ownsRow_nil _ _ _ _,Below.refl _ _⟩
 | some ad=>
   have hn:=fun (W:World)=>Lib.run_eql_slice_nil (P:=aC) W 35 111 (some ad) n cap 0 0 Tryz.underlying35
   go_enter Tryz.func56,Tryz.ntmps56
   go_wp2_with fail
   go_ret
   exact⟨_,rfl,Hown.out,(aE _ _).grown Hgb.out (by simp) (fun k hk=>by simp[Value.ownBlock] at hk;omega)⟩
structure cD (w:World) (base:Nat) (s1 s2 s3:Value) (m:RMap):Prop where
 seen:w.ownsRow base 3 1 s1 m.seen.length (m.seen.map eI)
 items:w.ownsRow base 108 4 s2 m.items.length (m.items.flatMap aZ)
 gone:w.ownsRow base 111 3 s3 m.gone.length (m.gone.flatMap cn)
structure Bnd (m:RMap):Prop where
 seenB:∀ n ∈ m.seen,cw n
 itemsB:∀ x ∈ m.items,x.key.length <= 9223372036854775807 /\ cw x.dev /\ cw x.seq /\ cw x.val
 goneB:∀ x ∈ m.gone,x.key.length <= 9223372036854775807 /\ cw x.dev /\ cw x.seq
theorem bJ.bnd {F:aV} {w:World} {s1 s2 s3:Value} {m:RMap} (h:bJ F w s1 s2 s3 m):Bnd m:=⟨h.seenB,h.itemsB,h.goneB⟩
theorem cD.map {w:World} {base:Nat} {s1 s2 s3:Value} {m:RMap} (h:cD w base s1 s2 s3 m) (hb:Bnd m):bJ (fun b=>base <= b) w s1 s2 s3 m:=
 ⟨(Rows.of_owns h.seen).mono (fun b h _=>h.1),(Rows.of_owns h.items).mono (fun b h _=>h.1),(Rows.of_owns h.gone).mono (fun b h _=>h.1),hb.seenB,hb.itemsB,hb.goneB⟩
theorem cD.below {w w':World} {base:Nat} {s1 s2 s3:Value} {m:RMap} (h:cD w base s1 s2 s3 m) (hb:Below w.heap.size w w'):cD w' base s1 s2 s3 m:=
 ⟨bc h.seen hb,bc h.items hb,bc h.gone hb⟩
theorem cD.mono {w:World} {base base':Nat} {s1 s2 s3:Value} {m:RMap} (h:cD w base s1 s2 s3 m) (hb:base' <= base):cD w base' s1 s2 s3 m:=
 ⟨own_base h.seen hb,own_base h.items hb,own_base h.gone hb⟩
def iU (w:World) (base:Nat) (v:Value) (m:RMap):Prop:=∃ s1 s2 s3,v=.agg #[s1,s2,s3] /\ cD w base s1 s2 s3 m
theorem iU.map {w:World} {base:Nat} {v:Value} {m:RMap} (h:iU w base v m) (hb:Bnd m):cY (fun b=>base <= b) w v m:=by
 obtain⟨s1,s2,s3,rfl,h⟩:=h;exact⟨s1,s2,s3,rfl,h.map hb⟩
theorem iU.below {w w':World} {base:Nat} {v:Value} {m:RMap} (h:iU w base v m) (hb:Below w.heap.size w w'):iU w' base v m:=by
 obtain⟨s1,s2,s3,rfl,h⟩:=h;exact⟨s1,s2,s3,rfl,h.below hb⟩
theorem iU.mono {w:World} {base base':Nat} {v:Value} {m:RMap} (h:iU w base v m) (hb:base' <= base):iU w base' v m:=by
 obtain⟨s1,s2,s3,rfl,h⟩:=h;exact⟨s1,s2,s3,rfl,h.mono hb⟩
theorem cD.setCell {w:World} {base b i:Nat} {s1 s2 s3:Value} {m:RMap} {L:List Value} (h:cD w base s1 s2 s3 m) (hb:Blk w b L 37) (u:Value):cD (w.setCell ⟨b,i,none⟩ u) base s1 s2 s3 m:=
 ⟨aS h.seen hb (by decide) u,aS h.items hb (by decide) u,aS h.gone hb (by decide) u⟩
attribute [local go_sem] opC upC
theorem rx {wr:World} {b:Nat} {x y z:Value} (t:TypeId) (hr:Blk wr b [x,y,z] t) {s1 s2 s3:Value} {wf:World}
 (hwf:wf=((wr.setCell ⟨b,0,none⟩ s1).setCell ⟨b,1,none⟩ s2).setCell ⟨b,2,none⟩ s3):Blk wf b [s1,s2,s3] t:=by
 have e3:=((hr.set 0 s1).set 1 s2).set 2 s3;subst hwf;exact e3
set_option maxRecDepth 100000 in
set_option maxHeartbeats 1500000 in
theorem j5 (w:World) (F:aV) (v:Value) (m:RMap) (h:cY F w v m) (hs:m.seen.length <= 1000000) (hi:m.items.length <= 1000000) (hg:m.gone.length <= 1000000):
 Calls aC 114 #[v] w fun e w'=>(∃ r,e=.returned r /\ iU w' w.heap.size r m) /\ Below w.heap.size w w':=by
 replace h:=h.mono (G:=fun b=>b < w.heap.size) fun b _ hlt=>hlt
 obtain⟨s1,s2,s3,rfl,h⟩:=h;obtain⟨a1,p1,rfl,-⟩:=h.seen.shape;obtain⟨a2,p2,rfl,-⟩:=h.items.shape;obtain⟨a3,p3,rfl,-⟩:=h.gone.shape;have l1:=h.seen.len;have l2:=h.items.len;have l3:=h.gone.len;unfold maxLen at l1 l2 l3
 obtain⟨n1,hn1⟩:∃ n,m.seen.length=n:=⟨_,rfl⟩
 obtain⟨n2,hn2⟩:∃ n,m.items.length=n:=⟨_,rfl⟩
 obtain⟨n3,hn3⟩:∃ n,m.gone.length=n:=⟨_,rfl⟩
 rw[hn1,hn2,hn3] at h;rw[hn1] at l1 ⊢;rw[hn2] at l2 ⊢;rw[hn3] at l3 ⊢
 obtain⟨wx,hwx⟩:∃ wx,wx=w.alloc (.cells #[.slice a1 n1 p1,.slice a2 n2 p2,.slice a3 n3 p3] 37):=⟨_,rfl⟩
 have hbx:Below w.heap.size w wx:=by rw[hwx];exact aE _ _
 have hzx:wx.heap.size=w.heap.size+1:=by rw[hwx];simp
 have hx:=h.keep (w':=wx) fun b _ hlt=>hbx.block b hlt
 have hnx:Blk wx w.heap.size [.slice a1 n1 p1,.slice a2 n2 p2,.slice a3 n3 p3] 37:=by rw[hwx];exact Blk.new _ _ _
 have Hx:=ae hx;have Hn1:=ae hn1;have Hn2:=ae hn2;have Hn3:=ae hn3;have Hwx:=ae hwx;have Hbx:=ae hbx;have Hzx:=ae hzx;have c0:=hnx.cell 0;have c1:=hnx.cell 1;have c2:=hnx.cell 2;simp at c0 c1 c2;have Hnx:=ae hnx;clear hx hn1 hn2 hn3 hwx hbx hnx hzx;clear h
 obtain⟨w2,hw2⟩:∃ w2,w2=wx.alloc (.cells #[.slice none 0 0,.slice none 0 0,.slice none 0 0] 37):=⟨_,rfl⟩
 have hb2:Below w.heap.size w w2:=by rw[hw2];exact Hbx.out.alloc Hbx.out.size _
 have hz2:w2.heap.size=w.heap.size+2:=by rw[hw2];simp[Hzx.out]
 have HK:=ae (show ∀ w',aI w2 w' -> Blk w' w.heap.size [.slice a1 n1 p1,.slice a2 n2 p2,.slice a3 n3 p3] 37 /\ Blk w' (w.heap.size+1) [.slice none 0 0,.slice none 0 0,.slice none 0 0] 37 /\ bJ (fun b=>b < w.heap.size) w' (.slice a1 n1 p1) (.slice a2 n2 p2) (.slice a3 n3 p3) m from fun w' hl=>by
  have k1:Blk w2 w.heap.size [.slice a1 n1 p1,.slice a2 n2 p2,.slice a3 n3 p3] 37:=by rw[hw2];exact Hnx.out.alloc _
  have k2:Blk w2 (w.heap.size+1) [.slice none 0 0,.slice none 0 0,.slice none 0 0] 37:=by
   have:=Blk.new wx #[.slice none 0 0,.slice none 0 0,.slice none 0 0] 37;rw[hw2,<- Hzx.out];exact this
  exact⟨k1.keep (hl.block _ k1.lt),k2.keep (hl.block _ k2.lt),(Hx.out.keep (w':=w2) fun b _ hlt=>by rw[hw2];exact Below.heap_alloc _ _ _ hlt).keep fun b hb hlt=>hl.block b (by omega)⟩)
 have hL0:aI w2 w2.drew:=(Below.refl _ _).drew;have p0:∀ w',aI w2.drew w' -> w'.cell? ⟨w.heap.size,0,none⟩=some (.slice a1 n1 p1):=fun w' hh=>by simpa using (HK.out w' (aG _ _ _ hL0 hh)).1.cell 0
 have p1':∀ w',aI w2.drew w' -> w'.cell? ⟨w.heap.size,1,none⟩=some (.slice a2 n2 p2):=fun w' hh=>by simpa using (HK.out w' (aG _ _ _ hL0 hh)).1.cell 1
 have p2':∀ w',aI w2.drew w' -> w'.cell? ⟨w.heap.size,2,none⟩=some (.slice a3 n3 p3):=fun w' hh=>by simpa using (HK.out w' (aG _ _ _ hL0 hh)).1.cell 2
 have H1:=ae (j4 w2.drew _ (.slice a1 n1 p1) m.seen (HK.out w2.drew hL0).2.2.seen hs);have Hw2:=ae hw2;have Hb2:=ae hb2;have Hz2:=ae hz2;clear hw2 hb2 hz2 Hx Hnx c0 c1 c2 hL0
 go_enter Tryz.func114,Tryz.ntmps114
 go_wp2_with fail;rw[<- Hwx.out,<- Hw2.out];refine bh aI 10 [(0,true),(1,true),(3,true),(4,true),(6,true),(7,true),(2,false),(5,false),(8,false),(9,true),(10,false)] (by kernel_rfl) (by kernel_rfl) (by kernel_rfl) aH aG ?_
 repeat (refine aX (v:=?_) rfl (aD rfl) (fun w' hC=>?_) (fun K hK=>?_);rotate_left;(focus (go_simp;first | done | exact rfl));go_simp;refine hK _ ?_;clear hK K)
 refine bS rfl rfl (fun KK hK=>?_);go_simp;refine H1.out.mono ?_;rintro e w3 ⟨r1,rfl,ho1,hb3⟩;obtain⟨b3,d3,hr3⟩:=own_shape ho1;rw[Hn1.out] at hr3;subst hr3;refine⟨_,rfl,hb3,hK _ _ ?_⟩;clear hK KK H1;go_simp;have HL3:=ae (show aI w2 w3 from (Below.refl _ _).drew.trans hb3);have H2:=ae (jp w3 _ (.slice a2 n2 p2) m.items (HK.out w3 HL3.out).2.2.items hi);have Ho1:=ae ho1;clear hb3 ho1
 repeat (refine aX (v:=?_) rfl (aD rfl) (fun w' hC=>?_) (fun K hK=>?_);rotate_left;(focus (go_simp;first | done | exact rfl));go_simp;refine hK _ ?_;clear hK K)
 refine bS rfl rfl (fun KK hK=>?_);go_simp;refine H2.out.mono ?_;rintro e w4 ⟨r2,rfl,ho2,hb4⟩;obtain⟨b4,d4,hr4⟩:=own_shape ho2;rw[Hn2.out] at hr4;subst hr4;refine⟨_,rfl,hb4,hK _ _ ?_⟩;clear hK KK H2;go_simp;have HL4:=ae (aG _ _ _ HL3.out hb4);have H3:=ae (jq w4 _ (.slice a3 n3 p3) m.gone (HK.out w4 HL4.out).2.2.gone hg);have Ho1':=ae (bc Ho1.out hb4);have Ho2:=ae ho2;clear hb4 ho2
 repeat (refine aX (v:=?_) rfl (aD rfl) (fun w' hC=>?_) (fun K hK=>?_);rotate_left;(focus (go_simp;first | done | exact rfl));go_simp;refine hK _ ?_;clear hK K)
 refine bS rfl rfl (fun KK hK=>?_);go_simp;refine H3.out.mono ?_;rintro e w5 ⟨r3,rfl,ho3,hb5⟩;obtain⟨b5,d5,hr5⟩:=own_shape ho3;rw[Hn3.out] at hr5;subst hr5;refine⟨_,rfl,hb5,hK _ _ ?_⟩;clear hK KK H3;go_simp;have HL5:=ae (aG _ _ _ HL4.out hb5);have hr5:=(HK.out w5 HL5.out).2.1;have y0:=hr5.cell 0;have y1:=hr5.cell 1;have y2:=hr5.cell 2;have z0:=hr5.free 0;have z1:=hr5.free 1;have z2:=hr5.free 2;simp at y0 y1 y2
 obtain⟨wf,hwf⟩:∃ wf,wf=((w5.setCell ⟨w.heap.size+1,0,none⟩ (.slice b3 n1 d3)).setCell ⟨w.heap.size+1,1,none⟩ (.slice b4 n2 d4)).setCell ⟨w.heap.size+1,2,none⟩ (.slice b5 n3 d5):=⟨_,rfl⟩
 have hz3:w2.heap.size <= w3.heap.size:=HL3.out.size;have hz4:w2.heap.size <= w4.heap.size:=HL4.out.size
 have hown:cD wf w.heap.size (.slice b3 n1 d3) (.slice b4 n2 d4) (.slice b5 n3 d5) m:=by
  have ho:cD w5 w.heap.size (.slice b3 n1 d3) (.slice b4 n2 d4) (.slice b5 n3 d5) m:=⟨own_base (bc Ho1'.out hb5) (by have:=Hz2.out;show w.heap.size <= w2.drew.heap.size;show w.heap.size <= w2.heap.size;omega),own_base (bc Ho2.out hb5) (by have:=Hz2.out;omega),own_base ho3 (by have:=Hz2.out;omega)⟩
  rw[hwf];exact((ho.setCell hr5 _).setCell (hr5.set 0 _) _).setCell ((hr5.set 0 _).set 1 _) _
 have hblk:=rx _ hr5 hwf
 have hbf:Below w.heap.size w wf:=by
  rw[hwf];have h5:Below w.heap.size w w5:=Hb2.out.trans (HL5.out.mono (by have:=Hz2.out;omega));exact((h5.setCell (p:=⟨w.heap.size+1,0,none⟩) (Nat.le_succ _) _).setCell (p:=⟨w.heap.size+1,1,none⟩) (Nat.le_succ _) _).setCell (p:=⟨w.heap.size+1,2,none⟩) (Nat.le_succ _) _
 have Q0:=ae (hblk.cell 0);have Q1:=ae (hblk.cell 1);have Q2:=ae (hblk.cell 2);have Hown:=ae hown;have Hbf:=ae hbf;have Hwf:=ae hwf;clear hb5 hown hbf hblk hr5 hwf ho3 p0 p1' p2' hz3 hz4
 repeat (refine aX (v:=?_) rfl (aD rfl) (fun w' hC=>?_) (fun K hK=>?_);rotate_left;(focus (go_simp;first | done | exact rfl));go_simp;refine hK _ ?_;clear hK K)
 refine bK rfl rfl rfl (fun KK hK=>?_);go_simp;rw[<- Hwf.out];refine hK _ _ ?_;clear hK KK y0 y1 y2 z0 z1 z2;go_simp;refine bR ?_;go_wp2_with fail;have q0:=Q0.out;have q1:=Q1.out;have q2:=Q2.out;simp at q0 q1 q2;exact bodyPost_ret (v:=.agg #[.slice b3 n1 d3,.slice b4 n2 d4,.slice b5 n3 d5]) (by simp[results,Tryz.results114,go_sem,q0,q1,q2]) rfl ⟨⟨_,rfl,_,_,_,rfl,Hown.out⟩,Hbf.out⟩
end
end Go.Proofs.YtobjdpngnfbicaaGreatDoor
namespace Go.Proofs.YtobjdpngnfbicaaGreatDoor
open Go Go.RowKit
set_option linter.unusedVariables false
set_option maxRecDepth 20000
variable {P:Program}
def SeqG {α:Type} (P:Program) (gf:Nat) (lb:Array Value) (encs:α -> Array Value) (Kp:World -> World -> Prop) (G:List α -> α -> World -> Prop) (S Sp:List α -> Prop) (w:World):Prop:=
 ∀ (l:Nat) (J Jx:List α -> World -> Prop) (W:World),Below w.heap.size w W -> AbidesFrom W.heap.size J -> AbidesFrom W.heap.size Jx ->
   (∀ pre x W1,J pre W1 -> G pre x W1 -> YieldAt Fence.wide 0 P l (encs x) W1 fun e W'=>
    (e=.returned (.bool true) /\ J (pre ++ [x]) W' /\ Kp W1 W') \/ (e=.returned (.bool false) /\ Jx (pre ++ [x]) W')) ->
   J [] W ->
   CallsIn Fence.wide 1 P gf (#[.func (.yield l) #[] #[]] ++ lb) W fun e W'=>(∃ v,e=.returned v) /\ ((∃ xs,S xs /\ J xs W') \/ (∃ pre,Sp pre /\ Jx pre W'))
def roundLeft {α:Type} (Kp:World -> World -> Prop) (I E:List α -> World -> Prop) (xs:List α) (W:World):Exit -> Act -> World -> Prop
 | .normal,_,W'=>KeepsOthers W W' /\ Kp W W' /\ I xs W'
 | .ret,_,W'=>KeepsOthers W W' /\ E xs W'
 | _,_,_=>False
def Booked (B:Nat) (r:Loop) (W:World):Prop:=W.heap[B+1]?=some (.loop r) /\ W.heap[B]?=some (.deferred (some []))
theorem Booked.grown {B:Nat} {r:Loop} {W W':World} {row:Option Nat} (h:Booked B r W) (hg:W.grownBy W' row) (hr:∀ q,row=some q -> ∃ o:Obj,W.heap[q]?=some o /\ o.isWalk=true):Booked B r W':=
 ⟨(grownBy_keeps hg hr h.1 rfl).trans h.1,(grownBy_keeps hg hr h.2 rfl).trans h.2⟩
theorem Booked.others {B:Nat} {r:Loop} {W W':World} (h:Booked B r W) (hk:KeepsOthers W W'):Booked B r W':=⟨hk.same _ _ h.1 rfl,hk.same _ _ h.2 rfl⟩
theorem Booked.put {B:Nat} {r:Loop} {W:World} (h:Booked B r W) (r':Loop):Booked B r' (W.putObj (B+1) (.loop r')):=
 ⟨World.putObj_heap_same (Array.getElem?_eq_some_iff.1 h.1).1,(World.putObj_heap_other (by omega)).trans h.2⟩
theorem range_known {α:Type} {g:Operand} {ps:Array Tmp} {assign body:Code} {Q:Exit -> Act -> World -> Prop} {a:Act} {w:World} {n:Nat}
 {gf:Nat} {lb:Array Value} (hg:a.eval g=.func (.func gf) #[] lb) (eg:∀ args w,(callFunc gf args).run P w=.ok (.enter gf args) w)
 {encs:α -> Array Value} {Kp:World -> World -> Prop} {G:List α -> α -> World -> Prop} {S Sp:List α -> Prop} (hseq:SeqG P gf lb encs Kp G S Sp w) (hps:∀ x,(encs x).size=ps.size)
 (hGb:∀ pre x (W:World) (l:Nat) (o o':Obj),w.heap.size <= l -> W.heap[l]?=some o -> o.isCells=false -> G pre x W -> G pre x (W.putObj l o'))
 (hKt:∀ {A B C:World},Kp A B -> Kp B C -> Kp A C) (hKb:∀ (W:World) (l:Nat) (o o':Obj),w.heap.size <= l -> W.heap[l]?=some o -> o.isCells=false -> Kp W (W.putObj l o'))
 (I E:List α -> World -> Prop) (hI:OwnFrom w.heap.size I) (hE:OwnFrom w.heap.size E) (h0:I [] w) (a₁:α -> Act)
 (hassign:∀ (l:Nat) (x:α) (W:World) (K:Act -> World -> Prop),K (a₁ x) W ->
  assign.wpIn (Fence.wide.inRound l) 0 P (Exit.then K (fun _ _ _=>False)) { tmps:=(ps.zip (encs x)).foldl (fun t (p,v)=>t.setIfInBounds p v) a.tmps,defers:=[] } W)
 (hbody:∀ (l:Nat) (pre:List α) (x:α) (W:World),I pre W -> G pre x W -> body.wpIn (Fence.wide.inRound l) 0 P (roundLeft Kp I E (pre ++ [x]) W) (a₁ x) W)
 (hdone:∀ (D:Nat) (xs:List α) (W:World),w.heap.size <= D -> S xs -> I xs W -> W.heap[D]?=some (.deferred (some [])) -> Q .normal { a with defers:={ target:=.collected D,args:=#[] } :: a.defers } W)
 (hstop:∀ (D:Nat) (pre:List α) (W:World),w.heap.size <= D -> Sp pre -> E pre W -> W.heap[D]?=some (.deferred (some [])) -> Code.ret.wpIn Fence.wide (n+2) P Q { a with defers:={ target:=.collected D,args:=#[] } :: a.defers } W):
 (Code.rangeFunc g ps assign body).wpIn Fence.wide (n+2) P Q a w:=by
 refine wpIn_rangeFunc fun fn hfn=>?_
 let R:LoopState -> Option Code -> Loop:=fun st pe=>{ state:=st,pending:=pe,fn,tmps:=a.tmps,params:=ps,assign,body,defers:=w.heap.size }
 have hbook:Booked w.heap.size (R .ready none) ((w.alloc (.deferred (some []))).alloc (.loop (R .ready none))):=by
  have h1:=World.alloc_heap_new (w.alloc (.deferred (some []))) (.loop (R .ready none));rw[World.size_alloc] at h1;exact⟨h1,(Below.heap_alloc _ _ _ (by simp)).trans (World.alloc_heap_new w _)⟩
 have hI0:I [] ((w.alloc (.deferred (some []))).alloc (.loop (R .ready none))):=hI.alloc _ (hI.alloc _ h0);have hbelow:Below w.heap.size w ((w.alloc (.deferred (some []))).alloc (.loop (R .ready none))):=((Below.refl _ w).alloc (aq _) _).alloc (by simp) _;have hsize:((w.alloc (.deferred (some []))).alloc (.loop (R .ready none))).heap.size=w.heap.size+2:=by simp
 have henter:=run_enterLoop_outer (P:=P) (w:=w) fn a.tmps ps assign body;change _=Result.ok _ ((w.alloc (.deferred (some []))).alloc (.loop (R .ready none))) at henter;generalize (w.alloc (.deferred (some []))).alloc (.loop (R .ready none))=W1 at *
 refine⟨w.heap.size+1,[{ target:=.collected w.heap.size,args:=#[] }],W1,{ target:=.fn (.func gf) lb,args:=#[.func (.yield (w.heap.size+1)) #[] #[]] },W1,gf,#[.func (.yield (w.heap.size+1)) #[] #[]] ++ lb,W1,
  henter,?_,fun _ _=>trivial,?_,fun h=>(by cases h),?_⟩
 ·simp only[resolve,hg];simp[go_sem]
 ·simp[invoke,go_sem,eg]
 have turned:∀ {A:World} {row:Option Nat},(∀ q,row=some q -> W1.heap.size <= q /\ ∃ o:Obj,A.heap[q]?=some o /\ o.isWalk=true) -> ∀ q,row=some q -> w.heap.size <= q /\ ∃ o:Obj,A.heap[q]?=some o /\ o.isCells=false:=
  fun hr q e=>⟨by have:=(hr q e).1;omega,by obtain⟨o,ho,hw⟩:=(hr q e).2;exact⟨o,ho,Obj.not_cells_of_walk hw⟩⟩
 have hcall:=hseq (w.heap.size+1) (fun pre W=>I pre W /\ Booked w.heap.size (R .ready none) W) (fun pre W=>E pre W /\ Booked w.heap.size (R .done (some .ret)) W) W1 hbelow
  (fun s A A' row hs hgr hr=>⟨hI s A A' row hs.1 hgr (turned hr),hs.2.grown hgr (fun q e=>(hr q e).2)⟩)
  (fun s A A' row hs hgr hr=>⟨hE s A A' row hs.1 hgr (turned hr),hs.2.grown hgr (fun q e=>(hr q e).2)⟩)
  (fun pre x W hIW hGW=>by
   obtain⟨hiw,hbk⟩:=hIW;have hy:=run_yield (P:=P) (args:=encs x) hbk.1 (hps x);refine⟨fn,_,assign,body,hy,roundIn_of_wpIn hfn (hassign _ x W _ ⟨_,run_beginRound hbk.1 rfl,?_⟩)⟩;have hbusy:=hbk.put { R .ready none with state:=.busy };have hw:=hbody (w.heap.size+1) pre x (W.putObj (w.heap.size+1) (.loop { R .ready none with state:=.busy })) (hI.putObj _ hiw (by omega) hbk.1 rfl) (hGb _ _ _ _ _ _ (by omega) hbk.1 rfl hGW);have hkp:=hKb W _ _ (.loop { R .ready none with state:=.busy }) (by omega) hbk.1 rfl;refine wpIn_mono hw ?_;intro ex a3 W3 hp;cases ex with
   | normal=>
     obtain⟨k1,k2,k3⟩:=hp;have hb3:=hbusy.others k1;exact⟨_,_,run_endRound (P:=P) none hb3.1,.inl ⟨rfl,⟨hI.putObj _ k3 (by omega) hb3.1 rfl,hb3.put _⟩,hKt (hKt hkp k2) (hKb _ _ _ _ (by omega) hb3.1 rfl)⟩⟩
   | ret=>
     obtain⟨k1,k2⟩:=hp;have hb3:=hbusy.others k1;exact⟨_,_,run_endRound (P:=P) (some .ret) hb3.1,.inr ⟨rfl,hE.putObj _ k2 (by omega) hb3.1 rfl,hb3.put _⟩⟩
   | exit id=>exact hp.elim
   | goto t=>exact hp.elim
   | panic c=>exact hp.elim
   | outgrown=>exact hp.elim) ⟨hI0,hbook⟩
 refine(callsIn_wide (n:=n+2 - 1)).2 ((callsIn_wide (n:=1)).1 (hcall.mono ?_));rintro e W2 ⟨⟨v,rfl⟩,(⟨xs,hS,hi,hb⟩ | ⟨pre,hSp,he,hb⟩)⟩
 ·exact⟨none,_,run_endLoop (P:=P) hb.1 (by simp[R]),hdone _ xs _ (aq _) hS (hI.putObj _ hi (by omega) hb.1 rfl) (hb.put _).2⟩
 ·exact⟨some .ret,_,run_endLoop (P:=P) hb.1 (by simp[R]),hstop _ pre _ (aq _) hSp (hE.putObj _ he (by omega) hb.1 rfl) (hb.put _).2⟩
end Go.Proofs.YtobjdpngnfbicaaGreatDoor
/- The walks of regions that draw their order, in a round of a range over a function. Over any program. -/
namespace Go.Proofs.YtobjdpngnfbicaaGreatDoor
open Go
section
variable {P:Program} {ops:Array Oper} {md:Region.Mode} {C:World -> World -> Prop} {lx lp n:Nat}
def noDefer (ops:Array Oper):Bool:=ops.all fun o=>match o.op with
 | .defer _=>false
 | _=>true
theorem noDefer_spec (h:noDefer ops=true) {i:Nat} {o:Oper} (ho:ops[i]?=some o):∀ c,o.op≠.defer c:=by
 intro c hc;obtain⟨hi,rfl⟩:=Array.getElem?_eq_some_iff.1 ho;have:=Array.all_eq_true.1 h i hi;simp[hc] at this
theorem wpIn_of_opC {o:Oper} {a:Act} {w:World} {next:Value -> World -> Prop} {K:Act -> World -> Prop} {Q:Exit -> Act -> World -> Prop} (hd:∀ c,o.op≠.defer c) (h:∀ v w',next v w' -> K (a.put o.dst v) w') (hh:opC P o a w next):o.wpIn (Fence.wide.inRound lp) n P a w K Q:=by
 refine⟨fun _ _=>trivial,?_⟩;rw[Oper.semAt_eq _ _ _ hd];unfold opC at hh;generalize (execOp a.eval o).run P w=r at *;cases r with
 | ok x w'=>
   cases x <;> simp only[upC] at hh <;> simp only[Oper.uponIn]
   case enter f args=>
    refine⟨(fun e=>by cases e),CallsIn.inRound lp (callsIn_wide.2 (hh.mono ?_))⟩;rintro e w'' ⟨v,rfl,hn⟩;exact h _ _ hn
   all_goals exact h _ _ hh
 | halt x w'=>simp only[upC] at hh
theorem wpOpIn_of_stC {i:Nat} {a:Act} {w:World} {K K':Act -> World -> Prop} {Q:Exit -> Act -> World -> Prop} (hd:noDefer ops=true) (h:∀ a w',K a w' -> K' a w') (hh:stC P ops C i K a w):wpOpIn (Fence.wide.inRound lp) n P ops Q i K' a w:=by
 unfold stC at hh;unfold wpOpIn;split
 ·rename_i ho;simp only[ho] at hh;exact h _ _ hh
 ·rename_i o ho;simp only[ho] at hh;split
  ·rename_i hw;simp only[hw,if_true] at hh;exact wpIn_of_opC (noDefer_spec hd ho) (fun v w' hv=>h _ _ hv.2) hh
  ·rename_i hw;simp only[hw] at hh;exact⟨fun _ _=>trivial,h _ _ hh⟩
theorem wpAnyIn_of_C {Q:Act -> World -> Prop} {Q':Exit -> Act -> World -> Prop} (hd:noDefer ops=true) (hQ:∀ a w,Q a w -> Q' .normal a w):∀ (fuel:Nat) (listed:Array Bool) (a:Act) (w:World),
 eG P md ops C Q fuel listed a w -> wpAnyIn (Fence.wide.inRound lp) n P md ops Q' fuel listed a w
 | 0,_,_,_,h=>⟨h.1,hQ _ _ h.2⟩
 | fuel+1,_,_,_,h=>⟨fun h0=>hQ _ _ (h.1 h0),fun i hi=>wpOpIn_of_stC hd (fun a' w' hw'=>wpAnyIn_of_C hd hQ fuel _ a' w' hw') (h.2 i hi)⟩
theorem wpIn_region_can {id:Nat} {Q:Exit -> Act -> World -> Prop} {a:Act} {w:World} {l:List Oper} (C:World -> World -> Prop) (ord:List (Nat × Bool)) (hm:P.follows .mixedOrders=true) (hB:(Region.noSelect l.toArray && iR .any l.toArray ord (Array.replicate ord.length false) && (ord.length == l.length))=true)
 (hd:noDefer l.toArray=true) (hrefl:∀ w,C w w) (htrans:∀ a b c,C a b -> C b c -> C a c)
 (h:dA P l.toArray C (fun a' w'=>Q .normal a' w') ord a w.drew):(Code.region id l.toArray true).wpIn (Fence.wide.inRound lp) n P Q a w:=by
 simp only[Bool.and_eq_true] at hB;obtain⟨⟨h1,h2⟩,h3⟩:=hB;have h3':ord.length=l.length:=by simpa using h3
 refine wpIn_region_any hm (wpAnyIn_of_C (C:=C) (Q:=fun a' w'=>Q .normal a' w') hd (fun _ _ h=>h) _ _ _ _ ?_);have:=eP (md:=.any) hrefl htrans h1 ord _ a w.drew h2 h;rw[h3'] at this;simpa using this
end
end Go.Proofs.YtobjdpngnfbicaaGreatDoor
namespace Go.Proofs.YtobjdpngnfbicaaGreatDoor
open Go.RowKit
set_option linter.unusedVariables false
set_option maxRecDepth 20000
section
open Go.Sort Go.Shelf
attribute [local go_sem ↓] bq
attribute [local go_sem] Oper.semAt_some
abbrev eS (k:RKey):Value:=Go.Proofs.encStr k
theorem ry:(aC.info? 9).map (fun i=>(i.zero,i.size,i.bytes))=some (some (.string ⟨#[]⟩),1,16):=by kernel_rfl
structure Kb (n0:Nat) (A C:World):Prop where
 size:A.heap.size <= C.heap.size
 block:∀ b,b < n0 -> C.heap[b]?=A.heap[b]?
theorem Kb.trans {n0:Nat} {A C D:World} (h:Kb n0 A C) (k:Kb n0 C D):Kb n0 A D:=⟨au h.size k.size,fun b hb=>(k.block b hb).trans (h.block b hb)⟩
theorem Kb.put {n0:Nat} (W:World) (l:Nat) (o:Obj) (hl:n0 <= l):Kb n0 W (W.putObj l o):=⟨by simp,fun k hk=>World.putObj_heap_other (by omega)⟩
theorem Kb.of_below {n0:Nat} {A C:World} (h:Below n0 A C):Kb n0 A C:=⟨h.size,fun b hb=>h.block b hb⟩
set_option maxHeartbeats 2000000 in
theorem oJ (w:World) (F:aV) (v:Value) (l:List RKey) (bx B:Nat) (hv:Rows F w 1 v l.length (l.map eS)) (hF:∀ b,F b -> b < B) (hB:B <= w.heap.size) (hbx:Blk w bx [v] 32) (hl:l.length <= 1000000):
 SeqG aC 205 #[.pointer (some ⟨bx,0,none⟩)] (fun x:RKey=>#[eS x]) (Kb B) (fun pre x _=>l[pre.length]?=some x) (fun xs=>xs=l) (fun _=>True) w:=by
 intro lo J Jx W hW hJ hJx hY h0;have hvW:=hv.keep (w':=W) fun b hb hlt=>hW.block b hlt
 have hbW:=hbx.keep (hW.block _ hbx.lt);have cb:=hbW.cell 0;simp at cb
 obtain⟨n,hn⟩:∃ n,l.length=n:=⟨_,rfl⟩
 obtain⟨a,cap,rfl,hcp,hcm,-⟩:=hv.shape;have Hh:=ae hvW;rw[hn] at cb hl;have Hn:=ae hn;have Hws:=ae hW.size;clear hvW hbW hv hn;refine callsIn_of_wp Tryz.func205 rfl trivial ?_ rfl;simp only[Tryz.ntmps205,List.size_toArray,aB,List.length_nil,Nat.reduceAdd,Nat.reduceSub,Array.replicate_succ,Array.replicate_zero,List.push_toArray,List.append_toArray,List.nil_append,List.cons_append]
 gi_wp2_with fail
 clear cb
 gi_loopw [7] (fun i wr=>∃ m:Nat,m <= n /\ i=.int .i64 (m:Int) /\ J (l.take m) wr /\ Kb B W wr) (fun i _=>n - (intOf i).toNat)
 case atStart=>exact⟨0,by omega,rfl,by simpa using h0,⟨aq _,fun _ _=>rfl⟩⟩
 case round=>
  obtain⟨m,hm1,rfl,hJr,hkb⟩:=hrel;have Hkb:=ae hkb;clear hkb
  by_cases hlt:m < n
  ·have hltI:(m:Int) < (n:Int):=by omega
   have hml:m < l.length:=by rw[Hn.out];exact hlt
   have hvr:=Hh.out.keep (w':=wr) fun b hb _=>Hkb.out.block b (hF b hb)
   obtain⟨b,off,rfl,-,-,hc⟩:=fZ hvr (by rw[Hn.out];omega);have e0:=hc m hml
   obtain⟨x,hx⟩:∃ x,l[m]=x:=⟨_,rfl⟩
   rw[hx] at e0;have htl:(l.take m).length=m:=by rw[List.length_take];omega
   obtain⟨fn,tmps,assign,body,hy,hR⟩:=hY (l.take m) x wr hJr (by rw[htl,List.getElem?_eq_getElem hml,hx]);unfold eS Go.Proofs.encStr at hy;have HR:=ae hR;have Hx:=ae hx;clear hR hc hvr hx htl
   gi_wp2_with fail
   refine HR.out.mono ?_;rintro e W3 (⟨rfl,hJ3,hk3⟩ | ⟨rfl,hJx3⟩)
   ·have hJ3':J (l.take (m+1)) W3:=by rw[List.take_succ_eq_append_getElem hml,Hx.out];exact hJ3
    have Hk3:=ae (Hkb.out.trans hk3);clear hJr hJ3 hk3 e0 HR
    gi_wp2_with fail
    go_roundw
    case rel=>exact⟨m+1,by omega,by go_num,hJ3',Hk3.out⟩
    case measure=>simp[intOf];omega
   ·clear e0
    gi_wp2_with fail
    refine bodyPost_ret (results_none rfl _ _ _) rfl ?_;exact⟨⟨_,rfl⟩,.inr ⟨_,trivial,hJx3⟩⟩
  ·have hltI:¬ (m:Int) < (n:Int):=by omega
   have hJl:J l wr:=by
    have:=hJr;rw[List.take_of_length_le (by rw[Hn.out];omega)] at this;exact this
   gi_wp2_with fail
   go_end0
   exact⟨⟨_,rfl⟩,.inl hJl⟩
def ApI (w:World) (n:Nat) (pre:List RKey) (W:World):Prop:=
 ∃ v,Blk W w.heap.size [v] 32 /\ W.ownsRow w.heap.size 9 1 v pre.length (pre.map eS) /\ Below w.heap.size w W /\ w.heap.size+1 <= W.heap.size /\ pre.length <= n
theorem sK {w:World} {n:Nat} (B0:Nat) (hB:w.heap.size <= B0):OwnFrom B0 (ApI w n):=by
 rintro pre W W' row ⟨v,h1,h2,h3,h4,h5⟩ hg hr;have hr':∀ r,row=some r -> ∃ o:Obj,W.heap[r]?=some o /\ o.isCells=false:=fun r e=>(hr r e).2
 refine⟨v,h1.keep (grownBy_keeps_cells hg hr' h1 rfl),h2.kept hg ?_,h3.grown hg (by omega) (fun q hq=>au hB (hr q hq).1),au h4 hg.size,h5⟩;cases hb:v.ownBlock with
 | none=>exact .inl rfl
 | some b=>
   refine .inr fun he=>?_
   obtain⟨cs,hc⟩:=ep h2 hb;obtain⟨o,ho,hoc⟩:=hr' b he.symm;rw[hc] at ho;injection ho with ho
   subst ho;cases hoc
set_option maxHeartbeats 4000000 in
set_option maxRecDepth 100000 in
theorem k9 (w:World) (F:aV) (v:Value) (l:List RKey) (bx:Nat) (hv:Rows F w 1 v l.length (l.map eS)) (hF:∀ b,F b -> b < w.heap.size) (hbx:Blk w bx [v] 32) (hl:l.length <= 1000000):
 Calls aC 221 #[.slice none 0 0,.func (.func 205) #[] #[.pointer (some ⟨bx,0,none⟩)]] w fun e w'=>
  ∃ r,e=.returned r /\ w'.ownsRow w.heap.size 9 1 r l.length (l.map eS) /\ Below w.heap.size w w':=by
 refine(callsIn_wide (n:=2)).1 ?_;refine callsIn_of_wp_marks Tryz.func221 rfl trivial ?_ rfl;simp only[Tryz.ntmps221,List.size_toArray,aB,List.length_nil,Nat.reduceAdd,Nat.reduceSub,Array.replicate_succ,Array.replicate_zero,List.push_toArray,List.append_toArray,List.nil_append,List.cons_append]
 obtain⟨w1,hw1⟩:∃ w1,w1=w.alloc (.cells #[.slice none 0 0] 32):=⟨_,rfl⟩
 have hk1:Below w.heap.size w w1:=by rw[hw1];exact aE _ _
 have hz1:w1.heap.size=w.heap.size+1:=by rw[hw1];simp
 have hB1:Blk w1 w.heap.size [.slice none 0 0] 32:=by rw[hw1];exact Blk.new _ _ _
 have hlt0:=hbx.lt;have hv1:=hv.keep (w':=w1) fun b _ hlt=>hk1.block b hlt
 have hbx1:=hbx.keep (hk1.block _ hbx.lt)
 gi_wp2_with fail
 rw[<- hw1];have Hw1:=ae hw1;clear hw1
 refine range_known (n:=0) rfl (enters_of Tryz.func205 (by kernel_rfl) rfl)
  (oJ w1 F v l bx w.heap.size hv1 hF (by omega) hbx1 hl)
  (fun _=>rfl) (fun pre x W lo o o' hlo ho hc hG=>hG)
  (fun {A Bw C} h1 h2=>h1.trans h2) (fun W lo o o' hlo ho hc=>Kb.put W lo o' (by omega))
  (ApI w l.length) (fun _ _=>False) (sK _ (by omega)) (fun _ _ _ _ h=>h.elim)
  ⟨_,hB1,World.ownsRow_nil _ _ _ _,hk1,by omega,by simp⟩
  (fun x=>{ tmps:=#[.slice none 0 0,.func (.func 205) #[] #[.pointer (some ⟨bx,0,none⟩)],.pointer (some ⟨w.heap.size,0,none⟩),undef,.slice none 0 0,eS x,.func (.func 205) #[] #[.pointer (some ⟨bx,0,none⟩)],eS x,undef,undef,undef,undef,undef],defers:=[] }) ?assign ?body ?done ?stop
 case assign=>
  intro lo x W Kx hKx
  gi_wp2
  exact hKx
 case body=>
  rintro lo pre x W ⟨v',hbW,hoW,hb,hz,hpn⟩ hx;have hlt:pre.length < l.length:=(List.getElem?_eq_some_iff.1 hx).1;obtain⟨i0,q1,q2,q3,q4⟩:=info_parts ry;obtain⟨v5,w5,hr,hown5,hg5⟩:=bF (P:=aC) W w.heap.size 32 9 Tryz.underlying32 q1 q2 q3 q4 rfl (by decide) v' pre.length _ hoW #[eS x] rfl (by simp[Value.oneCell']) (by unfold maxLen;omega) (by omega) (by omega);obtain⟨a5,c5',rfl⟩:=own_shape hown5;have hbA:Blk (W.alloc (.cells #[eS x] 9)) w.heap.size [v'] 32:=hbW.alloc _;have hoA:=bc hoW (aE W (.cells #[eS x] 9));have hb5:=hbA.grownNe hoA (by decide) hg5;have c5:=hb5.cell 0;have f5:=hb5.free 0;have cW:=hbW.cell 0;simp at c5 cW
  obtain⟨w6,hw6⟩:∃ w6,w6=w5.setCell ⟨w.heap.size,0,none⟩ (.slice a5 (pre.length+1) c5'):=⟨_,rfl⟩
  have hko:KeepsOthers W w6:=by
   have h1:KeepsOthers W w5:=(KeepsOthers.alloc W _).trans (KeepsOthers.of_grownBy hg5 (fun j o hj ho=>by
    obtain⟨cs,hc⟩:=ep hoA hj;rw[hc] at ho;cases ho
    rfl))
   rw[hw6];exact h1.trans (KeepsOthers.setCell _ _ _)
  have hkb:Below w.heap.size W w6:=by
   rw[hw6];exact((Below.refl w.heap.size W).alloc (by omega) _).trans (Below.grownOwn hoA hg5 (by simp;omega) (aq _)) |>.setCell (aq _) _
  have hkb':Kb w.heap.size W w6:=Kb.of_below hkb
  have hI6:ApI w l.length (pre ++ [x]) w6:=by
   refine⟨.slice a5 (pre.length+1) c5',?_,?_,hb.trans hkb,au hz hkb.size,by simp;omega⟩
   ·rw[hw6];simpa using hb5.set 0 _
   ·rw[hw6];have:=aS (i:=0) hown5 hb5 (by decide) (.slice a5 (pre.length+1) c5');simpa using this
  have HI6:=ae hI6;have Hko:=ae hko;have Hkb:=ae hkb';have Hw6:=ae hw6;clear hI6 hko hkb hkb' hw6 hb5 hbA hoA hown5 hg5 hbW hoW q1 q2 q3 q4;simp only[eS,Go.Proofs.encStr] at hr ⊢
  gi_wp2_with fail
  rw[<- Hw6.out];exact⟨Hko.out,Hkb.out,HI6.out⟩
 case done=>
  rintro D xs W hD rfl ⟨v',hbW,hoW,hb,hz,hpn⟩ hdef;have cW:=hbW.cell 0;simp at cW;have hgp:=grownBy_putObj' W D (.deferred none)
  have hoF:=hoW.kept hgp (by
   cases hb:v'.ownBlock with
   | none=>exact .inl rfl
   | some b=>
     refine .inr fun he=>?_
     obtain⟨cs,hc⟩:=ep hoW hb;obtain rfl:b=D:=by simpa using he
     rw[hc] at hdef
     cases hdef)
  have hbF:Below w.heap.size w (W.putObj D (.deferred none)):=hb.grown hgp (by omega) (fun q hq=>by cases hq;omega);have HoF:=ae hoF;have HbF:=ae hbF;have Hdef:=ae hdef;clear hoF hbF hdef hgp hbW hoW hb
  gi_wp2_with fail
  refine⟨by simp,.inl ⟨_,_,rfl,run_takeDeferred Hdef.out,?_⟩⟩;refine⟨v',by simp[results,Tryz.f221,go_sem],_,rfl,HoF.out,HbF.out⟩
 case stop=>
  rintro D pre W hD - hE;exact hE.elim
set_option maxHeartbeats 1000000 in
theorem nu (w:World) (F:aV) (v:Value) (l:List RKey) (bx:Nat) (hv:Rows F w 1 v l.length (l.map eS)) (hF:∀ b,F b -> b < w.heap.size) (hbx:Blk w bx [v] 32) (hl:l.length <= 1000000):
 Calls aC 203 #[.func (.func 205) #[] #[.pointer (some ⟨bx,0,none⟩)]] w fun e w'=>
  ∃ r,e=.returned r /\ w'.ownsRow w.heap.size 9 1 r l.length (l.map eS) /\ Below w.heap.size w w':=by
 have HA:=ae (k9 w F v l bx hv hF hbx hl);clear hv hbx
 go_enter Tryz.func203,Tryz.ntmps203
 go_wp2_with fail;refine HA.out.mono ?_;rintro e w1 ⟨r,rfl,ho,hb⟩
 obtain⟨n,hn⟩:∃ n,l.length=n:=⟨_,rfl⟩
 rw[hn] at ho;obtain⟨a,c,rfl⟩:=own_shape ho;have Hn:=ae hn;clear hn;have Ho:=ae ho;have Hb:=ae hb;clear ho hb HA;go_wp2_with fail
 go_ret
 exact⟨_,rfl,by rw[Hn.out];exact Ho.out,Hb.out⟩
set_option maxHeartbeats 1000000 in
theorem oK (w:World) (F:aV) (v:Value) (l:List RKey) (bx:Nat) (hv:Rows F w 1 v l.length (l.map eS)) (hF:∀ b,F b -> b < w.heap.size) (hbx:Blk w bx [v] 32) (hl:l.length <= 1000000):
 Calls aC 160 #[.func (.func 205) #[] #[.pointer (some ⟨bx,0,none⟩)]] w fun e w'=>
  ∃ r,e=.returned r /\ w'.ownsRow w.heap.size 9 1 r (sortK l).length ((sortK l).map eS) /\ Below w.heap.size w w':=by
 have HA:=ae (nu w F v l bx hv hF hbx hl);have hsl:(sortK l).length=l.length:=(sortK_perm l).length_eq;clear hv hbx
 obtain⟨n,hn⟩:∃ n,l.length=n:=⟨_,rfl⟩
 rw[hsl,hn];have Hn:=ae hn;clear hsl hn
 go_enter Tryz.func160,Tryz.ntmps160
 go_wp2_with fail;refine HA.out.mono ?_;rintro e w1 ⟨r,rfl,ho,hb⟩;rw[Hn.out] at ho;rcases ho.2 with ⟨rfl,hz⟩ | ⟨gb,cap,cur,rfl,hbase,hgb,r1,r2,r3,r4⟩
 ·obtain rfl:l = []:=List.length_eq_zero_iff.1 (by rw[Hn.out];exact hz);have HS:=ae (Tryz.slices_Sort_string_none none 0 w1);subst hz;have Ho:=ae ho;have Hb:=ae hb;clear ho hb HA;go_wp2_with fail;refine HS.out.mono ?_;rintro e w2 ⟨rfl,rfl⟩;go_wp2_with fail
  go_ret
  exact⟨_,rfl,by simpa[sortK] using Ho.out,Hb.out⟩
 ·have hH:Holds Go.Proofs.encStr w1 gb 0 l.toArray:=holds_of_block hgb (by rw[Nat.mul_one] at r4;rw[<- Hn.out] at r4;simpa using r4);have hgl:gb < w1.heap.size:=(Array.getElem?_eq_some_iff.1 hgb).1;have cS:=Tryz.slices_Sort_string gb 0 cap l w1 hH hgl (by omega);rw[Hn.out] at cS;have HS:=ae cS;have hsz:(w1.heap.size:Nat)=w1.heap.size:=rfl
  have Hfin:=ae (show ∀ nn os,World.ownsRow (grow (putRow Go.Proofs.encStr (Sort.ahead w1 nn) gb 0 (l.mergeSort fun x y=>decide (x <= y)).toArray) os) w.heap.size 9 1 (.slice (some ⟨gb,0,none⟩) n cap) n ((sortK l).map eS) /\ Below w.heap.size w (grow (putRow Go.Proofs.encStr (Sort.ahead w1 nn) gb 0 (l.mergeSort fun x y=>decide (x <= y)).toArray) os) from fun nn os=>by
   have hN:=Hn.out;subst hN
   exact⟨ownsRow_sorted (by simp) hbase hgb r1 r2 r3,hb.grown (grownBy_sorted _) hb.size (fun j hj=>by cases hj;exact hbase)⟩)
  clear ho hb HA cS hH hgb r4 r3 r1 r2 hbase hgl hsz;go_wp2_with fail;refine HS.out.mono ?_;rintro e w2 ⟨rfl,nn,os,rfl⟩;obtain⟨h1,h2⟩:=Hfin.out nn os;have H1:=ae h1;have H2:=ae h2;clear h1 h2 Hfin HS;generalize (grow (putRow Go.Proofs.encStr (Sort.ahead w1 nn) gb 0 (l.mergeSort fun x y=>decide (x <= y)).toArray) os)=w3 at *;go_wp2_with fail
  go_ret
  exact⟨_,rfl,H1.out,H2.out⟩
end
end Go.Proofs.YtobjdpngnfbicaaGreatDoor
namespace Go.Proofs
open Go.Shelf
def Tryz.laysCompact_ren:Go.Shelf.Ren:=⟨fun | 194=>162 | n=>n,fun | 31=>32 | 9=>9 | 3=>3 | 4=>4 | 0=>0 | n=>n,fun | n=>n⟩
theorem Tryz.laysCompact:Go.Proofs.Lays.n194 aC Tryz.laysCompact_ren:={
 mixed:=by kernel_rfl
 f194:=Tryz.func162.trans (congrArg some (by kernel_rfl))
 t0:=Tryz.underlying0
 a0:=Tryz.isAgg0
 z0:=Tryz.sizeOf0
 v0:=Tryz.zeroValue0
 t3:=Tryz.underlying3
 a3:=Tryz.isAgg3
 z3:=Tryz.sizeOf3
 v3:=Tryz.zeroValue3
 t4:=Tryz.underlying4
 a4:=Tryz.isAgg4
 z4:=Tryz.sizeOf4
 v4:=Tryz.zeroValue4
 t9:=Tryz.underlying9
 a9:=Tryz.isAgg9
 z9:=Tryz.sizeOf9
 v9:=Tryz.zeroValue9
 t31:=Tryz.underlying32
 a31:=Tryz.isAgg32
 z31:=Tryz.sizeOf32
 v31:=Tryz.zeroValue32 }
end Go.Proofs
