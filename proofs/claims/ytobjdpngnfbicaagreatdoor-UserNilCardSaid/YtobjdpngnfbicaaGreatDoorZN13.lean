/-
  RClone
-/
import Derived.Test.YtobjdpngnfbicaaGreatDoorZN06
import Derived.Test.YtobjdpngnfbicaaGreatDoorZN05
namespace Go.Proofs.YtobjdpngnfbicaaGreatDoor
open Go.RowKit
set_option linter.unusedVariables false
set_option maxRecDepth 20000
attribute [local go_sem ↓] seal_append
set_option maxHeartbeats 1000000 in
theorem cloneI_any (w:World) (F:Blks) (v:Value) (l:List Int) (hv:Rows F w 1 v l.length (l.map eI)) (hlen:l.length≤1000000):
 Calls Tryz.prog 54 #[v] w fun e w'=>∃ r,e=.returned r∧w'.ownsRow w.heap.size 3 1 r l.length (l.map eI)∧Below w.heap.size w w':=by
 have hW:Rows F (w.alloc (.cells #[] 3)) 1 v l.length (l.map eI):=hv.keep fun b _ hb=>Below.heap_alloc _ _ _ hb
 obtain ⟨i0,q1,q2,q3,q4⟩:=info_parts infoI
 obtain ⟨v',w',hr,hown,hgb⟩:=run_append_rows (P:=Tryz.prog) (w.alloc (.cells #[] 3)) w.heap.size 33 3 Tryz.underlying33 q1 q2 q3 q4 rfl (by decide) (.slice (some ⟨w.heap.size,0,none⟩) 0 0) 0 []
  ⟨rfl,.inr ⟨w.heap.size,0,#[],rfl,Nat.le_refl _,by unfold World.alloc;simp,Nat.le_refl _,by unfold maxLen;omega,rfl,rfl⟩⟩ F v l.length (l.map eI) hW (one_eI l) (by unfold maxLen;omega) (by omega) (by simp)
 rw [Nat.zero_add,List.nil_append] at hown
 obtain ⟨n,hn⟩:∃ n,l.length=n:=⟨_,rfl⟩
 obtain ⟨a,cap,rfl,hc,hm,hz⟩:=hv.shape
 rw [hn] at hown hr hc ⊢
 obtain ⟨a',c',rfl⟩:=own_shape hown
 have Hown:=Lib.hid hown;have Hgb:=Lib.hid hgb;have Hn:=Lib.hid hn
 clear hown hgb hn hW hv q1 q2 q3 q4
 cases a with
 | none=>
   obtain rfl:=hz rfl
   obtain rfl:n=0:=by omega
   obtain rfl:l = []:=List.length_eq_zero_iff.1 Hn.out
   have hn:=fun (W:World)=>Lib.run_eql_slice_nil (P:=Tryz.prog) W 33 3 none 0 0 0 0 Tryz.underlying33
   go_enter Tryz.func54,Tryz.ntmps54
   go_wp2_with fail
   go_ret
   exact ⟨_,rfl,World.ownsRow_nil _ _ _ _,Below.refl _ _⟩
 | some ad=>
   have hn:=fun (W:World)=>Lib.run_eql_slice_nil (P:=Tryz.prog) W 33 3 (some ad) n cap 0 0 Tryz.underlying33
   go_enter Tryz.func54,Tryz.ntmps54
   go_wp2_with fail
   go_ret
   exact ⟨_,rfl,Hown.out,(kept_alloc _ _).grown Hgb.out (by simp) (fun k hk=>by simp [Value.ownBlock] at hk;omega)⟩
set_option maxHeartbeats 1000000 in
theorem cloneIt_any (w:World) (F:Blks) (v:Value) (l:List RIt) (hv:Rows F w 4 v l.length (l.flatMap encIt)) (hlen:l.length≤1000000):
 Calls Tryz.prog 55 #[v] w fun e w'=>∃ r,e=.returned r∧w'.ownsRow w.heap.size 108 4 r l.length (l.flatMap encIt)∧Below w.heap.size w w':=by
 have hW:Rows F (w.alloc (.cells #[] 108)) 4 v l.length (l.flatMap encIt):=hv.keep fun b _ hb=>Below.heap_alloc _ _ _ hb
 obtain ⟨i0,q1,q2,q3,q4⟩:=info_parts infoItP
 obtain ⟨v',w',hr,hown,hgb⟩:=run_append_rows (P:=Tryz.prog) (w.alloc (.cells #[] 108)) w.heap.size 34 108 Tryz.underlying34 q1 q2 q3 q4 rfl (by decide) (.slice (some ⟨w.heap.size,0,none⟩) 0 0) 0 []
  ⟨rfl,.inr ⟨w.heap.size,0,#[],rfl,Nat.le_refl _,by unfold World.alloc;simp,Nat.le_refl _,by unfold maxLen;omega,rfl,rfl⟩⟩ F v l.length (l.flatMap encIt) hW (one_encIt l) (by unfold maxLen;omega) (by omega) (by simp)
 rw [Nat.zero_add,List.nil_append] at hown
 obtain ⟨n,hn⟩:∃ n,l.length=n:=⟨_,rfl⟩
 obtain ⟨a,cap,rfl,hc,hm,hz⟩:=hv.shape
 rw [hn] at hown hr hc ⊢
 obtain ⟨a',c',rfl⟩:=own_shape hown
 have Hown:=Lib.hid hown;have Hgb:=Lib.hid hgb;have Hn:=Lib.hid hn
 clear hown hgb hn hW hv q1 q2 q3 q4
 cases a with
 | none=>
   obtain rfl:=hz rfl
   obtain rfl:n=0:=by omega
   obtain rfl:l = []:=List.length_eq_zero_iff.1 Hn.out
   have hn:=fun (W:World)=>Lib.run_eql_slice_nil (P:=Tryz.prog) W 34 108 none 0 0 0 0 Tryz.underlying34
   go_enter Tryz.func55,Tryz.ntmps55
   go_wp2_with fail
   go_ret
   exact ⟨_,rfl,World.ownsRow_nil _ _ _ _,Below.refl _ _⟩
 | some ad=>
   have hn:=fun (W:World)=>Lib.run_eql_slice_nil (P:=Tryz.prog) W 34 108 (some ad) n cap 0 0 Tryz.underlying34
   go_enter Tryz.func55,Tryz.ntmps55
   go_wp2_with fail
   go_ret
   exact ⟨_,rfl,Hown.out,(kept_alloc _ _).grown Hgb.out (by simp) (fun k hk=>by simp [Value.ownBlock] at hk;omega)⟩
set_option maxHeartbeats 1000000 in
theorem cloneGo_any (w:World) (F:Blks) (v:Value) (l:List RGo) (hv:Rows F w 3 v l.length (l.flatMap encGo)) (hlen:l.length≤1000000):
 Calls Tryz.prog 56 #[v] w fun e w'=>∃ r,e=.returned r∧w'.ownsRow w.heap.size 111 3 r l.length (l.flatMap encGo)∧Below w.heap.size w w':=by
 have hW:Rows F (w.alloc (.cells #[] 111)) 3 v l.length (l.flatMap encGo):=hv.keep fun b _ hb=>Below.heap_alloc _ _ _ hb
 obtain ⟨i0,q1,q2,q3,q4⟩:=info_parts infoGoP
 obtain ⟨v',w',hr,hown,hgb⟩:=run_append_rows (P:=Tryz.prog) (w.alloc (.cells #[] 111)) w.heap.size 35 111 Tryz.underlying35 q1 q2 q3 q4 rfl (by decide) (.slice (some ⟨w.heap.size,0,none⟩) 0 0) 0 []
  ⟨rfl,.inr ⟨w.heap.size,0,#[],rfl,Nat.le_refl _,by unfold World.alloc;simp,Nat.le_refl _,by unfold maxLen;omega,rfl,rfl⟩⟩ F v l.length (l.flatMap encGo) hW (one_encGo l) (by unfold maxLen;omega) (by omega) (by simp)
 rw [Nat.zero_add,List.nil_append] at hown
 obtain ⟨n,hn⟩:∃ n,l.length=n:=⟨_,rfl⟩
 obtain ⟨a,cap,rfl,hc,hm,hz⟩:=hv.shape
 rw [hn] at hown hr hc ⊢
 obtain ⟨a',c',rfl⟩:=own_shape hown
 have Hown:=Lib.hid hown;have Hgb:=Lib.hid hgb;have Hn:=Lib.hid hn
 clear hown hgb hn hW hv q1 q2 q3 q4
 cases a with
 | none=>
   obtain rfl:=hz rfl
   obtain rfl:n=0:=by omega
   obtain rfl:l = []:=List.length_eq_zero_iff.1 Hn.out
   have hn:=fun (W:World)=>Lib.run_eql_slice_nil (P:=Tryz.prog) W 35 111 none 0 0 0 0 Tryz.underlying35
   go_enter Tryz.func56,Tryz.ntmps56
   go_wp2_with fail
   go_ret
   exact ⟨_,rfl,World.ownsRow_nil _ _ _ _,Below.refl _ _⟩
 | some ad=>
   have hn:=fun (W:World)=>Lib.run_eql_slice_nil (P:=Tryz.prog) W 35 111 (some ad) n cap 0 0 Tryz.underlying35
   go_enter Tryz.func56,Tryz.ntmps56
   go_wp2_with fail
   go_ret
   exact ⟨_,rfl,Hown.out,(kept_alloc _ _).grown Hgb.out (by simp) (fun k hk=>by simp [Value.ownBlock] at hk;omega)⟩
structure OwnIn (w:World) (base:Nat) (s1 s2 s3:Value) (m:RMap):Prop where
 seen:w.ownsRow base 3 1 s1 m.seen.length (m.seen.map eI)
 items:w.ownsRow base 108 4 s2 m.items.length (m.items.flatMap encIt)
 gone:w.ownsRow base 111 3 s3 m.gone.length (m.gone.flatMap encGo)
structure Bnd (m:RMap):Prop where
 seenB:∀ n ∈ m.seen,i64ok n
 itemsB:∀ x ∈ m.items,x.key.length≤9223372036854775807∧i64ok x.dev∧i64ok x.seq∧i64ok x.val
 goneB:∀ x ∈ m.gone,x.key.length≤9223372036854775807∧i64ok x.dev∧i64ok x.seq
theorem MapIn.bnd {F:Blks} {w:World} {s1 s2 s3:Value} {m:RMap} (h:MapIn F w s1 s2 s3 m):Bnd m:=⟨h.seenB,h.itemsB,h.goneB⟩
theorem OwnIn.map {w:World} {base:Nat} {s1 s2 s3:Value} {m:RMap} (h:OwnIn w base s1 s2 s3 m) (hb:Bnd m):MapIn (fun b=>base≤b) w s1 s2 s3 m:=
 ⟨(Rows.of_owns h.seen).mono (fun b h _=>h.1),(Rows.of_owns h.items).mono (fun b h _=>h.1),(Rows.of_owns h.gone).mono (fun b h _=>h.1),hb.seenB,hb.itemsB,hb.goneB⟩
theorem OwnIn.below {w w':World} {base:Nat} {s1 s2 s3:Value} {m:RMap} (h:OwnIn w base s1 s2 s3 m) (hb:Below w.heap.size w w'):OwnIn w' base s1 s2 s3 m:=
 ⟨own_below h.seen hb,own_below h.items hb,own_below h.gone hb⟩
theorem OwnIn.mono {w:World} {base base':Nat} {s1 s2 s3:Value} {m:RMap} (h:OwnIn w base s1 s2 s3 m) (hb:base'≤base):OwnIn w base' s1 s2 s3 m:=
 ⟨own_base h.seen hb,own_base h.items hb,own_base h.gone hb⟩
def OwnV (w:World) (base:Nat) (v:Value) (m:RMap):Prop:=∃ s1 s2 s3,v=.agg #[s1,s2,s3]∧OwnIn w base s1 s2 s3 m
theorem OwnV.map {w:World} {base:Nat} {v:Value} {m:RMap} (h:OwnV w base v m) (hb:Bnd m):MapV (fun b=>base≤b) w v m:=by
 obtain ⟨s1,s2,s3,rfl,h⟩:=h
 exact ⟨s1,s2,s3,rfl,h.map hb⟩
theorem OwnV.below {w w':World} {base:Nat} {v:Value} {m:RMap} (h:OwnV w base v m) (hb:Below w.heap.size w w'):OwnV w' base v m:=by
 obtain ⟨s1,s2,s3,rfl,h⟩:=h
 exact ⟨s1,s2,s3,rfl,h.below hb⟩
theorem OwnV.mono {w:World} {base base':Nat} {v:Value} {m:RMap} (h:OwnV w base v m) (hb:base'≤base):OwnV w base' v m:=by
 obtain ⟨s1,s2,s3,rfl,h⟩:=h
 exact ⟨s1,s2,s3,rfl,h.mono hb⟩
theorem OwnIn.setCell {w:World} {base b i:Nat} {s1 s2 s3:Value} {m:RMap} {L:List Value} (h:OwnIn w base s1 s2 s3 m) (hb:Blk w b L 37) (u:Value):OwnIn (w.setCell ⟨b,i,none⟩ u) base s1 s2 s3 m:=
 ⟨own_setCell h.seen hb (by decide) u,own_setCell h.items hb (by decide) u,own_setCell h.gone hb (by decide) u⟩
attribute [local go_sem] opC upC
theorem set3 {wr:World} {b:Nat} {x y z:Value} (t:TypeId) (hr:Blk wr b [x,y,z] t) {s1 s2 s3:Value} {wf:World}
 (hwf:wf=((wr.setCell ⟨b,0,none⟩ s1).setCell ⟨b,1,none⟩ s2).setCell ⟨b,2,none⟩ s3):Blk wf b [s1,s2,s3] t:=by
 have e3:=((hr.set 0 s1).set 1 s2).set 2 s3
 subst hwf
 exact e3
set_option maxRecDepth 100000 in
set_option maxHeartbeats 1500000 in
theorem copied_any (w:World) (F:Blks) (v:Value) (m:RMap) (h:MapV F w v m) (hs:m.seen.length≤1000000) (hi:m.items.length≤1000000) (hg:m.gone.length≤1000000):
 Calls Tryz.prog 114 #[v] w fun e w'=>(∃ r,e=.returned r∧OwnV w' w.heap.size r m)∧Below w.heap.size w w':=by
 replace h:=h.mono (G:=fun b=>b < w.heap.size) fun b _ hlt=>hlt
 obtain ⟨s1,s2,s3,rfl,h⟩:=h
 obtain ⟨a1,p1,rfl,-⟩:=h.seen.shape
 obtain ⟨a2,p2,rfl,-⟩:=h.items.shape
 obtain ⟨a3,p3,rfl,-⟩:=h.gone.shape
 have l1:=h.seen.len
 have l2:=h.items.len
 have l3:=h.gone.len
 unfold maxLen at l1 l2 l3
 obtain ⟨n1,hn1⟩:∃ n,m.seen.length=n:=⟨_,rfl⟩
 obtain ⟨n2,hn2⟩:∃ n,m.items.length=n:=⟨_,rfl⟩
 obtain ⟨n3,hn3⟩:∃ n,m.gone.length=n:=⟨_,rfl⟩
 rw [hn1,hn2,hn3] at h
 rw [hn1] at l1 ⊢
 rw [hn2] at l2 ⊢
 rw [hn3] at l3 ⊢
 obtain ⟨wx,hwx⟩:∃ wx,wx=w.alloc (.cells #[.slice a1 n1 p1,.slice a2 n2 p2,.slice a3 n3 p3] 37):=⟨_,rfl⟩
 have hbx:Below w.heap.size w wx:=by rw [hwx];exact kept_alloc _ _
 have hzx:wx.heap.size=w.heap.size+1:=by rw [hwx];simp
 have hx:=h.keep (w':=wx) fun b _ hlt=>hbx.block b hlt
 have hnx:Blk wx w.heap.size [.slice a1 n1 p1,.slice a2 n2 p2,.slice a3 n3 p3] 37:=by rw [hwx];exact Blk.new _ _ _
 have Hx:=Lib.hid hx;have Hn1:=Lib.hid hn1;have Hn2:=Lib.hid hn2;have Hn3:=Lib.hid hn3
 have Hwx:=Lib.hid hwx;have Hbx:=Lib.hid hbx;have Hzx:=Lib.hid hzx
 have c0:=hnx.cell 0
 have c1:=hnx.cell 1
 have c2:=hnx.cell 2
 simp at c0 c1 c2
 have Hnx:=Lib.hid hnx
 clear hx hn1 hn2 hn3 hwx hbx hnx hzx
 clear h
 obtain ⟨w2,hw2⟩:∃ w2,w2=wx.alloc (.cells #[.slice none 0 0,.slice none 0 0,.slice none 0 0] 37):=⟨_,rfl⟩
 have hb2:Below w.heap.size w w2:=by rw [hw2];exact Hbx.out.alloc Hbx.out.size _
 have hz2:w2.heap.size=w.heap.size+2:=by rw [hw2];simp [Hzx.out]
 have HK:=Lib.hid (show ∀ w',Later w2 w'→Blk w' w.heap.size [.slice a1 n1 p1,.slice a2 n2 p2,.slice a3 n3 p3] 37∧Blk w' (w.heap.size+1) [.slice none 0 0,.slice none 0 0,.slice none 0 0] 37∧MapIn (fun b=>b < w.heap.size) w' (.slice a1 n1 p1) (.slice a2 n2 p2) (.slice a3 n3 p3) m from fun w' hl=>by
  have k1:Blk w2 w.heap.size [.slice a1 n1 p1,.slice a2 n2 p2,.slice a3 n3 p3] 37:=by rw [hw2];exact Hnx.out.alloc _
  have k2:Blk w2 (w.heap.size+1) [.slice none 0 0,.slice none 0 0,.slice none 0 0] 37:=by
   have:=Blk.new wx #[.slice none 0 0,.slice none 0 0,.slice none 0 0] 37
   rw [hw2,←Hzx.out];exact this
  exact ⟨k1.keep (hl.block _ k1.lt),k2.keep (hl.block _ k2.lt),(Hx.out.keep (w':=w2) fun b _ hlt=>by rw [hw2];exact Below.heap_alloc _ _ _ hlt).keep fun b hb hlt=>hl.block b (by omega)⟩)
 have hL0:Later w2 w2.drew:=(Below.refl _ _).drew
 have p0:∀ w',Later w2.drew w'→w'.cell? ⟨w.heap.size,0,none⟩=some (.slice a1 n1 p1):=fun w' hh=>by simpa using (HK.out w' (later_trans _ _ _ hL0 hh)).1.cell 0
 have p1':∀ w',Later w2.drew w'→w'.cell? ⟨w.heap.size,1,none⟩=some (.slice a2 n2 p2):=fun w' hh=>by simpa using (HK.out w' (later_trans _ _ _ hL0 hh)).1.cell 1
 have p2':∀ w',Later w2.drew w'→w'.cell? ⟨w.heap.size,2,none⟩=some (.slice a3 n3 p3):=fun w' hh=>by simpa using (HK.out w' (later_trans _ _ _ hL0 hh)).1.cell 2
 have H1:=Lib.hid (cloneI_any w2.drew _ (.slice a1 n1 p1) m.seen (HK.out w2.drew hL0).2.2.seen hs)
 have Hw2:=Lib.hid hw2;have Hb2:=Lib.hid hb2;have Hz2:=Lib.hid hz2
 clear hw2 hb2 hz2 Hx Hnx c0 c1 c2 hL0
 go_enter Tryz.func114,Tryz.ntmps114
 go_wp2_with fail
 rw [←Hwx.out,←Hw2.out]
 refine wp_region_canL Later 10 [(0,true),(1,true),(3,true),(4,true),(6,true),(7,true),(2,false),(5,false),(8,false),(9,true),(10,false)] (by kernel_rfl) (by kernel_rfl) (by kernel_rfl) later_refl later_trans ?_
 repeat (refine canL_yes (v:=?_) rfl (wanted_none rfl) (fun w' hC=>?_) (fun K hK=>?_);rotate_left;(focus (go_simp;first | done | exact rfl));go_simp;refine hK _ ?_;clear hK K)
 refine canL_go rfl rfl (fun KK hK=>?_)
 go_simp
 refine H1.out.mono ?_
 rintro e w3 ⟨r1,rfl,ho1,hb3⟩
 obtain ⟨b3,d3,hr3⟩:=own_shape ho1
 rw [Hn1.out] at hr3
 subst hr3
 refine ⟨_,rfl,hb3,hK _ _ ?_⟩
 clear hK KK H1
 go_simp
 have HL3:=Lib.hid (show Later w2 w3 from (Below.refl _ _).drew.trans hb3)
 have H2:=Lib.hid (cloneIt_any w3 _ (.slice a2 n2 p2) m.items (HK.out w3 HL3.out).2.2.items hi)
 have Ho1:=Lib.hid ho1
 clear hb3 ho1
 repeat (refine canL_yes (v:=?_) rfl (wanted_none rfl) (fun w' hC=>?_) (fun K hK=>?_);rotate_left;(focus (go_simp;first | done | exact rfl));go_simp;refine hK _ ?_;clear hK K)
 refine canL_go rfl rfl (fun KK hK=>?_)
 go_simp
 refine H2.out.mono ?_
 rintro e w4 ⟨r2,rfl,ho2,hb4⟩
 obtain ⟨b4,d4,hr4⟩:=own_shape ho2
 rw [Hn2.out] at hr4
 subst hr4
 refine ⟨_,rfl,hb4,hK _ _ ?_⟩
 clear hK KK H2
 go_simp
 have HL4:=Lib.hid (later_trans _ _ _ HL3.out hb4)
 have H3:=Lib.hid (cloneGo_any w4 _ (.slice a3 n3 p3) m.gone (HK.out w4 HL4.out).2.2.gone hg)
 have Ho1':=Lib.hid (own_below Ho1.out hb4)
 have Ho2:=Lib.hid ho2
 clear hb4 ho2
 repeat (refine canL_yes (v:=?_) rfl (wanted_none rfl) (fun w' hC=>?_) (fun K hK=>?_);rotate_left;(focus (go_simp;first | done | exact rfl));go_simp;refine hK _ ?_;clear hK K)
 refine canL_go rfl rfl (fun KK hK=>?_)
 go_simp
 refine H3.out.mono ?_
 rintro e w5 ⟨r3,rfl,ho3,hb5⟩
 obtain ⟨b5,d5,hr5⟩:=own_shape ho3
 rw [Hn3.out] at hr5
 subst hr5
 refine ⟨_,rfl,hb5,hK _ _ ?_⟩
 clear hK KK H3
 go_simp
 have HL5:=Lib.hid (later_trans _ _ _ HL4.out hb5)
 have hr5:=(HK.out w5 HL5.out).2.1
 have y0:=hr5.cell 0
 have y1:=hr5.cell 1
 have y2:=hr5.cell 2
 have z0:=hr5.free 0
 have z1:=hr5.free 1
 have z2:=hr5.free 2
 simp at y0 y1 y2
 obtain ⟨wf,hwf⟩:∃ wf,wf=((w5.setCell ⟨w.heap.size+1,0,none⟩ (.slice b3 n1 d3)).setCell ⟨w.heap.size+1,1,none⟩ (.slice b4 n2 d4)).setCell ⟨w.heap.size+1,2,none⟩ (.slice b5 n3 d5):=⟨_,rfl⟩
 have hz3:w2.heap.size≤w3.heap.size:=HL3.out.size
 have hz4:w2.heap.size≤w4.heap.size:=HL4.out.size
 have hown:OwnIn wf w.heap.size (.slice b3 n1 d3) (.slice b4 n2 d4) (.slice b5 n3 d5) m:=by
  have ho:OwnIn w5 w.heap.size (.slice b3 n1 d3) (.slice b4 n2 d4) (.slice b5 n3 d5) m:=⟨own_base (own_below Ho1'.out hb5) (by have:=Hz2.out;show w.heap.size≤w2.drew.heap.size;show w.heap.size≤w2.heap.size;omega),own_base (own_below Ho2.out hb5) (by have:=Hz2.out;omega),own_base ho3 (by have:=Hz2.out;omega)⟩
  rw [hwf]
  exact ((ho.setCell hr5 _).setCell (hr5.set 0 _) _).setCell ((hr5.set 0 _).set 1 _) _
 have hblk:=set3 _ hr5 hwf
 have hbf:Below w.heap.size w wf:=by
  rw [hwf]
  have h5:Below w.heap.size w w5:=Hb2.out.trans (HL5.out.mono (by have:=Hz2.out;omega))
  exact ((h5.setCell (p:=⟨w.heap.size+1,0,none⟩) (Nat.le_succ _) _).setCell (p:=⟨w.heap.size+1,1,none⟩) (Nat.le_succ _) _).setCell (p:=⟨w.heap.size+1,2,none⟩) (Nat.le_succ _) _
 have Q0:=Lib.hid (hblk.cell 0);have Q1:=Lib.hid (hblk.cell 1);have Q2:=Lib.hid (hblk.cell 2)
 have Hown:=Lib.hid hown;have Hbf:=Lib.hid hbf;have Hwf:=Lib.hid hwf
 clear hb5 hown hbf hblk hr5 hwf ho3 p0 p1' p2' hz3 hz4
 repeat (refine canL_yes (v:=?_) rfl (wanted_none rfl) (fun w' hC=>?_) (fun K hK=>?_);rotate_left;(focus (go_simp;first | done | exact rfl));go_simp;refine hK _ ?_;clear hK K)
 refine canL_last rfl rfl rfl (fun KK hK=>?_)
 go_simp
 rw [←Hwf.out]
 refine hK _ _ ?_
 clear hK KK y0 y1 y2 z0 z1 z2
 go_simp
 refine canL_nil ?_
 go_wp2_with fail
 have q0:=Q0.out
 have q1:=Q1.out
 have q2:=Q2.out
 simp at q0 q1 q2
 exact bodyPost_ret (v:=.agg #[.slice b3 n1 d3,.slice b4 n2 d4,.slice b5 n3 d5]) (by simp [results,Tryz.results114,go_sem,q0,q1,q2]) rfl ⟨⟨_,rfl,_,_,_,rfl,Hown.out⟩,Hbf.out⟩
end Go.Proofs.YtobjdpngnfbicaaGreatDoor
