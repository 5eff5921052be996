/-
  JX UStep UWrite
-/
import Derived.Test.YtobjdpngnfbicaaGreatDoorZN28
import Derived.Test.YtobjdpngnfbicaaGreatDoorZN26
import Derived.Test.YtobjdpngnfbicaaGreatDoorZN27
namespace Go.Proofs.YtobjdpngnfbicaaGreatDoor
open Go.RowKit
set_option linter.unusedVariables false
set_option maxRecDepth 20000
theorem records_J (w:World) (jk:JK) (M:MD) (J:MJ) (hj:JAt w jk M J):
 Calls Tryz.prog 49 #[.pointer (some ⟨jk.j,0,none⟩)] w fun e w'=>∃ r R',e=.returned r∧RowsIn R' w' w.heap.size r J.L∧(∀ b,R' b→w.heap.size≤b∧b < w'.heap.size)∧Below w.heap.size w w':=by
 have hroom:takenL J.L≤halfN M.S.length:=hj.room
 have hle:M.S.length≤65536:=hj.disk.le
 have:=length_le_taken J.L
 obtain ⟨ra,rc,R,hjb,hr,hown⟩:=hj.recs
 exact records_any w jk.j jk.K.d J.g (takenL J.L) _ J.dead hjb R J.L hr (by unfold halfN at hroom;omega) hj.lens
theorem dead_J (w:World) (jk:JK) (M:MD) (J:MJ) (hj:JAt w jk M J):
 Calls Tryz.prog 60 #[.pointer (some ⟨jk.j,0,none⟩)] w fun e w'=>e=.returned (.bool J.dead)∧w=w':=by
 obtain ⟨ra,rc,R,hjb,hr,hown⟩:=hj.recs
 exact dead_any w jk.j jk.K.d J.g (takenL J.L) _ J.dead hjb
def DX (w:World) (lo d:Nat) (M:MD):Prop:=∃ K:DK,K.d=d∧0 < lo∧(∀ b,K.foot b→lo≤b)∧DiskAt w K M
def JX (w:World) (lo j d:Nat) (M:MD) (J:MJ):Prop:=∃ jk:JK,jk.j=j∧jk.K.d=d∧0 < lo∧(∀ b,jk.all b→lo≤b)∧JAt w jk M J
theorem DX.kept {w w':World} {lo d:Nat} {M:MD} (h:DX w lo d M) (hb:Below w.heap.size w w'):DX w' lo d M:=by
 obtain ⟨K,h1,h2,h3,h4⟩:=h
 exact ⟨K,h1,h2,h3,h4.kept hb⟩
theorem JX.kept {w w':World} {lo j d:Nat} {M:MD} {J:MJ} (h:JX w lo j d M J) (hb:Below w.heap.size w w'):JX w' lo j d M J:=by
 obtain ⟨jk,h1,h2,h3,h4,h5⟩:=h
 exact ⟨jk,h1,h2,h3,h4,h5.kept hb⟩
theorem JX.disk {w:World} {lo j d:Nat} {M:MD} {J:MJ} (h:JX w lo j d M J):DX w lo d M:=by
 obtain ⟨jk,h1,h2,h3,h4,h5⟩:=h
 exact ⟨jk.K,h2,h3,fun b hb=>h4 b (.inr (.inl hb)),h5.disk⟩
theorem DX.pos {w:World} {lo d:Nat} {M:MD} (h:DX w lo d M):0 < lo:=h.choose_spec.2.1
theorem DX.le {w:World} {lo d:Nat} {M:MD} (h:DX w lo d M):M.S.length≤65536:=by
 obtain ⟨K,h1,h2,h3,h4⟩:=h
 exact h4.le
theorem JX.lens {w:World} {lo j d:Nat} {M:MD} {J:MJ} (h:JX w lo j d M J):J.L.length≤65536∧8≤M.S.length∧takenL J.L≤halfN M.S.length:=by
 obtain ⟨jk,h1,h2,h3,h4,h5⟩:=h
 have a:takenL J.L≤halfN M.S.length:=h5.room
 have b:=length_le_taken J.L
 have c:M.S.length≤65536:=h5.disk.le
 refine ⟨?_,h5.size8,a⟩
 unfold halfN at a
 omega
end Go.Proofs.YtobjdpngnfbicaaGreatDoor

namespace Go.Proofs.YtobjdpngnfbicaaGreatDoor
open Go.RowKit
set_option linter.unusedVariables false
set_option maxRecDepth 20000
attribute [local go_sem] opC upC
theorem catB_pair (a b:List UInt8):catB [a,b]=a ++ b:=by unfold catB;simp
theorem catB_one (a:List UInt8):catB [a]=a:=by unfold catB;simp
theorem cell5u {W:World} {b:Nat} {c0 c1 c2 c3 c4:Value} {t:TypeId} (h:Blk W b [c0,c1,c2,c3,c4] t):W.cell? ⟨b,0,none⟩=some c0∧W.cell? ⟨b,1,none⟩=some c1∧W.cell? ⟨b,2,none⟩=some c2∧W.cell? ⟨b,3,none⟩=some c3∧W.cell? ⟨b,4,none⟩=some c4:=
 ⟨h.cell 0,h.cell 1,h.cell 2,h.cell 3,h.cell 4⟩
set_option maxHeartbeats 2000000 in
theorem state_any (w:World) (hT:Tabs w) (h3:4≤w.heap.size) (jk:JK) (u:Nat) (M:MD) (U:MU) (h:UAt w jk u M U) (hd:U.dev < 8) (hv:validR U.m=true):
 Calls Tryz.prog 45 #[.pointer (some ⟨u,0,none⟩)] w fun e w'=>(∃ r,e=.returned r∧w'.ownsRow w.heap.size 5 1 r (stateB U.dev U.m).length ((stateB U.dev U.m).map B))∧Below w.heap.size w w':=by
 obtain ⟨a1,p1,a2,p2,a3,p3,hb,hm⟩:=h.box
 have hk:=valid_keys hv
 have hlc:=(valid_lens hv).2.2.2
 have hE:=pencode_any w hT h3 _ (.agg #[.slice a1 U.m.seen.length p1,.slice a2 U.m.items.length p2,.slice a3 U.m.gone.length p3]) U.m ⟨_,_,_,rfl,hm⟩ hk.1 hk.2
 rw [show encR U.m=(codeR U.m,0) by unfold encR;rw [hv];rfl] at hE
 have HE:=Lib.hid hE
 obtain ⟨c0,c1,c2,c3,c4⟩:=cell5u hb
 have Hb:=Lib.hid hb
 obtain ⟨d,hdd⟩:∃ d,U.dev=d:=⟨_,rfl⟩
 obtain ⟨m,hmm⟩:∃ m,U.m=m:=⟨_,rfl⟩
 rw [hdd] at hd
 rw [hmm] at hlc
 have Hlc:=Lib.hid hlc;have Hd:=Lib.hid hd;have Hdd:=Lib.hid hdd;have Hmm:=Lib.hid hmm
 have hw:IntKind.u64.wrap (d:Int)=(d:Int):=IntWalk.u64_in _ (by omega)
 rw [hdd] at c0
 clear hE hk hlc hv hT hm hb hdd hmm hd
 go_enter Tryz.func45,Tryz.ntmps45
 go_wp2_with fail
 refine HE.out.mono ?_
 rintro e w1 ⟨⟨v1,rfl,hB1⟩,hb1⟩
 have hblk:=Hb.out.keep (hb1.block _ Hb.out.lt)
 have e0:=(cell5u hblk).1
 rw [Hdd.out] at e0
 have HP:=Lib.hid (putUint_any w1 none_ (.slice none 0 0) [] (bytes_empty none_ w1 none) d (by have:=Hd.out;omega) (by simp))
 have HB1:=Lib.hid hB1;have Hb1:=Lib.hid hb1
 clear HE hB1 hb1 hblk c0 c1 c2 c3 c4
 go_wp2_with fail
 refine HP.out.mono ?_
 rintro e w2 ⟨⟨r2,rfl,ho2⟩,hb2⟩
 rw [List.nil_append] at ho2
 have h0:Bytes (fun b=>True) w2 r2 (uvar d):=Bytes.of_owns ho2 _ fun _ _ _=>trivial
 have h1:=(HB1.out.keep (w':=w2) fun b _ hlt=>hb2.block b hlt).insideU
 rw [Hmm.out] at h1
 obtain ⟨a2',c2',rfl⟩:=own_shape ho2
 obtain ⟨a1',c1',rfl,-⟩:=id h1
 have hr:=rowsAt_two h0.insideU h1 (fun b hb=>hb)
 obtain ⟨w3,hw3⟩:∃ w3,w3=w2.alloc (.cells #[.slice a2' (uvar d).length c2',.slice a1' (codeR m).length c1'] 41):=⟨_,rfl⟩
 have hb3:Below w.heap.size w w3:=by rw [hw3];exact (Hb1.out.trans (hb2.mono Hb1.out.size)).alloc (Nat.le_trans Hb1.out.size hb2.size) _
 rw [←hw3] at hr
 have hul:=uvar_len d
 have hC:=record_any w3 _ 0 _ _ hr (by rw [catB_pair,List.length_append];have:=Hlc.out;omega) (by simp)
 rw [catB_pair] at hC
 have HC2:=Lib.hid (show Calls Tryz.prog 81 #[.int .u8 0,.slice (some ⟨w2.heap.size,0,none⟩) 2 2] w3 _ from hC);have Hb3:=Lib.hid hb3;have Hw3:=Lib.hid hw3
 obtain ⟨n1,hn1⟩:∃ n,(uvar d).length=n:=⟨_,rfl⟩
 obtain ⟨n2,hn2⟩:∃ n,(codeR m).length=n:=⟨_,rfl⟩
 rw [hn1,hn2] at Hw3 ⊢
 clear HP hC hr hw3 hb3 h0 h1 ho2 hb2 hul hn1 hn2 e0
 go_wp2_with fail
 rw [←Hw3.out]
 refine HC2.out.mono ?_
 rintro e w4 ⟨⟨r4,rfl,ho4⟩,hb4⟩
 have Ho4:=Lib.hid (show w4.ownsRow w.heap.size 5 1 r4 (stateB U.dev U.m).length ((stateB U.dev U.m).map B) by rw [Hdd.out,Hmm.out];exact own_base ho4 Hb3.out.size);have Hb4:=Lib.hid (Hb3.out.trans (hb4.mono Hb3.out.size))
 clear HC2 ho4 hb4
 go_wp2_with fail
 go_ret
 exact ⟨⟨_,rfl,Ho4.out⟩,Hb4.out⟩
theorem udead_any (w:World) (jk:JK) (u:Nat) (M:MD) (U:MU) (h:UAt w jk u M U):
 Calls Tryz.prog 22 #[.pointer (some ⟨u,0,none⟩)] w fun e w'=>e=.returned (.bool U.J.dead)∧w=w':=by
 obtain ⟨a1,p1,a2,p2,a3,p3,hb,hm⟩:=h.box
 have HD:=Lib.hid (dead_J w jk M U.J h.jat)
 obtain ⟨c0,c1,c2,c3,c4⟩:=cell5u hb
 obtain ⟨b,hbb⟩:∃ b,U.J.dead=b:=⟨_,rfl⟩
 rw [hbb] at HD ⊢
 clear hb hm hbb h
 go_enter Tryz.func22,Tryz.ntmps22
 go_wp2_with fail
 refine HD.out.mono ?_
 rintro e w1 ⟨rfl,rfl⟩
 clear HD
 go_wp2_with fail
 go_ret
 exact ⟨rfl,rfl⟩
end Go.Proofs.YtobjdpngnfbicaaGreatDoor

namespace Go.Proofs.YtobjdpngnfbicaaGreatDoor
open Go.RowKit
set_option linter.unusedVariables false
set_option maxRecDepth 20000
attribute [local go_sem] opC upC
theorem room_U (w:World) (jk:JK) (u:Nat) (M:MD) (U:MU) (h:UAt w jk u M U):
 Calls Tryz.prog 137 #[.pointer (some ⟨jk.j,0,none⟩)] w fun e w'=>e=.returned (.int .i64 (roomM M U.J))∧∃ m,w.drewN m=w':=by
 obtain ⟨ra,rc,R,hjb,-,-⟩:=h.jat.recs
 have h8:=h.jat.size8
 exact room_any w jk.j jk.K.d U.J.g (takenL U.J.L) _ U.J.dead jk.K M hjb h.jat.disk rfl (by omega) h.jat.room
theorem mod_append (M:MD) (J:MJ) (l:List UInt8):(appendM M J l).1.S.length=M.S.length∧(appendM M J l).1.writes≤M.writes+65536:=by
 unfold appendM
 split
 · exact ⟨rfl,Nat.le_add_right _ _⟩
 · split
   · exact ⟨rfl,Nat.le_add_right _ _⟩
   · split
     · exact ⟨rfl,Nat.le_add_right _ _⟩
     · rename_i h1 h2 h3
       have h4:=writeAll_len (pieceWrites M.S.length J.g J.L.length (takenL J.L) l) M
       have h5:(pieceWrites M.S.length J.g J.L.length (takenL J.L) l).length=takes l.length:=by unfold pieceWrites;simp
       have h6:takes l.length≤65536:=by unfold takes;omega
       dsimp only
       split
       · exact ⟨h4.1,Nat.le_trans h4.2 (by omega)⟩
       · exact ⟨h4.1,Nat.le_trans h4.2 (by omega)⟩
theorem mod_replace (M:MD) (J:MJ) (l:List UInt8):(replaceM M J l).1.S.length=M.S.length∧(replaceM M J l).1.writes≤M.writes+65536:=by
 unfold replaceM
 split
 · exact ⟨rfl,Nat.le_add_right _ _⟩
 · split
   · exact ⟨rfl,Nat.le_add_right _ _⟩
   · split
     · exact ⟨rfl,Nat.le_add_right _ _⟩
     · rename_i h1 h2 h3
       have h4:=writeAll_len (pieceWrites M.S.length (J.g+1) 0 0 l ++ [((J.g+1) % 2,headB (J.g+1))]) M
       have h5:(pieceWrites M.S.length (J.g+1) 0 0 l ++ [((J.g+1) % 2,headB (J.g+1))]).length=takes l.length+1:=by unfold pieceWrites;simp
       have h6:takes l.length≤1366:=by unfold takes;omega
       dsimp only
       split
       · exact ⟨h4.1,Nat.le_trans h4.2 (by omega)⟩
       · exact ⟨h4.1,Nat.le_trans h4.2 (by omega)⟩
def UPostC (w:World) (jk:JK) (u:Nat) (r:MD × MU × Int) (e:Ending) (w':World):Prop:=
 e=.returned (.int .i64 r.2.2)∧∃ jk',jk'.j=jk.j∧jk'.K.d=jk.K.d∧UAt w' jk' u r.1 r.2.1∧(∀ q,jk'.all q→jk.all q∨w.heap.size≤q)∧Only (fun q=>jk.all q∨q=u) w w'
theorem UAt.setM {w w':World} {jk:JK} {u:Nat} {M:MD} {U:MU} (h:UAt w jk u M U) {x:RMap} {a1 a2 a3:Option Addr} {p1 p2 p3:Nat} (hx:MapIn (NJ w) w (.slice a1 x.seen.length p1) (.slice a2 x.items.length p2) (.slice a3 x.gone.length p3) x)
 (hw:w'=((w.setCell ⟨u,1,none⟩ (.slice a1 x.seen.length p1)).setCell ⟨u,2,none⟩ (.slice a2 x.items.length p2)).setCell ⟨u,3,none⟩ (.slice a3 x.gone.length p3)):UAt w' jk u M ⟨U.dev,x,U.J⟩∧Only (fun q=>q=u) w w':=by
 obtain ⟨b1,c1,b2,c2,b3,c3,hb,hm⟩:=h.box
 have hk:∀ q,q≠u→w'.heap[q]?=w.heap[q]?:=fun q hq=>by
  rw [hw]
  exact (Below.heap_setCell _ _ _ _ hq).trans ((Below.heap_setCell _ _ _ _ hq).trans (Below.heap_setCell _ _ _ _ hq))
 have hz:w'.heap.size=w.heap.size:=by rw [hw];simp [World.setCell]
 have hnu:∀ q,NJ w q→q≠u:=fun q ⟨L,t,fz,hh,_,ht⟩ e=>by
  subst e
  unfold Blk at hb
  rw [hb] at hh
  injection hh with hh
  injection hh with _ hh
  exact ht.1 hh.symm
 have hju:∀ b,jk.all b→b≠u:=fun b hb' e=>h.apart (e ▸ hb')
 refine ⟨⟨⟨a1,p1,a2,p2,a3,p3,?_,(hx.keep (w':=w') fun q hq _=>hk q (hnu q hq)).mono fun q hq _=>nj_keep hq (hk q (hnu q hq))⟩,h.jat.keep (fun b hb'=>hk b (hju b hb')) (by omega),h.typ.keep fun b hb'=>hk b (hju b hb'),h.low⟩,?_⟩
 · rw [hw]
   exact (((hb.set 1 _).set 2 _).set 3 _)
 · rw [hw]
   exact (((Only.refl (fun q=>q=u) w).setCell (p:=⟨u,1,none⟩) (.inl rfl) _).setCell (p:=⟨u,2,none⟩) (.inl rfl) _).setCell (p:=⟨u,3,none⟩) (.inl rfl) _
structure WS (w W:World) (jk JJ:JK) (u:Nat) (MM:MD) (UU:MU) (F:Blks) (bv:Value) (b:List UInt8) (a1 a2 a3:Option Addr) (p1 p2 p3:Nat) (x:RMap) (O:Nat):Prop where
 U:UAt W JJ u MM UU
 B:Bytes F W bv b
 F:∀ q,F q→q < W.heap.size∧¬ JJ.all q
 Q:Quarter W
 T:Tabs W
 bO:Blk W O [.slice a1 x.seen.length p1,.slice a2 x.items.length p2,.slice a3 x.gone.length p3] 37
 X:MapIn (NJ W) W (.slice a1 x.seen.length p1) (.slice a2 x.items.length p2) (.slice a3 x.gone.length p3) x
 j:JJ.j=jk.j
 kd:JJ.K.d=jk.K.d
 sz:3 < W.heap.size
 on:Only (fun q=>jk.all q∨q=u) w W
 al:∀ q,JJ.all q→jk.all q∨w.heap.size≤q
section
variable {w W W':World} {jk JJ jk':JK} {u:Nat} {MM M':MD} {UU:MU} {J':MJ} {F:Blks} {bv:Value} {b:List UInt8} {a1 a2 a3:Option Addr} {p1 p2 p3:Nat} {x:RMap} {O:Nat}
theorem nj_lt {q:Nat} (h:NJ W q):q < W.heap.size:=by
 obtain ⟨L,t,fz,hh,_⟩:=h
 exact lt_of_block hh
theorem tj_map:¬ TJ 37:=by unfold TJ;decide
theorem WS.below (h:WS w W jk JJ u MM UU F bv b a1 a2 a3 p1 p2 p3 x O) (hb:Below W.heap.size W W'):WS w W' jk JJ u MM UU F bv b a1 a2 a3 p1 p2 p3 x O:=
 ⟨h.U.keep hb,h.B.keep fun q _ hlt=>hb.block q hlt,fun q hq=>⟨Nat.lt_of_lt_of_le (h.F q hq).1 hb.size,(h.F q hq).2⟩,h.Q.keep (hb.block 0 (by have:=h.sz;omega)),tabs_below h.T h.sz hb,h.bO.keep (hb.block O h.bO.lt),
  (h.X.keep (w':=W') fun q _ hlt=>hb.block q hlt).mono fun q hq _=>nj_keep hq (hb.block q (nj_lt hq)),h.j,h.kd,Nat.lt_of_lt_of_le h.sz hb.size,h.on.trans (Only.of_below (F:=none_) hb) (fun _ hf=>hf.elim),h.al⟩
theorem WS.moved (h:WS w W jk JJ u MM UU F bv b a1 a2 a3 p1 p2 p3 x O) (ho:Only JJ.all W W') (hj:JAt W' jk' M' J') (hjj:jk'.j=JJ.j) (hkd:jk'.K.d=JJ.K.d) (hall:∀ q,jk'.all q→JJ.all q∨W.heap.size≤q) (hw:w.heap.size≤W.heap.size):
 ∃ J2,WS w W' jk J2 u M' ⟨UU.dev,UU.m,J'⟩ F bv b a1 a2 a3 p1 p2 p3 x O:=by
 obtain ⟨J2,g1,g2,g3,hU⟩:=h.U.moved ho hj hjj hall h.sz
 have hlow:∀ q,q < 4→W'.heap[q]?=W.heap[q]?:=fun q hq=>ho.block q (by have:=h.sz;omega) fun ha=>by have:=h.U.low q ha;omega
 refine ⟨J2,hU,h.B.keep fun q hq hlt=>ho.block q hlt (h.F q hq).2,fun q hq=>⟨Nat.lt_of_lt_of_le (h.F q hq).1 ho.size,fun ha=>?_⟩,h.Q.keep (hlow 0 (by omega)),h.T.keep fun a ha=>?_,h.bO.keep (ho.block O h.bO.lt (box_apart h.U.typ h.bO tj_map)),
  (h.X.keep (w':=W') fun q hq hlt=>ho.block q hlt (nj_apart h.U.typ hq)).mono fun q hq _=>nj_keep hq (ho.block q (nj_lt hq) (nj_apart h.U.typ hq)),g1.trans h.j,by rw [g2,hkd];exact h.kd,Nat.lt_of_lt_of_le h.sz ho.size,h.on.trans ho (fun q hq=>?_),fun q hq=>?_⟩
 · rcases g3 q ha with h1 | h1
   · exact (h.F q hq).2 h1
   · have:=(h.F q hq).1;omega
 · have e:=hlow a.block ha
   unfold World.cell?
   rw [e]
 · rcases h.al q hq with h1 | h1
   · exact .inl (.inl h1)
   · exact .inr h1
 · rcases g3 q hq with h1 | h1
   · exact h.al q h1
   · right;omega
theorem WS.put (h:WS w W jk JJ u MM UU F bv b a1 a2 a3 p1 p2 p3 x O) (hW:W'=((W.setCell ⟨u,1,none⟩ (.slice a1 x.seen.length p1)).setCell ⟨u,2,none⟩ (.slice a2 x.items.length p2)).setCell ⟨u,3,none⟩ (.slice a3 x.gone.length p3)):
 UAt W' JJ u MM ⟨UU.dev,x,UU.J⟩∧Only (fun q=>jk.all q∨q=u) w W':=by
 obtain ⟨h1,h2⟩:=h.U.setM h.X hW
 exact ⟨h1,h.on.trans h2 (fun q hq=>.inl (.inr hq))⟩
end
set_option maxHeartbeats 4000000 in
theorem write_any (w:World) (hT:Tabs w) (h3:4≤w.heap.size) (hq:Quarter w) (jk:JK) (u:Nat) (M:MD) (U:MU) (h:UAt w jk u M U) (hd:U.dev < 8) (hv:validR U.m=true) (F:Blks) (bv:Value) (b:List UInt8) (hB:Bytes F w bv b) (hF:∀ q,F q→q < w.heap.size∧¬ jk.all q)
 (mv:Value) (x:RMap) (hx:MapV (NJ w) w mv x) (hw:M.writes+200000 < 4611686018427387904) (hbl:b.length≤1000000000):
 Calls Tryz.prog 80 #[.pointer (some ⟨u,0,none⟩),bv,mv] w (UPostC w jk u (writeU M U b x)):=by
 obtain ⟨s1,s2,s3,rfl,hx⟩:=hx
 obtain ⟨a1,p1,rfl,-⟩:=hx.seen.shape
 obtain ⟨a2,p2,rfl,-⟩:=hx.items.shape
 obtain ⟨a3,p3,rfl,-⟩:=hx.gone.shape
 obtain ⟨ab,cb,rfl,-⟩:=id hB
 obtain ⟨w1,hw1⟩:∃ w1,w1=w.alloc (.cells #[.slice a1 x.seen.length p1,.slice a2 x.items.length p2,.slice a3 x.gone.length p3] 37):=⟨_,rfl⟩
 have hb1:Below w.heap.size w w1:=by rw [hw1];exact kept_alloc _ _
 have hS1:WS w w1 jk jk u M U F (.slice ab b.length cb) b a1 a2 a3 p1 p2 p3 x w.heap.size:=
  ⟨h.keep hb1,hB.keep fun q _ hlt=>hb1.block q hlt,fun q hq'=>⟨Nat.lt_of_lt_of_le (hF q hq').1 hb1.size,(hF q hq').2⟩,hq.keep (hb1.block 0 (by omega)),tabs_below hT h3 hb1,by rw [hw1];exact Blk.new _ _ _,
   (hx.keep (w':=w1) fun q _ hlt=>hb1.block q hlt).mono fun q hq _=>nj_keep hq (hb1.block q (nj_lt hq)),rfl,rfl,by rw [hw1];simp;omega,Only.of_below hb1,fun q hq=>.inl hq⟩
 have HR:=Lib.hid (room_U w1 jk u M U hS1.U)
 have HS1:=Lib.hid hS1;have Hw1:=Lib.hid hw1;have Hd:=Lib.hid hd;have Hv:=Lib.hid hv;have Hw:=Lib.hid hw
 obtain ⟨b1,e1,b2,e2,b3,e3,hb,-⟩:=hS1.U.box
 obtain ⟨-,-,-,-,c4⟩:=cell5u hb
 obtain ⟨n,hn⟩:∃ n,b.length=n:=⟨_,rfl⟩
 have Hn:=Lib.hid hn
 obtain ⟨jj,hjj⟩:∃ jj,jk.j=jj:=⟨_,rfl⟩
 have Hja:=Lib.hid hjj
 obtain ⟨rm,hrm⟩:∃ rm,roomM M U.J=rm:=⟨_,rfl⟩
 rw [hjj,hrm] at HR
 rw [hjj] at c4
 have Hrm:=Lib.hid hrm
 rw [hn] at hbl HS1 ⊢
 rw [hw1] at c4
 clear h hd hv hB hF hx hw hq hT hw1 hb1 hS1 hb hn hjj hrm
 go_enter Tryz.func80,Tryz.ntmps80
 go_wp2_with fail
 rw [←Hw1.out]
 refine HR.out.mono ?_
 rintro e w2 ⟨rfl,dn,hdn⟩
 have HS2:=Lib.hid (HS1.out.below (W':=w2) (by rw [←hdn];exact Below.drewN' (Below.refl _ _) dn))
 clear HR c4 hdn
 by_cases hlt:rm < (n:Int)
 · have hltI:rm < (n:Int):=hlt
   have HL:=Lib.hid hlt
   obtain ⟨w3,hw3⟩:∃ q,q=w2.drew:=⟨_,rfl⟩
   have hb3:Below w2.heap.size w2 w3:=by rw [hw3];exact (Below.refl w2.heap.size w2).drew
   have HS3:=Lib.hid (HS2.out.below hb3)
   obtain ⟨b1,e1,b2,e2,b3,e3,hb,-⟩:=HS3.out.U.box
   obtain ⟨-,-,-,-,c4⟩:=cell5u hb
   have pc4:∀ w',Later w3 w'→w'.cell? ⟨u,4,none⟩=some (.pointer (some ⟨jk.j,0,none⟩)):=fun w' hh=>(hh.cell (p:=⟨u,4,none⟩) (cellLt c4)).trans c4
   rw [Hja.out] at pc4
   have HSt:=Lib.hid (state_any w3 HS3.out.T HS3.out.sz jk u M U HS3.out.U Hd.out Hv.out)
   obtain ⟨sB,hsB⟩:∃ sB,stateB U.dev U.m=sB:=⟨_,rfl⟩
   rw [hsB] at HSt
   have HsB:=Lib.hid hsB;have Hw3:=Lib.hid hw3
   clear hb hb3 hw3 c4 hsB hlt
   go_wp2_with fail
   refine wp_region_canL Later 6 [(0,true),(1,true),(2,true),(3,true),(4,true),(5,false),(6,false),(7,true)] (by kernel_rfl) (by kernel_rfl) (by kernel_rfl) later_refl later_trans ?_
   rw [←Hw3.out]
   repeat (refine canL_yes (v:=?_) rfl (wanted_none rfl) (fun w' hC=>?_) (fun K hK=>?_);rotate_left;(focus (go_simp;first | done | exact rfl));go_simp;refine hK _ ?_;clear hK K)
   clear pc4
   refine canL_go rfl rfl (fun KK hK=>?_)
   go_simp
   refine HSt.out.mono ?_
   rintro e w4 ⟨⟨r4,rfl,ho4⟩,hb4⟩
   refine ⟨_,rfl,hb4,hK _ _ ?_⟩
   clear hK KK HSt
   go_simp
   have hS4:=HS3.out.below hb4
   have hj3:=HS3.out.U.jat.lt
   have hB4:Bytes (fun q=>w3.heap.size≤q∧q < w4.heap.size) w4 r4 sB:=Bytes.of_owns ho4 _ fun q h1 h2=>⟨h1,h2⟩
   have HA:=Lib.hid (by
    have hA:=replace_any w4 jk M U.J hS4.U.jat _ _ sB hB4 (fun q hq=>⟨hq.2,fun ha=>by have:=hj3 q ha;omega⟩) (fun h0=>by have:=hS4.U.low 0 h0;omega) hS4.Q (by have:=Hw.out;omega)
    rw [Hja.out] at hA
    exact hA)
   have HS4:=Lib.hid hS4
   obtain ⟨a4,c4,rfl⟩:=own_shape ho4
   obtain ⟨r,hr⟩:∃ r,replaceM M U.J sB=r:=⟨_,rfl⟩
   have hmod:=mod_replace M U.J sB
   rw [hr] at HA hmod
   obtain ⟨M5,J5,er⟩:=r
   dsimp only at hmod
   have Hr:=Lib.hid hr;have Hmod:=Lib.hid hmod
   clear hS4 hj3 hB4 ho4 hb4 hr hmod
   repeat (refine canL_yes (v:=?_) rfl (wanted_none rfl) (fun w' hC=>?_) (fun K hK=>?_);rotate_left;(focus (go_simp;first | done | exact rfl));go_simp;refine hK _ ?_;clear hK K)
   refine canL_last rfl rfl rfl (fun KK hK=>?_)
   go_simp
   refine HA.out.mono ?_
   rintro e w5 ⟨rfl,jk3,k1,k2,k3,k4,k5⟩
   obtain ⟨J5',hS5⟩:=HS4.out.moved k5 k3 (k1.trans Hja.out.symm) k2 k4 HS4.out.on.size
   have HS5:=Lib.hid hS5
   refine ⟨_,rfl,hK _ _ ?_⟩
   clear hK KK HA k1 k2 k3 k4 k5 hS5
   go_simp
   repeat (refine canL_yes (v:=?_) rfl (wanted_none rfl) (fun w' hC=>?_) (fun K hK=>?_);rotate_left;(focus (go_simp;first | done | exact rfl));go_simp;refine hK _ ?_;clear hK K)
   refine canL_nil ?_
   by_cases he:er=0
   · subst he
     have HR5:=Lib.hid (by
      have hR:=room_U w5 J5' u M5 ⟨U.dev,U.m,J5⟩ HS5.out.U
      rw [HS5.out.j.trans Hja.out] at hR
      exact hR)
     obtain ⟨rm5,hrm5⟩:∃ rm5,roomM M5 J5=rm5:=⟨_,rfl⟩
     rw [hrm5] at HR5
     obtain ⟨b1,e1,b2,e2,b3,e3,hb,-⟩:=HS5.out.U.box
     obtain ⟨-,-,-,-,c4⟩:=cell5u hb
     rw [HS5.out.j.trans Hja.out] at c4
     have Hrm5:=Lib.hid hrm5
     have Hrep:=Lib.hid (show repU M U=(M5,⟨U.dev,U.m,J5⟩,0) by unfold repU;rw [HsB.out,Hr.out])
     clear hb hrm5
     go_wp2_with fail
     refine HR5.out.mono ?_
     rintro e w6 ⟨rfl,dn6,hdn6⟩
     have HS6:=Lib.hid (HS5.out.below (W':=w6) (by rw [←hdn6];exact Below.drewN' (Below.refl _ _) dn6))
     clear HR5 c4 hdn6
     by_cases hl5:rm5 < (n:Int)
     · have hl5I:rm5 < (n:Int):=hl5
       have Heq:=Lib.hid (show writeU M U b x=(M5,⟨U.dev,U.m,J5⟩,7) by unfold writeU;rw [if_pos (by rw [Hrm.out,Hn.out];exact HL.out),Hrep.out];dsimp only;rw [if_pos rfl,if_pos (by rw [Hrm5.out,Hn.out];exact hl5)])
       clear hl5
       go_wp2_with fail
       go_ret
       exact ⟨by rw [Heq.out];rfl,J5',HS6.out.j,HS6.out.kd,by rw [Heq.out];exact HS6.out.U,HS6.out.al,HS6.out.on⟩
     · have hl5I:¬ rm5 < (n:Int):=hl5
       have HM6:=Lib.hid (show M5.writes+65536 < 4611686018427387904 by have:=Hw.out;have:=Hmod.out.2;omega)
       have HL5:=Lib.hid hl5
       clear hl5
       have HA:=Lib.hid (by
        have hA:=append_any w6 J5' M5 (⟨U.dev,U.m,J5⟩:MU).J HS6.out.U.jat _ _ b HS6.out.B HS6.out.F (fun h0=>by have:=HS6.out.U.low 0 h0;omega) HS6.out.Q HM6.out
        rw [HS6.out.j.trans Hja.out] at hA
        exact hA)
       obtain ⟨r,hr⟩:∃ r,appendM M5 (⟨U.dev,U.m,J5⟩:MU).J b=r:=⟨_,rfl⟩
       rw [hr] at HA
       obtain ⟨M3,J3,er⟩:=r
       have Hr:=Lib.hid hr
       obtain ⟨b1,e1,b2,e2,b3,e3,hb,-⟩:=HS6.out.U.box
       obtain ⟨-,-,-,-,c4⟩:=cell5u hb
       rw [HS6.out.j.trans Hja.out] at c4
       clear hr hb
       go_wp2_with fail
       refine HA.out.mono ?_
       rintro e w7 ⟨rfl,jk3,k1,k2,k3,k4,k5⟩
       obtain ⟨J4,hS4⟩:=HS6.out.moved k5 k3 (k1.trans (HS6.out.j.trans Hja.out).symm) k2 k4 HS6.out.on.size
       have HS4:=Lib.hid hS4
       clear HA k1 k2 k3 k4 k5 hS4 c4
       by_cases he:er=0
       · subst he
         obtain ⟨z1,z2,z3⟩:=cell3 HS4.out.bO
         obtain ⟨b1,e1,b2,e2,b3,e3,hb,-⟩:=HS4.out.U.box
         obtain ⟨y0,y1,y2,y3,y4⟩:=cell5u hb
         have q1:=hb.free 1
         have q2:=hb.free 2
         have q3:=hb.free 3
         obtain ⟨w8,hw8⟩:∃ w8,w8=((w7.setCell ⟨u,1,none⟩ (.slice a1 x.seen.length p1)).setCell ⟨u,2,none⟩ (.slice a2 x.items.length p2)).setCell ⟨u,3,none⟩ (.slice a3 x.gone.length p3):=⟨_,rfl⟩
         have H8:=Lib.hid (HS4.out.put hw8)
         have Hw8:=Lib.hid hw8
         have Heq:=Lib.hid (show writeU M U b x=(M3,⟨(⟨U.dev,U.m,J5⟩:MU).dev,x,J3⟩,0) by unfold writeU;rw [if_pos (by rw [Hrm.out,Hn.out];exact HL.out),Hrep.out];dsimp only;rw [if_pos rfl,if_neg (by rw [Hrm5.out,Hn.out];have:=HL5.out;omega)];unfold appU;rw [Hr.out];rfl)
         clear hb hw8
         go_wp2_with fail
         rw [←Hw8.out]
         go_ret
         exact ⟨by rw [Heq.out];rfl,J4,HS4.out.j,HS4.out.kd,by rw [Heq.out];exact H8.out.1,HS4.out.al,H8.out.2⟩
       · have heI:¬ er=0:=he
         have Heq:=Lib.hid (show writeU M U b x=(M3,⟨(⟨U.dev,U.m,J5⟩:MU).dev,(⟨U.dev,U.m,J5⟩:MU).m,J3⟩,er) by unfold writeU;rw [if_pos (by rw [Hrm.out,Hn.out];exact HL.out),Hrep.out];dsimp only;rw [if_pos rfl,if_neg (by rw [Hrm5.out,Hn.out];have:=HL5.out;omega)];unfold appU;rw [Hr.out];exact if_neg he)
         clear he
         go_wp2_with fail
         go_ret
         exact ⟨by rw [Heq.out];rfl,J4,HS4.out.j,HS4.out.kd,by rw [Heq.out];exact HS4.out.U,HS4.out.al,HS4.out.on⟩
   · have heI:¬ er=0:=he
     have Hrep:=Lib.hid (show repU M U=(M5,⟨U.dev,U.m,J5⟩,er) by unfold repU;rw [HsB.out,Hr.out])
     have Heq:=Lib.hid (show writeU M U b x=(M5,⟨U.dev,U.m,J5⟩,er) by unfold writeU;rw [if_pos (by rw [Hrm.out,Hn.out];exact HL.out),Hrep.out];dsimp only;rw [if_neg he])
     clear he
     go_wp2_with fail
     go_ret
     exact ⟨by rw [Heq.out];rfl,J5',HS5.out.j,HS5.out.kd,by rw [Heq.out];exact HS5.out.U,HS5.out.al,HS5.out.on⟩
 · have hltI:¬ rm < (n:Int):=hlt
   have HM2:=Lib.hid (show M.writes+65536 < 4611686018427387904 by have:=Hw.out;omega)
   have HL:=Lib.hid hlt
   clear hlt
   have HA:=Lib.hid (by
    have hA:=append_any w2 jk M (U).J HS2.out.U.jat _ _ b HS2.out.B HS2.out.F (fun h0=>by have:=HS2.out.U.low 0 h0;omega) HS2.out.Q HM2.out
    rw [HS2.out.j.trans Hja.out] at hA
    exact hA)
   obtain ⟨r,hr⟩:∃ r,appendM M (U).J b=r:=⟨_,rfl⟩
   rw [hr] at HA
   obtain ⟨M3,J3,er⟩:=r
   have Hr:=Lib.hid hr
   obtain ⟨b1,e1,b2,e2,b3,e3,hb,-⟩:=HS2.out.U.box
   obtain ⟨-,-,-,-,c4⟩:=cell5u hb
   rw [HS2.out.j.trans Hja.out] at c4
   clear hr hb
   go_wp2_with fail
   refine HA.out.mono ?_
   rintro e w7 ⟨rfl,jk3,k1,k2,k3,k4,k5⟩
   obtain ⟨J4,hS4⟩:=HS2.out.moved k5 k3 (k1.trans (HS2.out.j.trans Hja.out).symm) k2 k4 HS2.out.on.size
   have HS4:=Lib.hid hS4
   clear HA k1 k2 k3 k4 k5 hS4 c4
   by_cases he:er=0
   · subst he
     obtain ⟨z1,z2,z3⟩:=cell3 HS4.out.bO
     obtain ⟨b1,e1,b2,e2,b3,e3,hb,-⟩:=HS4.out.U.box
     obtain ⟨y0,y1,y2,y3,y4⟩:=cell5u hb
     have q1:=hb.free 1
     have q2:=hb.free 2
     have q3:=hb.free 3
     obtain ⟨w8,hw8⟩:∃ w8,w8=((w7.setCell ⟨u,1,none⟩ (.slice a1 x.seen.length p1)).setCell ⟨u,2,none⟩ (.slice a2 x.items.length p2)).setCell ⟨u,3,none⟩ (.slice a3 x.gone.length p3):=⟨_,rfl⟩
     have H8:=Lib.hid (HS4.out.put hw8)
     have Hw8:=Lib.hid hw8
     have Heq:=Lib.hid (show writeU M U b x=(M3,⟨(U).dev,x,J3⟩,0) by unfold writeU;rw [if_neg (by rw [Hrm.out,Hn.out];have:=HL.out;omega)];unfold appU;rw [Hr.out];rfl)
     clear hb hw8
     go_wp2_with fail
     rw [←Hw8.out]
     go_ret
     exact ⟨by rw [Heq.out];rfl,J4,HS4.out.j,HS4.out.kd,by rw [Heq.out];exact H8.out.1,HS4.out.al,H8.out.2⟩
   · have heI:¬ er=0:=he
     have Heq:=Lib.hid (show writeU M U b x=(M3,⟨(U).dev,(U).m,J3⟩,er) by unfold writeU;rw [if_neg (by rw [Hrm.out,Hn.out];have:=HL.out;omega)];unfold appU;rw [Hr.out];exact if_neg he)
     clear he
     go_wp2_with fail
     go_ret
     exact ⟨by rw [Heq.out];rfl,J4,HS4.out.j,HS4.out.kd,by rw [Heq.out];exact HS4.out.U,HS4.out.al,HS4.out.on⟩
end Go.Proofs.YtobjdpngnfbicaaGreatDoor
