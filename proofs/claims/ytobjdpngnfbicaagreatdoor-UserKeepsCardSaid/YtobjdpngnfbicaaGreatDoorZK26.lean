/-
  JX UStep UWrite
-/
import Derived.Test.YtobjdpngnfbicaaGreatDoorZK25
import Derived.Test.YtobjdpngnfbicaaGreatDoorZK23
import Derived.Test.YtobjdpngnfbicaaGreatDoorZK24
open Go.Lib renaming hid->ae
open Nat renaming le_trans->au,lt_of_lt_of_le->aw
open List renaming length_append->ax
open Go.Proofs.Tryz renaming prog->aC
namespace Go.Proofs.YtobjdpngnfbicaaGreatDoor
open Go.RowKit
set_option linter.unusedVariables false
set_option maxRecDepth 20000
theorem JAt.onDisk {w w':World} {jk:JK} {M M':MD} {J:MJ} (h:JAt w jk M J) {K':DK} (hd:bj w' K' M') (hK:K'.d=jk.K.d) (hf:∀ b,K'.foot b -> jk.K.foot b \/ w.heap.size <= b) (ho:aK jk.K.foot w w') (hn:M'.S.length=M.S.length):
 JAt w' ⟨jk.j,K',jk.O⟩ M' J:=by
 have hlt:=h.lt;obtain⟨h1,⟨ra,rc,R,h2,h3,h4⟩,h5,h6,h7,h8,h9⟩:=h;have hO:∀ b,jk.O b -> w'.heap[b]?=w.heap[b]?:=fun b hb=>ho.block b (h5.2 b hb).2.2 (h5.2 b hb).2.1
 refine⟨hd,⟨ra,rc,R,?_,h3.keep fun b hb _=>hO b (h4 b hb),h4⟩,⟨fun hx=>?_,fun b hb=>⟨(h5.2 b hb).1,fun hx=>?_,aw (h5.2 b hb).2.2 ho.size⟩⟩,by rw[hn];exact h6,by rw[hn];exact h7,h8,h9⟩
 ·rw[show (⟨jk.j,K',jk.O⟩:JK).K.d=jk.K.d from hK];exact Blk.keep h2 (ho.block _ (hlt _ (.inl rfl)) h5.1)
 ·have:=hlt jk.j (.inl rfl);rcases hf _ hx with h | h
  ·exact h5.1 h
  ·exact absurd h (by show ¬ w.heap.size <= jk.j;omega)
 ·have:=(h5.2 b hb).2.2;rcases hf _ hx with h | h
  ·exact(h5.2 b hb).2.1 h
  ·omega
theorem qC (w:World) (jk:JK) (M:MD) (J:MJ) (hj:JAt w jk M J):
 Calls aC 49 #[.pointer (some ⟨jk.j,0,none⟩)] w fun e w'=>∃ r R',e=.returned r /\ bX R' w' w.heap.size r J.L /\ (∀ b,R' b -> w.heap.size <= b /\ b < w'.heap.size) /\ Below w.heap.size w w':=by
 have hroom:aL J.L <= aT M.S.length:=hj.room;have hle:M.S.length <= 65536:=hj.disk.le;have:=cU J.L;obtain⟨ra,rc,R,hjb,hr,hown⟩:=hj.recs;exact nK w jk.j jk.K.d J.g (aL J.L) _ J.dead hjb R J.L hr (by unfold aT at hroom;omega) hj.lens
theorem tq (w:World) (jk:JK) (M:MD) (J:MJ) (hj:JAt w jk M J):
 Calls aC 60 #[.pointer (some ⟨jk.j,0,none⟩)] w fun e w'=>e=.returned (.bool J.dead) /\ w=w':=by
 obtain⟨ra,rc,R,hjb,hr,hown⟩:=hj.recs;exact rK w jk.j jk.K.d J.g (aL J.L) _ J.dead hjb
section
attribute [local go_sem] opC upC
theorem lJ (a b:List UInt8):dP [a,b]=a ++ b:=by unfold dP;simp
theorem gn (a:List UInt8):dP [a]=a:=by unfold dP;simp
theorem cO {W:World} {b:Nat} {c0 c1 c2 c3 c4:Value} {t:TypeId} (h:Blk W b [c0,c1,c2,c3,c4] t):W.cell? ⟨b,0,none⟩=some c0 /\ W.cell? ⟨b,1,none⟩=some c1 /\ W.cell? ⟨b,2,none⟩=some c2 /\ W.cell? ⟨b,3,none⟩=some c3 /\ W.cell? ⟨b,4,none⟩=some c4:=
 ⟨h.cell 0,h.cell 1,h.cell 2,h.cell 3,h.cell 4⟩
set_option maxHeartbeats 2000000 in
theorem i6 (w:World) (hT:cL w) (h3:4 <= w.heap.size) (jk:JK) (u:Nat) (M:MD) (U:MU) (h:UAt w jk u M U) (hd:U.dev < 8) (hv:validR U.m=true):
 Calls aC 45 #[.pointer (some ⟨u,0,none⟩)] w fun e w'=>(∃ r,e=.returned r /\ w'.ownsRow w.heap.size 5 1 r (dq U.dev U.m).length ((dq U.dev U.m).map B)) /\ Below w.heap.size w w':=by
 obtain⟨a1,p1,a2,p2,a3,p3,hb,hm⟩:=h.box;have hk:=b9 hv;have hlc:=(valid_lens hv).2.2.2;have hE:=fR w hT h3 _ (.agg #[.slice a1 U.m.seen.length p1,.slice a2 U.m.items.length p2,.slice a3 U.m.gone.length p3]) U.m ⟨_,_,_,rfl,hm⟩ hk.1 hk.2;rw[show encR U.m=(codeR U.m,0) by unfold encR;rw[hv];rfl] at hE;have HE:=ae hE;obtain⟨c0,c1,c2,c3,c4⟩:=cO hb;have Hb:=ae hb
 obtain⟨d,hdd⟩:∃ d,U.dev=d:=⟨_,rfl⟩
 obtain⟨m,hmm⟩:∃ m,U.m=m:=⟨_,rfl⟩
 rw[hdd] at hd;rw[hmm] at hlc;have Hlc:=ae hlc;have Hd:=ae hd;have Hdd:=ae hdd;have Hmm:=ae hmm;have hw:IntKind.u64.wrap (d:Int)=(d:Int):=IntWalk.u64_in _ (by omega);rw[hdd] at c0;clear hE hk hlc hv hT hm hb hdd hmm hd
 go_enter Tryz.func45,Tryz.ntmps45
 go_wp2_with fail;refine HE.out.mono ?_;rintro e w1 ⟨⟨v1,rfl,hB1⟩,hb1⟩;have hblk:=Hb.out.keep (hb1.block _ Hb.out.lt);have e0:=(cO hblk).1;rw[Hdd.out] at e0;have HP:=ae (putUint_any w1 none_ (.slice none 0 0) [] (jv none_ w1 none) d (by have:=Hd.out;omega) (by simp));have HB1:=ae hB1;have Hb1:=ae hb1;clear HE hB1 hb1 hblk c0 c1 c2 c3 c4;go_wp2_with fail;refine HP.out.mono ?_;rintro e w2 ⟨⟨r2,rfl,ho2⟩,hb2⟩;rw[List.nil_append] at ho2;have h0:Bytes (fun b=>True) w2 r2 (uvar d):=Bytes.of_owns ho2 _ fun _ _ _=>trivial
 have h1:=(HB1.out.keep (w':=w2) fun b _ hlt=>hb2.block b hlt).insideU;rw[Hmm.out] at h1;obtain⟨a2',c2',rfl⟩:=own_shape ho2;obtain⟨a1',c1',rfl,-⟩:=id h1;have hr:=ks h0.insideU h1 (fun b hb=>hb)
 obtain⟨w3,hw3⟩:∃ w3,w3=w2.alloc (.cells #[.slice a2' (uvar d).length c2',.slice a1' (codeR m).length c1'] 41):=⟨_,rfl⟩
 have hb3:Below w.heap.size w w3:=by rw[hw3];exact(Hb1.out.trans (hb2.mono Hb1.out.size)).alloc (au Hb1.out.size hb2.size) _
 rw[<- hw3] at hr;have hul:=uvar_len d;have hC:=gF w3 _ 0 _ _ hr (by rw[lJ,ax];have:=Hlc.out;omega) (by simp);rw[lJ] at hC;have HC2:=ae (show Calls aC 81 #[.int .u8 0,.slice (some ⟨w2.heap.size,0,none⟩) 2 2] w3 _ from hC);have Hb3:=ae hb3;have Hw3:=ae hw3
 obtain⟨n1,hn1⟩:∃ n,(uvar d).length=n:=⟨_,rfl⟩
 obtain⟨n2,hn2⟩:∃ n,(codeR m).length=n:=⟨_,rfl⟩
 rw[hn1,hn2] at Hw3 ⊢;clear HP hC hr hw3 hb3 h0 h1 ho2 hb2 hul hn1 hn2 e0;go_wp2_with fail;rw[<- Hw3.out];refine HC2.out.mono ?_;rintro e w4 ⟨⟨r4,rfl,ho4⟩,hb4⟩;have Ho4:=ae (show w4.ownsRow w.heap.size 5 1 r4 (dq U.dev U.m).length ((dq U.dev U.m).map B) by rw[Hdd.out,Hmm.out];exact own_base ho4 Hb3.out.size);have Hb4:=ae (Hb3.out.trans (hb4.mono Hb3.out.size));clear HC2 ho4 hb4;go_wp2_with fail
 go_ret
 exact⟨⟨_,rfl,Ho4.out⟩,Hb4.out⟩
theorem gp (w:World) (jk:JK) (u:Nat) (M:MD) (U:MU) (h:UAt w jk u M U):
 Calls aC 22 #[.pointer (some ⟨u,0,none⟩)] w fun e w'=>e=.returned (.bool U.J.dead) /\ w=w':=by
 obtain⟨a1,p1,a2,p2,a3,p3,hb,hm⟩:=h.box;have HD:=ae (tq w jk M U.J h.jat);obtain⟨c0,c1,c2,c3,c4⟩:=cO hb
 obtain⟨b,hbb⟩:∃ b,U.J.dead=b:=⟨_,rfl⟩
 rw[hbb] at HD ⊢;clear hb hm hbb h
 go_enter Tryz.func22,Tryz.ntmps22
 go_wp2_with fail;refine HD.out.mono ?_;rintro e w1 ⟨rfl,rfl⟩;clear HD;go_wp2_with fail
 go_ret
 exact⟨rfl,rfl⟩
end
section
attribute [local go_sem] opC upC
theorem rN (w:World) (jk:JK) (u:Nat) (M:MD) (U:MU) (h:UAt w jk u M U):
 Calls aC 137 #[.pointer (some ⟨jk.j,0,none⟩)] w fun e w'=>e=.returned (.int .i64 (jV M U.J)) /\ ∃ m,w.drewN m=w':=by
 obtain⟨ra,rc,R,hjb,-,-⟩:=h.jat.recs;have h8:=h.jat.size8;exact rJ w jk.j jk.K.d U.J.g (aL U.J.L) _ U.J.dead jk.K M hjb h.jat.disk rfl (by omega) h.jat.room
theorem o7 (M:MD) (J:MJ) (l:List UInt8):(bt M J l).1.S.length=M.S.length /\ (bt M J l).1.writes <= M.writes+65536:=by
 unfold bt;split
 ·exact⟨rfl,Nat.le_add_right _ _⟩
 ·split
  ·exact⟨rfl,Nat.le_add_right _ _⟩
  ·split
   ·exact⟨rfl,Nat.le_add_right _ _⟩
   ·rename_i h1 h2 h3;have h4:=dW (aO M.S.length J.g J.L.length (aL J.L) l) M;have h5:(aO M.S.length J.g J.L.length (aL J.L) l).length=takes l.length:=by unfold aO;simp
    have h6:takes l.length <= 65536:=by unfold takes;omega
    dsimp only;split
    ·exact⟨h4.1,au h4.2 (by omega)⟩
    ·exact⟨h4.1,au h4.2 (by omega)⟩
theorem jx (M:MD) (J:MJ) (l:List UInt8):(bD M J l).1.S.length=M.S.length /\ (bD M J l).1.writes <= M.writes+65536:=by
 unfold bD;split
 ·exact⟨rfl,Nat.le_add_right _ _⟩
 ·split
  ·exact⟨rfl,Nat.le_add_right _ _⟩
  ·split
   ·exact⟨rfl,Nat.le_add_right _ _⟩
   ·rename_i h1 h2 h3;have h4:=dW (aO M.S.length (J.g+1) 0 0 l ++ [((J.g+1) % 2,bZ (J.g+1))]) M;have h5:(aO M.S.length (J.g+1) 0 0 l ++ [((J.g+1) % 2,bZ (J.g+1))]).length=takes l.length+1:=by unfold aO;simp
    have h6:takes l.length <= 1366:=by unfold takes;omega
    dsimp only;split
    ·exact⟨h4.1,au h4.2 (by omega)⟩
    ·exact⟨h4.1,au h4.2 (by omega)⟩
def ct (w:World) (jk:JK) (u:Nat) (r:MD × MU × Int) (e:Ending) (w':World):Prop:=
 e=.returned (.int .i64 r.2.2) /\ ∃ jk',jk'.j=jk.j /\ jk'.K.d=jk.K.d /\ UAt w' jk' u r.1 r.2.1 /\ (∀ q,jk'.all q -> jk.all q \/ w.heap.size <= q) /\ aK (fun q=>jk.all q \/ q=u) w w'
theorem UAt.setM {w w':World} {jk:JK} {u:Nat} {M:MD} {U:MU} (h:UAt w jk u M U) {x:RMap} {a1 a2 a3:Option Addr} {p1 p2 p3:Nat} (hx:bJ (NJ w) w (.slice a1 x.seen.length p1) (.slice a2 x.items.length p2) (.slice a3 x.gone.length p3) x)
 (hw:w'=((w.setCell ⟨u,1,none⟩ (.slice a1 x.seen.length p1)).setCell ⟨u,2,none⟩ (.slice a2 x.items.length p2)).setCell ⟨u,3,none⟩ (.slice a3 x.gone.length p3)):UAt w' jk u M ⟨U.dev,x,U.J⟩ /\ aK (fun q=>q=u) w w':=by
 obtain⟨b1,c1,b2,c2,b3,c3,hb,hm⟩:=h.box
 have hk:∀ q,q≠u -> w'.heap[q]?=w.heap[q]?:=fun q hq=>by
  rw[hw];exact(Below.heap_setCell _ _ _ _ hq).trans ((Below.heap_setCell _ _ _ _ hq).trans (Below.heap_setCell _ _ _ _ hq))
 have hz:w'.heap.size=w.heap.size:=by rw[hw];simp[World.setCell]
 have hnu:∀ q,NJ w q -> q≠u:=fun q ⟨L,t,fz,hh,_,ht⟩ e=>by
  subst e;unfold Blk at hb;rw[hb] at hh;injection hh with hh
  injection hh with _ hh
  exact ht.1 hh.symm
 have hju:∀ b,jk.all b -> b≠u:=fun b hb' e=>h.apart (e ▸ hb')
 refine⟨⟨⟨a1,p1,a2,p2,a3,p3,?_,(hx.keep (w':=w') fun q hq _=>hk q (hnu q hq)).mono fun q hq _=>dz hq (hk q (hnu q hq))⟩,h.jat.keep (fun b hb'=>hk b (hju b hb')) (by omega),h.typ.keep fun b hb'=>hk b (hju b hb'),h.low⟩,?_⟩
 ·rw[hw];exact(((hb.set 1 _).set 2 _).set 3 _)
 ·rw[hw];exact(((aK.refl (fun q=>q=u) w).setCell (p:=⟨u,1,none⟩) (.inl rfl) _).setCell (p:=⟨u,2,none⟩) (.inl rfl) _).setCell (p:=⟨u,3,none⟩) (.inl rfl) _
structure WS (w W:World) (jk JJ:JK) (u:Nat) (MM:MD) (UU:MU) (F:aV) (bv:Value) (b:List UInt8) (a1 a2 a3:Option Addr) (p1 p2 p3:Nat) (x:RMap) (O:Nat):Prop where
 U:UAt W JJ u MM UU
 B:Bytes F W bv b
 F:∀ q,F q -> q < W.heap.size /\ ¬ JJ.all q
 Q:bQ W
 T:cL W
 bO:Blk W O [.slice a1 x.seen.length p1,.slice a2 x.items.length p2,.slice a3 x.gone.length p3] 37
 X:bJ (NJ W) W (.slice a1 x.seen.length p1) (.slice a2 x.items.length p2) (.slice a3 x.gone.length p3) x
 j:JJ.j=jk.j
 kd:JJ.K.d=jk.K.d
 sz:3 < W.heap.size
 on:aK (fun q=>jk.all q \/ q=u) w W
 al:∀ q,JJ.all q -> jk.all q \/ w.heap.size <= q
section
variable {w W W':World} {jk JJ jk':JK} {u:Nat} {MM M':MD} {UU:MU} {J':MJ} {F:aV} {bv:Value} {b:List UInt8} {a1 a2 a3:Option Addr} {p1 p2 p3:Nat} {x:RMap} {O:Nat}
theorem lK {q:Nat} (h:NJ W q):q < W.heap.size:=by
 obtain⟨L,t,fz,hh,_⟩:=h;exact lt_of_block hh
theorem o8:¬ TJ 37:=by unfold TJ;decide
theorem WS.below (h:WS w W jk JJ u MM UU F bv b a1 a2 a3 p1 p2 p3 x O) (hb:Below W.heap.size W W'):WS w W' jk JJ u MM UU F bv b a1 a2 a3 p1 p2 p3 x O:=
 ⟨h.U.keep hb,h.B.keep fun q _ hlt=>hb.block q hlt,fun q hq=>⟨aw (h.F q hq).1 hb.size,(h.F q hq).2⟩,h.Q.keep (hb.block 0 (by have:=h.sz;omega)),bi h.T h.sz hb,h.bO.keep (hb.block O h.bO.lt),
  (h.X.keep (w':=W') fun q _ hlt=>hb.block q hlt).mono fun q hq _=>dz hq (hb.block q (lK hq)),h.j,h.kd,aw h.sz hb.size,h.on.trans (aK.of_below (F:=none_) hb) (fun _ hf=>hf.elim),h.al⟩
theorem WS.moved (h:WS w W jk JJ u MM UU F bv b a1 a2 a3 p1 p2 p3 x O) (ho:aK JJ.all W W') (hj:JAt W' jk' M' J') (hjj:jk'.j=JJ.j) (hkd:jk'.K.d=JJ.K.d) (hall:∀ q,jk'.all q -> JJ.all q \/ W.heap.size <= q) (hw:w.heap.size <= W.heap.size):
 ∃ J2,WS w W' jk J2 u M' ⟨UU.dev,UU.m,J'⟩ F bv b a1 a2 a3 p1 p2 p3 x O:=by
 obtain⟨J2,g1,g2,g3,hU⟩:=h.U.moved ho hj hjj hall h.sz;have hlow:∀ q,q < 4 -> W'.heap[q]?=W.heap[q]?:=fun q hq=>ho.block q (by have:=h.sz;omega) fun ha=>by have:=h.U.low q ha;omega
 refine⟨J2,hU,h.B.keep fun q hq hlt=>ho.block q hlt (h.F q hq).2,fun q hq=>⟨aw (h.F q hq).1 ho.size,fun ha=>?_⟩,h.Q.keep (hlow 0 (by omega)),h.T.keep fun a ha=>?_,h.bO.keep (ho.block O h.bO.lt (lI h.U.typ h.bO o8)),
  (h.X.keep (w':=W') fun q hq hlt=>ho.block q hlt (iK h.U.typ hq)).mono fun q hq _=>dz hq (ho.block q (lK hq) (iK h.U.typ hq)),g1.trans h.j,by rw[g2,hkd];exact h.kd,aw h.sz ho.size,h.on.trans ho (fun q hq=>?_),fun q hq=>?_⟩
 ·rcases g3 q ha with h1 | h1
  ·exact(h.F q hq).2 h1
  ·have:=(h.F q hq).1;omega
 ·have e:=hlow a.block ha;unfold World.cell?;rw[e]
 ·rcases h.al q hq with h1 | h1
  ·exact .inl (.inl h1)
  ·exact .inr h1
 ·rcases g3 q hq with h1 | h1
  ·exact h.al q h1
  ·right;omega
theorem WS.put (h:WS w W jk JJ u MM UU F bv b a1 a2 a3 p1 p2 p3 x O) (hW:W'=((W.setCell ⟨u,1,none⟩ (.slice a1 x.seen.length p1)).setCell ⟨u,2,none⟩ (.slice a2 x.items.length p2)).setCell ⟨u,3,none⟩ (.slice a3 x.gone.length p3)):
 UAt W' JJ u MM ⟨UU.dev,x,UU.J⟩ /\ aK (fun q=>jk.all q \/ q=u) w W':=by
 obtain⟨h1,h2⟩:=h.U.setM h.X hW;exact⟨h1,h.on.trans h2 (fun q hq=>.inl (.inr hq))⟩
end
set_option maxHeartbeats 4000000 in
theorem i7 (w:World) (hT:cL w) (h3:4 <= w.heap.size) (hq:bQ w) (jk:JK) (u:Nat) (M:MD) (U:MU) (h:UAt w jk u M U) (hd:U.dev < 8) (hv:validR U.m=true) (F:aV) (bv:Value) (b:List UInt8) (hB:Bytes F w bv b) (hF:∀ q,F q -> q < w.heap.size /\ ¬ jk.all q)
 (mv:Value) (x:RMap) (hx:cY (NJ w) w mv x) (hw:M.writes+200000 < 4611686018427387904) (hbl:b.length <= 1000000000):
 Calls aC 80 #[.pointer (some ⟨u,0,none⟩),bv,mv] w (ct w jk u (ce M U b x)):=by
 obtain⟨s1,s2,s3,rfl,hx⟩:=hx;obtain⟨a1,p1,rfl,-⟩:=hx.seen.shape;obtain⟨a2,p2,rfl,-⟩:=hx.items.shape;obtain⟨a3,p3,rfl,-⟩:=hx.gone.shape;obtain⟨ab,cb,rfl,-⟩:=id hB
 obtain⟨w1,hw1⟩:∃ w1,w1=w.alloc (.cells #[.slice a1 x.seen.length p1,.slice a2 x.items.length p2,.slice a3 x.gone.length p3] 37):=⟨_,rfl⟩
 have hb1:Below w.heap.size w w1:=by rw[hw1];exact aE _ _
 have hS1:WS w w1 jk jk u M U F (.slice ab b.length cb) b a1 a2 a3 p1 p2 p3 x w.heap.size:=
  ⟨h.keep hb1,hB.keep fun q _ hlt=>hb1.block q hlt,fun q hq'=>⟨aw (hF q hq').1 hb1.size,(hF q hq').2⟩,hq.keep (hb1.block 0 (by omega)),bi hT h3 hb1,by rw[hw1];exact Blk.new _ _ _,
   (hx.keep (w':=w1) fun q _ hlt=>hb1.block q hlt).mono fun q hq _=>dz hq (hb1.block q (lK hq)),rfl,rfl,by rw[hw1];simp;omega,aK.of_below hb1,fun q hq=>.inl hq⟩
 have HR:=ae (rN w1 jk u M U hS1.U);have HS1:=ae hS1;have Hw1:=ae hw1;have Hd:=ae hd;have Hv:=ae hv;have Hw:=ae hw;obtain⟨b1,e1,b2,e2,b3,e3,hb,-⟩:=hS1.U.box;obtain⟨-,-,-,-,c4⟩:=cO hb
 obtain⟨n,hn⟩:∃ n,b.length=n:=⟨_,rfl⟩
 have Hn:=ae hn
 obtain⟨jj,hjj⟩:∃ jj,jk.j=jj:=⟨_,rfl⟩
 have Hja:=ae hjj
 obtain⟨rm,hrm⟩:∃ rm,jV M U.J=rm:=⟨_,rfl⟩
 rw[hjj,hrm] at HR;rw[hjj] at c4;have Hrm:=ae hrm;rw[hn] at hbl HS1 ⊢;rw[hw1] at c4;clear h hd hv hB hF hx hw hq hT hw1 hb1 hS1 hb hn hjj hrm
 go_enter Tryz.func80,Tryz.ntmps80
 go_wp2_with fail;rw[<- Hw1.out];refine HR.out.mono ?_;rintro e w2 ⟨rfl,dn,hdn⟩;have HS2:=ae (HS1.out.below (W':=w2) (by rw[<- hdn];exact Below.drewN' (Below.refl _ _) dn));clear HR c4 hdn
 by_cases hlt:rm < (n:Int)
 ·have hltI:rm < (n:Int):=hlt;have HL:=ae hlt
  obtain⟨w3,hw3⟩:∃ q,q=w2.drew:=⟨_,rfl⟩
  have hb3:Below w2.heap.size w2 w3:=by rw[hw3];exact(Below.refl w2.heap.size w2).drew
  have HS3:=ae (HS2.out.below hb3);obtain⟨b1,e1,b2,e2,b3,e3,hb,-⟩:=HS3.out.U.box;obtain⟨-,-,-,-,c4⟩:=cO hb;have pc4:∀ w',aI w3 w' -> w'.cell? ⟨u,4,none⟩=some (.pointer (some ⟨jk.j,0,none⟩)):=fun w' hh=>(hh.cell (p:=⟨u,4,none⟩) (cellLt c4)).trans c4
  rw[Hja.out] at pc4;have HSt:=ae (i6 w3 HS3.out.T HS3.out.sz jk u M U HS3.out.U Hd.out Hv.out)
  obtain⟨sB,hsB⟩:∃ sB,dq U.dev U.m=sB:=⟨_,rfl⟩
  rw[hsB] at HSt;have HsB:=ae hsB;have Hw3:=ae hw3;clear hb hb3 hw3 c4 hsB hlt;go_wp2_with fail;refine bh aI 6 [(0,true),(1,true),(2,true),(3,true),(4,true),(5,false),(6,false),(7,true)] (by kernel_rfl) (by kernel_rfl) (by kernel_rfl) aH aG ?_;rw[<- Hw3.out]
  repeat (refine aX (v:=?_) rfl (aD rfl) (fun w' hC=>?_) (fun K hK=>?_);rotate_left;(focus (go_simp;first | done | exact rfl));go_simp;refine hK _ ?_;clear hK K)
  clear pc4;refine bS rfl rfl (fun KK hK=>?_);go_simp;refine HSt.out.mono ?_;rintro e w4 ⟨⟨r4,rfl,ho4⟩,hb4⟩;refine⟨_,rfl,hb4,hK _ _ ?_⟩;clear hK KK HSt;go_simp;have hS4:=HS3.out.below hb4;have hj3:=HS3.out.U.jat.lt;have hB4:Bytes (fun q=>w3.heap.size <= q /\ q < w4.heap.size) w4 r4 sB:=Bytes.of_owns ho4 _ fun q h1 h2=>⟨h1,h2⟩
  have HA:=ae (by
   have hA:=jt w4 jk M U.J hS4.U.jat _ _ sB hB4 (fun q hq=>⟨hq.2,fun ha=>by have:=hj3 q ha;omega⟩) (fun h0=>by have:=hS4.U.low 0 h0;omega) hS4.Q (by have:=Hw.out;omega);rw[Hja.out] at hA
   exact hA)
  have HS4:=ae hS4;obtain⟨a4,c4,rfl⟩:=own_shape ho4
  obtain⟨r,hr⟩:∃ r,bD M U.J sB=r:=⟨_,rfl⟩
  have hmod:=jx M U.J sB;rw[hr] at HA hmod;obtain⟨M5,J5,er⟩:=r;dsimp only at hmod;have Hr:=ae hr;have Hmod:=ae hmod;clear hS4 hj3 hB4 ho4 hb4 hr hmod
  repeat (refine aX (v:=?_) rfl (aD rfl) (fun w' hC=>?_) (fun K hK=>?_);rotate_left;(focus (go_simp;first | done | exact rfl));go_simp;refine hK _ ?_;clear hK K)
  refine bK rfl rfl rfl (fun KK hK=>?_);go_simp;refine HA.out.mono ?_;rintro e w5 ⟨rfl,jk3,k1,k2,k3,k4,k5⟩;obtain⟨J5',hS5⟩:=HS4.out.moved k5 k3 (k1.trans Hja.out.symm) k2 k4 HS4.out.on.size;have HS5:=ae hS5;refine⟨_,rfl,hK _ _ ?_⟩;clear hK KK HA k1 k2 k3 k4 k5 hS5;go_simp
  repeat (refine aX (v:=?_) rfl (aD rfl) (fun w' hC=>?_) (fun K hK=>?_);rotate_left;(focus (go_simp;first | done | exact rfl));go_simp;refine hK _ ?_;clear hK K)
  refine bR ?_
  by_cases he:er=0
  ·subst he
   have HR5:=ae (by
    have hR:=rN w5 J5' u M5 ⟨U.dev,U.m,J5⟩ HS5.out.U;rw[HS5.out.j.trans Hja.out] at hR
    exact hR)
   obtain⟨rm5,hrm5⟩:∃ rm5,jV M5 J5=rm5:=⟨_,rfl⟩
   rw[hrm5] at HR5;obtain⟨b1,e1,b2,e2,b3,e3,hb,-⟩:=HS5.out.U.box;obtain⟨-,-,-,-,c4⟩:=cO hb;rw[HS5.out.j.trans Hja.out] at c4;have Hrm5:=ae hrm5;have Hrep:=ae (show fv M U=(M5,⟨U.dev,U.m,J5⟩,0) by unfold fv;rw[HsB.out,Hr.out]);clear hb hrm5;go_wp2_with fail;refine HR5.out.mono ?_;rintro e w6 ⟨rfl,dn6,hdn6⟩;have HS6:=ae (HS5.out.below (W':=w6) (by rw[<- hdn6];exact Below.drewN' (Below.refl _ _) dn6));clear HR5 c4 hdn6
   by_cases hl5:rm5 < (n:Int)
   ·have hl5I:rm5 < (n:Int):=hl5;have Heq:=ae (show ce M U b x=(M5,⟨U.dev,U.m,J5⟩,7) by unfold ce;rw[if_pos (by rw[Hrm.out,Hn.out];exact HL.out),Hrep.out];dsimp only;rw[if_pos rfl,if_pos (by rw[Hrm5.out,Hn.out];exact hl5)]);clear hl5;go_wp2_with fail
    go_ret
    exact⟨by rw[Heq.out];rfl,J5',HS6.out.j,HS6.out.kd,by rw[Heq.out];exact HS6.out.U,HS6.out.al,HS6.out.on⟩
   ·have hl5I:¬ rm5 < (n:Int):=hl5;have HM6:=ae (show M5.writes+65536 < 4611686018427387904 by have:=Hw.out;have:=Hmod.out.2;omega);have HL5:=ae hl5;clear hl5
    have HA:=ae (by
     have hA:=io w6 J5' M5 (⟨U.dev,U.m,J5⟩:MU).J HS6.out.U.jat _ _ b HS6.out.B HS6.out.F (fun h0=>by have:=HS6.out.U.low 0 h0;omega) HS6.out.Q HM6.out;rw[HS6.out.j.trans Hja.out] at hA
     exact hA)
    obtain⟨r,hr⟩:∃ r,bt M5 (⟨U.dev,U.m,J5⟩:MU).J b=r:=⟨_,rfl⟩
    rw[hr] at HA;obtain⟨M3,J3,er⟩:=r;have Hr:=ae hr;obtain⟨b1,e1,b2,e2,b3,e3,hb,-⟩:=HS6.out.U.box;obtain⟨-,-,-,-,c4⟩:=cO hb;rw[HS6.out.j.trans Hja.out] at c4;clear hr hb;go_wp2_with fail;refine HA.out.mono ?_;rintro e w7 ⟨rfl,jk3,k1,k2,k3,k4,k5⟩;obtain⟨J4,hS4⟩:=HS6.out.moved k5 k3 (k1.trans (HS6.out.j.trans Hja.out).symm) k2 k4 HS6.out.on.size;have HS4:=ae hS4;clear HA k1 k2 k3 k4 k5 hS4 c4
    by_cases he:er=0
    ·subst he;obtain⟨z1,z2,z3⟩:=cell3 HS4.out.bO;obtain⟨b1,e1,b2,e2,b3,e3,hb,-⟩:=HS4.out.U.box;obtain⟨y0,y1,y2,y3,y4⟩:=cO hb;have q1:=hb.free 1;have q2:=hb.free 2;have q3:=hb.free 3
     obtain⟨w8,hw8⟩:∃ w8,w8=((w7.setCell ⟨u,1,none⟩ (.slice a1 x.seen.length p1)).setCell ⟨u,2,none⟩ (.slice a2 x.items.length p2)).setCell ⟨u,3,none⟩ (.slice a3 x.gone.length p3):=⟨_,rfl⟩
     have H8:=ae (HS4.out.put hw8);have Hw8:=ae hw8;have Heq:=ae (show ce M U b x=(M3,⟨(⟨U.dev,U.m,J5⟩:MU).dev,x,J3⟩,0) by unfold ce;rw[if_pos (by rw[Hrm.out,Hn.out];exact HL.out),Hrep.out];dsimp only;rw[if_pos rfl,if_neg (by rw[Hrm5.out,Hn.out];have:=HL5.out;omega)];unfold gJ;rw[Hr.out];rfl);clear hb hw8;go_wp2_with fail;rw[<- Hw8.out]
     go_ret
     exact⟨by rw[Heq.out];rfl,J4,HS4.out.j,HS4.out.kd,by rw[Heq.out];exact H8.out.1,HS4.out.al,H8.out.2⟩
    ·have heI:¬ er=0:=he;have Heq:=ae (show ce M U b x=(M3,⟨(⟨U.dev,U.m,J5⟩:MU).dev,(⟨U.dev,U.m,J5⟩:MU).m,J3⟩,er) by unfold ce;rw[if_pos (by rw[Hrm.out,Hn.out];exact HL.out),Hrep.out];dsimp only;rw[if_pos rfl,if_neg (by rw[Hrm5.out,Hn.out];have:=HL5.out;omega)];unfold gJ;rw[Hr.out];exact if_neg he);clear he;go_wp2_with fail
     go_ret
     exact⟨by rw[Heq.out];rfl,J4,HS4.out.j,HS4.out.kd,by rw[Heq.out];exact HS4.out.U,HS4.out.al,HS4.out.on⟩
  ·have heI:¬ er=0:=he;have Hrep:=ae (show fv M U=(M5,⟨U.dev,U.m,J5⟩,er) by unfold fv;rw[HsB.out,Hr.out]);have Heq:=ae (show ce M U b x=(M5,⟨U.dev,U.m,J5⟩,er) by unfold ce;rw[if_pos (by rw[Hrm.out,Hn.out];exact HL.out),Hrep.out];dsimp only;rw[if_neg he]);clear he;go_wp2_with fail
   go_ret
   exact⟨by rw[Heq.out];rfl,J5',HS5.out.j,HS5.out.kd,by rw[Heq.out];exact HS5.out.U,HS5.out.al,HS5.out.on⟩
 ·have hltI:¬ rm < (n:Int):=hlt;have HM2:=ae (show M.writes+65536 < 4611686018427387904 by have:=Hw.out;omega);have HL:=ae hlt;clear hlt
  have HA:=ae (by
   have hA:=io w2 jk M (U).J HS2.out.U.jat _ _ b HS2.out.B HS2.out.F (fun h0=>by have:=HS2.out.U.low 0 h0;omega) HS2.out.Q HM2.out;rw[HS2.out.j.trans Hja.out] at hA
   exact hA)
  obtain⟨r,hr⟩:∃ r,bt M (U).J b=r:=⟨_,rfl⟩
  rw[hr] at HA;obtain⟨M3,J3,er⟩:=r;have Hr:=ae hr;obtain⟨b1,e1,b2,e2,b3,e3,hb,-⟩:=HS2.out.U.box;obtain⟨-,-,-,-,c4⟩:=cO hb;rw[HS2.out.j.trans Hja.out] at c4;clear hr hb;go_wp2_with fail;refine HA.out.mono ?_;rintro e w7 ⟨rfl,jk3,k1,k2,k3,k4,k5⟩;obtain⟨J4,hS4⟩:=HS2.out.moved k5 k3 (k1.trans (HS2.out.j.trans Hja.out).symm) k2 k4 HS2.out.on.size;have HS4:=ae hS4;clear HA k1 k2 k3 k4 k5 hS4 c4
  by_cases he:er=0
  ·subst he;obtain⟨z1,z2,z3⟩:=cell3 HS4.out.bO;obtain⟨b1,e1,b2,e2,b3,e3,hb,-⟩:=HS4.out.U.box;obtain⟨y0,y1,y2,y3,y4⟩:=cO hb;have q1:=hb.free 1;have q2:=hb.free 2;have q3:=hb.free 3
   obtain⟨w8,hw8⟩:∃ w8,w8=((w7.setCell ⟨u,1,none⟩ (.slice a1 x.seen.length p1)).setCell ⟨u,2,none⟩ (.slice a2 x.items.length p2)).setCell ⟨u,3,none⟩ (.slice a3 x.gone.length p3):=⟨_,rfl⟩
   have H8:=ae (HS4.out.put hw8);have Hw8:=ae hw8;have Heq:=ae (show ce M U b x=(M3,⟨(U).dev,x,J3⟩,0) by unfold ce;rw[if_neg (by rw[Hrm.out,Hn.out];have:=HL.out;omega)];unfold gJ;rw[Hr.out];rfl);clear hb hw8;go_wp2_with fail;rw[<- Hw8.out]
   go_ret
   exact⟨by rw[Heq.out];rfl,J4,HS4.out.j,HS4.out.kd,by rw[Heq.out];exact H8.out.1,HS4.out.al,H8.out.2⟩
  ·have heI:¬ er=0:=he;have Heq:=ae (show ce M U b x=(M3,⟨(U).dev,(U).m,J3⟩,er) by unfold ce;rw[if_neg (by rw[Hrm.out,Hn.out];have:=HL.out;omega)];unfold gJ;rw[Hr.out];exact if_neg he);clear he;go_wp2_with fail
   go_ret
   exact⟨by rw[Heq.out];rfl,J4,HS4.out.j,HS4.out.kd,by rw[Heq.out];exact HS4.out.U,HS4.out.al,HS4.out.on⟩
end
end Go.Proofs.YtobjdpngnfbicaaGreatDoor
