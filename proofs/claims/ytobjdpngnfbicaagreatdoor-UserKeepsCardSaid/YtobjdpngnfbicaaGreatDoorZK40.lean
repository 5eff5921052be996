/-
  UPerf
-/
import Derived.Test.YtobjdpngnfbicaaGreatDoorZK39
open Go.Lib renaming hid->ae
open Nat renaming le_refl->aq,le_trans->au,lt_of_lt_of_le->aw
open Go.Proofs.Tryz renaming prog->aC
namespace Go.Proofs.YtobjdpngnfbicaaGreatDoor
open Go.RowKit
set_option linter.unusedVariables false
set_option maxRecDepth 20000
section
open Go.Lib
attribute [local go_sem] opC upC
theorem UAt.setBox {w w':World} {jk:JK} {u:Nat} {M:MD} {U:MU} (h:UAt w jk u M U) {q:Nat} {L:List Value} (hq:Blk w q L 37) (hk:∀ b,b≠q -> w'.heap[b]?=w.heap[b]?) (hz:w.heap.size <= w'.heap.size):UAt w' jk u M U:=by
 obtain⟨b1,c1,b2,c2,b3,c3,hb,hm⟩:=h.box
 have hnq:∀ b,NJ w b -> b≠q:=fun b ⟨L,t,fz,hh,_,_,ht⟩ e=>by
  subst e;unfold Blk at hq;rw[hq] at hh;injection hh with hh
  injection hh with _ hh
  exact ht hh.symm
 have hju:∀ b,jk.all b -> b≠q:=fun b hb' e=>lI h.typ hq o8 (e ▸ hb')
 have huq:u≠q:=fun e=>by
  subst e;unfold Blk at hb hq;rw[hb] at hq;injection hq with hq
  injection hq with _ hq
  exact absurd hq (by decide)
 exact⟨⟨b1,c1,b2,c2,b3,c3,hb.keep (hk u huq),(hm.keep (w':=w') fun b hb' _=>hk b (hnq b hb')).mono fun b hb' _=>dz hb' (hk b (hnq b hb'))⟩,h.jat.keep (fun b hb'=>hk b (hju b hb')) hz,h.typ.keep fun b hb'=>hk b (hju b hb'),h.low⟩
theorem UX.setBox {w w':World} {lo d u:Nat} {M:MD} {U:MU} (h:UX w lo d u M U) {q:Nat} {L:List Value} (hq:Blk w q L 37) (hk:∀ b,b≠q -> w'.heap[b]?=w.heap[b]?) (hz:w.heap.size <= w'.heap.size):UX w' lo d u M U:=by
 obtain⟨jk,h1,h2,h3,h4,h5,h6⟩:=h;exact⟨jk,h1,h2,au h3 hz,h4,h5,h6.setBox hq hk hz⟩
theorem UXH.setBox {w w':World} {lo hi d u:Nat} {M:MD} {U:MU} (h:UXH w lo hi d u M U) {q:Nat} {L:List Value} (hq:Blk w q L 37) (hk:∀ b,b≠q -> w'.heap[b]?=w.heap[b]?) (hz:w.heap.size <= w'.heap.size):UXH w' lo hi d u M U:=by
 obtain⟨jk,h1,h2,h3,h3',h4,h5,h6⟩:=h;exact⟨jk,h1,h2,h3,au h3' hz,h4,h5,h6.setBox hq hk hz⟩
theorem lQ {w:World} {q:Nat} (v1 v2 v3:Value):(∀ b,b≠q -> (((w.setCell ⟨q,0,none⟩ v1).setCell ⟨q,1,none⟩ v2).setCell ⟨q,2,none⟩ v3).heap[b]?=w.heap[b]?) /\ w.heap.size <= (((w.setCell ⟨q,0,none⟩ v1).setCell ⟨q,1,none⟩ v2).setCell ⟨q,2,none⟩ v3).heap.size:=
 ⟨fun b hb=>(Below.heap_setCell _ _ _ _ hb).trans ((Below.heap_setCell _ _ _ _ hb).trans (Below.heap_setCell _ _ _ _ hb)),by simp[World.setCell]⟩
def kT (w:World) (lo hi d u:Nat) (M:MD) (U:MU) (A:gL) (e:Ending) (w':World):Prop:=
 ∃ s1 s2 s3,e=.returned (.tuple #[.int .i64 (fM M U A).2.2,.agg #[s1,s2,s3]]) /\ bJ (fun q=>w.heap.size <= q) w' s1 s2 s3 (eX U A) /\ UX w' lo d u (fM M U A).1 (fM M U A).2.1 /\ aK (Mid lo hi) w w'
structure mP (w W:World) (lo hi d u:Nat) (M:MD) (U:MU) (cs:List Value) (bm lm:Nat) (a1 a2 a3:Value) (X:RMap):Prop where
 hle:hi <= w.heap.size
 U:UXH W lo hi d u M U
 A:Blk W w.heap.size cs 39
 R:Blk W (w.heap.size+1) [.slice none 0 0,.slice none 0 0,.slice none 0 0] 37
 M:Blk W bm [a1,a2,a3] 37
 X:bJ (fun q=>lm <= q /\ q≠bm) W a1 a2 a3 X
 lm:w.heap.size+1 < lm /\ lm <= bm
 B:Below w.heap.size w W
theorem mP.keep {w W W':World} {lo hi d u:Nat} {M:MD} {U:MU} {cs:List Value} {bm lm:Nat} {a1 a2 a3:Value} {X:RMap} (h:mP w W lo hi d u M U cs bm lm a1 a2 a3 X) (hb:Below W.heap.size W W'):mP w W' lo hi d u M U cs bm lm a1 a2 a3 X:=
 ⟨h.hle,h.U.keep hb,h.A.keep (hb.block _ h.A.lt),h.R.keep (hb.block _ h.R.lt),h.M.keep (hb.block _ h.M.lt),h.X.keep fun q _ hlt=>hb.block q hlt,h.lm,h.B.trans (hb.mono h.B.size)⟩
theorem mP.put {w W:World} {lo hi d u:Nat} {M:MD} {U:MU} {cs:List Value} {bm lm:Nat} {a1 a2 a3:Value} {X:RMap} (h:mP w W lo hi d u M U cs bm lm a1 a2 a3 X) {t1 t2 t3:Value} {Y:RMap} (hY:bJ (fun q=>lm <= q /\ q≠bm) W t1 t2 t3 Y):
 mP w (((W.setCell ⟨bm,0,none⟩ t1).setCell ⟨bm,1,none⟩ t2).setCell ⟨bm,2,none⟩ t3) lo hi d u M U cs bm lm t1 t2 t3 Y:=by
 obtain⟨hk,hz⟩:=lQ (w:=W) (q:=bm) t1 t2 t3;have hl:=h.lm;refine⟨h.hle,h.U.setBox h.M hk hz,h.A.keep (hk _ (by omega)),h.R.keep (hk _ (by omega)),rx _ h.M rfl,hY.keep fun q hq _=>hk q hq.2,hl,?_⟩;exact((h.B.setCell (p:=⟨bm,0,none⟩) (by show w.heap.size <= bm;omega) _).setCell (p:=⟨bm,1,none⟩) (by show w.heap.size <= bm;omega) _).setCell (p:=⟨bm,2,none⟩) (by show w.heap.size <= bm;omega) _
theorem mP.done {w W W':World} {lo hi d u:Nat} {M M':MD} {U U':MU} {cs:List Value} {bm lm:Nat} {a1 a2 a3:Value} {X:RMap} (h:mP w W lo hi d u M U cs bm lm a1 a2 a3 X) (hU:UX W' lo d u M' U') (ho:aK (Mid lo hi) W W'):
 Blk W' (w.heap.size+1) [.slice none 0 0,.slice none 0 0,.slice none 0 0] 37 /\
 Blk (((W'.setCell ⟨w.heap.size+1,0,none⟩ a1).setCell ⟨w.heap.size+1,1,none⟩ a2).setCell ⟨w.heap.size+1,2,none⟩ a3) (w.heap.size+1) [a1,a2,a3] 37 /\
 bJ (fun q=>w.heap.size <= q) (((W'.setCell ⟨w.heap.size+1,0,none⟩ a1).setCell ⟨w.heap.size+1,1,none⟩ a2).setCell ⟨w.heap.size+1,2,none⟩ a3) a1 a2 a3 X /\
 UX (((W'.setCell ⟨w.heap.size+1,0,none⟩ a1).setCell ⟨w.heap.size+1,1,none⟩ a2).setCell ⟨w.heap.size+1,2,none⟩ a3) lo d u M' U' /\
 aK (Mid lo hi) w (((W'.setCell ⟨w.heap.size+1,0,none⟩ a1).setCell ⟨w.heap.size+1,1,none⟩ a2).setCell ⟨w.heap.size+1,2,none⟩ a3):=by
 obtain⟨hk,hz⟩:=lQ (w:=W') (q:=w.heap.size+1) a1 a2 a3;have hl:=h.lm;have hout:∀ q,w.heap.size <= q -> ¬ Mid lo hi q:=fun q hq hh=>by have:=hh.2;have:=h.hle;omega
 have hR:=h.R.keep (ho.block _ h.R.lt (hout _ (by omega)));have hX:=h.X.keep (w':=W') fun q hq hlt=>ho.block q hlt (hout q (by omega))
 refine⟨hR,rx _ hR rfl,(hX.keep fun q hq _=>hk q (by omega)).mono fun q hq _=>by omega,hU.setBox hR hk hz,?_⟩;have h1:aK (Mid lo hi) w W':=(aK.of_below (F:=Mid lo hi) h.B).trans ho fun q hq=>.inl hq
 exact((h1.setCell (p:=⟨w.heap.size+1,0,none⟩) (.inr (Nat.le_succ _)) a1).setCell (p:=⟨w.heap.size+1,1,none⟩) (.inr (Nat.le_succ _)) a2).setCell (p:=⟨w.heap.size+1,2,none⟩) (.inr (Nat.le_succ _)) a3
theorem dd {F:aV} {w w':World} (h:aP F w w') {b:Nat} (hb:b < w.heap.size) (hf:¬ F b) (i:Nat) {v:Value} (hv:w.cell? ⟨b,i,none⟩=some v):w'.cell? ⟨b,i,none⟩=some v:=by
 have hk:w'.heap[b]?=w.heap[b]?:=aK.block h b hb hf;unfold World.cell? at *;rw[hk];exact hv
theorem gw {w:World} {b:Nat} {x0 x1 x2 x3 x4 x5 x6:Value} {t:TypeId} (h:Blk w b [x0,x1,x2,x3,x4,x5,x6] t):w.cell? ⟨b,0,none⟩=some x0 /\ w.cell? ⟨b,1,none⟩=some x1 /\ w.cell? ⟨b,2,none⟩=some x2 /\ w.cell? ⟨b,3,none⟩=some x3 /\ w.cell? ⟨b,4,none⟩=some x4 /\ w.cell? ⟨b,5,none⟩=some x5 /\ w.cell? ⟨b,6,none⟩=some x6:=
 ⟨h.cell 0,h.cell 1,h.cell 2,h.cell 3,h.cell 4,h.cell 5,h.cell 6⟩
set_option maxRecDepth 100000 in
set_option maxHeartbeats 8000000 in
theorem jD (w:World) (hL:dF w) (lo hi d u:Nat) (M:MD) (U:MU) (h:UXH w lo hi d u M U) (hd:U.dev < 8) (hv:validR U.m=true) (hw:M.writes+200000 < 4611686018427387904) (A:gL) (hA:om A)
 (xk:Option Addr) (ck:Nat) (x1:Option Addr) (c1:Nat) (x2:Option Addr) (c2:Nat) (x3:Option Addr) (c3:Nat) (hR:Rows (fun q=>q < lo) w 1 (.slice xk A.keys.length ck) A.keys.length (A.keys.map Go.Proofs.encStr)) (hM:bJ (fun q=>q < lo) w (.slice x1 A.m.seen.length c1) (.slice x2 A.m.items.length c2) (.slice x3 A.m.gone.length c3) A.m):
 Calls aC 20 #[.pointer (some ⟨u,0,none⟩),.agg #[.int .u8 A.kind,.slice xk A.keys.length ck,.slice x1 A.m.seen.length c1,.slice x2 A.m.items.length c2,.slice x3 A.m.gone.length c3,.int .i64 A.n,B A.b]] w (kT w lo hi d u M U A):=by
 obtain⟨nk,hnk⟩:∃ n,A.keys.length=n:=⟨_,rfl⟩
 obtain⟨ns,hns⟩:∃ n,A.m.seen.length=n:=⟨_,rfl⟩
 obtain⟨ni,hni⟩:∃ n,A.m.items.length=n:=⟨_,rfl⟩
 obtain⟨ng,hng⟩:∃ n,A.m.gone.length=n:=⟨_,rfl⟩
 have HR:=ae (show ∀ W,Below w.heap.size w W -> Rows (fun q=>q < lo) W 1 (.slice xk nk ck) A.keys.length (A.keys.map Go.Proofs.encStr) /\ bJ (fun q=>q < lo) W (.slice x1 ns c1) (.slice x2 ni c2) (.slice x3 ng c3) A.m from fun W hW=>by
  rw[<- hnk,<- hns,<- hni,<- hng]
  exact⟨hR.keep fun q _ hlt=>hW.block q hlt,hM.keep fun q _ hlt=>hW.block q hlt⟩)
 have HL:=ae (show ∀ W,Below w.heap.size w W -> dF W from fun W hb=>hL.below hb);rw[hnk,hns,hni,hng]
 obtain⟨w2,hw2⟩:∃ w2,w2=(w.alloc (.cells #[.int .u8 A.kind,.slice xk nk ck,.slice x1 ns c1,.slice x2 ni c2,.slice x3 ng c3,.int .i64 A.n,B A.b] 39)).alloc (.cells #[.slice none 0 0,.slice none 0 0,.slice none 0 0] 37):=⟨_,rfl⟩
 have hb2:Below w.heap.size w w2:=by rw[hw2];exact(aE _ _).alloc (by simp) _
 have hz2:w2.heap.size=w.heap.size+2:=by rw[hw2];simp
 have hA2:Blk w2 w.heap.size [.int .u8 A.kind,.slice xk nk ck,.slice x1 ns c1,.slice x2 ni c2,.slice x3 ng c3,.int .i64 A.n,B A.b] 39:=by
  have:=(Blk.new w #[.int .u8 A.kind,.slice xk nk ck,.slice x1 ns c1,.slice x2 ni c2,.slice x3 ng c3,.int .i64 A.n,B A.b] 39).alloc (.cells #[.slice none 0 0,.slice none 0 0,.slice none 0 0] 37);rw[hw2];exact this
 have hR2:Blk w2 (w.heap.size+1) [.slice none 0 0,.slice none 0 0,.slice none 0 0] 37:=by
  have:=Blk.new (w.alloc (.cells #[.int .u8 A.kind,.slice xk nk ck,.slice x1 ns c1,.slice x2 ni c2,.slice x3 ng c3,.int .i64 A.n,B A.b] 39)) #[.slice none 0 0,.slice none 0 0,.slice none 0 0] 37;rw[hw2];simpa using this
 have hU2:=h.keep hb2;have Hhi:=ae (show hi <= w.heap.size from by obtain⟨jk,-,-,-,h',-⟩:=h;exact h');have HM:=ae (fs w2 lo d u M U hU2.ux hv)
 obtain⟨kk,hkk⟩:∃ kk,A.kind.tmod 8=kk:=⟨_,rfl⟩
 have h8:kk=0 \/ kk=1 \/ kk=2 \/ kk=3 \/ kk=4 \/ kk=5 \/ kk=6 \/ kk=7:=by
  have h1:=hA.kind;have:A.kind.tmod 8=A.kind % 8:=Int.tmod_eq_emod_of_nonneg h1.1;omega
 have Hd:=ae hd;have Hv:=ae hv;have Hw:=ae hw;have HA:=ae hA;have Hw2:=ae hw2;have HU2:=ae hU2;have HA2:=ae hA2;have HR2:=ae hR2;have Hb2:=ae hb2;have Hz2:=ae hz2;have Hnk:=ae hnk;have Hkk:=ae hkk;clear hR hM hL h hd hv hw hA hw2 hb2 hz2 hA2 hR2 hU2 hnk hns hni hng
 go_enter Tryz.func20,Tryz.ntmps20
 go_wp2_with fail;rw[<- Hw2.out];refine HM.out.mono ?_;rintro e w3 ⟨⟨r,rfl,ho,hbd⟩,hb3⟩;obtain⟨t1,t2,t3,rfl,ho⟩:=ho;obtain⟨a1,p1,rfl⟩:=own_shape ho.seen;obtain⟨a2,p2,rfl⟩:=own_shape ho.items;obtain⟨a3,p3,rfl⟩:=own_shape ho.gone;have HD:=ae (gP w3 lo d u M U (HU2.out.keep hb3).ux);have Ho:=ae ho;have Hbd:=ae hbd;have Hb3:=ae hb3;clear HM ho hbd hb3;go_wp2_with fail;refine HD.out.mono ?_;rintro e w3' ⟨rfl,rfl⟩;clear HD
 obtain⟨m,hm⟩:∃ m,U.m=m:=⟨_,rfl⟩
 obtain⟨dv,hdv⟩:∃ d,U.dev=d:=⟨_,rfl⟩
 rw[hm] at Ho Hbd ⊢;rw[hdv]
 obtain⟨w4,hw4⟩:∃ w4,w4=w3.alloc (.cells #[.slice a1 m.seen.length p1,.slice a2 m.items.length p2,.slice a3 m.gone.length p3] 37):=⟨_,rfl⟩
 have hb4:Below w3.heap.size w3 w4:=by rw[hw4];exact aE _ _
 have hb24:Below w2.heap.size w2 w4:=Hb3.out.trans (hb4.mono Hb3.out.size)
 obtain⟨bm,hbm⟩:∃ b,b=w3.heap.size:=⟨_,rfl⟩
 have hM4:Blk w4 bm [.slice a1 m.seen.length p1,.slice a2 m.items.length p2,.slice a3 m.gone.length p3] 37:=by rw[hw4,hbm];exact Blk.new _ _ _
 have hrow:bJ (fun q=>w2.heap.size <= q /\ q≠bm) w4 (.slice a1 m.seen.length p1) (.slice a2 m.items.length p2) (.slice a3 m.gone.length p3) m:=
  ((Ho.out.map Hbd.out).mono (G:=fun q=>w2.heap.size <= q /\ q≠bm) fun q hq hlt=>⟨hq,by omega⟩).keep fun q hq hlt=>hb4.block q hlt
 have hP4:mP w w4 lo hi d u M U _ bm w2.heap.size _ _ _ m:=⟨Hhi.out,HU2.out.keep hb24,HA2.out.keep (hb24.block _ HA2.out.lt),HR2.out.keep (hb24.block _ HR2.out.lt),hM4,hrow,⟨by have:=Hz2.out;omega,by have:=Hb3.out.size;omega⟩,Hb2.out.trans (hb24.mono Hb2.out.size)⟩
 obtain⟨ca0,ca1,ca2,ca3,ca4,-,-⟩:=gw (HA2.out.keep (Hb3.out.block _ HA2.out.lt));have hna:=aw HA2.out.lt Hb3.out.size;have hna':w.heap.size < bm:=by rw[hbm];exact hna
 have HW4:=ae (show w2.heap.size <= w4.heap.size /\ bm < w4.heap.size from ⟨hb24.size,hM4.lt⟩);have HP4:=ae hP4;have Hw4:=ae hw4;have Hm:=ae hm;have Hdv:=ae hdv;have Hbm:=ae hbm;clear hP4 hw4 hb4 hb24 hM4 hrow hm hdv;have hbm':w3.heap.size=bm:=hbm.symm;clear hbm;have vm:validR m=true:=by rw[<- Hm.out];exact Hv.out
 have hkm:=b9 vm;have hlm:=valid_lens vm;have Hlm:=ae hlm;have Hkmm:=ae hkm;clear vm hkm hlm;have hsel:(kk=0 \/ kk=1 \/ kk=2) \/ kk=3 \/ kk=4 \/ kk=5 \/ kk=6 \/ kk=7:=by omega
 clear h8;rcases hsel with hsel | rfl | rfl | hsel
 ·have hle:=ae (show kk <= 2 by omega);have HactC:=ae (show fM M U A=cq M U A.keys by unfold fM;rw[Hkk.out];exact if_pos hle.out);have HactA:=ae (show eX U A=eV m (useR m dv A.keys) A.keys by unfold eX;rw[Hkk.out,Hm.out,Hdv.out];exact if_pos hle.out);clear hle;have hUse:=puse_any w4 (HL.out w4 HP4.out.B).2.1 (HL.out w4 HP4.out.B).2.2 _ (.agg #[.slice a1 m.seen.length p1,.slice a2 m.items.length p2,.slice a3 m.gone.length p3]) m ⟨_,_,_,rfl,HP4.out.X⟩ Hkmm.out.1 Hkmm.out.2 (by have:=Hlm.out;omega) (by have:=Hlm.out;omega) (dv:Int) _ (.slice xk nk ck) A.keys (HR.out w4 HP4.out.B).1 (by have:=HA.out.keys;omega) (fun k hk=>by have:=HA.out.klen k hk;omega)
  obtain⟨RR,hRR⟩:∃ r,useR m dv A.keys=r:=⟨_,rfl⟩
  rw[hRR] at hUse;obtain⟨x,er⟩:=RR;have HUse:=ae hUse;have HRR:=ae hRR;clear hUse hRR;rcases hsel with rfl | rfl | rfl
  all_goals
   go_wp2_with fail;rw[<- Hw4.out];refine HUse.out.mono ?_;rintro e w5 ⟨⟨r1,rfl,ho5,hbd5⟩,hb5⟩;clear ca0 ca1 ca2 ca3 ca4 HUse hbm' hna hna';obtain⟨u1,u2,u3,rfl,ho5⟩:=ho5;obtain⟨n1,m1,rfl⟩:=own_shape ho5.seen;obtain⟨n2,m2,rfl⟩:=own_shape ho5.items;obtain⟨n3,m3,rfl⟩:=own_shape ho5.gone;have hP5:=HP4.out.keep hb5;obtain⟨-,ca1,-,-,-,-,-⟩:=gw hP5.A;have hna:=hP5.A.lt;have f0:=hP5.M.free 0;have f1:=hP5.M.free 1;have f2:=hP5.M.free 2;obtain⟨cm0,cm1,cm2⟩:=cell3 hP5.M;have hbml:=hP5.M.lt;have hY:bJ (fun q=>w2.heap.size <= q /\ q≠bm) w5 (.slice n1 x.seen.length m1) (.slice n2 x.items.length m2) (.slice n3 x.gone.length m3) x:=(ho5.map hbd5).mono fun q hq _=>by have:=HW4.out;omega
   obtain⟨w6,hw6⟩:∃ q,q=w5.alloc (.cells #[.slice n1 x.seen.length m1,.slice n2 x.items.length m2,.slice n3 x.gone.length m3] 37):=⟨_,rfl⟩
   have hP6:=hP5.keep (aE w5 (.cells #[.slice n1 x.seen.length m1,.slice n2 x.items.length m2,.slice n3 x.gone.length m3] 37));rw[<- hw6] at hP6
   obtain⟨w7,hw7⟩:∃ q,q=(((w5.setCell ⟨bm,0,none⟩ (.slice n1 x.seen.length m1)).setCell ⟨bm,1,none⟩ (.slice n2 x.items.length m2)).setCell ⟨bm,2,none⟩ (.slice n3 x.gone.length m3)).alloc (.cells #[.slice n1 x.seen.length m1,.slice n2 x.items.length m2,.slice n3 x.gone.length m3] 37):=⟨_,rfl⟩
   have hP7:=(hP5.put hY).keep (aE _ (.cells #[.slice n1 x.seen.length m1,.slice n2 x.items.length m2,.slice n3 x.gone.length m3] 37));rw[<- hw7] at hP7;have HP7:=ae hP7;have Hw7:=ae hw7;clear hP5 ho5 hbd5 hb5 hY hP7 hw7;have HP6:=ae hP6;have Hw6:=ae hw6;clear hP6 hw6
   by_cases he:er=0
   ·subst he
    by_cases hk0:0 < nk
    ·have hk0I:(0:Int) < (nk:Int):=by omega
     have hne:A.keys≠[]:=fun e=>by rw[e] at Hnk;have:=Hnk.out;simp at this;omega
     have HactL:=ae (show eX U A=x by rw[HactA.out,HRR.out];exact if_pos ⟨rfl,hne⟩);clear hne
     obtain⟨wd,hwd⟩:∃ q,q=w7.drew:=⟨_,rfl⟩
     have hbd:Below w7.heap.size w7 wd:=by rw[hwd];exact(Below.refl w7.heap.size w7).drew
     have hPd:=HP7.out.keep hbd;have hLr:=mO wd (HL.out wd hPd.B) lo hi d u M U hPd.U Hd.out Hv.out _ (.slice xk nk ck) A.keys (HR.out wd hPd.B).1 (by have:=HA.out.keys;omega) (fun k hk=>by have:=HA.out.klen k hk;omega) Hw.out;obtain⟨ca0,ca1,ca2,ca3,ca4,-,-⟩:=gw hPd.A;obtain⟨cm0,cm1,cm2⟩:=cell3 hPd.M;have hol:∀ q,w.heap.size <= q -> ¬ Mid lo hi q:=fun q hq hh=>by have:=hh.2;have:=hPd.hle;omega
     have hbml:w.heap.size <= bm:=by have:=hPd.lm;omega
     have pz:∀ b i x,w.heap.size <= b -> wd.cell? ⟨b,i,none⟩=some x -> ∀ w',aP (Mid lo hi) wd w' -> w'.cell? ⟨b,i,none⟩=some x:=fun b i x hb hc w' hh=>dd hh (cellLt hc) (hol b hb) i hc
     have pa1:=pz _ _ _ (aq _) ca1;have pa2:=pz _ _ _ (aq _) ca2;have pa3:=pz _ _ _ (aq _) ca3;have pa4:=pz _ _ _ (aq _) ca4;have pm0:=pz _ _ _ hbml cm0;have pm1:=pz _ _ _ hbml cm1;have pm2:=pz _ _ _ hbml cm2;have HLr:=ae hLr;have Hwd:=ae hwd;have HPd:=ae hPd;clear hLr hwd hbd hPd ca0 ca1 ca2 ca3 ca4 cm0 cm1 cm2 hol hbml pz;go_wp2_with fail;rw[<- Hw7.out];refine bh (aP (Mid lo hi)) 6 [(0,true),(1,true),(2,true),(4,true),(3,false),(5,true),(6,false)] (by kernel_rfl) (by kernel_rfl) (by kernel_rfl) (bH _) (bG _) ?_;rw[<- Hwd.out]
     repeat (refine aX (v:=?_) rfl (aD rfl) (fun w' hC=>?_) (fun K hK=>?_);rotate_left;(focus (go_simp;first | done | exact rfl));go_simp;refine hK _ ?_;clear hK K)
     clear pa1 pa2 pa3 pa4 pm0 pm1 pm2;refine bS rfl rfl (fun KK hK=>?_);go_simp;refine HLr.out.mono ?_;rintro e w8 ⟨rfl,hU8,ho8⟩;obtain⟨hR8,hR9,hX9,hU9,ho9⟩:=HPd.out.done hU8 ho8;refine⟨_,rfl,ho8,hK _ _ ?_⟩;clear hK KK HLr;go_simp;obtain⟨y0,y1,y2⟩:=cell3 hR8;have z0:=hR8.free 0;have z1:=hR8.free 1;have z2:=hR8.free 2
     obtain⟨w9,hw9⟩:∃ w9,w9=((w8.setCell ⟨w.heap.size+1,0,none⟩ (.slice n1 x.seen.length m1)).setCell ⟨w.heap.size+1,1,none⟩ (.slice n2 x.items.length m2)).setCell ⟨w.heap.size+1,2,none⟩ (.slice n3 x.gone.length m3):=⟨_,rfl⟩
     rw[<- hw9] at hR9 hX9 hU9 ho9;have Q:=ae (cell3 hR9);have HX9:=ae hX9;have HU9:=ae hU9;have Ho9:=ae ho9;have Hw9:=ae hw9;clear hU8 ho8 hR8 hR9 hX9 hU9 ho9 hw9
     repeat (refine aX (v:=?_) rfl (aD rfl) (fun w' hC=>?_) (fun K hK=>?_);rotate_left;(focus (go_simp;first | done | exact rfl));go_simp;refine hK _ ?_;clear hK K)
     refine bK rfl rfl rfl (fun KK hK=>?_);go_simp;rw[<- Hw9.out];refine hK _ _ ?_;clear hK KK y0 y1 y2 z0 z1 z2;go_simp
     repeat (refine aX (v:=?_) rfl (aD rfl) (fun w' hC=>?_) (fun K hK=>?_);rotate_left;(focus (go_simp;first | done | exact rfl));go_simp;refine hK _ ?_;clear hK K)
     refine bR ?_;go_wp2_with fail;obtain⟨q0,q1,q2⟩:=Q.out;exact bodyPost_ret (v:=.tuple #[.int .i64 (cq M U A.keys).2.2,.agg #[(.slice n1 x.seen.length m1),(.slice n2 x.items.length m2),(.slice n3 x.gone.length m3)]]) (by simp[results,Tryz.results20,go_sem,q0,q1,q2]) rfl ⟨_,_,_,by rw[HactC.out],by rw[HactL.out];exact HX9.out,by rw[HactC.out];exact HU9.out,Ho9.out⟩
    ·obtain rfl:nk=0:=by omega
     have hne:A.keys = []:=List.length_eq_zero_iff.1 Hnk.out;have HactL:=ae (show eX U A=m by rw[HactA.out];exact if_neg fun hh=>hh.2 hne);clear hne hk0
     obtain⟨wd,hwd⟩:∃ q,q=w6.drew:=⟨_,rfl⟩
     have hbd:Below w6.heap.size w6 wd:=by rw[hwd];exact(Below.refl w6.heap.size w6).drew
     have hPd:=HP6.out.keep hbd;have hLr:=mO wd (HL.out wd hPd.B) lo hi d u M U hPd.U Hd.out Hv.out _ (.slice xk 0 ck) A.keys (HR.out wd hPd.B).1 (by have:=HA.out.keys;omega) (fun k hk=>by have:=HA.out.klen k hk;omega) Hw.out;obtain⟨ca0,ca1,ca2,ca3,ca4,-,-⟩:=gw hPd.A;obtain⟨cm0,cm1,cm2⟩:=cell3 hPd.M;have hol:∀ q,w.heap.size <= q -> ¬ Mid lo hi q:=fun q hq hh=>by have:=hh.2;have:=hPd.hle;omega
     have hbml:w.heap.size <= bm:=by have:=hPd.lm;omega
     have pz:∀ b i x,w.heap.size <= b -> wd.cell? ⟨b,i,none⟩=some x -> ∀ w',aP (Mid lo hi) wd w' -> w'.cell? ⟨b,i,none⟩=some x:=fun b i x hb hc w' hh=>dd hh (cellLt hc) (hol b hb) i hc
     have pa1:=pz _ _ _ (aq _) ca1;have pa2:=pz _ _ _ (aq _) ca2;have pa3:=pz _ _ _ (aq _) ca3;have pa4:=pz _ _ _ (aq _) ca4;have pm0:=pz _ _ _ hbml cm0;have pm1:=pz _ _ _ hbml cm1;have pm2:=pz _ _ _ hbml cm2;have HLr:=ae hLr;have Hwd:=ae hwd;have HPd:=ae hPd;clear hLr hwd hbd hPd ca0 ca1 ca2 ca3 ca4 cm0 cm1 cm2 hol hbml pz;go_wp2_with fail;rw[<- Hw6.out];refine bh (aP (Mid lo hi)) 6 [(0,true),(1,true),(2,true),(4,true),(3,false),(5,true),(6,false)] (by kernel_rfl) (by kernel_rfl) (by kernel_rfl) (bH _) (bG _) ?_;rw[<- Hwd.out]
     repeat (refine aX (v:=?_) rfl (aD rfl) (fun w' hC=>?_) (fun K hK=>?_);rotate_left;(focus (go_simp;first | done | exact rfl));go_simp;refine hK _ ?_;clear hK K)
     clear pa1 pa2 pa3 pa4 pm0 pm1 pm2;refine bS rfl rfl (fun KK hK=>?_);go_simp;refine HLr.out.mono ?_;rintro e w8 ⟨rfl,hU8,ho8⟩;obtain⟨hR8,hR9,hX9,hU9,ho9⟩:=HPd.out.done hU8 ho8;refine⟨_,rfl,ho8,hK _ _ ?_⟩;clear hK KK HLr;go_simp;obtain⟨y0,y1,y2⟩:=cell3 hR8;have z0:=hR8.free 0;have z1:=hR8.free 1;have z2:=hR8.free 2
     obtain⟨w9,hw9⟩:∃ w9,w9=((w8.setCell ⟨w.heap.size+1,0,none⟩ (.slice a1 m.seen.length p1)).setCell ⟨w.heap.size+1,1,none⟩ (.slice a2 m.items.length p2)).setCell ⟨w.heap.size+1,2,none⟩ (.slice a3 m.gone.length p3):=⟨_,rfl⟩
     rw[<- hw9] at hR9 hX9 hU9 ho9;have Q:=ae (cell3 hR9);have HX9:=ae hX9;have HU9:=ae hU9;have Ho9:=ae ho9;have Hw9:=ae hw9;clear hU8 ho8 hR8 hR9 hX9 hU9 ho9 hw9
     repeat (refine aX (v:=?_) rfl (aD rfl) (fun w' hC=>?_) (fun K hK=>?_);rotate_left;(focus (go_simp;first | done | exact rfl));go_simp;refine hK _ ?_;clear hK K)
     refine bK rfl rfl rfl (fun KK hK=>?_);go_simp;rw[<- Hw9.out];refine hK _ _ ?_;clear hK KK y0 y1 y2 z0 z1 z2;go_simp
     repeat (refine aX (v:=?_) rfl (aD rfl) (fun w' hC=>?_) (fun K hK=>?_);rotate_left;(focus (go_simp;first | done | exact rfl));go_simp;refine hK _ ?_;clear hK K)
     refine bR ?_;go_wp2_with fail;obtain⟨q0,q1,q2⟩:=Q.out;exact bodyPost_ret (v:=.tuple #[.int .i64 (cq M U A.keys).2.2,.agg #[(.slice a1 m.seen.length p1),(.slice a2 m.items.length p2),(.slice a3 m.gone.length p3)]]) (by simp[results,Tryz.results20,go_sem,q0,q1,q2]) rfl ⟨_,_,_,by rw[HactC.out],by rw[HactL.out];exact HX9.out,by rw[HactC.out];exact HU9.out,Ho9.out⟩
   ·have heI:¬ er=0:=he;have HactL:=ae (show eX U A=m by rw[HactA.out,HRR.out];exact if_neg fun hh=>he hh.1);clear he
    obtain⟨wd,hwd⟩:∃ q,q=w6.drew:=⟨_,rfl⟩
    have hbd:Below w6.heap.size w6 wd:=by rw[hwd];exact(Below.refl w6.heap.size w6).drew
    have hPd:=HP6.out.keep hbd;have hLr:=mO wd (HL.out wd hPd.B) lo hi d u M U hPd.U Hd.out Hv.out _ (.slice xk nk ck) A.keys (HR.out wd hPd.B).1 (by have:=HA.out.keys;omega) (fun k hk=>by have:=HA.out.klen k hk;omega) Hw.out;obtain⟨ca0,ca1,ca2,ca3,ca4,-,-⟩:=gw hPd.A;obtain⟨cm0,cm1,cm2⟩:=cell3 hPd.M;have hol:∀ q,w.heap.size <= q -> ¬ Mid lo hi q:=fun q hq hh=>by have:=hh.2;have:=hPd.hle;omega
    have hbml:w.heap.size <= bm:=by have:=hPd.lm;omega
    have pz:∀ b i x,w.heap.size <= b -> wd.cell? ⟨b,i,none⟩=some x -> ∀ w',aP (Mid lo hi) wd w' -> w'.cell? ⟨b,i,none⟩=some x:=fun b i x hb hc w' hh=>dd hh (cellLt hc) (hol b hb) i hc
    have pa1:=pz _ _ _ (aq _) ca1;have pa2:=pz _ _ _ (aq _) ca2;have pa3:=pz _ _ _ (aq _) ca3;have pa4:=pz _ _ _ (aq _) ca4;have pm0:=pz _ _ _ hbml cm0;have pm1:=pz _ _ _ hbml cm1;have pm2:=pz _ _ _ hbml cm2;have HLr:=ae hLr;have Hwd:=ae hwd;have HPd:=ae hPd;clear hLr hwd hbd hPd ca0 ca1 ca2 ca3 ca4 cm0 cm1 cm2 hol hbml pz;go_wp2_with fail;rw[<- Hw6.out];refine bh (aP (Mid lo hi)) 6 [(0,true),(1,true),(2,true),(4,true),(3,false),(5,true),(6,false)] (by kernel_rfl) (by kernel_rfl) (by kernel_rfl) (bH _) (bG _) ?_;rw[<- Hwd.out]
    repeat (refine aX (v:=?_) rfl (aD rfl) (fun w' hC=>?_) (fun K hK=>?_);rotate_left;(focus (go_simp;first | done | exact rfl));go_simp;refine hK _ ?_;clear hK K)
    clear pa1 pa2 pa3 pa4 pm0 pm1 pm2;refine bS rfl rfl (fun KK hK=>?_);go_simp;refine HLr.out.mono ?_;rintro e w8 ⟨rfl,hU8,ho8⟩;obtain⟨hR8,hR9,hX9,hU9,ho9⟩:=HPd.out.done hU8 ho8;refine⟨_,rfl,ho8,hK _ _ ?_⟩;clear hK KK HLr;go_simp;obtain⟨y0,y1,y2⟩:=cell3 hR8;have z0:=hR8.free 0;have z1:=hR8.free 1;have z2:=hR8.free 2
    obtain⟨w9,hw9⟩:∃ w9,w9=((w8.setCell ⟨w.heap.size+1,0,none⟩ (.slice a1 m.seen.length p1)).setCell ⟨w.heap.size+1,1,none⟩ (.slice a2 m.items.length p2)).setCell ⟨w.heap.size+1,2,none⟩ (.slice a3 m.gone.length p3):=⟨_,rfl⟩
    rw[<- hw9] at hR9 hX9 hU9 ho9;have Q:=ae (cell3 hR9);have HX9:=ae hX9;have HU9:=ae hU9;have Ho9:=ae ho9;have Hw9:=ae hw9;clear hU8 ho8 hR8 hR9 hX9 hU9 ho9 hw9
    repeat (refine aX (v:=?_) rfl (aD rfl) (fun w' hC=>?_) (fun K hK=>?_);rotate_left;(focus (go_simp;first | done | exact rfl));go_simp;refine hK _ ?_;clear hK K)
    refine bK rfl rfl rfl (fun KK hK=>?_);go_simp;rw[<- Hw9.out];refine hK _ _ ?_;clear hK KK y0 y1 y2 z0 z1 z2;go_simp
    repeat (refine aX (v:=?_) rfl (aD rfl) (fun w' hC=>?_) (fun K hK=>?_);rotate_left;(focus (go_simp;first | done | exact rfl));go_simp;refine hK _ ?_;clear hK K)
    refine bR ?_;go_wp2_with fail;obtain⟨q0,q1,q2⟩:=Q.out;exact bodyPost_ret (v:=.tuple #[.int .i64 (cq M U A.keys).2.2,.agg #[(.slice a1 m.seen.length p1),(.slice a2 m.items.length p2),(.slice a3 m.gone.length p3)]]) (by simp[results,Tryz.results20,go_sem,q0,q1,q2]) rfl ⟨_,_,_,by rw[HactC.out],by rw[HactL.out];exact HX9.out,by rw[HactC.out];exact HU9.out,Ho9.out⟩
 ·have HactC:=ae (show fM M U A=du M U A.keys by unfold fM;rw[Hkk.out];rfl);have HactA:=ae (show eX U A=eV m (forgetR m dv A.keys) A.keys by unfold eX;rw[Hkk.out,Hm.out,Hdv.out];rfl);have hUse:=gO w4 (HL.out w4 HP4.out.B).2.1 (HL.out w4 HP4.out.B).2.2 _ (.agg #[.slice a1 m.seen.length p1,.slice a2 m.items.length p2,.slice a3 m.gone.length p3]) m ⟨_,_,_,rfl,HP4.out.X⟩ Hkmm.out.1 Hkmm.out.2 (by have:=Hlm.out;omega) (by have:=Hlm.out;omega) (dv:Int) _ (.slice xk nk ck) A.keys (HR.out w4 HP4.out.B).1 (by have:=HA.out.keys;omega) (fun k hk=>by have:=HA.out.klen k hk;omega)
  obtain⟨RR,hRR⟩:∃ r,forgetR m dv A.keys=r:=⟨_,rfl⟩
  rw[hRR] at hUse;obtain⟨x,er⟩:=RR;have HUse:=ae hUse;have HRR:=ae hRR;clear hUse hRR
  skip
  all_goals
   go_wp2_with fail;rw[<- Hw4.out];refine HUse.out.mono ?_;rintro e w5 ⟨⟨r1,rfl,ho5,hbd5⟩,hb5⟩;clear ca0 ca1 ca2 ca3 ca4 HUse hbm' hna hna';obtain⟨u1,u2,u3,rfl,ho5⟩:=ho5;obtain⟨n1,m1,rfl⟩:=own_shape ho5.seen;obtain⟨n2,m2,rfl⟩:=own_shape ho5.items;obtain⟨n3,m3,rfl⟩:=own_shape ho5.gone;have hP5:=HP4.out.keep hb5;obtain⟨-,ca1,-,-,-,-,-⟩:=gw hP5.A;have hna:=hP5.A.lt;have f0:=hP5.M.free 0;have f1:=hP5.M.free 1;have f2:=hP5.M.free 2;obtain⟨cm0,cm1,cm2⟩:=cell3 hP5.M;have hbml:=hP5.M.lt;have hY:bJ (fun q=>w2.heap.size <= q /\ q≠bm) w5 (.slice n1 x.seen.length m1) (.slice n2 x.items.length m2) (.slice n3 x.gone.length m3) x:=(ho5.map hbd5).mono fun q hq _=>by have:=HW4.out;omega
   obtain⟨w6,hw6⟩:∃ q,q=w5.alloc (.cells #[.slice n1 x.seen.length m1,.slice n2 x.items.length m2,.slice n3 x.gone.length m3] 37):=⟨_,rfl⟩
   have hP6:=hP5.keep (aE w5 (.cells #[.slice n1 x.seen.length m1,.slice n2 x.items.length m2,.slice n3 x.gone.length m3] 37));rw[<- hw6] at hP6
   obtain⟨w7,hw7⟩:∃ q,q=(((w5.setCell ⟨bm,0,none⟩ (.slice n1 x.seen.length m1)).setCell ⟨bm,1,none⟩ (.slice n2 x.items.length m2)).setCell ⟨bm,2,none⟩ (.slice n3 x.gone.length m3)).alloc (.cells #[.slice n1 x.seen.length m1,.slice n2 x.items.length m2,.slice n3 x.gone.length m3] 37):=⟨_,rfl⟩
   have hP7:=(hP5.put hY).keep (aE _ (.cells #[.slice n1 x.seen.length m1,.slice n2 x.items.length m2,.slice n3 x.gone.length m3] 37));rw[<- hw7] at hP7;have HP7:=ae hP7;have Hw7:=ae hw7;clear hP5 ho5 hbd5 hb5 hY hP7 hw7;have HP6:=ae hP6;have Hw6:=ae hw6;clear hP6 hw6
   by_cases he:er=0
   ·subst he
    by_cases hk0:0 < nk
    ·have hk0I:(0:Int) < (nk:Int):=by omega
     have hne:A.keys≠[]:=fun e=>by rw[e] at Hnk;have:=Hnk.out;simp at this;omega
     have HactL:=ae (show eX U A=x by rw[HactA.out,HRR.out];exact if_pos ⟨rfl,hne⟩);clear hne
     obtain⟨wd,hwd⟩:∃ q,q=w7.drew:=⟨_,rfl⟩
     have hbd:Below w7.heap.size w7 wd:=by rw[hwd];exact(Below.refl w7.heap.size w7).drew
     have hPd:=HP7.out.keep hbd;have hLr:=pG wd (HL.out wd hPd.B) lo hi d u M U hPd.U Hd.out Hv.out _ (.slice xk nk ck) A.keys (HR.out wd hPd.B).1 (by have:=HA.out.keys;omega) (fun k hk=>by have:=HA.out.klen k hk;omega) Hw.out;obtain⟨ca0,ca1,ca2,ca3,ca4,-,-⟩:=gw hPd.A;obtain⟨cm0,cm1,cm2⟩:=cell3 hPd.M;have hol:∀ q,w.heap.size <= q -> ¬ Mid lo hi q:=fun q hq hh=>by have:=hh.2;have:=hPd.hle;omega
     have hbml:w.heap.size <= bm:=by have:=hPd.lm;omega
     have pz:∀ b i x,w.heap.size <= b -> wd.cell? ⟨b,i,none⟩=some x -> ∀ w',aP (Mid lo hi) wd w' -> w'.cell? ⟨b,i,none⟩=some x:=fun b i x hb hc w' hh=>dd hh (cellLt hc) (hol b hb) i hc
     have pa1:=pz _ _ _ (aq _) ca1;have pa2:=pz _ _ _ (aq _) ca2;have pa3:=pz _ _ _ (aq _) ca3;have pa4:=pz _ _ _ (aq _) ca4;have pm0:=pz _ _ _ hbml cm0;have pm1:=pz _ _ _ hbml cm1;have pm2:=pz _ _ _ hbml cm2;have HLr:=ae hLr;have Hwd:=ae hwd;have HPd:=ae hPd;clear hLr hwd hbd hPd ca0 ca1 ca2 ca3 ca4 cm0 cm1 cm2 hol hbml pz;go_wp2_with fail;rw[<- Hw7.out];refine bh (aP (Mid lo hi)) 6 [(0,true),(1,true),(2,true),(4,true),(3,false),(5,true),(6,false)] (by kernel_rfl) (by kernel_rfl) (by kernel_rfl) (bH _) (bG _) ?_;rw[<- Hwd.out]
     repeat (refine aX (v:=?_) rfl (aD rfl) (fun w' hC=>?_) (fun K hK=>?_);rotate_left;(focus (go_simp;first | done | exact rfl));go_simp;refine hK _ ?_;clear hK K)
     clear pa1 pa2 pa3 pa4 pm0 pm1 pm2;refine bS rfl rfl (fun KK hK=>?_);go_simp;refine HLr.out.mono ?_;rintro e w8 ⟨rfl,hU8,ho8⟩;obtain⟨hR8,hR9,hX9,hU9,ho9⟩:=HPd.out.done hU8 ho8;refine⟨_,rfl,ho8,hK _ _ ?_⟩;clear hK KK HLr;go_simp;obtain⟨y0,y1,y2⟩:=cell3 hR8;have z0:=hR8.free 0;have z1:=hR8.free 1;have z2:=hR8.free 2
     obtain⟨w9,hw9⟩:∃ w9,w9=((w8.setCell ⟨w.heap.size+1,0,none⟩ (.slice n1 x.seen.length m1)).setCell ⟨w.heap.size+1,1,none⟩ (.slice n2 x.items.length m2)).setCell ⟨w.heap.size+1,2,none⟩ (.slice n3 x.gone.length m3):=⟨_,rfl⟩
     rw[<- hw9] at hR9 hX9 hU9 ho9;have Q:=ae (cell3 hR9);have HX9:=ae hX9;have HU9:=ae hU9;have Ho9:=ae ho9;have Hw9:=ae hw9;clear hU8 ho8 hR8 hR9 hX9 hU9 ho9 hw9
     repeat (refine aX (v:=?_) rfl (aD rfl) (fun w' hC=>?_) (fun K hK=>?_);rotate_left;(focus (go_simp;first | done | exact rfl));go_simp;refine hK _ ?_;clear hK K)
     refine bK rfl rfl rfl (fun KK hK=>?_);go_simp;rw[<- Hw9.out];refine hK _ _ ?_;clear hK KK y0 y1 y2 z0 z1 z2;go_simp
     repeat (refine aX (v:=?_) rfl (aD rfl) (fun w' hC=>?_) (fun K hK=>?_);rotate_left;(focus (go_simp;first | done | exact rfl));go_simp;refine hK _ ?_;clear hK K)
     refine bR ?_;go_wp2_with fail;obtain⟨q0,q1,q2⟩:=Q.out;exact bodyPost_ret (v:=.tuple #[.int .i64 (du M U A.keys).2.2,.agg #[(.slice n1 x.seen.length m1),(.slice n2 x.items.length m2),(.slice n3 x.gone.length m3)]]) (by simp[results,Tryz.results20,go_sem,q0,q1,q2]) rfl ⟨_,_,_,by rw[HactC.out],by rw[HactL.out];exact HX9.out,by rw[HactC.out];exact HU9.out,Ho9.out⟩
    ·obtain rfl:nk=0:=by omega
     have hne:A.keys = []:=List.length_eq_zero_iff.1 Hnk.out;have HactL:=ae (show eX U A=m by rw[HactA.out];exact if_neg fun hh=>hh.2 hne);clear hne hk0
     obtain⟨wd,hwd⟩:∃ q,q=w6.drew:=⟨_,rfl⟩
     have hbd:Below w6.heap.size w6 wd:=by rw[hwd];exact(Below.refl w6.heap.size w6).drew
     have hPd:=HP6.out.keep hbd;have hLr:=pG wd (HL.out wd hPd.B) lo hi d u M U hPd.U Hd.out Hv.out _ (.slice xk 0 ck) A.keys (HR.out wd hPd.B).1 (by have:=HA.out.keys;omega) (fun k hk=>by have:=HA.out.klen k hk;omega) Hw.out;obtain⟨ca0,ca1,ca2,ca3,ca4,-,-⟩:=gw hPd.A;obtain⟨cm0,cm1,cm2⟩:=cell3 hPd.M;have hol:∀ q,w.heap.size <= q -> ¬ Mid lo hi q:=fun q hq hh=>by have:=hh.2;have:=hPd.hle;omega
     have hbml:w.heap.size <= bm:=by have:=hPd.lm;omega
     have pz:∀ b i x,w.heap.size <= b -> wd.cell? ⟨b,i,none⟩=some x -> ∀ w',aP (Mid lo hi) wd w' -> w'.cell? ⟨b,i,none⟩=some x:=fun b i x hb hc w' hh=>dd hh (cellLt hc) (hol b hb) i hc
     have pa1:=pz _ _ _ (aq _) ca1;have pa2:=pz _ _ _ (aq _) ca2;have pa3:=pz _ _ _ (aq _) ca3;have pa4:=pz _ _ _ (aq _) ca4;have pm0:=pz _ _ _ hbml cm0;have pm1:=pz _ _ _ hbml cm1;have pm2:=pz _ _ _ hbml cm2;have HLr:=ae hLr;have Hwd:=ae hwd;have HPd:=ae hPd;clear hLr hwd hbd hPd ca0 ca1 ca2 ca3 ca4 cm0 cm1 cm2 hol hbml pz;go_wp2_with fail;rw[<- Hw6.out];refine bh (aP (Mid lo hi)) 6 [(0,true),(1,true),(2,true),(4,true),(3,false),(5,true),(6,false)] (by kernel_rfl) (by kernel_rfl) (by kernel_rfl) (bH _) (bG _) ?_;rw[<- Hwd.out]
     repeat (refine aX (v:=?_) rfl (aD rfl) (fun w' hC=>?_) (fun K hK=>?_);rotate_left;(focus (go_simp;first | done | exact rfl));go_simp;refine hK _ ?_;clear hK K)
     clear pa1 pa2 pa3 pa4 pm0 pm1 pm2;refine bS rfl rfl (fun KK hK=>?_);go_simp;refine HLr.out.mono ?_;rintro e w8 ⟨rfl,hU8,ho8⟩;obtain⟨hR8,hR9,hX9,hU9,ho9⟩:=HPd.out.done hU8 ho8;refine⟨_,rfl,ho8,hK _ _ ?_⟩;clear hK KK HLr;go_simp;obtain⟨y0,y1,y2⟩:=cell3 hR8;have z0:=hR8.free 0;have z1:=hR8.free 1;have z2:=hR8.free 2
     obtain⟨w9,hw9⟩:∃ w9,w9=((w8.setCell ⟨w.heap.size+1,0,none⟩ (.slice a1 m.seen.length p1)).setCell ⟨w.heap.size+1,1,none⟩ (.slice a2 m.items.length p2)).setCell ⟨w.heap.size+1,2,none⟩ (.slice a3 m.gone.length p3):=⟨_,rfl⟩
     rw[<- hw9] at hR9 hX9 hU9 ho9;have Q:=ae (cell3 hR9);have HX9:=ae hX9;have HU9:=ae hU9;have Ho9:=ae ho9;have Hw9:=ae hw9;clear hU8 ho8 hR8 hR9 hX9 hU9 ho9 hw9
     repeat (refine aX (v:=?_) rfl (aD rfl) (fun w' hC=>?_) (fun K hK=>?_);rotate_left;(focus (go_simp;first | done | exact rfl));go_simp;refine hK _ ?_;clear hK K)
     refine bK rfl rfl rfl (fun KK hK=>?_);go_simp;rw[<- Hw9.out];refine hK _ _ ?_;clear hK KK y0 y1 y2 z0 z1 z2;go_simp
     repeat (refine aX (v:=?_) rfl (aD rfl) (fun w' hC=>?_) (fun K hK=>?_);rotate_left;(focus (go_simp;first | done | exact rfl));go_simp;refine hK _ ?_;clear hK K)
     refine bR ?_;go_wp2_with fail;obtain⟨q0,q1,q2⟩:=Q.out;exact bodyPost_ret (v:=.tuple #[.int .i64 (du M U A.keys).2.2,.agg #[(.slice a1 m.seen.length p1),(.slice a2 m.items.length p2),(.slice a3 m.gone.length p3)]]) (by simp[results,Tryz.results20,go_sem,q0,q1,q2]) rfl ⟨_,_,_,by rw[HactC.out],by rw[HactL.out];exact HX9.out,by rw[HactC.out];exact HU9.out,Ho9.out⟩
   ·have heI:¬ er=0:=he;have HactL:=ae (show eX U A=m by rw[HactA.out,HRR.out];exact if_neg fun hh=>he hh.1);clear he
    obtain⟨wd,hwd⟩:∃ q,q=w6.drew:=⟨_,rfl⟩
    have hbd:Below w6.heap.size w6 wd:=by rw[hwd];exact(Below.refl w6.heap.size w6).drew
    have hPd:=HP6.out.keep hbd;have hLr:=pG wd (HL.out wd hPd.B) lo hi d u M U hPd.U Hd.out Hv.out _ (.slice xk nk ck) A.keys (HR.out wd hPd.B).1 (by have:=HA.out.keys;omega) (fun k hk=>by have:=HA.out.klen k hk;omega) Hw.out;obtain⟨ca0,ca1,ca2,ca3,ca4,-,-⟩:=gw hPd.A;obtain⟨cm0,cm1,cm2⟩:=cell3 hPd.M;have hol:∀ q,w.heap.size <= q -> ¬ Mid lo hi q:=fun q hq hh=>by have:=hh.2;have:=hPd.hle;omega
    have hbml:w.heap.size <= bm:=by have:=hPd.lm;omega
    have pz:∀ b i x,w.heap.size <= b -> wd.cell? ⟨b,i,none⟩=some x -> ∀ w',aP (Mid lo hi) wd w' -> w'.cell? ⟨b,i,none⟩=some x:=fun b i x hb hc w' hh=>dd hh (cellLt hc) (hol b hb) i hc
    have pa1:=pz _ _ _ (aq _) ca1;have pa2:=pz _ _ _ (aq _) ca2;have pa3:=pz _ _ _ (aq _) ca3;have pa4:=pz _ _ _ (aq _) ca4;have pm0:=pz _ _ _ hbml cm0;have pm1:=pz _ _ _ hbml cm1;have pm2:=pz _ _ _ hbml cm2;have HLr:=ae hLr;have Hwd:=ae hwd;have HPd:=ae hPd;clear hLr hwd hbd hPd ca0 ca1 ca2 ca3 ca4 cm0 cm1 cm2 hol hbml pz;go_wp2_with fail;rw[<- Hw6.out];refine bh (aP (Mid lo hi)) 6 [(0,true),(1,true),(2,true),(4,true),(3,false),(5,true),(6,false)] (by kernel_rfl) (by kernel_rfl) (by kernel_rfl) (bH _) (bG _) ?_;rw[<- Hwd.out]
    repeat (refine aX (v:=?_) rfl (aD rfl) (fun w' hC=>?_) (fun K hK=>?_);rotate_left;(focus (go_simp;first | done | exact rfl));go_simp;refine hK _ ?_;clear hK K)
    clear pa1 pa2 pa3 pa4 pm0 pm1 pm2;refine bS rfl rfl (fun KK hK=>?_);go_simp;refine HLr.out.mono ?_;rintro e w8 ⟨rfl,hU8,ho8⟩;obtain⟨hR8,hR9,hX9,hU9,ho9⟩:=HPd.out.done hU8 ho8;refine⟨_,rfl,ho8,hK _ _ ?_⟩;clear hK KK HLr;go_simp;obtain⟨y0,y1,y2⟩:=cell3 hR8;have z0:=hR8.free 0;have z1:=hR8.free 1;have z2:=hR8.free 2
    obtain⟨w9,hw9⟩:∃ w9,w9=((w8.setCell ⟨w.heap.size+1,0,none⟩ (.slice a1 m.seen.length p1)).setCell ⟨w.heap.size+1,1,none⟩ (.slice a2 m.items.length p2)).setCell ⟨w.heap.size+1,2,none⟩ (.slice a3 m.gone.length p3):=⟨_,rfl⟩
    rw[<- hw9] at hR9 hX9 hU9 ho9;have Q:=ae (cell3 hR9);have HX9:=ae hX9;have HU9:=ae hU9;have Ho9:=ae ho9;have Hw9:=ae hw9;clear hU8 ho8 hR8 hR9 hX9 hU9 ho9 hw9
    repeat (refine aX (v:=?_) rfl (aD rfl) (fun w' hC=>?_) (fun K hK=>?_);rotate_left;(focus (go_simp;first | done | exact rfl));go_simp;refine hK _ ?_;clear hK K)
    refine bK rfl rfl rfl (fun KK hK=>?_);go_simp;rw[<- Hw9.out];refine hK _ _ ?_;clear hK KK y0 y1 y2 z0 z1 z2;go_simp
    repeat (refine aX (v:=?_) rfl (aD rfl) (fun w' hC=>?_) (fun K hK=>?_);rotate_left;(focus (go_simp;first | done | exact rfl));go_simp;refine hK _ ?_;clear hK K)
    refine bR ?_;go_wp2_with fail;obtain⟨q0,q1,q2⟩:=Q.out;exact bodyPost_ret (v:=.tuple #[.int .i64 (du M U A.keys).2.2,.agg #[(.slice a1 m.seen.length p1),(.slice a2 m.items.length p2),(.slice a3 m.gone.length p3)]]) (by simp[results,Tryz.results20,go_sem,q0,q1,q2]) rfl ⟨_,_,_,by rw[HactC.out],by rw[HactL.out];exact HX9.out,by rw[HactC.out];exact HU9.out,Ho9.out⟩
 ·have HactC:=ae (show fM M U A=dJ M U A.m by unfold fM;rw[Hkk.out];rfl);have HactA:=ae (show eX U A=iw m (mergeR m A.m) by unfold eX;rw[Hkk.out,Hm.out];rfl);have hUse:=iq w4 (HL.out w4 HP4.out.B).2.1 (HL.out w4 HP4.out.B).2.2 _ _ (.agg #[.slice a1 m.seen.length p1,.slice a2 m.items.length p2,.slice a3 m.gone.length p3]) (.agg #[.slice x1 ns c1,.slice x2 ni c2,.slice x3 ng c3]) m A.m ⟨_,_,_,rfl,HP4.out.X⟩ ⟨_,_,_,rfl,(HR.out w4 HP4.out.B).2⟩
  obtain⟨RR,hRR⟩:∃ r,mergeR m A.m=r:=⟨_,rfl⟩
  rw[hRR] at hUse;obtain⟨x,er⟩:=RR;have HUse:=ae hUse;have HRR:=ae hRR;clear hUse hRR;go_wp2_with fail;rw[<- Hw4.out];refine HUse.out.mono ?_;rintro e w5 ⟨⟨r1,rfl,ho5,hbd5⟩,hb5⟩;clear ca0 ca1 ca2 ca3 ca4 HUse hbm' hna hna';obtain⟨u1,u2,u3,rfl,ho5⟩:=ho5;obtain⟨n1,m1,rfl⟩:=own_shape ho5.seen;obtain⟨n2,m2,rfl⟩:=own_shape ho5.items;obtain⟨n3,m3,rfl⟩:=own_shape ho5.gone;have hP5:=HP4.out.keep hb5;obtain⟨-,ca1,-,-,-,-,-⟩:=gw hP5.A;have hna:=hP5.A.lt;have f0:=hP5.M.free 0;have f1:=hP5.M.free 1;have f2:=hP5.M.free 2;obtain⟨cm0,cm1,cm2⟩:=cell3 hP5.M;have hbml:=hP5.M.lt;have hY:bJ (fun q=>w2.heap.size <= q /\ q≠bm) w5 (.slice n1 x.seen.length m1) (.slice n2 x.items.length m2) (.slice n3 x.gone.length m3) x:=(ho5.map hbd5).mono fun q hq _=>by have:=HW4.out;omega
  obtain⟨w6,hw6⟩:∃ q,q=w5.alloc (.cells #[.slice n1 x.seen.length m1,.slice n2 x.items.length m2,.slice n3 x.gone.length m3] 37):=⟨_,rfl⟩
  have hP6:=hP5.keep (aE w5 (.cells #[.slice n1 x.seen.length m1,.slice n2 x.items.length m2,.slice n3 x.gone.length m3] 37));rw[<- hw6] at hP6
  obtain⟨w7,hw7⟩:∃ q,q=(((w5.setCell ⟨bm,0,none⟩ (.slice n1 x.seen.length m1)).setCell ⟨bm,1,none⟩ (.slice n2 x.items.length m2)).setCell ⟨bm,2,none⟩ (.slice n3 x.gone.length m3)).alloc (.cells #[.slice n1 x.seen.length m1,.slice n2 x.items.length m2,.slice n3 x.gone.length m3] 37):=⟨_,rfl⟩
  have hP7:=(hP5.put hY).keep (aE _ (.cells #[.slice n1 x.seen.length m1,.slice n2 x.items.length m2,.slice n3 x.gone.length m3] 37));rw[<- hw7] at hP7;have HP7:=ae hP7;have Hw7:=ae hw7;clear hP5 ho5 hbd5 hb5 hY hP7 hw7;have HP6:=ae hP6;have Hw6:=ae hw6;clear hP6 hw6
  by_cases he:er=0
  ·subst he;have HactL:=ae (show eX U A=x by rw[HactA.out,HRR.out];exact if_pos rfl)
   obtain⟨wd,hwd⟩:∃ q,q=w7.drew:=⟨_,rfl⟩
   have hbd:Below w7.heap.size w7 wd:=by rw[hwd];exact(Below.refl w7.heap.size w7).drew
   have hPd:=HP7.out.keep hbd;have hLr:=sn wd (HL.out wd hPd.B) lo hi d u M U hPd.U Hd.out Hv.out _ (.agg #[.slice x1 ns c1,.slice x2 ni c2,.slice x3 ng c3]) A.m ⟨_,_,_,rfl,(HR.out wd hPd.B).2⟩ Hw.out;obtain⟨ca0,ca1,ca2,ca3,ca4,-,-⟩:=gw hPd.A;obtain⟨cm0,cm1,cm2⟩:=cell3 hPd.M;have hol:∀ q,w.heap.size <= q -> ¬ Mid lo hi q:=fun q hq hh=>by have:=hh.2;have:=hPd.hle;omega
   have hbml:w.heap.size <= bm:=by have:=hPd.lm;omega
   have pz:∀ b i x,w.heap.size <= b -> wd.cell? ⟨b,i,none⟩=some x -> ∀ w',aP (Mid lo hi) wd w' -> w'.cell? ⟨b,i,none⟩=some x:=fun b i x hb hc w' hh=>dd hh (cellLt hc) (hol b hb) i hc
   have pa1:=pz _ _ _ (aq _) ca1;have pa2:=pz _ _ _ (aq _) ca2;have pa3:=pz _ _ _ (aq _) ca3;have pa4:=pz _ _ _ (aq _) ca4;have pm0:=pz _ _ _ hbml cm0;have pm1:=pz _ _ _ hbml cm1;have pm2:=pz _ _ _ hbml cm2;have HLr:=ae hLr;have Hwd:=ae hwd;have HPd:=ae hPd;clear hLr hwd hbd hPd ca0 ca1 ca2 ca3 ca4 cm0 cm1 cm2 hol hbml pz;go_wp2_with fail;rw[<- Hw7.out];refine bh (aP (Mid lo hi)) 6 [(0,true),(1,true),(2,true),(4,true),(3,false),(5,true),(6,false)] (by kernel_rfl) (by kernel_rfl) (by kernel_rfl) (bH _) (bG _) ?_;rw[<- Hwd.out]
   repeat (refine aX (v:=?_) rfl (aD rfl) (fun w' hC=>?_) (fun K hK=>?_);rotate_left;(focus (go_simp;first | done | exact rfl));go_simp;refine hK _ ?_;clear hK K)
   clear pa1 pa2 pa3 pa4 pm0 pm1 pm2;refine bS rfl rfl (fun KK hK=>?_);go_simp;refine HLr.out.mono ?_;rintro e w8 ⟨rfl,hU8,ho8⟩;obtain⟨hR8,hR9,hX9,hU9,ho9⟩:=HPd.out.done hU8 ho8;refine⟨_,rfl,ho8,hK _ _ ?_⟩;clear hK KK HLr;go_simp;obtain⟨y0,y1,y2⟩:=cell3 hR8;have z0:=hR8.free 0;have z1:=hR8.free 1;have z2:=hR8.free 2
   obtain⟨w9,hw9⟩:∃ w9,w9=((w8.setCell ⟨w.heap.size+1,0,none⟩ (.slice n1 x.seen.length m1)).setCell ⟨w.heap.size+1,1,none⟩ (.slice n2 x.items.length m2)).setCell ⟨w.heap.size+1,2,none⟩ (.slice n3 x.gone.length m3):=⟨_,rfl⟩
   rw[<- hw9] at hR9 hX9 hU9 ho9;have Q:=ae (cell3 hR9);have HX9:=ae hX9;have HU9:=ae hU9;have Ho9:=ae ho9;have Hw9:=ae hw9;clear hU8 ho8 hR8 hR9 hX9 hU9 ho9 hw9
   repeat (refine aX (v:=?_) rfl (aD rfl) (fun w' hC=>?_) (fun K hK=>?_);rotate_left;(focus (go_simp;first | done | exact rfl));go_simp;refine hK _ ?_;clear hK K)
   refine bK rfl rfl rfl (fun KK hK=>?_);go_simp;rw[<- Hw9.out];refine hK _ _ ?_;clear hK KK y0 y1 y2 z0 z1 z2;go_simp
   repeat (refine aX (v:=?_) rfl (aD rfl) (fun w' hC=>?_) (fun K hK=>?_);rotate_left;(focus (go_simp;first | done | exact rfl));go_simp;refine hK _ ?_;clear hK K)
   refine bR ?_;go_wp2_with fail;obtain⟨q0,q1,q2⟩:=Q.out;exact bodyPost_ret (v:=.tuple #[.int .i64 (dJ M U A.m).2.2,.agg #[(.slice n1 x.seen.length m1),(.slice n2 x.items.length m2),(.slice n3 x.gone.length m3)]]) (by simp[results,Tryz.results20,go_sem,q0,q1,q2]) rfl ⟨_,_,_,by rw[HactC.out],by rw[HactL.out];exact HX9.out,by rw[HactC.out];exact HU9.out,Ho9.out⟩
  ·have heI:¬ er=0:=he;have HactL:=ae (show eX U A=m by rw[HactA.out,HRR.out];exact if_neg he);clear he
   obtain⟨wd,hwd⟩:∃ q,q=w6.drew:=⟨_,rfl⟩
   have hbd:Below w6.heap.size w6 wd:=by rw[hwd];exact(Below.refl w6.heap.size w6).drew
   have hPd:=HP6.out.keep hbd;have hLr:=sn wd (HL.out wd hPd.B) lo hi d u M U hPd.U Hd.out Hv.out _ (.agg #[.slice x1 ns c1,.slice x2 ni c2,.slice x3 ng c3]) A.m ⟨_,_,_,rfl,(HR.out wd hPd.B).2⟩ Hw.out;obtain⟨ca0,ca1,ca2,ca3,ca4,-,-⟩:=gw hPd.A;obtain⟨cm0,cm1,cm2⟩:=cell3 hPd.M;have hol:∀ q,w.heap.size <= q -> ¬ Mid lo hi q:=fun q hq hh=>by have:=hh.2;have:=hPd.hle;omega
   have hbml:w.heap.size <= bm:=by have:=hPd.lm;omega
   have pz:∀ b i x,w.heap.size <= b -> wd.cell? ⟨b,i,none⟩=some x -> ∀ w',aP (Mid lo hi) wd w' -> w'.cell? ⟨b,i,none⟩=some x:=fun b i x hb hc w' hh=>dd hh (cellLt hc) (hol b hb) i hc
   have pa1:=pz _ _ _ (aq _) ca1;have pa2:=pz _ _ _ (aq _) ca2;have pa3:=pz _ _ _ (aq _) ca3;have pa4:=pz _ _ _ (aq _) ca4;have pm0:=pz _ _ _ hbml cm0;have pm1:=pz _ _ _ hbml cm1;have pm2:=pz _ _ _ hbml cm2;have HLr:=ae hLr;have Hwd:=ae hwd;have HPd:=ae hPd;clear hLr hwd hbd hPd ca0 ca1 ca2 ca3 ca4 cm0 cm1 cm2 hol hbml pz;go_wp2_with fail;rw[<- Hw6.out];refine bh (aP (Mid lo hi)) 6 [(0,true),(1,true),(2,true),(4,true),(3,false),(5,true),(6,false)] (by kernel_rfl) (by kernel_rfl) (by kernel_rfl) (bH _) (bG _) ?_;rw[<- Hwd.out]
   repeat (refine aX (v:=?_) rfl (aD rfl) (fun w' hC=>?_) (fun K hK=>?_);rotate_left;(focus (go_simp;first | done | exact rfl));go_simp;refine hK _ ?_;clear hK K)
   clear pa1 pa2 pa3 pa4 pm0 pm1 pm2;refine bS rfl rfl (fun KK hK=>?_);go_simp;refine HLr.out.mono ?_;rintro e w8 ⟨rfl,hU8,ho8⟩;obtain⟨hR8,hR9,hX9,hU9,ho9⟩:=HPd.out.done hU8 ho8;refine⟨_,rfl,ho8,hK _ _ ?_⟩;clear hK KK HLr;go_simp;obtain⟨y0,y1,y2⟩:=cell3 hR8;have z0:=hR8.free 0;have z1:=hR8.free 1;have z2:=hR8.free 2
   obtain⟨w9,hw9⟩:∃ w9,w9=((w8.setCell ⟨w.heap.size+1,0,none⟩ (.slice a1 m.seen.length p1)).setCell ⟨w.heap.size+1,1,none⟩ (.slice a2 m.items.length p2)).setCell ⟨w.heap.size+1,2,none⟩ (.slice a3 m.gone.length p3):=⟨_,rfl⟩
   rw[<- hw9] at hR9 hX9 hU9 ho9;have Q:=ae (cell3 hR9);have HX9:=ae hX9;have HU9:=ae hU9;have Ho9:=ae ho9;have Hw9:=ae hw9;clear hU8 ho8 hR8 hR9 hX9 hU9 ho9 hw9
   repeat (refine aX (v:=?_) rfl (aD rfl) (fun w' hC=>?_) (fun K hK=>?_);rotate_left;(focus (go_simp;first | done | exact rfl));go_simp;refine hK _ ?_;clear hK K)
   refine bK rfl rfl rfl (fun KK hK=>?_);go_simp;rw[<- Hw9.out];refine hK _ _ ?_;clear hK KK y0 y1 y2 z0 z1 z2;go_simp
   repeat (refine aX (v:=?_) rfl (aD rfl) (fun w' hC=>?_) (fun K hK=>?_);rotate_left;(focus (go_simp;first | done | exact rfl));go_simp;refine hK _ ?_;clear hK K)
   refine bR ?_;go_wp2_with fail;obtain⟨q0,q1,q2⟩:=Q.out;exact bodyPost_ret (v:=.tuple #[.int .i64 (dJ M U A.m).2.2,.agg #[(.slice a1 m.seen.length p1),(.slice a2 m.items.length p2),(.slice a3 m.gone.length p3)]]) (by simp[results,Tryz.results20,go_sem,q0,q1,q2]) rfl ⟨_,_,_,by rw[HactC.out],by rw[HactL.out];exact HX9.out,by rw[HactC.out];exact HU9.out,Ho9.out⟩
 ·have hle:=ae (show ¬ kk <= 2 /\ kk≠3 /\ kk≠4 by omega);have HactC:=ae (show fM M U A=eJ M U by unfold fM;rw[Hkk.out,if_neg hle.out.1,if_neg hle.out.2.1,if_neg hle.out.2.2]);have HactL:=ae (show eX U A=m by unfold eX;rw[Hkk.out,if_neg hle.out.1,if_neg hle.out.2.1,if_neg hle.out.2.2,Hm.out]);clear hle;rcases hsel with rfl | rfl | rfl
  all_goals
   obtain⟨wd,hwd⟩:∃ q,q=w4.drew:=⟨_,rfl⟩
   have hbd:Below w4.heap.size w4 wd:=by rw[hwd];exact(Below.refl w4.heap.size w4).drew
   have hPd:=HP4.out.keep hbd;have hLr:=s8 wd (HL.out wd hPd.B) lo hi d u M U hPd.U Hd.out Hv.out  Hw.out;obtain⟨ca0,ca1,ca2,ca3,ca4,-,-⟩:=gw hPd.A;obtain⟨cm0,cm1,cm2⟩:=cell3 hPd.M;have hol:∀ q,w.heap.size <= q -> ¬ Mid lo hi q:=fun q hq hh=>by have:=hh.2;have:=hPd.hle;omega
   have hbml:w.heap.size <= bm:=by have:=hPd.lm;omega
   have pz:∀ b i x,w.heap.size <= b -> wd.cell? ⟨b,i,none⟩=some x -> ∀ w',aP (Mid lo hi) wd w' -> w'.cell? ⟨b,i,none⟩=some x:=fun b i x hb hc w' hh=>dd hh (cellLt hc) (hol b hb) i hc
   have pa1:=pz _ _ _ (aq _) ca1;have pa2:=pz _ _ _ (aq _) ca2;have pa3:=pz _ _ _ (aq _) ca3;have pa4:=pz _ _ _ (aq _) ca4;have pm0:=pz _ _ _ hbml cm0;have pm1:=pz _ _ _ hbml cm1;have pm2:=pz _ _ _ hbml cm2;have HLr:=ae hLr;have Hwd:=ae hwd;have HPd:=ae hPd;clear hLr hwd hbd hPd ca0 ca1 ca2 ca3 ca4 cm0 cm1 cm2 hol hbml pz;go_wp2_with fail;rw[<- Hw4.out];refine bh (aP (Mid lo hi)) 4 [(0,true),(2,true),(1,false),(3,true),(4,false)] (by kernel_rfl) (by kernel_rfl) (by kernel_rfl) (bH _) (bG _) ?_;rw[<- Hwd.out]
   repeat (refine aX (v:=?_) rfl (aD rfl) (fun w' hC=>?_) (fun K hK=>?_);rotate_left;(focus (go_simp;first | done | exact rfl));go_simp;refine hK _ ?_;clear hK K)
   clear pa1 pa2 pa3 pa4 pm0 pm1 pm2;refine bS rfl rfl (fun KK hK=>?_);go_simp;refine HLr.out.mono ?_;rintro e w8 ⟨rfl,hU8,ho8⟩;obtain⟨hR8,hR9,hX9,hU9,ho9⟩:=HPd.out.done hU8 ho8;refine⟨_,rfl,ho8,hK _ _ ?_⟩;clear hK KK HLr;go_simp;obtain⟨y0,y1,y2⟩:=cell3 hR8;have z0:=hR8.free 0;have z1:=hR8.free 1;have z2:=hR8.free 2
   obtain⟨w9,hw9⟩:∃ w9,w9=((w8.setCell ⟨w.heap.size+1,0,none⟩ (.slice a1 m.seen.length p1)).setCell ⟨w.heap.size+1,1,none⟩ (.slice a2 m.items.length p2)).setCell ⟨w.heap.size+1,2,none⟩ (.slice a3 m.gone.length p3):=⟨_,rfl⟩
   rw[<- hw9] at hR9 hX9 hU9 ho9;have Q:=ae (cell3 hR9);have HX9:=ae hX9;have HU9:=ae hU9;have Ho9:=ae ho9;have Hw9:=ae hw9;clear hU8 ho8 hR8 hR9 hX9 hU9 ho9 hw9
   repeat (refine aX (v:=?_) rfl (aD rfl) (fun w' hC=>?_) (fun K hK=>?_);rotate_left;(focus (go_simp;first | done | exact rfl));go_simp;refine hK _ ?_;clear hK K)
   refine bK rfl rfl rfl (fun KK hK=>?_);go_simp;rw[<- Hw9.out];refine hK _ _ ?_;clear hK KK y0 y1 y2 z0 z1 z2;go_simp
   repeat (refine aX (v:=?_) rfl (aD rfl) (fun w' hC=>?_) (fun K hK=>?_);rotate_left;(focus (go_simp;first | done | exact rfl));go_simp;refine hK _ ?_;clear hK K)
   refine bR ?_;go_wp2_with fail;obtain⟨q0,q1,q2⟩:=Q.out;exact bodyPost_ret (v:=.tuple #[.int .i64 (eJ M U).2.2,.agg #[(.slice a1 m.seen.length p1),(.slice a2 m.items.length p2),(.slice a3 m.gone.length p3)]]) (by simp[results,Tryz.results20,go_sem,q0,q1,q2]) rfl ⟨_,_,_,by rw[HactC.out],by rw[HactL.out];exact HX9.out,by rw[HactC.out];exact HU9.out,Ho9.out⟩
end
end Go.Proofs.YtobjdpngnfbicaaGreatDoor
