/-
  UForm ULaid UX Read RArg
-/
import Derived.Test.YtobjdpngnfbicaaGreatDoorZK26
import Derived.Test.YtobjdpngnfbicaaGreatDoorZK17
import Derived.Test.YtobjdpngnfbicaaGreatDoorRows
import Derived.Test.YtobjdpngnfbicaaGreatDoorZK19
import Derived.Test.YtobjdpngnfbicaaGreatDoorZK10
import Derived.ChangeSame
import Derived.ChangeVars
import Derived.JoinedOf
import Derived.RowKit
import Derived.Lib.LaidIn
import Derived.Lib.LaidU8T
import Derived.Test.YtobjdpngnfbicaaGreatDoorZK37
import Derived.Test.YtobjdpngnfbicaaGreatDoorZK33
import Derived.Test.YtobjdpngnfbicaaGreatDoorZK03
import Derived.OpenShut
import Derived.Deep.Slices
import Derived.Test.YtobjdpngnfbicaaGreatDoorChecked
import Derived.Deep.Strs
import Derived.Lib.SmallJoins
open Go.Lib renaming hid->ae
open Nat renaming le_refl->aq,le_trans->au,lt_of_lt_of_le->aw
open Go.Proofs.Tryz renaming prog->aC
namespace Go.Proofs.YtobjdpngnfbicaaGreatDoor
open Go.RowKit
set_option linter.unusedVariables false
set_option maxRecDepth 20000
section
open Go.Lib
attribute [local go_sem] opC upC
theorem gu:validR .new=true:=by decide +kernel
theorem tx {F:aV} {w:World} {b:Nat} (h:Blk w b (List.replicate 8 (.int .i64 0)) 3) (hF:F b):bJ F w (.slice (some ⟨b,0,none⟩) 8 8) (.slice none 0 0) (.slice none 0 0) .new:=by
 refine⟨⟨_,8,rfl,by decide,by unfold maxLen;omega,nofun,rfl,.inr ⟨b,0,_,_,_,rfl,hF,h,by simp;decide,fun i hi=>?_⟩⟩,Rows.nil _ _ _,Rows.nil _ _ _,?_,nofun,nofun⟩
 ·have hi8:i < 8:=hi;rcases(show i=0 \/ i=1 \/ i=2 \/ i=3 \/ i=4 \/ i=5 \/ i=6 \/ i=7 by omega) with rfl | rfl | rfl | rfl | rfl | rfl | rfl | rfl <;> rfl
 ·intro n hn
  have:n=0:=by
   have hm:n ∈ List.replicate 8 (0:Int):=hn;exact(List.mem_replicate.1 hm).2
  subst this;exact⟨by decide,by decide⟩
def oe (w:World) (K:DK) (r:MD × MU × Int) (e:Ending) (w':World):Prop:=∃ u jk,e=.returned (.tuple #[.pointer (some ⟨u,0,none⟩),.int .i64 0]) /\ jk.K.d=K.d /\ UAt w' jk u r.1 r.2.1 /\ (∀ q,jk.all q -> K.foot q \/ w.heap.size <= q) /\ w.heap.size <= u /\ aK K.foot w w'
set_option maxHeartbeats 4000000 in
theorem og (w:World) (hT:cL w) (h3:4 <= w.heap.size) (hq:bQ w) (K:DK) (M:MD) (hd:bj w K M) (h8:8 <= M.S.length) (hlow:∀ b,K.foot b -> 3 < b) (hw:M.writes+200000 < 4611686018427387904) (dev:Nat) (hdev:dev < 8) (hf:(cB M).2=0) (ha:(ef M dev).2.2=0):
 Calls aC 12 #[.pointer (some ⟨K.d,0,none⟩),.int .i64 (dev:Int)] w (oe w K (ef M dev)):=by
 have hF:=o4 w K M hd h8 hq (fun h0=>by have:=hlow 0 h0;omega) (by omega)
 have hfw:(cB M).1.S.length=M.S.length /\ (cB M).1.writes <= M.writes+65540:=by
  have h1:=dW ((List.range M.S.length).map (fun i=>(i,List.replicate 64 0)) ++ [(0,bZ 0)]) M;have h2:((List.range M.S.length).map (fun i=>(i,List.replicate 64 (0:UInt8))) ++ [(0,bZ 0)]).length=M.S.length+1:=by simp
  have h3:=hd.le;unfold cB;exact⟨h1.1,au h1.2 (by omega)⟩
 have h0I:¬ (dev:Int) < 0:=by omega
 have h8I:¬ (8:Int) <= (dev:Int):=by omega
 obtain⟨sB,hsB⟩:∃ sB,dq dev .new=sB:=⟨_,rfl⟩
 have Hfu:=ae (show ef M dev=((bt (cB M).1 ⟨0,[],false⟩ sB).1,⟨dev,.new,(bt (cB M).1 ⟨0,[],false⟩ sB).2.1⟩,(bt (cB M).1 ⟨0,[],false⟩ sB).2.2) by rw[<- hsB];rfl);have HF:=ae hF;have Hf:=ae hf;have Ha:=ae ha;have Hfw:=ae hfw;have Hlow:=ae hlow;have Hw:=ae hw;have Hdev:=ae hdev;have HT:=ae hT;have HQ:=ae hq;have HsB:=ae hsB;have HKl:=ae hd.lt;clear hF hf ha hfw hlow hw hdev hT hq hsB hd h8
 go_enter Tryz.func12,Tryz.ntmps12
 go_wp2_with fail;refine HF.out.mono ?_;rintro e w1 ⟨K',e1,e2,ho1,h1⟩;obtain⟨-,jb,rfl,hjb,hj⟩:=h1.resolve_right (fun h=>h.1 Hf.out);obtain⟨jk,g1,g2,hj1,g3,hjt⟩:=hj.slim
 have hjl:∀ b,jk.all b -> K.foot b \/ w.heap.size <= b:=fun b hb=>by
  rcases g3 b hb with h | h | h
  ·right;rw[h];exact hjb
  ·left;exact e2 b h
  ·exact h.elim
 have hlow1:∀ b,jk.all b -> 3 < b:=fun b hb=>by
  rcases hjl b hb with h | h
  ·exact Hlow.out b h
  ·omega
 have hlw:∀ q,q < 4 -> w1.heap[q]?=w.heap[q]?:=fun q hq=>ho1.block q (by omega) fun ha=>by have:=Hlow.out q ha;omega
 have HT1:=ae (show cL w1 from HT.out.keep fun a ha=>by
  have e:=hlw a.block ha;unfold World.cell?
  rw[e])
 have HQ1:=ae (show bQ w1 from HQ.out.keep (hlw 0 (by omega)));have Hj1:=ae hj1;have Hjt:=ae hjt;have Hjl:=ae hjl;have Hlow1:=ae hlow1;have Hg1:=ae (show jk.j=jb from g1);have Hkd:=ae (show jk.K.d=K.d by rw[g2];exact e1);have Ho1:=ae ho1;have HN:=ae (lC w1);clear HF h1 hj g1 g2 g3 hj1 hjt hjl hlow1 hlw ho1 e1 e2 hjb;go_wp2_with fail;refine HN.out.mono ?_;rintro e w2 ⟨rfl,hblk,hb2⟩
 obtain⟨w3,hw3⟩:∃ w3,w3=w2.alloc (.cells #[.int .i64 (dev:Int),.slice (some ⟨w1.heap.size+1,0,none⟩) 8 8,.slice none 0 0,.slice none 0 0,.pointer (some ⟨jb,0,none⟩)] 93):=⟨_,rfl⟩
 have hb13:Below w1.heap.size w1 w3:=by rw[hw3];exact hb2.alloc hb2.size _
 have hb23:Below w2.heap.size w2 w3:=by rw[hw3];exact aE _ _
 have hblk3:=hblk.keep (hb23.block _ hblk.lt)
 have hnj:NJ w3 (w1.heap.size+1):=⟨_,_,_,hblk3,o5,by decide,by decide⟩
 have hU3:UAt w3 jk w2.heap.size (cB M).1 ⟨dev,.new,⟨0,[],false⟩⟩:=
  ⟨⟨_,_,_,_,_,_,by rw[Hg1.out,hw3];exact Blk.new _ _ _,tx hblk3 hnj⟩,Hj1.out.kept hb13,Hjt.out.keep fun b hb=>hb13.block b (Hj1.out.lt b hb),Hlow1.out⟩
 have hs1:=Ho1.out.size;have HSt:=ae (i6 w3 (bi HT1.out (by omega) hb13) (by have:=hb13.size;omega) jk w2.heap.size _ _ hU3 Hdev.out gu);have HU3:=ae hU3;have Hw3:=ae hw3;have HB13:=ae hb13;have Hs2:=ae hb2.size;clear HN hblk hb2 hw3 hb13 hb23 hblk3 hnj hU3 hs1;go_wp2_with fail;rw[<- Hw3.out];refine HSt.out.mono ?_;rintro e w4 ⟨⟨r4,rfl,ho4⟩,hb4⟩;have hU4:=HU3.out.keep hb4;have hj3:=HU3.out.jat.lt;have hB4:Bytes (fun q=>w3.heap.size <= q /\ q < w4.heap.size) w4 r4 sB:=by rw[<- HsB.out];exact Bytes.of_owns ho4 _ fun q h1 h2=>⟨h1,h2⟩
 have hb14:Below w1.heap.size w1 w4:=HB13.out.trans (hb4.mono HB13.out.size)
 have HA:=ae (by
  have hs1:=Ho1.out.size;have hA:=io w4 jk (cB M).1 ⟨0,[],false⟩ hU4.jat _ _ sB hB4 (fun q hq=>⟨hq.2,fun ha=>by have:=hj3 q ha;omega⟩) (fun h0=>by have:=hU4.low 0 h0;omega) (HQ1.out.keep (hb14.block 0 (by omega))) (by have:=Hw.out;have:=Hfw.out.2;omega);rw[Hg1.out] at hA
  exact hA)
 obtain⟨r,hr⟩:∃ r,bt (cB M).1 ⟨0,[],false⟩ sB=r:=⟨_,rfl⟩
 rw[hr] at HA Hfu;obtain⟨M5,J5,er⟩:=r;have her:er=0:=by have h:=Ha.out;rw[Hfu.out] at h;exact h
 subst her;have HU4:=ae hU4;have Hb14:=ae hb14;obtain⟨a4,c4,rfl⟩:=own_shape ho4;clear HSt hU4 hj3 hB4 hb14 ho4 hb4 hr;go_wp2_with fail;refine HA.out.mono ?_;rintro e w5 ⟨rfl,jk5,k1,k2,k3,k4,k5⟩;have hs1:=Ho1.out.size;have hs4:=Hb14.out.size;obtain⟨J5',l1,l2,l3,hU5⟩:=HU4.out.moved k5 k3 (k1.trans Hg1.out.symm) k4 (by omega)
 have Hfin:=ae (show oe w K (ef M dev) (.returned (.tuple #[.pointer (some ⟨w2.heap.size,0,none⟩),.int .i64 0])) w5 from by
  rw[Hfu.out];refine⟨w2.heap.size,J5',rfl,by rw[l2,k2];exact Hkd.out,hU5,fun q hq=>?_,by have:=Hs2.out;omega,?_⟩
  ·rcases l3 q hq with h | h
   ·exact Hjl.out q h
   ·right;omega
  ·exact(Ho1.out.trans (aK.of_below (F:=none_) Hb14.out) fun _ hf=>hf.elim).trans k5 Hjl.out)
 clear HA k1 k2 k3 k4 k5 l1 l2 l3 hU5 hs1 hs4;go_wp2_with fail;exact bodyPost_ret (v:=.tuple #[.pointer (some ⟨w2.heap.size,0,none⟩),.int .i64 0]) (by simp[results,Tryz.results12,go_sem]) rfl Hfin.out
end
section
open Go.ChangeShapes Go.WideShapes Go.Lib
theorem td:aC.globalNamed "henkan/crc.quarter"=some 0:=by kernel_rfl
theorem tz:(aC.globals[0]?).map (·.type)=some 260:=by kernel_rfl
theorem sX:aC.cellsOf 260=16:=by kernel_rfl
theorem tB:aC.cellsOf 96=1:=by kernel_rfl
theorem sY:aC.underlying 260=some (.array 16 96):=by kernel_rfl
theorem dc:aC.underlying 96=some (.int .u32):=by kernel_rfl
theorem b8 {H:Type} {enc:TypeId × Value -> H} {P:Program} {w:World} {base:Nat} {sp:Nat -> Bool} {held:Bool} {fuel:Nat} {t:TypeId} {k:IntKind} {c:Value} {y:DataW H × List MemPlace}
 (ht:P.underlying t=some (.int k)) (h:DataW.trod enc P w base sp held fuel t [c]=some y):∃ n,c=.int k n /\ y=(.lit (.int k n),[]):=by
 cases fuel with
 | zero=>simp[DataW.trod] at h
 | succ fuel=>
   cases c <;> simp[DataW.trod,ht] at h
   rename_i k' n;obtain⟨⟨rfl,_⟩,rfl⟩:=h;exact⟨n,rfl,rfl⟩
abbrev laidQ:List (String × DataW Unit):=[("henkan/crc.quarter",Rows.laid_henkan_crc_quarter),("unicode/utf8.acceptRanges",Rows.laid_unicode_utf8_acceptRanges),("unicode/utf8.first",Rows.laid_unicode_utf8_first)]
theorem qN:Rows.laid_unicode_utf8_acceptRanges (H:=Unit)=Lib.acceptData:=by kernel_rfl
theorem rZ:Rows.laid_unicode_utf8_first=Lib.firstData:=by kernel_rfl
set_option maxHeartbeats 1000000 in
theorem lk {W:World} (h:laidMet aC laidQ W):W.var? aC "henkan/crc.quarter"=some eL.toArray:=by
 obtain⟨g,t,cs,fuel,p,hg,ht,hvar,hd⟩:=Lib.laidMet.reads h (.head _);obtain rfl:=Option.some.inj (td.symm.trans hg);obtain rfl:=Option.some.inj (tz.symm.trans ht);rw[hvar]
 congr 1
 obtain⟨l⟩:=cs;cases fuel with
 | zero=>simp[DataW.trod] at hd
 | succ fuel=>
   simp only[DataW.trod,sY,sX,tB] at hd;split at hd
   ·rename_i hl
    obtain⟨c0,c1,c2,c3,c4,c5,c6,c7,c8,c9,c10,c11,c12,c13,c14,c15,rfl⟩:∃ c0 c1 c2 c3 c4 c5 c6 c7 c8 c9 c10 c11 c12 c13 c14 c15,l = [c0,c1,c2,c3,c4,c5,c6,c7,c8,c9,c10,c11,c12,c13,c14,c15]:=by
     match l,hl with
     | [c0,c1,c2,c3,c4,c5,c6,c7,c8,c9,c10,c11,c12,c13,c14,c15],_=>exact⟨c0,c1,c2,c3,c4,c5,c6,c7,c8,c9,c10,c11,c12,c13,c14,c15,rfl⟩
    have e:List.range 16 = [0,1,2,3,4,5,6,7,8,9,10,11,12,13,14,15]:=rfl;rw[e] at hd;simp only[Option.map_eq_some_iff,List.mapM_cons,List.mapM_nil,Option.bind_eq_bind,Option.bind_eq_some_iff,Option.pure_def,Option.some.injEq] at hd;obtain⟨xs,⟨y0,h0,_,⟨y1,h1,_,⟨y2,h2,_,⟨y3,h3,_,⟨y4,h4,_,⟨y5,h5,_,⟨y6,h6,_,⟨y7,h7,_,⟨y8,h8,_,⟨y9,h9,_,⟨y10,h10,_,⟨y11,h11,_,⟨y12,h12,_,⟨y13,h13,_,⟨y14,h14,_,⟨y15,h15,_,rfl,rfl⟩,rfl⟩,rfl⟩,rfl⟩,rfl⟩,rfl⟩,rfl⟩,rfl⟩,rfl⟩,rfl⟩,rfl⟩,rfl⟩,rfl⟩,rfl⟩,rfl⟩,rfl⟩,hx⟩:=hd;obtain⟨n0,rfl,rfl⟩:=b8 dc h0;obtain⟨n1,rfl,rfl⟩:=b8 dc h1;obtain⟨n2,rfl,rfl⟩:=b8 dc h2;obtain⟨n3,rfl,rfl⟩:=b8 dc h3;obtain⟨n4,rfl,rfl⟩:=b8 dc h4;obtain⟨n5,rfl,rfl⟩:=b8 dc h5;obtain⟨n6,rfl,rfl⟩:=b8 dc h6;obtain⟨n7,rfl,rfl⟩:=b8 dc h7;obtain⟨n8,rfl,rfl⟩:=b8 dc h8;obtain⟨n9,rfl,rfl⟩:=b8 dc h9;obtain⟨n10,rfl,rfl⟩:=b8 dc h10;obtain⟨n11,rfl,rfl⟩:=b8 dc h11;obtain⟨n12,rfl,rfl⟩:=b8 dc h12;obtain⟨n13,rfl,rfl⟩:=b8 dc h13;obtain⟨n14,rfl,rfl⟩:=b8 dc h14;obtain⟨n15,rfl,rfl⟩:=b8 dc h15;simp[Rows.laid_henkan_crc_quarter] at hx;obtain⟨⟨rfl,rfl,rfl,rfl,rfl,rfl,rfl,rfl,rfl,rfl,rfl,rfl,rfl,rfl,rfl,rfl⟩,_⟩:=hx;rfl
   ·cases hd
theorem jI {W:World} (h:laidMet aC laidQ W):bQ W:=by
 have hv:=lk h;unfold World.var? at hv;rw[td] at hv;simp only[Option.bind_some] at hv;split at hv
 ·rename_i cs t fz hc;obtain rfl:=Option.some.inj hv;exact⟨_,_,hc⟩
 ·cases hv
theorem mH {W:World} (h:laidMet aC laidQ W):cL W /\ 4 <= W.heap.size:=by
 have h3:=Lib.laidMet.reads h (.tail _ (.tail _ (.head _)));have h4:=Lib.laidMet.reads h (.tail _ (.head _));rw[rZ] at h3;rw[qN] at h4;have hT:cL W:=utf8Tabs_of_readsT (U8Types.of196 Tryz.laysValid) ⟨by kernel_rfl,by kernel_rfl,by kernel_rfl,by kernel_rfl,by kernel_rfl,by kernel_rfl,by kernel_rfl⟩ h3 h4;refine⟨hT,?_⟩;have hc:=(hT.2 0 (by decide)).1;have h2:Tryz.laysValid_ren.g 4=3:=by decide
 rw[h2] at hc;have hz:W.heap[3]?≠none:=fun hn=>by simp[World.cell?,hn] at hc
 have:=Array.getElem?_eq_none_iff (xs:=W.heap) (i:=3)
 by_cases hs:W.heap.size <= 3
 ·exact absurd (this.2 hs) hz
 ·omega
def dF (w:World):Prop:=bQ w /\ cL w /\ 4 <= w.heap.size
theorem all_of_laid {W:World} (h:laidMet aC laidQ W):dF W:=⟨jI h,mH h⟩
theorem dF.below {w w':World} (h:dF w) (hb:Below w.heap.size w w'):dF w':=
 ⟨h.1.keep (hb.block 0 (by have:=h.2.2;omega)),bi h.2.1 h.2.2 hb,au h.2.2 hb.size⟩
noncomputable def laidWorld (os:Os):World:=
 let w0:=World.holding aC os ⟨#[],#[],[]⟩
 let put (h:Array Obj) (g:Nat) (cs:Array Value):Array Obj:=h.modify g fun
  | .cells _ t frozen=>.cells cs t frozen
  | o=>o
 let h0:=put w0.heap 0 eL.toArray
 let h1:=put h0 (Tryz.laysValid_ren.g 3) (Lib.firstTab.map fun z=>Value.int .u8 z).toArray
 let h2:=put h1 (Tryz.laysValid_ren.g 4) ((List.range 16).flatMap fun i=>[Value.int .u8 (Lib.accLo i),Value.int .u8 (Lib.accHi i)]).toArray
 { w0 with heap:=h2 }
theorem laidWorld_met (os:Os) (args:Array Value):laidMet aC laidQ ((laidWorld os).forCall (fun _ _=>0) ⟨#[],args,[]⟩).memory:=
 (LaidIn.of_run (l:=laidQ) [0,Tryz.laysValid_ren.g 4,Tryz.laysValid_ren.g 3] 8 (by kernel_rfl) (by kernel_rfl) (by kernel_rfl) (by kernel_rfl)).met
end
section
open Go.Lib
attribute [local go_sem] opC upC
def UX (w:World) (lo d u:Nat) (M:MD) (U:MU):Prop:=∃ jk,jk.K.d=d /\ 3 < lo /\ lo <= w.heap.size /\ (∀ q,jk.all q -> lo <= q) /\ lo <= u /\ UAt w jk u M U
def DX4 (w:World) (lo d:Nat) (M:MD):Prop:=∃ K:DK,K.d=d /\ 3 < lo /\ lo <= w.heap.size /\ (∀ b,K.foot b -> lo <= b) /\ bj w K M
theorem UX.keep {w w':World} {lo d u:Nat} {M:MD} {U:MU} (h:UX w lo d u M U) (hb:Below w.heap.size w w'):UX w' lo d u M U:=by
 obtain⟨jk,h1,h2,h3,h4,h5,h6⟩:=h;exact⟨jk,h1,h2,au h3 hb.size,h4,h5,h6.keep hb⟩
theorem DX4.keep {w w':World} {lo d:Nat} {M:MD} (h:DX4 w lo d M) (hb:Below w.heap.size w w'):DX4 w' lo d M:=by
 obtain⟨jk,h1,h2,h3,h4,h6⟩:=h;exact⟨jk,h1,h2,au h3 hb.size,h4,h6.kept hb⟩
theorem UX.disk {w:World} {lo d u:Nat} {M:MD} {U:MU} (h:UX w lo d u M U):DX4 w lo d M:=by
 obtain⟨jk,h1,h2,h3,h4,h5,h6⟩:=h;exact⟨jk.K,h1,h2,h3,fun b hb=>h4 b (.inr (.inl hb)),h6.jat.disk⟩
theorem UX.lo {w:World} {lo d u:Nat} {M:MD} {U:MU} (h:UX w lo d u M U):3 < lo /\ lo <= w.heap.size:=by
 obtain⟨jk,h1,h2,h3,h4,h5,h6⟩:=h;exact⟨h2,h3⟩
theorem DX4.lo {w:World} {lo d:Nat} {M:MD} (h:DX4 w lo d M):3 < lo /\ lo <= w.heap.size:=by
 obtain⟨jk,h1,h2,h3,h4,h6⟩:=h;exact⟨h2,h3⟩
theorem dF.low {w w':World} {lo:Nat} (h:dF w) (h4:3 < lo) (hb:Below lo w w'):dF w':=
 ⟨h.1.keep (hb.block 0 (by omega)),h.2.1.keep (fun a ha=>hb.cell (p:=a) (by omega)),au h.2.2 hb.size⟩
theorem ct.ux {w w':World} {jk:JK} {lo d u:Nat} {r:MD × MU × Int} {e:Ending} (h:ct w jk u r e w') (h1:jk.K.d=d) (h2:3 < lo) (h3:lo <= w.heap.size) (h4:∀ q,jk.all q -> lo <= q) (h5:lo <= u):
 e=.returned (.int .i64 r.2.2) /\ UX w' lo d u r.1 r.2.1 /\ Below lo w w':=by
 obtain⟨rfl,jk',k1,k2,k3,k4,k5⟩:=h
 have hb:Below lo w w':=k5.below (fun q hq=>by
  rcases hq with hq | hq
  ·exact h4 q hq
  ·omega) h3
 refine⟨rfl,⟨jk',by rw[k2,h1],h2,au h3 hb.size,fun q hq=>?_,h5,k3⟩,hb⟩;rcases k4 q hq with h | h
 ·exact h4 q h
 ·omega
theorem sZ (w:World) (hL:dF w) (lo d u:Nat) (M:MD) (U:MU) (h:UX w lo d u M U) (hd:U.dev < 8) (hv:validR U.m=true) (F:aV) (kv:Value) (l:List RKey) (hl:Rows F w 1 kv l.length (l.map Go.Proofs.encStr)) (hln:l.length <= 1000) (hkl:∀ k ∈ l,k.length <= 1000) (hw:M.writes+200000 < 4611686018427387904):
 Calls aC 23 #[.pointer (some ⟨u,0,none⟩),kv] w fun e w'=>e=.returned (.int .i64 (cq M U l).2.2) /\ UX w' lo d u (cq M U l).1 (cq M U l).2.1 /\ Below lo w w':=by
 obtain⟨jk,h1,h2,h3,h4,h5,h6⟩:=h;refine(jc w hL.2.1 hL.2.2 hL.1 jk u M U h6 hd hv F kv l hl hln hkl hw).mono ?_;intro e w' hp;exact hp.ux h1 h2 h3 h4 h5
theorem tC (w:World) (hL:dF w) (lo d u:Nat) (M:MD) (U:MU) (h:UX w lo d u M U) (hd:U.dev < 8) (hv:validR U.m=true) (F:aV) (kv:Value) (l:List RKey) (hl:Rows F w 1 kv l.length (l.map Go.Proofs.encStr)) (hln:l.length <= 1000) (hkl:∀ k ∈ l,k.length <= 1000) (hw:M.writes+200000 < 4611686018427387904):
 Calls aC 40 #[.pointer (some ⟨u,0,none⟩),kv] w fun e w'=>e=.returned (.int .i64 (du M U l).2.2) /\ UX w' lo d u (du M U l).1 (du M U l).2.1 /\ Below lo w w':=by
 obtain⟨jk,h1,h2,h3,h4,h5,h6⟩:=h;refine(nU w hL.2.1 hL.2.2 hL.1 jk u M U h6 hd hv F kv l hl hln hkl hw).mono ?_;intro e w' hp;exact hp.ux h1 h2 h3 h4 h5
theorem fs (w:World) (lo d u:Nat) (M:MD) (U:MU) (h:UX w lo d u M U) (hv:validR U.m=true):
 Calls aC 19 #[.pointer (some ⟨u,0,none⟩)] w (pX w U.m):=by
 obtain⟨jk,h1,h2,h3,h4,h5,h6⟩:=h;exact rR w jk u M U h6 hv
theorem gP (w:World) (lo d u:Nat) (M:MD) (U:MU) (h:UX w lo d u M U):
 Calls aC 17 #[.pointer (some ⟨u,0,none⟩)] w fun e w'=>e=.returned (.int .i64 (U.dev:Int)) /\ w=w':=by
 obtain⟨jk,h1,h2,h3,h4,h5,h6⟩:=h;exact pt w jk u M U h6
theorem p8 (w:World) (lo d u:Nat) (M:MD) (U:MU) (h:UX w lo d u M U):
 Calls aC 22 #[.pointer (some ⟨u,0,none⟩)] w fun e w'=>e=.returned (.bool U.J.dead) /\ w=w':=by
 obtain⟨jk,h1,h2,h3,h4,h5,h6⟩:=h;exact gp w jk u M U h6
theorem s5 (w:World) (lo d:Nat) (M:MD) (h:DX4 w lo d M):
 Calls aC 21 #[.pointer (some ⟨d,0,none⟩)] w fun e w'=>e=.returned (.bool M.down) /\ w=w':=by
 obtain⟨K,rfl,h2,h3,h4,h6⟩:=h;exact mZ w K M h6
theorem eW (w:World) (lo d:Nat) (M:MD) (h:DX4 w lo d M):
 Calls aC 37 #[.pointer (some ⟨d,0,none⟩)] w fun e w'=>e=.returned (.int .i64 (M.writes:Int)) /\ w=w':=by
 obtain⟨K,rfl,h2,h3,h4,h6⟩:=h;exact oD w K M h6
def tP (w:World) (lo d:Nat) (M:MD) (r:MU ⊕ Int) (e:Ending) (w':World):Prop:=(match r with
 | .inr c=>e=.returned (.tuple #[.pointer none,.int .i64 c])
 | .inl U=>∃ u,e=.returned (.tuple #[.pointer (some ⟨u,0,none⟩),.int .i64 0]) /\ UX w' lo d u M U) /\ Below w.heap.size w w'
theorem mI (w:World) (hL:dF w) (lo d:Nat) (M:MD) (h:DX4 w lo d M):Calls aC 16 #[.pointer (some ⟨d,0,none⟩)] w (tP w lo d M (fe M)):=by
 obtain⟨K,rfl,h2,h3,h4,h6⟩:=h;refine(qM w hL.2.1 hL.2.2 hL.1 K M h6 fun b hb=>aw h2 (h4 b hb)).mono ?_;rintro e w' ⟨hp,hb⟩;refine⟨?_,hb⟩;cases hr:fe M with
 | inr c=>rw[hr] at hp;exact hp
 | inl U=>
   rw[hr] at hp;obtain⟨u,jk,e1,e2,e3,e4,e5⟩:=hp;refine⟨u,e1,jk,e2,h2,au h3 hb.size,fun q hq=>?_,by omega,e3⟩;rcases e4 q hq with h | h
   ·exact h4 q h
   ·omega
theorem pB (w:World) (hL:dF w) (lo d:Nat) (M:MD) (h:DX4 w lo d M) (h8:8 <= M.S.length) (hw:M.writes+200000 < 4611686018427387904) (dev:Nat) (hdev:dev < 8) (hf:(cB M).2=0) (ha:(ef M dev).2.2=0):
 Calls aC 12 #[.pointer (some ⟨d,0,none⟩),.int .i64 (dev:Int)] w fun e w'=>∃ u,e=.returned (.tuple #[.pointer (some ⟨u,0,none⟩),.int .i64 0]) /\ UX w' lo d u (ef M dev).1 (ef M dev).2.1 /\ Below lo w w':=by
 obtain⟨K,rfl,h2,h3,h4,h6⟩:=h;refine(og w hL.2.1 hL.2.2 hL.1 K M h6 h8 (fun b hb=>aw h2 (h4 b hb)) hw dev hdev hf ha).mono ?_;rintro e w' ⟨u,jk,rfl,e2,e3,e4,e5,e6⟩;have hb:Below lo w w':=e6.below h4 h3;refine⟨u,rfl,⟨jk,e2,h2,au h3 hb.size,fun q hq=>?_,by omega,e3⟩,hb⟩;rcases e4 q hq with h | h
 ·exact h4 q h
 ·omega
theorem r7 (w:World) (h4:4 <= w.heap.size) (n:Nat) (h1:0 < n) (h2:n <= 65536):
 Calls aC 11 #[.int .i64 (n:Int)] w fun e w'=>∃ d,e=.returned (.tuple #[.pointer (some ⟨d,0,none⟩),.int .i64 0]) /\ DX4 w' w.heap.size d (MD.fresh n) /\ Below w.heap.size w w':=by
 refine(tm w n h1 h2).mono ?_;rintro e w' ⟨K,rfl,hd,hb,hf⟩;exact⟨K.d,rfl,⟨K,rfl,by omega,hb.size,hf,hd⟩,hb⟩
theorem s6 (w:World) (lo d u:Nat) (M:MD) (U:MU) (h:UX w lo d u M U) (n:Int) (h0':0 <= n) (hn:n <= 9223372036854775807) (F:aV) (v:Value) (l:List UInt8) (hv:Bytes F w v l) (hl:l.length=64):
 Calls aC 15 #[.pointer (some ⟨d,0,none⟩),.int .i64 n,v] w fun e w'=>e=.returned (.int .i64 0) /\ UX w' lo d u { M with fault:=some (n.toNat,l) } U /\ Below lo w w':=by
 obtain⟨jk,rfl,h2,h3,h4,h5,h6⟩:=h;refine(rD w jk.K M h6.jat.disk n h0' hn F v l hv hl).mono ?_;rintro e w' ⟨rfl,⟨K',hK',hKf,hd'⟩,ho⟩;have hb:Below lo w w':=ho.below (fun b hb=>h4 b (.inr (.inl hb))) h3;have hj:=h6.jat.onDisk hd' hK' hKf ho rfl
 have hall:∀ b,(⟨jk.j,K',jk.O⟩:JK).all b -> jk.all b \/ w.heap.size <= b:=fun b hb=>by
  rcases hb with hb | hb | hb
  ·exact .inl (.inl hb)
  ·rcases hKf b hb with h | h
   ·exact .inl (.inr (.inl h))
   ·exact .inr h
  ·exact .inl (.inr (.inr hb))
 obtain⟨jk2,g1,g2,g3,g4⟩:=h6.moved (ho.mono fun b hb=>.inr (.inl hb)) hj rfl hall (by omega);have e:(⟨U.dev,U.m,U.J⟩:MU)=U:=rfl;refine⟨rfl,⟨jk2,by rw[g2];exact hK',h2,au h3 hb.size,fun q hq=>?_,h5,g4⟩,hb⟩;rcases g3 q hq with h | h
 ·exact h4 q h
 ·omega
end
section
open Go.ChangeShapes Go.WideShapes Go.Deep
theorem pC {w:World} {a:Addr} {v:Value} (h:w.cell? a=some v):a.spot=none /\ ∃ L t fz,w.heap[a.block]?=some (.cells L t fz) /\ L[a.off]?=some v:=by
 unfold World.cell? at h;split at h
 ·rename_i c e f hb
  by_cases hs:a.spot.isSome=true
  ·simp[hs] at h
  ·refine⟨by simpa using hs,c,e,f,hb,?_⟩;simpa[hs] using h
 ·cases h
def lP (k:Nat) (E:List Value -> Prop) (w:World) (v:Value) (n:Nat):Prop:=
 ∃ a cap,v=.slice a n cap /\ n <= cap /\ cap <= maxLen /\ (a=none -> cap=0) /\
   (n=0 \/ ∃ b off L t fz,a=some ⟨b,off,none⟩ /\ b < w.heap.size /\ w.heap[b]?=some (.cells L t fz) /\ off+n * k <= L.size /\ ∀ i,i < n -> E ((L.toList.drop (off+i * k)).take k))
section
variable {H:Type} {enc:TypeId × Value -> H} {P:Program} {w:World} {base:Nat} {held:Bool}
theorem gQ {t e:TypeId} {fuel k:Nat} {v:Value} {x:DataW H × List MemPlace} (hk:0 < k) (ht:P.underlying t=some (.slice e)) (hC:P.cellsOf e=k) (E:List Value -> Prop)
 (hE:∀ (m:Nat) (cs:List Value) (y:DataW H × List MemPlace),DataW.trod enc P w base (fun _=>true) held m e cs=some y -> E cs)
 (h:DataW.trod enc P w base (fun _=>true) held fuel t [v]=some x):∃ n,lP k E w v n:=by
 rcases open_slice ht h with ⟨h0,_⟩ | ⟨a,len,cap,m,n,D,Pl,hcs,hb,hl,hm,hmm,hx,hi⟩
 ·simp at h0;subst h0;exact⟨0,none,0,rfl,aq _,by unfold maxLen;omega,fun _=>rfl,.inl rfl⟩
 ·simp at hcs;subst hcs;simp only[if_true] at hmm;subst hmm;refine⟨len,some a,m,rfl,hl,hm,nofun,?_⟩
  by_cases h0:len=0
  ·exact .inl h0
  ·right;rw[hC] at hi;obtain⟨cs0,hc0,_⟩:=hi 0 (by omega);obtain⟨_,hl0,ha0⟩:=World.cells?_some hc0;have h00:=ha0 0 hk;rw[List.getElem?_eq_getElem (by omega)] at h00;simp only[Nat.zero_mul] at h00;have hadd:(a.add 0).add 0=a:=by simp[Addr.add]
   rw[hadd] at h00;obtain⟨hs,L,t',fz,hbk,_⟩:=pC h00;have haa:a=⟨a.block,a.off,none⟩:=by cases a;simp_all
   have hcell:∀ i j,i < len -> j < k -> ∀ cs',w.cells? base (a.add (i * k)) k=some cs' -> L[a.off+i * k+j]?=cs'[j]?:=by
    intro i j hi' hj cs' hcs';obtain⟨_,hlc,hac⟩:=World.cells?_some hcs';have hh:=hac j hj;rw[add_add,haa,Addr.add_lit,cell_of_row w a.block _ L t' fz hbk] at hh;rw[Nat.add_assoc];exact hh
   refine⟨a.block,a.off,L,t',fz,by rw[<- haa],lt_of_block hbk,hbk,?_,fun i hil=>?_⟩
   ·obtain⟨cs1,hc1,_⟩:=hi (len - 1) (by omega);obtain⟨_,hl1,_⟩:=World.cells?_some hc1;have:=hcell (len - 1) (k - 1) (by omega) (by omega) cs1 hc1;rw[List.getElem?_eq_getElem (by omega)] at this;have:=(Array.getElem?_eq_some_iff.1 this).1
    have e1:len * k=(len - 1) * k+k:=by
     obtain⟨q,rfl⟩:∃ q,len=q+1:=⟨len - 1,by omega⟩
     simp[Nat.add_mul]
    omega
   ·obtain⟨cs1,hc1,ht1⟩:=hi i (by omega);obtain⟨_,hl1,_⟩:=World.cells?_some hc1
    have e:(L.toList.drop (a.off+i * k)).take k=cs1:=by
     apply List.ext_getElem?;intro j;rw[List.getElem?_take]
     by_cases hj:j < k
     ·rw[if_pos hj,List.getElem?_drop,<- hcell i j hil hj cs1 hc1];simp
     ·rw[if_neg hj,List.getElem?_eq_none (by omega)]
    rw[e];exact hE _ _ _ ht1
end
theorem lP.keep {k:Nat} {E:List Value -> Prop} {w w':World} {v:Value} {n:Nat} (h:lP k E w v n) (hb:Below w.heap.size w w'):lP k E w' v n:=by
 obtain⟨a,cap,rfl,h1,h2,h3,h4⟩:=h;refine⟨a,cap,rfl,h1,h2,h3,?_⟩;rcases h4 with h4 | ⟨b,off,L,t,fz,rfl,hlt,hg,hle,hE⟩
 ·exact .inl h4
 ·exact .inr ⟨b,off,L,t,fz,rfl,aw hlt hb.size,(hb.block b hlt).trans hg,hle,hE⟩
end
section
open Go.ChangeShapes Go.WideShapes Go.ChangeAt Go.Deep
theorem fT {α:Type} (enc:α -> List Value) (k:Nat) (hk0:0 < k) (hk:∀ x,(enc x).length=k) (E:List Value -> Prop) (Q:α -> Prop) (hE:∀ cs,E cs -> ∃ x,cs=enc x /\ Q x) {w:World} {v:Value} {n:Nat} (h:lP k E w v n):
 ∃ l:List α,l.length=n /\ (∀ x ∈ l,Q x) /\ Rows (fun b=>b < w.heap.size) w k v n (l.flatMap enc):=by
 obtain⟨a,cap,rfl,h1,h2,h3,h4⟩:=h
 by_cases hn:n=0
 ·subst hn;exact⟨[],rfl,nofun,a,cap,rfl,h1,h2,h3,by simp,.inl rfl⟩
 ·obtain⟨b,off,L,t,fz,rfl,hb,hg,hle,hEE⟩:=h4.resolve_left hn;have hval:∀ i,i < n -> ∃ x,(L.toList.drop (off+i * k)).take k=enc x /\ Q x:=fun i hi=>hE _ (hEE i hi)
  obtain⟨x0,_⟩:=hval 0 (by omega)
  let f:Nat -> α:=fun i=>if h:i < n then Classical.choose (hval i h) else x0
  have hf:∀ i,i < n -> (L.toList.drop (off+i * k)).take k=enc (f i) /\ Q (f i):=fun i h=>by
   simp only[f,dif_pos h];exact Classical.choose_spec (hval i h)
  have hlen:((List.range n).map f).length=n:=by simp
  refine⟨(List.range n).map f,hlen,fun x hx=>?_,some ⟨b,off,none⟩,cap,rfl,h1,h2,nofun,by rw[bI enc k hk,hlen],.inr ⟨b,off,L,t,fz,rfl,hb,hg,hle,fun i hi=>?_⟩⟩
  ·obtain⟨i,hi,rfl⟩:=List.mem_map.1 hx;exact(hf i (List.mem_range.1 hi)).2
  ·have hq:i / k < n:=Nat.div_lt_of_lt_mul (by rw[Nat.mul_comm];exact hi);have hr:i % k < k:=Nat.mod_lt _ hk0;have hi2:i / k * k+i % k=i:=by rw[Nat.mul_comm];exact Nat.div_add_mod i k
   have e1:=dt enc k hk ((List.range n).map f) (i / k) (i % k) (by simpa using hq) hr;rw[hi2] at e1;rw[e1];simp only[List.getElem_map,List.getElem_range];rw[<- (hf _ hq).1,List.getElem?_take,if_pos hr,List.getElem?_drop,Nat.add_assoc,hi2];simp
def sd (cs:List Value):Prop:=∃ n:Int,cs = [.int .i64 n] /\ cw n
def se (cs:List Value):Prop:=∃ s:ByteArray,cs = [.string s] /\ s.size <= maxLen
def tD (cs:List Value):Prop:=∃ x:RIt,cs=aZ x /\ x.key.length <= 9223372036854775807 /\ cw x.dev /\ cw x.seq /\ cw x.val
def tE (cs:List Value):Prop:=∃ x:RGo,cs=cn x /\ x.key.length <= 9223372036854775807 /\ cw x.dev /\ cw x.seq
def tQ (l:List UInt8):List Value:=[Go.Proofs.encStr l]
theorem mJ (s:ByteArray):Value.string s=Go.Proofs.encStr s.data.toList:=by cases s;simp[Go.Proofs.encStr]
theorem mK {s:ByteArray} (h:s.size <= maxLen):s.data.toList.length <= 9223372036854775807:=by
 have:s.size=s.data.size:=rfl;simp;unfold maxLen at h;omega
section
variable {H:Type} {enc:TypeId × Value -> H} {w:World} {base:Nat} {held:Bool}
theorem jf {m:Nat} {cs:List Value} {y:DataW H × List MemPlace} (h:DataW.trod enc aC w base (fun _=>true) held m 3 cs=some y):sd cs:=by
 obtain⟨z,rfl,_,wz⟩:=DataW.trod_int Tryz.underlying3 h;exact⟨z,rfl,bounds_i64 wz⟩
theorem pD {m:Nat} {cs:List Value} {y:DataW H × List MemPlace} (h:DataW.trod enc aC w base (fun _=>true) held m 9 cs=some y):se cs:=by
 obtain⟨s,rfl,_,ws⟩:=DataW.trod_string Tryz.underlying9 h;exact⟨s,rfl,ws⟩
theorem jg:aC.cellsOf 9=1:=by kernel_rfl
theorem gZ:aC.cellsOf 3=1:=by kernel_rfl
theorem pE:aC.cellsOf 33=1:=by kernel_rfl
end
theorem qO (l:List Int):l.flatMap (fun n=>[eI n])=l.map eI:=by induction l with
 | nil=>rfl
 | cons x l ih=>rw[List.flatMap_cons,ih];rfl
theorem qP (l:List (List UInt8)):l.flatMap tQ=l.map Go.Proofs.encStr:=by induction l with
 | nil=>rfl
 | cons x l ih=>rw[List.flatMap_cons,ih];rfl
end
end Go.Proofs.YtobjdpngnfbicaaGreatDoor
