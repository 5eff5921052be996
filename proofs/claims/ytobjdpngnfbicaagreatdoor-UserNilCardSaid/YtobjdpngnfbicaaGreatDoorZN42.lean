/-
  UForm ULaid UX Read JL4 JA JV
-/
import Derived.Test.YtobjdpngnfbicaaGreatDoorZN29
import Derived.Test.YtobjdpngnfbicaaGreatDoorZN18
import Derived.Test.YtobjdpngnfbicaaGreatDoorRows
import Derived.Test.YtobjdpngnfbicaaGreatDoorZN20
import Derived.Test.YtobjdpngnfbicaaGreatDoorZN10
import Derived.ChangeSame
import Derived.ChangeVars
import Derived.JoinedOf
import Derived.RowKit
import Derived.Lib.LaidIn
import Derived.Lib.LaidU8T
import Derived.Test.YtobjdpngnfbicaaGreatDoorZN41
import Derived.Test.YtobjdpngnfbicaaGreatDoorZN36
import Derived.Test.YtobjdpngnfbicaaGreatDoorZN03
import Derived.OpenShut
import Derived.Deep.Slices
import Derived.Test.YtobjdpngnfbicaaGreatDoorZN26
import Derived.Test.YtobjdpngnfbicaaGreatDoorZN39
namespace Go.Proofs.YtobjdpngnfbicaaGreatDoor
open Go.RowKit Go.Lib
set_option linter.unusedVariables false
set_option maxRecDepth 20000
attribute [local go_sem] opC upC
theorem new_valid:validR .new=true:=by decide +kernel
theorem new_in {F:Blks} {w:World} {b:Nat} (h:Blk w b (List.replicate 8 (.int .i64 0)) 3) (hF:F b):MapIn F w (.slice (some ⟨b,0,none⟩) 8 8) (.slice none 0 0) (.slice none 0 0) .new:=by
 refine ⟨⟨_,8,rfl,by decide,by unfold maxLen;omega,nofun,rfl,.inr ⟨b,0,_,_,_,rfl,hF,h,by simp;decide,fun i hi=>?_⟩⟩,Rows.nil _ _ _,Rows.nil _ _ _,?_,nofun,nofun⟩
 · have hi8:i < 8:=hi
   rcases (show i=0∨i=1∨i=2∨i=3∨i=4∨i=5∨i=6∨i=7 by omega) with rfl | rfl | rfl | rfl | rfl | rfl | rfl | rfl <;> rfl
 · intro n hn
   have:n=0:=by
    have hm:n ∈ List.replicate 8 (0:Int):=hn
    exact (List.mem_replicate.1 hm).2
   subst this
   exact ⟨by decide,by decide⟩
def FormPost (w:World) (K:DK) (r:MD × MU × Int) (e:Ending) (w':World):Prop:=∃ u jk,e=.returned (.tuple #[.pointer (some ⟨u,0,none⟩),.int .i64 0])∧jk.K.d=K.d∧UAt w' jk u r.1 r.2.1∧(∀ q,jk.all q→K.foot q∨w.heap.size≤q)∧w.heap.size≤u∧Only K.foot w w'
set_option maxHeartbeats 4000000 in
theorem uformat_any (w:World) (hT:Tabs w) (h3:4≤w.heap.size) (hq:Quarter w) (K:DK) (M:MD) (hd:DiskAt w K M) (h8:8≤M.S.length) (hlow:∀ b,K.foot b→3 < b) (hw:M.writes+200000 < 4611686018427387904) (dev:Nat) (hdev:dev < 8) (hf:(formatM M).2=0) (ha:(formU M dev).2.2=0):
 Calls Tryz.prog 12 #[.pointer (some ⟨K.d,0,none⟩),.int .i64 (dev:Int)] w (FormPost w K (formU M dev)):=by
 have hF:=format_any w K M hd h8 hq (fun h0=>by have:=hlow 0 h0;omega) (by omega)
 have hfw:(formatM M).1.S.length=M.S.length∧(formatM M).1.writes≤M.writes+65540:=by
  have h1:=writeAll_len ((List.range M.S.length).map (fun i=>(i,List.replicate 64 0)) ++ [(0,headB 0)]) M
  have h2:((List.range M.S.length).map (fun i=>(i,List.replicate 64 (0:UInt8))) ++ [(0,headB 0)]).length=M.S.length+1:=by simp
  have h3:=hd.le
  unfold formatM
  exact ⟨h1.1,Nat.le_trans h1.2 (by omega)⟩
 have h0I:¬ (dev:Int) < 0:=by omega
 have h8I:¬ (8:Int)≤(dev:Int):=by omega
 obtain ⟨sB,hsB⟩:∃ sB,stateB dev .new=sB:=⟨_,rfl⟩
 have Hfu:=Lib.hid (show formU M dev=((appendM (formatM M).1 ⟨0,[],false⟩ sB).1,⟨dev,.new,(appendM (formatM M).1 ⟨0,[],false⟩ sB).2.1⟩,(appendM (formatM M).1 ⟨0,[],false⟩ sB).2.2) by rw [←hsB];rfl)
 have HF:=Lib.hid hF;have Hf:=Lib.hid hf;have Ha:=Lib.hid ha;have Hfw:=Lib.hid hfw;have Hlow:=Lib.hid hlow;have Hw:=Lib.hid hw;have Hdev:=Lib.hid hdev;have HT:=Lib.hid hT;have HQ:=Lib.hid hq;have HsB:=Lib.hid hsB;have HKl:=Lib.hid hd.lt
 clear hF hf ha hfw hlow hw hdev hT hq hsB hd h8
 go_enter Tryz.func12,Tryz.ntmps12
 go_wp2_with fail
 refine HF.out.mono ?_
 rintro e w1 ⟨K',e1,e2,ho1,h1⟩
 obtain ⟨-,jb,rfl,hjb,hj⟩:=h1.resolve_right (fun h=>h.1 Hf.out)
 obtain ⟨jk,g1,g2,hj1,g3,hjt⟩:=hj.slim
 have hjl:∀ b,jk.all b→K.foot b∨w.heap.size≤b:=fun b hb=>by
  rcases g3 b hb with h | h | h
  · right;rw [h];exact hjb
  · left;exact e2 b h
  · exact h.elim
 have hlow1:∀ b,jk.all b→3 < b:=fun b hb=>by
  rcases hjl b hb with h | h
  · exact Hlow.out b h
  · omega
 have hlw:∀ q,q < 4→w1.heap[q]?=w.heap[q]?:=fun q hq=>ho1.block q (by omega) fun ha=>by have:=Hlow.out q ha;omega
 have HT1:=Lib.hid (show Tabs w1 from HT.out.keep fun a ha=>by
  have e:=hlw a.block ha
  unfold World.cell?
  rw [e])
 have HQ1:=Lib.hid (show Quarter w1 from HQ.out.keep (hlw 0 (by omega)))
 have Hj1:=Lib.hid hj1;have Hjt:=Lib.hid hjt;have Hjl:=Lib.hid hjl;have Hlow1:=Lib.hid hlow1;have Hg1:=Lib.hid (show jk.j=jb from g1);have Hkd:=Lib.hid (show jk.K.d=K.d by rw [g2];exact e1);have Ho1:=Lib.hid ho1
 have HN:=Lib.hid (pnewO_any w1)
 clear HF h1 hj g1 g2 g3 hj1 hjt hjl hlow1 hlw ho1 e1 e2 hjb
 go_wp2_with fail
 refine HN.out.mono ?_
 rintro e w2 ⟨rfl,hblk,hb2⟩
 obtain ⟨w3,hw3⟩:∃ w3,w3=w2.alloc (.cells #[.int .i64 (dev:Int),.slice (some ⟨w1.heap.size+1,0,none⟩) 8 8,.slice none 0 0,.slice none 0 0,.pointer (some ⟨jb,0,none⟩)] 93):=⟨_,rfl⟩
 have hb13:Below w1.heap.size w1 w3:=by rw [hw3];exact hb2.alloc hb2.size _
 have hb23:Below w2.heap.size w2 w3:=by rw [hw3];exact kept_alloc _ _
 have hblk3:=hblk.keep (hb23.block _ hblk.lt)
 have hnj:NJ w3 (w1.heap.size+1):=⟨_,_,_,hblk3,tj_int,by decide,by decide⟩
 have hU3:UAt w3 jk w2.heap.size (formatM M).1 ⟨dev,.new,⟨0,[],false⟩⟩:=
  ⟨⟨_,_,_,_,_,_,by rw [Hg1.out,hw3];exact Blk.new _ _ _,new_in hblk3 hnj⟩,Hj1.out.kept hb13,Hjt.out.keep fun b hb=>hb13.block b (Hj1.out.lt b hb),Hlow1.out⟩
 have hs1:=Ho1.out.size
 have HSt:=Lib.hid (state_any w3 (tabs_below HT1.out (by omega) hb13) (by have:=hb13.size;omega) jk w2.heap.size _ _ hU3 Hdev.out new_valid)
 have HU3:=Lib.hid hU3;have Hw3:=Lib.hid hw3;have HB13:=Lib.hid hb13;have Hs2:=Lib.hid hb2.size
 clear HN hblk hb2 hw3 hb13 hb23 hblk3 hnj hU3 hs1
 go_wp2_with fail
 rw [←Hw3.out]
 refine HSt.out.mono ?_
 rintro e w4 ⟨⟨r4,rfl,ho4⟩,hb4⟩
 have hU4:=HU3.out.keep hb4
 have hj3:=HU3.out.jat.lt
 have hB4:Bytes (fun q=>w3.heap.size≤q∧q < w4.heap.size) w4 r4 sB:=by rw [←HsB.out];exact Bytes.of_owns ho4 _ fun q h1 h2=>⟨h1,h2⟩
 have hb14:Below w1.heap.size w1 w4:=HB13.out.trans (hb4.mono HB13.out.size)
 have HA:=Lib.hid (by
  have hs1:=Ho1.out.size
  have hA:=append_any w4 jk (formatM M).1 ⟨0,[],false⟩ hU4.jat _ _ sB hB4 (fun q hq=>⟨hq.2,fun ha=>by have:=hj3 q ha;omega⟩) (fun h0=>by have:=hU4.low 0 h0;omega) (HQ1.out.keep (hb14.block 0 (by omega))) (by have:=Hw.out;have:=Hfw.out.2;omega)
  rw [Hg1.out] at hA
  exact hA)
 obtain ⟨r,hr⟩:∃ r,appendM (formatM M).1 ⟨0,[],false⟩ sB=r:=⟨_,rfl⟩
 rw [hr] at HA Hfu
 obtain ⟨M5,J5,er⟩:=r
 have her:er=0:=by have h:=Ha.out;rw [Hfu.out] at h;exact h
 subst her
 have HU4:=Lib.hid hU4;have Hb14:=Lib.hid hb14
 obtain ⟨a4,c4,rfl⟩:=own_shape ho4
 clear HSt hU4 hj3 hB4 hb14 ho4 hb4 hr
 go_wp2_with fail
 refine HA.out.mono ?_
 rintro e w5 ⟨rfl,jk5,k1,k2,k3,k4,k5⟩
 have hs1:=Ho1.out.size
 have hs4:=Hb14.out.size
 obtain ⟨J5',l1,l2,l3,hU5⟩:=HU4.out.moved k5 k3 (k1.trans Hg1.out.symm) k4 (by omega)
 have Hfin:=Lib.hid (show FormPost w K (formU M dev) (.returned (.tuple #[.pointer (some ⟨w2.heap.size,0,none⟩),.int .i64 0])) w5 from by
  rw [Hfu.out]
  refine ⟨w2.heap.size,J5',rfl,by rw [l2,k2];exact Hkd.out,hU5,fun q hq=>?_,by have:=Hs2.out;omega,?_⟩
  · rcases l3 q hq with h | h
    · exact Hjl.out q h
    · right;omega
  · exact (Ho1.out.trans (Only.of_below (F:=none_) Hb14.out) fun _ hf=>hf.elim).trans k5 Hjl.out)
 clear HA k1 k2 k3 k4 k5 l1 l2 l3 hU5 hs1 hs4
 go_wp2_with fail
 exact bodyPost_ret (v:=.tuple #[.pointer (some ⟨w2.heap.size,0,none⟩),.int .i64 0]) (by simp [results,Tryz.results12,go_sem]) rfl Hfin.out
end Go.Proofs.YtobjdpngnfbicaaGreatDoor

namespace Go.Proofs.YtobjdpngnfbicaaGreatDoor
open Go.ChangeShapes Go.WideShapes Go.RowKit Go.Lib
set_option linter.unusedVariables false
set_option maxRecDepth 20000
theorem q_num:Tryz.prog.globalNamed "henkan/crc.quarter"=some 0:=by kernel_rfl
theorem q_type:(Tryz.prog.globals[0]?).map (·.type)=some 260:=by kernel_rfl
theorem q_cells:Tryz.prog.cellsOf 260=16:=by kernel_rfl
theorem q_cell:Tryz.prog.cellsOf 96=1:=by kernel_rfl
theorem q_under:Tryz.prog.underlying 260=some (.array 16 96):=by kernel_rfl
theorem q_underI:Tryz.prog.underlying 96=some (.int .u32):=by kernel_rfl
theorem int_of_trod {H:Type} {enc:TypeId × Value→H} {P:Program} {w:World} {base:Nat} {sp:Nat→Bool} {held:Bool} {fuel:Nat} {t:TypeId} {k:IntKind} {c:Value} {y:DataW H × List MemPlace}
 (ht:P.underlying t=some (.int k)) (h:DataW.trod enc P w base sp held fuel t [c]=some y):∃ n,c=.int k n∧y=(.lit (.int k n),[]):=by
 cases fuel with
 | zero=>simp [DataW.trod] at h
 | succ fuel=>
   cases c <;> simp [DataW.trod,ht] at h
   rename_i k' n
   obtain ⟨⟨rfl,_⟩,rfl⟩:=h
   exact ⟨n,rfl,rfl⟩
abbrev laidQ:List (String × DataW Unit):=[("henkan/crc.quarter",Rows.laid_henkan_crc_quarter),("unicode/utf8.acceptRanges",Rows.laid_unicode_utf8_acceptRanges),("unicode/utf8.first",Rows.laid_unicode_utf8_first)]
theorem accept_eq:Rows.laid_unicode_utf8_acceptRanges (H:=Unit)=Lib.acceptData:=by kernel_rfl
theorem first_eq:Rows.laid_unicode_utf8_first=Lib.firstData:=by kernel_rfl
set_option maxHeartbeats 1000000 in
theorem cells_of_laid {W:World} (h:laidMet Tryz.prog laidQ W):W.var? Tryz.prog "henkan/crc.quarter"=some quarterCells.toArray:=by
 obtain ⟨g,t,cs,fuel,p,hg,ht,hvar,hd⟩:=Lib.laidMet.reads h (.head _)
 obtain rfl:=Option.some.inj (q_num.symm.trans hg)
 obtain rfl:=Option.some.inj (q_type.symm.trans ht)
 rw [hvar]
 congr 1
 obtain ⟨l⟩:=cs
 cases fuel with
 | zero=>simp [DataW.trod] at hd
 | succ fuel=>
   simp only [DataW.trod,q_under,q_cells,q_cell] at hd
   split at hd
   · rename_i hl
     obtain ⟨c0,c1,c2,c3,c4,c5,c6,c7,c8,c9,c10,c11,c12,c13,c14,c15,rfl⟩:∃ c0 c1 c2 c3 c4 c5 c6 c7 c8 c9 c10 c11 c12 c13 c14 c15,l = [c0,c1,c2,c3,c4,c5,c6,c7,c8,c9,c10,c11,c12,c13,c14,c15]:=by
      match l,hl with
      | [c0,c1,c2,c3,c4,c5,c6,c7,c8,c9,c10,c11,c12,c13,c14,c15],_=>exact ⟨c0,c1,c2,c3,c4,c5,c6,c7,c8,c9,c10,c11,c12,c13,c14,c15,rfl⟩
     have e:List.range 16 = [0,1,2,3,4,5,6,7,8,9,10,11,12,13,14,15]:=rfl
     rw [e] at hd
     simp only [Option.map_eq_some_iff,List.mapM_cons,List.mapM_nil,Option.bind_eq_bind,Option.bind_eq_some_iff,Option.pure_def,Option.some.injEq] at hd
     obtain ⟨xs,⟨y0,h0,_,⟨y1,h1,_,⟨y2,h2,_,⟨y3,h3,_,⟨y4,h4,_,⟨y5,h5,_,⟨y6,h6,_,⟨y7,h7,_,⟨y8,h8,_,⟨y9,h9,_,⟨y10,h10,_,⟨y11,h11,_,⟨y12,h12,_,⟨y13,h13,_,⟨y14,h14,_,⟨y15,h15,_,rfl,rfl⟩,rfl⟩,rfl⟩,rfl⟩,rfl⟩,rfl⟩,rfl⟩,rfl⟩,rfl⟩,rfl⟩,rfl⟩,rfl⟩,rfl⟩,rfl⟩,rfl⟩,rfl⟩,hx⟩:=hd
     obtain ⟨n0,rfl,rfl⟩:=int_of_trod q_underI h0
     obtain ⟨n1,rfl,rfl⟩:=int_of_trod q_underI h1
     obtain ⟨n2,rfl,rfl⟩:=int_of_trod q_underI h2
     obtain ⟨n3,rfl,rfl⟩:=int_of_trod q_underI h3
     obtain ⟨n4,rfl,rfl⟩:=int_of_trod q_underI h4
     obtain ⟨n5,rfl,rfl⟩:=int_of_trod q_underI h5
     obtain ⟨n6,rfl,rfl⟩:=int_of_trod q_underI h6
     obtain ⟨n7,rfl,rfl⟩:=int_of_trod q_underI h7
     obtain ⟨n8,rfl,rfl⟩:=int_of_trod q_underI h8
     obtain ⟨n9,rfl,rfl⟩:=int_of_trod q_underI h9
     obtain ⟨n10,rfl,rfl⟩:=int_of_trod q_underI h10
     obtain ⟨n11,rfl,rfl⟩:=int_of_trod q_underI h11
     obtain ⟨n12,rfl,rfl⟩:=int_of_trod q_underI h12
     obtain ⟨n13,rfl,rfl⟩:=int_of_trod q_underI h13
     obtain ⟨n14,rfl,rfl⟩:=int_of_trod q_underI h14
     obtain ⟨n15,rfl,rfl⟩:=int_of_trod q_underI h15
     simp [Rows.laid_henkan_crc_quarter] at hx
     obtain ⟨⟨rfl,rfl,rfl,rfl,rfl,rfl,rfl,rfl,rfl,rfl,rfl,rfl,rfl,rfl,rfl,rfl⟩,_⟩:=hx
     rfl
   · cases hd
theorem quarter_of_laid {W:World} (h:laidMet Tryz.prog laidQ W):Quarter W:=by
 have hv:=cells_of_laid h
 unfold World.var? at hv
 rw [q_num] at hv
 simp only [Option.bind_some] at hv
 split at hv
 · rename_i cs t fz hc
   obtain rfl:=Option.some.inj hv
   exact ⟨_,_,hc⟩
 · cases hv
theorem tabs_of_laid {W:World} (h:laidMet Tryz.prog laidQ W):Tabs W∧4≤W.heap.size:=by
 have h3:=Lib.laidMet.reads h (.tail _ (.tail _ (.head _)))
 have h4:=Lib.laidMet.reads h (.tail _ (.head _))
 rw [first_eq] at h3
 rw [accept_eq] at h4
 have hT:Tabs W:=utf8Tabs_of_readsT (U8Types.of196 Tryz.laysValid) ⟨by kernel_rfl,by kernel_rfl,by kernel_rfl,by kernel_rfl,by kernel_rfl,by kernel_rfl,by kernel_rfl⟩ h3 h4
 refine ⟨hT,?_⟩
 have hc:=(hT.2 0 (by decide)).1
 have h2:Tryz.laysValid_ren.g 4=3:=by decide
 rw [h2] at hc
 have hz:W.heap[3]?≠none:=fun hn=>by simp [World.cell?,hn] at hc
 have:=Array.getElem?_eq_none_iff (xs:=W.heap) (i:=3)
 by_cases hs:W.heap.size≤3
 · exact absurd (this.2 hs) hz
 · omega
def Laid3 (w:World):Prop:=Quarter w∧Tabs w∧4≤w.heap.size
theorem all_of_laid {W:World} (h:laidMet Tryz.prog laidQ W):Laid3 W:=⟨quarter_of_laid h,tabs_of_laid h⟩
theorem Laid3.below {w w':World} (h:Laid3 w) (hb:Below w.heap.size w w'):Laid3 w':=
 ⟨h.1.keep (hb.block 0 (by have:=h.2.2;omega)),tabs_below h.2.1 h.2.2 hb,Nat.le_trans h.2.2 hb.size⟩
noncomputable def laidWorld (os:Os):World:=
 let w0:=World.holding Tryz.prog os ⟨#[],#[],[]⟩
 let put (h:Array Obj) (g:Nat) (cs:Array Value):Array Obj:=h.modify g fun
  | .cells _ t frozen=>.cells cs t frozen
  | o=>o
 let h0:=put w0.heap 0 quarterCells.toArray
 let h1:=put h0 (Tryz.laysValid_ren.g 3) (Lib.firstTab.map fun z=>Value.int .u8 z).toArray
 let h2:=put h1 (Tryz.laysValid_ren.g 4) ((List.range 16).flatMap fun i=>[Value.int .u8 (Lib.accLo i),Value.int .u8 (Lib.accHi i)]).toArray
 { w0 with heap:=h2 }
theorem laidWorld_met (os:Os) (args:Array Value):laidMet Tryz.prog laidQ ((laidWorld os).forCall (fun _ _=>0) ⟨#[],args,[]⟩).memory:=
 (LaidIn.of_run (l:=laidQ) [0,Tryz.laysValid_ren.g 4,Tryz.laysValid_ren.g 3] 8 (by kernel_rfl) (by kernel_rfl) (by kernel_rfl) (by kernel_rfl)).met
end Go.Proofs.YtobjdpngnfbicaaGreatDoor

namespace Go.Proofs.YtobjdpngnfbicaaGreatDoor
open Go.RowKit Go.Lib
set_option linter.unusedVariables false
set_option maxRecDepth 20000
attribute [local go_sem] opC upC
def UX (w:World) (lo d u:Nat) (M:MD) (U:MU):Prop:=∃ jk,jk.K.d=d∧3 < lo∧lo≤w.heap.size∧(∀ q,jk.all q→lo≤q)∧lo≤u∧UAt w jk u M U
def DX4 (w:World) (lo d:Nat) (M:MD):Prop:=∃ K:DK,K.d=d∧3 < lo∧lo≤w.heap.size∧(∀ b,K.foot b→lo≤b)∧DiskAt w K M
theorem UX.keep {w w':World} {lo d u:Nat} {M:MD} {U:MU} (h:UX w lo d u M U) (hb:Below w.heap.size w w'):UX w' lo d u M U:=by
 obtain ⟨jk,h1,h2,h3,h4,h5,h6⟩:=h
 exact ⟨jk,h1,h2,Nat.le_trans h3 hb.size,h4,h5,h6.keep hb⟩
theorem DX4.keep {w w':World} {lo d:Nat} {M:MD} (h:DX4 w lo d M) (hb:Below w.heap.size w w'):DX4 w' lo d M:=by
 obtain ⟨jk,h1,h2,h3,h4,h6⟩:=h
 exact ⟨jk,h1,h2,Nat.le_trans h3 hb.size,h4,h6.kept hb⟩
theorem UX.disk {w:World} {lo d u:Nat} {M:MD} {U:MU} (h:UX w lo d u M U):DX4 w lo d M:=by
 obtain ⟨jk,h1,h2,h3,h4,h5,h6⟩:=h
 exact ⟨jk.K,h1,h2,h3,fun b hb=>h4 b (.inr (.inl hb)),h6.jat.disk⟩
theorem UX.lo {w:World} {lo d u:Nat} {M:MD} {U:MU} (h:UX w lo d u M U):3 < lo∧lo≤w.heap.size:=by
 obtain ⟨jk,h1,h2,h3,h4,h5,h6⟩:=h
 exact ⟨h2,h3⟩
theorem DX4.lo {w:World} {lo d:Nat} {M:MD} (h:DX4 w lo d M):3 < lo∧lo≤w.heap.size:=by
 obtain ⟨jk,h1,h2,h3,h4,h6⟩:=h
 exact ⟨h2,h3⟩
theorem Laid3.low {w w':World} {lo:Nat} (h:Laid3 w) (h4:3 < lo) (hb:Below lo w w'):Laid3 w':=
 ⟨h.1.keep (hb.block 0 (by omega)),h.2.1.keep (fun a ha=>hb.cell (p:=a) (by omega)),Nat.le_trans h.2.2 hb.size⟩
theorem UPostC.ux {w w':World} {jk:JK} {lo d u:Nat} {r:MD × MU × Int} {e:Ending} (h:UPostC w jk u r e w') (h1:jk.K.d=d) (h2:3 < lo) (h3:lo≤w.heap.size) (h4:∀ q,jk.all q→lo≤q) (h5:lo≤u):
 e=.returned (.int .i64 r.2.2)∧UX w' lo d u r.1 r.2.1∧Below lo w w':=by
 obtain ⟨rfl,jk',k1,k2,k3,k4,k5⟩:=h
 have hb:Below lo w w':=k5.below (fun q hq=>by
  rcases hq with hq | hq
  · exact h4 q hq
  · omega) h3
 refine ⟨rfl,⟨jk',by rw [k2,h1],h2,Nat.le_trans h3 hb.size,fun q hq=>?_,h5,k3⟩,hb⟩
 rcases k4 q hq with h | h
 · exact h4 q h
 · omega
theorem learn_X (w:World) (hL:Laid3 w) (lo d u:Nat) (M:MD) (U:MU) (h:UX w lo d u M U) (hd:U.dev < 8) (hv:validR U.m=true) (F:Blks) (kv:Value) (l:List RKey) (hl:Rows F w 1 kv l.length (l.map Go.Proofs.encStr)) (hln:l.length≤1000) (hkl:∀ k ∈ l,k.length≤1000) (hw:M.writes+200000 < 4611686018427387904):
 Calls Tryz.prog 23 #[.pointer (some ⟨u,0,none⟩),kv] w fun e w'=>e=.returned (.int .i64 (learnU M U l).2.2)∧UX w' lo d u (learnU M U l).1 (learnU M U l).2.1∧Below lo w w':=by
 obtain ⟨jk,h1,h2,h3,h4,h5,h6⟩:=h
 refine (learn_any w hL.2.1 hL.2.2 hL.1 jk u M U h6 hd hv F kv l hl hln hkl hw).mono ?_
 intro e w' hp
 exact hp.ux h1 h2 h3 h4 h5
theorem drop_X (w:World) (hL:Laid3 w) (lo d u:Nat) (M:MD) (U:MU) (h:UX w lo d u M U) (hd:U.dev < 8) (hv:validR U.m=true) (F:Blks) (kv:Value) (l:List RKey) (hl:Rows F w 1 kv l.length (l.map Go.Proofs.encStr)) (hln:l.length≤1000) (hkl:∀ k ∈ l,k.length≤1000) (hw:M.writes+200000 < 4611686018427387904):
 Calls Tryz.prog 40 #[.pointer (some ⟨u,0,none⟩),kv] w fun e w'=>e=.returned (.int .i64 (dropU M U l).2.2)∧UX w' lo d u (dropU M U l).1 (dropU M U l).2.1∧Below lo w w':=by
 obtain ⟨jk,h1,h2,h3,h4,h5,h6⟩:=h
 refine (drop_any w hL.2.1 hL.2.2 hL.1 jk u M U h6 hd hv F kv l hl hln hkl hw).mono ?_
 intro e w' hp
 exact hp.ux h1 h2 h3 h4 h5
theorem join_X (w:World) (hL:Laid3 w) (lo d u:Nat) (M:MD) (U:MU) (h:UX w lo d u M U) (hd:U.dev < 8) (hv:validR U.m=true) (F:Blks) (gv:Value) (g:RMap) (hg:MapV F w gv g) (hgk:KeysM g) (hw:M.writes+200000 < 4611686018427387904):
 Calls Tryz.prog 38 #[.pointer (some ⟨u,0,none⟩),gv] w fun e w'=>e=.returned (.int .i64 (joinU M U g).2.2)∧UX w' lo d u (joinU M U g).1 (joinU M U g).2.1∧Below lo w w':=by
 obtain ⟨jk,h1,h2,h3,h4,h5,h6⟩:=h
 refine (join_any w hL.2.1 hL.2.2 hL.1 jk u M U h6 hd hv F gv g hg hgk hw).mono ?_
 intro e w' hp
 exact hp.ux h1 h2 h3 h4 h5
theorem map_X (w:World) (lo d u:Nat) (M:MD) (U:MU) (h:UX w lo d u M U) (hv:validR U.m=true):
 Calls Tryz.prog 19 #[.pointer (some ⟨u,0,none⟩)] w (MapPost w U.m):=by
 obtain ⟨jk,h1,h2,h3,h4,h5,h6⟩:=h
 exact umap_any w jk u M U h6 hv
theorem device_X (w:World) (lo d u:Nat) (M:MD) (U:MU) (h:UX w lo d u M U):
 Calls Tryz.prog 17 #[.pointer (some ⟨u,0,none⟩)] w fun e w'=>e=.returned (.int .i64 (U.dev:Int))∧w=w':=by
 obtain ⟨jk,h1,h2,h3,h4,h5,h6⟩:=h
 exact device_any w jk u M U h6
theorem writes_DX (w:World) (lo d:Nat) (M:MD) (h:DX4 w lo d M):
 Calls Tryz.prog 37 #[.pointer (some ⟨d,0,none⟩)] w fun e w'=>e=.returned (.int .i64 (M.writes:Int))∧w=w':=by
 obtain ⟨K,rfl,h2,h3,h4,h6⟩:=h
 exact writes_any w K M h6
def OpenX (w:World) (lo d:Nat) (M:MD) (r:MU ⊕ Int) (e:Ending) (w':World):Prop:=(match r with
 | .inr c=>e=.returned (.tuple #[.pointer none,.int .i64 c])
 | .inl U=>∃ u,e=.returned (.tuple #[.pointer (some ⟨u,0,none⟩),.int .i64 0])∧UX w' lo d u M U)∧Below w.heap.size w w'
theorem open_UX (w:World) (hL:Laid3 w) (lo d:Nat) (M:MD) (h:DX4 w lo d M):Calls Tryz.prog 16 #[.pointer (some ⟨d,0,none⟩)] w (OpenX w lo d M (openU M)):=by
 obtain ⟨K,rfl,h2,h3,h4,h6⟩:=h
 refine (uopen_any w hL.2.1 hL.2.2 hL.1 K M h6 fun b hb=>Nat.lt_of_lt_of_le h2 (h4 b hb)).mono ?_
 rintro e w' ⟨hp,hb⟩
 refine ⟨?_,hb⟩
 cases hr:openU M with
 | inr c=>rw [hr] at hp;exact hp
 | inl U=>
   rw [hr] at hp
   obtain ⟨u,jk,e1,e2,e3,e4,e5⟩:=hp
   refine ⟨u,e1,jk,e2,h2,Nat.le_trans h3 hb.size,fun q hq=>?_,by omega,e3⟩
   rcases e4 q hq with h | h
   · exact h4 q h
   · omega
theorem form_X (w:World) (hL:Laid3 w) (lo d:Nat) (M:MD) (h:DX4 w lo d M) (h8:8≤M.S.length) (hw:M.writes+200000 < 4611686018427387904) (dev:Nat) (hdev:dev < 8) (hf:(formatM M).2=0) (ha:(formU M dev).2.2=0):
 Calls Tryz.prog 12 #[.pointer (some ⟨d,0,none⟩),.int .i64 (dev:Int)] w fun e w'=>∃ u,e=.returned (.tuple #[.pointer (some ⟨u,0,none⟩),.int .i64 0])∧UX w' lo d u (formU M dev).1 (formU M dev).2.1∧Below lo w w':=by
 obtain ⟨K,rfl,h2,h3,h4,h6⟩:=h
 refine (uformat_any w hL.2.1 hL.2.2 hL.1 K M h6 h8 (fun b hb=>Nat.lt_of_lt_of_le h2 (h4 b hb)) hw dev hdev hf ha).mono ?_
 rintro e w' ⟨u,jk,rfl,e2,e3,e4,e5,e6⟩
 have hb:Below lo w w':=e6.below h4 h3
 refine ⟨u,rfl,⟨jk,e2,h2,Nat.le_trans h3 hb.size,fun q hq=>?_,by omega,e3⟩,hb⟩
 rcases e4 q hq with h | h
 · exact h4 q h
 · omega
theorem new_X (w:World) (h4:4≤w.heap.size) (n:Nat) (h1:0 < n) (h2:n≤65536):
 Calls Tryz.prog 11 #[.int .i64 (n:Int)] w fun e w'=>∃ d,e=.returned (.tuple #[.pointer (some ⟨d,0,none⟩),.int .i64 0])∧DX4 w' w.heap.size d (MD.fresh n)∧Below w.heap.size w w':=by
 refine (new_ok w n h1 h2).mono ?_
 rintro e w' ⟨K,rfl,hd,hb,hf⟩
 exact ⟨K.d,rfl,⟨K,rfl,by omega,hb.size,hf,hd⟩,hb⟩
end Go.Proofs.YtobjdpngnfbicaaGreatDoor

namespace Go.Proofs.YtobjdpngnfbicaaGreatDoor
open Go.RowKit Go.ChangeShapes Go.WideShapes Go.Deep
set_option linter.unusedVariables false
set_option maxRecDepth 20000
theorem cell_block {w:World} {a:Addr} {v:Value} (h:w.cell? a=some v):a.spot=none∧∃ L t fz,w.heap[a.block]?=some (.cells L t fz)∧L[a.off]?=some v:=by
 unfold World.cell? at h
 split at h
 · rename_i c e f hb
   by_cases hs:a.spot.isSome=true
   · simp [hs] at h
   · refine ⟨by simpa using hs,c,e,f,hb,?_⟩
     simpa [hs] using h
 · cases h
def RowOf (k:Nat) (E:List Value→Prop) (w:World) (v:Value) (n:Nat):Prop:=
 ∃ a cap,v=.slice a n cap∧n≤cap∧cap≤maxLen∧(a=none→cap=0) ∧
   (n=0∨∃ b off L t fz,a=some ⟨b,off,none⟩∧b < w.heap.size∧w.heap[b]?=some (.cells L t fz)∧off+n * k≤L.size∧∀ i,i < n→E ((L.toList.drop (off+i * k)).take k))
section
variable {H:Type} {enc:TypeId × Value→H} {P:Program} {w:World} {base:Nat} {held:Bool}
theorem read_row {t e:TypeId} {fuel k:Nat} {v:Value} {x:DataW H × List MemPlace} (hk:0 < k) (ht:P.underlying t=some (.slice e)) (hC:P.cellsOf e=k) (E:List Value→Prop)
 (hE:∀ (m:Nat) (cs:List Value) (y:DataW H × List MemPlace),DataW.trod enc P w base (fun _=>true) held m e cs=some y→E cs)
 (h:DataW.trod enc P w base (fun _=>true) held fuel t [v]=some x):∃ n,RowOf k E w v n:=by
 rcases open_slice ht h with ⟨h0,_⟩ | ⟨a,len,cap,m,n,D,Pl,hcs,hb,hl,hm,hmm,hx,hi⟩
 · simp at h0
   subst h0
   exact ⟨0,none,0,rfl,Nat.le_refl _,by unfold maxLen;omega,fun _=>rfl,.inl rfl⟩
 · simp at hcs
   subst hcs
   simp only [if_true] at hmm
   subst hmm
   refine ⟨len,some a,m,rfl,hl,hm,nofun,?_⟩
   by_cases h0:len=0
   · exact .inl h0
   · right
     rw [hC] at hi
     obtain ⟨cs0,hc0,_⟩:=hi 0 (by omega)
     obtain ⟨_,hl0,ha0⟩:=World.cells?_some hc0
     have h00:=ha0 0 hk
     rw [List.getElem?_eq_getElem (by omega)] at h00
     simp only [Nat.zero_mul] at h00
     have hadd:(a.add 0).add 0=a:=by simp [Addr.add]
     rw [hadd] at h00
     obtain ⟨hs,L,t',fz,hbk,_⟩:=cell_block h00
     have haa:a=⟨a.block,a.off,none⟩:=by cases a;simp_all
     have hcell:∀ i j,i < len→j < k→∀ cs',w.cells? base (a.add (i * k)) k=some cs'→L[a.off+i * k+j]?=cs'[j]?:=by
      intro i j hi' hj cs' hcs'
      obtain ⟨_,hlc,hac⟩:=World.cells?_some hcs'
      have hh:=hac j hj
      rw [add_add,haa,Addr.add_lit,cell_of_row w a.block _ L t' fz hbk] at hh
      rw [Nat.add_assoc]
      exact hh
     refine ⟨a.block,a.off,L,t',fz,by rw [←haa],lt_of_block hbk,hbk,?_,fun i hil=>?_⟩
     · obtain ⟨cs1,hc1,_⟩:=hi (len - 1) (by omega)
       obtain ⟨_,hl1,_⟩:=World.cells?_some hc1
       have:=hcell (len - 1) (k - 1) (by omega) (by omega) cs1 hc1
       rw [List.getElem?_eq_getElem (by omega)] at this
       have:=(Array.getElem?_eq_some_iff.1 this).1
       have e1:len * k=(len - 1) * k+k:=by
        obtain ⟨q,rfl⟩:∃ q,len=q+1:=⟨len - 1,by omega⟩
        simp [Nat.add_mul]
       omega
     · obtain ⟨cs1,hc1,ht1⟩:=hi i (by omega)
       obtain ⟨_,hl1,_⟩:=World.cells?_some hc1
       have e:(L.toList.drop (a.off+i * k)).take k=cs1:=by
        apply List.ext_getElem?
        intro j
        rw [List.getElem?_take]
        by_cases hj:j < k
        · rw [if_pos hj,List.getElem?_drop,←hcell i j hil hj cs1 hc1]
          simp
        · rw [if_neg hj,List.getElem?_eq_none (by omega)]
       rw [e]
       exact hE _ _ _ ht1
end
theorem RowOf.keep {k:Nat} {E:List Value→Prop} {w w':World} {v:Value} {n:Nat} (h:RowOf k E w v n) (hb:Below w.heap.size w w'):RowOf k E w' v n:=by
 obtain ⟨a,cap,rfl,h1,h2,h3,h4⟩:=h
 refine ⟨a,cap,rfl,h1,h2,h3,?_⟩
 rcases h4 with h4 | ⟨b,off,L,t,fz,rfl,hlt,hg,hle,hE⟩
 · exact .inl h4
 · exact .inr ⟨b,off,L,t,fz,rfl,Nat.lt_of_lt_of_le hlt hb.size,(hb.block b hlt).trans hg,hle,hE⟩
end Go.Proofs.YtobjdpngnfbicaaGreatDoor

namespace Go.Proofs.YtobjdpngnfbicaaGreatDoor
open Go.RowKit Go.ChangeShapes Go.WideShapes Go.ChangeAt
set_option linter.unusedVariables false
set_option maxRecDepth 20000
attribute [local go_sem] opC upC
end Go.Proofs.YtobjdpngnfbicaaGreatDoor

namespace Go.Proofs.YtobjdpngnfbicaaGreatDoor
open Go.RowKit Go.ChangeShapes Go.WideShapes Go.ChangeAt
set_option linter.unusedVariables false
set_option maxRecDepth 20000
attribute [local go_sem] opC upC
structure MAct where
 kind:Int
 n:Int
 m:Int
 b:List UInt8
def ActsAt (w:World) (lo:Nat) (v:Value) (A:List MAct):Prop:=
 ∃ a cap,v=.slice a A.length cap∧A.length≤9223372036854775807∧(A = []∨∃ b off,a=some ⟨b,off,none⟩∧b < lo∧∀ i (h:i < A.length),(0≤A[i].kind∧A[i].kind≤255)∧(0≤A[i].n∧A[i].n≤65535)∧(0≤A[i].m∧A[i].m≤65535) ∧
   ∃ x c,w.cell? ⟨b,off+i * 4,none⟩=some (.int .u8 A[i].kind)∧w.cell? ⟨b,off+i * 4+1,none⟩=some (.int .u16 A[i].n)∧w.cell? ⟨b,off+i * 4+2,none⟩=some (.int .u16 A[i].m)∧w.cell? ⟨b,off+i * 4+3,none⟩=some (.slice x A[i].b.length c)∧Bytes (fun b=>b < lo) w (.slice x A[i].b.length c) A[i].b)
theorem ActsAt.kept {w w':World} {lo:Nat} {v:Value} {A:List MAct} (h:ActsAt w lo v A) (hb:Below lo w w'):ActsAt w' lo v A:=by
 obtain ⟨a,cap,rfl,h9,h⟩:=h
 refine ⟨a,cap,rfl,h9,?_⟩
 rcases h with h | ⟨b,off,rfl,hlt,h⟩
 · exact .inl h
 · refine .inr ⟨b,off,rfl,hlt,fun i hi=>?_⟩
   obtain ⟨h1,h2,h3,x,c,c0,c1,c2,c3,hB⟩:=h i hi
   have hc:∀ j,w'.cell? ⟨b,j,none⟩=w.cell? ⟨b,j,none⟩:=fun j=>hb.cell (p:=⟨b,j,none⟩) hlt
   exact ⟨h1,h2,h3,x,c,by rw [hc];exact c0,by rw [hc];exact c1,by rw [hc];exact c2,by rw [hc];exact c3,hB.keep fun b hb' _=>hb.block b hb'⟩
end Go.Proofs.YtobjdpngnfbicaaGreatDoor

namespace Go.Proofs.YtobjdpngnfbicaaGreatDoor
open Go.RowKit Go.ChangeShapes Go.WideShapes Go.ChangeAt
set_option linter.unusedVariables false
set_option maxRecDepth 20000
def UpV (w:World) (lo j d n g:Nat) (L:List (List UInt8)) (c:Nat):Prop:=
 ∃ (jk:JK) (S:List (List UInt8)) (k:Nat),jk.j=j∧jk.K.d=d∧0 < lo∧(∀ b,jk.all b→lo≤b)∧S.length=n∧k≤c∧JAt w jk (upM S k) ⟨g,L,false⟩∧Inv S g L
theorem UpV.kept {w w':World} {lo j d n g:Nat} {L:List (List UInt8)} {c:Nat} (h:UpV w lo j d n g L c) (hb:Below w.heap.size w w'):UpV w' lo j d n g L c:=by
 obtain ⟨jk,S,k,h1,h2,h3,h4,h5,h6,h7,h8⟩:=h
 exact ⟨jk,S,k,h1,h2,h3,h4,h5,h6,h7.kept hb,h8⟩
end Go.Proofs.YtobjdpngnfbicaaGreatDoor
