/-
  UKnown
-/
import Derived.Test.YtobjdpngnfbicaaGreatDoorZN43
namespace Go.Proofs.YtobjdpngnfbicaaGreatDoor
open Go.RowKit Go.Lib
set_option linter.unusedVariables false
set_option maxRecDepth 20000
attribute [local go_sem] opC upC
theorem uformat_arg (w:World) (d:Nat):Calls Tryz.prog 12 #[.pointer (some ⟨d,0,none⟩),.int .i64 8] w fun e w'=>e=.returned (.tuple #[.pointer none,.int .i64 1])∧w=w':=by
 go_enter Tryz.func12,Tryz.ntmps12
 go_wp2_with fail
 go_ret2
 exact ⟨rfl,rfl⟩
theorem uformat_small (w:World) (lo d:Nat) (M:MD) (h:DX4 w lo d M) (h8:M.S.length < 8):
 Calls Tryz.prog 12 #[.pointer (some ⟨d,0,none⟩),.int .i64 0] w fun e w'=>e=.returned (.tuple #[.pointer none,.int .i64 6])∧w=w':=by
 obtain ⟨K,rfl,h2,h3,h4,h6⟩:=h
 have HF:=Lib.hid (format_small w K M h6 h8)
 clear h6
 go_enter Tryz.func12,Tryz.ntmps12
 go_wp2_with fail
 refine HF.out.mono ?_
 rintro e w' ⟨rfl,rfl⟩
 clear HF
 go_wp2_with fail
 go_ret2
 exact ⟨rfl,rfl⟩
theorem openU_zero:openU (MD.fresh 40)=.inr 340:=by
 have h:openM (MD.fresh 40)=.inr 340:=by
  unfold openM
  rw [if_neg (by simp [MD.fresh]),if_neg (by simp [MD.fresh])]
  have hg:genM (MD.fresh 40).S=none:=by
   have h0:(MD.fresh 40).S.getD 0 []=List.replicate 64 0:=rfl
   have h1:(MD.fresh 40).S.getD 1 []=List.replicate 64 0:=rfl
   unfold genM
   dsimp only
   rw [h0,h1]
   unfold isHead
   rw [zero_intact]
   simp
  rw [hg]
 unfold openU
 rw [h]
theorem kn_valid:validR .empty=false:=by decide +kernel
theorem kn_allow:allowedR 3 [[120]]=false:=by decide +kernel
theorem kn_same:mergeR .new .new=(.new,0):=by
 unfold mergeR
 rw [new_valid,merge_self _ new_formed]
 exact if_pos new_valid
theorem kn_calls {M:MD} {U:MU} (hd:U.J.dead=false) (hm:U.m=.new) (h3:U.dev=3):learnU M U []=(M,U,0)∧learnU M U [[120]]=(M,U,1)∧joinU M U .new=(M,U,0)∧joinU M U .empty=(M,U,5):=by
 refine ⟨?_,?_,?_,?_⟩
 · unfold learnU changeU
   rw [if_neg (by rw [hd];decide),if_pos rfl]
 · have e:useR .new 3 [[120]]=(.empty,1):=by
    unfold useR
    rw [if_pos new_valid,kn_allow]
    rfl
   unfold learnU changeU
   rw [if_neg (by rw [hd];decide),if_neg (by simp),hm,h3,show ((3:Nat):Int)=3 from rfl,e]
   exact if_neg (by decide)
 · unfold joinU
   rw [if_neg (by rw [hd];decide),hm,kn_same]
   exact (if_pos rfl).trans (if_pos rfl)
 · have e:mergeR .new .empty=(.empty,5):=by
    unfold mergeR
    rw [kn_valid,Bool.and_false]
    rfl
   unfold joinU
   rw [if_neg (by rw [hd];decide),hm,e]
   exact if_neg (by decide)
set_option maxRecDepth 100000 in
set_option maxHeartbeats 8000000 in
theorem UserKnown_walk (w:World) (hL:Laid3 w):
 Calls Tryz.prog 6 #[] w fun e w'=>e=.returned (.bool true)∧Below w.heap.size w w':=by
 have HL:=Lib.hid (show ∀ W,Below w.heap.size w W→Laid3 W from fun W hb=>hL.below hb)
 have HN:=Lib.hid (new_X w hL.2.2 40 (by decide) (by decide))
 obtain ⟨f1,f2,f3,f4,f5,f6,f7,f8⟩:=form_fit 40 3 (by decide) (by decide) (by decide)
 obtain ⟨⟨M,U,e0⟩,hf⟩:∃ r,formU (MD.fresh 40) 3=r:=⟨_,rfl⟩
 rw [hf] at f2 f3 f4 f5 f6 f7 f8
 dsimp only at f2 f3 f4 f5 f6 f7 f8
 subst f2
 have HC:=Lib.hid (kn_calls (M:=M) f4.dead f5 f6)
 have Hf:=Lib.hid hf;have F1:=Lib.hid f1;have HI:=Lib.hid f3;have Hw:=Lib.hid f8;have Hm:=Lib.hid f5;have Hdv:=Lib.hid f6
 clear hL f1 f3 f4 f5 f6 f7 f8 hf
 go_enter Tryz.func6,Tryz.ntmps6
 go_wp2_with fail
 refine HN.out.mono ?_
 rintro e w1 ⟨d,rfl,hd,hb1⟩
 have hF:=form_X w1 (HL.out w1 hb1) _ d (MD.fresh 40) hd (by simp [MD.fresh]) (by show 0+200000 < _;decide) 3 (by decide) F1.out (by rw [Hf.out])
 rw [Hf.out] at hF
 have HF:=Lib.hid hF;have Hb1:=Lib.hid hb1
 clear hF hd hb1 HN
 go_wp2_with fail
 refine HF.out.mono ?_
 rintro e w2 ⟨u,rfl,hU,hb2⟩
 have HU:=Lib.hid hU;have HB2:=Lib.hid (show Below w.heap.size w w2 from Hb1.out.trans hb2)
 have HA:=Lib.hid (uformat_arg w2 d)
 clear hU hb2 HF
 go_wp2_with fail
 refine HA.out.mono ?_
 rintro e w2' ⟨rfl,rfl⟩
 clear HA
 have HW:=Lib.hid (writes_DX w2 _ d M HU.out.disk)
 go_wp2_with fail
 refine HW.out.mono ?_
 rintro e w2' ⟨rfl,rfl⟩
 clear HW
 have hv:validR U.m=true:=by rw [Hm.out];exact new_valid
 have h8:U.dev < 8:=by rw [Hdv.out];decide
 have hM:M.writes+200000 < 4611686018427387904:=by have:=Hw.out;omega
 have HP:=Lib.hid (show validR U.m=true∧U.dev < 8∧M.writes+200000 < 4611686018427387904 from ⟨hv,h8,hM⟩)
 clear hv h8 hM
 have h1:=learn_X w2 (HL.out w2 HB2.out) _ d u M U HU.out HP.out.2.1 HP.out.1 none_ (.slice none 0 0) [] (Rows.nil _ _ _) (by decide) nofun HP.out.2.2
 rw [HC.out.1] at h1
 have H1:=Lib.hid h1
 clear h1
 go_wp2_with fail
 refine H1.out.mono ?_
 rintro e w3 ⟨rfl,hU3,hb3⟩
 have HU3:=Lib.hid hU3;have HB3:=Lib.hid (show Below w.heap.size w w3 from HB2.out.trans hb3)
 clear hU3 hb3 H1
 obtain ⟨w4,hw4⟩:∃ q,q=w3.alloc (.cells #[.string ⟨#[120]⟩] 9):=⟨_,rfl⟩
 have hb4:Below w3.heap.size w3 w4:=by rw [hw4];exact kept_alloc _ _
 have hr4:Rows (fun b=>b=w3.heap.size) w4 1 (.slice (some ⟨w3.heap.size,0,none⟩) 1 1) ([[120]]:List (List UInt8)).length (([[120]]:List (List UInt8)).map Go.Proofs.encStr):=by
  rw [hw4];exact rows_new w3 #[.string ⟨#[120]⟩] 9 1 rfl (by unfold maxLen;omega)
 have hB4:Below w.heap.size w w4:=HB3.out.trans (hb4.mono HB3.out.size)
 have h1:=learn_X w4 (HL.out w4 hB4) _ d u M U (HU3.out.keep hb4) HP.out.2.1 HP.out.1 _ _ [[120]] hr4 (by decide) (fun k hk=>by rw [List.mem_singleton.1 hk];decide) HP.out.2.2
 rw [HC.out.2.1] at h1
 have H1:=Lib.hid h1;have Hw4:=Lib.hid hw4;have HB4:=Lib.hid hB4
 clear h1 hw4 hb4 hr4 hB4
 go_wp2_with fail
 rw [←Hw4.out]
 refine H1.out.mono ?_
 rintro e w5 ⟨rfl,hU5,hb5⟩
 have HU5:=Lib.hid hU5;have HB5:=Lib.hid (show Below w.heap.size w w5 from HB4.out.trans hb5)
 clear hU5 hb5 H1
 have H1:=Lib.hid (pnewO_any w5)
 go_wp2_with fail
 refine H1.out.mono ?_
 rintro e w6 ⟨rfl,hbn,hb6⟩
 have hB6:Below w.heap.size w w6:=HB5.out.trans (hb6.mono HB5.out.size)
 have h1':=join_X w6 (HL.out w6 hB6) _ d u M U (HU5.out.keep hb6) HP.out.2.1 HP.out.1 (fun _=>True) (.agg #[.slice (some ⟨w5.heap.size+1,0,none⟩) 8 8,.slice none 0 0,.slice none 0 0]) .new ⟨_,_,_,rfl,new_in hbn trivial⟩ ⟨nofun,nofun⟩ HP.out.2.2
 rw [HC.out.2.2.1] at h1'
 have HB6:=Lib.hid hB6
 clear hbn hb6 hB6 H1
 have H1:=Lib.hid h1'
 clear h1'
 go_wp2_with fail
 refine H1.out.mono ?_
 rintro e w7 ⟨rfl,hU7,hb7⟩
 have HU7:=Lib.hid hU7;have HB7:=Lib.hid (show Below w.heap.size w w7 from HB6.out.trans hb7)
 clear hU7 hb7 H1
 have h1':=join_X w7 (HL.out w7 HB7.out) _ d u M U HU7.out HP.out.2.1 HP.out.1 (fun _=>True) (.agg #[.slice none 0 0,.slice none 0 0,.slice none 0 0]) .empty ⟨_,_,_,rfl,Rows.nil _ _ _,Rows.nil _ _ _,Rows.nil _ _ _,nofun,nofun,nofun⟩ ⟨nofun,nofun⟩ HP.out.2.2
 rw [HC.out.2.2.2] at h1'
 have H1:=Lib.hid h1'
 clear h1'
 go_wp2_with fail
 refine H1.out.mono ?_
 rintro e w8 ⟨rfl,hU8,hb8⟩
 have HU8:=Lib.hid hU8;have HB8:=Lib.hid (show Below w.heap.size w w8 from HB7.out.trans hb8)
 clear hU8 hb8 H1
 have HW:=Lib.hid (writes_DX w8 _ d M HU8.out.disk)
 go_wp2_with fail
 refine HW.out.mono ?_
 rintro e w8' ⟨rfl,rfl⟩
 clear HW
 have HN:=Lib.hid (new_X w8 (HL.out w8 HB8.out).2.2 40 (by decide) (by decide))
 go_wp2_with fail
 refine HN.out.mono ?_
 rintro e w9 ⟨d2,rfl,hd2,hb9⟩
 have hB9:Below w.heap.size w w9:=HB8.out.trans (hb9.mono HB8.out.size)
 have hO:=open_UX w9 (HL.out w9 hB9) _ d2 _ hd2
 rw [openU_zero] at hO
 have HO:=Lib.hid hO;have HB9:=Lib.hid hB9
 clear hO hB9 hb9 hd2 HN
 go_wp2_with fail
 refine HO.out.mono ?_
 rintro e w10 ⟨rfl,hb10⟩
 have HB10:=Lib.hid (show Below w.heap.size w w10 from HB9.out.trans (hb10.mono HB9.out.size))
 clear hb10 HO
 have HN:=Lib.hid (new_X w10 (HL.out w10 HB10.out).2.2 7 (by decide) (by decide))
 go_wp2_with fail
 refine HN.out.mono ?_
 rintro e w11 ⟨d3,rfl,hd3,hb11⟩
 have HS:=Lib.hid (uformat_small w11 _ d3 _ hd3 (by simp [MD.fresh]))
 have HB11:=Lib.hid (show Below w.heap.size w w11 from HB10.out.trans (hb11.mono HB10.out.size))
 clear hb11 hd3 HN
 go_wp2_with fail
 refine HS.out.mono ?_
 rintro e w11' ⟨rfl,rfl⟩
 clear HS
 have H1:=Lib.hid (uworks_any w11 (HL.out w11 HB11.out))
 go_wp2_with fail
 refine H1.out.mono ?_
 rintro e w12 ⟨rfl,hb12⟩
 have Hb12:=Lib.hid (show Below w.heap.size w w12 from HB11.out.trans (hb12.mono HB11.out.size))
 clear H1 hb12
 go_wp2_with fail
 go_ret
 exact ⟨rfl,Hb12.out⟩
end Go.Proofs.YtobjdpngnfbicaaGreatDoor
