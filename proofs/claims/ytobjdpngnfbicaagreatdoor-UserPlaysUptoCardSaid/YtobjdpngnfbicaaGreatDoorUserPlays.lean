import Derived.Test.YtobjdpngnfbicaaGreatDoorRows
import Derived.Test.YtobjdpngnfbicaaGreatDoorZP18
import Derived.Test.YtobjdpngnfbicaaGreatDoorTie
import Derived.Test.YtobjdpngnfbicaaGreatDoorCards
import Derived.SevenTiedAt
import Derived.WalkKit
import Derived.ProofKit
import Derived.OpenShut
import Derived.ShutString
import Derived.ChangeOld
import Derived.Below
import Derived.JoinedCond
namespace Go.Proofs.YtobjdpngnfbicaaGreatDoor.userPlays
open Go.ChangeShapes Go.WideShapes Go.ChangeAt Go.RowKit
open Go.ChangeMaps (open_string shut_string)
set_option linter.unusedVariables false
abbrev S:=Rows.userPlaysSpec
abbrev U:=Rows.OpenSpec.upto S
theorem own : ownKnob Tryz.prog.godebug = none:=by kernel_rfl
theorem laidOut : laidOutB Tryz.prog = true:=by kernel_rfl
def Small {H : Type} (enc : TypeId × Value → H) (w : World) (args : Array Value) : Prop:=∃ ds gs before,DataW.Whole enc Tryz.prog Tryz.f4.params.toList S.vars false w args.toList ds gs before ∧ Rows.uptoSmall H (ds ++ gs) = true
abbrev P0{H:Type}(enc:TypeId × Value → H)(w:World)(args:Array Value):Prop:=(S.pre enc Tryz.prog Tryz.f4 [] false w args ∧ laidMet Tryz.prog laidQ w ∧ Small enc w args) ∧ sizedMet enc Tryz.prog Tryz.f4 (OpenSpec.ofChange S) false w args
abbrev P1{H:Type}(enc:TypeId × Value → H)(w:World)(args:Array Value):Prop:=(U.pre enc Tryz.prog Tryz.f4 [] false w args ∧ laidMet Tryz.prog laidQ w) ∧ sizedMet enc Tryz.prog Tryz.f4 U false w args
theorem small_of {H : Type} {enc : TypeId × Value → H} {w : World} {args : Array Value} (h : (match DataW.whole enc Tryz.prog w Tryz.f4.params.toList S.vars false args.toList 8 with | some x=>Rows.uptoSmall H (x.1 ++ x.2.1) | none=>false) = true) : Small enc w args:=by
 split at h
 · rename_i x e;exact ⟨_,_,_,DataW.Whole_of_whole e,h⟩
 · cases h
set_option maxRecDepth 100000 in
theorem lifted (os : Os) (started : os.Started) (H : Type) (enc : TypeId × Value → H) :
  ReturnsInHanded {} Tryz.checked os 4 .any (P0 enc) (S.post enc Tryz.prog Tryz.f4 false true false false):=by
 refine returnsInHanded_of_change_and (C:=Tryz.checked) (X:=fun w args=>laidMet Tryz.prog laidQ w ∧ Small enc w args) (fun _ _ _ hh h=>⟨h.1.of_heap hh,by obtain ⟨ds,gs,before,h1,h2⟩:=h.2; exact ⟨ds,gs,before,h1.of_heap hh,h2⟩⟩) own started (by kernel_rfl) Tryz.func4
  (ChangeSpec.witness_at (enc:=enc) (C:=Tryz.checked) (os:=os) (X:=fun w args=>laidMet Tryz.prog laidQ w ∧ Small enc w args) false (laidWorld os) #[.int .i64 0,.int .i64 0,.slice none 0 0] 8 rfl (by kernel_rfl) (by kernel_rfl) (by kernel_rfl) (by kernel_rfl) (by kernel_rfl) ⟨laidWorld_met os _,small_of (by kernel_rfl)⟩) ?_
 intro W base args ds gs before hval0 hW hcnd _ hL _
 have hval : ∀ (j : Nat) t v,Tryz.f4.params[j]? = some t → args[j]? = some v → Value.okWide Tryz.prog W .any base t v:=hval0
 have hW':=hW
 obtain ⟨p,q,hA0,hV,rfl,hfz,hnd⟩:=hW
 have hA : DataW.TrodAll enc Tryz.prog W 0 (fun _=>true) true Tryz.f4.params.toList args.toList ds p:=hA0
 rw [Tryz.params4] at hA hval
 obtain ⟨v0,vs0,d0,ds0,p0,q0,hargs,rfl,rfl,h0,r0⟩:=trodAll_cons hA
 obtain ⟨v1,vs1,d1,ds1,p1,q1,rfl,rfl,rfl,h1,r1⟩:=trodAll_cons r0
 obtain ⟨v2,vs2,d2,ds2,p2,q2,rfl,rfl,rfl,h2,r2⟩:=trodAll_cons r1
 obtain ⟨rfl,rfl,rfl⟩:=trodAll_nil r2
 obtain rfl : args = #[v0,v1,v2]:=by cases args; simp_all
 obtain ⟨rfl,rfl⟩:=trodVars_none hV
 obtain ⟨hL,dsS,gsS,beforeS,⟨pS,qS,hAS,-,-⟩,hsm⟩:=hL
 have hAS : DataW.TrodAll enc Tryz.prog W 0 (fun _=>true) true Tryz.f4.params.toList [v0,v1,v2] dsS pS:=hAS
 rw [Tryz.params4] at hAS
 obtain ⟨x0,y0,e0,es0,pS0,qS0,hE0,rfl,rfl,g0,s0⟩:=trodAll_cons hAS
 obtain ⟨rfl,rfl⟩:=List.cons.inj hE0
 obtain ⟨x1,y1,e1,es1,pS1,qS1,hE1,rfl,rfl,g1,s1⟩:=trodAll_cons s0
 obtain ⟨rfl,rfl⟩:=List.cons.inj hE1
 obtain ⟨x2,y2,e2,es2,pS2,qS2,hE2,rfl,rfl,g2,s2⟩:=trodAll_cons s1
 obtain ⟨rfl,rfl⟩:=List.cons.inj hE2
 have hbulk : Rows.uptoBulk e2 ≤ 1048576:=Nat.le_trans (bulk_mem (by simp)) (of_decide_eq_true hsm)
 obtain ⟨a0,rfl,rfl,rfl,w0⟩:=open_int Tryz.underlying3 (hval 0 3 v0 rfl rfl) h0
 obtain ⟨a1,rfl,rfl,rfl,w1⟩:=open_int Tryz.underlying3 (hval 1 3 v1 rfl rfl) h1
 have k2:=h2
 have lt2 : ∀ x ∈ p2,x.block < W.heap.size:=by obtain ⟨m,hm⟩:=k2; exact DataW.trod_lt m _ _ _ hm
 have w2 : IsUActsB W v2:=open_UActsB (hval 2 22 v2 rfl rfl) g2 hbulk
 clear hA0 hval0
 refine (UserPlays_walk a0 a1 v2 W w2 (all_of_laid hL)).mono fun e W' ⟨he,bel⟩=>?_
 subst he
 exact ⟨_,rfl,_,_,_,[],_,[],hW',trodAll_mk1 (shut_bool Tryz.underlying4 _),(trodAll_cons_mk (shut_int Tryz.underlying3 w0) (trodAll_cons_mk (shut_int Tryz.underlying3 w1) (trodAll_cons_mk (Below.trod laidOut (by kernel_rfl) (of_decide_eq_true (by kernel_rfl)) k2 bel lt2) trodAll_mk0))),rfl,bel.frame _,fun h=>by cases h⟩
theorem pre_iff {H : Type} (enc : TypeId × Value → H) (w : World) (args : Array Value) : P0 enc w args ↔ P1 enc w args :=
 ⟨fun ⟨⟨_,hL,ds,gs,before,h1,h2⟩,hz⟩=>⟨⟨(OpenSpec.pre_some (s:=U) rfl [] false w args).2 ⟨ds,gs,before,h1,rfl,h2⟩,hL⟩,hz⟩,
  fun ⟨⟨hp,hL⟩,hz⟩=>by
   obtain ⟨ds,gs,before,h1,h2,h3⟩:=(OpenSpec.pre_some (s:=U) rfl [] false w args).1 hp
   exact ⟨⟨⟨ds,gs,before,h1,h2⟩,hL,ds,gs,before,h1,h3⟩,hz⟩⟩
theorem liftedU (os : Os) (started : os.Started) (H : Type) (enc : TypeId × Value → H) : ReturnsInHanded {} Tryz.checked os 4 .any (P1 enc) (S.post enc Tryz.prog Tryz.f4 false true false false):=by
 rw [← show (P0 enc) = (P1 enc) from funext fun w=>funext fun args=>propext (pre_iff enc w args)]
 exact lifted os started H enc
theorem over : Rows.userPlaysUptoRow.holds Tryz.pinned U :=
 OpenClaim.holds_of_cond 4 Tryz.f4 rfl rfl rfl rfl rfl rfl rfl ⟨rfl,rfl,rfl,rfl,rfl⟩ rfl rfl rfl rfl rfl (by kernel_rfl) Tryz.func4 (by kernel_rfl)
  (of_decide_eq_true (by kernel_rfl)) (by unfold Func.isWrapper; first | (rw [if_pos (by decide +kernel)]; kernel_rfl) | (rw [if_neg (by decide +kernel)]; exact ⟨rfl,rfl⟩))
  (fun os started H enc _ F=>liftedU os started H enc)
theorem proved : Rows.UserPlaysUptoCardSaid :=
 Claim7.holds_tied_plain_at .later [] [.data,.data,.pinned] true (true,"f690231bd04422357a5a24d7b8e1bb44fe21a7e53255c23cea3e96a64062bfc3") true
  over (fun _ h=>by cases h) (by kernel_rfl) (fun _ h=>by cases h) userPlaysUpto_row_tie rfl ⟨rfl,rfl⟩ (by kernel_rfl) rfl
  (fun f fn hf hfn=>by
   obtain rfl : f = 4:=Option.some.inj ((show Tryz.prog.funcNamed "henkan/henkanlaw36.UserPlays" = some 4 by kernel_rfl).symm.trans hf) |>.symm
   obtain rfl : fn = Tryz.f4:=(Option.some.inj (Tryz.func4.symm.trans hfn)).symm
   refine ⟨by kernel_rfl,fun j t ht=>?_⟩
   have hall : (Tryz.f4.params.toList.all fun t=>!(Tryz.prog.wantsStandIn t)) = true:=by kernel_rfl
   have hm : t ∈ Tryz.f4.params.toList:=by simpa using Array.mem_of_getElem? ht
   have:=List.all_eq_true.1 hall t hm
   exact (show Tryz.prog.wantsStandIn t = false by simpa using this))
  (by kernel_rfl)
#print axioms proved
end Go.Proofs.YtobjdpngnfbicaaGreatDoor.userPlays
