/- The walks of regions that draw their order, in a round of a range over a function. Over any program. -/
import Derived.Test.YtmimplmeccoahaaDoorRegion2
import Derived.OrdersIn
import Derived.RangeFuncCalls
namespace Go.Proofs.YtmimplmeccoahaaDoor
open Go
section
variable {P : Program} {ops : Array Oper} {md : Region.Mode} {C : World → World → Prop} {lx lp n : Nat}

/-- no operation is a defer statement -/
def noDefer (ops : Array Oper) : Bool := ops.all fun o => match o.op with
  | .defer _ => false
  | _ => true

theorem noDefer_spec (h : noDefer ops = true) {i : Nat} {o : Oper} (ho : ops[i]? = some o) : ∀ c, o.op ≠ .defer c := by
  intro c hc
  obtain ⟨hi, rfl⟩ := Array.getElem?_eq_some_iff.1 ho
  have := Array.all_eq_true.1 h i hi
  simp [hc] at this

theorem wpIn_of_opC {o : Oper} {a : Act} {w : World} {next : Value → World → Prop} {K : Act → World → Prop} {Q : Exit → Act → World → Prop} (hd : ∀ c, o.op ≠ .defer c) (h : ∀ v w', next v w' → K (a.put o.dst v) w') (hh : opC P o a w next) : o.wpIn (Fence.wide.inRound lp) n P a w K Q := by
  refine ⟨fun _ _ => trivial, ?_⟩
  rw [Oper.semAt_eq _ _ _ hd]
  unfold opC at hh
  generalize (execOp a.eval o).run P w = r at *
  cases r with
  | ok x w' =>
    cases x <;> simp only [upC] at hh <;> simp only [Oper.uponIn]
    case enter f args =>
      refine ⟨(fun e => by cases e), CallsIn.inRound lp (callsIn_wide.2 (hh.mono ?_))⟩
      rintro e w'' ⟨v, rfl, hn⟩
      exact h _ _ hn
    all_goals exact h _ _ hh
  | halt x w' => simp only [upC] at hh

theorem wpOpIn_of_stC {i : Nat} {a : Act} {w : World} {K K' : Act → World → Prop} {Q : Exit → Act → World → Prop} (hd : noDefer ops = true) (h : ∀ a w', K a w' → K' a w') (hh : stC P ops C i K a w) : wpOpIn (Fence.wide.inRound lp) n P ops Q i K' a w := by
  unfold stC at hh
  unfold wpOpIn
  split
  · rename_i ho; simp only [ho] at hh; exact h _ _ hh
  · rename_i o ho
    simp only [ho] at hh
    split
    · rename_i hw; simp only [hw, if_true] at hh; exact wpIn_of_opC (noDefer_spec hd ho) (fun v w' hv => h _ _ hv.2) hh
    · rename_i hw; simp only [hw] at hh; exact ⟨fun _ _ => trivial, h _ _ hh⟩

theorem wpAnyIn_of_C {Q : Act → World → Prop} {Q' : Exit → Act → World → Prop} (hd : noDefer ops = true) (hQ : ∀ a w, Q a w → Q' .normal a w) : ∀ (fuel : Nat) (listed : Array Bool) (a : Act) (w : World),
    wpAnyC P md ops C Q fuel listed a w → wpAnyIn (Fence.wide.inRound lp) n P md ops Q' fuel listed a w
  | 0, _, _, _, h => ⟨h.1, hQ _ _ h.2⟩
  | fuel + 1, _, _, _, h => ⟨fun h0 => hQ _ _ (h.1 h0), fun i hi => wpOpIn_of_stC hd (fun a' w' hw' => wpAnyIn_of_C hd hQ fuel _ a' w' hw') (h.2 i hi)⟩

theorem wpIn_region_can {id : Nat} {Q : Exit → Act → World → Prop} {a : Act} {w : World} {l : List Oper} (C : World → World → Prop) (ord : List (Nat × Bool)) (hm : P.follows .mixedOrders = true) (hB : (Region.noSelect l.toArray && canB .any l.toArray ord (Array.replicate ord.length false) && (ord.length == l.length)) = true)
    (hd : noDefer l.toArray = true) (hrefl : ∀ w, C w w) (htrans : ∀ a b c, C a b → C b c → C a c)
    (h : wpCan P l.toArray C (fun a' w' => Q .normal a' w') ord a w.drew) : (Code.region id l.toArray true).wpIn (Fence.wide.inRound lp) n P Q a w := by
  simp only [Bool.and_eq_true] at hB
  obtain ⟨⟨h1, h2⟩, h3⟩ := hB
  have h3' : ord.length = l.length := by simpa using h3
  refine wpIn_region_any hm (wpAnyIn_of_C (C := C) (Q := fun a' w' => Q .normal a' w') hd (fun _ _ h => h) _ _ _ _ ?_)
  have := wpAnyC_can (md := .any) hrefl htrans h1 ord _ a w.drew h2 h
  rw [h3'] at this
  simpa using this

theorem wpOpIn_of_stL {i : Nat} {a : Act} {w : World} {K K' : Act → World → Prop} {Q : Exit → Act → World → Prop} (hd : noDefer ops = true) (h : ∀ a w', K a w' → K' a w') (hh : stL P ops C lx i K a w) : wpOpIn (Fence.wide.inRound lp) n P ops Q i K' a w := by
  unfold stL at hh
  unfold wpOpIn
  split
  · rename_i ho; simp only [ho] at hh; exact h _ _ hh
  · rename_i o ho
    simp only [ho] at hh
    split
    · rename_i hw; simp only [hw, if_true] at hh; exact wpIn_of_opC (noDefer_spec hd ho) (fun v w' hv => h _ _ hv.2) hh
    · rename_i hw; simp only [hw] at hh; exact ⟨fun _ _ => trivial, h _ _ hh⟩

theorem wpAnyIn_of_L {Q : Act → World → Prop} {Q' : Exit → Act → World → Prop} (hd : noDefer ops = true) (hQ : ∀ a w, Q a w → Q' .normal a w) : ∀ (fuel : Nat) (listed : Array Bool) (a : Act) (w : World),
    wpAnyL P md ops C lx Q fuel listed a w → wpAnyIn (Fence.wide.inRound lp) n P md ops Q' fuel listed a w
  | 0, _, _, _, h => ⟨h.1, hQ _ _ h.2⟩
  | fuel + 1, _, _, _, h => ⟨fun h0 => hQ _ _ (h.1 h0), fun i hi => wpOpIn_of_stL hd (fun a' w' hw' => wpAnyIn_of_L hd hQ fuel _ a' w' hw') (h.2 i hi)⟩

theorem wpIn_region_canL {id : Nat} {Q : Exit → Act → World → Prop} {a : Act} {w : World} {l : List Oper} (C : World → World → Prop) (lx : Nat) (ord : List (Nat × Bool)) (hm : P.follows .mixedOrders = true) (hB : (Region.noSelect l.toArray && canB .any l.toArray ord (Array.replicate ord.length false) && (ord.length == l.length)) = true)
    (hlast : lastB .any l.toArray lx = true) (hd : noDefer l.toArray = true) (hrefl : ∀ w, C w w) (htrans : ∀ a b c, C a b → C b c → C a c)
    (h : wpCanL P l.toArray C lx (fun a' w' => Q .normal a' w') ord a w.drew) : (Code.region id l.toArray true).wpIn (Fence.wide.inRound lp) n P Q a w := by
  simp only [Bool.and_eq_true] at hB
  obtain ⟨⟨h1, h2⟩, h3⟩ := hB
  have h3' : ord.length = l.length := by simpa using h3
  refine wpIn_region_any hm (wpAnyIn_of_L (C := C) (lx := lx) (Q := fun a' w' => Q .normal a' w') hd (fun _ _ h => h) _ _ _ _ ?_)
  have := wpAnyL_can (md := .any) hlast hrefl htrans h1 ord _ a w.drew (fun k hk => by simp [Array.getElem?_replicate] at hk; split at hk <;> simp at hk) h2 h
  rw [h3'] at this
  simpa using this
end
end Go.Proofs.YtmimplmeccoahaaDoor
