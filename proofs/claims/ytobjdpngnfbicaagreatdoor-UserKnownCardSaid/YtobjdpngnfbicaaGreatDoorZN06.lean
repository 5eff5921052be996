/-
  Region Region2 RL4 Str
-/
import Derived.Still
import Derived.Tactics
import Derived.Tactics2
import Derived.Deep.Quiet
import Derived.KernelRfl
import Derived.Below
import Derived.Test.YtobjdpngnfbicaaGreatDoorZN03
import Derived.Test.YtobjdpngnfbicaaGreatDoorChecked
import Derived.Test.YtobjdpngnfbicaaGreatDoorZN04
import Derived.WalkSpells
namespace Go.Proofs.YtobjdpngnfbicaaGreatDoor
open Go
section
variable {P:Program} {ops:Array Oper} {md:Region.Mode} {C:World→World→Prop}
def upC (P:Program) (next:Value→World→Prop):Result Next→Prop
 | .ok (.value v) w'=>next v w'
 | .ok .skip w'=>next undef w'
 | .ok (.enter f args) w'=>Calls P f args w' (fun e w''=>∃ v,e=.returned v∧next v w'')
 | _=>False
def opC (P:Program) (o:Oper) (a:Act) (w:World) (next:Value→World→Prop):Prop:=upC P next ((execOp a.eval o).run P w)
theorem upC_mono {next next':Value→World→Prop} {r:Result Next} (h:∀ v w,next v w→next' v w) (hh:upC P next r):upC P next' r:=by
 cases r with
 | ok n w'=>
   cases n <;> simp only [upC] at hh ⊢
   case enter f args=>exact hh.mono fun e w'' ⟨v,he,hn⟩=>⟨v,he,h _ _ hn⟩
   all_goals exact h _ _ hh
 | halt x w'=>simp only [upC] at hh
def stC (P:Program) (ops:Array Oper) (C:World→World→Prop) (i:Nat) (K:Act→World→Prop) (a:Act) (w:World):Prop:=
 match ops[i]? with
 | none=>K a w
 | some o=>if Region.wanted o (yielded ops a.tmps) then opC P o a w (fun v w'=>C w w'∧K (a.put o.dst v) w') else K (a.put o.dst undef) w
theorem stC_mono {i:Nat} {a:Act} {w:World} {K K':Act→World→Prop} (h:∀ a w',K a w'→K' a w') (hh:stC P ops C i K a w):stC P ops C i K' a w:=by
 unfold stC at *
 split
 · exact h _ _ (by simpa [*] using hh)
 · rename_i o ho
   simp only [ho] at hh
   split
   · rename_i hw;simp only [hw,if_true] at hh;exact upC_mono (fun v w' hv=>⟨hv.1,h _ _ hv.2⟩) hh
   · rename_i hw;simp only [hw] at hh;exact h _ _ hh
def wpAnyC (P:Program) (md:Region.Mode) (ops:Array Oper) (C:World→World→Prop) (Q:Act→World→Prop):Nat→Array Bool→Act→World→Prop
 | 0,listed,a,w=>Region.ready md ops listed = []∧Q a w
 | fuel+1,listed,a,w=>
   (Region.ready md ops listed = []→Q a w) ∧
   ∀ i ∈ Region.ready md ops listed,stC P ops C i (wpAnyC P md ops C Q fuel (listed.setIfInBounds i true)) a w
theorem wp_of_opC {o:Oper} {a:Act} {w:World} {next:Value→World→Prop} {K:Act→World→Prop} {Q:Exit→Act→World→Prop} (h:∀ v w',next v w'→K (a.put o.dst v) w') (hh:opC P o a w next):o.wp P a w K Q:=by
 unfold opC at hh
 unfold Oper.wp
 generalize (execOp a.eval o).run P w=r at *
 cases r with
 | ok n w'=>
   cases n <;> simp only [upC] at hh <;> simp only [Oper.upon]
   case enter f args=>exact hh.mono fun e w'' ⟨v,he,hn⟩=>by subst he;exact h _ _ hn
   all_goals exact h _ _ hh
 | halt x w'=>simp only [upC] at hh
theorem wpOp_of_stC {i:Nat} {a:Act} {w:World} {K K':Act→World→Prop} {Q:Exit→Act→World→Prop} (h:∀ a w',K a w'→K' a w') (hh:stC P ops C i K a w):wpOp P ops Q i K' a w:=by
 unfold stC at hh
 unfold wpOp
 split
 · rename_i ho;simp only [ho] at hh;exact h _ _ hh
 · rename_i o ho
   simp only [ho] at hh
   split
   · rename_i hw;simp only [hw,if_true] at hh;exact .inl (wp_of_opC (fun v w' hv=>h _ _ hv.2) hh)
   · rename_i hw;simp only [hw] at hh;exact h _ _ hh
theorem wpAny_of_C {Q:Act→World→Prop} {Q':Exit→Act→World→Prop} (hQ:∀ a w,Q a w→Q' .normal a w):∀ (fuel:Nat) (listed:Array Bool) (a:Act) (w:World),
 wpAnyC P md ops C Q fuel listed a w→wpAny P md ops Q' fuel listed a w
 | 0,_,_,_,h=>⟨h.1,hQ _ _ h.2⟩
 | fuel+1,_,_,_,h=>⟨fun h0=>hQ _ _ (h.1 h0),fun i hi=>wpOp_of_stC (fun a' w' hw'=>wpAny_of_C hQ fuel _ a' w' hw') (h.2 i hi)⟩
def Steady (P:Program) (ops:Array Oper) (C:World→World→Prop) (o:Oper) (v:Value) (a:Act) (w:World):Prop:=
 (Region.wanted o (yielded ops a.tmps)=true∧∀ w',C w w'→(execOp a.eval o).run P w'=.ok (.value v) w') ∨
 (Region.wanted o (yielded ops a.tmps)=false∧v=undef)
theorem Steady.stC {i:Nat} {o:Oper} {v:Value} {a:Act} {w:World} (hrefl:∀ w,C w w) (hi:ops[i]?=some o) (hy:Steady P ops C o v a w) {K:Act→World→Prop} (h:K (a.put o.dst v) w):stC P ops C i K a w:=by
 unfold Go.Proofs.YtobjdpngnfbicaaGreatDoor.stC
 simp only [hi]
 rcases hy with ⟨hw,hv⟩ | ⟨hw,rfl⟩
 · simp only [hw,if_true,opC,hv w (hrefl w),upC];exact ⟨hrefl w,h⟩
 · simp only [hw,Bool.false_eq_true,if_false];exact h
theorem Steady.keep {oi oj:Oper} {v u:Value} {a:Act} {w w':World} (htrans:∀ a b c,C a b→C b c→C a c) (hap:oi.apart ops oj=true) (hsi:∀ cs b,oi.op≠.select cs b)
 (hy:Steady P ops C oi v a w) (hc:C w w'):Steady P ops C oi v (a.put oj.dst u) w':=by
 obtain ⟨h1,h2,h3⟩:=Oper.apart_spec hap
 unfold Steady at *
 rw [execOp_put oi hsi a oj.dst u h3,wanted_put oi a oj.dst u h3]
 rcases hy with ⟨hw,hv⟩ | hy
 · exact .inl ⟨hw,fun w'' hc'=>hv w'' (htrans _ _ _ hc hc')⟩
 · exact .inr hy
theorem stC_put {j:Nat} {oi oj:Oper} {v:Value} (hrefl:∀ w,C w w) (htrans:∀ a b c,C a b→C b c→C a c) (hj:ops[j]?=some oj) (hap:oi.apart ops oj=true)
 (hsi:∀ cs b,oi.op≠.select cs b) (hsj:∀ cs b,oj.op≠.select cs b) {K:Act→World→Prop} {a:Act} {w:World}
 (hy:Steady P ops C oi v a w) (h:stC P ops C j K (a.put oi.dst v) w):
 stC P ops C j (fun a' w'=>Steady P ops C oi v a' w'∧K (a'.put oi.dst v) w') a w:=by
 obtain ⟨h1,h2,h3⟩:=Oper.apart_spec hap
 unfold stC at *
 simp only [hj] at *
 rw [wanted_put oj a oi.dst v h1] at h
 split
 · rename_i hw
   simp only [hw,if_true] at h
   unfold opC at *
   rw [execOp_put oj hsj a oi.dst v h1] at h
   exact upC_mono (fun u w' hu=>⟨hu.1,hy.keep htrans hap hsi hu.1,by rw [←Act.put_comm a v u h2];exact hu.2⟩) h
 · rename_i hw
   simp only [hw] at h
   exact ⟨hy.keep htrans hap hsi (hrefl w),by rw [←Act.put_comm a v undef h2];exact h⟩
theorem wpAnyC_first {Q:Act→World→Prop} {i:Nat} {oi:Oper} {v:Value} (hrefl:∀ w,C w w) (htrans:∀ a b c,C a b→C b c→C a c) (hi:ops[i]?=some oi) (hsel:∀ (j:Nat) (o:Oper) cs b,ops[j]?=some o→o.op≠.select cs b):
 ∀ (fuel:Nat) (listed:Array Bool) (a:Act) (w:World),
   (∀ j oj,ops[j]?=some oj→j≠i→listed.getD j true=false→(∀ e ∈ oj.after,Region.binds md e=true→e.on≠i)→oi.apart ops oj=true) →
   i ∈ Region.ready md ops listed→Steady P ops C oi v a w →
   wpAnyC P md ops C Q fuel (listed.setIfInBounds i true) (a.put oi.dst v) w→wpAnyC P md ops C Q (fuel+1) listed a w:=by
 intro fuel
 induction fuel with
 | zero=>
   intro listed a w _ hr hy H
   refine ⟨fun h=>(by rw [h] at hr;cases hr),fun j hj=>?_⟩
   by_cases hji:j=i
   · subst hji;exact hy.stC hrefl hi H
   · have:=ready_mono hj hji
     rw [H.1] at this
     cases this
 | succ fuel ih=>
   intro listed a w hfree hr hy H
   refine ⟨fun h=>(by rw [h] at hr;cases hr),fun j hj=>?_⟩
   by_cases hji:j=i
   · subst hji;exact hy.stC hrefl hi H
   · have h1:=H.2 j (ready_mono hj hji)
     obtain ⟨hjun,oj,hoj,hall⟩:=mem_ready.1 hj
     have hnot:∀ e ∈ oj.after,Region.binds md e=true→e.on≠i:=fun e he hb heq=>by
      have h1:=hall e he hb
      have h0:=(mem_ready.1 hr).1
      rw [heq] at h1
      rcases Nat.lt_or_ge i listed.size with h' | h'
      · simp [h'] at h0 h1;rw [h0] at h1;cases h1
      · simp [Array.getElem?_eq_none h'] at h1
     have h2:=stC_put hrefl htrans hoj (hfree j oj hoj hji hjun hnot) (fun cs b=>hsel i oi cs b hi) (fun cs b=>hsel j oj cs b hoj) hy h1
     have hfree':∀ k ok,ops[k]?=some ok→k≠i→(listed.setIfInBounds j true).getD k true=false →
      (∀ e ∈ ok.after,Region.binds md e=true→e.on≠i)→oi.apart ops ok=true:=fun k ok hk hki hun hno=>by
      refine hfree k ok hk hki ?_ hno
      by_cases hjk:j=k
      · subst hjk;exact hjun
      · rw [getD_set_ne true hjk] at hun;exact hun
     refine stC_mono (fun a' w' h3=>ih (listed.setIfInBounds j true) a' w' hfree' (ready_mono hr (Ne.symm hji)) h3.1 ?_) h2
     rw [Array.setIfInBounds_comm _ _ hji]
     exact h3.2
def wpCan (P:Program) (ops:Array Oper) (C:World→World→Prop) (Q:Act→World→Prop):List (Nat × Bool)→Act→World→Prop
 | [],a,w=>Q a w
 | (i,true) :: r,a,w=>match ops[i]? with
   | none=>False
   | some o=>if Region.wanted o (yielded ops a.tmps) then ∃ v,(∀ w',C w w'→(execOp a.eval o).run P w'=.ok (.value v) w')∧wpCan P ops C Q r (a.put o.dst v) w else wpCan P ops C Q r (a.put o.dst undef) w
 | (i,false) :: r,a,w=>match ops[i]? with
   | none=>False
   | some o=>if Region.wanted o (yielded ops a.tmps) then opC P o a w (fun v w'=>C w w'∧wpCan P ops C Q r (a.put o.dst v) w') else wpCan P ops C Q r (a.put o.dst undef) w
def canB (md:Region.Mode) (ops:Array Oper):List (Nat × Bool)→Array Bool→Bool
 | [],listed=>(Region.ready md ops listed).isEmpty
 | (i,true) :: r,listed=>(Region.ready md ops listed).contains i && Region.free md ops listed i && canB md ops r (listed.setIfInBounds i true)
 | (i,false) :: r,listed=>(Region.ready md ops listed == [i]) && canB md ops r (listed.setIfInBounds i true)
theorem wpAnyC_can {Q:Act→World→Prop} (hrefl:∀ w,C w w) (htrans:∀ a b c,C a b→C b c→C a c) (hs:Region.noSelect ops=true):∀ (l:List (Nat × Bool)) (listed:Array Bool) (a:Act) (w:World),
 canB md ops l listed=true→wpCan P ops C Q l a w→wpAnyC P md ops C Q l.length listed a w
 | [],_,_,_,hB,h=>⟨by simpa [canB] using hB,h⟩
 | (i,true) :: l,listed,a,w,hB,h=>by
   simp only [canB,Bool.and_eq_true] at hB
   obtain ⟨⟨hr,hf⟩,hB'⟩:=hB
   simp only [wpCan] at h
   cases h0:ops[i]? with
   | none=>simp [h0] at h
   | some o=>
     simp only [h0] at h
     by_cases hw:Region.wanted o (yielded ops a.tmps)=true
     · simp only [hw,if_true] at h
       obtain ⟨v,hv,hK⟩:=h
       exact wpAnyC_first hrefl htrans h0 (Region.noSelect_spec hs) l.length listed a w (Region.free_spec h0 hf) (by simpa using hr) (.inl ⟨hw,hv⟩) (wpAnyC_can hrefl htrans hs l _ _ _ hB' hK)
     · simp only [hw] at h
       exact wpAnyC_first hrefl htrans h0 (Region.noSelect_spec hs) l.length listed a w (Region.free_spec h0 hf) (by simpa using hr) (.inr ⟨by simpa using hw,rfl⟩) (wpAnyC_can hrefl htrans hs l _ _ _ hB' h)
 | (i,false) :: l,listed,a,w,hB,h=>by
   simp only [canB,Bool.and_eq_true] at hB
   obtain ⟨hr,hB'⟩:=hB
   have hr':Region.ready md ops listed = [i]:=by simpa using hr
   simp only [wpCan] at h
   refine ⟨fun h0=>(by rw [hr'] at h0;cases h0),fun j hj=>?_⟩
   rw [hr'] at hj
   obtain rfl:j=i:=by simpa using hj
   unfold stC
   cases h0:ops[j]? with
   | none=>simp [h0] at h
   | some o=>
     simp only [h0] at h
     simp only
     split
     · rename_i hw
       simp only [hw,if_true] at h
       exact upC_mono (fun v w' hv=>⟨hv.1,wpAnyC_can hrefl htrans hs l _ _ _ hB' hv.2⟩) h
     · rename_i hw
       simp only [hw] at h
       exact wpAnyC_can hrefl htrans hs l _ _ _ hB' h
theorem wp_region_can {id:Nat} {Q:Exit→Act→World→Prop} {a:Act} {w:World} {l:List Oper} (C:World→World→Prop) (ord:List (Nat × Bool)) (hm:P.follows .mixedOrders=true) (hB:(Region.noSelect l.toArray && canB .any l.toArray ord (Array.replicate ord.length false) && (ord.length == l.length))=true)
 (hrefl:∀ w,C w w) (htrans:∀ a b c,C a b→C b c→C a c)
 (h:wpCan P l.toArray C (fun a' w'=>Q .normal a' w') ord a w.drew):(Code.region id l.toArray true).wp P Q a w:=by
 simp only [Bool.and_eq_true] at hB
 obtain ⟨⟨h1,h2⟩,h3⟩:=hB
 have h3':ord.length=l.length:=by simpa using h3
 refine wp_region_any hm (wpAny_of_C (C:=C) (Q:=fun a' w'=>Q .normal a' w') (fun _ _ h=>h) _ _ _ _ ?_)
 have:=wpAnyC_can (md:=.any) hrefl htrans h1 ord _ a w.drew h2 h
 rw [h3'] at this
 simpa using this
theorem can_nil {Q:Act→World→Prop} {a:Act} {w:World} (h:Q a w):wpCan P ops C Q [] a w:=h
theorem wanted_none {o:Oper} {y:Nat→Option Bool} (h:o.guard=none):Region.wanted o y=true:=by simp [Region.wanted,h]
theorem can_yes {Q:Act→World→Prop} {i:Nat} {o:Oper} {r:List (Nat × Bool)} {a:Act} {w:World} (ho:ops[i]?=some o) (hw:Region.wanted o (yielded ops a.tmps)=true) {v:Value}
 (hv:∀ w',C w w'→(execOp a.eval o).run P w'=.ok (.value v) w')
 (h:∀ K:Act→Prop,(∀ a',wpCan P ops C Q r a' w→K a')→K (a.put o.dst v)):wpCan P ops C Q ((i,true) :: r) a w:=by
 simp only [wpCan,ho,hw,if_true]
 exact ⟨v,hv,h _ (fun _ h=>h)⟩
theorem can_guard {Q:Act→World→Prop} {i:Nat} {o:Oper} {r:List (Nat × Bool)} {a:Act} {w:World} (ho:ops[i]?=some o)
 (h:∀ A B:Prop,((∃ v,(∀ w',C w w'→(execOp a.eval o).run P w'=.ok (.value v) w')∧∀ K:Act→Prop,(∀ a',wpCan P ops C Q r a' w→K a')→K (a.put o.dst v))→A) →
  ((∀ K:Act→Prop,(∀ a',wpCan P ops C Q r a' w→K a')→K (a.put o.dst undef))→B)→if Region.wanted o (yielded ops a.tmps) then A else B):wpCan P ops C Q ((i,true) :: r) a w:=by
 have hh:=h _ _ id id
 simp only [wpCan,ho]
 split
 · rename_i hw
   simp only [hw,if_true] at hh
   obtain ⟨v,hv,hk⟩:=hh
   exact ⟨v,hv,hk _ (fun _ h=>h)⟩
 · rename_i hw
   simp only [hw] at hh
   exact hh _ (fun _ h=>h)
theorem can_guard_go {Q:Act→World→Prop} {i:Nat} {o:Oper} {r:List (Nat × Bool)} {a:Act} {w:World} (ho:ops[i]?=some o)
 (h:∀ A B:Prop,((∀ K:Act→World→Prop,(∀ a' w',wpCan P ops C Q r a' w'→K a' w')→opC P o a w (fun v w'=>C w w'∧K (a.put o.dst v) w'))→A) →
  ((∀ K:Act→Prop,(∀ a',wpCan P ops C Q r a' w→K a')→K (a.put o.dst undef))→B)→if Region.wanted o (yielded ops a.tmps) then A else B):wpCan P ops C Q ((i,false) :: r) a w:=by
 have hh:=h _ _ id id
 simp only [wpCan,ho]
 split
 · rename_i hw
   simp only [hw,if_true] at hh
   exact hh _ (fun _ _ h=>h)
 · rename_i hw
   simp only [hw] at hh
   exact hh _ (fun _ h=>h)
theorem can_go {Q:Act→World→Prop} {i:Nat} {o:Oper} {r:List (Nat × Bool)} {a:Act} {w:World} (ho:ops[i]?=some o) (hw:Region.wanted o (yielded ops a.tmps)=true)
 (h:∀ K:Act→World→Prop,(∀ a' w',wpCan P ops C Q r a' w'→K a' w')→opC P o a w (fun v w'=>C w w'∧K (a.put o.dst v) w')):wpCan P ops C Q ((i,false) :: r) a w:=by
 simp only [wpCan,ho,hw,if_true]
 exact h _ (fun _ _ h=>h)
end
attribute [irreducible] wpCan
def Later (w w':World):Prop:=RowKit.Below w.heap.size w w'
theorem later_refl (w:World):Later w w:=RowKit.Below.refl _ _
theorem later_trans (a b c:World) (h:Later a b) (k:Later b c):Later a c:=h.trans (k.mono h.size)
def LaterF (F:Blks) (w w':World):Prop:=Only F w w'
theorem laterF_refl (F:Blks) (w:World):LaterF F w w:=Only.refl _ _
theorem laterF_trans (F:Blks) (a b c:World) (h:LaterF F a b) (k:LaterF F b c):LaterF F a c:=Only.trans h k (fun _ hi=>.inl hi)
theorem LaterF.of_below {F:Blks} {w w':World} (h:RowKit.Below w.heap.size w w'):LaterF F w w':=Only.of_below h
end Go.Proofs.YtobjdpngnfbicaaGreatDoor

namespace Go.Proofs.YtobjdpngnfbicaaGreatDoor
open Go
section
variable {P:Program} {ops:Array Oper} {md:Region.Mode} {C:World→World→Prop} {lx:Nat}
def stL (P:Program) (ops:Array Oper) (C:World→World→Prop) (lx:Nat) (i:Nat) (K:Act→World→Prop) (a:Act) (w:World):Prop:=
 match ops[i]? with
 | none=>K a w
 | some o=>if Region.wanted o (yielded ops a.tmps) then opC P o a w (fun v w'=>(i=lx∨C w w')∧K (a.put o.dst v) w') else K (a.put o.dst undef) w
theorem stL_mono {i:Nat} {a:Act} {w:World} {K K':Act→World→Prop} (h:∀ a w',K a w'→K' a w') (hh:stL P ops C lx i K a w):stL P ops C lx i K' a w:=by
 unfold stL at *
 split
 · exact h _ _ (by simpa [*] using hh)
 · rename_i o ho
   simp only [ho] at hh
   split
   · rename_i hw;simp only [hw,if_true] at hh;exact upC_mono (fun v w' hv=>⟨hv.1,h _ _ hv.2⟩) hh
   · rename_i hw;simp only [hw] at hh;exact h _ _ hh
def wpAnyL (P:Program) (md:Region.Mode) (ops:Array Oper) (C:World→World→Prop) (lx:Nat) (Q:Act→World→Prop):Nat→Array Bool→Act→World→Prop
 | 0,listed,a,w=>Region.ready md ops listed = []∧Q a w
 | fuel+1,listed,a,w=>
   (Region.ready md ops listed = []→Q a w) ∧
   ∀ i ∈ Region.ready md ops listed,stL P ops C lx i (wpAnyL P md ops C lx Q fuel (listed.setIfInBounds i true)) a w
theorem wpOp_of_stL {i:Nat} {a:Act} {w:World} {K K':Act→World→Prop} {Q:Exit→Act→World→Prop} (h:∀ a w',K a w'→K' a w') (hh:stL P ops C lx i K a w):wpOp P ops Q i K' a w:=by
 unfold stL at hh
 unfold wpOp
 split
 · rename_i ho;simp only [ho] at hh;exact h _ _ hh
 · rename_i o ho
   simp only [ho] at hh
   split
   · rename_i hw;simp only [hw,if_true] at hh;exact .inl (wp_of_opC (fun v w' hv=>h _ _ hv.2) hh)
   · rename_i hw;simp only [hw] at hh;exact h _ _ hh
theorem wpAny_of_L {Q:Act→World→Prop} {Q':Exit→Act→World→Prop} (hQ:∀ a w,Q a w→Q' .normal a w):∀ (fuel:Nat) (listed:Array Bool) (a:Act) (w:World),
 wpAnyL P md ops C lx Q fuel listed a w→wpAny P md ops Q' fuel listed a w
 | 0,_,_,_,h=>⟨h.1,hQ _ _ h.2⟩
 | fuel+1,_,_,_,h=>⟨fun h0=>hQ _ _ (h.1 h0),fun i hi=>wpOp_of_stL (fun a' w' hw'=>wpAny_of_L hQ fuel _ a' w' hw') (h.2 i hi)⟩
theorem Steady.stL {i:Nat} {o:Oper} {v:Value} {a:Act} {w:World} (hrefl:∀ w,C w w) (hi:ops[i]?=some o) (hy:Steady P ops C o v a w) {K:Act→World→Prop} (h:K (a.put o.dst v) w):stL P ops C lx i K a w:=by
 unfold Go.Proofs.YtobjdpngnfbicaaGreatDoor.stL
 simp only [hi]
 rcases hy with ⟨hw,hv⟩ | ⟨hw,rfl⟩
 · simp only [hw,if_true,opC,hv w (hrefl w),upC];exact ⟨.inr (hrefl w),h⟩
 · simp only [hw,Bool.false_eq_true,if_false];exact h
theorem stL_put {j:Nat} {oi oj:Oper} {v:Value} (hrefl:∀ w,C w w) (htrans:∀ a b c,C a b→C b c→C a c) (hj:ops[j]?=some oj) (hjl:j≠lx) (hap:oi.apart ops oj=true)
 (hsi:∀ cs b,oi.op≠.select cs b) (hsj:∀ cs b,oj.op≠.select cs b) {K:Act→World→Prop} {a:Act} {w:World}
 (hy:Steady P ops C oi v a w) (h:stL P ops C lx j K (a.put oi.dst v) w):
 stL P ops C lx j (fun a' w'=>Steady P ops C oi v a' w'∧K (a'.put oi.dst v) w') a w:=by
 obtain ⟨h1,h2,h3⟩:=Oper.apart_spec hap
 unfold stL at *
 simp only [hj] at *
 rw [wanted_put oj a oi.dst v h1] at h
 split
 · rename_i hw
   simp only [hw,if_true] at h
   unfold opC at *
   rw [execOp_put oj hsj a oi.dst v h1] at h
   exact upC_mono (fun u w' hu=>⟨hu.1,hy.keep htrans hap hsi (hu.1.resolve_left hjl),by rw [←Act.put_comm a v u h2];exact hu.2⟩) h
 · rename_i hw
   simp only [hw] at h
   exact ⟨hy.keep htrans hap hsi (hrefl w),by rw [←Act.put_comm a v undef h2];exact h⟩
def depsOf (md:Region.Mode) (ops:Array Oper) (i:Nat):List Nat:=
 match ops[i]? with
 | none=>[]
 | some o=>(o.after.toList.filter (Region.binds md)).map (·.on)
def reachOf (md:Region.Mode) (ops:Array Oper):Nat→List Nat→List Nat
 | 0,l=>l
 | n+1,l=>reachOf md ops n (l ++ l.flatMap (depsOf md ops)).eraseDups
def lastB (md:Region.Mode) (ops:Array Oper) (lx:Nat):Bool:=
 (List.range ops.size).all fun i=>(i == lx) || (reachOf md ops 6 (depsOf md ops lx)).contains i || (reachOf md ops 6 (depsOf md ops i)).contains lx
def Closed (md:Region.Mode) (ops:Array Oper) (listed:Array Bool):Prop:=
 ∀ k,listed.getD k false=true→∀ j ∈ depsOf md ops k,listed.getD j false=true
theorem reach_listed {listed:Array Bool} (hc:Closed md ops listed):∀ (n:Nat) (l:List Nat),(∀ j ∈ l,listed.getD j false=true)→∀ j ∈ reachOf md ops n l,listed.getD j false=true
 | 0,_,h=>h
 | n+1,l,h=>reach_listed hc n _ (fun j hj=>by
   rw [List.mem_eraseDups,List.mem_append,List.mem_flatMap] at hj
   rcases hj with hj | ⟨k,hk,hj⟩
   · exact h j hj
   · exact hc k (h k hk) j hj)
theorem deps_listed {listed:Array Bool} {i:Nat} (hi:i ∈ Region.ready md ops listed):∀ j ∈ depsOf md ops i,listed.getD j false=true:=by
 obtain ⟨_,o,ho,hall⟩:=mem_ready.1 hi
 intro j hj
 unfold depsOf at hj
 rw [ho] at hj
 simp only [List.mem_map,List.mem_filter] at hj
 obtain ⟨e,⟨he,hb⟩,rfl⟩:=hj
 exact hall e (by simpa using he) hb
theorem Closed.set {listed:Array Bool} {i:Nat} (hc:Closed md ops listed) (hi:i ∈ Region.ready md ops listed):Closed md ops (listed.setIfInBounds i true):=by
 intro k hk j hj
 by_cases hki:i=k
 · subst hki
   exact getD_set_true (deps_listed hi j hj)
 · rw [getD_set_ne false hki] at hk
   exact getD_set_true (hc k hk j hj)
theorem last_of (h:lastB md ops lx=true) {i:Nat} {listed:Array Bool} (hc:Closed md ops listed) (hi:i ∈ Region.ready md ops listed) (hl:lx ∈ Region.ready md ops listed):i=lx:=by
 obtain ⟨hu,oi,hoi,_⟩:=mem_ready.1 hi
 have hlt:i < ops.size:=(Array.getElem?_eq_some_iff.1 hoi).1
 have h0:=List.all_eq_true.1 h i (by simpa using hlt)
 simp only [Bool.or_eq_true,beq_iff_eq] at h0
 have hno:∀ k,listed.getD k true=false→listed.getD k false=true→False:=fun k hu this=>by
  rcases Nat.lt_or_ge k listed.size with h' | h'
  · simp [h'] at hu this
    rw [hu] at this
    cases this
  · simp [Array.getElem?_eq_none h'] at this
 rcases h0 with (h0 | hm) | hm
 · exact h0
 · exact (hno i hu (reach_listed hc 6 _ (deps_listed hl) i (by simpa using hm))).elim
 · exact (hno lx (mem_ready.1 hl).1 (reach_listed hc 6 _ (deps_listed hi) lx (by simpa using hm))).elim
theorem wpAnyL_first {Q:Act→World→Prop} {i:Nat} {oi:Oper} {v:Value} (hlast:lastB md ops lx=true) (hrefl:∀ w,C w w) (htrans:∀ a b c,C a b→C b c→C a c) (hi:ops[i]?=some oi) (hsel:∀ (j:Nat) (o:Oper) cs b,ops[j]?=some o→o.op≠.select cs b):
 ∀ (fuel:Nat) (listed:Array Bool) (a:Act) (w:World),Closed md ops listed →
   (∀ j oj,ops[j]?=some oj→j≠i→listed.getD j true=false→(∀ e ∈ oj.after,Region.binds md e=true→e.on≠i)→oi.apart ops oj=true) →
   i ∈ Region.ready md ops listed→Steady P ops C oi v a w →
   wpAnyL P md ops C lx Q fuel (listed.setIfInBounds i true) (a.put oi.dst v) w→wpAnyL P md ops C lx Q (fuel+1) listed a w:=by
 intro fuel
 induction fuel with
 | zero=>
   intro listed a w _ _ hr hy H
   refine ⟨fun h=>(by rw [h] at hr;cases hr),fun j hj=>?_⟩
   by_cases hji:j=i
   · subst hji;exact hy.stL hrefl hi H
   · have:=ready_mono hj hji
     rw [H.1] at this
     cases this
 | succ fuel ih=>
   intro listed a w hcl hfree hr hy H
   refine ⟨fun h=>(by rw [h] at hr;cases hr),fun j hj=>?_⟩
   by_cases hji:j=i
   · subst hji;exact hy.stL hrefl hi H
   · have h1:=H.2 j (ready_mono hj hji)
     obtain ⟨hjun,oj,hoj,hall⟩:=mem_ready.1 hj
     have hnot:∀ e ∈ oj.after,Region.binds md e=true→e.on≠i:=fun e he hb heq=>by
      have h1:=hall e he hb
      have h0:=(mem_ready.1 hr).1
      rw [heq] at h1
      rcases Nat.lt_or_ge i listed.size with h' | h'
      · simp [h'] at h0 h1;rw [h0] at h1;cases h1
      · simp [Array.getElem?_eq_none h'] at h1
     have hjl:j≠lx:=fun e=>hji (e.trans (last_of hlast hcl hr (e ▸ hj)).symm)
     have h2:=stL_put hrefl htrans hoj hjl (hfree j oj hoj hji hjun hnot) (fun cs b=>hsel i oi cs b hi) (fun cs b=>hsel j oj cs b hoj) hy h1
     have hfree':∀ k ok,ops[k]?=some ok→k≠i→(listed.setIfInBounds j true).getD k true=false →
      (∀ e ∈ ok.after,Region.binds md e=true→e.on≠i)→oi.apart ops ok=true:=fun k ok hk hki hun hno=>by
      refine hfree k ok hk hki ?_ hno
      by_cases hjk:j=k
      · subst hjk;exact hjun
      · rw [getD_set_ne true hjk] at hun;exact hun
     refine stL_mono (fun a' w' h3=>ih (listed.setIfInBounds j true) a' w' (hcl.set hj) hfree' (ready_mono hr (Ne.symm hji)) h3.1 ?_) h2
     rw [Array.setIfInBounds_comm _ _ hji]
     exact h3.2
def wpCanL (P:Program) (ops:Array Oper) (C:World→World→Prop) (lx:Nat) (Q:Act→World→Prop):List (Nat × Bool)→Act→World→Prop
 | [],a,w=>Q a w
 | (i,true) :: r,a,w=>match ops[i]? with
   | none=>False
   | some o=>if Region.wanted o (yielded ops a.tmps) then ∃ v,(∀ w',C w w'→(execOp a.eval o).run P w'=.ok (.value v) w')∧wpCanL P ops C lx Q r (a.put o.dst v) w else wpCanL P ops C lx Q r (a.put o.dst undef) w
 | (i,false) :: r,a,w=>match ops[i]? with
   | none=>False
   | some o=>if Region.wanted o (yielded ops a.tmps) then opC P o a w (fun v w'=>(i=lx∨C w w')∧wpCanL P ops C lx Q r (a.put o.dst v) w') else wpCanL P ops C lx Q r (a.put o.dst undef) w
theorem wpAnyL_can {Q:Act→World→Prop} (hlast:lastB md ops lx=true) (hrefl:∀ w,C w w) (htrans:∀ a b c,C a b→C b c→C a c) (hs:Region.noSelect ops=true):∀ (l:List (Nat × Bool)) (listed:Array Bool) (a:Act) (w:World),
 Closed md ops listed→canB md ops l listed=true→wpCanL P ops C lx Q l a w→wpAnyL P md ops C lx Q l.length listed a w
 | [],_,_,_,_,hB,h=>⟨by simpa [canB] using hB,h⟩
 | (i,true) :: l,listed,a,w,hcl,hB,h=>by
   simp only [canB,Bool.and_eq_true] at hB
   obtain ⟨⟨hr,hf⟩,hB'⟩:=hB
   simp only [wpCanL] at h
   cases h0:ops[i]? with
   | none=>simp [h0] at h
   | some o=>
     simp only [h0] at h
     by_cases hw:Region.wanted o (yielded ops a.tmps)=true
     · simp only [hw,if_true] at h
       obtain ⟨v,hv,hK⟩:=h
       exact wpAnyL_first hlast hrefl htrans h0 (Region.noSelect_spec hs) l.length listed a w hcl (Region.free_spec h0 hf) (by simpa using hr) (.inl ⟨hw,hv⟩) (wpAnyL_can hlast hrefl htrans hs l _ _ _ (hcl.set (by simpa using hr)) hB' hK)
     · simp only [hw] at h
       exact wpAnyL_first hlast hrefl htrans h0 (Region.noSelect_spec hs) l.length listed a w hcl (Region.free_spec h0 hf) (by simpa using hr) (.inr ⟨by simpa using hw,rfl⟩) (wpAnyL_can hlast hrefl htrans hs l _ _ _ (hcl.set (by simpa using hr)) hB' h)
 | (i,false) :: l,listed,a,w,hcl,hB,h=>by
   simp only [canB,Bool.and_eq_true] at hB
   obtain ⟨hr,hB'⟩:=hB
   have hr':Region.ready md ops listed = [i]:=by simpa using hr
   simp only [wpCanL] at h
   refine ⟨fun h0=>(by rw [hr'] at h0;cases h0),fun j hj=>?_⟩
   rw [hr'] at hj
   obtain rfl:j=i:=by simpa using hj
   have hr:j ∈ Region.ready md ops listed:=by rw [hr'];simp
   unfold stL
   cases h0:ops[j]? with
   | none=>simp [h0] at h
   | some o=>
     simp only [h0] at h
     simp only
     split
     · rename_i hw
       simp only [hw,if_true] at h
       exact upC_mono (fun v w' hv=>⟨hv.1,wpAnyL_can hlast hrefl htrans hs l _ _ _ (hcl.set (by simpa using hr)) hB' hv.2⟩) h
     · rename_i hw
       simp only [hw] at h
       exact wpAnyL_can hlast hrefl htrans hs l _ _ _ (hcl.set (by simpa using hr)) hB' h
theorem wp_region_canL {id:Nat} {Q:Exit→Act→World→Prop} {a:Act} {w:World} {l:List Oper} (C:World→World→Prop) (lx:Nat) (ord:List (Nat × Bool)) (hm:P.follows .mixedOrders=true) (hB:(Region.noSelect l.toArray && canB .any l.toArray ord (Array.replicate ord.length false) && (ord.length == l.length))=true)
 (hlast:lastB .any l.toArray lx=true) (hrefl:∀ w,C w w) (htrans:∀ a b c,C a b→C b c→C a c)
 (h:wpCanL P l.toArray C lx (fun a' w'=>Q .normal a' w') ord a w.drew):(Code.region id l.toArray true).wp P Q a w:=by
 simp only [Bool.and_eq_true] at hB
 obtain ⟨⟨h1,h2⟩,h3⟩:=hB
 have h3':ord.length=l.length:=by simpa using h3
 refine wp_region_any hm (wpAny_of_L (C:=C) (lx:=lx) (Q:=fun a' w'=>Q .normal a' w') (fun _ _ h=>h) _ _ _ _ ?_)
 have:=wpAnyL_can (md:=.any) hlast hrefl htrans h1 ord _ a w.drew (fun k hk=>by simp [Array.getElem?_replicate] at hk;split at hk <;> simp at hk) h2 h
 rw [h3'] at this
 simpa using this
theorem canL_nil {Q:Act→World→Prop} {a:Act} {w:World} (h:Q a w):wpCanL P ops C lx Q [] a w:=h
theorem canL_yes {Q:Act→World→Prop} {i:Nat} {o:Oper} {r:List (Nat × Bool)} {a:Act} {w:World} (ho:ops[i]?=some o) (hw:Region.wanted o (yielded ops a.tmps)=true) {v:Value}
 (hv:∀ w',C w w'→(execOp a.eval o).run P w'=.ok (.value v) w')
 (h:∀ K:Act→Prop,(∀ a',wpCanL P ops C lx Q r a' w→K a')→K (a.put o.dst v)):wpCanL P ops C lx Q ((i,true) :: r) a w:=by
 simp only [wpCanL,ho,hw,if_true]
 exact ⟨v,hv,h _ (fun _ h=>h)⟩
theorem canL_go {Q:Act→World→Prop} {i:Nat} {o:Oper} {r:List (Nat × Bool)} {a:Act} {w:World} (ho:ops[i]?=some o) (hw:Region.wanted o (yielded ops a.tmps)=true)
 (h:∀ K:Act→World→Prop,(∀ a' w',wpCanL P ops C lx Q r a' w'→K a' w')→opC P o a w (fun v w'=>(i=lx∨C w w')∧K (a.put o.dst v) w')):wpCanL P ops C lx Q ((i,false) :: r) a w:=by
 simp only [wpCanL,ho,hw,if_true]
 exact h _ (fun _ _ h=>h)
theorem canL_last {Q:Act→World→Prop} {i:Nat} {o:Oper} {r:List (Nat × Bool)} {a:Act} {w:World} (hx:i=lx) (ho:ops[i]?=some o) (hw:Region.wanted o (yielded ops a.tmps)=true)
 (h:∀ K:Act→World→Prop,(∀ a' w',wpCanL P ops C lx Q r a' w'→K a' w')→opC P o a w (fun v w'=>K (a.put o.dst v) w')):wpCanL P ops C lx Q ((i,false) :: r) a w:=by
 simp only [wpCanL,ho,hw,if_true]
 exact upC_mono (fun v w' hv=>⟨.inl hx,hv⟩) (h _ (fun _ _ h=>h))
end
attribute [irreducible] wpCanL
end Go.Proofs.YtobjdpngnfbicaaGreatDoor

namespace Go.Proofs.YtobjdpngnfbicaaGreatDoor
open Go.RowKit
set_option linter.unusedVariables false
set_option maxRecDepth 20000
attribute [local go_sem ↓] seal_append
end Go.Proofs.YtobjdpngnfbicaaGreatDoor
/- Two maps are compared: Same. -/
namespace Go.Proofs.YtobjdpngnfbicaaGreatDoor
open Go.RowKit
set_option linter.unusedVariables false
set_option maxRecDepth 20000
end Go.Proofs.YtobjdpngnfbicaaGreatDoor
/- A map is copied: given, taken. -/
namespace Go.Proofs.YtobjdpngnfbicaaGreatDoor
open Go.RowKit
set_option linter.unusedVariables false
set_option maxRecDepth 20000
attribute [local go_sem ↓] seal_append
theorem infoI:(Tryz.prog.info? 3).map (fun i=>(i.zero,i.size,i.bytes))=some (some (.int .i64 0),1,8):=by kernel_rfl
theorem infoItP:(Tryz.prog.info? 108).map (fun i=>(i.zero,i.size,i.bytes))=some (some (.agg #[.string ⟨#[]⟩,.int .i64 0,.int .i64 0,.int .i64 0]),4,40):=by kernel_rfl
theorem infoGoP:(Tryz.prog.info? 111).map (fun i=>(i.zero,i.size,i.bytes))=some (some (.agg #[.string ⟨#[]⟩,.int .i64 0,.int .i64 0]),3,32):=by kernel_rfl
def RowsT (tI tIt tGo:TypeId) (w:World) (base:Nat) (v:Value) (m:RMap):Prop:=∃ s1 s2 s3,v=.agg #[s1,s2,s3]∧w.ownsRow base tI 1 s1 m.seen.length (m.seen.map eI)∧w.ownsRow base tIt 4 s2 m.items.length (m.items.flatMap encIt)∧w.ownsRow base tGo 3 s3 m.gone.length (m.gone.flatMap encGo)
structure GivSt (tA tO tI tIt tGo:TypeId) (w wr:World) (m:RMap) (P:List Value) (v1 v2 v3:Value) (k2 k3:Nat):Prop where
 out:Blk wr (w.heap.size+1+1) [v1,v2,v3] tO
 par:Blk wr w.heap.size P tA
 res:Blk wr (w.heap.size+1) [.slice none 0 0,.slice none 0 0,.slice none 0 0] tO
 o1:wr.ownsRow w.heap.size tI 1 v1 m.seen.length (m.seen.map eI)
 o2:wr.ownsRow w.heap.size tIt 4 v2 k2 ((m.items.take k2).flatMap encIt)
 o3:wr.ownsRow w.heap.size tGo 3 v3 k3 ((m.gone.take k3).flatMap encGo)
 below:Below w.heap.size w wr
section
variable {tA tO tI tIt tGo:TypeId} {w wr:World} {m:RMap} {P:List Value} {v1 v2 v3:Value} {k2 k3:Nat}
theorem GivSt.kept (st:GivSt tA tO tI tIt tGo w wr m P v1 v2 v3 k2 k3) {wt:World} (hb:Below wr.heap.size wr wt):GivSt tA tO tI tIt tGo w wt m P v1 v2 v3 k2 k3:=
 ⟨st.out.keep (hb.block _ st.out.lt),st.par.keep (hb.block _ st.par.lt),st.res.keep (hb.block _ st.res.lt),own_below st.o1 hb,own_below st.o2 hb,own_below st.o3 hb,st.below.trans (hb.mono st.below.size)⟩
theorem GivSt.done (st:GivSt tA tO tI tIt tGo w wr m P v1 v2 v3 k2 k3) (h2:k2=m.items.length) (h3:k3=m.gone.length) {F:Blks} {w0:World} {s1 s2 s3:Value} (hm:MapIn F w0 s1 s2 s3 m) (n1:tI≠tO) (n2:tIt≠tO) (n3:tGo≠tO) {wf:World}
 (hwf:wf=((wr.setCell ⟨w.heap.size+1,0,none⟩ v1).setCell ⟨w.heap.size+1,1,none⟩ v2).setCell ⟨w.heap.size+1,2,none⟩ v3):
 Blk wf (w.heap.size+1) [v1,v2,v3] tO∧MapV (fun b=>w.heap.size≤b) wf (.agg #[v1,v2,v3]) m∧RowsT tI tIt tGo wf w.heap.size (.agg #[v1,v2,v3]) m∧Below w.heap.size w wf:=by
 subst h2 h3 hwf
 have r0:=st.res
 have r1:=r0.set 0 v1
 have r2:=r1.set 1 v2
 have r3:=r2.set 2 v3
 have e2:=st.o2
 have e3:=st.o3
 rw [List.take_length] at e2 e3
 have o1:=own_setCell (i:=2) (own_setCell (i:=1) (own_setCell (i:=0) st.o1 r0 n1 v1) r1 n1 v2) r2 n1 v3
 have o2:=own_setCell (i:=2) (own_setCell (i:=1) (own_setCell (i:=0) e2 r0 n2 v1) r1 n2 v2) r2 n2 v3
 have o3:=own_setCell (i:=2) (own_setCell (i:=1) (own_setCell (i:=0) e3 r0 n3 v1) r1 n3 v2) r2 n3 v3
 have hb:Below w.heap.size w _:=((st.below.setCell (p:=⟨w.heap.size+1,0,none⟩) (by show w.heap.size≤w.heap.size+1;omega) v1).setCell (p:=⟨w.heap.size+1,1,none⟩) (by show w.heap.size≤w.heap.size+1;omega) v2).setCell (p:=⟨w.heap.size+1,2,none⟩) (by show w.heap.size≤w.heap.size+1;omega) v3
 exact ⟨r3,⟨v1,v2,v3,rfl,(Rows.of_owns o1).mono (fun b h _=>h.1),(Rows.of_owns o2).mono (fun b h _=>h.1),(Rows.of_owns o3).mono (fun b h _=>h.1),hm.seenB,hm.itemsB,hm.goneB⟩,⟨v1,v2,v3,rfl,o1,o2,o3⟩,hb⟩
end
end Go.Proofs.YtobjdpngnfbicaaGreatDoor
/- same, equal, New. -/
namespace Go.Proofs.YtobjdpngnfbicaaGreatDoor
open Go.RowKit
set_option linter.unusedVariables false
set_option maxRecDepth 20000
attribute [local go_sem ↓] seal_append
attribute [local go_sem] opC upC
theorem cellLt {w:World} {a:Addr} {x:Value} (h:w.cell? a=some x):a.block < w.heap.size:=by
 rcases Nat.lt_or_ge a.block w.heap.size with hlt | hge
 · exact hlt
 · unfold World.cell? at h
   rw [Array.getElem?_eq_none hge] at h
   cases h
theorem laterC {w w':World} {a:Addr} {x:Value} (h:w.cell? a=some x) (hl:Later w.drew w'):w'.cell? a=some x:=by
 have hb:w'.heap[a.block]?=w.heap[a.block]?:=hl.block a.block (cellLt h)
 unfold World.cell? at *
 rw [hb]
 exact h
/-! New -/
theorem made8:(madeCells (Value.int .i64 0).cells (8 * 1)).toList=(List.replicate 8 (0:Int)).map eI:=by
 have h:madeCells (Array.replicate 1 (Value.int .i64 0)) 8=Array.replicate 8 (Value.int .i64 0):=by
  apply Array.ext
  · simp [madeCells]
  · intro i h1 h2
    simp only [madeCells,Array.getElem_map,Array.getElem_range,Array.size_replicate,Array.getElem_replicate]
    rw [getElem!_pos (Array.replicate 1 (Value.int .i64 0)) (i % 1) (by simpa using Nat.mod_lt i (show 0 < 1 by decide))]
    simp
 simp only [Value.cells]
 rw [show #[Value.int .i64 0]=Array.replicate 1 (Value.int .i64 0) from rfl,show 8 * 1=8 from rfl,h]
 simp
attribute [local go_sem ↓] seal_make
end Go.Proofs.YtobjdpngnfbicaaGreatDoor

namespace Go.Proofs.YtobjdpngnfbicaaGreatDoor
open Go.RowKit
set_option linter.unusedVariables false
set_option maxRecDepth 20000
theorem run_strB {F:Blks} {w:World} {v:Value} {l:List UInt8} (h:Bytes F w v l):(convert 41 9 v).run Tryz.prog w=.ok (.string ⟨l.toArray⟩) w:=by
 obtain ⟨a,cap,rfl,hc,hm,hz,hx⟩:=h
 cases a with
 | none=>
   have hl:l = []:=by
    rcases hx with h | ⟨b,off,L,t,fz,h,_⟩
    · exact h
    · cases h
   subst hl
   rw [run_convert_bytes_string w 41 9 5 none _ cap Tryz.underlying41 Tryz.underlying5 Tryz.underlying9]
   rfl
 | some ad=>
   refine run_convert_bytes_back w 41 9 5 ad cap l Tryz.underlying41 Tryz.underlying5 Tryz.underlying9 (fun j hj=>?_)
   rcases hx with rfl | ⟨b,off,L,t,fz,hb,hF,hg,hL,hr⟩
   · simp at hj
   · simp at hb
     subst hb
     rw [Addr.add_lit,cell_of_row w b (off+j) L t fz hg]
     exact hr j hj
end Go.Proofs.YtobjdpngnfbicaaGreatDoor
