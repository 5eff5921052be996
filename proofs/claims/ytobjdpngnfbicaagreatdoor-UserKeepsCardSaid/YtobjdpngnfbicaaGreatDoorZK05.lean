/-
  Region Region2
-/
import Derived.Still
import Derived.Tactics
import Derived.Tactics2
import Derived.Deep.Quiet
import Derived.KernelRfl
import Derived.Below
import Derived.Test.YtobjdpngnfbicaaGreatDoorZK03
namespace Go.Proofs.YtobjdpngnfbicaaGreatDoor
open Go
section
variable {P:Program} {ops:Array Oper} {md:Region.Mode} {C:World -> World -> Prop}
def upC (P:Program) (next:Value -> World -> Prop):Result Next -> Prop
 | .ok (.value v) w'=>next v w'
 | .ok .skip w'=>next undef w'
 | .ok (.enter f args) w'=>Calls P f args w' (fun e w''=>∃ v,e=.returned v /\ next v w'')
 | _=>False
def opC (P:Program) (o:Oper) (a:Act) (w:World) (next:Value -> World -> Prop):Prop:=upC P next ((execOp a.eval o).run P w)
theorem dG {next next':Value -> World -> Prop} {r:Result Next} (h:∀ v w,next v w -> next' v w) (hh:upC P next r):upC P next' r:=by
 cases r with
 | ok n w'=>
   cases n <;> simp only[upC] at hh ⊢
   case enter f args=>exact hh.mono fun e w'' ⟨v,he,hn⟩=>⟨v,he,h _ _ hn⟩
   all_goals exact h _ _ hh
 | halt x w'=>simp only[upC] at hh
def stC (P:Program) (ops:Array Oper) (C:World -> World -> Prop) (i:Nat) (K:Act -> World -> Prop) (a:Act) (w:World):Prop:=
 match ops[i]? with
 | none=>K a w
 | some o=>if Region.wanted o (yielded ops a.tmps) then opC P o a w (fun v w'=>C w w' /\ K (a.put o.dst v) w') else K (a.put o.dst undef) w
theorem rh {i:Nat} {a:Act} {w:World} {K K':Act -> World -> Prop} (h:∀ a w',K a w' -> K' a w') (hh:stC P ops C i K a w):stC P ops C i K' a w:=by
 unfold stC at *;split
 ·exact h _ _ (by simpa[*] using hh)
 ·rename_i o ho;simp only[ho] at hh;split
  ·rename_i hw;simp only[hw,if_true] at hh;exact dG (fun v w' hv=>⟨hv.1,h _ _ hv.2⟩) hh
  ·rename_i hw;simp only[hw] at hh;exact h _ _ hh
def eG (P:Program) (md:Region.Mode) (ops:Array Oper) (C:World -> World -> Prop) (Q:Act -> World -> Prop):Nat -> Array Bool -> Act -> World -> Prop
 | 0,listed,a,w=>Region.ready md ops listed = [] /\ Q a w
 | fuel+1,listed,a,w=>
   (Region.ready md ops listed = [] -> Q a w) /\
   ∀ i ∈ Region.ready md ops listed,stC P ops C i (eG P md ops C Q fuel (listed.setIfInBounds i true)) a w
theorem lr {o:Oper} {a:Act} {w:World} {next:Value -> World -> Prop} {K:Act -> World -> Prop} {Q:Exit -> Act -> World -> Prop} (h:∀ v w',next v w' -> K (a.put o.dst v) w') (hh:opC P o a w next):o.wp P a w K Q:=by
 unfold opC at hh;unfold Oper.wp;generalize (execOp a.eval o).run P w=r at *;cases r with
 | ok n w'=>
   cases n <;> simp only[upC] at hh <;> simp only[Oper.upon]
   case enter f args=>exact hh.mono fun e w'' ⟨v,he,hn⟩=>by subst he;exact h _ _ hn
   all_goals exact h _ _ hh
 | halt x w'=>simp only[upC] at hh
theorem mX {i:Nat} {a:Act} {w:World} {K K':Act -> World -> Prop} {Q:Exit -> Act -> World -> Prop} (h:∀ a w',K a w' -> K' a w') (hh:stC P ops C i K a w):wpOp P ops Q i K' a w:=by
 unfold stC at hh;unfold wpOp;split
 ·rename_i ho;simp only[ho] at hh;exact h _ _ hh
 ·rename_i o ho;simp only[ho] at hh;split
  ·rename_i hw;simp only[hw,if_true] at hh;exact .inl (lr (fun v w' hv=>h _ _ hv.2) hh)
  ·rename_i hw;simp only[hw] at hh;exact h _ _ hh
theorem gA {Q:Act -> World -> Prop} {Q':Exit -> Act -> World -> Prop} (hQ:∀ a w,Q a w -> Q' .normal a w):∀ (fuel:Nat) (listed:Array Bool) (a:Act) (w:World),
 eG P md ops C Q fuel listed a w -> wpAny P md ops Q' fuel listed a w
 | 0,_,_,_,h=>⟨h.1,hQ _ _ h.2⟩
 | fuel+1,_,_,_,h=>⟨fun h0=>hQ _ _ (h.1 h0),fun i hi=>mX (fun a' w' hw'=>gA hQ fuel _ a' w' hw') (h.2 i hi)⟩
def eH (P:Program) (ops:Array Oper) (C:World -> World -> Prop) (o:Oper) (v:Value) (a:Act) (w:World):Prop:=
 (Region.wanted o (yielded ops a.tmps)=true /\ ∀ w',C w w' -> (execOp a.eval o).run P w'=.ok (.value v) w') \/
 (Region.wanted o (yielded ops a.tmps)=false /\ v=undef)
theorem eH.stC {i:Nat} {o:Oper} {v:Value} {a:Act} {w:World} (hrefl:∀ w,C w w) (hi:ops[i]?=some o) (hy:eH P ops C o v a w) {K:Act -> World -> Prop} (h:K (a.put o.dst v) w):stC P ops C i K a w:=by
 unfold Go.Proofs.YtobjdpngnfbicaaGreatDoor.stC;simp only[hi];rcases hy with ⟨hw,hv⟩ | ⟨hw,rfl⟩
 ·simp only[hw,if_true,opC,hv w (hrefl w),upC];exact⟨hrefl w,h⟩
 ·simp only[hw,Bool.false_eq_true,if_false];exact h
theorem eH.keep {oi oj:Oper} {v u:Value} {a:Act} {w w':World} (htrans:∀ a b c,C a b -> C b c -> C a c) (hap:oi.apart ops oj=true) (hsi:∀ cs b,oi.op≠.select cs b)
 (hy:eH P ops C oi v a w) (hc:C w w'):eH P ops C oi v (a.put oj.dst u) w':=by
 obtain⟨h1,h2,h3⟩:=Oper.apart_spec hap;unfold eH at *;rw[execOp_put oi hsi a oj.dst u h3,wanted_put oi a oj.dst u h3];rcases hy with ⟨hw,hv⟩ | hy
 ·exact .inl ⟨hw,fun w'' hc'=>hv w'' (htrans _ _ _ hc hc')⟩
 ·exact .inr hy
theorem sy {j:Nat} {oi oj:Oper} {v:Value} (hrefl:∀ w,C w w) (htrans:∀ a b c,C a b -> C b c -> C a c) (hj:ops[j]?=some oj) (hap:oi.apart ops oj=true)
 (hsi:∀ cs b,oi.op≠.select cs b) (hsj:∀ cs b,oj.op≠.select cs b) {K:Act -> World -> Prop} {a:Act} {w:World}
 (hy:eH P ops C oi v a w) (h:stC P ops C j K (a.put oi.dst v) w):
 stC P ops C j (fun a' w'=>eH P ops C oi v a' w' /\ K (a'.put oi.dst v) w') a w:=by
 obtain⟨h1,h2,h3⟩:=Oper.apart_spec hap;unfold stC at *;simp only[hj] at *;rw[wanted_put oj a oi.dst v h1] at h;split
 ·rename_i hw;simp only[hw,if_true] at h;unfold opC at *;rw[execOp_put oj hsj a oi.dst v h1] at h;exact dG (fun u w' hu=>⟨hu.1,hy.keep htrans hap hsi hu.1,by rw[<- Act.put_comm a v u h2];exact hu.2⟩) h
 ·rename_i hw;simp only[hw] at h;exact⟨hy.keep htrans hap hsi (hrefl w),by rw[<- Act.put_comm a v undef h2];exact h⟩
theorem dT {Q:Act -> World -> Prop} {i:Nat} {oi:Oper} {v:Value} (hrefl:∀ w,C w w) (htrans:∀ a b c,C a b -> C b c -> C a c) (hi:ops[i]?=some oi) (hsel:∀ (j:Nat) (o:Oper) cs b,ops[j]?=some o -> o.op≠.select cs b):
 ∀ (fuel:Nat) (listed:Array Bool) (a:Act) (w:World),
   (∀ j oj,ops[j]?=some oj -> j≠i -> listed.getD j true=false -> (∀ e ∈ oj.after,Region.binds md e=true -> e.on≠i) -> oi.apart ops oj=true) ->
   i ∈ Region.ready md ops listed -> eH P ops C oi v a w ->
   eG P md ops C Q fuel (listed.setIfInBounds i true) (a.put oi.dst v) w -> eG P md ops C Q (fuel+1) listed a w:=by
 intro fuel
 induction fuel with
 | zero=>
   intro listed a w _ hr hy H;refine⟨fun h=>(by rw[h] at hr;cases hr),fun j hj=>?_⟩
   by_cases hji:j=i
   ·subst hji;exact hy.stC hrefl hi H
   ·have:=ready_mono hj hji;rw[H.1] at this;cases this
 | succ fuel ih=>
   intro listed a w hfree hr hy H;refine⟨fun h=>(by rw[h] at hr;cases hr),fun j hj=>?_⟩
   by_cases hji:j=i
   ·subst hji;exact hy.stC hrefl hi H
   ·have h1:=H.2 j (ready_mono hj hji);obtain⟨hjun,oj,hoj,hall⟩:=mem_ready.1 hj
    have hnot:∀ e ∈ oj.after,Region.binds md e=true -> e.on≠i:=fun e he hb heq=>by
     have h1:=hall e he hb;have h0:=(mem_ready.1 hr).1;rw[heq] at h1;rcases Nat.lt_or_ge i listed.size with h' | h'
     ·simp[h'] at h0 h1;rw[h0] at h1;cases h1
     ·simp[Array.getElem?_eq_none h'] at h1
    have h2:=sy hrefl htrans hoj (hfree j oj hoj hji hjun hnot) (fun cs b=>hsel i oi cs b hi) (fun cs b=>hsel j oj cs b hoj) hy h1
    have hfree':∀ k ok,ops[k]?=some ok -> k≠i -> (listed.setIfInBounds j true).getD k true=false ->
     (∀ e ∈ ok.after,Region.binds md e=true -> e.on≠i) -> oi.apart ops ok=true:=fun k ok hk hki hun hno=>by
     refine hfree k ok hk hki ?_ hno
     by_cases hjk:j=k
     ·subst hjk;exact hjun
     ·rw[getD_set_ne true hjk] at hun;exact hun
    refine rh (fun a' w' h3=>ih (listed.setIfInBounds j true) a' w' hfree' (ready_mono hr (Ne.symm hji)) h3.1 ?_) h2;rw[Array.setIfInBounds_comm _ _ hji];exact h3.2
def dA (P:Program) (ops:Array Oper) (C:World -> World -> Prop) (Q:Act -> World -> Prop):List (Nat × Bool) -> Act -> World -> Prop
 | [],a,w=>Q a w
 | (i,true) :: r,a,w=>match ops[i]? with
   | none=>False
   | some o=>if Region.wanted o (yielded ops a.tmps) then ∃ v,(∀ w',C w w' -> (execOp a.eval o).run P w'=.ok (.value v) w') /\ dA P ops C Q r (a.put o.dst v) w else dA P ops C Q r (a.put o.dst undef) w
 | (i,false) :: r,a,w=>match ops[i]? with
   | none=>False
   | some o=>if Region.wanted o (yielded ops a.tmps) then opC P o a w (fun v w'=>C w w' /\ dA P ops C Q r (a.put o.dst v) w') else dA P ops C Q r (a.put o.dst undef) w
def iR (md:Region.Mode) (ops:Array Oper):List (Nat × Bool) -> Array Bool -> Bool
 | [],listed=>(Region.ready md ops listed).isEmpty
 | (i,true) :: r,listed=>(Region.ready md ops listed).contains i && Region.free md ops listed i && iR md ops r (listed.setIfInBounds i true)
 | (i,false) :: r,listed=>(Region.ready md ops listed == [i]) && iR md ops r (listed.setIfInBounds i true)
theorem eP {Q:Act -> World -> Prop} (hrefl:∀ w,C w w) (htrans:∀ a b c,C a b -> C b c -> C a c) (hs:Region.noSelect ops=true):∀ (l:List (Nat × Bool)) (listed:Array Bool) (a:Act) (w:World),
 iR md ops l listed=true -> dA P ops C Q l a w -> eG P md ops C Q l.length listed a w
 | [],_,_,_,hB,h=>⟨by simpa[iR] using hB,h⟩
 | (i,true) :: l,listed,a,w,hB,h=>by
   simp only[iR,Bool.and_eq_true] at hB;obtain⟨⟨hr,hf⟩,hB'⟩:=hB;simp only[dA] at h;cases h0:ops[i]? with
   | none=>simp[h0] at h
   | some o=>
     simp only[h0] at h
     by_cases hw:Region.wanted o (yielded ops a.tmps)=true
     ·simp only[hw,if_true] at h;obtain⟨v,hv,hK⟩:=h;exact dT hrefl htrans h0 (Region.noSelect_spec hs) l.length listed a w (Region.free_spec h0 hf) (by simpa using hr) (.inl ⟨hw,hv⟩) (eP hrefl htrans hs l _ _ _ hB' hK)
     ·simp only[hw] at h;exact dT hrefl htrans h0 (Region.noSelect_spec hs) l.length listed a w (Region.free_spec h0 hf) (by simpa using hr) (.inr ⟨by simpa using hw,rfl⟩) (eP hrefl htrans hs l _ _ _ hB' h)
 | (i,false) :: l,listed,a,w,hB,h=>by
   simp only[iR,Bool.and_eq_true] at hB;obtain⟨hr,hB'⟩:=hB;have hr':Region.ready md ops listed = [i]:=by simpa using hr
   simp only[dA] at h;refine⟨fun h0=>(by rw[hr'] at h0;cases h0),fun j hj=>?_⟩;rw[hr'] at hj;obtain rfl:j=i:=by simpa using hj
   unfold stC;cases h0:ops[j]? with
   | none=>simp[h0] at h
   | some o=>
     simp only[h0] at h;simp only;split
     ·rename_i hw;simp only[hw,if_true] at h;exact dG (fun v w' hv=>⟨hv.1,eP hrefl htrans hs l _ _ _ hB' hv.2⟩) h
     ·rename_i hw;simp only[hw] at h;exact eP hrefl htrans hs l _ _ _ hB' h
theorem aJ {id:Nat} {Q:Exit -> Act -> World -> Prop} {a:Act} {w:World} {l:List Oper} (C:World -> World -> Prop) (ord:List (Nat × Bool)) (hm:P.follows .mixedOrders=true) (hB:(Region.noSelect l.toArray && iR .any l.toArray ord (Array.replicate ord.length false) && (ord.length == l.length))=true)
 (hrefl:∀ w,C w w) (htrans:∀ a b c,C a b -> C b c -> C a c)
 (h:dA P l.toArray C (fun a' w'=>Q .normal a' w') ord a w.drew):(Code.region id l.toArray true).wp P Q a w:=by
 simp only[Bool.and_eq_true] at hB;obtain⟨⟨h1,h2⟩,h3⟩:=hB;have h3':ord.length=l.length:=by simpa using h3
 refine wp_region_any hm (gA (C:=C) (Q:=fun a' w'=>Q .normal a' w') (fun _ _ h=>h) _ _ _ _ ?_);have:=eP (md:=.any) hrefl htrans h1 ord _ a w.drew h2 h;rw[h3'] at this;simpa using this
theorem aW {Q:Act -> World -> Prop} {a:Act} {w:World} (h:Q a w):dA P ops C Q [] a w:=h
theorem aD {o:Oper} {y:Nat -> Option Bool} (h:o.guard=none):Region.wanted o y=true:=by simp[Region.wanted,h]
theorem aF {Q:Act -> World -> Prop} {i:Nat} {o:Oper} {r:List (Nat × Bool)} {a:Act} {w:World} (ho:ops[i]?=some o) (hw:Region.wanted o (yielded ops a.tmps)=true) {v:Value}
 (hv:∀ w',C w w' -> (execOp a.eval o).run P w'=.ok (.value v) w')
 (h:∀ K:Act -> Prop,(∀ a',dA P ops C Q r a' w -> K a') -> K (a.put o.dst v)):dA P ops C Q ((i,true) :: r) a w:=by
 simp only[dA,ho,hw,if_true];exact⟨v,hv,h _ (fun _ h=>h)⟩
theorem aU {Q:Act -> World -> Prop} {i:Nat} {o:Oper} {r:List (Nat × Bool)} {a:Act} {w:World} (ho:ops[i]?=some o)
 (h:∀ A B:Prop,((∃ v,(∀ w',C w w' -> (execOp a.eval o).run P w'=.ok (.value v) w') /\ ∀ K:Act -> Prop,(∀ a',dA P ops C Q r a' w -> K a') -> K (a.put o.dst v)) -> A) ->
  ((∀ K:Act -> Prop,(∀ a',dA P ops C Q r a' w -> K a') -> K (a.put o.dst undef)) -> B) -> if Region.wanted o (yielded ops a.tmps) then A else B):dA P ops C Q ((i,true) :: r) a w:=by
 have hh:=h _ _ id id;simp only[dA,ho];split
 ·rename_i hw;simp only[hw,if_true] at hh;obtain⟨v,hv,hk⟩:=hh;exact⟨v,hv,hk _ (fun _ h=>h)⟩
 ·rename_i hw;simp only[hw] at hh;exact hh _ (fun _ h=>h)
theorem aM {Q:Act -> World -> Prop} {i:Nat} {o:Oper} {r:List (Nat × Bool)} {a:Act} {w:World} (ho:ops[i]?=some o)
 (h:∀ A B:Prop,((∀ K:Act -> World -> Prop,(∀ a' w',dA P ops C Q r a' w' -> K a' w') -> opC P o a w (fun v w'=>C w w' /\ K (a.put o.dst v) w')) -> A) ->
  ((∀ K:Act -> Prop,(∀ a',dA P ops C Q r a' w -> K a') -> K (a.put o.dst undef)) -> B) -> if Region.wanted o (yielded ops a.tmps) then A else B):dA P ops C Q ((i,false) :: r) a w:=by
 have hh:=h _ _ id id;simp only[dA,ho];split
 ·rename_i hw;simp only[hw,if_true] at hh;exact hh _ (fun _ _ h=>h)
 ·rename_i hw;simp only[hw] at hh;exact hh _ (fun _ h=>h)
theorem aQ {Q:Act -> World -> Prop} {i:Nat} {o:Oper} {r:List (Nat × Bool)} {a:Act} {w:World} (ho:ops[i]?=some o) (hw:Region.wanted o (yielded ops a.tmps)=true)
 (h:∀ K:Act -> World -> Prop,(∀ a' w',dA P ops C Q r a' w' -> K a' w') -> opC P o a w (fun v w'=>C w w' /\ K (a.put o.dst v) w')):dA P ops C Q ((i,false) :: r) a w:=by
 simp only[dA,ho,hw,if_true];exact h _ (fun _ _ h=>h)
end
attribute [irreducible] dA
def aI (w w':World):Prop:=RowKit.Below w.heap.size w w'
theorem aH (w:World):aI w w:=RowKit.Below.refl _ _
theorem aG (a b c:World) (h:aI a b) (k:aI b c):aI a c:=h.trans (k.mono h.size)
def aP (F:aV) (w w':World):Prop:=aK F w w'
theorem bH (F:aV) (w:World):aP F w w:=aK.refl _ _
theorem bG (F:aV) (a b c:World) (h:aP F a b) (k:aP F b c):aP F a c:=aK.trans h k (fun _ hi=>.inl hi)
theorem aP.of_below {F:aV} {w w':World} (h:RowKit.Below w.heap.size w w'):aP F w w':=aK.of_below h
end Go.Proofs.YtobjdpngnfbicaaGreatDoor
namespace Go.Proofs.YtobjdpngnfbicaaGreatDoor
open Go
section
variable {P:Program} {ops:Array Oper} {md:Region.Mode} {C:World -> World -> Prop} {lx:Nat}
def stL (P:Program) (ops:Array Oper) (C:World -> World -> Prop) (lx:Nat) (i:Nat) (K:Act -> World -> Prop) (a:Act) (w:World):Prop:=
 match ops[i]? with
 | none=>K a w
 | some o=>if Region.wanted o (yielded ops a.tmps) then opC P o a w (fun v w'=>(i=lx \/ C w w') /\ K (a.put o.dst v) w') else K (a.put o.dst undef) w
theorem ri {i:Nat} {a:Act} {w:World} {K K':Act -> World -> Prop} (h:∀ a w',K a w' -> K' a w') (hh:stL P ops C lx i K a w):stL P ops C lx i K' a w:=by
 unfold stL at *;split
 ·exact h _ _ (by simpa[*] using hh)
 ·rename_i o ho;simp only[ho] at hh;split
  ·rename_i hw;simp only[hw,if_true] at hh;exact dG (fun v w' hv=>⟨hv.1,h _ _ hv.2⟩) hh
  ·rename_i hw;simp only[hw] at hh;exact h _ _ hh
def jP (P:Program) (md:Region.Mode) (ops:Array Oper) (C:World -> World -> Prop) (lx:Nat) (Q:Act -> World -> Prop):Nat -> Array Bool -> Act -> World -> Prop
 | 0,listed,a,w=>Region.ready md ops listed = [] /\ Q a w
 | fuel+1,listed,a,w=>
   (Region.ready md ops listed = [] -> Q a w) /\
   ∀ i ∈ Region.ready md ops listed,stL P ops C lx i (jP P md ops C lx Q fuel (listed.setIfInBounds i true)) a w
theorem mY {i:Nat} {a:Act} {w:World} {K K':Act -> World -> Prop} {Q:Exit -> Act -> World -> Prop} (h:∀ a w',K a w' -> K' a w') (hh:stL P ops C lx i K a w):wpOp P ops Q i K' a w:=by
 unfold stL at hh;unfold wpOp;split
 ·rename_i ho;simp only[ho] at hh;exact h _ _ hh
 ·rename_i o ho;simp only[ho] at hh;split
  ·rename_i hw;simp only[hw,if_true] at hh;exact .inl (lr (fun v w' hv=>h _ _ hv.2) hh)
  ·rename_i hw;simp only[hw] at hh;exact h _ _ hh
theorem jQ {Q:Act -> World -> Prop} {Q':Exit -> Act -> World -> Prop} (hQ:∀ a w,Q a w -> Q' .normal a w):∀ (fuel:Nat) (listed:Array Bool) (a:Act) (w:World),
 jP P md ops C lx Q fuel listed a w -> wpAny P md ops Q' fuel listed a w
 | 0,_,_,_,h=>⟨h.1,hQ _ _ h.2⟩
 | fuel+1,_,_,_,h=>⟨fun h0=>hQ _ _ (h.1 h0),fun i hi=>mY (fun a' w' hw'=>jQ hQ fuel _ a' w' hw') (h.2 i hi)⟩
theorem eH.stL {i:Nat} {o:Oper} {v:Value} {a:Act} {w:World} (hrefl:∀ w,C w w) (hi:ops[i]?=some o) (hy:eH P ops C o v a w) {K:Act -> World -> Prop} (h:K (a.put o.dst v) w):stL P ops C lx i K a w:=by
 unfold Go.Proofs.YtobjdpngnfbicaaGreatDoor.stL;simp only[hi];rcases hy with ⟨hw,hv⟩ | ⟨hw,rfl⟩
 ·simp only[hw,if_true,opC,hv w (hrefl w),upC];exact⟨.inr (hrefl w),h⟩
 ·simp only[hw,Bool.false_eq_true,if_false];exact h
theorem sA {j:Nat} {oi oj:Oper} {v:Value} (hrefl:∀ w,C w w) (htrans:∀ a b c,C a b -> C b c -> C a c) (hj:ops[j]?=some oj) (hjl:j≠lx) (hap:oi.apart ops oj=true)
 (hsi:∀ cs b,oi.op≠.select cs b) (hsj:∀ cs b,oj.op≠.select cs b) {K:Act -> World -> Prop} {a:Act} {w:World}
 (hy:eH P ops C oi v a w) (h:stL P ops C lx j K (a.put oi.dst v) w):
 stL P ops C lx j (fun a' w'=>eH P ops C oi v a' w' /\ K (a'.put oi.dst v) w') a w:=by
 obtain⟨h1,h2,h3⟩:=Oper.apart_spec hap;unfold stL at *;simp only[hj] at *;rw[wanted_put oj a oi.dst v h1] at h;split
 ·rename_i hw;simp only[hw,if_true] at h;unfold opC at *;rw[execOp_put oj hsj a oi.dst v h1] at h;exact dG (fun u w' hu=>⟨hu.1,hy.keep htrans hap hsi (hu.1.resolve_left hjl),by rw[<- Act.put_comm a v u h2];exact hu.2⟩) h
 ·rename_i hw;simp only[hw] at h;exact⟨hy.keep htrans hap hsi (hrefl w),by rw[<- Act.put_comm a v undef h2];exact h⟩
def iS (md:Region.Mode) (ops:Array Oper) (i:Nat):List Nat:=
 match ops[i]? with
 | none=>[]
 | some o=>(o.after.toList.filter (Region.binds md)).map (·.on)
def jK (md:Region.Mode) (ops:Array Oper):Nat -> List Nat -> List Nat
 | 0,l=>l
 | n+1,l=>jK md ops n (l ++ l.flatMap (iS md ops)).eraseDups
def pP (md:Region.Mode) (ops:Array Oper) (lx:Nat):Bool:=
 (List.range ops.size).all fun i=>(i == lx) || (jK md ops 6 (iS md ops lx)).contains i || (jK md ops 6 (iS md ops i)).contains lx
def ii (md:Region.Mode) (ops:Array Oper) (listed:Array Bool):Prop:=
 ∀ k,listed.getD k false=true -> ∀ j ∈ iS md ops k,listed.getD j false=true
theorem gB {listed:Array Bool} (hc:ii md ops listed):∀ (n:Nat) (l:List Nat),(∀ j ∈ l,listed.getD j false=true) -> ∀ j ∈ jK md ops n l,listed.getD j false=true
 | 0,_,h=>h
 | n+1,l,h=>gB hc n _ (fun j hj=>by
   rw[List.mem_eraseDups,List.mem_append,List.mem_flatMap] at hj;rcases hj with hj | ⟨k,hk,hj⟩
   ·exact h j hj
   ·exact hc k (h k hk) j hj)
theorem gM {listed:Array Bool} {i:Nat} (hi:i ∈ Region.ready md ops listed):∀ j ∈ iS md ops i,listed.getD j false=true:=by
 obtain⟨_,o,ho,hall⟩:=mem_ready.1 hi;intro j hj;unfold iS at hj;rw[ho] at hj;simp only[List.mem_map,List.mem_filter] at hj;obtain⟨e,⟨he,hb⟩,rfl⟩:=hj;exact hall e (by simpa using he) hb
theorem ii.set {listed:Array Bool} {i:Nat} (hc:ii md ops listed) (hi:i ∈ Region.ready md ops listed):ii md ops (listed.setIfInBounds i true):=by
 intro k hk j hj
 by_cases hki:i=k
 ·subst hki;exact getD_set_true (gM hi j hj)
 ·rw[getD_set_ne false hki] at hk;exact getD_set_true (hc k hk j hj)
theorem sC (h:pP md ops lx=true) {i:Nat} {listed:Array Bool} (hc:ii md ops listed) (hi:i ∈ Region.ready md ops listed) (hl:lx ∈ Region.ready md ops listed):i=lx:=by
 obtain⟨hu,oi,hoi,_⟩:=mem_ready.1 hi;have hlt:i < ops.size:=(Array.getElem?_eq_some_iff.1 hoi).1;have h0:=List.all_eq_true.1 h i (by simpa using hlt);simp only[Bool.or_eq_true,beq_iff_eq] at h0
 have hno:∀ k,listed.getD k true=false -> listed.getD k false=true -> False:=fun k hu this=>by
  rcases Nat.lt_or_ge k listed.size with h' | h'
  ·simp[h'] at hu this;rw[hu] at this;cases this
  ·simp[Array.getElem?_eq_none h'] at this
 rcases h0 with (h0 | hm) | hm
 ·exact h0
 ·exact(hno i hu (gB hc 6 _ (gM hl) i (by simpa using hm))).elim
 ·exact(hno lx (mem_ready.1 hl).1 (gB hc 6 _ (gM hi) lx (by simpa using hm))).elim
theorem iy {Q:Act -> World -> Prop} {i:Nat} {oi:Oper} {v:Value} (hlast:pP md ops lx=true) (hrefl:∀ w,C w w) (htrans:∀ a b c,C a b -> C b c -> C a c) (hi:ops[i]?=some oi) (hsel:∀ (j:Nat) (o:Oper) cs b,ops[j]?=some o -> o.op≠.select cs b):
 ∀ (fuel:Nat) (listed:Array Bool) (a:Act) (w:World),ii md ops listed ->
   (∀ j oj,ops[j]?=some oj -> j≠i -> listed.getD j true=false -> (∀ e ∈ oj.after,Region.binds md e=true -> e.on≠i) -> oi.apart ops oj=true) ->
   i ∈ Region.ready md ops listed -> eH P ops C oi v a w ->
   jP P md ops C lx Q fuel (listed.setIfInBounds i true) (a.put oi.dst v) w -> jP P md ops C lx Q (fuel+1) listed a w:=by
 intro fuel
 induction fuel with
 | zero=>
   intro listed a w _ _ hr hy H;refine⟨fun h=>(by rw[h] at hr;cases hr),fun j hj=>?_⟩
   by_cases hji:j=i
   ·subst hji;exact hy.stL hrefl hi H
   ·have:=ready_mono hj hji;rw[H.1] at this;cases this
 | succ fuel ih=>
   intro listed a w hcl hfree hr hy H;refine⟨fun h=>(by rw[h] at hr;cases hr),fun j hj=>?_⟩
   by_cases hji:j=i
   ·subst hji;exact hy.stL hrefl hi H
   ·have h1:=H.2 j (ready_mono hj hji);obtain⟨hjun,oj,hoj,hall⟩:=mem_ready.1 hj
    have hnot:∀ e ∈ oj.after,Region.binds md e=true -> e.on≠i:=fun e he hb heq=>by
     have h1:=hall e he hb;have h0:=(mem_ready.1 hr).1;rw[heq] at h1;rcases Nat.lt_or_ge i listed.size with h' | h'
     ·simp[h'] at h0 h1;rw[h0] at h1;cases h1
     ·simp[Array.getElem?_eq_none h'] at h1
    have hjl:j≠lx:=fun e=>hji (e.trans (sC hlast hcl hr (e ▸ hj)).symm)
    have h2:=sA hrefl htrans hoj hjl (hfree j oj hoj hji hjun hnot) (fun cs b=>hsel i oi cs b hi) (fun cs b=>hsel j oj cs b hoj) hy h1
    have hfree':∀ k ok,ops[k]?=some ok -> k≠i -> (listed.setIfInBounds j true).getD k true=false ->
     (∀ e ∈ ok.after,Region.binds md e=true -> e.on≠i) -> oi.apart ops ok=true:=fun k ok hk hki hun hno=>by
     refine hfree k ok hk hki ?_ hno
     by_cases hjk:j=k
     ·subst hjk;exact hjun
     ·rw[getD_set_ne true hjk] at hun;exact hun
    refine ri (fun a' w' h3=>ih (listed.setIfInBounds j true) a' w' (hcl.set hj) hfree' (ready_mono hr (Ne.symm hji)) h3.1 ?_) h2;rw[Array.setIfInBounds_comm _ _ hji];exact h3.2
def dx (P:Program) (ops:Array Oper) (C:World -> World -> Prop) (lx:Nat) (Q:Act -> World -> Prop):List (Nat × Bool) -> Act -> World -> Prop
 | [],a,w=>Q a w
 | (i,true) :: r,a,w=>match ops[i]? with
   | none=>False
   | some o=>if Region.wanted o (yielded ops a.tmps) then ∃ v,(∀ w',C w w' -> (execOp a.eval o).run P w'=.ok (.value v) w') /\ dx P ops C lx Q r (a.put o.dst v) w else dx P ops C lx Q r (a.put o.dst undef) w
 | (i,false) :: r,a,w=>match ops[i]? with
   | none=>False
   | some o=>if Region.wanted o (yielded ops a.tmps) then opC P o a w (fun v w'=>(i=lx \/ C w w') /\ dx P ops C lx Q r (a.put o.dst v) w') else dx P ops C lx Q r (a.put o.dst undef) w
theorem fD {Q:Act -> World -> Prop} (hlast:pP md ops lx=true) (hrefl:∀ w,C w w) (htrans:∀ a b c,C a b -> C b c -> C a c) (hs:Region.noSelect ops=true):∀ (l:List (Nat × Bool)) (listed:Array Bool) (a:Act) (w:World),
 ii md ops listed -> iR md ops l listed=true -> dx P ops C lx Q l a w -> jP P md ops C lx Q l.length listed a w
 | [],_,_,_,_,hB,h=>⟨by simpa[iR] using hB,h⟩
 | (i,true) :: l,listed,a,w,hcl,hB,h=>by
   simp only[iR,Bool.and_eq_true] at hB;obtain⟨⟨hr,hf⟩,hB'⟩:=hB;simp only[dx] at h;cases h0:ops[i]? with
   | none=>simp[h0] at h
   | some o=>
     simp only[h0] at h
     by_cases hw:Region.wanted o (yielded ops a.tmps)=true
     ·simp only[hw,if_true] at h;obtain⟨v,hv,hK⟩:=h;exact iy hlast hrefl htrans h0 (Region.noSelect_spec hs) l.length listed a w hcl (Region.free_spec h0 hf) (by simpa using hr) (.inl ⟨hw,hv⟩) (fD hlast hrefl htrans hs l _ _ _ (hcl.set (by simpa using hr)) hB' hK)
     ·simp only[hw] at h;exact iy hlast hrefl htrans h0 (Region.noSelect_spec hs) l.length listed a w hcl (Region.free_spec h0 hf) (by simpa using hr) (.inr ⟨by simpa using hw,rfl⟩) (fD hlast hrefl htrans hs l _ _ _ (hcl.set (by simpa using hr)) hB' h)
 | (i,false) :: l,listed,a,w,hcl,hB,h=>by
   simp only[iR,Bool.and_eq_true] at hB;obtain⟨hr,hB'⟩:=hB;have hr':Region.ready md ops listed = [i]:=by simpa using hr
   simp only[dx] at h;refine⟨fun h0=>(by rw[hr'] at h0;cases h0),fun j hj=>?_⟩;rw[hr'] at hj;obtain rfl:j=i:=by simpa using hj
   have hr:j ∈ Region.ready md ops listed:=by rw[hr'];simp
   unfold stL;cases h0:ops[j]? with
   | none=>simp[h0] at h
   | some o=>
     simp only[h0] at h;simp only;split
     ·rename_i hw;simp only[hw,if_true] at h;exact dG (fun v w' hv=>⟨hv.1,fD hlast hrefl htrans hs l _ _ _ (hcl.set (by simpa using hr)) hB' hv.2⟩) h
     ·rename_i hw;simp only[hw] at h;exact fD hlast hrefl htrans hs l _ _ _ (hcl.set (by simpa using hr)) hB' h
theorem bh {id:Nat} {Q:Exit -> Act -> World -> Prop} {a:Act} {w:World} {l:List Oper} (C:World -> World -> Prop) (lx:Nat) (ord:List (Nat × Bool)) (hm:P.follows .mixedOrders=true) (hB:(Region.noSelect l.toArray && iR .any l.toArray ord (Array.replicate ord.length false) && (ord.length == l.length))=true)
 (hlast:pP .any l.toArray lx=true) (hrefl:∀ w,C w w) (htrans:∀ a b c,C a b -> C b c -> C a c)
 (h:dx P l.toArray C lx (fun a' w'=>Q .normal a' w') ord a w.drew):(Code.region id l.toArray true).wp P Q a w:=by
 simp only[Bool.and_eq_true] at hB;obtain⟨⟨h1,h2⟩,h3⟩:=hB;have h3':ord.length=l.length:=by simpa using h3
 refine wp_region_any hm (jQ (C:=C) (lx:=lx) (Q:=fun a' w'=>Q .normal a' w') (fun _ _ h=>h) _ _ _ _ ?_);have:=fD (md:=.any) hlast hrefl htrans h1 ord _ a w.drew (fun k hk=>by simp[Array.getElem?_replicate] at hk;split at hk <;> simp at hk) h2 h;rw[h3'] at this;simpa using this
theorem bR {Q:Act -> World -> Prop} {a:Act} {w:World} (h:Q a w):dx P ops C lx Q [] a w:=h
theorem aX {Q:Act -> World -> Prop} {i:Nat} {o:Oper} {r:List (Nat × Bool)} {a:Act} {w:World} (ho:ops[i]?=some o) (hw:Region.wanted o (yielded ops a.tmps)=true) {v:Value}
 (hv:∀ w',C w w' -> (execOp a.eval o).run P w'=.ok (.value v) w')
 (h:∀ K:Act -> Prop,(∀ a',dx P ops C lx Q r a' w -> K a') -> K (a.put o.dst v)):dx P ops C lx Q ((i,true) :: r) a w:=by
 simp only[dx,ho,hw,if_true];exact⟨v,hv,h _ (fun _ h=>h)⟩
theorem bS {Q:Act -> World -> Prop} {i:Nat} {o:Oper} {r:List (Nat × Bool)} {a:Act} {w:World} (ho:ops[i]?=some o) (hw:Region.wanted o (yielded ops a.tmps)=true)
 (h:∀ K:Act -> World -> Prop,(∀ a' w',dx P ops C lx Q r a' w' -> K a' w') -> opC P o a w (fun v w'=>(i=lx \/ C w w') /\ K (a.put o.dst v) w')):dx P ops C lx Q ((i,false) :: r) a w:=by
 simp only[dx,ho,hw,if_true];exact h _ (fun _ _ h=>h)
theorem bK {Q:Act -> World -> Prop} {i:Nat} {o:Oper} {r:List (Nat × Bool)} {a:Act} {w:World} (hx:i=lx) (ho:ops[i]?=some o) (hw:Region.wanted o (yielded ops a.tmps)=true)
 (h:∀ K:Act -> World -> Prop,(∀ a' w',dx P ops C lx Q r a' w' -> K a' w') -> opC P o a w (fun v w'=>K (a.put o.dst v) w')):dx P ops C lx Q ((i,false) :: r) a w:=by
 simp only[dx,ho,hw,if_true];exact dG (fun v w' hv=>⟨.inl hx,hv⟩) (h _ (fun _ _ h=>h))
end
attribute [irreducible] dx
end Go.Proofs.YtobjdpngnfbicaaGreatDoor
