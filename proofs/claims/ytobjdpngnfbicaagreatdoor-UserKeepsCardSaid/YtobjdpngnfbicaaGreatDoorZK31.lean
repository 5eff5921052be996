/-
  Float
-/
import Derived.Test.YtobjdpngnfbicaaGreatDoorZK05
import Derived.Laws.AppendOwn
open Nat renaming le_refl->aq,le_trans->au,lt_of_lt_of_le->aw
namespace Go.Proofs.YtobjdpngnfbicaaGreatDoor
open Go
set_option linter.unusedVariables false
set_option maxRecDepth 20000
inductive eN where
 | steady (i:Nat)
 | move (i:Nat)
 | float (i:Nat)
 | fixed (i:Nat)
section
variable {P:Program} {ops:Array Oper} {md:Region.Mode} {C:World -> World -> Prop} {Z:Nat -> Value -> World -> Prop} {Q:Act -> World -> Prop} {w0:World}
def d7 (P:Program) (ops:Array Oper) (C:World -> World -> Prop) (Z:Nat -> Value -> World -> Prop) (Q:Act -> World -> Prop):List eN -> List Value -> Act -> World -> Prop
 | [],_,a,w=>Q a w
 | .steady i :: r,U,a,w=>match ops[i]? with
   | none=>False
   | some o=>if Region.wanted o (yielded ops a.tmps) then ∃ v,(∀ w',C w w' -> (execOp a.eval o).run P w'=.ok (.value v) w') /\ d7 P ops C Z Q r U (a.put o.dst v) w else d7 P ops C Z Q r U (a.put o.dst undef) w
 | .move i :: r,U,a,w=>match ops[i]? with
   | none=>False
   | some o=>∀ W,C w W -> if Region.wanted o (yielded ops a.tmps) then opC P o a W (fun v w'=>C W w' /\ d7 P ops C Z Q r U (a.put o.dst v) w') else d7 P ops C Z Q r U (a.put o.dst undef) W
 | .float i :: r,U,a,w=>match ops[i]? with
   | none=>False
   | some o=>∀ v W,C w W -> Z i v W -> v ∉ U -> d7 P ops C Z Q r (v :: U) (a.put o.dst v) W
 | .fixed i :: r,U,a,w=>match ops[i]? with
   | none=>False
   | some o=>if Region.wanted o (yielded ops a.tmps) then opC P o a w (fun v w'=>C w w' /\ d7 P ops C Z Q r U (a.put o.dst v) w') else d7 P ops C Z Q r U (a.put o.dst undef) w
def apF (ops:Array Oper) (i j:Nat):Bool:=
 match ops[i]?,ops[j]? with
 | some x,some y=>x.apart ops y
 | _,_=>false
def d9 (md:Region.Mode) (ops:Array Oper) (FL:List Nat):Nat -> List eN -> List Nat -> Array Bool -> Bool
 | 0,_,_,_=>false
 | _+1,[],D,listed=>D.isEmpty && (Region.ready md ops listed).isEmpty
 | k+1,.steady i :: r,D,listed=>Nat.ble D.length r.length && (Region.ready md ops listed).contains i && Region.free md ops listed i && D.all (fun j=>apF ops j i) && d9 md ops FL k r D (listed.setIfInBounds i true)
 | k+1,.move i :: r,D,listed=>Nat.ble D.length r.length && D.all (fun j=>apF ops j i) && (Region.ready md ops listed).contains i && d9 md ops FL k r D (listed.setIfInBounds i true) &&
    (Region.ready md ops listed).all (fun j=>j == i || (FL.contains j && !D.contains j && D.all (fun x=>apF ops x j) && d9 md ops FL k (.move i :: r) (j :: D) (listed.setIfInBounds j true)))
 | k+1,.float i :: r,D,listed=>FL.contains i && (if D.contains i then d9 md ops FL k r (D.erase i) listed else
    Nat.ble D.length r.length && (Region.ready md ops listed).contains i && (Region.ready md ops listed).all (fun j=>FL.contains j && !D.contains j && D.all (fun x=>apF ops x j) && d9 md ops FL k (.float i :: r) (j :: D) (listed.setIfInBounds j true)))
 | k+1,.fixed i :: r,D,listed=>D.isEmpty && (Region.ready md ops listed == [i]) && d9 md ops FL k r [] (listed.setIfInBounds i true)
def ir (ops:Array Oper) (j:Nat):Option Tmp:=(ops[j]?).bind (·.dst)
def fK (ops:Array Oper) (val:Nat -> Value):List Nat -> Act -> Act
 | [],a=>a
 | j :: D,a=>fK ops val D (a.put (ir ops j) (val j))
theorem rP {i j:Nat} (h:apF ops i j=true):∃ x y,ops[i]?=some x /\ ops[j]?=some y /\ x.apart ops y=true:=by
 unfold apF at h;split at h
 ·rename_i x y hx hy;exact⟨x,y,hx,hy,h⟩
 ·cases h
theorem gq {val:Nat -> Value}:∀ (D:List Nat) (a:Act) (x:Option Tmp) (v:Value),(∀ j ∈ D,∀ d,ir ops j=some d -> x≠some d) -> (fK ops val D a).put x v=fK ops val D (a.put x v)
 | [],_,_,_,_=>rfl
 | j :: D,a,x,v,h=>by
   rw[fK,gq D _ x v fun k hk=>h k (List.mem_cons_of_mem _ hk),fK,Act.put_comm a (val j) v (h j List.mem_cons_self)]
theorem ja {val:Nat -> Value} {o:Oper} (hs:∀ cs b,o.op≠.select cs b):∀ (D:List Nat) (a:Act),(∀ j ∈ D,∀ d,ir ops j=some d -> d ∉ o.looksAt ops) -> execOp (fK ops val D a).eval o=execOp a.eval o /\ Region.wanted o (yielded ops (fK ops val D a).tmps)=Region.wanted o (yielded ops a.tmps)
 | [],_,_=>⟨rfl,rfl⟩
 | j :: D,a,h=>by
   obtain⟨h1,h2⟩:=ja hs D (a.put (ir ops j) (val j)) fun k hk=>h k (List.mem_cons_of_mem _ hk)
   exact⟨h1.trans (execOp_put o hs a _ _ (h j List.mem_cons_self)),h2.trans (wanted_put o a _ _ (h j List.mem_cons_self))⟩
theorem kB {val val':Nat -> Value}:∀ (D:List Nat) (a:Act),(∀ j ∈ D,val j=val' j) -> fK ops val D a=fK ops val' D a
 | [],_,_=>rfl
 | j :: D,a,h=>by
   rw[fK,fK,h j List.mem_cons_self];exact kB D _ fun k hk=>h k (List.mem_cons_of_mem _ hk)
theorem kC {val:Nat -> Value} {i:Nat}:∀ (D:List Nat) (a:Act),D.Nodup -> i ∈ D -> (∀ j ∈ D,j≠i -> ∀ d,ir ops j=some d -> ir ops i≠some d) -> fK ops val D a=fK ops val (D.erase i) (a.put (ir ops i) (val i))
 | [],_,_,h,_=>by cases h
 | j :: D,a,hn,h,hd=>by
   by_cases hji:j=i
   ·subst hji;rw[List.erase_cons_head];rfl
   ·have hi:i ∈ D:=by
     rcases List.mem_cons.1 h with e | e
     ·exact absurd e.symm hji
     ·exact e
    rw[fK,kC D _ (List.nodup_cons.1 hn).2 hi (fun k hk=>hd k (List.mem_cons_of_mem _ hk)),List.erase_cons_tail (by simpa using hji),fK,Act.put_comm a (val j) (val i) (hd j List.mem_cons_self hji)]
structure mB (P:Program) (ops:Array Oper) (C:World -> World -> Prop) (Z:Nat -> Value -> World -> Prop) (w0:World) (FL:List Nat):Prop where
 run:∀ j,FL.contains j=true -> ∃ o,ops[j]?=some o /\ o.guard=none /\ ∀ a W,C w0 W -> opC P o a W (fun v w'=>C W w' /\ Z j v w' /\ ∀ k u,Z k u W -> v≠u)
 keep:∀ j v w w',C w w' -> Z j v w -> Z j v w'
 dst:∀ i j,FL.contains i=true -> FL.contains j=true -> i≠j -> ∀ d,ir ops i=some d -> ir ops j≠some d
theorem mC {j:Nat} {o:Oper} (h:ops[j]?=some o):ir ops j=o.dst:=by simp[ir,h]
theorem pp {D:List Nat} {i:Nat} {o:Oper} (ho:ops[i]?=some o) (h:D.all (fun j=>apF ops j i)=true):(∀ j ∈ D,∀ d,ir ops j=some d -> o.dst≠some d) /\ (∀ j ∈ D,∀ d,ir ops j=some d -> d ∉ o.looksAt ops):=by
 have hh:∀ j ∈ D,∃ x,ops[j]?=some x /\ x.apart ops o=true:=fun j hj=>by
  obtain⟨x,y,hx,hy,hap⟩:=rP (List.all_eq_true.1 h j hj);obtain rfl:=Option.some.inj (ho.symm.trans hy);exact⟨x,hx,hap⟩
 refine⟨fun j hj d hd=>?_,fun j hj d hd=>?_⟩
 ·obtain⟨x,hx,hap⟩:=hh j hj;rw[mC hx] at hd;exact(Oper.apart_spec hap).2.1 d hd
 ·obtain⟨x,hx,hap⟩:=hh j hj;rw[mC hx] at hd;exact(Oper.apart_spec hap).1 d hd
theorem nT {FL:List Nat} (hf:mB P ops C Z w0 FL) (htrans:∀ a b c,C a b -> C b c -> C a c) (hs:Region.noSelect ops=true) {K:Nat} {ord:List eN} {D:List Nat} {listed:Array Bool} {j:Nat} {a:Act} {w W:World} {U:List Value} {val:Nat -> Value}
 (ih:∀ (D:List Nat) (listed:Array Bool) (a:Act) (w W:World) (U:List Value) (val:Nat -> Value),d9 md ops FL K ord D listed=true -> D.Nodup -> (∀ j ∈ D,FL.contains j=true) -> C w0 W -> C w W -> (D = [] -> W=w) -> (∀ j ∈ D,Z j (val j) W) -> (∀ v ∈ U,∃ k,Z k v W) -> (∀ j ∈ D,val j ∉ U) -> (∀ i j,i ∈ D -> j ∈ D -> i≠j -> val i≠val j) ->
  d7 P ops C Z Q ord U a w -> eG P md ops C Q (ord.length - D.length) listed (fK ops val D a) W)
 (hj:FL.contains j=true) (hjD:D.contains j=false) (hap:D.all (fun x=>apF ops x j)=true) (hB:d9 md ops FL K ord (j :: D) (listed.setIfInBounds j true)=true)
 (hn:D.Nodup) (hD:∀ j ∈ D,FL.contains j=true) (h0:C w0 W) (hc:C w W) (hZ:∀ j ∈ D,Z j (val j) W) (hU:∀ v ∈ U,∃ k,Z k v W) (hDU:∀ j ∈ D,val j ∉ U) (hDD:∀ i j,i ∈ D -> j ∈ D -> i≠j -> val i≠val j)
 (h:d7 P ops C Z Q ord U a w):stC P ops C j (eG P md ops C Q (ord.length - (D.length+1)) (listed.setIfInBounds j true)) (fK ops val D a) W:=by
 obtain⟨o,ho,hg,hr⟩:=hf.run j hj;have hjD':j ∉ D:=by simpa using hjD
 unfold stC;simp only[ho,aD hg,if_true];refine dG (fun v w' hv=>⟨hv.1,?_⟩) (hr (fK ops val D a) W h0);obtain⟨hcw,hz,hne⟩:=hv
 let val':Nat -> Value:=fun x=>if x=j then v else val x
 have hv':∀ k ∈ D,val k=val' k:=fun k hk=>by
  have:k≠j:=fun e=>hjD' (e ▸ hk)
  simp[val',this]
 have he:(fK ops val D a).put o.dst v=fK ops val' (j :: D) a:=by
  rw[gq D a o.dst v (pp ho hap).1,fK,mC ho,kB D _ hv'];simp[val']
 rw[he];have hlen:ord.length - (j :: D).length=ord.length - (D.length+1):=rfl;rw[<- hlen];refine ih (j :: D) _ a w w' U val' hB (List.nodup_cons.2 ⟨hjD',hn⟩) (fun k hk=>?_) (htrans _ _ _ h0 hcw) (htrans _ _ _ hc hcw) nofun (fun k hk=>?_) (fun u hu=>?_) (fun k hk=>?_) (fun x y hx hy hxy=>?_) h
 ·rcases List.mem_cons.1 hk with rfl | hk
  ·exact hj
  ·exact hD k hk
 ·rcases List.mem_cons.1 hk with rfl | hk
  ·simpa[val'] using hz
  ·rw[<- hv' k hk];exact hf.keep _ _ _ _ hcw (hZ k hk)
 ·obtain⟨k,hk⟩:=hU u hu;exact⟨k,hf.keep _ _ _ _ hcw hk⟩
 ·rcases List.mem_cons.1 hk with rfl | hk
  ·intro hu;have e:val' k=v:=by simp[val']
   rw[e] at hu;obtain⟨k',hk'⟩:=hU v hu;exact hne k' v hk' rfl
  ·rw[<- hv' k hk];exact hDU k hk
 ·rcases List.mem_cons.1 hx with ex | hx'
  ·subst ex;rcases List.mem_cons.1 hy with ey | hy'
   ·exact absurd ey.symm hxy
   ·rw[<- hv' y hy'];have e:val' x=v:=by simp[val']
    rw[e];exact hne y (val y) (hZ y hy')
  ·rcases List.mem_cons.1 hy with ey | hy'
   ·subst ey;rw[<- hv' x hx'];have e:val' y=v:=by simp[val']
    rw[e];exact(hne x (val x) (hZ x hx')).symm
   ·rw[<- hv' x hx',<- hv' y hy'];exact hDD x y hx' hy' hxy
theorem rQ {FL:List Nat} (hrefl:∀ w,C w w) (htrans:∀ a b c,C a b -> C b c -> C a c) (hs:Region.noSelect ops=true) (hf:mB P ops C Z w0 FL):∀ (k:Nat) (ord:List eN) (D:List Nat) (listed:Array Bool) (a:Act) (w W:World) (U:List Value) (val:Nat -> Value),
 d9 md ops FL k ord D listed=true -> D.Nodup -> (∀ j ∈ D,FL.contains j=true) -> C w0 W -> C w W -> (D = [] -> W=w) -> (∀ j ∈ D,Z j (val j) W) -> (∀ v ∈ U,∃ k,Z k v W) -> (∀ j ∈ D,val j ∉ U) -> (∀ i j,i ∈ D -> j ∈ D -> i≠j -> val i≠val j) ->
  d7 P ops C Z Q ord U a w -> eG P md ops C Q (ord.length - D.length) listed (fK ops val D a) W:=by
 intro k
 induction k with
 | zero=>intro ord D listed a w W U val hB;simp[d9] at hB
 | succ k ih=>
   intro ord D listed a w W U val hB hn hD h0 hc hw hZ hU hDU hDD h
   match ord,hB,h with
   | [],hB,h=>
     simp only[d9,Bool.and_eq_true] at hB;obtain⟨h1,h2⟩:=hB;obtain rfl:D = []:=by simpa using h1
     rw[hw rfl];exact⟨by simpa using h2,h⟩
   | .steady i :: r,hB,h=>
     simp only[d9,Bool.and_eq_true] at hB;obtain⟨⟨⟨⟨h1,h2⟩,h3⟩,h4⟩,h5⟩:=hB;have hle:D.length <= r.length:=Nat.le_of_ble_eq_true h1;have hlen:(eN.steady i :: r).length - D.length=(r.length - D.length)+1:=by simp;omega
     rw[hlen];cases ho:ops[i]? with
     | none=>simp only[d7,ho] at h
     | some o=>
       simp only[d7,ho] at h;have hsel:=Region.noSelect_spec hs;obtain⟨hd1,hd2⟩:=pp ho h4;obtain⟨he1,he2⟩:=ja (val:=val) (fun cs b=>hsel i o cs b ho) D a hd2
       by_cases hwt:Region.wanted o (yielded ops a.tmps)=true
       ·simp only[hwt,if_true] at h;obtain⟨v,hv,hK⟩:=h;refine dT hrefl htrans ho hsel _ listed _ W (Region.free_spec ho h3) (by simpa using h2) (v:=v) (.inl ⟨he2.trans hwt,fun w' hw'=>by rw[he1];exact hv w' (htrans _ _ _ hc hw')⟩) ?_;rw[gq D a o.dst v hd1];exact ih r D _ _ w W U val h5 hn hD h0 hc hw hZ hU hDU hDD hK
       ·simp only[hwt] at h;refine dT hrefl htrans ho hsel _ listed _ W (Region.free_spec ho h3) (by simpa using h2) (v:=undef) (.inr ⟨by rw[he2];simpa using hwt,rfl⟩) ?_;rw[gq D a o.dst undef hd1];exact ih r D _ _ w W U val h5 hn hD h0 hc hw hZ hU hDU hDD h
   | .move i :: r,hB,h=>
     have hB':=hB;simp only[d9,Bool.and_eq_true] at hB;obtain⟨⟨⟨⟨h1,h4⟩,h2⟩,h5⟩,h6⟩:=hB;have hle:D.length <= r.length:=Nat.le_of_ble_eq_true h1;have hlen:(eN.move i :: r).length - D.length=(r.length - D.length)+1:=by simp;omega
     rw[hlen];have hri:i ∈ Region.ready md ops listed:=by simpa using h2
     refine⟨fun he=>(by rw[he] at hri;cases hri),fun j hj=>?_⟩
     by_cases hji:j=i
     ·subst hji;cases ho:ops[j]? with
      | none=>simp only[d7,ho] at h
      | some o=>
        simp only[d7,ho] at h;have hsel:=Region.noSelect_spec hs;obtain⟨hd1,hd2⟩:=pp ho h4;obtain⟨he1,he2⟩:=ja (val:=val) (fun cs b=>hsel j o cs b ho) D a hd2;have hh:=h W hc;unfold stC;simp only[ho]
        by_cases hwt:Region.wanted o (yielded ops a.tmps)=true
        ·rw[if_pos (he2.trans hwt)];simp only[hwt,if_true] at hh;unfold opC at hh ⊢;rw[he1];refine dG (fun v w' hv=>⟨hv.1,?_⟩) hh;rw[gq D a o.dst v hd1];exact ih r D _ _ w' w' U val h5 hn hD (htrans _ _ _ h0 hv.1) (hrefl _) (fun _=>rfl) (fun k hk=>hf.keep _ _ _ _ hv.1 (hZ k hk)) (fun u hu=>by obtain⟨k,hk⟩:=hU u hu;exact⟨k,hf.keep _ _ _ _ hv.1 hk⟩) hDU hDD hv.2
        ·rw[if_neg (by rw[he2];exact hwt)];simp only[hwt] at hh;rw[gq D a o.dst undef hd1];exact ih r D _ _ W W U val h5 hn hD h0 (hrefl _) (fun _=>rfl) hZ hU hDU hDD hh
     ·have h7:=List.all_eq_true.1 h6 j hj;simp only[Bool.or_eq_true,Bool.and_eq_true,beq_iff_eq,hji,false_or,Bool.not_eq_true'] at h7;obtain⟨⟨⟨h7,h8⟩,h9⟩,h10⟩:=h7;have:=nT (K:=k) hf htrans hs (ih (.move i :: r)) h7 h8 h9 h10 hn hD h0 hc hZ hU hDU hDD h;have e:(eN.move i :: r).length - (D.length+1)=r.length - D.length:=by simp
      rw[e] at this;exact this
   | .float i :: r,hB,h=>
     simp only[d9,Bool.and_eq_true] at hB;obtain⟨hFi,hB⟩:=hB;cases hDi:D.contains i with
     | true=>
       rw[hDi] at hB;simp only[if_true] at hB;have hi:i ∈ D:=by simpa using hDi
       obtain⟨o,ho,-,-⟩:=hf.run i hFi;simp only[d7,ho] at h;have hh:=h (val i) W hc (hZ i hi) (hDU i hi);rw[kC D a hn hi (fun j hj hji=>hf.dst j i (hD j hj) hFi hji),mC ho]
       have hlen:(eN.float i :: r).length - D.length=r.length - (D.erase i).length:=by
        rw[List.length_erase_of_mem hi];have:=List.length_pos_of_mem hi;simp;omega
       rw[hlen]
       have hmem:∀ j,j ∈ D.erase i -> j ∈ D /\ j≠i:=fun j hj=>by
        rw[List.Nodup.mem_erase_iff hn] at hj;exact⟨hj.2,hj.1⟩
       refine ih r (D.erase i) listed _ W W (val i :: U) val hB (hn.erase i) (fun j hj=>hD j (hmem j hj).1) h0 (hrefl _) (fun _=>rfl) (fun j hj=>hZ j (hmem j hj).1) (fun v hv=>?_) (fun j hj=>?_) (fun x y hx hy=>hDD x y (hmem x hx).1 (hmem y hy).1) hh
       ·rcases List.mem_cons.1 hv with rfl | hv
        ·exact⟨i,hZ i hi⟩
        ·exact hU v hv
       ·intro hm;rcases List.mem_cons.1 hm with e | e
        ·exact hDD j i (hmem j hj).1 hi (hmem j hj).2 e
        ·exact hDU j (hmem j hj).1 e
     | false=>
       rw[hDi] at hB;simp only[Bool.false_eq_true,if_false,Bool.and_eq_true] at hB;obtain⟨⟨h1,h2⟩,h6⟩:=hB;have hle:D.length <= r.length:=Nat.le_of_ble_eq_true h1;have hlen:(eN.float i :: r).length - D.length=(r.length - D.length)+1:=by simp;omega
       rw[hlen];have hri:i ∈ Region.ready md ops listed:=by simpa using h2
       refine⟨fun he=>(by rw[he] at hri;cases hri),fun j hj=>?_⟩;have h7:=List.all_eq_true.1 h6 j hj;simp only[Bool.and_eq_true,Bool.not_eq_true'] at h7;obtain⟨⟨⟨h7,h8⟩,h9⟩,h10⟩:=h7;have:=nT (K:=k) hf htrans hs (ih (.float i :: r)) h7 h8 h9 h10 hn hD h0 hc hZ hU hDU hDD h;have e:(eN.float i :: r).length - (D.length+1)=r.length - D.length:=by simp
       rw[e] at this;exact this
   | .fixed i :: r,hB,h=>
     simp only[d9,Bool.and_eq_true] at hB;obtain⟨⟨h1,h2⟩,h5⟩:=hB;obtain rfl:D = []:=by simpa using h1
     obtain rfl:=hw rfl;have hr':Region.ready md ops listed = [i]:=by simpa using h2
     show eG P md ops C Q (r.length+1) listed a W;refine⟨fun he=>(by rw[hr'] at he;cases he),fun j hj=>?_⟩;rw[hr'] at hj;obtain rfl:j=i:=by simpa using hj
     cases ho:ops[j]? with
     | none=>simp only[d7,ho] at h
     | some o=>
       simp only[d7,ho] at h;unfold stC;simp only[ho]
       have go:∀ (a':Act) (w':World),C W w' -> d7 P ops C Z Q r U a' w' -> eG P md ops C Q r.length (listed.setIfInBounds j true) a' w':=fun a' w' hc' hh=>
        ih r [] _ a' w' w' U val h5 List.nodup_nil nofun (htrans _ _ _ h0 hc') (hrefl _) (fun _=>rfl) nofun (fun u hu=>by obtain⟨k,hk⟩:=hU u hu;exact⟨k,hf.keep _ _ _ _ hc' hk⟩) nofun nofun hh
       by_cases hwt:Region.wanted o (yielded ops a.tmps)=true
       ·simp only[hwt,if_true] at h ⊢;exact dG (fun v w' hv=>⟨hv.1,go _ _ hv.1 hv.2⟩) h
       ·simp only[hwt] at h ⊢;exact go _ _ (hrefl _) h
theorem dX {id:Nat} {Q:Exit -> Act -> World -> Prop} {a:Act} {w:World} {l:List Oper} (C:World -> World -> Prop) (Z:Nat -> Value -> World -> Prop) (FL:List Nat) (ord:List eN) (k:Nat) (hm:P.follows .mixedOrders=true)
 (hB:(Region.noSelect l.toArray && d9 .any l.toArray FL k ord [] (Array.replicate l.length false) && (ord.length == l.length))=true)
 (hrefl:∀ w,C w w) (htrans:∀ a b c,C a b -> C b c -> C a c) (hf:mB P l.toArray C Z w.drew FL)
 (h:d7 P l.toArray C Z (fun a' w'=>Q .normal a' w') ord [] a w.drew):(Code.region id l.toArray true).wp P Q a w:=by
 simp only[Bool.and_eq_true] at hB;obtain⟨⟨h1,h2⟩,h3⟩:=hB;have h3':ord.length=l.length:=by simpa using h3
 refine wp_region_any hm (gA (C:=C) (Q:=fun a' w'=>Q .normal a' w') (fun _ _ h=>h) _ _ _ _ ?_);have:=rQ (Q:=fun a' w'=>Q .normal a' w') hrefl htrans h1 hf k ord [] _ a w.drew w.drew [] (fun _=>undef) h2 List.nodup_nil nofun (hrefl _) (hrefl _) (fun _=>rfl) nofun nofun nofun nofun h;simpa[h3',fK] using this
theorem gr {U:List Value} {a:Act} {w:World} (h:Q a w):d7 P ops C Z Q [] U a w:=h
theorem cF {i:Nat} {o:Oper} {r:List eN} {U:List Value} {a:Act} {w:World} (ho:ops[i]?=some o) (hw:Region.wanted o (yielded ops a.tmps)=true) {v:Value}
 (hv:∀ w',C w w' -> (execOp a.eval o).run P w'=.ok (.value v) w')
 (h:∀ K:Act -> Prop,(∀ a',d7 P ops C Z Q r U a' w -> K a') -> K (a.put o.dst v)):d7 P ops C Z Q (.steady i :: r) U a w:=by
 simp only[d7,ho,hw,if_true];exact⟨v,hv,h _ (fun _ h=>h)⟩
theorem gX {i:Nat} {o:Oper} {r:List eN} {U:List Value} {a:Act} {w:World} (ho:ops[i]?=some o) (hw:Region.wanted o (yielded ops a.tmps)=true)
 (h:∀ W,C w W -> ∀ K:Act -> World -> Prop,(∀ a' w',d7 P ops C Z Q r U a' w' -> K a' w') -> opC P o a W (fun v w'=>C W w' /\ K (a.put o.dst v) w')):d7 P ops C Z Q (.move i :: r) U a w:=by
 simp only[d7,ho,hw,if_true];exact fun W hW=>h W hW _ (fun _ _ h=>h)
theorem eT {i:Nat} {o:Oper} {r:List eN} {U:List Value} {a:Act} {w:World} (ho:ops[i]?=some o)
 (h:∀ v W,C w W -> Z i v W -> v ∉ U -> ∀ K:Act -> World -> Prop,(∀ a' w',d7 P ops C Z Q r (v :: U) a' w' -> K a' w') -> K (a.put o.dst v) W):d7 P ops C Z Q (.float i :: r) U a w:=by
 simp only[d7,ho];exact fun v W hW hZ hU=>h v W hW hZ hU _ (fun _ _ h=>h)
theorem eU {i:Nat} {o:Oper} {r:List eN} {U:List Value} {a:Act} {w:World} (ho:ops[i]?=some o) (hw:Region.wanted o (yielded ops a.tmps)=true)
 (h:∀ K:Act -> World -> Prop,(∀ a' w',d7 P ops C Z Q r U a' w' -> K a' w') -> opC P o a w (fun v w'=>C w w' /\ K (a.put o.dst v) w')):d7 P ops C Z Q (.fixed i :: r) U a w:=by
 simp only[d7,ho,hw,if_true];exact h _ (fun _ _ h=>h)
end
attribute [irreducible] d7
structure bC (B0:Nat) (T:TypeId) (w w':World):Prop where
 os:w'.os=w.os
 tape:w'.tape=w.tape
 output:w'.output=w.output
 size:w.heap.size <= w'.heap.size
 block:∀ b,b < w.heap.size -> (∀ L,B0 <= b -> ¬ Blk w b L T) -> w'.heap[b]?=w.heap[b]?
 typed:∀ b L,B0 <= b -> Blk w b L T -> ∃ L',Blk w' b L' T /\ L'.length=L.length
theorem ew (B0:Nat) (T:TypeId) (w:World):bC B0 T w w:=⟨rfl,rfl,rfl,aq _,fun _ _ _=>rfl,fun _ L _ h=>⟨L,h,rfl⟩⟩
theorem bP (B0:Nat) (T:TypeId) (a b c:World) (h:bC B0 T a b) (k:bC B0 T b c):bC B0 T a c:=
 ⟨k.os.trans h.os,k.tape.trans h.tape,k.output.trans h.output,au h.size k.size,
  fun x hx hn=>(k.block x (aw hx h.size) fun L hL hb=>hn L hL ((h.block x hx hn).symm.trans hb)).trans (h.block x hx hn),
  fun x L hL hb=>by
   obtain⟨L1,h1,e1⟩:=h.typed x L hL hb;obtain⟨L2,h2,e2⟩:=k.typed x L1 hL h1
   exact⟨L2,h2,e2.trans e1⟩⟩
theorem bC.of_later {B0:Nat} {T:TypeId} {w w':World} (h:aI w w'):bC B0 T w w':=
 ⟨h.os,h.tape,h.output,h.size,fun b hb _=>h.block b hb,fun b L _ hb=>⟨L,hb.keep (h.block b hb.lt),rfl⟩⟩
theorem bC.below {B0:Nat} {T:TypeId} {w w':World} (h:bC B0 T w w') (hB:B0 <= w.heap.size):RowKit.Below B0 w w':=
 ⟨h.os,h.tape,h.output,h.size,fun b hb=>h.block b (aw hb hB) fun L hL=>absurd hL (by omega)⟩
theorem bC.set {B0:Nat} {T:TypeId} {w:World} {b:Nat} {L:List Value} (hb:Blk w b L T) (hB:B0 <= b) (i:Nat) (u:Value):bC B0 T w (w.setCell ⟨b,i,none⟩ u):=by
 refine⟨rfl,rfl,rfl,by simp[World.setCell],fun x hx hn=>?_,fun x M hx hM=>?_⟩
 ·exact RowKit.Below.heap_setCell _ _ _ _ fun e=>hn L (by rw[e];exact hB) (by rw[e];exact hb)
 ·by_cases he:x=b
  ·subst he;exact⟨_,hM.set i u,by simp⟩
  ·exact⟨M,hM.set_other u he,rfl⟩
theorem bC.blk {B0:Nat} {T t:TypeId} {w w':World} (h:bC B0 T w w') {b:Nat} {L:List Value} (hb:Blk w b L t) (hne:t≠T):Blk w' b L t:=
 hb.keep (h.block b hb.lt fun M _ hM=>hne (hb.inj hM).2)
theorem bC.own {B0:Nat} {T:TypeId} {w w':World} (h:bC B0 T w w') {base:Nat} {e:TypeId} {k n:Nat} {v:Value} {xs:List Value} (ho:w.ownsRow base e k v n xs) (hne:e≠T):w'.ownsRow base e k v n xs:=by
 refine⟨ho.1,?_⟩;rcases ho.2 with h0 | ⟨g,cap,cur,hv,hb,hg,hr⟩
 ·exact .inl h0
 ·refine .inr ⟨g,cap,cur,hv,hb,?_,hr⟩;rw[h.block g (lt_of_block hg) fun L _ hL=>?_]
  ·exact hg
  ·unfold Blk at hL;rw[hg] at hL;simp at hL;exact hne hL.2
def iu (B0:Nat) (T:TypeId) (n:Nat) (_:Nat) (v:Value) (W:World):Prop:=∃ b L,v=.pointer (some ⟨b,0,none⟩) /\ B0 <= b /\ Blk W b L T /\ L.length=n
theorem fB {P:Program} {ops:Array Oper} {w0:World} {B0:Nat} {T:TypeId} {n:Nat} {FL:List Nat} (cs:Array Value) (hcs:cs.size=n) (hB:B0 <= w0.heap.size)
 (hr:∀ j,FL.contains j=true -> ∃ o,ops[j]?=some o /\ o.guard=none /\ ∀ (a:Act) (W:World),(execOp a.eval o).run P W=.ok (.value (.pointer (some ⟨W.heap.size,0,none⟩))) (W.alloc (.cells cs T)))
 (hd:∀ i j,FL.contains i=true -> FL.contains j=true -> i≠j -> ∀ d,ir ops i=some d -> ir ops j≠some d):mB P ops (bC B0 T) (iu B0 T n) w0 FL:=by
 refine⟨fun j hj=>?_,fun j v w w' hc ⟨b,L,hv,hb,hk,hl⟩=>?_,hd⟩
 ·obtain⟨o,ho,hg,hrun⟩:=hr j hj;refine⟨o,ho,hg,fun a W hW=>?_⟩;unfold opC;rw[hrun a W];refine⟨bC.of_later (RowKit.Below.refl W.heap.size W |>.alloc (aq _) _),⟨_,_,rfl,au hB hW.size,Blk.new _ _ _,by simpa using hcs⟩,?_⟩;rintro k u ⟨b,L,rfl,-,hb,-⟩ he;have hlt:=hb.lt;simp at he
  try omega
 ·obtain⟨L',h1,h2⟩:=hc.typed b L hb hk;exact⟨b,L',hv,hb,h1,h2.trans hl⟩
end Go.Proofs.YtobjdpngnfbicaaGreatDoor
