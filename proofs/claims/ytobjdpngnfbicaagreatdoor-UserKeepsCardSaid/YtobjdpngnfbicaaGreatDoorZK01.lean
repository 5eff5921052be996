/-
  KMath DecayMath
-/
import Derived.Lib.ValidU
import Derived.Lib.TrimUEq
namespace Go.Proofs.YtobjdpngnfbicaaGreatDoor
set_option linter.unusedVariables false
set_option maxRecDepth 20000
/-! UTF-8, as the reference reads it: the character at the head of l, and how many bytes it has; 0, 0: there is none -/
/-! keys -/
def fi (s:List UInt8):Bool:=decide (s≠[]) && Lib.validD s && decide ((0:UInt8) ∉ s)
def fj (kind:Int) (a b:List UInt8):Bool:=decide (kind=1 \/ kind=2) && fi a && fi b && decide (a.length+b.length <= 398)
def ib (r:List UInt8):List UInt8:=r.takeWhile (· != 0)
def ic (r:List UInt8):List UInt8:=(r.dropWhile (· != 0)).drop 1
def ec:List UInt8 -> Bool
 | []=>false
 | c :: r=>fj ((c.toNat:Int) - 48) (ib r) (ic r)
theorem qY:∀ (r:List UInt8) (i:Nat),i < r.length -> (∀ j,j < i -> r[j]?≠some 0) -> r[i]?=some 0 -> ib r=r.take i /\ ic r=r.drop (i+1)
 | [],i,h,_,_=>by simp at h
 | c :: r,0,_,_,h0=>by
   have:c=0:=by simpa using h0
   subst this;unfold ib ic;simp
 | c :: r,i+1,hi,hn,h0=>by
   have hc:c≠0:=by
    have:=hn 0 (by omega);simpa using this
   obtain⟨h1,h2⟩:=qY r i (by simpa using hi) (fun j hj=>by have:=hn (j+1) (by omega);simpa using this) (by simpa using h0);unfold ib ic at *;rw[List.takeWhile_cons,List.dropWhile_cons];simp[hc,h1,h2]
theorem mR (r:List UInt8) (h:(0:UInt8) ∉ r):ib r=r /\ ic r = []:=by
 induction r with
 | nil=>exact⟨rfl,rfl⟩
 | cons c r ih=>
   have hc:c≠0:=fun e=>h (by simp[e])
   obtain⟨h1,h2⟩:=ih (fun hm=>h (List.mem_cons_of_mem _ hm));unfold ib ic at *;rw[List.takeWhile_cons,List.dropWhile_cons];simp[hc,h1,h2]
theorem mS:fi []=false:=by simp[fi]
theorem qe (s:List UInt8) (h:(0:UInt8) ∈ s):fi s=false:=by simp[fi,h]
theorem qf (c:UInt8) (r:List UInt8):ec (c :: r)=true↔∃ i,i < r.length /\ r[i]?=some 0 /\ fj ((c.toNat:Int) - 48) (r.take i) (r.drop (i+1))=true:=by
 show fj _ (ib r) (ic r)=true↔_
 by_cases h:(0:UInt8) ∈ r
 ·obtain⟨i,hi,h0,hn⟩:∃ i,∃ _:i < r.length,r[i]?=some 0 /\ ∀ j,j < i -> r[j]?≠some 0:=by
   refine⟨r.findIdx (· == 0),List.findIdx_lt_length_of_exists ⟨0,h,by simp⟩,?_,fun j hj hc=>?_⟩
   ·have:=List.findIdx_getElem (xs:=r) (p:=(· == 0)) (w:=List.findIdx_lt_length_of_exists ⟨0,h,by simp⟩);rw[List.getElem?_eq_getElem (List.findIdx_lt_length_of_exists ⟨0,h,by simp⟩)];simpa using this
   ·have hjl:=(List.getElem?_eq_some_iff.1 hc).1;have:=List.not_of_lt_findIdx (xs:=r) (p:=(· == 0)) hj;have h2:=(List.getElem?_eq_some_iff.1 hc).2;simp[h2] at this
  obtain⟨e1,e2⟩:=qY r i hi hn h0;rw[e1,e2];refine⟨fun hm=>⟨i,hi,h0,hm⟩,?_⟩;rintro⟨j,hj,hj0,hm⟩;rcases Nat.lt_trichotomy j i with hlt | heq | hgt
  ·exact absurd hj0 (hn j hlt)
  ·exact heq ▸ hm
  ·exfalso
   have hmem:(0:UInt8) ∈ r.take j:=by
    have:(r.take j)[i]?=some 0:=by rw[List.getElem?_take,if_pos hgt];exact h0
    exact List.mem_of_getElem? this
   simp[fj,qe _ hmem] at hm
 ·obtain⟨e1,e2⟩:=mR r h;rw[e1,e2];constructor
  ·intro hm;simp[fj,mS] at hm
  ·rintro⟨j,hj,hj0,hm⟩;exact absurd (List.mem_of_getElem? hj0) h
end Go.Proofs.YtobjdpngnfbicaaGreatDoor
namespace Go.Proofs.YtobjdpngnfbicaaGreatDoor.DM
def stp (v:Int):Int:=v - (v+255) / 256
def aft:Nat -> Int -> Int
 | 0,v=>v
 | n+1,v=>if 0 < v then aft n (stp v) else v
def bnd (v:Int):Int:=min (max v 0) 1099511627776
theorem bnd_nonneg (v:Int):0 <= bnd v:=by unfold bnd;omega
theorem bnd_le (v:Int):bnd v <= 1099511627776:=by unfold bnd;omega
theorem bnd_id (v:Int) (h:0 <= v) (h2:v <= 1099511627776):bnd v=v:=by unfold bnd;omega
theorem stp_nonneg (v:Int) (h:0 <= v):0 <= stp v:=by unfold stp;omega
theorem stp_lt (v:Int) (h:0 < v):stp v < v:=by unfold stp;omega
theorem tg (v:Int) (h:0 <= v):stp v <= v:=by unfold stp;omega
theorem aft_zero_of (n:Nat) (v:Int) (h:¬ 0 < v):aft n v=v:=by
 cases n with
 | zero=>rfl
 | succ n=>simp[aft,h]
theorem aft_succ_pos (n:Nat) (v:Int) (h:0 < v):aft (n+1) v=aft n (stp v):=by simp[aft,h]
theorem aft_nonneg (n:Nat):∀ v:Int,0 <= v -> 0 <= aft n v:=by
 induction n with
 | zero=>intro v h;exact h
 | succ n ih=>
   intro v h;unfold aft;split
   ·exact ih _ (stp_nonneg v h)
   ·exact h
theorem aft_le (n:Nat):∀ v:Int,0 <= v -> aft n v <= v:=by
 induction n with
 | zero=>intro v _;exact Int.le_refl _
 | succ n ih=>
   intro v h;unfold aft;split
   ·have:=ih _ (stp_nonneg v h);have:=tg v h;omega
   ·exact Int.le_refl _
theorem aft_succ' (n:Nat):∀ v:Int,aft (n+1) v=if 0 < aft n v then stp (aft n v) else aft n v:=by
 induction n with
 | zero=>intro v;rfl
 | succ n ih=>
   intro v
   by_cases h:0 < v
   ·rw[aft_succ_pos (n+1) v h,ih,aft_succ_pos n v h]
   ·rw[aft_zero_of _ v h,aft_zero_of _ v h,if_neg h]
theorem aft_add (m n:Nat):∀ v:Int,aft n (aft m v)=aft (m+n) v:=by
 induction m with
 | zero=>intro v;simp[aft]
 | succ m ih=>
   intro v
   by_cases h:0 < v
   ·rw[aft_succ_pos m v h,ih,show m+1+n=(m+n)+1 from by omega,aft_succ_pos _ v h]
   ·rw[aft_zero_of _ v h,aft_zero_of _ v h,aft_zero_of _ v h]
theorem aft_more (m n:Nat) (v:Int) (h:0 <= v) (hm:m <= n):aft n v <= aft m v:=by
 obtain⟨k,rfl⟩:∃ k,n=m+k:=⟨n - m,by omega⟩
 rw[<- aft_add];exact aft_le _ _ (aft_nonneg _ _ h)
end Go.Proofs.YtobjdpngnfbicaaGreatDoor.DM
