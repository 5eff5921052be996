/-
  RDec Kit Mem
-/
import Derived.Test.YtobjdpngnfbicaaGreatDoorZN02
import Derived.WalkKit
import Derived.ProofKit
import Derived.Lib.Hide
import Derived.Deep.QuietTactic
import Derived.BigQuiet
import Derived.Laws.CopyOwn
namespace Go.Proofs.YtobjdpngnfbicaaGreatDoor
set_option linter.unusedVariables false
set_option maxRecDepth 20000
def rdF:List UInt8→Nat→Option (Nat × List UInt8)
 | [],_=>none
 | c :: r,f=>if (f=0∧1 < c.toNat)∨(f < 9∧c.toNat=0) then none else if c.toNat < 128 then some (c.toNat,r) else (rdF r (f - 1)).map fun p=>(c.toNat % 128+128 * p.1,p.2)
theorem rdF_nil (f:Nat):rdF [] f=none:=rfl
theorem rdF_bad {c:UInt8} {r:List UInt8} {f:Nat} (h:(f=0∧1 < c.toNat)∨(f < 9∧c.toNat=0)):rdF (c :: r) f=none:=by rw [rdF,if_pos h]
theorem rdF_end {c:UInt8} {r:List UInt8} {f:Nat} (h:¬ ((f=0∧1 < c.toNat)∨(f < 9∧c.toNat=0))) (h2:c.toNat < 128):rdF (c :: r) f=some (c.toNat,r):=by rw [rdF,if_neg h,if_pos h2]
theorem rdF_go {c:UInt8} {r:List UInt8} {f:Nat} (h:¬ ((f=0∧1 < c.toNat)∨(f < 9∧c.toNat=0))) (h2:¬ c.toNat < 128):rdF (c :: r) f=(rdF r (f - 1)).map fun p=>(c.toNat % 128+128 * p.1,p.2):=by rw [rdF,if_neg h,if_neg h2]
theorem ofNat_toNat8 (n:Nat) (h:n < 256):(UInt8.ofNat n).toNat=n:=by rw [UInt8.toNat_ofNat'];omega
theorem rdF_iff:∀ (b:List UInt8) (f n:Nat) (r:List UInt8),f≤9→(rdF b f=some (n,r)↔b=uvarF (f+1) n ++ r∧n < 2 * 128 ^ f∧(f < 9→n≠0))
 | [],f,n,r,hf=>by
   rw [rdF_nil]
   refine ⟨nofun,fun h=>?_⟩
   have h1:=congrArg List.length h.1
   have:0 < (uvarF (f+1) n).length:=by unfold uvarF;split <;> simp
   rw [List.length_append] at h1
   simp at h1
   omega
 | c :: t,f,n,r,hf=>by
   have hc:=c.toNat_lt
   by_cases hA:(f=0∧1 < c.toNat)∨(f < 9∧c.toNat=0)
   · rw [rdF_bad hA]
     refine ⟨nofun,fun h=>?_⟩
     exfalso
     obtain ⟨h1,h2,h3⟩:=h
     unfold uvarF at h1
     by_cases hn:n < 128
     · rw [if_pos hn] at h1
       have e:=congrArg UInt8.toNat (List.cons.inj h1).1
       rw [ofNat_toNat8 n (by omega)] at e
       rcases hA with ⟨rfl,hA⟩ | ⟨hA,hB⟩
       · simp at h2;omega
       · exact h3 hA (by omega)
     · rw [if_neg hn] at h1
       have e:=congrArg UInt8.toNat (List.cons.inj h1).1
       rw [ofNat_toNat8 _ (by omega)] at e
       rcases hA with ⟨rfl,hA⟩ | ⟨hA,hB⟩
       · simp at h2;omega
       · omega
   by_cases hB:c.toNat < 128
   · rw [rdF_end hA hB]
     constructor
     · intro h
       obtain ⟨rfl,rfl⟩:=Prod.mk.inj (Option.some.inj h)
       refine ⟨?_,?_,fun hf9 h0=>hA (.inr ⟨hf9,h0⟩)⟩
       · unfold uvarF
         rw [if_pos hB]
         simp
       · cases f with
         | zero=>simp;omega
         | succ f=>have:0 < 128 ^ f:=Nat.pow_pos (by omega);rw [Nat.pow_succ];omega
     · rintro ⟨h1,h2,h3⟩
       unfold uvarF at h1
       by_cases hn:n < 128
       · rw [if_pos hn] at h1
         obtain ⟨e1,e2⟩:=List.cons.inj h1
         have e:=congrArg UInt8.toNat e1
         rw [ofNat_toNat8 n (by omega)] at e
         rw [e]
         simp at e2
         rw [e2]
       · rw [if_neg hn] at h1
         have e:=congrArg UInt8.toNat (List.cons.inj h1).1
         rw [ofNat_toNat8 _ (by omega)] at e
         omega
   · rw [rdF_go hA hB]
     cases f with
     | zero=>exact absurd (.inl ⟨rfl,by omega⟩) hA
     | succ f=>
       rw [Option.map_eq_some_iff,Nat.add_sub_cancel]
       constructor
       · rintro ⟨⟨n',r'⟩,h,e⟩
         obtain ⟨rfl,rfl⟩:=Prod.mk.inj e
         obtain ⟨h1,h2,h3⟩:=(rdF_iff t f n' r' (by omega)).1 h
         have h0:n'≠0:=h3 (by omega)
         dsimp only
         refine ⟨?_,by rw [Nat.pow_succ];omega,fun _=>by omega⟩
         rw [uvarF,if_neg (by omega),show (c.toNat % 128+128 * n') / 128=n' by omega,show (c.toNat % 128+128 * n') % 128+128=c.toNat by omega,h1]
         simp
       · rintro ⟨h1,h2,h3⟩
         rw [uvarF] at h1
         by_cases hn:n < 128
         · rw [if_pos hn] at h1
           have e:=congrArg UInt8.toNat (List.cons.inj h1).1
           rw [ofNat_toNat8 n (by omega)] at e
           omega
         · rw [if_neg hn] at h1
           obtain ⟨e1,e2⟩:=List.cons.inj h1
           have e:=congrArg UInt8.toNat e1
           rw [ofNat_toNat8 _ (by omega)] at e
           refine ⟨(n / 128,r),(rdF_iff t f (n / 128) r (by omega)).2 ⟨e2,by rw [Nat.pow_succ] at h2;omega,fun _=>by omega⟩,?_⟩
           exact Prod.ext (by show c.toNat % 128+128 * (n / 128)=n;omega) rfl
theorem rd_iff {b:List UInt8} {n:Nat} {r:List UInt8}:rdF b 9=some (n,r)↔NumAt b n r:=by
 rw [rdF_iff b 9 n r (Nat.le_refl _)]
 unfold NumAt uvar
 exact ⟨fun h=>⟨by have:=h.2.1;omega,h.1⟩,fun h=>⟨h.2,by have:=h.1;omega,fun h9=>absurd h9 (by omega)⟩⟩
theorem rd_len {b:List UInt8} {n:Nat} {r:List UInt8} (h:rdF b 9=some (n,r)):r.length < b.length∧b.length≤r.length+10∧n < 18446744073709551616:=by
 obtain ⟨h1,h2⟩:=rd_iff.1 h
 have:=congrArg List.length h2
 rw [List.length_append] at this
 have h3:=uvar_pos n
 have h4:=uvar_len n
 exact ⟨by omega,by omega,h1⟩
/-! a reader: what is still to be read; none: something was wrong -/
abbrev RdSt:=Option (List UInt8)
def numS:RdSt→Int × RdSt
 | none=>(0,none)
 | some b=>match rdF b 9 with
   | some (n,r)=>if n≤1099511627776 then ((n:Int),some r) else (0,none)
   | none=>(0,none)
def rdT (b:List UInt8):Option (RKey × List UInt8):=match rdF b 9 with
 | some (n,r)=>if n≤r.length then some (r.take n,r.drop n) else none
 | none=>none
def textS:RdSt→RKey × RdSt
 | none=>([],none)
 | some b=>match rdT b with
   | some (k,r)=>(k,some r)
   | none=>([],none)
def itemS (s:RdSt):RIt × RdSt:=(⟨(textS s).1,(numS (textS s).2).1,(numS (numS (textS s).2).2).1,(numS (numS (numS (textS s).2).2).2).1⟩,(numS (numS (numS (textS s).2).2).2).2)
def goneS (s:RdSt):RGo × RdSt:=(⟨(textS s).1,(numS (textS s).2).1,(numS (numS (textS s).2).2).1⟩,(numS (numS (textS s).2).2).2)
def seenL:Nat→List Int × RdSt→List Int × RdSt
 | 0,p=>p
 | n+1,p=>seenL n (p.1 ++ [(numS p.2).1],(numS p.2).2)
def manyL {α:Type} (one:RdSt→α × RdSt):Nat→List α × RdSt→List α × RdSt
 | 0,p=>p
 | n+1,p=>if p.2=none then p else manyL one n (p.1 ++ [(one p.2).1],(one p.2).2)
def dec1 (b:List UInt8):List Int × RdSt:=seenL 8 ([],some b)
def dec2 (b:List UInt8):List RIt × RdSt:=manyL itemS (numS (dec1 b).2).1.toNat ([],(numS (dec1 b).2).2)
def dec3 (b:List UInt8):List RGo × RdSt:=manyL goneS (numS (dec2 b).2).1.toNat ([],(numS (dec2 b).2).2)
def decM (b:List UInt8):RMap:=⟨(dec1 b).1,(dec2 b).1,(dec3 b).1⟩
def decR (b:List UInt8):RMap × Int:=if (dec3 b).2=some []∧validR (decM b)=true then (decM b,0) else (.empty,5)
theorem manyL_none {α:Type} (one:RdSt→α × RdSt) (n:Nat) (l:List α):manyL one n (l,none)=(l,none):=by
 cases n with
 | zero=>rfl
 | succ n=>rw [manyL,if_pos rfl]
theorem manyL_some {α:Type} (one:RdSt→α × RdSt) (n:Nat) (l:List α) (b:List UInt8):manyL one (n+1) (l,some b)=manyL one n (l ++ [(one (some b)).1],(one (some b)).2):=by rw [manyL,if_neg nofun]
/-! what was read -/
theorem numS_some {s:RdSt} {x:Int} {r:List UInt8} (h:numS s=(x,some r)):s=some (uvar x.toNat ++ r)∧0≤x∧x≤1099511627776:=by
 cases s with
 | none=>cases h
 | some b=>
   unfold numS at h
   dsimp only at h
   split at h
   · rename_i n r' hr
     by_cases hn:n≤1099511627776
     · rw [if_pos hn] at h
       obtain ⟨rfl,h2⟩:=Prod.mk.inj h
       obtain rfl:=Option.some.inj h2
       have:=(rd_iff.1 hr).2
       exact ⟨by rw [this];simp,by omega,by omega⟩
     · rw [if_neg hn] at h;cases h
   · cases h
theorem numS_of (x:Int) (r:List UInt8) (h0:0≤x) (h1:x≤1099511627776):numS (some (uvar x.toNat ++ r))=(x,some r):=by
 have h:rdF (uvar x.toNat ++ r) 9=some (x.toNat,r):=rd_iff.2 ⟨by omega,rfl⟩
 unfold numS
 dsimp only
 rw [h]
 dsimp only
 rw [if_pos (by omega),show ((x.toNat:Nat):Int)=x by omega]
theorem numS_bnd (s:RdSt):0≤(numS s).1∧(numS s).1≤1099511627776:=by
 unfold numS
 split
 · exact ⟨by decide,by decide⟩
 · split
   · split
     · exact ⟨by simp,by dsimp only;omega⟩
     · exact ⟨by decide,by decide⟩
   · exact ⟨by decide,by decide⟩
theorem textS_some {s:RdSt} {k:RKey} {r:List UInt8} (h:textS s=(k,some r)):s=some (codeText k ++ r)∧k.length < 18446744073709551616:=by
 cases s with
 | none=>cases h
 | some b=>
   unfold textS rdT at h
   dsimp only at h
   split at h
   · rename_i k' r' hr
     obtain ⟨rfl,h2⟩:=Prod.mk.inj h
     obtain rfl:=Option.some.inj h2
     split at hr
     · rename_i n t ht
       by_cases hn:n≤t.length
       · rw [if_pos hn] at hr
         obtain ⟨rfl,rfl⟩:=Prod.mk.inj (Option.some.inj hr)
         obtain ⟨h1,h2⟩:=rd_iff.1 ht
         have hl:(t.take n).length=n:=by simp [hn]
         unfold codeText
         rw [hl]
         exact ⟨by rw [h2,List.append_assoc,List.take_append_drop],h1⟩
       · rw [if_neg hn] at hr;cases hr
     · cases hr
   · cases h
theorem textS_of (k:RKey) (r:List UInt8) (hk:k.length < 18446744073709551616):textS (some (codeText k ++ r))=(k,some r):=by
 have h:rdF (codeText k ++ r) 9=some (k.length,k ++ r):=rd_iff.2 ⟨hk,by unfold codeText;rw [List.append_assoc]⟩
 unfold textS rdT
 dsimp only
 rw [h]
 dsimp only
 rw [if_pos (by simp)]
 simp
def szS:RdSt→Nat
 | none=>0
 | some r=>r.length+1
theorem numS_sz (s:RdSt):szS (numS s).2≤szS s∧∀ b,s=some b→szS (numS s).2 < szS s:=by
 cases s with
 | none=>exact ⟨Nat.le_refl _,nofun⟩
 | some b=>
   suffices h:szS (numS (some b)).2 < szS (some b) from ⟨Nat.le_of_lt h,fun _ _=>h⟩
   cases h:(numS (some b)).2 with
   | none=>simp [szS]
   | some r=>
     have:=(numS_some (s:=some b) (x:=(numS (some b)).1) (r:=r) (by rw [←h])).1
     have hl:=congrArg List.length (Option.some.inj this)
     rw [List.length_append] at hl
     have:=uvar_pos (numS (some b)).1.toNat
     simp only [szS]
     omega
theorem textS_sz (s:RdSt):szS (textS s).2≤szS s∧(∀ b,s=some b→szS (textS s).2 < szS s)∧(textS s).1.length≤szS s:=by
 cases s with
 | none=>exact ⟨Nat.le_refl _,nofun,Nat.zero_le _⟩
 | some b=>
   suffices h:szS (textS (some b)).2 < szS (some b)∧(textS (some b)).1.length≤szS (some b) from ⟨Nat.le_of_lt h.1,fun _ _=>h.1,h.2⟩
   cases h:(textS (some b)).2 with
   | none=>
     refine ⟨by simp [szS],?_⟩
     have:(textS (some b)).1 = []:=by
      unfold textS at h ⊢
      dsimp only at h ⊢
      split at h
      · cases h
      · rfl
     rw [this]
     simp
   | some r=>
     have:=(textS_some (s:=some b) (k:=(textS (some b)).1) (r:=r) (by rw [←h])).1
     have hl:=congrArg List.length (Option.some.inj this)
     unfold codeText at hl
     rw [List.length_append,List.length_append] at hl
     have:=uvar_pos (textS (some b)).1.length
     simp only [szS]
     omega
def ItB (n:Nat) (x:RIt):Prop:=x.key.length≤n∧(0≤x.dev∧x.dev≤1099511627776)∧(0≤x.seq∧x.seq≤1099511627776)∧0≤x.val∧x.val≤1099511627776
def GoB (n:Nat) (x:RGo):Prop:=x.key.length≤n∧(0≤x.dev∧x.dev≤1099511627776)∧0≤x.seq∧x.seq≤1099511627776
theorem itemS_sz (b:List UInt8):szS (itemS (some b)).2 < szS (some b)∧ItB (szS (some b)) (itemS (some b)).1:=by
 have h1:=textS_sz (some b)
 have h2:=numS_sz (textS (some b)).2
 have h3:=numS_sz (numS (textS (some b)).2).2
 have h4:=numS_sz (numS (numS (textS (some b)).2).2).2
 have:=h1.2.1 b rfl
 exact ⟨by unfold itemS;dsimp only;omega,h1.2.2,numS_bnd _,numS_bnd _,numS_bnd _⟩
theorem goneS_sz (b:List UInt8):szS (goneS (some b)).2 < szS (some b)∧GoB (szS (some b)) (goneS (some b)).1:=by
 have h1:=textS_sz (some b)
 have h2:=numS_sz (textS (some b)).2
 have h3:=numS_sz (numS (textS (some b)).2).2
 have:=h1.2.1 b rfl
 exact ⟨by unfold goneS;dsimp only;omega,h1.2.2,numS_bnd _,numS_bnd _⟩
/-! a code that was read to its end is the code of what was read -/
/-! the code of a valid map is read -/
theorem seenL_of:∀ (k l:List Int) (r:List UInt8),(∀ n ∈ k,0≤n∧n≤1099511627776)→seenL k.length (l,some (k.flatMap (fun n=>uvar n.toNat) ++ r))=(l ++ k,some r)
 | [],l,r,_=>by simp [seenL]
 | x :: k,l,r,h=>by
   have hx:=h x List.mem_cons_self
   rw [List.length_cons,seenL]
   dsimp only
   rw [List.flatMap_cons,List.append_assoc,numS_of x _ hx.1 hx.2]
   dsimp only
   rw [seenL_of k _ r fun y hy=>h y (List.mem_cons_of_mem _ hy)]
   simp
theorem manyL_of {α:Type} {one:RdSt→α × RdSt} {code:α→List UInt8} {P:α→Prop} (ho:∀ x r,P x→one (some (code x ++ r))=(x,some r)):∀ (k l:List α) (r:List UInt8),(∀ x ∈ k,P x)→manyL one k.length (l,some (k.flatMap code ++ r))=(l ++ k,some r)
 | [],l,r,_=>by simp [manyL]
 | x :: k,l,r,h=>by
   rw [List.length_cons,manyL_some,List.flatMap_cons,List.append_assoc,ho x _ (h x List.mem_cons_self)]
   dsimp only
   rw [manyL_of ho k _ r fun y hy=>h y (List.mem_cons_of_mem _ hy)]
   simp
def itG (x:RIt):Prop:=x.key.length < 18446744073709551616∧(0≤x.dev∧x.dev≤1099511627776)∧(0≤x.seq∧x.seq≤1099511627776)∧0≤x.val∧x.val≤1099511627776
def goG (x:RGo):Prop:=x.key.length < 18446744073709551616∧(0≤x.dev∧x.dev≤1099511627776)∧0≤x.seq∧x.seq≤1099511627776
theorem itemS_of (x:RIt) (r:List UInt8) (h:itG x):itemS (some (codeIt x ++ r))=(x,some r):=by
 obtain ⟨h1,h2,h3,h4⟩:=h
 unfold itemS codeIt
 simp only [List.append_assoc]
 rw [textS_of _ _ h1]
 dsimp only
 rw [numS_of _ _ h2.1 h2.2]
 dsimp only
 rw [numS_of _ _ h3.1 h3.2]
 dsimp only
 rw [numS_of _ _ h4.1 h4.2]
theorem goneS_of (x:RGo) (r:List UInt8) (h:goG x):goneS (some (codeGo x ++ r))=(x,some r):=by
 obtain ⟨h1,h2,h3⟩:=h
 unfold goneS codeGo
 simp only [List.append_assoc]
 rw [textS_of _ _ h1]
 dsimp only
 rw [numS_of _ _ h2.1 h2.2]
 dsimp only
 rw [numS_of _ _ h3.1 h3.2]
theorem dec_of {m:RMap} (h:validR m=true):decM (codeR m)=m∧(dec3 (codeR m)).2=some []:=by
 obtain ⟨n1,n2,n3⟩:=valid_nums h
 obtain ⟨l1,l2,l3,-⟩:=valid_lens h
 have e1:dec1 (codeR m)=(m.seen,some (uvar m.items.length ++ (m.items.flatMap codeIt ++ (uvar m.gone.length ++ m.gone.flatMap codeGo)))):=by
  unfold dec1 codeR
  rw [←l1,seenL_of _ _ _ n1]
  simp
 have e2:dec2 (codeR m)=(m.items,some (uvar m.gone.length ++ m.gone.flatMap codeGo)):=by
  unfold dec2
  rw [e1]
  dsimp only
  have:=numS_of (m.items.length:Int) (m.items.flatMap codeIt ++ (uvar m.gone.length ++ m.gone.flatMap codeGo)) (by omega) (by omega)
  rw [Int.toNat_natCast] at this
  rw [this]
  dsimp only
  rw [Int.toNat_natCast,manyL_of (P:=itG) itemS_of _ _ _ fun x hx=>by have:=n2 x hx;unfold itG;omega]
  simp
 have e3:dec3 (codeR m)=(m.gone,some []):=by
  unfold dec3
  rw [e2]
  dsimp only
  have:=numS_of (m.gone.length:Int) (m.gone.flatMap codeGo) (by omega) (by omega)
  rw [Int.toNat_natCast] at this
  rw [this]
  dsimp only
  have h3:=manyL_of (P:=goG) goneS_of m.gone [] [] fun x hx=>by have:=n3 x hx;unfold goG;omega
  rw [List.append_nil] at h3
  rw [Int.toNat_natCast,h3]
  simp
 exact ⟨by unfold decM;rw [e1,e2,e3],by rw [e3]⟩
theorem decR_of {m:RMap} (h:validR m=true):decR (codeR m)=(m,0):=by
 obtain ⟨h1,h2⟩:=dec_of h
 unfold decR
 rw [h1,h2,if_pos ⟨rfl,h⟩]
end Go.Proofs.YtobjdpngnfbicaaGreatDoor

namespace Go.Proofs.YtobjdpngnfbicaaGreatDoor
open Go.RowKit
theorem ret_int {k:IntKind} {a b:Int} (h:a=b):Ending.returned (.int k a)=.returned (.int k b):=by rw [h]
theorem ret_bool {a b:Bool} (h:a=b):Ending.returned (.bool a)=.returned (.bool b):=by rw [h]
def OneAt (w:World) (b:Nat) (v:Value) (t:TypeId):Prop:=w.heap[b]?=some (.cells #[v] t (0,0))
theorem OneAt.cell {w:World} {b:Nat} {v:Value} {t:TypeId} (h:OneAt w b v t):w.cell? ⟨b,0,none⟩=some v:=cell_of_one h
theorem OneAt.free {w:World} {b:Nat} {v:Value} {t:TypeId} (h:OneAt w b v t):w.frozen? ⟨b,0,none⟩=false:=free_of_one h
theorem OneAt.lt {w:World} {b:Nat} {v:Value} {t:TypeId} (h:OneAt w b v t):b < w.heap.size:=lt_of_block h
theorem OneAt.set {w:World} {b:Nat} {v u:Value} {t:TypeId} (h:OneAt w b v t):OneAt (w.setCell ⟨b,0,none⟩ u) b u t:=one_setCell h
theorem OneAt.other {w:World} {b:Nat} {v:Value} {t:TypeId} (h:OneAt w b v t) {a:Addr} (u:Value) (hne:b≠a.block):OneAt (w.setCell a u) b v t:=by
 unfold OneAt;rw [Below.heap_setCell _ _ _ _ hne];exact h
theorem OneAt.alloc {w:World} {b:Nat} {v:Value} {t:TypeId} (h:OneAt w b v t) (o:Obj):OneAt (w.alloc o) b v t:=by
 unfold OneAt;rw [Below.heap_alloc _ _ _ h.lt];exact h
theorem OneAt.new (w:World) (v:Value) (t:TypeId):OneAt (w.alloc (.cells #[v] t)) w.heap.size v t:=by
 unfold OneAt World.alloc;simp
theorem OneAt.below {w w':World} {b:Nat} {v:Value} {t:TypeId} {B:Nat} (h:OneAt w b v t) (hb:Below B w w') (hlt:b < B):OneAt w' b v t:=by
 unfold OneAt;rw [hb.block b hlt];exact h
theorem kept_trans {a b c:World} (h:Below a.heap.size a b) (k:Below b.heap.size b c):Below a.heap.size a c:=h.trans (k.mono h.size)
theorem kept_alloc (w:World) (o:Obj):Below w.heap.size w (w.alloc o):=(Below.refl _ _).alloc (Nat.le_refl _) o
theorem kept_drewN {a w:World} {B:Nat} (h:Below B a w) (n:Nat):Below B a (w.drewN n):=by
 exact ⟨h.os,h.tape,h.output,h.size,h.block⟩
end Go.Proofs.YtobjdpngnfbicaaGreatDoor

namespace Go.Proofs.YtobjdpngnfbicaaGreatDoor
open Go.RowKit
set_option linter.unusedVariables false
set_option maxRecDepth 20000
abbrev Blks:=Nat→Prop
structure Only (F:Blks) (w w':World):Prop where
 os:w'.os=w.os
 tape:w'.tape=w.tape
 output:w'.output=w.output
 size:w.heap.size≤w'.heap.size
 block:∀ k,k < w.heap.size→¬ F k→w'.heap[k]?=w.heap[k]?
theorem Only.refl (F:Blks) (w:World):Only F w w:=⟨rfl,rfl,rfl,Nat.le_refl _,fun _ _ _=>rfl⟩
theorem Only.trans {F G:Blks} {a b c:World} (h:Only F a b) (k:Only G b c) (hg:∀ i,G i→F i∨a.heap.size≤i):Only F a c:=
 ⟨k.os.trans h.os,k.tape.trans h.tape,k.output.trans h.output,Nat.le_trans h.size k.size,fun i hi hf=>
  (k.block i (Nat.lt_of_lt_of_le hi h.size) (fun hgi=>(hg i hgi).elim hf (fun hle=>absurd hi (Nat.not_lt.2 hle)))).trans (h.block i hi hf)⟩
theorem Only.mono {F G:Blks} {a b:World} (h:Only F a b) (hg:∀ i,F i→G i):Only G a b:=
 ⟨h.os,h.tape,h.output,h.size,fun i hi hf=>h.block i hi (fun hx=>hf (hg i hx))⟩
theorem Only.of_below {F:Blks} {w w':World} (h:Below w.heap.size w w'):Only F w w':=⟨h.os,h.tape,h.output,h.size,fun i hi _=>h.block i hi⟩
theorem Only.below {F:Blks} {w w':World} {B:Nat} (h:Only F w w') (hF:∀ i,F i→B≤i) (hB:B≤w.heap.size):Below B w w':=
 ⟨h.os,h.tape,h.output,h.size,fun i hi=>h.block i (by omega) (fun hf=>by have:=hF i hf;omega)⟩
abbrev none_:Blks:=fun _=>False
theorem Only.kept {w w':World} (h:Only none_ w w'):Below w.heap.size w w':=h.below (fun _ hf=>hf.elim) (Nat.le_refl _)
theorem Only.drewN {F:Blks} {a w:World} (h:Only F a w) (n:Nat):Only F a (w.drewN n):=⟨h.os,h.tape,h.output,h.size,h.block⟩
theorem Only.drew {F:Blks} {a w:World} (h:Only F a w):Only F a w.drew:=⟨h.os,h.tape,h.output,h.size,h.block⟩
theorem Only.alloc {F:Blks} {a w:World} (h:Only F a w) (o:Obj):Only F a (w.alloc o):=
 ⟨h.os,h.tape,h.output,Nat.le_trans h.size (by simp),fun i hi hf=>(Below.heap_alloc w o i (Nat.lt_of_lt_of_le hi h.size)).trans (h.block i hi hf)⟩
theorem Only.setCell {F:Blks} {a w:World} (h:Only F a w) {p:Addr} (hp:F p.block∨a.heap.size≤p.block) (u:Value):Only F a (w.setCell p u):=
 ⟨h.os,h.tape,h.output,by simpa [World.setCell] using h.size,fun i hi hf=>(Below.heap_setCell w p u i (by
  rintro rfl
  rcases hp with hp | hp
  · exact hf hp
  · omega)).trans (h.block i hi hf)⟩
theorem Only.setRow {F:Blks} {a w:World} (h:Only F a w) {g:Nat} (hp:F g∨a.heap.size≤g) (cs:Array Value):Only F a (w.setRow g cs):=
 ⟨h.os,h.tape,h.output,by simpa [World.setRow] using h.size,fun i hi hf=>(setRow_other w g i cs (by
  rintro rfl
  rcases hp with hp | hp
  · exact hf hp
  · omega)).trans (h.block i hi hf)⟩
def Blk (w:World) (b:Nat) (L:List Value) (t:TypeId):Prop:=w.heap[b]?=some (.cells L.toArray t (0,0))
theorem Blk.lt {w:World} {b:Nat} {L:List Value} {t:TypeId} (h:Blk w b L t):b < w.heap.size:=lt_of_block h
theorem Blk.cell {w:World} {b:Nat} {L:List Value} {t:TypeId} (h:Blk w b L t) (i:Nat):w.cell? ⟨b,i,none⟩=L[i]?:=by
 rw [cell_of_row w b i _ t (0,0) h];simp
theorem Blk.free {w:World} {b:Nat} {L:List Value} {t:TypeId} (h:Blk w b L t) (i:Nat):w.frozen? ⟨b,i,none⟩=false:=frozen_of_row w b i _ t h
theorem Blk.keep {w w':World} {b:Nat} {L:List Value} {t:TypeId} (h:Blk w b L t) (he:w'.heap[b]?=w.heap[b]?):Blk w' b L t:=he.trans h
theorem Blk.only {F:Blks} {w w':World} {b:Nat} {L:List Value} {t:TypeId} (h:Blk w b L t) (ho:Only F w w') (hf:¬ F b):Blk w' b L t:=h.keep (ho.block b h.lt hf)
theorem Blk.alloc {w:World} {b:Nat} {L:List Value} {t:TypeId} (h:Blk w b L t) (o:Obj):Blk (w.alloc o) b L t:=h.keep (Below.heap_alloc w o b h.lt)
theorem Blk.new (w:World) (cs:Array Value) (t:TypeId):Blk (w.alloc (.cells cs t)) w.heap.size cs.toList t:=by
 unfold Blk World.alloc;simp
theorem Blk.set {w:World} {b:Nat} {L:List Value} {t:TypeId} (h:Blk w b L t) (i:Nat) (u:Value):Blk (w.setCell ⟨b,i,none⟩ u) b (L.set i u) t:=by
 unfold Blk;rw [heap_setCell_same w b i _ t u h];simp
theorem Blk.set_other {w:World} {b:Nat} {L:List Value} {t:TypeId} (h:Blk w b L t) {a:Addr} (u:Value) (hne:b≠a.block):Blk (w.setCell a u) b L t:=
 h.keep (Below.heap_setCell _ _ _ _ hne)
theorem Blk.row {w:World} {b:Nat} {L:List Value} {t:TypeId} (h:Blk w b L t) (M:List Value):Blk (w.setRow b M.toArray) b M t:=setRow_heap w b _ _ t _ h
theorem Blk.row_other {w:World} {b g:Nat} {L:List Value} {t:TypeId} (h:Blk w b L t) (cs:Array Value) (hne:b≠g):Blk (w.setRow g cs) b L t:=
 h.keep (setRow_other w g b cs hne)
theorem Blk.inj {w:World} {b:Nat} {L M:List Value} {t u:TypeId} (h:Blk w b L t) (k:Blk w b M u):L=M∧t=u:=by
 unfold Blk at h k
 rw [h] at k
 simp at k
 exact k
theorem Blk.ne {w:World} {b c:Nat} {L M:List Value} {t u:TypeId} (h:Blk w b L t) (k:Blk w c M u) (hne:t≠u):b≠c:=by
 rintro rfl
 exact hne (h.inj k).2
theorem Blk.drewN {w:World} {b:Nat} {L:List Value} {t:TypeId} (h:Blk w b L t) (n:Nat):Blk (w.drewN n) b L t:=h
theorem Blk.drew {w:World} {b:Nat} {L:List Value} {t:TypeId} (h:Blk w b L t):Blk w.drew b L t:=h
def B (b:UInt8):Value:=.int .u8 (b.toNat:Int)
def LV (t:TypeId) (a:Addr):Sem Value:=loadVar t a
def SV (t:TypeId) (a:Addr) (v:Value):Sem Unit:=storeVar t a v
def AP (ts:Array TypeId) (t:TypeId) (args:Array Value):Sem Value:=Builtin.append_ ts t args
theorem seal_append (ts:Array TypeId) (t:TypeId) (args:Array Value):Builtin.append_ ts t args=AP ts t args:=rfl
def MK (t:TypeId) (l c:Value):Sem Value:=Instr.makeSlice t l c
theorem seal_make (t:TypeId) (l c:Value):Instr.makeSlice t l c=MK t l c:=rfl
section
variable {P:Program}
theorem run_LV {w:World} {ty:TypeId} {n:Nat} {d:TypeDesc} (hu:P.underlying ty=some d) (hd:(match d with | .struct _ | .array _ _=>true | _=>false)=true)
 (hi:(P.info? ty).map (·.size)=some n) {b off:Nat} {L:List Value} {t:TypeId} {fz:Nat × Nat} (hg:w.heap[b]?=some (.cells L.toArray t fz)) (hle:off+n≤L.length):
 (LV ty ⟨b,off,none⟩).run P w=.ok (.agg ((L.drop off).take n).toArray) w:=by
 have hlen:((L.drop off).take n).length=n:=by simp;omega
 have hl:=run_loadCells_list (P:=P) w ⟨b,off,none⟩ ((L.drop off).take n) (fun j v hv=>by
  rw [Addr.add_lit,cell_of_row w b (off+j) _ t fz hg]
  rw [List.getElem?_take] at hv
  split at hv
  · simpa using hv
  · cases hv)
 rw [hlen] at hl
 cases hq:P.info? ty with
 | none=>simp [hq] at hi
 | some i=>
   have hs:i.size=n:=by simpa [hq] using hi
   have hagg:(isAgg ty).run P w=.ok true w:=by
    unfold isAgg
    rw [Sem.run_bind,run_underlying hu w]
    cases d <;> simp_all
   simp [LV,loadVar,Sem.run_bind,hagg,sizeOf,typeInfo,hq,hs,hl]
theorem run_SV {w:World} {ty:TypeId} {n:Nat} (hi:(P.info? ty).map (·.size)=some n)
 {b off:Nat} {L V:List Value} {t:TypeId} (hg:Blk w b L t) (hV:V.length=n) (hle:off+n≤L.length) (h1:∀ v ∈ V,v.oneCell'=true):
 (SV ty ⟨b,off,none⟩ (.agg V.toArray)).run P w=.ok () (w.setRow b (L.take off ++ V ++ L.drop (off+n)).toArray):=by
 subst hV
 have hst:=run_storeCells_at P b off t V 0 L.toArray w hg (by simpa using hle) h1
 simp only [Nat.add_zero] at hst
 cases hq:P.info? ty with
 | none=>simp [hq] at hi
 | some i=>
   have hs:i.size=V.length:=by simpa [hq] using hi
   simp [SV,storeVar,sizeOf,typeInfo,hq,hs,Value.cells,hst]
end
theorem oneCell_B (l:List UInt8):∀ v ∈ l.map B,v.oneCell'=true:=by
 intro v hv
 obtain ⟨b,_,rfl⟩:=List.mem_map.1 hv
 rfl
def Bytes (F:Blks) (w:World) (v:Value) (l:List UInt8):Prop:=
 ∃ a cap,v=.slice a l.length cap∧l.length≤cap∧cap≤maxLen∧(a=none→cap=0) ∧
   (l = []∨∃ b off L t fz,a=some ⟨b,off,none⟩∧F b∧w.heap[b]?=some (.cells L t fz)∧off+l.length≤L.size∧∀ i (h:i < l.length),L[off+i]?=some (B l[i]))
theorem Bytes.keep {F:Blks} {w w':World} {v:Value} {l:List UInt8} (h:Bytes F w v l) (hk:∀ b,F b→b < w.heap.size→w'.heap[b]?=w.heap[b]?):Bytes F w' v l:=by
 obtain ⟨a,cap,rfl,hc,hm,hz,h⟩:=h
 refine ⟨a,cap,rfl,hc,hm,hz,?_⟩
 rcases h with h | ⟨b,off,L,t,fz,rfl,hF,hb,hl,hr⟩
 · exact .inl h
 · exact .inr ⟨b,off,L,t,fz,rfl,hF,(hk b hF (lt_of_block hb)).trans hb,hl,hr⟩
theorem Bytes.only {F G:Blks} {w w':World} {v:Value} {l:List UInt8} (h:Bytes F w v l) (ho:Only G w w') (hd:∀ b,F b→¬ G b):Bytes F w' v l:=
 h.keep fun b hb hlt=>ho.block b hlt (hd b hb)
theorem Bytes.mono {F G:Blks} {w:World} {v:Value} {l:List UInt8} (h:Bytes F w v l) (hg:∀ b,F b→G b):Bytes G w v l:=by
 obtain ⟨a,cap,rfl,hc,hm,hz,h⟩:=h
 refine ⟨a,cap,rfl,hc,hm,hz,?_⟩
 rcases h with h | ⟨b,off,L,t,fz,rfl,hF,hb,hl,hr⟩
 · exact .inl h
 · exact .inr ⟨b,off,L,t,fz,rfl,hg b hF,hb,hl,hr⟩
theorem Bytes.cells {F:Blks} {w:World} {a:Option Addr} {n cap:Nat} {l:List UInt8} (h:Bytes F w (.slice a n cap) l):n=l.length∧l.length≤cap∧cap≤maxLen ∧
 (l = []∨∃ b off,a=some ⟨b,off,none⟩∧F b∧b < w.heap.size∧∀ i (h:i < l.length),w.cell? ⟨b,off+i,none⟩=some (B l[i])):=by
 obtain ⟨a',cap',hv,hc,hm,hz,h⟩:=h
 simp at hv
 obtain ⟨rfl,rfl,rfl⟩:=hv
 refine ⟨rfl,hc,hm,?_⟩
 rcases h with h | ⟨b,off,L,t,fz,rfl,hF,hb,hl,hr⟩
 · exact .inl h
 · refine .inr ⟨b,off,rfl,hF,lt_of_block hb,fun i hi=>?_⟩
   rw [cell_of_row w b (off+i) L t fz hb]
   exact hr i hi
theorem Bytes.of_owns {w:World} {base:Nat} {e:TypeId} {v:Value} {l:List UInt8} (h:w.ownsRow base e 1 v l.length (l.map B)) (F:Blks) (hF:∀ k,base≤k→k < w.heap.size→F k):Bytes F w v l:=by
 obtain ⟨h1,h2⟩:=h
 rcases h2 with ⟨rfl,h2⟩ | ⟨g,cap,cur,rfl,hb,hg,hc,hm,hs,ht⟩
 · have hl:=List.length_eq_zero_iff.1 h2
   exact ⟨none,0,by rw [h2],by omega,by unfold maxLen;omega,fun _=>rfl,.inl hl⟩
 · refine ⟨_,cap,rfl,hc,hm,nofun,.inr ⟨g,0,cur,e,(0,0),rfl,hF g hb (lt_of_block hg),hg,by omega,fun i hi=>?_⟩⟩
   have:(cur.toList.take (l.length * 1))[i]?=(l.map B)[i]?:=by rw [ht]
   rw [List.getElem?_take,if_pos (by omega)] at this
   simpa [List.getElem?_eq_getElem hi] using this
end Go.Proofs.YtobjdpngnfbicaaGreatDoor
