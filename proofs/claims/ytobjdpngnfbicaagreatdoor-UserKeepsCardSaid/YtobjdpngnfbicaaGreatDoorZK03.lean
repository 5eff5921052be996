/-
  RDec Kit Mem RMem Clone
-/
import Derived.Test.YtobjdpngnfbicaaGreatDoorZK02
import Derived.WalkKit
import Derived.ProofKit
import Derived.Lib.Hide
import Derived.Deep.QuietTactic
import Derived.BigQuiet
import Derived.Laws.CopyOwn
import Derived.Sort.EncStr
import Derived.Test.YtobjdpngnfbicaaGreatDoorChecked
import Derived.WalkSpells
open Go.Lib renaming hid->ae
open Nat renaming le_refl->aq,le_trans->au,lt_of_lt_of_le->aw
open List renaming length_append->ax,append_assoc->az,length_cons->aB
open Go.Proofs.Tryz renaming prog->aC
namespace Go.Proofs.YtobjdpngnfbicaaGreatDoor
set_option linter.unusedVariables false
set_option maxRecDepth 20000
def rdF:List UInt8 -> Nat -> Option (Nat × List UInt8)
 | [],_=>none
 | c :: r,f=>if (f=0 /\ 1 < c.toNat) \/ (f < 9 /\ c.toNat=0) then none else if c.toNat < 128 then some (c.toNat,r) else (rdF r (f - 1)).map fun p=>(c.toNat % 128+128 * p.1,p.2)
theorem pM (f:Nat):rdF [] f=none:=rfl
theorem pN {c:UInt8} {r:List UInt8} {f:Nat} (h:(f=0 /\ 1 < c.toNat) \/ (f < 9 /\ c.toNat=0)):rdF (c :: r) f=none:=by rw[rdF,if_pos h]
theorem pO {c:UInt8} {r:List UInt8} {f:Nat} (h:¬ ((f=0 /\ 1 < c.toNat) \/ (f < 9 /\ c.toNat=0))) (h2:c.toNat < 128):rdF (c :: r) f=some (c.toNat,r):=by rw[rdF,if_neg h,if_pos h2]
theorem qZ {c:UInt8} {r:List UInt8} {f:Nat} (h:¬ ((f=0 /\ 1 < c.toNat) \/ (f < 9 /\ c.toNat=0))) (h2:¬ c.toNat < 128):rdF (c :: r) f=(rdF r (f - 1)).map fun p=>(c.toNat % 128+128 * p.1,p.2):=by rw[rdF,if_neg h,if_neg h2]
theorem dQ (n:Nat) (h:n < 256):(UInt8.ofNat n).toNat=n:=by rw[UInt8.toNat_ofNat'];omega
theorem lX:∀ (b:List UInt8) (f n:Nat) (r:List UInt8),f <= 9 -> (rdF b f=some (n,r)↔b=uvarF (f+1) n ++ r /\ n < 2 * 128 ^ f /\ (f < 9 -> n≠0))
 | [],f,n,r,hf=>by
   rw[pM];refine⟨nofun,fun h=>?_⟩;have h1:=congrArg List.length h.1;have:0 < (uvarF (f+1) n).length:=by unfold uvarF;split <;> simp
   rw[ax] at h1;simp at h1;omega
 | c :: t,f,n,r,hf=>by
   have hc:=c.toNat_lt
   by_cases hA:(f=0 /\ 1 < c.toNat) \/ (f < 9 /\ c.toNat=0)
   ·rw[pN hA];refine⟨nofun,fun h=>?_⟩;exfalso;obtain⟨h1,h2,h3⟩:=h;unfold uvarF at h1
    by_cases hn:n < 128
    ·rw[if_pos hn] at h1;have e:=congrArg UInt8.toNat (List.cons.inj h1).1;rw[dQ n (by omega)] at e;rcases hA with ⟨rfl,hA⟩ | ⟨hA,hB⟩
     ·simp at h2;omega
     ·exact h3 hA (by omega)
    ·rw[if_neg hn] at h1;have e:=congrArg UInt8.toNat (List.cons.inj h1).1;rw[dQ _ (by omega)] at e;rcases hA with ⟨rfl,hA⟩ | ⟨hA,hB⟩
     ·simp at h2;omega
     ·omega
   by_cases hB:c.toNat < 128
   ·rw[pO hA hB];constructor
    ·intro h;obtain⟨rfl,rfl⟩:=Prod.mk.inj (Option.some.inj h);refine⟨?_,?_,fun hf9 h0=>hA (.inr ⟨hf9,h0⟩)⟩
     ·unfold uvarF;rw[if_pos hB];simp
     ·cases f with
      | zero=>simp;omega
      | succ f=>have:0 < 128 ^ f:=Nat.pow_pos (by omega);rw[Nat.pow_succ];omega
    ·rintro⟨h1,h2,h3⟩;unfold uvarF at h1
     by_cases hn:n < 128
     ·rw[if_pos hn] at h1;obtain⟨e1,e2⟩:=List.cons.inj h1;have e:=congrArg UInt8.toNat e1;rw[dQ n (by omega)] at e;rw[e];simp at e2;rw[e2]
     ·rw[if_neg hn] at h1;have e:=congrArg UInt8.toNat (List.cons.inj h1).1;rw[dQ _ (by omega)] at e;omega
   ·rw[qZ hA hB];cases f with
    | zero=>exact absurd (.inl ⟨rfl,by omega⟩) hA
    | succ f=>
      rw[Option.map_eq_some_iff,Nat.add_sub_cancel];constructor
      ·rintro⟨⟨n',r'⟩,h,e⟩;obtain⟨rfl,rfl⟩:=Prod.mk.inj e;obtain⟨h1,h2,h3⟩:=(lX t f n' r' (by omega)).1 h;have h0:n'≠0:=h3 (by omega);dsimp only;refine⟨?_,by rw[Nat.pow_succ];omega,fun _=>by omega⟩;rw[uvarF,if_neg (by omega),show (c.toNat % 128+128 * n') / 128=n' by omega,show (c.toNat % 128+128 * n') % 128+128=c.toNat by omega,h1];simp
      ·rintro⟨h1,h2,h3⟩;rw[uvarF] at h1
       by_cases hn:n < 128
       ·rw[if_pos hn] at h1;have e:=congrArg UInt8.toNat (List.cons.inj h1).1;rw[dQ n (by omega)] at e;omega
       ·rw[if_neg hn] at h1;obtain⟨e1,e2⟩:=List.cons.inj h1;have e:=congrArg UInt8.toNat e1;rw[dQ _ (by omega)] at e;refine⟨(n / 128,r),(lX t f (n / 128) r (by omega)).2 ⟨e2,by rw[Nat.pow_succ] at h2;omega,fun _=>by omega⟩,?_⟩;exact Prod.ext (by show c.toNat % 128+128 * (n / 128)=n;omega) rfl
theorem fk {b:List UInt8} {n:Nat} {r:List UInt8}:rdF b 9=some (n,r)↔NumAt b n r:=by
 rw[lX b 9 n r (aq _)];unfold NumAt uvar;exact⟨fun h=>⟨by have:=h.2.1;omega,h.1⟩,fun h=>⟨h.2,by have:=h.1;omega,fun h9=>absurd h9 (by omega)⟩⟩
theorem iQ {b:List UInt8} {n:Nat} {r:List UInt8} (h:rdF b 9=some (n,r)):r.length < b.length /\ b.length <= r.length+10 /\ n < 18446744073709551616:=by
 obtain⟨h1,h2⟩:=fk.1 h;have:=congrArg List.length h2;rw[ax] at this;have h3:=uvar_pos n;have h4:=uvar_len n;exact⟨by omega,by omega,h1⟩
/-! a reader: what is still to be read; none: something was wrong -/
abbrev de:=Option (List UInt8)
def cu:de -> Int × de
 | none=>(0,none)
 | some b=>match rdF b 9 with
   | some (n,r)=>if n <= 1099511627776 then ((n:Int),some r) else (0,none)
   | none=>(0,none)
def rdT (b:List UInt8):Option (RKey × List UInt8):=match rdF b 9 with
 | some (n,r)=>if n <= r.length then some (r.take n,r.drop n) else none
 | none=>none
def cz:de -> RKey × de
 | none=>([],none)
 | some b=>match rdT b with
   | some (k,r)=>(k,some r)
   | none=>([],none)
def fW (s:de):RIt × de:=(⟨(cz s).1,(cu (cz s).2).1,(cu (cu (cz s).2).2).1,(cu (cu (cu (cz s).2).2).2).1⟩,(cu (cu (cu (cz s).2).2).2).2)
def eo (s:de):RGo × de:=(⟨(cz s).1,(cu (cz s).2).1,(cu (cu (cz s).2).2).1⟩,(cu (cu (cz s).2).2).2)
def fC:Nat -> List Int × de -> List Int × de
 | 0,p=>p
 | n+1,p=>fC n (p.1 ++ [(cu p.2).1],(cu p.2).2)
def eC {α:Type} (one:de -> α × de):Nat -> List α × de -> List α × de
 | 0,p=>p
 | n+1,p=>if p.2=none then p else eC one n (p.1 ++ [(one p.2).1],(one p.2).2)
def qg (b:List UInt8):List Int × de:=fC 8 ([],some b)
def jN (b:List UInt8):List RIt × de:=eC fW (cu (qg b).2).1.toNat ([],(cu (qg b).2).2)
def gy (b:List UInt8):List RGo × de:=eC eo (cu (jN b).2).1.toNat ([],(cu (jN b).2).2)
def gI (b:List UInt8):RMap:=⟨(qg b).1,(jN b).1,(gy b).1⟩
def dR (b:List UInt8):RMap × Int:=if (gy b).2=some [] /\ validR (gI b)=true then (gI b,0) else (.empty,5)
theorem ie {α:Type} (one:de -> α × de) (n:Nat) (l:List α):eC one n (l,none)=(l,none):=by
 cases n with
 | zero=>rfl
 | succ n=>rw[eC,if_pos rfl]
theorem gz {α:Type} (one:de -> α × de) (n:Nat) (l:List α) (b:List UInt8):eC one (n+1) (l,some b)=eC one n (l ++ [(one (some b)).1],(one (some b)).2):=by rw[eC,if_neg nofun]
/-! what was read -/
theorem qh {s:de} {x:Int} {r:List UInt8} (h:cu s=(x,some r)):s=some (uvar x.toNat ++ r) /\ 0 <= x /\ x <= 1099511627776:=by
 cases s with
 | none=>cases h
 | some b=>
   unfold cu at h;dsimp only at h;split at h
   ·rename_i n r' hr
    by_cases hn:n <= 1099511627776
    ·rw[if_pos hn] at h;obtain⟨rfl,h2⟩:=Prod.mk.inj h;obtain rfl:=Option.some.inj h2;have:=(fk.1 hr).2;exact⟨by rw[this];simp,by omega,by omega⟩
    ·rw[if_neg hn] at h;cases h
   ·cases h
theorem fN (x:Int) (r:List UInt8) (h0:0 <= x) (h1:x <= 1099511627776):cu (some (uvar x.toNat ++ r))=(x,some r):=by
 have h:rdF (uvar x.toNat ++ r) 9=some (x.toNat,r):=fk.2 ⟨by omega,rfl⟩;unfold cu;dsimp only;rw[h];dsimp only;rw[if_pos (by omega),show ((x.toNat:Nat):Int)=x by omega]
theorem eD (s:de):0 <= (cu s).1 /\ (cu s).1 <= 1099511627776:=by
 unfold cu;split
 ·exact⟨by decide,by decide⟩
 ·split
  ·split
   ·exact⟨by simp,by dsimp only;omega⟩
   ·exact⟨by decide,by decide⟩
  ·exact⟨by decide,by decide⟩
theorem oz {s:de} {k:RKey} {r:List UInt8} (h:cz s=(k,some r)):s=some (codeText k ++ r) /\ k.length < 18446744073709551616:=by
 cases s with
 | none=>cases h
 | some b=>
   unfold cz rdT at h;dsimp only at h;split at h
   ·rename_i k' r' hr;obtain⟨rfl,h2⟩:=Prod.mk.inj h;obtain rfl:=Option.some.inj h2;split at hr
    ·rename_i n t ht
     by_cases hn:n <= t.length
     ·rw[if_pos hn] at hr;obtain⟨rfl,rfl⟩:=Prod.mk.inj (Option.some.inj hr);obtain⟨h1,h2⟩:=fk.1 ht;have hl:(t.take n).length=n:=by simp[hn]
      unfold codeText;rw[hl];exact⟨by rw[h2,az,List.take_append_drop],h1⟩
     ·rw[if_neg hn] at hr;cases hr
    ·cases hr
   ·cases h
theorem mT (k:RKey) (r:List UInt8) (hk:k.length < 18446744073709551616):cz (some (codeText k ++ r))=(k,some r):=by
 have h:rdF (codeText k ++ r) 9=some (k.length,k ++ r):=fk.2 ⟨hk,by unfold codeText;rw[az]⟩;unfold cz rdT;dsimp only;rw[h];dsimp only;rw[if_pos (by simp)];simp
def szS:de -> Nat
 | none=>0
 | some r=>r.length+1
theorem ft (s:de):szS (cu s).2 <= szS s /\ ∀ b,s=some b -> szS (cu s).2 < szS s:=by
 cases s with
 | none=>exact⟨aq _,nofun⟩
 | some b=>
   suffices h:szS (cu (some b)).2 < szS (some b) from ⟨Nat.le_of_lt h,fun _ _=>h⟩
   cases h:(cu (some b)).2 with
   | none=>simp[szS]
   | some r=>
     have:=(qh (s:=some b) (x:=(cu (some b)).1) (r:=r) (by rw[<- h])).1;have hl:=congrArg List.length (Option.some.inj this);rw[ax] at hl;have:=uvar_pos (cu (some b)).1.toNat;simp only[szS];omega
theorem mU (s:de):szS (cz s).2 <= szS s /\ (∀ b,s=some b -> szS (cz s).2 < szS s) /\ (cz s).1.length <= szS s:=by
 cases s with
 | none=>exact⟨aq _,nofun,Nat.zero_le _⟩
 | some b=>
   suffices h:szS (cz (some b)).2 < szS (some b) /\ (cz (some b)).1.length <= szS (some b) from ⟨Nat.le_of_lt h.1,fun _ _=>h.1,h.2⟩
   cases h:(cz (some b)).2 with
   | none=>
     refine⟨by simp[szS],?_⟩
     have:(cz (some b)).1 = []:=by
      unfold cz at h ⊢;dsimp only at h ⊢;split at h
      ·cases h
      ·rfl
     rw[this];simp
   | some r=>
     have:=(oz (s:=some b) (k:=(cz (some b)).1) (r:=r) (by rw[<- h])).1;have hl:=congrArg List.length (Option.some.inj this);unfold codeText at hl;rw[ax,ax] at hl;have:=uvar_pos (cz (some b)).1.length;simp only[szS];omega
def ItB (n:Nat) (x:RIt):Prop:=x.key.length <= n /\ (0 <= x.dev /\ x.dev <= 1099511627776) /\ (0 <= x.seq /\ x.seq <= 1099511627776) /\ 0 <= x.val /\ x.val <= 1099511627776
def GoB (n:Nat) (x:RGo):Prop:=x.key.length <= n /\ (0 <= x.dev /\ x.dev <= 1099511627776) /\ 0 <= x.seq /\ x.seq <= 1099511627776
theorem q7 (b:List UInt8):szS (fW (some b)).2 < szS (some b) /\ ItB (szS (some b)) (fW (some b)).1:=by
 have h1:=mU (some b);have h2:=ft (cz (some b)).2;have h3:=ft (cu (cz (some b)).2).2;have h4:=ft (cu (cu (cz (some b)).2).2).2;have:=h1.2.1 b rfl;exact⟨by unfold fW;dsimp only;omega,h1.2.2,eD _,eD _,eD _⟩
theorem mV (b:List UInt8):szS (eo (some b)).2 < szS (some b) /\ GoB (szS (some b)) (eo (some b)).1:=by
 have h1:=mU (some b);have h2:=ft (cz (some b)).2;have h3:=ft (cu (cz (some b)).2).2;have:=h1.2.1 b rfl;exact⟨by unfold eo;dsimp only;omega,h1.2.2,eD _,eD _⟩
/-! a code that was read to its end is the code of what was read -/
/-! the code of a valid map is read -/
theorem mW:∀ (k l:List Int) (r:List UInt8),(∀ n ∈ k,0 <= n /\ n <= 1099511627776) -> fC k.length (l,some (k.flatMap (fun n=>uvar n.toNat) ++ r))=(l ++ k,some r)
 | [],l,r,_=>by simp[fC]
 | x :: k,l,r,h=>by
   have hx:=h x List.mem_cons_self;rw[aB,fC];dsimp only;rw[List.flatMap_cons,az,fN x _ hx.1 hx.2];dsimp only;rw[mW k _ r fun y hy=>h y (List.mem_cons_of_mem _ hy)];simp
theorem jO {α:Type} {one:de -> α × de} {code:α -> List UInt8} {P:α -> Prop} (ho:∀ x r,P x -> one (some (code x ++ r))=(x,some r)):∀ (k l:List α) (r:List UInt8),(∀ x ∈ k,P x) -> eC one k.length (l,some (k.flatMap code ++ r))=(l ++ k,some r)
 | [],l,r,_=>by simp[eC]
 | x :: k,l,r,h=>by
   rw[aB,gz,List.flatMap_cons,az,ho x _ (h x List.mem_cons_self)];dsimp only;rw[jO ho k _ r fun y hy=>h y (List.mem_cons_of_mem _ hy)];simp
def itG (x:RIt):Prop:=x.key.length < 18446744073709551616 /\ (0 <= x.dev /\ x.dev <= 1099511627776) /\ (0 <= x.seq /\ x.seq <= 1099511627776) /\ 0 <= x.val /\ x.val <= 1099511627776
def goG (x:RGo):Prop:=x.key.length < 18446744073709551616 /\ (0 <= x.dev /\ x.dev <= 1099511627776) /\ 0 <= x.seq /\ x.seq <= 1099511627776
theorem rb (x:RIt) (r:List UInt8) (h:itG x):fW (some (codeIt x ++ r))=(x,some r):=by
 obtain⟨h1,h2,h3,h4⟩:=h;unfold fW codeIt;simp only[az];rw[mT _ _ h1];dsimp only;rw[fN _ _ h2.1 h2.2];dsimp only;rw[fN _ _ h3.1 h3.2];dsimp only;rw[fN _ _ h4.1 h4.2]
theorem re (x:RGo) (r:List UInt8) (h:goG x):eo (some (codeGo x ++ r))=(x,some r):=by
 obtain⟨h1,h2,h3⟩:=h;unfold eo codeGo;simp only[az];rw[mT _ _ h1];dsimp only;rw[fN _ _ h2.1 h2.2];dsimp only;rw[fN _ _ h3.1 h3.2]
theorem ti {m:RMap} (h:validR m=true):gI (codeR m)=m /\ (gy (codeR m)).2=some []:=by
 obtain⟨n1,n2,n3⟩:=valid_nums h;obtain⟨l1,l2,l3,-⟩:=valid_lens h
 have e1:qg (codeR m)=(m.seen,some (uvar m.items.length ++ (m.items.flatMap codeIt ++ (uvar m.gone.length ++ m.gone.flatMap codeGo)))):=by
  unfold qg codeR;rw[<- l1,mW _ _ _ n1];simp
 have e2:jN (codeR m)=(m.items,some (uvar m.gone.length ++ m.gone.flatMap codeGo)):=by
  unfold jN;rw[e1];dsimp only;have:=fN (m.items.length:Int) (m.items.flatMap codeIt ++ (uvar m.gone.length ++ m.gone.flatMap codeGo)) (by omega) (by omega);rw[Int.toNat_natCast] at this;rw[this];dsimp only;rw[Int.toNat_natCast,jO (P:=itG) rb _ _ _ fun x hx=>by have:=n2 x hx;unfold itG;omega];simp
 have e3:gy (codeR m)=(m.gone,some []):=by
  unfold gy;rw[e2];dsimp only;have:=fN (m.gone.length:Int) (m.gone.flatMap codeGo) (by omega) (by omega);rw[Int.toNat_natCast] at this;rw[this];dsimp only;have h3:=jO (P:=goG) re m.gone [] [] fun x hx=>by have:=n3 x hx;unfold goG;omega
  rw[List.append_nil] at h3;rw[Int.toNat_natCast,h3];simp
 exact⟨by unfold gI;rw[e1,e2,e3],by rw[e3]⟩
theorem jJ {m:RMap} (h:validR m=true):dR (codeR m)=(m,0):=by
 obtain⟨h1,h2⟩:=ti h;unfold dR;rw[h1,h2,if_pos ⟨rfl,h⟩]
end Go.Proofs.YtobjdpngnfbicaaGreatDoor
namespace Go.Proofs.YtobjdpngnfbicaaGreatDoor
open Go.RowKit
set_option linter.unusedVariables false
set_option maxRecDepth 20000
theorem eY {k:IntKind} {a b:Int} (h:a=b):Ending.returned (.int k a)=.returned (.int k b):=by rw[h]
theorem ix {a b:Bool} (h:a=b):Ending.returned (.bool a)=.returned (.bool b):=by rw[h]
def cX (w:World) (b:Nat) (v:Value) (t:TypeId):Prop:=w.heap[b]?=some (.cells #[v] t (0,0))
theorem cX.cell {w:World} {b:Nat} {v:Value} {t:TypeId} (h:cX w b v t):w.cell? ⟨b,0,none⟩=some v:=cell_of_one h
theorem cX.free {w:World} {b:Nat} {v:Value} {t:TypeId} (h:cX w b v t):w.frozen? ⟨b,0,none⟩=false:=free_of_one h
theorem cX.lt {w:World} {b:Nat} {v:Value} {t:TypeId} (h:cX w b v t):b < w.heap.size:=lt_of_block h
theorem cX.set {w:World} {b:Nat} {v u:Value} {t:TypeId} (h:cX w b v t):cX (w.setCell ⟨b,0,none⟩ u) b u t:=one_setCell h
theorem cX.other {w:World} {b:Nat} {v:Value} {t:TypeId} (h:cX w b v t) {a:Addr} (u:Value) (hne:b≠a.block):cX (w.setCell a u) b v t:=by
 unfold cX;rw[Below.heap_setCell _ _ _ _ hne];exact h
theorem cX.alloc {w:World} {b:Nat} {v:Value} {t:TypeId} (h:cX w b v t) (o:Obj):cX (w.alloc o) b v t:=by
 unfold cX;rw[Below.heap_alloc _ _ _ h.lt];exact h
theorem cX.new (w:World) (v:Value) (t:TypeId):cX (w.alloc (.cells #[v] t)) w.heap.size v t:=by
 unfold cX World.alloc;simp
theorem cX.below {w w':World} {b:Nat} {v:Value} {t:TypeId} {B:Nat} (h:cX w b v t) (hb:Below B w w') (hlt:b < B):cX w' b v t:=by
 unfold cX;rw[hb.block b hlt];exact h
theorem cA {a b c:World} (h:Below a.heap.size a b) (k:Below b.heap.size b c):Below a.heap.size a c:=h.trans (k.mono h.size)
theorem aE (w:World) (o:Obj):Below w.heap.size w (w.alloc o):=(Below.refl _ _).alloc (aq _) o
theorem bV {a w:World} {B:Nat} (h:Below B a w) (n:Nat):Below B a (w.drewN n):=by
 exact⟨h.os,h.tape,h.output,h.size,h.block⟩
section
abbrev aV:=Nat -> Prop
structure aK (F:aV) (w w':World):Prop where
 os:w'.os=w.os
 tape:w'.tape=w.tape
 output:w'.output=w.output
 size:w.heap.size <= w'.heap.size
 block:∀ k,k < w.heap.size -> ¬ F k -> w'.heap[k]?=w.heap[k]?
theorem aK.refl (F:aV) (w:World):aK F w w:=⟨rfl,rfl,rfl,aq _,fun _ _ _=>rfl⟩
theorem aK.trans {F G:aV} {a b c:World} (h:aK F a b) (k:aK G b c) (hg:∀ i,G i -> F i \/ a.heap.size <= i):aK F a c:=
 ⟨k.os.trans h.os,k.tape.trans h.tape,k.output.trans h.output,au h.size k.size,fun i hi hf=>
  (k.block i (aw hi h.size) (fun hgi=>(hg i hgi).elim hf (fun hle=>absurd hi (Nat.not_lt.2 hle)))).trans (h.block i hi hf)⟩
theorem aK.mono {F G:aV} {a b:World} (h:aK F a b) (hg:∀ i,F i -> G i):aK G a b:=
 ⟨h.os,h.tape,h.output,h.size,fun i hi hf=>h.block i hi (fun hx=>hf (hg i hx))⟩
theorem aK.of_below {F:aV} {w w':World} (h:Below w.heap.size w w'):aK F w w':=⟨h.os,h.tape,h.output,h.size,fun i hi _=>h.block i hi⟩
theorem aK.below {F:aV} {w w':World} {B:Nat} (h:aK F w w') (hF:∀ i,F i -> B <= i) (hB:B <= w.heap.size):Below B w w':=
 ⟨h.os,h.tape,h.output,h.size,fun i hi=>h.block i (by omega) (fun hf=>by have:=hF i hf;omega)⟩
abbrev none_:aV:=fun _=>False
theorem aK.kept {w w':World} (h:aK none_ w w'):Below w.heap.size w w':=h.below (fun _ hf=>hf.elim) (aq _)
theorem aK.drewN {F:aV} {a w:World} (h:aK F a w) (n:Nat):aK F a (w.drewN n):=⟨h.os,h.tape,h.output,h.size,h.block⟩
theorem aK.drew {F:aV} {a w:World} (h:aK F a w):aK F a w.drew:=⟨h.os,h.tape,h.output,h.size,h.block⟩
theorem aK.alloc {F:aV} {a w:World} (h:aK F a w) (o:Obj):aK F a (w.alloc o):=
 ⟨h.os,h.tape,h.output,au h.size (by simp),fun i hi hf=>(Below.heap_alloc w o i (aw hi h.size)).trans (h.block i hi hf)⟩
theorem aK.setCell {F:aV} {a w:World} (h:aK F a w) {p:Addr} (hp:F p.block \/ a.heap.size <= p.block) (u:Value):aK F a (w.setCell p u):=
 ⟨h.os,h.tape,h.output,by simpa[World.setCell] using h.size,fun i hi hf=>(Below.heap_setCell w p u i (by
  rintro rfl;rcases hp with hp | hp
  ·exact hf hp
  ·omega)).trans (h.block i hi hf)⟩
theorem aK.setRow {F:aV} {a w:World} (h:aK F a w) {g:Nat} (hp:F g \/ a.heap.size <= g) (cs:Array Value):aK F a (w.setRow g cs):=
 ⟨h.os,h.tape,h.output,by simpa[World.setRow] using h.size,fun i hi hf=>(setRow_other w g i cs (by
  rintro rfl;rcases hp with hp | hp
  ·exact hf hp
  ·omega)).trans (h.block i hi hf)⟩
def Blk (w:World) (b:Nat) (L:List Value) (t:TypeId):Prop:=w.heap[b]?=some (.cells L.toArray t (0,0))
theorem Blk.lt {w:World} {b:Nat} {L:List Value} {t:TypeId} (h:Blk w b L t):b < w.heap.size:=lt_of_block h
theorem Blk.cell {w:World} {b:Nat} {L:List Value} {t:TypeId} (h:Blk w b L t) (i:Nat):w.cell? ⟨b,i,none⟩=L[i]?:=by
 rw[cell_of_row w b i _ t (0,0) h];simp
theorem Blk.free {w:World} {b:Nat} {L:List Value} {t:TypeId} (h:Blk w b L t) (i:Nat):w.frozen? ⟨b,i,none⟩=false:=frozen_of_row w b i _ t h
theorem Blk.keep {w w':World} {b:Nat} {L:List Value} {t:TypeId} (h:Blk w b L t) (he:w'.heap[b]?=w.heap[b]?):Blk w' b L t:=he.trans h
theorem Blk.only {F:aV} {w w':World} {b:Nat} {L:List Value} {t:TypeId} (h:Blk w b L t) (ho:aK F w w') (hf:¬ F b):Blk w' b L t:=h.keep (ho.block b h.lt hf)
theorem Blk.alloc {w:World} {b:Nat} {L:List Value} {t:TypeId} (h:Blk w b L t) (o:Obj):Blk (w.alloc o) b L t:=h.keep (Below.heap_alloc w o b h.lt)
theorem Blk.new (w:World) (cs:Array Value) (t:TypeId):Blk (w.alloc (.cells cs t)) w.heap.size cs.toList t:=by
 unfold Blk World.alloc;simp
theorem Blk.set {w:World} {b:Nat} {L:List Value} {t:TypeId} (h:Blk w b L t) (i:Nat) (u:Value):Blk (w.setCell ⟨b,i,none⟩ u) b (L.set i u) t:=by
 unfold Blk;rw[heap_setCell_same w b i _ t u h];simp
theorem Blk.set_other {w:World} {b:Nat} {L:List Value} {t:TypeId} (h:Blk w b L t) {a:Addr} (u:Value) (hne:b≠a.block):Blk (w.setCell a u) b L t:=
 h.keep (Below.heap_setCell _ _ _ _ hne)
theorem Blk.row {w:World} {b:Nat} {L:List Value} {t:TypeId} (h:Blk w b L t) (M:List Value):Blk (w.setRow b M.toArray) b M t:=setRow_heap w b _ _ t _ h
theorem Blk.row_other {w:World} {b g:Nat} {L:List Value} {t:TypeId} (h:Blk w b L t) (cs:Array Value) (hne:b≠g):Blk (w.setRow g cs) b L t:=
 h.keep (setRow_other w g b cs hne)
theorem Blk.inj {w:World} {b:Nat} {L M:List Value} {t u:TypeId} (h:Blk w b L t) (k:Blk w b M u):L=M /\ t=u:=by
 unfold Blk at h k;rw[h] at k;simp at k;exact k
theorem Blk.ne {w:World} {b c:Nat} {L M:List Value} {t u:TypeId} (h:Blk w b L t) (k:Blk w c M u) (hne:t≠u):b≠c:=by
 rintro rfl;exact hne (h.inj k).2
theorem Blk.drewN {w:World} {b:Nat} {L:List Value} {t:TypeId} (h:Blk w b L t) (n:Nat):Blk (w.drewN n) b L t:=h
theorem Blk.drew {w:World} {b:Nat} {L:List Value} {t:TypeId} (h:Blk w b L t):Blk w.drew b L t:=h
def B (b:UInt8):Value:=.int .u8 (b.toNat:Int)
def LV (t:TypeId) (a:Addr):Sem Value:=loadVar t a
def SV (t:TypeId) (a:Addr) (v:Value):Sem Unit:=storeVar t a v
def AP (ts:Array TypeId) (t:TypeId) (args:Array Value):Sem Value:=Builtin.append_ ts t args
theorem bq (ts:Array TypeId) (t:TypeId) (args:Array Value):Builtin.append_ ts t args=AP ts t args:=rfl
def MK (t:TypeId) (l c:Value):Sem Value:=Instr.makeSlice t l c
theorem lq (t:TypeId) (l c:Value):Instr.makeSlice t l c=MK t l c:=rfl
section
variable {P:Program}
theorem rf {w:World} {ty:TypeId} {n:Nat} {d:TypeDesc} (hu:P.underlying ty=some d) (hd:(match d with | .struct _ | .array _ _=>true | _=>false)=true)
 (hi:(P.info? ty).map (·.size)=some n) {b off:Nat} {L:List Value} {t:TypeId} {fz:Nat × Nat} (hg:w.heap[b]?=some (.cells L.toArray t fz)) (hle:off+n <= L.length):
 (LV ty ⟨b,off,none⟩).run P w=.ok (.agg ((L.drop off).take n).toArray) w:=by
 have hlen:((L.drop off).take n).length=n:=by simp;omega
 have hl:=run_loadCells_list (P:=P) w ⟨b,off,none⟩ ((L.drop off).take n) (fun j v hv=>by
  rw[Addr.add_lit,cell_of_row w b (off+j) _ t fz hg];rw[List.getElem?_take] at hv;split at hv
  ·simpa using hv
  ·cases hv)
 rw[hlen] at hl;cases hq:P.info? ty with
 | none=>simp[hq] at hi
 | some i=>
   have hs:i.size=n:=by simpa[hq] using hi
   have hagg:(isAgg ty).run P w=.ok true w:=by
    unfold isAgg;rw[Sem.run_bind,run_underlying hu w];cases d <;> simp_all
   simp[LV,loadVar,Sem.run_bind,hagg,sizeOf,typeInfo,hq,hs,hl]
theorem oA {w:World} {ty:TypeId} {n:Nat} (hi:(P.info? ty).map (·.size)=some n)
 {b off:Nat} {L V:List Value} {t:TypeId} (hg:Blk w b L t) (hV:V.length=n) (hle:off+n <= L.length) (h1:∀ v ∈ V,v.oneCell'=true):
 (SV ty ⟨b,off,none⟩ (.agg V.toArray)).run P w=.ok () (w.setRow b (L.take off ++ V ++ L.drop (off+n)).toArray):=by
 subst hV;have hst:=run_storeCells_at P b off t V 0 L.toArray w hg (by simpa using hle) h1;simp only[Nat.add_zero] at hst;cases hq:P.info? ty with
 | none=>simp[hq] at hi
 | some i=>
   have hs:i.size=V.length:=by simpa[hq] using hi
   simp[SV,storeVar,sizeOf,typeInfo,hq,hs,Value.cells,hst]
end
theorem fy (l:List UInt8):∀ v ∈ l.map B,v.oneCell'=true:=by
 intro v hv;obtain⟨b,_,rfl⟩:=List.mem_map.1 hv;rfl
def Bytes (F:aV) (w:World) (v:Value) (l:List UInt8):Prop:=
 ∃ a cap,v=.slice a l.length cap /\ l.length <= cap /\ cap <= maxLen /\ (a=none -> cap=0) /\
   (l = [] \/ ∃ b off L t fz,a=some ⟨b,off,none⟩ /\ F b /\ w.heap[b]?=some (.cells L t fz) /\ off+l.length <= L.size /\ ∀ i (h:i < l.length),L[off+i]?=some (B l[i]))
theorem Bytes.keep {F:aV} {w w':World} {v:Value} {l:List UInt8} (h:Bytes F w v l) (hk:∀ b,F b -> b < w.heap.size -> w'.heap[b]?=w.heap[b]?):Bytes F w' v l:=by
 obtain⟨a,cap,rfl,hc,hm,hz,h⟩:=h;refine⟨a,cap,rfl,hc,hm,hz,?_⟩;rcases h with h | ⟨b,off,L,t,fz,rfl,hF,hb,hl,hr⟩
 ·exact .inl h
 ·exact .inr ⟨b,off,L,t,fz,rfl,hF,(hk b hF (lt_of_block hb)).trans hb,hl,hr⟩
theorem Bytes.only {F G:aV} {w w':World} {v:Value} {l:List UInt8} (h:Bytes F w v l) (ho:aK G w w') (hd:∀ b,F b -> ¬ G b):Bytes F w' v l:=
 h.keep fun b hb hlt=>ho.block b hlt (hd b hb)
theorem Bytes.mono {F G:aV} {w:World} {v:Value} {l:List UInt8} (h:Bytes F w v l) (hg:∀ b,F b -> G b):Bytes G w v l:=by
 obtain⟨a,cap,rfl,hc,hm,hz,h⟩:=h;refine⟨a,cap,rfl,hc,hm,hz,?_⟩;rcases h with h | ⟨b,off,L,t,fz,rfl,hF,hb,hl,hr⟩
 ·exact .inl h
 ·exact .inr ⟨b,off,L,t,fz,rfl,hg b hF,hb,hl,hr⟩
theorem Bytes.cells {F:aV} {w:World} {a:Option Addr} {n cap:Nat} {l:List UInt8} (h:Bytes F w (.slice a n cap) l):n=l.length /\ l.length <= cap /\ cap <= maxLen /\
 (l = [] \/ ∃ b off,a=some ⟨b,off,none⟩ /\ F b /\ b < w.heap.size /\ ∀ i (h:i < l.length),w.cell? ⟨b,off+i,none⟩=some (B l[i])):=by
 obtain⟨a',cap',hv,hc,hm,hz,h⟩:=h;simp at hv;obtain⟨rfl,rfl,rfl⟩:=hv;refine⟨rfl,hc,hm,?_⟩;rcases h with h | ⟨b,off,L,t,fz,rfl,hF,hb,hl,hr⟩
 ·exact .inl h
 ·refine .inr ⟨b,off,rfl,hF,lt_of_block hb,fun i hi=>?_⟩;rw[cell_of_row w b (off+i) L t fz hb];exact hr i hi
theorem Bytes.of_owns {w:World} {base:Nat} {e:TypeId} {v:Value} {l:List UInt8} (h:w.ownsRow base e 1 v l.length (l.map B)) (F:aV) (hF:∀ k,base <= k -> k < w.heap.size -> F k):Bytes F w v l:=by
 obtain⟨h1,h2⟩:=h;rcases h2 with ⟨rfl,h2⟩ | ⟨g,cap,cur,rfl,hb,hg,hc,hm,hs,ht⟩
 ·have hl:=List.length_eq_zero_iff.1 h2;exact⟨none,0,by rw[h2],by omega,by unfold maxLen;omega,fun _=>rfl,.inl hl⟩
 ·refine⟨_,cap,rfl,hc,hm,nofun,.inr ⟨g,0,cur,e,(0,0),rfl,hF g hb (lt_of_block hg),hg,by omega,fun i hi=>?_⟩⟩;have:(cur.toList.take (l.length * 1))[i]?=(l.map B)[i]?:=by rw[ht]
  rw[List.getElem?_take,if_pos (by omega)] at this;simpa[List.getElem?_eq_getElem hi] using this
end
section
def Rows (F:aV) (w:World) (k:Nat) (v:Value) (n:Nat) (X:List Value):Prop:=
 ∃ a cap,v=.slice a n cap /\ n <= cap /\ cap <= maxLen /\ (a=none -> cap=0) /\ X.length=n * k /\
   (n=0 \/ ∃ b off L t fz,a=some ⟨b,off,none⟩ /\ F b /\ w.heap[b]?=some (.cells L t fz) /\ off+n * k <= L.size /\ ∀ i,i < n * k -> L[off+i]?=X[i]?)
theorem Rows.keep {F:aV} {w w':World} {k n:Nat} {v:Value} {X:List Value} (h:Rows F w k v n X) (hk:∀ b,F b -> b < w.heap.size -> w'.heap[b]?=w.heap[b]?):Rows F w' k v n X:=by
 obtain⟨a,cap,rfl,hc,hm,hz,hX,h⟩:=h;refine⟨a,cap,rfl,hc,hm,hz,hX,?_⟩;rcases h with h | ⟨b,off,L,t,fz,rfl,hF,hb,hl,hr⟩
 ·exact .inl h
 ·exact .inr ⟨b,off,L,t,fz,rfl,hF,(hk b hF (lt_of_block hb)).trans hb,hl,hr⟩
theorem Rows.mono {F G:aV} {w:World} {k n:Nat} {v:Value} {X:List Value} (h:Rows F w k v n X) (hg:∀ b,F b -> b < w.heap.size -> G b):Rows G w k v n X:=by
 obtain⟨a,cap,rfl,hc,hm,hz,hX,h⟩:=h;refine⟨a,cap,rfl,hc,hm,hz,hX,?_⟩;rcases h with h | ⟨b,off,L,t,fz,rfl,hF,hb,hl,hr⟩
 ·exact .inl h
 ·exact .inr ⟨b,off,L,t,fz,rfl,hg b hF (lt_of_block hb),hb,hl,hr⟩
theorem Rows.below {B:Nat} {w w':World} {k n:Nat} {v:Value} {X:List Value} (h:Rows (fun b=>b < B) w k v n X) (hb:Below B w w'):Rows (fun b=>b < B) w' k v n X:=h.keep fun b hB _=>hb.block b hB
theorem Rows.drew {F:aV} {w:World} {k n:Nat} {v:Value} {X:List Value} (h:Rows F w k v n X):Rows F w.drew k v n X:=h
theorem Rows.nil (F:aV) (w:World) (k:Nat):Rows F w k (.slice none 0 0) 0 []:=⟨none,0,rfl,aq _,by unfold maxLen;omega,fun _=>rfl,by simp,.inl rfl⟩
theorem Rows.cells {F:aV} {w:World} {k n m:Nat} {a:Option Addr} {cap:Nat} {X:List Value} (h:Rows F w k (.slice a m cap) n X) (hn:0 < n):
 ∃ b off,a=some ⟨b,off,none⟩ /\ F b /\ b < w.heap.size /\ ∀ i u,X[i]?=some u -> w.cell? ⟨b,off+i,none⟩=some u:=by
 obtain⟨a',cap',hv,hc,hm,hz,hX,h⟩:=h;simp at hv;obtain⟨rfl,rfl,rfl⟩:=hv;rcases h with h | ⟨b,off,L,t,fz,rfl,hF,hb,hl,hr⟩
 ·omega
 ·refine⟨b,off,rfl,hF,lt_of_block hb,fun i u hu=>?_⟩;have hi:i < m * k:=by rw[<- hX];exact(List.getElem?_eq_some_iff.1 hu).1
  rw[cell_of_row w b (off+i) L t fz hb,hr i hi,hu]
theorem Rows.shape {F:aV} {w:World} {k n:Nat} {v:Value} {X:List Value} (h:Rows F w k v n X):∃ a cap,v=.slice a n cap /\ n <= cap /\ cap <= maxLen /\ (a=none -> cap=0):=by
 obtain⟨a,cap,rfl,hc,hm,hz,_⟩:=h;exact⟨a,cap,rfl,hc,hm,hz⟩
theorem Rows.len {F:aV} {w:World} {k n:Nat} {v:Value} {X:List Value} (h:Rows F w k v n X):n <= maxLen:=by
 obtain⟨a,cap,rfl,hc,hm,_⟩:=h;omega
theorem Rows.of_owns {w:World} {base:Nat} {e:TypeId} {k n:Nat} {v:Value} {X:List Value} (h:w.ownsRow base e k v n X):Rows (fun b=>base <= b /\ b < w.heap.size) w k v n X:=by
 obtain⟨h1,h2⟩:=h;rcases h2 with ⟨rfl,h2⟩ | ⟨g,cap,cur,rfl,hb,hg,hc,hm,hs,ht⟩
 ·subst h2;exact⟨none,0,rfl,by omega,by unfold maxLen;omega,fun _=>rfl,h1,.inl rfl⟩
 ·refine⟨_,cap,rfl,hc,hm,nofun,h1,.inr ⟨g,0,cur,e,(0,0),rfl,⟨hb,lt_of_block hg⟩,hg,?_,fun i hi=>?_⟩⟩
  ·have:n * k <= cap * k:=Nat.mul_le_mul_right k hc;omega
  ·have:(cur.toList.take (n * k))[i]?=X[i]?:=by rw[ht]
   rw[List.getElem?_take,if_pos hi] at this;simpa using this
theorem bw {P:Program} (W:World) (base:Nat) (ts te:TypeId) {i0:TypeInfo} {z:Value} {k bz:Nat} (hu:P.underlying ts=some (.slice te)) (hi:P.info? te=some i0) (hz:i0.zero=some z) (hs:i0.size=k) (hbz:i0.bytes=bz) (hzk:z.cells.size=k) (hk:0 < k)
 (v:Value) (n:Nat) (xs:List Value) (hown:W.ownsRow base te k v n xs) (F:aV) (x:Value) (m:Nat) (X:List Value) (hx:Rows F W k x m X) (h1:∀ u ∈ X,u.oneCell'=true)
 (hlen:n+m <= maxLen) (hb47:(n+m) * bz <= 140737488355328) (hbase:base <= W.heap.size):
 ∃ v' w',(AP #[ts,ts] ts #[v,x]).run P W=.ok v' w' /\ w'.ownsRow base te k v' (n+m) (xs ++ X) /\ W.grownBy w' v.ownBlock:=by
 obtain⟨a,cap,rfl,hc,hm,hzz,hX,hx⟩:=hx;cases a with
 | none=>
   obtain rfl:=hzz rfl;obtain rfl:m=0:=by omega
   obtain rfl:X = []:=List.length_eq_zero_iff.1 (by omega);exact⟨v,W,run_append_owned_none W base ts ts te i0 k hu hi v _ _ hown,by simpa using hown,World.grownBy.refl _ _⟩
 | some ad=>
   obtain⟨v',w',hr,h1,h2,h3⟩:=run_append_own (P:=P) W base ts ts te i0 z k bz hu hi hz hs hbz hzk hk v n xs hown ad m cap X hX
    (fun j u hj=>by
     have hjl:j < m * k:=by rw[<- hX];exact(List.getElem?_eq_some_iff.1 hj).1
     rcases hx with rfl | ⟨b,off,L,t,fz,hb,hF,hg,hL,hr⟩
     ·simp at hjl
     ·simp at hb;subst hb
      rw[Addr.add_lit,cell_of_row W b (off+j) L t fz hg,hr j hjl,hj])
    h1 hlen hb47 hbase
   exact⟨v',w',hr,h1,h2⟩
theorem bF {P:Program} (W:World) (base:Nat) (ts te:TypeId) {i0:TypeInfo} {z:Value} {k bz:Nat} (hu:P.underlying ts=some (.slice te)) (hi:P.info? te=some i0) (hz:i0.zero=some z) (hs:i0.size=k) (hbz:i0.bytes=bz) (hzk:z.cells.size=k) (hk:0 < k)
 (v:Value) (n:Nat) (xs:List Value) (hown:W.ownsRow base te k v n xs) (cs:Array Value) (hcs:cs.size=k) (h1:∀ u ∈ cs.toList,u.oneCell'=true)
 (hlen:n+1 <= maxLen) (hb47:(n+1) * bz <= 140737488355328) (hbase:base <= W.heap.size):
 ∃ v' w',(AP #[ts,ts] ts #[v,.slice (some ⟨W.heap.size,0,none⟩) 1 1]).run P (W.alloc (.cells cs te))=.ok v' w' /\ w'.ownsRow base te k v' (n+1) (xs ++ cs.toList) /\ (W.alloc (.cells cs te)).grownBy w' v.ownBlock:=by
 refine bw (W.alloc (.cells cs te)) base ts te hu hi hz hs hbz hzk hk v n xs (hown.alloc _) (fun _=>True) (.slice (some ⟨W.heap.size,0,none⟩) 1 1) 1 cs.toList ?_ h1 hlen hb47 (by simp;omega);refine⟨_,1,rfl,aq _,by unfold maxLen;omega,nofun,by simp[hcs],.inr ⟨W.heap.size,0,cs,te,(0,0),rfl,trivial,by unfold World.alloc;simp,by omega,fun i hi=>by simp⟩⟩
theorem ep {w:World} {base:Nat} {e:TypeId} {k n:Nat} {v:Value} {xs:List Value} (h:w.ownsRow base e k v n xs) {b:Nat} (hb:v.ownBlock=some b):∃ cs,w.heap[b]?=some (.cells cs e (0,0)):=by
 rcases h.2 with ⟨rfl,_⟩ | ⟨g,cap,cur,rfl,_,hg,_⟩
 ·simp[Value.ownBlock] at hb
 ·have:g=b:=by simpa[Value.ownBlock] using hb
  subst this;exact⟨_,hg⟩
theorem Blk.grownNe {w w':World} {base:Nat} {e t:TypeId} {k n b:Nat} {v:Value} {xs L:List Value} (h:Blk w b L t) (ho:w.ownsRow base e k v n xs) (hne:e≠t) (hg:w.grownBy w' v.ownBlock):Blk w' b L t:=by
 refine h.keep (hg.block b h.lt fun hb=>?_);obtain⟨cs,hc⟩:=ep ho hb.symm;unfold Blk at h;rw[h] at hc;injection hc with hc
 injection hc with _ ht
 exact hne ht.symm
theorem cN {w w':World} {base base':Nat} {e e':TypeId} {k k' n n':Nat} {v v':Value} {xs xs':List Value} (h:w.ownsRow base' e' k' v' n' xs') (ho:w.ownsRow base e k v n xs) (hne:e≠e') (hg:w.grownBy w' v.ownBlock):w'.ownsRow base' e' k' v' n' xs':=by
 refine h.kept hg ?_;cases hb:v'.ownBlock with
 | none=>exact .inl rfl
 | some b=>
   refine .inr fun he=>?_
   obtain⟨c1,h1⟩:=ep h hb;obtain⟨c2,h2⟩:=ep ho he.symm;rw[h1] at h2;injection h2 with h2
   injection h2 with _ ht
   exact hne ht.symm
theorem aS {w:World} {base b i:Nat} {e t:TypeId} {k n:Nat} {v:Value} {xs L:List Value} (h:w.ownsRow base e k v n xs) (hb:Blk w b L t) (hne:e≠t) (u:Value):(w.setCell ⟨b,i,none⟩ u).ownsRow base e k v n xs:=by
 refine h.kept (row:=some b) ⟨rfl,rfl,rfl,by simp[World.setCell],fun q hq hqb=>Below.heap_setCell w ⟨b,i,none⟩ u q (fun e=>hqb (by rw[e]))⟩ ?_;cases ho:v.ownBlock with
 | none=>exact .inl rfl
 | some g=>
   refine .inr fun he=>?_
   simp at he;subst he;obtain⟨c1,h1⟩:=ep h ho;unfold Blk at hb;rw[hb] at h1;injection h1 with h1
   injection h1 with _ ht
   exact hne ht.symm
theorem Below.grownOwn {B:Nat} {w w':World} {base:Nat} {e:TypeId} {k n:Nat} {v:Value} {xs:List Value} (ho:w.ownsRow base e k v n xs) (hg:w.grownBy w' v.ownBlock) (hB:B <= w.heap.size) (hb:B <= base):Below B w w':=
 (Below.refl B w).grown hg hB fun q hq=>by have:=(ho.lt q hq).1;omega
theorem bc {w w':World} {base:Nat} {e:TypeId} {k n:Nat} {v:Value} {xs:List Value} (h:w.ownsRow base e k v n xs) (hb:Below w.heap.size w w'):w'.ownsRow base e k v n xs:=
 h.kept (row:=none) ⟨hb.os,hb.tape,hb.output,hb.size,fun q hq _=>hb.block q hq⟩ (by cases v.ownBlock <;> simp)
/-! lists of values -/
abbrev eI (n:Int):Value:=.int .i64 n
def aZ (x:RIt):List Value:=[Go.Proofs.encStr x.key,eI x.dev,eI x.seq,eI x.val]
def cn (x:RGo):List Value:=[Go.Proofs.encStr x.key,eI x.dev,eI x.seq]
section
variable {α:Type} (enc:α -> List Value) (k:Nat)
theorem bI (hk:∀ x,(enc x).length=k) (l:List α):(l.flatMap enc).length=l.length * k:=by
 induction l with
 | nil=>simp
 | cons x l ih=>rw[List.flatMap_cons,ax,hk,ih,aB,Nat.succ_mul];omega
theorem dt (hk:∀ x,(enc x).length=k):∀ (l:List α) (i j:Nat) (h:i < l.length),j < k -> (l.flatMap enc)[i * k+j]?=(enc l[i])[j]?
 | [],i,j,h,_=>by simp at h
 | x :: l,0,j,_,hj=>by
   rw[List.flatMap_cons,List.getElem?_append_left (by rw[hk];omega)];simp
 | x :: l,i+1,j,h,hj=>by
   rw[List.flatMap_cons,List.getElem?_append_right (by rw[hk,Nat.succ_mul];omega),hk,Nat.succ_mul,show i * k+k+j - k=i * k+j from by omega];simpa using dt hk l i j (by simpa using h) hj
end
theorem br (x:RIt):(aZ x).length=4:=rfl
theorem eO (x:RGo):(cn x).length=3:=rfl
theorem eE {F:aV} {w:World} {a:Option Addr} {n cap:Nat} {l:List RIt} (h:Rows F w 4 (.slice a n cap) l.length (l.flatMap aZ)) (h0:0 < l.length):
 ∃ b off,a=some ⟨b,off,none⟩ /\ F b /\ b < w.heap.size /\ ∀ i (hi:i < l.length),w.cell? ⟨b,off+i * 4,none⟩=some (.string ⟨l[i].key.toArray⟩) /\ w.cell? ⟨b,off+i * 4+1,none⟩=some (.int .i64 l[i].dev) /\ w.cell? ⟨b,off+i * 4+2,none⟩=some (.int .i64 l[i].seq) /\ w.cell? ⟨b,off+i * 4+3,none⟩=some (.int .i64 l[i].val):=by
 obtain⟨b,off,rfl,hF,hb,hc⟩:=h.cells h0;refine⟨b,off,rfl,hF,hb,fun i hi=>⟨?_,?_,?_,?_⟩⟩
 ·exact hc (i * 4) _ (dt aZ 4 br l i 0 hi (by omega))
 ·exact hc (i * 4+1) _ (dt aZ 4 br l i 1 hi (by omega))
 ·exact hc (i * 4+2) _ (dt aZ 4 br l i 2 hi (by omega))
 ·exact hc (i * 4+3) _ (dt aZ 4 br l i 3 hi (by omega))
theorem eF {F:aV} {w:World} {a:Option Addr} {n cap:Nat} {l:List RGo} (h:Rows F w 3 (.slice a n cap) l.length (l.flatMap cn)) (h0:0 < l.length):
 ∃ b off,a=some ⟨b,off,none⟩ /\ F b /\ b < w.heap.size /\ ∀ i (hi:i < l.length),w.cell? ⟨b,off+i * 3,none⟩=some (.string ⟨l[i].key.toArray⟩) /\ w.cell? ⟨b,off+i * 3+1,none⟩=some (.int .i64 l[i].dev) /\ w.cell? ⟨b,off+i * 3+2,none⟩=some (.int .i64 l[i].seq):=by
 obtain⟨b,off,rfl,hF,hb,hc⟩:=h.cells h0;refine⟨b,off,rfl,hF,hb,fun i hi=>⟨?_,?_,?_⟩⟩
 ·exact hc (i * 3) _ (dt cn 3 eO l i 0 hi (by omega))
 ·exact hc (i * 3+1) _ (dt cn 3 eO l i 1 hi (by omega))
 ·exact hc (i * 3+2) _ (dt cn 3 eO l i 2 hi (by omega))
theorem fY {F:aV} {w:World} {a:Option Addr} {n cap:Nat} {l:List Int} (h:Rows F w 1 (.slice a n cap) l.length (l.map eI)) (h0:0 < l.length):
 ∃ b off,a=some ⟨b,off,none⟩ /\ F b /\ b < w.heap.size /\ ∀ i (hi:i < l.length),w.cell? ⟨b,off+i,none⟩=some (.int .i64 l[i]):=by
 obtain⟨b,off,rfl,hF,hb,hc⟩:=h.cells h0;exact⟨b,off,rfl,hF,hb,fun i hi=>hc i _ (by simp[hi])⟩
theorem fZ {F:aV} {w:World} {a:Option Addr} {n cap:Nat} {l:List RKey} (h:Rows F w 1 (.slice a n cap) l.length (l.map Go.Proofs.encStr)) (h0:0 < l.length):
 ∃ b off,a=some ⟨b,off,none⟩ /\ F b /\ b < w.heap.size /\ ∀ i (hi:i < l.length),w.cell? ⟨b,off+i,none⟩=some (.string ⟨l[i].toArray⟩):=by
 obtain⟨b,off,rfl,hF,hb,hc⟩:=h.cells h0;exact⟨b,off,rfl,hF,hb,fun i hi=>hc i _ (by simp[hi])⟩
theorem dS (l:List RIt):∀ u ∈ l.flatMap aZ,u.oneCell'=true:=by
 intro u hu;obtain⟨x,_,hx⟩:=List.mem_flatMap.1 hu;simp[aZ] at hx;rcases hx with rfl | rfl | rfl | rfl <;> rfl
theorem f9 (l:List RGo):∀ u ∈ l.flatMap cn,u.oneCell'=true:=by
 intro u hu;obtain⟨x,_,hx⟩:=List.mem_flatMap.1 hu;simp[cn] at hx;rcases hx with rfl | rfl | rfl <;> rfl
theorem rg (l:List Int):∀ u ∈ l.map eI,u.oneCell'=true:=by
 intro u hu;obtain⟨x,_,rfl⟩:=List.mem_map.1 hu;rfl
theorem tj (l:List RKey):∀ u ∈ l.map Go.Proofs.encStr,u.oneCell'=true:=by
 intro u hu;obtain⟨x,_,rfl⟩:=List.mem_map.1 hu;rfl
/-! maps -/
def cw (n:Int):Prop:=-9223372036854775808 <= n /\ n <= 9223372036854775807
structure bJ (F:aV) (w:World) (s1 s2 s3:Value) (m:RMap):Prop where
 seen:Rows F w 1 s1 m.seen.length (m.seen.map eI)
 items:Rows F w 4 s2 m.items.length (m.items.flatMap aZ)
 gone:Rows F w 3 s3 m.gone.length (m.gone.flatMap cn)
 seenB:∀ n ∈ m.seen,cw n
 itemsB:∀ x ∈ m.items,x.key.length <= 9223372036854775807 /\ cw x.dev /\ cw x.seq /\ cw x.val
 goneB:∀ x ∈ m.gone,x.key.length <= 9223372036854775807 /\ cw x.dev /\ cw x.seq
def cY (F:aV) (w:World) (v:Value) (m:RMap):Prop:=∃ s1 s2 s3,v=.agg #[s1,s2,s3] /\ bJ F w s1 s2 s3 m
theorem bJ.keep {F:aV} {w w':World} {s1 s2 s3:Value} {m:RMap} (h:bJ F w s1 s2 s3 m) (hk:∀ b,F b -> b < w.heap.size -> w'.heap[b]?=w.heap[b]?):bJ F w' s1 s2 s3 m:=
 ⟨h.seen.keep hk,h.items.keep hk,h.gone.keep hk,h.seenB,h.itemsB,h.goneB⟩
theorem bJ.mono {F G:aV} {w:World} {s1 s2 s3:Value} {m:RMap} (h:bJ F w s1 s2 s3 m) (hg:∀ b,F b -> b < w.heap.size -> G b):bJ G w s1 s2 s3 m:=
 ⟨h.seen.mono hg,h.items.mono hg,h.gone.mono hg,h.seenB,h.itemsB,h.goneB⟩
theorem cY.keep {F:aV} {w w':World} {v:Value} {m:RMap} (h:cY F w v m) (hk:∀ b,F b -> b < w.heap.size -> w'.heap[b]?=w.heap[b]?):cY F w' v m:=by
 obtain⟨s1,s2,s3,rfl,h⟩:=h;exact⟨s1,s2,s3,rfl,h.keep hk⟩
theorem cY.mono {F G:aV} {w:World} {v:Value} {m:RMap} (h:cY F w v m) (hg:∀ b,F b -> b < w.heap.size -> G b):cY G w v m:=by
 obtain⟨s1,s2,s3,rfl,h⟩:=h;exact⟨s1,s2,s3,rfl,h.mono hg⟩
theorem bJ.below {B:Nat} {w w':World} {s1 s2 s3:Value} {m:RMap} (h:bJ (fun b=>b < B) w s1 s2 s3 m) (hb:Below B w w'):bJ (fun b=>b < B) w' s1 s2 s3 m:=h.keep fun b hB _=>hb.block b hB
theorem cY.below {B:Nat} {w w':World} {v:Value} {m:RMap} (h:cY (fun b=>b < B) w v m) (hb:Below B w w'):cY (fun b=>b < B) w' v m:=h.keep fun b hB _=>hb.block b hB
theorem cY.later {F:aV} {w w':World} {v:Value} {m:RMap} {B:Nat} (h:cY F w v m) (hb:Below B w w') (hB:w.heap.size <= B):cY F w' v m:=h.keep fun b _ hlt=>hb.block b (by omega)
end
section
attribute [local go_sem ↓] bq
theorem ig:(aC.info? 5).map (fun i=>(i.zero,i.size,i.bytes))=some (some (.int .u8 0),1,1):=by kernel_rfl
theorem gd (W:World) (base:Nat) (v:Value) (xs:List UInt8) (hown:W.ownsRow base 5 1 v xs.length (xs.map B)) (F:aV) (x:Value) (l:List UInt8) (hx:Bytes F W x l)
 (hlen:xs.length+l.length <= 140737488355328) (hbase:base <= W.heap.size):
 ∃ v' w',(AP #[41,41] 41 #[v,x]).run aC W=.ok v' w' /\ w'.ownsRow base 5 1 v' (xs ++ l).length ((xs ++ l).map B) /\ W.grownBy w' v.ownBlock:=by
 obtain⟨i0,hi,hz0,hz1,hz2⟩:=info_parts ig;obtain⟨a,cap,rfl,hc,hm,hz,hx⟩:=hx;cases a with
 | none=>
   have hl:l = []:=by
    rcases hx with h | ⟨b,off,L,t,fz,h,_⟩
    ·exact h
    ·cases h
   subst hl;obtain rfl:=hz rfl;exact⟨v,W,run_append_owned_none W base 41 41 5 i0 1 Tryz.underlying41 hi v _ _ hown,by simpa using hown,World.grownBy.refl _ _⟩
 | some ad=>
   obtain⟨v',w',hr,h1,h2,h3⟩:=run_append_own (P:=aC) W base 41 41 5 i0 _ 1 1 Tryz.underlying41 hi hz0 hz1 hz2 rfl (by decide) v xs.length (xs.map B) hown ad l.length cap (l.map B) (by simp)
    (fun j u hj=>by
     rcases hx with rfl | ⟨b,off,L,t,fz,hb,hF,hg,hL,hr⟩
     ·simp at hj
     ·simp at hb;subst hb;have hjl:j < l.length:=by have:=(List.getElem?_eq_some_iff.1 hj).1;simpa using this
      rw[Addr.add_lit,cell_of_row W b (off+j) L t fz hg,hr j hjl];simp[List.getElem?_eq_getElem hjl] at hj
      simp[hj])
    (fy l) (by unfold maxLen;omega) (by omega) hbase
   exact⟨v',w',hr,by simpa using h1,h2⟩
theorem gS (w:World) (F:aV) (v:Value) (l:List UInt8) (hv:Bytes F w v l) (hlen:l.length <= 140737488355328):
 Calls aC 98 #[v] w fun e w'=>∃ r,e=.returned r /\ w'.ownsRow w.heap.size 5 1 r l.length (l.map B) /\ Below w.heap.size w w':=by
 have hv0:=hv;obtain⟨a,cap,rfl,hc,hm,hz,hx⟩:=hv;have hW:Bytes F (w.alloc (.cells #[] 5)) (.slice a l.length cap) l:=hv0.keep fun b _ hb=>Below.heap_alloc _ _ _ hb
 obtain⟨v',w',hr,hown,hgb⟩:=gd (w.alloc (.cells #[] 5)) w.heap.size (.slice (some ⟨w.heap.size,0,none⟩) 0 0) []
  ⟨rfl,.inr ⟨w.heap.size,0,#[],rfl,aq _,by unfold World.alloc;simp,aq _,by unfold maxLen;omega,rfl,rfl⟩⟩ F (.slice a l.length cap) l hW (by simpa using hlen) (by simp)
 have Hown:=ae hown;clear hown;have Hgb:=ae hgb;clear hgb;have Hx:=ae hx;clear hx;cases a with
 | none=>
   have hl:l = []:=by
    rcases Hx.out with h | ⟨b,off,L,t,fz,h,_⟩
    ·exact h
    ·cases h
   subst hl;obtain rfl:=hz rfl;have hn:=fun (W:World)=>Lib.run_eql_slice_nil (P:=aC) W 41 5 none 0 0 0 0 Tryz.underlying41
   go_enter Tryz.func98,Tryz.ntmps98
   go_wp2_with fail
   go_ret
   exact⟨_,rfl,World.ownsRow_nil _ _ _ _,Below.refl _ _⟩
 | some ad=>
   have hn:=fun (W:World)=>Lib.run_eql_slice_nil (P:=aC) W 41 5 (some ad) l.length cap 0 0 Tryz.underlying41
   go_enter Tryz.func98,Tryz.ntmps98
   go_wp2_with fail
   go_ret
   exact⟨_,rfl,by simpa using Hown.out,(aE _ _).grown Hgb.out (by simp) (fun k hk=>by simp[Value.ownBlock] at hk;omega)⟩
end
end Go.Proofs.YtobjdpngnfbicaaGreatDoor
