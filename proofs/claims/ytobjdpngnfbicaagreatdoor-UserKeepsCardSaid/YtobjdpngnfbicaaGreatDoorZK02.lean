/-
  RMath
-/
import Derived.Lib.Hide
import Derived.Test.YtobjdpngnfbicaaGreatDoorZK01
open Nat renaming le_refl->aq
open List renaming length_append->ax,append_assoc->az,getElem_mem->aA,length_cons->aB
namespace Go.Proofs.YtobjdpngnfbicaaGreatDoor
set_option linter.unusedVariables false
set_option maxRecDepth 20000
abbrev RKey:=List UInt8
abbrev RPl:=RKey × Int
/-! the order of keys -/
theorem klt_irrefl (a:RKey):¬ a < a:=List.lt_irrefl a
theorem klt_trans {a b c:RKey} (h:a < b) (k:b < c):a < c:=List.lt_trans h k
theorem klt_tri {a b:RKey} (h:¬ a < b) (k:¬ b < a):a=b:=List.le_antisymm (List.not_lt.1 k) (List.not_lt.1 h)
/-! the order of places -/
def plt (a b:RPl):Prop:=a.1 < b.1 \/ (a.1=b.1 /\ a.2 < b.2)
instance (a b:RPl):Decidable (plt a b):=by unfold plt;exact inferInstance
theorem plt_irrefl (a:RPl):¬ plt a a:=by
 rintro(h | h)
 ·exact klt_irrefl _ h
 ·omega
theorem plt_trans {a b c:RPl} (h:plt a b) (k:plt b c):plt a c:=by
 rcases h with h | ⟨h,h'⟩
 ·rcases k with k | ⟨k,k'⟩
  ·exact .inl (klt_trans h k)
  ·exact .inl (k ▸ h)
 ·rcases k with k | ⟨k,k'⟩
  ·exact .inl (h ▸ k)
  ·exact .inr ⟨h.trans k,by omega⟩
theorem plt_asymm {a b:RPl} (h:plt a b):¬ plt b a:=fun k=>plt_irrefl a (plt_trans h k)
theorem plt_ne {a b:RPl} (h:plt a b):a≠b:=fun e=>plt_irrefl b (e ▸ h)
theorem plt_tri {a b:RPl} (h:¬ plt a b) (k:¬ plt b a):a=b:=by
 have h1:¬ a.1 < b.1:=fun x=>h (.inl x)
 have h2:¬ b.1 < a.1:=fun x=>k (.inl x)
 have e1:=klt_tri h1 h2;have h3:¬ a.2 < b.2:=fun x=>h (.inr ⟨e1,x⟩)
 have h4:¬ b.2 < a.2:=fun x=>k (.inr ⟨e1.symm,x⟩)
 exact Prod.ext e1 (by omega)
def pcmp (a b:RPl):Int:=if plt a b then -1 else if plt b a then 1 else 0
/-! lists whose places ascend -/
section
variable {α:Type} (pl:α -> RPl)
def Asc (l:List α):Prop:=l.Pairwise fun a b=>plt (pl a) (pl b)
def Step (l:List α):Prop:=∀ i (h:i+1 < l.length),plt (pl l[i]) (pl l[i+1])
theorem asc_of_step:∀ l:List α,Step pl l -> Asc pl l
 | [],_=>.nil
 | [a],_=>List.pairwise_singleton _ _
 | a :: b :: l,h=>by
   have hr:Asc pl (b :: l):=asc_of_step (b :: l) fun i hi=>by
    have:=h (i+1) (by simpa using hi);simpa using this
   have hab:plt (pl a) (pl b):=h 0 (by simp);refine List.Pairwise.cons (fun c hc=>?_) hr;rcases List.mem_cons.1 hc with rfl | hc
   ·exact hab
   ·exact plt_trans hab ((List.pairwise_cons.1 hr).1 c hc)
theorem step_of_asc {l:List α} (h:Asc pl l):Step pl l:=fun i hi=>List.pairwise_iff_getElem.1 h i (i+1) (by omega) hi (by omega)
theorem asc_iff_step (l:List α):Asc pl l↔Step pl l:=⟨step_of_asc pl,asc_of_step pl l⟩
instance (l:List α):Decidable (Asc pl l):=by unfold Asc;exact inferInstance
def look (l:List α) (p:RPl):Option α:=l.find? fun x=>decide (pl x=p)
variable {pl}
theorem look_nil (p:RPl):look pl ([]:List α) p=none:=rfl
theorem look_cons (x:α) (l:List α) (p:RPl):look pl (x :: l) p=if pl x=p then some x else look pl l p:=by
 unfold look;rw[List.find?_cons]
 by_cases h:pl x=p <;> simp[h]
theorem look_pl {l:List α} {p:RPl} {x:α} (h:look pl l p=some x):pl x=p:=by
 have:=List.find?_some h;simpa using this
theorem look_mem {l:List α} {p:RPl} {x:α} (h:look pl l p=some x):x ∈ l:=List.mem_of_find?_eq_some h
theorem look_none {l:List α} {p:RPl}:look pl l p=none↔∀ x ∈ l,pl x≠p:=by
 unfold look;rw[List.find?_eq_none];simp
theorem look_of_mem {l:List α} (h:Asc pl l) {x:α} (hx:x ∈ l):look pl l (pl x)=some x:=by
 induction l with
 | nil=>cases hx
 | cons a l ih=>
   rw[look_cons];have ha:=List.pairwise_cons.1 h;rcases List.mem_cons.1 hx with rfl | hx
   ·simp
   ·rw[if_neg (plt_ne (ha.1 x hx)),ih ha.2 hx]
theorem asc_ext:∀ {a b:List α},Asc pl a -> Asc pl b -> (∀ p,look pl a p=look pl b p) -> a=b
 | [],[],_,_,_=>rfl
 | [],y :: b,_,hb,h=>by
   have:=h (pl y);rw[look_nil,look_cons,if_pos rfl] at this;cases this
 | x :: a,[],ha,_,h=>by
   have:=h (pl x);rw[look_nil,look_cons,if_pos rfl] at this;cases this
 | x :: a,y :: b,ha,hb,h=>by
   have pa:=List.pairwise_cons.1 ha;have pb:=List.pairwise_cons.1 hb
   have hx:x=y:=by
    have h1:=h (pl x);rw[look_cons,if_pos rfl] at h1;have m1:=look_mem h1.symm;have h2:=h (pl y);rw[look_cons (x:=y),if_pos rfl] at h2;have m2:=look_mem h2;rcases List.mem_cons.1 m1 with e | m1
    ·exact e
    ·rcases List.mem_cons.1 m2 with e | m2
     ·exact e.symm
     ·exact absurd (pa.1 y m2) (plt_asymm (pb.1 x m1))
   subst hx
   congr 1
   refine asc_ext pa.2 pb.2 fun p=>?_
   have hp:=h p;rw[look_cons,look_cons] at hp
   by_cases e:pl x=p
   ·have n1:look pl a p=none:=look_none.2 fun z hz e'=>plt_ne (pa.1 z hz) (e.trans e'.symm)
    have n2:look pl b p=none:=look_none.2 fun z hz e'=>plt_ne (pb.1 z hz) (e.trans e'.symm)
    rw[n1,n2]
   ·rw[if_neg e,if_neg e] at hp;exact hp
theorem asc_filter {l:List α} (h:Asc pl l) (f:α -> Bool):Asc pl (l.filter f):=List.Pairwise.filter f h
theorem look_filter {l:List α} (h:Asc pl l) (f:α -> Bool) (p:RPl):look pl (l.filter f) p=(look pl l p).filter f:=by
 induction l with
 | nil=>rfl
 | cons a l ih=>
   have ha:=List.pairwise_cons.1 h;rw[List.filter_cons,look_cons]
   by_cases hf:f a=true
   ·rw[if_pos hf,look_cons,ih ha.2]
    by_cases e:pl a=p
    ·simp[e,Option.filter,hf]
    ·simp[e]
   ·rw[if_neg hf,ih ha.2]
    by_cases e:pl a=p
    ·have n1:look pl l p=none:=look_none.2 fun z hz e'=>plt_ne (ha.1 z hz) (e.trans e'.symm)
     simp[e,n1,Option.filter,hf]
    ·simp[e]
/-! two ascending lists as one -/
variable (pl) in
def mergeL (better:α -> α -> α):List α -> List α -> List α
 | [],b=>b
 | a,[]=>a
 | x :: a,y :: b=>if plt (pl x) (pl y) then x :: mergeL better a (y :: b) else if plt (pl y) (pl x) then y :: mergeL better (x :: a) b else better x y :: mergeL better a b
termination_by a b=>a.length+b.length
theorem mergeL_nil_l (better:α -> α -> α) (b:List α):mergeL pl better [] b=b:=by rw[mergeL]
theorem mergeL_nil_r (better:α -> α -> α) (a:List α):mergeL pl better a []=a:=by cases a <;> simp[mergeL]
theorem mergeL_lt (better:α -> α -> α) {x y:α} (a b:List α) (h:plt (pl x) (pl y)):mergeL pl better (x :: a) (y :: b)=x :: mergeL pl better a (y :: b):=by rw[mergeL,if_pos h]
theorem mergeL_gt (better:α -> α -> α) {x y:α} (a b:List α) (h:plt (pl y) (pl x)):mergeL pl better (x :: a) (y :: b)=y :: mergeL pl better (x :: a) b:=by rw[mergeL,if_neg (plt_asymm h),if_pos h]
theorem mergeL_eq (better:α -> α -> α) {x y:α} (a b:List α) (h:pl x=pl y):mergeL pl better (x :: a) (y :: b)=better x y :: mergeL pl better a b:=by
 rw[mergeL,if_neg (by rw[h];exact plt_irrefl _),if_neg (by rw[h];exact plt_irrefl _)]
def both (better:α -> α -> α):Option α -> Option α -> Option α
 | some x,some y=>some (better x y)
 | some x,none=>some x
 | none,r=>r
theorem merge_spec (better:α -> α -> α) (hb:∀ x y,pl x=pl y -> pl (better x y)=pl x) (n:Nat):∀ a b:List α,a.length+b.length <= n -> Asc pl a -> Asc pl b ->
 (∀ p,look pl (mergeL pl better a b) p=both better (look pl a p) (look pl b p)) /\ Asc pl (mergeL pl better a b) /\ ∀ q,(∀ x ∈ a,plt q (pl x)) -> (∀ x ∈ b,plt q (pl x)) -> ∀ x ∈ mergeL pl better a b,plt q (pl x):=by
 induction n with
 | zero=>
   intro a b h ha hb';obtain rfl:a = []:=List.length_eq_zero_iff.1 (by omega);obtain rfl:b = []:=List.length_eq_zero_iff.1 (by omega);rw[mergeL_nil_l];exact⟨fun p=>rfl,.nil,fun q _ _ x hx=>by cases hx⟩
 | succ n ih=>
   intro a b h ha hb'
   match a,b with
   | [],b=>rw[mergeL_nil_l];exact⟨fun p=>by rw[look_nil];rfl,hb',fun q _ h2=>h2⟩
   | x :: a,[]=>
     rw[mergeL_nil_r];refine⟨fun p=>?_,ha,fun q h1 _=>h1⟩;rw[look_nil];cases look pl (x :: a) p <;> rfl
   | x :: a,y :: b=>
     have pa:=List.pairwise_cons.1 ha;have pb:=List.pairwise_cons.1 hb';simp only[aB] at h
     by_cases h1:plt (pl x) (pl y)
     ·rw[mergeL_lt _ _ _ h1];obtain⟨i1,i2,i3⟩:=ih a (y :: b) (by simp;omega) pa.2 hb'
      have hx:∀ z ∈ y :: b,plt (pl x) (pl z):=fun z hz=>by
       rcases List.mem_cons.1 hz with rfl | hz
       ·exact h1
       ·exact plt_trans h1 (pb.1 z hz)
      refine⟨fun p=>?_,List.Pairwise.cons (i3 _ pa.1 hx) i2,fun q q1 q2 z hz=>?_⟩
      ·rw[look_cons,look_cons (l:=a),i1]
       by_cases e:pl x=p
       ·have n1:look pl (y :: b) p=none:=look_none.2 fun z hz e'=>plt_ne (hx z hz) (e.trans e'.symm)
        simp[e,n1,both]
       ·simp[e]
      ·rcases List.mem_cons.1 hz with rfl | hz
       ·exact q1 _ (List.mem_cons_self)
       ·exact i3 q (fun u hu=>q1 u (List.mem_cons_of_mem _ hu)) q2 z hz
     ·by_cases h2:plt (pl y) (pl x)
      ·rw[mergeL_gt _ _ _ h2];obtain⟨i1,i2,i3⟩:=ih (x :: a) b (by simp;omega) ha pb.2
       have hy:∀ z ∈ x :: a,plt (pl y) (pl z):=fun z hz=>by
        rcases List.mem_cons.1 hz with rfl | hz
        ·exact h2
        ·exact plt_trans h2 (pa.1 z hz)
       refine⟨fun p=>?_,List.Pairwise.cons (i3 _ hy pb.1) i2,fun q q1 q2 z hz=>?_⟩
       ·rw[look_cons,look_cons (l:=b),i1]
        by_cases e:pl y=p
        ·have n1:look pl (x :: a) p=none:=look_none.2 fun z hz e'=>plt_ne (hy z hz) (e.trans e'.symm)
         simp[e,n1,both]
        ·simp[e]
       ·rcases List.mem_cons.1 hz with rfl | hz
        ·exact q2 _ (List.mem_cons_self)
        ·exact i3 q q1 (fun u hu=>q2 u (List.mem_cons_of_mem _ hu)) z hz
      ·have e:=plt_tri h1 h2;rw[mergeL_eq _ _ _ e];obtain⟨i1,i2,i3⟩:=ih a b (by omega) pa.2 pb.2;have hbe:=hb x y e;refine⟨fun p=>?_,List.Pairwise.cons ?_ i2,fun q q1 q2 z hz=>?_⟩
       ·rw[look_cons,look_cons (l:=a),look_cons (l:=b),i1,hbe,<- e]
        by_cases e':pl x=p
        ·simp[e',both]
        ·simp[e']
       ·rw[hbe];exact i3 _ pa.1 (by rw[e];exact pb.1)
       ·rcases List.mem_cons.1 hz with rfl | hz
        ·rw[hbe];exact q1 _ (List.mem_cons_self)
        ·exact i3 q (fun u hu=>q1 u (List.mem_cons_of_mem _ hu)) (fun u hu=>q2 u (List.mem_cons_of_mem _ hu)) z hz
theorem look_merge {better:α -> α -> α} (hb:∀ x y,pl x=pl y -> pl (better x y)=pl x) {a b:List α} (ha:Asc pl a) (hb':Asc pl b) (p:RPl):look pl (mergeL pl better a b) p=both better (look pl a p) (look pl b p):=
 (merge_spec better hb _ a b (aq _) ha hb').1 p
theorem asc_merge {better:α -> α -> α} (hb:∀ x y,pl x=pl y -> pl (better x y)=pl x) {a b:List α} (ha:Asc pl a) (hb':Asc pl b):Asc pl (mergeL pl better a b):=
 (merge_spec better hb _ a b (aq _) ha hb').2.1
theorem merge_len (better:α -> α -> α) (n:Nat):∀ a b:List α,a.length+b.length <= n -> (mergeL pl better a b).length <= a.length+b.length:=by
 induction n with
 | zero=>
   intro a b h;obtain rfl:a = []:=List.length_eq_zero_iff.1 (by omega);rw[mergeL_nil_l];omega
 | succ n ih=>
   intro a b h
   match a,b with
   | [],b=>rw[mergeL_nil_l];simp
   | x :: a,[]=>rw[mergeL_nil_r];simp
   | x :: a,y :: b=>
     simp only[aB] at h ⊢
     by_cases h1:plt (pl x) (pl y)
     ·rw[mergeL_lt _ _ _ h1];have:=ih a (y :: b) (by simp;omega);simp at this ⊢;omega
     ·by_cases h2:plt (pl y) (pl x)
      ·rw[mergeL_gt _ _ _ h2];have:=ih (x :: a) b (by simp;omega);simp at this ⊢;omega
      ·rw[mergeL_eq _ _ _ (plt_tri h1 h2)];have:=ih a b (by omega);simp;omega
/-! an element is put in its place -/
variable (pl) in
def putL (l:List α) (x:α):List α:=l.takeWhile (fun e=>decide (plt (pl e) (pl x))) ++ x :: (l.dropWhile (fun e=>decide (plt (pl e) (pl x)))).filter (fun e=>decide (pl e≠pl x))
theorem put_cons_lt {x e:α} (l:List α) (h:plt (pl e) (pl x)):putL pl (e :: l) x=e :: putL pl l x:=by
 unfold putL;rw[List.takeWhile_cons,List.dropWhile_cons];simp[h]
theorem put_cons_not {x e:α} (l:List α) (h:¬ plt (pl e) (pl x)):putL pl (e :: l) x=x :: (e :: l).filter (fun e=>decide (pl e≠pl x)):=by
 unfold putL;rw[List.takeWhile_cons,List.dropWhile_cons];simp[h]
theorem put_nil (x:α):putL pl [] x = [x]:=rfl
theorem put_spec (x:α):∀ l:List α,Asc pl l -> (∀ p,look pl (putL pl l x) p=if pl x=p then some x else look pl l p) /\ Asc pl (putL pl l x) /\ ∀ q,plt q (pl x) -> (∀ e ∈ l,plt q (pl e)) -> ∀ e ∈ putL pl l x,plt q (pl e)
 | [],_=>by
   rw[put_nil];exact⟨fun p=>by rw[look_cons],List.pairwise_singleton _ _,fun q h _ e he=>by rcases List.mem_cons.1 he with rfl | he;exact h;cases he⟩
 | e :: l,h=>by
   have ph:=List.pairwise_cons.1 h;obtain⟨i1,i2,i3⟩:=put_spec x l ph.2
   by_cases hlt:plt (pl e) (pl x)
   ·rw[put_cons_lt _ hlt];refine⟨fun p=>?_,List.Pairwise.cons (i3 _ hlt ph.1) i2,fun q q1 q2 z hz=>?_⟩
    ·rw[look_cons,look_cons,i1]
     by_cases e1:pl e=p
     ·have:pl x≠p:=fun e2=>plt_ne hlt (e1.trans e2.symm)
      simp[e1,this]
     ·simp[e1]
    ·rcases List.mem_cons.1 hz with rfl | hz
     ·exact q2 _ List.mem_cons_self
     ·exact i3 q q1 (fun u hu=>q2 u (List.mem_cons_of_mem _ hu)) z hz
   ·rw[put_cons_not _ hlt]
    have hmem:∀ z ∈ (e :: l).filter (fun e=>decide (pl e≠pl x)),plt (pl x) (pl z):=fun z hz=>by
     obtain⟨hz,hne⟩:=List.mem_filter.1 hz;have hne':pl z≠pl x:=by simpa using hne
     rcases List.mem_cons.1 hz with rfl | hz
     ·exact Classical.byContradiction fun hn=>hne' (plt_tri hlt hn)
     ·have hez:=ph.1 z hz;refine Classical.byContradiction fun hn=>?_
      by_cases hzx:plt (pl z) (pl x)
      ·exact hlt (plt_trans hez hzx)
      ·exact hne' (plt_tri hzx hn)
    refine⟨fun p=>?_,List.Pairwise.cons hmem (asc_filter h _),fun q q1 q2 z hz=>?_⟩
    ·rw[look_cons,look_filter h]
     by_cases e1:pl x=p
     ·simp[e1]
     ·rw[if_neg e1,if_neg e1];cases hl:look pl (e :: l) p with
      | none=>rfl
      | some z=>
        have:=look_pl hl;have hne:pl z≠pl x:=fun e2=>e1 (e2.symm.trans this)
        simp[hne]
    ·rcases List.mem_cons.1 hz with rfl | hz
     ·exact q1
     ·exact q2 z (List.mem_filter.1 hz).1
theorem look_put {l:List α} (h:Asc pl l) (x:α) (p:RPl):look pl (putL pl l x) p=if pl x=p then some x else look pl l p:=(put_spec x l h).1 p
theorem asc_put {l:List α} (h:Asc pl l) (x:α):Asc pl (putL pl l x):=(put_spec x l h).2.1
theorem asc_puts (xs:List α):∀ l:List α,Asc pl l -> Asc pl (xs.foldl (putL pl) l):=by
 induction xs with
 | nil=>intro l h;exact h
 | cons x xs ih=>intro l h;exact ih _ (asc_put h x)
theorem look_puts (xs:List α):∀ l:List α,Asc pl l -> (xs.Pairwise fun a b=>pl a≠pl b) -> ∀ p,look pl (xs.foldl (putL pl) l) p=match look pl xs p with | some x=>some x | none=>look pl l p:=by
 induction xs with
 | nil=>intro l h _ p;rfl
 | cons x xs ih=>
   intro l h hx p;have px:=List.pairwise_cons.1 hx;rw[List.foldl_cons,ih _ (asc_put h x) px.2,look_put h,look_cons]
   by_cases e:pl x=p
   ·have n1:look pl xs p=none:=look_none.2 fun z hz e'=>px.1 z hz (e.trans e'.symm)
    simp[e,n1]
   ·simp[e]
end
/-! maps -/
structure RIt where
 key:RKey
 dev:Int
 seq:Int
 val:Int
structure RGo where
 key:RKey
 dev:Int
 seq:Int
structure RMap where
 seen:List Int
 items:List RIt
 gone:List RGo
def RIt.pl (x:RIt):RPl:=(x.key,x.dev)
def RGo.pl (x:RGo):RPl:=(x.key,x.dev)
def RMap.empty:RMap:=⟨[],[],[]⟩
def RMap.new:RMap:=⟨List.replicate 8 0,[],[]⟩
def RMap.buried (m:RMap) (p:RPl):Int:=match look RGo.pl m.gone p with | some g=>g.seq | none=>0
def laterR (a b:RIt):RIt:=if a.seq < b.seq \/ (a.seq=b.seq /\ a.val < b.val) then b else a
def deeperR (a b:RGo):RGo:=if a.seq < b.seq then b else a
theorem laterR_pl (a b:RIt) (h:a.pl=b.pl):(laterR a b).pl=a.pl:=by unfold laterR;split;exact h.symm;rfl
theorem deeperR_pl (a b:RGo) (h:a.pl=b.pl):(deeperR a b).pl=a.pl:=by unfold deeperR;split;exact h.symm;rfl
end Go.Proofs.YtobjdpngnfbicaaGreatDoor
/- The plain mathematics of maps: codes, valid maps, events, merging. No program. -/
namespace Go.Proofs.YtobjdpngnfbicaaGreatDoor
set_option linter.unusedVariables false
set_option maxRecDepth 20000
/-! codes -/
def uvarF:Nat -> Nat -> List UInt8
 | 0,_=>[]
 | f+1,n=>if n < 128 then [UInt8.ofNat n] else UInt8.ofNat (n % 128+128) :: uvarF f (n / 128)
def uvar (n:Nat):List UInt8:=uvarF 10 n
theorem uvarF_mono (f:Nat):∀ (g n:Nat),n < 128 ^ f -> n < 128 ^ g -> 0 < f -> 0 < g -> uvarF f n=uvarF g n:=by
 induction f with
 | zero=>intro g n _ _ h _;omega
 | succ f ih=>
   intro g n h h' _ hg;cases g with
   | zero=>omega
   | succ g=>
     unfold uvarF
     by_cases hn:n < 128
     ·rw[if_pos hn,if_pos hn]
     ·rw[if_neg hn,if_neg hn]
      have hf:0 < f:=by
       rcases Nat.eq_zero_or_pos f with rfl | h0
       ·simp at h;omega
       ·exact h0
      have hg:0 < g:=by
       rcases Nat.eq_zero_or_pos g with rfl | h0
       ·simp at h';omega
       ·exact h0
      rw[ih g (n / 128) (by rw[Nat.div_lt_iff_lt_mul (by omega)];rwa [Nat.pow_succ] at h) (by rw[Nat.div_lt_iff_lt_mul (by omega)];rwa [Nat.pow_succ] at h') hf hg]
theorem uvar_small (n:Nat) (h:n < 128):uvar n = [UInt8.ofNat n]:=by unfold uvar uvarF;rw[if_pos h]
theorem uvar_step (n:Nat) (h:¬ n < 128) (h64:n < 18446744073709551616):uvar n=UInt8.ofNat (n % 128+128) :: uvar (n / 128):=by
 unfold uvar;rw[show (10:Nat)=9+1 from rfl,uvarF,if_neg h]
 congr 1
 exact uvarF_mono 9 10 _ (by omega) (by omega) (by omega) (by omega)
theorem uvarF_len (f:Nat):∀ n,(uvarF f n).length <= f:=by
 induction f with
 | zero=>intro n;simp[uvarF]
 | succ f ih=>
   intro n;unfold uvarF;split
   ·simp
   ·simpa using ih _
theorem uvar_len (n:Nat):(uvar n).length <= 10:=uvarF_len 10 n
theorem uvar_pos (n:Nat):0 < (uvar n).length:=by
 unfold uvar uvarF;split <;> simp
def codeText (k:RKey):List UInt8:=uvar k.length ++ k
def codeIt (x:RIt):List UInt8:=codeText x.key ++ (uvar x.dev.toNat ++ (uvar x.seq.toNat ++ uvar x.val.toNat))
def codeGo (x:RGo):List UInt8:=codeText x.key ++ (uvar x.dev.toNat ++ uvar x.seq.toNat)
def codeR (m:RMap):List UInt8:=
 m.seen.flatMap (fun n=>uvar n.toNat) ++ (uvar m.items.length ++ (m.items.flatMap codeIt ++ (uvar m.gone.length ++ m.gone.flatMap codeGo)))
/-! valid maps -/
def knownR (m:RMap) (p:RPl) (seq:Int):Bool:=ec p.1 && decide (0 <= p.2 /\ p.2 < m.seen.length /\ 1 <= seq /\ seq <= m.seen.getD p.2.toNat 0)
def goneOk (m:RMap) (g:RGo):Bool:=knownR m g.pl g.seq
def itemOk (m:RMap) (x:RIt):Bool:=knownR m x.pl x.seq && decide (1 <= x.val /\ x.val <= 16777216 /\ m.buried x.pl < x.seq)
def seenOk (n:Int):Bool:=decide (0 <= n /\ n <= 1099511627776)
def formedR (m:RMap):Bool:=
 decide (m.seen.length=8) && m.seen.all seenOk && decide (Asc RIt.pl m.items) && decide (Asc RGo.pl m.gone) && m.gone.all (goneOk m) && m.items.all (itemOk m)
def validR (m:RMap):Bool:=formedR m && decide (m.items.length <= 4096) && decide (m.gone.length <= 4096) && decide ((codeR m).length <= 60000)
/-! events -/
def allowedR (d:Int) (l:List RKey):Bool:=decide (0 <= d /\ d < 8) && decide l.Nodup && l.all ec
def fullR (m:RMap):RMap × Int:=if validR m then (m,0) else (.empty,7)
def sortK (l:List RKey):List RKey:=l.mergeSort fun x y=>decide (x <= y)
def seenUp (m:RMap) (d:Int):List Int:=m.seen.set d.toNat (m.seen.getD d.toNat 0+1)
def nowR (m:RMap) (d:Int):Int:=m.seen.getD d.toNat 0+1
def decUse (v n:Int):Int:=DM.aft n.toNat (DM.bnd v)+65536
def decAft (v n:Int):Int:=DM.aft n.toNat (DM.bnd v)
def usedIt (d now:Int) (k:RKey):RIt:=⟨k,d,now,65536⟩
def useBetter (now:Int) (old x:RIt):RIt:={ x with val:=decUse old.val (now - old.seq) }
def useM (m:RMap) (d:Int) (l:List RKey):RMap:=⟨seenUp m d,mergeL RIt.pl (useBetter (nowR m d)) m.items ((sortK l).map (usedIt d (nowR m d))),m.gone⟩
def useR (m:RMap) (d:Int) (l:List RKey):RMap × Int:=if validR m then (if allowedR d l then fullR (useM m d l) else (.empty,1)) else (.empty,5)
def goneOf (x:RIt):RGo:=⟨x.key,x.dev,x.seq⟩
def forgetM (m:RMap) (d:Int) (l:List RKey):RMap:=
 ⟨seenUp m d,m.items.filter (fun x=>decide (x.key ∉ l)),mergeL RGo.pl deeperR m.gone ((m.items.filter fun x=>decide (x.key ∈ l)).map goneOf)⟩
def forgetR (m:RMap) (d:Int) (l:List RKey):RMap × Int:=if validR m then (if allowedR d l then fullR (forgetM m d l) else (.empty,1)) else (.empty,5)
def mergeM (a b:RMap):RMap:=
 let g:=mergeL RGo.pl deeperR a.gone b.gone
 let out:RMap:=⟨List.zipWith max a.seen b.seen,[],g⟩
 { out with items:=(mergeL RIt.pl laterR a.items b.items).filter fun x=>decide (out.buried x.pl < x.seq) }
def mergeR (a b:RMap):RMap × Int:=if validR a && validR b then fullR (mergeM a b) else (.empty,5)
/-! values -/
def valIt (m:RMap) (x:RIt):Int:=decAft x.val (m.seen.getD x.dev.toNat 0 - x.seq)
def valueM (m:RMap) (k:RKey):Int:=((m.items.filter fun x=>decide (x.key=k)).map (valIt m)).sum
def valueR (m:RMap) (k:RKey):Int:=if validR m then valueM m k else 0
/-! the reference's events -/
def refItem (m:RMap) (d:Int) (k:RKey):RIt:=
 match look RIt.pl m.items (k,d) with
 | some o=>⟨k,d,nowR m d,decUse o.val (nowR m d - o.seq)⟩
 | none=>⟨k,d,nowR m d,65536⟩
def refUseM (m:RMap) (d:Int) (l:List RKey):RMap:=⟨seenUp m d,(l.map (refItem m d)).foldl (putL RIt.pl) m.items,m.gone⟩
/-! what a valid map is -/
structure Formed (m:RMap):Prop where
 len:m.seen.length=8
 seen:∀ n ∈ m.seen,0 <= n /\ n <= 1099511627776
 items:Asc RIt.pl m.items
 gone:Asc RGo.pl m.gone
 gknown:∀ g ∈ m.gone,knownR m g.pl g.seq=true
 iknown:∀ x ∈ m.items,knownR m x.pl x.seq=true
 val:∀ x ∈ m.items,1 <= x.val /\ x.val <= 16777216
 above:∀ x ∈ m.items,m.buried x.pl < x.seq
theorem formed_iff (m:RMap):formedR m=true↔Formed m:=by
 unfold formedR;simp only[Bool.and_eq_true,decide_eq_true_eq,List.all_eq_true,goneOk,itemOk,seenOk];constructor
 ·rintro⟨⟨⟨⟨⟨h1,h2⟩,h3⟩,h4⟩,h5⟩,h6⟩;exact⟨h1,h2,h3,h4,h5,fun x hx=>(h6 x hx).1,fun x hx=>⟨(h6 x hx).2.1,(h6 x hx).2.2.1⟩,fun x hx=>(h6 x hx).2.2.2⟩
 ·rintro⟨h1,h2,h3,h4,h5,h6,h7,h8⟩;exact⟨⟨⟨⟨⟨h1,h2⟩,h3⟩,h4⟩,h5⟩,fun x hx=>⟨h6 x hx,(h7 x hx).1,(h7 x hx).2,h8 x hx⟩⟩
theorem valid_formed {m:RMap} (h:validR m=true):Formed m:=by
 unfold validR at h;simp only[Bool.and_eq_true] at h;exact(formed_iff m).1 h.1.1.1
theorem known_seq {m:RMap} {p:RPl} {s:Int} (h:knownR m p s=true):0 <= p.2 /\ p.2 < m.seen.length /\ 1 <= s /\ s <= m.seen.getD p.2.toNat 0:=by
 unfold knownR at h;simp only[Bool.and_eq_true,decide_eq_true_eq] at h;exact h.2
theorem known_key {m:RMap} {p:RPl} {s:Int} (h:knownR m p s=true):ec p.1=true:=by
 unfold knownR at h;simp only[Bool.and_eq_true] at h;exact h.1
/-! the reference's events are the program's -/
theorem sortK_perm (l:List RKey):(sortK l).Perm l:=List.mergeSort_perm _ _
theorem sortK_sorted (l:List RKey):(sortK l).Pairwise fun a b=>a <= b:=by
 have:=List.pairwise_mergeSort (le:=fun x y:RKey=>decide (x <= y)) (fun a b c h1 h2=>by
  simp only[decide_eq_true_eq] at *
  exact List.le_trans h1 h2) (fun a b=>by
  rcases List.le_total a b with h | h <;> simp[h]) l
 exact this.imp fun h=>by simpa using h
theorem sortK_strict (l:List RKey) (h:l.Nodup):(sortK l).Pairwise fun a b=>a < b:=by
 have h1:=sortK_sorted l;have h2:(sortK l).Nodup:=(sortK_perm l).nodup_iff.2 h;have:=List.Pairwise.and h1 h2;exact this.imp fun {a b} ⟨h1,h2⟩=>Classical.byContradiction fun hn=>h2 (List.le_antisymm h1 (List.not_lt.1 hn))
theorem asc_used (d now:Int) (l:List RKey) (h:l.Nodup):Asc RIt.pl ((sortK l).map (usedIt d now)):=by
 unfold Asc;rw[List.pairwise_map];exact(sortK_strict l h).imp fun h=>.inl h
theorem look_map_key {f:RKey -> RIt} {d:Int} (hf:∀ k,(f k).pl=(k,d)) (l:List RKey) (p:RPl):look RIt.pl (l.map f) p=if p.2=d /\ p.1 ∈ l then some (f p.1) else none:=by
 induction l with
 | nil=>simp[look]
 | cons k l ih=>
   rw[List.map_cons,look_cons,ih,hf];obtain⟨q,e⟩:=p
   by_cases h:(k,d)=(q,e)
   ·obtain⟨rfl,rfl⟩:=Prod.mk.inj h;simp
   ·rw[if_neg h]
    by_cases h2:e=d /\ q ∈ l
    ·rw[if_pos h2,if_pos ⟨h2.1,List.mem_cons_of_mem _ h2.2⟩]
    ·rw[if_neg h2,if_neg];rintro⟨h3,h4⟩;rcases List.mem_cons.1 h4 with h5 | h5
     ·exact h (Prod.ext h5.symm h3.symm)
     ·exact h2 ⟨h3,h5⟩
theorem refUse_eq (m:RMap) (d:Int) (l:List RKey) (h:Asc RIt.pl m.items) (hl:l.Nodup):refUseM m d l=useM m d l:=by
 unfold refUseM useM
 congr 1
 have hpl:∀ k,(refItem m d k).pl=(k,d):=fun k=>by unfold refItem;split <;> rfl
 have hpl2:∀ k,(usedIt d (nowR m d) k).pl=(k,d):=fun k=>rfl
 have hb:∀ x y:RIt,x.pl=y.pl -> (useBetter (nowR m d) x y).pl=x.pl:=fun x y e=>e.symm
 refine asc_ext (asc_puts _ _ h) (asc_merge hb h (asc_used d _ l hl)) fun p=>?_
 rw[look_puts _ _ h ?_,look_merge hb h (asc_used d _ l hl),look_map_key hpl,look_map_key hpl2]
 ·have hmem:p.1 ∈ sortK l↔p.1 ∈ l:=(sortK_perm l).mem_iff
  by_cases hp:p.2=d /\ p.1 ∈ l
  ·rw[if_pos hp,if_pos ⟨hp.1,hmem.2 hp.2⟩];unfold refItem;have e:p=(p.1,d):=Prod.ext rfl hp.1;rw[<- e];cases look RIt.pl m.items p with
   | none=>rfl
   | some o=>rfl
  ·rw[if_neg hp,if_neg (fun h=>hp ⟨h.1,hmem.1 h.2⟩)];cases look RIt.pl m.items p <;> rfl
 ·rw[List.pairwise_map];exact hl.imp fun {a b} hne e=>hne (by rw[hpl,hpl] at e;exact(Prod.mk.inj e).1)
theorem asc_goneOf {l:List RIt} (h:Asc RIt.pl l):Asc RGo.pl (l.map goneOf):=by
 unfold Asc;rw[List.pairwise_map];exact h
theorem zip_max_len (a b:List Int) (h:a.length=b.length):(List.zipWith max a b).length=a.length:=by simp[h]
end Go.Proofs.YtobjdpngnfbicaaGreatDoor
/- The length of a code; lists of keys. No program. -/
namespace Go.Proofs.YtobjdpngnfbicaaGreatDoor
set_option linter.unusedVariables false
set_option maxRecDepth 20000
theorem keyOk_len {k:List UInt8} (h:ec k=true):k.length <= 400:=by
 cases k with
 | nil=>simp
 | cons c r=>
   obtain⟨i,hi,-,hm⟩:=(qf c r).1 h;unfold fj at hm;simp only[Bool.and_eq_true,decide_eq_true_eq,List.length_take,List.length_drop] at hm;simp only[aB];omega
theorem flat_len_le {α β:Type} (f:α -> List β) (k:Nat):∀ l:List α,(∀ x ∈ l,(f x).length <= k) -> (l.flatMap f).length <= l.length * k
 | [],_=>by simp
 | x :: l,h=>by
   rw[List.flatMap_cons,ax,aB,Nat.succ_mul];have h1:=h x List.mem_cons_self;have h2:=flat_len_le f k l fun y hy=>h y (List.mem_cons_of_mem _ hy)
   omega
theorem codeText_len (k:RKey) (h:k.length <= 400):(codeText k).length <= 410:=by
 unfold codeText;have:=uvar_len k.length;rw[ax];omega
theorem codeIt_len (x:RIt) (h:x.key.length <= 400):(codeIt x).length <= 440:=by
 unfold codeIt;have h1:=codeText_len x.key h;have h2:=uvar_len x.dev.toNat;have h3:=uvar_len x.seq.toNat;have h4:=uvar_len x.val.toNat;simp only[ax];omega
theorem codeGo_len (x:RGo) (h:x.key.length <= 400):(codeGo x).length <= 430:=by
 unfold codeGo;have h1:=codeText_len x.key h;have h2:=uvar_len x.dev.toNat;have h3:=uvar_len x.seq.toNat;simp only[ax];omega
theorem codeR_len (m:RMap) (hs:m.seen.length <= 1000) (hi:m.items.length <= 100000) (hg:m.gone.length <= 100000) (ki:∀ x ∈ m.items,x.key.length <= 400) (kg:∀ x ∈ m.gone,x.key.length <= 400):(codeR m).length <= 1000000000:=by
 unfold codeR;have h1:=flat_len_le (fun n:Int=>uvar n.toNat) 10 m.seen fun n _=>uvar_len _
 have h2:=flat_len_le codeIt 440 m.items fun x hx=>codeIt_len x (ki x hx)
 have h3:=flat_len_le codeGo 430 m.gone fun x hx=>codeGo_len x (kg x hx)
 have h4:=uvar_len m.items.length;have h5:=uvar_len m.gone.length;simp only[ax];omega
/-! a code in its steps -/
def codeA (m:RMap):List UInt8:=m.seen.flatMap (fun n=>uvar n.toNat) ++ uvar m.items.length
def codeB (m:RMap) (k:Nat):List UInt8:=codeA m ++ (m.items.take k).flatMap codeIt
def codeC (m:RMap) (k:Nat):List UInt8:=codeB m m.items.length ++ (uvar m.gone.length ++ (m.gone.take k).flatMap codeGo)
theorem codeC_all (m:RMap):codeC m m.gone.length=codeR m:=by
 unfold codeC codeB codeA codeR;simp only[List.take_length,az]
theorem codeB_zero (m:RMap):codeB m 0=codeA m:=by simp[codeB]
theorem codeC_zero (m:RMap):codeC m 0=codeB m m.items.length ++ uvar m.gone.length:=by simp[codeC]
theorem flat_take {α β:Type} (f:α -> List β) (l:List α) (k:Nat) (h:k < l.length):(l.take (k+1)).flatMap f=(l.take k).flatMap f ++ f l[k]:=by
 rw[List.take_succ_eq_append_getElem h,List.flatMap_append];simp
theorem codeB_succ (m:RMap) (k:Nat) (h:k < m.items.length):codeB m (k+1)=codeB m k ++ codeText m.items[k].key ++ [m.items[k].dev,m.items[k].seq,m.items[k].val].flatMap (fun n=>uvar n.toNat):=by
 unfold codeB;rw[flat_take _ _ _ h];simp[codeIt,az]
theorem codeC_succ (m:RMap) (k:Nat) (h:k < m.gone.length):codeC m (k+1)=codeC m k ++ codeText m.gone[k].key ++ [m.gone[k].dev,m.gone[k].seq].flatMap (fun n=>uvar n.toNat):=by
 unfold codeC;rw[flat_take _ _ _ h];simp[codeGo,az]
theorem flat_take_le {α β:Type} (f:α -> List β) (l:List α) (k:Nat):((l.take k).flatMap f).length <= (l.flatMap f).length:=by
 conv=>rhs;rw[<- List.take_append_drop k l,List.flatMap_append,ax]
 omega
theorem codeC_le (m:RMap) (k:Nat):(codeC m k).length <= (codeR m).length:=by
 have h3:=flat_take_le codeGo m.gone k;unfold codeC codeB codeA codeR;simp only[List.take_length,ax];omega
theorem codeB_le (m:RMap) (k:Nat):(codeB m k).length <= (codeR m).length:=by
 have h3:=flat_take_le codeIt m.items k;unfold codeB codeA codeR;simp only[ax];omega
theorem codeA_le (m:RMap):(codeA m).length <= (codeR m).length:=by rw[<- codeB_zero];exact codeB_le m 0
/-! merging and putting, step by step -/
section
variable {α:Type} {pl:α -> RPl}
theorem merge_at_lt (better:α -> α -> α) (A B:List α) (i j:Nat) (hi:i < A.length) (hj:j < B.length) (h:plt (pl A[i]) (pl B[j])):mergeL pl better (A.drop i) (B.drop j)=A[i] :: mergeL pl better (A.drop (i+1)) (B.drop j):=by
 rw[List.drop_eq_getElem_cons hi,List.drop_eq_getElem_cons hj,mergeL_lt _ _ _ h]
theorem merge_at_gt (better:α -> α -> α) (A B:List α) (i j:Nat) (hi:i < A.length) (hj:j < B.length) (h:plt (pl B[j]) (pl A[i])):mergeL pl better (A.drop i) (B.drop j)=B[j] :: mergeL pl better (A.drop i) (B.drop (j+1)):=by
 rw[List.drop_eq_getElem_cons hi,List.drop_eq_getElem_cons hj,mergeL_gt _ _ _ h]
theorem merge_at_eq (better:α -> α -> α) (A B:List α) (i j:Nat) (hi:i < A.length) (hj:j < B.length) (h:pl A[i]=pl B[j]):mergeL pl better (A.drop i) (B.drop j)=better A[i] B[j] :: mergeL pl better (A.drop (i+1)) (B.drop (j+1)):=by
 rw[List.drop_eq_getElem_cons hi,List.drop_eq_getElem_cons hj,mergeL_eq _ _ _ h]
theorem merge_end (better:α -> α -> α) (A B:List α) (i j:Nat) (h:¬ (i < A.length /\ j < B.length)):mergeL pl better (A.drop i) (B.drop j)=A.drop i ++ B.drop j:=by
 by_cases hi:i < A.length
 ·rw[List.drop_eq_nil_of_le (as:=B) (by omega),mergeL_nil_r,List.append_nil]
 ·rw[List.drop_eq_nil_of_le (as:=A) (by omega),mergeL_nil_l,List.nil_append]
end
end Go.Proofs.YtobjdpngnfbicaaGreatDoor
/- Merging maps: formed maps stay formed; merging is idempotent, commutative and associative. No program. -/
namespace Go.Proofs.YtobjdpngnfbicaaGreatDoor
set_option linter.unusedVariables false
set_option maxRecDepth 20000
/-! elements of a merged list -/
section
variable {α:Type} {pl:α -> RPl}
theorem mem_merge {better:α -> α -> α} (hb:∀ x y,pl x=pl y -> pl (better x y)=pl x) (hc:∀ x y,better x y=x \/ better x y=y) {a b:List α} (ha:Asc pl a) (hb':Asc pl b) {z:α} (hz:z ∈ mergeL pl better a b):z ∈ a \/ z ∈ b:=by
 have h1:=look_of_mem (asc_merge hb ha hb') hz;rw[look_merge hb ha hb'] at h1;cases ea:look pl a (pl z) with
 | none=>
   rw[ea] at h1;exact .inr (look_mem (show look pl b (pl z)=some z from h1))
 | some x=>
   rw[ea] at h1;cases eb:look pl b (pl z) with
   | none=>
     rw[eb] at h1;obtain rfl:x=z:=by simpa[both] using h1
     exact .inl (look_mem ea)
   | some y=>
     rw[eb] at h1;have h2:better x y=z:=by simpa[both] using h1
     rcases hc x y with h | h
     ·rw[h] at h2;subst h2;exact .inl (look_mem ea)
     ·rw[h] at h2;subst h2;exact .inr (look_mem eb)
end
theorem laterR_or (a b:RIt):laterR a b=a \/ laterR a b=b:=by unfold laterR;split <;> simp
theorem deeperR_or (a b:RGo):deeperR a b=a \/ deeperR a b=b:=by unfold deeperR;split <;> simp
/-! what is forgotten in a merged map -/
def above (n:Int) (o:Option RIt):Option RIt:=o.filter fun x=>decide (n < x.seq)
/-! formed maps stay formed -/
theorem known_mono {m m':RMap} {p:RPl} {s:Int} (h:knownR m p s=true) (hl:m'.seen.length=m.seen.length) (hs:∀ i,m.seen.getD i 0 <= m'.seen.getD i 0):knownR m' p s=true:=by
 have hk:=known_key h;obtain⟨h1,h2,h3,h4⟩:=known_seq h;unfold knownR;simp only[Bool.and_eq_true,decide_eq_true_eq];exact⟨hk,h1,by rw[hl];exact h2,h3,Int.le_trans h4 (hs _)⟩
theorem zip_max_get (a b:List Int) (h:a.length=b.length) (i:Nat):(List.zipWith max a b).getD i 0=max (a.getD i 0) (b.getD i 0):=by
 simp only[List.getD_eq_getElem?_getD,List.getElem?_zipWith]
 by_cases hi:i < a.length
 ·rw[List.getElem?_eq_getElem hi,List.getElem?_eq_getElem (h ▸ hi)];rfl
 ·rw[List.getElem?_eq_none (by omega),List.getElem?_eq_none (by omega)];rfl
theorem merge_seen_len (a b:RMap) (ha:Formed a) (hb:Formed b):(mergeM a b).seen.length=8:=by
 show (List.zipWith max a.seen b.seen).length=8;rw[zip_max_len _ _ (ha.len.trans hb.len.symm),ha.len]
theorem merge_seen (a b:RMap) (ha:Formed a) (hb:Formed b) (i:Nat):(mergeM a b).seen.getD i 0=max (a.seen.getD i 0) (b.seen.getD i 0):=zip_max_get _ _ (ha.len.trans hb.len.symm) i
theorem seen_get {m:RMap} (h:Formed m) (i:Nat):0 <= m.seen.getD i 0 /\ m.seen.getD i 0 <= 1099511627776:=by
 by_cases hi:i < m.seen.length
 ·rw[List.getD_eq_getElem?_getD,List.getElem?_eq_getElem hi];exact h.seen _ (aA hi)
 ·rw[List.getD_eq_getElem?_getD,List.getElem?_eq_none (by omega)];exact⟨Int.le_refl _,by decide⟩
theorem merge_formed (a b:RMap) (ha:Formed a) (hb:Formed b):Formed (mergeM a b):=by
 have hl:=merge_seen_len a b ha hb;have ka:∀ {p s},knownR a p s=true -> knownR (mergeM a b) p s=true:=fun h=>known_mono h (hl.trans ha.len.symm) fun i=>by rw[merge_seen a b ha hb];omega
 have kb:∀ {p s},knownR b p s=true -> knownR (mergeM a b) p s=true:=fun h=>known_mono h (hl.trans hb.len.symm) fun i=>by rw[merge_seen a b ha hb];omega
 have gm:∀ g ∈ (mergeM a b).gone,g ∈ a.gone \/ g ∈ b.gone:=fun g hg=>mem_merge deeperR_pl deeperR_or ha.gone hb.gone hg
 have im:∀ x ∈ (mergeM a b).items,(x ∈ a.items \/ x ∈ b.items) /\ (mergeM a b).buried x.pl < x.seq:=fun x hx=>by
  obtain⟨h1,h2⟩:=List.mem_filter.1 (show x ∈ (mergeL RIt.pl laterR a.items b.items).filter fun x=>decide ((mergeM a b).buried x.pl < x.seq) from hx);exact⟨mem_merge laterR_pl laterR_or ha.items hb.items h1,by simpa using h2⟩
 refine⟨hl,fun n hn=>?_,asc_filter (asc_merge laterR_pl ha.items hb.items) _,asc_merge deeperR_pl ha.gone hb.gone,fun g hg=>?_,fun x hx=>?_,fun x hx=>?_,fun x hx=>(im x hx).2⟩
 ·obtain⟨i,hi,rfl⟩:=List.mem_iff_getElem.1 hn;have h1:=merge_seen a b ha hb i;rw[List.getD_eq_getElem?_getD,List.getElem?_eq_getElem hi] at h1;have h2:=seen_get ha i;have h3:=seen_get hb i;simp only[Option.getD_some] at h1;rw[h1];omega
 ·exact(gm g hg).elim (fun h=>ka (ha.gknown g h)) (fun h=>kb (hb.gknown g h))
 ·exact(im x hx).1.elim (fun h=>ka (ha.iknown x h)) (fun h=>kb (hb.iknown x h))
 ·exact(im x hx).1.elim (ha.val x) (hb.val x)
/-! two formed maps are equal if they have the same at all places -/
end Go.Proofs.YtobjdpngnfbicaaGreatDoor
/- Events on maps: formed maps stay formed, knowledge grows, values. No program. -/
namespace Go.Proofs.YtobjdpngnfbicaaGreatDoor
set_option linter.unusedVariables false
set_option maxRecDepth 20000
structure Allowed (d:Int) (l:List RKey):Prop where
 lo:0 <= d
 hi:d < 8
 nodup:l.Nodup
 keys:∀ k ∈ l,ec k=true
theorem allowed_iff (d:Int) (l:List RKey):allowedR d l=true↔Allowed d l:=by
 unfold allowedR;simp only[Bool.and_eq_true,decide_eq_true_eq,List.all_eq_true];exact⟨fun ⟨⟨⟨h1,h2⟩,h3⟩,h4⟩=>⟨h1,h2,h3,h4⟩,fun h=>⟨⟨⟨h.lo,h.hi⟩,h.nodup⟩,h.keys⟩⟩
theorem up_get (m:RMap) (d:Int) (h0:d.toNat < m.seen.length) (i:Nat):(seenUp m d).getD i 0=if i=d.toNat then m.seen.getD i 0+1 else m.seen.getD i 0:=by
 unfold seenUp;simp only[List.getD_eq_getElem?_getD,List.getElem?_set]
 by_cases h:d.toNat=i
 ·subst h;simp[h0]
 ·rw[if_neg h,if_neg (fun e=>h e.symm)]
theorem up_len (m:RMap) (d:Int):(seenUp m d).length=m.seen.length:=by unfold seenUp;simp
theorem dev_lt {m:RMap} {d:Int} (h:Formed m) (h1:0 <= d) (h2:d < 8):d.toNat < m.seen.length:=by rw[h.len];omega
/-! an event that uses keys -/
theorem refItem_pl (m:RMap) (d:Int) (k:RKey):(refItem m d k).pl=(k,d):=by unfold refItem;split <;> rfl
theorem refItem_seq (m:RMap) (d:Int) (k:RKey):(refItem m d k).seq=nowR m d:=by unfold refItem;split <;> rfl
theorem use_look (m:RMap) (d:Int) (l:List RKey) (h:Asc RIt.pl m.items) (hl:l.Nodup) (p:RPl):look RIt.pl (useM m d l).items p=if p.2=d /\ p.1 ∈ l then some (refItem m d p.1) else look RIt.pl m.items p:=by
 rw[<- refUse_eq m d l h hl];show look RIt.pl ((l.map (refItem m d)).foldl (putL RIt.pl) m.items) p=_;rw[look_puts _ _ h ?_,look_map_key (fun k=>refItem_pl m d k)]
 ·by_cases hp:p.2=d /\ p.1 ∈ l
  ·rw[if_pos hp,if_pos hp]
  ·rw[if_neg hp,if_neg hp]
 ·rw[List.pairwise_map];exact hl.imp fun {a b} hne e=>hne (by rw[refItem_pl,refItem_pl] at e;exact(Prod.mk.inj e).1)
theorem use_asc (m:RMap) (d:Int) (l:List RKey) (h:Asc RIt.pl m.items) (hl:l.Nodup):Asc RIt.pl (useM m d l).items:=by
 rw[<- refUse_eq m d l h hl];exact asc_puts _ _ h
theorem use_mem {m:RMap} {d:Int} {l:List RKey} (h:Asc RIt.pl m.items) (hl:l.Nodup) {x:RIt} (hx:x ∈ (useM m d l).items):(∃ k ∈ l,x=refItem m d k) \/ x ∈ m.items:=by
 have h1:=look_of_mem (use_asc m d l h hl) hx;rw[use_look m d l h hl] at h1
 by_cases hp:x.pl.2=d /\ x.pl.1 ∈ l
 ·rw[if_pos hp] at h1;exact .inl ⟨_,hp.2,(Option.some.inj h1).symm⟩
 ·rw[if_neg hp] at h1;exact .inr (look_mem h1)
theorem refItem_val {m:RMap} {d:Int} (h:Formed m) (hd0:0 <= d) (hd:d < 8) (k:RKey):65536 <= (refItem m d k).val /\ (refItem m d k).val <= 16777216:=by
 unfold refItem;cases e:look RIt.pl m.items (k,d) with
 | none=>exact⟨Int.le_refl _,(by decide:(65536:Int) <= 16777216)⟩
 | some o=>
   have hm:=look_mem e;have hp:=look_pl e;obtain⟨v0,v1⟩:=h.val o hm;have hk:=(known_seq (h.iknown o hm)).2.2.2;rw[hp] at hk;show 65536 <= decUse o.val (nowR m d - o.seq) /\ decUse o.val (nowR m d - o.seq) <= 16777216;have hn:1 <= nowR m d - o.seq:=by unfold nowR;dsimp only at hk;omega
   unfold decUse;rw[DM.bnd_id o.val (by omega) (by omega)];have a0:=DM.aft_nonneg (nowR m d - o.seq).toNat o.val (by omega);have a1:=DM.aft_more 1 (nowR m d - o.seq).toNat o.val (by omega) (by omega)
   have a2:DM.aft 1 o.val=DM.stp o.val:=by
    rw[show (1:Nat)=0+1 from rfl,DM.aft_succ_pos _ _ (by omega)];rfl
   have a3:DM.stp o.val <= 16711680:=by unfold DM.stp;omega
   omega
/-! an event that forgets keys -/
theorem forget_gmem {m:RMap} {d:Int} {l:List RKey} (h:Formed m) {g:RGo} (hg:g ∈ (forgetM m d l).gone):(∃ x ∈ m.items,x.key ∈ l /\ g=goneOf x) \/ g ∈ m.gone:=by
 have hf:=asc_filter h.items (fun x=>decide (x.key ∈ l));rcases mem_merge deeperR_pl deeperR_or h.gone (asc_goneOf hf) hg with h1 | h1
 ·exact .inr h1
 ·obtain⟨x,hx,rfl⟩:=List.mem_map.1 h1;obtain⟨h2,h3⟩:=List.mem_filter.1 hx;exact .inl ⟨x,h2,by simpa using h3,rfl⟩
/-! values -/
theorem valIt_nonneg (m:RMap) (x:RIt):0 <= valIt m x:=DM.aft_nonneg _ _ (DM.bnd_nonneg _)
end Go.Proofs.YtobjdpngnfbicaaGreatDoor
/- Three devices' copies: small maps are valid; runs of acts never fail; all orders of merging agree. No program. -/
namespace Go.Proofs.YtobjdpngnfbicaaGreatDoor
set_option linter.unusedVariables false
set_option maxRecDepth 20000
def places (K:List RKey):List RPl:=K.flatMap fun k=>[(k,0),(k,1),(k,2)]
/-! what calls return -/
/-! three copies -/
/-! a use that was not known stays -/
end Go.Proofs.YtobjdpngnfbicaaGreatDoor
/- Codes can be read in one way only. No program. -/
namespace Go.Proofs.YtobjdpngnfbicaaGreatDoor
set_option linter.unusedVariables false
set_option maxRecDepth 20000
theorem valid_nums {m:RMap} (h:validR m=true):(∀ n ∈ m.seen,0 <= n /\ n <= 1099511627776) /\ (∀ x ∈ m.items,x.key.length <= 400 /\ (0 <= x.dev /\ x.dev < 8) /\ (1 <= x.seq /\ x.seq <= 1099511627776) /\ 1 <= x.val /\ x.val <= 16777216) /\
 (∀ x ∈ m.gone,x.key.length <= 400 /\ (0 <= x.dev /\ x.dev < 8) /\ 1 <= x.seq /\ x.seq <= 1099511627776):=by
 have f:=valid_formed h
 have sg:∀ i,m.seen.getD i 0 <= 1099511627776:=fun i=>by
  by_cases hi:i < m.seen.length
  ·rw[List.getD_eq_getElem?_getD,List.getElem?_eq_getElem hi];exact(f.seen _ (aA hi)).2
  ·rw[List.getD_eq_getElem?_getD,List.getElem?_eq_none (by omega)]
   decide
 refine⟨f.seen,fun x hx=>?_,fun x hx=>?_⟩
 ·obtain⟨h1,h2,h3,h4⟩:=known_seq (f.iknown x hx);have:=sg x.pl.2.toNat;rw[f.len] at h2;exact⟨keyOk_len (known_key (f.iknown x hx)),⟨h1,h2⟩,⟨h3,by omega⟩,f.val x hx⟩
 ·obtain⟨h1,h2,h3,h4⟩:=known_seq (f.gknown x hx);have:=sg x.pl.2.toNat;rw[f.len] at h2;exact⟨keyOk_len (known_key (f.gknown x hx)),⟨h1,h2⟩,h3,by omega⟩
theorem valid_lens {m:RMap} (h:validR m=true):m.seen.length=8 /\ m.items.length <= 4096 /\ m.gone.length <= 4096 /\ (codeR m).length <= 60000:=by
 have f:=valid_formed h;unfold validR at h;simp only[Bool.and_eq_true,decide_eq_true_eq] at h;exact⟨f.len,h.1.1.2,h.1.2,h.2⟩
/-! how far a code has been read -/
def NumAt (b:List UInt8) (n:Nat) (r:List UInt8):Prop:=n < 18446744073709551616 /\ b=uvar n ++ r
end Go.Proofs.YtobjdpngnfbicaaGreatDoor
