/-
  KMath DecayMath RMath RDec RDecQ Kit Mem RMem Clone RCode
-/
import Derived.Lib.ValidU
import Derived.Lib.TrimUEq
import Derived.Lib.Hide
import Derived.ProofKit
import Derived.BigQuiet
import Derived.Laws.CopyOwn
import Derived.Sort.EncStr
import Derived.Test.YtobjdpngnfbicaaGreatDoorChecked
import Derived.WalkSpells
import Derived.Lib.AppendStr
import Derived.Deep.LoopGhost
open Go.IntWalk renaming u8_in->ap
open Nat renaming le_refl->aq,le_trans->au,lt_of_lt_of_le->aw
open List renaming length_append->aA,append_assoc->aB,getElem_mem->aC,length_cons->aD
open Go.Proofs.Tryz renaming prog->aE
set_option maxHeartbeats 3000000
set_option maxRecDepth 100000
set_option linter.all false
namespace Go.Proofs.YtobjdpngnfbicaaGreatDoor
open Go.RowKit
open Go.Proofs.Tryz
variable(w:World)(n k:Nat)(v:Value)(b:List UInt8){W w':World}{u:Value}{i j o:Nat}{l:List UInt8}{L:List Value}{t:TypeId}
/-! UTF-8, as the reference reads it: the character at the head of l, and how many bytes it has; 0, 0: there is none -/
def dD(b:Nat):Nat×Nat:=if b<128 then(1,b) else if 192 <= b /\ b<224 then(2,b-192) else if 224 <= b /\ b<240 then(3,b-224) else if 240 <= b /\ b<248 then(4,b-240) else(0,0)
def rCh(c:Nat):Bool:=decide (c <= 1114111 /\ (c<55296 \/ 57343<c))
def dT(b:Nat):Bool:=decide (128 <= b /\ b <= 191)
def jy(n a b d e:Nat):Nat×Nat:=
 if a<128 then(a,1)
 else if 192 <= a /\ a<224 then(if 2 <= n /\ dT b then(let c:=64*(a-192)+(b-128);if 128 <= c /\ rCh c then(c,2) else(0,0)) else(0,0))
 else if 224 <= a /\ a<240 then(if 3 <= n /\ dT b /\ dT d then(let c:=64*(64*(a-224)+(b-128))+(d-128);if 2048 <= c /\ rCh c then(c,3) else(0,0)) else(0,0))
 else if 240 <= a /\ a<248 then(if 4 <= n /\ dT b /\ dT d /\ dT e then(let c:=64*(64*(64*(a-240)+(b-128))+(d-128))+(e-128);if 65536 <= c /\ rCh c then(c,4) else(0,0)) else(0,0))
 else(0,0)
theorem oF(n a d e f:Nat)(C:a<256)(m:d<256)(t:e<256)(w:f<256):
 ((jy n a d e f).2=0↔Lib.decodeN n a d e f=(65533,1)) /\ ((jy n a d e f).2≠0 -> jy n a d e f=Lib.decodeN n a d e f):=by
 have i:∀b:Nat,b<256 -> (dT b=true↔b/64=2):=λb D=>by unfold dT;simp only[decide_eq_true_eq];omega
 have z:(a/32=6)↔(192 <= a /\ a<224):=by omega
 have x:(a/16=14)↔(224 <= a /\ a<240):=by omega
 have y:(a/8=30)↔(240 <= a /\ a<248):=by omega
 unfold jy Lib.decodeN
 by_cases v:a<128
 ·simp[v];omega
 ·simp only[if_neg v]
  by_cases o:192 <= a /\ a<224
  ·by_cases g:1<n /\ d/64=2
   ·have j:2 <= n /\ dT d=true:=⟨g.1,(i d m).2 g.2⟩
    have q:a%32*64+d%64=64*(a-192)+(d-128):=by omega
    simp only[if_pos o,if_pos j,if_pos (And.intro (z.2 o) g),q,rCh,decide_eq_true_eq]
    by_cases h:128 <= 64*(a-192)+(d-128)
    ·have k:64*(a-192)+(d-128) <= 1114111 /\ (64*(a-192)+(d-128)<55296 \/ 57343<64*(a-192)+(d-128)):=by omega
     simp[h,k]
    ·simp[h]
   ·have j:¬(2 <= n /\ dT d=true):=λh=>g ⟨h.1,(i d m).1 h.2⟩
    have u:¬(a/32=6 /\ (1<n /\ d/64=2)):=λh=>g h.2
    have r:¬(a/16=14 /\ (1<n /\ d/64=2) /\ (2<n /\ e/64=2)):=λh=>by omega
    have l:¬(a/8=30 /\ (1<n /\ d/64=2) /\ (2<n /\ e/64=2) /\ (3<n /\ f/64=2)):=λh=>by omega
    simp[if_pos o,if_neg j,if_neg u,if_neg r,if_neg l]
  ·have u:¬(a/32=6 /\ (1<n /\ d/64=2)):=λh=>o (z.1 h.1)
   simp only[if_neg o,if_neg u]
   by_cases p:224 <= a /\ a<240
   ·by_cases g:(1<n /\ d/64=2) /\ (2<n /\ e/64=2)
    ·have j:3 <= n /\ dT d=true /\ dT e=true:=⟨by omega,(i d m).2 g.1.2,(i e t).2 g.2.2⟩
     have q:a%16*4096+d%64*64+e%64=64*(64*(a-224)+(d-128))+(e-128):=by omega
     simp only[if_pos p,if_pos j,if_pos (And.intro (x.2 p) g),q,rCh,decide_eq_true_eq];generalize A:64*(64*(a-224)+(d-128))+(e-128)=c;have E:c<65536:=by omega
     by_cases h:2048 <= c /\ (c<55296 \/ 57343<c)
     ·have k:2048 <= c /\ (c <= 1114111 /\ (c<55296 \/ 57343<c)):=by omega
      have B:c ≥ 2048 /\ (c<55296 \/ 57344 <= c /\ c <= 1114111):=by omega
      simp only[if_pos k];rw[if_pos (by omega)];simp
     ·have k:¬(2048 <= c /\ (c <= 1114111 /\ (c<55296 \/ 57343<c))):=by omega
      simp only[if_neg k];rw[if_neg (by omega)];simp
    ·have j:¬(3 <= n /\ dT d=true /\ dT e=true):=λh=>g ⟨⟨by omega,(i d m).1 h.2.1⟩,⟨by omega,(i e t).1 h.2.2⟩⟩
     have r:¬(a/16=14 /\ (1<n /\ d/64=2) /\ (2<n /\ e/64=2)):=λh=>g h.2
     have l:¬(a/8=30 /\ (1<n /\ d/64=2) /\ (2<n /\ e/64=2) /\ (3<n /\ f/64=2)):=λh=>by omega
     simp[if_pos p,if_neg j,if_neg r,if_neg l]
   ·have r:¬(a/16=14 /\ (1<n /\ d/64=2) /\ (2<n /\ e/64=2)):=λh=>p (x.1 h.1)
    simp only[if_neg p,if_neg r]
    by_cases s:240 <= a /\ a<248
    ·by_cases g:(1<n /\ d/64=2) /\ (2<n /\ e/64=2) /\ (3<n /\ f/64=2)
     ·have j:4 <= n /\ dT d=true /\ dT e=true /\ dT f=true:=⟨by omega,(i d m).2 g.1.2,(i e t).2 g.2.1.2,(i f w).2 g.2.2.2⟩
      have q:a%8*262144+d%64*4096+e%64*64+f%64=64*(64*(64*(a-240)+(d-128))+(e-128))+(f-128):=by omega
      simp only[if_pos s,if_pos j,if_pos (And.intro (y.2 s) g),q,rCh,decide_eq_true_eq];generalize A:64*(64*(64*(a-240)+(d-128))+(e-128))+(f-128)=c
      by_cases h:65536 <= c /\ c <= 1114111
      ·have k:65536 <= c /\ (c <= 1114111 /\ (c<55296 \/ 57343<c)):=by omega
       simp only[if_pos k];rw[if_pos (by omega)];simp
      ·have k:¬(65536 <= c /\ (c <= 1114111 /\ (c<55296 \/ 57343<c))):=by omega
       simp only[if_neg k];rw[if_neg (by omega)];simp
     ·have j:¬(4 <= n /\ dT d=true /\ dT e=true /\ dT f=true):=λh=>g ⟨⟨by omega,(i d m).1 h.2.1⟩,⟨by omega,(i e t).1 h.2.2.1⟩,⟨by omega,(i f w).1 h.2.2.2⟩⟩
      have l:¬(a/8=30 /\ (1<n /\ d/64=2) /\ (2<n /\ e/64=2) /\ (3<n /\ f/64=2)):=λh=>g h.2
      simp[if_neg j,if_neg l]
    ·have l:¬(a/8=30 /\ (1<n /\ d/64=2) /\ (2<n /\ e/64=2) /\ (3<n /\ f/64=2)):=λh=>s (y.1 h.1)
     simp[if_neg s,if_neg l]
def jz(l:List UInt8):Nat×Nat:=jy l.length (l.getD 0 0).toNat (l.getD 1 0).toNat (l.getD 2 0).toNat (l.getD 3 0).toNat
theorem rs:(jz b).2=0↔Lib.decodeL b=(65533,1):=by
 rw[Lib.decodeL_N];exact(oF _ _ _ _ _ (UInt8.toNat_lt _) (UInt8.toNat_lt _) (UInt8.toNat_lt _) (UInt8.toNat_lt _)).1
theorem rt(h:(jz b).2≠0):jz b=Lib.decodeL b:=by
 rw[Lib.decodeL_N];exact(oF _ _ _ _ _ (UInt8.toNat_lt _) (UInt8.toNat_lt _) (UInt8.toNat_lt _) (UInt8.toNat_lt _)).2 h
def nG:Nat -> List UInt8 -> Bool
 |0,_=>true
 |n+1,l=>if l = [] then true else if(jz l).2=0 then false else nG n (l.drop (jz l).2)
theorem tT:∀(n:Nat)(l:List UInt8),nG n l=Lib.validGoD n l
 |0,_=>rfl
 |n+1,l=>by
  unfold nG Lib.validGoD
  by_cases a:l = []
  ·simp[a]
  ·rw[if_neg a,if_neg a]
   by_cases h:(jz l).2=0
   ·have:=(rs l).1 h;rw[if_pos h,if_pos (by rw[this];exact⟨rfl,rfl⟩)]
   ·have b:¬((Lib.decodeL l).1=65533 /\ (Lib.decodeL l).2=1):=λe=>h ((rs l).2 (Prod.ext e.1 e.2))
    rw[if_neg h,if_neg b,rt l h,tT n]
/-! keys -/
def fK(s:List UInt8):Bool:=decide (s≠[])&&Lib.validD s&&decide ((0:UInt8)∉s)
def fq(c:Int)(a b:List UInt8):Bool:=decide (c=1 \/ c=2)&&fK a&&fK b&&decide (a.length+b.length <= 398)
def nH(r:List UInt8):List UInt8:=r.takeWhile (· != 0)
def nI(r:List UInt8):List UInt8:=(r.dropWhile (· != 0)).drop 1
def eY:List UInt8 -> Bool
 |[]=>false
 |c::r=>fq ((c.toNat:Int)-48) (nH r) (nI r)
theorem Cz:∀(r:List UInt8)(i:Nat),i<r.length -> (∀j,j<i -> r[j]?≠some 0) -> r[i]?=some 0 -> nH r=r.take i /\ nI r=r.drop (i+1)
 |[],i,h,_,_=>by simp at h
 |c::r,0,_,_,a=>by
  have:c=0:=by simpa using a
  subst this;unfold nH nI;simp
 |c::r,i+1,hi,b,a=>by
  have f:c≠0:=by
   have:=b 0 (by omega);simpa using this
  obtain⟨d,e⟩:=Cz r i (by simpa using hi) (λj g=>by have:=b (j+1) (by omega);simpa using this) (by simpa using a);unfold nH nI at *;rw[List.takeWhile_cons,List.dropWhile_cons];simp[f,d,e]
theorem wN(h:(0:UInt8)∉b):nH b=b /\ nI b = []:=by
 induction b with
 |nil=>exact⟨rfl,rfl⟩
 |cons c b i=>
  have f:c≠0:=λe=>h (by simp[e])
  obtain⟨a,d⟩:=i (λg=>h (List.mem_cons_of_mem _ g));unfold nH nI at *;rw[List.takeWhile_cons,List.dropWhile_cons];simp[f,a,d]
theorem ru:fK []=false:=by simp[fK]
theorem tU(h:(0:UInt8)∈b):fK b=false:=by simp[fK,h]
theorem pK(c:UInt8)(r:List UInt8):eY (c::r)=true↔∃i,i<r.length /\ r[i]?=some 0 /\ fq ((c.toNat:Int)-48) (r.take i) (r.drop (i+1))=true:=by
 show fq _ (nH r) (nI r)=true↔_
 by_cases h:(0:UInt8)∈r
 ·obtain⟨i,hi,e,l⟩:∃i,∃_:i<r.length,r[i]?=some 0 /\ ∀j,j<i -> r[j]?≠some 0:=by
   refine⟨r.findIdx (· == 0),List.findIdx_lt_length_of_exists ⟨0,h,by simp⟩,?_,λj f k=>?_⟩
   ·have:=List.findIdx_getElem (xs:=r) (p:=(· == 0)) (w:=List.findIdx_lt_length_of_exists ⟨0,h,by simp⟩);rw[List.getElem?_eq_getElem (List.findIdx_lt_length_of_exists ⟨0,h,by simp⟩)];simpa using this
   ·have t:=(List.getElem?_eq_some_iff.1 k).1;have:=List.not_of_lt_findIdx (xs:=r) (p:=(· == 0)) f;have m:=(List.getElem?_eq_some_iff.1 k).2;simp[m] at this
  obtain⟨b,d⟩:=Cz r i hi l e;rw[b,d];refine⟨λa=>⟨i,hi,e,a⟩,?_⟩;rintro⟨j,f,g,a⟩;rcases Nat.lt_trichotomy j i with q|n|o
  ·exact absurd g (l j q)
  ·exact n▸a
  ·exfalso
   have s:(0:UInt8)∈r.take j:=by
    have:(r.take j)[i]?=some 0:=by rw[List.getElem?_take,if_pos o];exact e
    exact List.mem_of_getElem? this
   simp[fq,tU _ s] at a
 ·obtain⟨b,d⟩:=wN r h;rw[b,d];constructor
  ·intro a;simp[fq,ru] at a
  ·rintro⟨j,f,g,a⟩;exact absurd (List.mem_of_getElem? g) h
end Go.Proofs.YtobjdpngnfbicaaGreatDoor
namespace Go.Proofs.YtobjdpngnfbicaaGreatDoor.DM
variable(w:World)(n k:Nat)(v:Value)(b:List UInt8){W w':World}{u:Value}{i j o:Nat}{l:List UInt8}{L:List Value}{t:TypeId}
def stp(v:Int):Int:=v-(v+255)/256
def aft:Nat -> Int -> Int
 |0,v=>v
 |n+1,v=>if 0<v then aft n (stp v) else v
def bnd(v:Int):Int:=min (max v 0) 1099511627776
theorem bnd_nonneg(v:Int):0 <= bnd v:=by unfold bnd;omega
theorem bnd_le(v:Int):bnd v <= 1099511627776:=by unfold bnd;omega
theorem bnd_id(v:Int)(h:0 <= v)(a:v <= 1099511627776):bnd v=v:=by unfold bnd;omega
theorem stp_nonneg(v:Int)(h:0 <= v):0 <= stp v:=by unfold stp;omega
theorem stp_lt(v:Int)(h:0<v):stp v<v:=by unfold stp;omega
theorem stp_le(v:Int)(h:0 <= v):stp v <= v:=by unfold stp;omega
theorem stp_mul(v:Int):v*255/256=stp v:=by unfold stp;omega
theorem aft_zero_of(v:Int)(h:¬0<v):aft n v=v:=by
 cases n with
 |zero=>rfl
 |succ n=>simp[aft,h]
theorem aft_succ_pos(v:Int)(h:0<v):aft (n+1) v=aft n (stp v):=by simp[aft,h]
theorem aft_nonneg:∀v:Int,0 <= v -> 0 <= aft n v:=by
 induction n with
 |zero=>intro v h;exact h
 |succ n a=>
  intro v h;unfold aft;split
  ·exact a _ (stp_nonneg v h)
  ·exact h
theorem aft_le:∀v:Int,0 <= v -> aft n v <= v:=by
 induction n with
 |zero=>intro v _;exact Int.le_refl _
 |succ n a=>
  intro v h;unfold aft;split
  ·have:=a _ (stp_nonneg v h);have:=stp_le v h;omega
  ·exact Int.le_refl _
theorem aft_succ':∀v:Int,aft (n+1) v=if 0<aft n v then stp (aft n v) else aft n v:=by
 induction n with
 |zero=>intro v;rfl
 |succ n a=>
  intro v
  by_cases h:0<v
  ·rw[aft_succ_pos (n+1) v h,a,aft_succ_pos n v h]
  ·rw[aft_zero_of _ v h,aft_zero_of _ v h,if_neg h]
theorem aft_add:∀v:Int,aft k (aft n v)=aft (n+k) v:=by
 induction n with
 |zero=>intro v;simp[aft]
 |succ n a=>
  intro v
  by_cases h:0<v
  ·rw[aft_succ_pos n v h,a,show n+1+k=(n+k)+1 from by omega,aft_succ_pos _ v h]
  ·rw[aft_zero_of _ v h,aft_zero_of _ v h,aft_zero_of _ v h]
theorem aft_more(m n:Nat)(v:Int)(h:0 <= v)(a:m <= n):aft n v <= aft m v:=by
 obtain⟨k,rfl⟩:∃k,n=m+k:=⟨n-m,by omega⟩
 rw[<- aft_add];exact aft_le _ _ (aft_nonneg _ _ h)
end Go.Proofs.YtobjdpngnfbicaaGreatDoor.DM
namespace Go.Proofs.YtobjdpngnfbicaaGreatDoor
open Go.RowKit
open Go.Proofs.Tryz
variable(w:World)(n k:Nat)(v:Value)(b:List UInt8){W w':World}{u:Value}{i j o:Nat}{l:List UInt8}{L:List Value}{t:TypeId}
section
abbrev bQ:=List UInt8
abbrev RPl:=bQ×Int
/-! the order of keys -/
theorem ll(a:bQ):¬a<a:=List.lt_irrefl a
theorem Bh{a b c:bQ}(h:a<b)(k:b<c):a<c:=List.lt_trans h k
theorem u9{a b:bQ}(h:¬a<b)(k:¬b<a):a=b:=List.le_antisymm (List.not_lt.1 k) (List.not_lt.1 h)
/-! the order of places -/
def plt(a b:RPl):Prop:=a.1<b.1 \/ (a.1=b.1 /\ a.2<b.2)
instance(a b:RPl):Decidable (plt a b):=by unfold plt;exact inferInstance
theorem gM(a:RPl):¬plt a a:=by
 rintro(h|h)
 ·exact ll _ h
 ·omega
theorem iG{a b c:RPl}(h:plt a b)(k:plt b c):plt a c:=by
 rcases h with h|⟨h,e⟩
 ·rcases k with k|⟨k,d⟩
  ·exact .inl (Bh h k)
  ·exact .inl (k▸h)
 ·rcases k with k|⟨k,d⟩
  ·exact .inl (h▸k)
  ·exact .inr ⟨h.trans k,by omega⟩
theorem tV{a b:RPl}(h:plt a b):¬plt b a:=λk=>gM a (iG h k)
theorem jd{a b:RPl}(h:plt a b):a≠b:=λe=>gM b (e▸h)
theorem my{a b:RPl}(h:¬plt a b)(k:¬plt b a):a=b:=by
 have d:¬a.1<b.1:=λx=>h (.inl x)
 have e:¬b.1<a.1:=λx=>k (.inl x)
 have c:=u9 d e;have f:¬a.2<b.2:=λx=>h (.inr ⟨c,x⟩)
 have g:¬b.2<a.2:=λx=>k (.inr ⟨c.symm,x⟩)
 exact Prod.ext c (by omega)
def ij(a b:RPl):Int:=if plt a b then -1 else if plt b a then 1 else 0
/-! lists whose places ascend -/
section
variable {α:Type} (pl:α -> RPl)
def Asc(l:List α):Prop:=l.Pairwise λa b=>plt (pl a) (pl b)
def Fs(l:List α):Prop:=∀i (h:i+1<l.length),plt (pl l[i]) (pl l[i+1])
theorem jZ:∀l:List α,Fs pl l -> Asc pl l
 |[],_=>.nil
 |[a],_=>List.pairwise_singleton _ _
 |a::b::l,h=>by
  have f:Asc pl (b::l):=jZ (b::l) λi hi=>by
   have:=h (i+1) (by simpa using hi);simpa using this
  have e:plt (pl a) (pl b):=h 0 (by simp);refine List.Pairwise.cons (λc d=>?_) f;rcases List.mem_cons.1 d with rfl|d
  ·exact e
  ·exact iG e ((List.pairwise_cons.1 f).1 c d)
theorem iU{l:List α}(h:Asc pl l):Fs pl l:=λi hi=>List.pairwise_iff_getElem.1 h i (i+1) (by omega) hi (by omega)
theorem oG(l:List α):Asc pl l↔Fs pl l:=⟨iU pl,jZ pl l⟩
instance(l:List α):Decidable (Asc pl l):=by unfold Asc;exact inferInstance
def df(l:List α)(p:RPl):Option α:=l.find? λx=>decide (pl x=p)
variable {pl}
theorem oH(p:RPl):df pl ([]:List α) p=none:=rfl
theorem cF(x:α)(l:List α)(p:RPl):df pl (x::l) p=if pl x=p then some x else df pl l p:=by
 unfold df;rw[List.find?_cons]
 by_cases h:pl x=p<;>simp[h]
theorem oI{l:List α}{p:RPl}{x:α}(h:df pl l p=some x):pl x=p:=by
 have:=List.find?_some h;simpa using this
theorem gB{l:List α}{p:RPl}{x:α}(h:df pl l p=some x):x∈l:=List.mem_of_find?_eq_some h
theorem gS{l:List α}{p:RPl}:df pl l p=none↔∀x∈l,pl x≠p:=by
 unfold df;rw[List.find?_eq_none];simp
theorem lS{l:List α}(h:Asc pl l){x:α}(b:x∈l):df pl l (pl x)=some x:=by
 induction l with
 |nil=>cases b
 |cons a l d=>
  rw[cF];have c:=List.pairwise_cons.1 h;rcases List.mem_cons.1 b with rfl|b
  ·simp
  ·rw[if_neg (jd (c.1 x b)),d c.2 b]
theorem oJ:∀{a b:List α},Asc pl a -> Asc pl b -> (∀p,df pl a p=df pl b p) -> a=b
 |[],[],_,_,_=>rfl
 |[],y::b,_,o,h=>by
  have:=h (pl y);rw[oH,cF,if_pos rfl] at this;cases this
 |x::a,[],n,_,h=>by
  have:=h (pl x);rw[oH,cF,if_pos rfl] at this;cases this
 |x::a,y::b,n,o,h=>by
  have j:=List.pairwise_cons.1 n;have k:=List.pairwise_cons.1 o
  have q:x=y:=by
   have l:=h (pl x);rw[cF,if_pos rfl] at l;have g:=gB l.symm;have m:=h (pl y);rw[cF (x:=y),if_pos rfl] at m;have i:=gB m;rcases List.mem_cons.1 g with e|g
   ·exact e
   ·rcases List.mem_cons.1 i with e|i
    ·exact e.symm
    ·exact absurd (j.1 y i) (tV (k.1 x g))
  subst q
  congr 1
  refine oJ j.2 k.2 λp=>?_
  have d:=h p;rw[cF,cF] at d
  by_cases e:pl x=p
  ·have r:df pl a p=none:=gS.2 λz f c=>jd (j.1 z f) (e.trans c.symm)
   have s:df pl b p=none:=gS.2 λz f c=>jd (k.1 z f) (e.trans c.symm)
   rw[r,s]
  ·rw[if_neg e,if_neg e] at d;exact d
theorem iH{l:List α}(h:Asc pl l)(f:α -> Bool):Asc pl (l.filter f):=List.Pairwise.filter f h
theorem j0{l:List α}(h:Asc pl l)(f:α -> Bool)(p:RPl):df pl (l.filter f) p=(df pl l p).filter f:=by
 induction l with
 |nil=>rfl
 |cons a l d=>
  have c:=List.pairwise_cons.1 h;rw[List.filter_cons,cF]
  by_cases b:f a=true
  ·rw[if_pos b,cF,d c.2]
   by_cases e:pl a=p
   ·simp[e,Option.filter,b]
   ·simp[e]
  ·rw[if_neg b,d c.2]
   by_cases e:pl a=p
   ·have j:df pl l p=none:=gS.2 λz i g=>jd (c.1 z i) (e.trans g.symm)
    simp[e,j,Option.filter,b]
   ·simp[e]
/-! two ascending lists as one -/
variable (pl) in
def cH(c:α -> α -> α):List α -> List α -> List α
 |[],b=>b
 |a,[]=>a
 |x::a,y::b=>if plt (pl x) (pl y) then x::cH c a (y::b) else if plt (pl y) (pl x) then y::cH c (x::a) b else c x y::cH c a b
termination_by a b=>a.length+b.length
theorem fs(a:α -> α -> α)(b:List α):cH pl a [] b=b:=by rw[cH]
theorem lm(b:α -> α -> α)(a:List α):cH pl b a []=a:=by cases a<;>simp[cH]
theorem pL(c:α -> α -> α){x y:α}(a b:List α)(h:plt (pl x) (pl y)):cH pl c (x::a) (y::b)=x::cH pl c a (y::b):=by rw[cH,if_pos h]
theorem pM(c:α -> α -> α){x y:α}(a b:List α)(h:plt (pl y) (pl x)):cH pl c (x::a) (y::b)=y::cH pl c (x::a) b:=by rw[cH,if_neg (tV h),if_pos h]
theorem pN(c:α -> α -> α){x y:α}(a b:List α)(h:pl x=pl y):cH pl c (x::a) (y::b)=c x y::cH pl c a b:=by
 rw[cH,if_neg (by rw[h];exact gM _),if_neg (by rw[h];exact gM _)]
def both(a:α -> α -> α):Option α -> Option α -> Option α
 |some x,some y=>some (a x y)
 |some x,none=>some x
 |none,r=>r
theorem rx(m:α -> α -> α)(F:∀x y,pl x=pl y -> pl (m x y)=pl x)(n:Nat):∀a b:List α,a.length+b.length <= n -> Asc pl a -> Asc pl b ->
 (∀p,df pl (cH pl m a b) p=both m (df pl a p) (df pl b p)) /\ Asc pl (cH pl m a b) /\ ∀q,(∀x∈a,plt q (pl x)) -> (∀x∈b,plt q (pl x)) -> ∀x∈cH pl m a b,plt q (pl x):=by
 induction n with
 |zero=>
  intro a b h v w;obtain rfl:a = []:=List.length_eq_zero_iff.1 (by omega);obtain rfl:b = []:=List.length_eq_zero_iff.1 (by omega);rw[fs];exact⟨λp=>rfl,.nil,λq _ _ x A=>by cases A⟩
 |succ n C=>
  intro a b h v w
  match a,b with
  |[],b=>rw[fs];exact⟨λp=>by rw[oH];rfl,w,λq _ j=>j⟩
  |x::a,[]=>
   rw[lm];refine⟨λp=>?_,v,λq i _=>i⟩;rw[oH];cases df pl (x::a) p<;>rfl
  |x::a,y::b=>
   have s:=List.pairwise_cons.1 v;have t:=List.pairwise_cons.1 w;simp only[aD] at h
   by_cases i:plt (pl x) (pl y)
   ·rw[pL _ _ _ i];obtain⟨o,r,i3⟩:=C a (y::b) (by simp;omega) s.2 w
    have A:∀z∈y::b,plt (pl x) (pl z):=λz c=>by
     rcases List.mem_cons.1 c with rfl|c
     ·exact i
     ·exact iG i (t.1 z c)
    refine⟨λp=>?_,List.Pairwise.cons (i3 _ s.1 A) r,λq f k z c=>?_⟩
    ·rw[cF,cF (l:=a),o]
     by_cases e:pl x=p
     ·have D:df pl (y::b) p=none:=gS.2 λz c g=>jd (A z c) (e.trans g.symm)
      simp[e,D,both]
     ·simp[e]
    ·rcases List.mem_cons.1 c with rfl|c
     ·exact f _ (List.mem_cons_self)
     ·exact i3 q (λu d=>f u (List.mem_cons_of_mem _ d)) k z c
   ·by_cases j:plt (pl y) (pl x)
    ·rw[pM _ _ _ j];obtain⟨o,r,i3⟩:=C (x::a) b (by simp;omega) v t.2
     have E:∀z∈x::a,plt (pl y) (pl z):=λz c=>by
      rcases List.mem_cons.1 c with rfl|c
      ·exact j
      ·exact iG j (s.1 z c)
     refine⟨λp=>?_,List.Pairwise.cons (i3 _ E t.1) r,λq f k z c=>?_⟩
     ·rw[cF,cF (l:=b),o]
      by_cases e:pl y=p
      ·have D:df pl (x::a) p=none:=gS.2 λz c g=>jd (E z c) (e.trans g.symm)
       simp[e,D,both]
      ·simp[e]
     ·rcases List.mem_cons.1 c with rfl|c
      ·exact k _ (List.mem_cons_self)
      ·exact i3 q f (λu d=>k u (List.mem_cons_of_mem _ d)) z c
    ·have e:=my i j;rw[pN _ _ _ e];obtain⟨o,r,i3⟩:=C a b (by omega) s.2 t.2;have B:=F x y e;refine⟨λp=>?_,List.Pairwise.cons ?_ r,λq f k z c=>?_⟩
     ·rw[cF,cF (l:=a),cF (l:=b),o,B,<- e]
      by_cases g:pl x=p
      ·simp[g,both]
      ·simp[g]
     ·rw[B];exact i3 _ s.1 (by rw[e];exact t.1)
     ·rcases List.mem_cons.1 c with rfl|c
      ·rw[B];exact f _ (List.mem_cons_self)
      ·exact i3 q (λu d=>f u (List.mem_cons_of_mem _ d)) (λu d=>k u (List.mem_cons_of_mem _ d)) z c
theorem jA{c:α -> α -> α}(e:∀x y,pl x=pl y -> pl (c x y)=pl x){a b:List α}(d:Asc pl a)(f:Asc pl b)(p:RPl):df pl (cH pl c a b) p=both c (df pl a p) (df pl b p):=
 (rx c e _ a b (aq _) d f).1 p
theorem gT{c:α -> α -> α}(e:∀x y,pl x=pl y -> pl (c x y)=pl x){a b:List α}(d:Asc pl a)(f:Asc pl b):Asc pl (cH pl c a b):=
 (rx c e _ a b (aq _) d f).2.1
theorem tW(f:α -> α -> α)(n:Nat):∀a b:List α,a.length+b.length <= n -> (cH pl f a b).length <= a.length+b.length:=by
 induction n with
 |zero=>
  intro a b h;obtain rfl:a = []:=List.length_eq_zero_iff.1 (by omega);rw[fs];omega
 |succ n c=>
  intro a b h
  match a,b with
  |[],b=>rw[fs];simp
  |x::a,[]=>rw[lm];simp
  |x::a,y::b=>
   simp only[aD] at h⊢
   by_cases d:plt (pl x) (pl y)
   ·rw[pL _ _ _ d];have:=c a (y::b) (by simp;omega);simp at this⊢;omega
   ·by_cases e:plt (pl y) (pl x)
    ·rw[pM _ _ _ e];have:=c (x::a) b (by simp;omega);simp at this⊢;omega
    ·rw[pN _ _ _ (my d e)];have:=c a b (by omega);simp;omega
/-! an element is put in its place -/
variable (pl) in
def dL(l:List α)(x:α):List α:=l.takeWhile (λe=>decide (plt (pl e) (pl x)))++x::(l.dropWhile (λe=>decide (plt (pl e) (pl x)))).filter (λe=>decide (pl e≠pl x))
theorem qm{x e:α}(l:List α)(h:plt (pl e) (pl x)):dL pl (e::l) x=e::dL pl l x:=by
 unfold dL;rw[List.takeWhile_cons,List.dropWhile_cons];simp[h]
theorem oK{x e:α}(l:List α)(h:¬plt (pl e) (pl x)):dL pl (e::l) x=x::(e::l).filter (λe=>decide (pl e≠pl x)):=by
 unfold dL;rw[List.takeWhile_cons,List.dropWhile_cons];simp[h]
theorem AB(x:α):dL pl [] x = [x]:=rfl
theorem ry(x:α):∀l:List α,Asc pl l -> (∀p,df pl (dL pl l x) p=if pl x=p then some x else df pl l p) /\ Asc pl (dL pl l x) /\ ∀q,plt q (pl x) -> (∀e∈l,plt q (pl e)) -> ∀e∈dL pl l x,plt q (pl e)
 |[],_=>by
  rw[AB];exact⟨λp=>by rw[cF],List.pairwise_singleton _ _,λq h _ e g=>by rcases List.mem_cons.1 g with rfl|g;exact h;cases g⟩
 |e::l,h=>by
  have k:=List.pairwise_cons.1 h;obtain⟨w,y,i3⟩:=ry x l k.2
  by_cases c:plt (pl e) (pl x)
  ·rw[qm _ c];refine⟨λp=>?_,List.Pairwise.cons (i3 _ c k.1) y,λq m d z a=>?_⟩
   ·rw[cF,cF,w]
    by_cases b:pl e=p
    ·have:pl x≠p:=λf=>jd c (b.trans f.symm)
     simp[b,this]
    ·simp[b]
   ·rcases List.mem_cons.1 a with rfl|a
    ·exact d _ List.mem_cons_self
    ·exact i3 q m (λu v=>d u (List.mem_cons_of_mem _ v)) z a
  ·rw[oK _ c]
   have t:∀z∈(e::l).filter (λe=>decide (pl e≠pl x)),plt (pl x) (pl z):=λz a=>by
    obtain⟨a,j⟩:=List.mem_filter.1 a;have n:pl z≠pl x:=by simpa using j
    rcases List.mem_cons.1 a with rfl|a
    ·exact Classical.byContradiction λi=>n (my c i)
    ·have r:=k.1 z a;refine Classical.byContradiction λi=>?_
     by_cases o:plt (pl z) (pl x)
     ·exact c (iG r o)
     ·exact n (my o i)
   refine⟨λp=>?_,List.Pairwise.cons t (iH h _),λq m d z a=>?_⟩
   ·rw[cF,j0 h]
    by_cases b:pl x=p
    ·simp[b]
    ·rw[if_neg b,if_neg b];cases s:df pl (e::l) p with
     |none=>rfl
     |some z=>
      have:=oI s;have j:pl z≠pl x:=λf=>b (f.symm.trans this)
      simp[j]
   ·rcases List.mem_cons.1 a with rfl|a
    ·exact m
    ·exact d z (List.mem_filter.1 a).1
theorem CA{l:List α}(h:Asc pl l)(x:α)(p:RPl):df pl (dL pl l x) p=if pl x=p then some x else df pl l p:=(ry x l h).1 p
theorem AC{l:List α}(h:Asc pl l)(x:α):Asc pl (dL pl l x):=(ry x l h).2.1
theorem lT(a:List α):∀l:List α,Asc pl l -> Asc pl (a.foldl (dL pl) l):=by
 induction a with
 |nil=>intro l h;exact h
 |cons x a b=>intro l h;exact b _ (AC h x)
theorem kL(c:List α):∀l:List α,Asc pl l -> (c.Pairwise λa b=>pl a≠pl b) -> ∀p,df pl (c.foldl (dL pl) l) p=match df pl c p with|some x=>some x|none=>df pl l p:=by
 induction c with
 |nil=>intro l h _ p;rfl
 |cons x c j=>
  intro l h g p;have d:=List.pairwise_cons.1 g;rw[List.foldl_cons,j _ (AC h x) d.2,CA h,cF]
  by_cases e:pl x=p
  ·have k:df pl c p=none:=gS.2 λz i f=>d.1 z i (e.trans f.symm)
   simp[e,k]
  ·simp[e]
end
/-! maps -/
structure RIt where
 key:bQ
 dev:Int
 seq:Int
 val:Int
structure RGo where
 key:bQ
 dev:Int
 seq:Int
structure aT where
 seen:List Int
 items:List RIt
 gone:List RGo
def RIt.pl(x:RIt):RPl:=(x.key,x.dev)
def RGo.pl(x:RGo):RPl:=(x.key,x.dev)
def aT.empty:aT:=⟨[],[],[]⟩
def aT.new:aT:=⟨List.replicate 8 0,[],[]⟩
def aT.buried(m:aT)(p:RPl):Int:=match df RGo.pl m.gone p with|some g=>g.seq|none=>0
def fM(a b:RIt):RIt:=if a.seq<b.seq \/ (a.seq=b.seq /\ a.val<b.val) then b else a
def dM(a b:RGo):RGo:=if a.seq<b.seq then b else a
theorem mz(a b:RIt)(h:a.pl=b.pl):(fM a b).pl=a.pl:=by unfold fM;split;exact h.symm;rfl
theorem fN(a b:RGo)(h:a.pl=b.pl):(dM a b).pl=a.pl:=by unfold dM;split;exact h.symm;rfl
/- The plain mathematics of maps: codes, valid maps, events, merging. No program. -/
end
/-! codes -/
def ik:Nat -> Nat -> List UInt8
 |0,_=>[]
 |f+1,n=>if n<128 then[UInt8.ofNat n] else UInt8.ofNat (n%128+128)::ik f (n/128)
def bY(n:Nat):List UInt8:=ik 10 n
theorem yS:∀(g n:Nat),n<128 ^ k -> n<128 ^ g -> 0<k -> 0<g -> ik k n=ik g n:=by
 induction k with
 |zero=>intro g n _ _ h _;omega
 |succ k i=>
  intro g n h c _ d;cases g with
  |zero=>omega
  |succ g=>
   unfold ik
   by_cases a:n<128
   ·rw[if_pos a,if_pos a]
   ·rw[if_neg a,if_neg a]
    have e:0<k:=by
     rcases Nat.eq_zero_or_pos k with rfl|b
     ·simp at h;omega
     ·exact b
    have d:0<g:=by
     rcases Nat.eq_zero_or_pos g with rfl|b
     ·simp at c;omega
     ·exact b
    rw[i g (n/128) (by rw[Nat.div_lt_iff_lt_mul (by omega)];rwa [Nat.pow_succ] at h) (by rw[Nat.div_lt_iff_lt_mul (by omega)];rwa [Nat.pow_succ] at c) e d]
theorem nJ(h:n<128):bY n = [UInt8.ofNat n]:=by unfold bY ik;rw[if_pos h]
theorem kM(h:¬n<128)(a:n<18446744073709551616):bY n=UInt8.ofNat (n%128+128)::bY (n/128):=by
 unfold bY;rw[show(10:Nat)=9+1 from rfl,ik,if_neg h]
 congr 1
 exact yS 9 10 _ (by omega) (by omega) (by omega) (by omega)
theorem Bi:∀n,(ik k n).length <= k:=by
 induction k with
 |zero=>intro n;simp[ik]
 |succ k a=>
  intro n;unfold ik;split
  ·simp
  ·simpa using a _
theorem cq:(bY n).length <= 10:=Bi 10 n
theorem il:0<(bY n).length:=by
 unfold bY ik;split<;>simp
def bt(k:bQ):List UInt8:=bY k.length++k
def gN(x:RIt):List UInt8:=bt x.key++(bY x.dev.toNat++(bY x.seq.toNat++bY x.val.toNat))
def ft(x:RGo):List UInt8:=bt x.key++(bY x.dev.toNat++bY x.seq.toNat)
def cQ(m:aT):List UInt8:=
 m.seen.flatMap (λn=>bY n.toNat)++(bY m.items.length++(m.items.flatMap gN++(bY m.gone.length++m.gone.flatMap ft)))
/-! valid maps -/
def dl(m:aT)(p:RPl)(a:Int):Bool:=eY p.1&&decide (0 <= p.2 /\ p.2<m.seen.length /\ 1 <= a /\ a <= m.seen.getD p.2.toNat 0)
def nK(m:aT)(g:RGo):Bool:=dl m g.pl g.seq
def lU(m:aT)(x:RIt):Bool:=dl m x.pl x.seq&&decide (1 <= x.val /\ x.val <= 16777216 /\ m.buried x.pl<x.seq)
def kj(n:Int):Bool:=decide (0 <= n /\ n <= 1099511627776)
def gH(m:aT):Bool:=
 decide (m.seen.length=8)&&m.seen.all kj&&decide (Asc RIt.pl m.items)&&decide (Asc RGo.pl m.gone)&&m.gone.all (nK m)&&m.items.all (lU m)
def aV(m:aT):Bool:=gH m&&decide (m.items.length <= 4096)&&decide (m.gone.length <= 4096)&&decide ((cQ m).length <= 60000)
/-! events -/
def dc(d:Int)(l:List bQ):Bool:=decide (0 <= d /\ d<8)&&decide l.Nodup&&l.all eY
def gw(m:aT):aT×Int:=if aV m then(m,0) else(.empty,7)
def dt(l:List bQ):List bQ:=l.mergeSort λx y=>decide (x <= y)
def de(m:aT)(d:Int):List Int:=m.seen.set d.toNat (m.seen.getD d.toNat 0+1)
def je(m:aT)(d:Int):Int:=m.seen.getD d.toNat 0+1
def ko(v n:Int):Int:=DM.aft n.toNat (DM.bnd v)+65536
def yT(v n:Int):Int:=DM.aft n.toNat (DM.bnd v)
def kq(d a:Int)(k:bQ):RIt:=⟨k,d,a,65536⟩
def gU(b:Int)(a x:RIt):RIt:={ x with val:=ko a.val (b-a.seq) }
def iV(m:aT)(d:Int)(l:List bQ):aT:=⟨de m d,cH RIt.pl (gU (je m d)) m.items ((dt l).map (kq d (je m d))),m.gone⟩
def iB(m:aT)(d:Int)(l:List bQ):aT×Int:=if aV m then(if dc d l then gw (iV m d l) else(.empty,1)) else(.empty,5)
def dN(x:RIt):RGo:=⟨x.key,x.dev,x.seq⟩
def dI(m:aT)(d:Int)(l:List bQ):aT:=
 ⟨de m d,m.items.filter (λx=>decide (x.key∉l)),cH RGo.pl dM m.gone ((m.items.filter λx=>decide (x.key∈l)).map dN)⟩
def dy(m:aT)(d:Int)(l:List bQ):aT×Int:=if aV m then(if dc d l then gw (dI m d l) else(.empty,1)) else(.empty,5)
def dK(a b:aT):aT:=
 let g:=cH RGo.pl dM a.gone b.gone
 let out:aT:=⟨List.zipWith max a.seen b.seen,[],g⟩
 { out with items:=(cH RIt.pl fM a.items b.items).filter λx=>decide (out.buried x.pl<x.seq) }
def dh(a b:aT):aT×Int:=if aV a&&aV b then gw (dK a b) else(.empty,5)
/-! values -/
def kN(m:aT)(x:RIt):Int:=yT x.val (m.seen.getD x.dev.toNat 0-x.seq)
def CB(m:aT)(k:bQ):Int:=((m.items.filter λx=>decide (x.key=k)).map (kN m)).sum
def lV(m:aT)(k:bQ):Int:=if aV m then CB m k else 0
/-! the reference's events -/
def dJ(m:aT)(d:Int)(k:bQ):RIt:=
 match df RIt.pl m.items (k,d) with
 |some o=>⟨k,d,je m d,ko o.val (je m d-o.seq)⟩
 |none=>⟨k,d,je m d,65536⟩
def vd(m:aT)(d:Int)(l:List bQ):aT:=⟨de m d,(l.map (dJ m d)).foldl (dL RIt.pl) m.items,m.gone⟩
def nM(m:aT)(d:Int)(l:List bQ):aT:=
 ⟨de m d,m.items.filter (λx=>decide (x.key∉l)),((m.items.filter λx=>decide (x.key∈l)).map dN).foldl (dL RGo.pl) m.gone⟩
def tX(a b:aT):aT:=
 let g:=(b.gone.filter λg=>decide (a.buried g.pl<g.seq)).foldl (dL RGo.pl) a.gone
 let out:aT:=⟨List.zipWith max a.seen b.seen,[],g⟩
 let all:=(b.items.filter λx=>match df RIt.pl a.items x.pl with|some y=>decide (y.seq<x.seq \/ (x.seq=y.seq /\ y.val<x.val))|none=>true).foldl (dL RIt.pl) a.items
 { out with items:=all.filter λx=>decide (out.buried x.pl<x.seq) }
/-! what a valid map is -/
structure ez(m:aT):Prop where
 len:m.seen.length=8
 seen:∀n∈m.seen,0 <= n /\ n <= 1099511627776
 items:Asc RIt.pl m.items
 gone:Asc RGo.pl m.gone
 gknown:∀g∈m.gone,dl m g.pl g.seq=true
 iknown:∀x∈m.items,dl m x.pl x.seq=true
 val:∀x∈m.items,1 <= x.val /\ x.val <= 16777216
 above:∀x∈m.items,m.buried x.pl<x.seq
theorem ej(m:aT):gH m=true↔ez m:=by
 unfold gH;simp only[Bool.and_eq_true,decide_eq_true_eq,List.all_eq_true,nK,lU,kj];constructor
 ·rintro⟨⟨⟨⟨⟨c,d⟩,e⟩,f⟩,g⟩,b⟩;exact⟨c,d,e,f,g,λx a=>(b x a).1,λx a=>⟨(b x a).2.1,(b x a).2.2.1⟩,λx a=>(b x a).2.2.2⟩
 ·rintro⟨c,d,e,f,g,b,h,i⟩;exact⟨⟨⟨⟨⟨c,d⟩,e⟩,f⟩,g⟩,λx a=>⟨b x a,(h x a).1,(h x a).2,i x a⟩⟩
theorem cA{m:aT}(h:aV m=true):ez m:=by
 unfold aV at h;simp only[Bool.and_eq_true] at h;exact(ej m).1 h.1.1.1
theorem eQ{m:aT}{p:RPl}{s:Int}(h:dl m p s=true):0 <= p.2 /\ p.2<m.seen.length /\ 1 <= s /\ s <= m.seen.getD p.2.toNat 0:=by
 unfold dl at h;simp only[Bool.and_eq_true,decide_eq_true_eq] at h;exact h.2
theorem dV{m:aT}{p:RPl}{s:Int}(h:dl m p s=true):eY p.1=true:=by
 unfold dl at h;simp only[Bool.and_eq_true] at h;exact h.1
/-! the reference's events are the program's -/
theorem ek(l:List bQ):(dt l).Perm l:=List.mergeSort_perm _ _
theorem oM(l:List bQ):(dt l).Pairwise λa b=>a <= b:=by
 have:=List.pairwise_mergeSort (le:=λx y:bQ=>decide (x <= y)) (λa b c d e=>by
  simp only[decide_eq_true_eq] at *
  exact List.le_trans d e) (λa b=>by
  rcases List.le_total a b with h|h<;>simp[h]) l
 exact this.imp λh=>by simpa using h
theorem oN(l:List bQ)(h:l.Nodup):(dt l).Pairwise λa b=>a<b:=by
 have c:=oM l;have d:(dt l).Nodup:=(ek l).nodup_iff.2 h;have:=List.Pairwise.and c d;exact this.imp λ{a b} ⟨c,d⟩=>Classical.byContradiction λe=>d (List.le_antisymm c (List.not_lt.1 e))
theorem wO(d a:Int)(l:List bQ)(h:l.Nodup):Asc RIt.pl ((dt l).map (kq d a)):=by
 unfold Asc;rw[List.pairwise_map];exact(oN l h).imp λh=>.inl h
theorem lq{f:bQ -> RIt}{d:Int}(i:∀k,(f k).pl=(k,d))(l:List bQ)(p:RPl):df RIt.pl (l.map f) p=if p.2=d /\ p.1∈l then some (f p.1) else none:=by
 induction l with
 |nil=>simp[df]
 |cons k l j=>
  rw[List.map_cons,cF,j,i];obtain⟨q,e⟩:=p
  by_cases h:(k,d)=(q,e)
  ·obtain⟨rfl,rfl⟩:=Prod.mk.inj h;simp
  ·rw[if_neg h]
   by_cases a:e=d /\ q∈l
   ·rw[if_pos a,if_pos ⟨a.1,List.mem_cons_of_mem _ a.2⟩]
   ·rw[if_neg a,if_neg];rintro⟨c,g⟩;rcases List.mem_cons.1 g with b|b
    ·exact h (Prod.ext b.symm c.symm)
    ·exact a ⟨c,b⟩
theorem pO(m:aT)(d:Int)(l:List bQ)(h:Asc RIt.pl m.items)(f:l.Nodup):vd m d l=iV m d l:=by
 unfold vd iV
 congr 1
 have g:∀k,(dJ m d k).pl=(k,d):=λk=>by unfold dJ;split<;>rfl
 have q:∀k,(kq d (je m d) k).pl=(k,d):=λk=>rfl
 have i:∀x y:RIt,x.pl=y.pl -> (gU (je m d) x y).pl=x.pl:=λx y e=>e.symm
 refine oJ (lT _ _ h) (gT i h (wO d _ l f)) λp=>?_
 rw[kL _ _ h ?_,jA i h (wO d _ l f),lq g,lq q]
 ·have j:p.1∈dt l↔p.1∈l:=(ek l).mem_iff
  by_cases c:p.2=d /\ p.1∈l
  ·rw[if_pos c,if_pos ⟨c.1,j.2 c.2⟩];unfold dJ;have e:p=(p.1,d):=Prod.ext rfl c.1;rw[<- e];cases df RIt.pl m.items p with
   |none=>rfl
   |some o=>rfl
  ·rw[if_neg c,if_neg (λh=>c ⟨h.1,j.1 h.2⟩)];cases df RIt.pl m.items p<;>rfl
 ·rw[List.pairwise_map];exact f.imp λ{a b} n e=>n (by rw[g,g] at e;exact(Prod.mk.inj e).1)
theorem rz{l:List RIt}(h:Asc RIt.pl l):Asc RGo.pl (l.map dN):=by
 unfold Asc;rw[List.pairwise_map];exact h
theorem wP(l:List RIt)(p:RPl):df RGo.pl (l.map dN) p=(df RIt.pl l p).map dN:=by
 induction l with
 |nil=>rfl
 |cons x l a=>
  rw[List.map_cons,cF,cF,a];show(if x.pl=p then _ else _)=_
  by_cases e:x.pl=p<;>simp[e]
theorem ve(m:aT)(d:Int)(l:List bQ)(h:ez m):nM m d l=dI m d l:=by
 unfold nM dI
 congr 1
 have f:=iH h.items (λx=>decide (x.key∈l));have b:=rz f;refine oJ (lT _ _ h.gone) (gT fN h.gone b) λp=>?_
 rw[kL _ _ h.gone ?_,jA fN h.gone b,wP,j0 h.items]
 ·cases hi:df RIt.pl m.items p with
  |none=>cases df RGo.pl m.gone p<;>rfl
  |some x=>
   by_cases c:x.key∈l
   ·simp only[Option.filter,decide_eq_true c,if_true,Option.map_some];cases i:df RGo.pl m.gone p with
    |none=>rfl
    |some g=>
     have a:=h.above x (gB hi);have e:=oI hi;unfold aT.buried at a;rw[e,i] at a;show some (dN x)=some (dM g (dN x));unfold dM;rw[if_pos (show g.seq<(dN x).seq from a)]
   ·simp only[Option.filter,decide_eq_false c];cases df RGo.pl m.gone p<;>rfl
 ·exact(List.Pairwise.imp (λh=>jd h) b)
theorem wQ(a b:List Int)(h:a.length=b.length):(List.zipWith max a b).length=a.length:=by simp[h]
theorem tw{m:aT}(h:ez m){p:RPl}{g:RGo}(a:df RGo.pl m.gone p=some g):1 <= g.seq:=(eQ (h.gknown g (gB a))).2.2.1
theorem wR(a b:aT)(d:ez a)(c:ez b):tX a b=dK a b:=by
 have m:(b.gone.filter λg=>decide (a.buried g.pl<g.seq)).foldl (dL RGo.pl) a.gone=cH RGo.pl dM a.gone b.gone:=by
  refine oJ (lT _ _ d.gone) (gT fN d.gone c.gone) λp=>?_
  rw[kL _ _ d.gone (List.Pairwise.imp (λh=>jd h) (iH c.gone _)),jA fN d.gone c.gone,j0 c.gone];cases k:df RGo.pl b.gone p with
  |none=>cases df RGo.pl a.gone p<;>rfl
  |some g=>
   have e:=oI k;have n:=tw c k;cases f:df RGo.pl a.gone p with
   |none=>
    have j:a.buried g.pl<g.seq:=by unfold aT.buried;rw[e,f];exact n
    simp[Option.filter,j,both]
   |some q=>
    by_cases i:q.seq<g.seq
    ·have j:a.buried g.pl<g.seq:=by unfold aT.buried;rw[e,f];exact i
     simp[Option.filter,j,both,dM,i]
    ·have j:¬a.buried g.pl<g.seq:=by unfold aT.buried;rw[e,f];exact i
     simp[Option.filter,j,both,dM,i]
 have hi:(b.items.filter λx=>match df RIt.pl a.items x.pl with|some y=>decide (y.seq<x.seq \/ (x.seq=y.seq /\ y.val<x.val))|none=>true).foldl (dL RIt.pl) a.items=cH RIt.pl fM a.items b.items:=by
  refine oJ (lT _ _ d.items) (gT mz d.items c.items) λp=>?_
  rw[kL _ _ d.items (List.Pairwise.imp (λh=>jd h) (iH c.items _)),jA mz d.items c.items,j0 c.items];cases k:df RIt.pl b.items p with
  |none=>cases df RIt.pl a.items p<;>rfl
  |some x=>
   have e:=oI k;cases f:df RIt.pl a.items p with
   |none=>simp[Option.filter,e,f,both]
   |some y=>
    by_cases i:y.seq<x.seq \/ (x.seq=y.seq /\ y.val<x.val)
    ·have l:y.seq<x.seq \/ (y.seq=x.seq /\ y.val<x.val):=by omega
     simp[Option.filter,e,f,both,fM,i,l]
    ·have l:¬(y.seq<x.seq \/ (y.seq=x.seq /\ y.val<x.val)):=by omega
     simp[Option.filter,e,f,both,fM,i,l]
 unfold tX dK;dsimp only;rw[m,hi]
/- The length of a code; lists of keys. No program. -/
section
theorem dW(h:eY l=true):l.length <= 400:=by
 cases l with
 |nil=>simp
 |cons c r=>
  obtain⟨i,hi,-,a⟩:=(pK c r).1 h;unfold fq at a;simp only[Bool.and_eq_true,decide_eq_true_eq,List.length_take,List.length_drop] at a;simp only[aD];omega
theorem iW{α β:Type}(f:α -> List β)(k:Nat):∀l:List α,(∀x∈l,(f x).length <= k) -> (l.flatMap f).length <= l.length*k
 |[],_=>by simp
 |x::l,h=>by
  rw[List.flatMap_cons,aA,aD,Nat.succ_mul];have b:=h x List.mem_cons_self;have c:=iW f k l λy a=>h y (List.mem_cons_of_mem _ a)
  omega
theorem gd(k:bQ)(h:k.length <= 400):(bt k).length <= 410:=by
 unfold bt;have:=cq k.length;rw[aA];omega
theorem yU(x:RIt)(h:x.key.length <= 400):(gN x).length <= 440:=by
 unfold gN;have a:=gd x.key h;have b:=cq x.dev.toNat;have c:=cq x.seq.toNat;have d:=cq x.val.toNat;simp only[aA];omega
theorem yV(x:RGo)(h:x.key.length <= 400):(ft x).length <= 430:=by
 unfold ft;have a:=gd x.key h;have b:=cq x.dev.toNat;have c:=cq x.seq.toNat;simp only[aA];omega
theorem Bj(m:aT)(k:m.seen.length <= 1000)(j:m.items.length <= 100000)(i:m.gone.length <= 100000)(c:∀x∈m.items,x.key.length <= 400)(b:∀x∈m.gone,x.key.length <= 400):(cQ m).length <= 1000000000:=by
 unfold cQ;have d:=iW (λn:Int=>bY n.toNat) 10 m.seen λn _=>cq _
 have e:=iW gN 440 m.items λx a=>yU x (c x a)
 have f:=iW ft 430 m.gone λx a=>yV x (b x a)
 have g:=cq m.items.length;have h:=cq m.gone.length;simp only[aA];omega
/-! a code in its steps -/
def m5(m:aT):List UInt8:=m.seen.flatMap (λn=>bY n.toNat)++bY m.items.length
def fO(m:aT)(k:Nat):List UInt8:=m5 m++(m.items.take k).flatMap gN
def gV(m:aT)(k:Nat):List UInt8:=fO m m.items.length++(bY m.gone.length++(m.gone.take k).flatMap ft)
theorem tY(m:aT):gV m m.gone.length=cQ m:=by
 unfold gV fO m5 cQ;simp only[List.take_length,aB]
theorem nN(m:aT):fO m 0=m5 m:=by simp[fO]
theorem rA(m:aT):gV m 0=fO m m.items.length++bY m.gone.length:=by simp[gV]
theorem kQ{α β:Type}(f:α -> List β)(l:List α)(k:Nat)(h:k<l.length):(l.take (k+1)).flatMap f=(l.take k).flatMap f++f l[k]:=by
 rw[List.take_succ_eq_append_getElem h,List.flatMap_append];simp
theorem rB(m:aT)(k:Nat)(h:k<m.items.length):fO m (k+1)=fO m k++bt m.items[k].key++[m.items[k].dev,m.items[k].seq,m.items[k].val].flatMap (λn=>bY n.toNat):=by
 unfold fO;rw[kQ _ _ _ h];simp[gN,aB]
theorem rC(m:aT)(k:Nat)(h:k<m.gone.length):gV m (k+1)=gV m k++bt m.gone[k].key++[m.gone[k].dev,m.gone[k].seq].flatMap (λn=>bY n.toNat):=by
 unfold gV;rw[kQ _ _ _ h];simp[ft,aB]
theorem jp{α β:Type}(f:α -> List β)(l:List α)(k:Nat):((l.take k).flatMap f).length <= (l.flatMap f).length:=by
 conv=>rhs;rw[<- List.take_append_drop k l,List.flatMap_append,aA]
 omega
theorem oO(m:aT)(k:Nat):(gV m k).length <= (cQ m).length:=by
 have a:=jp ft m.gone k;unfold gV fO m5 cQ;simp only[List.take_length,aA];omega
theorem jB(m:aT)(k:Nat):(fO m k).length <= (cQ m).length:=by
 have a:=jp gN m.items k;unfold fO m5 cQ;simp only[aA];omega
theorem wT(m:aT):(m5 m).length <= (cQ m).length:=by rw[<- nN];exact jB m 0
/-! merging and putting, step by step -/
section
variable {α:Type} {pl:α -> RPl}
theorem wU(a:α -> α -> α)(A B:List α)(i j:Nat)(b:i<A.length)(c:j<B.length)(h:plt (pl A[i]) (pl B[j])):cH pl a (A.drop i) (B.drop j)=A[i]::cH pl a (A.drop (i+1)) (B.drop j):=by
 rw[List.drop_eq_getElem_cons b,List.drop_eq_getElem_cons c,pL _ _ _ h]
theorem wV(a:α -> α -> α)(A B:List α)(i j:Nat)(b:i<A.length)(c:j<B.length)(h:plt (pl B[j]) (pl A[i])):cH pl a (A.drop i) (B.drop j)=B[j]::cH pl a (A.drop i) (B.drop (j+1)):=by
 rw[List.drop_eq_getElem_cons b,List.drop_eq_getElem_cons c,pM _ _ _ h]
theorem wW(a:α -> α -> α)(A B:List α)(i j:Nat)(b:i<A.length)(c:j<B.length)(h:pl A[i]=pl B[j]):cH pl a (A.drop i) (B.drop j)=a A[i] B[j]::cH pl a (A.drop (i+1)) (B.drop (j+1)):=by
 rw[List.drop_eq_getElem_cons b,List.drop_eq_getElem_cons c,pN _ _ _ h]
theorem Bk(a:α -> α -> α)(A B:List α)(i j:Nat)(h:¬(i<A.length /\ j<B.length)):cH pl a (A.drop i) (B.drop j)=A.drop i++B.drop j:=by
 by_cases hi:i<A.length
 ·rw[List.drop_eq_nil_of_le (show B.length <= j by omega),lm,List.append_nil]
 ·rw[List.drop_eq_nil_of_le (show A.length <= i by omega),fs,List.nil_append]
def eA(pl:α -> RPl)(l:List α)(x:α)(k:Nat)(a:Bool):List α:=if a then(l.drop k).filter (λe=>decide (pl e≠pl x)) else dL pl (l.drop k) x
theorem vf(l:List α)(x:α):eA pl l x 0 false=dL pl l x:=by simp[eA]
theorem pP(l:List α)(x:α):eA pl l x l.length true = []:=by simp[eA]
theorem wZ(l:List α)(x:α):eA pl l x l.length false = [x]:=by simp[eA,AB]
theorem yW(l:List α)(x:α)(k:Nat)(a:k<l.length)(h:plt (pl l[k]) (pl x)):eA pl l x k false=l[k]::eA pl l x (k+1) false:=by
 simp only[eA,if_neg Bool.false_ne_true];rw[List.drop_eq_getElem_cons a,qm _ h]
theorem xe(l:List α)(x:α)(k:Nat)(a:k<l.length)(h:¬plt (pl l[k]) (pl x)):eA pl l x k false=x::eA pl l x k true:=by
 simp only[eA,if_neg Bool.false_ne_true,if_pos];rw[List.drop_eq_getElem_cons a,oK _ h]
theorem yX(l:List α)(x:α)(k:Nat)(a:k<l.length)(h:pl l[k]≠pl x):eA pl l x k true=l[k]::eA pl l x (k+1) true:=by
 simp only[eA,if_pos];rw[List.drop_eq_getElem_cons a,List.filter_cons,if_pos (by simpa using h)]
theorem yY(l:List α)(x:α)(k:Nat)(a:k<l.length)(h:pl l[k]=pl x):eA pl l x k true=eA pl l x (k+1) true:=by
 simp only[eA,if_pos];rw[List.drop_eq_getElem_cons a,List.filter_cons,if_neg (by simpa using h)]
end
/- Merging maps: formed maps stay formed; merging is idempotent, commutative and associative. No program. -/
end
section
/-! elements of a merged list -/
section
variable {α:Type} {pl:α -> RPl}
theorem pQ{d:α -> α -> α}(j:∀x y,pl x=pl y -> pl (d x y)=pl x)(l:∀x y,d x y=x \/ d x y=y){a b:List α}(i:Asc pl a)(k:Asc pl b){z:α}(m:z∈cH pl d a b):z∈a \/ z∈b:=by
 have c:=lS (gT j i k) m;rw[jA j i k] at c;cases e:df pl a (pl z) with
 |none=>
  rw[e] at c;exact .inr (gB (show df pl b (pl z)=some z from c))
 |some x=>
  rw[e] at c;cases g:df pl b (pl z) with
  |none=>
   rw[g] at c;obtain rfl:x=z:=by simpa[both] using c
   exact .inl (gB e)
  |some y=>
   rw[g] at c;have f:d x y=z:=by simpa[both] using c
   rcases l x y with h|h
   ·rw[h] at f;subst f;exact .inl (gB e)
   ·rw[h] at f;subst f;exact .inr (gB g)
end
theorem Bl(a b:RIt):fM a b=a \/ fM a b=b:=by unfold fM;split<;>simp
theorem rD(a b:RGo):dM a b=a \/ dM a b=b:=by unfold dM;split<;>simp
/-! what is forgotten in a merged map -/
def above(n:Int)(o:Option RIt):Option RIt:=o.filter λx=>decide (n<x.seq)
/-! formed maps stay formed -/
theorem rE{m a:aT}{p:RPl}{s:Int}(h:dl m p s=true)(g:a.seen.length=m.seen.length)(j:∀i,m.seen.getD i 0 <= a.seen.getD i 0):dl a p s=true:=by
 have f:=dV h;obtain⟨b,c,d,e⟩:=eQ h;unfold dl;simp only[Bool.and_eq_true,decide_eq_true_eq];exact⟨f,b,by rw[g];exact c,d,Int.le_trans e (j _)⟩
theorem xf(a b:List Int)(h:a.length=b.length)(i:Nat):(List.zipWith max a b).getD i 0=max (a.getD i 0) (b.getD i 0):=by
 simp only[List.getD_eq_getElem?_getD,List.getElem?_zipWith]
 by_cases hi:i<a.length
 ·rw[List.getElem?_eq_getElem hi,List.getElem?_eq_getElem (h▸hi)];rfl
 ·rw[List.getElem?_eq_none (by omega),List.getElem?_eq_none (by omega)];rfl
theorem rF(a b:aT)(c:ez a)(d:ez b):(dK a b).seen.length=8:=by
 show(List.zipWith max a.seen b.seen).length=8;rw[wQ _ _ (c.len.trans d.len.symm),c.len]
theorem nO(a b:aT)(c:ez a)(d:ez b)(i:Nat):(dK a b).seen.getD i 0=max (a.seen.getD i 0) (b.seen.getD i 0):=xf _ _ (c.len.trans d.len.symm) i
theorem jC{m:aT}(h:ez m)(i:Nat):0 <= m.seen.getD i 0 /\ m.seen.getD i 0 <= 1099511627776:=by
 by_cases hi:i<m.seen.length
 ·rw[List.getD_eq_getElem?_getD,List.getElem?_eq_getElem hi];exact h.seen _ (aC hi)
 ·rw[List.getD_eq_getElem?_getD,List.getElem?_eq_none (by omega)];exact⟨Int.le_refl _,by decide⟩
theorem jq(a b:aT)(c:ez a)(d:ez b):ez (dK a b):=by
 have k:=rF a b c d;have o:∀{p s},dl a p s=true -> dl (dK a b) p s=true:=λh=>rE h (k.trans c.len.symm) λi=>by rw[nO a b c d];omega
 have q:∀{p s},dl b p s=true -> dl (dK a b) p s=true:=λh=>rE h (k.trans d.len.symm) λi=>by rw[nO a b c d];omega
 have r:∀g∈(dK a b).gone,g∈a.gone \/ g∈b.gone:=λg j=>pQ fN rD c.gone d.gone j
 have l:∀x∈(dK a b).items,(x∈a.items \/ x∈b.items) /\ (dK a b).buried x.pl<x.seq:=λx e=>by
  obtain⟨f,m⟩:=List.mem_filter.1 (show x∈(cH RIt.pl fM a.items b.items).filter λx=>decide ((dK a b).buried x.pl<x.seq) from e);exact⟨pQ mz Bl c.items d.items f,by simpa using m⟩
 refine⟨k,λn t=>?_,iH (gT mz c.items d.items) _,gT fN c.gone d.gone,λg j=>?_,λx e=>?_,λx e=>?_,λx e=>(l x e).2⟩
 ·obtain⟨i,hi,rfl⟩:=List.mem_iff_getElem.1 t;have f:=nO a b c d i;rw[List.getD_eq_getElem?_getD,List.getElem?_eq_getElem hi] at f;have m:=jC c i;have u:=jC d i;simp only[Option.getD_some] at f;rw[f];omega
 ·exact(r g j).elim (λh=>o (c.gknown g h)) (λh=>q (d.gknown g h))
 ·exact(l x e).1.elim (λh=>o (c.iknown x h)) (λh=>q (d.iknown x h))
 ·exact(l x e).1.elim (c.val x) (d.val x)
/-! two formed maps are equal if they have the same at all places -/
/- Events on maps: formed maps stay formed, knowledge grows, values. No program. -/
end
structure vg(d:Int)(l:List bQ):Prop where
 lo:0 <= d
 hi:d<8
 nodup:l.Nodup
 keys:∀k∈l,eY k=true
theorem fo(d:Int)(l:List bQ):dc d l=true↔vg d l:=by
 unfold dc;simp only[Bool.and_eq_true,decide_eq_true_eq,List.all_eq_true];exact⟨λ⟨⟨⟨a,b⟩,c⟩,e⟩=>⟨a,b,c,e⟩,λh=>⟨⟨⟨h.lo,h.hi⟩,h.nodup⟩,h.keys⟩⟩
theorem CC(m:aT)(d:Int)(a:d.toNat<m.seen.length)(i:Nat):(de m d).getD i 0=if i=d.toNat then m.seen.getD i 0+1 else m.seen.getD i 0:=by
 unfold de;simp only[List.getD_eq_getElem?_getD,List.getElem?_set]
 by_cases h:d.toNat=i
 ·subst h;simp[a]
 ·rw[if_neg h,if_neg (λe=>h e.symm)]
theorem yZ(m:aT)(d:Int):(de m d).length=m.seen.length:=by unfold de;simp
theorem CD{m:aT}{d:Int}(h:ez m)(a:0 <= d)(b:d<8):d.toNat<m.seen.length:=by rw[h.len];omega
/-! an event that uses keys -/
theorem lr(m:aT)(d:Int)(k:bQ):(dJ m d k).pl=(k,d):=by unfold dJ;split<;>rfl
theorem xg(m:aT)(d:Int)(k:bQ):(dJ m d k).seq=je m d:=by unfold dJ;split<;>rfl
theorem CE(m:aT)(d:Int)(l:List bQ)(h:Asc RIt.pl m.items)(f:l.Nodup)(p:RPl):df RIt.pl (iV m d l).items p=if p.2=d /\ p.1∈l then some (dJ m d p.1) else df RIt.pl m.items p:=by
 rw[<- pO m d l h f];show df RIt.pl ((l.map (dJ m d)).foldl (dL RIt.pl) m.items) p=_;rw[kL _ _ h ?_,lq (λk=>lr m d k)]
 ·by_cases c:p.2=d /\ p.1∈l
  ·rw[if_pos c,if_pos c]
  ·rw[if_neg c,if_neg c]
 ·rw[List.pairwise_map];exact f.imp λ{a b} g e=>g (by rw[lr,lr] at e;exact(Prod.mk.inj e).1)
theorem Ej(m:aT)(d:Int)(l:List bQ)(h:Asc RIt.pl m.items)(a:l.Nodup):Asc RIt.pl (iV m d l).items:=by
 rw[<- pO m d l h a];exact lT _ _ h
theorem Ek{m:aT}{d:Int}{l:List bQ}(h:Asc RIt.pl m.items)(c:l.Nodup){x:RIt}(e:x∈(iV m d l).items):(∃k∈l,x=dJ m d k) \/ x∈m.items:=by
 have a:=lS (Ej m d l h c) e;rw[CE m d l h c] at a
 by_cases b:x.pl.2=d /\ x.pl.1∈l
 ·rw[if_pos b] at a;exact .inl ⟨_,b.2,(Option.some.inj a).symm⟩
 ·rw[if_neg b] at a;exact .inr (gB a)
theorem xh{m:aT}{d:Int}(h:ez m)(l:0 <= d)(j:d<8)(k:bQ):65536 <= (dJ m d k).val /\ (dJ m d k).val <= 16777216:=by
 unfold dJ;cases e:df RIt.pl m.items (k,d) with
 |none=>exact⟨Int.le_refl _,(by decide:(65536:Int) <= 16777216)⟩
 |some o=>
  have b:=gB e;have c:=oI e;obtain⟨v0,v1⟩:=h.val o b;have a:=(eQ (h.iknown o b)).2.2.2;rw[c] at a;show 65536 <= ko o.val (je m d-o.seq) /\ ko o.val (je m d-o.seq) <= 16777216;have n:1 <= je m d-o.seq:=by unfold je;dsimp only at a;omega
  unfold ko;rw[DM.bnd_id o.val (by omega) (by omega)];have a0:=DM.aft_nonneg (je m d-o.seq).toNat o.val (by omega);have f:=DM.aft_more 1 (je m d-o.seq).toNat o.val (by omega) (by omega)
  have g:DM.aft 1 o.val=DM.stp o.val:=by
   rw[show(1:Nat)=0+1 from rfl,DM.aft_succ_pos _ _ (by omega)];rfl
  have i:DM.stp o.val <= 16711680:=by unfold DM.stp;omega
  omega
/-! an event that forgets keys -/
theorem xi{m:aT}{d:Int}{l:List bQ}(h:ez m){g:RGo}(f:g∈(dI m d l).gone):(∃x∈m.items,x.key∈l /\ g=dN x) \/ g∈m.gone:=by
 have e:=iH h.items (λx=>decide (x.key∈l));rcases pQ fN rD h.gone (rz e) f with a|a
 ·exact .inr a
 ·obtain⟨x,i,rfl⟩:=List.mem_map.1 a;obtain⟨b,c⟩:=List.mem_filter.1 i;exact .inl ⟨x,b,by simpa using c,rfl⟩
/-! values -/
theorem vh(m:aT)(x:RIt):0 <= kN m x:=DM.aft_nonneg _ _ (DM.bnd_nonneg _)
/- Three devices' copies: small maps are valid; runs of acts never fail; all orders of merging agree. No program. -/
def places(K:List bQ):List RPl:=K.flatMap λk=>[(k,0),(k,1),(k,2)]
/-! what calls return -/
/-! three copies -/
/-! a use that was not known stays -/
/- Codes can be read in one way only. No program. -/
theorem rG{m:aT}(h:aV m=true):(∀n∈m.seen,0 <= n /\ n <= 1099511627776) /\ (∀x∈m.items,x.key.length <= 400 /\ (0 <= x.dev /\ x.dev<8) /\ (1 <= x.seq /\ x.seq <= 1099511627776) /\ 1 <= x.val /\ x.val <= 16777216) /\
 (∀x∈m.gone,x.key.length <= 400 /\ (0 <= x.dev /\ x.dev<8) /\ 1 <= x.seq /\ x.seq <= 1099511627776):=by
 have f:=cA h
 have e:∀i,m.seen.getD i 0 <= 1099511627776:=λi=>by
  by_cases hi:i<m.seen.length
  ·rw[List.getD_eq_getElem?_getD,List.getElem?_eq_getElem hi];exact(f.seen _ (aC hi)).2
  ·rw[List.getD_eq_getElem?_getD,List.getElem?_eq_none (by omega)]
   decide
 refine⟨f.seen,λx a=>?_,λx a=>?_⟩
 ·obtain⟨c,b,d,g⟩:=eQ (f.iknown x a);have:=e x.pl.2.toNat;rw[f.len] at b;exact⟨dW (dV (f.iknown x a)),⟨c,b⟩,⟨d,by omega⟩,f.val x a⟩
 ·obtain⟨c,b,d,g⟩:=eQ (f.gknown x a);have:=e x.pl.2.toNat;rw[f.len] at b;exact⟨dW (dV (f.gknown x a)),⟨c,b⟩,d,by omega⟩
theorem cX{m:aT}(h:aV m=true):m.seen.length=8 /\ m.items.length <= 4096 /\ m.gone.length <= 4096 /\ (cQ m).length <= 60000:=by
 have f:=cA h;unfold aV at h;simp only[Bool.and_eq_true,decide_eq_true_eq] at h;exact⟨f.len,h.1.1.2,h.1.2,h.2⟩
/-! how far a code has been read -/
def Fb(b:List UInt8)(n:Nat)(r:List UInt8):Prop:=n<18446744073709551616 /\ b=bY n++r
def rdF:List UInt8 -> Nat -> Option (Nat×List UInt8)
 |[],_=>none
 |c::r,f=>if(f=0 /\ 1<c.toNat) \/ (f<9 /\ c.toNat=0) then none else if c.toNat<128 then some (c.toNat,r) else(rdF r (f-1)).map λp=>(c.toNat%128+128*p.1,p.2)
theorem AD:rdF [] n=none:=rfl
theorem AE{c:UInt8}(h:(i=0 /\ 1<c.toNat) \/ (i<9 /\ c.toNat=0)):rdF (c::l) i=none:=by rw[rdF,if_pos h]
theorem AF{c:UInt8}(h:¬((i=0 /\ 1<c.toNat) \/ (i<9 /\ c.toNat=0)))(a:c.toNat<128):rdF (c::l) i=some (c.toNat,l):=by rw[rdF,if_neg h,if_pos a]
theorem CF{c:UInt8}(h:¬((i=0 /\ 1<c.toNat) \/ (i<9 /\ c.toNat=0)))(a:¬c.toNat<128):rdF (c::l) i=(rdF l (i-1)).map λp=>(c.toNat%128+128*p.1,p.2):=by rw[rdF,if_neg h,if_neg a]
theorem d7(h:n<256):(UInt8.ofNat n).toNat=n:=by rw[UInt8.toNat_ofNat'];omega
theorem vi:∀(b:List UInt8)(f n:Nat)(r:List UInt8),f <= 9 -> (rdF b f=some (n,r)↔b=ik (f+1) n++r /\ n<2*128 ^ f /\ (f<9 -> n≠0))
 |[],f,n,r,q=>by
  rw[AD];refine⟨nofun,λh=>?_⟩;have a:=congrArg List.length h.1;have:0<(ik (f+1) n).length:=by unfold ik;split<;>simp
  rw[aA] at a;simp at a;omega
 |c::t,f,n,r,q=>by
  have v:=c.toNat_lt
  by_cases d:(f=0 /\ 1<c.toNat) \/ (f<9 /\ c.toNat=0)
  ·rw[AE d];refine⟨nofun,λh=>?_⟩;exfalso;obtain⟨a,i,j⟩:=h;unfold ik at a
   by_cases g:n<128
   ·rw[if_pos g] at a;have e:=congrArg UInt8.toNat (List.cons.inj a).1;rw[d7 n (by omega)] at e;rcases d with⟨rfl,d⟩|⟨d,k⟩
    ·simp at i;omega
    ·exact j d (by omega)
   ·rw[if_neg g] at a;have e:=congrArg UInt8.toNat (List.cons.inj a).1;rw[d7 _ (by omega)] at e;rcases d with⟨rfl,d⟩|⟨d,k⟩
    ·simp at i;omega
    ·omega
  by_cases k:c.toNat<128
  ·rw[AF d k];constructor
   ·intro h;obtain⟨rfl,rfl⟩:=Prod.mk.inj (Option.some.inj h);refine⟨?_,?_,λs p=>d (.inr ⟨s,p⟩)⟩
    ·unfold ik;rw[if_pos k];simp
    ·cases f with
     |zero=>simp;omega
     |succ f=>have:0<128 ^ f:=Nat.pow_pos (by omega);rw[Nat.pow_succ];omega
   ·rintro⟨a,i,j⟩;unfold ik at a
    by_cases g:n<128
    ·rw[if_pos g] at a;obtain⟨o,m⟩:=List.cons.inj a;have e:=congrArg UInt8.toNat o;rw[d7 n (by omega)] at e;rw[e];simp at m;rw[m]
    ·rw[if_neg g] at a;have e:=congrArg UInt8.toNat (List.cons.inj a).1;rw[d7 _ (by omega)] at e;omega
  ·rw[CF d k];cases f with
   |zero=>exact absurd (.inl ⟨rfl,by omega⟩) d
   |succ f=>
    rw[Option.map_eq_some_iff,Nat.add_sub_cancel];constructor
    ·rintro⟨⟨l,u⟩,h,e⟩;obtain⟨rfl,rfl⟩:=Prod.mk.inj e;obtain⟨a,i,j⟩:=(vi t f l u (by omega)).1 h;have p:l≠0:=j (by omega);dsimp only;refine⟨?_,by rw[Nat.pow_succ];omega,λ_=>by omega⟩;rw[ik,if_neg (by omega),show(c.toNat%128+128*l)/128=l by omega,show(c.toNat%128+128*l)%128+128=c.toNat by omega,a];simp
    ·rintro⟨a,i,j⟩;rw[ik] at a
     by_cases g:n<128
     ·rw[if_pos g] at a;have e:=congrArg UInt8.toNat (List.cons.inj a).1;rw[d7 n (by omega)] at e;omega
     ·rw[if_neg g] at a;obtain⟨o,m⟩:=List.cons.inj a;have e:=congrArg UInt8.toNat o;rw[d7 _ (by omega)] at e;refine⟨(n/128,r),(vi t f (n/128) r (by omega)).2 ⟨m,by rw[Nat.pow_succ] at i;omega,λ_=>by omega⟩,?_⟩;exact Prod.ext (by show c.toNat%128+128*(n/128)=n;omega) rfl
theorem gy{r:List UInt8}:rdF l 9=some (i,r)↔Fb l i r:=by
 rw[vi l 9 i r (aq _)];unfold Fb bY;exact⟨λh=>⟨by have:=h.2.1;omega,h.1⟩,λh=>⟨h.2,by have:=h.1;omega,λa=>absurd a (by omega)⟩⟩
theorem jD{r:List UInt8}(h:rdF l 9=some (i,r)):r.length<l.length /\ l.length <= r.length+10 /\ i<18446744073709551616:=by
 obtain⟨a,c⟩:=gy.1 h;have:=congrArg List.length c;rw[aA] at this;have d:=il i;have e:=cq i;exact⟨by omega,by omega,a⟩
/-! a reader: what is still to be read; none: something was wrong -/
abbrev dO:=Option (List UInt8)
def cC:dO -> Int×dO
 |none=>(0,none)
 |some b=>match rdF b 9 with
  |some (n,r)=>if n <= 1099511627776 then((n:Int),some r) else(0,none)
  |none=>(0,none)
def rdT(b:List UInt8):Option (bQ×List UInt8):=match rdF b 9 with
 |some (n,r)=>if n <= r.length then some (r.take n,r.drop n) else none
 |none=>none
def cM:dO -> bQ×dO
 |none=>([],none)
 |some b=>match rdT b with
  |some (k,r)=>(k,some r)
  |none=>([],none)
def fP(s:dO):RIt×dO:=(⟨(cM s).1,(cC (cM s).2).1,(cC (cC (cM s).2).2).1,(cC (cC (cC (cM s).2).2).2).1⟩,(cC (cC (cC (cM s).2).2).2).2)
def fQ(s:dO):RGo×dO:=(⟨(cM s).1,(cC (cM s).2).1,(cC (cC (cM s).2).2).1⟩,(cC (cC (cM s).2).2).2)
def io:Nat -> List Int×dO -> List Int×dO
 |0,p=>p
 |n+1,p=>io n (p.1++[(cC p.2).1],(cC p.2).2)
def fC{α:Type}(one:dO -> α×dO):Nat -> List α×dO -> List α×dO
 |0,p=>p
 |n+1,p=>if p.2=none then p else fC one n (p.1++[(one p.2).1],(one p.2).2)
def pR(b:List UInt8):List Int×dO:=io 8 ([],some b)
def jY(b:List UInt8):List RIt×dO:=fC fP (cC (pR b).2).1.toNat ([],(cC (pR b).2).2)
def lu(b:List UInt8):List RGo×dO:=fC fQ (cC (jY b).2).1.toNat ([],(cC (jY b).2).2)
def kt(b:List UInt8):aT:=⟨(pR b).1,(jY b).1,(lu b).1⟩
def e9(b:List UInt8):aT×Int:=if(lu b).2=some [] /\ aV (kt b)=true then(kt b,0) else(.empty,5)
theorem jE{α:Type}(a:dO -> α×dO)(n:Nat)(l:List α):fC a n (l,none)=(l,none):=by
 cases n with
 |zero=>rfl
 |succ n=>rw[fC,if_pos rfl]
theorem iI{α:Type}(a:dO -> α×dO)(n:Nat)(l:List α)(b:List UInt8):fC a (n+1) (l,some b)=fC a n (l++[(a (some b)).1],(a (some b)).2):=by rw[fC,if_neg nofun]
/-! what was read -/
theorem ge{s:dO}{x:Int}{r:List UInt8}(h:cC s=(x,some r)):s=some (bY x.toNat++r) /\ 0 <= x /\ x <= 1099511627776:=by
 cases s with
 |none=>cases h
 |some b=>
  unfold cC at h;dsimp only at h;split at h
  ·rename_i n e d
   by_cases a:n <= 1099511627776
   ·rw[if_pos a] at h;obtain⟨rfl,c⟩:=Prod.mk.inj h;obtain rfl:=Option.some.inj c;have:=(gy.1 d).2;exact⟨by rw[this];simp,by omega,by omega⟩
   ·rw[if_neg a] at h;cases h
  ·cases h
theorem j1(x:Int)(r:List UInt8)(a:0 <= x)(b:x <= 1099511627776):cC (some (bY x.toNat++r))=(x,some r):=by
 have h:rdF (bY x.toNat++r) 9=some (x.toNat,r):=gy.2 ⟨by omega,rfl⟩;unfold cC;dsimp only;rw[h];dsimp only;rw[if_pos (by omega),show((x.toNat:Nat):Int)=x by omega]
theorem gC(s:dO):0 <= (cC s).1 /\ (cC s).1 <= 1099511627776:=by
 unfold cC;split
 ·exact⟨by decide,by decide⟩
 ·split
  ·split
   ·exact⟨by simp,by dsimp only;omega⟩
   ·exact⟨by decide,by decide⟩
  ·exact⟨by decide,by decide⟩
theorem nP{s:dO}{k:bQ}{r:List UInt8}(h:cM s=(k,some r)):s=some (bt k++r) /\ k.length<18446744073709551616:=by
 cases s with
 |none=>cases h
 |some b=>
  unfold cM rdT at h;dsimp only at h;split at h
  ·rename_i i j a;obtain⟨rfl,c⟩:=Prod.mk.inj h;obtain rfl:=Option.some.inj c;split at a
   ·rename_i n t g
    by_cases d:n <= t.length
    ·rw[if_pos d] at a;obtain⟨rfl,rfl⟩:=Prod.mk.inj (Option.some.inj a);obtain⟨e,c⟩:=gy.1 g;have f:(t.take n).length=n:=by simp[d]
     unfold bt;rw[f];exact⟨by rw[c,aB,List.take_append_drop],e⟩
    ·rw[if_neg d] at a;cases a
   ·cases a
  ·cases h
theorem xj(k:bQ)(r:List UInt8)(a:k.length<18446744073709551616):cM (some (bt k++r))=(k,some r):=by
 have h:rdF (bt k++r) 9=some (k.length,k++r):=gy.2 ⟨a,by unfold bt;rw[aB]⟩;unfold cM rdT;dsimp only;rw[h];dsimp only;rw[if_pos (by simp)];simp
def szS:dO -> Nat
 |none=>0
 |some r=>r.length+1
theorem iR(s:dO):szS (cC s).2 <= szS s /\ ∀b,s=some b -> szS (cC s).2<szS s:=by
 cases s with
 |none=>exact⟨aq _,nofun⟩
 |some b=>
  suffices h:szS (cC (some b)).2<szS (some b) from⟨Nat.le_of_lt h,λ_ _=>h⟩
  cases h:(cC (some b)).2 with
  |none=>simp[szS]
  |some r=>
   have:=(ge (s:=some b) (x:=(cC (some b)).1) (r:=r) (by rw[<- h])).1;have a:=congrArg List.length (Option.some.inj this);rw[aA] at a;have:=il (cC (some b)).1.toNat;simp only[szS];omega
theorem xl(s:dO):szS (cM s).2 <= szS s /\ (∀b,s=some b -> szS (cM s).2<szS s) /\ (cM s).1.length <= szS s:=by
 cases s with
 |none=>exact⟨aq _,nofun,Nat.zero_le _⟩
 |some b=>
  suffices h:szS (cM (some b)).2<szS (some b) /\ (cM (some b)).1.length <= szS (some b) from⟨Nat.le_of_lt h.1,λ_ _=>h.1,h.2⟩
  cases h:(cM (some b)).2 with
  |none=>
   refine⟨by simp[szS],?_⟩
   have:(cM (some b)).1 = []:=by
    unfold cM at h⊢;dsimp only at h⊢;split at h
    ·cases h
    ·rfl
   rw[this];simp
  |some r=>
   have:=(nP (s:=some b) (k:=(cM (some b)).1) (r:=r) (by rw[<- h])).1;have a:=congrArg List.length (Option.some.inj this);unfold bt at a;rw[aA,aA] at a;have:=il (cM (some b)).1.length;simp only[szS];omega
def ItB(n:Nat)(x:RIt):Prop:=x.key.length <= n /\ (0 <= x.dev /\ x.dev <= 1099511627776) /\ (0 <= x.seq /\ x.seq <= 1099511627776) /\ 0 <= x.val /\ x.val <= 1099511627776
def GoB(n:Nat)(x:RGo):Prop:=x.key.length <= n /\ (0 <= x.dev /\ x.dev <= 1099511627776) /\ 0 <= x.seq /\ x.seq <= 1099511627776
theorem xm:szS (fP (some b)).2<szS (some b) /\ ItB (szS (some b)) (fP (some b)).1:=by
 have a:=xl (some b);have c:=iR (cM (some b)).2;have d:=iR (cC (cM (some b)).2).2;have e:=iR (cC (cC (cM (some b)).2).2).2;have:=a.2.1 b rfl;exact⟨by unfold fP;dsimp only;omega,a.2.2,gC _,gC _,gC _⟩
theorem xn:szS (fQ (some b)).2<szS (some b) /\ GoB (szS (some b)) (fQ (some b)).1:=by
 have a:=xl (some b);have c:=iR (cM (some b)).2;have d:=iR (cC (cM (some b)).2).2;have:=a.2.1 b rfl;exact⟨by unfold fQ;dsimp only;omega,a.2.2,gC _,gC _⟩
/-! a code that was read to its end is the code of what was read -/
theorem zb{s:dO}{x:RIt}(h:fP s=(x,some l)):s=some (gN x++l):=by
 unfold fP at h;obtain⟨rfl,d⟩:=Prod.mk.inj h;cases b:(cC (cC (cM s).2).2).2 with
 |none=>rw[b] at d;cases d
 |some p=>
  cases a:(cC (cM s).2).2 with
  |none=>rw[a] at b;cases b
  |some o=>
   cases c:(cM s).2 with
   |none=>rw[c] at a;cases a
   |some n=>
    have e:=(nP (s:=s) (k:=(cM s).1) (r:=n) (by rw[<- c])).1;have f:=(ge (s:=(cM s).2) (x:=(cC (cM s).2).1) (r:=o) (by rw[<- a])).1;have g:=(ge (s:=(cC (cM s).2).2) (x:=(cC (cC (cM s).2).2).1) (r:=p) (by rw[<- b])).1;have a4:=(ge (s:=(cC (cC (cM s).2).2).2) (x:=(cC (cC (cC (cM s).2).2).2).1) (r:=l) (by rw[<- d])).1;have i:=Option.some.inj (c.symm.trans f);have j:=Option.some.inj (a.symm.trans g);have m:=Option.some.inj (b.symm.trans a4);refine e.trans (congrArg some ?_);unfold gN;dsimp only;simp only[aB];rw[<- b,<- a,<- c];exact congrArg (bt (cM s).1++·) (i.trans (congrArg (bY (cC (cM s).2).1.toNat++·) (j.trans (congrArg (bY (cC (cC (cM s).2).2).1.toNat++·) m))))
theorem zc{s:dO}{x:RGo}(h:fQ s=(x,some l)):s=some (ft x++l):=by
 unfold fQ at h;obtain⟨rfl,c⟩:=Prod.mk.inj h;cases a:(cC (cM s).2).2 with
 |none=>rw[a] at c;cases c
 |some m=>
  cases b:(cM s).2 with
  |none=>rw[b] at a;cases a
  |some j=>
   have d:=(nP (s:=s) (k:=(cM s).1) (r:=j) (by rw[<- b])).1;have e:=(ge (s:=(cM s).2) (x:=(cC (cM s).2).1) (r:=m) (by rw[<- a])).1;have f:=(ge (s:=(cC (cM s).2).2) (x:=(cC (cC (cM s).2).2).1) (r:=l) (by rw[<- c])).1;have g:=Option.some.inj (b.symm.trans e);have i:=Option.some.inj (a.symm.trans f);refine d.trans (congrArg some ?_);unfold ft;dsimp only;simp only[aB];rw[<- a,<- b];exact congrArg (bt (cM s).1++·) (g.trans (congrArg (bY (cC (cM s).2).1.toNat++·) i))
theorem rH:∀(n:Nat)(l:List Int)(s:dO)(b:List Int)(r:List UInt8),io n (l,s)=(b,some r) -> ∃k,b=l++k /\ k.length=n /\ s=some (k.flatMap (λn=>bY n.toNat)++r)
 |0,l,s,b,r,h=>by
  obtain⟨rfl,rfl⟩:=Prod.mk.inj h;exact⟨[],by simp,rfl,by simp⟩
 |n+1,l,s,b,r,h=>by
  rw[io] at h;obtain⟨k,rfl,c,d⟩:=rH n _ _ b r h;have a:=(ge (s:=s) (x:=(cC s).1) (r:=k.flatMap (λn=>bY n.toNat)++r) (by rw[<- d])).1;exact⟨(cC s).1::k,by simp,by simp[c],a.trans (congrArg some (by simp))⟩
theorem nQ{α:Type}{d:dO -> α×dO}{code:α -> List UInt8}(e:∀s x r,d s=(x,some r) -> s=some (code x++r)):∀(n:Nat)(l:List α)(s:dO)(c:List α)(r:List UInt8),fC d n (l,s)=(c,some r) -> ∃k,c=l++k /\ k.length=n /\ s=some (k.flatMap code++r)
 |0,l,s,c,r,h=>by
  obtain⟨rfl,rfl⟩:=Prod.mk.inj h;exact⟨[],by simp,rfl,by simp⟩
 |n+1,l,none,c,r,h=>by rw[jE] at h;cases h
 |n+1,l,some b,c,r,h=>by
  rw[iI] at h;obtain⟨k,rfl,f,g⟩:=nQ e n _ _ c r h;have a:=e (some b) (d (some b)).1 (k.flatMap code++r) (by rw[<- g]);exact⟨(d (some b)).1::k,by simp,by simp[f],a.trans (congrArg some (by simp))⟩
theorem xo(h:(lu l).2=some []):cQ (kt l)=l:=by
 have i:fC fQ (cC (jY l).2).1.toNat ([],(cC (jY l).2).2)=((lu l).1,some []):=by rw[<- h];rfl
 obtain⟨a,e,m,t⟩:=nQ (code:=ft) (λs x r=>zc) _ _ _ _ _ i;have o:=ge (s:=(jY l).2) (x:=(cC (jY l).2).1) (r:=a.flatMap ft++[]) (by rw[<- t]);have g:fC fP (cC (pR l).2).1.toNat ([],(cC (pR l).2).2)=((jY l).1,some (bY (cC (jY l).2).1.toNat++(a.flatMap ft++[]))):=by rw[<- o.1];rfl
 obtain⟨j,d,k,q⟩:=nQ (code:=gN) (λs x r=>zb) _ _ _ _ _ g;have n:=ge (s:=(pR l).2) (x:=(cC (pR l).2).1) (r:=_) (by rw[<- q]);have f:io 8 ([],some l)=((pR l).1,some (bY (cC (pR l).2).1.toNat++(j.flatMap gN++(bY (cC (jY l).2).1.toNat++(a.flatMap ft++[]))))):=by rw[<- n.1];rfl
 obtain⟨u,c,v,p⟩:=rH _ _ _ _ _ f;simp only[List.nil_append] at c d e;unfold cQ kt;dsimp only;rw[c,d,e,k,m];have:=Option.some.inj p;simp only[List.append_nil] at this;exact this.symm
/-! the code of a valid map is read -/
theorem xp:∀(k l:List Int)(r:List UInt8),(∀n∈k,0 <= n /\ n <= 1099511627776) -> io k.length (l,some (k.flatMap (λn=>bY n.toNat)++r))=(l++k,some r)
 |[],l,r,_=>by simp[io]
 |x::k,l,r,h=>by
  have a:=h x List.mem_cons_self;rw[aD,io];dsimp only;rw[List.flatMap_cons,aB,j1 x _ a.1 a.2];dsimp only;rw[xp k _ r λy b=>h y (List.mem_cons_of_mem _ b)];simp
theorem rI{α:Type}{c:dO -> α×dO}{a:α -> List UInt8}{P:α -> Prop}(b:∀x r,P x -> c (some (a x++r))=(x,some r)):∀(k l:List α)(r:List UInt8),(∀x∈k,P x) -> fC c k.length (l,some (k.flatMap a++r))=(l++k,some r)
 |[],l,r,_=>by simp[fC]
 |x::k,l,r,h=>by
  rw[aD,iI,List.flatMap_cons,aB,b x _ (h x List.mem_cons_self)];dsimp only;rw[rI b k _ r λy d=>h y (List.mem_cons_of_mem _ d)];simp
def itG(x:RIt):Prop:=x.key.length<18446744073709551616 /\ (0 <= x.dev /\ x.dev <= 1099511627776) /\ (0 <= x.seq /\ x.seq <= 1099511627776) /\ 0 <= x.val /\ x.val <= 1099511627776
def goG(x:RGo):Prop:=x.key.length<18446744073709551616 /\ (0 <= x.dev /\ x.dev <= 1099511627776) /\ 0 <= x.seq /\ x.seq <= 1099511627776
theorem CG(x:RIt)(r:List UInt8)(h:itG x):fP (some (gN x++r))=(x,some r):=by
 obtain⟨d,a,b,c⟩:=h;unfold fP gN;simp only[aB];rw[xj _ _ d];dsimp only;rw[j1 _ _ a.1 a.2];dsimp only;rw[j1 _ _ b.1 b.2];dsimp only;rw[j1 _ _ c.1 c.2]
theorem CH(x:RGo)(r:List UInt8)(h:goG x):fQ (some (ft x++r))=(x,some r):=by
 obtain⟨c,a,b⟩:=h;unfold fQ ft;simp only[aB];rw[xj _ _ c];dsimp only;rw[j1 _ _ a.1 a.2];dsimp only;rw[j1 _ _ b.1 b.2]
theorem Ft{m:aT}(h:aV m=true):kt (cQ m)=m /\ (lu (cQ m)).2=some []:=by
 obtain⟨g,i,j⟩:=rG h;obtain⟨f,k,l,-⟩:=cX h
 have b:pR (cQ m)=(m.seen,some (bY m.items.length++(m.items.flatMap gN++(bY m.gone.length++m.gone.flatMap ft)))):=by
  unfold pR cQ;rw[<- f,xp _ _ _ g];simp
 have c:jY (cQ m)=(m.items,some (bY m.gone.length++m.gone.flatMap ft)):=by
  unfold jY;rw[b];dsimp only;have:=j1 (m.items.length:Int) (m.items.flatMap gN++(bY m.gone.length++m.gone.flatMap ft)) (by omega) (by omega);rw[Int.toNat_natCast] at this;rw[this];dsimp only;rw[Int.toNat_natCast,rI (P:=itG) CG _ _ _ λx a=>by have:=i x a;unfold itG;omega];simp
 have d:lu (cQ m)=(m.gone,some []):=by
  unfold lu;rw[c];dsimp only;have:=j1 (m.gone.length:Int) (m.gone.flatMap ft) (by omega) (by omega);rw[Int.toNat_natCast] at this;rw[this];dsimp only;have e:=rI (P:=goG) CH m.gone [] [] λx a=>by have:=j x a;unfold goG;omega
  rw[List.append_nil] at e;rw[Int.toNat_natCast,e];simp
 exact⟨by unfold kt;rw[b,c,d],by rw[d]⟩
theorem vj{m:aT}(h:aV m=true):e9 (cQ m)=(m,0):=by
 obtain⟨a,b⟩:=Ft h;unfold e9;rw[a,b,if_pos ⟨rfl,h⟩]
theorem El(h:(e9 l).2=0):aV (e9 l).1=true /\ cQ (e9 l).1=l:=by
 unfold e9 at h⊢;split
 ·rename_i hh;exact⟨hh.2,xo hh.1⟩
 ·rename_i hh;rw[if_neg hh] at h;cases h
theorem Em:(e9 b).2=0 \/ e9 b=(.empty,5):=by
 unfold e9;split
 ·exact .inl rfl
 ·exact .inr rfl
def lw:List UInt8 -> Nat
 |[]=>0
 |c::t=>c.toNat%128+128*lw t
theorem qn:∀(a b:List UInt8),lw (a++b)=lw a+128 ^ a.length*lw b
 |[],b=>by simp[lw]
 |c::t,b=>by
  show c.toNat%128+128*lw (t++b)=c.toNat%128+128*lw t+128 ^ (t.length+1)*lw b;rw[qn t b,Nat.pow_succ,Nat.mul_add,<- Nat.mul_assoc,Nat.mul_comm 128 (128 ^ t.length)];omega
theorem Bm(i:Nat)(h:i<b.length):lw (b.take (i+1))=lw (b.take i)+128 ^ i*(b[i].toNat%128):=by
 rw[List.take_succ_eq_append_getElem h,qn];have a:(b.take i).length=i:=by simp;omega
 rw[a];simp[lw]
theorem tZ(h:n<18446744073709551616):lw (bY n)=n /\ (∀i (hi:i<(bY n).length),(bY n)[i].toNat<128↔i+1=(bY n).length):=by
 induction n using Nat.strongRecOn with
 |_ n b=>
  by_cases a:n<128
  ·rw[nJ n a];refine⟨?_,λi hi=>?_⟩
   ·simp only[lw];rw[d7 n (by omega)];omega
   ·have:i=0:=by simp at hi;omega
    subst this;simp only[List.getElem_cons_zero];rw[d7 n (by omega)];simp;exact a
  ·rw[kM n a h];obtain⟨c,d⟩:=b (n/128) (by omega) (by omega);refine⟨?_,λi hi=>?_⟩
   ·simp only[lw];rw[d7 _ (by omega),c];omega
   ·cases i with
    |zero=>
     simp only[List.getElem_cons_zero,aD];rw[d7 _ (by omega)];have:=il (n/128);omega
    |succ i=>
     simp only[List.getElem_cons_succ,aD];have:=d i (by simpa using hi);omega
theorem AG(h:∀i (hi:i<l.length),i<10 -> ¬l[i].toNat<128):rdF l 9=none:=by
 cases c:rdF l 9 with
 |none=>rfl
 |some p=>
  obtain⟨n,r⟩:=p;obtain⟨b,a⟩:=gy.1 c;have d:=cq n;have f:=il n;have hi:(bY n).length-1<l.length:=by rw[a,aA];omega
  have:=((tZ n b).2 ((bY n).length-1) (by omega)).2 (by omega);refine absurd ?_ (h _ hi (by omega))
  have e:l[(bY n).length-1]=(bY n)[(bY n).length-1]'(by omega):=by
   simp only[a];rw[List.getElem_append_left (by omega)]
  rw[e];exact this
theorem F4(u:i<l.length)(t:i<10)(g:∀j (a:j<l.length),j<i -> ¬l[j].toNat<128)(k:l[i].toNat<128):
 rdF l 9=if l.take (i+1)=bY (lw (l.take (i+1))%18446744073709551616) then some (lw (l.take (i+1))%18446744073709551616,l.drop (i+1)) else none:=by
 split
 ·rename_i h;exact gy.2 ⟨Nat.mod_lt _ (by omega),by rw[<- h];simp⟩
 ·rename_i h;cases o:rdF l 9 with
  |none=>rfl
  |some p=>
   obtain⟨n,r⟩:=p;obtain⟨c,b⟩:=gy.1 o;obtain⟨s,e⟩:=tZ n c;have w:=il n;have v:l.length=(bY n).length+r.length:=by rw[b,aA]
   have f:∀j (a:j<(bY n).length),(bY n)[j]=l[j]'(by omega):=λj a=>by
    simp only[b];rw[List.getElem_append_left a]
   have m:i+1=(bY n).length:=by
    by_cases d:i<(bY n).length
    ·have:=(e i d).1 (by rw[f i d];exact k);exact this
    ·have a:(bY n).length-1<l.length:=by omega
     refine absurd ?_ (g ((bY n).length-1) a (by omega));have:=(e ((bY n).length-1) (by omega)).2 (by omega);rw[f _ (by omega)] at this;exact this
   have q:l.take (i+1)=bY n:=by rw[b,m];simp
   rw[q,s,Nat.mod_eq_of_lt c] at h;exact absurd rfl h
theorem aH{α:Sort _}(a:α):∃x,a=x:=⟨_,rfl⟩
theorem aP{α:Sort _}(a:α):∃x,x=a:=⟨_,rfl⟩
theorem fv{k:IntKind}{a b:Int}(h:a=b):Ending.returned (.int k a)=.returned (.int k b):=by rw[h]
theorem iX{a b:Bool}(h:a=b):Ending.returned (.bool a)=.returned (.bool b):=by rw[h]
def et(w:World)(b:Nat)(v:Value)(t:TypeId):Prop:=w.heap[b]?=some (.cells #[v] t (0,0))
theorem et.cell{w:World}{b:Nat}{v:Value}{t:TypeId}(h:et w b v t):w.cell? ⟨b,0,none⟩=some v:=cell_of_one h
theorem et.free(h:et W i u t):W.frozen? ⟨i,0,none⟩=false:=free_of_one h
theorem et.lt(h:et W i u t):i<W.heap.size:=lt_of_block h
theorem et.set{v u:Value}(h:et W i v t):et (W.setCell ⟨i,0,none⟩ u) i u t:=one_setCell h
theorem et.other(h:et W i u t){a:Addr}(d:Value)(c:i≠a.block):et (W.setCell a d) i u t:=by
 unfold et;rw[Below.heap_setCell _ _ _ _ c];exact h
theorem et.alloc{w:World}{b:Nat}{v:Value}{t:TypeId}(h:et w b v t)(o:Obj):et (w.alloc o) b v t:=by
 unfold et;rw[Below.heap_alloc _ _ _ h.lt];exact h
theorem et.new(t:TypeId):et (w.alloc (.cells #[v] t)) w.heap.size v t:=by
 unfold et World.alloc;simp
theorem et.below{B:Nat}(h:et W i u t)(a:Below B W w')(c:i<B):et w' i u t:=by
 unfold et;rw[a.block i c];exact h
theorem cT{a b c:World}(h:Below a.heap.size a b)(k:Below b.heap.size b c):Below a.heap.size a c:=h.trans (k.mono h.size)
theorem aI(o:Obj):Below w.heap.size w (w.alloc o):=(Below.refl _ _).alloc (aq _) o
theorem cN(h:Below i W w')(n:Nat):Below i W (w'.drewN n):=by
 exact⟨h.os,h.tape,h.output,h.size,h.block⟩
def Hd(p:Prop):Prop:=p
theorem Hd.x{p:Prop}(h:Hd p):p:=h
theorem ae{p:Prop}(h:p):Hd p:=h
theorem ae2{Pa Pb:Prop}(a:Pa)(b:Pb):Hd Pa/\Hd Pb:=⟨ae a,ae b⟩
theorem ae3{Pa Pb Pc:Prop}(a:Pa)(b:Pb)(c:Pc):Hd Pa/\Hd Pb/\Hd Pc:=⟨ae a,ae b,ae c⟩
theorem ae4{Pa Pb Pc Pd:Prop}(a:Pa)(b:Pb)(c:Pc)(d:Pd):Hd Pa/\Hd Pb/\Hd Pc/\Hd Pd:=⟨ae a,ae b,ae c,ae d⟩
theorem ae5{Pa Pb Pc Pd Pe:Prop}(a:Pa)(b:Pb)(c:Pc)(d:Pd)(e:Pe):Hd Pa/\Hd Pb/\Hd Pc/\Hd Pd/\Hd Pe:=⟨ae a,ae b,ae c,ae d,ae e⟩
theorem ae6{Pa Pb Pc Pd Pe Pf:Prop}(a:Pa)(b:Pb)(c:Pc)(d:Pd)(e:Pe)(f:Pf):Hd Pa/\Hd Pb/\Hd Pc/\Hd Pd/\Hd Pe/\Hd Pf:=⟨ae a,ae b,ae c,ae d,ae e,ae f⟩
theorem ae7{Pa Pb Pc Pd Pe Pf Pg:Prop}(a:Pa)(b:Pb)(c:Pc)(d:Pd)(e:Pe)(f:Pf)(g:Pg):Hd Pa/\Hd Pb/\Hd Pc/\Hd Pd/\Hd Pe/\Hd Pf/\Hd Pg:=⟨ae a,ae b,ae c,ae d,ae e,ae f,ae g⟩
theorem ae8{Pa Pb Pc Pd Pe Pf Pg Ph:Prop}(a:Pa)(b:Pb)(c:Pc)(d:Pd)(e:Pe)(f:Pf)(g:Pg)(h:Ph):Hd Pa/\Hd Pb/\Hd Pc/\Hd Pd/\Hd Pe/\Hd Pf/\Hd Pg/\Hd Ph:=⟨ae a,ae b,ae c,ae d,ae e,ae f,ae g,ae h⟩
section
abbrev Kpt(w w':World):Prop:=Below w.heap.size w w'
abbrev aQ:=Nat -> Prop
structure aM(F:aQ)(w w':World):Prop where
 os:w'.os=w.os
 tape:w'.tape=w.tape
 output:w'.output=w.output
 size:w.heap.size <= w'.heap.size
 block:∀k,k<w.heap.size -> ¬F k -> w'.heap[k]?=w.heap[k]?
theorem aM.refl(F:aQ)(w:World):aM F w w:=⟨rfl,rfl,rfl,aq _,λ_ _ _=>rfl⟩
theorem aM.trans{F G:aQ}{a b c:World}(h:aM F a b)(k:aM G b c)(e:∀i,G i -> F i \/ a.heap.size <= i):aM F a c:=
 ⟨k.os.trans h.os,k.tape.trans h.tape,k.output.trans h.output,au h.size k.size,λi hi d=>
  (k.block i (aw hi h.size) (λf=>(e i f).elim d (λg=>absurd hi (Nat.not_lt.2 g)))).trans (h.block i hi d)⟩
theorem aM.mono{F G:aQ}(h:aM F W w')(d:∀i,F i -> G i):aM G W w':=
 ⟨h.os,h.tape,h.output,h.size,λi hi c=>h.block i hi (λe=>c (d i e))⟩
theorem aM.of_below{F:aQ}{w a:World}(h:Kpt w a):aM F w a:=⟨h.os,h.tape,h.output,h.size,λi hi _=>h.block i hi⟩
theorem aM.below{F:aQ}{B:Nat}(h:aM F W w')(hF:∀i,F i -> B <= i)(b:B <= W.heap.size):Below B W w':=
 ⟨h.os,h.tape,h.output,h.size,λi hi=>h.block i (by omega) (λa=>by have:=hF i a;omega)⟩
abbrev none_:aQ:=λ_=>False
theorem aM.kept(h:aM none_ W w'):Kpt W w':=h.below (λ_ a=>a.elim) (aq _)
theorem aM.drewN{F:aQ}{a w:World}(h:aM F a w)(n:Nat):aM F a (w.drewN n):=⟨h.os,h.tape,h.output,h.size,h.block⟩
theorem aM.drew{F:aQ}{a w:World}(h:aM F a w):aM F a w.drew:=⟨h.os,h.tape,h.output,h.size,h.block⟩
theorem aM.alloc{F:aQ}{a w:World}(h:aM F a w)(o:Obj):aM F a (w.alloc o):=
 ⟨h.os,h.tape,h.output,au h.size (by simp),λi hi b=>(Below.heap_alloc w o i (aw hi h.size)).trans (h.block i hi b)⟩
theorem aM.setCell{F:aQ}{a w:World}(h:aM F a w){p:Addr}(b:F p.block \/ a.heap.size <= p.block)(u:Value):aM F a (w.setCell p u):=
 ⟨h.os,h.tape,h.output,by simpa[World.setCell] using h.size,λi hi c=>(Below.heap_setCell w p u i (by
  rintro rfl;rcases b with b|b
  ·exact c b
  ·omega)).trans (h.block i hi c)⟩
theorem aM.setRow{F:aQ}{a w:World}(h:aM F a w){g:Nat}(b:F g \/ a.heap.size <= g)(c:Array Value):aM F a (w.setRow g c):=
 ⟨h.os,h.tape,h.output,by simpa[World.setRow] using h.size,λi hi d=>(setRow_other w g i c (by
  rintro rfl;rcases b with b|b
  ·exact d b
  ·omega)).trans (h.block i hi d)⟩
def Blk(w:World)(b:Nat)(L:List Value)(t:TypeId):Prop:=w.heap[b]?=some (.cells L.toArray t (0,0))
theorem Blk.lt(h:Blk W i L t):i<W.heap.size:=lt_of_block h
theorem Blk.cell{w:World}{b:Nat}{L:List Value}{t:TypeId}(h:Blk w b L t)(i:Nat):w.cell? ⟨b,i,none⟩=L[i]?:=by
 rw[cell_of_row w b i _ t (0,0) h];simp
theorem Blk.free(h:Blk W i L t)(a:Nat):W.frozen? ⟨i,a,none⟩=false:=frozen_of_row W i a _ t h
theorem Blk.keep{w w':World}(h:Blk w i L t)(a:w'.heap[i]?=w.heap[i]?):Blk w' i L t:=a.trans h
theorem Blk.only{F:aQ}(h:Blk W i L t)(c:aM F W w')(a:¬F i):Blk w' i L t:=h.keep (c.block i h.lt a)
theorem Blk.alloc{w:World}{b:Nat}{L:List Value}{t:TypeId}(h:Blk w b L t)(o:Obj):Blk (w.alloc o) b L t:=h.keep (Below.heap_alloc w o b h.lt)
theorem Blk.new(a:Array Value)(t:TypeId):Blk (w.alloc (.cells a t)) w.heap.size a.toList t:=by
 unfold Blk World.alloc;simp
theorem Blk.set{w:World}{b:Nat}{L:List Value}{t:TypeId}(h:Blk w b L t)(i:Nat)(u:Value):Blk (w.setCell ⟨b,i,none⟩ u) b (L.set i u) t:=by
 unfold Blk;rw[heap_setCell_same w b i _ t u h];simp
theorem Blk.set_other(h:Blk W i L t){a:Addr}(u:Value)(c:i≠a.block):Blk (W.setCell a u) i L t:=
 h.keep (Below.heap_setCell _ _ _ _ c)
theorem Blk.row(h:Blk W i L t)(M:List Value):Blk (W.setRow i M.toArray) i M t:=setRow_heap W i _ _ t _ h
theorem Blk.row_other(h:Blk W i L t)(a:Array Value)(c:i≠j):Blk (W.setRow j a) i L t:=
 h.keep (setRow_other W j i a c)
theorem Blk.inj{L M:List Value}{t u:TypeId}(h:Blk W i L t)(k:Blk W i M u):L=M /\ t=u:=by
 unfold Blk at h k;rw[h] at k;simp at k;exact k
theorem Blk.ne{L M:List Value}{t u:TypeId}(h:Blk W i L t)(k:Blk W j M u)(a:t≠u):i≠j:=by
 rintro rfl;exact a (h.inj k).2
theorem Blk.drewN{w:World}{b:Nat}{L:List Value}{t:TypeId}(h:Blk w b L t)(n:Nat):Blk (w.drewN n) b L t:=h
theorem Blk.drew{w:World}{b:Nat}{L:List Value}{t:TypeId}(h:Blk w b L t):Blk w.drew b L t:=h
def B(b:UInt8):Value:=.int .u8 (b.toNat:Int)
def LV(t:TypeId)(a:Addr):Sem Value:=loadVar t a
def SV(t:TypeId)(a:Addr)(v:Value):Sem Unit:=storeVar t a v
def AP(b:Array TypeId)(t:TypeId)(a:Array Value):Sem Value:=Builtin.append_ b t a
theorem aU(b:Array TypeId)(t:TypeId)(a:Array Value):Builtin.append_ b t a=AP b t a:=rfl
def MK(t:TypeId)(l c:Value):Sem Value:=Instr.makeSlice t l c
theorem pT(t:TypeId)(l c:Value):Instr.makeSlice t l c=MK t l c:=rfl
section
variable {P:Program}
theorem CJ{w:World}{d:TypeDesc}(q:P.underlying t=some d)(r:(match d with|.struct _|.array _ _=>true|_=>false)=true)
 (f:(P.info? t).map (·.size)=some o) {b off:Nat} {h:TypeId} {e:Nat×Nat} (l:w.heap[b]?=some (.cells L.toArray h e)) (s:off+o <= L.length):
 (LV t ⟨b,off,none⟩).run P w=.ok (.agg ((L.drop off).take o).toArray) w:=by
 have m:((L.drop off).take o).length=o:=by simp;omega
 have g:=run_loadCells_list (P:=P) w ⟨b,off,none⟩ ((L.drop off).take o) (λj v a=>by
  rw[Addr.add_lit,cell_of_row w b (off+j) _ h e l];rw[List.getElem?_take] at a;split at a
  ·simpa using a
  ·cases a)
 rw[m] at g;cases c:P.info? t with
 |none=>simp[c] at f
 |some i=>
  have p:i.size=o:=by simpa[c] using f
  have k:(isAgg t).run P w=.ok true w:=by
   unfold isAgg;rw[Sem.run_bind,run_underlying q w];cases d<;>simp_all
  simp[LV,loadVar,Sem.run_bind,k,sizeOf,typeInfo,c,p,g]
theorem zd{w:World}(c:(P.info? t).map (·.size)=some j)
 {b off:Nat} {L V:List Value} {e:TypeId} (h:Blk w b L e) (g:V.length=j) (k:off+j <= L.length) (f:∀v∈V,v.oneCell'=true):
 (SV t ⟨b,off,none⟩ (.agg V.toArray)).run P w=.ok () (w.setRow b (L.take off++V++L.drop (off+j)).toArray):=by
 subst g;have d:=run_storeCells_at P b off e V 0 L.toArray w h (by simpa using k) f;simp only[Nat.add_zero] at d;cases a:P.info? t with
 |none=>simp[a] at c
 |some i=>
  have l:i.size=V.length:=by simpa[a] using c
  simp[SV,storeVar,sizeOf,typeInfo,a,l,Value.cells,d]
end
theorem jw(l:List UInt8):∀v∈l.map B,v.oneCell'=true:=by
 intro v a;obtain⟨b,_,rfl⟩:=List.mem_map.1 a;rfl
def aO(F:aQ)(w:World)(v:Value)(l:List UInt8):Prop:=
 ∃a c,v=.slice a l.length c /\ l.length <= c /\ c <= maxLen /\ (a=none -> c=0) /\
  (l = [] \/ ∃b d L t e,a=some ⟨b,d,none⟩ /\ F b /\ w.heap[b]?=some (.cells L t e) /\ d+l.length <= L.size /\ ∀i (h:i<l.length),L[d+i]?=some (B l[i]))
theorem aO.keep{F:aQ}{w w':World}(h:aO F w u l)(g:∀b,F b -> b<w.heap.size -> w'.heap[b]?=w.heap[b]?):aO F w' u l:=by
 obtain⟨a,d,rfl,f,j,m,h⟩:=h;refine⟨a,d,rfl,f,j,m,?_⟩;rcases h with h|⟨b,n,L,t,e,rfl,hF,c,i,k⟩
 ·exact .inl h
 ·exact .inr ⟨b,n,L,t,e,rfl,hF,(g b hF (lt_of_block c)).trans c,i,k⟩
theorem aO.only{F G:aQ}{v:Value}(h:aO F W v l)(e:aM G W w')(c:∀b,F b -> ¬G b):aO F w' v l:=
 h.keep λb a d=>e.block b d (c b a)
theorem aO.mono{F G:aQ}(h:aO F W u l)(g:∀b,F b -> G b):aO G W u l:=by
 obtain⟨a,c,rfl,f,j,m,h⟩:=h;refine⟨a,c,rfl,f,j,m,?_⟩;rcases h with h|⟨b,n,L,t,d,rfl,hF,e,i,k⟩
 ·exact .inl h
 ·exact .inr ⟨b,n,L,t,d,rfl,g b hF,e,i,k⟩
theorem aO.cells{F:aQ}{w:World}{a:Option Addr}{n d:Nat}(h:aO F w (.slice a n d) l):n=l.length /\ l.length <= d /\ d <= maxLen /\
 (l = [] \/ ∃b c,a=some ⟨b,c,none⟩ /\ F b /\ b<w.heap.size /\ ∀i (h:i<l.length),w.cell? ⟨b,c+i,none⟩=some (B l[i])):=by
 obtain⟨o,p,f,j,k,r,h⟩:=h;simp at f;obtain⟨rfl,rfl,rfl⟩:=f;refine⟨rfl,j,k,?_⟩;rcases h with h|⟨b,c,L,t,g,rfl,hF,e,q,m⟩
 ·exact .inl h
 ·refine .inr ⟨b,c,rfl,hF,lt_of_block e,λi hi=>?_⟩;rw[cell_of_row w b (c+i) L t g e];exact m i hi
theorem aO.of_owns(h:W.ownsRow j t 1 u l.length (l.map B))(F:aQ)(hF:∀k,j <= k -> k<W.heap.size -> F k):aO F W u l:=by
 obtain⟨q,a⟩:=h;rcases a with⟨rfl,a⟩|⟨g,d,b,rfl,f,c,m,o,r,p⟩
 ·have n:=List.length_eq_zero_iff.1 a;exact⟨none,0,by rw[a],by omega,by unfold maxLen;omega,λ_=>rfl,.inl n⟩
 ·refine⟨_,d,rfl,m,o,nofun,.inr ⟨g,0,b,t,(0,0),rfl,hF g f (lt_of_block c),c,by omega,λi hi=>?_⟩⟩;have:(b.toList.take (l.length*1))[i]?=(l.map B)[i]?:=by rw[p]
  rw[List.getElem?_take,if_pos (by omega)] at this;simpa[List.getElem?_eq_getElem hi] using this
end
section
def Rows(F:aQ)(w:World)(k:Nat)(v:Value)(n:Nat)(X:List Value):Prop:=
 ∃a c,v=.slice a n c /\ n <= c /\ c <= maxLen /\ (a=none -> c=0) /\ X.length=n*k /\
  (n=0 \/ ∃b d L t e,a=some ⟨b,d,none⟩ /\ F b /\ w.heap[b]?=some (.cells L t e) /\ d+n*k <= L.size /\ ∀i,i<n*k -> L[d+i]?=X[i]?)
theorem Rows.keep{F:aQ}{w w':World}{k n:Nat}{X:List Value}(h:Rows F w k u n X)(i:∀b,F b -> b<w.heap.size -> w'.heap[b]?=w.heap[b]?):Rows F w' k u n X:=by
 obtain⟨a,d,rfl,g,l,o,f,h⟩:=h;refine⟨a,d,rfl,g,l,o,f,?_⟩;rcases h with h|⟨b,p,L,t,e,rfl,hF,c,j,m⟩
 ·exact .inl h
 ·exact .inr ⟨b,p,L,t,e,rfl,hF,(i b hF (lt_of_block c)).trans c,j,m⟩
theorem Rows.mono{F G:aQ}{k n:Nat}{X:List Value}(h:Rows F W k u n X)(i:∀b,F b -> b<W.heap.size -> G b):Rows G W k u n X:=by
 obtain⟨a,d,rfl,g,l,o,f,h⟩:=h;refine⟨a,d,rfl,g,l,o,f,?_⟩;rcases h with h|⟨b,p,L,t,e,rfl,hF,c,j,m⟩
 ·exact .inl h
 ·exact .inr ⟨b,p,L,t,e,rfl,i b hF (lt_of_block c),c,j,m⟩
theorem Rows.below{B:Nat}{k n:Nat}(h:Rows (λb=>b<B) W k u n L)(c:Below B W w'):Rows (λb=>b<B) w' k u n L:=h.keep λb a _=>c.block b a
theorem Rows.drew{F:aQ}{w:World}{k n:Nat}{v:Value}{X:List Value}(h:Rows F w k v n X):Rows F w.drew k v n X:=h
theorem Rows.nil(F:aQ)(w:World)(k:Nat):Rows F w k (.slice none 0 0) 0 []:=⟨none,0,rfl,aq _,by unfold maxLen;omega,λ_=>rfl,by simp,.inl rfl⟩
theorem Rows.cells{F:aQ}{w:World}{k n m:Nat}{a:Option Addr}{X:List Value}(h:Rows F w k (.slice a m j) n X)(x:0<n):
 ∃b c,a=some ⟨b,c,none⟩ /\ F b /\ b<w.heap.size /\ ∀i u,X[i]?=some u -> w.cell? ⟨b,c+i,none⟩=some u:=by
 obtain⟨p,q,f,r,v,y,l,h⟩:=h;simp at f;obtain⟨rfl,rfl,rfl⟩:=f;rcases h with h|⟨b,c,L,t,g,rfl,hF,d,s,o⟩
 ·omega
 ·refine⟨b,c,rfl,hF,lt_of_block d,λi u e=>?_⟩;have hi:i<m*k:=by rw[<- l];exact(List.getElem?_eq_some_iff.1 e).1
  rw[cell_of_row w b (c+i) L t g d,o i hi,e]
theorem Rows.shape{F:aQ}{k n:Nat}(h:Rows F W k u n L):∃a b,u=.slice a n b /\ n <= b /\ b <= maxLen /\ (a=none -> b=0):=by
 obtain⟨a,b,rfl,c,d,e,_⟩:=h;exact⟨a,b,rfl,c,d,e⟩
theorem Rows.len{F:aQ}{k n:Nat}(h:Rows F W k u n L):n <= maxLen:=by
 obtain⟨a,b,rfl,c,d,_⟩:=h;omega
theorem Rows.of_owns{k n:Nat}(h:W.ownsRow j t k u n L):Rows (λb=>j <= b /\ b<W.heap.size) W k u n L:=by
 obtain⟨f,a⟩:=h;rcases a with⟨rfl,a⟩|⟨g,c,d,rfl,o,m,l,p,r,q⟩
 ·subst a;exact⟨none,0,rfl,by omega,by unfold maxLen;omega,λ_=>rfl,f,.inl rfl⟩
 ·refine⟨_,c,rfl,l,p,nofun,f,.inr ⟨g,0,d,t,(0,0),rfl,⟨o,lt_of_block m⟩,m,?_,λi hi=>?_⟩⟩
  ·have:n*k <= c*k:=Nat.mul_le_mul_right k l;omega
  ·have:(d.toList.take (n*k))[i]?=L[i]?:=by rw[q]
   rw[List.getElem?_take,if_pos hi] at this;simpa using this
theorem en{P:Program}(c e:TypeId){d:TypeInfo}{z:Value}{k h:Nat}(C:P.underlying c=some (.slice e))(y:P.info? e=some d)(R:d.zero=some z)(Q:d.size=k)(K:d.bytes=h)(S:z.cells.size=k)(N:0<k)
 (v:Value) (f:Nat) (q:List Value) (l:w.ownsRow n e k v f q) (F:aQ) (x:Value) (m:Nat) (X:List Value) (p:Rows F w k x m X) (i:∀u∈X,u.oneCell'=true)
 (O:f+m <= maxLen) (I:(f+m)*h <= 140737488355328) (J:n <= w.heap.size):
 ∃g w',(AP #[c,c] c #[v,x]).run P w=.ok g w' /\ w'.ownsRow n e k g (f+m) (q++X) /\ w.grownBy w' v.ownBlock:=by
 obtain⟨a,E,rfl,Z,hm,T,r,p⟩:=p;cases a with
 |none=>
  obtain rfl:=T rfl;obtain rfl:m=0:=by omega
  obtain rfl:X = []:=List.length_eq_zero_iff.1 (by omega);exact⟨v,w,run_append_owned_none w n c c e d k C y v _ _ l,by simpa using l,World.grownBy.refl _ _⟩
 |some D=>
  obtain⟨g,w',o,i,H,V⟩:=run_append_own (P:=P) w n c c e d z k h C y R Q K S N v f q l D m E X r
   (λj u A=>by
    have B:j<m*k:=by rw[<- r];exact(List.getElem?_eq_some_iff.1 A).1
    rcases p with rfl|⟨b,U,L,t,G,s,hF,M,Y,o⟩
    ·simp at B
    ·simp at s;subst s
     rw[Addr.add_lit,cell_of_row w b (U+j) L t G M,o j B,A])
   i O I J
  exact⟨g,w',o,i,H⟩
theorem cu{P:Program}(d a:TypeId){e:TypeInfo}{z:Value}{k h:Nat}(y:P.underlying d=some (.slice a))(j:P.info? a=some e)(A:e.zero=some z)(x:e.size=k)(p:e.bytes=h)(B:z.cells.size=k)(r:0<k)
 (v:Value) (c:Nat) (g:List Value) (t:w.ownsRow n a k v c g) (b:Array Value) (q:b.size=k) (m:∀u∈b.toList,u.oneCell'=true)
 (s:c+1 <= maxLen) (o:(c+1)*h <= 140737488355328) (C:n <= w.heap.size):
 ∃l f,(AP #[d,d] d #[v,.slice (some ⟨w.heap.size,0,none⟩) 1 1]).run P (w.alloc (.cells b a))=.ok l f /\ f.ownsRow n a k l (c+1) (g++b.toList) /\ (w.alloc (.cells b a)).grownBy f v.ownBlock:=by
 refine en (w.alloc (.cells b a)) n d a y j A x p B r v c g (t.alloc _) (λ_=>True) (.slice (some ⟨w.heap.size,0,none⟩) 1 1) 1 b.toList ?_ m s o (by simp;omega);refine⟨_,1,rfl,aq _,by unfold maxLen;omega,nofun,by simp[q],.inr ⟨w.heap.size,0,b,a,(0,0),rfl,trivial,by unfold World.alloc;simp,by omega,λi j=>by simp⟩⟩
theorem gW{k n:Nat}(h:W.ownsRow i t k u n L)(a:u.ownBlock=some j):∃c,W.heap[j]?=some (.cells c t (0,0)):=by
 rcases h.2 with⟨rfl,_⟩|⟨g,f,l,rfl,_,d,_⟩
 ·simp[Value.ownBlock] at a
 ·have:g=j:=by simpa[Value.ownBlock] using a
  subst this;exact⟨_,d⟩
theorem Blk.grownNe{e t:TypeId}{k n b:Nat}{l L:List Value}(h:Blk W b L t)(g:W.ownsRow i e k u n l)(f:e≠t)(d:W.grownBy w' u.ownBlock):Blk w' b L t:=by
 refine h.keep (d.block b h.lt λc=>?_);obtain⟨m,a⟩:=gW g c.symm;unfold Blk at h;rw[h] at a;injection a with a
 injection a with _ j
 exact f j.symm
theorem bZ{e c:TypeId}{k f n g:Nat}{v d:Value}{u l:List Value}(h:W.ownsRow j c f d g l)(s:W.ownsRow i e k v n u)(r:e≠c)(q:W.grownBy w' v.ownBlock):w'.ownsRow j c f d g l:=by
 refine h.kept q ?_;cases o:d.ownBlock with
 |none=>exact .inl rfl
 |some b=>
  refine .inr λp=>?_
  obtain⟨x,m⟩:=gW h o;obtain⟨y,a⟩:=gW s p.symm;rw[m] at a;injection a with a
  injection a with _ t
  exact r t.symm
theorem aL{e t:TypeId}{k n:Nat}{l L:List Value}(h:W.ownsRow j e k u n l)(c:Blk W o L t)(m:e≠t)(f:Value):(W.setCell ⟨o,i,none⟩ f).ownsRow j e k u n l:=by
 refine h.kept (row:=some o) ⟨rfl,rfl,rfl,by simp[World.setCell],λq y r=>Below.heap_setCell W ⟨o,i,none⟩ f q (λe=>r (by rw[e]))⟩ ?_;cases p:u.ownBlock with
 |none=>exact .inl rfl
 |some g=>
  refine .inr λd=>?_
  simp at d;subst d;obtain⟨x,a⟩:=gW h p;unfold Blk at c;rw[c] at a;injection a with a
  injection a with _ s
  exact m s.symm
theorem Below.grownOwn{k n:Nat}(c:W.ownsRow j t k u n L)(b:W.grownBy w' u.ownBlock)(a:i <= W.heap.size)(f:i <= j):Below i W w':=
 (Below.refl i W).grown b a λq d=>by have:=(c.lt q d).1;omega
theorem br{k n:Nat}(h:W.ownsRow i t k u n L)(a:Kpt W w'):w'.ownsRow i t k u n L:=
 h.kept (row:=none) ⟨a.os,a.tape,a.output,a.size,λq b _=>a.block q b⟩ (by cases u.ownBlock<;>simp)
/-! lists of values -/
abbrev eI(n:Int):Value:=.int .i64 n
def bT(x:RIt):List Value:=[Go.Proofs.encStr x.key,eI x.dev,eI x.seq,eI x.val]
def du(x:RGo):List Value:=[Go.Proofs.encStr x.key,eI x.dev,eI x.seq]
section
variable {α:Type} (enc:α -> List Value) (k:Nat)
theorem dG(a:∀x,(enc x).length=k)(l:List α):(l.flatMap enc).length=l.length*k:=by
 induction l with
 |nil=>simp
 |cons x l b=>rw[List.flatMap_cons,aA,a,b,aD,Nat.succ_mul];omega
theorem fD(a:∀x,(enc x).length=k):∀(l:List α)(i j:Nat)(h:i<l.length),j<k -> (l.flatMap enc)[i*k+j]?=(enc l[i])[j]?
 |[],i,j,h,_=>by simp at h
 |x::l,0,j,_,b=>by
  rw[List.flatMap_cons,List.getElem?_append_left (by rw[a];omega)];simp
 |x::l,i+1,j,h,b=>by
  rw[List.flatMap_cons,List.getElem?_append_right (by rw[a,Nat.succ_mul];omega),a,Nat.succ_mul,show i*k+k+j-k=i*k+j from by omega];simpa using fD a l i j (by simpa using h) b
end
theorem cY(x:RIt):(bT x).length=4:=rfl
theorem iJ(x:RGo):(du x).length=3:=rfl
theorem fw{F:aQ}{a:Option Addr}{l:List RIt}(h:Rows F W 4 (.slice a j o) l.length (l.flatMap bT))(e:0<l.length):
 ∃b c,a=some ⟨b,c,none⟩ /\ F b /\ b<W.heap.size /\ ∀i (hi:i<l.length),W.cell? ⟨b,c+i*4,none⟩=some (.string ⟨l[i].key.toArray⟩) /\ W.cell? ⟨b,c+i*4+1,none⟩=some (.int .i64 l[i].dev) /\ W.cell? ⟨b,c+i*4+2,none⟩=some (.int .i64 l[i].seq) /\ W.cell? ⟨b,c+i*4+3,none⟩=some (.int .i64 l[i].val):=by
 obtain⟨b,c,rfl,hF,f,d⟩:=h.cells e;refine⟨b,c,rfl,hF,f,λi hi=>⟨?_,?_,?_,?_⟩⟩
 ·exact d (i*4) _ (fD bT 4 cY l i 0 hi (by omega))
 ·exact d (i*4+1) _ (fD bT 4 cY l i 1 hi (by omega))
 ·exact d (i*4+2) _ (fD bT 4 cY l i 2 hi (by omega))
 ·exact d (i*4+3) _ (fD bT 4 cY l i 3 hi (by omega))
theorem gh{F:aQ}{a:Option Addr}{l:List RGo}(h:Rows F W 3 (.slice a j o) l.length (l.flatMap du))(e:0<l.length):
 ∃b c,a=some ⟨b,c,none⟩ /\ F b /\ b<W.heap.size /\ ∀i (hi:i<l.length),W.cell? ⟨b,c+i*3,none⟩=some (.string ⟨l[i].key.toArray⟩) /\ W.cell? ⟨b,c+i*3+1,none⟩=some (.int .i64 l[i].dev) /\ W.cell? ⟨b,c+i*3+2,none⟩=some (.int .i64 l[i].seq):=by
 obtain⟨b,c,rfl,hF,f,d⟩:=h.cells e;refine⟨b,c,rfl,hF,f,λi hi=>⟨?_,?_,?_⟩⟩
 ·exact d (i*3) _ (fD du 3 iJ l i 0 hi (by omega))
 ·exact d (i*3+1) _ (fD du 3 iJ l i 1 hi (by omega))
 ·exact d (i*3+2) _ (fD du 3 iJ l i 2 hi (by omega))
theorem ip{F:aQ}{a:Option Addr}{l:List Int}(h:Rows F W 1 (.slice a j o) l.length (l.map eI))(d:0<l.length):
 ∃b c,a=some ⟨b,c,none⟩ /\ F b /\ b<W.heap.size /\ ∀i (hi:i<l.length),W.cell? ⟨b,c+i,none⟩=some (.int .i64 l[i]):=by
 obtain⟨b,c,rfl,hF,e,f⟩:=h.cells d;exact⟨b,c,rfl,hF,e,λi hi=>f i _ (by simp[hi])⟩
theorem fE{F:aQ}{a:Option Addr}{l:List bQ}(h:Rows F W 1 (.slice a j o) l.length (l.map Go.Proofs.encStr))(d:0<l.length):
 ∃b c,a=some ⟨b,c,none⟩ /\ F b /\ b<W.heap.size /\ ∀i (hi:i<l.length),W.cell? ⟨b,c+i,none⟩=some (.string ⟨l[i].toArray⟩):=by
 obtain⟨b,c,rfl,hF,e,f⟩:=h.cells d;exact⟨b,c,rfl,hF,e,λi hi=>f i _ (by simp[hi])⟩
theorem mA(l:List RIt):∀u∈l.flatMap bT,u.oneCell'=true:=by
 intro u b;obtain⟨x,_,a⟩:=List.mem_flatMap.1 b;simp[bT] at a;rcases a with rfl|rfl|rfl|rfl<;>rfl
theorem mB(l:List RGo):∀u∈l.flatMap du,u.oneCell'=true:=by
 intro u b;obtain⟨x,_,a⟩:=List.mem_flatMap.1 b;simp[du] at a;rcases a with rfl|rfl|rfl<;>rfl
theorem ze(l:List Int):∀u∈l.map eI,u.oneCell'=true:=by
 intro u a;obtain⟨x,_,rfl⟩:=List.mem_map.1 a;rfl
theorem Fu(l:List bQ):∀u∈l.map Go.Proofs.encStr,u.oneCell'=true:=by
 intro u a;obtain⟨x,_,rfl⟩:=List.mem_map.1 a;rfl
/-! maps -/
def dk(n:Int):Prop:=-9223372036854775808 <= n /\ n <= 9223372036854775807
structure ce(F:aQ)(w:World)(s1 s2 s3:Value)(m:aT):Prop where
 seen:Rows F w 1 s1 m.seen.length (m.seen.map eI)
 items:Rows F w 4 s2 m.items.length (m.items.flatMap bT)
 gone:Rows F w 3 s3 m.gone.length (m.gone.flatMap du)
 seenB:∀n∈m.seen,dk n
 itemsB:∀x∈m.items,x.key.length <= 9223372036854775807 /\ dk x.dev /\ dk x.seq /\ dk x.val
 goneB:∀x∈m.gone,x.key.length <= 9223372036854775807 /\ dk x.dev /\ dk x.seq
def di(F:aQ)(w:World)(v:Value)(m:aT):Prop:=∃a b c,v=.agg #[a,b,c] /\ ce F w a b c m
theorem ce.keep{F:aQ}{w w':World}{c d e:Value}{m:aT}(h:ce F w c d e m)(a:∀b,F b -> b<w.heap.size -> w'.heap[b]?=w.heap[b]?):ce F w' c d e m:=
 ⟨h.seen.keep a,h.items.keep a,h.gone.keep a,h.seenB,h.itemsB,h.goneB⟩
theorem ce.mono{F G:aQ}{w:World}{c d e:Value}{m:aT}(h:ce F w c d e m)(a:∀b,F b -> b<w.heap.size -> G b):ce G w c d e m:=
 ⟨h.seen.mono a,h.items.mono a,h.gone.mono a,h.seenB,h.itemsB,h.goneB⟩
theorem di.keep{F:aQ}{w w':World}{v:Value}{m:aT}(h:di F w v m)(a:∀b,F b -> b<w.heap.size -> w'.heap[b]?=w.heap[b]?):di F w' v m:=by
 obtain⟨c,d,e,rfl,h⟩:=h;exact⟨c,d,e,rfl,h.keep a⟩
theorem di.mono{F G:aQ}{w:World}{v:Value}{m:aT}(h:di F w v m)(a:∀b,F b -> b<w.heap.size -> G b):di G w v m:=by
 obtain⟨c,d,e,rfl,h⟩:=h;exact⟨c,d,e,rfl,h.mono a⟩
theorem ce.below{B:Nat}{a c d:Value}{m:aT}(h:ce (λb=>b<B) W a c d m)(f:Below B W w'):ce (λb=>b<B) w' a c d m:=h.keep λb e _=>f.block b e
theorem di.below{B:Nat}{m:aT}(h:di (λb=>b<B) W u m)(c:Below B W w'):di (λb=>b<B) w' u m:=h.keep λb a _=>c.block b a
theorem di.later{F:aQ}{m:aT}(h:di F W u m)(a:Below i W w')(c:W.heap.size <= i):di F w' u m:=h.keep λb _ d=>a.block b (by omega)
theorem qU{F:aQ}{m:aT}(h:di F W u m)(T:TypeId):∃a e c f d g i,u=.agg #[.slice a m.seen.length e,.slice c m.items.length f,.slice d m.gone.length g] /\
 Hd (i=W.alloc (.cells #[.slice a m.seen.length e,.slice c m.items.length f,.slice d m.gone.length g] T)) /\ Hd (Kpt W i) /\ Hd (i.heap.size=W.heap.size+1) /\ Hd (ce F i (.slice a m.seen.length e) (.slice c m.items.length f) (.slice d m.gone.length g) m) /\ Hd (Blk i W.heap.size [.slice a m.seen.length e,.slice c m.items.length f,.slice d m.gone.length g] T):=by
 obtain⟨k,l,n,rfl,h⟩:=h;obtain⟨a,e,rfl,-⟩:=h.seen.shape;obtain⟨c,f,rfl,-⟩:=h.items.shape;obtain⟨d,g,rfl,-⟩:=h.gone.shape;exact⟨a,e,c,f,d,g,_,rfl,ae rfl,ae (aI _ _),ae (by simp),ae (h.keep λb _ j=>(aI W _).block b j),ae (Blk.new _ _ _)⟩
theorem jF{F:aQ}{m:aT}(h:di F W u m)(T:TypeId):∃b i c j d k e f g a,u=.agg #[.slice b e i,.slice c f j,.slice d g k] /\ ce F W (.slice b e i) (.slice c f j) (.slice d g k) m /\
 e <= 2 ^ 63-1 /\ f <= 2 ^ 63-1 /\ g <= 2 ^ 63-1 /\ Hd (m.seen.length=e) /\ Hd (m.items.length=f) /\ Hd (m.gone.length=g) /\ Hd (a=W.alloc (.cells #[.slice b e i,.slice c f j,.slice d g k] T)) /\ Hd (Kpt W a) /\ Hd (a.heap.size=W.heap.size+1) /\ Hd (ce F a (.slice b e i) (.slice c f j) (.slice d g k) m) /\ Hd (Blk a W.heap.size [.slice b e i,.slice c f j,.slice d g k] T) /\
 a.cell? ⟨W.heap.size,0,none⟩=some (.slice b e i) /\ a.cell? ⟨W.heap.size,1,none⟩=some (.slice c f j) /\ a.cell? ⟨W.heap.size,2,none⟩=some (.slice d g k):=by
 obtain⟨b,i,c,j,d,k,a,rfl,o,p,q,r,l⟩:=qU h T;obtain⟨s,t,x,n,h⟩:=h;simp at n;obtain⟨rfl,rfl,rfl⟩:=n;exact⟨b,i,c,j,d,k,_,_,_,a,rfl,h,h.seen.len,h.items.len,h.gone.len,ae rfl,ae rfl,ae rfl,o,p,q,r,l,by simpa using l.x.cell 0,by simpa using l.x.cell 1,by simpa using l.x.cell 2⟩
end
section
attribute [local go_sem ↓] aU
theorem ku:(aE.info? 5).map (λi=>(i.zero,i.size,i.bytes))=some (some (.int .u8 0),1,1):=by kernel_rfl
theorem cP(c:List UInt8)(i:w.ownsRow n 5 1 v c.length (c.map B))(F:aQ)(x:Value)(l:List UInt8)(f:aO F w x l)
 (O:c.length+l.length <= 140737488355328) (C:n <= w.heap.size):
 ∃g d,(AP #[41,41] 41 #[v,x]).run aE w=.ok g d /\ d.ownsRow n 5 1 g (c++l).length ((c++l).map B) /\ w.grownBy d v.ownBlock:=by
 obtain⟨q,hi,H,I,J⟩:=info_parts ku;obtain⟨a,y,rfl,N,Q,G,f⟩:=f;cases a with
 |none=>
  have E:l = []:=by
   rcases f with h|⟨b,r,L,t,m,h,_⟩
   ·exact h
   ·cases h
  subst E;obtain rfl:=G rfl;exact⟨v,w,run_append_owned_none w n 41 41 5 q 1 underlying41 hi v _ _ i,by simpa using i,World.grownBy.refl _ _⟩
 |some s=>
  obtain⟨g,d,k,z,A,K⟩:=run_append_own (P:=aE) w n 41 41 5 q _ 1 1 underlying41 hi H I J rfl (by decide) v c.length (c.map B) i s l.length y (l.map B) (by simp)
   (λj u e=>by
    rcases f with rfl|⟨b,r,L,t,m,o,hF,D,M,k⟩
    ·simp at e
    ·simp at o;subst o;have p:j<l.length:=by have:=(List.getElem?_eq_some_iff.1 e).1;simpa using this
     rw[Addr.add_lit,cell_of_row w b (r+j) L t m D,k j p];simp[List.getElem?_eq_getElem p] at e
     simp[e])
   (jw l) (by unfold maxLen;omega) (by omega) C
  exact⟨g,d,k,by simpa using z,A⟩
theorem mC(F:aQ)(v:Value)(l:List UInt8)(d:aO F w v l)(o:l.length <= 140737488355328):
 Calls aE 98 #[v] w λe w'=>∃r,e=.returned r /\ w'.ownsRow w.heap.size 5 1 r l.length (l.map B) /\ Kpt w w':=by
 have s:=d;obtain⟨a,c,rfl,z,A,x,u⟩:=d;have g:aO F (w.alloc (.cells #[] 5)) (.slice a l.length c) l:=s.keep λb _ i=>Below.heap_alloc _ _ _ i
 obtain⟨E,w',C,q,j⟩:=cP (w.alloc (.cells #[] 5)) w.heap.size (.slice (some ⟨w.heap.size,0,none⟩) 0 0) []
  ⟨rfl,.inr ⟨w.heap.size,0,#[],rfl,aq _,by unfold World.alloc;simp,aq _,by unfold maxLen;omega,rfl,rfl⟩⟩ F (.slice a l.length c) l g (by simpa using o) (by simp)
 cases a with
 |none=>
  have n:l = []:=by
   rcases u with h|⟨b,D,L,t,y,h,_⟩
   ·exact h
   ·cases h
  subst n;obtain rfl:=x rfl;have p:=λ(W:World)=>Lib.run_eql_slice_nil (P:=aE) W 41 5 none 0 0 0 0 underlying41
  go_enter func98,ntmps98
  go_wp2
  go_ret
  exact⟨_,rfl,World.ownsRow_nil _ _ _ _,Below.refl _ _⟩
 |some f=>
  have p:=λ(W:World)=>Lib.run_eql_slice_nil (P:=aE) W 41 5 (some f) l.length c 0 0 underlying41
  go_enter func98,ntmps98
  go_wp2
  go_ret
  exact⟨_,rfl,by simpa using q,(aI _ _).grown j (by simp) (λk m=>by simp[Value.ownBlock] at m;omega)⟩
theorem bJ{k:Nat}(h:W.ownsRow i t o u k L)(c:j <= i):W.ownsRow j t o u k L:=by
 refine⟨h.1,?_⟩;rcases h.2 with f|⟨g,a,b,l,d,m⟩
 ·exact .inl f
 ·exact .inr ⟨g,a,b,l,au c d,m⟩
theorem aJ(h:W.ownsRow i t j u o L):∃a b,u=.slice a o b:=by
 rcases h.2 with⟨rfl,c⟩|⟨g,b,d,rfl,_⟩
 ·exact⟨none,0,by rw[c]⟩
 ·exact⟨_,_,rfl⟩
def Apt(w:World)(a:Nat)(v:Value)(l:List UInt8):Prop:=
 w.ownsRow a 5 1 v l.length (l.map B) \/ ∃g L t b,v=.slice (some ⟨g,0,none⟩) l.length l.length /\ a <= g /\ w.heap[g]?=some (.cells L t b) /\ l.length <= L.size /\ ∀i,i<l.length -> L[i]?=(l.map B)[i]?
theorem Apt.clip{n c:Nat}(h:W.ownsRow j 5 1 (.slice (some ⟨o,0,none⟩) n c) l.length (l.map B)):Apt W j (.slice (some ⟨o,0,none⟩) n n) l:=by
 rcases h.2 with⟨h,_⟩|⟨m,k,a,b,d,e,p,q,r,f⟩
 ·cases h
 ·simp at b;obtain⟨rfl,rfl,rfl⟩:=b;refine .inr ⟨o,a,_,_,rfl,d,e,by omega,λi hi=>?_⟩;have:(a.toList.take (l.length*1))[i]?=(l.map B)[i]?:=by rw[f]
  rw[List.getElem?_take,if_pos (by omega)] at this;simpa using this
theorem j2(h:Apt w n v b)(c:UInt8)(J:b.length+1 <= 140737488355328)(k:n <= w.heap.size):
 ∃e a,(AP #[41,41] 41 #[v,.slice (some ⟨w.heap.size,0,none⟩) 1 1]).run aE (w.alloc (.cells #[B c] 5))=.ok e a /\ a.ownsRow n 5 1 e (b++[c]).length ((b++[c]).map B) /\ Below n w a:=by
 obtain⟨G,hi,r,s,x⟩:=info_parts ku;have D:(b++[c]).length=b.length+1:=by simp
 have E:(b++[c]).map B=b.map B++[B c]:=by simp
 rw[D,E];rcases h with h|⟨g,L,t,o,rfl,I,p,H,z⟩
 ·obtain⟨e,a,m,i,f⟩:=cu (P:=aE) w n 41 5 underlying41 hi r s x rfl (by decide) v _ _ h #[B c] rfl (by simp[Value.oneCell',B]) (by unfold maxLen;omega) (by omega) k;exact⟨e,a,m,i,((aI _ _).mono k).trans (Below.grownOwn (h.alloc _) f (by simp;omega) (aq _))⟩
 ·have A:(w.alloc (.cells #[B c] 5)).heap[g]?=some (.cells L t o):=(Below.heap_alloc w _ g (lt_of_block p)).trans p
  obtain⟨e,a,m,i,f⟩:=run_append_arg_grows (P:=aE) (w.alloc (.cells #[B c] 5)) 41 41 5 G _ 1 1 underlying41 hi r s x rfl (by decide) ⟨g,0,none⟩ b.length b.length (b.map B) (by simp)
   (λj u d=>by
    have C:j<b.length:=by have:=(List.getElem?_eq_some_iff.1 d).1;simpa using this
    rw[Addr.add_lit,cell_of_row _ g (0+j) L t o A,Nat.zero_add,z j C,d])
   ⟨w.heap.size,0,none⟩ 1 1 [B c] rfl
   (λj u d=>by
    have y:j=0:=by have:=(List.getElem?_eq_some_iff.1 d).1;simp at this;omega
    subst y;simp at d;rw[Addr.add_lit];have f:=(Blk.new w #[B c] 5).cell 0
    rw[<- d];exact f)
   (by omega) (by unfold maxLen;omega) (by omega)
  exact⟨e,a,m,bJ i (by simp;omega),((aI _ _).mono k).trans ((Below.refl n _).grown f (by simp;omega) (λq F=>by cases F))⟩
theorem Apt.kept(h:Apt W i u l)(b:Kpt W w'):Apt w' i u l:=by
 rcases h with h|⟨g,L,t,c,e,d,a,f⟩
 ·exact .inl (br h b)
 ·exact .inr ⟨g,L,t,c,e,d,(b.block g (lt_of_block a)).trans a,f⟩
theorem Apt.shape(h:Apt W i u l):∃a b,u=.slice a l.length b:=by
 rcases h with h|⟨g,L,t,f,d,_⟩
 ·rcases h.2 with⟨rfl,c⟩|⟨g,b,e,rfl,_⟩
  ·exact⟨none,0,by rw[c]⟩
  ·exact⟨_,_,rfl⟩
 ·exact⟨_,_,d⟩
theorem F5(h:n<256):n ||| 128=n%128+128:=by
 have:∀a:Fin 256,a.val ||| 128=a.val%128+128:=by decide
 exact this ⟨n,h⟩
theorem CK(h:w.ownsRow k 5 1 v b.length (b.map B)):
 Calls aE 150 #[v] w λe m=>(∃r,e=.returned r /\ Apt w k r b) /\ m=w:=by
 rcases h.2 with⟨rfl,q⟩|⟨g,o,p,rfl,s,t,i,j,u,x⟩
 ·have a:Apt w k (.slice none 0 0) b:=.inl h
  go_enter func150,ntmps150
  go_wp2
  go_ret
  exact⟨⟨_,rfl,a⟩,rfl⟩
 ·have a:=Apt.clip h;obtain⟨n,c⟩:=aH b.length;have f:=c;rw[c] at i⊢;have d:Apt w k (.slice (some ⟨g,0,none⟩) n n) b:=by rw[<- f];exact a
  unfold maxLen at j
  go_enter func150,ntmps150
  go_wp2
  go_ret
  exact⟨⟨_,rfl,d⟩,rfl⟩
theorem j4(F:aQ)(v:Value)(l:List UInt8)(Q:aO F w v l)(n:Nat)(hn:n<18446744073709551616)(hl:l.length <= 1000000000000):
 Calls aE 92 #[v,.int .u64 (n:Int)] w λe g=>(∃r,e=.returned r /\ g.ownsRow w.heap.size 5 1 r (l++bY n).length ((l++bY n).map B)) /\ Kpt w g:=by
 have R:=mC w F v l Q (by omega);obtain⟨a,aa,rfl,-⟩:=Q
 go_enter func92,ntmps92
 go_wp2_with fail;refine R.mono ?_;rintro e w1 ⟨Z,rfl,X,V⟩;have S:=CK w1 w.heap.size Z l X;go_wp2_with fail;refine S.mono ?_;rintro e w2 ⟨⟨r2,rfl,J⟩,rfl⟩;obtain⟨a2,c2,rfl⟩:=J.shape;go_wp2_with fail
 go_loopg [0,1] n (λk s0 s1 wr=>∃(m:Nat)(b:List UInt8),s1=.int .u64 (m:Int) /\ m <= n /\ m <= k /\ Apt wr w.heap.size s0 (l++b) /\ b.length <= 10 /\ b++bY m=bY n /\ Kpt w wr)
 ·exact⟨n,[],rfl,aq _,aq _,by simpa using J,by simp,rfl,V⟩
 ·obtain⟨m,b,rfl,ag,ad,j,hp,P,K⟩:=hrel;have al:=cq n;obtain⟨ar,cr,rfl⟩:=j.shape;obtain⟨N,I⟩:=aH ((l++b).length);rw[I] at j⊢;have t:=I;have A:=P;have u:=K;clear P K
  by_cases ab:128 <= m
  ·have W:(128:Int) <= (m:Int):=by omega
   obtain⟨o,L⟩:=aP (m%256);obtain⟨d,M⟩:=aP (m%128+128);obtain⟨q,O⟩:=aP (m/128);have Y:IntKind.u8.wrap (m:Int)=(o:Int):=by rw[L];simp[IntKind.wrap,IntKind.bits,IntKind.signed]
   have ai:bits .or .u8 (o:Int) 128=(d:Int):=by
    have c:=u8_or_nat o 128 (by omega) (by omega);rw[F5 o (by omega)] at c;rw[show(d:Nat)=o%128+128 by omega];exact c
   have ak:(m:Int)/128=(q:Int):=by omega
   have s:(UInt8.ofNat d).toNat=d:=by
    rw[UInt8.toNat_ofNat'];omega
   obtain⟨H,g,i,h,p⟩:=j2 wr w.heap.size _ _ j (UInt8.ofNat d) (by rw[t,<- t,aA];omega) u.size;unfold B at i;rw[s] at i;obtain⟨D,E,rfl⟩:=(show Apt g w.heap.size H ((l++b)++[UInt8.ofNat d]) from .inl h).shape;obtain⟨C,f⟩:=aH (((l++b)++[UInt8.ofNat d]).length);rw[f] at i;have⟨z,y,T,U,x⟩:=ae5 (show g.ownsRow w.heap.size 5 1 (.slice D C E) ((l++b)++[UInt8.ofNat d]).length (((l++b)++[UInt8.ofNat d]).map B) by rw[<- f];exact h) p f M O;clear h f p L M O s j;go_wp2
   go_roundg q
   case measure=>have:=x.x;omega
   case rel=>
    refine⟨q,b++[UInt8.ofNat d],rfl,by have:=x.x;omega,aq _,.inl (by rw[<- aB];exact z.x),?_,?_,u.trans y.x⟩
    ·have c:=congrArg List.length A;have G:=il q;rw[kM m (by omega) (by omega),<- x.x] at c;simp at c⊢;omega
    ·have c:=A;rw[kM m (by omega) (by omega),<- x.x,<- U.x] at c;simpa[aB] using c
  ·have W:¬(128:Int) <= (m:Int):=by omega
   have Y:IntKind.u8.wrap (m:Int)=(m:Int):=ap _ (by omega)
   have s:(UInt8.ofNat m).toNat=m:=by
    rw[UInt8.toNat_ofNat'];omega
   obtain⟨H,g,i,h,p⟩:=j2 wr w.heap.size _ _ j (UInt8.ofNat m) (by rw[t,<- t,aA];omega) u.size;unfold B at i;rw[s] at i;obtain⟨D,E,rfl⟩:=(show Apt g w.heap.size H ((l++b)++[UInt8.ofNat m]) from .inl h).shape;obtain⟨C,f⟩:=aH (((l++b)++[UInt8.ofNat m]).length);rw[f] at i;have⟨z,y,T⟩:=ae3 (show g.ownsRow w.heap.size 5 1 (.slice D C E) ((l++b)++[UInt8.ofNat m]).length (((l++b)++[UInt8.ofNat m]).map B) by rw[<- f];exact h) p f;clear h f p s j;go_wp2
   go_ret
   refine⟨⟨_,rfl,?_⟩,u.trans y.x⟩;have c:=A;rw[nJ m (by omega)] at c;have G:=z.x;rw[aB,c] at G;simpa using G
/- coding.PutText; the closure that puts numbers. -/
theorem m6:Lib.strCells ⟨b.toArray⟩=b.map B:=by simp[Lib.strCells,B]
theorem lW(F:aQ)(v:Value)(l:List UInt8)(n:aO F w v l)(k:bQ)(z:k.length <= 1000000000000)(A:l.length <= 1000000000000):
 Calls aE 175 #[v,.string ⟨k.toArray⟩] w λe c=>(∃r,e=.returned r /\ c.ownsRow w.heap.size 5 1 r (l++bt k).length ((l++bt k).map B)) /\ Kpt w c:=by
 have i:=j4 w F v l n k.length (by omega) A;have D:IntKind.u64.wrap (k.length:Int)=(k.length:Int):=IntWalk.u64_in _ (by omega);obtain⟨b,g⟩:=aH k.length;obtain⟨a,J,rfl,-⟩:=n;have d:=g;have h:(ByteArray.mk k.toArray).size=b:=by rw[<- g];rfl
 rw[g] at i D z
 go_enter func175,ntmps175
 go_wp2_with fail;refine i.mono ?_;rintro e q ⟨⟨o,rfl,m⟩,f⟩;obtain⟨I,hi,E,G,H⟩:=info_parts ku;have L:=cq b;obtain⟨p,c,C,j,y,-⟩:=Lib.run_append_own_string (P:=aE) q w.heap.size 41 9 41 5 I underlying41 underlying9 hi E G H o _ _ m ⟨k.toArray⟩ (by rw[h,aA];unfold maxLen;omega) (by rw[h,aA];omega) f.size;have K:(AP #[41,9] 41 #[o,.string ⟨k.toArray⟩]).run aE q=.ok p c:=C
 have t:c.ownsRow w.heap.size 5 1 p (l++bt k).length ((l++bt k).map B):=by
  rw[m6,h] at j;have u:(l++bt k).length=(l++bY b).length+b:=by unfold bt;rw[d];simp[d];omega
  have x:(l++bt k).map B=(l++bY b).map B++k.map B:=by unfold bt;rw[d];simp
  rw[u,x];exact j
 have s:=f.trans (Below.grownOwn m y f.size (aq _));go_wp2
 go_ret
 exact⟨⟨_,rfl,t⟩,s⟩
def ff(w:World)(a:Nat)(l:List UInt8):Prop:=∃v,Blk w a [v] 41 /\ aO (λb=>b≠a) w v l
theorem ff.keep{w w':World}{a:Nat}{l:List UInt8}(h:ff w a l)(d:Kpt w w'):ff w' a l:=by
 obtain⟨v,c,e⟩:=h;exact⟨v,c.keep (d.block _ c.lt),e.keep λb _ f=>d.block b f⟩
theorem ff.stored{m l:List UInt8}(h:ff W i m)(c:Kpt W w')(g:w'.ownsRow j 5 1 u l.length (l.map B))(o:W.heap.size <= j):ff (w'.setCell ⟨i,0,none⟩ u) i l /\ aM (λb=>b=i) W (w'.setCell ⟨i,0,none⟩ u):=by
 obtain⟨v0,a,n⟩:=h;have d:=a.keep (c.block _ a.lt);have r:=a.lt;refine⟨⟨u,by simpa using d.set 0 u,?_⟩,(aM.of_below (F:=λb=>b=i) c).setCell (p:=⟨i,0,none⟩) (.inl rfl) u⟩;have e:aO (λb=>b≠i) w' u l:=aO.of_owns g _ (λk q _=>by omega);exact e.keep λb f _=>Below.heap_setCell _ ⟨i,0,none⟩ _ b f
theorem oP(d:Nat)(l:List UInt8)(hp:ff w d l)(F:aQ)(v:Value)(c:List Int)(t:Rows F w 1 v c.length (c.map eI))(hF:∀b,F b -> b≠d)(Y:∀n∈c,0 <= n /\ n <= 9223372036854775807)(Z:c.length <= 1000000)(hl:l.length <= 100000000000):
 Calls aE 192 #[v,.pointer (some ⟨d,0,none⟩)] w λe y=>e=.returned (.tuple #[]) /\ ff y d (l++c.flatMap λn=>bY n.toNat) /\ aM (λb=>b=d) w y:=by
 obtain⟨N,D⟩:=aH c.length;obtain⟨a,ai,rfl,-⟩:=t.shape;rw[D] at t Z⊢;have j:=D;have L:=t
 go_enter func192,ntmps192
 go_wp2
 go_loopw [7] (λi wr=>∃k:Nat,k <= N /\ i=.int .i64 (k:Int) /\ ff wr d (l++(c.take k).flatMap λn=>bY n.toNat) /\ aM (λb=>b=d) w wr) (λi _=>N-(intOf i).toNat)
 ·exact⟨0,by omega,rfl,by simpa using hp,aM.refl _ _⟩
 ·obtain⟨k,hk,rfl,g,ab⟩:=hrel;have o:=ab
  by_cases V:k<N
  ·have T:(k:Int)<(N:Int):=by omega
   have s:k<c.length:=by rw[j];exact V
   have X:=L.keep (w':=wr) λb O W=>o.block b W (hF b O)
   obtain⟨b,ao,rfl,-,-,R⟩:=ip (by rw[j];exact X) (by omega);have M:=R k s;obtain⟨x,u⟩:=aH c[k];rw[u] at M;obtain⟨ag,an⟩:=Y x (by rw[<- u];exact aC s);obtain⟨m,rfl⟩:=Int.eq_ofNat_of_zero_le ag;have hw:IntKind.u64.wrap (m:Int)=(m:Int):=IntWalk.u64_in _ (by omega)
   have H:(l++(c.take k).flatMap λn=>bY n.toNat).length <= 1000000000000:=by
    have p:=iW (λn:Int=>bY n.toNat) 10 (c.take k) λn _=>cq _
    have h2:(c.take k).length <= N:=by simp;omega
    simp only[aA];omega
   obtain⟨A,C⟩:=aH (l++((c.take k).flatMap λn=>bY n.toNat));rw[C] at g H;obtain⟨v0,q,r⟩:=g;have B:=q.cell 0;simp at B;have f0:=q.free 0;have z:=j4 wr _ v0 _ r m (by omega) H
   have f:ff wr d _:=⟨v0,q,r⟩
   obtain⟨a0,ak,rfl,-⟩:=r;obtain⟨N0,P⟩:=aH A.length;rw[P] at z B;go_wp2_with fail;refine z.mono ?_;rintro e w1 ⟨⟨r1,rfl,I⟩,E⟩;obtain⟨ad,aa⟩:=f.stored E I (aq _)
   obtain⟨v1,G⟩:∃v1,Blk w1 d [v1] 41:=by
    obtain⟨v1,p,-⟩:=f;exact⟨v1,p.keep (E.block _ p.lt)⟩
   have al:=G.free 0;have S:=G.cell 0;simp at S;obtain⟨N2,Q⟩:=aH ((A++bY m).length);obtain⟨a2,c2,J⟩:=aJ I;rw[Q] at J;subst J;have K:=o.trans aa (λi h=>.inl h);go_wp2
   go_roundw
   ·exact⟨k+1,by omega,by go_num,by
    rw[kQ _ _ _ s,u,<- aB,C]
    exact ad,K⟩
   ·simp[intOf];omega
  ·have T:¬(k:Int)<(N:Int):=by omega
   have U:k=c.length:=by rw[j];omega
   have f:ff wr d (l++c.flatMap λn=>bY n.toNat):=by rw[U,List.take_length] at g;exact g
   go_wp2_with fail
   go_end0
   exact⟨rfl,f,o⟩
/- The code of a map. -/
theorem kS(a:Array Value)(t:TypeId)(n:Nat)(d:a.size=n)(c:n <= maxLen):Rows (λb=>b=w.heap.size) (w.alloc (.cells a t)) 1 (.slice (some ⟨w.heap.size,0,none⟩) n n) n a.toList:=
 ⟨_,n,rfl,aq _,c,nofun,by simp[d],.inr ⟨w.heap.size,0,a,t,(0,0),rfl,rfl,by unfold World.alloc;simp,by omega,λi hi=>by simp⟩⟩
theorem ff.alloc{w:World}{a:Nat}{l:List UInt8}(h:ff w a l)(o:Obj):ff (w.alloc o) a l:=h.keep (aI _ _)
theorem ff.lt{w:World}{a:Nat}{l:List UInt8}(h:ff w a l):a<w.heap.size:=by obtain⟨v,b,-⟩:=h;exact b.lt
structure mD(m:aT):Prop where
 seen:∀n∈m.seen,0 <= n /\ n <= 9223372036854775807
 items:∀x∈m.items,x.key.length <= 400 /\ (0 <= x.dev /\ x.dev <= 9223372036854775807) /\ (0 <= x.seq /\ x.seq <= 9223372036854775807) /\ 0 <= x.val /\ x.val <= 9223372036854775807
 gone:∀x∈m.gone,x.key.length <= 400 /\ (0 <= x.dev /\ x.dev <= 9223372036854775807) /\ 0 <= x.seq /\ x.seq <= 9223372036854775807
 l1:m.seen.length <= 1000
 l2:m.items.length <= 100000
 l3:m.gone.length <= 100000
theorem mD.len{m:aT}(h:mD m):(cQ m).length <= 1000000000:=Bj m h.l1 h.l2 h.l3 (λx a=>(h.items x a).1) (λx a=>(h.gone x a).1)
theorem xq(F:aQ)(v:Value)(m:aT)(h:di F w v m)(hC:mD m):
 Calls aE 136 #[v] w λe y=>(∃r,e=.returned r /\ aO (λ_=>True) y r (cQ m)) /\ Kpt w y:=by
 replace h:=h.mono (G:=λb=>b<w.heap.size) λb _ q=>q
 have A:=hC
 replace h:=jF h 37
 obtain⟨Q,p1,a2,p2,a3,p3,n1,a,c,wx,rfl,h,l1,l2,l3,bd,aa,ab,bk,bc,ar,Hx,be,c0,c1,c2⟩:=h
 try rw[bd.x]
 try rw[aa.x]
 try rw[ab.x]
 obtain⟨z,Z⟩:=aP (wx.alloc (.cells #[.slice none 0 0] 41));have bv:Kpt w z:=by rw[Z];exact bc.x.alloc (by have:=ar.x;omega) _
 have bF:z.heap.size=w.heap.size+2:=by rw[Z];have:=ar.x;simp;omega
 have ay:Blk z w.heap.size [.slice Q n1 p1,.slice a2 a p2,.slice a3 c p3] 37 /\ ce (λb=>b<w.heap.size) z (.slice Q n1 p1) (.slice a2 a p2) (.slice a3 c p3) m:=by
  rw[Z];exact⟨be.x.alloc _,Hx.keep λb _ q=>Below.heap_alloc _ _ _ q⟩
 have N:∀y,aM (λb=>b=w.heap.size+1) z y -> Blk y w.heap.size [.slice Q n1 p1,.slice a2 a p2,.slice a3 c p3] 37 /\ ce (λb=>b<w.heap.size) y (.slice Q n1 p1) (.slice a2 a p2) (.slice a3 c p3) m:=λy ho=>
  ⟨ay.1.only ho (by omega),ay.2.keep λb S q=>ho.block b q (by omega)⟩
 have bC:ff z (w.heap.size+1) []:=by
  refine⟨.slice none 0 0,?_,⟨none,0,rfl,aq _,by unfold maxLen;omega,λ_=>rfl,.inl rfl⟩⟩;rw[Z,<- ar.x];exact Blk.new _ _ _
 have E:=oP z (w.heap.size+1) [] bC (λb=>b<w.heap.size) (.slice Q n1 p1) m.seen ay.2.seen (λb S=>by omega) A.seen (by have:=A.l1;omega) (by simp);have bb:=bv;have bl:=bF
 go_enter func136,ntmps136
 go_wp2_with fail;rw[<- bk.x,<- Z];refine E.mono ?_;rintro e O ⟨rfl,a6,aY⟩;have bm:=(N O aY).1.cell 1;simp at bm
 have P:=oP (O.alloc (.cells #[.int .i64 (a:Int)] 3)) (w.heap.size+1) _ (a6.alloc _) (λb=>b=O.heap.size) (.slice (some ⟨O.heap.size,0,none⟩) 1 1) [(a:Int)] (kS O #[.int .i64 (a:Int)] 3 1 rfl (by unfold maxLen;omega)) (λb S=>by have:=a6.lt;omega) (by
  intro n g;simp at g;subst g
  omega) (by simp) (by
  have l:=wT m;unfold m5 at l;have h2:=A.len;simp at l⊢
  omega)
 have bf:=aY;go_wp2_with fail;refine P.mono ?_;rintro e w4 ⟨rfl,bD,bA⟩
 have bi:ff w4 (w.heap.size+1) (fO m 0):=by
  rw[nN];unfold m5;rw[aa.x];simpa using bD
 have aZ:=(bf.trans (aM.of_below (F:=λb=>b=w.heap.size+1) (aI O _)) (λi h=>.inl h)).trans bA (λi h=>.inl h);have bg:=aZ;have bn:=(N w4 aZ).1.cell 1;simp at bn;go_wp2
 go_loopw [23] (λi wr=>∃k:Nat,k <= a /\ i=.int .i64 (k:Int) /\ ff wr (w.heap.size+1) (fO m k) /\ aM (λb=>b=w.heap.size+1) z wr) (λi _=>a-(intOf i).toNat)
 ·exact⟨0,by omega,rfl,bi,bg⟩
 ·obtain⟨k,hk,rfl,s,aV⟩:=hrel;have C:=aV
  by_cases aR:k<a
  ·have aL:(k:Int)<(a:Int):=by omega
   have I:k<m.items.length:=by rw[aa.x];exact aR
   obtain⟨-,hm⟩:=N wr C;obtain⟨b,bG,rfl,br,-,hc⟩:=fw hm.items (by omega);obtain⟨e0,e1,e2,e3⟩:=hc k I;obtain⟨x,u⟩:=aH m.items[k];rw[u] at e0 e1 e2 e3;have L:=A.items x (by rw[<- u];exact aC I);have aS:(fO m k).length <= 1000000000:=au (jB m k) A.len;have K:=rB m k I;rw[u] at K
   have U:(fO m k++bt x.key).length <= 2000000000:=by
    have:=gd x.key L.1;rw[aA];omega
   obtain⟨f,ax⟩:=aH (fO m k);rw[ax] at s aS K U;obtain⟨N0,az⟩:=aH f.length;obtain⟨v0,o,H⟩:=s;have aK:=H.keep (w':=wr.alloc (.cells #[.string ⟨x.key.toArray⟩,.int .i64 x.dev,.int .i64 x.seq,.int .i64 x.val] 108)) λb _ q=>Below.heap_alloc _ _ _ q
   have E:=lW _ _ v0 f aK x.key (by have:=L.1;omega) (by omega);have d:ff (wr.alloc (.cells #[.string ⟨x.key.toArray⟩,.int .i64 x.dev,.int .i64 x.seq,.int .i64 x.val] 108)) (w.heap.size+1) f:=(show ff wr _ f from⟨v0,o,H⟩).alloc _;obtain⟨a0,bq,rfl,-⟩:=H;have q0:=o.cell 0;simp at q0;have f0:=o.free 0;have bx:w.heap.size+1<wr.heap.size:=o.lt;have aG:=Blk.new wr #[.string ⟨x.key.toArray⟩,.int .i64 x.dev,.int .i64 x.seq,.int .i64 x.val] 108;have j:=aG;rw[az] at q0 E;have Hx:=u;have al:=K;have ao:=L;have ag:=U;go_wp2_with fail;refine E.mono ?_;rintro e M ⟨⟨r5,rfl,V⟩,p⟩;obtain⟨J,W⟩:=d.stored p V (aq _)
   obtain⟨v1,T⟩:∃v1,Blk M (w.heap.size+1) [v1] 41:=by
    obtain⟨v1,l,-⟩:=d;exact⟨v1,l.keep (p.block _ l.lt)⟩
   obtain⟨N5,aF⟩:=aH ((f++bt x.key).length);obtain⟨a5,c5,Y⟩:=aJ V;rw[aF] at Y;subst Y;have q5:=T.cell 0;simp at q5;have f5:=T.free 0;obtain⟨w6,t⟩:=aP (M.setCell ⟨w.heap.size+1,0,none⟩ (.slice a5 N5 c5));rw[<- t] at J W
   have bu:Blk w6 wr.heap.size [.string ⟨x.key.toArray⟩,.int .i64 x.dev,.int .i64 x.seq,.int .i64 x.val] 108:=by
    rw[t];exact(j.keep (p.block _ j.lt)).set_other _ (by simp;omega)
   have D:=j.keep (p.block _ j.lt);have x0:=D.cell 0;have x1:=D.cell 1;have x2:=D.cell 2;have x3:=D.cell 3;simp at x0 x1 x2 x3;have bz:wr.heap.size≠w.heap.size+1:=by omega
   have av:aM (λb=>b=w.heap.size+1) wr w6:=(aM.of_below (aI wr _)).trans W (λi hi=>.inl hi);have an:=t;have aW:w6.heap.size=M.heap.size:=by rw[t];simp[World.setCell]
   have R:=(oP _ _ _ (J.alloc (.cells #[.int .i64 x.dev,.int .i64 x.seq,.int .i64 x.val] 3)) (λb=>b=w6.heap.size) (.slice (some ⟨w6.heap.size,0,none⟩) 3 3) [x.dev,x.seq,x.val] (kS w6 #[.int .i64 x.dev,.int .i64 x.seq,.int .i64 x.val] 3 3 rfl (by unfold maxLen;omega)) (λb S=>by have:=J.lt;omega) (by
    have h:=ao;intro n g;simp at g
    rcases g with rfl|rfl|rfl<;>simp[h]) (by simp) (by have:=ag;omega))
   rw[aW] at R;have P:=R;have ad:=C.trans av (λi h=>.inl h);go_wp2_with fail;rw[<- an];refine P.mono ?_;rintro e w7 ⟨rfl,X,aU⟩;rw[<- al] at X;have ak:=X;have ai:=(ad.trans (aM.of_below (F:=λb=>b=w.heap.size+1) (aI w6 _)) (λi h=>.inl h)).trans aU (λi h=>.inl h);go_wp2
   go_roundw
   ·exact⟨k+1,by omega,by go_num,ak,ai⟩
   ·simp[intOf];omega
  ·have aL:¬(k:Int)<(a:Int):=by omega
   have aN:k=m.items.length:=by rw[aa.x];omega
   have d:ff wr (w.heap.size+1) (fO m m.items.length):=by rw[aN] at s;exact s
   have bo:=(N wr C).1.cell 2;simp at bo
   have ba:=oP (wr.alloc (.cells #[.int .i64 (c:Int)] 3)) (w.heap.size+1) _ (d.alloc _) (λb=>b=wr.heap.size) (.slice (some ⟨wr.heap.size,0,none⟩) 1 1) [(c:Int)] (kS wr #[.int .i64 (c:Int)] 3 1 rfl (by unfold maxLen;omega)) (λb S=>by have:=d.lt;omega) (by
    intro n g;simp at g;subst g
    omega) (by simp) (by
    have l:=jB m m.items.length;have h2:=A.len
    omega)
   go_wp2_with fail;refine ba.mono ?_;rintro e w8 ⟨rfl,bE,bB⟩
   have bj:ff w8 (w.heap.size+1) (gV m 0):=by
    rw[rA,ab.x];simpa using bE
   have a4:=(C.trans (aM.of_below (F:=λb=>b=w.heap.size+1) (aI wr _)) (λi h=>.inl h)).trans bB (λi h=>.inl h);have bh:=a4;have bp:=(N w8 a4).1.cell 2;simp at bp;go_wp2
   go_loopw [50] (λi wr=>∃k:Nat,k <= c /\ i=.int .i64 (k:Int) /\ ff wr (w.heap.size+1) (gV m k) /\ aM (λb=>b=w.heap.size+1) z wr) (λi _=>c-(intOf i).toNat)
   ·exact⟨0,by omega,rfl,bj,bh⟩
   ·obtain⟨k,hk,rfl,s,aV⟩:=hrel;have C:=aV
    by_cases aR:k<c
    ·have aL:(k:Int)<(c:Int):=by omega
     have I:k<m.gone.length:=by rw[ab.x];exact aR
     obtain⟨-,hm⟩:=N wr C;obtain⟨b,bG,rfl,br,-,hc⟩:=gh hm.gone (by omega);obtain⟨e0,e1,e2⟩:=hc k I;obtain⟨x,u⟩:=aH m.gone[k];rw[u] at e0 e1 e2;have L:=A.gone x (by rw[<- u];exact aC I);have aS:(gV m k).length <= 1000000000:=au (oO m k) A.len;have K:=rC m k I;rw[u] at K
     have U:(gV m k++bt x.key).length <= 2000000000:=by
      have:=gd x.key L.1;rw[aA];omega
     obtain⟨f,ax⟩:=aH (gV m k);rw[ax] at s aS K U;obtain⟨N0,az⟩:=aH f.length;obtain⟨v0,o,H⟩:=s;have aK:=H.keep (w':=wr.alloc (.cells #[.string ⟨x.key.toArray⟩,.int .i64 x.dev,.int .i64 x.seq] 111)) λb _ q=>Below.heap_alloc _ _ _ q
     have E:=lW _ _ v0 f aK x.key (by have:=L.1;omega) (by omega);have d:ff (wr.alloc (.cells #[.string ⟨x.key.toArray⟩,.int .i64 x.dev,.int .i64 x.seq] 111)) (w.heap.size+1) f:=(show ff wr _ f from⟨v0,o,H⟩).alloc _;obtain⟨a0,bq,rfl,-⟩:=H;have q0:=o.cell 0;simp at q0;have f0:=o.free 0;have bx:w.heap.size+1<wr.heap.size:=o.lt;have aG:=Blk.new wr #[.string ⟨x.key.toArray⟩,.int .i64 x.dev,.int .i64 x.seq] 111;have j:=aG;rw[az] at q0 E;have Hx:=u;have al:=K;have ao:=L;have ag:=U;go_wp2_with fail;refine E.mono ?_;rintro e M ⟨⟨r5,rfl,V⟩,p⟩;obtain⟨J,W⟩:=d.stored p V (aq _)
     obtain⟨v1,T⟩:∃v1,Blk M (w.heap.size+1) [v1] 41:=by
      obtain⟨v1,l,-⟩:=d;exact⟨v1,l.keep (p.block _ l.lt)⟩
     obtain⟨N5,aF⟩:=aH ((f++bt x.key).length);obtain⟨a5,c5,Y⟩:=aJ V;rw[aF] at Y;subst Y;have q5:=T.cell 0;simp at q5;have f5:=T.free 0;obtain⟨w6,t⟩:=aP (M.setCell ⟨w.heap.size+1,0,none⟩ (.slice a5 N5 c5));rw[<- t] at J W
     have bu:Blk w6 wr.heap.size [.string ⟨x.key.toArray⟩,.int .i64 x.dev,.int .i64 x.seq] 111:=by
      rw[t];exact(j.keep (p.block _ j.lt)).set_other _ (by simp;omega)
     have D:=j.keep (p.block _ j.lt);have x0:=D.cell 0;have x1:=D.cell 1;have x2:=D.cell 2;simp at x0 x1 x2;have bz:wr.heap.size≠w.heap.size+1:=by omega
     have av:aM (λb=>b=w.heap.size+1) wr w6:=(aM.of_below (aI wr _)).trans W (λi hi=>.inl hi);have an:=t;have aW:w6.heap.size=M.heap.size:=by rw[t];simp[World.setCell]
     have R:=(oP _ _ _ (J.alloc (.cells #[.int .i64 x.dev,.int .i64 x.seq] 3)) (λb=>b=w6.heap.size) (.slice (some ⟨w6.heap.size,0,none⟩) 2 2) [x.dev,x.seq] (kS w6 #[.int .i64 x.dev,.int .i64 x.seq] 3 2 rfl (by unfold maxLen;omega)) (λb S=>by have:=J.lt;omega) (by
      have h:=ao;intro n g;simp at g
      rcases g with rfl|rfl<;>simp[h]) (by simp) (by have:=ag;omega))
     rw[aW] at R;have P:=R;have ad:=C.trans av (λi h=>.inl h);go_wp2_with fail;rw[<- an];refine P.mono ?_;rintro e w7 ⟨rfl,X,aU⟩;rw[<- al] at X;have ak:=X;have ai:=(ad.trans (aM.of_below (F:=λb=>b=w.heap.size+1) (aI w6 _)) (λi h=>.inl h)).trans aU (λi h=>.inl h);go_wp2
     go_roundw
     ·exact⟨k+1,by omega,by go_num,ak,ai⟩
     ·simp[intOf];omega
    ·have aL:¬(k:Int)<(c:Int):=by omega
     have aN:k=m.gone.length:=by rw[ab.x];omega
     have d:ff wr (w.heap.size+1) (gV m m.gone.length):=by rw[aN] at s;exact s
     rw[tY] at d;obtain⟨v9,bw,aX⟩:=d;have q9:=bw.cell 0;simp at q9;obtain⟨N9,bs⟩:=aH ((cQ m).length);obtain⟨a9,c9,a7,bH⟩:=id aX;rw[bs] at a7;subst a7;have a8:=bb.trans (C.below (B:=w.heap.size) (λi hi=>by omega) (by have:=bl;omega));go_wp2
     go_ret
     exact⟨⟨_,rfl,aX.mono λ_ _=>trivial⟩,a8⟩
end
end Go.Proofs.YtobjdpngnfbicaaGreatDoor
