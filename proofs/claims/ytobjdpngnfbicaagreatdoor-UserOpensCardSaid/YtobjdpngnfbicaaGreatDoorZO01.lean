/-
  KMath DecayMath RMath
-/
import Derived.Lib.ValidU
import Derived.Lib.TrimUEq
import Derived.Lib.Hide
open Nat renaming le_refl->aq
open List renaming length_append->aA,append_assoc->aB,getElem_mem->aC,length_cons->aD
set_option maxRecDepth 20000
set_option linter.all false
namespace Go.Proofs.YtobjdpngnfbicaaGreatDoor
open Go.RowKit
variable(n k:Nat)(b:List UInt8){l:List UInt8}
/-! UTF-8, as the reference reads it: the character at the head of l, and how many bytes it has; 0, 0: there is none -/
def dA(b:Nat):Nat×Nat:=if b<128 then(1,b) else if 192 <= b /\ b<224 then(2,b-192) else if 224 <= b /\ b<240 then(3,b-224) else if 240 <= b /\ b<248 then(4,b-240) else(0,0)
def rCh(c:Nat):Bool:=decide (c <= 1114111 /\ (c<55296 \/ 57343<c))
def dR(b:Nat):Bool:=decide (128 <= b /\ b <= 191)
def jl(n a b d e:Nat):Nat×Nat:=
 if a<128 then(a,1)
 else if 192 <= a /\ a<224 then(if 2 <= n /\ dR b then(let c:=64*(a-192)+(b-128);if 128 <= c /\ rCh c then(c,2) else(0,0)) else(0,0))
 else if 224 <= a /\ a<240 then(if 3 <= n /\ dR b /\ dR d then(let c:=64*(64*(a-224)+(b-128))+(d-128);if 2048 <= c /\ rCh c then(c,3) else(0,0)) else(0,0))
 else if 240 <= a /\ a<248 then(if 4 <= n /\ dR b /\ dR d /\ dR e then(let c:=64*(64*(64*(a-240)+(b-128))+(d-128))+(e-128);if 65536 <= c /\ rCh c then(c,4) else(0,0)) else(0,0))
 else(0,0)
theorem nJ(n a d e f:Nat)(C:a<256)(m:d<256)(t:e<256)(w:f<256):
 ((jl n a d e f).2=0↔Lib.decodeN n a d e f=(65533,1)) /\ ((jl n a d e f).2≠0 -> jl n a d e f=Lib.decodeN n a d e f):=by
 have i:∀b:Nat,b<256 -> (dR b=true↔b/64=2):=fun b D=>by unfold dR;simp only[decide_eq_true_eq];omega
 have z:(a/32=6)↔(192 <= a /\ a<224):=by omega
 have x:(a/16=14)↔(224 <= a /\ a<240):=by omega
 have y:(a/8=30)↔(240 <= a /\ a<248):=by omega
 unfold jl Lib.decodeN
 by_cases v:a<128
 ·simp[v];omega
 ·simp only[if_neg v]
  by_cases o:192 <= a /\ a<224
  ·by_cases g:1<n /\ d/64=2
   ·have j:2 <= n /\ dR d=true:=⟨g.1,(i d m).2 g.2⟩
    have q:a%32*64+d%64=64*(a-192)+(d-128):=by omega
    simp only[if_pos o,if_pos j,if_pos (And.intro (z.2 o) g),q,rCh,decide_eq_true_eq]
    by_cases h:128 <= 64*(a-192)+(d-128)
    ·have k:64*(a-192)+(d-128) <= 1114111 /\ (64*(a-192)+(d-128)<55296 \/ 57343<64*(a-192)+(d-128)):=by omega
     simp[h,k]
    ·simp[h]
   ·have j:¬(2 <= n /\ dR d=true):=fun h=>g ⟨h.1,(i d m).1 h.2⟩
    have u:¬(a/32=6 /\ (1<n /\ d/64=2)):=fun h=>g h.2
    have r:¬(a/16=14 /\ (1<n /\ d/64=2) /\ (2<n /\ e/64=2)):=fun h=>by omega
    have l:¬(a/8=30 /\ (1<n /\ d/64=2) /\ (2<n /\ e/64=2) /\ (3<n /\ f/64=2)):=fun h=>by omega
    simp[if_pos o,if_neg j,if_neg u,if_neg r,if_neg l]
  ·have u:¬(a/32=6 /\ (1<n /\ d/64=2)):=fun h=>o (z.1 h.1)
   simp only[if_neg o,if_neg u]
   by_cases p:224 <= a /\ a<240
   ·by_cases g:(1<n /\ d/64=2) /\ (2<n /\ e/64=2)
    ·have j:3 <= n /\ dR d=true /\ dR e=true:=⟨by omega,(i d m).2 g.1.2,(i e t).2 g.2.2⟩
     have q:a%16*4096+d%64*64+e%64=64*(64*(a-224)+(d-128))+(e-128):=by omega
     simp only[if_pos p,if_pos j,if_pos (And.intro (x.2 p) g),q,rCh,decide_eq_true_eq];generalize A:64*(64*(a-224)+(d-128))+(e-128)=c;have E:c<65536:=by omega
     by_cases h:2048 <= c /\ (c<55296 \/ 57343<c)
     ·have k:2048 <= c /\ (c <= 1114111 /\ (c<55296 \/ 57343<c)):=by omega
      have B:c ≥ 2048 /\ (c<55296 \/ 57344 <= c /\ c <= 1114111):=by omega
      simp only[if_pos k];rw[if_pos (by omega)];simp
     ·have k:¬(2048 <= c /\ (c <= 1114111 /\ (c<55296 \/ 57343<c))):=by omega
      simp only[if_neg k];rw[if_neg (by omega)];simp
    ·have j:¬(3 <= n /\ dR d=true /\ dR e=true):=fun h=>g ⟨⟨by omega,(i d m).1 h.2.1⟩,⟨by omega,(i e t).1 h.2.2⟩⟩
     have r:¬(a/16=14 /\ (1<n /\ d/64=2) /\ (2<n /\ e/64=2)):=fun h=>g h.2
     have l:¬(a/8=30 /\ (1<n /\ d/64=2) /\ (2<n /\ e/64=2) /\ (3<n /\ f/64=2)):=fun h=>by omega
     simp[if_pos p,if_neg j,if_neg r,if_neg l]
   ·have r:¬(a/16=14 /\ (1<n /\ d/64=2) /\ (2<n /\ e/64=2)):=fun h=>p (x.1 h.1)
    simp only[if_neg p,if_neg r]
    by_cases s:240 <= a /\ a<248
    ·by_cases g:(1<n /\ d/64=2) /\ (2<n /\ e/64=2) /\ (3<n /\ f/64=2)
     ·have j:4 <= n /\ dR d=true /\ dR e=true /\ dR f=true:=⟨by omega,(i d m).2 g.1.2,(i e t).2 g.2.1.2,(i f w).2 g.2.2.2⟩
      have q:a%8*262144+d%64*4096+e%64*64+f%64=64*(64*(64*(a-240)+(d-128))+(e-128))+(f-128):=by omega
      simp only[if_pos s,if_pos j,if_pos (And.intro (y.2 s) g),q,rCh,decide_eq_true_eq];generalize A:64*(64*(64*(a-240)+(d-128))+(e-128))+(f-128)=c
      by_cases h:65536 <= c /\ c <= 1114111
      ·have k:65536 <= c /\ (c <= 1114111 /\ (c<55296 \/ 57343<c)):=by omega
       simp only[if_pos k];rw[if_pos (by omega)];simp
      ·have k:¬(65536 <= c /\ (c <= 1114111 /\ (c<55296 \/ 57343<c))):=by omega
       simp only[if_neg k];rw[if_neg (by omega)];simp
     ·have j:¬(4 <= n /\ dR d=true /\ dR e=true /\ dR f=true):=fun h=>g ⟨⟨by omega,(i d m).1 h.2.1⟩,⟨by omega,(i e t).1 h.2.2.1⟩,⟨by omega,(i f w).1 h.2.2.2⟩⟩
      have l:¬(a/8=30 /\ (1<n /\ d/64=2) /\ (2<n /\ e/64=2) /\ (3<n /\ f/64=2)):=fun h=>g h.2
      simp[if_neg j,if_neg l]
    ·have l:¬(a/8=30 /\ (1<n /\ d/64=2) /\ (2<n /\ e/64=2) /\ (3<n /\ f/64=2)):=fun h=>s (y.1 h.1)
     simp[if_neg s,if_neg l]
def jm(l:List UInt8):Nat×Nat:=jl l.length (l.getD 0 0).toNat (l.getD 1 0).toNat (l.getD 2 0).toNat (l.getD 3 0).toNat
theorem qr:(jm b).2=0↔Lib.decodeL b=(65533,1):=by
 rw[Lib.decodeL_N];exact(nJ _ _ _ _ _ (UInt8.toNat_lt _) (UInt8.toNat_lt _) (UInt8.toNat_lt _) (UInt8.toNat_lt _)).1
theorem qt(h:(jm b).2≠0):jm b=Lib.decodeL b:=by
 rw[Lib.decodeL_N];exact(nJ _ _ _ _ _ (UInt8.toNat_lt _) (UInt8.toNat_lt _) (UInt8.toNat_lt _) (UInt8.toNat_lt _)).2 h
def mR:Nat -> List UInt8 -> Bool
 |0,_=>true
 |n+1,l=>if l = [] then true else if(jm l).2=0 then false else mR n (l.drop (jm l).2)
theorem sO:∀(n:Nat)(l:List UInt8),mR n l=Lib.validGoD n l
 |0,_=>rfl
 |n+1,l=>by
  unfold mR Lib.validGoD
  by_cases a:l = []
  ·simp[a]
  ·rw[if_neg a,if_neg a]
   by_cases h:(jm l).2=0
   ·have:=(qr l).1 h;rw[if_pos h,if_pos (by rw[this];exact⟨rfl,rfl⟩)]
   ·have b:¬((Lib.decodeL l).1=65533 /\ (Lib.decodeL l).2=1):=fun e=>h ((qr l).2 (Prod.ext e.1 e.2))
    rw[if_neg h,if_neg b,qt l h,sO n]
/-! keys -/
def fR(s:List UInt8):Bool:=decide (s≠[])&&Lib.validD s&&decide ((0:UInt8)∉s)
def fk(c:Int)(a b:List UInt8):Bool:=decide (c=1 \/ c=2)&&fR a&&fR b&&decide (a.length+b.length <= 398)
def mS(r:List UInt8):List UInt8:=r.takeWhile (· != 0)
def mT(r:List UInt8):List UInt8:=(r.dropWhile (· != 0)).drop 1
def fe:List UInt8 -> Bool
 |[]=>false
 |c::r=>fk ((c.toNat:Int)-48) (mS r) (mT r)
theorem A6:∀(r:List UInt8)(i:Nat),i<r.length -> (∀j,j<i -> r[j]?≠some 0) -> r[i]?=some 0 -> mS r=r.take i /\ mT r=r.drop (i+1)
 |[],i,h,_,_=>by simp at h
 |c::r,0,_,_,a=>by
  have:c=0:=by simpa using a
  subst this;unfold mS mT;simp
 |c::r,i+1,hi,b,a=>by
  have f:c≠0:=by
   have:=b 0 (by omega);simpa using this
  obtain⟨d,e⟩:=A6 r i (by simpa using hi) (fun j g=>by have:=b (j+1) (by omega);simpa using this) (by simpa using a);unfold mS mT at *;rw[List.takeWhile_cons,List.dropWhile_cons];simp[f,d,e]
theorem uZ(h:(0:UInt8)∉b):mS b=b /\ mT b = []:=by
 induction b with
 |nil=>exact⟨rfl,rfl⟩
 |cons c b i=>
  have f:c≠0:=fun e=>h (by simp[e])
  obtain⟨a,d⟩:=i (fun g=>h (List.mem_cons_of_mem _ g));unfold mS mT at *;rw[List.takeWhile_cons,List.dropWhile_cons];simp[f,a,d]
theorem qu:fR []=false:=by simp[fR]
theorem sP(h:(0:UInt8)∈b):fR b=false:=by simp[fR,h]
theorem oS(c:UInt8)(r:List UInt8):fe (c::r)=true↔∃i,i<r.length /\ r[i]?=some 0 /\ fk ((c.toNat:Int)-48) (r.take i) (r.drop (i+1))=true:=by
 show fk _ (mS r) (mT r)=true↔_
 by_cases h:(0:UInt8)∈r
 ·obtain⟨i,hi,e,l⟩:∃i,∃_:i<r.length,r[i]?=some 0 /\ ∀j,j<i -> r[j]?≠some 0:=by
   refine⟨r.findIdx (· == 0),List.findIdx_lt_length_of_exists ⟨0,h,by simp⟩,?_,fun j f k=>?_⟩
   ·have:=List.findIdx_getElem (xs:=r) (p:=(· == 0)) (w:=List.findIdx_lt_length_of_exists ⟨0,h,by simp⟩);rw[List.getElem?_eq_getElem (List.findIdx_lt_length_of_exists ⟨0,h,by simp⟩)];simpa using this
   ·have t:=(List.getElem?_eq_some_iff.1 k).1;have:=List.not_of_lt_findIdx (xs:=r) (p:=(· == 0)) f;have m:=(List.getElem?_eq_some_iff.1 k).2;simp[m] at this
  obtain⟨b,d⟩:=A6 r i hi l e;rw[b,d];refine⟨fun a=>⟨i,hi,e,a⟩,?_⟩;rintro⟨j,f,g,a⟩;rcases Nat.lt_trichotomy j i with q|n|o
  ·exact absurd g (l j q)
  ·exact n▸a
  ·exfalso
   have s:(0:UInt8)∈r.take j:=by
    have:(r.take j)[i]?=some 0:=by rw[List.getElem?_take,if_pos o];exact e
    exact List.mem_of_getElem? this
   simp[fk,sP _ s] at a
 ·obtain⟨b,d⟩:=uZ r h;rw[b,d];constructor
  ·intro a;simp[fk,qu] at a
  ·rintro⟨j,f,g,a⟩;exact absurd (List.mem_of_getElem? g) h
end Go.Proofs.YtobjdpngnfbicaaGreatDoor
namespace Go.Proofs.YtobjdpngnfbicaaGreatDoor.DM
variable(n k:Nat)(b:List UInt8){l:List UInt8}
def stp(v:Int):Int:=v-(v+255)/256
def aft:Nat -> Int -> Int
 |0,v=>v
 |n+1,v=>if 0<v then aft n (stp v) else v
def bnd(v:Int):Int:=min (max v 0) 1099511627776
theorem bnd_nonneg(v:Int):0 <= bnd v:=by unfold bnd;omega
theorem bnd_le(v:Int):bnd v <= 1099511627776:=by unfold bnd;omega
theorem bnd_id(v:Int)(h:0 <= v)(a:v <= 1099511627776):bnd v=v:=by unfold bnd;omega
theorem stp_nonneg(v:Int)(h:0 <= v):0 <= stp v:=by unfold stp;omega
theorem stp_lt(v:Int)(h:0<v):stp v<v:=by unfold stp;omega
theorem stp_le(v:Int)(h:0 <= v):stp v <= v:=by unfold stp;omega
theorem stp_mul(v:Int):v*255/256=stp v:=by unfold stp;omega
theorem aft_zero_of(v:Int)(h:¬0<v):aft n v=v:=by
 cases n with
 |zero=>rfl
 |succ n=>simp[aft,h]
theorem aft_succ_pos(v:Int)(h:0<v):aft (n+1) v=aft n (stp v):=by simp[aft,h]
theorem aft_nonneg:∀v:Int,0 <= v -> 0 <= aft n v:=by
 induction n with
 |zero=>intro v h;exact h
 |succ n a=>
  intro v h;unfold aft;split
  ·exact a _ (stp_nonneg v h)
  ·exact h
theorem aft_le:∀v:Int,0 <= v -> aft n v <= v:=by
 induction n with
 |zero=>intro v _;exact Int.le_refl _
 |succ n a=>
  intro v h;unfold aft;split
  ·have:=a _ (stp_nonneg v h);have:=stp_le v h;omega
  ·exact Int.le_refl _
theorem aft_succ':∀v:Int,aft (n+1) v=if 0<aft n v then stp (aft n v) else aft n v:=by
 induction n with
 |zero=>intro v;rfl
 |succ n a=>
  intro v
  by_cases h:0<v
  ·rw[aft_succ_pos (n+1) v h,a,aft_succ_pos n v h]
  ·rw[aft_zero_of _ v h,aft_zero_of _ v h,if_neg h]
theorem aft_add:∀v:Int,aft k (aft n v)=aft (n+k) v:=by
 induction n with
 |zero=>intro v;simp[aft]
 |succ n a=>
  intro v
  by_cases h:0<v
  ·rw[aft_succ_pos n v h,a,show n+1+k=(n+k)+1 from by omega,aft_succ_pos _ v h]
  ·rw[aft_zero_of _ v h,aft_zero_of _ v h,aft_zero_of _ v h]
theorem aft_more(m n:Nat)(v:Int)(h:0 <= v)(a:m <= n):aft n v <= aft m v:=by
 obtain⟨k,rfl⟩:∃k,n=m+k:=⟨n-m,by omega⟩
 rw[<- aft_add];exact aft_le _ _ (aft_nonneg _ _ h)
end Go.Proofs.YtobjdpngnfbicaaGreatDoor.DM
namespace Go.Proofs.YtobjdpngnfbicaaGreatDoor
open Go.RowKit
variable(n k:Nat)(b:List UInt8){l:List UInt8}
section
abbrev bR:=List UInt8
abbrev RPl:=bR×Int
/-! the order of keys -/
theorem lc(a:bR):¬a<a:=List.lt_irrefl a
theorem zN{a b c:bR}(h:a<b)(k:b<c):a<c:=List.lt_trans h k
theorem tR{a b:bR}(h:¬a<b)(k:¬b<a):a=b:=List.le_antisymm (List.not_lt.1 k) (List.not_lt.1 h)
/-! the order of places -/
def plt(a b:RPl):Prop:=a.1<b.1 \/ (a.1=b.1 /\ a.2<b.2)
instance(a b:RPl):Decidable (plt a b):=by unfold plt;exact inferInstance
theorem gM(a:RPl):¬plt a a:=by
 rintro(h|h)
 ·exact lc _ h
 ·omega
theorem iA{a b c:RPl}(h:plt a b)(k:plt b c):plt a c:=by
 rcases h with h|⟨h,e⟩
 ·rcases k with k|⟨k,d⟩
  ·exact .inl (zN h k)
  ·exact .inl (k▸h)
 ·rcases k with k|⟨k,d⟩
  ·exact .inl (h▸k)
  ·exact .inr ⟨h.trans k,by omega⟩
theorem sQ{a b:RPl}(h:plt a b):¬plt b a:=fun k=>gM a (iA h k)
theorem iV{a b:RPl}(h:plt a b):a≠b:=fun e=>gM b (e▸h)
theorem me{a b:RPl}(h:¬plt a b)(k:¬plt b a):a=b:=by
 have d:¬a.1<b.1:=fun x=>h (.inl x)
 have e:¬b.1<a.1:=fun x=>k (.inl x)
 have c:=tR d e;have f:¬a.2<b.2:=fun x=>h (.inr ⟨c,x⟩)
 have g:¬b.2<a.2:=fun x=>k (.inr ⟨c.symm,x⟩)
 exact Prod.ext c (by omega)
def g9(a b:RPl):Int:=if plt a b then -1 else if plt b a then 1 else 0
/-! lists whose places ascend -/
section
variable {α:Type} (pl:α -> RPl)
def Asc(l:List α):Prop:=l.Pairwise fun a b=>plt (pl a) (pl b)
def DX(l:List α):Prop:=∀i (h:i+1<l.length),plt (pl l[i]) (pl l[i+1])
theorem jQ:∀l:List α,DX pl l -> Asc pl l
 |[],_=>.nil
 |[a],_=>List.pairwise_singleton _ _
 |a::b::l,h=>by
  have f:Asc pl (b::l):=jQ (b::l) fun i hi=>by
   have:=h (i+1) (by simpa using hi);simpa using this
  have e:plt (pl a) (pl b):=h 0 (by simp);refine List.Pairwise.cons (fun c d=>?_) f;rcases List.mem_cons.1 d with rfl|d
  ·exact e
  ·exact iA e ((List.pairwise_cons.1 f).1 c d)
theorem iK{l:List α}(h:Asc pl l):DX pl l:=fun i hi=>List.pairwise_iff_getElem.1 h i (i+1) (by omega) hi (by omega)
theorem nK(l:List α):Asc pl l↔DX pl l:=⟨iK pl,jQ pl l⟩
instance(l:List α):Decidable (Asc pl l):=by unfold Asc;exact inferInstance
def dh(l:List α)(p:RPl):Option α:=l.find? fun x=>decide (pl x=p)
variable {pl}
theorem nM(p:RPl):dh pl ([]:List α) p=none:=rfl
theorem cC(x:α)(l:List α)(p:RPl):dh pl (x::l) p=if pl x=p then some x else dh pl l p:=by
 unfold dh;rw[List.find?_cons]
 by_cases h:pl x=p<;>simp[h]
theorem nN{l:List α}{p:RPl}{x:α}(h:dh pl l p=some x):pl x=p:=by
 have:=List.find?_some h;simpa using this
theorem gD{l:List α}{p:RPl}{x:α}(h:dh pl l p=some x):x∈l:=List.mem_of_find?_eq_some h
theorem gP{l:List α}{p:RPl}:dh pl l p=none↔∀x∈l,pl x≠p:=by
 unfold dh;rw[List.find?_eq_none];simp
theorem lO{l:List α}(h:Asc pl l){x:α}(b:x∈l):dh pl l (pl x)=some x:=by
 induction l with
 |nil=>cases b
 |cons a l d=>
  rw[cC];have c:=List.pairwise_cons.1 h;rcases List.mem_cons.1 b with rfl|b
  ·simp
  ·rw[if_neg (iV (c.1 x b)),d c.2 b]
theorem nO:∀{a b:List α},Asc pl a -> Asc pl b -> (∀p,dh pl a p=dh pl b p) -> a=b
 |[],[],_,_,_=>rfl
 |[],y::b,_,o,h=>by
  have:=h (pl y);rw[nM,cC,if_pos rfl] at this;cases this
 |x::a,[],n,_,h=>by
  have:=h (pl x);rw[nM,cC,if_pos rfl] at this;cases this
 |x::a,y::b,n,o,h=>by
  have j:=List.pairwise_cons.1 n;have k:=List.pairwise_cons.1 o
  have q:x=y:=by
   have l:=h (pl x);rw[cC,if_pos rfl] at l;have g:=gD l.symm;have m:=h (pl y);rw[cC (x:=y),if_pos rfl] at m;have i:=gD m;rcases List.mem_cons.1 g with e|g
   ·exact e
   ·rcases List.mem_cons.1 i with e|i
    ·exact e.symm
    ·exact absurd (j.1 y i) (sQ (k.1 x g))
  subst q
  congr 1
  refine nO j.2 k.2 fun p=>?_
  have d:=h p;rw[cC,cC] at d
  by_cases e:pl x=p
  ·have r:dh pl a p=none:=gP.2 fun z f c=>iV (j.1 z f) (e.trans c.symm)
   have s:dh pl b p=none:=gP.2 fun z f c=>iV (k.1 z f) (e.trans c.symm)
   rw[r,s]
  ·rw[if_neg e,if_neg e] at d;exact d
theorem iB{l:List α}(h:Asc pl l)(f:α -> Bool):Asc pl (l.filter f):=List.Pairwise.filter f h
theorem jR{l:List α}(h:Asc pl l)(f:α -> Bool)(p:RPl):dh pl (l.filter f) p=(dh pl l p).filter f:=by
 induction l with
 |nil=>rfl
 |cons a l d=>
  have c:=List.pairwise_cons.1 h;rw[List.filter_cons,cC]
  by_cases b:f a=true
  ·rw[if_pos b,cC,d c.2]
   by_cases e:pl a=p
   ·simp[e,Option.filter,b]
   ·simp[e]
  ·rw[if_neg b,d c.2]
   by_cases e:pl a=p
   ·have j:dh pl l p=none:=gP.2 fun z i g=>iV (c.1 z i) (e.trans g.symm)
    simp[e,j,Option.filter,b]
   ·simp[e]
/-! two ascending lists as one -/
variable (pl) in
def cE(c:α -> α -> α):List α -> List α -> List α
 |[],b=>b
 |a,[]=>a
 |x::a,y::b=>if plt (pl x) (pl y) then x::cE c a (y::b) else if plt (pl y) (pl x) then y::cE c (x::a) b else c x y::cE c a b
termination_by a b=>a.length+b.length
theorem fy(a:α -> α -> α)(b:List α):cE pl a [] b=b:=by rw[cE]
theorem ld(b:α -> α -> α)(a:List α):cE pl b a []=a:=by cases a<;>simp[cE]
theorem oT(c:α -> α -> α){x y:α}(a b:List α)(h:plt (pl x) (pl y)):cE pl c (x::a) (y::b)=x::cE pl c a (y::b):=by rw[cE,if_pos h]
theorem oV(c:α -> α -> α){x y:α}(a b:List α)(h:plt (pl y) (pl x)):cE pl c (x::a) (y::b)=y::cE pl c (x::a) b:=by rw[cE,if_neg (sQ h),if_pos h]
theorem oW(c:α -> α -> α){x y:α}(a b:List α)(h:pl x=pl y):cE pl c (x::a) (y::b)=c x y::cE pl c a b:=by
 rw[cE,if_neg (by rw[h];exact gM _),if_neg (by rw[h];exact gM _)]
def both(a:α -> α -> α):Option α -> Option α -> Option α
 |some x,some y=>some (a x y)
 |some x,none=>some x
 |none,r=>r
theorem qv(m:α -> α -> α)(F:∀x y,pl x=pl y -> pl (m x y)=pl x)(n:Nat):∀a b:List α,a.length+b.length <= n -> Asc pl a -> Asc pl b ->
 (∀p,dh pl (cE pl m a b) p=both m (dh pl a p) (dh pl b p)) /\ Asc pl (cE pl m a b) /\ ∀q,(∀x∈a,plt q (pl x)) -> (∀x∈b,plt q (pl x)) -> ∀x∈cE pl m a b,plt q (pl x):=by
 induction n with
 |zero=>
  intro a b h v w;obtain rfl:a = []:=List.length_eq_zero_iff.1 (by omega);obtain rfl:b = []:=List.length_eq_zero_iff.1 (by omega);rw[fy];exact⟨fun p=>rfl,.nil,fun q _ _ x A=>by cases A⟩
 |succ n C=>
  intro a b h v w
  match a,b with
  |[],b=>rw[fy];exact⟨fun p=>by rw[nM];rfl,w,fun q _ j=>j⟩
  |x::a,[]=>
   rw[ld];refine⟨fun p=>?_,v,fun q i _=>i⟩;rw[nM];cases dh pl (x::a) p<;>rfl
  |x::a,y::b=>
   have s:=List.pairwise_cons.1 v;have t:=List.pairwise_cons.1 w;simp only[aD] at h
   by_cases i:plt (pl x) (pl y)
   ·rw[oT _ _ _ i];obtain⟨o,r,i3⟩:=C a (y::b) (by simp;omega) s.2 w
    have A:∀z∈y::b,plt (pl x) (pl z):=fun z c=>by
     rcases List.mem_cons.1 c with rfl|c
     ·exact i
     ·exact iA i (t.1 z c)
    refine⟨fun p=>?_,List.Pairwise.cons (i3 _ s.1 A) r,fun q f k z c=>?_⟩
    ·rw[cC,cC (l:=a),o]
     by_cases e:pl x=p
     ·have D:dh pl (y::b) p=none:=gP.2 fun z c g=>iV (A z c) (e.trans g.symm)
      simp[e,D,both]
     ·simp[e]
    ·rcases List.mem_cons.1 c with rfl|c
     ·exact f _ (List.mem_cons_self)
     ·exact i3 q (fun u d=>f u (List.mem_cons_of_mem _ d)) k z c
   ·by_cases j:plt (pl y) (pl x)
    ·rw[oV _ _ _ j];obtain⟨o,r,i3⟩:=C (x::a) b (by simp;omega) v t.2
     have E:∀z∈x::a,plt (pl y) (pl z):=fun z c=>by
      rcases List.mem_cons.1 c with rfl|c
      ·exact j
      ·exact iA j (s.1 z c)
     refine⟨fun p=>?_,List.Pairwise.cons (i3 _ E t.1) r,fun q f k z c=>?_⟩
     ·rw[cC,cC (l:=b),o]
      by_cases e:pl y=p
      ·have D:dh pl (x::a) p=none:=gP.2 fun z c g=>iV (E z c) (e.trans g.symm)
       simp[e,D,both]
      ·simp[e]
     ·rcases List.mem_cons.1 c with rfl|c
      ·exact k _ (List.mem_cons_self)
      ·exact i3 q f (fun u d=>k u (List.mem_cons_of_mem _ d)) z c
    ·have e:=me i j;rw[oW _ _ _ e];obtain⟨o,r,i3⟩:=C a b (by omega) s.2 t.2;have B:=F x y e;refine⟨fun p=>?_,List.Pairwise.cons ?_ r,fun q f k z c=>?_⟩
     ·rw[cC,cC (l:=a),cC (l:=b),o,B,<- e]
      by_cases g:pl x=p
      ·simp[g,both]
      ·simp[g]
     ·rw[B];exact i3 _ s.1 (by rw[e];exact t.1)
     ·rcases List.mem_cons.1 c with rfl|c
      ·rw[B];exact f _ (List.mem_cons_self)
      ·exact i3 q (fun u d=>f u (List.mem_cons_of_mem _ d)) (fun u d=>k u (List.mem_cons_of_mem _ d)) z c
theorem jo{c:α -> α -> α}(e:∀x y,pl x=pl y -> pl (c x y)=pl x){a b:List α}(d:Asc pl a)(f:Asc pl b)(p:RPl):dh pl (cE pl c a b) p=both c (dh pl a p) (dh pl b p):=
 (qv c e _ a b (aq _) d f).1 p
theorem gQ{c:α -> α -> α}(e:∀x y,pl x=pl y -> pl (c x y)=pl x){a b:List α}(d:Asc pl a)(f:Asc pl b):Asc pl (cE pl c a b):=
 (qv c e _ a b (aq _) d f).2.1
theorem sR(f:α -> α -> α)(n:Nat):∀a b:List α,a.length+b.length <= n -> (cE pl f a b).length <= a.length+b.length:=by
 induction n with
 |zero=>
  intro a b h;obtain rfl:a = []:=List.length_eq_zero_iff.1 (by omega);rw[fy];omega
 |succ n c=>
  intro a b h
  match a,b with
  |[],b=>rw[fy];simp
  |x::a,[]=>rw[ld];simp
  |x::a,y::b=>
   simp only[aD] at h⊢
   by_cases d:plt (pl x) (pl y)
   ·rw[oT _ _ _ d];have:=c a (y::b) (by simp;omega);simp at this⊢;omega
   ·by_cases e:plt (pl y) (pl x)
    ·rw[oV _ _ _ e];have:=c (x::a) b (by simp;omega);simp at this⊢;omega
    ·rw[oW _ _ _ (me d e)];have:=c a b (by omega);simp;omega
/-! an element is put in its place -/
variable (pl) in
def dK(l:List α)(x:α):List α:=l.takeWhile (fun e=>decide (plt (pl e) (pl x)))++x::(l.dropWhile (fun e=>decide (plt (pl e) (pl x)))).filter (fun e=>decide (pl e≠pl x))
theorem pI{x e:α}(l:List α)(h:plt (pl e) (pl x)):dK pl (e::l) x=e::dK pl l x:=by
 unfold dK;rw[List.takeWhile_cons,List.dropWhile_cons];simp[h]
theorem nP{x e:α}(l:List α)(h:¬plt (pl e) (pl x)):dK pl (e::l) x=x::(e::l).filter (fun e=>decide (pl e≠pl x)):=by
 unfold dK;rw[List.takeWhile_cons,List.dropWhile_cons];simp[h]
theorem zi(x:α):dK pl [] x = [x]:=rfl
theorem qw(x:α):∀l:List α,Asc pl l -> (∀p,dh pl (dK pl l x) p=if pl x=p then some x else dh pl l p) /\ Asc pl (dK pl l x) /\ ∀q,plt q (pl x) -> (∀e∈l,plt q (pl e)) -> ∀e∈dK pl l x,plt q (pl e)
 |[],_=>by
  rw[zi];exact⟨fun p=>by rw[cC],List.pairwise_singleton _ _,fun q h _ e g=>by rcases List.mem_cons.1 g with rfl|g;exact h;cases g⟩
 |e::l,h=>by
  have k:=List.pairwise_cons.1 h;obtain⟨w,y,i3⟩:=qw x l k.2
  by_cases c:plt (pl e) (pl x)
  ·rw[pI _ c];refine⟨fun p=>?_,List.Pairwise.cons (i3 _ c k.1) y,fun q m d z a=>?_⟩
   ·rw[cC,cC,w]
    by_cases b:pl e=p
    ·have:pl x≠p:=fun f=>iV c (b.trans f.symm)
     simp[b,this]
    ·simp[b]
   ·rcases List.mem_cons.1 a with rfl|a
    ·exact d _ List.mem_cons_self
    ·exact i3 q m (fun u v=>d u (List.mem_cons_of_mem _ v)) z a
  ·rw[nP _ c]
   have t:∀z∈(e::l).filter (fun e=>decide (pl e≠pl x)),plt (pl x) (pl z):=fun z a=>by
    obtain⟨a,j⟩:=List.mem_filter.1 a;have n:pl z≠pl x:=by simpa using j
    rcases List.mem_cons.1 a with rfl|a
    ·exact Classical.byContradiction fun i=>n (me c i)
    ·have r:=k.1 z a;refine Classical.byContradiction fun i=>?_
     by_cases o:plt (pl z) (pl x)
     ·exact c (iA r o)
     ·exact n (me o i)
   refine⟨fun p=>?_,List.Pairwise.cons t (iB h _),fun q m d z a=>?_⟩
   ·rw[cC,jR h]
    by_cases b:pl x=p
    ·simp[b]
    ·rw[if_neg b,if_neg b];cases s:dh pl (e::l) p with
     |none=>rfl
     |some z=>
      have:=nN s;have j:pl z≠pl x:=fun f=>b (f.symm.trans this)
      simp[j]
   ·rcases List.mem_cons.1 a with rfl|a
    ·exact m
    ·exact d z (List.mem_filter.1 a).1
theorem A7{l:List α}(h:Asc pl l)(x:α)(p:RPl):dh pl (dK pl l x) p=if pl x=p then some x else dh pl l p:=(qw x l h).1 p
theorem zj{l:List α}(h:Asc pl l)(x:α):Asc pl (dK pl l x):=(qw x l h).2.1
theorem lP(a:List α):∀l:List α,Asc pl l -> Asc pl (a.foldl (dK pl) l):=by
 induction a with
 |nil=>intro l h;exact h
 |cons x a b=>intro l h;exact b _ (zj h x)
theorem kG(c:List α):∀l:List α,Asc pl l -> (c.Pairwise fun a b=>pl a≠pl b) -> ∀p,dh pl (c.foldl (dK pl) l) p=match dh pl c p with|some x=>some x|none=>dh pl l p:=by
 induction c with
 |nil=>intro l h _ p;rfl
 |cons x c j=>
  intro l h g p;have d:=List.pairwise_cons.1 g;rw[List.foldl_cons,j _ (zj h x) d.2,A7 h,cC]
  by_cases e:pl x=p
  ·have k:dh pl c p=none:=gP.2 fun z i f=>d.1 z i (e.trans f.symm)
   simp[e,k]
  ·simp[e]
end
/-! maps -/
structure RIt where
 key:bR
 dev:Int
 seq:Int
 val:Int
structure RGo where
 key:bR
 dev:Int
 seq:Int
structure aU where
 seen:List Int
 items:List RIt
 gone:List RGo
def RIt.pl(x:RIt):RPl:=(x.key,x.dev)
def RGo.pl(x:RGo):RPl:=(x.key,x.dev)
def aU.empty:aU:=⟨[],[],[]⟩
def aU.new:aU:=⟨List.replicate 8 0,[],[]⟩
def aU.buried(m:aU)(p:RPl):Int:=match dh RGo.pl m.gone p with|some g=>g.seq|none=>0
def fS(a b:RIt):RIt:=if a.seq<b.seq \/ (a.seq=b.seq /\ a.val<b.val) then b else a
def dL(a b:RGo):RGo:=if a.seq<b.seq then b else a
theorem mf(a b:RIt)(h:a.pl=b.pl):(fS a b).pl=a.pl:=by unfold fS;split;exact h.symm;rfl
theorem fT(a b:RGo)(h:a.pl=b.pl):(dL a b).pl=a.pl:=by unfold dL;split;exact h.symm;rfl
/- The plain mathematics of maps: codes, valid maps, events, merging. No program. -/
end
/-! codes -/
def ia:Nat -> Nat -> List UInt8
 |0,_=>[]
 |f+1,n=>if n<128 then[UInt8.ofNat n] else UInt8.ofNat (n%128+128)::ia f (n/128)
def cj(n:Nat):List UInt8:=ia 10 n
theorem xF:∀(g n:Nat),n<128 ^ k -> n<128 ^ g -> 0<k -> 0<g -> ia k n=ia g n:=by
 induction k with
 |zero=>intro g n _ _ h _;omega
 |succ k i=>
  intro g n h c _ d;cases g with
  |zero=>omega
  |succ g=>
   unfold ia
   by_cases a:n<128
   ·rw[if_pos a,if_pos a]
   ·rw[if_neg a,if_neg a]
    have e:0<k:=by
     rcases Nat.eq_zero_or_pos k with rfl|b
     ·simp at h;omega
     ·exact b
    have d:0<g:=by
     rcases Nat.eq_zero_or_pos g with rfl|b
     ·simp at c;omega
     ·exact b
    rw[i g (n/128) (by rw[Nat.div_lt_iff_lt_mul (by omega)];rwa [Nat.pow_succ] at h) (by rw[Nat.div_lt_iff_lt_mul (by omega)];rwa [Nat.pow_succ] at c) e d]
theorem mU(h:n<128):cj n = [UInt8.ofNat n]:=by unfold cj ia;rw[if_pos h]
theorem kH(h:¬n<128)(a:n<18446744073709551616):cj n=UInt8.ofNat (n%128+128)::cj (n/128):=by
 unfold cj;rw[show(10:Nat)=9+1 from rfl,ia,if_neg h]
 congr 1
 exact xF 9 10 _ (by omega) (by omega) (by omega) (by omega)
theorem zO:∀n,(ia k n).length <= k:=by
 induction k with
 |zero=>intro n;simp[ia]
 |succ k a=>
  intro n;unfold ia;split
  ·simp
  ·simpa using a _
theorem cF:(cj n).length <= 10:=zO 10 n
theorem ib:0<(cj n).length:=by
 unfold cj ia;split<;>simp
def bD(k:bR):List UInt8:=cj k.length++k
def gN(x:RIt):List UInt8:=bD x.key++(cj x.dev.toNat++(cj x.seq.toNat++cj x.val.toNat))
def fA(x:RGo):List UInt8:=bD x.key++(cj x.dev.toNat++cj x.seq.toNat)
def dS(m:aU):List UInt8:=
 m.seen.flatMap (fun n=>cj n.toNat)++(cj m.items.length++(m.items.flatMap gN++(cj m.gone.length++m.gone.flatMap fA)))
/-! valid maps -/
def dq(m:aU)(p:RPl)(a:Int):Bool:=fe p.1&&decide (0 <= p.2 /\ p.2<m.seen.length /\ 1 <= a /\ a <= m.seen.getD p.2.toNat 0)
def mV(m:aU)(g:RGo):Bool:=dq m g.pl g.seq
def lQ(m:aU)(x:RIt):Bool:=dq m x.pl x.seq&&decide (1 <= x.val /\ x.val <= 16777216 /\ m.buried x.pl<x.seq)
def j4(n:Int):Bool:=decide (0 <= n /\ n <= 1099511627776)
def gJ(m:aU):Bool:=
 decide (m.seen.length=8)&&m.seen.all j4&&decide (Asc RIt.pl m.items)&&decide (Asc RGo.pl m.gone)&&m.gone.all (mV m)&&m.items.all (lQ m)
def bp(m:aU):Bool:=gJ m&&decide (m.items.length <= 4096)&&decide (m.gone.length <= 4096)&&decide ((dS m).length <= 60000)
/-! events -/
def di(d:Int)(l:List bR):Bool:=decide (0 <= d /\ d<8)&&decide l.Nodup&&l.all fe
def fU(m:aU):aU×Int:=if bp m then(m,0) else(.empty,7)
def dw(l:List bR):List bR:=l.mergeSort fun x y=>decide (x <= y)
def cK(m:aU)(d:Int):List Int:=m.seen.set d.toNat (m.seen.getD d.toNat 0+1)
def iC(m:aU)(d:Int):Int:=m.seen.getD d.toNat 0+1
def j5(v n:Int):Int:=DM.aft n.toNat (DM.bnd v)+65536
def xG(v n:Int):Int:=DM.aft n.toNat (DM.bnd v)
def j6(d a:Int)(k:bR):RIt:=⟨k,d,a,65536⟩
def gR(b:Int)(a x:RIt):RIt:={ x with val:=j5 a.val (b-a.seq) }
def gz(m:aU)(d:Int)(l:List bR):aU:=⟨cK m d,cE RIt.pl (gR (iC m d)) m.items ((dw l).map (j6 d (iC m d))),m.gone⟩
def fK(m:aU)(d:Int)(l:List bR):aU×Int:=if bp m then(if di d l then fU (gz m d l) else(.empty,1)) else(.empty,5)
def dM(x:RIt):RGo:=⟨x.key,x.dev,x.seq⟩
def dg(m:aU)(d:Int)(l:List bR):aU:=
 ⟨cK m d,m.items.filter (fun x=>decide (x.key∉l)),cE RGo.pl dL m.gone ((m.items.filter fun x=>decide (x.key∈l)).map dM)⟩
def cH(m:aU)(d:Int)(l:List bR):aU×Int:=if bp m then(if di d l then fU (dg m d l) else(.empty,1)) else(.empty,5)
def dI(a b:aU):aU:=
 let g:=cE RGo.pl dL a.gone b.gone
 let out:aU:=⟨List.zipWith max a.seen b.seen,[],g⟩
 { out with items:=(cE RIt.pl fS a.items b.items).filter fun x=>decide (out.buried x.pl<x.seq) }
def dN(a b:aU):aU×Int:=if bp a&&bp b then fU (dI a b) else(.empty,5)
/-! values -/
def kI(m:aU)(x:RIt):Int:=xG x.val (m.seen.getD x.dev.toNat 0-x.seq)
def A8(m:aU)(k:bR):Int:=((m.items.filter fun x=>decide (x.key=k)).map (kI m)).sum
def lR(m:aU)(k:bR):Int:=if bp m then A8 m k else 0
/-! the reference's events -/
def dH(m:aU)(d:Int)(k:bR):RIt:=
 match dh RIt.pl m.items (k,d) with
 |some o=>⟨k,d,iC m d,j5 o.val (iC m d-o.seq)⟩
 |none=>⟨k,d,iC m d,65536⟩
def tS(m:aU)(d:Int)(l:List bR):aU:=⟨cK m d,(l.map (dH m d)).foldl (dK RIt.pl) m.items,m.gone⟩
def mW(m:aU)(d:Int)(l:List bR):aU:=
 ⟨cK m d,m.items.filter (fun x=>decide (x.key∉l)),((m.items.filter fun x=>decide (x.key∈l)).map dM).foldl (dK RGo.pl) m.gone⟩
def sS(a b:aU):aU:=
 let g:=(b.gone.filter fun g=>decide (a.buried g.pl<g.seq)).foldl (dK RGo.pl) a.gone
 let out:aU:=⟨List.zipWith max a.seen b.seen,[],g⟩
 let all:=(b.items.filter fun x=>match dh RIt.pl a.items x.pl with|some y=>decide (y.seq<x.seq \/ (x.seq=y.seq /\ y.val<x.val))|none=>true).foldl (dK RIt.pl) a.items
 { out with items:=all.filter fun x=>decide (out.buried x.pl<x.seq) }
/-! what a valid map is -/
structure ew(m:aU):Prop where
 len:m.seen.length=8
 seen:∀n∈m.seen,0 <= n /\ n <= 1099511627776
 items:Asc RIt.pl m.items
 gone:Asc RGo.pl m.gone
 gknown:∀g∈m.gone,dq m g.pl g.seq=true
 iknown:∀x∈m.items,dq m x.pl x.seq=true
 val:∀x∈m.items,1 <= x.val /\ x.val <= 16777216
 above:∀x∈m.items,m.buried x.pl<x.seq
theorem ei(m:aU):gJ m=true↔ew m:=by
 unfold gJ;simp only[Bool.and_eq_true,decide_eq_true_eq,List.all_eq_true,mV,lQ,j4];constructor
 ·rintro⟨⟨⟨⟨⟨c,d⟩,e⟩,f⟩,g⟩,b⟩;exact⟨c,d,e,f,g,fun x a=>(b x a).1,fun x a=>⟨(b x a).2.1,(b x a).2.2.1⟩,fun x a=>(b x a).2.2.2⟩
 ·rintro⟨c,d,e,f,g,b,h,i⟩;exact⟨⟨⟨⟨⟨c,d⟩,e⟩,f⟩,g⟩,fun x a=>⟨b x a,(h x a).1,(h x a).2,i x a⟩⟩
theorem cq{m:aU}(h:bp m=true):ew m:=by
 unfold bp at h;simp only[Bool.and_eq_true] at h;exact(ei m).1 h.1.1.1
theorem eQ{m:aU}{p:RPl}{s:Int}(h:dq m p s=true):0 <= p.2 /\ p.2<m.seen.length /\ 1 <= s /\ s <= m.seen.getD p.2.toNat 0:=by
 unfold dq at h;simp only[Bool.and_eq_true,decide_eq_true_eq] at h;exact h.2
theorem dT{m:aU}{p:RPl}{s:Int}(h:dq m p s=true):fe p.1=true:=by
 unfold dq at h;simp only[Bool.and_eq_true] at h;exact h.1
/-! the reference's events are the program's -/
theorem ej(l:List bR):(dw l).Perm l:=List.mergeSort_perm _ _
theorem nQ(l:List bR):(dw l).Pairwise fun a b=>a <= b:=by
 have:=List.pairwise_mergeSort (le:=fun x y:bR=>decide (x <= y)) (fun a b c d e=>by
  simp only[decide_eq_true_eq] at *
  exact List.le_trans d e) (fun a b=>by
  rcases List.le_total a b with h|h<;>simp[h]) l
 exact this.imp fun h=>by simpa using h
theorem nR(l:List bR)(h:l.Nodup):(dw l).Pairwise fun a b=>a<b:=by
 have c:=nQ l;have d:(dw l).Nodup:=(ej l).nodup_iff.2 h;have:=List.Pairwise.and c d;exact this.imp fun{a b} ⟨c,d⟩=>Classical.byContradiction fun e=>d (List.le_antisymm c (List.not_lt.1 e))
theorem u6(d a:Int)(l:List bR)(h:l.Nodup):Asc RIt.pl ((dw l).map (j6 d a)):=by
 unfold Asc;rw[List.pairwise_map];exact(nR l h).imp fun h=>.inl h
theorem lf{f:bR -> RIt}{d:Int}(i:∀k,(f k).pl=(k,d))(l:List bR)(p:RPl):dh RIt.pl (l.map f) p=if p.2=d /\ p.1∈l then some (f p.1) else none:=by
 induction l with
 |nil=>simp[dh]
 |cons k l j=>
  rw[List.map_cons,cC,j,i];obtain⟨q,e⟩:=p
  by_cases h:(k,d)=(q,e)
  ·obtain⟨rfl,rfl⟩:=Prod.mk.inj h;simp
  ·rw[if_neg h]
   by_cases a:e=d /\ q∈l
   ·rw[if_pos a,if_pos ⟨a.1,List.mem_cons_of_mem _ a.2⟩]
   ·rw[if_neg a,if_neg];rintro⟨c,g⟩;rcases List.mem_cons.1 g with b|b
    ·exact h (Prod.ext b.symm c.symm)
    ·exact a ⟨c,b⟩
theorem oX(m:aU)(d:Int)(l:List bR)(h:Asc RIt.pl m.items)(f:l.Nodup):tS m d l=gz m d l:=by
 unfold tS gz
 congr 1
 have g:∀k,(dH m d k).pl=(k,d):=fun k=>by unfold dH;split<;>rfl
 have q:∀k,(j6 d (iC m d) k).pl=(k,d):=fun k=>rfl
 have i:∀x y:RIt,x.pl=y.pl -> (gR (iC m d) x y).pl=x.pl:=fun x y e=>e.symm
 refine nO (lP _ _ h) (gQ i h (u6 d _ l f)) fun p=>?_
 rw[kG _ _ h ?_,jo i h (u6 d _ l f),lf g,lf q]
 ·have j:p.1∈dw l↔p.1∈l:=(ej l).mem_iff
  by_cases c:p.2=d /\ p.1∈l
  ·rw[if_pos c,if_pos ⟨c.1,j.2 c.2⟩];unfold dH;have e:p=(p.1,d):=Prod.ext rfl c.1;rw[<- e];cases dh RIt.pl m.items p with
   |none=>rfl
   |some o=>rfl
  ·rw[if_neg c,if_neg (fun h=>c ⟨h.1,j.1 h.2⟩)];cases dh RIt.pl m.items p<;>rfl
 ·rw[List.pairwise_map];exact f.imp fun{a b} n e=>n (by rw[g,g] at e;exact(Prod.mk.inj e).1)
theorem qx{l:List RIt}(h:Asc RIt.pl l):Asc RGo.pl (l.map dM):=by
 unfold Asc;rw[List.pairwise_map];exact h
theorem u7(l:List RIt)(p:RPl):dh RGo.pl (l.map dM) p=(dh RIt.pl l p).map dM:=by
 induction l with
 |nil=>rfl
 |cons x l a=>
  rw[List.map_cons,cC,cC,a];show(if x.pl=p then _ else _)=_
  by_cases e:x.pl=p<;>simp[e]
theorem tT(m:aU)(d:Int)(l:List bR)(h:ew m):mW m d l=dg m d l:=by
 unfold mW dg
 congr 1
 have f:=iB h.items (fun x=>decide (x.key∈l));have b:=qx f;refine nO (lP _ _ h.gone) (gQ fT h.gone b) fun p=>?_
 rw[kG _ _ h.gone ?_,jo fT h.gone b,u7,jR h.items]
 ·cases hi:dh RIt.pl m.items p with
  |none=>cases dh RGo.pl m.gone p<;>rfl
  |some x=>
   by_cases c:x.key∈l
   ·simp only[Option.filter,decide_eq_true c,if_true,Option.map_some];cases i:dh RGo.pl m.gone p with
    |none=>rfl
    |some g=>
     have a:=h.above x (gD hi);have e:=nN hi;unfold aU.buried at a;rw[e,i] at a;show some (dM x)=some (dL g (dM x));unfold dL;rw[if_pos (show g.seq<(dM x).seq from a)]
   ·simp only[Option.filter,decide_eq_false c];cases dh RGo.pl m.gone p<;>rfl
 ·exact(List.Pairwise.imp (fun h=>iV h) b)
theorem ve(a b:List Int)(h:a.length=b.length):(List.zipWith max a b).length=a.length:=by simp[h]
theorem sr{m:aU}(h:ew m){p:RPl}{g:RGo}(a:dh RGo.pl m.gone p=some g):1 <= g.seq:=(eQ (h.gknown g (gD a))).2.2.1
theorem vf(a b:aU)(d:ew a)(c:ew b):sS a b=dI a b:=by
 have m:(b.gone.filter fun g=>decide (a.buried g.pl<g.seq)).foldl (dK RGo.pl) a.gone=cE RGo.pl dL a.gone b.gone:=by
  refine nO (lP _ _ d.gone) (gQ fT d.gone c.gone) fun p=>?_
  rw[kG _ _ d.gone (List.Pairwise.imp (fun h=>iV h) (iB c.gone _)),jo fT d.gone c.gone,jR c.gone];cases k:dh RGo.pl b.gone p with
  |none=>cases dh RGo.pl a.gone p<;>rfl
  |some g=>
   have e:=nN k;have n:=sr c k;cases f:dh RGo.pl a.gone p with
   |none=>
    have j:a.buried g.pl<g.seq:=by unfold aU.buried;rw[e,f];exact n
    simp[Option.filter,j,both]
   |some q=>
    by_cases i:q.seq<g.seq
    ·have j:a.buried g.pl<g.seq:=by unfold aU.buried;rw[e,f];exact i
     simp[Option.filter,j,both,dL,i]
    ·have j:¬a.buried g.pl<g.seq:=by unfold aU.buried;rw[e,f];exact i
     simp[Option.filter,j,both,dL,i]
 have hi:(b.items.filter fun x=>match dh RIt.pl a.items x.pl with|some y=>decide (y.seq<x.seq \/ (x.seq=y.seq /\ y.val<x.val))|none=>true).foldl (dK RIt.pl) a.items=cE RIt.pl fS a.items b.items:=by
  refine nO (lP _ _ d.items) (gQ mf d.items c.items) fun p=>?_
  rw[kG _ _ d.items (List.Pairwise.imp (fun h=>iV h) (iB c.items _)),jo mf d.items c.items,jR c.items];cases k:dh RIt.pl b.items p with
  |none=>cases dh RIt.pl a.items p<;>rfl
  |some x=>
   have e:=nN k;cases f:dh RIt.pl a.items p with
   |none=>simp[Option.filter,e,f,both]
   |some y=>
    by_cases i:y.seq<x.seq \/ (x.seq=y.seq /\ y.val<x.val)
    ·have l:y.seq<x.seq \/ (y.seq=x.seq /\ y.val<x.val):=by omega
     simp[Option.filter,e,f,both,fS,i,l]
    ·have l:¬(y.seq<x.seq \/ (y.seq=x.seq /\ y.val<x.val)):=by omega
     simp[Option.filter,e,f,both,fS,i,l]
 unfold sS dI;dsimp only;rw[m,hi]
/- The length of a code; lists of keys. No program. -/
section
theorem dU(h:fe l=true):l.length <= 400:=by
 cases l with
 |nil=>simp
 |cons c r=>
  obtain⟨i,hi,-,a⟩:=(oS c r).1 h;unfold fk at a;simp only[Bool.and_eq_true,decide_eq_true_eq,List.length_take,List.length_drop] at a;simp only[aD];omega
theorem iL{α β:Type}(f:α -> List β)(k:Nat):∀l:List α,(∀x∈l,(f x).length <= k) -> (l.flatMap f).length <= l.length*k
 |[],_=>by simp
 |x::l,h=>by
  rw[List.flatMap_cons,aA,aD,Nat.succ_mul];have b:=h x List.mem_cons_self;have c:=iL f k l fun y a=>h y (List.mem_cons_of_mem _ a)
  omega
theorem gj(k:bR)(h:k.length <= 400):(bD k).length <= 410:=by
 unfold bD;have:=cF k.length;rw[aA];omega
theorem xH(x:RIt)(h:x.key.length <= 400):(gN x).length <= 440:=by
 unfold gN;have a:=gj x.key h;have b:=cF x.dev.toNat;have c:=cF x.seq.toNat;have d:=cF x.val.toNat;simp only[aA];omega
theorem xI(x:RGo)(h:x.key.length <= 400):(fA x).length <= 430:=by
 unfold fA;have a:=gj x.key h;have b:=cF x.dev.toNat;have c:=cF x.seq.toNat;simp only[aA];omega
theorem zP(m:aU)(k:m.seen.length <= 1000)(j:m.items.length <= 100000)(i:m.gone.length <= 100000)(c:∀x∈m.items,x.key.length <= 400)(b:∀x∈m.gone,x.key.length <= 400):(dS m).length <= 1000000000:=by
 unfold dS;have d:=iL (fun n:Int=>cj n.toNat) 10 m.seen fun n _=>cF _
 have e:=iL gN 440 m.items fun x a=>xH x (c x a)
 have f:=iL fA 430 m.gone fun x a=>xI x (b x a)
 have g:=cF m.items.length;have h:=cF m.gone.length;simp only[aA];omega
/-! a code in its steps -/
def mJ(m:aU):List UInt8:=m.seen.flatMap (fun n=>cj n.toNat)++cj m.items.length
def fV(m:aU)(k:Nat):List UInt8:=mJ m++(m.items.take k).flatMap gN
def gS(m:aU)(k:Nat):List UInt8:=fV m m.items.length++(cj m.gone.length++(m.gone.take k).flatMap fA)
theorem sT(m:aU):gS m m.gone.length=dS m:=by
 unfold gS fV mJ dS;simp only[List.take_length,aB]
theorem mX(m:aU):fV m 0=mJ m:=by simp[fV]
theorem qy(m:aU):gS m 0=fV m m.items.length++cj m.gone.length:=by simp[gS]
theorem mh{α β:Type}(f:α -> List β)(l:List α)(k:Nat)(h:k<l.length):(l.take (k+1)).flatMap f=(l.take k).flatMap f++f l[k]:=by
 rw[List.take_succ_eq_append_getElem h,List.flatMap_append];simp
theorem qz(m:aU)(k:Nat)(h:k<m.items.length):fV m (k+1)=fV m k++bD m.items[k].key++[m.items[k].dev,m.items[k].seq,m.items[k].val].flatMap (fun n=>cj n.toNat):=by
 unfold fV;rw[mh _ _ _ h];simp[gN,aB]
theorem qA(m:aU)(k:Nat)(h:k<m.gone.length):gS m (k+1)=gS m k++bD m.gone[k].key++[m.gone[k].dev,m.gone[k].seq].flatMap (fun n=>cj n.toNat):=by
 unfold gS;rw[mh _ _ _ h];simp[fA,aB]
theorem lh{α β:Type}(f:α -> List β)(l:List α)(k:Nat):((l.take k).flatMap f).length <= (l.flatMap f).length:=by
 conv=>rhs;rw[<- List.take_append_drop k l,List.flatMap_append,aA]
 omega
theorem nS(m:aU)(k:Nat):(gS m k).length <= (dS m).length:=by
 have a:=lh fA m.gone k;unfold gS fV mJ dS;simp only[List.take_length,aA];omega
theorem jp(m:aU)(k:Nat):(fV m k).length <= (dS m).length:=by
 have a:=lh gN m.items k;unfold fV mJ dS;simp only[aA];omega
theorem vg(m:aU):(mJ m).length <= (dS m).length:=by rw[<- mX];exact jp m 0
/-! merging and putting, step by step -/
section
variable {α:Type} {pl:α -> RPl}
theorem vh(a:α -> α -> α)(A B:List α)(i j:Nat)(b:i<A.length)(c:j<B.length)(h:plt (pl A[i]) (pl B[j])):cE pl a (A.drop i) (B.drop j)=A[i]::cE pl a (A.drop (i+1)) (B.drop j):=by
 rw[List.drop_eq_getElem_cons b,List.drop_eq_getElem_cons c,oT _ _ _ h]
theorem vi(a:α -> α -> α)(A B:List α)(i j:Nat)(b:i<A.length)(c:j<B.length)(h:plt (pl B[j]) (pl A[i])):cE pl a (A.drop i) (B.drop j)=B[j]::cE pl a (A.drop i) (B.drop (j+1)):=by
 rw[List.drop_eq_getElem_cons b,List.drop_eq_getElem_cons c,oV _ _ _ h]
theorem vj(a:α -> α -> α)(A B:List α)(i j:Nat)(b:i<A.length)(c:j<B.length)(h:pl A[i]=pl B[j]):cE pl a (A.drop i) (B.drop j)=a A[i] B[j]::cE pl a (A.drop (i+1)) (B.drop (j+1)):=by
 rw[List.drop_eq_getElem_cons b,List.drop_eq_getElem_cons c,oW _ _ _ h]
theorem zQ(a:α -> α -> α)(A B:List α)(i j:Nat)(h:¬(i<A.length /\ j<B.length)):cE pl a (A.drop i) (B.drop j)=A.drop i++B.drop j:=by
 by_cases hi:i<A.length
 ·rw[List.drop_eq_nil_of_le (show B.length <= j by omega),ld,List.append_nil]
 ·rw[List.drop_eq_nil_of_le (show A.length <= i by omega),fy,List.nil_append]
def ez(pl:α -> RPl)(l:List α)(x:α)(k:Nat)(a:Bool):List α:=if a then(l.drop k).filter (fun e=>decide (pl e≠pl x)) else dK pl (l.drop k) x
theorem tU(l:List α)(x:α):ez pl l x 0 false=dK pl l x:=by simp[ez]
theorem oY(l:List α)(x:α):ez pl l x l.length true = []:=by simp[ez]
theorem vk(l:List α)(x:α):ez pl l x l.length false = [x]:=by simp[ez,zi]
theorem xJ(l:List α)(x:α)(k:Nat)(a:k<l.length)(h:plt (pl l[k]) (pl x)):ez pl l x k false=l[k]::ez pl l x (k+1) false:=by
 simp only[ez,if_neg Bool.false_ne_true];rw[List.drop_eq_getElem_cons a,pI _ h]
theorem vl(l:List α)(x:α)(k:Nat)(a:k<l.length)(h:¬plt (pl l[k]) (pl x)):ez pl l x k false=x::ez pl l x k true:=by
 simp only[ez,if_neg Bool.false_ne_true,if_pos];rw[List.drop_eq_getElem_cons a,nP _ h]
theorem xK(l:List α)(x:α)(k:Nat)(a:k<l.length)(h:pl l[k]≠pl x):ez pl l x k true=l[k]::ez pl l x (k+1) true:=by
 simp only[ez,if_pos];rw[List.drop_eq_getElem_cons a,List.filter_cons,if_pos (by simpa using h)]
theorem xL(l:List α)(x:α)(k:Nat)(a:k<l.length)(h:pl l[k]=pl x):ez pl l x k true=ez pl l x (k+1) true:=by
 simp only[ez,if_pos];rw[List.drop_eq_getElem_cons a,List.filter_cons,if_neg (by simpa using h)]
end
/- Merging maps: formed maps stay formed; merging is idempotent, commutative and associative. No program. -/
end
section
/-! elements of a merged list -/
section
variable {α:Type} {pl:α -> RPl}
theorem oZ{d:α -> α -> α}(j:∀x y,pl x=pl y -> pl (d x y)=pl x)(l:∀x y,d x y=x \/ d x y=y){a b:List α}(i:Asc pl a)(k:Asc pl b){z:α}(m:z∈cE pl d a b):z∈a \/ z∈b:=by
 have c:=lO (gQ j i k) m;rw[jo j i k] at c;cases e:dh pl a (pl z) with
 |none=>
  rw[e] at c;exact .inr (gD (show dh pl b (pl z)=some z from c))
 |some x=>
  rw[e] at c;cases g:dh pl b (pl z) with
  |none=>
   rw[g] at c;obtain rfl:x=z:=by simpa[both] using c
   exact .inl (gD e)
  |some y=>
   rw[g] at c;have f:d x y=z:=by simpa[both] using c
   rcases l x y with h|h
   ·rw[h] at f;subst f;exact .inl (gD e)
   ·rw[h] at f;subst f;exact .inr (gD g)
end
theorem zR(a b:RIt):fS a b=a \/ fS a b=b:=by unfold fS;split<;>simp
theorem qB(a b:RGo):dL a b=a \/ dL a b=b:=by unfold dL;split<;>simp
/-! what is forgotten in a merged map -/
def above(n:Int)(o:Option RIt):Option RIt:=o.filter fun x=>decide (n<x.seq)
/-! formed maps stay formed -/
theorem qC{m a:aU}{p:RPl}{s:Int}(h:dq m p s=true)(g:a.seen.length=m.seen.length)(j:∀i,m.seen.getD i 0 <= a.seen.getD i 0):dq a p s=true:=by
 have f:=dT h;obtain⟨b,c,d,e⟩:=eQ h;unfold dq;simp only[Bool.and_eq_true,decide_eq_true_eq];exact⟨f,b,by rw[g];exact c,d,Int.le_trans e (j _)⟩
theorem vm(a b:List Int)(h:a.length=b.length)(i:Nat):(List.zipWith max a b).getD i 0=max (a.getD i 0) (b.getD i 0):=by
 simp only[List.getD_eq_getElem?_getD,List.getElem?_zipWith]
 by_cases hi:i<a.length
 ·rw[List.getElem?_eq_getElem hi,List.getElem?_eq_getElem (h▸hi)];rfl
 ·rw[List.getElem?_eq_none (by omega),List.getElem?_eq_none (by omega)];rfl
theorem qD(a b:aU)(c:ew a)(d:ew b):(dI a b).seen.length=8:=by
 show(List.zipWith max a.seen b.seen).length=8;rw[ve _ _ (c.len.trans d.len.symm),c.len]
theorem mY(a b:aU)(c:ew a)(d:ew b)(i:Nat):(dI a b).seen.getD i 0=max (a.seen.getD i 0) (b.seen.getD i 0):=vm _ _ (c.len.trans d.len.symm) i
theorem jq{m:aU}(h:ew m)(i:Nat):0 <= m.seen.getD i 0 /\ m.seen.getD i 0 <= 1099511627776:=by
 by_cases hi:i<m.seen.length
 ·rw[List.getD_eq_getElem?_getD,List.getElem?_eq_getElem hi];exact h.seen _ (aC hi)
 ·rw[List.getD_eq_getElem?_getD,List.getElem?_eq_none (by omega)];exact⟨Int.le_refl _,by decide⟩
theorem i8(a b:aU)(c:ew a)(d:ew b):ew (dI a b):=by
 have k:=qD a b c d;have o:∀{p s},dq a p s=true -> dq (dI a b) p s=true:=fun h=>qC h (k.trans c.len.symm) fun i=>by rw[mY a b c d];omega
 have q:∀{p s},dq b p s=true -> dq (dI a b) p s=true:=fun h=>qC h (k.trans d.len.symm) fun i=>by rw[mY a b c d];omega
 have r:∀g∈(dI a b).gone,g∈a.gone \/ g∈b.gone:=fun g j=>oZ fT qB c.gone d.gone j
 have l:∀x∈(dI a b).items,(x∈a.items \/ x∈b.items) /\ (dI a b).buried x.pl<x.seq:=fun x e=>by
  obtain⟨f,m⟩:=List.mem_filter.1 (show x∈(cE RIt.pl fS a.items b.items).filter fun x=>decide ((dI a b).buried x.pl<x.seq) from e);exact⟨oZ mf zR c.items d.items f,by simpa using m⟩
 refine⟨k,fun n t=>?_,iB (gQ mf c.items d.items) _,gQ fT c.gone d.gone,fun g j=>?_,fun x e=>?_,fun x e=>?_,fun x e=>(l x e).2⟩
 ·obtain⟨i,hi,rfl⟩:=List.mem_iff_getElem.1 t;have f:=mY a b c d i;rw[List.getD_eq_getElem?_getD,List.getElem?_eq_getElem hi] at f;have m:=jq c i;have u:=jq d i;simp only[Option.getD_some] at f;rw[f];omega
 ·exact(r g j).elim (fun h=>o (c.gknown g h)) (fun h=>q (d.gknown g h))
 ·exact(l x e).1.elim (fun h=>o (c.iknown x h)) (fun h=>q (d.iknown x h))
 ·exact(l x e).1.elim (c.val x) (d.val x)
/-! two formed maps are equal if they have the same at all places -/
/- Events on maps: formed maps stay formed, knowledge grows, values. No program. -/
end
structure tV(d:Int)(l:List bR):Prop where
 lo:0 <= d
 hi:d<8
 nodup:l.Nodup
 keys:∀k∈l,fe k=true
theorem eW(d:Int)(l:List bR):di d l=true↔tV d l:=by
 unfold di;simp only[Bool.and_eq_true,decide_eq_true_eq,List.all_eq_true];exact⟨fun⟨⟨⟨a,b⟩,c⟩,e⟩=>⟨a,b,c,e⟩,fun h=>⟨⟨⟨h.lo,h.hi⟩,h.nodup⟩,h.keys⟩⟩
theorem A9(m:aU)(d:Int)(a:d.toNat<m.seen.length)(i:Nat):(cK m d).getD i 0=if i=d.toNat then m.seen.getD i 0+1 else m.seen.getD i 0:=by
 unfold cK;simp only[List.getD_eq_getElem?_getD,List.getElem?_set]
 by_cases h:d.toNat=i
 ·subst h;simp[a]
 ·rw[if_neg h,if_neg (fun e=>h e.symm)]
theorem o4(m:aU)(d:Int):(cK m d).length=m.seen.length:=by unfold cK;simp
theorem Ba{m:aU}{d:Int}(h:ew m)(a:0 <= d)(b:d<8):d.toNat<m.seen.length:=by rw[h.len];omega
/-! an event that uses keys -/
theorem li(m:aU)(d:Int)(k:bR):(dH m d k).pl=(k,d):=by unfold dH;split<;>rfl
theorem vn(m:aU)(d:Int)(k:bR):(dH m d k).seq=iC m d:=by unfold dH;split<;>rfl
theorem Bb(m:aU)(d:Int)(l:List bR)(h:Asc RIt.pl m.items)(f:l.Nodup)(p:RPl):dh RIt.pl (gz m d l).items p=if p.2=d /\ p.1∈l then some (dH m d p.1) else dh RIt.pl m.items p:=by
 rw[<- oX m d l h f];show dh RIt.pl ((l.map (dH m d)).foldl (dK RIt.pl) m.items) p=_;rw[kG _ _ h ?_,lf (fun k=>li m d k)]
 ·by_cases c:p.2=d /\ p.1∈l
  ·rw[if_pos c,if_pos c]
  ·rw[if_neg c,if_neg c]
 ·rw[List.pairwise_map];exact f.imp fun{a b} g e=>g (by rw[li,li] at e;exact(Prod.mk.inj e).1)
theorem CU(m:aU)(d:Int)(l:List bR)(h:Asc RIt.pl m.items)(a:l.Nodup):Asc RIt.pl (gz m d l).items:=by
 rw[<- oX m d l h a];exact lP _ _ h
theorem CW{m:aU}{d:Int}{l:List bR}(h:Asc RIt.pl m.items)(c:l.Nodup){x:RIt}(e:x∈(gz m d l).items):(∃k∈l,x=dH m d k) \/ x∈m.items:=by
 have a:=lO (CU m d l h c) e;rw[Bb m d l h c] at a
 by_cases b:x.pl.2=d /\ x.pl.1∈l
 ·rw[if_pos b] at a;exact .inl ⟨_,b.2,(Option.some.inj a).symm⟩
 ·rw[if_neg b] at a;exact .inr (gD a)
theorem vo{m:aU}{d:Int}(h:ew m)(l:0 <= d)(j:d<8)(k:bR):65536 <= (dH m d k).val /\ (dH m d k).val <= 16777216:=by
 unfold dH;cases e:dh RIt.pl m.items (k,d) with
 |none=>exact⟨Int.le_refl _,(by decide:(65536:Int) <= 16777216)⟩
 |some o=>
  have b:=gD e;have c:=nN e;obtain⟨v0,v1⟩:=h.val o b;have a:=(eQ (h.iknown o b)).2.2.2;rw[c] at a;show 65536 <= j5 o.val (iC m d-o.seq) /\ j5 o.val (iC m d-o.seq) <= 16777216;have n:1 <= iC m d-o.seq:=by unfold iC;dsimp only at a;omega
  unfold j5;rw[DM.bnd_id o.val (by omega) (by omega)];have a0:=DM.aft_nonneg (iC m d-o.seq).toNat o.val (by omega);have f:=DM.aft_more 1 (iC m d-o.seq).toNat o.val (by omega) (by omega)
  have g:DM.aft 1 o.val=DM.stp o.val:=by
   rw[show(1:Nat)=0+1 from rfl,DM.aft_succ_pos _ _ (by omega)];rfl
  have i:DM.stp o.val <= 16711680:=by unfold DM.stp;omega
  omega
/-! an event that forgets keys -/
theorem vp{m:aU}{d:Int}{l:List bR}(h:ew m){g:RGo}(f:g∈(dg m d l).gone):(∃x∈m.items,x.key∈l /\ g=dM x) \/ g∈m.gone:=by
 have e:=iB h.items (fun x=>decide (x.key∈l));rcases oZ fT qB h.gone (qx e) f with a|a
 ·exact .inr a
 ·obtain⟨x,i,rfl⟩:=List.mem_map.1 a;obtain⟨b,c⟩:=List.mem_filter.1 i;exact .inl ⟨x,b,by simpa using c,rfl⟩
/-! values -/
theorem tW(m:aU)(x:RIt):0 <= kI m x:=DM.aft_nonneg _ _ (DM.bnd_nonneg _)
/- Three devices' copies: small maps are valid; runs of acts never fail; all orders of merging agree. No program. -/
def places(K:List bR):List RPl:=K.flatMap fun k=>[(k,0),(k,1),(k,2)]
/-! what calls return -/
/-! three copies -/
/-! a use that was not known stays -/
/- Codes can be read in one way only. No program. -/
theorem qE{m:aU}(h:bp m=true):(∀n∈m.seen,0 <= n /\ n <= 1099511627776) /\ (∀x∈m.items,x.key.length <= 400 /\ (0 <= x.dev /\ x.dev<8) /\ (1 <= x.seq /\ x.seq <= 1099511627776) /\ 1 <= x.val /\ x.val <= 16777216) /\
 (∀x∈m.gone,x.key.length <= 400 /\ (0 <= x.dev /\ x.dev<8) /\ 1 <= x.seq /\ x.seq <= 1099511627776):=by
 have f:=cq h
 have e:∀i,m.seen.getD i 0 <= 1099511627776:=fun i=>by
  by_cases hi:i<m.seen.length
  ·rw[List.getD_eq_getElem?_getD,List.getElem?_eq_getElem hi];exact(f.seen _ (aC hi)).2
  ·rw[List.getD_eq_getElem?_getD,List.getElem?_eq_none (by omega)]
   decide
 refine⟨f.seen,fun x a=>?_,fun x a=>?_⟩
 ·obtain⟨c,b,d,g⟩:=eQ (f.iknown x a);have:=e x.pl.2.toNat;rw[f.len] at b;exact⟨dU (dT (f.iknown x a)),⟨c,b⟩,⟨d,by omega⟩,f.val x a⟩
 ·obtain⟨c,b,d,g⟩:=eQ (f.gknown x a);have:=e x.pl.2.toNat;rw[f.len] at b;exact⟨dU (dT (f.gknown x a)),⟨c,b⟩,d,by omega⟩
theorem dr{m:aU}(h:bp m=true):m.seen.length=8 /\ m.items.length <= 4096 /\ m.gone.length <= 4096 /\ (dS m).length <= 60000:=by
 have f:=cq h;unfold bp at h;simp only[Bool.and_eq_true,decide_eq_true_eq] at h;exact⟨f.len,h.1.1.2,h.1.2,h.2⟩
/-! how far a code has been read -/
def DJ(b:List UInt8)(n:Nat)(r:List UInt8):Prop:=n<18446744073709551616 /\ b=cj n++r
end Go.Proofs.YtobjdpngnfbicaaGreatDoor
