/-
  RDec RDecQ Kit Mem RMem Clone RCode
-/
import Derived.Test.YtobjdpngnfbicaaGreatDoorZO01
import Derived.ProofKit
import Derived.BigQuiet
import Derived.Laws.CopyOwn
import Derived.Sort.EncStr
import Derived.Test.YtobjdpngnfbicaaGreatDoorChecked
import Derived.WalkSpells
import Derived.Lib.AppendStr
import Derived.Deep.LoopGhost
open Go.Lib renaming hid->ae
open Go.IntWalk renaming u8_in->ap
open Nat renaming le_refl->aq,le_trans->au,lt_of_lt_of_le->aw
open List renaming length_append->aA,append_assoc->aB,getElem_mem->aC,length_cons->aD
open Go.Proofs.Tryz renaming prog->aE
set_option maxHeartbeats 3000000
set_option maxRecDepth 100000
set_option linter.all false
namespace Go.Proofs.YtobjdpngnfbicaaGreatDoor
open Go.RowKit
open Tryz
variable(w:World)(n k:Nat)(v:Value)(b:List UInt8){W w':World}{u:Value}{i j o:Nat}{l:List UInt8}{L:List Value}{r:aU}{t:TypeId}
def rdF:List UInt8 -> Nat -> Option (Nat×List UInt8)
 |[],_=>none
 |c::r,f=>if(f=0 /\ 1<c.toNat) \/ (f<9 /\ c.toNat=0) then none else if c.toNat<128 then some (c.toNat,r) else(rdF r (f-1)).map fun p=>(c.toNat%128+128*p.1,p.2)
theorem zk:rdF [] n=none:=rfl
theorem zl{c:UInt8}(h:(i=0 /\ 1<c.toNat) \/ (i<9 /\ c.toNat=0)):rdF (c::l) i=none:=by rw[rdF,if_pos h]
theorem zm{c:UInt8}(h:¬((i=0 /\ 1<c.toNat) \/ (i<9 /\ c.toNat=0)))(a:c.toNat<128):rdF (c::l) i=some (c.toNat,l):=by rw[rdF,if_neg h,if_pos a]
theorem Bc{c:UInt8}(h:¬((i=0 /\ 1<c.toNat) \/ (i<9 /\ c.toNat=0)))(a:¬c.toNat<128):rdF (c::l) i=(rdF l (i-1)).map fun p=>(c.toNat%128+128*p.1,p.2):=by rw[rdF,if_neg h,if_neg a]
theorem dY(h:n<256):(UInt8.ofNat n).toNat=n:=by rw[UInt8.toNat_ofNat'];omega
theorem tX:∀(b:List UInt8)(f n:Nat)(r:List UInt8),f <= 9 -> (rdF b f=some (n,r)↔b=ia (f+1) n++r /\ n<2*128 ^ f /\ (f<9 -> n≠0))
 |[],f,n,r,q=>by
  rw[zk];refine⟨nofun,fun h=>?_⟩;have a:=congrArg List.length h.1;have:0<(ia (f+1) n).length:=by unfold ia;split<;>simp
  rw[aA] at a;simp at a;omega
 |c::t,f,n,r,q=>by
  have v:=c.toNat_lt
  by_cases d:(f=0 /\ 1<c.toNat) \/ (f<9 /\ c.toNat=0)
  ·rw[zl d];refine⟨nofun,fun h=>?_⟩;exfalso;obtain⟨a,i,j⟩:=h;unfold ia at a
   by_cases g:n<128
   ·rw[if_pos g] at a;have e:=congrArg UInt8.toNat (List.cons.inj a).1;rw[dY n (by omega)] at e;rcases d with⟨rfl,d⟩|⟨d,k⟩
    ·simp at i;omega
    ·exact j d (by omega)
   ·rw[if_neg g] at a;have e:=congrArg UInt8.toNat (List.cons.inj a).1;rw[dY _ (by omega)] at e;rcases d with⟨rfl,d⟩|⟨d,k⟩
    ·simp at i;omega
    ·omega
  by_cases k:c.toNat<128
  ·rw[zm d k];constructor
   ·intro h;obtain⟨rfl,rfl⟩:=Prod.mk.inj (Option.some.inj h);refine⟨?_,?_,fun s p=>d (.inr ⟨s,p⟩)⟩
    ·unfold ia;rw[if_pos k];simp
    ·cases f with
     |zero=>simp;omega
     |succ f=>have:0<128 ^ f:=Nat.pow_pos (by omega);rw[Nat.pow_succ];omega
   ·rintro⟨a,i,j⟩;unfold ia at a
    by_cases g:n<128
    ·rw[if_pos g] at a;obtain⟨o,m⟩:=List.cons.inj a;have e:=congrArg UInt8.toNat o;rw[dY n (by omega)] at e;rw[e];simp at m;rw[m]
    ·rw[if_neg g] at a;have e:=congrArg UInt8.toNat (List.cons.inj a).1;rw[dY _ (by omega)] at e;omega
  ·rw[Bc d k];cases f with
   |zero=>exact absurd (.inl ⟨rfl,by omega⟩) d
   |succ f=>
    rw[Option.map_eq_some_iff,Nat.add_sub_cancel];constructor
    ·rintro⟨⟨l,u⟩,h,e⟩;obtain⟨rfl,rfl⟩:=Prod.mk.inj e;obtain⟨a,i,j⟩:=(tX t f l u (by omega)).1 h;have p:l≠0:=j (by omega);dsimp only;refine⟨?_,by rw[Nat.pow_succ];omega,fun _=>by omega⟩;rw[ia,if_neg (by omega),show(c.toNat%128+128*l)/128=l by omega,show(c.toNat%128+128*l)%128+128=c.toNat by omega,a];simp
    ·rintro⟨a,i,j⟩;rw[ia] at a
     by_cases g:n<128
     ·rw[if_pos g] at a;have e:=congrArg UInt8.toNat (List.cons.inj a).1;rw[dY n (by omega)] at e;omega
     ·rw[if_neg g] at a;obtain⟨o,m⟩:=List.cons.inj a;have e:=congrArg UInt8.toNat o;rw[dY _ (by omega)] at e;refine⟨(n/128,r),(tX t f (n/128) r (by omega)).2 ⟨m,by rw[Nat.pow_succ] at i;omega,fun _=>by omega⟩,?_⟩;exact Prod.ext (by show c.toNat%128+128*(n/128)=n;omega) rfl
theorem gA{r:List UInt8}:rdF l 9=some (i,r)↔DJ l i r:=by
 rw[tX l 9 i r (aq _)];unfold DJ cj;exact⟨fun h=>⟨by have:=h.2.1;omega,h.1⟩,fun h=>⟨h.2,by have:=h.1;omega,fun a=>absurd a (by omega)⟩⟩
theorem jr{r:List UInt8}(h:rdF l 9=some (i,r)):r.length<l.length /\ l.length <= r.length+10 /\ i<18446744073709551616:=by
 obtain⟨a,c⟩:=gA.1 h;have:=congrArg List.length c;rw[aA] at this;have d:=ib i;have e:=cF i;exact⟨by omega,by omega,a⟩
/-! a reader: what is still to be read; none: something was wrong -/
abbrev dO:=Option (List UInt8)
def cA:dO -> Int×dO
 |none=>(0,none)
 |some b=>match rdF b 9 with
  |some (n,r)=>if n <= 1099511627776 then((n:Int),some r) else(0,none)
  |none=>(0,none)
def rdT(b:List UInt8):Option (bR×List UInt8):=match rdF b 9 with
 |some (n,r)=>if n <= r.length then some (r.take n,r.drop n) else none
 |none=>none
def cJ:dO -> bR×dO
 |none=>([],none)
 |some b=>match rdT b with
  |some (k,r)=>(k,some r)
  |none=>([],none)
def fW(s:dO):RIt×dO:=(⟨(cJ s).1,(cA (cJ s).2).1,(cA (cA (cJ s).2).2).1,(cA (cA (cA (cJ s).2).2).2).1⟩,(cA (cA (cA (cJ s).2).2).2).2)
def fY(s:dO):RGo×dO:=(⟨(cJ s).1,(cA (cJ s).2).1,(cA (cA (cJ s).2).2).1⟩,(cA (cA (cJ s).2).2).2)
def ic:Nat -> List Int×dO -> List Int×dO
 |0,p=>p
 |n+1,p=>ic n (p.1++[(cA p.2).1],(cA p.2).2)
def fH{α:Type}(one:dO -> α×dO):Nat -> List α×dO -> List α×dO
 |0,p=>p
 |n+1,p=>if p.2=none then p else fH one n (p.1++[(one p.2).1],(one p.2).2)
def o5(b:List UInt8):List Int×dO:=ic 8 ([],some b)
def jP(b:List UInt8):List RIt×dO:=fH fW (cA (o5 b).2).1.toNat ([],(cA (o5 b).2).2)
def lj(b:List UInt8):List RGo×dO:=fH fY (cA (jP b).2).1.toNat ([],(cA (jP b).2).2)
def j7(b:List UInt8):aU:=⟨(o5 b).1,(jP b).1,(lj b).1⟩
def fi(b:List UInt8):aU×Int:=if(lj b).2=some [] /\ bp (j7 b)=true then(j7 b,0) else(.empty,5)
theorem js{α:Type}(a:dO -> α×dO)(n:Nat)(l:List α):fH a n (l,none)=(l,none):=by
 cases n with
 |zero=>rfl
 |succ n=>rw[fH,if_pos rfl]
theorem iD{α:Type}(a:dO -> α×dO)(n:Nat)(l:List α)(b:List UInt8):fH a (n+1) (l,some b)=fH a n (l++[(a (some b)).1],(a (some b)).2):=by rw[fH,if_neg nofun]
/-! what was read -/
theorem gl{s:dO}{x:Int}{r:List UInt8}(h:cA s=(x,some r)):s=some (cj x.toNat++r) /\ 0 <= x /\ x <= 1099511627776:=by
 cases s with
 |none=>cases h
 |some b=>
  unfold cA at h;dsimp only at h;split at h
  ·rename_i n e d
   by_cases a:n <= 1099511627776
   ·rw[if_pos a] at h;obtain⟨rfl,c⟩:=Prod.mk.inj h;obtain rfl:=Option.some.inj c;have:=(gA.1 d).2;exact⟨by rw[this];simp,by omega,by omega⟩
   ·rw[if_neg a] at h;cases h
  ·cases h
theorem jS(x:Int)(r:List UInt8)(a:0 <= x)(b:x <= 1099511627776):cA (some (cj x.toNat++r))=(x,some r):=by
 have h:rdF (cj x.toNat++r) 9=some (x.toNat,r):=gA.2 ⟨by omega,rfl⟩;unfold cA;dsimp only;rw[h];dsimp only;rw[if_pos (by omega),show((x.toNat:Nat):Int)=x by omega]
theorem gE(s:dO):0 <= (cA s).1 /\ (cA s).1 <= 1099511627776:=by
 unfold cA;split
 ·exact⟨by decide,by decide⟩
 ·split
  ·split
   ·exact⟨by simp,by dsimp only;omega⟩
   ·exact⟨by decide,by decide⟩
  ·exact⟨by decide,by decide⟩
theorem mZ{s:dO}{k:bR}{r:List UInt8}(h:cJ s=(k,some r)):s=some (bD k++r) /\ k.length<18446744073709551616:=by
 cases s with
 |none=>cases h
 |some b=>
  unfold cJ rdT at h;dsimp only at h;split at h
  ·rename_i i j a;obtain⟨rfl,c⟩:=Prod.mk.inj h;obtain rfl:=Option.some.inj c;split at a
   ·rename_i n t g
    by_cases d:n <= t.length
    ·rw[if_pos d] at a;obtain⟨rfl,rfl⟩:=Prod.mk.inj (Option.some.inj a);obtain⟨e,c⟩:=gA.1 g;have f:(t.take n).length=n:=by simp[d]
     unfold bD;rw[f];exact⟨by rw[c,aB,List.take_append_drop],e⟩
    ·rw[if_neg d] at a;cases a
   ·cases a
  ·cases h
theorem vq(k:bR)(r:List UInt8)(a:k.length<18446744073709551616):cJ (some (bD k++r))=(k,some r):=by
 have h:rdF (bD k++r) 9=some (k.length,k++r):=gA.2 ⟨a,by unfold bD;rw[aB]⟩;unfold cJ rdT;dsimp only;rw[h];dsimp only;rw[if_pos (by simp)];simp
def szS:dO -> Nat
 |none=>0
 |some r=>r.length+1
theorem iG(s:dO):szS (cA s).2 <= szS s /\ ∀b,s=some b -> szS (cA s).2<szS s:=by
 cases s with
 |none=>exact⟨aq _,nofun⟩
 |some b=>
  suffices h:szS (cA (some b)).2<szS (some b) from⟨Nat.le_of_lt h,fun _ _=>h⟩
  cases h:(cA (some b)).2 with
  |none=>simp[szS]
  |some r=>
   have:=(gl (s:=some b) (x:=(cA (some b)).1) (r:=r) (by rw[<- h])).1;have a:=congrArg List.length (Option.some.inj this);rw[aA] at a;have:=ib (cA (some b)).1.toNat;simp only[szS];omega
theorem vr(s:dO):szS (cJ s).2 <= szS s /\ (∀b,s=some b -> szS (cJ s).2<szS s) /\ (cJ s).1.length <= szS s:=by
 cases s with
 |none=>exact⟨aq _,nofun,Nat.zero_le _⟩
 |some b=>
  suffices h:szS (cJ (some b)).2<szS (some b) /\ (cJ (some b)).1.length <= szS (some b) from⟨Nat.le_of_lt h.1,fun _ _=>h.1,h.2⟩
  cases h:(cJ (some b)).2 with
  |none=>
   refine⟨by simp[szS],?_⟩
   have:(cJ (some b)).1 = []:=by
    unfold cJ at h⊢;dsimp only at h⊢;split at h
    ·cases h
    ·rfl
   rw[this];simp
  |some r=>
   have:=(mZ (s:=some b) (k:=(cJ (some b)).1) (r:=r) (by rw[<- h])).1;have a:=congrArg List.length (Option.some.inj this);unfold bD at a;rw[aA,aA] at a;have:=ib (cJ (some b)).1.length;simp only[szS];omega
def ItB(n:Nat)(x:RIt):Prop:=x.key.length <= n /\ (0 <= x.dev /\ x.dev <= 1099511627776) /\ (0 <= x.seq /\ x.seq <= 1099511627776) /\ 0 <= x.val /\ x.val <= 1099511627776
def GoB(n:Nat)(x:RGo):Prop:=x.key.length <= n /\ (0 <= x.dev /\ x.dev <= 1099511627776) /\ 0 <= x.seq /\ x.seq <= 1099511627776
theorem vt:szS (fW (some b)).2<szS (some b) /\ ItB (szS (some b)) (fW (some b)).1:=by
 have a:=vr (some b);have c:=iG (cJ (some b)).2;have d:=iG (cA (cJ (some b)).2).2;have e:=iG (cA (cA (cJ (some b)).2).2).2;have:=a.2.1 b rfl;exact⟨by unfold fW;dsimp only;omega,a.2.2,gE _,gE _,gE _⟩
theorem vu:szS (fY (some b)).2<szS (some b) /\ GoB (szS (some b)) (fY (some b)).1:=by
 have a:=vr (some b);have c:=iG (cJ (some b)).2;have d:=iG (cA (cJ (some b)).2).2;have:=a.2.1 b rfl;exact⟨by unfold fY;dsimp only;omega,a.2.2,gE _,gE _⟩
/-! a code that was read to its end is the code of what was read -/
theorem xM{s:dO}{x:RIt}(h:fW s=(x,some l)):s=some (gN x++l):=by
 unfold fW at h;obtain⟨rfl,d⟩:=Prod.mk.inj h;cases b:(cA (cA (cJ s).2).2).2 with
 |none=>rw[b] at d;cases d
 |some p=>
  cases a:(cA (cJ s).2).2 with
  |none=>rw[a] at b;cases b
  |some o=>
   cases c:(cJ s).2 with
   |none=>rw[c] at a;cases a
   |some n=>
    have e:=(mZ (s:=s) (k:=(cJ s).1) (r:=n) (by rw[<- c])).1;have f:=(gl (s:=(cJ s).2) (x:=(cA (cJ s).2).1) (r:=o) (by rw[<- a])).1;have g:=(gl (s:=(cA (cJ s).2).2) (x:=(cA (cA (cJ s).2).2).1) (r:=p) (by rw[<- b])).1;have a4:=(gl (s:=(cA (cA (cJ s).2).2).2) (x:=(cA (cA (cA (cJ s).2).2).2).1) (r:=l) (by rw[<- d])).1;have i:=Option.some.inj (c.symm.trans f);have j:=Option.some.inj (a.symm.trans g);have m:=Option.some.inj (b.symm.trans a4);refine e.trans (congrArg some ?_);unfold gN;dsimp only;simp only[aB];rw[<- b,<- a,<- c];exact congrArg (bD (cJ s).1++·) (i.trans (congrArg (cj (cA (cJ s).2).1.toNat++·) (j.trans (congrArg (cj (cA (cA (cJ s).2).2).1.toNat++·) m))))
theorem xN{s:dO}{x:RGo}(h:fY s=(x,some l)):s=some (fA x++l):=by
 unfold fY at h;obtain⟨rfl,c⟩:=Prod.mk.inj h;cases a:(cA (cJ s).2).2 with
 |none=>rw[a] at c;cases c
 |some m=>
  cases b:(cJ s).2 with
  |none=>rw[b] at a;cases a
  |some j=>
   have d:=(mZ (s:=s) (k:=(cJ s).1) (r:=j) (by rw[<- b])).1;have e:=(gl (s:=(cJ s).2) (x:=(cA (cJ s).2).1) (r:=m) (by rw[<- a])).1;have f:=(gl (s:=(cA (cJ s).2).2) (x:=(cA (cA (cJ s).2).2).1) (r:=l) (by rw[<- c])).1;have g:=Option.some.inj (b.symm.trans e);have i:=Option.some.inj (a.symm.trans f);refine d.trans (congrArg some ?_);unfold fA;dsimp only;simp only[aB];rw[<- a,<- b];exact congrArg (bD (cJ s).1++·) (g.trans (congrArg (cj (cA (cJ s).2).1.toNat++·) i))
theorem qF:∀(n:Nat)(l:List Int)(s:dO)(b:List Int)(r:List UInt8),ic n (l,s)=(b,some r) -> ∃k,b=l++k /\ k.length=n /\ s=some (k.flatMap (fun n=>cj n.toNat)++r)
 |0,l,s,b,r,h=>by
  obtain⟨rfl,rfl⟩:=Prod.mk.inj h;exact⟨[],by simp,rfl,by simp⟩
 |n+1,l,s,b,r,h=>by
  rw[ic] at h;obtain⟨k,rfl,c,d⟩:=qF n _ _ b r h;have a:=(gl (s:=s) (x:=(cA s).1) (r:=k.flatMap (fun n=>cj n.toNat)++r) (by rw[<- d])).1;exact⟨(cA s).1::k,by simp,by simp[c],a.trans (congrArg some (by simp))⟩
theorem m5{α:Type}{d:dO -> α×dO}{code:α -> List UInt8}(e:∀s x r,d s=(x,some r) -> s=some (code x++r)):∀(n:Nat)(l:List α)(s:dO)(c:List α)(r:List UInt8),fH d n (l,s)=(c,some r) -> ∃k,c=l++k /\ k.length=n /\ s=some (k.flatMap code++r)
 |0,l,s,c,r,h=>by
  obtain⟨rfl,rfl⟩:=Prod.mk.inj h;exact⟨[],by simp,rfl,by simp⟩
 |n+1,l,none,c,r,h=>by rw[js] at h;cases h
 |n+1,l,some b,c,r,h=>by
  rw[iD] at h;obtain⟨k,rfl,f,g⟩:=m5 e n _ _ c r h;have a:=e (some b) (d (some b)).1 (k.flatMap code++r) (by rw[<- g]);exact⟨(d (some b)).1::k,by simp,by simp[f],a.trans (congrArg some (by simp))⟩
theorem vv(h:(lj l).2=some []):dS (j7 l)=l:=by
 have i:fH fY (cA (jP l).2).1.toNat ([],(cA (jP l).2).2)=((lj l).1,some []):=by rw[<- h];rfl
 obtain⟨a,e,m,t⟩:=m5 (code:=fA) (fun s x r=>xN) _ _ _ _ _ i;have o:=gl (s:=(jP l).2) (x:=(cA (jP l).2).1) (r:=a.flatMap fA++[]) (by rw[<- t]);have g:fH fW (cA (o5 l).2).1.toNat ([],(cA (o5 l).2).2)=((jP l).1,some (cj (cA (jP l).2).1.toNat++(a.flatMap fA++[]))):=by rw[<- o.1];rfl
 obtain⟨j,d,k,q⟩:=m5 (code:=gN) (fun s x r=>xM) _ _ _ _ _ g;have n:=gl (s:=(o5 l).2) (x:=(cA (o5 l).2).1) (r:=_) (by rw[<- q]);have f:ic 8 ([],some l)=((o5 l).1,some (cj (cA (o5 l).2).1.toNat++(j.flatMap gN++(cj (cA (jP l).2).1.toNat++(a.flatMap fA++[]))))):=by rw[<- n.1];rfl
 obtain⟨u,c,v,p⟩:=qF _ _ _ _ _ f;simp only[List.nil_append] at c d e;unfold dS j7;dsimp only;rw[c,d,e,k,m];have:=Option.some.inj p;simp only[List.append_nil] at this;exact this.symm
/-! the code of a valid map is read -/
theorem vw:∀(k l:List Int)(r:List UInt8),(∀n∈k,0 <= n /\ n <= 1099511627776) -> ic k.length (l,some (k.flatMap (fun n=>cj n.toNat)++r))=(l++k,some r)
 |[],l,r,_=>by simp[ic]
 |x::k,l,r,h=>by
  have a:=h x List.mem_cons_self;rw[aD,ic];dsimp only;rw[List.flatMap_cons,aB,jS x _ a.1 a.2];dsimp only;rw[vw k _ r fun y b=>h y (List.mem_cons_of_mem _ b)];simp
theorem qG{α:Type}{c:dO -> α×dO}{a:α -> List UInt8}{P:α -> Prop}(b:∀x r,P x -> c (some (a x++r))=(x,some r)):∀(k l:List α)(r:List UInt8),(∀x∈k,P x) -> fH c k.length (l,some (k.flatMap a++r))=(l++k,some r)
 |[],l,r,_=>by simp[fH]
 |x::k,l,r,h=>by
  rw[aD,iD,List.flatMap_cons,aB,b x _ (h x List.mem_cons_self)];dsimp only;rw[qG b k _ r fun y d=>h y (List.mem_cons_of_mem _ d)];simp
def itG(x:RIt):Prop:=x.key.length<18446744073709551616 /\ (0 <= x.dev /\ x.dev <= 1099511627776) /\ (0 <= x.seq /\ x.seq <= 1099511627776) /\ 0 <= x.val /\ x.val <= 1099511627776
def goG(x:RGo):Prop:=x.key.length<18446744073709551616 /\ (0 <= x.dev /\ x.dev <= 1099511627776) /\ 0 <= x.seq /\ x.seq <= 1099511627776
theorem Bd(x:RIt)(r:List UInt8)(h:itG x):fW (some (gN x++r))=(x,some r):=by
 obtain⟨d,a,b,c⟩:=h;unfold fW gN;simp only[aB];rw[vq _ _ d];dsimp only;rw[jS _ _ a.1 a.2];dsimp only;rw[jS _ _ b.1 b.2];dsimp only;rw[jS _ _ c.1 c.2]
theorem Be(x:RGo)(r:List UInt8)(h:goG x):fY (some (fA x++r))=(x,some r):=by
 obtain⟨c,a,b⟩:=h;unfold fY fA;simp only[aB];rw[vq _ _ c];dsimp only;rw[jS _ _ a.1 a.2];dsimp only;rw[jS _ _ b.1 b.2]
theorem DY(h:bp r=true):j7 (dS r)=r /\ (lj (dS r)).2=some []:=by
 obtain⟨g,i,j⟩:=qE h;obtain⟨f,k,l,-⟩:=dr h
 have b:o5 (dS r)=(r.seen,some (cj r.items.length++(r.items.flatMap gN++(cj r.gone.length++r.gone.flatMap fA)))):=by
  unfold o5 dS;rw[<- f,vw _ _ _ g];simp
 have c:jP (dS r)=(r.items,some (cj r.gone.length++r.gone.flatMap fA)):=by
  unfold jP;rw[b];dsimp only;have:=jS (r.items.length:Int) (r.items.flatMap gN++(cj r.gone.length++r.gone.flatMap fA)) (by omega) (by omega);rw[Int.toNat_natCast] at this;rw[this];dsimp only;rw[Int.toNat_natCast,qG (P:=itG) Bd _ _ _ fun x a=>by have:=i x a;unfold itG;omega];simp
 have d:lj (dS r)=(r.gone,some []):=by
  unfold lj;rw[c];dsimp only;have:=jS (r.gone.length:Int) (r.gone.flatMap fA) (by omega) (by omega);rw[Int.toNat_natCast] at this;rw[this];dsimp only;have e:=qG (P:=goG) Be r.gone [] [] fun x a=>by have:=j x a;unfold goG;omega
  rw[List.append_nil] at e;rw[Int.toNat_natCast,e];simp
 exact⟨by unfold j7;rw[b,c,d],by rw[d]⟩
theorem CX(h:bp r=true):fi (dS r)=(r,0):=by
 obtain⟨a,b⟩:=DY h;unfold fi;rw[a,b,if_pos ⟨rfl,h⟩]
theorem CY(h:(fi l).2=0):bp (fi l).1=true /\ dS (fi l).1=l:=by
 unfold fi at h⊢;split
 ·rename_i hh;exact⟨hh.2,vv hh.1⟩
 ·rename_i hh;rw[if_neg hh] at h;cases h
theorem CZ:(fi b).2=0 \/ fi b=(.empty,5):=by
 unfold fi;split
 ·exact .inl rfl
 ·exact .inr rfl
def lk:List UInt8 -> Nat
 |[]=>0
 |c::t=>c.toNat%128+128*lk t
theorem pJ:∀(a b:List UInt8),lk (a++b)=lk a+128 ^ a.length*lk b
 |[],b=>by simp[lk]
 |c::t,b=>by
  show c.toNat%128+128*lk (t++b)=c.toNat%128+128*lk t+128 ^ (t.length+1)*lk b;rw[pJ t b,Nat.pow_succ,Nat.mul_add,<- Nat.mul_assoc,Nat.mul_comm 128 (128 ^ t.length)];omega
theorem zS(i:Nat)(h:i<b.length):lk (b.take (i+1))=lk (b.take i)+128 ^ i*(b[i].toNat%128):=by
 rw[List.take_succ_eq_append_getElem h,pJ];have a:(b.take i).length=i:=by simp;omega
 rw[a];simp[lk]
theorem sU(h:n<18446744073709551616):lk (cj n)=n /\ (∀i (hi:i<(cj n).length),(cj n)[i].toNat<128↔i+1=(cj n).length):=by
 induction n using Nat.strongRecOn with
 |_ n b=>
  by_cases a:n<128
  ·rw[mU n a];refine⟨?_,fun i hi=>?_⟩
   ·simp only[lk];rw[dY n (by omega)];omega
   ·have:i=0:=by simp at hi;omega
    subst this;simp only[List.getElem_cons_zero];rw[dY n (by omega)];simp;exact a
  ·rw[kH n a h];obtain⟨c,d⟩:=b (n/128) (by omega) (by omega);refine⟨?_,fun i hi=>?_⟩
   ·simp only[lk];rw[dY _ (by omega),c];omega
   ·cases i with
    |zero=>
     simp only[List.getElem_cons_zero,aD];rw[dY _ (by omega)];have:=ib (n/128);omega
    |succ i=>
     simp only[List.getElem_cons_succ,aD];have:=d i (by simpa using hi);omega
theorem zn(h:∀i (hi:i<l.length),i<10 -> ¬l[i].toNat<128):rdF l 9=none:=by
 cases c:rdF l 9 with
 |none=>rfl
 |some p=>
  obtain⟨n,r⟩:=p;obtain⟨b,a⟩:=gA.1 c;have d:=cF n;have f:=ib n;have hi:(cj n).length-1<l.length:=by rw[a,aA];omega
  have:=((sU n b).2 ((cj n).length-1) (by omega)).2 (by omega);refine absurd ?_ (h _ hi (by omega))
  have e:l[(cj n).length-1]=(cj n)[(cj n).length-1]'(by omega):=by
   simp only[a];rw[List.getElem_append_left (by omega)]
  rw[e];exact this
theorem Eu(u:i<l.length)(t:i<10)(g:∀j (a:j<l.length),j<i -> ¬l[j].toNat<128)(k:l[i].toNat<128):
 rdF l 9=if l.take (i+1)=cj (lk (l.take (i+1))%18446744073709551616) then some (lk (l.take (i+1))%18446744073709551616,l.drop (i+1)) else none:=by
 split
 ·rename_i h;exact gA.2 ⟨Nat.mod_lt _ (by omega),by rw[<- h];simp⟩
 ·rename_i h;cases o:rdF l 9 with
  |none=>rfl
  |some p=>
   obtain⟨n,r⟩:=p;obtain⟨c,b⟩:=gA.1 o;obtain⟨s,e⟩:=sU n c;have w:=ib n;have v:l.length=(cj n).length+r.length:=by rw[b,aA]
   have f:∀j (a:j<(cj n).length),(cj n)[j]=l[j]'(by omega):=fun j a=>by
    simp only[b];rw[List.getElem_append_left a]
   have m:i+1=(cj n).length:=by
    by_cases d:i<(cj n).length
    ·have:=(e i d).1 (by rw[f i d];exact k);exact this
    ·have a:(cj n).length-1<l.length:=by omega
     refine absurd ?_ (g ((cj n).length-1) a (by omega));have:=(e ((cj n).length-1) (by omega)).2 (by omega);rw[f _ (by omega)] at this;exact this
   have q:l.take (i+1)=cj n:=by rw[b,m];simp
   rw[q,s,Nat.mod_eq_of_lt c] at h;exact absurd rfl h
theorem aH{α:Sort _}(a:α):∃x,a=x:=⟨_,rfl⟩
theorem aQ{α:Sort _}(a:α):∃x,x=a:=⟨_,rfl⟩
theorem fM{k:IntKind}{a b:Int}(h:a=b):Ending.returned (.int k a)=.returned (.int k b):=by rw[h]
theorem iM{a b:Bool}(h:a=b):Ending.returned (.bool a)=.returned (.bool b):=by rw[h]
def ep(w:World)(b:Nat)(v:Value)(t:TypeId):Prop:=w.heap[b]?=some (.cells #[v] t (0,0))
theorem ep.cell{w:World}{b:Nat}{v:Value}{t:TypeId}(h:ep w b v t):w.cell? ⟨b,0,none⟩=some v:=cell_of_one h
theorem ep.free(h:ep W i u t):W.frozen? ⟨i,0,none⟩=false:=free_of_one h
theorem ep.lt(h:ep W i u t):i<W.heap.size:=lt_of_block h
theorem ep.set{v u:Value}(h:ep W i v t):ep (W.setCell ⟨i,0,none⟩ u) i u t:=one_setCell h
theorem ep.other(h:ep W i u t){a:Addr}(d:Value)(c:i≠a.block):ep (W.setCell a d) i u t:=by
 unfold ep;rw[Below.heap_setCell _ _ _ _ c];exact h
theorem ep.alloc{w:World}{b:Nat}{v:Value}{t:TypeId}(h:ep w b v t)(o:Obj):ep (w.alloc o) b v t:=by
 unfold ep;rw[Below.heap_alloc _ _ _ h.lt];exact h
theorem ep.new(t:TypeId):ep (w.alloc (.cells #[v] t)) w.heap.size v t:=by
 unfold ep World.alloc;simp
theorem ep.below{B:Nat}(h:ep W i u t)(a:Below B W w')(c:i<B):ep w' i u t:=by
 unfold ep;rw[a.block i c];exact h
theorem cQ{a b c:World}(h:Below a.heap.size a b)(k:Below b.heap.size b c):Below a.heap.size a c:=h.trans (k.mono h.size)
theorem aI(o:Obj):Below w.heap.size w (w.alloc o):=(Below.refl _ _).alloc (aq _) o
theorem cM(h:Below i W w')(n:Nat):Below i W (w'.drewN n):=by
 exact⟨h.os,h.tape,h.output,h.size,h.block⟩
section
abbrev aX:=Nat -> Prop
structure aT(F:aX)(w w':World):Prop where
 os:w'.os=w.os
 tape:w'.tape=w.tape
 output:w'.output=w.output
 size:w.heap.size <= w'.heap.size
 block:∀k,k<w.heap.size -> ¬F k -> w'.heap[k]?=w.heap[k]?
theorem aT.refl(F:aX)(w:World):aT F w w:=⟨rfl,rfl,rfl,aq _,fun _ _ _=>rfl⟩
theorem aT.trans{F G:aX}{a b c:World}(h:aT F a b)(k:aT G b c)(e:∀i,G i -> F i \/ a.heap.size <= i):aT F a c:=
 ⟨k.os.trans h.os,k.tape.trans h.tape,k.output.trans h.output,au h.size k.size,fun i hi d=>
  (k.block i (aw hi h.size) (fun f=>(e i f).elim d (fun g=>absurd hi (Nat.not_lt.2 g)))).trans (h.block i hi d)⟩
theorem aT.mono{F G:aX}(h:aT F W w')(d:∀i,F i -> G i):aT G W w':=
 ⟨h.os,h.tape,h.output,h.size,fun i hi c=>h.block i hi (fun e=>c (d i e))⟩
theorem aT.of_below{F:aX}{w a:World}(h:Below w.heap.size w a):aT F w a:=⟨h.os,h.tape,h.output,h.size,fun i hi _=>h.block i hi⟩
theorem aT.below{F:aX}{B:Nat}(h:aT F W w')(hF:∀i,F i -> B <= i)(b:B <= W.heap.size):Below B W w':=
 ⟨h.os,h.tape,h.output,h.size,fun i hi=>h.block i (by omega) (fun a=>by have:=hF i a;omega)⟩
abbrev none_:aX:=fun _=>False
theorem aT.kept(h:aT none_ W w'):Below W.heap.size W w':=h.below (fun _ a=>a.elim) (aq _)
theorem aT.drewN{F:aX}{a w:World}(h:aT F a w)(n:Nat):aT F a (w.drewN n):=⟨h.os,h.tape,h.output,h.size,h.block⟩
theorem aT.drew{F:aX}{a w:World}(h:aT F a w):aT F a w.drew:=⟨h.os,h.tape,h.output,h.size,h.block⟩
theorem aT.alloc{F:aX}{a w:World}(h:aT F a w)(o:Obj):aT F a (w.alloc o):=
 ⟨h.os,h.tape,h.output,au h.size (by simp),fun i hi b=>(Below.heap_alloc w o i (aw hi h.size)).trans (h.block i hi b)⟩
theorem aT.setCell{F:aX}{a w:World}(h:aT F a w){p:Addr}(b:F p.block \/ a.heap.size <= p.block)(u:Value):aT F a (w.setCell p u):=
 ⟨h.os,h.tape,h.output,by simpa[World.setCell] using h.size,fun i hi c=>(Below.heap_setCell w p u i (by
  rintro rfl;rcases b with b|b
  ·exact c b
  ·omega)).trans (h.block i hi c)⟩
theorem aT.setRow{F:aX}{a w:World}(h:aT F a w){g:Nat}(b:F g \/ a.heap.size <= g)(c:Array Value):aT F a (w.setRow g c):=
 ⟨h.os,h.tape,h.output,by simpa[World.setRow] using h.size,fun i hi d=>(setRow_other w g i c (by
  rintro rfl;rcases b with b|b
  ·exact d b
  ·omega)).trans (h.block i hi d)⟩
def Blk(w:World)(b:Nat)(L:List Value)(t:TypeId):Prop:=w.heap[b]?=some (.cells L.toArray t (0,0))
theorem Blk.lt(h:Blk W i L t):i<W.heap.size:=lt_of_block h
theorem Blk.cell{w:World}{b:Nat}{L:List Value}{t:TypeId}(h:Blk w b L t)(i:Nat):w.cell? ⟨b,i,none⟩=L[i]?:=by
 rw[cell_of_row w b i _ t (0,0) h];simp
theorem Blk.free(h:Blk W i L t)(a:Nat):W.frozen? ⟨i,a,none⟩=false:=frozen_of_row W i a _ t h
theorem Blk.keep{w w':World}(h:Blk w i L t)(a:w'.heap[i]?=w.heap[i]?):Blk w' i L t:=a.trans h
theorem Blk.only{F:aX}(h:Blk W i L t)(c:aT F W w')(a:¬F i):Blk w' i L t:=h.keep (c.block i h.lt a)
theorem Blk.alloc{w:World}{b:Nat}{L:List Value}{t:TypeId}(h:Blk w b L t)(o:Obj):Blk (w.alloc o) b L t:=h.keep (Below.heap_alloc w o b h.lt)
theorem Blk.new(a:Array Value)(t:TypeId):Blk (w.alloc (.cells a t)) w.heap.size a.toList t:=by
 unfold Blk World.alloc;simp
theorem Blk.set{w:World}{b:Nat}{L:List Value}{t:TypeId}(h:Blk w b L t)(i:Nat)(u:Value):Blk (w.setCell ⟨b,i,none⟩ u) b (L.set i u) t:=by
 unfold Blk;rw[heap_setCell_same w b i _ t u h];simp
theorem Blk.set_other(h:Blk W i L t){a:Addr}(u:Value)(c:i≠a.block):Blk (W.setCell a u) i L t:=
 h.keep (Below.heap_setCell _ _ _ _ c)
theorem Blk.row(h:Blk W i L t)(M:List Value):Blk (W.setRow i M.toArray) i M t:=setRow_heap W i _ _ t _ h
theorem Blk.row_other(h:Blk W i L t)(a:Array Value)(c:i≠j):Blk (W.setRow j a) i L t:=
 h.keep (setRow_other W j i a c)
theorem Blk.inj{L M:List Value}{t u:TypeId}(h:Blk W i L t)(k:Blk W i M u):L=M /\ t=u:=by
 unfold Blk at h k;rw[h] at k;simp at k;exact k
theorem Blk.ne{L M:List Value}{t u:TypeId}(h:Blk W i L t)(k:Blk W j M u)(a:t≠u):i≠j:=by
 rintro rfl;exact a (h.inj k).2
theorem Blk.drewN{w:World}{b:Nat}{L:List Value}{t:TypeId}(h:Blk w b L t)(n:Nat):Blk (w.drewN n) b L t:=h
theorem Blk.drew{w:World}{b:Nat}{L:List Value}{t:TypeId}(h:Blk w b L t):Blk w.drew b L t:=h
def B(b:UInt8):Value:=.int .u8 (b.toNat:Int)
def LV(t:TypeId)(a:Addr):Sem Value:=loadVar t a
def SV(t:TypeId)(a:Addr)(v:Value):Sem Unit:=storeVar t a v
def AP(b:Array TypeId)(t:TypeId)(a:Array Value):Sem Value:=Builtin.append_ b t a
theorem aV(b:Array TypeId)(t:TypeId)(a:Array Value):Builtin.append_ b t a=AP b t a:=rfl
def MK(t:TypeId)(l c:Value):Sem Value:=Instr.makeSlice t l c
theorem sV(t:TypeId)(l c:Value):Instr.makeSlice t l c=MK t l c:=rfl
section
variable {P:Program}
theorem Bf{w:World}{d:TypeDesc}(q:P.underlying t=some d)(r:(match d with|.struct _|.array _ _=>true|_=>false)=true)
 (f:(P.info? t).map (·.size)=some o) {b off:Nat} {h:TypeId} {e:Nat×Nat} (l:w.heap[b]?=some (.cells L.toArray h e)) (s:off+o <= L.length):
 (LV t ⟨b,off,none⟩).run P w=.ok (.agg ((L.drop off).take o).toArray) w:=by
 have m:((L.drop off).take o).length=o:=by simp;omega
 have g:=run_loadCells_list (P:=P) w ⟨b,off,none⟩ ((L.drop off).take o) (fun j v a=>by
  rw[Addr.add_lit,cell_of_row w b (off+j) _ h e l];rw[List.getElem?_take] at a;split at a
  ·simpa using a
  ·cases a)
 rw[m] at g;cases c:P.info? t with
 |none=>simp[c] at f
 |some i=>
  have p:i.size=o:=by simpa[c] using f
  have k:(isAgg t).run P w=.ok true w:=by
   unfold isAgg;rw[Sem.run_bind,run_underlying q w];cases d<;>simp_all
  simp[LV,loadVar,Sem.run_bind,k,sizeOf,typeInfo,c,p,g]
theorem xO{w:World}(c:(P.info? t).map (·.size)=some j)
 {b off:Nat} {L V:List Value} {e:TypeId} (h:Blk w b L e) (g:V.length=j) (k:off+j <= L.length) (f:∀v∈V,v.oneCell'=true):
 (SV t ⟨b,off,none⟩ (.agg V.toArray)).run P w=.ok () (w.setRow b (L.take off++V++L.drop (off+j)).toArray):=by
 subst g;have d:=run_storeCells_at P b off e V 0 L.toArray w h (by simpa using k) f;simp only[Nat.add_zero] at d;cases a:P.info? t with
 |none=>simp[a] at c
 |some i=>
  have l:i.size=V.length:=by simpa[a] using c
  simp[SV,storeVar,sizeOf,typeInfo,a,l,Value.cells,d]
end
theorem jg(l:List UInt8):∀v∈l.map B,v.oneCell'=true:=by
 intro v a;obtain⟨b,_,rfl⟩:=List.mem_map.1 a;rfl
def aO(F:aX)(w:World)(v:Value)(l:List UInt8):Prop:=
 ∃a c,v=.slice a l.length c /\ l.length <= c /\ c <= maxLen /\ (a=none -> c=0) /\
  (l = [] \/ ∃b d L t e,a=some ⟨b,d,none⟩ /\ F b /\ w.heap[b]?=some (.cells L t e) /\ d+l.length <= L.size /\ ∀i (h:i<l.length),L[d+i]?=some (B l[i]))
theorem aO.keep{F:aX}{w w':World}(h:aO F w u l)(g:∀b,F b -> b<w.heap.size -> w'.heap[b]?=w.heap[b]?):aO F w' u l:=by
 obtain⟨a,d,rfl,f,j,m,h⟩:=h;refine⟨a,d,rfl,f,j,m,?_⟩;rcases h with h|⟨b,n,L,t,e,rfl,hF,c,i,k⟩
 ·exact .inl h
 ·exact .inr ⟨b,n,L,t,e,rfl,hF,(g b hF (lt_of_block c)).trans c,i,k⟩
theorem aO.only{F G:aX}{v:Value}(h:aO F W v l)(e:aT G W w')(c:∀b,F b -> ¬G b):aO F w' v l:=
 h.keep fun b a d=>e.block b d (c b a)
theorem aO.mono{F G:aX}(h:aO F W u l)(g:∀b,F b -> G b):aO G W u l:=by
 obtain⟨a,c,rfl,f,j,m,h⟩:=h;refine⟨a,c,rfl,f,j,m,?_⟩;rcases h with h|⟨b,n,L,t,d,rfl,hF,e,i,k⟩
 ·exact .inl h
 ·exact .inr ⟨b,n,L,t,d,rfl,g b hF,e,i,k⟩
theorem aO.cells{F:aX}{w:World}{a:Option Addr}{n d:Nat}(h:aO F w (.slice a n d) l):n=l.length /\ l.length <= d /\ d <= maxLen /\
 (l = [] \/ ∃b c,a=some ⟨b,c,none⟩ /\ F b /\ b<w.heap.size /\ ∀i (h:i<l.length),w.cell? ⟨b,c+i,none⟩=some (B l[i])):=by
 obtain⟨o,p,f,j,k,r,h⟩:=h;simp at f;obtain⟨rfl,rfl,rfl⟩:=f;refine⟨rfl,j,k,?_⟩;rcases h with h|⟨b,c,L,t,g,rfl,hF,e,q,m⟩
 ·exact .inl h
 ·refine .inr ⟨b,c,rfl,hF,lt_of_block e,fun i hi=>?_⟩;rw[cell_of_row w b (c+i) L t g e];exact m i hi
theorem aO.of_owns(h:W.ownsRow j t 1 u l.length (l.map B))(F:aX)(hF:∀k,j <= k -> k<W.heap.size -> F k):aO F W u l:=by
 obtain⟨q,a⟩:=h;rcases a with⟨rfl,a⟩|⟨g,d,b,rfl,f,c,m,o,r,p⟩
 ·have n:=List.length_eq_zero_iff.1 a;exact⟨none,0,by rw[a],by omega,by unfold maxLen;omega,fun _=>rfl,.inl n⟩
 ·refine⟨_,d,rfl,m,o,nofun,.inr ⟨g,0,b,t,(0,0),rfl,hF g f (lt_of_block c),c,by omega,fun i hi=>?_⟩⟩;have:(b.toList.take (l.length*1))[i]?=(l.map B)[i]?:=by rw[p]
  rw[List.getElem?_take,if_pos (by omega)] at this;simpa[List.getElem?_eq_getElem hi] using this
end
section
def Rows(F:aX)(w:World)(k:Nat)(v:Value)(n:Nat)(X:List Value):Prop:=
 ∃a c,v=.slice a n c /\ n <= c /\ c <= maxLen /\ (a=none -> c=0) /\ X.length=n*k /\
  (n=0 \/ ∃b d L t e,a=some ⟨b,d,none⟩ /\ F b /\ w.heap[b]?=some (.cells L t e) /\ d+n*k <= L.size /\ ∀i,i<n*k -> L[d+i]?=X[i]?)
theorem Rows.keep{F:aX}{w w':World}{k n:Nat}{X:List Value}(h:Rows F w k u n X)(i:∀b,F b -> b<w.heap.size -> w'.heap[b]?=w.heap[b]?):Rows F w' k u n X:=by
 obtain⟨a,d,rfl,g,l,o,f,h⟩:=h;refine⟨a,d,rfl,g,l,o,f,?_⟩;rcases h with h|⟨b,p,L,t,e,rfl,hF,c,j,m⟩
 ·exact .inl h
 ·exact .inr ⟨b,p,L,t,e,rfl,hF,(i b hF (lt_of_block c)).trans c,j,m⟩
theorem Rows.mono{F G:aX}{k n:Nat}{X:List Value}(h:Rows F W k u n X)(i:∀b,F b -> b<W.heap.size -> G b):Rows G W k u n X:=by
 obtain⟨a,d,rfl,g,l,o,f,h⟩:=h;refine⟨a,d,rfl,g,l,o,f,?_⟩;rcases h with h|⟨b,p,L,t,e,rfl,hF,c,j,m⟩
 ·exact .inl h
 ·exact .inr ⟨b,p,L,t,e,rfl,i b hF (lt_of_block c),c,j,m⟩
theorem Rows.below{B:Nat}{k n:Nat}(h:Rows (fun b=>b<B) W k u n L)(c:Below B W w'):Rows (fun b=>b<B) w' k u n L:=h.keep fun b a _=>c.block b a
theorem Rows.drew{F:aX}{w:World}{k n:Nat}{v:Value}{X:List Value}(h:Rows F w k v n X):Rows F w.drew k v n X:=h
theorem Rows.nil(F:aX)(w:World)(k:Nat):Rows F w k (.slice none 0 0) 0 []:=⟨none,0,rfl,aq _,by unfold maxLen;omega,fun _=>rfl,by simp,.inl rfl⟩
theorem Rows.cells{F:aX}{w:World}{k n m:Nat}{a:Option Addr}{X:List Value}(h:Rows F w k (.slice a m j) n X)(x:0<n):
 ∃b c,a=some ⟨b,c,none⟩ /\ F b /\ b<w.heap.size /\ ∀i u,X[i]?=some u -> w.cell? ⟨b,c+i,none⟩=some u:=by
 obtain⟨p,q,f,r,v,y,l,h⟩:=h;simp at f;obtain⟨rfl,rfl,rfl⟩:=f;rcases h with h|⟨b,c,L,t,g,rfl,hF,d,s,o⟩
 ·omega
 ·refine⟨b,c,rfl,hF,lt_of_block d,fun i u e=>?_⟩;have hi:i<m*k:=by rw[<- l];exact(List.getElem?_eq_some_iff.1 e).1
  rw[cell_of_row w b (c+i) L t g d,o i hi,e]
theorem Rows.shape{F:aX}{k n:Nat}(h:Rows F W k u n L):∃a b,u=.slice a n b /\ n <= b /\ b <= maxLen /\ (a=none -> b=0):=by
 obtain⟨a,b,rfl,c,d,e,_⟩:=h;exact⟨a,b,rfl,c,d,e⟩
theorem Rows.len{F:aX}{k n:Nat}(h:Rows F W k u n L):n <= maxLen:=by
 obtain⟨a,b,rfl,c,d,_⟩:=h;omega
theorem Rows.of_owns{k n:Nat}(h:W.ownsRow j t k u n L):Rows (fun b=>j <= b /\ b<W.heap.size) W k u n L:=by
 obtain⟨f,a⟩:=h;rcases a with⟨rfl,a⟩|⟨g,c,d,rfl,o,m,l,p,r,q⟩
 ·subst a;exact⟨none,0,rfl,by omega,by unfold maxLen;omega,fun _=>rfl,f,.inl rfl⟩
 ·refine⟨_,c,rfl,l,p,nofun,f,.inr ⟨g,0,d,t,(0,0),rfl,⟨o,lt_of_block m⟩,m,?_,fun i hi=>?_⟩⟩
  ·have:n*k <= c*k:=Nat.mul_le_mul_right k l;omega
  ·have:(d.toList.take (n*k))[i]?=L[i]?:=by rw[q]
   rw[List.getElem?_take,if_pos hi] at this;simpa using this
theorem ek{P:Program}(c e:TypeId){d:TypeInfo}{z:Value}{k h:Nat}(C:P.underlying c=some (.slice e))(y:P.info? e=some d)(R:d.zero=some z)(Q:d.size=k)(K:d.bytes=h)(S:z.cells.size=k)(N:0<k)
 (v:Value) (f:Nat) (q:List Value) (l:w.ownsRow n e k v f q) (F:aX) (x:Value) (m:Nat) (X:List Value) (p:Rows F w k x m X) (i:∀u∈X,u.oneCell'=true)
 (O:f+m <= maxLen) (I:(f+m)*h <= 140737488355328) (J:n <= w.heap.size):
 ∃g w',(AP #[c,c] c #[v,x]).run P w=.ok g w' /\ w'.ownsRow n e k g (f+m) (q++X) /\ w.grownBy w' v.ownBlock:=by
 obtain⟨a,E,rfl,Z,hm,T,r,p⟩:=p;cases a with
 |none=>
  obtain rfl:=T rfl;obtain rfl:m=0:=by omega
  obtain rfl:X = []:=List.length_eq_zero_iff.1 (by omega);exact⟨v,w,run_append_owned_none w n c c e d k C y v _ _ l,by simpa using l,World.grownBy.refl _ _⟩
 |some D=>
  obtain⟨g,w',o,i,H,V⟩:=run_append_own (P:=P) w n c c e d z k h C y R Q K S N v f q l D m E X r
   (fun j u A=>by
    have B:j<m*k:=by rw[<- r];exact(List.getElem?_eq_some_iff.1 A).1
    rcases p with rfl|⟨b,U,L,t,G,s,hF,M,Y,o⟩
    ·simp at B
    ·simp at s;subst s
     rw[Addr.add_lit,cell_of_row w b (U+j) L t G M,o j B,A])
   i O I J
  exact⟨g,w',o,i,H⟩
theorem cu{P:Program}(d a:TypeId){e:TypeInfo}{z:Value}{k h:Nat}(y:P.underlying d=some (.slice a))(j:P.info? a=some e)(A:e.zero=some z)(x:e.size=k)(p:e.bytes=h)(B:z.cells.size=k)(r:0<k)
 (v:Value) (c:Nat) (g:List Value) (t:w.ownsRow n a k v c g) (b:Array Value) (q:b.size=k) (m:∀u∈b.toList,u.oneCell'=true)
 (s:c+1 <= maxLen) (o:(c+1)*h <= 140737488355328) (C:n <= w.heap.size):
 ∃l f,(AP #[d,d] d #[v,.slice (some ⟨w.heap.size,0,none⟩) 1 1]).run P (w.alloc (.cells b a))=.ok l f /\ f.ownsRow n a k l (c+1) (g++b.toList) /\ (w.alloc (.cells b a)).grownBy f v.ownBlock:=by
 refine ek (w.alloc (.cells b a)) n d a y j A x p B r v c g (t.alloc _) (fun _=>True) (.slice (some ⟨w.heap.size,0,none⟩) 1 1) 1 b.toList ?_ m s o (by simp;omega);refine⟨_,1,rfl,aq _,by unfold maxLen;omega,nofun,by simp[q],.inr ⟨w.heap.size,0,b,a,(0,0),rfl,trivial,by unfold World.alloc;simp,by omega,fun i j=>by simp⟩⟩
theorem gT{k n:Nat}(h:W.ownsRow i t k u n L)(a:u.ownBlock=some j):∃c,W.heap[j]?=some (.cells c t (0,0)):=by
 rcases h.2 with⟨rfl,_⟩|⟨g,f,l,rfl,_,d,_⟩
 ·simp[Value.ownBlock] at a
 ·have:g=j:=by simpa[Value.ownBlock] using a
  subst this;exact⟨_,d⟩
theorem Blk.grownNe{e t:TypeId}{k n b:Nat}{l L:List Value}(h:Blk W b L t)(g:W.ownsRow i e k u n l)(f:e≠t)(d:W.grownBy w' u.ownBlock):Blk w' b L t:=by
 refine h.keep (d.block b h.lt fun c=>?_);obtain⟨m,a⟩:=gT g c.symm;unfold Blk at h;rw[h] at a;injection a with a
 injection a with _ j
 exact f j.symm
theorem bY{e c:TypeId}{k f n g:Nat}{v d:Value}{u l:List Value}(h:W.ownsRow j c f d g l)(s:W.ownsRow i e k v n u)(r:e≠c)(q:W.grownBy w' v.ownBlock):w'.ownsRow j c f d g l:=by
 refine h.kept q ?_;cases o:d.ownBlock with
 |none=>exact .inl rfl
 |some b=>
  refine .inr fun p=>?_
  obtain⟨x,m⟩:=gT h o;obtain⟨y,a⟩:=gT s p.symm;rw[m] at a;injection a with a
  injection a with _ t
  exact r t.symm
theorem aL{e t:TypeId}{k n:Nat}{l L:List Value}(h:W.ownsRow j e k u n l)(c:Blk W o L t)(m:e≠t)(f:Value):(W.setCell ⟨o,i,none⟩ f).ownsRow j e k u n l:=by
 refine h.kept (row:=some o) ⟨rfl,rfl,rfl,by simp[World.setCell],fun q y r=>Below.heap_setCell W ⟨o,i,none⟩ f q (fun e=>r (by rw[e]))⟩ ?_;cases p:u.ownBlock with
 |none=>exact .inl rfl
 |some g=>
  refine .inr fun d=>?_
  simp at d;subst d;obtain⟨x,a⟩:=gT h p;unfold Blk at c;rw[c] at a;injection a with a
  injection a with _ s
  exact m s.symm
theorem Below.grownOwn{k n:Nat}(c:W.ownsRow j t k u n L)(b:W.grownBy w' u.ownBlock)(a:i <= W.heap.size)(f:i <= j):Below i W w':=
 (Below.refl i W).grown b a fun q d=>by have:=(c.lt q d).1;omega
theorem bm{k n:Nat}(h:W.ownsRow i t k u n L)(a:Below W.heap.size W w'):w'.ownsRow i t k u n L:=
 h.kept (row:=none) ⟨a.os,a.tape,a.output,a.size,fun q b _=>a.block q b⟩ (by cases u.ownBlock<;>simp)
/-! lists of values -/
abbrev eI(n:Int):Value:=.int .i64 n
def bU(x:RIt):List Value:=[Go.Proofs.encStr x.key,eI x.dev,eI x.seq,eI x.val]
def dC(x:RGo):List Value:=[Go.Proofs.encStr x.key,eI x.dev,eI x.seq]
section
variable {α:Type} (enc:α -> List Value) (k:Nat)
theorem dQ(a:∀x,(enc x).length=k)(l:List α):(l.flatMap enc).length=l.length*k:=by
 induction l with
 |nil=>simp
 |cons x l b=>rw[List.flatMap_cons,aA,a,b,aD,Nat.succ_mul];omega
theorem fZ(a:∀x,(enc x).length=k):∀(l:List α)(i j:Nat)(h:i<l.length),j<k -> (l.flatMap enc)[i*k+j]?=(enc l[i])[j]?
 |[],i,j,h,_=>by simp at h
 |x::l,0,j,_,b=>by
  rw[List.flatMap_cons,List.getElem?_append_left (by rw[a];omega)];simp
 |x::l,i+1,j,h,b=>by
  rw[List.flatMap_cons,List.getElem?_append_right (by rw[a,Nat.succ_mul];omega),a,Nat.succ_mul,show i*k+k+j-k=i*k+j from by omega];simpa using fZ a l i j (by simpa using h) b
end
theorem cX(x:RIt):(bU x).length=4:=rfl
theorem iE(x:RGo):(dC x).length=3:=rfl
theorem fB{F:aX}{a:Option Addr}{l:List RIt}(h:Rows F W 4 (.slice a j o) l.length (l.flatMap bU))(e:0<l.length):
 ∃b c,a=some ⟨b,c,none⟩ /\ F b /\ b<W.heap.size /\ ∀i (hi:i<l.length),W.cell? ⟨b,c+i*4,none⟩=some (.string ⟨l[i].key.toArray⟩) /\ W.cell? ⟨b,c+i*4+1,none⟩=some (.int .i64 l[i].dev) /\ W.cell? ⟨b,c+i*4+2,none⟩=some (.int .i64 l[i].seq) /\ W.cell? ⟨b,c+i*4+3,none⟩=some (.int .i64 l[i].val):=by
 obtain⟨b,c,rfl,hF,f,d⟩:=h.cells e;refine⟨b,c,rfl,hF,f,fun i hi=>⟨?_,?_,?_,?_⟩⟩
 ·exact d (i*4) _ (fZ bU 4 cX l i 0 hi (by omega))
 ·exact d (i*4+1) _ (fZ bU 4 cX l i 1 hi (by omega))
 ·exact d (i*4+2) _ (fZ bU 4 cX l i 2 hi (by omega))
 ·exact d (i*4+3) _ (fZ bU 4 cX l i 3 hi (by omega))
theorem gn{F:aX}{a:Option Addr}{l:List RGo}(h:Rows F W 3 (.slice a j o) l.length (l.flatMap dC))(e:0<l.length):
 ∃b c,a=some ⟨b,c,none⟩ /\ F b /\ b<W.heap.size /\ ∀i (hi:i<l.length),W.cell? ⟨b,c+i*3,none⟩=some (.string ⟨l[i].key.toArray⟩) /\ W.cell? ⟨b,c+i*3+1,none⟩=some (.int .i64 l[i].dev) /\ W.cell? ⟨b,c+i*3+2,none⟩=some (.int .i64 l[i].seq):=by
 obtain⟨b,c,rfl,hF,f,d⟩:=h.cells e;refine⟨b,c,rfl,hF,f,fun i hi=>⟨?_,?_,?_⟩⟩
 ·exact d (i*3) _ (fZ dC 3 iE l i 0 hi (by omega))
 ·exact d (i*3+1) _ (fZ dC 3 iE l i 1 hi (by omega))
 ·exact d (i*3+2) _ (fZ dC 3 iE l i 2 hi (by omega))
theorem ie{F:aX}{a:Option Addr}{l:List Int}(h:Rows F W 1 (.slice a j o) l.length (l.map eI))(d:0<l.length):
 ∃b c,a=some ⟨b,c,none⟩ /\ F b /\ b<W.heap.size /\ ∀i (hi:i<l.length),W.cell? ⟨b,c+i,none⟩=some (.int .i64 l[i]):=by
 obtain⟨b,c,rfl,hF,e,f⟩:=h.cells d;exact⟨b,c,rfl,hF,e,fun i hi=>f i _ (by simp[hi])⟩
theorem gF{F:aX}{a:Option Addr}{l:List bR}(h:Rows F W 1 (.slice a j o) l.length (l.map Go.Proofs.encStr))(d:0<l.length):
 ∃b c,a=some ⟨b,c,none⟩ /\ F b /\ b<W.heap.size /\ ∀i (hi:i<l.length),W.cell? ⟨b,c+i,none⟩=some (.string ⟨l[i].toArray⟩):=by
 obtain⟨b,c,rfl,hF,e,f⟩:=h.cells d;exact⟨b,c,rfl,hF,e,fun i hi=>f i _ (by simp[hi])⟩
theorem mj(l:List RIt):∀u∈l.flatMap bU,u.oneCell'=true:=by
 intro u b;obtain⟨x,_,a⟩:=List.mem_flatMap.1 b;simp[bU] at a;rcases a with rfl|rfl|rfl|rfl<;>rfl
theorem ml(l:List RGo):∀u∈l.flatMap dC,u.oneCell'=true:=by
 intro u b;obtain⟨x,_,a⟩:=List.mem_flatMap.1 b;simp[dC] at a;rcases a with rfl|rfl|rfl<;>rfl
theorem xP(l:List Int):∀u∈l.map eI,u.oneCell'=true:=by
 intro u a;obtain⟨x,_,rfl⟩:=List.mem_map.1 a;rfl
theorem DZ(l:List bR):∀u∈l.map Go.Proofs.encStr,u.oneCell'=true:=by
 intro u a;obtain⟨x,_,rfl⟩:=List.mem_map.1 a;rfl
/-! maps -/
def eX(n:Int):Prop:=-9223372036854775808 <= n /\ n <= 9223372036854775807
structure cG(F:aX)(w:World)(s1 s2 s3:Value)(m:aU):Prop where
 seen:Rows F w 1 s1 m.seen.length (m.seen.map eI)
 items:Rows F w 4 s2 m.items.length (m.items.flatMap bU)
 gone:Rows F w 3 s3 m.gone.length (m.gone.flatMap dC)
 seenB:∀n∈m.seen,eX n
 itemsB:∀x∈m.items,x.key.length <= 9223372036854775807 /\ eX x.dev /\ eX x.seq /\ eX x.val
 goneB:∀x∈m.gone,x.key.length <= 9223372036854775807 /\ eX x.dev /\ eX x.seq
def dl(F:aX)(w:World)(v:Value)(m:aU):Prop:=∃a b c,v=.agg #[a,b,c] /\ cG F w a b c m
theorem cG.keep{F:aX}{w w':World}{c d e:Value}{m:aU}(h:cG F w c d e m)(a:∀b,F b -> b<w.heap.size -> w'.heap[b]?=w.heap[b]?):cG F w' c d e m:=
 ⟨h.seen.keep a,h.items.keep a,h.gone.keep a,h.seenB,h.itemsB,h.goneB⟩
theorem cG.mono{F G:aX}{w:World}{c d e:Value}{m:aU}(h:cG F w c d e m)(a:∀b,F b -> b<w.heap.size -> G b):cG G w c d e m:=
 ⟨h.seen.mono a,h.items.mono a,h.gone.mono a,h.seenB,h.itemsB,h.goneB⟩
theorem dl.keep{F:aX}{w w':World}{v:Value}{m:aU}(h:dl F w v m)(a:∀b,F b -> b<w.heap.size -> w'.heap[b]?=w.heap[b]?):dl F w' v m:=by
 obtain⟨c,d,e,rfl,h⟩:=h;exact⟨c,d,e,rfl,h.keep a⟩
theorem dl.mono{F G:aX}{w:World}{v:Value}{m:aU}(h:dl F w v m)(a:∀b,F b -> b<w.heap.size -> G b):dl G w v m:=by
 obtain⟨c,d,e,rfl,h⟩:=h;exact⟨c,d,e,rfl,h.mono a⟩
theorem cG.below{B:Nat}{a c d:Value}(h:cG (fun b=>b<B) W a c d r)(f:Below B W w'):cG (fun b=>b<B) w' a c d r:=h.keep fun b e _=>f.block b e
theorem dl.below{B:Nat}(h:dl (fun b=>b<B) W u r)(c:Below B W w'):dl (fun b=>b<B) w' u r:=h.keep fun b a _=>c.block b a
theorem dl.later{F:aX}(h:dl F W u r)(a:Below i W w')(c:W.heap.size <= i):dl F w' u r:=h.keep fun b _ d=>a.block b (by omega)
theorem o6{F:aX}(h:dl F W u r)(T:TypeId):∃a e c f d g i,u=.agg #[.slice a r.seen.length e,.slice c r.items.length f,.slice d r.gone.length g] /\
 Hid (i=W.alloc (.cells #[.slice a r.seen.length e,.slice c r.items.length f,.slice d r.gone.length g] T)) /\ Hid (Below W.heap.size W i) /\ Hid (i.heap.size=W.heap.size+1) /\ Hid (cG F i (.slice a r.seen.length e) (.slice c r.items.length f) (.slice d r.gone.length g) r) /\ Hid (Blk i W.heap.size [.slice a r.seen.length e,.slice c r.items.length f,.slice d r.gone.length g] T):=by
 obtain⟨k,l,n,rfl,h⟩:=h;obtain⟨a,e,rfl,-⟩:=h.seen.shape;obtain⟨c,f,rfl,-⟩:=h.items.shape;obtain⟨d,g,rfl,-⟩:=h.gone.shape;exact⟨a,e,c,f,d,g,_,rfl,ae rfl,ae (aI _ _),ae (by simp),ae (h.keep fun b _ j=>(aI W _).block b j),ae (Blk.new _ _ _)⟩
theorem j8{F:aX}(h:dl F W u r)(T:TypeId):∃b i c j d k e f g a,u=.agg #[.slice b e i,.slice c f j,.slice d g k] /\ cG F W (.slice b e i) (.slice c f j) (.slice d g k) r /\
 e <= 2 ^ 63-1 /\ f <= 2 ^ 63-1 /\ g <= 2 ^ 63-1 /\ Hid (r.seen.length=e) /\ Hid (r.items.length=f) /\ Hid (r.gone.length=g) /\ Hid (a=W.alloc (.cells #[.slice b e i,.slice c f j,.slice d g k] T)) /\ Hid (Below W.heap.size W a) /\ Hid (a.heap.size=W.heap.size+1) /\ Hid (cG F a (.slice b e i) (.slice c f j) (.slice d g k) r) /\ Hid (Blk a W.heap.size [.slice b e i,.slice c f j,.slice d g k] T) /\
 a.cell? ⟨W.heap.size,0,none⟩=some (.slice b e i) /\ a.cell? ⟨W.heap.size,1,none⟩=some (.slice c f j) /\ a.cell? ⟨W.heap.size,2,none⟩=some (.slice d g k):=by
 obtain⟨b,i,c,j,d,k,a,rfl,o,p,q,s,l⟩:=o6 h T;obtain⟨t,x,y,n,h⟩:=h;simp at n;obtain⟨rfl,rfl,rfl⟩:=n;exact⟨b,i,c,j,d,k,_,_,_,a,rfl,h,h.seen.len,h.items.len,h.gone.len,ae rfl,ae rfl,ae rfl,o,p,q,s,l,by simpa using l.out.cell 0,by simpa using l.out.cell 1,by simpa using l.out.cell 2⟩
end
section
attribute [local go_sem ↓] aV
theorem j9:(aE.info? 5).map (fun i=>(i.zero,i.size,i.bytes))=some (some (.int .u8 0),1,1):=by kernel_rfl
theorem cY(c:List UInt8)(i:w.ownsRow n 5 1 v c.length (c.map B))(F:aX)(x:Value)(l:List UInt8)(f:aO F w x l)
 (O:c.length+l.length <= 140737488355328) (C:n <= w.heap.size):
 ∃g d,(AP #[41,41] 41 #[v,x]).run aE w=.ok g d /\ d.ownsRow n 5 1 g (c++l).length ((c++l).map B) /\ w.grownBy d v.ownBlock:=by
 obtain⟨q,hi,H,I,J⟩:=info_parts j9;obtain⟨a,y,rfl,N,Q,G,f⟩:=f;cases a with
 |none=>
  have E:l = []:=by
   rcases f with h|⟨b,r,L,t,m,h,_⟩
   ·exact h
   ·cases h
  subst E;obtain rfl:=G rfl;exact⟨v,w,run_append_owned_none w n 41 41 5 q 1 underlying41 hi v _ _ i,by simpa using i,World.grownBy.refl _ _⟩
 |some s=>
  obtain⟨g,d,k,z,A,K⟩:=run_append_own (P:=aE) w n 41 41 5 q _ 1 1 underlying41 hi H I J rfl (by decide) v c.length (c.map B) i s l.length y (l.map B) (by simp)
   (fun j u e=>by
    rcases f with rfl|⟨b,r,L,t,m,o,hF,D,M,k⟩
    ·simp at e
    ·simp at o;subst o;have p:j<l.length:=by have:=(List.getElem?_eq_some_iff.1 e).1;simpa using this
     rw[Addr.add_lit,cell_of_row w b (r+j) L t m D,k j p];simp[List.getElem?_eq_getElem p] at e
     simp[e])
   (jg l) (by unfold maxLen;omega) (by omega) C
  exact⟨g,d,k,by simpa using z,A⟩
theorem mm(F:aX)(v:Value)(l:List UInt8)(g:aO F w v l)(x:l.length <= 140737488355328):
 Calls aE 98 #[v] w fun e w'=>∃r,e=.returned r /\ w'.ownsRow w.heap.size 5 1 r l.length (l.map B) /\ Below w.heap.size w w':=by
 have z:=g;obtain⟨a,c,rfl,D,E,A,i⟩:=g;have p:aO F (w.alloc (.cells #[] 5)) (.slice a l.length c) l:=z.keep fun b _ q=>Below.heap_alloc _ _ _ q
 obtain⟨I,w',G,f,d⟩:=cY (w.alloc (.cells #[] 5)) w.heap.size (.slice (some ⟨w.heap.size,0,none⟩) 0 0) []
  ⟨rfl,.inr ⟨w.heap.size,0,#[],rfl,aq _,by unfold World.alloc;simp,aq _,by unfold maxLen;omega,rfl,rfl⟩⟩ F (.slice a l.length c) l p (by simpa using x) (by simp)
 have m:=ae f;clear f;have j:=ae d;clear d;have n:=ae i;clear i;cases a with
 |none=>
  have u:l = []:=by
   rcases n.out with h|⟨b,H,L,t,C,h,_⟩
   ·exact h
   ·cases h
  subst u;obtain rfl:=A rfl;have y:=fun(W:World)=>Lib.run_eql_slice_nil (P:=aE) W 41 5 none 0 0 0 0 underlying41
  go_enter func98,ntmps98
  go_wp2_with fail
  go_ret
  exact⟨_,rfl,World.ownsRow_nil _ _ _ _,Below.refl _ _⟩
 |some o=>
  have y:=fun(W:World)=>Lib.run_eql_slice_nil (P:=aE) W 41 5 (some o) l.length c 0 0 underlying41
  go_enter func98,ntmps98
  go_wp2_with fail
  go_ret
  exact⟨_,rfl,by simpa using m.out,(aI _ _).grown j.out (by simp) (fun k s=>by simp[Value.ownBlock] at s;omega)⟩
end
section
attribute [local go_sem ↓] aV
theorem bP{k:Nat}(h:W.ownsRow i t o u k L)(c:j <= i):W.ownsRow j t o u k L:=by
 refine⟨h.1,?_⟩;rcases h.2 with f|⟨g,a,b,l,d,m⟩
 ·exact .inl f
 ·exact .inr ⟨g,a,b,l,au c d,m⟩
theorem aK(h:W.ownsRow i t j u o L):∃a b,u=.slice a o b:=by
 rcases h.2 with⟨rfl,c⟩|⟨g,b,d,rfl,_⟩
 ·exact⟨none,0,by rw[c]⟩
 ·exact⟨_,_,rfl⟩
def Apt(w:World)(a:Nat)(v:Value)(l:List UInt8):Prop:=
 w.ownsRow a 5 1 v l.length (l.map B) \/ ∃g L t b,v=.slice (some ⟨g,0,none⟩) l.length l.length /\ a <= g /\ w.heap[g]?=some (.cells L t b) /\ l.length <= L.size /\ ∀i,i<l.length -> L[i]?=(l.map B)[i]?
theorem Apt.clip{n c:Nat}(h:W.ownsRow j 5 1 (.slice (some ⟨o,0,none⟩) n c) l.length (l.map B)):Apt W j (.slice (some ⟨o,0,none⟩) n n) l:=by
 rcases h.2 with⟨h,_⟩|⟨m,k,a,b,d,e,p,q,r,f⟩
 ·cases h
 ·simp at b;obtain⟨rfl,rfl,rfl⟩:=b;refine .inr ⟨o,a,_,_,rfl,d,e,by omega,fun i hi=>?_⟩;have:(a.toList.take (l.length*1))[i]?=(l.map B)[i]?:=by rw[f]
  rw[List.getElem?_take,if_pos (by omega)] at this;simpa using this
theorem jT(h:Apt w n v b)(c:UInt8)(J:b.length+1 <= 140737488355328)(k:n <= w.heap.size):
 ∃e a,(AP #[41,41] 41 #[v,.slice (some ⟨w.heap.size,0,none⟩) 1 1]).run aE (w.alloc (.cells #[B c] 5))=.ok e a /\ a.ownsRow n 5 1 e (b++[c]).length ((b++[c]).map B) /\ Below n w a:=by
 obtain⟨G,hi,r,s,x⟩:=info_parts j9;have D:(b++[c]).length=b.length+1:=by simp
 have E:(b++[c]).map B=b.map B++[B c]:=by simp
 rw[D,E];rcases h with h|⟨g,L,t,o,rfl,I,p,H,z⟩
 ·obtain⟨e,a,m,i,f⟩:=cu (P:=aE) w n 41 5 underlying41 hi r s x rfl (by decide) v _ _ h #[B c] rfl (by simp[Value.oneCell',B]) (by unfold maxLen;omega) (by omega) k;exact⟨e,a,m,i,((aI _ _).mono k).trans (Below.grownOwn (h.alloc _) f (by simp;omega) (aq _))⟩
 ·have A:(w.alloc (.cells #[B c] 5)).heap[g]?=some (.cells L t o):=(Below.heap_alloc w _ g (lt_of_block p)).trans p
  obtain⟨e,a,m,i,f⟩:=run_append_arg_grows (P:=aE) (w.alloc (.cells #[B c] 5)) 41 41 5 G _ 1 1 underlying41 hi r s x rfl (by decide) ⟨g,0,none⟩ b.length b.length (b.map B) (by simp)
   (fun j u d=>by
    have C:j<b.length:=by have:=(List.getElem?_eq_some_iff.1 d).1;simpa using this
    rw[Addr.add_lit,cell_of_row _ g (0+j) L t o A,Nat.zero_add,z j C,d])
   ⟨w.heap.size,0,none⟩ 1 1 [B c] rfl
   (fun j u d=>by
    have y:j=0:=by have:=(List.getElem?_eq_some_iff.1 d).1;simp at this;omega
    subst y;simp at d;rw[Addr.add_lit];have f:=(Blk.new w #[B c] 5).cell 0
    rw[<- d];exact f)
   (by omega) (by unfold maxLen;omega) (by omega)
  exact⟨e,a,m,bP i (by simp;omega),((aI _ _).mono k).trans ((Below.refl n _).grown f (by simp;omega) (fun q F=>by cases F))⟩
theorem Apt.kept(h:Apt W i u l)(b:Below W.heap.size W w'):Apt w' i u l:=by
 rcases h with h|⟨g,L,t,c,e,d,a,f⟩
 ·exact .inl (bm h b)
 ·exact .inr ⟨g,L,t,c,e,d,(b.block g (lt_of_block a)).trans a,f⟩
theorem Apt.shape(h:Apt W i u l):∃a b,u=.slice a l.length b:=by
 rcases h with h|⟨g,L,t,f,d,_⟩
 ·rcases h.2 with⟨rfl,c⟩|⟨g,b,e,rfl,_⟩
  ·exact⟨none,0,by rw[c]⟩
  ·exact⟨_,_,rfl⟩
 ·exact⟨_,_,d⟩
theorem Ev(h:n<256):n ||| 128=n%128+128:=by
 have:∀a:Fin 256,a.val ||| 128=a.val%128+128:=by decide
 exact this ⟨n,h⟩
theorem Bg(h:w.ownsRow k 5 1 v b.length (b.map B)):
 Calls aE 150 #[v] w fun e s=>(∃r,e=.returned r /\ Apt w k r b) /\ s=w:=by
 rcases h.2 with⟨rfl,i⟩|⟨g,t,u,rfl,x,m,j,o,p,q⟩
 ·have a:=ae (show Apt w k (.slice none 0 0) b from .inl h);clear h i
  go_enter func150,ntmps150
  go_wp2_with fail
  go_ret
  exact⟨⟨_,rfl,a.out⟩,rfl⟩
 ·have a:=ae (Apt.clip h);obtain⟨n,c⟩:=aH b.length;have f:=ae c;rw[c] at j⊢;have d:=ae (show Apt w k (.slice (some ⟨g,0,none⟩) n n) b by rw[<- f.out];exact a.out);clear h m p q c a;unfold maxLen at o
  go_enter func150,ntmps150
  go_wp2_with fail
  go_ret
  exact⟨⟨_,rfl,d.out⟩,rfl⟩
theorem jU(F:aX)(v:Value)(l:List UInt8)(U:aO F w v l)(n:Nat)(hn:n<18446744073709551616)(hl:l.length <= 1000000000000):
 Calls aE 92 #[v,.int .u64 (n:Int)] w fun e g=>(∃r,e=.returned r /\ g.ownsRow w.heap.size 5 1 r (l++cj n).length ((l++cj n).map B)) /\ Below w.heap.size w g:=by
 have K:=ae (mm w F v l U (by omega));obtain⟨a,ab,rfl,-⟩:=U
 go_enter func92,ntmps92
 go_wp2_with fail;refine K.out.mono ?_;rintro e w1 ⟨r1,rfl,R,O⟩;have L:=ae (Bg w1 w.heap.size r1 l R);have X:=ae O;clear K R O;go_wp2_with fail;refine L.out.mono ?_;rintro e w2 ⟨⟨r2,rfl,I⟩,rfl⟩;obtain⟨a2,c2,rfl⟩:=I.shape;have W:=ae I;clear L I;go_wp2_with fail
 go_loopg [0,1] n (fun k s0 s1 wr=>∃(m:Nat)(b:List UInt8),s1=.int .u64 (m:Int) /\ m <= n /\ m <= k /\ Apt wr w.heap.size s0 (l++b) /\ b.length <= 10 /\ b++cj m=cj n /\ Below w.heap.size w wr)
 case atStart=>exact⟨n,[],rfl,aq _,aq _,by simpa using W.out,by simp,rfl,X.out⟩
 case round=>
  obtain⟨m,b,rfl,ai,ag,j,hp,T,M⟩:=hrel;have an:=cF n;obtain⟨ar,cr,rfl⟩:=j.shape;obtain⟨N,H⟩:=aH ((l++b).length);rw[H] at j⊢;have t:=ae H;clear H;have A:=ae T;have u:=ae M;clear T M
  by_cases ad:128 <= m
  ·have Z:(128:Int) <= (m:Int):=by omega
   obtain⟨o,P⟩:=aQ (m%256);obtain⟨d,Q⟩:=aQ (m%128+128);obtain⟨q,S⟩:=aQ (m/128);have aa:IntKind.u8.wrap (m:Int)=(o:Int):=by rw[P];simp[IntKind.wrap,IntKind.bits,IntKind.signed]
   have ak:bits .or .u8 (o:Int) 128=(d:Int):=by
    have c:=u8_or_nat o 128 (by omega) (by omega);rw[Ev o (by omega)] at c;rw[show(d:Nat)=o%128+128 by omega];exact c
   have al:(m:Int)/128=(q:Int):=by omega
   have s:(UInt8.ofNat d).toNat=d:=by
    rw[UInt8.toNat_ofNat'];omega
   obtain⟨J,g,i,h,p⟩:=jT wr w.heap.size _ _ j (UInt8.ofNat d) (by rw[t.out,<- t.out,aA];omega) u.out.size;unfold B at i;rw[s] at i;obtain⟨D,E,rfl⟩:=(show Apt g w.heap.size J ((l++b)++[UInt8.ofNat d]) from .inl h).shape;obtain⟨C,f⟩:=aH (((l++b)++[UInt8.ofNat d]).length);rw[f] at i;have z:=ae (show g.ownsRow w.heap.size 5 1 (.slice D C E) ((l++b)++[UInt8.ofNat d]).length (((l++b)++[UInt8.ofNat d]).map B) by rw[<- f];exact h);have y:=ae p;have V:=ae f;have Y:=ae Q;have x:=ae S;clear h f p P Q S s j;go_wp2_with fail
   go_roundg q
   case measure=>have:=x.out;omega
   case rel=>
    refine⟨q,b++[UInt8.ofNat d],rfl,by have:=x.out;omega,aq _,.inl (by rw[<- aB];exact z.out),?_,?_,u.out.trans y.out⟩
    ·have c:=congrArg List.length A.out;have G:=ib q;rw[kH m (by omega) (by omega),<- x.out] at c;simp at c⊢;omega
    ·have c:=A.out;rw[kH m (by omega) (by omega),<- x.out,<- Y.out] at c;simpa[aB] using c
  ·have Z:¬(128:Int) <= (m:Int):=by omega
   have aa:IntKind.u8.wrap (m:Int)=(m:Int):=ap _ (by omega)
   have s:(UInt8.ofNat m).toNat=m:=by
    rw[UInt8.toNat_ofNat'];omega
   obtain⟨J,g,i,h,p⟩:=jT wr w.heap.size _ _ j (UInt8.ofNat m) (by rw[t.out,<- t.out,aA];omega) u.out.size;unfold B at i;rw[s] at i;obtain⟨D,E,rfl⟩:=(show Apt g w.heap.size J ((l++b)++[UInt8.ofNat m]) from .inl h).shape;obtain⟨C,f⟩:=aH (((l++b)++[UInt8.ofNat m]).length);rw[f] at i;have z:=ae (show g.ownsRow w.heap.size 5 1 (.slice D C E) ((l++b)++[UInt8.ofNat m]).length (((l++b)++[UInt8.ofNat m]).map B) by rw[<- f];exact h);have y:=ae p;have V:=ae f;clear h f p s j;go_wp2_with fail
   go_ret
   refine⟨⟨_,rfl,?_⟩,u.out.trans y.out⟩;have c:=A.out;rw[mU m (by omega)] at c;have G:=z.out;rw[aB,c] at G;simpa using G
/- coding.PutText; the closure that puts numbers. -/
end
section
attribute [local go_sem ↓] aV
theorem mK:Lib.strCells ⟨b.toArray⟩=b.map B:=by simp[Lib.strCells,B]
theorem lS(F:aX)(v:Value)(l:List UInt8)(p:aO F w v l)(k:bR)(A:k.length <= 1000000000000)(C:l.length <= 1000000000000):
 Calls aE 175 #[v,.string ⟨k.toArray⟩] w fun e c=>(∃r,e=.returned r /\ c.ownsRow w.heap.size 5 1 r (l++bD k).length ((l++bD k).map B)) /\ Below w.heap.size w c:=by
 have g:=ae (jU w F v l p k.length (by omega) C);have D:IntKind.u64.wrap (k.length:Int)=(k.length:Int):=IntWalk.u64_in _ (by omega);obtain⟨b,f⟩:=aH k.length;obtain⟨a,J,rfl,-⟩:=p;have h:=ae f;have m:(ByteArray.mk k.toArray).size=b:=by rw[<- f];rfl
 rw[f] at g D A;clear f
 go_enter func175,ntmps175
 go_wp2_with fail;refine g.out.mono ?_;rintro e t ⟨⟨q,rfl,j⟩,d⟩;obtain⟨I,hi,E,G,H⟩:=info_parts j9;have L:=cF b;obtain⟨s,c,o,i,n,-⟩:=Lib.run_append_own_string (P:=aE) t w.heap.size 41 9 41 5 I underlying41 underlying9 hi E G H q _ _ j ⟨k.toArray⟩ (by rw[m,aA];unfold maxLen;omega) (by rw[m,aA];omega) d.size;have K:(AP #[41,9] 41 #[q,.string ⟨k.toArray⟩]).run aE t=.ok s c:=o
 have x:=ae (show c.ownsRow w.heap.size 5 1 s (l++bD k).length ((l++bD k).map B) by
  rw[mK,m] at i;have y:(l++bD k).length=(l++cj b).length+b:=by unfold bD;rw[h.out];simp[h.out];omega
  have z:(l++bD k).map B=(l++cj b).map B++k.map B:=by unfold bD;rw[h.out];simp
  rw[y,z]
  exact i)
 have u:=ae (d.trans (Below.grownOwn j n d.size (aq _)));clear o i n g j d;go_wp2_with fail
 go_ret
 exact⟨⟨_,rfl,x.out⟩,u.out⟩
def fl(w:World)(a:Nat)(l:List UInt8):Prop:=∃v,Blk w a [v] 41 /\ aO (fun b=>b≠a) w v l
theorem fl.keep{w w':World}{a:Nat}{l:List UInt8}(h:fl w a l)(d:Below w.heap.size w w'):fl w' a l:=by
 obtain⟨v,c,e⟩:=h;exact⟨v,c.keep (d.block _ c.lt),e.keep fun b _ f=>d.block b f⟩
theorem fl.stored{m l:List UInt8}(h:fl W i m)(c:Below W.heap.size W w')(g:w'.ownsRow j 5 1 u l.length (l.map B))(o:W.heap.size <= j):fl (w'.setCell ⟨i,0,none⟩ u) i l /\ aT (fun b=>b=i) W (w'.setCell ⟨i,0,none⟩ u):=by
 obtain⟨v0,a,n⟩:=h;have d:=a.keep (c.block _ a.lt);have r:=a.lt;refine⟨⟨u,by simpa using d.set 0 u,?_⟩,(aT.of_below (F:=fun b=>b=i) c).setCell (p:=⟨i,0,none⟩) (.inl rfl) u⟩;have e:aO (fun b=>b≠i) w' u l:=aO.of_owns g _ (fun k q _=>by omega);exact e.keep fun b f _=>Below.heap_setCell _ ⟨i,0,none⟩ _ b f
theorem nT(d:Nat)(l:List UInt8)(R:fl w d l)(F:aX)(v:Value)(c:List Int)(o:Rows F w 1 v c.length (c.map eI))(hF:∀b,F b -> b≠d)(hn:∀n∈c,0 <= n /\ n <= 9223372036854775807)(al:c.length <= 1000000)(hl:l.length <= 100000000000):
 Calls aE 192 #[v,.pointer (some ⟨d,0,none⟩)] w fun e I=>e=.returned (.tuple #[]) /\ fl I d (l++c.flatMap fun n=>cj n.toNat) /\ aT (fun b=>b=d) w I:=by
 obtain⟨N,z⟩:=aH c.length;obtain⟨a,ao,rfl,-⟩:=o.shape;rw[z] at o al⊢;have q:=ae z;have Y:=ae o;have W:=ae R;clear z o R
 go_enter func192,ntmps192
 go_wp2_with fail
 go_loopw [7] (fun i wr=>∃k:Nat,k <= N /\ i=.int .i64 (k:Int) /\ fl wr d (l++(c.take k).flatMap fun n=>cj n.toNat) /\ aT (fun b=>b=d) w wr) (fun i _=>N-(intOf i).toNat)
 case atStart=>exact⟨0,by omega,rfl,by simpa using W.out,aT.refl _ _⟩
 case round=>
  obtain⟨k,hk,rfl,f,H⟩:=hrel;have s:=ae H
  by_cases ai:k<N
  ·have ad:(k:Int)<(N:Int):=by omega
   have D:k<c.length:=by rw[q.out];exact ai
   have P:=Y.out.keep (w':=wr) fun b aa ak=>s.out.block b ak (hF b aa)
   obtain⟨b,ay,rfl,-,-,O⟩:=ie (by rw[q.out];exact P) (by omega);have K:=O k D;obtain⟨x,p⟩:=aH c[k];rw[p] at K;obtain⟨an,ax⟩:=hn x (by rw[<- p];exact aC D);obtain⟨m,rfl⟩:=Int.eq_ofNat_of_zero_le an;have hw:IntKind.u64.wrap (m:Int)=(m:Int):=IntWalk.u64_in _ (by omega)
   have E:(l++(c.take k).flatMap fun n=>cj n.toNat).length <= 1000000000000:=by
    have u:=iL (fun n:Int=>cj n.toNat) 10 (c.take k) fun n _=>cF _
    have h2:(c.take k).length <= N:=by simp;omega
    simp only[aA];omega
   obtain⟨J,y⟩:=aH (l++((c.take k).flatMap fun n=>cj n.toNat));rw[y] at f E;have U:=ae y;obtain⟨v0,j,C⟩:=f;have t:=j.cell 0;simp at t;have f0:=j.free 0;have r:=ae (jU wr _ v0 _ C m (by omega) E);have g:=ae (show fl wr d _ from⟨v0,j,C⟩);have Z:=ae p;obtain⟨a0,ar,rfl,-⟩:=C;obtain⟨N0,L⟩:=aH J.length;rw[L] at r t;clear P O p j H y L E;go_wp2_with fail;refine r.out.mono ?_;rintro e w1 ⟨⟨r1,rfl,G⟩,A⟩;obtain⟨S,Q⟩:=g.out.stored A G (aq _)
   obtain⟨v1,B⟩:∃v1,Blk w1 d [v1] 41:=by
    obtain⟨v1,u,-⟩:=g.out;exact⟨v1,u.keep (A.block _ u.lt)⟩
   have av:=B.free 0;have ab:=B.cell 0;simp at ab;obtain⟨N2,M⟩:=aH ((J++cj m).length);obtain⟨a2,c2,T⟩:=aK G;rw[M] at T;subst T;clear M;have X:=ae S;have V:=ae (s.out.trans Q (fun i h=>.inl h));clear r S Q G A B t f0 K;go_wp2_with fail
   go_roundw
   case rel=>exact⟨k+1,by omega,by go_num,by
    rw[mh _ _ _ D,Z.out,<- aB,U.out]
    exact X.out,V.out⟩
   case measure=>simp[intOf];omega
  ·have ad:¬(k:Int)<(N:Int):=by omega
   have ag:k=c.length:=by rw[q.out];omega
   have g:=ae (show fl wr d (l++c.flatMap fun n=>cj n.toNat) by rw[ag,List.take_length] at f;exact f);clear f H;go_wp2_with fail
   go_end0
   exact⟨rfl,g.out,s.out⟩
/- The code of a map. -/
end
section
attribute [local go_sem ↓] aV
theorem kJ(a:Array Value)(t:TypeId)(n:Nat)(d:a.size=n)(c:n <= maxLen):Rows (fun b=>b=w.heap.size) (w.alloc (.cells a t)) 1 (.slice (some ⟨w.heap.size,0,none⟩) n n) n a.toList:=
 ⟨_,n,rfl,aq _,c,nofun,by simp[d],.inr ⟨w.heap.size,0,a,t,(0,0),rfl,rfl,by unfold World.alloc;simp,by omega,fun i hi=>by simp⟩⟩
theorem fl.alloc{w:World}{a:Nat}{l:List UInt8}(h:fl w a l)(o:Obj):fl (w.alloc o) a l:=h.keep (aI _ _)
theorem fl.lt{w:World}{a:Nat}{l:List UInt8}(h:fl w a l):a<w.heap.size:=by obtain⟨v,b,-⟩:=h;exact b.lt
structure mn(m:aU):Prop where
 seen:∀n∈m.seen,0 <= n /\ n <= 9223372036854775807
 items:∀x∈m.items,x.key.length <= 400 /\ (0 <= x.dev /\ x.dev <= 9223372036854775807) /\ (0 <= x.seq /\ x.seq <= 9223372036854775807) /\ 0 <= x.val /\ x.val <= 9223372036854775807
 gone:∀x∈m.gone,x.key.length <= 400 /\ (0 <= x.dev /\ x.dev <= 9223372036854775807) /\ 0 <= x.seq /\ x.seq <= 9223372036854775807
 l1:m.seen.length <= 1000
 l2:m.items.length <= 100000
 l3:m.gone.length <= 100000
theorem mn.len(h:mn r):(dS r).length <= 1000000000:=zP r h.l1 h.l2 h.l3 (fun x a=>(h.items x a).1) (fun x a=>(h.gone x a).1)
theorem vx(F:aX)(v:Value)(m:aU)(h:dl F w v m)(hC:mn m):
 Calls aE 136 #[v] w fun e I=>(∃r,e=.returned r /\ aO (fun _=>True) I r (dS m)) /\ Below w.heap.size w I:=by
 replace h:=h.mono (G:=fun b=>b<w.heap.size) fun b _ C=>C
 have K:=ae hC
 replace h:=j8 h 37
 obtain⟨Z,p1,a2,p2,a3,p3,n1,d,f,wx,rfl,h,l1,l2,l3,bz,ax,ay,bB,bw,aW,Hx,bc,c0,c1,c2⟩:=h
 try rw[bz.out]
 try rw[ax.out]
 try rw[ay.out]
 clear h hC;obtain⟨J,X⟩:=aQ (wx.alloc (.cells #[.slice none 0 0] 41));have bl:Below w.heap.size w J:=by rw[X];exact bw.out.alloc (by have:=aW.out;omega) _
 have bt:J.heap.size=w.heap.size+2:=by rw[X];have:=aW.out;simp;omega
 have az:Blk J w.heap.size [.slice Z n1 p1,.slice a2 d p2,.slice a3 f p3] 37 /\ cG (fun b=>b<w.heap.size) J (.slice Z n1 p1) (.slice a2 d p2) (.slice a3 f p3) m:=by
  rw[X];exact⟨bc.out.alloc _,Hx.out.keep fun b _ C=>Below.heap_alloc _ _ _ C⟩
 have W:=ae (show ∀I,aT (fun b=>b=w.heap.size+1) J I -> Blk I w.heap.size [.slice Z n1 p1,.slice a2 d p2,.slice a3 f p3] 37 /\ cG (fun b=>b<w.heap.size) I (.slice Z n1 p1) (.slice a2 d p2) (.slice a3 f p3) m from fun I ho=>
  ⟨az.1.only ho (by omega),az.2.keep fun b hb C=>ho.block b C (by omega)⟩)
 have bp:fl J (w.heap.size+1) []:=by
  refine⟨.slice none 0 0,?_,⟨none,0,rfl,aq _,by unfold maxLen;omega,fun _=>rfl,.inl rfl⟩⟩;rw[X,<- aW.out];exact Blk.new _ _ _
 have t:=ae (nT J (w.heap.size+1) [] bp (fun b=>b<w.heap.size) (.slice Z n1 p1) m.seen az.2.seen (fun b hb=>by omega) K.out.seen (by have:=K.out.l1;omega) (by simp));have bA:=ae X;have bv:=ae bl;have bC:=ae bt;clear X bl bt az bp Hx bc
 go_enter func136,ntmps136
 go_wp2_with fail;rw[<- bB.out,<- bA.out];refine t.out.mono ?_;rintro e Y ⟨rfl,ba,a6⟩;have bi:=(W.out Y a6).1.cell 1;simp at bi
 have L:=ae (nT (Y.alloc (.cells #[.int .i64 (d:Int)] 3)) (w.heap.size+1) _ (ba.alloc _) (fun b=>b=Y.heap.size) (.slice (some ⟨Y.heap.size,0,none⟩) 1 1) [(d:Int)] (kJ Y #[.int .i64 (d:Int)] 3 1 rfl (by unfold maxLen;omega)) (fun b hb=>by have:=ba.lt;omega) (by
  intro n o;simp at o;subst o
  omega) (by simp) (by
  have A:=vg m;unfold mJ at A;have h2:=K.out.len;simp at A⊢
  omega))
 have bd:=ae a6;clear t ba a6 c0 c1 c2;go_wp2_with fail;refine L.out.mono ?_;rintro e w4 ⟨rfl,bq,bn⟩
 have bg:=ae (show fl w4 (w.heap.size+1) (fV m 0) by
  rw[mX];unfold mJ;rw[ax.out]
  simpa using bq)
 have a7:=(bd.out.trans (aT.of_below (F:=fun b=>b=w.heap.size+1) (aI Y _)) (fun i h=>.inl h)).trans bn (fun i h=>.inl h);have be:=ae a7;have bE:=(W.out w4 a7).1.cell 1;simp at bE;clear L bq bn a7 bi bd;go_wp2_with fail
 go_loopw [23] (fun i wr=>∃k:Nat,k <= d /\ i=.int .i64 (k:Int) /\ fl wr (w.heap.size+1) (fV m k) /\ aT (fun b=>b=w.heap.size+1) J wr) (fun i _=>d-(intOf i).toNat)
 case atStart=>exact⟨0,by omega,rfl,bg.out,be.out⟩
 case round=>
  obtain⟨k,hk,rfl,p,ao⟩:=hrel;have z:=ae ao;clear ao bg be
  by_cases aJ:k<d
  ·have aF:(k:Int)<(d:Int):=by omega
   have P:k<m.items.length:=by rw[ax.out];exact aJ
   obtain⟨-,hm⟩:=W.out wr z.out;obtain⟨b,bJ,rfl,bH,-,hc⟩:=fB hm.items (by omega);obtain⟨e0,e1,e2,e3⟩:=hc k P;obtain⟨x,s⟩:=aH m.items[k];rw[s] at e0 e1 e2 e3;have H:=K.out.items x (by rw[<- s];exact aC P);have al:(fV m k).length <= 1000000000:=au (jp m k) K.out.len;have E:=qz m k P;rw[s] at E
   have Q:(fV m k++bD x.key).length <= 2000000000:=by
    have:=gj x.key H.1;rw[aA];omega
   obtain⟨g,ab⟩:=aH (fV m k);rw[ab] at p al E Q;obtain⟨N0,ad⟩:=aH g.length;obtain⟨v0,j,O⟩:=p;have ak:=O.keep (w':=wr.alloc (.cells #[.string ⟨x.key.toArray⟩,.int .i64 x.dev,.int .i64 x.seq,.int .i64 x.val] 108)) fun b _ C=>Below.heap_alloc _ _ _ C
   have t:=ae (lS _ _ v0 g ak x.key (by have:=H.1;omega) (by omega));have a:=ae (show fl (wr.alloc (.cells #[.string ⟨x.key.toArray⟩,.int .i64 x.dev,.int .i64 x.seq,.int .i64 x.val] 108)) (w.heap.size+1) g from(show fl wr _ g from⟨v0,j,O⟩).alloc _);obtain⟨a0,bG,rfl,-⟩:=O;have U:=j.cell 0;simp at U;have f0:=j.free 0;have a4:w.heap.size+1<wr.heap.size:=j.lt;have ai:=Blk.new wr #[.string ⟨x.key.toArray⟩,.int .i64 x.dev,.int .i64 x.seq,.int .i64 x.val] 108;have y:=ae ai;rw[ad] at U t;have Hx:=ae s;have aR:=ae E;have aV:=ae H;have aM:=ae Q;clear hc hm s j E H ab ad ak al ai Q;go_wp2_with fail;refine t.out.mono ?_;rintro e V ⟨⟨r5,rfl,R⟩,l⟩;obtain⟨D,S⟩:=a.out.stored l R (aq _)
   obtain⟨v1,N⟩:∃v1,Blk V (w.heap.size+1) [v1] 41:=by
    obtain⟨v1,A,-⟩:=a.out;exact⟨v1,A.keep (l.block _ A.lt)⟩
   obtain⟨N5,ag⟩:=aH ((g++bD x.key).length);obtain⟨a5,c5,ar⟩:=aK R;rw[ag] at ar;subst ar;have q5:=N.cell 0;simp at q5;have f5:=N.free 0;obtain⟨c,q⟩:=aQ (V.setCell ⟨w.heap.size+1,0,none⟩ (.slice a5 N5 c5));rw[<- q] at D S
   have aY:Blk c wr.heap.size [.string ⟨x.key.toArray⟩,.int .i64 x.dev,.int .i64 x.seq,.int .i64 x.val] 108:=by
    rw[q];exact(y.out.keep (l.block _ y.out.lt)).set_other _ (by simp;omega)
   have u:=y.out.keep (l.block _ y.out.lt);have x0:=u.cell 0;have x1:=u.cell 1;have x2:=u.cell 2;have x3:=u.cell 3;simp at x0 x1 x2 x3;have bI:wr.heap.size≠w.heap.size+1:=by omega
   clear a4;have aa:aT (fun b=>b=w.heap.size+1) wr c:=(aT.of_below (aI wr _)).trans S (fun i hi=>.inl hi);have aS:=ae q;have av:c.heap.size=V.heap.size:=by rw[q];simp[World.setCell]
   have M:=(nT _ _ _ (D.alloc (.cells #[.int .i64 x.dev,.int .i64 x.seq,.int .i64 x.val] 3)) (fun b=>b=c.heap.size) (.slice (some ⟨c.heap.size,0,none⟩) 3 3) [x.dev,x.seq,x.val] (kJ c #[.int .i64 x.dev,.int .i64 x.seq,.int .i64 x.val] 3 3 rfl (by unfold maxLen;omega)) (fun b hb=>by have:=D.lt;omega) (by
    have h:=aV.out;intro n o;simp at o
    rcases o with rfl|rfl|rfl<;>simp[h]) (by simp) (by have:=aM.out;omega))
   rw[av] at M;have L:=ae M;have aL:=ae (z.out.trans aa (fun i h=>.inl h));clear t ag N D S R l u aY aa q U f0 a M av;go_wp2_with fail;rw[<- aS.out];refine L.out.mono ?_;rintro e w7 ⟨rfl,T,an⟩;rw[<- aR.out] at T;have aP:=ae T;have aN:=ae ((aL.out.trans (aT.of_below (F:=fun b=>b=w.heap.size+1) (aI c _)) (fun i h=>.inl h)).trans an (fun i h=>.inl h));clear T an L;go_wp2_with fail
   go_roundw
   case rel=>exact⟨k+1,by omega,by go_num,aP.out,aN.out⟩
   case measure=>simp[intOf];omega
  ·have aF:¬(k:Int)<(d:Int):=by omega
   have aG:k=m.items.length:=by rw[ax.out];omega
   have a:=ae (show fl wr (w.heap.size+1) (fV m m.items.length) by rw[aG] at p;exact p);clear p;have bj:=(W.out wr z.out).1.cell 2;simp at bj
   have bb:=ae (nT (wr.alloc (.cells #[.int .i64 (f:Int)] 3)) (w.heap.size+1) _ (a.out.alloc _) (fun b=>b=wr.heap.size) (.slice (some ⟨wr.heap.size,0,none⟩) 1 1) [(f:Int)] (kJ wr #[.int .i64 (f:Int)] 3 1 rfl (by unfold maxLen;omega)) (fun b hb=>by have:=a.out.lt;omega) (by
    intro n o;simp at o;subst o
    omega) (by simp) (by
    have A:=jp m m.items.length;have h2:=K.out.len
    omega))
   clear a;go_wp2_with fail;refine bb.out.mono ?_;rintro e w8 ⟨rfl,br,bo⟩
   have bh:=ae (show fl w8 (w.heap.size+1) (gS m 0) by
    rw[qy,ay.out]
    simpa using br)
   have a8:=(z.out.trans (aT.of_below (F:=fun b=>b=w.heap.size+1) (aI wr _)) (fun i h=>.inl h)).trans bo (fun i h=>.inl h);have bf:=ae a8;have bF:=(W.out w8 a8).1.cell 2;simp at bF;clear bb br bo a8 bj z aF aG aJ hk;go_wp2_with fail
   go_loopw [50] (fun i wr=>∃k:Nat,k <= f /\ i=.int .i64 (k:Int) /\ fl wr (w.heap.size+1) (gS m k) /\ aT (fun b=>b=w.heap.size+1) J wr) (fun i _=>f-(intOf i).toNat)
   case atStart=>exact⟨0,by omega,rfl,bh.out,bf.out⟩
   case round=>
    obtain⟨k,hk,rfl,p,ao⟩:=hrel;have z:=ae ao;clear ao bh bf
    by_cases aJ:k<f
    ·have aF:(k:Int)<(f:Int):=by omega
     have P:k<m.gone.length:=by rw[ay.out];exact aJ
     obtain⟨-,hm⟩:=W.out wr z.out;obtain⟨b,bJ,rfl,bH,-,hc⟩:=gn hm.gone (by omega);obtain⟨e0,e1,e2⟩:=hc k P;obtain⟨x,s⟩:=aH m.gone[k];rw[s] at e0 e1 e2;have H:=K.out.gone x (by rw[<- s];exact aC P);have al:(gS m k).length <= 1000000000:=au (nS m k) K.out.len;have E:=qA m k P;rw[s] at E
     have Q:(gS m k++bD x.key).length <= 2000000000:=by
      have:=gj x.key H.1;rw[aA];omega
     obtain⟨g,ab⟩:=aH (gS m k);rw[ab] at p al E Q;obtain⟨N0,ad⟩:=aH g.length;obtain⟨v0,j,O⟩:=p;have ak:=O.keep (w':=wr.alloc (.cells #[.string ⟨x.key.toArray⟩,.int .i64 x.dev,.int .i64 x.seq] 111)) fun b _ C=>Below.heap_alloc _ _ _ C
     have t:=ae (lS _ _ v0 g ak x.key (by have:=H.1;omega) (by omega));have a:=ae (show fl (wr.alloc (.cells #[.string ⟨x.key.toArray⟩,.int .i64 x.dev,.int .i64 x.seq] 111)) (w.heap.size+1) g from(show fl wr _ g from⟨v0,j,O⟩).alloc _);obtain⟨a0,bG,rfl,-⟩:=O;have U:=j.cell 0;simp at U;have f0:=j.free 0;have a4:w.heap.size+1<wr.heap.size:=j.lt;have ai:=Blk.new wr #[.string ⟨x.key.toArray⟩,.int .i64 x.dev,.int .i64 x.seq] 111;have y:=ae ai;rw[ad] at U t;have Hx:=ae s;have aR:=ae E;have aV:=ae H;have aM:=ae Q;clear hc hm s j E H ab ad ak al ai Q;go_wp2_with fail;refine t.out.mono ?_;rintro e V ⟨⟨r5,rfl,R⟩,l⟩;obtain⟨D,S⟩:=a.out.stored l R (aq _)
     obtain⟨v1,N⟩:∃v1,Blk V (w.heap.size+1) [v1] 41:=by
      obtain⟨v1,A,-⟩:=a.out;exact⟨v1,A.keep (l.block _ A.lt)⟩
     obtain⟨N5,ag⟩:=aH ((g++bD x.key).length);obtain⟨a5,c5,ar⟩:=aK R;rw[ag] at ar;subst ar;have q5:=N.cell 0;simp at q5;have f5:=N.free 0;obtain⟨c,q⟩:=aQ (V.setCell ⟨w.heap.size+1,0,none⟩ (.slice a5 N5 c5));rw[<- q] at D S
     have aY:Blk c wr.heap.size [.string ⟨x.key.toArray⟩,.int .i64 x.dev,.int .i64 x.seq] 111:=by
      rw[q];exact(y.out.keep (l.block _ y.out.lt)).set_other _ (by simp;omega)
     have u:=y.out.keep (l.block _ y.out.lt);have x0:=u.cell 0;have x1:=u.cell 1;have x2:=u.cell 2
     skip
     simp at x0 x1 x2;have bI:wr.heap.size≠w.heap.size+1:=by omega
     clear a4;have aa:aT (fun b=>b=w.heap.size+1) wr c:=(aT.of_below (aI wr _)).trans S (fun i hi=>.inl hi);have aS:=ae q;have av:c.heap.size=V.heap.size:=by rw[q];simp[World.setCell]
     have M:=(nT _ _ _ (D.alloc (.cells #[.int .i64 x.dev,.int .i64 x.seq] 3)) (fun b=>b=c.heap.size) (.slice (some ⟨c.heap.size,0,none⟩) 2 2) [x.dev,x.seq] (kJ c #[.int .i64 x.dev,.int .i64 x.seq] 3 2 rfl (by unfold maxLen;omega)) (fun b hb=>by have:=D.lt;omega) (by
      have h:=aV.out;intro n o;simp at o
      rcases o with rfl|rfl<;>simp[h]) (by simp) (by have:=aM.out;omega))
     rw[av] at M;have L:=ae M;have aL:=ae (z.out.trans aa (fun i h=>.inl h));clear t ag N D S R l u aY aa q U f0 a M av;go_wp2_with fail;rw[<- aS.out];refine L.out.mono ?_;rintro e w7 ⟨rfl,T,an⟩;rw[<- aR.out] at T;have aP:=ae T;have aN:=ae ((aL.out.trans (aT.of_below (F:=fun b=>b=w.heap.size+1) (aI c _)) (fun i h=>.inl h)).trans an (fun i h=>.inl h));clear T an L;go_wp2_with fail
     go_roundw
     case rel=>exact⟨k+1,by omega,by go_num,aP.out,aN.out⟩
     case measure=>simp[intOf];omega
    ·have aF:¬(k:Int)<(f:Int):=by omega
     have aG:k=m.gone.length:=by rw[ay.out];omega
     have a:=ae (show fl wr (w.heap.size+1) (gS m m.gone.length) by rw[aG] at p;exact p);clear p;rw[sT] at a;obtain⟨v9,bm,aZ⟩:=a.out;have q9:=bm.cell 0;simp at q9;obtain⟨N9,bk⟩:=aH ((dS m).length);obtain⟨a9,c9,bs,bK⟩:=id aZ;rw[bk] at bs;subst bs;have bx:=ae aZ;have bu:=ae (bv.out.trans (z.out.below (B:=w.heap.size) (fun i hi=>by omega) (by have:=bC.out;omega)));clear bm aZ bK bk a;go_wp2_with fail
     go_ret
     exact⟨⟨_,rfl,bx.out.mono fun _ _=>trivial⟩,bu.out⟩
end
end Go.Proofs.YtobjdpngnfbicaaGreatDoor
