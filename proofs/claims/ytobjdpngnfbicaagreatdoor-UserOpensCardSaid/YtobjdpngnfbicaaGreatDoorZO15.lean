/-
  JTorn UKeep UOpen VNext RegionP VFold RInt
-/
import Derived.Test.YtobjdpngnfbicaaGreatDoorZO14
open Go.Lib renaming hid->ae
open Go.IntWalk renaming i64_in->af,i64_quo->ah,u32_in->aj,rem_in->am,u8_in->ap
open Nat renaming le_refl->aq,le_trans->au,lt_of_lt_of_le->aw
open List renaming length_append->aA,getElem_mem->aC,length_cons->aD
open Go.Proofs.Tryz renaming prog->aE
set_option maxHeartbeats 8000000
set_option maxRecDepth 100000
set_option linter.all false
namespace Go.Proofs.YtobjdpngnfbicaaGreatDoor
open Go.RowKit
open Tryz
variable(w:World)(F:aX)(n:Nat)(v:Value)(b:List UInt8)(m:aU)(M:MD){W:World}{G:aX}{u:Value}{i j o:Nat}{l:List UInt8}{r:aU}{N:MD}{y:List bR}
theorem oK(a:dm l=false)(g k n:Nat):cD l g k n=false:=by
 unfold cD;rw[a];simp
theorem Inv.torn_append{S k:List (List UInt8)}{L:List (List UInt8)}{b t:List UInt8}(h:Inv S i L)(O:aM L+takes b.length <= aW S.length)(N:b.length <= 65536)(P:o<takes b.length)(l:mP S k i L.length (aM L) b o)(w:dm t=false):
 Inv (k.set (cm S.length i (aM L+o)) t) i L:=by
 have E:=h.le;have D:=h.gen;have J:=dB L;have I:aW S.length <= 32768:=by unfold aW;omega
 have m:(k.set (cm S.length i (aM L+o)) t).length=S.length:=by rw[List.length_set,l.len]
 have B:∀v q,q<aW S.length -> cN (k.set (cm S.length i (aM L+o)) t) v q=if v%2=i%2 /\ q=aM L+o then t else cN k v q:=fun v q d=>by
  rw[<- l.len,rO _ _ _ _ _ _ (by rw[l.len];omega) (by rw[l.len];exact d)]
 have r:∀q,q<aW S.length -> cN (k.set (cm S.length i (aM L+o)) t) i q=if q=aM L+o then t else if aM L <= q /\ q<aM L+o then cT i L.length b (q-aM L) else cN S i q:=fun q d=>by
  rw[B i q d,l.sec i q d];simp only[true_and]
 have G:∀q,q<aW S.length -> cN (k.set (cm S.length i (aM L+o)) t) (i+1) q=cN S (i+1) q:=fun q d=>by
  rw[B _ q d,if_neg (by omega),l.sec _ q d,if_neg (by omega)]
 have z:∀c,c<2 -> (k.set (cm S.length i (aM L+o)) t).getD c []=S.getD c []:=fun c y=>by
  rw[<- l.len,rP _ _ _ _ _ y (by rw[l.len];omega),l.heads c y]
 generalize K:k.set (cm S.length i (aM L+o)) t=x at *;refine⟨by rw[m];exact h.n8,by rw[m];exact E,D,by rw[m];exact h.room,h.lens,fun j A=>?_,?_,?_,?_,?_,?_,?_⟩
 ·refine(h.recs j A).sub fun a M=>?_
  have:=ix L (j+1);rw[fw L j A] at this;have u:=h.room;rw[r _ (by omega),if_neg (by omega),if_neg (by omega)]
 ·by_cases C:o=0
  ·subst C;refine iJ (.inr fun n=>?_);rw[r _ (by omega),if_pos (by omega)];exact oK w _ _ _
  ·have F:bK (cN x i (aM L)) 8=b.length:=by
    rw[r _ (by omega),if_neg (by omega),if_pos (by omega),pB _ _ _ _ (by omega)];omega
   unfold dd;rw[m,if_neg (by omega)];dsimp only;rw[F,if_neg (by omega),if_neg];intro hh;have:=iT x i L.length (aM L) b.length (o+1) (takes b.length-(o+1)) (by rw[show o+1+(takes b.length-(o+1))=takes b.length by omega];exact hh);simp only[dx,Bool.and_eq_true] at this;rw[r _ (by omega),if_pos rfl,oK w] at this;exact absurd this.2 (by simp)
 ·intro p H d f u;rw[m] at d;rw[r p d] at f u⊢
  by_cases e:p=aM L+o
  ·rw[if_pos e,w] at f;cases f
  ·rw[if_neg e] at f u⊢
   by_cases s:aM L <= p /\ p<aM L+o
   ·rw[if_pos s,mF _ _ _ _ (by omega)];exact aq _
   ·rw[if_neg s] at f u⊢;exact h.beyond p H d f u
 ·intro p d f;rw[m] at d;rw[r p d] at f⊢
  by_cases e:p=aM L+o
  ·rw[if_pos e,w] at f;cases f
  ·rw[if_neg e] at f⊢
   by_cases s:aM L <= p /\ p<aM L+o
   ·rw[if_pos s,jh _ _ _ _ (by omega)];exact aq _
   ·rw[if_neg s] at f⊢;exact h.own p d f
 ·intro p d f;rw[m] at d;rw[G p d] at f⊢;exact h.other p d f
 ·rw[z _ (by omega)];exact h.head
 ·rw[z _ (by omega)];exact h.head2
theorem Inv.other_change{S b:List (List UInt8)}{L:List (List UInt8)}(h:Inv S o L)(f:b.length=S.length)(l:∀q,q<aW S.length -> cN b o q=cN S o q)
 (z:∀q,q<aW S.length -> cN b (o+1) q=cN S (o+1) q \/ dm (cN b (o+1) q)=false \/ (bK (cN b (o+1) q) 0=o+1 /\ bK (cN b (o+1) q) 4=0))
 (w:b.getD (o%2) []=S.getD (o%2) []) (x:b.getD ((o+1)%2) []=S.getD ((o+1)%2) [] \/ dm (b.getD ((o+1)%2) [])=false):Inv b o L:=by
 have y:=h.le;have B:=h.room
 have C:∀k p,dd b o k p=dd S o k p:=fun k p=>by
  have A:∀n i,p+i <= aW S.length -> dx b o k p n i=dx S o k p n i:=fun n i=>by
   induction i with
   |zero=>intro _;rfl
   |succ i s=>intro hi;simp only[dx,s (by omega),l (p+i) (by omega)]
  have v:∀i,p+i <= aW S.length -> eq b o p i=eq S o p i:=fun i=>by
   induction i with
   |zero=>intro _;rfl
   |succ i s=>intro hi;simp only[eq,s (by omega),l (p+i) (by omega)]
  unfold dd;rw[f]
  by_cases m:aW S.length <= p
  ·rw[if_pos m,if_pos m]
  ·rw[if_neg m,if_neg m,l p (by omega)];dsimp only;generalize bK (cN S o p) 8=n
   by_cases r:65536<n \/ aW S.length<p+takes n
   ·rw[if_pos r,if_pos r]
   ·rw[if_neg r,if_neg r,A n _ (by omega),v _ (by omega)]
 refine⟨by rw[f];exact h.n8,by rw[f];exact y,h.gen,by rw[f];exact B,h.lens,fun j t=>?_,?_,?_,?_,?_,?_,?_⟩
 ·refine(h.recs j t).sub fun a D=>?_
  have:=ix L (j+1);rw[fw L j t] at this;rw[l _ (by omega)]
 ·rw[C];exact h.stop
 ·intro p m c d u;rw[f] at c;rw[l p c] at d u⊢;exact h.beyond p m c d u
 ·intro p c d;rw[f] at c;rw[l p c] at d⊢;exact h.own p c d
 ·intro p c d;rw[f] at c;rcases z p c with e|e|e
  ·rw[e] at d⊢;exact h.other p c d
  ·rw[e] at d;cases d
  ·exact⟨by omega,fun _=>e.2⟩
 ·rw[w];exact h.head
 ·intro hh;rcases x with e|e
  ·rw[e] at hh⊢;exact h.head2 hh
  ·unfold eH at hh;rw[e] at hh;exact absurd hh (by simp only[Bool.false_and,Bool.false_eq_true,not_false_eq_true])
theorem Inv.torn_replace{S f:List (List UInt8)}{L:List (List UInt8)}{b t:List UInt8}(h:Inv S i L)(s:takes b.length <= aW S.length)(v:j<takes b.length)(a:mP S f (i+1) 0 0 b j)(r:dm t=false):
 Inv (f.set (cm S.length (i+1) (0+j)) t) i L:=by
 have u:=h.gen;have p:(f.set (cm S.length (i+1) (0+j)) t).length=S.length:=by rw[List.length_set,a.len]
 have o:∀k q,q<aW S.length -> cN (f.set (cm S.length (i+1) (0+j)) t) k q=if k%2=(i+1)%2 /\ q=0+j then t else cN f k q:=fun k q d=>by
  rw[<- a.len,rO _ _ _ _ _ _ (by rw[a.len];omega) (by rw[a.len];exact d)]
 have n:∀c,c<2 -> (f.set (cm S.length (i+1) (0+j)) t).getD c []=S.getD c []:=fun c m=>by
  rw[<- a.len,rP _ _ _ _ _ m (by rw[a.len];omega),a.heads c m]
 refine h.other_change p (fun q d=>?_) (fun q d=>?_) (n _ (by omega)) (.inl (n _ (by omega)))
 ·rw[o i q d,if_neg (by omega),a.sec i q d,if_neg (by omega)]
 ·rw[o _ q d]
  by_cases e:q=0+j
  ·rw[if_pos ⟨rfl,e⟩];exact .inr (.inl r)
  ·rw[if_neg (fun hh=>e hh.2),a.sec _ q d]
   by_cases l:q<0+j
   ·rw[if_pos ⟨rfl,by omega,l⟩];exact .inr (.inr ⟨jh _ _ _ _ (by omega),mF _ _ _ _ (by omega)⟩)
   ·rw[if_neg (fun hh=>l hh.2.2)];exact .inl rfl
theorem Inv.torn_head{S c:List (List UInt8)}{L:List (List UInt8)}{b t:List UInt8}(h:Inv S i L)(n:takes b.length <= aW S.length)(a:mP S c (i+1) 0 0 b (takes b.length))(l:dm t=false):
 Inv (c.set ((i+1)%2) t) i L:=by
 have o:=h.gen;have m:=h.n8;have k:(c.set ((i+1)%2) t).length=S.length:=by rw[List.length_set,a.len]
 have j:∀d q,cN (c.set ((i+1)%2) t) d q=cN c d q:=fun d q=>kD _ _ _ _ _ (by omega) (by rw[a.len];omega)
 refine h.other_change k (fun q e=>?_) (fun q e=>?_) ?_ (.inr ?_)
 ·rw[j,a.sec i q e,if_neg (by omega)]
 ·rw[j,a.sec _ q e]
  by_cases f:q<0+takes b.length
  ·rw[if_pos ⟨rfl,by omega,f⟩];exact .inr (.inr ⟨jh _ _ _ _ (by omega),mF _ _ _ _ (by omega)⟩)
  ·rw[if_neg (fun hh=>f hh.2.2)];exact .inl rfl
 ·rw[iy _ _ _ _ (by rw[a.len];omega),if_neg (by omega),a.heads _ (by omega)]
 ·rw[iy _ _ _ _ (by rw[a.len];omega),if_pos rfl];exact l
/- A run of writes over a disk with a fault, or without power. -/
theorem mQ(x:Nat×List UInt8)(b:List (Nat×List UInt8))(h:M.down=true):bh M (x::b)=(M,341):=by
 obtain⟨a,s⟩:=x;have e:M.wr a s=(M,341):=by simp[MD.wr,h]
 show(if(M.wr a s).2=0 then bh (M.wr a s).1 b else M.wr a s)=_;rw[e,if_neg (show ¬(341:Int)=0 by decide)]
theorem jH:∀(b:List (Nat×List UInt8))(S:List (List UInt8))(n:Nat)(t:List UInt8)(k:Nat),
 bh ⟨S,false,some (n,t),k⟩ b=if h:n<b.length then(⟨(df S (b.take n)).set (b[n]).1 t,true,none,k+n⟩,341) else(⟨df S b,false,some (n-b.length,t),k+b.length⟩,0)
 |[],S,n,t,k=>by
  rw[dif_neg (by simp)];rfl
 |(a,s)::b,S,0,t,k=>by
  rw[dif_pos (by simp)];show(if((⟨S,false,some (0,t),k⟩:MD).wr a s).2=0 then bh ((⟨S,false,some (0,t),k⟩:MD).wr a s).1 b else(⟨S,false,some (0,t),k⟩:MD).wr a s)=_;have e:(⟨S,false,some (0,t),k⟩:MD).wr a s=(⟨S.set a t,true,none,k⟩,341):=rfl;rw[e,if_neg (show ¬(341:Int)=0 by decide)];rfl
 |(a,s)::b,S,n+1,t,k=>by
  show(if((⟨S,false,some (n+1,t),k⟩:MD).wr a s).2=0 then bh ((⟨S,false,some (n+1,t),k⟩:MD).wr a s).1 b else(⟨S,false,some (n+1,t),k⟩:MD).wr a s)=_;have e:(⟨S,false,some (n+1,t),k⟩:MD).wr a s=(⟨S.set a s,false,some (n,t),k+1⟩,0):=rfl;rw[e,if_pos rfl,jH b]
  by_cases h:n<b.length
  ·rw[dif_pos h,dif_pos (by simp;exact h)];have c:df (S.set a s) (b.take n)=df S (((a,s)::b).take (n+1)):=rfl;simp only[c,List.getElem_cons_succ];rw[show k+1+n=k+(n+1) by omega]
  ·rw[dif_neg h,dif_neg (by simp;omega)];have c:df (S.set a s) b=df S ((a,s)::b):=rfl;rw[c];simp only[aD];rw[show n+1-(b.length+1)=n-b.length by omega,show k+1+b.length=k+(b.length+1) by omega]
/- Appends over any disk keep the invariant. -/
def xf(M:MD):Prop:=∀n t,M.fault=some (n,t) -> dm t=false
theorem xg(J:MJ)(l:List UInt8)(h:Inv M.S J.g J.L)(f:xf M)(i:l.length <= 65536)(m:J.dead=false):
 Inv (bQ M J l).1.S J.g (bQ M J l).2.1.L /\ xf (bQ M J l).1 /\ (bQ M J l).2.1.g=J.g /\
 (((bQ M J l).2.2=0 /\ (bQ M J l).2.1.L=J.L++[l] /\ (bQ M J l).2.1.dead=false /\ M.down=false /\ (bQ M J l).1.down=false) \/
  ((bQ M J l).2.2=7 /\ (bQ M J l).1=M /\ (bQ M J l).2.1=J) \/
  ((bQ M J l).2.2=341 /\ (bQ M J l).2.1.L=J.L /\ (bQ M J l).2.1.dead=true /\ (bQ M J l).1.down=true)):=by
 obtain⟨S,down,a,k⟩:=M;obtain⟨g,L,s⟩:=J;dsimp only at h m;subst m;have u:=h.room
 by_cases c:aM L+takes l.length <= aW S.length
 ·have b:bQ ⟨S,down,a,k⟩ ⟨g,L,false⟩ l=if(bh ⟨S,down,a,k⟩ (aP S.length g L.length (aM L) l)).2=0 then((bh ⟨S,down,a,k⟩ (aP S.length g L.length (aM L) l)).1,⟨g,L++[l],false⟩,0) else((bh ⟨S,down,a,k⟩ (aP S.length g L.length (aM L) l)).1,⟨g,L,true⟩,(bh ⟨S,down,a,k⟩ (aP S.length g L.length (aM L) l)).2):=by
   unfold bQ;rw[if_neg (by simp),if_neg (by omega),if_neg (by show ¬aW S.length-aM L<_;omega)]
  have v:=dy l.length;cases down with
  |true=>
   have j:bh ⟨S,true,a,k⟩ (aP S.length g L.length (aM L) l)=(⟨S,true,a,k⟩,341):=by
    cases q:aP S.length g L.length (aM L) l with
    |nil=>have:=fJ S.length g L.length (aM L) l;rw[q] at this;simp at this;omega
    |cons x z=>exact mQ _ _ _ rfl
   rw[b,j,if_neg (show ¬(341:Int)=0 by decide)];exact⟨h,f,rfl,.inr (.inr ⟨rfl,rfl,rfl,rfl⟩)⟩
  |false=>
   cases a with
   |none=>
    have j:bh ⟨S,false,none,k⟩ (aP S.length g L.length (aM L) l)=(upM (df S (aP S.length g L.length (aM L) l)) (k+(aP S.length g L.length (aM L) l).length),0):=f9 _ _ _;rw[b,j,if_pos rfl];exact⟨kF (k:=k) h c i,nofun,rfl,.inl ⟨rfl,rfl,rfl,rfl,rfl⟩⟩
   |some r=>
    obtain⟨n,t⟩:=r;have o:=f n t rfl;rw[b,jH]
    by_cases d:n<(aP S.length g L.length (aM L) l).length
    ·rw[dif_pos d,if_neg (show ¬(341:Int)=0 by decide)];have p:n<takes l.length:=by rw[fJ] at d;exact d
     have e:((aP S.length g L.length (aM L) l)[n]).1=cm S.length g (aM L+n):=by simp[aP]
     rw[e];exact⟨h.torn_append c i p (ji S g L.length (aM L) l c n (by omega)) o,nofun,rfl,.inr (.inr ⟨rfl,rfl,rfl,rfl⟩)⟩
    ·rw[dif_neg d,if_pos rfl];exact⟨kF (k:=k) h c i,fun w y e=>by simp at e;rw[<- e.2];exact o,rfl,.inl ⟨rfl,rfl,rfl,rfl,rfl⟩⟩
 ·have b:bQ ⟨S,down,a,k⟩ ⟨g,L,false⟩ l=(⟨S,down,a,k⟩,⟨g,L,false⟩,7):=by
   unfold bQ;rw[if_neg (by simp),if_neg (by omega),if_pos (by show aW S.length-aM L<_;omega)]
  rw[b];exact⟨h,f,rfl,.inr (.inl ⟨rfl,rfl,rfl⟩)⟩
theorem uP(J:MJ)(l:List UInt8)(h:Inv M.S J.g J.L)(j:J.g+1<4294967295)(i:xf M)(u:l.length <= 65536)(s:J.dead=false):
 Inv (cw M J l).1.S (cw M J l).2.1.g (cw M J l).2.1.L /\ xf (cw M J l).1 /\ (cw M J l).2.1.g <= J.g+1 /\
 (((cw M J l).2.2=0 /\ (cw M J l).2.1.L = [l] /\ (cw M J l).2.1.dead=false /\ M.down=false /\ (cw M J l).1.down=false) \/
  ((cw M J l).2.2=7 /\ (cw M J l).1=M /\ (cw M J l).2.1=J) \/
  ((cw M J l).2.2=341 /\ (cw M J l).2.1.L=J.L /\ (cw M J l).2.1.dead=true /\ (cw M J l).1.down=true)):=by
 obtain⟨S,down,a,k⟩:=M;obtain⟨g,L,A⟩:=J;dsimp only at h s j;subst s
 by_cases c:takes l.length <= aW S.length
 ·have b:cw ⟨S,down,a,k⟩ ⟨g,L,false⟩ l=if(bh ⟨S,down,a,k⟩ (ce S.length g l)).2=0 then((bh ⟨S,down,a,k⟩ (ce S.length g l)).1,⟨g+1,[l],false⟩,0) else((bh ⟨S,down,a,k⟩ (ce S.length g l)).1,⟨g,L,true⟩,(bh ⟨S,down,a,k⟩ (ce S.length g l)).2):=by
   unfold cw;rw[if_neg (by simp),if_neg (by omega),if_neg (by show ¬(aW S.length<_ \/ 4294967295 <= g);omega)];rfl
  have m:(ce S.length g l).length=takes l.length+1:=by simp[ce,fJ]
  cases down with
  |true=>
   have r:bh ⟨S,true,a,k⟩ (ce S.length g l)=(⟨S,true,a,k⟩,341):=by
    cases y:ce S.length g l with
    |nil=>rw[y] at m;simp at m
    |cons x D=>exact mQ _ _ _ rfl
   rw[b,r,if_neg (show ¬(341:Int)=0 by decide)];exact⟨h,i,by show g <= g+1;omega,.inr (.inr ⟨rfl,rfl,rfl,rfl⟩)⟩
  |false=>
   cases a with
   |none=>
    have r:bh ⟨S,false,none,k⟩ (ce S.length g l)=(upM (df S (ce S.length g l)) (k+(ce S.length g l).length),0):=f9 _ _ _;rw[b,r,if_pos rfl];exact⟨mb (k:=k) h j c u,nofun,aq _,.inl ⟨rfl,rfl,rfl,rfl,rfl⟩⟩
   |some z=>
    obtain⟨n,t⟩:=z;have q:=i n t rfl;rw[b,jH]
    by_cases o:n<(ce S.length g l).length
    ·rw[dif_pos o,if_neg (show ¬(341:Int)=0 by decide)];refine⟨?_,nofun,by show g <= g+1;omega,.inr (.inr ⟨rfl,rfl,rfl,rfl⟩)⟩;show Inv ((df S ((ce S.length g l).take n)).set ((ce S.length g l)[n]).1 t) g L;rw[m] at o;have v:(aP S.length (g+1) 0 0 l).length=takes l.length:=fJ _ _ _ _ _
     by_cases p:n<takes l.length
     ·have e:((ce S.length g l)[n]).1=cm S.length (g+1) (0+n):=by
       have d:(ce S.length g l)[n]?=some (cm S.length (g+1) (0+n),cT (g+1) 0 l n):=by
        unfold ce;rw[List.getElem?_append_left (by rw[v];exact p)];simp[aP,p]
       rw[(List.getElem?_eq_some_iff.1 d).2]
      have f:(ce S.length g l).take n=(aP S.length (g+1) 0 0 l).take n:=by
       unfold ce;rw[List.take_append_of_le_length (by omega)]
      rw[e,f];exact h.torn_replace c p (ji S (g+1) 0 0 l (by omega) n (by omega)) q
     ·have w:n=takes l.length:=by omega
      subst w
      have e:((ce S.length g l)[takes l.length]).1=(g+1)%2:=by
       have d:(ce S.length g l)[takes l.length]?=some ((g+1)%2,cP (g+1)):=by
        unfold ce;rw[List.getElem?_append_right (by omega),v];simp
       rw[(List.getElem?_eq_some_iff.1 d).2]
      have f:(ce S.length g l).take (takes l.length)=(aP S.length (g+1) 0 0 l).take (takes l.length):=by
       unfold ce;rw[List.take_append_of_le_length (by omega)]
      rw[e,f];exact h.torn_head c (ji S (g+1) 0 0 l (by omega) _ (aq _)) q
    ·rw[dif_neg o,if_pos rfl];exact⟨mb (k:=k) h j c u,fun B C e=>by simp at e;rw[<- e.2];exact q,aq _,.inl ⟨rfl,rfl,rfl,rfl,rfl⟩⟩
 ·have b:cw ⟨S,down,a,k⟩ ⟨g,L,false⟩ l=(⟨S,down,a,k⟩,⟨g,L,false⟩,7):=by
   unfold cw;rw[if_neg (by simp),if_neg (by omega),if_pos (by show aW S.length<_ \/ 4294967295 <= g;omega)]
  rw[b];exact⟨h,i,by show g <= g+1;omega,.inr (.inl ⟨rfl,rfl,rfl⟩)⟩
structure lF(M:MD)(U:MU):Prop where
 inv:Inv M.S U.J.g U.J.L
 torn:xf M
 ok:UOk U
def uQ(U:MU)(x:aU)(r:MD×MU×Int):Prop:=
 lF r.1 r.2.1 /\ r.2.1.J.g <= U.J.g+1 /\ r.2.1.dev=U.dev /\
 ((r.2.2=0 /\ r.2.1.m=x /\ r.2.1.J.dead=false /\ r.1.down=false) \/ (r.2.2=7 /\ r.2.1.m=U.m /\ r.2.1.J.dead=false /\ r.1.down=false) \/ (r.2.2=341 /\ r.2.1.m=U.m /\ r.2.1.J.dead=true /\ r.1.down=true))
theorem AD(e:i<8)(a:bp r=true):(fo i r).length <= 65536:=by
 have b:=(dr a).2.2.2;have c:=cF i;unfold fo;rw[aD,aA];omega
theorem xh{U:MU}{b:List UInt8}{x:aU}(h:lF N U)(j:U.J.dead=false)(q:N.down=false)(p:b.length <= 65536)(r:dF U.dev U.m b=some x)(s:bp x=true):uQ U x (mH N U b x) /\ (mH N U b x).2.1.J.g=U.J.g:=by
 obtain⟨k,l,f,n⟩:=xg N U.J b h.inv h.torn p j;unfold mH
 by_cases e:(bQ N U.J b).2.2=0
 ·rw[if_pos e];rcases n with⟨a,c,d,i,o⟩|⟨a,-⟩|⟨a,-⟩
  ·refine⟨⟨⟨by dsimp only;rw[f];exact k,l,⟨h.ok.dev,s,by dsimp only;rw[c];exact xX h.ok.fold r⟩⟩,by dsimp only;omega,rfl,.inl ⟨rfl,rfl,d,o⟩⟩,f⟩
  ·rw[e] at a;exact absurd a (by decide)
  ·rw[e] at a;exact absurd a (by decide)
 ·rw[if_neg e];rcases n with⟨a,-⟩|⟨a,c,d⟩|⟨a,c,d,i⟩
  ·exact absurd a e
  ·rw[a,c,d];exact⟨⟨h,Nat.le_succ _,rfl,.inr (.inl ⟨rfl,rfl,j,q⟩)⟩,rfl⟩
  ·refine⟨⟨⟨by dsimp only;rw[f];exact k,l,⟨h.ok.dev,h.ok.valid,by dsimp only;rw[c];exact h.ok.fold⟩⟩,by dsimp only;omega,rfl,.inr (.inr ⟨a,rfl,d,i⟩)⟩,f⟩
theorem Co{U:MU}(h:lF N U)(e:U.J.dead=false)(l:N.down=false)(n:U.J.g+1<4294967295):uQ U U.m (lN N U):=by
 obtain⟨f,i,j,o⟩:=uP N U.J (fo U.dev U.m) h.inv n h.torn (AD h.ok.dev h.ok.valid) e;unfold lN;rcases o with⟨a,b,c,d,k⟩|⟨a,b,c⟩|⟨a,b,c,d⟩
 ·exact⟨⟨f,i,⟨h.ok.dev,h.ok.valid,by dsimp only;rw[b];exact pO h.ok.dev h.ok.valid⟩⟩,j,rfl,.inl ⟨a,rfl,c,k⟩⟩
 ·rw[a,b,c];exact⟨h,Nat.le_succ _,rfl,.inr (.inl ⟨rfl,rfl,e,l⟩)⟩
 ·exact⟨⟨f,i,⟨h.ok.dev,h.ok.valid,by dsimp only;rw[b];exact h.ok.fold⟩⟩,j,rfl,.inr (.inr ⟨a,rfl,c,d⟩)⟩
theorem yQ{U:MU}(h:lF N U)(p:U.J.dead=false)(q:N.down=false)(y:U.J.g+1<4294967295)(o:l.length <= 65536)(s:dF U.dev U.m l=some r)(t:bp r=true):uQ U r (dV N U l r):=by
 unfold dV;split
 ·obtain⟨i,j,d,e⟩:=Co h p q y;split
  ·rename_i c;rcases e with⟨a,f,k,n⟩|⟨a,-⟩|⟨a,-⟩
   ·split
    ·exact⟨i,j,d,.inr (.inl ⟨rfl,f,k,n⟩)⟩
    ·obtain⟨⟨u,z,v,a4⟩,w⟩:=xh (b:=l) (x:=r) i k n o (by rw[d,f];exact s) t;exact⟨u,by rw[w];exact j,v.trans d,by rw[f] at a4;exact a4⟩
   ·rw[c] at a;exact absurd a (by decide)
   ·rw[c] at a;exact absurd a (by decide)
  ·rename_i c;rcases e with⟨a,-⟩|e
   ·exact absurd a c
   ·exact⟨i,j,d,.inr e⟩
 ·exact(xh h p q o s t).1
theorem nD{m x:aU}{e:Int}(h:fU m=(x,e))(b:e=0):bp x=true:=by
 unfold fU at h
 by_cases a:bp m=true
 ·rw[if_pos a] at h;obtain⟨rfl,-⟩:=Prod.mk.inj h;exact a
 ·rw[if_neg a] at h;obtain⟨-,rfl⟩:=Prod.mk.inj h;exact absurd b (by decide)
theorem xi{m x:aU}{e:Int}(h:fU m=(x,e)):e=0 \/ e=7:=by
 unfold fU at h
 by_cases a:bp m=true
 ·rw[if_pos a] at h;exact .inl (Prod.mk.inj h).2.symm
 ·rw[if_neg a] at h;exact .inr (Prod.mk.inj h).2.symm
theorem Cq{d:Int}(h:(fK r d y).2=0):bp (fK r d y).1=true:=by
 unfold fK at h⊢;split at h
 ·rename_i a;rw[if_pos a];split at h
  ·rename_i b;rw[if_pos b];exact nD (m:=gz r d y) (x:=(fU (gz r d y)).1) (e:=(fU (gz r d y)).2) rfl h
  ·exact absurd h (show ¬(1:Int)=0 by decide)
 ·exact absurd h (show ¬(5:Int)=0 by decide)
theorem tK{d:Int}(h:(cH r d y).2=0):bp (cH r d y).1=true:=by
 unfold cH at h⊢;split at h
 ·rename_i a;rw[if_pos a];split at h
  ·rename_i b;rw[if_pos b];exact nD (m:=dg r d y) (x:=(fU (dg r d y)).1) (e:=(fU (dg r d y)).2) rfl h
  ·exact absurd h (show ¬(1:Int)=0 by decide)
 ·exact absurd h (show ¬(5:Int)=0 by decide)
theorem Cr{a b:aU}(h:(dN a b).2=0):bp a=true /\ bp b=true /\ bp (dN a b).1=true:=by
 unfold dN at h⊢;split at h
 ·rename_i c;rw[if_pos c];rw[Bool.and_eq_true] at c;exact⟨c.1,c.2,nD (m:=dI a b) (x:=(fU (dI a b)).1) (e:=(fU (dI a b)).2) rfl h⟩
 ·exact absurd h (show ¬(5:Int)=0 by decide)
theorem Cs(d:Int)(l:List bR):(fK m d l).2=0 \/ (fK m d l).2=7 \/ (fK m d l).2=1 \/ (fK m d l).2=5:=by
 unfold fK;split
 ·split
  ·rcases xi (m:=gz m d l) (x:=(fU (gz m d l)).1) (e:=(fU (gz m d l)).2) rfl with h|h
   ·exact .inl h
   ·exact .inr (.inl h)
  ·exact .inr (.inr (.inl rfl))
 ·exact .inr (.inr (.inr rfl))
theorem xj(d:Int)(l:List bR):(cH m d l).2=0 \/ (cH m d l).2=7 \/ (cH m d l).2=1 \/ (cH m d l).2=5:=by
 unfold cH;split
 ·split
  ·rcases xi (m:=dg m d l) (x:=(fU (dg m d l)).1) (e:=(fU (dg m d l)).2) rfl with h|h
   ·exact .inl h
   ·exact .inr (.inl h)
  ·exact .inr (.inr (.inl rfl))
 ·exact .inr (.inr (.inr rfl))
def pC(m:aU)(p:aU×Int)(l:List bR):aU:=if p.2=0 /\ l≠[] then p.1 else m
structure Ct(M:MD)(U:MU)(x:aU)(r:MD×MU×Int):Prop where
 inv:lF r.1 r.2.1
 gen:r.2.1.J.g <= U.J.g+1
 dev:r.2.1.dev=U.dev
 out:(r.2.2=0 /\ r.2.1.m=x /\ r.2.1.J.dead=false /\ r.1.down=false) \/ (r.2.2≠0 /\ r.2.2≠341 /\ r.2.1.m=U.m /\ r.2.1.J.dead=false /\ r.1.down=false) \/ (r.2.2=341 /\ r.2.1.m=U.m /\ r.2.1.J.dead=true /\ r.1.down=true)
 writes:r.1.writes <= M.writes+200000
 size:r.1.S.length=M.S.length
 quiet:r.2.2=1 \/ r.2.2=5 -> r.1=M
theorem uQ.out{U:MU}{a:MD×MU×Int}(h:uQ U r a):(a.2.2=0 /\ a.2.1.m=r /\ a.2.1.J.dead=false /\ a.1.down=false) \/ (a.2.2≠0 /\ a.2.2≠341 /\ a.2.1.m=U.m /\ a.2.1.J.dead=false /\ a.1.down=false) \/ (a.2.2=341 /\ a.2.1.m=U.m /\ a.2.1.J.dead=true /\ a.1.down=true):=by
 obtain⟨-,-,-,h⟩:=h;rcases h with h|⟨b,c⟩|h
 ·exact .inl h
 ·exact .inr (.inl ⟨by rw[b];decide,by rw[b];decide,c⟩)
 ·exact .inr (.inr h)
theorem uQ.loud{U:MU}{a:MD×MU×Int}(h:uQ U r a):¬(a.2.2=1 \/ a.2.2=5):=by
 obtain⟨-,-,-,h⟩:=h;rcases h with⟨h,-⟩|⟨h,-⟩|⟨h,-⟩<;>rw[h]<;>decide
theorem Dv(U:MU):(lN M U).1.S.length=M.S.length /\ (lN M U).1.writes <= M.writes+65536:=p4 M U.J _
theorem zG(U:MU)(b:List UInt8)(x:aU):(mH M U b x).1.S.length=M.S.length /\ (mH M U b x).1.writes <= M.writes+65536:=by
 have:=rF M U.J b;unfold mH;split<;>exact this
theorem AE(U:MU)(b:List UInt8)(x:aU):(dV M U b x).1.S.length=M.S.length /\ (dV M U b x).1.writes <= M.writes+200000:=by
 have a:=Dv M U;have c:=zG M U b x;have d:=zG (lN M U).1 (lN M U).2.1 b x;unfold dV;split
 ·split
  ·split
   ·exact⟨a.1,au a.2 (by omega)⟩
   ·exact⟨d.1.trans a.1,au d.2 (by omega)⟩
  ·exact⟨a.1,au a.2 (by omega)⟩
 ·exact⟨c.1,au c.2 (by omega)⟩
theorem uQ.call{U:MU}{a:MD×MU×Int}(h:uQ U r a)(b:a.1.S.length=N.S.length /\ a.1.writes <= N.writes+200000):Ct N U r a:=
 ⟨h.1,h.2.1,h.2.2.1,h.out,b.2,b.1,fun c=>absurd c h.loud⟩
theorem rQ{U:MU}{e:Int}(h:lF N U)(c:U.J.dead=false)(d:N.down=false)(f:(e=0 /\ r=U.m) \/ (e≠0 /\ e≠341)):Ct N U r (N,U,e):=by
 refine⟨h,Nat.le_succ _,rfl,?_,Nat.le_add_right _ _,rfl,fun _=>rfl⟩;rcases f with⟨a,b⟩|⟨a,b⟩
 ·exact .inl ⟨a,b.symm,c,d⟩
 ·exact .inr (.inl ⟨a,b,rfl,c,d⟩)
theorem p5{U:MU}{p:aU×Int}(h:lF N U)(c:U.J.dead=false)(f:N.down=false)(n:U.J.g+1<4294967295)(j:l.length <= 65536)(o:p.2=0 -> dF U.dev U.m l=some p.1)(q:p.2=0 -> bp p.1=true)(k:p.2=0 \/ p.2=7 \/ p.2=1 \/ p.2=5):Ct N U (pC U.m p y) (fj N U y p l):=by
 have i:fj N U y p l=if y = [] then(N,U,0) else if p.2=0 then dV N U l p.1 else(N,U,p.2):=by
  unfold fj;rw[if_neg (by rw[c];decide)]
 rw[i];unfold pC
 by_cases d:y = []
 ·rw[if_pos d,if_neg (fun hh=>hh.2 d)];exact rQ h c f (.inl ⟨rfl,rfl⟩)
 ·rw[if_neg d]
  by_cases a:p.2=0
  ·rw[if_pos a,if_pos ⟨a,d⟩];exact(yQ h c f n j (o a) (q a)).call (AE _ _ _ _)
  ·rw[if_neg a,if_neg (fun hh=>a hh.1)];refine rQ h c f (.inr ⟨a,?_⟩);rcases k with e|e|e|e<;>rw[e]<;>decide
theorem yR{U:MU}{l:List bR}(h:lF N U)(b:U.J.dead=false)(c:N.down=false)(d:U.J.g+1<4294967295)(f:l.length<18446744073709551616)(e:∀k∈l,k.length<18446744073709551616)(i:(fI l).length <= 65535):Ct N U (pC U.m (fK U.m U.dev l) l) (lu N U l):=
 p5 h b c d (by unfold xW;rw[aD];omega) (fun a=>zZ f e a) Cq (Cs _ _ _)
theorem AF{U:MU}{l:List bR}(h:lF N U)(b:U.J.dead=false)(c:N.down=false)(d:U.J.g+1<4294967295)(f:l.length<18446744073709551616)(e:∀k∈l,k.length<18446744073709551616)(i:(fI l).length <= 65535):Ct N U (pC U.m (cH U.m U.dev l) l) (nX N U l):=
 p5 h b c d (by unfold lr;rw[aD];omega) (fun a=>ua f e a) tK (xj _ _ _)
theorem lF.opened{M:MD}{U:MU}(h:lF M U)(b:M.down=false):eh M=.inl ⟨U.dev,U.m,⟨U.J.g,U.J.L,false⟩⟩:=by
 unfold eh;rw[h.inv.opened b];dsimp only;have a:=h.ok.fold;rw[if_neg (fun e=>by rw[e] at a;cases a),a]
theorem lF.up{M:MD}{U:MU}(h:lF M U):lF { M with down:=false } ⟨U.dev,U.m,⟨U.J.g,U.J.L,false⟩⟩:=⟨h.inv,h.torn,h.ok.dev,h.ok.valid,h.ok.fold⟩
theorem lF.fail{M:MD}{U:MU}(h:lF M U)(n:Nat)(t:List UInt8)(a:dm t=false):lF { M with fault:=some (n,t) } U:=⟨h.inv,fun b c e=>by
 obtain⟨-,rfl⟩:=Prod.mk.inj (Option.some.inj e)
 exact a,h.ok⟩
section
open Go.Lib
attribute [local go_sem] opC upC Ee
theorem tL(h:eM l=some (i,r)):i<8 /\ bp r=true:=by
 cases l with
 |nil=>cases h
 |cons k d=>
  unfold eM at h;dsimp only at h;split at h
  ·split at h
   ·cases h
   ·split at h
    ·rename_i c;split at h
     ·rename_i a;obtain⟨rfl,rfl⟩:=Prod.mk.inj (Option.some.inj h);exact⟨c,lE a⟩
     ·cases h
    ·cases h
  ·cases h
theorem k8{p:aU×Int}(h:okR p=some r):p.2=0 /\ p.1=r:=by
 unfold okR at h;split at h
 ·rename_i a;exact⟨a,Option.some.inj h⟩
 ·cases h
theorem mc{x:aU}(h:dF i r l=some x):bp x=true:=by
 cases l with
 |nil=>cases h
 |cons k c=>
  unfold dF at h;dsimp only at h;split at h
  ·split at h
   ·obtain⟨a,rfl⟩:=k8 h;exact(Cr a).2.2
   ·cases h
  ·split at h
   ·split at h
    ·obtain⟨a,rfl⟩:=k8 h;exact Cq a
    ·cases h
   ·split at h
    ·split at h
     ·obtain⟨a,rfl⟩:=k8 h;exact tK a
     ·cases h
    ·cases h
theorem tM{c:Int}(h:fN N=.inr c):c=6 \/ c=341 \/ c=340:=by
 unfold fN at h;split at h
 ·injection h with h;exact .inl h.symm
 ·split at h
  ·injection h with h;exact .inr (.inl h.symm)
  ·split at h
   ·injection h with h;exact .inr (.inr h.symm)
   ·cases h
def SA(t:TypeId)(x:Value)(a hi b:Option Value):Sem Value:=Instr.sliceAt t x a hi b
theorem nE(t:TypeId)(x a:Value):Instr.sliceAt t x (some a) none none=SA t x (some a) none none:=rfl
theorem pD(b a n c:Nat)(e:1 <= n)(g:n <= c)(h:c <= 9223372036854775807):(SA 41 (.slice (some ⟨b,a,none⟩) n c) (some (.int .i64 1)) none none).run aE w=.ok (.slice (if c=1 then some ⟨b,a,none⟩ else some ⟨b,a+1,none⟩) (n-1) (c-1)) w:=by
 have f:(1:Int) <= (n:Int):=by omega
 unfold SA
 by_cases d:c=1
 ·subst d;obtain rfl:n=1:=by omega
  go_simp
 ·rw[if_neg d];have i:¬(c-1=0):=by omega
  go_simp
theorem Cu(b n c:Nat)(d:1 <= n)(f:n <= c)(g:c <= 9223372036854775807):(SA 64 (.slice (some ⟨b,0,none⟩) n c) (some (.int .i64 1)) none none).run aE w=.ok (.slice (if c=1 then some ⟨b,0,none⟩ else some ⟨b,1,none⟩) (n-1) (c-1)) w:=by
 have e:(1:Int) <= (n:Int):=by omega
 unfold SA
 by_cases a:c=1
 ·subst a;obtain rfl:n=1:=by omega
  go_simp
 ·rw[if_neg a];have h:¬(c-1=0):=by omega
  go_simp
attribute [local go_sem ↓] nE
def g8(w:World)(K:DK)(M:MD)(r:MU ⊕ Int)(e:Ending)(b:World):Prop:=(match r with
 |.inr c=>e=.returned (.tuple #[.pointer none,.int .i64 c])
 |.inl U=>∃u a,e=.returned (.tuple #[.pointer (some ⟨u,0,none⟩),.int .i64 0]) /\ a.K.d=K.d /\ UAt b a u M U /\ (∀q,a.all q -> K.foot q \/ w.heap.size <= q) /\ w.heap.size <= u) /\ Below w.heap.size w b
theorem UAt.new{w:World}{a:JK}{M:MD}{J:MJ}(d:JAt w a M J)(g:JT w a)(f:∀b,a.all b -> 3<b):
 UAt (w.alloc (.cells #[.int .i64 0,.slice none 0 0,.slice none 0 0,.slice none 0 0,.pointer (some ⟨a.j,0,none⟩)] 93)) a w.heap.size M ⟨0,.empty,J⟩:=by
 have c:Below w.heap.size w (w.alloc (.cells #[.int .i64 0,.slice none 0 0,.slice none 0 0,.slice none 0 0,.pointer (some ⟨a.j,0,none⟩)] 93)):=aI _ _;exact⟨⟨none,0,none,0,none,0,Blk.new _ _ _,Rows.nil _ _ _,Rows.nil _ _ _,Rows.nil _ _ _,nofun,nofun,nofun⟩,d.kept c,g.keep fun b e=>c.block b (d.lt b e),f⟩
theorem AG(hT:eJ w)(h3:4 <= w.heap.size)(I:de w)(K:DK)(M:MD)(hd:bT w K M)(al:∀b,K.foot b -> 3<b):
 Calls aE 16 #[.pointer (some ⟨K.d,0,none⟩)] w (g8 w K M (eh M)):=by
 have hO:=Cc w K M hd I;obtain⟨o,G⟩:=aH (fN M);rw[G] at hO;have HO:=ae hO;have aR:=ae G;have HT:=ae hT;have cN:=ae al;clear hO G hT al hd I
 go_enter func16,ntmps16
 go_wp2_with fail;refine HO.out.mono ?_;rintro e w1 ⟨hm,a5⟩;clear HO;cases o with
 |inr c=>
  obtain rfl:e=.returned (.tuple #[.pointer none,.int .i64 c]):=hm;have df:¬c=0:=by rcases tM aR.out with h|h|h<;>rw[h]<;>decide
  have Q:=ae (show g8 w K M (eh M) (.returned (.tuple #[.pointer none,.int .i64 c])) w1 from by
   unfold eh;rw[aR.out]
   exact⟨rfl,a5⟩)
  clear a5;go_wp2_with fail;go_ret2;exact Q.out
 |inl J=>
  obtain⟨c6,rfl,hK,hj,cg⟩:=hm;obtain⟨u,e1,e2,bG,bY,bW⟩:=hj.slim;rw[<- e1];have bF:∀b,u.all b -> K.foot b \/ w.heap.size <= b:=fun b hb=>cg b (bY b hb)
  have ck:∀b,u.all b -> 3<b:=fun b hb=>by
   rcases bF b hb with h|h
   ·exact cN.out b h
   ·omega
  have hR:=Ax w1 u M J bG;have HR:=ae hR;have aS:=ae bG;have cD:=ae bW;have cJ:=ae bF;have cO:=ae ck;have bR:=ae a5;have cE:=ae (show u.K.d=K.d by rw[e2,hK]);clear hR hj bG bW cg bF ck a5 bY e2 e1 hK c6;go_wp2_with fail;refine HR.out.mono ?_;rintro e f ⟨r,R,rfl,bJ,bX,b2⟩;obtain⟨a,aX,rfl,b6,cX⟩:=bJ.shape;have aW:=ae bJ;have bP:=ae bX;have bg:=ae b2;have bV:Below w.heap.size w f:=bR.out.trans (bg.out.mono bR.out.size);have ad:=ae bV;clear HR bJ bX b2 bV;obtain⟨g,L,ao⟩:=J;cases L with
  |nil=>
   have Q:=ae (show g8 w K M (eh M) (.returned (.tuple #[.pointer none,.int .i64 340])) f from by
    unfold eh;rw[aR.out];dsimp only;rw[if_pos rfl]
    exact⟨rfl,ad.out⟩)
   dsimp only[List.length_nil];go_wp2_with fail;go_ret2;exact Q.out
  |cons Z L=>
   have az:=ae (show eh M=match ff (Z::L) with
    |none=>.inr 5
    |some (d,m)=>.inl ⟨d,m,⟨g,Z::L,ao⟩⟩ from by
    unfold eh;rw[aR.out];dsimp only;rw[if_neg (by simp)];cases ff (Z::L) with
    |none=>rfl
    |some p=>rfl)
   obtain⟨gb,c9,x0,hv,ai,bC⟩:=aW.out.elem 0 (by simp);simp at hv;obtain⟨rfl,rfl⟩:=hv;have b1:Z.length <= 65536:=aS.out.lens Z List.mem_cons_self;have ai:aO R f x0 Z:=ai;have cZ:gb<f.heap.size:=il bC;have bK:=UAt.new (aS.out.kept bg.out) (cD.out.keep fun b hb=>bg.out.block b (aS.out.lt b hb)) cO.out;obtain⟨w3,aY⟩:=aQ (f.alloc (.cells #[.int .i64 0,.slice none 0 0,.slice none 0 0,.slice none 0 0,.pointer (some ⟨u.j,0,none⟩)] 93));rw[<- aY] at bK;have bA:Below f.heap.size f w3:=by rw[aY];exact aI _ _
   have cG:=ae bK;have br:=ae aY;have av:=ae bA;have bd:=ae ai;have V:=ae (show Below w.heap.size w w3 from ad.out.trans (bA.mono ad.out.size));obtain⟨nL,aJ⟩:=aH ((Z::L).length);have cl:nL=L.length+1:=by rw[<- aJ];rfl
   have c2:¬(nL:Int)=0:=by omega
   have c4:(1:Int) <= (nL:Int):=by omega
   have c3:(0:Int)<(nL:Int):=by omega
   have cY:nL <= aX:=by rw[<- aJ];exact b6
   have c8:=ae aJ;have aV:=ae cl;have bj:=ae cY;dsimp only at aW⊢;rw[aJ] at aW⊢;clear bK aY bA aJ b6 cl;cases Z with
   |nil=>
    obtain⟨a0,c0,rfl,-⟩:=id ai
    have Q:=ae (show g8 w K M (eh M) (.returned (.tuple #[.pointer none,.int .i64 5])) w3 from by
     rw[az.out]
     exact⟨rfl,V.out⟩)
    dsimp only[List.length_nil] at *;clear ai bd;go_wp2_with fail;rw[<- br.out];go_ret2;exact Q.out
   |cons k r=>
    obtain⟨a0,c0,rfl,co,cp,-,ba⟩:=id ai;obtain⟨bb,bc,-,-,-,rfl,db,-,-,-⟩:=ba.resolve_left (by simp);obtain⟨-,-,-,ba⟩:=ai.cells;obtain⟨cR,c7,cq,-,dc,b8⟩:=ba.resolve_left (by simp);obtain⟨rfl,rfl⟩:bb=cR /\ bc=c7:=by simpa using cq
    have a6:=b8 0 (by simp);rw[Nat.add_zero,List.getElem_cons_zero] at a6;obtain⟨nb,aK⟩:=aH ((k::r).length);rw[aK] at bC co;have aL:nb-1=r.length:=by rw[<- aK];rfl
    have cm:1 <= nb:=by rw[<- aK,aD];omega
    have bZ:¬(nb:Int)=0:=by omega
    have cV:((nb:Int) == 0)=false:=beq_eq_false_iff_ne.2 bZ;have cU:(1:Int) <= (nb:Int):=by omega
    have cT:(0:Int)<(nb:Int):=by omega
    have cW:c0 <= 9223372036854775807:=by unfold maxLen at cp;omega
    have bm:=ae aK;have bn:=ae aL;have bQ:=ae b1;clear aK aL b1 cp ba cq b8
    by_cases a8:k=0
    ·subst a8;have ab:B 0=.int .u8 0:=rfl;rw[ab] at a6;have hcut:=fun W=>pD W bb bc nb c0 cm co cW
     obtain⟨AV,bt⟩:=aH (if c0=1 then some (⟨bb,bc,none⟩:Addr) else some ⟨bb,bc+1,none⟩);rw[bt] at hcut;have cc:=bd.out.drop 1 (by have:=bm.out;omega);have ce:aO R f (.slice AV r.length (c0-1)) r:=by rw[<- bt];exact cc
     rw[bn.out] at hcut;have b4:=ce.keep (w':=w3) fun q _ bI=>av.out.block q bI
     have a2:=AA w3 (cd HT.out h3 V.out) (au h3 V.out.size) u f.heap.size M _ cG.out R AV (c0-1) r b4 (fun q I=>aw (bP.out q I).2 av.out.size) (by have:=bQ.out;rw[bm.out] at this;have:=bn.out;omega);unfold g7 at a2;obtain⟨O,hO⟩:=aH (eM (0::r));rw[hO] at a2;have bN:=ae a2;have be:=ae hO;clear a2 hO b4 ce cc bt ab;go_wp2_with fail;rw[<- br.out];refine bN.out.mono ?_;rintro e w4 s;clear bN hcut;cases O with
     |none=>
      obtain⟨rfl,aN⟩:=s
      have Q:=ae (show g8 w K M (eh M) (.returned (.tuple #[.pointer none,.int .i64 5])) w4 from by
       rw[az.out]
       have e:ff ((0::r)::L)=none:=by
        unfold ff;dsimp only;rw[be.out]
       rw[e]
       exact⟨rfl,V.out.trans (aN.below (fun q I=>by have:=ad.out.size;omega) V.out.size)⟩)
      clear aN;go_wp2_with fail;go_ret2;exact Q.out
     |some p=>
      obtain⟨rfl,bz,aN⟩:=s;obtain⟨l,T⟩:=p;have b3:=tL be.out
      have bS:=ae (show ff ((0::r)::L)=(dk l T L).map fun x=>(l,x) by
       unfold ff;dsimp only
       rw[be.out])
      obtain⟨F1,bv⟩:=aQ (.func (.func 51) #[.pointer (some ⟨f.heap.size,0,none⟩)] #[]:Value);obtain⟨F2,bw⟩:=aQ (.func (.func 52) #[.pointer (some ⟨f.heap.size,0,none⟩)] #[]:Value);obtain⟨F3,bx⟩:=aQ (.func (.func 53) #[.pointer (some ⟨f.heap.size,0,none⟩)] #[]:Value);obtain⟨v1,v2,U,g1,g2,g3,bB,F⟩:=AB w4 F1 F2 F3;have cH:=ae (bz.keep bB);have c5:=bz.lt;have cM:=ae (show w4.heap.size≠f.heap.size by omega);have cL:=ae F;have cK:=ae (show w4.heap.size<U.heap.size from lt_of_block F);have a4:aT (fun q=>q=f.heap.size) w3 U:=aN.trans (aT.of_below bB) fun _ hi=>.inl hi
      have bU:=ae (show f.heap.size <= U.heap.size from au av.out.size a4.size);have bM:=ae (show Below w.heap.size w U from V.out.trans (a4.below (fun q I=>by have:=ad.out.size;omega) V.out.size));have cQ:=ae (show ∀b,b<f.heap.size -> U.heap[b]?=f.heap[b]? from fun b hb=>(a4.block b (by have:=av.out.size;omega) (by omega)).trans (av.out.block b hb));have cA:=ae bv;have cB:=ae bw;have cC:=ae bx;have bh:=ae b3;have b7:aX <= 9223372036854775807:=by unfold maxLen at cX;omega
      have b9:=fun W=>Cu W gb nL aX (by have:=aV.out;omega) bj.out b7
      obtain⟨AL,bs⟩:=aH (if aX=1 then some (⟨gb,0,none⟩:Addr) else some ⟨gb,1,none⟩);obtain⟨n,hn⟩:=aH L.length;have di:n <= 9223372036854775806:=by have:=aV.out;have:=bj.out;omega
      rw[bs,show nL-1=n by have:=aV.out;omega] at b9;have cz:=ae bs;have Hn:=ae hn;rw[bv] at g1;rw[bw] at g2;rw[bx] at g3;clear bs hn bz aN bB F a4 bv bw bx b3 c5 bC a6 c2 c4 c3 bZ cV cm cU cT b7 bd bQ bm bn
      have ax:=ae (show dk l T L=none -> ∀W,Below w.heap.size w W -> g8 w K M (eh M) (.returned (.tuple #[.pointer none,.int .i64 5])) W from fun hn W hW=>by
       rw[az.out,bS.out,hn]
       exact⟨rfl,hW⟩)
      have cI:=ae (show ∀m,dk l T L=some m -> ∀W,Below w.heap.size w W -> UAt W u f.heap.size M ⟨l,m,⟨g,(0::r)::L,ao⟩⟩ -> g8 w K M (eh M) (.returned (.tuple #[.pointer (some ⟨f.heap.size,0,none⟩),.int .i64 0])) W from fun m hn W hW hU=>by
       rw[az.out,bS.out,hn]
       exact⟨⟨_,u,rfl,cE.out,hU,cJ.out,ad.out.size⟩,hW⟩)
      go_wp2_with fail;clear g1 g2 g3 b9
      go_loopw [62] (fun i wr=>∃(k:Nat)(m:aU),k <= n /\ i=.int .i64 (k:Int) /\ bp m=true /\ dk l T L=dk l m (L.drop k) /\ UAt wr u f.heap.size M ⟨l,m,⟨g,(0::r)::L,ao⟩⟩ /\ aT (fun q=>q=f.heap.size) U wr) (fun i _=>n-(intOf i).toNat)
      case atStart=>exact⟨0,T,by omega,rfl,bh.out.2,rfl,cH.out,aT.refl _ _⟩
      case round=>
       obtain⟨k,m,dh,rfl,ct,ar,hU,G⟩:=hrel;have cr:f.heap.size <= wr.heap.size:=au bU.out G.size;have al:∀q,q=f.heap.size -> w.heap.size <= q:=fun q I=>by have:=ad.out.size;omega
       have a3:Below w.heap.size w wr:=bM.out.trans (G.below al bM.out.size)
       by_cases cj:k<n
       ·have c1:(k:Int)<(n:Int):=by omega
        have ci:k<L.length:=by rw[Hn.out];exact cj
        obtain⟨aZ,da,x,cs,aG,bD⟩:=aW.out.elem (k+1) (by rw[aD];omega);have e1:aZ=gb:=by simp at cs;omega
        subst e1;have aG:aO R f x L[k]:=aG;have bL:L[k].length <= 65536:=aS.out.lens _ (List.mem_cons_of_mem _ (aC ci));have bE:L.drop k=L[k]::L.drop (k+1):=List.drop_eq_getElem_cons ci;obtain⟨y,cu⟩:=aH L[k];rw[cu] at aG bL bE;rw[bE] at ar;have cS:AL=some ⟨aZ,1,none⟩:=by rw[<- cz.out];exact if_neg (by have:=bj.out;have:=aV.out;omega)
        subst cS;have bH:∀q,q<f.heap.size -> wr.heap[q]?=f.heap[q]?:=fun q I=>(G.block q (by have:=bU.out;omega) (by omega)).trans (cQ.out q I)
        have a7:wr.cell? ⟨aZ,1+k,none⟩=some x:=by
         rw[Nat.add_comm 1 k];unfold World.cell? at bD⊢;rw[bH aZ cZ];exact bD
        have F:wr.heap[w4.heap.size]?=some (pA F1 F2 F3):=(G.block _ cK.out cM.out).trans cL.out;have bk:=ae G;have HU:=ae hU;have Y:=ae ar;have v:=ae a3;have bl:=ae al;have bq:=ae ct;have ak:=aG.keep (w':=wr) fun q _ bI=>bH q bI
        have bO:=ae ak;have bf:=ae (show ∀q,R q -> q<wr.heap.size from fun q I=>aw (bP.out q I).2 cr);clear ar bE cu bD cs G hU a3 aG bH al ct;cases y with
        |nil=>
         obtain⟨ay,cy,rfl,-⟩:=id ak;dsimp only[List.length_nil] at *;clear ak bO;go_wp2_with fail;go_ret2;exact ax.out Y.out _ v.out
        |cons N C=>
         obtain⟨ay,cy,rfl,cv,cw,-,-⟩:=id ak;obtain⟨-,-,-,cx⟩:=ak.cells;obtain⟨an,oy,rfl,-,dd,ca⟩:=cx.resolve_left (by simp);have E:=ca 0 (by simp);rw[Nat.add_zero,List.getElem_cons_zero] at E;obtain⟨ny,aM⟩:=aH ((N::C).length);rw[aM] at a7 cv;have aL:ny-1=C.length:=by rw[<- aM];rfl
         have cn:1 <= ny:=by rw[<- aM,aD];omega
         have dj:¬(ny:Int)=0:=by omega
         have dl:(0:Int)<(ny:Int):=by omega
         have cb:cy <= 9223372036854775807:=by unfold maxLen at cw;omega
         have hcut:=fun W=>pD W an oy ny cy cn cv cb
         obtain⟨aP,bu⟩:=aH (if cy=1 then some (⟨an,oy,none⟩:Addr) else some ⟨an,oy+1,none⟩);rw[bu,aL] at hcut;have cf:=ak.drop 1 (by rw[aM];exact cn);have b5:aO R wr (.slice aP C.length (cy-1)) C:=by rw[<- bu];exact cf
         have bo:=ae (show C.length <= 400000 by rw[aD] at bL;omega);have ab:B N=.int .u8 (N.toNat:Int):=rfl;rw[ab] at E;have bi:=ae b5;clear ak bO cx ca aM cf b5 bu bL ab cw cb aL
         by_cases h1:N=1
         ·skip
          subst h1;have E:wr.cell? ⟨an,oy,none⟩=some (.int .u8 1):=E;have S:=Ef F;rw[cA.out] at S;have s:=DT.1 wr (cd HT.out h3 v.out) (au h3 v.out.size) u f.heap.size M _ HU.out bh.out.1 bq.out R aP (cy-1) C bi.out bf.out bo.out;dsimp only at s;obtain⟨o,H⟩:=aH (dF l m (1::C));rw[H] at s;have X:=ae s;have D:=ae H;clear s H;go_wp2_with fail;refine X.out.mono ?_;rintro e P hp;clear X S hcut a7 E F;cases o with
          |none=>
           obtain⟨rfl,t⟩:=hp;have ag:=ae (ax.out (by rw[Y.out];unfold dk;rw[D.out]) P (v.out.trans (t.below bl.out v.out.size)));clear t;go_wp2_with fail;go_ret2;exact ag.out
          |some A=>
           obtain⟨rfl,aa,t⟩:=hp
           have aF:=ae (show bp A=true /\ dk l T L=dk l A (L.drop (k+1)) /\ UAt P u f.heap.size M ⟨l,A,⟨g,(0::r)::L,ao⟩⟩ /\ aT (fun q=>q=f.heap.size) U P from
            ⟨mc D.out,by rw[Y.out];conv=>lhs;unfold dk
                         rw[D.out],aa,bk.out.trans t fun _ hi=>.inl hi⟩)
           clear aa t;go_wp2_with fail
           go_roundw
           case rel=>exact⟨k+1,A,by omega,by go_num,aF.out⟩
           case measure=>simp[intOf];omega
         ·by_cases h2:N=2
          ·skip
           subst h2;have E:wr.cell? ⟨an,oy,none⟩=some (.int .u8 2):=E;have S:=Eg F;rw[cB.out] at S;have s:=DT.2 wr (cd HT.out h3 v.out) (au h3 v.out.size) u f.heap.size M _ HU.out bh.out.1 bq.out R aP (cy-1) C bi.out bf.out bo.out;dsimp only at s;obtain⟨o,H⟩:=aH (dF l m (2::C));rw[H] at s;have X:=ae s;have D:=ae H;clear s H;go_wp2_with fail;refine X.out.mono ?_;rintro e P hp;clear X S hcut a7 E F;cases o with
           |none=>
            obtain⟨rfl,t⟩:=hp;have ag:=ae (ax.out (by rw[Y.out];unfold dk;rw[D.out]) P (v.out.trans (t.below bl.out v.out.size)));clear t;go_wp2_with fail;go_ret2;exact ag.out
           |some A=>
            obtain⟨rfl,aa,t⟩:=hp
            have aF:=ae (show bp A=true /\ dk l T L=dk l A (L.drop (k+1)) /\ UAt P u f.heap.size M ⟨l,A,⟨g,(0::r)::L,ao⟩⟩ /\ aT (fun q=>q=f.heap.size) U P from
             ⟨mc D.out,by rw[Y.out];conv=>lhs;unfold dk
                          rw[D.out],aa,bk.out.trans t fun _ hi=>.inl hi⟩)
            clear aa t;go_wp2_with fail
            go_roundw
            case rel=>exact⟨k+1,A,by omega,by go_num,aF.out⟩
            case measure=>simp[intOf];omega
          ·by_cases a1:N=3
           ·skip
            subst a1;have E:wr.cell? ⟨an,oy,none⟩=some (.int .u8 3):=E;have S:=Eh F;rw[cC.out] at S;have s:=yM wr (cd HT.out h3 v.out) (au h3 v.out.size) u f.heap.size M _ HU.out  bq.out R aP (cy-1) C bi.out bf.out bo.out;dsimp only at s;obtain⟨o,H⟩:=aH (dF l m (3::C));rw[H] at s;have X:=ae s;have D:=ae H;clear s H;go_wp2_with fail;refine X.out.mono ?_;rintro e P hp;clear X S hcut a7 E F;cases o with
            |none=>
             obtain⟨rfl,t⟩:=hp;have ag:=ae (ax.out (by rw[Y.out];unfold dk;rw[D.out]) P (v.out.trans (t.below bl.out v.out.size)));clear t;go_wp2_with fail;go_ret2;exact ag.out
            |some A=>
             obtain⟨rfl,aa,t⟩:=hp
             have aF:=ae (show bp A=true /\ dk l T L=dk l A (L.drop (k+1)) /\ UAt P u f.heap.size M ⟨l,A,⟨g,(0::r)::L,ao⟩⟩ /\ aT (fun q=>q=f.heap.size) U P from
              ⟨mc D.out,by rw[Y.out];conv=>lhs;unfold dk
                           rw[D.out],aa,bk.out.trans t fun _ hi=>.inl hi⟩)
             clear aa t;go_wp2_with fail
             go_roundw
             case rel=>exact⟨k+1,A,by omega,by go_num,aF.out⟩
             case measure=>simp[intOf];omega
           ·have a9:∀j:Nat,j<256 -> N≠UInt8.ofNat j -> ¬(N.toNat:Int)=(j:Int):=fun j hj h e=>h (by
             have e':N.toNat=j:=by omega
             rw[<- e']
             simp)
            obtain⟨z,S⟩:=Ei F (N.toNat:Int) (a9 1 (by decide) h1) (a9 2 (by decide) h2) (a9 3 (by decide) a1)
            have cP:=ae (show dF l m (N::C)=none by
             unfold dF;dsimp only
             rw[if_neg a1,if_neg h1,if_neg h2])
            have cF:=ae (show dk l T L=none by
             rw[Y.out];unfold dk
             rw[cP.out])
            clear h1 h2 a1 a9 hcut;go_wp2_with fail;go_ret2;exact ax.out cF.out _ v.out
       ·have c1:¬(k:Int)<(n:Int):=by omega
        have ch:L.drop k = []:=List.drop_eq_nil_of_le (by rw[Hn.out];omega);rw[ch] at ar;have ag:=ae (cI.out m ar wr a3 hU);clear ar ch hU G a3 cj al cr;go_wp2_with fail;go_ret2;exact ag.out
    ·have dg:¬(k.toNat:Int)=0:=fun e=>a8 (UInt8.toNat_inj.1 (by simpa using e))
     have ab:B k=.int .u8 (k.toNat:Int):=rfl;rw[ab] at a6
     have Q:=ae (show g8 w K M (eh M) (.returned (.tuple #[.pointer none,.int .i64 5])) w3 from by
      rw[az.out]
      have e:ff ((k::r)::L)=none:=by
       unfold ff eM;dsimp only;rw[if_neg a8]
      rw[e]
      exact⟨rfl,V.out⟩)
     clear a8 ab;go_wp2_with fail;rw[<- br.out];go_ret2;exact Q.out
end
section
open Go.Lib
attribute [local go_sem] opC upC
attribute [local go_sem ↓] nE
theorem AH{b:List UInt8}(h:60000<b.length):fi b=(.empty,5):=by
 refine(CZ b).resolve_left fun a=>?_
 obtain⟨d,c⟩:=CY a;have:=(dr d).2.2.2;rw[c] at this;omega
theorem oM(c:Option Addr)(d:Nat)(b:List UInt8)(f:aO F w (.slice c b.length d) b)(hF:∀q,F q -> q<w.heap.size)(s:b.length <= 400000):
 Calls aE 134 #[.slice c b.length d] w (zv w b):=by
 by_cases m:b.length <= 60000
 ·exact wK w F c d b f hF m
 ·have h:=AH (b:=b) (by omega);have r:(60000:Int)<(b.length:Int):=by omega
  obtain⟨j,a⟩:=aQ (w.alloc (.cells #[.slice none 0 0,.slice none 0 0,.slice none 0 0] 75));have g:Below w.heap.size w j:=by rw[a];exact aI _ _
  have i:Blk j w.heap.size [.slice none 0 0,.slice none 0 0,.slice none 0 0] 75:=by rw[a];exact Blk.new _ _ _
  have Q:=ae (aS i);have k:=ae g;have e:=ae h;have l:=ae a;clear i g a h f hF
  go_enter func134,ntmps134
  go_wp2_with fail;rw[<- l.out];obtain⟨n,o,p⟩:=Q.out;exact bodyPost_ret (v:=.tuple #[.agg #[.slice none 0 0,.slice none 0 0,.slice none 0 0],.int .i64 5]) (by simp[results,results134,go_sem,n,o,p]) rfl ⟨_,by rw[e.out],by rw[e.out];exact fq _ _,k.out⟩
theorem yS(p:aU×Int):(okR p).isSome=(p.2 == 0):=by
 unfold okR
 by_cases h:p.2=0
 ·rw[if_pos h,h];rfl
 ·rw[if_neg h,beq_eq_false_iff_ne.2 h];rfl
theorem cG.set3{c d e:Value}(h:cG G W c d e r)(hF:∀q,G q -> q≠i)(g j k:Value):cG G (((W.setCell ⟨i,0,none⟩ g).setCell ⟨i,1,none⟩ j).setCell ⟨i,2,none⟩ k) c d e r:=
 h.keep fun q f _=>by
  have a:=hF q f;rw[Below.heap_setCell _ ⟨i,2,none⟩ _ q a,Below.heap_setCell _ ⟨i,1,none⟩ _ q a,Below.heap_setCell _ ⟨i,0,none⟩ _ q a]
def AJ(w:World)(o:Option aU)(e:Ending)(a:World):Prop:=∃r y,e=.returned (.tuple #[r,.bool o.isSome]) /\ dl (fun q=>w.heap.size <= q) a r y /\ (∀x,o=some x -> y=x) /\ Below w.heap.size w a
theorem yT(h:dl F w v m)(hv:bp m=true)(d:Nat)(hd:d<8)(G:aX)(av:Option Addr)(ar:Nat)(b:List UInt8)(hB:aO G w (.slice av b.length ar) b)(hl:b.length <= 65536):
 Calls aE 135 #[v,.int .i64 (d:Int),.slice av b.length ar] w (AJ w (dF d m b)):=by
 replace h:=h.mono (G:=fun q=>q<w.heap.size) fun q _ aa=>aa
 replace hB:=hB.insideU
 have aY:=ae (show(∀x∈m.items,x.key.length <= 1000000000) /\ ∀x∈m.gone,x.key.length <= 1000000000 from⟨fun x t=>au ((dD hv).1 x t) (by decide),fun x t=>au ((dD hv).2 x t) (by decide)⟩)
 replace h:=o6 h 75
 obtain⟨a1,p1,a2,p2,a3,p3,wx,rfl,a9,bh,bs,Hx,bW⟩:=h;obtain⟨s,a5⟩:=aQ (wx.alloc (.cells #[.slice none 0 0,.slice none 0 0,.slice none 0 0] 75));have bB:Below w.heap.size w s:=by rw[a5];exact bh.out.alloc bh.out.size _
 have bM:s.heap.size=w.heap.size+2:=by rw[a5];simp[bs.out]
 have k1:Blk s w.heap.size [.slice a1 m.seen.length p1,.slice a2 m.items.length p2,.slice a3 m.gone.length p3] 75:=by rw[a5];exact bW.out.alloc _
 have k2:Blk s (w.heap.size+1) [.slice none 0 0,.slice none 0 0,.slice none 0 0] 75:=by
  have:=Blk.new wx #[.slice none 0 0,.slice none 0 0,.slice none 0 0] 75;rw[a5,<- bs.out];exact this
 have J:=ae (show ∀W,Below s.heap.size s W -> Below w.heap.size w W /\ Blk W w.heap.size [.slice a1 m.seen.length p1,.slice a2 m.items.length p2,.slice a3 m.gone.length p3] 75 /\ Blk W (w.heap.size+1) [.slice none 0 0,.slice none 0 0,.slice none 0 0] 75 /\ cG (fun b=>b<w.heap.size) W (.slice a1 m.seen.length p1) (.slice a2 m.items.length p2) (.slice a3 m.gone.length p3) m /\ aO (fun q=>q<w.heap.size) W (.slice av b.length ar) b from fun W hb=>by
  have bj:Below w.heap.size w W:=bB.trans (hb.mono (by omega))
  exact⟨bj,k1.keep (hb.block _ k1.lt),k2.keep (hb.block _ k2.lt),Hx.out.keep (w':=W) fun b aa _=>(bj.block b aa).trans (bh.out.block b aa).symm,hB.keep (w':=W) fun b aa _=>bj.block b aa⟩)
 have a8:=ae a5;have aT:=ae bM;have HB:=ae hB;obtain⟨o,ho⟩:=aH (dF d m b);rw[ho];have Ho:=ae ho;clear a5 bB bM hB ho;cases b with
 |nil=>
  have M:=ae (show o=none from Ho.out.symm);obtain⟨bz,-,a,-⟩:=J.out s (Below.refl _ _);clear k1 k2 J HB;dsimp only[List.length_nil]
  go_enter func135,ntmps135
  have Q:=ae (aS a);have C:=ae bz;clear a bz;go_wp2_with fail;rw[<- a9.out,<- a8.out];obtain⟨D,E,H⟩:=Q.out;exact bodyPost_ret (v:=.tuple #[.agg #[.slice none 0 0,.slice none 0 0,.slice none 0 0],.bool false]) (by simp[results,results135,go_sem,D,E,H]) rfl ⟨_,.empty,by rw[M.out];rfl,fq _ _,by rw[M.out];exact nofun,C.out⟩
 |cons Y rr=>
  obtain⟨-,bD,bF,bG⟩:=HB.out.cells;obtain⟨bb,ab,rfl,ca,b0,bE⟩:=bG.resolve_left (by simp);have aP:=bE 0 (by simp);rw[Nat.add_zero,List.getElem_cons_zero,show B Y=.int .u8 (Y.toNat:Int) from rfl] at aP;have be:=ae (show ∀W,Below s.heap.size s W -> W.cell? ⟨bb,ab,none⟩=some (.int .u8 (Y.toNat:Int)) /\ True from fun W hW=>⟨((J.out W hW).1.cell (p:=⟨bb,ab,none⟩) b0).trans aP,trivial⟩);obtain⟨e0,-⟩:=be.out s (Below.refl _ _);obtain⟨K,a0⟩:=aH ((Y::rr).length);have bK:K-1=rr.length:=by rw[<- a0];rfl
  have b3:1 <= K:=by rw[<- a0,aD];omega
  have bZ:¬(K:Int)=0:=by omega
  have cb:((K:Int) == 0)=false:=beq_eq_false_iff_ne.2 bZ;have b9:(1:Int) <= (K:Int):=by omega
  have b8:(0:Int)<(K:Int):=by omega
  have b1:ar <= 9223372036854775807:=by unfold maxLen at bF;omega
  have b2:K <= ar:=by rw[<- a0];exact bD
  have a7:=ae (show rr.length <= 65536 by rw[aD] at hl;omega);have HL:=ae (ut s _ (some ⟨bb,ab,none⟩) ar (Y::rr) 1 (J.out s (Below.refl _ _)).2.2.2.2 (by simp) (by omega));rw[show(Y::rr).drop 1=rr from rfl] at HL;rw[a0] at HL⊢;have b5:=ae a0;have bV:=ae bK;clear bG bE bD bF hl k1 k2 a0 bK
  by_cases aZ:Y=3
  ·subst aZ;have aP:w.cell? ⟨bb,ab,none⟩=some (.int .u8 3):=aP;have e0:s.cell? ⟨bb,ab,none⟩=some (.int .u8 3):=e0;have hcut:=fun W=>pD W bb ab K ar b3 b2 b1
   obtain⟨AV,bi⟩:=aH (if ar=1 then some (⟨bb,ab,none⟩:Addr) else some ⟨bb,ab+1,none⟩);rw[bi,bV.out] at hcut;have bH:=(J.out s (Below.refl _ _)).2.2.2.2.drop 1 (by simp);have bI:aO (fun q=>q<w.heap.size) s (.slice AV rr.length (ar-1)) rr:=by rw[<- bi];exact bH
   have hD:=oM s _ AV (ar-1) rr bI (fun q j=>by have:=aT.out;have a4:q<w.heap.size:=j;omega) (by have:=a7.out;omega);unfold zv at hD;obtain⟨⟨Z,bx⟩,bk⟩:=aH (fi rr);have bm:=lE (b:=rr);rw[bk] at hD bm;have HD:=ae hD;have br:=ae (show o=if bx=0 then okR (dN m Z) else none by rw[<- Ho.out];unfold dF;dsimp only;rw[if_pos rfl,bk]);have bU:=ae bm;clear bH bI bi hD bk bm HL
   go_enter func135,ntmps135
   go_wp2_with fail;rw[<- a9.out,<- a8.out];refine HD.out.mono ?_;rintro e n ⟨r3,rfl,hb,i⟩;clear HD hcut
   replace hb:=o6 hb 75
   obtain⟨bt,bN,bu,bO,bv,bP,a6,rfl,bX,bT,b7,bY,b6⟩:=hb;have bl:Below s.heap.size s a6:=i.trans (bT.out.mono i.size);have bf:=ae bl;obtain⟨bA,ay,a,ad,-⟩:=J.out a6 bl;obtain⟨c0,c1,c2⟩:=aS (J.out n i).2.1;have aV:=(J.out n i).2.2.1;have R:=(J.out n i).1;have bC:w.heap.size<n.heap.size:=(J.out n i).2.1.lt;clear i bl
   by_cases h0:bx=0
   ·subst h0;have bq:=bU.out rfl;obtain⟨⟨x,er⟩,ag⟩:=aH (dN m Z);have I:=yI a6 _ _ (.agg #[.slice a1 m.seen.length p1,.slice a2 m.items.length p2,.slice a3 m.gone.length p3]) (.agg #[.slice bt Z.seen.length bN,.slice bu Z.items.length bO,.slice bv Z.gone.length bP]) m Z ⟨_,_,_,rfl,ad⟩ ⟨_,_,_,rfl,bY.out⟩ aY.out.1 aY.out.2 (fun x t=>au ((dD bq).1 x t) (by decide)) (fun x t=>au ((dD bq).2 x t) (by decide));rw[ag] at I;have HC:=ae I;have aG:=ae (show o=okR (x,er) by rw[br.out,if_pos rfl,ag]);clear I ag a bA ad ay bq aV R;go_wp2_with fail;rw[<- bX.out];refine HC.out.mono ?_;rintro e w6 ⟨r6,rfl,⟨bQ,bR,bS,rfl,t⟩,aM⟩;obtain⟨N,S,rfl,-⟩:=t.seen.shape;obtain⟨O,T,rfl,-⟩:=t.items.shape;obtain⟨P,U,rfl,-⟩:=t.gone.shape;have aN:Below s.heap.size s w6:=bf.out.trans (aM.mono bf.out.size);obtain⟨aL,-,a,-⟩:=J.out w6 aN;have bn:w.heap.size+1<w6.heap.size:=a.lt;obtain⟨u,g,f,c⟩:=dJ a aL (Nat.le_succ _) (.slice N x.seen.length S) (.slice O x.items.length T) (.slice P x.gone.length U);obtain⟨V,X⟩:=aQ (u.alloc (.cells #[.slice N x.seen.length S,.slice O x.items.length T,.slice P x.gone.length U] 75));have L:Below u.heap.size u V:=by rw[X];exact aI _ _
    obtain⟨y0,y1,y2⟩:=aS a;have z0:=a.free 0;have z1:=a.free 1;have z2:=a.free 2;have Q:=ae (aS (f.keep (L.block _ f.lt)))
    have aR:cG (fun q=>a6.heap.size <= q) u (.slice N x.seen.length S) (.slice O x.items.length T) (.slice P x.gone.length U) x:=by
     rw[g];exact t.set3 (fun q j=>by have:=bf.out.size;have:=aT.out;have a4:a6.heap.size <= q:=j;omega) _ _ _
    have aJ:=ae (show dl (fun q=>w.heap.size <= q) V (.agg #[.slice N x.seen.length S,.slice O x.items.length T,.slice P x.gone.length U]) x from⟨_,_,_,rfl,(aR.keep (w':=V) fun q _ aa=>L.block q aa).mono fun q j _=>by have:=bf.out.size;have:=aT.out;have a4:a6.heap.size <= q:=j;show w.heap.size <= q;omega⟩);have C:=ae (show Below w.heap.size w V from c.trans (L.mono c.size));have A:=ae g;have ao:=ae X;obtain⟨m1,ai⟩:=aH x.seen.length;obtain⟨Z,ak⟩:=aH x.items.length;obtain⟨m3,an⟩:=aH x.gone.length;rw[ai,ak,an] at Q aJ A ao;rw[ai,ak,an];clear g X f c L aR t aM aN aL a HC ai ak an c0 c1 c2 bC;go_wp2_with fail;rw[<- A.out];rw[<- ao.out];obtain⟨D,E,H⟩:=Q.out;exact bodyPost_ret (v:=.tuple #[.agg #[.slice N m1 S,.slice O Z T,.slice P m3 U],.bool (er == 0)]) (by simp[results,results135,go_sem,D,E,H]) rfl ⟨_,x,by rw[aG.out,yS],aJ.out,fun z hz=>(k8 (aG.out.symm.trans hz)).2,C.out⟩
   ·have M:=ae (show o=none by rw[br.out,if_neg h0]);clear ay ad c0 c1 c2 bC a bA;obtain⟨u,g,f,c⟩:=dJ aV R (Nat.le_succ _) (.slice none 0 0) (.slice none 0 0) (.slice none 0 0);obtain⟨V,X⟩:=aQ (u.alloc (.cells #[.slice bt Z.seen.length bN,.slice bu Z.items.length bO,.slice bv Z.gone.length bP] 75));have L:Below u.heap.size u V:=by rw[X];exact aI _ _
    have bn:=aV.lt;obtain⟨y0,y1,y2⟩:=aS aV;have z0:=aV.free 0;have z1:=aV.free 1;have z2:=aV.free 2;have Q:=ae (aS (f.keep (L.block _ f.lt)));have C:=ae (show Below w.heap.size w V from c.trans (L.mono c.size));have A:=ae g;have ao:=ae X;clear g X f c L;go_wp2_with fail;rw[<- A.out];rw[<- ao.out];obtain⟨D,E,H⟩:=Q.out;exact bodyPost_ret (v:=.tuple #[.agg #[.slice none 0 0,.slice none 0 0,.slice none 0 0],.bool false]) (by simp[results,results135,go_sem,D,E,H]) rfl ⟨_,.empty,by rw[M.out];rfl,fq _ _,by rw[M.out];exact nofun,C.out⟩
  ·have bJ:¬(Y.toNat:Int)=3:=fun e=>aZ (UInt8.toNat_inj.1 (by show Y.toNat=3;omega))
   obtain⟨oL,bo⟩:=aH (rdL rr);rw[bo] at HL;have aK:=ae bo;clear bo
   by_cases ba:Y=1
   ·subst ba;have aP:w.cell? ⟨bb,ab,none⟩=some (.int .u8 1):=aP;have e0:s.cell? ⟨bb,ab,none⟩=some (.int .u8 1):=e0;clear aZ bJ
    go_enter func135,ntmps135
    go_wp2_with fail;rw[<- a9.out,<- a8.out];refine HL.out.mono ?_;rintro e n I;clear HL;cases oL with
    |none=>
     obtain⟨i,rfl⟩:=I;have M:=ae (show o=none by rw[<- Ho.out];unfold dF;dsimp only;rw[if_neg (by decide),if_pos rfl];rw[aK.out]);obtain⟨R,-,a,-⟩:=J.out n i;clear i e0;obtain⟨u,g,f,c⟩:=dJ a R (Nat.le_succ _) (.slice none 0 0) (.slice none 0 0) (.slice none 0 0);obtain⟨y0,y1,y2⟩:=aS a;have z0:=a.free 0;have z1:=a.free 1;have z2:=a.free 2;have Q:=ae (aS f);have C:=ae c;have A:=ae g;clear g f c;go_wp2_with fail
     skip
     rw[<- A.out];obtain⟨D,E,H⟩:=Q.out;exact bodyPost_ret (v:=.tuple #[.agg #[.slice none 0 0,.slice none 0 0,.slice none 0 0],.bool false]) (by simp[results,results135,go_sem,D,E,H]) rfl ⟨_,.empty,by rw[M.out];rfl,fq _ _,by rw[M.out];exact nofun,C.out⟩
    |some p=>
     obtain⟨l,r⟩:=p;obtain⟨i,al,cl,rfl,ax⟩:=I;obtain⟨R,ay,a,ad,-⟩:=J.out n i;cases r with
     |cons y r'=>
      have M:=ae (show o=none by rw[<- Ho.out];unfold dF;dsimp only;rw[if_neg (by decide),if_pos rfl];rw[aK.out]);obtain⟨q,j⟩:=aH (K-(y::r').length);have bL:¬(q:Int)=(K:Int):=by rw[aD] at j;omega
      rw[j];clear i j ax ay ad e0;obtain⟨u,g,f,c⟩:=dJ a R (Nat.le_succ _) (.slice none 0 0) (.slice none 0 0) (.slice none 0 0);obtain⟨y0,y1,y2⟩:=aS a;have z0:=a.free 0;have z1:=a.free 1;have z2:=a.free 2;have Q:=ae (aS f);have C:=ae c;have A:=ae g;clear g f c;go_wp2_with fail
      skip
      rw[<- A.out];obtain⟨D,E,H⟩:=Q.out;exact bodyPost_ret (v:=.tuple #[.agg #[.slice none 0 0,.slice none 0 0,.slice none 0 0],.bool false]) (by simp[results,results135,go_sem,D,E,H]) rfl ⟨_,.empty,by rw[M.out];rfl,fq _ _,by rw[M.out];exact nofun,C.out⟩
     |nil=>
      rw[show K-([]:List UInt8).length=K from rfl];have bc:=uM aK.out;have bd:=(Rows.of_owns ax).mono (G:=fun q=>q<n.heap.size) fun q j _=>j.2
      have I:=B4 n _ (.agg #[.slice a1 m.seen.length p1,.slice a2 m.items.length p2,.slice a3 m.gone.length p3]) m ⟨_,_,_,rfl,ad⟩ aY.out.1 aY.out.2 (d:Int) _ (.slice al l.length cl) l bd (by have:=a7.out;omega) (fun k hk=>by have:=bc.2 k hk;have:=a7.out;omega);obtain⟨⟨x,er⟩,ag⟩:=aH (fK m (d:Int) l);rw[ag] at I;have HC:=ae I;have aG:=ae (show o=okR (x,er) by rw[<- Ho.out];unfold dF;dsimp only;rw[if_neg (by decide),if_pos rfl];rw[aK.out];exact congrArg okR ag);obtain⟨c0,c1,c2⟩:=aS ay;obtain⟨bw,-⟩:=be.out n i;have az:=ae i;obtain⟨nl,aF⟩:=aH l.length;rw[aF] at HC⊢;clear I i ax bc bd ag a R ad ay aF;go_wp2_with fail;refine HC.out.mono ?_;rintro e w6 ⟨r6,rfl,⟨bQ,bR,bS,rfl,t⟩,aM⟩;obtain⟨N,S,rfl,-⟩:=t.seen.shape;obtain⟨O,T,rfl,-⟩:=t.items.shape;obtain⟨P,U,rfl,-⟩:=t.gone.shape;have aN:Below s.heap.size s w6:=az.out.trans (aM.mono az.out.size);obtain⟨aL,-,a,-⟩:=J.out w6 aN;have bn:w.heap.size+1<w6.heap.size:=a.lt;obtain⟨u,g,f,c⟩:=dJ a aL (Nat.le_succ _) (.slice N x.seen.length S) (.slice O x.items.length T) (.slice P x.gone.length U);obtain⟨V,X⟩:=aQ (u.alloc (.cells #[.slice N x.seen.length S,.slice O x.items.length T,.slice P x.gone.length U] 75));have L:Below u.heap.size u V:=by rw[X];exact aI _ _
      obtain⟨y0,y1,y2⟩:=aS a;have z0:=a.free 0;have z1:=a.free 1;have z2:=a.free 2;have Q:=ae (aS (f.keep (L.block _ f.lt)))
      have aR:cG (fun q=>n.heap.size <= q) u (.slice N x.seen.length S) (.slice O x.items.length T) (.slice P x.gone.length U) x:=by
       rw[g];exact t.set3 (fun q j=>by have:=az.out.size;have:=aT.out;have a4:n.heap.size <= q:=j;omega) _ _ _
      have aJ:=ae (show dl (fun q=>w.heap.size <= q) V (.agg #[.slice N x.seen.length S,.slice O x.items.length T,.slice P x.gone.length U]) x from⟨_,_,_,rfl,(aR.keep (w':=V) fun q _ aa=>L.block q aa).mono fun q j _=>by have:=az.out.size;have:=aT.out;have a4:n.heap.size <= q:=j;show w.heap.size <= q;omega⟩);have C:=ae (show Below w.heap.size w V from c.trans (L.mono c.size));have A:=ae g;have ao:=ae X;obtain⟨m1,ai⟩:=aH x.seen.length;obtain⟨Z,ak⟩:=aH x.items.length;obtain⟨m3,an⟩:=aH x.gone.length;rw[ai,ak,an] at Q aJ A ao;rw[ai,ak,an];clear g X f c L aR t aM aN aL a HC ai ak an c0 c1 c2;go_wp2_with fail;rw[<- A.out];rw[<- ao.out];obtain⟨D,E,H⟩:=Q.out;exact bodyPost_ret (v:=.tuple #[.agg #[.slice N m1 S,.slice O Z T,.slice P m3 U],.bool (er == 0)]) (by simp[results,results135,go_sem,D,E,H]) rfl ⟨_,x,by rw[aG.out,yS],aJ.out,fun z hz=>(k8 (aG.out.symm.trans hz)).2,C.out⟩
   by_cases bg:Y=2
   ·subst bg;have aP:w.cell? ⟨bb,ab,none⟩=some (.int .u8 2):=aP;have e0:s.cell? ⟨bb,ab,none⟩=some (.int .u8 2):=e0;clear aZ bJ ba
    go_enter func135,ntmps135
    go_wp2_with fail;rw[<- a9.out,<- a8.out];refine HL.out.mono ?_;rintro e n I;clear HL;cases oL with
    |none=>
     obtain⟨i,rfl⟩:=I;have M:=ae (show o=none by rw[<- Ho.out];unfold dF;dsimp only;rw[if_neg (by decide),if_neg (by decide),if_pos rfl];rw[aK.out]);obtain⟨R,-,a,-⟩:=J.out n i;clear i e0;obtain⟨u,g,f,c⟩:=dJ a R (Nat.le_succ _) (.slice none 0 0) (.slice none 0 0) (.slice none 0 0);obtain⟨y0,y1,y2⟩:=aS a;have z0:=a.free 0;have z1:=a.free 1;have z2:=a.free 2;have Q:=ae (aS f);have C:=ae c;have A:=ae g;clear g f c;go_wp2_with fail
     skip
     rw[<- A.out];obtain⟨D,E,H⟩:=Q.out;exact bodyPost_ret (v:=.tuple #[.agg #[.slice none 0 0,.slice none 0 0,.slice none 0 0],.bool false]) (by simp[results,results135,go_sem,D,E,H]) rfl ⟨_,.empty,by rw[M.out];rfl,fq _ _,by rw[M.out];exact nofun,C.out⟩
    |some p=>
     obtain⟨l,r⟩:=p;obtain⟨i,al,cl,rfl,ax⟩:=I;obtain⟨R,ay,a,ad,-⟩:=J.out n i;cases r with
     |cons y r'=>
      have M:=ae (show o=none by rw[<- Ho.out];unfold dF;dsimp only;rw[if_neg (by decide),if_neg (by decide),if_pos rfl];rw[aK.out]);obtain⟨q,j⟩:=aH (K-(y::r').length);have bL:¬(q:Int)=(K:Int):=by rw[aD] at j;omega
      rw[j];clear i j ax ay ad e0;obtain⟨u,g,f,c⟩:=dJ a R (Nat.le_succ _) (.slice none 0 0) (.slice none 0 0) (.slice none 0 0);obtain⟨y0,y1,y2⟩:=aS a;have z0:=a.free 0;have z1:=a.free 1;have z2:=a.free 2;have Q:=ae (aS f);have C:=ae c;have A:=ae g;clear g f c;go_wp2_with fail
      skip
      rw[<- A.out];obtain⟨D,E,H⟩:=Q.out;exact bodyPost_ret (v:=.tuple #[.agg #[.slice none 0 0,.slice none 0 0,.slice none 0 0],.bool false]) (by simp[results,results135,go_sem,D,E,H]) rfl ⟨_,.empty,by rw[M.out];rfl,fq _ _,by rw[M.out];exact nofun,C.out⟩
     |nil=>
      rw[show K-([]:List UInt8).length=K from rfl];have bc:=uM aK.out;have bd:=(Rows.of_owns ax).mono (G:=fun q=>q<n.heap.size) fun q j _=>j.2
      have I:=wO n _ (.agg #[.slice a1 m.seen.length p1,.slice a2 m.items.length p2,.slice a3 m.gone.length p3]) m ⟨_,_,_,rfl,ad⟩ aY.out.1 aY.out.2 (d:Int) _ (.slice al l.length cl) l bd (by have:=a7.out;omega) (fun k hk=>by have:=bc.2 k hk;have:=a7.out;omega);obtain⟨⟨x,er⟩,ag⟩:=aH (cH m (d:Int) l);rw[ag] at I;have HC:=ae I;have aG:=ae (show o=okR (x,er) by rw[<- Ho.out];unfold dF;dsimp only;rw[if_neg (by decide),if_neg (by decide),if_pos rfl];rw[aK.out];exact congrArg okR ag);obtain⟨c0,c1,c2⟩:=aS ay;obtain⟨bw,-⟩:=be.out n i;have az:=ae i;obtain⟨nl,aF⟩:=aH l.length;rw[aF] at HC⊢;clear I i ax bc bd ag a R ad ay aF;go_wp2_with fail;refine HC.out.mono ?_;rintro e w6 ⟨r6,rfl,⟨bQ,bR,bS,rfl,t⟩,aM⟩;obtain⟨N,S,rfl,-⟩:=t.seen.shape;obtain⟨O,T,rfl,-⟩:=t.items.shape;obtain⟨P,U,rfl,-⟩:=t.gone.shape;have aN:Below s.heap.size s w6:=az.out.trans (aM.mono az.out.size);obtain⟨aL,-,a,-⟩:=J.out w6 aN;have bn:w.heap.size+1<w6.heap.size:=a.lt;obtain⟨u,g,f,c⟩:=dJ a aL (Nat.le_succ _) (.slice N x.seen.length S) (.slice O x.items.length T) (.slice P x.gone.length U);obtain⟨V,X⟩:=aQ (u.alloc (.cells #[.slice N x.seen.length S,.slice O x.items.length T,.slice P x.gone.length U] 75));have L:Below u.heap.size u V:=by rw[X];exact aI _ _
      obtain⟨y0,y1,y2⟩:=aS a;have z0:=a.free 0;have z1:=a.free 1;have z2:=a.free 2;have Q:=ae (aS (f.keep (L.block _ f.lt)))
      have aR:cG (fun q=>n.heap.size <= q) u (.slice N x.seen.length S) (.slice O x.items.length T) (.slice P x.gone.length U) x:=by
       rw[g];exact t.set3 (fun q j=>by have:=az.out.size;have:=aT.out;have a4:n.heap.size <= q:=j;omega) _ _ _
      have aJ:=ae (show dl (fun q=>w.heap.size <= q) V (.agg #[.slice N x.seen.length S,.slice O x.items.length T,.slice P x.gone.length U]) x from⟨_,_,_,rfl,(aR.keep (w':=V) fun q _ aa=>L.block q aa).mono fun q j _=>by have:=az.out.size;have:=aT.out;have a4:n.heap.size <= q:=j;show w.heap.size <= q;omega⟩);have C:=ae (show Below w.heap.size w V from c.trans (L.mono c.size));have A:=ae g;have ao:=ae X;obtain⟨m1,ai⟩:=aH x.seen.length;obtain⟨Z,ak⟩:=aH x.items.length;obtain⟨m3,an⟩:=aH x.gone.length;rw[ai,ak,an] at Q aJ A ao;rw[ai,ak,an];clear g X f c L aR t aM aN aL a HC ai ak an c0 c1 c2;go_wp2_with fail;rw[<- A.out];rw[<- ao.out];obtain⟨D,E,H⟩:=Q.out;exact bodyPost_ret (v:=.tuple #[.agg #[.slice N m1 S,.slice O Z T,.slice P m3 U],.bool (er == 0)]) (by simp[results,results135,go_sem,D,E,H]) rfl ⟨_,x,by rw[aG.out,yS],aJ.out,fun z hz=>(k8 (aG.out.symm.trans hz)).2,C.out⟩
   have cc:¬(Y.toNat:Int)=1:=fun e=>ba (UInt8.toNat_inj.1 (by show Y.toNat=1;omega))
   have cd:¬(Y.toNat:Int)=2:=fun e=>bg (UInt8.toNat_inj.1 (by show Y.toNat=2;omega))
   have aW:=ae (show o=none by rw[<- Ho.out];unfold dF;dsimp only;rw[if_neg aZ,if_neg ba,if_neg bg]);clear ba bg aZ
   go_enter func135,ntmps135
   go_wp2_with fail;rw[<- a9.out,<- a8.out];refine HL.out.mono ?_;rintro e n I;clear HL;cases oL with
   |none=>
    obtain⟨i,rfl⟩:=I;obtain⟨R,-,a,-⟩:=J.out n i;clear i e0;obtain⟨u,g,f,c⟩:=dJ a R (Nat.le_succ _) (.slice none 0 0) (.slice none 0 0) (.slice none 0 0);obtain⟨y0,y1,y2⟩:=aS a;have z0:=a.free 0;have z1:=a.free 1;have z2:=a.free 2;have Q:=ae (aS f);have C:=ae c;have A:=ae g;clear g f c;go_wp2_with fail
    skip
    rw[<- A.out];obtain⟨D,E,H⟩:=Q.out;exact bodyPost_ret (v:=.tuple #[.agg #[.slice none 0 0,.slice none 0 0,.slice none 0 0],.bool false]) (by simp[results,results135,go_sem,D,E,H]) rfl ⟨_,.empty,by rw[aW.out];rfl,fq _ _,by rw[aW.out];exact nofun,C.out⟩
   |some p=>
    obtain⟨l,r⟩:=p;obtain⟨i,al,cl,rfl,ax⟩:=I;obtain⟨R,-,a,-⟩:=J.out n i;obtain⟨bw,-⟩:=be.out n i;obtain⟨nl,aF⟩:=aH l.length;rw[aF];obtain⟨q,j⟩:=aH (K-r.length);rw[j]
    by_cases b4:q=K
    ·subst b4;clear i ax aF j e0;obtain⟨u,g,f,c⟩:=dJ a R (Nat.le_succ _) (.slice none 0 0) (.slice none 0 0) (.slice none 0 0);obtain⟨y0,y1,y2⟩:=aS a;have z0:=a.free 0;have z1:=a.free 1;have z2:=a.free 2;have Q:=ae (aS f);have C:=ae c;have A:=ae g;clear g f c;go_wp2_with fail
     skip
     rw[<- A.out];obtain⟨D,E,H⟩:=Q.out;exact bodyPost_ret (v:=.tuple #[.agg #[.slice none 0 0,.slice none 0 0,.slice none 0 0],.bool false]) (by simp[results,results135,go_sem,D,E,H]) rfl ⟨_,.empty,by rw[aW.out];rfl,fq _ _,by rw[aW.out];exact nofun,C.out⟩
    ·have bL:¬(q:Int)=(K:Int):=by omega
     clear i ax aF j e0;obtain⟨u,g,f,c⟩:=dJ a R (Nat.le_succ _) (.slice none 0 0) (.slice none 0 0) (.slice none 0 0);obtain⟨y0,y1,y2⟩:=aS a;have z0:=a.free 0;have z1:=a.free 1;have z2:=a.free 2;have Q:=ae (aS f);have C:=ae c;have A:=ae g;clear g f c;go_wp2_with fail
     skip
     rw[<- A.out];obtain⟨D,E,H⟩:=Q.out;exact bodyPost_ret (v:=.tuple #[.agg #[.slice none 0 0,.slice none 0 0,.slice none 0 0],.bool false]) (by simp[results,results135,go_sem,D,E,H]) rfl ⟨_,.empty,by rw[aW.out];rfl,fq _ _,by rw[aW.out];exact nofun,C.out⟩
end
section
open Go
section
variable {P:Program} {ops:Array Oper} {md:Region.Mode} {C:World -> World -> Prop} {lx:Nat} {pu:List Nat}
def Cp(p:Bool)(C:World -> World -> Prop)(w a:World):Prop:=p=true \/ C w a
theorem Cp.refl(p:Bool)(a:∀w,C w w)(w:World):Cp p C w w:=.inr (a w)
theorem Cp.trans(p:Bool)(d:∀a b c,C a b -> C b c -> C a c)(a b c:World)(h:Cp p C a b)(k:Cp p C b c):Cp p C a c:=by
 rcases h with h|h
 ·exact .inl h
 ·rcases k with k|k
  ·exact .inl k
  ·exact .inr (d _ _ _ h k)
def zH(md:Region.Mode)(ops:Array Oper)(lx:Nat)(pu:List Nat):Bool:=
 (List.range ops.size).all fun i=>(i == lx) || (mp md ops 12 (lV md ops lx)).contains i || (mp md ops 12 (lV md ops i)).contains lx || pu.contains i
theorem Dw{p:Bool}{d e:Oper}{v:Value}(z:∀W,C W W)(s:∀a b c,C a b -> C b c -> C a c)(x:ops[i]?=some e)(y:i≠lx \/ p=true)(g:d.apart ops e=true)
 (r:∀f b,d.op≠.select f b) (A:∀f b,e.op≠.select f b) {K:Act -> World -> Prop} {a:Act}
 (t:fC P ops (Cp p C) d v a W) (h:stL P ops C lx i K (a.put d.dst v) W):
 stL P ops C lx i (fun n m=>fC P ops (Cp p C) d v n m /\ K (n.put d.dst v) m) a W:=by
 obtain⟨o,q,B⟩:=Oper.apart_spec g;unfold stL at *;simp only[x] at *;rw[wanted_put e a d.dst v o] at h;split
 ·rename_i l;simp only[l,if_true] at h;unfold opC at *;rw[execOp_put e A a d.dst v o] at h;exact eY (fun u m k=>⟨k.1,t.keep (Cp.trans p s) g r (y.elim (fun h=>.inr (k.1.resolve_left h)) .inl),by rw[<- Act.put_comm a v u q];exact k.2⟩) h
 ·rename_i l;simp only[l] at h;exact⟨t.keep (Cp.trans p s) g r (.inr (z W)),by rw[<- Act.put_comm a v undef q];exact h⟩
theorem Cv(h:zH md ops lx pu=true){a:Array Bool}(f:kc md ops a)(g:i∈Region.ready md ops a)(j:lx∈Region.ready md ops a):i=lx \/ pu.contains i=true:=by
 obtain⟨d,o,n,_⟩:=mem_ready.1 g;have m:i<ops.size:=(Array.getElem?_eq_some_iff.1 n).1;have c:=List.all_eq_true.1 h i (by simpa using m);simp only[Bool.or_eq_true,beq_iff_eq] at c
 have l:∀k,a.getD k true=false -> a.getD k false=true -> False:=fun k d this=>by
  rcases Nat.lt_or_ge k a.size with e|e
  ·simp[e] at d this;rw[d] at this;cases this
  ·simp[Array.getElem?_eq_none e] at this
 rcases c with((c|b)|b)|b
 ·exact .inl c
 ·exact(l i d (ij f 12 _ (iN j) i (by simpa using b))).elim
 ·exact(l lx (mem_ready.1 j).1 (ij f 12 _ (iN g) lx (by simpa using b))).elim
 ·exact .inr b
theorem p7{p:Bool}{o:Oper}{a:Act}(e:∀W,C W W)(d:ops[i]?=some o)(b:fC P ops (Cp p C) o u a W){K:Act -> World -> Prop}(h:K (a.put o.dst u) W):stL P ops C lx i K a W:=by
 refine fC.stL e d ?_ h;rcases b with⟨g,f⟩|b
 ·exact .inl ⟨g,fun j c=>f j (.inr c)⟩
 ·exact .inr b
theorem oN{Q:Act -> World -> Prop}{p:Oper}(X:zH md ops lx pu=true)(A:∀w,C w w)(aa:∀a b c,C a b -> C b c -> C a c)(y:ops[i]?=some p)(J:∀(j:Nat)(o:Oper) q b,ops[j]?=some o -> o.op≠.select q b):
 ∀(r:Nat)(d:Array Bool)(a:Act)(w:World),kc md ops d ->
  (∀j m,ops[j]?=some m -> j≠i -> d.getD j true=false -> (∀e∈m.after,Region.binds md e=true -> e.on≠i) -> p.apart ops m=true) ->
  i∈Region.ready md ops d -> fC P ops (Cp (pu.contains i) C) p u a w ->
  lU P md ops C lx Q r (d.setIfInBounds i true) (a.put p.dst u) w -> lU P md ops C lx Q (r+1) d a w:=by
 intro r
 induction r with
 |zero=>
  intro d a w _ _ g t H;refine⟨fun h=>(by rw[h] at g;cases g),fun j n=>?_⟩
  by_cases f:j=i
  ·subst f;exact(p7 A y t H)
  ·have:=ready_mono n f;rw[H.1] at this;cases this
 |succ r ih=>
  intro d a w E F g t H;refine⟨fun h=>(by rw[h] at g;cases g),fun j n=>?_⟩
  by_cases f:j=i
  ·subst f;exact(p7 A y t H)
  ·have l:=H.2 j (ready_mono n f);obtain⟨I,m,z,N⟩:=mem_ready.1 n
   have Z:∀e∈m.after,Region.binds md e=true -> e.on≠i:=fun e R O S=>by
    have l:=N e R O;have B:=(mem_ready.1 g).1;rw[S] at l;rcases Nat.lt_or_ge i d.size with x|x
    ·simp[x] at B l;rw[B] at l;cases l
    ·simp[Array.getElem?_eq_none x] at l
   have U:j≠lx \/ pu.contains i=true:=by
    by_cases e:j=lx
    ·exact(Cv X E g (e▸n)).elim (fun h=>absurd (e.trans h.symm) f) .inr
    ·exact .inl e
   have M:=Dw A aa z U (F j m z f I Z) (fun q b=>J i p q b y) (fun q b=>J j m q b z) t l
   have T:∀k s,ops[k]?=some s -> k≠i -> (d.setIfInBounds j true).getD k true=false ->
    (∀e∈s.after,Region.binds md e=true -> e.on≠i) -> p.apart ops s=true:=fun k s V W K Y=>by
    refine F k s V W ?_ Y
    by_cases G:j=k
    ·subst G;exact I
    ·rw[getD_set_ne true G] at K;exact K
   refine vA (fun L w' D=>ih (d.setIfInBounds j true) L w' (E.set n) T (ready_mono g (Ne.symm f)) D.1 ?_) M;rw[Array.setIfInBounds_comm _ _ f];exact D.2
def eP(P:Program)(ops:Array Oper)(C:World -> World -> Prop)(lx:Nat)(pu:List Nat)(Q:Act -> World -> Prop):List (Nat×Bool) -> Act -> World -> Prop
 |[],a,w=>Q a w
 |(i,true)::r,a,w=>match ops[i]? with
  |none=>False
  |some o=>if Region.wanted o (yielded ops a.tmps) then ∃v,(∀b,Cp (pu.contains i) C w b -> (execOp a.eval o).run P b=.ok (.value v) b) /\ eP P ops C lx pu Q r (a.put o.dst v) w else eP P ops C lx pu Q r (a.put o.dst undef) w
 |(i,false)::r,a,w=>match ops[i]? with
  |none=>False
  |some o=>if Region.wanted o (yielded ops a.tmps) then opC P o a w (fun v b=>(i=lx \/ C w b) /\ eP P ops C lx pu Q r (a.put o.dst v) b) else eP P ops C lx pu Q r (a.put o.dst undef) w
theorem jI{Q:Act -> World -> Prop}(n:zH md ops lx pu=true)(p:∀w,C w w)(r:∀a b c,C a b -> C b c -> C a c)(q:Region.noSelect ops=true):∀(l:List (Nat×Bool))(f:Array Bool)(a:Act)(w:World),
 kc md ops f -> kK md ops l f=true -> eP P ops C lx pu Q l a w -> lU P md ops C lx Q l.length f a w
 |[],_,_,_,_,k,h=>⟨by simpa[kK] using k,h⟩
 |(i,true)::l,f,a,w,m,k,h=>by
  simp only[kK,Bool.and_eq_true] at k;obtain⟨⟨e,x⟩,s⟩:=k;simp only[eP] at h;cases d:ops[i]? with
  |none=>simp[d] at h
  |some o=>
   simp only[d] at h
   by_cases g:Region.wanted o (yielded ops a.tmps)=true
   ·simp only[g,if_true] at h;obtain⟨v,t,z⟩:=h;exact oN n p r d (Region.noSelect_spec q) l.length f a w m (Region.free_spec d x) (by simpa using e) (.inl ⟨g,t⟩) (jI n p r q l _ _ _ (m.set (by simpa using e)) s z)
   ·simp only[g] at h;exact oN n p r d (Region.noSelect_spec q) l.length f a w m (Region.free_spec d x) (by simpa using e) (.inr ⟨by simpa using g,rfl⟩) (jI n p r q l _ _ _ (m.set (by simpa using e)) s h)
 |(i,false)::l,f,a,w,m,k,h=>by
  simp only[kK,Bool.and_eq_true] at k;obtain⟨e,s⟩:=k;have u:Region.ready md ops f = [i]:=by simpa using e
  simp only[eP] at h;refine⟨fun d=>(by rw[u] at d;cases d),fun j y=>?_⟩;rw[u] at y;obtain rfl:j=i:=by simpa using y
  have e:j∈Region.ready md ops f:=by rw[u];simp
  unfold stL;cases d:ops[j]? with
  |none=>simp[d] at h
  |some o=>
   simp only[d] at h;simp only;split
   ·rename_i g;simp only[g,if_true] at h;exact eY (fun v A t=>⟨t.1,jI n p r q l _ _ _ (m.set (by simpa using e)) s t.2⟩) h
   ·rename_i g;simp only[g] at h;exact jI n p r q l _ _ _ (m.set (by simpa using e)) s h
theorem rR{Q:Exit -> Act -> World -> Prop}{a:Act}{l:List Oper}(C:World -> World -> Prop)(lx:Nat)(pu:List Nat)(d:List (Nat×Bool))(r:P.follows .mixedOrders=true)(j:(Region.noSelect l.toArray&&kK .any l.toArray d (Array.replicate d.length false)&&(d.length == l.length))=true)
 (q:zH .any l.toArray lx pu=true) (s:∀W,C W W) (t:∀a b c,C a b -> C b c -> C a c)
 (h:eP P l.toArray C lx pu (fun e g=>Q .normal e g) d a W.drew):(Code.region i l.toArray true).wp P Q a W:=by
 simp only[Bool.and_eq_true] at j;obtain⟨⟨m,n⟩,o⟩:=j;have p:d.length=l.length:=by simpa using o
 refine wp_region_any r (m6 (C:=C) (lx:=lx) (Q:=fun e g=>Q .normal e g) (fun _ _ h=>h) _ _ _ _ ?_);have:=jI (md:=.any) q s t m d _ a W.drew (fun k f=>by simp[Array.getElem?_replicate] at f;split at f<;>simp at f) n h;rw[p] at this;simpa using this
theorem Cw{Q:Act -> World -> Prop}{a:Act}(h:Q a W):eP P ops C lx pu Q [] a W:=h
theorem rS{Q:Act -> World -> Prop}{o:Oper}{r:List (Nat×Bool)}{a:Act}(e:ops[i]?=some o)(j:Region.wanted o (yielded ops a.tmps)=true)(f:pu.contains i=false){v:Value}
 (g:∀b,C W b -> (execOp a.eval o).run P b=.ok (.value v) b)
 (h:∀K:Act -> Prop,(∀c,eP P ops C lx pu Q r c W -> K c) -> K (a.put o.dst v)):eP P ops C lx pu Q ((i,true)::r) a W:=by
 simp only[eP,e,j,if_true];exact⟨v,fun b d=>g b (d.resolve_left (by rw[f];exact Bool.false_ne_true)),h _ (fun _ h=>h)⟩
theorem pE{Q:Act -> World -> Prop}{o:Oper}{r:List (Nat×Bool)}{a:Act}(d:ops[i]?=some o)(f:Region.wanted o (yielded ops a.tmps)=true){v:Value}
 (e:∀b,(execOp a.eval o).run P b=.ok (.value v) b)
 (h:∀K:Act -> Prop,(∀c,eP P ops C lx pu Q r c W -> K c) -> K (a.put o.dst v)):eP P ops C lx pu Q ((i,true)::r) a W:=by
 simp only[eP,d,f,if_true];exact⟨v,fun b _=>e b,h _ (fun _ h=>h)⟩
theorem Dx{Q:Act -> World -> Prop}{o:Oper}{r:List (Nat×Bool)}{a:Act}(d:ops[i]?=some o)(e:Region.wanted o (yielded ops a.tmps)=true)
 (h:∀K:Act -> World -> Prop,(∀c b,eP P ops C lx pu Q r c b -> K c b) -> opC P o a W (fun v b=>(i=lx \/ C W b) /\ K (a.put o.dst v) b)):eP P ops C lx pu Q ((i,false)::r) a W:=by
 simp only[eP,d,e,if_true];exact h _ (fun _ _ h=>h)
theorem AK{Q:Act -> World -> Prop}{o:Oper}{r:List (Nat×Bool)}{a:Act}(g:i=lx)(d:ops[i]?=some o)(f:Region.wanted o (yielded ops a.tmps)=true)
 (h:∀K:Act -> World -> Prop,(∀c b,eP P ops C lx pu Q r c b -> K c b) -> opC P o a W (fun v b=>K (a.put o.dst v) b)):eP P ops C lx pu Q ((i,false)::r) a W:=by
 simp only[eP,d,f,if_true];exact eY (fun v b e=>⟨.inl g,e⟩) (h _ (fun _ _ h=>h))
end
attribute [irreducible] eP
end
section
open Go.Lib
attribute [local go_sem] opC upC told bG br bH bt bw bI bJ
theorem Dy(b a n c k:Nat)(e:k <= n)(g:n <= c)(h:c <= 9223372036854775807):(SA 41 (.slice (some ⟨b,a,none⟩) n c) (some (.int .i64 (k:Int))) none none).run aE w=.ok (.slice (if c=k then some ⟨b,a,none⟩ else some ⟨b,a+k,none⟩) (n-k) (c-k)) w:=by
 have f:(k:Int) <= (n:Int):=by omega
 unfold SA
 by_cases d:c=k
 ·subst d;obtain rfl:n=c:=by omega
  go_simp
 ·rw[if_neg d];have i:¬(c-k=0):=by omega
  go_simp
attribute [local go_sem ↓] nE
def AM(w:World)(o:Option (Nat×aU))(e:Ending)(a:World):Prop:=(match o with
 |none=>e=.returned (.tuple #[.int .i64 0,.agg #[.slice none 0 0,.slice none 0 0,.slice none 0 0],.bool false])
 |some (d,m)=>∃r,e=.returned (.tuple #[.int .i64 (d:Int),r,.bool true]) /\ dl (fun q=>w.heap.size <= q) a r m) /\ Below w.heap.size w a
theorem yU(L:List (List UInt8))(hL:bX F w n v L)(cn:∀b∈L,b.length <= 65536):
 Calls aE 78 #[v] w (AM w (ff L)):=by
 obtain⟨a,c3,rfl,cd,da⟩:=hL.shape;obtain⟨h,aZ⟩:=aQ (w.alloc (.cells #[.slice none 0 0,.slice none 0 0,.slice none 0 0] 75));have bq:Below w.heap.size w h:=by rw[aZ];exact aI _ _
 have j:Blk h w.heap.size [.slice none 0 0,.slice none 0 0,.slice none 0 0] 75:=by rw[aZ];exact Blk.new _ _ _
 have cv:h.heap.size=w.heap.size+1:=by rw[aZ];simp
 have m:=ae (show ∀W,Below h.heap.size h W -> Below w.heap.size w W /\ Blk W w.heap.size [.slice none 0 0,.slice none 0 0,.slice none 0 0] 75 from fun W hb=>⟨bq.trans (hb.mono bq.size),j.keep (hb.block _ j.lt)⟩)
 have HE:=ae (show ∀k (hk:k<L.length),∃g ax I,a=some ⟨g,0,none⟩ /\ g<w.heap.size /\ ∀W,Below w.heap.size w W -> W.cell? ⟨g,k,none⟩=some (.slice ax L[k].length I) /\ aO (fun q=>q<w.heap.size) W (.slice ax L[k].length I) L[k] from fun k hk=>by
  obtain⟨g,dr,x,hv,hB,hc⟩:=hL.elem k hk;obtain⟨ax,I,rfl,-⟩:=id hB;simp at hv;obtain⟨rfl,-⟩:=hv;have hg:g<w.heap.size:=il hc
  exact⟨g,ax,I,rfl,hg,fun W hW=>⟨(hW.cell (p:=⟨g,k,none⟩) hg).trans hc,hB.insideU.keep (w':=W) fun q M _=>hW.block q M⟩⟩)
 have a1:=ae aZ;have bY:=ae cv;have bT:=ae cn;obtain⟨o,ho⟩:=aH (ff L);rw[ho];have Ho:=ae ho;clear aZ cv bq hL cn ho;cases L with
 |nil=>
  have J:=ae (show o=none from Ho.out.symm);obtain⟨Y,c⟩:=m.out h (Below.refl _ _);clear j m HE;dsimp only[List.length_nil]
  go_enter func78,ntmps78
  have Q:=ae (aS c);have r:=ae Y;clear c Y;go_wp2_with fail;rw[<- a1.out];obtain⟨C,D,E⟩:=Q.out;exact bodyPost_ret (v:=.tuple #[.int .i64 0,.agg #[.slice none 0 0,.slice none 0 0,.slice none 0 0],.bool false]) (by simp[results,results78,go_sem,C,D,E]) rfl (by rw[J.out];exact⟨rfl,r.out⟩)
 |cons b0 s=>
  obtain⟨g,ax,I,rfl,dx,Z⟩:=HE.out 0 (by simp);have Z:∀W,Below w.heap.size w W -> W.cell? ⟨g,0,none⟩=some (.slice ax b0.length I) /\ aO (fun q=>q<w.heap.size) W (.slice ax b0.length I) b0:=Z
  obtain⟨nL,a9⟩:=aH ((b0::s).length);have cq:nL=s.length+1:=by rw[<- a9];rfl
  have dg:¬(nL:Int)=0:=by omega
  have dw:((nL:Int) == 0)=false:=beq_eq_false_iff_ne.2 dg;have dC:(0:Int)<(nL:Int):=by omega
  have cN:=ae cq;have db:nL <= c3:=by rw[<- a9];exact cd
  have dD:nL <= 9223372036854775807:=by unfold maxLen at da;omega
  rw[a9];have b6:b0.length <= 65536:=bT.out b0 List.mem_cons_self;have a3:=(Z w (Below.refl _ _)).1;have a2:=(Z h (m.out h (Below.refl _ _)).1).1;clear cd a9 cq db;cases b0 with
  |nil=>
   have J:=ae (show o=none from Ho.out.symm);obtain⟨Y,c⟩:=m.out h (Below.refl _ _);dsimp only[List.length_nil] at *;clear j m HE Z
   go_enter func78,ntmps78
   have Q:=ae (aS c);have r:=ae Y;clear c Y;go_wp2_with fail;rw[<- a1.out];obtain⟨C,D,E⟩:=Q.out;exact bodyPost_ret (v:=.tuple #[.int .i64 0,.agg #[.slice none 0 0,.slice none 0 0,.slice none 0 0],.bool false]) (by simp[results,results78,go_sem,C,D,E]) rfl (by rw[J.out];exact⟨rfl,r.out⟩)
  |cons kk S=>
   obtain⟨-,cc,cf,cg⟩:=(Z w (Below.refl _ _)).2.cells;obtain⟨bb,ai,rfl,du,c7,ce⟩:=cg.resolve_left (by simp);have ab:=ce 0 (by simp);rw[Nat.add_zero,List.getElem_cons_zero,show B kk=.int .u8 (kk.toNat:Int) from rfl] at ab;have aM:=((m.out h (Below.refl _ _)).1.cell (p:=⟨bb,ai,none⟩) c7).trans ab;obtain⟨N,aW⟩:=aH ((kk::S).length);have ba:N=S.length+1:=by rw[<- aW];rfl
   have c6:¬(N:Int)=0:=by omega
   have dv:((N:Int) == 0)=false:=beq_eq_false_iff_ne.2 c6;have ds:(0:Int)<(N:Int):=by omega
   have c8:I <= 9223372036854775807:=by unfold maxLen at cf;omega
   have c9:N <= I:=by rw[<- aW];exact cc
   have bL:=ae Z;have cM:=ae ba;have ak:=ae aW;have cB:=ae b6;rw[aW] at a3 a2;clear cg ce cc cf ba Z aW b6
   by_cases a8:kk=0
   ·subst a8;have ab:w.cell? ⟨bb,ai,none⟩=some (.int .u8 0):=ab;have aM:h.cell? ⟨bb,ai,none⟩=some (.int .u8 0):=aM;have bo:=jW h _ (some ⟨bb,ai,none⟩) I (0::S) 1 (bL.out h (m.out h (Below.refl _ _)).1).2 (by simp);obtain⟨oU,bz⟩:=aH (rdF S 9);have an:iZ (0::S) 1=io N oU:=by unfold iZ;rw[show(0::S).drop 1=S from rfl,bz,ak.out]
    rw[an,ak.out] at bo;have bN:=ae bo;have ar:=ae bz;clear bo bz an j
    go_enter func78,ntmps78
    go_wp2_with fail;rw[<- a1.out];refine bN.out.mono ?_;rintro e w2 ⟨rfl,az⟩;clear bN;obtain⟨av,c⟩:=m.out w2 az;cases oU with
    |none=>
     have J:=ae (show o=none by rw[<- Ho.out];unfold ff eM;dsimp only;rw[if_pos rfl,ar.out]);clear az a3 a2 ab aM;unfold io;dsimp only;obtain⟨wf,A,z,u⟩:=dJ c av (aq _) (.slice none 0 0) (.slice none 0 0) (.slice none 0 0);obtain⟨y0,y1,y2⟩:=aS c;have z0:=c.free 0;have z1:=c.free 1;have z2:=c.free 2;have Q:=ae (aS z);have r:=ae u;have P:=ae A;clear A z u;go_wp2_with fail
     skip
     rw[<- P.out];obtain⟨C,D,E⟩:=Q.out;exact bodyPost_ret (v:=.tuple #[.int .i64 0,.agg #[.slice none 0 0,.slice none 0 0,.slice none 0 0],.bool false]) (by simp[results,results78,go_sem,C,D,E]) rfl (by rw[J.out];exact⟨rfl,r.out⟩)
    |some p=>
     obtain⟨d,t⟩:=p;have ci:=jr ar.out;have bt:=kS ar.out;obtain⟨tl,bc⟩:=aH t.length;obtain⟨j,bw⟩:=aH (N-tl)
     have an:io N (some (d,t))=.tuple #[.int .u64 (d:Int),.int .i64 (j:Int),.bool true]:=by
      show Value.tuple #[.int .u64 (d:Int),.int .i64 ((N-t.length:Nat):Int),.bool true]=_;rw[bc,bw]
     rw[an]
     by_cases h8:d<8
     ·have c4:¬(7:Int)<(d:Int):=by omega
      have ba:=cM.out
      have cb:(0::S).drop j=t:=by
       rw[bt.2,show j=(S.length-t.length)+1 by omega,List.drop_succ_cons]
      obtain⟨bZ,b1⟩:=bL.out w2 av;rw[ak.out] at bZ;have hcut:=fun W=>Dy W bb ai N I j (by omega) c9 c8
      obtain⟨AV,bl⟩:=aH (if I=j then some (⟨bb,ai,none⟩:Addr) else some ⟨bb,ai+j,none⟩);rw[bl,show N-j=tl by omega] at hcut;have a7:=b1.drop j (by rw[ak.out];omega);rw[Option.map_some,Addr.add_lit] at a7;have ch:aO (fun q=>q<w.heap.size) w2 (.slice AV t.length (I-j)) t:=by rw[cb,ak.out,show N-j=t.length by omega] at a7;rw[<- bl];exact a7
      have hD:=oM w2 _ AV (I-j) t ch (fun q M=>by have:=av.size;have cs:q<w.heap.size:=M;omega) (by have:=cB.out;rw[ak.out] at this;omega);unfold zv at hD;obtain⟨⟨m0,er⟩,bn⟩:=aH (fi t);have bv:=lE (b:=t);rw[bn] at hD bv;rw[bc] at hD;have HD:=ae hD;have bP:=ae (show eM (0::S)=if er=0 then some (d,m0) else none by unfold eM;dsimp only;rw[if_pos rfl,ar.out];dsimp only;rw[if_pos h8,bn]);have cI:=ae bv;have bf:=ae az;have dE:IntKind.i64.wrap (d:Int)=(d:Int):=af _ (by omega);clear a7 ch bl hD bn bv b1 cb ci bt bc bw an az ba c av a3 a2 ab aM;go_wp2_with fail;refine HD.out.mono ?_;rintro e O ⟨r3,rfl,hb,b8⟩;clear HD hcut bZ;have aG:=bf.out.trans (b8.mono bf.out.size);have df:h.heap.size <= O.heap.size:=aG.size;have cj:∀q,w2.heap.size <= q -> q<O.heap.size -> w.heap.size<q /\ q≠O.heap.size:=fun q h1 h2=>by have:=bf.out.size;have:=bY.out;omega
      replace hb:=hb.mono (G:=fun q=>w.heap.size<q /\ q≠O.heap.size) fun q M aN=>cj q M aN
      replace hb:=o6 hb 75
      obtain⟨c0,di,c1,dj,c2,dm,cz,rfl,cW,cH,cY,cX,cO⟩:=hb;have b9:Below h.heap.size h cz:=aG.trans (cH.out.mono aG.size);have cC:=ae b9;obtain⟨b3,ag⟩:=m.out O aG;clear b8 b9 aG cj
      by_cases h0:er=0
      ·subst h0;have cR:=ae (cI.out rfl);have bS:=ae (show o=(dk d m0 s).map fun x=>(d,x) by rw[<- Ho.out];unfold ff;dsimp only;rw[bP.out,if_pos rfl]);obtain⟨nt,bx⟩:=aH s.length;have dh:nL=nt+1:=by rw[<- bx];exact cN.out
       subst dh;have bV:=ae bx;have b5:O.heap.size<cz.heap.size:=by rw[cY.out];omega
       have cA:=ae b5;have cK:=ae df;clear ag b3 bx b5;go_wp2_with fail;rw[<- cW.out]
       go_loopw [7,10] (fun ok i wr=>∃(k:Nat)(x:aU)(s1:Option Addr)(U:Nat)(s2:Option Addr)(V:Nat)(s3:Option Addr)(X:Nat),k <= nt /\ i=.int .i64 ((k:Int)+1) /\ ok=.bool true /\ bp x=true /\ dk d m0 s=dk d x (s.drop k) /\ Blk wr O.heap.size [.slice s1 x.seen.length U,.slice s2 x.items.length V,.slice s3 x.gone.length X] 75 /\ cG (fun q=>w.heap.size<q /\ q≠O.heap.size) wr (.slice s1 x.seen.length U) (.slice s2 x.items.length V) (.slice s3 x.gone.length X) x /\ Below h.heap.size h wr /\ O.heap.size<wr.heap.size) (fun _ i _=>nt+1-(intOf i).toNat)
       case atStart=>exact⟨0,m0,_,_,_,_,_,_,by omega,rfl,rfl,cR.out,rfl,cO.out,cX.out,cC.out,cA.out⟩
       case round=>
        obtain⟨k,x,s1,U,s2,V,s3,X,dA,rfl,rfl,bd,aY,aL,aP,al,bB⟩:=hrel;obtain⟨bm,c⟩:=m.out wr al;have dq:=ae bd;have bW:=ae aY;have cF:=ae aL;have dp:=ae aP;have cE:=ae al;have be:=ae bm;have dn:=ae c;have bh:=ae bB;obtain⟨l,a0⟩:=aQ wr.drew;have aa:Below wr.heap.size wr l:=by rw[a0];exact(Below.refl _ _).drew
        have bD:l.heap.size=wr.heap.size:=by rw[a0];rfl
        obtain⟨n1,aR⟩:=aH x.seen.length;obtain⟨n2,aT⟩:=aH x.items.length;obtain⟨n3,aV⟩:=aH x.gone.length;obtain⟨p0,p1,p2⟩:=aS (aL.keep (aa.block _ aL.lt));have pz:∀q y,l.cell? q=some y -> ∀H,aJ l H -> H.cell? q=some y:=fun q y hc H hh=>(hh.cell (p:=q) (il hc)).trans hc
        have bI:=pz _ _ p0;have bJ:=pz _ _ p1;have bK:=pz _ _ p2;have aK:Below h.heap.size h l:=al.trans (aa.mono al.size);have bk:=ae a0;have bQ:=ae aK;have bi:=ae bD;rw[aR] at bI;rw[aT] at bJ;rw[aV] at bK
        by_cases de:k<nt
        ·have dc:(k:Int)+1<((nt+1:Nat):Int):=by omega
         have dd:(k:Int)+1<(nt:Int)+1:=by omega
         have dz:(0:Int) <= (k:Int)+1:=by omega
         have cl:k<s.length:=by rw[bV.out];exact de
         obtain⟨g',ay,cy,ck,-,b4⟩:=HE.out (k+1) (by rw[aD];omega);obtain rfl:g=g':=by simpa using ck
         obtain⟨a6,a4⟩:=b4 l (be.out.trans (aa.mono be.out.size));rw[List.getElem_cons_succ] at a6 a4;have bH:s[k].length <= 65536:=bT.out _ (List.mem_cons_of_mem _ (aC cl));have bu:s.drop k=s[k]::s.drop (k+1):=List.drop_eq_getElem_cons cl;obtain⟨y,cu⟩:=aH s[k];rw[cu] at a6 a4 bH bu;have cw:=pz _ _ a6;have cp:=aP.keep (w':=l) fun q _ aN=>aa.block q aN
         have hN:=yT l _ (.agg #[.slice s1 x.seen.length U,.slice s2 x.items.length V,.slice s3 x.gone.length X]) x ⟨_,_,_,rfl,cp⟩ bd d h8 _ ay cy y a4 bH;rw[aR,aT,aV] at hN;obtain⟨ox,bA⟩:=aH (dF d x y);rw[bA] at hN;have HN:=ae hN;have bg:=ae bA;have bR:=ae bu;obtain⟨ny,cr⟩:=aH y.length;rw[cr] at cw HN;clear hN bA bu bd aY aL aP al bB bm c aa aK cp p0 p1 p2 pz a6 a4 b4 cu cr aR aT aV a0 bD ck bH;go_wp2_with fail;refine rR aJ 11 [10,12] [(0,true),(1,true),(2,true),(3,true),(4,true),(5,true),(6,true),(7,false),(8,true),(9,true),(10,true),(11,false),(12,true)] (by kernel_rfl) (by kernel_rfl) (by kernel_rfl) bF bC ?_;rw[<- bk.out]
         repeat (first|(refine rS (v:=?_) rfl (bj rfl) rfl (fun H hC=>?_) (fun K f=>?_);rotate_left;(focus (go_simp;(try simp(disch:=omega) only[af]);(try simp(disch:=omega) only[aj]);(try simp(disch:=omega) only[ap]);(try simp(disch:=omega) only[ah]);(try simp(disch:=omega) only[am]);first|done|exact rfl));go_simp;(try simp(disch:=omega) only[af]);(try simp(disch:=omega) only[aj]);(try simp(disch:=omega) only[ap]);(try simp(disch:=omega) only[ah]);(try simp(disch:=omega) only[am]);refine f _ ?_;clear f K)|(refine pE (v:=?_) rfl (bj rfl) (fun H=>?_) (fun K f=>?_);rotate_left;(focus (go_simp;(try simp(disch:=omega) only[af]);(try simp(disch:=omega) only[aj]);(try simp(disch:=omega) only[ap]);(try simp(disch:=omega) only[ah]);(try simp(disch:=omega) only[am]);first|done|exact rfl));go_simp;(try simp(disch:=omega) only[af]);(try simp(disch:=omega) only[aj]);(try simp(disch:=omega) only[ap]);(try simp(disch:=omega) only[ah]);(try simp(disch:=omega) only[am]);refine f _ ?_;clear f K))
         clear bI bJ bK cw;refine Dx rfl rfl (fun KK f=>?_);go_simp;refine HN.out.mono ?_;rintro e w6 ⟨r6,T,rfl,ad,ct,a5⟩;refine⟨_,rfl,a5,f _ _ ?_⟩;clear f KK HN;go_simp;obtain⟨t1,t2,t3,rfl,ad⟩:=ad;obtain⟨f1,l1,rfl,-⟩:=ad.seen.shape;obtain⟨f2,l2,rfl,-⟩:=ad.items.shape;obtain⟨f3,l3,rfl,-⟩:=ad.gone.shape;have b7:Below h.heap.size h w6:=bQ.out.trans (a5.mono bQ.out.size);have kP:Blk w6 O.heap.size [.slice s1 x.seen.length U,.slice s2 x.items.length V,.slice s3 x.gone.length X] 75:=(cF.out.keep (w':=l) (by rw[bk.out];rfl)).keep (a5.block _ (by have:=bh.out;have:=bi.out;omega));obtain⟨w7,bE,bs,ca⟩:=dJ kP b7 cK.out (.slice f1 T.seen.length l1) (.slice f2 T.items.length l2) (.slice f3 T.gone.length l3)
         have co:cG (fun q=>w.heap.size<q /\ q≠O.heap.size) w7 (.slice f1 T.seen.length l1) (.slice f2 T.items.length l2) (.slice f3 T.gone.length l3) T:=by
          rw[bE]
          exact(ad.set3 (fun q M=>by have:=bh.out;have:=bi.out;have cs:l.heap.size <= q:=M;omega) _ _ _).mono fun q M _=>by
           have h1:=bh.out;have h2:=bi.out;have h3:=be.out.size;have h4:=cE.out.size;have h5:=bY.out;have cs:l.heap.size <= q:=M;exact⟨by omega,by omega⟩
         have cL:=ae co;have cD:=ae bs;have bO:=ae ca;have cP:=ae (show O.heap.size<w7.heap.size from bs.lt);have cU:=ae bE;have cS:=ae ct;obtain⟨y0,y1,y2⟩:=aS kP;have z0:=kP.free 0;have z1:=kP.free 1;have z2:=kP.free 2;clear ad co bs ca bE b7 a5 kP ct
         repeat (first|(refine rS (v:=?_) rfl (bj rfl) rfl (fun H hC=>?_) (fun K f=>?_);rotate_left;(focus (go_simp;(try simp(disch:=omega) only[af]);(try simp(disch:=omega) only[aj]);(try simp(disch:=omega) only[ap]);(try simp(disch:=omega) only[ah]);(try simp(disch:=omega) only[am]);first|done|exact rfl));go_simp;(try simp(disch:=omega) only[af]);(try simp(disch:=omega) only[aj]);(try simp(disch:=omega) only[ap]);(try simp(disch:=omega) only[ah]);(try simp(disch:=omega) only[am]);refine f _ ?_;clear f K)|(refine pE (v:=?_) rfl (bj rfl) (fun H=>?_) (fun K f=>?_);rotate_left;(focus (go_simp;(try simp(disch:=omega) only[af]);(try simp(disch:=omega) only[aj]);(try simp(disch:=omega) only[ap]);(try simp(disch:=omega) only[ah]);(try simp(disch:=omega) only[am]);first|done|exact rfl));go_simp;(try simp(disch:=omega) only[af]);(try simp(disch:=omega) only[aj]);(try simp(disch:=omega) only[ap]);(try simp(disch:=omega) only[ah]);(try simp(disch:=omega) only[am]);refine f _ ?_;clear f K))
         refine AK rfl rfl rfl (fun KK f=>?_);go_simp;rw[<- cU.out];refine f _ _ ?_;clear f KK y0 y1 y2 z0 z1 z2;go_simp
         repeat (first|(refine rS (v:=?_) rfl (bj rfl) rfl (fun H hC=>?_) (fun K f=>?_);rotate_left;(focus (go_simp;(try simp(disch:=omega) only[af]);(try simp(disch:=omega) only[aj]);(try simp(disch:=omega) only[ap]);(try simp(disch:=omega) only[ah]);(try simp(disch:=omega) only[am]);first|done|exact rfl));go_simp;(try simp(disch:=omega) only[af]);(try simp(disch:=omega) only[aj]);(try simp(disch:=omega) only[ap]);(try simp(disch:=omega) only[ah]);(try simp(disch:=omega) only[am]);refine f _ ?_;clear f K)|(refine pE (v:=?_) rfl (bj rfl) (fun H=>?_) (fun K f=>?_);rotate_left;(focus (go_simp;(try simp(disch:=omega) only[af]);(try simp(disch:=omega) only[aj]);(try simp(disch:=omega) only[ap]);(try simp(disch:=omega) only[ah]);(try simp(disch:=omega) only[am]);first|done|exact rfl));go_simp;(try simp(disch:=omega) only[af]);(try simp(disch:=omega) only[aj]);(try simp(disch:=omega) only[ap]);(try simp(disch:=omega) only[ah]);(try simp(disch:=omega) only[am]);refine f _ ?_;clear f K))
         refine Cw ?_;cases ox with
         |none=>
          have J:=ae (show o=none by
           rw[bS.out,bW.out,bR.out];unfold dk;rw[bg.out]
           rfl)
          obtain⟨c5,c⟩:=m.out w7 bO.out;dsimp only[Option.isSome_none];obtain⟨wf,A,z,u⟩:=dJ c c5 (aq _) (.slice none 0 0) (.slice none 0 0) (.slice none 0 0);obtain⟨y0,y1,y2⟩:=aS c;have z0:=c.free 0;have z1:=c.free 1;have z2:=c.free 2;have Q:=ae (aS z);have r:=ae u;have P:=ae A;clear A z u;go_wp2_with fail
          skip
          rw[<- P.out];obtain⟨C,D,E⟩:=Q.out;exact bodyPost_ret (v:=.tuple #[.int .i64 0,.agg #[.slice none 0 0,.slice none 0 0,.slice none 0 0],.bool false]) (by simp[results,results78,go_sem,C,D,E]) rfl (by rw[J.out];exact⟨rfl,r.out⟩)
         |some x'=>
          obtain rfl:T=x':=cS.out x' rfl
          have cQ:=ae (show dk d m0 s=dk d T (s.drop (k+1)) by
           rw[bW.out,bR.out]
           conv=>lhs;unfold dk
           rw[bg.out])
          have cT:=ae (mc bg.out);dsimp only[Option.isSome_some];go_wp2_with fail
          go_roundw
          case rel=>exact⟨k+1,T,_,_,_,_,_,_,by omega,by go_num,rfl,cT.out,cQ.out,cD.out,cL.out,bO.out,cP.out⟩
          case measure=>simp[intOf];omega
        ·have dc:¬(k:Int)+1<((nt+1:Nat):Int):=by omega
         have dd:¬(k:Int)+1<(nt:Int)+1:=by omega
         have cm:s.drop k = []:=List.drop_eq_nil_of_le (by rw[bV.out];omega);rw[cm] at aY;have cJ:=ae (show o=some (d,x) by rw[bS.out,aY];rfl);have b2:Below w.heap.size w l:=(m.out l aK).1;have ao:Blk l w.heap.size [.slice none 0 0,.slice none 0 0,.slice none 0 0] 75:=(m.out l aK).2;obtain⟨wf,A,z,u⟩:=dJ ao b2 (aq _) (.slice s1 x.seen.length U) (.slice s2 x.items.length V) (.slice s3 x.gone.length X)
         have bU:=ae (show dl (fun q=>w.heap.size <= q) wf (.agg #[.slice s1 x.seen.length U,.slice s2 x.items.length V,.slice s3 x.gone.length X]) x from⟨_,_,_,rfl,by
          rw[A]
          exact((aP.keep (w':=l) fun q _ aN=>aa.block q aN).set3 (fun q M=>Nat.ne_of_gt M.1) _ _ _).mono fun q M _=>Nat.le_of_lt M.1⟩)
         obtain⟨y0,y1,y2⟩:=aS ao;have z0:=ao.free 0;have z1:=ao.free 1;have z2:=ao.free 2;have Q:=ae (aS z);have r:=ae u;have P:=ae A;rw[aR,aT,aV] at Q bU P;clear cm aY bd aL aP al bB bm c aa aK p0 p1 p2 pz A z u b2 ao aR aT aV a0 bD;go_wp2_with fail;refine dP aJ 4 (up 4 [504,5]) (by kernel_rfl) ?_;rw[<- bk.out];apply bM;rfl;intro H hC;go_simp;(repeat (simp(disch:=omega) only[af,aj,ap,ah,am,if_pos];go_simp));exact aF;clear bI bJ bK;refine cZ rfl rfl rfl (fun KK f=>?_);go_simp;rw[<- P.out];refine f _ _ ?_;clear f KK y0 y1 y2 z0 z1 z2;go_simp;apply bM;rfl;intro H hC;go_simp;(repeat (simp(disch:=omega) only[af,aj,ap,ah,am,if_pos];go_simp));exact aF;refine dt ?_;go_wp2_with fail;obtain⟨C,D,E⟩:=Q.out;exact bodyPost_ret (v:=.tuple #[.int .i64 (d:Int),.agg #[.slice s1 n1 U,.slice s2 n2 V,.slice s3 n3 X],.bool true]) (by simp[results,results78,go_sem,C,D,E]) rfl (by rw[cJ.out];exact⟨⟨_,rfl,bU.out⟩,r.out⟩)
      ·have J:=ae (show o=none by rw[<- Ho.out];unfold ff;dsimp only;rw[bP.out,if_neg h0]);obtain⟨wf,A,z,u⟩:=dJ ag b3 (aq _) (.slice none 0 0) (.slice none 0 0) (.slice none 0 0);obtain⟨wg,bG⟩:=aQ (wf.alloc (.cells #[.slice c0 m0.seen.length di,.slice c1 m0.items.length dj,.slice c2 m0.gone.length dm] 75));have br:Below wf.heap.size wf wg:=by rw[bG];exact aI _ _
       have dB:=ag.lt;obtain⟨y0,y1,y2⟩:=aS ag;have z0:=ag.free 0;have z1:=ag.free 1;have z2:=ag.free 2;have Q:=ae (aS (z.keep (br.block _ z.lt)));have r:=ae (show Below w.heap.size w wg from u.trans (br.mono u.size));have P:=ae A;have cV:=ae bG;clear A bG z u br;go_wp2_with fail;rw[<- P.out];rw[<- cV.out];obtain⟨C,D,E⟩:=Q.out;exact bodyPost_ret (v:=.tuple #[.int .i64 0,.agg #[.slice none 0 0,.slice none 0 0,.slice none 0 0],.bool false]) (by simp[results,results78,go_sem,C,D,E]) rfl (by rw[J.out];exact⟨rfl,r.out⟩)
     ·have c4:(7:Int)<(d:Int):=by omega
      have J:=ae (show o=none by rw[<- Ho.out];unfold ff eM;dsimp only;rw[if_pos rfl,ar.out];dsimp only;rw[if_neg h8]);clear az a3 a2 ab aM ci bt bc bw an;obtain⟨wf,A,z,u⟩:=dJ c av (aq _) (.slice none 0 0) (.slice none 0 0) (.slice none 0 0);obtain⟨y0,y1,y2⟩:=aS c;have z0:=c.free 0;have z1:=c.free 1;have z2:=c.free 2;have Q:=ae (aS z);have r:=ae u;have P:=ae A;clear A z u;go_wp2_with fail
      skip
      rw[<- P.out];obtain⟨C,D,E⟩:=Q.out;exact bodyPost_ret (v:=.tuple #[.int .i64 0,.agg #[.slice none 0 0,.slice none 0 0,.slice none 0 0],.bool false]) (by simp[results,results78,go_sem,C,D,E]) rfl (by rw[J.out];exact⟨rfl,r.out⟩)
   ·have dy:¬(kk.toNat:Int)=0:=fun e=>a8 (UInt8.toNat_inj.1 (by simpa using e))
    have J:=ae (show o=none by rw[<- Ho.out];unfold ff eM;dsimp only;rw[if_neg a8]);obtain⟨Y,c⟩:=m.out h (Below.refl _ _);clear a8 j HE m
    go_enter func78,ntmps78
    have Q:=ae (aS c);have r:=ae Y;clear c Y;go_wp2_with fail;rw[<- a1.out];obtain⟨C,D,E⟩:=Q.out;exact bodyPost_ret (v:=.tuple #[.int .i64 0,.agg #[.slice none 0 0,.slice none 0 0,.slice none 0 0],.bool false]) (by simp[results,results78,go_sem,C,D,E]) rfl (by rw[J.out];exact⟨rfl,r.out⟩)
end
def mI(r:BitVec 32):BitVec 32:=(r >>> 1) ^^^ (if r.getLsbD 0 then 0xEDB88320#32 else 0#32)
theorem oO(a b:BitVec 32):mI (a ^^^ b)=mI a ^^^ mI b:=by
 unfold mI;rw[BitVec.getLsbD_xor];have h:(a ^^^ b) >>> 1=(a >>> 1) ^^^ (b >>> 1):=BitVec.ushiftRight_xor_distrib a b 1;rw[h];generalize a >>> 1=p;generalize b >>> 1=q;generalize(0xEDB88320#32)=c;cases a.getLsbD 0<;>cases b.getLsbD 0
 ·simp
 ·simp[BitVec.xor_assoc]
 ·simp only[Bool.xor_false,if_true,Bool.false_eq_true,if_false,BitVec.xor_zero];rw[BitVec.xor_assoc,BitVec.xor_comm q c,<- BitVec.xor_assoc]
 ·simp only[Bool.xor_self,if_true,Bool.false_eq_true,if_false,BitVec.xor_zero];rw[BitVec.xor_assoc,BitVec.xor_comm q c,<- BitVec.xor_assoc c c q,BitVec.xor_self,BitVec.zero_xor]
theorem mG(q:BitVec 32)(h:q.getLsbD 0=false):mI q=q >>> 1:=by
 unfold mI;rw[h];simp
def rT(r:BitVec 32):BitVec 32:=mI (mI (mI (mI r)))
theorem Cx(a b:BitVec 32):rT (a ^^^ b)=rT a ^^^ rT b:=by
 unfold rT;rw[oO,oO,oO,oO]
theorem uR(q:BitVec 32)(n:Nat):(q >>> n).getLsbD 0=q.getLsbD n:=by
 rw[BitVec.getLsbD_ushiftRight];simp
theorem AO(r:BitVec 32):rT ((r >>> 4) <<< 4)=r >>> 4:=by
 have a:∀i,i<4 -> ((r >>> 4) <<< 4).getLsbD i=false:=fun i hi=>by
  rw[BitVec.getLsbD_shiftLeft];simp[hi]
 unfold rT;rw[mG _ (a 0 (by omega))];rw[mG ((r >>> 4) <<< 4 >>> 1) (by rw[uR];exact a 1 (by omega))];rw[mG ((r >>> 4) <<< 4 >>> 1 >>> 1) (by rw[<- BitVec.shiftRight_add,uR];exact a 2 (by omega))];rw[mG ((r >>> 4) <<< 4 >>> 1 >>> 1 >>> 1) (by rw[<- BitVec.shiftRight_add,<- BitVec.shiftRight_add,uR];exact a 3 (by omega))];rw[<- BitVec.shiftRight_add,<- BitVec.shiftRight_add,<- BitVec.shiftRight_add];apply BitVec.eq_of_getLsbD_eq;intro i hi;rw[BitVec.getLsbD_ushiftRight,BitVec.getLsbD_shiftLeft]
 by_cases h:4+i<32
 ·simp[h]
 ·have:(r >>> 4).getLsbD i=false:=by rw[BitVec.getLsbD_ushiftRight];exact BitVec.getLsbD_of_ge _ _ (by omega)
  rw[this];simp[h]
theorem Ej(r:BitVec 32):r=((r >>> 4) <<< 4) ^^^ (r &&& 15#32):=by
 apply BitVec.eq_of_getLsbD_eq;intro i hi;rw[BitVec.getLsbD_xor,BitVec.getLsbD_shiftLeft,BitVec.getLsbD_and]
 by_cases h:i<4
 ·have:(15#32).getLsbD i=true:=by
   have:i=0 \/ i=1 \/ i=2 \/ i=3:=by omega
   rcases this with rfl|rfl|rfl|rfl<;>decide
  simp[h,this]
 ·have a:(15#32).getLsbD i=false:=by
   rw[BitVec.getLsbD_ofNat];have:Nat.testBit 15 i=false:=Nat.testBit_lt_two_pow (aw (by decide:15<2 ^ 4) (Nat.pow_le_pow_right (by omega) (by omega)));simp[this]
  rw[a,BitVec.getLsbD_ushiftRight];simp[h,hi]
  congr 1
  omega
theorem xl(r:BitVec 32):rT r=nib r:=by
 have c:∀m:Nat,m<16 -> rT (BitVec.ofNat 32 m)=iP.getD m 0#32:=by decide
 have d:(r &&& 15#32).toNat<16:=by
  rw[BitVec.toNat_and];exact Nat.lt_of_le_of_lt Nat.and_le_right (by decide)
 have a:=c _ d;rw[BitVec.ofNat_toNat,BitVec.setWidth_eq] at a;have b:rT r=rT ((r >>> 4) <<< 4) ^^^ rT (r &&& 15#32):=by rw[<- Cx,<- Ej]
 rw[b,AO,a];rfl
def uS:Nat -> BitVec 32 -> BitVec 32
 |0,r=>r
 |n+1,r=>mI (uS n r)
theorem yV(r:BitVec 32):uS 8 r=nib (nib r):=by
 rw[<- xl,<- xl];rfl
theorem AQ(x:BitVec 32):((x.toNat:Int)%2=1 -> Go.bits .xor .u32 ((x.toNat:Int)/2) 3988292384=((mI x).toNat:Int)) /\ (¬(x.toNat:Int)%2=1 -> (x.toNat:Int)/2=((mI x).toNat:Int)):=by
 have c:x.getLsbD 0=decide (x.toNat%2=1):=by
  rw[BitVec.getLsbD,Nat.testBit_zero]
 have d:(x >>> 1).toNat=x.toNat/2:=by
  rw[BitVec.toNat_ushiftRight,Nat.shiftRight_eq_div_pow]
 constructor
 ·intro h;have a:x.toNat%2=1:=by omega
  have b:=jB (x >>> 1) 0xEDB88320#32;rw[d] at b;have e:(((0xEDB88320#32).toNat:Nat):Int)=3988292384:=by decide
  rw[e] at b;unfold mI;rw[c,a];simp only[decide_true,if_true];rw[<- b]
  congr 1
 ·intro h;have a:¬x.toNat%2=1:=by omega
  unfold mI;rw[c];simp only[a,decide_false];simp only[Bool.false_eq_true,if_false,BitVec.xor_zero,d];omega
theorem Cy(x:BitVec 32):
 Calls aE 152 #[.int .u32 (x.toNat:Int)] w fun e p=>e=.returned (.int .u32 ((nib (nib x)).toNat:Int)) /\ w=p:=by
 rw[<- yV]
 go_enter func152,ntmps152
 go_wp2_with fail
 go_loop [0,3] (fun r i=>∃k:Nat,k <= 8 /\ i=.int .i64 (k:Int) /\ r=.int .u32 ((uS k x).toNat:Int)) (fun _ i=>8-(intOf i).toNat)
 case atStart=>exact⟨0,by omega,rfl,rfl⟩
 case round=>
  obtain⟨k,s,rfl,rfl⟩:=hrel
  by_cases u:k<8
  ·have t:(k:Int)<8:=by omega
   obtain⟨b,c⟩:=AQ (uS k x);have h:uS (k+1) x=mI (uS k x):=rfl;have d:((uS k x).toNat:Int) <= 4294967295:=by have:=(uS k x).isLt;omega
   have f:=ae h;generalize uS k x=r at *;obtain⟨z,l⟩:=aH ((r.toNat:Int):Int);have o:0 <= z:=by omega
   rw[l] at b c d⊢;have j:z.tdiv 2%4294967296=z/2:=by rw[Int.tdiv_eq_ediv_of_nonneg o];omega
   have q:=ae d;have g:=ae j;clear h l d j
   by_cases a:z%2=1
   ·have n:(z%2 == 1)=true:=by simp[a]
    have e:=b a;have m:=ae a;clear b c a;go_wp2_with fail
    go_round
    case rel=>exact⟨k+1,by omega,by go_num,by rw[g.out,e,f.out]⟩
    case measure=>simp[intOf];omega
   ·have n:(z%2 == 1)=false:=by simp[a]
    have e:=c a;have m:=ae a;clear b c a;go_wp2_with fail
    go_round
    case rel=>exact⟨k+1,by omega,by go_num,by rw[g.out,e,f.out]⟩
    case measure=>simp[intOf];omega
  ·obtain rfl:k=8:=by omega
   go_wp2_with fail
   go_ret
   exact⟨rfl,rfl⟩
theorem rU(x:BitVec 32):
 Calls aE 151 #[.int .u32 (x.toNat:Int)] w fun e a=>e=.returned (.int .u32 ((~~~ x).toNat:Int)) /\ w=a:=by
 have e:Go.bits .xor .u32 (x.toNat:Int) 4294967295=((~~~ x).toNat:Int):=by
  have h:=jB x (~~~ (0#32));have:(((~~~ (0#32)).toNat:Nat):Int)=4294967295:=by decide
  rw[this] at h;rw[h]
  congr 2
  rw[show ~~~ (0#32)=BitVec.allOnes 32 from by decide,BitVec.xor_allOnes]
 generalize ~~~ x=y at *
 go_enter func151,ntmps151
 go_wp2_with fail
 go_ret
 exact⟨rfl,rfl⟩
theorem yW(l:List UInt8)(J:aO F w v l):
 Calls aE 93 #[.int .u32 0,v] w fun e g=>e=.returned (.int .u32 (crc l:Int)) /\ w=g:=by
 obtain⟨a,C,rfl,N,H,R,s⟩:=J;have Q:C <= 9223372036854775807:=by unfold maxLen at H;omega
 have hi:=rU w 0#32;rw[show(((0#32).toNat:Nat):Int)=0 from rfl] at hi;obtain⟨d,j⟩:=aQ (~~~ 0#32:BitVec 32);rw[<- j] at hi;obtain⟨y,n⟩:=aQ (~~~ (qe d l):BitVec 32);have o:crc l=y.toNat:=by rw[n,j];rfl
 rw[o];have f:=ae hi;have A:=ae n;clear j o hi n
 go_enter func93,ntmps93
 go_wp2_with fail;refine f.out.mono ?_;rintro e g ⟨rfl,rfl⟩;clear f;go_wp2_with fail
 go_loop [5,6] (fun r i=>∃k:Nat,k <= l.length /\ i=.int .i64 (k:Int) /\ r=.int .u32 ((qe d (l.take k)).toNat:Int)) (fun _ i=>l.length-(intOf i).toNat)
 case atStart=>exact⟨0,by omega,rfl,rfl⟩
 case round=>
  obtain⟨k,O,rfl,rfl⟩:=hrel
  by_cases h:k<l.length
  ·obtain⟨b,K,L,t,E,rfl,hF,p,P,q⟩:=s.resolve_left (by rintro rfl;simp at h);have D:w.cell? ⟨b,K+k,none⟩=some (B l[k]):=by rw[cell_of_row w b _ L t E p];exact q k h
   unfold B at D;have m:=tr d l k h;generalize I:qe d (l.take k)=r at *;generalize l[k]=c at *;clear q s p I;have M:=wk r c;unfold C6 at m;have u:=ae (Cy w (r ^^^ BitVec.ofNat 32 c.toNat));generalize r ^^^ BitVec.ofNat 32 c.toNat=x at *;have z:=ae m;clear m;have G:(k:Int)<(l.length:Int):=by omega
   go_wp2_with fail;refine u.out.mono ?_;rintro e g ⟨rfl,rfl⟩;go_wp2_with fail
   go_round
   case rel=>exact⟨k+1,by omega,by go_num,by rw[z.out]⟩
   case measure=>simp[intOf];omega
  ·have G:¬(k:Int)<(l.length:Int):=by omega
   obtain rfl:k=l.length:=by omega
   rw[List.take_of_length_le (aq _)];have hi:=rU w (qe d l);rw[<- A.out] at hi;have f:=ae hi;clear hi;go_wp2_with fail;refine f.out.mono ?_;rintro e g ⟨rfl,rfl⟩;go_wp2_with fail
   go_ret
   exact⟨rfl,rfl⟩
theorem rV(d:aO F w v b):
 Calls aE 47 #[v] w fun e f=>e=.returned (.int .u32 (crc b:Int)) /\ w=f:=by
 have H:=yW w F v b d;obtain⟨a,h,rfl,-⟩:=d;generalize crc b=c at *;have g:=ae H;clear H
 go_enter func47,ntmps47
 go_wp2_with fail;refine g.out.mono ?_;rintro e f ⟨rfl,rfl⟩;go_wp2_with fail
 go_ret
 exact⟨rfl,rfl⟩
/- The reference journal: numbers, check sums, halves, places. -/
section
attribute [local go_sem] opC upC told bG br bH bt bw bI bJ
theorem eV(l:List UInt8)(K:aO F w v l)(c:Nat)(h:c+4 <= l.length)(X:c <= 1000):
 Calls aE 46 #[v,.int .i64 (c:Int)] w fun e d=>e=.returned (.int .i64 (bK l c:Int)) /\ ∃n,w.drewN n=d:=by
 obtain⟨a,Q,rfl,hc,hm,hz,M⟩:=K;obtain⟨b,r,L,t,E,rfl,hF,j,J,k⟩:=M.resolve_left (by rintro rfl;simp at h)
 have f:∀i,i<4 -> ∀d,aJ w.drew d -> d.cell? ⟨b,r+(c+i),none⟩=some (.int .u8 ((l.getD (c+i) 0).toNat:Int)):=fun i hi d I=>by
  have G:w.cell? ⟨b,r+(c+i),none⟩=some (B l[c+i]):=by rw[cell_of_row w b _ L t E j];exact k (c+i) (by omega)
  have H:=e8 G I;rw[H,List.getD_eq_getElem?_getD,List.getElem?_eq_getElem (show c+i<l.length by omega)];rfl
 have s:=f 0 (by omega);have N:=f 1 (by omega);have O:=f 2 (by omega);have P:=f 3 (by omega)
 have g:(bK l c:Int)=((l.getD c 0).toNat:Int)+256*((l.getD (c+1) 0).toNat:Int)+65536*((l.getD (c+2) 0).toNat:Int)+16777216*((l.getD (c+3) 0).toNat:Int):=by
  unfold bK;omega
 have z:=(l.getD c 0).toNat_lt;have A:=(l.getD (c+1) 0).toNat_lt;have C:=(l.getD (c+2) 0).toNat_lt;have D:=(l.getD (c+3) 0).toNat_lt;simp only[Nat.add_zero] at s;obtain⟨u,m⟩:=aH (((l.getD c 0).toNat:Int):Int);obtain⟨x,o⟩:=aH (((l.getD (c+1) 0).toNat:Int):Int);obtain⟨y,p⟩:=aH (((l.getD (c+2) 0).toNat:Int):Int);obtain⟨z3,q⟩:=aH (((l.getD (c+3) 0).toNat:Int):Int);simp only[m,o,p,q] at s N O P g;have U:0 <= u /\ u <= 255:=by omega
 have V:0 <= x /\ x <= 255:=by omega
 have W:0 <= y /\ y <= 255:=by omega
 have g3:0 <= z3 /\ z3 <= 255:=by omega
 rw[g];have ag:(c:Int)+3<(l.length:Int):=by omega
 have Z:(c:Int)<(l.length:Int):=by omega
 have aa:(c:Int)+1<(l.length:Int):=by omega
 have ad:(c:Int)+2<(l.length:Int):=by omega
 have n1:0 <= (c:Int)+1:=by omega
 have n2:0 <= (c:Int)+2:=by omega
 have n3:0 <= (c:Int)+3:=by omega
 have ai:=af ((c:Int)+1) (by omega);have ak:=af ((c:Int)+2) (by omega);have al:=af ((c:Int)+3) (by omega);have ab:(c:Int) <= 1000:=by omega
 have R:((c:Int)+1).toNat=c+1:=by omega
 have S:((c:Int)+2).toNat=c+2:=by omega
 have T:((c:Int)+3).toNat=c+3:=by omega
 clear g m o p q z A C D f k j J h
 go_enter func46,ntmps46
 go_wp2_with fail;refine bS aJ (up 30 []) (by kernel_rfl) ?_;apply aG;rfl;intro d Y;go_simp;(repeat (simp(disch:=omega) only[af,if_pos];go_simp));exact aF;refine aY ?_;go_wp2_with fail
 go_ret
 exact⟨rfl,1,rfl⟩
/- The reference journal: check sums, halves, places, pieces' numbers. -/
end
section
attribute [local go_sem] opC upC told bG br bH bt bw bI bJ
theorem yX:w.drewN (n+1)=w.drew.drewN n:=by
 unfold World.drewN World.drew
 congr 1
 show w.drawn+(n+1)=w.drawn+1+n;omega
theorem ec(h:aO F w v b)(k:b.length=64):
 Calls aE 13 #[v] w fun e f=>e=.returned (.bool (dm b)) /\ ∃n,w.drewN n=f:=by
 have y:aO F w.drew v b:=h.keep fun _ _ _=>rfl
 have g:=eV w.drew F v b y 60 (by omega) (by omega);rw[show((60:Nat):Int)=60 from rfl] at g;obtain⟨a,q,rfl,B,G,-⟩:=id h;have s:=h.take 60 (by omega);have x:∀n,Calls aE 47 #[.slice a 60 q] (w.drew.drewN n) fun e f=>e=.returned (.int .u32 (crc (b.take 60):Int)) /\ w.drew.drewN n=f:=fun n=>rV _ F _ _ (s.keep fun _ _ _=>rfl)
 have hi:dm b=(bK b 60 == crc (b.take 60)):=rfl
 have E:(((bK b 60:Nat):Int) == ((crc (b.take 60):Nat):Int))=dm b:=by
  rw[hi]
  by_cases u:bK b 60=crc (b.take 60)
  ·rw[beq_iff_eq.2 u,beq_iff_eq.2 (by omega)]
  ·rw[beq_eq_false_iff_ne.2 u,beq_eq_false_iff_ne.2 (by omega)]
 have t:=t6 (b.take 60);rw[k] at g;have o:=ae g;have p:=ae x;have D:(60:Int) <= (q:Int):=by omega
 rw[k];clear g x hi s y h B k;generalize crc (b.take 60)=c at *;generalize bK b 60=r at *;have H:=af ((c:Int)) (by omega);have C:=ae t;clear t
 go_enter func13,ntmps13
 go_wp2_with fail;refine bS aJ [0,2,3,501,504,5,6,7] (by kernel_rfl) ?_;apply aG;rfl;intro f A;go_simp;exact aF;refine bq rfl rfl (fun j d=>?_);go_simp;refine o.out.mono ?_;rintro e I ⟨rfl,i,m⟩;refine⟨_,rfl,by rw[<- m];exact Below.drewN' (Below.refl _ _) i,d _ _ ?_⟩;clear d j o;go_simp;refine bq rfl rfl (fun j d=>?_);go_simp;rw[<- m];refine(p.out i).mono ?_;rintro e J ⟨rfl,z⟩;refine⟨_,rfl,by rw[<- z];exact bF _,d _ _ ?_⟩;clear d j p m;go_simp;apply aG;rfl;intro f A;go_simp;(repeat (simp(disch:=omega) only[af,if_pos];go_simp));exact aF;refine aY ?_;go_wp2_with fail
 go_ret
 exact⟨rfl,i+1,by rw[<- z];exact yX w i⟩
end
end Go.Proofs.YtobjdpngnfbicaaGreatDoor
