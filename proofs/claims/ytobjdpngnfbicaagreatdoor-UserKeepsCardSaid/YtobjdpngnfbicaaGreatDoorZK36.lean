/-
  JTorn UKeep
-/
import Derived.Test.YtobjdpngnfbicaaGreatDoorZK35
import Derived.Test.YtobjdpngnfbicaaGreatDoorZK26
open Nat renaming le_refl->aq,le_trans->au
open List renaming length_append->ax,length_cons->aB
namespace Go.Proofs.YtobjdpngnfbicaaGreatDoor
open Go.RowKit
set_option linter.unusedVariables false
set_option maxRecDepth 20000
theorem pieceOk_torn {t:List UInt8} (ht:cd t=false) (g k n:Nat):cj t g k n=false:=by
 unfold cj;rw[ht];simp
theorem Inv.torn_append {S S1:List (List UInt8)} {g:Nat} {L:List (List UInt8)} {b t:List UInt8} {i:Nat} (h:Inv S g L) (hfit:aL L+takes b.length <= aT S.length) (hb:b.length <= 65536) (hi:i < takes b.length) (hw:Wrote S S1 g L.length (aL L) b i) (ht:cd t=false):
 Inv (S1.set (bT S.length g (aL L+i)) t) g L:=by
 have hle:=h.le;have hg:=h.gen;have hLT:=cU L;have hH:aT S.length <= 32768:=by unfold aT;omega
 have hlen:(S1.set (bT S.length g (aL L+i)) t).length=S.length:=by rw[List.length_set,hw.len]
 have hsec:∀ h' q,q < aT S.length -> bU (S1.set (bT S.length g (aL L+i)) t) h' q=if h' % 2=g % 2 /\ q=aL L+i then t else bU S1 h' q:=fun h' q hq=>by
  rw[<- hw.len,secM_set _ _ _ _ _ _ (by rw[hw.len];omega) (by rw[hw.len];exact hq)]
 have hown:∀ q,q < aT S.length -> bU (S1.set (bT S.length g (aL L+i)) t) g q=if q=aL L+i then t else if aL L <= q /\ q < aL L+i then cG g L.length b (q - aL L) else bU S g q:=fun q hq=>by
  rw[hsec g q hq,hw.sec g q hq];simp only[true_and]
 have hoth:∀ q,q < aT S.length -> bU (S1.set (bT S.length g (aL L+i)) t) (g+1) q=bU S (g+1) q:=fun q hq=>by
  rw[hsec _ q hq,if_neg (by omega),hw.sec _ q hq,if_neg (by omega)]
 have hheads:∀ c,c < 2 -> (S1.set (bT S.length g (aL L+i)) t).getD c []=S.getD c []:=fun c hc=>by
  rw[<- hw.len,head_set _ _ _ _ _ hc (by rw[hw.len];omega),hw.heads c hc]
 generalize hS':S1.set (bT S.length g (aL L+i)) t=S' at *;refine⟨by rw[hlen];exact h.n8,by rw[hlen];exact hle,hg,by rw[hlen];exact h.room,h.lens,fun j hj=>?_,?_,?_,?_,?_,?_,?_⟩
 ·refine(h.recs j hj).sub fun a ha=>?_
  have:=takenL_take_le L (j+1);rw[takenL_take_succ L j hj] at this;have hr:=h.room;rw[hown _ (by omega),if_neg (by omega),if_neg (by omega)]
 ·by_cases h0:i=0
  ·subst h0;refine recordM_first (.inr fun n=>?_);rw[hown _ (by omega),if_pos (by omega)];exact pieceOk_torn ht _ _ _
  ·have hn:bp (bU S' g (aL L)) 8=b.length:=by
    rw[hown _ (by omega),if_neg (by omega),if_pos (by omega),piece_len _ _ _ _ (by omega)];omega
   unfold cC;rw[hlen,if_neg (by omega)];dsimp only;rw[hn,if_neg (by omega),if_neg];intro hh;have:=fS S' g L.length (aL L) b.length (i+1) (takes b.length - (i+1)) (by rw[show i+1+(takes b.length - (i+1))=takes b.length by omega];exact hh);simp only[cE,Bool.and_eq_true] at this;rw[hown _ (by omega),if_pos rfl,pieceOk_torn ht] at this;exact absurd this.2 (by simp)
 ·intro p hp hq hin hr;rw[hlen] at hq;rw[hown p hq] at hin hr ⊢
  by_cases e:p=aL L+i
  ·rw[if_pos e,ht] at hin;cases hin
  ·rw[if_neg e] at hin hr ⊢
   by_cases e2:aL L <= p /\ p < aL L+i
   ·rw[if_pos e2,piece_ord _ _ _ _ (by omega)];exact aq _
   ·rw[if_neg e2] at hin hr ⊢;exact h.beyond p hp hq hin hr
 ·intro p hq hin;rw[hlen] at hq;rw[hown p hq] at hin ⊢
  by_cases e:p=aL L+i
  ·rw[if_pos e,ht] at hin;cases hin
  ·rw[if_neg e] at hin ⊢
   by_cases e2:aL L <= p /\ p < aL L+i
   ·rw[if_pos e2,piece_gen _ _ _ _ (by omega)];exact aq _
   ·rw[if_neg e2] at hin ⊢;exact h.own p hq hin
 ·intro p hq hin;rw[hlen] at hq;rw[hoth p hq] at hin ⊢;exact h.other p hq hin
 ·rw[hheads _ (by omega)];exact h.head
 ·rw[hheads _ (by omega)];exact h.head2
theorem Inv.other_change {S S':List (List UInt8)} {g:Nat} {L:List (List UInt8)} (h:Inv S g L) (hlen:S'.length=S.length) (hown:∀ q,q < aT S.length -> bU S' g q=bU S g q)
 (hoth:∀ q,q < aT S.length -> bU S' (g+1) q=bU S (g+1) q \/ cd (bU S' (g+1) q)=false \/ (bp (bU S' (g+1) q) 0=g+1 /\ bp (bU S' (g+1) q) 4=0))
 (hhead:S'.getD (g % 2) []=S.getD (g % 2) []) (hhead2:S'.getD ((g+1) % 2) []=S.getD ((g+1) % 2) [] \/ cd (S'.getD ((g+1) % 2) [])=false):Inv S' g L:=by
 have hle:=h.le;have hroom:=h.room
 have hsame:∀ k p,cC S' g k p=cC S g k p:=fun k p=>by
  have hpo:∀ n i,p+i <= aT S.length -> cE S' g k p n i=cE S g k p n i:=fun n i=>by
   induction i with
   | zero=>intro _;rfl
   | succ i ih=>intro hi;simp only[cE,ih (by omega),hown (p+i) (by omega)]
  have hbo:∀ i,p+i <= aT S.length -> dD S' g p i=dD S g p i:=fun i=>by
   induction i with
   | zero=>intro _;rfl
   | succ i ih=>intro hi;simp only[dD,ih (by omega),hown (p+i) (by omega)]
  unfold cC;rw[hlen]
  by_cases hp:aT S.length <= p
  ·rw[if_pos hp,if_pos hp]
  ·rw[if_neg hp,if_neg hp,hown p (by omega)];dsimp only;generalize bp (bU S g p) 8=n
   by_cases hc:65536 < n \/ aT S.length < p+takes n
   ·rw[if_pos hc,if_pos hc]
   ·rw[if_neg hc,if_neg hc,hpo n _ (by omega),hbo _ (by omega)]
 refine⟨by rw[hlen];exact h.n8,by rw[hlen];exact hle,h.gen,by rw[hlen];exact hroom,h.lens,fun j hj=>?_,?_,?_,?_,?_,?_,?_⟩
 ·refine(h.recs j hj).sub fun a ha=>?_
  have:=takenL_take_le L (j+1);rw[takenL_take_succ L j hj] at this;rw[hown _ (by omega)]
 ·rw[hsame];exact h.stop
 ·intro p hp hq hin hr;rw[hlen] at hq;rw[hown p hq] at hin hr ⊢;exact h.beyond p hp hq hin hr
 ·intro p hq hin;rw[hlen] at hq;rw[hown p hq] at hin ⊢;exact h.own p hq hin
 ·intro p hq hin;rw[hlen] at hq;rcases hoth p hq with e | e | e
  ·rw[e] at hin ⊢;exact h.other p hq hin
  ·rw[e] at hin;cases hin
  ·exact⟨by omega,fun _=>e.2⟩
 ·rw[hhead];exact h.head
 ·intro hh;rcases hhead2 with e | e
  ·rw[e] at hh ⊢;exact h.head2 hh
  ·unfold dH at hh;rw[e] at hh;exact absurd hh (by simp only[Bool.false_and,Bool.false_eq_true,not_false_eq_true])
theorem Inv.torn_replace {S S1:List (List UInt8)} {g:Nat} {L:List (List UInt8)} {b t:List UInt8} {i:Nat} (h:Inv S g L) (hfit:takes b.length <= aT S.length) (hi:i < takes b.length) (hw:Wrote S S1 (g+1) 0 0 b i) (ht:cd t=false):
 Inv (S1.set (bT S.length (g+1) (0+i)) t) g L:=by
 have hg:=h.gen;have hlen:(S1.set (bT S.length (g+1) (0+i)) t).length=S.length:=by rw[List.length_set,hw.len]
 have hsec:∀ h' q,q < aT S.length -> bU (S1.set (bT S.length (g+1) (0+i)) t) h' q=if h' % 2=(g+1) % 2 /\ q=0+i then t else bU S1 h' q:=fun h' q hq=>by
  rw[<- hw.len,secM_set _ _ _ _ _ _ (by rw[hw.len];omega) (by rw[hw.len];exact hq)]
 have hheads:∀ c,c < 2 -> (S1.set (bT S.length (g+1) (0+i)) t).getD c []=S.getD c []:=fun c hc=>by
  rw[<- hw.len,head_set _ _ _ _ _ hc (by rw[hw.len];omega),hw.heads c hc]
 refine h.other_change hlen (fun q hq=>?_) (fun q hq=>?_) (hheads _ (by omega)) (.inl (hheads _ (by omega)))
 ·rw[hsec g q hq,if_neg (by omega),hw.sec g q hq,if_neg (by omega)]
 ·rw[hsec _ q hq]
  by_cases e:q=0+i
  ·rw[if_pos ⟨rfl,e⟩];exact .inr (.inl ht)
  ·rw[if_neg (fun hh=>e hh.2),hw.sec _ q hq]
   by_cases e2:q < 0+i
   ·rw[if_pos ⟨rfl,by omega,e2⟩];exact .inr (.inr ⟨piece_gen _ _ _ _ (by omega),piece_ord _ _ _ _ (by omega)⟩)
   ·rw[if_neg (fun hh=>e2 hh.2.2)];exact .inl rfl
theorem Inv.torn_head {S S1:List (List UInt8)} {g:Nat} {L:List (List UInt8)} {b t:List UInt8} (h:Inv S g L) (hfit:takes b.length <= aT S.length) (hw:Wrote S S1 (g+1) 0 0 b (takes b.length)) (ht:cd t=false):
 Inv (S1.set ((g+1) % 2) t) g L:=by
 have hg:=h.gen;have h8:=h.n8;have hlen:(S1.set ((g+1) % 2) t).length=S.length:=by rw[List.length_set,hw.len]
 have hsec:∀ h' q,bU (S1.set ((g+1) % 2) t) h' q=bU S1 h' q:=fun h' q=>secM_set_head _ _ _ _ _ (by omega) (by rw[hw.len];omega)
 refine h.other_change hlen (fun q hq=>?_) (fun q hq=>?_) ?_ (.inr ?_)
 ·rw[hsec,hw.sec g q hq,if_neg (by omega)]
 ·rw[hsec,hw.sec _ q hq]
  by_cases e2:q < 0+takes b.length
  ·rw[if_pos ⟨rfl,by omega,e2⟩];exact .inr (.inr ⟨piece_gen _ _ _ _ (by omega),piece_ord _ _ _ _ (by omega)⟩)
  ·rw[if_neg (fun hh=>e2 hh.2.2)];exact .inl rfl
 ·rw[getD_set _ _ _ _ (by rw[hw.len];omega),if_neg (by omega),hw.heads _ (by omega)]
 ·rw[getD_set _ _ _ _ (by rw[hw.len];omega),if_pos rfl];exact ht
end Go.Proofs.YtobjdpngnfbicaaGreatDoor
/- A run of writes over a disk with a fault, or without power. -/
namespace Go.Proofs.YtobjdpngnfbicaaGreatDoor
open Go.RowKit
set_option linter.unusedVariables false
set_option maxRecDepth 20000
theorem writeAll_down (M:MD) (x:Nat × List UInt8) (ws:List (Nat × List UInt8)) (h:M.down=true):aY M (x :: ws)=(M,341):=by
 obtain⟨a,s⟩:=x;have e:M.wr a s=(M,341):=by simp[MD.wr,h]
 show (if (M.wr a s).2=0 then aY (M.wr a s).1 ws else M.wr a s)=_;rw[e,if_neg (show ¬ (341:Int)=0 by decide)]
theorem writeAll_fault:∀ (ws:List (Nat × List UInt8)) (S:List (List UInt8)) (n:Nat) (t:List UInt8) (k:Nat),
 aY ⟨S,false,some (n,t),k⟩ ws=if h:n < ws.length then (⟨(bY S (ws.take n)).set (ws[n]).1 t,true,none,k+n⟩,341) else (⟨bY S ws,false,some (n - ws.length,t),k+ws.length⟩,0)
 | [],S,n,t,k=>by
   rw[dif_neg (by simp)];rfl
 | (a,s) :: ws,S,0,t,k=>by
   rw[dif_pos (by simp)];show (if ((⟨S,false,some (0,t),k⟩:MD).wr a s).2=0 then aY ((⟨S,false,some (0,t),k⟩:MD).wr a s).1 ws else (⟨S,false,some (0,t),k⟩:MD).wr a s)=_;have e:(⟨S,false,some (0,t),k⟩:MD).wr a s=(⟨S.set a t,true,none,k⟩,341):=rfl;rw[e,if_neg (show ¬ (341:Int)=0 by decide)];rfl
 | (a,s) :: ws,S,n+1,t,k=>by
   show (if ((⟨S,false,some (n+1,t),k⟩:MD).wr a s).2=0 then aY ((⟨S,false,some (n+1,t),k⟩:MD).wr a s).1 ws else (⟨S,false,some (n+1,t),k⟩:MD).wr a s)=_;have e:(⟨S,false,some (n+1,t),k⟩:MD).wr a s=(⟨S.set a s,false,some (n,t),k+1⟩,0):=rfl;rw[e,if_pos rfl,writeAll_fault ws]
   by_cases h:n < ws.length
   ·rw[dif_pos h,dif_pos (by simp;exact h)];have h1:bY (S.set a s) (ws.take n)=bY S (((a,s) :: ws).take (n+1)):=rfl;simp only[h1,List.getElem_cons_succ];rw[show k+1+n=k+(n+1) by omega]
   ·rw[dif_neg h,dif_neg (by simp;omega)];have h1:bY (S.set a s) ws=bY S ((a,s) :: ws):=rfl;rw[h1];simp only[aB];rw[show n+1 - (ws.length+1)=n - ws.length by omega,show k+1+ws.length=k+(ws.length+1) by omega]
end Go.Proofs.YtobjdpngnfbicaaGreatDoor
/- Appends over any disk keep the invariant. -/
namespace Go.Proofs.YtobjdpngnfbicaaGreatDoor
open Go.RowKit
set_option linter.unusedVariables false
set_option maxRecDepth 20000
def TornM (M:MD):Prop:=∀ n t,M.fault=some (n,t) -> cd t=false
theorem keep_append (M:MD) (J:MJ) (l:List UInt8) (h:Inv M.S J.g J.L) (hT:TornM M) (hl:l.length <= 65536) (hd:J.dead=false):
 Inv (bt M J l).1.S J.g (bt M J l).2.1.L /\ TornM (bt M J l).1 /\ (bt M J l).2.1.g=J.g /\
 (((bt M J l).2.2=0 /\ (bt M J l).2.1.L=J.L ++ [l] /\ (bt M J l).2.1.dead=false /\ M.down=false /\ (bt M J l).1.down=false) \/
  ((bt M J l).2.2=7 /\ (bt M J l).1=M /\ (bt M J l).2.1=J) \/
  ((bt M J l).2.2=341 /\ (bt M J l).2.1.L=J.L /\ (bt M J l).2.1.dead=true /\ (bt M J l).1.down=true)):=by
 obtain⟨S,down,fault,k⟩:=M;obtain⟨g,L,dead⟩:=J;dsimp only at h hd;subst hd;have hroom:=h.room
 by_cases hf:aL L+takes l.length <= aT S.length
 ·have hA:bt ⟨S,down,fault,k⟩ ⟨g,L,false⟩ l=if (aY ⟨S,down,fault,k⟩ (aO S.length g L.length (aL L) l)).2=0 then ((aY ⟨S,down,fault,k⟩ (aO S.length g L.length (aL L) l)).1,⟨g,L ++ [l],false⟩,0) else ((aY ⟨S,down,fault,k⟩ (aO S.length g L.length (aL L) l)).1,⟨g,L,true⟩,(aY ⟨S,down,fault,k⟩ (aO S.length g L.length (aL L) l)).2):=by
   unfold bt;rw[if_neg (by simp),if_neg (by omega),if_neg (by show ¬ aT S.length - aL L < _;omega)]
  have htp:=cH l.length;cases down with
  | true=>
    have hw:aY ⟨S,true,fault,k⟩ (aO S.length g L.length (aL L) l)=(⟨S,true,fault,k⟩,341):=by
     cases hp:aO S.length g L.length (aL L) l with
     | nil=>have:=dV S.length g L.length (aL L) l;rw[hp] at this;simp at this;omega
     | cons x ws=>exact writeAll_down _ _ _ rfl
    rw[hA,hw,if_neg (show ¬ (341:Int)=0 by decide)];exact⟨h,hT,rfl,.inr (.inr ⟨rfl,rfl,rfl,rfl⟩)⟩
  | false=>
    cases fault with
    | none=>
      have hw:aY ⟨S,false,none,k⟩ (aO S.length g L.length (aL L) l)=(upM (bY S (aO S.length g L.length (aL L) l)) (k+(aO S.length g L.length (aL L) l).length),0):=dO _ _ _;rw[hA,hw,if_pos rfl];exact⟨inv_append_up (k:=k) h hf hl,nofun,rfl,.inl ⟨rfl,rfl,rfl,rfl,rfl⟩⟩
    | some nt=>
      obtain⟨n,t⟩:=nt;have ht:=hT n t rfl;rw[hA,writeAll_fault]
      by_cases hn:n < (aO S.length g L.length (aL L) l).length
      ·rw[dif_pos hn,if_neg (show ¬ (341:Int)=0 by decide)];have hn2:n < takes l.length:=by rw[dV] at hn;exact hn
       have e:((aO S.length g L.length (aL L) l)[n]).1=bT S.length g (aL L+n):=by simp[aO]
       rw[e];exact⟨h.torn_append hf hl hn2 (wrote_all S g L.length (aL L) l hf n (by omega)) ht,nofun,rfl,.inr (.inr ⟨rfl,rfl,rfl,rfl⟩)⟩
      ·rw[dif_neg hn,if_pos rfl];exact⟨inv_append_up (k:=k) h hf hl,fun n' t' e=>by simp at e;rw[<- e.2];exact ht,rfl,.inl ⟨rfl,rfl,rfl,rfl,rfl⟩⟩
 ·have hA:bt ⟨S,down,fault,k⟩ ⟨g,L,false⟩ l=(⟨S,down,fault,k⟩,⟨g,L,false⟩,7):=by
   unfold bt;rw[if_neg (by simp),if_neg (by omega),if_pos (by show aT S.length - aL L < _;omega)]
  rw[hA];exact⟨h,hT,rfl,.inr (.inl ⟨rfl,rfl,rfl⟩)⟩
theorem keep_replace (M:MD) (J:MJ) (l:List UInt8) (h:Inv M.S J.g J.L) (hg:J.g+1 < 4294967295) (hT:TornM M) (hl:l.length <= 65536) (hd:J.dead=false):
 Inv (bD M J l).1.S (bD M J l).2.1.g (bD M J l).2.1.L /\ TornM (bD M J l).1 /\ (bD M J l).2.1.g <= J.g+1 /\
 (((bD M J l).2.2=0 /\ (bD M J l).2.1.L = [l] /\ (bD M J l).2.1.dead=false /\ M.down=false /\ (bD M J l).1.down=false) \/
  ((bD M J l).2.2=7 /\ (bD M J l).1=M /\ (bD M J l).2.1=J) \/
  ((bD M J l).2.2=341 /\ (bD M J l).2.1.L=J.L /\ (bD M J l).2.1.dead=true /\ (bD M J l).1.down=true)):=by
 obtain⟨S,down,fault,k⟩:=M;obtain⟨g,L,dead⟩:=J;dsimp only at h hd hg;subst hd
 by_cases hf:takes l.length <= aT S.length
 ·have hA:bD ⟨S,down,fault,k⟩ ⟨g,L,false⟩ l=if (aY ⟨S,down,fault,k⟩ (bE S.length g l)).2=0 then ((aY ⟨S,down,fault,k⟩ (bE S.length g l)).1,⟨g+1,[l],false⟩,0) else ((aY ⟨S,down,fault,k⟩ (bE S.length g l)).1,⟨g,L,true⟩,(aY ⟨S,down,fault,k⟩ (bE S.length g l)).2):=by
   unfold bD;rw[if_neg (by simp),if_neg (by omega),if_neg (by show ¬ (aT S.length < _ \/ 4294967295 <= g);omega)];rfl
  have hlw:(bE S.length g l).length=takes l.length+1:=by simp[bE,dV]
  cases down with
  | true=>
    have hw:aY ⟨S,true,fault,k⟩ (bE S.length g l)=(⟨S,true,fault,k⟩,341):=by
     cases hp:bE S.length g l with
     | nil=>rw[hp] at hlw;simp at hlw
     | cons x ws=>exact writeAll_down _ _ _ rfl
    rw[hA,hw,if_neg (show ¬ (341:Int)=0 by decide)];exact⟨h,hT,by show g <= g+1;omega,.inr (.inr ⟨rfl,rfl,rfl,rfl⟩)⟩
  | false=>
    cases fault with
    | none=>
      have hw:aY ⟨S,false,none,k⟩ (bE S.length g l)=(upM (bY S (bE S.length g l)) (k+(bE S.length g l).length),0):=dO _ _ _;rw[hA,hw,if_pos rfl];exact⟨inv_replace_up (k:=k) h hg hf hl,nofun,aq _,.inl ⟨rfl,rfl,rfl,rfl,rfl⟩⟩
    | some nt=>
      obtain⟨n,t⟩:=nt;have ht:=hT n t rfl;rw[hA,writeAll_fault]
      by_cases hn:n < (bE S.length g l).length
      ·rw[dif_pos hn,if_neg (show ¬ (341:Int)=0 by decide)];refine⟨?_,nofun,by show g <= g+1;omega,.inr (.inr ⟨rfl,rfl,rfl,rfl⟩)⟩;show Inv ((bY S ((bE S.length g l).take n)).set ((bE S.length g l)[n]).1 t) g L;rw[hlw] at hn;have hpl:(aO S.length (g+1) 0 0 l).length=takes l.length:=dV _ _ _ _ _
       by_cases hn2:n < takes l.length
       ·have e:((bE S.length g l)[n]).1=bT S.length (g+1) (0+n):=by
         have e0:(bE S.length g l)[n]?=some (bT S.length (g+1) (0+n),cG (g+1) 0 l n):=by
          unfold bE;rw[List.getElem?_append_left (by rw[hpl];exact hn2)];simp[aO,hn2]
         rw[(List.getElem?_eq_some_iff.1 e0).2]
        have e2:(bE S.length g l).take n=(aO S.length (g+1) 0 0 l).take n:=by
         unfold bE;rw[List.take_append_of_le_length (by omega)]
        rw[e,e2];exact h.torn_replace hf hn2 (wrote_all S (g+1) 0 0 l (by omega) n (by omega)) ht
       ·have hne:n=takes l.length:=by omega
        subst hne
        have e:((bE S.length g l)[takes l.length]).1=(g+1) % 2:=by
         have e0:(bE S.length g l)[takes l.length]?=some ((g+1) % 2,bZ (g+1)):=by
          unfold bE;rw[List.getElem?_append_right (by omega),hpl];simp
         rw[(List.getElem?_eq_some_iff.1 e0).2]
        have e2:(bE S.length g l).take (takes l.length)=(aO S.length (g+1) 0 0 l).take (takes l.length):=by
         unfold bE;rw[List.take_append_of_le_length (by omega)]
        rw[e,e2];exact h.torn_head hf (wrote_all S (g+1) 0 0 l (by omega) _ (aq _)) ht
      ·rw[dif_neg hn,if_pos rfl];exact⟨inv_replace_up (k:=k) h hg hf hl,fun n' t' e=>by simp at e;rw[<- e.2];exact ht,aq _,.inl ⟨rfl,rfl,rfl,rfl,rfl⟩⟩
 ·have hA:bD ⟨S,down,fault,k⟩ ⟨g,L,false⟩ l=(⟨S,down,fault,k⟩,⟨g,L,false⟩,7):=by
   unfold bD;rw[if_neg (by simp),if_neg (by omega),if_pos (by show aT S.length < _ \/ 4294967295 <= g;omega)]
  rw[hA];exact⟨h,hT,by show g <= g+1;omega,.inr (.inl ⟨rfl,rfl,rfl⟩)⟩
end Go.Proofs.YtobjdpngnfbicaaGreatDoor
namespace Go.Proofs.YtobjdpngnfbicaaGreatDoor
set_option linter.unusedVariables false
set_option maxRecDepth 20000
structure ei (M:MD) (U:MU):Prop where
 inv:Inv M.S U.J.g U.J.L
 torn:TornM M
 ok:UOk U
def mF (U:MU) (x:RMap) (r:MD × MU × Int):Prop:=
 ei r.1 r.2.1 /\ r.2.1.J.g <= U.J.g+1 /\ r.2.1.dev=U.dev /\
 ((r.2.2=0 /\ r.2.1.m=x /\ r.2.1.J.dead=false /\ r.1.down=false) \/ (r.2.2=7 /\ r.2.1.m=U.m /\ r.2.1.J.dead=false /\ r.1.down=false) \/ (r.2.2=341 /\ r.2.1.m=U.m /\ r.2.1.J.dead=true /\ r.1.down=true))
theorem qI {d:Nat} {m:RMap} (hd:d < 8) (hm:validR m=true):(dq d m).length <= 65536:=by
 have h1:=(valid_lens hm).2.2.2;have h2:=uvar_len d;unfold dq;rw[aB,ax];omega
theorem nY {M:MD} {U:MU} {b:List UInt8} {x:RMap} (h:ei M U) (hd:U.J.dead=false) (hdn:M.down=false) (hb:b.length <= 65536) (hn:cQ U.dev U.m b=some x) (hx:validR x=true):mF U x (gJ M U b x) /\ (gJ M U b x).2.1.J.g=U.J.g:=by
 obtain⟨k1,k2,k3,k4⟩:=keep_append M U.J b h.inv h.torn hb hd;unfold gJ
 by_cases h0:(bt M U.J b).2.2=0
 ·rw[if_pos h0];rcases k4 with ⟨e0,e1,e2,e3,e4⟩ | ⟨e0,-⟩ | ⟨e0,-⟩
  ·refine⟨⟨⟨by dsimp only;rw[k3];exact k1,k2,⟨h.ok.dev,hx,by dsimp only;rw[e1];exact oG h.ok.fold hn⟩⟩,by dsimp only;omega,rfl,.inl ⟨rfl,rfl,e2,e4⟩⟩,k3⟩
  ·rw[h0] at e0;exact absurd e0 (by decide)
  ·rw[h0] at e0;exact absurd e0 (by decide)
 ·rw[if_neg h0];rcases k4 with ⟨e0,-⟩ | ⟨e0,e1,e2⟩ | ⟨e0,e1,e2,e3⟩
  ·exact absurd e0 h0
  ·rw[e0,e1,e2];exact⟨⟨h,Nat.le_succ _,rfl,.inr (.inl ⟨rfl,rfl,hd,hdn⟩)⟩,rfl⟩
  ·refine⟨⟨⟨by dsimp only;rw[k3];exact k1,k2,⟨h.ok.dev,h.ok.valid,by dsimp only;rw[e1];exact h.ok.fold⟩⟩,by dsimp only;omega,rfl,.inr (.inr ⟨e0,rfl,e2,e3⟩)⟩,k3⟩
theorem nZ {M:MD} {U:MU} (h:ei M U) (hd:U.J.dead=false) (hdn:M.down=false) (hg:U.J.g+1 < 4294967295):mF U U.m (fv M U):=by
 obtain⟨k1,k2,k3,k4⟩:=keep_replace M U.J (dq U.dev U.m) h.inv hg h.torn (qI h.ok.dev h.ok.valid) hd;unfold fv;rcases k4 with ⟨e0,e1,e2,e3,e4⟩ | ⟨e0,e1,e2⟩ | ⟨e0,e1,e2,e3⟩
 ·exact⟨⟨k1,k2,⟨h.ok.dev,h.ok.valid,by dsimp only;rw[e1];exact jm h.ok.dev h.ok.valid⟩⟩,k3,rfl,.inl ⟨e0,rfl,e2,e4⟩⟩
 ·rw[e0,e1,e2];exact⟨h,Nat.le_succ _,rfl,.inr (.inl ⟨rfl,rfl,hd,hdn⟩)⟩
 ·exact⟨⟨k1,k2,⟨h.ok.dev,h.ok.valid,by dsimp only;rw[e1];exact h.ok.fold⟩⟩,k3,rfl,.inr (.inr ⟨e0,rfl,e2,e3⟩)⟩
theorem kH {M:MD} {U:MU} {b:List UInt8} {x:RMap} (h:ei M U) (hd:U.J.dead=false) (hdn:M.down=false) (hg:U.J.g+1 < 4294967295) (hb:b.length <= 65536) (hn:cQ U.dev U.m b=some x) (hx:validR x=true):mF U x (ce M U b x):=by
 unfold ce;split
 ·obtain⟨k1,k2,k3,k4⟩:=nZ h hd hdn hg;split
  ·rename_i h0;rcases k4 with ⟨e0,e1,e2,e3⟩ | ⟨e0,-⟩ | ⟨e0,-⟩
   ·split
    ·exact⟨k1,k2,k3,.inr (.inl ⟨rfl,e1,e2,e3⟩)⟩
    ·obtain⟨⟨a1,a2,a3,a4⟩,a5⟩:=nY (b:=b) (x:=x) k1 e2 e3 hb (by rw[k3,e1];exact hn) hx;exact⟨a1,by rw[a5];exact k2,a3.trans k3,by rw[e1] at a4;exact a4⟩
   ·rw[h0] at e0;exact absurd e0 (by decide)
   ·rw[h0] at e0;exact absurd e0 (by decide)
  ·rename_i h0;rcases k4 with ⟨e0,-⟩ | k4
   ·exact absurd e0 h0
   ·exact⟨k1,k2,k3,.inr k4⟩
 ·exact(nY h hd hdn hb hn hx).1
theorem iv {m x:RMap} {e:Int} (h:fullR m=(x,e)) (h0:e=0):validR x=true:=by
 unfold fullR at h
 by_cases hv:validR m=true
 ·rw[if_pos hv] at h;obtain⟨rfl,-⟩:=Prod.mk.inj h;exact hv
 ·rw[if_neg hv] at h;obtain⟨-,rfl⟩:=Prod.mk.inj h;exact absurd h0 (by decide)
theorem kI {m x:RMap} {e:Int} (h:fullR m=(x,e)):e=0 \/ e=7:=by
 unfold fullR at h
 by_cases hv:validR m=true
 ·rw[if_pos hv] at h;exact .inl (Prod.mk.inj h).2.symm
 ·rw[if_neg hv] at h;exact .inr (Prod.mk.inj h).2.symm
theorem pv {m:RMap} {d:Int} {l:List RKey} (h:(useR m d l).2=0):validR (useR m d l).1=true:=by
 unfold useR at h ⊢;split at h
 ·rename_i h1;rw[if_pos h1];split at h
  ·rename_i h2;rw[if_pos h2];exact iv (m:=useM m d l) (x:=(fullR (useM m d l)).1) (e:=(fullR (useM m d l)).2) rfl h
  ·exact absurd h (show ¬ (1:Int)=0 by decide)
 ·exact absurd h (show ¬ (5:Int)=0 by decide)
theorem je {m:RMap} {d:Int} {l:List RKey} (h:(forgetR m d l).2=0):validR (forgetR m d l).1=true:=by
 unfold forgetR at h ⊢;split at h
 ·rename_i h1;rw[if_pos h1];split at h
  ·rename_i h2;rw[if_pos h2];exact iv (m:=forgetM m d l) (x:=(fullR (forgetM m d l)).1) (e:=(fullR (forgetM m d l)).2) rfl h
  ·exact absurd h (show ¬ (1:Int)=0 by decide)
 ·exact absurd h (show ¬ (5:Int)=0 by decide)
theorem kJ {a b:RMap} (h:(mergeR a b).2=0):validR a=true /\ validR b=true /\ validR (mergeR a b).1=true:=by
 unfold mergeR at h ⊢;split at h
 ·rename_i h1;rw[if_pos h1];rw[Bool.and_eq_true] at h1;exact⟨h1.1,h1.2,iv (m:=mergeM a b) (x:=(fullR (mergeM a b)).1) (e:=(fullR (mergeM a b)).2) rfl h⟩
 ·exact absurd h (show ¬ (5:Int)=0 by decide)
theorem oc (m:RMap) (d:Int) (l:List RKey):(useR m d l).2=0 \/ (useR m d l).2=7 \/ (useR m d l).2=1 \/ (useR m d l).2=5:=by
 unfold useR;split
 ·split
  ·rcases kI (m:=useM m d l) (x:=(fullR (useM m d l)).1) (e:=(fullR (useM m d l)).2) rfl with h | h
   ·exact .inl h
   ·exact .inr (.inl h)
  ·exact .inr (.inr (.inl rfl))
 ·exact .inr (.inr (.inr rfl))
theorem jz (m:RMap) (d:Int) (l:List RKey):(forgetR m d l).2=0 \/ (forgetR m d l).2=7 \/ (forgetR m d l).2=1 \/ (forgetR m d l).2=5:=by
 unfold forgetR;split
 ·split
  ·rcases kI (m:=forgetM m d l) (x:=(fullR (forgetM m d l)).1) (e:=(fullR (forgetM m d l)).2) rfl with h | h
   ·exact .inl h
   ·exact .inr (.inl h)
  ·exact .inr (.inr (.inl rfl))
 ·exact .inr (.inr (.inr rfl))
theorem kK (a b:RMap):(mergeR a b).2=0 \/ (mergeR a b).2=7 \/ (mergeR a b).2=1 \/ (mergeR a b).2=5:=by
 unfold mergeR;split
 ·rcases kI (m:=mergeM a b) (x:=(fullR (mergeM a b)).1) (e:=(fullR (mergeM a b)).2) rfl with h | h
  ·exact .inl h
  ·exact .inr (.inl h)
 ·exact .inr (.inr (.inr rfl))
def eV (m:RMap) (p:RMap × Int) (l:List RKey):RMap:=if p.2=0 /\ l≠[] then p.1 else m
def iw (m:RMap) (p:RMap × Int):RMap:=if p.2=0 then p.1 else m
structure od (M:MD) (U:MU) (x:RMap) (r:MD × MU × Int):Prop where
 inv:ei r.1 r.2.1
 gen:r.2.1.J.g <= U.J.g+1
 dev:r.2.1.dev=U.dev
 out:(r.2.2=0 /\ r.2.1.m=x /\ r.2.1.J.dead=false /\ r.1.down=false) \/ (r.2.2≠0 /\ r.2.2≠341 /\ r.2.1.m=U.m /\ r.2.1.J.dead=false /\ r.1.down=false) \/ (r.2.2=341 /\ r.2.1.m=U.m /\ r.2.1.J.dead=true /\ r.1.down=true)
 writes:r.1.writes <= M.writes+200000
 size:r.1.S.length=M.S.length
 quiet:r.2.2=1 \/ r.2.2=5 -> r.1=M
theorem mF.out {U:MU} {x:RMap} {r:MD × MU × Int} (h:mF U x r):(r.2.2=0 /\ r.2.1.m=x /\ r.2.1.J.dead=false /\ r.1.down=false) \/ (r.2.2≠0 /\ r.2.2≠341 /\ r.2.1.m=U.m /\ r.2.1.J.dead=false /\ r.1.down=false) \/ (r.2.2=341 /\ r.2.1.m=U.m /\ r.2.1.J.dead=true /\ r.1.down=true):=by
 obtain⟨-,-,-,h⟩:=h;rcases h with h | ⟨h1,h2⟩ | h
 ·exact .inl h
 ·exact .inr (.inl ⟨by rw[h1];decide,by rw[h1];decide,h2⟩)
 ·exact .inr (.inr h)
theorem mF.loud {U:MU} {x:RMap} {r:MD × MU × Int} (h:mF U x r):¬ (r.2.2=1 \/ r.2.2=5):=by
 obtain⟨-,-,-,h⟩:=h;rcases h with ⟨h,-⟩ | ⟨h,-⟩ | ⟨h,-⟩ <;> rw[h] <;> decide
theorem mG (M:MD) (U:MU):(fv M U).1.S.length=M.S.length /\ (fv M U).1.writes <= M.writes+65536:=jx M U.J _
theorem p7 (M:MD) (U:MU) (b:List UInt8) (x:RMap):(gJ M U b x).1.S.length=M.S.length /\ (gJ M U b x).1.writes <= M.writes+65536:=by
 have:=o7 M U.J b;unfold gJ;split <;> exact this
theorem lM (M:MD) (U:MU) (b:List UInt8) (x:RMap):(ce M U b x).1.S.length=M.S.length /\ (ce M U b x).1.writes <= M.writes+200000:=by
 have h1:=mG M U;have h2:=p7 M U b x;have h3:=p7 (fv M U).1 (fv M U).2.1 b x;unfold ce;split
 ·split
  ·split
   ·exact⟨h1.1,au h1.2 (by omega)⟩
   ·exact⟨h3.1.trans h1.1,au h3.2 (by omega)⟩
  ·exact⟨h1.1,au h1.2 (by omega)⟩
 ·exact⟨h2.1,au h2.2 (by omega)⟩
theorem mF.call {M:MD} {U:MU} {x:RMap} {r:MD × MU × Int} (h:mF U x r) (hm:r.1.S.length=M.S.length /\ r.1.writes <= M.writes+200000):od M U x r:=
 ⟨h.1,h.2.1,h.2.2.1,h.out,hm.2,hm.1,fun hq=>absurd hq h.loud⟩
theorem gG {M:MD} {U:MU} {x:RMap} {e:Int} (h:ei M U) (hd:U.J.dead=false) (hdn:M.down=false) (he:(e=0 /\ x=U.m) \/ (e≠0 /\ e≠341)):od M U x (M,U,e):=by
 refine⟨h,Nat.le_succ _,rfl,?_,Nat.le_add_right _ _,rfl,fun _=>rfl⟩;rcases he with ⟨h1,h2⟩ | ⟨h1,h2⟩
 ·exact .inl ⟨h1,h2.symm,hd,hdn⟩
 ·exact .inr (.inl ⟨h1,h2,rfl,hd,hdn⟩)
theorem jA {M:MD} {U:MU} {l:List RKey} {p:RMap × Int} {b:List UInt8} (h:ei M U) (hd:U.J.dead=false) (hdn:M.down=false) (hg:U.J.g+1 < 4294967295) (hb:b.length <= 65536) (hn:p.2=0 -> cQ U.dev U.m b=some p.1) (hx:p.2=0 -> validR p.1=true) (he:p.2=0 \/ p.2=7 \/ p.2=1 \/ p.2=5):od M U (eV U.m p l) (cT M U l p b):=by
 have e1:cT M U l p b=if l = [] then (M,U,0) else if p.2=0 then ce M U b p.1 else (M,U,p.2):=by
  unfold cT;rw[if_neg (by rw[hd];decide)]
 rw[e1];unfold eV
 by_cases hl:l = []
 ·rw[if_pos hl,if_neg (fun hh=>hh.2 hl)];exact gG h hd hdn (.inl ⟨rfl,rfl⟩)
 ·rw[if_neg hl]
  by_cases h0:p.2=0
  ·rw[if_pos h0,if_pos ⟨h0,hl⟩];exact(kH h hd hdn hg hb (hn h0) (hx h0)).call (lM _ _ _ _)
  ·rw[if_neg h0,if_neg (fun hh=>h0 hh.1)];refine gG h hd hdn (.inr ⟨h0,?_⟩);rcases he with e | e | e | e <;> rw[e] <;> decide
theorem kL {M:MD} {U:MU} {l:List RKey} (h:ei M U) (hd:U.J.dead=false) (hdn:M.down=false) (hg:U.J.g+1 < 4294967295) (hl:l.length < 18446744073709551616) (hk:∀ k ∈ l,k.length < 18446744073709551616) (hb:(dI l).length <= 65535):od M U (eV U.m (useR U.m U.dev l) l) (cq M U l):=
 jA h hd hdn hg (by unfold k6;rw[aB];omega) (fun h0=>qo hl hk h0) pv (oc _ _ _)
theorem lN {M:MD} {U:MU} {l:List RKey} (h:ei M U) (hd:U.J.dead=false) (hdn:M.down=false) (hg:U.J.g+1 < 4294967295) (hl:l.length < 18446744073709551616) (hk:∀ k ∈ l,k.length < 18446744073709551616) (hb:(dI l).length <= 65535):od M U (eV U.m (forgetR U.m U.dev l) l) (du M U l):=
 jA h hd hdn hg (by unfold eZ;rw[aB];omega) (fun h0=>l5 hl hk h0) je (jz _ _ _)
theorem qJ {M:MD} {U:MU} {x:RMap} (h:ei M U) (hd:U.J.dead=false) (hdn:M.down=false) (hg:U.J.g+1 < 4294967295):od M U (iw U.m (mergeR U.m x)) (dJ M U x):=by
 have e1:dJ M U x=if (mergeR U.m x).2=0 then (if codeR U.m=codeR (mergeR U.m x).1 then (M,U,0) else ce M U (fU x) (mergeR U.m x).1) else (M,U,(mergeR U.m x).2):=by
  unfold dJ;rw[if_neg (by rw[hd];decide)]
 rw[e1];unfold iw
 by_cases h0:(mergeR U.m x).2=0
 ·rw[if_pos h0,if_pos h0];obtain⟨v1,v2,v3⟩:=kJ h0
  by_cases hc:codeR U.m=codeR (mergeR U.m x).1
  ·rw[if_pos hc];exact gG h hd hdn (.inl ⟨rfl,(qp v1 v3 hc).symm⟩)
  ·rw[if_neg hc];exact(kH h hd hdn hg (by have:=(valid_lens v2).2.2.2;unfold fU;rw[aB];omega) (m5 v2 h0) v3).call (lM _ _ _ _)
 ·rw[if_neg h0,if_neg h0];refine gG h hd hdn (.inr ⟨h0,?_⟩);rcases kK U.m x with e | e | e | e <;> rw[e] <;> decide
theorem pw {M:MD} {U:MU} (h:ei M U) (hd:U.J.dead=false) (hdn:M.down=false) (hg:U.J.g+1 < 4294967295):od M U U.m (eJ M U):=by
 unfold eJ;rw[if_neg (by rw[hd];decide)];exact(nZ h hd hdn hg).call ⟨(mG M U).1,au (mG M U).2 (by omega)⟩
theorem py {M:MD} {U:MU} {x:RMap} (hd:U.J.dead=false) (h:iw U.m (mergeR U.m x)=U.m):(dJ M U x).1=M:=by
 have e1:dJ M U x=if (mergeR U.m x).2=0 then (if codeR U.m=codeR (mergeR U.m x).1 then (M,U,0) else ce M U (fU x) (mergeR U.m x).1) else (M,U,(mergeR U.m x).2):=by
  unfold dJ;rw[if_neg (by rw[hd];decide)]
 rw[e1];unfold iw at h
 by_cases h0:(mergeR U.m x).2=0
 ·rw[if_pos h0] at h ⊢;rw[h,if_pos rfl]
 ·rw[if_neg h0]
theorem ei.opened {M:MD} {U:MU} (h:ei M U) (hdn:M.down=false):fe M=.inl ⟨U.dev,U.m,⟨U.J.g,U.J.L,false⟩⟩:=by
 unfold fe;rw[h.inv.opened hdn];dsimp only;have hf:=h.ok.fold;rw[if_neg (fun e=>by rw[e] at hf;cases hf),hf]
theorem ei.up {M:MD} {U:MU} (h:ei M U):ei { M with down:=false } ⟨U.dev,U.m,⟨U.J.g,U.J.L,false⟩⟩:=⟨h.inv,h.torn,h.ok.dev,h.ok.valid,h.ok.fold⟩
theorem ei.fail {M:MD} {U:MU} (h:ei M U) (n:Nat) (t:List UInt8) (ht:cd t=false):ei { M with fault:=some (n,t) } U:=⟨h.inv,fun n' t' e=>by
 obtain⟨-,rfl⟩:=Prod.mk.inj (Option.some.inj e)
 exact ht,h.ok⟩
end Go.Proofs.YtobjdpngnfbicaaGreatDoor
