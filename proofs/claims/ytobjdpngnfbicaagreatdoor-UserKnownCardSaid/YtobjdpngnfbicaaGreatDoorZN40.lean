/-
  JTorn UKeep
-/
import Derived.Test.YtobjdpngnfbicaaGreatDoorZN39
import Derived.Test.YtobjdpngnfbicaaGreatDoorZN29
namespace Go.Proofs.YtobjdpngnfbicaaGreatDoor
open Go.RowKit
set_option linter.unusedVariables false
set_option maxRecDepth 20000
theorem pieceOk_torn {t:List UInt8} (ht:intact t=false) (g k n:Nat):pieceOk t g k n=false:=by
 unfold pieceOk
 rw [ht]
 simp
theorem Inv.torn_append {S S1:List (List UInt8)} {g:Nat} {L:List (List UInt8)} {b t:List UInt8} {i:Nat} (h:Inv S g L) (hfit:takenL L+takes b.length≤halfN S.length) (hb:b.length≤65536) (hi:i < takes b.length) (hw:Wrote S S1 g L.length (takenL L) b i) (ht:intact t=false):
 Inv (S1.set (placeN S.length g (takenL L+i)) t) g L:=by
 have hle:=h.le
 have hg:=h.gen
 have hLT:=length_le_taken L
 have hH:halfN S.length≤32768:=by unfold halfN;omega
 have hlen:(S1.set (placeN S.length g (takenL L+i)) t).length=S.length:=by rw [List.length_set,hw.len]
 have hsec:∀ h' q,q < halfN S.length→secM (S1.set (placeN S.length g (takenL L+i)) t) h' q=if h' % 2=g % 2∧q=takenL L+i then t else secM S1 h' q:=fun h' q hq=>by
  rw [←hw.len,secM_set _ _ _ _ _ _ (by rw [hw.len];omega) (by rw [hw.len];exact hq)]
 have hown:∀ q,q < halfN S.length→secM (S1.set (placeN S.length g (takenL L+i)) t) g q=if q=takenL L+i then t else if takenL L≤q∧q < takenL L+i then pieceB g L.length b (q - takenL L) else secM S g q:=fun q hq=>by
  rw [hsec g q hq,hw.sec g q hq]
  simp only [true_and]
 have hoth:∀ q,q < halfN S.length→secM (S1.set (placeN S.length g (takenL L+i)) t) (g+1) q=secM S (g+1) q:=fun q hq=>by
  rw [hsec _ q hq,if_neg (by omega),hw.sec _ q hq,if_neg (by omega)]
 have hheads:∀ c,c < 2→(S1.set (placeN S.length g (takenL L+i)) t).getD c []=S.getD c []:=fun c hc=>by
  rw [←hw.len,head_set _ _ _ _ _ hc (by rw [hw.len];omega),hw.heads c hc]
 generalize hS':S1.set (placeN S.length g (takenL L+i)) t=S' at *
 refine ⟨by rw [hlen];exact h.n8,by rw [hlen];exact hle,hg,by rw [hlen];exact h.room,h.lens,fun j hj=>?_,?_,?_,?_,?_,?_,?_⟩
 · refine (h.recs j hj).sub fun a ha=>?_
   have:=takenL_take_le L (j+1)
   rw [takenL_take_succ L j hj] at this
   have hr:=h.room
   rw [hown _ (by omega),if_neg (by omega),if_neg (by omega)]
 · by_cases h0:i=0
   · subst h0
     refine recordM_first (.inr fun n=>?_)
     rw [hown _ (by omega),if_pos (by omega)]
     exact pieceOk_torn ht _ _ _
   · have hn:read4 (secM S' g (takenL L)) 8=b.length:=by
      rw [hown _ (by omega),if_neg (by omega),if_pos (by omega),piece_len _ _ _ _ (by omega)]
      omega
     unfold recordM
     rw [hlen,if_neg (by omega)]
     dsimp only
     rw [hn,if_neg (by omega),if_neg]
     intro hh
     have:=piecesOk_le S' g L.length (takenL L) b.length (i+1) (takes b.length - (i+1)) (by rw [show i+1+(takes b.length - (i+1))=takes b.length by omega];exact hh)
     simp only [piecesOk,Bool.and_eq_true] at this
     rw [hown _ (by omega),if_pos rfl,pieceOk_torn ht] at this
     exact absurd this.2 (by simp)
 · intro p hp hq hin hr
   rw [hlen] at hq
   rw [hown p hq] at hin hr ⊢
   by_cases e:p=takenL L+i
   · rw [if_pos e,ht] at hin;cases hin
   · rw [if_neg e] at hin hr ⊢
     by_cases e2:takenL L≤p∧p < takenL L+i
     · rw [if_pos e2,piece_ord _ _ _ _ (by omega)];exact Nat.le_refl _
     · rw [if_neg e2] at hin hr ⊢
       exact h.beyond p hp hq hin hr
 · intro p hq hin
   rw [hlen] at hq
   rw [hown p hq] at hin ⊢
   by_cases e:p=takenL L+i
   · rw [if_pos e,ht] at hin;cases hin
   · rw [if_neg e] at hin ⊢
     by_cases e2:takenL L≤p∧p < takenL L+i
     · rw [if_pos e2,piece_gen _ _ _ _ (by omega)];exact Nat.le_refl _
     · rw [if_neg e2] at hin ⊢
       exact h.own p hq hin
 · intro p hq hin
   rw [hlen] at hq
   rw [hoth p hq] at hin ⊢
   exact h.other p hq hin
 · rw [hheads _ (by omega)];exact h.head
 · rw [hheads _ (by omega)];exact h.head2
theorem Inv.other_change {S S':List (List UInt8)} {g:Nat} {L:List (List UInt8)} (h:Inv S g L) (hlen:S'.length=S.length) (hown:∀ q,q < halfN S.length→secM S' g q=secM S g q)
 (hoth:∀ q,q < halfN S.length→secM S' (g+1) q=secM S (g+1) q∨intact (secM S' (g+1) q)=false∨(read4 (secM S' (g+1) q) 0=g+1∧read4 (secM S' (g+1) q) 4=0))
 (hhead:S'.getD (g % 2) []=S.getD (g % 2) []) (hhead2:S'.getD ((g+1) % 2) []=S.getD ((g+1) % 2) []∨intact (S'.getD ((g+1) % 2) [])=false):Inv S' g L:=by
 have hle:=h.le
 have hroom:=h.room
 have hsame:∀ k p,recordM S' g k p=recordM S g k p:=fun k p=>by
  have hpo:∀ n i,p+i≤halfN S.length→piecesOk S' g k p n i=piecesOk S g k p n i:=fun n i=>by
   induction i with
   | zero=>intro _;rfl
   | succ i ih=>intro hi;simp only [piecesOk,ih (by omega),hown (p+i) (by omega)]
  have hbo:∀ i,p+i≤halfN S.length→bodyM S' g p i=bodyM S g p i:=fun i=>by
   induction i with
   | zero=>intro _;rfl
   | succ i ih=>intro hi;simp only [bodyM,ih (by omega),hown (p+i) (by omega)]
  unfold recordM
  rw [hlen]
  by_cases hp:halfN S.length≤p
  · rw [if_pos hp,if_pos hp]
  · rw [if_neg hp,if_neg hp,hown p (by omega)]
    dsimp only
    generalize read4 (secM S g p) 8=n
    by_cases hc:65536 < n∨halfN S.length < p+takes n
    · rw [if_pos hc,if_pos hc]
    · rw [if_neg hc,if_neg hc,hpo n _ (by omega),hbo _ (by omega)]
 refine ⟨by rw [hlen];exact h.n8,by rw [hlen];exact hle,h.gen,by rw [hlen];exact hroom,h.lens,fun j hj=>?_,?_,?_,?_,?_,?_,?_⟩
 · refine (h.recs j hj).sub fun a ha=>?_
   have:=takenL_take_le L (j+1)
   rw [takenL_take_succ L j hj] at this
   rw [hown _ (by omega)]
 · rw [hsame];exact h.stop
 · intro p hp hq hin hr
   rw [hlen] at hq
   rw [hown p hq] at hin hr ⊢
   exact h.beyond p hp hq hin hr
 · intro p hq hin
   rw [hlen] at hq
   rw [hown p hq] at hin ⊢
   exact h.own p hq hin
 · intro p hq hin
   rw [hlen] at hq
   rcases hoth p hq with e | e | e
   · rw [e] at hin ⊢
     exact h.other p hq hin
   · rw [e] at hin;cases hin
   · exact ⟨by omega,fun _=>e.2⟩
 · rw [hhead];exact h.head
 · intro hh
   rcases hhead2 with e | e
   · rw [e] at hh ⊢
     exact h.head2 hh
   · unfold isHead at hh
     rw [e] at hh
     exact absurd hh (by simp only [Bool.false_and,Bool.false_eq_true,not_false_eq_true])
theorem Inv.torn_replace {S S1:List (List UInt8)} {g:Nat} {L:List (List UInt8)} {b t:List UInt8} {i:Nat} (h:Inv S g L) (hfit:takes b.length≤halfN S.length) (hi:i < takes b.length) (hw:Wrote S S1 (g+1) 0 0 b i) (ht:intact t=false):
 Inv (S1.set (placeN S.length (g+1) (0+i)) t) g L:=by
 have hg:=h.gen
 have hlen:(S1.set (placeN S.length (g+1) (0+i)) t).length=S.length:=by rw [List.length_set,hw.len]
 have hsec:∀ h' q,q < halfN S.length→secM (S1.set (placeN S.length (g+1) (0+i)) t) h' q=if h' % 2=(g+1) % 2∧q=0+i then t else secM S1 h' q:=fun h' q hq=>by
  rw [←hw.len,secM_set _ _ _ _ _ _ (by rw [hw.len];omega) (by rw [hw.len];exact hq)]
 have hheads:∀ c,c < 2→(S1.set (placeN S.length (g+1) (0+i)) t).getD c []=S.getD c []:=fun c hc=>by
  rw [←hw.len,head_set _ _ _ _ _ hc (by rw [hw.len];omega),hw.heads c hc]
 refine h.other_change hlen (fun q hq=>?_) (fun q hq=>?_) (hheads _ (by omega)) (.inl (hheads _ (by omega)))
 · rw [hsec g q hq,if_neg (by omega),hw.sec g q hq,if_neg (by omega)]
 · rw [hsec _ q hq]
   by_cases e:q=0+i
   · rw [if_pos ⟨rfl,e⟩];exact .inr (.inl ht)
   · rw [if_neg (fun hh=>e hh.2),hw.sec _ q hq]
     by_cases e2:q < 0+i
     · rw [if_pos ⟨rfl,by omega,e2⟩]
       exact .inr (.inr ⟨piece_gen _ _ _ _ (by omega),piece_ord _ _ _ _ (by omega)⟩)
     · rw [if_neg (fun hh=>e2 hh.2.2)];exact .inl rfl
theorem Inv.torn_head {S S1:List (List UInt8)} {g:Nat} {L:List (List UInt8)} {b t:List UInt8} (h:Inv S g L) (hfit:takes b.length≤halfN S.length) (hw:Wrote S S1 (g+1) 0 0 b (takes b.length)) (ht:intact t=false):
 Inv (S1.set ((g+1) % 2) t) g L:=by
 have hg:=h.gen
 have h8:=h.n8
 have hlen:(S1.set ((g+1) % 2) t).length=S.length:=by rw [List.length_set,hw.len]
 have hsec:∀ h' q,secM (S1.set ((g+1) % 2) t) h' q=secM S1 h' q:=fun h' q=>secM_set_head _ _ _ _ _ (by omega) (by rw [hw.len];omega)
 refine h.other_change hlen (fun q hq=>?_) (fun q hq=>?_) ?_ (.inr ?_)
 · rw [hsec,hw.sec g q hq,if_neg (by omega)]
 · rw [hsec,hw.sec _ q hq]
   by_cases e2:q < 0+takes b.length
   · rw [if_pos ⟨rfl,by omega,e2⟩]
     exact .inr (.inr ⟨piece_gen _ _ _ _ (by omega),piece_ord _ _ _ _ (by omega)⟩)
   · rw [if_neg (fun hh=>e2 hh.2.2)];exact .inl rfl
 · rw [getD_set _ _ _ _ (by rw [hw.len];omega),if_neg (by omega),hw.heads _ (by omega)]
 · rw [getD_set _ _ _ _ (by rw [hw.len];omega),if_pos rfl]
   exact ht
end Go.Proofs.YtobjdpngnfbicaaGreatDoor
/- A run of writes over a disk with a fault, or without power. -/
namespace Go.Proofs.YtobjdpngnfbicaaGreatDoor
open Go.RowKit
set_option linter.unusedVariables false
set_option maxRecDepth 20000
theorem writeAll_down (M:MD) (x:Nat × List UInt8) (ws:List (Nat × List UInt8)) (h:M.down=true):writeAll M (x :: ws)=(M,341):=by
 obtain ⟨a,s⟩:=x
 have e:M.wr a s=(M,341):=by simp [MD.wr,h]
 show (if (M.wr a s).2=0 then writeAll (M.wr a s).1 ws else M.wr a s)=_
 rw [e,if_neg (show ¬ (341:Int)=0 by decide)]
theorem writeAll_fault:∀ (ws:List (Nat × List UInt8)) (S:List (List UInt8)) (n:Nat) (t:List UInt8) (k:Nat),
 writeAll ⟨S,false,some (n,t),k⟩ ws=if h:n < ws.length then (⟨(setAll S (ws.take n)).set (ws[n]).1 t,true,none,k+n⟩,341) else (⟨setAll S ws,false,some (n - ws.length,t),k+ws.length⟩,0)
 | [],S,n,t,k=>by
   rw [dif_neg (by simp)]
   rfl
 | (a,s) :: ws,S,0,t,k=>by
   rw [dif_pos (by simp)]
   show (if ((⟨S,false,some (0,t),k⟩:MD).wr a s).2=0 then writeAll ((⟨S,false,some (0,t),k⟩:MD).wr a s).1 ws else (⟨S,false,some (0,t),k⟩:MD).wr a s)=_
   have e:(⟨S,false,some (0,t),k⟩:MD).wr a s=(⟨S.set a t,true,none,k⟩,341):=rfl
   rw [e,if_neg (show ¬ (341:Int)=0 by decide)]
   rfl
 | (a,s) :: ws,S,n+1,t,k=>by
   show (if ((⟨S,false,some (n+1,t),k⟩:MD).wr a s).2=0 then writeAll ((⟨S,false,some (n+1,t),k⟩:MD).wr a s).1 ws else (⟨S,false,some (n+1,t),k⟩:MD).wr a s)=_
   have e:(⟨S,false,some (n+1,t),k⟩:MD).wr a s=(⟨S.set a s,false,some (n,t),k+1⟩,0):=rfl
   rw [e,if_pos rfl,writeAll_fault ws]
   by_cases h:n < ws.length
   · rw [dif_pos h,dif_pos (by simp;exact h)]
     have h1:setAll (S.set a s) (ws.take n)=setAll S (((a,s) :: ws).take (n+1)):=rfl
     simp only [h1,List.getElem_cons_succ]
     rw [show k+1+n=k+(n+1) by omega]
   · rw [dif_neg h,dif_neg (by simp;omega)]
     have h1:setAll (S.set a s) ws=setAll S ((a,s) :: ws):=rfl
     rw [h1]
     simp only [List.length_cons]
     rw [show n+1 - (ws.length+1)=n - ws.length by omega,show k+1+ws.length=k+(ws.length+1) by omega]
end Go.Proofs.YtobjdpngnfbicaaGreatDoor
/- Appends over any disk keep the invariant. -/
namespace Go.Proofs.YtobjdpngnfbicaaGreatDoor
open Go.RowKit
set_option linter.unusedVariables false
set_option maxRecDepth 20000
def TornM (M:MD):Prop:=∀ n t,M.fault=some (n,t)→intact t=false
theorem keep_append (M:MD) (J:MJ) (l:List UInt8) (h:Inv M.S J.g J.L) (hT:TornM M) (hl:l.length≤65536) (hd:J.dead=false):
 Inv (appendM M J l).1.S J.g (appendM M J l).2.1.L∧TornM (appendM M J l).1∧(appendM M J l).2.1.g=J.g ∧
 (((appendM M J l).2.2=0∧(appendM M J l).2.1.L=J.L ++ [l]∧(appendM M J l).2.1.dead=false∧M.down=false∧(appendM M J l).1.down=false) ∨
  ((appendM M J l).2.2=7∧(appendM M J l).1=M∧(appendM M J l).2.1=J) ∨
  ((appendM M J l).2.2=341∧(appendM M J l).2.1.L=J.L∧(appendM M J l).2.1.dead=true∧(appendM M J l).1.down=true)):=by
 obtain ⟨S,down,fault,k⟩:=M
 obtain ⟨g,L,dead⟩:=J
 dsimp only at h hd
 subst hd
 have hroom:=h.room
 by_cases hf:takenL L+takes l.length≤halfN S.length
 · have hA:appendM ⟨S,down,fault,k⟩ ⟨g,L,false⟩ l=if (writeAll ⟨S,down,fault,k⟩ (pieceWrites S.length g L.length (takenL L) l)).2=0 then ((writeAll ⟨S,down,fault,k⟩ (pieceWrites S.length g L.length (takenL L) l)).1,⟨g,L ++ [l],false⟩,0) else ((writeAll ⟨S,down,fault,k⟩ (pieceWrites S.length g L.length (takenL L) l)).1,⟨g,L,true⟩,(writeAll ⟨S,down,fault,k⟩ (pieceWrites S.length g L.length (takenL L) l)).2):=by
    unfold appendM
    rw [if_neg (by simp),if_neg (by omega),if_neg (by show ¬ halfN S.length - takenL L < _;omega)]
   have htp:=takes_pos l.length
   cases down with
   | true=>
     have hw:writeAll ⟨S,true,fault,k⟩ (pieceWrites S.length g L.length (takenL L) l)=(⟨S,true,fault,k⟩,341):=by
      cases hp:pieceWrites S.length g L.length (takenL L) l with
      | nil=>have:=ws_length S.length g L.length (takenL L) l;rw [hp] at this;simp at this;omega
      | cons x ws=>exact writeAll_down _ _ _ rfl
     rw [hA,hw,if_neg (show ¬ (341:Int)=0 by decide)]
     exact ⟨h,hT,rfl,.inr (.inr ⟨rfl,rfl,rfl,rfl⟩)⟩
   | false=>
     cases fault with
     | none=>
       have hw:writeAll ⟨S,false,none,k⟩ (pieceWrites S.length g L.length (takenL L) l)=(upM (setAll S (pieceWrites S.length g L.length (takenL L) l)) (k+(pieceWrites S.length g L.length (takenL L) l).length),0):=writeAll_up _ _ _
       rw [hA,hw,if_pos rfl]
       exact ⟨inv_append_up (k:=k) h hf hl,nofun,rfl,.inl ⟨rfl,rfl,rfl,rfl,rfl⟩⟩
     | some nt=>
       obtain ⟨n,t⟩:=nt
       have ht:=hT n t rfl
       rw [hA,writeAll_fault]
       by_cases hn:n < (pieceWrites S.length g L.length (takenL L) l).length
       · rw [dif_pos hn,if_neg (show ¬ (341:Int)=0 by decide)]
         have hn2:n < takes l.length:=by rw [ws_length] at hn;exact hn
         have e:((pieceWrites S.length g L.length (takenL L) l)[n]).1=placeN S.length g (takenL L+n):=by simp [pieceWrites]
         rw [e]
         exact ⟨h.torn_append hf hl hn2 (wrote_all S g L.length (takenL L) l hf n (by omega)) ht,nofun,rfl,.inr (.inr ⟨rfl,rfl,rfl,rfl⟩)⟩
       · rw [dif_neg hn,if_pos rfl]
         exact ⟨inv_append_up (k:=k) h hf hl,fun n' t' e=>by simp at e;rw [←e.2];exact ht,rfl,.inl ⟨rfl,rfl,rfl,rfl,rfl⟩⟩
 · have hA:appendM ⟨S,down,fault,k⟩ ⟨g,L,false⟩ l=(⟨S,down,fault,k⟩,⟨g,L,false⟩,7):=by
    unfold appendM
    rw [if_neg (by simp),if_neg (by omega),if_pos (by show halfN S.length - takenL L < _;omega)]
   rw [hA]
   exact ⟨h,hT,rfl,.inr (.inl ⟨rfl,rfl,rfl⟩)⟩
theorem keep_replace (M:MD) (J:MJ) (l:List UInt8) (h:Inv M.S J.g J.L) (hg:J.g+1 < 4294967295) (hT:TornM M) (hl:l.length≤65536) (hd:J.dead=false):
 Inv (replaceM M J l).1.S (replaceM M J l).2.1.g (replaceM M J l).2.1.L∧TornM (replaceM M J l).1∧(replaceM M J l).2.1.g≤J.g+1 ∧
 (((replaceM M J l).2.2=0∧(replaceM M J l).2.1.L = [l]∧(replaceM M J l).2.1.dead=false∧M.down=false∧(replaceM M J l).1.down=false) ∨
  ((replaceM M J l).2.2=7∧(replaceM M J l).1=M∧(replaceM M J l).2.1=J) ∨
  ((replaceM M J l).2.2=341∧(replaceM M J l).2.1.L=J.L∧(replaceM M J l).2.1.dead=true∧(replaceM M J l).1.down=true)):=by
 obtain ⟨S,down,fault,k⟩:=M
 obtain ⟨g,L,dead⟩:=J
 dsimp only at h hd hg
 subst hd
 by_cases hf:takes l.length≤halfN S.length
 · have hA:replaceM ⟨S,down,fault,k⟩ ⟨g,L,false⟩ l=if (writeAll ⟨S,down,fault,k⟩ (replaceWs S.length g l)).2=0 then ((writeAll ⟨S,down,fault,k⟩ (replaceWs S.length g l)).1,⟨g+1,[l],false⟩,0) else ((writeAll ⟨S,down,fault,k⟩ (replaceWs S.length g l)).1,⟨g,L,true⟩,(writeAll ⟨S,down,fault,k⟩ (replaceWs S.length g l)).2):=by
    unfold replaceM
    rw [if_neg (by simp),if_neg (by omega),if_neg (by show ¬ (halfN S.length < _∨4294967295≤g);omega)]
    rfl
   have hlw:(replaceWs S.length g l).length=takes l.length+1:=by simp [replaceWs,ws_length]
   cases down with
   | true=>
     have hw:writeAll ⟨S,true,fault,k⟩ (replaceWs S.length g l)=(⟨S,true,fault,k⟩,341):=by
      cases hp:replaceWs S.length g l with
      | nil=>rw [hp] at hlw;simp at hlw
      | cons x ws=>exact writeAll_down _ _ _ rfl
     rw [hA,hw,if_neg (show ¬ (341:Int)=0 by decide)]
     exact ⟨h,hT,by show g≤g+1;omega,.inr (.inr ⟨rfl,rfl,rfl,rfl⟩)⟩
   | false=>
     cases fault with
     | none=>
       have hw:writeAll ⟨S,false,none,k⟩ (replaceWs S.length g l)=(upM (setAll S (replaceWs S.length g l)) (k+(replaceWs S.length g l).length),0):=writeAll_up _ _ _
       rw [hA,hw,if_pos rfl]
       exact ⟨inv_replace_up (k:=k) h hg hf hl,nofun,Nat.le_refl _,.inl ⟨rfl,rfl,rfl,rfl,rfl⟩⟩
     | some nt=>
       obtain ⟨n,t⟩:=nt
       have ht:=hT n t rfl
       rw [hA,writeAll_fault]
       by_cases hn:n < (replaceWs S.length g l).length
       · rw [dif_pos hn,if_neg (show ¬ (341:Int)=0 by decide)]
         refine ⟨?_,nofun,by show g≤g+1;omega,.inr (.inr ⟨rfl,rfl,rfl,rfl⟩)⟩
         show Inv ((setAll S ((replaceWs S.length g l).take n)).set ((replaceWs S.length g l)[n]).1 t) g L
         rw [hlw] at hn
         have hpl:(pieceWrites S.length (g+1) 0 0 l).length=takes l.length:=ws_length _ _ _ _ _
         by_cases hn2:n < takes l.length
         · have e:((replaceWs S.length g l)[n]).1=placeN S.length (g+1) (0+n):=by
            have e0:(replaceWs S.length g l)[n]?=some (placeN S.length (g+1) (0+n),pieceB (g+1) 0 l n):=by
             unfold replaceWs
             rw [List.getElem?_append_left (by rw [hpl];exact hn2)]
             simp [pieceWrites,hn2]
            rw [(List.getElem?_eq_some_iff.1 e0).2]
           have e2:(replaceWs S.length g l).take n=(pieceWrites S.length (g+1) 0 0 l).take n:=by
            unfold replaceWs
            rw [List.take_append_of_le_length (by omega)]
           rw [e,e2]
           exact h.torn_replace hf hn2 (wrote_all S (g+1) 0 0 l (by omega) n (by omega)) ht
         · have hne:n=takes l.length:=by omega
           subst hne
           have e:((replaceWs S.length g l)[takes l.length]).1=(g+1) % 2:=by
            have e0:(replaceWs S.length g l)[takes l.length]?=some ((g+1) % 2,headB (g+1)):=by
             unfold replaceWs
             rw [List.getElem?_append_right (by omega),hpl]
             simp
            rw [(List.getElem?_eq_some_iff.1 e0).2]
           have e2:(replaceWs S.length g l).take (takes l.length)=(pieceWrites S.length (g+1) 0 0 l).take (takes l.length):=by
            unfold replaceWs
            rw [List.take_append_of_le_length (by omega)]
           rw [e,e2]
           exact h.torn_head hf (wrote_all S (g+1) 0 0 l (by omega) _ (Nat.le_refl _)) ht
       · rw [dif_neg hn,if_pos rfl]
         exact ⟨inv_replace_up (k:=k) h hg hf hl,fun n' t' e=>by simp at e;rw [←e.2];exact ht,Nat.le_refl _,.inl ⟨rfl,rfl,rfl,rfl,rfl⟩⟩
 · have hA:replaceM ⟨S,down,fault,k⟩ ⟨g,L,false⟩ l=(⟨S,down,fault,k⟩,⟨g,L,false⟩,7):=by
    unfold replaceM
    rw [if_neg (by simp),if_neg (by omega),if_pos (by show halfN S.length < _∨4294967295≤g;omega)]
   rw [hA]
   exact ⟨h,hT,by show g≤g+1;omega,.inr (.inl ⟨rfl,rfl,rfl⟩)⟩
end Go.Proofs.YtobjdpngnfbicaaGreatDoor

namespace Go.Proofs.YtobjdpngnfbicaaGreatDoor
set_option linter.unusedVariables false
set_option maxRecDepth 20000
structure UInv (M:MD) (U:MU):Prop where
 inv:Inv M.S U.J.g U.J.L
 torn:TornM M
 ok:UOk U
def Kept (U:MU) (x:RMap) (r:MD × MU × Int):Prop:=
 UInv r.1 r.2.1∧r.2.1.J.g≤U.J.g+1∧r.2.1.dev=U.dev ∧
 ((r.2.2=0∧r.2.1.m=x∧r.2.1.J.dead=false∧r.1.down=false)∨(r.2.2=7∧r.2.1.m=U.m∧r.2.1.J.dead=false∧r.1.down=false)∨(r.2.2=341∧r.2.1.m=U.m∧r.2.1.J.dead=true∧r.1.down=true))
theorem stateB_le {d:Nat} {m:RMap} (hd:d < 8) (hm:validR m=true):(stateB d m).length≤65536:=by
 have h1:=(valid_lens hm).2.2.2
 have h2:=uvar_len d
 unfold stateB
 rw [List.length_cons,List.length_append]
 omega
theorem kept_app {M:MD} {U:MU} {b:List UInt8} {x:RMap} (h:UInv M U) (hd:U.J.dead=false) (hdn:M.down=false) (hb:b.length≤65536) (hn:nextU U.dev U.m b=some x) (hx:validR x=true):Kept U x (appU M U b x)∧(appU M U b x).2.1.J.g=U.J.g:=by
 obtain ⟨k1,k2,k3,k4⟩:=keep_append M U.J b h.inv h.torn hb hd
 unfold appU
 by_cases h0:(appendM M U.J b).2.2=0
 · rw [if_pos h0]
   rcases k4 with ⟨e0,e1,e2,e3,e4⟩ | ⟨e0,-⟩ | ⟨e0,-⟩
   · refine ⟨⟨⟨by dsimp only;rw [k3];exact k1,k2,⟨h.ok.dev,hx,by dsimp only;rw [e1];exact foldU_snoc h.ok.fold hn⟩⟩,by dsimp only;omega,rfl,.inl ⟨rfl,rfl,e2,e4⟩⟩,k3⟩
   · rw [h0] at e0;exact absurd e0 (by decide)
   · rw [h0] at e0;exact absurd e0 (by decide)
 · rw [if_neg h0]
   rcases k4 with ⟨e0,-⟩ | ⟨e0,e1,e2⟩ | ⟨e0,e1,e2,e3⟩
   · exact absurd e0 h0
   · rw [e0,e1,e2]
     exact ⟨⟨h,Nat.le_succ _,rfl,.inr (.inl ⟨rfl,rfl,hd,hdn⟩)⟩,rfl⟩
   · refine ⟨⟨⟨by dsimp only;rw [k3];exact k1,k2,⟨h.ok.dev,h.ok.valid,by dsimp only;rw [e1];exact h.ok.fold⟩⟩,by dsimp only;omega,rfl,.inr (.inr ⟨e0,rfl,e2,e3⟩)⟩,k3⟩
theorem kept_rep {M:MD} {U:MU} (h:UInv M U) (hd:U.J.dead=false) (hdn:M.down=false) (hg:U.J.g+1 < 4294967295):Kept U U.m (repU M U):=by
 obtain ⟨k1,k2,k3,k4⟩:=keep_replace M U.J (stateB U.dev U.m) h.inv hg h.torn (stateB_le h.ok.dev h.ok.valid) hd
 unfold repU
 rcases k4 with ⟨e0,e1,e2,e3,e4⟩ | ⟨e0,e1,e2⟩ | ⟨e0,e1,e2,e3⟩
 · exact ⟨⟨k1,k2,⟨h.ok.dev,h.ok.valid,by dsimp only;rw [e1];exact foldU_state h.ok.dev h.ok.valid⟩⟩,k3,rfl,.inl ⟨e0,rfl,e2,e4⟩⟩
 · rw [e0,e1,e2]
   exact ⟨h,Nat.le_succ _,rfl,.inr (.inl ⟨rfl,rfl,hd,hdn⟩)⟩
 · exact ⟨⟨k1,k2,⟨h.ok.dev,h.ok.valid,by dsimp only;rw [e1];exact h.ok.fold⟩⟩,k3,rfl,.inr (.inr ⟨e0,rfl,e2,e3⟩)⟩
theorem kept_write {M:MD} {U:MU} {b:List UInt8} {x:RMap} (h:UInv M U) (hd:U.J.dead=false) (hdn:M.down=false) (hg:U.J.g+1 < 4294967295) (hb:b.length≤65536) (hn:nextU U.dev U.m b=some x) (hx:validR x=true):Kept U x (writeU M U b x):=by
 unfold writeU
 split
 · obtain ⟨k1,k2,k3,k4⟩:=kept_rep h hd hdn hg
   split
   · rename_i h0
     rcases k4 with ⟨e0,e1,e2,e3⟩ | ⟨e0,-⟩ | ⟨e0,-⟩
     · split
       · exact ⟨k1,k2,k3,.inr (.inl ⟨rfl,e1,e2,e3⟩)⟩
       · obtain ⟨⟨a1,a2,a3,a4⟩,a5⟩:=kept_app (b:=b) (x:=x) k1 e2 e3 hb (by rw [k3,e1];exact hn) hx
         exact ⟨a1,by rw [a5];exact k2,a3.trans k3,by rw [e1] at a4;exact a4⟩
     · rw [h0] at e0;exact absurd e0 (by decide)
     · rw [h0] at e0;exact absurd e0 (by decide)
   · rename_i h0
     rcases k4 with ⟨e0,-⟩ | k4
     · exact absurd e0 h0
     · exact ⟨k1,k2,k3,.inr k4⟩
 · exact (kept_app h hd hdn hb hn hx).1
theorem full_valid {m x:RMap} {e:Int} (h:fullR m=(x,e)) (h0:e=0):validR x=true:=by
 unfold fullR at h
 by_cases hv:validR m=true
 · rw [if_pos hv] at h
   obtain ⟨rfl,-⟩:=Prod.mk.inj h
   exact hv
 · rw [if_neg hv] at h
   obtain ⟨-,rfl⟩:=Prod.mk.inj h
   exact absurd h0 (by decide)
theorem full_err {m x:RMap} {e:Int} (h:fullR m=(x,e)):e=0∨e=7:=by
 unfold fullR at h
 by_cases hv:validR m=true
 · rw [if_pos hv] at h
   exact .inl (Prod.mk.inj h).2.symm
 · rw [if_neg hv] at h
   exact .inr (Prod.mk.inj h).2.symm
theorem use_ok {m:RMap} {d:Int} {l:List RKey} (h:(useR m d l).2=0):validR (useR m d l).1=true:=by
 unfold useR at h ⊢
 split at h
 · rename_i h1
   rw [if_pos h1]
   split at h
   · rename_i h2
     rw [if_pos h2]
     exact full_valid (m:=useM m d l) (x:=(fullR (useM m d l)).1) (e:=(fullR (useM m d l)).2) rfl h
   · exact absurd h (show ¬ (1:Int)=0 by decide)
 · exact absurd h (show ¬ (5:Int)=0 by decide)
theorem forget_ok {m:RMap} {d:Int} {l:List RKey} (h:(forgetR m d l).2=0):validR (forgetR m d l).1=true:=by
 unfold forgetR at h ⊢
 split at h
 · rename_i h1
   rw [if_pos h1]
   split at h
   · rename_i h2
     rw [if_pos h2]
     exact full_valid (m:=forgetM m d l) (x:=(fullR (forgetM m d l)).1) (e:=(fullR (forgetM m d l)).2) rfl h
   · exact absurd h (show ¬ (1:Int)=0 by decide)
 · exact absurd h (show ¬ (5:Int)=0 by decide)
theorem merge_ok {a b:RMap} (h:(mergeR a b).2=0):validR a=true∧validR b=true∧validR (mergeR a b).1=true:=by
 unfold mergeR at h ⊢
 split at h
 · rename_i h1
   rw [if_pos h1]
   rw [Bool.and_eq_true] at h1
   exact ⟨h1.1,h1.2,full_valid (m:=mergeM a b) (x:=(fullR (mergeM a b)).1) (e:=(fullR (mergeM a b)).2) rfl h⟩
 · exact absurd h (show ¬ (5:Int)=0 by decide)
theorem use_errs (m:RMap) (d:Int) (l:List RKey):(useR m d l).2=0∨(useR m d l).2=7∨(useR m d l).2=1∨(useR m d l).2=5:=by
 unfold useR
 split
 · split
   · rcases full_err (m:=useM m d l) (x:=(fullR (useM m d l)).1) (e:=(fullR (useM m d l)).2) rfl with h | h
     · exact .inl h
     · exact .inr (.inl h)
   · exact .inr (.inr (.inl rfl))
 · exact .inr (.inr (.inr rfl))
theorem forget_errs (m:RMap) (d:Int) (l:List RKey):(forgetR m d l).2=0∨(forgetR m d l).2=7∨(forgetR m d l).2=1∨(forgetR m d l).2=5:=by
 unfold forgetR
 split
 · split
   · rcases full_err (m:=forgetM m d l) (x:=(fullR (forgetM m d l)).1) (e:=(fullR (forgetM m d l)).2) rfl with h | h
     · exact .inl h
     · exact .inr (.inl h)
   · exact .inr (.inr (.inl rfl))
 · exact .inr (.inr (.inr rfl))
def afterK (m:RMap) (p:RMap × Int) (l:List RKey):RMap:=if p.2=0∧l≠[] then p.1 else m
structure Call (M:MD) (U:MU) (x:RMap) (r:MD × MU × Int):Prop where
 inv:UInv r.1 r.2.1
 gen:r.2.1.J.g≤U.J.g+1
 dev:r.2.1.dev=U.dev
 out:(r.2.2=0∧r.2.1.m=x∧r.2.1.J.dead=false∧r.1.down=false)∨(r.2.2≠0∧r.2.2≠341∧r.2.1.m=U.m∧r.2.1.J.dead=false∧r.1.down=false)∨(r.2.2=341∧r.2.1.m=U.m∧r.2.1.J.dead=true∧r.1.down=true)
 writes:r.1.writes≤M.writes+200000
 size:r.1.S.length=M.S.length
 quiet:r.2.2=1∨r.2.2=5→r.1=M
theorem Kept.out {U:MU} {x:RMap} {r:MD × MU × Int} (h:Kept U x r):(r.2.2=0∧r.2.1.m=x∧r.2.1.J.dead=false∧r.1.down=false)∨(r.2.2≠0∧r.2.2≠341∧r.2.1.m=U.m∧r.2.1.J.dead=false∧r.1.down=false)∨(r.2.2=341∧r.2.1.m=U.m∧r.2.1.J.dead=true∧r.1.down=true):=by
 obtain ⟨-,-,-,h⟩:=h
 rcases h with h | ⟨h1,h2⟩ | h
 · exact .inl h
 · exact .inr (.inl ⟨by rw [h1];decide,by rw [h1];decide,h2⟩)
 · exact .inr (.inr h)
theorem Kept.loud {U:MU} {x:RMap} {r:MD × MU × Int} (h:Kept U x r):¬ (r.2.2=1∨r.2.2=5):=by
 obtain ⟨-,-,-,h⟩:=h
 rcases h with ⟨h,-⟩ | ⟨h,-⟩ | ⟨h,-⟩ <;> rw [h] <;> decide
theorem mod_rep (M:MD) (U:MU):(repU M U).1.S.length=M.S.length∧(repU M U).1.writes≤M.writes+65536:=mod_replace M U.J _
theorem mod_app (M:MD) (U:MU) (b:List UInt8) (x:RMap):(appU M U b x).1.S.length=M.S.length∧(appU M U b x).1.writes≤M.writes+65536:=by
 have:=mod_append M U.J b
 unfold appU
 split <;> exact this
theorem mod_write (M:MD) (U:MU) (b:List UInt8) (x:RMap):(writeU M U b x).1.S.length=M.S.length∧(writeU M U b x).1.writes≤M.writes+200000:=by
 have h1:=mod_rep M U
 have h2:=mod_app M U b x
 have h3:=mod_app (repU M U).1 (repU M U).2.1 b x
 unfold writeU
 split
 · split
   · split
     · exact ⟨h1.1,Nat.le_trans h1.2 (by omega)⟩
     · exact ⟨h3.1.trans h1.1,Nat.le_trans h3.2 (by omega)⟩
   · exact ⟨h1.1,Nat.le_trans h1.2 (by omega)⟩
 · exact ⟨h2.1,Nat.le_trans h2.2 (by omega)⟩
theorem Kept.call {M:MD} {U:MU} {x:RMap} {r:MD × MU × Int} (h:Kept U x r) (hm:r.1.S.length=M.S.length∧r.1.writes≤M.writes+200000):Call M U x r:=
 ⟨h.1,h.2.1,h.2.2.1,h.out,hm.2,hm.1,fun hq=>absurd hq h.loud⟩
theorem call_still {M:MD} {U:MU} {x:RMap} {e:Int} (h:UInv M U) (hd:U.J.dead=false) (hdn:M.down=false) (he:(e=0∧x=U.m)∨(e≠0∧e≠341)):Call M U x (M,U,e):=by
 refine ⟨h,Nat.le_succ _,rfl,?_,Nat.le_add_right _ _,rfl,fun _=>rfl⟩
 rcases he with ⟨h1,h2⟩ | ⟨h1,h2⟩
 · exact .inl ⟨h1,h2.symm,hd,hdn⟩
 · exact .inr (.inl ⟨h1,h2,rfl,hd,hdn⟩)
theorem change_call {M:MD} {U:MU} {l:List RKey} {p:RMap × Int} {b:List UInt8} (h:UInv M U) (hd:U.J.dead=false) (hdn:M.down=false) (hg:U.J.g+1 < 4294967295) (hb:b.length≤65536) (hn:p.2=0→nextU U.dev U.m b=some p.1) (hx:p.2=0→validR p.1=true) (he:p.2=0∨p.2=7∨p.2=1∨p.2=5):Call M U (afterK U.m p l) (changeU M U l p b):=by
 have e1:changeU M U l p b=if l = [] then (M,U,0) else if p.2=0 then writeU M U b p.1 else (M,U,p.2):=by
  unfold changeU
  rw [if_neg (by rw [hd];decide)]
 rw [e1]
 unfold afterK
 by_cases hl:l = []
 · rw [if_pos hl,if_neg (fun hh=>hh.2 hl)]
   exact call_still h hd hdn (.inl ⟨rfl,rfl⟩)
 · rw [if_neg hl]
   by_cases h0:p.2=0
   · rw [if_pos h0,if_pos ⟨h0,hl⟩]
     exact (kept_write h hd hdn hg hb (hn h0) (hx h0)).call (mod_write _ _ _ _)
   · rw [if_neg h0,if_neg (fun hh=>h0 hh.1)]
     refine call_still h hd hdn (.inr ⟨h0,?_⟩)
     rcases he with e | e | e | e <;> rw [e] <;> decide
theorem learn_call {M:MD} {U:MU} {l:List RKey} (h:UInv M U) (hd:U.J.dead=false) (hdn:M.down=false) (hg:U.J.g+1 < 4294967295) (hl:l.length < 18446744073709551616) (hk:∀ k ∈ l,k.length < 18446744073709551616) (hb:(listB l).length≤65535):Call M U (afterK U.m (useR U.m U.dev l) l) (learnU M U l):=
 change_call h hd hdn hg (by unfold useB;rw [List.length_cons];omega) (fun h0=>nextU_use hl hk h0) use_ok (use_errs _ _ _)
theorem drop_call {M:MD} {U:MU} {l:List RKey} (h:UInv M U) (hd:U.J.dead=false) (hdn:M.down=false) (hg:U.J.g+1 < 4294967295) (hl:l.length < 18446744073709551616) (hk:∀ k ∈ l,k.length < 18446744073709551616) (hb:(listB l).length≤65535):Call M U (afterK U.m (forgetR U.m U.dev l) l) (dropU M U l):=
 change_call h hd hdn hg (by unfold forgetB;rw [List.length_cons];omega) (fun h0=>nextU_forget hl hk h0) forget_ok (forget_errs _ _ _)
theorem UInv.opened {M:MD} {U:MU} (h:UInv M U) (hdn:M.down=false):openU M=.inl ⟨U.dev,U.m,⟨U.J.g,U.J.L,false⟩⟩:=by
 unfold openU
 rw [h.inv.opened hdn]
 dsimp only
 have hf:=h.ok.fold
 rw [if_neg (fun e=>by rw [e] at hf;cases hf),hf]
theorem UInv.up {M:MD} {U:MU} (h:UInv M U):UInv { M with down:=false } ⟨U.dev,U.m,⟨U.J.g,U.J.L,false⟩⟩:=⟨h.inv,h.torn,h.ok.dev,h.ok.valid,h.ok.fold⟩
theorem UInv.fail {M:MD} {U:MU} (h:UInv M U) (n:Nat) (t:List UInt8) (ht:intact t=false):UInv { M with fault:=some (n,t) } U:=⟨h.inv,fun n' t' e=>by
 obtain ⟨-,rfl⟩:=Prod.mk.inj (Option.some.inj e)
 exact ht,h.ok⟩
end Go.Proofs.YtobjdpngnfbicaaGreatDoor
