/-
  JInv
-/
import Derived.Test.YtobjdpngnfbicaaGreatDoorZN28
import Derived.Test.YtobjdpngnfbicaaGreatDoorZN26
namespace Go.Proofs.YtobjdpngnfbicaaGreatDoor
open Go.RowKit
set_option linter.unusedVariables false
set_option maxRecDepth 20000
theorem intact_sealed (b:List UInt8) (h:b.length=60):intact (sealed b)=true:=by
 unfold intact sealed
 have e:read4 (b ++ num4 (crc b)) 60=crc b:=by
  have:=read4_num4 b (crc b) [] (crc_lt b) 60 h.symm
  simpa using this
 rw [e,List.take_append_of_le_length (by omega),List.take_of_length_le (by omega)]
 simp
theorem read4_append {p q:List UInt8} {a:Nat} (h:a+4≤p.length):read4 (p ++ q) a=read4 p a:=by
 have e:∀ i,i < p.length→(p ++ q).getD i 0=p.getD i 0:=fun i hi=>by
  rw [List.getD_eq_getElem?_getD,List.getElem?_append_left hi,←List.getD_eq_getElem?_getD]
 unfold read4
 rw [e _ (by omega),e _ (by omega),e _ (by omega),e _ (by omega)]
theorem head_intact (g:Nat):intact (headB g)=true:=intact_sealed _ (by simp [magicB,num4])
theorem head_gen (g:Nat) (hg:g < 4294967296):read4 (headB g) 4=g:=by
 unfold headB sealed
 rw [read4_append (by simp [magicB,num4])]
 exact read4_num4 magicB g (List.replicate 52 0) hg 4 rfl
theorem head_magic (g:Nat):(headB g).take 4=magicB:=by
 simp [headB,sealed,magicB]
theorem head_is (g:Nat) (hg:g < 4294967296):isHead (headB g) (g % 2)=true:=by
 simp [isHead,head_intact,head_magic,head_gen g hg]
theorem piece_intact (g k:Nat) (b:List UInt8) (i:Nat):intact (pieceB g k b i)=true:=intact_sealed _ (by simp [num4,pad48_length])
theorem piece_gen (g k:Nat) (b:List UInt8) (i:Nat) (hg:g < 4294967296):read4 (pieceB g k b i) 0=g:=by
 unfold pieceB sealed
 rw [read4_append (by simp [num4,pad48_length]),List.append_assoc,List.append_assoc]
 have:=read4_num4 [] g (num4 k ++ (num4 (b.length - 48 * i) ++ pad48 (b.drop (48 * i)))) hg 0 rfl
 simpa using this
theorem piece_ord (g k:Nat) (b:List UInt8) (i:Nat) (hk:k < 4294967296):read4 (pieceB g k b i) 4=k:=by
 unfold pieceB sealed
 rw [read4_append (by simp [num4,pad48_length]),List.append_assoc]
 exact read4_num4 (num4 g) k _ hk 4 rfl
theorem piece_len (g k:Nat) (b:List UInt8) (i:Nat) (hb:b.length < 4294967296):read4 (pieceB g k b i) 8=b.length - 48 * i:=by
 unfold pieceB sealed
 rw [read4_append (by simp [num4,pad48_length])]
 exact read4_num4 (num4 g ++ num4 k) _ _ (by omega) 8 rfl
theorem piece_body (g k:Nat) (b:List UInt8) (i:Nat):((pieceB g k b i).drop 12).take 48=pad48 (b.drop (48 * i)):=by
 unfold pieceB sealed
 have h12:(num4 g ++ num4 k ++ num4 (b.length - 48 * i)).length=12:=by simp [num4]
 rw [List.append_assoc (num4 g ++ num4 k ++ num4 (b.length - 48 * i)),List.drop_append_of_le_length (by omega),List.drop_of_length_le (by omega),List.nil_append,List.take_append_of_le_length (by rw [pad48_length];exact Nat.le_refl _),List.take_of_length_le (by rw [pad48_length];exact Nat.le_refl _)]
theorem piece_ok (g k:Nat) (b:List UInt8) (i:Nat) (hg:g < 4294967296) (hk:k < 4294967296) (hb:b.length < 4294967296):pieceOk (pieceB g k b i) g k (b.length - 48 * i)=true:=by
 simp [pieceOk,piece_intact,piece_gen g k b i hg,piece_ord g k b i hk,piece_len g k b i hb]
def RecAt (S:List (List UInt8)) (g k p:Nat) (b:List UInt8):Prop:=∀ j,j < takes b.length→secM S g (p+j)=pieceB g k b j
theorem piecesOk_rec {S:List (List UInt8)} {g k p:Nat} {b:List UInt8} (h:RecAt S g k p b) (hg:g < 4294967296) (hk:k < 4294967296) (hb:b.length < 4294967296):∀ i,i≤takes b.length→piecesOk S g k p b.length i=true
 | 0,_=>rfl
 | i+1,hi=>by
   simp only [piecesOk,piecesOk_rec h hg hk hb i (by omega),Bool.true_and,h i (by omega),piece_ok g k b i hg hk hb]
theorem bodyM_rec {S:List (List UInt8)} {g k p:Nat} {b:List UInt8} (h:RecAt S g k p b):∀ i,i≤takes b.length→48 * i≤b.length+48→(bodyM S g p i).take b.length=b.take (48 * i)∧(48 * i≤b.length→bodyM S g p i=b.take (48 * i))
 | 0,_,_=>by simp [bodyM]
 | i+1,hi,hle=>by
   have ih:=(bodyM_rec h i (by omega) (by omega)).2 (by omega)
   have e:bodyM S g p (i+1)=b.take (48 * i) ++ pad48 (b.drop (48 * i)):=by
    simp only [bodyM,ih,h i (by omega),piece_body]
   have hl:(b.take (48 * i)).length=48 * i:=by simp;omega
   have hfull:48 * (i+1)≤b.length→bodyM S g p (i+1)=b.take (48 * (i+1)):=fun hf=>by
    rw [e]
    unfold pad48
    rw [show 48 - (b.drop (48 * i)).length=0 by simp;omega,List.replicate_zero,List.append_nil,show 48 * (i+1)=48 * i+48 by omega,List.take_add]
   refine ⟨?_,hfull⟩
   by_cases hf:48 * (i+1)≤b.length
   · rw [hfull hf,List.take_take,Nat.min_eq_right hf]
   · rw [e,List.take_append,hl,List.take_of_length_le (by rw [hl];omega)]
     unfold pad48
     rw [List.take_of_length_le (l:=b.drop (48 * i)) (by simp;omega),List.take_append_of_le_length (by simp),List.take_of_length_le (l:=b.drop (48 * i)) (by simp),List.take_append_drop,List.take_of_length_le (by omega)]
theorem recordM_rec {S:List (List UInt8)} {g k p:Nat} {b:List UInt8} (h:RecAt S g k p b) (hfit:p+takes b.length≤halfN S.length) (hg:g < 4294967296) (hk:k < 4294967296) (hb:b.length≤65536):recordM S g k p=some b:=by
 have htp:=takes_pos b.length
 have hT:takes b.length=max 1 ((b.length+47) / 48):=rfl
 have e0:read4 (secM S g p) 8=b.length:=by
  have:=h 0 htp
  rw [Nat.add_zero] at this
  rw [this,piece_len g k b 0 (by omega)]
  omega
 unfold recordM
 rw [if_neg (by omega)]
 dsimp only
 rw [e0,if_neg (by omega),if_pos (piecesOk_rec h hg hk (by omega) _ (Nat.le_refl _)),(bodyM_rec h _ (Nat.le_refl _) (by omega)).1,List.take_of_length_le (by omega)]
theorem recordM_first {S:List (List UInt8)} {g k p:Nat} (h:halfN S.length≤p∨∀ n,pieceOk (secM S g p) g k n=false):recordM S g k p=none:=by
 unfold recordM
 by_cases hp:halfN S.length≤p
 · rw [if_pos hp]
 · rw [if_neg hp]
   have h1:=h.resolve_left hp
   dsimp only
   split
   · rfl
   · rw [if_neg]
     intro hh
     have htp:=takes_pos (read4 (secM S g p) 8)
     have:=piecesOk_le S g k p (read4 (secM S g p) 8) 1 (takes (read4 (secM S g p) 8) - 1) (by rw [show 1+(takes (read4 (secM S g p) 8) - 1)=takes (read4 (secM S g p) 8) by omega];exact hh)
     simp [piecesOk,h1] at this
theorem RecAt.sub {S S':List (List UInt8)} {g k p:Nat} {b:List UInt8} (h:RecAt S g k p b) (he:∀ j,j < takes b.length→secM S' g (p+j)=secM S g (p+j)):RecAt S' g k p b:=
 fun j hj=>(he j hj).trans (h j hj)
theorem takenL_take_succ (L:List (List UInt8)) (i:Nat) (h:i < L.length):takenL (L.take (i+1))=takenL (L.take i)+takes L[i].length:=by
 rw [List.take_succ_eq_append_getElem h,takenL_snoc]
theorem takenL_take_le (L:List (List UInt8)) (i:Nat):takenL (L.take i)≤takenL L:=by
 have:takenL L=takenL (L.take i)+takenL (L.drop i):=by
  unfold takenL
  rw [←List.sum_append,←List.map_append,List.take_append_drop]
 omega
structure Inv (S:List (List UInt8)) (g:Nat) (L:List (List UInt8)):Prop where
 n8:8≤S.length
 le:S.length≤65536
 gen:g < 4294967295
 room:takenL L≤halfN S.length
 lens:∀ b ∈ L,b.length≤65536
 recs:∀ i (h:i < L.length),RecAt S g i (takenL (L.take i)) L[i]
 stop:recordM S g L.length (takenL L)=none
 beyond:∀ p,takenL L≤p→p < halfN S.length→intact (secM S g p)=true→read4 (secM S g p) 0=g→read4 (secM S g p) 4≤L.length
 own:∀ p,p < halfN S.length→intact (secM S g p)=true→read4 (secM S g p) 0≤g
 other:∀ p,p < halfN S.length→intact (secM S (g+1) p)=true→read4 (secM S (g+1) p) 0≤g+1∧(read4 (secM S (g+1) p) 0=g+1→read4 (secM S (g+1) p) 4=0)
 head:S.getD (g % 2) []=headB g
 head2:isHead (S.getD ((g+1) % 2) []) ((g+1) % 2)=true→read4 (S.getD ((g+1) % 2) []) 4 < g
theorem Inv.recordsM_from {S:List (List UInt8)} {g:Nat} {L:List (List UInt8)} (h:Inv S g L):∀ (d i f:Nat),L.length=i+d→d < f→recordsM S g f i (takenL (L.take i))=L.drop i
 | 0,i,f,hi,hf=>by
   have hs:=h.stop
   obtain ⟨f',rfl⟩:∃ f',f=f'+1:=⟨f - 1,by omega⟩
   rw [List.take_of_length_le (by omega),List.drop_of_length_le (by omega)]
   have:i=L.length:=by omega
   subst this
   exact recordsM_none hs _
 | d+1,i,f,hi,hf=>by
   obtain ⟨f',rfl⟩:∃ f',f=f'+1:=⟨f - 1,by omega⟩
   have hil:i < L.length:=by omega
   have hroom:=h.room
   have hle:=h.le
   have hLT:=length_le_taken L
   have hb:=h.lens L[i] (List.getElem_mem hil)
   have hfit:takenL (L.take i)+takes L[i].length≤halfN S.length:=by
    have:=takenL_take_le L (i+1)
    rw [takenL_take_succ L i hil] at this
    omega
   have hr:=recordM_rec (h.recs i hil) hfit (by have:=h.gen;omega) (by unfold halfN at hroom;omega) hb
   rw [recordsM_some hr,←takenL_take_succ L i hil,Inv.recordsM_from h d (i+1) f' (by omega) (by omega),List.drop_eq_getElem_cons hil]
theorem Inv.genM {S:List (List UInt8)} {g:Nat} {L:List (List UInt8)} (h:Inv S g L):genM S=some g:=by
 have h1:=h.head
 have h2:=h.head2
 have hg:=h.gen
 have hi:=head_is g (by omega)
 have hr:=head_gen g (by omega)
 rcases (show g % 2=0∨g % 2=1 by omega) with e | e
 · rw [e] at h1 hi
   rw [show (g+1) % 2=1 by omega] at h2
   unfold Go.Proofs.YtobjdpngnfbicaaGreatDoor.genM
   simp only [h1,hi,hr]
   generalize S.getD 1 []=o at *
   by_cases h3:isHead o 1=true
   · have:=h2 h3
     simp [h3]
     omega
   · simp [h3]
 · rw [e] at h1 hi
   rw [show (g+1) % 2=0 by omega] at h2
   unfold Go.Proofs.YtobjdpngnfbicaaGreatDoor.genM
   simp only [h1,hi,hr]
   generalize S.getD 0 []=o at *
   by_cases h3:isHead o 0=true
   · have:=h2 h3
     simp [h3]
     omega
   · simp [h3]
theorem Inv.opened {M:MD} {g:Nat} {L:List (List UInt8)} (h:Inv M.S g L) (hdn:M.down=false):openM M=.inl ⟨g,L,false⟩:=by
 have h8:=h.n8
 have hroom:=h.room
 have hLT:=length_le_taken L
 have hr:=Inv.recordsM_from h L.length 0 (halfN M.S.length+1) (by omega) (by omega)
 unfold openM
 rw [if_neg (by omega),if_neg (by simp [hdn]),h.genM]
 simp only
 rw [show takenL (L.take 0)=0 from rfl] at hr
 rw [hr,List.drop_zero]
end Go.Proofs.YtobjdpngnfbicaaGreatDoor
/- Writes of pieces keep what the sectors bear. -/
namespace Go.Proofs.YtobjdpngnfbicaaGreatDoor
open Go.RowKit
set_option linter.unusedVariables false
set_option maxRecDepth 20000
theorem placeN_inj {n g h p q:Nat} (hp:p < halfN n) (hq:q < halfN n):placeN n g p=placeN n h q↔g % 2=h % 2∧p=q:=by
 unfold placeN
 rcases (show g % 2=0∨g % 2=1 by omega) with e | e <;> rcases (show h % 2=0∨h % 2=1 by omega) with f | f <;> rw [e,f] <;> omega
theorem getD_set (S:List (List UInt8)) (a c:Nat) (x:List UInt8) (ha:a < S.length):(S.set a x).getD c []=if c=a then x else S.getD c []:=by
 rw [List.getD_eq_getElem?_getD,List.getElem?_set]
 by_cases h:a=c
 · subst h;simp [ha]
 · rw [if_neg h,if_neg (fun e=>h e.symm),←List.getD_eq_getElem?_getD]
theorem secM_set (S:List (List UInt8)) (g h p q:Nat) (x:List UInt8) (hp:p < halfN S.length) (hq:q < halfN S.length):
 secM (S.set (placeN S.length g p) x) h q=if h % 2=g % 2∧q=p then x else secM S h q:=by
 unfold secM
 rw [List.length_set,getD_set _ _ _ _ (placeN_lt _ _ _ hp)]
 by_cases e:h % 2=g % 2∧q=p
 · rw [if_pos e,if_pos ((placeN_inj hq hp).2 e)]
 · rw [if_neg e,if_neg (fun hh=>e ((placeN_inj hq hp).1 hh))]
theorem secM_set_head (S:List (List UInt8)) (t h q:Nat) (x:List UInt8) (ht:t < 2) (hn:2≤S.length):secM (S.set t x) h q=secM S h q:=by
 unfold secM
 rw [List.length_set,getD_set _ _ _ _ (by omega),if_neg (by unfold placeN;omega)]
theorem head_set (S:List (List UInt8)) (g p t:Nat) (x:List UInt8) (ht:t < 2) (hp:p < halfN S.length):(S.set (placeN S.length g p) x).getD t []=S.getD t []:=by
 rw [getD_set _ _ _ _ (placeN_lt _ _ _ hp),if_neg (by unfold placeN;omega)]
structure Wrote (S S':List (List UInt8)) (g k p:Nat) (b:List UInt8) (i:Nat):Prop where
 len:S'.length=S.length
 sec:∀ h q,q < halfN S.length→secM S' h q=if h % 2=g % 2∧p≤q∧q < p+i then pieceB g k b (q - p) else secM S h q
 heads:∀ t,t < 2→S'.getD t []=S.getD t []
theorem wrote_zero (S:List (List UInt8)) (g k p:Nat) (b:List UInt8):Wrote S S g k p b 0:=⟨rfl,fun h q hq=>by rw [if_neg (by omega)],fun t ht=>rfl⟩
theorem Wrote.snoc {S S':List (List UInt8)} {g k p:Nat} {b:List UInt8} {i:Nat} (h:Wrote S S' g k p b i) (hp:p+i < halfN S.length):Wrote S (S'.set (placeN S.length g (p+i)) (pieceB g k b i)) g k p b (i+1):=by
 refine ⟨by simp [h.len],fun h' q hq=>?_,fun t ht=>?_⟩
 · rw [←h.len,secM_set _ _ _ _ _ _ (by rw [h.len];exact hp) (by rw [h.len];exact hq),h.sec h' q hq]
   by_cases e:h' % 2=g % 2∧q=p+i
   · rw [if_pos e,if_pos (by omega),show q - p=i by omega]
   · rw [if_neg e]
     by_cases e2:h' % 2=g % 2∧p≤q∧q < p+i
     · rw [if_pos e2,if_pos (by omega)]
     · rw [if_neg e2,if_neg (by omega)]
 · rw [←h.len,head_set _ _ _ _ _ ht (by rw [h.len];exact hp),h.heads t ht]
theorem setAll_append (S:List (List UInt8)) (a b:List (Nat × List UInt8)):setAll S (a ++ b)=setAll (setAll S a) b:=by unfold setAll;rw [List.foldl_append]
theorem wrote_all (S:List (List UInt8)) (g k p:Nat) (b:List UInt8) (hp:p+takes b.length≤halfN S.length):∀ i,i≤takes b.length→Wrote S (setAll S ((pieceWrites S.length g k p b).take i)) g k p b i
 | 0,_=>by simpa [setAll] using wrote_zero S g k p b
 | i+1,hi=>by
   rw [ws_take _ _ _ _ _ _ (by omega),setAll_append]
   exact (wrote_all S g k p b hp i (by omega)).snoc (by omega)
theorem Inv.append {S S':List (List UInt8)} {g:Nat} {L:List (List UInt8)} {b:List UInt8} (h:Inv S g L) (hfit:takenL L+takes b.length≤halfN S.length) (hb:b.length≤65536) (hw:Wrote S S' g L.length (takenL L) b (takes b.length)):Inv S' g (L ++ [b]):=by
 have hle:=h.le
 have hg:=h.gen
 have hLT:=length_le_taken L
 have hH:halfN S.length≤32768:=by unfold halfN;omega
 have htp:=takes_pos b.length
 have hown:∀ q,q < halfN S.length→secM S' g q=if takenL L≤q∧q < takenL L+takes b.length then pieceB g L.length b (q - takenL L) else secM S g q:=fun q hq=>by
  rw [hw.sec g q hq]
  by_cases e:takenL L≤q∧q < takenL L+takes b.length
  · rw [if_pos ⟨rfl,e⟩,if_pos e]
  · rw [if_neg (fun hh=>e hh.2),if_neg e]
 have hoth:∀ q,q < halfN S.length→secM S' (g+1) q=secM S (g+1) q:=fun q hq=>by rw [hw.sec _ q hq,if_neg (by omega)]
 have htk:takenL (L ++ [b])=takenL L+takes b.length:=takenL_snoc L b
 have hbey:∀ p,takenL (L ++ [b])≤p→p < halfN S.length→intact (secM S' g p)=true→read4 (secM S' g p) 0=g→read4 (secM S' g p) 4≤L.length:=fun p hp hq hi hr=>by
  rw [hown p hq,if_neg (by omega)] at hi hr ⊢
  exact h.beyond p (by omega) hq hi hr
 refine ⟨by rw [hw.len];exact h.n8,by rw [hw.len];exact hle,hg,by rw [hw.len,htk];exact hfit,fun x hx=>?_,fun i hi=>?_,?_,?_,?_,?_,?_,?_⟩
 · rcases List.mem_append.1 hx with hx | hx
   · exact h.lens x hx
   · obtain rfl:=List.mem_singleton.1 hx;exact hb
 · by_cases hil:i < L.length
   · have e1:(L ++ [b])[i]=L[i]:=List.getElem_append_left hil
     have e2:(L ++ [b]).take i=L.take i:=List.take_append_of_le_length (by omega)
     rw [e1,e2]
     refine (h.recs i hil).sub fun j hj=>?_
     have:=takenL_take_le L (i+1)
     rw [takenL_take_succ L i hil] at this
     have hr:=h.room
     rw [hown _ (by omega),if_neg (by omega)]
   · have hiL:i=L.length:=by simp at hi;omega
     subst hiL
     have e1:(L ++ [b])[L.length]=b:=by simp
     have e2:(L ++ [b]).take L.length=L:=by simp
     rw [e1,e2]
     intro j hj
     rw [hown _ (by omega),if_pos (by omega),show takenL L+j - takenL L=j by omega]
 · refine recordM_first ?_
   by_cases hp:halfN S.length≤takenL (L ++ [b])
   · exact .inl (by rw [hw.len];exact hp)
   · refine .inr fun n=>?_
     by_cases hi:intact (secM S' g (takenL (L ++ [b])))=true∧read4 (secM S' g (takenL (L ++ [b]))) 0=g
     · have:=hbey _ (Nat.le_refl _) (by omega) hi.1 hi.2
       have hne:read4 (secM S' g (takenL (L ++ [b]))) 4≠(L ++ [b]).length:=by simp;omega
       unfold pieceOk
       rw [beq_eq_false_iff_ne.2 hne]
       simp
     · by_cases h1:intact (secM S' g (takenL (L ++ [b])))=true
       · have h2:¬ read4 (secM S' g (takenL (L ++ [b]))) 0=g:=fun hh=>hi ⟨h1,hh⟩
         simp [pieceOk,h2]
       · simp [pieceOk,h1]
 · intro p hp hq hi hr
   rw [hw.len] at hq
   have:=hbey p hp hq hi hr
   simp
   omega
 · intro p hq hi
   rw [hw.len] at hq
   rw [hown p hq] at hi ⊢
   split
   · rw [piece_gen _ _ _ _ (by omega)];exact Nat.le_refl _
   · rename_i hc
     rw [if_neg hc] at hi
     exact h.own p hq hi
 · intro p hq hi
   rw [hw.len] at hq
   rw [hoth p hq] at hi ⊢
   exact h.other p hq hi
 · rw [hw.heads _ (by omega)];exact h.head
 · rw [hw.heads _ (by omega)];exact h.head2
theorem Inv.replace {S S':List (List UInt8)} {g:Nat} {L:List (List UInt8)} {b:List UInt8} (h:Inv S g L) (hg1:g+1 < 4294967295) (hfit:takes b.length≤halfN S.length) (hb:b.length≤65536) (hw:Wrote S S' (g+1) 0 0 b (takes b.length)):Inv (S'.set ((g+1) % 2) (headB (g+1))) (g+1) [b]:=by
 have hle:=h.le
 have h8:=h.n8
 have hH:halfN S.length≤32768:=by unfold halfN;omega
 have htp:=takes_pos b.length
 have hlen:(S'.set ((g+1) % 2) (headB (g+1))).length=S.length:=by rw [List.length_set,hw.len]
 have hsec:∀ h' q,q < halfN S.length→secM (S'.set ((g+1) % 2) (headB (g+1))) h' q=secM S' h' q:=fun h' q hq=>secM_set_head _ _ _ _ _ (by omega) (by rw [hw.len];omega)
 have hown:∀ q,q < halfN S.length→secM (S'.set ((g+1) % 2) (headB (g+1))) (g+1) q=if q < takes b.length then pieceB (g+1) 0 b q else secM S (g+1) q:=fun q hq=>by
  rw [hsec _ q hq,hw.sec _ q hq]
  by_cases e:q < takes b.length
  · rw [if_pos (by omega),if_pos e];rfl
  · rw [if_neg (by omega),if_neg e]
 have hoth:∀ q,q < halfN S.length→secM (S'.set ((g+1) % 2) (headB (g+1))) (g+1+1) q=secM S g q:=fun q hq=>by
  rw [hsec _ q hq,hw.sec _ q hq,if_neg (by omega)]
  unfold secM placeN
  rw [show (g+1+1) % 2=g % 2 by omega]
 have htk:takenL [b]=takes b.length:=by simp [takenL]
 have hbey:∀ p,takes b.length≤p→p < halfN S.length→intact (secM (S'.set ((g+1) % 2) (headB (g+1))) (g+1) p)=true→read4 (secM (S'.set ((g+1) % 2) (headB (g+1))) (g+1) p) 0=g+1→read4 (secM (S'.set ((g+1) % 2) (headB (g+1))) (g+1) p) 4=0:=fun p hp hq hi hr=>by
  rw [hown p hq,if_neg (by omega)] at hi hr ⊢
  exact (h.other p hq hi).2 hr
 refine ⟨by rw [hlen];exact h8,by rw [hlen];exact hle,hg1,by rw [hlen,htk];exact hfit,fun x hx=>?_,fun i hi=>?_,?_,?_,?_,?_,?_,?_⟩
 · obtain rfl:=List.mem_singleton.1 hx;exact hb
 · have:i=0:=by simp at hi;omega
   subst this
   intro j hj
   have hj':j < takes b.length:=hj
   show secM _ (g+1) (0+j)=pieceB (g+1) 0 b j
   rw [Nat.zero_add,hown j (by omega),if_pos hj']
 · refine recordM_first ?_
   rw [htk]
   by_cases hp:halfN S.length≤takes b.length
   · exact .inl (by rw [hlen];exact hp)
   · refine .inr fun n=>?_
     generalize hs:secM (S'.set ((g+1) % 2) (headB (g+1))) (g+1) (takes b.length)=s
     by_cases hi:intact s=true∧read4 s 0=g+1
     · have:=hbey (takes b.length) (Nat.le_refl _) (by omega) (by rw [hs];exact hi.1) (by rw [hs];exact hi.2)
       rw [hs] at this
       simp [pieceOk,this]
     · by_cases h1:intact s=true
       · have h2:¬ read4 s 0=g+1:=fun hh=>hi ⟨h1,hh⟩
         simp [pieceOk,h2]
       · simp [pieceOk,h1]
 · intro p hp hq hi hr
   rw [hlen] at hq
   rw [htk] at hp
   have:=hbey p hp hq hi hr
   omega
 · intro p hq hi
   rw [hlen] at hq
   rw [hown p hq] at hi ⊢
   split
   · rw [piece_gen _ _ _ _ (by omega)];exact Nat.le_refl _
   · rename_i hc
     rw [if_neg hc] at hi
     exact (h.other p hq hi).1
 · intro p hq hi
   rw [hlen] at hq
   rw [hoth p hq] at hi ⊢
   have:=h.own p hq hi
   exact ⟨by omega,fun e=>by omega⟩
 · rw [getD_set _ _ _ _ (by rw [hw.len];omega),if_pos rfl]
 · intro hh
   rw [getD_set _ _ _ _ (by rw [hw.len];omega),if_neg (by omega),hw.heads _ (by omega)] at hh ⊢
   rw [show (g+1+1) % 2=g % 2 by omega,h.head] at hh ⊢
   rw [head_gen g (by omega)]
   omega
end Go.Proofs.YtobjdpngnfbicaaGreatDoor
/- A journal on a disk that never fails: its sectors bear it. -/
namespace Go.Proofs.YtobjdpngnfbicaaGreatDoor
open Go.RowKit
set_option linter.unusedVariables false
set_option maxRecDepth 20000
theorem zero_intact:intact (List.replicate 64 0)=false:=by decide +kernel
theorem setAll_zero (n:Nat) (z:List UInt8) (ws:List (Nat × List UInt8)) (h:∀ x ∈ ws,x.2=z):setAll (List.replicate n z) ws=List.replicate n z:=by
 induction ws with
 | nil=>rfl
 | cons x ws ih=>
   show setAll ((List.replicate n z).set x.1 x.2) ws=_
   rw [h x (by simp),List.set_replicate_self]
   exact ih fun y hy=>h y (by simp [hy])
theorem inv_fresh (n:Nat) (h8:8≤n) (hn:n≤65536):Inv (setAll (List.replicate n (List.replicate 64 0)) (zeroWs n ++ [(0,headB 0)])) 0 []:=by
 have e:setAll (List.replicate n (List.replicate 64 0)) (zeroWs n ++ [(0,headB 0)])=(List.replicate n (List.replicate 64 0)).set 0 (headB 0):=by
  rw [setAll_append,setAll_zero]
  · rfl
  · intro x hx
    simp [zeroWs] at hx
    obtain ⟨a,_,rfl⟩:=hx
    rfl
 rw [e]
 have hl:((List.replicate n (List.replicate 64 (0:UInt8))).set 0 (headB 0)).length=n:=by simp
 have hsec:∀ h q,q < halfN n→secM ((List.replicate n (List.replicate 64 (0:UInt8))).set 0 (headB 0)) h q=List.replicate 64 0:=fun h q hq=>by
  rw [secM_set_head _ _ _ _ _ (by omega) (by simp;omega)]
  unfold secM
  have:=placeN_lt n h q hq
  rw [List.length_replicate,List.getD_eq_getElem?_getD,List.getElem?_replicate,if_pos this]
  rfl
 have hni:∀ h q,q < halfN n→intact (secM ((List.replicate n (List.replicate 64 (0:UInt8))).set 0 (headB 0)) h q)=true→False:=fun h q hq hi=>by
  rw [hsec h q hq,zero_intact] at hi
  cases hi
 refine ⟨by rw [hl];exact h8,by rw [hl];exact hn,by omega,by simp [takenL],by simp,fun i hi=>by simp at hi,?_,?_,?_,?_,?_,?_⟩
 · refine recordM_first (.inr fun k=>?_)
   have:=hsec 0 0 (by unfold halfN;omega)
   show pieceOk (secM _ 0 0) 0 0 k=false
   rw [this]
   unfold pieceOk
   rw [zero_intact]
   rfl
 · intro p _ hq hi
   rw [hl] at hq
   exact (hni 0 p hq hi).elim
 · intro p hq hi
   rw [hl] at hq
   exact (hni 0 p hq hi).elim
 · intro p hq hi
   rw [hl] at hq
   exact (hni _ p hq hi).elim
 · rw [getD_set _ _ _ _ (by simp;omega)];rfl
 · intro hh
   exfalso
   rw [getD_set _ _ _ _ (by simp;omega),if_neg (by omega),List.getD_eq_getElem?_getD,List.getElem?_replicate,if_pos (by omega)] at hh
   unfold isHead at hh
   rw [Option.getD_some,zero_intact] at hh
   exact absurd hh (by simp only [Bool.false_and,Bool.false_eq_true,not_false_eq_true])
theorem inv_append_up {S:List (List UInt8)} {k g:Nat} {L:List (List UInt8)} {l:List UInt8} (h:Inv S g L) (hfit:takenL L+takes l.length≤halfN S.length) (hl:l.length≤65536):Inv (setAll S (pieceWrites S.length g L.length (takenL L) l)) g (L ++ [l]):=by
 refine h.append hfit hl ?_
 have:=wrote_all S g L.length (takenL L) l hfit (takes l.length) (Nat.le_refl _)
 rwa [List.take_of_length_le (by rw [ws_length];exact Nat.le_refl _)] at this
theorem inv_replace_up {S:List (List UInt8)} {k g:Nat} {L:List (List UInt8)} {l:List UInt8} (h:Inv S g L) (hg:g+1 < 4294967295) (hfit:takes l.length≤halfN S.length) (hl:l.length≤65536):Inv (setAll S (replaceWs S.length g l)) (g+1) [l]:=by
 unfold replaceWs
 rw [setAll_append]
 refine h.replace hg hfit hl ?_
 have:=wrote_all S (g+1) 0 0 l (by omega) (takes l.length) (Nat.le_refl _)
 rwa [List.take_of_length_le (by rw [ws_length];exact Nat.le_refl _)] at this
end Go.Proofs.YtobjdpngnfbicaaGreatDoor
