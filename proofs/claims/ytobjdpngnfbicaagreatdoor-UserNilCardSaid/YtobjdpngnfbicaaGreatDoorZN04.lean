/-
  RMem Clone
-/
import Derived.Test.YtobjdpngnfbicaaGreatDoorZN03
import Derived.Test.YtobjdpngnfbicaaGreatDoorZN02
import Derived.Sort.EncStr
import Derived.Test.YtobjdpngnfbicaaGreatDoorChecked
import Derived.WalkSpells
namespace Go.Proofs.YtobjdpngnfbicaaGreatDoor
open Go.RowKit
set_option linter.unusedVariables false
set_option maxRecDepth 20000
def Rows (F:Blks) (w:World) (k:Nat) (v:Value) (n:Nat) (X:List Value):Prop:=
 ∃ a cap,v=.slice a n cap∧n≤cap∧cap≤maxLen∧(a=none→cap=0)∧X.length=n * k ∧
   (n=0∨∃ b off L t fz,a=some ⟨b,off,none⟩∧F b∧w.heap[b]?=some (.cells L t fz)∧off+n * k≤L.size∧∀ i,i < n * k→L[off+i]?=X[i]?)
theorem Rows.keep {F:Blks} {w w':World} {k n:Nat} {v:Value} {X:List Value} (h:Rows F w k v n X) (hk:∀ b,F b→b < w.heap.size→w'.heap[b]?=w.heap[b]?):Rows F w' k v n X:=by
 obtain ⟨a,cap,rfl,hc,hm,hz,hX,h⟩:=h
 refine ⟨a,cap,rfl,hc,hm,hz,hX,?_⟩
 rcases h with h | ⟨b,off,L,t,fz,rfl,hF,hb,hl,hr⟩
 · exact .inl h
 · exact .inr ⟨b,off,L,t,fz,rfl,hF,(hk b hF (lt_of_block hb)).trans hb,hl,hr⟩
theorem Rows.mono {F G:Blks} {w:World} {k n:Nat} {v:Value} {X:List Value} (h:Rows F w k v n X) (hg:∀ b,F b→b < w.heap.size→G b):Rows G w k v n X:=by
 obtain ⟨a,cap,rfl,hc,hm,hz,hX,h⟩:=h
 refine ⟨a,cap,rfl,hc,hm,hz,hX,?_⟩
 rcases h with h | ⟨b,off,L,t,fz,rfl,hF,hb,hl,hr⟩
 · exact .inl h
 · exact .inr ⟨b,off,L,t,fz,rfl,hg b hF (lt_of_block hb),hb,hl,hr⟩
theorem Rows.below {B:Nat} {w w':World} {k n:Nat} {v:Value} {X:List Value} (h:Rows (fun b=>b < B) w k v n X) (hb:Below B w w'):Rows (fun b=>b < B) w' k v n X:=h.keep fun b hB _=>hb.block b hB
theorem Rows.drew {F:Blks} {w:World} {k n:Nat} {v:Value} {X:List Value} (h:Rows F w k v n X):Rows F w.drew k v n X:=h
theorem Rows.nil (F:Blks) (w:World) (k:Nat):Rows F w k (.slice none 0 0) 0 []:=⟨none,0,rfl,Nat.le_refl _,by unfold maxLen;omega,fun _=>rfl,by simp,.inl rfl⟩
theorem Rows.cells {F:Blks} {w:World} {k n m:Nat} {a:Option Addr} {cap:Nat} {X:List Value} (h:Rows F w k (.slice a m cap) n X) (hn:0 < n):
 ∃ b off,a=some ⟨b,off,none⟩∧F b∧b < w.heap.size∧∀ i u,X[i]?=some u→w.cell? ⟨b,off+i,none⟩=some u:=by
 obtain ⟨a',cap',hv,hc,hm,hz,hX,h⟩:=h
 simp at hv
 obtain ⟨rfl,rfl,rfl⟩:=hv
 rcases h with h | ⟨b,off,L,t,fz,rfl,hF,hb,hl,hr⟩
 · omega
 · refine ⟨b,off,rfl,hF,lt_of_block hb,fun i u hu=>?_⟩
   have hi:i < m * k:=by rw [←hX];exact (List.getElem?_eq_some_iff.1 hu).1
   rw [cell_of_row w b (off+i) L t fz hb,hr i hi,hu]
theorem Rows.shape {F:Blks} {w:World} {k n:Nat} {v:Value} {X:List Value} (h:Rows F w k v n X):∃ a cap,v=.slice a n cap∧n≤cap∧cap≤maxLen∧(a=none→cap=0):=by
 obtain ⟨a,cap,rfl,hc,hm,hz,_⟩:=h
 exact ⟨a,cap,rfl,hc,hm,hz⟩
theorem Rows.len {F:Blks} {w:World} {k n:Nat} {v:Value} {X:List Value} (h:Rows F w k v n X):n≤maxLen:=by
 obtain ⟨a,cap,rfl,hc,hm,_⟩:=h
 omega
theorem Rows.of_owns {w:World} {base:Nat} {e:TypeId} {k n:Nat} {v:Value} {X:List Value} (h:w.ownsRow base e k v n X):Rows (fun b=>base≤b∧b < w.heap.size) w k v n X:=by
 obtain ⟨h1,h2⟩:=h
 rcases h2 with ⟨rfl,h2⟩ | ⟨g,cap,cur,rfl,hb,hg,hc,hm,hs,ht⟩
 · subst h2
   exact ⟨none,0,rfl,by omega,by unfold maxLen;omega,fun _=>rfl,h1,.inl rfl⟩
 · refine ⟨_,cap,rfl,hc,hm,nofun,h1,.inr ⟨g,0,cur,e,(0,0),rfl,⟨hb,lt_of_block hg⟩,hg,?_,fun i hi=>?_⟩⟩
   · have:n * k≤cap * k:=Nat.mul_le_mul_right k hc
     omega
   · have:(cur.toList.take (n * k))[i]?=X[i]?:=by rw [ht]
     rw [List.getElem?_take,if_pos hi] at this
     simpa using this
theorem run_append_rows {P:Program} (W:World) (base:Nat) (ts te:TypeId) {i0:TypeInfo} {z:Value} {k bz:Nat} (hu:P.underlying ts=some (.slice te)) (hi:P.info? te=some i0) (hz:i0.zero=some z) (hs:i0.size=k) (hbz:i0.bytes=bz) (hzk:z.cells.size=k) (hk:0 < k)
 (v:Value) (n:Nat) (xs:List Value) (hown:W.ownsRow base te k v n xs) (F:Blks) (x:Value) (m:Nat) (X:List Value) (hx:Rows F W k x m X) (h1:∀ u ∈ X,u.oneCell'=true)
 (hlen:n+m≤maxLen) (hb47:(n+m) * bz≤140737488355328) (hbase:base≤W.heap.size):
 ∃ v' w',(AP #[ts,ts] ts #[v,x]).run P W=.ok v' w'∧w'.ownsRow base te k v' (n+m) (xs ++ X)∧W.grownBy w' v.ownBlock:=by
 obtain ⟨a,cap,rfl,hc,hm,hzz,hX,hx⟩:=hx
 cases a with
 | none=>
   obtain rfl:=hzz rfl
   obtain rfl:m=0:=by omega
   obtain rfl:X = []:=List.length_eq_zero_iff.1 (by omega)
   exact ⟨v,W,run_append_owned_none W base ts ts te i0 k hu hi v _ _ hown,by simpa using hown,World.grownBy.refl _ _⟩
 | some ad=>
   obtain ⟨v',w',hr,h1,h2,h3⟩:=run_append_own (P:=P) W base ts ts te i0 z k bz hu hi hz hs hbz hzk hk v n xs hown ad m cap X hX
    (fun j u hj=>by
     have hjl:j < m * k:=by rw [←hX];exact (List.getElem?_eq_some_iff.1 hj).1
     rcases hx with rfl | ⟨b,off,L,t,fz,hb,hF,hg,hL,hr⟩
     · simp at hjl
     · simp at hb
       subst hb
       rw [Addr.add_lit,cell_of_row W b (off+j) L t fz hg,hr j hjl,hj])
    h1 hlen hb47 hbase
   exact ⟨v',w',hr,h1,h2⟩
theorem run_append_one {P:Program} (W:World) (base:Nat) (ts te:TypeId) {i0:TypeInfo} {z:Value} {k bz:Nat} (hu:P.underlying ts=some (.slice te)) (hi:P.info? te=some i0) (hz:i0.zero=some z) (hs:i0.size=k) (hbz:i0.bytes=bz) (hzk:z.cells.size=k) (hk:0 < k)
 (v:Value) (n:Nat) (xs:List Value) (hown:W.ownsRow base te k v n xs) (cs:Array Value) (hcs:cs.size=k) (h1:∀ u ∈ cs.toList,u.oneCell'=true)
 (hlen:n+1≤maxLen) (hb47:(n+1) * bz≤140737488355328) (hbase:base≤W.heap.size):
 ∃ v' w',(AP #[ts,ts] ts #[v,.slice (some ⟨W.heap.size,0,none⟩) 1 1]).run P (W.alloc (.cells cs te))=.ok v' w'∧w'.ownsRow base te k v' (n+1) (xs ++ cs.toList)∧(W.alloc (.cells cs te)).grownBy w' v.ownBlock:=by
 refine run_append_rows (W.alloc (.cells cs te)) base ts te hu hi hz hs hbz hzk hk v n xs (hown.alloc _) (fun _=>True) (.slice (some ⟨W.heap.size,0,none⟩) 1 1) 1 cs.toList ?_ h1 hlen hb47 (by simp;omega)
 refine ⟨_,1,rfl,Nat.le_refl _,by unfold maxLen;omega,nofun,by simp [hcs],.inr ⟨W.heap.size,0,cs,te,(0,0),rfl,trivial,by unfold World.alloc;simp,by omega,fun i hi=>by simp⟩⟩
theorem own_block {w:World} {base:Nat} {e:TypeId} {k n:Nat} {v:Value} {xs:List Value} (h:w.ownsRow base e k v n xs) {b:Nat} (hb:v.ownBlock=some b):∃ cs,w.heap[b]?=some (.cells cs e (0,0)):=by
 rcases h.2 with ⟨rfl,_⟩ | ⟨g,cap,cur,rfl,_,hg,_⟩
 · simp [Value.ownBlock] at hb
 · have:g=b:=by simpa [Value.ownBlock] using hb
   subst this
   exact ⟨_,hg⟩
theorem Blk.grownNe {w w':World} {base:Nat} {e t:TypeId} {k n b:Nat} {v:Value} {xs L:List Value} (h:Blk w b L t) (ho:w.ownsRow base e k v n xs) (hne:e≠t) (hg:w.grownBy w' v.ownBlock):Blk w' b L t:=by
 refine h.keep (hg.block b h.lt fun hb=>?_)
 obtain ⟨cs,hc⟩:=own_block ho hb.symm
 unfold Blk at h
 rw [h] at hc
 injection hc with hc
 injection hc with _ ht
 exact hne ht.symm
theorem own_grownNe {w w':World} {base base':Nat} {e e':TypeId} {k k' n n':Nat} {v v':Value} {xs xs':List Value} (h:w.ownsRow base' e' k' v' n' xs') (ho:w.ownsRow base e k v n xs) (hne:e≠e') (hg:w.grownBy w' v.ownBlock):w'.ownsRow base' e' k' v' n' xs':=by
 refine h.kept hg ?_
 cases hb:v'.ownBlock with
 | none=>exact .inl rfl
 | some b=>
   refine .inr fun he=>?_
   obtain ⟨c1,h1⟩:=own_block h hb
   obtain ⟨c2,h2⟩:=own_block ho he.symm
   rw [h1] at h2
   injection h2 with h2
   injection h2 with _ ht
   exact hne ht.symm
theorem own_setCell {w:World} {base b i:Nat} {e t:TypeId} {k n:Nat} {v:Value} {xs L:List Value} (h:w.ownsRow base e k v n xs) (hb:Blk w b L t) (hne:e≠t) (u:Value):(w.setCell ⟨b,i,none⟩ u).ownsRow base e k v n xs:=by
 refine h.kept (row:=some b) ⟨rfl,rfl,rfl,by simp [World.setCell],fun q hq hqb=>Below.heap_setCell w ⟨b,i,none⟩ u q (fun e=>hqb (by rw [e]))⟩ ?_
 cases ho:v.ownBlock with
 | none=>exact .inl rfl
 | some g=>
   refine .inr fun he=>?_
   simp at he
   subst he
   obtain ⟨c1,h1⟩:=own_block h ho
   unfold Blk at hb
   rw [hb] at h1
   injection h1 with h1
   injection h1 with _ ht
   exact hne ht.symm
theorem Below.grownOwn {B:Nat} {w w':World} {base:Nat} {e:TypeId} {k n:Nat} {v:Value} {xs:List Value} (ho:w.ownsRow base e k v n xs) (hg:w.grownBy w' v.ownBlock) (hB:B≤w.heap.size) (hb:B≤base):Below B w w':=
 (Below.refl B w).grown hg hB fun q hq=>by have:=(ho.lt q hq).1;omega
theorem own_below {w w':World} {base:Nat} {e:TypeId} {k n:Nat} {v:Value} {xs:List Value} (h:w.ownsRow base e k v n xs) (hb:Below w.heap.size w w'):w'.ownsRow base e k v n xs:=
 h.kept (row:=none) ⟨hb.os,hb.tape,hb.output,hb.size,fun q hq _=>hb.block q hq⟩ (by cases v.ownBlock <;> simp)
/-! lists of values -/
abbrev eI (n:Int):Value:=.int .i64 n
def encIt (x:RIt):List Value:=[Go.Proofs.encStr x.key,eI x.dev,eI x.seq,eI x.val]
def encGo (x:RGo):List Value:=[Go.Proofs.encStr x.key,eI x.dev,eI x.seq]
section
variable {α:Type} (enc:α→List Value) (k:Nat)
theorem flat_length (hk:∀ x,(enc x).length=k) (l:List α):(l.flatMap enc).length=l.length * k:=by
 induction l with
 | nil=>simp
 | cons x l ih=>rw [List.flatMap_cons,List.length_append,hk,ih,List.length_cons,Nat.succ_mul];omega
theorem flat_get (hk:∀ x,(enc x).length=k):∀ (l:List α) (i j:Nat) (h:i < l.length),j < k→(l.flatMap enc)[i * k+j]?=(enc l[i])[j]?
 | [],i,j,h,_=>by simp at h
 | x :: l,0,j,_,hj=>by
   rw [List.flatMap_cons,List.getElem?_append_left (by rw [hk];omega)]
   simp
 | x :: l,i+1,j,h,hj=>by
   rw [List.flatMap_cons,List.getElem?_append_right (by rw [hk,Nat.succ_mul];omega),hk,Nat.succ_mul,show i * k+k+j - k=i * k+j from by omega]
   simpa using flat_get hk l i j (by simpa using h) hj
end
theorem encIt_len (x:RIt):(encIt x).length=4:=rfl
theorem encGo_len (x:RGo):(encGo x).length=3:=rfl
theorem it_cell {F:Blks} {w:World} {a:Option Addr} {n cap:Nat} {l:List RIt} (h:Rows F w 4 (.slice a n cap) l.length (l.flatMap encIt)) (h0:0 < l.length):
 ∃ b off,a=some ⟨b,off,none⟩∧F b∧b < w.heap.size∧∀ i (hi:i < l.length),w.cell? ⟨b,off+i * 4,none⟩=some (.string ⟨l[i].key.toArray⟩)∧w.cell? ⟨b,off+i * 4+1,none⟩=some (.int .i64 l[i].dev)∧w.cell? ⟨b,off+i * 4+2,none⟩=some (.int .i64 l[i].seq)∧w.cell? ⟨b,off+i * 4+3,none⟩=some (.int .i64 l[i].val):=by
 obtain ⟨b,off,rfl,hF,hb,hc⟩:=h.cells h0
 refine ⟨b,off,rfl,hF,hb,fun i hi=>⟨?_,?_,?_,?_⟩⟩
 · exact hc (i * 4) _ (flat_get encIt 4 encIt_len l i 0 hi (by omega))
 · exact hc (i * 4+1) _ (flat_get encIt 4 encIt_len l i 1 hi (by omega))
 · exact hc (i * 4+2) _ (flat_get encIt 4 encIt_len l i 2 hi (by omega))
 · exact hc (i * 4+3) _ (flat_get encIt 4 encIt_len l i 3 hi (by omega))
theorem go_cell {F:Blks} {w:World} {a:Option Addr} {n cap:Nat} {l:List RGo} (h:Rows F w 3 (.slice a n cap) l.length (l.flatMap encGo)) (h0:0 < l.length):
 ∃ b off,a=some ⟨b,off,none⟩∧F b∧b < w.heap.size∧∀ i (hi:i < l.length),w.cell? ⟨b,off+i * 3,none⟩=some (.string ⟨l[i].key.toArray⟩)∧w.cell? ⟨b,off+i * 3+1,none⟩=some (.int .i64 l[i].dev)∧w.cell? ⟨b,off+i * 3+2,none⟩=some (.int .i64 l[i].seq):=by
 obtain ⟨b,off,rfl,hF,hb,hc⟩:=h.cells h0
 refine ⟨b,off,rfl,hF,hb,fun i hi=>⟨?_,?_,?_⟩⟩
 · exact hc (i * 3) _ (flat_get encGo 3 encGo_len l i 0 hi (by omega))
 · exact hc (i * 3+1) _ (flat_get encGo 3 encGo_len l i 1 hi (by omega))
 · exact hc (i * 3+2) _ (flat_get encGo 3 encGo_len l i 2 hi (by omega))
theorem int_cell {F:Blks} {w:World} {a:Option Addr} {n cap:Nat} {l:List Int} (h:Rows F w 1 (.slice a n cap) l.length (l.map eI)) (h0:0 < l.length):
 ∃ b off,a=some ⟨b,off,none⟩∧F b∧b < w.heap.size∧∀ i (hi:i < l.length),w.cell? ⟨b,off+i,none⟩=some (.int .i64 l[i]):=by
 obtain ⟨b,off,rfl,hF,hb,hc⟩:=h.cells h0
 exact ⟨b,off,rfl,hF,hb,fun i hi=>hc i _ (by simp [hi])⟩
theorem str_cell {F:Blks} {w:World} {a:Option Addr} {n cap:Nat} {l:List RKey} (h:Rows F w 1 (.slice a n cap) l.length (l.map Go.Proofs.encStr)) (h0:0 < l.length):
 ∃ b off,a=some ⟨b,off,none⟩∧F b∧b < w.heap.size∧∀ i (hi:i < l.length),w.cell? ⟨b,off+i,none⟩=some (.string ⟨l[i].toArray⟩):=by
 obtain ⟨b,off,rfl,hF,hb,hc⟩:=h.cells h0
 exact ⟨b,off,rfl,hF,hb,fun i hi=>hc i _ (by simp [hi])⟩
theorem one_encIt (l:List RIt):∀ u ∈ l.flatMap encIt,u.oneCell'=true:=by
 intro u hu
 obtain ⟨x,_,hx⟩:=List.mem_flatMap.1 hu
 simp [encIt] at hx
 rcases hx with rfl | rfl | rfl | rfl <;> rfl
theorem one_encGo (l:List RGo):∀ u ∈ l.flatMap encGo,u.oneCell'=true:=by
 intro u hu
 obtain ⟨x,_,hx⟩:=List.mem_flatMap.1 hu
 simp [encGo] at hx
 rcases hx with rfl | rfl | rfl <;> rfl
theorem one_eI (l:List Int):∀ u ∈ l.map eI,u.oneCell'=true:=by
 intro u hu
 obtain ⟨x,_,rfl⟩:=List.mem_map.1 hu
 rfl
theorem one_eS (l:List RKey):∀ u ∈ l.map Go.Proofs.encStr,u.oneCell'=true:=by
 intro u hu
 obtain ⟨x,_,rfl⟩:=List.mem_map.1 hu
 rfl
/-! maps -/
def i64ok (n:Int):Prop:=-9223372036854775808≤n∧n≤9223372036854775807
structure MapIn (F:Blks) (w:World) (s1 s2 s3:Value) (m:RMap):Prop where
 seen:Rows F w 1 s1 m.seen.length (m.seen.map eI)
 items:Rows F w 4 s2 m.items.length (m.items.flatMap encIt)
 gone:Rows F w 3 s3 m.gone.length (m.gone.flatMap encGo)
 seenB:∀ n ∈ m.seen,i64ok n
 itemsB:∀ x ∈ m.items,x.key.length≤9223372036854775807∧i64ok x.dev∧i64ok x.seq∧i64ok x.val
 goneB:∀ x ∈ m.gone,x.key.length≤9223372036854775807∧i64ok x.dev∧i64ok x.seq
def MapV (F:Blks) (w:World) (v:Value) (m:RMap):Prop:=∃ s1 s2 s3,v=.agg #[s1,s2,s3]∧MapIn F w s1 s2 s3 m
theorem MapIn.keep {F:Blks} {w w':World} {s1 s2 s3:Value} {m:RMap} (h:MapIn F w s1 s2 s3 m) (hk:∀ b,F b→b < w.heap.size→w'.heap[b]?=w.heap[b]?):MapIn F w' s1 s2 s3 m:=
 ⟨h.seen.keep hk,h.items.keep hk,h.gone.keep hk,h.seenB,h.itemsB,h.goneB⟩
theorem MapIn.mono {F G:Blks} {w:World} {s1 s2 s3:Value} {m:RMap} (h:MapIn F w s1 s2 s3 m) (hg:∀ b,F b→b < w.heap.size→G b):MapIn G w s1 s2 s3 m:=
 ⟨h.seen.mono hg,h.items.mono hg,h.gone.mono hg,h.seenB,h.itemsB,h.goneB⟩
theorem MapV.keep {F:Blks} {w w':World} {v:Value} {m:RMap} (h:MapV F w v m) (hk:∀ b,F b→b < w.heap.size→w'.heap[b]?=w.heap[b]?):MapV F w' v m:=by
 obtain ⟨s1,s2,s3,rfl,h⟩:=h
 exact ⟨s1,s2,s3,rfl,h.keep hk⟩
theorem MapV.mono {F G:Blks} {w:World} {v:Value} {m:RMap} (h:MapV F w v m) (hg:∀ b,F b→b < w.heap.size→G b):MapV G w v m:=by
 obtain ⟨s1,s2,s3,rfl,h⟩:=h
 exact ⟨s1,s2,s3,rfl,h.mono hg⟩
theorem MapIn.below {B:Nat} {w w':World} {s1 s2 s3:Value} {m:RMap} (h:MapIn (fun b=>b < B) w s1 s2 s3 m) (hb:Below B w w'):MapIn (fun b=>b < B) w' s1 s2 s3 m:=h.keep fun b hB _=>hb.block b hB
theorem MapV.below {B:Nat} {w w':World} {v:Value} {m:RMap} (h:MapV (fun b=>b < B) w v m) (hb:Below B w w'):MapV (fun b=>b < B) w' v m:=h.keep fun b hB _=>hb.block b hB
theorem MapV.later {F:Blks} {w w':World} {v:Value} {m:RMap} {B:Nat} (h:MapV F w v m) (hb:Below B w w') (hB:w.heap.size≤B):MapV F w' v m:=h.keep fun b _ hlt=>hb.block b (by omega)
end Go.Proofs.YtobjdpngnfbicaaGreatDoor

namespace Go.Proofs.YtobjdpngnfbicaaGreatDoor
open Go.RowKit
set_option linter.unusedVariables false
set_option maxRecDepth 20000
attribute [local go_sem ↓] seal_append
theorem infoU8:(Tryz.prog.info? 5).map (fun i=>(i.zero,i.size,i.bytes))=some (some (.int .u8 0),1,1):=by kernel_rfl
theorem run_append_bytes (W:World) (base:Nat) (v:Value) (xs:List UInt8) (hown:W.ownsRow base 5 1 v xs.length (xs.map B)) (F:Blks) (x:Value) (l:List UInt8) (hx:Bytes F W x l)
 (hlen:xs.length+l.length≤140737488355328) (hbase:base≤W.heap.size):
 ∃ v' w',(AP #[41,41] 41 #[v,x]).run Tryz.prog W=.ok v' w'∧w'.ownsRow base 5 1 v' (xs ++ l).length ((xs ++ l).map B)∧W.grownBy w' v.ownBlock:=by
 obtain ⟨i0,hi,hz0,hz1,hz2⟩:=info_parts infoU8
 obtain ⟨a,cap,rfl,hc,hm,hz,hx⟩:=hx
 cases a with
 | none=>
   have hl:l = []:=by
    rcases hx with h | ⟨b,off,L,t,fz,h,_⟩
    · exact h
    · cases h
   subst hl
   obtain rfl:=hz rfl
   exact ⟨v,W,run_append_owned_none W base 41 41 5 i0 1 Tryz.underlying41 hi v _ _ hown,by simpa using hown,World.grownBy.refl _ _⟩
 | some ad=>
   obtain ⟨v',w',hr,h1,h2,h3⟩:=run_append_own (P:=Tryz.prog) W base 41 41 5 i0 _ 1 1 Tryz.underlying41 hi hz0 hz1 hz2 rfl (by decide) v xs.length (xs.map B) hown ad l.length cap (l.map B) (by simp)
    (fun j u hj=>by
     rcases hx with rfl | ⟨b,off,L,t,fz,hb,hF,hg,hL,hr⟩
     · simp at hj
     · simp at hb
       subst hb
       have hjl:j < l.length:=by have:=(List.getElem?_eq_some_iff.1 hj).1;simpa using this
       rw [Addr.add_lit,cell_of_row W b (off+j) L t fz hg,hr j hjl]
       simp [List.getElem?_eq_getElem hjl] at hj
       simp [hj])
    (oneCell_B l) (by unfold maxLen;omega) (by omega) hbase
   exact ⟨v',w',hr,by simpa using h1,h2⟩
theorem clone_any (w:World) (F:Blks) (v:Value) (l:List UInt8) (hv:Bytes F w v l) (hlen:l.length≤140737488355328):
 Calls Tryz.prog 98 #[v] w fun e w'=>∃ r,e=.returned r∧w'.ownsRow w.heap.size 5 1 r l.length (l.map B)∧Below w.heap.size w w':=by
 have hv0:=hv
 obtain ⟨a,cap,rfl,hc,hm,hz,hx⟩:=hv
 have hW:Bytes F (w.alloc (.cells #[] 5)) (.slice a l.length cap) l:=hv0.keep fun b _ hb=>Below.heap_alloc _ _ _ hb
 obtain ⟨v',w',hr,hown,hgb⟩:=run_append_bytes (w.alloc (.cells #[] 5)) w.heap.size (.slice (some ⟨w.heap.size,0,none⟩) 0 0) []
  ⟨rfl,.inr ⟨w.heap.size,0,#[],rfl,Nat.le_refl _,by unfold World.alloc;simp,Nat.le_refl _,by unfold maxLen;omega,rfl,rfl⟩⟩ F (.slice a l.length cap) l hW (by simpa using hlen) (by simp)
 have Hown:=Lib.hid hown;clear hown
 have Hgb:=Lib.hid hgb;clear hgb
 have Hx:=Lib.hid hx;clear hx
 cases a with
 | none=>
   have hl:l = []:=by
    rcases Hx.out with h | ⟨b,off,L,t,fz,h,_⟩
    · exact h
    · cases h
   subst hl
   obtain rfl:=hz rfl
   have hn:=fun (W:World)=>Lib.run_eql_slice_nil (P:=Tryz.prog) W 41 5 none 0 0 0 0 Tryz.underlying41
   go_enter Tryz.func98,Tryz.ntmps98
   go_wp2_with fail
   go_ret
   exact ⟨_,rfl,World.ownsRow_nil _ _ _ _,Below.refl _ _⟩
 | some ad=>
   have hn:=fun (W:World)=>Lib.run_eql_slice_nil (P:=Tryz.prog) W 41 5 (some ad) l.length cap 0 0 Tryz.underlying41
   go_enter Tryz.func98,Tryz.ntmps98
   go_wp2_with fail
   go_ret
   exact ⟨_,rfl,by simpa using Hown.out,(kept_alloc _ _).grown Hgb.out (by simp) (fun k hk=>by simp [Value.ownBlock] at hk;omega)⟩
end Go.Proofs.YtobjdpngnfbicaaGreatDoor
