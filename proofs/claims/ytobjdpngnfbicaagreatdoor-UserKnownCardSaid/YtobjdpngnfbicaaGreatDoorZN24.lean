/-
  BRows J5
-/
import Derived.Test.YtobjdpngnfbicaaGreatDoorZN04
import Derived.Test.YtobjdpngnfbicaaGreatDoorZN20
import Derived.Test.YtobjdpngnfbicaaGreatDoorZN23
namespace Go.Proofs.YtobjdpngnfbicaaGreatDoor
open Go.RowKit
set_option linter.unusedVariables false
set_option maxRecDepth 20000
theorem infoBs:(Tryz.prog.info? 41).map (fun i=>(i.zero,i.size,i.bytes))=some (some (.slice none 0 0),1,24):=by kernel_rfl
def RowsIn (R:Blks) (w:World) (lo:Nat) (v:Value) (S:List (List UInt8)):Prop:=
 ∃ vals,w.ownsRow lo 41 1 v S.length vals∧(∀ i (h:i < S.length),∃ x,vals[i]?=some x∧Bytes R w x S[i])∧(∀ b,R b→∃ L fz,w.heap[b]?=some (.cells L 5 fz))
theorem RowsIn.nil (w:World) (lo:Nat):RowsIn none_ w lo (.slice none 0 0) []:=
 ⟨[],World.ownsRow_nil _ _ _ _,fun i h=>by simp at h,fun b h=>h.elim⟩
theorem RowsIn.shape {R:Blks} {w:World} {lo:Nat} {v:Value} {S:List (List UInt8)} (h:RowsIn R w lo v S):∃ a cap,v=.slice a S.length cap∧S.length≤cap∧cap≤maxLen:=by
 obtain ⟨vals,hown,-⟩:=h
 rcases hown.2 with ⟨rfl,h0⟩ | ⟨g,cap,cur,rfl,_,_,hc,hm,_⟩
 · exact ⟨none,0,by rw [h0],by omega,by unfold maxLen;omega⟩
 · exact ⟨_,cap,rfl,hc,hm⟩
theorem RowsIn.own {R:Blks} {w:World} {lo:Nat} {v:Value} {S:List (List UInt8)} (h:RowsIn R w lo v S) {g:Nat} (hg:v.ownBlock=some g):lo≤g∧g < w.heap.size∧¬ R g:=by
 obtain ⟨vals,hown,-,hR⟩:=h
 rcases hown.2 with ⟨rfl,h0⟩ | ⟨g',cap,cur,rfl,hlo,hb,hc,hm,_⟩
 · cases hg
 · simp [Value.ownBlock] at hg
   subst hg
   refine ⟨hlo,lt_of_block hb,fun hx=>?_⟩
   obtain ⟨L,fz,hL⟩:=hR g' hx
   rw [hb] at hL
   simp at hL
theorem owns_keep {w w':World} {lo:Nat} {e:TypeId} {size n:Nat} {v:Value} {xs:List Value} (h:w.ownsRow lo e size v n xs) (hk:∀ g,v.ownBlock=some g→w'.heap[g]?=w.heap[g]?):w'.ownsRow lo e size v n xs:=by
 obtain ⟨h1,h2⟩:=h
 refine ⟨h1,?_⟩
 rcases h2 with h2 | ⟨g,cap,cur,rfl,hlo,hb,r⟩
 · exact .inl h2
 · exact .inr ⟨g,cap,cur,rfl,hlo,(hk g rfl).trans hb,r⟩
theorem RowsIn.keep {R:Blks} {w w':World} {lo:Nat} {v:Value} {S:List (List UInt8)} (h:RowsIn R w lo v S) (hk:∀ b,v.ownBlock=some b∨R b→b < w.heap.size→w'.heap[b]?=w.heap[b]?):RowsIn R w' lo v S:=by
 have hown0:=fun g hg=>(h.own (g:=g) hg).2.1
 obtain ⟨vals,hown,hv,hR⟩:=h
 refine ⟨vals,owns_keep hown fun g hg=>hk g (.inl hg) (hown0 g hg),fun i hi=>?_,fun b hb=>?_⟩
 · obtain ⟨x,hx,hbx⟩:=hv i hi
   exact ⟨x,hx,hbx.keep fun b hb hlt=>hk b (.inr hb) hlt⟩
 · obtain ⟨L,fz,hL⟩:=hR b hb
   exact ⟨L,fz,(hk b (.inr hb) (lt_of_block hL)).trans hL⟩
theorem RowsIn.kept {R:Blks} {w w':World} {lo:Nat} {v:Value} {S:List (List UInt8)} (h:RowsIn R w lo v S) (hb:Below w.heap.size w w'):RowsIn R w' lo v S:=
 h.keep fun b _ hlt=>hb.block b hlt
theorem RowsIn.only {R F:Blks} {w w':World} {lo:Nat} {v:Value} {S:List (List UInt8)} (h:RowsIn R w lo v S) (ho:Only F w w') (hd:∀ b,v.ownBlock=some b∨R b→¬ F b):RowsIn R w' lo v S:=
 h.keep fun b hb hlt=>ho.block b hlt (hd b hb)
theorem RowsIn.append {R Rx:Blks} {w:World} {lo:Nat} {v x:Value} {S:List (List UInt8)} {l:List UInt8} (h:RowsIn R w lo v S) (hx:Bytes Rx w x l) (hRx:∀ b,Rx b→∃ L fz,w.heap[b]?=some (.cells L 5 fz))
 (hlen:S.length < 1000000000) (hlo:lo≤w.heap.size):
 ∃ a cap w',(AP #[64,64] 64 #[v,.slice (some ⟨w.heap.size,0,none⟩) 1 1]).run Tryz.prog (w.alloc (.cells #[x] 41))=.ok (.slice a (S.length+1) cap) w' ∧
   RowsIn (fun b=>R b∨Rx b) w' lo (.slice a (S.length+1) cap) (S ++ [l])∧(w.alloc (.cells #[x] 41)).grownBy w' v.ownBlock:=by
 obtain ⟨i0,hi,hz0,hz1,hz2⟩:=info_parts infoBs
 have hown0:=fun g hg=>h.own (g:=g) hg
 obtain ⟨vals,hown,hv,hR⟩:=h
 have hx1:x.oneCell'=true:=by obtain ⟨a,cap,rfl,-⟩:=hx;rfl
 obtain ⟨v',w',hr,h1,h2,h3⟩:=run_append_own (P:=Tryz.prog) (w.alloc (.cells #[x] 41)) lo 64 64 41 i0 _ 1 24 Tryz.underlying64 hi hz0 hz1 hz2 rfl (by decide) v S.length vals (hown.alloc _)
  ⟨w.heap.size,0,none⟩ 1 1 [x] (by simp) (fun j u hj=>by
   have hn:=Blk.new w #[x] 41
   rw [Addr.add_lit,hn.cell]
   simpa using hj) (by simpa using hx1) (by unfold maxLen;omega) (by omega) (by simp;omega)
 have hsh:∃ a cap,v'=.slice a (S.length+1) cap:=by
  rcases h1.2 with ⟨_,h0⟩ | ⟨g,cap,cur,rfl,_⟩
  · omega
  · exact ⟨_,cap,rfl⟩
 obtain ⟨a,cap,rfl⟩:=hsh
 have hkeep:∀ b,b < w.heap.size→(∀ g,v.ownBlock=some g→b≠g)→w'.heap[b]?=w.heap[b]?:=fun b hb hg=>by
  rw [h2.block b (by simp;omega) (fun e=>hg b e.symm rfl),Below.heap_alloc _ _ _ hb]
 have hng:∀ b,(∃ L fz,w.heap[b]?=some (.cells L 5 fz))→∀ g,v.ownBlock=some g→b≠g:=by
  rintro b ⟨L,fz,hL⟩ g hg rfl
  rcases hown.2 with ⟨rfl,_⟩ | ⟨g',cap',cur,rfl,_,hb,_⟩
  · cases hg
  · simp [Value.ownBlock] at hg
    subst hg
    rw [hb] at hL
    simp at hL
 refine ⟨a,cap,w',hr,⟨vals ++ [x],by simpa using h1,fun i hi=>?_,fun b hb=>?_⟩,h2⟩
 · have hlv:vals.length=S.length:=by simpa using hown.1
   by_cases hlt:i < S.length
   · obtain ⟨y,hy,hby⟩:=hv i hlt
     refine ⟨y,by rw [List.getElem?_append_left (by omega)];exact hy,?_⟩
     rw [List.getElem_append_left hlt]
     exact (hby.keep fun b hb hbl=>hkeep b hbl (hng b (hR b hb))).mono fun b hb=>.inl hb
   · simp at hi
     obtain rfl:i=S.length:=by omega
     refine ⟨x,by rw [List.getElem?_append_right (by omega),hlv];simp,?_⟩
     simp only [List.getElem_concat_length]
     exact (hx.keep fun b hb hbl=>hkeep b hbl (hng b (hRx b hb))).mono fun b hb=>.inr hb
 · have:∃ L fz,w.heap[b]?=some (.cells L 5 fz):=hb.elim (hR b) (hRx b)
   obtain ⟨L,fz,hL⟩:=this
   exact ⟨L,fz,(hkeep b (lt_of_block hL) (hng b ⟨L,fz,hL⟩)).trans hL⟩
theorem RowsIn.appended {R:Blks} {w:World} {lo:Nat} {v x:Value} {S:List (List UInt8)} (h:RowsIn R w lo v S) (hx1:x.oneCell'=true) (hlen:S.length < 1000000000) {v':Value} {w':World}
 (hap:(AP #[64,64] 64 #[v,.slice (some ⟨w.heap.size,0,none⟩) 1 1]).run Tryz.prog (w.alloc (.cells #[x] 41))=.ok v' w'):∀ b,v'.ownBlock=some b→v.ownBlock=some b∨w.heap.size≤b:=by
 obtain ⟨i0,hi,hz0,hz1,hz2⟩:=info_parts infoBs
 obtain ⟨vals,hown,-,-⟩:=h
 have hnews:∀ j u,[x][j]?=some u→(w.alloc (.cells #[x] 41)).cell? ((⟨w.heap.size,0,none⟩:Addr).add j)=some u:=fun j u hj=>by
  have hn:=Blk.new w #[x] 41
  rw [Addr.add_lit,hn.cell]
  simpa using hj
 rcases hown.2 with ⟨rfl,h0⟩ | ⟨g,cap,cur,rfl,hlo,hb,hc,hm,hs,ht⟩
 · have hr:=run_append_nil (P:=Tryz.prog) (w.alloc (.cells #[x] 41)) 64 64 41 i0 _ Tryz.underlying64 hi hz0 ⟨w.heap.size,0,none⟩ 1 1 [x] (by rw [hz1];rfl) hnews (by omega) (by omega) (by rw [hz2];omega)
   change _=_ at hap
   unfold AP at hap
   rw [hr] at hap
   simp only [Result.ok.injEq] at hap
   obtain ⟨rfl,-⟩:=hap
   intro b hb
   simp [Value.ownBlock] at hb
   right;omega
 · have hb':(w.alloc (.cells #[x] 41)).heap[g]?=some (.cells cur 41 (0,0)):=(Below.heap_alloc _ _ _ (lt_of_block hb)).trans hb
   by_cases hroom:S.length+1≤cap
   · have hr:=run_append_room (P:=Tryz.prog) (w.alloc (.cells #[x] 41)) 64 64 41 i0 Tryz.underlying64 hi g S.length cap cur hb' ⟨w.heap.size,0,none⟩ 1 1 [x] (by rw [hz1];rfl) hnews (by simpa using hx1) hroom (by rw [hz1,hs];simp;omega)
     unfold AP at hap
     rw [hr] at hap
     simp only [Result.ok.injEq] at hap
     obtain ⟨rfl,-⟩:=hap
     intro b hb
     left
     exact hb
   · have holds:∀ j u,vals[j]?=some u→(w.alloc (.cells #[x] 41)).cell? ((⟨g,0,none⟩:Addr).add j)=some u:=(hown.alloc _).cells (g:=g) rfl
     have hr:=run_append_grow (P:=Tryz.prog) (w.alloc (.cells #[x] 41)) 64 64 41 i0 _ Tryz.underlying64 hi hz0 ⟨g,0,none⟩ S.length cap vals (by rw [hz1];exact hown.1) holds ⟨w.heap.size,0,none⟩ 1 1 [x] (by rw [hz1];rfl) hnews (by omega) (by omega) (by rw [hz2];exact growslice_fits (by omega) (by omega))
     unfold AP at hap
     rw [hr] at hap
     simp only [Result.ok.injEq] at hap
     obtain ⟨rfl,-⟩:=hap
     intro b hb
     simp [Value.ownBlock] at hb
     right;omega
end Go.Proofs.YtobjdpngnfbicaaGreatDoor

namespace Go.Proofs.YtobjdpngnfbicaaGreatDoor
open Go.RowKit
set_option linter.unusedVariables false
set_option maxRecDepth 20000
attribute [local go_sem ↓] seal_append
attribute [local go_sem] opC upC
theorem owns_bytes {w:World} {lo:Nat} {v:Value} {l:List UInt8} (h:w.ownsRow lo 5 1 v l.length (l.map B)):Bytes (fun b=>lo≤b∧b < w.heap.size∧∃ L fz,w.heap[b]?=some (.cells L 5 fz)) w v l:=by
 rcases h.2 with ⟨rfl,h0⟩ | ⟨g,cap,cur,rfl,hb,hg,hc,hm,hs,ht⟩
 · exact ⟨none,0,by rw [h0],by omega,by unfold maxLen;omega,fun _=>rfl,.inl (List.length_eq_zero_iff.1 h0)⟩
 · refine ⟨_,cap,rfl,hc,hm,nofun,.inr ⟨g,0,cur,5,(0,0),rfl,⟨hb,lt_of_block hg,_,_,hg⟩,hg,by omega,fun i hi=>?_⟩⟩
   have:(cur.toList.take (l.length * 1))[i]?=(l.map B)[i]?:=by rw [ht]
   rw [List.getElem?_take,if_pos (by omega)] at this
   simpa [List.getElem?_eq_getElem hi] using this
structure JK where
 j:Nat
 K:DK
 O:Blks
def JK.all (k:JK):Blks:=fun b=>b=k.j∨k.K.foot b∨k.O b
structure JAt (w:World) (k:JK) (M:MD) (J:MJ):Prop where
 disk:DiskAt w k.K M
 recs:∃ ra rc R,JBlk w k.j k.K.d J.g (.slice ra J.L.length rc) (takenL J.L) J.dead∧RowsIn R w 0 (.slice ra J.L.length rc) J.L∧(∀ b,(Value.slice ra J.L.length rc).ownBlock=some b∨R b→k.O b)
 apart:¬ k.K.foot k.j∧(∀ b,k.O b→b≠k.j∧¬ k.K.foot b∧b < w.heap.size)
 size8:8≤M.S.length
 room:takenL J.L≤halfN M.S.length
 gen:J.g < 4294967296
 lens:∀ b ∈ J.L,b.length≤65536
theorem JAt.keep {w w':World} {k:JK} {M:MD} {J:MJ} (h:JAt w k M J) (hk:∀ b,k.all b→w'.heap[b]?=w.heap[b]?) (hs:w.heap.size≤w'.heap.size):JAt w' k M J:=by
 obtain ⟨h1,⟨ra,rc,R,h2,h3,h4⟩,h5,h6,h7,h8,h9⟩:=h
 exact ⟨h1.keep fun b hb=>hk b (.inr (.inl hb)),⟨ra,rc,R,Blk.keep h2 (hk _ (.inl rfl)),h3.keep fun b hb _=>hk b (.inr (.inr (h4 b hb))),h4⟩,⟨h5.1,fun b hb=>⟨(h5.2 b hb).1,(h5.2 b hb).2.1,Nat.lt_of_lt_of_le (h5.2 b hb).2.2 hs⟩⟩,h6,h7,h8,h9⟩
theorem JAt.lt {w:World} {k:JK} {M:MD} {J:MJ} (h:JAt w k M J):∀ b,k.all b→b < w.heap.size:=by
 rintro b (rfl | hb | hb)
 · obtain ⟨ra,rc,R,h2,_⟩:=h.recs;exact Blk.lt h2
 · exact h.disk.lt b hb
 · exact (h.apart.2 b hb).2.2
theorem JAt.kept {w w':World} {k:JK} {M:MD} {J:MJ} (h:JAt w k M J) (hb:Below w.heap.size w w'):JAt w' k M J:=h.keep (fun b hf=>hb.block b (h.lt b hf)) hb.size
theorem JAt.only {w w':World} {k:JK} {M:MD} {J:MJ} {F:Blks} (h:JAt w k M J) (ho:Only F w w') (hd:∀ b,k.all b→¬ F b):JAt w' k M J:=h.keep (fun b hb=>ho.block b (h.lt b hb) (hd b hb)) ho.size
theorem takenL_snoc (L:List (List UInt8)) (b:List UInt8):takenL (L ++ [b])=takenL L+takes b.length:=by simp [takenL]
theorem length_le_taken (L:List (List UInt8)):L.length≤takenL L:=by
 induction L with
 | nil=>simp
 | cons x L ih=>
   have:=takes_pos x.length
   simp only [takenL,List.map_cons,List.sum_cons,List.length_cons] at *
   omega
set_option maxHeartbeats 2000000 in
theorem add_any (w:World) (jb kd g taken:Nat) (rv:Value) (dead:Bool) (R:Blks) (L:List (List UInt8)) (hj:JBlk w jb kd g rv taken dead) (hr:RowsIn R w 0 rv L) (hown0:∀ b,rv.ownBlock=some b∨R b→b≠jb∧b < w.heap.size) (F:Blks) (v:Value) (l:List UInt8) (hv:Bytes F w v l) (hl:l.length≤65536) (hL:L.length≤65536) (ht:taken≤65536):
 Calls Tryz.prog 91 #[.pointer (some ⟨jb,0,none⟩),v] w fun e w'=>e=.returned (.tuple #[])∧∃ ra rc R',JBlk w' jb kd g (.slice ra (L.length+1) rc) (taken+takes l.length) dead∧RowsIn R' w' 0 (.slice ra (L.length+1) rc) (L ++ [l]) ∧
  Only (fun b=>b=jb∨rv.ownBlock=some b) w w'∧(∀ b,(Value.slice ra (L.length+1) rc).ownBlock=some b∨R' b→((rv.ownBlock=some b∨R b)∨w.heap.size≤b)∧b < w'.heap.size):=by
 have hown:∀ b,rv.ownBlock=some b∨R b→b≠jb:=fun b h=>(hown0 b h).1
 have hjlt:=hj.lt
 have htk:=takes_pos l.length
 have htb:takes l.length≤65536:=by unfold takes;omega
 obtain ⟨va,vc,rfl,hvc,hvm,-,-⟩:=id hv
 obtain ⟨aR,cR,rfl,-,-⟩:=hr.shape
 have hq2:∀ w',LaterF (fun b=>w.heap.size≤b∨(Value.slice aR L.length cR).ownBlock=some b) w.drew w'→w'.cell? ⟨jb,2,none⟩=some (.slice aR L.length cR):=fun w' hh=>by
  simpa using (Blk.keep hj (w':=w') (hh.block jb hjlt (fun h=>h.elim (fun h=>by omega) (fun h=>hown jb (.inl h) rfl)))).cell 2
 go_enter Tryz.func91,Tryz.ntmps91
 go_wp2_with fail
 refine wp_region_canL (LaterF (fun b=>w.heap.size≤b∨(Value.slice aR L.length cR).ownBlock=some b)) 11 [(0,true),(1,true),(2,true),(3,true),(4,true),(5,true),(6,false),(7,false),(8,false),(9,true),(10,true),(11,false)] (by kernel_rfl) (by kernel_rfl) (by kernel_rfl) (laterF_refl _) (laterF_trans _) ?_
 repeat (refine canL_yes (v:=?_) rfl (wanted_none rfl) (fun w' hC=>?_) (fun K hK=>?_);rotate_left;(focus (go_simp;first | done | exact rfl));go_simp;refine hK _ ?_;clear hK K)
 refine canL_go rfl rfl (fun KK hK=>?_)
 go_simp
 refine (clone_any w.drew F _ l (hv.keep (w':=w.drew) fun b _ _=>rfl) (by omega)).mono ?_
 rintro e w1 ⟨r,rfl,hr1,hb0⟩
 have hb1:Below w.heap.size w w1:=(Below.refl _ _).drew.trans hb0
 have hr1:w1.ownsRow w.heap.size 5 1 r l.length (l.map B):=hr1
 refine ⟨_,rfl,LaterF.of_below hb0,hK _ _ ?_⟩
 clear hK KK hq2
 have hby:=owns_bytes hr1
 obtain ⟨ra,rc,rfl,-,-⟩:∃ a cap,r=.slice a l.length cap∧l.length≤cap∧cap≤maxLen:=by
  obtain ⟨a,cap,h,h1,h2,-⟩:=hby
  exact ⟨a,cap,h,h1,h2⟩
 have hrows1:=hr.kept hb1
 obtain ⟨a',c',w2,hap,hrows2,hg2⟩:=hrows1.append hby (fun b hb=>hb.2.2) (by omega) (Nat.zero_le _)
 have hj1:JBlk w1 jb kd g (.slice aR L.length cR) taken dead:=Blk.keep hj (hb1.block jb hjlt)
 have hz1:=hb1.size
 have hown1:∀ q,(Value.slice aR L.length cR).ownBlock=some q→q < w.heap.size:=fun q hq=>(hr.own hq).2.1
 have hj2:JBlk w2 jb kd g (.slice aR L.length cR) taken dead:=Blk.keep (Blk.alloc hj1 _) (hg2.block jb (by simp;omega) (fun e=>hown jb (.inl e.symm) rfl))
 have k1:LaterF (fun b=>w.heap.size≤b∨(Value.slice aR L.length cR).ownBlock=some b) w1 (w1.alloc (.cells #[.slice ra l.length rc] 41)):=LaterF.of_below (kept_alloc _ _)
 have k2:LaterF (fun b=>w.heap.size≤b∨(Value.slice aR L.length cR).ownBlock=some b) (w1.alloc (.cells #[.slice ra l.length rc] 41)) w2:=⟨hg2.os,hg2.tape,hg2.output,hg2.size,fun q hq hn=>hg2.block q hq (fun e=>hn (.inr e.symm))⟩
 have ho2:Only (fun b=>b=jb∨(Value.slice aR L.length cR).ownBlock=some b) w w2:=by
  have h1:Only (fun b=>b=jb∨(Value.slice aR L.length cR).ownBlock=some b) w (w1.alloc (.cells #[.slice ra l.length rc] 41)):=(Only.of_below hb1).alloc _
  exact ⟨hg2.os.trans h1.os,hg2.tape.trans h1.tape,hg2.output.trans h1.output,Nat.le_trans h1.size hg2.size,fun q hq hn=>(hg2.block q (Nat.lt_of_lt_of_le hq h1.size) (fun e=>hn (.inr e.symm))).trans (h1.block q hq hn)⟩
 have c2:=hj2.cell 2
 have f2:=hj2.free 2
 simp at c2
 have hne2:∀ b,(Value.slice a' (L.length+1) c').ownBlock=some b∨(R b∨(w.heap.size≤b∧b < w1.heap.size∧∃ L fz,w1.heap[b]?=some (.cells L 5 fz)))→b≠jb:=fun b hb=>by
  rcases hb with hb | hb | hb
  · intro e
    subst e
    obtain ⟨vals,ho,-⟩:=hrows2
    rcases ho.2 with ⟨h,_⟩ | ⟨g',cap',cur,h,_,hg',_⟩
    · rw [h] at hb;cases hb
    · rw [h] at hb
      simp [Value.ownBlock] at hb
      subst hb
      have:w2.heap[g']?=some (.cells #[.pointer (some ⟨kd,0,none⟩),.int .u32 (g:Int),.slice aR L.length cR,.int .i64 (taken:Int),.bool dead] 141 (0,0)):=hj2
      rw [hg'] at this
      simp at this
  · exact hown b (.inr hb)
  · have:=hb.1;omega
 have hj3:=hj2.set 2 (.slice a' (L.length+1) c')
 have hrows3:RowsIn _ (w2.setCell ⟨jb,2,none⟩ (.slice a' (L.length+1) c')) 0 (.slice a' (L.length+1) c') (L ++ [l]):=hrows2.keep fun b hb _=>Below.heap_setCell _ ⟨jb,2,none⟩ _ b (hne2 b (by simpa using hb))
 have hnew:∀ b,(Value.slice a' (L.length+1) c').ownBlock=some b→(Value.slice aR L.length cR).ownBlock=some b∨w.heap.size≤b:=fun b hb=>by
  rcases hrows1.appended rfl (by omega) hap b hb with h | h
  · exact .inl h
  · exact .inr (by omega)
 have hz3:w1.heap.size≤(w2.setCell ⟨jb,2,none⟩ (.slice a' (L.length+1) c')).heap.size:=by have:=k2.size;simp at this ⊢;omega
 have hj3':JBlk (w2.setCell ⟨jb,2,none⟩ (.slice a' (L.length+1) c')) jb kd g (.slice a' (L.length+1) c') taken dead:=by simpa [JBlk] using hj3
 have ho3:Only (fun b=>b=jb∨(Value.slice aR L.length cR).ownBlock=some b) w (w2.setCell ⟨jb,2,none⟩ (.slice a' (L.length+1) c')):=ho2.setCell (.inl (.inl rfl)) _
 have Hj3:=Lib.hid hj3';have Hrows3:=Lib.hid hrows3;have Ho3:=Lib.hid ho3;have Hnew:=Lib.hid hnew;have Hne2:=Lib.hid hne2
 clear hj3 hj3' hrows3 ho3 hnew hne2 ho2 hrows2 hj2 hj1 hg2 hrows1 hby hr1 hb1
 go_simp
 refine canL_go rfl rfl (fun KK hK=>?_)
 go_simp
 refine hK _ _ ?_
 clear hK KK
 go_simp
 refine canL_go rfl rfl (fun KK hK=>?_)
 go_simp
 refine hK _ _ ?_
 clear hK KK
 go_simp
 repeat (refine canL_yes (v:=?_) rfl (wanted_none rfl) (fun w' hC=>?_) (fun K hK=>?_);rotate_left;(focus (go_simp;first | done | exact rfl));go_simp;refine hK _ ?_;clear hK K)
 refine canL_last rfl rfl rfl (fun KK hK=>?_)
 go_simp
 refine hK _ _ ?_
 clear hK KK
 go_simp
 refine canL_nil ?_
 clear hap k1 k2 c2 f2
 go_wp2_with fail
 generalize w2.setCell ⟨jb,2,none⟩ (.slice a' (L.length+1) c')=w3 at *
 have hj3:=Hj3.out
 have hjlt3:jb < w3.heap.size:=hj3.lt
 have q3:∀ w',Later w3.drew w'→w'.cell? ⟨jb,3,none⟩=some (.int .i64 (taken:Int)):=fun w' hh=>by simpa using (Blk.keep hj3 (w':=w') (hh.block jb hjlt3)).cell 3
 have c3:=hj3.drew.cell 3
 have f3:=hj3.drew.free 3
 simp at c3
 have hj4:=(hj3.set 3 (.int .i64 ((taken:Int)+(takes l.length:Int)))).drew
 have hrows4:RowsIn _ (w3.setCell ⟨jb,3,none⟩ (.int .i64 ((taken:Int)+(takes l.length:Int)))).drew 0 (.slice a' (L.length+1) c') (L ++ [l]):=Hrows3.out.keep fun b hb _=>by
  exact Below.heap_setCell _ ⟨jb,3,none⟩ _ b (Hne2.out b (by simpa using hb))
 have ho4:Only (fun b=>b=jb∨(Value.slice aR L.length cR).ownBlock=some b) w (w3.setCell ⟨jb,3,none⟩ (.int .i64 ((taken:Int)+(takes l.length:Int)))).drew:=(Ho3.out.setCell (.inl (.inl rfl)) _).drew
 have Hj4:=Lib.hid hj4;have Hrows4:=Lib.hid hrows4;have Ho4:=Lib.hid ho4
 clear hj4 hrows4 ho4 hj3
 have hw:=IntWalk.i64_in ((taken:Int)+(takes l.length:Int)) (by omega)
 refine wp_region_canL Later 10 [(0,true),(1,true),(2,true),(3,true),(4,true),(5,true),(6,false),(7,true),(8,true),(9,true),(10,false)] (by kernel_rfl) (by kernel_rfl) (by kernel_rfl) later_refl later_trans ?_
 repeat (refine canL_yes (v:=?_) rfl (wanted_none rfl) (fun w' hC=>?_) (fun K hK=>?_);rotate_left;(focus (go_simp;first | done | exact rfl));go_simp;refine hK _ ?_;clear hK K)
 refine canL_go rfl rfl (fun KK hK=>?_)
 go_simp
 refine (takes_any w3.drew l.length (by omega)).mono ?_
 rintro e w' ⟨rfl,rfl⟩
 refine ⟨_,rfl,later_refl _,hK _ _ ?_⟩
 clear hK KK
 go_simp
 repeat (refine canL_yes (v:=?_) rfl (wanted_none rfl) (fun w' hC=>?_) (fun K hK=>?_);rotate_left;(focus (go_simp;first | done | exact rfl));go_simp;refine hK _ ?_;clear hK K)
 refine canL_last rfl rfl rfl (fun KK hK=>?_)
 go_simp
 refine hK _ _ ?_
 clear hK KK
 go_simp
 refine canL_nil ?_
 go_wp2_with fail
 go_end0
 refine ⟨rfl,a',c',_,Hj4.out,Hrows4.out,Ho4.out,fun b hb=>?_⟩
 have hsz:(w3.setCell ⟨jb,3,none⟩ (.int .i64 ((taken:Int)+(takes l.length:Int)))).drew.heap.size=w3.heap.size:=by simp
 rcases hb with hb | hb | hb
 · refine ⟨?_,(Hrows4.out.own hb).2.1⟩
   rcases Hnew.out b hb with h | h
   · exact .inl (.inl h)
   · exact .inr h
 · exact ⟨.inl (.inr hb),by have:=(hown0 b (.inr hb)).2;rw [hsz];omega⟩
 · exact ⟨.inr hb.1,by have:=hb.2.1;rw [hsz];omega⟩
end Go.Proofs.YtobjdpngnfbicaaGreatDoor
