/-
  J4
-/
import Derived.Test.YtobjdpngnfbicaaGreatDoorZN22
namespace Go.Proofs.YtobjdpngnfbicaaGreatDoor
open Go.RowKit Go.Shelf
set_option linter.unusedVariables false
set_option maxRecDepth 20000
attribute [local go_sem] opC upC Oper.semAt_some
theorem writeAll_append (M:MD) (a b:List (Nat × List UInt8)):writeAll M (a ++ b)=if (writeAll M a).2=0 then writeAll (writeAll M a).1 b else writeAll M a:=by
 induction a generalizing M with
 | nil=>simp [writeAll]
 | cons x a ih=>
   obtain ⟨i,s⟩:=x
   simp only [List.cons_append,writeAll]
   split
   · exact ih _
   · rfl
theorem writeAll_snoc (M:MD) (a:List (Nat × List UInt8)) (i:Nat) (s:List UInt8) (h:(writeAll M a).2=0):writeAll M (a ++ [(i,s)])=(writeAll M a).1.wr i s:=by
 rw [writeAll_append,if_pos h]
 generalize (writeAll M a).1=N
 simp only [writeAll]
 generalize N.wr i s=r
 obtain ⟨x,y⟩:=r
 simp only
 split
 · rename_i h2;rw [h2]
 · rfl
theorem pieces_any (w:World) (g k:Nat) (v:Value) (l:List UInt8) (F:Blks) (hv:Bytes F w v l) (hq:Quarter w) (hF:∀ b,F b→b < w.heap.size) (h0:0 < w.heap.size):
 Calls Tryz.prog 148 #[.int .u32 (g:Int),.int .u32 (k:Int),v] w fun e w'=>e=.returned (.func (.func 197) #[] #[.pointer (some ⟨w.heap.size+2,0,none⟩),.pointer (some ⟨w.heap.size,0,none⟩),.pointer (some ⟨w.heap.size+1,0,none⟩)]) ∧
  PieceIn w' F (w.heap.size+2) w.heap.size (w.heap.size+1) g k v l∧Below w.heap.size w w'∧w'.heap.size=w.heap.size+3:=by
 have hb3:Below w.heap.size w (((w.alloc (.cells #[.int .u32 (g:Int)] 96)).alloc (.cells #[.int .u32 (k:Int)] 96)).alloc (.cells #[v] 41)):=(((Below.refl _ w).alloc (Nat.le_refl _) _).alloc (by simp) _).alloc (by simp;omega) _
 have hin:PieceIn (((w.alloc (.cells #[.int .u32 (g:Int)] 96)).alloc (.cells #[.int .u32 (k:Int)] 96)).alloc (.cells #[v] 41)) F (w.heap.size+2) w.heap.size (w.heap.size+1) g k v l:=by
  have b1:=Blk.new w #[.int .u32 (g:Int)] 96
  have b2:=Blk.new (w.alloc (.cells #[.int .u32 (g:Int)] 96)) #[.int .u32 (k:Int)] 96
  have b3:=Blk.new ((w.alloc (.cells #[.int .u32 (g:Int)] 96)).alloc (.cells #[.int .u32 (k:Int)] 96)) #[v] 41
  simp only [World.size_alloc] at b2 b3
  refine ⟨by simpa using b3.cell 0,by simpa using ((b1.alloc _).alloc _).cell 0,by simpa using (b2.alloc _).cell 0,hv.keep fun b hb _=>hb3.block b (hF b hb),hq.keep (hb3.block 0 h0)⟩
 have Hin:=Lib.hid hin;clear hin
 obtain ⟨a,cap,rfl,-⟩:=hv
 go_enter Tryz.func148,Tryz.ntmps148
 go_wp2_with fail
 go_ret
 exact ⟨rfl,Hin.out,hb3,by simp⟩
theorem keeps_of_only {F:Blks} {W W':World} (ho:Only F W W') (hc:∀ b,F b→∃ o:Obj,W.heap[b]?=some o∧o.isCells=true):KeepsOthers W W':=
 ⟨ho.size,fun k o hk hn=>by
  rw [ho.block k (Array.getElem?_eq_some_iff.1 hk).1 (fun hF=>by
   obtain ⟨o',ho',hc'⟩:=hc k hF
   rw [hk] at ho'
   cases ho'
   rw [hn] at hc'
   cases hc')]
  exact hk⟩
theorem Blk.isCells {w:World} {b:Nat} {L:List Value} {t:TypeId} (h:Blk w b L t):∃ o:Obj,w.heap[b]?=some o∧o.isCells=true:=⟨_,h,rfl⟩
theorem DiskAt.isCells {w:World} {K:DK} {M:MD} (h:DiskAt w K M):∀ b,K.foot b→∃ o:Obj,w.heap[b]?=some o∧o.isCells=true:=by
 obtain ⟨h1,h2,⟨cap,hc,hcm,h3⟩,⟨L,h4,h5⟩,h6,h7⟩:=h
 rintro b (rfl | rfl | rfl)
 · exact h3.isCells
 · exact h4.isCells
 · cases hf:M.fault with
   | none=>rw [h6 hf];exact h3.isCells
   | some p=>exact (h7 p.1 p.2 (by rw [hf])).2.2.isCells
theorem Blk.grown {w w':World} {b:Nat} {L:List Value} {t:TypeId} {row:Option Nat} (h:Blk w b L t) (hg:w.grownBy w' row) (hr:∀ r,row=some r→∃ o:Obj,w.heap[r]?=some o∧o.isCells=false):Blk w' b L t:=
 h.keep (grownBy_keeps_cells hg hr h rfl)
theorem DiskAt.grown {w w':World} {K:DK} {M:MD} {row:Option Nat} (h:DiskAt w K M) (hg:w.grownBy w' row) (hr:∀ r,row=some r→∃ o:Obj,w.heap[r]?=some o∧o.isCells=false):DiskAt w' K M:=
 h.keep fun b hb=>by
  obtain ⟨o,ho,hc⟩:=h.isCells b hb
  exact grownBy_keeps_cells hg hr ho hc
theorem Only.grown {F:Blks} {a w w':World} {row:Option Nat} (h:Only F a w) (hg:w.grownBy w' row) (hr:∀ r,row=some r→a.heap.size≤r):Only F a w':=
 ⟨hg.os.trans h.os,hg.tape.trans h.tape,hg.output.trans h.output,Nat.le_trans h.size hg.size,fun k hk hf=>(hg.block k (Nat.lt_of_lt_of_le hk h.size) (fun e=>by have:=hr k e.symm;omega)).trans (h.block k hk hf)⟩
def StoreI (w1:World) (K:DK) (M:MD) (jb g0 taken:Nat) (rv:Value) (b0 g p:Nat) (ws:List (Nat × List UInt8)) (pre:List (Nat × Nat)) (W:World):Prop:=
 ∃ K' M',K'.d=K.d∧(∀ b,K'.foot b→K.foot b)∧DiskAt W K' M'∧writeAll M (ws.take pre.length)=(M',0)∧JBlk W jb K.d g0 rv taken false ∧
   Blk W b0 [.pointer (some ⟨jb,0,none⟩)] 89∧Blk W (b0+1) [.int .u32 (g:Int)] 96∧Blk W (b0+2) [.int .i64 (p:Int)] 3∧Blk W (b0+3) [.int .i64 0] 26 ∧
   Only (jFoot K jb) w1 W∧M'.S.length=M.S.length∧M'.writes≤M.writes+pre.length
def StoreE (w1:World) (K:DK) (M:MD) (jb g0 taken:Nat) (rv:Value) (b0:Nat) (ws:List (Nat × List UInt8)) (pre:List (Nat × Nat)) (W:World):Prop:=
 ∃ K' M' r,K'.d=K.d∧(∀ b,K'.foot b→K.foot b)∧DiskAt W K' M'∧writeAll M (ws.take pre.length)=(M',r)∧r≠0∧JBlk W jb K.d g0 rv taken true∧Blk W (b0+3) [.int .i64 r] 26 ∧
   Only (fun b=>jFoot K jb b∨b=b0+3) w1 W
theorem storeI_own {w1:World} {K:DK} {M:MD} {jb g0 taken:Nat} {rv:Value} {b0 g p:Nat} {ws:List (Nat × List UInt8)} (B0:Nat) (hB:w1.heap.size≤B0):OwnFrom B0 (StoreI w1 K M jb g0 taken rv b0 g p ws):=by
 rintro pre W W' row ⟨K',M',h1,h2,h3,h4,h5,h6,h7,h8,h9,h10,h11⟩ hg hr
 have hr':∀ r,row=some r→∃ o:Obj,W.heap[r]?=some o∧o.isCells=false:=fun r e=>(hr r e).2
 exact ⟨K',M',h1,h2,h3.grown hg hr',h4,Blk.grown h5 hg hr',h6.grown hg hr',h7.grown hg hr',h8.grown hg hr',h9.grown hg hr',h10.grown hg (fun r e=>Nat.le_trans hB (hr r e).1),h11⟩
theorem storeE_own {w1:World} {K:DK} {M:MD} {jb g0 taken:Nat} {rv:Value} {b0:Nat} {ws:List (Nat × List UInt8)} (B0:Nat) (hB:w1.heap.size≤B0):OwnFrom B0 (StoreE w1 K M jb g0 taken rv b0 ws):=by
 rintro pre W W' row ⟨K',M',r,h1,h2,h3,h4,h5,h6,h7,h8⟩ hg hr
 have hr':∀ r,row=some r→∃ o:Obj,W.heap[r]?=some o∧o.isCells=false:=fun r e=>(hr r e).2
 exact ⟨K',M',r,h1,h2,h3.grown hg hr',h4,h5,Blk.grown h6 hg hr',h7.grown hg hr',h8.grown hg (fun r e=>Nat.le_trans hB (hr r e).1)⟩
theorem ws_length (n g k p:Nat) (l:List UInt8):(pieceWrites n g k p l).length=takes l.length:=by simp [pieceWrites]
theorem ws_take (n g k p:Nat) (l:List UInt8) (i:Nat) (h:i < takes l.length):(pieceWrites n g k p l).take (i+1)=(pieceWrites n g k p l).take i ++ [(placeN n g (p+i),pieceB g k l i)]:=by
 rw [List.take_succ_eq_append_getElem (by rw [ws_length];exact h)]
 congr 1
 simp [pieceWrites]
theorem writeAll_fail (M M':MD) (r:Int) (ws:List (Nat × List UInt8)) (t:Nat) (h:writeAll M (ws.take t)=(M',r)) (hr:r≠0):writeAll M ws=(M',r):=by
 have:=writeAll_append M (ws.take t) (ws.drop t)
 rw [List.take_append_drop,h,if_neg hr] at this
 exact this
set_option maxHeartbeats 4000000 in
set_option maxRecDepth 100000 in
theorem store_any (w:World) (jb kd g0 taken:Nat) (rv:Value) (K:DK) (M:MD) (g k p:Nat) (v:Value) (l:List UInt8) (F:Blks) (hv:Bytes F w v l) (hF:∀ b,F b→b < w.heap.size∧¬ jFoot K jb b) (h00:¬ jFoot K jb 0) (hj:JBlk w jb kd g0 rv taken false) (hd:DiskAt w K M) (hK:K.d=kd) (hjK:¬ K.foot jb) (hq:Quarter w)
 (hg:g < 4294967296) (hk:k < 65536) (hl:l.length≤65536) (h2:2≤M.S.length) (hp:p+takes l.length≤halfN M.S.length) (hw:M.writes+takes l.length < 4611686018427387904):
 Calls Tryz.prog 90 #[.pointer (some ⟨jb,0,none⟩),.int .u32 (g:Int),.int .i64 (k:Int),.int .i64 (p:Int),v] w fun e w'=>
  e=.returned (.int .i64 (writeAll M (pieceWrites M.S.length g k p l)).2)∧(∃ K',K'.d=kd∧(∀ b,K'.foot b→K.foot b)∧DiskAt w' K' (writeAll M (pieceWrites M.S.length g k p l)).1) ∧
  JBlk w' jb kd g0 rv taken (!decide ((writeAll M (pieceWrites M.S.length g k p l)).2=0))∧Only (jFoot K jb) w w':=by
 subst hK
 obtain ⟨ws,hws⟩:∃ ws,ws=pieceWrites M.S.length g k p l:=⟨_,rfl⟩
 rw [←hws]
 have Hws:=Lib.hid hws;clear hws
 have hv0:=hv
 obtain ⟨a,cap,rfl,hcp,hcm,-,-⟩:=hv
 have hle:=hd.le
 have hH:halfN M.S.length≤65536:=by unfold halfN;omega
 have htp:=takes_pos l.length
 refine (callsIn_wide (n:=2)).1 ?_
 refine callsIn_of_wp_marks Tryz.func90 rfl trivial ?_ rfl
 simp only [Tryz.ntmps90,List.size_toArray,List.length_cons,List.length_nil,Nat.reduceAdd,Nat.reduceSub,Array.replicate_succ,Array.replicate_zero,List.push_toArray,List.append_toArray,List.nil_append,List.cons_append]
 obtain ⟨w1,hw1⟩:∃ w1,w1=((((w.alloc (.cells #[.pointer (some ⟨jb,0,none⟩)] 89)).alloc (.cells #[.int .u32 (g:Int)] 96)).alloc (.cells #[.int .i64 (p:Int)] 3)).alloc (.cells #[.int .i64 0] 26)):=⟨_,rfl⟩
 have hk1:Below w.heap.size w w1:=by rw [hw1];exact ((((Below.refl _ w).alloc (Nat.le_refl _) _).alloc (by simp) _).alloc (by simp;omega) _).alloc (by simp;omega) _
 have hz1:w1.heap.size=w.heap.size+4:=by rw [hw1];simp
 have hlt0:=hj.lt
 have hltd:=hd.lt
 have hboxes:Blk w1 w.heap.size [.pointer (some ⟨jb,0,none⟩)] 89∧Blk w1 (w.heap.size+1) [.int .u32 (g:Int)] 96∧Blk w1 (w.heap.size+2) [.int .i64 (p:Int)] 3∧Blk w1 (w.heap.size+3) [.int .i64 0] 26:=by
  rw [hw1]
  have b1:=Blk.new w #[.pointer (some ⟨jb,0,none⟩)] 89
  have b2:=Blk.new (w.alloc (.cells #[.pointer (some ⟨jb,0,none⟩)] 89)) #[.int .u32 (g:Int)] 96
  have b3:=Blk.new ((w.alloc (.cells #[.pointer (some ⟨jb,0,none⟩)] 89)).alloc (.cells #[.int .u32 (g:Int)] 96)) #[.int .i64 (p:Int)] 3
  have b4:=Blk.new (((w.alloc (.cells #[.pointer (some ⟨jb,0,none⟩)] 89)).alloc (.cells #[.int .u32 (g:Int)] 96)).alloc (.cells #[.int .i64 (p:Int)] 3)) #[.int .i64 0] 26
  simp only [World.size_alloc] at b2 b3 b4
  exact ⟨((b1.alloc _).alloc _).alloc _,(b2.alloc _).alloc _,b3.alloc _,b4⟩
 gi_wp2_with fail
 rw [←hw1]
 have Hw1:=Lib.hid hw1;clear hw1
 refine ⟨trivial,callsIn_wide.2 ((pieces_any w1 g k _ l F (hv0.keep fun b hb _=>hk1.block b (hF b hb).1) (hq.keep (hk1.block 0 (by omega))) (fun b hb=>by have:=(hF b hb).1;omega) (by omega)).mono ?_)⟩
 rintro e w2 ⟨rfl,hin,hb2,hz2⟩
 have hk2:=hk1.trans (hb2.mono (by omega))
 have hd2:DiskAt w2 K M:=hd.keep fun b hb=>hk2.block b (hltd b hb)
 have hj2:JBlk w2 jb K.d g0 rv taken false:=hj.keep (hk2.block jb hlt0)
 obtain ⟨x1,x2,x3,x4⟩:=hboxes
 have y1:=x1.keep (hb2.block _ (by omega))
 have y2:=x2.keep (hb2.block _ (by omega))
 have y3:=x3.keep (hb2.block _ (by omega))
 have y4:=x4.keep (hb2.block _ (by omega))
 have hjF:∀ b,jFoot K jb b→b < w.heap.size:=fun b hb=>by
  rcases hb with hb | rfl
  · exact hltd b hb
  · exact hlt0
 clear x1 x2 x3 x4 hv0
 rw [hz1] at hin
 gi_wp2_with fail
 refine range_known (n:=0) rfl (enters_of Tryz.func197 (by kernel_rfl) rfl)
  (pieces_seq w2 F (jFoot K jb) _ _ _ g k _ l hin (fun b hb=>by
   rcases hb with rfl | rfl | rfl | rfl | hb
   · exact ⟨by omega,fun h=>by have:=hjF _ h;omega⟩
   · exact ⟨by omega,fun h=>by have:=hjF _ h;omega⟩
   · exact ⟨by omega,fun h=>by have:=hjF _ h;omega⟩
   · exact ⟨by omega,h00⟩
   · exact ⟨by have:=(hF b hb).1;omega,(hF b hb).2⟩) hl hg (by omega))
  (fun _=>rfl) (fun pre x W lo o o' hlo ho hc hG=>⟨hG.1,hG.2.1,⟨hG.2.2.1.1.keep (World.putObj_heap_other (fun e=>by
   have h1:W.heap[x.2]?=some (.cells ((pieceB g k l x.1).map B).toArray 137 (0,0)):=hG.2.2.1.1
   rw [e,ho] at h1
   cases h1
   cases hc)),hG.2.2.1.2⟩,hG.2.2.2⟩)
  (fun {A Bw C} h1 h2=>h1.trans h2) (fun W lo o o' hlo ho hc=>KeepsB.put W lo o' hlo)
  (StoreI w2 K M jb g0 taken rv w.heap.size g p ws) (StoreE w2 K M jb g0 taken rv w.heap.size ws) (storeI_own _ (Nat.le_refl _)) (storeE_own _ (Nat.le_refl _))
  ⟨K,M,rfl,fun _ h=>h,hd2,rfl,hj2,y1,y2,y3,y4,Only.refl _ _,rfl,by omega⟩
  (fun x=>{ tmps:=#[.pointer (some ⟨jb,0,none⟩),.int .u32 (g:Int),.int .i64 (k:Int),.int .i64 (p:Int),.slice a l.length cap,.pointer (some ⟨w.heap.size,0,none⟩),.pointer (some ⟨w.heap.size+1,0,none⟩),undef,.pointer (some ⟨w.heap.size+1+1,0,none⟩),undef,.pointer (some ⟨w.heap.size+1+1+1,0,none⟩),.int .i64 (x.1:Int),.pointer (some ⟨x.2,0,none⟩),undef,.int .u32 (g:Int),.int .i64 (k:Int),.int .u32 (k:Int),.slice a l.length cap,
   .func (.func 197) #[] #[.pointer (some ⟨w.heap.size+4+2,0,none⟩),.pointer (some ⟨w.heap.size+4,0,none⟩),.pointer (some ⟨w.heap.size+4+1,0,none⟩)],.int .i64 (x.1:Int),.pointer (some ⟨x.2,0,none⟩),undef,undef,undef,undef,undef,undef,undef,undef,undef,undef,undef,undef],defers:=[] }) ?assign ?body ?done ?stop
 case assign=>
  intro lo x W Kx hKx
  gi_wp2
  exact hKx
 case body=>
  rintro lo pre ⟨m,sb⟩ W ⟨K',M',hKd,hKf,hdW,hwa,hjW,z1,z2,z3,z4,hoW,hlen,hwr⟩ ⟨hm,hmt,hsec,hsb⟩
  dsimp only at hm hmt hsec hsb
  subst hm
  have hpl:placeN M.S.length g (p+pre.length) < M'.S.length:=by
   rw [hlen]
   unfold placeN halfN at *
   rcases (show g % 2=0∨g % 2=1 by omega) with h | h <;> rw [h] <;> omega
  have hjF':∀ b,jFoot K' jb b→b < w.heap.size:=fun b hb=>hjF b (hb.imp (hKf b) id)
  have hsbn:¬ jFoot K' jb sb:=fun h=>by have:=hjF' sb h;omega
  have q5:∀ w',LaterF (jFoot K' jb) W.drew w'→w'.cell? ⟨w.heap.size,0,none⟩=some (.pointer (some ⟨jb,0,none⟩)):=fun w' hh=>by simpa using (z1.keep (w':=w') (hh.block _ z1.lt (fun h=>by have:=hjF' _ h;omega))).cell 0
  have q6:∀ w',LaterF (jFoot K' jb) W.drew w'→w'.cell? ⟨w.heap.size+1,0,none⟩=some (.int .u32 (g:Int)):=fun w' hh=>by simpa using (z2.keep (w':=w') (hh.block _ z2.lt (fun h=>by have:=hjF' _ h;omega))).cell 0
  have q8:∀ w',LaterF (jFoot K' jb) W.drew w'→w'.cell? ⟨w.heap.size+2,0,none⟩=some (.int .i64 (p:Int)):=fun w' hh=>by simpa using (z3.keep (w':=w') (hh.block _ z3.lt (fun h=>by have:=hjF' _ h;omega))).cell 0
  have hplace:=place_any W.drew jb K.d g0 rv taken false K' M' hjW.drew (hdW.keep (w':=W.drew) fun _ _=>rfl) hKd (by omega) g (p+pre.length) (by omega)
  have hwrite:=jwrite_any W.drew jb K.d g0 rv taken false K' M' hjW.drew (hdW.keep (w':=W.drew) fun _ _=>rfl) hKd (fun h=>hjK (hKf _ h)) (placeN M.S.length g (p+pre.length)) hpl (by omega) sb _ ⟨hsec.1.drew,hsec.2⟩ (fun h=>hsbn (.inl h))
  rw [hlen] at hplace
  have hsnoc:=writeAll_snoc M (ws.take pre.length) (placeN M.S.length g (p+pre.length)) (pieceB g k l pre.length) (by rw [hwa])
  rw [hwa] at hsnoc
  have hws:=Hws.out
  have htk:=ws_take M.S.length g k p l pre.length hmt
  rw [←hws] at htk
  rw [←htk] at hsnoc
  generalize placeN M.S.length g (p+pre.length)=at_ at *
  have hpI:((p+pre.length:Nat):Int)=(p:Int)+(pre.length:Int):=by omega
  rw [hpI] at hplace
  have hw8:=IntWalk.i64_in ((p:Int)+(pre.length:Int)) (by omega)
  have Hplace:=Lib.hid hplace;have Hwrite:=Lib.hid hwrite;have Hsnoc:=Lib.hid hsnoc
  clear hplace hwrite hsnoc htk hws hwa hpI
  gi_wp2_with fail
  refine wpIn_region_can (LaterF (jFoot K' jb)) [(0,true),(1,true),(2,true),(3,true),(4,true),(5,true),(7,true),(6,false),(8,false),(9,true)] (by kernel_rfl) (by kernel_rfl) (by kernel_rfl) (laterF_refl _) (laterF_trans _) ?_
  repeat (refine can_yes (v:=?_) rfl (wanted_none rfl) (fun w' hC=>?_) (fun K hK=>?_);rotate_left;(focus (go_simp;first | done | exact rfl));go_simp;refine hK _ ?_;clear hK K)
  refine can_go rfl rfl (fun KK hK=>?_)
  go_simp
  refine Hplace.out.mono ?_
  rintro e w' ⟨rfl,rfl⟩
  refine ⟨_,rfl,laterF_refl _ _,hK _ _ ?_⟩
  clear hK KK
  go_simp
  repeat (refine can_yes (v:=?_) rfl (wanted_none rfl) (fun w' hC=>?_) (fun K hK=>?_);rotate_left;(focus (go_simp;first | done | exact rfl));go_simp;refine hK _ ?_;clear hK K)
  refine can_go rfl rfl (fun KK hK=>?_)
  go_simp
  refine Hwrite.out.mono ?_
  rintro e w3 ⟨rfl,⟨K3,hK3,hKf3,hd3⟩,hj3,ho3,hs3⟩
  refine ⟨_,rfl,ho3,hK _ _ ?_⟩
  clear hK KK q5 q6 q8
  go_simp
  repeat (refine can_yes (v:=?_) rfl (wanted_none rfl) (fun w' hC=>?_) (fun K hK=>?_);rotate_left;(focus (go_simp;first | done | exact rfl));go_simp;refine hK _ ?_;clear hK K)
  refine can_nil ?_
  have ho3':Only (jFoot K' jb) W w3:=⟨ho3.os,ho3.tape,ho3.output,ho3.size,ho3.block⟩
  have hsn:=Hsnoc.out
  have hwl:=wr_len M' at_ (pieceB g k l pre.length)
  generalize hmw:M'.wr at_ (pieceB g k l pre.length)=mw at *
  obtain ⟨M3,r⟩:=mw
  dsimp only at hd3 hj3 hwl
  dsimp only
  have hko:KeepsOthers W w3:=keeps_of_only ho3' (fun b hb=>by
   rcases hb with hb | rfl
   · exact hdW.isCells b hb
   · exact Blk.isCells hjW)
  have u1:=z1.keep (ho3'.block _ z1.lt (fun h=>by have:=hjF' _ h;omega))
  have u2:=z2.keep (ho3'.block _ z2.lt (fun h=>by have:=hjF' _ h;omega))
  have u3:=z3.keep (ho3'.block _ z3.lt (fun h=>by have:=hjF' _ h;omega))
  have u4:=z4.keep (ho3'.block _ z4.lt (fun h=>by have:=hjF' _ h;omega))
  have honly:Only (jFoot K jb) w2 w3:=hoW.trans ho3' (fun i hi=>.inl (hi.imp (hKf i) id))
  have hszW:w2.heap.size≤W.heap.size:=hoW.size
  by_cases hr:r=0
  · subst hr
    have hI3:StoreI w2 K M jb g0 taken rv w.heap.size g p ws (pre ++ [(pre.length,sb)]) w3:=⟨K3,M3,hK3,fun b hb=>hKf b (hKf3 b hb),hd3,by simpa using hsn,by simpa using hj3,u1,u2,u3,u4,honly,by omega,by simp;omega⟩
    have HI3:=Lib.hid hI3
    clear hI3 hsn hj3 hd3 u1 u2 u3 u4 z1 z2 z3 z4 hmw Hsnoc Hwrite Hplace hdW hjW hoW
    gi_wp2_with fail
    exact ⟨hko,KeepsB.of_only (ho3'.mono fun b hb=>hb.imp (hKf b) id) hszW,HI3.out⟩
  · have hrb:(r != 0)=true:=bne_iff_ne.2 hr
    have c4:=u4.cell 0
    have f4:=u4.free 0
    simp at c4
    have u5:=u4.set 0 (.int .i64 r)
    have hj5:JBlk (w3.setCell ⟨w.heap.size+3,0,none⟩ (.int .i64 r)) jb K.d g0 rv taken true:=by
     have:=Blk.set_other hj3 (a:=⟨w.heap.size+3,0,none⟩) (.int .i64 r) (show jb≠w.heap.size+3 by omega)
     simpa [hr,JBlk] using this
    have hd5:DiskAt (w3.setCell ⟨w.heap.size+3,0,none⟩ (.int .i64 r)) K3 M3:=hd3.keep fun b hb=>Below.heap_setCell _ ⟨w.heap.size+3,0,none⟩ _ b (by have:=hltd b (hKf b (hKf3 b hb));show b≠w.heap.size+3;omega)
    have hE5:StoreE w2 K M jb g0 taken rv w.heap.size ws (pre ++ [(pre.length,sb)]) (w3.setCell ⟨w.heap.size+3,0,none⟩ (.int .i64 r)):=⟨K3,M3,r,hK3,fun b hb=>hKf b (hKf3 b hb),hd5,by simpa using hsn,hr,hj5,by simpa using u5,(honly.mono fun b hb=>.inl hb).setCell (.inl (.inr rfl)) _⟩
    have HE5:=Lib.hid hE5
    clear hE5 hsn hj3 hd3 hj5 hd5 u1 u2 u3 u5 z1 z2 z3 z4 hmw Hsnoc Hwrite Hplace hdW hjW hoW
    gi_wp2_with fail
    exact ⟨hko.trans (KeepsOthers.setCell _ _ _),HE5.out⟩
 case done=>
  rintro D xs W hD hS ⟨K',M',hKd,hKf,hdW,hwa,hjW,z1,z2,z3,z4,hoW,hlen,hwr⟩ hdef
  have hall:writeAll M ws=(M',0):=by
   rw [←hwa,List.take_of_length_le (by rw [Hws.out,ws_length];omega)]
  have c4:=z4.cell 0
  have f4:=z4.free 0
  simp at c4
  have hdW':=hltd
  have v4:=z4.set 0 (.int .i64 0)
  have hdef2:(W.setCell ⟨w.heap.size+3,0,none⟩ (.int .i64 0)).heap[D]?=some (.deferred (some [])):=by rw [Below.heap_setCell _ ⟨w.heap.size+3,0,none⟩ _ D (by show D≠w.heap.size+3;omega)];exact hdef
  have hoth:∀ b,b < w2.heap.size→b≠w.heap.size+3→((W.setCell ⟨w.heap.size+3,0,none⟩ (.int .i64 0)).putObj D (.deferred none)).heap[b]?=W.heap[b]?:=fun b hb hne=>by
   rw [World.putObj_heap_other (by omega),Below.heap_setCell _ ⟨w.heap.size+3,0,none⟩ _ b hne]
  have hdF:DiskAt ((W.setCell ⟨w.heap.size+3,0,none⟩ (.int .i64 0)).putObj D (.deferred none)) K' M':=hdW.keep fun b hb=>hoth b (by have:=hltd b (hKf b hb);omega) (by have:=hltd b (hKf b hb);omega)
  have hjF2:JBlk ((W.setCell ⟨w.heap.size+3,0,none⟩ (.int .i64 0)).putObj D (.deferred none)) jb K.d g0 rv taken false:=hjW.keep (hoth jb (by omega) (by omega))
  have hoF:Only (jFoot K jb) w ((W.setCell ⟨w.heap.size+3,0,none⟩ (.int .i64 0)).putObj D (.deferred none)):=by
   have h1:Only (jFoot K jb) w W:=(Only.of_below hk2).trans hoW (fun i hi=>.inl hi)
   have h2:=h1.setCell (p:=⟨w.heap.size+3,0,none⟩) (.inr (by show w.heap.size≤w.heap.size+3;omega)) (.int .i64 0)
   exact h2.grown (grownBy_putObj' _ D (.deferred none)) (fun r e=>by cases e;omega)
  have hcF:((W.setCell ⟨w.heap.size+3,0,none⟩ (.int .i64 0)).putObj D (.deferred none)).cell? ⟨w.heap.size+3,0,none⟩=some (.int .i64 0):=by
   have:=v4.keep (w':=(W.setCell ⟨w.heap.size+3,0,none⟩ (.int .i64 0)).putObj D (.deferred none)) (World.putObj_heap_other (by omega))
   simpa using this.cell 0
  have HF:=Lib.hid hdF;have HJ:=Lib.hid hjF2;have HO:=Lib.hid hoF;have Hall:=Lib.hid hall;have HC:=Lib.hid hcF;have Hdef:=Lib.hid hdef2
  clear hdF hjF2 hoF hall hcF hdef2 v4 z1 z2 z3 z4 hdW hjW hoW hoth hwa hdef
  gi_wp2_with fail
  refine ⟨by simp,.inl ⟨_,_,rfl,run_takeDeferred Hdef.out,?_⟩⟩
  have hcF:=HC.out
  refine ⟨.int .i64 0,?_,?_⟩
  · simp [results,Tryz.f90,go_sem,hcF]
  · rw [Hall.out]
    exact ⟨rfl,⟨K',hKd,hKf,HF.out⟩,HJ.out,HO.out⟩
 case stop=>
  rintro D pre W hD - ⟨K',M',r,hKd,hKf,hdW,hwa,hr,hjW,z4,hoW⟩ hdef
  have hall:=writeAll_fail M M' r ws _ hwa hr
  have hoth:∀ b,b < w2.heap.size→(W.putObj D (.deferred none)).heap[b]?=W.heap[b]?:=fun b hb=>World.putObj_heap_other (by omega)
  have hdF:DiskAt (W.putObj D (.deferred none)) K' M':=hdW.keep fun b hb=>hoth b (by have:=hltd b (hKf b hb);omega)
  have hjF2:JBlk (W.putObj D (.deferred none)) jb K.d g0 rv taken true:=hjW.keep (hoth jb (by omega))
  have hoF:Only (jFoot K jb) w (W.putObj D (.deferred none)):=by
   have h1:Only (jFoot K jb) w W:=(Only.of_below hk2).trans hoW (fun i hi=>hi.imp id (fun h=>by omega))
   exact h1.grown (grownBy_putObj' _ D (.deferred none)) (fun r e=>by cases e;omega)
  have hcF:(W.putObj D (.deferred none)).cell? ⟨w.heap.size+3,0,none⟩=some (.int .i64 r):=by
   have:=z4.keep (w':=W.putObj D (.deferred none)) (hoth _ (by omega))
   simpa using this.cell 0
  have HF:=Lib.hid hdF;have HJ:=Lib.hid hjF2;have HO:=Lib.hid hoF;have Hall:=Lib.hid hall;have HC:=Lib.hid hcF;have Hdef:=Lib.hid hdef
  clear hdF hjF2 hoF hall hcF hdef z4 hdW hjW hoW hoth hwa
  gi_wp2_with fail
  refine ⟨by simp,.inl ⟨_,_,rfl,run_takeDeferred Hdef.out,?_⟩⟩
  have hcF:=HC.out
  refine ⟨.int .i64 r,?_,?_⟩
  · simp [results,Tryz.f90,go_sem,hcF]
  · rw [Hall.out]
    exact ⟨rfl,⟨K',hKd,hKf,HF.out⟩,by simpa [hr] using HJ.out,HO.out⟩
end Go.Proofs.YtobjdpngnfbicaaGreatDoor
