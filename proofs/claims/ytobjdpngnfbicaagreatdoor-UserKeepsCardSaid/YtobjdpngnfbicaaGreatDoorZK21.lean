/-
  J4 BRows J5
-/
import Derived.Test.YtobjdpngnfbicaaGreatDoorZK20
import Derived.Test.YtobjdpngnfbicaaGreatDoorZK03
import Derived.Test.YtobjdpngnfbicaaGreatDoorZK18
open Go.Lib renaming hid->ae
open Go.IntWalk renaming i64_in->af
open Nat renaming le_refl->aq,le_trans->au,lt_of_lt_of_le->aw
open List renaming length_cons->aB
open Go.Proofs.Tryz renaming prog->aC
namespace Go.Proofs.YtobjdpngnfbicaaGreatDoor
open Go.RowKit
set_option linter.unusedVariables false
set_option maxRecDepth 20000
section
open Go.Shelf
attribute [local go_sem] opC upC Oper.semAt_some
theorem fo (M:MD) (a b:List (Nat × List UInt8)):aY M (a ++ b)=if (aY M a).2=0 then aY (aY M a).1 b else aY M a:=by
 induction a generalizing M with
 | nil=>simp[aY]
 | cons x a ih=>
   obtain⟨i,s⟩:=x;simp only[List.cons_append,aY];split
   ·exact ih _
   ·rfl
theorem e7 (M:MD) (a:List (Nat × List UInt8)) (i:Nat) (s:List UInt8) (h:(aY M a).2=0):aY M (a ++ [(i,s)])=(aY M a).1.wr i s:=by
 rw[fo,if_pos h];generalize (aY M a).1=N;simp only[aY];generalize N.wr i s=r;obtain⟨x,y⟩:=r;simp only;split
 ·rename_i h2;rw[h2]
 ·rfl
theorem oU (w:World) (g k:Nat) (v:Value) (l:List UInt8) (F:aV) (hv:Bytes F w v l) (hq:bQ w) (hF:∀ b,F b -> b < w.heap.size) (h0:0 < w.heap.size):
 Calls aC 148 #[.int .u32 (g:Int),.int .u32 (k:Int),v] w fun e w'=>e=.returned (.func (.func 197) #[] #[.pointer (some ⟨w.heap.size+2,0,none⟩),.pointer (some ⟨w.heap.size,0,none⟩),.pointer (some ⟨w.heap.size+1,0,none⟩)]) /\
  dE w' F (w.heap.size+2) w.heap.size (w.heap.size+1) g k v l /\ Below w.heap.size w w' /\ w'.heap.size=w.heap.size+3:=by
 have hb3:Below w.heap.size w (((w.alloc (.cells #[.int .u32 (g:Int)] 96)).alloc (.cells #[.int .u32 (k:Int)] 96)).alloc (.cells #[v] 41)):=(((Below.refl _ w).alloc (aq _) _).alloc (by simp) _).alloc (by simp;omega) _
 have hin:dE (((w.alloc (.cells #[.int .u32 (g:Int)] 96)).alloc (.cells #[.int .u32 (k:Int)] 96)).alloc (.cells #[v] 41)) F (w.heap.size+2) w.heap.size (w.heap.size+1) g k v l:=by
  have b1:=Blk.new w #[.int .u32 (g:Int)] 96;have b2:=Blk.new (w.alloc (.cells #[.int .u32 (g:Int)] 96)) #[.int .u32 (k:Int)] 96;have b3:=Blk.new ((w.alloc (.cells #[.int .u32 (g:Int)] 96)).alloc (.cells #[.int .u32 (k:Int)] 96)) #[v] 41;simp only[World.size_alloc] at b2 b3;refine⟨by simpa using b3.cell 0,by simpa using ((b1.alloc _).alloc _).cell 0,by simpa using (b2.alloc _).cell 0,hv.keep fun b hb _=>hb3.block b (hF b hb),hq.keep (hb3.block 0 h0)⟩
 have Hin:=ae hin;clear hin;obtain⟨a,cap,rfl,-⟩:=hv
 go_enter Tryz.func148,Tryz.ntmps148
 go_wp2_with fail
 go_ret
 exact⟨rfl,Hin.out,hb3,by simp⟩
theorem lc {F:aV} {W W':World} (ho:aK F W W') (hc:∀ b,F b -> ∃ o:Obj,W.heap[b]?=some o /\ o.isCells=true):KeepsOthers W W':=
 ⟨ho.size,fun k o hk hn=>by
  rw[ho.block k (Array.getElem?_eq_some_iff.1 hk).1 (fun hF=>by
   obtain⟨o',ho',hc'⟩:=hc k hF;rw[hk] at ho';cases ho';rw[hn] at hc'
   cases hc')]
  exact hk⟩
theorem Blk.isCells {w:World} {b:Nat} {L:List Value} {t:TypeId} (h:Blk w b L t):∃ o:Obj,w.heap[b]?=some o /\ o.isCells=true:=⟨_,h,rfl⟩
theorem bj.isCells {w:World} {K:DK} {M:MD} (h:bj w K M):∀ b,K.foot b -> ∃ o:Obj,w.heap[b]?=some o /\ o.isCells=true:=by
 obtain⟨h1,h2,⟨cap,hc,hcm,h3⟩,⟨L,h4,h5⟩,h6,h7⟩:=h;rintro b (rfl | rfl | rfl)
 ·exact h3.isCells
 ·exact h4.isCells
 ·cases hf:M.fault with
  | none=>rw[h6 hf];exact h3.isCells
  | some p=>exact(h7 p.1 p.2 (by rw[hf])).2.2.isCells
theorem Blk.grown {w w':World} {b:Nat} {L:List Value} {t:TypeId} {row:Option Nat} (h:Blk w b L t) (hg:w.grownBy w' row) (hr:∀ r,row=some r -> ∃ o:Obj,w.heap[r]?=some o /\ o.isCells=false):Blk w' b L t:=
 h.keep (grownBy_keeps_cells hg hr h rfl)
theorem bj.grown {w w':World} {K:DK} {M:MD} {row:Option Nat} (h:bj w K M) (hg:w.grownBy w' row) (hr:∀ r,row=some r -> ∃ o:Obj,w.heap[r]?=some o /\ o.isCells=false):bj w' K M:=
 h.keep fun b hb=>by
  obtain⟨o,ho,hc⟩:=h.isCells b hb;exact grownBy_keeps_cells hg hr ho hc
theorem aK.grown {F:aV} {a w w':World} {row:Option Nat} (h:aK F a w) (hg:w.grownBy w' row) (hr:∀ r,row=some r -> a.heap.size <= r):aK F a w':=
 ⟨hg.os.trans h.os,hg.tape.trans h.tape,hg.output.trans h.output,au h.size hg.size,fun k hk hf=>(hg.block k (aw hk h.size) (fun e=>by have:=hr k e.symm;omega)).trans (h.block k hk hf)⟩
def oV (w1:World) (K:DK) (M:MD) (jb g0 taken:Nat) (rv:Value) (b0 g p:Nat) (ws:List (Nat × List UInt8)) (pre:List (Nat × Nat)) (W:World):Prop:=
 ∃ K' M',K'.d=K.d /\ (∀ b,K'.foot b -> K.foot b) /\ bj W K' M' /\ aY M (ws.take pre.length)=(M',0) /\ cM W jb K.d g0 rv taken false /\
   Blk W b0 [.pointer (some ⟨jb,0,none⟩)] 89 /\ Blk W (b0+1) [.int .u32 (g:Int)] 96 /\ Blk W (b0+2) [.int .i64 (p:Int)] 3 /\ Blk W (b0+3) [.int .i64 0] 26 /\
   aK (cZ K jb) w1 W /\ M'.S.length=M.S.length /\ M'.writes <= M.writes+pre.length
def oW (w1:World) (K:DK) (M:MD) (jb g0 taken:Nat) (rv:Value) (b0:Nat) (ws:List (Nat × List UInt8)) (pre:List (Nat × Nat)) (W:World):Prop:=
 ∃ K' M' r,K'.d=K.d /\ (∀ b,K'.foot b -> K.foot b) /\ bj W K' M' /\ aY M (ws.take pre.length)=(M',r) /\ r≠0 /\ cM W jb K.d g0 rv taken true /\ Blk W (b0+3) [.int .i64 r] 26 /\
   aK (fun b=>cZ K jb b \/ b=b0+3) w1 W
theorem oX {w1:World} {K:DK} {M:MD} {jb g0 taken:Nat} {rv:Value} {b0 g p:Nat} {ws:List (Nat × List UInt8)} (B0:Nat) (hB:w1.heap.size <= B0):OwnFrom B0 (oV w1 K M jb g0 taken rv b0 g p ws):=by
 rintro pre W W' row ⟨K',M',h1,h2,h3,h4,h5,h6,h7,h8,h9,h10,h11⟩ hg hr;have hr':∀ r,row=some r -> ∃ o:Obj,W.heap[r]?=some o /\ o.isCells=false:=fun r e=>(hr r e).2
 exact⟨K',M',h1,h2,h3.grown hg hr',h4,Blk.grown h5 hg hr',h6.grown hg hr',h7.grown hg hr',h8.grown hg hr',h9.grown hg hr',h10.grown hg (fun r e=>au hB (hr r e).1),h11⟩
theorem oY {w1:World} {K:DK} {M:MD} {jb g0 taken:Nat} {rv:Value} {b0:Nat} {ws:List (Nat × List UInt8)} (B0:Nat) (hB:w1.heap.size <= B0):OwnFrom B0 (oW w1 K M jb g0 taken rv b0 ws):=by
 rintro pre W W' row ⟨K',M',r,h1,h2,h3,h4,h5,h6,h7,h8⟩ hg hr;have hr':∀ r,row=some r -> ∃ o:Obj,W.heap[r]?=some o /\ o.isCells=false:=fun r e=>(hr r e).2
 exact⟨K',M',r,h1,h2,h3.grown hg hr',h4,h5,Blk.grown h6 hg hr',h7.grown hg hr',h8.grown hg (fun r e=>au hB (hr r e).1)⟩
theorem dV (n g k p:Nat) (l:List UInt8):(aO n g k p l).length=takes l.length:=by simp[aO]
theorem pS (n g k p:Nat) (l:List UInt8) (i:Nat) (h:i < takes l.length):(aO n g k p l).take (i+1)=(aO n g k p l).take i ++ [(bT n g (p+i),cG g k l i)]:=by
 rw[List.take_succ_eq_append_getElem (by rw[dV];exact h)]
 congr 1
 simp[aO]
theorem g8 (M M':MD) (r:Int) (ws:List (Nat × List UInt8)) (t:Nat) (h:aY M (ws.take t)=(M',r)) (hr:r≠0):aY M ws=(M',r):=by
 have:=fo M (ws.take t) (ws.drop t);rw[List.take_append_drop,h,if_neg hr] at this;exact this
set_option maxHeartbeats 4000000 in
set_option maxRecDepth 100000 in
theorem lG (w:World) (jb kd g0 taken:Nat) (rv:Value) (K:DK) (M:MD) (g k p:Nat) (v:Value) (l:List UInt8) (F:aV) (hv:Bytes F w v l) (hF:∀ b,F b -> b < w.heap.size /\ ¬ cZ K jb b) (h00:¬ cZ K jb 0) (hj:cM w jb kd g0 rv taken false) (hd:bj w K M) (hK:K.d=kd) (hjK:¬ K.foot jb) (hq:bQ w)
 (hg:g < 4294967296) (hk:k < 65536) (hl:l.length <= 65536) (h2:2 <= M.S.length) (hp:p+takes l.length <= aT M.S.length) (hw:M.writes+takes l.length < 4611686018427387904):
 Calls aC 90 #[.pointer (some ⟨jb,0,none⟩),.int .u32 (g:Int),.int .i64 (k:Int),.int .i64 (p:Int),v] w fun e w'=>
  e=.returned (.int .i64 (aY M (aO M.S.length g k p l)).2) /\ (∃ K',K'.d=kd /\ (∀ b,K'.foot b -> K.foot b) /\ bj w' K' (aY M (aO M.S.length g k p l)).1) /\
  cM w' jb kd g0 rv taken (!decide ((aY M (aO M.S.length g k p l)).2=0)) /\ aK (cZ K jb) w w':=by
 subst hK
 obtain⟨ws,hws⟩:∃ ws,ws=aO M.S.length g k p l:=⟨_,rfl⟩
 rw[<- hws];have Hws:=ae hws;clear hws;have hv0:=hv;obtain⟨a,cap,rfl,hcp,hcm,-,-⟩:=hv;have hle:=hd.le;have hH:aT M.S.length <= 65536:=by unfold aT;omega
 have htp:=cH l.length;refine(callsIn_wide (n:=2)).1 ?_;refine callsIn_of_wp_marks Tryz.func90 rfl trivial ?_ rfl;simp only[Tryz.ntmps90,List.size_toArray,aB,List.length_nil,Nat.reduceAdd,Nat.reduceSub,Array.replicate_succ,Array.replicate_zero,List.push_toArray,List.append_toArray,List.nil_append,List.cons_append]
 obtain⟨w1,hw1⟩:∃ w1,w1=((((w.alloc (.cells #[.pointer (some ⟨jb,0,none⟩)] 89)).alloc (.cells #[.int .u32 (g:Int)] 96)).alloc (.cells #[.int .i64 (p:Int)] 3)).alloc (.cells #[.int .i64 0] 26)):=⟨_,rfl⟩
 have hk1:Below w.heap.size w w1:=by rw[hw1];exact((((Below.refl _ w).alloc (aq _) _).alloc (by simp) _).alloc (by simp;omega) _).alloc (by simp;omega) _
 have hz1:w1.heap.size=w.heap.size+4:=by rw[hw1];simp
 have hlt0:=hj.lt;have hltd:=hd.lt
 have hboxes:Blk w1 w.heap.size [.pointer (some ⟨jb,0,none⟩)] 89 /\ Blk w1 (w.heap.size+1) [.int .u32 (g:Int)] 96 /\ Blk w1 (w.heap.size+2) [.int .i64 (p:Int)] 3 /\ Blk w1 (w.heap.size+3) [.int .i64 0] 26:=by
  rw[hw1];have b1:=Blk.new w #[.pointer (some ⟨jb,0,none⟩)] 89;have b2:=Blk.new (w.alloc (.cells #[.pointer (some ⟨jb,0,none⟩)] 89)) #[.int .u32 (g:Int)] 96;have b3:=Blk.new ((w.alloc (.cells #[.pointer (some ⟨jb,0,none⟩)] 89)).alloc (.cells #[.int .u32 (g:Int)] 96)) #[.int .i64 (p:Int)] 3;have b4:=Blk.new (((w.alloc (.cells #[.pointer (some ⟨jb,0,none⟩)] 89)).alloc (.cells #[.int .u32 (g:Int)] 96)).alloc (.cells #[.int .i64 (p:Int)] 3)) #[.int .i64 0] 26;simp only[World.size_alloc] at b2 b3 b4;exact⟨((b1.alloc _).alloc _).alloc _,(b2.alloc _).alloc _,b3.alloc _,b4⟩
 gi_wp2_with fail
 rw[<- hw1];have Hw1:=ae hw1;clear hw1;refine⟨trivial,callsIn_wide.2 ((oU w1 g k _ l F (hv0.keep fun b hb _=>hk1.block b (hF b hb).1) (hq.keep (hk1.block 0 (by omega))) (fun b hb=>by have:=(hF b hb).1;omega) (by omega)).mono ?_)⟩;rintro e w2 ⟨rfl,hin,hb2,hz2⟩;have hk2:=hk1.trans (hb2.mono (by omega));have hd2:bj w2 K M:=hd.keep fun b hb=>hk2.block b (hltd b hb)
 have hj2:cM w2 jb K.d g0 rv taken false:=hj.keep (hk2.block jb hlt0);obtain⟨x1,x2,x3,x4⟩:=hboxes;have y1:=x1.keep (hb2.block _ (by omega));have y2:=x2.keep (hb2.block _ (by omega));have y3:=x3.keep (hb2.block _ (by omega));have y4:=x4.keep (hb2.block _ (by omega))
 have hjF:∀ b,cZ K jb b -> b < w.heap.size:=fun b hb=>by
  rcases hb with hb | rfl
  ·exact hltd b hb
  ·exact hlt0
 clear x1 x2 x3 x4 hv0;rw[hz1] at hin
 gi_wp2_with fail
 refine range_known (n:=0) rfl (enters_of Tryz.func197 (by kernel_rfl) rfl)
  (oT w2 F (cZ K jb) _ _ _ g k _ l hin (fun b hb=>by
   rcases hb with rfl | rfl | rfl | rfl | hb
   ·exact⟨by omega,fun h=>by have:=hjF _ h;omega⟩
   ·exact⟨by omega,fun h=>by have:=hjF _ h;omega⟩
   ·exact⟨by omega,fun h=>by have:=hjF _ h;omega⟩
   ·exact⟨by omega,h00⟩
   ·exact⟨by have:=(hF b hb).1;omega,(hF b hb).2⟩) hl hg (by omega))
  (fun _=>rfl) (fun pre x W lo o o' hlo ho hc hG=>⟨hG.1,hG.2.1,⟨hG.2.2.1.1.keep (World.putObj_heap_other (fun e=>by
   have h1:W.heap[x.2]?=some (.cells ((cG g k l x.1).map B).toArray 137 (0,0)):=hG.2.2.1.1;rw[e,ho] at h1;cases h1
   cases hc)),hG.2.2.1.2⟩,hG.2.2.2⟩)
  (fun {A Bw C} h1 h2=>h1.trans h2) (fun W lo o o' hlo ho hc=>fm.put W lo o' hlo)
  (oV w2 K M jb g0 taken rv w.heap.size g p ws) (oW w2 K M jb g0 taken rv w.heap.size ws) (oX _ (aq _)) (oY _ (aq _))
  ⟨K,M,rfl,fun _ h=>h,hd2,rfl,hj2,y1,y2,y3,y4,aK.refl _ _,rfl,by omega⟩
  (fun x=>{ tmps:=#[.pointer (some ⟨jb,0,none⟩),.int .u32 (g:Int),.int .i64 (k:Int),.int .i64 (p:Int),.slice a l.length cap,.pointer (some ⟨w.heap.size,0,none⟩),.pointer (some ⟨w.heap.size+1,0,none⟩),undef,.pointer (some ⟨w.heap.size+1+1,0,none⟩),undef,.pointer (some ⟨w.heap.size+1+1+1,0,none⟩),.int .i64 (x.1:Int),.pointer (some ⟨x.2,0,none⟩),undef,.int .u32 (g:Int),.int .i64 (k:Int),.int .u32 (k:Int),.slice a l.length cap,
   .func (.func 197) #[] #[.pointer (some ⟨w.heap.size+4+2,0,none⟩),.pointer (some ⟨w.heap.size+4,0,none⟩),.pointer (some ⟨w.heap.size+4+1,0,none⟩)],.int .i64 (x.1:Int),.pointer (some ⟨x.2,0,none⟩),undef,undef,undef,undef,undef,undef,undef,undef,undef,undef,undef,undef],defers:=[] }) ?assign ?body ?done ?stop
 case assign=>
  intro lo x W Kx hKx
  gi_wp2
  exact hKx
 case body=>
  rintro lo pre ⟨m,sb⟩ W ⟨K',M',hKd,hKf,hdW,hwa,hjW,z1,z2,z3,z4,hoW,hlen,hwr⟩ ⟨hm,hmt,hsec,hsb⟩;dsimp only at hm hmt hsec hsb;subst hm
  have hpl:bT M.S.length g (p+pre.length) < M'.S.length:=by
   rw[hlen];unfold bT aT at *;rcases(show g % 2=0 \/ g % 2=1 by omega) with h | h <;> rw[h] <;> omega
  have hjF':∀ b,cZ K' jb b -> b < w.heap.size:=fun b hb=>hjF b (hb.imp (hKf b) id)
  have hsbn:¬ cZ K' jb sb:=fun h=>by have:=hjF' sb h;omega
  have q5:∀ w',aP (cZ K' jb) W.drew w' -> w'.cell? ⟨w.heap.size,0,none⟩=some (.pointer (some ⟨jb,0,none⟩)):=fun w' hh=>by simpa using (z1.keep (w':=w') (hh.block _ z1.lt (fun h=>by have:=hjF' _ h;omega))).cell 0
  have q6:∀ w',aP (cZ K' jb) W.drew w' -> w'.cell? ⟨w.heap.size+1,0,none⟩=some (.int .u32 (g:Int)):=fun w' hh=>by simpa using (z2.keep (w':=w') (hh.block _ z2.lt (fun h=>by have:=hjF' _ h;omega))).cell 0
  have q8:∀ w',aP (cZ K' jb) W.drew w' -> w'.cell? ⟨w.heap.size+2,0,none⟩=some (.int .i64 (p:Int)):=fun w' hh=>by simpa using (z3.keep (w':=w') (hh.block _ z3.lt (fun h=>by have:=hjF' _ h;omega))).cell 0
  have hplace:=iX W.drew jb K.d g0 rv taken false K' M' hjW.drew (hdW.keep (w':=W.drew) fun _ _=>rfl) hKd (by omega) g (p+pre.length) (by omega);have hwrite:=ko W.drew jb K.d g0 rv taken false K' M' hjW.drew (hdW.keep (w':=W.drew) fun _ _=>rfl) hKd (fun h=>hjK (hKf _ h)) (bT M.S.length g (p+pre.length)) hpl (by omega) sb _ ⟨hsec.1.drew,hsec.2⟩ (fun h=>hsbn (.inl h));rw[hlen] at hplace;have hsnoc:=e7 M (ws.take pre.length) (bT M.S.length g (p+pre.length)) (cG g k l pre.length) (by rw[hwa]);rw[hwa] at hsnoc;have hws:=Hws.out;have htk:=pS M.S.length g k p l pre.length hmt;rw[<- hws] at htk;rw[<- htk] at hsnoc;generalize bT M.S.length g (p+pre.length)=at_ at *;have hpI:((p+pre.length:Nat):Int)=(p:Int)+(pre.length:Int):=by omega
  rw[hpI] at hplace;have hw8:=af ((p:Int)+(pre.length:Int)) (by omega);have Hplace:=ae hplace;have Hwrite:=ae hwrite;have Hsnoc:=ae hsnoc;clear hplace hwrite hsnoc htk hws hwa hpI
  gi_wp2_with fail
  refine wpIn_region_can (aP (cZ K' jb)) [(0,true),(1,true),(2,true),(3,true),(4,true),(5,true),(7,true),(6,false),(8,false),(9,true)] (by kernel_rfl) (by kernel_rfl) (by kernel_rfl) (bH _) (bG _) ?_
  repeat (refine aF (v:=?_) rfl (aD rfl) (fun w' hC=>?_) (fun K hK=>?_);rotate_left;(focus (go_simp;first | done | exact rfl));go_simp;refine hK _ ?_;clear hK K)
  refine aQ rfl rfl (fun KK hK=>?_);go_simp;refine Hplace.out.mono ?_;rintro e w' ⟨rfl,rfl⟩;refine⟨_,rfl,bH _ _,hK _ _ ?_⟩;clear hK KK;go_simp
  repeat (refine aF (v:=?_) rfl (aD rfl) (fun w' hC=>?_) (fun K hK=>?_);rotate_left;(focus (go_simp;first | done | exact rfl));go_simp;refine hK _ ?_;clear hK K)
  refine aQ rfl rfl (fun KK hK=>?_);go_simp;refine Hwrite.out.mono ?_;rintro e w3 ⟨rfl,⟨K3,hK3,hKf3,hd3⟩,hj3,ho3,hs3⟩;refine⟨_,rfl,ho3,hK _ _ ?_⟩;clear hK KK q5 q6 q8;go_simp
  repeat (refine aF (v:=?_) rfl (aD rfl) (fun w' hC=>?_) (fun K hK=>?_);rotate_left;(focus (go_simp;first | done | exact rfl));go_simp;refine hK _ ?_;clear hK K)
  refine aW ?_
  have ho3':aK (cZ K' jb) W w3:=⟨ho3.os,ho3.tape,ho3.output,ho3.size,ho3.block⟩
  have hsn:=Hsnoc.out;have hwl:=ml M' at_ (cG g k l pre.length);generalize hmw:M'.wr at_ (cG g k l pre.length)=mw at *;obtain⟨M3,r⟩:=mw;dsimp only at hd3 hj3 hwl;dsimp only
  have hko:KeepsOthers W w3:=lc ho3' (fun b hb=>by
   rcases hb with hb | rfl
   ·exact hdW.isCells b hb
   ·exact Blk.isCells hjW)
  have u1:=z1.keep (ho3'.block _ z1.lt (fun h=>by have:=hjF' _ h;omega));have u2:=z2.keep (ho3'.block _ z2.lt (fun h=>by have:=hjF' _ h;omega));have u3:=z3.keep (ho3'.block _ z3.lt (fun h=>by have:=hjF' _ h;omega));have u4:=z4.keep (ho3'.block _ z4.lt (fun h=>by have:=hjF' _ h;omega));have honly:aK (cZ K jb) w2 w3:=hoW.trans ho3' (fun i hi=>.inl (hi.imp (hKf i) id));have hszW:w2.heap.size <= W.heap.size:=hoW.size
  by_cases hr:r=0
  ·subst hr
   have hI3:oV w2 K M jb g0 taken rv w.heap.size g p ws (pre ++ [(pre.length,sb)]) w3:=⟨K3,M3,hK3,fun b hb=>hKf b (hKf3 b hb),hd3,by simpa using hsn,by simpa using hj3,u1,u2,u3,u4,honly,by omega,by simp;omega⟩
   have HI3:=ae hI3;clear hI3 hsn hj3 hd3 u1 u2 u3 u4 z1 z2 z3 z4 hmw Hsnoc Hwrite Hplace hdW hjW hoW
   gi_wp2_with fail
   exact⟨hko,fm.of_only (ho3'.mono fun b hb=>hb.imp (hKf b) id) hszW,HI3.out⟩
  ·have hrb:(r != 0)=true:=bne_iff_ne.2 hr;have c4:=u4.cell 0;have f4:=u4.free 0;simp at c4;have u5:=u4.set 0 (.int .i64 r)
   have hj5:cM (w3.setCell ⟨w.heap.size+3,0,none⟩ (.int .i64 r)) jb K.d g0 rv taken true:=by
    have:=Blk.set_other hj3 (a:=⟨w.heap.size+3,0,none⟩) (.int .i64 r) (show jb≠w.heap.size+3 by omega);simpa[hr,cM] using this
   have hd5:bj (w3.setCell ⟨w.heap.size+3,0,none⟩ (.int .i64 r)) K3 M3:=hd3.keep fun b hb=>Below.heap_setCell _ ⟨w.heap.size+3,0,none⟩ _ b (by have:=hltd b (hKf b (hKf3 b hb));show b≠w.heap.size+3;omega)
   have hE5:oW w2 K M jb g0 taken rv w.heap.size ws (pre ++ [(pre.length,sb)]) (w3.setCell ⟨w.heap.size+3,0,none⟩ (.int .i64 r)):=⟨K3,M3,r,hK3,fun b hb=>hKf b (hKf3 b hb),hd5,by simpa using hsn,hr,hj5,by simpa using u5,(honly.mono fun b hb=>.inl hb).setCell (.inl (.inr rfl)) _⟩
   have HE5:=ae hE5;clear hE5 hsn hj3 hd3 hj5 hd5 u1 u2 u3 u5 z1 z2 z3 z4 hmw Hsnoc Hwrite Hplace hdW hjW hoW
   gi_wp2_with fail
   exact⟨hko.trans (KeepsOthers.setCell _ _ _),HE5.out⟩
 case done=>
  rintro D xs W hD hS ⟨K',M',hKd,hKf,hdW,hwa,hjW,z1,z2,z3,z4,hoW,hlen,hwr⟩ hdef
  have hall:aY M ws=(M',0):=by
   rw[<- hwa,List.take_of_length_le (by rw[Hws.out,dV];omega)]
  have c4:=z4.cell 0;have f4:=z4.free 0;simp at c4;have hdW':=hltd;have v4:=z4.set 0 (.int .i64 0);have hdef2:(W.setCell ⟨w.heap.size+3,0,none⟩ (.int .i64 0)).heap[D]?=some (.deferred (some [])):=by rw[Below.heap_setCell _ ⟨w.heap.size+3,0,none⟩ _ D (by show D≠w.heap.size+3;omega)];exact hdef
  have hoth:∀ b,b < w2.heap.size -> b≠w.heap.size+3 -> ((W.setCell ⟨w.heap.size+3,0,none⟩ (.int .i64 0)).putObj D (.deferred none)).heap[b]?=W.heap[b]?:=fun b hb hne=>by
   rw[World.putObj_heap_other (by omega),Below.heap_setCell _ ⟨w.heap.size+3,0,none⟩ _ b hne]
  have hdF:bj ((W.setCell ⟨w.heap.size+3,0,none⟩ (.int .i64 0)).putObj D (.deferred none)) K' M':=hdW.keep fun b hb=>hoth b (by have:=hltd b (hKf b hb);omega) (by have:=hltd b (hKf b hb);omega)
  have hjF2:cM ((W.setCell ⟨w.heap.size+3,0,none⟩ (.int .i64 0)).putObj D (.deferred none)) jb K.d g0 rv taken false:=hjW.keep (hoth jb (by omega) (by omega))
  have hoF:aK (cZ K jb) w ((W.setCell ⟨w.heap.size+3,0,none⟩ (.int .i64 0)).putObj D (.deferred none)):=by
   have h1:aK (cZ K jb) w W:=(aK.of_below hk2).trans hoW (fun i hi=>.inl hi);have h2:=h1.setCell (p:=⟨w.heap.size+3,0,none⟩) (.inr (by show w.heap.size <= w.heap.size+3;omega)) (.int .i64 0);exact h2.grown (grownBy_putObj' _ D (.deferred none)) (fun r e=>by cases e;omega)
  have hcF:((W.setCell ⟨w.heap.size+3,0,none⟩ (.int .i64 0)).putObj D (.deferred none)).cell? ⟨w.heap.size+3,0,none⟩=some (.int .i64 0):=by
   have:=v4.keep (w':=(W.setCell ⟨w.heap.size+3,0,none⟩ (.int .i64 0)).putObj D (.deferred none)) (World.putObj_heap_other (by omega));simpa using this.cell 0
  have HF:=ae hdF;have HJ:=ae hjF2;have HO:=ae hoF;have Hall:=ae hall;have HC:=ae hcF;have Hdef:=ae hdef2;clear hdF hjF2 hoF hall hcF hdef2 v4 z1 z2 z3 z4 hdW hjW hoW hoth hwa hdef
  gi_wp2_with fail
  refine⟨by simp,.inl ⟨_,_,rfl,run_takeDeferred Hdef.out,?_⟩⟩;have hcF:=HC.out;refine⟨.int .i64 0,?_,?_⟩
  ·simp[results,Tryz.f90,go_sem,hcF]
  ·rw[Hall.out];exact⟨rfl,⟨K',hKd,hKf,HF.out⟩,HJ.out,HO.out⟩
 case stop=>
  rintro D pre W hD - ⟨K',M',r,hKd,hKf,hdW,hwa,hr,hjW,z4,hoW⟩ hdef;have hall:=g8 M M' r ws _ hwa hr;have hoth:∀ b,b < w2.heap.size -> (W.putObj D (.deferred none)).heap[b]?=W.heap[b]?:=fun b hb=>World.putObj_heap_other (by omega)
  have hdF:bj (W.putObj D (.deferred none)) K' M':=hdW.keep fun b hb=>hoth b (by have:=hltd b (hKf b hb);omega)
  have hjF2:cM (W.putObj D (.deferred none)) jb K.d g0 rv taken true:=hjW.keep (hoth jb (by omega))
  have hoF:aK (cZ K jb) w (W.putObj D (.deferred none)):=by
   have h1:aK (cZ K jb) w W:=(aK.of_below hk2).trans hoW (fun i hi=>hi.imp id (fun h=>by omega));exact h1.grown (grownBy_putObj' _ D (.deferred none)) (fun r e=>by cases e;omega)
  have hcF:(W.putObj D (.deferred none)).cell? ⟨w.heap.size+3,0,none⟩=some (.int .i64 r):=by
   have:=z4.keep (w':=W.putObj D (.deferred none)) (hoth _ (by omega));simpa using this.cell 0
  have HF:=ae hdF;have HJ:=ae hjF2;have HO:=ae hoF;have Hall:=ae hall;have HC:=ae hcF;have Hdef:=ae hdef;clear hdF hjF2 hoF hall hcF hdef z4 hdW hjW hoW hoth hwa
  gi_wp2_with fail
  refine⟨by simp,.inl ⟨_,_,rfl,run_takeDeferred Hdef.out,?_⟩⟩;have hcF:=HC.out;refine⟨.int .i64 r,?_,?_⟩
  ·simp[results,Tryz.f90,go_sem,hcF]
  ·rw[Hall.out];exact⟨rfl,⟨K',hKd,hKf,HF.out⟩,by simpa[hr] using HJ.out,HO.out⟩
end
theorem rI:(aC.info? 41).map (fun i=>(i.zero,i.size,i.bytes))=some (some (.slice none 0 0),1,24):=by kernel_rfl
def bX (R:aV) (w:World) (lo:Nat) (v:Value) (S:List (List UInt8)):Prop:=
 ∃ vals,w.ownsRow lo 41 1 v S.length vals /\ (∀ i (h:i < S.length),∃ x,vals[i]?=some x /\ Bytes R w x S[i]) /\ (∀ b,R b -> ∃ L fz,w.heap[b]?=some (.cells L 5 fz))
theorem bX.nil (w:World) (lo:Nat):bX none_ w lo (.slice none 0 0) []:=
 ⟨[],World.ownsRow_nil _ _ _ _,fun i h=>by simp at h,fun b h=>h.elim⟩
theorem bX.shape {R:aV} {w:World} {lo:Nat} {v:Value} {S:List (List UInt8)} (h:bX R w lo v S):∃ a cap,v=.slice a S.length cap /\ S.length <= cap /\ cap <= maxLen:=by
 obtain⟨vals,hown,-⟩:=h;rcases hown.2 with ⟨rfl,h0⟩ | ⟨g,cap,cur,rfl,_,_,hc,hm,_⟩
 ·exact⟨none,0,by rw[h0],by omega,by unfold maxLen;omega⟩
 ·exact⟨_,cap,rfl,hc,hm⟩
theorem bX.own {R:aV} {w:World} {lo:Nat} {v:Value} {S:List (List UInt8)} (h:bX R w lo v S) {g:Nat} (hg:v.ownBlock=some g):lo <= g /\ g < w.heap.size /\ ¬ R g:=by
 obtain⟨vals,hown,-,hR⟩:=h;rcases hown.2 with ⟨rfl,h0⟩ | ⟨g',cap,cur,rfl,hlo,hb,hc,hm,_⟩
 ·cases hg
 ·simp[Value.ownBlock] at hg;subst hg;refine⟨hlo,lt_of_block hb,fun hx=>?_⟩;obtain⟨L,fz,hL⟩:=hR g' hx;rw[hb] at hL;simp at hL
theorem lH {w w':World} {lo:Nat} {e:TypeId} {size n:Nat} {v:Value} {xs:List Value} (h:w.ownsRow lo e size v n xs) (hk:∀ g,v.ownBlock=some g -> w'.heap[g]?=w.heap[g]?):w'.ownsRow lo e size v n xs:=by
 obtain⟨h1,h2⟩:=h;refine⟨h1,?_⟩;rcases h2 with h2 | ⟨g,cap,cur,rfl,hlo,hb,r⟩
 ·exact .inl h2
 ·exact .inr ⟨g,cap,cur,rfl,hlo,(hk g rfl).trans hb,r⟩
theorem bX.keep {R:aV} {w w':World} {lo:Nat} {v:Value} {S:List (List UInt8)} (h:bX R w lo v S) (hk:∀ b,v.ownBlock=some b \/ R b -> b < w.heap.size -> w'.heap[b]?=w.heap[b]?):bX R w' lo v S:=by
 have hown0:=fun g hg=>(h.own (g:=g) hg).2.1
 obtain⟨vals,hown,hv,hR⟩:=h;refine⟨vals,lH hown fun g hg=>hk g (.inl hg) (hown0 g hg),fun i hi=>?_,fun b hb=>?_⟩
 ·obtain⟨x,hx,hbx⟩:=hv i hi;exact⟨x,hx,hbx.keep fun b hb hlt=>hk b (.inr hb) hlt⟩
 ·obtain⟨L,fz,hL⟩:=hR b hb;exact⟨L,fz,(hk b (.inr hb) (lt_of_block hL)).trans hL⟩
theorem bX.kept {R:aV} {w w':World} {lo:Nat} {v:Value} {S:List (List UInt8)} (h:bX R w lo v S) (hb:Below w.heap.size w w'):bX R w' lo v S:=
 h.keep fun b _ hlt=>hb.block b hlt
theorem bX.only {R F:aV} {w w':World} {lo:Nat} {v:Value} {S:List (List UInt8)} (h:bX R w lo v S) (ho:aK F w w') (hd:∀ b,v.ownBlock=some b \/ R b -> ¬ F b):bX R w' lo v S:=
 h.keep fun b hb hlt=>ho.block b hlt (hd b hb)
theorem bX.append {R Rx:aV} {w:World} {lo:Nat} {v x:Value} {S:List (List UInt8)} {l:List UInt8} (h:bX R w lo v S) (hx:Bytes Rx w x l) (hRx:∀ b,Rx b -> ∃ L fz,w.heap[b]?=some (.cells L 5 fz))
 (hlen:S.length < 1000000000) (hlo:lo <= w.heap.size):
 ∃ a cap w',(AP #[64,64] 64 #[v,.slice (some ⟨w.heap.size,0,none⟩) 1 1]).run aC (w.alloc (.cells #[x] 41))=.ok (.slice a (S.length+1) cap) w' /\
   bX (fun b=>R b \/ Rx b) w' lo (.slice a (S.length+1) cap) (S ++ [l]) /\ (w.alloc (.cells #[x] 41)).grownBy w' v.ownBlock:=by
 obtain⟨i0,hi,hz0,hz1,hz2⟩:=info_parts rI;have hown0:=fun g hg=>h.own (g:=g) hg
 obtain⟨vals,hown,hv,hR⟩:=h;have hx1:x.oneCell'=true:=by obtain⟨a,cap,rfl,-⟩:=hx;rfl
 obtain⟨v',w',hr,h1,h2,h3⟩:=run_append_own (P:=aC) (w.alloc (.cells #[x] 41)) lo 64 64 41 i0 _ 1 24 Tryz.underlying64 hi hz0 hz1 hz2 rfl (by decide) v S.length vals (hown.alloc _)
  ⟨w.heap.size,0,none⟩ 1 1 [x] (by simp) (fun j u hj=>by
   have hn:=Blk.new w #[x] 41;rw[Addr.add_lit,hn.cell]
   simpa using hj) (by simpa using hx1) (by unfold maxLen;omega) (by omega) (by simp;omega)
 have hsh:∃ a cap,v'=.slice a (S.length+1) cap:=by
  rcases h1.2 with ⟨_,h0⟩ | ⟨g,cap,cur,rfl,_⟩
  ·omega
  ·exact⟨_,cap,rfl⟩
 obtain⟨a,cap,rfl⟩:=hsh
 have hkeep:∀ b,b < w.heap.size -> (∀ g,v.ownBlock=some g -> b≠g) -> w'.heap[b]?=w.heap[b]?:=fun b hb hg=>by
  rw[h2.block b (by simp;omega) (fun e=>hg b e.symm rfl),Below.heap_alloc _ _ _ hb]
 have hng:∀ b,(∃ L fz,w.heap[b]?=some (.cells L 5 fz)) -> ∀ g,v.ownBlock=some g -> b≠g:=by
  rintro b ⟨L,fz,hL⟩ g hg rfl;rcases hown.2 with ⟨rfl,_⟩ | ⟨g',cap',cur,rfl,_,hb,_⟩
  ·cases hg
  ·simp[Value.ownBlock] at hg;subst hg;rw[hb] at hL;simp at hL
 refine⟨a,cap,w',hr,⟨vals ++ [x],by simpa using h1,fun i hi=>?_,fun b hb=>?_⟩,h2⟩
 ·have hlv:vals.length=S.length:=by simpa using hown.1
  by_cases hlt:i < S.length
  ·obtain⟨y,hy,hby⟩:=hv i hlt;refine⟨y,by rw[List.getElem?_append_left (by omega)];exact hy,?_⟩;rw[List.getElem_append_left hlt];exact(hby.keep fun b hb hbl=>hkeep b hbl (hng b (hR b hb))).mono fun b hb=>.inl hb
  ·simp at hi;obtain rfl:i=S.length:=by omega
   refine⟨x,by rw[List.getElem?_append_right (by omega),hlv];simp,?_⟩;simp only[List.getElem_concat_length];exact(hx.keep fun b hb hbl=>hkeep b hbl (hng b (hRx b hb))).mono fun b hb=>.inr hb
 ·have:∃ L fz,w.heap[b]?=some (.cells L 5 fz):=hb.elim (hR b) (hRx b)
  obtain⟨L,fz,hL⟩:=this;exact⟨L,fz,(hkeep b (lt_of_block hL) (hng b ⟨L,fz,hL⟩)).trans hL⟩
theorem bX.appended {R:aV} {w:World} {lo:Nat} {v x:Value} {S:List (List UInt8)} (h:bX R w lo v S) (hx1:x.oneCell'=true) (hlen:S.length < 1000000000) {v':Value} {w':World}
 (hap:(AP #[64,64] 64 #[v,.slice (some ⟨w.heap.size,0,none⟩) 1 1]).run aC (w.alloc (.cells #[x] 41))=.ok v' w'):∀ b,v'.ownBlock=some b -> v.ownBlock=some b \/ w.heap.size <= b:=by
 obtain⟨i0,hi,hz0,hz1,hz2⟩:=info_parts rI;obtain⟨vals,hown,-,-⟩:=h
 have hnews:∀ j u,[x][j]?=some u -> (w.alloc (.cells #[x] 41)).cell? ((⟨w.heap.size,0,none⟩:Addr).add j)=some u:=fun j u hj=>by
  have hn:=Blk.new w #[x] 41;rw[Addr.add_lit,hn.cell];simpa using hj
 rcases hown.2 with ⟨rfl,h0⟩ | ⟨g,cap,cur,rfl,hlo,hb,hc,hm,hs,ht⟩
 ·have hr:=run_append_nil (P:=aC) (w.alloc (.cells #[x] 41)) 64 64 41 i0 _ Tryz.underlying64 hi hz0 ⟨w.heap.size,0,none⟩ 1 1 [x] (by rw[hz1];rfl) hnews (by omega) (by omega) (by rw[hz2];omega);change _=_ at hap;unfold AP at hap;rw[hr] at hap;simp only[Result.ok.injEq] at hap;obtain⟨rfl,-⟩:=hap;intro b hb;simp[Value.ownBlock] at hb;right;omega
 ·have hb':(w.alloc (.cells #[x] 41)).heap[g]?=some (.cells cur 41 (0,0)):=(Below.heap_alloc _ _ _ (lt_of_block hb)).trans hb
  by_cases hroom:S.length+1 <= cap
  ·have hr:=run_append_room (P:=aC) (w.alloc (.cells #[x] 41)) 64 64 41 i0 Tryz.underlying64 hi g S.length cap cur hb' ⟨w.heap.size,0,none⟩ 1 1 [x] (by rw[hz1];rfl) hnews (by simpa using hx1) hroom (by rw[hz1,hs];simp;omega);unfold AP at hap;rw[hr] at hap;simp only[Result.ok.injEq] at hap;obtain⟨rfl,-⟩:=hap;intro b hb;left;exact hb
  ·have holds:∀ j u,vals[j]?=some u -> (w.alloc (.cells #[x] 41)).cell? ((⟨g,0,none⟩:Addr).add j)=some u:=(hown.alloc _).cells (g:=g) rfl
   have hr:=run_append_grow (P:=aC) (w.alloc (.cells #[x] 41)) 64 64 41 i0 _ Tryz.underlying64 hi hz0 ⟨g,0,none⟩ S.length cap vals (by rw[hz1];exact hown.1) holds ⟨w.heap.size,0,none⟩ 1 1 [x] (by rw[hz1];rfl) hnews (by omega) (by omega) (by rw[hz2];exact growslice_fits (by omega) (by omega));unfold AP at hap;rw[hr] at hap;simp only[Result.ok.injEq] at hap;obtain⟨rfl,-⟩:=hap;intro b hb;simp[Value.ownBlock] at hb;right;omega
section
attribute [local go_sem ↓] bq
attribute [local go_sem] opC upC
theorem il {w:World} {lo:Nat} {v:Value} {l:List UInt8} (h:w.ownsRow lo 5 1 v l.length (l.map B)):Bytes (fun b=>lo <= b /\ b < w.heap.size /\ ∃ L fz,w.heap[b]?=some (.cells L 5 fz)) w v l:=by
 rcases h.2 with ⟨rfl,h0⟩ | ⟨g,cap,cur,rfl,hb,hg,hc,hm,hs,ht⟩
 ·exact⟨none,0,by rw[h0],by omega,by unfold maxLen;omega,fun _=>rfl,.inl (List.length_eq_zero_iff.1 h0)⟩
 ·refine⟨_,cap,rfl,hc,hm,nofun,.inr ⟨g,0,cur,5,(0,0),rfl,⟨hb,lt_of_block hg,_,_,hg⟩,hg,by omega,fun i hi=>?_⟩⟩;have:(cur.toList.take (l.length * 1))[i]?=(l.map B)[i]?:=by rw[ht]
  rw[List.getElem?_take,if_pos (by omega)] at this;simpa[List.getElem?_eq_getElem hi] using this
structure JK where
 j:Nat
 K:DK
 O:aV
def JK.all (k:JK):aV:=fun b=>b=k.j \/ k.K.foot b \/ k.O b
structure JAt (w:World) (k:JK) (M:MD) (J:MJ):Prop where
 disk:bj w k.K M
 recs:∃ ra rc R,cM w k.j k.K.d J.g (.slice ra J.L.length rc) (aL J.L) J.dead /\ bX R w 0 (.slice ra J.L.length rc) J.L /\ (∀ b,(Value.slice ra J.L.length rc).ownBlock=some b \/ R b -> k.O b)
 apart:¬ k.K.foot k.j /\ (∀ b,k.O b -> b≠k.j /\ ¬ k.K.foot b /\ b < w.heap.size)
 size8:8 <= M.S.length
 room:aL J.L <= aT M.S.length
 gen:J.g < 4294967296
 lens:∀ b ∈ J.L,b.length <= 65536
theorem JAt.keep {w w':World} {k:JK} {M:MD} {J:MJ} (h:JAt w k M J) (hk:∀ b,k.all b -> w'.heap[b]?=w.heap[b]?) (hs:w.heap.size <= w'.heap.size):JAt w' k M J:=by
 obtain⟨h1,⟨ra,rc,R,h2,h3,h4⟩,h5,h6,h7,h8,h9⟩:=h;exact⟨h1.keep fun b hb=>hk b (.inr (.inl hb)),⟨ra,rc,R,Blk.keep h2 (hk _ (.inl rfl)),h3.keep fun b hb _=>hk b (.inr (.inr (h4 b hb))),h4⟩,⟨h5.1,fun b hb=>⟨(h5.2 b hb).1,(h5.2 b hb).2.1,aw (h5.2 b hb).2.2 hs⟩⟩,h6,h7,h8,h9⟩
theorem JAt.lt {w:World} {k:JK} {M:MD} {J:MJ} (h:JAt w k M J):∀ b,k.all b -> b < w.heap.size:=by
 rintro b (rfl | hb | hb)
 ·obtain⟨ra,rc,R,h2,_⟩:=h.recs;exact Blk.lt h2
 ·exact h.disk.lt b hb
 ·exact(h.apart.2 b hb).2.2
theorem JAt.kept {w w':World} {k:JK} {M:MD} {J:MJ} (h:JAt w k M J) (hb:Below w.heap.size w w'):JAt w' k M J:=h.keep (fun b hf=>hb.block b (h.lt b hf)) hb.size
theorem JAt.only {w w':World} {k:JK} {M:MD} {J:MJ} {F:aV} (h:JAt w k M J) (ho:aK F w w') (hd:∀ b,k.all b -> ¬ F b):JAt w' k M J:=h.keep (fun b hb=>ho.block b (h.lt b hb) (hd b hb)) ho.size
theorem dM (L:List (List UInt8)) (b:List UInt8):aL (L ++ [b])=aL L+takes b.length:=by simp[aL]
theorem cU (L:List (List UInt8)):L.length <= aL L:=by
 induction L with
 | nil=>simp
 | cons x L ih=>
   have:=cH x.length;simp only[aL,List.map_cons,List.sum_cons,aB] at *;omega
set_option maxHeartbeats 2000000 in
theorem mm (w:World) (jb kd g taken:Nat) (rv:Value) (dead:Bool) (R:aV) (L:List (List UInt8)) (hj:cM w jb kd g rv taken dead) (hr:bX R w 0 rv L) (hown0:∀ b,rv.ownBlock=some b \/ R b -> b≠jb /\ b < w.heap.size) (F:aV) (v:Value) (l:List UInt8) (hv:Bytes F w v l) (hl:l.length <= 65536) (hL:L.length <= 65536) (ht:taken <= 65536):
 Calls aC 91 #[.pointer (some ⟨jb,0,none⟩),v] w fun e w'=>e=.returned (.tuple #[]) /\ ∃ ra rc R',cM w' jb kd g (.slice ra (L.length+1) rc) (taken+takes l.length) dead /\ bX R' w' 0 (.slice ra (L.length+1) rc) (L ++ [l]) /\
  aK (fun b=>b=jb \/ rv.ownBlock=some b) w w' /\ (∀ b,(Value.slice ra (L.length+1) rc).ownBlock=some b \/ R' b -> ((rv.ownBlock=some b \/ R b) \/ w.heap.size <= b) /\ b < w'.heap.size):=by
 have hown:∀ b,rv.ownBlock=some b \/ R b -> b≠jb:=fun b h=>(hown0 b h).1
 have hjlt:=hj.lt;have htk:=cH l.length;have htb:takes l.length <= 65536:=by unfold takes;omega
 obtain⟨va,vc,rfl,hvc,hvm,-,-⟩:=id hv;obtain⟨aR,cR,rfl,-,-⟩:=hr.shape
 have hq2:∀ w',aP (fun b=>w.heap.size <= b \/ (Value.slice aR L.length cR).ownBlock=some b) w.drew w' -> w'.cell? ⟨jb,2,none⟩=some (.slice aR L.length cR):=fun w' hh=>by
  simpa using (Blk.keep hj (w':=w') (hh.block jb hjlt (fun h=>h.elim (fun h=>by omega) (fun h=>hown jb (.inl h) rfl)))).cell 2
 go_enter Tryz.func91,Tryz.ntmps91
 go_wp2_with fail;refine bh (aP (fun b=>w.heap.size <= b \/ (Value.slice aR L.length cR).ownBlock=some b)) 11 [(0,true),(1,true),(2,true),(3,true),(4,true),(5,true),(6,false),(7,false),(8,false),(9,true),(10,true),(11,false)] (by kernel_rfl) (by kernel_rfl) (by kernel_rfl) (bH _) (bG _) ?_
 repeat (refine aX (v:=?_) rfl (aD rfl) (fun w' hC=>?_) (fun K hK=>?_);rotate_left;(focus (go_simp;first | done | exact rfl));go_simp;refine hK _ ?_;clear hK K)
 refine bS rfl rfl (fun KK hK=>?_);go_simp;refine(gS w.drew F _ l (hv.keep (w':=w.drew) fun b _ _=>rfl) (by omega)).mono ?_;rintro e w1 ⟨r,rfl,hr1,hb0⟩;have hb1:Below w.heap.size w w1:=(Below.refl _ _).drew.trans hb0;have hr1:w1.ownsRow w.heap.size 5 1 r l.length (l.map B):=hr1;refine⟨_,rfl,aP.of_below hb0,hK _ _ ?_⟩;clear hK KK hq2;have hby:=il hr1
 obtain⟨ra,rc,rfl,-,-⟩:∃ a cap,r=.slice a l.length cap /\ l.length <= cap /\ cap <= maxLen:=by
  obtain⟨a,cap,h,h1,h2,-⟩:=hby;exact⟨a,cap,h,h1,h2⟩
 have hrows1:=hr.kept hb1;obtain⟨a',c',w2,hap,hrows2,hg2⟩:=hrows1.append hby (fun b hb=>hb.2.2) (by omega) (Nat.zero_le _);have hj1:cM w1 jb kd g (.slice aR L.length cR) taken dead:=Blk.keep hj (hb1.block jb hjlt);have hz1:=hb1.size;have hown1:∀ q,(Value.slice aR L.length cR).ownBlock=some q -> q < w.heap.size:=fun q hq=>(hr.own hq).2.1
 have hj2:cM w2 jb kd g (.slice aR L.length cR) taken dead:=Blk.keep (Blk.alloc hj1 _) (hg2.block jb (by simp;omega) (fun e=>hown jb (.inl e.symm) rfl));have k1:aP (fun b=>w.heap.size <= b \/ (Value.slice aR L.length cR).ownBlock=some b) w1 (w1.alloc (.cells #[.slice ra l.length rc] 41)):=aP.of_below (aE _ _)
 have k2:aP (fun b=>w.heap.size <= b \/ (Value.slice aR L.length cR).ownBlock=some b) (w1.alloc (.cells #[.slice ra l.length rc] 41)) w2:=⟨hg2.os,hg2.tape,hg2.output,hg2.size,fun q hq hn=>hg2.block q hq (fun e=>hn (.inr e.symm))⟩
 have ho2:aK (fun b=>b=jb \/ (Value.slice aR L.length cR).ownBlock=some b) w w2:=by
  have h1:aK (fun b=>b=jb \/ (Value.slice aR L.length cR).ownBlock=some b) w (w1.alloc (.cells #[.slice ra l.length rc] 41)):=(aK.of_below hb1).alloc _;exact⟨hg2.os.trans h1.os,hg2.tape.trans h1.tape,hg2.output.trans h1.output,au h1.size hg2.size,fun q hq hn=>(hg2.block q (aw hq h1.size) (fun e=>hn (.inr e.symm))).trans (h1.block q hq hn)⟩
 have c2:=hj2.cell 2;have f2:=hj2.free 2;simp at c2
 have hne2:∀ b,(Value.slice a' (L.length+1) c').ownBlock=some b \/ (R b \/ (w.heap.size <= b /\ b < w1.heap.size /\ ∃ L fz,w1.heap[b]?=some (.cells L 5 fz))) -> b≠jb:=fun b hb=>by
  rcases hb with hb | hb | hb
  ·intro e;subst e;obtain⟨vals,ho,-⟩:=hrows2;rcases ho.2 with ⟨h,_⟩ | ⟨g',cap',cur,h,_,hg',_⟩
   ·rw[h] at hb;cases hb
   ·rw[h] at hb;simp[Value.ownBlock] at hb;subst hb;have:w2.heap[g']?=some (.cells #[.pointer (some ⟨kd,0,none⟩),.int .u32 (g:Int),.slice aR L.length cR,.int .i64 (taken:Int),.bool dead] 141 (0,0)):=hj2;rw[hg'] at this;simp at this
  ·exact hown b (.inr hb)
  ·have:=hb.1;omega
 have hj3:=hj2.set 2 (.slice a' (L.length+1) c');have hrows3:bX _ (w2.setCell ⟨jb,2,none⟩ (.slice a' (L.length+1) c')) 0 (.slice a' (L.length+1) c') (L ++ [l]):=hrows2.keep fun b hb _=>Below.heap_setCell _ ⟨jb,2,none⟩ _ b (hne2 b (by simpa using hb))
 have hnew:∀ b,(Value.slice a' (L.length+1) c').ownBlock=some b -> (Value.slice aR L.length cR).ownBlock=some b \/ w.heap.size <= b:=fun b hb=>by
  rcases hrows1.appended rfl (by omega) hap b hb with h | h
  ·exact .inl h
  ·exact .inr (by omega)
 have hz3:w1.heap.size <= (w2.setCell ⟨jb,2,none⟩ (.slice a' (L.length+1) c')).heap.size:=by have:=k2.size;simp at this ⊢;omega
 have hj3':cM (w2.setCell ⟨jb,2,none⟩ (.slice a' (L.length+1) c')) jb kd g (.slice a' (L.length+1) c') taken dead:=by simpa[cM] using hj3
 have ho3:aK (fun b=>b=jb \/ (Value.slice aR L.length cR).ownBlock=some b) w (w2.setCell ⟨jb,2,none⟩ (.slice a' (L.length+1) c')):=ho2.setCell (.inl (.inl rfl)) _;have Hj3:=ae hj3';have Hrows3:=ae hrows3;have Ho3:=ae ho3;have Hnew:=ae hnew;have Hne2:=ae hne2;clear hj3 hj3' hrows3 ho3 hnew hne2 ho2 hrows2 hj2 hj1 hg2 hrows1 hby hr1 hb1;go_simp;refine bS rfl rfl (fun KK hK=>?_);go_simp;refine hK _ _ ?_;clear hK KK;go_simp;refine bS rfl rfl (fun KK hK=>?_);go_simp;refine hK _ _ ?_;clear hK KK;go_simp
 repeat (refine aX (v:=?_) rfl (aD rfl) (fun w' hC=>?_) (fun K hK=>?_);rotate_left;(focus (go_simp;first | done | exact rfl));go_simp;refine hK _ ?_;clear hK K)
 refine bK rfl rfl rfl (fun KK hK=>?_);go_simp;refine hK _ _ ?_;clear hK KK;go_simp;refine bR ?_;clear hap k1 k2 c2 f2;go_wp2_with fail;generalize w2.setCell ⟨jb,2,none⟩ (.slice a' (L.length+1) c')=w3 at *;have hj3:=Hj3.out;have hjlt3:jb < w3.heap.size:=hj3.lt;have q3:∀ w',aI w3.drew w' -> w'.cell? ⟨jb,3,none⟩=some (.int .i64 (taken:Int)):=fun w' hh=>by simpa using (Blk.keep hj3 (w':=w') (hh.block jb hjlt3)).cell 3
 have c3:=hj3.drew.cell 3;have f3:=hj3.drew.free 3;simp at c3;have hj4:=(hj3.set 3 (.int .i64 ((taken:Int)+(takes l.length:Int)))).drew
 have hrows4:bX _ (w3.setCell ⟨jb,3,none⟩ (.int .i64 ((taken:Int)+(takes l.length:Int)))).drew 0 (.slice a' (L.length+1) c') (L ++ [l]):=Hrows3.out.keep fun b hb _=>by
  exact Below.heap_setCell _ ⟨jb,3,none⟩ _ b (Hne2.out b (by simpa using hb))
 have ho4:aK (fun b=>b=jb \/ (Value.slice aR L.length cR).ownBlock=some b) w (w3.setCell ⟨jb,3,none⟩ (.int .i64 ((taken:Int)+(takes l.length:Int)))).drew:=(Ho3.out.setCell (.inl (.inl rfl)) _).drew;have Hj4:=ae hj4;have Hrows4:=ae hrows4;have Ho4:=ae ho4;clear hj4 hrows4 ho4 hj3;have hw:=af ((taken:Int)+(takes l.length:Int)) (by omega);refine bh aI 10 [(0,true),(1,true),(2,true),(3,true),(4,true),(5,true),(6,false),(7,true),(8,true),(9,true),(10,false)] (by kernel_rfl) (by kernel_rfl) (by kernel_rfl) aH aG ?_
 repeat (refine aX (v:=?_) rfl (aD rfl) (fun w' hC=>?_) (fun K hK=>?_);rotate_left;(focus (go_simp;first | done | exact rfl));go_simp;refine hK _ ?_;clear hK K)
 refine bS rfl rfl (fun KK hK=>?_);go_simp;refine(gl w3.drew l.length (by omega)).mono ?_;rintro e w' ⟨rfl,rfl⟩;refine⟨_,rfl,aH _,hK _ _ ?_⟩;clear hK KK;go_simp
 repeat (refine aX (v:=?_) rfl (aD rfl) (fun w' hC=>?_) (fun K hK=>?_);rotate_left;(focus (go_simp;first | done | exact rfl));go_simp;refine hK _ ?_;clear hK K)
 refine bK rfl rfl rfl (fun KK hK=>?_);go_simp;refine hK _ _ ?_;clear hK KK;go_simp;refine bR ?_;go_wp2_with fail
 go_end0
 refine⟨rfl,a',c',_,Hj4.out,Hrows4.out,Ho4.out,fun b hb=>?_⟩;have hsz:(w3.setCell ⟨jb,3,none⟩ (.int .i64 ((taken:Int)+(takes l.length:Int)))).drew.heap.size=w3.heap.size:=by simp
 rcases hb with hb | hb | hb
 ·refine⟨?_,(Hrows4.out.own hb).2.1⟩;rcases Hnew.out b hb with h | h
  ·exact .inl (.inl h)
  ·exact .inr h
 ·exact⟨.inl (.inr hb),by have:=(hown0 b (.inr hb)).2;rw[hsz];omega⟩
 ·exact⟨.inr hb.1,by have:=hb.2.1;rw[hsz];omega⟩
end
end Go.Proofs.YtobjdpngnfbicaaGreatDoor
