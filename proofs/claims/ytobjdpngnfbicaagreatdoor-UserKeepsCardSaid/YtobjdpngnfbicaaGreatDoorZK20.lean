/-
  J1 J2 J3
-/
import Derived.Test.YtobjdpngnfbicaaGreatDoorZK19
import Derived.StillTailTactics
import Derived.WalkLawsBesides
import Derived.Laws.CopyOwn
import Derived.Laws.IdiomCopy
import Derived.Test.YtobjdpngnfbicaaGreatDoorZK13
import Derived.RangeFuncNested
import Derived.RangeFuncBound
import Derived.RangeFuncLeaves
import Derived.Shelf.Abstract
import Derived.OwnWalkIn
import Derived.TacticsInMore
import Derived.LoopNIn
import Derived.LoopIn
open Go.Lib renaming hid->ae
open Go.IntWalk renaming i64_in->af,i64_quo->ah,u32_in->aj,rem_in->am,u8_in->ap
open Nat renaming le_refl->aq,le_trans->au,lt_of_lt_of_le->aw
open List renaming length_append->ax,append_assoc->az,length_cons->aB
open Go.Proofs.Tryz renaming prog->aC
namespace Go.Proofs.YtobjdpngnfbicaaGreatDoor
open Go.RowKit
set_option linter.unusedVariables false
set_option maxRecDepth 20000
section
attribute [local go_sem] opC upC
def cM (w:World) (jb kd g:Nat) (rv:Value) (taken:Nat) (dead:Bool):Prop:=
 Blk w jb [.pointer (some ⟨kd,0,none⟩),.int .u32 (g:Int),rv,.int .i64 (taken:Int),.bool dead] 141
theorem gl (w:World) (n:Nat) (hn:n <= 140737488355328):
 Calls aC 147 #[.int .i64 (n:Int)] w fun e w'=>e=.returned (.int .i64 (takes n:Int)) /\ w=w':=by
 have hI:(n:Int) <= 140737488355328:=by omega
 go_enter Tryz.func147,Tryz.ntmps147
 go_wp2_with fail
 all_goals
  go_ret
  exact⟨eY (by unfold takes;omega),rfl⟩
theorem iG (w:World) (jb kd:Nat) (g:Nat) (rv:Value) (taken:Nat) (dead:Bool) (K:DK) (M:MD) (hj:cM w jb kd g rv taken dead) (hd:bj w K M) (hK:K.d=kd) (h2:2 <= M.S.length):
 Calls aC 139 #[.pointer (some ⟨jb,0,none⟩)] w fun e w'=>e=.returned (.int .i64 (aT M.S.length:Int)) /\ w=w':=by
 subst hK;have c0:=hj.cell 0;simp at c0;have hle:=hd.le;have e:((aT M.S.length:Nat):Int)=((M.S.length:Int) - 2) / 2:=by unfold aT;omega
 have hI:(M.S.length:Int) <= 65536:=by omega
 have hI2:2 <= (M.S.length:Int):=by omega
 rw[e];clear e
 go_enter Tryz.func139,Tryz.ntmps139
 go_wp2_with fail;refine(jT w K M hd).mono ?_;rintro e w' ⟨rfl,rfl⟩;go_wp2_with fail
 go_ret
 exact⟨rfl,rfl⟩
theorem iX (w:World) (jb kd:Nat) (g:Nat) (rv:Value) (taken:Nat) (dead:Bool) (K:DK) (M:MD) (hj:cM w jb kd g rv taken dead) (hd:bj w K M) (hK:K.d=kd) (h2:2 <= M.S.length) (g' p:Nat) (hp:p <= 65536):
 Calls aC 149 #[.pointer (some ⟨jb,0,none⟩),.int .u32 (g':Int),.int .i64 (p:Int)] w fun e w'=>e=.returned (.int .i64 (bT M.S.length g' p:Int)) /\ w=w':=by
 have hle:=hd.le;have hh:aT M.S.length <= 65536:=by unfold aT;omega
 have hhalf:=iG w jb kd g rv taken dead K M hj hd hK h2;have e:((bT M.S.length g' p:Nat):Int)=2+(g':Int) % 2 * (aT M.S.length:Int)+(p:Int):=by unfold bT;simp
 rw[e];clear e;generalize aT M.S.length=H at *;have hpI:(p:Int) <= 65536:=by omega
 have hHI:(H:Int) <= 65536:=by omega
 have hb:0 <= (g':Int) % 2 * (H:Int) /\ (g':Int) % 2 * (H:Int) <= 65536:=by
  rcases(show (g':Int) % 2=0 \/ (g':Int) % 2=1 by omega) with h | h <;> rw[h] <;> omega
 have Hh:=ae hhalf;clear hhalf
 go_enter Tryz.func149,Tryz.ntmps149
 go_wp2_with fail;refine Hh.out.mono ?_;rintro e w' ⟨rfl,rfl⟩;go_wp2_with fail
 go_ret
 exact⟨rfl,rfl⟩
theorem kh (w:World) (K:DK) (M:MD) (hd:bj w K M):
 Calls aC 85 #[.pointer (some ⟨K.d,0,none⟩)] w fun e w'=>e=.returned (.int .i64 (if M.S.length < 8 then 6 else 0)) /\ w=w':=by
 by_cases h:M.S.length < 8
 all_goals
  first | have hI:(M.S.length:Int) < 8:=by omega | have hI:¬ (M.S.length:Int) < 8:=by omega
  go_enter Tryz.func85,Tryz.ntmps85
  go_wp2_with fail;refine(jT w K M hd).mono ?_;rintro e w' ⟨rfl,rfl⟩;go_wp2_with fail
  go_ret
  exact⟨rfl,rfl⟩
theorem kj (w:World) (jb kd:Nat) (g:Nat) (rv:Value) (taken:Nat) (dead:Bool) (K:DK) (M:MD) (hj:cM w jb kd g rv taken dead) (hd:bj w K M) (hK:K.d=kd) (h2:2 <= M.S.length) (ht:taken <= aT M.S.length):
 Calls aC 89 #[.pointer (some ⟨jb,0,none⟩)] w fun e w'=>e=.returned (.int .i64 ((aT M.S.length - taken:Nat):Int)) /\ ∃ n,w.drewN n=w':=by
 have hle:=hd.le;have hh:aT M.S.length <= 65536:=by unfold aT;omega
 have hhalf:=iG w.drew jb kd g rv taken dead K M hj.drew (hd.keep (w':=w.drew) fun _ _=>rfl) hK h2;have e:((aT M.S.length - taken:Nat):Int)=(aT M.S.length:Int) - (taken:Int):=by omega
 rw[e];clear e;have q3:∀ w',aI w.drew w' -> w'.cell? ⟨jb,3,none⟩=some (.int .i64 (taken:Int)):=fun w' hh=>by simpa using (hj.keep (w':=w') (hh.block jb hj.lt)).cell 3
 generalize aT M.S.length=H at *;have hHI:(H:Int) <= 65536:=by omega
 have hTI:(taken:Int) <= H:=by omega
 have hw:=af ((H:Int) - (taken:Int)) (by omega);have Hh:=ae hhalf;clear hhalf
 go_enter Tryz.func89,Tryz.ntmps89
 go_wp2_with fail;refine aJ aI [(0,true),(2,true),(3,true),(4,true),(5,true),(1,false),(6,true),(7,true)] (by kernel_rfl) (by kernel_rfl) aH aG ?_
 repeat (refine aF (v:=?_) rfl (aD rfl) (fun w' hC=>?_) (fun K hK=>?_);rotate_left;(focus (go_simp;first | done | exact rfl));go_simp;refine hK _ ?_;clear hK K)
 refine aQ rfl rfl (fun KK hK=>?_);go_simp;refine Hh.out.mono ?_;rintro e w' ⟨rfl,rfl⟩;refine⟨_,rfl,aH _,hK _ _ ?_⟩;clear hK KK;go_simp
 repeat (refine aF (v:=?_) rfl (aD rfl) (fun w' hC=>?_) (fun K hK=>?_);rotate_left;(focus (go_simp;first | done | exact rfl));go_simp;refine hK _ ?_;clear hK K)
 refine aW ?_;go_wp2_with fail
 go_ret
 exact⟨rfl,1,rfl⟩
theorem rF (w:World):
 Calls aC 89 #[.pointer none] w fun e w'=>e=.returned (.int .i64 0) /\ w=w':=by
 go_enter Tryz.func89,Tryz.ntmps89
 go_wp2_with fail
 go_ret
 exact⟨rfl,rfl⟩
theorem oS (w:World) (K:DK) (M:MD) (h:bj w K M) (at_:Nat) (hi:at_ < M.S.length) (hw:M.writes < 4611686018427387904) (F:aV) (v:Value) (l:List UInt8) (hv:Bytes F w v l) (hl:l.length=64) (hF:∀ b,F b -> ¬ K.foot b):
 Calls aC 33 #[.pointer (some ⟨K.d,0,none⟩),.int .i64 (at_:Int),v] w fun e w'=>e=.returned (.int .i64 (M.wr at_ l).2) /\
  (∃ K',K'.d=K.d /\ (∀ b,K'.foot b -> K.foot b) /\ bj w' K' (M.wr at_ l).1) /\ aK K.foot w w' /\ w'.heap.size=w.heap.size:=by
 cases hdn:M.down with
 | false=>
   have e:M.wr at_ l=M.write at_ l:=by simp[MD.wr,hdn]
   rw[e];exact rC w K M h at_ hi hdn hw F v l hv hl hF
 | true=>
   have e:M.wr at_ l=(M,341):=by simp[MD.wr,hdn]
   have hc:M.chk at_=341:=by simp[MD.chk,hdn]
   rw[e];refine(qm w K M at_ v h (by rw[hc];decide)).mono ?_;rintro e w' ⟨rfl,rfl⟩;exact⟨by rw[hc],⟨K,rfl,fun _ h=>h,h⟩,aK.refl _ _,rfl⟩
theorem ml (M:MD) (a:Nat) (l:List UInt8):(M.wr a l).1.S.length=M.S.length /\ (M.wr a l).1.writes <= M.writes+1:=by
 unfold MD.wr MD.write;split
 ·simp
 ·split <;> simp
def cZ (K:DK) (jb:Nat):aV:=fun b=>K.foot b \/ b=jb
theorem ko (w:World) (jb kd g:Nat) (rv:Value) (taken:Nat) (dead:Bool) (K:DK) (M:MD) (hj:cM w jb kd g rv taken dead) (hd:bj w K M) (hK:K.d=kd) (hjK:¬ K.foot jb) (at_:Nat) (hi:at_ < M.S.length) (hw:M.writes < 4611686018427387904)
 (sb:Nat) (l:List UInt8) (hs:SecAt w sb l) (hsK:¬ K.foot sb):
 Calls aC 140 #[.pointer (some ⟨jb,0,none⟩),.int .i64 (at_:Int),.pointer (some ⟨sb,0,none⟩)] w fun e w'=>e=.returned (.int .i64 (M.wr at_ l).2) /\
  (∃ K',K'.d=kd /\ (∀ b,K'.foot b -> K.foot b) /\ bj w' K' (M.wr at_ l).1) /\ cM w' jb kd g rv taken (!decide ((M.wr at_ l).2=0)) /\ aK (cZ K jb) w w' /\ w'.heap.size=w.heap.size:=by
 subst hK;have hwr:=oS w.drew K M (hd.keep (w':=w.drew) fun _ _=>rfl) at_ hi hw _ _ l (SecAt.bytes (w:=w.drew) ⟨hs.1.drew,hs.2⟩) hs.2 (fun b e hf=>hsK (e ▸ hf));have Hwr:=ae hwr;clear hwr;have c0:=hj.drew.cell 0;simp at c0
 go_enter Tryz.func140,Tryz.ntmps140
 go_wp2_with fail
 go_still_tail 8,(by kernel_rfl)
 change wpList _ _ _ _ _ w.drew;go_wp2_with fail;refine Hwr.out.mono ?_;rintro e w1 ⟨rfl,⟨K',hK',hKf,hd1⟩,ho1,hs1⟩;have hj1:cM w1 jb K.d g rv taken dead:=hj.keep (ho1.block jb (show jb < w.heap.size from hj.lt) hjK)
 have ho1':aK K.foot w w1:=⟨ho1.os,ho1.tape,ho1.output,ho1.size,ho1.block⟩
 generalize hr:(M.wr at_ l).2=r at *;have c4:=hj1.cell 4;have f4:=hj1.free 4;simp at c4;have hset:=hj1.set 4 (.bool (!decide (r=0)));have hd2:=hd1.only (F:=fun b=>b=jb) (aK.setCell (F:=fun b=>b=jb) (aK.refl _ w1) (p:=⟨jb,4,none⟩) (.inl rfl) (.bool (!decide (r=0)))) (fun b hb e=>hjK (e ▸ hKf b hb));have Hset:=ae hset;have Hd2:=ae hd2;clear hset hd2 hj1 hd1;go_wp2_with fail
 go_ret
 rw[hr];exact⟨rfl,⟨K',hK',hKf,Hd2.out⟩,Hset.out,(ho1'.mono (fun _ h=>.inl h)).setCell (.inl (.inr rfl)) _,by simpa[World.setCell] using hs1⟩
end
section
def CP (ts:Array TypeId) (t:TypeId) (args:Array Value):Sem Value:=Builtin.copy_ ts t args
theorem iY (ts:Array TypeId) (t:TypeId) (args:Array Value):Builtin.copy_ ts t args=CP ts t args:=rfl
attribute [local go_sem ↓] iY
attribute [local go_sem] opC upC
theorem rG:(aC.info? 5).map (·.size)=some 1:=by kernel_rfl
theorem iH {w:World} {sb:Nat} {l:List UInt8} (h:SecAt w sb l) (off dLen dCap:Nat) {F:aV} {v:Value} {x:List UInt8} (hv:Bytes F w v x) (n:Nat) (hn:n=Nat.min x.length dLen) (hfit:off+n <= 64):
 ∃ w',(CP #[41,41] 3 #[.slice (some ⟨sb,off,none⟩) dLen dCap,v]).run aC w=.ok (.int .i64 (n:Int)) w' /\ SecAt w' sb (ch l off (x.take n)) /\ aK (fun b=>b=sb) w w' /\ w'.heap.size=w.heap.size:=by
 obtain⟨hb,hl⟩:=h;obtain⟨a,cap,rfl,hc,hm,hz,hx⟩:=hv;have hxl:(x.take n).length=n:=by rw[List.length_take,hn];exact Nat.min_eq_left (Nat.min_le_left _ _)
 by_cases h0:n=0
 ·subst h0;refine⟨w,run_copy_none w 41 41 3 5 (some ⟨sb,off,none⟩) a dLen dCap _ cap Tryz.underlying41 rG hn.symm,⟨?_,?_⟩,aK.refl _ _,rfl⟩
  ·simpa[ch] using hb
  ·simp[ch,hl]
 ·rcases hx with rfl | ⟨b,o,L,t,fz,rfl,hF,hg,hle,hr⟩
  ·simp at hn;omega
  ·have hrun:=run_copy_row (P:=aC) w 41 41 3 5 sb off dLen dCap ⟨b,o,none⟩ x.length cap (l.map B).toArray 137 ((x.take n).map B) Tryz.underlying41 rG hb (by rw[List.length_map,hxl,hn])
    (fun j u hj=>by
     have hjn:j < n:=by have:=(List.getElem?_eq_some_iff.1 hj).1;rw[List.length_map,hxl] at this;exact this
     have hjx:j < x.length:=by rw[hn] at hjn;exact aw hjn (Nat.min_le_left _ _)
     rw[Addr.add_lit,cell_of_row w b (o+j) L t fz hg,hr j hjx];rw[List.getElem?_map,List.getElem?_take,if_pos hjn,List.getElem?_eq_getElem hjx] at hj
     exact hj) (by rw[List.length_map,hxl];simp[hl];omega) (fy _)
   simp only[List.length_map,hxl] at hrun;refine⟨_,hrun,⟨?_,?_⟩,aK.setRow (F:=fun b=>b=sb) (aK.refl _ w) (.inl rfl) _,by simp⟩
   ·have:=hb.row ((l.map B).take off ++ (x.take n).map B ++ (l.map B).drop (off+n));unfold ch;rw[hxl];simpa[List.map_append,List.map_take,List.map_drop] using this
   ·rw[fP _ _ _ (by rw[hxl,hl];exact hfit),hl]
theorem kp {w:World} {sb:Nat} {l:List UInt8} (h:SecAt w sb l):
 ∃ w',(CP #[41,9] 3 #[.slice (some ⟨sb,0,none⟩) 64 64,.string ⟨#[72,78,75,74]⟩]).run aC w=.ok (.int .i64 4) w' /\ SecAt w' sb (ch l 0 dy) /\ aK (fun b=>b=sb) w w' /\ w'.heap.size=w.heap.size:=by
 obtain⟨hb,hl⟩:=h;have hst:=run_storeCells_at aC sb 0 137 (dy.map B) 0 (l.map B).toArray w hb (by simp[dy,hl]) (fy _);simp only[Nat.zero_add,Nat.add_zero] at hst;refine⟨w.setRow sb ((l.map B).toArray.toList.take 0 ++ dy.map B ++ (l.map B).toArray.toList.drop (dy.map B).length).toArray,?_,⟨?_,?_⟩,aK.setRow (F:=fun b=>b=sb) (aK.refl _ w) (.inl rfl) _,by simp⟩
 ·obtain⟨i0,hi,hz0,hz1,hz2⟩:=info_parts ig;have hn:Nat.min (ByteArray.mk #[72,78,75,74]).size 64=4:=by decide
  have hlit:[Value.int .u8 72,.int .u8 78,.int .u8 75,.int .u8 74]=dy.map B:=rfl;simp only[CP,Builtin.copy_,Builtin.lenOf,Builtin.firstCells,sizeOf,typeInfo];simp[hi,hn];rw[hlit,hst];simp[goInt]
 ·have:=hb.row ((l.map B).take 0 ++ dy.map B ++ (l.map B).drop 4);unfold ch;simpa[List.map_append,List.map_take,List.map_drop,dy] using this
 ·rw[fP _ _ _ (by simp[dy,hl]),hl]
def dw:List UInt8:=List.replicate 64 0
theorem eh:dw.length=64:=by simp[dw]
theorem sT (g:Nat):ek ((ch (ch dw 0 dy) 4 (bL g)).take 60)=bZ g:=by
 unfold bZ
 congr 1
theorem eM (parts:Array (Nat × Value)):Instr.build 137 parts=BD 137 parts:=rfl
attribute [local go_sem ↓] eM
theorem fV (W:World):(BD 137 #[]).run aC W=.ok (.agg (dw.map B).toArray) W:=by kernel_rfl
theorem SecAt.new (w:World) (l:List UInt8) (hl:l.length=64):SecAt (w.alloc (.cells (l.map B).toArray 137)) w.heap.size l:=
 ⟨by simpa using Blk.new w (l.map B).toArray 137,hl⟩
theorem dL {F:aV} {B0:Nat} {a w w':World} (h:Below B0 a w) (ho:aK F w w') (hF:∀ b,F b -> B0 <= b) (hs:B0 <= w.heap.size):Below B0 a w':=h.trans (ho.below hF hs)
set_option maxHeartbeats 1000000 in
theorem nH (w:World) (hq:bQ w) (h0:0 < w.heap.size) (g:Nat) (hg:g < 4294967296):
 Calls aC 87 #[.int .u32 (g:Int)] w fun e w'=>∃ sb,e=.returned (.pointer (some ⟨sb,0,none⟩)) /\ w.heap.size <= sb /\ SecAt w' sb (bZ g) /\ Below w.heap.size w w':=by
 have hbd:=fV w
 obtain⟨w1,hw1⟩:∃ w1,w1=w.alloc (.cells (dw.map B).toArray 137):=⟨_,rfl⟩
 have hs1:SecAt w1 w.heap.size dw:=by rw[hw1];exact SecAt.new _ _ eh
 have hk1:Below w.heap.size w w1:=by rw[hw1];exact aE _ _
 have hz1:w1.heap.size=w.heap.size+1:=by rw[hw1];simp
 have hq1:=hq.keep (hk1.block 0 h0);obtain⟨w2,hcp,hs2,ho2,hz2⟩:=kp hs1;have hk2:=dL hk1 ho2 (fun b e=>by rw[e];exact aq _) (by omega);have hq2:=hq1.keep (ho2.block 0 (by omega) (by omega));rw[hw1] at hcp;have Hw1:=ae hw1;clear hw1;have hput:=gj w2 w.heap.size _ hs2 4 g (by omega) hg;have Hput:=ae hput;clear hput
 go_enter Tryz.func87,Tryz.ntmps87
 go_wp2_with fail;refine Hput.out.mono ?_;rintro e w3 ⟨rfl,hs3,ho3,hz3⟩;have hk3:=dL hk2 ho3 (fun b e=>by rw[e];exact aq _) (by omega);have hq3:=hq2.keep (ho3.block 0 (by omega) (by omega));go_wp2_with fail;refine(nG w3 hq3 w.heap.size _ hs3).mono ?_;rintro e w4 ⟨rfl,hs4,ho4,hz4⟩;have hk4:=dL hk3 ho4 (fun b e=>by rw[e];exact aq _) (by omega);rw[sT] at hs4;go_wp2_with fail
 go_ret
 exact⟨_,rfl,aq _,hs4,hk4⟩
end
section
open Go.Shelf
attribute [local go_sem ↓] iY eM
attribute [local go_sem] opC upC Oper.semAt_some
abbrev lF (x:Nat × Nat):Array Value:=#[.int .i64 (x.1:Int),.pointer (some ⟨x.2,0,none⟩)]
def tp (n0 g k:Nat) (l:List UInt8) (pre:List (Nat × Nat)) (x:Nat × Nat) (W:World):Prop:=
 x.1=pre.length /\ x.1 < takes l.length /\ SecAt W x.2 (cG g k l x.1) /\ n0 <= x.2
structure dE (W:World) (F:aV) (bb gb ob g k:Nat) (v:Value) (l:List UInt8):Prop where
 bcell:W.cell? ⟨bb,0,none⟩=some v
 gcell:W.cell? ⟨gb,0,none⟩=some (.int .u32 (g:Int))
 ocell:W.cell? ⟨ob,0,none⟩=some (.int .u32 (k:Int))
 bytes:Bytes F W v l
 quarter:bQ W
theorem gU {w:World} {a:Addr} {v:Value} (h:w.cell? a=some v):a.block < w.heap.size:=World.block_lt_of_cell? w a h
theorem dE.only {W W':World} {F G:aV} {bb gb ob g k:Nat} {v:Value} {l:List UInt8} (h:dE W F bb gb ob g k v l) (ho:aK G W W') (hd:∀ b,b=bb \/ b=gb \/ b=ob \/ b=0 \/ F b -> ¬ G b):dE W' F bb gb ob g k v l:=by
 obtain⟨h1,h2,h3,h4,h5⟩:=h;have l1:=gU h1;have l2:=gU h2;have l3:=gU h3;refine⟨?_,?_,?_,h4.only ho fun b hb=>hd b (.inr (.inr (.inr (.inr hb)))),h5.keep (ho.block 0 (by omega) (hd 0 (.inr (.inr (.inr (.inl rfl))))))⟩
 ·rw[World.cell?_of_block (w:=W) (a:=⟨bb,0,none⟩) (ho.block bb l1 (hd bb (.inl rfl)))];exact h1
 ·rw[World.cell?_of_block (w:=W) (a:=⟨gb,0,none⟩) (ho.block gb l2 (hd gb (.inr (.inl rfl))))];exact h2
 ·rw[World.cell?_of_block (w:=W) (a:=⟨ob,0,none⟩) (ho.block ob l3 (hd ob (.inr (.inr (.inl rfl)))))];exact h3
structure fm (n0:Nat) (F:aV) (A C:World):Prop where
 size:A.heap.size <= C.heap.size
 block:∀ k,k < n0 -> ¬ F k -> C.heap[k]?=A.heap[k]?
theorem fm.trans {n0:Nat} {F:aV} {A C D:World} (h:fm n0 F A C) (k:fm n0 F C D):fm n0 F A D:=⟨au h.size k.size,fun b hb hf=>(k.block b hb hf).trans (h.block b hb hf)⟩
theorem fm.put {n0:Nat} {F:aV} (W:World) (l:Nat) (o:Obj) (hl:n0 <= l):fm n0 F W (W.putObj l o):=⟨by simp,fun k hk _=>World.putObj_heap_other (by omega)⟩
theorem fm.of_only {n0:Nat} {F:aV} {A C:World} (h:aK F A C) (hn:n0 <= A.heap.size):fm n0 F A C:=⟨h.size,fun k hk hf=>h.block k (by omega) hf⟩
theorem dE.keepsB {W W':World} {n0:Nat} {F G:aV} {bb gb ob g k:Nat} {v:Value} {l:List UInt8} (h:dE W F bb gb ob g k v l) (ho:fm n0 G W W') (hd:∀ b,b=bb \/ b=gb \/ b=ob \/ b=0 \/ F b -> b < n0 /\ ¬ G b):dE W' F bb gb ob g k v l:=by
 obtain⟨h1,h2,h3,h4,h5⟩:=h;have hh:∀ b,b=bb \/ b=gb \/ b=ob \/ b=0 \/ F b -> W'.heap[b]?=W.heap[b]?:=fun b hb=>ho.block b (hd b hb).1 (hd b hb).2
 refine⟨?_,?_,?_,h4.keep fun b hb _=>hh b (.inr (.inr (.inr (.inr hb)))),h5.keep (hh 0 (.inr (.inr (.inr (.inl rfl)))))⟩
 ·rw[World.cell?_of_block (w:=W) (a:=⟨bb,0,none⟩) (hh bb (.inl rfl))];exact h1
 ·rw[World.cell?_of_block (w:=W) (a:=⟨gb,0,none⟩) (hh gb (.inr (.inl rfl)))];exact h2
 ·rw[World.cell?_of_block (w:=W) (a:=⟨ob,0,none⟩) (hh ob (.inr (.inr (.inl rfl))))];exact h3
theorem dE.later {W W':World} {F:aV} {bb gb ob g k:Nat} {v:Value} {l:List UInt8} (h:dE W F bb gb ob g k v l) (hb:Below W.heap.size W W'):dE W' F bb gb ob g k v l:=
 h.only (aK.of_below (F:=none_) hb) (fun _ _ h=>h)
theorem iZ {w w':World} (h:Below w.heap.size w w'):w.grownBy w' none:=⟨h.os,h.tape,h.output,h.size,fun k hk _=>h.block k hk⟩
theorem jM {p q x:List UInt8} {a:Nat} (ha:a=p.length) (n:Nat) (hx:x.length=n) (y:List UInt8) (hy:y.length=n):ch (p ++ x ++ q) a y=p ++ y ++ q:=by
 subst ha;subst hx;unfold ch;rw[hy,show p.length+x.length=(p ++ x).length from by simp,List.drop_left,az p x q,List.take_left]
theorem rH (g k:Nat) (l:List UInt8) (i:Nat):ek ((ch (ch (ch (ch dw 0 (bL g)) 4 (bL k)) 8 (bL (l.length - 48 * i))) 12 ((l.drop (48 * i)).take (Nat.min (l.drop (48 * i)).length 48))).take 60)=cG g k l i:=by
 unfold cG
 congr 1
 have hz:dw = [] ++ bL 0 ++ (bL 0 ++ bL 0 ++ List.replicate 48 0 ++ bL 0):=by decide
 have e1:ch dw 0 (bL g)=bL g ++ bL 0 ++ (bL 0 ++ List.replicate 48 0 ++ bL 0):=by
  rw[hz];have:=jM (p:=[]) (x:=bL 0) (q:=bL 0 ++ bL 0 ++ List.replicate 48 0 ++ bL 0) (a:=0) rfl 4 rfl (bL g) rfl;rw[this];simp
 have e2:ch (ch dw 0 (bL g)) 4 (bL k)=bL g ++ bL k ++ bL 0 ++ (List.replicate 48 0 ++ bL 0):=by
  rw[e1];have:=jM (p:=bL g) (x:=bL 0) (q:=bL 0 ++ List.replicate 48 0 ++ bL 0) (a:=4) rfl 4 rfl (bL k) rfl;rw[this];simp
 have e3:ch (ch (ch dw 0 (bL g)) 4 (bL k)) 8 (bL (l.length - 48 * i))=bL g ++ bL k ++ bL (l.length - 48 * i) ++ List.replicate 48 0 ++ bL 0:=by
  rw[e2];have:=jM (p:=bL g ++ bL k) (x:=bL 0) (q:=List.replicate 48 0 ++ bL 0) (a:=8) rfl 4 rfl (bL (l.length - 48 * i)) rfl;rw[this];simp
 rw[e3];generalize hb:l.drop (48 * i)=b
 have ht:b.take (Nat.min b.length 48)=b.take 48:=by
  rw[List.take_eq_take_iff];have:Nat.min b.length 48=min b.length 48:=rfl;omega
 rw[ht];have hpl:(bL g ++ bL k ++ bL (l.length - 48 * i)).length=12:=rfl;have hxl:(b.take 48).length=min 48 b.length:=List.length_take
 have hrep:List.replicate 48 (0:UInt8)=List.replicate (b.take 48).length 0 ++ List.replicate (48 - b.length) 0:=by
  rw[List.replicate_append_replicate]
  congr 1
  omega
 rw[hrep];have e4:=jM (p:=bL g ++ bL k ++ bL (l.length - 48 * i)) (q:=List.replicate (48 - b.length) 0 ++ bL 0) (x:=List.replicate (b.take 48).length 0) (a:=12) hpl.symm _ (by simp) (b.take 48) rfl;simp only[az] at e4 ⊢;rw[e4]
 have hfin:(bL g ++ (bL k ++ (bL (l.length - 48 * i) ++ (b.take 48 ++ List.replicate (48 - b.length) 0)))).length=60:=by
  simp only[ax,dl,hxl,List.length_replicate];omega
 have:bL g ++ (bL k ++ (bL (l.length - 48 * i) ++ (b.take 48 ++ (List.replicate (48 - b.length) 0 ++ bL 0))))=(bL g ++ (bL k ++ (bL (l.length - 48 * i) ++ (b.take 48 ++ List.replicate (48 - b.length) 0)))) ++ bL 0:=by simp
 rw[this,<- hfin,List.take_left];rfl
theorem Bytes.drop {F:aV} {w:World} {a:Option Addr} {cap:Nat} {l:List UInt8} (h:Bytes F w (.slice a l.length cap) l) (k:Nat) (hk:k <= l.length):
 Bytes F w (.slice (if cap=k then a else a.map fun x=>x.add k) (l.length - k) (cap - k)) (l.drop k):=by
 obtain⟨a',cap',hv,hc,hm,hz,hx⟩:=h;simp at hv;obtain⟨rfl,rfl⟩:=hv;refine⟨_,cap - k,by rw[List.length_drop],by rw[List.length_drop];omega,by omega,fun hn=>?_,?_⟩
 ·split at hn
  ·have:=hz hn;omega
  ·rw[Option.map_eq_none_iff] at hn;have:=hz hn;omega
 ·by_cases hk2:k=l.length
  ·left;rw[hk2,List.drop_length]
  ·right;rcases hx with rfl | ⟨b,off,L,t,fz,rfl,hF,hg,hle,hr⟩
   ·simp at hk hk2;omega
   ·rw[if_neg (by omega)];refine⟨b,off+k,L,t,fz,by simp[Addr.add],hF,hg,by rw[List.length_drop];omega,fun i hi=>?_⟩;rw[List.length_drop] at hi;have:=hr (k+i) (by omega);rw[Nat.add_assoc,this];simp
set_option maxHeartbeats 2000000 in
theorem oT (w:World) (F G:aV) (bb gb ob g k:Nat) (v:Value) (l:List UInt8) (h:dE w F bb gb ob g k v l) (hd:∀ b,b=bb \/ b=gb \/ b=ob \/ b=0 \/ F b -> b < w.heap.size /\ ¬ G b) (hl:l.length <= 65536) (hg:g < 4294967296) (hk:k < 4294967296):
 SeqG aC 197 #[.pointer (some ⟨bb,0,none⟩),.pointer (some ⟨gb,0,none⟩),.pointer (some ⟨ob,0,none⟩)] lF (fm w.heap.size G) (tp w.heap.size g k l) (fun xs=>xs.length=takes l.length) (fun _=>True) w:=by
 intro lo J Jx W hW hJ hJx hY h0;have hin:dE W F bb gb ob g k v l:=h.later hW;have hws:=hW.size;obtain⟨a,cap,rfl,hc,hm,-,-⟩:=h.bytes;have htk:=gl;refine callsIn_of_wp Tryz.func197 rfl trivial ?_ rfl;simp only[Tryz.ntmps197,List.size_toArray,aB,List.length_nil,Nat.reduceAdd,Nat.reduceSub,Array.replicate_succ,Array.replicate_zero,List.push_toArray,List.append_toArray,List.nil_append,List.cons_append];have cb:=hin.bcell;have cg:=hin.gcell;have co:=hin.ocell
 gi_wp2_with fail
 refine⟨trivial,callsIn_wide.2 ((gl W l.length (by omega)).mono ?_)⟩;rintro e w' ⟨rfl,rfl⟩;have htp:=cH l.length;have htb:takes l.length <= 65536:=by unfold takes;omega
 clear cb cg co
 gi_wp2_with fail
 gi_loopw [10] (fun i wr=>∃ (m:Nat) (pre:List (Nat × Nat)),m <= takes l.length /\ i=.int .i64 (m:Int) /\ pre.length=m /\ J pre wr /\ dE wr F bb gb ob g k (.slice a l.length cap) l /\ W.heap.size <= wr.heap.size) (fun i _=>takes l.length - (intOf i).toNat)
 case atStart=>exact⟨0,[],by omega,rfl,rfl,h0,hin,aq _⟩
 case round=>
  obtain⟨m,pre,hm1,rfl,hpl,hJr,hinr,hsz⟩:=hrel
  by_cases hlt:m < takes l.length
  ·have hltI:(m:Int) < (takes l.length:Int):=by omega
   have h48:48 * m <= l.length:=by unfold takes at hlt;omega
   have hbd:=fV wr
   obtain⟨w1,hw1⟩:∃ w1,w1=wr.alloc (.cells (dw.map B).toArray 137):=⟨_,rfl⟩
   have hs1:SecAt w1 wr.heap.size dw:=by rw[hw1];exact SecAt.new _ _ eh
   have hk1:Below wr.heap.size wr w1:=by rw[hw1];exact aE _ _
   have hz1:w1.heap.size=wr.heap.size+1:=by rw[hw1];simp
   have hin1:=hinr.later hk1;have Hw1:=ae hw1;clear hw1;have cg:=hinr.gcell;have lg:=gU cg;dsimp only at lg
   gi_wp2_with fail
   rw[<- Hw1.out];refine⟨trivial,callsIn_wide.2 ((gj w1 wr.heap.size _ hs1 0 g (by omega) hg).mono ?_)⟩;rintro e w2 ⟨rfl,hs2,ho2,hz2⟩;clear cg lg;have hk2:=dL hk1 ho2 (fun b e=>by rw[e];exact aq _) (by omega);have hin2:=hinr.later hk2;have co:=hin2.ocell
   gi_wp2_with fail
   refine⟨trivial,callsIn_wide.2 ((gj w2 wr.heap.size _ hs2 4 k (by omega) hk).mono ?_)⟩;rintro e w3 ⟨rfl,hs3,ho3,hz3⟩;clear co;have hk3:=dL hk2 ho3 (fun b e=>by rw[e];exact aq _) (by omega);have hin3:=hinr.later hk3;have cb:=hin3.bcell;have hrI:((l.length - 48 * m:Nat):Int)=(l.length:Int) - 48 * (m:Int):=by omega
   have hput:=gj w3 wr.heap.size _ hs3 8 (l.length - 48 * m) (by omega) (by omega);rw[hrI] at hput;have Hput:=ae hput;clear hput;have h48I:48 * (m:Int) <= (l.length:Int):=by omega
   have hlI:(l.length:Int) <= 65536:=by omega
   clear hrI
   gi_wp2_with fail
   refine⟨trivial,callsIn_wide.2 ((Hput.out).mono ?_)⟩;rintro e w4 ⟨rfl,hs4,ho4,hz4⟩;clear cb;have hk4:=dL hk3 ho4 (fun b e=>by rw[e];exact aq _) (by omega);have hin4:=hinr.later hk4
   gi_wp2_with fail
   refine wpIn_wide.2 ?_;have cb:∀ w',aI w4.drew w' -> w'.cell? ⟨bb,0,none⟩=some (.slice a l.length cap):=fun w' hh=>((hin4.later (W':=w4.drew) (Below.refl _ _).drew).later hh).bcell
   have hT:((48:Int) * (m:Int)).toNat=48 * m:=by omega
   obtain⟨w5,hcp,hs5,ho5,hz5⟩:=iH (w:=w4.drew) ⟨hs4.1.drew,hs4.2⟩ 12 48 52 ((hin4.bytes.keep (w':=w4.drew) fun b _ _=>rfl).drop (48 * m) h48) _ rfl (by have:Nat.min (l.drop (48 * m)).length 48 <= 48:=Nat.min_le_right _ _;omega);have hk5:Below wr.heap.size wr w5:=hk4.drew.trans (ho5.below (fun b e=>by rw[e];exact aq _) (show wr.heap.size <= w4.heap.size by omega));have hz5:w5.heap.size=w4.heap.size:=hz5;generalize hnn:Nat.min (l.drop (48 * m)).length 48=nn at *;have Hnn:=ae hnn;clear hnn;refine bh aI 7 [(0,true),(1,true),(2,true),(3,true),(4,true),(5,true),(6,true),(7,false)] (by kernel_rfl) (by kernel_rfl) (by kernel_rfl) aH aG ?_
   repeat (refine aX (v:=?_) rfl (aD rfl) (fun w' hC=>?_) (fun K hK=>?_);rotate_left;(focus (go_simp;(try simp(disch:=omega) only[af]);(try simp(disch:=omega) only[aj]);(try simp(disch:=omega) only[ap]);(try simp(disch:=omega) only[ah]);(try simp(disch:=omega) only[am]);first | done | exact rfl));go_simp;(try simp(disch:=omega) only[af]);(try simp(disch:=omega) only[aj]);(try simp(disch:=omega) only[ap]);(try simp(disch:=omega) only[ah]);(try simp(disch:=omega) only[am]);refine hK _ ?_;clear hK K)
   generalize (if cap=48 * m then a else a.map fun x=>x.add (48 * m))=aa at *;refine bK rfl rfl rfl (fun KK hK=>?_);go_simp;refine hK _ _ ?_;clear hK KK;go_simp;refine bR ?_;have hin5:=hinr.later hk5;clear cb hcp hT
   gi_wp2_with fail
   refine⟨trivial,callsIn_wide.2 ((nG w5 hin5.quarter wr.heap.size _ hs5).mono ?_)⟩;rintro e w6 ⟨rfl,hs6,ho6,hz6⟩;have hk6:=dL hk5 ho6 (fun b e=>by rw[e];exact aq _) (by omega);rw[<- Hnn.out,rH] at hs6;obtain⟨fn,tmps,assign,body,hy,hR⟩:=hY pre (m,wr.heap.size) w6 (hJ _ _ _ none hJr (iZ hk6) (fun r e=>by cases e)) ⟨hpl.symm,hlt,hs6,by show w.heap.size <= wr.heap.size;omega⟩;dsimp only[lF] at hy;have HR:=ae hR;clear hR
   gi_wp2_with fail
   refine HR.out.mono ?_;rintro e W3 (⟨rfl,hJ3,hk3'⟩ | ⟨rfl,hJx3⟩)
   ·have hs3:w6.heap.size <= W3.heap.size:=hk3'.size;have hin3':=(hinr.later hk6).keepsB hk3' hd;have hz6:wr.heap.size <= w6.heap.size:=hk6.size;clear hin5 hin4 hin3 hin2 hin1 hk3' hJr hinr
    gi_wp2_with fail
    go_roundw
    case rel=>exact⟨m+1,pre ++ [(m,wr.heap.size)],by omega,by go_num,by simp[hpl],hJ3,hin3',by omega⟩
    case measure=>simp[intOf];omega
   ·gi_wp2_with fail
    refine bodyPost_ret (results_none rfl _ _ _) rfl ?_;exact⟨⟨_,rfl⟩,.inr ⟨_,trivial,hJx3⟩⟩
  ·have hltI:¬ (m:Int) < (takes l.length:Int):=by omega
   gi_wp2_with fail
   go_end0
   exact⟨⟨_,rfl⟩,.inl ⟨pre,by show pre.length=takes l.length;omega,hJr⟩⟩
end
end Go.Proofs.YtobjdpngnfbicaaGreatDoor
