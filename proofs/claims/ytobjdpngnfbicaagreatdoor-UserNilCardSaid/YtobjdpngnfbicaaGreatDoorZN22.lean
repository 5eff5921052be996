/-
  J1 J2 J3
-/
import Derived.Test.YtobjdpngnfbicaaGreatDoorZN21
import Derived.StillTailTactics
import Derived.WalkLawsBesides
import Derived.Laws.CopyOwn
import Derived.Laws.IdiomCopy
import Derived.Test.YtobjdpngnfbicaaGreatDoorZN14
import Derived.RangeFuncNested
import Derived.RangeFuncBound
import Derived.RangeFuncLeaves
import Derived.Shelf.Abstract
import Derived.OwnWalkIn
import Derived.TacticsInMore
import Derived.LoopNIn
import Derived.LoopIn
namespace Go.Proofs.YtobjdpngnfbicaaGreatDoor
open Go.RowKit
set_option linter.unusedVariables false
set_option maxRecDepth 20000
attribute [local go_sem] opC upC
def JBlk (w:World) (jb kd g:Nat) (rv:Value) (taken:Nat) (dead:Bool):Prop:=
 Blk w jb [.pointer (some ⟨kd,0,none⟩),.int .u32 (g:Int),rv,.int .i64 (taken:Int),.bool dead] 141
theorem takes_any (w:World) (n:Nat) (hn:n≤140737488355328):
 Calls Tryz.prog 147 #[.int .i64 (n:Int)] w fun e w'=>e=.returned (.int .i64 (takes n:Int))∧w=w':=by
 have hI:(n:Int)≤140737488355328:=by omega
 go_enter Tryz.func147,Tryz.ntmps147
 go_wp2_with fail
 all_goals
  go_ret
  exact ⟨ret_int (by unfold takes;omega),rfl⟩
theorem half_any (w:World) (jb kd:Nat) (g:Nat) (rv:Value) (taken:Nat) (dead:Bool) (K:DK) (M:MD) (hj:JBlk w jb kd g rv taken dead) (hd:DiskAt w K M) (hK:K.d=kd) (h2:2≤M.S.length):
 Calls Tryz.prog 139 #[.pointer (some ⟨jb,0,none⟩)] w fun e w'=>e=.returned (.int .i64 (halfN M.S.length:Int))∧w=w':=by
 subst hK
 have c0:=hj.cell 0
 simp at c0
 have hle:=hd.le
 have e:((halfN M.S.length:Nat):Int)=((M.S.length:Int) - 2) / 2:=by unfold halfN;omega
 have hI:(M.S.length:Int)≤65536:=by omega
 have hI2:2≤(M.S.length:Int):=by omega
 rw [e]
 clear e
 go_enter Tryz.func139,Tryz.ntmps139
 go_wp2_with fail
 refine (size_any w K M hd).mono ?_
 rintro e w' ⟨rfl,rfl⟩
 go_wp2_with fail
 go_ret
 exact ⟨rfl,rfl⟩
theorem place_any (w:World) (jb kd:Nat) (g:Nat) (rv:Value) (taken:Nat) (dead:Bool) (K:DK) (M:MD) (hj:JBlk w jb kd g rv taken dead) (hd:DiskAt w K M) (hK:K.d=kd) (h2:2≤M.S.length) (g' p:Nat) (hp:p≤65536):
 Calls Tryz.prog 149 #[.pointer (some ⟨jb,0,none⟩),.int .u32 (g':Int),.int .i64 (p:Int)] w fun e w'=>e=.returned (.int .i64 (placeN M.S.length g' p:Int))∧w=w':=by
 have hle:=hd.le
 have hh:halfN M.S.length≤65536:=by unfold halfN;omega
 have hhalf:=half_any w jb kd g rv taken dead K M hj hd hK h2
 have e:((placeN M.S.length g' p:Nat):Int)=2+(g':Int) % 2 * (halfN M.S.length:Int)+(p:Int):=by unfold placeN;simp
 rw [e]
 clear e
 generalize halfN M.S.length=H at *
 have hpI:(p:Int)≤65536:=by omega
 have hHI:(H:Int)≤65536:=by omega
 have hb:0≤(g':Int) % 2 * (H:Int)∧(g':Int) % 2 * (H:Int)≤65536:=by
  rcases (show (g':Int) % 2=0∨(g':Int) % 2=1 by omega) with h | h <;> rw [h] <;> omega
 have Hh:=Lib.hid hhalf;clear hhalf
 go_enter Tryz.func149,Tryz.ntmps149
 go_wp2_with fail
 refine Hh.out.mono ?_
 rintro e w' ⟨rfl,rfl⟩
 go_wp2_with fail
 go_ret
 exact ⟨rfl,rfl⟩
theorem jcheck_any (w:World) (K:DK) (M:MD) (hd:DiskAt w K M):
 Calls Tryz.prog 85 #[.pointer (some ⟨K.d,0,none⟩)] w fun e w'=>e=.returned (.int .i64 (if M.S.length < 8 then 6 else 0))∧w=w':=by
 by_cases h:M.S.length < 8
 all_goals
  first | have hI:(M.S.length:Int) < 8:=by omega | have hI:¬ (M.S.length:Int) < 8:=by omega
  go_enter Tryz.func85,Tryz.ntmps85
  go_wp2_with fail
  refine (size_any w K M hd).mono ?_
  rintro e w' ⟨rfl,rfl⟩
  go_wp2_with fail
  go_ret
  exact ⟨rfl,rfl⟩
theorem free_any (w:World) (jb kd:Nat) (g:Nat) (rv:Value) (taken:Nat) (dead:Bool) (K:DK) (M:MD) (hj:JBlk w jb kd g rv taken dead) (hd:DiskAt w K M) (hK:K.d=kd) (h2:2≤M.S.length) (ht:taken≤halfN M.S.length):
 Calls Tryz.prog 89 #[.pointer (some ⟨jb,0,none⟩)] w fun e w'=>e=.returned (.int .i64 ((halfN M.S.length - taken:Nat):Int))∧∃ n,w.drewN n=w':=by
 have hle:=hd.le
 have hh:halfN M.S.length≤65536:=by unfold halfN;omega
 have hhalf:=half_any w.drew jb kd g rv taken dead K M hj.drew (hd.keep (w':=w.drew) fun _ _=>rfl) hK h2
 have e:((halfN M.S.length - taken:Nat):Int)=(halfN M.S.length:Int) - (taken:Int):=by omega
 rw [e]
 clear e
 have q3:∀ w',Later w.drew w'→w'.cell? ⟨jb,3,none⟩=some (.int .i64 (taken:Int)):=fun w' hh=>by simpa using (hj.keep (w':=w') (hh.block jb hj.lt)).cell 3
 generalize halfN M.S.length=H at *
 have hHI:(H:Int)≤65536:=by omega
 have hTI:(taken:Int)≤H:=by omega
 have hw:=IntWalk.i64_in ((H:Int) - (taken:Int)) (by omega)
 have Hh:=Lib.hid hhalf;clear hhalf
 go_enter Tryz.func89,Tryz.ntmps89
 go_wp2_with fail
 refine wp_region_can Later [(0,true),(2,true),(3,true),(4,true),(5,true),(1,false),(6,true),(7,true)] (by kernel_rfl) (by kernel_rfl) later_refl later_trans ?_
 repeat (refine can_yes (v:=?_) rfl (wanted_none rfl) (fun w' hC=>?_) (fun K hK=>?_);rotate_left;(focus (go_simp;first | done | exact rfl));go_simp;refine hK _ ?_;clear hK K)
 refine can_go rfl rfl (fun KK hK=>?_)
 go_simp
 refine Hh.out.mono ?_
 rintro e w' ⟨rfl,rfl⟩
 refine ⟨_,rfl,later_refl _,hK _ _ ?_⟩
 clear hK KK
 go_simp
 repeat (refine can_yes (v:=?_) rfl (wanted_none rfl) (fun w' hC=>?_) (fun K hK=>?_);rotate_left;(focus (go_simp;first | done | exact rfl));go_simp;refine hK _ ?_;clear hK K)
 refine can_nil ?_
 go_wp2_with fail
 go_ret
 exact ⟨rfl,1,rfl⟩
theorem free_nil (w:World):
 Calls Tryz.prog 89 #[.pointer none] w fun e w'=>e=.returned (.int .i64 0)∧w=w':=by
 go_enter Tryz.func89,Tryz.ntmps89
 go_wp2_with fail
 go_ret
 exact ⟨rfl,rfl⟩
theorem wr_any (w:World) (K:DK) (M:MD) (h:DiskAt w K M) (at_:Nat) (hi:at_ < M.S.length) (hw:M.writes < 4611686018427387904) (F:Blks) (v:Value) (l:List UInt8) (hv:Bytes F w v l) (hl:l.length=64) (hF:∀ b,F b→¬ K.foot b):
 Calls Tryz.prog 33 #[.pointer (some ⟨K.d,0,none⟩),.int .i64 (at_:Int),v] w fun e w'=>e=.returned (.int .i64 (M.wr at_ l).2) ∧
  (∃ K',K'.d=K.d∧(∀ b,K'.foot b→K.foot b)∧DiskAt w' K' (M.wr at_ l).1)∧Only K.foot w w'∧w'.heap.size=w.heap.size:=by
 cases hdn:M.down with
 | false=>
   have e:M.wr at_ l=M.write at_ l:=by simp [MD.wr,hdn]
   rw [e]
   exact write_ok w K M h at_ hi hdn hw F v l hv hl hF
 | true=>
   have e:M.wr at_ l=(M,341):=by simp [MD.wr,hdn]
   have hc:M.chk at_=341:=by simp [MD.chk,hdn]
   rw [e]
   refine (write_chk w K M at_ v h (by rw [hc];decide)).mono ?_
   rintro e w' ⟨rfl,rfl⟩
   exact ⟨by rw [hc],⟨K,rfl,fun _ h=>h,h⟩,Only.refl _ _,rfl⟩
theorem wr_len (M:MD) (a:Nat) (l:List UInt8):(M.wr a l).1.S.length=M.S.length∧(M.wr a l).1.writes≤M.writes+1:=by
 unfold MD.wr MD.write
 split
 · simp
 · split <;> simp
def jFoot (K:DK) (jb:Nat):Blks:=fun b=>K.foot b∨b=jb
theorem jwrite_any (w:World) (jb kd g:Nat) (rv:Value) (taken:Nat) (dead:Bool) (K:DK) (M:MD) (hj:JBlk w jb kd g rv taken dead) (hd:DiskAt w K M) (hK:K.d=kd) (hjK:¬ K.foot jb) (at_:Nat) (hi:at_ < M.S.length) (hw:M.writes < 4611686018427387904)
 (sb:Nat) (l:List UInt8) (hs:SecAt w sb l) (hsK:¬ K.foot sb):
 Calls Tryz.prog 140 #[.pointer (some ⟨jb,0,none⟩),.int .i64 (at_:Int),.pointer (some ⟨sb,0,none⟩)] w fun e w'=>e=.returned (.int .i64 (M.wr at_ l).2) ∧
  (∃ K',K'.d=kd∧(∀ b,K'.foot b→K.foot b)∧DiskAt w' K' (M.wr at_ l).1)∧JBlk w' jb kd g rv taken (!decide ((M.wr at_ l).2=0))∧Only (jFoot K jb) w w'∧w'.heap.size=w.heap.size:=by
 subst hK
 have hwr:=wr_any w.drew K M (hd.keep (w':=w.drew) fun _ _=>rfl) at_ hi hw _ _ l (SecAt.bytes (w:=w.drew) ⟨hs.1.drew,hs.2⟩) hs.2 (fun b e hf=>hsK (e ▸ hf))
 have Hwr:=Lib.hid hwr;clear hwr
 have c0:=hj.drew.cell 0
 simp at c0
 go_enter Tryz.func140,Tryz.ntmps140
 go_wp2_with fail
 go_still_tail 8,(by kernel_rfl)
 change wpList _ _ _ _ _ w.drew
 go_wp2_with fail
 refine Hwr.out.mono ?_
 rintro e w1 ⟨rfl,⟨K',hK',hKf,hd1⟩,ho1,hs1⟩
 have hj1:JBlk w1 jb K.d g rv taken dead:=hj.keep (ho1.block jb (show jb < w.heap.size from hj.lt) hjK)
 have ho1':Only K.foot w w1:=⟨ho1.os,ho1.tape,ho1.output,ho1.size,ho1.block⟩
 generalize hr:(M.wr at_ l).2=r at *
 have c4:=hj1.cell 4
 have f4:=hj1.free 4
 simp at c4
 have hset:=hj1.set 4 (.bool (!decide (r=0)))
 have hd2:=hd1.only (F:=fun b=>b=jb) (Only.setCell (F:=fun b=>b=jb) (Only.refl _ w1) (p:=⟨jb,4,none⟩) (.inl rfl) (.bool (!decide (r=0)))) (fun b hb e=>hjK (e ▸ hKf b hb))
 have Hset:=Lib.hid hset;have Hd2:=Lib.hid hd2
 clear hset hd2 hj1 hd1
 go_wp2_with fail
 go_ret
 rw [hr]
 exact ⟨rfl,⟨K',hK',hKf,Hd2.out⟩,Hset.out,(ho1'.mono (fun _ h=>.inl h)).setCell (.inl (.inr rfl)) _,by simpa [World.setCell] using hs1⟩
end Go.Proofs.YtobjdpngnfbicaaGreatDoor

namespace Go.Proofs.YtobjdpngnfbicaaGreatDoor
open Go.RowKit
set_option linter.unusedVariables false
set_option maxRecDepth 20000
def CP (ts:Array TypeId) (t:TypeId) (args:Array Value):Sem Value:=Builtin.copy_ ts t args
theorem seal_copy (ts:Array TypeId) (t:TypeId) (args:Array Value):Builtin.copy_ ts t args=CP ts t args:=rfl
attribute [local go_sem ↓] seal_copy
attribute [local go_sem] opC upC
theorem sizeU8:(Tryz.prog.info? 5).map (·.size)=some 1:=by kernel_rfl
theorem run_copy_sec {w:World} {sb:Nat} {l:List UInt8} (h:SecAt w sb l) (off dLen dCap:Nat) {F:Blks} {v:Value} {x:List UInt8} (hv:Bytes F w v x) (n:Nat) (hn:n=Nat.min x.length dLen) (hfit:off+n≤64):
 ∃ w',(CP #[41,41] 3 #[.slice (some ⟨sb,off,none⟩) dLen dCap,v]).run Tryz.prog w=.ok (.int .i64 (n:Int)) w'∧SecAt w' sb (j_putL l off (x.take n))∧Only (fun b=>b=sb) w w'∧w'.heap.size=w.heap.size:=by
 obtain ⟨hb,hl⟩:=h
 obtain ⟨a,cap,rfl,hc,hm,hz,hx⟩:=hv
 have hxl:(x.take n).length=n:=by rw [List.length_take,hn];exact Nat.min_eq_left (Nat.min_le_left _ _)
 by_cases h0:n=0
 · subst h0
   refine ⟨w,run_copy_none w 41 41 3 5 (some ⟨sb,off,none⟩) a dLen dCap _ cap Tryz.underlying41 sizeU8 hn.symm,⟨?_,?_⟩,Only.refl _ _,rfl⟩
   · simpa [j_putL] using hb
   · simp [j_putL,hl]
 · rcases hx with rfl | ⟨b,o,L,t,fz,rfl,hF,hg,hle,hr⟩
   · simp at hn;omega
   · have hrun:=run_copy_row (P:=Tryz.prog) w 41 41 3 5 sb off dLen dCap ⟨b,o,none⟩ x.length cap (l.map B).toArray 137 ((x.take n).map B) Tryz.underlying41 sizeU8 hb (by rw [List.length_map,hxl,hn])
      (fun j u hj=>by
       have hjn:j < n:=by have:=(List.getElem?_eq_some_iff.1 hj).1;rw [List.length_map,hxl] at this;exact this
       have hjx:j < x.length:=by rw [hn] at hjn;exact Nat.lt_of_lt_of_le hjn (Nat.min_le_left _ _)
       rw [Addr.add_lit,cell_of_row w b (o+j) L t fz hg,hr j hjx]
       rw [List.getElem?_map,List.getElem?_take,if_pos hjn,List.getElem?_eq_getElem hjx] at hj
       exact hj) (by rw [List.length_map,hxl];simp [hl];omega) (oneCell_B _)
     simp only [List.length_map,hxl] at hrun
     refine ⟨_,hrun,⟨?_,?_⟩,Only.setRow (F:=fun b=>b=sb) (Only.refl _ w) (.inl rfl) _,by simp⟩
     · have:=hb.row ((l.map B).take off ++ (x.take n).map B ++ (l.map B).drop (off+n))
       unfold j_putL
       rw [hxl]
       simpa [List.map_append,List.map_take,List.map_drop] using this
     · rw [putL_length _ _ _ (by rw [hxl,hl];exact hfit),hl]
theorem run_copy_magic {w:World} {sb:Nat} {l:List UInt8} (h:SecAt w sb l):
 ∃ w',(CP #[41,9] 3 #[.slice (some ⟨sb,0,none⟩) 64 64,.string ⟨#[72,78,75,74]⟩]).run Tryz.prog w=.ok (.int .i64 4) w'∧SecAt w' sb (j_putL l 0 magicB)∧Only (fun b=>b=sb) w w'∧w'.heap.size=w.heap.size:=by
 obtain ⟨hb,hl⟩:=h
 have hst:=run_storeCells_at Tryz.prog sb 0 137 (magicB.map B) 0 (l.map B).toArray w hb (by simp [magicB,hl]) (oneCell_B _)
 simp only [Nat.zero_add,Nat.add_zero] at hst
 refine ⟨w.setRow sb ((l.map B).toArray.toList.take 0 ++ magicB.map B ++ (l.map B).toArray.toList.drop (magicB.map B).length).toArray,?_,⟨?_,?_⟩,Only.setRow (F:=fun b=>b=sb) (Only.refl _ w) (.inl rfl) _,by simp⟩
 · obtain ⟨i0,hi,hz0,hz1,hz2⟩:=info_parts infoU8
   have hn:Nat.min (ByteArray.mk #[72,78,75,74]).size 64=4:=by decide
   have hlit:[Value.int .u8 72,.int .u8 78,.int .u8 75,.int .u8 74]=magicB.map B:=rfl
   simp only [CP,Builtin.copy_,Builtin.lenOf,Builtin.firstCells,sizeOf,typeInfo]
   simp [hi,hn]
   rw [hlit,hst]
   simp [goInt]
 · have:=hb.row ((l.map B).take 0 ++ magicB.map B ++ (l.map B).drop 4)
   unfold j_putL
   simpa [List.map_append,List.map_take,List.map_drop,magicB] using this
 · rw [putL_length _ _ _ (by simp [magicB,hl]),hl]
def zero64:List UInt8:=List.replicate 64 0
theorem zero64_length:zero64.length=64:=by simp [zero64]
theorem head_eq (g:Nat):sealed ((j_putL (j_putL zero64 0 magicB) 4 (num4 g)).take 60)=headB g:=by
 unfold headB
 congr 1
theorem seal_build_sector (parts:Array (Nat × Value)):Instr.build 137 parts=BD 137 parts:=rfl
attribute [local go_sem ↓] seal_build_sector
theorem run_BD_sector (W:World):(BD 137 #[]).run Tryz.prog W=.ok (.agg (zero64.map B).toArray) W:=by kernel_rfl
theorem SecAt.new (w:World) (l:List UInt8) (hl:l.length=64):SecAt (w.alloc (.cells (l.map B).toArray 137)) w.heap.size l:=
 ⟨by simpa using Blk.new w (l.map B).toArray 137,hl⟩
theorem below_only {F:Blks} {B0:Nat} {a w w':World} (h:Below B0 a w) (ho:Only F w w') (hF:∀ b,F b→B0≤b) (hs:B0≤w.heap.size):Below B0 a w':=h.trans (ho.below hF hs)
set_option maxHeartbeats 1000000 in
theorem head_any (w:World) (hq:Quarter w) (h0:0 < w.heap.size) (g:Nat) (hg:g < 4294967296):
 Calls Tryz.prog 87 #[.int .u32 (g:Int)] w fun e w'=>∃ sb,e=.returned (.pointer (some ⟨sb,0,none⟩))∧w.heap.size≤sb∧SecAt w' sb (headB g)∧Below w.heap.size w w':=by
 have hbd:=run_BD_sector w
 obtain ⟨w1,hw1⟩:∃ w1,w1=w.alloc (.cells (zero64.map B).toArray 137):=⟨_,rfl⟩
 have hs1:SecAt w1 w.heap.size zero64:=by rw [hw1];exact SecAt.new _ _ zero64_length
 have hk1:Below w.heap.size w w1:=by rw [hw1];exact kept_alloc _ _
 have hz1:w1.heap.size=w.heap.size+1:=by rw [hw1];simp
 have hq1:=hq.keep (hk1.block 0 h0)
 obtain ⟨w2,hcp,hs2,ho2,hz2⟩:=run_copy_magic hs1
 have hk2:=below_only hk1 ho2 (fun b e=>by rw [e];exact Nat.le_refl _) (by omega)
 have hq2:=hq1.keep (ho2.block 0 (by omega) (by omega))
 rw [hw1] at hcp
 have Hw1:=Lib.hid hw1;clear hw1
 have hput:=j_put_any w2 w.heap.size _ hs2 4 g (by omega) hg
 have Hput:=Lib.hid hput;clear hput
 go_enter Tryz.func87,Tryz.ntmps87
 go_wp2_with fail
 refine Hput.out.mono ?_
 rintro e w3 ⟨rfl,hs3,ho3,hz3⟩
 have hk3:=below_only hk2 ho3 (fun b e=>by rw [e];exact Nat.le_refl _) (by omega)
 have hq3:=hq2.keep (ho3.block 0 (by omega) (by omega))
 go_wp2_with fail
 refine (seal_any w3 hq3 w.heap.size _ hs3).mono ?_
 rintro e w4 ⟨rfl,hs4,ho4,hz4⟩
 have hk4:=below_only hk3 ho4 (fun b e=>by rw [e];exact Nat.le_refl _) (by omega)
 rw [head_eq] at hs4
 go_wp2_with fail
 go_ret
 exact ⟨_,rfl,Nat.le_refl _,hs4,hk4⟩
end Go.Proofs.YtobjdpngnfbicaaGreatDoor

namespace Go.Proofs.YtobjdpngnfbicaaGreatDoor
open Go.RowKit Go.Shelf
set_option linter.unusedVariables false
set_option maxRecDepth 20000
attribute [local go_sem ↓] seal_copy seal_build_sector
attribute [local go_sem] opC upC Oper.semAt_some
abbrev pieceArgs (x:Nat × Nat):Array Value:=#[.int .i64 (x.1:Int),.pointer (some ⟨x.2,0,none⟩)]
def PieceG (n0 g k:Nat) (l:List UInt8) (pre:List (Nat × Nat)) (x:Nat × Nat) (W:World):Prop:=
 x.1=pre.length∧x.1 < takes l.length∧SecAt W x.2 (pieceB g k l x.1)∧n0≤x.2
structure PieceIn (W:World) (F:Blks) (bb gb ob g k:Nat) (v:Value) (l:List UInt8):Prop where
 bcell:W.cell? ⟨bb,0,none⟩=some v
 gcell:W.cell? ⟨gb,0,none⟩=some (.int .u32 (g:Int))
 ocell:W.cell? ⟨ob,0,none⟩=some (.int .u32 (k:Int))
 bytes:Bytes F W v l
 quarter:Quarter W
theorem cell_lt {w:World} {a:Addr} {v:Value} (h:w.cell? a=some v):a.block < w.heap.size:=World.block_lt_of_cell? w a h
theorem PieceIn.only {W W':World} {F G:Blks} {bb gb ob g k:Nat} {v:Value} {l:List UInt8} (h:PieceIn W F bb gb ob g k v l) (ho:Only G W W') (hd:∀ b,b=bb∨b=gb∨b=ob∨b=0∨F b→¬ G b):PieceIn W' F bb gb ob g k v l:=by
 obtain ⟨h1,h2,h3,h4,h5⟩:=h
 have l1:=cell_lt h1
 have l2:=cell_lt h2
 have l3:=cell_lt h3
 refine ⟨?_,?_,?_,h4.only ho fun b hb=>hd b (.inr (.inr (.inr (.inr hb)))),h5.keep (ho.block 0 (by omega) (hd 0 (.inr (.inr (.inr (.inl rfl))))))⟩
 · rw [World.cell?_of_block (w:=W) (a:=⟨bb,0,none⟩) (ho.block bb l1 (hd bb (.inl rfl)))];exact h1
 · rw [World.cell?_of_block (w:=W) (a:=⟨gb,0,none⟩) (ho.block gb l2 (hd gb (.inr (.inl rfl))))];exact h2
 · rw [World.cell?_of_block (w:=W) (a:=⟨ob,0,none⟩) (ho.block ob l3 (hd ob (.inr (.inr (.inl rfl)))))];exact h3
structure KeepsB (n0:Nat) (F:Blks) (A C:World):Prop where
 size:A.heap.size≤C.heap.size
 block:∀ k,k < n0→¬ F k→C.heap[k]?=A.heap[k]?
theorem KeepsB.trans {n0:Nat} {F:Blks} {A C D:World} (h:KeepsB n0 F A C) (k:KeepsB n0 F C D):KeepsB n0 F A D:=⟨Nat.le_trans h.size k.size,fun b hb hf=>(k.block b hb hf).trans (h.block b hb hf)⟩
theorem KeepsB.put {n0:Nat} {F:Blks} (W:World) (l:Nat) (o:Obj) (hl:n0≤l):KeepsB n0 F W (W.putObj l o):=⟨by simp,fun k hk _=>World.putObj_heap_other (by omega)⟩
theorem KeepsB.of_only {n0:Nat} {F:Blks} {A C:World} (h:Only F A C) (hn:n0≤A.heap.size):KeepsB n0 F A C:=⟨h.size,fun k hk hf=>h.block k (by omega) hf⟩
theorem PieceIn.keepsB {W W':World} {n0:Nat} {F G:Blks} {bb gb ob g k:Nat} {v:Value} {l:List UInt8} (h:PieceIn W F bb gb ob g k v l) (ho:KeepsB n0 G W W') (hd:∀ b,b=bb∨b=gb∨b=ob∨b=0∨F b→b < n0∧¬ G b):PieceIn W' F bb gb ob g k v l:=by
 obtain ⟨h1,h2,h3,h4,h5⟩:=h
 have hh:∀ b,b=bb∨b=gb∨b=ob∨b=0∨F b→W'.heap[b]?=W.heap[b]?:=fun b hb=>ho.block b (hd b hb).1 (hd b hb).2
 refine ⟨?_,?_,?_,h4.keep fun b hb _=>hh b (.inr (.inr (.inr (.inr hb)))),h5.keep (hh 0 (.inr (.inr (.inr (.inl rfl)))))⟩
 · rw [World.cell?_of_block (w:=W) (a:=⟨bb,0,none⟩) (hh bb (.inl rfl))];exact h1
 · rw [World.cell?_of_block (w:=W) (a:=⟨gb,0,none⟩) (hh gb (.inr (.inl rfl)))];exact h2
 · rw [World.cell?_of_block (w:=W) (a:=⟨ob,0,none⟩) (hh ob (.inr (.inr (.inl rfl))))];exact h3
theorem PieceIn.later {W W':World} {F:Blks} {bb gb ob g k:Nat} {v:Value} {l:List UInt8} (h:PieceIn W F bb gb ob g k v l) (hb:Below W.heap.size W W'):PieceIn W' F bb gb ob g k v l:=
 h.only (Only.of_below (F:=none_) hb) (fun _ _ h=>h)
theorem grownBy_of_below {w w':World} (h:Below w.heap.size w w'):w.grownBy w' none:=⟨h.os,h.tape,h.output,h.size,fun k hk _=>h.block k hk⟩
theorem putL_at {p q x:List UInt8} {a:Nat} (ha:a=p.length) (n:Nat) (hx:x.length=n) (y:List UInt8) (hy:y.length=n):j_putL (p ++ x ++ q) a y=p ++ y ++ q:=by
 subst ha
 subst hx
 unfold j_putL
 rw [hy,show p.length+x.length=(p ++ x).length from by simp,List.drop_left,List.append_assoc p x q,List.take_left]
theorem piece_eq (g k:Nat) (l:List UInt8) (i:Nat):sealed ((j_putL (j_putL (j_putL (j_putL zero64 0 (num4 g)) 4 (num4 k)) 8 (num4 (l.length - 48 * i))) 12 ((l.drop (48 * i)).take (Nat.min (l.drop (48 * i)).length 48))).take 60)=pieceB g k l i:=by
 unfold pieceB
 congr 1
 have hz:zero64 = [] ++ num4 0 ++ (num4 0 ++ num4 0 ++ List.replicate 48 0 ++ num4 0):=by decide
 have e1:j_putL zero64 0 (num4 g)=num4 g ++ num4 0 ++ (num4 0 ++ List.replicate 48 0 ++ num4 0):=by
  rw [hz]
  have:=putL_at (p:=[]) (x:=num4 0) (q:=num4 0 ++ num4 0 ++ List.replicate 48 0 ++ num4 0) (a:=0) rfl 4 rfl (num4 g) rfl
  rw [this]
  simp
 have e2:j_putL (j_putL zero64 0 (num4 g)) 4 (num4 k)=num4 g ++ num4 k ++ num4 0 ++ (List.replicate 48 0 ++ num4 0):=by
  rw [e1]
  have:=putL_at (p:=num4 g) (x:=num4 0) (q:=num4 0 ++ List.replicate 48 0 ++ num4 0) (a:=4) rfl 4 rfl (num4 k) rfl
  rw [this]
  simp
 have e3:j_putL (j_putL (j_putL zero64 0 (num4 g)) 4 (num4 k)) 8 (num4 (l.length - 48 * i))=num4 g ++ num4 k ++ num4 (l.length - 48 * i) ++ List.replicate 48 0 ++ num4 0:=by
  rw [e2]
  have:=putL_at (p:=num4 g ++ num4 k) (x:=num4 0) (q:=List.replicate 48 0 ++ num4 0) (a:=8) rfl 4 rfl (num4 (l.length - 48 * i)) rfl
  rw [this]
  simp
 rw [e3]
 generalize hb:l.drop (48 * i)=b
 have ht:b.take (Nat.min b.length 48)=b.take 48:=by
  rw [List.take_eq_take_iff]
  have:Nat.min b.length 48=min b.length 48:=rfl
  omega
 rw [ht]
 have hpl:(num4 g ++ num4 k ++ num4 (l.length - 48 * i)).length=12:=rfl
 have hxl:(b.take 48).length=min 48 b.length:=List.length_take
 have hrep:List.replicate 48 (0:UInt8)=List.replicate (b.take 48).length 0 ++ List.replicate (48 - b.length) 0:=by
  rw [List.replicate_append_replicate]
  congr 1
  omega
 rw [hrep]
 have e4:=putL_at (p:=num4 g ++ num4 k ++ num4 (l.length - 48 * i)) (q:=List.replicate (48 - b.length) 0 ++ num4 0) (x:=List.replicate (b.take 48).length 0) (a:=12) hpl.symm _ (by simp) (b.take 48) rfl
 simp only [List.append_assoc] at e4 ⊢
 rw [e4]
 have hfin:(num4 g ++ (num4 k ++ (num4 (l.length - 48 * i) ++ (b.take 48 ++ List.replicate (48 - b.length) 0)))).length=60:=by
  simp only [List.length_append,num4_length,hxl,List.length_replicate]
  omega
 have:num4 g ++ (num4 k ++ (num4 (l.length - 48 * i) ++ (b.take 48 ++ (List.replicate (48 - b.length) 0 ++ num4 0))))=(num4 g ++ (num4 k ++ (num4 (l.length - 48 * i) ++ (b.take 48 ++ List.replicate (48 - b.length) 0)))) ++ num4 0:=by simp
 rw [this,←hfin,List.take_left]
 rfl
theorem Bytes.drop {F:Blks} {w:World} {a:Option Addr} {cap:Nat} {l:List UInt8} (h:Bytes F w (.slice a l.length cap) l) (k:Nat) (hk:k≤l.length):
 Bytes F w (.slice (if cap=k then a else a.map fun x=>x.add k) (l.length - k) (cap - k)) (l.drop k):=by
 obtain ⟨a',cap',hv,hc,hm,hz,hx⟩:=h
 simp at hv
 obtain ⟨rfl,rfl⟩:=hv
 refine ⟨_,cap - k,by rw [List.length_drop],by rw [List.length_drop];omega,by omega,fun hn=>?_,?_⟩
 · split at hn
   · have:=hz hn;omega
   · rw [Option.map_eq_none_iff] at hn;have:=hz hn;omega
 · by_cases hk2:k=l.length
   · left;rw [hk2,List.drop_length]
   · right
     rcases hx with rfl | ⟨b,off,L,t,fz,rfl,hF,hg,hle,hr⟩
     · simp at hk hk2;omega
     · rw [if_neg (by omega)]
       refine ⟨b,off+k,L,t,fz,by simp [Addr.add],hF,hg,by rw [List.length_drop];omega,fun i hi=>?_⟩
       rw [List.length_drop] at hi
       have:=hr (k+i) (by omega)
       rw [Nat.add_assoc,this]
       simp
set_option maxHeartbeats 2000000 in
theorem pieces_seq (w:World) (F G:Blks) (bb gb ob g k:Nat) (v:Value) (l:List UInt8) (h:PieceIn w F bb gb ob g k v l) (hd:∀ b,b=bb∨b=gb∨b=ob∨b=0∨F b→b < w.heap.size∧¬ G b) (hl:l.length≤65536) (hg:g < 4294967296) (hk:k < 4294967296):
 SeqG Tryz.prog 197 #[.pointer (some ⟨bb,0,none⟩),.pointer (some ⟨gb,0,none⟩),.pointer (some ⟨ob,0,none⟩)] pieceArgs (KeepsB w.heap.size G) (PieceG w.heap.size g k l) (fun xs=>xs.length=takes l.length) (fun _=>True) w:=by
 intro lo J Jx W hW hJ hJx hY h0
 have hin:PieceIn W F bb gb ob g k v l:=h.later hW
 have hws:=hW.size
 obtain ⟨a,cap,rfl,hc,hm,-,-⟩:=h.bytes
 have htk:=takes_any
 refine callsIn_of_wp Tryz.func197 rfl trivial ?_ rfl
 simp only [Tryz.ntmps197,List.size_toArray,List.length_cons,List.length_nil,Nat.reduceAdd,Nat.reduceSub,Array.replicate_succ,Array.replicate_zero,List.push_toArray,List.append_toArray,List.nil_append,List.cons_append]
 have cb:=hin.bcell
 have cg:=hin.gcell
 have co:=hin.ocell
 gi_wp2_with fail
 refine ⟨trivial,callsIn_wide.2 ((takes_any W l.length (by omega)).mono ?_)⟩
 rintro e w' ⟨rfl,rfl⟩
 have htp:=takes_pos l.length
 have htb:takes l.length≤65536:=by unfold takes;omega
 clear cb cg co
 gi_wp2_with fail
 gi_loopw [10] (fun i wr=>∃ (m:Nat) (pre:List (Nat × Nat)),m≤takes l.length∧i=.int .i64 (m:Int)∧pre.length=m∧J pre wr∧PieceIn wr F bb gb ob g k (.slice a l.length cap) l∧W.heap.size≤wr.heap.size) (fun i _=>takes l.length - (intOf i).toNat)
 case atStart=>exact ⟨0,[],by omega,rfl,rfl,h0,hin,Nat.le_refl _⟩
 case round=>
  obtain ⟨m,pre,hm1,rfl,hpl,hJr,hinr,hsz⟩:=hrel
  by_cases hlt:m < takes l.length
  · have hltI:(m:Int) < (takes l.length:Int):=by omega
    have h48:48 * m≤l.length:=by unfold takes at hlt;omega
    have hbd:=run_BD_sector wr
    obtain ⟨w1,hw1⟩:∃ w1,w1=wr.alloc (.cells (zero64.map B).toArray 137):=⟨_,rfl⟩
    have hs1:SecAt w1 wr.heap.size zero64:=by rw [hw1];exact SecAt.new _ _ zero64_length
    have hk1:Below wr.heap.size wr w1:=by rw [hw1];exact kept_alloc _ _
    have hz1:w1.heap.size=wr.heap.size+1:=by rw [hw1];simp
    have hin1:=hinr.later hk1
    have Hw1:=Lib.hid hw1;clear hw1
    have cg:=hinr.gcell
    have lg:=cell_lt cg
    dsimp only at lg
    gi_wp2_with fail
    rw [←Hw1.out]
    refine ⟨trivial,callsIn_wide.2 ((j_put_any w1 wr.heap.size _ hs1 0 g (by omega) hg).mono ?_)⟩
    rintro e w2 ⟨rfl,hs2,ho2,hz2⟩
    clear cg lg
    have hk2:=below_only hk1 ho2 (fun b e=>by rw [e];exact Nat.le_refl _) (by omega)
    have hin2:=hinr.later hk2
    have co:=hin2.ocell
    gi_wp2_with fail
    refine ⟨trivial,callsIn_wide.2 ((j_put_any w2 wr.heap.size _ hs2 4 k (by omega) hk).mono ?_)⟩
    rintro e w3 ⟨rfl,hs3,ho3,hz3⟩
    clear co
    have hk3:=below_only hk2 ho3 (fun b e=>by rw [e];exact Nat.le_refl _) (by omega)
    have hin3:=hinr.later hk3
    have cb:=hin3.bcell
    have hrI:((l.length - 48 * m:Nat):Int)=(l.length:Int) - 48 * (m:Int):=by omega
    have hput:=j_put_any w3 wr.heap.size _ hs3 8 (l.length - 48 * m) (by omega) (by omega)
    rw [hrI] at hput
    have Hput:=Lib.hid hput;clear hput
    have h48I:48 * (m:Int)≤(l.length:Int):=by omega
    have hlI:(l.length:Int)≤65536:=by omega
    clear hrI
    gi_wp2_with fail
    refine ⟨trivial,callsIn_wide.2 ((Hput.out).mono ?_)⟩
    rintro e w4 ⟨rfl,hs4,ho4,hz4⟩
    clear cb
    have hk4:=below_only hk3 ho4 (fun b e=>by rw [e];exact Nat.le_refl _) (by omega)
    have hin4:=hinr.later hk4
    gi_wp2_with fail
    refine wpIn_wide.2 ?_
    have cb:∀ w',Later w4.drew w'→w'.cell? ⟨bb,0,none⟩=some (.slice a l.length cap):=fun w' hh=>((hin4.later (W':=w4.drew) (Below.refl _ _).drew).later hh).bcell
    have hT:((48:Int) * (m:Int)).toNat=48 * m:=by omega
    obtain ⟨w5,hcp,hs5,ho5,hz5⟩:=run_copy_sec (w:=w4.drew) ⟨hs4.1.drew,hs4.2⟩ 12 48 52 ((hin4.bytes.keep (w':=w4.drew) fun b _ _=>rfl).drop (48 * m) h48) _ rfl (by have:Nat.min (l.drop (48 * m)).length 48≤48:=Nat.min_le_right _ _;omega)
    have hk5:Below wr.heap.size wr w5:=hk4.drew.trans (ho5.below (fun b e=>by rw [e];exact Nat.le_refl _) (show wr.heap.size≤w4.heap.size by omega))
    have hz5:w5.heap.size=w4.heap.size:=hz5
    generalize hnn:Nat.min (l.drop (48 * m)).length 48=nn at *
    have Hnn:=Lib.hid hnn;clear hnn
    refine wp_region_canL Later 7 [(0,true),(1,true),(2,true),(3,true),(4,true),(5,true),(6,true),(7,false)] (by kernel_rfl) (by kernel_rfl) (by kernel_rfl) later_refl later_trans ?_
    repeat (refine canL_yes (v:=?_) rfl (wanted_none rfl) (fun w' hC=>?_) (fun K hK=>?_);rotate_left;(focus (go_simp;(try simp (disch:=omega) only [IntWalk.i64_in]);(try simp (disch:=omega) only [IntWalk.u32_in]);(try simp (disch:=omega) only [IntWalk.u8_in]);(try simp (disch:=omega) only [IntWalk.i64_quo]);(try simp (disch:=omega) only [IntWalk.rem_in]);first | done | exact rfl));go_simp;(try simp (disch:=omega) only [IntWalk.i64_in]);(try simp (disch:=omega) only [IntWalk.u32_in]);(try simp (disch:=omega) only [IntWalk.u8_in]);(try simp (disch:=omega) only [IntWalk.i64_quo]);(try simp (disch:=omega) only [IntWalk.rem_in]);refine hK _ ?_;clear hK K)
    generalize (if cap=48 * m then a else a.map fun x=>x.add (48 * m))=aa at *
    refine canL_last rfl rfl rfl (fun KK hK=>?_)
    go_simp
    refine hK _ _ ?_
    clear hK KK
    go_simp
    refine canL_nil ?_
    have hin5:=hinr.later hk5
    clear cb hcp hT
    gi_wp2_with fail
    refine ⟨trivial,callsIn_wide.2 ((seal_any w5 hin5.quarter wr.heap.size _ hs5).mono ?_)⟩
    rintro e w6 ⟨rfl,hs6,ho6,hz6⟩
    have hk6:=below_only hk5 ho6 (fun b e=>by rw [e];exact Nat.le_refl _) (by omega)
    rw [←Hnn.out,piece_eq] at hs6
    obtain ⟨fn,tmps,assign,body,hy,hR⟩:=hY pre (m,wr.heap.size) w6 (hJ _ _ _ none hJr (grownBy_of_below hk6) (fun r e=>by cases e)) ⟨hpl.symm,hlt,hs6,by show w.heap.size≤wr.heap.size;omega⟩
    dsimp only [pieceArgs] at hy
    have HR:=Lib.hid hR;clear hR
    gi_wp2_with fail
    refine HR.out.mono ?_
    rintro e W3 (⟨rfl,hJ3,hk3'⟩ | ⟨rfl,hJx3⟩)
    · have hs3:w6.heap.size≤W3.heap.size:=hk3'.size
      have hin3':=(hinr.later hk6).keepsB hk3' hd
      have hz6:wr.heap.size≤w6.heap.size:=hk6.size
      clear hin5 hin4 hin3 hin2 hin1 hk3' hJr hinr
      gi_wp2_with fail
      go_roundw
      case rel=>exact ⟨m+1,pre ++ [(m,wr.heap.size)],by omega,by go_num,by simp [hpl],hJ3,hin3',by omega⟩
      case measure=>simp [intOf];omega
    · gi_wp2_with fail
      refine bodyPost_ret (results_none rfl _ _ _) rfl ?_
      exact ⟨⟨_,rfl⟩,.inr ⟨_,trivial,hJx3⟩⟩
  · have hltI:¬ (m:Int) < (takes l.length:Int):=by omega
    gi_wp2_with fail
    go_end0
    exact ⟨⟨_,rfl⟩,.inl ⟨pre,by show pre.length=takes l.length;omega,hJr⟩⟩
end Go.Proofs.YtobjdpngnfbicaaGreatDoor
