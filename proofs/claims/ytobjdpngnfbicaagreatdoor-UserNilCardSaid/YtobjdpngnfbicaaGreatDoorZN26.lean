/-
  J8 J9 UMem JL1 JL2 JL3
-/
import Derived.Test.YtobjdpngnfbicaaGreatDoorZN25
import Derived.Test.YtobjdpngnfbicaaGreatDoorZN20
import Derived.Test.YtobjdpngnfbicaaGreatDoorZN08
import Derived.Test.YtobjdpngnfbicaaGreatDoorZN13
import Derived.Lib.SlBytesConst
namespace Go.Proofs.YtobjdpngnfbicaaGreatDoor
open Go.RowKit
set_option linter.unusedVariables false
set_option maxRecDepth 20000
attribute [local go_sem ↓] seal_append
attribute [local go_sem] opC upC
theorem RowsIn.elem {R:Blks} {w:World} {lo:Nat} {v:Value} {S:List (List UInt8)} (h:RowsIn R w lo v S) (i:Nat) (hi:i < S.length):
 ∃ g cap x,v=.slice (some ⟨g,0,none⟩) S.length cap∧Bytes R w x S[i]∧w.cell? ⟨g,i,none⟩=some x:=by
 obtain ⟨vals,hown,hv,hR⟩:=h
 obtain ⟨x,hx,hb⟩:=hv i hi
 rcases hown.2 with ⟨rfl,h0⟩ | ⟨g,cap,cur,rfl,hlo,hg,hc,hm,hs,ht⟩
 · omega
 · refine ⟨g,cap,x,rfl,hb,?_⟩
   have:(cur.toList.take (S.length * 1))[i]?=vals[i]?:=by rw [ht]
   rw [List.getElem?_take,if_pos (by omega),hx] at this
   unfold World.cell?
   simpa [hg] using this
set_option maxHeartbeats 1000000 in
theorem records_any (w:World) (jb kd g taken:Nat) (rv:Value) (dead:Bool) (hj:JBlk w jb kd g rv taken dead) (R:Blks) (L:List (List UInt8)) (hr:RowsIn R w 0 rv L) (hL:L.length≤65536) (hlens:∀ b ∈ L,b.length≤65536):
 Calls Tryz.prog 49 #[.pointer (some ⟨jb,0,none⟩)] w fun e w'=>∃ r R',e=.returned r∧RowsIn R' w' w.heap.size r L∧(∀ b,R' b→w.heap.size≤b∧b < w'.heap.size)∧Below w.heap.size w w':=by
 have c2:=hj.cell 2
 simp at c2
 obtain ⟨aR,cR,rfl,hcR,hmR⟩:=hr.shape
 have hLI:(L.length:Int)≤65536:=by omega
 go_enter Tryz.func49,Tryz.ntmps49
 go_wp2_with fail
 go_loopw [3,13] (fun v i wr=>∃ k R',k≤L.length∧i=.int .i64 (k:Int)∧RowsIn R' wr w.heap.size v (L.take k)∧(∀ b,R' b→w.heap.size≤b∧b < wr.heap.size)∧Below w.heap.size w wr) (fun _ i _=>L.length - (intOf i).toNat)
 case atStart=>exact ⟨0,none_,by omega,rfl,by simpa using RowsIn.nil w w.heap.size,fun b hb=>hb.elim,Below.refl _ _⟩
 case round=>
  obtain ⟨k,R',hk,rfl,hrow,hR',hbw⟩:=hrel
  by_cases hkl:k < L.length
  · have hklI:(k:Int) < (L.length:Int):=by omega
    have hrw:=hr.kept hbw
    obtain ⟨gg,cap,x,hv,hbx,hcell⟩:=hrw.elem k hkl
    simp at hv
    obtain ⟨rfl,rfl⟩:=hv
    have hlk:(L.take k).length=k:=by simp;omega
    obtain ⟨a1,c1,rfl,hc1,hm1⟩:=hrow.shape
    rw [hlk] at hc1 hrow
    have hll:=hlens L[k] (List.getElem_mem hkl)
    rw [hlk]
    go_wp2_with fail
    refine (clone_any wr R x L[k] hbx (by omega)).mono ?_
    rintro e w1 ⟨r,rfl,hr1,hb1⟩
    have hby:=owns_bytes hr1
    obtain ⟨a2,c2',rfl,-,-⟩:∃ a cap,r=.slice a L[k].length cap∧L[k].length≤cap∧cap≤maxLen:=by
     obtain ⟨a,cap,h,h1,h2,-⟩:=hby
     exact ⟨a,cap,h,h1,h2⟩
    have hrow1:=hrow.kept hb1
    obtain ⟨a',c',w2,hap,hrows2,hg2⟩:=hrow1.append hby (fun b hb=>hb.2.2) (by simp;omega) (by have:=hb1.size;have:=hbw.size;omega)
    rw [hlk] at hap hrows2
    have hb2:Below w.heap.size w w2:=(Below.alloc (hbw.trans (hb1.mono hbw.size)) (by have:=hb1.size;have:=hbw.size;omega) _).grown hg2 (by have:=hb1.size;have:=hbw.size;simp;omega) (fun q hq=>((hrow1.own hq).1))
    have hs2:=hg2.size
    simp at hs2
    have htk:L.take k ++ [L[k]]=L.take (k+1):=by rw [List.take_succ_eq_append_getElem hkl]
    rw [htk] at hrows2
    have Hrows2:=Lib.hid hrows2;have Hb2:=Lib.hid hb2
    have hbs:=hbw.size
    have hb1s:=hb1.size
    clear hrows2 hb2 hrow1 hrow hrw hby hr1 hg2 hcell hbx
    go_wp2_with fail
    go_roundw
    case rel=>exact ⟨k+1,_,by omega,by go_num,Hrows2.out,fun b hb=>by
     rcases hb with hb | hb
     · have:=hR' b hb;omega
     · have:=hb.1;have:=hb.2.1;omega,Hb2.out⟩
    case measure=>simp [intOf];omega
  · have hklI:¬ (k:Int) < (L.length:Int):=by omega
    have hkl':k=L.length:=by omega
    subst hkl'
    rw [List.take_length] at hrow
    go_wp2_with fail
    go_ret
    exact ⟨_,rfl,R',hrow,hR',hbw⟩
theorem room_any (w:World) (jb kd g taken:Nat) (rv:Value) (dead:Bool) (K:DK) (M:MD) (hj:JBlk w jb kd g rv taken dead) (hd:DiskAt w K M) (hK:K.d=kd) (h2:2≤M.S.length) (ht:taken≤halfN M.S.length):
 Calls Tryz.prog 137 #[.pointer (some ⟨jb,0,none⟩)] w fun e w'=>e=.returned (.int .i64 (if halfN M.S.length - taken < 1 then -1 else min (48 * ((halfN M.S.length - taken:Nat):Int)) 65536))∧∃ n,w.drewN n=w':=by
 have hle:=hd.le
 have hh:halfN M.S.length - taken≤65536:=by unfold halfN;omega
 have hfree:∀ n,Calls Tryz.prog 89 #[.pointer (some ⟨jb,0,none⟩)] (w.drewN n) fun e w'=>e=.returned (.int .i64 ((halfN M.S.length - taken:Nat):Int))∧∃ m,(w.drewN n).drewN m=w':=fun n=>
  free_any (w.drewN n) jb kd g rv taken dead K M (hj.keep rfl) (hd.keep fun _ _=>rfl) hK h2 ht
 have hfree0:Calls Tryz.prog 89 #[.pointer (some ⟨jb,0,none⟩)] w fun e w'=>e=.returned (.int .i64 ((halfN M.S.length - taken:Nat):Int))∧∃ m,w.drewN m=w':=free_any w jb kd g rv taken dead K M hj hd hK h2 ht
 generalize halfN M.S.length - taken=f at *
 have Hf:=Lib.hid hfree;have Hf0:=Lib.hid hfree0
 clear hfree hfree0
 have hfI:(f:Int)≤65536:=by omega
 by_cases h1:f < 1
 · have h1I:(f:Int) < 1:=by omega
   rw [if_pos h1]
   go_enter Tryz.func137,Tryz.ntmps137
   go_wp2_with fail
   refine Hf0.out.mono ?_
   rintro e w1 ⟨rfl,n,rfl⟩
   go_wp2_with fail
   go_ret
   exact ⟨rfl,n,rfl⟩
 · have h1I:¬ (f:Int) < 1:=by omega
   rw [if_neg h1]
   go_enter Tryz.func137,Tryz.ntmps137
   go_wp2_with fail
   refine Hf0.out.mono ?_
   rintro e w1 ⟨rfl,n,rfl⟩
   go_wp2_with fail
   refine (Hf.out n).mono ?_
   rintro e w1 ⟨rfl,m,rfl⟩
   go_wp2_with fail
   all_goals
    go_ret
    exact ⟨ret_int (by omega),n+m,by first | rfl | (simp [World.drewN];done) | (simp [World.drewN];omega)⟩
theorem dead_any (w:World) (jb kd g taken:Nat) (rv:Value) (dead:Bool) (hj:JBlk w jb kd g rv taken dead):
 Calls Tryz.prog 60 #[.pointer (some ⟨jb,0,none⟩)] w fun e w'=>e=.returned (.bool dead)∧w=w':=by
 have c4:=hj.cell 4
 simp at c4
 go_enter Tryz.func60,Tryz.ntmps60
 go_wp2_with fail
 go_ret
 exact ⟨rfl,rfl⟩
theorem jcan_nil (w:World) (v:Value) (n:Int):
 Calls Tryz.prog 88 #[.pointer none,v,.int .i64 n] w fun e w'=>e=.returned (.int .i64 9)∧w=w':=by
 go_enter Tryz.func88,Tryz.ntmps88
 go_wp2_with fail
 go_ret
 exact ⟨rfl,rfl⟩
theorem append_nil (w:World) (v:Value):
 Calls Tryz.prog 44 #[.pointer none,v] w fun e w'=>e=.returned (.int .i64 9)∧w=w':=by
 have hf:=Lib.hid (free_nil w)
 have hc:=Lib.hid (jcan_nil w v 0)
 go_enter Tryz.func44,Tryz.ntmps44
 go_wp2_with fail
 refine hf.out.mono ?_
 rintro e w' ⟨rfl,rfl⟩
 go_wp2_with fail
 refine hc.out.mono ?_
 rintro e w' ⟨rfl,rfl⟩
 go_wp2_with fail
 go_ret
 exact ⟨rfl,rfl⟩
end Go.Proofs.YtobjdpngnfbicaaGreatDoor

namespace Go.Proofs.YtobjdpngnfbicaaGreatDoor
open Go.RowKit
set_option linter.unusedVariables false
set_option maxRecDepth 20000
attribute [local go_sem] opC upC
theorem seal_alloc_sector (h:Bool) (old:Value):Instr.alloc 137 h old=AL 137 h old:=rfl
attribute [local go_sem ↓] seal_alloc_sector
theorem run_AL_sector (w:World):(AL 137 true (.tuple #[])).run Tryz.prog w=.ok (.pointer (some ⟨w.heap.size,0,none⟩)) (w.alloc (.cells (zero64.map B).toArray 137)):=by kernel_rfl
def zeroWs (n:Nat):List (Nat × List UInt8):=(List.range n).map fun i=>(i,List.replicate 64 0)
theorem zeroWs_length (n:Nat):(zeroWs n).length=n:=by simp [zeroWs]
theorem zeroWs_take (n i:Nat) (h:i < n):(zeroWs n).take (i+1)=(zeroWs n).take i ++ [(i,List.replicate 64 0)]:=by
 rw [List.take_succ_eq_append_getElem (by rw [zeroWs_length];exact h)]
 simp [zeroWs]
theorem formatM_def (M:MD):formatM M=writeAll M (zeroWs M.S.length ++ [(0,headB 0)]):=rfl
theorem format_small (w:World) (K:DK) (M:MD) (hd:DiskAt w K M) (h8:M.S.length < 8):
 Calls Tryz.prog 43 #[.pointer (some ⟨K.d,0,none⟩)] w fun e w'=>e=.returned (.tuple #[.pointer none,.int .i64 6])∧w=w':=by
 have hc:=jcheck_any w K M hd
 rw [if_pos h8] at hc
 have hc:=Lib.hid hc
 go_enter Tryz.func43,Tryz.ntmps43
 go_wp2_with fail
 refine hc.out.mono ?_
 rintro e w' ⟨rfl,rfl⟩
 go_wp2_with fail
 go_ret2
 exact ⟨rfl,rfl⟩
set_option maxHeartbeats 2000000 in
theorem format_any (w:World) (K:DK) (M:MD) (hd:DiskAt w K M) (h8:8≤M.S.length) (hq:Quarter w) (h00:¬ K.foot 0) (hw:M.writes+65540 < 4611686018427387904):
 Calls Tryz.prog 43 #[.pointer (some ⟨K.d,0,none⟩)] w fun e w'=>∃ K',K'.d=K.d∧(∀ b,K'.foot b→K.foot b)∧Only K.foot w w' ∧
  (((formatM M).2=0∧∃ jb,e=.returned (.tuple #[.pointer (some ⟨jb,0,none⟩),.int .i64 0])∧w.heap.size≤jb∧JAt w' ⟨jb,K',none_⟩ (formatM M).1 ⟨0,[],false⟩) ∨
   ((formatM M).2≠0∧e=.returned (.tuple #[.pointer none,.int .i64 (formatM M).2])∧DiskAt w' K' (formatM M).1)):=by
 have hle:=hd.le
 have hc:=jcheck_any w K M hd
 rw [if_neg (by omega)] at hc
 have hal:=run_AL_sector w
 obtain ⟨w1,hw1⟩:∃ w1,w1=w.alloc (.cells (zero64.map B).toArray 137):=⟨_,rfl⟩
 have hs1:Blk w1 w.heap.size (List.replicate 64 (B 0)) 137:=by rw [hw1];have:=(SecAt.new w zero64 zero64_length).1;simpa [zero64] using this
 have hk1:Below w.heap.size w w1:=by rw [hw1];exact kept_alloc _ _
 have hz1:w1.heap.size=w.heap.size+1:=by rw [hw1];simp
 have hd1:=hd.kept hk1
 have ho1:Only K.foot w w1:=Only.of_below hk1
 rw [←hw1] at hal
 clear hw1
 have hKlt:=hd.lt
 have hsz:=size_any w1 K M hd1
 have hq0:∀ w',Only K.foot w w'→Quarter w':=fun w' ho=>hq.keep (ho.block 0 (by obtain ⟨t,fz,hh⟩:=hq;exact lt_of_block hh) h00)
 have h0lt:0 < w.heap.size:=by obtain ⟨t,fz,hh⟩:=hq;exact lt_of_block hh
 rw [formatM_def]
 obtain ⟨ws,hws⟩:∃ ws,ws=zeroWs M.S.length:=⟨_,rfl⟩
 have hwsl:ws.length=M.S.length:=by rw [hws,zeroWs_length]
 have hwst:∀ i,i < M.S.length→ws.take (i+1)=ws.take i ++ [(i,List.replicate 64 0)]:=fun i hi=>by rw [hws];exact zeroWs_take _ i hi
 rw [←hws]
 clear hws
 generalize hn:M.S.length=n at *
 have hnI:(n:Int)≤65536:=by omega
 have Hc:=Lib.hid hc;have Hsz:=Lib.hid hsz;have Hwst:=Lib.hid hwst
 clear hc hsz hwst
 go_enter Tryz.func43,Tryz.ntmps43
 go_wp2_with fail
 refine Hc.out.mono ?_
 rintro e w' ⟨rfl,rfl⟩
 go_wp2_with fail
 refine Hsz.out.mono ?_
 rintro e w' ⟨rfl,rfl⟩
 go_wp2_with fail
 go_loopw [16] (fun i wr=>∃ k K' M',k≤n∧i=.int .i64 (k:Int)∧K'.d=K.d∧(∀ b,K'.foot b→K.foot b)∧DiskAt wr K' M'∧writeAll M (ws.take k)=(M',0)∧Blk wr w.heap.size (List.replicate 64 (B 0)) 137∧Only K.foot w wr∧M'.S.length=n∧M'.writes≤M.writes+k) (fun i _=>n - (intOf i).toNat)
 case atStart=>exact ⟨0,K,M,by omega,rfl,rfl,fun _ h=>h,hd1,rfl,hs1,ho1,hn,by omega⟩
 case round=>
  obtain ⟨k,K',M',hk,rfl,hKd,hKf,hdW,hwa,hblk,honly,hlen,hwr⟩:=hrel
  clear hd1 hs1 ho1 hal hk1
  by_cases hkl:k < n
  · have hklI:(k:Int) < (n:Int):=by omega
    have hby:Bytes (fun b=>b=w.heap.size) wr (.slice (some ⟨w.heap.size,0,none⟩) 64 64) (List.replicate 64 0):=bytes_of_sector hblk _ rfl
    have hwrc:=wr_any wr K' M' hdW k (by omega) (by omega) _ _ _ hby (by simp) (fun b e h=>by have:=hKlt b (hKf b h);omega)
    rw [hKd] at hwrc
    have hsn:=writeAll_snoc M (ws.take k) k (List.replicate 64 0) (by rw [hwa])
    rw [←Hwst.out k hkl,hwa] at hsn
    have hwl:=wr_len M' k (List.replicate 64 0)
    generalize M'.wr k (List.replicate 64 0)=mq at *
    obtain ⟨M2,r⟩:=mq
    dsimp only at hwrc hwl
    have Hwrc:=Lib.hid hwrc;have Hsn:=Lib.hid hsn
    clear hwrc hsn
    go_wp2_with fail
    refine Hwrc.out.mono ?_
    rintro e w2 ⟨rfl,⟨K2,hK2,hKf2,hd2⟩,ho2,hs2⟩
    have hon2:=honly.trans ho2 fun i hi=>.inl (hKf i hi)
    have hblk2:=hblk.keep (ho2.block _ hblk.lt fun h=>by have:=hKlt _ (hKf _ h);omega)
    by_cases hr:r=0
    · subst hr
      have Hd2:=Lib.hid hd2;have Hon2:=Lib.hid hon2;have Hb2:=Lib.hid hblk2
      clear hd2 hon2 hblk2 hblk honly hdW
      go_wp2_with fail
      go_roundw
      case rel=>exact ⟨k+1,K2,M2,by omega,by go_num,by rw [hK2],fun b hb=>hKf b (hKf2 b hb),Hd2.out,Hsn.out,Hb2.out,Hon2.out,by omega,by omega⟩
      case measure=>simp [intOf];omega
    · have hrb:(r != 0)=true:=bne_iff_ne.2 hr
      have hfail:writeAll M (ws ++ [(0,headB 0)])=(M2,r):=by
       refine writeAll_fail M M2 r _ (k+1) ?_ hr
       rw [List.take_append_of_le_length (by omega)]
       exact Hsn.out
      have Hd2:=Lib.hid hd2;have Hon2:=Lib.hid hon2;have Hfail:=Lib.hid hfail
      clear hd2 hon2 hblk2 hblk honly hdW hfail
      go_wp2_with fail
      go_ret2
      rw [Hfail.out]
      exact ⟨K2,by rw [hK2],fun b hb=>hKf b (hKf2 b hb),Hon2.out,.inr ⟨hr,rfl,Hd2.out⟩⟩
  · have hklI:¬ (k:Int) < (n:Int):=by omega
    have hkn:k=n:=by omega
    subst hkn
    rw [List.take_of_length_le (by omega)] at hwa
    have hhead:=head_any wr (hq0 wr honly) (by have:=honly.size;omega) 0 (by omega)
    have hsnoc:=writeAll_snoc M ws 0 (headB 0) (by rw [hwa])
    rw [hwa] at hsnoc
    have Hhead:=Lib.hid hhead;have Hsnoc:=Lib.hid hsnoc
    clear hhead hsnoc hblk
    go_wp2_with fail
    refine Hhead.out.mono ?_
    rintro e w4 ⟨sb,rfl,hsb,hsec,hb4⟩
    have hd4:=hdW.kept hb4
    have hon4:Only K.foot w w4:=honly.trans (Only.of_below (F:=none_) hb4) fun i hi=>hi.elim
    have hwrc:=wr_any w4 K' M' hd4 0 (by omega) (by omega) _ _ _ hsec.bytes hsec.2 (fun b e h=>by have:=hKlt b (hKf b h);have:=honly.size;omega)
    rw [hKd] at hwrc
    have hsn:=Hsnoc.out
    have hwl:=wr_len M' 0 (headB 0)
    try dsimp only at hsn
    generalize M'.wr 0 (headB 0)=mq at *
    obtain ⟨M2,r⟩:=mq
    dsimp only at hwrc hwl
    have Hwrc:=Lib.hid hwrc;have Hsn2:=Lib.hid hsn
    clear hwrc hsn Hsnoc
    go_wp2_with fail
    refine Hwrc.out.mono ?_
    rintro e w2 ⟨rfl,⟨K2,hK2,hKf2,hd2⟩,ho2,hs2⟩
    have hon2:=hon4.trans ho2 fun i hi=>.inl (hKf i hi)
    have Hd2:=Lib.hid hd2;have Hon2:=Lib.hid hon2
    clear hd2 hon2 honly hdW hd4 hon4
    by_cases hr:r=0
    · subst hr
      go_wp2_with fail
      go_ret2
      rw [Hsn2.out]
      refine ⟨K2,by rw [hK2],fun b hb=>hKf b (hKf2 b hb),Hon2.out.alloc _,.inl ⟨rfl,_,rfl,by have:=Hon2.out.size;omega,?_⟩⟩
      refine ⟨Hd2.out.kept (kept_alloc _ _),⟨none,0,none_,?_,RowsIn.nil _ 0,fun b hb=>by rcases hb with hb | hb;exact absurd hb (by simp [Value.ownBlock]);exact hb.elim⟩,⟨fun h=>by have h1:=hKlt _ (hKf _ (hKf2 _ h));have:=Hon2.out.size;dsimp only at h1;omega,fun b hb=>hb.elim⟩,by show 8≤M2.S.length;omega,by simp [takenL],by simp,fun b hb=>by simp at hb⟩
      have:=Blk.new w2 #[.pointer (some ⟨K.d,0,none⟩),.int .u32 0,.slice none 0 0,.int .i64 0,.bool false] 141
      rw [hs2] at this
      simpa [JBlk,takenL,hK2] using this
    · have hrb:(r != 0)=true:=bne_iff_ne.2 hr
      go_wp2_with fail
      go_ret2
      rw [Hsn2.out]
      exact ⟨K2,by rw [hK2],fun b hb=>hKf b (hKf2 b hb),Hon2.out,.inr ⟨hr,rfl,Hd2.out⟩⟩
end Go.Proofs.YtobjdpngnfbicaaGreatDoor

namespace Go.Proofs.YtobjdpngnfbicaaGreatDoor
open Go.RowKit
set_option linter.unusedVariables false
set_option maxRecDepth 20000
def TJ (t:TypeId):Prop:=t=141∨t=88∨t=99∨t=101∨t=41∨t=5
def NJ (w:World):Blks:=fun q=>∃ L t fz,w.heap[q]?=some (.cells L t fz)∧¬ TJ t∧t≠93∧t≠37
def JT (w:World) (jk:JK):Prop:=∀ b,jk.all b→∃ L t fz,w.heap[b]?=some (.cells L t fz)∧TJ t
theorem nj_apart {w:World} {jk:JK} (h:JT w jk) {q:Nat} (hq:NJ w q):¬ jk.all q:=fun ha=>by
 obtain ⟨L,t,fz,h1,h2,-⟩:=hq
 obtain ⟨L',t',fz',k1,k2⟩:=h q ha
 rw [h1] at k1
 injection k1 with k1
 injection k1 with _ k1
 subst k1
 exact h2 k2
theorem box_apart {w:World} {jk:JK} (h:JT w jk) {q:Nat} {L:List Value} {t:TypeId} (hb:Blk w q L t) (ht:¬ TJ t):¬ jk.all q:=fun ha=>by
 obtain ⟨L',t',fz',k1,k2⟩:=h q ha
 unfold Blk at hb
 rw [hb] at k1
 injection k1 with k1
 injection k1 with _ k1
 subst k1
 exact ht k2
theorem nj_keep {w w':World} {q:Nat} (hq:NJ w q) (h:w'.heap[q]?=w.heap[q]?):NJ w' q:=by
 obtain ⟨L,t,fz,h1,h2⟩:=hq
 exact ⟨L,t,fz,h.trans h1,h2⟩
theorem JT.keep {w w':World} {jk:JK} (h:JT w jk) (hk:∀ b,jk.all b→w'.heap[b]?=w.heap[b]?):JT w' jk:=fun b hb=>by
 obtain ⟨L,t,fz,h1,h2⟩:=h b hb
 exact ⟨L,t,fz,(hk b hb).trans h1,h2⟩
theorem JAt.slim {w:World} {jk:JK} {M:MD} {J:MJ} (h:JAt w jk M J):∃ jk',jk'.j=jk.j∧jk'.K=jk.K∧JAt w jk' M J∧(∀ b,jk'.all b→jk.all b)∧JT w jk':=by
 obtain ⟨hd,⟨ra,rc,R,h1,h2,h3⟩,⟨h4,h5⟩,h6,h7,h8,h9⟩:=h
 refine ⟨⟨jk.j,jk.K,fun b=>(Value.slice ra J.L.length rc).ownBlock=some b∨R b⟩,rfl,rfl,⟨hd,⟨ra,rc,R,h1,h2,fun b hb=>hb⟩,⟨h4,fun b hb=>h5 b (h3 b hb)⟩,h6,h7,h8,h9⟩,?_,?_⟩
 · rintro b (hb | hb | hb)
   · exact .inl hb
   · exact .inr (.inl hb)
   · exact .inr (.inr (h3 b hb))
 · rintro b (rfl | hb | hb)
   · exact ⟨_,_,_,h1,.inl rfl⟩
   · obtain ⟨-,-,⟨cap,-,-,m1⟩,⟨L,m2,-⟩,m3,m4⟩:=hd
     rcases hb with rfl | rfl | rfl
     · exact ⟨_,_,_,m1,.inr (.inl rfl)⟩
     · exact ⟨_,_,_,m2,.inr (.inr (.inl rfl))⟩
     · cases hf:M.fault with
       | none=>rw [m3 hf];exact ⟨_,_,_,m1,.inr (.inl rfl)⟩
       | some p=>exact ⟨_,_,_,(m4 p.1 p.2 (by rw [hf])).2.2,.inr (.inr (.inr (.inl rfl)))⟩
   · rcases hb with hb | hb
     · obtain ⟨vals,ho,-,-⟩:=h2
       obtain ⟨cs,hc⟩:=own_block ho hb
       exact ⟨_,_,_,hc,.inr (.inr (.inr (.inr (.inl rfl))))⟩
     · obtain ⟨vals,-,-,hR⟩:=h2
       obtain ⟨L,fz,hL⟩:=hR b hb
       exact ⟨_,_,_,hL,.inr (.inr (.inr (.inr (.inr rfl))))⟩
theorem tj_int:¬ TJ 3:=by unfold TJ;decide
theorem tj_item:¬ TJ 108:=by unfold TJ;decide
theorem tj_gone:¬ TJ 111:=by unfold TJ;decide
theorem tj_user:¬ TJ 93:=by unfold TJ;decide
theorem rows_nj {w:World} {base:Nat} {e:TypeId} {k n:Nat} {v:Value} {xs:List Value} (h:w.ownsRow base e k v n xs) (he:¬ TJ e) (hu:e≠93) (hm:e≠37):Rows (NJ w) w k v n xs:=by
 obtain ⟨a,cap,rfl,q1,q2,q3,q4,q5⟩:=Rows.of_owns h
 refine ⟨a,cap,rfl,q1,q2,q3,q4,?_⟩
 rcases q5 with h0 | ⟨b,off,L,t,fz,rfl,hb,hg,hle,hr⟩
 · exact .inl h0
 · refine .inr ⟨b,off,L,t,fz,rfl,?_,hg,hle,hr⟩
   rcases h.2 with ⟨h0,_⟩ | ⟨g,cap',cur,hv,_,hh,_⟩
   · simp at h0
   · simp at hv
     obtain ⟨⟨rfl,-⟩,-⟩:=hv
     exact ⟨_,_,_,hh,he,hu,hm⟩
theorem OwnIn.nj {w:World} {base:Nat} {s1 s2 s3:Value} {m:RMap} (h:OwnIn w base s1 s2 s3 m) (hb:Bnd m):MapIn (NJ w) w s1 s2 s3 m:=
 ⟨rows_nj h.seen tj_int (by decide) (by decide),rows_nj h.items tj_item (by decide) (by decide),rows_nj h.gone tj_gone (by decide) (by decide),(h.map hb).seenB,(h.map hb).itemsB,(h.map hb).goneB⟩
structure UAt (w:World) (jk:JK) (u:Nat) (M:MD) (U:MU):Prop where
 box:∃ a1 c1 a2 c2 a3 c3,Blk w u [.int .i64 (U.dev:Int),.slice a1 U.m.seen.length c1,.slice a2 U.m.items.length c2,.slice a3 U.m.gone.length c3,.pointer (some ⟨jk.j,0,none⟩)] 93 ∧
  MapIn (NJ w) w (.slice a1 U.m.seen.length c1) (.slice a2 U.m.items.length c2) (.slice a3 U.m.gone.length c3) U.m
 jat:JAt w jk M U.J
 typ:JT w jk
 low:∀ b,jk.all b→3 < b
theorem UAt.lt {w:World} {jk:JK} {u:Nat} {M:MD} {U:MU} (h:UAt w jk u M U):u < w.heap.size:=by
 obtain ⟨a1,c1,a2,c2,a3,c3,h1,-⟩:=h.box
 exact h1.lt
theorem UAt.keep {w w':World} {jk:JK} {u:Nat} {M:MD} {U:MU} (h:UAt w jk u M U) (hb:Below w.heap.size w w'):UAt w' jk u M U:=by
 obtain ⟨a1,c1,a2,c2,a3,c3,h1,h2⟩:=h.box
 have hj:=h.jat.lt
 exact ⟨⟨a1,c1,a2,c2,a3,c3,h1.keep (hb.block _ h1.lt),(h2.keep fun q _ hlt=>hb.block q hlt).mono (fun q hq hlt=>nj_keep hq (hb.block q (by
  obtain ⟨L,t,fz,hh,_⟩:=hq
  exact lt_of_block hh)))⟩,h.jat.kept hb,h.typ.keep fun b ha=>hb.block b (hj b ha),h.low⟩
theorem UAt.apart {w:World} {jk:JK} {u:Nat} {M:MD} {U:MU} (h:UAt w jk u M U):¬ jk.all u:=fun ha=>by
 obtain ⟨a1,c1,a2,c2,a3,c3,h1,-⟩:=h.box
 obtain ⟨L,t,fz,k1,k2⟩:=h.typ u ha
 unfold Blk at h1
 rw [h1] at k1
 injection k1 with k1
 injection k1 with _ k1
 subst k1
 exact tj_user k2
theorem UAt.moved {w w':World} {jk jk':JK} {u:Nat} {M M':MD} {U:MU} {J':MJ} (h:UAt w jk u M U) (ho:Only jk.all w w') (hj:JAt w' jk' M' J') (hjj:jk'.j=jk.j) (hall:∀ b,jk'.all b→jk.all b∨w.heap.size≤b) (h4:3 < w.heap.size):
 ∃ jk2,jk2.j=jk.j∧jk2.K=jk'.K∧(∀ b,jk2.all b→jk.all b∨w.heap.size≤b)∧UAt w' jk2 u M' ⟨U.dev,U.m,J'⟩:=by
 obtain ⟨a1,c1,a2,c2,a3,c3,h1,h2⟩:=h.box
 obtain ⟨jk2,e1,e2,e3,e4,e5⟩:=hj.slim
 refine ⟨jk2,e1.trans hjj,e2,fun b hb=>hall b (e4 b hb),⟨a1,c1,a2,c2,a3,c3,?_,(h2.keep fun q hq hlt=>ho.block q hlt (nj_apart h.typ hq)).mono fun q hq _=>nj_keep hq (ho.block q (by
  obtain ⟨L,t,fz,hh,_⟩:=hq
  exact lt_of_block hh) (nj_apart h.typ hq))⟩,e3,e5,fun b hb=>?_⟩
 · rw [e1,hjj]
   exact h1.keep (ho.block u h1.lt h.apart)
 · rcases hall b (e4 b hb) with hb' | hb'
   · exact h.low b hb'
   · omega
end Go.Proofs.YtobjdpngnfbicaaGreatDoor

namespace Go.Proofs.YtobjdpngnfbicaaGreatDoor
open Go.RowKit
set_option linter.unusedVariables false
set_option maxRecDepth 20000
attribute [local go_sem] opC upC
def RowsAt (R:Blks) (w:World) (v:Value) (S:List (List UInt8)):Prop:=
 ∃ a cap,v=.slice a S.length cap∧(S = []∨∃ g,a=some ⟨g,0,none⟩∧g < w.heap.size∧∀ i (h:i < S.length),∃ x,w.cell? ⟨g,i,none⟩=some x∧Bytes R w x S[i])
theorem RowsIn.at {R:Blks} {w:World} {lo:Nat} {v:Value} {S:List (List UInt8)} (h:RowsIn R w lo v S):RowsAt R w v S:=by
 obtain ⟨a,cap,rfl,-,-⟩:=id h.shape
 refine ⟨a,cap,rfl,?_⟩
 cases S with
 | nil=>exact .inl rfl
 | cons x S=>
   right
   obtain ⟨g,cap',x',hv,hb,hc⟩:=h.elem 0 (by simp)
   simp at hv
   obtain ⟨rfl,rfl⟩:=hv
   refine ⟨g,rfl,cell_lt hc,fun i hi=>?_⟩
   obtain ⟨g2,cap2,x2,hv2,hb2,hc2⟩:=h.elem i hi
   simp at hv2
   obtain ⟨rfl,-⟩:=hv2
   exact ⟨x2,hc2,hb2⟩
theorem RowsAt.drewN {R:Blks} {w:World} {v:Value} {S:List (List UInt8)} (h:RowsAt R w v S) (n:Nat):RowsAt R (w.drewN n) v S:=h
theorem later_cell {w w':World} {a:Addr} {x:Value} (h:w.cell? a=some x) (hl:Later w.drew w'):w'.cell? a=some x:=by
 have hlt:=cell_lt h
 have hb:w'.heap[a.block]?=w.heap[a.block]?:=hl.block a.block hlt
 unfold World.cell? at *
 rw [hb]
 exact h
end Go.Proofs.YtobjdpngnfbicaaGreatDoor

namespace Go.Proofs.YtobjdpngnfbicaaGreatDoor
open Go.RowKit
set_option linter.unusedVariables false
set_option maxRecDepth 20000
attribute [local go_sem] opC upC
def upM (S:List (List UInt8)) (k:Nat):MD:=⟨S,false,none,k⟩
def setAll (S:List (List UInt8)) (ws:List (Nat × List UInt8)):List (List UInt8):=ws.foldl (fun S p=>S.set p.1 p.2) S
theorem setAll_length (ws:List (Nat × List UInt8)):∀ S,(setAll S ws).length=S.length:=by
 induction ws with
 | nil=>intro S;rfl
 | cons x ws ih=>intro S;show (setAll (S.set x.1 x.2) ws).length=_;rw [ih];simp
theorem wr_up (S:List (List UInt8)) (k a:Nat) (s:List UInt8):(upM S k).wr a s=(upM (S.set a s) (k+1),0):=rfl
theorem writeAll_up (ws:List (Nat × List UInt8)):∀ S k,writeAll (upM S k) ws=(upM (setAll S ws) (k+ws.length),0):=by
 induction ws with
 | nil=>intro S k;rfl
 | cons x ws ih=>
   intro S k
   obtain ⟨a,s⟩:=x
   show (if ((upM S k).wr a s).2=0 then writeAll ((upM S k).wr a s).1 ws else (upM S k).wr a s)=_
   rw [wr_up]
   simp only [if_true]
   rw [ih]
   show (upM (setAll (S.set a s) ws) (k+1+ws.length),(0:Int))=(upM (setAll (S.set a s) ws) (k+(ws.length+1)),0)
   rw [Nat.add_assoc,Nat.add_comm 1]
def UpJ (w:World) (lo:Nat) (jk:JK) (n g:Nat) (L:List (List UInt8)) (c:Nat):Prop:=
 0 < lo∧(∀ b,jk.all b→lo≤b)∧∃ S k,S.length=n∧k≤c∧JAt w jk (upM S k) ⟨g,L,false⟩
theorem UpJ.lt {w:World} {lo:Nat} {jk:JK} {n g:Nat} {L:List (List UInt8)} {c:Nat} (h:UpJ w lo jk n g L c):∀ b,jk.all b→b < w.heap.size:=by
 obtain ⟨_,_,S,k,_,_,hj⟩:=h
 exact hj.lt
theorem UpJ.keep {w w':World} {lo:Nat} {jk:JK} {n g:Nat} {L:List (List UInt8)} {c:Nat} (h:UpJ w lo jk n g L c) (hk:∀ b,jk.all b→w'.heap[b]?=w.heap[b]?) (hs:w.heap.size≤w'.heap.size):UpJ w' lo jk n g L c:=by
 obtain ⟨h1,h2,S,k,h3,h4,hj⟩:=h
 exact ⟨h1,h2,S,k,h3,h4,hj.keep hk hs⟩
theorem UpJ.kept {w w':World} {lo:Nat} {jk:JK} {n g:Nat} {L:List (List UInt8)} {c:Nat} (h:UpJ w lo jk n g L c) (hb:Below w.heap.size w w'):UpJ w' lo jk n g L c:=
 h.keep (fun b hf=>hb.block b (h.lt b hf)) hb.size
theorem UpJ.more {w:World} {lo:Nat} {jk:JK} {n g:Nat} {L:List (List UInt8)} {c c':Nat} (h:UpJ w lo jk n g L c) (hc:c≤c'):UpJ w lo jk n g L c':=by
 obtain ⟨h1,h2,S,k,h3,h4,hj⟩:=h
 exact ⟨h1,h2,S,k,h3,by omega,hj⟩
theorem UpJ.taken {w:World} {lo:Nat} {jk:JK} {n g:Nat} {L:List (List UInt8)} {c:Nat} (h:UpJ w lo jk n g L c):takenL L≤halfN n∧n≤65536:=by
 obtain ⟨h0,hall,S,k,rfl,hk,hj⟩:=h
 exact ⟨hj.room,hj.disk.le⟩
end Go.Proofs.YtobjdpngnfbicaaGreatDoor

namespace Go.Proofs.YtobjdpngnfbicaaGreatDoor
open Go.RowKit
set_option linter.unusedVariables false
set_option maxRecDepth 20000
attribute [local go_sem ↓] seal_make_bytes
theorem run_conv_const (w:World) (C:Array Value) (n c:Nat):(convert 41 41 (.slice (some ⟨w.heap.size,0,none⟩) n c)).run Tryz.prog (w.alloc (.cells C 5))=.ok (.slice (some ⟨w.heap.size,0,none⟩) n c) (w.alloc (.cells C 5 (C.size,C.size+1))):=
 Lib.run_convert_bytes_const w _ _ C n c Tryz.underlying41 Tryz.underlying5
attribute [local go_sem] run_conv_const
theorem Below.drewN' {B0:Nat} {a w:World} (h:Below B0 a w) (n:Nat):Below B0 a (w.drewN n):=⟨h.os,h.tape,h.output,h.size,h.block⟩
theorem rowsAt_two {R:Blks} {w:World} {x0 x1:Value} {l0 l1:List UInt8} (h0:Bytes R w x0 l0) (h1:Bytes R w x1 l1) (hR:∀ b,R b→b < w.heap.size):
 RowsAt R (w.alloc (.cells #[x0,x1] 41)) (.slice (some ⟨w.heap.size,0,none⟩) 2 2) [l0,l1]:=by
 have hk:∀ b,R b→b < w.heap.size→(w.alloc (.cells #[x0,x1] 41)).heap[b]?=w.heap[b]?:=fun b _ hlt=>(kept_alloc w _).block b hlt
 refine ⟨_,2,rfl,.inr ⟨w.heap.size,rfl,by simp,fun i hi=>?_⟩⟩
 have hb:=Blk.new w #[x0,x1] 41
 have:i=0∨i=1:=by simp at hi;omega
 rcases this with rfl | rfl
 · exact ⟨x0,by simp [hb.cell 0],h0.keep hk⟩
 · exact ⟨x1,by simp [hb.cell 1],h1.keep hk⟩
theorem rowsAt_one {R:Blks} {w:World} {x0:Value} {l0:List UInt8} (h0:Bytes R w x0 l0) (hR:∀ b,R b→b < w.heap.size):
 RowsAt R (w.alloc (.cells #[x0] 41)) (.slice (some ⟨w.heap.size,0,none⟩) 1 1) [l0]:=by
 have hk:∀ b,R b→b < w.heap.size→(w.alloc (.cells #[x0] 41)).heap[b]?=w.heap[b]?:=fun b _ hlt=>(kept_alloc w _).block b hlt
 refine ⟨_,1,rfl,.inr ⟨w.heap.size,rfl,by simp,fun i hi=>?_⟩⟩
 have hb:=Blk.new w #[x0] 41
 have:i=0:=by simp at hi;omega
 subst this
 exact ⟨x0,by simp [hb.cell 0],h0.keep hk⟩
theorem bytes_empty (F:Blks) (w:World) (a:Option Addr):Bytes F w (.slice a 0 0) []:=⟨a,0,rfl,Nat.le_refl _,by unfold maxLen;omega,fun _=>rfl,.inl rfl⟩
theorem RowsAt.kept {R:Blks} {w w':World} {v:Value} {S:List (List UInt8)} (h:RowsAt R w v S) (hb:Below w.heap.size w w'):RowsAt R w' v S:=by
 obtain ⟨a,cap,rfl,h⟩:=h
 refine ⟨a,cap,rfl,?_⟩
 rcases h with h | ⟨g,rfl,hg,h⟩
 · exact .inl h
 · refine .inr ⟨g,rfl,Nat.lt_of_lt_of_le hg hb.size,fun i hi=>?_⟩
   obtain ⟨x,hx,hbx⟩:=h i hi
   refine ⟨x,?_,hbx.keep fun b _ hlt=>hb.block b hlt⟩
   unfold World.cell? at *
   rw [show w'.heap[(⟨g,i,none⟩:Addr).block]?=w.heap[(⟨g,i,none⟩:Addr).block]? from hb.block g hg]
   exact hx
def UpW (w:World) (lo j d n g:Nat) (L:List (List UInt8)) (c:Nat):Prop:=∃ jk:JK,jk.j=j∧jk.K.d=d∧UpJ w lo jk n g L c
theorem UpW.kept {w w':World} {lo j d n g:Nat} {L:List (List UInt8)} {c:Nat} (h:UpW w lo j d n g L c) (hb:Below w.heap.size w w'):UpW w' lo j d n g L c:=by
 obtain ⟨jk,h1,h2,h⟩:=h
 exact ⟨jk,h1,h2,h.kept hb⟩
theorem UpW.taken {w:World} {lo j d n g:Nat} {L:List (List UInt8)} {c:Nat} (h:UpW w lo j d n g L c):takenL L≤halfN n∧n≤65536:=by
 obtain ⟨jk,_,_,h⟩:=h
 exact h.taken
end Go.Proofs.YtobjdpngnfbicaaGreatDoor
