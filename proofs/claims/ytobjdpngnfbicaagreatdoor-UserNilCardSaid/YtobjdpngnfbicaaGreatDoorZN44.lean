/-
  RArg UNil
-/
import Derived.Test.YtobjdpngnfbicaaGreatDoorChecked
import Derived.Test.YtobjdpngnfbicaaGreatDoorZN04
import Derived.Test.YtobjdpngnfbicaaGreatDoorZN42
import Derived.Deep.Strs
import Derived.Lib.SmallJoins
import Derived.Test.YtobjdpngnfbicaaGreatDoorRows
import Derived.Test.YtobjdpngnfbicaaGreatDoorZN10
import Derived.ChangeSame
import Derived.ChangeVars
import Derived.JoinedOf
import Derived.RowKit
import Derived.Lib.LaidIn
import Derived.Lib.LaidU8T
import Derived.Test.YtobjdpngnfbicaaGreatDoorZN43
namespace Go.Proofs.YtobjdpngnfbicaaGreatDoor
open Go.RowKit Go.ChangeShapes Go.WideShapes Go.ChangeAt Go.Deep
set_option linter.unusedVariables false
set_option maxRecDepth 20000
theorem rows_of_row {α:Type} (enc:α→List Value) (k:Nat) (hk0:0 < k) (hk:∀ x,(enc x).length=k) (E:List Value→Prop) (Q:α→Prop) (hE:∀ cs,E cs→∃ x,cs=enc x∧Q x) {w:World} {v:Value} {n:Nat} (h:RowOf k E w v n):
 ∃ l:List α,l.length=n∧(∀ x ∈ l,Q x)∧Rows (fun b=>b < w.heap.size) w k v n (l.flatMap enc):=by
 obtain ⟨a,cap,rfl,h1,h2,h3,h4⟩:=h
 by_cases hn:n=0
 · subst hn
   exact ⟨[],rfl,nofun,a,cap,rfl,h1,h2,h3,by simp,.inl rfl⟩
 · obtain ⟨b,off,L,t,fz,rfl,hb,hg,hle,hEE⟩:=h4.resolve_left hn
   have hval:∀ i,i < n→∃ x,(L.toList.drop (off+i * k)).take k=enc x∧Q x:=fun i hi=>hE _ (hEE i hi)
   obtain ⟨x0,_⟩:=hval 0 (by omega)
   let f:Nat→α:=fun i=>if h:i < n then Classical.choose (hval i h) else x0
   have hf:∀ i,i < n→(L.toList.drop (off+i * k)).take k=enc (f i)∧Q (f i):=fun i h=>by
    simp only [f,dif_pos h]
    exact Classical.choose_spec (hval i h)
   have hlen:((List.range n).map f).length=n:=by simp
   refine ⟨(List.range n).map f,hlen,fun x hx=>?_,some ⟨b,off,none⟩,cap,rfl,h1,h2,nofun,by rw [flat_length enc k hk,hlen],.inr ⟨b,off,L,t,fz,rfl,hb,hg,hle,fun i hi=>?_⟩⟩
   · obtain ⟨i,hi,rfl⟩:=List.mem_map.1 hx
     exact (hf i (List.mem_range.1 hi)).2
   · have hq:i / k < n:=Nat.div_lt_of_lt_mul (by rw [Nat.mul_comm];exact hi)
     have hr:i % k < k:=Nat.mod_lt _ hk0
     have hi2:i / k * k+i % k=i:=by rw [Nat.mul_comm];exact Nat.div_add_mod i k
     have e1:=flat_get enc k hk ((List.range n).map f) (i / k) (i % k) (by simpa using hq) hr
     rw [hi2] at e1
     rw [e1]
     simp only [List.getElem_map,List.getElem_range]
     rw [←(hf _ hq).1,List.getElem?_take,if_pos hr,List.getElem?_drop,Nat.add_assoc,hi2]
     simp
def IsStr (cs:List Value):Prop:=∃ s:ByteArray,cs = [.string s]∧s.size≤maxLen
def encS (l:List UInt8):List Value:=[Go.Proofs.encStr l]
theorem str_enc (s:ByteArray):Value.string s=Go.Proofs.encStr s.data.toList:=by cases s;simp [Go.Proofs.encStr]
theorem str_len {s:ByteArray} (h:s.size≤maxLen):s.data.toList.length≤9223372036854775807:=by
 have:s.size=s.data.size:=rfl
 simp
 unfold maxLen at h
 omega
section
variable {H:Type} {enc:TypeId × Value→H} {w:World} {base:Nat} {held:Bool}
theorem rd_str {m:Nat} {cs:List Value} {y:DataW H × List MemPlace} (h:DataW.trod enc Tryz.prog w base (fun _=>true) held m 9 cs=some y):IsStr cs:=by
 obtain ⟨s,rfl,_,ws⟩:=DataW.trod_string Tryz.underlying9 h
 exact ⟨s,rfl,ws⟩
theorem cells_str:Tryz.prog.cellsOf 9=1:=by kernel_rfl
end
def IsStrs (w:World) (v:Value):Prop:=∃ l:List (List UInt8),(∀ x ∈ l,x.length≤9223372036854775807)∧Rows (fun b=>b < w.heap.size) w 1 v l.length (l.map Go.Proofs.encStr)
theorem flat_strs (l:List (List UInt8)):l.flatMap encS=l.map Go.Proofs.encStr:=by induction l with
 | nil=>rfl
 | cons x l ih=>rw [List.flatMap_cons,ih];rfl
theorem open_Strs {H:Type} {enc:TypeId × Value→H} {w:World} {b0:Nat} {v:Value} {d:DataW H} {p:List MemPlace}
 (hv:Value.okWide Tryz.prog w .any b0 32 v) (h:DataW.Trod enc Tryz.prog w 0 (fun _=>true) true 32 v d p):IsStrs w v:=by
 obtain ⟨a0,len0,cap0,rfl⟩:=okWide_slice Tryz.underlying32 hv
 obtain ⟨fuel,hf⟩:=h
 obtain ⟨n,r⟩:=read_row (by omega) Tryz.underlying32 cells_str IsStr (fun m cs y hy=>rd_str hy) hf
 obtain ⟨l,rfl,q,R⟩:=rows_of_row encS 1 (by omega) (fun _=>rfl) IsStr (fun x=>x.length≤9223372036854775807) (fun cs ⟨s,e,hs⟩=>⟨s.data.toList,by rw [e,str_enc];rfl,str_len hs⟩) r
 rw [flat_strs] at R
 exact ⟨l,q,R⟩
end Go.Proofs.YtobjdpngnfbicaaGreatDoor

namespace Go.Proofs.YtobjdpngnfbicaaGreatDoor
open Go.RowKit Go.Lib
set_option linter.unusedVariables false
set_option maxRecDepth 20000
attribute [local go_sem] opC upC
theorem umap_nil (w:World):Calls Tryz.prog 19 #[.pointer none] w fun e w'=>e=.returned (.agg #[.slice none 0 0,.slice none 0 0,.slice none 0 0])∧Below w.heap.size w w':=by
 obtain ⟨w1,hw1⟩:∃ w1,w1=w.alloc (.cells #[.slice none 0 0,.slice none 0 0,.slice none 0 0] 37):=⟨_,rfl⟩
 have hb1:Below w.heap.size w w1:=by rw [hw1];exact kept_alloc _ _
 have hO:Blk w1 w.heap.size [.slice none 0 0,.slice none 0 0,.slice none 0 0] 37:=by rw [hw1];exact Blk.new _ _ _
 have Hb1:=Lib.hid hb1;have Hw1:=Lib.hid hw1;have Q:=Lib.hid (cell3 hO)
 clear hb1 hw1 hO
 go_enter Tryz.func19,Tryz.ntmps19
 go_wp2_with fail
 rw [←Hw1.out]
 obtain ⟨q0,q1,q2⟩:=Q.out
 exact bodyPost_ret (v:=.agg #[.slice none 0 0,.slice none 0 0,.slice none 0 0]) (by simp [results,Tryz.results19,go_sem,q0,q1,q2]) rfl ⟨rfl,Hb1.out⟩
set_option maxRecDepth 100000 in
set_option maxHeartbeats 3000000 in
theorem UserNil_walk (v:Value) (w:World) (hv:IsStrs w v) (hL:Laid3 w):
 Calls Tryz.prog 7 #[v] w fun e w'=>e=.returned (.bool true)∧Below w.heap.size w w':=by
 obtain ⟨l,hl,hR⟩:=hv
 obtain ⟨a,cap,rfl,-⟩:=id hR
 have HL:=Lib.hid (show ∀ W,Below w.heap.size w W→Laid3 W from fun W hb=>hL.below hb)
 have HM:=Lib.hid (umap_nil w)
 obtain ⟨n,hn⟩:∃ n,l.length=n:=⟨_,rfl⟩
 rw [hn]
 clear hR hl hn hL
 go_enter Tryz.func7,Tryz.ntmps7
 go_wp2_with fail
 refine HM.out.mono ?_
 rintro e w1 ⟨rfl,hb1⟩
 obtain ⟨w2,hw2⟩:∃ w2,w2=w1.alloc (.cells #[.slice none 0 0,.slice none 0 0,.slice none 0 0] 37):=⟨_,rfl⟩
 have hb2:Below w.heap.size w w2:=by rw [hw2];exact hb1.alloc hb1.size _
 have hO:Blk w2 w1.heap.size [.slice none 0 0,.slice none 0 0,.slice none 0 0] 37:=by rw [hw2];exact Blk.new _ _ _
 obtain ⟨c0,c1,c2⟩:=cell3 hO
 have Hb2:=Lib.hid hb2;have Hw2:=Lib.hid hw2
 clear hb1 hb2 hw2 hO HM
 have HD:=Lib.hid (device_nil w2)
 go_wp2_with fail
 rw [←Hw2.out]
 refine HD.out.mono ?_
 rintro e w2' ⟨rfl,rfl⟩
 have HDd:=Lib.hid (udead_nil w2)
 clear HD
 go_wp2_with fail
 refine HDd.out.mono ?_
 rintro e w2' ⟨rfl,rfl⟩
 clear HDd
 have H1:=Lib.hid (learn_any_nil w2 (.slice a n cap) ⟨_,_,_,rfl⟩)
 go_wp2_with fail
 refine H1.out.mono ?_
 rintro e w3 ⟨rfl,hb3⟩
 have Hb3:=Lib.hid (show Below w.heap.size w w3 from Hb2.out.trans (hb3.mono Hb2.out.size))
 clear H1 hb3 c0 c1 c2
 have H1:=Lib.hid (drop_any_nil w3 (.slice a n cap) ⟨_,_,_,rfl⟩)
 go_wp2_with fail
 refine H1.out.mono ?_
 rintro e w4 ⟨rfl,hb4⟩
 have Hb4:=Lib.hid (show Below w.heap.size w w4 from Hb3.out.trans (hb4.mono Hb3.out.size))
 clear H1 hb4
 have H1:=Lib.hid (pnewO_any w4)
 go_wp2_with fail
 refine H1.out.mono ?_
 rintro e w5 ⟨rfl,-,hb5⟩
 have Hb5:=Lib.hid (show Below w.heap.size w w5 from Hb4.out.trans (hb5.mono Hb4.out.size))
 clear H1 hb5
 have H1:=Lib.hid (join_nil w5 (some ⟨w4.heap.size+1,0,none⟩) none none 8 0 0 8 0 0)
 go_wp2_with fail
 refine H1.out.mono ?_
 rintro e w6 ⟨rfl,hb6⟩
 have Hb6:=Lib.hid (show Below w.heap.size w w6 from Hb5.out.trans (hb6.mono Hb5.out.size))
 clear H1 hb6
 have H1:=Lib.hid (ucheck_nil w6)
 go_wp2_with fail
 refine H1.out.mono ?_
 rintro e w6' ⟨rfl,rfl⟩
 clear H1
 have H1:=Lib.hid (uworks_any w6 (HL.out w6 Hb6.out))
 go_wp2_with fail
 refine H1.out.mono ?_
 rintro e w7 ⟨rfl,hb7⟩
 have Hb7:=Lib.hid (show Below w.heap.size w w7 from Hb6.out.trans (hb7.mono Hb6.out.size))
 clear H1 hb7
 go_wp2_with fail
 go_ret
 exact ⟨rfl,Hb7.out⟩
end Go.Proofs.YtobjdpngnfbicaaGreatDoor
