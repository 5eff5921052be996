/-
  Shelf Tree Keys
-/
import Derived.Shelf.Small.Bits
import Derived.Shelf.Small.Wraps
import Derived.Shelf.Strconv.Itoa0
import Derived.Shelf.Strings.Search1
import Derived.Shelf.Strings.Search2
import Derived.Shelf.Strings.Cut
import Derived.Shelf.LaysM
import Derived.Shelf.Strings.Shaped
import Derived.Shelf.Sort.Plain
import Derived.Shelf.GgClosure.StringsIndexFunc
import Derived.Ground.GgwProg
import Derived.Shelf.GgClosure.StringsIndexFuncTop
import Derived.Shelf.GgClosure.StringsRunes
import Derived.Shelf.Strings.FuncGrows
import Derived.Shelf.Slices.CompactS
import Derived.Shelf.Slices.In.SortNone
import Derived.Shelf.Unicode.ValidAny
import Derived.Ground.NamesProg
import Derived.Test.YtobjdpngnfbicaaGreatDoorProg
import Derived.Test.YtobjdpngnfbicaaGreatDoorZK05
import Derived.Test.YtobjdpngnfbicaaGreatDoorChecked
import Derived.Test.YtobjdpngnfbicaaGreatDoorZK03
import Derived.Test.YtobjdpngnfbicaaGreatDoorZK01
import Derived.WalkSpells
open Go.Lib renaming hid->ae
open Go.IntWalk renaming i64_in->af
open Nat renaming le_refl->aq
open List renaming length_append->ax
open Go.Proofs.Tryz renaming prog->aC
namespace Go.Proofs
open Go.Shelf
def Tryz.lays219_ren:Go.Shelf.Ren:=⟨fun | 219=>248 | 217=>255 | 225=>256 | 224=>257 | 267=>258 | 266=>262 | 314=>263 | n=>n,fun | 9=>9 | 3=>3 | 4=>4 | 5=>5 | 46=>199 | 146=>292 | 51=>96 | n=>n,fun | 1=>1 | n=>n⟩
theorem Tryz.lays219:Go.Proofs.Lays.n219 aC Tryz.lays219_ren:={
 mixed:=by kernel_rfl
 f217:=Tryz.func255.trans (congrArg some (by kernel_rfl))
 f219:=Tryz.func248.trans (congrArg some (by kernel_rfl))
 f224:=Tryz.func257.trans (congrArg some (by kernel_rfl))
 f225:=Tryz.func256.trans (congrArg some (by kernel_rfl))
 f266:=Tryz.func262.trans (congrArg some (by kernel_rfl))
 f267:=Tryz.func258.trans (congrArg some (by kernel_rfl))
 f314:=Tryz.func263.trans (congrArg some (by kernel_rfl))
 t3:=Tryz.underlying3
 a3:=Tryz.isAgg3
 z3:=Tryz.sizeOf3
 v3:=Tryz.zeroValue3
 t4:=Tryz.underlying4
 a4:=Tryz.isAgg4
 z4:=Tryz.sizeOf4
 v4:=Tryz.zeroValue4
 t5:=Tryz.underlying5
 a5:=Tryz.isAgg5
 z5:=Tryz.sizeOf5
 v5:=Tryz.zeroValue5
 t9:=Tryz.underlying9
 a9:=Tryz.isAgg9
 z9:=Tryz.sizeOf9
 v9:=Tryz.zeroValue9
 t46:=Tryz.underlying199
 a46:=Tryz.isAgg199
 z46:=Tryz.sizeOf199
 v46:=Tryz.zeroValue199
 t51:=Tryz.underlying96
 a51:=Tryz.isAgg96
 z51:=Tryz.sizeOf96
 v51:=Tryz.zeroValue96
 t146:=Tryz.underlying292
 a146:=Tryz.isAgg292
 z146:=Tryz.sizeOf292
 v146:=Tryz.zeroValue292
 g1:=by kernel_rfl }
open Go.RowKit Go.Lib in
theorem Tryz.stringslite_Index_one (s:ByteArray) (c:UInt8) (w:World):
 Calls aC 248 #[.string s,.string ⟨#[c]⟩] w fun e w'=>e=.returned (.int .i64 (Lib.indexByte s.data.toList c)) /\ w'=w:=Any.stringslite_Index_one Tryz.lays219 s c w
def Tryz.laysGw17_ren:Go.Shelf.Ren:=⟨fun | 17=>250 | 15=>260 | 20=>265 | n=>n,fun | 9=>9 | 23=>286 | 4=>4 | 3=>3 | 0=>0 | 21=>21 | n=>n,fun | n=>n⟩
theorem Tryz.laysGw17:Go.Proofs.LaysGw.n17 aC Tryz.laysGw17_ren:={
 mixed:=by kernel_rfl
 f15:=Tryz.func260.trans (congrArg some (by kernel_rfl))
 f17:=Tryz.func250.trans (congrArg some (by kernel_rfl))
 f20:=Tryz.func265.trans (congrArg some (by kernel_rfl))
 t0:=Tryz.underlying0
 a0:=Tryz.isAgg0
 z0:=Tryz.sizeOf0
 v0:=Tryz.zeroValue0
 i0:=by kernel_rfl
 t3:=Tryz.underlying3
 a3:=Tryz.isAgg3
 z3:=Tryz.sizeOf3
 v3:=Tryz.zeroValue3
 i3:=by kernel_rfl
 t4:=Tryz.underlying4
 a4:=Tryz.isAgg4
 z4:=Tryz.sizeOf4
 v4:=Tryz.zeroValue4
 i4:=by kernel_rfl
 t9:=Tryz.underlying9
 a9:=Tryz.isAgg9
 z9:=Tryz.sizeOf9
 v9:=Tryz.zeroValue9
 i9:=by kernel_rfl
 t21:=Tryz.underlying21
 a21:=Tryz.isAgg21
 z21:=Tryz.sizeOf21
 v21:=Tryz.zeroValue21
 i21:=by kernel_rfl
 t23:=Tryz.underlying286
 a23:=Tryz.isAgg286
 z23:=Tryz.sizeOf286
 v23:=Tryz.zeroValue286
 i23:=by kernel_rfl }
open Go.RowKit Go.Lib in
theorem Tryz.strings_ContainsFunc (g:Nat) (lb:Array Value) (eg:∀ args w,(callFunc g args).run aC w=.ok (.enter g args) w) (p:Nat -> Bool) (s:ByteArray) (w:World) (hp:PredAt aC g lb encR p w):
 Calls aC 250 #[.string s,.func (.func g) #[] lb] w fun e w'=>e=.returned (.bool (decide (0 <= Lib.idxFunc p true s))) /\ Below w.heap.size w w':=Any.strings_ContainsFunc Tryz.laysGw17 g lb eg p s w hp
def Tryz.lays190_ren:Go.Shelf.Ren:=⟨fun | 190=>204 | 125=>223 | 258=>222 | 128=>238 | 129=>239 | 302=>230 | 303=>231 | 304=>232 | 305=>233 | 306=>234 | 307=>235 | 308=>169 | 309=>236 | 310=>237 | 333=>243 | 329=>244 | 330=>245 | 334=>246 | 335=>247 | 336=>209 | 344=>254 | n=>n,fun | 31=>32 | 9=>9 | 3=>3 | 46=>199 | 0=>0 | 51=>96 | 53=>146 | 4=>4 | 183=>273 | 182=>272 | 131=>166 | 5=>5 | 218=>280 | 222=>283 | 228=>287 | 229=>288 | n=>n,fun | n=>n⟩
theorem Tryz.lays190:Go.Proofs.Lays.n190 aC Tryz.lays190_ren:={
 mixed:=by kernel_rfl
 f125:=Tryz.func223.trans (congrArg some (by kernel_rfl))
 f128:=Tryz.func238.trans (congrArg some (by kernel_rfl))
 f129:=Tryz.func239.trans (congrArg some (by kernel_rfl))
 f190:=Tryz.func204.trans (congrArg some (by kernel_rfl))
 f258:=Tryz.func222.trans (congrArg some (by kernel_rfl))
 f302:=Tryz.func230.trans (congrArg some (by kernel_rfl))
 f303:=Tryz.func231.trans (congrArg some (by kernel_rfl))
 f304:=Tryz.func232.trans (congrArg some (by kernel_rfl))
 f305:=Tryz.func233.trans (congrArg some (by kernel_rfl))
 f306:=Tryz.func234.trans (congrArg some (by kernel_rfl))
 f307:=Tryz.func235.trans (congrArg some (by kernel_rfl))
 f308:=Tryz.func169.trans (congrArg some (by kernel_rfl))
 f309:=Tryz.func236.trans (congrArg some (by kernel_rfl))
 f310:=Tryz.func237.trans (congrArg some (by kernel_rfl))
 f329:=Tryz.func244.trans (congrArg some (by kernel_rfl))
 f330:=Tryz.func245.trans (congrArg some (by kernel_rfl))
 f333:=Tryz.func243.trans (congrArg some (by kernel_rfl))
 f334:=Tryz.func246.trans (congrArg some (by kernel_rfl))
 f335:=Tryz.func247.trans (congrArg some (by kernel_rfl))
 f336:=Tryz.func209.trans (congrArg some (by kernel_rfl))
 f344:=Tryz.func254.trans (congrArg some (by kernel_rfl))
 t0:=Tryz.underlying0
 a0:=Tryz.isAgg0
 z0:=Tryz.sizeOf0
 v0:=Tryz.zeroValue0
 t3:=Tryz.underlying3
 a3:=Tryz.isAgg3
 z3:=Tryz.sizeOf3
 v3:=Tryz.zeroValue3
 t4:=Tryz.underlying4
 a4:=Tryz.isAgg4
 z4:=Tryz.sizeOf4
 v4:=Tryz.zeroValue4
 t5:=Tryz.underlying5
 a5:=Tryz.isAgg5
 z5:=Tryz.sizeOf5
 v5:=Tryz.zeroValue5
 t9:=Tryz.underlying9
 a9:=Tryz.isAgg9
 z9:=Tryz.sizeOf9
 v9:=Tryz.zeroValue9
 t31:=Tryz.underlying32
 a31:=Tryz.isAgg32
 z31:=Tryz.sizeOf32
 v31:=Tryz.zeroValue32
 t46:=Tryz.underlying199
 a46:=Tryz.isAgg199
 z46:=Tryz.sizeOf199
 v46:=Tryz.zeroValue199
 t51:=Tryz.underlying96
 a51:=Tryz.isAgg96
 z51:=Tryz.sizeOf96
 v51:=Tryz.zeroValue96
 t53:=Tryz.underlying146
 a53:=Tryz.isAgg146
 z53:=Tryz.sizeOf146
 v53:=Tryz.zeroValue146
 t131:=Tryz.underlying166
 a131:=Tryz.isAgg166
 z131:=Tryz.sizeOf166
 v131:=Tryz.zeroValue166
 t182:=Tryz.underlying272
 a182:=Tryz.isAgg272
 z182:=Tryz.sizeOf272
 v182:=Tryz.zeroValue272
 t183:=Tryz.underlying273
 a183:=Tryz.isAgg273
 z183:=Tryz.sizeOf273
 v183:=Tryz.zeroValue273
 t218:=Tryz.underlying280
 a218:=Tryz.isAgg280
 z218:=Tryz.sizeOf280
 v218:=Tryz.zeroValue280
 t222:=Tryz.underlying283
 a222:=Tryz.isAgg283
 z222:=Tryz.sizeOf283
 v222:=Tryz.zeroValue283
 t228:=Tryz.underlying287
 a228:=Tryz.isAgg287
 z228:=Tryz.sizeOf287
 v228:=Tryz.zeroValue287
 t229:=Tryz.underlying288
 a229:=Tryz.isAgg288
 z229:=Tryz.sizeOf288
 v229:=Tryz.zeroValue288 }
open Go.Sort Go.RowKit in
theorem Tryz.slices_Sort_string (blk off cap:Nat) (ss:List (List UInt8)) (w:World) (hH:Holds encStr w blk off ss.toArray) (hblk:blk < w.heap.size) (hsz:ss.length < 4611686018427387904):
 Calls aC 204 #[.slice (some ⟨blk,off,none⟩) ss.length cap] w fun e w'=>
  e=.returned (.tuple #[]) /\ ∃ n os,w'=grow (putRow encStr (Sort.ahead w n) blk off (ss.mergeSort fun x y=>decide (x <= y)).toArray) os:=Any.slices_Sort_string Tryz.lays190 blk off cap ss w hH hblk hsz
open Go.RowKit Go.Sort in
theorem Tryz.slices_Sort_string_none (p:Option Addr) (cap:Nat) (w:World):
 Calls aC 204 #[.slice p 0 cap] w fun e w'=>e=.returned (.tuple #[]) /\ w'=w:=Any.slices_Sort_string_none Tryz.lays190 p cap w
def Tryz.lays194_ren:Go.Shelf.Ren:=⟨fun | 194=>162 | n=>n,fun | 31=>32 | 9=>9 | 3=>3 | 4=>4 | 0=>0 | n=>n,fun | n=>n⟩
theorem Tryz.lays194:Go.Proofs.Lays.n194 aC Tryz.lays194_ren:={
 mixed:=by kernel_rfl
 f194:=Tryz.func162.trans (congrArg some (by kernel_rfl))
 t0:=Tryz.underlying0
 a0:=Tryz.isAgg0
 z0:=Tryz.sizeOf0
 v0:=Tryz.zeroValue0
 t3:=Tryz.underlying3
 a3:=Tryz.isAgg3
 z3:=Tryz.sizeOf3
 v3:=Tryz.zeroValue3
 t4:=Tryz.underlying4
 a4:=Tryz.isAgg4
 z4:=Tryz.sizeOf4
 v4:=Tryz.zeroValue4
 t9:=Tryz.underlying9
 a9:=Tryz.isAgg9
 z9:=Tryz.sizeOf9
 v9:=Tryz.zeroValue9
 t31:=Tryz.underlying32
 a31:=Tryz.isAgg32
 z31:=Tryz.sizeOf32
 v31:=Tryz.zeroValue32 }
open Go.RowKit Go.Lib Go.Sort in
theorem Tryz.slices_Compact_string (blk off cap:Nat) (zs:List (List UInt8)) (w:World) (hH:Holds encStr w blk off zs.toArray) (hsz:zs.length <= 9223372036854775807) (hcap:zs.length <= cap):
 Calls aC 162 #[.slice (some ⟨blk,off,none⟩) zs.length cap] w fun e w'=>e=.returned (.slice (some ⟨blk,off,none⟩) (Lib.compact zs).length cap) /\ ∃ q,w'=putRow encStr (Sort.ahead w q) blk off (Lib.compact zs ++ List.replicate (zs.length - (Lib.compact zs).length) []).toArray:=Any.slices_Compact_string Tryz.lays194 blk off cap zs w hH hsz hcap
open Go.RowKit Go.Lib Go.Sort in
theorem Tryz.slices_Compact_string_empty (a:Option Addr) (cap:Nat) (w:World):
 Calls aC 162 #[.slice a 0 cap] w fun e w'=>e=.returned (.slice a 0 cap) /\ w'=w:=Any.slices_Compact_string_empty Tryz.lays194 a cap w
def Tryz.lays122_ren:Go.Shelf.Ren:=⟨fun | 122=>172 | 215=>210 | n=>n,fun | 3=>3 | 4=>4 | n=>n,fun | n=>n⟩
theorem Tryz.lays122:Go.Proofs.Lays.n122 aC Tryz.lays122_ren:={
 mixed:=by kernel_rfl
 f122:=Tryz.func172.trans (congrArg some (by kernel_rfl))
 f215:=Tryz.func210.trans (congrArg some (by kernel_rfl))
 t3:=Tryz.underlying3
 a3:=Tryz.isAgg3
 z3:=Tryz.sizeOf3
 v3:=Tryz.zeroValue3
 t4:=Tryz.underlying4
 a4:=Tryz.isAgg4
 z4:=Tryz.sizeOf4
 v4:=Tryz.zeroValue4 }
open Go.RowKit in
theorem Tryz.cmp_Compare_int (x y:Int) (w:World):
 Calls aC 172 #[.int .i64 x,.int .i64 y] w fun e w'=>e=.returned (.int .i64 (Lib.compareInt x y)) /\ w'=w:=Any.cmp_Compare_int Tryz.lays122 x y w
def Tryz.laysValid_ren:Go.Shelf.Ren:=⟨fun | 196=>259 | 259=>264 | n=>n,fun | 9=>9 | 4=>4 | 3=>3 | 5=>5 | 12=>12 | 119=>295 | 0=>0 | 46=>199 | 139=>298 | 138=>297 | 53=>146 | n=>n,fun | 3=>2 | 4=>3 | n=>n⟩
theorem Tryz.laysValid:Go.Proofs.Lays.n196 aC Tryz.laysValid_ren:={
 mixed:=by kernel_rfl
 f196:=Tryz.func259.trans (congrArg some (by kernel_rfl))
 f259:=Tryz.func264.trans (congrArg some (by kernel_rfl))
 t0:=Tryz.underlying0
 a0:=Tryz.isAgg0
 z0:=Tryz.sizeOf0
 v0:=Tryz.zeroValue0
 t3:=Tryz.underlying3
 a3:=Tryz.isAgg3
 z3:=Tryz.sizeOf3
 v3:=Tryz.zeroValue3
 t4:=Tryz.underlying4
 a4:=Tryz.isAgg4
 z4:=Tryz.sizeOf4
 v4:=Tryz.zeroValue4
 t5:=Tryz.underlying5
 a5:=Tryz.isAgg5
 z5:=Tryz.sizeOf5
 v5:=Tryz.zeroValue5
 t9:=Tryz.underlying9
 a9:=Tryz.isAgg9
 z9:=Tryz.sizeOf9
 v9:=Tryz.zeroValue9
 t12:=Tryz.underlying12
 a12:=Tryz.isAgg12
 z12:=Tryz.sizeOf12
 v12:=Tryz.zeroValue12
 t46:=Tryz.underlying199
 a46:=Tryz.isAgg199
 z46:=Tryz.sizeOf199
 v46:=Tryz.zeroValue199
 t53:=Tryz.underlying146
 a53:=Tryz.isAgg146
 z53:=Tryz.sizeOf146
 v53:=Tryz.zeroValue146
 t119:=Tryz.underlying295
 a119:=Tryz.isAgg295
 z119:=Tryz.sizeOf295
 t138:=Tryz.underlying297
 a138:=Tryz.isAgg297
 z138:=Tryz.sizeOf297
 v138:=Tryz.zeroValue297
 t139:=Tryz.underlying298
 a139:=Tryz.isAgg298
 z139:=Tryz.sizeOf298
 v139:=Tryz.zeroValue298
 g3:=by kernel_rfl
 g4:=by kernel_rfl }
end Go.Proofs
namespace Go.Proofs.YtobjdpngnfbicaaGreatDoor
open Go
inductive jX where
 | done
 | steady (i:Nat) (r:jX)
 | move (i:Nat) (r:jX)
 | both (i j:Nat) (r s:jX)
section
variable {P:Program} {ops:Array Oper} {md:Region.Mode} {C:World -> World -> Prop}
def wpT (P:Program) (ops:Array Oper) (C:World -> World -> Prop) (Q:Act -> World -> Prop):jX -> Act -> World -> Prop
 | .done,a,w=>Q a w
 | .steady i r,a,w=>match ops[i]? with
   | none=>False
   | some o=>if Region.wanted o (yielded ops a.tmps) then ∃ v,(∀ w',C w w' -> (execOp a.eval o).run P w'=.ok (.value v) w') /\ wpT P ops C Q r (a.put o.dst v) w else wpT P ops C Q r (a.put o.dst undef) w
 | .move i r,a,w=>match ops[i]? with
   | none=>False
   | some o=>if Region.wanted o (yielded ops a.tmps) then opC P o a w (fun v w'=>C w w' /\ wpT P ops C Q r (a.put o.dst v) w') else wpT P ops C Q r (a.put o.dst undef) w
 | .both i j r s,a,w=>(match ops[i]? with
   | none=>False
   | some o=>if Region.wanted o (yielded ops a.tmps) then opC P o a w (fun v w'=>C w w' /\ wpT P ops C Q r (a.put o.dst v) w') else wpT P ops C Q r (a.put o.dst undef) w) /\
   (match ops[j]? with
   | none=>False
   | some o=>if Region.wanted o (yielded ops a.tmps) then opC P o a w (fun v w'=>C w w' /\ wpT P ops C Q s (a.put o.dst v) w') else wpT P ops C Q s (a.put o.dst undef) w)
def fq (md:Region.Mode) (ops:Array Oper):jX -> Nat -> Array Bool -> Bool
 | .done,0,listed=>(Region.ready md ops listed).isEmpty
 | .steady i r,n+1,listed=>(Region.ready md ops listed).contains i && Region.free md ops listed i && fq md ops r n (listed.setIfInBounds i true)
 | .move i r,n+1,listed=>(Region.ready md ops listed == [i]) && fq md ops r n (listed.setIfInBounds i true)
 | .both i j r s,n+1,listed=>(Region.ready md ops listed == [i,j]) && fq md ops r n (listed.setIfInBounds i true) && fq md ops s n (listed.setIfInBounds j true)
 | _,_,_=>false
theorem oI {Q:Act -> World -> Prop} {fuel:Nat} {listed:Array Bool} {i:Nat} {r:jX} {a:Act} {w:World}
 (ih:∀ (listed:Array Bool) (a:Act) (w:World),fq md ops r fuel listed=true -> wpT P ops C Q r a w -> eG P md ops C Q fuel listed a w)
 (hB:fq md ops r fuel (listed.setIfInBounds i true)=true)
 (h:match ops[i]? with
  | none=>False
  | some o=>if Region.wanted o (yielded ops a.tmps) then opC P o a w (fun v w'=>C w w' /\ wpT P ops C Q r (a.put o.dst v) w') else wpT P ops C Q r (a.put o.dst undef) w):
 stC P ops C i (eG P md ops C Q fuel (listed.setIfInBounds i true)) a w:=by
 unfold stC;cases h0:ops[i]? with
 | none=>simp[h0] at h
 | some o=>
   simp only[h0] at h;simp only;split
   ·rename_i hw;simp only[hw,if_true] at h;exact dG (fun v w' hv=>⟨hv.1,ih _ _ _ hB hv.2⟩) h
   ·rename_i hw;simp only[hw] at h;exact ih _ _ _ hB h
theorem eq {Q:Act -> World -> Prop} (hrefl:∀ w,C w w) (htrans:∀ a b c,C a b -> C b c -> C a c) (hs:Region.noSelect ops=true):∀ (t:jX) (n:Nat) (listed:Array Bool) (a:Act) (w:World),
 fq md ops t n listed=true -> wpT P ops C Q t a w -> eG P md ops C Q n listed a w
 | .done,0,_,_,_,hB,h=>⟨by simpa[fq] using hB,h⟩
 | .done,_+1,_,_,_,hB,_=>by simp[fq] at hB
 | .steady _ _,0,_,_,_,hB,_=>by simp[fq] at hB
 | .move _ _,0,_,_,_,hB,_=>by simp[fq] at hB
 | .both _ _ _ _,0,_,_,_,hB,_=>by simp[fq] at hB
 | .steady i r,n+1,listed,a,w,hB,h=>by
   simp only[fq,Bool.and_eq_true] at hB;obtain⟨⟨hr,hf⟩,hB'⟩:=hB;simp only[wpT] at h;cases h0:ops[i]? with
   | none=>simp[h0] at h
   | some o=>
     simp only[h0] at h
     by_cases hw:Region.wanted o (yielded ops a.tmps)=true
     ·simp only[hw,if_true] at h;obtain⟨v,hv,hK⟩:=h;exact dT hrefl htrans h0 (Region.noSelect_spec hs) n listed a w (Region.free_spec h0 hf) (by simpa using hr) (.inl ⟨hw,hv⟩) (eq hrefl htrans hs r n _ _ _ hB' hK)
     ·simp only[hw] at h;exact dT hrefl htrans h0 (Region.noSelect_spec hs) n listed a w (Region.free_spec h0 hf) (by simpa using hr) (.inr ⟨by simpa using hw,rfl⟩) (eq hrefl htrans hs r n _ _ _ hB' h)
 | .move i r,n+1,listed,a,w,hB,h=>by
   simp only[fq,Bool.and_eq_true] at hB;obtain⟨hr,hB'⟩:=hB;have hr':Region.ready md ops listed = [i]:=by simpa using hr
   simp only[wpT] at h;refine⟨fun h0=>(by rw[hr'] at h0;cases h0),fun j hj=>?_⟩;rw[hr'] at hj;obtain rfl:j=i:=by simpa using hj
   exact oI (eq hrefl htrans hs r n) hB' h
 | .both i j r s,n+1,listed,a,w,hB,h=>by
   simp only[fq,Bool.and_eq_true] at hB;obtain⟨⟨hr,hB1⟩,hB2⟩:=hB;have hr':Region.ready md ops listed = [i,j]:=by simpa using hr
   simp only[wpT] at h;refine⟨fun h0=>(by rw[hr'] at h0;cases h0),fun k hk=>?_⟩;rw[hr'] at hk;simp only[List.mem_cons,List.not_mem_nil,or_false] at hk;rcases hk with rfl | rfl
   ·exact oI (eq hrefl htrans hs r n) hB1 h.1
   ·exact oI (eq hrefl htrans hs s n) hB2 h.2
theorem jY {id:Nat} {Q:Exit -> Act -> World -> Prop} {a:Act} {w:World} {l:List Oper} (C:World -> World -> Prop) (t:jX) (n:Nat) (hm:P.follows .mixedOrders=true) (hB:(Region.noSelect l.toArray && fq .any l.toArray t n (Array.replicate n false) && (n == l.length))=true)
 (hrefl:∀ w,C w w) (htrans:∀ a b c,C a b -> C b c -> C a c)
 (Z:Act -> World -> Prop) (hZ:∀ a' w',Z a' w' -> Q .normal a' w')
 (h:wpT P l.toArray C Z t a w.drew):(Code.region id l.toArray true).wp P Q a w:=by
 simp only[Bool.and_eq_true] at hB;obtain⟨⟨h1,h2⟩,h3⟩:=hB;have h3':n=l.length:=by simpa using h3
 refine wp_region_any hm (gA (C:=C) (Q:=Z) hZ _ _ _ _ ?_);have:=eq (md:=.any) hrefl htrans h1 t n _ a w.drew h2 h;subst h3';simpa using this
theorem rp {Q:Act -> World -> Prop} {a:Act} {w:World} (h:Q a w):wpT P ops C Q .done a w:=h
theorem eK {Q:Act -> World -> Prop} {i:Nat} {o:Oper} {r:jX} {a:Act} {w:World} (ho:ops[i]?=some o) (hw:Region.wanted o (yielded ops a.tmps)=true) {v:Value}
 (hv:∀ w',C w w' -> (execOp a.eval o).run P w'=.ok (.value v) w')
 (h:∀ K:Act -> Prop,(∀ a',wpT P ops C Q r a' w -> K a') -> K (a.put o.dst v)):wpT P ops C Q (.steady i r) a w:=by
 simp only[wpT,ho,hw,if_true];exact⟨v,hv,h _ (fun _ h=>h)⟩
theorem jL {Q:Act -> World -> Prop} {i:Nat} {o:Oper} {r:jX} {a:Act} {w:World} (ho:ops[i]?=some o) (hw:Region.wanted o (yielded ops a.tmps)=true)
 (h:∀ K:Act -> World -> Prop,(∀ a' w',wpT P ops C Q r a' w' -> K a' w') -> opC P o a w (fun v w'=>C w w' /\ K (a.put o.dst v) w')):wpT P ops C Q (.move i r) a w:=by
 simp only[wpT,ho,hw,if_true];exact h _ (fun _ _ h=>h)
end
attribute [irreducible] wpT
end Go.Proofs.YtobjdpngnfbicaaGreatDoor
namespace Go.Proofs.YtobjdpngnfbicaaGreatDoor
open Go.RowKit
set_option linter.unusedVariables false
set_option maxRecDepth 20000
section
open Go.Lib
/-! zeros among the bytes -/
theorem lw:∀ r:List UInt8,((0:UInt8) ∈ r -> ∃ i:Nat,i < r.length /\ Lib.indexByte r 0=(i:Int) /\ ib r=r.take i /\ ic r=r.drop (i+1)) /\ ((0:UInt8) ∉ r -> Lib.indexByte r 0 = -1)
 | []=>⟨(fun h=>by cases h),fun _=>rfl⟩
 | c :: r=>by
   obtain⟨i1,i2⟩:=lw r
   by_cases hc:c=0
   ·subst hc;refine⟨fun _=>⟨0,by simp,by simp[Lib.indexByte],by simp[ib],by simp[ic]⟩,fun h=>absurd List.mem_cons_self h⟩
   ·have hb:(c == 0)=false:=by simpa using hc
    have hne:(c != 0)=true:=by simpa using hc
    refine⟨fun h=>?_,fun h=>?_⟩
    ·have hr:(0:UInt8) ∈ r:=by
      rcases List.mem_cons.1 h with h | h
      ·exact absurd h.symm hc
      ·exact h
     obtain⟨i,hi,h1,h2,h3⟩:=i1 hr;refine⟨i+1,by simp;omega,?_,?_,?_⟩
     ·simp[Lib.indexByte,hb,h1]
     ·unfold ib at *;rw[List.takeWhile_cons];simp[hne,h2]
     ·unfold ic at *;rw[List.dropWhile_cons];simp[hne,h3]
    ·have hr:(0:UInt8) ∉ r:=fun hm=>h (List.mem_cons_of_mem _ hm)
     simp[Lib.indexByte,hb,i2 hr]
theorem l9 (n b0 b1 b2 b3:Nat) (h0:b0 < 256):((Lib.decodeN n b0 b1 b2 b3).1=0↔b0=0) /\ 1 <= (Lib.decodeN n b0 b1 b2 b3).2 /\ (Lib.decodeN n b0 b1 b2 b3).2 <= 4 /\ (2 <= (Lib.decodeN n b0 b1 b2 b3).2 -> 1 < n /\ b1≠0) /\ (3 <= (Lib.decodeN n b0 b1 b2 b3).2 -> 2 < n /\ b2≠0) /\ (4 <= (Lib.decodeN n b0 b1 b2 b3).2 -> 3 < n /\ b3≠0):=by
 unfold Lib.decodeN
 repeat' split
 all_goals (refine⟨⟨fun h=>?_,fun h=>?_⟩,?_,?_,fun h=>?_,fun h=>?_,fun h=>?_⟩ <;> dsimp only at * <;> omega)
theorem nh (s:ByteArray):∀ (f pos:Nat),s.size <= pos+f -> (0 <= Lib.idxFuncFrom (fun r=>decide (r=0)) true s f pos↔∃ j,pos <= j /\ s.data.toList[j]?=some 0)
 | 0,pos,h=>by
   simp only[Lib.idxFuncFrom];constructor
   ·intro h;omega
   ·rintro⟨j,hj,hs⟩;have:=(List.getElem?_eq_some_iff.1 hs).1;have hz:s.data.toList.length=s.size:=Lib.size_eq s ▸ rfl
    omega
 | f+1,pos,h=>by
   have hz:s.data.toList.length=s.size:=Lib.size_eq s ▸ rfl
   unfold Lib.idxFuncFrom
   by_cases hp:pos < s.size
   ·rw[if_pos hp,Lib.decode_N];have hg:∀ i,s.data.toList.getD i 0=(s.data.toList[i]?).getD 0:=fun i=>by rw[List.getD_eq_getElem?_getD]
    obtain⟨e1,e2,e3,e4,e5,e6⟩:=l9 (s.data.toList.length - pos) (s.data.toList.getD pos 0).toNat (s.data.toList.getD (pos+1) 0).toNat (s.data.toList.getD (pos+2) 0).toNat (s.data.toList.getD (pos+3) 0).toNat (UInt8.toNat_lt _);generalize hD:Lib.decodeN _ _ _ _ _=D at *;have hpl:pos < s.data.toList.length:=by omega
    have h0:s.data.toList.getD pos 0=s.data.toList[pos]:=by rw[hg,List.getElem?_eq_getElem hpl];rfl
    by_cases hr:D.1=0
    ·have hb:=e1.1 hr;rw[if_pos (by simp[hr])];refine⟨fun _=>⟨pos,aq _,?_⟩,fun _=>by omega⟩;rw[List.getElem?_eq_getElem hpl,<- h0];exact congrArg some (UInt8.toNat_inj.1 (by simpa using hb))
    ·rw[if_neg (by simp[hr]),nh s f (pos+D.2) (by omega)];constructor
     ·rintro⟨j,hj,hs⟩;exact⟨j,by omega,hs⟩
     ·rintro⟨j,hj,hs⟩;refine⟨j,?_,hs⟩;refine Classical.byContradiction fun hlt=>?_
      have hjD:s.data.toList.getD j 0=0:=by rw[hg,hs];rfl
      have hc:j=pos \/ j=pos+1 \/ j=pos+2 \/ j=pos+3:=by omega
      rcases hc with rfl | rfl | rfl | rfl
      ·exact hr (e1.2 (by rw[hjD];rfl))
      ·exact(e4 (by omega)).2 (by rw[hjD];rfl)
      ·exact(e5 (by omega)).2 (by rw[hjD];rfl)
      ·exact(e6 (by omega)).2 (by rw[hjD];rfl)
   ·rw[if_neg hp];constructor
    ·intro h;omega
    ·rintro⟨j,hj,hs⟩;have:=(List.getElem?_eq_some_iff.1 hs).1;omega
theorem ma (l:List UInt8):decide (0 <= Lib.idxFunc (fun r=>decide (r=0)) true ⟨l.toArray⟩)=decide ((0:UInt8) ∈ l):=by
 refine decide_eq_decide.2 ?_;unfold Lib.idxFunc;rw[nh _ _ _ (by omega)];show (∃ j,0 <= j /\ l[j]?=some 0)↔_;rw[List.mem_iff_getElem?];exact⟨fun ⟨j,_,h⟩=>⟨j,h⟩,fun ⟨j,h⟩=>⟨j,Nat.zero_le _,h⟩⟩
def cL (w:World):Prop:=Lib.Utf8Tabs (Tryz.laysValid_ren.g 3) (Tryz.laysValid_ren.g 4) w
theorem cL.keep {w w':World} (h:cL w) (hk:∀ a:Addr,a.block < 4 -> w'.cell? a=w.cell? a):cL w':=
 ⟨fun c hc=>(hk _ (show Tryz.laysValid_ren.g 3 < 4 from by decide)).trans (h.1 c hc),fun i hi=>⟨(hk _ (show Tryz.laysValid_ren.g 4 < 4 from by decide)).trans (h.2 i hi).1,(hk _ (show Tryz.laysValid_ren.g 4 < 4 from by decide)).trans (h.2 i hi).2⟩⟩
theorem mb (w:World) (hT:cL w) (l:List UInt8) (hl:l.length <= 9223372036854775807):
 Calls aC 249 #[.string ⟨l.toArray⟩] w fun e w'=>e=.returned (.bool (Lib.validD l)) /\ Below w.heap.size w w':=by
 have cV:=Any.utf8_ValidString Tryz.laysValid ⟨l.toArray⟩ w (by show l.toArray.size <= _;simpa using hl) hT;have CV:=ae (show Calls aC 259 #[.string ⟨l.toArray⟩] w (fun e w'=>e=.returned (.bool (Lib.validD l)) /\ Below w.heap.size w w') from cV);clear cV
 go_enter Tryz.func249,Tryz.ntmps249
 go_wp2_with fail;refine CV.out.mono ?_;rintro e w' ⟨rfl,hb⟩;go_wp2_with fail
 go_ret
 exact⟨rfl,hb⟩
theorem ly (l:List UInt8) (a b:Nat):(⟨l.toArray⟩:ByteArray).extract a b=⟨((l.drop a).take (b - a)).toArray⟩:=by
 have h:∀ s:ByteArray,∀ x:List UInt8,s.data.toList=x -> s=⟨x.toArray⟩:=fun s x h=>by
  subst h;obtain⟨⟨y⟩⟩:=s;rfl
 refine h _ _ ?_;rw[ByteArray.data_extract];simp
theorem rq (l:List UInt8) (b:Nat):(⟨l.toArray⟩:ByteArray).extract 0 b=⟨(l.take b).toArray⟩:=by rw[ly];simp
theorem jZ (l:List UInt8) (a:Nat):(⟨l.toArray⟩:ByteArray).extract a l.length=⟨(l.drop a).toArray⟩:=by
 rw[ly,List.take_of_length_le (by simp)]
def pR (w:World) (l:List UInt8) (e:Ending) (w':World):Prop:=∃ n,e=.returned (.tuple #[.string ⟨(ib l).toArray⟩,.string ⟨(ic l).toArray⟩,.bool (decide ((0:UInt8) ∈ l))]) /\ w.drewN n=w'
set_option maxHeartbeats 1000000 in
theorem rs (w:World) (l:List UInt8) (hl:l.length <= 9223372036854775807):
 Calls aC 240 #[.string ⟨l.toArray⟩,.string ⟨#[0]⟩] w (pR w l):=by
 have cI:=Tryz.stringslite_Index_one ⟨l.toArray⟩ 0 w;obtain⟨i1,i2⟩:=lw l;have CI:=ae (show Calls aC 248 #[.string ⟨l.toArray⟩,.string ⟨#[0]⟩] w (fun e w'=>e=.returned (.int .i64 (Lib.indexByte l 0)) /\ w'=w) from cI);clear cI
 by_cases h0:(0:UInt8) ∈ l
 ·obtain⟨i,hi,h1,h2,h3⟩:=i1 h0;rw[h1] at CI;have HA:=ae h2;have HB:=ae h3;have H0:=ae h0;clear h2 h3 h1 i1 i2 h0
  go_enter Tryz.func240,Tryz.ntmps240
  go_wp2_with fail;refine CI.out.mono ?_;rintro e w' ⟨rfl,rfl⟩;go_wp2_with fail;have hiI:(i:Int) < l.length:=by omega
  have hs1:IntKind.i64.wrap ((i:Int)+1)=(i:Int)+1:=af _ (by omega);have hs2:((i:Int)+1).toNat=i+1:=by omega
  go_quiet (fail)
  clear hs1 hs2;go_wp2_with fail
  go_ret3
  exact⟨_,by rw[HA.out,HB.out,decide_eq_true H0.out,<- rq,<- jZ];rfl,rfl⟩
 ·have h1:=i2 h0;rw[h1] at CI;obtain⟨hA,hB⟩:=mR l h0;have HA:=ae hA;have HB:=ae hB;have H0:=ae h0;clear h1 i1 i2 h0 hA hB
  go_enter Tryz.func240,Tryz.ntmps240
  go_wp2_with fail;refine CI.out.mono ?_;rintro e w' ⟨rfl,rfl⟩;go_wp2_with fail
  go_ret3
  exact⟨0,by rw[HA.out,HB.out,decide_eq_false H0.out];rfl,rfl⟩
theorem sI (w:World) (l:List UInt8) (hl:l.length <= 9223372036854775807):
 Calls aC 224 #[.string ⟨l.toArray⟩,.string ⟨#[0]⟩] w (pR w l):=by
 have C:=ae (rs w l hl)
 go_enter Tryz.func224,Tryz.ntmps224
 go_wp2_with fail;refine C.out.mono ?_;rintro e w' ⟨n,rfl,hw⟩;have Hw:=ae hw;clear hw;go_wp2_with fail
 go_ret3
 exact⟨n,rfl,Hw.out⟩
theorem nm (w:World):PredAt aC 251 #[] encR (fun r=>decide (r=0)) w:=fun W r _=>by
 have hr:=ae (show ((r:Int) == 0)=decide (r=0) by by_cases h:r=0 <;> simp[h]);unfold FnGives
 go_enter Tryz.func251,Tryz.ntmps251
 go_wp2_with fail
 go_ret
 exact⟨ix hr.out,0,rfl⟩
theorem k7 (args:Array Value) (w:World):(callFunc 251 args).run aC w=.ok (.enter 251 args) w:=rfl
theorem k8 (w:World) (l:List UInt8):
 Calls aC 250 #[.string ⟨l.toArray⟩,.func (.func 251) #[] #[]] w fun e w'=>e=.returned (.bool (decide ((0:UInt8) ∈ l))) /\ Below w.heap.size w w':=by
 have h:=Tryz.strings_ContainsFunc 251 #[] k7 _ ⟨l.toArray⟩ w (nm w);rw[ma] at h;exact h
set_option maxHeartbeats 1000000 in
theorem gC (w:World) (hT:cL w) (l:List UInt8) (hl:l.length <= 9223372036854775807):
 Calls aC 241 #[.string ⟨l.toArray⟩] w fun e w'=>e=.returned (.bool (fi l)) /\ Below w.heap.size w w':=by
 have V:=ae (mb w hT l hl)
 obtain⟨ok,hok⟩:∃ ok,fi l=ok:=⟨_,rfl⟩
 rw[hok]
 by_cases h0:l = []
 ·subst h0;obtain rfl:ok=false:=by rw[<- hok];exact mS
  clear V hok
  go_enter Tryz.func241,Tryz.ntmps241
  go_wp2_with fail
  go_ret
  exact⟨rfl,Below.refl _ _⟩
 ·have g0:(!l.isEmpty)=true:=by simpa using h0
  cases hv:Lib.validD l with
  | false=>
    obtain rfl:ok=false:=by rw[<- hok];simp[fi,hv]
    rw[hv] at V;clear hv hok
    go_enter Tryz.func241,Tryz.ntmps241
    go_wp2_with fail;refine V.out.mono ?_;rintro e w1 ⟨rfl,hb⟩;clear V;go_wp2_with fail
    go_ret
    exact⟨rfl,hb⟩
  | true=>
    rw[hv] at V;have hok':ok = !decide ((0:UInt8) ∈ l):=by rw[<- hok];simp[fi,hv,h0]
    obtain⟨z,hz⟩:∃ z,decide ((0:UInt8) ∈ l)=z:=⟨_,rfl⟩
    rw[hz] at hok';subst hok';have Hz:=ae hz;clear hv hok hz
    go_enter Tryz.func241,Tryz.ntmps241
    go_wp2_with fail;refine V.out.mono ?_;rintro e w1 ⟨rfl,hb⟩;have C:=ae (k8 w1 l);rw[Hz.out] at C;clear V;go_wp2_with fail;refine C.out.mono ?_;rintro e w2 ⟨rfl,hb2⟩;clear C;go_wp2_with fail
    go_ret
    exact⟨rfl,cA hb hb2⟩
def rt (ok:Bool) (w:World) (e:Ending) (w':World):Prop:=∃ s:ByteArray,e=.returned (.tuple #[.string s,.bool ok]) /\ Below w.heap.size w w'
theorem bi {w w':World} (h:cL w) (h3:4 <= w.heap.size) (hb:Below w.heap.size w w'):cL w':=h.keep fun a ha=>hb.cell (p:=a) (by omega)
set_option maxRecDepth 100000 in
set_option maxHeartbeats 1000000 in
theorem ru (w:World) (hT:cL w) (h3:4 <= w.heap.size) (kind:Int) (hk:-1000 <= kind /\ kind <= 1000) (a b:List UInt8) (hab:a.length+b.length <= 9223372036854775807):
 Calls aC 225 #[.int .i64 kind,.string ⟨a.toArray⟩,.string ⟨b.toArray⟩] w (rt (fj kind a b) w):=by
 have PA:=ae (gC w hT a (by omega))
 obtain⟨ok,hok⟩:∃ ok,fj kind a b=ok:=⟨_,rfl⟩
 rw[hok]
 by_cases hkk:kind=1 \/ kind=2
 ·obtain⟨pa,hpa⟩:∃ pa,fi a=pa:=⟨_,rfl⟩
  rw[hpa] at PA;cases pa with
  | false=>
    obtain rfl:ok=false:=by rw[<- hok];simp[fj,hpa]
    clear hok hpa;rcases hkk with rfl | rfl
    all_goals
     go_enter Tryz.func225,Tryz.ntmps225
     go_wp2_with fail;refine PA.out.mono ?_;rintro e w1 ⟨rfl,hb1⟩;go_wp2_with fail;go_ret2;exact⟨_,rfl,hb1⟩
  | true=>
    obtain⟨pb,hpb⟩:∃ pb,fi b=pb:=⟨_,rfl⟩
    have hl:ok=(pb && decide (a.length+b.length <= 398)):=by rw[<- hok];simp[fj,hpa,hpb,hkk]
    clear hok hpa;have Hpb:=ae hpb;clear hpb;have HkI:48+kind=49 \/ 48+kind=50:=by omega
    cases pb with
    | false=>
      obtain rfl:ok=false:=by simpa using hl
      clear hl;rcases hkk with rfl | rfl
      all_goals
       go_enter Tryz.func225,Tryz.ntmps225
       go_wp2_with fail;refine PA.out.mono ?_;rintro e w1 ⟨rfl,hb1⟩;have PB:=ae (gC w1 (bi hT h3 hb1) b (by omega));rw[Hpb.out] at PB;clear PA;go_wp2_with fail;refine PB.out.mono ?_;rintro e w2 ⟨rfl,hb2⟩;clear PB;go_wp2_with fail;go_ret2;exact⟨_,rfl,cA hb1 hb2⟩
    | true=>
      by_cases hlen:a.length+b.length <= 398
      ·obtain rfl:ok=true:=by simpa[hlen] using hl
       have hE1:Utf8.encode 49=⟨#[49]⟩:=by rfl
       have hE2:Utf8.encode 50=⟨#[50]⟩:=by rfl
       have hl1:1+a.length <= 1000:=by omega
       have hl2:1+a.length+1+b.length <= 1000:=by omega
       have hlD:decide ((a.length:Int)+(b.length:Int) > 398)=false:=by simp;omega
       clear hl;rcases hkk with rfl | rfl
       all_goals
        go_enter Tryz.func225,Tryz.ntmps225
        go_wp2_with fail;refine PA.out.mono ?_;rintro e w1 ⟨rfl,hb1⟩;have PB:=ae (gC w1 (bi hT h3 hb1) b (by omega));rw[Hpb.out] at PB;clear PA;go_wp2_with fail;refine PB.out.mono ?_;rintro e w2 ⟨rfl,hb2⟩;clear PB;go_wp2_with fail;go_ret2;exact⟨_,rfl,cA hb1 hb2⟩
      ·obtain rfl:ok=false:=by simpa[hlen] using hl
       have hlD:decide ((a.length:Int)+(b.length:Int) > 398)=true:=by simp;omega
       have hlI:¬ ((a.length:Int)+(b.length:Int) <= 398):=by omega
       clear hl;rcases hkk with rfl | rfl
       all_goals
        go_enter Tryz.func225,Tryz.ntmps225
        go_wp2_with fail;refine PA.out.mono ?_;rintro e w1 ⟨rfl,hb1⟩;have PB:=ae (gC w1 (bi hT h3 hb1) b (by omega));rw[Hpb.out] at PB;clear PA;go_wp2_with fail;refine PB.out.mono ?_;rintro e w2 ⟨rfl,hb2⟩;clear PB;go_wp2_with fail;go_ret2;exact⟨_,rfl,cA hb1 hb2⟩
 ·obtain rfl:ok=false:=by rw[<- hok];simp[fj,hkk]
  have k1:(kind != 1)=true:=by simp;omega
  have k2:(kind != 2)=true:=by simp;omega
  clear hok PA
  go_enter Tryz.func225,Tryz.ntmps225
  go_wp2_with fail;go_ret2;exact⟨_,rfl,Below.refl _ _⟩
def qu (ok:Bool) (w:World) (e:Ending) (w':World):Prop:=∃ (k:Int) (a b:ByteArray),e=.returned (.tuple #[.int .i64 k,.string a,.string b,.bool ok]) /\ Below w.heap.size w w'
theorem sJ (r:List UInt8):(ib r).length+(ic r).length <= r.length:=by
 have h:r.length=(r.takeWhile (· != 0)).length+(r.dropWhile (· != 0)).length:=by
  rw[<- ax,List.takeWhile_append_dropWhile]
 unfold ib ic;rw[List.length_drop];omega
set_option maxRecDepth 100000 in
set_option maxHeartbeats 1000000 in
theorem qv (w:World) (hT:cL w) (h3:4 <= w.heap.size) (l:List UInt8) (hl:l.length <= 9223372036854775807):
 Calls aC 207 #[.string ⟨l.toArray⟩] w (qu (ec l) w):=by
 cases l with
 | nil=>
   go_enter Tryz.func207,Tryz.ntmps207
   go_wp2_with fail;refine bodyPost_ret (v:=.tuple #[.int .i64 0,.string ⟨#[]⟩,.string ⟨#[]⟩,.bool false]) (by simp[results,Tryz.results207,go_sem]) rfl ⟨_,_,_,rfl,Below.refl _ _⟩
 | cons c r=>
   obtain⟨ok,hok⟩:∃ ok,ec (c :: r)=ok:=⟨_,rfl⟩
   rw[hok];have hrl:r.length <= 9223372036854775806:=by simp at hl;omega
   have C:=ae (sI w r (by omega));have hc:=UInt8.toNat_lt c;have hok':fj ((c.toNat:Int) - 48) (ib r) (ic r)=ok:=hok;have Hok:=ae hok';have q1:=sJ r
   obtain⟨ca,hca⟩:∃ ca,ib r=ca:=⟨_,rfl⟩
   obtain⟨cb,hcb⟩:∃ cb,ic r=cb:=⟨_,rfl⟩
   rw[hca,hcb] at q1;have Hca:=ae hca;have Hcb:=ae hcb;clear hok hok' hca hcb
   go_enter Tryz.func207,Tryz.ntmps207
   go_wp2_with fail;have e1:(⟨(c :: r).toArray⟩:ByteArray).extract 1 (r.length+1)=⟨r.toArray⟩:=jZ (c :: r) 1;have e2:∀ h:0 < (⟨(c :: r).toArray⟩:ByteArray).size,(⟨(c :: r).toArray⟩:ByteArray)[0]'h=c:=fun _=>rfl
   have e3:wrap64 (c.toNat:Int)=c.toNat:=IntWalk.wrap64_in _ (by omega);have e4:wrap64 ((c.toNat:Int) - 48)=(c.toNat:Int) - 48:=IntWalk.wrap64_in _ (by omega);simp only[e1,e2,e3,e4];clear e1 e2 e3 e4;refine C.out.mono ?_;rintro e w1 ⟨n,rfl,rfl⟩;rw[Hca.out,Hcb.out];have M:=ae (ru (w.drewN n) (hT.keep fun a _=>rfl) h3 ((c.toNat:Int) - 48) (by omega) ca cb (by omega));rw[<- Hca.out,<- Hcb.out,Hok.out,Hca.out,Hcb.out] at M
   obtain⟨z,hz⟩:∃ z,decide ((0:UInt8) ∈ r)=z:=⟨_,rfl⟩
   rw[hz];clear C hz;go_wp2_with fail;refine M.out.mono ?_;rintro e w2 ⟨s,rfl,hb⟩;have hb2:Below w.heap.size w w2:=(bV (Below.refl _ _) n).trans hb;have Hb2:=ae hb2;clear M hb hb2;cases ok with
   | false=>
     go_wp2_with fail;exact bodyPost_ret (v:=.tuple #[.int .i64 0,.string ⟨#[]⟩,.string ⟨#[]⟩,.bool false]) (by simp[results,Tryz.results207,go_sem]) rfl ⟨_,_,_,rfl,Hb2.out⟩
   | true=>
     go_wp2_with fail;exact bodyPost_ret (v:=.tuple #[.int .i64 ((c.toNat:Int) - 48),.string ⟨ca.toArray⟩,.string ⟨cb.toArray⟩,.bool true]) (by simp[results,Tryz.results207,go_sem]) rfl ⟨_,_,_,rfl,Hb2.out⟩
theorem lz (w:World) (hT:cL w) (h3:4 <= w.heap.size) (l:List UInt8) (hl:l.length <= 9223372036854775807):
 Calls aC 166 #[.string ⟨l.toArray⟩] w fun e w'=>e=.returned (.bool (ec l)) /\ Below w.heap.size w w':=by
 have P:=ae (qv w hT h3 l hl)
 obtain⟨ok,hok⟩:∃ ok,ec l=ok:=⟨_,rfl⟩
 rw[hok] at P ⊢;clear hok
 go_enter Tryz.func166,Tryz.ntmps166
 go_wp2_with fail;refine P.out.mono ?_;rintro e w1 ⟨k,a,b,rfl,hb⟩;clear P;go_wp2_with fail
 go_ret
 exact⟨rfl,hb⟩
end
end Go.Proofs.YtobjdpngnfbicaaGreatDoor
