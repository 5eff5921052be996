/-
  UEach UKinds
-/
import Derived.Test.YtobjdpngnfbicaaGreatDoorZN37
import Derived.Test.YtobjdpngnfbicaaGreatDoorChecked
import Derived.Test.YtobjdpngnfbicaaGreatDoorZN03
import Derived.MapKept
namespace Go.Proofs.YtobjdpngnfbicaaGreatDoor
open Go.RowKit Go.Lib
set_option linter.unusedVariables false
set_option maxRecDepth 20000
attribute [local go_sem] opC upC
theorem KeysPost.bool {w:World} {jk:JK} {u:Nat} {M:MD} {U:MU} {o:Option RMap} {e:Ending} {w':World} (h:KeysPost w jk u M U o e w'):e=.returned (.bool o.isSome):=by
 cases o with
 | none=>exact h.1
 | some x=>exact h.1
theorem uuse_any (w:World) (hT:Tabs w) (h3:4≤w.heap.size) (jk:JK) (u:Nat) (M:MD) (U:MU) (h:UAt w jk u M U) (hd:U.dev < 8) (hv:validR U.m=true) (F:Blks) (av:Option Addr) (cap:Nat) (b:List UInt8) (hB:Bytes F w (.slice av b.length cap) b) (hF:∀ q,F q→q < w.heap.size) (hl:b.length≤400000):
 Calls Tryz.prog 51 #[.pointer (some ⟨u,0,none⟩),.slice av b.length cap] w (KeysPost w jk u M U (nextU U.dev U.m (1 :: b))):=by
 have heq:nextU U.dev U.m (1 :: b)=(match rdL b with | some (l,[])=>okR (useR U.m U.dev l) | _=>none):=by
  unfold nextU
  dsimp only
  rw [if_neg (by decide),if_pos rfl]
  rfl
 have HC:=Lib.hid (show Calls Tryz.prog 101 #[.pointer (some ⟨u,0,none⟩),.slice av b.length cap,.func (.func 57) #[] #[]] w (KeysPost w jk u M U (nextU U.dev U.m (1 :: b))) from by rw [heq];exact keysUse_any w hT h3 jk u M U h hd hv F av cap b hB hF hl)
 obtain ⟨o,ho⟩:∃ o,nextU U.dev U.m (1 :: b)=o:=⟨_,rfl⟩
 rw [ho] at HC ⊢
 clear heq ho hB hF hl h hd hv hT
 go_enter Tryz.func51,Tryz.ntmps51
 go_wp2_with fail
 refine HC.out.mono ?_
 rintro e w1 hp
 obtain ⟨r,rfl⟩:∃ r,e=.returned (.bool r):=⟨_,hp.bool⟩
 have Hp:=Lib.hid hp
 clear HC hp
 go_wp2_with fail
 exact bodyPost_ret (v:=.bool r) (by simp [results,Tryz.results51,go_sem]) rfl Hp.out
theorem uforget_any (w:World) (hT:Tabs w) (h3:4≤w.heap.size) (jk:JK) (u:Nat) (M:MD) (U:MU) (h:UAt w jk u M U) (hd:U.dev < 8) (hv:validR U.m=true) (F:Blks) (av:Option Addr) (cap:Nat) (b:List UInt8) (hB:Bytes F w (.slice av b.length cap) b) (hF:∀ q,F q→q < w.heap.size) (hl:b.length≤400000):
 Calls Tryz.prog 52 #[.pointer (some ⟨u,0,none⟩),.slice av b.length cap] w (KeysPost w jk u M U (nextU U.dev U.m (2 :: b))):=by
 have heq:nextU U.dev U.m (2 :: b)=(match rdL b with | some (l,[])=>okR (forgetR U.m U.dev l) | _=>none):=by
  unfold nextU
  dsimp only
  rw [if_neg (by decide),if_neg (by decide),if_pos rfl]
  rfl
 have HC:=Lib.hid (show Calls Tryz.prog 101 #[.pointer (some ⟨u,0,none⟩),.slice av b.length cap,.func (.func 58) #[] #[]] w (KeysPost w jk u M U (nextU U.dev U.m (2 :: b))) from by rw [heq];exact keysForget_any w hT h3 jk u M U h hd hv F av cap b hB hF hl)
 obtain ⟨o,ho⟩:∃ o,nextU U.dev U.m (2 :: b)=o:=⟨_,rfl⟩
 rw [ho] at HC ⊢
 clear heq ho hB hF hl h hd hv hT
 go_enter Tryz.func52,Tryz.ntmps52
 go_wp2_with fail
 refine HC.out.mono ?_
 rintro e w1 hp
 obtain ⟨r,rfl⟩:∃ r,e=.returned (.bool r):=⟨_,hp.bool⟩
 have Hp:=Lib.hid hp
 clear HC hp
 go_wp2_with fail
 exact bodyPost_ret (v:=.bool r) (by simp [results,Tryz.results52,go_sem]) rfl Hp.out
theorem decR_valid {b:List UInt8} (h:(decR b).2=0):validR (decR b).1=true:=by
 unfold decR at h ⊢
 split at h
 · rename_i h1
   rw [if_pos h1]
   exact h1.2
 · exact absurd h (show ¬ (5:Int)=0 by decide)
set_option maxRecDepth 100000 in
set_option maxHeartbeats 4000000 in
theorem umerge_any (w:World) (hT:Tabs w) (h3:4≤w.heap.size) (jk:JK) (u:Nat) (M:MD) (U:MU) (h:UAt w jk u M U) (hv:validR U.m=true) (F:Blks) (av:Option Addr) (cap:Nat) (b:List UInt8) (hB:Bytes F w (.slice av b.length cap) b) (hF:∀ q,F q→q < w.heap.size) (hl:b.length≤400000):
 Calls Tryz.prog 53 #[.pointer (some ⟨u,0,none⟩),.slice av b.length cap] w (KeysPost w jk u M U (nextU U.dev U.m (3 :: b))):=by
 have hDc:=pdecode_ty w hT h3 F av cap b hB hF hl
 unfold DPostT at hDc
 have hdv:=decR_valid (b:=b)
 obtain ⟨R,hR⟩:∃ R,decR b=R:=⟨_,rfl⟩
 rw [hR] at hDc hdv
 obtain ⟨x2,ed⟩:=R
 dsimp only at hDc hdv
 have hnext:nextU U.dev U.m (3 :: b)=if ed=0 then okR (mergeR U.m x2) else none:=by
  unfold nextU
  dsimp only
  rw [if_pos rfl,hR]
 rw [hnext]
 obtain ⟨O,hO⟩:∃ O,(if ed=0 then okR (mergeR U.m x2) else none)=O:=⟨_,rfl⟩
 rw [hO]
 have HO:=Lib.hid hO
 have HDc:=Lib.hid hDc;have HU:=Lib.hid h;have Hv:=Lib.hid hv;have HT:=Lib.hid hT;have Hdv:=Lib.hid hdv
 clear hDc h hv hT hdv hB hF hR hnext hO
 go_enter Tryz.func53,Tryz.ntmps53
 go_wp2_with fail
 refine HDc.out.mono ?_
 rintro e w1 ⟨v,rfl,hv,hb1⟩
 clear HDc
 obtain ⟨s1,s2,s3,rfl,hx⟩:=hv
 obtain ⟨g1,y1,rfl,-⟩:=hx.seen.shape
 obtain ⟨g2,y2,rfl,-⟩:=hx.items.shape
 obtain ⟨g3,y3,rfl,-⟩:=hx.gone.shape
 obtain ⟨w2,hw2⟩:∃ w2,w2=w1.alloc (.cells #[.slice g1 x2.seen.length y1,.slice g2 x2.items.length y2,.slice g3 x2.gone.length y3] 37):=⟨_,rfl⟩
 have hb2:Below w1.heap.size w1 w2:=by rw [hw2];exact kept_alloc _ _
 have hO2:Blk w2 w1.heap.size [.slice g1 x2.seen.length y1,.slice g2 x2.items.length y2,.slice g3 x2.gone.length y3] 37:=by rw [hw2];exact Blk.new _ _ _
 have hx2:=((hx.mono (G:=fun q=>q < w1.heap.size) fun q _ hlt=>hlt).keep (w':=w2) fun q _ hlt=>hb2.block q hlt).mono (G:=fun q=>q < w2.heap.size) fun q _ hlt=>hlt
 have hB2:Below w.heap.size w w2:=hb1.trans (hb2.mono hb1.size)
 have HX2:=Lib.hid hx2;have HO2:=Lib.hid hO2;have Hw2:=Lib.hid hw2;have HB2:=Lib.hid hB2
 clear hx hb2 hO2 hx2 hB2 hw2 hb1
 by_cases h0:ed=0
 · have hxv:=Hdv.out h0
   subst h0
   have HkX:=Lib.hid (valid_keys hxv)
   have hU1:=HU.out.keep HB2.out
   have hk:=valid_keys Hv.out
   obtain ⟨a1,p1,a2,p2,a3,p3,hbx,hm⟩:=hU1.box
   obtain ⟨m,hmm⟩:∃ m,U.m=m:=⟨_,rfl⟩
   obtain ⟨RR,hRR⟩:∃ r,mergeR U.m x2=r:=⟨_,rfl⟩
   have Hgoal:=Lib.hid (show O=okR RR by rw [←hRR,←HO.out];rfl)
   rw [hmm] at hbx hRR hm hk
   obtain ⟨c0,c1,c2,c3,c4⟩:=cell5u hbx
   obtain ⟨d0,d1,d2⟩:=cell3 HO2.out
   have Hm:=Lib.hid hm;have Hk:=Lib.hid hk;have HRR:=Lib.hid hRR;have HU1:=Lib.hid hU1
   clear hm hk hRR hU1 hbx c0 c4 hmm hxv Hdv
   obtain ⟨x,er⟩:=RR
   have pz:∀ q x,w2.cell? q=some x→∀ w',LaterT w2.heap.size 37 w2.drew w'→w'.cell? q=some x:=fun q x hc w' hh=>laterTC hc rfl hh
   have pc1:=pz _ _ c1
   have pc2:=pz _ _ c2
   have pc3:=pz _ _ c3
   have pd0:=pz _ _ d0
   have pd1:=pz _ _ d1
   have pd2:=pz _ _ d2
   clear c1 c2 c3 d0 d1 d2 pz
   go_wp2_with fail
   rw [←Hw2.out]
   refine wp_region_fl (LaterT w2.heap.size 37) (FreshT w2.heap.size 37 3) [9] ordM5 60 (by kernel_rfl) (by kernel_rfl) (laterT_refl _ _) (laterT_trans _ _) (floats_of #[.slice none 0 0,.slice none 0 0,.slice none 0 0] rfl (Nat.le_refl _) (fun j hj=>?_) (fun i j hi hj hne=>?_)) ?_
   · obtain rfl:j=9:=by simpa using hj
     exact ⟨_,rfl,rfl,fun a W=>by go_simp⟩
   · simp at hi hj
     omega
   unfold ordM5
   repeat (refine canF_yes (v:=?_) rfl (wanted_none rfl) (fun w' hC=>?_) (fun K hK=>?_);rotate_left;(focus (go_simp;(try simp (disch:=omega) only [IntWalk.i64_in]);(try simp (disch:=omega) only [IntWalk.u32_in]);(try simp (disch:=omega) only [IntWalk.u8_in]);(try simp (disch:=omega) only [IntWalk.i64_quo]);(try simp (disch:=omega) only [IntWalk.rem_in]);first | done | exact rfl));go_simp;(try simp (disch:=omega) only [IntWalk.i64_in]);(try simp (disch:=omega) only [IntWalk.u32_in]);(try simp (disch:=omega) only [IntWalk.u8_in]);(try simp (disch:=omega) only [IntWalk.i64_quo]);(try simp (disch:=omega) only [IntWalk.rem_in]);refine hK _ ?_;clear hK K)
   refine canF_go rfl rfl (fun Wa hWa KK hK=>?_)
   go_simp
   have hba:Below w2.heap.size w2 Wa:=hWa.belD rfl
   have hwa:Below w.heap.size w Wa:=HB2.out.trans (hba.mono HB2.out.size)
   have hU:=pmerge_any Wa (tabs_below HT.out h3 hwa) (Nat.le_trans h3 hwa.size) _ _ (.agg #[.slice a1 m.seen.length p1,.slice a2 m.items.length p2,.slice a3 m.gone.length p3]) (.agg #[.slice g1 x2.seen.length y1,.slice g2 x2.items.length y2,.slice g3 x2.gone.length y3]) m x2 ⟨_,_,_,rfl,Hm.out.keep (w':=Wa) fun q _ hlt=>hba.block q hlt⟩ ⟨_,_,_,rfl,HX2.out.keep (w':=Wa) fun q _ hlt=>hba.block q hlt⟩ Hk.out.1 Hk.out.2 HkX.out.1 HkX.out.2
   rw [HRR.out] at hU
   have Hsz:=Lib.hid hba.size
   refine hU.mono ?_
   rintro e wq7 ⟨⟨r1,rfl,ho,hbd⟩,hb7⟩
   refine ⟨_,rfl,LaterT.of_later hb7,hK _ _ ?_⟩
   clear hK KK hU pc1 pc2 pc3 pd0 pd1 pd2
   go_simp
   obtain ⟨t1,t2,t3,rfl,ho⟩:=ho
   dsimp only at ho hbd
   obtain ⟨n1,m1,rfl⟩:=own_shape ho.seen
   obtain ⟨n2,m2,rfl⟩:=own_shape ho.items
   obtain ⟨n3,m3,rfl⟩:=own_shape ho.gone
   have hb07:Below w2.heap.size w2 wq7:=hba.trans (hb7.mono hba.size)
   have Hb07:=Lib.hid hb07;have Ho:=Lib.hid ho;have Hbd:=Lib.hid hbd
   clear hb07 ho hbd hb7 hba hWa hwa
   repeat (refine canF_yes (v:=?_) rfl (wanted_none rfl) (fun w' hC=>?_) (fun K hK=>?_);rotate_left;(focus (go_simp;(try simp (disch:=omega) only [IntWalk.i64_in]);(try simp (disch:=omega) only [IntWalk.u32_in]);(try simp (disch:=omega) only [IntWalk.u8_in]);(try simp (disch:=omega) only [IntWalk.i64_quo]);(try simp (disch:=omega) only [IntWalk.rem_in]);first | done | exact rfl));go_simp;(try simp (disch:=omega) only [IntWalk.i64_in]);(try simp (disch:=omega) only [IntWalk.u32_in]);(try simp (disch:=omega) only [IntWalk.u8_in]);(try simp (disch:=omega) only [IntWalk.i64_quo]);(try simp (disch:=omega) only [IntWalk.rem_in]);refine hK _ ?_;clear hK K)
   refine canF_float rfl (fun vO Wd hWd hZ hU KK hK=>?_)
   obtain ⟨Om,LO,rfl,hO1,hO2,hO3⟩:=hZ
   refine hK _ _ ?_
   clear hK KK hU
   go_simp
   obtain ⟨x0,x1,x2,rfl⟩:∃ x0 x1 x2,LO = [x0,x1,x2]:=by
    match LO,hO3 with
    | [x0,x1,x2],_=>exact ⟨x0,x1,x2,rfl⟩
   have hbd':Below w2.heap.size w2 Wd:=Hb07.out.trans (hWd.below Hb07.out.size)
   obtain ⟨w6,hw8,hblk8,hb8⟩:=fin3 hO2 hbd' hO1 (.slice n1 x.seen.length m1) (.slice n2 x.items.length m2) (.slice n3 x.gone.length m3)
   have hl8:LaterT w2.heap.size 37 Wd w6:=by
    rw [hw8]
    exact laterT_trans _ _ _ _ _ (laterT_trans _ _ _ _ _ (LaterT.set hO2 hO1 0 _) (LaterT.set (hO2.set 0 _) hO1 1 _)) (LaterT.set ((hO2.set 0 _).set 1 _) hO1 2 _)
   have ho8:OwnIn w6 w2.heap.size (.slice n1 x.seen.length m1) (.slice n2 x.items.length m2) (.slice n3 x.gone.length m3) x:=
    ⟨own_base (hl8.own (hWd.own Ho.out.seen (by decide)) (by decide)) Hsz.out,own_base (hl8.own (hWd.own Ho.out.items (by decide)) (by decide)) Hsz.out,own_base (hl8.own (hWd.own Ho.out.gone (by decide)) (by decide)) Hsz.out⟩
   have HO1w6:=Lib.hid hO1;have HOw6:=Lib.hid ho8;have HBkw6:=Lib.hid hblk8;have HBdw6:=Lib.hid Hbd.out
   obtain ⟨y0,y1,y2⟩:=cell3 hO2
   have z0:=hO2.free 0
   have z1:=hO2.free 1
   have z2:=hO2.free 2
   have HBw6:=Lib.hid hb8;have Hl8:=Lib.hid hl8;have Hw8:=Lib.hid hw8
   clear hb8 hl8 hw8 hblk8 hbd' hWd hO2 hO3 Ho Hbd Hb07 ho8
   refine canF_fixed rfl rfl (fun KK hK=>?_)
   go_simp
   rw [←Hw8.out]
   refine ⟨Hl8.out,hK _ _ ?_⟩
   clear hK KK y0 y1 y2 z0 z1 z2 Hl8 Hw8 hO1
   go_simp
   repeat (refine canF_yes (v:=?_) rfl (wanted_none rfl) (fun w' hC=>?_) (fun K hK=>?_);rotate_left;(focus (go_simp;(try simp (disch:=omega) only [IntWalk.i64_in]);(try simp (disch:=omega) only [IntWalk.u32_in]);(try simp (disch:=omega) only [IntWalk.u8_in]);(try simp (disch:=omega) only [IntWalk.i64_quo]);(try simp (disch:=omega) only [IntWalk.rem_in]);first | done | exact rfl));go_simp;(try simp (disch:=omega) only [IntWalk.i64_in]);(try simp (disch:=omega) only [IntWalk.u32_in]);(try simp (disch:=omega) only [IntWalk.u8_in]);(try simp (disch:=omega) only [IntWalk.i64_quo]);(try simp (disch:=omega) only [IntWalk.rem_in]);refine hK _ ?_;clear hK K)
   refine canF_nil ?_
   have HU6:=Lib.hid (HU1.out.keep HBw6.out)
   have HX6:=Lib.hid (HOw6.out.nj HBdw6.out)
   have HB6:=Lib.hid (show Below w.heap.size w w6 from HB2.out.trans (HBw6.out.mono HB2.out.size))
   obtain ⟨b1,q1,b2,q2,b3,q3,hbU,-⟩:=HU6.out.box
   obtain ⟨-,z1,z2,z3,-⟩:=cell5u hbU
   have f1:=hbU.free 1
   have f2:=hbU.free 2
   have f3:=hbU.free 3
   obtain ⟨o0,o1,o2⟩:=cell3 HBkw6.out
   obtain ⟨w7,hw7⟩:∃ w7,w7=((w6.setCell ⟨u,1,none⟩ (.slice n1 x.seen.length m1)).setCell ⟨u,2,none⟩ (.slice n2 x.items.length m2)).setCell ⟨u,3,none⟩ (.slice n3 x.gone.length m3):=⟨_,rfl⟩
   have h7:=HU6.out.setM HX6.out hw7
   have Hfin:=Lib.hid (show KeysPost w jk u M U (okR (x,er)) (.returned (.bool (er == 0))) w7 from by
    have hon:Only (fun q=>q=u) w w7:=(Only.of_below (F:=fun q=>q=u) HB6.out).trans h7.2 fun _ hi=>.inl hi
    by_cases h0:er=0
    · rw [show okR (x,er)=some x from if_pos h0,h0]
      exact ⟨rfl,h7.1,hon⟩
    · rw [show okR (x,er)=none from if_neg h0]
      exact ⟨by rw [beq_eq_false_iff_ne.2 h0],hon⟩)
   have Hw7:=Lib.hid hw7
   clear hw7 h7 hbU
   go_wp2_with fail
   rw [Hgoal.out]
   rw [←Hw7.out]
   exact bodyPost_ret (v:=.bool (er == 0)) (by simp [results,Tryz.results53,go_sem]) rfl Hfin.out
 · have h0I:¬ ed=0:=h0
   have Hgoal:=Lib.hid (show O=none by rw [←HO.out];exact if_neg h0)
   clear h0 HO
   go_wp2_with fail
   rw [←Hw2.out,Hgoal.out]
   exact bodyPost_ret (v:=.bool false) (by simp [results,Tryz.results53,go_sem]) rfl ⟨rfl,Only.of_below HB2.out⟩
end Go.Proofs.YtobjdpngnfbicaaGreatDoor

namespace Go.Proofs.YtobjdpngnfbicaaGreatDoor
open Go.RowKit Go.MapKept
set_option linter.unusedVariables false
set_option maxRecDepth 20000
theorem kt_under:Tryz.prog.underlying 103=some (.map 5 40):=by kernel_rfl
theorem ku_under:Tryz.prog.underlying 5=some (.int .u8):=by kernel_rfl
theorem k_key (k:Int):IsKey (.int .u8) (.int .u8 k):=by simp [IsKey]
theorem k_make (w:World):(Instr.makeMap 103 none).run Tryz.prog w=.ok (.map (some w.heap.size)) (w.alloc (.map #[] 0)):=by
 simp [Instr.makeMap,Result.andThen]
theorem k_set {w:World} {r:Nat} {es:Array MapEntry} {clock:Nat} (hb:w.heap[r]?=some (.map es clock)) (k:Int) (f:Value) (h:Instr.findNow (.int .u8) (.int .u8 k) es.toList 0=some none):
 (Instr.mapUpdate 103 (.map (some r)) (.int .u8 k) f).run Tryz.prog w=.ok () { w with heap:=w.heap.setIfInBounds r (.map (es.push ⟨.int .u8 k,f,clock⟩) (clock+1)) }:=by
 simp [Instr.mapUpdate,run_underlying kt_under,MapKept.run_getObj_map hb,run_checkKey ku_under (k_key k),run_findKey ku_under h,run_setObj_map _ hb,Result.andThen]
def kindsO (f1 f2 f3:Value):Obj:=.map #[⟨.int .u8 1,f1,0⟩,⟨.int .u8 2,f2,1⟩,⟨.int .u8 3,f3,2⟩] 3
theorem kinds_run (w:World) (f1 f2 f3:Value):∃ w1 w2 w3,(Instr.mapUpdate 103 (.map (some w.heap.size)) (.int .u8 1) f1).run Tryz.prog (w.alloc (.map #[] 0))=.ok () w1 ∧
 (Instr.mapUpdate 103 (.map (some w.heap.size)) (.int .u8 2) f2).run Tryz.prog w1=.ok () w2 ∧
 (Instr.mapUpdate 103 (.map (some w.heap.size)) (.int .u8 3) f3).run Tryz.prog w2=.ok () w3∧Below w.heap.size w w3∧w3.heap[w.heap.size]?=some (kindsO f1 f2 f3):=by
 have h0:(w.alloc (.map #[] 0)).heap[w.heap.size]?=some (.map #[] 0):=(heap_alloc w _).1
 have e1:=k_set h0 1 f1 rfl
 have h1:=(heap_set (o':=.map ((#[]:Array MapEntry).push ⟨.int .u8 1,f1,0⟩) (0+1)) h0)
 obtain ⟨w1,hw1⟩:∃ w1,w1 = { w.alloc (.map #[] 0) with heap:=(w.alloc (.map #[] 0)).heap.setIfInBounds w.heap.size (.map ((#[]:Array MapEntry).push ⟨.int .u8 1,f1,0⟩) (0+1)) }:=⟨_,rfl⟩
 have h1':w1.heap[w.heap.size]?=some (.map #[⟨.int .u8 1,f1,0⟩] 1):=by rw [hw1];exact h1.1
 rw [←hw1] at e1
 have e2:=k_set h1' 2 f2 rfl
 have h2:=(heap_set (o':=.map ((#[⟨.int .u8 1,f1,0⟩]:Array MapEntry).push ⟨.int .u8 2,f2,1⟩) (1+1)) h1')
 obtain ⟨w2,hw2⟩:∃ w2,w2 = { w1 with heap:=w1.heap.setIfInBounds w.heap.size (.map ((#[⟨.int .u8 1,f1,0⟩]:Array MapEntry).push ⟨.int .u8 2,f2,1⟩) (1+1)) }:=⟨_,rfl⟩
 have h2':w2.heap[w.heap.size]?=some (.map #[⟨.int .u8 1,f1,0⟩,⟨.int .u8 2,f2,1⟩] 2):=by rw [hw2];exact h2.1
 rw [←hw2] at e2
 have e3:=k_set h2' 3 f3 rfl
 have h3:=(heap_set (o':=.map ((#[⟨.int .u8 1,f1,0⟩,⟨.int .u8 2,f2,1⟩]:Array MapEntry).push ⟨.int .u8 3,f3,2⟩) (2+1)) h2')
 refine ⟨w1,w2,_,e1,e2,e3,?_,h3.1⟩
 refine ⟨by rw [hw2,hw1];rfl,by rw [hw2,hw1];rfl,by rw [hw2,hw1];rfl,?_,fun i hi=>?_⟩
 · rw [hw2,hw1];simp
 · show (w2.heap.setIfInBounds w.heap.size _)[i]?=_
   rw [h3.2 i (by omega),hw2]
   show (w1.heap.setIfInBounds w.heap.size _)[i]?=_
   rw [h2.2 i (by omega),hw1]
   show ((w.alloc (.map #[] 0)).heap.setIfInBounds w.heap.size _)[i]?=_
   rw [h1.2 i (by omega)]
   exact (heap_alloc w _).2 i hi
theorem look_of {w:World} {r:Nat} {es:Array MapEntry} {clock:Nat} (hb:w.heap[r]?=some (.map es clock)) (k:Int) (i:Nat) (f:Value) (h:Instr.findNow (.int .u8) (.int .u8 k) es.toList 0=some (some (i,f))):
 (Instr.lookup 103 (.map (some r)) (.int .u8 k) true).run Tryz.prog w=.ok (.tuple #[f,.bool true]) w:=by
 simp [Instr.lookup,run_underlying kt_under,MapKept.run_getObj_map hb,run_checkKey ku_under (k_key k),run_findKey ku_under h,Result.andThen]
theorem look_1 {w:World} {r:Nat} {f1 f2 f3:Value} (hb:w.heap[r]?=some (kindsO f1 f2 f3)):(Instr.lookup 103 (.map (some r)) (.int .u8 1) true).run Tryz.prog w=.ok (.tuple #[f1,.bool true]) w:=look_of hb 1 0 f1 rfl
theorem look_2 {w:World} {r:Nat} {f1 f2 f3:Value} (hb:w.heap[r]?=some (kindsO f1 f2 f3)):(Instr.lookup 103 (.map (some r)) (.int .u8 2) true).run Tryz.prog w=.ok (.tuple #[f2,.bool true]) w:=look_of hb 2 1 f2 rfl
theorem look_3 {w:World} {r:Nat} {f1 f2 f3:Value} (hb:w.heap[r]?=some (kindsO f1 f2 f3)):(Instr.lookup 103 (.map (some r)) (.int .u8 3) true).run Tryz.prog w=.ok (.tuple #[f3,.bool true]) w:=look_of hb 3 2 f3 rfl
theorem k_zero:(Tryz.prog.info? 40).map (·.zero)=some (some (.nilFunc)):=by kernel_rfl
theorem look_0 {w:World} {r:Nat} {f1 f2 f3:Value} (hb:w.heap[r]?=some (kindsO f1 f2 f3)) (k:Int) (h1:k≠1) (h2:k≠2) (h3:k≠3):∃ z,(Instr.lookup 103 (.map (some r)) (.int .u8 k) true).run Tryz.prog w=.ok (.tuple #[z,.bool false]) w:=by
 have h:Instr.findNow (.int .u8) (.int .u8 k) [⟨.int .u8 1,f1,0⟩,⟨.int .u8 2,f2,1⟩,⟨.int .u8 3,f3,2⟩] 0=some none:=by
  have e1:(k == 1)=false:=beq_eq_false_iff_ne.2 h1
  have e2:(k == 2)=false:=beq_eq_false_iff_ne.2 h2
  have e3:(k == 3)=false:=beq_eq_false_iff_ne.2 h3
  simp [Instr.findNow,Instr.sameNow,e1,e2,e3]
 have hz:(zeroValue 40).run Tryz.prog w=.ok .nilFunc w:=by
  cases e:Tryz.prog.info? 40 with
  | none=>have:=k_zero;rw [e] at this;cases this
  | some i=>
    have:=k_zero
    rw [e] at this
    simp at this
    simp [zeroValue,typeInfo,e,this,Result.andThen]
 have hb':w.heap[r]?=some (.map #[⟨.int .u8 1,f1,0⟩,⟨.int .u8 2,f2,1⟩,⟨.int .u8 3,f3,2⟩] 3):=hb
 exact ⟨.nilFunc,by simp [Instr.lookup,run_underlying kt_under,MapKept.run_getObj_map hb',run_checkKey ku_under (k_key k),run_findKey ku_under h,hz,Result.andThen]⟩
end Go.Proofs.YtobjdpngnfbicaaGreatDoor
