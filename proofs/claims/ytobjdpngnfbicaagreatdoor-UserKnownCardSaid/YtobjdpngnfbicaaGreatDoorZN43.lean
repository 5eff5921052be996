/-
  RWorks UEx UWorks
-/
import Derived.Test.YtobjdpngnfbicaaGreatDoorZN16
import Derived.Maps.Own
import Derived.Maps.Views
import Derived.Test.YtobjdpngnfbicaaGreatDoorZN02
import Derived.Test.YtobjdpngnfbicaaGreatDoorZN40
import Derived.Test.YtobjdpngnfbicaaGreatDoorZN42
namespace Go.Proofs.YtobjdpngnfbicaaGreatDoor
open Go.RowKit Go.Maps Go.WideMaps
set_option linter.unusedVariables false
set_option maxRecDepth 20000
attribute [local go_sem] opC upC
abbrev i64L (n:Int):DataW Unit:=.lit (.int .i64 n)
theorem lawS:Keyed Tryz.prog 9:=string_keyed Tryz.underlying9
theorem zeroI (w:World):(zeroValue 3).run Tryz.prog w=.ok (.int .i64 0) w:=by kernel_rfl
def vsum (m:RMap) (l:List RIt) (k:RKey):Int:=((l.filter fun x=>decide (x.key=k)).map (valIt m)).sum
theorem vsum_all (m:RMap) (k:RKey):vsum m m.items k=valueM m k:=rfl
theorem vsum_snoc (m:RMap) (l:List RIt) (x:RIt) (k:RKey):vsum m (l ++ [x]) k=vsum m l k+if x.key=k then valIt m x else 0:=by
 unfold vsum
 rw [List.filter_append,List.map_append,List.sum_append]
 by_cases h:x.key=k <;> simp [h]
structure SumD (m:RMap) (k:Nat) (D:DataW Unit):Prop where
 isMap:IsMap D
 at_:∀ key:RKey,D.atKey (.string key) (i64L 0)=i64L (vsum m (m.items.take k) key)
 has_:∀ key:RKey,Maps.has D (.string key)=(m.items.take k).any fun x=>decide (x.key=key)
theorem SumD.start (m:RMap):SumD m 0 (.map []):=⟨isMap_empty,fun _=>rfl,fun _=>rfl⟩
theorem SumD.step {m:RMap} {k:Nat} {D:DataW Unit} (h:SumD m k D) (hk:k < m.items.length):SumD m (k+1) (D.put (.string m.items[k].key) (i64L (vsum m (m.items.take k) m.items[k].key+valIt m m.items[k]))):=by
 refine ⟨h.isMap.put _ _,fun key=>?_,fun key=>?_⟩
 · rw [List.take_succ_eq_append_getElem hk,vsum_snoc]
   by_cases e:m.items[k].key=key
   · subst e
     rw [atKey_put_same h.isMap (by trivial),if_pos rfl]
   · rw [atKey_put_other (by simpa using fun h=>e h.symm),h.at_,if_neg e,Int.add_zero]
 · rw [List.take_succ_eq_append_getElem hk,List.any_append]
   by_cases e:m.items[k].key=key
   · subst e
     rw [has_put_same h.isMap (by trivial)]
     simp
   · rw [has_put_other (by simpa using fun h=>e h.symm),h.has_]
     simp [e]
theorem valIt_le {m:RMap} (f:Formed m) {x:RIt} (hx:x ∈ m.items):0≤valIt m x∧valIt m x≤16777216:=by
 refine ⟨valIt_nonneg m x,?_⟩
 have hv:=f.val x hx
 unfold valIt decAft
 rw [DM.bnd_id x.val (by omega) (by omega)]
 have:=DM.aft_le (m.seen.getD x.dev.toNat 0 - x.seq).toNat x.val (by omega)
 omega
theorem vsum_le (m:RMap) (k:RKey):∀ l:List RIt,(∀ x ∈ l,0≤valIt m x∧valIt m x≤16777216)→0≤vsum m l k∧vsum m l k≤16777216 * l.length
 | [],_=>by simp [vsum]
 | x :: l,h=>by
   have h1:=h x List.mem_cons_self
   have h2:=vsum_le m k l fun y hy=>h y (List.mem_cons_of_mem _ hy)
   unfold vsum at h2 ⊢
   rw [List.filter_cons]
   split
   · rw [List.map_cons,List.sum_cons,List.length_cons];omega
   · rw [List.length_cons];omega
def SumsPost (w:World) (m:RMap) (e:Ending) (w':World):Prop:=
 (∃ B D,e=.returned (.map (some B))∧w.heap.size≤B∧w'.ownsMap Tryz.prog 9 (plainElem (H:=Unit) Tryz.prog 3) B m.items.length D∧SumD m m.items.length D)∧Below w.heap.size w w'
set_option maxRecDepth 100000 in
set_option maxHeartbeats 3000000 in
theorem sums_any (w:World) (F:Blks) (v:Value) (m:RMap) (h:MapV F w v m) (f:Formed m) (hl:m.items.length≤1000000):
 Calls Tryz.prog 84 #[v] w (SumsPost w m):=by
 replace h:=h.mono (G:=fun b=>b < w.heap.size) fun b _ hlt=>hlt
 obtain ⟨s1,s2,s3,rfl,h⟩:=h
 obtain ⟨a1,p1,rfl,-⟩:=h.seen.shape
 obtain ⟨a2,p2,rfl,-⟩:=h.items.shape
 obtain ⟨a3,p3,rfl,-⟩:=h.gone.shape
 have l1:=h.seen.len
 have l2:=h.items.len
 have l3:=h.gone.len
 unfold maxLen at l1 l2 l3
 obtain ⟨n1,hn1⟩:∃ n,m.seen.length=n:=⟨_,rfl⟩
 obtain ⟨n2,hn2⟩:∃ n,m.items.length=n:=⟨_,rfl⟩
 obtain ⟨n3,hn3⟩:∃ n,m.gone.length=n:=⟨_,rfl⟩
 rw [hn1,hn2,hn3] at h
 rw [hn1] at l1 ⊢
 rw [hn2] at l2 ⊢
 rw [hn3] at l3 ⊢
 obtain ⟨wx,hwx⟩:∃ wx,wx=w.alloc (.cells #[.slice a1 n1 p1,.slice a2 n2 p2,.slice a3 n3 p3] 37):=⟨_,rfl⟩
 have hbx:Below w.heap.size w wx:=by rw [hwx];exact kept_alloc _ _
 have hzx:wx.heap.size=w.heap.size+1:=by rw [hwx];simp
 have hx:=h.keep (w':=wx) fun b _ hlt=>hbx.block b hlt
 have hnx:Blk wx w.heap.size [.slice a1 n1 p1,.slice a2 n2 p2,.slice a3 n3 p3] 37:=by rw [hwx];exact Blk.new _ _ _
 have Hx:=Lib.hid hx;have Hn1:=Lib.hid hn1;have Hn2:=Lib.hid hn2;have Hn3:=Lib.hid hn3
 have Hwx:=Lib.hid hwx;have Hbx:=Lib.hid hbx;have Hzx:=Lib.hid hzx
 have c0:=hnx.cell 0
 have c1:=hnx.cell 1
 have c2:=hnx.cell 2
 simp at c0 c1 c2
 have Hnx:=Lib.hid hnx
 clear hx hn1 hn2 hn3 hwx hbx hnx hzx
 rw [Hn2.out] at hl
 clear h
 obtain ⟨w2,hw2⟩:∃ w2,w2=wx.alloc (.map #[] 0):=⟨_,rfl⟩
 have hmm:=@run_makeMap Tryz.prog
 have hz2:w2.heap.size=w.heap.size+2:=by rw [hw2];simp [Hzx.out]
 have hb2:Below (w.heap.size+1) wx w2:=by rw [hw2];exact (Below.refl _ _).alloc (by rw [Hzx.out];exact Nat.le_refl _) _
 have hown2:w2.ownsMap Tryz.prog 9 (plainElem (H:=Unit) Tryz.prog 3) (w.heap.size+1) 0 (.map []):=by
  have:=World.ownsMap_made (H:=Unit) wx Tryz.prog 9 (plainElem Tryz.prog 3)
  rw [hw2,←Hzx.out];exact this
 have HM:=Lib.hid (show ∀ W,Below (w.heap.size+1) wx W→(W.cell? ⟨w.heap.size,0,none⟩=some (.slice a1 n1 p1)∧W.cell? ⟨w.heap.size,1,none⟩=some (.slice a2 n2 p2)∧W.cell? ⟨w.heap.size,2,none⟩=some (.slice a3 n3 p3))∧MapIn (fun b=>b < w.heap.size) W (.slice a1 n1 p1) (.slice a2 n2 p2) (.slice a3 n3 p3) m from fun W hb=>
  ⟨cell3 (Hnx.out.keep (hb.block _ (by omega))),Hx.out.keep fun b hb' hlt=>hb.block b (by omega)⟩)
 have Hw2:=Lib.hid hw2;have Hb2:=Lib.hid hb2;have Hz2:=Lib.hid hz2;have Hown2:=Lib.hid hown2
 have Hf:=Lib.hid f
 clear hw2 hb2 hz2 hown2 f Hx Hnx
 go_enter Tryz.func84,Tryz.ntmps84
 go_wp2_with fail
 rw [←Hwx.out,←Hw2.out]
 clear hmm
 go_loopw [10] (fun i wr=>∃ (k:Nat) (D:DataW Unit),k≤n2∧i=.int .i64 (k:Int)∧Below (w.heap.size+1) wx wr∧w.heap.size+2≤wr.heap.size∧wr.ownsMap Tryz.prog 9 (plainElem Tryz.prog 3) (w.heap.size+1) k D∧SumD m k D) (fun i _=>n2 - (intOf i).toNat)
 case atStart=>exact ⟨0,_,by omega,rfl,Hb2.out,by rw [Hz2.out];exact Nat.le_refl _,Hown2.out,SumD.start m⟩
 case round=>
  obtain ⟨k,D,hk,rfl,hbw,hsz,hown,hD⟩:=hrel
  have Hbw:=Lib.hid hbw;have Hown:=Lib.hid hown;have HD:=Lib.hid hD;have Hsz:=Lib.hid hsz
  clear hbw hown hD hsz c0 c1 c2
  by_cases hkn:k < n2
  · have hkI:(k:Int) < (n2:Int):=by omega
    have hkl:k < m.items.length:=by rw [Hn2.out];exact hkn
    obtain ⟨⟨d0,d1,d2⟩,hmp⟩:=HM.out wr Hbw.out
    obtain ⟨b,off,rfl,-,-,hc⟩:=it_cell hmp.items (by omega)
    obtain ⟨e0,e1,e2,e3⟩:=hc k hkl
    have hst:=HD.out.step hkl
    obtain ⟨x,hx⟩:∃ x,m.items[k]=x:=⟨_,rfl⟩
    rw [hx] at e0 e1 e2 e3 hst
    have hxm:x ∈ m.items:=by rw [←hx];exact List.getElem_mem hkl
    obtain ⟨k1,k2,k3,k4⟩:=known_seq (Hf.out.iknown x hxm)
    obtain ⟨q,hq⟩:=Int.eq_ofNat_of_zero_le k1
    have hq':x.dev=(q:Int):=hq
    have hqs:q < m.seen.length:=by rw [hq] at k2;omega
    have hq8:q < 8:=by have:=Hf.out.len;omega
    obtain ⟨bs,os,rfl,-,-,hcs⟩:=int_cell hmp.seen (by omega)
    have g0:=hcs q hqs
    obtain ⟨s,hs⟩:∃ s,m.seen[q]=s:=⟨_,rfl⟩
    rw [hs] at g0
    have hget:m.seen.getD x.dev.toNat 0=s:=by
     rw [hq',Int.toNat_natCast,List.getD_eq_getElem?_getD,List.getElem?_eq_getElem hqs,hs];rfl
    have hsle:=Hf.out.seen s (by rw [←hs];exact List.getElem_mem hqs)
    have k4':x.seq≤s:=by rw [←hget];exact k4
    have k3':1≤x.seq:=k3
    have hvx:=valIt_le Hf.out hxm
    have hvd:valIt m x=DM.aft (s - x.seq).toNat (DM.bnd x.val):=by unfold valIt decAft;rw [hget]
    have hvs:=vsum_le m x.key (m.items.take k) (fun y hy=>valIt_le Hf.out (List.mem_of_mem_take hy))
    have htl:(m.items.take k).length=k:=by rw [List.length_take];omega
    rw [htl] at hvs
    have hat:=HD.out.at_ x.key
    obtain ⟨c,hcv⟩:∃ c,vsum m (m.items.take k) x.key=c:=⟨_,rfl⟩
    rw [hcv] at hat hvs hst
    obtain ⟨u,hu⟩:∃ u,valIt m x=u:=⟨_,rfl⟩
    rw [hu] at hvx hvd hst
    obtain ⟨xk,xd,xs,xv⟩:=x
    dsimp only at e0 e1 e2 e3 hq' hst hat hvd k4' k3'
    subst hq'
    have hkl':=(hmp.itemsB _ hxm).1
    dsimp only at hkl'
    have hkey:keyOf Tryz.prog 9 (.string ⟨xk.toArray⟩)=some (.string xk):=keyOf_string_mk Tryz.underlying9 (show xk.toArray.size≤maxLen by unfold maxLen;simpa using hkl')
    obtain ⟨wb,hwb⟩:∃ wb,wb=wr.alloc (.cells #[.string ⟨xk.toArray⟩,.int .i64 (q:Int),.int .i64 xs,.int .i64 xv] 108):=⟨_,rfl⟩
    have hbb:Below wr.heap.size wr wb:=by rw [hwb];exact kept_alloc _ _
    have hXB:Blk wb wr.heap.size [.string ⟨xk.toArray⟩,.int .i64 (q:Int),.int .i64 xs,.int .i64 xv] 108:=by rw [hwb];exact Blk.new _ _ _
    have hz:w.heap.size+2≤wr.heap.size:=Hsz.out
    have HLook:=Lib.hid (show ∀ w',Later wb.drew w'→w'.ownsMap Tryz.prog 9 (plainElem (H:=Unit) Tryz.prog 3) (w.heap.size+1) k D from fun w' hh=>by
     have hb:Below wr.heap.size wr w':=hbb.trans (((Below.refl _ _).drew.trans hh).mono hbb.size)
     exact Hown.out.kept (row:=none) ⟨hb.os,hb.tape,hb.output,hb.size,fun i hi _=>hb.block i hi⟩ (by simp))
    have hlook:∀ w',Later wb.drew w'→(Instr.lookup 134 (.map (some (w.heap.size+1))) (.string ⟨xk.toArray⟩) false).run Tryz.prog w'=.ok (.int .i64 c) w':=fun w' hh=>by
     obtain ⟨c',hrun,hat',-⟩:=(HLook.out w' hh).lookup_int lawS Tryz.underlying134 Tryz.underlying3 (zeroI w') hkey
     rw [hat] at hat'
     injection hat' with hat'
     injection hat' with _ hat'
     rw [hrun,hat']
    obtain ⟨x0,x1,x2,x3⟩:=cell4 hXB
    have hlt0:∀ {a:Addr} {u:Value},wr.cell? a=some u→wb.cell? a=some u:=fun {a u} h=>(hbb.cell (cellLt h)).trans h
    have px0:∀ w',Later wb.drew w'→w'.cell? _=_:=fun w' hh=>laterC x0 hh
    have px1:∀ w',Later wb.drew w'→w'.cell? _=_:=fun w' hh=>laterC x1 hh
    have px2:∀ w',Later wb.drew w'→w'.cell? _=_:=fun w' hh=>laterC x2 hh
    have px3:∀ w',Later wb.drew w'→w'.cell? _=_:=fun w' hh=>laterC x3 hh
    have pm0:∀ w',Later wb.drew w'→w'.cell? _=_:=fun w' hh=>laterC (hlt0 d0) hh
    have pg0:∀ w',Later wb.drew w'→w'.cell? _=_:=fun w' hh=>laterC (hlt0 g0) hh
    have hA:=after_any xv (s - xs) wb.drew (by omega)
    rw [←hvd] at hA
    have HA:=Lib.hid hA
    have hs1:IntKind.i64.wrap (s - xs)=s - xs:=IntWalk.i64_in _ (by omega)
    have hs2:IntKind.i64.wrap (c+u)=c+u:=IntWalk.i64_in _ (by omega)
    have hs0:IntKind.i64.wrap (q:Int)=(q:Int):=IntWalk.i64_in _ (by omega)
    have hqI:(q:Int) < (n1:Int):=by have:=Hn1.out;omega
    have Hst:=Lib.hid hst;have Hwb:=Lib.hid hwb;have Hbb:=Lib.hid hbb;have Hkey:=Lib.hid hkey
    have Hcu:=Lib.hid (show -9223372036854775808≤c+u∧c+u≤9223372036854775807 by omega)
    clear hc hcs hx hs hget hsle k1 k2 k3 k4 k3' k4' hvx hvd hvs htl hat hcv hu hkl' hkey hwb hbb hXB hA hst x0 x1 x2 x3 g0 d0 d2 hlt0 hq hmp hxm
    go_wp2_with fail
    rw [←Hwb.out]
    refine wp_region_canL Later 17 [(0,true),(1,true),(2,true),(3,true),(4,true),(5,true),(6,true),(7,true),(8,true),(9,true),(10,true),(11,true),(12,true),(13,true),(14,true),(15,false),(16,true),(17,false)] (by kernel_rfl) (by kernel_rfl) (by kernel_rfl) later_refl later_trans ?_
    repeat (refine canL_yes (v:=?_) rfl (wanted_none rfl) (fun w' hC=>?_) (fun K hK=>?_);rotate_left;(focus (go_simp;(try simp (disch:=omega) only [IntWalk.i64_in]);first | done | exact rfl));go_simp;(try simp (disch:=omega) only [IntWalk.i64_in]);refine hK _ ?_;clear hK K)
    refine canL_go rfl rfl (fun KK hK=>?_)
    go_simp
    refine HA.out.mono ?_
    rintro e w4 ⟨rfl,hb4⟩
    refine ⟨_,rfl,hb4,hK _ _ ?_⟩
    clear hK KK HA px0 px1 px2 px3 pm0 pg0 hlook
    go_simp
    obtain ⟨w5,hrun,hown5,hgr⟩:=(HLook.out w4 hb4).update lawS Tryz.underlying134 (by unfold maxLen;omega) Hkey.out (plainElem_int Tryz.underlying3 (a:=c+u) (WalkArith.wf_i64 Hcu.out))
    have hz5:w.heap.size+2≤w5.heap.size:=by
     have h1:=Hbb.out.size
     have h2:wb.drew.heap.size≤w4.heap.size:=RowKit.Below.size hb4
     have h2':wb.heap.size≤w4.heap.size:=h2
     have h3:=hgr.size
     omega
    have hb5:Below (w.heap.size+1) wx w5:=by
     have h1:Below (w.heap.size+1) wx w4:=Hbw.out.trans ((Hbb.out.mono (by omega)).trans (((Below.refl _ _).drew.trans hb4).mono (show w.heap.size+1≤wb.heap.size by have:=Hbb.out.size;omega)))
     exact h1.grown hgr (Nat.le_trans (by have:=Hbw.out.size;have:=Hzx.out;omega) h1.size) (fun j hj=>by cases hj;exact Nat.le_refl _)
    have Hown5:=Lib.hid hown5;have Hb5:=Lib.hid hb5
    clear hown5 hb5 hgr hb4
    repeat (refine canL_yes (v:=?_) rfl (wanted_none rfl) (fun w' hC=>?_) (fun K hK=>?_);rotate_left;(focus (go_simp;(try simp (disch:=omega) only [IntWalk.i64_in]);first | done | exact rfl));go_simp;(try simp (disch:=omega) only [IntWalk.i64_in]);refine hK _ ?_;clear hK K)
    refine canL_last rfl rfl rfl (fun KK hK=>?_)
    go_simp
    refine hK _ _ ?_
    clear hK KK
    go_simp
    refine canL_nil ?_
    clear hrun
    go_wp2_with fail
    go_roundw
    case rel=>exact ⟨k+1,_,by omega,by go_num,Hb5.out,hz5,Hown5.out,Hst.out⟩
    case measure=>simp [intOf];omega
  · have hkI:¬ (k:Int) < (n2:Int):=by omega
    have hkl:k=m.items.length:=by rw [Hn2.out];omega
    have Hfin:=Lib.hid (show wr.ownsMap Tryz.prog 9 (plainElem Tryz.prog 3) (w.heap.size+1) m.items.length D∧SumD m m.items.length D from by rw [←hkl];exact ⟨Hown.out,HD.out⟩)
    have Hbel:=Lib.hid (Hbx.out.trans (Hbw.out.mono (Nat.le_succ _)))
    clear hkl
    go_wp2_with fail
    go_ret
    exact ⟨⟨_,D,rfl,Nat.le_succ _,Hfin.out.1,Hfin.out.2⟩,Hbel.out⟩
set_option maxRecDepth 100000 in
set_option maxHeartbeats 1500000 in
theorem pvalue_any (w:World) (hT:Tabs w) (h3:4≤w.heap.size) (F:Blks) (v:Value) (m:RMap) (h:MapV F w v m) (hki:∀ x ∈ m.items,x.key.length≤1000000) (hkg:∀ x ∈ m.gone,x.key.length≤1000000) (key:RKey) (hk:key.length≤9223372036854775807):
 Calls Tryz.prog 42 #[v,.string ⟨key.toArray⟩] w fun e w'=>e=.returned (.int .i64 (valueR m key))∧Below w.heap.size w w':=by
 replace h:=h.mono (G:=fun b=>b < w.heap.size) fun b _ hlt=>hlt
 obtain ⟨s1,s2,s3,rfl,h⟩:=h
 obtain ⟨a1,p1,rfl,-⟩:=h.seen.shape
 obtain ⟨a2,p2,rfl,-⟩:=h.items.shape
 obtain ⟨a3,p3,rfl,-⟩:=h.gone.shape
 have l1:=h.seen.len
 have l2:=h.items.len
 have l3:=h.gone.len
 unfold maxLen at l1 l2 l3
 obtain ⟨n1,hn1⟩:∃ n,m.seen.length=n:=⟨_,rfl⟩
 obtain ⟨n2,hn2⟩:∃ n,m.items.length=n:=⟨_,rfl⟩
 obtain ⟨n3,hn3⟩:∃ n,m.gone.length=n:=⟨_,rfl⟩
 rw [hn1,hn2,hn3] at h
 rw [hn1] at l1 ⊢
 rw [hn2] at l2 ⊢
 rw [hn3] at l3 ⊢
 obtain ⟨wx,hwx⟩:∃ wx,wx=w.alloc (.cells #[.slice a1 n1 p1,.slice a2 n2 p2,.slice a3 n3 p3] 37):=⟨_,rfl⟩
 have hbx:Below w.heap.size w wx:=by rw [hwx];exact kept_alloc _ _
 have hzx:wx.heap.size=w.heap.size+1:=by rw [hwx];simp
 have hx:=h.keep (w':=wx) fun b _ hlt=>hbx.block b hlt
 have hnx:Blk wx w.heap.size [.slice a1 n1 p1,.slice a2 n2 p2,.slice a3 n3 p3] 37:=by rw [hwx];exact Blk.new _ _ _
 have Hx:=Lib.hid hx;have Hn1:=Lib.hid hn1;have Hn2:=Lib.hid hn2;have Hn3:=Lib.hid hn3
 have Hwx:=Lib.hid hwx;have Hbx:=Lib.hid hbx;have Hzx:=Lib.hid hzx
 have c0:=hnx.cell 0
 have c1:=hnx.cell 1
 have c2:=hnx.cell 2
 simp at c0 c1 c2
 have Hnx:=Lib.hid hnx
 clear hx hn1 hn2 hn3 hwx hbx hnx hzx
 clear h
 have HC:=Lib.hid (check_any wx (tabs_below hT h3 Hbx.out) (by rw [Hzx.out];omega) _ (.agg #[.slice a1 n1 p1,.slice a2 n2 p2,.slice a3 n3 p3]) m ⟨_,_,_,rfl,Hx.out⟩ hki hkg)
 obtain ⟨ok,hok⟩:∃ ok,validR m=ok:=⟨_,rfl⟩
 obtain ⟨r,hr⟩:∃ r,valueR m key=r:=⟨_,rfl⟩
 rw [hok] at HC
 rw [hr]
 have Hok:=Lib.hid hok;have Hr:=Lib.hid hr
 have hkey:keyOf Tryz.prog 9 (.string ⟨key.toArray⟩)=some (.string key):=keyOf_string_mk Tryz.underlying9 (show key.toArray.size≤maxLen by unfold maxLen;simpa using hk)
 have Hkey:=Lib.hid hkey
 clear hok hr hT hki hkg c0 c1 c2 hkey
 go_enter Tryz.func42,Tryz.ntmps42
 go_wp2_with fail
 rw [←Hwx.out]
 refine HC.out.mono ?_
 rintro e w3 ⟨rfl,hb3⟩
 have Hb3:=Lib.hid (Hbx.out.trans (hb3.mono Hbx.out.size))
 obtain ⟨d0,d1,d2⟩:=cell3 (Hnx.out.keep (hb3.block _ Hnx.out.lt))
 have Hx3:=Lib.hid (Hx.out.keep (w':=w3) fun b _ hlt=>hb3.block b hlt)
 clear HC hb3
 cases ok with
 | false=>
   obtain rfl:r=0:=by rw [←Hr.out];unfold valueR;rw [Hok.out];rfl
   go_wp2_with fail
   go_ret
   exact ⟨rfl,Hb3.out⟩
 | true=>
   have f:=valid_formed Hok.out
   have HS:=Lib.hid (sums_any w3 _ (.agg #[.slice a1 n1 p1,.slice a2 n2 p2,.slice a3 n3 p3]) m ⟨_,_,_,rfl,Hx3.out⟩ f (by have:=(valid_lens Hok.out).2.1;omega))
   clear f
   go_wp2_with fail
   refine HS.out.mono ?_
   rintro e w4 ⟨⟨B,D,rfl,-,hown,hD⟩,hb4⟩
   obtain ⟨c,hrun,hat,-⟩:=hown.lookup_int lawS Tryz.underlying134 Tryz.underlying3 (zeroI w4) Hkey.out
   have hc:c=r:=by
    have h1:=hD.at_ key
    rw [hat,List.take_length,vsum_all] at h1
    injection h1 with h1
    injection h1 with _ h1
    rw [h1,←Hr.out]
    unfold valueR
    rw [Hok.out];rfl
   subst hc
   have Hb4:=Lib.hid (Hb3.out.trans (hb4.mono Hb3.out.size))
   clear hown hat hD hb4 HS
   go_wp2_with fail
   go_ret
   exact ⟨rfl,Hb4.out⟩
end Go.Proofs.YtobjdpngnfbicaaGreatDoor
/- works: the chapter's first example. -/
namespace Go.Proofs.YtobjdpngnfbicaaGreatDoor
open Go.RowKit
set_option linter.unusedVariables false
set_option maxRecDepth 20000
abbrev exK:RKey:=[49,97,0,98]
theorem sortK_one (k:RKey):sortK [k] = [k]:=List.mergeSort_singleton k
end Go.Proofs.YtobjdpngnfbicaaGreatDoor

namespace Go.Proofs.YtobjdpngnfbicaaGreatDoor
set_option linter.unusedVariables false
set_option maxRecDepth 20000
structure UFit (M:MD) (U:MU) (n:Nat):Prop where
 fault:M.fault=none
 down:M.down=false
 dead:U.J.dead=false
 gen:U.J.g=0
 room:takenL U.J.L+n≤halfN M.S.length
theorem append_fit {M:MD} {U:MU} {n:Nat} {b:List UInt8} (h:UFit M U n) (hb:b.length≤48) (hn:1≤n) (x:RMap):
 (appU M U b x).2.2=0∧UFit (appU M U b x).1 (appU M U b x).2.1 (n - 1):=by
 obtain ⟨S,down,fault,k⟩:=M
 obtain ⟨d,m,⟨g,L,dead⟩⟩:=U
 obtain ⟨h1,h2,h3,h4,h5⟩:=h
 dsimp only at h1 h2 h3 h4 h5
 subst h1 h2 h3 h4
 have ht:takes b.length=1:=by unfold takes;omega
 have hA:appendM ⟨S,false,none,k⟩ ⟨0,L,false⟩ b=(upM (setAll S (pieceWrites S.length 0 L.length (takenL L) b)) (k+(pieceWrites S.length 0 L.length (takenL L) b).length),⟨0,L ++ [b],false⟩,0):=by
  unfold appendM
  rw [if_neg (by simp),if_neg (by omega),if_neg (by show ¬ halfN S.length - takenL L < _;omega)]
  dsimp only
  have hw:writeAll ⟨S,false,none,k⟩ (pieceWrites S.length 0 L.length (takenL L) b)=(upM (setAll S (pieceWrites S.length 0 L.length (takenL L) b)) (k+(pieceWrites S.length 0 L.length (takenL L) b).length),0):=writeAll_up _ _ _
  rw [hw,if_pos rfl]
 unfold appU
 rw [hA,if_pos rfl]
 refine ⟨rfl,rfl,rfl,rfl,rfl,?_⟩
 show takenL (L ++ [b])+(n - 1)≤halfN (setAll S _).length
 rw [setAll_length]
 have:takenL (L ++ [b])=takenL L+takes b.length:=by unfold takenL;simp
 omega
theorem write_fit {M:MD} {U:MU} {n:Nat} {b:List UInt8} (h:UFit M U n) (hb:b.length≤48) (hn:1≤n) (x:RMap):(writeU M U b x).2.2=0∧UFit (writeU M U b x).1 (writeU M U b x).2.1 (n - 1):=by
 have hr:=h.room
 have:¬ roomM M U.J < (b.length:Int):=by
  unfold roomM
  rw [if_neg (by omega)]
  omega
 unfold writeU
 rw [if_neg this]
 exact append_fit h hb hn x
theorem form_fit (n d:Nat) (h8:8≤n) (hn:n≤65536) (hd:d < 8):(formatM (MD.fresh n)).2=0∧(formU (MD.fresh n) d).2.2=0∧UInv (formU (MD.fresh n) d).1 (formU (MD.fresh n) d).2.1∧UFit (formU (MD.fresh n) d).1 (formU (MD.fresh n) d).2.1 (halfN n - 1) ∧
 (formU (MD.fresh n) d).2.1.m=.new∧(formU (MD.fresh n) d).2.1.dev=d∧(formU (MD.fresh n) d).1.S.length=n∧(formU (MD.fresh n) d).1.writes≤200000:=by
 have hM:formatM (MD.fresh n)=(upM (setAll (List.replicate n (List.replicate 64 0)) (zeroWs n ++ [(0,headB 0)])) (0+(zeroWs n ++ [(0,headB 0)]).length),0):=by
  rw [formatM_def,show (MD.fresh n).S.length=n by simp [MD.fresh]]
  exact writeAll_up _ _ _
 have hzl:(zeroWs n ++ [(0,headB 0)]).length=n+1:=by simp [zeroWs]
 have hI:=inv_fresh n h8 hn
 have hS:(setAll (List.replicate n (List.replicate 64 (0:UInt8))) (zeroWs n ++ [(0,headB 0)])).length=n:=by rw [setAll_length];simp
 have hsb:(stateB d .new).length≤48:=by
  rcases (by omega:d=0∨d=1∨d=2∨d=3∨d=4∨d=5∨d=6∨d=7) with rfl | rfl | rfl | rfl | rfl | rfl | rfl | rfl <;> decide +kernel
 have ht:takes (stateB d .new).length=1:=by unfold takes;omega
 have hh:3≤halfN n:=by unfold halfN;omega
 obtain ⟨b,hbb⟩:∃ b,stateB d .new=b:=⟨_,rfl⟩
 unfold formU
 rw [hM,hbb]
 obtain ⟨S,hSS⟩:∃ S,setAll (List.replicate n (List.replicate 64 (0:UInt8))) (zeroWs n ++ [(0,headB 0)])=S:=⟨_,rfl⟩
 obtain ⟨k,hk⟩:∃ k,0+(zeroWs n ++ [(0,headB 0)]).length=k:=⟨_,rfl⟩
 rw [hSS] at hI hS ⊢
 rw [hk]
 rw [hbb] at hsb ht
 have hA:appendM (upM S k) ⟨0,[],false⟩ b=(upM (setAll S (pieceWrites S.length 0 0 0 b)) (k+(pieceWrites S.length 0 0 0 b).length),⟨0,[b],false⟩,0):=by
  unfold appendM
  rw [if_neg (by simp),if_neg (by omega),if_neg (by show ¬ halfN S.length - takenL [] < _;rw [hS];show ¬ halfN n - 0 < _;omega)]
  dsimp only
  have hw:writeAll (upM S k) (pieceWrites S.length 0 0 0 b)=(upM (setAll S (pieceWrites S.length 0 0 0 b)) (k+(pieceWrites S.length 0 0 0 b).length),0):=writeAll_up _ _ _
  show (if (writeAll (upM S k) (pieceWrites S.length 0 0 0 b)).2=0 then _ else _)=_
  rw [hw,if_pos rfl]
  show ((writeAll (upM S k) (pieceWrites S.length 0 0 0 b)).1,(⟨0,[b],false⟩:MJ),(0:Int))=_
  rw [hw]
 dsimp only
 rw [hA]
 have hI2:Inv (setAll S (pieceWrites S.length 0 0 0 b)) 0 [b]:=inv_append_up (k:=k) (L:=[]) hI (by show 0+_≤_;rw [hS];omega) (by omega)
 refine ⟨rfl,rfl,⟨hI2,nofun,hd,new_valid,?_⟩,⟨rfl,rfl,rfl,rfl,?_⟩,rfl,rfl,?_,?_⟩
 · show foldU [b]=_
   rw [←hbb]
   exact foldU_state hd new_valid
 · show takenL [b]+(halfN n - 1)≤halfN (setAll S _).length
   rw [setAll_length,hS]
   have:takenL [b]=takes b.length:=by unfold takenL;simp
   omega
 · show (setAll S _).length=n
   rw [setAll_length,hS]
 · show k+_≤_
   have:(pieceWrites S.length 0 0 0 b).length=takes b.length:=ws_length _ _ _ _ _
   omega
def exU1:RMap:=⟨[0,0,0,1,0,0,0,0],[⟨exK,3,1,65536⟩],[]⟩
def exU2:RMap:=⟨[0,0,0,2,0,0,0,0],[],[⟨exK,3,1⟩]⟩
theorem exU1_valid:validR exU1=true:=by decide +kernel
theorem exU2_valid:validR exU2=true:=by decide +kernel
theorem exU_allow:allowedR 3 [exK]=true:=by decide +kernel
theorem exU_use:useR .new 3 [exK]=(exU1,0):=by
 have e:useM .new 3 [exK]=exU1:=by
  unfold useM
  rw [sortK_one]
  show RMap.mk _ (mergeL RIt.pl _ [] _) _=_
  rw [mergeL_nil_l]
  rfl
 unfold useR
 rw [if_pos new_valid,if_pos exU_allow,e]
 exact if_pos exU1_valid
theorem exU_forget:forgetR exU1 3 [exK]=(exU2,0):=by
 have e:forgetM exU1 3 [exK]=exU2:=by
  unfold forgetM
  show RMap.mk _ _ (mergeL RGo.pl _ [] _)=_
  rw [mergeL_nil_l]
  rfl
 unfold forgetR
 rw [if_pos exU1_valid,if_pos exU_allow,e]
 exact if_pos exU2_valid
theorem exU_val1:valueR exU1 exK=65536:=by
 unfold valueR
 rw [if_pos exU1_valid]
 decide +kernel
theorem exU_val2:valueR exU2 exK=0:=by
 unfold valueR
 rw [if_pos exU2_valid]
 decide +kernel
structure UPath (M0:MD) (U0:MU) (M1:MD) (U1:MU) (M2:MD) (U2:MU):Prop where
 form:formU (MD.fresh 40) 3=(M0,U0,0)
 fmt:(formatM (MD.fresh 40)).2=0
 learn:learnU M0 U0 [exK]=(M1,U1,0)
 opened:openU M1=.inl ⟨U1.dev,U1.m,⟨U1.J.g,U1.J.L,false⟩⟩
 drop:dropU M1 ⟨U1.dev,U1.m,⟨U1.J.g,U1.J.L,false⟩⟩ [exK]=(M2,U2,0)
 dev0:U0.dev=3
 m0:U0.m=.new
 dev1:U1.dev=3
 m1:U1.m=exU1
 m2:U2.m=exU2
 w0:M0.writes≤200000
 w1:M1.writes≤400000
 n1:M1.S.length=40
theorem exK_codes:(listB [exK]).length≤40:=by decide +kernel
theorem upath:∃ M0 U0 M1 U1 M2 U2,UPath M0 U0 M1 U1 M2 U2:=by
 obtain ⟨a1,a2,a3,a4,a5,a6,a7,a8⟩:=form_fit 40 3 (by decide) (by decide) (by decide)
 obtain ⟨⟨M0,U0,e0⟩,hf⟩:∃ r,formU (MD.fresh 40) 3=r:=⟨_,rfl⟩
 rw [hf] at a2 a3 a4 a5 a6 a7 a8
 dsimp only at a2 a3 a4 a5 a6 a7 a8
 have hh:halfN 40 - 1=18:=by decide
 rw [hh] at a4
 have hl:=exK_codes
 have hc1:=learn_call (l:=[exK]) a3 a4.dead a4.down (by rw [a4.gen];decide) (by decide) (fun k hk=>by rw [List.mem_singleton.1 hk];decide) (by omega)
 have hw:learnU M0 U0 [exK]=writeU M0 U0 (useB [exK]) exU1:=by
  unfold learnU changeU
  rw [a5,a6,show ((3:Nat):Int)=3 from rfl,exU_use,if_neg (by rw [a4.dead];decide),if_neg (by simp)]
  rfl
 obtain ⟨b1,b2⟩:=write_fit (b:=useB [exK]) a4 (by unfold useB;rw [List.length_cons];omega) (by decide) exU1
 obtain ⟨⟨M1,U1,e1⟩,hg⟩:∃ r,learnU M0 U0 [exK]=r:=⟨_,rfl⟩
 rw [←hw,hg] at b1 b2
 rw [hg] at hc1
 dsimp only at b1 b2
 have hm1:U1.m=exU1:=by
  rcases hc1.out with ⟨-,h,-⟩ | ⟨h,-⟩ | ⟨h,-⟩
  · have h':U1.m=afterK U0.m (useR U0.m U0.dev [exK]) [exK]:=h
    rw [h',a5,a6,show ((3:Nat):Int)=3 from rfl,exU_use]
    exact if_pos ⟨rfl,by simp⟩
  · exact absurd b1 h
  · have h':e1=341:=h
    rw [b1] at h';exact absurd h' (by decide)
 have hd1:U1.dev=3:=hc1.dev.trans a6
 have hop:=hc1.inv.opened b2.down
 have hb3:UFit M1 ⟨U1.dev,U1.m,⟨U1.J.g,U1.J.L,false⟩⟩ (18 - 1):=⟨b2.fault,b2.down,rfl,b2.gen,b2.room⟩
 have hI3:UInv M1 ⟨U1.dev,U1.m,⟨U1.J.g,U1.J.L,false⟩⟩:=⟨hc1.inv.inv,hc1.inv.torn,hc1.inv.ok.dev,hc1.inv.ok.valid,hc1.inv.ok.fold⟩
 have hc2:=drop_call (l:=[exK]) hI3 rfl b2.down (by show U1.J.g+1 < _;rw [b2.gen];decide) (by decide) (fun k hk=>by rw [List.mem_singleton.1 hk];decide) (by omega)
 obtain ⟨⟨M2,U2,e2⟩,hk⟩:∃ r,dropU M1 ⟨U1.dev,U1.m,⟨U1.J.g,U1.J.L,false⟩⟩ [exK]=r:=⟨_,rfl⟩
 have hw2:dropU M1 ⟨U1.dev,U1.m,⟨U1.J.g,U1.J.L,false⟩⟩ [exK]=writeU M1 ⟨U1.dev,U1.m,⟨U1.J.g,U1.J.L,false⟩⟩ (forgetB [exK]) exU2:=by
  unfold dropU changeU
  dsimp only
  rw [hm1,hd1,show ((3:Nat):Int)=3 from rfl,exU_forget,if_neg (by decide),if_neg (by simp)]
  rfl
 obtain ⟨b4,b5⟩:=write_fit (b:=forgetB [exK]) hb3 (by unfold forgetB;rw [List.length_cons];omega) (by decide) exU2
 rw [←hw2,hk] at b4
 rw [hk] at hc2
 dsimp only at b4
 have hm2:U2.m=exU2:=by
  rcases hc2.out with ⟨-,h,-⟩ | ⟨h,-⟩ | ⟨h,-⟩
  · have h':U2.m=afterK U1.m (forgetR U1.m U1.dev [exK]) [exK]:=h
    rw [h',hm1,hd1,show ((3:Nat):Int)=3 from rfl,exU_forget]
    exact if_pos ⟨rfl,by simp⟩
  · exact absurd b4 h
  · have h':e2=341:=h
    rw [b4] at h';exact absurd h' (by decide)
 have hwr:=hc1.writes
 have hsz:=hc1.size
 dsimp only at hwr hsz
 exact ⟨M0,U0,M1,U1,M2,U2,by rw [hf,a2],a1,by rw [hg,b1],hop,by rw [hk,b4],a6,a5,hd1,hm1,hm2,a8,by omega,by omega⟩
end Go.Proofs.YtobjdpngnfbicaaGreatDoor

namespace Go.Proofs.YtobjdpngnfbicaaGreatDoor
open Go.RowKit Go.Lib
set_option linter.unusedVariables false
set_option maxRecDepth 20000
attribute [local go_sem] opC upC
theorem k_any (w:World) (a b:List UInt8) (ha:a.length≤100) (hb:b.length≤100):
 Calls Tryz.prog 24 #[.string ⟨a.toArray⟩,.string ⟨b.toArray⟩] w fun e w'=>e=.returned (.string ⟨(49 :: a ++ 0 :: b).toArray⟩)∧w=w':=by
 go_enter Tryz.func24,Tryz.ntmps24
 go_wp2_with fail
 have e:(⟨#[49]⟩:ByteArray) ++ ⟨a.toArray⟩ ++ ⟨#[0]⟩ ++ ⟨b.toArray⟩=⟨(49 :: a ++ 0 :: b).toArray⟩:=by
  apply ByteArray.ext
  simp
 rw [e]
 go_ret
 exact ⟨rfl,rfl⟩
set_option maxRecDepth 100000 in
set_option maxHeartbeats 8000000 in
theorem uworks_any (w:World) (hL:Laid3 w):
 Calls Tryz.prog 10 #[] w fun e w'=>e=.returned (.bool true)∧Below w.heap.size w w':=by
 have HL:=Lib.hid (show ∀ W,Below w.heap.size w W→Laid3 W from fun W hb=>hL.below hb)
 have HLw:=Lib.hid hL
 have HN:=Lib.hid (new_X w hL.2.2 40 (by decide) (by decide))
 obtain ⟨M0,U0,M1,U1,M2,U2,hP⟩:=upath
 have HP:=Lib.hid hP
 clear hL hP
 go_enter Tryz.func10,Tryz.ntmps10
 go_wp2_with fail
 refine HN.out.mono ?_
 rintro e w1 ⟨d,rfl,hd,hb1⟩
 have hF:=form_X w1 (HL.out w1 hb1) _ d (MD.fresh 40) hd (by simp [MD.fresh]) (by show 0+200000 < _;decide) 3 (by decide) HP.out.fmt (by rw [HP.out.form])
 rw [HP.out.form] at hF
 have HF:=Lib.hid hF;have Hb1:=Lib.hid hb1
 clear hF hd hb1 HN
 go_wp2_with fail
 refine HF.out.mono ?_
 rintro e w2 ⟨u,rfl,hU,hb2⟩
 have hb2':Below w.heap.size w w2:=Hb1.out.trans hb2
 have HU:=Lib.hid hU;have Hb2:=Lib.hid hb2'
 have HK:=Lib.hid (show ∀ W,Calls Tryz.prog 24 #[.string ⟨#[97]⟩,.string ⟨#[98]⟩] W fun e w'=>e=.returned (.string ⟨exK.toArray⟩)∧W=w' from fun W=>k_any W [97] [98] (by decide) (by decide))
 clear hU hb2 hb2' HF
 go_wp2_with fail
 refine (HK.out _).mono ?_
 rintro e wz3 ⟨rfl,rfl⟩
 obtain ⟨w3,hw⟩:∃ q,q=w2.alloc (.cells #[.string ⟨exK.toArray⟩] 9):=⟨_,rfl⟩
 have hb3:Below w2.heap.size w2 w3:=by rw [hw];exact kept_alloc _ _
 have hr3:Rows (fun b=>b=w2.heap.size) w3 1 (.slice (some ⟨w2.heap.size,0,none⟩) 1 1) [exK].length ([exK].map Go.Proofs.encStr):=by
  rw [hw];exact rows_new w2 #[.string ⟨exK.toArray⟩] 9 1 rfl (by unfold maxLen;omega)
 have hB3:Below w.heap.size w w3:=Hb2.out.trans (hb3.mono Hb2.out.size)
 have hLe:=learn_X w3 (HL.out w3 hB3) _ d u _ _ (HU.out.keep hb3) (by show _ < 8;rw [HP.out.dev0];decide) (by show validR _=true;rw [HP.out.m0];exact new_valid) _ _ [exK] hr3 (by decide) (fun k hk=>by rw [List.mem_singleton.1 hk];decide) (by have:=HP.out.w0;have:=HP.out.w1;omega)
 rw [HP.out.learn] at hLe
 have HLe:=Lib.hid hLe;have Hw3:=Lib.hid hw;have HB3:=Lib.hid hB3
 clear hLe hw hb3 hr3 hB3
 go_wp2_with fail
 rw [←Hw3.out]
 refine HLe.out.mono ?_
 rintro e w4 ⟨rfl,hU,hb⟩
 have HU4:=Lib.hid hU
 have HB4:=Lib.hid (show Below w.heap.size w w4 from HB3.out.trans hb)
 clear hU hb HLe
 have HD:=Lib.hid (show Calls Tryz.prog 17 #[.pointer (some ⟨u,0,none⟩)] w4 fun e w'=>e=.returned (.int .i64 3)∧w4=w' from by
  have h:=device_X w4 _ d u M1 U1 HU4.out
  rw [HP.out.dev1] at h
  exact h)
 go_wp2_with fail
 refine HD.out.mono ?_
 rintro e w4' ⟨rfl,rfl⟩
 clear HD
 have hM1:=map_X w4 _ d u _ _ HU4.out (by show validR _=true;rw [HP.out.m1];exact exU1_valid)
 try dsimp only at hM1
 rw [HP.out.m1] at hM1
 have HM:=Lib.hid hM1
 clear hM1
 go_wp2_with fail
 refine HM.out.mono ?_
 rintro e wa1 ⟨⟨r,rfl,ho,hbd⟩,hb⟩
 have hmv:=ho.map hbd
 obtain ⟨t1,t2,t3,rfl,ho'⟩:=id ho
 obtain ⟨n11,m11,rfl⟩:=own_shape ho'.seen
 obtain ⟨n21,m21,rfl⟩:=own_shape ho'.items
 obtain ⟨n31,m31,rfl⟩:=own_shape ho'.gone
 have HBa1:=Lib.hid (show Below w.heap.size w wa1 from HB4.out.trans (hb.mono HB4.out.size))
 have hV:=pvalue_any wa1 (HL.out _ HBa1.out).2.1 (HL.out _ HBa1.out).2.2 _ _ _ hmv (valid_keys exU1_valid).1 (valid_keys exU1_valid).2 exK (by decide)
 rw [exU_val1] at hV
 have HV:=Lib.hid hV
 have HUa1:=Lib.hid (HU4.out.keep hb)
 clear hV hmv ho ho' hb hbd HM
 go_wp2_with fail
 refine (HK.out _).mono ?_
 rintro e wk1 ⟨rfl,rfl⟩
 go_wp2_with fail
 refine HV.out.mono ?_
 rintro e wb1 ⟨rfl,hb⟩
 have HBb1:=Lib.hid (show Below w.heap.size w wb1 from HBa1.out.trans (hb.mono HBa1.out.size))
 have HUb1:=Lib.hid (HUa1.out.keep hb)
 clear hb HV
 have hOp:=open_UX wb1 (HL.out _ HBb1.out) _ d M1 HUb1.out.disk
 rw [HP.out.opened] at hOp
 have HOp:=Lib.hid hOp
 clear hOp
 go_wp2_with fail
 refine HOp.out.mono ?_
 rintro e w5 ⟨⟨u2,rfl,hU5⟩,hb5⟩
 have HU5:=Lib.hid hU5
 have HB5:=Lib.hid (show Below w.heap.size w w5 from HBb1.out.trans (hb5.mono HBb1.out.size))
 clear hU5 hb5 HOp
 have HD:=Lib.hid (show Calls Tryz.prog 17 #[.pointer (some ⟨u2,0,none⟩)] w5 fun e w'=>e=.returned (.int .i64 3)∧w5=w' from by
  have h:=device_X w5 _ d u2 M1 _ HU5.out
  try dsimp only at h
  rw [HP.out.dev1] at h
  exact h)
 go_wp2_with fail
 refine HD.out.mono ?_
 rintro e w5' ⟨rfl,rfl⟩
 clear HD
 have hM2:=map_X w5 _ d u2 _ _ HU5.out (by show validR _=true;rw [HP.out.m1];exact exU1_valid)
 try dsimp only at hM2
 rw [HP.out.m1] at hM2
 have HM:=Lib.hid hM2
 clear hM2
 go_wp2_with fail
 refine HM.out.mono ?_
 rintro e wa2 ⟨⟨r,rfl,ho,hbd⟩,hb⟩
 have hmv:=ho.map hbd
 obtain ⟨t1,t2,t3,rfl,ho'⟩:=id ho
 obtain ⟨n12,m12,rfl⟩:=own_shape ho'.seen
 obtain ⟨n22,m22,rfl⟩:=own_shape ho'.items
 obtain ⟨n32,m32,rfl⟩:=own_shape ho'.gone
 have HBa2:=Lib.hid (show Below w.heap.size w wa2 from HB5.out.trans (hb.mono HB5.out.size))
 have hV:=pvalue_any wa2 (HL.out _ HBa2.out).2.1 (HL.out _ HBa2.out).2.2 _ _ _ hmv (valid_keys exU1_valid).1 (valid_keys exU1_valid).2 exK (by decide)
 rw [exU_val1] at hV
 have HV:=Lib.hid hV
 have HUa2:=Lib.hid (HU5.out.keep hb)
 clear hV hmv ho ho' hb hbd HM
 go_wp2_with fail
 refine (HK.out _).mono ?_
 rintro e wk2 ⟨rfl,rfl⟩
 go_wp2_with fail
 refine HV.out.mono ?_
 rintro e wb2 ⟨rfl,hb⟩
 have HBb2:=Lib.hid (show Below w.heap.size w wb2 from HBa2.out.trans (hb.mono HBa2.out.size))
 have HUb2:=Lib.hid (HUa2.out.keep hb)
 clear hb HV
 go_wp2_with fail
 refine (HK.out _).mono ?_
 rintro e wz6 ⟨rfl,rfl⟩
 obtain ⟨w6,hw⟩:∃ q,q=wb2.alloc (.cells #[.string ⟨exK.toArray⟩] 9):=⟨_,rfl⟩
 have hb3:Below wb2.heap.size wb2 w6:=by rw [hw];exact kept_alloc _ _
 have hr3:Rows (fun b=>b=wb2.heap.size) w6 1 (.slice (some ⟨wb2.heap.size,0,none⟩) 1 1) [exK].length ([exK].map Go.Proofs.encStr):=by
  rw [hw];exact rows_new wb2 #[.string ⟨exK.toArray⟩] 9 1 rfl (by unfold maxLen;omega)
 have hB3:Below w.heap.size w w6:=HBb2.out.trans (hb3.mono HBb2.out.size)
 have hLe:=drop_X w6 (HL.out w6 hB3) _ d u2 _ _ (HUb2.out.keep hb3) (by show _ < 8;rw [HP.out.dev1];decide) (by show validR _=true;rw [HP.out.m1];exact exU1_valid) _ _ [exK] hr3 (by decide) (fun k hk=>by rw [List.mem_singleton.1 hk];decide) (by have:=HP.out.w0;have:=HP.out.w1;omega)
 rw [HP.out.drop] at hLe
 have HLe:=Lib.hid hLe;have Hw6:=Lib.hid hw;have HB6:=Lib.hid hB3
 clear hLe hw hb3 hr3 hB3
 go_wp2_with fail
 rw [←Hw6.out]
 refine HLe.out.mono ?_
 rintro e w7 ⟨rfl,hU,hb⟩
 have HU7:=Lib.hid hU
 have HB7:=Lib.hid (show Below w.heap.size w w7 from HB6.out.trans hb)
 clear hU hb HLe
 have hM3:=map_X w7 _ d u2 _ _ HU7.out (by show validR _=true;rw [HP.out.m2];exact exU2_valid)
 try dsimp only at hM3
 rw [HP.out.m2] at hM3
 have HM:=Lib.hid hM3
 clear hM3
 go_wp2_with fail
 refine HM.out.mono ?_
 rintro e wa3 ⟨⟨r,rfl,ho,hbd⟩,hb⟩
 have hmv:=ho.map hbd
 obtain ⟨t1,t2,t3,rfl,ho'⟩:=id ho
 obtain ⟨n13,m13,rfl⟩:=own_shape ho'.seen
 obtain ⟨n23,m23,rfl⟩:=own_shape ho'.items
 obtain ⟨n33,m33,rfl⟩:=own_shape ho'.gone
 have HBa3:=Lib.hid (show Below w.heap.size w wa3 from HB7.out.trans (hb.mono HB7.out.size))
 have hV:=pvalue_any wa3 (HL.out _ HBa3.out).2.1 (HL.out _ HBa3.out).2.2 _ _ _ hmv (valid_keys exU2_valid).1 (valid_keys exU2_valid).2 exK (by decide)
 rw [exU_val2] at hV
 have HV:=Lib.hid hV
 have HUa3:=Lib.hid (HU7.out.keep hb)
 clear hV hmv ho ho' hb hbd HM
 go_wp2_with fail
 refine (HK.out _).mono ?_
 rintro e wk3 ⟨rfl,rfl⟩
 go_wp2_with fail
 refine HV.out.mono ?_
 rintro e wb3 ⟨rfl,hb⟩
 have HBb3:=Lib.hid (show Below w.heap.size w wb3 from HBa3.out.trans (hb.mono HBa3.out.size))
 have HUb3:=Lib.hid (HUa3.out.keep hb)
 clear hb HV
 go_wp2_with fail
 go_ret
 exact ⟨rfl,HBb3.out⟩
end Go.Proofs.YtobjdpngnfbicaaGreatDoor
