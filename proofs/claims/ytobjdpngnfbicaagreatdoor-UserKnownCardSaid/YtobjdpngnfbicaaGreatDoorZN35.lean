/-
  UCall
-/
import Derived.Test.YtobjdpngnfbicaaGreatDoorZN29
import Derived.Test.YtobjdpngnfbicaaGreatDoorZN31
import Derived.Test.YtobjdpngnfbicaaGreatDoorZN33
import Derived.Test.YtobjdpngnfbicaaGreatDoorZN34
namespace Go.Proofs.YtobjdpngnfbicaaGreatDoor
open Go.RowKit Go.Lib
set_option linter.unusedVariables false
set_option maxRecDepth 20000
attribute [local go_sem] opC upC
theorem laterTC {B0:Nat} {T:TypeId} {w w':World} {a:Addr} {x:Value} (h:w.cell? a=some x) (hB:B0=w.heap.size) (hh:LaterT B0 T w.drew w'):w'.cell? a=some x:=by
 have hb:=(hh.below (by rw [hB];exact Nat.le_refl _)).block a.block (by rw [hB];exact cellLt h)
 have hb':w'.heap[a.block]?=w.heap[a.block]?:=hb
 unfold World.cell? at *
 rw [hb'];exact h
theorem LaterT.belD {B0:Nat} {T:TypeId} {w w':World} (hB:B0=w.heap.size) (hh:LaterT B0 T w.drew w'):Below w.heap.size w w':=by
 have:=hh.below (by rw [hB];exact Nat.le_refl _)
 rw [hB] at this
 exact (Below.refl _ _).drew.trans this
def ordC7:List FStep:=[.steady 0,.steady 1,.steady 2,.steady 3,.steady 4,.steady 5,.steady 6,.steady 7,.steady 8,.steady 9,.move 10,.steady 11,.steady 12,.steady 13,.float 14,.fixed 15,.steady 16]
theorem UPostC.same {w:World} {jk:JK} {u:Nat} {M:MD} {U:MU} {n:Int} (h:UAt w jk u M U):UPostC w jk u (M,U,n) (.returned (.int .i64 n)) w:=⟨rfl,jk,rfl,rfl,h,fun q hq=>.inl hq,Only.refl _ _⟩
theorem UPostC.kept {w w':World} {jk:JK} {u:Nat} {M:MD} {U:MU} {n:Int} (h:UAt w jk u M U) (hb:Below w.heap.size w w'):UPostC w jk u (M,U,n) (.returned (.int .i64 n)) w':=⟨rfl,jk,rfl,rfl,h.keep hb,fun q hq=>.inl hq,Only.of_below hb⟩
theorem UPostC.after {w w1 w':World} {jk:JK} {u:Nat} {r:MD × MU × Int} {e:Ending} (hb:Below w.heap.size w w1) (h:UPostC w1 jk u r e w'):UPostC w jk u r e w':=by
 obtain ⟨h1,jk',h2,h3,h4,h5,h6⟩:=h
 exact ⟨h1,jk',h2,h3,h4,fun q hq=>(h5 q hq).imp id fun hh=>Nat.le_trans hb.size hh,(Only.of_below (F:=fun q=>jk.all q∨q=u) hb).trans h6 fun q hq=>.inl hq⟩
theorem listB_le (l:List RKey) (h:∀ k ∈ l,k.length≤1000):(listB l).length≤10+l.length * 1010:=by
 have hq:∀ (q:List RKey),(∀ x ∈ q,x.length≤1000)→(q.flatMap codeText).length≤q.length * 1010:=fun q=>by
  induction q with
  | nil=>intro _;simp
  | cons x q ih=>
    intro hx
    have h1:=ih fun y hy=>hx y (List.mem_cons_of_mem _ hy)
    have h2:=hx x List.mem_cons_self
    have h3:=uvar_len x.length
    have h4:(codeText x).length=(uvar x.length).length+x.length:=by unfold codeText;rw [List.length_append]
    rw [List.flatMap_cons,List.length_append,List.length_cons,h4]
    omega
 have h1:=hq l h
 have h2:=uvar_len l.length
 unfold listB
 rw [List.length_append]
 omega
theorem MapIn.njBelow {w w':World} {s1 s2 s3:Value} {m:RMap} (h:MapIn (NJ w) w s1 s2 s3 m) (hb:Below w.heap.size w w'):MapIn (NJ w') w' s1 s2 s3 m:=
 (h.keep (w':=w') fun q _ hlt=>hb.block q hlt).mono fun q hq _=>nj_keep hq (hb.block q (nj_lt hq))
set_option maxRecDepth 100000 in
set_option maxHeartbeats 4000000 in
theorem learnC_any (w:World) (hT:Tabs w) (h3:4≤w.heap.size) (hq:Quarter w) (jk:JK) (u:Nat) (M:MD) (U:MU) (h:UAt w jk u M U) (hd:U.dev < 8) (hv:validR U.m=true) (F:Blks) (kv:Value) (l:List RKey) (hl:Rows F w 1 kv l.length (l.map Go.Proofs.encStr)) (hln:l.length≤1000) (hkl:∀ k ∈ l,k.length≤1000) (hw:M.writes+200000 < 4611686018427387904):
 Calls Tryz.prog 61 #[.pointer (some ⟨u,0,none⟩),.int .u8 1,kv,.func (.func 57) #[] #[]] w (UPostC w jk u (learnU M U l)):=by
 replace hl:=hl.mono (G:=fun q=>q < w.heap.size) fun q _ hlt=>hlt
 obtain ⟨ak,ck,rfl,-⟩:=id hl
 obtain ⟨a1,p1,a2,p2,a3,p3,hb,hm⟩:=h.box
 have hk:=valid_keys hv
 have hlens:=valid_lens hv
 obtain ⟨m,hmm⟩:∃ m,U.m=m:=⟨_,rfl⟩
 obtain ⟨d,hdd⟩:∃ d,U.dev=d:=⟨_,rfl⟩
 obtain ⟨bd,hbd⟩:∃ b,U.J.dead=b:=⟨_,rfl⟩
 obtain ⟨n,hn⟩:∃ n,l.length=n:=⟨_,rfl⟩
 obtain ⟨RR,hRR⟩:∃ r,useR U.m U.dev l=r:=⟨_,rfl⟩
 have hD:=udead_any w jk u M U h
 rw [hmm,hdd] at hb hRR
 rw [hmm] at hm hk hlens
 rw [hbd] at hD
 obtain ⟨c0,c1,c2,c3,c4⟩:=cell5u hb
 have HD:=Lib.hid hD;have HU:=Lib.hid h;have Hd:=Lib.hid hd;have Hv:=Lib.hid hv;have Hl:=Lib.hid hl;have Hw:=Lib.hid hw;have Hkl:=Lib.hid hkl;have Hm:=Lib.hid hm;have Hk:=Lib.hid hk;have Hlens:=Lib.hid hlens
 have Hmm:=Lib.hid hmm;have Hdd:=Lib.hid hdd;have Hbd':=Lib.hid hbd;have HRR:=Lib.hid hRR;have Hn:=Lib.hid hn;have HT:=Lib.hid hT;have HQ:=Lib.hid hq
 rw [hn] at hln ⊢
 clear hD h hd hv hl hw hkl hm hk hlens hmm hdd hbd hRR hn hT hq hb c4
 go_enter Tryz.func61,Tryz.ntmps61
 go_wp2_with fail
 refine HD.out.mono ?_
 rintro e w1 ⟨rfl,rfl⟩
 clear HD
 cases bd with
 | true=>
   have Heq:=Lib.hid (show learnU M U l=(M,U,8) by unfold learnU changeU;rw [if_pos Hbd'.out])
   go_wp2_with fail
   go_ret
   rw [Heq.out]
   exact UPostC.same HU.out
 | false=>
   by_cases h0:n=0
   · have h0I:(n:Int)=0:=by omega
     have Heq:=Lib.hid (show learnU M U l=(M,U,0) by unfold learnU changeU;rw [if_neg (by rw [Hbd'.out];decide),if_pos (List.length_eq_zero_iff.1 (Hn.out.trans h0))])
     clear h0
     go_wp2_with fail
     go_ret
     rw [Heq.out]
     exact UPostC.same HU.out
   · have h0I:¬ (n:Int)=0:=by omega
     have Hne:=Lib.hid (show l≠[] from fun e=>h0 (by rw [←Hn.out,e];rfl))
     obtain ⟨x,er⟩:=RR
     have pz:∀ q x,w.cell? q=some x→∀ w',LaterT w.heap.size 37 w.drew w'→w'.cell? q=some x:=fun q x hc w' hh=>laterTC hc rfl hh
     have pc0:=pz _ _ c0
     have pc1:=pz _ _ c1
     have pc2:=pz _ _ c2
     have pc3:=pz _ _ c3
     clear h0 c0 c1 c2 c3 pz
     go_wp2_with fail
     skip
     refine wp_region_fl (LaterT w.heap.size 37) (FreshT w.heap.size 37 3) [14] ordC7 60 (by kernel_rfl) (by kernel_rfl) (laterT_refl _ _) (laterT_trans _ _) (floats_of #[.slice none 0 0,.slice none 0 0,.slice none 0 0] rfl (Nat.le_refl _) (fun j hj=>?_) (fun i j hi hj hne=>?_)) ?_
     · obtain rfl:j=14:=by simpa using hj
       exact ⟨_,rfl,rfl,fun a W=>by go_simp⟩
     · simp at hi hj
       omega
     unfold ordC7
     repeat (refine canF_yes (v:=?_) rfl (wanted_none rfl) (fun w' hC=>?_) (fun K hK=>?_);rotate_left;(focus (go_simp;(try simp (disch:=omega) only [IntWalk.i64_in]);(try simp (disch:=omega) only [IntWalk.u32_in]);(try simp (disch:=omega) only [IntWalk.u8_in]);(try simp (disch:=omega) only [IntWalk.i64_quo]);(try simp (disch:=omega) only [IntWalk.rem_in]);first | done | exact rfl));go_simp;(try simp (disch:=omega) only [IntWalk.i64_in]);(try simp (disch:=omega) only [IntWalk.u32_in]);(try simp (disch:=omega) only [IntWalk.u8_in]);(try simp (disch:=omega) only [IntWalk.i64_quo]);(try simp (disch:=omega) only [IntWalk.rem_in]);refine hK _ ?_;clear hK K)
     refine canF_go rfl rfl (fun Wa hWa KK hK=>?_)
     go_simp
     have hba:Below w.heap.size w Wa:=hWa.belD rfl
     have hU:=puse_any Wa (tabs_below HT.out h3 hba) (Nat.le_trans h3 hba.size) _ (.agg #[.slice a1 m.seen.length p1,.slice a2 m.items.length p2,.slice a3 m.gone.length p3]) m ⟨_,_,_,rfl,Hm.out.keep (w':=Wa) fun q _ hlt=>hba.block q hlt⟩ Hk.out.1 Hk.out.2 (by have:=Hlens.out;omega) (by have:=Hlens.out;omega) (d:Int) _ (.slice ak l.length ck) l (Hl.out.keep (w':=Wa) fun q _ hlt=>hba.block q hlt) (by rw [Hn.out];omega) (fun k hk=>by have:=Hkl.out k hk;omega)
     rw [HRR.out,Hn.out] at hU
     have Hsz:=Lib.hid hba.size
     refine hU.mono ?_
     rintro e wq7 ⟨⟨r1,rfl,ho,hbd⟩,hb7⟩
     refine ⟨_,rfl,LaterT.of_later hb7,hK _ _ ?_⟩
     clear hK KK hU pc0 pc1 pc2 pc3
     go_simp
     obtain ⟨t1,t2,t3,rfl,ho⟩:=ho
     dsimp only at ho hbd
     obtain ⟨n1,m1,rfl⟩:=own_shape ho.seen
     obtain ⟨n2,m2,rfl⟩:=own_shape ho.items
     obtain ⟨n3,m3,rfl⟩:=own_shape ho.gone
     have hb07:Below w.heap.size w wq7:=hba.trans (hb7.mono hba.size)
     have Hb07:=Lib.hid hb07;have Ho:=Lib.hid ho;have Hbd:=Lib.hid hbd
     clear hb07 ho hbd hb7 hba hWa
     repeat (refine canF_yes (v:=?_) rfl (wanted_none rfl) (fun w' hC=>?_) (fun K hK=>?_);rotate_left;(focus (go_simp;(try simp (disch:=omega) only [IntWalk.i64_in]);(try simp (disch:=omega) only [IntWalk.u32_in]);(try simp (disch:=omega) only [IntWalk.u8_in]);(try simp (disch:=omega) only [IntWalk.i64_quo]);(try simp (disch:=omega) only [IntWalk.rem_in]);first | done | exact rfl));go_simp;(try simp (disch:=omega) only [IntWalk.i64_in]);(try simp (disch:=omega) only [IntWalk.u32_in]);(try simp (disch:=omega) only [IntWalk.u8_in]);(try simp (disch:=omega) only [IntWalk.i64_quo]);(try simp (disch:=omega) only [IntWalk.rem_in]);refine hK _ ?_;clear hK K)
     refine canF_float rfl (fun vO Wd hWd hZ hU KK hK=>?_)
     obtain ⟨Om,LO,rfl,hO1,hO2,hO3⟩:=hZ
     refine hK _ _ ?_
     clear hK KK hU
     go_simp
     obtain ⟨x0,x1,x2,rfl⟩:∃ x0 x1 x2,LO = [x0,x1,x2]:=by
      match LO,hO3 with
      | [x0,x1,x2],_=>exact ⟨x0,x1,x2,rfl⟩
     have hbd':Below w.heap.size w Wd:=Hb07.out.trans (hWd.below Hb07.out.size)
     obtain ⟨w6,hw8,hblk8,hb8⟩:=fin3 hO2 hbd' hO1 (.slice n1 x.seen.length m1) (.slice n2 x.items.length m2) (.slice n3 x.gone.length m3)
     have hl8:LaterT w.heap.size 37 Wd w6:=by
      rw [hw8]
      exact laterT_trans _ _ _ _ _ (laterT_trans _ _ _ _ _ (LaterT.set hO2 hO1 0 _) (LaterT.set (hO2.set 0 _) hO1 1 _)) (LaterT.set ((hO2.set 0 _).set 1 _) hO1 2 _)
     have ho8:OwnIn w6 w.heap.size (.slice n1 x.seen.length m1) (.slice n2 x.items.length m2) (.slice n3 x.gone.length m3) x:=
      ⟨own_base (hl8.own (hWd.own Ho.out.seen (by decide)) (by decide)) Hsz.out,own_base (hl8.own (hWd.own Ho.out.items (by decide)) (by decide)) Hsz.out,own_base (hl8.own (hWd.own Ho.out.gone (by decide)) (by decide)) Hsz.out⟩
     have HO1w6:=Lib.hid hO1;have HOw6:=Lib.hid ho8;have HBkw6:=Lib.hid hblk8;have HBdw6:=Lib.hid Hbd.out
     obtain ⟨y0,y1,y2⟩:=cell3 hO2
     have z0:=hO2.free 0
     have z1:=hO2.free 1
     have z2:=hO2.free 2
     have HBw6:=Lib.hid hb8;have Hl8:=Lib.hid hl8;have Hw8:=Lib.hid hw8
     clear hb8 hl8 hw8 hblk8 hbd' hWd hO2 hO3 Ho Hbd Hb07 ho8
     refine canF_fixed rfl rfl (fun KK hK=>?_)
     go_simp
     rw [←Hw8.out]
     refine ⟨Hl8.out,hK _ _ ?_⟩
     clear hK KK y0 y1 y2 z0 z1 z2 Hl8 Hw8 hO1
     go_simp
     repeat (refine canF_yes (v:=?_) rfl (wanted_none rfl) (fun w' hC=>?_) (fun K hK=>?_);rotate_left;(focus (go_simp;(try simp (disch:=omega) only [IntWalk.i64_in]);(try simp (disch:=omega) only [IntWalk.u32_in]);(try simp (disch:=omega) only [IntWalk.u8_in]);(try simp (disch:=omega) only [IntWalk.i64_quo]);(try simp (disch:=omega) only [IntWalk.rem_in]);first | done | exact rfl));go_simp;(try simp (disch:=omega) only [IntWalk.i64_in]);(try simp (disch:=omega) only [IntWalk.u32_in]);(try simp (disch:=omega) only [IntWalk.u8_in]);(try simp (disch:=omega) only [IntWalk.i64_quo]);(try simp (disch:=omega) only [IntWalk.rem_in]);refine hK _ ?_;clear hK K)
     refine canF_nil ?_
     by_cases he:er=0
     · subst he
       have HU6:=Lib.hid (HU.out.keep HBw6.out)
       have HX6:=Lib.hid (HOw6.out.nj HBdw6.out)
       have Heq:=Lib.hid (show learnU M U l=writeU M U (useB l) x by unfold learnU changeU;rw [if_neg (by rw [Hbd'.out];decide),if_neg Hne.out,Hmm.out,Hdd.out,HRR.out];rfl)
       obtain ⟨w7,hw7⟩:∃ q,q=w6.drew:=⟨_,rfl⟩
       have hb7:Below w6.heap.size w6 w7:=by rw [hw7];exact (Below.refl w6.heap.size w6).drew
       have hB7:Below w.heap.size w w7:=HBw6.out.trans (hb7.mono HBw6.out.size)
       obtain ⟨o0,o1,o2⟩:=cell3 (HBkw6.out.keep (hb7.block _ HBkw6.out.lt))
       have pz:∀ q x,w7.cell? q=some x→∀ w',Later w7 w'→w'.cell? q=some x:=fun q x hc w' hh=>(hh.cell (p:=q) (cellLt hc)).trans hc
       have po0:=pz _ _ o0
       have po1:=pz _ _ o1
       have po2:=pz _ _ o2
       have hP:=putList_any w7 _ (.slice ak l.length ck) l (Hl.out.keep (w':=w7) fun q hq _=>hB7.block q hq) (by rw [Hn.out];omega) (fun k hk=>by have:=Hkl.out k hk;omega)
       rw [Hn.out] at hP
       have HP:=Lib.hid hP;have Hw7:=Lib.hid hw7;have HB7:=Lib.hid hB7;have HX7:=Lib.hid (HX6.out.njBelow hb7)
       have HLB:=Lib.hid (show (listB l).length≤2000000 by have:=listB_le l Hkl.out;rw [Hn.out] at this;omega)
       clear hP hw7 hb7 hB7 o0 o1 o2 pz
       go_wp2_with fail
       refine wp_region_canL Later 7 [(0,true),(1,true),(2,true),(6,true),(3,false),(4,false),(5,false),(7,false),(8,true)] (by kernel_rfl) (by kernel_rfl) (by kernel_rfl) later_refl later_trans ?_
       rw [←Hw7.out]
       repeat (refine canL_yes (v:=?_) rfl (wanted_none rfl) (fun w' hC=>?_) (fun K hK=>?_);rotate_left;(focus (go_simp;first | done | exact rfl));go_simp;refine hK _ ?_;clear hK K)
       clear po0 po1 po2
       refine canL_go rfl rfl (fun KK hK=>?_)
       go_simp
       refine HP.out.mono ?_
       rintro e w8 ⟨⟨r8,rfl,ho8⟩,hb8⟩
       refine ⟨_,rfl,hb8,hK _ _ ?_⟩
       clear hK KK HP
       go_simp
       have h8:Bytes (fun _=>True) w8 r8 (listB l):=Bytes.of_owns ho8 _ fun _ _ _=>trivial
       obtain ⟨a8,c8,rfl⟩:=own_shape ho8
       have hr9:=rowsAt_one h8.insideU (fun b hb=>hb)
       obtain ⟨w9,hw9⟩:∃ w9,w9=w8.alloc (.cells #[.slice a8 (listB l).length c8] 41):=⟨_,rfl⟩
       rw [←hw9] at hr9
       have hb9:Below w7.heap.size w7 w9:=by rw [hw9];exact hb8.alloc hb8.size _
       have hR:=record_any w9 _ 1 _ _ hr9 (by rw [catB_one];have:=HLB.out;omega) (by simp)
       rw [catB_one] at hR
       have HR:=Lib.hid (show Calls Tryz.prog 81 #[.int .u8 1,.slice (some ⟨w8.heap.size,0,none⟩) 1 1] w9 _ from hR);have Hw9:=Lib.hid hw9;have Hb9:=Lib.hid hb9;have Hb89:=Lib.hid (show Below w8.heap.size w8 w9 by rw [hw9];exact kept_alloc _ _)
       obtain ⟨nb,hnb⟩:∃ nb,(listB l).length=nb:=⟨_,rfl⟩
       rw [hnb] at Hw9 ⊢
       clear hR hr9 hw9 hb9 h8 ho8 hb8 hnb
       refine canL_go rfl rfl (fun KK hK=>?_)
       go_simp
       rw [←Hw9.out]
       refine ⟨Hb89.out,hK _ _ ?_⟩
       clear hK KK
       go_simp
       refine canL_go rfl rfl (fun KK hK=>?_)
       go_simp
       refine HR.out.mono ?_
       rintro e w10 ⟨⟨r10,rfl,ho10⟩,hb10⟩
       refine ⟨_,rfl,hb10,hK _ _ ?_⟩
       clear hK KK HR
       go_simp
       have hb7a:Below w7.heap.size w7 w10:=Hb9.out.trans (hb10.mono Hb9.out.size)
       have hBA:Below w.heap.size w w10:=HB7.out.trans (hb7a.mono HB7.out.size)
       have hjl:=HU.out.jat.lt
       have h9w:w.heap.size≤w9.heap.size:=Nat.le_trans HB7.out.size Hb9.out.size
       have hB10:Bytes (fun q=>w9.heap.size≤q∧q < w10.heap.size) w10 r10 (useB l):=Bytes.of_owns ho10 _ fun q h1 h2=>⟨h1,h2⟩
       have hW:=write_any w10 (tabs_below HT.out h3 hBA) (Nat.le_trans h3 hBA.size) (HQ.out.keep (hBA.block 0 (by omega))) jk u M U (HU.out.keep hBA) Hd.out Hv.out _ r10 (useB l) hB10 (fun q hq=>⟨hq.2,fun ha=>by have:=hjl q ha;omega⟩) (.agg #[.slice n1 x.seen.length m1,.slice n2 x.items.length m2,.slice n3 x.gone.length m3]) x ⟨_,_,_,rfl,HX7.out.njBelow hb7a⟩ Hw.out (by show (listB l).length+1≤_;have:=HLB.out;omega)
       have HW:=Lib.hid hW;have HBA:=Lib.hid hBA
       obtain ⟨a10,c10,rfl⟩:=own_shape ho10
       clear hW hBA hb7a hjl h9w hB10 ho10 hb10
       repeat (refine canL_yes (v:=?_) rfl (wanted_none rfl) (fun w' hC=>?_) (fun K hK=>?_);rotate_left;(focus (go_simp;first | done | exact rfl));go_simp;refine hK _ ?_;clear hK K)
       refine canL_last rfl rfl rfl (fun KK hK=>?_)
       go_simp
       refine HW.out.mono ?_
       rintro e w11 ⟨rfl,hrest⟩
       refine ⟨_,rfl,hK _ _ ?_⟩
       clear hK KK HW
       go_simp
       repeat (refine canL_yes (v:=?_) rfl (wanted_none rfl) (fun w' hC=>?_) (fun K hK=>?_);rotate_left;(focus (go_simp;first | done | exact rfl));go_simp;refine hK _ ?_;clear hK K)
       refine canL_nil ?_
       have Hrest:=Lib.hid hrest
       clear hrest
       go_wp2_with fail
       go_ret
       rw [Heq.out]
       exact UPostC.after HBA.out ⟨rfl,Hrest.out⟩
     · have heI:¬ er=0:=he
       have Heq:=Lib.hid (show learnU M U l=(M,U,er) by unfold learnU changeU;rw [if_neg (by rw [Hbd'.out];decide),if_neg Hne.out,Hmm.out,Hdd.out,HRR.out];exact if_neg he)
       clear he
       go_wp2_with fail
       go_ret
       rw [Heq.out]
       exact UPostC.kept HU.out HBw6.out
set_option maxRecDepth 100000 in
set_option maxHeartbeats 4000000 in
theorem dropC_any (w:World) (hT:Tabs w) (h3:4≤w.heap.size) (hq:Quarter w) (jk:JK) (u:Nat) (M:MD) (U:MU) (h:UAt w jk u M U) (hd:U.dev < 8) (hv:validR U.m=true) (F:Blks) (kv:Value) (l:List RKey) (hl:Rows F w 1 kv l.length (l.map Go.Proofs.encStr)) (hln:l.length≤1000) (hkl:∀ k ∈ l,k.length≤1000) (hw:M.writes+200000 < 4611686018427387904):
 Calls Tryz.prog 61 #[.pointer (some ⟨u,0,none⟩),.int .u8 2,kv,.func (.func 58) #[] #[]] w (UPostC w jk u (dropU M U l)):=by
 replace hl:=hl.mono (G:=fun q=>q < w.heap.size) fun q _ hlt=>hlt
 obtain ⟨ak,ck,rfl,-⟩:=id hl
 obtain ⟨a1,p1,a2,p2,a3,p3,hb,hm⟩:=h.box
 have hk:=valid_keys hv
 have hlens:=valid_lens hv
 obtain ⟨m,hmm⟩:∃ m,U.m=m:=⟨_,rfl⟩
 obtain ⟨d,hdd⟩:∃ d,U.dev=d:=⟨_,rfl⟩
 obtain ⟨bd,hbd⟩:∃ b,U.J.dead=b:=⟨_,rfl⟩
 obtain ⟨n,hn⟩:∃ n,l.length=n:=⟨_,rfl⟩
 obtain ⟨RR,hRR⟩:∃ r,forgetR U.m U.dev l=r:=⟨_,rfl⟩
 have hD:=udead_any w jk u M U h
 rw [hmm,hdd] at hb hRR
 rw [hmm] at hm hk hlens
 rw [hbd] at hD
 obtain ⟨c0,c1,c2,c3,c4⟩:=cell5u hb
 have HD:=Lib.hid hD;have HU:=Lib.hid h;have Hd:=Lib.hid hd;have Hv:=Lib.hid hv;have Hl:=Lib.hid hl;have Hw:=Lib.hid hw;have Hkl:=Lib.hid hkl;have Hm:=Lib.hid hm;have Hk:=Lib.hid hk;have Hlens:=Lib.hid hlens
 have Hmm:=Lib.hid hmm;have Hdd:=Lib.hid hdd;have Hbd':=Lib.hid hbd;have HRR:=Lib.hid hRR;have Hn:=Lib.hid hn;have HT:=Lib.hid hT;have HQ:=Lib.hid hq
 rw [hn] at hln ⊢
 clear hD h hd hv hl hw hkl hm hk hlens hmm hdd hbd hRR hn hT hq hb c4
 go_enter Tryz.func61,Tryz.ntmps61
 go_wp2_with fail
 refine HD.out.mono ?_
 rintro e w1 ⟨rfl,rfl⟩
 clear HD
 cases bd with
 | true=>
   have Heq:=Lib.hid (show dropU M U l=(M,U,8) by unfold dropU changeU;rw [if_pos Hbd'.out])
   go_wp2_with fail
   go_ret
   rw [Heq.out]
   exact UPostC.same HU.out
 | false=>
   by_cases h0:n=0
   · have h0I:(n:Int)=0:=by omega
     have Heq:=Lib.hid (show dropU M U l=(M,U,0) by unfold dropU changeU;rw [if_neg (by rw [Hbd'.out];decide),if_pos (List.length_eq_zero_iff.1 (Hn.out.trans h0))])
     clear h0
     go_wp2_with fail
     go_ret
     rw [Heq.out]
     exact UPostC.same HU.out
   · have h0I:¬ (n:Int)=0:=by omega
     have Hne:=Lib.hid (show l≠[] from fun e=>h0 (by rw [←Hn.out,e];rfl))
     obtain ⟨x,er⟩:=RR
     have pz:∀ q x,w.cell? q=some x→∀ w',LaterT w.heap.size 37 w.drew w'→w'.cell? q=some x:=fun q x hc w' hh=>laterTC hc rfl hh
     have pc0:=pz _ _ c0
     have pc1:=pz _ _ c1
     have pc2:=pz _ _ c2
     have pc3:=pz _ _ c3
     clear h0 c0 c1 c2 c3 pz
     go_wp2_with fail
     skip
     refine wp_region_fl (LaterT w.heap.size 37) (FreshT w.heap.size 37 3) [14] ordC7 60 (by kernel_rfl) (by kernel_rfl) (laterT_refl _ _) (laterT_trans _ _) (floats_of #[.slice none 0 0,.slice none 0 0,.slice none 0 0] rfl (Nat.le_refl _) (fun j hj=>?_) (fun i j hi hj hne=>?_)) ?_
     · obtain rfl:j=14:=by simpa using hj
       exact ⟨_,rfl,rfl,fun a W=>by go_simp⟩
     · simp at hi hj
       omega
     unfold ordC7
     repeat (refine canF_yes (v:=?_) rfl (wanted_none rfl) (fun w' hC=>?_) (fun K hK=>?_);rotate_left;(focus (go_simp;(try simp (disch:=omega) only [IntWalk.i64_in]);(try simp (disch:=omega) only [IntWalk.u32_in]);(try simp (disch:=omega) only [IntWalk.u8_in]);(try simp (disch:=omega) only [IntWalk.i64_quo]);(try simp (disch:=omega) only [IntWalk.rem_in]);first | done | exact rfl));go_simp;(try simp (disch:=omega) only [IntWalk.i64_in]);(try simp (disch:=omega) only [IntWalk.u32_in]);(try simp (disch:=omega) only [IntWalk.u8_in]);(try simp (disch:=omega) only [IntWalk.i64_quo]);(try simp (disch:=omega) only [IntWalk.rem_in]);refine hK _ ?_;clear hK K)
     refine canF_go rfl rfl (fun Wa hWa KK hK=>?_)
     go_simp
     have hba:Below w.heap.size w Wa:=hWa.belD rfl
     have hU:=pforget_any Wa (tabs_below HT.out h3 hba) (Nat.le_trans h3 hba.size) _ (.agg #[.slice a1 m.seen.length p1,.slice a2 m.items.length p2,.slice a3 m.gone.length p3]) m ⟨_,_,_,rfl,Hm.out.keep (w':=Wa) fun q _ hlt=>hba.block q hlt⟩ Hk.out.1 Hk.out.2 (by have:=Hlens.out;omega) (by have:=Hlens.out;omega) (d:Int) _ (.slice ak l.length ck) l (Hl.out.keep (w':=Wa) fun q _ hlt=>hba.block q hlt) (by rw [Hn.out];omega) (fun k hk=>by have:=Hkl.out k hk;omega)
     rw [HRR.out,Hn.out] at hU
     have Hsz:=Lib.hid hba.size
     refine hU.mono ?_
     rintro e wq7 ⟨⟨r1,rfl,ho,hbd⟩,hb7⟩
     refine ⟨_,rfl,LaterT.of_later hb7,hK _ _ ?_⟩
     clear hK KK hU pc0 pc1 pc2 pc3
     go_simp
     obtain ⟨t1,t2,t3,rfl,ho⟩:=ho
     dsimp only at ho hbd
     obtain ⟨n1,m1,rfl⟩:=own_shape ho.seen
     obtain ⟨n2,m2,rfl⟩:=own_shape ho.items
     obtain ⟨n3,m3,rfl⟩:=own_shape ho.gone
     have hb07:Below w.heap.size w wq7:=hba.trans (hb7.mono hba.size)
     have Hb07:=Lib.hid hb07;have Ho:=Lib.hid ho;have Hbd:=Lib.hid hbd
     clear hb07 ho hbd hb7 hba hWa
     repeat (refine canF_yes (v:=?_) rfl (wanted_none rfl) (fun w' hC=>?_) (fun K hK=>?_);rotate_left;(focus (go_simp;(try simp (disch:=omega) only [IntWalk.i64_in]);(try simp (disch:=omega) only [IntWalk.u32_in]);(try simp (disch:=omega) only [IntWalk.u8_in]);(try simp (disch:=omega) only [IntWalk.i64_quo]);(try simp (disch:=omega) only [IntWalk.rem_in]);first | done | exact rfl));go_simp;(try simp (disch:=omega) only [IntWalk.i64_in]);(try simp (disch:=omega) only [IntWalk.u32_in]);(try simp (disch:=omega) only [IntWalk.u8_in]);(try simp (disch:=omega) only [IntWalk.i64_quo]);(try simp (disch:=omega) only [IntWalk.rem_in]);refine hK _ ?_;clear hK K)
     refine canF_float rfl (fun vO Wd hWd hZ hU KK hK=>?_)
     obtain ⟨Om,LO,rfl,hO1,hO2,hO3⟩:=hZ
     refine hK _ _ ?_
     clear hK KK hU
     go_simp
     obtain ⟨x0,x1,x2,rfl⟩:∃ x0 x1 x2,LO = [x0,x1,x2]:=by
      match LO,hO3 with
      | [x0,x1,x2],_=>exact ⟨x0,x1,x2,rfl⟩
     have hbd':Below w.heap.size w Wd:=Hb07.out.trans (hWd.below Hb07.out.size)
     obtain ⟨w6,hw8,hblk8,hb8⟩:=fin3 hO2 hbd' hO1 (.slice n1 x.seen.length m1) (.slice n2 x.items.length m2) (.slice n3 x.gone.length m3)
     have hl8:LaterT w.heap.size 37 Wd w6:=by
      rw [hw8]
      exact laterT_trans _ _ _ _ _ (laterT_trans _ _ _ _ _ (LaterT.set hO2 hO1 0 _) (LaterT.set (hO2.set 0 _) hO1 1 _)) (LaterT.set ((hO2.set 0 _).set 1 _) hO1 2 _)
     have ho8:OwnIn w6 w.heap.size (.slice n1 x.seen.length m1) (.slice n2 x.items.length m2) (.slice n3 x.gone.length m3) x:=
      ⟨own_base (hl8.own (hWd.own Ho.out.seen (by decide)) (by decide)) Hsz.out,own_base (hl8.own (hWd.own Ho.out.items (by decide)) (by decide)) Hsz.out,own_base (hl8.own (hWd.own Ho.out.gone (by decide)) (by decide)) Hsz.out⟩
     have HO1w6:=Lib.hid hO1;have HOw6:=Lib.hid ho8;have HBkw6:=Lib.hid hblk8;have HBdw6:=Lib.hid Hbd.out
     obtain ⟨y0,y1,y2⟩:=cell3 hO2
     have z0:=hO2.free 0
     have z1:=hO2.free 1
     have z2:=hO2.free 2
     have HBw6:=Lib.hid hb8;have Hl8:=Lib.hid hl8;have Hw8:=Lib.hid hw8
     clear hb8 hl8 hw8 hblk8 hbd' hWd hO2 hO3 Ho Hbd Hb07 ho8
     refine canF_fixed rfl rfl (fun KK hK=>?_)
     go_simp
     rw [←Hw8.out]
     refine ⟨Hl8.out,hK _ _ ?_⟩
     clear hK KK y0 y1 y2 z0 z1 z2 Hl8 Hw8 hO1
     go_simp
     repeat (refine canF_yes (v:=?_) rfl (wanted_none rfl) (fun w' hC=>?_) (fun K hK=>?_);rotate_left;(focus (go_simp;(try simp (disch:=omega) only [IntWalk.i64_in]);(try simp (disch:=omega) only [IntWalk.u32_in]);(try simp (disch:=omega) only [IntWalk.u8_in]);(try simp (disch:=omega) only [IntWalk.i64_quo]);(try simp (disch:=omega) only [IntWalk.rem_in]);first | done | exact rfl));go_simp;(try simp (disch:=omega) only [IntWalk.i64_in]);(try simp (disch:=omega) only [IntWalk.u32_in]);(try simp (disch:=omega) only [IntWalk.u8_in]);(try simp (disch:=omega) only [IntWalk.i64_quo]);(try simp (disch:=omega) only [IntWalk.rem_in]);refine hK _ ?_;clear hK K)
     refine canF_nil ?_
     by_cases he:er=0
     · subst he
       have HU6:=Lib.hid (HU.out.keep HBw6.out)
       have HX6:=Lib.hid (HOw6.out.nj HBdw6.out)
       have Heq:=Lib.hid (show dropU M U l=writeU M U (forgetB l) x by unfold dropU changeU;rw [if_neg (by rw [Hbd'.out];decide),if_neg Hne.out,Hmm.out,Hdd.out,HRR.out];rfl)
       obtain ⟨w7,hw7⟩:∃ q,q=w6.drew:=⟨_,rfl⟩
       have hb7:Below w6.heap.size w6 w7:=by rw [hw7];exact (Below.refl w6.heap.size w6).drew
       have hB7:Below w.heap.size w w7:=HBw6.out.trans (hb7.mono HBw6.out.size)
       obtain ⟨o0,o1,o2⟩:=cell3 (HBkw6.out.keep (hb7.block _ HBkw6.out.lt))
       have pz:∀ q x,w7.cell? q=some x→∀ w',Later w7 w'→w'.cell? q=some x:=fun q x hc w' hh=>(hh.cell (p:=q) (cellLt hc)).trans hc
       have po0:=pz _ _ o0
       have po1:=pz _ _ o1
       have po2:=pz _ _ o2
       have hP:=putList_any w7 _ (.slice ak l.length ck) l (Hl.out.keep (w':=w7) fun q hq _=>hB7.block q hq) (by rw [Hn.out];omega) (fun k hk=>by have:=Hkl.out k hk;omega)
       rw [Hn.out] at hP
       have HP:=Lib.hid hP;have Hw7:=Lib.hid hw7;have HB7:=Lib.hid hB7;have HX7:=Lib.hid (HX6.out.njBelow hb7)
       have HLB:=Lib.hid (show (listB l).length≤2000000 by have:=listB_le l Hkl.out;rw [Hn.out] at this;omega)
       clear hP hw7 hb7 hB7 o0 o1 o2 pz
       go_wp2_with fail
       refine wp_region_canL Later 7 [(0,true),(1,true),(2,true),(6,true),(3,false),(4,false),(5,false),(7,false),(8,true)] (by kernel_rfl) (by kernel_rfl) (by kernel_rfl) later_refl later_trans ?_
       rw [←Hw7.out]
       repeat (refine canL_yes (v:=?_) rfl (wanted_none rfl) (fun w' hC=>?_) (fun K hK=>?_);rotate_left;(focus (go_simp;first | done | exact rfl));go_simp;refine hK _ ?_;clear hK K)
       clear po0 po1 po2
       refine canL_go rfl rfl (fun KK hK=>?_)
       go_simp
       refine HP.out.mono ?_
       rintro e w8 ⟨⟨r8,rfl,ho8⟩,hb8⟩
       refine ⟨_,rfl,hb8,hK _ _ ?_⟩
       clear hK KK HP
       go_simp
       have h8:Bytes (fun _=>True) w8 r8 (listB l):=Bytes.of_owns ho8 _ fun _ _ _=>trivial
       obtain ⟨a8,c8,rfl⟩:=own_shape ho8
       have hr9:=rowsAt_one h8.insideU (fun b hb=>hb)
       obtain ⟨w9,hw9⟩:∃ w9,w9=w8.alloc (.cells #[.slice a8 (listB l).length c8] 41):=⟨_,rfl⟩
       rw [←hw9] at hr9
       have hb9:Below w7.heap.size w7 w9:=by rw [hw9];exact hb8.alloc hb8.size _
       have hR:=record_any w9 _ 2 _ _ hr9 (by rw [catB_one];have:=HLB.out;omega) (by simp)
       rw [catB_one] at hR
       have HR:=Lib.hid (show Calls Tryz.prog 81 #[.int .u8 2,.slice (some ⟨w8.heap.size,0,none⟩) 1 1] w9 _ from hR);have Hw9:=Lib.hid hw9;have Hb9:=Lib.hid hb9;have Hb89:=Lib.hid (show Below w8.heap.size w8 w9 by rw [hw9];exact kept_alloc _ _)
       obtain ⟨nb,hnb⟩:∃ nb,(listB l).length=nb:=⟨_,rfl⟩
       rw [hnb] at Hw9 ⊢
       clear hR hr9 hw9 hb9 h8 ho8 hb8 hnb
       refine canL_go rfl rfl (fun KK hK=>?_)
       go_simp
       rw [←Hw9.out]
       refine ⟨Hb89.out,hK _ _ ?_⟩
       clear hK KK
       go_simp
       refine canL_go rfl rfl (fun KK hK=>?_)
       go_simp
       refine HR.out.mono ?_
       rintro e w10 ⟨⟨r10,rfl,ho10⟩,hb10⟩
       refine ⟨_,rfl,hb10,hK _ _ ?_⟩
       clear hK KK HR
       go_simp
       have hb7a:Below w7.heap.size w7 w10:=Hb9.out.trans (hb10.mono Hb9.out.size)
       have hBA:Below w.heap.size w w10:=HB7.out.trans (hb7a.mono HB7.out.size)
       have hjl:=HU.out.jat.lt
       have h9w:w.heap.size≤w9.heap.size:=Nat.le_trans HB7.out.size Hb9.out.size
       have hB10:Bytes (fun q=>w9.heap.size≤q∧q < w10.heap.size) w10 r10 (forgetB l):=Bytes.of_owns ho10 _ fun q h1 h2=>⟨h1,h2⟩
       have hW:=write_any w10 (tabs_below HT.out h3 hBA) (Nat.le_trans h3 hBA.size) (HQ.out.keep (hBA.block 0 (by omega))) jk u M U (HU.out.keep hBA) Hd.out Hv.out _ r10 (forgetB l) hB10 (fun q hq=>⟨hq.2,fun ha=>by have:=hjl q ha;omega⟩) (.agg #[.slice n1 x.seen.length m1,.slice n2 x.items.length m2,.slice n3 x.gone.length m3]) x ⟨_,_,_,rfl,HX7.out.njBelow hb7a⟩ Hw.out (by show (listB l).length+1≤_;have:=HLB.out;omega)
       have HW:=Lib.hid hW;have HBA:=Lib.hid hBA
       obtain ⟨a10,c10,rfl⟩:=own_shape ho10
       clear hW hBA hb7a hjl h9w hB10 ho10 hb10
       repeat (refine canL_yes (v:=?_) rfl (wanted_none rfl) (fun w' hC=>?_) (fun K hK=>?_);rotate_left;(focus (go_simp;first | done | exact rfl));go_simp;refine hK _ ?_;clear hK K)
       refine canL_last rfl rfl rfl (fun KK hK=>?_)
       go_simp
       refine HW.out.mono ?_
       rintro e w11 ⟨rfl,hrest⟩
       refine ⟨_,rfl,hK _ _ ?_⟩
       clear hK KK HW
       go_simp
       repeat (refine canL_yes (v:=?_) rfl (wanted_none rfl) (fun w' hC=>?_) (fun K hK=>?_);rotate_left;(focus (go_simp;first | done | exact rfl));go_simp;refine hK _ ?_;clear hK K)
       refine canL_nil ?_
       have Hrest:=Lib.hid hrest
       clear hrest
       go_wp2_with fail
       go_ret
       rw [Heq.out]
       exact UPostC.after HBA.out ⟨rfl,Hrest.out⟩
     · have heI:¬ er=0:=he
       have Heq:=Lib.hid (show dropU M U l=(M,U,er) by unfold dropU changeU;rw [if_neg (by rw [Hbd'.out];decide),if_neg Hne.out,Hmm.out,Hdd.out,HRR.out];exact if_neg he)
       clear he
       go_wp2_with fail
       go_ret
       rw [Heq.out]
       exact UPostC.kept HU.out HBw6.out
theorem learn_any (w:World) (hT:Tabs w) (h3:4≤w.heap.size) (hq:Quarter w) (jk:JK) (u:Nat) (M:MD) (U:MU) (h:UAt w jk u M U) (hd:U.dev < 8) (hv:validR U.m=true) (F:Blks) (kv:Value) (l:List RKey) (hl:Rows F w 1 kv l.length (l.map Go.Proofs.encStr)) (hln:l.length≤1000) (hkl:∀ k ∈ l,k.length≤1000) (hw:M.writes+200000 < 4611686018427387904):
 Calls Tryz.prog 23 #[.pointer (some ⟨u,0,none⟩),kv] w (UPostC w jk u (learnU M U l)):=by
 have HC:=Lib.hid (learnC_any w hT h3 hq jk u M U h hd hv F kv l hl hln hkl hw)
 obtain ⟨ak,ck,rfl,-⟩:=id hl
 obtain ⟨n,hn⟩:∃ n,l.length=n:=⟨_,rfl⟩
 rw [hn] at HC ⊢
 clear hl hln hkl hw h hd hv hq hT hn
 go_enter Tryz.func23,Tryz.ntmps23
 go_wp2_with fail
 refine HC.out.mono ?_
 rintro e w1 ⟨rfl,hrest⟩
 have Hrest:=Lib.hid hrest
 clear HC hrest
 go_wp2_with fail
 go_ret
 exact ⟨rfl,Hrest.out⟩
theorem learn_any_nil (w:World) (kv:Value) (hkv:∃ a n c,kv=.slice a n c):
 Calls Tryz.prog 23 #[.pointer none,kv] w fun e w'=>e=.returned (.int .i64 9)∧Below w.heap.size w w':=by
 obtain ⟨a,n,c,rfl⟩:=hkv
 have HC:Calls Tryz.prog 61 #[.pointer none,.int .u8 1,.slice a n c,.func (.func 57) #[] #[]] w fun e w'=>e=.returned (.int .i64 9)∧w=w':=by
  go_enter Tryz.func61,Tryz.ntmps61
  go_wp2_with fail
  go_ret
  exact ⟨rfl,rfl⟩
 have HC:=Lib.hid HC
 go_enter Tryz.func23,Tryz.ntmps23
 go_wp2_with fail
 refine HC.out.mono ?_
 rintro e w1 ⟨rfl,rfl⟩
 clear HC
 go_wp2_with fail
 go_ret
 exact ⟨rfl,Below.refl _ _⟩
theorem drop_any (w:World) (hT:Tabs w) (h3:4≤w.heap.size) (hq:Quarter w) (jk:JK) (u:Nat) (M:MD) (U:MU) (h:UAt w jk u M U) (hd:U.dev < 8) (hv:validR U.m=true) (F:Blks) (kv:Value) (l:List RKey) (hl:Rows F w 1 kv l.length (l.map Go.Proofs.encStr)) (hln:l.length≤1000) (hkl:∀ k ∈ l,k.length≤1000) (hw:M.writes+200000 < 4611686018427387904):
 Calls Tryz.prog 40 #[.pointer (some ⟨u,0,none⟩),kv] w (UPostC w jk u (dropU M U l)):=by
 have HC:=Lib.hid (dropC_any w hT h3 hq jk u M U h hd hv F kv l hl hln hkl hw)
 obtain ⟨ak,ck,rfl,-⟩:=id hl
 obtain ⟨n,hn⟩:∃ n,l.length=n:=⟨_,rfl⟩
 rw [hn] at HC ⊢
 clear hl hln hkl hw h hd hv hq hT hn
 go_enter Tryz.func40,Tryz.ntmps40
 go_wp2_with fail
 refine HC.out.mono ?_
 rintro e w1 ⟨rfl,hrest⟩
 have Hrest:=Lib.hid hrest
 clear HC hrest
 go_wp2_with fail
 go_ret
 exact ⟨rfl,Hrest.out⟩
theorem drop_any_nil (w:World) (kv:Value) (hkv:∃ a n c,kv=.slice a n c):
 Calls Tryz.prog 40 #[.pointer none,kv] w fun e w'=>e=.returned (.int .i64 9)∧Below w.heap.size w w':=by
 obtain ⟨a,n,c,rfl⟩:=hkv
 have HC:Calls Tryz.prog 61 #[.pointer none,.int .u8 2,.slice a n c,.func (.func 58) #[] #[]] w fun e w'=>e=.returned (.int .i64 9)∧w=w':=by
  go_enter Tryz.func61,Tryz.ntmps61
  go_wp2_with fail
  go_ret
  exact ⟨rfl,rfl⟩
 have HC:=Lib.hid HC
 go_enter Tryz.func40,Tryz.ntmps40
 go_wp2_with fail
 refine HC.out.mono ?_
 rintro e w1 ⟨rfl,rfl⟩
 clear HC
 go_wp2_with fail
 go_ret
 exact ⟨rfl,Below.refl _ _⟩
theorem device_any (w:World) (jk:JK) (u:Nat) (M:MD) (U:MU) (h:UAt w jk u M U):
 Calls Tryz.prog 17 #[.pointer (some ⟨u,0,none⟩)] w fun e w'=>e=.returned (.int .i64 (U.dev:Int))∧w=w':=by
 obtain ⟨a1,p1,a2,p2,a3,p3,hb,hm⟩:=h.box
 obtain ⟨c0,-,-,-,-⟩:=cell5u hb
 obtain ⟨d,hd⟩:∃ d,U.dev=d:=⟨_,rfl⟩
 rw [hd] at c0 ⊢
 clear hb hm hd h
 go_enter Tryz.func17,Tryz.ntmps17
 go_wp2_with fail
 go_ret
 exact ⟨rfl,rfl⟩
theorem device_nil (w:World):Calls Tryz.prog 17 #[.pointer none] w fun e w'=>e=.returned (.int .i64 0)∧w=w':=by
 go_enter Tryz.func17,Tryz.ntmps17
 go_wp2_with fail
 go_ret
 exact ⟨rfl,rfl⟩
theorem udead_nil (w:World):Calls Tryz.prog 22 #[.pointer none] w fun e w'=>e=.returned (.bool false)∧w=w':=by
 go_enter Tryz.func22,Tryz.ntmps22
 go_wp2_with fail
 go_ret
 exact ⟨rfl,rfl⟩
theorem ucheck_nil (w:World):Calls Tryz.prog 41 #[.pointer none] w fun e w'=>e=.returned (.int .i64 9)∧w=w':=by
 go_enter Tryz.func41,Tryz.ntmps41
 go_wp2_with fail
 go_ret
 exact ⟨rfl,rfl⟩
end Go.Proofs.YtobjdpngnfbicaaGreatDoor
