/-
  UEach UKinds JInv
-/
import Derived.Test.YtobjdpngnfbicaaGreatDoorZK34
import Derived.Test.YtobjdpngnfbicaaGreatDoorChecked
import Derived.Test.YtobjdpngnfbicaaGreatDoorZK03
import Derived.MapKept
import Derived.Test.YtobjdpngnfbicaaGreatDoorZK25
import Derived.Test.YtobjdpngnfbicaaGreatDoorZK23
open Go.Lib renaming hid->ae
open Go.IntWalk renaming i64_in->af,i64_quo->ah,u32_in->aj,rem_in->am,u8_in->ap
open Nat renaming le_refl->aq,le_trans->au
open List renaming append_assoc->az,getElem_mem->aA
open Go.Proofs.Tryz renaming prog->aC
namespace Go.Proofs.YtobjdpngnfbicaaGreatDoor
open Go.RowKit
set_option linter.unusedVariables false
set_option maxRecDepth 20000
section
open Go.Lib
attribute [local go_sem] opC upC
theorem dB.bool {w:World} {jk:JK} {u:Nat} {M:MD} {U:MU} {o:Option RMap} {e:Ending} {w':World} (h:dB w jk u M U o e w'):e=.returned (.bool o.isSome):=by
 cases o with
 | none=>exact h.1
 | some x=>exact h.1
theorem rU (w:World) (hT:cL w) (h3:4 <= w.heap.size) (jk:JK) (u:Nat) (M:MD) (U:MU) (h:UAt w jk u M U) (hd:U.dev < 8) (hv:validR U.m=true) (F:aV) (av:Option Addr) (cap:Nat) (b:List UInt8) (hB:Bytes F w (.slice av b.length cap) b) (hF:∀ q,F q -> q < w.heap.size) (hl:b.length <= 400000):
 Calls aC 51 #[.pointer (some ⟨u,0,none⟩),.slice av b.length cap] w (dB w jk u M U (cQ U.dev U.m (1 :: b))):=by
 have heq:cQ U.dev U.m (1 :: b)=(match rdL b with | some (l,[])=>okR (useR U.m U.dev l) | _=>none):=by
  unfold cQ;dsimp only;rw[if_neg (by decide),if_pos rfl];rfl
 have HC:=ae (show Calls aC 101 #[.pointer (some ⟨u,0,none⟩),.slice av b.length cap,.func (.func 57) #[] #[]] w (dB w jk u M U (cQ U.dev U.m (1 :: b))) from by rw[heq];exact nW w hT h3 jk u M U h hd hv F av cap b hB hF hl)
 obtain⟨o,ho⟩:∃ o,cQ U.dev U.m (1 :: b)=o:=⟨_,rfl⟩
 rw[ho] at HC ⊢;clear heq ho hB hF hl h hd hv hT
 go_enter Tryz.func51,Tryz.ntmps51
 go_wp2_with fail;refine HC.out.mono ?_;rintro e w1 hp
 obtain⟨r,rfl⟩:∃ r,e=.returned (.bool r):=⟨_,hp.bool⟩
 have Hp:=ae hp;clear HC hp;go_wp2_with fail;exact bodyPost_ret (v:=.bool r) (by simp[results,Tryz.results51,go_sem]) rfl Hp.out
theorem nX (w:World) (hT:cL w) (h3:4 <= w.heap.size) (jk:JK) (u:Nat) (M:MD) (U:MU) (h:UAt w jk u M U) (hd:U.dev < 8) (hv:validR U.m=true) (F:aV) (av:Option Addr) (cap:Nat) (b:List UInt8) (hB:Bytes F w (.slice av b.length cap) b) (hF:∀ q,F q -> q < w.heap.size) (hl:b.length <= 400000):
 Calls aC 52 #[.pointer (some ⟨u,0,none⟩),.slice av b.length cap] w (dB w jk u M U (cQ U.dev U.m (2 :: b))):=by
 have heq:cQ U.dev U.m (2 :: b)=(match rdL b with | some (l,[])=>okR (forgetR U.m U.dev l) | _=>none):=by
  unfold cQ;dsimp only;rw[if_neg (by decide),if_neg (by decide),if_pos rfl];rfl
 have HC:=ae (show Calls aC 101 #[.pointer (some ⟨u,0,none⟩),.slice av b.length cap,.func (.func 58) #[] #[]] w (dB w jk u M U (cQ U.dev U.m (2 :: b))) from by rw[heq];exact kE w hT h3 jk u M U h hd hv F av cap b hB hF hl)
 obtain⟨o,ho⟩:∃ o,cQ U.dev U.m (2 :: b)=o:=⟨_,rfl⟩
 rw[ho] at HC ⊢;clear heq ho hB hF hl h hd hv hT
 go_enter Tryz.func52,Tryz.ntmps52
 go_wp2_with fail;refine HC.out.mono ?_;rintro e w1 hp
 obtain⟨r,rfl⟩:∃ r,e=.returned (.bool r):=⟨_,hp.bool⟩
 have Hp:=ae hp;clear HC hp;go_wp2_with fail;exact bodyPost_ret (v:=.bool r) (by simp[results,Tryz.results52,go_sem]) rfl Hp.out
theorem kF {b:List UInt8} (h:(dR b).2=0):validR (dR b).1=true:=by
 unfold dR at h ⊢;split at h
 ·rename_i h1;rw[if_pos h1];exact h1.2
 ·exact absurd h (show ¬ (5:Int)=0 by decide)
set_option maxRecDepth 100000 in
set_option maxHeartbeats 4000000 in
theorem pu (w:World) (hT:cL w) (h3:4 <= w.heap.size) (jk:JK) (u:Nat) (M:MD) (U:MU) (h:UAt w jk u M U) (hv:validR U.m=true) (F:aV) (av:Option Addr) (cap:Nat) (b:List UInt8) (hB:Bytes F w (.slice av b.length cap) b) (hF:∀ q,F q -> q < w.heap.size) (hl:b.length <= 400000):
 Calls aC 53 #[.pointer (some ⟨u,0,none⟩),.slice av b.length cap] w (dB w jk u M U (cQ U.dev U.m (3 :: b))):=by
 have hDc:=ik w hT h3 F av cap b hB hF hl;unfold mc at hDc;have hdv:=kF (b:=b)
 obtain⟨R,hR⟩:∃ R,dR b=R:=⟨_,rfl⟩
 rw[hR] at hDc hdv;obtain⟨x2,ed⟩:=R;dsimp only at hDc hdv
 have hnext:cQ U.dev U.m (3 :: b)=if ed=0 then okR (mergeR U.m x2) else none:=by
  unfold cQ;dsimp only;rw[if_pos rfl,hR]
 rw[hnext]
 obtain⟨O,hO⟩:∃ O,(if ed=0 then okR (mergeR U.m x2) else none)=O:=⟨_,rfl⟩
 rw[hO];have HO:=ae hO;have HDc:=ae hDc;have HU:=ae h;have Hv:=ae hv;have HT:=ae hT;have Hdv:=ae hdv;clear hDc h hv hT hdv hB hF hR hnext hO
 go_enter Tryz.func53,Tryz.ntmps53
 go_wp2_with fail;refine HDc.out.mono ?_;rintro e w1 ⟨v,rfl,hv,hb1⟩;clear HDc;obtain⟨s1,s2,s3,rfl,hx⟩:=hv;obtain⟨g1,y1,rfl,-⟩:=hx.seen.shape;obtain⟨g2,y2,rfl,-⟩:=hx.items.shape;obtain⟨g3,y3,rfl,-⟩:=hx.gone.shape
 obtain⟨w2,hw2⟩:∃ w2,w2=w1.alloc (.cells #[.slice g1 x2.seen.length y1,.slice g2 x2.items.length y2,.slice g3 x2.gone.length y3] 37):=⟨_,rfl⟩
 have hb2:Below w1.heap.size w1 w2:=by rw[hw2];exact aE _ _
 have hO2:Blk w2 w1.heap.size [.slice g1 x2.seen.length y1,.slice g2 x2.items.length y2,.slice g3 x2.gone.length y3] 37:=by rw[hw2];exact Blk.new _ _ _
 have hx2:=((hx.mono (G:=fun q=>q < w1.heap.size) fun q _ hlt=>hlt).keep (w':=w2) fun q _ hlt=>hb2.block q hlt).mono (G:=fun q=>q < w2.heap.size) fun q _ hlt=>hlt
 have hB2:Below w.heap.size w w2:=hb1.trans (hb2.mono hb1.size);have HX2:=ae hx2;have HO2:=ae hO2;have Hw2:=ae hw2;have HB2:=ae hB2;clear hx hb2 hO2 hx2 hB2 hw2 hb1
 by_cases h0:ed=0
 ·have hxv:=Hdv.out h0;subst h0;have HkX:=ae (b9 hxv);have hU1:=HU.out.keep HB2.out;have hk:=b9 Hv.out;obtain⟨a1,p1,a2,p2,a3,p3,hbx,hm⟩:=hU1.box
  obtain⟨m,hmm⟩:∃ m,U.m=m:=⟨_,rfl⟩
  obtain⟨RR,hRR⟩:∃ r,mergeR U.m x2=r:=⟨_,rfl⟩
  have Hgoal:=ae (show O=okR RR by rw[<- hRR,<- HO.out];rfl);rw[hmm] at hbx hRR hm hk;obtain⟨c0,c1,c2,c3,c4⟩:=cO hbx;obtain⟨d0,d1,d2⟩:=cell3 HO2.out;have Hm:=ae hm;have Hk:=ae hk;have HRR:=ae hRR;have HU1:=ae hU1;clear hm hk hRR hU1 hbx c0 c4 hmm hxv Hdv;obtain⟨x,er⟩:=RR;have pz:∀ q x,w2.cell? q=some x -> ∀ w',bC w2.heap.size 37 w2.drew w' -> w'.cell? q=some x:=fun q x hc w' hh=>gY hc rfl hh
  have pc1:=pz _ _ c1;have pc2:=pz _ _ c2;have pc3:=pz _ _ c3;have pd0:=pz _ _ d0;have pd1:=pz _ _ d1;have pd2:=pz _ _ d2;clear c1 c2 c3 d0 d1 d2 pz;go_wp2_with fail;rw[<- Hw2.out];refine dX (bC w2.heap.size 37) (iu w2.heap.size 37 3) [9] pY 60 (by kernel_rfl) (by kernel_rfl) (ew _ _) (bP _ _) (fB #[.slice none 0 0,.slice none 0 0,.slice none 0 0] rfl (aq _) (fun j hj=>?_) (fun i j hi hj hne=>?_)) ?_
  ·obtain rfl:j=9:=by simpa using hj
   exact⟨_,rfl,rfl,fun a W=>by go_simp⟩
  ·simp at hi hj;omega
  unfold pY
  repeat (refine cF (v:=?_) rfl (aD rfl) (fun w' hC=>?_) (fun K hK=>?_);rotate_left;(focus (go_simp;(try simp(disch:=omega) only[af]);(try simp(disch:=omega) only[aj]);(try simp(disch:=omega) only[ap]);(try simp(disch:=omega) only[ah]);(try simp(disch:=omega) only[am]);first | done | exact rfl));go_simp;(try simp(disch:=omega) only[af]);(try simp(disch:=omega) only[aj]);(try simp(disch:=omega) only[ap]);(try simp(disch:=omega) only[ah]);(try simp(disch:=omega) only[am]);refine hK _ ?_;clear hK K)
  refine gX rfl rfl (fun Wa hWa KK hK=>?_);go_simp;have hba:Below w2.heap.size w2 Wa:=hWa.belD rfl;have hwa:Below w.heap.size w Wa:=HB2.out.trans (hba.mono HB2.out.size);have hU:=pn Wa (bi HT.out h3 hwa) (au h3 hwa.size) _ _ (.agg #[.slice a1 m.seen.length p1,.slice a2 m.items.length p2,.slice a3 m.gone.length p3]) (.agg #[.slice g1 x2.seen.length y1,.slice g2 x2.items.length y2,.slice g3 x2.gone.length y3]) m x2 ⟨_,_,_,rfl,Hm.out.keep (w':=Wa) fun q _ hlt=>hba.block q hlt⟩ ⟨_,_,_,rfl,HX2.out.keep (w':=Wa) fun q _ hlt=>hba.block q hlt⟩ Hk.out.1 Hk.out.2 HkX.out.1 HkX.out.2;rw[HRR.out] at hU;have Hsz:=ae hba.size;refine hU.mono ?_;rintro e wq7 ⟨⟨r1,rfl,ho,hbd⟩,hb7⟩;refine⟨_,rfl,bC.of_later hb7,hK _ _ ?_⟩;clear hK KK hU pc1 pc2 pc3 pd0 pd1 pd2;go_simp;obtain⟨t1,t2,t3,rfl,ho⟩:=ho;dsimp only at ho hbd;obtain⟨n1,m1,rfl⟩:=own_shape ho.seen;obtain⟨n2,m2,rfl⟩:=own_shape ho.items;obtain⟨n3,m3,rfl⟩:=own_shape ho.gone;have hb07:Below w2.heap.size w2 wq7:=hba.trans (hb7.mono hba.size);have Hb07:=ae hb07;have Ho:=ae ho;have Hbd:=ae hbd;clear hb07 ho hbd hb7 hba hWa hwa
  repeat (refine cF (v:=?_) rfl (aD rfl) (fun w' hC=>?_) (fun K hK=>?_);rotate_left;(focus (go_simp;(try simp(disch:=omega) only[af]);(try simp(disch:=omega) only[aj]);(try simp(disch:=omega) only[ap]);(try simp(disch:=omega) only[ah]);(try simp(disch:=omega) only[am]);first | done | exact rfl));go_simp;(try simp(disch:=omega) only[af]);(try simp(disch:=omega) only[aj]);(try simp(disch:=omega) only[ap]);(try simp(disch:=omega) only[ah]);(try simp(disch:=omega) only[am]);refine hK _ ?_;clear hK K)
  refine eT rfl (fun vO Wd hWd hZ hU KK hK=>?_);obtain⟨Om,LO,rfl,hO1,hO2,hO3⟩:=hZ;refine hK _ _ ?_;clear hK KK hU;go_simp
  obtain⟨x0,x1,x2,rfl⟩:∃ x0 x1 x2,LO = [x0,x1,x2]:=by
   match LO,hO3 with
   | [x0,x1,x2],_=>exact⟨x0,x1,x2,rfl⟩
  have hbd':Below w2.heap.size w2 Wd:=Hb07.out.trans (hWd.below Hb07.out.size);obtain⟨w6,hw8,hblk8,hb8⟩:=fin3 hO2 hbd' hO1 (.slice n1 x.seen.length m1) (.slice n2 x.items.length m2) (.slice n3 x.gone.length m3)
  have hl8:bC w2.heap.size 37 Wd w6:=by
   rw[hw8];exact bP _ _ _ _ _ (bP _ _ _ _ _ (bC.set hO2 hO1 0 _) (bC.set (hO2.set 0 _) hO1 1 _)) (bC.set ((hO2.set 0 _).set 1 _) hO1 2 _)
  have ho8:cD w6 w2.heap.size (.slice n1 x.seen.length m1) (.slice n2 x.items.length m2) (.slice n3 x.gone.length m3) x:=
   ⟨own_base (hl8.own (hWd.own Ho.out.seen (by decide)) (by decide)) Hsz.out,own_base (hl8.own (hWd.own Ho.out.items (by decide)) (by decide)) Hsz.out,own_base (hl8.own (hWd.own Ho.out.gone (by decide)) (by decide)) Hsz.out⟩
  have HO1w6:=ae hO1;have HOw6:=ae ho8;have HBkw6:=ae hblk8;have HBdw6:=ae Hbd.out;obtain⟨y0,y1,y2⟩:=cell3 hO2;have z0:=hO2.free 0;have z1:=hO2.free 1;have z2:=hO2.free 2;have HBw6:=ae hb8;have Hl8:=ae hl8;have Hw8:=ae hw8;clear hb8 hl8 hw8 hblk8 hbd' hWd hO2 hO3 Ho Hbd Hb07 ho8;refine eU rfl rfl (fun KK hK=>?_);go_simp;rw[<- Hw8.out];refine⟨Hl8.out,hK _ _ ?_⟩;clear hK KK y0 y1 y2 z0 z1 z2 Hl8 Hw8 hO1;go_simp
  repeat (refine cF (v:=?_) rfl (aD rfl) (fun w' hC=>?_) (fun K hK=>?_);rotate_left;(focus (go_simp;(try simp(disch:=omega) only[af]);(try simp(disch:=omega) only[aj]);(try simp(disch:=omega) only[ap]);(try simp(disch:=omega) only[ah]);(try simp(disch:=omega) only[am]);first | done | exact rfl));go_simp;(try simp(disch:=omega) only[af]);(try simp(disch:=omega) only[aj]);(try simp(disch:=omega) only[ap]);(try simp(disch:=omega) only[ah]);(try simp(disch:=omega) only[am]);refine hK _ ?_;clear hK K)
  refine gr ?_;have HU6:=ae (HU1.out.keep HBw6.out);have HX6:=ae (HOw6.out.nj HBdw6.out);have HB6:=ae (show Below w.heap.size w w6 from HB2.out.trans (HBw6.out.mono HB2.out.size));obtain⟨b1,q1,b2,q2,b3,q3,hbU,-⟩:=HU6.out.box;obtain⟨-,z1,z2,z3,-⟩:=cO hbU;have f1:=hbU.free 1;have f2:=hbU.free 2;have f3:=hbU.free 3;obtain⟨o0,o1,o2⟩:=cell3 HBkw6.out
  obtain⟨w7,hw7⟩:∃ w7,w7=((w6.setCell ⟨u,1,none⟩ (.slice n1 x.seen.length m1)).setCell ⟨u,2,none⟩ (.slice n2 x.items.length m2)).setCell ⟨u,3,none⟩ (.slice n3 x.gone.length m3):=⟨_,rfl⟩
  have h7:=HU6.out.setM HX6.out hw7
  have Hfin:=ae (show dB w jk u M U (okR (x,er)) (.returned (.bool (er == 0))) w7 from by
   have hon:aK (fun q=>q=u) w w7:=(aK.of_below (F:=fun q=>q=u) HB6.out).trans h7.2 fun _ hi=>.inl hi
   by_cases h0:er=0
   ·rw[show okR (x,er)=some x from if_pos h0,h0];exact⟨rfl,h7.1,hon⟩
   ·rw[show okR (x,er)=none from if_neg h0]
    exact⟨by rw[beq_eq_false_iff_ne.2 h0],hon⟩)
  have Hw7:=ae hw7;clear hw7 h7 hbU;go_wp2_with fail;rw[Hgoal.out];rw[<- Hw7.out];exact bodyPost_ret (v:=.bool (er == 0)) (by simp[results,Tryz.results53,go_sem]) rfl Hfin.out
 ·have h0I:¬ ed=0:=h0;have Hgoal:=ae (show O=none by rw[<- HO.out];exact if_neg h0);clear h0 HO;go_wp2_with fail;rw[<- Hw2.out,Hgoal.out];exact bodyPost_ret (v:=.bool false) (by simp[results,Tryz.results53,go_sem]) rfl ⟨rfl,aK.of_below HB2.out⟩
end
section
open Go.MapKept
theorem kG:aC.underlying 103=some (.map 5 40):=by kernel_rfl
theorem gt:aC.underlying 5=some (.int .u8):=by kernel_rfl
theorem rV (k:Int):IsKey (.int .u8) (.int .u8 k):=by simp[IsKey]
theorem tr (w:World):(Instr.makeMap 103 none).run aC w=.ok (.map (some w.heap.size)) (w.alloc (.map #[] 0)):=by
 simp[Instr.makeMap,Result.andThen]
theorem rW {w:World} {r:Nat} {es:Array MapEntry} {clock:Nat} (hb:w.heap[r]?=some (.map es clock)) (k:Int) (f:Value) (h:Instr.findNow (.int .u8) (.int .u8 k) es.toList 0=some none):
 (Instr.mapUpdate 103 (.map (some r)) (.int .u8 k) f).run aC w=.ok () { w with heap:=w.heap.setIfInBounds r (.map (es.push ⟨.int .u8 k,f,clock⟩) (clock+1)) }:=by
 simp[Instr.mapUpdate,run_underlying kG,MapKept.run_getObj_map hb,run_checkKey gt (rV k),run_findKey gt h,run_setObj_map _ hb,Result.andThen]
def jd (f1 f2 f3:Value):Obj:=.map #[⟨.int .u8 1,f1,0⟩,⟨.int .u8 2,f2,1⟩,⟨.int .u8 3,f3,2⟩] 3
theorem qH (w:World) (f1 f2 f3:Value):∃ w1 w2 w3,(Instr.mapUpdate 103 (.map (some w.heap.size)) (.int .u8 1) f1).run aC (w.alloc (.map #[] 0))=.ok () w1 /\
 (Instr.mapUpdate 103 (.map (some w.heap.size)) (.int .u8 2) f2).run aC w1=.ok () w2 /\
 (Instr.mapUpdate 103 (.map (some w.heap.size)) (.int .u8 3) f3).run aC w2=.ok () w3 /\ Below w.heap.size w w3 /\ w3.heap[w.heap.size]?=some (jd f1 f2 f3):=by
 have h0:(w.alloc (.map #[] 0)).heap[w.heap.size]?=some (.map #[] 0):=(heap_alloc w _).1;have e1:=rW h0 1 f1 rfl
 have h1:=(heap_set (o':=.map ((#[]:Array MapEntry).push ⟨.int .u8 1,f1,0⟩) (0+1)) h0)
 obtain⟨w1,hw1⟩:∃ w1,w1 = { w.alloc (.map #[] 0) with heap:=(w.alloc (.map #[] 0)).heap.setIfInBounds w.heap.size (.map ((#[]:Array MapEntry).push ⟨.int .u8 1,f1,0⟩) (0+1)) }:=⟨_,rfl⟩
 have h1':w1.heap[w.heap.size]?=some (.map #[⟨.int .u8 1,f1,0⟩] 1):=by rw[hw1];exact h1.1
 rw[<- hw1] at e1;have e2:=rW h1' 2 f2 rfl
 have h2:=(heap_set (o':=.map ((#[⟨.int .u8 1,f1,0⟩]:Array MapEntry).push ⟨.int .u8 2,f2,1⟩) (1+1)) h1')
 obtain⟨w2,hw2⟩:∃ w2,w2 = { w1 with heap:=w1.heap.setIfInBounds w.heap.size (.map ((#[⟨.int .u8 1,f1,0⟩]:Array MapEntry).push ⟨.int .u8 2,f2,1⟩) (1+1)) }:=⟨_,rfl⟩
 have h2':w2.heap[w.heap.size]?=some (.map #[⟨.int .u8 1,f1,0⟩,⟨.int .u8 2,f2,1⟩] 2):=by rw[hw2];exact h2.1
 rw[<- hw2] at e2;have e3:=rW h2' 3 f3 rfl
 have h3:=(heap_set (o':=.map ((#[⟨.int .u8 1,f1,0⟩,⟨.int .u8 2,f2,1⟩]:Array MapEntry).push ⟨.int .u8 3,f3,2⟩) (2+1)) h2')
 refine⟨w1,w2,_,e1,e2,e3,?_,h3.1⟩;refine⟨by rw[hw2,hw1];rfl,by rw[hw2,hw1];rfl,by rw[hw2,hw1];rfl,?_,fun i hi=>?_⟩
 ·rw[hw2,hw1];simp
 ·show (w2.heap.setIfInBounds w.heap.size _)[i]?=_;rw[h3.2 i (by omega),hw2];show (w1.heap.setIfInBounds w.heap.size _)[i]?=_;rw[h2.2 i (by omega),hw1];show ((w.alloc (.map #[] 0)).heap.setIfInBounds w.heap.size _)[i]?=_;rw[h1.2 i (by omega)];exact(heap_alloc w _).2 i hi
theorem mE {w:World} {r:Nat} {es:Array MapEntry} {clock:Nat} (hb:w.heap[r]?=some (.map es clock)) (k:Int) (i:Nat) (f:Value) (h:Instr.findNow (.int .u8) (.int .u8 k) es.toList 0=some (some (i,f))):
 (Instr.lookup 103 (.map (some r)) (.int .u8 k) true).run aC w=.ok (.tuple #[f,.bool true]) w:=by
 simp[Instr.lookup,run_underlying kG,MapKept.run_getObj_map hb,run_checkKey gt (rV k),run_findKey gt h,Result.andThen]
theorem tt {w:World} {r:Nat} {f1 f2 f3:Value} (hb:w.heap[r]?=some (jd f1 f2 f3)):(Instr.lookup 103 (.map (some r)) (.int .u8 1) true).run aC w=.ok (.tuple #[f1,.bool true]) w:=mE hb 1 0 f1 rfl
theorem tu {w:World} {r:Nat} {f1 f2 f3:Value} (hb:w.heap[r]?=some (jd f1 f2 f3)):(Instr.lookup 103 (.map (some r)) (.int .u8 2) true).run aC w=.ok (.tuple #[f2,.bool true]) w:=mE hb 2 1 f2 rfl
theorem tv {w:World} {r:Nat} {f1 f2 f3:Value} (hb:w.heap[r]?=some (jd f1 f2 f3)):(Instr.lookup 103 (.map (some r)) (.int .u8 3) true).run aC w=.ok (.tuple #[f3,.bool true]) w:=mE hb 3 2 f3 rfl
theorem rX:(aC.info? 40).map (·.zero)=some (some (.nilFunc)):=by kernel_rfl
theorem tw {w:World} {r:Nat} {f1 f2 f3:Value} (hb:w.heap[r]?=some (jd f1 f2 f3)) (k:Int) (h1:k≠1) (h2:k≠2) (h3:k≠3):∃ z,(Instr.lookup 103 (.map (some r)) (.int .u8 k) true).run aC w=.ok (.tuple #[z,.bool false]) w:=by
 have h:Instr.findNow (.int .u8) (.int .u8 k) [⟨.int .u8 1,f1,0⟩,⟨.int .u8 2,f2,1⟩,⟨.int .u8 3,f3,2⟩] 0=some none:=by
  have e1:(k == 1)=false:=beq_eq_false_iff_ne.2 h1;have e2:(k == 2)=false:=beq_eq_false_iff_ne.2 h2;have e3:(k == 3)=false:=beq_eq_false_iff_ne.2 h3;simp[Instr.findNow,Instr.sameNow,e1,e2,e3]
 have hz:(zeroValue 40).run aC w=.ok .nilFunc w:=by
  cases e:aC.info? 40 with
  | none=>have:=rX;rw[e] at this;cases this
  | some i=>
    have:=rX;rw[e] at this;simp at this;simp[zeroValue,typeInfo,e,this,Result.andThen]
 have hb':w.heap[r]?=some (.map #[⟨.int .u8 1,f1,0⟩,⟨.int .u8 2,f2,1⟩,⟨.int .u8 3,f3,2⟩] 3):=hb;exact⟨.nilFunc,by simp[Instr.lookup,run_underlying kG,MapKept.run_getObj_map hb',run_checkKey gt (rV k),run_findKey gt h,hz,Result.andThen]⟩
end
end Go.Proofs.YtobjdpngnfbicaaGreatDoor
namespace Go.Proofs.YtobjdpngnfbicaaGreatDoor
open Go.RowKit
set_option linter.unusedVariables false
set_option maxRecDepth 20000
theorem intact_sealed (b:List UInt8) (h:b.length=60):cd (ek b)=true:=by
 unfold cd ek
 have e:bp (b ++ bL (crc b)) 60=crc b:=by
  have:=fE b (crc b) [] (oF b) 60 h.symm;simpa using this
 rw[e,List.take_append_of_le_length (by omega),List.take_of_length_le (by omega)];simp
theorem read4_append {p q:List UInt8} {a:Nat} (h:a+4 <= p.length):bp (p ++ q) a=bp p a:=by
 have e:∀ i,i < p.length -> (p ++ q).getD i 0=p.getD i 0:=fun i hi=>by
  rw[List.getD_eq_getElem?_getD,List.getElem?_append_left hi,<- List.getD_eq_getElem?_getD]
 unfold bp;rw[e _ (by omega),e _ (by omega),e _ (by omega),e _ (by omega)]
theorem head_intact (g:Nat):cd (bZ g)=true:=intact_sealed _ (by simp[dy,bL])
theorem head_gen (g:Nat) (hg:g < 4294967296):bp (bZ g) 4=g:=by
 unfold bZ ek;rw[read4_append (by simp[dy,bL])];exact fE dy g (List.replicate 52 0) hg 4 rfl
theorem head_magic (g:Nat):(bZ g).take 4=dy:=by
 simp[bZ,ek,dy]
theorem head_is (g:Nat) (hg:g < 4294967296):dH (bZ g) (g % 2)=true:=by
 simp[dH,head_intact,head_magic,head_gen g hg]
theorem piece_intact (g k:Nat) (b:List UInt8) (i:Nat):cd (cG g k b i)=true:=intact_sealed _ (by simp[bL,dU])
theorem piece_gen (g k:Nat) (b:List UInt8) (i:Nat) (hg:g < 4294967296):bp (cG g k b i) 0=g:=by
 unfold cG ek;rw[read4_append (by simp[bL,dU]),az,az];have:=fE [] g (bL k ++ (bL (b.length - 48 * i) ++ ji (b.drop (48 * i)))) hg 0 rfl;simpa using this
theorem piece_ord (g k:Nat) (b:List UInt8) (i:Nat) (hk:k < 4294967296):bp (cG g k b i) 4=k:=by
 unfold cG ek;rw[read4_append (by simp[bL,dU]),az];exact fE (bL g) k _ hk 4 rfl
theorem piece_len (g k:Nat) (b:List UInt8) (i:Nat) (hb:b.length < 4294967296):bp (cG g k b i) 8=b.length - 48 * i:=by
 unfold cG ek;rw[read4_append (by simp[bL,dU])];exact fE (bL g ++ bL k) _ _ (by omega) 8 rfl
theorem piece_body (g k:Nat) (b:List UInt8) (i:Nat):((cG g k b i).drop 12).take 48=ji (b.drop (48 * i)):=by
 unfold cG ek;have h12:(bL g ++ bL k ++ bL (b.length - 48 * i)).length=12:=by simp[bL]
 rw[az (bL g ++ bL k ++ bL (b.length - 48 * i)),List.drop_append_of_le_length (by omega),List.drop_of_length_le (by omega),List.nil_append,List.take_append_of_le_length (by rw[dU];exact aq _),List.take_of_length_le (by rw[dU];exact aq _)]
theorem piece_ok (g k:Nat) (b:List UInt8) (i:Nat) (hg:g < 4294967296) (hk:k < 4294967296) (hb:b.length < 4294967296):cj (cG g k b i) g k (b.length - 48 * i)=true:=by
 simp[cj,piece_intact,piece_gen g k b i hg,piece_ord g k b i hk,piece_len g k b i hb]
def RecAt (S:List (List UInt8)) (g k p:Nat) (b:List UInt8):Prop:=∀ j,j < takes b.length -> bU S g (p+j)=cG g k b j
theorem piecesOk_rec {S:List (List UInt8)} {g k p:Nat} {b:List UInt8} (h:RecAt S g k p b) (hg:g < 4294967296) (hk:k < 4294967296) (hb:b.length < 4294967296):∀ i,i <= takes b.length -> cE S g k p b.length i=true
 | 0,_=>rfl
 | i+1,hi=>by
   simp only[cE,piecesOk_rec h hg hk hb i (by omega),Bool.true_and,h i (by omega),piece_ok g k b i hg hk hb]
theorem bodyM_rec {S:List (List UInt8)} {g k p:Nat} {b:List UInt8} (h:RecAt S g k p b):∀ i,i <= takes b.length -> 48 * i <= b.length+48 -> (dD S g p i).take b.length=b.take (48 * i) /\ (48 * i <= b.length -> dD S g p i=b.take (48 * i))
 | 0,_,_=>by simp[dD]
 | i+1,hi,hle=>by
   have ih:=(bodyM_rec h i (by omega) (by omega)).2 (by omega)
   have e:dD S g p (i+1)=b.take (48 * i) ++ ji (b.drop (48 * i)):=by
    simp only[dD,ih,h i (by omega),piece_body]
   have hl:(b.take (48 * i)).length=48 * i:=by simp;omega
   have hfull:48 * (i+1) <= b.length -> dD S g p (i+1)=b.take (48 * (i+1)):=fun hf=>by
    rw[e];unfold ji;rw[show 48 - (b.drop (48 * i)).length=0 by simp;omega,List.replicate_zero,List.append_nil,show 48 * (i+1)=48 * i+48 by omega,List.take_add]
   refine⟨?_,hfull⟩
   by_cases hf:48 * (i+1) <= b.length
   ·rw[hfull hf,List.take_take,Nat.min_eq_right hf]
   ·rw[e,List.take_append,hl,List.take_of_length_le (by rw[hl];omega)];unfold ji;rw[List.take_of_length_le (l:=b.drop (48 * i)) (by simp;omega),List.take_append_of_le_length (by simp),List.take_of_length_le (l:=b.drop (48 * i)) (by simp),List.take_append_drop,List.take_of_length_le (by omega)]
theorem recordM_rec {S:List (List UInt8)} {g k p:Nat} {b:List UInt8} (h:RecAt S g k p b) (hfit:p+takes b.length <= aT S.length) (hg:g < 4294967296) (hk:k < 4294967296) (hb:b.length <= 65536):cC S g k p=some b:=by
 have htp:=cH b.length;have hT:takes b.length=max 1 ((b.length+47) / 48):=rfl
 have e0:bp (bU S g p) 8=b.length:=by
  have:=h 0 htp;rw[Nat.add_zero] at this;rw[this,piece_len g k b 0 (by omega)];omega
 unfold cC;rw[if_neg (by omega)];dsimp only;rw[e0,if_neg (by omega),if_pos (piecesOk_rec h hg hk (by omega) _ (aq _)),(bodyM_rec h _ (aq _) (by omega)).1,List.take_of_length_le (by omega)]
theorem recordM_first {S:List (List UInt8)} {g k p:Nat} (h:aT S.length <= p \/ ∀ n,cj (bU S g p) g k n=false):cC S g k p=none:=by
 unfold cC
 by_cases hp:aT S.length <= p
 ·rw[if_pos hp]
 ·rw[if_neg hp];have h1:=h.resolve_left hp;dsimp only;split
  ·rfl
  ·rw[if_neg];intro hh;have htp:=cH (bp (bU S g p) 8);have:=fS S g k p (bp (bU S g p) 8) 1 (takes (bp (bU S g p) 8) - 1) (by rw[show 1+(takes (bp (bU S g p) 8) - 1)=takes (bp (bU S g p) 8) by omega];exact hh);simp[cE,h1] at this
theorem RecAt.sub {S S':List (List UInt8)} {g k p:Nat} {b:List UInt8} (h:RecAt S g k p b) (he:∀ j,j < takes b.length -> bU S' g (p+j)=bU S g (p+j)):RecAt S' g k p b:=
 fun j hj=>(he j hj).trans (h j hj)
theorem takenL_take_succ (L:List (List UInt8)) (i:Nat) (h:i < L.length):aL (L.take (i+1))=aL (L.take i)+takes L[i].length:=by
 rw[List.take_succ_eq_append_getElem h,dM]
theorem takenL_take_le (L:List (List UInt8)) (i:Nat):aL (L.take i) <= aL L:=by
 have:aL L=aL (L.take i)+aL (L.drop i):=by
  unfold aL;rw[<- List.sum_append,<- List.map_append,List.take_append_drop]
 omega
structure Inv (S:List (List UInt8)) (g:Nat) (L:List (List UInt8)):Prop where
 n8:8 <= S.length
 le:S.length <= 65536
 gen:g < 4294967295
 room:aL L <= aT S.length
 lens:∀ b ∈ L,b.length <= 65536
 recs:∀ i (h:i < L.length),RecAt S g i (aL (L.take i)) L[i]
 stop:cC S g L.length (aL L)=none
 beyond:∀ p,aL L <= p -> p < aT S.length -> cd (bU S g p)=true -> bp (bU S g p) 0=g -> bp (bU S g p) 4 <= L.length
 own:∀ p,p < aT S.length -> cd (bU S g p)=true -> bp (bU S g p) 0 <= g
 other:∀ p,p < aT S.length -> cd (bU S (g+1) p)=true -> bp (bU S (g+1) p) 0 <= g+1 /\ (bp (bU S (g+1) p) 0=g+1 -> bp (bU S (g+1) p) 4=0)
 head:S.getD (g % 2) []=bZ g
 head2:dH (S.getD ((g+1) % 2) []) ((g+1) % 2)=true -> bp (S.getD ((g+1) % 2) []) 4 < g
theorem Inv.recordsM_from {S:List (List UInt8)} {g:Nat} {L:List (List UInt8)} (h:Inv S g L):∀ (d i f:Nat),L.length=i+d -> d < f -> dm S g f i (aL (L.take i))=L.drop i
 | 0,i,f,hi,hf=>by
   have hs:=h.stop
   obtain⟨f',rfl⟩:∃ f',f=f'+1:=⟨f - 1,by omega⟩
   rw[List.take_of_length_le (by omega),List.drop_of_length_le (by omega)];have:i=L.length:=by omega
   subst this;exact recordsM_none hs _
 | d+1,i,f,hi,hf=>by
   obtain⟨f',rfl⟩:∃ f',f=f'+1:=⟨f - 1,by omega⟩
   have hil:i < L.length:=by omega
   have hroom:=h.room;have hle:=h.le;have hLT:=cU L;have hb:=h.lens L[i] (aA hil)
   have hfit:aL (L.take i)+takes L[i].length <= aT S.length:=by
    have:=takenL_take_le L (i+1);rw[takenL_take_succ L i hil] at this;omega
   have hr:=recordM_rec (h.recs i hil) hfit (by have:=h.gen;omega) (by unfold aT at hroom;omega) hb;rw[recordsM_some hr,<- takenL_take_succ L i hil,Inv.recordsM_from h d (i+1) f' (by omega) (by omega),List.drop_eq_getElem_cons hil]
theorem Inv.genM {S:List (List UInt8)} {g:Nat} {L:List (List UInt8)} (h:Inv S g L):genM S=some g:=by
 have h1:=h.head;have h2:=h.head2;have hg:=h.gen;have hi:=head_is g (by omega);have hr:=head_gen g (by omega);rcases(show g % 2=0 \/ g % 2=1 by omega) with e | e
 ·rw[e] at h1 hi;rw[show (g+1) % 2=1 by omega] at h2;unfold Go.Proofs.YtobjdpngnfbicaaGreatDoor.genM;simp only[h1,hi,hr];generalize S.getD 1 []=o at *
  by_cases h3:dH o 1=true
  ·have:=h2 h3;simp[h3];omega
  ·simp[h3]
 ·rw[e] at h1 hi;rw[show (g+1) % 2=0 by omega] at h2;unfold Go.Proofs.YtobjdpngnfbicaaGreatDoor.genM;simp only[h1,hi,hr];generalize S.getD 0 []=o at *
  by_cases h3:dH o 0=true
  ·have:=h2 h3;simp[h3];omega
  ·simp[h3]
theorem Inv.opened {M:MD} {g:Nat} {L:List (List UInt8)} (h:Inv M.S g L) (hdn:M.down=false):ge M=.inl ⟨g,L,false⟩:=by
 have h8:=h.n8;have hroom:=h.room;have hLT:=cU L;have hr:=Inv.recordsM_from h L.length 0 (aT M.S.length+1) (by omega) (by omega);unfold ge;rw[if_neg (by omega),if_neg (by simp[hdn]),h.genM];simp only;rw[show aL (L.take 0)=0 from rfl] at hr;rw[hr,List.drop_zero]
end Go.Proofs.YtobjdpngnfbicaaGreatDoor
/- Writes of pieces keep what the sectors bear. -/
namespace Go.Proofs.YtobjdpngnfbicaaGreatDoor
open Go.RowKit
set_option linter.unusedVariables false
set_option maxRecDepth 20000
theorem placeN_inj {n g h p q:Nat} (hp:p < aT n) (hq:q < aT n):bT n g p=bT n h q↔g % 2=h % 2 /\ p=q:=by
 unfold bT;rcases(show g % 2=0 \/ g % 2=1 by omega) with e | e <;> rcases(show h % 2=0 \/ h % 2=1 by omega) with f | f <;> rw[e,f] <;> omega
theorem getD_set (S:List (List UInt8)) (a c:Nat) (x:List UInt8) (ha:a < S.length):(S.set a x).getD c []=if c=a then x else S.getD c []:=by
 rw[List.getD_eq_getElem?_getD,List.getElem?_set]
 by_cases h:a=c
 ·subst h;simp[ha]
 ·rw[if_neg h,if_neg (fun e=>h e.symm),<- List.getD_eq_getElem?_getD]
theorem secM_set (S:List (List UInt8)) (g h p q:Nat) (x:List UInt8) (hp:p < aT S.length) (hq:q < aT S.length):
 bU (S.set (bT S.length g p) x) h q=if h % 2=g % 2 /\ q=p then x else bU S h q:=by
 unfold bU;rw[List.length_set,getD_set _ _ _ _ (eu _ _ _ hp)]
 by_cases e:h % 2=g % 2 /\ q=p
 ·rw[if_pos e,if_pos ((placeN_inj hq hp).2 e)]
 ·rw[if_neg e,if_neg (fun hh=>e ((placeN_inj hq hp).1 hh))]
theorem secM_set_head (S:List (List UInt8)) (t h q:Nat) (x:List UInt8) (ht:t < 2) (hn:2 <= S.length):bU (S.set t x) h q=bU S h q:=by
 unfold bU;rw[List.length_set,getD_set _ _ _ _ (by omega),if_neg (by unfold bT;omega)]
theorem head_set (S:List (List UInt8)) (g p t:Nat) (x:List UInt8) (ht:t < 2) (hp:p < aT S.length):(S.set (bT S.length g p) x).getD t []=S.getD t []:=by
 rw[getD_set _ _ _ _ (eu _ _ _ hp),if_neg (by unfold bT;omega)]
structure Wrote (S S':List (List UInt8)) (g k p:Nat) (b:List UInt8) (i:Nat):Prop where
 len:S'.length=S.length
 sec:∀ h q,q < aT S.length -> bU S' h q=if h % 2=g % 2 /\ p <= q /\ q < p+i then cG g k b (q - p) else bU S h q
 heads:∀ t,t < 2 -> S'.getD t []=S.getD t []
theorem wrote_zero (S:List (List UInt8)) (g k p:Nat) (b:List UInt8):Wrote S S g k p b 0:=⟨rfl,fun h q hq=>by rw[if_neg (by omega)],fun t ht=>rfl⟩
theorem Wrote.snoc {S S':List (List UInt8)} {g k p:Nat} {b:List UInt8} {i:Nat} (h:Wrote S S' g k p b i) (hp:p+i < aT S.length):Wrote S (S'.set (bT S.length g (p+i)) (cG g k b i)) g k p b (i+1):=by
 refine⟨by simp[h.len],fun h' q hq=>?_,fun t ht=>?_⟩
 ·rw[<- h.len,secM_set _ _ _ _ _ _ (by rw[h.len];exact hp) (by rw[h.len];exact hq),h.sec h' q hq]
  by_cases e:h' % 2=g % 2 /\ q=p+i
  ·rw[if_pos e,if_pos (by omega),show q - p=i by omega]
  ·rw[if_neg e]
   by_cases e2:h' % 2=g % 2 /\ p <= q /\ q < p+i
   ·rw[if_pos e2,if_pos (by omega)]
   ·rw[if_neg e2,if_neg (by omega)]
 ·rw[<- h.len,head_set _ _ _ _ _ ht (by rw[h.len];exact hp),h.heads t ht]
theorem setAll_append (S:List (List UInt8)) (a b:List (Nat × List UInt8)):bY S (a ++ b)=bY (bY S a) b:=by unfold bY;rw[List.foldl_append]
theorem wrote_all (S:List (List UInt8)) (g k p:Nat) (b:List UInt8) (hp:p+takes b.length <= aT S.length):∀ i,i <= takes b.length -> Wrote S (bY S ((aO S.length g k p b).take i)) g k p b i
 | 0,_=>by simpa[bY] using wrote_zero S g k p b
 | i+1,hi=>by
   rw[pS _ _ _ _ _ _ (by omega),setAll_append];exact(wrote_all S g k p b hp i (by omega)).snoc (by omega)
theorem Inv.append {S S':List (List UInt8)} {g:Nat} {L:List (List UInt8)} {b:List UInt8} (h:Inv S g L) (hfit:aL L+takes b.length <= aT S.length) (hb:b.length <= 65536) (hw:Wrote S S' g L.length (aL L) b (takes b.length)):Inv S' g (L ++ [b]):=by
 have hle:=h.le;have hg:=h.gen;have hLT:=cU L;have hH:aT S.length <= 32768:=by unfold aT;omega
 have htp:=cH b.length
 have hown:∀ q,q < aT S.length -> bU S' g q=if aL L <= q /\ q < aL L+takes b.length then cG g L.length b (q - aL L) else bU S g q:=fun q hq=>by
  rw[hw.sec g q hq]
  by_cases e:aL L <= q /\ q < aL L+takes b.length
  ·rw[if_pos ⟨rfl,e⟩,if_pos e]
  ·rw[if_neg (fun hh=>e hh.2),if_neg e]
 have hoth:∀ q,q < aT S.length -> bU S' (g+1) q=bU S (g+1) q:=fun q hq=>by rw[hw.sec _ q hq,if_neg (by omega)]
 have htk:aL (L ++ [b])=aL L+takes b.length:=dM L b
 have hbey:∀ p,aL (L ++ [b]) <= p -> p < aT S.length -> cd (bU S' g p)=true -> bp (bU S' g p) 0=g -> bp (bU S' g p) 4 <= L.length:=fun p hp hq hi hr=>by
  rw[hown p hq,if_neg (by omega)] at hi hr ⊢;exact h.beyond p (by omega) hq hi hr
 refine⟨by rw[hw.len];exact h.n8,by rw[hw.len];exact hle,hg,by rw[hw.len,htk];exact hfit,fun x hx=>?_,fun i hi=>?_,?_,?_,?_,?_,?_,?_⟩
 ·rcases List.mem_append.1 hx with hx | hx
  ·exact h.lens x hx
  ·obtain rfl:=List.mem_singleton.1 hx;exact hb
 ·by_cases hil:i < L.length
  ·have e1:(L ++ [b])[i]=L[i]:=List.getElem_append_left hil;have e2:(L ++ [b]).take i=L.take i:=List.take_append_of_le_length (by omega);rw[e1,e2];refine(h.recs i hil).sub fun j hj=>?_
   have:=takenL_take_le L (i+1);rw[takenL_take_succ L i hil] at this;have hr:=h.room;rw[hown _ (by omega),if_neg (by omega)]
  ·have hiL:i=L.length:=by simp at hi;omega
   subst hiL;have e1:(L ++ [b])[L.length]=b:=by simp
   have e2:(L ++ [b]).take L.length=L:=by simp
   rw[e1,e2];intro j hj;rw[hown _ (by omega),if_pos (by omega),show aL L+j - aL L=j by omega]
 ·refine recordM_first ?_
  by_cases hp:aT S.length <= aL (L ++ [b])
  ·exact .inl (by rw[hw.len];exact hp)
  ·refine .inr fun n=>?_
   by_cases hi:cd (bU S' g (aL (L ++ [b])))=true /\ bp (bU S' g (aL (L ++ [b]))) 0=g
   ·have:=hbey _ (aq _) (by omega) hi.1 hi.2;have hne:bp (bU S' g (aL (L ++ [b]))) 4≠(L ++ [b]).length:=by simp;omega
    unfold cj;rw[beq_eq_false_iff_ne.2 hne];simp
   ·by_cases h1:cd (bU S' g (aL (L ++ [b])))=true
    ·have h2:¬ bp (bU S' g (aL (L ++ [b]))) 0=g:=fun hh=>hi ⟨h1,hh⟩
     simp[cj,h2]
    ·simp[cj,h1]
 ·intro p hp hq hi hr;rw[hw.len] at hq;have:=hbey p hp hq hi hr;simp;omega
 ·intro p hq hi;rw[hw.len] at hq;rw[hown p hq] at hi ⊢;split
  ·rw[piece_gen _ _ _ _ (by omega)];exact aq _
  ·rename_i hc;rw[if_neg hc] at hi;exact h.own p hq hi
 ·intro p hq hi;rw[hw.len] at hq;rw[hoth p hq] at hi ⊢;exact h.other p hq hi
 ·rw[hw.heads _ (by omega)];exact h.head
 ·rw[hw.heads _ (by omega)];exact h.head2
theorem Inv.replace {S S':List (List UInt8)} {g:Nat} {L:List (List UInt8)} {b:List UInt8} (h:Inv S g L) (hg1:g+1 < 4294967295) (hfit:takes b.length <= aT S.length) (hb:b.length <= 65536) (hw:Wrote S S' (g+1) 0 0 b (takes b.length)):Inv (S'.set ((g+1) % 2) (bZ (g+1))) (g+1) [b]:=by
 have hle:=h.le;have h8:=h.n8;have hH:aT S.length <= 32768:=by unfold aT;omega
 have htp:=cH b.length;have hlen:(S'.set ((g+1) % 2) (bZ (g+1))).length=S.length:=by rw[List.length_set,hw.len]
 have hsec:∀ h' q,q < aT S.length -> bU (S'.set ((g+1) % 2) (bZ (g+1))) h' q=bU S' h' q:=fun h' q hq=>secM_set_head _ _ _ _ _ (by omega) (by rw[hw.len];omega)
 have hown:∀ q,q < aT S.length -> bU (S'.set ((g+1) % 2) (bZ (g+1))) (g+1) q=if q < takes b.length then cG (g+1) 0 b q else bU S (g+1) q:=fun q hq=>by
  rw[hsec _ q hq,hw.sec _ q hq]
  by_cases e:q < takes b.length
  ·rw[if_pos (by omega),if_pos e];rfl
  ·rw[if_neg (by omega),if_neg e]
 have hoth:∀ q,q < aT S.length -> bU (S'.set ((g+1) % 2) (bZ (g+1))) (g+1+1) q=bU S g q:=fun q hq=>by
  rw[hsec _ q hq,hw.sec _ q hq,if_neg (by omega)];unfold bU bT;rw[show (g+1+1) % 2=g % 2 by omega]
 have htk:aL [b]=takes b.length:=by simp[aL]
 have hbey:∀ p,takes b.length <= p -> p < aT S.length -> cd (bU (S'.set ((g+1) % 2) (bZ (g+1))) (g+1) p)=true -> bp (bU (S'.set ((g+1) % 2) (bZ (g+1))) (g+1) p) 0=g+1 -> bp (bU (S'.set ((g+1) % 2) (bZ (g+1))) (g+1) p) 4=0:=fun p hp hq hi hr=>by
  rw[hown p hq,if_neg (by omega)] at hi hr ⊢;exact(h.other p hq hi).2 hr
 refine⟨by rw[hlen];exact h8,by rw[hlen];exact hle,hg1,by rw[hlen,htk];exact hfit,fun x hx=>?_,fun i hi=>?_,?_,?_,?_,?_,?_,?_⟩
 ·obtain rfl:=List.mem_singleton.1 hx;exact hb
 ·have:i=0:=by simp at hi;omega
  subst this;intro j hj;have hj':j < takes b.length:=hj;show bU _ (g+1) (0+j)=cG (g+1) 0 b j;rw[Nat.zero_add,hown j (by omega),if_pos hj']
 ·refine recordM_first ?_;rw[htk]
  by_cases hp:aT S.length <= takes b.length
  ·exact .inl (by rw[hlen];exact hp)
  ·refine .inr fun n=>?_
   generalize hs:bU (S'.set ((g+1) % 2) (bZ (g+1))) (g+1) (takes b.length)=s
   by_cases hi:cd s=true /\ bp s 0=g+1
   ·have:=hbey (takes b.length) (aq _) (by omega) (by rw[hs];exact hi.1) (by rw[hs];exact hi.2);rw[hs] at this;simp[cj,this]
   ·by_cases h1:cd s=true
    ·have h2:¬ bp s 0=g+1:=fun hh=>hi ⟨h1,hh⟩
     simp[cj,h2]
    ·simp[cj,h1]
 ·intro p hp hq hi hr;rw[hlen] at hq;rw[htk] at hp;have:=hbey p hp hq hi hr;omega
 ·intro p hq hi;rw[hlen] at hq;rw[hown p hq] at hi ⊢;split
  ·rw[piece_gen _ _ _ _ (by omega)];exact aq _
  ·rename_i hc;rw[if_neg hc] at hi;exact(h.other p hq hi).1
 ·intro p hq hi;rw[hlen] at hq;rw[hoth p hq] at hi ⊢;have:=h.own p hq hi;exact⟨by omega,fun e=>by omega⟩
 ·rw[getD_set _ _ _ _ (by rw[hw.len];omega),if_pos rfl]
 ·intro hh;rw[getD_set _ _ _ _ (by rw[hw.len];omega),if_neg (by omega),hw.heads _ (by omega)] at hh ⊢;rw[show (g+1+1) % 2=g % 2 by omega,h.head] at hh ⊢;rw[head_gen g (by omega)];omega
end Go.Proofs.YtobjdpngnfbicaaGreatDoor
/- A journal on a disk that never fails: its sectors bear it. -/
namespace Go.Proofs.YtobjdpngnfbicaaGreatDoor
open Go.RowKit
set_option linter.unusedVariables false
set_option maxRecDepth 20000
theorem zero_intact:cd (List.replicate 64 0)=false:=by decide +kernel
theorem setAll_zero (n:Nat) (z:List UInt8) (ws:List (Nat × List UInt8)) (h:∀ x ∈ ws,x.2=z):bY (List.replicate n z) ws=List.replicate n z:=by
 induction ws with
 | nil=>rfl
 | cons x ws ih=>
   show bY ((List.replicate n z).set x.1 x.2) ws=_;rw[h x (by simp),List.set_replicate_self];exact ih fun y hy=>h y (by simp[hy])
theorem inv_fresh (n:Nat) (h8:8 <= n) (hn:n <= 65536):Inv (bY (List.replicate n (List.replicate 64 0)) (dN n ++ [(0,bZ 0)])) 0 []:=by
 have e:bY (List.replicate n (List.replicate 64 0)) (dN n ++ [(0,bZ 0)])=(List.replicate n (List.replicate 64 0)).set 0 (bZ 0):=by
  rw[setAll_append,setAll_zero]
  ·rfl
  ·intro x hx;simp[dN] at hx;obtain⟨a,_,rfl⟩:=hx;rfl
 rw[e];have hl:((List.replicate n (List.replicate 64 (0:UInt8))).set 0 (bZ 0)).length=n:=by simp
 have hsec:∀ h q,q < aT n -> bU ((List.replicate n (List.replicate 64 (0:UInt8))).set 0 (bZ 0)) h q=List.replicate 64 0:=fun h q hq=>by
  rw[secM_set_head _ _ _ _ _ (by omega) (by simp;omega)];unfold bU;have:=eu n h q hq;rw[List.length_replicate,List.getD_eq_getElem?_getD,List.getElem?_replicate,if_pos this];rfl
 have hni:∀ h q,q < aT n -> cd (bU ((List.replicate n (List.replicate 64 (0:UInt8))).set 0 (bZ 0)) h q)=true -> False:=fun h q hq hi=>by
  rw[hsec h q hq,zero_intact] at hi;cases hi
 refine⟨by rw[hl];exact h8,by rw[hl];exact hn,by omega,by simp[aL],by simp,fun i hi=>by simp at hi,?_,?_,?_,?_,?_,?_⟩
 ·refine recordM_first (.inr fun k=>?_);have:=hsec 0 0 (by unfold aT;omega);show cj (bU _ 0 0) 0 0 k=false;rw[this];unfold cj;rw[zero_intact];rfl
 ·intro p _ hq hi;rw[hl] at hq;exact(hni 0 p hq hi).elim
 ·intro p hq hi;rw[hl] at hq;exact(hni 0 p hq hi).elim
 ·intro p hq hi;rw[hl] at hq;exact(hni _ p hq hi).elim
 ·rw[getD_set _ _ _ _ (by simp;omega)];rfl
 ·intro hh;exfalso;rw[getD_set _ _ _ _ (by simp;omega),if_neg (by omega),List.getD_eq_getElem?_getD,List.getElem?_replicate,if_pos (by omega)] at hh;unfold dH at hh;rw[Option.getD_some,zero_intact] at hh;exact absurd hh (by simp only[Bool.false_and,Bool.false_eq_true,not_false_eq_true])
theorem inv_append_up {S:List (List UInt8)} {k g:Nat} {L:List (List UInt8)} {l:List UInt8} (h:Inv S g L) (hfit:aL L+takes l.length <= aT S.length) (hl:l.length <= 65536):Inv (bY S (aO S.length g L.length (aL L) l)) g (L ++ [l]):=by
 refine h.append hfit hl ?_;have:=wrote_all S g L.length (aL L) l hfit (takes l.length) (aq _)
 rwa [List.take_of_length_le (by rw[dV];exact aq _)] at this
theorem inv_replace_up {S:List (List UInt8)} {k g:Nat} {L:List (List UInt8)} {l:List UInt8} (h:Inv S g L) (hg:g+1 < 4294967295) (hfit:takes l.length <= aT S.length) (hl:l.length <= 65536):Inv (bY S (bE S.length g l)) (g+1) [l]:=by
 unfold bE;rw[setAll_append];refine h.replace hg hfit hl ?_;have:=wrote_all S (g+1) 0 0 l (by omega) (takes l.length) (aq _)
 rwa [List.take_of_length_le (by rw[dV];exact aq _)] at this
end Go.Proofs.YtobjdpngnfbicaaGreatDoor
