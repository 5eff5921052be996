/-
  UKeeps
-/
import Derived.Test.YtobjdpngnfbicaaGreatDoorZK44
import Derived.Test.YtobjdpngnfbicaaGreatDoorZK41
import Derived.Test.YtobjdpngnfbicaaGreatDoorZK42
open Go.Lib renaming hid->ae
open Go.IntWalk renaming i64_in->af,i64_quo->ah,u32_in->aj,rem_in->am,u8_in->ap
open Nat renaming le_refl->aq,le_trans->au,lt_of_lt_of_le->aw
open List renaming getElem_mem->aA
open Go.Proofs.Tryz renaming prog->aC
namespace Go.Proofs.YtobjdpngnfbicaaGreatDoor
open Go.RowKit
set_option linter.unusedVariables false
set_option maxRecDepth 20000
section
open Go.Lib
attribute [local go_sem] opC upC
def tU (w:World) (d n:Nat) (uv i:Value) (wr:World):Prop:=∃ (k u:Nat) (M:MD) (U:MU),k <= n /\ uv=.pointer (some ⟨u,0,none⟩) /\ i=.int .i64 (k:Int) /\ UX wr w.heap.size d u M U /\ ei M U /\ U.J.dead=false /\ M.down=false /\ U.dev=2 /\ U.J.g <= k /\ M.writes <= 200000+200000 * k /\ Below w.heap.size w wr
theorem bB {m:RMap} (h:validR m=true):m.seen.length <= 1000000 /\ m.items.length <= 1000000 /\ m.gone.length <= 1000000:=by
 have:=valid_lens h;omega
set_option maxRecDepth 100000 in
set_option maxHeartbeats 16000000 in
theorem UserKeeps_walk (a0:Int) (v:Value) (w:World) (hv:IsUActs w v) (hL:dF w):
 Calls aC 3 #[.int .i64 a0,v] w fun e w'=>e=.returned (.bool true) /\ Below w.heap.size w w':=by
 obtain⟨A,hA⟩:=ol hv;have HLi:=ae (kU w w.heap.size v A hA (aq _));obtain⟨a,cap,rfl,h9,hx⟩:=id hA;have HL:=ae (show ∀ W,Below w.heap.size w W -> dF W from fun W hb=>hL.below hb)
 obtain⟨n,hn⟩:∃ n,A.length=n:=⟨_,rfl⟩
 rw[hn] at h9 HLi ⊢;have Hx:=ae hx;have Hn:=ae hn;have h4s:4 <= w.heap.size:=hL.2.2;clear hL hx hA hv hn
 by_cases h8:a0 < 8
 ·go_enter Tryz.func3,Tryz.ntmps3
  have HWk:=ae (en w (HL.out w (Below.refl w.heap.size w)));have Hbk:=ae (Below.refl w.heap.size w)
  skip
  go_wp2_with fail
  skip
  refine HWk.out.mono ?_;rintro e wz ⟨rfl,hbz⟩;have Hbz:=ae (Hbk.out.trans (hbz.mono Hbk.out.size));clear HWk hbz;go_wp2_with fail
  go_ret
  exact⟨rfl,Hbz.out⟩
 by_cases h300:300 < a0
 ·have h8I:¬ a0 < 8:=h8
  go_enter Tryz.func3,Tryz.ntmps3
  have HWk:=ae (en w (HL.out w (Below.refl w.heap.size w)));have Hbk:=ae (Below.refl w.heap.size w)
  skip
  go_wp2_with fail
  skip
  refine HWk.out.mono ?_;rintro e wz ⟨rfl,hbz⟩;have Hbz:=ae (Hbk.out.trans (hbz.mono Hbk.out.size));clear HWk hbz;go_wp2_with fail
  go_ret
  exact⟨rfl,Hbz.out⟩
 obtain⟨sN,rfl⟩:∃ s:Nat,a0=(s:Int):=⟨a0.toNat,by omega⟩
 have h8N:8 <= sN:=by omega
 have h300N:sN <= 300:=by omega
 have HN:=ae (r7 w h4s sN (by omega) (by omega));obtain⟨f1,f2,f3,f4,f5,f6,f7,f8⟩:=kV sN 2 h8N (by omega) (by decide)
 obtain⟨⟨M0,U0,e0⟩,hf⟩:∃ r,ef (MD.fresh sN) 2=r:=⟨_,rfl⟩
 rw[hf] at f2 f3 f4 f5 f6 f7 f8;dsimp only at f2 f3 f4 f5 f6 f7 f8;subst f2;have Hf:=ae hf;have F1:=ae f1;have HI0:=ae f3;have HF4:=ae f4;have Hw0:=ae f8;have Hd0:=ae f6;have H8N:=ae h8N;clear f1 f3 f4 f5 f6 f7 f8 hf h8N h300N
 go_enter Tryz.func3,Tryz.ntmps3
 go_wp2_with fail;refine HLi.out.mono ?_;rintro e w' ⟨rfl,r,rfl,hr⟩;clear HLi;cases r with
 | false=>
   clear hr;have HWk:=ae (en w (HL.out w (Below.refl w.heap.size w)));have Hbk:=ae (Below.refl w.heap.size w)
   skip
   go_wp2_with fail
   skip
   refine HWk.out.mono ?_;rintro e wz ⟨rfl,hbz⟩;have Hbz:=ae (Hbk.out.trans (hbz.mono Hbk.out.size));clear HWk hbz;go_wp2_with fail
   go_ret
   exact⟨rfl,Hbz.out⟩
 | true=>
   have HLt:=ae (hr rfl);have hn60:n <= 60:=by rw[<- Hn.out];exact HLt.out.1
   clear hr;go_wp2_with fail;refine HN.out.mono ?_;rintro e w1 ⟨d,rfl,hd,hb1⟩;have hF:=pB w1 (HL.out w1 hb1) _ d (MD.fresh sN) hd (by simp[MD.fresh];exact H8N.out) (by show 0+200000 < _;decide) 2 (by decide) F1.out (by rw[Hf.out]);rw[Hf.out] at hF;have HF:=ae hF;have Hb1:=ae hb1;clear hF hd hb1 HN;go_wp2_with fail;refine HF.out.mono ?_;rintro e w2 ⟨u0,rfl,hU,hb2⟩;have HU0:=ae hU;have HB2:=ae (show Below w.heap.size w w2 from Hb1.out.trans hb2);clear hU hb2 HF;go_wp2_with fail
   go_loopw [7,9] (fun uv i wr=>tU w d n uv i wr) (fun _ i _=>n - (intOf i).toNat)
   case atStart=>exact⟨0,u0,M0,U0,by omega,rfl,rfl,HU0.out,HI0.out,HF4.out.dead,HF4.out.down,Hd0.out,by rw[HF4.out.gen];exact aq _,by have:=Hw0.out;omega,HB2.out⟩
   case round=>
    rename World=>wo
    obtain⟨k,u,M,U,hk,rfl,rfl,hU,hI,hdd,hdn,hdv,hg,hwr,hb⟩:=hrel
    by_cases hkl:k < n
    case neg=>
     have hkI:¬ (k:Int) < (n:Int):=by omega
     have HWk:=ae (en wo (HL.out wo hb));have Hbk:=ae hb;clear hU hI hdd hdn hdv hg hwr hb;go_wp2_with fail
     skip
     refine HWk.out.mono ?_;rintro e wz ⟨rfl,hbz⟩;have Hbz:=ae (Hbk.out.trans (hbz.mono Hbk.out.size));clear HWk hbz;go_wp2_with fail
     go_ret
     exact⟨rfl,Hbz.out⟩
    have hkI:(k:Int) < (n:Int):=by omega
    have hkA:k < A.length:=by rw[Hn.out];exact hkl
    obtain⟨b,off,rfl,hblt,hc⟩:=Hx.out.resolve_left (by intro e;rw[e] at hkA;simp at hkA);obtain⟨q1,q2,q3,xk,ck,x1,c1,x2,c2,x3,c3,d0,d1,d2,d3,d4,d5,d6,hR,hM⟩:=hc k hkA;have hAL:=HLt.out.2 A[k] (aA hkA)
    obtain⟨y,hy⟩:∃ y,A[k]=y:=⟨_,rfl⟩
    rw[hy] at d0 d1 d2 d3 d4 d5 d6 hR hM hAL;clear hc q1 q2 q3 hy
    obtain⟨kk,hkk⟩:∃ kk,y.kind.tmod 8=kk:=⟨_,rfl⟩
    have hk8:0 <= kk /\ kk < 8:=by
     have h1:=hAL.kind;have:y.kind.tmod 8=y.kind % 8:=Int.tmod_eq_emod_of_nonneg h1.1;omega
    have z0:=(hb.cell (p:=⟨b,off+k * 7,none⟩) hblt).trans d0;have HAL:=ae hAL;have HI:=ae hI;have Hdd:=ae hdd;have Hdn:=ae hdn;have Hdv:=ae hdv;have Hwr:=ae hwr;have HU:=ae hU;have HB:=ae hb;have HRM:=ae (show Rows (fun q=>q < w.heap.size) w 1 (.slice xk y.keys.length ck) y.keys.length (y.keys.map Go.Proofs.encStr) /\ bJ (fun q=>q < w.heap.size) w (.slice x1 y.m.seen.length c1) (.slice x2 y.m.items.length c2) (.slice x3 y.m.gone.length c3) y.m from ⟨hR,hM⟩);have d6':w.cell? ⟨b,off+k * 7+6,none⟩=some (.int .u8 (y.b.toNat:Int)):=d6;have HDs:=ae (show w.cell? ⟨b,off+k * 7,none⟩=some (.int .u8 y.kind) /\ w.cell? ⟨b,off+k * 7+1,none⟩=some (.slice xk y.keys.length ck) /\ w.cell? ⟨b,off+k * 7+2,none⟩=some (.slice x1 y.m.seen.length c1) /\ w.cell? ⟨b,off+k * 7+3,none⟩=some (.slice x2 y.m.items.length c2) /\ w.cell? ⟨b,off+k * 7+4,none⟩=some (.slice x3 y.m.gone.length c3) /\ w.cell? ⟨b,off+k * 7+5,none⟩=some (.int .i64 y.n) /\ w.cell? ⟨b,off+k * 7+6,none⟩=some (.int .u8 (y.b.toNat:Int)) from ⟨d0,d1,d2,d3,d4,d5,d6'⟩);clear hAL hI hdd hdn hdv hwr hU hb hR hM d0 d1 d2 d3 d4 d5 d6 d6';rcases(show kk=6 \/ kk=7 \/ kk <= 5 by omega) with rfl | rfl | h5
    ·-- a fault
     obtain⟨-,-,-,-,-,g5,g6⟩:=HDs.out;have z5:=(HB.out.cell (p:=⟨b,off+k * 7+5,none⟩) hblt).trans g5;have z6:=(HB.out.cell (p:=⟨b,off+k * 7+6,none⟩) hblt).trans g6;have HTo:=ae (lV wo y.b);clear g5 g6;go_wp2_with fail;refine HTo.out.mono ?_;rintro e w3 ⟨g,rfl,hg3,hbk,hb3⟩;have HIn:=ae (rintact_any w3 (fun _=>True) _ (jF y.b) (lW hbk trivial (jh _)) (jh _))
     obtain⟨it,hit⟩:∃ it,cd (jF y.b)=it:=⟨_,rfl⟩
     rw[hit] at HIn;have Hit:=ae hit;have Hb3:=ae hb3;clear HTo hbk hb3 hit hg3;go_wp2_with fail;refine HIn.out.mono ?_;rintro e w4 ⟨rfl,nd,hnd⟩;have hb4:Below wo.heap.size wo w4:=by rw[<- hnd];exact Below.drewN' Hb3.out nd
     have Hbo4:=ae hb4;have hB4:Below w.heap.size w w4:=HB.out.trans (hb4.mono HB.out.size);clear HIn hnd hb4 z0 z5 z6;cases it with
     | true=>
       have HWk:=ae (en w4 (HL.out w4 hB4));have Hbk:=ae hB4;clear hB4;go_wp2_with fail
       skip
       refine HWk.out.mono ?_;rintro e wz ⟨rfl,hbz⟩;have Hbz:=ae (Hbk.out.trans (hbz.mono Hbk.out.size));clear HWk hbz;go_wp2_with fail
       go_ret
       exact⟨rfl,Hbz.out⟩
     | false=>
       obtain⟨wd,hwd⟩:∃ q,q=w4.drew:=⟨_,rfl⟩
       have hbd:Below w4.heap.size w4 wd:=by rw[hwd];exact(Below.refl w4.heap.size w4).drew
       have hBd:=hB4.trans (hbd.mono hB4.size);obtain⟨-,-,-,-,-,g5,g6⟩:=HDs.out;have pz:∀ q x,wd.cell? q=some x -> ∀ w',aI wd w' -> w'.cell? q=some x:=fun q x hc w' hh=>(hh.cell (p:=q) (cellLt hc)).trans hc
       have p5:=pz _ _ ((hBd.cell (p:=⟨b,off+k * 7+5,none⟩) hblt).trans g5);have p6:=pz _ _ ((hBd.cell (p:=⟨b,off+k * 7+6,none⟩) hblt).trans g6);have HTo:=ae (lV wd y.b);have HUd:=ae (HU.out.keep (Hbo4.out.trans (hbd.mono Hbo4.out.size)));have HBd:=ae hBd;have Hwd:=ae hwd;clear hwd hbd hBd g5 g6 pz hB4;go_wp2_with fail;refine bh aI 12 [(0,true),(1,true),(2,true),(3,true),(4,true),(5,true),(6,true),(7,true),(8,true),(9,true),(10,true),(11,false),(12,false)] (by kernel_rfl) (by kernel_rfl) (by kernel_rfl) aH aG ?_;rw[<- Hwd.out]
       repeat (refine aX (v:=?_) rfl (aD rfl) (fun w' hC=>?_) (fun K hK=>?_);rotate_left;(focus (go_simp;(try simp(disch:=omega) only[af]);(try simp(disch:=omega) only[aj]);(try simp(disch:=omega) only[ap]);(try simp(disch:=omega) only[ah]);(try simp(disch:=omega) only[am]);first | done | exact rfl));go_simp;(try simp(disch:=omega) only[af]);(try simp(disch:=omega) only[aj]);(try simp(disch:=omega) only[ap]);(try simp(disch:=omega) only[ah]);(try simp(disch:=omega) only[am]);refine hK _ ?_;clear hK K)
       clear p5 p6;refine bS rfl rfl (fun KK hK=>?_);go_simp;refine HTo.out.mono ?_;rintro e w5 ⟨g5,rfl,hg5,hbk5,hb5⟩;refine⟨_,rfl,hb5,hK _ _ ?_⟩;clear hK KK HTo;go_simp;have HFl:=ae (sx w5 w.heap.size d u M U (HUd.out.keep hb5) HI.out y.n HAL.out.num g5 (jF y.b) hbk5 (jh _) Hit.out);have HB5:=ae (show Below w.heap.size w w5 from HBd.out.trans (hb5.mono HBd.out.size));clear hg5 hbk5 hb5
       repeat (refine aX (v:=?_) rfl (aD rfl) (fun w' hC=>?_) (fun K hK=>?_);rotate_left;(focus (go_simp;(try simp(disch:=omega) only[af]);(try simp(disch:=omega) only[aj]);(try simp(disch:=omega) only[ap]);(try simp(disch:=omega) only[ah]);(try simp(disch:=omega) only[am]);first | done | exact rfl));go_simp;(try simp(disch:=omega) only[af]);(try simp(disch:=omega) only[aj]);(try simp(disch:=omega) only[ap]);(try simp(disch:=omega) only[ah]);(try simp(disch:=omega) only[am]);refine hK _ ?_;clear hK K)
       refine bK rfl rfl rfl (fun KK hK=>?_);go_simp;refine HFl.out.mono ?_;rintro e w6 ⟨r6,M2,rfl,hU6,hI6,hdn6,hw6,hb6⟩;have HR6:=ae (show UX w6 w.heap.size d u M2 U /\ ei M2 U /\ M2.down=false /\ M2.writes <= M.writes /\ Below w.heap.size w w6 from ⟨hU6,hI6,by rw[hdn6];exact Hdn.out,Nat.le_of_eq hw6,HB5.out.trans hb6⟩);refine⟨_,rfl,hK _ _ ?_⟩;clear hK KK HFl hU6 hI6 hdn6 hw6 hb6;go_simp
       repeat (refine aX (v:=?_) rfl (aD rfl) (fun w' hC=>?_) (fun K hK=>?_);rotate_left;(focus (go_simp;(try simp(disch:=omega) only[af]);(try simp(disch:=omega) only[aj]);(try simp(disch:=omega) only[ap]);(try simp(disch:=omega) only[ah]);(try simp(disch:=omega) only[am]);first | done | exact rfl));go_simp;(try simp(disch:=omega) only[af]);(try simp(disch:=omega) only[aj]);(try simp(disch:=omega) only[ap]);(try simp(disch:=omega) only[ah]);(try simp(disch:=omega) only[am]);refine hK _ ?_;clear hK K)
       refine bR ?_;go_wp2_with fail
       go_roundw
       case rel=>exact⟨k+1,u,M2,U,by omega,rfl,by go_num,HR6.out.1,HR6.out.2.1,Hdd.out,HR6.out.2.2.1,Hdv.out,by omega,by have:=HR6.out.2.2.2.1;have:=Hwr.out;omega,HR6.out.2.2.2.2⟩
       case measure=>simp[intOf];omega
    ·-- it is opened again
     have hO:=mI wo (HL.out wo HB.out) _ d M HU.out.disk;rw[HI.out.opened Hdn.out] at hO;have HO:=ae hO;clear hO;go_wp2_with fail;refine HO.out.mono ?_;rintro e w3 ⟨⟨u2,rfl,hU2⟩,hb3⟩;have HU2:=ae hU2;have HB3:=ae hb3;clear hU2 hb3 HO z0
     have HD:=ae (show Calls aC 17 #[.pointer (some ⟨u2,0,none⟩)] w3 fun e w'=>e=.returned (.int .i64 2) /\ w3=w' from by
      have h:=gP w3 _ d u2 M _ HU2.out
      try dsimp only at h
      rw[Hdv.out] at h
      exact h)
     go_wp2_with fail;refine HD.out.mono ?_;rintro e w3' ⟨rfl,rfl⟩;clear HD;have HM1:=ae (fs w3 _ d u M U (HU.out.keep HB3.out) HI.out.ok.valid);go_wp2_with fail;refine HM1.out.mono ?_;rintro e w4 ⟨⟨r,rfl,ho,hbd⟩,hb4⟩;have hmv:=ho.map hbd;obtain⟨t1,t2,t3,rfl,ho'⟩:=id ho;obtain⟨i1,j1,rfl⟩:=own_shape ho'.seen;obtain⟨i2,j2,rfl⟩:=own_shape ho'.items;obtain⟨i3,j3,rfl⟩:=own_shape ho'.gone;have hM2:=fs w4 _ d u2 M _ (HU2.out.keep hb4) HI.out.ok.valid;dsimp only at hM2;have HM2:=ae hM2;have Hmv:=ae hmv;have HB4:=ae (show Below wo.heap.size wo w4 from HB3.out.trans (hb4.mono HB3.out.size));have HU4:=ae (HU2.out.keep hb4);clear HM1 hmv ho ho' hbd hb4 hM2;go_wp2_with fail;refine HM2.out.mono ?_;rintro e w5 ⟨⟨r,rfl,ho,hbd⟩,hb5⟩;have hmv2:=ho.map hbd;obtain⟨t1,t2,t3,rfl,ho'⟩:=id ho;obtain⟨q1,l1,rfl⟩:=own_shape ho'.seen;obtain⟨q2,l2,rfl⟩:=own_shape ho'.items;obtain⟨q3,l3,rfl⟩:=own_shape ho'.gone;have HSm:=ae (eB w5 _ _ _ _ _ _ (Hmv.out.keep (w':=w5) fun q _ hlt=>hb5.block q hlt) hmv2 (bB HI.out.ok.valid).1 (bB HI.out.ok.valid).2.1 (bB HI.out.ok.valid).2.2 (bB HI.out.ok.valid).1 (bB HI.out.ok.valid).2.1 (bB HI.out.ok.valid).2.2);have HB5:=ae (show Below wo.heap.size wo w5 from HB4.out.trans (hb5.mono HB4.out.size));have HU5:=ae (HU4.out.keep hb5);clear HM2 hmv2 ho ho' hbd hb5;go_wp2_with fail;refine HSm.out.mono ?_;rintro e w6 ⟨r2,rfl,hr2,hb6⟩;obtain rfl:r2=true:=hr2.2 rfl
     have HU6:=ae (HU5.out.keep hb6);have HB6:=ae (show Below w.heap.size w w6 from by
      have h:Below wo.heap.size wo w6:=HB5.out.trans (hb6.mono HB5.out.size)
      exact HB.out.trans (h.mono HB.out.size))
     clear HSm hr2 hb6;go_wp2_with fail
     go_roundw
     case rel=>exact⟨k+1,u2,M,_,by omega,rfl,by go_num,HU6.out,⟨HI.out.inv,HI.out.torn,HI.out.ok.dev,HI.out.ok.valid,HI.out.ok.fold⟩,rfl,Hdn.out,Hdv.out,by show U.J.g <= k+1;omega,by have:=Hwr.out;omega,HB6.out⟩
     case measure=>simp[intOf];omega
    ·have h6I:¬ kk=6:=by omega
     have h7I:¬ kk=7:=by omega
     have HM:=ae (fs wo _ d u M U HU.out HI.out.ok.valid);go_wp2_with fail;refine HM.out.mono ?_;rintro e w1 ⟨⟨r,rfl,ho,hbd⟩,hb1⟩;obtain⟨t1,t2,t3,rfl,ho'⟩:=id ho;obtain⟨a1,p1,rfl⟩:=own_shape ho'.seen;obtain⟨a2,p2,rfl⟩:=own_shape ho'.items;obtain⟨a3,p3,rfl⟩:=own_shape ho'.gone;have Hho:=ae ho';have Hhbd:=ae hbd;have Hb1:=ae hb1;clear HM ho ho' hbd hb1 z0;have Hvm:=ae HI.out.ok.valid
     obtain⟨m,hm⟩:∃ m,U.m=m:=⟨_,rfl⟩
     have Hm:=ae hm;rw[hm] at Hho Hhbd Hvm ⊢;clear hm
     obtain⟨w3,hw3⟩:∃ q,q=w1.alloc (.cells #[.slice a1 m.seen.length p1,.slice a2 m.items.length p2,.slice a3 m.gone.length p3] 37):=⟨_,rfl⟩
     have hb3:Below w1.heap.size w1 w3:=by rw[hw3];exact aE _ _
     have hbo3:Below wo.heap.size wo w3:=Hb1.out.trans (hb3.mono Hb1.out.size);have hB3:Below w.heap.size w w3:=HB.out.trans (hbo3.mono HB.out.size);have hB1:Below w.heap.size w w1:=HB.out.trans (Hb1.out.mono HB.out.size);have hU3:=HU.out.at.keep hbo3;have hBb3:Blk w3 w1.heap.size [.slice a1 m.seen.length p1,.slice a2 m.items.length p2,.slice a3 m.gone.length p3] 37:=by rw[hw3];exact Blk.new _ _ _
     have hXb3:bJ (fun q=>wo.heap.size <= q /\ NJ w3 q) w3 (.slice a1 m.seen.length p1) (.slice a2 m.items.length p2) (.slice a3 m.gone.length p3) m:=
      (((Hho.out.map Hhbd.out).both (Hho.out.nj Hhbd.out)).mono (G:=fun q=>wo.heap.size <= q /\ NJ w3 q) fun q hq hlt=>⟨hq.1,dz hq.2 (hb3.block q hlt)⟩).keep fun q hq hlt=>hb3.block q hlt
     obtain⟨g0,g1,g2,g3,g4,g5,g6⟩:=HDs.out;have hcw:∀ j x,w.cell? ⟨b,j,none⟩=some x -> w1.cell? ⟨b,j,none⟩=some x:=fun j x h=>(hB1.cell (p:=⟨b,j,none⟩) hblt).trans h
     have c0':=hcw _ _ g0;have c1':=hcw _ _ g1;have c2':=hcw _ _ g2;have c3':=hcw _ _ g3;have c4':=hcw _ _ g4;have c5':=hcw _ _ g5;have c6':=hcw _ _ g6;have hb1lt:b < w1.heap.size:=aw hblt hB1.size;have hPf:=jD w3 (HL.out w3 hB3) w.heap.size wo.heap.size d u M U hU3 HI.out.ok.dev HI.out.ok.valid (by have:=Hwr.out;omega) y HAL.out xk ck x1 c1 x2 c2 x3 c3 (HRM.out.1.keep fun q hq _=>hB3.block q hq) (HRM.out.2.keep fun q hq _=>hB3.block q hq);have hg1:U.J.g+1 < 4294967295:=by omega
     have hcall:=gR HAL.out HI.out Hdd.out Hdn.out hg1;have hva:=lU HAL.out HI.out Hdd.out Hdn.out hg1;unfold kT at hPf
     obtain⟨⟨M',U',er⟩,hr⟩:∃ r,fM M U y=r:=⟨_,rfl⟩
     obtain⟨x,hxx⟩:∃ x,eX U y=x:=⟨_,rfl⟩
     rw[hr] at hPf hcall;rw[hxx] at hPf hcall hva;dsimp only at hPf;have hB':B y.b=.int .u8 (y.b.toNat:Int):=rfl;rw[hB'] at hPf;have HPf:=ae hPf;have HI':=ae (show ei M' U' /\ U'.dev=2 /\ U'.J.g <= k+1 /\ M'.writes <= 200000+200000 * (k+1) from ⟨hcall.inv,hcall.dev.trans Hdv.out,au hcall.gen (by omega),au hcall.writes (by have:=Hwr.out;omega)⟩)
     have Hout:=ae (show (er=0 /\ U'.m=x /\ U'.J.dead=false /\ M'.down=false) \/ (er≠0 /\ er≠341 /\ U'.m=m /\ U'.J.dead=false /\ M'.down=false) \/ (er=341 /\ U'.m=m /\ U'.J.dead=true /\ M'.down=true) from by
      have h:=hcall.out;rw[Hm.out] at h
      exact h)
     have HV':=ae hcall.inv.ok.valid;have Hva:=ae hva;have HBb3:=ae hBb3;have HXb3:=ae hXb3;have Hw3:=ae hw3;have HB3:=ae hB3;have Hbo3:=ae hbo3;have Hos:=ae (show wo.heap.size <= w1.heap.size from Hb1.out.size);clear hPf hcall hva hr hxx hU3 hBb3 hXb3 hw3 hb3 hbo3 hB3 hB1 g0 g1 g2 g3 g4 g5 g6 hcw hg1 hB';go_wp2_with fail;rw[<- Hw3.out];refine HPf.out.mono ?_;rintro e w4 ⟨s1,s2,s3,rfl,hX4,hU4,ho4⟩;clear c0' c1' c2' c3' c4' c5' c6' hb1lt HPf;obtain⟨n1,m1,rfl,-⟩:=hX4.seen.shape;obtain⟨n2,m2,rfl,-⟩:=hX4.items.shape;obtain⟨n3,m3,rfl,-⟩:=hX4.gone.shape;have hout:∀ q,wo.heap.size <= q -> ¬ Mid w.heap.size wo.heap.size q:=fun q hq hh=>by have:=hh.2;omega
     have hBb4:=HBb3.out.keep (ho4.block _ HBb3.out.lt (hout _ Hos.out));have hXb4:=(HXb3.out.keep (w':=w4) fun q hq hlt=>ho4.block q hlt (hout q hq.1)).mono (G:=NJ w4) fun q hq hlt=>dz hq.2 (ho4.block q (lK hq.2) (hout q hq.1))
     have hb4:Below w.heap.size w w4:=HB3.out.trans (ho4.below (fun q hq=>hq.1) HB3.out.size)
     obtain⟨w5,hw5⟩:∃ q,q=w4.alloc (.cells #[.slice n1 x.seen.length m1,.slice n2 x.items.length m2,.slice n3 x.gone.length m3] 37):=⟨_,rfl⟩
     have hb5:Below w4.heap.size w4 w5:=by rw[hw5];exact aE _ _
     have HUw:=ae (hU4.keep hb5);have HBb:=ae (hBb4.keep (hb5.block _ hBb4.lt));have HXb:=ae (hXb4.njBelow hb5);have HAb:=ae (show Blk w5 w4.heap.size [.slice n1 x.seen.length m1,.slice n2 x.items.length m2,.slice n3 x.gone.length m3] 37 from by rw[hw5];exact Blk.new _ _ _);have HXa:=ae (hX4.keep (w':=w5) fun q hq hlt=>hb5.block q hlt);have HBw:=ae (hb4.trans (hb5.mono hb4.size));have Hw5:=ae hw5
     obtain⟨dn,hdn⟩:∃ b,M'.down=b:=⟨_,rfl⟩
     have hDn:=s5 w5 _ d M' (hU4.keep hb5).disk;rw[hdn] at hDn;have HDn:=ae hDn;have Hdn':=ae hdn;clear hX4 hU4 ho4 hout hBb4 hXb4 hb4 hb5 hw5 hDn hdn;go_wp2_with fail;rw[<- Hw5.out];refine HDn.out.mono ?_;rintro e w5' ⟨rfl,rfl⟩;clear HDn;cases dn with
     | false=>
       obtain⟨wd,hwd⟩:∃ q,q=w5.drew:=⟨_,rfl⟩
       have hbd:Below w5.heap.size w5 wd:=by rw[hwd];exact(Below.refl w5.heap.size w5).drew
       obtain⟨e0,e1,e2⟩:=cell3 (HBb.out.keep (hbd.block _ HBb.out.lt));obtain⟨i0,i1,i2⟩:=cell3 (HAb.out.keep (hbd.block _ HAb.out.lt));have pz:∀ q x,wd.cell? q=some x -> ∀ w',aI wd w' -> w'.cell? q=some x:=fun q x hc w' hh=>(hh.cell (p:=q) (cellLt hc)).trans hc
       have pe0:=pz _ _ e0;have pe1:=pz _ _ e1;have pe2:=pz _ _ e2;have pi0:=pz _ _ i0;have pi1:=pz _ _ i1;have pi2:=pz _ _ i2;have hUd:=HUw.out.keep hbd
       have hdead:U'.J.dead=false:=by
        rcases Hout.out with h | h | h
        ·exact h.2.2.1
        ·exact h.2.2.2.1
        ·rw[Hdn'.out] at h;exact absurd h.2.2.2 (by decide)
       have hDe:=p8 wd w.heap.size d u M' U' hUd;rw[hdead] at hDe;have HDe:=ae hDe;have HMp:=ae (fs wd w.heap.size d u M' U' hUd HV'.out);have HXbd:=ae (HXb.out.keep (w':=wd) fun q _ hlt=>hbd.block q hlt);have HXad:=ae (HXa.out.keep (w':=wd) fun q _ hlt=>hbd.block q hlt);have HBd:=ae (HBw.out.trans (hbd.mono HBw.out.size));have HUd:=ae hUd;have Hwd:=ae hwd;have Hdead:=ae hdead;clear hwd hbd e0 e1 e2 i0 i1 i2 pz hUd hdead hDe
       by_cases he:er=0
       ·have Hxm:=ae (show U'.m=x from by
         rcases Hout.out with h | h | h
         ·exact h.2.1
         ·exact absurd he h.1
         ·rw[he] at h;exact absurd h.1 (by decide))
        subst he;go_wp2_with fail;refine aJ aI [(0,true),(1,false),(2,true),(3,true),(4,true),(5,true),(6,true),(8,true),(7,false),(9,false),(10,true),(11,true),(12,true),(13,true),(14,true),(15,true),(16,true),(17,true),(19,true),(18,false),(20,false),(21,true),(22,true),(23,true)] (by kernel_rfl) (by kernel_rfl) aH aG ?_;rw[<- Hwd.out]
        repeat (first
         | (refine aF (v:=?_) rfl (aD rfl) (fun w' hC=>?_) (fun K hK=>?_);rotate_left;(focus (go_simp;(try simp(disch:=omega) only[af]);(try simp(disch:=omega) only[aj]);(try simp(disch:=omega) only[ap]);(try simp(disch:=omega) only[ah]);(try simp(disch:=omega) only[am]);first | done | exact rfl));go_simp;(try simp(disch:=omega) only[af]);(try simp(disch:=omega) only[aj]);(try simp(disch:=omega) only[ap]);(try simp(disch:=omega) only[ah]);(try simp(disch:=omega) only[am]);refine hK _ ?_;clear hK K)
         | (refine aU rfl (fun A B hA hB=>?_);go_simp;first | (refine hA ⟨?_,fun w' hC=>?_,fun K hK=>?_⟩;rotate_left;(focus (go_simp;(try simp(disch:=omega) only[af]);(try simp(disch:=omega) only[aj]);(try simp(disch:=omega) only[ap]);(try simp(disch:=omega) only[ah]);(try simp(disch:=omega) only[am]);first | done | exact rfl));go_simp;(try simp(disch:=omega) only[af]);(try simp(disch:=omega) only[aj]);(try simp(disch:=omega) only[ap]);(try simp(disch:=omega) only[ah]);(try simp(disch:=omega) only[am]);refine hK _ ?_;clear hK K hA hB A B) | (refine hB (fun K hK=>?_);go_simp;(try simp(disch:=omega) only[af]);(try simp(disch:=omega) only[aj]);(try simp(disch:=omega) only[ap]);(try simp(disch:=omega) only[ah]);(try simp(disch:=omega) only[am]);refine hK _ ?_;clear hK K hA hB A B))
         | (refine aM rfl (fun A B hA hB=>?_);go_simp;refine hB (fun K hK=>?_);go_simp;(try simp(disch:=omega) only[af]);(try simp(disch:=omega) only[aj]);(try simp(disch:=omega) only[ap]);(try simp(disch:=omega) only[ah]);(try simp(disch:=omega) only[am]);refine hK _ ?_;clear hK K hA hB A B))
        refine aQ rfl rfl (fun KK hK=>?_);go_simp;refine HDe.out.mono ?_;rintro e wz ⟨rfl,rfl⟩;refine⟨_,rfl,aH _,hK _ _ ?_⟩;clear hK KK HDe;go_simp
        repeat (first
         | (refine aF (v:=?_) rfl (aD rfl) (fun w' hC=>?_) (fun K hK=>?_);rotate_left;(focus (go_simp;(try simp(disch:=omega) only[af]);(try simp(disch:=omega) only[aj]);(try simp(disch:=omega) only[ap]);(try simp(disch:=omega) only[ah]);(try simp(disch:=omega) only[am]);first | done | exact rfl));go_simp;(try simp(disch:=omega) only[af]);(try simp(disch:=omega) only[aj]);(try simp(disch:=omega) only[ap]);(try simp(disch:=omega) only[ah]);(try simp(disch:=omega) only[am]);refine hK _ ?_;clear hK K)
         | (refine aU rfl (fun A B hA hB=>?_);go_simp;first | (refine hA ⟨?_,fun w' hC=>?_,fun K hK=>?_⟩;rotate_left;(focus (go_simp;(try simp(disch:=omega) only[af]);(try simp(disch:=omega) only[aj]);(try simp(disch:=omega) only[ap]);(try simp(disch:=omega) only[ah]);(try simp(disch:=omega) only[am]);first | done | exact rfl));go_simp;(try simp(disch:=omega) only[af]);(try simp(disch:=omega) only[aj]);(try simp(disch:=omega) only[ap]);(try simp(disch:=omega) only[ah]);(try simp(disch:=omega) only[am]);refine hK _ ?_;clear hK K hA hB A B) | (refine hB (fun K hK=>?_);go_simp;(try simp(disch:=omega) only[af]);(try simp(disch:=omega) only[aj]);(try simp(disch:=omega) only[ap]);(try simp(disch:=omega) only[ah]);(try simp(disch:=omega) only[am]);refine hK _ ?_;clear hK K hA hB A B))
         | (refine aM rfl (fun A B hA hB=>?_);go_simp;refine hB (fun K hK=>?_);go_simp;(try simp(disch:=omega) only[af]);(try simp(disch:=omega) only[aj]);(try simp(disch:=omega) only[ap]);(try simp(disch:=omega) only[ah]);(try simp(disch:=omega) only[am]);refine hK _ ?_;clear hK K hA hB A B))
        refine aQ rfl rfl (fun KK hK=>?_);go_simp;refine HMp.out.mono ?_;rintro e wm ⟨⟨r,rfl,ho,hbd⟩,hb⟩;have hmv:=ho.map hbd;obtain⟨t1,t2,t3,rfl,ho'⟩:=id ho;obtain⟨q1,l1,rfl⟩:=own_shape ho'.seen;obtain⟨q2,l2,rfl⟩:=own_shape ho'.items;obtain⟨q3,l3,rfl⟩:=own_shape ho'.gone;refine⟨_,rfl,hb,hK _ _ ?_⟩;clear hK KK HMp;go_simp;have HS2:=ae (eB wm _ _ _ (.agg #[.slice n1 x.seen.length m1,.slice n2 x.items.length m2,.slice n3 x.gone.length m3]) _ x hmv ⟨_,_,_,rfl,HXad.out.keep (w':=wm) fun q _ hlt=>hb.block q hlt⟩ (bB HV'.out).1 (bB HV'.out).2.1 (bB HV'.out).2.2 (bB Hva.out).1 (bB Hva.out).2.1 (bB Hva.out).2.2);have HBm:=ae hb;clear hmv ho ho' hbd hb
        repeat (first
         | (refine aF (v:=?_) rfl (aD rfl) (fun w' hC=>?_) (fun K hK=>?_);rotate_left;(focus (go_simp;(try simp(disch:=omega) only[af]);(try simp(disch:=omega) only[aj]);(try simp(disch:=omega) only[ap]);(try simp(disch:=omega) only[ah]);(try simp(disch:=omega) only[am]);first | done | exact rfl));go_simp;(try simp(disch:=omega) only[af]);(try simp(disch:=omega) only[aj]);(try simp(disch:=omega) only[ap]);(try simp(disch:=omega) only[ah]);(try simp(disch:=omega) only[am]);refine hK _ ?_;clear hK K)
         | (refine aU rfl (fun A B hA hB=>?_);go_simp;first | (refine hA ⟨?_,fun w' hC=>?_,fun K hK=>?_⟩;rotate_left;(focus (go_simp;(try simp(disch:=omega) only[af]);(try simp(disch:=omega) only[aj]);(try simp(disch:=omega) only[ap]);(try simp(disch:=omega) only[ah]);(try simp(disch:=omega) only[am]);first | done | exact rfl));go_simp;(try simp(disch:=omega) only[af]);(try simp(disch:=omega) only[aj]);(try simp(disch:=omega) only[ap]);(try simp(disch:=omega) only[ah]);(try simp(disch:=omega) only[am]);refine hK _ ?_;clear hK K hA hB A B) | (refine hB (fun K hK=>?_);go_simp;(try simp(disch:=omega) only[af]);(try simp(disch:=omega) only[aj]);(try simp(disch:=omega) only[ap]);(try simp(disch:=omega) only[ah]);(try simp(disch:=omega) only[am]);refine hK _ ?_;clear hK K hA hB A B))
         | (refine aM rfl (fun A B hA hB=>?_);go_simp;refine hB (fun K hK=>?_);go_simp;(try simp(disch:=omega) only[af]);(try simp(disch:=omega) only[aj]);(try simp(disch:=omega) only[ap]);(try simp(disch:=omega) only[ah]);(try simp(disch:=omega) only[am]);refine hK _ ?_;clear hK K hA hB A B))
        refine aQ rfl rfl (fun KK hK=>?_);go_simp;refine HS2.out.mono ?_;rintro e wn ⟨r2,rfl,hr2,hb2⟩;obtain rfl:r2=true:=hr2.2 Hxm.out;refine⟨_,rfl,hb2,hK _ _ ?_⟩;have HBn:=ae (show Below wd.heap.size wd wn from HBm.out.trans (hb2.mono HBm.out.size));clear hK KK HS2 hr2 hb2;go_simp
        repeat (first
         | (refine aF (v:=?_) rfl (aD rfl) (fun w' hC=>?_) (fun K hK=>?_);rotate_left;(focus (go_simp;(try simp(disch:=omega) only[af]);(try simp(disch:=omega) only[aj]);(try simp(disch:=omega) only[ap]);(try simp(disch:=omega) only[ah]);(try simp(disch:=omega) only[am]);first | done | exact rfl));go_simp;(try simp(disch:=omega) only[af]);(try simp(disch:=omega) only[aj]);(try simp(disch:=omega) only[ap]);(try simp(disch:=omega) only[ah]);(try simp(disch:=omega) only[am]);refine hK _ ?_;clear hK K)
         | (refine aU rfl (fun A B hA hB=>?_);go_simp;first | (refine hA ⟨?_,fun w' hC=>?_,fun K hK=>?_⟩;rotate_left;(focus (go_simp;(try simp(disch:=omega) only[af]);(try simp(disch:=omega) only[aj]);(try simp(disch:=omega) only[ap]);(try simp(disch:=omega) only[ah]);(try simp(disch:=omega) only[am]);first | done | exact rfl));go_simp;(try simp(disch:=omega) only[af]);(try simp(disch:=omega) only[aj]);(try simp(disch:=omega) only[ap]);(try simp(disch:=omega) only[ah]);(try simp(disch:=omega) only[am]);refine hK _ ?_;clear hK K hA hB A B) | (refine hB (fun K hK=>?_);go_simp;(try simp(disch:=omega) only[af]);(try simp(disch:=omega) only[aj]);(try simp(disch:=omega) only[ap]);(try simp(disch:=omega) only[ah]);(try simp(disch:=omega) only[am]);refine hK _ ?_;clear hK K hA hB A B))
         | (refine aM rfl (fun A B hA hB=>?_);go_simp;refine hB (fun K hK=>?_);go_simp;(try simp(disch:=omega) only[af]);(try simp(disch:=omega) only[aj]);(try simp(disch:=omega) only[ap]);(try simp(disch:=omega) only[ah]);(try simp(disch:=omega) only[am]);refine hK _ ?_;clear hK K hA hB A B))
        refine aW ?_;clear pe0 pe1 pe2 pi0 pi1 pi2;go_wp2_with fail
        go_roundw
        case rel=>exact⟨k+1,u,M',U',by omega,rfl,by go_num,HUd.out.keep HBn.out,HI'.out.1,Hdead.out,Hdn'.out,HI'.out.2.1,HI'.out.2.2.1,HI'.out.2.2.2,HBd.out.trans (HBn.out.mono HBd.out.size)⟩
        case measure=>simp[intOf];omega
       ·have Hxm:=ae (show U'.m=m from by
         rcases Hout.out with h | h | h
         ·exact absurd h.1 he
         ·exact h.2.2.1
         ·exact h.2.1)
        have heB:(er == 0)=false:=beq_eq_false_iff_ne.2 he;have heC:(er != 0)=true:=bne_iff_ne.2 he;go_wp2_with fail;refine aJ aI [(0,true),(1,false),(2,true),(3,true),(4,true),(5,true),(6,true),(8,true),(7,false),(9,false),(10,true),(11,true),(12,true),(13,true),(14,true),(15,true),(16,true),(17,true),(19,true),(18,false),(20,false),(21,true),(22,true),(23,true)] (by kernel_rfl) (by kernel_rfl) aH aG ?_;rw[<- Hwd.out]
        repeat (first
         | (refine aF (v:=?_) rfl (aD rfl) (fun w' hC=>?_) (fun K hK=>?_);rotate_left;(focus (go_simp;(try simp(disch:=omega) only[af]);(try simp(disch:=omega) only[aj]);(try simp(disch:=omega) only[ap]);(try simp(disch:=omega) only[ah]);(try simp(disch:=omega) only[am]);first | done | exact rfl));go_simp;(try simp(disch:=omega) only[af]);(try simp(disch:=omega) only[aj]);(try simp(disch:=omega) only[ap]);(try simp(disch:=omega) only[ah]);(try simp(disch:=omega) only[am]);refine hK _ ?_;clear hK K)
         | (refine aU rfl (fun A B hA hB=>?_);go_simp;first | (refine hA ⟨?_,fun w' hC=>?_,fun K hK=>?_⟩;rotate_left;(focus (go_simp;(try simp(disch:=omega) only[af]);(try simp(disch:=omega) only[aj]);(try simp(disch:=omega) only[ap]);(try simp(disch:=omega) only[ah]);(try simp(disch:=omega) only[am]);first | done | exact rfl));go_simp;(try simp(disch:=omega) only[af]);(try simp(disch:=omega) only[aj]);(try simp(disch:=omega) only[ap]);(try simp(disch:=omega) only[ah]);(try simp(disch:=omega) only[am]);refine hK _ ?_;clear hK K hA hB A B) | (refine hB (fun K hK=>?_);go_simp;(try simp(disch:=omega) only[af]);(try simp(disch:=omega) only[aj]);(try simp(disch:=omega) only[ap]);(try simp(disch:=omega) only[ah]);(try simp(disch:=omega) only[am]);refine hK _ ?_;clear hK K hA hB A B))
         | (refine aM rfl (fun A B hA hB=>?_);go_simp;refine hB (fun K hK=>?_);go_simp;(try simp(disch:=omega) only[af]);(try simp(disch:=omega) only[aj]);(try simp(disch:=omega) only[ap]);(try simp(disch:=omega) only[ah]);(try simp(disch:=omega) only[am]);refine hK _ ?_;clear hK K hA hB A B))
        refine aQ rfl rfl (fun KK hK=>?_);go_simp;refine HDe.out.mono ?_;rintro e wz ⟨rfl,rfl⟩;refine⟨_,rfl,aH _,hK _ _ ?_⟩;clear hK KK HDe;go_simp
        repeat (first
         | (refine aF (v:=?_) rfl (aD rfl) (fun w' hC=>?_) (fun K hK=>?_);rotate_left;(focus (go_simp;(try simp(disch:=omega) only[af]);(try simp(disch:=omega) only[aj]);(try simp(disch:=omega) only[ap]);(try simp(disch:=omega) only[ah]);(try simp(disch:=omega) only[am]);first | done | exact rfl));go_simp;(try simp(disch:=omega) only[af]);(try simp(disch:=omega) only[aj]);(try simp(disch:=omega) only[ap]);(try simp(disch:=omega) only[ah]);(try simp(disch:=omega) only[am]);refine hK _ ?_;clear hK K)
         | (refine aU rfl (fun A B hA hB=>?_);go_simp;first | (refine hA ⟨?_,fun w' hC=>?_,fun K hK=>?_⟩;rotate_left;(focus (go_simp;(try simp(disch:=omega) only[af]);(try simp(disch:=omega) only[aj]);(try simp(disch:=omega) only[ap]);(try simp(disch:=omega) only[ah]);(try simp(disch:=omega) only[am]);first | done | exact rfl));go_simp;(try simp(disch:=omega) only[af]);(try simp(disch:=omega) only[aj]);(try simp(disch:=omega) only[ap]);(try simp(disch:=omega) only[ah]);(try simp(disch:=omega) only[am]);refine hK _ ?_;clear hK K hA hB A B) | (refine hB (fun K hK=>?_);go_simp;(try simp(disch:=omega) only[af]);(try simp(disch:=omega) only[aj]);(try simp(disch:=omega) only[ap]);(try simp(disch:=omega) only[ah]);(try simp(disch:=omega) only[am]);refine hK _ ?_;clear hK K hA hB A B))
         | (refine aM rfl (fun A B hA hB=>?_);go_simp;refine hB (fun K hK=>?_);go_simp;(try simp(disch:=omega) only[af]);(try simp(disch:=omega) only[aj]);(try simp(disch:=omega) only[ap]);(try simp(disch:=omega) only[ah]);(try simp(disch:=omega) only[am]);refine hK _ ?_;clear hK K hA hB A B))
        refine aQ rfl rfl (fun KK hK=>?_);go_simp;refine HMp.out.mono ?_;rintro e wm ⟨⟨r,rfl,ho,hbd⟩,hb⟩;have hmv:=ho.map hbd;obtain⟨t1,t2,t3,rfl,ho'⟩:=id ho;obtain⟨q1,l1,rfl⟩:=own_shape ho'.seen;obtain⟨q2,l2,rfl⟩:=own_shape ho'.items;obtain⟨q3,l3,rfl⟩:=own_shape ho'.gone;refine⟨_,rfl,hb,hK _ _ ?_⟩;clear hK KK HMp;go_simp;have HS2:=ae (eB wm _ _ _ (.agg #[.slice a1 m.seen.length p1,.slice a2 m.items.length p2,.slice a3 m.gone.length p3]) _ m hmv ⟨_,_,_,rfl,HXbd.out.keep (w':=wm) fun q _ hlt=>hb.block q hlt⟩ (bB HV'.out).1 (bB HV'.out).2.1 (bB HV'.out).2.2 (bB Hvm.out).1 (bB Hvm.out).2.1 (bB Hvm.out).2.2);have HBm:=ae hb;clear hmv ho ho' hbd hb
        repeat (first
         | (refine aF (v:=?_) rfl (aD rfl) (fun w' hC=>?_) (fun K hK=>?_);rotate_left;(focus (go_simp;(try simp(disch:=omega) only[af]);(try simp(disch:=omega) only[aj]);(try simp(disch:=omega) only[ap]);(try simp(disch:=omega) only[ah]);(try simp(disch:=omega) only[am]);first | done | exact rfl));go_simp;(try simp(disch:=omega) only[af]);(try simp(disch:=omega) only[aj]);(try simp(disch:=omega) only[ap]);(try simp(disch:=omega) only[ah]);(try simp(disch:=omega) only[am]);refine hK _ ?_;clear hK K)
         | (refine aU rfl (fun A B hA hB=>?_);go_simp;first | (refine hA ⟨?_,fun w' hC=>?_,fun K hK=>?_⟩;rotate_left;(focus (go_simp;(try simp(disch:=omega) only[af]);(try simp(disch:=omega) only[aj]);(try simp(disch:=omega) only[ap]);(try simp(disch:=omega) only[ah]);(try simp(disch:=omega) only[am]);first | done | exact rfl));go_simp;(try simp(disch:=omega) only[af]);(try simp(disch:=omega) only[aj]);(try simp(disch:=omega) only[ap]);(try simp(disch:=omega) only[ah]);(try simp(disch:=omega) only[am]);refine hK _ ?_;clear hK K hA hB A B) | (refine hB (fun K hK=>?_);go_simp;(try simp(disch:=omega) only[af]);(try simp(disch:=omega) only[aj]);(try simp(disch:=omega) only[ap]);(try simp(disch:=omega) only[ah]);(try simp(disch:=omega) only[am]);refine hK _ ?_;clear hK K hA hB A B))
         | (refine aM rfl (fun A B hA hB=>?_);go_simp;refine hB (fun K hK=>?_);go_simp;(try simp(disch:=omega) only[af]);(try simp(disch:=omega) only[aj]);(try simp(disch:=omega) only[ap]);(try simp(disch:=omega) only[ah]);(try simp(disch:=omega) only[am]);refine hK _ ?_;clear hK K hA hB A B))
        refine aQ rfl rfl (fun KK hK=>?_);go_simp;refine HS2.out.mono ?_;rintro e wn ⟨r2,rfl,hr2,hb2⟩;obtain rfl:r2=true:=hr2.2 Hxm.out;refine⟨_,rfl,hb2,hK _ _ ?_⟩;have HBn:=ae (show Below wd.heap.size wd wn from HBm.out.trans (hb2.mono HBm.out.size));clear hK KK HS2 hr2 hb2;go_simp
        repeat (first
         | (refine aF (v:=?_) rfl (aD rfl) (fun w' hC=>?_) (fun K hK=>?_);rotate_left;(focus (go_simp;(try simp(disch:=omega) only[af]);(try simp(disch:=omega) only[aj]);(try simp(disch:=omega) only[ap]);(try simp(disch:=omega) only[ah]);(try simp(disch:=omega) only[am]);first | done | exact rfl));go_simp;(try simp(disch:=omega) only[af]);(try simp(disch:=omega) only[aj]);(try simp(disch:=omega) only[ap]);(try simp(disch:=omega) only[ah]);(try simp(disch:=omega) only[am]);refine hK _ ?_;clear hK K)
         | (refine aU rfl (fun A B hA hB=>?_);go_simp;first | (refine hA ⟨?_,fun w' hC=>?_,fun K hK=>?_⟩;rotate_left;(focus (go_simp;(try simp(disch:=omega) only[af]);(try simp(disch:=omega) only[aj]);(try simp(disch:=omega) only[ap]);(try simp(disch:=omega) only[ah]);(try simp(disch:=omega) only[am]);first | done | exact rfl));go_simp;(try simp(disch:=omega) only[af]);(try simp(disch:=omega) only[aj]);(try simp(disch:=omega) only[ap]);(try simp(disch:=omega) only[ah]);(try simp(disch:=omega) only[am]);refine hK _ ?_;clear hK K hA hB A B) | (refine hB (fun K hK=>?_);go_simp;(try simp(disch:=omega) only[af]);(try simp(disch:=omega) only[aj]);(try simp(disch:=omega) only[ap]);(try simp(disch:=omega) only[ah]);(try simp(disch:=omega) only[am]);refine hK _ ?_;clear hK K hA hB A B))
         | (refine aM rfl (fun A B hA hB=>?_);go_simp;refine hB (fun K hK=>?_);go_simp;(try simp(disch:=omega) only[af]);(try simp(disch:=omega) only[aj]);(try simp(disch:=omega) only[ap]);(try simp(disch:=omega) only[ah]);(try simp(disch:=omega) only[am]);refine hK _ ?_;clear hK K hA hB A B))
        refine aW ?_;clear pe0 pe1 pe2 pi0 pi1 pi2;go_wp2_with fail
        go_roundw
        case rel=>exact⟨k+1,u,M',U',by omega,rfl,by go_num,HUd.out.keep HBn.out,HI'.out.1,Hdead.out,Hdn'.out,HI'.out.2.1,HI'.out.2.2.1,HI'.out.2.2.2,HBd.out.trans (HBn.out.mono HBd.out.size)⟩
        case measure=>simp[intOf];omega
     | true=>
       obtain⟨hr1,hr2,hr3⟩:er=341 /\ U'.m=m /\ U'.J.dead=true:=by
        rcases Hout.out with h | h | h
        ·rw[Hdn'.out] at h;exact absurd h.2.2.2 (by decide)
        ·rw[Hdn'.out] at h;exact absurd h.2.2.2.2 (by decide)
        ·exact⟨h.1,h.2.1,h.2.2.1⟩
       subst hr1;have hDe:=p8 w5 w.heap.size d u M' U' HUw.out;rw[hr3] at hDe;have HDe:=ae hDe;have Hxm:=ae hr2;have Hdead:=ae hr3;have HK:=ae (show ∀ W,Calls aC 24 #[.string ⟨#[120]⟩,.string ⟨#[121]⟩] W fun e w'=>e=.returned (.string ⟨([49,120,0,121]:List UInt8).toArray⟩) /\ W=w' from fun W=>tf W [120] [121] (by decide) (by decide));clear hDe hr2 hr3 Hout HXa HAb;go_wp2_with fail;refine HDe.out.mono ?_;rintro e w5' ⟨rfl,rfl⟩;clear HDe;go_wp2_with fail;refine(HK.out _).mono ?_;rintro e w5' ⟨rfl,rfl⟩;clear HK
       obtain⟨w6,hw6⟩:∃ q,q=w5.alloc (.cells #[.string ⟨([49,120,0,121]:List UInt8).toArray⟩] 9):=⟨_,rfl⟩
       have hb6:Below w5.heap.size w5 w6:=by rw[hw6];exact aE _ _
       have hr6:Rows (fun b=>b=w5.heap.size) w6 1 (.slice (some ⟨w5.heap.size,0,none⟩) 1 1) ([[49,120,0,121]]:List (List UInt8)).length (([[49,120,0,121]]:List (List UInt8)).map Go.Proofs.encStr):=by
        rw[hw6];exact rows_new w5 #[.string ⟨([49,120,0,121]:List UInt8).toArray⟩] 9 1 rfl (by unfold maxLen;omega)
       have hB6:Below w.heap.size w w6:=HBw.out.trans (hb6.mono HBw.out.size);have hLe:=tc w6 (HL.out w6 hB6) w.heap.size d u M' U' (HUw.out.keep hb6) (by rw[HI'.out.2.1];decide) HV'.out _ _ [[49,120,0,121]] hr6 (by decide) (fun k hk=>by rw[List.mem_singleton.1 hk];decide) (by have:=HI'.out.2.2.2;omega);rw[pL _ Hdead.out] at hLe;dsimp only at hLe;have HLe:=ae hLe;have Hw6:=ae hw6;have HB6:=ae hB6;have HK6:=ae (Kp.of_below hb6);clear hLe hw6 hb6 hr6 hB6;go_wp2_with fail;rw[<- Hw6.out];refine HLe.out.mono ?_;rintro e w7 ⟨rfl,hU7,hb7,hk7⟩;have HU7:=ae hU7;have HB7:=ae (show Below w.heap.size w w7 from HB6.out.trans hb7);have HK7:=ae (HK6.out.trans hk7);clear hU7 hb7 hk7 HLe;have HUp:=ae (tW w7 w.heap.size d u M' U' HU7.out);go_wp2_with fail;refine HUp.out.mono ?_;rintro e w8 ⟨rfl,hD8,hb8,hk8'⟩;have hB8:Below w.heap.size w w8:=HB7.out.trans hb8;have hOp:=mI w8 (HL.out w8 hB8) w.heap.size d _ hD8;have hup:=HI'.out.1.up;rw[hup.opened rfl] at hOp;dsimp only at hOp;have HOp:=ae hOp;have HB8:=ae hB8;have HK8:=ae (HK7.out.trans hk8');have Hup:=ae hup;clear hOp hD8 hb8 hk8' hB8 HUp hup;go_wp2_with fail;refine HOp.out.mono ?_;rintro e w9 ⟨⟨u2,rfl,hU9⟩,hb9⟩;have hk9:Kp w5 w9:=HK8.out.trans (Kp.of_below hb9);have hBb9:=hk9.box HBb.out;have hXb9:=hk9.rows HXb.out;have hB9:Below w.heap.size w w9:=HB8.out.trans (hb9.mono HB8.out.size)
       obtain⟨wd,hwd⟩:∃ q,q=w9.drew:=⟨_,rfl⟩
       have hbd:Below w9.heap.size w9 wd:=by rw[hwd];exact(Below.refl w9.heap.size w9).drew
       obtain⟨e0,e1,e2⟩:=cell3 (hBb9.keep (hbd.block _ hBb9.lt));have pz:∀ q x,wd.cell? q=some x -> ∀ w',aI wd w' -> w'.cell? q=some x:=fun q x hc w' hh=>(hh.cell (p:=q) (cellLt hc)).trans hc
       have pe0:=pz _ _ e0;have pe1:=pz _ _ e1;have pe2:=pz _ _ e2;have hUd:=hU9.keep hbd
       have HDv:=ae (show Calls aC 17 #[.pointer (some ⟨u2,0,none⟩)] wd fun e w'=>e=.returned (.int .i64 2) /\ wd=w' from by
        have h:=gP wd _ d u2 _ _ hUd;dsimp only at h;rw[HI'.out.2.1] at h
        exact h)
       have hMp:=fs wd w.heap.size d u2 _ _ hUd HV'.out;dsimp only at hMp;have HMp:=ae hMp;have HXbd:=ae (hXb9.keep (w':=wd) fun q _ hlt=>hbd.block q hlt);have HBd:=ae (hB9.trans (hbd.mono hB9.size));have HUd:=ae hUd;have Hwd:=ae hwd;clear hwd hbd e0 e1 e2 pz hUd hMp hU9 hb9 hk9 hBb9 hXb9 hB9 HOp;go_wp2_with fail;refine aJ aI [(0,true),(1,true),(2,true),(3,true),(4,false),(5,true),(6,true),(7,true),(8,true),(10,true),(9,false),(11,false),(12,true),(13,true),(14,true),(16,true),(15,false),(17,false),(18,true),(19,true),(20,true)] (by kernel_rfl) (by kernel_rfl) aH aG ?_;rw[<- Hwd.out]
       repeat (first
        | (refine aF (v:=?_) rfl (aD rfl) (fun w' hC=>?_) (fun K hK=>?_);rotate_left;(focus (go_simp;(try simp(disch:=omega) only[af]);(try simp(disch:=omega) only[aj]);(try simp(disch:=omega) only[ap]);(try simp(disch:=omega) only[ah]);(try simp(disch:=omega) only[am]);first | done | exact rfl));go_simp;(try simp(disch:=omega) only[af]);(try simp(disch:=omega) only[aj]);(try simp(disch:=omega) only[ap]);(try simp(disch:=omega) only[ah]);(try simp(disch:=omega) only[am]);refine hK _ ?_;clear hK K)
        | (refine aU rfl (fun A B hA hB=>?_);go_simp;first | (refine hA ⟨?_,fun w' hC=>?_,fun K hK=>?_⟩;rotate_left;(focus (go_simp;(try simp(disch:=omega) only[af]);(try simp(disch:=omega) only[aj]);(try simp(disch:=omega) only[ap]);(try simp(disch:=omega) only[ah]);(try simp(disch:=omega) only[am]);first | done | exact rfl));go_simp;(try simp(disch:=omega) only[af]);(try simp(disch:=omega) only[aj]);(try simp(disch:=omega) only[ap]);(try simp(disch:=omega) only[ah]);(try simp(disch:=omega) only[am]);refine hK _ ?_;clear hK K hA hB A B) | (refine hB (fun K hK=>?_);go_simp;(try simp(disch:=omega) only[af]);(try simp(disch:=omega) only[aj]);(try simp(disch:=omega) only[ap]);(try simp(disch:=omega) only[ah]);(try simp(disch:=omega) only[am]);refine hK _ ?_;clear hK K hA hB A B))
        | (refine aM rfl (fun A B hA hB=>?_);go_simp;refine hB (fun K hK=>?_);go_simp;(try simp(disch:=omega) only[af]);(try simp(disch:=omega) only[aj]);(try simp(disch:=omega) only[ap]);(try simp(disch:=omega) only[ah]);(try simp(disch:=omega) only[am]);refine hK _ ?_;clear hK K hA hB A B))
       refine aQ rfl rfl (fun KK hK=>?_);go_simp;refine HDv.out.mono ?_;rintro e wz ⟨rfl,rfl⟩;refine⟨_,rfl,aH _,hK _ _ ?_⟩;clear hK KK HDv;go_simp
       repeat (first
        | (refine aF (v:=?_) rfl (aD rfl) (fun w' hC=>?_) (fun K hK=>?_);rotate_left;(focus (go_simp;(try simp(disch:=omega) only[af]);(try simp(disch:=omega) only[aj]);(try simp(disch:=omega) only[ap]);(try simp(disch:=omega) only[ah]);(try simp(disch:=omega) only[am]);first | done | exact rfl));go_simp;(try simp(disch:=omega) only[af]);(try simp(disch:=omega) only[aj]);(try simp(disch:=omega) only[ap]);(try simp(disch:=omega) only[ah]);(try simp(disch:=omega) only[am]);refine hK _ ?_;clear hK K)
        | (refine aU rfl (fun A B hA hB=>?_);go_simp;first | (refine hA ⟨?_,fun w' hC=>?_,fun K hK=>?_⟩;rotate_left;(focus (go_simp;(try simp(disch:=omega) only[af]);(try simp(disch:=omega) only[aj]);(try simp(disch:=omega) only[ap]);(try simp(disch:=omega) only[ah]);(try simp(disch:=omega) only[am]);first | done | exact rfl));go_simp;(try simp(disch:=omega) only[af]);(try simp(disch:=omega) only[aj]);(try simp(disch:=omega) only[ap]);(try simp(disch:=omega) only[ah]);(try simp(disch:=omega) only[am]);refine hK _ ?_;clear hK K hA hB A B) | (refine hB (fun K hK=>?_);go_simp;(try simp(disch:=omega) only[af]);(try simp(disch:=omega) only[aj]);(try simp(disch:=omega) only[ap]);(try simp(disch:=omega) only[ah]);(try simp(disch:=omega) only[am]);refine hK _ ?_;clear hK K hA hB A B))
        | (refine aM rfl (fun A B hA hB=>?_);go_simp;refine hB (fun K hK=>?_);go_simp;(try simp(disch:=omega) only[af]);(try simp(disch:=omega) only[aj]);(try simp(disch:=omega) only[ap]);(try simp(disch:=omega) only[ah]);(try simp(disch:=omega) only[am]);refine hK _ ?_;clear hK K hA hB A B))
       refine aQ rfl rfl (fun KK hK=>?_);go_simp;refine HMp.out.mono ?_;rintro e wm ⟨⟨r,rfl,ho,hbd⟩,hb⟩;have hmv:=ho.map hbd;obtain⟨t1,t2,t3,rfl,ho'⟩:=id ho;obtain⟨q1,l1,rfl⟩:=own_shape ho'.seen;obtain⟨q2,l2,rfl⟩:=own_shape ho'.items;obtain⟨q3,l3,rfl⟩:=own_shape ho'.gone;refine⟨_,rfl,hb,hK _ _ ?_⟩;clear hK KK HMp;go_simp;have HS2:=ae (eB wm _ _ _ (.agg #[.slice a1 m.seen.length p1,.slice a2 m.items.length p2,.slice a3 m.gone.length p3]) _ m hmv ⟨_,_,_,rfl,HXbd.out.keep (w':=wm) fun q _ hlt=>hb.block q hlt⟩ (bB HV'.out).1 (bB HV'.out).2.1 (bB HV'.out).2.2 (bB Hvm.out).1 (bB Hvm.out).2.1 (bB Hvm.out).2.2);have HBm:=ae hb;clear hmv ho ho' hbd hb
       repeat (first
        | (refine aF (v:=?_) rfl (aD rfl) (fun w' hC=>?_) (fun K hK=>?_);rotate_left;(focus (go_simp;(try simp(disch:=omega) only[af]);(try simp(disch:=omega) only[aj]);(try simp(disch:=omega) only[ap]);(try simp(disch:=omega) only[ah]);(try simp(disch:=omega) only[am]);first | done | exact rfl));go_simp;(try simp(disch:=omega) only[af]);(try simp(disch:=omega) only[aj]);(try simp(disch:=omega) only[ap]);(try simp(disch:=omega) only[ah]);(try simp(disch:=omega) only[am]);refine hK _ ?_;clear hK K)
        | (refine aU rfl (fun A B hA hB=>?_);go_simp;first | (refine hA ⟨?_,fun w' hC=>?_,fun K hK=>?_⟩;rotate_left;(focus (go_simp;(try simp(disch:=omega) only[af]);(try simp(disch:=omega) only[aj]);(try simp(disch:=omega) only[ap]);(try simp(disch:=omega) only[ah]);(try simp(disch:=omega) only[am]);first | done | exact rfl));go_simp;(try simp(disch:=omega) only[af]);(try simp(disch:=omega) only[aj]);(try simp(disch:=omega) only[ap]);(try simp(disch:=omega) only[ah]);(try simp(disch:=omega) only[am]);refine hK _ ?_;clear hK K hA hB A B) | (refine hB (fun K hK=>?_);go_simp;(try simp(disch:=omega) only[af]);(try simp(disch:=omega) only[aj]);(try simp(disch:=omega) only[ap]);(try simp(disch:=omega) only[ah]);(try simp(disch:=omega) only[am]);refine hK _ ?_;clear hK K hA hB A B))
        | (refine aM rfl (fun A B hA hB=>?_);go_simp;refine hB (fun K hK=>?_);go_simp;(try simp(disch:=omega) only[af]);(try simp(disch:=omega) only[aj]);(try simp(disch:=omega) only[ap]);(try simp(disch:=omega) only[ah]);(try simp(disch:=omega) only[am]);refine hK _ ?_;clear hK K hA hB A B))
       refine aQ rfl rfl (fun KK hK=>?_);go_simp;refine HS2.out.mono ?_;rintro e wn ⟨r2,rfl,hr2,hb2⟩;obtain rfl:r2=true:=hr2.2 Hxm.out;refine⟨_,rfl,hb2,hK _ _ ?_⟩;have HBn:=ae (show Below wd.heap.size wd wn from HBm.out.trans (hb2.mono HBm.out.size));clear hK KK HS2 hr2 hb2;go_simp
       repeat (first
        | (refine aF (v:=?_) rfl (aD rfl) (fun w' hC=>?_) (fun K hK=>?_);rotate_left;(focus (go_simp;(try simp(disch:=omega) only[af]);(try simp(disch:=omega) only[aj]);(try simp(disch:=omega) only[ap]);(try simp(disch:=omega) only[ah]);(try simp(disch:=omega) only[am]);first | done | exact rfl));go_simp;(try simp(disch:=omega) only[af]);(try simp(disch:=omega) only[aj]);(try simp(disch:=omega) only[ap]);(try simp(disch:=omega) only[ah]);(try simp(disch:=omega) only[am]);refine hK _ ?_;clear hK K)
        | (refine aU rfl (fun A B hA hB=>?_);go_simp;first | (refine hA ⟨?_,fun w' hC=>?_,fun K hK=>?_⟩;rotate_left;(focus (go_simp;(try simp(disch:=omega) only[af]);(try simp(disch:=omega) only[aj]);(try simp(disch:=omega) only[ap]);(try simp(disch:=omega) only[ah]);(try simp(disch:=omega) only[am]);first | done | exact rfl));go_simp;(try simp(disch:=omega) only[af]);(try simp(disch:=omega) only[aj]);(try simp(disch:=omega) only[ap]);(try simp(disch:=omega) only[ah]);(try simp(disch:=omega) only[am]);refine hK _ ?_;clear hK K hA hB A B) | (refine hB (fun K hK=>?_);go_simp;(try simp(disch:=omega) only[af]);(try simp(disch:=omega) only[aj]);(try simp(disch:=omega) only[ap]);(try simp(disch:=omega) only[ah]);(try simp(disch:=omega) only[am]);refine hK _ ?_;clear hK K hA hB A B))
        | (refine aM rfl (fun A B hA hB=>?_);go_simp;refine hB (fun K hK=>?_);go_simp;(try simp(disch:=omega) only[af]);(try simp(disch:=omega) only[aj]);(try simp(disch:=omega) only[ap]);(try simp(disch:=omega) only[ah]);(try simp(disch:=omega) only[am]);refine hK _ ?_;clear hK K hA hB A B))
       refine aW ?_;clear pe0 pe1 pe2;go_wp2_with fail
       go_roundw
       case rel=>exact⟨k+1,u2,_,_,by omega,rfl,by go_num,HUd.out.keep HBn.out,Hup.out,rfl,rfl,HI'.out.2.1,HI'.out.2.2.1,HI'.out.2.2.2,HBd.out.trans (HBn.out.mono HBd.out.size)⟩
       case measure=>simp[intOf];omega
end
end Go.Proofs.YtobjdpngnfbicaaGreatDoor
