/-
  USilent
-/
import Derived.Test.YtobjdpngnfbicaaGreatDoorZK40
import Derived.Test.YtobjdpngnfbicaaGreatDoorZK41
import Derived.Test.YtobjdpngnfbicaaGreatDoorZK42
open Go.Lib renaming hid->ae
open Go.IntWalk renaming i64_in->af,i64_quo->ah,u32_in->aj,rem_in->am,u8_in->ap
open Nat renaming le_refl->aq,le_trans->au,lt_of_lt_of_le->aw
open List renaming getElem_mem->aA
open Go.Proofs.Tryz renaming prog->aC
namespace Go.Proofs.YtobjdpngnfbicaaGreatDoor
open Go.RowKit
set_option linter.unusedVariables false
set_option maxRecDepth 20000
section
open Go.Lib
attribute [local go_sem] opC upC
def tG (w:World) (d u n:Nat) (i:Value) (wr:World):Prop:=∃ (k:Nat) (M:MD) (U:MU),k <= n /\ i=.int .i64 (k:Int) /\ UX wr w.heap.size d u M U /\ ei M U /\ U.J.dead=false /\ M.down=false /\ M.fault=none /\ U.J.g <= k /\ M.writes <= 200000+200000 * k /\ Below w.heap.size w wr
theorem bM {m:RMap} (h:validR m=true):m.seen.length <= 1000000 /\ m.items.length <= 1000000 /\ m.gone.length <= 1000000:=by
 have:=valid_lens h;omega
set_option maxRecDepth 100000 in
set_option maxHeartbeats 8000000 in
theorem UserSilent_walk (v:Value) (w:World) (hv:IsUActs w v) (hL:dF w):
 Calls aC 8 #[v] w fun e w'=>e=.returned (.bool true) /\ Below w.heap.size w w':=by
 obtain⟨A,hA⟩:=ol hv;have HLi:=ae (kU w w.heap.size v A hA (aq _));obtain⟨a,cap,rfl,h9,hx⟩:=id hA;have HL:=ae (show ∀ W,Below w.heap.size w W -> dF W from fun W hb=>hL.below hb);have HW:=ae (en w hL);have HN:=ae (r7 w hL.2.2 300 (by decide) (by decide));obtain⟨f1,f2,f3,f4,f5,f6,f7,f8⟩:=kV 300 0 (by decide) (by decide) (by decide)
 obtain⟨⟨M0,U0,e0⟩,hf⟩:∃ r,ef (MD.fresh 300) 0=r:=⟨_,rfl⟩
 rw[hf] at f2 f3 f4 f5 f6 f7 f8;dsimp only at f2 f3 f4 f5 f6 f7 f8;subst f2;have Hf:=ae hf;have F1:=ae f1;have HI0:=ae f3;have HF4:=ae f4;have Hw0:=ae f8
 obtain⟨n,hn⟩:∃ n,A.length=n:=⟨_,rfl⟩
 rw[hn] at h9 HLi ⊢;have Hx:=ae hx;have Hn:=ae hn;have h4s:3 < w.heap.size:=by have:=hL.2.2;omega
 clear hL f1 f3 f4 f5 f6 f7 f8 hf hx hA hv hn
 go_enter Tryz.func8,Tryz.ntmps8
 go_wp2_with fail;refine HLi.out.mono ?_;rintro e w' ⟨rfl,r,rfl,hr⟩;clear HLi;cases r with
 | false=>
   clear hr;go_wp2_with fail;refine HW.out.mono ?_;rintro e w1 ⟨rfl,hb1⟩;clear HW;go_wp2_with fail
   go_ret
   exact⟨rfl,hb1⟩
 | true=>
   have HLt:=ae (hr rfl);have hn60:n <= 60:=by rw[<- Hn.out];exact HLt.out.1
   clear hr HW;go_wp2_with fail;refine HN.out.mono ?_;rintro e w1 ⟨d,rfl,hd,hb1⟩;have hF:=pB w1 (HL.out w1 hb1) _ d (MD.fresh 300) hd (by simp[MD.fresh]) (by show 0+200000 < _;decide) 0 (by decide) F1.out (by rw[Hf.out]);rw[Hf.out] at hF;have HF:=ae hF;have Hb1:=ae hb1;clear hF hd hb1 HN;go_wp2_with fail;refine HF.out.mono ?_;rintro e w2 ⟨u,rfl,hU,hb2⟩;have HU:=ae hU;have HB2:=ae (show Below w.heap.size w w2 from Hb1.out.trans hb2);clear hU hb2 HF;go_wp2_with fail
   go_loopw [7] (fun i wr=>tG w d u n i wr) (fun i _=>n - (intOf i).toNat)
   case atStart=>exact⟨0,M0,U0,by omega,rfl,HU.out,HI0.out,HF4.out.dead,HF4.out.down,HF4.out.fault,by rw[HF4.out.gen];exact aq _,by have:=Hw0.out;omega,HB2.out⟩
   case round=>
    rename World=>wo
    obtain⟨k,M,U,hk,rfl,hU,hI,hdd,hdn,hfl,hg,hwr,hb⟩:=hrel
    by_cases hkl:k < n
    case neg=>
     have hkI:¬ (k:Int) < (n:Int):=by omega
     have HW:=ae (en wo (HL.out wo hb));have Hb:=ae hb;clear hU hI hdd hdn hfl hg hwr hb;go_wp2_with fail;refine HW.out.mono ?_;rintro e w3 ⟨rfl,hb3⟩;have Hb3:=ae (show Below w.heap.size w w3 from Hb.out.trans (hb3.mono Hb.out.size));clear HW hb3;go_wp2_with fail
     go_ret
     exact⟨rfl,Hb3.out⟩
    have hkI:(k:Int) < (n:Int):=by omega
    have hkA:k < A.length:=by rw[Hn.out];exact hkl
    obtain⟨b,off,rfl,hblt,hc⟩:=Hx.out.resolve_left (by intro e;rw[e] at hkA;simp at hkA);obtain⟨q1,q2,q3,xk,ck,x1,c1,x2,c2,x3,c3,d0,d1,d2,d3,d4,d5,d6,hR,hM⟩:=hc k hkA;have hAL:=HLt.out.2 A[k] (aA hkA)
    obtain⟨y,hy⟩:∃ y,A[k]=y:=⟨_,rfl⟩
    rw[hy] at d0 d1 d2 d3 d4 d5 d6 hR hM hAL;clear hc q1 q2 q3 hy
    obtain⟨kk,hkk⟩:∃ kk,y.kind.tmod 8=kk:=⟨_,rfl⟩
    have hk8:0 <= kk /\ kk < 8:=by
     have h1:=hAL.kind;have:y.kind.tmod 8=y.kind % 8:=Int.tmod_eq_emod_of_nonneg h1.1;omega
    have Hd0:=ae d0;have z0:=(hb.cell (p:=⟨b,off+k * 7,none⟩) hblt).trans d0;have HAL:=ae hAL;have HI:=ae hI;have Hdd:=ae hdd;have Hdn:=ae hdn;have Hfl:=ae hfl;have Hwr:=ae hwr;have HU:=ae hU;have HB:=ae hb;have HRM:=ae (show Rows (fun q=>q < w.heap.size) w 1 (.slice xk y.keys.length ck) y.keys.length (y.keys.map Go.Proofs.encStr) /\ bJ (fun q=>q < w.heap.size) w (.slice x1 y.m.seen.length c1) (.slice x2 y.m.items.length c2) (.slice x3 y.m.gone.length c3) y.m from ⟨hR,hM⟩);have HDs:=ae (show w.cell? ⟨b,off+k * 7+1,none⟩=some (.slice xk y.keys.length ck) /\ w.cell? ⟨b,off+k * 7+2,none⟩=some (.slice x1 y.m.seen.length c1) /\ w.cell? ⟨b,off+k * 7+3,none⟩=some (.slice x2 y.m.items.length c2) /\ w.cell? ⟨b,off+k * 7+4,none⟩=some (.slice x3 y.m.gone.length c3) /\ w.cell? ⟨b,off+k * 7+5,none⟩=some (.int .i64 y.n) /\ w.cell? ⟨b,off+k * 7+6,none⟩=some (B y.b) from ⟨d1,d2,d3,d4,d5,d6⟩);clear hAL hI hdd hdn hfl hwr hU hb hR hM d0 d1 d2 d3 d4 d5 d6
    by_cases h5:kk <= 5
    case neg=>
     have h5I:(5:Int) < kk:=by omega
     go_wp2_with fail
     go_roundw
     case rel=>exact⟨k+1,M,U,by omega,by go_num,HU.out,HI.out,Hdd.out,Hdn.out,Hfl.out,by omega,by have:=Hwr.out;omega,HB.out⟩
     case measure=>simp[intOf];omega
    have h5I:¬ (5:Int) < kk:=by omega
    have HM:=ae (fs wo _ d u M U HU.out HI.out.ok.valid);go_wp2_with fail;refine HM.out.mono ?_;rintro e w1 ⟨⟨r,rfl,ho,hbd⟩,hb1⟩;have hmX:=ho.map hbd;obtain⟨t1,t2,t3,rfl,ho'⟩:=id ho;obtain⟨a1,p1,rfl⟩:=own_shape ho'.seen;obtain⟨a2,p2,rfl⟩:=own_shape ho'.items;obtain⟨a3,p3,rfl⟩:=own_shape ho'.gone;have HWr:=ae (eW w1 _ d M (HU.out.keep hb1).disk);have Hho:=ae ho';have Hhbd:=ae hbd;have Hb1:=ae hb1;clear HM ho ho' hbd hmX hb1 z0;go_wp2_with fail;refine HWr.out.mono ?_;rintro e w1' ⟨rfl,rfl⟩;clear HWr;have Hvm0:=ae HI.out.ok.valid
    obtain⟨m,hm⟩:∃ m,U.m=m:=⟨_,rfl⟩
    have Hm:=ae hm;rw[hm] at Hho Hhbd Hvm0 ⊢;have Hvm:=Hvm0;clear hm
    obtain⟨w3,hw3⟩:∃ q,q=w1.alloc (.cells #[.slice a1 m.seen.length p1,.slice a2 m.items.length p2,.slice a3 m.gone.length p3] 37):=⟨_,rfl⟩
    have hb3:Below w1.heap.size w1 w3:=by rw[hw3];exact aE _ _
    have hbo3:Below wo.heap.size wo w3:=Hb1.out.trans (hb3.mono Hb1.out.size);have hB3:Below w.heap.size w w3:=HB.out.trans (hbo3.mono HB.out.size);have hB1:Below w.heap.size w w1:=HB.out.trans (Hb1.out.mono HB.out.size);have hU3:=HU.out.at.keep hbo3;have hBb3:Blk w3 w1.heap.size [.slice a1 m.seen.length p1,.slice a2 m.items.length p2,.slice a3 m.gone.length p3] 37:=by rw[hw3];exact Blk.new _ _ _
    have hXb3:bJ (fun q=>wo.heap.size <= q) w3 (.slice a1 m.seen.length p1) (.slice a2 m.items.length p2) (.slice a3 m.gone.length p3) m:=(Hho.out.map Hhbd.out).keep fun q hq hlt=>hb3.block q hlt
    obtain⟨g1,g2,g3,g4,g5,g6⟩:=HDs.out;have hcw:∀ j x,w.cell? ⟨b,j,none⟩=some x -> w1.cell? ⟨b,j,none⟩=some x:=fun j x h=>(hB1.cell (p:=⟨b,j,none⟩) hblt).trans h
    have c0':=hcw _ _ Hd0.out;have c1':=hcw _ _ g1;have c2':=hcw _ _ g2;have c3':=hcw _ _ g3;have c4':=hcw _ _ g4;have c5':=hcw _ _ g5;have c6':=hcw _ _ g6;have hb1lt:b < w1.heap.size:=aw hblt hB1.size;have hPf:=jD w3 (HL.out w3 hB3) w.heap.size wo.heap.size d u M U hU3 HI.out.ok.dev HI.out.ok.valid (by have:=Hwr.out;omega) y HAL.out xk ck x1 c1 x2 c2 x3 c3 (HRM.out.1.keep fun q hq _=>hB3.block q hq) (HRM.out.2.keep fun q hq _=>hB3.block q hq);have hg1:U.J.g+1 < 4294967295:=by omega
    have hcall:=gR HAL.out HI.out Hdd.out Hdn.out hg1;have hcalm:=su y Hfl.out Hdn.out Hdd.out;have hqt:=qV HAL.out HI.out Hdd.out Hdn.out hg1;have hck:=qW HAL.out HI.out Hdd.out Hdn.out hg1;have hva:=lU HAL.out HI.out Hdd.out Hdn.out hg1;unfold kT at hPf
    obtain⟨⟨M',U',er⟩,hr⟩:∃ r,fM M U y=r:=⟨_,rfl⟩
    obtain⟨x,hxx⟩:∃ x,eX U y=x:=⟨_,rfl⟩
    rw[hr] at hPf hcall hcalm hqt hck;rw[hxx] at hPf hcall hqt hva;rw[Hm.out] at hqt hck;rw[hkk] at hqt hck;dsimp only at hPf hqt hck;have HPf:=ae hPf;have HI':=ae (show ei M' U' /\ U'.J.dead=false /\ M'.down=false /\ M'.fault=none /\ U'.J.g <= U.J.g+1 /\ M'.writes <= M.writes+200000 from ⟨hcall.inv,hcalm.2.2.2,hcalm.2.1,hcalm.1,hcall.gen,hcall.writes⟩);have HG':=ae (show U'.J.g <= k+1 /\ M'.writes <= 200000+200000 * (k+1) from ⟨au hcall.gen (by omega),au hcall.writes (by have:=Hwr.out;omega)⟩);have HV':=ae hcall.inv.ok.valid;have Hqt:=ae hqt;have Hckk:=ae hck;have Hva:=ae hva;have HBb3:=ae hBb3;have HXb3:=ae hXb3;have Hw3:=ae hw3;have HB3:=ae hB3;have Hbo3:=ae hbo3;have Hos:=ae (show wo.heap.size <= w1.heap.size from Hb1.out.size);clear hPf hcall hcalm hqt hck hva hr hxx hU3 hBb3 hXb3 hw3 hb3 hbo3 hB3 hB1 g1 g2 g3 g4 g5 g6 hcw hg1;go_wp2_with fail;rw[<- Hw3.out];refine HPf.out.mono ?_;rintro e w4 ⟨s1,s2,s3,rfl,hX4,hU4,ho4⟩;clear c0' c1' c2' c3' c4' c5' c6' hb1lt HPf;obtain⟨n1,m1,rfl,-⟩:=hX4.seen.shape;obtain⟨n2,m2,rfl,-⟩:=hX4.items.shape;obtain⟨n3,m3,rfl,-⟩:=hX4.gone.shape;have hout:∀ q,wo.heap.size <= q -> ¬ Mid w.heap.size wo.heap.size q:=fun q hq hh=>by have:=hh.2;omega
    have hBb4:=HBb3.out.keep (ho4.block _ HBb3.out.lt (hout _ Hos.out));have hXb4:=HXb3.out.keep (w':=w4) fun q hq hlt=>ho4.block q hlt (hout q hq)
    have hb4:Below w.heap.size w w4:=HB3.out.trans (ho4.below (fun q hq=>hq.1) HB3.out.size)
    obtain⟨w5,hw5⟩:∃ q,q=w4.alloc (.cells #[.slice n1 x.seen.length m1,.slice n2 x.items.length m2,.slice n3 x.gone.length m3] 37):=⟨_,rfl⟩
    have hb5:Below w4.heap.size w4 w5:=by rw[hw5];exact aE _ _
    have HUw:=ae (hU4.keep hb5);have HBb:=ae (hBb4.keep (hb5.block _ hBb4.lt));have HXb:=ae (hXb4.keep (w':=w5) fun q hq hlt=>hb5.block q hlt);have HBw:=ae (hb4.trans (hb5.mono hb4.size));obtain⟨b0',b1',b2'⟩:=cell3 hBb4;have hbblt:=hBb4.lt;have z4:=(hb4.cell (p:=⟨b,off+k * 7,none⟩) hblt).trans Hd0.out;have hb4lt:b < w4.heap.size:=aw hblt hb4.size;have HSm:=ae (eB w5 _ _ (.agg #[.slice a1 m.seen.length p1,.slice a2 m.items.length p2,.slice a3 m.gone.length p3]) (.agg #[.slice n1 x.seen.length m1,.slice n2 x.items.length m2,.slice n3 x.gone.length m3]) m x ⟨_,_,_,rfl,HXb.out⟩ ⟨_,_,_,rfl,hX4.keep (w':=w5) fun q hq hlt=>hb5.block q hlt⟩ (bM Hvm.out).1 (bM Hvm.out).2.1 (bM Hvm.out).2.2 (bM Hva.out).1 (bM Hva.out).2.1 (bM Hva.out).2.2);have Hw5:=ae hw5;clear hX4 hU4 ho4 hout hBb4 hXb4 hb4 hb5 hw5
    by_cases he:er=1 \/ er=5
    ·have HMq:=ae (show M'.writes=M.writes by
      have:M'=M:=Hqt.out (he.imp id fun h=>.inl h)
      rw[this])
     rcases he with rfl | rfl
     all_goals
      by_cases hk5:kk=5
      ·subst hk5;have Hck:=ae (Hckk.out rfl)
       obtain⟨wd,hwd⟩:∃ q,q=w5.drew:=⟨_,rfl⟩
       have hbd:Below w5.heap.size w5 wd:=by rw[hwd];exact(Below.refl w5.heap.size w5).drew
       have hBd:=HBw.out.trans (hbd.mono HBw.out.size);have hUd:=HUw.out.keep hbd;have hXd:=HXb.out.keep (w':=wd) fun q _ hlt=>hbd.block q hlt
       have hbb:=HBb.out.keep (hbd.block _ HBb.out.lt);obtain⟨e0,e1,e2⟩:=cell3 hbb;have pz:∀ q x,wd.cell? q=some x -> ∀ w',aI wd w' -> w'.cell? q=some x:=fun q x hc w' hh=>(hh.cell (p:=q) (cellLt hc)).trans hc
       have pe0:=pz _ _ e0;have pe1:=pz _ _ e1;have pe2:=pz _ _ e2;have pk:=pz _ _ ((hBd.cell (p:=⟨b,off+k * 7,none⟩) hblt).trans Hd0.out);have Hwd:=ae hwd;have HBd:=ae hBd;have HUd:=ae hUd;have HXd:=ae hXd;have HWr:=ae (eW wd w.heap.size d M' hUd.disk);have HMp:=ae (fs wd w.heap.size d u M' U' hUd HV'.out);clear hwd hbd hBd hUd hXd hbb e0 e1 e2 pz;go_wp2_with fail;rw[<- Hw5.out];refine aJ aI [(0,true),(1,true),(2,true),(4,true),(3,false),(5,true),(6,true),(7,true),(8,true),(9,true),(10,true),(11,true),(12,true),(13,true),(14,true),(15,true),(16,true),(18,true),(17,false),(19,false),(20,true),(21,true),(22,true)] (by kernel_rfl) (by kernel_rfl) aH aG ?_;rw[<- Hwd.out]
       repeat (first
        | (refine aF (v:=?_) rfl (aD rfl) (fun w' hC=>?_) (fun K hK=>?_);rotate_left;(focus (go_simp;(try simp(disch:=omega) only[af]);(try simp(disch:=omega) only[aj]);(try simp(disch:=omega) only[ap]);(try simp(disch:=omega) only[ah]);(try simp(disch:=omega) only[am]);first | done | exact rfl));go_simp;(try simp(disch:=omega) only[af]);(try simp(disch:=omega) only[aj]);(try simp(disch:=omega) only[ap]);(try simp(disch:=omega) only[ah]);(try simp(disch:=omega) only[am]);refine hK _ ?_;clear hK K)
        | (refine aU rfl (fun A B hA hB=>?_);go_simp;first | (refine hA ⟨?_,fun w' hC=>?_,fun K hK=>?_⟩;rotate_left;(focus (go_simp;(try simp(disch:=omega) only[af]);(try simp(disch:=omega) only[aj]);(try simp(disch:=omega) only[ap]);(try simp(disch:=omega) only[ah]);(try simp(disch:=omega) only[am]);first | done | exact rfl));go_simp;(try simp(disch:=omega) only[af]);(try simp(disch:=omega) only[aj]);(try simp(disch:=omega) only[ap]);(try simp(disch:=omega) only[ah]);(try simp(disch:=omega) only[am]);refine hK _ ?_;clear hK K hA hB A B) | (refine hB (fun K hK=>?_);go_simp;(try simp(disch:=omega) only[af]);(try simp(disch:=omega) only[aj]);(try simp(disch:=omega) only[ap]);(try simp(disch:=omega) only[ah]);(try simp(disch:=omega) only[am]);refine hK _ ?_;clear hK K hA hB A B))
        | (refine aM rfl (fun A B hA hB=>?_);go_simp;refine hB (fun K hK=>?_);go_simp;(try simp(disch:=omega) only[af]);(try simp(disch:=omega) only[aj]);(try simp(disch:=omega) only[ap]);(try simp(disch:=omega) only[ah]);(try simp(disch:=omega) only[am]);refine hK _ ?_;clear hK K hA hB A B))
       refine aQ rfl rfl (fun KK hK=>?_);go_simp;refine HWr.out.mono ?_;rintro e wz ⟨rfl,rfl⟩;rw[HMq.out];refine⟨_,rfl,aH _,hK _ _ ?_⟩;clear hK KK HWr;go_simp
       repeat (first
        | (refine aF (v:=?_) rfl (aD rfl) (fun w' hC=>?_) (fun K hK=>?_);rotate_left;(focus (go_simp;(try simp(disch:=omega) only[af]);(try simp(disch:=omega) only[aj]);(try simp(disch:=omega) only[ap]);(try simp(disch:=omega) only[ah]);(try simp(disch:=omega) only[am]);first | done | exact rfl));go_simp;(try simp(disch:=omega) only[af]);(try simp(disch:=omega) only[aj]);(try simp(disch:=omega) only[ap]);(try simp(disch:=omega) only[ah]);(try simp(disch:=omega) only[am]);refine hK _ ?_;clear hK K)
        | (refine aU rfl (fun A B hA hB=>?_);go_simp;first | (refine hA ⟨?_,fun w' hC=>?_,fun K hK=>?_⟩;rotate_left;(focus (go_simp;(try simp(disch:=omega) only[af]);(try simp(disch:=omega) only[aj]);(try simp(disch:=omega) only[ap]);(try simp(disch:=omega) only[ah]);(try simp(disch:=omega) only[am]);first | done | exact rfl));go_simp;(try simp(disch:=omega) only[af]);(try simp(disch:=omega) only[aj]);(try simp(disch:=omega) only[ap]);(try simp(disch:=omega) only[ah]);(try simp(disch:=omega) only[am]);refine hK _ ?_;clear hK K hA hB A B) | (refine hB (fun K hK=>?_);go_simp;(try simp(disch:=omega) only[af]);(try simp(disch:=omega) only[aj]);(try simp(disch:=omega) only[ap]);(try simp(disch:=omega) only[ah]);(try simp(disch:=omega) only[am]);refine hK _ ?_;clear hK K hA hB A B))
        | (refine aM rfl (fun A B hA hB=>?_);go_simp;refine hB (fun K hK=>?_);go_simp;(try simp(disch:=omega) only[af]);(try simp(disch:=omega) only[aj]);(try simp(disch:=omega) only[ap]);(try simp(disch:=omega) only[ah]);(try simp(disch:=omega) only[am]);refine hK _ ?_;clear hK K hA hB A B))
       refine aQ rfl rfl (fun KK hK=>?_);go_simp;refine HMp.out.mono ?_;rintro e wm ⟨⟨r,rfl,ho,hbd⟩,hb⟩;have hmv:=ho.map hbd;obtain⟨t1,t2,t3,rfl,ho'⟩:=id ho;obtain⟨q1,l1,rfl⟩:=own_shape ho'.seen;obtain⟨q2,l2,rfl⟩:=own_shape ho'.items;obtain⟨q3,l3,rfl⟩:=own_shape ho'.gone;refine⟨_,rfl,hb,hK _ _ ?_⟩;clear hK KK HMp;go_simp;have HS2:=ae (eB wm _ _ _ (.agg #[.slice a1 m.seen.length p1,.slice a2 m.items.length p2,.slice a3 m.gone.length p3]) U'.m m hmv ⟨_,_,_,rfl,HXd.out.keep (w':=wm) fun q _ hlt=>hb.block q hlt⟩ (bM HV'.out).1 (bM HV'.out).2.1 (bM HV'.out).2.2 (bM Hvm.out).1 (bM Hvm.out).2.1 (bM Hvm.out).2.2);have HBm:=ae hb;clear hmv ho ho' hbd hb
       repeat (first
        | (refine aF (v:=?_) rfl (aD rfl) (fun w' hC=>?_) (fun K hK=>?_);rotate_left;(focus (go_simp;(try simp(disch:=omega) only[af]);(try simp(disch:=omega) only[aj]);(try simp(disch:=omega) only[ap]);(try simp(disch:=omega) only[ah]);(try simp(disch:=omega) only[am]);first | done | exact rfl));go_simp;(try simp(disch:=omega) only[af]);(try simp(disch:=omega) only[aj]);(try simp(disch:=omega) only[ap]);(try simp(disch:=omega) only[ah]);(try simp(disch:=omega) only[am]);refine hK _ ?_;clear hK K)
        | (refine aU rfl (fun A B hA hB=>?_);go_simp;first | (refine hA ⟨?_,fun w' hC=>?_,fun K hK=>?_⟩;rotate_left;(focus (go_simp;(try simp(disch:=omega) only[af]);(try simp(disch:=omega) only[aj]);(try simp(disch:=omega) only[ap]);(try simp(disch:=omega) only[ah]);(try simp(disch:=omega) only[am]);first | done | exact rfl));go_simp;(try simp(disch:=omega) only[af]);(try simp(disch:=omega) only[aj]);(try simp(disch:=omega) only[ap]);(try simp(disch:=omega) only[ah]);(try simp(disch:=omega) only[am]);refine hK _ ?_;clear hK K hA hB A B) | (refine hB (fun K hK=>?_);go_simp;(try simp(disch:=omega) only[af]);(try simp(disch:=omega) only[aj]);(try simp(disch:=omega) only[ap]);(try simp(disch:=omega) only[ah]);(try simp(disch:=omega) only[am]);refine hK _ ?_;clear hK K hA hB A B))
        | (refine aM rfl (fun A B hA hB=>?_);go_simp;refine hB (fun K hK=>?_);go_simp;(try simp(disch:=omega) only[af]);(try simp(disch:=omega) only[aj]);(try simp(disch:=omega) only[ap]);(try simp(disch:=omega) only[ah]);(try simp(disch:=omega) only[am]);refine hK _ ?_;clear hK K hA hB A B))
       refine aQ rfl rfl (fun KK hK=>?_);go_simp;refine HS2.out.mono ?_;rintro e wn ⟨r2,rfl,hr2,hb2⟩;obtain rfl:r2=true:=hr2.2 Hck.out;refine⟨_,rfl,hb2,hK _ _ ?_⟩;have HBn:=ae (show Below wd.heap.size wd wn from HBm.out.trans (hb2.mono HBm.out.size));clear hK KK HS2 hr2 hb2;go_simp
       repeat (first
        | (refine aF (v:=?_) rfl (aD rfl) (fun w' hC=>?_) (fun K hK=>?_);rotate_left;(focus (go_simp;(try simp(disch:=omega) only[af]);(try simp(disch:=omega) only[aj]);(try simp(disch:=omega) only[ap]);(try simp(disch:=omega) only[ah]);(try simp(disch:=omega) only[am]);first | done | exact rfl));go_simp;(try simp(disch:=omega) only[af]);(try simp(disch:=omega) only[aj]);(try simp(disch:=omega) only[ap]);(try simp(disch:=omega) only[ah]);(try simp(disch:=omega) only[am]);refine hK _ ?_;clear hK K)
        | (refine aU rfl (fun A B hA hB=>?_);go_simp;first | (refine hA ⟨?_,fun w' hC=>?_,fun K hK=>?_⟩;rotate_left;(focus (go_simp;(try simp(disch:=omega) only[af]);(try simp(disch:=omega) only[aj]);(try simp(disch:=omega) only[ap]);(try simp(disch:=omega) only[ah]);(try simp(disch:=omega) only[am]);first | done | exact rfl));go_simp;(try simp(disch:=omega) only[af]);(try simp(disch:=omega) only[aj]);(try simp(disch:=omega) only[ap]);(try simp(disch:=omega) only[ah]);(try simp(disch:=omega) only[am]);refine hK _ ?_;clear hK K hA hB A B) | (refine hB (fun K hK=>?_);go_simp;(try simp(disch:=omega) only[af]);(try simp(disch:=omega) only[aj]);(try simp(disch:=omega) only[ap]);(try simp(disch:=omega) only[ah]);(try simp(disch:=omega) only[am]);refine hK _ ?_;clear hK K hA hB A B))
        | (refine aM rfl (fun A B hA hB=>?_);go_simp;refine hB (fun K hK=>?_);go_simp;(try simp(disch:=omega) only[af]);(try simp(disch:=omega) only[aj]);(try simp(disch:=omega) only[ap]);(try simp(disch:=omega) only[ah]);(try simp(disch:=omega) only[am]);refine hK _ ?_;clear hK K hA hB A B))
       refine aW ?_;clear pe0 pe1 pe2 pk;go_wp2_with fail
       go_roundw
       case rel=>exact⟨k+1,M',U',by omega,by go_num,HUd.out.keep HBn.out,HI'.out.1,HI'.out.2.1,HI'.out.2.2.1,HI'.out.2.2.2.1,HG'.out.1,HG'.out.2,HBd.out.trans (HBn.out.mono HBd.out.size)⟩
       case measure=>simp[intOf];omega
      ·skip
       obtain⟨wd,hwd⟩:∃ q,q=w5.drew:=⟨_,rfl⟩
       have hbd:Below w5.heap.size w5 wd:=by rw[hwd];exact(Below.refl w5.heap.size w5).drew
       have hBd:=HBw.out.trans (hbd.mono HBw.out.size);have hUd:=HUw.out.keep hbd;have hXd:=HXb.out.keep (w':=wd) fun q _ hlt=>hbd.block q hlt
       have hbb:=HBb.out.keep (hbd.block _ HBb.out.lt);obtain⟨e0,e1,e2⟩:=cell3 hbb;have pz:∀ q x,wd.cell? q=some x -> ∀ w',aI wd w' -> w'.cell? q=some x:=fun q x hc w' hh=>(hh.cell (p:=q) (cellLt hc)).trans hc
       have pe0:=pz _ _ e0;have pe1:=pz _ _ e1;have pe2:=pz _ _ e2;have pk:=pz _ _ ((hBd.cell (p:=⟨b,off+k * 7,none⟩) hblt).trans Hd0.out);have Hwd:=ae hwd;have HBd:=ae hBd;have HUd:=ae hUd;have HXd:=ae hXd;have HWr:=ae (eW wd w.heap.size d M' hUd.disk);have HMp:=ae (fs wd w.heap.size d u M' U' hUd HV'.out);clear hwd hbd hBd hUd hXd hbb e0 e1 e2 pz;go_wp2_with fail;rw[<- Hw5.out];refine aJ aI [(0,true),(1,true),(2,true),(4,true),(3,false),(5,true),(6,true),(7,true),(8,true),(9,true),(10,true),(11,true),(12,true),(13,true),(14,true),(15,true),(16,true),(18,true),(17,false),(19,false),(20,true),(21,true),(22,true)] (by kernel_rfl) (by kernel_rfl) aH aG ?_;rw[<- Hwd.out]
       repeat (first
        | (refine aF (v:=?_) rfl (aD rfl) (fun w' hC=>?_) (fun K hK=>?_);rotate_left;(focus (go_simp;(try simp(disch:=omega) only[af]);(try simp(disch:=omega) only[aj]);(try simp(disch:=omega) only[ap]);(try simp(disch:=omega) only[ah]);(try simp(disch:=omega) only[am]);first | done | exact rfl));go_simp;(try simp(disch:=omega) only[af]);(try simp(disch:=omega) only[aj]);(try simp(disch:=omega) only[ap]);(try simp(disch:=omega) only[ah]);(try simp(disch:=omega) only[am]);refine hK _ ?_;clear hK K)
        | (refine aU rfl (fun A B hA hB=>?_);go_simp;first | (refine hA ⟨?_,fun w' hC=>?_,fun K hK=>?_⟩;rotate_left;(focus (go_simp;(try simp(disch:=omega) only[af]);(try simp(disch:=omega) only[aj]);(try simp(disch:=omega) only[ap]);(try simp(disch:=omega) only[ah]);(try simp(disch:=omega) only[am]);first | done | exact rfl));go_simp;(try simp(disch:=omega) only[af]);(try simp(disch:=omega) only[aj]);(try simp(disch:=omega) only[ap]);(try simp(disch:=omega) only[ah]);(try simp(disch:=omega) only[am]);refine hK _ ?_;clear hK K hA hB A B) | (refine hB (fun K hK=>?_);go_simp;(try simp(disch:=omega) only[af]);(try simp(disch:=omega) only[aj]);(try simp(disch:=omega) only[ap]);(try simp(disch:=omega) only[ah]);(try simp(disch:=omega) only[am]);refine hK _ ?_;clear hK K hA hB A B))
        | (refine aM rfl (fun A B hA hB=>?_);go_simp;refine hB (fun K hK=>?_);go_simp;(try simp(disch:=omega) only[af]);(try simp(disch:=omega) only[aj]);(try simp(disch:=omega) only[ap]);(try simp(disch:=omega) only[ah]);(try simp(disch:=omega) only[am]);refine hK _ ?_;clear hK K hA hB A B))
       refine aQ rfl rfl (fun KK hK=>?_);go_simp;refine HWr.out.mono ?_;rintro e wz ⟨rfl,rfl⟩;rw[HMq.out];refine⟨_,rfl,aH _,hK _ _ ?_⟩;clear hK KK HWr;go_simp
       repeat (first
        | (refine aF (v:=?_) rfl (aD rfl) (fun w' hC=>?_) (fun K hK=>?_);rotate_left;(focus (go_simp;(try simp(disch:=omega) only[af]);(try simp(disch:=omega) only[aj]);(try simp(disch:=omega) only[ap]);(try simp(disch:=omega) only[ah]);(try simp(disch:=omega) only[am]);first | done | exact rfl));go_simp;(try simp(disch:=omega) only[af]);(try simp(disch:=omega) only[aj]);(try simp(disch:=omega) only[ap]);(try simp(disch:=omega) only[ah]);(try simp(disch:=omega) only[am]);refine hK _ ?_;clear hK K)
        | (refine aU rfl (fun A B hA hB=>?_);go_simp;first | (refine hA ⟨?_,fun w' hC=>?_,fun K hK=>?_⟩;rotate_left;(focus (go_simp;(try simp(disch:=omega) only[af]);(try simp(disch:=omega) only[aj]);(try simp(disch:=omega) only[ap]);(try simp(disch:=omega) only[ah]);(try simp(disch:=omega) only[am]);first | done | exact rfl));go_simp;(try simp(disch:=omega) only[af]);(try simp(disch:=omega) only[aj]);(try simp(disch:=omega) only[ap]);(try simp(disch:=omega) only[ah]);(try simp(disch:=omega) only[am]);refine hK _ ?_;clear hK K hA hB A B) | (refine hB (fun K hK=>?_);go_simp;(try simp(disch:=omega) only[af]);(try simp(disch:=omega) only[aj]);(try simp(disch:=omega) only[ap]);(try simp(disch:=omega) only[ah]);(try simp(disch:=omega) only[am]);refine hK _ ?_;clear hK K hA hB A B))
        | (refine aM rfl (fun A B hA hB=>?_);go_simp;refine hB (fun K hK=>?_);go_simp;(try simp(disch:=omega) only[af]);(try simp(disch:=omega) only[aj]);(try simp(disch:=omega) only[ap]);(try simp(disch:=omega) only[ah]);(try simp(disch:=omega) only[am]);refine hK _ ?_;clear hK K hA hB A B))
       skip
       refine aW ?_;clear pe0 pe1 pe2 pk;go_wp2_with fail
       go_roundw
       case rel=>exact⟨k+1,M',U',by omega,by go_num,HUd.out,HI'.out.1,HI'.out.2.1,HI'.out.2.2.1,HI'.out.2.2.2.1,HG'.out.1,HG'.out.2,HBd.out⟩
       case measure=>simp[intOf];omega
    ·have he1:¬ er=1:=fun h=>he (.inl h)
     have he5:¬ er=5:=fun h=>he (.inr h)
     clear he;go_wp2_with fail;rw[<- Hw5.out];refine HSm.out.mono ?_;rintro e w6 ⟨r,rfl,hr,hb6⟩;have HUw6:=ae (HUw.out.keep hb6);have HBb6:=ae (HBb.out.keep (hb6.block _ HBb.out.lt));have HXb6:=ae (HXb.out.keep (w':=w6) fun q hq hlt=>hb6.block q hlt);have HBw6:=ae (HBw.out.trans (hb6.mono HBw.out.size));have Hrr:=ae hr;clear HUw HBb HXb HBw z4 hb4lt b0' b1' b2' hbblt HSm hb6 hr;have HUw:=HUw6;have HBb:=HBb6;have HXb:=HXb6;have HBw:=HBw6;have z6:=(HBw.out.cell (p:=⟨b,off+k * 7,none⟩) hblt).trans Hd0.out;cases r with
     | true=>
       by_cases hk5:kk=5
       ·subst hk5;have Hck:=ae (Hckk.out rfl)
        obtain⟨wd,hwd⟩:∃ q,q=w6.drew:=⟨_,rfl⟩
        have hbd:Below w6.heap.size w6 wd:=by rw[hwd];exact(Below.refl w6.heap.size w6).drew
        have hBd:=HBw.out.trans (hbd.mono HBw.out.size);have hUd:=HUw.out.keep hbd;have hXd:=HXb.out.keep (w':=wd) fun q _ hlt=>hbd.block q hlt
        have hbb:=HBb.out.keep (hbd.block _ HBb.out.lt);obtain⟨e0,e1,e2⟩:=cell3 hbb;have pz:∀ q x,wd.cell? q=some x -> ∀ w',aI wd w' -> w'.cell? q=some x:=fun q x hc w' hh=>(hh.cell (p:=q) (cellLt hc)).trans hc
        have pe0:=pz _ _ e0;have pe1:=pz _ _ e1;have pe2:=pz _ _ e2;have pk:=pz _ _ ((hBd.cell (p:=⟨b,off+k * 7,none⟩) hblt).trans Hd0.out);have Hwd:=ae hwd;have HBd:=ae hBd;have HUd:=ae hUd;have HXd:=ae hXd;have HWr:=ae (eW wd w.heap.size d M' hUd.disk);have HMp:=ae (fs wd w.heap.size d u M' U' hUd HV'.out);clear hwd hbd hBd hUd hXd hbb e0 e1 e2 pz;go_wp2_with fail
        skip
        refine aJ aI [(0,true),(1,true),(2,true),(4,true),(3,false),(5,true),(6,true),(7,true),(8,true),(9,true),(10,true),(11,true),(12,true),(13,true),(14,true),(15,true),(16,true),(18,true),(17,false),(19,false),(20,true),(21,true),(22,true)] (by kernel_rfl) (by kernel_rfl) aH aG ?_;rw[<- Hwd.out]
        repeat (first
         | (refine aF (v:=?_) rfl (aD rfl) (fun w' hC=>?_) (fun K hK=>?_);rotate_left;(focus (go_simp;(try simp(disch:=omega) only[af]);(try simp(disch:=omega) only[aj]);(try simp(disch:=omega) only[ap]);(try simp(disch:=omega) only[ah]);(try simp(disch:=omega) only[am]);first | done | exact rfl));go_simp;(try simp(disch:=omega) only[af]);(try simp(disch:=omega) only[aj]);(try simp(disch:=omega) only[ap]);(try simp(disch:=omega) only[ah]);(try simp(disch:=omega) only[am]);refine hK _ ?_;clear hK K)
         | (refine aU rfl (fun A B hA hB=>?_);go_simp;first | (refine hA ⟨?_,fun w' hC=>?_,fun K hK=>?_⟩;rotate_left;(focus (go_simp;(try simp(disch:=omega) only[af]);(try simp(disch:=omega) only[aj]);(try simp(disch:=omega) only[ap]);(try simp(disch:=omega) only[ah]);(try simp(disch:=omega) only[am]);first | done | exact rfl));go_simp;(try simp(disch:=omega) only[af]);(try simp(disch:=omega) only[aj]);(try simp(disch:=omega) only[ap]);(try simp(disch:=omega) only[ah]);(try simp(disch:=omega) only[am]);refine hK _ ?_;clear hK K hA hB A B) | (refine hB (fun K hK=>?_);go_simp;(try simp(disch:=omega) only[af]);(try simp(disch:=omega) only[aj]);(try simp(disch:=omega) only[ap]);(try simp(disch:=omega) only[ah]);(try simp(disch:=omega) only[am]);refine hK _ ?_;clear hK K hA hB A B))
         | (refine aM rfl (fun A B hA hB=>?_);go_simp;refine hB (fun K hK=>?_);go_simp;(try simp(disch:=omega) only[af]);(try simp(disch:=omega) only[aj]);(try simp(disch:=omega) only[ap]);(try simp(disch:=omega) only[ah]);(try simp(disch:=omega) only[am]);refine hK _ ?_;clear hK K hA hB A B))
        skip
        refine aQ rfl rfl (fun KK hK=>?_);go_simp;refine HMp.out.mono ?_;rintro e wm ⟨⟨r,rfl,ho,hbd⟩,hb⟩;have hmv:=ho.map hbd;obtain⟨t1,t2,t3,rfl,ho'⟩:=id ho;obtain⟨q1,l1,rfl⟩:=own_shape ho'.seen;obtain⟨q2,l2,rfl⟩:=own_shape ho'.items;obtain⟨q3,l3,rfl⟩:=own_shape ho'.gone;refine⟨_,rfl,hb,hK _ _ ?_⟩;clear hK KK HMp;go_simp;have HS2:=ae (eB wm _ _ _ (.agg #[.slice a1 m.seen.length p1,.slice a2 m.items.length p2,.slice a3 m.gone.length p3]) U'.m m hmv ⟨_,_,_,rfl,HXd.out.keep (w':=wm) fun q _ hlt=>hb.block q hlt⟩ (bM HV'.out).1 (bM HV'.out).2.1 (bM HV'.out).2.2 (bM Hvm.out).1 (bM Hvm.out).2.1 (bM Hvm.out).2.2);have HBm:=ae hb;clear hmv ho ho' hbd hb
        repeat (first
         | (refine aF (v:=?_) rfl (aD rfl) (fun w' hC=>?_) (fun K hK=>?_);rotate_left;(focus (go_simp;(try simp(disch:=omega) only[af]);(try simp(disch:=omega) only[aj]);(try simp(disch:=omega) only[ap]);(try simp(disch:=omega) only[ah]);(try simp(disch:=omega) only[am]);first | done | exact rfl));go_simp;(try simp(disch:=omega) only[af]);(try simp(disch:=omega) only[aj]);(try simp(disch:=omega) only[ap]);(try simp(disch:=omega) only[ah]);(try simp(disch:=omega) only[am]);refine hK _ ?_;clear hK K)
         | (refine aU rfl (fun A B hA hB=>?_);go_simp;first | (refine hA ⟨?_,fun w' hC=>?_,fun K hK=>?_⟩;rotate_left;(focus (go_simp;(try simp(disch:=omega) only[af]);(try simp(disch:=omega) only[aj]);(try simp(disch:=omega) only[ap]);(try simp(disch:=omega) only[ah]);(try simp(disch:=omega) only[am]);first | done | exact rfl));go_simp;(try simp(disch:=omega) only[af]);(try simp(disch:=omega) only[aj]);(try simp(disch:=omega) only[ap]);(try simp(disch:=omega) only[ah]);(try simp(disch:=omega) only[am]);refine hK _ ?_;clear hK K hA hB A B) | (refine hB (fun K hK=>?_);go_simp;(try simp(disch:=omega) only[af]);(try simp(disch:=omega) only[aj]);(try simp(disch:=omega) only[ap]);(try simp(disch:=omega) only[ah]);(try simp(disch:=omega) only[am]);refine hK _ ?_;clear hK K hA hB A B))
         | (refine aM rfl (fun A B hA hB=>?_);go_simp;refine hB (fun K hK=>?_);go_simp;(try simp(disch:=omega) only[af]);(try simp(disch:=omega) only[aj]);(try simp(disch:=omega) only[ap]);(try simp(disch:=omega) only[ah]);(try simp(disch:=omega) only[am]);refine hK _ ?_;clear hK K hA hB A B))
        refine aQ rfl rfl (fun KK hK=>?_);go_simp;refine HS2.out.mono ?_;rintro e wn ⟨r2,rfl,hr2,hb2⟩;obtain rfl:r2=true:=hr2.2 Hck.out;refine⟨_,rfl,hb2,hK _ _ ?_⟩;have HBn:=ae (show Below wd.heap.size wd wn from HBm.out.trans (hb2.mono HBm.out.size));clear hK KK HS2 hr2 hb2;go_simp
        repeat (first
         | (refine aF (v:=?_) rfl (aD rfl) (fun w' hC=>?_) (fun K hK=>?_);rotate_left;(focus (go_simp;(try simp(disch:=omega) only[af]);(try simp(disch:=omega) only[aj]);(try simp(disch:=omega) only[ap]);(try simp(disch:=omega) only[ah]);(try simp(disch:=omega) only[am]);first | done | exact rfl));go_simp;(try simp(disch:=omega) only[af]);(try simp(disch:=omega) only[aj]);(try simp(disch:=omega) only[ap]);(try simp(disch:=omega) only[ah]);(try simp(disch:=omega) only[am]);refine hK _ ?_;clear hK K)
         | (refine aU rfl (fun A B hA hB=>?_);go_simp;first | (refine hA ⟨?_,fun w' hC=>?_,fun K hK=>?_⟩;rotate_left;(focus (go_simp;(try simp(disch:=omega) only[af]);(try simp(disch:=omega) only[aj]);(try simp(disch:=omega) only[ap]);(try simp(disch:=omega) only[ah]);(try simp(disch:=omega) only[am]);first | done | exact rfl));go_simp;(try simp(disch:=omega) only[af]);(try simp(disch:=omega) only[aj]);(try simp(disch:=omega) only[ap]);(try simp(disch:=omega) only[ah]);(try simp(disch:=omega) only[am]);refine hK _ ?_;clear hK K hA hB A B) | (refine hB (fun K hK=>?_);go_simp;(try simp(disch:=omega) only[af]);(try simp(disch:=omega) only[aj]);(try simp(disch:=omega) only[ap]);(try simp(disch:=omega) only[ah]);(try simp(disch:=omega) only[am]);refine hK _ ?_;clear hK K hA hB A B))
         | (refine aM rfl (fun A B hA hB=>?_);go_simp;refine hB (fun K hK=>?_);go_simp;(try simp(disch:=omega) only[af]);(try simp(disch:=omega) only[aj]);(try simp(disch:=omega) only[ap]);(try simp(disch:=omega) only[ah]);(try simp(disch:=omega) only[am]);refine hK _ ?_;clear hK K hA hB A B))
        refine aW ?_;clear pe0 pe1 pe2 pk;go_wp2_with fail
        go_roundw
        case rel=>exact⟨k+1,M',U',by omega,by go_num,HUd.out.keep HBn.out,HI'.out.1,HI'.out.2.1,HI'.out.2.2.1,HI'.out.2.2.2.1,HG'.out.1,HG'.out.2,HBd.out.trans (HBn.out.mono HBd.out.size)⟩
        case measure=>simp[intOf];omega
       ·have hlt5:kk < 5:=by omega
        have HMq:=ae (show M'.writes=M.writes by
         have:M'=M:=Hqt.out (.inr (.inr ⟨Hrr.out.1 rfl,hlt5⟩))
         rw[this])
        obtain⟨wd,hwd⟩:∃ q,q=w6.drew:=⟨_,rfl⟩
        have hbd:Below w6.heap.size w6 wd:=by rw[hwd];exact(Below.refl w6.heap.size w6).drew
        have hBd:=HBw.out.trans (hbd.mono HBw.out.size);have hUd:=HUw.out.keep hbd;have hXd:=HXb.out.keep (w':=wd) fun q _ hlt=>hbd.block q hlt
        have hbb:=HBb.out.keep (hbd.block _ HBb.out.lt);obtain⟨e0,e1,e2⟩:=cell3 hbb;have pz:∀ q x,wd.cell? q=some x -> ∀ w',aI wd w' -> w'.cell? q=some x:=fun q x hc w' hh=>(hh.cell (p:=q) (cellLt hc)).trans hc
        have pe0:=pz _ _ e0;have pe1:=pz _ _ e1;have pe2:=pz _ _ e2;have pk:=pz _ _ ((hBd.cell (p:=⟨b,off+k * 7,none⟩) hblt).trans Hd0.out);have Hwd:=ae hwd;have HBd:=ae hBd;have HUd:=ae hUd;have HXd:=ae hXd;have HWr:=ae (eW wd w.heap.size d M' hUd.disk);have HMp:=ae (fs wd w.heap.size d u M' U' hUd HV'.out);clear hwd hbd hBd hUd hXd hbb e0 e1 e2 pz;go_wp2_with fail
        skip
        refine aJ aI [(0,true),(1,true),(2,true),(4,true),(3,false),(5,true),(6,true),(7,true),(8,true),(9,true),(10,true),(11,true),(12,true),(13,true),(14,true),(15,true),(16,true),(18,true),(17,false),(19,false),(20,true),(21,true),(22,true)] (by kernel_rfl) (by kernel_rfl) aH aG ?_;rw[<- Hwd.out]
        repeat (first
         | (refine aF (v:=?_) rfl (aD rfl) (fun w' hC=>?_) (fun K hK=>?_);rotate_left;(focus (go_simp;(try simp(disch:=omega) only[af]);(try simp(disch:=omega) only[aj]);(try simp(disch:=omega) only[ap]);(try simp(disch:=omega) only[ah]);(try simp(disch:=omega) only[am]);first | done | exact rfl));go_simp;(try simp(disch:=omega) only[af]);(try simp(disch:=omega) only[aj]);(try simp(disch:=omega) only[ap]);(try simp(disch:=omega) only[ah]);(try simp(disch:=omega) only[am]);refine hK _ ?_;clear hK K)
         | (refine aU rfl (fun A B hA hB=>?_);go_simp;first | (refine hA ⟨?_,fun w' hC=>?_,fun K hK=>?_⟩;rotate_left;(focus (go_simp;(try simp(disch:=omega) only[af]);(try simp(disch:=omega) only[aj]);(try simp(disch:=omega) only[ap]);(try simp(disch:=omega) only[ah]);(try simp(disch:=omega) only[am]);first | done | exact rfl));go_simp;(try simp(disch:=omega) only[af]);(try simp(disch:=omega) only[aj]);(try simp(disch:=omega) only[ap]);(try simp(disch:=omega) only[ah]);(try simp(disch:=omega) only[am]);refine hK _ ?_;clear hK K hA hB A B) | (refine hB (fun K hK=>?_);go_simp;(try simp(disch:=omega) only[af]);(try simp(disch:=omega) only[aj]);(try simp(disch:=omega) only[ap]);(try simp(disch:=omega) only[ah]);(try simp(disch:=omega) only[am]);refine hK _ ?_;clear hK K hA hB A B))
         | (refine aM rfl (fun A B hA hB=>?_);go_simp;refine hB (fun K hK=>?_);go_simp;(try simp(disch:=omega) only[af]);(try simp(disch:=omega) only[aj]);(try simp(disch:=omega) only[ap]);(try simp(disch:=omega) only[ah]);(try simp(disch:=omega) only[am]);refine hK _ ?_;clear hK K hA hB A B))
        refine aQ rfl rfl (fun KK hK=>?_);go_simp;refine HWr.out.mono ?_;rintro e wz ⟨rfl,rfl⟩;rw[HMq.out];refine⟨_,rfl,aH _,hK _ _ ?_⟩;clear hK KK HWr;go_simp
        repeat (first
         | (refine aF (v:=?_) rfl (aD rfl) (fun w' hC=>?_) (fun K hK=>?_);rotate_left;(focus (go_simp;(try simp(disch:=omega) only[af]);(try simp(disch:=omega) only[aj]);(try simp(disch:=omega) only[ap]);(try simp(disch:=omega) only[ah]);(try simp(disch:=omega) only[am]);first | done | exact rfl));go_simp;(try simp(disch:=omega) only[af]);(try simp(disch:=omega) only[aj]);(try simp(disch:=omega) only[ap]);(try simp(disch:=omega) only[ah]);(try simp(disch:=omega) only[am]);refine hK _ ?_;clear hK K)
         | (refine aU rfl (fun A B hA hB=>?_);go_simp;first | (refine hA ⟨?_,fun w' hC=>?_,fun K hK=>?_⟩;rotate_left;(focus (go_simp;(try simp(disch:=omega) only[af]);(try simp(disch:=omega) only[aj]);(try simp(disch:=omega) only[ap]);(try simp(disch:=omega) only[ah]);(try simp(disch:=omega) only[am]);first | done | exact rfl));go_simp;(try simp(disch:=omega) only[af]);(try simp(disch:=omega) only[aj]);(try simp(disch:=omega) only[ap]);(try simp(disch:=omega) only[ah]);(try simp(disch:=omega) only[am]);refine hK _ ?_;clear hK K hA hB A B) | (refine hB (fun K hK=>?_);go_simp;(try simp(disch:=omega) only[af]);(try simp(disch:=omega) only[aj]);(try simp(disch:=omega) only[ap]);(try simp(disch:=omega) only[ah]);(try simp(disch:=omega) only[am]);refine hK _ ?_;clear hK K hA hB A B))
         | (refine aM rfl (fun A B hA hB=>?_);go_simp;refine hB (fun K hK=>?_);go_simp;(try simp(disch:=omega) only[af]);(try simp(disch:=omega) only[aj]);(try simp(disch:=omega) only[ap]);(try simp(disch:=omega) only[ah]);(try simp(disch:=omega) only[am]);refine hK _ ?_;clear hK K hA hB A B))
        skip
        refine aW ?_;clear pe0 pe1 pe2 pk;go_wp2_with fail
        go_roundw
        case rel=>exact⟨k+1,M',U',by omega,by go_num,HUd.out,HI'.out.1,HI'.out.2.1,HI'.out.2.2.1,HI'.out.2.2.2.1,HG'.out.1,HG'.out.2,HBd.out⟩
        case measure=>simp[intOf];omega
     | false=>
       by_cases hk5:kk=5
       ·subst hk5;have Hck:=ae (Hckk.out rfl)
        obtain⟨wd,hwd⟩:∃ q,q=w6.drew:=⟨_,rfl⟩
        have hbd:Below w6.heap.size w6 wd:=by rw[hwd];exact(Below.refl w6.heap.size w6).drew
        have hBd:=HBw.out.trans (hbd.mono HBw.out.size);have hUd:=HUw.out.keep hbd;have hXd:=HXb.out.keep (w':=wd) fun q _ hlt=>hbd.block q hlt
        have hbb:=HBb.out.keep (hbd.block _ HBb.out.lt);obtain⟨e0,e1,e2⟩:=cell3 hbb;have pz:∀ q x,wd.cell? q=some x -> ∀ w',aI wd w' -> w'.cell? q=some x:=fun q x hc w' hh=>(hh.cell (p:=q) (cellLt hc)).trans hc
        have pe0:=pz _ _ e0;have pe1:=pz _ _ e1;have pe2:=pz _ _ e2;have pk:=pz _ _ ((hBd.cell (p:=⟨b,off+k * 7,none⟩) hblt).trans Hd0.out);have Hwd:=ae hwd;have HBd:=ae hBd;have HUd:=ae hUd;have HXd:=ae hXd;have HWr:=ae (eW wd w.heap.size d M' hUd.disk);have HMp:=ae (fs wd w.heap.size d u M' U' hUd HV'.out);clear hwd hbd hBd hUd hXd hbb e0 e1 e2 pz;go_wp2_with fail
        skip
        refine aJ aI [(0,true),(1,true),(2,true),(4,true),(3,false),(5,true),(6,true),(7,true),(8,true),(9,true),(10,true),(11,true),(12,true),(13,true),(14,true),(15,true),(16,true),(18,true),(17,false),(19,false),(20,true),(21,true),(22,true)] (by kernel_rfl) (by kernel_rfl) aH aG ?_;rw[<- Hwd.out]
        repeat (first
         | (refine aF (v:=?_) rfl (aD rfl) (fun w' hC=>?_) (fun K hK=>?_);rotate_left;(focus (go_simp;(try simp(disch:=omega) only[af]);(try simp(disch:=omega) only[aj]);(try simp(disch:=omega) only[ap]);(try simp(disch:=omega) only[ah]);(try simp(disch:=omega) only[am]);first | done | exact rfl));go_simp;(try simp(disch:=omega) only[af]);(try simp(disch:=omega) only[aj]);(try simp(disch:=omega) only[ap]);(try simp(disch:=omega) only[ah]);(try simp(disch:=omega) only[am]);refine hK _ ?_;clear hK K)
         | (refine aU rfl (fun A B hA hB=>?_);go_simp;first | (refine hA ⟨?_,fun w' hC=>?_,fun K hK=>?_⟩;rotate_left;(focus (go_simp;(try simp(disch:=omega) only[af]);(try simp(disch:=omega) only[aj]);(try simp(disch:=omega) only[ap]);(try simp(disch:=omega) only[ah]);(try simp(disch:=omega) only[am]);first | done | exact rfl));go_simp;(try simp(disch:=omega) only[af]);(try simp(disch:=omega) only[aj]);(try simp(disch:=omega) only[ap]);(try simp(disch:=omega) only[ah]);(try simp(disch:=omega) only[am]);refine hK _ ?_;clear hK K hA hB A B) | (refine hB (fun K hK=>?_);go_simp;(try simp(disch:=omega) only[af]);(try simp(disch:=omega) only[aj]);(try simp(disch:=omega) only[ap]);(try simp(disch:=omega) only[ah]);(try simp(disch:=omega) only[am]);refine hK _ ?_;clear hK K hA hB A B))
         | (refine aM rfl (fun A B hA hB=>?_);go_simp;refine hB (fun K hK=>?_);go_simp;(try simp(disch:=omega) only[af]);(try simp(disch:=omega) only[aj]);(try simp(disch:=omega) only[ap]);(try simp(disch:=omega) only[ah]);(try simp(disch:=omega) only[am]);refine hK _ ?_;clear hK K hA hB A B))
        skip
        refine aQ rfl rfl (fun KK hK=>?_);go_simp;refine HMp.out.mono ?_;rintro e wm ⟨⟨r,rfl,ho,hbd⟩,hb⟩;have hmv:=ho.map hbd;obtain⟨t1,t2,t3,rfl,ho'⟩:=id ho;obtain⟨q1,l1,rfl⟩:=own_shape ho'.seen;obtain⟨q2,l2,rfl⟩:=own_shape ho'.items;obtain⟨q3,l3,rfl⟩:=own_shape ho'.gone;refine⟨_,rfl,hb,hK _ _ ?_⟩;clear hK KK HMp;go_simp;have HS2:=ae (eB wm _ _ _ (.agg #[.slice a1 m.seen.length p1,.slice a2 m.items.length p2,.slice a3 m.gone.length p3]) U'.m m hmv ⟨_,_,_,rfl,HXd.out.keep (w':=wm) fun q _ hlt=>hb.block q hlt⟩ (bM HV'.out).1 (bM HV'.out).2.1 (bM HV'.out).2.2 (bM Hvm.out).1 (bM Hvm.out).2.1 (bM Hvm.out).2.2);have HBm:=ae hb;clear hmv ho ho' hbd hb
        repeat (first
         | (refine aF (v:=?_) rfl (aD rfl) (fun w' hC=>?_) (fun K hK=>?_);rotate_left;(focus (go_simp;(try simp(disch:=omega) only[af]);(try simp(disch:=omega) only[aj]);(try simp(disch:=omega) only[ap]);(try simp(disch:=omega) only[ah]);(try simp(disch:=omega) only[am]);first | done | exact rfl));go_simp;(try simp(disch:=omega) only[af]);(try simp(disch:=omega) only[aj]);(try simp(disch:=omega) only[ap]);(try simp(disch:=omega) only[ah]);(try simp(disch:=omega) only[am]);refine hK _ ?_;clear hK K)
         | (refine aU rfl (fun A B hA hB=>?_);go_simp;first | (refine hA ⟨?_,fun w' hC=>?_,fun K hK=>?_⟩;rotate_left;(focus (go_simp;(try simp(disch:=omega) only[af]);(try simp(disch:=omega) only[aj]);(try simp(disch:=omega) only[ap]);(try simp(disch:=omega) only[ah]);(try simp(disch:=omega) only[am]);first | done | exact rfl));go_simp;(try simp(disch:=omega) only[af]);(try simp(disch:=omega) only[aj]);(try simp(disch:=omega) only[ap]);(try simp(disch:=omega) only[ah]);(try simp(disch:=omega) only[am]);refine hK _ ?_;clear hK K hA hB A B) | (refine hB (fun K hK=>?_);go_simp;(try simp(disch:=omega) only[af]);(try simp(disch:=omega) only[aj]);(try simp(disch:=omega) only[ap]);(try simp(disch:=omega) only[ah]);(try simp(disch:=omega) only[am]);refine hK _ ?_;clear hK K hA hB A B))
         | (refine aM rfl (fun A B hA hB=>?_);go_simp;refine hB (fun K hK=>?_);go_simp;(try simp(disch:=omega) only[af]);(try simp(disch:=omega) only[aj]);(try simp(disch:=omega) only[ap]);(try simp(disch:=omega) only[ah]);(try simp(disch:=omega) only[am]);refine hK _ ?_;clear hK K hA hB A B))
        refine aQ rfl rfl (fun KK hK=>?_);go_simp;refine HS2.out.mono ?_;rintro e wn ⟨r2,rfl,hr2,hb2⟩;obtain rfl:r2=true:=hr2.2 Hck.out;refine⟨_,rfl,hb2,hK _ _ ?_⟩;have HBn:=ae (show Below wd.heap.size wd wn from HBm.out.trans (hb2.mono HBm.out.size));clear hK KK HS2 hr2 hb2;go_simp
        repeat (first
         | (refine aF (v:=?_) rfl (aD rfl) (fun w' hC=>?_) (fun K hK=>?_);rotate_left;(focus (go_simp;(try simp(disch:=omega) only[af]);(try simp(disch:=omega) only[aj]);(try simp(disch:=omega) only[ap]);(try simp(disch:=omega) only[ah]);(try simp(disch:=omega) only[am]);first | done | exact rfl));go_simp;(try simp(disch:=omega) only[af]);(try simp(disch:=omega) only[aj]);(try simp(disch:=omega) only[ap]);(try simp(disch:=omega) only[ah]);(try simp(disch:=omega) only[am]);refine hK _ ?_;clear hK K)
         | (refine aU rfl (fun A B hA hB=>?_);go_simp;first | (refine hA ⟨?_,fun w' hC=>?_,fun K hK=>?_⟩;rotate_left;(focus (go_simp;(try simp(disch:=omega) only[af]);(try simp(disch:=omega) only[aj]);(try simp(disch:=omega) only[ap]);(try simp(disch:=omega) only[ah]);(try simp(disch:=omega) only[am]);first | done | exact rfl));go_simp;(try simp(disch:=omega) only[af]);(try simp(disch:=omega) only[aj]);(try simp(disch:=omega) only[ap]);(try simp(disch:=omega) only[ah]);(try simp(disch:=omega) only[am]);refine hK _ ?_;clear hK K hA hB A B) | (refine hB (fun K hK=>?_);go_simp;(try simp(disch:=omega) only[af]);(try simp(disch:=omega) only[aj]);(try simp(disch:=omega) only[ap]);(try simp(disch:=omega) only[ah]);(try simp(disch:=omega) only[am]);refine hK _ ?_;clear hK K hA hB A B))
         | (refine aM rfl (fun A B hA hB=>?_);go_simp;refine hB (fun K hK=>?_);go_simp;(try simp(disch:=omega) only[af]);(try simp(disch:=omega) only[aj]);(try simp(disch:=omega) only[ap]);(try simp(disch:=omega) only[ah]);(try simp(disch:=omega) only[am]);refine hK _ ?_;clear hK K hA hB A B))
        refine aW ?_;clear pe0 pe1 pe2 pk;go_wp2_with fail
        go_roundw
        case rel=>exact⟨k+1,M',U',by omega,by go_num,HUd.out.keep HBn.out,HI'.out.1,HI'.out.2.1,HI'.out.2.2.1,HI'.out.2.2.2.1,HG'.out.1,HG'.out.2,HBd.out.trans (HBn.out.mono HBd.out.size)⟩
        case measure=>simp[intOf];omega
       ·skip
        obtain⟨wd,hwd⟩:∃ q,q=w6.drew:=⟨_,rfl⟩
        have hbd:Below w6.heap.size w6 wd:=by rw[hwd];exact(Below.refl w6.heap.size w6).drew
        have hBd:=HBw.out.trans (hbd.mono HBw.out.size);have hUd:=HUw.out.keep hbd;have hXd:=HXb.out.keep (w':=wd) fun q _ hlt=>hbd.block q hlt
        have hbb:=HBb.out.keep (hbd.block _ HBb.out.lt);obtain⟨e0,e1,e2⟩:=cell3 hbb;have pz:∀ q x,wd.cell? q=some x -> ∀ w',aI wd w' -> w'.cell? q=some x:=fun q x hc w' hh=>(hh.cell (p:=q) (cellLt hc)).trans hc
        have pe0:=pz _ _ e0;have pe1:=pz _ _ e1;have pe2:=pz _ _ e2;have pk:=pz _ _ ((hBd.cell (p:=⟨b,off+k * 7,none⟩) hblt).trans Hd0.out);have Hwd:=ae hwd;have HBd:=ae hBd;have HUd:=ae hUd;have HXd:=ae hXd;have HWr:=ae (eW wd w.heap.size d M' hUd.disk);have HMp:=ae (fs wd w.heap.size d u M' U' hUd HV'.out);clear hwd hbd hBd hUd hXd hbb e0 e1 e2 pz;go_wp2_with fail
        skip
        refine aJ aI [(0,true),(1,true),(2,true),(4,true),(3,false),(5,true),(6,true),(7,true),(8,true),(9,true),(10,true),(11,true),(12,true),(13,true),(14,true),(15,true),(16,true),(18,true),(17,false),(19,false),(20,true),(21,true),(22,true)] (by kernel_rfl) (by kernel_rfl) aH aG ?_;rw[<- Hwd.out]
        repeat (first
         | (refine aF (v:=?_) rfl (aD rfl) (fun w' hC=>?_) (fun K hK=>?_);rotate_left;(focus (go_simp;(try simp(disch:=omega) only[af]);(try simp(disch:=omega) only[aj]);(try simp(disch:=omega) only[ap]);(try simp(disch:=omega) only[ah]);(try simp(disch:=omega) only[am]);first | done | exact rfl));go_simp;(try simp(disch:=omega) only[af]);(try simp(disch:=omega) only[aj]);(try simp(disch:=omega) only[ap]);(try simp(disch:=omega) only[ah]);(try simp(disch:=omega) only[am]);refine hK _ ?_;clear hK K)
         | (refine aU rfl (fun A B hA hB=>?_);go_simp;first | (refine hA ⟨?_,fun w' hC=>?_,fun K hK=>?_⟩;rotate_left;(focus (go_simp;(try simp(disch:=omega) only[af]);(try simp(disch:=omega) only[aj]);(try simp(disch:=omega) only[ap]);(try simp(disch:=omega) only[ah]);(try simp(disch:=omega) only[am]);first | done | exact rfl));go_simp;(try simp(disch:=omega) only[af]);(try simp(disch:=omega) only[aj]);(try simp(disch:=omega) only[ap]);(try simp(disch:=omega) only[ah]);(try simp(disch:=omega) only[am]);refine hK _ ?_;clear hK K hA hB A B) | (refine hB (fun K hK=>?_);go_simp;(try simp(disch:=omega) only[af]);(try simp(disch:=omega) only[aj]);(try simp(disch:=omega) only[ap]);(try simp(disch:=omega) only[ah]);(try simp(disch:=omega) only[am]);refine hK _ ?_;clear hK K hA hB A B))
         | (refine aM rfl (fun A B hA hB=>?_);go_simp;refine hB (fun K hK=>?_);go_simp;(try simp(disch:=omega) only[af]);(try simp(disch:=omega) only[aj]);(try simp(disch:=omega) only[ap]);(try simp(disch:=omega) only[ah]);(try simp(disch:=omega) only[am]);refine hK _ ?_;clear hK K hA hB A B))
        skip
        skip
        refine aW ?_;clear pe0 pe1 pe2 pk;go_wp2_with fail
        go_roundw
        case rel=>exact⟨k+1,M',U',by omega,by go_num,HUd.out,HI'.out.1,HI'.out.2.1,HI'.out.2.2.1,HI'.out.2.2.2.1,HG'.out.1,HG'.out.2,HBd.out⟩
        case measure=>simp[intOf];omega
end
end Go.Proofs.YtobjdpngnfbicaaGreatDoor
