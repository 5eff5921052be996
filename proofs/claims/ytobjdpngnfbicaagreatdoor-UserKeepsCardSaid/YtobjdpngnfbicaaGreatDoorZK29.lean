/-
  RMerge
-/
import Derived.Test.YtobjdpngnfbicaaGreatDoorZK28
open Go.Lib renaming hid->ae
open Nat renaming le_refl->aq,le_trans->au
open List renaming length_append->ax
open Go.Proofs.Tryz renaming prog->aC
namespace Go.Proofs.YtobjdpngnfbicaaGreatDoor
open Go.RowKit
set_option linter.unusedVariables false
set_option maxRecDepth 20000
section
attribute [local go_sem] opC upC
theorem rO (x y:RIt):laterR x y=if (if Lib.compareInt x.seq y.seq=0 then Lib.compareInt x.val y.val else Lib.compareInt x.seq y.seq) < 0 then y else x:=by
 unfold laterR Lib.compareInt
 by_cases h1:x.seq < y.seq
 ·simp[h1]
 ·by_cases h2:x.seq=y.seq
  ·simp[h2]
   by_cases h3:x.val < y.val
   ·simp[h3]
   ·by_cases h4:y.val < x.val <;> simp[h3,h4]
  ·have h3:y.seq < x.seq:=by omega
   simp[h1,h2,h3]
set_option maxRecDepth 100000 in
set_option maxHeartbeats 2000000 in
theorem qD (w:World) (x y:RIt):
 Calls aC 115 #[itV x,itV y] w fun e w'=>e=.returned (itV (laterR x y)) /\ Below w.heap.size w w':=by
 obtain⟨wa,hwa⟩:∃ wa,wa=w.alloc (.cells #[.string ⟨x.key.toArray⟩,.int .i64 x.dev,.int .i64 x.seq,.int .i64 x.val] 108):=⟨_,rfl⟩
 obtain⟨wb,hwb⟩:∃ wb,wb=wa.alloc (.cells #[.string ⟨y.key.toArray⟩,.int .i64 y.dev,.int .i64 y.seq,.int .i64 y.val] 108):=⟨_,rfl⟩
 obtain⟨w2,hw2⟩:∃ w2,w2=wb.alloc (.cells #[.string ⟨#[]⟩,.int .i64 0,.int .i64 0,.int .i64 0] 108):=⟨_,rfl⟩
 have hza:wa.heap.size=w.heap.size+1:=by rw[hwa];simp
 have hzb:wb.heap.size=w.heap.size+1+1:=by rw[hwb];simp[hza]
 have hb2:Below w.heap.size w w2:=by rw[hw2,hwb,hwa];exact((aE _ _).alloc (by simp) _).alloc (by simp;omega) _
 have kx:Blk w2 w.heap.size [.string ⟨x.key.toArray⟩,.int .i64 x.dev,.int .i64 x.seq,.int .i64 x.val] 108:=by rw[hw2,hwb,hwa];exact((Blk.new _ _ _).alloc _).alloc _
 have ky:Blk w2 (w.heap.size+1) [.string ⟨y.key.toArray⟩,.int .i64 y.dev,.int .i64 y.seq,.int .i64 y.val] 108:=by rw[hw2,hwb,<- hza];exact(Blk.new _ _ _).alloc _
 have kr:Blk w2 (w.heap.size+1+1) [.string ⟨#[]⟩,.int .i64 0,.int .i64 0,.int .i64 0] 108:=by rw[hw2,<- hzb];exact Blk.new _ _ _
 have p2:∀ w',aI w2.drew w' -> w'.cell? ⟨w.heap.size,2,none⟩=some (.int .i64 x.seq):=fun w' hh=>laterC (cell4 kx).2.2.1 hh
 have p3:∀ w',aI w2.drew w' -> w'.cell? ⟨w.heap.size,3,none⟩=some (.int .i64 x.val):=fun w' hh=>laterC (cell4 kx).2.2.2 hh
 have q2:∀ w',aI w2.drew w' -> w'.cell? ⟨w.heap.size+1,2,none⟩=some (.int .i64 y.seq):=fun w' hh=>laterC (cell4 ky).2.2.1 hh
 have q3:∀ w',aI w2.drew w' -> w'.cell? ⟨w.heap.size+1,3,none⟩=some (.int .i64 y.val):=fun w' hh=>laterC (cell4 ky).2.2.2 hh
 have Hw2:=ae (show w2=((w.alloc (.cells #[.string ⟨x.key.toArray⟩,.int .i64 x.dev,.int .i64 x.seq,.int .i64 x.val] 108)).alloc (.cells #[.string ⟨y.key.toArray⟩,.int .i64 y.dev,.int .i64 y.seq,.int .i64 y.val] 108)).alloc (.cells #[.string ⟨#[]⟩,.int .i64 0,.int .i64 0,.int .i64 0] 108) by rw[hw2,hwb,hwa]);have Hb2:=ae hb2;have Kx:=ae kx;have Ky:=ae ky;have Kr:=ae kr;have hlt:=rO x y
 obtain⟨z,hz⟩:∃ z,laterR x y=z:=⟨_,rfl⟩
 rw[hz] at hlt ⊢
 obtain⟨c1,hc1⟩:∃ c,Lib.compareInt x.seq y.seq=c:=⟨_,rfl⟩
 obtain⟨c2,hc2⟩:∃ c,Lib.compareInt x.val y.val=c:=⟨_,rfl⟩
 have hS:=Tryz.cmp_Compare_int x.seq y.seq w2.drew;have hI:=Tryz.cmp_Compare_int x.val y.val w2.drew;rw[hc1] at hS hlt;rw[hc2] at hI hlt;have Hlt:=ae hlt;have HS:=ae hS;have HI:=ae hI
 obtain⟨wz,hwz⟩:∃ wz,wz=w2.drew.alloc (.cells #[.int .i64 c1,.int .i64 c2] 3):=⟨_,rfl⟩
 have kz:aI w2.drew wz:=by rw[hwz];exact aE _ _
 have HO:=ae (or2_any w2.drew c1 c2 wz hwz);have Hwz:=ae hwz;have Kz:=ae kz;clear hwa hwb hw2 hza hzb hb2 kx ky kr hc1 hc2 hS hI hwz kz hz hlt;unfold itV
 go_enter Tryz.func115,Tryz.ntmps115
 go_wp2_with fail;rw[<- Hw2.out];refine aJ aI [(0,true),(1,true),(2,true),(3,true),(5,true),(6,true),(7,true),(8,true),(4,false),(9,false),(10,false),(11,false),(12,true)] (by kernel_rfl) (by kernel_rfl) aH aG ?_
 repeat (refine aF (v:=?_) rfl (aD rfl) (fun w' hC=>?_) (fun K hK=>?_);rotate_left;(focus (go_simp;first | done | exact rfl));go_simp;refine hK _ ?_;clear hK K)
 clear p2 p3 q2 q3;refine aQ rfl rfl (fun KK hK=>?_);go_simp;refine HS.out.mono ?_;rintro e w' ⟨rfl,rfl⟩;refine⟨_,rfl,aH _,hK _ _ ?_⟩;clear hK KK;go_simp;refine aQ rfl rfl (fun KK hK=>?_);go_simp;refine HI.out.mono ?_;rintro e w' ⟨rfl,rfl⟩;refine⟨_,rfl,aH _,hK _ _ ?_⟩;clear hK KK HS HI;go_simp;refine aQ rfl rfl (fun KK hK=>?_);go_simp;rw[show (w2.alloc (.cells #[.int .i64 c1,.int .i64 c2] 3)).drew=wz from Hwz.out.symm];refine⟨Kz.out,hK _ _ ?_⟩;clear hK KK;go_simp;refine aQ rfl rfl (fun KK hK=>?_);go_simp;refine HO.out.mono ?_;rintro e w' ⟨rfl,rfl⟩;refine⟨_,rfl,aH _,hK _ _ ?_⟩;clear hK KK HO;go_simp;have hl2:Below w2.heap.size w2 wz:=(Below.refl _ _).drew.trans Kz.out;have kx3:=Kx.out.keep (hl2.block _ Kx.out.lt);have ky3:=Ky.out.keep (hl2.block _ Ky.out.lt);have kr3:=Kr.out.keep (hl2.block _ Kr.out.lt);have hb3:Below w.heap.size w wz:=Hb2.out.trans (hl2.mono Hb2.out.size);obtain⟨x0,x1,x2,x3⟩:=cell4 kx3;obtain⟨y0,y1,y2,y3⟩:=cell4 ky3;obtain⟨r0,r1,r2,r3⟩:=cell4 kr3;have f0:=kr3.free 0;have f1:=kr3.free 1;have f2:=kr3.free 2;have f3:=kr3.free 3;have Kr3:=ae kr3;have Hb3:=ae hb3;clear hl2 kx3 ky3 kr3 hb3 Hw2 Hwz Kz;have hlt:=Hlt.out;generalize (if c1=0 then c2 else c1)=c at hlt ⊢;clear Hlt
 by_cases hc:c < 0
 ·rw[if_pos hc] at hlt;subst hlt;obtain⟨wf,hwf,hblk,hbf⟩:=fin4 Kr3.out Hb3.out (show w.heap.size <= w.heap.size+1+1 by omega) (.string ⟨z.key.toArray⟩) (.int .i64 z.dev) (.int .i64 z.seq) (.int .i64 z.val);have Hwf:=ae hwf;have Hbf:=ae hbf;have Q:=ae (cell4 hblk);clear hwf hbf hblk
  repeat (refine aF (v:=?_) rfl (aD rfl) (fun w' hC=>?_) (fun K hK=>?_);rotate_left;(focus (go_simp;first | done | exact rfl));go_simp;refine hK _ ?_;clear hK K)
  refine aW ?_;go_wp2_with fail;rw[<- Hwf.out];obtain⟨u0,u1,u2,u3⟩:=Q.out;exact bodyPost_ret (v:=.agg #[.string ⟨z.key.toArray⟩,.int .i64 z.dev,.int .i64 z.seq,.int .i64 z.val]) (by simp[results,Tryz.results115,go_sem,u0,u1,u2,u3]) rfl ⟨rfl,Hbf.out⟩
 ·rw[if_neg hc] at hlt;subst hlt;obtain⟨wf,hwf,hblk,hbf⟩:=fin4 Kr3.out Hb3.out (show w.heap.size <= w.heap.size+1+1 by omega) (.string ⟨z.key.toArray⟩) (.int .i64 z.dev) (.int .i64 z.seq) (.int .i64 z.val);have Hwf:=ae hwf;have Hbf:=ae hbf;have Q:=ae (cell4 hblk);clear hwf hbf hblk
  repeat (refine aF (v:=?_) rfl (aD rfl) (fun w' hC=>?_) (fun K hK=>?_);rotate_left;(focus (go_simp;first | done | exact rfl));go_simp;refine hK _ ?_;clear hK K)
  refine aW ?_;go_wp2_with fail;rw[<- Hwf.out];obtain⟨u0,u1,u2,u3⟩:=Q.out;exact bodyPost_ret (v:=.agg #[.string ⟨z.key.toArray⟩,.int .i64 z.dev,.int .i64 z.seq,.int .i64 z.val]) (by simp[results,Tryz.results115,go_sem,u0,u1,u2,u3]) rfl ⟨rfl,Hbf.out⟩
def kw (bo:Nat) (s1 s2 s3:Value) (F:aV) (mo:RMap) (w:World):Prop:=Blk w bo [s1,s2,s3] 37 /\ bJ F w s1 s2 s3 mo
set_option maxRecDepth 100000 in
set_option maxHeartbeats 1500000 in
theorem pf (w:World) (B bo:Nat) (F:aV) (s1 s2 s3:Value) (mo:RMap) (x:RIt) (h:kw bo s1 s2 s3 F mo w) (hl:mo.gone.length <= 1000000) (ha:Asc RGo.pl mo.gone) (hB:B <= w.heap.size):
 Calls aC 116 #[itV x,.pointer (some ⟨bo,0,none⟩)] w fun e w'=>e=.returned (.bool (decide (x.seq <= mo.buried x.pl))) /\ kw bo s1 s2 s3 F mo w' /\ ev B w w':=by
 obtain⟨hk,hm⟩:=h
 obtain⟨bv,hbv⟩:∃ bv,mo.buried x.pl=bv:=⟨_,rfl⟩
 rw[hbv];have Hbv:=ae hbv;clear hbv;obtain⟨a1,p1,rfl,-⟩:=hm.seen.shape;obtain⟨a2,p2,rfl,-⟩:=hm.items.shape;obtain⟨a3,p3,rfl,-⟩:=hm.gone.shape
 obtain⟨w1,hw1⟩:∃ w1,w1=w.alloc (.cells #[.string ⟨x.key.toArray⟩,.int .i64 x.dev,.int .i64 x.seq,.int .i64 x.val] 108):=⟨_,rfl⟩
 have hb1:Below w.heap.size w w1:=by rw[hw1];exact aE _ _
 have kx:Blk w1 w.heap.size [.string ⟨x.key.toArray⟩,.int .i64 x.dev,.int .i64 x.seq,.int .i64 x.val] 108:=by rw[hw1];exact Blk.new _ _ _
 have hk1:=hk.keep (hb1.block _ hk.lt);have hm1:=hm.keep (w':=w1) fun b _ hlt=>hb1.block b hlt
 have p0:∀ w',aI w1.drew w' -> w'.cell? ⟨w.heap.size,0,none⟩=some (.string ⟨x.key.toArray⟩):=fun w' hh=>laterC (cell4 kx).1 hh
 have p1':∀ w',aI w1.drew w' -> w'.cell? ⟨w.heap.size,1,none⟩=some (.int .i64 x.dev):=fun w' hh=>laterC (cell4 kx).2.1 hh
 have p2':∀ w',aI w1.drew w' -> w'.cell? ⟨w.heap.size,2,none⟩=some (.int .i64 x.seq):=fun w' hh=>laterC (cell4 kx).2.2.1 hh
 have p3':∀ w',aI w1.drew w' -> w'.cell? ⟨w.heap.size,3,none⟩=some (.int .i64 x.val):=fun w' hh=>laterC (cell4 kx).2.2.2 hh
 have q0:∀ w',aI w1.drew w' -> w'.cell? ⟨bo,0,none⟩=some (.slice a1 mo.seen.length p1):=fun w' hh=>laterC (cell3 hk1).1 hh
 have q1:∀ w',aI w1.drew w' -> w'.cell? ⟨bo,1,none⟩=some (.slice a2 mo.items.length p2):=fun w' hh=>laterC (cell3 hk1).2.1 hh
 have q2:∀ w',aI w1.drew w' -> w'.cell? ⟨bo,2,none⟩=some (.slice a3 mo.gone.length p3):=fun w' hh=>laterC (cell3 hk1).2.2 hh
 have hP:=itPlace_any w1.drew x;unfold itV at hP;have HP:=ae hP;have Hw1:=ae hw1;have Hb1:=ae hb1;have Hk:=ae hk;have Hm:=ae hm;have Hm1:=ae hm1;clear hP hw1 hb1 hk hm kx hk1 hm1;unfold itV
 go_enter Tryz.func116,Tryz.ntmps116
 go_wp2_with fail;rw[<- Hw1.out];refine aJ aI [(0,true),(1,true),(2,true),(3,true),(4,false),(5,false),(6,true),(7,true)] (by kernel_rfl) (by kernel_rfl) aH aG ?_
 repeat (refine aF (v:=?_) rfl (aD rfl) (fun w' hC=>?_) (fun K hK=>?_);rotate_left;(focus (go_simp;first | done | exact rfl));go_simp;refine hK _ ?_;clear hK K)
 clear p0 p1' p2' p3' q0 q1 q2;refine aQ rfl rfl (fun KK hK=>?_);go_simp;refine HP.out.mono ?_;rintro e w2 ⟨rfl,hb2⟩;refine⟨_,rfl,hb2,hK _ _ ?_⟩;clear hK KK HP;have hL2:Below w.heap.size w w2:=Hb1.out.drew.trans (hb2.mono Hb1.out.size);have hBu:=j0 w2 F (.agg #[.slice a1 mo.seen.length p1,.slice a2 mo.items.length p2,.slice a3 mo.gone.length p3]) mo ⟨_,_,_,rfl,Hm.out.keep (w':=w2) fun b _ hlt=>hL2.block b hlt⟩ x.pl hl ha;rw[Hbv.out] at hBu;have HBu:=ae hBu;have HL2:=ae hL2;clear hBu hL2 hb2;go_simp;refine aQ rfl rfl (fun KK hK=>?_);go_simp;refine HBu.out.mono ?_;rintro e w3 ⟨rfl,hb3⟩;refine⟨_,rfl,hb3,hK _ _ ?_⟩;clear hK KK HBu;have Hb3:=ae (HL2.out.trans (hb3.mono HL2.out.size));clear hb3;go_simp
 repeat (refine aF (v:=?_) rfl (aD rfl) (fun w' hC=>?_) (fun K hK=>?_);rotate_left;(focus (go_simp;first | done | exact rfl));go_simp;refine hK _ ?_;clear hK K)
 refine aW ?_;go_wp2_with fail
 go_ret
 exact⟨rfl,⟨Hk.out.keep (Hb3.out.block _ Hk.out.lt),Hm.out.keep (w':=w3) fun b _ hlt=>Hb3.out.block b hlt⟩,Hb3.out.mono hB,fun b L t hb _ _=>hb.keep (Hb3.out.block b hb.lt)⟩
set_option maxHeartbeats 1000000 in
theorem nQ (w:World) (bo:Nat):
 Calls aC 108 #[.slice none 0 0,.func (.func 116) #[] #[.pointer (some ⟨bo,0,none⟩)]] w fun e w'=>e=.returned (.slice none 0 0) /\ w'=w:=by
 have hI:Calls aC 168 #[.slice none 0 0,.func (.func 116) #[] #[.pointer (some ⟨bo,0,none⟩)]] w fun e w'=>e=.returned (.int .i64 (-1)) /\ w'=w:=by
  go_enter Tryz.func168,Tryz.ntmps168
  go_wp2_with fail
  go_loop [8] (fun i=>i=.int .i64 0) (fun _=>0)
  case atStart=>rfl
  case round=>
   subst hrel;go_wp2_with fail
   go_ret
   exact⟨rfl,rfl⟩
 have HI:=ae hI;clear hI
 go_enter Tryz.func108,Tryz.ntmps108
 go_wp2_with fail;refine HI.out.mono ?_;rintro e w1 ⟨rfl,rfl⟩;go_wp2_with fail
 go_ret
 exact⟨rfl,rfl⟩
set_option maxRecDepth 100000 in
set_option maxHeartbeats 2000000 in
theorem mz (bo:Nat) (St:List RIt -> World -> Prop) (pd:RIt -> Bool) (B:Nat)
 (hrun:∀ pre x w,St pre w -> B <= w.heap.size -> pre.length <= 1000000 -> Calls aC 116 #[itV x,.pointer (some ⟨bo,0,none⟩)] w fun e w'=>e=.returned (.bool (pd x)) /\ St (pre ++ [x]) w' /\ ev B w w')
 (w:World) (g cap:Nat) (l:List RIt) (rest:List Value) (hg:Blk w g (l.flatMap aZ ++ rest) 108) (hl:l.length <= 1000000) (hB:B <= w.heap.size) (h0:St [] w):
 Calls aC 168 #[.slice (some ⟨g,0,none⟩) l.length cap,.func (.func 116) #[] #[.pointer (some ⟨bo,0,none⟩)]] w fun e w'=>pV pd l St e w' /\ ev B w w':=by
 obtain⟨n,hn⟩:∃ n,l.length=n:=⟨_,rfl⟩
 have Hn:=ae hn;have Hg:=ae hg;have HR:=ae hrun;have H0:=ae h0;rw[hn] at hl ⊢;clear hn hg hrun h0
 go_enter Tryz.func168,Tryz.ntmps168
 go_wp2_with fail
 go_loopw [8] (fun i wr=>∃ k:Nat,k <= n /\ i=.int .i64 (k:Int) /\ (∀ j (h:j < l.length),j < k -> pd l[j]=false) /\ St (l.take k) wr /\ ev B w wr) (fun i _=>n - (intOf i).toNat)
 case atStart=>exact⟨0,by omega,rfl,fun j _ hj=>by omega,H0.out,⟨Below.refl _ _,fun _ _ _ h _ _=>h⟩⟩
 case round=>
  obtain⟨k,hk,rfl,hall,hst,hkg⟩:=hrel;have Hall:=ae hall;have Hst:=ae hst;have Hkg:=ae hkg;clear hall hst hkg
  by_cases hkn:k < n
  ·have hkI:(k:Int) < (n:Int):=by omega
   have hkl:k < l.length:=by rw[Hn.out];exact hkn
   have hgr:=Hkg.out.blk _ _ _ Hg.out (by decide) (by decide)
   obtain⟨x,hx⟩:∃ x,l[k]=x:=⟨_,rfl⟩
   have hc:∀ j,j < 4 -> wr.cell? ⟨g,k * 4+j,none⟩=(aZ x)[j]?:=fun j hj=>by
    rw[hgr.cell,List.getElem?_append_left (by rw[bI aZ 4 br];omega),dt aZ 4 br l k j hkl hj,hx]
   have x0:wr.cell? ⟨g,k * 4,none⟩=some (.string ⟨x.key.toArray⟩):=hc 0 (by omega);have x1:wr.cell? ⟨g,k * 4+1,none⟩=some (.int .i64 x.dev):=hc 1 (by omega);have x2:wr.cell? ⟨g,k * 4+2,none⟩=some (.int .i64 x.seq):=hc 2 (by omega);have x3:wr.cell? ⟨g,k * 4+3,none⟩=some (.int .i64 x.val):=hc 3 (by omega);have hC:=HR.out (l.take k) x wr Hst.out (au hB Hkg.out.bel.size) (by simp;omega);unfold itV at hC;have HC:=ae hC;have Htk:=ae (show l.take k ++ [x]=l.take (k+1) by rw[List.take_succ_eq_append_getElem hkl,hx]);have Hx:=ae hx;generalize hpd:pd x=b at HC;clear hC hgr hc hx;have Hpd:=ae hpd;clear hpd;go_wp2_with fail;refine HC.out.mono ?_;rintro e w2 ⟨rfl,hst2,hkg2⟩;rw[Htk.out] at hst2;have Hst2:=ae hst2;have Hkg2:=ae (Hkg.out.trans hkg2);clear HC hst2 hkg2 x0 x1 x2 x3;cases b with
   | true=>
     go_wp2_with fail
     go_ret
     exact⟨.inl ⟨k,x,by rw[List.getElem?_eq_getElem hkl,Hx.out],rfl,Hpd.out,nP pd l k Hall.out,Hst2.out⟩,Hkg2.out⟩
   | false=>
     go_wp2_with fail
     go_roundw
     case rel=>exact⟨k+1,by omega,by go_num,fun j hj hjk=>by
      rcases Nat.lt_succ_iff_lt_or_eq.1 hjk with h | h
      ·exact Hall.out j hj h
      ·subst h;rw[Hx.out];exact Hpd.out,Hst2.out,Hkg2.out⟩
     case measure=>simp[intOf];omega
  ·have hkI:¬ (k:Int) < (n:Int):=by omega
   obtain rfl:k=n:=by omega
   have Hfin:=ae (show (∀ x ∈ l,pd x=false) /\ St l wr from ⟨fun x hx=>by
    obtain⟨j,hj,rfl⟩:=List.getElem_of_mem hx;exact Hall.out j hj (by rw[Hn.out] at hj;exact hj),by
    have:=Hst.out;rw[<- Hn.out,List.take_length] at this
    exact this⟩)
   go_wp2_with fail
   go_ret
   exact⟨.inr ⟨rfl,Hfin.out.1,Hfin.out.2⟩,Hkg.out⟩
set_option maxRecDepth 100000 in
set_option maxHeartbeats 4000000 in
theorem mA (bo:Nat) (St:List RIt -> World -> Prop) (pd:RIt -> Bool) (B B2:Nat) (hBB:B <= B2)
 (hrun:∀ pre x w,St pre w -> B2 <= w.heap.size -> pre.length <= 1000000 -> Calls aC 116 #[itV x,.pointer (some ⟨bo,0,none⟩)] w fun e w'=>e=.returned (.bool (pd x)) /\ St (pre ++ [x]) w' /\ ev B2 w w')
 (hkeep:∀ pre w w',St pre w -> cK B w w' -> St pre w')
 (w:World) (g cap m:Nat) (l:List RIt) (rest:List Value) (hg:Blk w g (l.flatMap aZ ++ rest) 108) (hm:(l.flatMap aZ ++ rest).length=m) (hgB:B <= g) (hl:l.length <= 1000000) (hcap:l.length <= cap) (hB2:B2 <= w.heap.size) (h0:St [] w):
 Calls aC 108 #[.slice (some ⟨g,0,none⟩) l.length cap,.func (.func 116) #[] #[.pointer (some ⟨bo,0,none⟩)]] w fun e w'=>
  (e=.returned (.slice (some ⟨g,0,none⟩) (l.filter fun x=>!pd x).length cap) /\ gW g m (l.filter fun x=>!pd x) w' /\ St l w') /\ dj B B2 w w':=by
 have HI:=ae (mz bo St pd B2 hrun w g cap l rest hg hl hB2 h0)
 obtain⟨n,hn⟩:∃ n,l.length=n:=⟨_,rfl⟩
 have Hn:=ae hn;have Hg:=ae hg;have HR:=ae hrun;have HK:=ae hkeep;have Hm:=ae hm;rw[hn] at hl hcap HI ⊢;clear hn hg hrun h0 hkeep hm
 go_enter Tryz.func108,Tryz.ntmps108
 go_wp2_with fail;refine HI.out.mono ?_;rintro e w1 ⟨hpost,hkg⟩;have Hkg:=ae hkg;clear HI hkg;rcases hpost with ⟨k,x,hkx,rfl,hpx,hall,hst⟩ | ⟨rfl,hall,hst⟩
 ·have hkl:k < l.length:=(List.getElem?_eq_some_iff.1 hkx).1;have hlx:l[k]=x:=(List.getElem?_eq_some_iff.1 hkx).2;have hf0:(l.take k).filter (fun x=>!pd x)=l.take k:=List.filter_eq_self.2 fun y hy=>by rw[hall y hy];rfl
  have hf1:(l.take (k+1)).filter (fun x=>!pd x)=l.take k:=by rw[fx _ l k hkl,hf0,hlx,hpx];simp
  have hkn:k < n:=by rw[<- Hn.out];exact hkl
  have H0:=ae (show jy St pd B B2 g w w1 l rest l k (k+1) from ⟨Hkg.out.blk _ _ _ Hg.out (by decide) (by decide),rfl,rfl,hf1.symm,by omega,by rw[hf1];simp;omega,hst,(Hkg.out.gi hBB)⟩);have hk1:((k:Int) == -1)=false:=by simp
  have hk2:¬ (k:Int) = -1:=by omega
  clear hall hst hpx hlx hf0 hf1 hkx hkl Hkg;go_wp2_with fail
  go_loopw [5,6] (fun si sj wr=>∃ i j cl,j <= n /\ si=.int .i64 ((i:Nat):Int) /\ sj=.int .i64 ((j:Nat):Int) /\ jy St pd B B2 g w wr l rest cl i j) (fun _ sj _=>n - (intOf sj).toNat)
  case atStart=>exact⟨k,k+1,l,by omega,rfl,by go_num,H0.out⟩
  case round=>
   obtain⟨i,j,cl,hj,rfl,rfl,st⟩:=hrel;have St0:=ae st;clear st H0
   by_cases hjn:j < n
   ·have hjI:(j:Int) < (n:Int):=by omega
    have hjl:j < l.length:=by rw[Hn.out];exact hjn
    have hjc:j < cl.length:=by rw[St0.out.len];exact hjl
    obtain⟨x,hx⟩:∃ x,l[j]=x:=⟨_,rfl⟩
    have hcx:cl[j]=x:=by
     have h1:=congrArg (fun z:List RIt=>z[0]?) St0.out.drop;simp only[List.getElem?_drop,Nat.add_zero,List.getElem?_eq_getElem hjc,List.getElem?_eq_getElem hjl] at h1;rw[<- hx];exact Option.some.inj h1
    have hc:∀ q,q < 4 -> wr.cell? ⟨g,j * 4+q,none⟩=(aZ x)[q]?:=fun q hq=>by
     rw[St0.out.blk.cell,List.getElem?_append_left (by rw[bI aZ 4 br];omega),dt aZ 4 br cl j q hjc hq,hcx]
    have x0:wr.cell? ⟨g,j * 4,none⟩=some (.string ⟨x.key.toArray⟩):=hc 0 (by omega);have x1:wr.cell? ⟨g,j * 4+1,none⟩=some (.int .i64 x.dev):=hc 1 (by omega);have x2:wr.cell? ⟨g,j * 4+2,none⟩=some (.int .i64 x.seq):=hc 2 (by omega);have x3:wr.cell? ⟨g,j * 4+3,none⟩=some (.int .i64 x.val):=hc 3 (by omega)
    obtain⟨wX,hwX⟩:∃ wX,wX=wr.alloc (.cells #[.string ⟨x.key.toArray⟩,.int .i64 x.dev,.int .i64 x.seq,.int .i64 x.val] 108):=⟨_,rfl⟩
    have hBr2:B2 <= wr.heap.size:=au hB2 St0.out.keep.bel.size;have hBr:B <= wr.heap.size:=au hBB hBr2;have kiX:cK B wr wX:=by rw[hwX];exact cK.alloc hBr _
    have kX:Blk wX wr.heap.size [.string ⟨x.key.toArray⟩,.int .i64 x.dev,.int .i64 x.seq,.int .i64 x.val] 108:=by rw[hwX];exact Blk.new _ _ _
    have kg:Blk wX g (cl.flatMap aZ ++ rest) 108:=by rw[hwX];exact St0.out.blk.alloc _
    have hC:=HR.out (l.take j) x wX (HK.out _ _ _ St0.out.st kiX) (au hBr2 kiX.bel.size) (by simp;omega);unfold itV at hC;have Htk:=ae (show l.take j ++ [x]=l.take (j+1) by rw[List.take_succ_eq_append_getElem hjl,hx]);generalize hpd:pd x=b at hC;have HC:=ae hC;have Hpd:=ae hpd;have HwX:=ae hwX;have KiX:=ae kiX;have KX:=ae kX;have Kg:=ae kg;have Hx:=ae hx;obtain⟨q0,q1,q2,q3⟩:=cell4 kX;rw[hwX] at q0 q1 q2 q3;clear hC hpd hwX kiX kX kg hc hx hcx;go_wp2_with fail;rw[<- HwX.out];refine HC.out.mono ?_;rintro e w2 ⟨rfl,hst2,hkg2⟩;rw[Htk.out] at hst2;have hx2:=hkg2.blk _ _ _ KX.out (by decide) (by decide);have hg2:=hkg2.blk _ _ _ Kg.out (by decide) (by decide);have hki2:dj B B2 w w2:=St0.out.keep.trans (KiX.out.gi.trans (hkg2.gi hBB));have hile:=St0.out.ile
    have hdj:cl.drop (j+1)=l.drop (j+1):=by
     have:=congrArg (List.drop 1) St0.out.drop;simpa[List.drop_drop,Nat.add_comm] using this
    have hfj:=fx (fun x=>!pd x) l j hjl;rw[Hx.out,Hpd.out] at hfj;clear x0 x1 x2 x3 q0 q1 q2 q3 HC;cases b with
    | true=>
      have Hst:=ae (show jy St pd B B2 g w w2 l rest cl i (j+1) from by
       have hf:(l.take (j+1)).filter (fun x=>!pd x)=(l.take j).filter fun x=>!pd x:=by rw[hfj];simp
       exact⟨hg2,St0.out.len,hdj,by rw[hf];exact St0.out.take,by omega,by rw[hf];exact St0.out.ilen,hst2,hki2⟩)
      clear hx2 hg2 hki2 hdj hfj hst2 hkg2;go_wp2_with fail
      go_roundw
      case rel=>exact⟨i,j+1,cl,by omega,rfl,by go_num,Hst.out⟩
      case measure=>simp[intOf];omega
    | false=>
      obtain⟨q0,q1,q2,q3⟩:=cell4 hx2;have hic:i < cl.length:=by omega
      have hLl:(cl.flatMap aZ ++ rest).length=cl.length * 4+rest.length:=by rw[ax,bI aZ 4 br]
      obtain⟨z0,y0⟩:∃ z,w2.cell? ⟨g,i * 4,none⟩=some z:=⟨_,(hg2.cell (i * 4)).trans (List.getElem?_eq_getElem (by omega))⟩
      obtain⟨z1,y1⟩:∃ z,w2.cell? ⟨g,i * 4+1,none⟩=some z:=⟨_,(hg2.cell (i * 4+1)).trans (List.getElem?_eq_getElem (by omega))⟩
      obtain⟨z2,y2⟩:∃ z,w2.cell? ⟨g,i * 4+2,none⟩=some z:=⟨_,(hg2.cell (i * 4+2)).trans (List.getElem?_eq_getElem (by omega))⟩
      obtain⟨z3,y3⟩:∃ z,w2.cell? ⟨g,i * 4+3,none⟩=some z:=⟨_,(hg2.cell (i * 4+3)).trans (List.getElem?_eq_getElem (by omega))⟩
      have f0:=hg2.free (i * 4);have f1:=hg2.free (i * 4+1);have f2:=hg2.free (i * 4+2);have f3:=hg2.free (i * 4+3)
      obtain⟨w3,hw3⟩:∃ w3,w3=(((w2.setCell ⟨g,i * 4,none⟩ (.string ⟨x.key.toArray⟩)).setCell ⟨g,i * 4+1,none⟩ (.int .i64 x.dev)).setCell ⟨g,i * 4+2,none⟩ (.int .i64 x.seq)).setCell ⟨g,i * 4+3,none⟩ (.int .i64 x.val):=⟨_,rfl⟩
      have s1:=hg2.set (i * 4) (.string ⟨x.key.toArray⟩);have s2:=s1.set (i * 4+1) (.int .i64 x.dev);have s3:=s2.set (i * 4+2) (.int .i64 x.seq);have s4:=s3.set (i * 4+3) (.int .i64 x.val);rw[i8 x rest cl i hic,<- hw3] at s4
      have ki3:cK B w2 w3:=by
       rw[hw3];exact(((cK.set hg2 hgB _).trans (cK.set s1 hgB _)).trans (cK.set s2 hgB _)).trans (cK.set s3 hgB _)
      have Hst:=ae (show jy St pd B B2 g w w3 l rest (cl.set i x) (i+1) (j+1) from by
       have hf:(l.take (j+1)).filter (fun x=>!pd x)=((l.take j).filter fun x=>!pd x) ++ [x]:=by rw[hfj];rfl
       refine⟨s4,by rw[List.length_set];exact St0.out.len,by rw[List.drop_set_of_lt (by omega)];exact hdj,?_,by omega,by rw[hf,ax,<- St0.out.ilen];rfl,HK.out _ _ _ hst2 ki3,hki2.trans ki3.gi⟩;rw[hf,<- St0.out.take,List.take_succ_eq_append_getElem (by simpa using hic)]
       simp[List.take_set_of_le (aq i)])
      have Hw3:=ae hw3;clear hx2 hg2 hki2 hdj hfj hst2 hkg2 hw3 s1 s2 s3 s4 ki3 hLl;go_wp2_with fail;rw[<- Hw3.out];clear q0 q1 q2 q3 y0 y1 y2 y3 f0 f1 f2 f3
      go_roundw
      case rel=>exact⟨i+1,j+1,cl.set i x,by omega,by go_num,by go_num,Hst.out⟩
      case measure=>simp[intOf];omega
   ·have hjI:¬ (j:Int) < (n:Int):=by omega
    obtain rfl:j=n:=by omega
    have hfin:l.take j=l:=by rw[<- Hn.out,List.take_length]
    have ht:=St0.out.take;have hi:=St0.out.ilen;have hst:=St0.out.st;rw[hfin] at ht hi hst;have hile:=St0.out.ile;have Hst:=ae hst;have Ht:=ae ht;have Hi:=ae hi;clear hfin ht hi hst;have hLl:(cl.flatMap aZ ++ rest).length=cl.length * 4+rest.length:=by rw[ax,bI aZ 4 br]
    have hcl:=St0.out.len;rw[Hn.out] at hcl
    by_cases hci:cap=i
    ·obtain⟨wf,L',hrc,hb',hl',ht',hk'⟩:=ej wr 0 g 0 (j - i) 0 _ St0.out.blk hgB (by omega)
     have Hfin:=ae (show gW g m (l.filter fun x=>!pd x) wf /\ St l wf /\ dj B B2 w wf from by
      refine⟨⟨L',hb',?_,?_⟩,HK.out _ _ _ Hst.out hk',St0.out.keep.trans hk'.gi⟩
      ·rw[hl',hLl,<- Hm.out,ax,bI aZ 4 br,St0.out.len]
      ·rw[<- Hi.out,ht' (i * 4) (.inr (by omega)),<- Ht.out,List.take_append_of_le_length (by rw[bI aZ 4 br];omega)]
       exact fJ cl i)
     have Hrc:=ae hrc;clear hb' hl' ht' hk' hLl hcl;go_wp2_with fail
     go_ret
     exact⟨⟨by rw[<- Hi.out];rfl,Hfin.out.1,Hfin.out.2.1⟩,Hfin.out.2.2⟩
    ·obtain⟨wf,L',hrc,hb',hl',ht',hk'⟩:=ej wr 0 g (i * 4) (j - i) (cap - i) _ St0.out.blk hgB (by omega)
     have Hfin:=ae (show gW g m (l.filter fun x=>!pd x) wf /\ St l wf /\ dj B B2 w wf from by
      refine⟨⟨L',hb',?_,?_⟩,HK.out _ _ _ Hst.out hk',St0.out.keep.trans hk'.gi⟩
      ·rw[hl',hLl,<- Hm.out,ax,bI aZ 4 br,St0.out.len]
      ·rw[<- Hi.out,ht' (i * 4) (.inl (aq _)),<- Ht.out,List.take_append_of_le_length (by rw[bI aZ 4 br];omega)]
       exact fJ cl i)
     have Hrc:=ae hrc;clear hb' hl' ht' hk' hLl hcl;go_wp2_with fail
     go_ret
     exact⟨⟨by rw[<- Hi.out];rfl,Hfin.out.1,Hfin.out.2.1⟩,Hfin.out.2.2⟩
 ·have hf:l.filter (fun x=>!pd x)=l:=List.filter_eq_self.2 fun y hy=>by rw[hall y hy];rfl
  have Hf:=ae hf;have Hst:=ae hst;clear hf hall hst;go_wp2_with fail
  go_ret
  refine⟨⟨?_,⟨_,Hkg.out.blk _ _ _ Hg.out (by decide) (by decide),Hm.out,by rw[Hf.out,List.take_append_of_le_length (by rw[bI aZ 4 br];exact aq _),List.take_of_length_le (by rw[bI aZ 4 br];exact aq _)]⟩,Hst.out⟩,(Hkg.out.gi hBB)⟩;rw[Hf.out,Hn.out];rfl
theorem lj (w:World) (B B2 bo:Nat) (hBB:B <= B2) (F:aV) (s1 s2 s3:Value) (mo:RMap) (v:Value) (l:List RIt) (ho:w.ownsRow B2 108 4 v l.length (l.flatMap aZ)) (hl:l.length <= 1000000) (hB:B2 <= w.heap.size) (hgl:mo.gone.length <= 1000000) (ha:Asc RGo.pl mo.gone) (hF:∀ b,F b -> b < B2) (hbo:bo < B2) (h0:kw bo s1 s2 s3 F mo w):
 Calls aC 108 #[v,.func (.func 116) #[] #[.pointer (some ⟨bo,0,none⟩)]] w fun e w'=>
  ∃ v',e=.returned v' /\ w'.ownsRow B2 108 4 v' (l.filter fun x=>!decide (x.seq <= mo.buried x.pl)).length ((l.filter fun x=>!decide (x.seq <= mo.buried x.pl)).flatMap aZ) /\ kw bo s1 s2 s3 F mo w' /\ Below B2 w w':=by
 rcases ho.2 with ⟨rfl,hz⟩ | ⟨g,cap,cur,rfl,hbase,hg,hc,hm,hsz,htk⟩
 ·obtain rfl:=List.length_eq_zero_iff.1 hz;refine(nQ w bo).mono ?_;rintro e w' ⟨rfl,rfl⟩;exact⟨_,rfl,World.ownsRow_nil _ _ _ _,h0,Below.refl _ _⟩
 ·have hcur:cur.toList=l.flatMap aZ ++ cur.toList.drop (l.length * 4):=by
   rw[<- htk,List.take_append_drop]
  have hb:Blk w g (l.flatMap aZ ++ cur.toList.drop (l.length * 4)) 108:=by
   rw[<- hcur];exact hg
  refine(mA bo (fun _ W=>kw bo s1 s2 s3 F mo W) (fun x=>decide (x.seq <= mo.buried x.pl)) B2 B2 (aq _) (fun pre x W hst hBW hpre=>pf W B2 bo F s1 s2 s3 mo x hst hgl ha hBW) (fun pre W W' h hk=>⟨h.1.keep (hk.bel.block _ hbo),h.2.keep (w':=W') fun b hb _=>hk.bel.block b (hF b hb)⟩) w g cap _ l _ hb rfl hbase hl hc hB h0).mono ?_;rintro e w' ⟨⟨rfl,⟨L',hL1,hL2,hL3⟩,hst⟩,hkp⟩;refine⟨_,rfl,⟨by rw[bI aZ 4 br],.inr ⟨g,cap,L'.toArray,rfl,hbase,hL1,au (List.length_filter_le _ _) hc,hm,?_,hL3⟩⟩,hst,hkp.bel⟩;rw[List.size_toArray,hL2,<- hcur];exact hsz
end
end Go.Proofs.YtobjdpngnfbicaaGreatDoor
