/-
  RMerge2
-/
import Derived.Test.YtobjdpngnfbicaaGreatDoorZK29
open Go.Lib renaming hid->ae
open Nat renaming le_refl->aq,le_trans->au
open Go.Proofs.Tryz renaming prog->aC
namespace Go.Proofs.YtobjdpngnfbicaaGreatDoor
open Go.RowKit
set_option linter.unusedVariables false
set_option maxRecDepth 20000
section
open Go.Sort
attribute [local go_sem] opC upC
theorem iN {m:RMap} (h:validR m=true):m.seen.length=8 /\ m.items.length <= 4096 /\ m.gone.length <= 4096:=by
 have:=(valid_formed h).len;unfold validR at h;simp at h;exact⟨this,by omega,by omega⟩
def dC (x y:List Int) (k:Nat):List Int:=List.zipWith max (x.take k) (y.take k) ++ x.drop k
theorem kA (x y:List Int) (k:Nat) (h:x.length=y.length) (hk:k <= x.length):(dC x y k).length=x.length:=by
 unfold dC;simp;omega
theorem nR (x y:List Int):dC x y 0=x:=by simp[dC]
theorem pi (x y:List Int) (h:x.length=y.length):dC x y x.length=List.zipWith max x y:=by
 unfold dC;rw[List.take_length,h,List.take_length,<- h,List.drop_length,List.append_nil]
theorem pj (x y:List Int) (k:Nat) (h:x.length=y.length) (hk:k < x.length):(dC x y k)[k]?=some x[k]:=by
 unfold dC;rw[List.getElem?_append_right (by simp;omega)];simp[Nat.min_eq_left (show k <= x.length by omega),Nat.min_eq_left (show k <= y.length by omega),hk]
theorem nS (x y:List Int) (k:Nat) (h:x.length=y.length) (hk:k < x.length):dC x y (k+1)=(dC x y k).set k (max x[k] (y[k]'(by omega))):=by
 unfold dC;have hz:(List.zipWith max (x.take k) (y.take k)).length=k:=by simp;omega
 rw[List.set_append_right _ _ (by omega),hz,Nat.sub_self,List.drop_eq_getElem_cons hk,List.set_cons_zero,List.take_succ_eq_append_getElem hk,List.take_succ_eq_append_getElem (show k < y.length by omega),List.zipWith_append (by simp;omega)];simp
set_option maxRecDepth 100000 in
set_option maxHeartbeats 4000000 in
theorem iq (w:World) (hT:cL w) (h3:4 <= w.heap.size) (F G:aV) (va vb:Value) (a b:RMap) (ha:cY F w va a) (hb:cY G w vb b):
 Calls aC 59 #[va,vb] w (UPost w (mergeR a b)):=by
 replace ha:=ha.mono (G:=fun q=>q < w.heap.size) fun q _ hlt=>hlt
 replace hb:=hb.mono (G:=fun q=>q < w.heap.size) fun q _ hlt=>hlt
 obtain⟨s1a,s2a,s3a,rfl,ha⟩:=ha;obtain⟨a1a,p1a,rfl,-⟩:=ha.seen.shape;obtain⟨a2a,p2a,rfl,-⟩:=ha.items.shape;obtain⟨a3a,p3a,rfl,-⟩:=ha.gone.shape
 obtain⟨wxa,hwxa⟩:∃ wx,wx=w.alloc (.cells #[.slice a1a a.seen.length p1a,.slice a2a a.items.length p2a,.slice a3a a.gone.length p3a] 37):=⟨_,rfl⟩
 have hbxa:Below w.heap.size w wxa:=by rw[hwxa];exact aE _ _
 have hzxa:wxa.heap.size=w.heap.size+1:=by rw[hwxa];simp
 have hxa:=ha.keep (w':=wxa) fun b _ hlt=>hbxa.block b hlt
 have hnxa:Blk wxa w.heap.size [.slice a1a a.seen.length p1a,.slice a2a a.items.length p2a,.slice a3a a.gone.length p3a] 37:=by rw[hwxa];exact Blk.new _ _ _
 have Hxa:=ae hxa;have Hwxa:=ae hwxa;have Hbxa:=ae hbxa;have Hzxa:=ae hzxa;have Hnxa:=ae hnxa;clear hxa hwxa hbxa hnxa hzxa ha
 replace hb:cY (fun q=>q < w.heap.size) wxa vb b:=hb.keep (w':=wxa) fun q _ hlt=>Hbxa.out.block q hlt
 obtain⟨s1b,s2b,s3b,rfl,hb⟩:=hb;obtain⟨a1b,p1b,rfl,-⟩:=hb.seen.shape;obtain⟨a2b,p2b,rfl,-⟩:=hb.items.shape;obtain⟨a3b,p3b,rfl,-⟩:=hb.gone.shape
 obtain⟨wxb,hwxb⟩:∃ wx,wx=wxa.alloc (.cells #[.slice a1b b.seen.length p1b,.slice a2b b.items.length p2b,.slice a3b b.gone.length p3b] 37):=⟨_,rfl⟩
 have hbxb:Below wxa.heap.size wxa wxb:=by rw[hwxb];exact aE _ _
 have hzxb:wxb.heap.size=wxa.heap.size+1:=by rw[hwxb];simp
 have hxb:=hb.keep (w':=wxb) fun b _ hlt=>hbxb.block b hlt
 have hnxb:Blk wxb wxa.heap.size [.slice a1b b.seen.length p1b,.slice a2b b.items.length p2b,.slice a3b b.gone.length p3b] 37:=by rw[hwxb];exact Blk.new _ _ _
 have Hxb:=ae hxb;have Hwxb:=ae hwxb;have Hbxb:=ae hbxb;have Hzxb:=ae hzxb;have Hnxb:=ae hnxb;clear hxb hwxb hbxb hnxb hzxb hb
 obtain⟨w2,hw2⟩:∃ w2,w2=wxb.alloc (.cells #[.slice none 0 0,.slice none 0 0,.slice none 0 0] 37):=⟨_,rfl⟩
 have hzb:wxb.heap.size=w.heap.size+2:=by rw[Hzxb.out,Hzxa.out]
 have hz2:w2.heap.size=w.heap.size+3:=by rw[hw2];simp[hzb]
 have hbb:Below w.heap.size w wxb:=Hbxa.out.trans (Hbxb.out.mono Hbxa.out.size);have hb2:Below w.heap.size w w2:=by rw[hw2];exact hbb.alloc hbb.size _
 have ka:Blk w2 w.heap.size [.slice a1a a.seen.length p1a,.slice a2a a.items.length p2a,.slice a3a a.gone.length p3a] 37:=by rw[hw2];exact(Hnxa.out.keep (Hbxb.out.block _ Hnxa.out.lt)).alloc _
 have kb:Blk w2 (w.heap.size+1) [.slice a1b b.seen.length p1b,.slice a2b b.items.length p2b,.slice a3b b.gone.length p3b] 37:=by
  have:=Hnxb.out;rw[Hzxa.out] at this;rw[hw2];exact this.alloc _
 have kr:Blk w2 (w.heap.size+1+1) [.slice none 0 0,.slice none 0 0,.slice none 0 0] 37:=by
  have:=Blk.new wxb #[.slice none 0 0,.slice none 0 0,.slice none 0 0] 37;rw[<- hw2,hzb] at this;exact this
 have hMa:=Hxa.out;have hMb:=Hxb.out
 have HR:=ae (show ∀ W,Below w2.heap.size w2 W -> Below w.heap.size w W /\ Blk W w.heap.size [.slice a1a a.seen.length p1a,.slice a2a a.items.length p2a,.slice a3a a.gone.length p3a] 37 /\ Blk W (w.heap.size+1) [.slice a1b b.seen.length p1b,.slice a2b b.items.length p2b,.slice a3b b.gone.length p3b] 37 /\ Blk W (w.heap.size+1+1) [.slice none 0 0,.slice none 0 0,.slice none 0 0] 37 /\ bJ (fun q=>q < w.heap.size) W (.slice a1a a.seen.length p1a) (.slice a2a a.items.length p2a) (.slice a3a a.gone.length p3a) a /\ bJ (fun q=>q < w.heap.size) W (.slice a1b b.seen.length p1b) (.slice a2b b.items.length p2b) (.slice a3b b.gone.length p3b) b from fun W hW=>by
  have hB:Below w.heap.size w W:=hb2.trans (hW.mono (by omega))
  exact⟨hB,ka.keep (hW.block _ ka.lt),kb.keep (hW.block _ kb.lt),kr.keep (hW.block _ kr.lt),hMa.keep (w':=W) fun q hq _=>(hB.block q hq).trans (Hbxa.out.block q hq).symm,hMb.keep (w':=W) fun q hq _=>(hB.block q hq).trans (hbb.block q hq).symm⟩)
 have HTb:=ae (show ∀ W,Below w.heap.size w W -> cL W /\ 4 <= W.heap.size from fun W hW=>⟨bi hT h3 hW,au h3 hW.size⟩);have HCa:=ae (iT w2 (HTb.out w2 hb2).1 (HTb.out w2 hb2).2 _ (.agg #[.slice a1a a.seen.length p1a,.slice a2a a.items.length p2a,.slice a3a a.gone.length p3a]) a ⟨_,_,_,rfl,(HR.out w2 (Below.refl _ _)).2.2.2.2.1⟩);have Hw2:=ae hw2;have Hz2:=ae hz2;obtain⟨c0,c1,c2⟩:=cell3 ka
 obtain⟨va',hva⟩:∃ va',validR a=va':=⟨_,rfl⟩
 rw[hva] at HCa;have Hva:=ae hva;clear hw2 hzb hz2 hbb hb2 ka kb kr hMa hMb hT hva
 go_enter Tryz.func59,Tryz.ntmps59
 go_wp2_with fail;rw[<- Hwxa.out,<- Hwxb.out,<- Hw2.out];refine HCa.out.mono ?_;rintro e w3 ⟨rfl,hb3⟩;clear HCa c0 c1 c2;cases va' with
 | false=>
   have Hu:=ae (show mergeR a b=(.empty,5) by unfold mergeR;rw[Hva.out];rfl);have kr:=(HR.out w3 hb3).2.2.2.1;have hbel:=(HR.out w3 hb3).1;clear hb3;obtain⟨wf,hwf,hblk,hbf⟩:=fin3 kr hbel (by omega) (.slice none 0 0) (.slice none 0 0) (.slice none 0 0);obtain⟨y0,y1,y2⟩:=cell3 kr;have z0:=kr.free 0;have z1:=kr.free 1;have z2:=kr.free 2;have Q:=ae (cell3 hblk);have Hbf:=ae hbf;have Hwf:=ae hwf;clear hwf hblk hbf;go_wp2_with fail;rw[<- Hwf.out];obtain⟨q0,q1,q2⟩:=Q.out;exact bodyPost_ret (v:=.tuple #[nilV,.int .i64 5]) (by simp[results,Tryz.results59,go_sem,q0,q1,q2,nilV]) rfl ⟨⟨_,by rw[Hu.out],by rw[Hu.out];exact own_nil _ _,by rw[Hu.out];exact bnd_empty⟩,Hbf.out⟩
 | true=>
   have HCb:=ae (iT w3 (HTb.out w3 (HR.out w3 hb3).1).1 (HTb.out w3 (HR.out w3 hb3).1).2 _ (.agg #[.slice a1b b.seen.length p1b,.slice a2b b.items.length p2b,.slice a3b b.gone.length p3b]) b ⟨_,_,_,rfl,(HR.out w3 hb3).2.2.2.2.2⟩)
   obtain⟨vb',hvb⟩:∃ vb',validR b=vb':=⟨_,rfl⟩
   rw[hvb] at HCb;have Hvb:=ae hvb;obtain⟨d0,d1,d2⟩:=cell3 (HR.out w3 hb3).2.2.1;have Hb3:=ae hb3;clear hvb hb3;go_wp2_with fail;refine HCb.out.mono ?_;rintro e w4 ⟨rfl,hb4⟩;have hL4:Below w2.heap.size w2 w4:=Hb3.out.trans (hb4.mono Hb3.out.size);clear HCb d0 d1 d2 hb4;cases vb' with
   | false=>
     have Hu:=ae (show mergeR a b=(.empty,5) by unfold mergeR;rw[Hva.out,Hvb.out];rfl);have kr:=(HR.out w4 hL4).2.2.2.1;have hbel:=(HR.out w4 hL4).1;clear hL4;obtain⟨wf,hwf,hblk,hbf⟩:=fin3 kr hbel (by omega) (.slice none 0 0) (.slice none 0 0) (.slice none 0 0);obtain⟨y0,y1,y2⟩:=cell3 kr;have z0:=kr.free 0;have z1:=kr.free 1;have z2:=kr.free 2;have Q:=ae (cell3 hblk);have Hbf:=ae hbf;have Hwf:=ae hwf;clear hwf hblk hbf;go_wp2_with fail;rw[<- Hwf.out];obtain⟨q0,q1,q2⟩:=Q.out;exact bodyPost_ret (v:=.tuple #[nilV,.int .i64 5]) (by simp[results,Tryz.results59,go_sem,q0,q1,q2,nilV]) rfl ⟨⟨_,by rw[Hu.out],by rw[Hu.out];exact own_nil _ _,by rw[Hu.out];exact bnd_empty⟩,Hbf.out⟩
   | true=>
     have fa:=valid_formed Hva.out;have fb:=valid_formed Hvb.out;have hsa:=iN Hva.out;have hsb:=iN Hvb.out;have HCp:=ae (j5 w4 _ (.agg #[.slice a1a a.seen.length p1a,.slice a2a a.items.length p2a,.slice a3a a.gone.length p3a]) a ⟨_,_,_,rfl,(HR.out w4 hL4).2.2.2.2.1⟩ (by omega) (by omega) (by omega));obtain⟨c0,c1,c2⟩:=cell3 (HR.out w4 hL4).2.1;have HL4:=ae hL4;have Hsa:=ae hsa;have Hsb:=ae hsb;have Hfa:=ae fa;have Hfb:=ae fb;clear hL4 hsa hsb fa fb;go_wp2_with fail;refine HCp.out.mono ?_;rintro e w5 ⟨⟨r,rfl,s1,s2,s3,rfl,ho⟩,hb5⟩;have hL5:Below w2.heap.size w2 w5:=HL4.out.trans (hb5.mono HL4.out.size);obtain⟨b1,e1,hs1⟩:=own_shape ho.seen;obtain⟨b2,e2,rfl⟩:=own_shape ho.items;obtain⟨b3,e3,rfl⟩:=own_shape ho.gone;subst hs1
     obtain⟨g,rfl⟩:∃ g,b1=some ⟨g,0,none⟩:=by
      rcases ho.seen.2 with ⟨_,h0⟩ | ⟨g,cap,cur,hv,_⟩
      ·have:=Hsa.out.1;omega
      ·simp at hv;exact⟨g,hv.1⟩
     obtain⟨w6,hw6⟩:∃ w6,w6=w5.alloc (.cells #[.slice (some ⟨g,0,none⟩) a.seen.length e1,.slice b2 a.items.length e2,.slice b3 a.gone.length e3] 37):=⟨_,rfl⟩
     have hb6:Below w5.heap.size w5 w6:=by rw[hw6];exact aE _ _
     have ho6:=ho.below hb6;have kO:Blk w6 w5.heap.size [.slice (some ⟨g,0,none⟩) a.seen.length e1,.slice b2 a.items.length e2,.slice b3 a.gone.length e3] 37:=by rw[hw6];exact Blk.new _ _ _
     have hL6:Below w2.heap.size w2 w6:=hL5.trans (hb6.mono hL5.size)
     obtain⟨hg1,hg2⟩:w4.heap.size <= g /\ g < w5.heap.size:=by
      rcases ho.seen.2 with ⟨hh,_⟩ | ⟨g',cap,cur,hv,hb,hg,_⟩
      ·simp at hh
      ·simp at hv;obtain⟨rfl,-⟩:=hv;exact⟨hb,lt_of_block hg⟩
     have hle:a.seen.length=b.seen.length:=by have:=Hsa.out.1;have:=Hsb.out.1;omega
     have hbs:b.seen.length <= 1000:=by have:=Hsb.out.1;omega
     have H6:=ae (show Blk w6 w5.heap.size [.slice (some ⟨g,0,none⟩) a.seen.length e1,.slice b2 a.items.length e2,.slice b3 a.gone.length e3] 37 /\ cD w6 w4.heap.size (.slice (some ⟨g,0,none⟩) a.seen.length e1) (.slice b2 a.items.length e2) (.slice b3 a.gone.length e3) ⟨dC a.seen b.seen 0,a.items,a.gone⟩ /\ Below w2.heap.size w2 w6 from ⟨kO,by rw[nR];exact ho6,hL6⟩);have Hw6:=ae hw6;have Hg:=ae (And.intro hg1 hg2);have Hle:=ae hle;have HL5:=ae hL5;have H4s:=ae HL4.out.size;have kb5:=(HR.out w5 hL5).2.2.1;obtain⟨d0,d1,d2⟩:=cell3 kb5;have hlt5:w.heap.size+1 < w5.heap.size:=kb5.lt;clear HCp hb5 hL5 hb6 ho6 kO hL6 hw6 ho c0 c1 c2 hg1 hg2 hle kb5;go_wp2_with fail;rw[<- Hw6.out];clear d0 d1 d2
     go_loopw [23] (fun i wr=>∃ k:Nat,k <= b.seen.length /\ i=.int .i64 (k:Int) /\ Blk wr w5.heap.size [.slice (some ⟨g,0,none⟩) a.seen.length e1,.slice b2 a.items.length e2,.slice b3 a.gone.length e3] 37 /\ cD wr w4.heap.size (.slice (some ⟨g,0,none⟩) a.seen.length e1) (.slice b2 a.items.length e2) (.slice b3 a.gone.length e3) ⟨dC a.seen b.seen k,a.items,a.gone⟩ /\ Below w2.heap.size w2 wr) (fun i _=>b.seen.length - (intOf i).toNat)
     case atStart=>exact⟨0,by omega,rfl,H6.out⟩
     case round=>
      obtain⟨k,hk,rfl,kO,ho,hL⟩:=hrel
      by_cases hkn:k < b.seen.length
      ·have hkI:(k:Int) < (b.seen.length:Int):=by omega
       have hka:k < a.seen.length:=by have:=Hle.out;omega
       have hkaI:(k:Int) < (a.seen.length:Int):=by omega
       obtain⟨bb,ob,rfl,-,-,hc⟩:=(HR.out wr hL).2.2.2.2.2.seen.cells (by omega)
       obtain⟨x,hx⟩:∃ x,a.seen[k]=x:=⟨_,rfl⟩
       obtain⟨y,hy⟩:∃ y,b.seen[k]=y:=⟨_,rfl⟩
       have e0:=hc k (.int .i64 y) (by simp[hkn,hy]);have hod:=ho.below (Below.refl wr.heap.size wr).drew;have hsd:=hod.seen;have hlen:(dC a.seen b.seen k).length=a.seen.length:=kA _ _ k Hle.out (by omega);dsimp only at hsd;rw[hlen] at hsd
       have eg:wr.drew.cell? ⟨g,k,none⟩=some (.int .i64 x):=by
        rw[hsd.cellAt k (by simp;omega)];simp[pj a.seen b.seen k Hle.out hka,hx]
       have fg:=hsd.frozenAt k;obtain⟨hst,hgr⟩:=hsd.stored k (.int .i64 (max x y));have po:∀ w',aI wr.drew w' -> w'.cell? ⟨w5.heap.size,0,none⟩=some (.slice (some ⟨g,0,none⟩) a.seen.length e1):=fun w' hh=>laterC (cell3 kO).1 hh
       have pg:∀ w',aI wr.drew w' -> w'.cell? ⟨g,k,none⟩=some (.int .i64 x):=fun w' hh=>laterC (w:=wr) eg hh
       obtain⟨w8,hw8⟩:∃ w8,w8=wr.drew.setCell ⟨g,k,none⟩ (.int .i64 (max x y)):=⟨_,rfl⟩
       rw[<- hw8] at hst hgr
       have Hst:=ae (show Blk w8 w5.heap.size [.slice (some ⟨g,0,none⟩) a.seen.length e1,.slice b2 a.items.length e2,.slice b3 a.gone.length e3] 37 /\ cD w8 w4.heap.size (.slice (some ⟨g,0,none⟩) a.seen.length e1) (.slice b2 a.items.length e2) (.slice b3 a.gone.length e3) ⟨dC a.seen b.seen (k+1),a.items,a.gone⟩ /\ Below w2.heap.size w2 w8 from by
        refine⟨by rw[hw8];exact(kO.drew).set_other _ (by show w5.heap.size≠g;have:=Hg.out.2;omega),⟨?_,cN hod.items hsd (by decide) hgr,cN hod.gone hsd (by decide) hgr⟩,by rw[hw8];exact hL.drew.setCell (by have:=Hg.out.1;have:=H4s.out;show w2.heap.size <= g;omega) _⟩;have h1:=nS a.seen b.seen k Hle.out hka;show w8.ownsRow w4.heap.size 3 1 _ (dC a.seen b.seen (k+1)).length ((dC a.seen b.seen (k+1)).map eI);rw[kA _ _ (k+1) Hle.out (by omega),h1,List.map_set,hx,hy]
        exact hst)
       have Hw8:=ae hw8;clear hc hx hy hod hsd hlen hst hgr hw8 kO ho;go_wp2_with fail;refine bh aI 11 [(0,true),(1,true),(2,true),(3,true),(4,true),(5,true),(6,true),(7,true),(8,true),(9,true),(10,true),(11,false)] (by kernel_rfl) (by kernel_rfl) (by kernel_rfl) aH aG ?_
       repeat (refine aX (v:=?_) rfl (aD rfl) (fun w' hC=>?_) (fun K hK=>?_);rotate_left;(focus (go_simp;first | done | exact rfl));go_simp;refine hK _ ?_;clear hK K)
       refine bK rfl rfl rfl (fun KK hK=>?_);go_simp;rw[show (wr.setCell ⟨g,k,none⟩ (.int .i64 (max x y))).drew=w8 from Hw8.out.symm];refine hK _ _ ?_;clear hK KK po pg eg fg;go_simp;refine bR ?_;go_wp2_with fail
       go_roundw
       case rel=>exact⟨k+1,by omega,by go_num,Hst.out⟩
       case measure=>simp[intOf];omega
      ·have hkI:¬ (k:Int) < (b.seen.length:Int):=by omega
       have hke:k=a.seen.length:=by have:=Hle.out;omega
       have hse:dC a.seen b.seen k=List.zipWith max a.seen b.seen:=by rw[hke];exact pi _ _ Hle.out
       have hzl:(List.zipWith max a.seen b.seen).length=a.seen.length:=by have:=Hle.out;simp;omega
       rw[hse] at ho;obtain⟨hwr,ka,kb,kr,hMa,hMb⟩:=HR.out wr hL
       obtain⟨mg,hmg⟩:∃ mg,mergeL RGo.pl deeperR a.gone b.gone=mg:=⟨_,rfl⟩
       have hM:=mergeGo_deeper wr _ _ (.slice a3a a.gone.length p3a) (.slice a3b b.gone.length p3b) a.gone b.gone hMa.gone hMb.gone (by have:=Hsa.out.2.2;omega) (by have:=Hsb.out.2.2;omega) (fun x _ y _ _ W _=>deeper_any W x y);rw[hmg] at hM;obtain⟨c0,c1,c2⟩:=cell3 ka;obtain⟨d0,d1,d2⟩:=cell3 kb;have HM:=ae hM;have Hmg:=ae hmg;have HLr:=ae hL;have HO:=ae ho;have KO:=ae kO;have Hzl:=ae hzl;clear hM hmg hL ho kO hse hke hwr ka kb kr hMa hMb hzl;go_wp2_with fail;refine HM.out.mono ?_;rintro e w7 ⟨r,rfl,hor,hb7⟩;obtain⟨a9,c9,rfl⟩:=own_shape hor;have kO7:=KO.out.keep (hb7.block _ KO.out.lt);have hL7:Below w2.heap.size w2 w7:=HLr.out.trans (hb7.mono HLr.out.size);have ho7:=HO.out.below hb7
       obtain⟨w8,hw8⟩:∃ w8,w8=w7.setCell ⟨w5.heap.size,2,none⟩ (.slice a9 mg.length c9):=⟨_,rfl⟩
       have h5s:=HL5.out.size;have kO8:Blk w8 w5.heap.size [.slice (some ⟨g,0,none⟩) a.seen.length e1,.slice b2 a.items.length e2,.slice a9 mg.length c9] 37:=by rw[hw8];exact kO7.set 2 _
       have hL8:Below w2.heap.size w2 w8:=by rw[hw8];exact hL7.setCell (by show w2.heap.size <= w5.heap.size;omega) _
       have hs8:=aS (i:=2) ho7.seen kO7 (by decide) (.slice a9 mg.length c9);have hi8:=aS (i:=2) ho7.items kO7 (by decide) (.slice a9 mg.length c9);have hg8:=aS (i:=2) hor kO7 (by decide) (.slice a9 mg.length c9);dsimp only at hs8 hi8;rw[<- hw8] at hs8 hi8 hg8;obtain⟨hwr,ka,kb,kr,hMa,hMb⟩:=HR.out w8 hL8
       obtain⟨mi,hmi⟩:∃ mi,mergeL RIt.pl laterR a.items b.items=mi:=⟨_,rfl⟩
       have hI:=mergeIt_later w8 _ _ (.slice a2a a.items.length p2a) (.slice a2b b.items.length p2b) a.items b.items hMa.items hMb.items (by have:=Hsa.out.2.1;omega) (by have:=Hsb.out.2.1;omega) (fun x _ y _ _ W _=>qD W x y);rw[hmi] at hI;clear c0 c1 c2 d0 d1 d2;obtain⟨c0,c1,c2⟩:=cell3 (HR.out w7 hL7).2.1;obtain⟨d0,d1,d2⟩:=cell3 (HR.out w7 hL7).2.2.1;obtain⟨o0,o1,o2⟩:=cell3 kO7;have fo2:=kO7.free 2;have HI:=ae hI;have Hmi:=ae hmi;have KO8:=ae kO8;have HL8:=ae hL8;have Hs8:=ae hs8;have Hi8:=ae hi8;have Hg8:=ae hg8;have Hw8:=ae hw8;have HWr:=ae HLr.out.size;have Hb7s:=ae hb7.size;clear hI hmi kO8 hL8 hs8 hi8 hg8 hw8 kO7 hL7 ho7 hor hb7 HM hwr ka kb kr hMa hMb h5s;go_wp2_with fail;rw[<- Hw8.out];refine HI.out.mono ?_;rintro e w9 ⟨r2,rfl,hoi,hb9⟩;obtain⟨ai,ci,rfl⟩:=own_shape hoi;have kO9:=KO8.out.keep (hb9.block _ KO8.out.lt);have hfm:=bnd_formed (merge_formed a b Hfa.out Hfb.out)
       have hmM:mergeM a b=⟨List.zipWith max a.seen b.seen,mi.filter fun x=>decide ((⟨List.zipWith max a.seen b.seen,[],mg⟩:RMap).buried x.pl < x.seq),mg⟩:=by
        unfold mergeM;rw[Hmg.out,Hmi.out]
       have hgA:Asc RGo.pl mg:=by rw[<- Hmg.out];exact asc_merge deeperR_pl Hfa.out.gone Hfb.out.gone
       have hmgl:mg.length <= 8192:=by
        have:=merge_len (pl:=RGo.pl) deeperR _ a.gone b.gone (aq _);rw[Hmg.out] at this;have:=Hsa.out.2.2;have:=Hsb.out.2.2;omega
       have hmil:mi.length <= 8192:=by
        have:=merge_len (pl:=RIt.pl) laterR _ a.items b.items (aq _);rw[Hmi.out] at this;have:=Hsa.out.2.1;have:=Hsb.out.2.1;omega
       have hmo:bJ (fun q=>q < w8.heap.size) w8 (.slice (some ⟨g,0,none⟩) a.seen.length e1) (.slice b2 a.items.length e2) (.slice a9 mg.length c9) ⟨List.zipWith max a.seen b.seen,a.items,mg⟩:=by
        refine⟨?_,(Rows.of_owns Hi8.out).mono fun q _ hlt=>hlt,(Rows.of_owns Hg8.out).mono fun q _ hlt=>hlt,by have:=hfm.seenB;rw[hmM] at this;exact this,(bnd_formed Hfa.out).itemsB,by have:=hfm.goneB;rw[hmM] at this;exact this⟩;have:=(Rows.of_owns Hs8.out).mono (G:=fun q=>q < w8.heap.size) fun q _ hlt=>hlt
        dsimp only;rw[Hzl.out] at this ⊢;exact this
       have hD:=lj w9 w8.heap.size w8.heap.size w5.heap.size (aq _) _ _ _ _ ⟨List.zipWith max a.seen b.seen,a.items,mg⟩ (.slice ai mi.length ci) mi hoi (by omega) hb9.size (by dsimp only;omega) hgA (fun q hq=>hq) KO8.out.lt ⟨kO9,hmo.keep (w':=w9) fun q hq _=>hb9.block q hq⟩
       obtain⟨kf,hkf⟩:∃ kf,mi.filter (fun x=>!decide (x.seq <= (⟨List.zipWith max a.seen b.seen,a.items,mg⟩:RMap).buried x.pl))=kf:=⟨_,rfl⟩
       rw[hkf] at hD
       have hmM2:mergeM a b=⟨List.zipWith max a.seen b.seen,kf,mg⟩:=by
        rw[hmM,<- hkf]
        congr 1
        refine List.filter_congr fun x _=>?_
        show decide ((⟨List.zipWith max a.seen b.seen,a.items,mg⟩:RMap).buried x.pl < x.seq)=_;rw[Bool.eq_iff_iff];simp
       have HD:=ae hD;have HmM:=ae hmM2;have Hfm:=ae hfm;have Hb9:=ae hb9;have KO9:=ae kO9;clear hD hmM2 hfm hb9 kO9 hmM hgA hmgl hmil hmo hkf hoi HI c0 c1 c2 d0 d1 d2 o0 o1 o2 fo2;go_wp2_with fail;refine HD.out.mono ?_;rintro e w10 ⟨v',rfl,hok,-,hb10⟩;obtain⟨ak,ck,rfl⟩:=own_shape hok;have hb810:Below w8.heap.size w8 w10:=Hb9.out.trans hb10;have kO10:=KO8.out.keep (hb810.block _ KO8.out.lt);have hL10:Below w2.heap.size w2 w10:=HL8.out.trans (hb810.mono HL8.out.size)
       obtain⟨w11,hw11⟩:∃ w11,w11=w10.setCell ⟨w5.heap.size,1,none⟩ (.slice ak kf.length ck):=⟨_,rfl⟩
       have h5s:=HL5.out.size;have hz2:=Hz2.out;have h4s:=H4s.out;have h8s:=HL8.out.size;have kO11:Blk w11 w5.heap.size [.slice (some ⟨g,0,none⟩) a.seen.length e1,.slice ak kf.length ck,.slice a9 mg.length c9] 37:=by rw[hw11];exact kO10.set 1 _
       have hL11:Below w2.heap.size w2 w11:=by rw[hw11];exact hL10.setCell (by show w2.heap.size <= w5.heap.size;omega) _
       have ho11:cD w11 w.heap.size (.slice (some ⟨g,0,none⟩) a.seen.length e1) (.slice ak kf.length ck) (.slice a9 mg.length c9) (mergeM a b):=by
        rw[HmM.out,hw11];refine⟨?_,own_base (aS hok kO10 (by decide) _) (by omega),own_base (aS (bc Hg8.out hb810) kO10 (by decide) _) (by have:=HWr.out;omega)⟩;have h1:=own_base (aS (i:=1) (bc Hs8.out hb810) kO10 (by decide) (.slice ak kf.length ck)) (show w.heap.size <= w4.heap.size by omega);dsimp only at h1 ⊢;rw[Hzl.out] at h1 ⊢;exact h1
       have hfo:=merge_formed a b Hfa.out Hfb.out;have hLm:=limited_any w11 (HTb.out w11 (HR.out w11 hL11).1).1 (HTb.out w11 (HR.out w11 hL11).1).2 _ (.agg #[.slice (some ⟨g,0,none⟩) a.seen.length e1,.slice ak kf.length ck,.slice a9 mg.length c9]) (mergeM a b) ⟨_,_,_,rfl,ho11.map Hfm.out⟩ (fun x hx=>by have:=keyOk_len (known_key (hfo.iknown x hx));have h:x.pl.1=x.key:=rfl;rw[h] at this;omega) (fun x hx=>by have:=keyOk_len (known_key (hfo.gknown x hx));have h:x.pl.1=x.key:=rfl;rw[h] at this;omega)
       obtain⟨ok,hokv⟩:∃ ok,validR (mergeM a b)=ok:=⟨_,rfl⟩
       rw[hokv] at hLm
       have hu:mergeR a b=if ok=true then (mergeM a b,0) else (.empty,7):=by
        unfold mergeR fullR;rw[Hva.out,Hvb.out,hokv];cases ok <;> rfl
       obtain⟨o0,o1,o2⟩:=cell3 kO10;have fo1:=kO10.free 1;obtain⟨t0,t1,t2⟩:=cell3 kO11;have HLm:=ae hLm;have Ho11:=ae ho11;have HL11:=ae hL11;have Hu:=ae hu;have Hw11:=ae hw11;clear hLm ho11 hL11 hu hw11 kO11 kO10 hb810 hL10 h5s hz2 h4s h8s hfo hokv hok hb10 HD;go_wp2_with fail;rw[<- Hw11.out];refine HLm.out.mono ?_;rintro e w12 ⟨rfl,hb12⟩;have hL12:Below w2.heap.size w2 w12:=HL11.out.trans (hb12.mono HL11.out.size);have kr:=(HR.out w12 hL12).2.2.2.1;have hbel:=(HR.out w12 hL12).1;have Ho12:=ae (Ho11.out.below hb12);clear HLm hb12 hL12 o0 o1 o2 fo1 t0 t1 t2;cases ok with
       | false=>
         have Hu0:=ae (show mergeR a b=(.empty,7) from Hu.out.trans (if_neg Bool.false_ne_true));obtain⟨wf,hwf,hblk,hbf⟩:=fin3 kr hbel (by omega) (.slice none 0 0) (.slice none 0 0) (.slice none 0 0);obtain⟨y0,y1,y2⟩:=cell3 kr;have z0:=kr.free 0;have z1:=kr.free 1;have z2:=kr.free 2;have Q:=ae (cell3 hblk);have Hbf:=ae hbf;have Hwf:=ae hwf;clear hwf hblk hbf;go_wp2_with fail;rw[<- Hwf.out];obtain⟨q0,q1,q2⟩:=Q.out;exact bodyPost_ret (v:=.tuple #[nilV,.int .i64 7]) (by simp[results,Tryz.results59,go_sem,q0,q1,q2,nilV]) rfl ⟨⟨_,by rw[Hu0.out],by rw[Hu0.out];exact own_nil _ _,by rw[Hu0.out];exact bnd_empty⟩,Hbf.out⟩
       | true=>
         have Hu0:=ae (show mergeR a b=(mergeM a b,0) from Hu.out.trans (if_pos rfl));obtain⟨wf,hwf,hblk,hbf⟩:=fin3 kr hbel (by omega) (.slice (some ⟨g,0,none⟩) a.seen.length e1) (.slice ak kf.length ck) (.slice a9 mg.length c9);obtain⟨y0,y1,y2⟩:=cell3 kr;have z0:=kr.free 0;have z1:=kr.free 1;have z2:=kr.free 2;have Q:=ae (cell3 hblk)
         have Hof:=ae (show cD wf w.heap.size (.slice (some ⟨g,0,none⟩) a.seen.length e1) (.slice ak kf.length ck) (.slice a9 mg.length c9) (mergeM a b) by
          rw[hwf]
          exact((Ho12.out.setCell kr _).setCell (kr.set 0 _) _).setCell ((kr.set 0 _).set 1 _) _)
         have Hbf:=ae hbf;have Hwf:=ae hwf;clear hwf hblk hbf;go_wp2_with fail;rw[<- Hwf.out];obtain⟨q0,q1,q2⟩:=Q.out;exact bodyPost_ret (v:=.tuple #[.agg #[.slice (some ⟨g,0,none⟩) a.seen.length e1,.slice ak kf.length ck,.slice a9 mg.length c9],.int .i64 0]) (by simp[results,Tryz.results59,go_sem,q0,q1,q2]) rfl ⟨⟨_,by rw[Hu0.out],by rw[Hu0.out];exact⟨_,_,_,rfl,Hof.out⟩,by rw[Hu0.out];exact Hfm.out⟩,Hbf.out⟩
theorem pn (w:World) (hT:cL w) (h3:4 <= w.heap.size) (F G:aV) (va vb:Value) (a b:RMap) (ha:cY F w va a) (hb:cY G w vb b) (hai:∀ x ∈ a.items,x.key.length <= 1000000) (hag:∀ x ∈ a.gone,x.key.length <= 1000000) (hbi:∀ x ∈ b.items,x.key.length <= 1000000) (hbg:∀ x ∈ b.gone,x.key.length <= 1000000):
 Calls aC 59 #[va,vb] w (UPost w (mergeR a b)):=iq w hT h3 F G va vb a b ha hb
end
end Go.Proofs.YtobjdpngnfbicaaGreatDoor
