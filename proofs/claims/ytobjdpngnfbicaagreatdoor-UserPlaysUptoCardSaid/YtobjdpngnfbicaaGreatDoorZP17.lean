/-
  VMerge UTwo Read JL4 JA JV RWorks UExS UEx ULaid UX
-/
import Derived.Test.YtobjdpngnfbicaaGreatDoorZP16
import Derived.OpenShut
import Derived.Test.YtobjdpngnfbicaaGreatDoorRows
import Derived.Lib.LaidIn
import Derived.Lib.LaidU8T
open Go.IntWalk renaming i64_in->af,i64_quo->ah,u32_in->aj,rem_in->am,u8_in->ap
open Nat renaming le_refl->aq,le_trans->au,lt_of_lt_of_le->aw
open List renaming getElem_mem->aC,length_cons->aD
open Go.Proofs.Tryz renaming prog->aE
set_option maxHeartbeats 8000000
set_option maxRecDepth 100000
set_option linter.all false
namespace Go.Proofs.YtobjdpngnfbicaaGreatDoor
open Go.RowKit
open Go.Proofs.Tryz
variable(w:World)(F:aQ)(v:Value)(m:aT){W w':World}{G:aQ}{u:Value}{i j o:Nat}{r:aT}{N:MD}{t:TypeId}
section
open Go.Lib
attribute [local go_sem ↓] aU
attribute [local go_sem] opC upC told bE bm bF bp bq bG bH
def Fp:List gG:=[.steady 0,.steady 1,.steady 2,.steady 3,.steady 4,.move 5,.steady 6,.steady 7,.steady 8,.float 9,.fixed 10,.steady 11]
theorem Ck(w:World)(hZ:∀q,F q -> q<w.heap.size)(l:RJK)(u:Nat)(M:MD)(U:MU)(h:f8 F w l u M U)(hd:U.dev<8)(hv:aV U.m=true)(cf:aQ)(gv:Value)(g:aT)(y:di cf w gv g)(bq:∀x∈g.items,x.key.length <= 1000000000)(bp:∀x∈g.gone,x.key.length <= 1000000000)(hw:M.writes+200000<4611686018427387904):
 Calls aE 68 #[.pointer (some ⟨u,0,none⟩),gv] w (gL F w l u (fU M U g)):=by
 replace y:=y.mono (G:=λq=>q<w.heap.size) λq _ V=>V
 obtain⟨s1,s2,s3,rfl,y⟩:=y;obtain⟨aa,ag,rfl,-⟩:=y.seen.shape;obtain⟨ab,ai,rfl,-⟩:=y.items.shape;obtain⟨ad,ak,rfl,-⟩:=y.gone.shape;obtain⟨a1,p1,a2,p2,a3,p3,Q,hm⟩:=h.box;obtain⟨k,aM⟩:=aP (w.alloc (.cells #[.slice aa g.seen.length ag,.slice ab g.items.length ai,.slice ad g.gone.length ak] 75));have ar:Kpt w k:=by rw[aM];exact aI _ _
 have P:Blk k w.heap.size [.slice aa g.seen.length ag,.slice ab g.items.length ai,.slice ad g.gone.length ak] 75:=by rw[aM];exact Blk.new _ _ _
 have hk:=cO hv;have be:=ae (show(∀x∈U.m.items,x.key.length <= 1000000000) /\ ∀x∈U.m.gone,x.key.length <= 1000000000 from⟨λx hx=>au (hk.1 x hx) (by decide),λx hx=>au (hk.2 x hx) (by decide)⟩);obtain⟨ra,rc,R,aZ,-⟩:=h.jat.recs;have j3:=Blk.cell aZ 3;simp at j3;have cw:=Blk.lt aZ;have cm:=Q.lt;obtain⟨bd,N⟩:=aH U.J.dead;rw[N] at j3;obtain⟨m,ay⟩:=aH U.m;rw[ay] at Q hm be
 have E:=ae (show ∀W,Kpt k W -> Kpt w W /\ (W.cell? ⟨u,1,none⟩=some (.slice a1 m.seen.length p1) /\ W.cell? ⟨u,2,none⟩=some (.slice a2 m.items.length p2) /\ W.cell? ⟨u,3,none⟩=some (.slice a3 m.gone.length p3)) /\ ce (λq=>¬l.all q /\ q≠u /\ ¬F q) W (.slice a1 m.seen.length p1) (.slice a2 m.items.length p2) (.slice a3 m.gone.length p3) m /\
  (W.cell? ⟨w.heap.size,0,none⟩=some (.slice aa g.seen.length ag) /\ W.cell? ⟨w.heap.size,1,none⟩=some (.slice ab g.items.length ai) /\ W.cell? ⟨w.heap.size,2,none⟩=some (.slice ad g.gone.length ak)) /\ ce (λq=>q<w.heap.size) W (.slice aa g.seen.length ag) (.slice ab g.items.length ai) (.slice ad g.gone.length ak) g from λW hW=>by
  have hB:Kpt w W:=ar.trans (hW.mono ar.size);obtain⟨-,c1,c2,c3,-⟩:=dr (Q.keep (hB.block _ Q.lt))
  exact⟨hB,⟨c1,c2,c3⟩,hm.keep (w':=W) λq _ V=>hB.block q V,aS (P.keep (hW.block _ P.lt)),y.keep (w':=W) λq f _=>hB.block q f⟩)
 obtain⟨-,-,-,-,c4⟩:=dr Q;have⟨HU,bE,Hw,Hd,Hv,HZ,aX,bf⟩:=ae8 h N hw hd hv hZ (And.intro bq bp) ay;have⟨bI,n⟩:=ae2 aM ar;cases bd with
 |true=>
  have I:=ae (show fU M U g=(M,U,8) by unfold fU;rw[if_pos bE.x]);clear h hd hv hw y bq bp hZ N Q hm aZ hk ay aM ar P
  go_enter func68,ntmps68
  go_wp2;rw[<- bI.x]
  go_ret
  rw[I.x];exact⟨rfl,l,jh.same n.x,HU.x.keep n.x⟩
 |false=>
  obtain⟨RR,bm⟩:=aH (dh m g)
  have bb:=ae (show fU M U g=if RR.2=0 then(if cQ U.m=cQ RR.1 then(M,U,0) else cE M U (ix g) RR.1) else(M,U,RR.2) by
   unfold fU
   rw[if_neg (by rw[bE.x];decide),ay,bm])
  have aN:=ae bm;obtain⟨-,⟨p,s,x3⟩,-,⟨y1,y2,y3⟩,-⟩:=E.x k (Below.refl _ _);have d:∀q x,k.cell? q=some x -> ∀c,bX k.heap.size 75 k.drew c -> c.cell? q=some x:=λq x hc c hh=>mU hc rfl hh
  have a6:=d _ _ p;have a7:=d _ _ s;have a8:=d _ _ x3;have cn:=d _ _ y1;have co:=d _ _ y2;have cp:=d _ _ y3;clear h hd hv hw y bq bp hZ N Q hm aZ hk ay aM ar P bm d p s x3 y1 y2 y3;obtain⟨x,er⟩:=RR
  go_enter func68,ntmps68
  go_wp2_with fail;rw[<- bI.x];refine gr (bX k.heap.size 75) (ou k.heap.size 75 3) [9] Fp 60 (by kernel_rfl) (by kernel_rfl) (f7 _ _) (cK _ _) (jx #[.slice none 0 0,.slice none 0 0,.slice none 0 0] rfl (aq _) (λj hj=>?_) (λi j hi hj cx=>?_)) ?_
  ·obtain rfl:j=9:=by simpa using hj
   exact⟨_,rfl,rfl,λa W=>by go_simp⟩
  ·simp at hi hj;omega
  unfold Fp;apply dA;rfl;intro c K;go_simp;(repeat (simp(disch:=omega) only[af,aj,ap,ah,am,if_pos];go_simp));exact aF;refine mT rfl rfl (λWa bU O o=>?_);go_simp;have C:Kpt k Wa:=bU.belD rfl;obtain⟨-,-,bS,-,bR⟩:=E.x Wa C;have hU:=sS Wa _ _ (.agg #[.slice a1 m.seen.length p1,.slice a2 m.items.length p2,.slice a3 m.gone.length p3]) (.agg #[.slice aa g.seen.length ag,.slice ab g.items.length ai,.slice ad g.gone.length ak]) m g ⟨_,_,_,rfl,bS⟩ ⟨_,_,_,rfl,bR⟩ be.x.1 be.x.2 aX.x.1 aX.x.2;rw[aN.x] at hU;have bg:=ae C.size;clear bS bR;refine hU.mono ?_;rintro e cq ⟨r1,rfl,⟨t1,t2,t3,rfl,ho,N⟩,S⟩;refine⟨_,rfl,bX.of_later S,o _ _ ?_⟩;clear o O hU a6 a7 a8 cn co cp;go_simp;dsimp only at ho N;obtain⟨n1,m1,rfl⟩:=aJ ho.seen;obtain⟨n2,m2,rfl⟩:=aJ ho.items;obtain⟨n3,m3,rfl⟩:=aJ ho.gone;have bV:Kpt k cq:=C.trans (S.mono C.size);have⟨ba,Ho,bG⟩:=ae3 bV ho N;clear bV ho N S C bU;apply dA;rfl;intro c K;go_simp;(repeat (simp(disch:=omega) only[af,aj,ap,ah,am,if_pos];go_simp));exact aF;refine iO rfl (λvO Wd ao cl ck O o=>?_);obtain⟨Om,LO,rfl,al,A,P⟩:=cl;refine o _ _ ?_;clear o O ck;go_simp
  obtain⟨x0,p,s,rfl⟩:∃x0 p s,LO = [x0,p,s]:=by
   match LO,P with
   |[x0,p,s],_=>exact⟨x0,p,s,rfl⟩
  have bZ:Kpt k Wd:=ba.x.trans (ao.below ba.x.size);obtain⟨w6,bz,b0,T⟩:=dX A bZ al (.slice n1 x.seen.length m1) (.slice n2 x.items.length m2) (.slice n3 x.gone.length m3)
  have ax:bX k.heap.size 75 Wd w6:=by
   rw[bz];exact cK _ _ _ _ _ (cK _ _ _ _ _ (bX.set A al 0 _) (bX.set (A.set 0 _) al 1 _)) (bX.set ((A.set 0 _).set 1 _) al 2 _)
  have b7:dC w6 k.heap.size (.slice n1 x.seen.length m1) (.slice n2 x.items.length m2) (.slice n3 x.gone.length m3) x:=
   ⟨bJ (ax.own (ao.own Ho.x.seen (by decide)) (by decide)) bg.x,bJ (ax.own (ao.own Ho.x.items (by decide)) (by decide)) bg.x,bJ (ax.own (ao.own Ho.x.gone (by decide)) (by decide)) bg.x⟩
  have⟨cr,bC,X⟩:=ae3 al b7 b0;obtain⟨y0,y1,y2⟩:=aS A;have z0:=A.free 0;have z1:=A.free 1;have z2:=A.free 2;have⟨v,bH,bM⟩:=ae3 T ax bz;clear T ax bz b0 bZ ao A P Ho ba b7;refine iP rfl rfl (λO o=>?_);go_simp;rw[<- bM.x];refine⟨bH.x,o _ _ ?_⟩;clear o O y0 y1 y2 z0 z1 z2 bH bM al;go_simp;apply dA;rfl;intro c K;go_simp;(repeat (simp(disch:=omega) only[af,aj,ap,ah,am,if_pos];go_simp));exact aF;refine lh ?_;have aR:=ae (HU.x.keep (n.x.trans (v.x.mono n.x.size)));obtain⟨o0,o1,o2⟩:=aS X.x;obtain⟨-,⟨p,s,x3⟩,bl,-,-⟩:=E.x w6 v.x;have d:∀q x,w6.cell? q=some x -> ∀c,aK w6.drew c -> c.cell? q=some x:=λq x hc c hh=>bh hc hh
  have b9:=d _ _ o0;have ca:=d _ _ o1;have cb:=d _ _ o2;have a6:=d _ _ p;have a7:=d _ _ s;have a8:=d _ _ x3
  by_cases he:er=0
  ·subst he;have HS:=ae (t8 w6.drew _ _ (.agg #[.slice n1 x.seen.length m1,.slice n2 x.items.length m2,.slice n3 x.gone.length m3]) (.agg #[.slice a1 m.seen.length p1,.slice a2 m.items.length p2,.slice a3 m.gone.length p3]) x m ⟨_,_,_,rfl,(bC.x.map bG.x).keep (w':=w6.drew) λq _ _=>rfl⟩ ⟨_,_,_,rfl,bl.keep (w':=w6.drew) λq _ _=>rfl⟩);clear o0 o1 o2 p s x3 bl d;go_wp2_with fail;refine bP aK (up 8 [508,9]) (by kernel_rfl) ?_;apply aG;rfl;intro c K;go_simp;(repeat (simp(disch:=omega) only[af,aj,ap,ah,am,if_pos];go_simp));exact aF
   repeat (apply bK;rfl;rfl;go_simp;go_simp;rfl;apply aG;rfl;intro c K;go_simp;(repeat (simp(disch:=omega) only[af,aj,ap,ah,am,if_pos];go_simp));exact aF)
   clear b9 ca cb a6 a7 a8;refine aY rfl rfl (λO o=>?_);go_simp;refine HS.x.mono ?_;rintro e w7 ⟨r,rfl,hr,S⟩;refine⟨_,rfl,S,o _ _ ?_⟩;clear o O HS;go_simp;have⟨Y,Hr⟩:=ae2 (show Kpt w6 w7 from(Below.refl w6.heap.size w6).drew.trans S) hr;clear S hr;apply aG;rfl;intro c K;go_simp;(repeat (simp(disch:=omega) only[af,aj,ap,ah,am,if_pos];go_simp));exact aF
   repeat (apply bK;rfl;rfl;go_simp;go_simp;rfl;apply aG;rfl;intro c K;go_simp;(repeat (simp(disch:=omega) only[af,aj,ap,ah,am,if_pos];go_simp));exact aF)
   refine aW ?_;have cj:=ae (show aV x=true by have h:=(py (a:=m) (b:=g) (by rw[aN.x])).2.2;rw[aN.x] at h;exact h);cases r with
   |true=>
    have I:=ae (show fU M U g=(M,U,0) from bb.x.trans ((if_pos (by first|rfl|trivial)).trans (if_pos (by rw[bf.x,Hr.x.1 rfl]))));go_wp2
    go_ret
    rw[I.x];exact⟨rfl,l,jh.same (n.x.trans ((v.x.trans (Y.x.mono v.x.size)).mono n.x.size)),aR.x.keep Y.x⟩
   |false=>
    have I:=ae (show fU M U g=cE M U (ix g) x by
     refine bb.x.trans ((if_pos (by first|rfl|trivial)).trans (if_neg λe=>?_));have:=Hr.x.2 (Bx cj.x (by rw[<- bf.x];exact Hv.x) (by rw[<- bf.x];exact e.symm))
     cases this)
    have bw:aV g=true:=(py (a:=m) (b:=g) (by rw[aN.x])).2.1;have bY:Kpt k w7:=v.x.trans (Y.x.mono v.x.size);obtain⟨-,-,-,⟨y1,y2,y3⟩,bQ⟩:=E.x w7 bY;have hE:=qy w7 _ (.agg #[.slice aa g.seen.length ag,.slice ab g.items.length ai,.slice ad g.gone.length ak]) g ⟨_,_,_,rfl,bQ⟩ aX.x.1 aX.x.2;rw[show encR g=(cQ g,0) by unfold encR;rw[bw];rfl] at hE;have⟨HE,cg⟩:=ae2 hE (cX bw).2.2.2;clear hE bQ bw bY;go_wp2_with fail;refine HE.x.mono ?_;rintro e z ⟨⟨v8,rfl,bk⟩,T⟩;obtain⟨ac,cc,rfl,-⟩:=id bk;obtain⟨wa,a4⟩:=aP (z.alloc (.cells #[.int .u8 3] 5));have aL:Out wa wa z.heap.size (.slice (some ⟨z.heap.size,0,none⟩) 1 1) [3]:=by rw[a4];exact sH z 3
    have C:Kpt z wa:=by rw[a4];exact aI _ _
    have bO:=bk.insideU.keep (w':=wa) λq f _=>C.block q f
    obtain⟨cd,D,bv,az,b4⟩:=cP wa z.heap.size _ _ aL.1 _ _ _ bO (by have:=cg.x;simp;omega) aL.2.2;have bW:Below z.heap.size wa D:=Below.grownOwn aL.1 b4 aL.2.2 (aq _);have az:D.ownsRow z.heap.size 5 1 cd (ix g).length ((ix g).map B):=az;have⟨H,ci⟩:=ae2 (show Kpt w6 D from Y.x.trans ((T.trans ((C.trans bW).mono T.size)).mono Y.x.size)) (show w6.heap.size <= z.heap.size from au Y.x.size T.size);have bD:=ae (qN F D l u M U (aR.x.keep H.x) Hd.x Hv.x _ cd (ix g) (aO.of_owns az (λq=>z.heap.size <= q /\ q<D.heap.size) λq h1 h2=>⟨h1,h2⟩) (λq f=>⟨f.2,λha=>by have:=aR.x.jat.lt q ha;have:=f.1;have:=ci.x;omega⟩) Hw.x);obtain⟨nc,b5⟩:=aH ((cQ g).length);rw[b5] at bv⊢;obtain⟨cs,ct,rfl⟩:=aJ az;obtain⟨nm,b6⟩:=aH ((ix g).length);rw[b6] at bD bv;rw[a4] at bv;have⟨a9,bB⟩:=ae2 n.x.size (show Kpt w D from n.x.trans ((v.x.trans (H.x.mono v.x.size)).mono n.x.size));clear HE bk T a4 aL C bO az b4 bW b5 b6 y1 y2 y3;go_wp2_with fail;clear E;have E:=bD;refine E.x.mono ?_;rintro e w9 ⟨rfl,bA,bo,bT⟩;have⟨aU,an⟩:=ae2 bo bT;obtain⟨⟨M9,U9,bi⟩,a0⟩:=aH (cE M U (ix g) U.m);rw[a0] at an⊢;dsimp only at an⊢;have a5:=lM M U (ix g) x;rw[a0] at a5;dsimp only at a5;have bu:=oD M U (ix g);rw[a0] at bu;have⟨bN,ch⟩:=ae2 a5 bu;have bn:Blk w9 Om [.slice n1 x.seen.length m1,.slice n2 x.items.length m2,.slice n3 x.gone.length m3] 75:=(X.x.keep (H.x.block _ X.x.lt)).keep (bo.2.2.2.2.block _ (aw X.x.lt H.x.size) (ww (X.x.keep (H.x.block _ X.x.lt)) (by decide) (by decide) (by decide) (by decide)));clear bo bT a0 a5 bu E
    by_cases h9:bi=0
    ·subst h9;obtain⟨b1,q1,b2,q2,b3,q3,av,-⟩:=an.x.box;obtain⟨-,z1,z2,z3,-⟩:=dr av;have f1:=av.free 1;have f2:=av.free 2;have f3:=av.free 3;obtain⟨o0,o1,o2⟩:=aS bn;have cm:=HU.x.lt
     have b8:ce (λq=>¬bA.all q /\ q≠u /\ ¬F q) w9 (.slice n1 x.seen.length m1) (.slice n2 x.items.length m2) (.slice n3 x.gone.length m3) x:=by
      have h6:=bC.x.rnj bG.x;have h8:=h6.keep (w':=D) λq f V=>H.x.block q V
      refine(h8.keep (w':=w9) λq f V=>aU.x.2.2.2.2.block q V (Bd (by
       obtain⟨L,t,fz,hh,ht⟩:=f.2.2
       exact⟨L,t,fz,(H.x.block q f.2.1).trans hh,ht⟩))).mono λq f _=>⟨λha=>?_,λe=>?_,λhz=>?_⟩
      ·rcases aU.x.2.2.1 q ha with h1|h1
       ·have:=HU.x.jat.lt q h1;have:=f.1;have:=a9.x;omega
       ·have:=f.2.1;have:=H.x.size;omega
      ·have:=f.1;have:=a9.x;omega
      ·have:=HZ.x q hz;have:=f.1;have:=a9.x;omega
     obtain⟨D,bx⟩:=aP (((w9.setCell ⟨u,1,none⟩ (.slice n1 x.seen.length m1)).setCell ⟨u,2,none⟩ (.slice n2 x.items.length m2)).setCell ⟨u,3,none⟩ (.slice n3 x.gone.length m3));have bj:=an.x.setM b8 bx
     have bc:=ae (show gL F w l u (fU M U g) (.returned (.int .i64 0)) D from by
      rw[I.x,bN.x,if_pos rfl];refine⟨rfl,bA,(jh.same (u:=u) (rk:=l) bB.x).trans (aU.x.trans bj.2),?_⟩;have e:=bj.1;rw[ch.x.1] at e
      exact e)
     have bL:=ae bx;obtain⟨k1,br⟩:=aH x.seen.length;obtain⟨k2,bs⟩:=aH x.items.length;obtain⟨k3,bt⟩:=aH x.gone.length;rw[br,bs,bt] at bL;rw[br] at o0;rw[bs] at o1;rw[bt] at o2;clear bx bj b8 av bn br bs bt;go_wp2;rw[<- bL.x]
     go_ret
     exact bc.x
    ·have cu:(bi == 0)=false:=beq_eq_false_iff_ne.2 h9
     have bc:=ae (show gL F w l u (fU M U g) (.returned (.int .i64 bi)) w9 from by
      rw[I.x,bN.x,if_neg h9]
      exact⟨rfl,bA,(jh.same (u:=u) (rk:=l) bB.x).trans aU.x,an.x⟩)
     clear bn;go_wp2
     go_ret
     exact bc.x
  ·have cv:(er != 0)=true:=bne_iff_ne.2 he;have I:=ae (show fU M U g=(M,U,er) from bb.x.trans (if_neg he));clear o0 o1 o2 p s x3 bl d;go_wp2_with fail;refine bP aK (up 8 [508,9]) (by kernel_rfl) ?_;apply aG;rfl;intro c K;go_simp;(repeat (simp(disch:=omega) only[af,aj,ap,ah,am,if_pos];go_simp));exact aF
   repeat (apply bK;rfl;rfl;go_simp;go_simp;rfl;apply aG;rfl;intro c K;go_simp;(repeat (simp(disch:=omega) only[af,aj,ap,ah,am,if_pos];go_simp));exact aF)
   refine aW ?_;have bF:=ae (show Kpt w6 w6.drew from(Below.refl _ _).drew);clear b9 ca cb a6 a7 a8;go_wp2
   go_ret
   rw[I.x];exact⟨rfl,l,jh.same (n.x.trans ((v.x.trans (bF.x.mono v.x.size)).mono n.x.size)),aR.x.keep bF.x⟩
end
section
open Go.Lib
theorem aM.inter{F G:aQ}(h:aM F W w')(k:aM G W w'):aM (λq=>F q /\ G q) W w':=⟨h.os,h.tape,h.output,h.size,λq b d=>by
 by_cases a:F q
 ·exact k.block q b λc=>d ⟨a,c⟩
 ·exact h.block q b a⟩
theorem UAt.far{f:JK}{U:MU}(h:UAt W f i N U)(a:aM G W w')(e:∀b,(f.all b \/ b=i) -> ¬G b)(j:∀q,NJ W q -> ¬G q):UAt w' f i N U:=by
 obtain⟨k,n,l,o,m,p,g,r⟩:=h.box;exact⟨⟨k,n,l,o,m,p,g.keep (a.block _ g.lt (e _ (.inr rfl))),(r.keep λq c s=>a.block q s (j q c)).mono λq c _=>gK c (a.block q (uL c) (j q c))⟩,h.jat.only a λb d=>e b (.inl d),h.typ.keep λb d=>a.block b (h.jat.lt b d) (e b (.inl d)),h.low⟩
theorem f8.far{Z F:aQ}{c:RJK}{U:MU}(h:f8 Z W c i N U)(a:aM F W w')(hF:∀q,F q -> Z q)(e:∀b,(c.all b \/ b=i) -> ¬F b):f8 Z w' c i N U:=by
 obtain⟨f,k,g,l,j,m,d,n⟩:=h.box;exact⟨⟨f,k,g,l,j,m,d.keep (a.block _ d.lt (e _ (.inr rfl))),n.keep λq s r=>a.block q r λp=>s.2.2 (hF q p)⟩,h.jat.only a λb o=>e b (.inl o),h.ne⟩
theorem f8.reZ{Z Z':aQ}{b:RJK}{U:MU}(h:f8 Z W b i N U)(m:∀q,Z' q -> Z q \/ W.heap.size <= q):f8 Z' W b i N U:=by
 obtain⟨c,f,d,g,e,j,k,l⟩:=h.box;exact⟨⟨c,f,d,g,e,j,k,l.mono λq a o=>⟨a.1,a.2.1,λn=>(m q n).elim a.2.2 λh=>by omega⟩⟩,h.jat,h.ne⟩
theorem Be(h:NJ W i):¬iE W i:=by
 obtain⟨L,t,g,d,c,-⟩:=h;unfold TJ at c;rintro(⟨e,j,f,a,b⟩|⟨e,f,a⟩)
 ·rw[d] at a;injection a with a
  injection a with _ a
  subst a;rcases b with b|b|b<;>simp[b] at c
 ·rw[d] at a;injection a with a
  injection a with _ a
  subst a;simp at c
structure jV(w:World)(X:aQ)(jk:JK)(rk:RJK)(u ur:Nat)(M:MD)(U:MU)(N:MD)(V:MU):Prop where
 uat:UAt w jk u M U
 rat:f8 (λq=>(jk.all q \/ q=u) \/ X q) w rk ur N V
 klo:∀b,(jk.all b \/ b=u) -> ¬X b
 rlo:∀b,(rk.all b \/ b=ur) -> ¬X b /\ ¬(jk.all b \/ b=u)
theorem jV.klt{c:JK}{d:RJK}{M N:MD}{U V:MU}(h:jV W G c d i j M U N V):∀b,(c.all b \/ b=i) -> b<W.heap.size:=λb a=>by
 rcases a with a|rfl
 ·exact h.uat.jat.lt b a
 ·exact h.uat.lt
theorem jV.rlt{d:JK}{c:RJK}{M N:MD}{U V:MU}(h:jV W G d c i j M U N V):∀b,(c.all b \/ b=j) -> b<W.heap.size:=λb a=>by
 rcases a with a|rfl
 ·exact h.rat.jat.lt b a
 ·exact h.rat.lt
theorem jV.keep{w w':World}{X:aQ}{b:JK}{c:RJK}{u d:Nat}{M N:MD}{U V:MU}(h:jV w X b c u d M U N V)(a:Kpt w w'):jV w' X b c u d M U N V:=
 ⟨h.uat.keep a,h.rat.keep a,h.klo,h.rlo⟩
theorem jV.re{X Y:aQ}{f:JK}{g:RJK}{M N:MD}{U V:MU}(h:jV W X f g i j M U N V)(d:∀q,Y q -> X q \/ W.heap.size <= q):jV W Y f g i j M U N V:=
 ⟨h.uat,h.rat.reZ λq k=>k.elim (λc=>.inl (.inl c)) λc=>(d q c).imp .inr id,λb a e=>(d b e).elim (h.klo b a) λc=>by have:=h.klt b a;omega,λb a=>⟨λe=>(d b e).elim (h.rlo b a).1 λc=>by have:=h.rlt b a;omega,(h.rlo b a).2⟩⟩
theorem jV.box{g:JK}{k:RJK}{M N:MD}{U V:MU}(h:jV W G g k j o M U N V)(a:G i)(f:aM (λq=>q=i) W w')(l:¬NJ W i):jV w' G g k j o M U N V:=
 ⟨h.uat.far f (λb c e=>h.klo b c (by rw[e];exact a)) λq d e=>l (e▸d),h.rat.far f (λq d=>.inr (by rw[d];exact a)) λb c e=>(h.rlo b c).1 (by rw[e];exact a),h.klo,h.rlo⟩
theorem jV.prog{f:JK}{n:RJK}{M N:MD}{U V:MU}{r:MD×MU×Int}{e:Ending}(h:jV W G f n i j M U N V)(v:∀q,G q -> q<W.heap.size)(s:dZ W f i r e w'):
 e=.returned (.int .i64 r.2.2) /\ ∃g,g.K.d=f.K.d /\ jV w' G g n i j r.1 r.2.1 N V /\ aM (λq=>f.all q \/ q=i) W w':=by
 obtain⟨rfl,g,-,x,y,z,m⟩:=s;have t:=h.rlt
 have l:∀b,(g.all b \/ b=i) -> (f.all b \/ b=i) \/ W.heap.size <= b:=λb a=>by
  rcases a with a|a
  ·exact(z b a).imp .inl id
  ·exact .inl (.inr a)
 refine⟨rfl,g,x,⟨y,((h.rat.reZ (Z':=λq=>((f.all q \/ q=i) \/ G q) \/ (g.all q \/ q=i) \/ G q) λq c=>?_).far m (λq c=>.inl (.inl c)) λb a=>(h.rlo b a).2).reZ λq c=>.inl (.inr c),λb a=>?_,λb a=>⟨(h.rlo b a).1,λp=>?_⟩⟩,m⟩
 ·rcases c with c|c|c
  ·exact .inl c
  ·exact(l q c).imp .inl id
  ·exact .inl (.inr c)
 ·rcases l b a with k|k
  ·exact h.klo b k
  ·exact λo=>by have:=v b o;omega
 ·rcases l b p with k|k
  ·exact(h.rlo b a).2 k
  ·have:=t b a;omega
theorem jV.ref{l:JK}{c:RJK}{M N:MD}{U V:MU}{r:MD×MU×Int}{e:Ending}(h:jV W G l c i j M U N V)(v:∀q,G q -> q<W.heap.size)(s:gL (λq=>(l.all q \/ q=i) \/ G q) W c j r e w'):
 e=.returned (.int .i64 r.2.2) /\ ∃f,f.K.d=c.K.d /\ jV w' G l f i j M U r.1 r.2.1 /\ aM (λq=>c.all q \/ q=j) W w':=by
 obtain⟨rfl,f,⟨-,x,y,n,z⟩,A⟩:=s;have o:=h.klt;refine⟨rfl,f,x,⟨h.uat.far (n.inter z) (λb a k=>(h.rlo b k.1).2 a) λq t k=>Be t k.2,A,h.klo,λb a=>?_⟩,n⟩
 have p:(c.all b \/ b=j) \/ W.heap.size <= b:=by
  rcases a with a|a
  ·exact(y b a).imp .inl id
  ·exact .inl (.inr a)
 rcases p with m|m
 ·exact h.rlo b m
 ·exact⟨λg=>by have:=v b g;omega,λg=>by have:=o b g;omega⟩
structure lR(w:World)(X:aQ)(K:DK)(R:RK)(M N:MD):Prop where
 dat:bM w K M
 rat:bS w R N
 klo:∀b,K.foot b -> ¬X b
 rlo:∀b,R.all b -> ¬X b /\ ¬K.foot b
theorem jV.disks{c:JK}{d:RJK}{M N:MD}{U V:MU}(h:jV W G c d i j M U N V):lR W G c.K d.K M N:=
 ⟨h.uat.jat.disk,h.rat.jat.ref,λb a=>h.klo b (.inl (.inr (.inl a))),λb a=>⟨(h.rlo b (.inl (.inr (.inl a)))).1,λe=>(h.rlo b (.inl (.inr (.inl a)))).2 (.inl (.inr (.inl e)))⟩⟩
theorem lR.keep{w w':World}{K:DK}{R:RK}{M N:MD}(h:lR w G K R M N)(a:Kpt w w'):lR w' G K R M N:=⟨h.dat.kept a,h.rat.kept a,h.klo,h.rlo⟩
theorem lR.re{X Y:aQ}{K:DK}{R:RK}{M N:MD}(h:lR W X K R M N)(d:∀q,Y q -> X q \/ W.heap.size <= q):lR W Y K R M N:=
 ⟨h.dat,h.rat,λb a c=>(d b c).elim (h.klo b a) λe=>by have:=h.dat.lt b a;omega,λb a=>⟨λc=>(d b c).elim (h.rlo b a).1 λe=>by have:=h.rat.lt b a;omega,(h.rlo b a).2⟩⟩
theorem lR.box{K:DK}{R:RK}{M N:MD}(h:lR W G K R M N)(c:G i)(d:aM (λq=>q=i) W w'):lR w' G K R M N:=
 ⟨h.dat.only d λb a e=>h.klo b a (by rw[e];exact c),h.rat.only d λb a e=>(h.rlo b a).1 (by rw[e];exact c),h.klo,h.rlo⟩
structure qZ(w:World)(X:aQ)(jk:JK)(u:Nat)(R:RK)(M:MD)(U:MU)(N:MD):Prop where
 uat:UAt w jk u M U
 rat:bS w R N
 klo:∀b,(jk.all b \/ b=u) -> ¬X b
 rlo:∀b,R.all b -> ¬X b /\ ¬(jk.all b \/ b=u)
theorem qZ.klt{c:JK}{R:RK}{M N:MD}{U:MU}(h:qZ W G c i R M U N):∀b,(c.all b \/ b=i) -> b<W.heap.size:=λb a=>by
 rcases a with a|rfl
 ·exact h.uat.jat.lt b a
 ·exact h.uat.lt
theorem lR.prog{K:DK}{R:RK}{M N e:MD}{U:MU}{d:JK}(h:lR W G K R M N)(p:∀q,G q -> q<W.heap.size)(n:UAt w' d i e U)(j:∀q,d.all q -> K.foot q \/ W.heap.size <= q)(o:W.heap.size <= i)(l:aM K.foot W w'):qZ w' G d i R e U N:=by
 have m:=h.rat.lt
 have f:∀b,(d.all b \/ b=i) -> K.foot b \/ W.heap.size <= b:=λb a=>by
  rcases a with a|rfl
  ·exact j b a
  ·exact .inr o
 refine⟨n,h.rat.only l λb a=>(h.rlo b a).2,λb a=>?_,λb a=>⟨(h.rlo b a).1,λk=>?_⟩⟩
 ·rcases f b a with c|c
  ·exact h.klo b c
  ·exact λg=>by have:=p b g;omega
 ·rcases f b k with c|c
  ·exact(h.rlo b a).2 c
  ·have:=m b a;omega
theorem qZ.keep{w w':World}{X:aQ}{b:JK}{u:Nat}{R:RK}{M N:MD}{U:MU}(h:qZ w X b u R M U N)(a:Kpt w w'):qZ w' X b u R M U N:=⟨h.uat.keep a,h.rat.kept a,h.klo,h.rlo⟩
theorem qZ.box{f:JK}{R:RK}{M N:MD}{U:MU}(h:qZ W G f j R M U N)(c:G i)(d:aM (λq=>q=i) W w')(k:¬NJ W i):qZ w' G f j R M U N:=
 ⟨h.uat.far d (λb a e=>h.klo b a (by rw[e];exact c)) λq g e=>k (e▸g),h.rat.only d λb a e=>(h.rlo b a).1 (by rw[e];exact c),h.klo,h.rlo⟩
theorem qZ.ref{e:JK}{R:RK}{M N g:MD}{U V:MU}{f:RJK}(h:qZ W G e i R M U N)(v:∀q,G q -> q<W.heap.size)(s:f8 (λq=>(e.all q \/ q=i) \/ G q) w' f j g V)(l:∀q,f.all q -> R.all q \/ W.heap.size <= q)(t:W.heap.size <= j)(p:aM R.all W w')(n:aM (iE W) W w'):jV w' G e f i j M U g V:=by
 have m:=h.klt;refine⟨h.uat.far (p.inter n) (λb a d=>(h.rlo b d.1).2 a) λq r d=>Be r d.2,s,h.klo,λb a=>?_⟩
 have o:R.all b \/ W.heap.size <= b:=by
  rcases a with a|rfl
  ·exact l b a
  ·exact .inr t
 rcases o with k|k
 ·exact h.rlo b k
 ·exact⟨λc=>by have:=v b c;omega,λc=>by have:=m b c;omega⟩
theorem UAt.onDisk{w i:World}{c:JK}{u:Nat}{M f:MD}{U:MU}(h:UAt w c u M U)(o:3<w.heap.size){e:DK}(q:bM i e f)(k:e.d=c.K.d)(l:∀b,e.foot b -> c.K.foot b \/ w.heap.size <= b)(g:aM c.K.foot w i)(t:f.S.length=M.S.length)(r:Int):dZ w c u (f,U,r) (.returned (.int .i64 r)) i:=by
 have s:=h.jat.onDisk q k l g t
 have p:∀b,(⟨c.j,e,c.O⟩:JK).all b -> c.all b \/ w.heap.size <= b:=λb a=>by
  rcases a with a|a|a
  ·exact .inl (.inl a)
  ·exact(l b a).imp (λh=>.inr (.inl h)) id
  ·exact .inl (.inr (.inr a))
 obtain⟨v,m,n,g3,g4⟩:=h.moved (g.mono λb a=>.inr (.inl a)) s rfl p o;exact⟨rfl,v,m,by rw[n];exact k,g4,g3,g.mono λb a=>.inl (.inr (.inl a))⟩
theorem bS.mod{K:RK}(h:bS W K N):∀b,K.foot b -> iE W b:=λb d=>by
 obtain⟨g,f,i,-,-,a,⟨e,c,-⟩,-⟩:=h.main;rcases d with rfl|rfl
 ·exact .inl ⟨_,_,_,a,.inr (.inl rfl)⟩
 ·exact .inl ⟨_,_,_,c,.inr (.inr rfl)⟩
theorem f8.onDisk{Z:aQ}{w f:World}{c:RJK}{u:Nat}{M g:MD}{U:MU}(h:f8 Z w c u M U){e:RK}(o:bS f e g)(k:e.d=c.K.d)(l:∀b,e.all b -> c.K.all b \/ w.heap.size <= b)(i:aM c.K.foot w f)(q:g.S.length=M.S.length)(r:Int):gL Z w c u (g,U,r) (.returned (.int .i64 r)) f:=by
 have p:=h.jat.onDisk o k l (yD i) q
 have m:∀b,(⟨c.j,e,c.O⟩:RJK).all b -> c.all b \/ w.heap.size <= b:=λb a=>by
  rcases a with a|a|a
  ·exact .inl (.inl a)
  ·exact(l b a).imp (λh=>.inr (.inl h)) id
  ·exact .inl (.inr (.inr a))
 have n:aM c.all w f:=i.mono λb a=>.inr (.inl (bS.foot_all a))
 exact⟨rfl,⟨c.j,e,c.O⟩,⟨rfl,k,m,n.mono λb a=>.inl a,i.mono h.jat.ref.mod⟩,h.moved n p rfl m⟩
def Two(w:World)(X:aQ)(d v:Nat)(M N:MD)(o f:Option MU)(pu b:Value):Prop:=match o,f with
 |none,none=>pu=.pointer none /\ b=.pointer none /\ ∃K R,K.d=d /\ R.d=v /\ lR w X K R M N
 |some U,some V=>∃a c u e,pu=.pointer (some ⟨u,0,none⟩) /\ b=.pointer (some ⟨e,0,none⟩) /\ a.K.d=d /\ c.K.d=v /\ jV w X a c u e M U N V
 |_,_=>False
theorem Two.disks{w:World}{X:aQ}{d v:Nat}{M N:MD}{o a:Option MU}{f g:Value}(h:Two w X d v M N o a f g):∃K R,K.d=d /\ R.d=v /\ lR w X K R M N:=by
 cases o<;>cases a
 ·exact h.2.2
 ·exact h.elim
 ·exact h.elim
 ·obtain⟨i,j,u,k,-,-,b,c,e⟩:=h;exact⟨_,_,b,c,e.disks⟩
theorem Two.re{w k:World}{X Y:aQ}{d v:Nat}{M N:MD}{o e:Option MU}{i j:Value}(h:Two w X d v M N o e i j)(g:Kpt w k)(f:∀q,Y q -> X q \/ w.heap.size <= q):Two k Y d v M N o e i j:=by
 cases o<;>cases e
 ·obtain⟨a,b,K,R,c,n,p⟩:=h;exact⟨a,b,K,R,c,n,(p.re f).keep g⟩
 ·exact h.elim
 ·exact h.elim
 ·obtain⟨r,s,u,t,l,m,a,b,c⟩:=h;exact⟨r,s,u,t,l,m,a,b,(c.re f).keep g⟩
structure PX(w:World)(X:aQ)(xb d v:Nat)(M N:MD)(o o':Option MU)(pu pw:Value):Prop where
 box:Blk w xb [.pointer (some ⟨d,0,none⟩),pu,.pointer (some ⟨v,0,none⟩),pw] 61
 two:Two w X d v M N o o' pu pw
 xx:X xb
 low:∀q,q <= 3 -> X q
 lt:∀q,X q -> q<w.heap.size
theorem PX.re{w c:World}{X Y:aQ}{k d v:Nat}{M N:MD}{o g:Option MU}{i j:Value}(h:PX w X k d v M N o g i j)(b:Kpt w c)(e:∀q,X q -> Y q)(f:∀q,Y q -> X q \/ (w.heap.size <= q /\ q<c.heap.size)):PX c Y k d v M N o g i j:=
 ⟨h.box.keep (b.block _ h.box.lt),h.two.re b λq a=>(f q a).imp id And.left,e _ h.xx,λq a=>e q (h.low q a),λq a=>(f q a).elim (λl=>aw (h.lt q l) b.size) And.right⟩
theorem PX.keep{w w':World}{e d v:Nat}{M N:MD}{o a:Option MU}{b c:Value}(h:PX w G e d v M N o a b c)(f:Kpt w w'):PX w' G e d v M N o a b c:=h.re f (λ_ h=>h) λ_ h=>.inl h
theorem PX.less{X Y:aQ}{M N:MD}{c e:Option MU}{f g:Value}(h:PX W X i j o M N c e f g)(b:∀q,Y q -> X q)(l:Y i)(k:∀q,q <= 3 -> Y q):PX W Y i j o M N c e f g:=
 ⟨h.box,h.two.re (Below.refl _ _) λq a=>.inl (b q a),l,k,λq a=>h.lt q (b q a)⟩
theorem PX.nj{M N:MD}{f g:Option MU}{k l:Value}(h:PX W G i j o M N f g k l):¬NJ W i:=λe=>by
 obtain⟨L,t,m,a,c,-⟩:=e;have b:=h.box;unfold Blk at b;rw[b] at a;injection a with a
 injection a with _ a
 subst a;exact c (by unfold TJ;simp)
def Far(w:World)(X:aQ)(a:World):Prop:=aM (λq=>¬X q) w a
theorem Far.step{w a b:World}{X Y:aQ}(h:Far w X a)(k:Far a Y b)(c:∀q,X q -> Y q):Far w X b:=aM.trans h k λq d=>.inl λe=>d (c q e)
theorem Far.of_below{w a:World}{X:aQ}(h:Kpt w a):Far w X a:=aM.of_below h
theorem yJ(h:bI (λq=>¬G q) W w')(c:G i)(d:i<W.heap.size)(a:Nat)(f:W.cell? ⟨i,a,none⟩=some u):w'.cell? ⟨i,a,none⟩=some u:=by
 have:=h.block i d λe=>e c
 unfold World.cell? at *;rw[show(⟨i,a,none⟩:Addr).block=i from rfl,this];exact f
theorem PX.ptrs{M N:MD}{U V:MU}{b c:Value}(h:PX W G i j o M N (some U) (some V) b c):∃u a,b=.pointer (some ⟨u,0,none⟩) /\ c=.pointer (some ⟨a,0,none⟩):=by
 obtain⟨g,k,u,a,e,f,-⟩:=h.two;exact⟨u,a,e,f⟩
theorem PX.prog{w:World}{X:aQ}{i d v u:Nat}{M N:MD}{U V:MU}{g:Value}(h:PX w X i d v M N (some U) (some V) (.pointer (some ⟨u,0,none⟩)) g):∃b,UAt w b u M U /\
 ∀(r:MD×MU×Int)(e:Ending)(c:World),dZ w b u r e c -> e=.returned (.int .i64 r.2.2) /\ PX c X i d v r.1 N (some r.2.1) (some V) (.pointer (some ⟨u,0,none⟩)) g /\ Far w X c:=by
 obtain⟨b,y,u,z,j,k,l,m,a⟩:=h.two;cases j;refine⟨b,a.uat,λr e c o=>?_⟩;obtain⟨rfl,s,t,x,f⟩:=a.prog h.lt o;exact⟨rfl,⟨h.box.keep (f.block _ h.box.lt λn=>a.klo _ n h.xx),⟨s,y,u,z,rfl,k,t.trans l,m,x⟩,h.xx,h.low,λq p=>aw (h.lt q p) f.size⟩,f.mono a.klo⟩
theorem PX.ref{w:World}{X:aQ}{k d v a:Nat}{M N:MD}{U V:MU}{j:Value}(h:PX w X k d v M N (some U) (some V) j (.pointer (some ⟨a,0,none⟩))):∃Z f,(∀q,Z q -> q<w.heap.size) /\ f8 Z w f a N V /\
 ∀(r:MD×MU×Int)(e:Ending)(g:World),gL Z w f a r e g -> e=.returned (.int .i64 r.2.2) /\ PX g X k d v M r.1 (some U) (some r.2.1) j (.pointer (some ⟨a,0,none⟩)) /\ Far w X g:=by
 obtain⟨t,f,u,a,l,m,n,o,b⟩:=h.two;cases m;refine⟨_,f,λq c=>c.elim (b.klt q) (h.lt q),b.rat,λr e g s=>?_⟩;obtain⟨rfl,z,x,y,i⟩:=b.ref h.lt s;exact⟨rfl,⟨h.box.keep (i.block _ h.box.lt λp=>(b.rlo _ p).1 h.xx),⟨t,z,u,a,l,rfl,n,x.trans o,y⟩,h.xx,h.low,λq c=>aw (h.lt q c) i.size⟩,i.mono λq c=>(b.rlo q c).1⟩
theorem PX.diskP{M N:MD}{A B:Option MU}{E F:Value}(h:PX W G i j o M N A B E F):∃K,K.d=j /\ bM W K M /\
 ∀(g:World)(e:DK)(k:MD),bM g e k -> e.d=K.d -> (∀b,e.foot b -> K.foot b \/ W.heap.size <= b) -> aM K.foot W g -> k.S.length=M.S.length -> PX g G i j o k N A B E F /\ Far W G g:=by
 cases A<;>cases B
 ·obtain⟨p,r,K,R,l,s,a⟩:=h.two;refine⟨K,l,a.dat,λg e k x t n f C=>?_⟩;have I:=a.rat.lt;refine⟨⟨h.box.keep (f.block _ h.box.lt λc=>a.klo _ c h.xx),⟨p,r,e,R,t.trans l,s,x,a.rat.only f λb c=>(a.rlo b c).2,λb c D=>?_,λb c=>⟨(a.rlo b c).1,λH=>?_⟩⟩,h.xx,h.low,λq y=>aw (h.lt q y) f.size⟩,f.mono a.klo⟩
  ·rcases n b c with m|m
   ·exact a.klo b m D
   ·have:=h.lt b D;omega
  ·rcases n b H with m|m
   ·exact(a.rlo b c).2 m
   ·have:=I b c;omega
 ·exact h.two.elim
 ·exact h.two.elim
 ·obtain⟨J,Q,u,T,p,r,l,s,a⟩:=h.two;refine⟨J.K,l,a.uat.jat.disk,λg e k x t n f C=>?_⟩;obtain⟨-,L,O,P,z⟩:=a.prog h.lt (a.uat.onDisk (h.lt 3 (h.low 3 (by decide))) x t n f C 0);exact⟨⟨h.box.keep (z.block _ h.box.lt λc=>a.klo _ c h.xx),⟨L,Q,u,T,p,r,O.trans l,s,P⟩,h.xx,h.low,λq y=>aw (h.lt q y) z.size⟩,z.mono a.klo⟩
theorem PX.diskR{M N:MD}{A B:Option MU}{E F:Value}(h:PX W G i j o M N A B E F):∃K,K.d=o /\ bS W K N /\
 ∀(k:World)(f:RK)(l:MD),bS k f l -> f.d=K.d -> (∀b,f.all b -> K.all b \/ W.heap.size <= b) -> aM K.foot W k -> l.S.length=N.S.length -> PX k G i j o M l A B E F /\ Far W G k:=by
 cases A<;>cases B
 ·obtain⟨n,p,K,R,r,m,a⟩:=h.two;refine⟨R,m,a.rat,λk f l x s t g D=>?_⟩;have H:=a.dat.lt;refine⟨⟨h.box.keep (g.block _ h.box.lt λc=>(a.rlo _ (bS.foot_all c)).1 h.xx),⟨n,p,K,f,r,s.trans m,a.dat.only g λb c y=>(a.rlo b (bS.foot_all y)).2 c,x,a.klo,λb c=>?_⟩,h.xx,h.low,λq e=>aw (h.lt q e) g.size⟩,g.mono λq e=>(a.rlo q (bS.foot_all e)).1⟩;rcases t b c with C|C
  ·exact a.rlo b C
  ·exact⟨λI=>by have:=h.lt b I;omega,λy=>by have:=H b y;omega⟩
 ·exact h.two.elim
 ·exact h.two.elim
 ·obtain⟨J,P,u,T,n,p,r,m,a⟩:=h.two;refine⟨P.K,m,a.rat.jat.ref,λk f l x s t g D=>?_⟩;obtain⟨-,Q,L,O,z⟩:=a.ref h.lt (a.rat.onDisk x s t g D 0);exact⟨⟨h.box.keep (z.block _ h.box.lt λc=>(a.rlo _ c).1 h.xx),⟨J,Q,u,T,n,p,r,L.trans m,O⟩,h.xx,h.low,λq e=>aw (h.lt q e) z.size⟩,z.mono λq e=>(a.rlo q e).1⟩
end
section
open Go.ChangeShapes Go.WideShapes Go.Deep
theorem tj{w:World}{a:Addr}(h:w.cell? a=some u):a.spot=none /\ ∃L t d,w.heap[a.block]?=some (.cells L t d) /\ L[a.off]?=some u:=by
 unfold World.cell? at h;split at h
 ·rename_i c e f g
  by_cases b:a.spot.isSome=true
  ·simp[b] at h
  ·refine⟨by simpa using b,c,e,f,g,?_⟩;simpa[b] using h
 ·cases h
def tk(k:Nat)(E:List Value -> Prop)(w:World)(v:Value)(n:Nat):Prop:=
 ∃a c,v=.slice a n c /\ n <= c /\ c <= maxLen /\ (a=none -> c=0) /\
  (n=0 \/ ∃b d L t e,a=some ⟨b,d,none⟩ /\ b<w.heap.size /\ w.heap[b]?=some (.cells L t e) /\ d+n*k <= L.size /\ ∀i,i<n -> E ((L.toList.drop (d+i*k)).take k))
section
variable {H:Type} {enc:TypeId×Value -> H} {P:Program} {w:World} {base:Nat} {held:Bool}
theorem yK{t e:TypeId}{G k:Nat}{x:DataW H×List MemPlace}(S:0<k)(W:P.underlying t=some (.slice e))(I:P.cellsOf e=k)(E:List Value -> Prop)
 (J:∀(m:Nat)(r:List Value)(y:DataW H×List MemPlace),DataW.trod enc P w base (λ_=>true) held m e r=some y -> E r)
 (h:DataW.trod enc P w base (λ_=>true) held G t [u]=some x):∃n,tk k E w u n:=by
 rcases open_slice W h with⟨g,_⟩|⟨a,b,Z,m,n,D,Y,B,hb,T,V,C,hx,hi⟩
 ·simp at g;subst g;exact⟨0,none,0,rfl,aq _,by unfold maxLen;omega,λ_=>rfl,.inl rfl⟩
 ·simp at B;subst B;simp only[if_true] at C;subst C;refine⟨b,some a,m,rfl,T,V,nofun,?_⟩
  by_cases g:b=0
  ·exact .inl g
  ·right;rw[I] at hi;obtain⟨aa,O,_⟩:=hi 0 (by omega);obtain⟨_,ad,K⟩:=World.cells?_some O;have l:=K 0 S;rw[List.getElem?_eq_getElem (by omega)] at l;simp only[Nat.zero_mul] at l;have N:(a.add 0).add 0=a:=by simp[Addr.add]
   rw[N] at l;obtain⟨hs,L,F,s,p,_⟩:=tj l;have z:a=⟨a.block,a.off,none⟩:=by cases a;simp_all
   have A:∀i j,i<b -> j<k -> ∀o,w.cells? base (a.add (i*k)) k=some o -> L[a.off+i*k+j]?=o[j]?:=by
    intro i j ab d o Q;obtain⟨_,ag,M⟩:=World.cells?_some Q;have hh:=M j d;rw[add_add,z,Addr.add_lit,cell_of_row w a.block _ L F s p] at hh;rw[Nat.add_assoc];exact hh
   refine⟨a.block,a.off,L,F,s,by rw[<- z],lt_of_block p,p,?_,λi R=>?_⟩
   ·obtain⟨f,c,_⟩:=hi (b-1) (by omega);obtain⟨_,U,_⟩:=World.cells?_some c;have:=A (b-1) (k-1) (by omega) (by omega) f c;rw[List.getElem?_eq_getElem (by omega)] at this;have:=(Array.getElem?_eq_some_iff.1 this).1
    have e1:b*k=(b-1)*k+k:=by
     obtain⟨q,rfl⟩:∃q,b=q+1:=⟨b-1,by omega⟩
     simp[Nat.add_mul]
    omega
   ·obtain⟨f,c,X⟩:=hi i (by omega);obtain⟨_,U,_⟩:=World.cells?_some c
    have e:(L.toList.drop (a.off+i*k)).take k=f:=by
     apply List.ext_getElem?;intro j;rw[List.getElem?_take]
     by_cases d:j<k
     ·rw[if_pos d,List.getElem?_drop,<- A i j R d f c];simp
     ·rw[if_neg d,List.getElem?_eq_none (by omega)]
    rw[e];exact J _ _ _ X
end
theorem tk.keep{E:List Value -> Prop}{w w':World}(h:tk i E w u j)(d:Kpt w w'):tk i E w' u j:=by
 obtain⟨a,f,rfl,l,m,o,c⟩:=h;refine⟨a,f,rfl,l,m,o,?_⟩;rcases c with c|⟨b,s,L,t,g,rfl,e,q,r,p⟩
 ·exact .inl c
 ·exact .inr ⟨b,s,L,t,g,rfl,aw e d.size,(d.block b e).trans q,r,p⟩
end
section
open Go.ChangeShapes Go.WideShapes Go.ChangeAt
attribute [local go_sem] opC upC
theorem D3:
 Calls aE 48 #[.pointer none] w λe a=>e=.returned (.tuple #[.pointer none,.int .i64 9]) /\ w=a:=by
 have b:=ae (sy w)
 go_enter func48,ntmps48
 go_wp2_with fail;refine b.x.mono ?_;rintro e a ⟨rfl,rfl⟩;go_wp2;go_ret2;exact⟨rfl,rfl⟩
end
section
open Go.Maps Go.WideMaps
attribute [local go_sem] opC upC told bE bm bF bp bq bG bH
abbrev FR(n:Int):DataW Unit:=.lit (.int .i64 n)
theorem FS:Keyed aE 9:=string_keyed underlying9
theorem Fq:(zeroValue 3).run aE w=.ok (.int .i64 0) w:=by kernel_rfl
def tm(m:aT)(l:List RIt)(k:bQ):Int:=((l.filter λx=>decide (x.key=k)).map (kN m)).sum
theorem D4(k:bQ):tm m m.items k=CB m k:=rfl
theorem Cl(l:List RIt)(x:RIt)(k:bQ):tm m (l++[x]) k=tm m l k+if x.key=k then kN m x else 0:=by
 unfold tm;rw[List.filter_append,List.map_append,List.sum_append]
 by_cases h:x.key=k<;>simp[h]
structure wy(m:aT)(k:Nat)(D:DataW Unit):Prop where
 isMap:IsMap D
 at_:∀key:bQ,D.atKey (.string key) (FR 0)=FR (tm m (m.items.take k) key)
 has_:∀key:bQ,Maps.has D (.string key)=(m.items.take k).any λx=>decide (x.key=key)
theorem wy.start:wy m 0 (.map []):=⟨isMap_empty,λ_=>rfl,λ_=>rfl⟩
theorem wy.step{D:DataW Unit}(h:wy r i D)(b:i<r.items.length):wy r (i+1) (D.put (.string r.items[i].key) (FR (tm r (r.items.take i) r.items[i].key+kN r r.items[i]))):=by
 refine⟨h.isMap.put _ _,λa=>?_,λa=>?_⟩
 ·rw[List.take_succ_eq_append_getElem b,Cl]
  by_cases e:r.items[i].key=a
  ·subst e;rw[atKey_put_same h.isMap (by trivial),if_pos rfl]
  ·rw[atKey_put_other (by simpa using λh=>e h.symm),h.at_,if_neg e,Int.add_zero]
 ·rw[List.take_succ_eq_append_getElem b,List.any_append]
  by_cases e:r.items[i].key=a
  ·subst e;rw[has_put_same h.isMap (by trivial)];simp
  ·rw[has_put_other (by simpa using λh=>e h.symm),h.has_];simp[e]
theorem yL(f:ez r){x:RIt}(a:x∈r.items):0 <= kN r x /\ kN r x <= 16777216:=by
 refine⟨vh r x,?_⟩;have b:=f.val x a;unfold kN yT;rw[DM.bnd_id x.val (by omega) (by omega)];have:=DM.aft_le (r.seen.getD x.dev.toNat 0-x.seq).toNat x.val (by omega);omega
theorem Bf(m:aT)(k:bQ):∀l:List RIt,(∀x∈l,0 <= kN m x /\ kN m x <= 16777216) -> 0 <= tm m l k /\ tm m l k <= 16777216*l.length
 |[],_=>by simp[tm]
 |x::l,h=>by
  have c:=h x List.mem_cons_self;have a:=Bf m k l λy b=>h y (List.mem_cons_of_mem _ b)
  unfold tm at a⊢;rw[List.filter_cons];split
  ·rw[List.map_cons,List.sum_cons,aD];omega
  ·rw[aD];omega
def D5(w:World)(m:aT)(e:Ending)(a:World):Prop:=
 (∃B D,e=.returned (.map (some B)) /\ w.heap.size <= B /\ a.ownsMap aE 9 (plainElem (H:=Unit) aE 3) B m.items.length D /\ wy m m.items.length D) /\ Kpt w a
theorem D6(h:di F w v m)(f:ez m)(hl:m.items.length <= 1000000):
 Calls aE 84 #[v] w (D5 w m):=by
 replace h:=h.mono (G:=λb=>b<w.heap.size) λb _ aR=>aR
 replace h:=jF h 37
 obtain⟨a1,p1,a2,p2,a3,p3,n1,n,n3,o,rfl,h,l1,l2,l3,ax,L,bc,bk,a9,M,Hx,ay,c0,c1,c2⟩:=h
 try rw[ax.x]
 try rw[L.x]
 try rw[bc.x]
 rw[L.x] at hl;clear h;obtain⟨w2,I⟩:=aP (o.alloc (.map #[] 0));have bp:=@run_makeMap aE;have a0:w2.heap.size=w.heap.size+2:=by rw[I];simp[M.x]
 have aJ:Below (w.heap.size+1) o w2:=by rw[I];exact(Below.refl _ _).alloc (by rw[M.x];exact aq _) _
 have aV:w2.ownsMap aE 9 (plainElem (H:=Unit) aE 3) (w.heap.size+1) 0 (.map []):=by
  have:=World.ownsMap_made (H:=Unit) o aE 9 (plainElem aE 3);rw[I,<- M.x];exact this
 have HM:=ae (show ∀W,Below (w.heap.size+1) o W -> (W.cell? ⟨w.heap.size,0,none⟩=some (.slice a1 n1 p1) /\ W.cell? ⟨w.heap.size,1,none⟩=some (.slice a2 n p2) /\ W.cell? ⟨w.heap.size,2,none⟩=some (.slice a3 n3 p3)) /\ ce (λb=>b<w.heap.size) W (.slice a1 n1 p1) (.slice a2 n p2) (.slice a3 n3 p3) m from λW l=>
  ⟨aS (ay.x.keep (l.block _ (by omega))),Hx.x.keep λb bB aR=>l.block b (by omega)⟩)
 have⟨bi,a6,bl,bd,A⟩:=ae5 I aJ a0 aV f;clear I aJ a0 aV f Hx ay
 go_enter func84,ntmps84
 go_wp2;rw[<- bk.x,<- bi.x];clear bp
 go_loopw [10] (λi wr=>∃(k:Nat)(D:DataW Unit),k <= n /\ i=.int .i64 (k:Int) /\ Below (w.heap.size+1) o wr /\ w.heap.size+2 <= wr.heap.size /\ wr.ownsMap aE 9 (plainElem aE 3) (w.heap.size+1) k D /\ wy m k D) (λi _=>n-(intOf i).toNat)
 ·exact⟨0,_,by omega,rfl,a6.x,by rw[bl.x];exact aq _,bd.x,wy.start m⟩
 ·obtain⟨k,D,hk,rfl,aM,aX,aU,hD⟩:=hrel;have⟨K,az,U,bg⟩:=ae4 aM aU hD aX;clear aM aU hD aX c0 c1 c2
  by_cases bn:k<n
  ·have bm:(k:Int)<(n:Int):=by omega
   have r:k<m.items.length:=by rw[L.x];exact bn
   obtain⟨⟨d0,d1,d2⟩,O⟩:=HM.x wr K.x;obtain⟨b,bI,rfl,-,-,hc⟩:=fw O.items (by omega);obtain⟨e0,e1,e2,e3⟩:=hc k r;have t:=U.x.step r;obtain⟨x,hx⟩:=aH m.items[k];rw[hx] at e0 e1 e2 e3 t;have S:x∈m.items:=by rw[<- hx];exact aC r
   obtain⟨k1,k2,k3,k4⟩:=eQ (A.x.iknown x S);obtain⟨q,hq⟩:=Int.eq_ofNat_of_zero_le k1;have ak:x.dev=(q:Int):=hq;have al:q<m.seen.length:=by rw[hq] at k2;omega
   have bD:q<8:=by have:=A.x.len;omega
   obtain⟨bs,os,rfl,-,-,aN⟩:=ip O.seen (by omega);have Y:=aN q al;obtain⟨s,P⟩:=aH m.seen[q];rw[P] at Y
   have aa:m.seen.getD x.dev.toNat 0=s:=by
    rw[ak,Int.toNat_natCast,List.getD_eq_getElem?_getD,List.getElem?_eq_getElem al,P];rfl
   have bq:=A.x.seen s (by rw[<- P];exact aC al);have a5:x.seq <= s:=by rw[<- aa];exact k4
   have a4:1 <= x.seq:=k3;have aZ:=yL A.x S;have Q:kN m x=DM.aft (s-x.seq).toNat (DM.bnd x.val):=by unfold kN yT;rw[aa]
   have ao:=Bf m x.key (m.items.take k) (λy hy=>yL A.x (List.mem_of_mem_take hy));have aY:(m.items.take k).length=k:=by rw[List.length_take];omega
   rw[aY] at ao;have N:=U.x.at_ x.key;obtain⟨c,aO⟩:=aH (tm m (m.items.take k) x.key);rw[aO] at N ao t;obtain⟨u,hu⟩:=aH (kN m x);rw[hu] at aZ Q t;obtain⟨z,xd,J,xv⟩:=x;dsimp only at e0 e1 e2 e3 ak t N Q a5 a4;subst ak;have ag:=(O.itemsB _ S).1;dsimp only at ag;have ad:keyOf aE 9 (.string ⟨z.toArray⟩)=some (.string z):=keyOf_string_mk underlying9 (show z.toArray.size <= maxLen by unfold maxLen;simpa using ag);obtain⟨g,R⟩:=aP (wr.alloc (.cells #[.string ⟨z.toArray⟩,.int .i64 (q:Int),.int .i64 J,.int .i64 xv] 108));have E:Kpt wr g:=by rw[R];exact aI _ _
   have aG:Blk g wr.heap.size [.string ⟨z.toArray⟩,.int .i64 (q:Int),.int .i64 J,.int .i64 xv] 108:=by rw[R];exact Blk.new _ _ _
   have hz:w.heap.size+2 <= wr.heap.size:=bg.x
   have ar:=ae (show ∀d,aK g.drew d -> d.ownsMap aE 9 (plainElem (H:=Unit) aE 3) (w.heap.size+1) k D from λd hh=>by
    have l:Kpt wr d:=E.trans (((Below.refl _ _).drew.trans hh).mono E.size)
    exact az.x.kept (row:=none) ⟨l.os,l.tape,l.output,l.size,λi hi _=>l.block i hi⟩ (by simp))
   have bo:∀d,aK g.drew d -> (Instr.lookup 134 (.map (some (w.heap.size+1))) (.string ⟨z.toArray⟩) false).run aE d=.ok (.int .i64 c) d:=λd hh=>by
    obtain⟨c',an,p,-⟩:=(ar.x d hh).lookup_int FS underlying134 underlying3 (Fq d) ad;rw[N] at p;injection p with p
    injection p with _ p
    rw[an,p]
   obtain⟨x0,x1,x2,x3⟩:=dH aG;have ai:∀{a:Addr}{u:Value},wr.cell? a=some u -> g.cell? a=some u:=λ{a u} h=>(E.cell (eK h)).trans h
   have bv:∀d,aK g.drew d -> d.cell? _=_:=λd hh=>bh x0 hh
   have bw:∀d,aK g.drew d -> d.cell? _=_:=λd hh=>bh x1 hh
   have bx:∀d,aK g.drew d -> d.cell? _=_:=λd hh=>bh x2 hh
   have bz:∀d,aK g.drew d -> d.cell? _=_:=λd hh=>bh x3 hh
   have bu:∀d,aK g.drew d -> d.cell? _=_:=λd hh=>bh (ai d0) hh
   have bt:∀d,aK g.drew d -> d.cell? _=_:=λd hh=>bh (ai Y) hh
   have hA:=uk xv (s-J) g.drew (by omega);rw[<- Q] at hA;have HA:=ae hA;have bG:IntKind.i64.wrap (s-J)=s-J:=af _ (by omega);have bH:IntKind.i64.wrap (c+u)=c+u:=af _ (by omega);have bF:IntKind.i64.wrap (q:Int)=(q:Int):=af _ (by omega);have bE:(q:Int)<(n1:Int):=by have:=ax.x;omega
   have⟨bf,bj,V,bb,ba⟩:=ae5 t R E ad (show -9223372036854775808 <= c+u /\ c+u <= 9223372036854775807 by omega);clear hc aN hx P aa bq k1 k2 k3 k4 a4 a5 aZ Q ao aY N aO hu ag ad R E aG hA t x0 x1 x2 x3 Y d0 d2 ai hq O S;go_wp2_with fail;rw[<- bj.x];refine dq aK 17 (up 15 [515,16,517]) (by kernel_rfl) ?_;apply bC;rfl;intro d hC;go_simp;(repeat (simp(disch:=omega) only[af,if_pos];go_simp));exact aF;refine cD rfl rfl (λX B=>?_);go_simp;refine HA.x.mono ?_;rintro e T ⟨rfl,C⟩;refine⟨_,rfl,C,B _ _ ?_⟩;clear B X HA bv bw bx bz bu bt bo;go_simp;obtain⟨w5,an,aW,ab⟩:=(ar.x T C).update FS underlying134 (by unfold maxLen;omega) bb.x (plainElem_int underlying3 (a:=c+u) (WalkArith.wf_i64 ba.x))
   have br:w.heap.size+2 <= w5.heap.size:=by
    have Z:=V.x.size;have h2:g.drew.heap.size <= T.heap.size:=RowKit.Below.size C;have bA:g.heap.size <= T.heap.size:=h2;have h3:=ab.size;omega
   have aL:Below (w.heap.size+1) o w5:=by
    have Z:Below (w.heap.size+1) o T:=K.x.trans ((V.x.mono (by omega)).trans (((Below.refl _ _).drew.trans C).mono (show w.heap.size+1 <= g.heap.size by have:=V.x.size;omega)));exact Z.grown ab (au (by have:=K.x.size;have:=M.x;omega) Z.size) (λj hj=>by cases hj;exact aq _)
   have⟨be,a7⟩:=ae2 aW aL;clear aW aL ab C;apply bC;rfl;intro d hC;go_simp;(repeat (simp(disch:=omega) only[af,if_pos];go_simp));exact aF;refine cG rfl rfl rfl (λX B=>?_);go_simp;refine B _ _ ?_;clear B X;go_simp;refine cZ ?_;clear an;go_wp2
   go_roundw
   ·exact⟨k+1,_,by omega,by go_num,a7.x,br,be.x,bf.x⟩
   ·simp[intOf];omega
  ·have bm:¬(k:Int)<(n:Int):=by omega
   have r:k=m.items.length:=by rw[L.x];omega
   have⟨av,a8⟩:=ae2 (show wr.ownsMap aE 9 (plainElem aE 3) (w.heap.size+1) m.items.length D /\ wy m m.items.length D from by rw[<- r];exact⟨az.x,U.x⟩) (a9.x.trans (K.x.mono (Nat.le_succ _)));clear r;go_wp2
   go_ret
   exact⟨⟨_,D,rfl,Nat.le_succ _,av.x.1,av.x.2⟩,a8.x⟩
theorem oE(E:eB w)(h3:4 <= w.heap.size)(F:aQ)(v:Value)(m:aT)(h:di F w v m)(L:∀x∈m.items,x.key.length <= 1000000)(K:∀x∈m.gone,x.key.length <= 1000000)(a:bQ)(hk:a.length <= 9223372036854775807):
 Calls aE 42 #[v,.string ⟨a.toArray⟩] w λe T=>e=.returned (.int .i64 (lV m a)) /\ Kpt w T:=by
 replace h:=h.mono (G:=λb=>b<w.heap.size) λb _ n=>n
 replace h:=jF h 37
 obtain⟨y,Q,z,R,A,S,N,O,P,wx,rfl,h,l1,l2,l3,X,Y,Z,aa,l,ad,u,s,c0,c1,c2⟩:=h
 try rw[X.x]
 try rw[Y.x]
 try rw[Z.x]
 clear h;have j:=ae (kZ wx (bR E h3 l.x) (by rw[ad.x];omega) _ (.agg #[.slice y N Q,.slice z O R,.slice A P S]) m ⟨_,_,_,rfl,u.x⟩ L K);obtain⟨ok,o⟩:=aH (aV m);obtain⟨r,p⟩:=aH (lV m a);rw[o] at j;rw[p];have⟨g,t⟩:=ae2 o p;have J:keyOf aE 9 (.string ⟨a.toArray⟩)=some (.string a):=keyOf_string_mk underlying9 (show a.toArray.size <= maxLen by unfold maxLen;simpa using hk);have W:=ae J;clear o p E L K c0 c1 c2 J
 go_enter func42,ntmps42
 go_wp2_with fail;rw[<- aa.x];refine j.x.mono ?_;rintro e U ⟨rfl,i⟩;have k:=ae (l.x.trans (i.mono l.x.size));obtain⟨d0,d1,d2⟩:=aS (s.x.keep (i.block _ s.x.lt));have ab:=ae (u.x.keep (w':=U) λb _ n=>i.block b n);clear j i;cases ok with
 |false=>
  obtain rfl:r=0:=by rw[<- t.x];unfold lV;rw[g.x];rfl
  go_wp2
  go_ret
  exact⟨rfl,k.x⟩
 |true=>
  have f:=cA g.x;have q:=ae (D6 U _ (.agg #[.slice y N Q,.slice z O R,.slice A P S]) m ⟨_,_,_,rfl,ab.x⟩ f (by have:=(cX g.x).2.1;omega));clear f;go_wp2_with fail;refine q.x.mono ?_;rintro e w4 ⟨⟨B,D,rfl,-,M,C⟩,I⟩;obtain⟨c,ag,H,-⟩:=M.lookup_int FS underlying134 underlying3 (Fq w4) W.x
  have hc:c=r:=by
   have d:=C.at_ a;rw[H,List.take_length,D4] at d;injection d with d
   injection d with _ d
   rw[d,<- t.x];unfold lV;rw[g.x];rfl
  subst hc;have V:=ae (k.x.trans (I.mono k.x.size));clear M H C I q;go_wp2
  go_ret
  exact⟨rfl,V.x⟩
/- works: the chapter's first example. -/
end
abbrev exK:bQ:=[49,97,0,98]
theorem Cm(k:bQ):dt [k] = [k]:=List.mergeSort_singleton k
theorem wC(n d:Nat)(i:8 <= n)(l:n <= 65536)(g:d<8):(cJ (MD.fresh n)).2=0 /\ (gY (MD.fresh n) d).2.2=0 /\ (gY (MD.fresh n) d).2.1.dev<8 /\ aV (gY (MD.fresh n) d).2.1.m=true /\ (gY (MD.fresh n) d).1.writes <= 200000:=by
 have e:cJ (MD.fresh n)=(upM (kJ (List.replicate n (List.replicate 64 0)) (gP n++[(0,dw 0)])) (0+(gP n++[(0,dw 0)]).length),0):=by
  rw[mh,show(MD.fresh n).S.length=n by simp[MD.fresh]];exact qB _ _ _
 have f:(kJ (List.replicate n (List.replicate 64 (0:UInt8))) (gP n++[(0,dw 0)])).length=n:=by rw[tH];simp
 have p:(gP n++[(0,dw 0)]).length=n+1:=by simp[gP]
 have h:(dB d .new).length <= 48:=by
  rcases(by omega:d=0 \/ d=1 \/ d=2 \/ d=3 \/ d=4 \/ d=5 \/ d=6 \/ d=7) with rfl|rfl|rfl|rfl|rfl|rfl|rfl|rfl<;>decide +kernel
 unfold gY;rw[e];generalize dB d .new=b at h;generalize kJ (List.replicate n (List.replicate 64 (0:UInt8))) (gP n++[(0,dw 0)])=S at f;generalize j:0+(gP n++[(0,dw 0)]).length=k;have o:takes b.length=1:=by unfold takes;omega
 have c:cw (upM S k) ⟨0,[],false⟩ b=(upM (kJ S (aX S.length 0 0 0 b)) (k+(aX S.length 0 0 0 b).length),⟨0,[b],false⟩,0):=by
  unfold cw;rw[if_neg (by simp),if_neg (by omega),if_neg (by show ¬bw S.length-0<_;unfold bw;omega)];have a:bD (upM S k) (aX S.length 0 0 0 b)=(upM (kJ S (aX S.length 0 0 0 b)) (k+(aX S.length 0 0 0 b).length),0):=qB _ _ _;show(if(bD (upM S k) (aX S.length 0 0 0 b)).2=0 then _ else _)=_;rw[a,if_pos rfl];show((bD (upM S k) (aX S.length 0 0 0 b)).1,(⟨0,[b],false⟩:MJ),(0:Int))=_;rw[a]
 dsimp only;rw[c];refine⟨rfl,rfl,g,iQ,?_⟩;show k+_ <= _;have:(aX S.length 0 0 0 b).length=takes b.length:=by unfold aX;simp
 omega
def tn:aT:=⟨[0,0,0,1,0,0,0,0],[⟨exK,3,1,65536⟩],[]⟩
def As:aT:=⟨[0,0,0,2,0,0,0,0],[],[⟨exK,3,1⟩]⟩
theorem eX:aV tn=true:=by decide +kernel
theorem jW:aV As=true:=by decide +kernel
theorem uW:dc 3 [exK]=true:=by decide +kernel
theorem wD:iB .new 3 [exK]=(tn,0):=by
 have e:iV .new 3 [exK]=tn:=by
  unfold iV;rw[Cm];show aT.mk _ (cH RIt.pl _ [] _) _=_;rw[fs];rfl
 unfold iB;rw[if_pos iQ,if_pos uW,e];exact if_pos eX
theorem At:dy tn 3 [exK]=(As,0):=by
 have e:dI tn 3 [exK]=As:=by
  unfold dI;show aT.mk _ _ (cH RGo.pl _ [] _)=_;rw[fs];rfl
 unfold dy;rw[if_pos eX,if_pos uW,e];exact if_pos jW
theorem yM:lV tn exK=65536:=by
 unfold lV;rw[if_pos eX]
 decide +kernel
theorem D7:lV As exK=0:=by
 unfold lV;rw[if_pos jW]
 decide +kernel
structure Gl(M0:MD)(U0:MU)(M1:MD)(U1:MU)(M2:MD)(U2:MU):Prop where
 form:gY (MD.fresh 40) 3=(M0,U0,0)
 fmt:(cJ (MD.fresh 40)).2=0
 learn:lB M0 U0 [exK]=(M1,U1,0)
 opened:eZ M1=.inl ⟨U1.dev,U1.m,⟨U1.J.g,U1.J.L,false⟩⟩
 drop:oT M1 ⟨U1.dev,U1.m,⟨U1.J.g,U1.J.L,false⟩⟩ [exK]=(M2,U2,0)
 dev0:U0.dev=3
 m0:U0.m=.new
 dev1:U1.dev=3
 m1:U1.m=tn
 m2:U2.m=As
 w0:M0.writes <= 200000
 w1:M1.writes <= 400000
 n1:M1.S.length=40
def m0S:MD:=(gY (MD.fresh 40) 3).1
def u0S:MU:=⟨3,.new,⟨0,[dB 3 .new],false⟩⟩
def m1S:MD:=(cE m0S u0S (vn [exK]) tn).1
def u1S:MU:=⟨3,tn,⟨0,[dB 3 .new,vn [exK]],false⟩⟩
theorem Gm:∃a e b f c g,Gl a e b f c g:=by
 refine⟨m0S,u0S,m1S,u1S,(cE m1S u1S (vo [exK]) As).1,⟨3,As,⟨0,[dB 3 .new,vn [exK],vo [exK]],false⟩⟩,by kernel_rfl,by kernel_rfl,?_,?_,?_,rfl,rfl,rfl,rfl,rfl,?_,?_,by kernel_rfl⟩
 ·unfold lB dz;rw[show iB u0S.m u0S.dev [exK]=_ from wD]
  kernel_rfl
 ·have i:ef 3 .new (vn [exK])=some tn:=by
   have h:=Bv (d:=3) (m:=.new) (l:=[exK]) (by decide) (λk n=>by rw[List.mem_singleton.1 n];decide) (by rw[show((3:Nat):Int)=3 from rfl,wD]);rw[show((3:Nat):Int)=3 from rfl,wD] at h;exact h
  have j:fh [dB 3 .new,vn [exK]]=some (3,tn):=zp (xF (by decide) iQ) i;unfold eZ;rw[show gX m1S=.inl ⟨0,[dB 3 .new,vn [exK]],false⟩ by kernel_rfl];dsimp only;rw[if_neg nofun,j];rfl
 ·unfold oT dz;rw[show dy u1S.m u1S.dev [exK]=_ from At]
  kernel_rfl
 ·exact of_decide_eq_true (by kernel_rfl)
 ·exact of_decide_eq_true (by kernel_rfl)
section
open Go.ChangeShapes Go.WideShapes Go.Lib
theorem Fr:aE.globalNamed "henkan/crc.quarter"=some 0:=by kernel_rfl
theorem FT:(aE.globals[0]?).map (·.type)=some 260:=by kernel_rfl
theorem E2:aE.cellsOf 260=16:=by kernel_rfl
theorem FU:aE.cellsOf 96=1:=by kernel_rfl
theorem E3:aE.underlying 260=some (.array 16 96):=by kernel_rfl
theorem ew:aE.underlying 96=some (.int .u32):=by kernel_rfl
theorem dg{H:Type}{a:TypeId×Value -> H}{P:Program}{e:Nat -> Bool}{b:Bool}{k:IntKind}{y:DataW H×List MemPlace}
 (d:P.underlying t=some (.int k)) (h:DataW.trod a P W i e b j t [u]=some y):∃n,u=.int k n /\ y=(.lit (.int k n),[]):=by
 cases j with
 |zero=>simp[DataW.trod] at h
 |succ j=>
  cases u<;>simp[DataW.trod,d] at h
  rename_i f n;obtain⟨⟨rfl,_⟩,rfl⟩:=h;exact⟨n,rfl,rfl⟩
abbrev laidQ:List (String×DataW Unit):=[("henkan/crc.quarter",Rows.laid_henkan_crc_quarter),("unicode/utf8.acceptRanges",Rows.laid_unicode_utf8_acceptRanges),("unicode/utf8.first",Rows.laid_unicode_utf8_first)]
theorem Cn:Rows.laid_unicode_utf8_acceptRanges (H:=Unit)=Lib.acceptData:=by kernel_rfl
theorem D8:Rows.laid_unicode_utf8_first=Lib.firstData:=by kernel_rfl
theorem tQ(h:laidMet aE laidQ W):W.var? aE "henkan/crc.quarter"=some iz.toArray:=by
 obtain⟨g,t,z,x,p,Q,S,T,a⟩:=Lib.laidMet.reads h (.head _);obtain rfl:=Option.some.inj (Fr.symm.trans Q);obtain rfl:=Option.some.inj (FT.symm.trans S);rw[T]
 congr 1
 obtain⟨l⟩:=z;cases x with
 |zero=>simp[DataW.trod] at a
 |succ x=>
  simp only[DataW.trod,E3,E2,FU] at a;split at a
  ·rename_i R
   obtain⟨b,c,n,o,q,r,s,u,v,w,d,f,i,j,k,m,rfl⟩:∃b c n o q r s u v w d f i j k m,l = [b,c,n,o,q,r,s,u,v,w,d,f,i,j,k,m]:=by
    match l,R with
    |[b,c,n,o,q,r,s,u,v,w,d,f,i,j,k,m],_=>exact⟨b,c,n,o,q,r,s,u,v,w,d,f,i,j,k,m,rfl⟩
   have e:List.range 16 = [0,1,2,3,4,5,6,7,8,9,10,11,12,13,14,15]:=rfl;rw[e] at a;simp only[Option.map_eq_some_iff,List.mapM_cons,List.mapM_nil,Option.bind_eq_bind,Option.bind_eq_some_iff,Option.pure_def,Option.some.injEq] at a;obtain⟨xs,⟨y0,A,_,⟨y1,B,_,⟨y2,I,_,⟨y3,J,_,⟨y4,K,_,⟨y5,L,_,⟨y6,M,_,⟨y7,N,_,⟨y8,O,_,⟨y9,P,_,⟨ag,C,_,⟨ai,D,_,⟨ak,E,_,⟨al,F,_,⟨an,G,_,⟨ao,H,_,rfl,rfl⟩,rfl⟩,rfl⟩,rfl⟩,rfl⟩,rfl⟩,rfl⟩,rfl⟩,rfl⟩,rfl⟩,rfl⟩,rfl⟩,rfl⟩,rfl⟩,rfl⟩,rfl⟩,y⟩:=a;obtain⟨U,rfl,rfl⟩:=dg ew A;obtain⟨V,rfl,rfl⟩:=dg ew B;obtain⟨n2,rfl,rfl⟩:=dg ew I;obtain⟨n3,rfl,rfl⟩:=dg ew J;obtain⟨n4,rfl,rfl⟩:=dg ew K;obtain⟨n5,rfl,rfl⟩:=dg ew L;obtain⟨n6,rfl,rfl⟩:=dg ew M;obtain⟨n7,rfl,rfl⟩:=dg ew N;obtain⟨n8,rfl,rfl⟩:=dg ew O;obtain⟨n9,rfl,rfl⟩:=dg ew P;obtain⟨X,rfl,rfl⟩:=dg ew C;obtain⟨Y,rfl,rfl⟩:=dg ew D;obtain⟨Z,rfl,rfl⟩:=dg ew E;obtain⟨aa,rfl,rfl⟩:=dg ew F;obtain⟨ab,rfl,rfl⟩:=dg ew G;obtain⟨ad,rfl,rfl⟩:=dg ew H;simp[Rows.laid_henkan_crc_quarter] at y;obtain⟨⟨rfl,rfl,rfl,rfl,rfl,rfl,rfl,rfl,rfl,rfl,rfl,rfl,rfl,rfl,rfl,rfl⟩,_⟩:=y;rfl
  ·cases a
theorem q7(h:laidMet aE laidQ W):cU W:=by
 have a:=tQ h;unfold World.var? at a;rw[Fr] at a;simp only[Option.bind_some] at a;split at a
 ·rename_i c t d b;obtain rfl:=Option.some.inj a;exact⟨_,_,b⟩
 ·cases a
theorem wE(h:laidMet aE laidQ W):eB W /\ 4 <= W.heap.size:=by
 have a:=Lib.laidMet.reads h (.tail _ (.tail _ (.head _)));have b:=Lib.laidMet.reads h (.tail _ (.head _));rw[D8] at a;rw[Cn] at b;have c:eB W:=utf8Tabs_of_readsT (U8Types.of196 Tryz.laysValid) ⟨by kernel_rfl,by kernel_rfl,by kernel_rfl,by kernel_rfl,by kernel_rfl,by kernel_rfl,by kernel_rfl⟩ a b;refine⟨c,?_⟩;have d:=(c.2 0 (by decide)).1;have e:Tryz.laysValid_ren.g 4=3:=by decide
 rw[e] at d;have k:W.heap[3]?≠none:=λf=>by simp[World.cell?,f] at d
 have:=Array.getElem?_eq_none_iff (xs:=W.heap) (i:=3)
 by_cases j:W.heap.size <= 3
 ·exact absurd (this.2 j) k
 ·omega
def iF(w:World):Prop:=cU w /\ eB w /\ 4 <= w.heap.size
theorem all_of_laid(h:laidMet aE laidQ W):iF W:=⟨q7 h,wE h⟩
theorem iF.below(h:iF W)(a:Kpt W w'):iF w':=
 ⟨h.1.keep (a.block 0 (by have:=h.2.2;omega)),bR h.2.1 h.2.2 a,au h.2.2 a.size⟩
noncomputable def laidWorld(f:Os):World:=
 let w0:=World.holding aE f ⟨#[],#[],[]⟩
 let put (h:Array Obj) (g:Nat) (a:Array Value):Array Obj:=h.modify g λ
  |.cells _ t b=>.cells a t b
  |o=>o
 let c:=put w0.heap 0 iz.toArray
 let d:=put c (Tryz.laysValid_ren.g 3) (Lib.firstTab.map λz=>Value.int .u8 z).toArray
 let e:=put d (Tryz.laysValid_ren.g 4) ((List.range 16).flatMap λi=>[Value.int .u8 (Lib.accLo i),Value.int .u8 (Lib.accHi i)]).toArray
 { w0 with heap:=e }
theorem laidWorld_met(b:Os)(a:Array Value):laidMet aE laidQ ((laidWorld b).forCall (λ_ _=>0) ⟨#[],a,[]⟩).memory:=
 (LaidIn.of_run (l:=laidQ) [0,Tryz.laysValid_ren.g 4,Tryz.laysValid_ren.g 3] 8 (by kernel_rfl) (by kernel_rfl) (by kernel_rfl) (by kernel_rfl)).met
end
section
open Go.Lib
attribute [local go_sem] opC upC
def UX(w:World)(a d u:Nat)(M:MD)(U:MU):Prop:=∃b,b.K.d=d /\ 3<a /\ a <= w.heap.size /\ (∀q,b.all q -> a <= q) /\ a <= u /\ UAt w b u M U
def DX4(w:World)(a d:Nat)(M:MD):Prop:=∃K:DK,K.d=d /\ 3<a /\ a <= w.heap.size /\ (∀b,K.foot b -> a <= b) /\ bM w K M
theorem UX.keep{w w':World}{b d u:Nat}{M:MD}{U:MU}(h:UX w b d u M U)(a:Kpt w w'):UX w' b d u M U:=by
 obtain⟨k,c,e,f,g,i,j⟩:=h;exact⟨k,c,e,au f a.size,g,i,j.keep a⟩
theorem DX4.keep{w w':World}{b d:Nat}(h:DX4 w b d N)(a:Kpt w w'):DX4 w' b d N:=by
 obtain⟨j,c,e,f,g,i⟩:=h;exact⟨j,c,e,au f a.size,g,i.kept a⟩
theorem UX.disk{w:World}{a d u:Nat}{M:MD}{U:MU}(h:UX w a d u M U):DX4 w a d M:=by
 obtain⟨k,c,e,f,g,l,i⟩:=h;exact⟨k.K,c,e,f,λb j=>g b (.inr (.inl j)),i.jat.disk⟩
theorem UX.lo{w:World}{a d u:Nat}{M:MD}{U:MU}(h:UX w a d u M U):3<a /\ a <= w.heap.size:=by
 obtain⟨j,e,b,c,f,g,i⟩:=h;exact⟨b,c⟩
theorem DX4.lo{w:World}{a d:Nat}{M:MD}(h:DX4 w a d M):3<a /\ a <= w.heap.size:=by
 obtain⟨i,e,b,c,f,g⟩:=h;exact⟨b,c⟩
theorem iF.low(h:iF W)(c:3<i)(b:Below i W w'):iF w':=
 ⟨h.1.keep (b.block 0 (by omega)),h.2.1.keep (λa d=>b.cell (p:=a) (by omega)),au h.2.2 b.size⟩
theorem dZ.ux{b:JK}{r:MD×MU×Int}{e:Ending}(h:dZ W b o r e w')(k:b.K.d=j)(l:3<i)(c:i <= W.heap.size)(f:∀q,b.all q -> i <= q)(m:i <= o):
 e=.returned (.int .i64 r.2.2) /\ UX w' i j o r.1 r.2.1 /\ Below i W w':=by
 obtain⟨rfl,n,x,p,s,t,v⟩:=h
 have g:Below i W w':=v.below (λq a=>by
  rcases a with a|a
  ·exact f q a
  ·omega) c
 refine⟨rfl,⟨n,by rw[p,k],l,au c g.size,λq a=>?_,m,s⟩,g⟩;rcases t q a with h|h
 ·exact f q h
 ·omega
theorem E4(a:iF w)(c d u:Nat)(M:MD)(U:MU)(h:UX w c d u M U)(q:U.dev<8)(x:aV U.m=true)(F:aQ)(b:Value)(l:List bQ)(s:Rows F w 1 b l.length (l.map Go.Proofs.encStr))(t:l.length <= 1000)(r:∀k∈l,k.length <= 1000)(y:M.writes+200000<4611686018427387904):
 Calls aE 23 #[.pointer (some ⟨u,0,none⟩),b] w λe f=>e=.returned (.int .i64 (lB M U l).2.2) /\ UX f c d u (lB M U l).1 (lB M U l).2.1 /\ Below c w f:=by
 obtain⟨z,g,i,j,n,o,p⟩:=h;refine(changes.1 w a.2.1 a.2.2 a.1 z u M U p q x F b l s t r y).mono ?_;intro e f v;exact v.ux g i j n o
theorem FV(a:iF w)(c d u:Nat)(M:MD)(U:MU)(h:UX w c d u M U)(q:U.dev<8)(x:aV U.m=true)(F:aQ)(b:Value)(l:List bQ)(s:Rows F w 1 b l.length (l.map Go.Proofs.encStr))(t:l.length <= 1000)(r:∀k∈l,k.length <= 1000)(y:M.writes+200000<4611686018427387904):
 Calls aE 40 #[.pointer (some ⟨u,0,none⟩),b] w λe f=>e=.returned (.int .i64 (oT M U l).2.2) /\ UX f c d u (oT M U l).1 (oT M U l).2.1 /\ Below c w f:=by
 obtain⟨z,g,i,j,n,o,p⟩:=h;refine(changes.2 w a.2.1 a.2.2 a.1 z u M U p q x F b l s t r y).mono ?_;intro e f v;exact v.ux g i j n o
theorem D9(e d u:Nat)(M:MD)(U:MU)(h:UX w e d u M U)(b:aV U.m=true):
 Calls aE 19 #[.pointer (some ⟨u,0,none⟩)] w (A5 w U.m):=by
 obtain⟨c,f,g,i,j,k,a⟩:=h;exact yr w c u M U a b
theorem yN(c d u:Nat)(M:MD)(U:MU)(h:UX w c d u M U):
 Calls aE 17 #[.pointer (some ⟨u,0,none⟩)] w λe f=>e=.returned (.int .i64 (U.dev:Int)) /\ w=f:=by
 obtain⟨b,g,i,j,k,l,a⟩:=h;exact sW w b u M U a
def Gn(w:World)(b d:Nat)(M:MD)(r:MU ⊕ Int)(e:Ending)(a:World):Prop:=(match r with
 |.inr c=>e=.returned (.tuple #[.pointer none,.int .i64 c])
 |.inl U=>∃u,e=.returned (.tuple #[.pointer (some ⟨u,0,none⟩),.int .i64 0]) /\ UX a b d u M U) /\ Kpt w a
theorem E5(g:iF w)(l d:Nat)(M:MD)(h:DX4 w l d M):Calls aE 16 #[.pointer (some ⟨d,0,none⟩)] w (Gn w l d M (eZ M)):=by
 obtain⟨K,rfl,i,r,j,s⟩:=h;refine(uS w g.2.1 g.2.2 g.1 K M s λb a=>aw i (j b a)).mono ?_;rintro e y ⟨f,a⟩;refine⟨?_,a⟩;cases k:eZ M with
 |inr c=>rw[k] at f;exact f
 |inl U=>
  rw[k] at f;obtain⟨u,v,m,n,o,p,x⟩:=f;refine⟨u,m,v,n,i,au r a.size,λq t=>?_,by omega,o⟩;rcases p q t with h|h
  ·exact j q h
  ·omega
theorem FW(j:iF w)(f d:Nat)(M:MD)(h:DX4 w f d M)(s:8 <= M.S.length)(z:M.writes+200000<4611686018427387904)(a:Nat)(v:a<8)(x:(cJ M).2=0)(t:(gY M a).2.2=0):
 Calls aE 12 #[.pointer (some ⟨d,0,none⟩),.int .i64 (a:Int)] w λe g=>∃u,e=.returned (.tuple #[.pointer (some ⟨u,0,none⟩),.int .i64 0]) /\ UX g f d u (gY M a).1 (gY M a).2.1 /\ Below f w g:=by
 obtain⟨K,rfl,k,l,i,r⟩:=h;refine(qO w j.2.1 j.2.2 j.1 K M r s (λb c=>aw k (i b c)) z a v x t).mono ?_;rintro e g ⟨u,A,rfl,m,n,o,B,p⟩;have c:Below f w g:=p.below i l;refine⟨u,rfl,⟨A,m,k,au l c.size,λq y=>?_,by omega,n⟩,c⟩;rcases o q y with h|h
 ·exact i q h
 ·omega
theorem Gp(i:4 <= w.heap.size)(n:Nat)(c:0<n)(f:n <= 65536):
 Calls aE 11 #[.int .i64 (n:Int)] w λe a=>∃d,e=.returned (.tuple #[.pointer (some ⟨d,0,none⟩),.int .i64 0]) /\ DX4 a w.heap.size d (MD.fresh n) /\ Kpt w a:=by
 refine(Dj w n c f).mono ?_;rintro e a ⟨K,rfl,g,b,h⟩;exact⟨K.d,rfl,⟨K,rfl,by omega,b.size,h,g⟩,b⟩
end
end Go.Proofs.YtobjdpngnfbicaaGreatDoor
