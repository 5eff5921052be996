/-
  RRef6 UMem J10 J11
-/
import Derived.Test.YtobjdpngnfbicaaGreatDoorZO12
open Go.Lib renaming hid->ae
open Go.IntWalk renaming i64_in->af,u32_in->aj
open Nat renaming le_refl->aq,le_trans->au
open List renaming length_append->aA,getElem_mem->aC
open Go.Proofs.Tryz renaming prog->aE
set_option maxHeartbeats 8000000
set_option maxRecDepth 100000
set_option linter.all false
namespace Go.Proofs.YtobjdpngnfbicaaGreatDoor
open Go.RowKit
open Tryz
variable(w:World){W w':World}{u:Value}{i j o:Nat}{l:List UInt8}{L:List Value}{r:aU}{N:MD}{t:TypeId}
section
attribute [local go_sem ↓] aV
attribute [local go_sem] opC upC told bG br bH bt bw bI bJ
theorem wP{e c:TypeId}{k d n f:Nat}{v a:Value}{s g:List Value}(h:W.ownsRow j c d a f g)(r:∀q,a.ownBlock=some q -> q<i)(p:W.ownsRow i e k v n s)(o:W.grownBy w' v.ownBlock):w'.ownsRow j c d a f g:=by
 refine h.kept o ?_;cases l:a.ownBlock with
 |none=>exact .inl rfl
 |some b=>
  refine .inr fun m=>?_
  have t:=(p.lt b m.symm).1;have u:=r b l;omega
theorem Dr{α:Type}{a:α -> RPl}{l:List α}{x y:α}(h:y∈dK a l x):y=x \/ y∈l:=by
 unfold dK at h;rw[List.mem_append,List.mem_cons] at h;rcases h with h|h|h
 ·exact .inr (List.takeWhile_sublist _ |>.subset h)
 ·exact .inl h
 ·exact .inr (List.dropWhile_sublist _ |>.subset (List.mem_filter.1 h).1)
theorem rD{α:Type}{b:α -> RPl}:∀(a l:List α){y:α},y∈a.foldl (dK b) l -> y∈a \/ y∈l
 |[],l,y,h=>.inr h
 |x::a,l,y,h=>by
  rcases rD a _ h with h|h
  ·exact .inl (List.mem_cons_of_mem _ h)
  ·rcases Dr h with rfl|h
   ·exact .inl List.mem_cons_self
   ·exact .inr h
def gO(a:aU)(l:List RGo):List RGo:=(l.filter fun g=>decide (a.buried g.pl<g.seq)).foldl (dK RGo.pl) a.gone
def l9(a:aU)(x:RIt):Bool:=match dh RIt.pl a.items x.pl with|some y=>decide (y.seq<x.seq \/ (x.seq=y.seq /\ y.val<x.val))|none=>true
def ku(a:aU)(l:List RIt):List RIt:=(l.filter (l9 a)).foldl (dK RIt.pl) a.items
theorem yF{a:aU}{l:List RGo}(h:i<l.length)(b:a.buried l[i].pl<l[i].seq):gO a (l.take (i+1))=dK RGo.pl (gO a (l.take i)) l[i]:=by
 unfold gO;rw[ge _ l i h,if_pos (by simpa using b),List.foldl_append];rfl
theorem Av{a:aU}{l:List RGo}(h:i<l.length)(b:¬a.buried l[i].pl<l[i].seq):gO a (l.take (i+1))=gO a (l.take i):=by
 unfold gO;rw[ge _ l i h,if_neg (by simpa using b),List.append_nil]
theorem rE{a:aU}{l:List RIt}(h:i<l.length)(b:l9 a l[i]=true):ku a (l.take (i+1))=dK RIt.pl (ku a (l.take i)) l[i]:=by
 unfold ku;rw[ge _ l i h,if_pos b,List.foldl_append];rfl
theorem zA{a:aU}{l:List RIt}(h:i<l.length)(b:l9 a l[i]=false):ku a (l.take (i+1))=ku a (l.take i):=by
 unfold ku;rw[ge _ l i h,if_neg (by rw[b];exact Bool.false_ne_true),List.append_nil]
theorem B8{l:List RIt}{x:RIt}(h:x∈ku r l):x∈l \/ x∈r.items:=(rD _ _ h).imp (fun h=>(List.mem_filter.1 h).1) id
theorem yG{l:List RGo}{x:RGo}(h:x∈gO r l):x∈l \/ x∈r.gone:=(rD _ _ h).imp (fun h=>(List.mem_filter.1 h).1) id
def tE(b:List Int)(a:List RGo)(x:RIt):Bool:=decide ((⟨b,[],a⟩:aU).buried x.pl<x.seq)
structure FSt(w2 wr:World)(S ob:Nat)(s1 si s3 al:Value)(zs:List Int)(cur:List RGo)(cu3 kp:List RIt):Prop where
 blk:Blk wr ob [s1,si,s3] 75
 seen:wr.ownsRow w2.heap.size 3 1 s1 zs.length (zs.map eI)
 gone:wr.ownsRow w2.heap.size 130 3 s3 cur.length (cur.flatMap dC)
 all:wr.ownsRow w2.heap.size 129 4 al cu3.length (cu3.flatMap bU)
 new:wr.ownsRow S 129 4 si kp.length (kp.flatMap bU)
 bel:Below w2.heap.size w2 wr
 sle:w2.heap.size <= S
 sle2:S <= wr.heap.size
theorem FSt.below{l wr w':World}{f k g b:Value}{m:List Int}{d:List RGo}{c e:List RIt}(h:FSt l wr i j f k g b m d c e)(a:Below wr.heap.size wr w'):FSt l w' i j f k g b m d c e:=
 ⟨h.blk.keep (a.block _ h.blk.lt),bm h.seen a,bm h.gone a,bm h.all a,bm h.new a,h.bel.trans (a.mono h.bel.size),h.sle,au h.sle2 a.size⟩
theorem yH(F G:aX)(va vb:Value)(a b:aU)(ha:dl F w va a)(U:dl G w vb b)(eM:∀x∈a.items,x.key.length <= 1000000000)(eL:∀x∈a.gone,x.key.length <= 1000000000)(eO:∀x∈b.items,x.key.length <= 1000000000)(eN:∀x∈b.gone,x.key.length <= 1000000000):
 Calls aE 125 #[va,vb] w (ru w (dN a b)):=by
 replace ha:=ha.mono (G:=fun q=>q<w.heap.size) fun q _ aT=>aT
 replace U:=U.mono (G:=fun q=>q<w.heap.size) fun q _ aT=>aT
 replace ha:=o6 ha 75
 obtain⟨bk,bt,bl,bu,bn,bv,en,rfl,eB,ct,dD,eE,dA⟩:=ha
 replace U:dl (fun q=>q<w.heap.size) en vb b:=U.keep (w':=en) fun q _ aT=>ct.out.block q aT
 replace U:=o6 U 75
 obtain⟨cy,cl,cz,cN,cA,cO,cP,rfl,eC,dw,eH,eF,eu⟩:=U;obtain⟨d,bT⟩:=aQ (cP.alloc (.cells #[.slice none 0 0,.slice none 0 0,.slice none 0 0] 75));have dj:cP.heap.size=w.heap.size+2:=by rw[eH.out,dD.out]
 have ej:d.heap.size=w.heap.size+3:=by rw[bT];simp[dj]
 have bJ:Below w.heap.size w cP:=ct.out.trans (dw.out.mono ct.out.size);have dO:Below w.heap.size w d:=by rw[bT];exact bJ.alloc bJ.size _
 have ka:Blk d w.heap.size [.slice bk a.seen.length bt,.slice bl a.items.length bu,.slice bn a.gone.length bv] 75:=by rw[bT];exact(dA.out.keep (dw.out.block _ dA.out.lt)).alloc _
 have kb:Blk d (w.heap.size+1) [.slice cy b.seen.length cl,.slice cz b.items.length cN,.slice cA b.gone.length cO] 75:=by
  have:=eu.out;rw[dD.out] at this;rw[bT];exact this.alloc _
 have C:Blk d (w.heap.size+1+1) [.slice none 0 0,.slice none 0 0,.slice none 0 0] 75:=by
  have:=Blk.new cP #[.slice none 0 0,.slice none 0 0,.slice none 0 0] 75;rw[<- bT,dj] at this;exact this
 have dM:=eE.out;have bc:=eF.out
 have HR:=ae (show ∀W,Below d.heap.size d W -> Below w.heap.size w W /\ Blk W w.heap.size [.slice bk a.seen.length bt,.slice bl a.items.length bu,.slice bn a.gone.length bv] 75 /\ Blk W (w.heap.size+1) [.slice cy b.seen.length cl,.slice cz b.items.length cN,.slice cA b.gone.length cO] 75 /\ Blk W (w.heap.size+1+1) [.slice none 0 0,.slice none 0 0,.slice none 0 0] 75 /\ cG (fun q=>q<w.heap.size) W (.slice bk a.seen.length bt) (.slice bl a.items.length bu) (.slice bn a.gone.length bv) a /\ cG (fun q=>q<w.heap.size) W (.slice cy b.seen.length cl) (.slice cz b.items.length cN) (.slice cA b.gone.length cO) b from fun W hW=>by
  have hB:Below w.heap.size w W:=dO.trans (hW.mono (by omega))
  exact⟨hB,ka.keep (hW.block _ ka.lt),kb.keep (hW.block _ kb.lt),C.keep (hW.block _ C.lt),dM.keep (w':=W) fun q hq _=>(hB.block q hq).trans (ct.out.block q hq).symm,bc.keep (w':=W) fun q hq _=>(hB.block q hq).trans (bJ.block q hq).symm⟩)
 have cQ:=ae (gY d _ (.agg #[.slice bk a.seen.length bt,.slice bl a.items.length bu,.slice bn a.gone.length bv]) a ⟨_,_,_,rfl,(HR.out d (Below.refl _ _)).2.2.2.2.1⟩ eM eL);have ex:=ae bT;have eG:=ae ej;obtain⟨c0,c1,c2⟩:=aS ka;obtain⟨e6,df⟩:=aH (bp a);rw[df] at cQ;have b9:=ae df;clear bT dj ej bJ dO ka kb C dM bc df
 go_enter func125,ntmps125
 go_wp2_with fail;rw[<- eB.out,<- eC.out,<- ex.out];refine cQ.out.mono ?_;rintro e w3 ⟨rfl,bH⟩;clear cQ c0 c1 c2;cases e6 with
 |false=>
  have Hu:=ae (show dN a b=(.empty,5) by unfold dN;rw[b9.out];rfl);have C:=(HR.out w3 bH).2.2.2.1;have b0:=(HR.out w3 bH).1;clear bH;obtain⟨wf,aW,a2,a1⟩:=dJ C b0 (by omega) (.slice none 0 0) (.slice none 0 0) (.slice none 0 0);obtain⟨y0,y1,y2⟩:=aS C;have z0:=C.free 0;have z1:=C.free 1;have z2:=C.free 2;have Q:=ae (aS a2);have bz:=ae a1;have bC:=ae aW;clear aW a2 a1;go_wp2_with fail;rw[<- bC.out];obtain⟨q0,q1,q2⟩:=Q.out;exact bodyPost_ret (v:=.tuple #[.agg #[.slice none 0 0,.slice none 0 0,.slice none 0 0],.int .i64 5]) (by simp[results,results125,go_sem,q0,q1,q2]) rfl ⟨_,by rw[Hu.out],by rw[Hu.out];exact fF _ _,bz.out⟩
 |true=>
  have cR:=ae (gY w3 _ (.agg #[.slice cy b.seen.length cl,.slice cz b.items.length cN,.slice cA b.gone.length cO]) b ⟨_,_,_,rfl,(HR.out w3 bH).2.2.2.2.2⟩ eO eN);obtain⟨e7,dg⟩:=aH (bp b);rw[dg] at cR;have cx:=ae dg;obtain⟨d0,d1,d2⟩:=aS (HR.out w3 bH).2.2.1;have ds:=ae bH;clear dg bH;go_wp2_with fail;refine cR.out.mono ?_;rintro e w4 ⟨rfl,dQ⟩;have bE:Below d.heap.size d w4:=ds.out.trans (dQ.mono ds.out.size);clear cR d0 d1 d2 dQ;cases e7 with
  |false=>
   have Hu:=ae (show dN a b=(.empty,5) by unfold dN;rw[b9.out,cx.out];rfl);have C:=(HR.out w4 bE).2.2.2.1;have b0:=(HR.out w4 bE).1;clear bE;obtain⟨wf,aW,a2,a1⟩:=dJ C b0 (by omega) (.slice none 0 0) (.slice none 0 0) (.slice none 0 0);obtain⟨y0,y1,y2⟩:=aS C;have z0:=C.free 0;have z1:=C.free 1;have z2:=C.free 2;have Q:=ae (aS a2);have bz:=ae a1;have bC:=ae aW;clear aW a2 a1;go_wp2_with fail;rw[<- bC.out];obtain⟨q0,q1,q2⟩:=Q.out;exact bodyPost_ret (v:=.tuple #[.agg #[.slice none 0 0,.slice none 0 0,.slice none 0 0],.int .i64 5]) (by simp[results,results125,go_sem,q0,q1,q2]) rfl ⟨_,by rw[Hu.out],by rw[Hu.out];exact fF _ _,bz.out⟩
  |true=>
   have fa:=cq b9.out;have fb:=cq cx.out;have ed:=je b9.out;have ee:=je cx.out;have dq:=ae (pq w4 _ (.agg #[.slice bk a.seen.length bt,.slice bl a.items.length bu,.slice bn a.gone.length bv]) a ⟨_,_,_,rfl,(HR.out w4 bE).2.2.2.2.1⟩ (by omega) (by omega) (by omega));obtain⟨c0,c1,c2⟩:=aS (HR.out w4 bE).2.1;have cr:=ae bE;have cw:=ae ed;have ba:=ae ee;have b4:=ae fa;have b5:=ae fb;clear bE ed ee fa fb;go_wp2_with fail;refine dq.out.mono ?_;rintro e p ⟨⟨s1,s2,s3,rfl,ho⟩,dR⟩;have cB:Below d.heap.size d p:=cr.out.trans (dR.mono cr.out.size);obtain⟨b1,z,eU⟩:=aK ho.seen;obtain⟨b2,e2,rfl⟩:=aK ho.items;obtain⟨b3,e3,rfl⟩:=aK ho.gone;subst eU
   obtain⟨g,rfl⟩:∃g,b1=some ⟨g,0,none⟩:=by
    rcases ho.seen.2 with⟨_,h0⟩|⟨g,dE,j,hv,_⟩
    ·have:=cw.out.1;omega
    ·simp at hv;exact⟨g,hv.1⟩
   obtain⟨w6,cK⟩:=aQ (p.alloc (.cells #[.slice (some ⟨g,0,none⟩) a.seen.length z,.slice b2 a.items.length e2,.slice b3 a.gone.length e3] 75));have c7:Below p.heap.size p w6:=by rw[cK];exact aI _ _
   have ec:=ho.below c7;have kO:Blk w6 p.heap.size [.slice (some ⟨g,0,none⟩) a.seen.length z,.slice b2 a.items.length e2,.slice b3 a.gone.length e3] 75:=by rw[cK];exact Blk.new _ _ _
   have dH:Below d.heap.size d w6:=cB.trans (c7.mono cB.size)
   obtain⟨dY,dZ⟩:w4.heap.size <= g /\ g<p.heap.size:=by
    rcases ho.seen.2 with⟨hh,_⟩|⟨g',dE,j,hv,U,hg,_⟩
    ·simp at hh
    ·simp at hv;obtain⟨rfl,-⟩:=hv;exact⟨U,lt_of_block hg⟩
   have eb:a.seen.length=b.seen.length:=by have:=cw.out.1;have:=ba.out.1;omega
   have eP:b.seen.length <= 1000:=by have:=ba.out.1;omega
   have H6:=ae (show Blk w6 p.heap.size [.slice (some ⟨g,0,none⟩) a.seen.length z,.slice b2 a.items.length e2,.slice b3 a.gone.length e3] 75 /\ dG w6 d.heap.size (.slice (some ⟨g,0,none⟩) a.seen.length z) (.slice b2 a.items.length e2) (.slice b3 a.gone.length e3) ⟨eo a.seen b.seen 0,a.items,a.gone⟩ /\ Below d.heap.size d w6 from⟨kO,by rw[pY];exact ec.mono cr.out.size,dH⟩);have ey:=ae cK;have Hg:=ae (And.intro (au cr.out.size dY) dZ);have bj:=ae eb;have bW:=ae (show d.heap.size <= p.heap.size from cB.size);clear dq dR cB c7 ec kO dH cK ho c0 c1 c2 dY dZ eb;go_wp2_with fail;rw[<- ey.out]
   go_loopw [7] (fun i wr=>∃k:Nat,k <= b.seen.length /\ i=.int .i64 (k:Int) /\ Blk wr p.heap.size [.slice (some ⟨g,0,none⟩) a.seen.length z,.slice b2 a.items.length e2,.slice b3 a.gone.length e3] 75 /\ dG wr d.heap.size (.slice (some ⟨g,0,none⟩) a.seen.length z) (.slice b2 a.items.length e2) (.slice b3 a.gone.length e3) ⟨eo a.seen b.seen k,a.items,a.gone⟩ /\ Below d.heap.size d wr) (fun i _=>b.seen.length-(intOf i).toNat)
   case atStart=>exact⟨0,by omega,rfl,H6.out⟩
   case round=>
    obtain⟨k,hk,rfl,kO,ho,hL⟩:=hrel;have dn:=(HR.out wr hL).2.2.1;obtain⟨d0,d1,d2⟩:=aS dn
    by_cases ao:k<b.seen.length
    ·have db:(k:Int)<(b.seen.length:Int):=by omega
     have d4:k<a.seen.length:=by have:=bj.out;omega
     have fj:(k:Int)<(a.seen.length:Int):=by omega
     obtain⟨bb,ob,rfl,-,-,hc⟩:=(HR.out wr hL).2.2.2.2.2.seen.cells (by omega);obtain⟨x,hx⟩:=aH a.seen[k];obtain⟨y,hy⟩:=aH b.seen[k];have e0:=hc k (.int .i64 y) (by simp[ao,hy])
     try simp only[Nat.mul_one] at e0
     have cH:=ho.below (Below.refl wr.heap.size wr).drew;have bs:=cH.seen;have aR:(eo a.seen b.seen k).length=a.seen.length:=lC _ _ k bj.out (by omega);dsimp only at bs;rw[aR] at bs
     have eg:wr.drew.cell? ⟨g,k,none⟩=some (.int .i64 x):=by
      rw[bs.cellAt k (by simp;omega)];simp[rC a.seen b.seen k bj.out d4,hx]
     have fg:=bs.frozenAt k;obtain⟨n,cE⟩:=bs.stored k (.int .i64 (max x y));have po:∀c,aJ wr.drew c -> c.cell? ⟨p.heap.size,0,none⟩=some (.slice (some ⟨g,0,none⟩) a.seen.length z):=fun c hh=>aZ (aS kO).1 hh
     have pg:∀c,aJ wr.drew c -> c.cell? ⟨g,k,none⟩=some (.int .i64 x):=fun c hh=>aZ (w:=wr) eg hh
     have pb:∀c,aJ wr.drew c -> c.cell? ⟨w.heap.size+1,0,none⟩=some (.slice (some ⟨bb,ob,none⟩) b.seen.length cl):=fun c hh=>aZ d0 hh
     have pe:∀c,aJ wr.drew c -> c.cell? ⟨bb,ob+k,none⟩=some (.int .i64 y):=fun c hh=>aZ e0 hh
     obtain⟨m,aV⟩:=aQ (wr.drew.setCell ⟨g,k,none⟩ (.int .i64 (max x y)));rw[<- aV] at n cE
     have an:=ae (show Blk m p.heap.size [.slice (some ⟨g,0,none⟩) a.seen.length z,.slice b2 a.items.length e2,.slice b3 a.gone.length e3] 75 /\ dG m d.heap.size (.slice (some ⟨g,0,none⟩) a.seen.length z) (.slice b2 a.items.length e2) (.slice b3 a.gone.length e3) ⟨eo a.seen b.seen (k+1),a.items,a.gone⟩ /\ Below d.heap.size d m from by
      refine⟨by rw[aV];exact(kO.drew).set_other _ (by show p.heap.size≠g;have:=Hg.out.2;omega),⟨?_,bY cH.items bs (by decide) cE,bY cH.gone bs (by decide) cE⟩,by rw[aV];exact hL.drew.setCell (by have:=Hg.out.1;show d.heap.size <= g;omega) _⟩;have h1:=pZ a.seen b.seen k bj.out d4;show m.ownsRow d.heap.size 3 1 _ (eo a.seen b.seen (k+1)).length ((eo a.seen b.seen (k+1)).map eI);rw[lC _ _ (k+1) bj.out (by omega),h1,List.map_set,hx,hy]
      exact n)
     have ez:=ae aV;clear hc hx hy cH bs aR n cE aV kO ho dn;go_wp2_with fail;refine dP aJ 15 (up 15 [515]) (by kernel_rfl) ?_;apply bM;rfl;intro c hC;go_simp;exact aF;refine cZ rfl rfl rfl (fun KK Z=>?_);go_simp;rw[show(wr.setCell ⟨g,k,none⟩ (.int .i64 (max x y))).drew=m from ez.out.symm];refine Z _ _ ?_;clear Z KK po pg eg fg pb pe d0 d1 d2 e0;go_simp;refine dt ?_;go_wp2_with fail
     go_roundw
     case rel=>exact⟨k+1,by omega,by go_num,an.out⟩
     case measure=>simp[intOf];omega
    ·have db:¬(k:Int)<(b.seen.length:Int):=by omega
     have d7:k=a.seen.length:=by have:=bj.out;omega
     have ef:eo a.seen b.seen k=List.zipWith max a.seen b.seen:=by rw[d7];exact rB _ _ bj.out
     obtain⟨H,cM⟩:=aH (List.zipWith max a.seen b.seen);have ek:H.length=a.seen.length:=by rw[<- cM];have:=bj.out;simp;omega
     rw[ef,cM] at ho;have ep:=ae hL;have eq:=ae ho;have eJ:=ae kO;have e9:=ae ek;have dC:=ae cM;clear ef d7 cM ek ho kO H6 hL dn eP;have ff:b.gone.length <= 4096:=ba.out.2.2;have fh:b.items.length <= 4096:=ba.out.2.1;go_wp2_with fail;clear d0 d1 d2
     go_loopw [8] (fun i wr=>∃k:Nat,k <= b.gone.length /\ i=.int .i64 (k:Int) /\ Below d.heap.size d wr /\ ∃sg,Blk wr p.heap.size [.slice (some ⟨g,0,none⟩) a.seen.length z,.slice b2 a.items.length e2,sg] 75 /\ dG wr d.heap.size (.slice (some ⟨g,0,none⟩) a.seen.length z) (.slice b2 a.items.length e2) sg ⟨H,a.items,gO a (b.gone.take k)⟩ /\ (gO a (b.gone.take k)).length <= 4096+k) (fun i _=>b.gone.length-(intOf i).toNat)
     case atStart=>exact⟨0,by omega,rfl,ep.out,_,eJ.out,eq.out,by have:=cw.out.2.2;exact this⟩
     case round=>
      obtain⟨k,fk,rfl,ce,sg,bF,a5,aR⟩:=hrel;generalize dW:gO a (b.gone.take k)=j at a5 aR;obtain⟨M,N,rfl⟩:=aK a5.gone;dsimp only at bF a5 aR⊢;have cv:=ae dW;have ab:=ae ce;have ak:=ae bF;have a8:=ae a5;have al:=ae aR;clear dW ce bF a5 aR;obtain⟨-,kA,kB,-,cb,bc⟩:=HR.out wr ab.out;obtain⟨d0,d1,d2⟩:=aS kB
      by_cases ao:k<b.gone.length
      ·have db:(k:Int)<(b.gone.length:Int):=by omega
       obtain⟨bi,oi,rfl,-,-,br⟩:=gn bc.gone (by omega);obtain⟨R,S,T⟩:=br k ao;obtain⟨I,da⟩:=aH b.gone[k];rw[da] at R S T;have cS:=ae da;obtain⟨B,a7⟩:=aQ (wr.alloc (.cells #[.string ⟨I.key.toArray⟩,.int .i64 I.dev,.int .i64 I.seq] 130));have cW:=ae a7;have bI:Below wr.heap.size wr B:=by rw[a7];exact aI _ _
       have kX:Blk B wr.heap.size [.string ⟨I.key.toArray⟩,.int .i64 I.dev,.int .i64 I.seq] 130:=by rw[a7];exact Blk.new _ _ _
       have bx:=ae bI;have KX:=ae kX;obtain⟨bo,bN⟩:=aH (a.buried (I.key,I.dev))
       have HF:=ae (show ∀W,Below B.heap.size B W -> Below wr.heap.size wr W /\ Blk W w.heap.size [.slice bk a.seen.length bt,.slice bl a.items.length bu,.slice bn a.gone.length bv] 75 /\ Blk W wr.heap.size [.string ⟨I.key.toArray⟩,.int .i64 I.dev,.int .i64 I.seq] 130 /\ Calls aE 186 #[.agg #[.slice bk a.seen.length bt,.slice bl a.items.length bu,.slice bn a.gone.length bv],.string ⟨I.key.toArray⟩,.int .i64 I.dev] W (fun e c=>e=.returned (.int .i64 bo) /\ Below W.heap.size W c) from fun W U=>by
        have h1:=bx.out.trans (U.mono bx.out.size);obtain⟨-,eV,-,-,eK,-⟩:=HR.out W (ab.out.trans (h1.mono ab.out.size));refine⟨h1,eV,KX.out.keep (U.block _ KX.out.lt),?_⟩;rw[<- bN]
        exact rg W _ _ a ⟨_,_,_,rfl,eK⟩ I.key I.dev)
       have dv:=ae bN;clear br da a7 bI kX kA kB cb bc bN;go_wp2_with fail;rw[<- cW.out];clear R S T d0 d1 d2;have bG:∀c,aJ B.drew c -> Below B.heap.size B c:=fun c hh=>(Below.refl B.heap.size B).drew.trans hh
       have cm:∀c,aJ B.drew c -> c.cell? ⟨wr.heap.size,0,none⟩=some (.string ⟨I.key.toArray⟩):=fun c hh=>(aS (HF.out c (bG c hh)).2.2.1).1
       have cn:∀c,aJ B.drew c -> c.cell? ⟨wr.heap.size,1,none⟩=some (.int .i64 I.dev):=fun c hh=>(aS (HF.out c (bG c hh)).2.2.1).2.1
       have co:∀c,aJ B.drew c -> c.cell? ⟨wr.heap.size,2,none⟩=some (.int .i64 I.seq):=fun c hh=>(aS (HF.out c (bG c hh)).2.2.1).2.2
       have eW:∀c,aJ B.drew c -> c.cell? ⟨w.heap.size,0,none⟩=some (.slice bk a.seen.length bt):=fun c hh=>(aS (HF.out c (bG c hh)).2.1).1
       have eX:∀c,aJ B.drew c -> c.cell? ⟨w.heap.size,1,none⟩=some (.slice bl a.items.length bu):=fun c hh=>(aS (HF.out c (bG c hh)).2.1).2.1
       have eY:∀c,aJ B.drew c -> c.cell? ⟨w.heap.size,2,none⟩=some (.slice bn a.gone.length bv):=fun c hh=>(aS (HF.out c (bG c hh)).2.1).2.2
       refine bS aJ (up 7 [507,8]) (by kernel_rfl) ?_;apply aG;rfl;intro c hC;go_simp;(repeat (simp(disch:=omega) only[af,if_pos];go_simp));exact aF;refine bq rfl rfl (fun KK Z=>?_);go_simp;refine(HF.out _ (Below.refl B.heap.size B).drew).2.2.2.mono ?_;rintro e m ⟨rfl,aa⟩;refine⟨_,rfl,aa,Z _ _ ?_⟩;have aV:Below B.heap.size B m:=(Below.refl B.heap.size B).drew.trans aa;clear Z KK cm cn co eW eX eY bG aa;go_simp;obtain⟨cL,-,em,-⟩:=HF.out m aV;have dk:=ak.out.keep (cL.block _ ak.out.lt);have d3:=a8.out.below cL;have bZ:Below d.heap.size d m:=ab.out.trans (cL.mono ab.out.size);obtain⟨J,K,L⟩:=aS dk;obtain⟨R,S,T⟩:=aS em;have cX:=ae dk;have b6:=ae d3;have cs:=ae bZ;clear aV cL em dk d3 bZ
       by_cases aT:bo<I.seq
       ·have n:=yF (a:=a) (l:=b.gone) ao (by rw[cS.out];show a.buried (I.key,I.dev)<_;rw[dv.out];exact aT);rw[cv.out,cS.out] at n;apply aG;rfl;intro c hC;go_simp;(repeat (simp(disch:=omega) only[af,if_pos];go_simp));exact aF;refine aY ?_;have hP:=tB m _ (.slice M j.length N) j I (Rows.of_owns b6.out.gone) (by have:=al.out;have:=ba.out.2.2;omega);have av:=mE RGo.pl j I;generalize bQ:dK RGo.pl j I=ax at hP av n;unfold goV at hP;have HP:=ae hP;have bB:=ae av;have an:=ae n;clear hP bQ av n;go_wp2_with fail;refine HP.out.mono ?_;rintro e w9 ⟨⟨r,rfl,ar⟩,O⟩;obtain⟨X,Y,rfl⟩:=aK ar;have t:=cX.out.keep (O.block _ cX.out.lt);clear J K L R S T;obtain⟨J,K,L⟩:=aS t;have a0:=t.free 2;obtain⟨ad,D⟩:=aQ (w9.setCell ⟨p.heap.size,2,none⟩ (.slice X ax.length Y));have ay:Below d.heap.size d w9:=cs.out.trans (O.mono cs.out.size);have bw:=ae (show Below d.heap.size d ad by rw[D];exact ay.setCell (by show d.heap.size <= p.heap.size;exact bW.out) _);have bD:=ae (show Blk ad p.heap.size [.slice (some ⟨g,0,none⟩) a.seen.length z,.slice b2 a.items.length e2,.slice X ax.length Y] 75 by rw[D];exact t.set 2 _)
        have aM:=ae (show dG ad d.heap.size (.slice (some ⟨g,0,none⟩) a.seen.length z) (.slice b2 a.items.length e2) (.slice X ax.length Y) ⟨H,a.items,gO a (b.gone.take (k+1))⟩ by
         rw[an.out];have a6:=b6.out.below O;rw[D]
         exact⟨aL a6.seen t (by decide) _,aL a6.items t (by decide) _,aL (bP ar cs.out.size) t (by decide) _⟩)
        have aN:=ae (show(gO a (b.gone.take (k+1))).length <= 4096+(k+1) by
         rw[an.out];have:=bB.out;have:=al.out
         omega)
        have bf:=ae D;clear D ay ar O t HP;go_wp2_with fail;rw[<- bf.out];clear J K L a0
        go_roundw
        case rel=>exact⟨k+1,by omega,by go_num,bw.out,_,bD.out,aM.out,aN.out⟩
        case measure=>simp[intOf];omega
       ·have n:=Av (a:=a) (l:=b.gone) ao (by rw[cS.out];show ¬a.buried (I.key,I.dev)<_;rw[dv.out];exact aT);rw[cv.out] at n;have an:=ae n;clear n;apply aG;rfl;intro c hC;go_simp;(repeat (simp(disch:=omega) only[af,if_pos];go_simp));exact aF;refine aY ?_;have aM:=ae (show dG m d.heap.size (.slice (some ⟨g,0,none⟩) a.seen.length z) (.slice b2 a.items.length e2) (.slice M j.length N) ⟨H,a.items,gO a (b.gone.take (k+1))⟩ by rw[an.out];exact b6.out);have aN:=ae (show(gO a (b.gone.take (k+1))).length <= 4096+(k+1) by rw[an.out];have:=al.out;omega);clear J K L R S T;go_wp2_with fail
        go_roundw
        case rel=>exact⟨k+1,by omega,by go_num,cs.out,_,cX.out,aM.out,aN.out⟩
        case measure=>simp[intOf];omega
      ·have db:¬(k:Int)<(b.gone.length:Int):=by omega
       have dS:gO a b.gone=j:=by
        have:=cv.out;rw[show k=b.gone.length by omega,List.take_length] at this;exact this
       have ea:j.length <= 8192:=by have:=al.out;have:=ba.out.2.2;omega
       have HG:=ae dS;have e8:=ae ea;clear dS ea cv al kA kB cb bc;go_wp2_with fail;clear d0 d1 d2
       go_loopw [10] (fun i wr=>∃k:Nat,k <= b.items.length /\ i=.int .i64 (k:Int) /\ Below d.heap.size d wr /\ ∃si,Blk wr p.heap.size [.slice (some ⟨g,0,none⟩) a.seen.length z,si,.slice M j.length N] 75 /\ dG wr d.heap.size (.slice (some ⟨g,0,none⟩) a.seen.length z) si (.slice M j.length N) ⟨H,ku a (b.items.take k),j⟩ /\ (ku a (b.items.take k)).length <= 4096+k) (fun i _=>b.items.length-(intOf i).toNat)
       case atStart=>exact⟨0,by omega,rfl,ab.out,_,ak.out,a8.out,by have:=cw.out.2.1;exact this⟩
       case round=>
        clear ab ak a8;obtain⟨A,fl,rfl,ce,si,bF,a5,aR⟩:=hrel;generalize dV:ku a (b.items.take A)=s at a5 aR;obtain⟨ai,ci,rfl⟩:=aK a5.items;dsimp only at bF a5 aR⊢;have bA:=ae dV;have ab:=ae ce;have ak:=ae bF;have a8:=ae a5;have al:=ae aR;clear dV ce bF a5 aR;obtain⟨-,kA,kB,-,cb,bc⟩:=HR.out wr ab.out;obtain⟨d0,d1,d2⟩:=aS kB
        by_cases ao:A<b.items.length
        ·have eR:(A:Int)<(b.items.length:Int):=by omega
         obtain⟨bi,oi,rfl,-,-,br⟩:=fB bc.items (by omega);obtain⟨R,S,T,x3⟩:=br A ao;obtain⟨f,bO⟩:=aH b.items[A];rw[bO] at R S T x3;have b7:=ae bO;obtain⟨B,a7⟩:=aQ (wr.alloc (.cells #[.string ⟨f.key.toArray⟩,.int .i64 f.dev,.int .i64 f.seq,.int .i64 f.val] 129));have cW:=ae a7;have bI:Below wr.heap.size wr B:=by rw[a7];exact aI _ _
         have kX:Blk B wr.heap.size [.string ⟨f.key.toArray⟩,.int .i64 f.dev,.int .i64 f.seq,.int .i64 f.val] 129:=by rw[a7];exact Blk.new _ _ _
         have bx:=ae bI;have KX:=ae kX;have el:=kA.keep (bI.block _ kA.lt);obtain⟨c0,c1,c2⟩:=aS el;rw[a7] at c0 c1 c2;obtain⟨y0,y1,y2,y3⟩:=dX kX;rw[a7] at y0 y1 y2 y3;obtain⟨-,-,-,-,dL,-⟩:=HR.out B (ab.out.trans (bI.mono ab.out.size));have HI:=ae (B6 B _ _ a ⟨_,_,_,rfl,dL⟩ f.key f.dev);obtain⟨o,ho⟩:=aH (dh RIt.pl a.items (f.key,f.dev));rw[ho] at HI;have Ho:=ae (show dh RIt.pl a.items f.pl=o from ho);clear br bO a7 bI kX kA kB cb bc el dL ho;go_wp2_with fail;rw[<- cW.out];clear R S T x3 d0 d1 d2 c0 c1 c2 y0 y1 y2 y3;cases o with
         |none=>
          have az:l9 a b.items[A]=true:=by rw[b7.out];unfold l9;rw[Ho.out]
          refine(show Calls aE _ _ B (fun e c=>e=.returned (.tuple #[.agg #[.string ⟨#[]⟩,.int .i64 0,.int .i64 0,.int .i64 0],.bool false]) /\ Below B.heap.size B c) from HI.out).mono ?_;rintro e m ⟨rfl,aa⟩;have bK:Below wr.heap.size wr m:=bx.out.trans (aa.mono bx.out.size);obtain⟨wY,aO⟩:=aQ (m.alloc (.cells #[.string ⟨#[]⟩,.int .i64 0,.int .i64 0,.int .i64 0] 129));have bh:Below wr.heap.size wr wY:=by rw[aO];exact bK.alloc bK.size _
          have kY:Blk wY m.heap.size [.string ⟨#[]⟩,.int .i64 0,.int .i64 0,.int .i64 0] 129:=by rw[aO];exact Blk.new _ _ _
          have ck:Blk wY wr.heap.size [.string ⟨f.key.toArray⟩,.int .i64 f.dev,.int .i64 f.seq,.int .i64 f.val] 129:=by rw[aO];exact(KX.out.keep (aa.block _ KX.out.lt)).alloc _
          have bV:=ak.out.keep (bh.block _ ak.out.lt);have ca:Below d.heap.size d wY:=ab.out.trans (bh.mono ab.out.size);have cf:=a8.out.below bh;obtain⟨y0,y1,y2,y3⟩:=dX kY;obtain⟨R,S,T,x3⟩:=dX ck;obtain⟨J,K,L⟩:=aS bV;rw[aO] at y0 y1 y2 y3 R S T x3 J K L;have bX:=ae aO;have bg:=ae bV;have aP:=ae ca;have bd:=ae cf;clear bK aa aO bh kY ck bV ca cf HI;have n:=rE (a:=a) (l:=b.items) ao az;rw[bA.out,b7.out] at n;have hP:=oC wY _ (.slice ai s.length ci) s f (Rows.of_owns bd.out.items) (by have:=al.out;have:=ba.out.2.1;omega);have av:=mE RIt.pl s f;generalize bQ:dK RIt.pl s f=ax at hP av n;unfold itV at hP;have HP:=ae hP;have bB:=ae av;have an:=ae n;clear hP bQ av n az;go_wp2_with fail;rw[<- bX.out];refine HP.out.mono ?_;rintro e w9 ⟨⟨r,rfl,ar⟩,O⟩;obtain⟨X,Y,rfl⟩:=aK ar;have t:=bg.out.keep (O.block _ bg.out.lt);clear J K L R S T x3 y0 y1 y2 y3;obtain⟨J,K,L⟩:=aS t;have a0:=t.free 1;obtain⟨ad,D⟩:=aQ (w9.setCell ⟨p.heap.size,1,none⟩ (.slice X ax.length Y));have ay:Below d.heap.size d w9:=aP.out.trans (O.mono aP.out.size);have bw:=ae (show Below d.heap.size d ad by rw[D];exact ay.setCell (by show d.heap.size <= p.heap.size;exact bW.out) _);have bD:=ae (show Blk ad p.heap.size [.slice (some ⟨g,0,none⟩) a.seen.length z,.slice X ax.length Y,.slice M j.length N] 75 by rw[D];exact t.set 1 _)
          have aM:=ae (show dG ad d.heap.size (.slice (some ⟨g,0,none⟩) a.seen.length z) (.slice X ax.length Y) (.slice M j.length N) ⟨H,ku a (b.items.take (A+1)),j⟩ by
           rw[an.out];have a6:=bd.out.below O;rw[D]
           exact⟨aL a6.seen t (by decide) _,aL (bP ar aP.out.size) t (by decide) _,aL a6.gone t (by decide) _⟩)
          have aN:=ae (show(ku a (b.items.take (A+1))).length <= 4096+(A+1) by
           rw[an.out];have:=bB.out;have:=al.out
           omega)
          have bf:=ae D;clear D ay ar O t HP;go_wp2_with fail;rw[<- bf.out];clear J K L a0
          go_roundw
          case rel=>exact⟨A+1,by omega,by go_num,bw.out,_,bD.out,aM.out,aN.out⟩
          case measure=>simp[intOf];omega
         |some y=>
          refine(show Calls aE _ _ B (fun e c=>e=.returned (.tuple #[.agg #[.string ⟨y.key.toArray⟩,.int .i64 y.dev,.int .i64 y.seq,.int .i64 y.val],.bool true]) /\ Below B.heap.size B c) from HI.out).mono ?_;rintro e m ⟨rfl,aa⟩;have bK:Below wr.heap.size wr m:=bx.out.trans (aa.mono bx.out.size);obtain⟨wY,aO⟩:=aQ (m.alloc (.cells #[.string ⟨y.key.toArray⟩,.int .i64 y.dev,.int .i64 y.seq,.int .i64 y.val] 129));have bh:Below wr.heap.size wr wY:=by rw[aO];exact bK.alloc bK.size _
          have kY:Blk wY m.heap.size [.string ⟨y.key.toArray⟩,.int .i64 y.dev,.int .i64 y.seq,.int .i64 y.val] 129:=by rw[aO];exact Blk.new _ _ _
          have ck:Blk wY wr.heap.size [.string ⟨f.key.toArray⟩,.int .i64 f.dev,.int .i64 f.seq,.int .i64 f.val] 129:=by rw[aO];exact(KX.out.keep (aa.block _ KX.out.lt)).alloc _
          have bV:=ak.out.keep (bh.block _ ak.out.lt);have ca:Below d.heap.size d wY:=ab.out.trans (bh.mono ab.out.size);have cf:=a8.out.below bh;obtain⟨y0,y1,y2,y3⟩:=dX kY;obtain⟨R,S,T,x3⟩:=dX ck;obtain⟨J,K,L⟩:=aS bV;rw[aO] at y0 y1 y2 y3 R S T x3 J K L;have bX:=ae aO;have bg:=ae bV;have aP:=ae ca;have bd:=ae cf;clear bK aa aO bh kY ck bV ca cf HI;have HN:=ae (show l9 a b.items[A]=decide (y.seq<f.seq \/ (f.seq=y.seq /\ y.val<f.val)) by rw[b7.out];unfold l9;rw[Ho.out])
          by_cases g1:y.seq<f.seq
          ·have az:l9 a b.items[A]=true:=by rw[HN.out];exact decide_eq_true (.inl g1)
           have n:=rE (a:=a) (l:=b.items) ao az;rw[bA.out,b7.out] at n;have hP:=oC wY _ (.slice ai s.length ci) s f (Rows.of_owns bd.out.items) (by have:=al.out;have:=ba.out.2.1;omega);have av:=mE RIt.pl s f;generalize bQ:dK RIt.pl s f=ax at hP av n;unfold itV at hP;have HP:=ae hP;have bB:=ae av;have an:=ae n;clear hP bQ av n az;go_wp2_with fail;rw[<- bX.out];refine HP.out.mono ?_;rintro e w9 ⟨⟨r,rfl,ar⟩,O⟩;obtain⟨X,Y,rfl⟩:=aK ar;have t:=bg.out.keep (O.block _ bg.out.lt);clear J K L R S T x3 y0 y1 y2 y3;obtain⟨J,K,L⟩:=aS t;have a0:=t.free 1;obtain⟨ad,D⟩:=aQ (w9.setCell ⟨p.heap.size,1,none⟩ (.slice X ax.length Y));have ay:Below d.heap.size d w9:=aP.out.trans (O.mono aP.out.size);have bw:=ae (show Below d.heap.size d ad by rw[D];exact ay.setCell (by show d.heap.size <= p.heap.size;exact bW.out) _);have bD:=ae (show Blk ad p.heap.size [.slice (some ⟨g,0,none⟩) a.seen.length z,.slice X ax.length Y,.slice M j.length N] 75 by rw[D];exact t.set 1 _)
           have aM:=ae (show dG ad d.heap.size (.slice (some ⟨g,0,none⟩) a.seen.length z) (.slice X ax.length Y) (.slice M j.length N) ⟨H,ku a (b.items.take (A+1)),j⟩ by
            rw[an.out];have a6:=bd.out.below O;rw[D]
            exact⟨aL a6.seen t (by decide) _,aL (bP ar aP.out.size) t (by decide) _,aL a6.gone t (by decide) _⟩)
           have aN:=ae (show(ku a (b.items.take (A+1))).length <= 4096+(A+1) by
            rw[an.out];have:=bB.out;have:=al.out
            omega)
           have bf:=ae D;clear D ay ar O t HP;go_wp2_with fail;rw[<- bf.out];clear J K L a0
           go_roundw
           case rel=>exact⟨A+1,by omega,by go_num,bw.out,_,bD.out,aM.out,aN.out⟩
           case measure=>simp[intOf];omega
          ·by_cases g2:f.seq=y.seq
           ·by_cases g3:y.val<f.val
            ·have az:l9 a b.items[A]=true:=by rw[HN.out];exact decide_eq_true (.inr ⟨g2,g3⟩)
             have dF:(f.seq == y.seq)=true:=by simpa using g2
             clear g2;have n:=rE (a:=a) (l:=b.items) ao az;rw[bA.out,b7.out] at n;have hP:=oC wY _ (.slice ai s.length ci) s f (Rows.of_owns bd.out.items) (by have:=al.out;have:=ba.out.2.1;omega);have av:=mE RIt.pl s f;generalize bQ:dK RIt.pl s f=ax at hP av n;unfold itV at hP;have HP:=ae hP;have bB:=ae av;have an:=ae n;clear hP bQ av n az;go_wp2_with fail;rw[<- bX.out];refine HP.out.mono ?_;rintro e w9 ⟨⟨r,rfl,ar⟩,O⟩;obtain⟨X,Y,rfl⟩:=aK ar;have t:=bg.out.keep (O.block _ bg.out.lt);clear J K L R S T x3 y0 y1 y2 y3;obtain⟨J,K,L⟩:=aS t;have a0:=t.free 1;obtain⟨ad,D⟩:=aQ (w9.setCell ⟨p.heap.size,1,none⟩ (.slice X ax.length Y));have ay:Below d.heap.size d w9:=aP.out.trans (O.mono aP.out.size);have bw:=ae (show Below d.heap.size d ad by rw[D];exact ay.setCell (by show d.heap.size <= p.heap.size;exact bW.out) _);have bD:=ae (show Blk ad p.heap.size [.slice (some ⟨g,0,none⟩) a.seen.length z,.slice X ax.length Y,.slice M j.length N] 75 by rw[D];exact t.set 1 _)
             have aM:=ae (show dG ad d.heap.size (.slice (some ⟨g,0,none⟩) a.seen.length z) (.slice X ax.length Y) (.slice M j.length N) ⟨H,ku a (b.items.take (A+1)),j⟩ by
              rw[an.out];have a6:=bd.out.below O;rw[D]
              exact⟨aL a6.seen t (by decide) _,aL (bP ar aP.out.size) t (by decide) _,aL a6.gone t (by decide) _⟩)
             have aN:=ae (show(ku a (b.items.take (A+1))).length <= 4096+(A+1) by
              rw[an.out];have:=bB.out;have:=al.out
              omega)
             have bf:=ae D;clear D ay ar O t HP;go_wp2_with fail;rw[<- bf.out];clear J K L a0
             go_roundw
             case rel=>exact⟨A+1,by omega,by go_num,bw.out,_,bD.out,aM.out,aN.out⟩
             case measure=>simp[intOf];omega
            ·have az:l9 a b.items[A]=false:=by rw[HN.out];exact decide_eq_false fun h=>h.elim g1 fun h=>g3 h.2
             have dF:(f.seq == y.seq)=true:=by simpa using g2
             clear g2;have n:=zA (a:=a) (l:=b.items) ao az;rw[bA.out] at n;have aM:=ae (show dG wY d.heap.size (.slice (some ⟨g,0,none⟩) a.seen.length z) (.slice ai s.length ci) (.slice M j.length N) ⟨H,ku a (b.items.take (A+1)),j⟩ by rw[n];exact bd.out);have aN:=ae (show(ku a (b.items.take (A+1))).length <= 4096+(A+1) by rw[n];have:=al.out;omega);clear n az;go_wp2_with fail;rw[<- bX.out];clear J K L R S T x3 y0 y1 y2 y3
             go_roundw
             case rel=>exact⟨A+1,by omega,by go_num,aP.out,_,bg.out,aM.out,aN.out⟩
             case measure=>simp[intOf];omega
           ·have az:l9 a b.items[A]=false:=by rw[HN.out];exact decide_eq_false fun h=>h.elim g1 fun h=>g2 h.1
            have dF:(f.seq == y.seq)=false:=by simpa using g2
            clear g2;have n:=zA (a:=a) (l:=b.items) ao az;rw[bA.out] at n;have aM:=ae (show dG wY d.heap.size (.slice (some ⟨g,0,none⟩) a.seen.length z) (.slice ai s.length ci) (.slice M j.length N) ⟨H,ku a (b.items.take (A+1)),j⟩ by rw[n];exact bd.out);have aN:=ae (show(ku a (b.items.take (A+1))).length <= 4096+(A+1) by rw[n];have:=al.out;omega);clear n az;go_wp2_with fail;rw[<- bX.out];clear J K L R S T x3 y0 y1 y2 y3
            go_roundw
            case rel=>exact⟨A+1,by omega,by go_num,aP.out,_,bg.out,aM.out,aN.out⟩
            case measure=>simp[intOf];omega
        ·have eR:¬(A:Int)<(b.items.length:Int):=by omega
         have c6:ku a b.items=s:=by
          have:=bA.out;rw[show A=b.items.length by omega,List.take_length] at this;exact this
         have d9:s.length <= 8192:=by have:=al.out;have:=ba.out.2.1;omega
         obtain⟨J,K,L⟩:=aS ak.out;have a0:=ak.out.free 1;obtain⟨V,ch⟩:=aQ (wr.setCell ⟨p.heap.size,1,none⟩ (.slice none 0 0));have dm:Blk V p.heap.size [.slice (some ⟨g,0,none⟩) a.seen.length z,.slice none 0 0,.slice M j.length N] 75:=by rw[ch];exact ak.out.set 1 _
         have cY:Below d.heap.size d V:=by rw[ch];exact ab.out.setCell (by show d.heap.size <= p.heap.size;exact bW.out) _
         have cJ:=aL (i:=1) a8.out.seen ak.out (by decide) (.slice none 0 0);have cd:=aL (i:=1) a8.out.items ak.out (by decide) (.slice none 0 0);have cD:=aL (i:=1) a8.out.gone ak.out (by decide) (.slice none 0 0);dsimp only at cJ cd cD;rw[<- ch] at cJ cd cD;have dB:=ae (fun q hq=>(cd.lt q hq).2);have HS:=ae (show FSt d V V.heap.size p.heap.size (.slice (some ⟨g,0,none⟩) a.seen.length z) (.slice none 0 0) (.slice M j.length N) (.slice ai s.length ci) H j s [] from⟨dm,cJ,cD,cd,World.ownsRow_nil _ _ _ _,cY,cY.size,aq _⟩)
         have HB:=ae (show ∀l:List RIt,(∀x∈l,x∈s) -> Bnd ⟨H,l,j⟩ from fun l hl=>⟨by
          have:=(fD (i8 a b b4.out b5.out)).seenB;rw[<- dC.out];exact this,fun x hx=>by
          have:=hl x hx;rw[<- c6] at this;exact(B8 this).elim ((fD b5.out).itemsB x) ((fD b4.out).itemsB x),fun x hx=>by
          dsimp only at hx;rw[<- HG.out] at hx
          exact(yG hx).elim ((fD b5.out).goneB x) ((fD b4.out).goneB x)⟩)
         have er:=ae c6;have cT:=ae d9;have eA:=ae ch;have ev:=ae (show p.heap.size<V.heap.size from dm.lt);clear c6 d9 ch dm cY cJ cd cD kA kB cb bc bA al;go_wp2_with fail;rw[<- eA.out];clear d0 d1 d2 J K L a0
         go_loopw [15] (fun i wr=>∃(k:Nat)(si:Value),k <= s.length /\ i=.int .i64 (k:Int) /\ FSt d wr V.heap.size p.heap.size (.slice (some ⟨g,0,none⟩) a.seen.length z) si (.slice M j.length N) (.slice ai s.length ci) H j s ((s.take k).filter (tE H j))) (fun i _=>s.length-(intOf i).toNat)
         case atStart=>exact⟨0,_,by omega,rfl,HS.out⟩
         case round=>
          clear HS ab ak a8;obtain⟨k4,si,fi,rfl,st⟩:=hrel;have fd:s.length <= 8192:=cT.out;obtain⟨a4,c4,rfl⟩:=aK st.new;generalize cF:(s.take k4).filter (tE H j)=E at st
          have d8:E.length <= k4:=by
           rw[<- cF];exact au (List.length_filter_le _ _) (by simp;omega)
          have d6:∀x∈E,x∈s:=fun x hx=>by
           rw[<- cF] at hx;exact List.mem_of_mem_take (List.mem_filter.1 hx).1
          have dz:=ae cF;have dy:=ae d8;have St:=ae st;have dx:=ae d6;clear cF d8 st d6
          by_cases ao:k4<s.length
          ·have eS:(k4:Int)<(s.length:Int):=by omega
           obtain⟨ga,rfl⟩:∃ga,ai=some ⟨ga,0,none⟩:=by
            rcases St.out.all.2 with⟨hh,_⟩|⟨g',dE,fc,hv,U,hg,_⟩
            ·simp at hh;omega
            ·simp at hv;exact⟨g',hv.1⟩
           have fe:ga<V.heap.size:=dB.out ga (by simp[Value.ownBlock]);obtain⟨b',o',bJ,-,eQ,br⟩:=fB (Rows.of_owns St.out.all) (by omega);simp at bJ;obtain⟨rfl,rfl⟩:=bJ;obtain⟨R,S,T,x3⟩:=br k4 ao;obtain⟨f,bO⟩:=aH s[k4];rw[bO] at R S T x3;simp only[Nat.zero_add] at R S T x3;obtain⟨bo,bN⟩:=aH ((⟨H,[],j⟩:aU).buried (f.key,f.dev))
           have HF:=ae (show ∀W,Below wr.heap.size wr W -> FSt d W V.heap.size p.heap.size (.slice (some ⟨g,0,none⟩) a.seen.length z) (.slice a4 E.length c4) (.slice M j.length N) (.slice (some ⟨ga,0,none⟩) s.length ci) H j s E /\ Calls aE 186 #[.agg #[.slice (some ⟨g,0,none⟩) a.seen.length z,.slice a4 E.length c4,.slice M j.length N],.string ⟨f.key.toArray⟩,.int .i64 f.dev] W (fun e c=>e=.returned (.int .i64 bo) /\ Below W.heap.size W c) from fun W U=>by
            have h1:=St.out.below U;refine⟨h1,?_⟩;rw[<- bN]
            exact rg W _ _ ⟨H,E,j⟩ ⟨_,_,_,rfl,(dG.mk h1.seen (bP h1.new h1.sle) h1.gone:dG W d.heap.size _ _ _ ⟨H,E,j⟩).map (HB.out E dx.out)⟩ f.key f.dev)
           have hf:=ge (tE H j) s k4 ao;rw[dz.out,bO] at hf;have d5:tE H j f=decide (bo<f.seq):=by rw[<- bN];rfl
           rw[d5] at hf;have cm:∀c,aJ wr.drew c -> c.cell? _=_:=fun c hh=>aZ R hh
           have cn:∀c,aJ wr.drew c -> c.cell? _=_:=fun c hh=>aZ S hh
           have co:∀c,aJ wr.drew c -> c.cell? _=_:=fun c hh=>aZ T hh
           obtain⟨c0,c1,c2⟩:=aS St.out.blk;have eZ:∀c,aJ wr.drew c -> c.cell? _=_:=fun c hh=>aZ c0 hh
           have dp:∀c,aJ wr.drew c -> c.cell? _=_:=fun c hh=>aZ c1 hh
           have e4:∀c,aJ wr.drew c -> c.cell? _=_:=fun c hh=>aZ c2 hh
           have Hf:=ae hf;clear br bO bN hf d5 c0 c1 c2;go_wp2_with fail;refine bS aJ (up 16 [516,17]) (by kernel_rfl) ?_;apply aG;rfl;intro c hC;go_simp;(repeat (simp(disch:=omega) only[af,if_pos];go_simp));exact aF;refine bq rfl rfl (fun KK Z=>?_);go_simp;refine(HF.out _ (Below.refl wr.heap.size wr).drew).2.mono ?_;rintro e m ⟨rfl,aa⟩;refine⟨_,rfl,aa,Z _ _ ?_⟩;have aV:Below wr.heap.size wr m:=(Below.refl wr.heap.size wr).drew.trans aa;clear Z KK cm cn co eZ dp e4 aa;go_simp;have ei:=(HF.out m aV).1
           have cj:∀q u,wr.cell? ⟨ga,q,none⟩=some u -> m.cell? ⟨ga,q,none⟩=some u:=fun q u h=>by
            have U:=aV.block ga eQ;unfold World.cell? at *;rw[U];exact h
           have z0:=cj _ _ R;have z1:=cj _ _ S;have z2:=cj _ _ T;have z3:=cj _ _ x3;have be:=ae ei;clear ei cj aV R S T x3 HF
           by_cases aT:bo<f.seq
           ·have hd:decide (bo<f.seq)=true:=decide_eq_true aT;have n:=Hf.out;rw[if_pos hd] at n;clear hd;apply aG;rfl;intro c hC;go_simp;(repeat (simp(disch:=omega) only[af,if_pos];go_simp));exact aF;refine aY ?_;have cc:=be.out.sle2;obtain⟨i0,t1,t2,t3,t4⟩:=info_parts ms;have c5:m.drew.ownsRow V.heap.size 129 4 (.slice a4 E.length c4) E.length (E.flatMap bU):=be.out.new;obtain⟨v5,w9,de,dd,a3⟩:=cu (P:=aE) m.drew V.heap.size 72 129 underlying72 t1 t2 t3 t4 rfl (by decide) (.slice a4 E.length c4) E.length _ c5 #[.string ⟨f.key.toArray⟩,.int .i64 f.dev,.int .i64 f.seq,.int .i64 f.val] rfl (by simp[Value.oneCell']) (by have:=dy.out;have:=cT.out;unfold maxLen;omega) (by have:=dy.out;have:=cT.out;omega) cc;obtain⟨X,Y,rfl⟩:=aK dd;have k1:bL (fun q=>V.heap.size <= q) m.drew (m.drew.alloc (.cells #[.string ⟨f.key.toArray⟩,.int .i64 f.dev,.int .i64 f.seq,.int .i64 f.val] 129)):=bL.of_below (aI _ _);have bR:=bm c5 (aI m.drew (.cells #[.string ⟨f.key.toArray⟩,.int .i64 f.dev,.int .i64 f.seq,.int .i64 f.val] 129))
            have k2:bL (fun q=>V.heap.size <= q) (m.drew.alloc (.cells #[.string ⟨f.key.toArray⟩,.int .i64 f.dev,.int .i64 f.seq,.int .i64 f.val] 129)) w9:=⟨a3.os,a3.tape,a3.output,a3.size,fun q hq hn=>a3.block q hq (fun e=>hn (bR.lt q e.symm).1)⟩
            have cp:=be.out.below (w':=m.drew.alloc (.cells #[.string ⟨f.key.toArray⟩,.int .i64 f.dev,.int .i64 f.seq,.int .i64 f.val] 129)) (((Below.refl m.heap.size m).drew).trans (aI m.drew _));have t:=cp.blk.grownNe bR (by decide) a3;have O:Below V.heap.size m w9:=((Below.refl V.heap.size m).drew.trans ((aI m.drew _).mono cc)).trans (Below.grownOwn bR a3 (au cc (aI m.drew _).size) (aq _));have ay:Below d.heap.size d w9:=be.out.bel.trans (O.mono be.out.sle);obtain⟨ad,D⟩:=aQ (w9.setCell ⟨p.heap.size,1,none⟩ (.slice X (E.length+1) Y))
            have eh:FSt d ad V.heap.size p.heap.size (.slice (some ⟨g,0,none⟩) a.seen.length z) (.slice X (E.length+1) Y) (.slice M j.length N) (.slice (some ⟨ga,0,none⟩) s.length ci) H j s ((s.take (k4+1)).filter (tE H j)):=by
             rw[n,D];refine⟨t.set 1 _,aL (bY cp.seen bR (by decide) a3) t (by decide) _,aL (bY cp.gone bR (by decide) a3) t (by decide) _,aL (wP cp.all dB.out bR a3) t (by decide) _,?_,ay.setCell (by show d.heap.size <= p.heap.size;exact bW.out) _,be.out.sle,by simpa[World.setCell] using au cc O.size⟩;rw[aA,gr];exact aL dd t (by decide) _
            have pz:∀q u,m.cell? ⟨ga,q,none⟩=some u -> ∀c,bL (fun q=>V.heap.size <= q) m.drew c -> c.cell? ⟨ga,q,none⟩=some u:=fun q u h c hh=>by
             have U:c.heap[ga]?=m.heap[ga]?:=hh.block ga (by show ga<m.heap.size;omega) (by show ¬V.heap.size <= ga;omega);unfold World.cell? at *;rw[U];exact h
            have cm:=pz _ _ z0;have cn:=pz _ _ z1;have co:=pz _ _ z2;have e5:=pz _ _ z3
            have dp:∀c,bL (fun q=>V.heap.size <= q) m.drew c -> c.cell? ⟨p.heap.size,1,none⟩=some (.slice a4 E.length c4):=fun c hh=>by
             have fm:=ev.out;have U:c.heap[p.heap.size]?=m.heap[p.heap.size]?:=hh.block p.heap.size (by show p.heap.size<m.heap.size;omega) (by show ¬V.heap.size <= p.heap.size;omega);exact(aS (be.out.blk.keep U)).2.1
            obtain⟨wz,di⟩:=aQ (m.drew.alloc (.cells #[.string ⟨f.key.toArray⟩,.int .i64 f.dev,.int .i64 f.seq,.int .i64 f.val] 129));rw[<- di] at de k1 k2;have eT:(AP #[72,72] 72 #[.slice a4 E.length c4,.slice (some ⟨m.heap.size,0,none⟩) 1 1]).run aE wz=.ok (.slice X (E.length+1) Y) w9:=de;obtain⟨J,K,L⟩:=aS t;have a0:=t.free 1;have eD:=ae di;have bf:=ae D;have cV:=ae eh;clear n cc t1 t2 t3 t4 c5 dd a3 bR cp t O ay D eh pz di de z0 z1 z2 z3 aT be;go_wp2_with fail;refine dP (bL (fun q=>V.heap.size <= q)) 9 (up 6 [506,507,8,509]) (by kernel_rfl) ?_;apply bM;rfl;intro c hC;go_simp;(repeat (simp(disch:=omega) only[af,if_pos];go_simp));exact aF;refine cU rfl rfl (fun KK Z=>?_);go_simp;rw[show(m.alloc (.cells #[.string ⟨f.key.toArray⟩,.int .i64 f.dev,.int .i64 f.seq,.int .i64 f.val] 129)).drew=wz from eD.out.symm]
            first|refine⟨k1,Z _ _ ?_⟩|refine Z _ _ ?_
            clear Z KK;go_simp;refine cU rfl rfl (fun KK Z=>?_);go_simp
            first|refine⟨k2,Z _ _ ?_⟩|refine Z _ _ ?_
            clear Z KK cm cn co e5 dp k1 k2 eT;go_simp;apply bM;rfl;intro c hC;go_simp;(repeat (simp(disch:=omega) only[af,if_pos];go_simp));exact aF;refine cZ rfl rfl rfl (fun KK Z=>?_);go_simp;refine Z _ _ ?_;clear Z KK;go_simp;refine dt ?_;rw[<- bf.out];clear J K L a0;go_wp2_with fail
            go_roundw
            case rel=>exact⟨k4+1,_,by omega,by go_num,cV.out⟩
            case measure=>simp[intOf];omega
           ·have hd:¬decide (bo<f.seq)=true:=by simpa using aT
            have n:=Hf.out;rw[if_neg hd,List.append_nil] at n;have cV:=ae (show FSt d m V.heap.size p.heap.size (.slice (some ⟨g,0,none⟩) a.seen.length z) (.slice a4 E.length c4) (.slice M j.length N) (.slice (some ⟨ga,0,none⟩) s.length ci) H j s ((s.take (k4+1)).filter (tE H j)) by rw[n];exact be.out);clear hd n z0 z1 z2 z3;apply aG;rfl;intro c hC;go_simp;(repeat (simp(disch:=omega) only[af,if_pos];go_simp));exact aF;refine aY ?_;go_wp2_with fail
            go_roundw
            case rel=>exact⟨k4+1,_,by omega,by go_num,cV.out⟩
            case measure=>simp[intOf];omega
          ·have eS:¬(k4:Int)<(s.length:Int):=by omega
           have hM:dI a b=⟨H,E,j⟩:=by
            rw[<- vf a b b4.out b5.out,<- dz.out,show k4=s.length by omega,List.take_length,<- HG.out,<- er.out,<- dC.out];rfl
           have cC:=HB.out E dx.out
           have cI:dG wr d.heap.size (.slice (some ⟨g,0,none⟩) a.seen.length z) (.slice a4 E.length c4) (.slice M j.length N) ⟨H,E,j⟩:=⟨St.out.seen,bP St.out.new St.out.sle,St.out.gone⟩
           rw[<- hM] at cC cI;have c8:=i8 a b b4.out b5.out;have c3:=pt wr _ (.agg #[.slice (some ⟨g,0,none⟩) a.seen.length z,.slice a4 E.length c4,.slice M j.length N]) (dI a b) ⟨_,_,_,rfl,cI.map cC⟩ (fun x hx=>by have:=dU (dT (c8.iknown x hx));have h:x.pl.1=x.key:=rfl;rw[h] at this;omega) (fun x hx=>by have:=dU (dT (c8.gknown x hx));have h:x.pl.1=x.key:=rfl;rw[h] at this;omega);obtain⟨ok,dc⟩:=aH (bp (dI a b));rw[dc] at c3
           have hu:dN a b=if ok=true then(dI a b,0) else(.empty,7):=by
            unfold dN fU;rw[b9.out,cx.out,dc];cases ok<;>rfl
           obtain⟨J,K,L⟩:=aS St.out.blk;have dr:=ae c3;have Hu:=ae hu;have es:=ae cC;have et:=ae cI;have du:=ae St.out.bel;clear c3 hu hM cC cI c8 dc;go_wp2_with fail;refine dr.out.mono ?_;rintro e m ⟨rfl,aa⟩;have bZ:Below d.heap.size d m:=du.out.trans (aa.mono du.out.size);have C:=(HR.out m bZ).2.2.2.1;have b0:=(HR.out m bZ).1;have b6:=ae (et.out.below aa);clear dr aa bZ J K L;cases ok with
           |false=>
            have b8:=ae (show dN a b=(.empty,7) from Hu.out.trans (if_neg Bool.false_ne_true));obtain⟨wf,aW,a2,a1⟩:=dJ C b0 (by omega) (.slice none 0 0) (.slice none 0 0) (.slice none 0 0);obtain⟨y0,y1,y2⟩:=aS C;have z0:=C.free 0;have z1:=C.free 1;have z2:=C.free 2;have Q:=ae (aS a2);have bz:=ae a1;have bC:=ae aW;clear aW a2 a1;go_wp2_with fail;rw[<- bC.out];obtain⟨q0,q1,q2⟩:=Q.out;exact bodyPost_ret (v:=.tuple #[.agg #[.slice none 0 0,.slice none 0 0,.slice none 0 0],.int .i64 7]) (by simp[results,results125,go_sem,q0,q1,q2]) rfl ⟨_,by rw[b8.out],by rw[b8.out];exact fF _ _,bz.out⟩
           |true=>
            have b8:=ae (show dN a b=(dI a b,0) from Hu.out.trans (if_pos rfl));obtain⟨wf,aW,a2,a1⟩:=dJ C b0 (by omega) (.slice (some ⟨g,0,none⟩) a.seen.length z) (.slice a4 E.length c4) (.slice M j.length N);obtain⟨y0,y1,y2⟩:=aS C;have z0:=C.free 0;have z1:=C.free 1;have z2:=C.free 2;have Q:=ae (aS a2)
            have ew:=ae (show dG wf d.heap.size (.slice (some ⟨g,0,none⟩) a.seen.length z) (.slice a4 E.length c4) (.slice M j.length N) (dI a b) by
             rw[aW]
             exact((b6.out.setCell C _).setCell (C.set 0 _) _).setCell ((C.set 0 _).set 1 _) _)
            have bz:=ae a1;have bC:=ae aW;clear aW a2 a1;go_wp2_with fail;rw[<- bC.out];obtain⟨q0,q1,q2⟩:=Q.out;exact bodyPost_ret (v:=.tuple #[.agg #[.slice (some ⟨g,0,none⟩) a.seen.length z,.slice a4 E.length c4,.slice M j.length N],.int .i64 0]) (by simp[results,results125,go_sem,q0,q1,q2]) rfl ⟨_,by rw[b8.out],by rw[b8.out];exact⟨_,_,_,rfl,ew.out.mono (by have:=eG.out;omega),es.out⟩,bz.out⟩
theorem yI(F G:aX)(c d:Value)(a b:aU)(e:dl F w c a)(i:dl G w d b)(g:∀x∈a.items,x.key.length <= 1000000000)(f:∀x∈a.gone,x.key.length <= 1000000000)(k:∀x∈b.items,x.key.length <= 1000000000)(j:∀x∈b.gone,x.key.length <= 1000000000):
 Calls aE 125 #[c,d] w (zx w (dN a b)):=
 (yH w F G c d a b e i g f k j).mono fun _ _ h=>h.post
end
def TJ(t:TypeId):Prop:=t=141 \/ t=88 \/ t=99 \/ t=101 \/ t=41 \/ t=5
def NJ(w:World):aX:=fun q=>∃L t a,w.heap[q]?=some (.cells L t a) /\ ¬TJ t /\ t≠93 /\ t≠37
def JT(w:World)(c:JK):Prop:=∀b,c.all b -> ∃L t a,w.heap[b]?=some (.cells L t a) /\ TJ t
theorem oF{b:JK}(h:JT W b)(f:NJ W i):¬b.all i:=fun e=>by
 obtain⟨L,t,k,c,d,-⟩:=f;obtain⟨j,m,l,a,g⟩:=h i e;rw[c] at a;injection a with a
 injection a with _ a
 subst a;exact d g
theorem Aw{c:JK}(h:JT W c)(b:Blk W i L t)(e:¬TJ t):¬c.all i:=fun d=>by
 obtain⟨g,k,j,a,f⟩:=h i d;unfold Blk at b;rw[b] at a;injection a with a
 injection a with _ a
 subst a;exact e f
theorem iu(d:NJ W i)(h:w'.heap[i]?=W.heap[i]?):NJ w' i:=by
 obtain⟨L,t,a,b,c⟩:=d;exact⟨L,t,a,h.trans b,c⟩
theorem JT.keep{w w':World}{a:JK}(h:JT w a)(g:∀b,a.all b -> w'.heap[b]?=w.heap[b]?):JT w' a:=fun b c=>by
 obtain⟨L,t,d,e,f⟩:=h b c;exact⟨L,t,d,(g b c).trans e,f⟩
theorem JAt.slim{c:JK}{J:MJ}(h:JAt W c N J):∃d,d.j=c.j /\ d.K=c.K /\ JAt W d N J /\ (∀b,d.all b -> c.all b) /\ JT W d:=by
 obtain⟨i,⟨m,n,R,f,e,g⟩,⟨o,q⟩,r,s,t,u⟩:=h;refine⟨⟨c.j,c.K,fun b=>(Value.slice m J.L.length n).ownBlock=some b \/ R b⟩,rfl,rfl,⟨i,⟨m,n,R,f,e,fun b a=>a⟩,⟨o,fun b a=>q b (g b a)⟩,r,s,t,u⟩,?_,?_⟩
 ·rintro b (a|a|a)
  ·exact .inl a
  ·exact .inr (.inl a)
  ·exact .inr (.inr (g b a))
 ·rintro b (rfl|a|a)
  ·exact⟨_,_,_,f,.inl rfl⟩
  ·obtain⟨-,-,⟨E,-,-,l⟩,⟨L,A,-⟩,B,C⟩:=i;rcases a with rfl|rfl|rfl
   ·exact⟨_,_,_,l,.inr (.inl rfl)⟩
   ·exact⟨_,_,_,A,.inr (.inr (.inl rfl))⟩
   ·cases k:N.fault with
    |none=>rw[B k];exact⟨_,_,_,l,.inr (.inl rfl)⟩
    |some p=>exact⟨_,_,_,(C p.1 p.2 (by rw[k])).2.2,.inr (.inr (.inr (.inl rfl)))⟩
  ·rcases a with a|a
   ·obtain⟨D,z,-,-⟩:=e;obtain⟨F,y⟩:=gT z a;exact⟨_,_,_,y,.inr (.inr (.inr (.inr (.inl rfl))))⟩
   ·obtain⟨D,-,-,x⟩:=e;obtain⟨L,G,v⟩:=x b a;exact⟨_,_,_,v,.inr (.inr (.inr (.inr (.inr rfl))))⟩
theorem yJ:¬TJ 3:=by unfold TJ;decide
theorem zB:¬TJ 108:=by unfold TJ;decide
theorem zC:¬TJ 111:=by unfold TJ;decide
theorem Ds:¬TJ 93:=by unfold TJ;decide
theorem uG{f:List Value}(h:W.ownsRow i t j u o f)(p:¬TJ t)(y:t≠93)(s:t≠37):Rows (NJ W) W j u o f:=by
 obtain⟨a,l,rfl,A,B,C,D,E⟩:=Rows.of_owns h;refine⟨a,l,rfl,A,B,C,D,?_⟩;rcases E with c|⟨b,z,L,F,m,rfl,I,q,r,x⟩
 ·exact .inl c
 ·refine .inr ⟨b,z,L,F,m,rfl,?_,q,r,x⟩;rcases h.2 with⟨c,_⟩|⟨g,G,H,d,_,hh,_⟩
  ·simp at c
  ·simp at d;obtain⟨⟨rfl,-⟩,-⟩:=d;exact⟨_,_,_,hh,p,y,s⟩
theorem dW.nj{b c d:Value}(h:dW W i b c d r)(a:Bnd r):cG (NJ W) W b c d r:=
 ⟨uG h.seen yJ (by decide) (by decide),uG h.items zB (by decide) (by decide),uG h.gone zC (by decide) (by decide),(h.map a).seenB,(h.map a).itemsB,(h.map a).goneB⟩
structure UAt(w:World)(jk:JK)(u:Nat)(M:MD)(U:MU):Prop where
 box:∃a1 c1 a2 c2 a3 c3,Blk w u [.int .i64 (U.dev:Int),.slice a1 U.m.seen.length c1,.slice a2 U.m.items.length c2,.slice a3 U.m.gone.length c3,.pointer (some ⟨jk.j,0,none⟩)] 93 /\
  cG (NJ w) w (.slice a1 U.m.seen.length c1) (.slice a2 U.m.items.length c2) (.slice a3 U.m.gone.length c3) U.m
 jat:JAt w jk M U.J
 typ:JT w jk
 low:∀b,jk.all b -> 3<b
theorem UAt.lt{w:World}{b:JK}{u:Nat}{M:MD}{U:MU}(h:UAt w b u M U):u<w.heap.size:=by
 obtain⟨c,f,d,g,e,i,a,-⟩:=h.box;exact a.lt
theorem UAt.keep{w w':World}{f:JK}{u:Nat}{M:MD}{U:MU}(h:UAt w f u M U)(a:Below w.heap.size w w'):UAt w' f u M U:=by
 obtain⟨g,k,i,l,j,m,c,n⟩:=h.box;have p:=h.jat.lt
 exact⟨⟨g,k,i,l,j,m,c.keep (a.block _ c.lt),(n.keep fun q _ d=>a.block q d).mono (fun q e d=>iu e (a.block q (by
  obtain⟨L,t,r,hh,_⟩:=e
  exact lt_of_block hh)))⟩,h.jat.kept a,h.typ.keep fun b o=>a.block b (p b o),h.low⟩
theorem UAt.apart{c:JK}{U:MU}(h:UAt W c i N U):¬c.all i:=fun d=>by
 obtain⟨f,k,g,l,j,m,b,-⟩:=h.box;obtain⟨L,t,n,a,e⟩:=h.typ i d;unfold Blk at b;rw[b] at a;injection a with a
 injection a with _ a
 subst a;exact Ds e
theorem UAt.moved{a e:JK}{M l:MD}{U:MU}{k:MJ}(h:UAt W a i M U)(g:aT a.all W w')(H:JAt w' e l k)(v:e.j=a.j)(r:∀b,e.all b -> a.all b \/ W.heap.size <= b)(N:3<W.heap.size):
 ∃c,c.j=a.j /\ c.K=e.K /\ (∀b,c.all b -> a.all b \/ W.heap.size <= b) /\ UAt w' c i l ⟨U.dev,U.m,k⟩:=by
 obtain⟨x,A,y,B,z,C,p,G⟩:=h.box;obtain⟨c,n,D,E,o,F⟩:=H.slim
 refine⟨c,n.trans v,D,fun b f=>r b (o b f),⟨x,A,y,B,z,C,?_,(G.keep fun q d I=>g.block q I (oF h.typ d)).mono fun q d _=>iu d (g.block q (by
  obtain⟨L,t,J,hh,_⟩:=d
  exact lt_of_block hh) (oF h.typ d))⟩,E,F,fun b f=>?_⟩
 ·rw[n,v];exact p.keep (g.block i p.lt h.apart)
 ·rcases r b (o b f) with s|s
  ·exact h.low b s
  ·omega
section
attribute [local go_sem ↓] mB ir
attribute [local go_sem] opC upC
theorem B9(l x:List UInt8)(h:l.length=x.length):du l 0 x=x:=by
 unfold du;simp[h]
theorem pv(l G g I:Nat)(H:Value)(v:Bool)(K:DK)(M:MD)(z:dZ w l G g H I v)(x:bT w K M)(R:K.d=G)(c:Nat)(o:c<M.S.length)(V:M.down=false):
 Calls aE 94 #[.pointer (some ⟨l,0,none⟩),.int .i64 (c:Int)] w fun e J=>∃t,e=.returned (.pointer (some ⟨t,0,none⟩)) /\ w.heap.size <= t /\ dz J t (M.S.getD c []) /\ Below w.heap.size w J:=by
 subst R;have Y:=kq w;obtain⟨h,f⟩:=aQ (w.alloc (.cells (fs.map B).toArray 137));have q:dz h w.heap.size fs:=by rw[f];exact dz.new _ _ gG
 have p:Below w.heap.size w h:=by rw[f];exact aI _ _
 have Z:h.heap.size=w.heap.size+1:=by rw[f];simp
 have y:=x.kept p;have A:dZ h l K.d g H I v:=Blk.keep z (p.block l (Blk.lt z));have m:=A.cell 0;simp at m;have E:=C5 h K M c y o V
 have j:M.S[c].length=64:=by
  obtain⟨L,-,T⟩:=x.secs;exact T.2.2 _ (aC o)
 have u:=ae E;clear E;rw[f] at m u;have Q:=ae f;clear f
 go_enter func94,ntmps94
 go_wp2_with fail;refine u.out.mono ?_;rintro e N ⟨r,rfl,i,k⟩;rw[<- Q.out] at i k;have i:N.ownsRow h.heap.size 5 1 r (M.S[c]).length ((M.S[c]).map B):=by rw[j];exact i
 have F:dz N w.heap.size fs:=⟨q.1.keep (k.block _ (by omega)),q.2⟩
 have C:=p.trans (k.mono (by omega));have n:=lB i;obtain⟨a,X,rfl,-,-⟩:=id n;obtain⟨w3,U,s,W,aa⟩:=ow F 0 64 64 n 64 (by rw[j];rfl) (by omega);rw[List.take_of_length_le (by omega),B9 _ _ (by rw[gG,j])] at s;rw[show((64:Nat):Int)=64 from rfl,j] at U;have D:=f8 C W (fun b e=>by rw[e];exact aq _) (by have:=k.size;omega);have P:=ae s;have O:=ae D;clear s D n i F C m q y A;go_wp2_with fail
 go_ret
 refine⟨_,rfl,aq _,?_,O.out⟩;rw[show M.S.getD c []=M.S[c] from by rw[List.getD_eq_getElem?_getD,List.getElem?_eq_getElem o];rfl];exact P.out
theorem iT(S:List (List UInt8))(g k p n:Nat):∀(i j:Nat),dx S g k p n (i+j)=true -> dx S g k p n i=true
 |i,0,h=>h
 |i,j+1,h=>by
  refine iT S g k p n i j ?_;have:dx S g k p n (i+j+1)=true:=h;simp only[dx,Bool.and_eq_true] at this;exact this.1
theorem gu(S:List (List UInt8))(b:∀s∈S,s.length=64)(g p:Nat):∀i,(∀j,j<i -> cm S.length g (p+j)<S.length) -> (eq S g p i).length=48*i
 |0,_=>rfl
 |i+1,h=>by
  have c:=gu S b g p i (fun j e=>h j (by omega));have a:=h i (by omega)
  have d:(cN S g (p+i)).length=64:=by
   unfold cN;rw[List.getD_eq_getElem?_getD,List.getElem?_eq_getElem a];exact b _ (aC a)
  simp only[eq,aA,c,List.length_take,List.length_drop,d];omega
theorem fv(n g p:Nat)(b:p<aW n):cm n g p<n:=by
 unfold cm;have a:g%2=0 \/ g%2=1:=by omega
 unfold aW at *;rcases a with h|h<;>rw[h]<;>omega
end
section
attribute [local go_sem ↓] aV
attribute [local go_sem] opC upC told bG br bH bt bw bI bJ
theorem dz.bytes12(h:dz W j l):aO (fun b=>b=j) W (.slice (some ⟨j,12,none⟩) 48 52) ((l.drop 12).take 48):=by
 obtain⟨c,d⟩:=h;have a:((l.drop 12).take 48).length=48:=by simp;omega
 refine⟨some ⟨j,12,none⟩,52,by rw[a],by omega,by unfold maxLen;omega,nofun,.inr ⟨j,12,(l.map B).toArray,137,(0,0),rfl,rfl,c,by simp;omega,fun i hi=>?_⟩⟩;rw[a] at hi;simp[List.getElem?_eq_getElem (show 12+i<l.length by omega)]
def wQ(w:World)(r:Option (List UInt8))(e:Ending)(a:World):Prop:=
 (match r with
  |none=>e=.returned (.tuple #[.slice none 0 0,.bool false])
  |some b=>∃v,e=.returned (.tuple #[v,.bool true]) /\ aO (fun q=>w.heap.size <= q /\ q<a.heap.size) a v b /\ b.length <= 65536) /\ Below w.heap.size w a
theorem g6(h:W.ownsRow i t j u o L)(b:Below W.heap.size W w'):w'.ownsRow i t j u o L:=by
 refine tw h fun g a=>b.block g ?_
 rcases h.2 with⟨rfl,_⟩|⟨k,d,f,rfl,_,c,_⟩
 ·cases a
 ·simp[Value.ownBlock] at a;subst a;exact lt_of_block c
theorem aO.take{F:aX}{w:World}{a:Option Addr}{cap:Nat}{l:List UInt8}(h:aO F w (.slice a l.length cap) l)(n:Nat)(u:n <= l.length):aO F w (.slice a n cap) (l.take n):=by
 obtain⟨p,q,c,r,g,m,k⟩:=h;simp at c;obtain⟨rfl,rfl⟩:=c;have d:(l.take n).length=n:=by simp;omega
 refine⟨a,cap,by rw[d],by omega,g,m,?_⟩;rcases k with rfl|⟨b,o,L,t,e,rfl,hF,f,s,j⟩
 ·exact .inl (by simp)
 ·refine .inr ⟨b,o,L,t,e,rfl,hF,f,by omega,fun i hi=>?_⟩;rw[d] at hi;rw[List.getElem_take];exact j i (by omega)
def zD(w:World)(S:List (List UInt8))(g k p n T:Nat)(v i:Value)(wr:World):Prop:=
 ∃m:Nat,m <= T /\ i=.int .i64 (m:Int) /\ dx S g k p n m=true /\ wr.ownsRow w.heap.size 5 1 v (eq S g p m).length ((eq S g p m).map B) /\ Below w.heap.size w wr
theorem Ca(y O g f k:Nat)(P:Option Addr)(Q:Nat)(U:Bool)(K:DK)(M:MD)(hj:dZ w y O g (.slice P k Q) f U)(hd:bT w K M)(b:K.d=O)(hq:de w)(bb:M.down=false)(h8:8 <= M.S.length)(hg:g<4294967296)(hk:k <= 65536)(ht:f <= 65536)(h0:0<w.heap.size):
 Calls aE 97 #[.pointer (some ⟨y,0,none⟩)] w (wQ w (dd M.S g k f)):=by
 have b1:=hd.le;have hH:aW M.S.length <= 32768:=by unfold aW;omega
 have bL:=Blk.lt hj;obtain⟨H,ay⟩:=aH (aW M.S.length);have an:∀{a},Below w.heap.size w a -> de a:=fun x=>hq.keep (x.block 0 h0)
 have N:∀{a},Below w.heap.size w a -> dZ a y O g (.slice P k Q) f U:=fun x=>Blk.keep hj (x.block y bL)
 have ag:∀{a},Below w.heap.size w a -> bT a K M:=fun x=>hd.kept x
 have bl:∀w0:World,Below w.heap.size w w0 -> ∀a,aJ w0.drew a -> a.cell? ⟨y,1,none⟩=some (.int .u32 (g:Int)):=fun w0 x a hh=>e8 (by simpa using(N x).cell 1) hh
 have bm:∀w0:World,Below w.heap.size w w0 -> ∀a,aJ w0.drew a -> a.cell? ⟨y,2,none⟩=some (.slice P k Q):=fun w0 x a hh=>e8 (by simpa using(N x).cell 2) hh
 have bn:∀w0:World,Below w.heap.size w w0 -> ∀a,aJ w0.drew a -> a.cell? ⟨y,3,none⟩=some (.int .i64 (f:Int)):=fun w0 x a hh=>e8 (by simpa using(N x).cell 3) hh
 have aa:=ae ay;rw[ay] at hH;have b0:Below w.heap.size w w.drew:=(Below.refl _ _).drew
 have a4:∀w0,Below w.heap.size w w0 -> RowKit.Hid (Calls aE 139 #[.pointer (some ⟨y,0,none⟩)] w0 fun e a=>e=.returned (.int .i64 (H:Int)) /\ w0=a):=fun w0 x=>by
  have:=ou w0 y O g _ f U K M (N x) (ag x) b (by omega);rw[ay] at this;exact ae this
 have Hj:=ae hj;have Hd:=ae hd;have E:=ae bl;have G:=ae bm;have Q3:=ae bn;clear ay hj hd bl bm bn;have bV:(H:Int) <= 32768:=by omega
 have cb:(f:Int) <= 65536:=by omega
 have bZ:(k:Int) <= 65536:=by omega
 go_enter func97,ntmps97
 go_wp2_with fail;have Y:=Q3.out w (Below.refl _ _);refine bS aJ (up 5 [505,6]) (by kernel_rfl) ?_;apply aG;rfl;intro a c;go_simp;exact aF;refine bq rfl rfl (fun o b=>?_);go_simp;refine(a4 w.drew b0).out.mono ?_;rintro e a ⟨rfl,rfl⟩;refine⟨_,rfl,bF _,b _ _ ?_⟩;clear b o;go_simp;apply aG;rfl;intro a c;go_simp;exact aF;refine aY ?_;clear Y
 by_cases hT:H <= f
 ·have bG:(H:Int) <= (f:Int):=by omega
  have hr:dd M.S g k f=none:=by unfold dd;rw[aa.out,if_pos hT]
  have Hr:=ae hr;clear hr;go_wp2_with fail;go_ret2;rw[Hr.out];exact⟨rfl,b0⟩
 ·have bG:¬(H:Int) <= (f:Int):=by omega
  have ak:cm M.S.length g f<M.S.length:=fv _ _ _ (by rw[aa.out];omega);obtain⟨wA,bj⟩:=aQ w.drew;rw[<- bj] at b0⊢;clear bj;have bA:Below w.heap.size w wA.drew:=b0.drew;have ab:=pn wA.drew y O g _ f U K M (N bA) (ag bA) b (by omega) g f ht;have X:=pv wA.drew y O g f _ U K M (N bA) (ag bA) b _ ak bb;obtain⟨l,a0⟩:=aH (cN M.S g f);rw[show M.S.getD (cm M.S.length g f) []=l from a0] at X;have aM:=ae ab;have aN:=ae X;have bz:=ae a0;clear ab X a0 ak;go_wp2_with fail;have z:=E.out wA b0;have Y:=Q3.out wA b0;refine bS aJ (up 10 [510,511,512,13]) (by kernel_rfl) ?_;apply aG;rfl;intro a c;go_simp;exact aF;refine bq rfl rfl (fun o b=>?_);go_simp;refine aM.out.mono ?_;rintro e a ⟨rfl,rfl⟩;refine⟨_,rfl,bF _,b _ _ ?_⟩;clear b o;go_simp;apply aG;rfl;intro a c;go_simp;exact aF;refine bq rfl rfl (fun o b=>?_);go_simp;refine aN.out.mono ?_;rintro e Z ⟨A,rfl,bi,ao,aT⟩;refine⟨_,rfl,aT,b _ _ ?_⟩;clear b o;go_simp;apply aG;rfl;intro a c;go_simp;exact aF;refine bq rfl rfl (fun o b=>?_);go_simp;refine(eZ Z A _ ao 8 (by omega)).mono ?_;rintro e a ⟨rfl,rfl⟩;refine⟨_,rfl,bF _,b _ _ ?_⟩;clear b o;go_simp;apply aG;rfl;intro a c;go_simp;exact aF;refine aY ?_;clear z Y;have b3:Below w.heap.size w Z:=bA.trans (aT.mono bA.size)
  have bf:dd M.S g k f=if 65536<bK l 8 \/ H<f+takes (bK l 8) then none else
   if dx M.S g k f (bK l 8) (takes (bK l 8)) then some ((eq M.S g f (takes (bK l 8))).take (bK l 8)) else none:=by
   unfold dd;rw[aa.out,if_neg hT,bz.out]
  have b9:bK l 8<4294967296:=lW _ _;generalize bK l 8=n at *;have aP:=ae bf;clear bf ao aT bi
  by_cases hn:65536<n
  ·have aV:(65536:Int)<(n:Int):=by omega
   have bN:decide ((65536:Int)<(n:Int))=true:=decide_eq_true aV;go_wp2_with fail;refine bS aJ (up 9 [11,509,10,512,13,14]) (by kernel_rfl) ?_;apply aG;rfl;intro a c;go_simp;exact aF
   repeat (apply bE;rfl;rfl;go_simp;go_simp;rfl;apply aG;rfl;intro a c;go_simp;exact aF)
   refine aY ?_;go_wp2_with fail;go_ret2;rw[aP.out,if_pos (.inl hn)];exact⟨rfl,b3.drew⟩
  ·have aV:¬(65536:Int)<(n:Int):=by omega
   have bN:decide ((65536:Int)<(n:Int))=false:=decide_eq_false aV;have ca:(n:Int) <= 65536:=by omega
   have cc:=af (n:Int) (by omega);have bO:=dy n;have bP:takes n <= 1366:=by unfold takes;omega
   have a2:=fun w0=>kW w0 n (by omega)
   obtain⟨T,aS⟩:=aH (takes n);have HT:=ae aS;rw[aS] at bO bP a2;have a6:=ae a2;clear aS a2;have a3:=af ((f:Int)+(T:Int)) (by omega);have ax:Below w.heap.size w Z.drew:=b3.drew;go_wp2_with fail;have Y:=Q3.out Z b3;refine bS aJ (up 9 [11,509,10,512,13,14]) (by kernel_rfl) ?_;apply aG;rfl;intro a c;go_simp;exact aF
   repeat (apply bE;rfl;rfl;go_simp;go_simp;rfl;apply aG;rfl;intro a c;go_simp;exact aF)
   refine bq rfl rfl (fun o b=>?_);go_simp;refine(a6.out Z.drew).mono ?_;rintro e a ⟨rfl,rfl⟩;refine⟨_,rfl,bF _,b _ _ ?_⟩;clear b o;go_simp;apply aG;rfl;intro a c;go_simp;exact aF
   repeat (apply bE;rfl;rfl;go_simp;go_simp;rfl;apply aG;rfl;intro a c;go_simp;exact aF)
   refine bq rfl rfl (fun o b=>?_);go_simp;refine(a4 Z.drew ax).out.mono ?_;rintro e a ⟨rfl,rfl⟩;refine⟨_,rfl,bF _,b _ _ ?_⟩;clear b o;go_simp;apply aG;rfl;intro a c;go_simp;exact aF
   repeat (apply bE;rfl;rfl;go_simp;go_simp;rfl;apply aG;rfl;intro a c;go_simp;exact aF)
   refine aY ?_;clear Y
   by_cases bJ:H<f+T
   ·have bI:(H:Int)<(f:Int)+(T:Int):=by omega
    go_wp2_with fail;go_ret2;rw[aP.out,HT.out,if_pos (.inr bJ)];exact⟨rfl,ax⟩
   ·have bI:¬(H:Int)<(f:Int)+(T:Int):=by omega
    have bg:dd M.S g k f=if dx M.S g k f n T then some ((eq M.S g f T).take n) else none:=by
     rw[aP.out,HT.out,if_neg (by omega)]
    have a5:=ae bg;clear bg;obtain⟨wB,bk⟩:=aQ Z.drew;rw[<- bk] at ax⊢;clear bk a3;go_wp2_with fail;refine(a6.out wB).mono ?_;rintro e a ⟨rfl,rfl⟩;go_wp2_with fail
    go_loopw [5,46] (fun v i wr=>zD w M.S g k f n T v i wr) (fun _ i _=>T-(intOf i).toNat)
    case atStart=>exact⟨0,by omega,rfl,rfl,World.ownsRow_nil _ _ _ _,ax⟩
    case round=>
     obtain⟨m,hm,rfl,al,aK,aI⟩:=hrel
     by_cases b4:m<T
     ·have bM:(m:Int)<(T:Int):=by omega
      have aR:takes n=max 1 ((n+47)/48):=rfl;have bD:48*m <= n:=by have:=HT.out;omega
      have a3:=af ((f:Int)+(m:Int)) (by omega);have cd:=af (48*(m:Int)) (by omega);have ce:=aj (48*(m:Int)) (by omega);have cf:=aj ((n:Int)-48*(m:Int)) (by omega);have B:=aj (k:Int) (by omega);have ak:cm M.S.length g (f+m)<M.S.length:=fv _ _ _ (by rw[aa.out];omega);have R:Below w.heap.size w wr.drew:=aI.drew;have ab:=pn wr.drew y O g _ f U K M (N R) (ag R) b (by omega) g (f+m) (by omega);have X:=pv wr.drew y O g f _ U K M (N R) (ag R) b _ ak bb;obtain⟨sm,aL⟩:=aH (cN M.S g (f+m));rw[show M.S.getD (cm M.S.length g (f+m)) []=sm from aL] at X;rw[show((f+m:Nat):Int)=(f:Int)+(m:Int) by omega] at ab
      have a1:dx M.S g k f n (m+1)=cD sm g k (n-48*m):=by
       simp only[dx,al,aL,Bool.true_and]
      have a7:cD sm g k (n-48*m)=false -> dd M.S g k f=none:=fun x=>by
       rw[a5.out,if_neg];intro hh;have:=iT M.S g k f n (m+1) (T-(m+1)) (by rw[show m+1+(T-(m+1))=T by omega];exact hh);rw[a1,x] at this;cases this
      have a9:eq M.S g f (m+1)=eq M.S g f m++(sm.drop 12).take 48:=by
       simp only[eq,aL]
      have aM:=ae ab;have aN:=ae X;have bB:=ae a1;have ar:=ae a7;have br:=ae a9;have bu:=ae aK;have bQ:=ae al;clear ab X a1 a7 a9 aK al aL ak aR;go_wp2_with fail;have z:=E.out wr aI;have Y:=Q3.out wr aI;refine bS aJ (up 12 [512,513,14]) (by kernel_rfl) ?_;apply aG;rfl;intro a c;go_simp;exact aF;refine bq rfl rfl (fun o b=>?_);go_simp;refine aM.out.mono ?_;rintro e a ⟨rfl,rfl⟩;refine⟨_,rfl,bF _,b _ _ ?_⟩;clear b o;go_simp;apply aG;rfl;intro a c;go_simp;exact aF;refine bq rfl rfl (fun o b=>?_);go_simp;refine aN.out.mono ?_;rintro e t ⟨A,rfl,bi,ao,az⟩;refine⟨_,rfl,az,b _ _ ?_⟩;clear b o;go_simp;apply aG;rfl;intro a c;go_simp;exact aF;refine aY ?_;clear z Y;have r:Below w.heap.size w t:=R.trans (az.mono R.size);have be:=g6 (g6 bu.out (Below.refl _ _).drew) az;have bv:=ae be;have I:=ae ao;clear be ao az R a3;obtain⟨l,rfl⟩:=aQ sm;cases W:dm l with
      |false=>
       have x:cD l g k (n-48*m)=false:=by simp[cD,W]
       go_wp2_with fail;have z:=E.out t r;have C:=G.out t r;refine bS aJ [0,501,2,3,4,6,7,8,9,505,10,11,12,13,15,16,17,18,19,20,514,21,22,23,24,26,27,28,29,30,525,31,32] (by kernel_rfl) ?_;apply aG;rfl;intro a c;go_simp;exact aF
       repeat (apply bE;rfl;rfl;go_simp;go_simp;rfl;apply aG;rfl;intro a c;go_simp;exact aF)
       refine bq rfl rfl (fun o b=>?_);go_simp;refine(eK t.drew (an r.drew) A l I.out).mono ?_;rintro e p ⟨rfl,q,B⟩;have u:aJ t.drew p:=by rw[<- B];exact⟨rfl,rfl,rfl,aq _,fun _ _=>rfl⟩
       have D:dz p A l:=by rw[<- B];exact I.out
       have F:Below w.heap.size w p:=r.drew.trans (u.mono r.size);clear B;refine⟨_,rfl,u,b _ _ ?_⟩;clear b o z C;have z:∀a,aJ p a -> a.cell? ⟨y,1,none⟩=some (.int .u32 (g:Int)):=fun a hh=>E.out t r a (bC _ _ _ u hh)
       have C:∀a,aJ p a -> a.cell? ⟨y,2,none⟩=some (.slice P k Q):=fun a hh=>G.out t r a (bC _ _ _ u hh)
       rw[W];go_simp;apply aG;rfl;intro a c;go_simp;exact aF
       repeat (apply bE;rfl;rfl;go_simp;go_simp;rfl;apply aG;rfl;intro a c;go_simp;exact aF)
       refine aY ?_;clear z C;go_wp2_with fail;go_ret2;rw[ar.out x];exact⟨rfl,F⟩
      |true=>
      by_cases J:bK l 0=g
      ·have n0:((bK l 0:Int) != (g:Int))=false:=by simp[J]
       by_cases V:bK l 4=k
       ·have n4:((bK l 4:Int) != (k:Int))=false:=by simp[V]
        by_cases ad:bK l 8=n-48*m
        ·have n8:((bK l 8:Int) != (n:Int)-48*(m:Int))=false:=by simp;omega
         have bd:cD l g k (n-48*m)=true:=by simp[cD,W,J,V,ad]
         have bt:=ae bd;have H0:=ae J;have H4:=ae V;have H8:=ae ad;clear bd J V ad;go_wp2_with fail;have z:=E.out t r;have C:=G.out t r;refine bS aJ [0,501,2,3,4,6,7,8,9,505,10,11,12,13,15,16,17,18,19,20,514,21,22,23,24,26,27,28,29,30,525,31,32] (by kernel_rfl) ?_;apply aG;rfl;intro a c;go_simp;exact aF
         repeat (apply bE;rfl;rfl;go_simp;go_simp;rfl;apply aG;rfl;intro a c;go_simp;exact aF)
         refine bq rfl rfl (fun o b=>?_);go_simp;refine(eK t.drew (an r.drew) A l I.out).mono ?_;rintro e p ⟨rfl,q,B⟩;have u:aJ t.drew p:=by rw[<- B];exact⟨rfl,rfl,rfl,aq _,fun _ _=>rfl⟩
         have D:dz p A l:=by rw[<- B];exact I.out
         have F:Below w.heap.size w p:=r.drew.trans (u.mono r.size);clear B;refine⟨_,rfl,u,b _ _ ?_⟩;clear b o z C;have z:∀a,aJ p a -> a.cell? ⟨y,1,none⟩=some (.int .u32 (g:Int)):=fun a hh=>E.out t r a (bC _ _ _ u hh)
         have C:∀a,aJ p a -> a.cell? ⟨y,2,none⟩=some (.slice P k Q):=fun a hh=>G.out t r a (bC _ _ _ u hh)
         rw[W];go_simp;apply aG;rfl;intro a c;go_simp;exact aF
         repeat (apply bE;rfl;rfl;go_simp;go_simp;rfl;apply aG;rfl;intro a c;go_simp;exact aF)
         refine bq rfl rfl (fun o b=>?_);go_simp;refine(eZ p A l D 0 (by omega)).mono ?_;rintro e a ⟨rfl,rfl⟩;refine⟨_,rfl,bF _,b _ _ ?_⟩;clear b o;go_simp;apply aG;rfl;intro a c;go_simp;exact aF
         repeat (apply bE;rfl;rfl;go_simp;go_simp;rfl;apply aG;rfl;intro a c;go_simp;exact aF)
         refine bq rfl rfl (fun o b=>?_);go_simp;refine(eZ p A l D 4 (by omega)).mono ?_;rintro e a ⟨rfl,rfl⟩;refine⟨_,rfl,bF _,b _ _ ?_⟩;clear b o;go_simp;apply aG;rfl;intro a c;go_simp;exact aF
         repeat (apply bE;rfl;rfl;go_simp;go_simp;rfl;apply aG;rfl;intro a c;go_simp;exact aF)
         refine bq rfl rfl (fun o b=>?_);go_simp;refine(eZ p A l D 8 (by omega)).mono ?_;rintro e a ⟨rfl,rfl⟩;refine⟨_,rfl,bF _,b _ _ ?_⟩;clear b o;go_simp;apply aG;rfl;intro a c;go_simp;exact aF
         repeat (apply bE;rfl;rfl;go_simp;go_simp;rfl;apply aG;rfl;intro a c;go_simp;exact aF)
         refine aY ?_;clear z C;have aX:=g6 (g6 bv.out (Below.refl _ _).drew) u;have ai:(eq M.S g f m).length=48*m:=gu _ (fun s hs=>by obtain⟨L,-,hL⟩:=Hd.out.secs;exact hL.2.2 s hs) _ _ _ (fun j hj=>fv _ _ _ (by rw[aa.out];omega));obtain⟨v7,w7,bX,aZ,bc⟩:=cY p w.heap.size _ _ aX _ _ _ D.bytes12 (by rw[ai];simp;omega) F.size;rw[<- br.out] at aZ
         have b7:Below w.heap.size w w7:=F.grown bc F.size (fun q hq=>by
          rcases aX.2 with⟨h,_⟩|⟨g',bR,bU,h,b2,_⟩
          ·rw[h] at hq;cases hq
          ·rw[h] at hq;simp[Value.ownBlock] at hq;omega)
         have bw:=ae aZ;clear aZ aX bc ai D;go_wp2_with fail
         go_roundw
         case rel=>exact⟨m+1,by omega,by go_num,by rw[bB.out];exact bt.out,bw.out,b7⟩
         case measure=>simp[intOf];omega
        ·have n8:((bK l 8:Int) != (n:Int)-48*(m:Int))=true:=by simp;omega
         have x:cD l g k (n-48*m)=false:=by simp[cD,ad]
         clear J V ad;go_wp2_with fail;have z:=E.out t r;have C:=G.out t r;refine bS aJ [0,501,2,3,4,6,7,8,9,505,10,11,12,13,15,16,17,18,19,20,514,21,22,23,24,26,27,28,29,30,525,31,32] (by kernel_rfl) ?_;apply aG;rfl;intro a c;go_simp;exact aF
         repeat (apply bE;rfl;rfl;go_simp;go_simp;rfl;apply aG;rfl;intro a c;go_simp;exact aF)
         refine bq rfl rfl (fun o b=>?_);go_simp;refine(eK t.drew (an r.drew) A l I.out).mono ?_;rintro e p ⟨rfl,q,B⟩;have u:aJ t.drew p:=by rw[<- B];exact⟨rfl,rfl,rfl,aq _,fun _ _=>rfl⟩
         have D:dz p A l:=by rw[<- B];exact I.out
         have F:Below w.heap.size w p:=r.drew.trans (u.mono r.size);clear B;refine⟨_,rfl,u,b _ _ ?_⟩;clear b o z C;have z:∀a,aJ p a -> a.cell? ⟨y,1,none⟩=some (.int .u32 (g:Int)):=fun a hh=>E.out t r a (bC _ _ _ u hh)
         have C:∀a,aJ p a -> a.cell? ⟨y,2,none⟩=some (.slice P k Q):=fun a hh=>G.out t r a (bC _ _ _ u hh)
         rw[W];go_simp;apply aG;rfl;intro a c;go_simp;exact aF
         repeat (apply bE;rfl;rfl;go_simp;go_simp;rfl;apply aG;rfl;intro a c;go_simp;exact aF)
         refine bq rfl rfl (fun o b=>?_);go_simp;refine(eZ p A l D 0 (by omega)).mono ?_;rintro e a ⟨rfl,rfl⟩;refine⟨_,rfl,bF _,b _ _ ?_⟩;clear b o;go_simp;apply aG;rfl;intro a c;go_simp;exact aF
         repeat (apply bE;rfl;rfl;go_simp;go_simp;rfl;apply aG;rfl;intro a c;go_simp;exact aF)
         refine bq rfl rfl (fun o b=>?_);go_simp;refine(eZ p A l D 4 (by omega)).mono ?_;rintro e a ⟨rfl,rfl⟩;refine⟨_,rfl,bF _,b _ _ ?_⟩;clear b o;go_simp;apply aG;rfl;intro a c;go_simp;exact aF
         repeat (apply bE;rfl;rfl;go_simp;go_simp;rfl;apply aG;rfl;intro a c;go_simp;exact aF)
         refine bq rfl rfl (fun o b=>?_);go_simp;refine(eZ p A l D 8 (by omega)).mono ?_;rintro e a ⟨rfl,rfl⟩;refine⟨_,rfl,bF _,b _ _ ?_⟩;clear b o;go_simp;apply aG;rfl;intro a c;go_simp;exact aF
         repeat (apply bE;rfl;rfl;go_simp;go_simp;rfl;apply aG;rfl;intro a c;go_simp;exact aF)
         refine aY ?_;clear z C;go_wp2_with fail;go_ret2;rw[ar.out x];exact⟨rfl,F⟩
       ·have n4:((bK l 4:Int) != (k:Int))=true:=by simp;omega
        have x:cD l g k (n-48*m)=false:=by simp[cD,V]
        clear J V;go_wp2_with fail;have z:=E.out t r;have C:=G.out t r;refine bS aJ [0,501,2,3,4,6,7,8,9,505,10,11,12,13,15,16,17,18,19,20,514,21,22,23,24,26,27,28,29,30,525,31,32] (by kernel_rfl) ?_;apply aG;rfl;intro a c;go_simp;exact aF
        repeat (apply bE;rfl;rfl;go_simp;go_simp;rfl;apply aG;rfl;intro a c;go_simp;exact aF)
        refine bq rfl rfl (fun o b=>?_);go_simp;refine(eK t.drew (an r.drew) A l I.out).mono ?_;rintro e p ⟨rfl,q,B⟩;have u:aJ t.drew p:=by rw[<- B];exact⟨rfl,rfl,rfl,aq _,fun _ _=>rfl⟩
        have D:dz p A l:=by rw[<- B];exact I.out
        have F:Below w.heap.size w p:=r.drew.trans (u.mono r.size);clear B;refine⟨_,rfl,u,b _ _ ?_⟩;clear b o z C;have z:∀a,aJ p a -> a.cell? ⟨y,1,none⟩=some (.int .u32 (g:Int)):=fun a hh=>E.out t r a (bC _ _ _ u hh)
        have C:∀a,aJ p a -> a.cell? ⟨y,2,none⟩=some (.slice P k Q):=fun a hh=>G.out t r a (bC _ _ _ u hh)
        rw[W];go_simp;apply aG;rfl;intro a c;go_simp;exact aF
        repeat (apply bE;rfl;rfl;go_simp;go_simp;rfl;apply aG;rfl;intro a c;go_simp;exact aF)
        refine bq rfl rfl (fun o b=>?_);go_simp;refine(eZ p A l D 0 (by omega)).mono ?_;rintro e a ⟨rfl,rfl⟩;refine⟨_,rfl,bF _,b _ _ ?_⟩;clear b o;go_simp;apply aG;rfl;intro a c;go_simp;exact aF
        repeat (apply bE;rfl;rfl;go_simp;go_simp;rfl;apply aG;rfl;intro a c;go_simp;exact aF)
        refine bq rfl rfl (fun o b=>?_);go_simp;refine(eZ p A l D 4 (by omega)).mono ?_;rintro e a ⟨rfl,rfl⟩;refine⟨_,rfl,bF _,b _ _ ?_⟩;clear b o;go_simp;apply aG;rfl;intro a c;go_simp;exact aF
        repeat (apply bE;rfl;rfl;go_simp;go_simp;rfl;apply aG;rfl;intro a c;go_simp;exact aF)
        refine aY ?_;clear z C;go_wp2_with fail;go_ret2;rw[ar.out x];exact⟨rfl,F⟩
      ·have n0:((bK l 0:Int) != (g:Int))=true:=by simp;omega
       have x:cD l g k (n-48*m)=false:=by simp[cD,J]
       clear J;go_wp2_with fail;have z:=E.out t r;have C:=G.out t r;refine bS aJ [0,501,2,3,4,6,7,8,9,505,10,11,12,13,15,16,17,18,19,20,514,21,22,23,24,26,27,28,29,30,525,31,32] (by kernel_rfl) ?_;apply aG;rfl;intro a c;go_simp;exact aF
       repeat (apply bE;rfl;rfl;go_simp;go_simp;rfl;apply aG;rfl;intro a c;go_simp;exact aF)
       refine bq rfl rfl (fun o b=>?_);go_simp;refine(eK t.drew (an r.drew) A l I.out).mono ?_;rintro e p ⟨rfl,q,B⟩;have u:aJ t.drew p:=by rw[<- B];exact⟨rfl,rfl,rfl,aq _,fun _ _=>rfl⟩
       have D:dz p A l:=by rw[<- B];exact I.out
       have F:Below w.heap.size w p:=r.drew.trans (u.mono r.size);clear B;refine⟨_,rfl,u,b _ _ ?_⟩;clear b o z C;have z:∀a,aJ p a -> a.cell? ⟨y,1,none⟩=some (.int .u32 (g:Int)):=fun a hh=>E.out t r a (bC _ _ _ u hh)
       have C:∀a,aJ p a -> a.cell? ⟨y,2,none⟩=some (.slice P k Q):=fun a hh=>G.out t r a (bC _ _ _ u hh)
       rw[W];go_simp;apply aG;rfl;intro a c;go_simp;exact aF
       repeat (apply bE;rfl;rfl;go_simp;go_simp;rfl;apply aG;rfl;intro a c;go_simp;exact aF)
       refine bq rfl rfl (fun o b=>?_);go_simp;refine(eZ p A l D 0 (by omega)).mono ?_;rintro e a ⟨rfl,rfl⟩;refine⟨_,rfl,bF _,b _ _ ?_⟩;clear b o;go_simp;apply aG;rfl;intro a c;go_simp;exact aF
       repeat (apply bE;rfl;rfl;go_simp;go_simp;rfl;apply aG;rfl;intro a c;go_simp;exact aF)
       refine aY ?_;clear z C;go_wp2_with fail;go_ret2;rw[ar.out x];exact⟨rfl,F⟩
     ·have bM:¬(m:Int)<(T:Int):=by omega
      obtain rfl:m=T:=by omega
      have aR:takes n=max 1 ((n+47)/48):=rfl;have bD:n <= 48*m:=by have:=HT.out;omega
      have ai:(eq M.S g f m).length=48*m:=gu _ (fun s hs=>by obtain⟨L,-,hL⟩:=Hd.out.secs;exact hL.2.2 s hs) _ _ _ (fun j hj=>fv _ _ _ (by rw[aa.out];omega));have aU:=aO.of_owns aK (fun q=>w.heap.size <= q /\ q<wr.heap.size) (fun q h1 h2=>⟨h1,h2⟩);have bh:dd M.S g k f=some ((eq M.S g f m).take n):=by rw[a5.out,if_pos al]
      generalize eq M.S g f m=bo at *;obtain⟨av,cv,rfl,bH,b8,-,-⟩:=id aU;have ba:=aU.take n (by omega);have a8:(bo.take n).length <= 65536:=by simp;omega
      have bx:=ae bh;have bs:=ae ba;have bp:=ae a8;clear bh ba a8 aU aK al aR;rw[ai] at bH⊢;clear ai;have bY:(n:Int) <= (cv:Int):=by omega
      go_wp2_with fail;go_ret2;rw[bx.out];exact⟨⟨_,rfl,bs.out,bp.out⟩,aI⟩
/- Open. -/
end
section
attribute [local go_sem] opC upC told bG br bH bt bw bI bJ
def qp(S:List (List UInt8))(a:Bool×Nat)(i:Nat):Bool×Nat:=
 if eH (S.getD i []) i&&(!a.1 || decide (a.2<bK (S.getD i []) 4)) then(true,bK (S.getD i []) 4) else a
def fQ(S:List (List UInt8)):Nat -> Bool×Nat
 |0=>(false,0)
 |m+1=>qp S (fQ S m) m
theorem Dt(x y:Bool)(p q:Nat):(if y&&(!x || decide (p<q)) then some q else if x then some p else none) =
 (if(if y&&(!(if x&&(!false || decide (0<p)) then(true,p) else(false,0)).1 || decide ((if x&&(!false || decide (0<p)) then(true,p) else(false,0)).2<q)) then(true,q) else(if x&&(!false || decide (0<p)) then(true,p) else(false,0))).1 then
  some (if y&&(!(if x&&(!false || decide (0<p)) then(true,p) else(false,0)).1 || decide ((if x&&(!false || decide (0<p)) then(true,p) else(false,0)).2<q)) then(true,q) else(if x&&(!false || decide (0<p)) then(true,p) else(false,0))).2 else none):=by
 cases x<;>cases y<;>by_cases h:p<q<;>simp[h]
theorem zE(S:List (List UInt8)):genM S=if(fQ S 2).1 then some (fQ S 2).2 else none:=Dt _ _ _ _
theorem oG(S:List (List UInt8)):∀m,(fQ S m).2<4294967296
 |0=>by simp[fQ]
 |m+1=>by
  simp only[fQ,qp];split
  ·exact lW _ _
  ·exact oG S m
theorem oH{S:List (List UInt8)}{g k p:Nat}(a:∀s∈S,s.length=64)(h:dd S g k p=some l):p+takes l.length <= aW S.length /\ l.length <= 65536:=by
 unfold dd at h;split at h
 ·cases h
 ·rename_i o;dsimp only at h;generalize m:bK (cN S g p) 8=n at h;split at h
  ·cases h
  ·rename_i r;split at h
   ·rename_i q;have e:takes n=max 1 ((n+47)/48):=rfl;have i:=gu S a g p (takes n) (fun j f=>fv _ _ _ (by omega));have c:=Option.some.inj h;have d:l.length=n:=by rw[<- c];simp;omega
    rw[d];omega
   ·cases h
theorem kw{S:List (List UInt8)}(h:dd S i j o=none)(f:Nat):dE S i f j o = []:=by
 cases f with
 |zero=>rfl
 |succ f=>simp[dE,h]
theorem kC{S:List (List UInt8)}(h:dd S i j o=some l)(f:Nat):dE S i (f+1) j o=l::dE S i f (j+1) (o+takes l.length):=by
 simp[dE,h]
def Ea(w:World)(jb a:Nat)(S:List (List UInt8))(f i:Value)(wr:World):Prop:=
 ∃m:Nat,m <= 2 /\ i=.int .i64 (m:Int) /\ f=.bool (fQ S m).1 /\ dZ wr jb a (fQ S m).2 (.slice none 0 0) 0 false /\ Below w.heap.size w wr
def Eb(w:World)(jb d g:Nat)(S:List (List UInt8))(v:Value)(wr:World):Prop:=
 ∃(a:Option Addr)(c:Nat)(R:aX)(L:List (List UInt8)),v=v /\ dZ wr jb d g (.slice a L.length c) (aM L) false /\ bX R wr 0 (.slice a L.length c) L /\
  (∀b,(Value.slice a L.length c).ownBlock=some b \/ R b -> w.heap.size <= b /\ b≠jb /\ b<wr.heap.size) /\ aM L <= aW S.length /\ (∀b∈L,b.length <= 65536) /\
  dE S g (aW S.length+1) 0 0=L++dE S g (aW S.length+1-L.length) L.length (aM L) /\ Below w.heap.size w wr
def oI(jb:Nat)(wr:World):Nat:=(intOf ((wr.cell? ⟨jb,3,none⟩).getD (.int .i64 0))).toNat
def Cb(w:World)(K:DK)(M:MD)(r:MJ ⊕ Int)(e:Ending)(d:World):Prop:=
 (match r with
  |.inr c=>e=.returned (.tuple #[.pointer none,.int .i64 c])
  |.inl J=>∃a,e=.returned (.tuple #[.pointer (some ⟨a.j,0,none⟩),.int .i64 0]) /\ a.K=K /\ JAt d a M J /\ ∀b,a.all b -> K.foot b \/ w.heap.size <= b) /\ Below w.heap.size w d
theorem Cc(K:DK)(M:MD)(W:bT w K M)(hq:de w):
 Calls aE 48 #[.pointer (some ⟨K.d,0,none⟩)] w (Cb w K M (fN M)):=by
 have hc:=rj w K M W;have h0:0<w.heap.size:=by obtain⟨t,fz,hh⟩:=hq;exact lt_of_block hh
 have bv:=W.le;have ag:=Bp w K M W;have Hc:=ae hc;have aX:=ae ag;clear hc ag
 by_cases h8:M.S.length<8
 ·have Hr:=ae (show fN M=.inr 6 by unfold fN;rw[if_pos h8]);have U:=Hc.out;rw[if_pos h8] at U
  go_enter func48,ntmps48
  go_wp2_with fail;refine U.mono ?_;rintro e F ⟨rfl,rfl⟩;clear U;go_wp2_with fail;go_ret2;rw[Hr.out];exact⟨rfl,Below.refl _ _⟩
 have U:=Hc.out;rw[if_neg h8] at U;have aV:=ae U;clear U Hc
 by_cases av:M.down=true
 ·have Hr:=ae (show fN M=.inr 341 by unfold fN;rw[if_neg h8,if_pos av])
  go_enter func48,ntmps48
  go_wp2_with fail;refine aV.out.mono ?_;rintro e F ⟨rfl,rfl⟩;go_wp2_with fail;refine aX.out.mono ?_;rintro e F ⟨rfl,rfl⟩;rw[av];go_wp2_with fail;go_ret2;rw[Hr.out];exact⟨rfl,Below.refl _ _⟩
 have ag:M.down=false:=by simpa using av
 have Hr:=ae (show fN M=match genM M.S with|none=>.inr 340|some g=>.inl ⟨g,dE M.S g (aW M.S.length+1) 0 0,false⟩ by unfold fN;rw[if_neg h8,if_neg av];rfl);clear av
 go_enter func48,ntmps48
 go_wp2_with fail;refine aV.out.mono ?_;rintro e F ⟨rfl,rfl⟩;go_wp2_with fail;refine aX.out.mono ?_;rintro e F ⟨rfl,rfl⟩;rw[ag];go_wp2_with fail;obtain⟨jb,az⟩:=aQ w.heap.size
 have a4:dZ (w.alloc (.cells #[.pointer (some ⟨K.d,0,none⟩),.int .u32 0,.slice none 0 0,.int .i64 0,.bool false] 141)) jb K.d 0 (.slice none 0 0) 0 false:=by
  rw[az];exact Blk.new w #[.pointer (some ⟨K.d,0,none⟩),.int .u32 0,.slice none 0 0,.int .i64 0,.bool false] 141
 have a6:=aI w (.cells #[.pointer (some ⟨K.d,0,none⟩),.int .u32 0,.slice none 0 0,.int .i64 0,.bool false] 141);have Z:∀{F},Below w.heap.size w F -> de F:=fun n=>hq.keep (n.block 0 h0)
 have aL:∀{F},Below w.heap.size w F -> bT F K M:=fun n=>W.kept n
 have aF:w.heap.size <= jb:=by omega
 have bz:(w.alloc (.cells #[.pointer (some ⟨K.d,0,none⟩),.int .u32 0,.slice none 0 0,.int .i64 0,.bool false] 141)).heap.size=w.heap.size+1:=by simp
 rw[<- az];have be:=ae az;clear az
 go_loopw [6,22] (fun f i wr=>Ea w jb K.d M.S f i wr) (fun _ i _=>2-(intOf i).toNat)
 case atStart=>exact⟨0,by omega,rfl,rfl,a4,a6⟩
 case round=>
  obtain⟨m,Y,rfl,rfl,p,k⟩:=hrel;clear a4 a6
  by_cases bw:m<2
  ·have bn:(m:Int)<2:=by omega
   have aN:=pv wr jb K.d _ _ _ _ K M p (aL k) rfl m (by omega) ag;obtain⟨j,aP⟩:=aH (M.S.getD m []);rw[aP] at aN
   have aR:fQ M.S (m+1)=if eH j m&&(!(fQ M.S m).1 || decide ((fQ M.S m).2<bK j 4)) then(true,bK j 4) else fQ M.S m:=by
    simp only[fQ,qp,aP]
   have X:=oG M.S m;obtain⟨st,ak⟩:=aH (fQ M.S m);rw[ak] at aR p X⊢;have ab:=ae aN;have ad:=ae aR;have h4:=lW j 4;clear aN aR ak aP;obtain⟨fd,H⟩:=st;dsimp only at X;cases Q:dm j with
   |false=>
    have E:fQ M.S (m+1)=(fd,H):=by rw[ad.out,if_neg (by simp[eH,Q])]
    go_wp2_with fail;refine ab.out.mono ?_;rintro e B ⟨x,rfl,ay,r,c⟩;go_wp2_with fail;refine(eZ B x j r 4 (by omega)).mono ?_;rintro e F ⟨rfl,rfl⟩;go_wp2_with fail;refine(eK B (Z (k.trans (c.mono k.size))) x j r).mono ?_;rintro e o ⟨rfl,q,A⟩;have z:Below wr.heap.size wr o:=by rw[<- A];exact⟨c.os,c.tape,c.output,c.size,c.block⟩
    have u:dz o x j:=by rw[<- A];exact r
    have D:Below w.heap.size w o:=k.trans (z.mono k.size);have y:dZ o jb K.d H (.slice none 0 0) 0 false:=Blk.keep p (z.block jb (Blk.lt p));have ar:=gL (aO.take (a:=some ⟨x,0,none⟩) (cap:=64) (l:=j) (by have:=u.bytes;rw[u.2];exact this) 4 (by rw[u.2];omega));clear A c r z;rw[Q];have C:=ae E;have V:=ae y;have T:=ae D;have G:=y.cell 1;simp at G;clear E y D u k p;go_wp2_with fail
    go_roundw
    case rel=>exact⟨m+1,by omega,by go_num,by rw[C.out],by rw[C.out];exact V.out,T.out⟩
    case measure=>simp[intOf];omega
   |true=>
    by_cases a8:j.take 4 = [72,78,75,74]
    ·by_cases bx:(bK j 4:Int)%2=(m:Int)
     ·have aG:bK j 4%2=m:=by omega
      have ax:eH j m=true:=by simp[eH,Q,a8,aG,dp]
      cases fd with
      |false=>
       have E:fQ M.S (m+1)=(true,bK j 4):=by rw[ad.out,if_pos (by simp[ax])]
       clear ax aG;go_wp2_with fail;refine ab.out.mono ?_;rintro e B ⟨x,rfl,ay,r,c⟩;go_wp2_with fail;refine(eZ B x j r 4 (by omega)).mono ?_;rintro e F ⟨rfl,rfl⟩;go_wp2_with fail;refine(eK B (Z (k.trans (c.mono k.size))) x j r).mono ?_;rintro e o ⟨rfl,q,A⟩;have z:Below wr.heap.size wr o:=by rw[<- A];exact⟨c.os,c.tape,c.output,c.size,c.block⟩
       have u:dz o x j:=by rw[<- A];exact r
       have D:Below w.heap.size w o:=k.trans (z.mono k.size);have y:dZ o jb K.d H (.slice none 0 0) 0 false:=Blk.keep p (z.block jb (Blk.lt p));have ar:=gL (aO.take (a:=some ⟨x,0,none⟩) (cap:=64) (l:=j) (by have:=u.bytes;rw[u.2];exact this) 4 (by rw[u.2];omega));clear A c r z;rw[Q];have C:=ae E;have G:=y.cell 1;have f1:=y.free 1;simp at G
       have J:dZ (o.setCell ⟨jb,1,none⟩ (.int .u32 (bK j 4:Int))) jb K.d (bK j 4) (.slice none 0 0) 0 false:=by
        have:=y.set 1 (.int .u32 (bK j 4:Int));simpa[dZ] using this
       have ao:Below w.heap.size w (o.setCell ⟨jb,1,none⟩ (.int .u32 (bK j 4:Int))):=D.setCell aF _;have an:=ae J;have al:=ae ao;clear E y D u k p J ao;go_wp2_with fail
       go_roundw
       case rel=>exact⟨m+1,by omega,by go_num,by rw[C.out],by rw[C.out];exact an.out,al.out⟩
       case measure=>simp[intOf];omega
      |true=>
       by_cases bt:(H:Int)<(bK j 4:Int)
       ·have E:fQ M.S (m+1)=(true,bK j 4):=by rw[ad.out,if_pos (by simp[ax];omega)]
        clear ax aG;go_wp2_with fail;refine ab.out.mono ?_;rintro e B ⟨x,rfl,ay,r,c⟩;go_wp2_with fail;refine(eZ B x j r 4 (by omega)).mono ?_;rintro e F ⟨rfl,rfl⟩;go_wp2_with fail;refine(eK B (Z (k.trans (c.mono k.size))) x j r).mono ?_;rintro e o ⟨rfl,q,A⟩;have z:Below wr.heap.size wr o:=by rw[<- A];exact⟨c.os,c.tape,c.output,c.size,c.block⟩
        have u:dz o x j:=by rw[<- A];exact r
        have D:Below w.heap.size w o:=k.trans (z.mono k.size);have y:dZ o jb K.d H (.slice none 0 0) 0 false:=Blk.keep p (z.block jb (Blk.lt p));have ar:=gL (aO.take (a:=some ⟨x,0,none⟩) (cap:=64) (l:=j) (by have:=u.bytes;rw[u.2];exact this) 4 (by rw[u.2];omega));clear A c r z;rw[Q];have C:=ae E;have G:=y.cell 1;have f1:=y.free 1;simp at G
        have J:dZ (o.setCell ⟨jb,1,none⟩ (.int .u32 (bK j 4:Int))) jb K.d (bK j 4) (.slice none 0 0) 0 false:=by
         have:=y.set 1 (.int .u32 (bK j 4:Int));simpa[dZ] using this
        have ao:Below w.heap.size w (o.setCell ⟨jb,1,none⟩ (.int .u32 (bK j 4:Int))):=D.setCell aF _;have an:=ae J;have al:=ae ao;clear E y D u k p J ao;go_wp2_with fail
        go_roundw
        case rel=>exact⟨m+1,by omega,by go_num,by rw[C.out],by rw[C.out];exact an.out,al.out⟩
        case measure=>simp[intOf];omega
       ·have E:fQ M.S (m+1)=(true,H):=by rw[ad.out,if_neg (by simp;omega)]
        clear ax aG;go_wp2_with fail;refine ab.out.mono ?_;rintro e B ⟨x,rfl,ay,r,c⟩;go_wp2_with fail;refine(eZ B x j r 4 (by omega)).mono ?_;rintro e F ⟨rfl,rfl⟩;go_wp2_with fail;refine(eK B (Z (k.trans (c.mono k.size))) x j r).mono ?_;rintro e o ⟨rfl,q,A⟩;have z:Below wr.heap.size wr o:=by rw[<- A];exact⟨c.os,c.tape,c.output,c.size,c.block⟩
        have u:dz o x j:=by rw[<- A];exact r
        have D:Below w.heap.size w o:=k.trans (z.mono k.size);have y:dZ o jb K.d H (.slice none 0 0) 0 false:=Blk.keep p (z.block jb (Blk.lt p));have ar:=gL (aO.take (a:=some ⟨x,0,none⟩) (cap:=64) (l:=j) (by have:=u.bytes;rw[u.2];exact this) 4 (by rw[u.2];omega));clear A c r z;rw[Q];have C:=ae E;have V:=ae y;have T:=ae D;have G:=y.cell 1;simp at G;clear E y D u k p;go_wp2_with fail
        go_roundw
        case rel=>exact⟨m+1,by omega,by go_num,by rw[C.out],by rw[C.out];exact V.out,T.out⟩
        case measure=>simp[intOf];omega
     ·have E:fQ M.S (m+1)=(fd,H):=by rw[ad.out,if_neg (by simp[eH];omega)]
      go_wp2_with fail;refine ab.out.mono ?_;rintro e B ⟨x,rfl,ay,r,c⟩;go_wp2_with fail;refine(eZ B x j r 4 (by omega)).mono ?_;rintro e F ⟨rfl,rfl⟩;go_wp2_with fail;refine(eK B (Z (k.trans (c.mono k.size))) x j r).mono ?_;rintro e o ⟨rfl,q,A⟩;have z:Below wr.heap.size wr o:=by rw[<- A];exact⟨c.os,c.tape,c.output,c.size,c.block⟩
      have u:dz o x j:=by rw[<- A];exact r
      have D:Below w.heap.size w o:=k.trans (z.mono k.size);have y:dZ o jb K.d H (.slice none 0 0) 0 false:=Blk.keep p (z.block jb (Blk.lt p));have ar:=gL (aO.take (a:=some ⟨x,0,none⟩) (cap:=64) (l:=j) (by have:=u.bytes;rw[u.2];exact this) 4 (by rw[u.2];omega));clear A c r z;rw[Q];have C:=ae E;have V:=ae y;have T:=ae D;have G:=y.cell 1;simp at G;clear E y D u k p;go_wp2_with fail
      go_roundw
      case rel=>exact⟨m+1,by omega,by go_num,by rw[C.out],by rw[C.out];exact V.out,T.out⟩
      case measure=>simp[intOf];omega
    ·have E:fQ M.S (m+1)=(fd,H):=by rw[ad.out,if_neg (by simp[eH,dp,a8])]
     go_wp2_with fail;refine ab.out.mono ?_;rintro e B ⟨x,rfl,ay,r,c⟩;go_wp2_with fail;refine(eZ B x j r 4 (by omega)).mono ?_;rintro e F ⟨rfl,rfl⟩;go_wp2_with fail;refine(eK B (Z (k.trans (c.mono k.size))) x j r).mono ?_;rintro e o ⟨rfl,q,A⟩;have z:Below wr.heap.size wr o:=by rw[<- A];exact⟨c.os,c.tape,c.output,c.size,c.block⟩
     have u:dz o x j:=by rw[<- A];exact r
     have D:Below w.heap.size w o:=k.trans (z.mono k.size);have y:dZ o jb K.d H (.slice none 0 0) 0 false:=Blk.keep p (z.block jb (Blk.lt p));have ar:=gL (aO.take (a:=some ⟨x,0,none⟩) (cap:=64) (l:=j) (by have:=u.bytes;rw[u.2];exact this) 4 (by rw[u.2];omega));clear A c r z;rw[Q];have C:=ae E;have V:=ae y;have T:=ae D;have G:=y.cell 1;simp at G;clear E y D u k p;go_wp2_with fail
     go_roundw
     case rel=>exact⟨m+1,by omega,by go_num,by rw[C.out],by rw[C.out];exact V.out,T.out⟩
     case measure=>simp[intOf];omega
  ·have bn:¬(m:Int)<2:=by omega
   obtain rfl:m=2:=by omega
   have ai:=zE M.S;have X:=oG M.S 2;obtain⟨st,ak⟩:=aH (fQ M.S 2);rw[ak] at p ai X⊢;obtain⟨fd,g⟩:=st;dsimp only at p ai X⊢;cases fd with
   |false=>
    have I:=Hr.out;rw[ai] at I;have aK:=ae I;clear I ai ak;go_wp2_with fail;go_ret2;rw[aK.out];exact⟨rfl,k⟩
   |true=>
    have I:=Hr.out;rw[ai] at I;have aK:=ae I;clear I ai ak;have hS:∀s∈M.S,s.length=64:=by obtain⟨L,-,hL⟩:=W.secs;exact hL.2.2
    go_wp2_with fail
    go_loopw [10] (fun v wr=>Eb w jb K.d g M.S v wr) (fun _ wr=>aW M.S.length+1-oI jb wr)
    case atStart=>exact⟨none,0,none_,[],rfl,by simpa[aM] using p,bX.nil _ 0,fun b n=>by rcases n with n|n;exact absurd n (by simp[Value.ownBlock]);exact n.elim,by simp[aM],by simp,by simp[aM],k⟩
    case round=>
     clear p k;obtain⟨ra,rc,R,L,-,p,I,N,bp,a7,aJ,k⟩:=hrel;have bs:=dB L;have hH:aW M.S.length <= 32768:=by unfold aW;omega
     have aS:=k.size;have a9:=Ca _ jb K.d g (aM L) L.length ra rc false K M p (aL k) rfl (Z k) ag (by omega) X (by omega) (by omega) (by omega);have bh:=ae a9;clear a9;go_wp2_with fail;refine bh.out.mono ?_;rintro e B ⟨Y,c⟩;cases aa:dd M.S g L.length (aM L) with
     |none=>
      rw[aa] at Y;dsimp only at Y;subst Y;have aY:dE M.S g (aW M.S.length+1) 0 0=L:=by rw[aJ,kw aa,List.append_nil]
      have bf:=ae aY;clear aY aJ aa;go_wp2_with fail;go_ret2;rw[aK.out];simp only[if_true];rw[bf.out];refine⟨⟨⟨jb,K,fun b=>(Value.slice ra L.length rc).ownBlock=some b \/ R b⟩,rfl,rfl,⟨aL (k.trans (c.mono aS)),⟨ra,rc,R,Blk.keep p (c.block jb (Blk.lt p)),I.kept c,fun b n=>n⟩,⟨fun h=>by have P:=W.lt _ h;have:=be.out;dsimp only at P;omega,fun b n=>⟨(N b n).2.1,fun h=>by have P:=W.lt _ h;have:=(N b n).1;omega,by have:=(N b n).2.2;have:=c.size;omega⟩⟩,by show 8 <= M.S.length;omega,bp,X,a7⟩,?_⟩,k.trans (c.mono aS)⟩;rintro b (n|n|n)
      ·exact .inr (by rw[n];exact aF)
      ·exact .inl n
      ·exact .inr (N b n).1
     |some O=>
      rw[aa] at Y;dsimp only at Y;obtain⟨v,rfl,a1,a0⟩:=Y;obtain⟨bm,-⟩:=oH hS aa
      have bd:dE M.S g (aW M.S.length+1) 0 0=(L++[O])++dE M.S g (aW M.S.length+1-(L++[O]).length) (L++[O]).length (aM (L++[O])):=by
       rw[aJ,show aW M.S.length+1-L.length=(aW M.S.length-L.length)+1 by omega,kC aa,d9];simp
      have a5:dZ B jb K.d g (.slice ra L.length rc) (aM L) false:=Blk.keep p (c.block jb (Blk.lt p));have a2:=k.trans (c.mono aS);have aZ:=uy B jb K.d g (aM L) _ false R L a5 (I.kept c) (fun b n=>⟨(N b n).2.1,by have:=(N b n).2.2;have:=c.size;omega⟩) _ v O a1 a0 (by omega) (by omega);have bg:=ae aZ;have bj:=ae bd;have aT:=p.cell 3;have bu:=Blk.lt p;have bB:=c.size;simp at aT;have bk:=ae aT;have bA:=dy O.length;clear aZ bd aJ aa a5 a1 I aT;go_wp2_with fail;refine bg.out.mono ?_;rintro e w4 ⟨rfl,bq,br,R',J,bc,ba,bo⟩
      have a3:Below w.heap.size w w4:=a2.trans (ba.below (fun b n=>by
       rcases n with n|n
       ·rw[n];exact aF
       ·exact(N b (.inl n)).1) a2.size)
      have aU:=J.cell 3;simp at aU;have an:=ae J;have bi:=ae bc;have al:=ae a3;have bl:=ae aU;clear J bc a3 aU ba;go_wp2_with fail
      go_roundw
      case rel=>
       refine⟨bq,br,R',L++[O],rfl,by rw[d9];simpa using an.out,by simpa using bi.out,fun b n=>?_,by rw[d9];exact bm,fun b n=>?_,bj.out,al.out⟩
       ·obtain⟨P,h2⟩:=bo b (by simpa using n);rcases P with P|P
        ·exact⟨(N b P).1,(N b P).2.1,h2⟩
        ·exact⟨by omega,by omega,h2⟩
       ·rcases List.mem_append.1 n with n|n
        ·exact a7 b n
        ·obtain rfl:=List.mem_singleton.1 n;exact a0
      case measure=>
       have e4:oI jb w4=aM L+takes O.length:=by unfold oI;rw[bl.out];simp[intOf];omega
       have e0:oI jb wr=aM L:=by unfold oI;rw[bk.out];simp[intOf]
       rw[e4,e0];omega
end
end Go.Proofs.YtobjdpngnfbicaaGreatDoor
