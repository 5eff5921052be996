/-
  RRef5 RItem RForg2 RMerge RMerge2
-/
import Derived.Test.YtobjdpngnfbicaaGreatDoorZO11
open Go.Lib renaming hid->ae
open Go.IntWalk renaming i64_in->af
open Nat renaming le_refl->aq,le_trans->au
open List renaming length_append->aA,getElem_mem->aC
open Go.Proofs.Tryz renaming prog->aE
set_option maxHeartbeats 8000000
set_option maxRecDepth 100000
set_option linter.all false
namespace Go.Proofs.YtobjdpngnfbicaaGreatDoor
open Go.RowKit
open Tryz
variable(w:World)(F:aX)(n k:Nat)(v:Value)(m:aU){W w':World}{r:aU}{y:List bR}
section
attribute [local go_sem ↓] aV
attribute [local go_sem] opC upC told bG br bH bt bw bI bJ
theorem ge{α:Type}(p:α -> Bool)(l:List α)(k:Nat)(h:k<l.length):(l.take (k+1)).filter p=(l.take k).filter p++(if p l[k] then[l[k]] else[]):=by
 rw[List.take_succ_eq_append_getElem h,List.filter_append]
 congr 1
 by_cases a:p l[k]=true
 ·rw[if_pos a,List.filter_cons,if_pos a];rfl
 ·rw[if_neg a,List.filter_cons,if_neg a];rfl
theorem sH(l:List bR)(y:bR)(j:Nat)(h:j<l.length):decide (y∈l.take (j+1))=(decide (y∈l.take j) || (l[j] == y)):=by
 rw[List.take_succ_eq_append_getElem h,Bool.eq_iff_iff];simp only[List.mem_append,List.mem_singleton,decide_eq_true_eq,Bool.or_eq_true,beq_iff_eq];exact⟨fun hh=>hh.imp id Eq.symm,fun hh=>hh.imp id Eq.symm⟩
theorem wN(h:dl F w v m)(da:∀x∈m.items,x.key.length <= 1000000000)(c8:∀x∈m.gone,x.key.length <= 1000000000)
 (d:Int) (G:aX) (lv:Value) (l:List bR) (aV:Rows G w 1 lv l.length (l.map eS)) (hl:l.length <= 100000) (hk:∀k∈l,k.length <= 1000000000):
 Calls aE 124 #[v,.int .i64 d,lv] w (ru w (cH m d l)):=by
 replace h:=h.mono (G:=fun b=>b<w.heap.size) fun b _ T=>T
 replace aV:=aV.mono (G:=fun b=>b<w.heap.size) fun b _ T=>T
 replace h:=o6 h 75
 obtain⟨a1,p1,a2,p2,a3,p3,wx,rfl,cT,bk,b9,Hx,bv⟩:=h;obtain⟨al,cl,rfl,-⟩:=aV.shape;obtain⟨c,aN⟩:=aQ (wx.alloc (.cells #[.slice none 0 0,.slice none 0 0,.slice none 0 0] 75));have cc:Below w.heap.size w c:=by rw[aN];exact bk.out.alloc bk.out.size _
 have cz:c.heap.size=w.heap.size+2:=by rw[aN];simp[b9.out]
 have k1:Blk c w.heap.size [.slice a1 m.seen.length p1,.slice a2 m.items.length p2,.slice a3 m.gone.length p3] 75:=by rw[aN];exact bv.out.alloc _
 have k2:Blk c (w.heap.size+1) [.slice none 0 0,.slice none 0 0,.slice none 0 0] 75:=by
  have:=Blk.new wx #[.slice none 0 0,.slice none 0 0,.slice none 0 0] 75;rw[aN,<- b9.out];exact this
 have E:=ae (show ∀W,Below c.heap.size c W -> Below w.heap.size w W /\ Blk W w.heap.size [.slice a1 m.seen.length p1,.slice a2 m.items.length p2,.slice a3 m.gone.length p3] 75 /\ Blk W (w.heap.size+1) [.slice none 0 0,.slice none 0 0,.slice none 0 0] 75 /\ cG (fun b=>b<w.heap.size) W (.slice a1 m.seen.length p1) (.slice a2 m.items.length p2) (.slice a3 m.gone.length p3) m /\ Rows (fun b=>b<w.heap.size) W 1 (.slice al l.length cl) l.length (l.map eS) from fun W M=>by
  have hB:Below w.heap.size w W:=cc.trans (M.mono (by omega))
  exact⟨hB,k1.keep (M.block _ k1.lt),k2.keep (M.block _ k2.lt),Hx.out.keep (w':=W) fun b T _=>(hB.block b T).trans (bk.out.block b T).symm,aV.keep (w':=W) fun b T _=>hB.block b T⟩)
 have HV:=ae (gY c _ (.agg #[.slice a1 m.seen.length p1,.slice a2 m.items.length p2,.slice a3 m.gone.length p3]) m ⟨_,_,_,rfl,(E.out c (Below.refl _ _)).2.2.2.1⟩ da c8);obtain⟨ok,ao⟩:=aH (bp m);rw[ao] at HV;obtain⟨c0,c1,c2⟩:=aS k1;have cQ:=ae aN;have cU:=ae cz;have ax:=ae ao;clear aN cc cz k1 k2 aV ao
 go_enter func124,ntmps124
 go_wp2_with fail;rw[<- cT.out,<- cQ.out];refine HV.out.mono ?_;rintro e w3 ⟨rfl,ay⟩;clear HV c0 c1 c2;cases ok with
 |false=>
  have R:=ae (show cH m d l=(.empty,5) by unfold cH;rw[ax.out];rfl);have n:=(E.out w3 ay).2.2.1;have az:=(E.out w3 ay).1;clear ay;obtain⟨wf,I,K,J⟩:=dJ n az (Nat.le_succ _) (.slice none 0 0) (.slice none 0 0) (.slice none 0 0);obtain⟨y0,y1,y2⟩:=aS n;have z0:=n.free 0;have z1:=n.free 1;have z2:=n.free 2;have Q:=ae (aS K);have X:=ae J;have Z:=ae I;clear I K J;go_wp2_with fail;rw[<- Z.out];obtain⟨q0,q1,q2⟩:=Q.out;exact bodyPost_ret (v:=.tuple #[.agg #[.slice none 0 0,.slice none 0 0,.slice none 0 0],.int .i64 5]) (by simp[results,results124,go_sem,q0,q1,q2]) rfl ⟨_,by rw[R.out],by rw[R.out];exact fF _ _,X.out⟩
 |true=>
  have HA:=ae (oB w3 _ _ d l (E.out w3 ay).2.2.2.2 (by omega) hk);obtain⟨dj,bG⟩:=aH (di d l);rw[bG] at HA;have bj:=ae bG;have bW:=ae ay;clear bG ay;go_wp2_with fail;refine HA.out.mono ?_;rintro e N ⟨rfl,cd⟩;have ab:Below c.heap.size c N:=bW.out.trans (cd.mono bW.out.size);clear HA cd;cases dj with
  |false=>
   have R:=ae (show cH m d l=(.empty,1) by unfold cH;rw[ax.out,bj.out];rfl);have n:=(E.out N ab).2.2.1;have az:=(E.out N ab).1;clear ab;obtain⟨wf,I,K,J⟩:=dJ n az (Nat.le_succ _) (.slice none 0 0) (.slice none 0 0) (.slice none 0 0);obtain⟨y0,y1,y2⟩:=aS n;have z0:=n.free 0;have z1:=n.free 1;have z2:=n.free 2;have Q:=ae (aS K);have X:=ae J;have Z:=ae I;clear I K J;go_wp2_with fail;rw[<- Z.out];obtain⟨q0,q1,q2⟩:=Q.out;exact bodyPost_ret (v:=.tuple #[.agg #[.slice none 0 0,.slice none 0 0,.slice none 0 0],.int .i64 1]) (by simp[results,results124,go_sem,q0,q1,q2]) rfl ⟨_,by rw[R.out],by rw[R.out];exact fF _ _,X.out⟩
  |true=>
   have ha:=(eW d l).1 bj.out;have f:=cq ax.out;have cs:=f.len;have dt:m.items.length <= 4096:=by have:=ax.out;unfold bp at this;simp at this;omega
   have de:m.gone.length <= 4096:=by have:=ax.out;unfold bp at this;simp at this;omega
   obtain⟨c0,c1,c2⟩:=aS (E.out N ab).2.1;have HC:=ae (pq N _ (.agg #[.slice a1 m.seen.length p1,.slice a2 m.items.length p2,.slice a3 m.gone.length p3]) m ⟨_,_,_,rfl,(E.out N ab).2.2.2.1⟩ (by omega) (by omega) (by omega));have a4:=ae ab;have Ha:=ae ha;have Hf:=ae f;have b7:=ae cs;clear ab ha f cs;go_wp2_with fail;refine HC.out.mono ?_;rintro e s ⟨⟨s1,s2,s3,rfl,D⟩,ce⟩;have a6:Below c.heap.size c s:=a4.out.trans (ce.mono a4.out.size);obtain⟨b1,t,dh⟩:=aK D.seen;obtain⟨b2,e2,rfl⟩:=aK D.items;obtain⟨b3,e3,rfl⟩:=aK D.gone;subst dh
   obtain⟨g,rfl⟩:∃g,b1=some ⟨g,0,none⟩:=by
    rcases D.seen.2 with⟨_,h0⟩|⟨g,cX,C,hv,_⟩
    ·have:=b7.out;omega
    ·simp at hv;exact⟨g,hv.1⟩
   obtain⟨q,rfl⟩:=Int.eq_ofNat_of_zero_le Ha.out.lo;have du:=Ha.out.hi;have hq:q<m.seen.length:=by have:=b7.out;omega
   have dv:(q:Int)<(m.seen.length:Int):=by omega
   obtain⟨x,O⟩:=aH m.seen[q];obtain⟨dw,dx⟩:=Hf.out.seen x (by rw[<- O];exact aC hq)
   have ct:iC m q=x+1:=by
    unfold iC;rw[Int.toNat_natCast,List.getD_eq_getElem?_getD,List.getElem?_eq_getElem hq,O];rfl
   obtain⟨cZ,c3⟩:N.heap.size <= g /\ g<s.heap.size:=by
    rcases D.seen.2 with⟨hh,_⟩|⟨g',cX,C,hv,M,hg,_⟩
    ·simp at hh
    ·simp at hv;obtain⟨rfl,-⟩:=hv;exact⟨M,lt_of_block hg⟩
   have e0:s.cell? ⟨g,q,none⟩=some (.int .i64 x):=by
    rw[D.seen.cellAt q (by simpa using hq)];simp[hq,O]
   have f0:=D.seen.frozenAt q;obtain⟨bT,ba⟩:=D.seen.stored q (.int .i64 (x+1));obtain⟨w6,aZ⟩:=aQ (s.setCell ⟨g,q,none⟩ (.int .i64 (x+1)));rw[<- aZ] at bT ba;have bV:w6.heap.size=s.heap.size:=by rw[aZ];simp[World.setCell]
   have cw:dG w6 N.heap.size (.slice (some ⟨g,0,none⟩) m.seen.length t) (.slice b2 m.items.length e2) (.slice b3 m.gone.length e3) ⟨cK m q,m.items,m.gone⟩:=by
    refine⟨?_,bY D.items D.seen (by decide) ba,bY D.gone D.seen (by decide) ba⟩;have h2:(cK m q).length=m.seen.length:=o4 m q
    have h3:(cK m q).map eI=(m.seen.map eI).set q (.int .i64 (x+1)):=by
     unfold cK;rw[List.map_set,Int.toNat_natCast,List.getD_eq_getElem?_getD,List.getElem?_eq_getElem hq,O];rfl
    show w6.ownsRow N.heap.size 3 1 _ (cK m q).length ((cK m q).map eI);rw[h2,h3];exact bT
   obtain⟨w7,a0⟩:=aQ (w6.alloc (.cells #[.slice (some ⟨g,0,none⟩) m.seen.length t,.slice none 0 0,.slice b3 m.gone.length e3] 75));have bH:Below w6.heap.size w6 w7:=by rw[a0];exact aI _ _
   have cx:=cw.below bH;have cB:Blk w7 s.heap.size [.slice (some ⟨g,0,none⟩) m.seen.length t,.slice none 0 0,.slice b3 m.gone.length e3] 75:=by rw[a0,<- bV];exact Blk.new _ _ _
   have ca:Below c.heap.size c w7:=by
    have h6:Below c.heap.size c w6:=by
     rw[aZ];exact a6.setCell (by have:=a4.out.size;show c.heap.size <= g;omega) _
    exact h6.trans (bH.mono h6.size)
   have c4:g<s.heap.size+1:=by omega
   have c5:g≠s.heap.size:=by omega
   have cR:=ae (show w7=(s.setCell ⟨g,q,none⟩ (.int .i64 (x+1))).alloc (.cells #[.slice (some ⟨g,0,none⟩) m.seen.length t,.slice none 0 0,.slice b3 m.gone.length e3] 75) by rw[a0,aZ]);have cA:w7.heap.size=s.heap.size+1:=by rw[a0];simp[bV]
   have cN:=ae cx;have cW:=ae cB;have cE:=ae ca;have dp:=ae ct;have dn:=ae a6;have dq:=ae cA;have b8:=ae a6.size;have cV:=ae (show c.heap.size <= N.heap.size from a4.out.size);clear HC ce a6 cw bT ba a0 aZ cx cB ca ct c0 c1 c2 O D hq bH bV cA;go_wp2_with fail;rw[<- cR.out];clear e0 f0 c4 c5 cZ c3
   have b6:=ae (show dG w7 c.heap.size (.slice (some ⟨g,0,none⟩) m.seen.length t) (.slice none 0 0) (.slice b3 m.gone.length e3) ⟨cK m q,[],m.gone⟩ from
    have hh:=cN.out.mono cV.out
    ⟨hh.seen,World.ownsRow_nil _ _ _ _,hh.gone⟩)
   go_loopw [9] (fun i wr=>∃k:Nat,k <= m.items.length /\ i=.int .i64 (k:Int) /\ Below c.heap.size c wr /\ ∃si sg,Blk wr s.heap.size [.slice (some ⟨g,0,none⟩) m.seen.length t,si,sg] 75 /\ dG wr c.heap.size (.slice (some ⟨g,0,none⟩) m.seen.length t) si sg ⟨cK m q,(m.items.take k).filter (fun x=>decide (x.key∉l)),(((m.items.take k).filter fun x=>decide (x.key∈l)).map dM).foldl (dK RGo.pl) m.gone⟩ /\ ((((m.items.take k).filter fun x=>decide (x.key∈l)).map dM).foldl (dK RGo.pl) m.gone).length <= 4096+k) (fun i _=>m.items.length-(intOf i).toNat)
   case atStart=>exact⟨0,by omega,rfl,cE.out,_,_,cW.out,b6.out,by simpa using de⟩
   case round=>
    obtain⟨k,ds,rfl,ck,si,sg,bF,H,bb⟩:=hrel;generalize cm:(((m.items.take k).filter fun x=>decide (x.key∈l)).map dM).foldl (dK RGo.pl) m.gone=C at H bb;generalize bL:(m.items.take k).filter (fun x=>decide (x.key∉l))=u at H
    have co:u.length <= k:=by
     rw[<- bL];exact au (List.length_filter_le _ _) (by simp;omega)
    obtain⟨ai,ci,rfl⟩:=aK H.items;obtain⟨ag,cg,rfl⟩:=aK H.gone;dsimp only at bF H bb⊢;have bn:=ae cm;have bs:=ae bL;have Y:=ae ck;have bh:=ae bF;have b5:=ae H;have bt:=ae bb;have b4:=ae co;clear cm bL ck bF H bb co b6;obtain⟨-,kA,-,bE,cb⟩:=E.out wr Y.out;obtain⟨c0,c1,c2⟩:=aS kA
    by_cases bM:k<m.items.length
    ·have c7:(k:Int)<(m.items.length:Int):=by omega
     obtain⟨bi,oi,rfl,-,-,cn⟩:=fB bE.items (by omega);obtain⟨x0,x1,x2,x3⟩:=cn k bM;obtain⟨a,bK⟩:=aH m.items[k];rw[bK] at x0 x1 x2 x3;have cM:=ae bK;obtain⟨V,bc⟩:=aQ (wr.alloc (.cells #[.string ⟨a.key.toArray⟩,.int .i64 a.dev,.int .i64 a.seq,.int .i64 a.val] 129));have cS:=ae bc;have cf:Below wr.heap.size wr V:=by rw[bc];exact aI _ _
     have kX:Blk V wr.heap.size [.string ⟨a.key.toArray⟩,.int .i64 a.dev,.int .i64 a.seq,.int .i64 a.val] 129:=by rw[bc];exact Blk.new _ _ _
     have bZ:=ae cf;have KX:=ae kX
     have HF:=ae (show ∀W,Below wr.heap.size wr W -> Below c.heap.size c W /\ Rows (fun b=>b<w.heap.size) W 1 (.slice al l.length cl) l.length (l.map eS) from fun W M=>by
      have h1:=Y.out.trans (M.mono Y.out.size);obtain⟨-,-,-,-,cY⟩:=E.out W h1
      exact⟨h1,cY⟩)
     clear cn bK bc cf kX kA bE cb;go_wp2_with fail;rw[<- cS.out];clear x0 x1 x2 x3 c0 c1 c2
     go_loopw [12,11] (fun j b B=>∃p:Nat,p <= l.length /\ j=.int .i64 (p:Int) /\ b=.bool (decide (a.key∈l.take p)) /\ Below V.heap.size V B) (fun j _ _=>l.length-(intOf j).toNat)
     case atStart=>exact⟨0,by omega,rfl,by simp,Below.refl _ _⟩
     case round=>
      rename World=>B
      obtain⟨p,dr,rfl,rfl,cj⟩:=hrel;have a5:=ae (show ∀W,Below V.heap.size V W -> Below wr.heap.size wr W /\ Blk W wr.heap.size [.string ⟨a.key.toArray⟩,.int .i64 a.dev,.int .i64 a.seq,.int .i64 a.val] 129 from fun W M=>⟨bZ.out.trans (M.mono bZ.out.size),KX.out.keep (M.block _ KX.out.lt)⟩);have av:=ae cj;clear cj
      by_cases hj:p<l.length
      ·have c6:(p:Int)<(l.length:Int):=by omega
       obtain⟨bl,ol,rfl,-,-,db⟩:=gF (HF.out B (a5.out B av.out).1).2 (by omega);obtain⟨y,hy⟩:=aH l[p];have a7:∀o,aJ B.drew o -> Below V.heap.size V o:=fun o hh=>av.out.drew.trans (RowKit.Below.mono hh av.out.size)
       have px:∀o,aJ B.drew o -> o.cell? ⟨wr.heap.size,0,none⟩=some (.string ⟨a.key.toArray⟩):=fun o hh=>(dX (a5.out o (a7 o hh)).2).1
       have pk:∀o,aJ B.drew o -> o.cell? ⟨bl,ol+p,none⟩=some (.string ⟨y.toArray⟩):=fun o hh=>by
        obtain⟨b',o',ch,-,-,dc⟩:=gF (HF.out o (a5.out o (a7 o hh)).1).2 (by omega);simp at ch;obtain⟨rfl,rfl⟩:=ch;have:=dc p hj;rw[hy] at this;exact this
       have bw:=ae (show decide (a.key∈l.take (p+1))=(decide (a.key∈l.take p) || (y == a.key)) by rw[sH l a.key p hj,hy]);generalize decide (a.key∈l.take p)=b0 at bw⊢;clear db hy;cases b0 with
       |false=>
        go_wp2_with fail;refine bS aJ (up 11 []) (by kernel_rfl) ?_;apply aG;rfl;intro o hC;go_simp;(repeat (simp(disch:=omega) only[af,if_pos];go_simp));exact aF;refine aY ?_;clear px pk a7;go_wp2_with fail
        go_roundw
        case rel=>exact⟨p+1,by omega,by go_num,by rw[bw.out];rfl,av.out.drew⟩
        case measure=>simp[intOf];omega
       |true=>
        go_wp2_with fail;refine bS aJ (up 11 []) (by kernel_rfl) ?_;apply aG;rfl;intro o hC;go_simp;(repeat (simp(disch:=omega) only[af,if_pos];go_simp));exact aF;refine aY ?_;clear px pk a7;go_wp2_with fail
        go_roundw
        case rel=>exact⟨p+1,by omega,by go_num,by rw[bw.out];rfl,av.out.drew⟩
        case measure=>simp[intOf];omega
      ·have c6:¬(p:Int)<(l.length:Int):=by omega
       obtain rfl:p=l.length:=by omega
       rw[List.take_length];have aM:=a5.out B av.out;have bd:=bh.out.keep (aM.1.block _ bh.out.lt);obtain⟨o0,o1,o2⟩:=aS bd;obtain⟨x0,x1,x2,x3⟩:=dX aM.2;have S:=b5.out.below aM.1;have ad:Below c.heap.size c B:=Y.out.trans (aM.1.mono Y.out.size);have ak:=ge (fun x:RIt=>decide (x.key∈l)) m.items k bM;have an:=ge (fun x:RIt=>decide (x.key∉l)) m.items k bM;rw[cM.out] at ak an;have bA:=ae bd;have cL:=ae S;have bg:=ae ad
       by_cases U:a.key∈l
       ·have hd:decide (a.key∈l)=true:=decide_eq_true U;rw[hd];rw[if_pos (by simpa using U)] at ak;rw[if_neg (by simpa using U)] at an;have bo:=ae ak;have bq:=ae an;clear hd ak an U;have hP:=tB B _ (.slice ag C.length cg) C (dM a) (Rows.of_owns S.gone) (by have:=bt.out;omega);have bQ:=mE RGo.pl C (dM a);generalize cv:dK RGo.pl C (dM a)=be at hP bQ;unfold goV dM at hP;have HP:=ae hP;have bv:=ae cv;have cP:=ae bQ;clear hP cv bQ bd S ad aM;go_wp2_with fail;refine HP.out.mono ?_;rintro e w9 ⟨⟨r,rfl,bN⟩,a8⟩;obtain⟨a9,c9,rfl⟩:=aK bN;have A:=bA.out.keep (a8.block _ bA.out.lt);clear o0 o1 o2 x0 x1 x2 x3;obtain⟨o0,o1,o2⟩:=aS A;have bB:=A.free 2;obtain⟨ar,L⟩:=aQ (w9.setCell ⟨s.heap.size,2,none⟩ (.slice a9 be.length c9));have aR:Below c.heap.size c w9:=bg.out.trans (a8.mono bg.out.size);have bf:=ae (show Below c.heap.size c ar by rw[L];exact aR.setCell (by show c.heap.size <= s.heap.size;exact b8.out) _);have bz:=ae (show Blk ar s.heap.size [.slice (some ⟨g,0,none⟩) m.seen.length t,.slice ai u.length ci,.slice a9 be.length c9] 75 by rw[L];exact A.set 2 _);have aP:(m.items.take (k+1)).filter (fun x=>decide (x.key∉l))=u:=by rw[bq.out,bs.out,List.append_nil]
        have aa:(((m.items.take (k+1)).filter fun x=>decide (x.key∈l)).map dM).foldl (dK RGo.pl) m.gone=be:=by
         rw[bo.out,List.map_append,List.foldl_append,bn.out];exact bv.out
        have br:=ae (show dG ar c.heap.size (.slice (some ⟨g,0,none⟩) m.seen.length t) (.slice ai u.length ci) (.slice a9 be.length c9) ⟨cK m q,(m.items.take (k+1)).filter (fun x=>decide (x.key∉l)),(((m.items.take (k+1)).filter fun x=>decide (x.key∈l)).map dM).foldl (dK RGo.pl) m.gone⟩ by
         rw[aP,aa];have cy:=cL.out.below a8;rw[L]
         exact⟨aL cy.seen A (by decide) _,aL cy.items A (by decide) _,aL (bP bN bg.out.size) A (by decide) _⟩)
        have bu:=ae (show((((m.items.take (k+1)).filter fun x=>decide (x.key∈l)).map dM).foldl (dK RGo.pl) m.gone).length <= 4096+(k+1) by
         rw[aa];have:=cP.out;have:=bt.out
         omega)
        have bx:=ae L;clear L aR aP aa bN a8 A HP;go_wp2_with fail;rw[<- bx.out];clear o0 o1 o2 bB
        go_roundw
        case rel=>exact⟨k+1,by omega,by go_num,bf.out,_,_,bz.out,br.out,bu.out⟩
        case measure=>simp[intOf];omega
       ·have hd:decide (a.key∈l)=false:=decide_eq_false U;rw[hd];rw[if_neg (by simpa using U)] at ak;rw[if_pos (by simpa using U)] at an;have bo:=ae ak;have bq:=ae an;clear hd ak an U;obtain⟨i0,t1,t2,t3,t4⟩:=info_parts ms;obtain⟨v5,w9,df,bO,aT⟩:=cu (P:=aE) B c.heap.size 72 129 underlying72 t1 t2 t3 t4 rfl (by decide) (.slice ai u.length ci) u.length _ S.items #[.string ⟨a.key.toArray⟩,.int .i64 a.dev,.int .i64 a.seq,.int .i64 a.val] rfl (by simp[Value.oneCell']) (by have:=b4.out;unfold maxLen;omega) (by have:=b4.out;omega) ad.size;obtain⟨a9,c9,rfl⟩:=aK bO;have aW:=bm S.items (aI B (.cells #[.string ⟨a.key.toArray⟩,.int .i64 a.dev,.int .i64 a.seq,.int .i64 a.val] 129));have A:=(bA.out.alloc (.cells #[.string ⟨a.key.toArray⟩,.int .i64 a.dev,.int .i64 a.seq,.int .i64 a.val] 129)).grownNe aW (by decide) aT;have cD:=bY (bm S.seen (aI B (.cells #[.string ⟨a.key.toArray⟩,.int .i64 a.dev,.int .i64 a.seq,.int .i64 a.val] 129))) aW (by decide) aT;have cC:=bY (bm S.gone (aI B (.cells #[.string ⟨a.key.toArray⟩,.int .i64 a.dev,.int .i64 a.seq,.int .i64 a.val] 129))) aW (by decide) aT;have aR:Below c.heap.size c w9:=ad.trans (((Below.refl c.heap.size B).alloc ad.size _).trans (Below.grownOwn aW aT (by have:=ad.size;simp;omega) (aq _)));obtain⟨ar,L⟩:=aQ (w9.setCell ⟨s.heap.size,1,none⟩ (.slice a9 (u.length+1) c9));have bf:=ae (show Below c.heap.size c ar by rw[L];exact aR.setCell (by show c.heap.size <= s.heap.size;exact b8.out) _);have bz:=ae (show Blk ar s.heap.size [.slice (some ⟨g,0,none⟩) m.seen.length t,.slice a9 (u.length+1) c9,.slice ag C.length cg] 75 by rw[L];exact A.set 1 _);have aP:(m.items.take (k+1)).filter (fun x=>decide (x.key∉l))=u++[a]:=by rw[bq.out,bs.out]
        have aa:(((m.items.take (k+1)).filter fun x=>decide (x.key∈l)).map dM).foldl (dK RGo.pl) m.gone=C:=by
         rw[bo.out,List.append_nil,bn.out]
        have br:=ae (show dG ar c.heap.size (.slice (some ⟨g,0,none⟩) m.seen.length t) (.slice a9 (u.length+1) c9) (.slice ag C.length cg) ⟨cK m q,(m.items.take (k+1)).filter (fun x=>decide (x.key∉l)),(((m.items.take (k+1)).filter fun x=>decide (x.key∈l)).map dM).foldl (dK RGo.pl) m.gone⟩ by
         rw[aP,aa,L];refine⟨aL cD A (by decide) _,?_,aL cC A (by decide) _⟩;dsimp only;rw[aA,gr]
         exact aL bO A (by decide) _)
        have bu:=ae (show((((m.items.take (k+1)).filter fun x=>decide (x.key∈l)).map dM).foldl (dK RGo.pl) m.gone).length <= 4096+(k+1) by
         rw[aa];have:=bt.out
         omega)
        obtain⟨p0,dk,dm⟩:=aS A;have bB:=A.free 1;have bx:=ae L;clear L aR aP aa bO A cD cC aW aT t1 t2 t3 t4 bd S ad aM;go_wp2_with fail;rw[<- bx.out];clear o0 o1 o2 bB p0 dk dm df
        go_roundw
        case rel=>exact⟨k+1,by omega,by go_num,bf.out,_,_,bz.out,br.out,bu.out⟩
        case measure=>simp[intOf];omega
    ·have c7:¬(k:Int)<(m.items.length:Int):=by omega
     obtain rfl:k=m.items.length:=by omega
     have bU:(⟨cK m q,u,C⟩:aU)=dg m q l:=by
      rw[<- tT m q l Hf.out];unfold mW;rw[<- bn.out,<- bs.out,List.take_length]
     have H:=b5.out;rw[bU] at H;have dd:m.seen.length=(dg m q l).seen.length:=(congrArg (fun z:aU=>z.seen.length) bU.symm).trans (o4 m q) |>.symm
     obtain⟨bJ,cr,cp⟩:=rz Hf.out Ha.out;have bD:=pt wr _ (.agg #[.slice (some ⟨g,0,none⟩) m.seen.length t,.slice ai u.length ci,.slice ag C.length cg]) (dg m q l) ⟨_,_,_,rfl,H.map bJ⟩ (fun x O=>by have:=cr x O;omega) (fun x O=>by have:=cp x O;omega);obtain⟨ok,ao⟩:=aH (bp (dg m q l));rw[ao] at bD
     have hu:cH m q l=if ok=true then(dg m q l,0) else(.empty,7):=by
      unfold cH fU;rw[ax.out,bj.out,ao];cases ok<;>rfl
     obtain⟨o0,o1,o2⟩:=aS bh.out;have bX:=ae bD;have R:=ae hu;have cF:=ae bJ;have cI:=ae H;clear bD hu bJ cr cp H bU dd ao kA bE cb;go_wp2_with fail;refine bX.out.mono ?_;rintro e w8 ⟨rfl,bI⟩;have bC:Below c.heap.size c w8:=Y.out.trans (bI.mono Y.out.size);have n:=(E.out w8 bC).2.2.1;have az:=(E.out w8 bC).1;have cJ:=ae (cI.out.below bI);clear bX bI bC o0 o1 o2;cases ok with
     |false=>
      have aO:=ae (show cH m q l=(.empty,7) from R.out.trans (if_neg Bool.false_ne_true));obtain⟨wf,I,K,J⟩:=dJ n az (Nat.le_succ _) (.slice none 0 0) (.slice none 0 0) (.slice none 0 0);obtain⟨y0,y1,y2⟩:=aS n;have z0:=n.free 0;have z1:=n.free 1;have z2:=n.free 2;have Q:=ae (aS K);have X:=ae J;have Z:=ae I;clear I K J;go_wp2_with fail;rw[<- Z.out];obtain⟨q0,q1,q2⟩:=Q.out;exact bodyPost_ret (v:=.tuple #[.agg #[.slice none 0 0,.slice none 0 0,.slice none 0 0],.int .i64 7]) (by simp[results,results124,go_sem,q0,q1,q2]) rfl ⟨_,by rw[aO.out],by rw[aO.out];exact fF _ _,X.out⟩
     |true=>
      have aO:=ae (show cH m q l=(dg m q l,0) from R.out.trans (if_pos rfl));obtain⟨wf,I,K,J⟩:=dJ n az (Nat.le_succ _) (.slice (some ⟨g,0,none⟩) m.seen.length t) (.slice ai u.length ci) (.slice ag C.length cg);obtain⟨y0,y1,y2⟩:=aS n;have z0:=n.free 0;have z1:=n.free 1;have z2:=n.free 2;have Q:=ae (aS K)
      have cO:=ae (show dG wf c.heap.size (.slice (some ⟨g,0,none⟩) m.seen.length t) (.slice ai u.length ci) (.slice ag C.length cg) (dg m q l) by
       rw[I]
       exact((cJ.out.setCell n _).setCell (n.set 0 _) _).setCell ((n.set 0 _).set 1 _) _)
      have X:=ae J;have Z:=ae I;clear I K J;go_wp2_with fail;rw[<- Z.out];obtain⟨q0,q1,q2⟩:=Q.out;exact bodyPost_ret (v:=.tuple #[.agg #[.slice (some ⟨g,0,none⟩) m.seen.length t,.slice ai u.length ci,.slice ag C.length cg],.int .i64 0]) (by simp[results,results124,go_sem,q0,q1,q2]) rfl ⟨_,by rw[aO.out],by rw[aO.out];exact⟨_,_,_,rfl,cO.out.mono (by have:=cU.out;omega),cF.out⟩,X.out⟩
theorem wO(h:dl F w v m)(e:∀x∈m.items,x.key.length <= 1000000000)(c:∀x∈m.gone,x.key.length <= 1000000000)
 (d:Int) (G:aX) (a:Value) (l:List bR) (g:Rows G w 1 a l.length (l.map eS)) (f:l.length <= 100000) (b:∀k∈l,k.length <= 1000000000):
 Calls aE 124 #[v,.int .i64 d,a] w (zx w (cH m d l)):=
 (wN w F v m h e c d G a l g f b).mono fun _ _ h=>h.post
end
def D9:RIt:=⟨[],0,0,0⟩
def EI(o:Option RIt):RIt:=match o with|some y=>y|none=>D9
theorem B6(h:dl F w v m)(d:bR)(c:Int):
 Calls aE 187 #[v,.string ⟨d.toArray⟩,.int .i64 c] w fun e w'=>e=.returned (.tuple #[itV (EI (dh RIt.pl m.items (d,c))),.bool (dh RIt.pl m.items (d,c)).isSome]) /\ Below w.heap.size w w':=by
 replace h:=j8 h 75
 obtain⟨a1,p1,a2,p2,a3,p3,n1,s,n3,wx,rfl,h,l1,l2,l3,ag,E,ai,an,R,ao,n,ak,c0,T,c2⟩:=h
 try rw[ag.out]
 try rw[E.out]
 try rw[ai.out]
 clear h c0 c2;obtain⟨z,r⟩:=aQ (wx.alloc (.cells #[.string ⟨#[]⟩,.int .i64 0,.int .i64 0,.int .i64 0] 129));have Z:Below w.heap.size w z:=by rw[r];exact R.out.alloc R.out.size _
 have kr:Blk z (w.heap.size+1) [.string ⟨#[]⟩,.int .i64 0,.int .i64 0,.int .i64 0] 129:=by rw[r,<- ao.out];exact Blk.new _ _ _
 have ka:Blk z w.heap.size [.slice a1 n1 p1,.slice a2 s p2,.slice a3 n3 p3] 75:=by rw[r];exact ak.out.alloc _
 have ab:=n.out.keep (w':=z) fun b _ az=>by rw[r];exact Below.heap_alloc _ _ _ az
 obtain⟨o,J⟩:=aH (dh RIt.pl m.items (d,c));rw[J];have S:=ae J;have al:=ae r;have P:=ae Z;have a:=ae kr;have ad:=ae ab;clear T;obtain⟨-,T,-⟩:=aS ka;clear J r Z kr ka ab n
 go_enter func187,ntmps187
 go_wp2_with fail;rw[<- an.out,<- al.out]
 go_loopw [8] (fun i wr=>∃k:Nat,k <= s /\ i=.int .i64 (k:Int) /\ wr=z /\ ∀j (l:j<m.items.length),j<k -> m.items[j].pl≠(d,c)) (fun i _=>s-(intOf i).toNat)
 case atStart=>exact⟨0,by omega,rfl,rfl,fun j _ l=>by omega⟩
 case round=>
  obtain⟨k,hk,rfl,rfl,Y⟩:=hrel;have C:=ae Y;clear Y
  by_cases ay:k<s
  ·have ax:(k:Int)<(s:Int):=by omega
   have aa:k<m.items.length:=by rw[E.out];exact ay
   obtain⟨b,aF,rfl,-,-,hc⟩:=fB ad.out.items (by omega);obtain⟨U,V,W,X⟩:=hc k aa;obtain⟨x,K⟩:=aH m.items[k];rw[K] at U V W X;have n:=ae K;clear hc K;obtain⟨g,f,A,B⟩:=x;dsimp only at U V W X
   by_cases p:g=d
   ·have ar:(g == d)=true:=by simpa using p
    by_cases q:f=c
    ·have av:(f == c)=true:=by simpa using q
     obtain rfl:o=some ⟨g,f,A,B⟩:=by
      rw[<- S.out,nk m.items (d,c) k aa C.out (by rw[n.out];show(g,f)=_;rw[p,q]),n.out]
     clear p q;obtain⟨wf,y,u,t⟩:=BE a.out P.out (Nat.le_succ _) (.string ⟨g.toArray⟩) (.int .i64 f) (.int .i64 A) (.int .i64 B);obtain⟨y0,y1,y2,y3⟩:=dX a.out;have z0:=a.out.free 0;have z1:=a.out.free 1;have z2:=a.out.free 2;have z3:=a.out.free 3;have Q:=ae (dX u);have D:=ae t;have H:=ae y;clear y u t;go_wp2_with fail;rw[<- H.out];obtain⟨L,M,N,O⟩:=Q.out;exact bodyPost_ret (v:=.tuple #[.agg #[.string ⟨g.toArray⟩,.int .i64 f,.int .i64 A,.int .i64 B],.bool true]) (by simp[results,results187,go_sem,L,M,N,O]) rfl ⟨rfl,D.out⟩
    ·have av:(f == c)=false:=by simpa using q
     have G:=ae (show RIt.pl ⟨g,f,A,B⟩≠(d,c) from fun e=>q (Prod.mk.inj e).2);clear p q;go_wp2_with fail
     go_roundw
     case rel=>exact⟨k+1,by omega,by go_num,by trivial,fun j l I=>by
      rcases Nat.lt_succ_iff_lt_or_eq.1 I with h|h
      ·exact C.out j l h
      ·subst h;rw[n.out];exact G.out⟩
     case measure=>simp[intOf];omega
   ·have ar:(g == d)=false:=by simpa using p
    have G:=ae (show RIt.pl ⟨g,f,A,B⟩≠(d,c) from fun e=>p (Prod.mk.inj e).1);clear p;go_wp2_with fail
    go_roundw
    case rel=>exact⟨k+1,by omega,by go_num,by trivial,fun j l I=>by
     rcases Nat.lt_succ_iff_lt_or_eq.1 I with h|h
     ·exact C.out j l h
     ·subst h;rw[n.out];exact G.out⟩
    case measure=>simp[intOf];omega
  ·have ax:¬(k:Int)<(s:Int):=by omega
   obtain rfl:o=none:=by
    rw[<- S.out,wj m.items (d,c) fun j l=>C.out j l (by rw[E.out] at l;omega)]
   obtain⟨wf,y,u,t⟩:=BE a.out P.out (Nat.le_succ _) (.string ⟨#[]⟩) (.int .i64 0) (.int .i64 0) (.int .i64 0);obtain⟨y0,y1,y2,y3⟩:=dX a.out;have z0:=a.out.free 0;have z1:=a.out.free 1;have z2:=a.out.free 2;have z3:=a.out.free 3;have Q:=ae (dX u);have D:=ae t;have H:=ae y;clear y u t;go_wp2_with fail;rw[<- H.out];obtain⟨L,M,N,O⟩:=Q.out;exact bodyPost_ret (v:=.tuple #[.agg #[.string ⟨#[]⟩,.int .i64 0,.int .i64 0,.int .i64 0],.bool false]) (by simp[results,results187,go_sem,L,M,N,O]) rfl ⟨rfl,D.out⟩
section
open Go.Sort
theorem jE.keepI{B b f d:Nat}{j:List RGo}(h:jE b f d W y j)(a:fh B W w'):jE b f d w' y j:=by
 obtain⟨⟨E,r,s⟩,⟨gv,t,u⟩⟩:=h
 have own:∀{c:Nat}{e:TypeId}{k n:Nat}{v:Value}{o:List Value},W.ownsRow c e k v n o -> e≠108 -> w'.ownsRow c e k v n o:=fun m A=>by
  refine⟨m.1,?_⟩;rcases m.2 with q|⟨g,p,i,D,x,z,C⟩
  ·exact .inl q
  ·refine .inr ⟨g,p,i,D,x,?_,C⟩;have:=a.blk g i.toList _ z A;unfold Blk at this;simpa using this
 exact⟨⟨E,a.blk _ _ _ r (by decide),own s (by decide)⟩,⟨gv,a.blk _ _ _ t (by decide),own u (by decide)⟩⟩
theorem uF(B d i f:Nat)(D:B <= d)(c:List bR)(v:Value)(l:List RIt)(Q:w.ownsRow B 108 4 v l.length (l.flatMap bU))(N:l.length <= 1000000)(C:d <= w.heap.size)(J:d <= f)(O:c.length <= 1000000)(T:c.Pairwise fun a b=>a<b)(r:jE d i f w c []):
 Calls aE 108 #[v,.func (.func 109) #[] #[.pointer (some ⟨i,0,none⟩),.pointer (some ⟨f,0,none⟩)]] w fun e j=>
  ∃y,e=.returned y /\ j.ownsRow B 108 4 y (l.filter fun x=>!decide (x.key∈c)).length ((l.filter fun x=>!decide (x.key∈c)).flatMap bU) /\ jE d i f j c ((l.filter fun x=>decide (x.key∈c)).map dM) /\ fG B d w j:=by
 rcases Q.2 with⟨rfl,X⟩|⟨g,q,o,rfl,s,K,t,P,U,V⟩
 ·obtain rfl:=List.length_eq_zero_iff.1 X;refine(ry w).mono ?_;rintro e j ⟨rfl,rfl⟩;exact⟨_,rfl,World.ownsRow_nil _ _ _ _,r,fG.refl _ _ _⟩
 ·have u:o.toList=l.flatMap bU++o.toList.drop (l.length*4):=by
   rw[<- V,List.take_append_drop]
  have I:Blk w g (l.flatMap bU++o.toList.drop (l.length*4)) 108:=by
   rw[<- u];exact K
  have S:∀k x W,jE d i f W c ((k.filter fun x=>decide (x.key∈c)).map dM) -> d <= W.heap.size -> k.length <= 1000000 -> Calls aE 109 #[itV x,.pointer (some ⟨i,0,none⟩),.pointer (some ⟨f,0,none⟩)] W fun e j=>e=.returned (.bool (decide (x.key∈c))) /\ jE d i f j c (((k++[x]).filter fun x=>decide (x.key∈c)).map dM) /\ i7 d W j:=fun k x W p E R=>by
   refine(wM W d i f c _ x p O T (by rw[List.length_map];exact au (List.length_filter_le _ _) R) E J).mono ?_;rintro e j ⟨rfl,m,A⟩;refine⟨rfl,?_,A⟩;rw[List.filter_append,List.map_append]
   by_cases n:x.key∈c
   ·rw[if_pos n] at m;rw[List.filter_cons,if_pos (by simpa using n)];exact m
   ·rw[if_neg n] at m;rw[List.filter_cons,if_neg (by simpa using n)];simpa using m
  refine(zz (fun _ _=>by go_simp) (cp:=#[.pointer (some ⟨i,0,none⟩),.pointer (some ⟨f,0,none⟩)]) (fun k W=>jE d i f W c ((k.filter fun x=>decide (x.key∈c)).map dM)) (fun x=>decide (x.key∈c)) B d D S (fun k W W' h L=>h.keepI L) w g q _ l _ I rfl s N t C r).mono ?_;rintro e j ⟨⟨rfl,⟨z,F,G,H⟩,p⟩,M⟩;refine⟨_,rfl,⟨by rw[dQ bU 4 cX],.inr ⟨g,q,z.toArray,rfl,s,F,au (List.length_filter_le _ _) t,P,?_,H⟩⟩,p,M⟩;rw[List.size_toArray,G,<- u];exact U
theorem pX:un 58 cH:=by
 intro w hT h3 F v m h J aJ a6 bN d G lv l ba hl hk
 replace h:=o6 h 37
 obtain⟨a1,p1,a2,p2,a3,p3,wx,rfl,cz,bA,bE,Hx,cN⟩:=h;obtain⟨al,cl,rfl,-⟩:=ba.shape;obtain⟨wl,az⟩:=aQ (wx.alloc (.cells #[.slice al l.length cl] 32));obtain⟨j,aa⟩:=aQ (wl.alloc (.cells #[.slice none 0 0,.slice none 0 0,.slice none 0 0] 37));have bt:wl.heap.size=w.heap.size+2:=by rw[az];simp[bE.out]
 have aV:j.heap.size=w.heap.size+3:=by rw[aa];simp[bt]
 have aZ:Below w.heap.size w wl:=by rw[az];exact bA.out.alloc bA.out.size _
 have aP:Below w.heap.size w j:=by rw[aa];exact aZ.alloc aZ.size _
 have k1:Blk j (w.heap.size+1) [.slice al l.length cl] 32:=by
  have:=Blk.new wx #[.slice al l.length cl] 32;rw[<- az,bE.out] at this;rw[aa];exact this.alloc _
 have k2:Blk j (w.heap.size+1+1) [.slice none 0 0,.slice none 0 0,.slice none 0 0] 37:=by
  have:=Blk.new wl #[.slice none 0 0,.slice none 0 0,.slice none 0 0] 37;rw[<- aa,bt] at this;exact this
 have HR:=ae (show ∀W,Below j.heap.size j W -> Below w.heap.size w W /\ Blk W (w.heap.size+1) [.slice al l.length cl] 32 /\ Blk W (w.heap.size+1+1) [.slice none 0 0,.slice none 0 0,.slice none 0 0] 37 from fun W C=>⟨aP.trans (C.mono (by omega)),k1.keep (C.block _ k1.lt),k2.keep (C.block _ k2.lt)⟩);have HT:=ae (show ∀W,Below j.heap.size j W -> eJ W /\ 4 <= W.heap.size from fun W C=>⟨cd hT h3 (HR.out W C).1,au h3 (HR.out W C).1.size⟩);have bx:=ae (show ∀W,Below w.heap.size w W -> eJ W /\ 4 <= W.heap.size from fun W C=>⟨cd hT h3 C,au h3 C.size⟩)
 have HE:=ae (tf j (cd hT h3 aP) (by omega) _ (.agg #[.slice a1 m.seen.length p1,.slice a2 m.items.length p2,.slice a3 m.gone.length p3]) m ⟨_,_,_,rfl,Hx.out.keep (w':=j) fun b _ a8=>by
  rw[aa,az,Below.heap_alloc _ _ _ (by simp;omega),Below.heap_alloc _ _ _ a8]⟩ J aJ a6 bN d _ (.slice al l.length cl) l (ba.keep (w':=j) fun b _ a8=>aP.block b a8) hl hk)
 have cu:=ae (show j=(wx.alloc (.cells #[.slice al l.length cl] 32)).alloc (.cells #[.slice none 0 0,.slice none 0 0,.slice none 0 0] 37) by rw[aa,az]);have aN:=ae aV;have c2:=k1.cell 0;simp at c2;clear aa az bt aV aZ aP k2 hT ba J aJ hk
 go_enter func58,ntmps58
 go_wp2_with fail;rw[<- cz.out,<- cu.out];refine HE.out.mono ?_;rintro e g ⟨(⟨p,rfl⟩|⟨p,ak,rfl⟩|⟨p,ak,r,s,rfl,⟨s1,s2,s3,rfl,R⟩,bk⟩),P⟩
 ·have H:=ae (show cH m d l=(.empty,5) by unfold cH;rw[p];rfl);obtain⟨S,k,c⟩:=HR.out g P;have l0:=k.cell 0;have l1:=k.free 0;obtain⟨y0,y1,y2⟩:=aS c;have z0:=c.free 0;have z1:=c.free 1;have z2:=c.free 2;have bO:=k.lt;have bQ:=c.lt;simp at l0;obtain⟨o,n⟩:=aQ (g.setCell ⟨w.heap.size+1,0,none⟩ (.slice none 0 0));have L:Blk o (w.heap.size+1+1) [.slice none 0 0,.slice none 0 0,.slice none 0 0] 37:=by rw[n];exact c.set_other _ (by show w.heap.size+1+1≠w.heap.size+1;omega)
  have K:Below w.heap.size w o:=by rw[n];exact S.setCell (by show w.heap.size <= w.heap.size+1;omega) _
  obtain⟨wf,z,E,D⟩:=dJ L K (by omega) (.slice none 0 0) (.slice none 0 0) (.slice none 0 0);have aX:=ae n;have X:=ae z;have aF:=ae E;have I:=ae D;clear HE p P k1 c2 n z E D L K k c S;unfold eG;go_wp2_with fail;rw[<- aX.out,<- X.out];have aG:=aI wf (.cells #[.slice none 0 0,.slice none 0 0,.slice none 0 0] 37);have a5:=aF.out.keep (aG.block _ aF.out.lt);obtain⟨q0,q1,q2⟩:=aS a5;exact bodyPost_ret (v:=.tuple #[eG,.int .i64 5]) (by simp[results,results58,go_sem,q0,q1,q2,eG]) rfl ⟨⟨_,by rw[H.out],by rw[H.out];exact gK _ _,by rw[H.out];exact eT⟩,I.out.trans (aG.mono I.out.size)⟩
 ·have H:=ae (show cH m d l=(.empty,1) by unfold cH;rw[p,ak];rfl);clear ak;obtain⟨S,k,c⟩:=HR.out g P;have l0:=k.cell 0;have l1:=k.free 0;obtain⟨y0,y1,y2⟩:=aS c;have z0:=c.free 0;have z1:=c.free 1;have z2:=c.free 2;have bO:=k.lt;have bQ:=c.lt;simp at l0;obtain⟨o,n⟩:=aQ (g.setCell ⟨w.heap.size+1,0,none⟩ (.slice none 0 0));have L:Blk o (w.heap.size+1+1) [.slice none 0 0,.slice none 0 0,.slice none 0 0] 37:=by rw[n];exact c.set_other _ (by show w.heap.size+1+1≠w.heap.size+1;omega)
  have K:Below w.heap.size w o:=by rw[n];exact S.setCell (by show w.heap.size <= w.heap.size+1;omega) _
  obtain⟨wf,z,E,D⟩:=dJ L K (by omega) (.slice none 0 0) (.slice none 0 0) (.slice none 0 0);have aX:=ae n;have X:=ae z;have aF:=ae E;have I:=ae D;clear HE p P k1 c2 n z E D L K k c S;unfold eG;go_wp2_with fail;rw[<- aX.out,<- X.out];have aG:=aI wf (.cells #[.slice none 0 0,.slice none 0 0,.slice none 0 0] 37);have a5:=aF.out.keep (aG.block _ aF.out.lt);obtain⟨q0,q1,q2⟩:=aS a5;exact bodyPost_ret (v:=.tuple #[eG,.int .i64 1]) (by simp[results,results58,go_sem,q0,q1,q2,eG]) rfl ⟨⟨_,by rw[H.out],by rw[H.out];exact gK _ _,by rw[H.out];exact eT⟩,I.out.trans (aG.mono I.out.size)⟩
 ·have ha:=(eW d l).1 ak;have f:=cq p;have bc:(cK m d).length=m.seen.length:=o4 m d;have bo:(dw l).length=l.length:=(ej l).length_eq;obtain⟨A,B,bl⟩:=aK R.seen;obtain⟨b2,e2,bU⟩:=aK R.items;obtain⟨Y,Z,av⟩:=aK R.gone;dsimp only at bl bU av;rw[bc] at bl;subst bl bU av;obtain⟨bs,cs,rfl⟩:=aK bk;obtain⟨S,k,c⟩:=HR.out g P;have l0:=k.cell 0;have l1:=k.free 0;have bO:=k.lt;have bQ:=c.lt;simp at l0;obtain⟨o,n⟩:=aQ (g.setCell ⟨w.heap.size+1,0,none⟩ (.slice bs l.length cs));have bq:o.heap.size=g.heap.size:=by rw[n];simp[World.setCell]
  have bv:Blk o (w.heap.size+1) [.slice bs l.length cs] 32:=by rw[n];exact k.set 0 _
  have L:Blk o (w.heap.size+1+1) [.slice none 0 0,.slice none 0 0,.slice none 0 0] 37:=by rw[n];exact c.set_other _ (by show w.heap.size+1+1≠w.heap.size+1;omega)
  have K:Below w.heap.size w o:=by rw[n];exact S.setCell (by show w.heap.size <= w.heap.size+1;omega) _
  have bR:dW o j.heap.size (.slice A m.seen.length B) (.slice b2 m.items.length e2) (.slice Y m.gone.length Z) ⟨cK m d,m.items,m.gone⟩:=by
   rw[n];exact⟨aL R.seen k (by decide) _,aL R.items k (by decide) _,aL R.gone k (by decide) _⟩
  have bS:o.ownsRow j.heap.size 9 1 (.slice bs l.length cs) l.length ((dw l).map eS):=by rw[n];exact aL bk k (by decide) _
  obtain⟨w5,aM⟩:=aQ (o.alloc (.cells #[.slice A m.seen.length B,.slice b2 m.items.length e2,.slice Y m.gone.length Z] 37));obtain⟨w6,ay⟩:=aQ (w5.alloc (.cells #[.slice none 0 0] 35));have br:w5.heap.size=g.heap.size+1:=by rw[aM];simp[bq]
  have cI:w6.heap.size=g.heap.size+2:=by rw[ay];simp[br]
  have an:Below o.heap.size o w6:=by rw[ay,aM];exact(aI _ _).alloc (by simp) _
  have b5:Blk w6 g.heap.size [.slice A m.seen.length B,.slice b2 m.items.length e2,.slice Y m.gone.length Z] 37:=by
   rw[ay,aM,<- bq];exact(Blk.new _ _ _).alloc _
  have bZ:Blk w6 (g.heap.size+1) [.slice none 0 0] 35:=by
   rw[ay,<- br];exact Blk.new _ _ _
  have b6:=bv.keep (an.block _ bv.lt);have b8:=L.keep (an.block _ L.lt);have be:=bR.below an;have bT:=bm bS an;have bJ:∀b,(Value.slice Y m.gone.length Z).ownBlock=some b -> b<g.heap.size:=fun b C=>(R.gone.lt b C).2
  have bL:m.items.filter (fun x=>!decide (x.key∈dw l))=m.items.filter (fun x=>decide (x.key∉l)):=List.filter_congr fun x _=>by
   have:=(ej l).mem_iff (a:=x.key)
   by_cases h:x.key∈l<;>simp[this,h]
  have bM:m.items.filter (fun x=>decide (x.key∈dw l))=m.items.filter (fun x=>decide (x.key∈l)):=List.filter_congr fun x _=>by
   have:=(ej l).mem_iff (a:=x.key)
   by_cases h:x.key∈l<;>simp[this,h]
  have hD:=uF w6 j.heap.size g.heap.size (w.heap.size+1) (g.heap.size+1) P.size (dw l) (.slice b2 m.items.length e2) m.items be.items a6 (by omega) (by omega) (by rw[bo];exact hl) (nR l ha.nodup) ⟨⟨_,b6,by rw[bo];exact bP bT (Nat.zero_le _)⟩,⟨_,bZ,World.ownsRow_nil _ _ _ _⟩⟩;rw[bL,bM] at hD;obtain⟨q,J⟩:=aH (m.items.filter (fun x=>decide (x.key∉l)));obtain⟨O,aT⟩:=aH ((m.items.filter fun x=>decide (x.key∈l)).map dM);have cF:O.length <= 1000000:=by rw[<- aT,List.length_map];exact au (List.length_filter_le _ _) a6
  have bI:dg m d l=⟨cK m d,q,cE RGo.pl dL m.gone O⟩:=by rw[<- J,<- aT];rfl
  rw[J,aT] at hD;have bW:Below w.heap.size w w6:=K.trans (an.mono K.size);have HD:=ae hD;have cA:=ae b5;have cB:=ae b8;have bB:=ae be;have ch:=ae bJ;have cf:=ae bI;have cw:=ae (show w6=((g.setCell ⟨w.heap.size+1,0,none⟩ (.slice bs l.length cs)).alloc (.cells #[.slice A m.seen.length B,.slice b2 m.items.length e2,.slice Y m.gone.length Z] 37)).alloc (.cells #[.slice none 0 0] 35) by rw[ay,aM,n]);have cx:=ae bW;have cM:=ae bc;have co:=ae p;have cc:=ae ak;have Ha:=ae ha;have Hf:=ae f;have bz:=ae P.size;have cv:=ae (show w.heap.size <= j.heap.size by have:=aN.out;omega);clear HE p ak ha f bc bo R bk S k c bq bv L K bR bS n aM ay br cI an b5 bZ b6 b8 be bT bJ bL bM hD J aT bI bW P k1 c2;go_wp2_with fail;rw[<- cw.out];refine HD.out.mono ?_;rintro e w7 ⟨v',rfl,bh,cG,ar⟩;obtain⟨t,u,rfl⟩:=aK bh;have T:=ar.blk _ _ _ cA.out (by decide) (by decide) (by decide);have b9:=ar.blk _ _ _ cB.out (by decide) (by decide) (by decide);obtain⟨-,⟨gv,bu,bf⟩⟩:=cG;obtain⟨ag,cg,rfl⟩:=aK bf;have bV:=ar.own bB.out.seen (by decide) (by decide) (by decide);have bK:=ar.ownLow bB.out.gone ch.out (by decide);have bX:Below w.heap.size w w7:=cx.out.trans (ar.bel.mono cv.out);obtain⟨w8,ab⟩:=aQ (w7.setCell ⟨g.heap.size,1,none⟩ (.slice t q.length u));have aW:Blk w8 g.heap.size [.slice A m.seen.length B,.slice t q.length u,.slice Y m.gone.length Z] 37:=by rw[ab];exact T.set 1 _
  have b0:Blk w8 (g.heap.size+1) [.slice ag O.length cg] 35:=by rw[ab];exact bu.set_other _ (by show g.heap.size+1≠g.heap.size;omega)
  have av:j.heap.size <= g.heap.size:=bz.out;have ca:Blk w8 (w.heap.size+1+1) [.slice none 0 0,.slice none 0 0,.slice none 0 0] 37:=by rw[ab];exact b9.set_other _ (by show w.heap.size+1+1≠g.heap.size;have:=aN.out;omega)
  have bY:Below w.heap.size w w8:=by rw[ab];exact bX.setCell (by show w.heap.size <= g.heap.size;have:=aN.out;omega) _
  have bi:=aL (i:=1) bh T (by decide) (.slice t q.length u);have bn:=aL (i:=1) bV T (by decide) (.slice t q.length u);have a4:=aL (i:=1) bK T (by decide) (.slice t q.length u);have bg:=aL (i:=1) bf T (by decide) (.slice t q.length u);rw[<- ab] at bi bn a4 bg;have hM:=um.2 w8 _ _ (.slice Y m.gone.length Z) (.slice ag O.length cg) m.gone O 113 #[] dL (fun _ _=>by go_simp) (Rows.of_owns a4) (Rows.of_owns bg) bN cF (fun x _ y _ _ W _=>qX W x y) _ _ rfl rfl;obtain⟨U,bb⟩:=aH (cE RGo.pl dL m.gone O);rw[bb] at hM;obtain⟨o0,o1,o2⟩:=aS T;have cC:=T.free 1;obtain⟨p0,cJ,cL⟩:=aS aW;have g0:w8.cell? ⟨g.heap.size+1,0,none⟩=some (.slice ag O.length cg):=by simpa using b0.cell 0
  have g1:w7.cell? ⟨g.heap.size+1,0,none⟩=some (.slice ag O.length cg):=by simpa using bu.cell 0
  have HM:=ae hM;have bF:=ae aW;have bH:=ae ca;have cn:=ae bi;have cr:=ae bn;have ci:=ae bb;have bD:=ae bY;have cy:=ae ab;have cp:=ae (show j.heap.size <= w8.heap.size by have h1:=aW.lt;omega);clear bh T b9 bu bf bV bK bX ab aW b0 ca bY bi bn a4 bg hM bb ar HD av;go_wp2_with fail;rw[<- cy.out];refine HM.out.mono ?_;rintro e w9 ⟨r,rfl,bj,ao⟩;obtain⟨M,N,rfl⟩:=aK bj;have ad:=bF.out.keep (ao.block _ bF.out.lt);have cb:=bH.out.keep (ao.block _ bH.out.lt);obtain⟨ai,ax⟩:=aQ (w9.setCell ⟨g.heap.size,2,none⟩ (.slice M U.length N));have av:j.heap.size <= g.heap.size:=bz.out;have aV:=aN.out;have b4:Blk ai g.heap.size [.slice A m.seen.length B,.slice t q.length u,.slice M U.length N] 37:=by rw[ax];exact ad.set 2 _
  have b7:Blk ai (w.heap.size+1+1) [.slice none 0 0,.slice none 0 0,.slice none 0 0] 37:=by rw[ax];exact cb.set_other _ (by show w.heap.size+1+1≠g.heap.size;omega)
  have aU:Below w.heap.size w ai:=by rw[ax];exact(bD.out.trans (ao.mono bD.out.size)).setCell (by show w.heap.size <= g.heap.size;omega) _
  have bd:dW ai w.heap.size (.slice A m.seen.length B) (.slice t q.length u) (.slice M U.length N) (dg m d l):=by
   rw[cf.out,ci.out,ax];refine⟨?_,bP (aL (bm cn.out ao) ad (by decide) _) (by omega),bP (aL bj ad (by decide) _) (by have:=cp.out;omega)⟩;have h1:=bP (aL (i:=2) (bm cr.out ao) ad (by decide) (.slice M U.length N)) (show w.heap.size <= j.heap.size by omega);dsimp only at h1⊢;exact h1
  obtain⟨a0,J,aJ⟩:=rz (d:=d) (l:=l) Hf.out Ha.out;have aY:=lZ ai (bx.out ai aU).1 (bx.out ai aU).2 _ (.agg #[.slice A m.seen.length B,.slice t q.length u,.slice M U.length N]) (dg m d l) ⟨_,_,_,rfl,bd.map a0⟩ (fun x hx=>by have:=J x hx;omega) (fun x hx=>by have:=aJ x hx;omega);obtain⟨ok,p⟩:=aH (bp (dg m d l));rw[p] at aY
  have hu:cH m d l=if ok=true then(dg m d l,0) else(.empty,7):=by
   unfold cH fU;rw[co.out,cc.out,p];cases ok<;>rfl
  obtain⟨r0,r1,r2⟩:=aS ad;have cD:=ad.free 2;obtain⟨t0,t1,t2⟩:=aS b4;have bw:=ae aY;have cj:=ae bd;have bG:=ae b7;have bC:=ae aU;have H:=ae hu;have ce:=ae a0;have ct:=ae ax;clear o0 o1 o2 cC p0 cJ cL g0 g1 HM ad cb b4 b7 aU bd a0 J aJ aY p hu ax bj ao av aV;go_wp2_with fail;rw[<- ct.out];refine bw.out.mono ?_;rintro e cO ⟨rfl,aO⟩;have c:=bG.out.keep (aO.block _ bG.out.lt);have aR:=bC.out.trans (aO.mono bC.out.size);have ck:=ae (cj.out.below aO);clear bw aO r0 r1 r2 cD t0 t1 t2;obtain⟨y0,y1,y2⟩:=aS c;have z0:=c.free 0;have z1:=c.free 1;have z2:=c.free 2;cases ok with
  |false=>
   have V:=ae (show cH m d l=(.empty,7) from H.out.trans (if_neg Bool.false_ne_true));obtain⟨wf,z,E,D⟩:=dJ c aR (by omega) (.slice none 0 0) (.slice none 0 0) (.slice none 0 0);have Q:=ae (aS E);have I:=ae D;have X:=ae z;clear z E D c aR;go_wp2_with fail;rw[<- X.out];obtain⟨q0,q1,q2⟩:=Q.out;exact bodyPost_ret (v:=.tuple #[eG,.int .i64 7]) (by simp[results,results58,go_sem,q0,q1,q2,eG]) rfl ⟨⟨_,by rw[V.out],by rw[V.out];exact gK _ _,by rw[V.out];exact eT⟩,I.out⟩
  |true=>
   have V:=ae (show cH m d l=(dg m d l,0) from H.out.trans (if_pos rfl));obtain⟨wf,z,E,D⟩:=dJ c aR (by omega) (.slice A m.seen.length B) (.slice t q.length u) (.slice M U.length N);have Q:=ae (aS E)
   have cm:=ae (show dW wf w.heap.size (.slice A m.seen.length B) (.slice t q.length u) (.slice M U.length N) (dg m d l) by
    rw[z]
    exact((ck.out.setCell c _).setCell (c.set 0 _) _).setCell ((c.set 0 _).set 1 _) _)
   have I:=ae D;have X:=ae z;clear z E D c aR;go_wp2_with fail;rw[<- X.out];obtain⟨q0,q1,q2⟩:=Q.out;exact bodyPost_ret (v:=.tuple #[.agg #[.slice A m.seen.length B,.slice t q.length u,.slice M U.length N],.int .i64 0]) (by simp[results,results58,go_sem,q0,q1,q2]) rfl ⟨⟨_,by rw[V.out],by rw[V.out];exact⟨_,_,_,rfl,cm.out⟩,by rw[V.out];exact ce.out⟩,I.out⟩
end
section
attribute [local go_sem] opC upC told bG br bH bt bw bI bJ
theorem B7(x y:RIt):fS x y=if(if Lib.compareInt x.seq y.seq=0 then Lib.compareInt x.val y.val else Lib.compareInt x.seq y.seq)<0 then y else x:=by
 unfold fS Lib.compareInt
 by_cases b:x.seq<y.seq
 ·simp[b]
 ·by_cases c:x.seq=y.seq
  ·simp[c]
   by_cases a:x.val<y.val
   ·simp[a]
   ·by_cases d:y.val<x.val<;>simp[a,d]
  ·have a:y.seq<x.seq:=by omega
   simp[b,c,a]
theorem Au(x y:RIt):
 Calls aE 115 #[itV x,itV y] w fun e a=>e=.returned (itV (fS x y)) /\ Below w.heap.size w a:=by
 obtain⟨wa,o⟩:=aQ (w.alloc (.cells #[.string ⟨x.key.toArray⟩,.int .i64 x.dev,.int .i64 x.seq,.int .i64 x.val] 108));obtain⟨wb,j⟩:=aQ (wa.alloc (.cells #[.string ⟨y.key.toArray⟩,.int .i64 y.dev,.int .i64 y.seq,.int .i64 y.val] 108));obtain⟨b,i⟩:=aQ (wb.alloc (.cells #[.string ⟨#[]⟩,.int .i64 0,.int .i64 0,.int .i64 0] 108));have F:wa.heap.size=w.heap.size+1:=by rw[o];simp
 have ad:wb.heap.size=w.heap.size+1+1:=by rw[j];simp[F]
 have Y:Below w.heap.size w b:=by rw[i,j,o];exact((aI _ _).alloc (by simp) _).alloc (by simp;omega) _
 have t:Blk b w.heap.size [.string ⟨x.key.toArray⟩,.int .i64 x.dev,.int .i64 x.seq,.int .i64 x.val] 108:=by rw[i,j,o];exact((Blk.new _ _ _).alloc _).alloc _
 have u:Blk b (w.heap.size+1) [.string ⟨y.key.toArray⟩,.int .i64 y.dev,.int .i64 y.seq,.int .i64 y.val] 108:=by rw[i,j,<- F];exact(Blk.new _ _ _).alloc _
 have kr:Blk b (w.heap.size+1+1) [.string ⟨#[]⟩,.int .i64 0,.int .i64 0,.int .i64 0] 108:=by rw[i,<- ad];exact Blk.new _ _ _
 have p2:∀a,aJ b.drew a -> a.cell? ⟨w.heap.size,2,none⟩=some (.int .i64 x.seq):=fun a hh=>aZ (dX t).2.2.1 hh
 have p3:∀a,aJ b.drew a -> a.cell? ⟨w.heap.size,3,none⟩=some (.int .i64 x.val):=fun a hh=>aZ (dX t).2.2.2 hh
 have q2:∀a,aJ b.drew a -> a.cell? ⟨w.heap.size+1,2,none⟩=some (.int .i64 y.seq):=fun a hh=>aZ (dX u).2.2.1 hh
 have q3:∀a,aJ b.drew a -> a.cell? ⟨w.heap.size+1,3,none⟩=some (.int .i64 y.val):=fun a hh=>aZ (dX u).2.2.2 hh
 have R:=ae (show b=((w.alloc (.cells #[.string ⟨x.key.toArray⟩,.int .i64 x.dev,.int .i64 x.seq,.int .i64 x.val] 108)).alloc (.cells #[.string ⟨y.key.toArray⟩,.int .i64 y.dev,.int .i64 y.seq,.int .i64 y.val] 108)).alloc (.cells #[.string ⟨#[]⟩,.int .i64 0,.int .i64 0,.int .i64 0] 108) by rw[i,j,o]);have N:=ae Y;have V:=ae t;have W:=ae u;have T:=ae kr;have f:=B7 x y;obtain⟨z,hz⟩:=aH (fS x y);rw[hz] at f⊢;obtain⟨k,aa⟩:=aH (Lib.compareInt x.seq y.seq);obtain⟨r,ab⟩:=aH (Lib.compareInt x.val y.val);have E:=Tryz.cmp_Compare_int x.seq y.seq b.drew;have D:=Tryz.cmp_Compare_int x.val y.val b.drew;rw[aa] at E f;rw[ab] at D f;have P:=ae f;have M:=ae E;have K:=ae D;obtain⟨q,s⟩:=aQ (b.drew.alloc (.cells #[.int .i64 k,.int .i64 r] 3));have kz:aJ b.drew q:=by rw[s];exact aI _ _
 have L:=ae (zq b.drew k r q s);have S:=ae s;have C:=ae kz;clear o j i F ad Y t u kr aa ab E D s kz hz f;unfold itV
 go_enter func115,ntmps115
 go_wp2_with fail;rw[<- R.out];refine bS aJ (up 4 [5,6,7,8,504,509,510,511,12]) (by kernel_rfl) ?_;apply aG;rfl;intro a X;go_simp;exact aF;clear p2 p3 q2 q3;refine bq rfl rfl (fun g d=>?_);go_simp;refine M.out.mono ?_;rintro e a ⟨rfl,rfl⟩;refine⟨_,rfl,bF _,d _ _ ?_⟩;clear d g;go_simp;refine bq rfl rfl (fun g d=>?_);go_simp;refine K.out.mono ?_;rintro e a ⟨rfl,rfl⟩;refine⟨_,rfl,bF _,d _ _ ?_⟩;clear d g M K;go_simp;refine bq rfl rfl (fun g d=>?_);go_simp;rw[show(b.alloc (.cells #[.int .i64 k,.int .i64 r] 3)).drew=q from S.out.symm];refine⟨C.out,d _ _ ?_⟩;clear d g;go_simp;refine bq rfl rfl (fun g d=>?_);go_simp;refine L.out.mono ?_;rintro e a ⟨rfl,rfl⟩;refine⟨_,rfl,bF _,d _ _ ?_⟩;clear d g L;go_simp;have n:Below b.heap.size b q:=(Below.refl _ _).drew.trans C.out;have ag:=V.out.keep (n.block _ V.out.lt);have ai:=W.out.keep (n.block _ W.out.lt);have h:=T.out.keep (n.block _ T.out.lt);have Z:Below w.heap.size w q:=N.out.trans (n.mono N.out.size);obtain⟨x0,x1,x2,x3⟩:=dX ag;obtain⟨y0,y1,y2,y3⟩:=dX ai;obtain⟨r0,r1,r2,r3⟩:=dX h;have f0:=h.free 0;have f1:=h.free 1;have f2:=h.free 2;have f3:=h.free 3;have U:=ae h;have O:=ae Z;clear n ag ai h Z R S C;have f:=P.out;generalize(if k=0 then r else k)=c at f⊢;clear P
 by_cases hc:c<0
 ·rw[if_pos hc] at f;subst f;obtain⟨wf,p,m,l⟩:=BE U.out O.out (show w.heap.size <= w.heap.size+1+1 by omega) (.string ⟨z.key.toArray⟩) (.int .i64 z.dev) (.int .i64 z.seq) (.int .i64 z.val);have B:=ae p;have A:=ae l;have Q:=ae (dX m);clear p l m;apply aG;rfl;intro a X;go_simp;exact aF;refine aY ?_;go_wp2_with fail;rw[<- B.out];obtain⟨G,H,I,J⟩:=Q.out;exact bodyPost_ret (v:=.agg #[.string ⟨z.key.toArray⟩,.int .i64 z.dev,.int .i64 z.seq,.int .i64 z.val]) (by simp[results,results115,go_sem,G,H,I,J]) rfl ⟨rfl,A.out⟩
 ·rw[if_neg hc] at f;subst f;obtain⟨wf,p,m,l⟩:=BE U.out O.out (show w.heap.size <= w.heap.size+1+1 by omega) (.string ⟨z.key.toArray⟩) (.int .i64 z.dev) (.int .i64 z.seq) (.int .i64 z.val);have B:=ae p;have A:=ae l;have Q:=ae (dX m);clear p l m;apply aG;rfl;intro a X;go_simp;exact aF;refine aY ?_;go_wp2_with fail;rw[<- B.out];obtain⟨G,H,I,J⟩:=Q.out;exact bodyPost_ret (v:=.agg #[.string ⟨z.key.toArray⟩,.int .i64 z.dev,.int .i64 z.seq,.int .i64 z.val]) (by simp[results,results115,go_sem,G,H,I,J]) rfl ⟨rfl,A.out⟩
def rA(bo:Nat)(a b c:Value)(F:aX)(d:aU)(w:World):Prop:=Blk w bo [a,b,c] 37 /\ cG F w a b c d
theorem yC(F:aX)(S T U:Value)(a:aU)(x:RIt)(h:rA k S T U F a w)(hl:a.gone.length <= 1000000)(Z:Asc RGo.pl a.gone)(X:n <= w.heap.size):
 Calls aE 116 #[itV x,.pointer (some ⟨k,0,none⟩)] w fun e w'=>e=.returned (.bool (decide (x.seq <= a.buried x.pl))) /\ rA k S T U F a w' /\ i7 n w w':=by
 obtain⟨m,d⟩:=h;obtain⟨bv,z⟩:=aH (a.buried x.pl);rw[z];have V:=ae z;clear z;obtain⟨J,P,rfl,-⟩:=d.seen.shape;obtain⟨K,Q,rfl,-⟩:=d.items.shape;obtain⟨M,R,rfl,-⟩:=d.gone.shape;obtain⟨c,p⟩:=aQ (w.alloc (.cells #[.string ⟨x.key.toArray⟩,.int .i64 x.dev,.int .i64 x.seq,.int .i64 x.val] 108));have l:Below w.heap.size w c:=by rw[p];exact aI _ _
 have i:Blk c w.heap.size [.string ⟨x.key.toArray⟩,.int .i64 x.dev,.int .i64 x.seq,.int .i64 x.val] 108:=by rw[p];exact Blk.new _ _ _
 have o:=m.keep (l.block _ m.lt);have O:=d.keep (w':=c) fun b _ g=>l.block b g
 have p0:∀w',aJ c.drew w' -> w'.cell? ⟨w.heap.size,0,none⟩=some (.string ⟨x.key.toArray⟩):=fun w' hh=>aZ (dX i).1 hh
 have aa:∀w',aJ c.drew w' -> w'.cell? ⟨w.heap.size,1,none⟩=some (.int .i64 x.dev):=fun w' hh=>aZ (dX i).2.1 hh
 have ab:∀w',aJ c.drew w' -> w'.cell? ⟨w.heap.size,2,none⟩=some (.int .i64 x.seq):=fun w' hh=>aZ (dX i).2.2.1 hh
 have ad:∀w',aJ c.drew w' -> w'.cell? ⟨w.heap.size,3,none⟩=some (.int .i64 x.val):=fun w' hh=>aZ (dX i).2.2.2 hh
 have q0:∀w',aJ c.drew w' -> w'.cell? ⟨k,0,none⟩=some (.slice J a.seen.length P):=fun w' hh=>aZ (aS o).1 hh
 have q1:∀w',aJ c.drew w' -> w'.cell? ⟨k,1,none⟩=some (.slice K a.items.length Q):=fun w' hh=>aZ (aS o).2.1 hh
 have q2:∀w',aJ c.drew w' -> w'.cell? ⟨k,2,none⟩=some (.slice M a.gone.length R):=fun w' hh=>aZ (aS o).2.2 hh
 have u:=gV c.drew x;unfold itV at u;have E:=ae u;have W:=ae p;have G:=ae l;have H:=ae m;have I:=ae d;have ag:=ae O;clear u p l m d i o O;unfold itV
 go_enter func116,ntmps116
 go_wp2_with fail;rw[<- W.out];refine bS aJ (up 4 [504,505,6,7]) (by kernel_rfl) ?_;apply aG;rfl;intro w' Y;go_simp;exact aF;clear p0 aa ab ad q0 q1 q2;refine bq rfl rfl (fun q f=>?_);go_simp;refine E.out.mono ?_;rintro e A ⟨rfl,v⟩;refine⟨_,rfl,v,f _ _ ?_⟩;clear f q E;have s:Below w.heap.size w A:=G.out.drew.trans (v.mono G.out.size);have r:=qQ A F (.agg #[.slice J a.seen.length P,.slice K a.items.length Q,.slice M a.gone.length R]) a ⟨_,_,_,rfl,I.out.keep (w':=A) fun b _ g=>s.block b g⟩ x.pl hl Z;rw[V.out] at r;have C:=ae r;have D:=ae s;clear r s v;go_simp;refine bq rfl rfl (fun q f=>?_);go_simp;refine C.out.mono ?_;rintro e w3 ⟨rfl,y⟩;refine⟨_,rfl,y,f _ _ ?_⟩;clear f q C;have j:=ae (D.out.trans (y.mono D.out.size));clear y;go_simp;apply aG;rfl;intro w' Y;go_simp;exact aF;refine aY ?_;go_wp2_with fail
 go_ret
 exact⟨rfl,⟨H.out.keep (j.out.block _ H.out.lt),I.out.keep (w':=w3) fun b _ g=>j.out.block b g⟩,j.out.mono X,fun b L t N _ _=>N.keep (j.out.block b N.lt)⟩
theorem sI(B a d:Nat)(S:B <= a)(F:aX)(f i j:Value)(c:aU)(v:Value)(l:List RIt)(N:w.ownsRow a 108 4 v l.length (l.flatMap bU))(L:l.length <= 1000000)(z:a <= w.heap.size)(J:c.gone.length <= 1000000)(G:Asc RGo.pl c.gone)(hF:∀b,F b -> b<a)(H:d<a)(p:rA d f i j F c w):
 Calls aE 108 #[v,.func (.func 116) #[] #[.pointer (some ⟨d,0,none⟩)]] w fun e w'=>
  ∃u,e=.returned u /\ w'.ownsRow a 108 4 u (l.filter fun x=>!decide (x.seq <= c.buried x.pl)).length ((l.filter fun x=>!decide (x.seq <= c.buried x.pl)).flatMap bU) /\ rA d f i j F c w' /\ Below a w w':=by
 rcases N.2 with⟨rfl,Q⟩|⟨g,o,k,rfl,q,I,r,M,O,P⟩
 ·obtain rfl:=List.length_eq_zero_iff.1 Q;refine(ry w).mono ?_;rintro e w' ⟨rfl,rfl⟩;exact⟨_,rfl,World.ownsRow_nil _ _ _ _,p,Below.refl _ _⟩
 ·have s:k.toList=l.flatMap bU++k.toList.drop (l.length*4):=by
   rw[<- P,List.take_append_drop]
  have m:Blk w g (l.flatMap bU++k.toList.drop (l.length*4)) 108:=by
   rw[<- s];exact I
  refine(zz (fun _ _=>by go_simp) (cp:=#[.pointer (some ⟨d,0,none⟩)]) (fun _ W=>rA d f i j F c W) (fun x=>decide (x.seq <= c.buried x.pl)) a a (aq _) (fun R x W n A T=>yC W a d F f i j c x n J G A) (fun R W W' h t=>⟨h.1.keep (t.bel.block _ H),h.2.keep (w':=W') fun b m _=>t.bel.block b (hF b m)⟩) w g o _ l _ m rfl q L r z p).mono ?_;rintro e w' ⟨⟨rfl,⟨y,C,D,E⟩,n⟩,K⟩;refine⟨_,rfl,⟨by rw[dQ bU 4 cX],.inr ⟨g,o,y.toArray,rfl,q,C,au (List.length_filter_le _ _) r,M,?_,E⟩⟩,n,K.bel⟩;rw[List.size_toArray,D,<- s];exact O
end
section
open Go.Sort
attribute [local go_sem] opC upC told bG br bH bt bw bI bJ
theorem je(h:bp r=true):r.seen.length=8 /\ r.items.length <= 4096 /\ r.gone.length <= 4096:=by
 have:=(cq h).len;unfold bp at h;simp at h;exact⟨this,by omega,by omega⟩
def eo(x y:List Int)(k:Nat):List Int:=List.zipWith max (x.take k) (y.take k)++x.drop k
theorem lC(x y:List Int)(k:Nat)(h:x.length=y.length)(a:k <= x.length):(eo x y k).length=x.length:=by
 unfold eo;simp;omega
theorem pY(x y:List Int):eo x y 0=x:=by simp[eo]
theorem rB(x y:List Int)(h:x.length=y.length):eo x y x.length=List.zipWith max x y:=by
 unfold eo;rw[List.take_length,h,List.take_length,<- h,List.drop_length,List.append_nil]
theorem rC(x y:List Int)(k:Nat)(h:x.length=y.length)(a:k<x.length):(eo x y k)[k]?=some x[k]:=by
 unfold eo;rw[List.getElem?_append_right (by simp;omega)];simp[Nat.min_eq_left (show k <= x.length by omega),Nat.min_eq_left (show k <= y.length by omega),a]
theorem pZ(x y:List Int)(k:Nat)(h:x.length=y.length)(a:k<x.length):eo x y (k+1)=(eo x y k).set k (max x[k] (y[k]'(by omega))):=by
 unfold eo;have b:(List.zipWith max (x.take k) (y.take k)).length=k:=by simp;omega
 rw[List.set_append_right _ _ (by omega),b,Nat.sub_self,List.drop_eq_getElem_cons a,List.set_cons_zero,List.take_succ_eq_append_getElem a,List.take_succ_eq_append_getElem (show k<y.length by omega),List.zipWith_append (by simp;omega)];simp
theorem yD(hT:eJ w)(h3:4 <= w.heap.size)(F G:aX)(va vb:Value)(a b:aU)(ha:dl F w va a)(J:dl G w vb b):
 Calls aE 59 #[va,vb] w (BG w (dN a b)):=by
 replace ha:=ha.mono (G:=fun q=>q<w.heap.size) fun q _ C=>C
 replace J:=J.mono (G:=fun q=>q<w.heap.size) fun q _ C=>C
 replace ha:=o6 ha 37
 obtain⟨aT,a4,az,aN,aG,aO,cN,rfl,c4,a7,co,c6,cl⟩:=ha
 replace J:dl (fun q=>q<w.heap.size) cN vb b:=J.keep (w':=cN) fun q _ C=>a7.out.block q C
 replace J:=o6 J 37
 obtain⟨bc,br,aV,a5,aW,a6,bs,rfl,c5,cf,da,c7,cS⟩:=J;obtain⟨c,an⟩:=aQ (bs.alloc (.cells #[.slice none 0 0,.slice none 0 0,.slice none 0 0] 37));have b0:bs.heap.size=w.heap.size+2:=by rw[da.out,co.out]
 have bq:c.heap.size=w.heap.size+3:=by rw[an];simp[b0]
 have bg:Below w.heap.size w bs:=a7.out.trans (cf.out.mono a7.out.size);have bf:Below w.heap.size w c:=by rw[an];exact bg.alloc bg.size _
 have M:Blk c w.heap.size [.slice aT a.seen.length a4,.slice az a.items.length aN,.slice aG a.gone.length aO] 37:=by rw[an];exact(cl.out.keep (cf.out.block _ cl.out.lt)).alloc _
 have kb:Blk c (w.heap.size+1) [.slice bc b.seen.length br,.slice aV b.items.length a5,.slice aW b.gone.length a6] 37:=by
  have:=cS.out;rw[co.out] at this;rw[an];exact this.alloc _
 have d:Blk c (w.heap.size+1+1) [.slice none 0 0,.slice none 0 0,.slice none 0 0] 37:=by
  have:=Blk.new bs #[.slice none 0 0,.slice none 0 0,.slice none 0 0] 37;rw[<- an,b0] at this;exact this
 have V:=c6.out;have X:=c7.out
 have f:=ae (show ∀W,Below c.heap.size c W -> Below w.heap.size w W /\ Blk W w.heap.size [.slice aT a.seen.length a4,.slice az a.items.length aN,.slice aG a.gone.length aO] 37 /\ Blk W (w.heap.size+1) [.slice bc b.seen.length br,.slice aV b.items.length a5,.slice aW b.gone.length a6] 37 /\ Blk W (w.heap.size+1+1) [.slice none 0 0,.slice none 0 0,.slice none 0 0] 37 /\ cG (fun q=>q<w.heap.size) W (.slice aT a.seen.length a4) (.slice az a.items.length aN) (.slice aG a.gone.length aO) a /\ cG (fun q=>q<w.heap.size) W (.slice bc b.seen.length br) (.slice aV b.items.length a5) (.slice aW b.gone.length a6) b from fun W hW=>by
  have hB:Below w.heap.size w W:=bf.trans (hW.mono (by omega))
  exact⟨hB,M.keep (hW.block _ M.lt),kb.keep (hW.block _ kb.lt),d.keep (hW.block _ d.lt),V.keep (w':=W) fun q L _=>(hB.block q L).trans (a7.out.block q L).symm,X.keep (w':=W) fun q L _=>(hB.block q L).trans (bg.block q L).symm⟩)
 have av:=ae (show ∀W,Below w.heap.size w W -> eJ W /\ 4 <= W.heap.size from fun W hW=>⟨cd hT h3 hW,au h3 hW.size⟩);have bt:=ae (o9 c (av.out c bf).1 (av.out c bf).2 _ (.agg #[.slice aT a.seen.length a4,.slice az a.items.length aN,.slice aG a.gone.length aO]) a ⟨_,_,_,rfl,(f.out c (Below.refl _ _)).2.2.2.2.1⟩);have cY:=ae an;have c8:=ae bq;obtain⟨c0,c1,c2⟩:=aS M;obtain⟨dn,bW⟩:=aH (bp a);rw[bW] at bt;have aP:=ae bW;clear an b0 bq bg bf M kb d V X hT bW
 go_enter func59,ntmps59
 go_wp2_with fail;rw[<- c4.out,<- c5.out,<- cY.out];refine bt.out.mono ?_;rintro e O ⟨rfl,K⟩;clear bt c0 c1 c2;cases dn with
 |false=>
  have E:=ae (show dN a b=(.empty,5) by unfold dN;rw[aP.out];rfl);have d:=(f.out O K).2.2.2.1;have aM:=(f.out O K).1;clear K;obtain⟨wf,t,B,A⟩:=dJ d aM (by omega) (.slice none 0 0) (.slice none 0 0) (.slice none 0 0);obtain⟨y0,y1,y2⟩:=aS d;have z0:=d.free 0;have z1:=d.free 1;have z2:=d.free 2;have Q:=ae (aS B);have ab:=ae A;have ag:=ae t;clear t B A;go_wp2_with fail;rw[<- ag.out];obtain⟨q0,q1,q2⟩:=Q.out;exact bodyPost_ret (v:=.tuple #[eG,.int .i64 5]) (by simp[results,results59,go_sem,q0,q1,q2,eG]) rfl ⟨⟨_,by rw[E.out],by rw[E.out];exact gK _ _,by rw[E.out];exact eT⟩,ab.out⟩
 |true=>
  have bu:=ae (o9 O (av.out O (f.out O K).1).1 (av.out O (f.out O K).1).2 _ (.agg #[.slice bc b.seen.length br,.slice aV b.items.length a5,.slice aW b.gone.length a6]) b ⟨_,_,_,rfl,(f.out O K).2.2.2.2.2⟩);obtain⟨dp,bX⟩:=aH (bp b);rw[bX] at bu;have ba:=ae bX;obtain⟨d0,d1,d2⟩:=aS (f.out O K).2.2.1;have ce:=ae K;clear bX K;go_wp2_with fail;refine bu.out.mono ?_;rintro e z ⟨rfl,ct⟩;have al:Below c.heap.size c z:=ce.out.trans (ct.mono ce.out.size);clear bu d0 d1 d2 ct;cases dp with
  |false=>
   have E:=ae (show dN a b=(.empty,5) by unfold dN;rw[aP.out,ba.out];rfl);have d:=(f.out z al).2.2.2.1;have aM:=(f.out z al).1;clear al;obtain⟨wf,t,B,A⟩:=dJ d aM (by omega) (.slice none 0 0) (.slice none 0 0) (.slice none 0 0);obtain⟨y0,y1,y2⟩:=aS d;have z0:=d.free 0;have z1:=d.free 1;have z2:=d.free 2;have Q:=ae (aS B);have ab:=ae A;have ag:=ae t;clear t B A;go_wp2_with fail;rw[<- ag.out];obtain⟨q0,q1,q2⟩:=Q.out;exact bodyPost_ret (v:=.tuple #[eG,.int .i64 5]) (by simp[results,results59,go_sem,q0,q1,q2,eG]) rfl ⟨⟨_,by rw[E.out],by rw[E.out];exact gK _ _,by rw[E.out];exact eT⟩,ab.out⟩
  |true=>
   have fa:=cq aP.out;have fb:=cq ba.out;have cH:=je aP.out;have cI:=je ba.out;have b9:=ae (qS z _ (.agg #[.slice aT a.seen.length a4,.slice az a.items.length aN,.slice aG a.gone.length aO]) a ⟨_,_,_,rfl,(f.out z al).2.2.2.2.1⟩ (by omega) (by omega) (by omega));obtain⟨c0,c1,c2⟩:=aS (f.out z al).2.1;have bv:=ae al;have ax:=ae cH;have ay:=ae cI;have a8:=ae fa;have bz:=ae fb;clear al cH cI fa fb;go_wp2_with fail;refine b9.out.mono ?_;rintro e l ⟨⟨r,rfl,s1,s2,s3,rfl,o⟩,cu⟩;have aY:Below c.heap.size c l:=bv.out.trans (cu.mono bv.out.size);obtain⟨b1,m,dm⟩:=aK o.seen;obtain⟨H,I,rfl⟩:=aK o.items;obtain⟨S,U,rfl⟩:=aK o.gone;subst dm
   obtain⟨g,rfl⟩:∃g,b1=some ⟨g,0,none⟩:=by
    rcases o.seen.2 with⟨_,h0⟩|⟨g,db,dc,hv,_⟩
    ·have:=ax.out.1;omega
    ·simp at hv;exact⟨g,hv.1⟩
   obtain⟨w6,bo⟩:=aQ (l.alloc (.cells #[.slice (some ⟨g,0,none⟩) a.seen.length m,.slice H a.items.length I,.slice S a.gone.length U] 37));have bH:Below l.heap.size l w6:=by rw[bo];exact aI _ _
   have cF:=o.below bH;have Z:Blk w6 l.heap.size [.slice (some ⟨g,0,none⟩) a.seen.length m,.slice H a.items.length I,.slice S a.gone.length U] 37:=by rw[bo];exact Blk.new _ _ _
   have cr:Below c.heap.size c w6:=aY.trans (bH.mono aY.size)
   obtain⟨cv,cw⟩:z.heap.size <= g /\ g<l.heap.size:=by
    rcases o.seen.2 with⟨hh,_⟩|⟨g',db,dc,hv,J,hg,_⟩
    ·simp at hh
    ·simp at hv;obtain⟨rfl,-⟩:=hv;exact⟨J,lt_of_block hg⟩
   have cA:a.seen.length=b.seen.length:=by have:=ax.out.1;have:=ay.out.1;omega
   have ds:b.seen.length <= 1000:=by have:=ay.out.1;omega
   have H6:=ae (show Blk w6 l.heap.size [.slice (some ⟨g,0,none⟩) a.seen.length m,.slice H a.items.length I,.slice S a.gone.length U] 37 /\ dW w6 z.heap.size (.slice (some ⟨g,0,none⟩) a.seen.length m) (.slice H a.items.length I) (.slice S a.gone.length U) ⟨eo a.seen b.seen 0,a.items,a.gone⟩ /\ Below c.heap.size c w6 from⟨Z,by rw[pY];exact cF,cr⟩);have c3:=ae bo;have Hg:=ae (And.intro cv cw);have P:=ae cA;have cb:=ae aY;have b8:=ae bv.out.size;have b5:=(f.out l aY).2.2.1;obtain⟨d0,d1,d2⟩:=aS b5;have dv:w.heap.size+1<l.heap.size:=b5.lt;clear b9 cu aY bH cF Z cr bo o c0 c1 c2 cv cw cA b5;go_wp2_with fail;rw[<- c3.out];clear d0 d1 d2
   go_loopw [23] (fun i wr=>∃k:Nat,k <= b.seen.length /\ i=.int .i64 (k:Int) /\ Blk wr l.heap.size [.slice (some ⟨g,0,none⟩) a.seen.length m,.slice H a.items.length I,.slice S a.gone.length U] 37 /\ dW wr z.heap.size (.slice (some ⟨g,0,none⟩) a.seen.length m) (.slice H a.items.length I) (.slice S a.gone.length U) ⟨eo a.seen b.seen k,a.items,a.gone⟩ /\ Below c.heap.size c wr) (fun i _=>b.seen.length-(intOf i).toNat)
   case atStart=>exact⟨0,by omega,rfl,H6.out⟩
   case round=>
    obtain⟨k,hk,rfl,Z,o,hL⟩:=hrel
    by_cases di:k<b.seen.length
    ·have dh:(k:Int)<(b.seen.length:Int):=by omega
     have cy:k<a.seen.length:=by have:=P.out;omega
     have du:(k:Int)<(a.seen.length:Int):=by omega
     obtain⟨bb,ob,rfl,-,-,hc⟩:=(f.out wr hL).2.2.2.2.2.seen.cells (by omega);obtain⟨x,hx⟩:=aH a.seen[k];obtain⟨y,hy⟩:=aH b.seen[k];have e0:=hc k (.int .i64 y) (by simp[di,hy]);have bl:=o.below (Below.refl wr.heap.size wr).drew;have Y:=bl.seen;have cB:(eo a.seen b.seen k).length=a.seen.length:=lC _ _ k P.out (by omega);dsimp only at Y;rw[cB] at Y
     have eg:wr.drew.cell? ⟨g,k,none⟩=some (.int .i64 x):=by
      rw[Y.cellAt k (by simp;omega)];simp[rC a.seen b.seen k P.out cy,hx]
     have fg:=Y.frozenAt k;obtain⟨bV,bi⟩:=Y.stored k (.int .i64 (max x y));have po:∀u,aJ wr.drew u -> u.cell? ⟨l.heap.size,0,none⟩=some (.slice (some ⟨g,0,none⟩) a.seen.length m):=fun u hh=>aZ (aS Z).1 hh
     have pg:∀u,aJ wr.drew u -> u.cell? ⟨g,k,none⟩=some (.int .i64 x):=fun u hh=>aZ (w:=wr) eg hh
     obtain⟨n,D⟩:=aQ (wr.drew.setCell ⟨g,k,none⟩ (.int .i64 (max x y)));rw[<- D] at bV bi
     have cW:=ae (show Blk n l.heap.size [.slice (some ⟨g,0,none⟩) a.seen.length m,.slice H a.items.length I,.slice S a.gone.length U] 37 /\ dW n z.heap.size (.slice (some ⟨g,0,none⟩) a.seen.length m) (.slice H a.items.length I) (.slice S a.gone.length U) ⟨eo a.seen b.seen (k+1),a.items,a.gone⟩ /\ Below c.heap.size c n from by
      refine⟨by rw[D];exact(Z.drew).set_other _ (by show l.heap.size≠g;have:=Hg.out.2;omega),⟨?_,bY bl.items Y (by decide) bi,bY bl.gone Y (by decide) bi⟩,by rw[D];exact hL.drew.setCell (by have:=Hg.out.1;have:=b8.out;show c.heap.size <= g;omega) _⟩;have h1:=pZ a.seen b.seen k P.out cy;show n.ownsRow z.heap.size 3 1 _ (eo a.seen b.seen (k+1)).length ((eo a.seen b.seen (k+1)).map eI);rw[lC _ _ (k+1) P.out (by omega),h1,List.map_set,hx,hy]
      exact bV)
     have bB:=ae D;clear hc hx hy bl Y cB bV bi D Z o;go_wp2_with fail;refine dP aJ 11 (up 11 [511]) (by kernel_rfl) ?_;apply bM;rfl;intro u hC;go_simp;exact aF;refine cZ rfl rfl rfl (fun KK hK=>?_);go_simp;rw[show(wr.setCell ⟨g,k,none⟩ (.int .i64 (max x y))).drew=n from bB.out.symm];refine hK _ _ ?_;clear hK KK po pg eg fg;go_simp;refine dt ?_;go_wp2_with fail
     go_roundw
     case rel=>exact⟨k+1,by omega,by go_num,cW.out⟩
     case measure=>simp[intOf];omega
    ·have dh:¬(k:Int)<(b.seen.length:Int):=by omega
     have cz:k=a.seen.length:=by have:=P.out;omega
     have cJ:eo a.seen b.seen k=List.zipWith max a.seen b.seen:=by rw[cz];exact rB _ _ P.out
     have cK:(List.zipWith max a.seen b.seen).length=a.seen.length:=by have:=P.out;simp;omega
     rw[cJ] at o;obtain⟨bZ,M,kb,d,V,X⟩:=f.out wr hL;obtain⟨j,bL⟩:=aH (cE RGo.pl dL a.gone b.gone);have hM:=um.2 wr _ _ (.slice aG a.gone.length aO) (.slice aW b.gone.length a6) a.gone b.gone 113 #[] dL (fun _ _=>by go_simp) V.gone X.gone (by have:=ax.out.2.2;omega) (by have:=ay.out.2.2;omega) (fun x _ y _ _ W _=>qX W x y) _ _ rfl rfl;rw[bL] at hM;obtain⟨c0,c1,c2⟩:=aS M;obtain⟨d0,d1,d2⟩:=aS kb;have HM:=ae hM;have bA:=ae bL;have bx:=ae hL;have HO:=ae o;have KO:=ae Z;have cn:=ae cK;clear hM bL hL o Z cJ cz bZ M kb d V X cK;go_wp2_with fail;refine HM.out.mono ?_;rintro e w7 ⟨r,rfl,bU,a0⟩;obtain⟨p,s,rfl⟩:=aK bU;have ar:=KO.out.keep (a0.block _ KO.out.lt);have be:Below c.heap.size c w7:=bx.out.trans (a0.mono bx.out.size);have bQ:=HO.out.below a0;obtain⟨n,D⟩:=aQ (w7.setCell ⟨l.heap.size,2,none⟩ (.slice p j.length s));have bC:=cb.out.size;have cM:Blk n l.heap.size [.slice (some ⟨g,0,none⟩) a.seen.length m,.slice H a.items.length I,.slice p j.length s] 37:=by rw[D];exact ar.set 2 _
     have bE:Below c.heap.size c n:=by rw[D];exact be.setCell (by show c.heap.size <= l.heap.size;omega) _
     have bn:=aL (i:=2) bQ.seen ar (by decide) (.slice p j.length s);have bj:=aL (i:=2) bQ.items ar (by decide) (.slice p j.length s);have bJ:=aL (i:=2) bU ar (by decide) (.slice p j.length s);dsimp only at bn bj;rw[<- D] at bn bj bJ;obtain⟨bZ,M,kb,d,V,X⟩:=f.out n bE;obtain⟨mi,bN⟩:=aH (cE RIt.pl fS a.items b.items);have hI:=um.1 n _ _ (.slice az a.items.length aN) (.slice aV b.items.length a5) a.items b.items 115 #[] fS (fun _ _=>by go_simp) V.items X.items (by have:=ax.out.2.1;omega) (by have:=ay.out.2.1;omega) (fun x _ y _ _ W _=>Au W x y) _ _ rfl rfl;rw[bN] at hI;clear c0 c1 c2 d0 d1 d2;obtain⟨c0,c1,c2⟩:=aS (f.out w7 be).2.1;obtain⟨d0,d1,d2⟩:=aS (f.out w7 be).2.2.1;obtain⟨o0,o1,o2⟩:=aS ar;have de:=ar.free 2;have HI:=ae hI;have cj:=ae bN;have aR:=ae cM;have bw:=ae bE;have cm:=ae bn;have cQ:=ae bj;have ch:=ae bJ;have bB:=ae D;have cO:=ae bx.out.size;have dq:=ae a0.size;clear hI bN cM bE bn bj bJ D ar be bQ bU a0 HM bZ M kb d V X bC;go_wp2_with fail;rw[<- bB.out];refine HI.out.mono ?_;rintro e w9 ⟨r2,rfl,bR,a2⟩;obtain⟨ai,ci,rfl⟩:=aK bR;have b4:=aR.out.keep (a2.block _ aR.out.lt);have bh:=fD (i8 a b a8.out bz.out)
     have bk:dI a b=⟨List.zipWith max a.seen b.seen,mi.filter fun x=>decide ((⟨List.zipWith max a.seen b.seen,[],j⟩:aU).buried x.pl<x.seq),j⟩:=by
      unfold dI;rw[bA.out,cj.out]
     have cx:Asc RGo.pl j:=by rw[<- bA.out];exact gQ fT a8.out.gone bz.out.gone
     have dj:j.length <= 8192:=by
      have:=sR (pl:=RGo.pl) dL _ a.gone b.gone (aq _);rw[bA.out] at this;have:=ax.out.2.2;have:=ay.out.2.2;omega
     have dk:mi.length <= 8192:=by
      have:=sR (pl:=RIt.pl) fS _ a.items b.items (aq _);rw[cj.out] at this;have:=ax.out.2.1;have:=ay.out.2.1;omega
     have cD:cG (fun q=>q<n.heap.size) n (.slice (some ⟨g,0,none⟩) a.seen.length m) (.slice H a.items.length I) (.slice p j.length s) ⟨List.zipWith max a.seen b.seen,a.items,j⟩:=by
      refine⟨?_,(Rows.of_owns cQ.out).mono fun q _ C=>C,(Rows.of_owns ch.out).mono fun q _ C=>C,by have:=bh.seenB;rw[bk] at this;exact this,(fD a8.out).itemsB,by have:=bh.goneB;rw[bk] at this;exact this⟩;have:=(Rows.of_owns cm.out).mono (G:=fun q=>q<n.heap.size) fun q _ C=>C
      dsimp only;rw[cn.out] at this⊢;exact this
     have hD:=sI w9 n.heap.size n.heap.size l.heap.size (aq _) _ _ _ _ ⟨List.zipWith max a.seen b.seen,a.items,j⟩ (.slice ai mi.length ci) mi bR (by omega) a2.size (by dsimp only;omega) cx (fun q L=>L) aR.out.lt ⟨b4,cD.keep (w':=w9) fun q L _=>a2.block q L⟩;obtain⟨N,bK⟩:=aH (mi.filter (fun x=>!decide (x.seq <= (⟨List.zipWith max a.seen b.seen,a.items,j⟩:aU).buried x.pl)));rw[bK] at hD
     have cC:dI a b=⟨List.zipWith max a.seen b.seen,N,j⟩:=by
      rw[bk,<- bK]
      congr 1
      refine List.filter_congr fun x _=>?_
      show decide ((⟨List.zipWith max a.seen b.seen,a.items,j⟩:aU).buried x.pl<x.seq)=_;rw[Bool.eq_iff_iff];simp
     have HD:=ae hD;have cR:=ae cC;have cg:=ae bh;have cP:=ae a2;have dr:=ae b4;clear hD cC bh a2 b4 bk cx dj dk cD bK bR HI c0 c1 c2 d0 d1 d2 o0 o1 o2 de;go_wp2_with fail;refine HD.out.mono ?_;rintro e b6 ⟨v',rfl,bS,-,cs⟩;obtain⟨R,T,rfl⟩:=aK bS;have a1:Below n.heap.size n b6:=cP.out.trans cs;have ao:=aR.out.keep (a1.block _ aR.out.lt);have cp:Below c.heap.size c b6:=bw.out.trans (a1.mono bw.out.size);obtain⟨aa,a3⟩:=aQ (b6.setCell ⟨l.heap.size,1,none⟩ (.slice R N.length T));have bC:=cb.out.size;have bq:=c8.out;have df:=b8.out;have dg:=bw.out.size;have cL:Blk aa l.heap.size [.slice (some ⟨g,0,none⟩) a.seen.length m,.slice R N.length T,.slice p j.length s] 37:=by rw[a3];exact ao.set 1 _
     have bd:Below c.heap.size c aa:=by rw[a3];exact cp.setCell (by show c.heap.size <= l.heap.size;omega) _
     have bO:dW aa w.heap.size (.slice (some ⟨g,0,none⟩) a.seen.length m) (.slice R N.length T) (.slice p j.length s) (dI a b):=by
      rw[cR.out,a3];refine⟨?_,bP (aL bS ao (by decide) _) (by omega),bP (aL (bm ch.out a1) ao (by decide) _) (by have:=cO.out;omega)⟩;have h1:=bP (aL (i:=1) (bm cm.out a1) ao (by decide) (.slice R N.length T)) (show w.heap.size <= z.heap.size by omega);dsimp only at h1⊢;rw[cn.out] at h1⊢;exact h1
     have bI:=i8 a b a8.out bz.out;have bF:=lZ aa (av.out aa (f.out aa bd).1).1 (av.out aa (f.out aa bd).1).2 _ (.agg #[.slice (some ⟨g,0,none⟩) a.seen.length m,.slice R N.length T,.slice p j.length s]) (dI a b) ⟨_,_,_,rfl,bO.map cg.out⟩ (fun x hx=>by have:=dU (dT (bI.iknown x hx));have h:x.pl.1=x.key:=rfl;rw[h] at this;omega) (fun x hx=>by have:=dU (dT (bI.gknown x hx));have h:x.pl.1=x.key:=rfl;rw[h] at this;omega);obtain⟨ok,bT⟩:=aH (bp (dI a b));rw[bT] at bF
     have hu:dN a b=if ok=true then(dI a b,0) else(.empty,7):=by
      unfold dN fU;rw[aP.out,ba.out,bT];cases ok<;>rfl
     obtain⟨o0,o1,o2⟩:=aS ao;have dd:=ao.free 1;obtain⟨t0,t1,t2⟩:=aS cL;have cc:=ae bF;have cT:=ae bO;have ca:=ae bd;have E:=ae hu;have cX:=ae a3;clear bF bO bd hu a3 cL ao a1 cp bC bq df dg bI bT bS cs HD;go_wp2_with fail;rw[<- cX.out];refine cc.out.mono ?_;rintro e b7 ⟨rfl,bG⟩;have bD:Below c.heap.size c b7:=ca.out.trans (bG.mono ca.out.size);have d:=(f.out b7 bD).2.2.2.1;have aM:=(f.out b7 bD).1;have cU:=ae (cT.out.below bG);clear cc bG bD o0 o1 o2 dd t0 t1 t2;cases ok with
     |false=>
      have ad:=ae (show dN a b=(.empty,7) from E.out.trans (if_neg Bool.false_ne_true));obtain⟨wf,t,B,A⟩:=dJ d aM (by omega) (.slice none 0 0) (.slice none 0 0) (.slice none 0 0);obtain⟨y0,y1,y2⟩:=aS d;have z0:=d.free 0;have z1:=d.free 1;have z2:=d.free 2;have Q:=ae (aS B);have ab:=ae A;have ag:=ae t;clear t B A;go_wp2_with fail;rw[<- ag.out];obtain⟨q0,q1,q2⟩:=Q.out;exact bodyPost_ret (v:=.tuple #[eG,.int .i64 7]) (by simp[results,results59,go_sem,q0,q1,q2,eG]) rfl ⟨⟨_,by rw[ad.out],by rw[ad.out];exact gK _ _,by rw[ad.out];exact eT⟩,ab.out⟩
     |true=>
      have ad:=ae (show dN a b=(dI a b,0) from E.out.trans (if_pos rfl));obtain⟨wf,t,B,A⟩:=dJ d aM (by omega) (.slice (some ⟨g,0,none⟩) a.seen.length m) (.slice R N.length T) (.slice p j.length s);obtain⟨y0,y1,y2⟩:=aS d;have z0:=d.free 0;have z1:=d.free 1;have z2:=d.free 2;have Q:=ae (aS B)
      have cV:=ae (show dW wf w.heap.size (.slice (some ⟨g,0,none⟩) a.seen.length m) (.slice R N.length T) (.slice p j.length s) (dI a b) by
       rw[t]
       exact((cU.out.setCell d _).setCell (d.set 0 _) _).setCell ((d.set 0 _).set 1 _) _)
      have ab:=ae A;have ag:=ae t;clear t B A;go_wp2_with fail;rw[<- ag.out];obtain⟨q0,q1,q2⟩:=Q.out;exact bodyPost_ret (v:=.tuple #[.agg #[.slice (some ⟨g,0,none⟩) a.seen.length m,.slice R N.length T,.slice p j.length s],.int .i64 0]) (by simp[results,results59,go_sem,q0,q1,q2]) rfl ⟨⟨_,by rw[ad.out],by rw[ad.out];exact⟨_,_,_,rfl,cV.out⟩,by rw[ad.out];exact cg.out⟩,ab.out⟩
theorem yE(f:eJ w)(e:4 <= w.heap.size)(F G:aX)(c d:Value)(a b:aU)(g:dl F w c a)(h:dl G w d b)(j:∀x∈a.items,x.key.length <= 1000000)(i:∀x∈a.gone,x.key.length <= 1000000)(l:∀x∈b.items,x.key.length <= 1000000)(k:∀x∈b.gone,x.key.length <= 1000000):
 Calls aE 59 #[c,d] w (BG w (dN a b)):=yD w f e F G c d a b g h
end
end Go.Proofs.YtobjdpngnfbicaaGreatDoor
