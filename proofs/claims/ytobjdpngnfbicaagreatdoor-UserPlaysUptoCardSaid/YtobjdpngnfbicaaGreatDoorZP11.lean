/-
  RItem RForg2 RMerge RMerge2 RRef6
-/
import Derived.Test.YtobjdpngnfbicaaGreatDoorZP10
open Go.IntWalk renaming i64_in->af
open Nat renaming le_refl->aq,le_trans->au
open List renaming length_append->aA
open Go.Proofs.Tryz renaming prog->aE
set_option maxHeartbeats 8000000
set_option maxRecDepth 100000
set_option linter.all false
namespace Go.Proofs.YtobjdpngnfbicaaGreatDoor
open Go.RowKit
open Go.Proofs.Tryz
variable(w:World)(F:aQ)(n k:Nat)(v:Value)(m:aT){W w':World}{i j:Nat}{r:aT}{y:List bQ}
def FF:RIt:=⟨[],0,0,0⟩
def Gh(o:Option RIt):RIt:=match o with|some y=>y|none=>FF
theorem Dw(h:di F w v m)(d:bQ)(c:Int):
 Calls aE 187 #[v,.string ⟨d.toArray⟩,.int .i64 c] w λe w'=>e=.returned (.tuple #[itV (Gh (df RIt.pl m.items (d,c))),.bool (df RIt.pl m.items (d,c)).isSome]) /\ Kpt w w':=by
 replace h:=jF h 75
 obtain⟨a1,p1,a2,p2,a3,p3,n1,s,n3,wx,rfl,h,l1,l2,l3,ag,E,ai,an,R,ao,n,ak,c0,T,c2⟩:=h
 try rw[ag.x]
 try rw[E.x]
 try rw[ai.x]
 clear h c0 c2;obtain⟨z,r⟩:=aP (wx.alloc (.cells #[.string ⟨#[]⟩,.int .i64 0,.int .i64 0,.int .i64 0] 129));have Z:Kpt w z:=by rw[r];exact R.x.alloc R.x.size _
 have kr:Blk z (w.heap.size+1) [.string ⟨#[]⟩,.int .i64 0,.int .i64 0,.int .i64 0] 129:=by rw[r,<- ao.x];exact Blk.new _ _ _
 have ka:Blk z w.heap.size [.slice a1 n1 p1,.slice a2 s p2,.slice a3 n3 p3] 75:=by rw[r];exact ak.x.alloc _
 have ab:=n.x.keep (w':=z) λb _ az=>by rw[r];exact Below.heap_alloc _ _ _ az
 obtain⟨o,J⟩:=aH (df RIt.pl m.items (d,c));rw[J];have⟨S,al,P,a,ad⟩:=ae5 J r Z kr ab;clear T;obtain⟨-,T,-⟩:=aS ka;clear J r Z kr ka ab n
 go_enter func187,ntmps187
 go_wp2;rw[<- an.x,<- al.x]
 go_loopw [8] (λi wr=>∃k:Nat,k <= s /\ i=.int .i64 (k:Int) /\ wr=z /\ ∀j (l:j<m.items.length),j<k -> m.items[j].pl≠(d,c)) (λi _=>s-(intOf i).toNat)
 ·exact⟨0,by omega,rfl,rfl,λj _ l=>by omega⟩
 ·obtain⟨k,hk,rfl,rfl,Y⟩:=hrel;have C:=ae Y;clear Y
  by_cases ay:k<s
  ·have ax:(k:Int)<(s:Int):=by omega
   have aa:k<m.items.length:=by rw[E.x];exact ay
   obtain⟨b,aF,rfl,-,-,hc⟩:=fw ad.x.items (by omega);obtain⟨U,V,W,X⟩:=hc k aa;obtain⟨x,K⟩:=aH m.items[k];rw[K] at U V W X;have n:=ae K;clear hc K;obtain⟨g,f,A,B⟩:=x;dsimp only at U V W X
   by_cases p:g=d
   ·have ar:(g == d)=true:=by simpa using p
    by_cases q:f=c
    ·have av:(f == c)=true:=by simpa using q
     obtain rfl:o=some ⟨g,f,A,B⟩:=by
      rw[<- S.x,nX m.items (d,c) k aa C.x (by rw[n.x];show(g,f)=_;rw[p,q]),n.x]
     clear p q;obtain⟨wf,y,u,t⟩:=C7 a.x P.x (Nat.le_succ _) (.string ⟨g.toArray⟩) (.int .i64 f) (.int .i64 A) (.int .i64 B);obtain⟨y0,y1,y2,y3⟩:=dH a.x;have z0:=a.x.free 0;have z1:=a.x.free 1;have z2:=a.x.free 2;have z3:=a.x.free 3;have⟨Q,D,H⟩:=ae3 (dH u) t y;clear y u t;go_wp2;rw[<- H.x];obtain⟨L,M,N,O⟩:=Q.x;exact bodyPost_ret (v:=.tuple #[.agg #[.string ⟨g.toArray⟩,.int .i64 f,.int .i64 A,.int .i64 B],.bool true]) (by simp[results,results187,go_sem,L,M,N,O]) rfl ⟨rfl,D.x⟩
    ·have av:(f == c)=false:=by simpa using q
     have G:=ae (show RIt.pl ⟨g,f,A,B⟩≠(d,c) from λe=>q (Prod.mk.inj e).2);clear p q;go_wp2
     go_roundw
     ·exact⟨k+1,by omega,by go_num,by trivial,λj l I=>by
      rcases Nat.lt_succ_iff_lt_or_eq.1 I with h|h
      ·exact C.x j l h
      ·subst h;rw[n.x];exact G.x⟩
     ·simp[intOf];omega
   ·have ar:(g == d)=false:=by simpa using p
    have G:=ae (show RIt.pl ⟨g,f,A,B⟩≠(d,c) from λe=>p (Prod.mk.inj e).1);clear p;go_wp2
    go_roundw
    ·exact⟨k+1,by omega,by go_num,by trivial,λj l I=>by
     rcases Nat.lt_succ_iff_lt_or_eq.1 I with h|h
     ·exact C.x j l h
     ·subst h;rw[n.x];exact G.x⟩
    ·simp[intOf];omega
  ·have ax:¬(k:Int)<(s:Int):=by omega
   obtain rfl:o=none:=by
    rw[<- S.x,xZ m.items (d,c) λj l=>C.x j l (by rw[E.x] at l;omega)]
   obtain⟨wf,y,u,t⟩:=C7 a.x P.x (Nat.le_succ _) (.string ⟨#[]⟩) (.int .i64 0) (.int .i64 0) (.int .i64 0);obtain⟨y0,y1,y2,y3⟩:=dH a.x;have z0:=a.x.free 0;have z1:=a.x.free 1;have z2:=a.x.free 2;have z3:=a.x.free 3;have⟨Q,D,H⟩:=ae3 (dH u) t y;clear y u t;go_wp2;rw[<- H.x];obtain⟨L,M,N,O⟩:=Q.x;exact bodyPost_ret (v:=.tuple #[.agg #[.string ⟨#[]⟩,.int .i64 0,.int .i64 0,.int .i64 0],.bool false]) (by simp[results,results187,go_sem,L,M,N,O]) rfl ⟨rfl,D.x⟩
section
open Go.Sort
theorem jP.keepI{B b f d:Nat}{j:List RGo}(h:jP b f d W y j)(a:e8 B W w'):jP b f d w' y j:=by
 obtain⟨⟨E,r,s⟩,⟨gv,t,u⟩⟩:=h
 have own:∀{c:Nat}{e:TypeId}{k n:Nat}{v:Value}{o:List Value},W.ownsRow c e k v n o -> e≠108 -> w'.ownsRow c e k v n o:=λm A=>by
  refine⟨m.1,?_⟩;rcases m.2 with q|⟨g,p,i,D,x,z,C⟩
  ·exact .inl q
  ·refine .inr ⟨g,p,i,D,x,?_,C⟩;have:=a.blk g i.toList _ z A;unfold Blk at this;simpa using this
 exact⟨⟨E,a.blk _ _ _ r (by decide),own s (by decide)⟩,⟨gv,a.blk _ _ _ t (by decide),own u (by decide)⟩⟩
theorem vV(B d i f:Nat)(D:B <= d)(c:List bQ)(v:Value)(l:List RIt)(Q:w.ownsRow B 108 4 v l.length (l.flatMap bT))(N:l.length <= 1000000)(C:d <= w.heap.size)(J:d <= f)(O:c.length <= 1000000)(T:c.Pairwise λa b=>a<b)(r:jP d i f w c []):
 Calls aE 108 #[v,.func (.func 109) #[] #[.pointer (some ⟨i,0,none⟩),.pointer (some ⟨f,0,none⟩)]] w λe j=>
  ∃y,e=.returned y /\ j.ownsRow B 108 4 y (l.filter λx=>!decide (x.key∈c)).length ((l.filter λx=>!decide (x.key∈c)).flatMap bT) /\ jP d i f j c ((l.filter λx=>decide (x.key∈c)).map dN) /\ fB B d w j:=by
 rcases Q.2 with⟨rfl,X⟩|⟨g,q,o,rfl,s,K,t,P,U,V⟩
 ·obtain rfl:=List.length_eq_zero_iff.1 X;refine(sJ w).mono ?_;rintro e j ⟨rfl,rfl⟩;exact⟨_,rfl,World.ownsRow_nil _ _ _ _,r,fB.refl _ _ _⟩
 ·have u:o.toList=l.flatMap bT++o.toList.drop (l.length*4):=by
   rw[<- V,List.take_append_drop]
  have I:Blk w g (l.flatMap bT++o.toList.drop (l.length*4)) 108:=by
   rw[<- u];exact K
  have S:∀k x W,jP d i f W c ((k.filter λx=>decide (x.key∈c)).map dN) -> d <= W.heap.size -> k.length <= 1000000 -> Calls aE 109 #[itV x,.pointer (some ⟨i,0,none⟩),.pointer (some ⟨f,0,none⟩)] W λe j=>e=.returned (.bool (decide (x.key∈c))) /\ jP d i f j c (((k++[x]).filter λx=>decide (x.key∈c)).map dN) /\ jo d W j:=λk x W p E R=>by
   refine(ym W d i f c _ x p O T (by rw[List.length_map];exact au (List.length_filter_le _ _) R) E J).mono ?_;rintro e j ⟨rfl,m,A⟩;refine⟨rfl,?_,A⟩;rw[List.filter_append,List.map_append]
   by_cases n:x.key∈c
   ·rw[if_pos n] at m;rw[List.filter_cons,if_pos (by simpa using n)];exact m
   ·rw[if_neg n] at m;rw[List.filter_cons,if_neg (by simpa using n)];simpa using m
  refine(AZ (λ_ _=>by go_simp) (cp:=#[.pointer (some ⟨i,0,none⟩),.pointer (some ⟨f,0,none⟩)]) (λk W=>jP d i f W c ((k.filter λx=>decide (x.key∈c)).map dN)) (λx=>decide (x.key∈c)) B d D S (λk W W' h L=>h.keepI L) w g q _ l _ I rfl s N t C r).mono ?_;rintro e j ⟨⟨rfl,⟨z,F,G,H⟩,p⟩,M⟩;refine⟨_,rfl,⟨by rw[dG bT 4 cY],.inr ⟨g,q,z.toArray,rfl,s,F,au (List.length_filter_le _ _) t,P,?_,H⟩⟩,p,M⟩;rw[List.size_toArray,G,<- u];exact U
theorem qD:vE 58 dy:=by
 intro w hT h3 F v m h M aG a8 bC d G lv l bb hl hk
 replace h:=qU h 37
 obtain⟨a1,p1,a2,p2,a3,p3,wx,rfl,ck,bq,bw,Hx,cK⟩:=h;obtain⟨al,cl,rfl,-⟩:=bb.shape;obtain⟨wl,av⟩:=aP (wx.alloc (.cells #[.slice al l.length cl] 32));obtain⟨k,Z⟩:=aP (wl.alloc (.cells #[.slice none 0 0,.slice none 0 0,.slice none 0 0] 37));have bl:wl.heap.size=w.heap.size+2:=by rw[av];simp[bw.x]
 have aT:k.heap.size=w.heap.size+3:=by rw[Z];simp[bl]
 have aZ:Kpt w wl:=by rw[av];exact bq.x.alloc bq.x.size _
 have aO:Kpt w k:=by rw[Z];exact aZ.alloc aZ.size _
 have k1:Blk k (w.heap.size+1) [.slice al l.length cl] 32:=by
  have:=Blk.new wx #[.slice al l.length cl] 32;rw[<- av,bw.x] at this;rw[Z];exact this.alloc _
 have k2:Blk k (w.heap.size+1+1) [.slice none 0 0,.slice none 0 0,.slice none 0 0] 37:=by
  have:=Blk.new wl #[.slice none 0 0,.slice none 0 0,.slice none 0 0] 37;rw[<- Z,bl] at this;exact this
 have HR:∀W,Kpt k W -> Kpt w W /\ Blk W (w.heap.size+1) [.slice al l.length cl] 32 /\ Blk W (w.heap.size+1+1) [.slice none 0 0,.slice none 0 0,.slice none 0 0] 37:=λW B=>⟨aO.trans (B.mono (by omega)),k1.keep (B.block _ k1.lt),k2.keep (B.block _ k2.lt)⟩
 have⟨HT,bo⟩:=ae2 (show ∀W,Kpt k W -> eB W /\ 4 <= W.heap.size from λW B=>⟨bR hT h3 (HR W B).1,au h3 (HR W B).1.size⟩) (show ∀W,Kpt w W -> eB W /\ 4 <= W.heap.size from λW B=>⟨bR hT h3 B,au h3 B.size⟩)
 have HE:=ae (uj k (bR hT h3 aO) (by omega) _ (.agg #[.slice a1 m.seen.length p1,.slice a2 m.items.length p2,.slice a3 m.gone.length p3]) m ⟨_,_,_,rfl,Hx.x.keep (w':=k) λb _ ba=>by
  rw[Z,av,Below.heap_alloc _ _ _ (by simp;omega),Below.heap_alloc _ _ _ ba]⟩ M aG a8 bC d _ (.slice al l.length cl) l (bb.keep (w':=k) λb _ ba=>aO.block b ba) hl hk)
 have⟨ce,aM⟩:=ae2 (show k=(wx.alloc (.cells #[.slice al l.length cl] 32)).alloc (.cells #[.slice none 0 0,.slice none 0 0,.slice none 0 0] 37) by rw[Z,av]) aT;have c2:=k1.cell 0;simp at c2;clear Z av bl aT aZ aO k2 hT bb M aG hk
 go_enter func58,ntmps58
 go_wp2_with fail;rw[<- ck.x,<- ce.x];refine HE.x.mono ?_;rintro e c ⟨(⟨u,rfl⟩|⟨u,ay,rfl⟩|⟨u,ay,r,s,rfl,⟨s1,s2,s3,rfl,Y⟩,bH⟩),X⟩
 ·have D:=ae (show dy m d l=(.empty,5) by unfold dy;rw[u];rfl);obtain⟨aa,j,g⟩:=HR c X;have l0:=j.cell 0;have l1:=j.free 0;obtain⟨y0,y1,y2⟩:=aS g;have z0:=g.free 0;have z1:=g.free 1;have z2:=g.free 2;have bD:=j.lt;have bE:=g.lt;simp at l0;obtain⟨o,n⟩:=aP (c.setCell ⟨w.heap.size+1,0,none⟩ (.slice none 0 0));have P:Blk o (w.heap.size+1+1) [.slice none 0 0,.slice none 0 0,.slice none 0 0] 37:=by rw[n];exact g.set_other _ (by show w.heap.size+1+1≠w.heap.size+1;omega)
  have N:Kpt w o:=by rw[n];exact aa.setCell (by show w.heap.size <= w.heap.size+1;omega) _
  obtain⟨wf,C,H,E⟩:=dX P N (by omega) (.slice none 0 0) (.slice none 0 0) (.slice none 0 0);have⟨aW,T,ax,I⟩:=ae4 n C H E;clear HE u X k1 c2 n C H E P N j g aa;unfold eJ;go_wp2;rw[<- aW.x,<- T.x];have aF:=aI wf (.cells #[.slice none 0 0,.slice none 0 0,.slice none 0 0] 37);have a6:=ax.x.keep (aF.block _ ax.x.lt);obtain⟨q0,q1,q2⟩:=aS a6;exact bodyPost_ret (v:=.tuple #[eJ,.int .i64 5]) (by simp[results,results58,go_sem,q0,q1,q2,eJ]) rfl ⟨⟨_,by rw[D.x],by rw[D.x];exact gI _ _,by rw[D.x];exact eT⟩,I.x.trans (aF.mono I.x.size)⟩
 ·have D:=ae (show dy m d l=(.empty,1) by unfold dy;rw[u,ay];rfl);clear ay;obtain⟨aa,j,g⟩:=HR c X;have l0:=j.cell 0;have l1:=j.free 0;obtain⟨y0,y1,y2⟩:=aS g;have z0:=g.free 0;have z1:=g.free 1;have z2:=g.free 2;have bD:=j.lt;have bE:=g.lt;simp at l0;obtain⟨o,n⟩:=aP (c.setCell ⟨w.heap.size+1,0,none⟩ (.slice none 0 0));have P:Blk o (w.heap.size+1+1) [.slice none 0 0,.slice none 0 0,.slice none 0 0] 37:=by rw[n];exact g.set_other _ (by show w.heap.size+1+1≠w.heap.size+1;omega)
  have N:Kpt w o:=by rw[n];exact aa.setCell (by show w.heap.size <= w.heap.size+1;omega) _
  obtain⟨wf,C,H,E⟩:=dX P N (by omega) (.slice none 0 0) (.slice none 0 0) (.slice none 0 0);have⟨aW,T,ax,I⟩:=ae4 n C H E;clear HE u X k1 c2 n C H E P N j g aa;unfold eJ;go_wp2;rw[<- aW.x,<- T.x];have aF:=aI wf (.cells #[.slice none 0 0,.slice none 0 0,.slice none 0 0] 37);have a6:=ax.x.keep (aF.block _ ax.x.lt);obtain⟨q0,q1,q2⟩:=aS a6;exact bodyPost_ret (v:=.tuple #[eJ,.int .i64 1]) (by simp[results,results58,go_sem,q0,q1,q2,eJ]) rfl ⟨⟨_,by rw[D.x],by rw[D.x];exact gI _ _,by rw[D.x];exact eT⟩,I.x.trans (aF.mono I.x.size)⟩
 ·have ha:=(fo d l).1 ay;have f:=cA u;have bF:(de m d).length=m.seen.length:=yZ m d;have bL:(dt l).length=l.length:=(ek l).length_eq;obtain⟨z,A,bj⟩:=aJ Y.seen;obtain⟨b2,e2,bI⟩:=aJ Y.items;obtain⟨U,V,ao⟩:=aJ Y.gone;dsimp only at bj bI ao;rw[bF] at bj;subst bj bI ao;obtain⟨bs,cs,rfl⟩:=aJ bH;obtain⟨aa,j,g⟩:=HR c X;have l0:=j.cell 0;have l1:=j.free 0;have bD:=j.lt;have bE:=g.lt;simp at l0;obtain⟨o,n⟩:=aP (c.setCell ⟨w.heap.size+1,0,none⟩ (.slice bs l.length cs));have bO:o.heap.size=c.heap.size:=by rw[n];simp[World.setCell]
  have bT:Blk o (w.heap.size+1) [.slice bs l.length cs] 32:=by rw[n];exact j.set 0 _
  have P:Blk o (w.heap.size+1+1) [.slice none 0 0,.slice none 0 0,.slice none 0 0] 37:=by rw[n];exact g.set_other _ (by show w.heap.size+1+1≠w.heap.size+1;omega)
  have N:Kpt w o:=by rw[n];exact aa.setCell (by show w.heap.size <= w.heap.size+1;omega) _
  have cw:dU o k.heap.size (.slice z m.seen.length A) (.slice b2 m.items.length e2) (.slice U m.gone.length V) ⟨de m d,m.items,m.gone⟩:=by
   rw[n];exact⟨aL Y.seen j (by decide) _,aL Y.items j (by decide) _,aL Y.gone j (by decide) _⟩
  have cx:o.ownsRow k.heap.size 9 1 (.slice bs l.length cs) l.length ((dt l).map eS):=by rw[n];exact aL bH j (by decide) _
  obtain⟨w5,aR⟩:=aP (o.alloc (.cells #[.slice z m.seen.length A,.slice b2 m.items.length e2,.slice U m.gone.length V] 37));obtain⟨w6,aK⟩:=aP (w5.alloc (.cells #[.slice none 0 0] 35));have bP:w5.heap.size=c.heap.size+1:=by rw[aR];simp[bO]
  have cL:w6.heap.size=c.heap.size+2:=by rw[aK];simp[bP]
  have az:Kpt o w6:=by rw[aK,aR];exact(aI _ _).alloc (by simp) _
  have cD:Blk w6 c.heap.size [.slice z m.seen.length A,.slice b2 m.items.length e2,.slice U m.gone.length V] 37:=by
   rw[aK,aR,<- bO];exact(Blk.new _ _ _).alloc _
  have cC:Blk w6 (c.heap.size+1) [.slice none 0 0] 35:=by
   rw[aK,<- bP];exact Blk.new _ _ _
  have cE:=bT.keep (az.block _ bT.lt);have cF:=P.keep (az.block _ P.lt);have bG:=cw.below az;have cy:=br cx az;have cr:∀b,(Value.slice U m.gone.length V).ownBlock=some b -> b<c.heap.size:=λb B=>(Y.gone.lt b B).2
  have cu:m.items.filter (λx=>!decide (x.key∈dt l))=m.items.filter (λx=>decide (x.key∉l)):=List.filter_congr λx _=>by
   have:=(ek l).mem_iff (a:=x.key)
   by_cases h:x.key∈l<;>simp[this,h]
  have cv:m.items.filter (λx=>decide (x.key∈dt l))=m.items.filter (λx=>decide (x.key∈l)):=List.filter_congr λx _=>by
   have:=(ek l).mem_iff (a:=x.key)
   by_cases h:x.key∈l<;>simp[this,h]
  have hD:=vV w6 k.heap.size c.heap.size (w.heap.size+1) (c.heap.size+1) X.size (dt l) (.slice b2 m.items.length e2) m.items bG.items a8 (by omega) (by omega) (by rw[bL];exact hl) (oN l ha.nodup) ⟨⟨_,cE,by rw[bL];exact bJ cy (Nat.zero_le _)⟩,⟨_,cC,World.ownsRow_nil _ _ _ _⟩⟩;rw[cu,cv] at hD;obtain⟨p,M⟩:=aH (m.items.filter (λx=>decide (x.key∉l)));obtain⟨L,a5⟩:=aH ((m.items.filter λx=>decide (x.key∈l)).map dN);have ct:L.length <= 1000000:=by rw[<- a5,List.length_map];exact au (List.length_filter_le _ _) a8
  have cq:dI m d l=⟨de m d,p,cH RGo.pl dM m.gone L⟩:=by rw[<- M,<- a5];rfl
  rw[M,a5] at hD;have cB:Kpt w w6:=N.trans (az.mono N.size);have HD:=hD;have cm:=cD;have cn:=cF;have bt:=bG;have b4:=cr;have b0:=cq;have ch:w6=((c.setCell ⟨w.heap.size+1,0,none⟩ (.slice bs l.length cs)).alloc (.cells #[.slice z m.seen.length A,.slice b2 m.items.length e2,.slice U m.gone.length V] 37)).alloc (.cells #[.slice none 0 0] 35):=by rw[aK,aR,n]
  have ci:=cB;have cJ:=bF;have ca:=u;have bY:=ay;have Ha:=ha;have Hf:=f;have bp:=X.size;have cf:w.heap.size <= k.heap.size:=by have:=aM.x;omega
  go_wp2_with fail;rw[<- ch];refine HD.mono ?_;rintro e w7 ⟨v',rfl,bg,cz,an⟩;obtain⟨q,t,rfl⟩:=aJ bg;have O:=an.blk _ _ _ cm (by decide) (by decide) (by decide);have bV:=an.blk _ _ _ cn (by decide) (by decide) (by decide);obtain⟨-,⟨gv,bm,be⟩⟩:=cz;obtain⟨ag,cg,rfl⟩:=aJ be;have bK:=an.own bt.seen (by decide) (by decide) (by decide);have bB:=an.ownLow bt.gone b4 (by decide);have bM:Kpt w w7:=ci.trans (an.bel.mono cf);obtain⟨w8,ab⟩:=aP (w7.setCell ⟨c.heap.size,1,none⟩ (.slice q p.length t));have aU:Blk w8 c.heap.size [.slice z m.seen.length A,.slice q p.length t,.slice U m.gone.length V] 37:=by rw[ab];exact O.set 1 _
  have bQ:Blk w8 (c.heap.size+1) [.slice ag L.length cg] 35:=by rw[ab];exact bm.set_other _ (by show c.heap.size+1≠c.heap.size;omega)
  have ao:k.heap.size <= c.heap.size:=bp;have bW:Blk w8 (w.heap.size+1+1) [.slice none 0 0,.slice none 0 0,.slice none 0 0] 37:=by rw[ab];exact bV.set_other _ (by show w.heap.size+1+1≠c.heap.size;have:=aM.x;omega)
  have bN:Kpt w w8:=by rw[ab];exact bM.setCell (by show w.heap.size <= c.heap.size;have:=aM.x;omega) _
  have bh:=aL (i:=1) bg O (by decide) (.slice q p.length t);have bk:=aL (i:=1) bK O (by decide) (.slice q p.length t);have a4:=aL (i:=1) bB O (by decide) (.slice q p.length t);have bf:=aL (i:=1) be O (by decide) (.slice q p.length t);rw[<- ab] at bh bk a4 bf;have hM:=vD.2 w8 _ _ (.slice U m.gone.length V) (.slice ag L.length cg) m.gone L 113 #[] dM (λ_ _=>by go_simp) (Rows.of_owns a4) (Rows.of_owns bf) bC ct (λx _ y _ _ W _=>rX W x y) _ _ rfl rfl;obtain⟨R,bc⟩:=aH (cH RGo.pl dM m.gone L);rw[bc] at hM;obtain⟨o0,o1,o2⟩:=aS O;have co:=O.free 1;obtain⟨p0,cG,cI⟩:=aS aU;have g0:w8.cell? ⟨c.heap.size+1,0,none⟩=some (.slice ag L.length cg):=by simpa using bQ.cell 0
  have g1:w7.cell? ⟨c.heap.size+1,0,none⟩=some (.slice ag L.length cg):=by simpa using bm.cell 0
  have HM:=hM;have bx:=aU;have bA:=bW;have b9:=bh;have cc:=bk;have b5:=bc;have bv:=bN;have cj:=ab;have cb:=ae (show k.heap.size <= w8.heap.size by have h1:=aU.lt;omega);clear bg O bV bm be bK bB bM ab aU bQ bW bN bh bk a4 bf hM bc an HD ao;go_wp2_with fail;rw[<- cj];refine HM.mono ?_;rintro e w9 ⟨r,rfl,bi,ak⟩;obtain⟨J,K,rfl⟩:=aJ bi;have ad:=bx.keep (ak.block _ bx.lt);have bX:=bA.keep (ak.block _ bA.lt);obtain⟨ai,ar⟩:=aP (w9.setCell ⟨c.heap.size,2,none⟩ (.slice J R.length K));have ao:k.heap.size <= c.heap.size:=bp;have aT:=aM.x;have bS:Blk ai c.heap.size [.slice z m.seen.length A,.slice q p.length t,.slice J R.length K] 37:=by rw[ar];exact ad.set 2 _
  have bU:Blk ai (w.heap.size+1+1) [.slice none 0 0,.slice none 0 0,.slice none 0 0] 37:=by rw[ar];exact bX.set_other _ (by show w.heap.size+1+1≠c.heap.size;omega)
  have aQ:Kpt w ai:=by rw[ar];exact(bv.trans (ak.mono bv.size)).setCell (by show w.heap.size <= c.heap.size;omega) _
  have bd:dU ai w.heap.size (.slice z m.seen.length A) (.slice q p.length t) (.slice J R.length K) (dI m d l):=by
   rw[b0,b5,ar];refine⟨?_,bJ (aL (br b9 ak) ad (by decide) _) (by omega),bJ (aL bi ad (by decide) _) (by have:=cb.x;omega)⟩;have h1:=bJ (aL (i:=2) (br cc ak) ad (by decide) (.slice J R.length K)) (show w.heap.size <= k.heap.size by omega);dsimp only at h1⊢;exact h1
  obtain⟨a0,M,aG⟩:=sK (d:=d) (l:=l) Hf Ha;have aX:=mb ai (bo.x ai aQ).1 (bo.x ai aQ).2 _ (.agg #[.slice z m.seen.length A,.slice q p.length t,.slice J R.length K]) (dI m d l) ⟨_,_,_,rfl,bd.map a0⟩ (λx hx=>by have:=M x hx;omega) (λx hx=>by have:=aG x hx;omega);obtain⟨ok,u⟩:=aH (aV (dI m d l));rw[u] at aX
  have hu:dy m d l=if ok=true then(dI m d l,0) else(.empty,7):=by
   unfold dy gw;rw[ca,bY,u];cases ok<;>rfl
  obtain⟨r0,r1,r2⟩:=aS ad;have cp:=ad.free 2;obtain⟨t0,t1,t2⟩:=aS bS;have⟨bn,b6,bz,bu,D,bZ,cd⟩:=ae7 aX bd bU aQ hu a0 ar;clear o0 o1 o2 co p0 cG cI g0 g1 HM ad bX bS bU aQ bd a0 M aG aX u hu ar bi ak ao aT;go_wp2_with fail;rw[<- cd.x];refine bn.x.mono ?_;rintro e cM ⟨rfl,aN⟩;have g:=bz.x.keep (aN.block _ bz.x.lt);have aY:=bu.x.trans (aN.mono bu.x.size);have b7:=ae (b6.x.below aN);clear bn aN r0 r1 r2 cp t0 t1 t2;obtain⟨y0,y1,y2⟩:=aS g;have z0:=g.free 0;have z1:=g.free 1;have z2:=g.free 2;cases ok with
  |false=>
   have S:=ae (show dy m d l=(.empty,7) from D.x.trans (if_neg Bool.false_ne_true));obtain⟨wf,C,H,E⟩:=dX g aY (by omega) (.slice none 0 0) (.slice none 0 0) (.slice none 0 0);have⟨Q,I,T⟩:=ae3 (aS H) E C;clear C H E g aY;go_wp2;rw[<- T.x];obtain⟨q0,q1,q2⟩:=Q.x;exact bodyPost_ret (v:=.tuple #[eJ,.int .i64 7]) (by simp[results,results58,go_sem,q0,q1,q2,eJ]) rfl ⟨⟨_,by rw[S.x],by rw[S.x];exact gI _ _,by rw[S.x];exact eT⟩,I.x⟩
  |true=>
   have S:=ae (show dy m d l=(dI m d l,0) from D.x.trans (if_pos rfl));obtain⟨wf,C,H,E⟩:=dX g aY (by omega) (.slice z m.seen.length A) (.slice q p.length t) (.slice J R.length K);have Q:=ae (aS H)
   have b8:dU wf w.heap.size (.slice z m.seen.length A) (.slice q p.length t) (.slice J R.length K) (dI m d l):=by
    rw[C];exact((b7.x.setCell g _).setCell (g.set 0 _) _).setCell ((g.set 0 _).set 1 _) _
   have⟨I,T⟩:=ae2 E C;go_wp2;rw[<- T.x];obtain⟨q0,q1,q2⟩:=Q.x;exact bodyPost_ret (v:=.tuple #[.agg #[.slice z m.seen.length A,.slice q p.length t,.slice J R.length K],.int .i64 0]) (by simp[results,results58,go_sem,q0,q1,q2]) rfl ⟨⟨_,by rw[S.x],by rw[S.x];exact⟨_,_,_,rfl,b8⟩,by rw[S.x];exact bZ.x⟩,I.x⟩
end
section
attribute [local go_sem] opC upC told bE bm bF bp bq bG bH
theorem Dx(x y:RIt):fM x y=if(if Lib.compareInt x.seq y.seq=0 then Lib.compareInt x.val y.val else Lib.compareInt x.seq y.seq)<0 then y else x:=by
 unfold fM Lib.compareInt
 by_cases b:x.seq<y.seq
 ·simp[b]
 ·by_cases c:x.seq=y.seq
  ·simp[c]
   by_cases a:x.val<y.val
   ·simp[a]
   ·by_cases d:y.val<x.val<;>simp[a,d]
  ·have a:y.seq<x.seq:=by omega
   simp[b,c,a]
theorem BV(x y:RIt):
 Calls aE 115 #[itV x,itV y] w λe a=>e=.returned (itV (fM x y)) /\ Kpt w a:=by
 obtain⟨wa,k⟩:=aP (w.alloc (.cells #[.string ⟨x.key.toArray⟩,.int .i64 x.dev,.int .i64 x.seq,.int .i64 x.val] 108));obtain⟨wb,h⟩:=aP (wa.alloc (.cells #[.string ⟨y.key.toArray⟩,.int .i64 y.dev,.int .i64 y.seq,.int .i64 y.val] 108));obtain⟨b,g⟩:=aP (wb.alloc (.cells #[.string ⟨#[]⟩,.int .i64 0,.int .i64 0,.int .i64 0] 108));have E:wa.heap.size=w.heap.size+1:=by rw[k];simp
 have X:wb.heap.size=w.heap.size+1+1:=by rw[h];simp[E]
 have S:Kpt w b:=by rw[g,h,k];exact((aI _ _).alloc (by simp) _).alloc (by simp;omega) _
 have p:Blk b w.heap.size [.string ⟨x.key.toArray⟩,.int .i64 x.dev,.int .i64 x.seq,.int .i64 x.val] 108:=by rw[g,h,k];exact((Blk.new _ _ _).alloc _).alloc _
 have q:Blk b (w.heap.size+1) [.string ⟨y.key.toArray⟩,.int .i64 y.dev,.int .i64 y.seq,.int .i64 y.val] 108:=by rw[g,h,<- E];exact(Blk.new _ _ _).alloc _
 have Y:Blk b (w.heap.size+1+1) [.string ⟨#[]⟩,.int .i64 0,.int .i64 0,.int .i64 0] 108:=by rw[g,<- X];exact Blk.new _ _ _
 have p2:∀a,aK b.drew a -> a.cell? ⟨w.heap.size,2,none⟩=some (.int .i64 x.seq):=λa hh=>bh (dH p).2.2.1 hh
 have p3:∀a,aK b.drew a -> a.cell? ⟨w.heap.size,3,none⟩=some (.int .i64 x.val):=λa hh=>bh (dH p).2.2.2 hh
 have q2:∀a,aK b.drew a -> a.cell? ⟨w.heap.size+1,2,none⟩=some (.int .i64 y.seq):=λa hh=>bh (dH q).2.2.1 hh
 have q3:∀a,aK b.drew a -> a.cell? ⟨w.heap.size+1,3,none⟩=some (.int .i64 y.val):=λa hh=>bh (dH q).2.2.2 hh
 have⟨ab,J,N,O,L⟩:=ae5 (show b=((w.alloc (.cells #[.string ⟨x.key.toArray⟩,.int .i64 x.dev,.int .i64 x.seq,.int .i64 x.val] 108)).alloc (.cells #[.string ⟨y.key.toArray⟩,.int .i64 y.dev,.int .i64 y.seq,.int .i64 y.val] 108)).alloc (.cells #[.string ⟨#[]⟩,.int .i64 0,.int .i64 0,.int .i64 0] 108) by rw[g,h,k]) S p q Y;have d:=Dx x y;obtain⟨z,W⟩:=aH (fM x y);rw[W] at d⊢;obtain⟨j,U⟩:=aH (Lib.compareInt x.seq y.seq);obtain⟨m,V⟩:=aH (Lib.compareInt x.val y.val);have A:=Tryz.cmp_Compare_int x.seq y.seq b.drew;have u:=Tryz.cmp_Compare_int x.val y.val b.drew;rw[U] at A d;rw[V] at u d;have⟨aa,HS,HI⟩:=ae3 d A u;obtain⟨l,o⟩:=aP (b.drew.alloc (.cells #[.int .i64 j,.int .i64 m] 3));have Z:aK b.drew l:=by rw[o];exact aI _ _
 have⟨HO,ad,P⟩:=ae3 (AK b.drew j m l o) o Z;clear k h g E X S p q Y U V A u o Z W d;unfold itV
 go_enter func115,ntmps115
 go_wp2_with fail;rw[<- ab.x];refine bP aK (up 4 [5,6,7,8,504,509,510,511,12]) (by kernel_rfl) ?_;apply aG;rfl;intro a R;go_simp;exact aF;refine aY rfl rfl (λt f=>?_);go_simp;refine HS.x.mono ?_;rintro e a ⟨rfl,rfl⟩;refine⟨_,rfl,aZ _,f _ _ ?_⟩;go_simp;refine aY rfl rfl (λt f=>?_);go_simp;refine HI.x.mono ?_;rintro e a ⟨rfl,rfl⟩;refine⟨_,rfl,aZ _,f _ _ ?_⟩;go_simp;refine aY rfl rfl (λt f=>?_);go_simp;rw[show(b.alloc (.cells #[.int .i64 j,.int .i64 m] 3)).drew=l from ad.x.symm];refine⟨P.x,f _ _ ?_⟩;go_simp;refine aY rfl rfl (λt f=>?_);go_simp;refine HO.x.mono ?_;rintro e a ⟨rfl,rfl⟩;refine⟨_,rfl,aZ _,f _ _ ?_⟩;go_simp;have n:Kpt b l:=(Below.refl _ _).drew.trans P.x;have ai:=N.x.keep (n.block _ N.x.lt);have ak:=O.x.keep (n.block _ O.x.lt);have i:=L.x.keep (n.block _ L.x.lt);have ag:Kpt w l:=J.x.trans (n.mono J.x.size);obtain⟨x0,x1,x2,x3⟩:=dH ai;obtain⟨y0,y1,y2,y3⟩:=dH ak;obtain⟨r0,r1,r2,r3⟩:=dH i;have f0:=i.free 0;have f1:=i.free 1;have f2:=i.free 2;have f3:=i.free 3;have M:=i;have K:=ag;have d:=aa.x;generalize(if j=0 then m else j)=c at d⊢
 by_cases T:c<0
 ·rw[if_pos T] at d;subst d;obtain⟨wf,D,C,B⟩:=C7 M K (show w.heap.size <= w.heap.size+1+1 by omega) (.string ⟨z.key.toArray⟩) (.int .i64 z.dev) (.int .i64 z.seq) (.int .i64 z.val);have s:=D;have r:=B;have Q:=dH C;apply aG;rfl;intro a R;go_simp;exact aF;refine aW ?_;go_wp2;rw[<- s];obtain⟨F,G,H,I⟩:=Q;exact bodyPost_ret (v:=.agg #[.string ⟨z.key.toArray⟩,.int .i64 z.dev,.int .i64 z.seq,.int .i64 z.val]) (by simp[results,results115,go_sem,F,G,H,I]) rfl ⟨rfl,r⟩
 ·rw[if_neg T] at d;subst d;obtain⟨wf,D,C,B⟩:=C7 M K (show w.heap.size <= w.heap.size+1+1 by omega) (.string ⟨z.key.toArray⟩) (.int .i64 z.dev) (.int .i64 z.seq) (.int .i64 z.val);have s:=D;have r:=B;have Q:=dH C;apply aG;rfl;intro a R;go_simp;exact aF;refine aW ?_;go_wp2;rw[<- s];obtain⟨F,G,H,I⟩:=Q;exact bodyPost_ret (v:=.agg #[.string ⟨z.key.toArray⟩,.int .i64 z.dev,.int .i64 z.seq,.int .i64 z.val]) (by simp[results,results115,go_sem,F,G,H,I]) rfl ⟨rfl,r⟩
def sL(bo:Nat)(a b c:Value)(F:aQ)(d:aT)(w:World):Prop:=Blk w bo [a,b,c] 37 /\ ce F w a b c d
theorem zZ(F:aQ)(P Q R:Value)(a:aT)(x:RIt)(h:sL k P Q R F a w)(hl:a.gone.length <= 1000000)(Z:Asc RGo.pl a.gone)(X:n <= w.heap.size):
 Calls aE 116 #[itV x,.pointer (some ⟨k,0,none⟩)] w λe w'=>e=.returned (.bool (decide (x.seq <= a.buried x.pl))) /\ sL k P Q R F a w' /\ jo n w w':=by
 obtain⟨l,d⟩:=h;obtain⟨bv,J⟩:=aH (a.buried x.pl);rw[J];have U:=J;obtain⟨z,M,rfl,-⟩:=d.seen.shape;obtain⟨A,N,rfl,-⟩:=d.items.shape;obtain⟨C,O,rfl,-⟩:=d.gone.shape;obtain⟨c,o⟩:=aP (w.alloc (.cells #[.string ⟨x.key.toArray⟩,.int .i64 x.dev,.int .i64 x.seq,.int .i64 x.val] 108));have j:Kpt w c:=by rw[o];exact aI _ _
 have g:Blk c w.heap.size [.string ⟨x.key.toArray⟩,.int .i64 x.dev,.int .i64 x.seq,.int .i64 x.val] 108:=by rw[o];exact Blk.new _ _ _
 have m:=l.keep (j.block _ l.lt);have K:=d.keep (w':=c) λb _ f=>j.block b f
 have p0:∀w',aK c.drew w' -> w'.cell? ⟨w.heap.size,0,none⟩=some (.string ⟨x.key.toArray⟩):=λw' hh=>bh (dH g).1 hh
 have ab:∀w',aK c.drew w' -> w'.cell? ⟨w.heap.size,1,none⟩=some (.int .i64 x.dev):=λw' hh=>bh (dH g).2.1 hh
 have ad:∀w',aK c.drew w' -> w'.cell? ⟨w.heap.size,2,none⟩=some (.int .i64 x.seq):=λw' hh=>bh (dH g).2.2.1 hh
 have ag:∀w',aK c.drew w' -> w'.cell? ⟨w.heap.size,3,none⟩=some (.int .i64 x.val):=λw' hh=>bh (dH g).2.2.2 hh
 have q0:∀w',aK c.drew w' -> w'.cell? ⟨k,0,none⟩=some (.slice z a.seen.length M):=λw' hh=>bh (aS m).1 hh
 have q1:∀w',aK c.drew w' -> w'.cell? ⟨k,1,none⟩=some (.slice A a.items.length N):=λw' hh=>bh (aS m).2.1 hh
 have q2:∀w',aK c.drew w' -> w'.cell? ⟨k,2,none⟩=some (.slice C a.gone.length O):=λw' hh=>bh (aS m).2.2 hh
 have q:=g7 c.drew x;unfold itV at q;have T:=q;have V:=ae o;have u:=j;have v:=l;have y:=d;have aa:=K;clear q o j l d g m K;unfold itV
 go_enter func116,ntmps116
 go_wp2_with fail;rw[<- V.x];refine bP aK (up 4 [504,505,6,7]) (by kernel_rfl) ?_;apply aG;rfl;intro w' Y;go_simp;exact aF;refine aY rfl rfl (λW p=>?_);go_simp;refine T.mono ?_;rintro e r ⟨rfl,H⟩;refine⟨_,rfl,H,p _ _ ?_⟩;have E:Kpt w r:=u.drew.trans (H.mono u.size);have D:=rQ r F (.agg #[.slice z a.seen.length M,.slice A a.items.length N,.slice C a.gone.length O]) a ⟨_,_,_,rfl,y.keep (w':=r) λb _ f=>E.block b f⟩ x.pl hl Z;rw[U] at D;have S:=D;have s:=E;go_simp;refine aY rfl rfl (λW p=>?_);go_simp;refine S.mono ?_;rintro e w3 ⟨rfl,I⟩;refine⟨_,rfl,I,p _ _ ?_⟩;have i:=s.trans (I.mono s.size);go_simp;apply aG;rfl;intro w' Y;go_simp;exact aF;refine aW ?_;go_wp2
 go_ret
 exact⟨rfl,⟨v.keep (i.block _ v.lt),y.keep (w':=w3) λb _ f=>i.block b f⟩,i.mono X,λb L t G _ _=>G.keep (i.block b G.lt)⟩
theorem tK(B a d:Nat)(S:B <= a)(F:aQ)(f i j:Value)(c:aT)(v:Value)(l:List RIt)(N:w.ownsRow a 108 4 v l.length (l.flatMap bT))(L:l.length <= 1000000)(z:a <= w.heap.size)(J:c.gone.length <= 1000000)(G:Asc RGo.pl c.gone)(hF:∀b,F b -> b<a)(H:d<a)(p:sL d f i j F c w):
 Calls aE 108 #[v,.func (.func 116) #[] #[.pointer (some ⟨d,0,none⟩)]] w λe w'=>
  ∃u,e=.returned u /\ w'.ownsRow a 108 4 u (l.filter λx=>!decide (x.seq <= c.buried x.pl)).length ((l.filter λx=>!decide (x.seq <= c.buried x.pl)).flatMap bT) /\ sL d f i j F c w' /\ Below a w w':=by
 rcases N.2 with⟨rfl,Q⟩|⟨g,o,k,rfl,q,I,r,M,O,P⟩
 ·obtain rfl:=List.length_eq_zero_iff.1 Q;refine(sJ w).mono ?_;rintro e w' ⟨rfl,rfl⟩;exact⟨_,rfl,World.ownsRow_nil _ _ _ _,p,Below.refl _ _⟩
 ·have s:k.toList=l.flatMap bT++k.toList.drop (l.length*4):=by
   rw[<- P,List.take_append_drop]
  have m:Blk w g (l.flatMap bT++k.toList.drop (l.length*4)) 108:=by
   rw[<- s];exact I
  refine(AZ (λ_ _=>by go_simp) (cp:=#[.pointer (some ⟨d,0,none⟩)]) (λ_ W=>sL d f i j F c W) (λx=>decide (x.seq <= c.buried x.pl)) a a (aq _) (λR x W n A T=>zZ W a d F f i j c x n J G A) (λR W W' h t=>⟨h.1.keep (t.bel.block _ H),h.2.keep (w':=W') λb m _=>t.bel.block b (hF b m)⟩) w g o _ l _ m rfl q L r z p).mono ?_;rintro e w' ⟨⟨rfl,⟨y,C,D,E⟩,n⟩,K⟩;refine⟨_,rfl,⟨by rw[dG bT 4 cY],.inr ⟨g,o,y.toArray,rfl,q,C,au (List.length_filter_le _ _) r,M,?_,E⟩⟩,n,K.bel⟩;rw[List.size_toArray,D,<- s];exact O
end
section
open Go.Sort
attribute [local go_sem] opC upC told bE bm bF bp bq bG bH
theorem jv(h:aV r=true):r.seen.length=8 /\ r.items.length <= 4096 /\ r.gone.length <= 4096:=by
 have:=(cA h).len;unfold aV at h;simp at h;exact⟨this,by omega,by omega⟩
def eq(x y:List Int)(k:Nat):List Int:=List.zipWith max (x.take k) (y.take k)++x.drop k
theorem lI(x y:List Int)(k:Nat)(h:x.length=y.length)(a:k <= x.length):(eq x y k).length=x.length:=by
 unfold eq;simp;omega
theorem qE(x y:List Int):eq x y 0=x:=by simp[eq]
theorem sM(x y:List Int)(h:x.length=y.length):eq x y x.length=List.zipWith max x y:=by
 unfold eq;rw[List.take_length,h,List.take_length,<- h,List.drop_length,List.append_nil]
theorem sO(x y:List Int)(k:Nat)(h:x.length=y.length)(a:k<x.length):(eq x y k)[k]?=some x[k]:=by
 unfold eq;rw[List.getElem?_append_right (by simp;omega)];simp[Nat.min_eq_left (show k <= x.length by omega),Nat.min_eq_left (show k <= y.length by omega),a]
theorem qF(x y:List Int)(k:Nat)(h:x.length=y.length)(a:k<x.length):eq x y (k+1)=(eq x y k).set k (max x[k] (y[k]'(by omega))):=by
 unfold eq;have b:(List.zipWith max (x.take k) (y.take k)).length=k:=by simp;omega
 rw[List.set_append_right _ _ (by omega),b,Nat.sub_self,List.drop_eq_getElem_cons a,List.set_cons_zero,List.take_succ_eq_append_getElem a,List.take_succ_eq_append_getElem (show k<y.length by omega),List.zipWith_append (by simp;omega)];simp
theorem sP(hT:eB w)(h3:4 <= w.heap.size)(F G:aQ)(va vb:Value)(a b:aT)(ha:di F w va a)(J:di G w vb b):
 Calls aE 59 #[va,vb] w (C9 w (dh a b)):=by
 replace ha:=ha.mono (G:=λq=>q<w.heap.size) λq _ z=>z
 replace J:=J.mono (G:=λq=>q<w.heap.size) λq _ z=>z
 replace ha:=qU ha 37
 obtain⟨aU,a3,ay,aM,az,aN,cK,rfl,cX,a6,cm,c3,ch⟩:=ha
 replace J:di (λq=>q<w.heap.size) cK vb b:=J.keep (w':=cK) λq _ z=>a6.x.block q z
 replace J:=qU J 37
 obtain⟨ba,bp,aW,a4,aX,a5,bq,rfl,cY,cc,c6,c4,cP⟩:=J;obtain⟨d,al⟩:=aP (bq.alloc (.cells #[.slice none 0 0,.slice none 0 0,.slice none 0 0] 37));have bX:bq.heap.size=w.heap.size+2:=by rw[c6.x,cm.x]
 have bo:d.heap.size=w.heap.size+3:=by rw[al];simp[bX]
 have bf:Kpt w bq:=a6.x.trans (cc.x.mono a6.x.size);have be:Kpt w d:=by rw[al];exact bf.alloc bf.size _
 have V:Blk d w.heap.size [.slice aU a.seen.length a3,.slice ay a.items.length aM,.slice az a.gone.length aN] 37:=by rw[al];exact(ch.x.keep (cc.x.block _ ch.x.lt)).alloc _
 have kb:Blk d (w.heap.size+1) [.slice ba b.seen.length bp,.slice aW b.items.length a4,.slice aX b.gone.length a5] 37:=by
  have:=cP.x;rw[cm.x] at this;rw[al];exact this.alloc _
 have c:Blk d (w.heap.size+1+1) [.slice none 0 0,.slice none 0 0,.slice none 0 0] 37:=by
  have:=Blk.new bq #[.slice none 0 0,.slice none 0 0,.slice none 0 0] 37;rw[<- al,bX] at this;exact this
 have ad:=c3.x;have ag:=c4.x
 have f:=ae (show ∀W,Kpt d W -> Kpt w W /\ Blk W w.heap.size [.slice aU a.seen.length a3,.slice ay a.items.length aM,.slice az a.gone.length aN] 37 /\ Blk W (w.heap.size+1) [.slice ba b.seen.length bp,.slice aW b.items.length a4,.slice aX b.gone.length a5] 37 /\ Blk W (w.heap.size+1+1) [.slice none 0 0,.slice none 0 0,.slice none 0 0] 37 /\ ce (λq=>q<w.heap.size) W (.slice aU a.seen.length a3) (.slice ay a.items.length aM) (.slice az a.gone.length aN) a /\ ce (λq=>q<w.heap.size) W (.slice ba b.seen.length bp) (.slice aW b.items.length a4) (.slice aX b.gone.length a5) b from λW hW=>by
  have hB:Kpt w W:=be.trans (hW.mono (by omega))
  exact⟨hB,V.keep (hW.block _ V.lt),kb.keep (hW.block _ kb.lt),c.keep (hW.block _ c.lt),ad.keep (w':=W) λq L _=>(hB.block q L).trans (a6.x.block q L).symm,ag.keep (w':=W) λq L _=>(hB.block q L).trans (bf.block q L).symm⟩)
 have ar:=ae (show ∀W,Kpt w W -> eB W /\ 4 <= W.heap.size from λW hW=>⟨bR hT h3 hW,au h3 hW.size⟩);have⟨bs,cV,c5⟩:=ae3 (pV d (ar.x d be).1 (ar.x d be).2 _ (.agg #[.slice aU a.seen.length a3,.slice ay a.items.length aM,.slice az a.gone.length aN]) a ⟨_,_,_,rfl,(f.x d (Below.refl _ _)).2.2.2.2.1⟩) al bo;obtain⟨c0,c1,c2⟩:=aS V;obtain⟨dp,bV⟩:=aH (aV a);rw[bV] at bs;have aO:=ae bV;clear al bX bo bf be V kb c ad ag hT bV
 go_enter func59,ntmps59
 go_wp2_with fail;rw[<- cX.x,<- cY.x,<- cV.x];refine bs.x.mono ?_;rintro e N ⟨rfl,K⟩;clear bs c0 c1 c2;cases dp with
 |false=>
  have C:=ae (show dh a b=(.empty,5) by unfold dh;rw[aO.x];rfl);have c:=(f.x N K).2.2.2.1;have aG:=(f.x N K).1;clear K;obtain⟨wf,B,I,H⟩:=dX c aG (by omega) (.slice none 0 0) (.slice none 0 0) (.slice none 0 0);obtain⟨y0,y1,y2⟩:=aS c;have z0:=c.free 0;have z1:=c.free 1;have z2:=c.free 2;have⟨Q,Y,aa⟩:=ae3 (aS I) H B;clear B I H;go_wp2;rw[<- aa.x];obtain⟨q0,q1,q2⟩:=Q.x;exact bodyPost_ret (v:=.tuple #[eJ,.int .i64 5]) (by simp[results,results59,go_sem,q0,q1,q2,eJ]) rfl ⟨⟨_,by rw[C.x],by rw[C.x];exact gI _ _,by rw[C.x];exact eT⟩,Y.x⟩
 |true=>
  have bt:=ae (pV N (ar.x N (f.x N K).1).1 (ar.x N (f.x N K).1).2 _ (.agg #[.slice ba b.seen.length bp,.slice aW b.items.length a4,.slice aX b.gone.length a5]) b ⟨_,_,_,rfl,(f.x N K).2.2.2.2.2⟩);obtain⟨dr,bW⟩:=aH (aV b);rw[bW] at bt;have a8:=ae bW;obtain⟨d0,d1,d2⟩:=aS (f.x N K).2.2.1;have cb:=ae K;clear bW K;go_wp2_with fail;refine bt.x.mono ?_;rintro e u ⟨rfl,cq⟩;have ab:Kpt d u:=cb.x.trans (cq.mono cb.x.size);clear bt d0 d1 d2 cq;cases dr with
  |false=>
   have C:=ae (show dh a b=(.empty,5) by unfold dh;rw[aO.x,a8.x];rfl);have c:=(f.x u ab).2.2.2.1;have aG:=(f.x u ab).1;clear ab;obtain⟨wf,B,I,H⟩:=dX c aG (by omega) (.slice none 0 0) (.slice none 0 0) (.slice none 0 0);obtain⟨y0,y1,y2⟩:=aS c;have z0:=c.free 0;have z1:=c.free 1;have z2:=c.free 2;have⟨Q,Y,aa⟩:=ae3 (aS I) H B;clear B I H;go_wp2;rw[<- aa.x];obtain⟨q0,q1,q2⟩:=Q.x;exact bodyPost_ret (v:=.tuple #[eJ,.int .i64 5]) (by simp[results,results59,go_sem,q0,q1,q2,eJ]) rfl ⟨⟨_,by rw[C.x],by rw[C.x];exact gI _ _,by rw[C.x];exact eT⟩,Y.x⟩
  |true=>
   have fa:=cA aO.x;have fb:=cA a8.x;have cD:=jv aO.x;have cE:=jv a8.x;have b7:=ae (rS u _ (.agg #[.slice aU a.seen.length a3,.slice ay a.items.length aM,.slice az a.gone.length aN]) a ⟨_,_,_,rfl,(f.x u ab).2.2.2.2.1⟩ (by omega) (by omega) (by omega));obtain⟨c0,c1,c2⟩:=aS (f.x u ab).2.1;have⟨bu,av,ax,a7,bx⟩:=ae5 ab cD cE fa fb;clear ab cD cE fa fb;go_wp2_with fail;refine b7.x.mono ?_;rintro e l ⟨⟨r,rfl,s1,s2,s3,rfl,s⟩,cr⟩;have aY:Kpt d l:=bu.x.trans (cr.mono bu.x.size);obtain⟨b1,m,dl⟩:=aJ s.seen;obtain⟨D,E,rfl⟩:=aJ s.items;obtain⟨R,T,rfl⟩:=aJ s.gone;subst dl
   obtain⟨g,rfl⟩:∃g,b1=some ⟨g,0,none⟩:=by
    rcases s.seen.2 with⟨_,h0⟩|⟨g,c7,c8,hv,_⟩
    ·have:=av.x.1;omega
    ·simp at hv;exact⟨g,hv.1⟩
   obtain⟨w6,bn⟩:=aP (l.alloc (.cells #[.slice (some ⟨g,0,none⟩) a.seen.length m,.slice D a.items.length E,.slice R a.gone.length T] 37));have bH:Kpt l w6:=by rw[bn];exact aI _ _
   have cC:=s.below bH;have kO:Blk w6 l.heap.size [.slice (some ⟨g,0,none⟩) a.seen.length m,.slice D a.items.length E,.slice R a.gone.length T] 37:=by rw[bn];exact Blk.new _ _ _
   have co:Kpt d w6:=aY.trans (bH.mono aY.size)
   obtain⟨cs,ct⟩:u.heap.size <= g /\ g<l.heap.size:=by
    rcases s.seen.2 with⟨hh,_⟩|⟨g',c7,c8,hv,J,hg,_⟩
    ·simp at hh
    ·simp at hv;obtain⟨rfl,-⟩:=hv;exact⟨J,lt_of_block hg⟩
   have cw:a.seen.length=b.seen.length:=by have:=av.x.1;have:=ax.x.1;omega
   have du:b.seen.length <= 1000:=by have:=ax.x.1;omega
   have⟨H6,cW,Hg,O,b9,b6⟩:=ae6 (show Blk w6 l.heap.size [.slice (some ⟨g,0,none⟩) a.seen.length m,.slice D a.items.length E,.slice R a.gone.length T] 37 /\ dU w6 u.heap.size (.slice (some ⟨g,0,none⟩) a.seen.length m) (.slice D a.items.length E) (.slice R a.gone.length T) ⟨eq a.seen b.seen 0,a.items,a.gone⟩ /\ Kpt d w6 from⟨kO,by rw[qE];exact cC,co⟩) bn (And.intro cs ct) cw aY bu.x.size;have b0:=(f.x l aY).2.2.1;obtain⟨d0,d1,d2⟩:=aS b0;have dw:w.heap.size+1<l.heap.size:=b0.lt;clear b7 cr aY bH cC kO co bn s c0 c1 c2 cs ct cw b0;go_wp2;rw[<- cW.x];clear d0 d1 d2
   go_loopw [23] (λi wr=>∃k:Nat,k <= b.seen.length /\ i=.int .i64 (k:Int) /\ Blk wr l.heap.size [.slice (some ⟨g,0,none⟩) a.seen.length m,.slice D a.items.length E,.slice R a.gone.length T] 37 /\ dU wr u.heap.size (.slice (some ⟨g,0,none⟩) a.seen.length m) (.slice D a.items.length E) (.slice R a.gone.length T) ⟨eq a.seen b.seen k,a.items,a.gone⟩ /\ Kpt d wr) (λi _=>b.seen.length-(intOf i).toNat)
   ·exact⟨0,by omega,rfl,H6.x⟩
   ·obtain⟨k,hk,rfl,kO,s,hL⟩:=hrel
    by_cases dg:k<b.seen.length
    ·have de:(k:Int)<(b.seen.length:Int):=by omega
     have cv:k<a.seen.length:=by have:=O.x;omega
     have dv:(k:Int)<(a.seen.length:Int):=by omega
     obtain⟨bb,ob,rfl,-,-,hc⟩:=(f.x wr hL).2.2.2.2.2.seen.cells (by omega);obtain⟨x,hx⟩:=aH a.seen[k];obtain⟨y,hy⟩:=aH b.seen[k];have e0:=hc k (.int .i64 y) (by simp[dg,hy]);have bl:=s.below (Below.refl wr.heap.size wr).drew;have U:=bl.seen;have cx:(eq a.seen b.seen k).length=a.seen.length:=lI _ _ k O.x (by omega);dsimp only at U;rw[cx] at U
     have eg:wr.drew.cell? ⟨g,k,none⟩=some (.int .i64 x):=by
      rw[U.cellAt k (by simp;omega)];simp[sO a.seen b.seen k O.x cv,hx]
     have fg:=U.frozenAt k;obtain⟨bU,bi⟩:=U.stored k (.int .i64 (max x y));have po:∀t,aK wr.drew t -> t.cell? ⟨l.heap.size,0,none⟩=some (.slice (some ⟨g,0,none⟩) a.seen.length m):=λt hh=>bh (aS kO).1 hh
     have pg:∀t,aK wr.drew t -> t.cell? ⟨g,k,none⟩=some (.int .i64 x):=λt hh=>bh (w:=wr) eg hh
     obtain⟨n,A⟩:=aP (wr.drew.setCell ⟨g,k,none⟩ (.int .i64 (max x y)));rw[<- A] at bU bi
     have cT:=ae (show Blk n l.heap.size [.slice (some ⟨g,0,none⟩) a.seen.length m,.slice D a.items.length E,.slice R a.gone.length T] 37 /\ dU n u.heap.size (.slice (some ⟨g,0,none⟩) a.seen.length m) (.slice D a.items.length E) (.slice R a.gone.length T) ⟨eq a.seen b.seen (k+1),a.items,a.gone⟩ /\ Kpt d n from by
      refine⟨by rw[A];exact(kO.drew).set_other _ (by show l.heap.size≠g;have:=Hg.x.2;omega),⟨?_,bZ bl.items U (by decide) bi,bZ bl.gone U (by decide) bi⟩,by rw[A];exact hL.drew.setCell (by have:=Hg.x.1;have:=b6.x;show d.heap.size <= g;omega) _⟩;have h1:=qF a.seen b.seen k O.x cv;show n.ownsRow u.heap.size 3 1 _ (eq a.seen b.seen (k+1)).length ((eq a.seen b.seen (k+1)).map eI);rw[lI _ _ (k+1) O.x (by omega),h1,List.map_set,hx,hy]
      exact bU)
     have bA:=ae A;clear hc hx hy bl U cx bU bi A kO s;go_wp2_with fail;refine dq aK 11 (up 11 [511]) (by kernel_rfl) ?_;apply bC;rfl;intro t hC;go_simp;exact aF;refine cG rfl rfl rfl (λKK hK=>?_);go_simp;rw[show(wr.setCell ⟨g,k,none⟩ (.int .i64 (max x y))).drew=n from bA.x.symm];refine hK _ _ ?_;clear hK KK po pg eg fg;go_simp;refine cZ ?_;go_wp2
     go_roundw
     ·exact⟨k+1,by omega,by go_num,cT.x⟩
     ·simp[intOf];omega
    ·have de:¬(k:Int)<(b.seen.length:Int):=by omega
     have df:k=a.seen.length:=by have:=O.x;omega
     have dm:eq a.seen b.seen k=List.zipWith max a.seen b.seen:=by rw[df];exact sM _ _ O.x
     have dn:(List.zipWith max a.seen b.seen).length=a.seen.length:=by have:=O.x;simp;omega
     rw[dm] at s;obtain⟨cF,V,kb,c,ad,ag⟩:=f.x wr hL;obtain⟨j,cz⟩:=aH (cH RGo.pl dM a.gone b.gone);have hM:=vD.2 wr _ _ (.slice az a.gone.length aN) (.slice aX b.gone.length a5) a.gone b.gone 113 #[] dM (λ_ _=>by go_simp) ad.gone ag.gone (by have:=av.x.2.2;omega) (by have:=ax.x.2.2;omega) (λx _ y _ _ W _=>rX W x y) _ _ rfl rfl;rw[cz] at hM;obtain⟨c0,c1,c2⟩:=aS V;obtain⟨d0,d1,d2⟩:=aS kb;have HM:=hM;have bz:=cz;have bw:=hL;have HO:=s;have KO:=kO;have cl:=dn;go_wp2_with fail;refine HM.mono ?_;rintro e w7 ⟨r,rfl,bT,aZ⟩;obtain⟨o,p,rfl⟩:=aJ bT;have ao:=KO.keep (aZ.block _ KO.lt);have bd:Kpt d w7:=bw.trans (aZ.mono bw.size);have bO:=HO.below aZ;obtain⟨n,A⟩:=aP (w7.setCell ⟨l.heap.size,2,none⟩ (.slice o j.length p));have bB:=b9.x.size;have cJ:Blk n l.heap.size [.slice (some ⟨g,0,none⟩) a.seen.length m,.slice D a.items.length E,.slice o j.length p] 37:=by rw[A];exact ao.set 2 _
     have bE:Kpt d n:=by rw[A];exact bd.setCell (by show d.heap.size <= l.heap.size;omega) _
     have bm:=aL (i:=2) bO.seen ao (by decide) (.slice o j.length p);have bj:=aL (i:=2) bO.items ao (by decide) (.slice o j.length p);have bK:=aL (i:=2) bT ao (by decide) (.slice o j.length p);dsimp only at bm bj;rw[<- A] at bm bj bK;obtain⟨cF,V,kb,c,ad,ag⟩:=f.x n bE;obtain⟨mi,bM⟩:=aH (cH RIt.pl fM a.items b.items);have hI:=vD.1 n _ _ (.slice ay a.items.length aM) (.slice aW b.items.length a4) a.items b.items 115 #[] fM (λ_ _=>by go_simp) ad.items ag.items (by have:=av.x.2.1;omega) (by have:=ax.x.2.1;omega) (λx _ y _ _ W _=>BV W x y) _ _ rfl rfl;rw[bM] at hI;obtain⟨c0,c1,c2⟩:=aS (f.x w7 bd).2.1;obtain⟨d0,d1,d2⟩:=aS (f.x w7 bd).2.2.1;obtain⟨o0,o1,o2⟩:=aS ao;have db:=ao.free 2;have HI:=hI;have cg:=bM;have aR:=cJ;have bv:=bE;have cj:=bm;have cN:=bj;have cf:=bK;have bA:=ae A;have cL:=bw.size;have ds:=aZ.size;clear hI bM cJ bE bm bj bK A ao bd bO bT aZ HM cF V kb c ad ag bB;go_wp2_with fail;rw[<- bA.x];refine HI.mono ?_;rintro e w9 ⟨r2,rfl,bP,a1⟩;obtain⟨ai,ci,rfl⟩:=aJ bP;have bY:=aR.keep (a1.block _ aR.lt);have bg:=fA (jq a b a7.x bx.x)
     have bk:dK a b=⟨List.zipWith max a.seen b.seen,mi.filter λx=>decide ((⟨List.zipWith max a.seen b.seen,[],j⟩:aT).buried x.pl<x.seq),j⟩:=by
      unfold dK;rw[bz,cg]
     have cu:Asc RGo.pl j:=by rw[<- bz];exact gT fN a7.x.gone bx.x.gone
     have dj:j.length <= 8192:=by
      have:=tW (pl:=RGo.pl) dM _ a.gone b.gone (aq _);rw[bz] at this;have:=av.x.2.2;have:=ax.x.2.2;omega
     have dk:mi.length <= 8192:=by
      have:=tW (pl:=RIt.pl) fM _ a.items b.items (aq _);rw[cg] at this;have:=av.x.2.1;have:=ax.x.2.1;omega
     have cB:ce (λq=>q<n.heap.size) n (.slice (some ⟨g,0,none⟩) a.seen.length m) (.slice D a.items.length E) (.slice o j.length p) ⟨List.zipWith max a.seen b.seen,a.items,j⟩:=by
      refine⟨?_,(Rows.of_owns cN).mono λq _ z=>z,(Rows.of_owns cf).mono λq _ z=>z,by have:=bg.seenB;rw[bk] at this;exact this,(fA a7.x).itemsB,by have:=bg.goneB;rw[bk] at this;exact this⟩;have:=(Rows.of_owns cj).mono (G:=λq=>q<n.heap.size) λq _ z=>z
      dsimp only;rw[cl] at this⊢;exact this
     have hD:=tK w9 n.heap.size n.heap.size l.heap.size (aq _) _ _ _ _ ⟨List.zipWith max a.seen b.seen,a.items,j⟩ (.slice ai mi.length ci) mi bP (by omega) a1.size (by dsimp only;omega) cu (λq L=>L) aR.lt ⟨bY,cB.keep (w':=w9) λq L _=>a1.block q L⟩;obtain⟨M,bL⟩:=aH (mi.filter (λx=>!decide (x.seq <= (⟨List.zipWith max a.seen b.seen,a.items,j⟩:aT).buried x.pl)));rw[bL] at hD
     have cy:dK a b=⟨List.zipWith max a.seen b.seen,M,j⟩:=by
      rw[bk,<- bL]
      congr 1
      refine List.filter_congr λx _=>?_
      show decide ((⟨List.zipWith max a.seen b.seen,a.items,j⟩:aT).buried x.pl<x.seq)=_;rw[Bool.eq_iff_iff];simp
     have⟨HD,cO,cd,cM,dt⟩:=ae5 hD cy bg a1 bY;clear hD cy bg a1 bY bk cu dj dk cB bL bP HI c0 c1 c2 d0 d1 d2 o0 o1 o2 db;go_wp2_with fail;refine HD.x.mono ?_;rintro e b4 ⟨v',rfl,bQ,-,cp⟩;obtain⟨P,S,rfl⟩:=aJ bQ;have a0:Kpt n b4:=cM.x.trans cp;have an:=aR.keep (a0.block _ aR.lt);have cn:Kpt d b4:=bv.trans (a0.mono bv.size);obtain⟨X,a2⟩:=aP (b4.setCell ⟨l.heap.size,1,none⟩ (.slice P M.length S));have bB:=b9.x.size;have bo:=c5.x;have dc:=b6.x;have dd:=bv.size;have cI:Blk X l.heap.size [.slice (some ⟨g,0,none⟩) a.seen.length m,.slice P M.length S,.slice o j.length p] 37:=by rw[a2];exact an.set 1 _
     have bc:Kpt d X:=by rw[a2];exact cn.setCell (by show d.heap.size <= l.heap.size;omega) _
     have bN:dU X w.heap.size (.slice (some ⟨g,0,none⟩) a.seen.length m) (.slice P M.length S) (.slice o j.length p) (dK a b):=by
      rw[cO.x,a2];refine⟨?_,bJ (aL bQ an (by decide) _) (by omega),bJ (aL (br cf a0) an (by decide) _) (by have:=cL;omega)⟩;have h1:=bJ (aL (i:=1) (br cj a0) an (by decide) (.slice P M.length S)) (show w.heap.size <= u.heap.size by omega);dsimp only at h1⊢;rw[cl] at h1⊢;exact h1
     have bI:=jq a b a7.x bx.x;have bF:=mb X (ar.x X (f.x X bc).1).1 (ar.x X (f.x X bc).1).2 _ (.agg #[.slice (some ⟨g,0,none⟩) a.seen.length m,.slice P M.length S,.slice o j.length p]) (dK a b) ⟨_,_,_,rfl,bN.map cd.x⟩ (λx hx=>by have:=dW (dV (bI.iknown x hx));have h:x.pl.1=x.key:=rfl;rw[h] at this;omega) (λx hx=>by have:=dW (dV (bI.gknown x hx));have h:x.pl.1=x.key:=rfl;rw[h] at this;omega);obtain⟨ok,bS⟩:=aH (aV (dK a b));rw[bS] at bF
     have hu:dh a b=if ok=true then(dK a b,0) else(.empty,7):=by
      unfold dh gw;rw[aO.x,a8.x,bS];cases ok<;>rfl
     obtain⟨o0,o1,o2⟩:=aS an;have da:=an.free 1;obtain⟨t0,t1,t2⟩:=aS cI;have⟨ca,cQ,b8,C,cU⟩:=ae5 bF bN bc hu a2;clear bF bN bc hu a2 cI an a0 cn bB bo dc dd bI bS bQ cp HD;go_wp2_with fail;rw[<- cU.x];refine ca.x.mono ?_;rintro e b5 ⟨rfl,bG⟩;have bD:Kpt d b5:=b8.x.trans (bG.mono b8.x.size);have c:=(f.x b5 bD).2.2.2.1;have aG:=(f.x b5 bD).1;have cR:=ae (cQ.x.below bG);clear ca bG bD o0 o1 o2 da t0 t1 t2;cases ok with
     |false=>
      have Z:=ae (show dh a b=(.empty,7) from C.x.trans (if_neg Bool.false_ne_true));obtain⟨wf,B,I,H⟩:=dX c aG (by omega) (.slice none 0 0) (.slice none 0 0) (.slice none 0 0);obtain⟨y0,y1,y2⟩:=aS c;have z0:=c.free 0;have z1:=c.free 1;have z2:=c.free 2;have⟨Q,Y,aa⟩:=ae3 (aS I) H B;clear B I H;go_wp2;rw[<- aa.x];obtain⟨q0,q1,q2⟩:=Q.x;exact bodyPost_ret (v:=.tuple #[eJ,.int .i64 7]) (by simp[results,results59,go_sem,q0,q1,q2,eJ]) rfl ⟨⟨_,by rw[Z.x],by rw[Z.x];exact gI _ _,by rw[Z.x];exact eT⟩,Y.x⟩
     |true=>
      have Z:=ae (show dh a b=(dK a b,0) from C.x.trans (if_pos rfl));obtain⟨wf,B,I,H⟩:=dX c aG (by omega) (.slice (some ⟨g,0,none⟩) a.seen.length m) (.slice P M.length S) (.slice o j.length p);obtain⟨y0,y1,y2⟩:=aS c;have z0:=c.free 0;have z1:=c.free 1;have z2:=c.free 2;have Q:=ae (aS I)
      have cS:dU wf w.heap.size (.slice (some ⟨g,0,none⟩) a.seen.length m) (.slice P M.length S) (.slice o j.length p) (dK a b):=by
       rw[B];exact((cR.x.setCell c _).setCell (c.set 0 _) _).setCell ((c.set 0 _).set 1 _) _
      have⟨Y,aa⟩:=ae2 H B;go_wp2;rw[<- aa.x];obtain⟨q0,q1,q2⟩:=Q.x;exact bodyPost_ret (v:=.tuple #[.agg #[.slice (some ⟨g,0,none⟩) a.seen.length m,.slice P M.length S,.slice o j.length p],.int .i64 0]) (by simp[results,results59,go_sem,q0,q1,q2]) rfl ⟨⟨_,by rw[Z.x],by rw[Z.x];exact⟨_,_,_,rfl,cS⟩,by rw[Z.x];exact cd.x⟩,Y.x⟩
theorem z6(f:eB w)(e:4 <= w.heap.size)(F G:aQ)(c d:Value)(a b:aT)(g:di F w c a)(h:di G w d b)(j:∀x∈a.items,x.key.length <= 1000000)(i:∀x∈a.gone,x.key.length <= 1000000)(l:∀x∈b.items,x.key.length <= 1000000)(k:∀x∈b.gone,x.key.length <= 1000000):
 Calls aE 59 #[c,d] w (C9 w (dh a b)):=sP w f e F G c d a b g h
end
section
attribute [local go_sem ↓] aU
attribute [local go_sem] opC upC told bE bm bF bp bq bG bH
theorem yn{e c:TypeId}{k d n f:Nat}{v a:Value}{s g:List Value}(h:W.ownsRow j c d a f g)(r:∀q,a.ownBlock=some q -> q<i)(p:W.ownsRow i e k v n s)(o:W.grownBy w' v.ownBlock):w'.ownsRow j c d a f g:=by
 refine h.kept o ?_;cases l:a.ownBlock with
 |none=>exact .inl rfl
 |some b=>
  refine .inr λm=>?_
  have t:=(p.lt b m.symm).1;have u:=r b l;omega
theorem ER{α:Type}{a:α -> RPl}{l:List α}{x y:α}(h:y∈dL a l x):y=x \/ y∈l:=by
 unfold dL at h;rw[List.mem_append,List.mem_cons] at h;rcases h with h|h|h
 ·exact .inr (List.takeWhile_sublist _ |>.subset h)
 ·exact .inl h
 ·exact .inr (List.dropWhile_sublist _ |>.subset (List.mem_filter.1 h).1)
theorem sQ{α:Type}{b:α -> RPl}:∀(a l:List α){y:α},y∈a.foldl (dL b) l -> y∈a \/ y∈l
 |[],l,y,h=>.inr h
 |x::a,l,y,h=>by
  rcases sQ a _ h with h|h
  ·exact .inl (List.mem_cons_of_mem _ h)
  ·rcases ER h with rfl|h
   ·exact .inl List.mem_cons_self
   ·exact .inr h
def gQ(a:aT)(l:List RGo):List RGo:=(l.filter λg=>decide (a.buried g.pl<g.seq)).foldl (dL RGo.pl) a.gone
def ml(a:aT)(x:RIt):Bool:=match df RIt.pl a.items x.pl with|some y=>decide (y.seq<x.seq \/ (x.seq=y.seq /\ y.val<x.val))|none=>true
def kK(a:aT)(l:List RIt):List RIt:=(l.filter (ml a)).foldl (dL RIt.pl) a.items
theorem Aa{a:aT}{l:List RGo}(h:i<l.length)(b:a.buried l[i].pl<l[i].seq):gQ a (l.take (i+1))=dL RGo.pl (gQ a (l.take i)) l[i]:=by
 unfold gQ;rw[fZ _ l i h,if_pos (by simpa using b),List.foldl_append];rfl
theorem BW{a:aT}{l:List RGo}(h:i<l.length)(b:¬a.buried l[i].pl<l[i].seq):gQ a (l.take (i+1))=gQ a (l.take i):=by
 unfold gQ;rw[fZ _ l i h,if_neg (by simpa using b),List.append_nil]
theorem sR{a:aT}{l:List RIt}(h:i<l.length)(b:ml a l[i]=true):kK a (l.take (i+1))=dL RIt.pl (kK a (l.take i)) l[i]:=by
 unfold kK;rw[fZ _ l i h,if_pos b,List.foldl_append];rfl
theorem A0{a:aT}{l:List RIt}(h:i<l.length)(b:ml a l[i]=false):kK a (l.take (i+1))=kK a (l.take i):=by
 unfold kK;rw[fZ _ l i h,if_neg (by rw[b];exact Bool.false_ne_true),List.append_nil]
theorem Dy{l:List RIt}{x:RIt}(h:x∈kK r l):x∈l \/ x∈r.items:=(sQ _ _ h).imp (λh=>(List.mem_filter.1 h).1) id
theorem Ab{l:List RGo}{x:RGo}(h:x∈gQ r l):x∈l \/ x∈r.gone:=(sQ _ _ h).imp (λh=>(List.mem_filter.1 h).1) id
def uJ(b:List Int)(a:List RGo)(x:RIt):Bool:=decide ((⟨b,[],a⟩:aT).buried x.pl<x.seq)
structure FSt(w2 wr:World)(S ob:Nat)(s1 si s3 al:Value)(zs:List Int)(cur:List RGo)(cu3 kp:List RIt):Prop where
 blk:Blk wr ob [s1,si,s3] 75
 seen:wr.ownsRow w2.heap.size 3 1 s1 zs.length (zs.map eI)
 gone:wr.ownsRow w2.heap.size 130 3 s3 cur.length (cur.flatMap du)
 all:wr.ownsRow w2.heap.size 129 4 al cu3.length (cu3.flatMap bT)
 new:wr.ownsRow S 129 4 si kp.length (kp.flatMap bT)
 bel:Kpt w2 wr
 sle:w2.heap.size <= S
 sle2:S <= wr.heap.size
theorem FSt.below{l wr w':World}{f k g b:Value}{m:List Int}{d:List RGo}{c e:List RIt}(h:FSt l wr i j f k g b m d c e)(a:Kpt wr w'):FSt l w' i j f k g b m d c e:=
 ⟨h.blk.keep (a.block _ h.blk.lt),br h.seen a,br h.gone a,br h.all a,br h.new a,h.bel.trans (a.mono h.bel.size),h.sle,au h.sle2 a.size⟩
theorem sS(F G:aQ)(va vb:Value)(a b:aT)(ha:di F w va a)(U:di G w vb b)(eM:∀x∈a.items,x.key.length <= 1000000000)(eL:∀x∈a.gone,x.key.length <= 1000000000)(eO:∀x∈b.items,x.key.length <= 1000000000)(eN:∀x∈b.gone,x.key.length <= 1000000000):
 Calls aE 125 #[va,vb] w (vS w (dh a b)):=by
 replace ha:=ha.mono (G:=λq=>q<w.heap.size) λq _ aX=>aX
 replace U:=U.mono (G:=λq=>q<w.heap.size) λq _ aX=>aX
 replace ha:=qU ha 75
 obtain⟨bm,bt,bn,bu,bo,bv,en,rfl,eB,ct,dG,eE,dD⟩:=ha
 replace U:di (λq=>q<w.heap.size) en vb b:=U.keep (w':=en) λq _ aX=>ct.x.block q aX
 replace U:=qU U 75
 obtain⟨cy,cm,cz,cP,cB,cQ,cR,rfl,eC,dy,eH,eF,eu⟩:=U;obtain⟨f,bU⟩:=aP (cR.alloc (.cells #[.slice none 0 0,.slice none 0 0,.slice none 0 0] 75));have dm:cR.heap.size=w.heap.size+2:=by rw[eH.x,dG.x]
 have ej:f.heap.size=w.heap.size+3:=by rw[bU];simp[dm]
 have bM:Kpt w cR:=ct.x.trans (dy.x.mono ct.x.size);have dP:Kpt w f:=by rw[bU];exact bM.alloc bM.size _
 have ka:Blk f w.heap.size [.slice bm a.seen.length bt,.slice bn a.items.length bu,.slice bo a.gone.length bv] 75:=by rw[bU];exact(dD.x.keep (dy.x.block _ dD.x.lt)).alloc _
 have kb:Blk f (w.heap.size+1) [.slice cy b.seen.length cm,.slice cz b.items.length cP,.slice cB b.gone.length cQ] 75:=by
  have:=eu.x;rw[dG.x] at this;rw[bU];exact this.alloc _
 have B:Blk f (w.heap.size+1+1) [.slice none 0 0,.slice none 0 0,.slice none 0 0] 75:=by
  have:=Blk.new cR #[.slice none 0 0,.slice none 0 0,.slice none 0 0] 75;rw[<- bU,dm] at this;exact this
 have dO:=eE.x;have bd:=eF.x
 have HR:=ae (show ∀W,Kpt f W -> Kpt w W /\ Blk W w.heap.size [.slice bm a.seen.length bt,.slice bn a.items.length bu,.slice bo a.gone.length bv] 75 /\ Blk W (w.heap.size+1) [.slice cy b.seen.length cm,.slice cz b.items.length cP,.slice cB b.gone.length cQ] 75 /\ Blk W (w.heap.size+1+1) [.slice none 0 0,.slice none 0 0,.slice none 0 0] 75 /\ ce (λq=>q<w.heap.size) W (.slice bm a.seen.length bt) (.slice bn a.items.length bu) (.slice bo a.gone.length bv) a /\ ce (λq=>q<w.heap.size) W (.slice cy b.seen.length cm) (.slice cz b.items.length cP) (.slice cB b.gone.length cQ) b from λW hW=>by
  have hB:Kpt w W:=dP.trans (hW.mono (by omega))
  exact⟨hB,ka.keep (hW.block _ ka.lt),kb.keep (hW.block _ kb.lt),B.keep (hW.block _ B.lt),dO.keep (w':=W) λq hq _=>(hB.block q hq).trans (ct.x.block q hq).symm,bd.keep (w':=W) λq hq _=>(hB.block q hq).trans (bM.block q hq).symm⟩)
 have⟨cS,ex,eG⟩:=ae3 (ia f _ (.agg #[.slice bm a.seen.length bt,.slice bn a.items.length bu,.slice bo a.gone.length bv]) a ⟨_,_,_,rfl,(HR.x f (Below.refl _ _)).2.2.2.2.1⟩ eM eL) bU ej;obtain⟨c0,c1,c2⟩:=aS ka;obtain⟨e6,dj⟩:=aH (aV a);rw[dj] at cS;have b9:=ae dj;clear bU dm ej bM dP ka kb B dO bd dj
 go_enter func125,ntmps125
 go_wp2_with fail;rw[<- eB.x,<- eC.x,<- ex.x];refine cS.x.mono ?_;rintro e w3 ⟨rfl,bK⟩;clear cS c0 c1 c2;cases e6 with
 |false=>
  have Hu:=ae (show dh a b=(.empty,5) by unfold dh;rw[b9.x];rfl);have B:=(HR.x w3 bK).2.2.2.1;have b0:=(HR.x w3 bK).1;clear bK;obtain⟨wf,a0,a3,a2⟩:=dX B b0 (by omega) (.slice none 0 0) (.slice none 0 0) (.slice none 0 0);obtain⟨y0,y1,y2⟩:=aS B;have z0:=B.free 0;have z1:=B.free 1;have z2:=B.free 2;have⟨Q,bz,bD⟩:=ae3 (aS a3) a2 a0;clear a0 a3 a2;go_wp2;rw[<- bD.x];obtain⟨q0,q1,q2⟩:=Q.x;exact bodyPost_ret (v:=.tuple #[.agg #[.slice none 0 0,.slice none 0 0,.slice none 0 0],.int .i64 5]) (by simp[results,results125,go_sem,q0,q1,q2]) rfl ⟨_,by rw[Hu.x],by rw[Hu.x];exact iN _ _,bz.x⟩
 |true=>
  have cT:=ae (ia w3 _ (.agg #[.slice cy b.seen.length cm,.slice cz b.items.length cP,.slice cB b.gone.length cQ]) b ⟨_,_,_,rfl,(HR.x w3 bK).2.2.2.2.2⟩ eO eN);obtain⟨e7,dk⟩:=aH (aV b);rw[dk] at cT;have cx:=ae dk;obtain⟨d0,d1,d2⟩:=aS (HR.x w3 bK).2.2.1;have dv:=ae bK;clear dk bK;go_wp2_with fail;refine cT.x.mono ?_;rintro e w4 ⟨rfl,dQ⟩;have bF:Kpt f w4:=dv.x.trans (dQ.mono dv.x.size);clear cT d0 d1 d2 dQ;cases e7 with
  |false=>
   have Hu:=ae (show dh a b=(.empty,5) by unfold dh;rw[b9.x,cx.x];rfl);have B:=(HR.x w4 bF).2.2.2.1;have b0:=(HR.x w4 bF).1;clear bF;obtain⟨wf,a0,a3,a2⟩:=dX B b0 (by omega) (.slice none 0 0) (.slice none 0 0) (.slice none 0 0);obtain⟨y0,y1,y2⟩:=aS B;have z0:=B.free 0;have z1:=B.free 1;have z2:=B.free 2;have⟨Q,bz,bD⟩:=ae3 (aS a3) a2 a0;clear a0 a3 a2;go_wp2;rw[<- bD.x];obtain⟨q0,q1,q2⟩:=Q.x;exact bodyPost_ret (v:=.tuple #[.agg #[.slice none 0 0,.slice none 0 0,.slice none 0 0],.int .i64 5]) (by simp[results,results125,go_sem,q0,q1,q2]) rfl ⟨_,by rw[Hu.x],by rw[Hu.x];exact iN _ _,bz.x⟩
  |true=>
   have fa:=cA b9.x;have fb:=cA cx.x;have ed:=jv b9.x;have ee:=jv cx.x;have dt:=ae (uF w4 _ (.agg #[.slice bm a.seen.length bt,.slice bn a.items.length bu,.slice bo a.gone.length bv]) a ⟨_,_,_,rfl,(HR.x w4 bF).2.2.2.2.1⟩ (by omega) (by omega) (by omega));obtain⟨c0,c1,c2⟩:=aS (HR.x w4 bF).2.1;have⟨cr,cw,bc,b4,b5⟩:=ae5 bF ed ee fa fb;clear bF ed ee fa fb;go_wp2_with fail;refine dt.x.mono ?_;rintro e p ⟨⟨s1,s2,s3,rfl,ho⟩,dR⟩;have cC:Kpt f p:=cr.x.trans (dR.mono cr.x.size);obtain⟨b1,z,eU⟩:=aJ ho.seen;obtain⟨b2,e2,rfl⟩:=aJ ho.items;obtain⟨b3,e3,rfl⟩:=aJ ho.gone;subst eU
   obtain⟨g,rfl⟩:∃g,b1=some ⟨g,0,none⟩:=by
    rcases ho.seen.2 with⟨_,h0⟩|⟨g,dI,j,hv,_⟩
    ·have:=cw.x.1;omega
    ·simp at hv;exact⟨g,hv.1⟩
   obtain⟨w6,cM⟩:=aP (p.alloc (.cells #[.slice (some ⟨g,0,none⟩) a.seen.length z,.slice b2 a.items.length e2,.slice b3 a.gone.length e3] 75));have c8:Kpt p w6:=by rw[cM];exact aI _ _
   have ec:=ho.below c8;have kO:Blk w6 p.heap.size [.slice (some ⟨g,0,none⟩) a.seen.length z,.slice b2 a.items.length e2,.slice b3 a.gone.length e3] 75:=by rw[cM];exact Blk.new _ _ _
   have dM:Kpt f w6:=cC.trans (c8.mono cC.size)
   obtain⟨dY,dZ⟩:w4.heap.size <= g /\ g<p.heap.size:=by
    rcases ho.seen.2 with⟨hh,_⟩|⟨g',dI,j,hv,U,hg,_⟩
    ·simp at hh
    ·simp at hv;obtain⟨rfl,-⟩:=hv;exact⟨U,lt_of_block hg⟩
   have eb:a.seen.length=b.seen.length:=by have:=cw.x.1;have:=bc.x.1;omega
   have eP:b.seen.length <= 1000:=by have:=bc.x.1;omega
   have⟨H6,ey,Hg,bl,bW⟩:=ae5 (show Blk w6 p.heap.size [.slice (some ⟨g,0,none⟩) a.seen.length z,.slice b2 a.items.length e2,.slice b3 a.gone.length e3] 75 /\ dC w6 f.heap.size (.slice (some ⟨g,0,none⟩) a.seen.length z) (.slice b2 a.items.length e2) (.slice b3 a.gone.length e3) ⟨eq a.seen b.seen 0,a.items,a.gone⟩ /\ Kpt f w6 from⟨kO,by rw[qE];exact ec.mono cr.x.size,dM⟩) cM (And.intro (au cr.x.size dY) dZ) eb (show f.heap.size <= p.heap.size from cC.size);clear dt dR cC c8 ec kO dM cM ho c0 c1 c2 dY dZ eb;go_wp2;rw[<- ey.x]
   go_loopw [7] (λi wr=>∃k:Nat,k <= b.seen.length /\ i=.int .i64 (k:Int) /\ Blk wr p.heap.size [.slice (some ⟨g,0,none⟩) a.seen.length z,.slice b2 a.items.length e2,.slice b3 a.gone.length e3] 75 /\ dC wr f.heap.size (.slice (some ⟨g,0,none⟩) a.seen.length z) (.slice b2 a.items.length e2) (.slice b3 a.gone.length e3) ⟨eq a.seen b.seen k,a.items,a.gone⟩ /\ Kpt f wr) (λi _=>b.seen.length-(intOf i).toNat)
   ·exact⟨0,by omega,rfl,H6.x⟩
   ·obtain⟨k,hk,rfl,kO,ho,hL⟩:=hrel;have dr:=(HR.x wr hL).2.2.1;obtain⟨d0,d1,d2⟩:=aS dr
    by_cases ao:k<b.seen.length
    ·have dc:(k:Int)<(b.seen.length:Int):=by omega
     have d4:k<a.seen.length:=by have:=bl.x;omega
     have fj:(k:Int)<(a.seen.length:Int):=by omega
     obtain⟨bb,ob,rfl,-,-,hc⟩:=(HR.x wr hL).2.2.2.2.2.seen.cells (by omega);obtain⟨x,hx⟩:=aH a.seen[k];obtain⟨y,hy⟩:=aH b.seen[k];have e0:=hc k (.int .i64 y) (by simp[ao,hy])
     try simp only[Nat.mul_one] at e0
     have cJ:=ho.below (Below.refl wr.heap.size wr).drew;have bs:=cJ.seen;have aU:(eq a.seen b.seen k).length=a.seen.length:=lI _ _ k bl.x (by omega);dsimp only at bs;rw[aU] at bs
     have eg:wr.drew.cell? ⟨g,k,none⟩=some (.int .i64 x):=by
      rw[bs.cellAt k (by simp;omega)];simp[sO a.seen b.seen k bl.x d4,hx]
     have fg:=bs.frozenAt k;obtain⟨n,cH⟩:=bs.stored k (.int .i64 (max x y));have po:∀c,aK wr.drew c -> c.cell? ⟨p.heap.size,0,none⟩=some (.slice (some ⟨g,0,none⟩) a.seen.length z):=λc hh=>bh (aS kO).1 hh
     have pg:∀c,aK wr.drew c -> c.cell? ⟨g,k,none⟩=some (.int .i64 x):=λc hh=>bh (w:=wr) eg hh
     have pb:∀c,aK wr.drew c -> c.cell? ⟨w.heap.size+1,0,none⟩=some (.slice (some ⟨bb,ob,none⟩) b.seen.length cm):=λc hh=>bh d0 hh
     have pe:∀c,aK wr.drew c -> c.cell? ⟨bb,ob+k,none⟩=some (.int .i64 y):=λc hh=>bh e0 hh
     obtain⟨m,aZ⟩:=aP (wr.drew.setCell ⟨g,k,none⟩ (.int .i64 (max x y)));rw[<- aZ] at n cH
     have an:=ae (show Blk m p.heap.size [.slice (some ⟨g,0,none⟩) a.seen.length z,.slice b2 a.items.length e2,.slice b3 a.gone.length e3] 75 /\ dC m f.heap.size (.slice (some ⟨g,0,none⟩) a.seen.length z) (.slice b2 a.items.length e2) (.slice b3 a.gone.length e3) ⟨eq a.seen b.seen (k+1),a.items,a.gone⟩ /\ Kpt f m from by
      refine⟨by rw[aZ];exact(kO.drew).set_other _ (by show p.heap.size≠g;have:=Hg.x.2;omega),⟨?_,bZ cJ.items bs (by decide) cH,bZ cJ.gone bs (by decide) cH⟩,by rw[aZ];exact hL.drew.setCell (by have:=Hg.x.1;show f.heap.size <= g;omega) _⟩;have h1:=qF a.seen b.seen k bl.x d4;show m.ownsRow f.heap.size 3 1 _ (eq a.seen b.seen (k+1)).length ((eq a.seen b.seen (k+1)).map eI);rw[lI _ _ (k+1) bl.x (by omega),h1,List.map_set,hx,hy]
      exact n)
     have ez:=ae aZ;clear hc hx hy cJ bs aU n cH aZ kO ho dr;go_wp2_with fail;refine dq aK 15 (up 15 [515]) (by kernel_rfl) ?_;apply bC;rfl;intro c hC;go_simp;exact aF;refine cG rfl rfl rfl (λKK Z=>?_);go_simp;rw[show(wr.setCell ⟨g,k,none⟩ (.int .i64 (max x y))).drew=m from ez.x.symm];refine Z _ _ ?_;clear Z KK po pg eg fg pb pe d0 d1 d2 e0;go_simp;refine cZ ?_;go_wp2
     go_roundw
     ·exact⟨k+1,by omega,by go_num,an.x⟩
     ·simp[intOf];omega
    ·have dc:¬(k:Int)<(b.seen.length:Int):=by omega
     have d7:k=a.seen.length:=by have:=bl.x;omega
     have ef:eq a.seen b.seen k=List.zipWith max a.seen b.seen:=by rw[d7];exact sM _ _ bl.x
     obtain⟨H,cO⟩:=aH (List.zipWith max a.seen b.seen);have ek:H.length=a.seen.length:=by rw[<- cO];have:=bl.x;simp;omega
     rw[ef,cO] at ho;have⟨eo,ep,eJ,e9,dF⟩:=ae5 hL ho kO ek cO;clear ef d7 cO ek ho kO H6 hL dr eP;have ff:b.gone.length <= 4096:=bc.x.2.2;have fh:b.items.length <= 4096:=bc.x.2.1;go_wp2;clear d0 d1 d2
     go_loopw [8] (λi wr=>∃k:Nat,k <= b.gone.length /\ i=.int .i64 (k:Int) /\ Kpt f wr /\ ∃sg,Blk wr p.heap.size [.slice (some ⟨g,0,none⟩) a.seen.length z,.slice b2 a.items.length e2,sg] 75 /\ dC wr f.heap.size (.slice (some ⟨g,0,none⟩) a.seen.length z) (.slice b2 a.items.length e2) sg ⟨H,a.items,gQ a (b.gone.take k)⟩ /\ (gQ a (b.gone.take k)).length <= 4096+k) (λi _=>b.gone.length-(intOf i).toNat)
     ·exact⟨0,by omega,rfl,eo.x,_,eJ.x,ep.x,by have:=cw.x.2.2;exact this⟩
     ·obtain⟨k,fk,rfl,cf,sg,bG,a6,aU⟩:=hrel;generalize dU:gQ a (b.gone.take k)=j at a6 aU;obtain⟨M,N,rfl⟩:=aJ a6.gone;dsimp only at bG a6 aU⊢;have⟨cv,ab,ak,ba,al⟩:=ae5 dU cf bG a6 aU;clear dU cf bG a6 aU;obtain⟨-,kA,kB,-,cb,bd⟩:=HR.x wr ab.x;obtain⟨d0,d1,d2⟩:=aS kB
      by_cases ao:k<b.gone.length
      ·have dc:(k:Int)<(b.gone.length:Int):=by omega
       obtain⟨bi,oi,rfl,-,-,bq⟩:=gh bd.gone (by omega);obtain⟨R,S,T⟩:=bq k ao;obtain⟨I,db⟩:=aH b.gone[k];rw[db] at R S T;have cU:=ae db;obtain⟨E,a8⟩:=aP (wr.alloc (.cells #[.string ⟨I.key.toArray⟩,.int .i64 I.dev,.int .i64 I.seq] 130));have cX:=ae a8;have bL:Kpt wr E:=by rw[a8];exact aI _ _
       have kX:Blk E wr.heap.size [.string ⟨I.key.toArray⟩,.int .i64 I.dev,.int .i64 I.seq] 130:=by rw[a8];exact Blk.new _ _ _
       have⟨bx,KX⟩:=ae2 bL kX;obtain⟨bp,bO⟩:=aH (a.buried (I.key,I.dev))
       have HF:=ae (show ∀W,Kpt E W -> Kpt wr W /\ Blk W w.heap.size [.slice bm a.seen.length bt,.slice bn a.items.length bu,.slice bo a.gone.length bv] 75 /\ Blk W wr.heap.size [.string ⟨I.key.toArray⟩,.int .i64 I.dev,.int .i64 I.seq] 130 /\ Calls aE 186 #[.agg #[.slice bm a.seen.length bt,.slice bn a.items.length bu,.slice bo a.gone.length bv],.string ⟨I.key.toArray⟩,.int .i64 I.dev] W (λe c=>e=.returned (.int .i64 bp) /\ Kpt W c) from λW U=>by
        have h1:=bx.x.trans (U.mono bx.x.size);obtain⟨-,eV,-,-,eK,-⟩:=HR.x W (ab.x.trans (h1.mono ab.x.size));refine⟨h1,eV,KX.x.keep (U.block _ KX.x.lt),?_⟩;rw[<- bO]
        exact su W _ _ a ⟨_,_,_,rfl,eK⟩ I.key I.dev)
       have dx:=ae bO;clear bq db a8 bL kX kA kB cb bd bO;go_wp2_with fail;rw[<- cX.x];clear R S T d0 d1 d2;have bH:∀c,aK E.drew c -> Kpt E c:=λc hh=>(Below.refl E.heap.size E).drew.trans hh
       have cn:∀c,aK E.drew c -> c.cell? ⟨wr.heap.size,0,none⟩=some (.string ⟨I.key.toArray⟩):=λc hh=>(aS (HF.x c (bH c hh)).2.2.1).1
       have co:∀c,aK E.drew c -> c.cell? ⟨wr.heap.size,1,none⟩=some (.int .i64 I.dev):=λc hh=>(aS (HF.x c (bH c hh)).2.2.1).2.1
       have cp:∀c,aK E.drew c -> c.cell? ⟨wr.heap.size,2,none⟩=some (.int .i64 I.seq):=λc hh=>(aS (HF.x c (bH c hh)).2.2.1).2.2
       have eW:∀c,aK E.drew c -> c.cell? ⟨w.heap.size,0,none⟩=some (.slice bm a.seen.length bt):=λc hh=>(aS (HF.x c (bH c hh)).2.1).1
       have eX:∀c,aK E.drew c -> c.cell? ⟨w.heap.size,1,none⟩=some (.slice bn a.items.length bu):=λc hh=>(aS (HF.x c (bH c hh)).2.1).2.1
       have eY:∀c,aK E.drew c -> c.cell? ⟨w.heap.size,2,none⟩=some (.slice bo a.gone.length bv):=λc hh=>(aS (HF.x c (bH c hh)).2.1).2.2
       refine bP aK (up 7 [507,8]) (by kernel_rfl) ?_;apply aG;rfl;intro c hC;go_simp;(repeat (simp(disch:=omega) only[af,if_pos];go_simp));exact aF;refine aY rfl rfl (λKK Z=>?_);go_simp;refine(HF.x _ (Below.refl E.heap.size E).drew).2.2.2.mono ?_;rintro e m ⟨rfl,aa⟩;refine⟨_,rfl,aa,Z _ _ ?_⟩;have aZ:Kpt E m:=(Below.refl E.heap.size E).drew.trans aa;clear Z KK cn co cp eW eX eY bH aa;go_simp;obtain⟨cN,-,em,-⟩:=HF.x m aZ;have dn:=ak.x.keep (cN.block _ ak.x.lt);have d3:=ba.x.below cN;have bY:Kpt f m:=ab.x.trans (cN.mono ab.x.size);obtain⟨J,K,L⟩:=aS dn;obtain⟨R,S,T⟩:=aS em;have⟨cY,b6,cs⟩:=ae3 dn d3 bY;clear aZ cN em dn d3 bY
       by_cases aX:bp<I.seq
       ·have n:=Aa (a:=a) (l:=b.gone) ao (by rw[cU.x];show a.buried (I.key,I.dev)<_;rw[dx.x];exact aX);rw[cv.x,cU.x] at n;apply aG;rfl;intro c hC;go_simp;(repeat (simp(disch:=omega) only[af,if_pos];go_simp));exact aF;refine aW ?_;have hP:=uE m _ (.slice M j.length N) j I (Rows.of_owns b6.x.gone) (by have:=al.x;have:=bc.x.2.2;omega);have av:=mR RGo.pl j I;generalize bR:dL RGo.pl j I=ax at hP av n;unfold goV at hP;have⟨HP,bB,an⟩:=ae3 hP av n;clear hP bR av n;go_wp2_with fail;refine HP.x.mono ?_;rintro e w9 ⟨⟨r,rfl,ar⟩,O⟩;obtain⟨X,Y,rfl⟩:=aJ ar;have t:=cY.x.keep (O.block _ cY.x.lt);clear J K L R S T;obtain⟨J,K,L⟩:=aS t;have a1:=t.free 2;obtain⟨ad,C⟩:=aP (w9.setCell ⟨p.heap.size,2,none⟩ (.slice X ax.length Y));have ay:Kpt f w9:=cs.x.trans (O.mono cs.x.size);have⟨bw,bE⟩:=ae2 (show Kpt f ad by rw[C];exact ay.setCell (by show f.heap.size <= p.heap.size;exact bW.x) _) (show Blk ad p.heap.size [.slice (some ⟨g,0,none⟩) a.seen.length z,.slice b2 a.items.length e2,.slice X ax.length Y] 75 by rw[C];exact t.set 2 _)
        have aM:=ae (show dC ad f.heap.size (.slice (some ⟨g,0,none⟩) a.seen.length z) (.slice b2 a.items.length e2) (.slice X ax.length Y) ⟨H,a.items,gQ a (b.gone.take (k+1))⟩ by
         rw[an.x];have a7:=b6.x.below O;rw[C]
         exact⟨aL a7.seen t (by decide) _,aL a7.items t (by decide) _,aL (bJ ar cs.x.size) t (by decide) _⟩)
        have aN:=ae (show(gQ a (b.gone.take (k+1))).length <= 4096+(k+1) by
         rw[an.x];have:=bB.x;have:=al.x
         omega)
        have bg:=ae C;clear C ay ar O t HP;go_wp2;rw[<- bg.x];clear J K L a1
        go_roundw
        ·exact⟨k+1,by omega,by go_num,bw.x,_,bE.x,aM.x,aN.x⟩
        ·simp[intOf];omega
       ·have n:=BW (a:=a) (l:=b.gone) ao (by rw[cU.x];show ¬a.buried (I.key,I.dev)<_;rw[dx.x];exact aX);rw[cv.x] at n;have an:=ae n;clear n;apply aG;rfl;intro c hC;go_simp;(repeat (simp(disch:=omega) only[af,if_pos];go_simp));exact aF;refine aW ?_;have⟨aM,aN⟩:=ae2 (show dC m f.heap.size (.slice (some ⟨g,0,none⟩) a.seen.length z) (.slice b2 a.items.length e2) (.slice M j.length N) ⟨H,a.items,gQ a (b.gone.take (k+1))⟩ by rw[an.x];exact b6.x) (show(gQ a (b.gone.take (k+1))).length <= 4096+(k+1) by rw[an.x];have:=al.x;omega);clear J K L R S T;go_wp2
        go_roundw
        ·exact⟨k+1,by omega,by go_num,cs.x,_,cY.x,aM.x,aN.x⟩
        ·simp[intOf];omega
      ·have dc:¬(k:Int)<(b.gone.length:Int):=by omega
       have dS:gQ a b.gone=j:=by
        have:=cv.x;rw[show k=b.gone.length by omega,List.take_length] at this;exact this
       have ea:j.length <= 8192:=by have:=al.x;have:=bc.x.2.2;omega
       have⟨HG,e8⟩:=ae2 dS ea;clear dS ea cv al kA kB cb bd;go_wp2;clear d0 d1 d2
       go_loopw [10] (λi wr=>∃k:Nat,k <= b.items.length /\ i=.int .i64 (k:Int) /\ Kpt f wr /\ ∃si,Blk wr p.heap.size [.slice (some ⟨g,0,none⟩) a.seen.length z,si,.slice M j.length N] 75 /\ dC wr f.heap.size (.slice (some ⟨g,0,none⟩) a.seen.length z) si (.slice M j.length N) ⟨H,kK a (b.items.take k),j⟩ /\ (kK a (b.items.take k)).length <= 4096+k) (λi _=>b.items.length-(intOf i).toNat)
       ·exact⟨0,by omega,rfl,ab.x,_,ak.x,ba.x,by have:=cw.x.2.1;exact this⟩
       ·clear ab ak ba;obtain⟨A,fl,rfl,cf,si,bG,a6,aU⟩:=hrel;generalize dT:kK a (b.items.take A)=s at a6 aU;obtain⟨ai,ci,rfl⟩:=aJ a6.items;dsimp only at bG a6 aU⊢;have⟨bA,ab,ak,ba,al⟩:=ae5 dT cf bG a6 aU;clear dT cf bG a6 aU;obtain⟨-,kA,kB,-,cb,bd⟩:=HR.x wr ab.x;obtain⟨d0,d1,d2⟩:=aS kB
        by_cases ao:A<b.items.length
        ·have eR:(A:Int)<(b.items.length:Int):=by omega
         obtain⟨bi,oi,rfl,-,-,bq⟩:=fw bd.items (by omega);obtain⟨R,S,T,x3⟩:=bq A ao;obtain⟨d,bQ⟩:=aH b.items[A];rw[bQ] at R S T x3;have b7:=ae bQ;obtain⟨E,a8⟩:=aP (wr.alloc (.cells #[.string ⟨d.key.toArray⟩,.int .i64 d.dev,.int .i64 d.seq,.int .i64 d.val] 129));have cX:=ae a8;have bL:Kpt wr E:=by rw[a8];exact aI _ _
         have kX:Blk E wr.heap.size [.string ⟨d.key.toArray⟩,.int .i64 d.dev,.int .i64 d.seq,.int .i64 d.val] 129:=by rw[a8];exact Blk.new _ _ _
         have⟨bx,KX⟩:=ae2 bL kX;have el:=kA.keep (bL.block _ kA.lt);obtain⟨c0,c1,c2⟩:=aS el;rw[a8] at c0 c1 c2;obtain⟨y0,y1,y2,y3⟩:=dH kX;rw[a8] at y0 y1 y2 y3;obtain⟨-,-,-,-,dN,-⟩:=HR.x E (ab.x.trans (bL.mono ab.x.size));have HI:=ae (Dw E _ _ a ⟨_,_,_,rfl,dN⟩ d.key d.dev);obtain⟨o,ho⟩:=aH (df RIt.pl a.items (d.key,d.dev));rw[ho] at HI;have Ho:=ae (show df RIt.pl a.items d.pl=o from ho);clear bq bQ a8 bL kX kA kB cb bd el dN ho;go_wp2_with fail;rw[<- cX.x];clear R S T x3 d0 d1 d2 c0 c1 c2 y0 y1 y2 y3;cases o with
         |none=>
          have az:ml a b.items[A]=true:=by rw[b7.x];unfold ml;rw[Ho.x]
          refine(show Calls aE _ _ E (λe c=>e=.returned (.tuple #[.agg #[.string ⟨#[]⟩,.int .i64 0,.int .i64 0,.int .i64 0],.bool false]) /\ Kpt E c) from HI.x).mono ?_;rintro e m ⟨rfl,aa⟩;have bN:Kpt wr m:=bx.x.trans (aa.mono bx.x.size);obtain⟨wY,aO⟩:=aP (m.alloc (.cells #[.string ⟨#[]⟩,.int .i64 0,.int .i64 0,.int .i64 0] 129));have bk:Kpt wr wY:=by rw[aO];exact bN.alloc bN.size _
          have kY:Blk wY m.heap.size [.string ⟨#[]⟩,.int .i64 0,.int .i64 0,.int .i64 0] 129:=by rw[aO];exact Blk.new _ _ _
          have cl:Blk wY wr.heap.size [.string ⟨d.key.toArray⟩,.int .i64 d.dev,.int .i64 d.seq,.int .i64 d.val] 129:=by rw[aO];exact(KX.x.keep (aa.block _ KX.x.lt)).alloc _
          have bV:=ak.x.keep (bk.block _ ak.x.lt);have ca:Kpt f wY:=ab.x.trans (bk.mono ab.x.size);have ch:=ba.x.below bk;obtain⟨y0,y1,y2,y3⟩:=dH kY;obtain⟨R,S,T,x3⟩:=dH cl;obtain⟨J,K,L⟩:=aS bV;rw[aO] at y0 y1 y2 y3 R S T x3 J K L;have⟨bX,bj,aR,be⟩:=ae4 aO bV ca ch;clear bN aa aO bk kY cl bV ca ch HI;have n:=sR (a:=a) (l:=b.items) ao az;rw[bA.x,b7.x] at n;have hP:=pf wY _ (.slice ai s.length ci) s d (Rows.of_owns be.x.items) (by have:=al.x;have:=bc.x.2.1;omega);have av:=mR RIt.pl s d;generalize bR:dL RIt.pl s d=ax at hP av n;unfold itV at hP;have⟨HP,bB,an⟩:=ae3 hP av n;clear hP bR av n az;go_wp2_with fail;rw[<- bX.x];refine HP.x.mono ?_;rintro e w9 ⟨⟨r,rfl,ar⟩,O⟩;obtain⟨X,Y,rfl⟩:=aJ ar;have t:=bj.x.keep (O.block _ bj.x.lt);clear J K L R S T x3 y0 y1 y2 y3;obtain⟨J,K,L⟩:=aS t;have a1:=t.free 1;obtain⟨ad,C⟩:=aP (w9.setCell ⟨p.heap.size,1,none⟩ (.slice X ax.length Y));have ay:Kpt f w9:=aR.x.trans (O.mono aR.x.size);have⟨bw,bE⟩:=ae2 (show Kpt f ad by rw[C];exact ay.setCell (by show f.heap.size <= p.heap.size;exact bW.x) _) (show Blk ad p.heap.size [.slice (some ⟨g,0,none⟩) a.seen.length z,.slice X ax.length Y,.slice M j.length N] 75 by rw[C];exact t.set 1 _)
          have aM:=ae (show dC ad f.heap.size (.slice (some ⟨g,0,none⟩) a.seen.length z) (.slice X ax.length Y) (.slice M j.length N) ⟨H,kK a (b.items.take (A+1)),j⟩ by
           rw[an.x];have a7:=be.x.below O;rw[C]
           exact⟨aL a7.seen t (by decide) _,aL (bJ ar aR.x.size) t (by decide) _,aL a7.gone t (by decide) _⟩)
          have aN:=ae (show(kK a (b.items.take (A+1))).length <= 4096+(A+1) by
           rw[an.x];have:=bB.x;have:=al.x
           omega)
          have bg:=ae C;clear C ay ar O t HP;go_wp2;rw[<- bg.x];clear J K L a1
          go_roundw
          ·exact⟨A+1,by omega,by go_num,bw.x,_,bE.x,aM.x,aN.x⟩
          ·simp[intOf];omega
         |some y=>
          refine(show Calls aE _ _ E (λe c=>e=.returned (.tuple #[.agg #[.string ⟨y.key.toArray⟩,.int .i64 y.dev,.int .i64 y.seq,.int .i64 y.val],.bool true]) /\ Kpt E c) from HI.x).mono ?_;rintro e m ⟨rfl,aa⟩;have bN:Kpt wr m:=bx.x.trans (aa.mono bx.x.size);obtain⟨wY,aO⟩:=aP (m.alloc (.cells #[.string ⟨y.key.toArray⟩,.int .i64 y.dev,.int .i64 y.seq,.int .i64 y.val] 129));have bk:Kpt wr wY:=by rw[aO];exact bN.alloc bN.size _
          have kY:Blk wY m.heap.size [.string ⟨y.key.toArray⟩,.int .i64 y.dev,.int .i64 y.seq,.int .i64 y.val] 129:=by rw[aO];exact Blk.new _ _ _
          have cl:Blk wY wr.heap.size [.string ⟨d.key.toArray⟩,.int .i64 d.dev,.int .i64 d.seq,.int .i64 d.val] 129:=by rw[aO];exact(KX.x.keep (aa.block _ KX.x.lt)).alloc _
          have bV:=ak.x.keep (bk.block _ ak.x.lt);have ca:Kpt f wY:=ab.x.trans (bk.mono ab.x.size);have ch:=ba.x.below bk;obtain⟨y0,y1,y2,y3⟩:=dH kY;obtain⟨R,S,T,x3⟩:=dH cl;obtain⟨J,K,L⟩:=aS bV;rw[aO] at y0 y1 y2 y3 R S T x3 J K L;have⟨bX,bj,aR,be⟩:=ae4 aO bV ca ch;clear bN aa aO bk kY cl bV ca ch HI;have HN:=ae (show ml a b.items[A]=decide (y.seq<d.seq \/ (d.seq=y.seq /\ y.val<d.val)) by rw[b7.x];unfold ml;rw[Ho.x])
          by_cases g1:y.seq<d.seq
          ·have az:ml a b.items[A]=true:=by rw[HN.x];exact decide_eq_true (.inl g1)
           have n:=sR (a:=a) (l:=b.items) ao az;rw[bA.x,b7.x] at n;have hP:=pf wY _ (.slice ai s.length ci) s d (Rows.of_owns be.x.items) (by have:=al.x;have:=bc.x.2.1;omega);have av:=mR RIt.pl s d;generalize bR:dL RIt.pl s d=ax at hP av n;unfold itV at hP;have⟨HP,bB,an⟩:=ae3 hP av n;clear hP bR av n az;go_wp2_with fail;rw[<- bX.x];refine HP.x.mono ?_;rintro e w9 ⟨⟨r,rfl,ar⟩,O⟩;obtain⟨X,Y,rfl⟩:=aJ ar;have t:=bj.x.keep (O.block _ bj.x.lt);clear J K L R S T x3 y0 y1 y2 y3;obtain⟨J,K,L⟩:=aS t;have a1:=t.free 1;obtain⟨ad,C⟩:=aP (w9.setCell ⟨p.heap.size,1,none⟩ (.slice X ax.length Y));have ay:Kpt f w9:=aR.x.trans (O.mono aR.x.size);have⟨bw,bE⟩:=ae2 (show Kpt f ad by rw[C];exact ay.setCell (by show f.heap.size <= p.heap.size;exact bW.x) _) (show Blk ad p.heap.size [.slice (some ⟨g,0,none⟩) a.seen.length z,.slice X ax.length Y,.slice M j.length N] 75 by rw[C];exact t.set 1 _)
           have aM:=ae (show dC ad f.heap.size (.slice (some ⟨g,0,none⟩) a.seen.length z) (.slice X ax.length Y) (.slice M j.length N) ⟨H,kK a (b.items.take (A+1)),j⟩ by
            rw[an.x];have a7:=be.x.below O;rw[C]
            exact⟨aL a7.seen t (by decide) _,aL (bJ ar aR.x.size) t (by decide) _,aL a7.gone t (by decide) _⟩)
           have aN:=ae (show(kK a (b.items.take (A+1))).length <= 4096+(A+1) by
            rw[an.x];have:=bB.x;have:=al.x
            omega)
           have bg:=ae C;clear C ay ar O t HP;go_wp2;rw[<- bg.x];clear J K L a1
           go_roundw
           ·exact⟨A+1,by omega,by go_num,bw.x,_,bE.x,aM.x,aN.x⟩
           ·simp[intOf];omega
          ·by_cases g2:d.seq=y.seq
           ·by_cases g3:y.val<d.val
            ·have az:ml a b.items[A]=true:=by rw[HN.x];exact decide_eq_true (.inr ⟨g2,g3⟩)
             have dJ:(d.seq == y.seq)=true:=by simpa using g2
             clear g2;have n:=sR (a:=a) (l:=b.items) ao az;rw[bA.x,b7.x] at n;have hP:=pf wY _ (.slice ai s.length ci) s d (Rows.of_owns be.x.items) (by have:=al.x;have:=bc.x.2.1;omega);have av:=mR RIt.pl s d;generalize bR:dL RIt.pl s d=ax at hP av n;unfold itV at hP;have⟨HP,bB,an⟩:=ae3 hP av n;clear hP bR av n az;go_wp2_with fail;rw[<- bX.x];refine HP.x.mono ?_;rintro e w9 ⟨⟨r,rfl,ar⟩,O⟩;obtain⟨X,Y,rfl⟩:=aJ ar;have t:=bj.x.keep (O.block _ bj.x.lt);clear J K L R S T x3 y0 y1 y2 y3;obtain⟨J,K,L⟩:=aS t;have a1:=t.free 1;obtain⟨ad,C⟩:=aP (w9.setCell ⟨p.heap.size,1,none⟩ (.slice X ax.length Y));have ay:Kpt f w9:=aR.x.trans (O.mono aR.x.size);have⟨bw,bE⟩:=ae2 (show Kpt f ad by rw[C];exact ay.setCell (by show f.heap.size <= p.heap.size;exact bW.x) _) (show Blk ad p.heap.size [.slice (some ⟨g,0,none⟩) a.seen.length z,.slice X ax.length Y,.slice M j.length N] 75 by rw[C];exact t.set 1 _)
             have aM:=ae (show dC ad f.heap.size (.slice (some ⟨g,0,none⟩) a.seen.length z) (.slice X ax.length Y) (.slice M j.length N) ⟨H,kK a (b.items.take (A+1)),j⟩ by
              rw[an.x];have a7:=be.x.below O;rw[C]
              exact⟨aL a7.seen t (by decide) _,aL (bJ ar aR.x.size) t (by decide) _,aL a7.gone t (by decide) _⟩)
             have aN:=ae (show(kK a (b.items.take (A+1))).length <= 4096+(A+1) by
              rw[an.x];have:=bB.x;have:=al.x
              omega)
             have bg:=ae C;clear C ay ar O t HP;go_wp2;rw[<- bg.x];clear J K L a1
             go_roundw
             ·exact⟨A+1,by omega,by go_num,bw.x,_,bE.x,aM.x,aN.x⟩
             ·simp[intOf];omega
            ·have az:ml a b.items[A]=false:=by rw[HN.x];exact decide_eq_false λh=>h.elim g1 λh=>g3 h.2
             have dJ:(d.seq == y.seq)=true:=by simpa using g2
             clear g2;have n:=A0 (a:=a) (l:=b.items) ao az;rw[bA.x] at n;have⟨aM,aN⟩:=ae2 (show dC wY f.heap.size (.slice (some ⟨g,0,none⟩) a.seen.length z) (.slice ai s.length ci) (.slice M j.length N) ⟨H,kK a (b.items.take (A+1)),j⟩ by rw[n];exact be.x) (show(kK a (b.items.take (A+1))).length <= 4096+(A+1) by rw[n];have:=al.x;omega);clear n az;go_wp2;rw[<- bX.x];clear J K L R S T x3 y0 y1 y2 y3
             go_roundw
             ·exact⟨A+1,by omega,by go_num,aR.x,_,bj.x,aM.x,aN.x⟩
             ·simp[intOf];omega
           ·have az:ml a b.items[A]=false:=by rw[HN.x];exact decide_eq_false λh=>h.elim g1 λh=>g2 h.1
            have dJ:(d.seq == y.seq)=false:=by simpa using g2
            clear g2;have n:=A0 (a:=a) (l:=b.items) ao az;rw[bA.x] at n;have⟨aM,aN⟩:=ae2 (show dC wY f.heap.size (.slice (some ⟨g,0,none⟩) a.seen.length z) (.slice ai s.length ci) (.slice M j.length N) ⟨H,kK a (b.items.take (A+1)),j⟩ by rw[n];exact be.x) (show(kK a (b.items.take (A+1))).length <= 4096+(A+1) by rw[n];have:=al.x;omega);clear n az;go_wp2;rw[<- bX.x];clear J K L R S T x3 y0 y1 y2 y3
            go_roundw
            ·exact⟨A+1,by omega,by go_num,aR.x,_,bj.x,aM.x,aN.x⟩
            ·simp[intOf];omega
        ·have eR:¬(A:Int)<(b.items.length:Int):=by omega
         have c7:kK a b.items=s:=by
          have:=bA.x;rw[show A=b.items.length by omega,List.take_length] at this;exact this
         have d9:s.length <= 8192:=by have:=al.x;have:=bc.x.2.1;omega
         obtain⟨J,K,L⟩:=aS ak.x;have a1:=ak.x.free 1;obtain⟨V,cj⟩:=aP (wr.setCell ⟨p.heap.size,1,none⟩ (.slice none 0 0));have dp:Blk V p.heap.size [.slice (some ⟨g,0,none⟩) a.seen.length z,.slice none 0 0,.slice M j.length N] 75:=by rw[cj];exact ak.x.set 1 _
         have c3:Kpt f V:=by rw[cj];exact ab.x.setCell (by show f.heap.size <= p.heap.size;exact bW.x) _
         have cL:=aL (i:=1) ba.x.seen ak.x (by decide) (.slice none 0 0);have cd:=aL (i:=1) ba.x.items ak.x (by decide) (.slice none 0 0);have cF:=aL (i:=1) ba.x.gone ak.x (by decide) (.slice none 0 0);dsimp only at cL cd cF;rw[<- cj] at cL cd cF;have dE:=ae (λq hq=>(cd.lt q hq).2);have HS:=ae (show FSt f V V.heap.size p.heap.size (.slice (some ⟨g,0,none⟩) a.seen.length z) (.slice none 0 0) (.slice M j.length N) (.slice ai s.length ci) H j s [] from⟨dp,cL,cF,cd,World.ownsRow_nil _ _ _ _,c3,c3.size,aq _⟩)
         have HB:=ae (show ∀l:List RIt,(∀x∈l,x∈s) -> Bnd ⟨H,l,j⟩ from λl hl=>⟨by
          have:=(fA (jq a b b4.x b5.x)).seenB;rw[<- dF.x];exact this,λx hx=>by
          have:=hl x hx;rw[<- c7] at this;exact(Dy this).elim ((fA b5.x).itemsB x) ((fA b4.x).itemsB x),λx hx=>by
          dsimp only at hx;rw[<- HG.x] at hx
          exact(Ab hx).elim ((fA b5.x).goneB x) ((fA b4.x).goneB x)⟩)
         have⟨er,cV,eA,ev⟩:=ae4 c7 d9 cj (show p.heap.size<V.heap.size from dp.lt);clear c7 d9 cj dp c3 cL cd cF kA kB cb bd bA al;go_wp2;rw[<- eA.x];clear d0 d1 d2 J K L a1
         go_loopw [15] (λi wr=>∃(k:Nat)(si:Value),k <= s.length /\ i=.int .i64 (k:Int) /\ FSt f wr V.heap.size p.heap.size (.slice (some ⟨g,0,none⟩) a.seen.length z) si (.slice M j.length N) (.slice ai s.length ci) H j s ((s.take k).filter (uJ H j))) (λi _=>s.length-(intOf i).toNat)
         ·exact⟨0,_,by omega,rfl,HS.x⟩
         ·clear HS ab ak ba;obtain⟨k4,si,fi,rfl,st⟩:=hrel;have fd:s.length <= 8192:=cV.x;obtain⟨a4,c4,rfl⟩:=aJ st.new;generalize cI:(s.take k4).filter (uJ H j)=D at st
          have d8:D.length <= k4:=by
           rw[<- cI];exact au (List.length_filter_le _ _) (by simp;omega)
          have d6:∀x∈D,x∈s:=λx hx=>by
           rw[<- cI] at hx;exact List.mem_of_mem_take (List.mem_filter.1 hx).1
          have⟨dB,dA,St,dz⟩:=ae4 cI d8 st d6;clear cI d8 st d6
          by_cases ao:k4<s.length
          ·have eS:(k4:Int)<(s.length:Int):=by omega
           obtain⟨ga,rfl⟩:∃ga,ai=some ⟨ga,0,none⟩:=by
            rcases St.x.all.2 with⟨hh,_⟩|⟨g',dI,fc,hv,U,hg,_⟩
            ·simp at hh;omega
            ·simp at hv;exact⟨g',hv.1⟩
           have fe:ga<V.heap.size:=dE.x ga (by simp[Value.ownBlock]);obtain⟨b',o',bM,-,eQ,bq⟩:=fw (Rows.of_owns St.x.all) (by omega);simp at bM;obtain⟨rfl,rfl⟩:=bM;obtain⟨R,S,T,x3⟩:=bq k4 ao;obtain⟨d,bQ⟩:=aH s[k4];rw[bQ] at R S T x3;simp only[Nat.zero_add] at R S T x3;obtain⟨bp,bO⟩:=aH ((⟨H,[],j⟩:aT).buried (d.key,d.dev))
           have HF:=ae (show ∀W,Kpt wr W -> FSt f W V.heap.size p.heap.size (.slice (some ⟨g,0,none⟩) a.seen.length z) (.slice a4 D.length c4) (.slice M j.length N) (.slice (some ⟨ga,0,none⟩) s.length ci) H j s D /\ Calls aE 186 #[.agg #[.slice (some ⟨g,0,none⟩) a.seen.length z,.slice a4 D.length c4,.slice M j.length N],.string ⟨d.key.toArray⟩,.int .i64 d.dev] W (λe c=>e=.returned (.int .i64 bp) /\ Kpt W c) from λW U=>by
            have h1:=St.x.below U;refine⟨h1,?_⟩;rw[<- bO]
            exact su W _ _ ⟨H,D,j⟩ ⟨_,_,_,rfl,(dC.mk h1.seen (bJ h1.new h1.sle) h1.gone:dC W f.heap.size _ _ _ ⟨H,D,j⟩).map (HB.x D dz.x)⟩ d.key d.dev)
           have hf:=fZ (uJ H j) s k4 ao;rw[dB.x,bQ] at hf;have d5:uJ H j d=decide (bp<d.seq):=by rw[<- bO];rfl
           rw[d5] at hf;have cn:∀c,aK wr.drew c -> c.cell? _=_:=λc hh=>bh R hh
           have co:∀c,aK wr.drew c -> c.cell? _=_:=λc hh=>bh S hh
           have cp:∀c,aK wr.drew c -> c.cell? _=_:=λc hh=>bh T hh
           obtain⟨c0,c1,c2⟩:=aS St.x.blk;have eZ:∀c,aK wr.drew c -> c.cell? _=_:=λc hh=>bh c0 hh
           have ds:∀c,aK wr.drew c -> c.cell? _=_:=λc hh=>bh c1 hh
           have e4:∀c,aK wr.drew c -> c.cell? _=_:=λc hh=>bh c2 hh
           have Hf:=ae hf;clear bq bQ bO hf d5 c0 c1 c2;go_wp2_with fail;refine bP aK (up 16 [516,17]) (by kernel_rfl) ?_;apply aG;rfl;intro c hC;go_simp;(repeat (simp(disch:=omega) only[af,if_pos];go_simp));exact aF;refine aY rfl rfl (λKK Z=>?_);go_simp;refine(HF.x _ (Below.refl wr.heap.size wr).drew).2.mono ?_;rintro e m ⟨rfl,aa⟩;refine⟨_,rfl,aa,Z _ _ ?_⟩;have aZ:Kpt wr m:=(Below.refl wr.heap.size wr).drew.trans aa;clear Z KK cn co cp eZ ds e4 aa;go_simp;have ei:=(HF.x m aZ).1
           have ck:∀q u,wr.cell? ⟨ga,q,none⟩=some u -> m.cell? ⟨ga,q,none⟩=some u:=λq u h=>by
            have U:=aZ.block ga eQ;unfold World.cell? at *;rw[U];exact h
           have z0:=ck _ _ R;have z1:=ck _ _ S;have z2:=ck _ _ T;have z3:=ck _ _ x3;have bf:=ae ei;clear ei ck aZ R S T x3 HF
           by_cases aX:bp<d.seq
           ·have hd:decide (bp<d.seq)=true:=decide_eq_true aX;have n:=Hf.x;rw[if_pos hd] at n;clear hd;apply aG;rfl;intro c hC;go_simp;(repeat (simp(disch:=omega) only[af,if_pos];go_simp));exact aF;refine aW ?_;have cc:=bf.x.sle2;obtain⟨i0,t1,t2,t3,t4⟩:=info_parts mG;have c6:m.drew.ownsRow V.heap.size 129 4 (.slice a4 D.length c4) D.length (D.flatMap bT):=bf.x.new;obtain⟨v5,w9,dg,de,a5⟩:=cu (P:=aE) m.drew V.heap.size 72 129 underlying72 t1 t2 t3 t4 rfl (by decide) (.slice a4 D.length c4) D.length _ c6 #[.string ⟨d.key.toArray⟩,.int .i64 d.dev,.int .i64 d.seq,.int .i64 d.val] rfl (by simp[Value.oneCell']) (by have:=dA.x;have:=cV.x;unfold maxLen;omega) (by have:=dA.x;have:=cV.x;omega) cc;obtain⟨X,Y,rfl⟩:=aJ de;have k1:bI (λq=>V.heap.size <= q) m.drew (m.drew.alloc (.cells #[.string ⟨d.key.toArray⟩,.int .i64 d.dev,.int .i64 d.seq,.int .i64 d.val] 129)):=bI.of_below (aI _ _);have bS:=br c6 (aI m.drew (.cells #[.string ⟨d.key.toArray⟩,.int .i64 d.dev,.int .i64 d.seq,.int .i64 d.val] 129))
            have k2:bI (λq=>V.heap.size <= q) (m.drew.alloc (.cells #[.string ⟨d.key.toArray⟩,.int .i64 d.dev,.int .i64 d.seq,.int .i64 d.val] 129)) w9:=⟨a5.os,a5.tape,a5.output,a5.size,λq hq hn=>a5.block q hq (λe=>hn (bS.lt q e.symm).1)⟩
            have cq:=bf.x.below (w':=m.drew.alloc (.cells #[.string ⟨d.key.toArray⟩,.int .i64 d.dev,.int .i64 d.seq,.int .i64 d.val] 129)) (((Below.refl m.heap.size m).drew).trans (aI m.drew _));have t:=cq.blk.grownNe bS (by decide) a5;have O:Below V.heap.size m w9:=((Below.refl V.heap.size m).drew.trans ((aI m.drew _).mono cc)).trans (Below.grownOwn bS a5 (au cc (aI m.drew _).size) (aq _));have ay:Kpt f w9:=bf.x.bel.trans (O.mono bf.x.sle);obtain⟨ad,C⟩:=aP (w9.setCell ⟨p.heap.size,1,none⟩ (.slice X (D.length+1) Y))
            have eh:FSt f ad V.heap.size p.heap.size (.slice (some ⟨g,0,none⟩) a.seen.length z) (.slice X (D.length+1) Y) (.slice M j.length N) (.slice (some ⟨ga,0,none⟩) s.length ci) H j s ((s.take (k4+1)).filter (uJ H j)):=by
             rw[n,C];refine⟨t.set 1 _,aL (bZ cq.seen bS (by decide) a5) t (by decide) _,aL (bZ cq.gone bS (by decide) a5) t (by decide) _,aL (yn cq.all dE.x bS a5) t (by decide) _,?_,ay.setCell (by show f.heap.size <= p.heap.size;exact bW.x) _,bf.x.sle,by simpa[World.setCell] using au cc O.size⟩;rw[aA,gl];exact aL de t (by decide) _
            have pz:∀q u,m.cell? ⟨ga,q,none⟩=some u -> ∀c,bI (λq=>V.heap.size <= q) m.drew c -> c.cell? ⟨ga,q,none⟩=some u:=λq u h c hh=>by
             have U:c.heap[ga]?=m.heap[ga]?:=hh.block ga (by show ga<m.heap.size;omega) (by show ¬V.heap.size <= ga;omega);unfold World.cell? at *;rw[U];exact h
            have cn:=pz _ _ z0;have co:=pz _ _ z1;have cp:=pz _ _ z2;have e5:=pz _ _ z3
            have ds:∀c,bI (λq=>V.heap.size <= q) m.drew c -> c.cell? ⟨p.heap.size,1,none⟩=some (.slice a4 D.length c4):=λc hh=>by
             have fm:=ev.x;have U:c.heap[p.heap.size]?=m.heap[p.heap.size]?:=hh.block p.heap.size (by show p.heap.size<m.heap.size;omega) (by show ¬V.heap.size <= p.heap.size;omega);exact(aS (bf.x.blk.keep U)).2.1
            obtain⟨wz,dl⟩:=aP (m.drew.alloc (.cells #[.string ⟨d.key.toArray⟩,.int .i64 d.dev,.int .i64 d.seq,.int .i64 d.val] 129));rw[<- dl] at dg k1 k2;have eT:(AP #[72,72] 72 #[.slice a4 D.length c4,.slice (some ⟨m.heap.size,0,none⟩) 1 1]).run aE wz=.ok (.slice X (D.length+1) Y) w9:=dg;obtain⟨J,K,L⟩:=aS t;have a1:=t.free 1;have⟨eD,bg,cW⟩:=ae3 dl C eh;clear n cc t1 t2 t3 t4 c6 de a5 bS cq t O ay C eh pz dl dg z0 z1 z2 z3 aX bf;go_wp2_with fail;refine dq (bI (λq=>V.heap.size <= q)) 9 (up 6 [506,507,8,509]) (by kernel_rfl) ?_;apply bC;rfl;intro c hC;go_simp;(repeat (simp(disch:=omega) only[af,if_pos];go_simp));exact aF;refine cD rfl rfl (λKK Z=>?_);go_simp;rw[show(m.alloc (.cells #[.string ⟨d.key.toArray⟩,.int .i64 d.dev,.int .i64 d.seq,.int .i64 d.val] 129)).drew=wz from eD.x.symm]
            first|refine⟨k1,Z _ _ ?_⟩|refine Z _ _ ?_
            clear Z KK;go_simp;refine cD rfl rfl (λKK Z=>?_);go_simp
            first|refine⟨k2,Z _ _ ?_⟩|refine Z _ _ ?_
            clear Z KK cn co cp e5 ds k1 k2 eT;go_simp;apply bC;rfl;intro c hC;go_simp;(repeat (simp(disch:=omega) only[af,if_pos];go_simp));exact aF;refine cG rfl rfl rfl (λKK Z=>?_);go_simp;refine Z _ _ ?_;clear Z KK;go_simp;refine cZ ?_;rw[<- bg.x];clear J K L a1;go_wp2
            go_roundw
            ·exact⟨k4+1,_,by omega,by go_num,cW.x⟩
            ·simp[intOf];omega
           ·have hd:¬decide (bp<d.seq)=true:=by simpa using aX
            have n:=Hf.x;rw[if_neg hd,List.append_nil] at n;have cW:=ae (show FSt f m V.heap.size p.heap.size (.slice (some ⟨g,0,none⟩) a.seen.length z) (.slice a4 D.length c4) (.slice M j.length N) (.slice (some ⟨ga,0,none⟩) s.length ci) H j s ((s.take (k4+1)).filter (uJ H j)) by rw[n];exact bf.x);clear hd n z0 z1 z2 z3;apply aG;rfl;intro c hC;go_simp;(repeat (simp(disch:=omega) only[af,if_pos];go_simp));exact aF;refine aW ?_;go_wp2
            go_roundw
            ·exact⟨k4+1,_,by omega,by go_num,cW.x⟩
            ·simp[intOf];omega
          ·have eS:¬(k4:Int)<(s.length:Int):=by omega
           have hM:dK a b=⟨H,D,j⟩:=by
            rw[<- wR a b b4.x b5.x,<- dB.x,show k4=s.length by omega,List.take_length,<- HG.x,<- er.x,<- dF.x];rfl
           have cE:=HB.x D dz.x
           have cK:dC wr f.heap.size (.slice (some ⟨g,0,none⟩) a.seen.length z) (.slice a4 D.length c4) (.slice M j.length N) ⟨H,D,j⟩:=⟨St.x.seen,bJ St.x.new St.x.sle,St.x.gone⟩
           rw[<- hM] at cE cK;have da:=jq a b b4.x b5.x;have c5:=uG wr _ (.agg #[.slice (some ⟨g,0,none⟩) a.seen.length z,.slice a4 D.length c4,.slice M j.length N]) (dK a b) ⟨_,_,_,rfl,cK.map cE⟩ (λx hx=>by have:=dW (dV (da.iknown x hx));have h:x.pl.1=x.key:=rfl;rw[h] at this;omega) (λx hx=>by have:=dW (dV (da.gknown x hx));have h:x.pl.1=x.key:=rfl;rw[h] at this;omega);obtain⟨ok,dd⟩:=aH (aV (dK a b));rw[dd] at c5
           have hu:dh a b=if ok=true then(dK a b,0) else(.empty,7):=by
            unfold dh gw;rw[b9.x,cx.x,dd];cases ok<;>rfl
           obtain⟨J,K,L⟩:=aS St.x.blk;have⟨du,Hu,es,et,dw⟩:=ae5 c5 hu cE cK St.x.bel;clear c5 hu hM cE cK da dd;go_wp2_with fail;refine du.x.mono ?_;rintro e m ⟨rfl,aa⟩;have bY:Kpt f m:=dw.x.trans (aa.mono dw.x.size);have B:=(HR.x m bY).2.2.2.1;have b0:=(HR.x m bY).1;have b6:=ae (et.x.below aa);clear du aa bY J K L;cases ok with
           |false=>
            have b8:=ae (show dh a b=(.empty,7) from Hu.x.trans (if_neg Bool.false_ne_true));obtain⟨wf,a0,a3,a2⟩:=dX B b0 (by omega) (.slice none 0 0) (.slice none 0 0) (.slice none 0 0);obtain⟨y0,y1,y2⟩:=aS B;have z0:=B.free 0;have z1:=B.free 1;have z2:=B.free 2;have⟨Q,bz,bD⟩:=ae3 (aS a3) a2 a0;clear a0 a3 a2;go_wp2;rw[<- bD.x];obtain⟨q0,q1,q2⟩:=Q.x;exact bodyPost_ret (v:=.tuple #[.agg #[.slice none 0 0,.slice none 0 0,.slice none 0 0],.int .i64 7]) (by simp[results,results125,go_sem,q0,q1,q2]) rfl ⟨_,by rw[b8.x],by rw[b8.x];exact iN _ _,bz.x⟩
           |true=>
            have b8:=ae (show dh a b=(dK a b,0) from Hu.x.trans (if_pos rfl));obtain⟨wf,a0,a3,a2⟩:=dX B b0 (by omega) (.slice (some ⟨g,0,none⟩) a.seen.length z) (.slice a4 D.length c4) (.slice M j.length N);obtain⟨y0,y1,y2⟩:=aS B;have z0:=B.free 0;have z1:=B.free 1;have z2:=B.free 2;have Q:=ae (aS a3)
            have ew:=ae (show dC wf f.heap.size (.slice (some ⟨g,0,none⟩) a.seen.length z) (.slice a4 D.length c4) (.slice M j.length N) (dK a b) by
             rw[a0]
             exact((b6.x.setCell B _).setCell (B.set 0 _) _).setCell ((B.set 0 _).set 1 _) _)
            have⟨bz,bD⟩:=ae2 a2 a0;clear a0 a3 a2;go_wp2;rw[<- bD.x];obtain⟨q0,q1,q2⟩:=Q.x;exact bodyPost_ret (v:=.tuple #[.agg #[.slice (some ⟨g,0,none⟩) a.seen.length z,.slice a4 D.length c4,.slice M j.length N],.int .i64 0]) (by simp[results,results125,go_sem,q0,q1,q2]) rfl ⟨_,by rw[b8.x],by rw[b8.x];exact⟨_,_,_,rfl,ew.x.mono (by have:=eG.x;omega),es.x⟩,bz.x⟩
theorem Ac(F G:aQ)(c d:Value)(a b:aT)(e:di F w c a)(i:di G w d b)(g:∀x∈a.items,x.key.length <= 1000000000)(f:∀x∈a.gone,x.key.length <= 1000000000)(k:∀x∈b.items,x.key.length <= 1000000000)(j:∀x∈b.gone,x.key.length <= 1000000000):
 Calls aE 125 #[c,d] w (Fh w (dh a b)):=
 (sS w F G c d a b e i g f k j).mono λ_ _ h=>h.post
end
end Go.Proofs.YtobjdpngnfbicaaGreatDoor
