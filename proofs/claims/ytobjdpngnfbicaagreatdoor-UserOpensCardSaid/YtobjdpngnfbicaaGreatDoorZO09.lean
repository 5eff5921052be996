/-
  J4 BRows J5 J6 J7
-/
import Derived.Test.YtobjdpngnfbicaaGreatDoorZO08
open Go.Lib renaming hid->ae
open Go.IntWalk renaming i64_in->af,i64_quo->ah,u32_in->aj,rem_in->am,u8_in->ap
open Nat renaming le_refl->aq,le_trans->au,lt_of_lt_of_le->aw
open List renaming length_cons->aD
open Go.Proofs.Tryz renaming prog->aE
set_option maxHeartbeats 4000000
set_option maxRecDepth 100000
set_option linter.all false
namespace Go.Proofs.YtobjdpngnfbicaaGreatDoor
open Go.RowKit
open Tryz
variable(w:World)(F:aX)(n k:Nat)(v:Value)(M:MD){W w':World}{G:aX}{u:Value}{i j o:Nat}{l:List UInt8}{L:List Value}{N:MD}{t:TypeId}
section
open Go.Shelf
attribute [local go_sem] opC upC told bG br bH bt bw bI bJ Oper.semAt_some
theorem iY(a b:List (Nat×List UInt8)):bh M (a++b)=if(bh M a).2=0 then bh (bh M a).1 b else bh M a:=by
 induction a generalizing M with
 |nil=>simp[bh]
 |cons x a c=>
  obtain⟨i,s⟩:=x;simp only[List.cons_append,bh];split
  ·exact c _
  ·rfl
theorem e7(a:List (Nat×List UInt8))(i:Nat)(s:List UInt8)(h:(bh M a).2=0):bh M (a++[(i,s)])=(bh M a).1.wr i s:=by
 rw[iY,if_pos h];generalize(bh M a).1=N;simp only[bh];generalize N.wr i s=r;obtain⟨x,y⟩:=r;simp only;split
 ·rename_i b;rw[b]
 ·rfl
theorem yt(l:List UInt8)(F:aX)(j:aO F w v l)(r:de w)(hF:∀b,F b -> b<w.heap.size)(p:0<w.heap.size):
 Calls aE 148 #[.int .u32 (n:Int),.int .u32 (k:Int),v] w fun e d=>e=.returned (.func (.func 197) #[] #[.pointer (some ⟨w.heap.size+2,0,none⟩),.pointer (some ⟨w.heap.size,0,none⟩),.pointer (some ⟨w.heap.size+1,0,none⟩)]) /\
  fP d F (w.heap.size+2) w.heap.size (w.heap.size+1) n k v l /\ Below w.heap.size w d /\ d.heap.size=w.heap.size+3:=by
 have c:Below w.heap.size w (((w.alloc (.cells #[.int .u32 (n:Int)] 96)).alloc (.cells #[.int .u32 (k:Int)] 96)).alloc (.cells #[v] 41)):=(((Below.refl _ w).alloc (aq _) _).alloc (by simp) _).alloc (by simp;omega) _
 have i:fP (((w.alloc (.cells #[.int .u32 (n:Int)] 96)).alloc (.cells #[.int .u32 (k:Int)] 96)).alloc (.cells #[v] 41)) F (w.heap.size+2) w.heap.size (w.heap.size+1) n k v l:=by
  have o:=Blk.new w #[.int .u32 (n:Int)] 96;have f:=Blk.new (w.alloc (.cells #[.int .u32 (n:Int)] 96)) #[.int .u32 (k:Int)] 96;have h:=Blk.new ((w.alloc (.cells #[.int .u32 (n:Int)] 96)).alloc (.cells #[.int .u32 (k:Int)] 96)) #[v] 41;simp only[World.size_alloc] at f h;refine⟨by simpa using h.cell 0,by simpa using((o.alloc _).alloc _).cell 0,by simpa using(f.alloc _).cell 0,j.keep fun b q _=>c.block b (hF b q),r.keep (c.block 0 p)⟩
 have m:=ae i;clear i;obtain⟨a,s,rfl,-⟩:=j
 go_enter func148,ntmps148
 go_wp2_with fail
 go_ret
 exact⟨rfl,m.out,c,by simp⟩
theorem sF(d:aT G W w')(f:∀b,G b -> ∃o:Obj,W.heap[b]?=some o /\ o.isCells=true):KeepsOthers W w':=
 ⟨d.size,fun k o a g=>by
  rw[d.block k (Array.getElem?_eq_some_iff.1 a).1 (fun hF=>by
   obtain⟨h,e,c⟩:=f k hF;rw[a] at e;cases e;rw[g] at c
   cases c)]
  exact a⟩
theorem Blk.isCells{w:World}{b:Nat}{L:List Value}{t:TypeId}(h:Blk w b L t):∃o:Obj,w.heap[b]?=some o /\ o.isCells=true:=⟨_,h,rfl⟩
theorem bT.isCells{w:World}{K:DK}{M:MD}(h:bT w K M):∀b,K.foot b -> ∃o:Obj,w.heap[b]?=some o /\ o.isCells=true:=by
 obtain⟨i,j,⟨g,l,m,a⟩,⟨L,d,k⟩,e,f⟩:=h;rintro b (rfl|rfl|rfl)
 ·exact a.isCells
 ·exact d.isCells
 ·cases c:M.fault with
  |none=>rw[e c];exact a.isCells
  |some p=>exact(f p.1 p.2 (by rw[c])).2.2.isCells
theorem Blk.grown{a:Option Nat}(h:Blk W i L t)(c:W.grownBy w' a)(d:∀r,a=some r -> ∃o:Obj,W.heap[r]?=some o /\ o.isCells=false):Blk w' i L t:=
 h.keep (grownBy_keeps_cells c d h rfl)
theorem bT.grown{K:DK}{a:Option Nat}(h:bT W K N)(e:W.grownBy w' a)(g:∀r,a=some r -> ∃o:Obj,W.heap[r]?=some o /\ o.isCells=false):bT w' K N:=
 h.keep fun b c=>by
  obtain⟨o,f,d⟩:=h.isCells b c;exact grownBy_keeps_cells e g f d
theorem aT.grown{a w f:World}{d:Option Nat}(h:aT G a w)(b:w.grownBy f d)(i:∀r,d=some r -> a.heap.size <= r):aT G a f:=
 ⟨b.os.trans h.os,b.tape.trans h.tape,b.output.trans h.output,au h.size b.size,fun k c g=>(b.block k (aw c h.size) (fun e=>by have:=i k e.symm;omega)).trans (h.block k c g)⟩
def yu(k:World)(K:DK)(M:MD)(jb h j:Nat)(i:Value)(c g p:Nat)(l:List (Nat×List UInt8))(f:List (Nat×Nat))(W:World):Prop:=
 ∃e a,e.d=K.d /\ (∀b,e.foot b -> K.foot b) /\ bT W e a /\ bh M (l.take f.length)=(a,0) /\ dZ W jb K.d h i j false /\
  Blk W c [.pointer (some ⟨jb,0,none⟩)] 89 /\ Blk W (c+1) [.int .u32 (g:Int)] 96 /\ Blk W (c+2) [.int .i64 (p:Int)] 3 /\ Blk W (c+3) [.int .i64 0] 26 /\
  aT (et K jb) k W /\ a.S.length=M.S.length /\ a.writes <= M.writes+f.length
def yv(j:World)(K:DK)(M:MD)(jb f i:Nat)(h:Value)(e:Nat)(k:List (Nat×List UInt8))(g:List (Nat×Nat))(W:World):Prop:=
 ∃a c r,a.d=K.d /\ (∀b,a.foot b -> K.foot b) /\ bT W a c /\ bh M (k.take g.length)=(c,r) /\ r≠0 /\ dZ W jb K.d f h i true /\ Blk W (e+3) [.int .i64 r] 26 /\
  aT (fun b=>et K jb b \/ b=e+3) j W
theorem yw{K:DK}{A i B:Nat}{h g p:Nat}{C:List (Nat×List UInt8)}(z:w'.heap.size <= n):OwnFrom n (yu w' K N A i B u h g p C):=by
 rintro D W W' row ⟨d,f,j,m,q,s,t,v,w,x,y,k,l⟩ a c;have b:∀r,row=some r -> ∃o:Obj,W.heap[r]?=some o /\ o.isCells=false:=fun r e=>(c r e).2
 exact⟨d,f,j,m,q.grown a b,s,Blk.grown t a b,v.grown a b,w.grown a b,x.grown a b,y.grown a b,k.grown a (fun r e=>au z (c r e).1),l⟩
theorem yx{K:DK}{v g w:Nat}{x:List (Nat×List UInt8)}(t:w'.heap.size <= n):OwnFrom n (yv w' K N v g w u i x):=by
 rintro y W W' row ⟨d,f,r,h,j,k,l,m,p,q,s⟩ a c;have b:∀r,row=some r -> ∃o:Obj,W.heap[r]?=some o /\ o.isCells=false:=fun r e=>(c r e).2
 exact⟨d,f,r,h,j,k.grown a b,l,m,Blk.grown p a b,q.grown a b,s.grown a (fun r e=>au t (c r e).1)⟩
theorem fJ(n g k p:Nat)(l:List UInt8):(aP n g k p l).length=takes l.length:=by simp[aP]
theorem uw(n g k p:Nat)(l:List UInt8)(i:Nat)(h:i<takes l.length):(aP n g k p l).take (i+1)=(aP n g k p l).take i++[(cm n g (p+i),cT g k l i)]:=by
 rw[List.take_succ_eq_append_getElem (by rw[fJ];exact h)]
 congr 1
 simp[aP]
theorem iI(M b:MD)(r:Int)(a:List (Nat×List UInt8))(t:Nat)(h:bh M (a.take t)=(b,r))(c:r≠0):bh M a=(b,r):=by
 have:=iY M (a.take t) (a.drop t);rw[List.take_append_drop,h,if_neg c] at this;exact this
theorem tu(c kd u z:Nat)(y:Value)(K:DK)(M:MD)(g k p:Nat)(v:Value)(l:List UInt8)(F:aX)(hv:aO F w v l)(hF:∀b,F b -> b<w.heap.size /\ ¬et K c b)(bn:¬et K c 0)(hj:dZ w c kd u y z false)(hd:bT w K M)(U:K.d=kd)(bt:¬K.foot c)(hq:de w)
 (hg:g<4294967296) (hk:k<65536) (hl:l.length <= 65536) (h2:2 <= M.S.length) (hp:p+takes l.length <= aW M.S.length) (hw:M.writes+takes l.length<4611686018427387904):
 Calls aE 90 #[.pointer (some ⟨c,0,none⟩),.int .u32 (g:Int),.int .i64 (k:Int),.int .i64 (p:Int),v] w fun e j=>
  e=.returned (.int .i64 (bh M (aP M.S.length g k p l)).2) /\ (∃q,q.d=kd /\ (∀b,q.foot b -> K.foot b) /\ bT j q (bh M (aP M.S.length g k p l)).1) /\
  dZ j c kd u y z (!decide ((bh M (aP M.S.length g k p l)).2=0)) /\ aT (et K c) w j:=by
 subst U;obtain⟨ws,ag⟩:=aQ (aP M.S.length g k p l);rw[<- ag];have a1:=ae ag;clear ag;have bj:=hv;obtain⟨a,a3,rfl,bF,bE,-,-⟩:=hv;have bH:=hd.le;have hH:aW M.S.length <= 65536:=by unfold aW;omega
 have bK:=dy l.length;refine(callsIn_wide (n:=2)).1 ?_;refine callsIn_of_wp_marks func90 rfl trivial ?_ rfl;simp only[ntmps90,List.size_toArray,aD,List.length_nil,Nat.reduceAdd,Nat.reduceSub,Array.replicate_succ,Array.replicate_zero,List.push_toArray,List.append_toArray,List.nil_append,List.cons_append];obtain⟨Z,ad⟩:=aQ ((((w.alloc (.cells #[.pointer (some ⟨c,0,none⟩)] 89)).alloc (.cells #[.int .u32 (g:Int)] 96)).alloc (.cells #[.int .i64 (p:Int)] 3)).alloc (.cells #[.int .i64 0] 26));have aU:Below w.heap.size w Z:=by rw[ad];exact((((Below.refl _ w).alloc (aq _) _).alloc (by simp) _).alloc (by simp;omega) _).alloc (by simp;omega) _
 have bC:Z.heap.size=w.heap.size+4:=by rw[ad];simp
 have bd:=hj.lt;have V:=hd.lt
 have bp:Blk Z w.heap.size [.pointer (some ⟨c,0,none⟩)] 89 /\ Blk Z (w.heap.size+1) [.int .u32 (g:Int)] 96 /\ Blk Z (w.heap.size+2) [.int .i64 (p:Int)] 3 /\ Blk Z (w.heap.size+3) [.int .i64 0] 26:=by
  rw[ad];have b1:=Blk.new w #[.pointer (some ⟨c,0,none⟩)] 89;have b2:=Blk.new (w.alloc (.cells #[.pointer (some ⟨c,0,none⟩)] 89)) #[.int .u32 (g:Int)] 96;have b3:=Blk.new ((w.alloc (.cells #[.pointer (some ⟨c,0,none⟩)] 89)).alloc (.cells #[.int .u32 (g:Int)] 96)) #[.int .i64 (p:Int)] 3;have b4:=Blk.new (((w.alloc (.cells #[.pointer (some ⟨c,0,none⟩)] 89)).alloc (.cells #[.int .u32 (g:Int)] 96)).alloc (.cells #[.int .i64 (p:Int)] 3)) #[.int .i64 0] 26;simp only[World.size_alloc] at b2 b3 b4;exact⟨((b1.alloc _).alloc _).alloc _,(b2.alloc _).alloc _,b3.alloc _,b4⟩
 gi_wp2_with fail
 rw[<- ad];have bD:=ae ad;clear ad;refine⟨trivial,callsIn_wide.2 ((yt Z g k _ l F (bj.keep fun b f _=>aU.block b (hF b f).1) (hq.keep (aU.block 0 (by omega))) (fun b f=>by have:=(hF b f).1;omega) (by omega)).mono ?_)⟩;rintro e I ⟨rfl,a9,ak,bN⟩;have az:=aU.trans (ak.mono (by omega));have br:bT I K M:=hd.keep fun b f=>az.block b (V b f)
 have bs:dZ I c K.d u y z false:=hj.keep (az.block c bd);obtain⟨x1,x2,x3,x4⟩:=bp;have y1:=x1.keep (ak.block _ (by omega));have y2:=x2.keep (ak.block _ (by omega));have y3:=x3.keep (ak.block _ (by omega));have y4:=x4.keep (ak.block _ (by omega))
 have ay:∀b,et K c b -> b<w.heap.size:=fun b f=>by
  rcases f with f|rfl
  ·exact V b f
  ·exact bd
 clear x1 x2 x3 x4 bj;rw[bC] at a9
 gi_wp2_with fail
 refine pS (n:=0) rfl (enters_of func197 (by kernel_rfl) rfl)
  (ys I F (et K c) _ _ _ g k _ l a9 (fun b f=>by
   rcases f with rfl|rfl|rfl|rfl|f
   ·exact⟨by omega,fun h=>by have:=ay _ h;omega⟩
   ·exact⟨by omega,fun h=>by have:=ay _ h;omega⟩
   ·exact⟨by omega,fun h=>by have:=ay _ h;omega⟩
   ·exact⟨by omega,bn⟩
   ·exact⟨by have:=(hF b f).1;omega,(hF b f).2⟩) hl hg (by omega))
  (fun _=>rfl) (fun s x W lo o o' bc ho hc hG=>⟨hG.1,hG.2.1,⟨hG.2.2.1.1.keep (World.putObj_heap_other (fun e=>by
   have O:W.heap[x.2]?=some (.cells ((cT g k l x.1).map B).toArray 137 (0,0)):=hG.2.2.1.1;rw[e,ho] at O;cases O
   cases hc)),hG.2.2.1.2⟩,hG.2.2.2⟩)
  (fun{A Bw C} O h2=>O.trans h2) (fun W lo o o' bc ho hc=>iX.put W lo o' bc)
  (yu I K M c u z y w.heap.size g p ws) (yv I K M c u z y w.heap.size ws) (yw _ (aq _)) (yx _ (aq _))
  ⟨K,M,rfl,fun _ h=>h,br,rfl,bs,y1,y2,y3,y4,aT.refl _ _,rfl,by omega⟩
  (fun x=>{ tmps:=#[.pointer (some ⟨c,0,none⟩),.int .u32 (g:Int),.int .i64 (k:Int),.int .i64 (p:Int),.slice a l.length a3,.pointer (some ⟨w.heap.size,0,none⟩),.pointer (some ⟨w.heap.size+1,0,none⟩),undef,.pointer (some ⟨w.heap.size+1+1,0,none⟩),undef,.pointer (some ⟨w.heap.size+1+1+1,0,none⟩),.int .i64 (x.1:Int),.pointer (some ⟨x.2,0,none⟩),undef,.int .u32 (g:Int),.int .i64 (k:Int),.int .u32 (k:Int),.slice a l.length a3,
   .func (.func 197) #[] #[.pointer (some ⟨w.heap.size+4+2,0,none⟩),.pointer (some ⟨w.heap.size+4,0,none⟩),.pointer (some ⟨w.heap.size+4+1,0,none⟩)],.int .i64 (x.1:Int),.pointer (some ⟨x.2,0,none⟩),undef,undef,undef,undef,undef,undef,undef,undef,undef,undef,undef,undef],defers:=[] }) ?assign ?body ?done ?stop
 case assign=>
  intro lo x W Kx bo
  gi_wp2
  exact bo
 case body=>
  rintro lo s ⟨m,sb⟩ W ⟨q,E,aa,t,G,N,H,R,T,z3,z4,J,aV,bB⟩ ⟨hm,be,aZ,bw⟩;dsimp only at hm be aZ bw;subst hm
  have bv:cm M.S.length g (p+s.length)<E.S.length:=by
   rw[aV];unfold cm aW at *;rcases(show g%2=0 \/ g%2=1 by omega) with h|h<;>rw[h]<;>omega
  have P:∀b,et q c b -> b<w.heap.size:=fun b f=>ay b (f.imp (t b) id)
  have bx:¬et q c sb:=fun h=>by have:=P sb h;omega
  have q5:∀j,bL (et q c) W.drew j -> j.cell? ⟨w.heap.size,0,none⟩=some (.pointer (some ⟨c,0,none⟩)):=fun j hh=>by simpa using(R.keep (w':=j) (hh.block _ R.lt (fun h=>by have:=P _ h;omega))).cell 0
  have q6:∀j,bL (et q c) W.drew j -> j.cell? ⟨w.heap.size+1,0,none⟩=some (.int .u32 (g:Int)):=fun j hh=>by simpa using(T.keep (w':=j) (hh.block _ T.lt (fun h=>by have:=P _ h;omega))).cell 0
  have q8:∀j,bL (et q c) W.drew j -> j.cell? ⟨w.heap.size+2,0,none⟩=some (.int .i64 (p:Int)):=fun j hh=>by simpa using(z3.keep (w':=j) (hh.block _ z3.lt (fun h=>by have:=P _ h;omega))).cell 0
  have aH:=pn W.drew c K.d u y z false q E H.drew (G.keep (w':=W.drew) fun _ _=>rfl) aa (by omega) g (p+s.length) (by omega);have bk:=ro W.drew c K.d u y z false q E H.drew (G.keep (w':=W.drew) fun _ _=>rfl) aa (fun h=>bt (t _ h)) (cm M.S.length g (p+s.length)) bv (by omega) sb _ ⟨aZ.1.drew,aZ.2⟩ (fun h=>bx (.inl h));rw[aV] at aH;have aJ:=e7 M (ws.take s.length) (cm M.S.length g (p+s.length)) (cT g k l s.length) (by rw[N]);rw[N] at aJ;have ag:=a1.out;have a0:=uw M.S.length g k p l s.length be;rw[<- ag] at a0;rw[<- a0] at aJ;generalize cm M.S.length g (p+s.length)=a2 at *;have bi:((p+s.length:Nat):Int)=(p:Int)+(s.length:Int):=by omega
  rw[bi] at aH;have bM:=af ((p:Int)+(s.length:Int)) (by omega);have aM:=ae aH;have aR:=ae bk;have aN:=ae aJ;clear aH bk aJ a0 ag N bi
  gi_wp2_with fail
  refine qf (bL (et q c)) [(0,true),(1,true),(2,true),(3,true),(4,true),(5,true),(7,true),(6,false),(8,false),(9,true)] (by kernel_rfl) (by kernel_rfl) (by kernel_rfl) (fx _) (ii _) ?_;apply aG;rfl;intro j hC;go_simp;exact aF;refine bq rfl rfl (fun KK U=>?_);go_simp;refine aM.out.mono ?_;rintro e j ⟨rfl,rfl⟩;refine⟨_,rfl,fx _ _,U _ _ ?_⟩;clear U KK;go_simp;apply aG;rfl;intro j hC;go_simp;exact aF;refine bq rfl rfl (fun KK U=>?_);go_simp;refine aR.out.mono ?_;rintro e w3 ⟨rfl,⟨K3,a6,aS,al⟩,ar,ab,bJ⟩;refine⟨_,rfl,ab,U _ _ ?_⟩;clear U KK q5 q6 q8;go_simp;apply aG;rfl;intro j hC;go_simp;exact aF;refine aY ?_
  have X:aT (et q c) W w3:=⟨ab.os,ab.tape,ab.output,ab.size,ab.block⟩
  have aI:=aN.out;have bA:=nm E a2 (cT g k l s.length);generalize bf:E.wr a2 (cT g k l s.length)=mw at *;obtain⟨M3,r⟩:=mw;dsimp only at al ar bA;dsimp only
  have bb:KeepsOthers W w3:=sF X (fun b f=>by
   rcases f with f|rfl
   ·exact G.isCells b f
   ·exact Blk.isCells H)
  have u1:=R.keep (X.block _ R.lt (fun h=>by have:=P _ h;omega));have u2:=T.keep (X.block _ T.lt (fun h=>by have:=P _ h;omega));have u3:=z3.keep (X.block _ z3.lt (fun h=>by have:=P _ h;omega));have u4:=z4.keep (X.block _ z4.lt (fun h=>by have:=P _ h;omega));have bg:aT (et K c) I w3:=J.trans X (fun i hi=>.inl (hi.imp (t i) id));have bz:I.heap.size <= W.heap.size:=J.size
  by_cases Y:r=0
  ·subst Y
   have a5:yu I K M c u z y w.heap.size g p ws (s++[(s.length,sb)]) w3:=⟨K3,M3,a6,fun b f=>t b (aS b f),al,by simpa using aI,by simpa using ar,u1,u2,u3,u4,bg,by omega,by simp;omega⟩
   have bm:=ae a5;clear a5 aI ar al u1 u2 u3 u4 R T z3 z4 bf aN aR aM G H J
   gi_wp2_with fail
   exact⟨bb,iX.of_only (X.mono fun b f=>f.imp (t b) id) bz,bm.out⟩
  ·have bI:(r != 0)=true:=bne_iff_ne.2 Y;have c4:=u4.cell 0;have f4:=u4.free 0;simp at c4;have u5:=u4.set 0 (.int .i64 r)
   have ba:dZ (w3.setCell ⟨w.heap.size+3,0,none⟩ (.int .i64 r)) c K.d u y z true:=by
    have:=Blk.set_other ar (a:=⟨w.heap.size+3,0,none⟩) (.int .i64 r) (show c≠w.heap.size+3 by omega);simpa[Y,dZ] using this
   have a7:bT (w3.setCell ⟨w.heap.size+3,0,none⟩ (.int .i64 r)) K3 M3:=al.keep fun b f=>Below.heap_setCell _ ⟨w.heap.size+3,0,none⟩ _ b (by have:=V b (t b (aS b f));show b≠w.heap.size+3;omega)
   have a4:yv I K M c u z y w.heap.size ws (s++[(s.length,sb)]) (w3.setCell ⟨w.heap.size+3,0,none⟩ (.int .i64 r)):=⟨K3,M3,r,a6,fun b f=>t b (aS b f),a7,by simpa using aI,Y,ba,by simpa using u5,(bg.mono fun b f=>.inl f).setCell (.inl (.inr rfl)) _⟩
   have bl:=ae a4;clear a4 aI ar al ba a7 u1 u2 u3 u5 R T z3 z4 bf aN aR aM G H J
   gi_wp2_with fail
   exact⟨bb.trans (KeepsOthers.setCell _ _ _),bl.out⟩
 case done=>
  rintro D xs W hD hS ⟨q,E,aa,t,G,N,H,R,T,z3,z4,J,aV,bB⟩ ao
  have ai:bh M ws=(E,0):=by
   rw[<- N,List.take_of_length_le (by rw[a1.out,fJ];omega)]
  have c4:=z4.cell 0;have f4:=z4.free 0;simp at c4;have bG:=V;have v4:=z4.set 0 (.int .i64 0);have a8:(W.setCell ⟨w.heap.size+3,0,none⟩ (.int .i64 0)).heap[D]?=some (.deferred (some [])):=by rw[Below.heap_setCell _ ⟨w.heap.size+3,0,none⟩ _ D (by show D≠w.heap.size+3;omega)];exact ao
  have Q:∀b,b<I.heap.size -> b≠w.heap.size+3 -> ((W.setCell ⟨w.heap.size+3,0,none⟩ (.int .i64 0)).putObj D (.deferred none)).heap[b]?=W.heap[b]?:=fun b f bu=>by
   rw[World.putObj_heap_other (by omega),Below.heap_setCell _ ⟨w.heap.size+3,0,none⟩ _ b bu]
  have an:bT ((W.setCell ⟨w.heap.size+3,0,none⟩ (.int .i64 0)).putObj D (.deferred none)) q E:=G.keep fun b f=>Q b (by have:=V b (t b f);omega) (by have:=V b (t b f);omega)
  have av:dZ ((W.setCell ⟨w.heap.size+3,0,none⟩ (.int .i64 0)).putObj D (.deferred none)) c K.d u y z false:=H.keep (Q c (by omega) (by omega))
  have ax:aT (et K c) w ((W.setCell ⟨w.heap.size+3,0,none⟩ (.int .i64 0)).putObj D (.deferred none)):=by
   have O:aT (et K c) w W:=(aT.of_below az).trans J (fun i hi=>.inl hi);have h2:=O.setCell (p:=⟨w.heap.size+3,0,none⟩) (.inr (by show w.heap.size <= w.heap.size+3;omega)) (.int .i64 0);exact h2.grown (grownBy_putObj' _ D (.deferred none)) (fun r e=>by cases e;omega)
  have L:((W.setCell ⟨w.heap.size+3,0,none⟩ (.int .i64 0)).putObj D (.deferred none)).cell? ⟨w.heap.size+3,0,none⟩=some (.int .i64 0):=by
   have:=v4.keep (w':=(W.setCell ⟨w.heap.size+3,0,none⟩ (.int .i64 0)).putObj D (.deferred none)) (World.putObj_heap_other (by omega));simpa using this.cell 0
  have HF:=ae an;have HJ:=ae av;have HO:=ae ax;have aK:=ae ai;have HC:=ae L;have aL:=ae a8;clear an av ax ai L a8 v4 R T z3 z4 G H J Q N ao
  gi_wp2_with fail
  refine⟨by simp,.inl ⟨_,_,rfl,run_takeDeferred aL.out,?_⟩⟩;have L:=HC.out;refine⟨.int .i64 0,?_,?_⟩
  ·simp[results,Tryz.f90,go_sem,L]
  ·rw[aK.out];exact⟨rfl,⟨q,aa,t,HF.out⟩,HJ.out,HO.out⟩
 case stop=>
  rintro D s W hD-⟨q,E,r,aa,t,G,N,Y,H,z4,J⟩ ao;have ai:=iI M E r ws _ N Y;have Q:∀b,b<I.heap.size -> (W.putObj D (.deferred none)).heap[b]?=W.heap[b]?:=fun b f=>World.putObj_heap_other (by omega)
  have an:bT (W.putObj D (.deferred none)) q E:=G.keep fun b f=>Q b (by have:=V b (t b f);omega)
  have av:dZ (W.putObj D (.deferred none)) c K.d u y z true:=H.keep (Q c (by omega))
  have ax:aT (et K c) w (W.putObj D (.deferred none)):=by
   have O:aT (et K c) w W:=(aT.of_below az).trans J (fun i hi=>hi.imp id (fun h=>by omega));exact O.grown (grownBy_putObj' _ D (.deferred none)) (fun r e=>by cases e;omega)
  have L:(W.putObj D (.deferred none)).cell? ⟨w.heap.size+3,0,none⟩=some (.int .i64 r):=by
   have:=z4.keep (w':=W.putObj D (.deferred none)) (Q _ (by omega));simpa using this.cell 0
  have HF:=ae an;have HJ:=ae av;have HO:=ae ax;have aK:=ae ai;have HC:=ae L;have aL:=ae ao;clear an av ax ai L ao z4 G H J Q N
  gi_wp2_with fail
  refine⟨by simp,.inl ⟨_,_,rfl,run_takeDeferred aL.out,?_⟩⟩;have L:=HC.out;refine⟨.int .i64 r,?_,?_⟩
  ·simp[results,Tryz.f90,go_sem,L]
  ·rw[aK.out];exact⟨rfl,⟨q,aa,t,HF.out⟩,by simpa[Y] using HJ.out,HO.out⟩
end
theorem BU:(aE.info? 41).map (fun i=>(i.zero,i.size,i.bytes))=some (some (.slice none 0 0),1,24):=by kernel_rfl
def bX(R:aX)(w:World)(d:Nat)(v:Value)(S:List (List UInt8)):Prop:=
 ∃a,w.ownsRow d 41 1 v S.length a /\ (∀i (h:i<S.length),∃x,a[i]?=some x /\ aO R w x S[i]) /\ (∀b,R b -> ∃L c,w.heap[b]?=some (.cells L 5 c))
theorem bX.nil:bX none_ w n (.slice none 0 0) []:=
 ⟨[],World.ownsRow_nil _ _ _ _,fun i h=>by simp at h,fun b h=>h.elim⟩
theorem bX.shape{S:List (List UInt8)}(h:bX G W i u S):∃a b,u=.slice a S.length b /\ S.length <= b /\ b <= maxLen:=by
 obtain⟨k,f,-⟩:=h;rcases f.2 with⟨rfl,c⟩|⟨g,b,j,rfl,_,_,d,e,_⟩
 ·exact⟨none,0,by rw[c],by omega,by unfold maxLen;omega⟩
 ·exact⟨_,b,rfl,d,e⟩
theorem bX.own{S:List (List UInt8)}(h:bX G W i u S){g:Nat}(a:u.ownBlock=some g):i <= g /\ g<W.heap.size /\ ¬G g:=by
 obtain⟨r,j,-,e⟩:=h;rcases j.2 with⟨rfl,o⟩|⟨d,l,m,rfl,f,c,p,q,_⟩
 ·cases a
 ·simp[Value.ownBlock] at a;subst a;refine⟨f,lt_of_block c,fun k=>?_⟩;obtain⟨L,n,b⟩:=e d k;rw[c] at b;simp at b
theorem tw(h:W.ownsRow i t j u o L)(k:∀g,u.ownBlock=some g -> w'.heap[g]?=W.heap[g]?):w'.ownsRow i t j u o L:=by
 obtain⟨d,a⟩:=h;refine⟨d,?_⟩;rcases a with a|⟨g,b,c,rfl,l,f,r⟩
 ·exact .inl a
 ·exact .inr ⟨g,b,c,rfl,l,(k g rfl).trans f,r⟩
theorem bX.keep{R:aX}{w w':World}{f:Nat}{v:Value}{S:List (List UInt8)}(h:bX R w f v S)(d:∀b,v.ownBlock=some b \/ R b -> b<w.heap.size -> w'.heap[b]?=w.heap[b]?):bX R w' f v S:=by
 have o:=fun g c=>(h.own (g:=g) c).2.1
 obtain⟨r,n,p,k⟩:=h;refine⟨r,tw n fun g c=>d g (.inl c) (o g c),fun i hi=>?_,fun b a=>?_⟩
 ·obtain⟨x,q,l⟩:=p i hi;exact⟨x,q,l.keep fun b a m=>d b (.inr a) m⟩
 ·obtain⟨L,j,e⟩:=k b a;exact⟨L,j,(d b (.inr a) (lt_of_block e)).trans e⟩
theorem bX.kept{S:List (List UInt8)}(h:bX G W i u S)(a:Below W.heap.size W w'):bX G w' i u S:=
 h.keep fun b _ c=>a.block b c
theorem bX.only{R F:aX}{v:Value}{S:List (List UInt8)}(h:bX R W i v S)(e:aT F W w')(c:∀b,v.ownBlock=some b \/ R b -> ¬F b):bX R w' i v S:=
 h.keep fun b a d=>e.block b d (c b a)
theorem bX.append{R p:aX}{v x:Value}{S:List (List UInt8)}(h:bX R W o v S)(F:aO p W x l)(D:∀b,p b -> ∃L f,W.heap[b]?=some (.cells L 5 f))
 (ab:S.length<1000000000) (ad:o <= W.heap.size):
 ∃a d n,(AP #[64,64] 64 #[v,.slice (some ⟨W.heap.size,0,none⟩) 1 1]).run aE (W.alloc (.cells #[x] 41))=.ok (.slice a (S.length+1) d) n /\
  bX (fun b=>R b \/ p b) n o (.slice a (S.length+1) d) (S++[l]) /\ (W.alloc (.cells #[x] 41)).grownBy n v.ownBlock:=by
 obtain⟨Y,hi,U,V,X⟩:=info_parts BU;have ag:=fun g k=>h.own (g:=g) k
 obtain⟨z,t,O,C⟩:=h;have Q:x.oneCell'=true:=by obtain⟨a,d,rfl,-⟩:=F;rfl
 obtain⟨Z,n,M,A,B,h3⟩:=run_append_own (P:=aE) (W.alloc (.cells #[x] 41)) o 64 64 41 Y _ 1 24 underlying64 hi U V X rfl (by decide) v S.length z (t.alloc _)
  ⟨W.heap.size,0,none⟩ 1 1 [x] (by simp) (fun j u I=>by
   have K:=Blk.new W #[x] 41;rw[Addr.add_lit,K.cell]
   simpa using I) (by simpa using Q) (by unfold maxLen;omega) (by omega) (by simp;omega)
 have N:∃a d,Z=.slice a (S.length+1) d:=by
  rcases A.2 with⟨_,h0⟩|⟨g,d,G,rfl,_⟩
  ·omega
  ·exact⟨_,d,rfl⟩
 obtain⟨a,d,rfl⟩:=N
 have r:∀b,b<W.heap.size -> (∀g,v.ownBlock=some g -> b≠g) -> n.heap[b]?=W.heap[b]?:=fun b c k=>by
  rw[B.block b (by simp;omega) (fun e=>k b e.symm rfl),Below.heap_alloc _ _ _ c]
 have s:∀b,(∃L f,W.heap[b]?=some (.cells L 5 f)) -> ∀g,v.ownBlock=some g -> b≠g:=by
  rintro b ⟨L,f,m⟩ g k rfl;rcases t.2 with⟨rfl,_⟩|⟨g',aa,G,rfl,_,c,_⟩
  ·cases k
  ·simp[Value.ownBlock] at k;subst k;rw[c] at m;simp at m
 refine⟨a,d,n,M,⟨z++[x],by simpa using A,fun i hi=>?_,fun b c=>?_⟩,B⟩
 ·have J:z.length=S.length:=by simpa using t.1
  by_cases E:i<S.length
  ·obtain⟨y,T,H⟩:=O i E;refine⟨y,by rw[List.getElem?_append_left (by omega)];exact T,?_⟩;rw[List.getElem_append_left E];exact(H.keep fun b c q=>r b q (s b (C b c))).mono fun b c=>.inl c
  ·simp at hi;obtain rfl:i=S.length:=by omega
   refine⟨x,by rw[List.getElem?_append_right (by omega),J];simp,?_⟩;simp only[List.getElem_concat_length];exact(F.keep fun b c q=>r b q (s b (D b c))).mono fun b c=>.inr c
 ·have:∃L f,W.heap[b]?=some (.cells L 5 f):=c.elim (C b) (D b)
  obtain⟨L,f,m⟩:=this;exact⟨L,f,(r b (lt_of_block m) (s b ⟨L,f,m⟩)).trans m⟩
theorem bX.appended{v x:Value}{S:List (List UInt8)}(h:bX G W i v S)(B:x.oneCell'=true)(E:S.length<1000000000){q:Value}
 (a:(AP #[64,64] 64 #[v,.slice (some ⟨W.heap.size,0,none⟩) 1 1]).run aE (W.alloc (.cells #[x] 41))=.ok q w'):∀b,q.ownBlock=some b -> v.ownBlock=some b \/ W.heap.size <= b:=by
 obtain⟨m,hi,o,e,p⟩:=info_parts BU;obtain⟨r,l,-,-⟩:=h
 have k:∀j u,[x][j]?=some u -> (W.alloc (.cells #[x] 41)).cell? ((⟨W.heap.size,0,none⟩:Addr).add j)=some u:=fun j u t=>by
  have y:=Blk.new W #[x] 41;rw[Addr.add_lit,y.cell];simpa using t
 rcases l.2 with⟨rfl,C⟩|⟨g,f,n,rfl,F,c,D,H,A,I⟩
 ·have d:=run_append_nil (P:=aE) (W.alloc (.cells #[x] 41)) 64 64 41 m _ underlying64 hi o ⟨W.heap.size,0,none⟩ 1 1 [x] (by rw[e];rfl) k (by omega) (by omega) (by rw[p];omega);change _=_ at a;unfold AP at a;rw[d] at a;simp only[Result.ok.injEq] at a;obtain⟨rfl,-⟩:=a;intro b c;simp[Value.ownBlock] at c;right;omega
 ·have s:(W.alloc (.cells #[x] 41)).heap[g]?=some (.cells n 41 (0,0)):=(Below.heap_alloc _ _ _ (lt_of_block c)).trans c
  by_cases z:S.length+1 <= f
  ·have d:=run_append_room (P:=aE) (W.alloc (.cells #[x] 41)) 64 64 41 m underlying64 hi g S.length f n s ⟨W.heap.size,0,none⟩ 1 1 [x] (by rw[e];rfl) k (by simpa using B) z (by rw[e,A];simp;omega);unfold AP at a;rw[d] at a;simp only[Result.ok.injEq] at a;obtain⟨rfl,-⟩:=a;intro b c;left;exact c
  ·have holds:∀j u,r[j]?=some u -> (W.alloc (.cells #[x] 41)).cell? ((⟨g,0,none⟩:Addr).add j)=some u:=(l.alloc _).cells (g:=g) rfl
   have d:=run_append_grow (P:=aE) (W.alloc (.cells #[x] 41)) 64 64 41 m _ underlying64 hi o ⟨g,0,none⟩ S.length f r (by rw[e];exact l.1) holds ⟨W.heap.size,0,none⟩ 1 1 [x] (by rw[e];rfl) k (by omega) (by omega) (by rw[p];exact growslice_fits (by omega) (by omega));unfold AP at a;rw[d] at a;simp only[Result.ok.injEq] at a;obtain⟨rfl,-⟩:=a;intro b c;simp[Value.ownBlock] at c;right;omega
section
attribute [local go_sem ↓] aV
attribute [local go_sem] opC upC told bG br bH bt bw bI bJ
theorem lB(h:W.ownsRow j 5 1 u l.length (l.map B)):aO (fun b=>j <= b /\ b<W.heap.size /\ ∃L f,W.heap[b]?=some (.cells L 5 f)) W u l:=by
 rcases h.2 with⟨rfl,d⟩|⟨g,e,c,rfl,k,a,m,n,p,o⟩
 ·exact⟨none,0,by rw[d],by omega,by unfold maxLen;omega,fun _=>rfl,.inl (List.length_eq_zero_iff.1 d)⟩
 ·refine⟨_,e,rfl,m,n,nofun,.inr ⟨g,0,c,5,(0,0),rfl,⟨k,lt_of_block a,_,_,a⟩,a,by omega,fun i hi=>?_⟩⟩;have:(c.toList.take (l.length*1))[i]?=(l.map B)[i]?:=by rw[o]
  rw[List.getElem?_take,if_pos (by omega)] at this;simpa[List.getElem?_eq_getElem hi] using this
structure JK where
 j:Nat
 K:DK
 O:aX
def JK.all(k:JK):aX:=fun b=>b=k.j \/ k.K.foot b \/ k.O b
structure JAt(w:World)(k:JK)(M:MD)(J:MJ):Prop where
 disk:bT w k.K M
 recs:∃ra rc R,dZ w k.j k.K.d J.g (.slice ra J.L.length rc) (aM J.L) J.dead /\ bX R w 0 (.slice ra J.L.length rc) J.L /\ (∀b,(Value.slice ra J.L.length rc).ownBlock=some b \/ R b -> k.O b)
 apart:¬k.K.foot k.j /\ (∀b,k.O b -> b≠k.j /\ ¬k.K.foot b /\ b<w.heap.size)
 size8:8 <= M.S.length
 room:aM J.L <= aW M.S.length
 gen:J.g<4294967296
 lens:∀b∈J.L,b.length <= 65536
theorem JAt.keep{w w':World}{k:JK}{M:MD}{J:MJ}(h:JAt w k M J)(d:∀b,k.all b -> w'.heap[b]?=w.heap[b]?)(o:w.heap.size <= w'.heap.size):JAt w' k M J:=by
 obtain⟨f,⟨p,q,R,g,i,e⟩,c,j,l,m,n⟩:=h;exact⟨f.keep fun b a=>d b (.inr (.inl a)),⟨p,q,R,Blk.keep g (d _ (.inl rfl)),i.keep fun b a _=>d b (.inr (.inr (e b a))),e⟩,⟨c.1,fun b a=>⟨(c.2 b a).1,(c.2 b a).2.1,aw (c.2 b a).2.2 o⟩⟩,j,l,m,n⟩
theorem JAt.lt{w:World}{k:JK}{M:MD}{J:MJ}(h:JAt w k M J):∀b,k.all b -> b<w.heap.size:=by
 rintro b (rfl|a|a)
 ·obtain⟨d,e,R,c,_⟩:=h.recs;exact Blk.lt c
 ·exact h.disk.lt b a
 ·exact(h.apart.2 b a).2.2
theorem JAt.kept{k:JK}{J:MJ}(h:JAt W k N J)(a:Below W.heap.size W w'):JAt w' k N J:=h.keep (fun b c=>a.block b (h.lt b c)) a.size
theorem JAt.only{k:JK}{J:MJ}{F:aX}(h:JAt W k N J)(c:aT F W w')(d:∀b,k.all b -> ¬F b):JAt w' k N J:=h.keep (fun b a=>c.block b (h.lt b a) (d b a)) c.size
theorem d9(L:List (List UInt8))(b:List UInt8):aM (L++[b])=aM L+takes b.length:=by simp[aM]
theorem dB(L:List (List UInt8)):L.length <= aM L:=by
 induction L with
 |nil=>simp
 |cons x L a=>
  have:=dy x.length;simp only[aM,List.map_cons,List.sum_cons,aD] at *;omega
theorem uy(c G g m:Nat)(H:Value)(D:Bool)(R:aX)(L:List (List UInt8))(Q:dZ w c G g H m D)(U:bX R w 0 H L)(av:∀b,H.ownBlock=some b \/ R b -> b≠c /\ b<w.heap.size)(F:aX)(v:Value)(l:List UInt8)(hv:aO F w v l)(hl:l.length <= 65536)(hL:L.length <= 65536)(ht:m <= 65536):
 Calls aE 91 #[.pointer (some ⟨c,0,none⟩),v] w fun e f=>e=.returned (.tuple #[]) /\ ∃z A Y,dZ f c G g (.slice z (L.length+1) A) (m+takes l.length) D /\ bX Y f 0 (.slice z (L.length+1) A) (L++[l]) /\
  aT (fun b=>b=c \/ H.ownBlock=some b) w f /\ (∀b,(Value.slice z (L.length+1) A).ownBlock=some b \/ Y b -> ((H.ownBlock=some b \/ R b) \/ w.heap.size <= b) /\ b<f.heap.size):=by
 have T:∀b,H.ownBlock=some b \/ R b -> b≠c:=fun b h=>(av b h).1
 have ak:=Q.lt;have a0:=dy l.length;have aZ:takes l.length <= 65536:=by unfold takes;omega
 obtain⟨va,vc,rfl,a1,a2,-,-⟩:=id hv;obtain⟨j,k,rfl,-,-⟩:=U.shape
 have aU:∀f,bL (fun b=>w.heap.size <= b \/ (Value.slice j L.length k).ownBlock=some b) w.drew f -> f.cell? ⟨c,2,none⟩=some (.slice j L.length k):=fun f hh=>by
  simpa using(Blk.keep Q (w':=f) (hh.block c ak (fun h=>h.elim (fun h=>by omega) (fun h=>T c (.inl h) rfl)))).cell 2
 go_enter func91,ntmps91
 go_wp2_with fail;refine dP (bL (fun b=>w.heap.size <= b \/ (Value.slice j L.length k).ownBlock=some b)) 11 (up 6 [506,507,508,9,10,511]) (by kernel_rfl) ?_;apply bM;rfl;intro f O;go_simp;exact aF;refine cU rfl rfl (fun s i=>?_);go_simp;refine(mm w.drew F _ l (hv.keep (w':=w.drew) fun b _ _=>rfl) (by omega)).mono ?_;rintro e t ⟨r,rfl,N,ab⟩;have J:Below w.heap.size w t:=(Below.refl _ _).drew.trans ab;have N:t.ownsRow w.heap.size 5 1 r l.length (l.map B):=N;refine⟨_,rfl,bL.of_below ab,i _ _ ?_⟩;clear i s aU;have P:=lB N
 obtain⟨z,A,rfl,-,-⟩:∃a I,r=.slice a l.length I /\ l.length <= I /\ I <= maxLen:=by
  obtain⟨a,I,h,y,h2,-⟩:=P;exact⟨a,I,h,y,h2⟩
 have V:=U.kept J;obtain⟨n,o,x,aa,W,p⟩:=V.append P (fun b d=>d.2.2) (by omega) (Nat.zero_le _);have ad:dZ t c G g (.slice j L.length k) m D:=Blk.keep Q (J.block c ak);have a3:=J.size;have aY:∀q,(Value.slice j L.length k).ownBlock=some q -> q<w.heap.size:=fun q E=>(U.own E).2.1
 have K:dZ x c G g (.slice j L.length k) m D:=Blk.keep (Blk.alloc ad _) (p.block c (by simp;omega) (fun e=>T c (.inl e.symm) rfl));have k1:bL (fun b=>w.heap.size <= b \/ (Value.slice j L.length k).ownBlock=some b) t (t.alloc (.cells #[.slice z l.length A] 41)):=bL.of_below (aI _ _)
 have k2:bL (fun b=>w.heap.size <= b \/ (Value.slice j L.length k).ownBlock=some b) (t.alloc (.cells #[.slice z l.length A] 41)) x:=⟨p.os,p.tape,p.output,p.size,fun q E M=>p.block q E (fun e=>M (.inr e.symm))⟩
 have an:aT (fun b=>b=c \/ (Value.slice j L.length k).ownBlock=some b) w x:=by
  have y:aT (fun b=>b=c \/ (Value.slice j L.length k).ownBlock=some b) w (t.alloc (.cells #[.slice z l.length A] 41)):=(aT.of_below J).alloc _;exact⟨p.os.trans y.os,p.tape.trans y.tape,p.output.trans y.output,au y.size p.size,fun q E M=>(p.block q (aw E y.size) (fun e=>M (.inr e.symm))).trans (y.block q E M)⟩
 have Z:=K.cell 2;have f2:=K.free 2;simp at Z
 have S:∀b,(Value.slice n (L.length+1) o).ownBlock=some b \/ (R b \/ (w.heap.size <= b /\ b<t.heap.size /\ ∃L fz,t.heap[b]?=some (.cells L 5 fz))) -> b≠c:=fun b d=>by
  rcases d with d|d|d
  ·intro e;subst e;obtain⟨a5,ho,-⟩:=W;rcases ho.2 with⟨h,_⟩|⟨g',aV,aW,h,_,aQ,_⟩
   ·rw[h] at d;cases d
   ·rw[h] at d;simp[Value.ownBlock] at d;subst d;have:x.heap[g']?=some (.cells #[.pointer (some ⟨G,0,none⟩),.int .u32 (g:Int),.slice j L.length k,.int .i64 (m:Int),.bool D] 141 (0,0)):=K;rw[aQ] at this;simp at this
  ·exact T b (.inr d)
  ·have:=d.1;omega
 have u:=K.set 2 (.slice n (L.length+1) o);have ax:bX _ (x.setCell ⟨c,2,none⟩ (.slice n (L.length+1) o)) 0 (.slice n (L.length+1) o) (L++[l]):=W.keep fun b d _=>Below.heap_setCell _ ⟨c,2,none⟩ _ b (S b (by simpa using d))
 have al:∀b,(Value.slice n (L.length+1) o).ownBlock=some b -> (Value.slice j L.length k).ownBlock=some b \/ w.heap.size <= b:=fun b d=>by
  rcases V.appended rfl (by omega) aa b d with h|h
  ·exact .inl h
  ·exact .inr (by omega)
 have a4:t.heap.size <= (x.setCell ⟨c,2,none⟩ (.slice n (L.length+1) o)).heap.size:=by have:=k2.size;simp at this⊢;omega
 have ag:dZ (x.setCell ⟨c,2,none⟩ (.slice n (L.length+1) o)) c G g (.slice n (L.length+1) o) m D:=by simpa[dZ] using u
 have ao:aT (fun b=>b=c \/ (Value.slice j L.length k).ownBlock=some b) w (x.setCell ⟨c,2,none⟩ (.slice n (L.length+1) o)):=an.setCell (.inl (.inl rfl)) _;have aG:=ae ag;have aP:=ae ax;have aM:=ae ao;have aL:=ae al;have aK:=ae S;clear u ag ax ao al S an W K ad p V P N J;go_simp;refine cU rfl rfl (fun s i=>?_);go_simp;refine i _ _ ?_;clear i s;go_simp;refine cU rfl rfl (fun s i=>?_);go_simp;refine i _ _ ?_;clear i s;go_simp;apply bM;rfl;intro f O;go_simp;exact aF;refine cZ rfl rfl rfl (fun s i=>?_);go_simp;refine i _ _ ?_;clear i s;go_simp;refine dt ?_;clear aa k1 k2 Z f2;go_wp2_with fail;generalize x.setCell ⟨c,2,none⟩ (.slice n (L.length+1) o)=C at *;have u:=aG.out;have aS:c<C.heap.size:=u.lt;have q3:∀f,aJ C.drew f -> f.cell? ⟨c,3,none⟩=some (.int .i64 (m:Int)):=fun f hh=>by simpa using(Blk.keep u (w':=f) (hh.block c aS)).cell 3
 have c3:=u.drew.cell 3;have f3:=u.drew.free 3;simp at c3;have ai:=(u.set 3 (.int .i64 ((m:Int)+(takes l.length:Int)))).drew
 have ay:bX _ (C.setCell ⟨c,3,none⟩ (.int .i64 ((m:Int)+(takes l.length:Int)))).drew 0 (.slice n (L.length+1) o) (L++[l]):=aP.out.keep fun b d _=>by
  exact Below.heap_setCell _ ⟨c,3,none⟩ _ b (aK.out b (by simpa using d))
 have ar:aT (fun b=>b=c \/ (Value.slice j L.length k).ownBlock=some b) w (C.setCell ⟨c,3,none⟩ (.int .i64 ((m:Int)+(takes l.length:Int)))).drew:=(aM.out.setCell (.inl (.inl rfl)) _).drew;have aH:=ae ai;have X:=ae ay;have aN:=ae ar;clear ai ay ar u;have hw:=af ((m:Int)+(takes l.length:Int)) (by omega);refine dP aJ 10 (up 6 [506,7,8,9,510]) (by kernel_rfl) ?_;apply bM;rfl;intro f O;go_simp;exact aF;refine cU rfl rfl (fun s i=>?_);go_simp;refine(kW C.drew l.length (by omega)).mono ?_;rintro e f ⟨rfl,rfl⟩;refine⟨_,rfl,bF _,i _ _ ?_⟩;clear i s;go_simp;apply bM;rfl;intro f O;go_simp;exact aF;refine cZ rfl rfl rfl (fun s i=>?_);go_simp;refine i _ _ ?_;clear i s;go_simp;refine dt ?_;go_wp2_with fail
 go_end0
 refine⟨rfl,n,o,_,aH.out,X.out,aN.out,fun b d=>?_⟩;have az:(C.setCell ⟨c,3,none⟩ (.int .i64 ((m:Int)+(takes l.length:Int)))).drew.heap.size=C.heap.size:=by simp
 rcases d with d|d|d
 ·refine⟨?_,(X.out.own d).2.1⟩;rcases aL.out b d with h|h
  ·exact .inl (.inl h)
  ·exact .inr h
 ·exact⟨.inl (.inr d),by have:=(av b (.inr d)).2;rw[az];omega⟩
 ·exact⟨.inr d.1,by have:=d.2.1;rw[az];omega⟩
end
section
attribute [local go_sem] opC upC told bG br bH bt bw bI bJ
theorem fE(b:List (Nat×List UInt8)):∀M:MD,(bh M b).1.S.length=M.S.length /\ (bh M b).1.writes <= M.writes+b.length:=by
 induction b with
 |nil=>intro M;exact⟨rfl,aq _⟩
 |cons x b e=>
  intro M;obtain⟨a,s⟩:=x;have c:=nm M a s;unfold bh;split
  ·have d:=e (M.wr a s).1;simp only[aD];exact⟨d.1.trans c.1,by omega⟩
  ·simp only[aD];exact⟨c.1,by omega⟩
def jC(a:Bool)(n:Nat)(f:Int):Int:=if a then 341 else if 65536<n then 2 else if f<(takes n:Int) then 7 else 0
theorem mD{a:Bool}{f:Int}(h:jC a i f=0):a=false /\ i <= 65536 /\ (takes i:Int) <= f:=by
 unfold jC at h;cases a
 ·by_cases b:65536<i
  ·simp[b] at h
  ·by_cases c:f<(takes i:Int)
   ·simp[b,c] at h
   ·exact⟨rfl,by omega,by omega⟩
 ·simp at h
theorem uz(i q g s:Nat)(r:Value)(c:Bool)(o:dZ w i q g r s c)(F:aX)(v:Value)(l:List UInt8)(p:aO F w v l)(f:Nat)(y:f <= 65536):
 Calls aE 88 #[.pointer (some ⟨i,0,none⟩),v,.int .i64 (f:Int)] w fun e j=>e=.returned (.int .i64 (jC c l.length (f:Int))) /\ w=j:=by
 obtain⟨a,u,rfl,x,b,-,-⟩:=p;have m:=o.cell 4;simp at m;cases c with
 |true=>
  go_enter func88,ntmps88
  go_wp2_with fail
  go_ret
  exact⟨by simp[jC],rfl⟩
 |false=>
  rcases Nat.lt_or_ge 65536 l.length with d|d
  ·have n:(65536:Int)<(l.length:Int):=by omega
   have b:jC false l.length (f:Int)=2:=by simp[jC,d]
   rw[b]
   go_enter func88,ntmps88
   go_wp2_with fail
   all_goals
    first
    |omega
    |(go_ret;exact⟨rfl,rfl⟩)
  ·have n:(l.length:Int) <= 65536:=by omega
   have h:=kW w l.length (by omega);have z:takes l.length <= 65536:=by unfold takes;omega
   have b:jC false l.length (f:Int)=if(f:Int)<(takes l.length:Int) then 7 else 0:=by simp[jC,show ¬65536<l.length by omega]
   rw[b];clear b;generalize takes l.length=t at *;have k:=ae h;clear h
   go_enter func88,ntmps88
   go_wp2_with fail;refine k.out.mono ?_;rintro e j ⟨rfl,rfl⟩;go_wp2_with fail
   all_goals
    go_ret
    exact⟨fM (by first|rfl|(split<;>omega)),rfl⟩
def ft(F:aX)(jb:Nat)(w a:World):Prop:=bL F w a /\ ∀i,i<4 -> a.cell? ⟨jb,i,none⟩=w.cell? ⟨jb,i,none⟩
theorem wC(w:World):ft F n w w:=⟨fx F w,fun _ _=>rfl⟩
theorem uA(a b c:World)(h:ft F n a b)(k:ft F n b c):ft F n a c:=⟨ii F a b c h.1 k.1,fun i hi=>(k.2 i hi).trans (h.2 i hi)⟩
instance{F:aX}{jb:Nat}:Std.Refl (ft F jb):=⟨wC F jb⟩
instance{F:aX}{jb:Nat}:Trans (ft F jb) (ft F jb) (ft F jb):=⟨fun h k=>uA F jb _ _ _ h k⟩
theorem ft.of{a b g c:Nat}{d e:Bool}(j:dZ W a b g u c d)(k:dZ w' a b g u c e)(l:bL G W w'):ft G a W w':=by
 refine⟨l,fun i hi=>?_⟩;have f:=j.cell i;have h:=k.cell i;rw[f,h];have:i=0 \/ i=1 \/ i=2 \/ i=3:=by omega
 rcases this with rfl|rfl|rfl|rfl<;>rfl
theorem wD{M:MD}{J:MJ}(d:aM J.L <= aW M.S.length)(h:jC J.dead l.length ((aW M.S.length-aM J.L:Nat):Int)≠0):
 bQ M J l=(M,J,jC J.dead l.length ((aW M.S.length-aM J.L:Nat):Int)):=by
 unfold jC at *;unfold bQ
 by_cases a:J.dead=true
 ·simp[a]
 ·by_cases b:65536<l.length
  ·simp[a,b]
  ·by_cases c:aW M.S.length-aM J.L<takes l.length
   ·simp only[a,b,c];simp;omega
   ·exfalso;apply h;simp only[a,b];simp;omega
theorem yy{M:MD}{J:MJ}(d:aM J.L <= aW M.S.length)(h:jC J.dead l.length ((aW M.S.length-aM J.L:Nat):Int)=0):
 bQ M J l=if(bh M (aP M.S.length J.g J.L.length (aM J.L) l)).2=0 then((bh M (aP M.S.length J.g J.L.length (aM J.L) l)).1,{ J with L:=J.L++[l] },0) else((bh M (aP M.S.length J.g J.L.length (aM J.L) l)).1,{ J with dead:=true },(bh M (aP M.S.length J.g J.L.length (aM J.L) l)).2):=by
 obtain⟨a,b,c⟩:=mD h;unfold bQ;rw[if_neg (by simp[a]),if_neg (by omega),if_neg (by omega)]
theorem nu(s:JK)(M:MD)(J:MJ)(h:JAt w s M J)(F:aX)(v:Value)(l:List UInt8)(hv:aO F w v l)(hF:∀b,F b -> b<w.heap.size /\ ¬s.all b)(a0:¬s.all 0)(hq:de w)(hw:M.writes+65536<4611686018427387904):
 Calls aE 44 #[.pointer (some ⟨s.j,0,none⟩),v] w fun e k=>e=.returned (.int .i64 (bQ M J l).2.2) /\
  ∃Z,Z.j=s.j /\ Z.K.d=s.K.d /\ JAt k Z (bQ M J l).1 (bQ M J l).2.1 /\ (∀b,Z.all b -> s.all b \/ w.heap.size <= b) /\ aT s.all w k:=by
 obtain⟨jb,K,O⟩:=s;obtain⟨g,L,y⟩:=J;have a6:=h;obtain⟨Q,⟨C,D,R,U,hr,p⟩,⟨P,o⟩,h8,Y,ai,aI⟩:=h;dsimp only at *;have bk:=Q.le;have hH:aW M.S.length <= 32768:=by unfold aW;omega
 have bn:=dy l.length;have bg:=dB L;have ay:=rn w jb K.d g (.slice C L.length D) (aM L) y K M U Q rfl (by omega) Y;have bj:=U.lt;have ao:=ae ay;clear ay
 by_cases z:jC y l.length ((aW M.S.length-aM L:Nat):Int)=0
 ·have m:=yy (M:=M) (J:=⟨g,L,y⟩) Y z;obtain⟨a3,ak,a4⟩:=mD z;subst a3;dsimp only at m;have H:=fE (aP M.S.length g L.length (aM L) l) M;generalize be:bh M (aP M.S.length g L.length (aM L) l)=mw at *;obtain⟨M',r⟩:=mw;dsimp only at m H;have I:=ae m;clear m;have ax:aM L+takes l.length <= aW M.S.length:=by omega
  have ag:(aW M.S.length-aM L:Nat) <= 65536:=by omega
  have bf:(L.length:Int) <= 65536:=by omega
  have Hc:=ae z;clear z a4;generalize hf:(aW M.S.length-aM L:Nat)=f at *;have bd:aM L <= 65536:=by omega
  go_enter func44,ntmps44
  go_wp2_with fail;refine ao.out.mono ?_;rintro e t ⟨rfl,n,rfl⟩;have x:dZ (w.drewN n) jb K.d g (.slice C L.length D) (aM L) false:=U.keep rfl;have an:aO F (w.drewN n) v l:=hv.keep fun _ _ _=>rfl
  have av:bT (w.drewN n) K M:=Q.keep fun _ _=>rfl
  have a8:aT (et K jb) w (w.drewN n):=(aT.refl _ _).drewN n;have ba:de (w.drewN n):=hq;have bl:(w.drewN n).heap.size=w.heap.size:=rfl;generalize w.drewN n=t at *;go_wp2_with fail;refine(uz t jb K.d g (aM L) _ false x F v l an f ag).mono ?_;rintro e k ⟨rfl,rfl⟩;rw[Hc.out];have al:=tu t.drew jb K.d g (aM L) _ K M g L.length (aM L) v l F (an.keep fun _ _ _=>rfl) (fun b a=>⟨by have:=(hF b a).1;show b<t.heap.size;omega,fun h=>(hF b a).2 (by rcases h with h|h;exact .inr (.inl h);exact .inl h)⟩) (fun h=>a0 (by rcases h with h|h;exact .inr (.inl h);exact .inl h)) (x.keep rfl) (av.keep fun _ _=>rfl) rfl P ba ai (by omega) ak (by omega) ax (by omega);rw[be] at al;have aZ:=ae al;clear al;have q1:∀k,ft (et K jb) jb t.drew k -> k.cell? ⟨jb,1,none⟩=some (.int .u32 (g:Int)):=fun k hh=>(hh.2 1 (by omega)).trans (by simpa using x.drew.cell 1)
  have q2:∀k,ft (et K jb) jb t.drew k -> k.cell? ⟨jb,2,none⟩=some (.slice C L.length D):=fun k hh=>(hh.2 2 (by omega)).trans (by simpa using x.drew.cell 2)
  have q3:∀k,ft (et K jb) jb t.drew k -> k.cell? ⟨jb,3,none⟩=some (.int .i64 (aM L:Int)):=fun k hh=>(hh.2 3 (by omega)).trans (by simpa using x.drew.cell 3)
  have az:=x.drew;have aS:=ae az;go_wp2_with fail;clear x an av az;refine bS (ft (et K jb) jb) (up 15 [515,16]) (by kernel_rfl) ?_;apply aG;rfl;intro k hC;go_simp;exact aF;refine bq rfl rfl (fun KK hK=>?_);go_simp;refine aZ.out.mono ?_;rintro e E ⟨rfl,⟨K',N,q,T⟩,G,A⟩;refine⟨_,rfl,ft.of aS.out G A,hK _ _ ?_⟩;clear hK KK q1 q2 q3;go_simp;apply aG;rfl;intro k hC;go_simp;exact aF;refine aY ?_
  have a9:aT (et K jb) t E:=⟨A.os,A.tape,A.output,A.size,A.block⟩
  have B:aT (et K jb) w E:=a8.trans a9 fun i hi=>.inl hi
  have bm:=B.size
  have a7:∀b,O b -> ¬et K jb b:=fun b a h=>by
   rcases h with h|h
   ·exact(o b a).2.1 h
   ·exact(o b a).1 h
  have X:=hr.only B fun b a=>a7 b (p b a)
  have V:aT (fun b=>b=jb \/ K.foot b \/ O b) w E:=B.mono fun b a=>by
   rcases a with a|a
   ·exact .inr (.inl a)
   ·exact .inl a
  by_cases W:r=0
  ·subst W;have m:=I.out;rw[if_pos rfl] at m;have aH:dZ E jb K.d g (.slice C L.length D) (aM L) false:=by simpa using G
   have aL:aO F E v l:=hv.only B fun b a h=>(hF b a).2 (by rcases h with h|h;exact .inr (.inl h);exact .inl h)
   have ar:=uy E jb K.d g (aM L) _ false R L aH X (fun b a=>⟨(o b (p b a)).1,by have:=(o b (p b a)).2.2;omega⟩) F v l aL ak (by omega) bd;have aR:=ae ar;have aa:=ae T;have ab:=ae V;clear ar T G aH X aL V B;go_wp2_with fail;refine aR.out.mono ?_;rintro e w4 ⟨rfl,aN,aQ,R',a5,bb,aJ,aK⟩;go_wp2_with fail
   go_ret
   rw[m];have bi:∀b,(Value.slice C L.length D).ownBlock=some b \/ R b -> O b:=p
   have a1:=Q.lt;refine⟨rfl,⟨jb,K',fun b=>(Value.slice aN (L.length+1) aQ).ownBlock=some b \/ R' b⟩,rfl,N,?_,?_,?_⟩
   ·refine⟨?_,⟨aN,aQ,R',?_,?_,fun b a=>by simpa using a⟩,⟨fun hh=>P (q _ hh),fun b a=>?_⟩,by rw[H.1];exact h8,?_,ai,?_⟩
    ·exact aa.out.only aJ fun b a h=>by
      rcases h with h|h
      ·exact P (h▸q b a)
      ·exact(o b (p b (.inl h))).2.1 (q b a)
    ·rw[d9];rw[N];simpa using a5
    ·simpa using bb
    ·obtain⟨u,h2⟩:=aK b a;rcases u with u|u
     ·exact⟨(o b (p b u)).1,fun h=>(o b (p b u)).2.1 (q b h),h2⟩
     ·exact⟨by show b≠jb;omega,fun h=>by have:=a1 b (q b h);omega,h2⟩
    ·show aM (L++[l]) <= aW M'.S.length;rw[d9,H.1];exact ax
    ·intro b a;rcases List.mem_append.1 a with a|a
     ·exact aI b a
     ·obtain rfl:=List.mem_singleton.1 a;exact ak
   ·rintro b (a|a|a)
    ·exact .inl (.inl a)
    ·exact .inl (.inr (.inl (q b a)))
    ·rcases(aK b a).1 with u|u
     ·exact .inl (.inr (.inr (p b u)))
     ·exact .inr (by omega)
   ·exact ab.out.trans aJ fun i hi=>.inl (by
     rcases hi with hi|hi
     ·exact .inl hi
     ·exact .inr (.inr (p i (.inl hi))))
  ·have m:=I.out;rw[if_neg W] at m;have bc:(r != 0)=true:=bne_iff_ne.2 W;have aa:=ae T;have aU:=ae G;have aV:=ae X;have ab:=ae V;clear T G X V B;go_wp2_with fail
   go_ret
   rw[m];refine⟨rfl,⟨jb,K',O⟩,rfl,N,⟨aa.out,⟨C,D,R,?_,aV.out,p⟩,⟨fun hh=>P (q _ hh),fun b a=>⟨(o b a).1,fun h=>(o b a).2.1 (q b h),by have:=(o b a).2.2;omega⟩⟩,by rw[H.1];exact h8,by rw[H.1];exact Y,ai,aI⟩,?_,ab.out⟩
   ·rw[N];simpa[W] using aU.out
   ·rintro b (a|a|a)
    ·exact .inl (.inl a)
    ·exact .inl (.inr (.inl (q b a)))
    ·exact .inl (.inr (.inr a))
 ·have m:=wD (M:=M) (J:=⟨g,L,y⟩) Y z;have ag:(aW M.S.length-aM L:Nat) <= 65536:=by omega
  dsimp only at m;have I:=ae m;clear m;generalize hf:(aW M.S.length-aM L:Nat)=f at *;generalize a2:jC y l.length (f:Int)=c at *;have bc:(c != 0)=true:=bne_iff_ne.2 z
  go_enter func44,ntmps44
  go_wp2_with fail;refine ao.out.mono ?_;rintro e t ⟨rfl,n,rfl⟩;go_wp2_with fail;have ad:=uz (w.drewN n) jb K.d g (aM L) _ y (U.keep rfl) F v l (hv.keep fun _ _ _=>rfl) f ag;rw[a2] at ad;refine ad.mono ?_;rintro e k ⟨rfl,rfl⟩;clear ad;go_wp2_with fail
  go_ret
  rw[I.out];exact⟨rfl,⟨jb,K,O⟩,rfl,rfl,a6.keep (fun _ _=>rfl) (aq _),fun b a=>.inl a,(aT.refl _ _).drewN n⟩
end
section
attribute [local go_sem] opC upC told bG br bH bt bw bI bJ
def j0(n g:Nat):Nat:=if g<4294967295 then aW n else 0
theorem uB{M:MD}{J:MJ}(h:jC J.dead l.length (j0 M.S.length J.g:Nat)≠0):
 cw M J l=(M,J,jC J.dead l.length (j0 M.S.length J.g:Nat)):=by
 unfold jC j0 at *;unfold cw;have e:=dy l.length
 by_cases a:J.dead=true
 ·simp[a]
 ·by_cases b:65536<l.length
  ·simp[a,b]
  ·by_cases d:aW M.S.length<takes l.length \/ 4294967295 <= J.g
   ·simp only[a,b,d];simp
    by_cases c:J.g<4294967295
    ·rw[if_pos c];omega
    ·rw[if_neg c];omega
   ·exfalso;apply h;simp only[a,b];simp;split<;>omega
def ce(n g:Nat)(l:List UInt8):List (Nat×List UInt8):=aP n (g+1) 0 0 l++[((g+1)%2,cP (g+1))]
theorem wE{M:MD}{J:MJ}(h:jC J.dead l.length (j0 M.S.length J.g:Nat)=0):
 J.g<4294967295 /\ takes l.length <= aW M.S.length /\ cw M J l=if(bh M (ce M.S.length J.g l)).2=0 then((bh M (ce M.S.length J.g l)).1,⟨J.g+1,[l],false⟩,0) else((bh M (ce M.S.length J.g l)).1,{ J with dead:=true },(bh M (ce M.S.length J.g l)).2):=by
 obtain⟨c,d,b⟩:=mD h;have e:=dy l.length;unfold j0 at b
 have a:J.g<4294967295:=by
  by_cases a:J.g<4294967295
  ·exact a
  ·rw[if_neg a] at b;omega
 rw[if_pos a] at b;refine⟨a,by omega,?_⟩;unfold cw ce;rw[if_neg (by simp[c]),if_neg (by omega),if_neg (by omega)]
theorem wG(A:JK)(M:MD)(J:MJ)(h:JAt w A M J)(F:aX)(v:Value)(l:List UInt8)(hv:aO F w v l)(hF:∀b,F b -> b<w.heap.size /\ ¬A.all b)(bd:¬A.all 0)(hq:de w)(hw:M.writes+65536<4611686018427387904):
 Calls aE 82 #[.pointer (some ⟨A.j,0,none⟩),v] w fun e n=>e=.returned (.int .i64 (cw M J l).2.2) /\
  ∃aK,aK.j=A.j /\ aK.K.d=A.K.d /\ JAt n aK (cw M J l).1 (cw M J l).2.1 /\ (∀b,aK.all b -> A.all b \/ w.heap.size <= b) /\ aT A.all w n:=by
 obtain⟨jb,K,O⟩:=A;obtain⟨g,L,y⟩:=J;have bl:=h;obtain⟨hd,⟨T,U,R,hj,hr,ay⟩,⟨Q,I⟩,h8,cc,bi,bm⟩:=h;dsimp only at *;have ca:=hd.le;have hH:aW M.S.length <= 32768:=by unfold aW;omega
 have ci:=dy l.length;have b9:=hj.lt;have bj:=ou w jb K.d g (.slice T L.length U) (aM L) y K M hj hd rfl (by omega);have bb:=ae bj;clear bj;have c1:=hj.cell 1;simp at c1;have bW:∀x:Int,x=(j0 M.S.length g:Nat) -> jC y l.length x=jC y l.length (j0 M.S.length g:Nat):=fun x hx=>by rw[hx]
 have W:∀f:Nat,f=j0 M.S.length g -> Calls aE 88 #[.pointer (some ⟨jb,0,none⟩),v,.int .i64 (f:Int)] w fun e n=>e=.returned (.int .i64 (jC y l.length (j0 M.S.length g:Nat))) /\ w=n:=fun f hf=>by
  subst hf;exact uz w jb K.d g (aM L) _ y hj F v l hv _ (by unfold j0;split<;>omega)
 by_cases V:jC y l.length (j0 M.S.length g:Nat)=0
 ·obtain⟨ad,b8,m⟩:=wE (M:=M) (J:=⟨g,L,y⟩) V;obtain⟨bO,a3,-⟩:=mD V;subst bO;dsimp only at m ad;have z:=W (aW M.S.length) (by unfold j0;rw[if_pos ad]);rw[V] at z;have Z:=ae z;clear z W bW V;have aZ:(g:Int)<4294967295:=by omega
  have a4:=fE (aP M.S.length (g+1) 0 0 l) M;have an:=fE (ce M.S.length g l) M;have s:=iY M (aP M.S.length (g+1) 0 0 l) [((g+1)%2,cP (g+1))];change bh M (ce M.S.length g l)=_ at s;have cb:(aP M.S.length (g+1) 0 0 l).length <= 32768:=by simp[aP];omega
  have aI:=tu w jb K.d g (aM L) _ K M (g+1) 0 0 v l F hv (fun b k=>⟨(hF b k).1,fun h=>(hF b k).2 (by rcases h with h|h;exact .inr (.inl h);exact .inl h)⟩) (fun h=>bd (by rcases h with h|h;exact .inr (.inl h);exact .inl h)) hj hd rfl Q hq (by omega) (by omega) a3 (by omega) (by omega) (by omega);generalize bh M (ce M.S.length g l)=mr at *;generalize b2:bh M (aP M.S.length (g+1) 0 0 l)=mw at *;obtain⟨D,r⟩:=mw;dsimp only at a4 s aI;rw[show((g+1:Nat):Int)=(g:Int)+1 by omega] at aI;have bJ:=ae aI;have Y:=ae m;have bc:=ae s;clear aI m s b2;generalize b6:aW M.S.length=H at *;have b5:(H:Int) <= 32768:=by omega
  have cj:=aj ((g:Int)+1) (by omega);have bZ:=am ((g:Int)+1) 2 (by omega);have b0:=aj (((g:Int)+1)%2) (by omega);have b1:=af (((g:Int)+1)%2) (by omega)
  go_enter func82,ntmps82
  go_wp2_with fail;refine bb.out.mono ?_;rintro e n ⟨rfl,rfl⟩;go_wp2_with fail;refine Z.out.mono ?_;rintro e n ⟨rfl,rfl⟩;go_wp2_with fail;refine bJ.out.mono ?_;rintro e q ⟨rfl,⟨C,aU,p,ab⟩,av,ak⟩;have cg:=ak.size
  have bn:∀b,O b -> ¬et K jb b:=fun b k h=>by
   rcases h with h|h
   ·exact(I b k).2.1 h
   ·exact(I b k).1 h
  have az:=hr.only ak fun b k=>bn b (ay b k)
  have ax:aT (fun b=>b=jb \/ K.foot b \/ O b) w q:=ak.mono fun b k=>by
   rcases k with k|k
   ·exact .inr (.inl k)
   ·exact .inl k
  by_cases u:r=0
  ·subst u;have m:=Y.out;have s:=bc.out;rw[if_pos rfl] at s;have bR:bh D [((g+1)%2,cP (g+1))]=D.wr ((g+1)%2) (cP (g+1)):=e7 D [] _ _ rfl;rw[bR] at s;have a1:dZ q jb K.d g (.slice T L.length U) (aM L) false:=by simpa using av
   have bv:aO F q v l:=hv.only ak fun b k h=>(hF b k).2 (by rcases h with h|h;exact .inr (.inl h);exact .inl h)
   have bs:de q:=hq.keep (ak.block 0 (by obtain⟨t,fz,hh⟩:=hq;exact lt_of_block hh) fun h=>bd (by rcases h with h|h;exact .inr (.inl h);exact .inl h));have b3:0<w.heap.size:=by obtain⟨t,fz,hh⟩:=hq;exact lt_of_block hh
   have a0:=wy q.drew bs (by show 0<q.heap.size;omega) (g+1) (by omega);have a2:=a1.drew;have bg:bT q.drew C D:=ab.keep fun _ _=>rfl
   have bx:aO F q.drew v l:=bv.keep fun _ _ _=>rfl
   have bu:bX R q.drew 0 (.slice T L.length U) L:=az.keep fun _ _ _=>rfl
   have bp:aT (fun b=>b=jb \/ K.foot b \/ O b) w q.drew:=ax.drew
   have bQ:∀b,et C jb b -> b<q.heap.size:=fun b k=>by
    rcases k with k|k
    ·exact ab.lt b k
    ·rw[k];exact a1.lt
   have bU:∀n,ft (et C jb) jb q.drew n -> n.cell? ⟨jb,1,none⟩=some (.int .u32 (g:Int)):=fun n hh=>(hh.2 1 (by omega)).trans (by simpa using a2.cell 1)
   rw[show((g+1:Nat):Int)=(g:Int)+1 by omega] at a0;have bE:=ae a0;have aa:=ae a2;have aN:=ae bg;have bK:=ae bx;have aR:=ae bu;have aQ:=ae bp;clear a0 a2 bg bx bu bp av a1 ab bv bs az ax c1;go_wp2_with fail;refine bS (ft (et C jb) jb) (up 13 [513,514,15]) (by kernel_rfl) ?_;apply aG;rfl;intro n hC;go_simp;(repeat (simp(disch:=omega) only[af,aj,ap,ah,am,if_pos];go_simp));exact aF;refine bq rfl rfl (fun KK hK=>?_);go_simp;refine bE.out.mono ?_;rintro e w4 ⟨sb,rfl,bY,a9,N⟩;have ag:dZ w4 jb K.d g (.slice T L.length U) (aM L) false:=Blk.keep aa.out (N.block jb (Blk.lt aa.out));refine⟨_,rfl,ft.of aa.out ag (bL.of_below N),hK _ _ ?_⟩;clear hK KK;go_simp;have aV:bT w4 C D:=aN.out.kept N;have aJ:=ro w4 jb K.d g _ (aM L) false C D ag aV aU (fun h=>Q (p _ h)) ((g+1)%2) (by omega) (by omega) sb _ a9 (fun h=>by have:=bQ sb (.inl h);have:q.heap.size <= sb:=bY;omega);rw[show(((g+1)%2:Nat):Int)=((g:Int)+1)%2 by omega] at aJ;generalize D.wr ((g+1)%2) (cP (g+1))=mq at *;obtain⟨M5,r⟩:=mq;dsimp only at aJ;subst s;dsimp only at m an;have bM:=ae aJ;clear aJ;apply aG;rfl;intro n hC;go_simp;(repeat (simp(disch:=omega) only[af,aj,ap,ah,am,if_pos];go_simp));exact aF;refine bq rfl rfl (fun KK hK=>?_);go_simp;refine bM.out.mono ?_;rintro e B ⟨rfl,⟨K5,ao,E,ar⟩,ai,X,cd⟩;have aS:ft (et C jb) jb w4 B:=ft.of ag ai X;refine⟨_,rfl,aS,hK _ _ ?_⟩;clear hK KK bU;go_simp;apply aG;rfl;intro n hC;go_simp;exact aF;refine aY ?_;have ba:aO F B v l:=(aO.keep bK.out (w':=w4) (fun b k _=>N.block b (by have:=(hF b k).1;show b<q.heap.size;omega))).only X fun b k h=>(hF b k).2 (by rcases h with h|h;exact .inr (.inl (p b h));exact .inl h)
   have a8:=(aR.out.kept N).only X fun b k h=>bn b (ay b k) (h.imp (p b) id)
   have al:aT (fun b=>b=jb \/ K.foot b \/ O b) w B:=(aQ.out.trans (aT.of_below (F:=none_) N) (fun i hi=>hi.elim)).trans X fun i hi=>.inl (by
    rcases hi with hi|hi
    ·exact .inr (.inl (p i hi))
    ·exact .inl hi)
   have ch:=al.size
   by_cases u:r=0
   ·subst u;rw[if_pos rfl] at m;have aL:=ae m;clear m;have P:dZ B jb K.d g (.slice T L.length U) (aM L) false:=by simpa using ai
    have c1:=P.cell 1;have c2:=P.cell 2;have c3:=P.cell 3;have f1:=P.free 1;have f2:=P.free 2;have f3:=P.free 3;simp at c1 c2 c3
    have bk:dZ (((B.setCell ⟨jb,1,none⟩ (.int .u32 ((g:Int)+1))).setCell ⟨jb,2,none⟩ (.slice none 0 0)).setCell ⟨jb,3,none⟩ (.int .i64 0)) jb K.d (g+1) (.slice none 0 0) 0 false:=by
     have:=((P.set 1 (.int .u32 ((g:Int)+1))).set 2 (.slice none 0 0)).set 3 (.int .i64 0);simpa[dZ] using this
    have a7:∀{G:aX}{a:World},G jb -> aT G a B -> aT G a (((B.setCell ⟨jb,1,none⟩ (.int .u32 ((g:Int)+1))).setCell ⟨jb,2,none⟩ (.slice none 0 0)).setCell ⟨jb,3,none⟩ (.int .i64 0)):=fun hG ho=>((ho.setCell (.inl hG) _).setCell (.inl hG) _).setCell (.inl hG) _
    have a5:aT (fun b=>b=jb) B (((B.setCell ⟨jb,1,none⟩ (.int .u32 ((g:Int)+1))).setCell ⟨jb,2,none⟩ (.slice none 0 0)).setCell ⟨jb,3,none⟩ (.int .i64 0)):=a7 rfl (aT.refl _ _);have a6:=a7 (.inl rfl) al;have bf:=ar.only a5 fun b k e=>Q (e▸p b (E b k))
    have bw:=ba.only a5 fun b k e=>(hF b k).2 (.inl e)
    have be:=uy _ jb K.d (g+1) 0 _ false none_ [] bk (bX.nil _ 0) (fun b k=>by rcases k with k|k;exact absurd k (by simp[Value.ownBlock]);exact k.elim) F v l bw a3 (by simp) (by omega);have bB:=ae be;have bH:=ae a6;have bD:=ae bf;have cf:=a6.size;clear be a6 bf a7 a5 bw bk al a8 ba ar ai P aS X aV a9 N ag aZ bZ b0 b1;go_wp2_with fail;refine bB.out.mono ?_;rintro e w7 ⟨rfl,bz,bA,R',bP,bV,bo,br⟩;go_wp2_with fail
    go_ret
    rw[aL.out];have bN:=hd.lt;refine⟨rfl,⟨jb,K5,fun b=>(Value.slice bz (([]:List (List UInt8)).length+1) bA).ownBlock=some b \/ R' b⟩,rfl,ao,?_,?_,?_⟩
    ·refine⟨?_,⟨bz,bA,R',?_,?_,fun b k=>by simpa using k⟩,⟨fun hh=>Q (p _ (E _ hh)),fun b k=>?_⟩,by rw[an.1];exact h8,?_,by show g+1<_;omega,?_⟩
     ·exact bD.out.only bo fun b k h=>by
       rcases h with h|h
       ·exact Q (h▸p b (E b k))
       ·simp[Value.ownBlock] at h
     ·rw[ao];simpa[aM] using bP
     ·simpa using bV
     ·obtain⟨o,h2⟩:=br b k
      have b4:w.heap.size <= b:=by
       rcases o with o|o
       ·rcases o with o|o
        ·simp[Value.ownBlock] at o
        ·exact o.elim
       ·omega
      exact⟨by show b≠jb;omega,fun h=>by have:=bN b (p b (E b h));omega,h2⟩
     ·show aM [l] <= aW M5.S.length;rw[an.1];simp[aM];omega
     ·intro b k;obtain rfl:=List.mem_singleton.1 k;exact a3
    ·rintro b (k|k|k)
     ·exact .inl (.inl k)
     ·exact .inl (.inr (.inl (p b (E b k))))
     ·rcases(br b k).1 with o|o
      ·rcases o with o|o
       ·simp[Value.ownBlock] at o
       ·exact o.elim
      ·exact .inr (by omega)
    ·exact bH.out.trans bo fun i hi=>.inl (by
      rcases hi with hi|hi
      ·exact .inl hi
      ·simp[Value.ownBlock] at hi)
   ·rw[if_neg u] at m;have aL:=ae m;clear m;have bt:(r != 0)=true:=bne_iff_ne.2 u;have bC:=ae ar;have bF:=ae ai;have bI:=ae a8;have bG:=ae al;clear ar ai a8 al ba aS X aV a9 N ag;go_wp2_with fail
    go_ret
    rw[aL.out];refine⟨rfl,⟨jb,K5,O⟩,rfl,ao,⟨bC.out,⟨T,U,R,?_,bI.out,ay⟩,⟨fun hh=>Q (p _ (E _ hh)),fun b k=>⟨(I b k).1,fun h=>(I b k).2.1 (p b (E b h)),by have:=(I b k).2.2;omega⟩⟩,by rw[an.1];exact h8,?_,bi,bm⟩,?_,bG.out⟩
    ·rw[ao];simpa[u] using bF.out
    ·show aM L <= aW M5.S.length;rw[an.1];omega
    ·rintro b (k|k|k)
     ·exact .inl (.inl k)
     ·exact .inl (.inr (.inl (p b (E b k))))
     ·exact .inl (.inr (.inr k))
  ·have m:=Y.out;have s:=bc.out;rw[if_neg u] at s;subst s;dsimp only at m;rw[if_neg u] at m;have bt:(r != 0)=true:=bne_iff_ne.2 u;have aN:=ae ab;have aa:=ae av;have aR:=ae az;have aQ:=ae ax;clear ab av az ax c1;go_wp2_with fail
   go_ret
   rw[m];refine⟨rfl,⟨jb,C,O⟩,rfl,aU,⟨aN.out,⟨T,U,R,?_,aR.out,ay⟩,⟨fun hh=>Q (p _ hh),fun b k=>⟨(I b k).1,fun h=>(I b k).2.1 (p b h),by have:=(I b k).2.2;omega⟩⟩,by rw[a4.1];exact h8,?_,bi,bm⟩,?_,aQ.out⟩
   ·rw[aU];simpa[u] using aa.out
   ·show aM L <= aW D.S.length;rw[a4.1];omega
   ·rintro b (k|k|k)
    ·exact .inl (.inl k)
    ·exact .inl (.inr (.inl (p b k)))
    ·exact .inl (.inr (.inr k))
 ·have m:=uB (M:=M) (J:=⟨g,L,y⟩) V;dsimp only at m;have Y:=ae m;clear m;have aH:j0 M.S.length g=if g<4294967295 then aW M.S.length else 0:=rfl
  generalize b7:jC y l.length (j0 M.S.length g:Nat)=c at *;have bt:(c != 0)=true:=bne_iff_ne.2 V
  by_cases ad:g<4294967295
  ·have z:=W (aW M.S.length) (by rw[aH,if_pos ad]);have Z:=ae z;have aZ:(g:Int)<4294967295:=by omega
   clear z W aH;generalize aW M.S.length=H at *
   go_enter func82,ntmps82
   go_wp2_with fail;refine bb.out.mono ?_;rintro e n ⟨rfl,rfl⟩;go_wp2_with fail;refine Z.out.mono ?_;rintro e n ⟨rfl,rfl⟩;go_wp2_with fail
   go_ret
   rw[Y.out];exact⟨rfl,⟨jb,K,O⟩,rfl,rfl,bl,fun b k=>.inl k,aT.refl _ _⟩
  ·have z:=W 0 (by rw[aH,if_neg ad]);have Z:=ae z;have aZ:¬((g:Int)<4294967295):=by omega
   clear z W aH
   go_enter func82,ntmps82
   go_wp2_with fail;refine Z.out.mono ?_;rintro e n ⟨rfl,rfl⟩;go_wp2_with fail
   go_ret
   rw[Y.out];exact⟨rfl,⟨jb,K,O⟩,rfl,rfl,bl,fun b k=>.inl k,aT.refl _ _⟩
end
end Go.Proofs.YtobjdpngnfbicaaGreatDoor
