/-
  RSearch RCheck
-/
import Derived.Test.YtobjdpngnfbicaaGreatDoorZP03
open Go.IntWalk renaming i64_in->af
open Nat renaming le_refl->aq,le_trans->au,lt_of_lt_of_le->aw
open List renaming getElem_mem->aC
open Go.Proofs.Tryz renaming prog->aE
set_option maxHeartbeats 6000000
set_option maxRecDepth 100000
set_option linter.all false
namespace Go.Proofs.YtobjdpngnfbicaaGreatDoor
open Go.RowKit
open Go.Proofs.Tryz
variable(w:World)(F:aQ)(v:Value)(b:List UInt8)(m:aT){i j o:Nat}{r:aT}
section
attribute [local go_sem] opC upC told bE bm bF bp bq bG bH
theorem rO:
 Calls aE 209 #[.string ⟨b.toArray⟩] w λe c=>e=.returned (.bool false) /\ w=c:=by
 go_enter func209,ntmps209
 go_wp2
 go_ret
 exact⟨rfl,rfl⟩
def xJ(a b:bQ):Int:=if a<b then -1 else if b<a then 1 else 0
theorem C1(a b:List UInt8):
 Calls aE 208 #[.string ⟨a.toArray⟩,.string ⟨b.toArray⟩] w λe c=>e=.returned (.int .i64 (xJ a b)) /\ w=c:=by
 have⟨f,h⟩:=ae2 (rO w a) (rO w b);unfold xJ
 by_cases d:a<b
 ·rw[if_pos d];have i:Op.bytesLess a b=true:=by rw[Go.Proofs.bytesLess_eq];simpa using d
  go_enter func208,ntmps208
  go_wp2_with fail;refine f.x.mono ?_;rintro e c ⟨rfl,rfl⟩;go_wp2_with fail
  first
  |(refine h.x.mono ?_;rintro e c ⟨rfl,rfl⟩)
  |(refine f.x.mono ?_;rintro e c ⟨rfl,rfl⟩)
  go_wp2
  go_ret
  exact⟨rfl,rfl⟩
 rw[if_neg d];have i:Op.bytesLess a b=false:=by rw[Go.Proofs.bytesLess_eq];simpa using d
 by_cases g:b<a
 ·rw[if_pos g];have j:(a == b)=false:=by simp;rintro rfl;exact ll _ g
  clear d g
  go_enter func208,ntmps208
  go_wp2_with fail;refine f.x.mono ?_;rintro e c ⟨rfl,rfl⟩;go_wp2_with fail
  first
  |(refine h.x.mono ?_;rintro e c ⟨rfl,rfl⟩)
  |(refine f.x.mono ?_;rintro e c ⟨rfl,rfl⟩)
  go_wp2
  go_ret
  exact⟨rfl,rfl⟩
 ·rw[if_neg g];obtain rfl:=u9 d g;clear d g
  go_enter func208,ntmps208
  go_wp2_with fail;refine f.x.mono ?_;rintro e c ⟨rfl,rfl⟩;go_wp2_with fail
  first
  |(refine h.x.mono ?_;rintro e c ⟨rfl,rfl⟩)
  |(refine f.x.mono ?_;rintro e c ⟨rfl,rfl⟩)
  go_wp2
  go_ret
  exact⟨rfl,rfl⟩
def plV(p:RPl):Value:=.agg #[.string ⟨p.1.toArray⟩,.int .i64 p.2]
theorem AK(x y:Int)(a:World)(c:a=w.alloc (.cells #[.int .i64 x,.int .i64 y] 3)):
 Calls aE 171 #[.slice (some ⟨w.heap.size,0,none⟩) 2 2] a λe k=>e=.returned (.int .i64 (if x=0 then y else x)) /\ a=k:=by
 have h:a.cell? ⟨w.heap.size,0,none⟩=some (.int .i64 x):=by
  have:=(Blk.new w #[.int .i64 x,.int .i64 y] 3).cell 0;rw[c];simp
 have j:a.cell? ⟨w.heap.size,1,none⟩=some (.int .i64 y):=by
  have:=(Blk.new w #[.int .i64 x,.int .i64 y] 3).cell 1;rw[c];simp
 clear c;obtain⟨g,f⟩:=aH w.heap.size;rw[f] at h j⊢;clear f
 by_cases b:x=0
 ·subst b;rw[if_pos rfl]
  go_enter func171,ntmps171
  go_wp2
  go_loop [8] (λi=>i=.int .i64 0 \/ i=.int .i64 1 \/ (y=0 /\ i=.int .i64 2)) (λi=>2-(intOf i).toNat)
  ·exact .inl rfl
  ·rcases hrel with rfl|rfl|⟨rfl,rfl⟩
   ·go_wp2_with fail;exact⟨.inr (.inl rfl),by simp[intOf]⟩
   ·by_cases d:y=0
    ·subst d;go_wp2_with fail;exact⟨by simp,by simp[intOf]⟩
    ·have m:(y != 0)=true:=by simp[d]
     clear d;go_wp2
     go_ret
     exact⟨rfl,rfl⟩
   ·go_wp2
    go_ret
    exact⟨rfl,rfl⟩
 ·rw[if_neg b];have l:(x != 0)=true:=by simp[b]
  clear b
  go_enter func171,ntmps171
  go_wp2
  go_loop [8] (λi=>i=.int .i64 0) (λi=>2-(intOf i).toNat)
  ·rfl
  ·subst hrel;go_wp2
   go_ret
   exact⟨rfl,rfl⟩
theorem Ez(p q:RPl):ij p q=if xJ p.1 q.1=0 then Lib.compareInt p.2 q.2 else xJ p.1 q.1:=by
 unfold ij xJ Lib.compareInt plt
 by_cases b:p.1<q.1
 ·simp[b]
 ·by_cases a:q.1<p.1
  ·have c:p.1≠q.1:=λe=>ll q.1 (by rw[e] at a;exact a)
   simp[b,a,c]
  ·have e:=u9 b a;have hi:=ll q.1;simp[e,hi]
theorem j7(p q:RPl):
 Calls aE 167 #[plV p,plV q] w λe a=>e=.returned (.int .i64 (ij p q)) /\ Kpt w a:=by
 obtain⟨c,h⟩:=aP ((w.alloc (.cells #[.string ⟨p.1.toArray⟩,.int .i64 p.2] 174)).alloc (.cells #[.string ⟨q.1.toArray⟩,.int .i64 q.2] 174));have r:Kpt w c:=by rw[h];exact(aI _ _).alloc (by simp) _
 have g:=(Blk.new w #[.string ⟨p.1.toArray⟩,.int .i64 p.2] 174).alloc (.cells #[.string ⟨q.1.toArray⟩,.int .i64 q.2] 174);have f:=Blk.new (w.alloc (.cells #[.string ⟨p.1.toArray⟩,.int .i64 p.2] 174)) #[.string ⟨q.1.toArray⟩,.int .i64 q.2] 174;rw[<- h] at g f;have s:(w.alloc (.cells #[.string ⟨p.1.toArray⟩,.int .i64 p.2] 174)).heap.size=w.heap.size+1:=by simp
 rw[s] at f;have v:∀a,aK c.drew a -> a.cell? ⟨w.heap.size,0,none⟩=some (.string ⟨p.1.toArray⟩):=λa hh=>bh (by simpa using g.cell 0) hh
 have x:∀a,aK c.drew a -> a.cell? ⟨w.heap.size,1,none⟩=some (.int .i64 p.2):=λa hh=>bh (by simpa using g.cell 1) hh
 have y:∀a,aK c.drew a -> a.cell? ⟨w.heap.size+1,0,none⟩=some (.string ⟨q.1.toArray⟩):=λa hh=>bh (by simpa using f.cell 0) hh
 have z:∀a,aK c.drew a -> a.cell? ⟨w.heap.size+1,1,none⟩=some (.int .i64 q.2):=λa hh=>bh (by simpa using f.cell 1) hh
 have⟨u,o,m⟩:=ae3 h (C1 c.drew p.1 q.1) (Tryz.cmp_Compare_int p.2 q.2 c.drew);clear g f s h;unfold plV
 go_enter func167,ntmps167
 go_wp2_with fail;rw[<- u.x];refine bP aK (up 4 [5,6,7,8,504,509,510,511,12]) (by kernel_rfl) ?_;apply aG;rfl;intro a j;go_simp;exact aF
 repeat (apply bK;rfl;rfl;go_simp;go_simp;rfl;apply aG;rfl;intro a j;go_simp;exact aF)
 clear v x y z;refine aY rfl rfl (λd b=>?_);go_simp;refine o.x.mono ?_;rintro e a ⟨rfl,rfl⟩;refine⟨_,rfl,aZ _,b _ _ ?_⟩;clear b d;go_simp;refine aY rfl rfl (λd b=>?_);go_simp;refine m.x.mono ?_;rintro e a ⟨rfl,rfl⟩;refine⟨_,rfl,aZ _,b _ _ ?_⟩;clear b d o m;go_simp;refine aY rfl rfl (λd b=>?_);go_simp;obtain⟨l,i⟩:=aP (c.drew.alloc (.cells #[.int .i64 (xJ p.1 q.1),.int .i64 (Lib.compareInt p.2 q.2)] 3));have t:aK c.drew l:=by rw[i];exact aI _ _
 have k:=AK c.drew (xJ p.1 q.1) (Lib.compareInt p.2 q.2) l i;rw[<- Ez] at k;have n:=ae k;clear k;rw[show(c.alloc (.cells #[.int .i64 (xJ p.1 q.1),.int .i64 (Lib.compareInt p.2 q.2)] 3)).drew=l from i.symm];refine⟨t,b _ _ ?_⟩;clear b d i;go_simp;refine aY rfl rfl (λd b=>?_);go_simp;refine n.x.mono ?_;rintro e a ⟨rfl,rfl⟩;refine⟨_,rfl,aZ _,b _ _ ?_⟩;clear b d n;go_simp;apply aG;rfl;intro a j;go_simp;exact aF
 repeat (apply bK;rfl;rfl;go_simp;go_simp;rfl;apply aG;rfl;intro a j;go_simp;exact aF)
 refine aW ?_;go_wp2
 go_ret
 exact⟨rfl,r.drew.trans (RowKit.Below.mono t r.size)⟩
def itV(x:RIt):Value:=.agg #[.string ⟨x.key.toArray⟩,.int .i64 x.dev,.int .i64 x.seq,.int .i64 x.val]
def goV(x:RGo):Value:=.agg #[.string ⟨x.key.toArray⟩,.int .i64 x.dev,.int .i64 x.seq]
theorem g7(x:RIt):
 Calls aE 104 #[itV x] w λe l=>e=.returned (plV x.pl) /\ Kpt w l:=by
 obtain⟨m,b⟩:=aP ((w.alloc (.cells #[.string ⟨x.key.toArray⟩,.int .i64 x.dev,.int .i64 x.seq,.int .i64 x.val] 108)).alloc (.cells #[.string ⟨x.key.toArray⟩,.int .i64 x.dev] 174));have c:Kpt w m:=by rw[b];exact(aI _ _).alloc (by simp) _
 have a:=Blk.new (w.alloc (.cells #[.string ⟨x.key.toArray⟩,.int .i64 x.dev,.int .i64 x.seq,.int .i64 x.val] 108)) #[.string ⟨x.key.toArray⟩,.int .i64 x.dev] 174;rw[<- b] at a;have d:(w.alloc (.cells #[.string ⟨x.key.toArray⟩,.int .i64 x.dev,.int .i64 x.seq,.int .i64 x.val] 108)).heap.size=w.heap.size+1:=by simp
 rw[d] at a;have⟨j,k,i,h⟩:=ae4 (a.cell 0) (a.cell 1) b c;clear a d b c;unfold itV
 go_enter func104,ntmps104
 go_wp2;rw[<- i.x];have f:=j.x;have g:=k.x;simp at f g;exact bodyPost_ret (v:=plV x.pl) (by simp[results,results104,go_sem,f,g,plV,RIt.pl]) rfl ⟨rfl,h.x⟩
theorem g8(x:RGo):
 Calls aE 112 #[goV x] w λe l=>e=.returned (plV x.pl) /\ Kpt w l:=by
 obtain⟨m,b⟩:=aP ((w.alloc (.cells #[.string ⟨x.key.toArray⟩,.int .i64 x.dev,.int .i64 x.seq] 111)).alloc (.cells #[.string ⟨x.key.toArray⟩,.int .i64 x.dev] 174));have c:Kpt w m:=by rw[b];exact(aI _ _).alloc (by simp) _
 have a:=Blk.new (w.alloc (.cells #[.string ⟨x.key.toArray⟩,.int .i64 x.dev,.int .i64 x.seq] 111)) #[.string ⟨x.key.toArray⟩,.int .i64 x.dev] 174;rw[<- b] at a;have d:(w.alloc (.cells #[.string ⟨x.key.toArray⟩,.int .i64 x.dev,.int .i64 x.seq] 111)).heap.size=w.heap.size+1:=by simp
 rw[d] at a;have⟨j,k,i,h⟩:=ae4 (a.cell 0) (a.cell 1) b c;clear a d b c;unfold goV
 go_enter func112,ntmps112
 go_wp2;rw[<- i.x];have f:=j.x;have g:=k.x;simp at f g;exact bodyPost_ret (v:=plV x.pl) (by simp[results,results112,go_sem,f,g,plV,RGo.pl]) rfl ⟨rfl,h.x⟩
/- known. -/
end
theorem uh(hT:eB w)(h3:4 <= w.heap.size)(F:aQ)(v:Value)(m:aT)(h:di F w v m)(p:RPl)(g:Int)(P:p.1.length <= 9223372036854775807)(ai:dk p.2)(al:dk g):
 Calls aE 143 #[v,plV p,.int .i64 g] w λe D=>e=.returned (.bool (dl m p g)) /\ Kpt w D:=by
 replace h:=jF h 37
 obtain⟨a1,p1,a2,p2,a3,p3,Q,n2,n3,G,rfl,h,l1,l2,l3,n,U,W,Z,S,aa,Hx,t,c0,c1,c2⟩:=h
 try rw[n.x]
 try rw[U.x]
 try rw[W.x]
 clear h;obtain⟨j,d⟩:=p;dsimp only at P ai;obtain⟨l,q⟩:=aP (G.alloc (.cells #[.string ⟨j.toArray⟩,.int .i64 d] 174));have x:Kpt G l:=by rw[q];exact aI _ _
 have a:Kpt w l:=cT S.x x;have o:=Blk.new G #[.string ⟨j.toArray⟩,.int .i64 d] 174;rw[<- q,aa.x] at o;have R:=o.cell 0;simp at R;have ad:=bR hT h3 a;have ak:4 <= l.heap.size:=by have:=a.size;omega
 have V:=ae (ug l ad ak j P);obtain⟨f,B⟩:=aH (dl m (j,d) g);rw[B];have⟨i,I,Y,r⟩:=ae4 B o q x;obtain⟨kk,z⟩:=aH (eY j);rw[z] at V;have H:=ae z;clear B o q x z c0 c1 c2;unfold plV
 go_enter func143,ntmps143
 go_wp2_with fail;rw[<- Z.x,<- Y.x];refine V.x.mono ?_;rintro e E ⟨rfl,c⟩
 have r1:E.cell? ⟨w.heap.size+1,1,none⟩=some (.int .i64 d):=by
  have:=(I.x.keep (c.block _ I.x.lt)).cell 1;simpa using this
 have m0:E.cell? ⟨w.heap.size,0,none⟩=some (.slice a1 Q p1):=by
  have:=((t.x.keep (r.x.block _ t.x.lt)).keep (c.block _ (aw t.x.lt r.x.size))).cell 0;simpa using this
 have N:=(Hx.x.keep (w':=l) λb _ A=>r.x.block b A).keep (w':=E) λb _ A=>c.block b A
 have T:=ae N;clear N R;cases kk with
 |false=>
  have ag:=H.x;obtain rfl:f=false:=by rw[<- i.x];simp[dl,ag]
  clear V;go_wp2
  go_ret
  exact⟨rfl,a.trans (c.mono a.size)⟩
 |true=>
  by_cases J:0 <= d
  ·by_cases d1:d<(Q:Int)
   ·by_cases K:1 <= g
    ·obtain⟨k,rfl⟩:=Int.eq_ofNat_of_zero_le J;have M:k<m.seen.length:=by rw[n.x];omega
     obtain⟨b,an,rfl,-,-,L⟩:=ip T.x.seen (by omega);have e0:=L k M;obtain⟨s,C⟩:=aH m.seen[k];rw[C] at e0;have X:=ae (show m.seen.getD k 0=s by rw[List.getD_eq_getElem?_getD,List.getElem?_eq_getElem M,C];rfl)
     have O:=ae (show f=decide (g <= s) by
      rw[<- i.x];unfold dl;rw[H.x];have h1:((k:Int)).toNat=k:=by omega
      simp only[h1,X.x,n.x];simp[K]
      omega)
     clear L C V
     by_cases u:g <= s
     ·have y:f=true:=by rw[O.x];simpa using u
      subst y;go_wp2
      go_ret
      exact⟨rfl,a.trans (c.mono a.size)⟩
     ·have y:f=false:=by rw[O.x];simpa using u
      subst y;go_wp2
      go_ret
      exact⟨iX (by simpa using u),a.trans (c.mono a.size)⟩
    ·
     obtain rfl:f=false:=by rw[<- i.x];simp[dl,K]
     clear V;go_wp2
     go_ret
     exact⟨rfl,a.trans (c.mono a.size)⟩
   ·have ab:¬d<((m.seen.length:Nat):Int):=by rw[n.x];exact d1
    obtain rfl:f=false:=by rw[<- i.x];simp[dl,ab]
    clear V;go_wp2
    go_ret
    exact⟨rfl,a.trans (c.mono a.size)⟩
  ·
   obtain rfl:f=false:=by rw[<- i.x];simp[dl,J]
   clear V;go_wp2
   go_ret
   exact⟨rfl,a.trans (c.mono a.size)⟩
/- ascending. -/
section
attribute [local go_sem] opC upC told bE bm bF bp bq bG bH
def vu{α:Type}(pl:α -> RPl)(l:List α)(w:World)(i:Value)(wr:World):Prop:=
 ∃k:Nat,k <= l.length /\ i=.int .i64 ((k:Int)+1) /\ (∀j (h:j+1<l.length),j<k -> plt (pl l[j]) (pl l[j+1])) /\ Kpt w wr
theorem C2(l:List RIt)(h:Rows F w 4 v l.length (l.flatMap bT))(hl:l.length <= 1000000):
 Calls aE 141 #[v,.func (.func 104) #[] #[]] w λe c=>e=.returned (.bool (decide (Asc RIt.pl l))) /\ Kpt w c:=by
 obtain⟨ok,B⟩:=aH (decide (Asc RIt.pl l));rw[B];have⟨T,Hh⟩:=ae2 B h;obtain⟨a,ar,rfl,-⟩:=h.shape;obtain⟨n,A⟩:=aH l.length;have p:=ae A;rw[A] at hl⊢;have U:=ae (show vu RIt.pl l w (.int .i64 1) w from⟨0,by omega,rfl,λj m hk=>by omega,Below.refl _ _⟩);clear B h A
 go_enter func141,ntmps141
 go_wp2
 go_loopw [5] (λi wr=>vu RIt.pl l w i wr) (λi _=>n+1-(intOf i).toNat)
 ·exact U.x
 ·obtain⟨k,hk,rfl,X,Y⟩:=hrel;have⟨R,o⟩:=ae2 X Y;clear X Y U
  by_cases ax:k+1<n
  ·have al:(k:Int)+1<(n:Int):=by omega
   have hm:=Hh.x.keep (w':=wr) λb _ f=>o.x.block b f
   obtain⟨b,aI,rfl,-,-,z⟩:=fw hm (by rw[p.x];omega);have ak:k<l.length:=by rw[p.x];omega
   have Z:k+1<l.length:=by rw[p.x];omega
   obtain⟨G,H,I,J⟩:=z k ak;obtain⟨K,L,M,N⟩:=z (k+1) Z;obtain⟨x,C⟩:=aH l[k];obtain⟨y,D⟩:=aH (l[k+1]);rw[C] at G H I J;rw[D] at K L M N;have p0:∀c,aK wr.drew c -> c.cell? _=_:=λc hh=>bh G hh
   have p1:∀c,aK wr.drew c -> c.cell? _=_:=λc hh=>bh H hh
   have p2:∀c,aK wr.drew c -> c.cell? _=_:=λc hh=>bh I hh
   have p3:∀c,aK wr.drew c -> c.cell? _=_:=λc hh=>bh J hh
   have q0:∀c,aK wr.drew c -> c.cell? _=_:=λc hh=>bh K hh
   have q1:∀c,aK wr.drew c -> c.cell? _=_:=λc hh=>bh L hh
   have q2:∀c,aK wr.drew c -> c.cell? _=_:=λc hh=>bh M hh
   have q3:∀c,aK wr.drew c -> c.cell? _=_:=λc hh=>bh N hh
   have⟨V,W,P⟩:=ae3 C D (show Calls aE 104 #[.agg #[.string ⟨x.key.toArray⟩,.int .i64 x.dev,.int .i64 x.seq,.int .i64 x.val]] wr.drew _ from g7 wr.drew x);have an:IntKind.i64.wrap ((k:Int)+1-1)=(k:Int):=by rw[af _ (by omega)];omega
   have ay:IntKind.i64.wrap (k:Int)=(k:Int):=af _ (by omega);have ao:((k:Int)+1).toNat=k+1:=by omega
   have av:(k:Int)<(n:Int):=by omega
   clear z hm G H I J K L M N C D;go_wp2_with fail;refine bP aK (up 6 [7,8,9,10,11,506,512,513,14]) (by kernel_rfl) ?_;apply aG;rfl;intro c q;go_simp;(repeat (simp(disch:=omega) only[af,if_pos];go_simp));exact aF;refine aY rfl rfl (λg d=>?_);go_simp;refine P.x.mono ?_;rintro e E ⟨rfl,s⟩;refine⟨_,rfl,s,d _ _ ?_⟩;clear d g P p0 p1 p2 p3;go_simp;have⟨Q,aa⟩:=ae2 (show Calls aE 104 #[.agg #[.string ⟨y.key.toArray⟩,.int .i64 y.dev,.int .i64 y.seq,.int .i64 y.val]] E _ from g7 E y) (show Kpt wr E from(Below.refl _ _).drew.trans s);clear s;apply aG;rfl;intro c q;go_simp;(repeat (simp(disch:=omega) only[af,if_pos];go_simp));exact aF;refine aY rfl rfl (λg d=>?_);go_simp;refine Q.x.mono ?_;rintro e w2 ⟨rfl,t⟩;refine⟨_,rfl,t,d _ _ ?_⟩;clear d g Q q0 q1 q2 q3;go_simp;have⟨O,ab⟩:=ae2 (j7 w2 x.pl y.pl) (cT aa.x t);clear t;apply aG;rfl;intro c q;go_simp;(repeat (simp(disch:=omega) only[af,if_pos];go_simp));exact aF;refine aY rfl rfl (λg d=>?_);go_simp;refine O.x.mono ?_;rintro e w3 ⟨rfl,u⟩;refine⟨_,rfl,u,d _ _ ?_⟩;clear d g O;go_simp;have S:=ae (o.x.trans ((cT ab.x u).mono o.x.size));clear u an ao
   by_cases f:plt x.pl y.pl
   ·have r:ij x.pl y.pl = -1:=by unfold ij;rw[if_pos f]
    rw[r];have ad:=ae f;clear r f;apply aG;rfl;intro c q;go_simp;(repeat (simp(disch:=omega) only[af,if_pos];go_simp));exact aF;refine aW ?_;go_wp2
    go_roundw
    ·exact⟨k+1,by omega,by go_num,λj m ai=>by
     rcases Nat.lt_succ_iff_lt_or_eq.1 ai with h|h
     ·exact R.x j m h
     ·subst h;rw[V.x,W.x];exact ad.x,S.x⟩
    ·simp[intOf];omega
   ·have r:0 <= ij x.pl y.pl:=by unfold ij;rw[if_neg f];split<;>omega
    have Hf:=ae (show ok=false by
     rw[<- T.x];refine decide_eq_false λha=>f ?_
     have:=iU RIt.pl ha k Z;rw[V.x,W.x] at this
     exact this)
    generalize ij x.pl y.pl=cv at *;clear f;have az:decide (cv ≥ 0)=true:=by simpa using r
    apply aG;rfl;intro c q;go_simp;(repeat (simp(disch:=omega) only[af,if_pos];go_simp));exact aF;refine aW ?_;go_wp2
    go_ret
    exact⟨by rw[Hf.x];rfl,S.x⟩
  ·have al:¬(k:Int)+1<(n:Int):=by omega
   have ag:=ae (show ok=true by
    rw[<- T.x,decide_eq_true_iff,oG];intro j m
    exact R.x j m (by rw[p.x] at m;omega))
   go_wp2
   go_ret
   exact⟨by rw[ag.x];rfl,o.x⟩
theorem C4(l:List RGo)(h:Rows F w 3 v l.length (l.flatMap du))(hl:l.length <= 1000000):
 Calls aE 142 #[v,.func (.func 112) #[] #[]] w λe c=>e=.returned (.bool (decide (Asc RGo.pl l))) /\ Kpt w c:=by
 obtain⟨Z,B⟩:=aH (decide (Asc RGo.pl l));rw[B];have⟨R,Hh⟩:=ae2 B h;obtain⟨a,ar,rfl,-⟩:=h.shape;obtain⟨n,A⟩:=aH l.length;have p:=ae A;rw[A] at hl⊢;have S:=ae (show vu RGo.pl l w (.int .i64 1) w from⟨0,by omega,rfl,λj m hk=>by omega,Below.refl _ _⟩);clear B h A
 go_enter func142,ntmps142
 go_wp2
 go_loopw [5] (λi wr=>vu RGo.pl l w i wr) (λi _=>n+1-(intOf i).toNat)
 ·exact S.x
 ·obtain⟨k,hk,rfl,V,W⟩:=hrel;have⟨P,o⟩:=ae2 V W;clear V W S
  by_cases ax:k+1<n
  ·have al:(k:Int)+1<(n:Int):=by omega
   have Y:=Hh.x.keep (w':=wr) λb _ f=>o.x.block b f
   obtain⟨b,aI,rfl,-,-,z⟩:=gh Y (by rw[p.x];omega);have ak:k<l.length:=by rw[p.x];omega
   have X:k+1<l.length:=by rw[p.x];omega
   obtain⟨G,H,I⟩:=z k ak;obtain⟨J,K,L⟩:=z (k+1) X;obtain⟨x,C⟩:=aH l[k];obtain⟨y,D⟩:=aH (l[k+1]);rw[C] at G H I;rw[D] at J K L;have p0:∀c,aK wr.drew c -> c.cell? _=_:=λc hh=>bh G hh
   have p1:∀c,aK wr.drew c -> c.cell? _=_:=λc hh=>bh H hh
   have p2:∀c,aK wr.drew c -> c.cell? _=_:=λc hh=>bh I hh
   have q0:∀c,aK wr.drew c -> c.cell? _=_:=λc hh=>bh J hh
   have q1:∀c,aK wr.drew c -> c.cell? _=_:=λc hh=>bh K hh
   have q2:∀c,aK wr.drew c -> c.cell? _=_:=λc hh=>bh L hh
   have⟨T,U,N⟩:=ae3 C D (show Calls aE 112 #[.agg #[.string ⟨x.key.toArray⟩,.int .i64 x.dev,.int .i64 x.seq]] wr.drew _ from g8 wr.drew x);have an:IntKind.i64.wrap ((k:Int)+1-1)=(k:Int):=by rw[af _ (by omega)];omega
   have ay:IntKind.i64.wrap (k:Int)=(k:Int):=af _ (by omega);have ao:((k:Int)+1).toNat=k+1:=by omega
   have av:(k:Int)<(n:Int):=by omega
   clear z Y G H I J K L C D;go_wp2_with fail;refine bP aK (up 6 [7,8,9,10,11,506,512,513,14]) (by kernel_rfl) ?_;apply aG;rfl;intro c q;go_simp;(repeat (simp(disch:=omega) only[af,if_pos];go_simp));exact aF;refine aY rfl rfl (λg d=>?_);go_simp;refine N.x.mono ?_;rintro e E ⟨rfl,s⟩;refine⟨_,rfl,s,d _ _ ?_⟩;clear d g N p0 p1 p2;go_simp;have⟨O,aa⟩:=ae2 (show Calls aE 112 #[.agg #[.string ⟨y.key.toArray⟩,.int .i64 y.dev,.int .i64 y.seq]] E _ from g8 E y) (show Kpt wr E from(Below.refl _ _).drew.trans s);clear s;apply aG;rfl;intro c q;go_simp;(repeat (simp(disch:=omega) only[af,if_pos];go_simp));exact aF;refine aY rfl rfl (λg d=>?_);go_simp;refine O.x.mono ?_;rintro e w2 ⟨rfl,t⟩;refine⟨_,rfl,t,d _ _ ?_⟩;clear d g O q0 q1 q2;go_simp;have⟨M,ab⟩:=ae2 (j7 w2 x.pl y.pl) (cT aa.x t);clear t;apply aG;rfl;intro c q;go_simp;(repeat (simp(disch:=omega) only[af,if_pos];go_simp));exact aF;refine aY rfl rfl (λg d=>?_);go_simp;refine M.x.mono ?_;rintro e w3 ⟨rfl,u⟩;refine⟨_,rfl,u,d _ _ ?_⟩;clear d g M;go_simp;have Q:=ae (o.x.trans ((cT ab.x u).mono o.x.size));clear u an ao
   by_cases f:plt x.pl y.pl
   ·have r:ij x.pl y.pl = -1:=by unfold ij;rw[if_pos f]
    rw[r];have ad:=ae f;clear r f;apply aG;rfl;intro c q;go_simp;(repeat (simp(disch:=omega) only[af,if_pos];go_simp));exact aF;refine aW ?_;go_wp2
    go_roundw
    ·exact⟨k+1,by omega,by go_num,λj m ai=>by
     rcases Nat.lt_succ_iff_lt_or_eq.1 ai with h|h
     ·exact P.x j m h
     ·subst h;rw[T.x,U.x];exact ad.x,Q.x⟩
    ·simp[intOf];omega
   ·have r:0 <= ij x.pl y.pl:=by unfold ij;rw[if_neg f];split<;>omega
    have Hf:=ae (show Z=false by
     rw[<- R.x];refine decide_eq_false λha=>f ?_
     have:=iU RGo.pl ha k X;rw[T.x,U.x] at this
     exact this)
    generalize ij x.pl y.pl=cv at *;clear f;have az:decide (cv ≥ 0)=true:=by simpa using r
    apply aG;rfl;intro c q;go_simp;(repeat (simp(disch:=omega) only[af,if_pos];go_simp));exact aF;refine aW ?_;go_wp2
    go_ret
    exact⟨by rw[Hf.x];rfl,Q.x⟩
  ·have al:¬(k:Int)+1<(n:Int):=by omega
   have ag:=ae (show Z=true by
    rw[<- R.x,decide_eq_true_iff,oG];intro j m
    exact P.x j m (by rw[p.x] at m;omega))
   go_wp2
   go_ret
   exact⟨by rw[ag.x];rfl,o.x⟩
/- buried. -/
theorem rP(x:RGo)(p:RPl):
 Calls aE 174 #[goV x,plV p] w λe a=>e=.returned (.int .i64 (ij x.pl p)) /\ Kpt w a:=by
 obtain⟨b,g⟩:=aP ((w.alloc (.cells #[.string ⟨x.key.toArray⟩,.int .i64 x.dev,.int .i64 x.seq] 111)).alloc (.cells #[.string ⟨p.1.toArray⟩,.int .i64 p.2] 174));have t:Kpt w b:=by rw[g];exact(aI _ _).alloc (by simp) _
 have d:=(Blk.new w #[.string ⟨x.key.toArray⟩,.int .i64 x.dev,.int .i64 x.seq] 111).alloc (.cells #[.string ⟨p.1.toArray⟩,.int .i64 p.2] 174);have f:=Blk.new (w.alloc (.cells #[.string ⟨x.key.toArray⟩,.int .i64 x.dev,.int .i64 x.seq] 111)) #[.string ⟨p.1.toArray⟩,.int .i64 p.2] 174;rw[<- g] at d f;have n:(w.alloc (.cells #[.string ⟨x.key.toArray⟩,.int .i64 x.dev,.int .i64 x.seq] 111)).heap.size=w.heap.size+1:=by simp
 rw[n] at f;have u:∀a,aK b.drew a -> a.cell? ⟨w.heap.size,0,none⟩=some (.string ⟨x.key.toArray⟩):=λa hh=>bh (by simpa using d.cell 0) hh
 have v:∀a,aK b.drew a -> a.cell? ⟨w.heap.size,1,none⟩=some (.int .i64 x.dev):=λa hh=>bh (by simpa using d.cell 1) hh
 have y:∀a,aK b.drew a -> a.cell? ⟨w.heap.size,2,none⟩=some (.int .i64 x.seq):=λa hh=>bh (by simpa using d.cell 2) hh
 have z:∀a,aK b.drew a -> a.cell? ⟨w.heap.size+1,0,none⟩=some (.string ⟨p.1.toArray⟩):=λa hh=>bh (by simpa using f.cell 0) hh
 have A:∀a,aK b.drew a -> a.cell? ⟨w.heap.size+1,1,none⟩=some (.int .i64 p.2):=λa hh=>bh (by simpa using f.cell 1) hh
 have⟨s,l⟩:=ae2 g (show Calls aE 112 #[.agg #[.string ⟨x.key.toArray⟩,.int .i64 x.dev,.int .i64 x.seq]] b.drew _ from g8 b.drew x);clear d f n g;unfold goV plV
 go_enter func174,ntmps174
 go_wp2_with fail;rw[<- s.x];refine bP aK [0,2,501,503,4] (by kernel_rfl) ?_;apply aG;rfl;intro a m;go_simp;exact aF;refine aY rfl rfl (λh c=>?_);go_simp;refine l.x.mono ?_;rintro e o ⟨rfl,i⟩;refine⟨_,rfl,i,c _ _ ?_⟩;clear c h l u v y;go_simp;have⟨k,q⟩:=ae2 (show Calls aE 167 #[plV x.pl,.agg #[.string ⟨p.1.toArray⟩,.int .i64 p.2]] o _ from j7 o x.pl p) (cT t ((Below.refl _ _).drew.trans i));clear i;apply aG;rfl;intro a m;go_simp;exact aF;refine aY rfl rfl (λh c=>?_);go_simp;refine k.x.mono ?_;rintro e B ⟨rfl,j⟩;refine⟨_,rfl,j,c _ _ ?_⟩;clear c h k z A;go_simp;have r:=ae (cT q.x j);clear j;apply aG;rfl;intro a m;go_simp;exact aF;refine aW ?_;go_wp2
 go_ret
 exact⟨rfl,r.x⟩
/- slices.BinarySearchFunc at Gone. -/
def BB(l:List RGo)(p:RPl)(i j:Nat):Prop:=
 (∀k (h:k<l.length),k<i -> plt l[k].pl p) /\ ∀k (h:k<l.length),j <= k -> ¬plt l[k].pl p
theorem EA{l:List RGo}{p:RPl}(c:Asc RGo.pl l)(s:BB l p i j)(d:o<l.length)(b:plt l[o].pl p):BB l p (o+1) j:=
 ⟨λk e f=>by
  rcases Nat.lt_succ_iff_lt_or_eq.1 f with a|a
  ·exact iG (List.pairwise_iff_getElem.1 c k o e d a) b
  ·subst a;exact b,s.2⟩
theorem EB{l:List RGo}{p:RPl}(c:Asc RGo.pl l)(s:BB l p i j)(e:o<l.length)(a:¬plt l[o].pl p):BB l p i o:=
 ⟨s.1,λk f g=>by
  rcases Nat.lt_or_ge o k with b|b
  ·exact λd=>a (iG (List.pairwise_iff_getElem.1 c o k e f b) d)
  ·have:k=o:=by omega
   subst this;exact a⟩
theorem C5{l:List RGo}{p:RPl}(a:Asc RGo.pl l)(c:i<l.length)(b:l[i].pl=p):df RGo.pl l p=some l[i]:=by
 rw[<- b];exact lS a (aC c)
theorem ui{l:List RGo}{p:RPl}(d:Asc RGo.pl l)(s:BB l p i i)(e:∀h:i<l.length,l[i].pl≠p):df RGo.pl l p=none:=by
 rw[gS];intro x f a;obtain⟨k,b,rfl⟩:=List.mem_iff_getElem.1 f;rcases Nat.lt_trichotomy k i with h|h|h
 ·exact gM p (a▸s.1 k b h)
 ·subst h;exact e b a
 ·have hi:i<l.length:=by omega
  have c:plt l[i].pl p:=by
   have:=List.pairwise_iff_getElem.1 d i k hi b h;rw[a] at this;exact this
  exact s.2 i hi (aq _) c
abbrev Ga(l:List RGo)(p:RPl)(i:Nat)(a:Bool):Prop:=
 (a=true -> ∃h:i<l.length,df RGo.pl l p=some l[i]) /\ (a=false -> df RGo.pl l p=none)
theorem xK(l:List RGo)(p:RPl)(h:Rows F w 3 v l.length (l.flatMap du))(r:l.length <= 1000000)(ha:Asc RGo.pl l):
 Calls aE 173 #[v,plV p,.func (.func 174) #[] #[]] w λe c=>
  (∃(i:Nat)(ok:Bool),e=.returned (.tuple #[.int .i64 i,.bool ok]) /\ Ga l p i ok) /\ Kpt w c:=by
 have Hh:=ae h;obtain⟨a,aL,rfl,-⟩:=h.shape;obtain⟨n,hn⟩:=aH l.length;have⟨o,D⟩:=ae2 hn ha;rw[hn] at r;obtain⟨O,L⟩:=aP (w.alloc (.cells #[.string ⟨p.1.toArray⟩,.int .i64 p.2] 174));have ab:Kpt w O:=by rw[L];exact aI _ _
 have V:=Blk.new w #[.string ⟨p.1.toArray⟩,.int .i64 p.2] 174;rw[<- L] at V;have al:O.heap.size=w.heap.size+1:=by rw[L];simp
 have⟨Hp,ar,aa,ao,P⟩:=ae5 V L al (show Below (w.heap.size+1) O O from Below.refl _ _) ab;clear h ha V L al ab;unfold plV;rw[o.x]
 go_enter func173,ntmps173
 go_wp2_with fail
 go_loopg [9,10] n (λg s9 aJ wr=>∃d hi:Nat,s9=.int .i64 d /\ aJ=.int .i64 hi /\ d <= hi /\ hi <= n /\ hi-d <= g /\ Below (w.heap.size+1) O wr /\ BB l p d hi)
 ·exact⟨0,n,rfl,rfl,Nat.zero_le _,aq _,by omega,by
   have:=ao.x;rw[ar.x] at this⊢
   exact this,λk hk h0=>by omega,λk hk h0=>by have:=o.x;omega⟩
 ·obtain⟨d,hi,rfl,rfl,aM,av,hg,ad,hs⟩:=hrel;have⟨j,Q⟩:=ae2 ad hs;have K:=Hh.x.keep (w':=wr) λb _ ag=>(j.x.block b (by omega)).trans (P.x.block b ag)
  have M:wr.cell? ⟨w.heap.size,0,none⟩=some (.string ⟨p.1.toArray⟩):=by
   simpa using(Hp.x.keep (j.x.block w.heap.size (by omega))).cell 0
  have N:wr.cell? ⟨w.heap.size,1,none⟩=some (.int .i64 p.2):=by
   simpa using(Hp.x.keep (j.x.block w.heap.size (by omega))).cell 1
  clear ad hs
  by_cases ag:d<hi
  ·obtain⟨m,hm⟩:=aP ((d+hi)/2);obtain⟨b,az,rfl,-,-,J⟩:=gh K (by rw[o.x];omega);have u:m<l.length:=by rw[o.x];omega
   obtain⟨z,A,B⟩:=J m u;obtain⟨x,y⟩:=aH l[m];rw[y] at z A B;have⟨H,C⟩:=ae2 y (show Calls aE 174 #[.agg #[.string ⟨x.key.toArray⟩,.int .i64 x.dev,.int .i64 x.seq],.agg #[.string ⟨p.1.toArray⟩,.int .i64 p.2]] wr.drew _ from rP wr.drew x p);have W:∀c,aK wr.drew c -> c.cell? _=_:=λc hh=>bh z hh
   have X:∀c,aK wr.drew c -> c.cell? _=_:=λc hh=>bh A hh
   have Y:∀c,aK wr.drew c -> c.cell? _=_:=λc hh=>bh B hh
   have Z:∀c,aK wr.drew c -> c.cell? _=_:=λc hh=>bh M hh
   have r1:∀c,aK wr.drew c -> c.cell? _=_:=λc hh=>bh N hh
   have ay:IntKind.i64.wrap (m:Int)=(m:Int):=af _ (by omega);have aN:IntKind.i64.wrap ((d:Int)+hi)=(d:Int)+hi:=af _ (by omega);have aO:((d:Int)+hi)/2=(m:Int):=by omega
   have ai:(m:Int)<(n:Int):=by have:=o.x;omega
   have G:=ae hm;clear J K z A B M N y hm;go_wp2_with fail;refine bP aK (up 6 [506,7]) (by kernel_rfl) ?_;apply aG;rfl;intro c f;go_simp;(repeat (simp(disch:=omega) only[af,if_pos];go_simp));exact aF;refine aY rfl rfl (λT I=>?_);go_simp;refine C.x.mono ?_;rintro e w2 ⟨rfl,t⟩;refine⟨_,rfl,t,I _ _ ?_⟩;clear I T C W X Y Z r1;go_simp;have E:=ae (j.x.trans (((Below.refl _ _).drew.trans t).mono (au (Nat.le_of_eq aa.x.symm) j.x.size)));clear t
   by_cases r:plt x.pl p
   ·have s:ij x.pl p = -1:=by unfold ij;rw[if_pos r]
    rw[s];have S:=ae r;clear s r;apply aG;rfl;intro c f;go_simp;(repeat (simp(disch:=omega) only[af,if_pos];go_simp));exact aF;refine aW ?_;go_wp2
    go_roundg (hi-(m+1))
    case measure=>have:=G.x;omega
    case rel=>exact⟨m+1,hi,by go_num,rfl,by have:=G.x;omega,av,aq _,E.x,EA D.x Q.x u (by rw[H.x];exact S.x)⟩
   ·have s:0 <= ij x.pl p:=by unfold ij;rw[if_neg r];split<;>omega
    have S:=ae r;generalize ij x.pl p=U at *;clear r;have aR:¬U<0:=by omega
    apply aG;rfl;intro c f;go_simp;(repeat (simp(disch:=omega) only[af,if_pos];go_simp));exact aF;refine aW ?_;go_wp2
    go_roundg (m-d)
    case measure=>have:=G.x;omega
    case rel=>exact⟨d,m,rfl,rfl,by have:=G.x;omega,by have:=G.x;omega,aq _,E.x,EB D.x Q.x u (by rw[H.x];exact S.x)⟩
  ·have q:hi=d:=by omega
   subst q
   by_cases ax:hi<n
   ·obtain⟨b,az,rfl,-,-,J⟩:=gh K (by rw[o.x];omega);have u:hi<l.length:=by rw[o.x];omega
    obtain⟨z,A,B⟩:=J hi u;obtain⟨x,y⟩:=aH l[hi];rw[y] at z A B;have⟨H,C⟩:=ae2 y (show Calls aE 174 #[.agg #[.string ⟨x.key.toArray⟩,.int .i64 x.dev,.int .i64 x.seq],.agg #[.string ⟨p.1.toArray⟩,.int .i64 p.2]] wr.drew _ from rP wr.drew x p);have W:∀c,aK wr.drew c -> c.cell? _=_:=λc hh=>bh z hh
    have X:∀c,aK wr.drew c -> c.cell? _=_:=λc hh=>bh A hh
    have Y:∀c,aK wr.drew c -> c.cell? _=_:=λc hh=>bh B hh
    have Z:∀c,aK wr.drew c -> c.cell? _=_:=λc hh=>bh M hh
    have r1:∀c,aK wr.drew c -> c.cell? _=_:=λc hh=>bh N hh
    have ay:IntKind.i64.wrap (hi:Int)=(hi:Int):=af _ (by omega);have ai:(hi:Int)<(n:Int):=by omega
    clear J K z A B M N y;go_wp2_with fail;refine bP aK (up 11 [511,12,13,14,15]) (by kernel_rfl) ?_;apply aG;rfl;intro c f;go_simp;(repeat (simp(disch:=omega) only[af,if_pos];go_simp));exact aF
    repeat (apply bK;rfl;rfl;go_simp;go_simp;rfl;apply aG;rfl;intro c f;go_simp;(repeat (simp(disch:=omega) only[af,if_pos];go_simp));exact aF)
    refine aY rfl rfl (λT I=>?_);go_simp;refine C.x.mono ?_;rintro e w2 ⟨rfl,t⟩;refine⟨_,rfl,t,I _ _ ?_⟩;clear I T C W X Y Z r1;go_simp;have E:=ae (j.x.trans (((Below.refl _ _).drew.trans t).mono (au (Nat.le_of_eq aa.x.symm) j.x.size)));clear t
    by_cases q:x.pl=p
    ·have s:ij x.pl p=0:=by unfold ij;rw[q,if_neg (gM p),if_neg (gM p)]
     rw[s];have R:=ae q;clear s q;apply aG;rfl;intro c f;go_simp;(repeat (simp(disch:=omega) only[af,if_pos];go_simp));exact aF
     repeat (apply bK;rfl;rfl;go_simp;go_simp;rfl;apply aG;rfl;intro c f;go_simp;(repeat (simp(disch:=omega) only[af,if_pos];go_simp));exact aF)
     refine aW ?_;go_wp2;go_ret2;exact⟨⟨hi,true,rfl,λ_=>⟨u,C5 D.x u (by rw[H.x];exact R.x)⟩,λh=>by cases h⟩,P.x.trans (E.x.mono (Nat.le_succ _))⟩
    ·have s:ij x.pl p≠0:=by
      unfold ij;intro h;split at h
      ·omega
      ·rename_i h1;split at h
       ·omega
       ·rename_i h2;exact q (my h1 h2)
     have R:=ae q;generalize ij x.pl p=U at *;clear q;have aS:(U == 0)=false:=by simpa using s
     apply aG;rfl;intro c f;go_simp;(repeat (simp(disch:=omega) only[af,if_pos];go_simp));exact aF
     repeat (apply bK;rfl;rfl;go_simp;go_simp;rfl;apply aG;rfl;intro c f;go_simp;(repeat (simp(disch:=omega) only[af,if_pos];go_simp));exact aF)
     refine aW ?_;go_wp2;go_ret2;exact⟨⟨hi,false,rfl,⟨λh=>by simp at h,λ_=>ui D.x Q.x (λ_=>by rw[H.x];exact R.x)⟩⟩,P.x.trans (E.x.mono (Nat.le_succ _))⟩
   ·have ai:¬(hi:Int)<(n:Int):=by omega
    have ak:df RGo.pl l p=none:=ui D.x Q.x (λh=>absurd (o.x▸h) ax);have an:=ae ak;clear ak K M N;go_wp2_with fail;refine bP aK (up 11 [511,12,13,14,15]) (by kernel_rfl) ?_;apply aG;rfl;intro c f;go_simp;(repeat (simp(disch:=omega) only[af,if_pos];go_simp));exact aF
    repeat (apply bK;rfl;rfl;go_simp;go_simp;rfl;apply aG;rfl;intro c f;go_simp;(repeat (simp(disch:=omega) only[af,if_pos];go_simp));exact aF)
    refine aW ?_;go_wp2;go_ret2;exact⟨⟨hi,false,rfl,⟨λh=>by simp at h,λ_=>an.x⟩⟩,P.x.trans (j.x.drew.mono (Nat.le_succ _))⟩
theorem rQ(h:di F w v m)(p:RPl)(Q:m.gone.length <= 1000000)(M:Asc RGo.pl m.gone):
 Calls aE 117 #[v,plV p] w λe w'=>e=.returned (.int .i64 (m.buried p)) /\ Kpt w w':=by
 replace h:=h.mono (G:=λb=>b<w.heap.size) λb _ a=>a
 replace h:=jF h 37
 obtain⟨W,p1,X,p2,r,y,n1,n2,c,z,rfl,h,l1,l2,l3,D,E,o,H,B,V,I,q,Y,Z,c2⟩:=h
 try rw[D.x]
 try rw[E.x]
 try rw[o.x]
 obtain⟨d,u⟩:=aP (z.alloc (.cells #[.string ⟨p.1.toArray⟩,.int .i64 p.2] 174));have j:Kpt z d:=by rw[u];exact aI _ _
 have K:=q.x.keep (j.block _ q.x.lt);have t:=I.x.keep (w':=d) λb _ a=>j.block b a
 have A:Calls aE 173 #[.slice r c y,.agg #[.string ⟨p.1.toArray⟩,.int .i64 p.2],.func (.func 174) #[] #[]] d _:=xK d _ (.slice r c y) m.gone p t.gone Q M;have l:=cT B.x j;have k:=K;have C:=t;unfold plV
 go_enter func117,ntmps117
 go_wp2_with fail;rw[<- H.x,<- u];refine A.mono ?_;rintro e U ⟨⟨i,T,rfl,O,P⟩,g⟩;have n:=l.trans (g.mono l.size);cases T with
 |false=>
  have f:m.buried p=0:=by unfold aT.buried;rw[P rfl]
  go_wp2
  go_ret
  exact⟨fv f.symm,n⟩
 |true=>
  obtain⟨hi,s⟩:=O rfl;have L:=(k.keep (g.block _ k.lt)).cell 2;simp at L;have R:=C.keep (w':=U) λb _ a=>g.block b a
  obtain⟨b,ad,rfl,-,-,N⟩:=gh R.gone (by omega);obtain⟨-,-,J⟩:=N i hi;obtain⟨x,S⟩:=aH m.gone[i];rw[S] at J s;have f:m.buried p=x.seq:=by unfold aT.buried;rw[s]
  have ab:i<c:=by rw[<- o.x];exact hi
  have aa:(i:Int)<(c:Int):=by omega
  go_wp2
  go_ret
  exact⟨fv f.symm,n⟩
theorem i7{m:aT}(h:aV m=true -> False):aV m=false:=by
 cases a:aV m with
 |false=>rfl
 |true=>exact(h a).elim
theorem fG(f:ez r)(q:r.items.length <= 4096)(p:r.gone.length <= 4096):mD r:=by
 have c:∀i,r.seen.getD i 0 <= 1099511627776:=λi=>by
  by_cases h:i<r.seen.length
  ·rw[List.getD_eq_getElem?_getD,List.getElem?_eq_getElem h];exact(f.seen _ (aC h)).2
  ·rw[List.getD_eq_getElem?_getD,List.getElem?_eq_none (by omega)]
   decide
 refine⟨λn l=>?_,λx a=>?_,λx a=>?_,by rw[f.len];omega,by omega,by omega⟩
 ·have:=f.seen n l;omega
 ·obtain⟨d,b,e,g⟩:=eQ (f.iknown x a);have j:=c x.pl.2.toNat;have o:=f.val x a;rw[f.len] at b;have k:x.pl.2=x.dev:=rfl;exact⟨dW (dV (f.iknown x a)),by omega,by omega,by omega⟩
 ·obtain⟨d,b,e,g⟩:=eQ (f.gknown x a);have j:=c x.pl.2.toNat;rw[f.len] at b;have k:x.pl.2=x.dev:=rfl;exact⟨dW (dV (f.gknown x a)),by omega,by omega⟩
theorem pV(hT:eB w)(h3:4 <= w.heap.size)(F:aQ)(v:Value)(m:aT)(h:di F w v m):
 Calls aE 83 #[v] w λe a=>e=.returned (.int .i64 (if aV m then 0 else 5)) /\ Kpt w a:=by
 replace h:=h.mono (G:=λb=>b<w.heap.size) λb _ bl=>bl
 obtain⟨o,bm⟩:=aH (aV m);rw[bm];have H:=bm
 replace h:=jF h 37
 obtain⟨a1,p1,a2,p2,a3,p3,n1,q,s,Y,rfl,h,l1,l2,l3,av,Q,P,aL,a8,bE,t,bC,c0,c1,c2⟩:=h
 try rw[av.x]
 try rw[Q.x]
 try rw[P.x]
 have aR:=h.itemsB;have aO:=h.goneB
 have HT:∀a,Below (w.heap.size+1) Y a -> eB a /\ 4 <= a.heap.size:=λa hb=>by
  have aX:=a8.x.trans (hb.mono (Nat.le_succ _));exact⟨bR hT h3 aX,au h3 aX.size⟩
 have B:∀a,Below (w.heap.size+1) Y a -> (a.cell? ⟨w.heap.size,0,none⟩=some (.slice a1 n1 p1) /\ a.cell? ⟨w.heap.size,1,none⟩=some (.slice a2 q p2) /\ a.cell? ⟨w.heap.size,2,none⟩=some (.slice a3 s p3)) /\ ce (λb=>b<w.heap.size) a (.slice a1 n1 p1) (.slice a2 q p2) (.slice a3 s p3) m:=λa hb=>by
  have U:=bC.x.keep (hb.block _ (by omega));have k0:=U.cell 0;have k1:=U.cell 1;have k2:=U.cell 2;simp at k0 k1 k2;exact⟨⟨k0,k1,k2⟩,t.keep λb aX bl=>hb.block b (by omega)⟩
 have H0:Below (w.heap.size+1) Y Y:=Below.refl _ _;have p:∀a,Below (w.heap.size+1) Y a -> Kpt w a:=λa hb=>a8.x.trans (hb.mono (Nat.le_succ _))
 have y:Y.heap.size=w.heap.size+1:=bE.x
 go_enter func83,ntmps83
 by_cases bk:n1=8
 case neg=>
  have hI:¬(n1:Int)=8:=by omega
  have bF:((n1:Int) != 8)=true:=by simp[hI]
  obtain rfl:o=false:=by
   rw[<- H];refine i7 λl=>bk ?_
   rw[<- av.x];exact(cA l).len
  go_wp2;rw[<- aL.x]
  go_ret
  exact⟨rfl,p _ H0⟩
 subst bk
 by_cases aZ:q <= 4096
 case neg=>
  have hI:(q:Int)>4096:=by omega
  obtain rfl:o=false:=by
   rw[<- H];refine i7 λl=>aZ ?_
   rw[<- Q.x];exact(cX l).2.1
  go_wp2;rw[<- aL.x]
  go_ret
  exact⟨rfl,p _ H0⟩
 have bF:¬(q:Int)>4096:=by omega
 by_cases a0:s <= 4096
 case neg=>
  have hI:(s:Int)>4096:=by omega
  obtain rfl:o=false:=by
   rw[<- H];refine i7 λl=>a0 ?_
   rw[<- P.x];exact(cX l).2.2.1
  go_wp2;rw[<- aL.x]
  go_ret
  exact⟨rfl,p _ H0⟩
 have bU:¬(s:Int)>4096:=by omega
 go_wp2;rw[<- aL.x]
 go_loopw [28] (λi wr=>∃k:Nat,k <= 8 /\ i=.int .i64 (k:Int) /\ wr=Y /\ ∀j (f:j<m.seen.length),j<k -> kj m.seen[j]=true) (λi _=>8-(intOf i).toNat)
 ·exact⟨0,by omega,rfl,rfl,λj _ f=>by omega⟩
 ·obtain⟨k,U,rfl,rfl,R⟩:=hrel;have E:=R;obtain⟨⟨d0,d1,d2⟩,D⟩:=B _ H0
  by_cases ag:k<8
  ·have ad:(k:Int)<8:=by omega
   have C:k<m.seen.length:=by rw[av.x];exact ag
   obtain⟨b,ay,rfl,-,-,T⟩:=ip D.seen (by omega);have e0:=T k C;obtain⟨x,n⟩:=aH m.seen[k];rw[n] at e0;have t:=n
   by_cases hs:0 <= x /\ x <= 1099511627776
   ·obtain⟨s1,s2⟩:=hs;have b2:¬x<0:=by omega
    have b3:¬x>1099511627776:=by omega
    have Hs:kj x=true:=by unfold kj;exact decide_eq_true ⟨s1,s2⟩
    go_wp2
    go_roundw
    ·exact⟨k+1,by omega,by go_num,by trivial,λj f ax=>by
     rcases Nat.lt_succ_iff_lt_or_eq.1 ax with h|h
     ·exact E j f h
     ·subst h;rw[t];exact Hs⟩
    ·simp[intOf];omega
   ·obtain rfl:o=false:=by
     rw[<- H];refine i7 λl=>hs ?_
     exact(cA l).seen x (by rw[<- t];exact aC C)
    by_cases s1:x<0
    ·go_wp2
     go_ret
     exact⟨rfl,p _ H0⟩
    ·have s2:x>1099511627776:=by omega
     go_wp2
     go_ret
     exact⟨rfl,p _ H0⟩
  ·have ad:¬(k:Int)<8:=by omega
   have bD:m.seen.all kj=true:=by
    rw[List.all_eq_true];intro x n;obtain⟨j,f,rfl⟩:=List.mem_iff_getElem.1 n;exact E j f (by rw[av.x] at f;omega)
   have HA:=C2 wr _ _ m.items D.items (by rw[Q.x];omega);go_wp2_with fail;refine HA.mono ?_;rintro e w2 ⟨rfl,bH⟩;have aI:Below (w.heap.size+1) wr w2:=bH.mono (by rw[y];exact aq _)
   by_cases aN:Asc RIt.pl m.items
   case neg=>
    rw[decide_eq_false aN];have l:=i7 (m:=m) λl=>aN (cA l).items
    obtain rfl:o=false:=by rw[<- H];exact l
    go_wp2
    go_ret
    exact⟨rfl,p _ aI⟩
   rw[decide_eq_true aN];obtain⟨⟨f0,f1,f2⟩,bM⟩:=B _ aI;have HA:=C4 w2 _ _ m.gone bM.gone (by rw[P.x];omega);go_wp2_with fail;refine HA.mono ?_;rintro e w3 ⟨rfl,bI⟩;have aJ:Below (w.heap.size+1) wr w3:=aI.trans (bI.mono (by have:=aI.size;rw[y] at this;exact this))
   by_cases aM:Asc RGo.pl m.gone
   case neg=>
    rw[decide_eq_false aM];have l:=i7 (m:=m) λl=>aM (cA l).gone
    obtain rfl:o=false:=by rw[<- H];exact l
    go_wp2
    go_ret
    exact⟨rfl,p _ aJ⟩
   rw[decide_eq_true aM];have a5:=aM;obtain⟨⟨d0,d1,d2⟩,-⟩:=B _ aJ;go_wp2
   go_loopw [52] (λi wq=>∃k:Nat,k <= s /\ i=.int .i64 (k:Int) /\ Below (w.heap.size+1) wr wq /\ ∀j (f:j<m.gone.length),j<k -> nK m m.gone[j]=true) (λi _=>s-(intOf i).toNat)
   ·exact⟨0,by omega,rfl,aJ,λj _ f=>by omega⟩
   ·rename World=>wq
    obtain⟨k,U,rfl,be,R⟩:=hrel;have E:=R;have an:=be;clear R be aJ;obtain⟨⟨d0,d1,d2⟩,D⟩:=B _ an
    by_cases ag:k<s
    ·have ad:(k:Int)<(s:Int):=by omega
     have C:k<m.gone.length:=by rw[P.x];exact ag
     obtain⟨b,ay,rfl,-,-,T⟩:=gh D.gone (by omega);obtain⟨e0,e1,e2⟩:=T k C;obtain⟨x,n⟩:=aH m.gone[k];rw[n] at e0 e1 e2;have t:=n;obtain⟨c,K⟩:=aP (wq.alloc (.cells #[.string ⟨x.key.toArray⟩,.int .i64 x.dev,.int .i64 x.seq] 111));have S:Below (w.heap.size+1) wr c:=by rw[K];exact an.alloc (by have:=an.size;have:=y;omega) _
     have A:Blk c wq.heap.size [.string ⟨x.key.toArray⟩,.int .i64 x.dev,.int .i64 x.seq] 111:=by rw[K];exact Blk.new _ _ _
     have Z:=A.cell 0;have x1:=A.cell 1;have x2:=A.cell 2;simp at Z x1 x2;obtain⟨⟨m0,m1,m2⟩,-⟩:=B _ S;have br:∀a,aK c.drew a -> a.cell? _=_:=λa hh=>bh Z hh
     have bs:∀a,aK c.drew a -> a.cell? _=_:=λa hh=>bh x1 hh
     have bt:∀a,aK c.drew a -> a.cell? _=_:=λa hh=>bh x2 hh
     have bo:∀a,aK c.drew a -> a.cell? _=_:=λa hh=>bh m0 hh
     have bp:∀a,aK c.drew a -> a.cell? _=_:=λa hh=>bh m1 hh
     have bq:∀a,aK c.drew a -> a.cell? _=_:=λa hh=>bh m2 hh
     have⟨az,aU,al⟩:=ae3 (show Calls aE 112 #[.agg #[.string ⟨x.key.toArray⟩,.int .i64 x.dev,.int .i64 x.seq]] c.drew _ from g8 c.drew x) K S;have bn:wq.heap.size<c.heap.size:=A.lt;have bT:=ae bn;clear T n K S A Z x1 x2 m0 m1 m2 d1 bn D;go_wp2_with fail;rw[<- aU.x];refine bP aK [0,1,3,4,502,505,6] (by kernel_rfl) ?_;apply aG;rfl;intro a d;go_simp;exact aF;refine aY rfl rfl (λKK z=>?_);go_simp;refine az.x.mono ?_;rintro e X ⟨rfl,I⟩;refine⟨_,rfl,I,z _ _ ?_⟩;go_simp;have J:Below (w.heap.size+1) wr X:=al.x.drew.trans (I.mono (by have:=al.x.size;have:=y;show _ <= c.heap.size;omega));have u:x∈m.gone:=by rw[<- t];exact aC C
     have aS:=uh X (HT _ J).1 (HT _ J).2 _ (.agg #[.slice a1 8 p1,.slice a2 q p2,.slice (some ⟨b,ay,none⟩) s p3]) m ⟨_,_,_,rfl,(B _ J).2⟩ x.pl x.seq (aO x u).1 (aO x u).2.1 (aO x u).2.2;have M:=J;apply aG;rfl;intro a d;go_simp;exact aF;refine aY rfl rfl (λKK z=>?_);go_simp;refine aS.mono ?_;rintro e L ⟨rfl,ab⟩;refine⟨_,rfl,ab,z _ _ ?_⟩;go_simp;have O:=M.trans (ab.mono (by have:=M.size;have:=y;omega));obtain⟨kn,ai⟩:=aH (dl m x.pl x.seq);rw[ai];have ar:=ai;clear ai;apply aG;rfl;intro a d;go_simp;exact aF;refine aW ?_;cases kn with
     |true=>
      go_wp2
      go_roundw
      ·exact⟨k+1,by omega,by go_num,O,λj f ax=>by
       rcases Nat.lt_succ_iff_lt_or_eq.1 ax with h|h
       ·exact E j f h
       ·subst h;rw[t];exact ar⟩
      ·simp[intOf];omega
     |false=>
      obtain rfl:o=false:=by
       rw[<- H];refine i7 λl=>?_
       have:=(cA l).gknown x (by rw[<- t];exact aC C);rw[ar] at this;cases this
      go_wp2
      go_ret
      exact⟨rfl,p _ O⟩
    ·have ad:¬(k:Int)<(s:Int):=by omega
     have bA:=ae (show ∀g∈m.gone,nK m g=true by
      intro x n;obtain⟨j,f,rfl⟩:=List.mem_iff_getElem.1 n
      exact E j f (by rw[P.x] at f;omega))
     clear D E ag U;go_wp2
     go_loopw [67] (λi wu=>∃k:Nat,k <= q /\ i=.int .i64 (k:Int) /\ Below (w.heap.size+1) wr wu /\ ∀j (f:j<m.items.length),j<k -> lU m m.items[j]=true) (λi _=>q-(intOf i).toNat)
     ·exact⟨0,by omega,rfl,an,λj _ f=>by omega⟩
     ·rename World=>wu
      obtain⟨k,U,rfl,bf,R⟩:=hrel;have E:=R;have ao:=ae bf;clear R bf an d0 d1 d2 ad;obtain⟨⟨d0,d1,d2⟩,D⟩:=B _ ao.x
      by_cases ag:k<q
      ·have ad:(k:Int)<(q:Int):=by omega
       have C:k<m.items.length:=by rw[Q.x];exact ag
       obtain⟨b,ay,rfl,-,-,T⟩:=fw D.items (by omega);obtain⟨e0,e1,e2,e3⟩:=T k C;obtain⟨x,n⟩:=aH m.items[k];rw[n] at e0 e1 e2 e3;have t:=n;obtain⟨c,K⟩:=aP (wu.alloc (.cells #[.string ⟨x.key.toArray⟩,.int .i64 x.dev,.int .i64 x.seq,.int .i64 x.val] 108));have S:Below (w.heap.size+1) wr c:=by rw[K];exact ao.x.alloc (by have:=ao.x.size;have:=y;omega) _
       have A:Blk c wu.heap.size [.string ⟨x.key.toArray⟩,.int .i64 x.dev,.int .i64 x.seq,.int .i64 x.val] 108:=by rw[K];exact Blk.new _ _ _
       have Z:=A.cell 0;have x1:=A.cell 1;have x2:=A.cell 2;have x3:=A.cell 3;simp at Z x1 x2 x3;obtain⟨⟨m0,m1,m2⟩,-⟩:=B _ S;have br:∀a,aK c.drew a -> a.cell? _=_:=λa hh=>bh Z hh
       have bs:∀a,aK c.drew a -> a.cell? _=_:=λa hh=>bh x1 hh
       have bt:∀a,aK c.drew a -> a.cell? _=_:=λa hh=>bh x2 hh
       have bO:∀a,aK c.drew a -> a.cell? _=_:=λa hh=>bh x3 hh
       have bo:∀a,aK c.drew a -> a.cell? _=_:=λa hh=>bh m0 hh
       have bp:∀a,aK c.drew a -> a.cell? _=_:=λa hh=>bh m1 hh
       have bq:∀a,aK c.drew a -> a.cell? _=_:=λa hh=>bh m2 hh
       have⟨az,aU,al⟩:=ae3 (show ∀W,Calls aE 104 #[.agg #[.string ⟨x.key.toArray⟩,.int .i64 x.dev,.int .i64 x.seq,.int .i64 x.val]] W _ from λW=>g7 W x) K S;clear T n K S A Z x1 x2 x3 m0 m1 m2 d2 D;go_wp2_with fail;rw[<- aU.x];refine bP aK [0,1,3,4,502,505,6,7,8,9,10,11,12,13,14,15,16,17,18,19,20,21,522,523,24,25] (by kernel_rfl) ?_;apply aG;rfl;intro a d;go_simp;exact aF
       repeat (apply bK;rfl;rfl;go_simp;go_simp;rfl;apply aG;rfl;intro a d;go_simp;exact aF)
       refine aY rfl rfl (λKK z=>?_);go_simp;refine(az.x _).mono ?_;rintro e X ⟨rfl,I⟩;refine⟨_,rfl,I,z _ _ ?_⟩;go_simp;have J:Below (w.heap.size+1) wr X:=al.x.drew.trans (I.mono (by have:=al.x.size;have:=y;show _ <= c.heap.size;omega));have u:x∈m.items:=by rw[<- t];exact aC C
       have aS:=uh X (HT _ J).1 (HT _ J).2 _ (.agg #[.slice a1 8 p1,.slice (some ⟨b,ay,none⟩) q p2,.slice a3 s p3]) m ⟨_,_,_,rfl,(B _ J).2⟩ x.pl x.seq (aR x u).1 (aR x u).2.1 (aR x u).2.2.1;have M:=J;have bx:aK c.drew X:=I;apply aG;rfl;intro a d;go_simp;exact aF
       repeat (apply bK;rfl;rfl;go_simp;go_simp;rfl;apply aG;rfl;intro a d;go_simp;exact aF)
       refine aY rfl rfl (λKK z=>?_);go_simp;refine aS.mono ?_;rintro e L ⟨rfl,ab⟩;refine⟨_,rfl,ab,z _ _ ?_⟩;go_simp;have O:=M.trans (ab.mono (by have:=M.size;have:=y;omega));have V:aK c.drew L:=bL _ _ _ bx ab;have bY:∀a,aK L a -> a.cell? _=_:=λa hh=>br a (bL _ _ _ V hh)
       have bZ:∀a,aK L a -> a.cell? _=_:=λa hh=>bs a (bL _ _ _ V hh)
       have b0:∀a,aK L a -> a.cell? _=_:=λa hh=>bt a (bL _ _ _ V hh)
       have b1:∀a,aK L a -> a.cell? _=_:=λa hh=>bO a (bL _ _ _ V hh)
       have bV:∀a,aK L a -> a.cell? _=_:=λa hh=>bo a (bL _ _ _ V hh)
       have bW:∀a,aK L a -> a.cell? _=_:=λa hh=>bp a (bL _ _ _ V hh)
       have bX:∀a,aK L a -> a.cell? _=_:=λa hh=>bq a (bL _ _ _ V hh)
       obtain⟨kn,ai⟩:=aH (dl m x.pl x.seq);rw[ai];have ar:=ai
       have ak:(kn=true -> 1 <= x.val -> x.val <= 16777216 -> ¬m.buried x.pl<x.seq) -> o=false:=λbN=>by
        rw[<- H];refine i7 λl=>?_
        have hf:=cA l;have u:x∈m.items:=by rw[<- t];exact aC C
        have bj:=hf.iknown x u;rw[ar] at bj;exact bN bj (hf.val x u).1 (hf.val x u).2 (hf.above x u)
       cases kn with
       |false=>
        obtain rfl:o=false:=ak λh=>by cases h
        apply aG;rfl;intro a d;go_simp;exact aF
        repeat (apply bK;rfl;rfl;go_simp;go_simp;rfl;apply aG;rfl;intro a d;go_simp;(repeat (simp(disch:=omega) only[af,if_pos];go_simp));exact aF)
        refine aW ?_;go_wp2
        go_ret
        exact⟨rfl,p _ O⟩
       |true=>
        by_cases v1:x.val<1
        ·obtain rfl:o=false:=ak λ_ _ _ _=>by omega
         have bv:decide (x.val<1)=true:=by simpa using v1
         apply aG;rfl;intro a d;go_simp;exact aF
         repeat (apply bK;rfl;rfl;go_simp;go_simp;rfl;apply aG;rfl;intro a d;go_simp;(repeat (simp(disch:=omega) only[af,if_pos];go_simp));exact aF)
         refine aW ?_;go_wp2
         go_ret
         exact⟨rfl,p _ O⟩
        ·by_cases v2:x.val>16777216
         ·obtain rfl:o=false:=ak λ_ _ _ _=>by omega
          have bv:decide (x.val<1)=false:=by simpa using v1
          have bQ:decide (x.val>16777216)=true:=by simpa using v2
          apply aG;rfl;intro a d;go_simp;exact aF
          repeat (apply bK;rfl;rfl;go_simp;go_simp;rfl;apply aG;rfl;intro a d;go_simp;(repeat (simp(disch:=omega) only[af,if_pos];go_simp));exact aF)
          refine aW ?_;go_wp2
          go_ret
          exact⟨rfl,p _ O⟩
         ·have bv:decide (x.val<1)=false:=by simpa using v1
          have bQ:decide (x.val>16777216)=false:=by simpa using v2
          have Hv:1 <= x.val /\ x.val <= 16777216:=by omega
          apply aG;rfl;intro a d;go_simp;exact aF
          repeat (apply bK;rfl;rfl;go_simp;go_simp;rfl;apply aG;rfl;intro a d;go_simp;(repeat (simp(disch:=omega) only[af,if_pos];go_simp));exact aF)
          refine aY rfl rfl (λKK z=>?_);go_simp;refine(az.x _).mono ?_;rintro e w6 ⟨rfl,bb⟩;refine⟨_,rfl,bb,z _ _ ?_⟩;go_simp;have bc:Below (w.heap.size+1) wr w6:=O.trans (bb.mono (by have:=O.size;have:=y;omega));have bw:=rQ w6 _ (.agg #[.slice a1 8 p1,.slice (some ⟨b,ay,none⟩) q p2,.slice a3 s p3]) m ⟨_,_,_,rfl,(B _ bc).2⟩ x.pl (by rw[P.x];omega) a5;have a6:=bc;apply aG;rfl;intro a d;go_simp;exact aF
          repeat (apply bK;rfl;rfl;go_simp;go_simp;rfl;apply aG;rfl;intro a d;go_simp;(repeat (simp(disch:=omega) only[af,if_pos];go_simp));exact aF)
          refine aY rfl rfl (λKK z=>?_);go_simp;refine bw.mono ?_;rintro e w7 ⟨rfl,bd⟩;refine⟨_,rfl,bd,z _ _ ?_⟩;go_simp;have a7:=a6.trans (bd.mono (by have:=a6.size;have:=y;omega));obtain⟨bu,bg⟩:=aH (m.buried x.pl);rw[bg] at ak⊢
          by_cases v3:x.seq <= bu
          ·obtain rfl:o=false:=ak λ_ _ _=>by omega
           have bS:decide (x.seq <= bu)=true:=by simpa using v3
           apply aG;rfl;intro a d;go_simp;exact aF
           repeat (apply bK;rfl;rfl;go_simp;go_simp;rfl;apply aG;rfl;intro a d;go_simp;exact aF)
           refine aW ?_;go_wp2
           go_ret
           exact⟨rfl,p _ a7⟩
          ·have bS:decide (x.seq <= bu)=false:=by simpa using v3
           have bB:=ae (show lU m x=true by
            unfold lU;rw[ar,bg];have:=Hv;simp
            omega)
           clear v3;apply aG;rfl;intro a d;go_simp;exact aF
           repeat (apply bK;rfl;rfl;go_simp;go_simp;rfl;apply aG;rfl;intro a d;go_simp;exact aF)
           refine aW ?_;go_wp2
           go_roundw
           ·exact⟨k+1,by omega,by go_num,a7,λj f ax=>by
            rcases Nat.lt_succ_iff_lt_or_eq.1 ax with h|h
            ·exact E j f h
            ·subst h;rw[t];exact bB.x⟩
           ·simp[intOf];omega
      ·have ad:¬(k:Int)<(q:Int):=by omega
       have bi:gH m=true:=by
        unfold gH;simp only[Bool.and_eq_true,decide_eq_true_eq];refine⟨⟨⟨⟨⟨av.x,bD⟩,aN⟩,a5⟩,?_⟩,?_⟩
        ·rw[List.all_eq_true];exact bA.x
        ·rw[List.all_eq_true];intro x n;obtain⟨j,f,rfl⟩:=List.mem_iff_getElem.1 n;exact E j f (by rw[Q.x] at f;omega)
       have bz:=bi;have a4:=xq wu _ (.agg #[.slice a1 8 p1,.slice a2 q p2,.slice a3 s p3]) m ⟨_,_,_,rfl,D⟩ (fG ((ej m).1 bi) (by rw[Q.x];exact aZ) (by rw[P.x];exact a0));go_wp2_with fail;refine a4.mono ?_;rintro e X ⟨⟨r,rfl,bJ⟩,I⟩;have M:=ao.x.trans (I.mono (by have:=ao.x.size;have:=y;omega));obtain⟨N,hN⟩:=aH ((cQ m).length);obtain⟨aa,cc,rfl,-⟩:=bJ;rw[hN]
       have a9:=ae (show o=decide (N <= 60000) by
        rw[<- H];unfold aV;rw[bz,Q.x,P.x,hN]
        simp[aZ,a0])
       clear hN a4 I
       by_cases ba:(N:Int)>60000
       ·have bG:decide ((N:Int)>60000)=true:=by simpa using ba
        obtain rfl:o=false:=by rw[a9.x];simp;omega
        go_wp2
        go_ret
        exact⟨rfl,p _ M⟩
       ·have bG:decide ((N:Int)>60000)=false:=by simpa using ba
        obtain rfl:o=true:=by rw[a9.x];simp;omega
        go_wp2
        go_ret
        exact⟨rfl,p _ M⟩
theorem kZ(b:eB w)(a:4 <= w.heap.size)(F:aQ)(v:Value)(m:aT)(h:di F w v m)(f:∀x∈m.items,x.key.length <= 1000000)(d:∀x∈m.gone,x.key.length <= 1000000):
 Calls aE 83 #[v] w λe c=>e=.returned (.int .i64 (if aV m then 0 else 5)) /\ Kpt w c:=pV w b a F v m h
end
end Go.Proofs.YtobjdpngnfbicaaGreatDoor
