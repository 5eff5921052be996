/-
  RSearch RCheck RClone Range RSort ShelfD
-/
import Derived.Test.YtobjdpngnfbicaaGreatDoorZO04
import Derived.RangeFuncNested
import Derived.RangeFuncBound
import Derived.Sort.OwnSorted
open Go.Lib renaming hid->ae
open Go.IntWalk renaming i64_in->af
open Nat renaming le_refl->aq,le_trans->au,lt_of_lt_of_le->aw
open List renaming getElem_mem->aC,length_cons->aD
open Go.Proofs.Tryz renaming prog->aE
set_option maxHeartbeats 6000000
set_option maxRecDepth 100000
set_option linter.all false
namespace Go.Proofs.YtobjdpngnfbicaaGreatDoor
open Go.RowKit
open Tryz
variable(w:World)(F:aX)(n:Nat)(v:Value)(b:List UInt8)(m:aU){W w':World}{G:aX}{i j o:Nat}{L:List Value}{r:aU}
section
attribute [local go_sem] opC upC told bG br bH bt bw bI bJ
theorem qO:
 Calls aE 209 #[.string ⟨b.toArray⟩] w fun e c=>e=.returned (.bool false) /\ w=c:=by
 go_enter func209,ntmps209
 go_wp2_with fail
 go_ret
 exact⟨rfl,rfl⟩
def vM(a b:bR):Int:=if a<b then -1 else if b<a then 1 else 0
theorem Bx(a b:List UInt8):
 Calls aE 208 #[.string ⟨a.toArray⟩,.string ⟨b.toArray⟩] w fun e c=>e=.returned (.int .i64 (vM a b)) /\ w=c:=by
 have f:=ae (qO w a);have h:=ae (qO w b);unfold vM
 by_cases d:a<b
 ·rw[if_pos d];have i:Op.bytesLess a b=true:=by rw[Go.Proofs.bytesLess_eq];simpa using d
  go_enter func208,ntmps208
  go_wp2_with fail;refine f.out.mono ?_;rintro e c ⟨rfl,rfl⟩;go_wp2_with fail
  first
  |(refine h.out.mono ?_;rintro e c ⟨rfl,rfl⟩)
  |(refine f.out.mono ?_;rintro e c ⟨rfl,rfl⟩)
  go_wp2_with fail
  go_ret
  exact⟨rfl,rfl⟩
 rw[if_neg d];have i:Op.bytesLess a b=false:=by rw[Go.Proofs.bytesLess_eq];simpa using d
 by_cases g:b<a
 ·rw[if_pos g];have j:(a == b)=false:=by simp;rintro rfl;exact lc _ g
  clear d g
  go_enter func208,ntmps208
  go_wp2_with fail;refine f.out.mono ?_;rintro e c ⟨rfl,rfl⟩;go_wp2_with fail
  first
  |(refine h.out.mono ?_;rintro e c ⟨rfl,rfl⟩)
  |(refine f.out.mono ?_;rintro e c ⟨rfl,rfl⟩)
  go_wp2_with fail
  go_ret
  exact⟨rfl,rfl⟩
 ·rw[if_neg g];obtain rfl:=tR d g;clear d g
  go_enter func208,ntmps208
  go_wp2_with fail;refine f.out.mono ?_;rintro e c ⟨rfl,rfl⟩;go_wp2_with fail
  first
  |(refine h.out.mono ?_;rintro e c ⟨rfl,rfl⟩)
  |(refine f.out.mono ?_;rintro e c ⟨rfl,rfl⟩)
  go_wp2_with fail
  go_ret
  exact⟨rfl,rfl⟩
def plV(p:RPl):Value:=.agg #[.string ⟨p.1.toArray⟩,.int .i64 p.2]
theorem zq(x y:Int)(a:World)(c:a=w.alloc (.cells #[.int .i64 x,.int .i64 y] 3)):
 Calls aE 171 #[.slice (some ⟨w.heap.size,0,none⟩) 2 2] a fun e k=>e=.returned (.int .i64 (if x=0 then y else x)) /\ a=k:=by
 have h:a.cell? ⟨w.heap.size,0,none⟩=some (.int .i64 x):=by
  have:=(Blk.new w #[.int .i64 x,.int .i64 y] 3).cell 0;rw[c];simp
 have j:a.cell? ⟨w.heap.size,1,none⟩=some (.int .i64 y):=by
  have:=(Blk.new w #[.int .i64 x,.int .i64 y] 3).cell 1;rw[c];simp
 clear c;obtain⟨g,f⟩:=aH w.heap.size;rw[f] at h j⊢;clear f
 by_cases b:x=0
 ·subst b;rw[if_pos rfl]
  go_enter func171,ntmps171
  go_wp2_with fail
  go_loop [8] (fun i=>i=.int .i64 0 \/ i=.int .i64 1 \/ (y=0 /\ i=.int .i64 2)) (fun i=>2-(intOf i).toNat)
  case atStart=>exact .inl rfl
  case round=>
   rcases hrel with rfl|rfl|⟨rfl,rfl⟩
   ·go_wp2_with fail;exact⟨.inr (.inl rfl),by simp[intOf]⟩
   ·by_cases d:y=0
    ·subst d;go_wp2_with fail;exact⟨by simp,by simp[intOf]⟩
    ·have m:(y != 0)=true:=by simp[d]
     clear d;go_wp2_with fail
     go_ret
     exact⟨rfl,rfl⟩
   ·go_wp2_with fail
    go_ret
    exact⟨rfl,rfl⟩
 ·rw[if_neg b];have l:(x != 0)=true:=by simp[b]
  clear b
  go_enter func171,ntmps171
  go_wp2_with fail
  go_loop [8] (fun i=>i=.int .i64 0) (fun i=>2-(intOf i).toNat)
  case atStart=>rfl
  case round=>
   subst hrel;go_wp2_with fail
   go_ret
   exact⟨rfl,rfl⟩
theorem C9(p q:RPl):g9 p q=if vM p.1 q.1=0 then Lib.compareInt p.2 q.2 else vM p.1 q.1:=by
 unfold g9 vM Lib.compareInt plt
 by_cases b:p.1<q.1
 ·simp[b]
 ·by_cases a:q.1<p.1
  ·have c:p.1≠q.1:=fun e=>lc q.1 (by rw[e] at a;exact a)
   simp[b,a,c]
  ·have e:=tR b a;have hi:=lc q.1;simp[e,hi]
def zr:o7:=.steady 0 (.steady 1 (.steady 2 (.steady 3 (.steady 5 (.steady 6 (.steady 7 (.steady 8 (.move 4 (.move 9 (.move 10 (.move 11 (.steady 12 .done))))))))))))
theorem jY(p q:RPl):
 Calls aE 167 #[plV p,plV q] w fun e b=>e=.returned (.int .i64 (g9 p q)) /\ Below w.heap.size w b:=by
 obtain⟨c,j⟩:=aQ ((w.alloc (.cells #[.string ⟨p.1.toArray⟩,.int .i64 p.2] 174)).alloc (.cells #[.string ⟨q.1.toArray⟩,.int .i64 q.2] 174));have s:Below w.heap.size w c:=by rw[j];exact(aI _ _).alloc (by simp) _
 have i:=(Blk.new w #[.string ⟨p.1.toArray⟩,.int .i64 p.2] 174).alloc (.cells #[.string ⟨q.1.toArray⟩,.int .i64 q.2] 174);have g:=Blk.new (w.alloc (.cells #[.string ⟨p.1.toArray⟩,.int .i64 p.2] 174)) #[.string ⟨q.1.toArray⟩,.int .i64 q.2] 174;rw[<- j] at i g;have t:(w.alloc (.cells #[.string ⟨p.1.toArray⟩,.int .i64 p.2] 174)).heap.size=w.heap.size+1:=by simp
 rw[t] at g;have y:∀b,aJ c.drew b -> b.cell? ⟨w.heap.size,0,none⟩=some (.string ⟨p.1.toArray⟩):=fun b hh=>aZ (by simpa using i.cell 0) hh
 have z:∀b,aJ c.drew b -> b.cell? ⟨w.heap.size,1,none⟩=some (.int .i64 p.2):=fun b hh=>aZ (by simpa using i.cell 1) hh
 have A:∀b,aJ c.drew b -> b.cell? ⟨w.heap.size+1,0,none⟩=some (.string ⟨q.1.toArray⟩):=fun b hh=>aZ (by simpa using g.cell 0) hh
 have B:∀b,aJ c.drew b -> b.cell? ⟨w.heap.size+1,1,none⟩=some (.int .i64 q.2):=fun b hh=>aZ (by simpa using g.cell 1) hh
 have x:=ae j;have r:=ae (Bx c.drew p.1 q.1);have n:=ae (Tryz.cmp_Compare_int p.2 q.2 c.drew);clear i g t j;unfold plV
 go_enter func167,ntmps167
 go_wp2_with fail;rw[<- x.out];refine jx aJ zr 13 (by kernel_rfl) (by kernel_rfl) bF bC _ (fun _ _ h=>h) ?_;unfold zr;refine bV (v:=?_) rfl (bj rfl) (fun b d=>?_) (fun K a=>?_);rotate_left;(focus (go_simp;first|done|exact rfl));go_simp;refine a _ ?_;clear a K;refine bV (v:=?_) rfl (bj rfl) (fun b d=>?_) (fun K a=>?_);rotate_left;(focus (go_simp;first|done|exact rfl));go_simp;refine a _ ?_;clear a K;refine bV (v:=?_) rfl (bj rfl) (fun b d=>?_) (fun K a=>?_);rotate_left;(focus (go_simp;first|done|exact rfl));go_simp;refine a _ ?_;clear a K;refine bV (v:=?_) rfl (bj rfl) (fun b d=>?_) (fun K a=>?_);rotate_left;(focus (go_simp;first|done|exact rfl));go_simp;refine a _ ?_;clear a K;refine bV (v:=?_) rfl (bj rfl) (fun b d=>?_) (fun K a=>?_);rotate_left;(focus (go_simp;first|done|exact rfl));go_simp;refine a _ ?_;clear a K;refine bV (v:=?_) rfl (bj rfl) (fun b d=>?_) (fun K a=>?_);rotate_left;(focus (go_simp;first|done|exact rfl));go_simp;refine a _ ?_;clear a K;refine bV (v:=?_) rfl (bj rfl) (fun b d=>?_) (fun K a=>?_);rotate_left;(focus (go_simp;first|done|exact rfl));go_simp;refine a _ ?_;clear a K;refine bV (v:=?_) rfl (bj rfl) (fun b d=>?_) (fun K a=>?_);rotate_left;(focus (go_simp;first|done|exact rfl));go_simp;refine a _ ?_;clear a K;clear y z A B;refine jX rfl rfl (fun f a=>?_);go_simp;refine r.out.mono ?_;rintro e b ⟨rfl,rfl⟩;refine⟨_,rfl,bF _,a _ _ ?_⟩;clear a f;go_simp;refine jX rfl rfl (fun f a=>?_);go_simp;refine n.out.mono ?_;rintro e b ⟨rfl,rfl⟩;refine⟨_,rfl,bF _,a _ _ ?_⟩;clear a f r n;go_simp;refine jX rfl rfl (fun f a=>?_);go_simp;obtain⟨m,k⟩:=aQ (c.drew.alloc (.cells #[.int .i64 (vM p.1 q.1),.int .i64 (Lib.compareInt p.2 q.2)] 3));have u:aJ c.drew m:=by rw[k];exact aI _ _
 have l:=zq c.drew (vM p.1 q.1) (Lib.compareInt p.2 q.2) m k;rw[<- C9] at l;have o:=ae l;clear l;rw[show(c.alloc (.cells #[.int .i64 (vM p.1 q.1),.int .i64 (Lib.compareInt p.2 q.2)] 3)).drew=m from k.symm];refine⟨u,a _ _ ?_⟩;clear a f k;go_simp;refine jX rfl rfl (fun f a=>?_);go_simp;refine o.out.mono ?_;rintro e b ⟨rfl,rfl⟩;refine⟨_,rfl,bF _,a _ _ ?_⟩;clear a f o;go_simp;refine bV (v:=?_) rfl (bj rfl) (fun b d=>?_) (fun K a=>?_);rotate_left;(focus (go_simp;first|done|exact rfl));go_simp;refine a _ ?_;clear a K;refine lX ?_;go_wp2_with fail
 go_ret
 exact⟨rfl,s.drew.trans (RowKit.Below.mono u s.size)⟩
def itV(x:RIt):Value:=.agg #[.string ⟨x.key.toArray⟩,.int .i64 x.dev,.int .i64 x.seq,.int .i64 x.val]
def goV(x:RGo):Value:=.agg #[.string ⟨x.key.toArray⟩,.int .i64 x.dev,.int .i64 x.seq]
theorem gV(x:RIt):
 Calls aE 104 #[itV x] w fun e l=>e=.returned (plV x.pl) /\ Below w.heap.size w l:=by
 obtain⟨m,b⟩:=aQ ((w.alloc (.cells #[.string ⟨x.key.toArray⟩,.int .i64 x.dev,.int .i64 x.seq,.int .i64 x.val] 108)).alloc (.cells #[.string ⟨x.key.toArray⟩,.int .i64 x.dev] 174));have c:Below w.heap.size w m:=by rw[b];exact(aI _ _).alloc (by simp) _
 have a:=Blk.new (w.alloc (.cells #[.string ⟨x.key.toArray⟩,.int .i64 x.dev,.int .i64 x.seq,.int .i64 x.val] 108)) #[.string ⟨x.key.toArray⟩,.int .i64 x.dev] 174;rw[<- b] at a;have d:(w.alloc (.cells #[.string ⟨x.key.toArray⟩,.int .i64 x.dev,.int .i64 x.seq,.int .i64 x.val] 108)).heap.size=w.heap.size+1:=by simp
 rw[d] at a;have j:=ae (a.cell 0);have k:=ae (a.cell 1);have i:=ae b;have h:=ae c;clear a d b c;unfold itV
 go_enter func104,ntmps104
 go_wp2_with fail;rw[<- i.out];have f:=j.out;have g:=k.out;simp at f g;exact bodyPost_ret (v:=plV x.pl) (by simp[results,results104,go_sem,f,g,plV,RIt.pl]) rfl ⟨rfl,h.out⟩
theorem gW(x:RGo):
 Calls aE 112 #[goV x] w fun e l=>e=.returned (plV x.pl) /\ Below w.heap.size w l:=by
 obtain⟨m,b⟩:=aQ ((w.alloc (.cells #[.string ⟨x.key.toArray⟩,.int .i64 x.dev,.int .i64 x.seq] 111)).alloc (.cells #[.string ⟨x.key.toArray⟩,.int .i64 x.dev] 174));have c:Below w.heap.size w m:=by rw[b];exact(aI _ _).alloc (by simp) _
 have a:=Blk.new (w.alloc (.cells #[.string ⟨x.key.toArray⟩,.int .i64 x.dev,.int .i64 x.seq] 111)) #[.string ⟨x.key.toArray⟩,.int .i64 x.dev] 174;rw[<- b] at a;have d:(w.alloc (.cells #[.string ⟨x.key.toArray⟩,.int .i64 x.dev,.int .i64 x.seq] 111)).heap.size=w.heap.size+1:=by simp
 rw[d] at a;have j:=ae (a.cell 0);have k:=ae (a.cell 1);have i:=ae b;have h:=ae c;clear a d b c;unfold goV
 go_enter func112,ntmps112
 go_wp2_with fail;rw[<- i.out];have f:=j.out;have g:=k.out;simp at f g;exact bodyPost_ret (v:=plV x.pl) (by simp[results,results112,go_sem,f,g,plV,RGo.pl]) rfl ⟨rfl,h.out⟩
/- known. -/
end
theorem tb(hT:eJ w)(h3:4 <= w.heap.size)(F:aX)(v:Value)(m:aU)(h:dl F w v m)(p:RPl)(g:Int)(P:p.1.length <= 9223372036854775807)(ai:eX p.2)(al:eX g):
 Calls aE 143 #[v,plV p,.int .i64 g] w fun e E=>e=.returned (.bool (dq m p g)) /\ Below w.heap.size w E:=by
 replace h:=j8 h 37
 obtain⟨a1,p1,a2,p2,a3,p3,Q,n2,n3,r,rfl,h,l1,l2,l3,n,U,W,Z,S,aa,Hx,u,c0,c1,c2⟩:=h
 try rw[n.out]
 try rw[U.out]
 try rw[W.out]
 clear h;obtain⟨j,d⟩:=p;dsimp only at P ai;obtain⟨l,q⟩:=aQ (r.alloc (.cells #[.string ⟨j.toArray⟩,.int .i64 d] 174));have y:Below r.heap.size r l:=by rw[q];exact aI _ _
 have a:Below w.heap.size w l:=cQ S.out y;have o:=Blk.new r #[.string ⟨j.toArray⟩,.int .i64 d] 174;rw[<- q,aa.out] at o;have R:=o.cell 0;simp at R;have ad:=cd hT h3 a;have ak:4 <= l.heap.size:=by have:=a.size;omega
 have V:=ae (s8 l ad ak j P);obtain⟨f,C⟩:=aH (dq m (j,d) g);rw[C];have i:=ae C;have I:=ae o;have Y:=ae q;have t:=ae y;obtain⟨kk,A⟩:=aH (fe j);rw[A] at V;have H:=ae A;clear C o q y A c0 c1 c2;unfold plV
 go_enter func143,ntmps143
 go_wp2_with fail;rw[<- Z.out,<- Y.out];refine V.out.mono ?_;rintro e G ⟨rfl,c⟩
 have r1:G.cell? ⟨w.heap.size+1,1,none⟩=some (.int .i64 d):=by
  have:=(I.out.keep (c.block _ I.out.lt)).cell 1;simpa using this
 have m0:G.cell? ⟨w.heap.size,0,none⟩=some (.slice a1 Q p1):=by
  have:=((u.out.keep (t.out.block _ u.out.lt)).keep (c.block _ (aw u.out.lt t.out.size))).cell 0;simpa using this
 have N:=(Hx.out.keep (w':=l) fun b _ B=>t.out.block b B).keep (w':=G) fun b _ B=>c.block b B
 have T:=ae N;clear N R;cases kk with
 |false=>
  have ag:=H.out;obtain rfl:f=false:=by rw[<- i.out];simp[dq,ag]
  clear V;go_wp2_with fail
  go_ret
  exact⟨rfl,a.trans (c.mono a.size)⟩
 |true=>
  by_cases J:0 <= d
  ·by_cases d1:d<(Q:Int)
   ·by_cases K:1 <= g
    ·obtain⟨k,rfl⟩:=Int.eq_ofNat_of_zero_le J;have M:k<m.seen.length:=by rw[n.out];omega
     obtain⟨b,an,rfl,-,-,L⟩:=ie T.out.seen (by omega);have e0:=L k M;obtain⟨s,D⟩:=aH m.seen[k];rw[D] at e0;have X:=ae (show m.seen.getD k 0=s by rw[List.getD_eq_getElem?_getD,List.getElem?_eq_getElem M,D];rfl)
     have O:=ae (show f=decide (g <= s) by
      rw[<- i.out];unfold dq;rw[H.out];have h1:((k:Int)).toNat=k:=by omega
      simp only[h1,X.out,n.out];simp[K]
      omega)
     clear L D V
     by_cases x:g <= s
     ·have z:f=true:=by rw[O.out];simpa using x
      subst z;go_wp2_with fail
      go_ret
      exact⟨rfl,a.trans (c.mono a.size)⟩
     ·have z:f=false:=by rw[O.out];simpa using x
      subst z;go_wp2_with fail
      go_ret
      exact⟨iM (by simpa using x),a.trans (c.mono a.size)⟩
    ·
     obtain rfl:f=false:=by rw[<- i.out];simp[dq,K]
     clear V;go_wp2_with fail
     go_ret
     exact⟨rfl,a.trans (c.mono a.size)⟩
   ·have ab:¬d<((m.seen.length:Nat):Int):=by rw[n.out];exact d1
    obtain rfl:f=false:=by rw[<- i.out];simp[dq,ab]
    clear V;go_wp2_with fail
    go_ret
    exact⟨rfl,a.trans (c.mono a.size)⟩
  ·
   obtain rfl:f=false:=by rw[<- i.out];simp[dq,J]
   clear V;go_wp2_with fail
   go_ret
   exact⟨rfl,a.trans (c.mono a.size)⟩
/- ascending. -/
section
attribute [local go_sem] opC upC told bG br bH bt bw bI bJ
def ue{α:Type}(pl:α -> RPl)(l:List α)(w:World)(i:Value)(wr:World):Prop:=
 ∃k:Nat,k <= l.length /\ i=.int .i64 ((k:Int)+1) /\ (∀j (h:j+1<l.length),j<k -> plt (pl l[j]) (pl l[j+1])) /\ Below w.heap.size w wr
theorem Bz(l:List RIt)(h:Rows F w 4 v l.length (l.flatMap bU))(hl:l.length <= 1000000):
 Calls aE 141 #[v,.func (.func 104) #[] #[]] w fun e c=>e=.returned (.bool (decide (Asc RIt.pl l))) /\ Below w.heap.size w c:=by
 obtain⟨ok,B⟩:=aH (decide (Asc RIt.pl l));rw[B];have T:=ae B;have Hh:=ae h;obtain⟨a,ar,rfl,-⟩:=h.shape;obtain⟨n,A⟩:=aH l.length;have p:=ae A;rw[A] at hl⊢;have U:=ae (show ue RIt.pl l w (.int .i64 1) w from⟨0,by omega,rfl,fun j m hk=>by omega,Below.refl _ _⟩);clear B h A
 go_enter func141,ntmps141
 go_wp2_with fail
 go_loopw [5] (fun i wr=>ue RIt.pl l w i wr) (fun i _=>n+1-(intOf i).toNat)
 case atStart=>exact U.out
 case round=>
  obtain⟨k,hk,rfl,X,Y⟩:=hrel;have R:=ae X;have o:=ae Y;clear X Y U
  by_cases ax:k+1<n
  ·have al:(k:Int)+1<(n:Int):=by omega
   have hm:=Hh.out.keep (w':=wr) fun b _ f=>o.out.block b f
   obtain⟨b,aI,rfl,-,-,z⟩:=fB hm (by rw[p.out];omega);have ak:k<l.length:=by rw[p.out];omega
   have Z:k+1<l.length:=by rw[p.out];omega
   obtain⟨G,H,I,J⟩:=z k ak;obtain⟨K,L,M,N⟩:=z (k+1) Z;obtain⟨x,C⟩:=aH l[k];obtain⟨y,D⟩:=aH (l[k+1]);rw[C] at G H I J;rw[D] at K L M N;have p0:∀c,aJ wr.drew c -> c.cell? _=_:=fun c hh=>aZ G hh
   have p1:∀c,aJ wr.drew c -> c.cell? _=_:=fun c hh=>aZ H hh
   have p2:∀c,aJ wr.drew c -> c.cell? _=_:=fun c hh=>aZ I hh
   have p3:∀c,aJ wr.drew c -> c.cell? _=_:=fun c hh=>aZ J hh
   have q0:∀c,aJ wr.drew c -> c.cell? _=_:=fun c hh=>aZ K hh
   have q1:∀c,aJ wr.drew c -> c.cell? _=_:=fun c hh=>aZ L hh
   have q2:∀c,aJ wr.drew c -> c.cell? _=_:=fun c hh=>aZ M hh
   have q3:∀c,aJ wr.drew c -> c.cell? _=_:=fun c hh=>aZ N hh
   have V:=ae C;have W:=ae D;have P:=ae (show Calls aE 104 #[.agg #[.string ⟨x.key.toArray⟩,.int .i64 x.dev,.int .i64 x.seq,.int .i64 x.val]] wr.drew _ from gV wr.drew x);have an:IntKind.i64.wrap ((k:Int)+1-1)=(k:Int):=by rw[af _ (by omega)];omega
   have ay:IntKind.i64.wrap (k:Int)=(k:Int):=af _ (by omega);have ao:((k:Int)+1).toNat=k+1:=by omega
   have av:(k:Int)<(n:Int):=by omega
   clear z hm G H I J K L M N C D;go_wp2_with fail;refine bS aJ (up 6 [7,8,9,10,11,506,512,513,14]) (by kernel_rfl) ?_;apply aG;rfl;intro c q;go_simp;(repeat (simp(disch:=omega) only[af,if_pos];go_simp));exact aF;refine bq rfl rfl (fun g d=>?_);go_simp;refine P.out.mono ?_;rintro e E ⟨rfl,s⟩;refine⟨_,rfl,s,d _ _ ?_⟩;clear d g P p0 p1 p2 p3;go_simp;have Q:=ae (show Calls aE 104 #[.agg #[.string ⟨y.key.toArray⟩,.int .i64 y.dev,.int .i64 y.seq,.int .i64 y.val]] E _ from gV E y);have aa:=ae (show Below wr.heap.size wr E from(Below.refl _ _).drew.trans s);clear s;apply aG;rfl;intro c q;go_simp;(repeat (simp(disch:=omega) only[af,if_pos];go_simp));exact aF;refine bq rfl rfl (fun g d=>?_);go_simp;refine Q.out.mono ?_;rintro e w2 ⟨rfl,t⟩;refine⟨_,rfl,t,d _ _ ?_⟩;clear d g Q q0 q1 q2 q3;go_simp;have O:=ae (jY w2 x.pl y.pl);have ab:=ae (cQ aa.out t);clear t;apply aG;rfl;intro c q;go_simp;(repeat (simp(disch:=omega) only[af,if_pos];go_simp));exact aF;refine bq rfl rfl (fun g d=>?_);go_simp;refine O.out.mono ?_;rintro e w3 ⟨rfl,u⟩;refine⟨_,rfl,u,d _ _ ?_⟩;clear d g O;go_simp;have S:=ae (o.out.trans ((cQ ab.out u).mono o.out.size));clear u an ao
   by_cases f:plt x.pl y.pl
   ·have r:g9 x.pl y.pl = -1:=by unfold g9;rw[if_pos f]
    rw[r];have ad:=ae f;clear r f;apply aG;rfl;intro c q;go_simp;(repeat (simp(disch:=omega) only[af,if_pos];go_simp));exact aF;refine aY ?_;go_wp2_with fail
    go_roundw
    case rel=>exact⟨k+1,by omega,by go_num,fun j m ai=>by
     rcases Nat.lt_succ_iff_lt_or_eq.1 ai with h|h
     ·exact R.out j m h
     ·subst h;rw[V.out,W.out];exact ad.out,S.out⟩
    case measure=>simp[intOf];omega
   ·have r:0 <= g9 x.pl y.pl:=by unfold g9;rw[if_neg f];split<;>omega
    have Hf:=ae (show ok=false by
     rw[<- T.out];refine decide_eq_false fun ha=>f ?_
     have:=iK RIt.pl ha k Z;rw[V.out,W.out] at this
     exact this)
    generalize g9 x.pl y.pl=cv at *;clear f;have az:decide (cv ≥ 0)=true:=by simpa using r
    apply aG;rfl;intro c q;go_simp;(repeat (simp(disch:=omega) only[af,if_pos];go_simp));exact aF;refine aY ?_;go_wp2_with fail
    go_ret
    exact⟨by rw[Hf.out];rfl,S.out⟩
  ·have al:¬(k:Int)+1<(n:Int):=by omega
   have ag:=ae (show ok=true by
    rw[<- T.out,decide_eq_true_iff,nK];intro j m
    exact R.out j m (by rw[p.out] at m;omega))
   go_wp2_with fail
   go_ret
   exact⟨by rw[ag.out];rfl,o.out⟩
theorem BA(l:List RGo)(h:Rows F w 3 v l.length (l.flatMap dC))(hl:l.length <= 1000000):
 Calls aE 142 #[v,.func (.func 112) #[] #[]] w fun e c=>e=.returned (.bool (decide (Asc RGo.pl l))) /\ Below w.heap.size w c:=by
 obtain⟨Z,B⟩:=aH (decide (Asc RGo.pl l));rw[B];have R:=ae B;have Hh:=ae h;obtain⟨a,ar,rfl,-⟩:=h.shape;obtain⟨n,A⟩:=aH l.length;have p:=ae A;rw[A] at hl⊢;have S:=ae (show ue RGo.pl l w (.int .i64 1) w from⟨0,by omega,rfl,fun j m hk=>by omega,Below.refl _ _⟩);clear B h A
 go_enter func142,ntmps142
 go_wp2_with fail
 go_loopw [5] (fun i wr=>ue RGo.pl l w i wr) (fun i _=>n+1-(intOf i).toNat)
 case atStart=>exact S.out
 case round=>
  obtain⟨k,hk,rfl,V,W⟩:=hrel;have P:=ae V;have o:=ae W;clear V W S
  by_cases ax:k+1<n
  ·have al:(k:Int)+1<(n:Int):=by omega
   have Y:=Hh.out.keep (w':=wr) fun b _ f=>o.out.block b f
   obtain⟨b,aI,rfl,-,-,z⟩:=gn Y (by rw[p.out];omega);have ak:k<l.length:=by rw[p.out];omega
   have X:k+1<l.length:=by rw[p.out];omega
   obtain⟨G,H,I⟩:=z k ak;obtain⟨J,K,L⟩:=z (k+1) X;obtain⟨x,C⟩:=aH l[k];obtain⟨y,D⟩:=aH (l[k+1]);rw[C] at G H I;rw[D] at J K L;have p0:∀c,aJ wr.drew c -> c.cell? _=_:=fun c hh=>aZ G hh
   have p1:∀c,aJ wr.drew c -> c.cell? _=_:=fun c hh=>aZ H hh
   have p2:∀c,aJ wr.drew c -> c.cell? _=_:=fun c hh=>aZ I hh
   have q0:∀c,aJ wr.drew c -> c.cell? _=_:=fun c hh=>aZ J hh
   have q1:∀c,aJ wr.drew c -> c.cell? _=_:=fun c hh=>aZ K hh
   have q2:∀c,aJ wr.drew c -> c.cell? _=_:=fun c hh=>aZ L hh
   have T:=ae C;have U:=ae D;have N:=ae (show Calls aE 112 #[.agg #[.string ⟨x.key.toArray⟩,.int .i64 x.dev,.int .i64 x.seq]] wr.drew _ from gW wr.drew x);have an:IntKind.i64.wrap ((k:Int)+1-1)=(k:Int):=by rw[af _ (by omega)];omega
   have ay:IntKind.i64.wrap (k:Int)=(k:Int):=af _ (by omega);have ao:((k:Int)+1).toNat=k+1:=by omega
   have av:(k:Int)<(n:Int):=by omega
   clear z Y G H I J K L C D;go_wp2_with fail;refine bS aJ (up 6 [7,8,9,10,11,506,512,513,14]) (by kernel_rfl) ?_;apply aG;rfl;intro c q;go_simp;(repeat (simp(disch:=omega) only[af,if_pos];go_simp));exact aF;refine bq rfl rfl (fun g d=>?_);go_simp;refine N.out.mono ?_;rintro e E ⟨rfl,s⟩;refine⟨_,rfl,s,d _ _ ?_⟩;clear d g N p0 p1 p2;go_simp;have O:=ae (show Calls aE 112 #[.agg #[.string ⟨y.key.toArray⟩,.int .i64 y.dev,.int .i64 y.seq]] E _ from gW E y);have aa:=ae (show Below wr.heap.size wr E from(Below.refl _ _).drew.trans s);clear s;apply aG;rfl;intro c q;go_simp;(repeat (simp(disch:=omega) only[af,if_pos];go_simp));exact aF;refine bq rfl rfl (fun g d=>?_);go_simp;refine O.out.mono ?_;rintro e w2 ⟨rfl,t⟩;refine⟨_,rfl,t,d _ _ ?_⟩;clear d g O q0 q1 q2;go_simp;have M:=ae (jY w2 x.pl y.pl);have ab:=ae (cQ aa.out t);clear t;apply aG;rfl;intro c q;go_simp;(repeat (simp(disch:=omega) only[af,if_pos];go_simp));exact aF;refine bq rfl rfl (fun g d=>?_);go_simp;refine M.out.mono ?_;rintro e w3 ⟨rfl,u⟩;refine⟨_,rfl,u,d _ _ ?_⟩;clear d g M;go_simp;have Q:=ae (o.out.trans ((cQ ab.out u).mono o.out.size));clear u an ao
   by_cases f:plt x.pl y.pl
   ·have r:g9 x.pl y.pl = -1:=by unfold g9;rw[if_pos f]
    rw[r];have ad:=ae f;clear r f;apply aG;rfl;intro c q;go_simp;(repeat (simp(disch:=omega) only[af,if_pos];go_simp));exact aF;refine aY ?_;go_wp2_with fail
    go_roundw
    case rel=>exact⟨k+1,by omega,by go_num,fun j m ai=>by
     rcases Nat.lt_succ_iff_lt_or_eq.1 ai with h|h
     ·exact P.out j m h
     ·subst h;rw[T.out,U.out];exact ad.out,Q.out⟩
    case measure=>simp[intOf];omega
   ·have r:0 <= g9 x.pl y.pl:=by unfold g9;rw[if_neg f];split<;>omega
    have Hf:=ae (show Z=false by
     rw[<- R.out];refine decide_eq_false fun ha=>f ?_
     have:=iK RGo.pl ha k X;rw[T.out,U.out] at this
     exact this)
    generalize g9 x.pl y.pl=cv at *;clear f;have az:decide (cv ≥ 0)=true:=by simpa using r
    apply aG;rfl;intro c q;go_simp;(repeat (simp(disch:=omega) only[af,if_pos];go_simp));exact aF;refine aY ?_;go_wp2_with fail
    go_ret
    exact⟨by rw[Hf.out];rfl,Q.out⟩
  ·have al:¬(k:Int)+1<(n:Int):=by omega
   have ag:=ae (show Z=true by
    rw[<- R.out,decide_eq_true_iff,nK];intro j m
    exact P.out j m (by rw[p.out] at m;omega))
   go_wp2_with fail
   go_ret
   exact⟨by rw[ag.out];rfl,o.out⟩
/- buried. -/
end
section
attribute [local go_sem] opC upC told bG br bH bt bw bI bJ
theorem qP(x:RGo)(p:RPl):
 Calls aE 174 #[goV x,plV p] w fun e a=>e=.returned (.int .i64 (g9 x.pl p)) /\ Below w.heap.size w a:=by
 obtain⟨b,g⟩:=aQ ((w.alloc (.cells #[.string ⟨x.key.toArray⟩,.int .i64 x.dev,.int .i64 x.seq] 111)).alloc (.cells #[.string ⟨p.1.toArray⟩,.int .i64 p.2] 174));have t:Below w.heap.size w b:=by rw[g];exact(aI _ _).alloc (by simp) _
 have d:=(Blk.new w #[.string ⟨x.key.toArray⟩,.int .i64 x.dev,.int .i64 x.seq] 111).alloc (.cells #[.string ⟨p.1.toArray⟩,.int .i64 p.2] 174);have f:=Blk.new (w.alloc (.cells #[.string ⟨x.key.toArray⟩,.int .i64 x.dev,.int .i64 x.seq] 111)) #[.string ⟨p.1.toArray⟩,.int .i64 p.2] 174;rw[<- g] at d f;have n:(w.alloc (.cells #[.string ⟨x.key.toArray⟩,.int .i64 x.dev,.int .i64 x.seq] 111)).heap.size=w.heap.size+1:=by simp
 rw[n] at f;have u:∀a,aJ b.drew a -> a.cell? ⟨w.heap.size,0,none⟩=some (.string ⟨x.key.toArray⟩):=fun a hh=>aZ (by simpa using d.cell 0) hh
 have v:∀a,aJ b.drew a -> a.cell? ⟨w.heap.size,1,none⟩=some (.int .i64 x.dev):=fun a hh=>aZ (by simpa using d.cell 1) hh
 have y:∀a,aJ b.drew a -> a.cell? ⟨w.heap.size,2,none⟩=some (.int .i64 x.seq):=fun a hh=>aZ (by simpa using d.cell 2) hh
 have z:∀a,aJ b.drew a -> a.cell? ⟨w.heap.size+1,0,none⟩=some (.string ⟨p.1.toArray⟩):=fun a hh=>aZ (by simpa using f.cell 0) hh
 have A:∀a,aJ b.drew a -> a.cell? ⟨w.heap.size+1,1,none⟩=some (.int .i64 p.2):=fun a hh=>aZ (by simpa using f.cell 1) hh
 have s:=ae g;have l:=ae (show Calls aE 112 #[.agg #[.string ⟨x.key.toArray⟩,.int .i64 x.dev,.int .i64 x.seq]] b.drew _ from gW b.drew x);clear d f n g;unfold goV plV
 go_enter func174,ntmps174
 go_wp2_with fail;rw[<- s.out];refine bS aJ [0,2,501,503,4] (by kernel_rfl) ?_;apply aG;rfl;intro a m;go_simp;exact aF;refine bq rfl rfl (fun h c=>?_);go_simp;refine l.out.mono ?_;rintro e o ⟨rfl,i⟩;refine⟨_,rfl,i,c _ _ ?_⟩;clear c h l u v y;go_simp;have k:=ae (show Calls aE 167 #[plV x.pl,.agg #[.string ⟨p.1.toArray⟩,.int .i64 p.2]] o _ from jY o x.pl p);have q:=ae (cQ t ((Below.refl _ _).drew.trans i));clear i;apply aG;rfl;intro a m;go_simp;exact aF;refine bq rfl rfl (fun h c=>?_);go_simp;refine k.out.mono ?_;rintro e B ⟨rfl,j⟩;refine⟨_,rfl,j,c _ _ ?_⟩;clear c h k z A;go_simp;have r:=ae (cQ q.out j);clear j;apply aG;rfl;intro a m;go_simp;exact aF;refine aY ?_;go_wp2_with fail
 go_ret
 exact⟨rfl,r.out⟩
/- slices.BinarySearchFunc at Gone. -/
end
section
attribute [local go_sem] opC upC told bG br bH bt bw bI bJ
def Ab(l:List RGo)(p:RPl)(i j:Nat):Prop:=
 (∀k (h:k<l.length),k<i -> plt l[k].pl p) /\ ∀k (h:k<l.length),j <= k -> ¬plt l[k].pl p
theorem Da{l:List RGo}{p:RPl}(c:Asc RGo.pl l)(s:Ab l p i j)(d:o<l.length)(b:plt l[o].pl p):Ab l p (o+1) j:=
 ⟨fun k e f=>by
  rcases Nat.lt_succ_iff_lt_or_eq.1 f with a|a
  ·exact iA (List.pairwise_iff_getElem.1 c k o e d a) b
  ·subst a;exact b,s.2⟩
theorem Db{l:List RGo}{p:RPl}(c:Asc RGo.pl l)(s:Ab l p i j)(e:o<l.length)(a:¬plt l[o].pl p):Ab l p i o:=
 ⟨s.1,fun k f g=>by
  rcases Nat.lt_or_ge o k with b|b
  ·exact fun d=>a (iA (List.pairwise_iff_getElem.1 c o k e f b) d)
  ·have:k=o:=by omega
   subst this;exact a⟩
theorem BB{l:List RGo}{p:RPl}(a:Asc RGo.pl l)(c:i<l.length)(b:l[i].pl=p):dh RGo.pl l p=some l[i]:=by
 rw[<- b];exact lO a (aC c)
theorem td{l:List RGo}{p:RPl}(d:Asc RGo.pl l)(s:Ab l p i i)(e:∀h:i<l.length,l[i].pl≠p):dh RGo.pl l p=none:=by
 rw[gP];intro x f a;obtain⟨k,b,rfl⟩:=List.mem_iff_getElem.1 f;rcases Nat.lt_trichotomy k i with h|h|h
 ·exact gM p (a▸s.1 k b h)
 ·subst h;exact e b a
 ·have hi:i<l.length:=by omega
  have c:plt l[i].pl p:=by
   have:=List.pairwise_iff_getElem.1 d i k hi b h;rw[a] at this;exact this
  exact s.2 i hi (aq _) c
abbrev EB(l:List RGo)(p:RPl)(i:Nat)(a:Bool):Prop:=
 (a=true -> ∃h:i<l.length,dh RGo.pl l p=some l[i]) /\ (a=false -> dh RGo.pl l p=none)
theorem vN(l:List RGo)(p:RPl)(h:Rows F w 3 v l.length (l.flatMap dC))(r:l.length <= 1000000)(ha:Asc RGo.pl l):
 Calls aE 173 #[v,plV p,.func (.func 174) #[] #[]] w fun e c=>
  (∃(i:Nat)(ok:Bool),e=.returned (.tuple #[.int .i64 i,.bool ok]) /\ EB l p i ok) /\ Below w.heap.size w c:=by
 have Hh:=ae h;obtain⟨a,aL,rfl,-⟩:=h.shape;obtain⟨n,hn⟩:=aH l.length;have o:=ae hn;have D:=ae ha;rw[hn] at r;obtain⟨O,L⟩:=aQ (w.alloc (.cells #[.string ⟨p.1.toArray⟩,.int .i64 p.2] 174));have ab:Below w.heap.size w O:=by rw[L];exact aI _ _
 have V:=Blk.new w #[.string ⟨p.1.toArray⟩,.int .i64 p.2] 174;rw[<- L] at V;have al:O.heap.size=w.heap.size+1:=by rw[L];simp
 have Hp:=ae V;have ar:=ae L;have aa:=ae al;have ao:=ae (show Below (w.heap.size+1) O O from Below.refl _ _);have P:=ae ab;clear h ha V L al ab;unfold plV;rw[o.out]
 go_enter func173,ntmps173
 go_wp2_with fail
 go_loopg [9,10] n (fun g s9 aK wr=>∃d hi:Nat,s9=.int .i64 d /\ aK=.int .i64 hi /\ d <= hi /\ hi <= n /\ hi-d <= g /\ Below (w.heap.size+1) O wr /\ Ab l p d hi)
 case atStart=>
  exact⟨0,n,rfl,rfl,Nat.zero_le _,aq _,by omega,by
   have:=ao.out;rw[ar.out] at this⊢
   exact this,fun k hk h0=>by omega,fun k hk h0=>by have:=o.out;omega⟩
 case round=>
  obtain⟨d,hi,rfl,rfl,aM,av,hg,ad,hs⟩:=hrel;have j:=ae ad;have Q:=ae hs;have K:=Hh.out.keep (w':=wr) fun b _ ag=>(j.out.block b (by omega)).trans (P.out.block b ag)
  have M:wr.cell? ⟨w.heap.size,0,none⟩=some (.string ⟨p.1.toArray⟩):=by
   simpa using(Hp.out.keep (j.out.block w.heap.size (by omega))).cell 0
  have N:wr.cell? ⟨w.heap.size,1,none⟩=some (.int .i64 p.2):=by
   simpa using(Hp.out.keep (j.out.block w.heap.size (by omega))).cell 1
  clear ad hs
  by_cases ag:d<hi
  ·obtain⟨m,hm⟩:=aQ ((d+hi)/2);obtain⟨b,az,rfl,-,-,J⟩:=gn K (by rw[o.out];omega);have u:m<l.length:=by rw[o.out];omega
   obtain⟨z,A,B⟩:=J m u;obtain⟨x,y⟩:=aH l[m];rw[y] at z A B;have H:=ae y;have C:=ae (show Calls aE 174 #[.agg #[.string ⟨x.key.toArray⟩,.int .i64 x.dev,.int .i64 x.seq],.agg #[.string ⟨p.1.toArray⟩,.int .i64 p.2]] wr.drew _ from qP wr.drew x p);have W:∀c,aJ wr.drew c -> c.cell? _=_:=fun c hh=>aZ z hh
   have X:∀c,aJ wr.drew c -> c.cell? _=_:=fun c hh=>aZ A hh
   have Y:∀c,aJ wr.drew c -> c.cell? _=_:=fun c hh=>aZ B hh
   have Z:∀c,aJ wr.drew c -> c.cell? _=_:=fun c hh=>aZ M hh
   have r1:∀c,aJ wr.drew c -> c.cell? _=_:=fun c hh=>aZ N hh
   have ay:IntKind.i64.wrap (m:Int)=(m:Int):=af _ (by omega);have aN:IntKind.i64.wrap ((d:Int)+hi)=(d:Int)+hi:=af _ (by omega);have aO:((d:Int)+hi)/2=(m:Int):=by omega
   have ai:(m:Int)<(n:Int):=by have:=o.out;omega
   have G:=ae hm;clear J K z A B M N y hm;go_wp2_with fail;refine bS aJ (up 6 [506,7]) (by kernel_rfl) ?_;apply aG;rfl;intro c f;go_simp;(repeat (simp(disch:=omega) only[af,if_pos];go_simp));exact aF;refine bq rfl rfl (fun T I=>?_);go_simp;refine C.out.mono ?_;rintro e w2 ⟨rfl,t⟩;refine⟨_,rfl,t,I _ _ ?_⟩;clear I T C W X Y Z r1;go_simp;have E:=ae (j.out.trans (((Below.refl _ _).drew.trans t).mono (au (Nat.le_of_eq aa.out.symm) j.out.size)));clear t
   by_cases r:plt x.pl p
   ·have s:g9 x.pl p = -1:=by unfold g9;rw[if_pos r]
    rw[s];have S:=ae r;clear s r;apply aG;rfl;intro c f;go_simp;(repeat (simp(disch:=omega) only[af,if_pos];go_simp));exact aF;refine aY ?_;go_wp2_with fail
    go_roundg (hi-(m+1))
    case measure=>have:=G.out;omega
    case rel=>exact⟨m+1,hi,by go_num,rfl,by have:=G.out;omega,av,aq _,E.out,Da D.out Q.out u (by rw[H.out];exact S.out)⟩
   ·have s:0 <= g9 x.pl p:=by unfold g9;rw[if_neg r];split<;>omega
    have S:=ae r;generalize g9 x.pl p=U at *;clear r;have aP:¬U<0:=by omega
    apply aG;rfl;intro c f;go_simp;(repeat (simp(disch:=omega) only[af,if_pos];go_simp));exact aF;refine aY ?_;go_wp2_with fail
    go_roundg (m-d)
    case measure=>have:=G.out;omega
    case rel=>exact⟨d,m,rfl,rfl,by have:=G.out;omega,by have:=G.out;omega,aq _,E.out,Db D.out Q.out u (by rw[H.out];exact S.out)⟩
  ·have q:hi=d:=by omega
   subst q
   by_cases ax:hi<n
   ·obtain⟨b,az,rfl,-,-,J⟩:=gn K (by rw[o.out];omega);have u:hi<l.length:=by rw[o.out];omega
    obtain⟨z,A,B⟩:=J hi u;obtain⟨x,y⟩:=aH l[hi];rw[y] at z A B;have H:=ae y;have C:=ae (show Calls aE 174 #[.agg #[.string ⟨x.key.toArray⟩,.int .i64 x.dev,.int .i64 x.seq],.agg #[.string ⟨p.1.toArray⟩,.int .i64 p.2]] wr.drew _ from qP wr.drew x p);have W:∀c,aJ wr.drew c -> c.cell? _=_:=fun c hh=>aZ z hh
    have X:∀c,aJ wr.drew c -> c.cell? _=_:=fun c hh=>aZ A hh
    have Y:∀c,aJ wr.drew c -> c.cell? _=_:=fun c hh=>aZ B hh
    have Z:∀c,aJ wr.drew c -> c.cell? _=_:=fun c hh=>aZ M hh
    have r1:∀c,aJ wr.drew c -> c.cell? _=_:=fun c hh=>aZ N hh
    have ay:IntKind.i64.wrap (hi:Int)=(hi:Int):=af _ (by omega);have ai:(hi:Int)<(n:Int):=by omega
    clear J K z A B M N y;go_wp2_with fail;refine bS aJ (up 11 [511,12,13,14,15]) (by kernel_rfl) ?_;apply aG;rfl;intro c f;go_simp;(repeat (simp(disch:=omega) only[af,if_pos];go_simp));exact aF
    repeat (apply bE;rfl;rfl;go_simp;go_simp;rfl;apply aG;rfl;intro c f;go_simp;(repeat (simp(disch:=omega) only[af,if_pos];go_simp));exact aF)
    refine bq rfl rfl (fun T I=>?_);go_simp;refine C.out.mono ?_;rintro e w2 ⟨rfl,t⟩;refine⟨_,rfl,t,I _ _ ?_⟩;clear I T C W X Y Z r1;go_simp;have E:=ae (j.out.trans (((Below.refl _ _).drew.trans t).mono (au (Nat.le_of_eq aa.out.symm) j.out.size)));clear t
    by_cases q:x.pl=p
    ·have s:g9 x.pl p=0:=by unfold g9;rw[q,if_neg (gM p),if_neg (gM p)]
     rw[s];have R:=ae q;clear s q;apply aG;rfl;intro c f;go_simp;(repeat (simp(disch:=omega) only[af,if_pos];go_simp));exact aF
     repeat (apply bE;rfl;rfl;go_simp;go_simp;rfl;apply aG;rfl;intro c f;go_simp;(repeat (simp(disch:=omega) only[af,if_pos];go_simp));exact aF)
     refine aY ?_;go_wp2_with fail;go_ret2;exact⟨⟨hi,true,rfl,fun _=>⟨u,BB D.out u (by rw[H.out];exact R.out)⟩,fun h=>by cases h⟩,P.out.trans (E.out.mono (Nat.le_succ _))⟩
    ·have s:g9 x.pl p≠0:=by
      unfold g9;intro h;split at h
      ·omega
      ·rename_i h1;split at h
       ·omega
       ·rename_i h2;exact q (me h1 h2)
     have R:=ae q;generalize g9 x.pl p=U at *;clear q;have aR:(U == 0)=false:=by simpa using s
     apply aG;rfl;intro c f;go_simp;(repeat (simp(disch:=omega) only[af,if_pos];go_simp));exact aF
     repeat (apply bE;rfl;rfl;go_simp;go_simp;rfl;apply aG;rfl;intro c f;go_simp;(repeat (simp(disch:=omega) only[af,if_pos];go_simp));exact aF)
     refine aY ?_;go_wp2_with fail;go_ret2;exact⟨⟨hi,false,rfl,⟨fun h=>by simp at h,fun _=>td D.out Q.out (fun _=>by rw[H.out];exact R.out)⟩⟩,P.out.trans (E.out.mono (Nat.le_succ _))⟩
   ·have ai:¬(hi:Int)<(n:Int):=by omega
    have ak:dh RGo.pl l p=none:=td D.out Q.out (fun h=>absurd (o.out▸h) ax);have an:=ae ak;clear ak K M N;go_wp2_with fail;refine bS aJ (up 11 [511,12,13,14,15]) (by kernel_rfl) ?_;apply aG;rfl;intro c f;go_simp;(repeat (simp(disch:=omega) only[af,if_pos];go_simp));exact aF
    repeat (apply bE;rfl;rfl;go_simp;go_simp;rfl;apply aG;rfl;intro c f;go_simp;(repeat (simp(disch:=omega) only[af,if_pos];go_simp));exact aF)
    refine aY ?_;go_wp2_with fail;go_ret2;exact⟨⟨hi,false,rfl,⟨fun h=>by simp at h,fun _=>an.out⟩⟩,P.out.trans (j.out.drew.mono (Nat.le_succ _))⟩
end
section
attribute [local go_sem] opC upC told bG br bH bt bw bI bJ
theorem qQ(h:dl F w v m)(p:RPl)(W:m.gone.length <= 1000000)(D:Asc RGo.pl m.gone):
 Calls aE 117 #[v,plV p] w fun e w'=>e=.returned (.int .i64 (m.buried p)) /\ Below w.heap.size w w':=by
 replace h:=h.mono (G:=fun b=>b<w.heap.size) fun b _ c=>c
 replace h:=j8 h 37
 obtain⟨a1,p1,a2,p2,B,J,n1,n2,f,r,rfl,h,l1,l2,l3,M,N,z,P,K,Z,Q,A,R,S,T⟩:=h
 try rw[M.out]
 try rw[N.out]
 try rw[z.out]
 clear h;obtain⟨g,q⟩:=aQ (r.alloc (.cells #[.string ⟨p.1.toArray⟩,.int .i64 p.2] 174));have d:Below r.heap.size r g:=by rw[q];exact aI _ _
 have C:=A.out.keep (d.block _ A.out.lt);have o:=Q.out.keep (w':=g) fun b _ c=>d.block b c
 have t:=ae (show Calls aE 173 #[.slice B f J,.agg #[.string ⟨p.1.toArray⟩,.int .i64 p.2],.func (.func 174) #[] #[]] g _ from vN g _ (.slice B f J) m.gone p o.gone W D);have O:=ae q;have u:=ae (cQ K.out d);have s:=ae C;have L:=ae o;clear q d C o D;unfold plV
 go_enter func117,ntmps117
 go_wp2_with fail;rw[<- P.out,<- O.out];refine t.out.mono ?_;rintro e Y ⟨⟨i,X,rfl,k,l⟩,a⟩;have y:=ae (u.out.trans (a.mono u.out.size));clear t R S T;cases X with
 |false=>
  have j:=ae (show m.buried p=0 by unfold aU.buried;rw[l rfl]);clear k l a;go_wp2_with fail
  go_ret
  exact⟨fM j.out.symm,y.out⟩
 |true=>
  obtain⟨hi,n⟩:=k rfl;have V:=(s.out.keep (a.block _ s.out.lt)).cell 2;simp at V;have H:=L.out.keep (w':=Y) fun b _ c=>a.block b c
  obtain⟨b,ad,rfl,-,-,E⟩:=gn H.gone (by omega);obtain⟨-,-,U⟩:=E i hi;obtain⟨x,I⟩:=aH m.gone[i];rw[I] at U n;have j:=ae (show m.buried p=x.seq by unfold aU.buried;rw[n]);have ab:i<f:=by rw[<- z.out];exact hi
  have aa:(i:Int)<(f:Int):=by omega
  clear E H I n k l a;go_wp2_with fail
  go_ret
  exact⟨fM j.out.symm,y.out⟩
theorem iQ{m:aU}(h:bp m=true -> False):bp m=false:=by
 cases a:bp m with
 |false=>rfl
 |true=>exact(h a).elim
theorem fO(f:ew r)(q:r.items.length <= 4096)(p:r.gone.length <= 4096):mn r:=by
 have c:∀i,r.seen.getD i 0 <= 1099511627776:=fun i=>by
  by_cases h:i<r.seen.length
  ·rw[List.getD_eq_getElem?_getD,List.getElem?_eq_getElem h];exact(f.seen _ (aC h)).2
  ·rw[List.getD_eq_getElem?_getD,List.getElem?_eq_none (by omega)]
   decide
 refine⟨fun n l=>?_,fun x a=>?_,fun x a=>?_,by rw[f.len];omega,by omega,by omega⟩
 ·have:=f.seen n l;omega
 ·obtain⟨d,b,e,g⟩:=eQ (f.iknown x a);have j:=c x.pl.2.toNat;have o:=f.val x a;rw[f.len] at b;have k:x.pl.2=x.dev:=rfl;exact⟨dU (dT (f.iknown x a)),by omega,by omega,by omega⟩
 ·obtain⟨d,b,e,g⟩:=eQ (f.gknown x a);have j:=c x.pl.2.toNat;rw[f.len] at b;have k:x.pl.2=x.dev:=rfl;exact⟨dU (dT (f.gknown x a)),by omega,by omega⟩
theorem o9(hT:eJ w)(h3:4 <= w.heap.size)(F:aX)(v:Value)(m:aU)(h:dl F w v m):
 Calls aE 83 #[v] w fun e a=>e=.returned (.int .i64 (if bp m then 0 else 5)) /\ Below w.heap.size w a:=by
 replace h:=h.mono (G:=fun b=>b<w.heap.size) fun b _ bz=>bz
 obtain⟨p,bd⟩:=aH (bp m);rw[bd];have K:=ae bd
 replace h:=j8 h 37
 obtain⟨a1,p1,a2,p2,a3,p3,n1,t,u,wx,rfl,h,l1,l2,l3,az,Y,R,aM,a0,bm,y,bl,c0,c1,c2⟩:=h
 try rw[az.out]
 try rw[Y.out]
 try rw[R.out]
 have aW:=ae h.itemsB;have aV:=ae h.goneB
 have HT:=ae (show ∀a,Below (w.heap.size+1) wx a -> eJ a /\ 4 <= a.heap.size from fun a hb=>by
  have a5:=a0.out.trans (hb.mono (Nat.le_succ _))
  exact⟨cd hT h3 a5,au h3 a5.size⟩)
 have I:=ae (show ∀a,Below (w.heap.size+1) wx a -> (a.cell? ⟨w.heap.size,0,none⟩=some (.slice a1 n1 p1) /\ a.cell? ⟨w.heap.size,1,none⟩=some (.slice a2 t p2) /\ a.cell? ⟨w.heap.size,2,none⟩=some (.slice a3 u p3)) /\ cG (fun b=>b<w.heap.size) a (.slice a1 n1 p1) (.slice a2 t p2) (.slice a3 u p3) m from fun a hb=>by
  have L:=bl.out.keep (hb.block _ (by omega));have k0:=L.cell 0;have k1:=L.cell 1;have k2:=L.cell 2;simp at k0 k1 k2
  exact⟨⟨k0,k1,k2⟩,y.out.keep fun b a5 bz=>hb.block b (by omega)⟩)
 have H0:=ae (show Below (w.heap.size+1) wx wx from Below.refl _ _);have q:=ae (show ∀a,Below (w.heap.size+1) wx a -> Below w.heap.size w a from fun a hb=>a0.out.trans (hb.mono (Nat.le_succ _)));have B:=ae (show wx.heap.size=w.heap.size+1 from bm.out);clear h bd hT y bl c0 c1 c2 a0 bm
 go_enter func83,ntmps83
 by_cases bx:n1=8
 case neg=>
  have hI:¬(n1:Int)=8:=by omega
  have bn:((n1:Int) != 8)=true:=by simp[hI]
  obtain rfl:p=false:=by
   rw[<- K.out];refine iQ fun d=>bx ?_
   rw[<- az.out];exact(cq d).len
  go_wp2_with fail;rw[<- aM.out]
  go_ret
  exact⟨rfl,q.out _ H0.out⟩
 subst bx
 by_cases bb:t <= 4096
 case neg=>
  have hI:(t:Int)>4096:=by omega
  obtain rfl:p=false:=by
   rw[<- K.out];refine iQ fun d=>bb ?_
   rw[<- Y.out];exact(dr d).2.1
  go_wp2_with fail;rw[<- aM.out]
  go_ret
  exact⟨rfl,q.out _ H0.out⟩
 have bn:¬(t:Int)>4096:=by omega
 by_cases bc:u <= 4096
 case neg=>
  have hI:(u:Int)>4096:=by omega
  obtain rfl:p=false:=by
   rw[<- K.out];refine iQ fun d=>bc ?_
   rw[<- R.out];exact(dr d).2.2.1
  go_wp2_with fail;rw[<- aM.out]
  go_ret
  exact⟨rfl,q.out _ H0.out⟩
 have bN:¬(u:Int)>4096:=by omega
 go_wp2_with fail;rw[<- aM.out];clear bn bN
 go_loopw [28] (fun i wr=>∃k:Nat,k <= 8 /\ i=.int .i64 (k:Int) /\ wr=wx /\ ∀j (l:j<m.seen.length),j<k -> j4 m.seen[j]=true) (fun i _=>8-(intOf i).toNat)
 case atStart=>exact⟨0,by omega,rfl,rfl,fun j _ l=>by omega⟩
 case round=>
  obtain⟨k,L,rfl,rfl,S⟩:=hrel;have A:=ae S;clear S;obtain⟨⟨d0,d1,d2⟩,z⟩:=I.out _ H0.out
  by_cases V:k<8
  ·have ai:(k:Int)<8:=by omega
   have J:k<m.seen.length:=by rw[az.out];exact V
   obtain⟨b,aK,rfl,-,-,U⟩:=ie z.seen (by omega);have e0:=U k J;obtain⟨x,o⟩:=aH m.seen[k];rw[o] at e0;have y:=ae o;clear U o z
   by_cases hs:0 <= x /\ x <= 1099511627776
   ·obtain⟨s1,s2⟩:=hs;have b1:¬x<0:=by omega
    have b2:¬x>1099511627776:=by omega
    have Hs:=ae (show j4 x=true by unfold j4;exact decide_eq_true ⟨s1,s2⟩);clear s1 s2;go_wp2_with fail
    go_roundw
    case rel=>exact⟨k+1,by omega,by go_num,by trivial,fun j l aI=>by
     rcases Nat.lt_succ_iff_lt_or_eq.1 aI with h|h
     ·exact A.out j l h
     ·subst h;rw[y.out];exact Hs.out⟩
    case measure=>simp[intOf];omega
   ·obtain rfl:p=false:=by
     rw[<- K.out];refine iQ fun d=>hs ?_
     exact(cq d).seen x (by rw[<- y.out];exact aC J)
    by_cases s1:x<0
    ·go_wp2_with fail
     go_ret
     exact⟨rfl,q.out _ H0.out⟩
    ·have s2:x>1099511627776:=by omega
     go_wp2_with fail
     go_ret
     exact⟨rfl,q.out _ H0.out⟩
  ·have ai:¬(k:Int)<8:=by omega
   have bM:=ae (show m.seen.all j4=true by
    rw[List.all_eq_true];intro x o;obtain⟨j,l,rfl⟩:=List.mem_iff_getElem.1 o
    exact A.out j l (by rw[az.out] at l;omega))
   have HA:=ae (Bz wr _ _ m.items z.items (by rw[Y.out];omega));clear z A V L;go_wp2_with fail;refine HA.out.mono ?_;rintro e w2 ⟨rfl,br⟩;have an:=ae (show Below (w.heap.size+1) wr w2 from br.mono (by rw[B.out];exact aq _));clear HA br
   by_cases ag:Asc RIt.pl m.items
   case neg=>
    rw[decide_eq_false ag];have d:=iQ (m:=m) fun d=>ag (cq d).items
    obtain rfl:p=false:=by rw[<- K.out];exact d
    clear d ag;go_wp2_with fail
    go_ret
    exact⟨rfl,q.out _ an.out⟩
   rw[decide_eq_true ag];have bH:=ae ag;obtain⟨⟨f0,f1,f2⟩,bA⟩:=I.out _ an.out;have HA:=ae (BA w2 _ _ m.gone bA.gone (by rw[R.out];omega));clear ag bA d0 d1 d2;go_wp2_with fail;refine HA.out.mono ?_;rintro e w3 ⟨rfl,bs⟩;have aL:=ae (show Below (w.heap.size+1) wr w3 from an.out.trans (bs.mono (by have:=an.out.size;rw[B.out] at this;exact this)));clear HA bs f0 f1 f2
   by_cases ad:Asc RGo.pl m.gone
   case neg=>
    rw[decide_eq_false ad];have d:=iQ (m:=m) fun d=>ad (cq d).gone
    obtain rfl:p=false:=by rw[<- K.out];exact d
    clear d ad;go_wp2_with fail
    go_ret
    exact⟨rfl,q.out _ aL.out⟩
   rw[decide_eq_true ad];have bh:=ae ad;obtain⟨⟨d0,d1,d2⟩,-⟩:=I.out _ aL.out;clear ad an;go_wp2_with fail
   go_loopw [52] (fun i wq=>∃k:Nat,k <= u /\ i=.int .i64 (k:Int) /\ Below (w.heap.size+1) wr wq /\ ∀j (l:j<m.gone.length),j<k -> mV m m.gone[j]=true) (fun i _=>u-(intOf i).toNat)
   case atStart=>exact⟨0,by omega,rfl,aL.out,fun j _ l=>by omega⟩
   case round=>
    rename World=>wq
    obtain⟨k,L,rfl,bt,S⟩:=hrel;have A:=ae S;have av:=ae bt;clear S bt aL;obtain⟨⟨d0,d1,d2⟩,z⟩:=I.out _ av.out
    by_cases V:k<u
    ·have ai:(k:Int)<(u:Int):=by omega
     have J:k<m.gone.length:=by rw[R.out];exact V
     obtain⟨b,aK,rfl,-,-,U⟩:=gn z.gone (by omega);obtain⟨e0,e1,e2⟩:=U k J;obtain⟨x,o⟩:=aH m.gone[k];rw[o] at e0 e1 e2;have y:=ae o;obtain⟨c,M⟩:=aQ (wq.alloc (.cells #[.string ⟨x.key.toArray⟩,.int .i64 x.dev,.int .i64 x.seq] 111));have Z:Below (w.heap.size+1) wr c:=by rw[M];exact av.out.alloc (by have:=av.out.size;have:=B.out;omega) _
     have D:Blk c wq.heap.size [.string ⟨x.key.toArray⟩,.int .i64 x.dev,.int .i64 x.seq] 111:=by rw[M];exact Blk.new _ _ _
     have x0:=D.cell 0;have x1:=D.cell 1;have x2:=D.cell 2;simp at x0 x1 x2;obtain⟨⟨m0,m1,m2⟩,-⟩:=I.out _ Z;have aR:∀a,aJ c.drew a -> a.cell? _=_:=fun a hh=>aZ x0 hh
     have aS:∀a,aJ c.drew a -> a.cell? _=_:=fun a hh=>aZ x1 hh
     have aT:∀a,aJ c.drew a -> a.cell? _=_:=fun a hh=>aZ x2 hh
     have aN:∀a,aJ c.drew a -> a.cell? _=_:=fun a hh=>aZ m0 hh
     have aO:∀a,aJ c.drew a -> a.cell? _=_:=fun a hh=>aZ m1 hh
     have aP:∀a,aJ c.drew a -> a.cell? _=_:=fun a hh=>aZ m2 hh
     have al:=ae (show Calls aE 112 #[.agg #[.string ⟨x.key.toArray⟩,.int .i64 x.dev,.int .i64 x.seq]] c.drew _ from gW c.drew x);have a4:=ae M;have ar:=ae Z;have bB:wq.heap.size<c.heap.size:=D.lt;have b0:=ae bB;clear U o M Z D x0 x1 x2 m0 m1 m2 d1 bB z;go_wp2_with fail;rw[<- a4.out];refine bS aJ [0,1,3,4,502,505,6] (by kernel_rfl) ?_;apply aG;rfl;intro a f;go_simp;exact aF;refine bq rfl rfl (fun C n=>?_);go_simp;refine al.out.mono ?_;rintro e w4 ⟨rfl,E⟩;refine⟨_,rfl,E,n _ _ ?_⟩;clear n C al;go_simp;have H:Below (w.heap.size+1) wr w4:=ar.out.drew.trans (E.mono (by have:=ar.out.size;have:=B.out;show _ <= c.heap.size;omega));have s:x∈m.gone:=by rw[<- y.out];exact aC J
     have ak:=ae (tb w4 (HT.out _ H).1 (HT.out _ H).2 _ (.agg #[.slice a1 8 p1,.slice a2 t p2,.slice (some ⟨b,aK,none⟩) u p3]) m ⟨_,_,_,rfl,(I.out _ H).2⟩ x.pl x.seq (aV.out x s).1 (aV.out x s).2.1 (aV.out x s).2.2);have P:=ae H;clear E H s;apply aG;rfl;intro a f;go_simp;exact aF;refine bq rfl rfl (fun C n=>?_);go_simp;refine ak.out.mono ?_;rintro e O ⟨rfl,T⟩;refine⟨_,rfl,T,n _ _ ?_⟩;clear n C ak aR aS aT aN aO aP;go_simp;have Q:=ae (P.out.trans (T.mono (by have:=P.out.size;have:=B.out;omega)));clear T;obtain⟨kn,ab⟩:=aH (dq m x.pl x.seq);rw[ab];have ay:=ae ab;clear ab;apply aG;rfl;intro a f;go_simp;exact aF;refine aY ?_;cases kn with
     |true=>
      go_wp2_with fail
      go_roundw
      case rel=>exact⟨k+1,by omega,by go_num,Q.out,fun j l aI=>by
       rcases Nat.lt_succ_iff_lt_or_eq.1 aI with h|h
       ·exact A.out j l h
       ·subst h;rw[y.out];exact ay.out⟩
      case measure=>simp[intOf];omega
     |false=>
      obtain rfl:p=false:=by
       rw[<- K.out];refine iQ fun d=>?_
       have:=(cq d).gknown x (by rw[<- y.out];exact aC J);rw[ay.out] at this;cases this
      go_wp2_with fail
      go_ret
      exact⟨rfl,q.out _ Q.out⟩
    ·have ai:¬(k:Int)<(u:Int):=by omega
     have bK:=ae (show ∀g∈m.gone,mV m g=true by
      intro x o;obtain⟨j,l,rfl⟩:=List.mem_iff_getElem.1 o
      exact A.out j l (by rw[R.out] at l;omega))
     clear z A V L;go_wp2_with fail
     go_loopw [67] (fun i wu=>∃k:Nat,k <= t /\ i=.int .i64 (k:Int) /\ Below (w.heap.size+1) wr wu /\ ∀j (l:j<m.items.length),j<k -> lQ m m.items[j]=true) (fun i _=>t-(intOf i).toNat)
     case atStart=>exact⟨0,by omega,rfl,av.out,fun j _ l=>by omega⟩
     case round=>
      rename World=>wu
      obtain⟨k,L,rfl,bv,S⟩:=hrel;have A:=ae S;have ax:=ae bv;clear S bv av d0 d1 d2 ai;obtain⟨⟨d0,d1,d2⟩,z⟩:=I.out _ ax.out
      by_cases V:k<t
      ·have ai:(k:Int)<(t:Int):=by omega
       have J:k<m.items.length:=by rw[Y.out];exact V
       obtain⟨b,aK,rfl,-,-,U⟩:=fB z.items (by omega);obtain⟨e0,e1,e2,e3⟩:=U k J;obtain⟨x,o⟩:=aH m.items[k];rw[o] at e0 e1 e2 e3;have y:=ae o;obtain⟨c,M⟩:=aQ (wu.alloc (.cells #[.string ⟨x.key.toArray⟩,.int .i64 x.dev,.int .i64 x.seq,.int .i64 x.val] 108));have Z:Below (w.heap.size+1) wr c:=by rw[M];exact ax.out.alloc (by have:=ax.out.size;have:=B.out;omega) _
       have D:Blk c wu.heap.size [.string ⟨x.key.toArray⟩,.int .i64 x.dev,.int .i64 x.seq,.int .i64 x.val] 108:=by rw[M];exact Blk.new _ _ _
       have x0:=D.cell 0;have x1:=D.cell 1;have x2:=D.cell 2;have x3:=D.cell 3;simp at x0 x1 x2 x3;obtain⟨⟨m0,m1,m2⟩,-⟩:=I.out _ Z;have aR:∀a,aJ c.drew a -> a.cell? _=_:=fun a hh=>aZ x0 hh
       have aS:∀a,aJ c.drew a -> a.cell? _=_:=fun a hh=>aZ x1 hh
       have aT:∀a,aJ c.drew a -> a.cell? _=_:=fun a hh=>aZ x2 hh
       have bD:∀a,aJ c.drew a -> a.cell? _=_:=fun a hh=>aZ x3 hh
       have aN:∀a,aJ c.drew a -> a.cell? _=_:=fun a hh=>aZ m0 hh
       have aO:∀a,aJ c.drew a -> a.cell? _=_:=fun a hh=>aZ m1 hh
       have aP:∀a,aJ c.drew a -> a.cell? _=_:=fun a hh=>aZ m2 hh
       have al:=ae (show ∀W,Calls aE 104 #[.agg #[.string ⟨x.key.toArray⟩,.int .i64 x.dev,.int .i64 x.seq,.int .i64 x.val]] W _ from fun W=>gV W x);have a4:=ae M;have ar:=ae Z;clear U o M Z D x0 x1 x2 x3 m0 m1 m2 d2 z;go_wp2_with fail;rw[<- a4.out];refine bS aJ [0,1,3,4,502,505,6,7,8,9,10,11,12,13,14,15,16,17,18,19,20,21,522,523,24,25] (by kernel_rfl) ?_;apply aG;rfl;intro a f;go_simp;exact aF
       repeat (apply bE;rfl;rfl;go_simp;go_simp;rfl;apply aG;rfl;intro a f;go_simp;exact aF)
       refine bq rfl rfl (fun C n=>?_);go_simp;refine(al.out _).mono ?_;rintro e w4 ⟨rfl,E⟩;refine⟨_,rfl,E,n _ _ ?_⟩;clear n C;go_simp;have H:Below (w.heap.size+1) wr w4:=ar.out.drew.trans (E.mono (by have:=ar.out.size;have:=B.out;show _ <= c.heap.size;omega));have s:x∈m.items:=by rw[<- y.out];exact aC J
       have ak:=ae (tb w4 (HT.out _ H).1 (HT.out _ H).2 _ (.agg #[.slice a1 8 p1,.slice (some ⟨b,aK,none⟩) t p2,.slice a3 u p3]) m ⟨_,_,_,rfl,(I.out _ H).2⟩ x.pl x.seq (aW.out x s).1 (aW.out x s).2.1 (aW.out x s).2.2.1);have P:=ae H;have bG:=ae (show aJ c.drew w4 from E);clear E H s;apply aG;rfl;intro a f;go_simp;exact aF
       repeat (apply bE;rfl;rfl;go_simp;go_simp;rfl;apply aG;rfl;intro a f;go_simp;exact aF)
       refine bq rfl rfl (fun C n=>?_);go_simp;refine ak.out.mono ?_;rintro e O ⟨rfl,T⟩;refine⟨_,rfl,T,n _ _ ?_⟩;clear n C ak;go_simp;have Q:=ae (P.out.trans (T.mono (by have:=P.out.size;have:=B.out;omega)));have X:aJ c.drew O:=bC _ _ _ bG.out T;have bV:∀a,aJ O a -> a.cell? _=_:=fun a hh=>aR a (bC _ _ _ X hh)
       have bW:∀a,aJ O a -> a.cell? _=_:=fun a hh=>aS a (bC _ _ _ X hh)
       have bX:∀a,aJ O a -> a.cell? _=_:=fun a hh=>aT a (bC _ _ _ X hh)
       have bY:∀a,aJ O a -> a.cell? _=_:=fun a hh=>bD a (bC _ _ _ X hh)
       have bR:∀a,aJ O a -> a.cell? _=_:=fun a hh=>aN a (bC _ _ _ X hh)
       have bT:∀a,aJ O a -> a.cell? _=_:=fun a hh=>aO a (bC _ _ _ X hh)
       have bU:∀a,aJ O a -> a.cell? _=_:=fun a hh=>aP a (bC _ _ _ X hh)
       clear T X aR aS aT bD aN aO aP;obtain⟨kn,ab⟩:=aH (dq m x.pl x.seq);rw[ab];have ay:=ae ab;clear ab
       have ao:=ae (show(kn=true -> 1 <= x.val -> x.val <= 16777216 -> ¬m.buried x.pl<x.seq) -> p=false from fun bQ=>by
        rw[<- K.out];refine iQ fun d=>?_
        have hf:=cq d;have s:x∈m.items:=by rw[<- y.out];exact aC J
        have bw:=hf.iknown x s;rw[ay.out] at bw
        exact bQ bw (hf.val x s).1 (hf.val x s).2 (hf.above x s))
       cases kn with
       |false=>
        obtain rfl:p=false:=ao.out fun h=>by cases h
        apply aG;rfl;intro a f;go_simp;(repeat (simp(disch:=omega) only[af,if_pos];go_simp));exact aF
        repeat (apply bE;rfl;rfl;go_simp;go_simp;rfl;apply aG;rfl;intro a f;go_simp;(repeat (simp(disch:=omega) only[af,if_pos];go_simp));exact aF)
        refine aY ?_;go_wp2_with fail
        go_ret
        exact⟨rfl,q.out _ Q.out⟩
       |true=>
        by_cases v1:x.val<1
        ·obtain rfl:p=false:=ao.out fun _ _ _ _=>by omega
         have be:decide (x.val<1)=true:=by simpa using v1
         apply aG;rfl;intro a f;go_simp;(repeat (simp(disch:=omega) only[af,if_pos];go_simp));exact aF
         repeat (apply bE;rfl;rfl;go_simp;go_simp;rfl;apply aG;rfl;intro a f;go_simp;(repeat (simp(disch:=omega) only[af,if_pos];go_simp));exact aF)
         refine aY ?_;go_wp2_with fail
         go_ret
         exact⟨rfl,q.out _ Q.out⟩
        ·by_cases v2:x.val>16777216
         ·obtain rfl:p=false:=ao.out fun _ _ _ _=>by omega
          have be:decide (x.val<1)=false:=by simpa using v1
          have bF:decide (x.val>16777216)=true:=by simpa using v2
          apply aG;rfl;intro a f;go_simp;(repeat (simp(disch:=omega) only[af,if_pos];go_simp));exact aF
          repeat (apply bE;rfl;rfl;go_simp;go_simp;rfl;apply aG;rfl;intro a f;go_simp;(repeat (simp(disch:=omega) only[af,if_pos];go_simp));exact aF)
          refine aY ?_;go_wp2_with fail
          go_ret
          exact⟨rfl,q.out _ Q.out⟩
         ·have be:decide (x.val<1)=false:=by simpa using v1
          have bF:decide (x.val>16777216)=false:=by simpa using v2
          have Hv:=ae (show 1 <= x.val /\ x.val <= 16777216 by omega);apply aG;rfl;intro a f;go_simp;(repeat (simp(disch:=omega) only[af,if_pos];go_simp));exact aF
          repeat (apply bE;rfl;rfl;go_simp;go_simp;rfl;apply aG;rfl;intro a f;go_simp;(repeat (simp(disch:=omega) only[af,if_pos];go_simp));exact aF)
          refine bq rfl rfl (fun C n=>?_);go_simp;refine(al.out _).mono ?_;rintro e w6 ⟨rfl,a6⟩;refine⟨_,rfl,a6,n _ _ ?_⟩;clear n C;go_simp;have a7:Below (w.heap.size+1) wr w6:=Q.out.trans (a6.mono (by have:=Q.out.size;have:=B.out;omega));have bf:=ae (qQ w6 _ (.agg #[.slice a1 8 p1,.slice (some ⟨b,aK,none⟩) t p2,.slice a3 u p3]) m ⟨_,_,_,rfl,(I.out _ a7).2⟩ x.pl (by rw[R.out];omega) bh.out);have bi:=ae a7;clear a6 a7 be bF v1 v2;apply aG;rfl;intro a f;go_simp;(repeat (simp(disch:=omega) only[af,if_pos];go_simp));exact aF
          repeat (apply bE;rfl;rfl;go_simp;go_simp;rfl;apply aG;rfl;intro a f;go_simp;(repeat (simp(disch:=omega) only[af,if_pos];go_simp));exact aF)
          refine bq rfl rfl (fun C n=>?_);go_simp;refine bf.out.mono ?_;rintro e w7 ⟨rfl,a8⟩;refine⟨_,rfl,a8,n _ _ ?_⟩;clear n C bf bV bW bX bY bR bT bU;go_simp;have bj:=ae (bi.out.trans (a8.mono (by have:=bi.out.size;have:=B.out;omega)));clear a8;obtain⟨bu,a9⟩:=aH (m.buried x.pl);rw[a9] at ao⊢;have bI:=ae a9;clear a9
          by_cases v3:x.seq <= bu
          ·obtain rfl:p=false:=ao.out fun _ _ _=>by omega
           have bZ:decide (x.seq <= bu)=true:=by simpa using v3
           apply aG;rfl;intro a f;go_simp;exact aF
           repeat (apply bE;rfl;rfl;go_simp;go_simp;rfl;apply aG;rfl;intro a f;go_simp;exact aF)
           refine aY ?_;go_wp2_with fail
           go_ret
           exact⟨rfl,q.out _ bj.out⟩
          ·have bZ:decide (x.seq <= bu)=false:=by simpa using v3
           have bL:=ae (show lQ m x=true by
            unfold lQ;rw[ay.out,bI.out];have:=Hv.out;simp
            omega)
           clear v3;apply aG;rfl;intro a f;go_simp;exact aF
           repeat (apply bE;rfl;rfl;go_simp;go_simp;rfl;apply aG;rfl;intro a f;go_simp;exact aF)
           refine aY ?_;go_wp2_with fail
           go_roundw
           case rel=>exact⟨k+1,by omega,by go_num,bj.out,fun j l aI=>by
            rcases Nat.lt_succ_iff_lt_or_eq.1 aI with h|h
            ·exact A.out j l h
            ·subst h;rw[y.out];exact bL.out⟩
           case measure=>simp[intOf];omega
      ·have ai:¬(k:Int)<(t:Int):=by omega
       have ba:gJ m=true:=by
        unfold gJ;simp only[Bool.and_eq_true,decide_eq_true_eq];refine⟨⟨⟨⟨⟨az.out,bM.out⟩,bH.out⟩,bh.out⟩,?_⟩,?_⟩
        ·rw[List.all_eq_true];exact bK.out
        ·rw[List.all_eq_true];intro x o;obtain⟨j,l,rfl⟩:=List.mem_iff_getElem.1 o;exact A.out j l (by rw[Y.out] at l;omega)
       have bJ:=ae ba;have bg:=ae (vx wu _ (.agg #[.slice a1 8 p1,.slice a2 t p2,.slice a3 u p3]) m ⟨_,_,_,rfl,z⟩ (fO ((ei m).1 ba) (by rw[Y.out];exact bb) (by rw[R.out];exact bc)));clear z A V L ba;go_wp2_with fail;refine bg.out.mono ?_;rintro e w4 ⟨⟨r,rfl,bP⟩,E⟩;have P:=ae (ax.out.trans (E.mono (by have:=ax.out.size;have:=B.out;omega)));obtain⟨N,hN⟩:=aH ((dS m).length);obtain⟨aa,cc,rfl,-⟩:=bP;rw[hN]
       have bk:=ae (show p=decide (N <= 60000) by
        rw[<- K.out];unfold bp;rw[bJ.out,Y.out,R.out,hN]
        simp[bb,bc])
       clear hN bg E
       by_cases bo:(N:Int)>60000
       ·have bO:decide ((N:Int)>60000)=true:=by simpa using bo
        obtain rfl:p=false:=by rw[bk.out];simp;omega
        go_wp2_with fail
        go_ret
        exact⟨rfl,q.out _ P.out⟩
       ·have bO:decide ((N:Int)>60000)=false:=by simpa using bo
        obtain rfl:p=true:=by rw[bk.out];simp;omega
        go_wp2_with fail
        go_ret
        exact⟨rfl,q.out _ P.out⟩
theorem kQ(b:eJ w)(a:4 <= w.heap.size)(F:aX)(v:Value)(m:aU)(h:dl F w v m)(f:∀x∈m.items,x.key.length <= 1000000)(d:∀x∈m.gone,x.key.length <= 1000000):
 Calls aE 83 #[v] w fun e c=>e=.returned (.int .i64 (if bp m then 0 else 5)) /\ Below w.heap.size w c:=o9 w b a F v m h
end
section
attribute [local go_sem ↓] aV
theorem lY{b d K g:Nat}{z:Value}(r:(aE.info? b).map (fun i=>(i.zero,i.size,i.bytes))=some (some z,K,g))(C:aE.underlying d=some (.slice b))(D:z.cells.size=K)(x:0<K)(t:g <= 40){w:World}{B n:Nat}{a:Option Addr}{c:Nat}(h:w.ownsRow B b K (.slice a n c) n L){f:Option Addr}{X:List Value}(s:Rows G w K (.slice f j o) j X)(q:∀u∈X,u.oneCell'=true)(y:n+j <= 4000000)(l:B <= w.heap.size):
 ∃e k w',(AP #[d,d] d #[.slice a n c,.slice f j o]).run aE w=.ok (.slice e (n+j) k) w' /\ w'.ownsRow B b K (.slice e (n+j) k) (n+j) (L++X) /\ Below B w w':=by
 obtain⟨O,E,H,I,J⟩:=info_parts r;obtain⟨Q,R,A,p,v⟩:=ek (P:=aE) w B d b C E H I J D x (.slice a n c) n _ h G _ j _ s q (by unfold maxLen;omega) (by have:=Nat.mul_le_mul y t;omega) l;obtain⟨M,N,rfl⟩:=aK p;exact⟨_,_,_,A,p,Below.grownOwn h v l (aq _)⟩
theorem ly{f d g K p:Nat}{z:Value}(G:(f,d,g)=(54,3,33) \/ (f,d,g)=(55,108,34) \/ (f,d,g)=(56,111,35) \/ (f,d,g)=(163,9,32))(s:(aE.info? d).map (fun i=>(i.zero,i.size,i.bytes))=some (some z,K,p))(k:aE.underlying g=some (.slice d))(M:z.cells.size=K)(H:0<K)(E:p <= 40)(w:World)(F:aX)(v:Value)(n:Nat)(X:List Value)(l:Rows F w K v n X)(S:n <= 1000000)(q:∀u∈X,u.oneCell'=true):
 Calls aE f #[v] w fun e m=>∃r,e=.returned r /\ m.ownsRow w.heap.size d K r n X /\ Below w.heap.size w m:=by
 have t:Rows F (w.alloc (.cells #[] d)) K v n X:=l.keep fun b _ D=>Below.heap_alloc _ _ _ D
 obtain⟨a,C,rfl,R,T,N⟩:=l.shape;obtain⟨O,Q,m,J,j,x⟩:=lY s k M H E (w:=w.alloc (.cells #[] d)) (B:=w.heap.size) (n:=0) (a:=some ⟨w.heap.size,0,none⟩) (c:=0) (L:=[]) ⟨by simp,.inr ⟨w.heap.size,0,#[],rfl,aq _,by unfold World.alloc;simp,aq _,by unfold maxLen;omega,by simp,by simp⟩⟩ t q (by omega) (by simp);rw[Nat.zero_add] at j J;rw[List.nil_append] at j;have o:=ae j;have y:=ae x;clear j x t l s q;rcases G with h|h|h|h<;>cases h
 all_goals
  cases a with
  |none=>
   obtain rfl:=N rfl;obtain rfl:n=0:=by omega
   obtain rfl:X = []:=List.length_eq_zero_iff.1 (by rw[o.out.1,Nat.zero_mul]);have I:=fun(W:World)=>Lib.run_eql_slice_nil (P:=aE) W _ _ none 0 0 0 0 k
   first|go_enter func54,ntmps54|go_enter func55,ntmps55|go_enter func56,ntmps56|go_enter func163,ntmps163
   go_wp2_with fail
   go_ret
   exact⟨_,rfl,World.ownsRow_nil _ _ _ _,Below.refl _ _⟩
  |some A=>
   have I:=fun(W:World)=>Lib.run_eql_slice_nil (P:=aE) W _ _ (some A) n C 0 0 k
   first|go_enter func54,ntmps54|go_enter func55,ntmps55|go_enter func56,ntmps56|go_enter func163,ntmps163
   go_wp2_with fail
   go_ret
   exact⟨_,rfl,o.out,(aI _ _).trans y.out⟩
def uf{α:Type}(b c K:Nat)(f:List α -> List Value):Prop:=∀(w:World)(F:aX)(v:Value)(l:List α),Rows F w K v l.length (f l) -> l.length <= 1000000 ->
 Calls aE b #[v] w fun e a=>∃r,e=.returned r /\ a.ownsRow w.heap.size c K r l.length (f l) /\ Below w.heap.size w a
theorem qR:uf 54 3 1 (fun l=>l.map eI):=fun w F v l b a=>ly (.inl rfl) vE underlying33 rfl (by decide) (by decide) w F v _ _ b a (xP l)
theorem pQ:uf 55 108 4 (fun l=>l.flatMap bU):=fun w F v l b a=>ly (.inr (.inl rfl)) mt underlying34 rfl (by decide) (by decide) w F v _ _ b a (mj l)
theorem pR:uf 56 111 3 (fun l=>l.flatMap dC):=fun w F v l b a=>ly (.inr (.inr (.inl rfl))) mu underlying35 rfl (by decide) (by decide) w F v _ _ b a (ml l)
structure dW(w:World)(base:Nat)(s1 s2 s3:Value)(m:aU):Prop where
 seen:w.ownsRow base 3 1 s1 m.seen.length (m.seen.map eI)
 items:w.ownsRow base 108 4 s2 m.items.length (m.items.flatMap bU)
 gone:w.ownsRow base 111 3 s3 m.gone.length (m.gone.flatMap dC)
structure Bnd(m:aU):Prop where
 seenB:∀n∈m.seen,eX n
 itemsB:∀x∈m.items,x.key.length <= 9223372036854775807 /\ eX x.dev /\ eX x.seq /\ eX x.val
 goneB:∀x∈m.gone,x.key.length <= 9223372036854775807 /\ eX x.dev /\ eX x.seq
theorem cG.bnd{a b c:Value}(h:cG G W a b c r):Bnd r:=⟨h.seenB,h.itemsB,h.goneB⟩
theorem dW.map{c d e:Value}(h:dW W i c d e r)(a:Bnd r):cG (fun b=>i <= b) W c d e r:=
 ⟨(Rows.of_owns h.seen).mono (fun b h _=>h.1),(Rows.of_owns h.items).mono (fun b h _=>h.1),(Rows.of_owns h.gone).mono (fun b h _=>h.1),a.seenB,a.itemsB,a.goneB⟩
theorem dW.below{b c d:Value}(h:dW W i b c d r)(a:Below W.heap.size W w'):dW w' i b c d r:=
 ⟨bm h.seen a,bm h.items a,bm h.gone a⟩
theorem dW.mono{b c d:Value}(h:dW W i b c d r)(a:j <= i):dW W j b c d r:=
 ⟨bP h.seen a,bP h.items a,bP h.gone a⟩
def pc(w:World)(d:Nat)(v:Value)(m:aU):Prop:=∃a b c,v=.agg #[a,b,c] /\ dW w d a b c m
theorem pc.map{w:World}{a:Nat}{v:Value}{m:aU}(h:pc w a v m)(c:Bnd m):dl (fun b=>a <= b) w v m:=by
 obtain⟨d,e,f,rfl,h⟩:=h;exact⟨d,e,f,rfl,h.map c⟩
theorem pc.below{w w':World}{a:Nat}{v:Value}{m:aU}(h:pc w a v m)(b:Below w.heap.size w w'):pc w' a v m:=by
 obtain⟨c,d,e,rfl,h⟩:=h;exact⟨c,d,e,rfl,h.below b⟩
theorem pc.mono{w:World}{a b:Nat}{v:Value}{m:aU}(h:pc w a v m)(c:b <= a):pc w b v m:=by
 obtain⟨d,e,f,rfl,h⟩:=h;exact⟨d,e,f,rfl,h.mono c⟩
theorem dW.setCell{w:World}{c b i:Nat}{d e f:Value}{m:aU}{L:List Value}(h:dW w c d e f m)(a:Blk w b L 37)(u:Value):dW (w.setCell ⟨b,i,none⟩ u) c d e f m:=
 ⟨aL h.seen a (by decide) u,aL h.items a (by decide) u,aL h.gone a (by decide) u⟩
attribute [local go_sem] opC upC told bG br bH bt bw bI bJ
theorem set3{wr:World}{x y z:Value}(t:TypeId)(f:Blk wr i [x,y,z] t){a c d:Value}
 (g:W=((wr.setCell ⟨i,0,none⟩ a).setCell ⟨i,1,none⟩ c).setCell ⟨i,2,none⟩ d):Blk W i [a,c,d] t:=by
 have e:=((f.set 0 a).set 1 c).set 2 d;subst g;exact e
theorem qS(h:dl F w v m)(hs:m.seen.length <= 1000000)(hi:m.items.length <= 1000000)(hg:m.gone.length <= 1000000):
 Calls aE 114 #[v] w fun e a=>(∃r,e=.returned r /\ pc a w.heap.size r m) /\ Below w.heap.size w a:=by
 replace h:=h.mono (G:=fun b=>b<w.heap.size) fun b _ M=>M
 replace h:=j8 h 37
 obtain⟨o,y,q,z,s,A,g,i,j,wx,rfl,h,l1,l2,l3,ad,ag,ai,aP,ab,al,Hx,ak,c0,c1,c2⟩:=h
 try rw[ad.out]
 try rw[ag.out]
 try rw[ai.out]
 clear h;obtain⟨c,n⟩:=aQ (wx.alloc (.cells #[.slice none 0 0,.slice none 0 0,.slice none 0 0] 37));have an:Below w.heap.size w c:=by rw[n];exact ab.out.alloc ab.out.size _
 have ay:c.heap.size=w.heap.size+2:=by rw[n];simp[al.out]
 have k:=ae (show ∀a,aJ c a -> Blk a w.heap.size [.slice o g y,.slice q i z,.slice s j A] 37 /\ Blk a (w.heap.size+1) [.slice none 0 0,.slice none 0 0,.slice none 0 0] 37 /\ cG (fun b=>b<w.heap.size) a (.slice o g y) (.slice q i z) (.slice s j A) m from fun a T=>by
  have k1:Blk c w.heap.size [.slice o g y,.slice q i z,.slice s j A] 37:=by rw[n];exact ak.out.alloc _
  have k2:Blk c (w.heap.size+1) [.slice none 0 0,.slice none 0 0,.slice none 0 0] 37:=by
   have:=Blk.new wx #[.slice none 0 0,.slice none 0 0,.slice none 0 0] 37;rw[n,<- al.out];exact this
  exact⟨k1.keep (T.block _ k1.lt),k2.keep (T.block _ k2.lt),(Hx.out.keep (w':=c) fun b _ M=>by rw[n];exact Below.heap_alloc _ _ _ M).keep fun b hb M=>T.block b (by omega)⟩)
 have t:aJ c c.drew:=(Below.refl _ _).drew;have p0:∀a,aJ c.drew a -> a.cell? ⟨w.heap.size,0,none⟩=some (.slice o g y):=fun a hh=>by simpa using(k.out a (bC _ _ _ t hh)).1.cell 0
 have aT:∀a,aJ c.drew a -> a.cell? ⟨w.heap.size,1,none⟩=some (.slice q i z):=fun a hh=>by simpa using(k.out a (bC _ _ _ t hh)).1.cell 1
 have aV:∀a,aJ c.drew a -> a.cell? ⟨w.heap.size,2,none⟩=some (.slice s j A):=fun a hh=>by simpa using(k.out a (bC _ _ _ t hh)).1.cell 2
 have Y:=ae (qR c.drew _ (.slice o g y) m.seen (k.out c.drew t).2.2.seen hs);have aN:=ae n;have az:=ae an;have B:=ae ay;clear n an ay Hx ak c0 c1 c2 t
 go_enter func114,ntmps114
 go_wp2_with fail;rw[<- aP.out,<- aN.out];refine dP aJ 10 [0,1,3,4,6,7,502,505,508,9,510] (by kernel_rfl) ?_;apply bM;rfl;intro a R;go_simp;exact aF;refine cU rfl rfl (fun l f=>?_);go_simp;refine Y.out.mono ?_;rintro e N ⟨r1,rfl,U,S⟩;obtain⟨C,H,av⟩:=aK U;rw[ad.out] at av;subst av;refine⟨_,rfl,S,f _ _ ?_⟩;clear f l Y;go_simp;have P:=ae (show aJ c N from(Below.refl _ _).drew.trans S);have Z:=ae (pQ N _ (.slice q i z) m.items (k.out N P.out).2.2.items hi);have aH:=ae U;clear S U;apply bM;rfl;intro a R;go_simp;exact aF;refine cU rfl rfl (fun l f=>?_);go_simp;refine Z.out.mono ?_;rintro e X ⟨r2,rfl,V,K⟩;obtain⟨D,I,ax⟩:=aK V;rw[ag.out] at ax;subst ax;refine⟨_,rfl,K,f _ _ ?_⟩;clear f l Z;go_simp;have Q:=ae (bC _ _ _ P.out K);have H3:=ae (pR X _ (.slice s j A) m.gone (k.out X Q.out).2.2.gone hg);have aI:=ae (bm aH.out K);have aL:=ae V;clear K V;apply bM;rfl;intro a R;go_simp;exact aF;refine cU rfl rfl (fun l f=>?_);go_simp;refine H3.out.mono ?_;rintro e O ⟨r3,rfl,W,u⟩;obtain⟨E,J,d⟩:=aK W;rw[ai.out] at d;subst d;refine⟨_,rfl,u,f _ _ ?_⟩;clear f l H3;go_simp;have aa:=ae (bC _ _ _ Q.out u);have d:=(k.out O aa.out).2.1;have y0:=d.cell 0;have y1:=d.cell 1;have y2:=d.cell 2;have z0:=d.free 0;have z1:=d.free 1;have z2:=d.free 2;simp at y0 y1 y2;obtain⟨wf,x⟩:=aQ (((O.setCell ⟨w.heap.size+1,0,none⟩ (.slice C g H)).setCell ⟨w.heap.size+1,1,none⟩ (.slice D i I)).setCell ⟨w.heap.size+1,2,none⟩ (.slice E j J));have aR:c.heap.size <= N.heap.size:=P.out.size;have aS:c.heap.size <= X.heap.size:=Q.out.size
 have ar:dW wf w.heap.size (.slice C g H) (.slice D i I) (.slice E j J) m:=by
  have ho:dW O w.heap.size (.slice C g H) (.slice D i I) (.slice E j J) m:=⟨bP (bm aI.out u) (by have:=B.out;show w.heap.size <= c.drew.heap.size;show w.heap.size <= c.heap.size;omega),bP (bm aL.out u) (by have:=B.out;omega),bP W (by have:=B.out;omega)⟩
  rw[x];exact((ho.setCell d _).setCell (d.set 0 _) _).setCell ((d.set 0 _).set 1 _) _
 have L:=set3 _ d x
 have ao:Below w.heap.size w wf:=by
  rw[x];have h5:Below w.heap.size w O:=az.out.trans (aa.out.mono (by have:=B.out;omega));exact((h5.setCell (p:=⟨w.heap.size+1,0,none⟩) (Nat.le_succ _) _).setCell (p:=⟨w.heap.size+1,1,none⟩) (Nat.le_succ _) _).setCell (p:=⟨w.heap.size+1,2,none⟩) (Nat.le_succ _) _
 have Q0:=ae (L.cell 0);have Q1:=ae (L.cell 1);have Q2:=ae (L.cell 2);have aM:=ae ar;have aG:=ae ao;have aO:=ae x;clear u ar ao L d x W p0 aT aV aR aS;apply bM;rfl;intro a R;go_simp;exact aF;refine cZ rfl rfl rfl (fun l f=>?_);go_simp;rw[<- aO.out];refine f _ _ ?_;clear f l y0 y1 y2 z0 z1 z2;go_simp;refine dt ?_;go_wp2_with fail;have q0:=Q0.out;have q1:=Q1.out;have q2:=Q2.out;simp at q0 q1 q2;exact bodyPost_ret (v:=.agg #[.slice C g H,.slice D i I,.slice E j J]) (by simp[results,results114,go_sem,q0,q1,q2]) rfl ⟨⟨_,rfl,_,_,_,rfl,aM.out⟩,aG.out⟩
end
section
open Go
variable {P:Program}
def D2{α:Type}(P:Program)(i:Nat)(j:Array Value)(h:α -> Array Value)(f:World -> World -> Prop)(G:List α -> α -> World -> Prop)(S g:List α -> Prop)(w:World):Prop:=
 ∀(l:Nat)(J c:List α -> World -> Prop)(W:World),Below w.heap.size w W -> AbidesFrom W.heap.size J -> AbidesFrom W.heap.size c ->
  (∀a x b,J a b -> G a x b -> YieldAt Fence.wide 0 P l (h x) b fun e W'=>
   (e=.returned (.bool true) /\ J (a++[x]) W' /\ f b W') \/ (e=.returned (.bool false) /\ c (a++[x]) W')) ->
  J [] W ->
  CallsIn Fence.wide 1 P i (#[.func (.yield l) #[] #[]]++j) W fun e W'=>(∃v,e=.returned v) /\ ((∃d,S d /\ J d W') \/ (∃a,g a /\ c a W'))
def Ac{α:Type}(b:World -> World -> Prop)(I E:List α -> World -> Prop)(a:List α)(W:World):Exit -> Act -> World -> Prop
 |.normal,_,W'=>KeepsOthers W W' /\ b W W' /\ I a W'
 |.ret,_,W'=>KeepsOthers W W' /\ E a W'
 |_,_,_=>False
def iW(B:Nat)(r:Loop)(W:World):Prop:=W.heap[B+1]?=some (.loop r) /\ W.heap[B]?=some (.deferred (some []))
theorem iW.grown{r:Loop}{c:Option Nat}(h:iW i r W)(a:W.grownBy w' c)(b:∀q,c=some q -> ∃o:Obj,W.heap[q]?=some o /\ o.isWalk=true):iW i r w':=
 ⟨(grownBy_keeps a b h.1 rfl).trans h.1,(grownBy_keeps a b h.2 rfl).trans h.2⟩
theorem iW.others{r:Loop}(h:iW i r W)(a:KeepsOthers W w'):iW i r w':=⟨a.same _ _ h.1 rfl,a.same _ _ h.2 rfl⟩
theorem iW.put{r:Loop}(h:iW i r W)(a:Loop):iW i a (W.putObj (i+1) (.loop a)):=
 ⟨World.putObj_heap_same (Array.getElem?_eq_some_iff.1 h.1).1,(World.putObj_heap_other (by omega)).trans h.2⟩
theorem pS{α:Type}{g:Operand}{H:Array Tmp}{assign body:Code}{Q:Exit -> Act -> World -> Prop}{a:Act}{n:Nat}
 {L:Array Value} (hg:a.eval g=.func (.func i) #[] L) (eg:∀args w',(callFunc i args).run P w'=.ok (.enter i args) w')
 {J:α -> Array Value} {k:World -> World -> Prop} {G:List α -> α -> World -> Prop} {S Y:List α -> Prop} (aL:D2 P i L J k G S Y w') (aK:∀x,(J x).size=H.size)
 (al:∀b x (W:World) (l:Nat) (o X:Obj),w'.heap.size <= l -> W.heap[l]?=some o -> o.isCells=false -> G b x W -> G b x (W.putObj l X))
 (ab:∀{A B C:World},k A B -> k B C -> k A C) (aa:∀(W:World)(l:Nat)(o X:Obj),w'.heap.size <= l -> W.heap[l]?=some o -> o.isCells=false -> k W (W.putObj l X))
 (I E:List α -> World -> Prop) (m:OwnFrom w'.heap.size I) (O:OwnFrom w'.heap.size E) (h0:I [] w') (Z:α -> Act)
 (av:∀(l:Nat)(x:α)(W:World)(K:Act -> World -> Prop),K (Z x) W ->
  assign.wpIn (Fence.wide.inRound l) 0 P (Exit.then K (fun _ _ _=>False)) { tmps:=(H.zip (J x)).foldl (fun t (p,v)=>t.setIfInBounds p v) a.tmps,defers:=[] } W)
 (ay:∀(l:Nat)(b:List α)(x:α)(W:World),I b W -> G b x W -> body.wpIn (Fence.wide.inRound l) 0 P (Ac k I E (b++[x]) W) (Z x) W)
 (aG:∀(D:Nat)(M:List α)(W:World),w'.heap.size <= D -> S M -> I M W -> W.heap[D]?=some (.deferred (some [])) -> Q .normal { a with defers:={ target:=.collected D,args:=#[] }::a.defers } W)
 (aM:∀(D:Nat)(b:List α)(W:World),w'.heap.size <= D -> Y b -> E b W -> W.heap[D]?=some (.deferred (some [])) -> Code.ret.wpIn Fence.wide (n+2) P Q { a with defers:={ target:=.collected D,args:=#[] }::a.defers } W):
 (Code.rangeFunc g H assign body).wpIn Fence.wide (n+2) P Q a w':=by
 refine wpIn_rangeFunc fun fn aH=>?_
 let R:LoopState -> Option Code -> Loop:=fun st pe=>{ state:=st,pending:=pe,fn,tmps:=a.tmps,params:=H,assign,body,defers:=w'.heap.size }
 have az:iW w'.heap.size (R .ready none) ((w'.alloc (.deferred (some []))).alloc (.loop (R .ready none))):=by
  have h1:=World.alloc_heap_new (w'.alloc (.deferred (some []))) (.loop (R .ready none));rw[World.size_alloc] at h1;exact⟨h1,(Below.heap_alloc _ _ _ (by simp)).trans (World.alloc_heap_new w' _)⟩
 have an:I [] ((w'.alloc (.deferred (some []))).alloc (.loop (R .ready none))):=m.alloc _ (m.alloc _ h0);have ax:Below w'.heap.size w' ((w'.alloc (.deferred (some []))).alloc (.loop (R .ready none))):=((Below.refl _ w').alloc (aq _) _).alloc (by simp) _;have aN:((w'.alloc (.deferred (some []))).alloc (.loop (R .ready none))).heap.size=w'.heap.size+2:=by simp
 have ag:=run_enterLoop_outer (P:=P) (w:=w') fn a.tmps H assign body;change _=Result.ok _ ((w'.alloc (.deferred (some []))).alloc (.loop (R .ready none))) at ag;generalize(w'.alloc (.deferred (some []))).alloc (.loop (R .ready none))=y at *
 refine⟨w'.heap.size+1,[{ target:=.collected w'.heap.size,args:=#[] }],y,{ target:=.fn (.func i) L,args:=#[.func (.yield (w'.heap.size+1)) #[] #[]] },y,i,#[.func (.yield (w'.heap.size+1)) #[] #[]]++L,y,
  ag,?_,fun _ _=>trivial,?_,fun h=>(by cases h),?_⟩
 ·simp only[resolve,hg];simp[go_sem]
 ·simp[invoke,go_sem,eg]
 have ai:∀{A:World}{row:Option Nat},(∀q,row=some q -> y.heap.size <= q /\ ∃o:Obj,A.heap[q]?=some o /\ o.isWalk=true) -> ∀q,row=some q -> w'.heap.size <= q /\ ∃o:Obj,A.heap[q]?=some o /\ o.isCells=false:=
  fun f q e=>⟨by have:=(f q e).1;omega,by obtain⟨o,ho,T⟩:=(f q e).2;exact⟨o,ho,Obj.not_cells_of_walk T⟩⟩
 have aF:=aL (w'.heap.size+1) (fun b W=>I b W /\ iW w'.heap.size (R .ready none) W) (fun b W=>E b W /\ iW w'.heap.size (R .done (some .ret)) W) y ax
  (fun s A N row F z f=>⟨m s A N row F.1 z (ai f),F.2.grown z (fun q e=>(f q e).2)⟩)
  (fun s A N row F z f=>⟨O s A N row F.1 z (ai f),F.2.grown z (fun q e=>(f q e).2)⟩)
  (fun b x W ao ak=>by
   obtain⟨aI,r⟩:=ao;have hy:=run_yield (P:=P) (args:=J x) r.1 (aK x);refine⟨fn,_,assign,body,hy,roundIn_of_wpIn aH (av _ x W _ ⟨_,run_beginRound r.1 rfl,?_⟩)⟩;have ad:=r.put { R .ready none with state:=.busy };have T:=ay (w'.heap.size+1) b x (W.putObj (w'.heap.size+1) (.loop { R .ready none with state:=.busy })) (m.putObj _ aI (by omega) r.1 rfl) (al _ _ _ _ _ _ (by omega) r.1 rfl ak);have aJ:=aa W _ _ (.loop { R .ready none with state:=.busy }) (by omega) r.1 rfl;refine wpIn_mono T ?_;intro ex a3 W3 u;cases ex with
   |normal=>
    obtain⟨U,V,k3⟩:=u;have d:=ad.others U;exact⟨_,_,run_endRound (P:=P) none d.1,.inl ⟨rfl,⟨m.putObj _ k3 (by omega) d.1 rfl,d.put _⟩,ab (ab aJ V) (aa _ _ _ _ (by omega) d.1 rfl)⟩⟩
   |ret=>
    obtain⟨U,V⟩:=u;have d:=ad.others U;exact⟨_,_,run_endRound (P:=P) (some .ret) d.1,.inr ⟨rfl,O.putObj _ V (by omega) d.1 rfl,d.put _⟩⟩
   |exit id=>exact u.elim
   |goto t=>exact u.elim
   |panic c=>exact u.elim
   |outgrown=>exact u.elim) ⟨an,az⟩
 refine(callsIn_wide (n:=n+2-1)).2 ((callsIn_wide (n:=1)).1 (aF.mono ?_));rintro e W2 ⟨⟨v,rfl⟩,(⟨M,hS,hi,j⟩|⟨b,ar,he,j⟩)⟩
 ·exact⟨none,_,run_endLoop (P:=P) j.1 (by simp[R]),aG _ M _ (aq _) hS (m.putObj _ hi (by omega) j.1 rfl) (j.put _).2⟩
 ·exact⟨some .ret,_,run_endLoop (P:=P) j.1 (by simp[R]),aM _ b _ (aq _) ar (O.putObj _ he (by omega) j.1 rfl) (j.put _).2⟩
/- The walks of regions that draw their order, in a round of a range over a function. Over any program. -/
end
section
open Go
section
variable {P:Program} {ops:Array Oper} {md:Region.Mode} {C:World -> World -> Prop} {lx lp n:Nat}
def ql(ops:Array Oper):Bool:=ops.all fun o=>match o.op with
 |.defer _=>false
 |_=>true
theorem ug(h:ql ops=true){o:Oper}(b:ops[i]?=some o):∀c,o.op≠.defer c:=by
 intro c a;obtain⟨hi,rfl⟩:=Array.getElem?_eq_some_iff.1 b;have:=Array.all_eq_true.1 h i hi;simp[a] at this
theorem vP{o:Oper}{a:Act}{g:Value -> World -> Prop}{K:Act -> World -> Prop}{Q:Exit -> Act -> World -> Prop}(i:∀c,o.op≠.defer c)(h:∀v d,g v d -> K (a.put o.dst v) d)(b:opC P o a W g):o.wpIn (Fence.wide.inRound lp) n P a W K Q:=by
 refine⟨fun _ _=>trivial,?_⟩;rw[Oper.semAt_eq _ _ _ i];unfold opC at b;generalize(execOp a.eval o).run P W=r at *;cases r with
 |ok x d=>
  cases x<;>simp only[upC] at b<;>simp only[Oper.uponIn]
  case enter f args=>
   refine⟨(fun e=>by cases e),CallsIn.inRound lp (callsIn_wide.2 (b.mono ?_))⟩;rintro e k ⟨v,rfl,j⟩;exact h _ _ j
  all_goals exact h _ _ b
 |halt x d=>simp only[upC] at b
theorem sy{a:Act}{K f:Act -> World -> Prop}{Q:Exit -> Act -> World -> Prop}(g:ql ops=true)(h:∀a e,K a e -> f a e)(b:stC P ops C i K a W):wpOpIn (Fence.wide.inRound lp) n P ops Q i f a W:=by
 unfold stC at b;unfold wpOpIn;split
 ·rename_i c;simp only[c] at b;exact h _ _ b
 ·rename_i o c;simp only[c] at b;split
  ·rename_i d;simp only[d,if_true] at b;exact vP (ug g c) (fun v e j=>h _ _ j.2) b
  ·rename_i d;simp only[d] at b;exact⟨fun _ _=>trivial,h _ _ b⟩
theorem nY{Q:Act -> World -> Prop}{d:Exit -> Act -> World -> Prop}(e:ql ops=true)(c:∀a w,Q a w -> d .normal a w):∀(b:Nat)(f:Array Bool)(a:Act)(w:World),
 ig P md ops C Q b f a w -> wpAnyIn (Fence.wide.inRound lp) n P md ops d b f a w
 |0,_,_,_,h=>⟨h.1,c _ _ h.2⟩
 |b+1,_,_,_,h=>⟨fun j=>c _ _ (h.1 j),fun i hi=>sy e (fun g l k=>nY e c b _ g l k) (h.2 i hi)⟩
theorem qf{Q:Exit -> Act -> World -> Prop}{a:Act}{l:List Oper}(C:World -> World -> Prop)(d:List (Nat×Bool))(q:P.follows .mixedOrders=true)(g:(Region.noSelect l.toArray&&kK .any l.toArray d (Array.replicate d.length false)&&(d.length == l.length))=true)
 (p:ql l.toArray=true) (r:∀W,C W W) (s:∀a b c,C a b -> C b c -> C a c)
 (h:f6 P l.toArray C (fun e f=>Q .normal e f) d a W.drew):(Code.region i l.toArray true).wpIn (Fence.wide.inRound lp) n P Q a W:=by
 simp only[Bool.and_eq_true] at g;obtain⟨⟨j,k⟩,m⟩:=g;have o:d.length=l.length:=by simpa using m
 refine wpIn_region_any q (nY (C:=C) (Q:=fun e f=>Q .normal e f) p (fun _ _ h=>h) _ _ _ _ ?_);have:=iF (md:=.any) r s j d _ a W.drew k h;rw[o] at this;simpa using this
end
end
section
open Go.Sort Go.Shelf
attribute [local go_sem ↓] aV
attribute [local go_sem] Oper.semAt_some
abbrev eS(k:bR):Value:=Go.Proofs.encStr k
theorem zt:(aE.info? 9).map (fun i=>(i.zero,i.size,i.bytes))=some (some (.string ⟨#[]⟩),1,16):=by kernel_rfl
structure Kb(n0:Nat)(A C:World):Prop where
 size:A.heap.size <= C.heap.size
 block:∀b,b<n0 -> C.heap[b]?=A.heap[b]?
theorem Kb.trans{a:Nat}{A C D:World}(h:Kb a A C)(k:Kb a C D):Kb a A D:=⟨au h.size k.size,fun b c=>(k.block b c).trans (h.block b c)⟩
theorem Kb.put(o:Obj)(b:i <= n):Kb i w (w.putObj n o):=⟨by simp,fun k a=>World.putObj_heap_other (by omega)⟩
theorem Kb.of_below(h:Below i W w'):Kb i W w':=⟨h.size,fun b a=>h.block b a⟩
theorem xZ(l:List bR)(t B:Nat)(q:Rows F w 1 v l.length (l.map eS))(hF:∀b,F b -> b<B)(hB:B <= w.heap.size)(C:Blk w t [v] 32)(U:l.length <= 1000000):
 D2 aE 205 #[.pointer (some ⟨t,0,none⟩)] (fun x:bR=>#[eS x]) (Kb B) (fun Y x _=>l[Y.length]?=some x) (fun Z=>Z=l) (fun _=>True) w:=by
 intro lo J Jx W j hJ ad T P;have I:=q.keep (w':=W) fun b z k=>j.block b k
 have A:=C.keep (j.block _ C.lt);have f:=A.cell 0;simp at f;obtain⟨n,p⟩:=aH l.length;obtain⟨a,ab,rfl,ai,ag,-⟩:=q.shape;have L:=ae I;rw[p] at f U;have d:=ae p;have aa:=ae j.size;clear I A q p;refine callsIn_of_wp func205 rfl trivial ?_ rfl;simp only[ntmps205,List.size_toArray,aD,List.length_nil,Nat.reduceAdd,Nat.reduceSub,Array.replicate_succ,Array.replicate_zero,List.push_toArray,List.append_toArray,List.nil_append,List.cons_append]
 gi_wp2_with fail
 clear f
 gi_loopw [7] (fun i wr=>∃m:Nat,m <= n /\ i=.int .i64 (m:Int) /\ J (l.take m) wr /\ Kb B W wr) (fun i _=>n-(intOf i).toNat)
 case atStart=>exact⟨0,by omega,rfl,by simpa using P,⟨aq _,fun _ _=>rfl⟩⟩
 case round=>
  obtain⟨m,ak,rfl,h,G⟩:=hrel;have s:=ae G;clear G
  by_cases k:m<n
  ·have V:(m:Int)<(n:Int):=by omega
   have o:m<l.length:=by rw[d.out];exact k
   have K:=L.out.keep (w':=wr) fun b z _=>s.out.block b (hF b z)
   obtain⟨b,al,rfl,-,-,D⟩:=gF K (by rw[d.out];omega);have g:=D m o;obtain⟨x,c⟩:=aH l[m];rw[c] at g;have H:(l.take m).length=m:=by rw[List.length_take];omega
   obtain⟨fn,tmps,assign,body,X,y⟩:=T (l.take m) x wr h (by rw[H,List.getElem?_eq_getElem o,c]);unfold eS Go.Proofs.encStr at X;have r:=ae y;have N:=ae c;clear y D K c H
   gi_wp2_with fail
   refine r.out.mono ?_;rintro e O (⟨rfl,u,E⟩|⟨rfl,S⟩)
   ·have Q:J (l.take (m+1)) O:=by rw[List.take_succ_eq_append_getElem o,N.out];exact u
    have M:=ae (s.out.trans E);clear h u E g r
    gi_wp2_with fail
    go_roundw
    case rel=>exact⟨m+1,by omega,by go_num,Q,M.out⟩
    case measure=>simp[intOf];omega
   ·clear g
    gi_wp2_with fail
    refine bodyPost_ret (results_none rfl _ _ _) rfl ?_;exact⟨⟨_,rfl⟩,.inr ⟨_,trivial,S⟩⟩
  ·have V:¬(m:Int)<(n:Int):=by omega
   have R:J l wr:=by
    have:=h;rw[List.take_of_length_le (by rw[d.out];omega)] at this;exact this
   gi_wp2_with fail
   go_end0
   exact⟨⟨_,rfl⟩,.inl R⟩
def ApI(w:World)(n:Nat)(a:List bR)(W:World):Prop:=
 ∃v,Blk W w.heap.size [v] 32 /\ W.ownsRow w.heap.size 9 1 v a.length (a.map eS) /\ Below w.heap.size w W /\ w.heap.size+1 <= W.heap.size /\ a.length <= n
theorem Dc(m:w'.heap.size <= n):OwnFrom n (ApI w' i):=by
 rintro z W W' row ⟨v,d,f,j,k,l⟩ a g;have h:∀r,row=some r -> ∃o:Obj,W.heap[r]?=some o /\ o.isCells=false:=fun r e=>(g r e).2
 refine⟨v,d.keep (grownBy_keeps_cells a h d rfl),f.kept a ?_,j.grown a (by omega) (fun q x=>au m (g q x).1),au k a.size,l⟩;cases p:v.ownBlock with
 |none=>exact .inl rfl
 |some b=>
  refine .inr fun t=>?_
  obtain⟨y,s⟩:=gT f p;obtain⟨o,c,u⟩:=h b t.symm;rw[s] at c;injection c with c
  subst c;cases u
theorem sA(l:List bR)(m:Nat)(hv:Rows F w 1 v l.length (l.map eS))(hF:∀b,F b -> b<w.heap.size)(N:Blk w m [v] 32)(hl:l.length <= 1000000):
 Calls aE 221 #[.slice none 0 0,.func (.func 205) #[] #[.pointer (some ⟨m,0,none⟩)]] w fun e S=>
  ∃r,e=.returned r /\ S.ownsRow w.heap.size 9 1 r l.length (l.map eS) /\ Below w.heap.size w S:=by
 refine(callsIn_wide (n:=2)).1 ?_;refine callsIn_of_wp_marks func221 rfl trivial ?_ rfl;simp only[ntmps221,List.size_toArray,aD,List.length_nil,Nat.reduceAdd,Nat.reduceSub,Array.replicate_succ,Array.replicate_zero,List.push_toArray,List.append_toArray,List.nil_append,List.cons_append];obtain⟨u,g⟩:=aQ (w.alloc (.cells #[.slice none 0 0] 32));have Q:Below w.heap.size w u:=by rw[g];exact aI _ _
 have aH:u.heap.size=w.heap.size+1:=by rw[g];simp
 have ao:Blk u w.heap.size [.slice none 0 0] 32:=by rw[g];exact Blk.new _ _ _
 have aG:=N.lt;have az:=hv.keep (w':=u) fun b _ Z=>Q.block b Z
 have av:=N.keep (Q.block _ N.lt)
 gi_wp2_with fail
 rw[<- g];have aF:=ae g;clear g
 refine pS (n:=0) rfl (enters_of func205 (by kernel_rfl) rfl)
  (xZ u F v l m w.heap.size az hF (by omega) av hl)
  (fun _=>rfl) (fun a x W H o o' ax E s hG=>hG)
  (fun{A Bw C} M h2=>M.trans h2) (fun W H o o' ax E s=>Kb.put W H o' (by omega))
  (ApI w l.length) (fun _ _=>False) (Dc _ (by omega)) (fun _ _ _ _ h=>h.elim)
  ⟨_,ao,World.ownsRow_nil _ _ _ _,Q,by omega,by simp⟩
  (fun x=>{ tmps:=#[.slice none 0 0,.func (.func 205) #[] #[.pointer (some ⟨m,0,none⟩)],.pointer (some ⟨w.heap.size,0,none⟩),undef,.slice none 0 0,eS x,.func (.func 205) #[] #[.pointer (some ⟨m,0,none⟩)],eS x,undef,undef,undef,undef,undef],defers:=[] }) ?assign ?body ?done ?stop
 case assign=>
  intro H x W Kx ar
  gi_wp2
  exact ar
 case body=>
  rintro H a x W ⟨t,f,c,d,hz,ay⟩ hx;have Z:a.length<l.length:=(List.getElem?_eq_some_iff.1 hx).1;obtain⟨i0,q1,q2,q3,q4⟩:=info_parts zt;obtain⟨v5,w5,hr,R,z⟩:=cu (P:=aE) W w.heap.size 32 9 underlying32 q1 q2 q3 q4 rfl (by decide) t a.length _ c #[eS x] rfl (by simp[Value.oneCell']) (by unfold maxLen;omega) (by omega) (by omega);obtain⟨J,K,rfl⟩:=aK R;have U:Blk (W.alloc (.cells #[eS x] 9)) w.heap.size [t] 32:=f.alloc _;have G:=bm c (aI W (.cells #[eS x] 9));have p:=U.grownNe G (by decide) z;have c5:=p.cell 0;have f5:=p.free 0;have L:=f.cell 0;simp at c5 L;obtain⟨I,k⟩:=aQ (w5.setCell ⟨w.heap.size,0,none⟩ (.slice J (a.length+1) K))
  have Y:KeepsOthers W I:=by
   have M:KeepsOthers W w5:=(KeepsOthers.alloc W _).trans (KeepsOthers.of_grownBy z (fun j o hj E=>by
    obtain⟨cs,s⟩:=gT G hj;rw[s] at E;cases E
    rfl))
   rw[k];exact M.trans (KeepsOthers.setCell _ _ _)
  have B:Below w.heap.size W I:=by
   rw[k];exact((Below.refl w.heap.size W).alloc (by omega) _).trans (Below.grownOwn G z (by simp;omega) (aq _)) |>.setCell (aq _) _
  have X:Kb w.heap.size W I:=Kb.of_below B
  have T:ApI w l.length (a++[x]) I:=by
   refine⟨.slice J (a.length+1) K,?_,?_,d.trans B,au hz B.size,by simp;omega⟩
   ·rw[k];simpa using p.set 0 _
   ·rw[k];have:=aL (i:=0) R p (by decide) (.slice J (a.length+1) K);simpa using this
  have ab:=ae T;have ak:=ae Y;have ai:=ae X;have an:=ae k;clear T Y B X k p U G R z f c q1 q2 q3 q4;simp only[eS,Go.Proofs.encStr] at hr⊢
  gi_wp2_with fail
  rw[<- an.out];exact⟨ak.out,ai.out,ab.out⟩
 case done=>
  rintro D xs W hD rfl ⟨t,f,c,d,hz,ay⟩ y;have L:=f.cell 0;simp at L;have O:=grownBy_putObj' W D (.deferred none)
  have aa:=c.kept O (by
   cases d:t.ownBlock with
   |none=>exact .inl rfl
   |some b=>
    refine .inr fun he=>?_
    obtain⟨cs,s⟩:=gT c d;obtain rfl:b=D:=by simpa using he
    rw[s] at y
    cases y)
  have V:Below w.heap.size w (W.putObj D (.deferred none)):=d.grown O (by omega) (fun q hq=>by cases hq;omega);have al:=ae aa;have ad:=ae V;have ag:=ae y;clear aa V y O f c d
  gi_wp2_with fail
  refine⟨by simp,.inl ⟨_,_,rfl,run_takeDeferred ag.out,?_⟩⟩;refine⟨t,by simp[results,Tryz.f221,go_sem],_,rfl,al.out,ad.out⟩
 case stop=>
  rintro D a W hD-hE;exact hE.elim
theorem vQ(l:List bR)(f:Nat)(k:Rows F w 1 v l.length (l.map eS))(hF:∀b,F b -> b<w.heap.size)(j:Blk w f [v] 32)(s:l.length <= 1000000):
 Calls aE 203 #[.func (.func 205) #[] #[.pointer (some ⟨f,0,none⟩)]] w fun e m=>
  ∃r,e=.returned r /\ m.ownsRow w.heap.size 9 1 r l.length (l.map eS) /\ Below w.heap.size w m:=by
 have h:=ae (sA w F v l f k hF j s);clear k j
 go_enter func203,ntmps203
 go_wp2_with fail;refine h.out.mono ?_;rintro e t ⟨r,rfl,d,i⟩;obtain⟨n,g⟩:=aH l.length;rw[g] at d;obtain⟨a,c,rfl⟩:=aK d;have p:=ae g;clear g;have q:=ae d;have o:=ae i;clear d i h;go_wp2_with fail
 go_ret
 exact⟨_,rfl,by rw[p.out];exact q.out,o.out⟩
theorem x5(l:List bR)(q:Nat)(I:Rows F w 1 v l.length (l.map eS))(hF:∀b,F b -> b<w.heap.size)(E:Blk w q [v] 32)(U:l.length <= 1000000):
 Calls aE 160 #[.func (.func 205) #[] #[.pointer (some ⟨q,0,none⟩)]] w fun e N=>
  ∃r,e=.returned r /\ N.ownsRow w.heap.size 9 1 r (dw l).length ((dw l).map eS) /\ Below w.heap.size w N:=by
 have p:=ae (vQ w F v l q I hF E U);have H:(dw l).length=l.length:=(ej l).length_eq;clear I E;obtain⟨n,u⟩:=aH l.length;rw[H,u];have g:=ae u;clear H u
 go_enter func160,ntmps160
 go_wp2_with fail;refine p.out.mono ?_;rintro e a ⟨r,rfl,i,h⟩;rw[g.out] at i;rcases i.2 with⟨rfl,J⟩|⟨c,A,X,rfl,t,m,K,L,M,o⟩
 ·obtain rfl:l = []:=List.length_eq_zero_iff.1 (by rw[g.out];exact J);have k:=ae (Tryz.slices_Sort_string_none none 0 a);subst J;have R:=ae i;have Q:=ae h;clear i h p;go_wp2_with fail;refine k.out.mono ?_;rintro e W ⟨rfl,rfl⟩;go_wp2_with fail
  go_ret
  exact⟨_,rfl,by simpa[dw] using R.out,Q.out⟩
 ·have D:Holds Go.Proofs.encStr a c 0 l.toArray:=holds_of_block m (by rw[Nat.mul_one] at o;rw[<- g.out] at o;simpa using o);have G:c<a.heap.size:=(Array.getElem?_eq_some_iff.1 m).1;have s:=Tryz.slices_Sort_string c 0 A l a D G (by omega);rw[g.out] at s;have k:=ae s;have V:(a.heap.size:Nat)=a.heap.size:=rfl
  have z:=ae (show ∀d f,World.ownsRow (grow (putRow Go.Proofs.encStr (Sort.ahead a d) c 0 (l.mergeSort fun x y=>decide (x <= y)).toArray) f) w.heap.size 9 1 (.slice (some ⟨c,0,none⟩) n A) n ((dw l).map eS) /\ Below w.heap.size w (grow (putRow Go.Proofs.encStr (Sort.ahead a d) c 0 (l.mergeSort fun x y=>decide (x <= y)).toArray) f) from fun d f=>by
   have S:=g.out;subst S
   exact⟨ownsRow_sorted (by simp) t m K L M,h.grown (grownBy_sorted _) h.size (fun j T=>by cases T;exact t)⟩)
  clear i h p s D m o M K L t G V;go_wp2_with fail;refine k.out.mono ?_;rintro e W ⟨rfl,d,f,rfl⟩;obtain⟨B,C⟩:=z.out d f;have O:=ae B;have P:=ae C;clear B C z k;generalize(grow (putRow Go.Proofs.encStr (Sort.ahead a d) c 0 (l.mergeSort fun x y=>decide (x <= y)).toArray) f)=Y at *;go_wp2_with fail
  go_ret
  exact⟨_,rfl,O.out,P.out⟩
end
end Go.Proofs.YtobjdpngnfbicaaGreatDoor
namespace Go.Proofs
open Go.Shelf
def Tryz.laysCompact_ren:Go.Shelf.Ren:=⟨fun|194=>162|n=>n,fun|31=>32|9=>9|3=>3|4=>4|0=>0|n=>n,fun|n=>n⟩
theorem Tryz.laysCompact:Go.Proofs.Lays.n194 aE Tryz.laysCompact_ren:={
 mixed:=by kernel_rfl
 f194:=func162.trans (congrArg some (by kernel_rfl))
 t0:=underlying0
 a0:=Tryz.isAgg0
 z0:=Tryz.sizeOf0
 v0:=Tryz.zeroValue0
 t3:=underlying3
 a3:=Tryz.isAgg3
 z3:=Tryz.sizeOf3
 v3:=Tryz.zeroValue3
 t4:=underlying4
 a4:=Tryz.isAgg4
 z4:=Tryz.sizeOf4
 v4:=Tryz.zeroValue4
 t9:=underlying9
 a9:=Tryz.isAgg9
 z9:=Tryz.sizeOf9
 v9:=Tryz.zeroValue9
 t31:=underlying32
 a31:=Tryz.isAgg32
 z31:=Tryz.sizeOf32
 v31:=Tryz.zeroValue32 }
end Go.Proofs
