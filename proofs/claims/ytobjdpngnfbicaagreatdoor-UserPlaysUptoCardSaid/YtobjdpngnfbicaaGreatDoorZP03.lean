/-
  RRdR Disk Disk2 Disk3 Disk4 Disk5 JMath UMath UMany Shelf Tree Keys
-/
import Derived.Test.YtobjdpngnfbicaaGreatDoorZP02
import Derived.StillTailTactics
import Derived.Shelf.Small.Wraps
import Derived.Shelf.Strings.Shaped
import Derived.Shelf.Sort.Plain
import Derived.Shelf.GgClosure.StringsRunes
import Derived.Shelf.Strings.FuncGrows
import Derived.Shelf.Slices.CompactS
import Derived.Shelf.Slices.In.SortNone
import Derived.Shelf.Unicode.ValidAny
open Go.IntWalk renaming i64_in->af
open Nat renaming le_refl->aq
open List renaming length_append->aA,append_assoc->aB,getElem_mem->aC,length_cons->aD
open Go.Proofs.Tryz renaming prog->aE
set_option maxHeartbeats 4000000
set_option maxRecDepth 100000
set_option linter.all false
namespace Go.Proofs.YtobjdpngnfbicaaGreatDoor
open Go.RowKit
open Go.Proofs.Tryz
variable(w:World)(F:aQ)(n k:Nat)(b:List UInt8){W w':World}{G:aQ}{i j o:Nat}{l:List UInt8}{L:List Value}{r:aT}{t:TypeId}
section
open Go.Lib
attribute [local go_sem ↓] aU
attribute [local go_sem] opC upC told bE bm bF bp bq bG bH
theorem mJ{a:Option Addr}(h:aO G W (.slice a j o) l)(d:0<l.length):
 ∃b e,a=some ⟨b,e,none⟩ /\ G b /\ b<W.heap.size /\ ∀i (h:i<l.length),W.cell? ⟨b,e+i,none⟩=some (B l[i]):=by
 obtain⟨-,-,-,c⟩:=h.cells;rcases c with c|c
 ·rw[c] at d;simp at d
 ·exact c
def xD(b:List UInt8)(a:Nat)(c:List UInt8):Bool:=decide ((b.drop a).take c.length=c)
theorem CT{b c:List UInt8}{k0 j:Nat}(a:j<c.length)(f:k0+j<b.length)(e:(b.drop k0).take j=c.take j):(b.drop k0).take (j+1)=c.take (j+1)↔b[k0+j]=c[j]:=by
 have d:j<(b.drop k0).length:=by simp;omega
 rw[List.take_succ_eq_append_getElem d,e,List.take_succ_eq_append_getElem a,List.getElem_drop];exact⟨λh=>(List.cons.inj (List.append_cancel_left h)).1,λh=>by rw[h]⟩
theorem zj(F G:aQ)(I N:Option Addr)(J K:Nat)(b c:List UInt8)(d:Nat)(R:aO F w (.slice I b.length J) b)(C:aO G w (.slice N c.length K) c)(hk:d <= b.length):
 Calls aE 188 #[.slice I b.length J,.int .i64 (d:Int),.slice N c.length K] w λe k=>e=.returned (.bool (xD b d c)) /\ Kpt w k:=by
 have ab:b.length <= 9223372036854775807:=by obtain⟨-,s,g,-⟩:=R.cells;unfold maxLen at g;omega
 have ai:c.length <= 9223372036854775807:=by obtain⟨-,s,g,-⟩:=C.cells;unfold maxLen at g;omega
 have X:∀W,Kpt w W -> aO (λq=>q<w.heap.size) W (.slice I b.length J) b:=λW S=>by
  obtain⟨a,M,e,s,g,P,Q⟩:=R;refine⟨a,M,e,s,g,P,Q.imp id λ⟨A,U,L,t,O,l,_,f,V⟩=>⟨A,U,L,t,O,l,lt_of_block f,(S.block _ (lt_of_block f)).trans f,V⟩⟩
 have Y:∀W,Kpt w W -> aO (λq=>q<w.heap.size) W (.slice N c.length K) c:=λW S=>by
  obtain⟨a,M,e,s,g,P,Q⟩:=C;refine⟨a,M,e,s,g,P,Q.imp id λ⟨A,U,L,t,O,l,_,f,V⟩=>⟨A,U,L,t,O,l,lt_of_block f,(S.block _ (lt_of_block f)).trans f,V⟩⟩
 obtain⟨n,E⟩:=aH b.length;obtain⟨m,D⟩:=aH c.length;have r:=E;have o:=D;rw[E] at ab hk;rw[D] at ai;rw[E,D];have aP:¬(d:Int)<0:=by omega
 have aR:¬(n:Int)<(d:Int):=by omega
 have hw:IntKind.i64.wrap ((n:Int)-(d:Int))=(n:Int)-(d:Int):=af _ (by omega)
 by_cases aJ:n-d<m
 ·have al:(n:Int)-(d:Int)<(m:Int):=by omega
  have p:=ae (show xD b d c=false by
   unfold xD;apply decide_eq_false;intro h;have:=congrArg List.length h;have l:=r;have f:=o;simp at this
   omega)
  clear R C E D
  go_enter func188,ntmps188
  go_wp2
  go_ret
  exact⟨by rw[p.x];rfl,Below.refl _ _⟩
 have al:¬(n:Int)-(d:Int)<(m:Int):=by omega
 go_enter func188,ntmps188
 go_wp2
 go_loopw [7] (λi wr=>∃j:Nat,j <= m /\ i=.int .i64 (j:Int) /\ (b.drop d).take j=c.take j /\ Kpt w wr) (λi _=>m-(intOf i).toNat)
 ·exact⟨0,by omega,rfl,rfl,Below.refl _ _⟩
 ·obtain⟨j,hj,rfl,H,u⟩:=hrel
  by_cases aI:j<m
  ·have ak:(j:Int)<(m:Int):=by omega
   obtain⟨A,ob,rfl,-,-,ad⟩:=mJ (X wr u) (by have:=r;omega);obtain⟨bc,oc,rfl,-,-,ag⟩:=mJ (Y wr u) (by have:=o;omega);have l:=ad (d+j) (by have:=r;omega);have f:=ag j (by have:=o;omega);have T:=CT (b:=b) (c:=c) (k0:=d) (j:=j) (by have:=o;omega) (by have:=r;omega) H
   obtain⟨x,hx⟩:∃x,b[d+j]'(by have:=r;omega)=x:=⟨_,rfl⟩
   obtain⟨y,hy⟩:∃y,c[j]'(by have:=o;omega)=y:=⟨_,rfl⟩
   rw[hx] at l T;rw[hy] at f T;unfold B at l f;have ar:∀k,aK wr.drew k -> k.cell? _=_:=λk hh=>bh l hh
   have ax:∀k,aK wr.drew k -> k.cell? _=_:=λk hh=>bh f hh
   have Z:=T;have z:=u;have aN:IntKind.i64.wrap ((d:Int)+(j:Int))=(d:Int)+(j:Int):=af _ (by omega);have aM:((d:Int)+(j:Int)).toNat=d+j:=by omega
   have ay:¬(d:Int)+(j:Int)<0:=by omega
   have az:(d:Int)+(j:Int)<(n:Int):=by omega
   go_wp2_with fail;refine bP aK (up 11 []) (by kernel_rfl) ?_;apply aG;rfl;intro k C;go_simp;exact aF;refine aW ?_
   by_cases v:x=y
   ·have an:=Z.2 v;have ao:((x.toNat:Int) != (y.toNat:Int))=false:=by rw[v];simp
    have aa:=z.drew;go_wp2
    go_roundw
    ·exact⟨j+1,by omega,by go_num,an,aa⟩
    ·simp[intOf];omega
   ·have aL:¬(x.toNat:Int)=(y.toNat:Int):=λh=>v (UInt8.toNat_inj.1 (by omega))
    have ao:((x.toNat:Int) != (y.toNat:Int))=true:=by simp;omega
    have p:=ae (show xD b d c=false by
     unfold xD;apply decide_eq_false;intro h;refine v (Z.1 ?_);have g:=congrArg (List.take (j+1)) h;rw[List.take_take,show min (j+1) c.length=j+1 by have:=o;omega] at g
     exact g)
    clear v;go_wp2
    go_ret
    exact⟨by rw[p.x];rfl,z.drew⟩
  ·have ak:¬(j:Int)<(m:Int):=by omega
   have p:=ae (show xD b d c=true by
    unfold xD;apply decide_eq_true;have e:j=c.length:=by have:=o;omega
    rw[e,List.take_length] at H
    exact H)
   have z:=u;clear H u X Y;go_wp2
   go_ret
   exact⟨by rw[p.x];rfl,z⟩
theorem vk:IntKind.u64.wrap (n:Int)=((n%18446744073709551616:Nat):Int):=by
 simp[IntKind.wrap,IntKind.bits,IntKind.signed]
theorem j6(Y:Option Addr)(O:Nat)(b:List UInt8)(d:Nat)(hB:aO F w (.slice Y b.length O) b)(hk:d <= b.length):
 Calls aE 133 #[.slice Y b.length O,.int .i64 (d:Int)] w λe w'=>e=.returned (ji b d) /\ Kpt w w':=by
 have aN:b.length <= 9223372036854775807:=by obtain⟨-,h1,h2,-⟩:=hB.cells;unfold maxLen at h2;omega
 have HB:∀W,Kpt w W -> aO (λq=>q<w.heap.size) W (.slice Y b.length O) b:=λW hW=>by
  obtain⟨a,cp,e,h1,h2,h3,h4⟩:=hB;refine⟨a,cp,e,h1,h2,h3,h4.imp id λ⟨Z,aY,L,t,fz,k,_,e2,aZ⟩=>⟨Z,aY,L,t,fz,k,lt_of_block e2,(hW.block _ (lt_of_block e2)).trans e2,aZ⟩⟩
 obtain⟨n,A⟩:=aH b.length;have s:=A;obtain⟨D,hD⟩:=aH (b.drop d);have HD:=hD;have aM:D.length=n-d:=by rw[<- hD,List.length_drop,A]
 have R:=aM;obtain⟨U,hU⟩:=aH (ji b d);have HU:iw n (rdF D 9)=U:=by rw[<- hU,<- hD,<- A];rfl
 rw[hU];have M:rdF D 9=none -> U=.tuple #[.int .u64 0,.int .i64 0,.bool false]:=λh=>by rw[<- HU,h];rfl
 rw[A] at aN hk;rw[A];have bk:¬(d:Int)<0:=by omega
 have bl:(0:Int) <= (d:Int):=by omega
 have hw:IntKind.i64.wrap ((n:Int)-(d:Int))=(n:Int)-(d:Int):=af _ (by omega)
 go_enter func133,ntmps133
 go_wp2
 go_loopw [7,8,9] (λv o i wr=>∃j:Nat,j <= 10 /\ j <= n-d /\ v=.int .u64 ((lw (D.take j)%18446744073709551616:Nat):Int) /\ o=.int .u64 ((128 ^ j%18446744073709551616:Nat):Int) /\ i=.int .i64 (j:Int) /\ (∀x (H:x<D.length),x<j -> ¬D[x].toNat<128) /\ Kpt w wr) (λ_ _ i _=>10-(intOf i).toNat)
 ·exact⟨0,by omega,by omega,rfl,rfl,rfl,λx H h=>absurd h (by omega),Below.refl _ _⟩
 ·obtain⟨j,hj,a6,rfl,rfl,rfl,az,aF⟩:=hrel;have K:=az;have g:=aF;obtain⟨v,hv⟩:=aH (lw (D.take j)%18446744073709551616);obtain⟨o,ho⟩:=aH (128 ^ j%18446744073709551616);have⟨Hv,Ho⟩:=ae2 hv ho;rw[hv,ho];clear az aF hv ho
  by_cases a4:j=10
  ·have aS:¬(j:Int)<10:=by omega
   have G:=M (AG λi hi h=>K i hi (by omega));have N:=ae G;clear G;go_wp2
   go_ret3
   exact⟨by rw[N.x];rfl,g⟩
  have aS:(j:Int)<10:=by omega
  by_cases a5:j<n-d
  case neg=>
   have G:=M (AG λi hi h=>K i hi (by have:=R;omega));have N:=ae G;clear G
   by_cases a8:d<n
   ·have aK:(d:Int)<(n:Int):=by omega
    have aT:¬(j:Int)<(n:Int)-(d:Int):=by omega
    go_wp2
    go_ret3
    exact⟨by rw[N.x];rfl,g⟩
   ·have aK:¬(d:Int)<(n:Int):=by omega
    go_wp2
    go_ret3
    exact⟨by rw[N.x];rfl,g⟩
  case pos=>
   have aK:(d:Int)<(n:Int):=by omega
   have aT:(j:Int)<(n:Int)-(d:Int):=by omega
   obtain⟨Z,ob,rfl,-,-,aG⟩:=mJ (HB wr g) (by have:=s;omega);have k:=aG (d+j) (by have:=s;omega)
   obtain⟨x,H⟩:∃x,b[d+j]'(by have:=s;omega)=x:=⟨_,rfl⟩
   rw[H] at k;unfold B at k;have aI:j<D.length:=by have:=R;omega
   have S:D[j]=x:=by
    have h:=HD;subst h;rw[List.getElem_drop];exact H
   obtain⟨y,I⟩:=aH x.toNat;rw[I] at k;have Hy:=I;obtain⟨q,C⟩:=aH (y%128);have Hq:=C;have bi:IntKind.i64.wrap ((d:Int)+(j:Int))=(d:Int)+(j:Int):=af _ (by omega);have bh:((d:Int)+(j:Int)).toNat=d+j:=by omega
   have a1:¬(d:Int)+(j:Int)<0:=by omega
   have a2:(d:Int)+(j:Int)<(n:Int):=by omega
   have bf:(y:Int).tmod 128=(q:Int):=by rw[Int.tmod_eq_emod_of_nonneg (by omega)];omega
   have bj:y<256:=by rw[<- I];exact x.toNat_lt
   obtain⟨p,hp⟩:=aH (o*q%18446744073709551616);obtain⟨f,ai⟩:=aH ((v+p)%18446744073709551616);obtain⟨o',ad⟩:=aH (o*128%18446744073709551616);have bc:IntKind.u64.wrap ((o:Int)*(q:Int))=(p:Int):=by rw[<- hp,<- vk];simp
   have a0:IntKind.u64.wrap ((v:Int)+(p:Int))=(f:Int):=by rw[<- ai,<- vk];simp
   have bd:IntKind.u64.wrap ((o:Int)*128)=(o':Int):=by rw[<- ad,<- vk];simp
   have be:IntKind.u64.wrap (q:Int)=(q:Int):=IntWalk.u64_in _ (by omega)
   have X:=ae (show lw (D.take (j+1))%18446744073709551616=f by
    rw[Bm D j aI,S,I,C,<- ai,<- hp,<- Hv.x,<- Ho.x]
    simp[Nat.add_mod,Nat.mul_mod])
   have aL:=ae (show 128 ^ (j+1)%18446744073709551616=o' by
    rw[<- ad,<- Ho.x,Nat.pow_succ]
    simp[Nat.mul_mod])
   clear aG H I C hp ai ad
   by_cases ab:y<128
   ·have aR:(y:Int)<128:=by omega
    obtain⟨c,Q⟩:=aH (bY f);have aW:f<18446744073709551616:=by rw[<- X.x];exact Nat.mod_lt _ (by omega)
    have V:=ae (show rdF D 9=if D.take (j+1)=c then some (f,D.drop (j+1)) else none by
     rw[F4 aI (by omega) K (by rw[S,Hy];exact ab),X.x,Q])
    have T:=ae (dS wr f aW);rw[Q] at T;have aP:c.length <= 10:=by rw[<- Q];exact cq _
    clear Q ab;go_wp2_with fail;refine T.x.mono ?_;rintro e w5 ⟨⟨r,rfl,ag⟩,ar⟩;obtain⟨cv,cc,rfl⟩:=aJ ag;have ao:aO (λq=>wr.heap.size <= q) w5 (.slice cv c.length cc) c:=aO.of_owns ag _ λq C _=>C
    have J:=ae (g.trans (ar.mono g.size));have P:=zj w5 _ _ (some ⟨Z,ob,none⟩) cv O cc b c d (HB _ J.x) ao (by have:=s;omega);rw[s] at P;obtain⟨m,u⟩:=aH c.length;obtain⟨bg,aa⟩:=aH (xD b d c);rw[aa,u] at P;have ay:bg=decide (D.take m=c):=by rw[<- aa,<- HD,<- u];rfl
    have⟨ak,Hm,an⟩:=ae3 P u ay;rw[u] at aP⊢;clear T k ag ao ar P ay aa u;have a3:IntKind.i64.wrap ((j:Int)+1)=(j:Int)+1:=af _ (by omega)
    by_cases aU:m=j+1
    ·subst aU;go_wp2_with fail;refine ak.x.mono ?_;rintro e w6 ⟨rfl,ax⟩;have al:=ae (J.x.trans (ax.mono J.x.size));clear ak ax;cases bg with
     |true=>
      have a7:IntKind.i64.wrap ((d:Int)+((j:Int)+1))=(d:Int)+((j:Int)+1):=af _ (by omega);have E:D.take (j+1)=c:=of_decide_eq_true an.x.symm
      have l:=ae (show U=.tuple #[.int .u64 (f:Int),.int .i64 ((d:Int)+((j:Int)+1)),.bool true] by
       rw[<- HU,V.x,if_pos E];show Value.tuple #[.int .u64 (f:Int),.int .i64 ((n-(D.drop (j+1)).length:Nat):Int),.bool true]=_;rw[List.length_drop,R,show n-(n-d-(j+1))=d+(j+1) by omega]
       simp)
      clear E;go_wp2
      go_ret3
      exact⟨by rw[l.x];rfl,al.x⟩
     |false=>
      have E:¬D.take (j+1)=c:=of_decide_eq_false an.x.symm;have l:=ae (M (by rw[V.x,if_neg E]));clear E;go_wp2
      go_ret3
      exact⟨by rw[l.x];rfl,al.x⟩
    ·have aV:¬(m:Int)=(j:Int)+1:=by omega
     have ba:((m:Int) == (j:Int)+1)=false:=beq_eq_false_iff_ne.2 aV
     have l:=ae (M (by
      rw[V.x,if_neg];intro h;have:=congrArg List.length h;rw[List.length_take,Hm.x] at this
      omega))
     go_wp2
     go_ret3
     exact⟨by rw[l.x];rfl,J.x⟩
   ·have aR:¬(y:Int)<128:=by omega
    go_wp2
    go_roundw
    ·exact⟨j+1,by omega,by omega,by rw[X.x],by rw[aL.x],by go_num,λz hz a9=>by
     by_cases aX:z<j
     ·exact K z hz aX
     ·have:z=j:=by omega
      subst this
      rw[S,Hy];exact ab,g⟩
    ·simp[intOf];omega
theorem oR(x:Option Addr)(i:Nat)(b:List UInt8)(f:Nat)(j:aO F w (.slice x b.length i) b)(O:f <= b.length):
 Calls aE 216 #[.slice x b.length i,.int .i64 (f:Int)] w λe w'=>e=.returned (j5 b f) /\ Kpt w w':=by
 have ab:b.length <= 9223372036854775807:=by obtain⟨-,s,E,-⟩:=j.cells;unfold maxLen at E;omega
 have R:∀W,Kpt w W -> aO (λq=>q<w.heap.size) W (.slice x b.length i) b:=λW G=>by
  obtain⟨a,V,e,s,E,h3,h4⟩:=j;refine⟨a,V,e,s,E,h3,h4.imp id λ⟨y,ar,L,t,Z,Y,_,D,ax⟩=>⟨y,ar,L,t,Z,Y,lt_of_block D,(G.block _ (lt_of_block D)).trans D,ax⟩⟩
 have u:=j6 w F x i b f j O;obtain⟨n,g⟩:=aH b.length;obtain⟨o,v⟩:=aH (rdF (b.drop f) 9);obtain⟨U,z⟩:=aH (j5 b f);have ao:ji b f=iw n o:=by unfold ji;rw[v,g]
 have K:=g;have B:=v;rw[ao,g] at u;rw[z,g];rw[g] at ab O;cases o with
 |none=>
  have l:U=.tuple #[.string ⟨#[]⟩,.int .i64 0,.bool false]:=by
   rw[<- z];unfold j5 rdT;rw[B];rfl
  have h:=u;unfold iw at h;dsimp only at h
  go_enter func216,ntmps216
  go_wp2_with fail;refine h.mono ?_;rintro e J ⟨rfl,k⟩;go_wp2
  go_ret3
  exact⟨by rw[l];rfl,k⟩
 |some p=>
  obtain⟨m,r⟩:=p;have H:=jD v
  have I:r.length <= (b.drop f).length /\ r=(b.drop f).drop ((b.drop f).length-r.length):=by
   have s:=(gy.1 v).2;have hl:=congrArg List.length s;rw[aA] at hl;refine⟨by omega,?_⟩
   conv=>rhs;rw[s]
   simp
  obtain⟨d,A⟩:=aH r.length;rw[A,List.length_drop,g] at H I;obtain⟨c,ak⟩:=aH (n-d)
  have T:=ae (show r=b.drop c by
   rw[I.2,List.drop_drop]
   congr 1
   omega)
  have aG:=H.2.2;have aI:d <= n:=by omega
  have al:(c:Int)=(n:Int)-(d:Int):=by omega
  have M:iw n (some (m,r))=.tuple #[.int .u64 (m:Int),.int .i64 (c:Int),.bool true]:=by
   show Value.tuple #[.int .u64 (m:Int),.int .i64 ((n-r.length:Nat):Int),.bool true]=_;rw[A,ak]
  rw[M] at u;have h:=u;have C:=ae A;have N:0<b.length:=by omega
  obtain⟨y,Q,rfl,-⟩:=mJ j N;obtain⟨-,ag,ai,-⟩:=j.cells;unfold maxLen at ai;rw[g] at ag
  have aK:IntKind.i64.wrap ((n:Int)-(c:Int))=(d:Int):=by
   rw[show(n:Int)-(c:Int)=(d:Int) by omega];exact af _ (by omega)
  have aJ:IntKind.u64.wrap (d:Int)=(d:Int):=IntWalk.u64_in _ (by omega);clear u j v g H I A M N
  by_cases P:m <= d
  ·have an:¬(d:Int)<(m:Int):=by omega
   have aF:IntKind.i64.wrap (m:Int)=(m:Int):=af _ (by omega);have aL:IntKind.i64.wrap ((c:Int)+(m:Int))=(c:Int)+(m:Int):=af _ (by omega)
   have l:U=.tuple #[.string ⟨(r.take m).toArray⟩,.int .i64 ((c:Int)+(m:Int)),.bool true]:=by
    rw[<- z];unfold j5 rdT;rw[B];dsimp only;rw[if_pos (by rw[C.x];exact P)];show Value.tuple #[.string ⟨(r.take m).toArray⟩,.int .i64 ((b.length-(r.drop m).length:Nat):Int),.bool true]=_;rw[K,List.length_drop,C.x,show n-(d-m)=c+m by omega];simp
   have hcut:=λW G=>(R W G).cutI c m (by rw[K];omega)
   obtain⟨ad,aa⟩:=aH ((if i=c then some ⟨y,Q,none⟩ else some ⟨y,Q+c,none⟩):Option Addr);rw[aa] at hcut;have S:=ae hcut;have ay:(c:Int) <= (c:Int)+(m:Int):=by omega
   have az:(c:Int)+(m:Int) <= (i:Int):=by omega
   have aM:((c:Int)+(m:Int)).toNat-c=m:=by omega
   clear hcut
   go_enter func216,ntmps216
   go_wp2_with fail;refine h.mono ?_;rintro e J ⟨rfl,k⟩;have X:=iZ (S.x J k);rw[<- T.x] at X;clear h;go_wp2
   go_ret3
   exact⟨by rw[l,al];rfl,k⟩
  ·have an:(d:Int)<(m:Int):=by omega
   have l:U=.tuple #[.string ⟨#[]⟩,.int .i64 0,.bool false]:=by
    rw[<- z];unfold j5 rdT;rw[B];dsimp only;rw[if_neg (by rw[C.x];exact P)];rfl
   go_enter func216,ntmps216
   go_wp2_with fail;refine h.mono ?_;rintro e J ⟨rfl,k⟩;go_wp2
   go_ret3
   exact⟨by rw[l];rfl,k⟩
end
structure MD where
 S:List (List UInt8)
 down:Bool
 fault:Option (Nat×List UInt8)
 writes:Nat
structure DK where
 d:Nat
 bs:Nat
 bf:Nat
def DK.foot(K:DK):aQ:=λk=>k=K.d \/ k=K.bs \/ k=K.bf
def jr(L:List Value)(S:List (List UInt8)):Prop:=
 S.length*64 <= L.length /\ (∀i (h:i<S.length),(L.drop (i*64)).take 64=S[i].map B) /\ ∀s∈S,s.length=64
structure bM(w:World)(K:DK)(M:MD):Prop where
 pos:0<M.S.length
 le:M.S.length <= 65536
 main:∃cap,M.S.length <= cap /\ cap <= maxLen /\ Blk w K.d [.slice (some ⟨K.bs,0,none⟩) M.S.length cap,.bool M.down,.pointer (M.fault.map λ_=>⟨K.bf,0,none⟩),.int .i64 (M.writes:Int)] 88
 secs:∃L,Blk w K.bs L 99 /\ jr L M.S
 none_:M.fault=none -> K.bf=K.d
 some_:∀k t,M.fault=some (k,t) -> t.length=64 /\ k <= 9223372036854775807 /\ Blk w K.bf (.int .i64 (k:Int)::t.map B) 101
theorem bM.keep{w w':World}{K:DK}{M:MD}(h:bM w K M)(c:∀b,K.foot b -> w'.heap[b]?=w.heap[b]?):bM w' K M:=by
 obtain⟨f,g,⟨e,n,o,i⟩,⟨L,j,l⟩,m,a⟩:=h;exact⟨f,g,⟨e,n,o,i.keep (c _ (.inl rfl))⟩,⟨L,j.keep (c _ (.inr (.inl rfl))),l⟩,m,λk t d=>⟨(a k t d).1,(a k t d).2.1,(a k t d).2.2.keep (c _ (.inr (.inr rfl)))⟩⟩
theorem bM.lt{w:World}{K:DK}{M:MD}(h:bM w K M):∀b,K.foot b -> b<w.heap.size:=by
 obtain⟨i,j,⟨g,l,m,a⟩,⟨L,d,k⟩,e,f⟩:=h;rintro b (rfl|rfl|rfl)
 ·exact a.lt
 ·exact d.lt
 ·cases c:M.fault with
  |none=>rw[e c];exact a.lt
  |some p=>exact(f p.1 p.2 (by rw[c])).2.2.lt
theorem bM.only{K:DK}{M:MD}{F:aQ}(h:bM W K M)(d:aM F W w')(c:∀b,K.foot b -> ¬F b):bM w' K M:=
 h.keep λb a=>d.block b (h.lt b a) (c b a)
def MD.chk(M:MD)(i:Int):Int:=if M.down then 341 else if 0 <= i /\ i<M.S.length then 0 else 6
theorem i5(K:DK)(M:MD)(i:Int)(h:bM w K M):
 Calls aE 76 #[.pointer (some ⟨K.d,0,none⟩),.int .i64 i] w λe g=>e=.returned (.int .i64 (M.chk i)) /\ w=g:=by
 obtain⟨k,l,⟨j,m,o,a⟩,_,_,_⟩:=h;have b:=a.cell 0;have c:=a.cell 1;simp at b c;have q:M.S.length <= 9223372036854775807:=by omega
 unfold MD.chk;generalize M.down=f at *;generalize M.S.length=n at *;cases f
 ·by_cases hi:i<0
  ·go_enter func76,ntmps76
   go_wp2
   go_ret
   exact⟨fv (by simp<;>omega),rfl⟩
  ·by_cases p:(n:Int) <= i
   all_goals
    go_enter func76,ntmps76
    go_wp2
    go_ret
    exact⟨fv (by simp<;>omega),rfl⟩
 ·go_enter func76,ntmps76
  go_wp2
  go_ret
  exact⟨fv (by simp),rfl⟩
section
attribute [local go_sem ↓] aU
theorem zk{S:List (List UInt8)}(h:jr L S)(i:Nat)(a:i<S.length)(j:Nat)(d:j<(S[i]).length):L[i*64+j]?=some (B (S[i])[j]):=by
 obtain⟨f,b,c⟩:=h;have g:(S[i]).length=64:=c _ (aC a);have:=b i a;have e:((L.drop (i*64)).take 64)[j]?=(S[i].map B)[j]?:=by rw[this]
 rw[List.getElem?_take,if_pos (by omega),List.getElem?_drop] at e;simpa[List.getElem?_eq_getElem d] using e
theorem vl{K:DK}{M:MD}(h:bM W K M)(i:Nat)(b:i<M.S.length):aO K.foot W (.slice (some ⟨K.bs,i*64,none⟩) 64 64) M.S[i]:=by
 obtain⟨L,c,a⟩:=h.secs;have e:(M.S[i]).length=64:=a.2.2 _ (aC b);have f:=a.1;refine⟨some ⟨K.bs,i*64,none⟩,64,by rw[e],by omega,by unfold maxLen;omega,nofun,.inr ⟨K.bs,i*64,L.toArray,_,_,rfl,.inr (.inl rfl),c,by simp;omega,λj d=>?_⟩⟩;simpa using zk a i b j d
theorem Es(K:DK)(M:MD)(i:Nat)(h:bM w K M)(b:i<M.S.length)(m:M.down=false):
 Calls aE 153 #[.pointer (some ⟨K.d,0,none⟩),.int .i64 (i:Int)] w λe a=>∃r,e=.returned (.tuple #[r,.int .i64 0]) /\
  a.ownsRow w.heap.size 5 1 r 64 (M.S[i].map B) /\ Kpt w a:=by
 have o:=vl h i b;have c:(M.S[i]).length=64:=by obtain⟨L,q,n⟩:=h.secs;exact n.2.2 _ (aC b)
 have l:M.chk (i:Int)=0:=by unfold MD.chk;rw[m,if_neg (by simp),if_pos (by omega)]
 obtain⟨p,s,t,j⟩:=h.main;have g:=j.cell 0;simp at g;have u:=h.le;have v:(i:Int)<(M.S.length:Int):=by omega
 go_enter func153,ntmps153
 go_wp2_with fail;refine(i5 w K M i h).mono ?_;rintro e a ⟨rfl,rfl⟩;rw[l];go_wp2_with fail;refine(mC w K.foot _ _ o (by rw[c];omega)).mono ?_;rintro e a ⟨r,rfl,f,k⟩;go_wp2;go_ret2;exact⟨r,rfl,by rw[c] at f;exact f,k⟩
theorem xE(K:DK)(M:MD)(h:bM w K M):
 Calls aE 21 #[.pointer (some ⟨K.d,0,none⟩)] w λe c=>e=.returned (.bool M.down) /\ w=c:=by
 obtain⟨f,g,i,b⟩:=h.main;have a:=b.cell 1;simp at a
 go_enter func21,ntmps21
 go_wp2
 go_ret
 exact⟨rfl,rfl⟩
theorem rN(K:DK)(M:MD)(h:bM w K M):
 Calls aE 86 #[.pointer (some ⟨K.d,0,none⟩)] w λe c=>e=.returned (.int .i64 (M.S.length:Int)) /\ w=c:=by
 obtain⟨f,g,i,b⟩:=h.main;have a:=b.cell 0;simp at a
 go_enter func86,ntmps86
 go_wp2
 go_ret
 exact⟨rfl,rfl⟩
theorem zm(K:DK)(M:MD)(h:bM w K M):
 Calls aE 37 #[.pointer (some ⟨K.d,0,none⟩)] w λe c=>e=.returned (.int .i64 (M.writes:Int)) /\ w=c:=by
 obtain⟨f,g,i,b⟩:=h.main;have a:=b.cell 3;simp at a
 go_enter func37,ntmps37
 go_wp2
 go_ret
 exact⟨rfl,rfl⟩
theorem bM.ne{w:World}{K:DK}{M:MD}(h:bM w K M):K.d≠K.bs /\ K.bs≠K.bf:=by
 obtain⟨f,g,i,e⟩:=h.main;obtain⟨L,b,j⟩:=h.secs;have a:K.d≠K.bs:=e.ne b (by decide);refine⟨a,?_⟩;cases c:M.fault with
 |none=>rw[h.none_ c];exact a.symm
 |some p=>exact b.ne (h.some_ p.1 p.2 (by rw[c])).2.2 (by decide)
theorem bM.ne2{K:DK}{M:MD}(h:bM W K M)(c:M.fault≠none):K.d≠K.bf:=by
 obtain⟨e,f,g,b⟩:=h.main;cases a:M.fault with
 |none=>exact absurd a c
 |some p=>exact b.ne (h.some_ p.1 p.2 (by rw[a])).2.2 (by decide)
theorem Fw(K:DK)(M:MD)(h:bM w K M):
 Calls aE 25 #[.pointer (some ⟨K.d,0,none⟩)] w λe f=>e=.returned (.tuple #[]) /\ bM f K { M with down:=false } /\ aM K.foot w f /\ f.heap.size=w.heap.size:=by
 obtain⟨m,n,⟨l,q,r,b⟩,⟨L,g,o⟩,p,c⟩:=h;have s:=b.ne g (by decide);have j:=b.cell 1;have u:=b.free 1;simp at j;have i:Hd (∀k t,M.fault=some (k,t) -> K.d≠K.bf):=λk t a=>b.ne (c k t a).2.2 (by decide)
 go_enter func25,ntmps25
 go_wp2_with fail
 go_end0
 refine⟨rfl,⟨m,n,⟨l,q,r,by simpa using b.set 1 (.bool false)⟩,⟨L,g.set_other _ s.symm,o⟩,p,λk t a=>⟨(c k t a).1,(c k t a).2.1,(c k t a).2.2.set_other _ (i.x k t a).symm⟩⟩,(aM.refl _ _).setCell (.inl (.inl rfl)) _,by simp[World.setCell]⟩
end
theorem Bq:∀(V:List Value)(i:Nat)(a:Array Value),n+i+V.length <= a.size ->
 (V.zipIdx i).foldl (λ(a:Array Value) (x:Value×Nat)=>a.setIfInBounds (n+x.2) x.1) a=(a.toList.take (n+i)++V++a.toList.drop (n+i+V.length)).toArray:=by
 intro V
 induction V with
 |nil=>intro i a h;simp
 |cons v V f=>
  intro i a h;simp only[aD] at h;rw[List.zipIdx_cons,List.foldl_cons,f (i+1) _ (by simp;omega)]
  congr 1
  simp only[Array.toList_setIfInBounds];apply List.ext_getElem?;intro j;simp only[List.getElem?_append,aA,List.length_take,List.length_set,Array.length_toList,List.getElem?_take,List.getElem?_drop,List.getElem?_set,aD]
  by_cases d:j<n+i
  ·have b:j<min (n+(i+1)) a.size:=by omega
   have c:j<min (n+i) a.size:=by omega
   rw[if_pos (by omega),if_pos b,if_pos (by omega),if_neg (by omega),if_pos (by omega),if_pos c,if_pos d]
  ·by_cases e:j=n+i
   ·subst e;have b:n+i<min (n+(i+1)) a.size:=by omega
    rw[if_pos (by omega),if_pos b,if_pos (by omega),if_pos rfl,if_pos (by omega),if_pos (by omega),if_neg (by omega)];simp[show n+i-min (n+i) a.size=0 from by omega]
   ·by_cases g:j<n+i+(V.length+1)
    ·rw[if_pos (by omega),if_neg (by omega),if_pos (by omega),if_neg (by omega)];rw[show j-min (n+i) a.size=(j-min (n+(i+1)) a.size)+1 from by omega];simp
    ·rw[if_neg (by omega),if_neg (by omega),if_neg (by omega)]
     congr 1
     omega
def BD(t:TypeId)(parts:Array (Nat×Value)):Sem Value:=Instr.build t parts
theorem eF(a:Array (Nat×Value)):Instr.build 101 a=BD 101 a:=rfl
theorem eG(a:Addr):loadVar 99 a=LV 99 a:=rfl
theorem eR(a:Addr):loadVar 101 a=LV 101 a:=rfl
theorem eh(a:Addr)(v:Value):storeVar 99 a v=SV 99 a v:=rfl
theorem eH(a:Addr)(v:Value):storeVar 101 a v=SV 101 a v:=rfl
theorem Br:(aE.info? 101).map (λi=>i.zero.map (λz=>z.cells.size))=some (some 65):=by kernel_rfl
theorem Bs{P:Program}(h:(P.info? t).map (λi=>i.zero.map (λz=>z.cells.size))=some (some j)):∃i z,P.info? t=some i /\ i.zero=some z /\ z.cells.size=j:=by
 obtain⟨i,hi,a⟩:=Option.map_eq_some_iff.1 h;obtain⟨z,c,b⟩:=Option.map_eq_some_iff.1 a;exact⟨i,z,hi,c,b⟩
theorem iL:(aE.info? 99).map (·.size)=some 64:=by kernel_rfl
theorem Et:(aE.info? 3).map (·.size)=some 1:=by kernel_rfl
theorem vm(k:Int)(V:List Value)(e:V.length=64):
 (BD 101 #[(0,.int .i64 k),(1,.agg V.toArray)]).run aE w=.ok (.agg (.int .i64 k::V).toArray) w:=by
 obtain⟨i,x,hi,s,b⟩:=Bs Br;obtain⟨y,o,u⟩:=Option.map_eq_some_iff.1 Et;obtain⟨A,p,v⟩:=Option.map_eq_some_iff.1 iL;generalize t:x.cells=z at *;have r:¬z=#[]:=by intro h;rw[h] at b;simp at b
 have f:=Bq 1 V 0 (z.setIfInBounds 0 (.int .i64 k)) (by simp;omega);have g:∀(q:IntKind)(n:Int),(Value.int q n).cells=#[.int q n]:=λ_ _=>rfl
 have j:∀(d:Array Value),(Value.agg d).cells=d:=λ_=>rfl
 have m:(List.take 1 (z.toList.set 0 (.int .i64 k))++V++List.drop (1+V.length) (z.toList.set 0 (.int .i64 k)))=.int .i64 k::V:=by
  have:z.toList.length=65:=by simpa using b
  generalize z.toList=c at *
  obtain⟨a,c,rfl⟩:∃a l,c=a::l:=by cases c with
   |nil=>simp at this
   |cons a l=>exact⟨a,l,rfl⟩
  simp at this;simp[e,this]
 simp only[Nat.add_zero,Array.toList_setIfInBounds,m] at f;simp only[BD,Instr.build,zeroValue,typeInfo,sizeOf];simp[hi,s,o,p,run_underlying underlying101,Instr.fill,g,j,u,v,e,b,t,r,f]
section
attribute [local go_sem ↓] aU eF eG eR eh eH
theorem aO.load{a:Option Addr}(h:aO G W (.slice a i o) l)(f:l.length=64):
 ∃b d,a=some ⟨b,d,none⟩ /\ G b /\ ∀c:World,c.heap[b]?=W.heap[b]? -> (LV 99 ⟨b,d,none⟩).run aE c=.ok (.agg (l.map B).toArray) c:=by
 obtain⟨s,u,g,v,y,z,h⟩:=h;simp at g;obtain⟨rfl,rfl,rfl⟩:=g;rcases h with h|⟨b,d,L,t,k,rfl,hF,m,x,q⟩
 ·rw[h] at f;simp at f
 ·refine⟨b,d,rfl,hF,λc r=>?_⟩;have p:c.heap[b]?=some (.cells L.toList.toArray t k):=by rw[r,m]
  rw[CJ underlying99 rfl iL p (by simp;omega)]
  congr 4
  apply List.ext_getElem?;intro j;rw[List.getElem?_take,List.getElem?_drop,List.getElem?_map]
  by_cases e:j<64
  ·rw[if_pos e];have:=q j (by omega);simp[List.getElem?_eq_getElem (show j<l.length by omega),<- this]
  ·rw[if_neg e,List.getElem?_eq_none (by omega)];rfl
theorem l7(a:Option Addr)(n b:Nat)(h:64 <= n):(Instr.arrayAt 99 (.slice a n b)).run aE w=.ok (.pointer a) w:=by
 simp[Instr.arrayAt,run_underlying underlying99,Nat.not_lt.2 h]
theorem CU(K:DK)(n:Int)(a:Option Addr)(b c:Nat)(k:b <= 9223372036854775807)(i:n<0 \/ b≠64):
 Calls aE 15 #[.pointer (some ⟨K.d,0,none⟩),.int .i64 n,.slice a b c] w λe f=>e=.returned (.int .i64 (if n<0 then 6 else 1)) /\ w=f:=by
 by_cases l:n<0
 ·go_enter func15,ntmps15
  go_wp2
  go_ret
  exact⟨rfl,rfl⟩
 ·have j:b≠64:=by omega
  have g:((b:Int) != 64)=true:=bne_iff_ne.2 (by omega);have h:(b != 64)=true:=bne_iff_ne.2 (by omega)
  go_enter func15,ntmps15
  go_wp2
  go_ret
  exact⟨rfl,rfl⟩
theorem Eu(K:DK)(M:MD)(h:bM w K M)(n:Nat)(E:n <= 9223372036854775807)(F:aQ)(v:Value)(l:List UInt8)(p:aO F w v l)(g:l.length=64):
 Calls aE 15 #[.pointer (some ⟨K.d,0,none⟩),.int .i64 (n:Int),v] w λe q=>e=.returned (.int .i64 0) /\
  bM q ⟨K.d,K.bs,w.heap.size⟩ { M with fault:=some (n,l) } /\ aM K.foot w q:=by
 have H:=p;obtain⟨a,s,rfl,U,Z,J,I⟩:=p;obtain⟨b,O,rfl,hF,m⟩:=H.load g;have V:=m w rfl;have S:=λW:World=>l7 W (some ⟨b,O,none⟩) 64 s (aq _)
 have T:=vm w n (l.map B) (by simpa using g);clear m I J;obtain⟨x,y,⟨u,A,C,c⟩,⟨L,f,z⟩,i,j⟩:=h;have G:=c.ne f (by decide);have X:=c.lt;have r:=c.cell 2;have R:=c.free 2;simp at r;have⟨P,Q⟩:=ae2 i j;clear i j;generalize D:l.length=N at *;obtain rfl:N=64:=g;have Y:=f.lt
 go_enter func15,ntmps15
 go_wp2
 go_ret
 refine⟨rfl,⟨x,y,⟨u,A,C,by simpa using(c.set 2 (.pointer (some ⟨w.heap.size,0,none⟩))).alloc _⟩,⟨L,(f.set_other _ G.symm).alloc _,z⟩,nofun,λk t o=>?_⟩,((aM.refl _ _).setCell (.inl (.inl rfl)) _).alloc _⟩;simp at o;obtain⟨rfl,rfl⟩:=o;exact⟨D,E,by simpa[World.setCell] using Blk.new (w.setCell ⟨K.d,2,none⟩ (.pointer (some ⟨w.heap.size,0,none⟩))) (.int .i64 (n:Int)::l.map B).toArray 101⟩
def MD.write(M:MD)(i:Nat)(l:List UInt8):MD×Int:=
 match M.fault with
 |none=>({ M with S:=M.S.set i l,writes:=M.writes+1 },0)
 |some (0,t)=>({ M with S:=M.S.set i t,fault:=none,down:=true },341)
 |some (k+1,t)=>({ M with S:=M.S.set i l,fault:=some (k,t),writes:=M.writes+1 },0)
theorem Bt(K:DK)(M:MD)(i:Int)(v:Value)(h:bM w K M)(a:M.chk i≠0):
 Calls aE 33 #[.pointer (some ⟨K.d,0,none⟩),.int .i64 i,v] w λe b=>e=.returned (.int .i64 (M.chk i)) /\ w=b:=by
 have c:(M.chk i == 0)=false:=beq_eq_false_iff_ne.2 a;have f:(M.chk i != 0)=true:=bne_iff_ne.2 a
 go_enter func33,ntmps33
 go_wp2_with fail;refine(i5 w K M i h).mono ?_;rintro e b ⟨rfl,rfl⟩;go_wp2
 go_ret
 exact⟨rfl,rfl⟩
theorem jr.put{S:List (List UInt8)}(h:jr L S)(i:Nat)(o:i<S.length)(l:List UInt8)(d:l.length=64):
 jr (L.take (i*64)++l.map B++L.drop (i*64+64)) (S.set i l):=by
 obtain⟨n,f,g⟩:=h;have p:(L.take (i*64)++l.map B++L.drop (i*64+64)).length=L.length:=by simp;omega
 refine⟨by simp only[List.length_set];omega,λj b=>?_,λs m=>?_⟩
 ·simp only[List.length_set] at b
  by_cases c:j=i
  ·subst c;rw[List.getElem_set_self]
   have e:(L.take (j*64)++l.map B++L.drop (j*64+64)).drop (j*64)=l.map B++L.drop (j*64+64):=by
    rw[aB];have:(L.take (j*64)).length=j*64:=by simp;omega
    exact List.drop_left' this
   rw[e,List.take_append_of_le_length (by simp;omega),List.take_of_length_le (by simp;omega)]
  ·rw[List.getElem_set_ne (Ne.symm c),<- f j b];apply List.ext_getElem?;intro k;simp only[List.getElem?_take,List.getElem?_drop]
   by_cases a:k<64
   ·rw[if_pos a,if_pos a];simp only[List.getElem?_append,aA,List.length_take,List.length_map,List.getElem?_take,List.getElem?_drop,d]
    by_cases q:j<i
    ·rw[if_pos (by omega),if_pos (by omega),if_pos (by omega)]
    ·rw[if_neg (by omega)]
     congr 1
     omega
   ·rw[if_neg a,if_neg a]
 ·rcases List.mem_or_eq_of_mem_set m with h|rfl
  ·exact g _ h
  ·exact d
theorem zn(K:DK)(M:MD)(h:bM w K M)(o:M.fault=none)(i:Nat)(hi:i<M.S.length)(ad:M.down=false)(hw:M.writes<4611686018427387904)(F:aQ)(v:Value)(l:List UInt8)(D:aO F w v l)(j:l.length=64):
 Calls aE 33 #[.pointer (some ⟨K.d,0,none⟩),.int .i64 (i:Int),v] w λe m=>e=.returned (.int .i64 0) /\
  bM m K { M with S:=M.S.set i l,writes:=M.writes+1 } /\ aM K.foot w m /\ m.heap.size=w.heap.size:=by
 have x:M.chk (i:Int)=0:=by unfold MD.chk;rw[ad,if_neg (by simp),if_pos (by omega)]
 have J:=ae x;clear x;have ak:=D;obtain⟨a,U,rfl,ao,hm,hz,hx⟩:=D;obtain⟨b,E,rfl,hF,y⟩:=ak.load j;have av:=y w.drew rfl;have an:=λW:World=>l7 W (some ⟨b,E,none⟩) 64 U (aq _)
 clear y hx hz;have Y:=h;obtain⟨Z,h2,⟨X,aa,ab,c⟩,⟨L,n,r⟩,s,u⟩:=h;rw[o] at c;have z:=c.ne n (by decide);have ax:=c.lt;have O:=c.cell 0;have Q:=c.cell 2;have R:=c.cell 3;have f3:=c.free 3;simp at O Q R;have az:=r.1;have ai:=zd (P:=aE) (w:=w.drew) iL (off:=i*64) n (V:=l.map B) (by simpa using j) (by omega) (jw l);have⟨H,H7,p⟩:=ae3 s u o;clear s u o;have I:=ae (r.put i hi l j);obtain⟨G,f⟩:=aP (w.drew.setRow K.bs (L.take (i*64)++l.map B++L.drop (i*64+64)).toArray);rw[<- f] at ai;have g:=c.drew.row_other (L.take (i*64)++l.map B++L.drop (i*64+64)).toArray z;have q:=n.drew.row (L.take (i*64)++l.map B++L.drop (i*64+64));rw[<- f] at g q;have ag:aM K.foot w G:=by rw[f];exact(aM.refl _ _).drew.setRow (.inl (.inr (.inl rfl))) _
 have A:G.heap.size=w.heap.size:=by rw[f];simp
 have T:=g.cell 3;have al:=g.free 3;simp at T;have N:=ae A;clear A;clear f;generalize ar:l.length=ln at *;obtain rfl:ln=64:=j;have ay:(i:Int)<(M.S.length:Int):=by omega
 go_enter func33,ntmps33
 go_wp2_with fail;refine(i5 w K M i Y).mono ?_;rintro e m ⟨rfl,rfl⟩;rw[J.x];go_wp2_with fail
 go_still_tail 9,(by kernel_rfl)
 change wpList _ _ _ _ _ w.drew;go_wp2
 go_ret
 refine⟨rfl,⟨by simpa using Z,by simpa using h2,⟨X,by simpa using aa,ab,?_⟩,⟨_,q.set_other _ z.symm,I.x⟩,H.x,λk t C=>?_⟩,ag.setCell (.inl (.inl rfl)) _,?_⟩
 ·rw[p.x];simpa using g.set 3 (.int .i64 ((M.writes:Int)+1))
 ·rw[p.x] at C;cases C
 ·simp[World.setCell];exact N.x
end
/-! check sums -/
def i6:List (BitVec 32):=[0x00000000#32,0x1DB71064#32,0x3B6E20C8#32,0x26D930AC#32,0x76DC4190#32,0x6B6B51F4#32,0x4DB26158#32,0x5005713C#32,
 0xEDB88320#32,0xF00F9344#32,0xD6D6A3E8#32,0xCB61B38C#32,0x9B64C2B0#32,0x86D3D2D4#32,0xA00AE278#32,0xBDBDF21C#32]
def nib(r:BitVec 32):BitVec 32:=(r >>> 4) ^^^ i6.getD (r &&& 15#32).toNat 0#32
def Ev(r:BitVec 32)(c:UInt8):BitVec 32:=nib (nib (r ^^^ BitVec.ofNat 32 c.toNat))
def qV(r:BitVec 32)(l:List UInt8):BitVec 32:=l.foldl Ev r
def crc(l:List UInt8):Nat:=(~~~ (qV (~~~ 0#32) l)).toNat
theorem zo:crc b<4294967296:=BitVec.isLt _
/-! numbers of four bytes, the lowest first -/
def cB(n:Nat):List UInt8:=[UInt8.ofNat n,UInt8.ofNat (n/256),UInt8.ofNat (n/65536),UInt8.ofNat (n/16777216)]
def bV(b:List UInt8)(a:Nat):Nat:=(b.getD a 0).toNat+256*(b.getD (a+1) 0).toNat+65536*(b.getD (a+2) 0).toNat+16777216*(b.getD (a+3) 0).toNat
theorem cn:(cB n).length=4:=rfl
theorem l8(a:Nat):bV b a<4294967296:=by
 unfold bV;have c:=(b.getD a 0).toNat_lt;have d:=(b.getD (a+1) 0).toNat_lt;have e:=(b.getD (a+2) 0).toNat_lt;have f:=(b.getD (a+3) 0).toNat_lt;omega
/-! sectors -/
def fT(b:List UInt8):List UInt8:=b++cB (crc b)
def iM(s:List UInt8):Bool:=bV s 60 == crc (s.take 60)
def dF:List UInt8:=[72,78,75,74]
def dw(g:Nat):List UInt8:=fT (dF++cB g++List.replicate 52 0)
def qo(b:List UInt8):List UInt8:=b.take 48++List.replicate (48-b.length) 0
def eo(g k:Nat)(b:List UInt8)(i:Nat):List UInt8:=fT (cB g++cB k++cB (b.length-48*i)++qo (b.drop (48*i)))
def takes(n:Nat):Nat:=max 1 ((n+47)/48)
def bw(n:Nat):Nat:=(n-2)/2
def dm(n g p:Nat):Nat:=2+g%2*bw n+p
theorem lA:(qo b).length=48:=by simp[qo];omega
theorem oS:(dw n).length=64:=by simp[dw,fT,cB,dF]
theorem nh(i:Nat):(eo n k b i).length=64:=by simp[eo,fT,cB,lA]
theorem ei:0<takes n:=by unfold takes;omega
/-! the disk, written whole: with the check whether the power is on -/
def MD.wr(M:MD)(a:Nat)(s:List UInt8):MD×Int:=if M.down then(M,341) else M.write a s
def bD(M:MD):List (Nat×List UInt8) -> MD×Int
 |[]=>(M,0)
 |(a,s)::r=>if(M.wr a s).2=0 then bD (M.wr a s).1 r else M.wr a s
/-! a journal -/
structure MJ where
 g:Nat
 L:List (List UInt8)
 dead:Bool
def bj(L:List (List UInt8)):Nat:=(L.map λb=>takes b.length).sum
def aX(n g k p:Nat)(b:List UInt8):List (Nat×List UInt8):=(List.range (takes b.length)).map λi=>(dm n g (p+i),eo g k b i)
def cw(M:MD)(J:MJ)(b:List UInt8):MD×MJ×Int:=
 if J.dead then(M,J,341) else if 65536<b.length then(M,J,2) else if bw M.S.length-bj J.L<takes b.length then(M,J,7) else
  let r:=bD M (aX M.S.length J.g J.L.length (bj J.L) b)
  if r.2=0 then(r.1,{ J with L:=J.L++[b] },0) else(r.1,{ J with dead:=true },r.2)
def dx(M:MD)(J:MJ)(b:List UInt8):MD×MJ×Int:=
 if J.dead then(M,J,341) else if 65536<b.length then(M,J,2) else if bw M.S.length<takes b.length \/ 4294967295 <= J.g then(M,J,7) else
  let r:=bD M (aX M.S.length (J.g+1) 0 0 b++[((J.g+1)%2,dw (J.g+1))])
  if r.2=0 then(r.1,{ g:=J.g+1,L:=[b],dead:=false },0) else(r.1,{ J with dead:=true },r.2)
def kW(M:MD)(J:MJ):Int:=if bw M.S.length-bj J.L<1 then -1 else min (48*((bw M.S.length-bj J.L:Nat):Int)) 65536
def cJ(M:MD):MD×Int:=bD M ((List.range M.S.length).map (λi=>(i,List.replicate 64 0))++[(0,dw 0)])
def gz(s:List UInt8)(i:Nat):Bool:=iM s&&(s.take 4 == dF)&&(bV s 4%2 == i)
def Ew(S:List (List UInt8)):Option Nat:=
 let a:=S.getD 0 []
 let b:=S.getD 1 []
 if gz b 1&&(!gz a 0 || decide (bV a 4<bV b 4)) then some (bV b 4) else if gz a 0 then some (bV a 4) else none
def mY(S:List (List UInt8))(g p:Nat):List UInt8:=S.getD (dm S.length g p) []
def dE(s:List UInt8)(g k n:Nat):Bool:=iM s&&bV s 0 == g&&bV s 4 == k&&bV s 8 == n
def eL(S:List (List UInt8))(g k p n:Nat):Nat -> Bool
 |0=>true
 |i+1=>eL S g k p n i&&dE (mY S g (p+i)) g k (n-48*i)
def fF(S:List (List UInt8))(g p:Nat):Nat -> List UInt8
 |0=>[]
 |i+1=>fF S g p i++((mY S g (p+i)).drop 12).take 48
def dP(S:List (List UInt8))(g k p:Nat):Option (List UInt8):=
 if bw S.length <= p then none else
  let n:=bV (mY S g p) 8
  if 65536<n \/ bw S.length<p+takes n then none else
   if eL S g k p n (takes n) then some ((fF S g p (takes n)).take n) else none
def dQ(S:List (List UInt8))(g:Nat):Nat -> Nat -> Nat -> List (List UInt8)
 |0,_,_=>[]
 |f+1,k,p=>match dP S g k p with
  |none=>[]
  |some b=>b::dQ S g f (k+1) (p+takes b.length)
def gX(M:MD):MJ ⊕ Int:=
 if M.S.length<8 then .inr 6 else if M.down then .inr 341 else match Ew M.S with
  |none=>.inr 340
  |some g=>.inl ⟨g,dQ M.S g (bw M.S.length+1) 0 0,false⟩
/-! records -/
def eM(l:List bQ):List UInt8:=bY l.length++l.flatMap bt
def dB(d:Nat)(m:aT):List UInt8:=0::(bY d++cQ m)
def vn(l:List bQ):List UInt8:=1::eM l
def vo(l:List bQ):List UInt8:=2::eM l
def ix(m:aT):List UInt8:=3::cQ m
def jH:Nat -> List UInt8 -> Option (List bQ×List UInt8)
 |0,r=>some ([],r)
 |n+1,r=>match rdT r with
  |none=>none
  |some (k,t)=>(jH n t).map λp=>(k::p.1,p.2)
def rdL(b:List UInt8):Option (List bQ×List UInt8):=match rdF b 9 with
 |none=>none
 |some (n,r)=>if n <= r.length then jH n r else none
theorem Fx(k:bQ)(r:List UInt8)(a:k.length<18446744073709551616):rdT (bt k++r)=some (k,r):=by
 have h:rdF (bt k++r) 9=some (k.length,k++r):=gy.2 ⟨a,by unfold bt;rw[aB]⟩;unfold rdT;rw[h];dsimp only;rw[if_pos (by simp)];simp
theorem AH:∀(l:List bQ)(r:List UInt8),(∀k∈l,k.length<18446744073709551616) -> jH l.length (l.flatMap bt++r)=some (l,r)
 |[],r,_=>rfl
 |k::l,r,h=>by
  rw[aD,List.flatMap_cons,aB];unfold jH;rw[Fx k _ (h k List.mem_cons_self)];dsimp only;rw[AH l r λx a=>h x (List.mem_cons_of_mem _ a)];rfl
theorem vp(k:bQ):0<(bt k).length:=by
 have:=il k.length;unfold bt;rw[aA];omega
theorem Bu(l:List bQ):l.length <= (l.flatMap bt).length:=by
 induction l with
 |nil=>exact aq _
 |cons k l a=>
  have:=vp k;rw[List.flatMap_cons,aA,aD];omega
theorem Fy(l:List bQ)(a:l.length<18446744073709551616)(h:∀k∈l,k.length<18446744073709551616):rdL (eM l)=some (l,[]):=by
 have e:rdF (eM l) 9=some (l.length,l.flatMap bt):=gy.2 ⟨a,rfl⟩;unfold rdL;rw[e];dsimp only;rw[if_pos (Bu l)];have:=AH l [] h;rw[List.append_nil] at this;exact this
/-! the state of records -/
def okR(p:aT×Int):Option aT:=if p.2=0 then some p.1 else none
def ef(d:Nat)(m:aT):List UInt8 -> Option aT
 |[]=>none
 |k::r=>if k=3 then(if(e9 r).2=0 then okR (dh m (e9 r).1) else none)
  else if k=1 then(match rdL r with|some (l,[])=>okR (iB m d l)|_=>none)
  else if k=2 then(match rdL r with|some (l,[])=>okR (dy m d l)|_=>none)
  else none
def dj(d:Nat):aT -> List (List UInt8) -> Option aT
 |m,[]=>some m
 |m,b::r=>match ef d m b with
  |none=>none
  |some x=>dj d x r
def eO:List UInt8 -> Option (Nat×aT)
 |[]=>none
 |k::r=>if k=0 then(match rdF r 9 with
  |none=>none
  |some (n,t)=>if n<8 then(if(e9 t).2=0 then some (n,(e9 t).1) else none) else none) else none
def fh:List (List UInt8) -> Option (Nat×aT)
 |[]=>none
 |b::r=>match eO b with
  |none=>none
  |some (d,m)=>(dj d m r).map λx=>(d,x)
theorem qp(d:Nat):∀(l:List (List UInt8))(m x:aT)(b:List UInt8),dj d m l=some x -> dj d m (l++[b])=ef d x b
 |[],m,x,b,h=>by
  obtain rfl:=Option.some.inj h;show dj d m [b]=_;unfold dj;cases ef d m b with
  |none=>rfl
  |some y=>rfl
 |a::l,m,x,b,h=>by
  rw[List.cons_append];unfold dj at h⊢;cases e:ef d m a with
  |none=>rw[e] at h;cases h
  |some y=>
   rw[e] at h;exact qp d l y x b h
theorem zp{L:List (List UInt8)}{m x:aT}{b:List UInt8}(h:fh L=some (i,m))(j:ef i m b=some x):fh (L++[b])=some (i,x):=by
 cases L with
 |nil=>cases h
 |cons a l=>
  rw[List.cons_append];unfold fh at h⊢;dsimp only at h⊢;cases e:eO a with
  |none=>rw[e] at h;cases h
  |some p=>
   obtain⟨g,f⟩:=p;rw[e] at h;dsimp only at h⊢;cases c:dj g f l with
   |none=>rw[c] at h;cases h
   |some y=>
    rw[c] at h;obtain⟨rfl,rfl⟩:=Prod.mk.inj (Option.some.inj h);rw[qp _ l f _ b c,j];rfl
theorem xF(a:i<8)(b:aV r=true):fh [dB i r]=some (i,r):=by
 have e:rdF (bY i++cQ r) 9=some (i,cQ r):=gy.2 ⟨by omega,rfl⟩;unfold fh eO dB;dsimp only;rw[if_pos rfl,e];dsimp only;rw[if_pos a,vj b];rfl
theorem Bv{d:Nat}{m:aT}{l:List bQ}(b:l.length<18446744073709551616)(h:∀k∈l,k.length<18446744073709551616)(a:(iB m d l).2=0):ef d m (vn l)=some (iB m d l).1:=by
 unfold ef vn;dsimp only;rw[if_neg (by decide),if_pos rfl,Fy l b h];exact if_pos a
/-! a user part: its device, its map, its journal; the disk stands beside it -/
structure MU where
 dev:Nat
 m:aT
 J:MJ
def js(M:MD)(U:MU)(b:List UInt8)(x:aT):MD×MU×Int:=
 if(cw M U.J b).2.2=0 then((cw M U.J b).1,⟨U.dev,x,(cw M U.J b).2.1⟩,0) else((cw M U.J b).1,⟨U.dev,U.m,(cw M U.J b).2.1⟩,(cw M U.J b).2.2)
def fe(M:MD)(U:MU):MD×MU×Int:=((dx M U.J (dB U.dev U.m)).1,⟨U.dev,U.m,(dx M U.J (dB U.dev U.m)).2.1⟩,(dx M U.J (dB U.dev U.m)).2.2)
def cE(M:MD)(U:MU)(b:List UInt8)(x:aT):MD×MU×Int:=
 if kW M U.J<(b.length:Int) then
  (if(fe M U).2.2=0 then(if kW (fe M U).1 (fe M U).2.1.J<(b.length:Int) then((fe M U).1,(fe M U).2.1,7) else js (fe M U).1 (fe M U).2.1 b x) else fe M U)
 else js M U b x
def dz(M:MD)(U:MU)(l:List bQ)(p:aT×Int)(b:List UInt8):MD×MU×Int:=
 if U.J.dead then(M,U,8) else if l = [] then(M,U,0) else if p.2=0 then cE M U b p.1 else(M,U,p.2)
def lB(M:MD)(U:MU)(l:List bQ):MD×MU×Int:=dz M U l (iB U.m U.dev l) (vn l)
def oT(M:MD)(U:MU)(l:List bQ):MD×MU×Int:=dz M U l (dy U.m U.dev l) (vo l)
def fU(M:MD)(U:MU)(x:aT):MD×MU×Int:=
 if U.J.dead then(M,U,8) else if(dh U.m x).2=0 then(if cQ U.m=cQ (dh U.m x).1 then(M,U,0) else cE M U (ix x) (dh U.m x).1) else(M,U,(dh U.m x).2)
def iy(M:MD)(U:MU):MD×MU×Int:=if U.J.dead then(M,U,8) else fe M U
def gY(M:MD)(d:Nat):MD×MU×Int:=((cw (cJ M).1 ⟨0,[],false⟩ (dB d .new)).1,⟨d,.new,(cw (cJ M).1 ⟨0,[],false⟩ (dB d .new)).2.1⟩,(cw (cJ M).1 ⟨0,[],false⟩ (dB d .new)).2.2)
def eZ(M:MD):MU ⊕ Int:=match gX M with
 |.inr c=>.inr c
 |.inl J=>if J.L = [] then .inr 340 else match fh J.L with
  |none=>.inr 5
  |some (d,m)=>.inl ⟨d,m,J⟩
theorem Bx{a b:aT}(d:aV a=true)(e:aV b=true)(h:cQ a=cQ b):a=b:=by
 have c:=vj d;rw[h,vj e] at c;exact(Prod.mk.inj c).1.symm
section
attribute [local go_sem] opC upC told bE bm bF bp bq bG bH
def qq(b:List UInt8):Option (Nat×List UInt8):=match rdF b 9 with
 |none=>none
 |some (n,r)=>if n <= r.length then some (n,r) else none
theorem CW:rdL b=match qq b with
 |none=>none
 |some (n,r)=>jH n r:=by
 unfold rdL qq;cases rdF b 9 with
 |none=>rfl
 |some p=>
  obtain⟨n,r⟩:=p;dsimp only
  by_cases h:n <= r.length
  ·rw[if_pos h,if_pos h]
  ·rw[if_neg h,if_neg h]
def F9(w:World)(R:Nat)(d:Value)(c:Nat)(o:Option (Nat×List UInt8))(e:Ending)(b:World):Prop:=
 (match o with
  |some (k,r)=>e=.returned (.int .i64 (k:Int)) /\ ∃a:Nat,a+r.length=c /\ Blk b R [d,.int .i64 (a:Int)] 247
  |none=>e=.panicked failP) /\ aM (λq=>q=R) w b
theorem Bz(F:aQ)(j:Option Addr)(c:Nat)(b:List UInt8)(d:Nat)(hR:Blk w k [.slice j b.length c,.int .i64 (d:Int)] 247)(G:aO F w (.slice j b.length c) b)(hF:∀q,F q -> q≠k)(Q:d <= b.length):
 Calls aE 220 #[.pointer (some ⟨k,0,none⟩)] w (F9 w k (.slice j b.length c) b.length (qq (b.drop d))):=by
 have O:=rK w k F j c b d hR G hF Q;have ad:b.length <= 9223372036854775807:=by obtain⟨-,D,E,-⟩:=G.cells;unfold maxLen at E;omega
 have L:∀W,aM (λq=>q=k) w W -> aO F W (.slice j b.length c) b:=λW hW=>G.only hW λq hq e=>hF q hq e
 obtain⟨o,J⟩:=aH (rdF (b.drop d) 9);obtain⟨n,I⟩:=aH b.length;obtain⟨K,z⟩:=aH (qq (b.drop d));rw[J,I] at O;rw[z];rw[I] at ad Q⊢;unfold qq at z;rw[J] at z;have N:=J;have v:=I;have C:=z
 go_enter func220,ntmps220
 go_wp2_with fail;refine O.mono ?_;rintro e i x;cases o with
 |none=>
  obtain⟨rfl,u⟩:=x;obtain rfl:K=none:=C.symm;have a:=u;go_wp2_with fail;exact⟨rfl,rfl,a⟩
 |some p=>
  obtain⟨m,r⟩:=p;obtain⟨⟨rfl,f,S,ab⟩,u⟩:=x;have T:=jD N;obtain⟨g,s⟩:=aH r.length;have P:(b.drop d).length=n-d:=by rw[List.length_drop,v]
  rw[P,s] at T;rw[s] at S;have ao:m<18446744073709551616:=T.2.2
  have ax:r=b.drop f:=by
   have D:=(gy.1 N).2;have E:r=(b.drop d).drop (bY m).length:=by rw[D];simp
   have h3:=congrArg List.length D;rw[P,aA,s] at h3;rw[E,List.drop_drop]
   congr 1
   omega
  have ak:f <= n:=by omega
  have al:0<n:=by omega
  obtain⟨l,t,rfl⟩:∃l t,j=some ⟨l,t,none⟩:=by
   obtain⟨-,-,-,y⟩:=(L i u).cells;obtain⟨l,t,e,-⟩:=y.resolve_left (by intro e;rw[e] at v;have:=v;simp at this;omega);exact⟨l,t,e⟩
  have y:=(L i u).cells
  have H:n <= c /\ c <= maxLen:=⟨by rw[<- v];exact y.2.1,y.2.2.1⟩
  unfold maxLen at H;have ar:=H.1;have ai:=H.2
  have ay:IntKind.u64.wrap ((n:Int)-(f:Int))=(g:Int):=by
   rw[show(n:Int)-(f:Int)=(g:Int) by omega];exact IntWalk.u64_in _ (by omega)
  have az:IntKind.u64.wrap (g:Int)=(g:Int):=IntWalk.u64_in _ (by omega)
  have aI:IntKind.i64.wrap ((n:Int)-(f:Int))=(g:Int):=by
   rw[show(n:Int)-(f:Int)=(g:Int) by omega];exact af _ (by omega)
  have B:=ab;have a:=u;have M:=S;have d0:∀h,aK i.drew h -> h.cell? ⟨k,0,none⟩=some (.slice (some ⟨l,t,none⟩) n c):=λh hh=>bh (w:=i) (by simpa using B.cell 0) hh
  have d1:∀h,aK i.drew h -> h.cell? ⟨k,1,none⟩=some (.int .i64 (f:Int)):=λh hh=>bh (w:=i) (by simpa using B.cell 1) hh
  by_cases U:m <= g
  ·have ag:¬(g:Int)<(m:Int):=by omega
   have an:IntKind.i64.wrap (m:Int)=(m:Int):=af _ (by have:=M;omega)
   have aa:K=some (m,r):=by
    rw[<- C];show(if m <= r.length then some (m,r) else none)=_;rw[s,if_pos U]
   go_wp2_with fail;refine bP aK (up 13 []) (by kernel_rfl) ?_;apply aG;rfl;intro h x;go_simp;exact aF;refine aW ?_;obtain⟨V,A⟩:=aP i.drew;rw[<- A];have X:aM (λq=>q=k) w V:=by rw[A];exact⟨a.os,a.tape,a.output,a.size,a.block⟩
   have Z:=ae (show Blk V k [.slice (some ⟨l,t,none⟩) n c,.int .i64 (f:Int)] 247 by rw[A];exact B.keep rfl);clear A;go_wp2
   go_ret
   rw[aa];exact⟨⟨rfl,f,by rw[s];have:=M;omega,Z.x⟩,X⟩
  ·have ag:(g:Int)<(m:Int):=by omega
   obtain rfl:K=none:=by
    rw[<- C];show(if m <= r.length then some (m,r) else none)=_;rw[s,if_neg U]
   go_wp2_with fail;refine bP aK (up 13 []) (by kernel_rfl) ?_;apply aG;rfl;intro h x;go_simp;exact aF;refine aW ?_
   have Y:aM (λq=>q=k) w i.drew:=⟨a.os,a.tape,a.output,a.size,a.block⟩
   go_wp2_with fail;exact⟨rfl,rfl,Y⟩
end
end Go.Proofs.YtobjdpngnfbicaaGreatDoor
namespace Go.Proofs
open Go.Shelf
def Tryz.lays219_ren:Go.Shelf.Ren:=⟨λ| 219=>248|217=>255|225=>256|224=>257|267=>258|266=>262|314=>263|n=>n,λ| 9=>9|3=>3|4=>4|5=>5|46=>199|146=>292|51=>96|n=>n,λ| 1=>1|n=>n⟩
theorem Tryz.lays219:Go.Proofs.Lays.n219 aE Tryz.lays219_ren:={
 mixed:=by kernel_rfl
 f217:=func255.trans (congrArg some (by kernel_rfl))
 f219:=func248.trans (congrArg some (by kernel_rfl))
 f224:=func257.trans (congrArg some (by kernel_rfl))
 f225:=func256.trans (congrArg some (by kernel_rfl))
 f266:=func262.trans (congrArg some (by kernel_rfl))
 f267:=func258.trans (congrArg some (by kernel_rfl))
 f314:=func263.trans (congrArg some (by kernel_rfl))
 t3:=underlying3
 a3:=Tryz.isAgg3
 z3:=Tryz.sizeOf3
 v3:=Tryz.zeroValue3
 t4:=underlying4
 a4:=Tryz.isAgg4
 z4:=Tryz.sizeOf4
 v4:=Tryz.zeroValue4
 t5:=underlying5
 a5:=Tryz.isAgg5
 z5:=Tryz.sizeOf5
 v5:=Tryz.zeroValue5
 t9:=underlying9
 a9:=Tryz.isAgg9
 z9:=Tryz.sizeOf9
 v9:=Tryz.zeroValue9
 t46:=underlying199
 a46:=Tryz.isAgg199
 z46:=Tryz.sizeOf199
 v46:=Tryz.zeroValue199
 t51:=underlying96
 a51:=Tryz.isAgg96
 z51:=Tryz.sizeOf96
 v51:=Tryz.zeroValue96
 t146:=underlying292
 a146:=Tryz.isAgg292
 z146:=Tryz.sizeOf292
 v146:=Tryz.zeroValue292
 g1:=by kernel_rfl }
open Go.RowKit Go.Lib in
theorem Tryz.stringslite_Index_one(s:ByteArray)(c:UInt8)(w:World):
 Calls aE 248 #[.string s,.string ⟨#[c]⟩] w λe a=>e=.returned (.int .i64 (Lib.indexByte s.data.toList c)) /\ a=w:=Any.stringslite_Index_one Tryz.lays219 s c w
def Tryz.laysGw17_ren:Go.Shelf.Ren:=⟨λ| 17=>250|15=>260|20=>265|n=>n,λ| 9=>9|23=>286|4=>4|3=>3|0=>0|21=>21|n=>n,λ| n=>n⟩
theorem Tryz.laysGw17:Go.Proofs.LaysGw.n17 aE Tryz.laysGw17_ren:={
 mixed:=by kernel_rfl
 f15:=func260.trans (congrArg some (by kernel_rfl))
 f17:=func250.trans (congrArg some (by kernel_rfl))
 f20:=func265.trans (congrArg some (by kernel_rfl))
 t0:=underlying0
 a0:=Tryz.isAgg0
 z0:=Tryz.sizeOf0
 v0:=Tryz.zeroValue0
 i0:=by kernel_rfl
 t3:=underlying3
 a3:=Tryz.isAgg3
 z3:=Tryz.sizeOf3
 v3:=Tryz.zeroValue3
 i3:=by kernel_rfl
 t4:=underlying4
 a4:=Tryz.isAgg4
 z4:=Tryz.sizeOf4
 v4:=Tryz.zeroValue4
 i4:=by kernel_rfl
 t9:=underlying9
 a9:=Tryz.isAgg9
 z9:=Tryz.sizeOf9
 v9:=Tryz.zeroValue9
 i9:=by kernel_rfl
 t21:=underlying21
 a21:=Tryz.isAgg21
 z21:=Tryz.sizeOf21
 v21:=Tryz.zeroValue21
 i21:=by kernel_rfl
 t23:=underlying286
 a23:=Tryz.isAgg286
 z23:=Tryz.sizeOf286
 v23:=Tryz.zeroValue286
 i23:=by kernel_rfl }
open Go.RowKit Go.Lib in
theorem Tryz.strings_ContainsFunc(g:Nat)(a:Array Value)(c:∀b w,(callFunc g b).run aE w=.ok (.enter g b) w)(p:Nat -> Bool)(s:ByteArray)(w:World)(d:PredAt aE g a encR p w):
 Calls aE 250 #[.string s,.func (.func g) #[] a] w λe f=>e=.returned (.bool (decide (0 <= Lib.idxFunc p true s))) /\ Below w.heap.size w f:=Any.strings_ContainsFunc Tryz.laysGw17 g a c p s w d
def Tryz.lays190_ren:Go.Shelf.Ren:=⟨λ| 190=>204|125=>223|258=>222|128=>238|129=>239|302=>230|303=>231|304=>232|305=>233|306=>234|307=>235|308=>169|309=>236|310=>237|333=>243|329=>244|330=>245|334=>246|335=>247|336=>209|344=>254|n=>n,λ| 31=>32|9=>9|3=>3|46=>199|0=>0|51=>96|53=>146|4=>4|183=>273|182=>272|131=>166|5=>5|218=>280|222=>283|228=>287|229=>288|n=>n,λ| n=>n⟩
theorem Tryz.lays190:Go.Proofs.Lays.n190 aE Tryz.lays190_ren:={
 mixed:=by kernel_rfl
 f125:=func223.trans (congrArg some (by kernel_rfl))
 f128:=func238.trans (congrArg some (by kernel_rfl))
 f129:=func239.trans (congrArg some (by kernel_rfl))
 f190:=func204.trans (congrArg some (by kernel_rfl))
 f258:=func222.trans (congrArg some (by kernel_rfl))
 f302:=func230.trans (congrArg some (by kernel_rfl))
 f303:=func231.trans (congrArg some (by kernel_rfl))
 f304:=func232.trans (congrArg some (by kernel_rfl))
 f305:=func233.trans (congrArg some (by kernel_rfl))
 f306:=func234.trans (congrArg some (by kernel_rfl))
 f307:=func235.trans (congrArg some (by kernel_rfl))
 f308:=func169.trans (congrArg some (by kernel_rfl))
 f309:=func236.trans (congrArg some (by kernel_rfl))
 f310:=func237.trans (congrArg some (by kernel_rfl))
 f329:=func244.trans (congrArg some (by kernel_rfl))
 f330:=func245.trans (congrArg some (by kernel_rfl))
 f333:=func243.trans (congrArg some (by kernel_rfl))
 f334:=func246.trans (congrArg some (by kernel_rfl))
 f335:=func247.trans (congrArg some (by kernel_rfl))
 f336:=func209.trans (congrArg some (by kernel_rfl))
 f344:=func254.trans (congrArg some (by kernel_rfl))
 t0:=underlying0
 a0:=Tryz.isAgg0
 z0:=Tryz.sizeOf0
 v0:=Tryz.zeroValue0
 t3:=underlying3
 a3:=Tryz.isAgg3
 z3:=Tryz.sizeOf3
 v3:=Tryz.zeroValue3
 t4:=underlying4
 a4:=Tryz.isAgg4
 z4:=Tryz.sizeOf4
 v4:=Tryz.zeroValue4
 t5:=underlying5
 a5:=Tryz.isAgg5
 z5:=Tryz.sizeOf5
 v5:=Tryz.zeroValue5
 t9:=underlying9
 a9:=Tryz.isAgg9
 z9:=Tryz.sizeOf9
 v9:=Tryz.zeroValue9
 t31:=underlying32
 a31:=Tryz.isAgg32
 z31:=Tryz.sizeOf32
 v31:=Tryz.zeroValue32
 t46:=underlying199
 a46:=Tryz.isAgg199
 z46:=Tryz.sizeOf199
 v46:=Tryz.zeroValue199
 t51:=underlying96
 a51:=Tryz.isAgg96
 z51:=Tryz.sizeOf96
 v51:=Tryz.zeroValue96
 t53:=underlying146
 a53:=Tryz.isAgg146
 z53:=Tryz.sizeOf146
 v53:=Tryz.zeroValue146
 t131:=underlying166
 a131:=Tryz.isAgg166
 z131:=Tryz.sizeOf166
 v131:=Tryz.zeroValue166
 t182:=underlying272
 a182:=Tryz.isAgg272
 z182:=Tryz.sizeOf272
 v182:=Tryz.zeroValue272
 t183:=underlying273
 a183:=Tryz.isAgg273
 z183:=Tryz.sizeOf273
 v183:=Tryz.zeroValue273
 t218:=underlying280
 a218:=Tryz.isAgg280
 z218:=Tryz.sizeOf280
 v218:=Tryz.zeroValue280
 t222:=underlying283
 a222:=Tryz.isAgg283
 z222:=Tryz.sizeOf283
 v222:=Tryz.zeroValue283
 t228:=underlying287
 a228:=Tryz.isAgg287
 z228:=Tryz.sizeOf287
 v228:=Tryz.zeroValue287
 t229:=underlying288
 a229:=Tryz.isAgg288
 z229:=Tryz.sizeOf288
 v229:=Tryz.zeroValue288 }
open Go.Sort Go.RowKit in
theorem Tryz.slices_Sort_string(a c d:Nat)(b:List (List UInt8))(w:World)(f:Holds encStr w a c b.toArray)(g:a<w.heap.size)(h:b.length<4611686018427387904):
 Calls aE 204 #[.slice (some ⟨a,c,none⟩) b.length d] w λe j=>
  e=.returned (.tuple #[]) /\ ∃n i,j=grow (putRow encStr (Sort.ahead w n) a c (b.mergeSort λx y=>decide (x <= y)).toArray) i:=Any.slices_Sort_string Tryz.lays190 a c d b w f g h
open Go.RowKit Go.Sort in
theorem Tryz.slices_Sort_string_none(p:Option Addr)(a:Nat)(w:World):
 Calls aE 204 #[.slice p 0 a] w λe b=>e=.returned (.tuple #[]) /\ b=w:=Any.slices_Sort_string_none Tryz.lays190 p a w
def Tryz.lays194_ren:Go.Shelf.Ren:=⟨λ| 194=>162|n=>n,λ| 31=>32|9=>9|3=>3|4=>4|0=>0|n=>n,λ| n=>n⟩
theorem Tryz.lays194:Go.Proofs.Lays.n194 aE Tryz.lays194_ren:={
 mixed:=by kernel_rfl
 f194:=func162.trans (congrArg some (by kernel_rfl))
 t0:=underlying0
 a0:=Tryz.isAgg0
 z0:=Tryz.sizeOf0
 v0:=Tryz.zeroValue0
 t3:=underlying3
 a3:=Tryz.isAgg3
 z3:=Tryz.sizeOf3
 v3:=Tryz.zeroValue3
 t4:=underlying4
 a4:=Tryz.isAgg4
 z4:=Tryz.sizeOf4
 v4:=Tryz.zeroValue4
 t9:=underlying9
 a9:=Tryz.isAgg9
 z9:=Tryz.sizeOf9
 v9:=Tryz.zeroValue9
 t31:=underlying32
 a31:=Tryz.isAgg32
 z31:=Tryz.sizeOf32
 v31:=Tryz.zeroValue32 }
open Go.RowKit Go.Lib Go.Sort in
theorem Tryz.slices_Compact_string(b c d:Nat)(a:List (List UInt8))(w:World)(f:Holds encStr w b c a.toArray)(h:a.length <= 9223372036854775807)(g:a.length <= d):
 Calls aE 162 #[.slice (some ⟨b,c,none⟩) a.length d] w λe i=>e=.returned (.slice (some ⟨b,c,none⟩) (Lib.compact a).length d) /\ ∃q,i=putRow encStr (Sort.ahead w q) b c (Lib.compact a++List.replicate (a.length-(Lib.compact a).length) []).toArray:=Any.slices_Compact_string Tryz.lays194 b c d a w f h g
open Go.RowKit Go.Lib Go.Sort in
theorem Tryz.slices_Compact_string_empty(a:Option Addr)(b:Nat)(w:World):
 Calls aE 162 #[.slice a 0 b] w λe c=>e=.returned (.slice a 0 b) /\ c=w:=Any.slices_Compact_string_empty Tryz.lays194 a b w
def Tryz.lays122_ren:Go.Shelf.Ren:=⟨λ| 122=>172|215=>210|n=>n,λ| 3=>3|4=>4|n=>n,λ| n=>n⟩
theorem Tryz.lays122:Go.Proofs.Lays.n122 aE Tryz.lays122_ren:={
 mixed:=by kernel_rfl
 f122:=func172.trans (congrArg some (by kernel_rfl))
 f215:=func210.trans (congrArg some (by kernel_rfl))
 t3:=underlying3
 a3:=Tryz.isAgg3
 z3:=Tryz.sizeOf3
 v3:=Tryz.zeroValue3
 t4:=underlying4
 a4:=Tryz.isAgg4
 z4:=Tryz.sizeOf4
 v4:=Tryz.zeroValue4 }
open Go.RowKit in
theorem Tryz.cmp_Compare_int(x y:Int)(w:World):
 Calls aE 172 #[.int .i64 x,.int .i64 y] w λe a=>e=.returned (.int .i64 (Lib.compareInt x y)) /\ a=w:=Any.cmp_Compare_int Tryz.lays122 x y w
def Tryz.laysValid_ren:Go.Shelf.Ren:=⟨λ| 196=>259|259=>264|n=>n,λ| 9=>9|4=>4|3=>3|5=>5|12=>12|119=>295|0=>0|46=>199|139=>298|138=>297|53=>146|n=>n,λ| 3=>2|4=>3|n=>n⟩
theorem Tryz.laysValid:Go.Proofs.Lays.n196 aE Tryz.laysValid_ren:={
 mixed:=by kernel_rfl
 f196:=func259.trans (congrArg some (by kernel_rfl))
 f259:=func264.trans (congrArg some (by kernel_rfl))
 t0:=underlying0
 a0:=Tryz.isAgg0
 z0:=Tryz.sizeOf0
 v0:=Tryz.zeroValue0
 t3:=underlying3
 a3:=Tryz.isAgg3
 z3:=Tryz.sizeOf3
 v3:=Tryz.zeroValue3
 t4:=underlying4
 a4:=Tryz.isAgg4
 z4:=Tryz.sizeOf4
 v4:=Tryz.zeroValue4
 t5:=underlying5
 a5:=Tryz.isAgg5
 z5:=Tryz.sizeOf5
 v5:=Tryz.zeroValue5
 t9:=underlying9
 a9:=Tryz.isAgg9
 z9:=Tryz.sizeOf9
 v9:=Tryz.zeroValue9
 t12:=underlying12
 a12:=Tryz.isAgg12
 z12:=Tryz.sizeOf12
 v12:=Tryz.zeroValue12
 t46:=underlying199
 a46:=Tryz.isAgg199
 z46:=Tryz.sizeOf199
 v46:=Tryz.zeroValue199
 t53:=underlying146
 a53:=Tryz.isAgg146
 z53:=Tryz.sizeOf146
 v53:=Tryz.zeroValue146
 t119:=underlying295
 a119:=Tryz.isAgg295
 z119:=Tryz.sizeOf295
 t138:=underlying297
 a138:=Tryz.isAgg297
 z138:=Tryz.sizeOf297
 v138:=Tryz.zeroValue297
 t139:=underlying298
 a139:=Tryz.isAgg298
 z139:=Tryz.sizeOf298
 v139:=Tryz.zeroValue298
 g3:=by kernel_rfl
 g4:=by kernel_rfl }
end Go.Proofs
namespace Go.Proofs.YtobjdpngnfbicaaGreatDoor
open Go.RowKit
open Go.Proofs.Tryz
variable(w:World)(F:aQ)(n k:Nat)(b:List UInt8){W w':World}{G:aQ}{i j o:Nat}{l:List UInt8}{L:List Value}{r:aT}{t:TypeId}
section
open Go
inductive oV where
 |done
 |steady (i:Nat) (r:oV)
 |move (i:Nat) (r:oV)
 |both (i j:Nat) (r s:oV)
section
variable {P:Program} {ops:Array Oper} {md:Region.Mode} {C:World -> World -> Prop}
def wpT(P:Program)(ops:Array Oper)(C:World -> World -> Prop)(Q:Act -> World -> Prop):oV -> Act -> World -> Prop
 |.done,a,w=>Q a w
 |.steady i r,a,w=>match ops[i]? with
  |none=>False
  |some o=>if Region.wanted o (yielded ops a.tmps) then ∃v,(∀b,C w b -> (execOp a.eval o).run P b=.ok (.value v) b) /\ wpT P ops C Q r (a.put o.dst v) w else wpT P ops C Q r (a.put o.dst undef) w
 |.move i r,a,w=>match ops[i]? with
  |none=>False
  |some o=>if Region.wanted o (yielded ops a.tmps) then opC P o a w (λv b=>C w b /\ wpT P ops C Q r (a.put o.dst v) b) else wpT P ops C Q r (a.put o.dst undef) w
 |.both i j r s,a,w=>(match ops[i]? with
  |none=>False
  |some o=>if Region.wanted o (yielded ops a.tmps) then opC P o a w (λv b=>C w b /\ wpT P ops C Q r (a.put o.dst v) b) else wpT P ops C Q r (a.put o.dst undef) w) /\
  (match ops[j]? with
  |none=>False
  |some o=>if Region.wanted o (yielded ops a.tmps) then opC P o a w (λv b=>C w b /\ wpT P ops C Q s (a.put o.dst v) b) else wpT P ops C Q s (a.put o.dst undef) w)
def jl(md:Region.Mode)(ops:Array Oper):oV -> Nat -> Array Bool -> Bool
 |.done,0,a=>(Region.ready md ops a).isEmpty
 |.steady i r,n+1,a=>(Region.ready md ops a).contains i&&Region.free md ops a i&&jl md ops r n (a.setIfInBounds i true)
 |.move i r,n+1,a=>(Region.ready md ops a == [i])&&jl md ops r n (a.setIfInBounds i true)
 |.both i j r s,n+1,a=>(Region.ready md ops a == [i,j])&&jl md ops r n (a.setIfInBounds i true)&&jl md ops s n (a.setIfInBounds j true)
 |_,_,_=>false
theorem zq{Q:Act -> World -> Prop}{b:Array Bool}{r:oV}{a:Act}
 (k:∀(b:Array Bool)(a:Act)(W:World),jl md ops r i b=true -> wpT P ops C Q r a W -> iq P md ops C Q i b a W)
 (f:jl md ops r i (b.setIfInBounds j true)=true)
 (h:match ops[j]? with
  |none=>False
  |some o=>if Region.wanted o (yielded ops a.tmps) then opC P o a W (λv d=>C W d /\ wpT P ops C Q r (a.put o.dst v) d) else wpT P ops C Q r (a.put o.dst undef) W):
 stC P ops C j (iq P md ops C Q i (b.setIfInBounds j true)) a W:=by
 unfold stC;cases e:ops[j]? with
 |none=>simp[e] at h
 |some o=>
  simp only[e] at h;simp only;split
  ·rename_i c;simp only[c,if_true] at h;exact eV (λv d g=>⟨g.1,k _ _ _ f g.2⟩) h
  ·rename_i c;simp only[c] at h;exact k _ _ _ f h
theorem gZ{Q:Act -> World -> Prop}(g:∀w,C w w)(m:∀a b c,C a b -> C b c -> C a c)(l:Region.noSelect ops=true):∀(t:oV)(n:Nat)(f:Array Bool)(a:Act)(w:World),
 jl md ops t n f=true -> wpT P ops C Q t a w -> iq P md ops C Q n f a w
 |.done,0,_,_,_,d,h=>⟨by simpa[jl] using d,h⟩
 |.done,_+1,_,_,_,d,_=>by simp[jl] at d
 |.steady _ _,0,_,_,_,d,_=>by simp[jl] at d
 |.move _ _,0,_,_,_,d,_=>by simp[jl] at d
 |.both _ _ _ _,0,_,_,_,d,_=>by simp[jl] at d
 |.steady i r,n+1,f,a,w,d,h=>by
  simp only[jl,Bool.and_eq_true] at d;obtain⟨⟨p,z⟩,u⟩:=d;simp only[wpT] at h;cases e:ops[i]? with
  |none=>simp[e] at h
  |some o=>
   simp only[e] at h
   by_cases x:Region.wanted o (yielded ops a.tmps)=true
   ·simp only[x,if_true] at h;obtain⟨v,F,E⟩:=h;exact gj g m e (Region.noSelect_spec l) n f a w (Region.free_spec e z) (by simpa using p) (.inl ⟨x,F⟩) (gZ g m l r n _ _ _ u E)
   ·simp only[x] at h;exact gj g m e (Region.noSelect_spec l) n f a w (Region.free_spec e z) (by simpa using p) (.inr ⟨by simpa using x,rfl⟩) (gZ g m l r n _ _ _ u h)
 |.move i r,n+1,f,a,w,d,h=>by
  simp only[jl,Bool.and_eq_true] at d;obtain⟨p,u⟩:=d;have q:Region.ready md ops f = [i]:=by simpa using p
  simp only[wpT] at h;refine⟨λe=>(by rw[q] at e;cases e),λj A=>?_⟩;rw[q] at A;obtain rfl:j=i:=by simpa using A
  exact zq (gZ g m l r n) u h
 |.both i j r s,n+1,f,a,w,d,h=>by
  simp only[jl,Bool.and_eq_true] at d;obtain⟨⟨p,B⟩,D⟩:=d;have q:Region.ready md ops f = [i,j]:=by simpa using p
  simp only[wpT] at h;refine⟨λe=>(by rw[q] at e;cases e),λk y=>?_⟩;rw[q] at y;simp only[List.mem_cons,List.not_mem_nil,or_false] at y;rcases y with rfl|rfl
  ·exact zq (gZ g m l r n) B h.1
  ·exact zq (gZ g m l s n) D h.2
theorem l9{Q:Exit -> Act -> World -> Prop}{a:Act}{l:List Oper}(C:World -> World -> Prop)(t:oV)(n:Nat)(p:P.follows .mixedOrders=true)(e:(Region.noSelect l.toArray&&jl .any l.toArray t n (Array.replicate n false)&&(n == l.length))=true)
 (q:∀W,C W W) (r:∀a b c,C a b -> C b c -> C a c)
 (Z:Act -> World -> Prop) (o:∀d f,Z d f -> Q .normal d f)
 (h:wpT P l.toArray C Z t a W.drew):(Code.region i l.toArray true).wp P Q a W:=by
 simp only[Bool.and_eq_true] at e;obtain⟨⟨g,j⟩,k⟩:=e;have m:n=l.length:=by simpa using k
 refine wp_region_any p (ly (C:=C) (Q:=Z) o _ _ _ _ ?_);have:=gZ (md:=.any) q r g t n _ a W.drew j h;subst m;simpa using this
theorem oW{Q:Act -> World -> Prop}{a:Act}(h:Q a W):wpT P ops C Q .done a W:=h
theorem rh{Q:Act -> World -> Prop}{o:Oper}{r:oV}{a:Act}(d:ops[i]?=some o)(e:Region.wanted o (yielded ops a.tmps)=true)
 (h:∀K:Act -> World -> Prop,(∀c b,wpT P ops C Q r c b -> K c b) -> opC P o a W (λv b=>C W b /\ K (a.put o.dst v) b)):wpT P ops C Q (.move i r) a W:=by
 simp only[wpT,d,e,if_true];exact h _ (λ_ _ h=>h)
theorem ud{Q:Act -> World -> Prop}{d e:Oper}{r s:oV}{a:Act}(k:ops[i]?=some d)(m:Region.wanted d (yielded ops a.tmps)=true)(l:ops[j]?=some e)(n:Region.wanted e (yielded ops a.tmps)=true)
 (f:∀K:Act -> World -> Prop,(∀c b,wpT P ops C Q r c b -> K c b) -> opC P d a W (λv b=>C W b /\ K (a.put d.dst v) b))
 (g:∀K:Act -> World -> Prop,(∀c b,wpT P ops C Q s c b -> K c b) -> opC P e a W (λv b=>C W b /\ K (a.put e.dst v) b)):wpT P ops C Q (.both i j r s) a W:=by
 simp only[wpT,k,m,l,n,if_true];exact⟨f _ (λ_ _ h=>h),g _ (λ_ _ h=>h)⟩
def xG:List Nat -> oV -> oV
 |[],t=>t
 |i::l,t=>.steady i (xG l t)
theorem g6{Q:Act -> World -> Prop}(l:List Nat)(t:oV){e:List (Oper×Option (Tmp×Bool))}{a A:Act}(i:C w' w')(g:nf some ops l=some (e,[]))
 (c:∀f,C w' f -> kU P e a f [] A L) (h:wpT P ops C Q t A w'):wpT P ops C Q (xG l t) a w':=by
 refine mE (W:=λl a=>wpT P ops C Q (xG l t) a w') i ?_ ?_ l g c h
 ·rintro x j o r a v hi b d c h;cases hi;simp only[xG,wpT,b,d,if_true];exact⟨v,c,h⟩
 ·rintro x j o r a hi b d h;cases hi;simpa only[xG,wpT,b,d,Bool.false_eq_true,if_false] using h
end
attribute [irreducible] wpT
end
section
open Go.Lib
/-! zeros among the bytes -/
theorem ue:∀r:List UInt8,((0:UInt8)∈r -> ∃i:Nat,i<r.length /\ Lib.indexByte r 0=(i:Int) /\ nH r=r.take i /\ nI r=r.drop (i+1)) /\ ((0:UInt8)∉r -> Lib.indexByte r 0 = -1)
 |[]=>⟨(λh=>by cases h),λ_=>rfl⟩
 |c::r=>by
  obtain⟨l,m⟩:=ue r
  by_cases a:c=0
  ·subst a;refine⟨λ_=>⟨0,by simp,by simp[Lib.indexByte],by simp[nH],by simp[nI]⟩,λh=>absurd List.mem_cons_self h⟩
  ·have d:(c == 0)=false:=by simpa using a
   have e:(c != 0)=true:=by simpa using a
   refine⟨λh=>?_,λh=>?_⟩
   ·have b:(0:UInt8)∈r:=by
     rcases List.mem_cons.1 h with h|h
     ·exact absurd h.symm a
     ·exact h
    obtain⟨i,hi,f,g,j⟩:=l b;refine⟨i+1,by simp;omega,?_,?_,?_⟩
    ·simp[Lib.indexByte,d,f]
    ·unfold nH at *;rw[List.takeWhile_cons];simp[e,g]
    ·unfold nI at *;rw[List.dropWhile_cons];simp[e,j]
   ·have b:(0:UInt8)∉r:=λk=>h (List.mem_cons_of_mem _ k)
    simp[Lib.indexByte,d,m b]
theorem vq(n a b c d:Nat)(e:a<256):((Lib.decodeN n a b c d).1=0↔a=0) /\ 1 <= (Lib.decodeN n a b c d).2 /\ (Lib.decodeN n a b c d).2 <= 4 /\ (2 <= (Lib.decodeN n a b c d).2 -> 1<n /\ b≠0) /\ (3 <= (Lib.decodeN n a b c d).2 -> 2<n /\ c≠0) /\ (4 <= (Lib.decodeN n a b c d).2 -> 3<n /\ d≠0):=by
 unfold Lib.decodeN
 repeat' split
 all_goals (refine⟨⟨λh=>?_,λh=>?_⟩,?_,?_,λh=>?_,λh=>?_,λh=>?_⟩<;>dsimp only at* <;> omega)
theorem xH(s:ByteArray):∀(f a:Nat),s.size <= a+f -> (0 <= Lib.idxFuncFrom (λr=>decide (r=0)) true s f a↔∃j,a <= j /\ s.data.toList[j]?=some 0)
 |0,a,h=>by
  simp only[Lib.idxFuncFrom];constructor
  ·intro h;omega
  ·rintro⟨j,e,b⟩;have:=(List.getElem?_eq_some_iff.1 b).1;have v:s.data.toList.length=s.size:=Lib.size_eq s▸rfl
   omega
 |f+1,a,h=>by
  have v:s.data.toList.length=s.size:=Lib.size_eq s▸rfl
  unfold Lib.idxFuncFrom
  by_cases l:a<s.size
  ·rw[if_pos l,Lib.decode_N];have k:∀i,s.data.toList.getD i 0=(s.data.toList[i]?).getD 0:=λi=>by rw[List.getD_eq_getElem?_getD]
   obtain⟨g,w,x,n,o,p⟩:=vq (s.data.toList.length-a) (s.data.toList.getD a 0).toNat (s.data.toList.getD (a+1) 0).toNat (s.data.toList.getD (a+2) 0).toNat (s.data.toList.getD (a+3) 0).toNat (UInt8.toNat_lt _);generalize y:Lib.decodeN _ _ _ _ _=D at *;have m:a<s.data.toList.length:=by omega
   have q:s.data.toList.getD a 0=s.data.toList[a]:=by rw[k,List.getElem?_eq_getElem m];rfl
   by_cases d:D.1=0
   ·have t:=g.1 d;rw[if_pos (by simp[d])];refine⟨λ_=>⟨a,aq _,?_⟩,λ_=>by omega⟩;rw[List.getElem?_eq_getElem m,<- q];exact congrArg some (UInt8.toNat_inj.1 (by simpa using t))
   ·rw[if_neg (by simp[d]),xH s f (a+D.2) (by omega)];constructor
    ·rintro⟨j,e,b⟩;exact⟨j,by omega,b⟩
    ·rintro⟨j,e,b⟩;refine⟨j,?_,b⟩;refine Classical.byContradiction λz=>?_
     have c:s.data.toList.getD j 0=0:=by rw[k,b];rfl
     have u:j=a \/ j=a+1 \/ j=a+2 \/ j=a+3:=by omega
     rcases u with rfl|rfl|rfl|rfl
     ·exact d (g.2 (by rw[c];rfl))
     ·exact(n (by omega)).2 (by rw[c];rfl)
     ·exact(o (by omega)).2 (by rw[c];rfl)
     ·exact(p (by omega)).2 (by rw[c];rfl)
  ·rw[if_neg l];constructor
   ·intro h;omega
   ·rintro⟨j,e,b⟩;have:=(List.getElem?_eq_some_iff.1 b).1;omega
theorem vr:decide (0 <= Lib.idxFunc (λr=>decide (r=0)) true ⟨b.toArray⟩)=decide ((0:UInt8)∈b):=by
 refine decide_eq_decide.2 ?_;unfold Lib.idxFunc;rw[xH _ _ _ (by omega)];show(∃j,0 <= j /\ b[j]?=some 0)↔_;rw[List.mem_iff_getElem?];exact⟨λ⟨j,_,h⟩=>⟨j,h⟩,λ⟨j,h⟩=>⟨j,Nat.zero_le _,h⟩⟩
def eB(w:World):Prop:=Lib.Utf8Tabs (Tryz.laysValid_ren.g 3) (Tryz.laysValid_ren.g 4) w
theorem eB.keep{w w':World}(h:eB w)(b:∀a:Addr,a.block<4 -> w'.cell? a=w.cell? a):eB w':=
 ⟨λc d=>(b _ (show Tryz.laysValid_ren.g 3<4 from by decide)).trans (h.1 c d),λi hi=>⟨(b _ (show Tryz.laysValid_ren.g 4<4 from by decide)).trans (h.2 i hi).1,(b _ (show Tryz.laysValid_ren.g 4<4 from by decide)).trans (h.2 i hi).2⟩⟩
theorem vt(d:eB w)(l:List UInt8)(g:l.length <= 9223372036854775807):
 Calls aE 249 #[.string ⟨l.toArray⟩] w λe a=>e=.returned (.bool (Lib.validD l)) /\ Kpt w a:=by
 have c:=Any.utf8_ValidString Tryz.laysValid ⟨l.toArray⟩ w (by show l.toArray.size <= _;simpa using g) d;have b:Calls aE 259 #[.string ⟨l.toArray⟩] w (λe a=>e=.returned (.bool (Lib.validD l)) /\ Kpt w a):=c
 go_enter func249,ntmps249
 go_wp2_with fail;refine b.mono ?_;rintro e a ⟨rfl,f⟩;go_wp2
 go_ret
 exact⟨rfl,f⟩
theorem pU(a c:Nat):(⟨b.toArray⟩:ByteArray).extract a c=⟨((b.drop a).take (c-a)).toArray⟩:=by
 have h:∀s:ByteArray,∀x:List UInt8,s.data.toList=x -> s=⟨x.toArray⟩:=λs x h=>by
  subst h;obtain⟨⟨y⟩⟩:=s;rfl
 refine h _ _ ?_;rw[ByteArray.data_extract];simp
theorem CX(a:Nat):(⟨b.toArray⟩:ByteArray).extract 0 a=⟨(b.take a).toArray⟩:=by rw[pU];simp
theorem nS(a:Nat):(⟨b.toArray⟩:ByteArray).extract a b.length=⟨(b.drop a).toArray⟩:=by
 rw[pU,List.take_of_length_le (by simp)]
def AJ(w:World)(l:List UInt8)(e:Ending)(a:World):Prop:=∃n,e=.returned (.tuple #[.string ⟨(nH l).toArray⟩,.string ⟨(nI l).toArray⟩,.bool (decide ((0:UInt8)∈l))]) /\ w.drewN n=a
theorem CY(t:b.length <= 9223372036854775807):
 Calls aE 240 #[.string ⟨b.toArray⟩,.string ⟨#[0]⟩] w (AJ w b):=by
 have k:=Tryz.stringslite_Index_one ⟨b.toArray⟩ 0 w;obtain⟨q,r⟩:=ue b;have c:Calls aE 248 #[.string ⟨b.toArray⟩,.string ⟨#[0]⟩] w (λe j=>e=.returned (.int .i64 (Lib.indexByte b 0)) /\ j=w):=k
 by_cases a:(0:UInt8)∈b
 ·obtain⟨i,hi,h,m,n⟩:=q a;rw[h] at c;have f:=m;have g:=n;have d:=a
  go_enter func240,ntmps240
  go_wp2_with fail;refine c.mono ?_;rintro e j ⟨rfl,rfl⟩;go_wp2_with fail;have s:(i:Int)<b.length:=by omega
  have u:IntKind.i64.wrap ((i:Int)+1)=(i:Int)+1:=af _ (by omega);have v:((i:Int)+1).toNat=i+1:=by omega
  go_quiet (fail)
  go_wp2
  go_ret3
  exact⟨_,by rw[f,g,decide_eq_true d,<- CX,<- nS];rfl,rfl⟩
 ·have h:=r a;rw[h] at c;obtain⟨o,p⟩:=wN b a;have f:=o;have g:=p;have d:=a
  go_enter func240,ntmps240
  go_wp2_with fail;refine c.mono ?_;rintro e j ⟨rfl,rfl⟩;go_wp2
  go_ret3
  exact⟨0,by rw[f,g,decide_eq_false d];rfl,rfl⟩
theorem Ex(a:b.length <= 9223372036854775807):
 Calls aE 224 #[.string ⟨b.toArray⟩,.string ⟨#[0]⟩] w (AJ w b):=by
 have C:=CY w b a
 go_enter func224,ntmps224
 go_wp2_with fail;refine C.mono ?_;rintro e d ⟨n,rfl,c⟩;go_wp2
 go_ret3
 exact⟨n,rfl,c⟩
theorem xI:PredAt aE 251 #[] encR (λr=>decide (r=0)) w:=λW r _=>by
 have a:=ae (show((r:Int) == 0)=decide (r=0) by by_cases h:r=0<;>simp[h]);unfold FnGives
 go_enter func251,ntmps251
 go_wp2
 go_ret
 exact⟨iX a.x,0,rfl⟩
theorem tx(a:Array Value)(w:World):(callFunc 251 a).run aE w=.ok (.enter 251 a) w:=rfl
theorem tz:
 Calls aE 250 #[.string ⟨b.toArray⟩,.func (.func 251) #[] #[]] w λe a=>e=.returned (.bool (decide ((0:UInt8)∈b))) /\ Kpt w a:=by
 have h:=Tryz.strings_ContainsFunc 251 #[] tx _ ⟨b.toArray⟩ w (xI w);rw[vr] at h;exact h
theorem lC(j:eB w)(l:List UInt8)(m:l.length <= 9223372036854775807):
 Calls aE 241 #[.string ⟨l.toArray⟩] w λe n=>e=.returned (.bool (fK l)) /\ Kpt w n:=by
 have V:=vt w j l m;obtain⟨f,a⟩:=aH (fK l);rw[a]
 by_cases c:l = []
 ·subst c;obtain rfl:f=false:=by rw[<- a];exact ru
  go_enter func241,ntmps241
  go_wp2
  go_ret
  exact⟨rfl,Below.refl _ _⟩
 ·have o:(!l.isEmpty)=true:=by simpa using c
  cases b:Lib.validD l with
  |false=>
   obtain rfl:f=false:=by rw[<- a];simp[fK,b]
   rw[b] at V
   go_enter func241,ntmps241
   go_wp2_with fail;refine V.mono ?_;rintro e i ⟨rfl,d⟩;go_wp2
   go_ret
   exact⟨rfl,d⟩
  |true=>
   rw[b] at V;have g:f = !decide ((0:UInt8)∈l):=by rw[<- a];simp[fK,b,c]
   obtain⟨z,h⟩:=aH (decide ((0:UInt8)∈l));rw[h] at g;subst g
   go_enter func241,ntmps241
   go_wp2_with fail;refine V.mono ?_;rintro e i ⟨rfl,d⟩;have C:=tz i l;rw[h] at C;go_wp2_with fail;refine C.mono ?_;rintro e p ⟨rfl,k⟩;go_wp2
   go_ret
   exact⟨rfl,cT d k⟩
def CZ(a:Bool)(w:World)(e:Ending)(b:World):Prop:=∃s:ByteArray,e=.returned (.tuple #[.string s,.bool a]) /\ Kpt w b
theorem bR(h:eB W)(c:4 <= W.heap.size)(b:Kpt W w'):eB w':=h.keep λa d=>b.cell (p:=a) (by omega)
theorem C0(m:eB w)(p:4 <= w.heap.size)(c:Int)(C:-1000 <= c /\ c <= 1000)(a b:List UInt8)(B:a.length+b.length <= 9223372036854775807):
 Calls aE 225 #[.int .i64 c,.string ⟨a.toArray⟩,.string ⟨b.toArray⟩] w (CZ (fq c a b) w):=by
 have k:=lC w m a (by omega);obtain⟨i,n⟩:=aH (fq c a b);rw[n]
 by_cases g:c=1 \/ c=2
 ·obtain⟨x,q⟩:=aH (fK a);rw[q] at k;cases x with
  |false=>
   obtain rfl:i=false:=by rw[<- n];simp[fq,q]
   rcases g with rfl|rfl
   all_goals
    go_enter func225,ntmps225
    go_wp2_with fail;refine k.mono ?_;rintro e j ⟨rfl,f⟩;go_wp2;go_ret2;exact⟨_,rfl,f⟩
  |true=>
   obtain⟨t,r⟩:=aH (fK b);have h:i=(t&&decide (a.length+b.length <= 398)):=by rw[<- n];simp[fq,q,r,g]
   have o:=r;clear r;have y:48+c=49 \/ 48+c=50:=by omega
   cases t with
   |false=>
    obtain rfl:i=false:=by simpa using h
    clear h;rcases g with rfl|rfl
    all_goals
     go_enter func225,ntmps225
     go_wp2_with fail;refine k.mono ?_;rintro e j ⟨rfl,f⟩;have d:=lC j (bR m p f) b (by omega);rw[o] at d;go_wp2_with fail;refine d.mono ?_;rintro e u ⟨rfl,l⟩;clear d;go_wp2;go_ret2;exact⟨_,rfl,cT f l⟩
   |true=>
    by_cases s:a.length+b.length <= 398
    ·obtain rfl:i=true:=by simpa[s] using h
     have z:Utf8.encode 49=⟨#[49]⟩:=by rfl
     have A:Utf8.encode 50=⟨#[50]⟩:=by rfl
     have D:1+a.length <= 1000:=by omega
     have E:1+a.length+1+b.length <= 1000:=by omega
     have v:decide ((a.length:Int)+(b.length:Int)>398)=false:=by simp;omega
     clear h;rcases g with rfl|rfl
     all_goals
      go_enter func225,ntmps225
      go_wp2_with fail;refine k.mono ?_;rintro e j ⟨rfl,f⟩;have d:=lC j (bR m p f) b (by omega);rw[o] at d;go_wp2_with fail;refine d.mono ?_;rintro e u ⟨rfl,l⟩;clear d;go_wp2;go_ret2;exact⟨_,rfl,cT f l⟩
    ·obtain rfl:i=false:=by simpa[s] using h
     have v:decide ((a.length:Int)+(b.length:Int)>398)=true:=by simp;omega
     have F:¬((a.length:Int)+(b.length:Int) <= 398):=by omega
     clear h;rcases g with rfl|rfl
     all_goals
      go_enter func225,ntmps225
      go_wp2_with fail;refine k.mono ?_;rintro e j ⟨rfl,f⟩;have d:=lC j (bR m p f) b (by omega);rw[o] at d;go_wp2_with fail;refine d.mono ?_;rintro e u ⟨rfl,l⟩;go_wp2;go_ret2;exact⟨_,rfl,cT f l⟩
 ·obtain rfl:i=false:=by rw[<- n];simp[fq,g]
  have G:(c != 1)=true:=by simp;omega
  have H:(c != 2)=true:=by simp;omega
  go_enter func225,ntmps225
  go_wp2;go_ret2;exact⟨_,rfl,Below.refl _ _⟩
def uf(c:Bool)(w:World)(e:Ending)(d:World):Prop:=∃(k:Int)(a b:ByteArray),e=.returned (.tuple #[.int .i64 k,.string a,.string b,.bool c]) /\ Kpt w d
theorem Ey:(nH b).length+(nI b).length <= b.length:=by
 have h:b.length=(b.takeWhile (· != 0)).length+(b.dropWhile (· != 0)).length:=by
  rw[<- aA,List.takeWhile_append_dropWhile]
 unfold nH nI;rw[List.length_drop];omega
theorem BA(u:eB w)(t:4 <= w.heap.size)(l:List UInt8)(y:l.length <= 9223372036854775807):
 Calls aE 207 #[.string ⟨l.toArray⟩] w (uf (eY l) w):=by
 cases l with
 |nil=>
  go_enter func207,ntmps207
  go_wp2;refine bodyPost_ret (v:=.tuple #[.int .i64 0,.string ⟨#[]⟩,.string ⟨#[]⟩,.bool false]) (by simp[results,results207,go_sem]) rfl ⟨_,_,_,rfl,Below.refl _ _⟩
 |cons c r=>
  obtain⟨k,j⟩:=aH (eY (c::r));rw[j];have G:r.length <= 9223372036854775806:=by simp at y;omega
  have C:=Ex w r (by omega);have F:=UInt8.toNat_lt c;have A:fq ((c.toNat:Int)-48) (nH r) (nI r)=k:=j;have D:=Ey r;obtain⟨f,b⟩:=aH (nH r);obtain⟨g,d⟩:=aH (nI r);rw[b,d] at D
  go_enter func207,ntmps207
  go_wp2_with fail;have m:(⟨(c::r).toArray⟩:ByteArray).extract 1 (r.length+1)=⟨r.toArray⟩:=nS (c::r) 1;have o:∀h:0<(⟨(c::r).toArray⟩:ByteArray).size,(⟨(c::r).toArray⟩:ByteArray)[0]'h=c:=λ_=>rfl
  have p:wrap64 (c.toNat:Int)=c.toNat:=IntWalk.wrap64_in _ (by omega);have q:wrap64 ((c.toNat:Int)-48)=(c.toNat:Int)-48:=IntWalk.wrap64_in _ (by omega);simp only[m,o,p,q];refine C.mono ?_;rintro e H ⟨n,rfl,rfl⟩;rw[b,d];have M:=C0 (w.drewN n) (u.keep λa _=>rfl) t ((c.toNat:Int)-48) (by omega) f g (by omega);rw[<- b,<- d,A,b,d] at M;obtain⟨z,B⟩:=aH (decide ((0:UInt8)∈r));rw[B];go_wp2_with fail;refine M.mono ?_;rintro e E ⟨s,rfl,x⟩;have i:Kpt w E:=(cN (Below.refl _ _) n).trans x;cases k with
  |false=>
   go_wp2;exact bodyPost_ret (v:=.tuple #[.int .i64 0,.string ⟨#[]⟩,.string ⟨#[]⟩,.bool false]) (by simp[results,results207,go_sem]) rfl ⟨_,_,_,rfl,i⟩
  |true=>
   go_wp2;exact bodyPost_ret (v:=.tuple #[.int .i64 ((c.toNat:Int)-48),.string ⟨f.toArray⟩,.string ⟨g.toArray⟩,.bool true]) (by simp[results,results207,go_sem]) rfl ⟨_,_,_,rfl,i⟩
theorem ug(d:eB w)(c:4 <= w.heap.size)(l:List UInt8)(g:l.length <= 9223372036854775807):
 Calls aE 166 #[.string ⟨l.toArray⟩] w λe i=>e=.returned (.bool (eY l)) /\ Kpt w i:=by
 have P:=BA w d c l g;obtain⟨j,h⟩:=aH (eY l);rw[h] at P⊢
 go_enter func166,ntmps166
 go_wp2_with fail;refine P.mono ?_;rintro e m ⟨k,a,b,rfl,f⟩;go_wp2
 go_ret
 exact⟨rfl,f⟩
end
end Go.Proofs.YtobjdpngnfbicaaGreatDoor
