/-
  RRdR Disk Disk2 Disk3 Disk4 Disk5 JMath UMath UMany Shelf Tree Keys
-/
import Derived.Test.YtobjdpngnfbicaaGreatDoorZO03
import Derived.StillTailTactics
import Derived.Shelf.Small.Wraps
import Derived.Shelf.Strings.Shaped
import Derived.Shelf.Sort.Plain
import Derived.Shelf.GgClosure.StringsRunes
import Derived.Shelf.Strings.FuncGrows
import Derived.Shelf.Slices.CompactS
import Derived.Shelf.Slices.In.SortNone
import Derived.Shelf.Unicode.ValidAny
open Go.Lib renaming hid->ae
open Go.IntWalk renaming i64_in->af,i64_quo->ah,u32_in->aj,rem_in->am,u8_in->ap
open Nat renaming le_refl->aq
open List renaming length_append->aA,append_assoc->aB,getElem_mem->aC,length_cons->aD
open Go.Proofs.Tryz renaming prog->aE
set_option maxHeartbeats 4000000
set_option maxRecDepth 100000
set_option linter.all false
namespace Go.Proofs.YtobjdpngnfbicaaGreatDoor
open Go.RowKit
open Tryz
variable(w:World)(F:aX)(n k:Nat)(b:List UInt8){W w':World}{G:aX}{i j o:Nat}{l:List UInt8}{L:List Value}{r:aU}{y:List bR}
section
open Go.Lib
attribute [local go_sem ↓] aV
attribute [local go_sem] opC upC told bG br bH bt bw bI bJ
theorem my{a:Option Addr}(h:aO G W (.slice a j o) l)(d:0<l.length):
 ∃b e,a=some ⟨b,e,none⟩ /\ G b /\ b<W.heap.size /\ ∀i (h:i<l.length),W.cell? ⟨b,e+i,none⟩=some (B l[i]):=by
 obtain⟨-,-,-,c⟩:=h.cells;rcases c with c|c
 ·rw[c] at d;simp at d
 ·exact c
def vJ(b:List UInt8)(a:Nat)(c:List UInt8):Bool:=decide ((b.drop a).take c.length=c)
theorem Bo{b c:List UInt8}{k0 j:Nat}(a:j<c.length)(f:k0+j<b.length)(e:(b.drop k0).take j=c.take j):(b.drop k0).take (j+1)=c.take (j+1)↔b[k0+j]=c[j]:=by
 have d:j<(b.drop k0).length:=by simp;omega
 rw[List.take_succ_eq_append_getElem d,e,List.take_succ_eq_append_getElem a,List.getElem_drop];exact⟨fun h=>(List.cons.inj (List.append_cancel_left h)).1,fun h=>by rw[h]⟩
theorem xT(F G:aX)(N R:Option Addr)(O P:Nat)(b c:List UInt8)(d:Nat)(I:aO F w (.slice N b.length O) b)(A:aO G w (.slice R c.length P) c)(hk:d <= b.length):
 Calls aE 188 #[.slice N b.length O,.int .i64 (d:Int),.slice R c.length P] w fun e k=>e=.returned (.bool (vJ b d c)) /\ Below w.heap.size w k:=by
 have an:b.length <= 9223372036854775807:=by obtain⟨-,z,g,-⟩:=I.cells;unfold maxLen at g;omega
 have ao:c.length <= 9223372036854775807:=by obtain⟨-,z,g,-⟩:=A.cells;unfold maxLen at g;omega
 have K:=ae (show ∀W,Below w.heap.size w W -> aO (fun q=>q<w.heap.size) W (.slice N b.length O) b from fun W V=>by
  obtain⟨a,Q,e,z,g,T,U⟩:=I
  refine⟨a,Q,e,z,g,T,U.imp id fun⟨H,X,L,t,S,l,_,f,Y⟩=>⟨H,X,L,t,S,l,lt_of_block f,(V.block _ (lt_of_block f)).trans f,Y⟩⟩)
 have M:=ae (show ∀W,Below w.heap.size w W -> aO (fun q=>q<w.heap.size) W (.slice R c.length P) c from fun W V=>by
  obtain⟨a,Q,e,z,g,T,U⟩:=A
  refine⟨a,Q,e,z,g,T,U.imp id fun⟨H,X,L,t,S,l,_,f,Y⟩=>⟨H,X,L,t,S,l,lt_of_block f,(V.block _ (lt_of_block f)).trans f,Y⟩⟩)
 obtain⟨n,D⟩:=aH b.length;obtain⟨m,C⟩:=aH c.length;have v:=ae D;have o:=ae C;rw[D] at an hk;rw[C] at ao;rw[D,C];have aQ:¬(d:Int)<0:=by omega
 have aR:¬(n:Int)<(d:Int):=by omega
 have hw:IntKind.i64.wrap ((n:Int)-(d:Int))=(n:Int)-(d:Int):=af _ (by omega)
 by_cases aL:n-d<m
 ·have ax:(n:Int)-(d:Int)<(m:Int):=by omega
  have u:=ae (show vJ b d c=false by
   unfold vJ;apply decide_eq_false;intro h;have:=congrArg List.length h;have l:=v.out;have f:=o.out;simp at this
   omega)
  clear I A D C
  go_enter func188,ntmps188
  go_wp2_with fail
  go_ret
  exact⟨by rw[u.out];rfl,Below.refl _ _⟩
 have ax:¬(n:Int)-(d:Int)<(m:Int):=by omega
 clear I A D C
 go_enter func188,ntmps188
 go_wp2_with fail
 go_loopw [7] (fun i wr=>∃j:Nat,j <= m /\ i=.int .i64 (j:Int) /\ (b.drop d).take j=c.take j /\ Below w.heap.size w wr) (fun i _=>m-(intOf i).toNat)
 case atStart=>exact⟨0,by omega,rfl,rfl,Below.refl _ _⟩
 case round=>
  obtain⟨j,hj,rfl,r,p⟩:=hrel
  by_cases aK:j<m
  ·have ar:(j:Int)<(m:Int):=by omega
   obtain⟨H,ob,rfl,-,-,aa⟩:=my (K.out wr p) (by have:=v.out;omega);obtain⟨bc,oc,rfl,-,-,ab⟩:=my (M.out wr p) (by have:=o.out;omega);have l:=aa (d+j) (by have:=v.out;omega);have f:=ab j (by have:=o.out;omega);have J:=Bo (b:=b) (c:=c) (k0:=d) (j:=j) (by have:=o.out;omega) (by have:=v.out;omega) r
   obtain⟨x,hx⟩:∃x,b[d+j]'(by have:=v.out;omega)=x:=⟨_,rfl⟩
   obtain⟨y,hy⟩:∃y,c[j]'(by have:=o.out;omega)=y:=⟨_,rfl⟩
   rw[hx] at l J;rw[hy] at f J;unfold B at l f;have ak:∀k,aJ wr.drew k -> k.cell? _=_:=fun k hh=>aZ l hh
   have al:∀k,aJ wr.drew k -> k.cell? _=_:=fun k hh=>aZ f hh
   have Z:=ae J;have E:=ae p;have Hp:=ae r;have aP:IntKind.i64.wrap ((d:Int)+(j:Int))=(d:Int)+(j:Int):=af _ (by omega);have aN:((d:Int)+(j:Int)).toNat=d+j:=by omega
   have az:¬(d:Int)+(j:Int)<0:=by omega
   have aI:(d:Int)+(j:Int)<(n:Int):=by omega
   clear aa ab hx hy J p r l f;go_wp2_with fail;refine bS aJ (up 11 []) (by kernel_rfl) ?_;apply aG;rfl;intro k A;go_simp;(repeat (simp(disch:=omega) only[af,if_pos];go_simp));exact aF;refine aY ?_;clear ak al K M
   by_cases s:x=y
   ·have ad:=Z.out.2 s;have ay:((x.toNat:Int) != (y.toNat:Int))=false:=by rw[s];simp
    have ai:=ae ad;have ag:=ae E.out.drew;clear ad s;go_wp2_with fail
    go_roundw
    case rel=>exact⟨j+1,by omega,by go_num,ai.out,ag.out⟩
    case measure=>simp[intOf];omega
   ·have aM:¬(x.toNat:Int)=(y.toNat:Int):=fun h=>s (UInt8.toNat_inj.1 (by omega))
    have ay:((x.toNat:Int) != (y.toNat:Int))=true:=by simp;omega
    have u:=ae (show vJ b d c=false by
     unfold vJ;apply decide_eq_false;intro h;refine s (Z.out.1 ?_);have g:=congrArg (List.take (j+1)) h;rw[List.take_take,show min (j+1) c.length=j+1 by have:=o.out;omega] at g
     exact g)
    clear s;go_wp2_with fail
    go_ret
    exact⟨by rw[u.out];rfl,E.out.drew⟩
  ·have ar:¬(j:Int)<(m:Int):=by omega
   have u:=ae (show vJ b d c=true by
    unfold vJ;apply decide_eq_true;have e:j=c.length:=by have:=o.out;omega
    rw[e,List.take_length] at r
    exact r)
   have E:=ae p;clear r p K M;go_wp2_with fail
   go_ret
   exact⟨by rw[u.out];rfl,E.out⟩
theorem tY:IntKind.u64.wrap (n:Int)=((n%18446744073709551616:Nat):Int):=by
 simp[IntKind.wrap,IntKind.bits,IntKind.signed]
theorem jW(Z:Option Addr)(O:Nat)(b:List UInt8)(d:Nat)(hB:aO F w (.slice Z b.length O) b)(hk:d <= b.length):
 Calls aE 133 #[.slice Z b.length O,.int .i64 (d:Int)] w fun e w'=>e=.returned (iZ b d) /\ Below w.heap.size w w':=by
 have aN:b.length <= 9223372036854775807:=by obtain⟨-,h1,h2,-⟩:=hB.cells;unfold maxLen at h2;omega
 have HB:=ae (show ∀W,Below w.heap.size w W -> aO (fun q=>q<w.heap.size) W (.slice Z b.length O) b from fun W hW=>by
  obtain⟨a,cp,e,h1,h2,h3,h4⟩:=hB
  refine⟨a,cp,e,h1,h2,h3,h4.imp id fun⟨bb,aY,L,t,fz,k,_,e2,aZ⟩=>⟨bb,aY,L,t,fz,k,lt_of_block e2,(hW.block _ (lt_of_block e2)).trans e2,aZ⟩⟩)
 obtain⟨n,l⟩:=aH b.length;have u:=ae l;obtain⟨D,Q⟩:=aH (b.drop d);have HD:=ae Q;have ar:D.length=n-d:=by rw[<- Q,List.length_drop,l]
 have S:=ae ar;obtain⟨U,hU⟩:=aH (iZ b d);have HU:=ae (show io n (rdF D 9)=U by rw[<- hU,<- Q,<- l];rfl);rw[hU];have M:=ae (show rdF D 9=none -> U=.tuple #[.int .u64 0,.int .i64 0,.bool false] from fun h=>by rw[<- HU.out,h];rfl);rw[l] at aN hk;rw[l];have bk:¬(d:Int)<0:=by omega
 have bl:(0:Int) <= (d:Int):=by omega
 have hw:IntKind.i64.wrap ((n:Int)-(d:Int))=(n:Int)-(d:Int):=af _ (by omega);clear hB l Q ar hU
 go_enter func133,ntmps133
 go_wp2_with fail
 go_loopw [7,8,9] (fun v o i wr=>∃j:Nat,j <= 10 /\ j <= n-d /\ v=.int .u64 ((lk (D.take j)%18446744073709551616:Nat):Int) /\ o=.int .u64 ((128 ^ j%18446744073709551616:Nat):Int) /\ i=.int .i64 (j:Int) /\ (∀x (H:x<D.length),x<j -> ¬D[x].toNat<128) /\ Below w.heap.size w wr) (fun _ _ i _=>10-(intOf i).toNat)
 case atStart=>exact⟨0,by omega,by omega,rfl,rfl,rfl,fun x H h=>absurd h (by omega),Below.refl _ _⟩
 case round=>
  obtain⟨j,hj,a6,rfl,rfl,rfl,aF,aG⟩:=hrel;have K:=ae aF;have g:=ae aG;obtain⟨v,hv⟩:=aH (lk (D.take j)%18446744073709551616);obtain⟨o,ho⟩:=aH (128 ^ j%18446744073709551616);have Hv:=ae hv;have Ho:=ae ho;rw[hv,ho];clear aF aG hv ho
  by_cases a4:j=10
  ·have aR:¬(j:Int)<10:=by omega
   have G:=M.out (zn fun i hi h=>K.out i hi (by omega));have N:=ae G;clear G;go_wp2_with fail
   go_ret3
   exact⟨by rw[N.out];rfl,g.out⟩
  have aR:(j:Int)<10:=by omega
  by_cases a5:j<n-d
  case neg=>
   have G:=M.out (zn fun i hi h=>K.out i hi (by have:=S.out;omega));have N:=ae G;clear G
   by_cases a8:d<n
   ·have aL:(d:Int)<(n:Int):=by omega
    have aS:¬(j:Int)<(n:Int)-(d:Int):=by omega
    go_wp2_with fail
    go_ret3
    exact⟨by rw[N.out];rfl,g.out⟩
   ·have aL:¬(d:Int)<(n:Int):=by omega
    go_wp2_with fail
    go_ret3
    exact⟨by rw[N.out];rfl,g.out⟩
  case pos=>
   have aL:(d:Int)<(n:Int):=by omega
   have aS:(j:Int)<(n:Int)-(d:Int):=by omega
   obtain⟨bb,ob,rfl,-,-,aI⟩:=my (HB.out wr g.out) (by have:=u.out;omega);have k:=aI (d+j) (by have:=u.out;omega)
   obtain⟨x,H⟩:∃x,b[d+j]'(by have:=u.out;omega)=x:=⟨_,rfl⟩
   rw[H] at k;unfold B at k;have aJ:j<D.length:=by have:=S.out;omega
   have T:=ae (show D[j]=x by
    have h:=HD.out;subst h
    rw[List.getElem_drop];exact H)
   obtain⟨y,I⟩:=aH x.toNat;rw[I] at k;have Hy:=ae I;obtain⟨q,C⟩:=aH (y%128);have Hq:=ae C;have bi:IntKind.i64.wrap ((d:Int)+(j:Int))=(d:Int)+(j:Int):=af _ (by omega);have bh:((d:Int)+(j:Int)).toNat=d+j:=by omega
   have a1:¬(d:Int)+(j:Int)<0:=by omega
   have a2:(d:Int)+(j:Int)<(n:Int):=by omega
   have bf:(y:Int).tmod 128=(q:Int):=by rw[Int.tmod_eq_emod_of_nonneg (by omega)];omega
   have bj:y<256:=by rw[<- I];exact x.toNat_lt
   obtain⟨p,hp⟩:=aH (o*q%18446744073709551616);obtain⟨f,ai⟩:=aH ((v+p)%18446744073709551616);obtain⟨o',ad⟩:=aH (o*128%18446744073709551616);have bc:IntKind.u64.wrap ((o:Int)*(q:Int))=(p:Int):=by rw[<- hp,<- tY];simp
   have a0:IntKind.u64.wrap ((v:Int)+(p:Int))=(f:Int):=by rw[<- ai,<- tY];simp
   have bd:IntKind.u64.wrap ((o:Int)*128)=(o':Int):=by rw[<- ad,<- tY];simp
   have be:IntKind.u64.wrap (q:Int)=(q:Int):=IntWalk.u64_in _ (by omega)
   have Y:=ae (show lk (D.take (j+1))%18446744073709551616=f by
    rw[zS D j aJ,T.out,I,C,<- ai,<- hp,<- Hv.out,<- Ho.out]
    simp[Nat.add_mod,Nat.mul_mod])
   have aM:=ae (show 128 ^ (j+1)%18446744073709551616=o' by
    rw[<- ad,<- Ho.out,Nat.pow_succ]
    simp[Nat.mul_mod])
   clear aI H I C hp ai ad
   by_cases ab:y<128
   ·have aQ:(y:Int)<128:=by omega
    obtain⟨c,R⟩:=aH (cj f);have aV:f<18446744073709551616:=by rw[<- Y.out];exact Nat.mod_lt _ (by omega)
    have X:=ae (show rdF D 9=if D.take (j+1)=c then some (f,D.drop (j+1)) else none by
     rw[Eu aJ (by omega) K.out (by rw[T.out,Hy.out];exact ab),Y.out,R])
    have V:=ae (eC wr f aV);rw[R] at V;have aP:c.length <= 10:=by rw[<- R];exact cF _
    clear R ab;go_wp2_with fail;refine V.out.mono ?_;rintro e w5 ⟨⟨r,rfl,ag⟩,ax⟩;obtain⟨cv,cc,rfl⟩:=aK ag;have ao:aO (fun q=>wr.heap.size <= q) w5 (.slice cv c.length cc) c:=aO.of_owns ag _ fun q C _=>C
    have J:=ae (g.out.trans (ax.mono g.out.size));have P:=xT w5 _ _ (some ⟨bb,ob,none⟩) cv O cc b c d (HB.out _ J.out) ao (by have:=u.out;omega);rw[u.out] at P;obtain⟨m,A⟩:=aH c.length;obtain⟨bg,aa⟩:=aH (vJ b d c);rw[aa,A] at P;have az:bg=decide (D.take m=c):=by rw[<- aa,<- HD.out,<- A];rfl
    have ak:=ae P;have Hm:=ae A;have an:=ae az;rw[A] at aP⊢;clear V k ag ao ax P az aa A;have a3:IntKind.i64.wrap ((j:Int)+1)=(j:Int)+1:=af _ (by omega)
    by_cases aT:m=j+1
    ·subst aT;go_wp2_with fail;refine ak.out.mono ?_;rintro e w6 ⟨rfl,ay⟩;have al:=ae (J.out.trans (ay.mono J.out.size));clear ak ay;cases bg with
     |true=>
      have a7:IntKind.i64.wrap ((d:Int)+((j:Int)+1))=(d:Int)+((j:Int)+1):=af _ (by omega);have E:D.take (j+1)=c:=of_decide_eq_true an.out.symm
      have s:=ae (show U=.tuple #[.int .u64 (f:Int),.int .i64 ((d:Int)+((j:Int)+1)),.bool true] by
       rw[<- HU.out,X.out,if_pos E];show Value.tuple #[.int .u64 (f:Int),.int .i64 ((n-(D.drop (j+1)).length:Nat):Int),.bool true]=_;rw[List.length_drop,S.out,show n-(n-d-(j+1))=d+(j+1) by omega]
       simp)
      clear E;go_wp2_with fail
      go_ret3
      exact⟨by rw[s.out];rfl,al.out⟩
     |false=>
      have E:¬D.take (j+1)=c:=of_decide_eq_false an.out.symm;have s:=ae (M.out (by rw[X.out,if_neg E]));clear E;go_wp2_with fail
      go_ret3
      exact⟨by rw[s.out];rfl,al.out⟩
    ·have aU:¬(m:Int)=(j:Int)+1:=by omega
     have ba:((m:Int) == (j:Int)+1)=false:=beq_eq_false_iff_ne.2 aU
     have s:=ae (M.out (by
      rw[X.out,if_neg];intro h;have:=congrArg List.length h;rw[List.length_take,Hm.out] at this
      omega))
     go_wp2_with fail
     go_ret3
     exact⟨by rw[s.out];rfl,J.out⟩
   ·have aQ:¬(y:Int)<128:=by omega
    go_wp2_with fail
    go_roundw
    case rel=>exact⟨j+1,by omega,by omega,by rw[Y.out],by rw[aM.out],by go_num,fun z hz a9=>by
     by_cases aW:z<j
     ·exact K.out z hz aW
     ·have:z=j:=by omega
      subst this
      rw[T.out,Hy.out];exact ab,g.out⟩
    case measure=>simp[intOf];omega
theorem nW(x:Option Addr)(j:Nat)(b:List UInt8)(f:Nat)(i:aO F w (.slice x b.length j) b)(P:f <= b.length):
 Calls aE 216 #[.slice x b.length j,.int .i64 (f:Int)] w fun e w'=>e=.returned (jV b f) /\ Below w.heap.size w w':=by
 have ab:b.length <= 9223372036854775807:=by obtain⟨-,v,E,-⟩:=i.cells;unfold maxLen at E;omega
 have T:=ae (show ∀W,Below w.heap.size w W -> aO (fun q=>q<w.heap.size) W (.slice x b.length j) b from fun W H=>by
  obtain⟨a,Y,e,v,E,h3,h4⟩:=i
  refine⟨a,Y,e,v,E,h3,h4.imp id fun⟨y,ao,L,t,fz,e1,_,D,ar⟩=>⟨y,ao,L,t,fz,e1,lt_of_block D,(H.block _ (lt_of_block D)).trans D,ar⟩⟩)
 have k:=jW w F x j b f i P;obtain⟨n,h⟩:=aH b.length;obtain⟨o,s⟩:=aH (rdF (b.drop f) 9);obtain⟨U,G⟩:=aH (jV b f);have R:iZ b f=io n o:=by unfold iZ;rw[s,h]
 have M:=ae h;have A:=ae G;have B:=ae s;rw[R,h] at k;rw[G,h];rw[h] at ab P;clear R G;cases o with
 |none=>
  have u:=ae (show U=.tuple #[.string ⟨#[]⟩,.int .i64 0,.bool false] by
   rw[<- A.out];unfold jV rdT;rw[B.out];rfl)
  have g:=ae k;clear k i s h;unfold io at g;dsimp only at g
  go_enter func216,ntmps216
  go_wp2_with fail;refine g.out.mono ?_;rintro e K ⟨rfl,l⟩;clear g;go_wp2_with fail
  go_ret3
  exact⟨by rw[u.out];rfl,l⟩
 |some p=>
  obtain⟨m,r⟩:=p;have I:=jr s
  have J:r.length <= (b.drop f).length /\ r=(b.drop f).drop ((b.drop f).length-r.length):=by
   have v:=(gA.1 s).2;have hl:=congrArg List.length v;rw[aA] at hl;refine⟨by omega,?_⟩
   conv=>rhs;rw[v]
   simp
  obtain⟨d,z⟩:=aH r.length;rw[z,List.length_drop,h] at I J;obtain⟨c,ak⟩:=aH (n-d)
  have X:=ae (show r=b.drop c by
   rw[J.2,List.drop_drop]
   congr 1
   omega)
  have aF:=I.2.2;have aG:d <= n:=by omega
  have al:(c:Int)=(n:Int)-(d:Int):=by omega
  have N:io n (some (m,r))=.tuple #[.int .u64 (m:Int),.int .i64 (c:Int),.bool true]:=by
   show Value.tuple #[.int .u64 (m:Int),.int .i64 ((n-r.length:Nat):Int),.bool true]=_;rw[z,ak]
  rw[N] at k;have g:=ae k;have C:=ae z;have O:0<b.length:=by omega
  obtain⟨y,S,rfl,-⟩:=my i O;obtain⟨-,ag,ai,-⟩:=i.cells;unfold maxLen at ai;rw[h] at ag
  have aJ:IntKind.i64.wrap ((n:Int)-(c:Int))=(d:Int):=by
   rw[show(n:Int)-(c:Int)=(d:Int) by omega];exact af _ (by omega)
  have aI:IntKind.u64.wrap (d:Int)=(d:Int):=IntWalk.u64_in _ (by omega);clear k i s h I J z N O
  by_cases Q:m <= d
  ·have an:¬(d:Int)<(m:Int):=by omega
   have az:IntKind.i64.wrap (m:Int)=(m:Int):=af _ (by omega);have aK:IntKind.i64.wrap ((c:Int)+(m:Int))=(c:Int)+(m:Int):=af _ (by omega)
   have u:=ae (show U=.tuple #[.string ⟨(r.take m).toArray⟩,.int .i64 ((c:Int)+(m:Int)),.bool true] by
    rw[<- A.out];unfold jV rdT;rw[B.out];dsimp only;rw[if_pos (by rw[C.out];exact Q)];show Value.tuple #[.string ⟨(r.take m).toArray⟩,.int .i64 ((b.length-(r.drop m).length:Nat):Int),.bool true]=_;rw[M.out,List.length_drop,C.out,show n-(d-m)=c+m by omega]
    simp)
   have hcut:=fun W H=>(T.out W H).cutI c m (by rw[M.out];omega)
   obtain⟨ad,aa⟩:=aH ((if j=c then some ⟨y,S,none⟩ else some ⟨y,S+c,none⟩):Option Addr);rw[aa] at hcut;have V:=ae hcut;have ax:(c:Int) <= (c:Int)+(m:Int):=by omega
   have ay:(c:Int)+(m:Int) <= (j:Int):=by omega
   have aL:((c:Int)+(m:Int)).toNat-c=m:=by omega
   clear hcut
   go_enter func216,ntmps216
   go_wp2_with fail;refine g.out.mono ?_;rintro e K ⟨rfl,l⟩;have Z:=kL (V.out K l);rw[<- X.out] at Z;clear g;go_wp2_with fail
   go_ret3
   exact⟨by rw[u.out,al];rfl,l⟩
  ·have an:(d:Int)<(m:Int):=by omega
   have u:=ae (show U=.tuple #[.string ⟨#[]⟩,.int .i64 0,.bool false] by
    rw[<- A.out];unfold jV rdT;rw[B.out];dsimp only
    rw[if_neg (by rw[C.out];exact Q)];rfl)
   go_enter func216,ntmps216
   go_wp2_with fail;refine g.out.mono ?_;rintro e K ⟨rfl,l⟩;clear g;go_wp2_with fail
   go_ret3
   exact⟨by rw[u.out];rfl,l⟩
end
structure MD where
 S:List (List UInt8)
 down:Bool
 fault:Option (Nat×List UInt8)
 writes:Nat
structure DK where
 d:Nat
 bs:Nat
 bf:Nat
def DK.foot(K:DK):aX:=fun k=>k=K.d \/ k=K.bs \/ k=K.bf
def ja(L:List Value)(S:List (List UInt8)):Prop:=
 S.length*64 <= L.length /\ (∀i (h:i<S.length),(L.drop (i*64)).take 64=S[i].map B) /\ ∀s∈S,s.length=64
structure bT(w:World)(K:DK)(M:MD):Prop where
 pos:0<M.S.length
 le:M.S.length <= 65536
 main:∃cap,M.S.length <= cap /\ cap <= maxLen /\ Blk w K.d [.slice (some ⟨K.bs,0,none⟩) M.S.length cap,.bool M.down,.pointer (M.fault.map fun _=>⟨K.bf,0,none⟩),.int .i64 (M.writes:Int)] 88
 secs:∃L,Blk w K.bs L 99 /\ ja L M.S
 none_:M.fault=none -> K.bf=K.d
 some_:∀k t,M.fault=some (k,t) -> t.length=64 /\ k <= 9223372036854775807 /\ Blk w K.bf (.int .i64 (k:Int)::t.map B) 101
theorem bT.keep{w w':World}{K:DK}{M:MD}(h:bT w K M)(c:∀b,K.foot b -> w'.heap[b]?=w.heap[b]?):bT w' K M:=by
 obtain⟨f,g,⟨e,n,o,i⟩,⟨L,j,l⟩,m,a⟩:=h;exact⟨f,g,⟨e,n,o,i.keep (c _ (.inl rfl))⟩,⟨L,j.keep (c _ (.inr (.inl rfl))),l⟩,m,fun k t d=>⟨(a k t d).1,(a k t d).2.1,(a k t d).2.2.keep (c _ (.inr (.inr rfl)))⟩⟩
theorem bT.lt{w:World}{K:DK}{M:MD}(h:bT w K M):∀b,K.foot b -> b<w.heap.size:=by
 obtain⟨i,j,⟨g,l,m,a⟩,⟨L,d,k⟩,e,f⟩:=h;rintro b (rfl|rfl|rfl)
 ·exact a.lt
 ·exact d.lt
 ·cases c:M.fault with
  |none=>rw[e c];exact a.lt
  |some p=>exact(f p.1 p.2 (by rw[c])).2.2.lt
theorem bT.only{K:DK}{M:MD}{F:aX}(h:bT W K M)(d:aT F W w')(c:∀b,K.foot b -> ¬F b):bT w' K M:=
 h.keep fun b a=>d.block b (h.lt b a) (c b a)
def MD.chk(M:MD)(i:Int):Int:=if M.down then 341 else if 0 <= i /\ i<M.S.length then 0 else 6
theorem iO(K:DK)(M:MD)(i:Int)(h:bT w K M):
 Calls aE 76 #[.pointer (some ⟨K.d,0,none⟩),.int .i64 i] w fun e g=>e=.returned (.int .i64 (M.chk i)) /\ w=g:=by
 obtain⟨k,l,⟨j,m,o,a⟩,_,_,_⟩:=h;have b:=a.cell 0;have c:=a.cell 1;simp at b c;have q:M.S.length <= 9223372036854775807:=by omega
 unfold MD.chk;generalize M.down=f at *;generalize M.S.length=n at *;cases f
 ·by_cases hi:i<0
  ·go_enter func76,ntmps76
   go_wp2_with fail
   go_ret
   exact⟨fM (by simp<;>omega),rfl⟩
  ·by_cases p:(n:Int) <= i
   all_goals
    go_enter func76,ntmps76
    go_wp2_with fail
    go_ret
    exact⟨fM (by simp<;>omega),rfl⟩
 ·go_enter func76,ntmps76
  go_wp2_with fail
  go_ret
  exact⟨fM (by simp),rfl⟩
section
attribute [local go_sem ↓] aV
theorem xU{S:List (List UInt8)}(h:ja L S)(i:Nat)(a:i<S.length)(j:Nat)(d:j<(S[i]).length):L[i*64+j]?=some (B (S[i])[j]):=by
 obtain⟨f,b,c⟩:=h;have g:(S[i]).length=64:=c _ (aC a);have:=b i a;have e:((L.drop (i*64)).take 64)[j]?=(S[i].map B)[j]?:=by rw[this]
 rw[List.getElem?_take,if_pos (by omega),List.getElem?_drop] at e;simpa[List.getElem?_eq_getElem d] using e
theorem tZ{K:DK}{M:MD}(h:bT W K M)(i:Nat)(b:i<M.S.length):aO K.foot W (.slice (some ⟨K.bs,i*64,none⟩) 64 64) M.S[i]:=by
 obtain⟨L,c,a⟩:=h.secs;have e:(M.S[i]).length=64:=a.2.2 _ (aC b);have f:=a.1;refine⟨some ⟨K.bs,i*64,none⟩,64,by rw[e],by omega,by unfold maxLen;omega,nofun,.inr ⟨K.bs,i*64,L.toArray,_,_,rfl,.inr (.inl rfl),c,by simp;omega,fun j d=>?_⟩⟩;simpa using xU a i b j d
theorem C5(K:DK)(M:MD)(i:Nat)(h:bT w K M)(f:i<M.S.length)(o:M.down=false):
 Calls aE 153 #[.pointer (some ⟨K.d,0,none⟩),.int .i64 (i:Int)] w fun e a=>∃r,e=.returned (.tuple #[r,.int .i64 0]) /\
  a.ownsRow w.heap.size 5 1 r 64 (M.S[i].map B) /\ Below w.heap.size w a:=by
 have q:=tZ h i f;have g:(M.S[i]).length=64:=by obtain⟨L,t,p⟩:=h.secs;exact p.2.2 _ (aC f)
 have c:M.chk (i:Int)=0:=by unfold MD.chk;rw[o,if_neg (by simp),if_pos (by omega)]
 have k:=ae c;clear c;obtain⟨s,u,v,m⟩:=h.main;have l:=m.cell 0;simp at l;have x:=h.le;have y:(i:Int)<(M.S.length:Int):=by omega
 have b:=ae g;clear g
 go_enter func153,ntmps153
 go_wp2_with fail;refine(iO w K M i h).mono ?_;rintro e a ⟨rfl,rfl⟩;rw[k.out];go_wp2_with fail;refine(mm w K.foot _ _ q (by rw[b.out];omega)).mono ?_;rintro e a ⟨r,rfl,j,n⟩;go_wp2_with fail;go_ret2;exact⟨r,rfl,by rw[b.out] at j;exact j,n⟩
theorem Bp(K:DK)(M:MD)(h:bT w K M):
 Calls aE 21 #[.pointer (some ⟨K.d,0,none⟩)] w fun e c=>e=.returned (.bool M.down) /\ w=c:=by
 obtain⟨f,g,i,b⟩:=h.main;have a:=b.cell 1;simp at a
 go_enter func21,ntmps21
 go_wp2_with fail
 go_ret
 exact⟨rfl,rfl⟩
theorem qM(K:DK)(M:MD)(h:bT w K M):
 Calls aE 86 #[.pointer (some ⟨K.d,0,none⟩)] w fun e c=>e=.returned (.int .i64 (M.S.length:Int)) /\ w=c:=by
 obtain⟨f,g,i,b⟩:=h.main;have a:=b.cell 0;simp at a
 go_enter func86,ntmps86
 go_wp2_with fail
 go_ret
 exact⟨rfl,rfl⟩
theorem bT.ne{w:World}{K:DK}{M:MD}(h:bT w K M):K.d≠K.bs /\ K.bs≠K.bf:=by
 obtain⟨f,g,i,e⟩:=h.main;obtain⟨L,b,j⟩:=h.secs;have a:K.d≠K.bs:=e.ne b (by decide);refine⟨a,?_⟩;cases c:M.fault with
 |none=>rw[h.none_ c];exact a.symm
 |some p=>exact b.ne (h.some_ p.1 p.2 (by rw[c])).2.2 (by decide)
theorem bT.ne2{K:DK}{M:MD}(h:bT W K M)(c:M.fault≠none):K.d≠K.bf:=by
 obtain⟨e,f,g,b⟩:=h.main;cases a:M.fault with
 |none=>exact absurd a c
 |some p=>exact b.ne (h.some_ p.1 p.2 (by rw[a])).2.2 (by decide)
end
def BD(t:TypeId)(parts:Array (Nat×Value)):Sem Value:=Instr.build t parts
theorem eD(a:Array (Nat×Value)):Instr.build 101 a=BD 101 a:=rfl
theorem eE(a:Addr):loadVar 99 a=LV 99 a:=rfl
theorem eR(a:Addr):loadVar 101 a=LV 101 a:=rfl
theorem ef(a:Addr)(v:Value):storeVar 99 a v=SV 99 a v:=rfl
theorem eF(a:Addr)(v:Value):storeVar 101 a v=SV 101 a v:=rfl
theorem ju:(aE.info? 99).map (·.size)=some 64:=by kernel_rfl
section
attribute [local go_sem ↓] aV eD eE eR ef eF
theorem aO.load{a:Option Addr}(h:aO G W (.slice a i o) l)(f:l.length=64):
 ∃b d,a=some ⟨b,d,none⟩ /\ G b /\ ∀c:World,c.heap[b]?=W.heap[b]? -> (LV 99 ⟨b,d,none⟩).run aE c=.ok (.agg (l.map B).toArray) c:=by
 obtain⟨s,u,g,v,y,z,h⟩:=h;simp at g;obtain⟨rfl,rfl,rfl⟩:=g;rcases h with h|⟨b,d,L,t,k,rfl,hF,m,x,q⟩
 ·rw[h] at f;simp at f
 ·refine⟨b,d,rfl,hF,fun c r=>?_⟩;have p:c.heap[b]?=some (.cells L.toList.toArray t k):=by rw[r,m]
  rw[Bf underlying99 rfl ju p (by simp;omega)]
  congr 4
  apply List.ext_getElem?;intro j;rw[List.getElem?_take,List.getElem?_drop,List.getElem?_map]
  by_cases e:j<64
  ·rw[if_pos e];have:=q j (by omega);simp[List.getElem?_eq_getElem (show j<l.length by omega),<- this]
  ·rw[if_neg e,List.getElem?_eq_none (by omega)];rfl
theorem pM(a:Option Addr)(n b:Nat)(h:64 <= n):(Instr.arrayAt 99 (.slice a n b)).run aE w=.ok (.pointer a) w:=by
 simp[Instr.arrayAt,run_underlying underlying99,Nat.not_lt.2 h]
end
section
attribute [local go_sem ↓] aV eD eE eR ef eF
def MD.write(M:MD)(i:Nat)(l:List UInt8):MD×Int:=
 match M.fault with
 |none=>({ M with S:=M.S.set i l,writes:=M.writes+1 },0)
 |some (0,t)=>({ M with S:=M.S.set i t,fault:=none,down:=true },341)
 |some (k+1,t)=>({ M with S:=M.S.set i l,fault:=some (k,t),writes:=M.writes+1 },0)
theorem zX(K:DK)(M:MD)(i:Int)(v:Value)(h:bT w K M)(a:M.chk i≠0):
 Calls aE 33 #[.pointer (some ⟨K.d,0,none⟩),.int .i64 i,v] w fun e b=>e=.returned (.int .i64 (M.chk i)) /\ w=b:=by
 have c:(M.chk i == 0)=false:=beq_eq_false_iff_ne.2 a;have f:(M.chk i != 0)=true:=bne_iff_ne.2 a
 go_enter func33,ntmps33
 go_wp2_with fail;refine(iO w K M i h).mono ?_;rintro e b ⟨rfl,rfl⟩;go_wp2_with fail
 go_ret
 exact⟨rfl,rfl⟩
theorem ja.put{S:List (List UInt8)}(h:ja L S)(i:Nat)(o:i<S.length)(l:List UInt8)(d:l.length=64):
 ja (L.take (i*64)++l.map B++L.drop (i*64+64)) (S.set i l):=by
 obtain⟨n,f,g⟩:=h;have p:(L.take (i*64)++l.map B++L.drop (i*64+64)).length=L.length:=by simp;omega
 refine⟨by simp only[List.length_set];omega,fun j b=>?_,fun s m=>?_⟩
 ·simp only[List.length_set] at b
  by_cases c:j=i
  ·subst c;rw[List.getElem_set_self]
   have e:(L.take (j*64)++l.map B++L.drop (j*64+64)).drop (j*64)=l.map B++L.drop (j*64+64):=by
    rw[aB];have:(L.take (j*64)).length=j*64:=by simp;omega
    exact List.drop_left' this
   rw[e,List.take_append_of_le_length (by simp;omega),List.take_of_length_le (by simp;omega)]
  ·rw[List.getElem_set_ne (Ne.symm c),<- f j b];apply List.ext_getElem?;intro k;simp only[List.getElem?_take,List.getElem?_drop]
   by_cases a:k<64
   ·rw[if_pos a,if_pos a];simp only[List.getElem?_append,aA,List.length_take,List.length_map,List.getElem?_take,List.getElem?_drop,d]
    by_cases q:j<i
    ·rw[if_pos (by omega),if_pos (by omega),if_pos (by omega)]
    ·rw[if_neg (by omega)]
     congr 1
     omega
   ·rw[if_neg a,if_neg a]
 ·rcases List.mem_or_eq_of_mem_set m with h|rfl
  ·exact g _ h
  ·exact d
theorem xV(K:DK)(M:MD)(h:bT w K M)(o:M.fault=none)(i:Nat)(hi:i<M.S.length)(ad:M.down=false)(hw:M.writes<4611686018427387904)(F:aX)(v:Value)(l:List UInt8)(E:aO F w v l)(j:l.length=64):
 Calls aE 33 #[.pointer (some ⟨K.d,0,none⟩),.int .i64 (i:Int),v] w fun e m=>e=.returned (.int .i64 0) /\
  bT m K { M with S:=M.S.set i l,writes:=M.writes+1 } /\ aT K.foot w m /\ m.heap.size=w.heap.size:=by
 have x:M.chk (i:Int)=0:=by unfold MD.chk;rw[ad,if_neg (by simp),if_pos (by omega)]
 have N:=ae x;clear x;have ak:=E;obtain⟨a,X,rfl,ao,hm,hz,hx⟩:=E;obtain⟨b,G,rfl,hF,z⟩:=ak.load j;have ar:=z w.drew rfl;have an:=fun W:World=>pM W (some ⟨b,G,none⟩) 64 X (aq _)
 clear z hx hz;have Z:=h;obtain⟨h1,h2,⟨Y,aa,ab,c⟩,⟨L,n,r⟩,s,u⟩:=h;rw[o] at c;have A:=c.ne n (by decide);have av:=c.lt;have Q:=c.cell 0;have R:=c.cell 2;have T:=c.cell 3;have f3:=c.free 3;simp at Q R T;have ay:=r.1;have ai:=xO (P:=aE) (w:=w.drew) ju (off:=i*64) n (V:=l.map B) (by simpa using j) (by omega) (jg l);have I:=ae s;have H7:=ae u;have p:=ae o;clear s u o;have J:=ae (r.put i hi l j);obtain⟨H,f⟩:=aQ (w.drew.setRow K.bs (L.take (i*64)++l.map B++L.drop (i*64+64)).toArray);rw[<- f] at ai;have g:=c.drew.row_other (L.take (i*64)++l.map B++L.drop (i*64+64)).toArray A;have q:=n.drew.row (L.take (i*64)++l.map B++L.drop (i*64+64));rw[<- f] at g q;have ag:aT K.foot w H:=by rw[f];exact(aT.refl _ _).drew.setRow (.inl (.inr (.inl rfl))) _
 have C:H.heap.size=w.heap.size:=by rw[f];simp
 have U:=g.cell 3;have al:=g.free 3;simp at U;have O:=ae C;clear C;clear f;generalize y:l.length=ln at *;obtain rfl:ln=64:=j;have HL:=ae y;clear y;have ax:(i:Int)<(M.S.length:Int):=by omega
 go_enter func33,ntmps33
 go_wp2_with fail;refine(iO w K M i Z).mono ?_;rintro e m ⟨rfl,rfl⟩;rw[N.out];go_wp2_with fail
 go_still_tail 9,(by kernel_rfl)
 change wpList _ _ _ _ _ w.drew;go_wp2_with fail
 go_ret
 refine⟨rfl,⟨by simpa using h1,by simpa using h2,⟨Y,by simpa using aa,ab,?_⟩,⟨_,q.set_other _ A.symm,J.out⟩,I.out,fun k t D=>?_⟩,ag.setCell (.inl (.inl rfl)) _,?_⟩
 ·rw[p.out];simpa using g.set 3 (.int .i64 ((M.writes:Int)+1))
 ·rw[p.out] at D;cases D
 ·simp[World.setCell];exact O.out
end
/-! check sums -/
def iP:List (BitVec 32):=[0x00000000#32,0x1DB71064#32,0x3B6E20C8#32,0x26D930AC#32,0x76DC4190#32,0x6B6B51F4#32,0x4DB26158#32,0x5005713C#32,
 0xEDB88320#32,0xF00F9344#32,0xD6D6A3E8#32,0xCB61B38C#32,0x9B64C2B0#32,0x86D3D2D4#32,0xA00AE278#32,0xBDBDF21C#32]
def nib(r:BitVec 32):BitVec 32:=(r >>> 4) ^^^ iP.getD (r &&& 15#32).toNat 0#32
def C6(r:BitVec 32)(c:UInt8):BitVec 32:=nib (nib (r ^^^ BitVec.ofNat 32 c.toNat))
def qe(r:BitVec 32)(l:List UInt8):BitVec 32:=l.foldl C6 r
def crc(l:List UInt8):Nat:=(~~~ (qe (~~~ 0#32) l)).toNat
theorem t6:crc b<4294967296:=BitVec.isLt _
/-! numbers of four bytes, the lowest first -/
def bZ(n:Nat):List UInt8:=[UInt8.ofNat n,UInt8.ofNat (n/256),UInt8.ofNat (n/65536),UInt8.ofNat (n/16777216)]
def bK(b:List UInt8)(a:Nat):Nat:=(b.getD a 0).toNat+256*(b.getD (a+1) 0).toNat+65536*(b.getD (a+2) 0).toNat+16777216*(b.getD (a+3) 0).toNat
theorem cn:(bZ n).length=4:=rfl
theorem lW(a:Nat):bK b a<4294967296:=by
 unfold bK;have c:=(b.getD a 0).toNat_lt;have d:=(b.getD (a+1) 0).toNat_lt;have e:=(b.getD (a+2) 0).toNat_lt;have f:=(b.getD (a+3) 0).toNat_lt;omega
theorem jv(n:Nat)(q:List UInt8)(d:n<4294967296)(a:Nat)(c:a=b.length):bK (b++bZ n++q) a=n:=by
 subst c
 have e:∀i,i<4 -> (b++bZ n++q).getD (b.length+i) 0=(bZ n).getD i 0:=fun i hi=>by
  rw[List.getD_eq_getElem?_getD,aB,List.getElem?_append_right (by omega),Nat.add_sub_cancel_left,List.getElem?_append_left (by rw[cn];exact hi),<- List.getD_eq_getElem?_getD]
 unfold bK;rw[show b.length=b.length+0 from rfl,e 0 (by omega),Nat.add_zero,e 1 (by omega),e 2 (by omega),e 3 (by omega)];simp[bZ];omega
/-! sectors -/
def en(b:List UInt8):List UInt8:=b++bZ (crc b)
def dm(s:List UInt8):Bool:=bK s 60 == crc (s.take 60)
def dp:List UInt8:=[72,78,75,74]
def cP(g:Nat):List UInt8:=en (dp++bZ g++List.replicate 52 0)
def kN(b:List UInt8):List UInt8:=b.take 48++List.replicate (48-b.length) 0
def cT(g k:Nat)(b:List UInt8)(i:Nat):List UInt8:=en (bZ g++bZ k++bZ (b.length-48*i)++kN (b.drop (48*i)))
def takes(n:Nat):Nat:=max 1 ((n+47)/48)
def aW(n:Nat):Nat:=(n-2)/2
def cm(n g p:Nat):Nat:=2+g%2*aW n+p
theorem eA:(kN b).length=48:=by simp[kN];omega
theorem t7:(cP n).length=64:=by simp[cP,en,bZ,dp]
theorem mL(i:Nat):(cT n k b i).length=64:=by simp[cT,en,bZ,eA]
theorem dy:0<takes n:=by unfold takes;omega
/-! the disk, written whole: with the check whether the power is on -/
def MD.wr(M:MD)(a:Nat)(s:List UInt8):MD×Int:=if M.down then(M,341) else M.write a s
def bh(M:MD):List (Nat×List UInt8) -> MD×Int
 |[]=>(M,0)
 |(a,s)::r=>if(M.wr a s).2=0 then bh (M.wr a s).1 r else M.wr a s
/-! a journal -/
structure MJ where
 g:Nat
 L:List (List UInt8)
 dead:Bool
def aM(L:List (List UInt8)):Nat:=(L.map fun b=>takes b.length).sum
def aP(n g k p:Nat)(b:List UInt8):List (Nat×List UInt8):=(List.range (takes b.length)).map fun i=>(cm n g (p+i),cT g k b i)
def bQ(M:MD)(J:MJ)(b:List UInt8):MD×MJ×Int:=
 if J.dead then(M,J,341) else if 65536<b.length then(M,J,2) else if aW M.S.length-aM J.L<takes b.length then(M,J,7) else
  let r:=bh M (aP M.S.length J.g J.L.length (aM J.L) b)
  if r.2=0 then(r.1,{ J with L:=J.L++[b] },0) else(r.1,{ J with dead:=true },r.2)
def cw(M:MD)(J:MJ)(b:List UInt8):MD×MJ×Int:=
 if J.dead then(M,J,341) else if 65536<b.length then(M,J,2) else if aW M.S.length<takes b.length \/ 4294967295 <= J.g then(M,J,7) else
  let r:=bh M (aP M.S.length (J.g+1) 0 0 b++[((J.g+1)%2,cP (J.g+1))])
  if r.2=0 then(r.1,{ g:=J.g+1,L:=[b],dead:=false },0) else(r.1,{ J with dead:=true },r.2)
def qN(M:MD)(J:MJ):Int:=if aW M.S.length-aM J.L<1 then -1 else min (48*((aW M.S.length-aM J.L:Nat):Int)) 65536
def cO(M:MD):MD×Int:=bh M ((List.range M.S.length).map (fun i=>(i,List.replicate 64 0))++[(0,cP 0)])
def eH(s:List UInt8)(i:Nat):Bool:=dm s&&(s.take 4 == dp)&&(bK s 4%2 == i)
def genM(S:List (List UInt8)):Option Nat:=
 let a:=S.getD 0 []
 let b:=S.getD 1 []
 if eH b 1&&(!eH a 0 || decide (bK a 4<bK b 4)) then some (bK b 4) else if eH a 0 then some (bK a 4) else none
def cN(S:List (List UInt8))(g p:Nat):List UInt8:=S.getD (cm S.length g p) []
def cD(s:List UInt8)(g k n:Nat):Bool:=dm s&&bK s 0 == g&&bK s 4 == k&&bK s 8 == n
def dx(S:List (List UInt8))(g k p n:Nat):Nat -> Bool
 |0=>true
 |i+1=>dx S g k p n i&&cD (cN S g (p+i)) g k (n-48*i)
def eq(S:List (List UInt8))(g p:Nat):Nat -> List UInt8
 |0=>[]
 |i+1=>eq S g p i++((cN S g (p+i)).drop 12).take 48
def dd(S:List (List UInt8))(g k p:Nat):Option (List UInt8):=
 if aW S.length <= p then none else
  let n:=bK (cN S g p) 8
  if 65536<n \/ aW S.length<p+takes n then none else
   if dx S g k p n (takes n) then some ((eq S g p (takes n)).take n) else none
def dE(S:List (List UInt8))(g:Nat):Nat -> Nat -> Nat -> List (List UInt8)
 |0,_,_=>[]
 |f+1,k,p=>match dd S g k p with
  |none=>[]
  |some b=>b::dE S g f (k+1) (p+takes b.length)
def fN(M:MD):MJ ⊕ Int:=
 if M.S.length<8 then .inr 6 else if M.down then .inr 341 else match genM M.S with
  |none=>.inr 340
  |some g=>.inl ⟨g,dE M.S g (aW M.S.length+1) 0 0,false⟩
/-! records -/
def fI(l:List bR):List UInt8:=cj l.length++l.flatMap bD
def fo(d:Nat)(m:aU):List UInt8:=0::(cj d++dS m)
def xW(l:List bR):List UInt8:=1::fI l
def lr(l:List bR):List UInt8:=2::fI l
def jw:Nat -> List UInt8 -> Option (List bR×List UInt8)
 |0,r=>some ([],r)
 |n+1,r=>match rdT r with
  |none=>none
  |some (k,t)=>(jw n t).map fun p=>(k::p.1,p.2)
def rdL(b:List UInt8):Option (List bR×List UInt8):=match rdF b 9 with
 |none=>none
 |some (n,r)=>if n <= r.length then jw n r else none
theorem D1(k:bR)(r:List UInt8)(a:k.length<18446744073709551616):rdT (bD k++r)=some (k,r):=by
 have h:rdF (bD k++r) 9=some (k.length,k++r):=gA.2 ⟨a,by unfold bD;rw[aB]⟩;unfold rdT;rw[h];dsimp only;rw[if_pos (by simp)];simp
theorem zo:∀(l:List bR)(r:List UInt8),(∀k∈l,k.length<18446744073709551616) -> jw l.length (l.flatMap bD++r)=some (l,r)
 |[],r,_=>rfl
 |k::l,r,h=>by
  rw[aD,List.flatMap_cons,aB];unfold jw;rw[D1 k _ (h k List.mem_cons_self)];dsimp only;rw[zo l r fun x a=>h x (List.mem_cons_of_mem _ a)];rfl
theorem t8(k:bR):0<(bD k).length:=by
 have:=ib k.length;unfold bD;rw[aA];omega
theorem zY(l:List bR):l.length <= (l.flatMap bD).length:=by
 induction l with
 |nil=>exact aq _
 |cons k l a=>
  have:=t8 k;rw[List.flatMap_cons,aA,aD];omega
theorem Bq(l:List bR)(a:l.length<18446744073709551616)(h:∀k∈l,k.length<18446744073709551616):rdL (fI l)=some (l,[]):=by
 have e:rdF (fI l) 9=some (l.length,l.flatMap bD):=gA.2 ⟨a,rfl⟩;unfold rdL;rw[e];dsimp only;rw[if_pos (zY l)];have:=zo l [] h;rw[List.append_nil] at this;exact this
/-! the state of records -/
def okR(p:aU×Int):Option aU:=if p.2=0 then some p.1 else none
def dF(d:Nat)(m:aU):List UInt8 -> Option aU
 |[]=>none
 |k::r=>if k=3 then(if(fi r).2=0 then okR (dN m (fi r).1) else none)
  else if k=1 then(match rdL r with|some (l,[])=>okR (fK m d l)|_=>none)
  else if k=2 then(match rdL r with|some (l,[])=>okR (cH m d l)|_=>none)
  else none
def dk(d:Nat):aU -> List (List UInt8) -> Option aU
 |m,[]=>some m
 |m,b::r=>match dF d m b with
  |none=>none
  |some x=>dk d x r
def eM:List UInt8 -> Option (Nat×aU)
 |[]=>none
 |k::r=>if k=0 then(match rdF r 9 with
  |none=>none
  |some (n,t)=>if n<8 then(if(fi t).2=0 then some (n,(fi t).1) else none) else none) else none
def ff:List (List UInt8) -> Option (Nat×aU)
 |[]=>none
 |b::r=>match eM b with
  |none=>none
  |some (d,m)=>(dk d m r).map fun x=>(d,x)
theorem pN(d:Nat):∀(l:List (List UInt8))(m x:aU)(b:List UInt8),dk d m l=some x -> dk d m (l++[b])=dF d x b
 |[],m,x,b,h=>by
  obtain rfl:=Option.some.inj h;show dk d m [b]=_;unfold dk;cases dF d m b with
  |none=>rfl
  |some y=>rfl
 |a::l,m,x,b,h=>by
  rw[List.cons_append];unfold dk at h⊢;cases e:dF d m a with
  |none=>rw[e] at h;cases h
  |some y=>
   rw[e] at h;exact pN d l y x b h
theorem xX{L:List (List UInt8)}{m x:aU}{b:List UInt8}(h:ff L=some (i,m))(j:dF i m b=some x):ff (L++[b])=some (i,x):=by
 cases L with
 |nil=>cases h
 |cons a l=>
  rw[List.cons_append];unfold ff at h⊢;dsimp only at h⊢;cases e:eM a with
  |none=>rw[e] at h;cases h
  |some p=>
   obtain⟨g,f⟩:=p;rw[e] at h;dsimp only at h⊢;cases c:dk g f l with
   |none=>rw[c] at h;cases h
   |some y=>
    rw[c] at h;obtain⟨rfl,rfl⟩:=Prod.mk.inj (Option.some.inj h);rw[pN _ l f _ b c,j];rfl
theorem pO(a:i<8)(b:bp r=true):ff [fo i r]=some (i,r):=by
 have e:rdF (cj i++dS r) 9=some (i,dS r):=gA.2 ⟨by omega,rfl⟩;unfold ff eM fo;dsimp only;rw[if_pos rfl,e];dsimp only;rw[if_pos a,CX b];rfl
theorem zZ(b:y.length<18446744073709551616)(h:∀k∈y,k.length<18446744073709551616)(a:(fK r i y).2=0):dF i r (xW y)=some (fK r i y).1:=by
 unfold dF xW;dsimp only;rw[if_neg (by decide),if_pos rfl,Bq y b h];exact if_pos a
theorem ua(b:y.length<18446744073709551616)(h:∀k∈y,k.length<18446744073709551616)(a:(cH r i y).2=0):dF i r (lr y)=some (cH r i y).1:=by
 unfold dF lr;dsimp only;rw[if_neg (by decide),if_neg (by decide),if_pos rfl,Bq y b h];exact if_pos a
/-! a user part: its device, its map, its journal; the disk stands beside it -/
structure MU where
 dev:Nat
 m:aU
 J:MJ
def mH(M:MD)(U:MU)(b:List UInt8)(x:aU):MD×MU×Int:=
 if(bQ M U.J b).2.2=0 then((bQ M U.J b).1,⟨U.dev,x,(bQ M U.J b).2.1⟩,0) else((bQ M U.J b).1,⟨U.dev,U.m,(bQ M U.J b).2.1⟩,(bQ M U.J b).2.2)
def lN(M:MD)(U:MU):MD×MU×Int:=((cw M U.J (fo U.dev U.m)).1,⟨U.dev,U.m,(cw M U.J (fo U.dev U.m)).2.1⟩,(cw M U.J (fo U.dev U.m)).2.2)
def dV(M:MD)(U:MU)(b:List UInt8)(x:aU):MD×MU×Int:=
 if qN M U.J<(b.length:Int) then
  (if(lN M U).2.2=0 then(if qN (lN M U).1 (lN M U).2.1.J<(b.length:Int) then((lN M U).1,(lN M U).2.1,7) else mH (lN M U).1 (lN M U).2.1 b x) else lN M U)
 else mH M U b x
def fj(M:MD)(U:MU)(l:List bR)(p:aU×Int)(b:List UInt8):MD×MU×Int:=
 if U.J.dead then(M,U,8) else if l = [] then(M,U,0) else if p.2=0 then dV M U b p.1 else(M,U,p.2)
def lu(M:MD)(U:MU)(l:List bR):MD×MU×Int:=fj M U l (fK U.m U.dev l) (xW l)
def nX(M:MD)(U:MU)(l:List bR):MD×MU×Int:=fj M U l (cH U.m U.dev l) (lr l)
def ip(M:MD)(d:Nat):MD×MU×Int:=((bQ (cO M).1 ⟨0,[],false⟩ (fo d .new)).1,⟨d,.new,(bQ (cO M).1 ⟨0,[],false⟩ (fo d .new)).2.1⟩,(bQ (cO M).1 ⟨0,[],false⟩ (fo d .new)).2.2)
def eh(M:MD):MU ⊕ Int:=match fN M with
 |.inr c=>.inr c
 |.inl J=>if J.L = [] then .inr 340 else match ff J.L with
  |none=>.inr 5
  |some (d,m)=>.inl ⟨d,m,J⟩
structure UOk(U:MU):Prop where
 dev:U.dev<8
 valid:bp U.m=true
 fold:ff U.J.L=some (U.dev,U.m)
section
attribute [local go_sem] opC upC told bG br bH bt bw bI bJ
def pP(b:List UInt8):Option (Nat×List UInt8):=match rdF b 9 with
 |none=>none
 |some (n,r)=>if n <= r.length then some (n,r) else none
theorem Br:rdL b=match pP b with
 |none=>none
 |some (n,r)=>jw n r:=by
 unfold rdL pP;cases rdF b 9 with
 |none=>rfl
 |some p=>
  obtain⟨n,r⟩:=p;dsimp only
  by_cases h:n <= r.length
  ·rw[if_pos h,if_pos h]
  ·rw[if_neg h,if_neg h]
def EA(w:World)(R:Nat)(d:Value)(c:Nat)(o:Option (Nat×List UInt8))(e:Ending)(b:World):Prop:=
 (match o with
  |some (k,r)=>e=.returned (.int .i64 (k:Int)) /\ ∃a:Nat,a+r.length=c /\ Blk b R [d,.int .i64 (a:Int)] 247
  |none=>e=.panicked qI) /\ aT (fun q=>q=R) w b
theorem z6(F:aX)(l:Option Addr)(c:Nat)(b:List UInt8)(d:Nat)(U:Blk w k [.slice l b.length c,.int .i64 (d:Int)] 247)(z:aO F w (.slice l b.length c) b)(hF:∀q,F q -> q≠k)(X:d <= b.length):
 Calls aE 220 #[.pointer (some ⟨k,0,none⟩)] w (EA w k (.slice l b.length c) b.length (pP (b.drop d))):=by
 have L:=qJ w k F l c b d U z hF X;have ak:b.length <= 9223372036854775807:=by obtain⟨-,J,K,-⟩:=z.cells;unfold maxLen at K;omega
 have P:=ae (show ∀W,aT (fun q=>q=k) w W -> aO F W (.slice l b.length c) b from fun W hW=>z.only hW fun q hq e=>hF q hq e);obtain⟨o,D⟩:=aH (rdF (b.drop d) 9);obtain⟨n,C⟩:=aH b.length;obtain⟨O,v⟩:=aH (pP (b.drop d));rw[D,C] at L;rw[v];rw[C] at ak X⊢;unfold pP at v;rw[D] at v;have Q:=ae L;have T:=ae D;have y:=ae C;have H:=ae v;clear L z D C v U
 go_enter func220,ntmps220
 go_wp2_with fail;refine Q.out.mono ?_;rintro e i A;clear Q;cases o with
 |none=>
  obtain⟨rfl,j⟩:=A;obtain rfl:O=none:=H.out.symm;have a:=ae j;clear j;go_wp2_with fail;exact⟨rfl,rfl,a.out⟩
 |some p=>
  obtain⟨m,r⟩:=p;obtain⟨⟨rfl,f,Y,V⟩,j⟩:=A;have N:=jr T.out;obtain⟨g,x⟩:=aH r.length;have M:(b.drop d).length=n-d:=by rw[List.length_drop,y.out]
  rw[M,x] at N;rw[x] at Y;have aL:m<18446744073709551616:=N.2.2
  have aa:r=b.drop f:=by
   have J:=(gA.1 T.out).2;have K:r=(b.drop d).drop (cj m).length:=by rw[J];simp
   have h3:=congrArg List.length J;rw[M,aA,x] at h3;rw[K,List.drop_drop]
   congr 1
   omega
  have az:f <= n:=by omega
  have aI:0<n:=by omega
  obtain⟨s,t,rfl⟩:∃s t,l=some ⟨s,t,none⟩:=by
   obtain⟨-,-,-,u⟩:=(P.out i j).cells;obtain⟨s,t,e,-⟩:=u.resolve_left (by intro e;rw[e] at y;have:=y.out;simp at this;omega);exact⟨s,t,e⟩
  have u:=(P.out i j).cells
  have B:n <= c /\ c <= maxLen:=⟨by rw[<- y.out];exact u.2.1,u.2.2.1⟩
  unfold maxLen at B;have aM:=B.1;have ay:=B.2
  have an:IntKind.u64.wrap ((n:Int)-(f:Int))=(g:Int):=by
   rw[show(n:Int)-(f:Int)=(g:Int) by omega];exact IntWalk.u64_in _ (by omega)
  have ao:IntKind.u64.wrap (g:Int)=(g:Int):=IntWalk.u64_in _ (by omega)
  have ar:IntKind.i64.wrap ((n:Int)-(f:Int))=(g:Int):=by
   rw[show(n:Int)-(f:Int)=(g:Int) by omega];exact af _ (by omega)
  have G:=ae V;have a:=ae j;have I:=ae x;have ax:=ae aa;have S:=ae Y;clear V j x aa N M u B;have d0:∀h,aJ i.drew h -> h.cell? ⟨k,0,none⟩=some (.slice (some ⟨s,t,none⟩) n c):=fun h hh=>aZ (w:=i) (by simpa using G.out.cell 0) hh
  have d1:∀h,aJ i.drew h -> h.cell? ⟨k,1,none⟩=some (.int .i64 (f:Int)):=fun h hh=>aZ (w:=i) (by simpa using G.out.cell 1) hh
  by_cases Z:m <= g
  ·have al:¬(g:Int)<(m:Int):=by omega
   have aK:IntKind.i64.wrap (m:Int)=(m:Int):=af _ (by have:=S.out;omega)
   have ai:=ae (show O=some (m,r) by
    rw[<- H.out];show(if m <= r.length then some (m,r) else none)=_
    rw[I.out,if_pos Z])
   go_wp2_with fail;refine bS aJ (up 13 []) (by kernel_rfl) ?_;apply aG;rfl;intro h A;go_simp;(repeat (simp(disch:=omega) only[af,aj,ap,ah,am,if_pos];go_simp));exact aF;refine aY ?_;clear d0 d1 an ao ar;obtain⟨w8,E⟩:=aQ i.drew;rw[<- E];have ab:=ae (show aT (fun q=>q=k) w w8 by rw[E];exact⟨a.out.os,a.out.tape,a.out.output,a.out.size,a.out.block⟩);have ag:=ae (show Blk w8 k [.slice (some ⟨s,t,none⟩) n c,.int .i64 (f:Int)] 247 by rw[E];exact G.out.keep rfl);clear E;go_wp2_with fail
   go_ret
   rw[ai.out];exact⟨⟨rfl,f,by rw[I.out];have:=S.out;omega,ag.out⟩,ab.out⟩
  ·have al:(g:Int)<(m:Int):=by omega
   obtain rfl:O=none:=by
    rw[<- H.out];show(if m <= r.length then some (m,r) else none)=_;rw[I.out,if_neg Z]
   go_wp2_with fail;refine bS aJ (up 13 []) (by kernel_rfl) ?_;apply aG;rfl;intro h A;go_simp;(repeat (simp(disch:=omega) only[af,aj,ap,ah,am,if_pos];go_simp));exact aF;refine aY ?_;have ad:=ae (show aT (fun q=>q=k) w i.drew from⟨a.out.os,a.out.tape,a.out.output,a.out.size,a.out.block⟩);go_wp2_with fail;exact⟨rfl,rfl,ad.out⟩
end
end Go.Proofs.YtobjdpngnfbicaaGreatDoor
namespace Go.Proofs
open Go.Shelf
def Tryz.lays219_ren:Go.Shelf.Ren:=⟨fun|219=>248|217=>255|225=>256|224=>257|267=>258|266=>262|314=>263|n=>n,fun|9=>9|3=>3|4=>4|5=>5|46=>199|146=>292|51=>96|n=>n,fun|1=>1|n=>n⟩
theorem Tryz.lays219:Go.Proofs.Lays.n219 aE Tryz.lays219_ren:={
 mixed:=by kernel_rfl
 f217:=func255.trans (congrArg some (by kernel_rfl))
 f219:=func248.trans (congrArg some (by kernel_rfl))
 f224:=func257.trans (congrArg some (by kernel_rfl))
 f225:=func256.trans (congrArg some (by kernel_rfl))
 f266:=func262.trans (congrArg some (by kernel_rfl))
 f267:=func258.trans (congrArg some (by kernel_rfl))
 f314:=func263.trans (congrArg some (by kernel_rfl))
 t3:=underlying3
 a3:=Tryz.isAgg3
 z3:=Tryz.sizeOf3
 v3:=Tryz.zeroValue3
 t4:=underlying4
 a4:=Tryz.isAgg4
 z4:=Tryz.sizeOf4
 v4:=Tryz.zeroValue4
 t5:=underlying5
 a5:=Tryz.isAgg5
 z5:=Tryz.sizeOf5
 v5:=Tryz.zeroValue5
 t9:=underlying9
 a9:=Tryz.isAgg9
 z9:=Tryz.sizeOf9
 v9:=Tryz.zeroValue9
 t46:=underlying199
 a46:=Tryz.isAgg199
 z46:=Tryz.sizeOf199
 v46:=Tryz.zeroValue199
 t51:=underlying96
 a51:=Tryz.isAgg96
 z51:=Tryz.sizeOf96
 v51:=Tryz.zeroValue96
 t146:=underlying292
 a146:=Tryz.isAgg292
 z146:=Tryz.sizeOf292
 v146:=Tryz.zeroValue292
 g1:=by kernel_rfl }
open Go.RowKit Go.Lib in
theorem Tryz.stringslite_Index_one(s:ByteArray)(c:UInt8)(w:World):
 Calls aE 248 #[.string s,.string ⟨#[c]⟩] w fun e a=>e=.returned (.int .i64 (Lib.indexByte s.data.toList c)) /\ a=w:=Any.stringslite_Index_one Tryz.lays219 s c w
def Tryz.laysGw17_ren:Go.Shelf.Ren:=⟨fun|17=>250|15=>260|20=>265|n=>n,fun|9=>9|23=>286|4=>4|3=>3|0=>0|21=>21|n=>n,fun|n=>n⟩
theorem Tryz.laysGw17:Go.Proofs.LaysGw.n17 aE Tryz.laysGw17_ren:={
 mixed:=by kernel_rfl
 f15:=func260.trans (congrArg some (by kernel_rfl))
 f17:=func250.trans (congrArg some (by kernel_rfl))
 f20:=func265.trans (congrArg some (by kernel_rfl))
 t0:=underlying0
 a0:=Tryz.isAgg0
 z0:=Tryz.sizeOf0
 v0:=Tryz.zeroValue0
 i0:=by kernel_rfl
 t3:=underlying3
 a3:=Tryz.isAgg3
 z3:=Tryz.sizeOf3
 v3:=Tryz.zeroValue3
 i3:=by kernel_rfl
 t4:=underlying4
 a4:=Tryz.isAgg4
 z4:=Tryz.sizeOf4
 v4:=Tryz.zeroValue4
 i4:=by kernel_rfl
 t9:=underlying9
 a9:=Tryz.isAgg9
 z9:=Tryz.sizeOf9
 v9:=Tryz.zeroValue9
 i9:=by kernel_rfl
 t21:=underlying21
 a21:=Tryz.isAgg21
 z21:=Tryz.sizeOf21
 v21:=Tryz.zeroValue21
 i21:=by kernel_rfl
 t23:=underlying286
 a23:=Tryz.isAgg286
 z23:=Tryz.sizeOf286
 v23:=Tryz.zeroValue286
 i23:=by kernel_rfl }
open Go.RowKit Go.Lib in
theorem Tryz.strings_ContainsFunc(g:Nat)(a:Array Value)(c:∀b w,(callFunc g b).run aE w=.ok (.enter g b) w)(p:Nat -> Bool)(s:ByteArray)(w:World)(d:PredAt aE g a encR p w):
 Calls aE 250 #[.string s,.func (.func g) #[] a] w fun e f=>e=.returned (.bool (decide (0 <= Lib.idxFunc p true s))) /\ Below w.heap.size w f:=Any.strings_ContainsFunc Tryz.laysGw17 g a c p s w d
def Tryz.lays190_ren:Go.Shelf.Ren:=⟨fun|190=>204|125=>223|258=>222|128=>238|129=>239|302=>230|303=>231|304=>232|305=>233|306=>234|307=>235|308=>169|309=>236|310=>237|333=>243|329=>244|330=>245|334=>246|335=>247|336=>209|344=>254|n=>n,fun|31=>32|9=>9|3=>3|46=>199|0=>0|51=>96|53=>146|4=>4|183=>273|182=>272|131=>166|5=>5|218=>280|222=>283|228=>287|229=>288|n=>n,fun|n=>n⟩
theorem Tryz.lays190:Go.Proofs.Lays.n190 aE Tryz.lays190_ren:={
 mixed:=by kernel_rfl
 f125:=func223.trans (congrArg some (by kernel_rfl))
 f128:=func238.trans (congrArg some (by kernel_rfl))
 f129:=func239.trans (congrArg some (by kernel_rfl))
 f190:=func204.trans (congrArg some (by kernel_rfl))
 f258:=func222.trans (congrArg some (by kernel_rfl))
 f302:=func230.trans (congrArg some (by kernel_rfl))
 f303:=func231.trans (congrArg some (by kernel_rfl))
 f304:=func232.trans (congrArg some (by kernel_rfl))
 f305:=func233.trans (congrArg some (by kernel_rfl))
 f306:=func234.trans (congrArg some (by kernel_rfl))
 f307:=func235.trans (congrArg some (by kernel_rfl))
 f308:=func169.trans (congrArg some (by kernel_rfl))
 f309:=func236.trans (congrArg some (by kernel_rfl))
 f310:=func237.trans (congrArg some (by kernel_rfl))
 f329:=func244.trans (congrArg some (by kernel_rfl))
 f330:=func245.trans (congrArg some (by kernel_rfl))
 f333:=func243.trans (congrArg some (by kernel_rfl))
 f334:=func246.trans (congrArg some (by kernel_rfl))
 f335:=func247.trans (congrArg some (by kernel_rfl))
 f336:=func209.trans (congrArg some (by kernel_rfl))
 f344:=func254.trans (congrArg some (by kernel_rfl))
 t0:=underlying0
 a0:=Tryz.isAgg0
 z0:=Tryz.sizeOf0
 v0:=Tryz.zeroValue0
 t3:=underlying3
 a3:=Tryz.isAgg3
 z3:=Tryz.sizeOf3
 v3:=Tryz.zeroValue3
 t4:=underlying4
 a4:=Tryz.isAgg4
 z4:=Tryz.sizeOf4
 v4:=Tryz.zeroValue4
 t5:=underlying5
 a5:=Tryz.isAgg5
 z5:=Tryz.sizeOf5
 v5:=Tryz.zeroValue5
 t9:=underlying9
 a9:=Tryz.isAgg9
 z9:=Tryz.sizeOf9
 v9:=Tryz.zeroValue9
 t31:=underlying32
 a31:=Tryz.isAgg32
 z31:=Tryz.sizeOf32
 v31:=Tryz.zeroValue32
 t46:=underlying199
 a46:=Tryz.isAgg199
 z46:=Tryz.sizeOf199
 v46:=Tryz.zeroValue199
 t51:=underlying96
 a51:=Tryz.isAgg96
 z51:=Tryz.sizeOf96
 v51:=Tryz.zeroValue96
 t53:=underlying146
 a53:=Tryz.isAgg146
 z53:=Tryz.sizeOf146
 v53:=Tryz.zeroValue146
 t131:=underlying166
 a131:=Tryz.isAgg166
 z131:=Tryz.sizeOf166
 v131:=Tryz.zeroValue166
 t182:=underlying272
 a182:=Tryz.isAgg272
 z182:=Tryz.sizeOf272
 v182:=Tryz.zeroValue272
 t183:=underlying273
 a183:=Tryz.isAgg273
 z183:=Tryz.sizeOf273
 v183:=Tryz.zeroValue273
 t218:=underlying280
 a218:=Tryz.isAgg280
 z218:=Tryz.sizeOf280
 v218:=Tryz.zeroValue280
 t222:=underlying283
 a222:=Tryz.isAgg283
 z222:=Tryz.sizeOf283
 v222:=Tryz.zeroValue283
 t228:=underlying287
 a228:=Tryz.isAgg287
 z228:=Tryz.sizeOf287
 v228:=Tryz.zeroValue287
 t229:=underlying288
 a229:=Tryz.isAgg288
 z229:=Tryz.sizeOf288
 v229:=Tryz.zeroValue288 }
open Go.Sort Go.RowKit in
theorem Tryz.slices_Sort_string(a c d:Nat)(b:List (List UInt8))(w:World)(f:Holds encStr w a c b.toArray)(g:a<w.heap.size)(h:b.length<4611686018427387904):
 Calls aE 204 #[.slice (some ⟨a,c,none⟩) b.length d] w fun e j=>
  e=.returned (.tuple #[]) /\ ∃n i,j=grow (putRow encStr (Sort.ahead w n) a c (b.mergeSort fun x y=>decide (x <= y)).toArray) i:=Any.slices_Sort_string Tryz.lays190 a c d b w f g h
open Go.RowKit Go.Sort in
theorem Tryz.slices_Sort_string_none(p:Option Addr)(a:Nat)(w:World):
 Calls aE 204 #[.slice p 0 a] w fun e b=>e=.returned (.tuple #[]) /\ b=w:=Any.slices_Sort_string_none Tryz.lays190 p a w
def Tryz.lays194_ren:Go.Shelf.Ren:=⟨fun|194=>162|n=>n,fun|31=>32|9=>9|3=>3|4=>4|0=>0|n=>n,fun|n=>n⟩
theorem Tryz.lays194:Go.Proofs.Lays.n194 aE Tryz.lays194_ren:={
 mixed:=by kernel_rfl
 f194:=func162.trans (congrArg some (by kernel_rfl))
 t0:=underlying0
 a0:=Tryz.isAgg0
 z0:=Tryz.sizeOf0
 v0:=Tryz.zeroValue0
 t3:=underlying3
 a3:=Tryz.isAgg3
 z3:=Tryz.sizeOf3
 v3:=Tryz.zeroValue3
 t4:=underlying4
 a4:=Tryz.isAgg4
 z4:=Tryz.sizeOf4
 v4:=Tryz.zeroValue4
 t9:=underlying9
 a9:=Tryz.isAgg9
 z9:=Tryz.sizeOf9
 v9:=Tryz.zeroValue9
 t31:=underlying32
 a31:=Tryz.isAgg32
 z31:=Tryz.sizeOf32
 v31:=Tryz.zeroValue32 }
open Go.RowKit Go.Lib Go.Sort in
theorem Tryz.slices_Compact_string(b c d:Nat)(a:List (List UInt8))(w:World)(f:Holds encStr w b c a.toArray)(h:a.length <= 9223372036854775807)(g:a.length <= d):
 Calls aE 162 #[.slice (some ⟨b,c,none⟩) a.length d] w fun e i=>e=.returned (.slice (some ⟨b,c,none⟩) (Lib.compact a).length d) /\ ∃q,i=putRow encStr (Sort.ahead w q) b c (Lib.compact a++List.replicate (a.length-(Lib.compact a).length) []).toArray:=Any.slices_Compact_string Tryz.lays194 b c d a w f h g
open Go.RowKit Go.Lib Go.Sort in
theorem Tryz.slices_Compact_string_empty(a:Option Addr)(b:Nat)(w:World):
 Calls aE 162 #[.slice a 0 b] w fun e c=>e=.returned (.slice a 0 b) /\ c=w:=Any.slices_Compact_string_empty Tryz.lays194 a b w
def Tryz.lays122_ren:Go.Shelf.Ren:=⟨fun|122=>172|215=>210|n=>n,fun|3=>3|4=>4|n=>n,fun|n=>n⟩
theorem Tryz.lays122:Go.Proofs.Lays.n122 aE Tryz.lays122_ren:={
 mixed:=by kernel_rfl
 f122:=func172.trans (congrArg some (by kernel_rfl))
 f215:=func210.trans (congrArg some (by kernel_rfl))
 t3:=underlying3
 a3:=Tryz.isAgg3
 z3:=Tryz.sizeOf3
 v3:=Tryz.zeroValue3
 t4:=underlying4
 a4:=Tryz.isAgg4
 z4:=Tryz.sizeOf4
 v4:=Tryz.zeroValue4 }
open Go.RowKit in
theorem Tryz.cmp_Compare_int(x y:Int)(w:World):
 Calls aE 172 #[.int .i64 x,.int .i64 y] w fun e a=>e=.returned (.int .i64 (Lib.compareInt x y)) /\ a=w:=Any.cmp_Compare_int Tryz.lays122 x y w
def Tryz.laysValid_ren:Go.Shelf.Ren:=⟨fun|196=>259|259=>264|n=>n,fun|9=>9|4=>4|3=>3|5=>5|12=>12|119=>295|0=>0|46=>199|139=>298|138=>297|53=>146|n=>n,fun|3=>2|4=>3|n=>n⟩
theorem Tryz.laysValid:Go.Proofs.Lays.n196 aE Tryz.laysValid_ren:={
 mixed:=by kernel_rfl
 f196:=func259.trans (congrArg some (by kernel_rfl))
 f259:=func264.trans (congrArg some (by kernel_rfl))
 t0:=underlying0
 a0:=Tryz.isAgg0
 z0:=Tryz.sizeOf0
 v0:=Tryz.zeroValue0
 t3:=underlying3
 a3:=Tryz.isAgg3
 z3:=Tryz.sizeOf3
 v3:=Tryz.zeroValue3
 t4:=underlying4
 a4:=Tryz.isAgg4
 z4:=Tryz.sizeOf4
 v4:=Tryz.zeroValue4
 t5:=underlying5
 a5:=Tryz.isAgg5
 z5:=Tryz.sizeOf5
 v5:=Tryz.zeroValue5
 t9:=underlying9
 a9:=Tryz.isAgg9
 z9:=Tryz.sizeOf9
 v9:=Tryz.zeroValue9
 t12:=underlying12
 a12:=Tryz.isAgg12
 z12:=Tryz.sizeOf12
 v12:=Tryz.zeroValue12
 t46:=underlying199
 a46:=Tryz.isAgg199
 z46:=Tryz.sizeOf199
 v46:=Tryz.zeroValue199
 t53:=underlying146
 a53:=Tryz.isAgg146
 z53:=Tryz.sizeOf146
 v53:=Tryz.zeroValue146
 t119:=underlying295
 a119:=Tryz.isAgg295
 z119:=Tryz.sizeOf295
 t138:=underlying297
 a138:=Tryz.isAgg297
 z138:=Tryz.sizeOf297
 v138:=Tryz.zeroValue297
 t139:=underlying298
 a139:=Tryz.isAgg298
 z139:=Tryz.sizeOf298
 v139:=Tryz.zeroValue298
 g3:=by kernel_rfl
 g4:=by kernel_rfl }
end Go.Proofs
namespace Go.Proofs.YtobjdpngnfbicaaGreatDoor
open Go.RowKit
open Tryz
variable(w:World)(F:aX)(n k:Nat)(b:List UInt8){W w':World}{G:aX}{i j o:Nat}{l:List UInt8}{L:List Value}{r:aU}{y:List bR}
section
open Go
inductive o7 where
 |done
 |steady (i:Nat) (r:o7)
 |move (i:Nat) (r:o7)
 |both (i j:Nat) (r s:o7)
section
variable {P:Program} {ops:Array Oper} {md:Region.Mode} {C:World -> World -> Prop}
def wpT(P:Program)(ops:Array Oper)(C:World -> World -> Prop)(Q:Act -> World -> Prop):o7 -> Act -> World -> Prop
 |.done,a,w=>Q a w
 |.steady i r,a,w=>match ops[i]? with
  |none=>False
  |some o=>if Region.wanted o (yielded ops a.tmps) then ∃v,(∀b,C w b -> (execOp a.eval o).run P b=.ok (.value v) b) /\ wpT P ops C Q r (a.put o.dst v) w else wpT P ops C Q r (a.put o.dst undef) w
 |.move i r,a,w=>match ops[i]? with
  |none=>False
  |some o=>if Region.wanted o (yielded ops a.tmps) then opC P o a w (fun v b=>C w b /\ wpT P ops C Q r (a.put o.dst v) b) else wpT P ops C Q r (a.put o.dst undef) w
 |.both i j r s,a,w=>(match ops[i]? with
  |none=>False
  |some o=>if Region.wanted o (yielded ops a.tmps) then opC P o a w (fun v b=>C w b /\ wpT P ops C Q r (a.put o.dst v) b) else wpT P ops C Q r (a.put o.dst undef) w) /\
  (match ops[j]? with
  |none=>False
  |some o=>if Region.wanted o (yielded ops a.tmps) then opC P o a w (fun v b=>C w b /\ wpT P ops C Q s (a.put o.dst v) b) else wpT P ops C Q s (a.put o.dst undef) w)
def i5(md:Region.Mode)(ops:Array Oper):o7 -> Nat -> Array Bool -> Bool
 |.done,0,a=>(Region.ready md ops a).isEmpty
 |.steady i r,n+1,a=>(Region.ready md ops a).contains i&&Region.free md ops a i&&i5 md ops r n (a.setIfInBounds i true)
 |.move i r,n+1,a=>(Region.ready md ops a == [i])&&i5 md ops r n (a.setIfInBounds i true)
 |.both i j r s,n+1,a=>(Region.ready md ops a == [i,j])&&i5 md ops r n (a.setIfInBounds i true)&&i5 md ops s n (a.setIfInBounds j true)
 |_,_,_=>false
theorem xY{Q:Act -> World -> Prop}{b:Array Bool}{r:o7}{a:Act}
 (k:∀(b:Array Bool)(a:Act)(W:World),i5 md ops r i b=true -> wpT P ops C Q r a W -> ig P md ops C Q i b a W)
 (f:i5 md ops r i (b.setIfInBounds j true)=true)
 (h:match ops[j]? with
  |none=>False
  |some o=>if Region.wanted o (yielded ops a.tmps) then opC P o a W (fun v d=>C W d /\ wpT P ops C Q r (a.put o.dst v) d) else wpT P ops C Q r (a.put o.dst undef) W):
 stC P ops C j (ig P md ops C Q i (b.setIfInBounds j true)) a W:=by
 unfold stC;cases e:ops[j]? with
 |none=>simp[e] at h
 |some o=>
  simp only[e] at h;simp only;split
  ·rename_i c;simp only[c,if_true] at h;exact eY (fun v d g=>⟨g.1,k _ _ _ f g.2⟩) h
  ·rename_i c;simp only[c] at h;exact k _ _ _ f h
theorem gU{Q:Act -> World -> Prop}(g:∀w,C w w)(m:∀a b c,C a b -> C b c -> C a c)(l:Region.noSelect ops=true):∀(t:o7)(n:Nat)(f:Array Bool)(a:Act)(w:World),
 i5 md ops t n f=true -> wpT P ops C Q t a w -> ig P md ops C Q n f a w
 |.done,0,_,_,_,d,h=>⟨by simpa[i5] using d,h⟩
 |.done,_+1,_,_,_,d,_=>by simp[i5] at d
 |.steady _ _,0,_,_,_,d,_=>by simp[i5] at d
 |.move _ _,0,_,_,_,d,_=>by simp[i5] at d
 |.both _ _ _ _,0,_,_,_,d,_=>by simp[i5] at d
 |.steady i r,n+1,f,a,w,d,h=>by
  simp only[i5,Bool.and_eq_true] at d;obtain⟨⟨p,z⟩,u⟩:=d;simp only[wpT] at h;cases e:ops[i]? with
  |none=>simp[e] at h
  |some o=>
   simp only[e] at h
   by_cases x:Region.wanted o (yielded ops a.tmps)=true
   ·simp only[x,if_true] at h;obtain⟨v,F,E⟩:=h;exact gp g m e (Region.noSelect_spec l) n f a w (Region.free_spec e z) (by simpa using p) (.inl ⟨x,F⟩) (gU g m l r n _ _ _ u E)
   ·simp only[x] at h;exact gp g m e (Region.noSelect_spec l) n f a w (Region.free_spec e z) (by simpa using p) (.inr ⟨by simpa using x,rfl⟩) (gU g m l r n _ _ _ u h)
 |.move i r,n+1,f,a,w,d,h=>by
  simp only[i5,Bool.and_eq_true] at d;obtain⟨p,u⟩:=d;have q:Region.ready md ops f = [i]:=by simpa using p
  simp only[wpT] at h;refine⟨fun e=>(by rw[q] at e;cases e),fun j A=>?_⟩;rw[q] at A;obtain rfl:j=i:=by simpa using A
  exact xY (gU g m l r n) u h
 |.both i j r s,n+1,f,a,w,d,h=>by
  simp only[i5,Bool.and_eq_true] at d;obtain⟨⟨p,B⟩,D⟩:=d;have q:Region.ready md ops f = [i,j]:=by simpa using p
  simp only[wpT] at h;refine⟨fun e=>(by rw[q] at e;cases e),fun k y=>?_⟩;rw[q] at y;simp only[List.mem_cons,List.not_mem_nil,or_false] at y;rcases y with rfl|rfl
  ·exact xY (gU g m l r n) B h.1
  ·exact xY (gU g m l s n) D h.2
theorem jx{Q:Exit -> Act -> World -> Prop}{a:Act}{l:List Oper}(C:World -> World -> Prop)(t:o7)(n:Nat)(p:P.follows .mixedOrders=true)(e:(Region.noSelect l.toArray&&i5 .any l.toArray t n (Array.replicate n false)&&(n == l.length))=true)
 (q:∀W,C W W) (r:∀a b c,C a b -> C b c -> C a c)
 (Z:Act -> World -> Prop) (o:∀d f,Z d f -> Q .normal d f)
 (h:wpT P l.toArray C Z t a W.drew):(Code.region i l.toArray true).wp P Q a W:=by
 simp only[Bool.and_eq_true] at e;obtain⟨⟨g,j⟩,k⟩:=e;have m:n=l.length:=by simpa using k
 refine wp_region_any p (ll (C:=C) (Q:=Z) o _ _ _ _ ?_);have:=gU (md:=.any) q r g t n _ a W.drew j h;subst m;simpa using this
theorem lX{Q:Act -> World -> Prop}{a:Act}(h:Q a W):wpT P ops C Q .done a W:=h
theorem bV{Q:Act -> World -> Prop}{o:Oper}{r:o7}{a:Act}(d:ops[i]?=some o)(f:Region.wanted o (yielded ops a.tmps)=true){v:Value}
 (e:∀b,C W b -> (execOp a.eval o).run P b=.ok (.value v) b)
 (h:∀K:Act -> Prop,(∀c,wpT P ops C Q r c W -> K c) -> K (a.put o.dst v)):wpT P ops C Q (.steady i r) a W:=by
 simp only[wpT,d,f,if_true];exact⟨v,e,h _ (fun _ h=>h)⟩
theorem jX{Q:Act -> World -> Prop}{o:Oper}{r:o7}{a:Act}(d:ops[i]?=some o)(e:Region.wanted o (yielded ops a.tmps)=true)
 (h:∀K:Act -> World -> Prop,(∀c b,wpT P ops C Q r c b -> K c b) -> opC P o a W (fun v b=>C W b /\ K (a.put o.dst v) b)):wpT P ops C Q (.move i r) a W:=by
 simp only[wpT,d,e,if_true];exact h _ (fun _ _ h=>h)
theorem s5{Q:Act -> World -> Prop}{d e:Oper}{r s:o7}{a:Act}(k:ops[i]?=some d)(m:Region.wanted d (yielded ops a.tmps)=true)(l:ops[j]?=some e)(n:Region.wanted e (yielded ops a.tmps)=true)
 (f:∀K:Act -> World -> Prop,(∀c b,wpT P ops C Q r c b -> K c b) -> opC P d a W (fun v b=>C W b /\ K (a.put d.dst v) b))
 (g:∀K:Act -> World -> Prop,(∀c b,wpT P ops C Q s c b -> K c b) -> opC P e a W (fun v b=>C W b /\ K (a.put e.dst v) b)):wpT P ops C Q (.both i j r s) a W:=by
 simp only[wpT,k,m,l,n,if_true];exact⟨f _ (fun _ _ h=>h),g _ (fun _ _ h=>h)⟩
end
attribute [irreducible] wpT
end
section
open Go.Lib
/-! zeros among the bytes -/
theorem s6:∀r:List UInt8,((0:UInt8)∈r -> ∃i:Nat,i<r.length /\ Lib.indexByte r 0=(i:Int) /\ mS r=r.take i /\ mT r=r.drop (i+1)) /\ ((0:UInt8)∉r -> Lib.indexByte r 0 = -1)
 |[]=>⟨(fun h=>by cases h),fun _=>rfl⟩
 |c::r=>by
  obtain⟨l,m⟩:=s6 r
  by_cases a:c=0
  ·subst a;refine⟨fun _=>⟨0,by simp,by simp[Lib.indexByte],by simp[mS],by simp[mT]⟩,fun h=>absurd List.mem_cons_self h⟩
  ·have d:(c == 0)=false:=by simpa using a
   have e:(c != 0)=true:=by simpa using a
   refine⟨fun h=>?_,fun h=>?_⟩
   ·have b:(0:UInt8)∈r:=by
     rcases List.mem_cons.1 h with h|h
     ·exact absurd h.symm a
     ·exact h
    obtain⟨i,hi,f,g,j⟩:=l b;refine⟨i+1,by simp;omega,?_,?_,?_⟩
    ·simp[Lib.indexByte,d,f]
    ·unfold mS at *;rw[List.takeWhile_cons];simp[e,g]
    ·unfold mT at *;rw[List.dropWhile_cons];simp[e,j]
   ·have b:(0:UInt8)∉r:=fun k=>h (List.mem_cons_of_mem _ k)
    simp[Lib.indexByte,d,m b]
theorem ub(n a b c d:Nat)(e:a<256):((Lib.decodeN n a b c d).1=0↔a=0) /\ 1 <= (Lib.decodeN n a b c d).2 /\ (Lib.decodeN n a b c d).2 <= 4 /\ (2 <= (Lib.decodeN n a b c d).2 -> 1<n /\ b≠0) /\ (3 <= (Lib.decodeN n a b c d).2 -> 2<n /\ c≠0) /\ (4 <= (Lib.decodeN n a b c d).2 -> 3<n /\ d≠0):=by
 unfold Lib.decodeN
 repeat' split
 all_goals (refine⟨⟨fun h=>?_,fun h=>?_⟩,?_,?_,fun h=>?_,fun h=>?_,fun h=>?_⟩<;>dsimp only at* <;> omega)
theorem vK(s:ByteArray):∀(f a:Nat),s.size <= a+f -> (0 <= Lib.idxFuncFrom (fun r=>decide (r=0)) true s f a↔∃j,a <= j /\ s.data.toList[j]?=some 0)
 |0,a,h=>by
  simp only[Lib.idxFuncFrom];constructor
  ·intro h;omega
  ·rintro⟨j,e,b⟩;have:=(List.getElem?_eq_some_iff.1 b).1;have v:s.data.toList.length=s.size:=Lib.size_eq s▸rfl
   omega
 |f+1,a,h=>by
  have v:s.data.toList.length=s.size:=Lib.size_eq s▸rfl
  unfold Lib.idxFuncFrom
  by_cases l:a<s.size
  ·rw[if_pos l,Lib.decode_N];have k:∀i,s.data.toList.getD i 0=(s.data.toList[i]?).getD 0:=fun i=>by rw[List.getD_eq_getElem?_getD]
   obtain⟨g,w,x,n,o,p⟩:=ub (s.data.toList.length-a) (s.data.toList.getD a 0).toNat (s.data.toList.getD (a+1) 0).toNat (s.data.toList.getD (a+2) 0).toNat (s.data.toList.getD (a+3) 0).toNat (UInt8.toNat_lt _);generalize y:Lib.decodeN _ _ _ _ _=D at *;have m:a<s.data.toList.length:=by omega
   have q:s.data.toList.getD a 0=s.data.toList[a]:=by rw[k,List.getElem?_eq_getElem m];rfl
   by_cases d:D.1=0
   ·have t:=g.1 d;rw[if_pos (by simp[d])];refine⟨fun _=>⟨a,aq _,?_⟩,fun _=>by omega⟩;rw[List.getElem?_eq_getElem m,<- q];exact congrArg some (UInt8.toNat_inj.1 (by simpa using t))
   ·rw[if_neg (by simp[d]),vK s f (a+D.2) (by omega)];constructor
    ·rintro⟨j,e,b⟩;exact⟨j,by omega,b⟩
    ·rintro⟨j,e,b⟩;refine⟨j,?_,b⟩;refine Classical.byContradiction fun z=>?_
     have c:s.data.toList.getD j 0=0:=by rw[k,b];rfl
     have u:j=a \/ j=a+1 \/ j=a+2 \/ j=a+3:=by omega
     rcases u with rfl|rfl|rfl|rfl
     ·exact d (g.2 (by rw[c];rfl))
     ·exact(n (by omega)).2 (by rw[c];rfl)
     ·exact(o (by omega)).2 (by rw[c];rfl)
     ·exact(p (by omega)).2 (by rw[c];rfl)
  ·rw[if_neg l];constructor
   ·intro h;omega
   ·rintro⟨j,e,b⟩;have:=(List.getElem?_eq_some_iff.1 b).1;omega
theorem uc:decide (0 <= Lib.idxFunc (fun r=>decide (r=0)) true ⟨b.toArray⟩)=decide ((0:UInt8)∈b):=by
 refine decide_eq_decide.2 ?_;unfold Lib.idxFunc;rw[vK _ _ _ (by omega)];show(∃j,0 <= j /\ b[j]?=some 0)↔_;rw[List.mem_iff_getElem?];exact⟨fun⟨j,_,h⟩=>⟨j,h⟩,fun⟨j,h⟩=>⟨j,Nat.zero_le _,h⟩⟩
def eJ(w:World):Prop:=Lib.Utf8Tabs (Tryz.laysValid_ren.g 3) (Tryz.laysValid_ren.g 4) w
theorem eJ.keep{w w':World}(h:eJ w)(b:∀a:Addr,a.block<4 -> w'.cell? a=w.cell? a):eJ w':=
 ⟨fun c d=>(b _ (show Tryz.laysValid_ren.g 3<4 from by decide)).trans (h.1 c d),fun i hi=>⟨(b _ (show Tryz.laysValid_ren.g 4<4 from by decide)).trans (h.2 i hi).1,(b _ (show Tryz.laysValid_ren.g 4<4 from by decide)).trans (h.2 i hi).2⟩⟩
theorem ud(d:eJ w)(l:List UInt8)(g:l.length <= 9223372036854775807):
 Calls aE 249 #[.string ⟨l.toArray⟩] w fun e a=>e=.returned (.bool (Lib.validD l)) /\ Below w.heap.size w a:=by
 have b:=Any.utf8_ValidString Tryz.laysValid ⟨l.toArray⟩ w (by show l.toArray.size <= _;simpa using g) d;have c:=ae (show Calls aE 259 #[.string ⟨l.toArray⟩] w (fun e a=>e=.returned (.bool (Lib.validD l)) /\ Below w.heap.size w a) from b);clear b
 go_enter func249,ntmps249
 go_wp2_with fail;refine c.out.mono ?_;rintro e a ⟨rfl,f⟩;go_wp2_with fail
 go_ret
 exact⟨rfl,f⟩
theorem o8(a c:Nat):(⟨b.toArray⟩:ByteArray).extract a c=⟨((b.drop a).take (c-a)).toArray⟩:=by
 have h:∀s:ByteArray,∀x:List UInt8,s.data.toList=x -> s=⟨x.toArray⟩:=fun s x h=>by
  subst h;obtain⟨⟨y⟩⟩:=s;rfl
 refine h _ _ ?_;rw[ByteArray.data_extract];simp
theorem Bs(a:Nat):(⟨b.toArray⟩:ByteArray).extract 0 a=⟨(b.take a).toArray⟩:=by rw[o8];simp
theorem nd(a:Nat):(⟨b.toArray⟩:ByteArray).extract a b.length=⟨(b.drop a).toArray⟩:=by
 rw[o8,List.take_of_length_le (by simp)]
def zp(w:World)(l:List UInt8)(e:Ending)(a:World):Prop:=∃n,e=.returned (.tuple #[.string ⟨(mS l).toArray⟩,.string ⟨(mT l).toArray⟩,.bool (decide ((0:UInt8)∈l))]) /\ w.drewN n=a
theorem Bt(v:b.length <= 9223372036854775807):
 Calls aE 240 #[.string ⟨b.toArray⟩,.string ⟨#[0]⟩] w (zp w b):=by
 have n:=Tryz.stringslite_Index_one ⟨b.toArray⟩ 0 w;obtain⟨j,k⟩:=s6 b;have d:=ae (show Calls aE 248 #[.string ⟨b.toArray⟩,.string ⟨#[0]⟩] w (fun e m=>e=.returned (.int .i64 (Lib.indexByte b 0)) /\ m=w) from n);clear n
 by_cases a:(0:UInt8)∈b
 ·obtain⟨i,hi,c,o,p⟩:=j a;rw[c] at d;have g:=ae o;have h:=ae p;have f:=ae a;clear o p c j k a
  go_enter func240,ntmps240
  go_wp2_with fail;refine d.out.mono ?_;rintro e m ⟨rfl,rfl⟩;go_wp2_with fail;have u:(i:Int)<b.length:=by omega
  have s:IntKind.i64.wrap ((i:Int)+1)=(i:Int)+1:=af _ (by omega);have t:((i:Int)+1).toNat=i+1:=by omega
  go_quiet (fail)
  clear s t;go_wp2_with fail
  go_ret3
  exact⟨_,by rw[g.out,h.out,decide_eq_true f.out,<- Bs,<- nd];rfl,rfl⟩
 ·have c:=k a;rw[c] at d;obtain⟨q,r⟩:=uZ b a;have g:=ae q;have h:=ae r;have f:=ae a;clear c j k a q r
  go_enter func240,ntmps240
  go_wp2_with fail;refine d.out.mono ?_;rintro e m ⟨rfl,rfl⟩;go_wp2_with fail
  go_ret3
  exact⟨0,by rw[g.out,h.out,decide_eq_false f.out];rfl,rfl⟩
theorem C7(d:b.length <= 9223372036854775807):
 Calls aE 224 #[.string ⟨b.toArray⟩,.string ⟨#[0]⟩] w (zp w b):=by
 have C:=ae (Bt w b d)
 go_enter func224,ntmps224
 go_wp2_with fail;refine C.out.mono ?_;rintro e f ⟨n,rfl,a⟩;have c:=ae a;clear a;go_wp2_with fail
 go_ret3
 exact⟨n,rfl,c.out⟩
theorem vL:PredAt aE 251 #[] encR (fun r=>decide (r=0)) w:=fun W r _=>by
 have a:=ae (show((r:Int) == 0)=decide (r=0) by by_cases h:r=0<;>simp[h]);unfold FnGives
 go_enter func251,ntmps251
 go_wp2_with fail
 go_ret
 exact⟨iM a.out,0,rfl⟩
theorem sw(a:Array Value)(w:World):(callFunc 251 a).run aE w=.ok (.enter 251 a) w:=rfl
theorem sx:
 Calls aE 250 #[.string ⟨b.toArray⟩,.func (.func 251) #[] #[]] w fun e a=>e=.returned (.bool (decide ((0:UInt8)∈b))) /\ Below w.heap.size w a:=by
 have h:=Tryz.strings_ContainsFunc 251 #[] sw _ ⟨b.toArray⟩ w (vL w);rw[uc] at h;exact h
theorem lw(k:eJ w)(l:List UInt8)(n:l.length <= 9223372036854775807):
 Calls aE 241 #[.string ⟨l.toArray⟩] w fun e o=>e=.returned (.bool (fR l)) /\ Below w.heap.size w o:=by
 have V:=ae (ud w k l n);obtain⟨g,a⟩:=aH (fR l);rw[a]
 by_cases c:l = []
 ·subst c;obtain rfl:g=false:=by rw[<- a];exact qu
  clear V a
  go_enter func241,ntmps241
  go_wp2_with fail
  go_ret
  exact⟨rfl,Below.refl _ _⟩
 ·have p:(!l.isEmpty)=true:=by simpa using c
  cases b:Lib.validD l with
  |false=>
   obtain rfl:g=false:=by rw[<- a];simp[fR,b]
   rw[b] at V;clear b a
   go_enter func241,ntmps241
   go_wp2_with fail;refine V.out.mono ?_;rintro e i ⟨rfl,d⟩;clear V;go_wp2_with fail
   go_ret
   exact⟨rfl,d⟩
  |true=>
   rw[b] at V;have h:g = !decide ((0:UInt8)∈l):=by rw[<- a];simp[fR,b,c]
   obtain⟨z,f⟩:=aH (decide ((0:UInt8)∈l));rw[f] at h;subst h;have j:=ae f;clear b a f
   go_enter func241,ntmps241
   go_wp2_with fail;refine V.out.mono ?_;rintro e i ⟨rfl,d⟩;have C:=ae (sx i l);rw[j.out] at C;clear V;go_wp2_with fail;refine C.out.mono ?_;rintro e q ⟨rfl,m⟩;clear C;go_wp2_with fail
   go_ret
   exact⟨rfl,cQ d m⟩
def Bu(a:Bool)(w:World)(e:Ending)(b:World):Prop:=∃s:ByteArray,e=.returned (.tuple #[.string s,.bool a]) /\ Below w.heap.size w b
theorem cd(h:eJ W)(c:4 <= W.heap.size)(b:Below W.heap.size W w'):eJ w':=h.keep fun a d=>b.cell (p:=a) (by omega)
theorem Bv(o:eJ w)(q:4 <= w.heap.size)(d:Int)(C:-1000 <= d /\ d <= 1000)(a b:List UInt8)(B:a.length+b.length <= 9223372036854775807):
 Calls aE 225 #[.int .i64 d,.string ⟨a.toArray⟩,.string ⟨b.toArray⟩] w (Bu (fk d a b) w):=by
 have g:=ae (lw w o a (by omega));obtain⟨k,h⟩:=aH (fk d a b);rw[h]
 by_cases i:d=1 \/ d=2
 ·obtain⟨x,n⟩:=aH (fR a);rw[n] at g;cases x with
  |false=>
   obtain rfl:k=false:=by rw[<- h];simp[fk,n]
   clear h n;rcases i with rfl|rfl
   all_goals
    go_enter func225,ntmps225
    go_wp2_with fail;refine g.out.mono ?_;rintro e l ⟨rfl,f⟩;go_wp2_with fail;go_ret2;exact⟨_,rfl,f⟩
  |true=>
   obtain⟨t,r⟩:=aH (fR b);have j:k=(t&&decide (a.length+b.length <= 398)):=by rw[<- h];simp[fk,n,r,i]
   clear h n;have p:=ae r;clear r;have y:48+d=49 \/ 48+d=50:=by omega
   cases t with
   |false=>
    obtain rfl:k=false:=by simpa using j
    clear j;rcases i with rfl|rfl
    all_goals
     go_enter func225,ntmps225
     go_wp2_with fail;refine g.out.mono ?_;rintro e l ⟨rfl,f⟩;have c:=ae (lw l (cd o q f) b (by omega));rw[p.out] at c;clear g;go_wp2_with fail;refine c.out.mono ?_;rintro e u ⟨rfl,m⟩;clear c;go_wp2_with fail;go_ret2;exact⟨_,rfl,cQ f m⟩
   |true=>
    by_cases s:a.length+b.length <= 398
    ·obtain rfl:k=true:=by simpa[s] using j
     have z:Utf8.encode 49=⟨#[49]⟩:=by rfl
     have A:Utf8.encode 50=⟨#[50]⟩:=by rfl
     have D:1+a.length <= 1000:=by omega
     have E:1+a.length+1+b.length <= 1000:=by omega
     have v:decide ((a.length:Int)+(b.length:Int)>398)=false:=by simp;omega
     clear j;rcases i with rfl|rfl
     all_goals
      go_enter func225,ntmps225
      go_wp2_with fail;refine g.out.mono ?_;rintro e l ⟨rfl,f⟩;have c:=ae (lw l (cd o q f) b (by omega));rw[p.out] at c;clear g;go_wp2_with fail;refine c.out.mono ?_;rintro e u ⟨rfl,m⟩;clear c;go_wp2_with fail;go_ret2;exact⟨_,rfl,cQ f m⟩
    ·obtain rfl:k=false:=by simpa[s] using j
     have v:decide ((a.length:Int)+(b.length:Int)>398)=true:=by simp;omega
     have F:¬((a.length:Int)+(b.length:Int) <= 398):=by omega
     clear j;rcases i with rfl|rfl
     all_goals
      go_enter func225,ntmps225
      go_wp2_with fail;refine g.out.mono ?_;rintro e l ⟨rfl,f⟩;have c:=ae (lw l (cd o q f) b (by omega));rw[p.out] at c;clear g;go_wp2_with fail;refine c.out.mono ?_;rintro e u ⟨rfl,m⟩;clear c;go_wp2_with fail;go_ret2;exact⟨_,rfl,cQ f m⟩
 ·obtain rfl:k=false:=by rw[<- h];simp[fk,i]
  have G:(d != 1)=true:=by simp;omega
  have H:(d != 2)=true:=by simp;omega
  clear h g
  go_enter func225,ntmps225
  go_wp2_with fail;go_ret2;exact⟨_,rfl,Below.refl _ _⟩
def s7(c:Bool)(w:World)(e:Ending)(d:World):Prop:=∃(k:Int)(a b:ByteArray),e=.returned (.tuple #[.int .i64 k,.string a,.string b,.bool c]) /\ Below w.heap.size w d
theorem C8:(mS b).length+(mT b).length <= b.length:=by
 have h:b.length=(b.takeWhile (· != 0)).length+(b.dropWhile (· != 0)).length:=by
  rw[<- aA,List.takeWhile_append_dropWhile]
 unfold mS mT;rw[List.length_drop];omega
theorem Aa(F:eJ w)(E:4 <= w.heap.size)(l:List UInt8)(G:l.length <= 9223372036854775807):
 Calls aE 207 #[.string ⟨l.toArray⟩] w (s7 (fe l) w):=by
 cases l with
 |nil=>
  go_enter func207,ntmps207
  go_wp2_with fail;refine bodyPost_ret (v:=.tuple #[.int .i64 0,.string ⟨#[]⟩,.string ⟨#[]⟩,.bool false]) (by simp[results,results207,go_sem]) rfl ⟨_,_,_,rfl,Below.refl _ _⟩
 |cons c r=>
  obtain⟨B,i⟩:=aH (fe (c::r));rw[i];have K:r.length <= 9223372036854775806:=by simp at G;omega
  have C:=ae (C7 w r (by omega));have J:=UInt8.toNat_lt c;have y:fk ((c.toNat:Int)-48) (mS r) (mT r)=B:=i;have D:=ae y;have H:=C8 r;obtain⟨k,f⟩:=aH (mS r);obtain⟨m,g⟩:=aH (mT r);rw[f,g] at H;have b:=ae f;have d:=ae g;clear i y f g
  go_enter func207,ntmps207
  go_wp2_with fail;have o:(⟨(c::r).toArray⟩:ByteArray).extract 1 (r.length+1)=⟨r.toArray⟩:=nd (c::r) 1;have p:∀h:0<(⟨(c::r).toArray⟩:ByteArray).size,(⟨(c::r).toArray⟩:ByteArray)[0]'h=c:=fun _=>rfl
  have q:wrap64 (c.toNat:Int)=c.toNat:=IntWalk.wrap64_in _ (by omega);have t:wrap64 ((c.toNat:Int)-48)=(c.toNat:Int)-48:=IntWalk.wrap64_in _ (by omega);simp only[o,p,q,t];clear o p q t;refine C.out.mono ?_;rintro e L ⟨n,rfl,rfl⟩;rw[b.out,d.out];have M:=ae (Bv (w.drewN n) (F.keep fun a _=>rfl) E ((c.toNat:Int)-48) (by omega) k m (by omega));rw[<- b.out,<- d.out,D.out,b.out,d.out] at M;obtain⟨z,A⟩:=aH (decide ((0:UInt8)∈r));rw[A];clear C A;go_wp2_with fail;refine M.out.mono ?_;rintro e I ⟨s,rfl,u⟩;have x:Below w.heap.size w I:=(cM (Below.refl _ _) n).trans u;have j:=ae x;clear M u x;cases B with
  |false=>
   go_wp2_with fail;exact bodyPost_ret (v:=.tuple #[.int .i64 0,.string ⟨#[]⟩,.string ⟨#[]⟩,.bool false]) (by simp[results,results207,go_sem]) rfl ⟨_,_,_,rfl,j.out⟩
  |true=>
   go_wp2_with fail;exact bodyPost_ret (v:=.tuple #[.int .i64 ((c.toNat:Int)-48),.string ⟨k.toArray⟩,.string ⟨m.toArray⟩,.bool true]) (by simp[results,results207,go_sem]) rfl ⟨_,_,_,rfl,j.out⟩
theorem s8(f:eJ w)(d:4 <= w.heap.size)(l:List UInt8)(h:l.length <= 9223372036854775807):
 Calls aE 166 #[.string ⟨l.toArray⟩] w fun e i=>e=.returned (.bool (fe l)) /\ Below w.heap.size w i:=by
 have P:=ae (Aa w f d l h);obtain⟨j,c⟩:=aH (fe l);rw[c] at P⊢;clear c
 go_enter func166,ntmps166
 go_wp2_with fail;refine P.out.mono ?_;rintro e m ⟨k,a,b,rfl,g⟩;clear P;go_wp2_with fail
 go_ret
 exact⟨rfl,g⟩
end
end Go.Proofs.YtobjdpngnfbicaaGreatDoor
