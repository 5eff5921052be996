/-
  Ref30 RRefV RRefF REncR RHas Disk6 Disk7 Disk8 Disk9 Mk Use Crc Sec Sec2
-/
import Derived.Test.YtobjdpngnfbicaaGreatDoorZP06
open Go.IntWalk renaming i64_in->af
open Nat renaming le_refl->aq,le_trans->au
open List renaming getElem_mem->aC
open Go.Proofs.Tryz renaming prog->aE
set_option maxHeartbeats 6000000
set_option maxRecDepth 100000
set_option linter.all false
namespace Go.Proofs.YtobjdpngnfbicaaGreatDoor
open Go.RowKit
open Go.Proofs.Tryz
variable(w:World)(F:aQ)(n k:Nat)(v:Value)(b:List UInt8)(m:aT){W w':World}{G:aQ}{u:Value}{i j:Nat}{l:List UInt8}{r:aT}{N:MD}{t:TypeId}
section
open Go.Lib
attribute [local go_sem ↓] aU
attribute [local go_sem] opC upC told bE bm bF bp bq bG bH
theorem Dg:(aE.info? 21).map (λi=>(i.zero,i.size,i.bytes))=some (some (.int .i32 0),1,4):=by kernel_rfl
def BM(a:Bool)(w:World)(e:Ending)(b:World):Prop:=∃v,e=.returned (.tuple #[v,.bool a]) /\ Kpt w b
def xX(w:World)(l:List UInt8)(b:Bool)(v i:Value)(wr:World):Prop:=
 ∃(a n f:Nat)(c:List Value),a <= l.length /\ n <= a /\ i=.int .i64 (a:Int) /\ l.length-a <= f /\ nG f (l.drop a)=b /\ wr.ownsRow w.heap.size 21 1 v n c /\ Kpt w wr
theorem Dh(a:b≠[]):(jz b).2 <= b.length:=by
 by_cases h:(jz b).2=0
 ·omega
 ·rw[rt b h];exact Lib.decodeL_le b a
theorem xY(h:(jz b).2≠0):(jz b).1 <= 1114111:=by
 rw[rt b h];exact Lib.decodeL_rune b
theorem BN(U:b.length <= 1000000000):
 Calls aE 266 #[.string ⟨b.toArray⟩] w (BM (Lib.validD b) w):=by
 obtain⟨j,u⟩:=aH (Lib.validD b);rw[u];have M:=ae (show xX w b j (.slice none 0 0) (.int .i64 0) w from⟨0,0,b.length,[],by omega,by omega,rfl,by omega,by rw[tT,List.drop_zero];exact u,World.ownsRow_nil _ _ _ _,Below.refl _ _⟩);clear u
 go_enter func266,ntmps266
 go_wp2
 go_loopw [4,5] (λv i wr=>xX w b j v i wr) (λ_ i _=>b.length-(intOf i).toNat)
 ·exact M.x
 ·obtain⟨a,n,f,xs,X,W,rfl,T,E,C,A⟩:=hrel;have⟨q,K,k⟩:=ae3 E C A;clear E C A
  by_cases Q:a<b.length
  ·have O:(a:Int)<(b.length:Int):=by omega
   have N:=ae (BL wr b a Q (by omega));obtain⟨r,x⟩:=aH (jz (b.drop a));have h:=xY (b.drop a);have y:=Dh (b.drop a) (by intro e;have:=congrArg List.length e;simp at this;omega);rw[x] at N h y;rw[List.length_drop] at y;obtain⟨c,m⟩:=r;dsimp only at h y;have p:=ae x;clear x;go_wp2_with fail;refine N.x.mono ?_;rintro e R ⟨rfl,s⟩;dsimp only;clear N;have d:=k.x.trans (s.mono k.x.size)
   by_cases g:m=0
   ·have o:=ae (show j=false by
     rw[<- q.x];have t:f=(f-1)+1:=by omega
     rw[t];unfold nG
     rw[if_neg (by intro e;have:=congrArg List.length e;simp at this;omega),if_pos (by rw[p.x];exact g)])
    subst g;go_wp2;go_ret2;exact⟨_,by rw[o.x];rfl,d⟩
   ·have V:((m:Int) == 0)=false:=by simp;exact g
    have Z:=h g;obtain⟨i0,F,G,H,I⟩:=info_parts Dg;have how:=br K.x s;obtain⟨v',S,Y,D,B⟩:=cu (P:=aE) R w.heap.size 300 21 underlying300 F G H I rfl (by decide) _ n _ how #[.int .i32 (c:Int)] rfl (by simp[Value.oneCell']) (by unfold maxLen;omega) (by omega) d.size;have z:Kpt w S:=(d.alloc d.size _).trans (Below.grownOwn (how.alloc _) B (by have:=d.size;simp;omega) (aq _));have⟨J,L⟩:=ae2 z D;clear s d how D B z h F G H I;go_wp2
    go_roundw
    ·refine⟨a+m,n+1,f-1,_,by omega,by omega,by go_num,by omega,?_,L.x,J.x⟩;rw[<- q.x];have t:f=(f-1)+1:=by omega
     conv=>rhs;rw[t];unfold nG
     rw[if_neg (by intro e;have:=congrArg List.length e;simp at this;omega),if_neg (by rw[p.x];exact g),p.x,List.drop_drop]
    ·simp[intOf];omega
  ·have O:¬(a:Int)<(b.length:Int):=by omega
   have o:=ae (show j=true by
    rw[<- q.x,List.drop_of_length_le (by omega)]
    cases f<;>simp[nG])
   go_wp2;go_ret2;exact⟨_,by rw[o.x];rfl,k.x⟩
theorem zG(d:b.length <= 1000000000):
 Calls aE 261 #[.string ⟨b.toArray⟩] w λe f=>e=.returned (.bool (Lib.validD b)) /\ Kpt w f:=by
 have R:=ae (BN w b d);obtain⟨g,a⟩:=aH (Lib.validD b);rw[a] at R⊢;clear a
 go_enter func261,ntmps261
 go_wp2_with fail;refine R.x.mono ?_;rintro e h ⟨v,rfl,c⟩;clear R;go_wp2
 go_ret
 exact⟨rfl,c⟩
theorem uv(z:b.length <= 1000000000):
 Calls aE 252 #[.string ⟨b.toArray⟩] w λe B=>e=.returned (.bool (fK b)) /\ Kpt w B:=by
 have V:=ae (zG w b z);obtain⟨q,o⟩:=aH (fK b);rw[o];have f:=ae o;clear o
 go_enter func252,ntmps252
 go_wp2
 go_loop [3] (λi=>∃k:Nat,k <= b.length /\ i=.int .i64 (k:Int) /\ ∀j,j<k -> b[j]?≠some 0) (λi=>b.length-(intOf i).toNat)
 ·exact⟨0,by omega,rfl,λj d=>by omega⟩
 ·obtain⟨k,F,rfl,t⟩:=hrel;have r:=ae t;clear t
  by_cases y:k<b.length
  ·have x:(k:Int)<(b.length:Int):=by omega
   obtain⟨c,m⟩:=aH b[k];have D:∀h:k<(⟨b.toArray⟩:ByteArray).size,((⟨b.toArray⟩:ByteArray)[k]'h)=c:=λh=>m
   have s:=ae (show b[k]?=some c by rw[List.getElem?_eq_getElem y,m]);clear m
   by_cases g:c=0
   ·subst g;have a:=ae (show q=false by rw[<- f.x];exact tU b (List.mem_of_getElem? s.x));go_wp2
    go_ret
    exact⟨by rw[a.x];rfl,Below.refl _ _⟩
   ·have E:((c.toNat:Int) == 0)=false:=by
     simp;intro e;exact g (UInt8.toNat_inj.1 (by simpa using e))
    go_wp2
    go_round
    ·exact⟨k+1,by omega,by go_num,λj d=>by
     rcases Nat.lt_succ_iff_lt_or_eq.1 d with h|h
     ·exact r.x j h
     ·subst h;rw[s.x];simpa using g⟩
    ·simp[intOf];omega
  ·have x:¬(k:Int)<(b.length:Int):=by omega
   have p:(0:UInt8)∉b:=λA=>by
    obtain⟨j,d,v⟩:=List.getElem_of_mem A;exact r.x j (by omega) (by rw[List.getElem?_eq_getElem d,v])
   by_cases n:b = []
   ·subst n;have a:=ae (show q=false by rw[<- f.x];exact ru);clear p V;go_wp2
    go_ret
    exact⟨by rw[a.x];rfl,Below.refl _ _⟩
   ·have C:(!b.isEmpty)=true:=by simpa using n
    have a:=ae (show q=Lib.validD b by rw[<- f.x];simp[fK,p,n]);clear p;go_wp2_with fail;refine V.x.mono ?_;rintro e G ⟨rfl,u⟩;rw[<- a.x];clear V;go_wp2
    go_ret
    exact⟨rfl,u⟩
theorem mL:
 Calls aE 253 #[] w λe b=>e=.returned (.string ⟨#[0]⟩) /\ b=w.alloc (.cells #[.int .u8 0] 5):=by
 have a:=CO w 0;rw[show B 0=.int .u8 0 from rfl] at a
 go_enter func253,ntmps253
 go_wp2
 go_ret
 exact⟨rfl,rfl⟩
def oZ:oV:=.steady 0 (.steady 1 (.steady 2 (.steady 5 (.steady 9 (.both 3 7 (.steady 4 (.steady 6 (.move 7 (.steady 8 (.steady 10 (.steady 11 (.steady 12 .done))))))) (.move 3 (.steady 4 (.steady 6 (.steady 8 (.steady 10 (.steady 11 (.steady 12 .done))))))))))))
theorem lF{w a:World}{c:UInt8}(h:aK (w.alloc (.cells #[B c] 5)) a):(convert 41 9 (.slice (some ⟨w.heap.size,0,none⟩) 1 1)).run aE a=.ok (.string ⟨#[c]⟩) a:=
 iZ (F:=λ_=>True) (l:=[c]) ⟨_,1,rfl,by simp,by unfold maxLen;omega,nofun,.inr ⟨w.heap.size,0,#[B c],5,(0,0),rfl,trivial,by rw[h.block w.heap.size (by simp)];unfold World.alloc;simp,by simp,λi hi=>by simp at hi;subst hi;rfl⟩⟩
theorem pY(x y:List UInt8):(⟨x.toArray⟩:ByteArray)++⟨y.toArray⟩=⟨(x++y).toArray⟩:=by
 apply ByteArray.ext;simp
theorem rn(c:UInt8)(a b:List UInt8):(((⟨#[c]⟩:ByteArray)++⟨a.toArray⟩)++⟨#[0]⟩)++⟨b.toArray⟩=⟨(c::(a++0::b)).toArray⟩:=by
 rw[show(⟨#[c]⟩:ByteArray)=⟨[c].toArray⟩ from rfl,show(⟨#[0]⟩:ByteArray)=⟨[(0:UInt8)].toArray⟩ from rfl,pY,pY,pY];simp
def pZ(c:Int)(a b:List UInt8)(w:World)(e:Ending)(d:World):Prop:=
 ∃s:ByteArray,e=.returned (.tuple #[.string s,.bool (fq c a b)]) /\ (fq c a b=true -> s=⟨(UInt8.ofNat (48+c).toNat::(a++0::b)).toArray⟩) /\ Kpt w d
theorem BO(p:Int)(Q:-1000 <= p /\ p <= 1000)(a b:List UInt8)(I:a.length <= 1000000000)(J:b.length <= 1000000000):
 Calls aE 242 #[.int .i64 p,.string ⟨a.toArray⟩,.string ⟨b.toArray⟩] w (pZ p a b w):=by
 have y:=ae (uv w a I);unfold pZ;obtain⟨u,v⟩:=aH (fq p a b);rw[v]
 by_cases A:p=1 \/ p=2
 case neg=>
  obtain rfl:u=false:=by rw[<- v];simp[fq,A]
  have V:(p != 1)=true:=by simp;omega
  have W:(p != 2)=true:=by simp;omega
  clear v y
  go_enter func242,ntmps242
  go_wp2;go_ret2;exact⟨_,rfl,nofun,Below.refl _ _⟩
 obtain⟨F,B⟩:=aH (fK a);obtain⟨G,C⟩:=aH (fK b);rw[B] at y;have⟨x,H⟩:=ae2 (show u=(F&&G&&decide (a.length+b.length <= 398)) by rw[<- v];simp[fq,B,C,A]) C;clear v B C;rcases A with rfl|rfl
 all_goals
  go_enter func242,ntmps242
  go_wp2_with fail;refine y.x.mono ?_;rintro e P ⟨rfl,m⟩;have z:=ae (uv P b J);rw[H.x] at z;clear y;cases F
  case false=>
   obtain rfl:u=false:=x.x;go_wp2;go_ret2;exact⟨_,rfl,nofun,m⟩
  go_wp2_with fail;refine z.x.mono ?_;rintro e g ⟨rfl,q⟩;clear z;cases G
  case false=>
   obtain rfl:u=false:=x.x;go_wp2;go_ret2;exact⟨_,rfl,nofun,cT m q⟩
  by_cases E:a.length+b.length <= 398
  case neg=>
   obtain rfl:u=false:=by simpa[E] using x.x
   have U:decide ((a.length:Int)+(b.length:Int)+2>400)=true:=by simp;omega
   go_wp2;go_ret2;exact⟨_,rfl,nofun,cT m q⟩
  obtain rfl:u=true:=by simpa[E] using x.x
  have R:decide ((a.length:Int)+(b.length:Int)+2>400)=false:=by simp;omega
  have S:1+a.length <= 1000:=by omega
  have T:1+a.length+1+b.length <= 1000:=by omega
  go_wp2_with fail
 ·skip
  refine l9 aK oZ 13 (by kernel_rfl) (by kernel_rfl) aZ bL _ (λ_ _ h=>h) ?_;unfold oZ;have M:¬9223372036854775807<1+a.length:=by omega
  have N:¬9223372036854775807<1+a.length+1:=by omega
  have O:¬9223372036854775807<1+a.length+1+b.length:=by omega
  have K:IntKind.i64.wrap 49=49:=by decide
  have L:IntKind.u8.wrap 49=49:=by decide
  apply g6 [0,1,2,5,9] _ (aZ _) rfl;intro d r;go_simp;exact aF;have o:w.heap.size <= g.heap.size:=(cT m q).size;refine ud rfl rfl rfl rfl (λk f=>?_) (λk f=>?_)
  ·go_simp;have i:aK g.drew (g.alloc (.cells #[.int .u8 49] 5)).drew:=aI g.drew _;have n:∀d,aK (g.alloc (.cells #[.int .u8 49] 5)).drew d -> (convert 41 9 (.slice (some ⟨g.heap.size,0,none⟩) 1 1)).run aE d=.ok (.string ⟨#[49]⟩) d:=λd h=>lF (w:=g.drew) (c:=49) h
   obtain⟨D,l⟩:=aP ((g.alloc (.cells #[.int .u8 49] 5)).drew);rw[<- l] at i n⊢;refine⟨i,f _ _ ?_⟩;clear f k l;go_simp;apply g6 [4,6] _ (aZ _) rfl;intro d r;go_simp;exact aF;refine rh rfl rfl (λk f=>?_);go_simp;refine(mL _).mono ?_;rintro e d ⟨rfl,rfl⟩;refine⟨_,rfl,aI _ _,f _ _ ?_⟩;clear f k n;go_simp;apply g6 [8,10,11,12] _ (aZ _) rfl;intro d r;go_simp;exact aF;refine oW ?_;go_wp2;go_ret2;exact⟨_,rfl,rn 49 a b,(((cT m q).drew.trans (RowKit.Below.mono i o)).alloc (au o i.size) _)⟩
  ·go_simp;obtain⟨j,s⟩:=aP (g.drew.alloc (.cells #[.int .u8 0] 5));have t:aK g.drew j:=by rw[s];exact aI _ _
   refine(mL _).mono ?_;rintro e d ⟨rfl,rfl⟩;rw[<- s];refine⟨_,rfl,t,f _ _ ?_⟩;clear f k s;go_simp;refine rh rfl rfl (λk f=>?_);go_simp;have i:aK j (j.alloc (.cells #[.int .u8 49] 5)):=aI j _;have n:∀d,aK (j.alloc (.cells #[.int .u8 49] 5)) d -> (convert 41 9 (.slice (some ⟨j.heap.size,0,none⟩) 1 1)).run aE d=.ok (.string ⟨#[49]⟩) d:=λd h=>lF (w:=j) (c:=49) h
   obtain⟨D,l⟩:=aP (j.alloc (.cells #[.int .u8 49] 5));rw[<- l] at i n⊢;refine⟨i,f _ _ ?_⟩;clear f k l;go_simp;apply g6 [4,6,8,10,11,12] _ (aZ _) rfl;intro d r;go_simp;exact aF;refine oW ?_;go_wp2;go_ret2;exact⟨_,rfl,rn 49 a b,((cT m q).drew.trans (RowKit.Below.mono t o)).trans (RowKit.Below.mono i (au o t.size))⟩
 ·skip
  refine l9 aK oZ 13 (by kernel_rfl) (by kernel_rfl) aZ bL _ (λ_ _ h=>h) ?_;unfold oZ;have M:¬9223372036854775807<1+a.length:=by omega
  have N:¬9223372036854775807<1+a.length+1:=by omega
  have O:¬9223372036854775807<1+a.length+1+b.length:=by omega
  have K:IntKind.i64.wrap 50=50:=by decide
  have L:IntKind.u8.wrap 50=50:=by decide
  apply g6 [0,1,2,5,9] _ (aZ _) rfl;intro d r;go_simp;exact aF;have o:w.heap.size <= g.heap.size:=(cT m q).size;refine ud rfl rfl rfl rfl (λk f=>?_) (λk f=>?_)
  ·go_simp;have i:aK g.drew (g.alloc (.cells #[.int .u8 50] 5)).drew:=aI g.drew _;have n:∀d,aK (g.alloc (.cells #[.int .u8 50] 5)).drew d -> (convert 41 9 (.slice (some ⟨g.heap.size,0,none⟩) 1 1)).run aE d=.ok (.string ⟨#[50]⟩) d:=λd h=>lF (w:=g.drew) (c:=50) h
   obtain⟨D,l⟩:=aP ((g.alloc (.cells #[.int .u8 50] 5)).drew);rw[<- l] at i n⊢;refine⟨i,f _ _ ?_⟩;clear f k l;go_simp;apply g6 [4,6] _ (aZ _) rfl;intro d r;go_simp;exact aF;refine rh rfl rfl (λk f=>?_);go_simp;refine(mL _).mono ?_;rintro e d ⟨rfl,rfl⟩;refine⟨_,rfl,aI _ _,f _ _ ?_⟩;clear f k n;go_simp;apply g6 [8,10,11,12] _ (aZ _) rfl;intro d r;go_simp;exact aF;refine oW ?_;go_wp2;go_ret2;exact⟨_,rfl,rn 50 a b,(((cT m q).drew.trans (RowKit.Below.mono i o)).alloc (au o i.size) _)⟩
  ·go_simp;obtain⟨j,s⟩:=aP (g.drew.alloc (.cells #[.int .u8 0] 5));have t:aK g.drew j:=by rw[s];exact aI _ _
   refine(mL _).mono ?_;rintro e d ⟨rfl,rfl⟩;rw[<- s];refine⟨_,rfl,t,f _ _ ?_⟩;clear f k s;go_simp;refine rh rfl rfl (λk f=>?_);go_simp;have i:aK j (j.alloc (.cells #[.int .u8 50] 5)):=aI j _;have n:∀d,aK (j.alloc (.cells #[.int .u8 50] 5)) d -> (convert 41 9 (.slice (some ⟨j.heap.size,0,none⟩) 1 1)).run aE d=.ok (.string ⟨#[50]⟩) d:=λd h=>lF (w:=j) (c:=50) h
   obtain⟨D,l⟩:=aP (j.alloc (.cells #[.int .u8 50] 5));rw[<- l] at i n⊢;refine⟨i,f _ _ ?_⟩;clear f k l;go_simp;apply g6 [4,6,8,10,11,12] _ (aZ _) rfl;intro d r;go_simp;exact aF;refine oW ?_;go_wp2;go_ret2;exact⟨_,rfl,rn 50 a b,((cT m q).drew.trans (RowKit.Below.mono t o)).trans (RowKit.Below.mono i (au o t.size))⟩
theorem BP(c:UInt8)(r:List UInt8)(i:Nat)(h:r[i]?=some 0):(UInt8.ofNat (48+((c.toNat:Int)-48)).toNat::(r.take i++0::r.drop (i+1)))=c::r:=by
 have hi:=(List.getElem?_eq_some_iff.1 h).1;have a:=(List.getElem?_eq_some_iff.1 h).2;rw[show(48+((c.toNat:Int)-48)).toNat=c.toNat by omega,UInt8.ofNat_toNat,<- a,<- List.drop_eq_getElem_cons hi,List.take_append_drop]
def uw(c:UInt8)(r:List UInt8)(w:World)(i:Value)(wr:World):Prop:=
 ∃k:Nat,k <= r.length /\ i=.int .i64 ((k:Int)+1) /\ (∀j,j<k -> ¬(r[j]?=some 0 /\ fq ((c.toNat:Int)-48) (r.take j) (r.drop (j+1))=true)) /\ Kpt w wr
theorem zH(R:b.length <= 1000000000):
 Calls aE 227 #[.string ⟨b.toArray⟩] w (uf (eY b) w):=by
 cases b with
 |nil=>
  go_enter func227,ntmps227
  go_wp2
  go_loop [6] (λi=>i=.int .i64 1) (λi=>1)
  ·rfl
  ·subst hrel;go_wp2;exact bodyPost_ret (v:=.tuple #[.int .i64 0,.string ⟨#[]⟩,.string ⟨#[]⟩,.bool false]) (by simp[results,results227,go_sem]) rfl ⟨_,_,_,rfl,Below.refl _ _⟩
 |cons c r=>
  obtain⟨T,A⟩:=aH (eY (c::r));rw[A];have ar:r.length<1000000000:=by simp at R;omega
  have hc:=UInt8.toNat_lt c;have⟨F,G⟩:=ae2 A (show uw c r w (.int .i64 1) w from⟨0,by omega,rfl,λj a=>by omega,Below.refl _ _⟩);clear A R
  go_enter func227,ntmps227
  go_wp2
  go_loopw [6] (λi wr=>uw c r w i wr) (λi _=>r.length+1-(intOf i).toNat)
  ·exact G.x
  ·obtain⟨k,hk,rfl,N,P⟩:=hrel;have⟨n,D⟩:=ae2 N P;clear N P G
   by_cases Q:k<r.length
   ·have Z:(k:Int)+1<(r.length:Int)+1:=by omega
    have aa:(k:Int)<(r.length:Int):=by omega
    have ag:IntKind.i64.wrap ((k:Int)+1+1)=(k:Int)+1+1:=af _ (by omega);have ai:((k:Int)+1+1).toNat=k+1+1:=by omega
    have ak:((k:Int)+1).toNat=k+1:=by omega
    have al:(1:Int) <= (k:Int)+1:=by omega
    go_wp2_with fail
    go_quiet (fail)
    clear ag ai ak al;have H:(⟨(c::r).toArray⟩:ByteArray).extract 1 (k+1)=⟨(r.take k).toArray⟩:=by rw[pU];simp
    have I:(⟨(c::r).toArray⟩:ByteArray).extract (k+1+1) (r.length+1)=⟨(r.drop (k+1)).toArray⟩:=nS (c::r) (k+1+1);have J:∀h:0<(⟨(c::r).toArray⟩:ByteArray).size,(⟨(c::r).toArray⟩:ByteArray)[0]'h=c:=λ_=>rfl
    have K:wrap64 (c.toNat:Int)=c.toNat:=IntWalk.wrap64_in _ (by omega);have L:wrap64 ((c.toNat:Int)-48)=(c.toNat:Int)-48:=IntWalk.wrap64_in _ (by omega);simp only[H,I,J,K,L];clear H I J K L;obtain⟨d,x⟩:=aH r[k];have an:∀h:k+1<(⟨(c::r).toArray⟩:ByteArray).size,((⟨(c::r).toArray⟩:ByteArray)[k+1]'h)=d:=λh=>x
    have p:=ae (show r[k]?=some d by rw[List.getElem?_eq_getElem Q,x]);clear x;obtain⟨U,B⟩:=aP (wr.drewN nq);have o:=ae (show Kpt w U by rw[B];exact cN D.x _);rw[<- B];clear B;obtain⟨m,f⟩:=aH (r.take k);obtain⟨rb,g⟩:=aH (r.drop (k+1));have ab:m.length <= 1000000000:=by rw[<- f];simp;omega
    have ad:rb.length <= 1000000000:=by rw[<- g];simp;omega
    rw[f,g];have⟨q,t⟩:=ae2 f g;clear f g
    by_cases u:d=0
    ·subst u;have y:=BP c r k p.x;rw[q.x,t.x] at y;have M:=ae (BO U ((c.toNat:Int)-48) (by omega) m rb ab ad);obtain⟨mk,z⟩:=aH (fq ((c.toNat:Int)-48) m rb);unfold pZ at M;rw[z,y] at M;have E:=ae z;clear z y;go_wp2_with fail;refine M.x.mono ?_;rintro e w2 ⟨s,rfl,S,O⟩;have C:=ae (o.x.trans (O.mono o.x.size));clear M O;cases mk with
     |true=>
      obtain rfl:=S rfl
      have W:=ae (show T=true by
       rw[<- F.x]
       exact(pK c r).2 ⟨k,Q,p.x,by rw[q.x,t.x];exact E.x⟩)
      go_wp2;rw[W.x];exact bodyPost_ret (v:=.tuple #[.int .i64 ((c.toNat:Int)-48),.string ⟨m.toArray⟩,.string ⟨rb.toArray⟩,.bool true]) (by simp[results,results227,go_sem]) rfl ⟨_,_,_,rfl,C.x⟩
     |false=>
      clear S;go_wp2
      go_roundw
      ·exact⟨k+1,by omega,by go_num,λj a=>by
       rcases Nat.lt_succ_iff_lt_or_eq.1 a with h|h
       ·exact n.x j h
       ·subst h;rintro⟨-,h⟩;rw[q.x,t.x,E.x] at h;exact absurd h (by decide),C.x⟩
      ·simp[intOf];omega
    ·have ao:((d.toNat:Int) != 0)=true:=by
      simp;intro e;exact u (UInt8.toNat_inj.1 (by simpa using e))
     go_wp2
     go_roundw
     ·exact⟨k+1,by omega,by go_num,λj a=>by
      rcases Nat.lt_succ_iff_lt_or_eq.1 a with h|h
      ·exact n.x j h
      ·subst h;rintro⟨h,-⟩;rw[p.x] at h;exact u (by simpa using h),o.x⟩
     ·simp[intOf];omega
   ·have Z:¬(k:Int)+1<(r.length:Int)+1:=by omega
    have aa:¬(k:Int)<(r.length:Int):=by omega
    have V:=ae (show T=false by
     rw[<- F.x];refine Bool.eq_false_iff.2 λh=>?_
     obtain⟨j,a,X,Y⟩:=(pK c r).1 h
     exact n.x j (by omega) ⟨X,Y⟩)
    go_wp2;rw[V.x];exact bodyPost_ret (v:=.tuple #[.int .i64 0,.string ⟨#[]⟩,.string ⟨#[]⟩,.bool false]) (by simp[results,results227,go_sem]) rfl ⟨_,_,_,rfl,D.x⟩
theorem nA(l:List UInt8)(f:l.length <= 1000000000):
 Calls aE 213 #[.string ⟨l.toArray⟩] w λe g=>e=.returned (.bool (eY l)) /\ Kpt w g:=by
 have P:=ae (zH w l f);obtain⟨h,c⟩:=aH (eY l);rw[c] at P⊢;clear c
 go_enter func213,ntmps213
 go_wp2_with fail;refine P.x.mono ?_;rintro e i ⟨k,a,b,rfl,d⟩;clear P;go_wp2
 go_ret
 exact⟨rfl,d⟩
end
section
attribute [local go_sem] opC upC
theorem nW(k a:bQ)(d g:Int):
 Calls aE 215 #[.string ⟨k.toArray⟩,.int .i64 d,.string ⟨a.toArray⟩,.int .i64 g] w λe n=>e=.returned (.bool (decide (plt (k,d) (a,g)))) /\ w=n:=by
 obtain⟨r,i⟩:=aH (decide (plt (k,d) (a,g)));rw[i];have f:=ae i;clear i
 by_cases b:k<a
 ·obtain rfl:r=true:=by rw[<- f.x];exact decide_eq_true (.inl b)
  have l:Op.bytesLess k a=true:=by rw[Go.Proofs.bytesLess_eq];simpa using b
  clear b
  go_enter func215,ntmps215
  go_wp2
  go_ret
  exact⟨rfl,rfl⟩
 have l:Op.bytesLess k a=false:=by rw[Go.Proofs.bytesLess_eq];simpa using b
 by_cases c:k=a
 ·have o:=ae c;have m:(k == a)=true:=by simpa using c
  by_cases j:d<g
  ·obtain rfl:r=true:=by rw[<- f.x];exact decide_eq_true (.inr ⟨c,j⟩)
   clear b c
   go_enter func215,ntmps215
   go_wp2
   go_ret
   exact⟨rfl,rfl⟩
  ·obtain rfl:r=false:=by
    rw[<- f.x];exact decide_eq_false λh=>h.elim b λh=>j h.2
   clear b c
   go_enter func215,ntmps215
   go_wp2
   go_ret
   exact⟨iX (by simp),rfl⟩
 ·have m:(k == a)=false:=by simpa using c
  obtain rfl:r=false:=by
   rw[<- f.x];exact decide_eq_false λh=>h.elim b λh=>c h.1
  go_enter func215,ntmps215
  go_wp2
  go_ret
  exact⟨rfl,rfl⟩
theorem sr(h:di F w v m)(i:bQ)(d g:Int)(T:i.length <= 1000000000)(aa:dk d)(ab:dk g):
 Calls aE 226 #[v,.string ⟨i.toArray⟩,.int .i64 d,.int .i64 g] w λe w'=>e=.returned (.bool (dl m (i,d) g)) /\ Kpt w w':=by
 replace h:=jF h 75
 obtain⟨L,W,Z,p2,a3,p3,C,n2,n3,X,rfl,h,l1,l2,l3,l,G,H,J,a,Y,K,r,c0,c1,c2⟩:=h
 try rw[l.x]
 try rw[G.x]
 try rw[H.x]
 have V:=nA X i T;obtain⟨f,A⟩:=aH (dl m (i,d) g);rw[A];have j:=A;obtain⟨U,z⟩:=aH (eY i);rw[z] at V;have q:=z
 go_enter func226,ntmps226
 go_wp2_with fail;rw[<- J.x];refine V.mono ?_;rintro e D ⟨rfl,c⟩
 have m0:D.cell? ⟨w.heap.size,0,none⟩=some (.slice L C W):=by
  have:=(r.x.keep (c.block _ r.x.lt)).cell 0;simpa using this
 have S:=K.x.keep (w':=D) λb _ R=>c.block b R
 have E:=S;cases U with
 |false=>
  have Q:=q;obtain rfl:f=false:=by rw[<- j];simp[dl,Q]
  go_wp2
  go_ret
  exact⟨rfl,a.x.trans (c.mono a.x.size)⟩
 |true=>
  by_cases t:0 <= d
  ·by_cases M:d<(C:Int)
   ·by_cases u:1 <= g
    ·obtain⟨k,rfl⟩:=Int.eq_ofNat_of_zero_le t;have y:k<m.seen.length:=by rw[l.x];omega
     obtain⟨b,ad,rfl,-,-,x⟩:=ip E.seen (by omega);have O:=x k y;obtain⟨s,p⟩:=aH m.seen[k];rw[p] at O;have I:m.seen.getD k 0=s:=by rw[List.getD_eq_getElem?_getD,List.getElem?_eq_getElem y,p];rfl
     have B:=ae (show f=decide (g <= s) by
      rw[<- j];unfold dl;rw[q];have P:((k:Int)).toNat=k:=by omega
      simp only[P,I,l.x];simp[u]
      omega)
     clear x p V
     by_cases n:g <= s
     ·have o:f=true:=by rw[B.x];simpa using n
      subst o;go_wp2
      go_ret
      exact⟨rfl,a.x.trans (c.mono a.x.size)⟩
     ·have o:f=false:=by rw[B.x];simpa using n
      subst o;go_wp2
      go_ret
      exact⟨iX (by simpa using n),a.x.trans (c.mono a.x.size)⟩
    ·
     obtain rfl:f=false:=by rw[<- j];simp[dl,u]
     go_wp2
     go_ret
     exact⟨rfl,a.x.trans (c.mono a.x.size)⟩
   ·have N:¬d<((m.seen.length:Nat):Int):=by rw[l.x];exact M
    obtain rfl:f=false:=by rw[<- j];simp[dl,N]
    go_wp2
    go_ret
    exact⟨rfl,a.x.trans (c.mono a.x.size)⟩
  ·
   obtain rfl:f=false:=by rw[<- j];simp[dl,t]
   go_wp2
   go_ret
   exact⟨rfl,a.x.trans (c.mono a.x.size)⟩
theorem nX{α:Type}{b:α -> RPl}:∀(l:List α)(p:RPl)(k:Nat)(a:k<l.length),(∀j (d:j<l.length),j<k -> b l[j]≠p) -> b l[k]=p -> df b l p=some l[k]
 |[],_,k,a,_,_=>by simp at a
 |x::l,p,0,a,_,h=>by rw[cF,if_pos (by simpa using h)];rfl
 |x::l,p,k+1,a,c,h=>by
  rw[cF,if_neg (show b x≠p from c 0 (Nat.succ_pos _) (by omega))];have:=nX l p k (by simpa using a) (λj d e=>c (j+1) (by simpa using d) (by omega)) (by simpa using h);simpa using this
theorem xZ{α:Type}{b:α -> RPl}(l:List α)(p:RPl)(h:∀j (a:j<l.length),b l[j]≠p):df b l p=none:=
 gS.2 λx c=>by
  obtain⟨j,a,rfl⟩:=List.mem_iff_getElem.1 c;exact h j a
theorem su(h:di F w v m)(c:bQ)(a:Int):
 Calls aE 186 #[v,.string ⟨c.toArray⟩,.int .i64 a] w λe P=>e=.returned (.int .i64 (m.buried (c,a))) /\ Kpt w P:=by
 replace h:=jF h 75
 obtain⟨U,p1,V,p2,W,p3,n1,n2,n,Q,rfl,h,l1,l2,l3,H,I,r,J,A,T,f,S,X,Y,Z⟩:=h
 try rw[H.x]
 try rw[I.x]
 try rw[r.x]
 obtain⟨s,y⟩:=aH (m.buried (c,a));rw[y]
 go_enter func186,ntmps186
 go_wp2;rw[<- J.x]
 go_loopw [7] (λi wr=>∃k:Nat,k <= n /\ i=.int .i64 (k:Int) /\ wr=Q /\ ∀j (d:j<m.gone.length),j<k -> m.gone[j].pl≠(c,a)) (λi _=>n-(intOf i).toNat)
 ·exact⟨0,by omega,rfl,rfl,λj _ d=>by omega⟩
 ·obtain⟨k,hk,rfl,rfl,q⟩:=hrel
  by_cases O:k<n
  ·have N:(k:Int)<(n:Int):=by omega
   have E:k<m.gone.length:=by rw[r.x];exact O
   obtain⟨b,aa,rfl,-,-,M⟩:=gh f.gone (by omega);obtain⟨B,C,D⟩:=M k E;obtain⟨x,G⟩:=aH m.gone[k];rw[G] at B C D;have R:=f;have f:=G;obtain⟨l,g,z⟩:=x;dsimp only at B C D
   by_cases o:l=c
   ·have K:(l == c)=true:=by simpa using o
    by_cases p:g=a
    ·have L:(g == a)=true:=by simpa using p
     obtain rfl:s=z:=by
      rw[<- y];unfold aT.buried;rw[nX m.gone (c,a) k E q (by rw[f];show(l,g)=_;rw[o,p]),f]
     go_wp2
     go_ret
     exact⟨rfl,A.x⟩
    ·have L:(g == a)=false:=by simpa using p
     have t:RGo.pl ⟨l,g,z⟩≠(c,a):=λe=>p (Prod.mk.inj e).2
     go_wp2
     go_roundw
     ·exact⟨k+1,by omega,by go_num,by trivial,λj d u=>by
      rcases Nat.lt_succ_iff_lt_or_eq.1 u with h|h
      ·exact q j d h
      ·subst h;rw[f];exact t⟩
     ·simp[intOf];omega
   ·have K:(l == c)=false:=by simpa using o
    have t:RGo.pl ⟨l,g,z⟩≠(c,a):=λe=>o (Prod.mk.inj e).1
    go_wp2
    go_roundw
    ·exact⟨k+1,by omega,by go_num,by trivial,λj d u=>by
     rcases Nat.lt_succ_iff_lt_or_eq.1 u with h|h
     ·exact q j d h
     ·subst h;rw[f];exact t⟩
    ·simp[intOf];omega
  ·have N:¬(k:Int)<(n:Int):=by omega
   obtain rfl:s=0:=by
    rw[<- y];unfold aT.buried;rw[xZ m.gone (c,a) λj d=>q j d (by rw[r.x] at d;omega)]
   go_wp2
   go_ret
   exact⟨rfl,A.x⟩
end
section
attribute [local go_sem] opC upC told bE bm bF bp bq bG bH
theorem gn(h:gH r=true -> False):gH r=false:=by
 cases a:gH r with
 |false=>rfl
 |true=>exact(h a).elim
theorem zI(h:di F w v m)(bM:m.items.length <= 1000000)(bN:m.gone.length <= 1000000)(bJ:∀x∈m.items,x.key.length <= 1000000000)(bI:∀x∈m.gone,x.key.length <= 1000000000):
 Calls aE 211 #[v] w λe c=>e=.returned (.bool (gH m)) /\ Kpt w c:=by
 replace h:=h.mono (G:=λb=>b<w.heap.size) λb _ C=>C
 obtain⟨N,H⟩:=aH (gH m);rw[H];have bB:=bJ;have bA:=bI
 replace h:=jF h 75
 obtain⟨a1,p1,a2,p2,a3,p3,n1,I,J,wx,rfl,h,l1,l2,l3,ay,az,aI,bg,bz,bF,o,bC,c0,c1,c2⟩:=h
 try rw[ay.x]
 try rw[az.x]
 try rw[aI.x]
 rw[az.x] at bM;rw[aI.x] at bN;have ba:=h.itemsB;have a9:=h.goneB
 have O:∀c,Below (w.heap.size+1) wx c -> (c.cell? ⟨w.heap.size,0,none⟩=some (.slice a1 n1 p1) /\ c.cell? ⟨w.heap.size,1,none⟩=some (.slice a2 I p2) /\ c.cell? ⟨w.heap.size,2,none⟩=some (.slice a3 J p3)) /\ ce (λb=>b<w.heap.size) c (.slice a1 n1 p1) (.slice a2 I p2) (.slice a3 J p3) m:=λc hb=>by
  have hk:=bC.x.keep (hb.block _ (by omega));have k0:=hk.cell 0;have k1:=hk.cell 1;have k2:=hk.cell 2;simp at k0 k1 k2;exact⟨⟨k0,k1,k2⟩,o.keep λb bZ C=>hb.block b (by omega)⟩
 have H0:Below (w.heap.size+1) wx wx:=Below.refl _ _;have E:∀c,Below (w.heap.size+1) wx c -> Kpt w c:=λc hb=>bz.x.trans (hb.mono (Nat.le_succ _))
 have ak:wx.heap.size=w.heap.size+1:=bF.x
 go_enter func211,ntmps211
 by_cases bm:n1=8
 case neg=>
  have hI:¬(n1:Int)=8:=by omega
  have bY:((n1:Int) != 8)=true:=by simp[hI]
  obtain rfl:N=false:=by
   rw[<- H];refine gn λs=>?_
   have r:=(ej m).1 s;exact bm (by rw[<- ay.x];exact r.len)
  go_wp2;rw[<- bg.x]
  go_ret
  exact⟨rfl,E _ H0⟩
 subst bm;go_wp2;rw[<- bg.x]
 go_loopw [3] (λi wr=>∃k:Nat,k <= 8 /\ i=.int .i64 (k:Int) /\ wr=wx /\ ∀j (d:j<m.seen.length),j<k -> kj m.seen[j]=true) (λi _=>8-(intOf i).toNat)
 ·exact⟨0,by omega,rfl,rfl,λj _ d=>by omega⟩
 ·obtain⟨k,hk,rfl,rfl,al⟩:=hrel;have P:=al;obtain⟨⟨X,Y,d2⟩,M⟩:=O _ H0
  by_cases ao:k<8
  ·have an:(k:Int)<8:=by omega
   have z:k<m.seen.length:=by rw[ay.x];exact ao
   obtain⟨b,ab,rfl,-,-,T⟩:=ip M.seen (by omega);have e0:=T k z;obtain⟨x,p⟩:=aH m.seen[k];rw[p] at e0;have o:=p
   by_cases hs:0 <= x /\ x <= 1099511627776
   ·obtain⟨s1,s2⟩:=hs;have b4:¬x<0:=by omega
    have b5:¬x>1099511627776:=by omega
    have Hs:kj x=true:=by unfold kj;exact decide_eq_true ⟨s1,s2⟩
    go_wp2
    go_roundw
    ·exact⟨k+1,by omega,by go_num,by trivial,λj d B=>by
     rcases Nat.lt_succ_iff_lt_or_eq.1 B with h|h
     ·exact P j d h
     ·subst h;rw[o];exact Hs⟩
    ·simp[intOf];omega
   ·
    obtain rfl:N=false:=by
     rw[<- H];refine gn λs=>?_
     have r:=(ej m).1 s;exact hs (r.seen x (by rw[<- o];exact aC z))
    by_cases s1:x<0
    ·go_wp2
     go_ret
     exact⟨rfl,E _ H0⟩
    ·have s2:x>1099511627776:=by omega
     go_wp2
     go_ret
     exact⟨rfl,E _ H0⟩
  ·have an:¬(k:Int)<8:=by omega
   have bD:m.seen.all kj=true:=by
    rw[List.all_eq_true];intro x p;obtain⟨j,d,rfl⟩:=List.mem_iff_getElem.1 p;exact P j d (by rw[ay.x] at d;omega)
   go_wp2
   go_loopw [4] (λi wq=>∃k:Nat,k <= J /\ i=.int .i64 (k:Int) /\ Below (w.heap.size+1) wr wq /\ (∀j (d:j<m.gone.length),j<k -> nK m m.gone[j]=true) /\ ∀j (d:j+1<m.gone.length),j+1<k -> plt m.gone[j].pl m.gone[j+1].pl) (λi _=>J-(intOf i).toNat)
   ·exact⟨0,by omega,rfl,H0,λj _ d=>by omega,λj _ d=>by omega⟩
   ·rename World=>wq
    obtain⟨k,hk,rfl,bG,al,aM⟩:=hrel;have P:=al;have ad:=bG;have ai:=aM;obtain⟨⟨X,Y,d2⟩,M⟩:=O _ ad
    by_cases ao:k<J
    ·have an:(k:Int)<(J:Int):=by omega
     have z:k<m.gone.length:=by rw[aI.x];exact ao
     obtain⟨b,ab,rfl,aJ,-,T⟩:=gh M.gone (by omega);obtain⟨e0,e1,e2⟩:=T k z;obtain⟨x,p⟩:=aH m.gone[k];rw[p] at e0 e1 e2;have o:=p;obtain⟨l,U⟩:=aP (wq.alloc (.cells #[.string ⟨x.key.toArray⟩,.int .i64 x.dev,.int .i64 x.seq] 130));have S:Below (w.heap.size+1) wr l:=by rw[U];exact ad.alloc (by have:=ad.size;have:=ak;omega) _
     have A:Blk l wq.heap.size [.string ⟨x.key.toArray⟩,.int .i64 x.dev,.int .i64 x.seq] 130:=by rw[U];exact Blk.new _ _ _
     have K:=A.cell 0;have L:=A.cell 1;have x2:=A.cell 2;simp at K L x2;obtain⟨⟨m0,m1,m2⟩,-⟩:=O _ S;have aR:∀c,aK l.drew c -> c.cell? _=_:=λc hh=>bh K hh
     have aS:∀c,aK l.drew c -> c.cell? _=_:=λc hh=>bh L hh
     have bp:∀c,aK l.drew c -> c.cell? _=_:=λc hh=>bh x2 hh
     have bo:∀c,aK l.drew c -> c.cell? _=_:=λc hh=>bh m0 hh
     have a7:∀c,aK l.drew c -> c.cell? _=_:=λc hh=>bh m1 hh
     have a8:∀c,aK l.drew c -> c.cell? _=_:=λc hh=>bh m2 hh
     have aN:x∈m.gone:=by rw[<- p];exact aC z
     have aX:=sr l.drew _ (.agg #[.slice a1 8 p1,.slice a2 I p2,.slice (some ⟨b,ab,none⟩) J p3]) m ⟨_,_,_,rfl,((O _ S).2.keep (w':=l.drew) λ_ _ _=>rfl)⟩ x.key x.dev x.seq (bA x aN) (a9 x aN).2.1 (a9 x aN).2.2;have⟨HC,a4,ar,bE,av⟩:=ae5 T U S (show wq.heap.size<l.heap.size from A.lt) aJ;clear T p U S A K L x2 m0 m1 m2 X Y M aN aJ;go_wp2_with fail;rw[<- a4.x];refine bP aK (up 7 [507,8,9,10,11,12,13,14,15,16,17,18,19,20,21,22,23,24,25,26,27,28,29,30,531,32,33,34]) (by kernel_rfl) ?_;apply aG;rfl;intro c f;go_simp;exact aF
     repeat (apply bK;rfl;rfl;go_simp;go_simp;rfl;apply aG;rfl;intro c f;go_simp;exact aF)
     refine aY rfl rfl (λKK R=>?_);go_simp;refine aX.mono ?_;rintro e n ⟨rfl,Z⟩;refine⟨_,rfl,Z,R _ _ ?_⟩;go_simp;have aa:Below (w.heap.size+1) wr n:=ar.x.drew.trans (Z.mono (by have:=ar.x.size;have:=ak;show _ <= l.heap.size;omega));have Q:=aa;have D:aK l.drew n:=Z;have br:∀c,aK n c -> c.cell? _=_:=λc hh=>aR c (bL _ _ _ D hh)
     have bs:∀c,aK n c -> c.cell? _=_:=λc hh=>aS c (bL _ _ _ D hh)
     have bq:∀c,aK n c -> c.cell? _=_:=λc hh=>a8 c (bL _ _ _ D hh)
     have a5:∀c,aK n c -> Below (w.heap.size+1) wr c:=λc hh=>aa.trans (RowKit.Below.mono hh (by have:=aa.size;have:=ak;omega))
     have aV:=a5;obtain⟨kn,aL⟩:=aH (dl m (x.key,x.dev) x.seq);rw[aL];have ax:dl m x.pl x.seq=kn:=aL;cases kn with
     |false=>
      apply aG;rfl;intro c f;go_simp;exact aF
      repeat (apply bK;rfl;rfl;go_simp;go_simp;rfl;apply aG;rfl;intro c f;go_simp;(repeat (simp(disch:=omega) only[af,if_pos];go_simp));exact aF)
      obtain rfl:N=false:=by
       rw[<- H];refine gn λs=>?_
       have r:=(ej m).1 s;have t:=r.gknown x (by rw[<- o];exact aC z);rw[ax] at t;cases t
      refine aW ?_;go_wp2
      go_ret
      exact⟨rfl,E _ Q⟩
     |true=>
      have bd:nK m x=true:=ax;rcases Nat.eq_zero_or_pos k with rfl|bH
      ·clear br bs bq;apply aG;rfl;intro c f;go_simp;exact aF
       repeat (apply bK;rfl;rfl;go_simp;go_simp;rfl;apply aG;rfl;intro c f;go_simp;(repeat (simp(disch:=omega) only[af,if_pos];go_simp));exact aF)
       refine aW ?_;go_wp2
       go_roundw
       ·exact⟨1,by omega,by go_num,Q,λj d B=>by
        obtain rfl:j=0:=by omega
        rw[o];exact bd,λj d B=>by omega⟩
       ·simp[intOf];omega
      ·obtain⟨q,rfl⟩:∃q,k=q+1:=⟨k-1,by omega⟩
       have a6:q<m.gone.length:=by omega
       obtain⟨f0,f1,f2⟩:=HC.x q a6;obtain⟨y,hy⟩:=aH m.gone[q];rw[hy] at f0 f1 f2;have Hy:=hy;have bl:∀{a:Addr}{u:Value},wq.cell? a=some u -> a.block<w.heap.size -> ∀c,aK n c -> c.cell? a=some u:=λh C c hh=>kV ad (aV c hh) (by omega) h
       have bU:∀c,aK n c -> c.cell? _=_:=bl f0 av.x
       have bV:∀c,aK n c -> c.cell? _=_:=bl f1 av.x
       have bS:IntKind.i64.wrap (((q+1:Nat):Int)-1)=(q:Int):=by rw[af _ (by omega)];omega
       have bR:IntKind.i64.wrap (q:Int)=(q:Int):=af _ (by omega);have bQ:(q:Int)<(J:Int):=by omega
       have bO:((q+1:Nat):Int)>0:=by omega
       have aU:=λW=>nW W y.key x.key y.dev x.dev
       apply aG;rfl;intro c f;go_simp;exact aF
       repeat (apply bK;rfl;rfl;go_simp;go_simp;rfl;apply aG;rfl;intro c f;go_simp;(repeat (simp(disch:=omega) only[af,if_pos];go_simp));exact aF)
       refine aY rfl rfl (λKK R=>?_);go_simp;refine(aU _).mono ?_;rintro e w5 ⟨rfl,rfl⟩;refine⟨_,rfl,aZ _,R _ _ ?_⟩;go_simp
       by_cases C:plt y.pl x.pl
       ·have hd:decide (plt (y.key,y.dev) (x.key,x.dev))=true:=decide_eq_true C;rw[hd];have a0:=C;apply aG;rfl;intro c f;go_simp;exact aF
        repeat (apply bK;rfl;rfl;go_simp;go_simp;rfl;apply aG;rfl;intro c f;go_simp;(repeat (simp(disch:=omega) only[af,if_pos];go_simp));exact aF)
        refine aW ?_;go_wp2
        go_roundw
        ·exact⟨q+1+1,by omega,by go_num,Q,λj d B=>by
         rcases Nat.lt_succ_iff_lt_or_eq.1 B with h|h
         ·exact P j d h
         ·subst h;rw[o];exact bd,λj d B=>by
         rcases Nat.lt_succ_iff_lt_or_eq.1 B with h|h
         ·exact ai j d h
         ·obtain rfl:j=q:=by omega
          rw[o,Hy];exact a0⟩
        ·simp[intOf];omega
       ·have hd:decide (plt (y.key,y.dev) (x.key,x.dev))=false:=decide_eq_false C;rw[hd]
        obtain rfl:N=false:=by
         rw[<- H];refine gn λs=>?_
         have r:=(ej m).1 s;have t:=iU RGo.pl r.gone q z;rw[o,Hy] at t;exact C t
        apply aG;rfl;intro c f;go_simp;exact aF
        repeat (apply bK;rfl;rfl;go_simp;go_simp;rfl;apply aG;rfl;intro c f;go_simp;(repeat (simp(disch:=omega) only[af,if_pos];go_simp));exact aF)
        refine aW ?_;go_wp2
        go_ret
        exact⟨rfl,E _ Q⟩
    ·have an:¬(k:Int)<(J:Int):=by omega
     have be:(∀g∈m.gone,nK m g=true) /\ Asc RGo.pl m.gone:=by
      refine⟨λx p=>?_,jZ _ _ λj d=>ai j d (by rw[aI.x] at d;omega)⟩;obtain⟨j,d,rfl⟩:=List.mem_iff_getElem.1 p;exact P j d (by rw[aI.x] at d;omega)
     clear M P ao hk ai;go_wp2;clear X Y d2 an
     go_loopw [6] (λi wu=>∃k:Nat,k <= I /\ i=.int .i64 (k:Int) /\ Below (w.heap.size+1) wr wu /\ (∀j (d:j<m.items.length),j<k -> lU m m.items[j]=true) /\ ∀j (d:j+1<m.items.length),j+1<k -> plt m.items[j].pl m.items[j+1].pl) (λi _=>I-(intOf i).toNat)
     ·exact⟨0,by omega,rfl,ad,λj _ d=>by omega,λj _ d=>by omega⟩
     ·rename World=>wu
      obtain⟨k,hk,rfl,bj,al,aM⟩:=hrel;have P:=al;have ag:=ae bj;have ai:=aM;clear al bj ad aM;obtain⟨⟨X,Y,d2⟩,M⟩:=O _ ag.x
      by_cases ao:k<I
      ·have an:(k:Int)<(I:Int):=by omega
       have z:k<m.items.length:=by rw[az.x];exact ao
       obtain⟨b,ab,rfl,aJ,-,T⟩:=fw M.items (by omega);obtain⟨e0,e1,e2,e3⟩:=T k z;obtain⟨x,p⟩:=aH m.items[k];rw[p] at e0 e1 e2 e3;have o:=p;obtain⟨l,U⟩:=aP (wu.alloc (.cells #[.string ⟨x.key.toArray⟩,.int .i64 x.dev,.int .i64 x.seq,.int .i64 x.val] 129));have S:Below (w.heap.size+1) wr l:=by rw[U];exact ag.x.alloc (by have:=ag.x.size;have:=ak;omega) _
       have A:Blk l wu.heap.size [.string ⟨x.key.toArray⟩,.int .i64 x.dev,.int .i64 x.seq,.int .i64 x.val] 129:=by rw[U];exact Blk.new _ _ _
       have aO:x∈m.items:=by rw[<- p];exact aC z
       have bx:=ae (show ∀c,aK l c -> Blk c wu.heap.size [.string ⟨x.key.toArray⟩,.int .i64 x.dev,.int .i64 x.seq,.int .i64 x.val] 129 from λc hh=>A.keep (hh.block _ A.lt));have K:=A.cell 0;have L:=A.cell 1;have x2:=A.cell 2;have x3:=A.cell 3;simp at K L x2 x3;obtain⟨⟨m0,m1,m2⟩,-⟩:=O _ S;have aR:∀c,aK l.drew c -> c.cell? _=_:=λc hh=>bh K hh
       have aS:∀c,aK l.drew c -> c.cell? _=_:=λc hh=>bh L hh
       have bp:∀c,aK l.drew c -> c.cell? _=_:=λc hh=>bh x2 hh
       have bT:∀c,aK l.drew c -> c.cell? _=_:=λc hh=>bh x3 hh
       have bo:∀c,aK l.drew c -> c.cell? _=_:=λc hh=>bh m0 hh
       have a7:∀c,aK l.drew c -> c.cell? _=_:=λc hh=>bh m1 hh
       have a8:∀c,aK l.drew c -> c.cell? _=_:=λc hh=>bh m2 hh
       have aX:=sr l.drew _ (.agg #[.slice a1 8 p1,.slice (some ⟨b,ab,none⟩) I p2,.slice a3 J p3]) m ⟨_,_,_,rfl,((O _ S).2.keep (w':=l.drew) λ_ _ _=>rfl)⟩ x.key x.dev x.seq (bB x aO) (ba x aO).2.1 (ba x aO).2.2.1;have⟨HC,a4,ar,bE,av⟩:=ae5 T U S (show wu.heap.size<l.heap.size from A.lt) aJ;clear T p U S A K L x2 x3 m0 m1 m2 X d2 M aO aJ;go_wp2_with fail;rw[<- a4.x];refine bP aK (up 7 [507,8,9,10,11,12,13,14,15,16,17,18,19,20,21,22,23,24,25,26,527,28,29]) (by kernel_rfl) ?_;apply aG;rfl;intro c f;go_simp;exact aF
       repeat (apply bK;rfl;rfl;go_simp;go_simp;rfl;apply aG;rfl;intro c f;go_simp;exact aF)
       refine aY rfl rfl (λKK R=>?_);go_simp;refine aX.mono ?_;rintro e n ⟨rfl,Z⟩;refine⟨_,rfl,Z,R _ _ ?_⟩;go_simp;have aa:Below (w.heap.size+1) wr n:=ar.x.drew.trans (Z.mono (by have:=ar.x.size;have:=ak;show _ <= l.heap.size;omega));have Q:=aa;have D:aK l.drew n:=Z;have br:∀c,aK n c -> c.cell? _=_:=λc hh=>aR c (bL _ _ _ D hh)
       have bs:∀c,aK n c -> c.cell? _=_:=λc hh=>aS c (bL _ _ _ D hh)
       have b2:∀c,aK n c -> c.cell? _=_:=λc hh=>bp c (bL _ _ _ D hh)
       have b3:∀c,aK n c -> c.cell? _=_:=λc hh=>bT c (bL _ _ _ D hh)
       have b0:∀c,aK n c -> c.cell? _=_:=λc hh=>bo c (bL _ _ _ D hh)
       have b1:∀c,aK n c -> c.cell? _=_:=λc hh=>a7 c (bL _ _ _ D hh)
       have bq:∀c,aK n c -> c.cell? _=_:=λc hh=>a8 c (bL _ _ _ D hh)
       have a5:∀c,aK n c -> Below (w.heap.size+1) wr c:=λc hh=>aa.trans (RowKit.Below.mono hh (by have:=aa.size;have:=ak;omega))
       have aV:=a5;have bw:∀c,aK n c -> Blk c wu.heap.size [.string ⟨x.key.toArray⟩,.int .i64 x.dev,.int .i64 x.seq,.int .i64 x.val] 129:=λc hh=>bx.x c (bL _ _ _ ((Below.refl _ _).drew) (bL _ _ _ D hh))
       obtain⟨kn,aL⟩:=aH (dl m (x.key,x.dev) x.seq);rw[aL];have ax:dl m x.pl x.seq=kn:=aL;cases kn with
       |false=>
        apply aG;rfl;intro c f;go_simp;exact aF
        repeat (apply bK;rfl;rfl;go_simp;go_simp;rfl;apply aG;rfl;intro c f;go_simp;(repeat (simp(disch:=omega) only[af,if_pos];go_simp));exact aF)
        obtain rfl:N=false:=by
         rw[<- H];refine gn λs=>?_
         have r:=(ej m).1 s;have t:=r.iknown x (by rw[<- o];exact aC z);rw[ax] at t;cases t
        refine aW ?_;go_wp2
        go_ret
        exact⟨rfl,E _ Q⟩
       |true=>
        by_cases v1:x.val<1
        ·have bt:decide (x.val<1)=true:=by simpa using v1
         obtain rfl:N=false:=by
          rw[<- H];refine gn λs=>?_
          have r:=(ej m).1 s;have t:=r.val x (by rw[<- o];exact aC z);omega
         apply aG;rfl;intro c f;go_simp;exact aF
         repeat (apply bK;rfl;rfl;go_simp;go_simp;rfl;apply aG;rfl;intro c f;go_simp;(repeat (simp(disch:=omega) only[af,if_pos];go_simp));exact aF)
         refine aW ?_;go_wp2
         go_ret
         exact⟨rfl,E _ Q⟩
        ·by_cases v2:x.val>16777216
         ·have bt:decide (x.val<1)=false:=by simpa using v1
          have bW:decide (x.val>16777216)=true:=by simpa using v2
          obtain rfl:N=false:=by
           rw[<- H];refine gn λs=>?_
           have r:=(ej m).1 s;have t:=r.val x (by rw[<- o];exact aC z);omega
          apply aG;rfl;intro c f;go_simp;exact aF
          repeat (apply bK;rfl;rfl;go_simp;go_simp;rfl;apply aG;rfl;intro c f;go_simp;(repeat (simp(disch:=omega) only[af,if_pos];go_simp));exact aF)
          refine aW ?_;go_wp2
          go_ret
          exact⟨rfl,E _ Q⟩
         ·have bt:decide (x.val<1)=false:=by simpa using v1
          have bW:decide (x.val>16777216)=false:=by simpa using v2
          have Hv:1 <= x.val /\ x.val <= 16777216:=by omega
          have bv:=su n _ (.agg #[.slice a1 8 p1,.slice (some ⟨b,ab,none⟩) I p2,.slice a3 J p3]) m ⟨_,_,_,rfl,(O _ Q).2⟩ x.key x.dev;apply aG;rfl;intro c f;go_simp;exact aF
          repeat (apply bK;rfl;rfl;go_simp;go_simp;rfl;apply aG;rfl;intro c f;go_simp;(repeat (simp(disch:=omega) only[af,if_pos];go_simp));exact aF)
          refine aY rfl rfl (λKK R=>?_);go_simp;refine bv.mono ?_;rintro e w7 ⟨rfl,bi⟩;refine⟨_,rfl,bi,R _ _ ?_⟩;go_simp;have bn:aK n w7:=bi;have V:=aV _ bn;have bb:=bw _ bn;obtain⟨bu,bk⟩:=aH (m.buried (x.key,x.dev));rw[bk];have bc:m.buried x.pl=bu:=bk
          by_cases v3:x.seq <= bu
          ·have bX:decide (x.seq <= bu)=true:=by simpa using v3
           obtain rfl:N=false:=by
            rw[<- H];refine gn λs=>?_
            have r:=(ej m).1 s;have t:=r.above x (by rw[<- o];exact aC z);rw[bc] at t;omega
           apply aG;rfl;intro c f;go_simp;exact aF
           repeat (apply bK;rfl;rfl;go_simp;go_simp;rfl;apply aG;rfl;intro c f;go_simp;exact aF)
           refine aW ?_;go_wp2
           go_ret
           exact⟨rfl,E _ V⟩
          ·have bX:decide (x.seq <= bu)=false:=by simpa using v3
           have bf:lU m x=true:=by
            unfold lU;rw[ax,bc];have:=Hv;simp;omega
           apply aG;rfl;intro c f;go_simp;exact aF
           repeat (apply bK;rfl;rfl;go_simp;go_simp;rfl;apply aG;rfl;intro c f;go_simp;exact aF)
           refine aW ?_;obtain⟨⟨X,Y,d2⟩,M⟩:=O _ V;have K:=bb.cell 0;have L:=bb.cell 1;simp at K L;rcases Nat.eq_zero_or_pos k with rfl|bH
           ·clear X Y d2 M K L;go_wp2_with fail;refine bP aK (up 21 [521,22,23]) (by kernel_rfl) ?_;apply aG;rfl;intro c f;go_simp;exact aF
            repeat (apply bK;rfl;rfl;go_simp;go_simp;rfl;apply aG;rfl;intro c f;go_simp;(repeat (simp(disch:=omega) only[af,if_pos];go_simp));exact aF)
            refine aW ?_;go_wp2
            go_roundw
            ·exact⟨1,by omega,by go_num,V.drew,λj d B=>by
             obtain rfl:j=0:=by omega
             rw[o];exact bf,λj d B=>by omega⟩
            ·simp[intOf];omega
           ·obtain⟨q,rfl⟩:∃q,k=q+1:=⟨k-1,by omega⟩
            have a6:q<m.items.length:=by omega
            obtain⟨f0,f1,f2,f3⟩:=HC.x q a6;obtain⟨y,hy⟩:=aH m.items[q];rw[hy] at f0 f1 f2 f3;have Hy:=hy;have g0:=kV ag.x V (a:=⟨b,ab+q*4,none⟩) (by show b<_;have:=av.x;omega) f0;have g1:=kV ag.x V (a:=⟨b,ab+q*4+1,none⟩) (by show b<_;have:=av.x;omega) f1;have aR:∀c,aK w7.drew c -> c.cell? _=_:=λc hh=>bh K hh
            have aS:∀c,aK w7.drew c -> c.cell? _=_:=λc hh=>bh L hh
            have a7:∀c,aK w7.drew c -> c.cell? _=_:=λc hh=>bh Y hh
            have bU:∀c,aK w7.drew c -> c.cell? _=_:=λc hh=>bh g0 hh
            have bV:∀c,aK w7.drew c -> c.cell? _=_:=λc hh=>bh g1 hh
            have bS:IntKind.i64.wrap (((q+1:Nat):Int)-1)=(q:Int):=by rw[af _ (by omega)];omega
            have bR:IntKind.i64.wrap (q:Int)=(q:Int):=af _ (by omega);have bQ:(q:Int)<(I:Int):=by omega
            have bO:((q+1:Nat):Int)>0:=by omega
            have aU:=λW=>nW W y.key x.key y.dev x.dev
            go_wp2_with fail;refine bP aK (up 21 [521,22,23]) (by kernel_rfl) ?_;apply aG;rfl;intro c f;go_simp;exact aF
            repeat (apply bK;rfl;rfl;go_simp;go_simp;rfl;apply aG;rfl;intro c f;go_simp;(repeat (simp(disch:=omega) only[af,if_pos];go_simp));exact aF)
            refine aY rfl rfl (λKK R=>?_);go_simp;refine(aU _).mono ?_;rintro e w8 ⟨rfl,rfl⟩;refine⟨_,rfl,aZ _,R _ _ ?_⟩;go_simp
            by_cases C:plt y.pl x.pl
            ·have hd:decide (plt (y.key,y.dev) (x.key,x.dev))=true:=decide_eq_true C;rw[hd];have a0:=C;apply aG;rfl;intro c f;go_simp;exact aF
             repeat (apply bK;rfl;rfl;go_simp;go_simp;rfl;apply aG;rfl;intro c f;go_simp;(repeat (simp(disch:=omega) only[af,if_pos];go_simp));exact aF)
             refine aW ?_;go_wp2
             go_roundw
             ·exact⟨q+1+1,by omega,by go_num,V.drew,λj d B=>by
              rcases Nat.lt_succ_iff_lt_or_eq.1 B with h|h
              ·exact P j d h
              ·subst h;rw[o];exact bf,λj d B=>by
              rcases Nat.lt_succ_iff_lt_or_eq.1 B with h|h
              ·exact ai j d h
              ·obtain rfl:j=q:=by omega
               rw[o,Hy];exact a0⟩
             ·simp[intOf];omega
            ·have hd:decide (plt (y.key,y.dev) (x.key,x.dev))=false:=decide_eq_false C;rw[hd]
             obtain rfl:N=false:=by
              rw[<- H];refine gn λs=>?_
              have r:=(ej m).1 s;have t:=iU RIt.pl r.items q z;rw[o,Hy] at t;exact C t
             apply aG;rfl;intro c f;go_simp;exact aF
             repeat (apply bK;rfl;rfl;go_simp;go_simp;rfl;apply aG;rfl;intro c f;go_simp;(repeat (simp(disch:=omega) only[af,if_pos];go_simp));exact aF)
             refine aW ?_;go_wp2
             go_ret
             exact⟨rfl,(E _ V).drew⟩
      ·have an:¬(k:Int)<(I:Int):=by omega
       obtain rfl:N=true:=by
        rw[<- H];unfold gH;simp only[Bool.and_eq_true,decide_eq_true_eq];refine⟨⟨⟨⟨⟨ay.x,bD⟩,jZ _ _ λj d=>ai j d (by rw[az.x] at d;omega)⟩,be.2⟩,?_⟩,?_⟩
        ·rw[List.all_eq_true];exact be.1
        ·rw[List.all_eq_true];intro x p;obtain⟨j,d,rfl⟩:=List.mem_iff_getElem.1 p;exact P j d (by rw[az.x] at d;omega)
       go_wp2
       go_ret
       exact⟨rfl,E _ ag.x⟩
theorem ia(h:di F w v m)(ad:∀x∈m.items,x.key.length <= 1000000000)(ab:∀x∈m.gone,x.key.length <= 1000000000):
 Calls aE 176 #[v] w λe S=>e=.returned (.bool (aV m)) /\ Kpt w S:=by
 replace h:=h.mono (G:=λb=>b<w.heap.size) λb _ s=>s
 obtain⟨a,M⟩:=aH (aV m);rw[M];have j:=M;have V:=ad;have U:=ab
 replace h:=jF h 75
 obtain⟨D,P,E,Q,H,R,O,f,g,wx,rfl,h,l1,l2,l3,W,c,d,n,i,ag,C,B,c0,c1,c2⟩:=h
 try rw[W.x]
 try rw[c.x]
 try rw[d.x]
 by_cases K:f <= 4096
 case neg=>
  have hI:(f:Int)>4096:=by omega
  obtain rfl:a=false:=by
   rw[<- j];cases t:aV m with
   |false=>rfl
   |true=>exact absurd (by rw[<- c.x];exact(cX t).2.1) K
  go_enter func176,ntmps176
  go_wp2;rw[<- n.x]
  go_ret
  exact⟨rfl,i.x⟩
 have ai:¬(f:Int)>4096:=by omega
 by_cases L:g <= 4096
 case neg=>
  have hI:(g:Int)>4096:=by omega
  obtain rfl:a=false:=by
   rw[<- j];cases t:aV m with
   |false=>rfl
   |true=>exact absurd (by rw[<- d.x];exact(cX t).2.2.1) L
  go_enter func176,ntmps176
  go_wp2;rw[<- n.x]
  go_ret
  exact⟨rfl,i.x⟩
 have ak:¬(g:Int)>4096:=by omega
 have y:=zI wx _ (.agg #[.slice D O P,.slice E f Q,.slice H g R]) m ⟨_,_,_,rfl,C.x⟩ (by rw[c.x];omega) (by rw[d.x];omega) V U;obtain⟨fm,J⟩:=aH (gH m);rw[J] at y;have l:=J
 go_enter func176,ntmps176
 go_wp2_with fail;rw[<- n.x];refine y.mono ?_;rintro e T ⟨rfl,q⟩;have p:=B.x.keep (q.block _ B.x.lt);have Y:=p.cell 0;have Z:=p.cell 1;have e2:=p.cell 2;simp at Y Z e2;have k:=i.x.trans (q.mono i.x.size);have X:=C.x.keep (w':=T) λb _ s=>q.block b s
 cases fm with
 |false=>
  obtain rfl:a=false:=by rw[<- j];unfold aV;rw[l];rfl
  go_wp2
  go_ret
  exact⟨rfl,k⟩
 |true=>
  have u:=l5 T _ (.agg #[.slice D O P,.slice E f Q,.slice H g R]) m ⟨_,_,_,rfl,X⟩ (fG ((ej m).1 l) (by rw[c.x];omega) (by rw[d.x];omega));go_wp2_with fail;refine u.mono ?_;rintro e w4 ⟨⟨r,rfl,hr⟩,I⟩;obtain⟨N,o⟩:=aH ((cQ m).length);obtain⟨ar,cr,rfl,-⟩:=hr;rw[o];have z:=k.trans (I.mono k.size)
  have A:=ae (show a=decide (N <= 60000) by
   rw[<- j];unfold aV;rw[l,c.x,d.x,o]
   simp[K,L])
  clear o u I
  by_cases aa:(N:Int) <= 60000
  ·obtain rfl:a=true:=by rw[A.x];simp;omega
   go_wp2
   go_ret
   exact⟨iX (by simp),z⟩
  ·obtain rfl:a=false:=by rw[A.x];simp;omega
   go_wp2
   go_ret
   exact⟨iX (by simpa using aa),z⟩
end
section
open Go.Lib
attribute [local go_sem ↓] aU
attribute [local go_sem] opC upC
theorem qy(h:di F w v m)(N:∀x∈m.items,x.key.length <= 1000000000)(M:∀x∈m.gone,x.key.length <= 1000000000):
 Calls aE 119 #[v] w (AU w (encR m)):=by
 replace h:=h.mono (G:=λb=>b<w.heap.size) λb _ g=>g
 replace h:=jF h 75
 obtain⟨n,y,o,z,p,A,s,t,u,Q,rfl,h,Y,Z,l3,E,H,I,J,j,R,l,k,S,T,U⟩:=h
 try rw[E.x]
 try rw[H.x]
 try rw[I.x]
 have i:=ia Q _ (.agg #[.slice n s y,.slice o t z,.slice p u A]) m ⟨_,_,_,rfl,l.x⟩ N M;obtain⟨P,q⟩:=aH (aV m);rw[q] at i;have d:=q
 go_enter func119,ntmps119
 go_wp2_with fail;rw[<- J.x];refine i.mono ?_;rintro e B ⟨rfl,f⟩;have c:=j.x.trans (f.mono j.x.size);obtain⟨V,W,X⟩:=aS (k.x.keep (f.block _ k.x.lt));have K:=l.x.keep (w':=B) λb _ g=>f.block b g
 cases P with
 |false=>
  have a:encR m=([],5):=by unfold encR;rw[d];rfl
  go_wp2;exact bodyPost_ret (v:=.tuple #[.slice none 0 0,.int .i64 5]) (by simp[results,results119,go_sem]) rfl ⟨⟨_,by rw[a],by rw[a];exact uu _ _⟩,c⟩
 |true=>
  have a:encR m=(cQ m,0):=by unfold encR;rw[d];rfl
  have C:=l5 B _ (.agg #[.slice n s y,.slice o t z,.slice p u A]) m ⟨_,_,_,rfl,K⟩ (nz d);go_wp2_with fail;refine C.mono ?_;rintro e w4 ⟨⟨r,rfl,O⟩,L⟩;have D:=c.trans (L.mono c.size);go_wp2;exact bodyPost_ret (v:=.tuple #[r,.int .i64 0]) (by simp[results,results119,go_sem]) rfl ⟨⟨_,by rw[a],by rw[a];exact O⟩,D⟩
end
section
open Go.Lib
def Gc(m:aT):Prop:=(∀x∈m.items,x.key.length <= 1000000) /\ ∀x∈m.gone,x.key.length <= 1000000
theorem cO(h:aV r=true):Gc r:=by
 obtain⟨-,b,c⟩:=rG h;exact⟨λx a=>by have:=(b x a).1;omega,λx a=>by have:=(c x a).1;omega⟩
/-! maps of the program in variables -/
end
section
attribute [local go_sem ↓] aU eF eG eR eh eH
theorem zJ(K:DK)(M:MD)(h:bM w K M)(t:List UInt8)(f:M.fault=some (0,t))(i:Nat)(T:i<M.S.length)(R:M.down=false)(F:aQ)(v:Value)(l:List UInt8)(Z:aO F w v l)(U:l.length=64):
 Calls aE 33 #[.pointer (some ⟨K.d,0,none⟩),.int .i64 (i:Int),v] w λe k=>e=.returned (.int .i64 341) /\
  bM k { K with bf:=K.d } { M with S:=M.S.set i t,fault:=none,down:=true } /\ aM K.foot w k /\ k.heap.size=w.heap.size:=by
 have r:M.chk (i:Int)=0:=by unfold MD.chk;rw[R,if_neg (by simp),if_pos (by omega)]
 have z:=ae r;clear r;obtain⟨a,ab,rfl,ai,hm,hz,hx⟩:=Z;clear hx hz;have I:=h;have ao:=h.ne2 (by rw[f];simp);obtain⟨J,N,⟨H,O,Q,b⟩,⟨L,m,p⟩,q,j⟩:=h;obtain⟨u,hk,j⟩:=j 0 t f;rw[f] at b;have n:=b.ne m (by decide);have al:=b.lt;have C:=b.cell 0;have E:=b.cell 2;have k0:=j.cell 0;simp at C E k0;have ar:=p.1;have W:=CJ (P:=aE) (w:=w.drew) underlying99 rfl iL (off:=1) j (by simp;omega);rw[List.drop_one,List.tail_cons,List.take_of_length_le (by simp;omega)] at W;have Y:=zd (P:=aE) (w:=w.drew) iL (off:=i*64) m (V:=t.map B) (by simpa using u) (by omega) (jw t);have⟨H6,aa⟩:=ae2 q f;clear q f;have y:=ae (p.put i T t u);obtain⟨x,g⟩:=aP (w.drew.setRow K.bs (L.take (i*64)++t.map B++L.drop (i*64+64)).toArray);rw[<- g] at Y;have c:=b.drew.row_other (L.take (i*64)++t.map B++L.drop (i*64+64)).toArray n;have o:=m.drew.row (L.take (i*64)++t.map B++L.drop (i*64+64));rw[<- g] at c o;have X:aM K.foot w x:=by rw[g];exact(aM.refl _ _).drew.setRow (.inl (.inr (.inl rfl))) _
 have s:x.heap.size=w.heap.size:=by rw[g];simp
 have G:=c.cell 2;have ag:=c.free 2;have D:=c.cell 1;have ad:=c.free 1;simp at D G;have A:=ae s;clear s;clear g;generalize ak:l.length=ln at *;obtain rfl:ln=64:=U;have an:(i:Int)<(M.S.length:Int):=by omega
 go_enter func33,ntmps33
 go_wp2_with fail;refine(i5 w K M i I).mono ?_;rintro e k ⟨rfl,rfl⟩;rw[z.x];go_wp2_with fail
 go_still_tail 13,(by kernel_rfl)
 change wpList _ _ _ _ _ w.drew;go_wp2
 go_ret
 refine⟨rfl,⟨by simpa using J,by simpa using N,⟨H,by simpa using O,Q,?_⟩,⟨_,(o.set_other _ n.symm).set_other _ n.symm,y.x⟩,λ_=>rfl,nofun⟩,(X.setCell (.inl (.inl rfl)) _).setCell (.inl (.inl rfl)) _,?_⟩
 ·simpa using(c.set 2 (.pointer none)).set 1 (.bool true)
 ·simp[World.setCell];exact A.x
theorem zK(K:DK)(M:MD)(h:bM w K M)(n:Nat)(t:List UInt8)(g:M.fault=some (n+1,t))(i:Nat)(hi:i<M.S.length)(ao:M.down=false)(hw:M.writes<4611686018427387904)(F:aQ)(v:Value)(l:List UInt8)(O:aO F w v l)(o:l.length=64)
 (hF:∀b,F b -> ¬K.foot b):
 Calls aE 33 #[.pointer (some ⟨K.d,0,none⟩),.int .i64 (i:Int),v] w λe p=>e=.returned (.int .i64 0) /\
  bM p K { M with S:=M.S.set i l,fault:=some (n,t),writes:=M.writes+1 } /\ aM K.foot w p /\ p.heap.size=w.heap.size:=by
 have C:M.chk (i:Int)=0:=by unfold MD.chk;rw[ao,if_neg (by simp),if_pos (by omega)]
 have X:=ae C;clear C;have ay:=O;obtain⟨a,ad,rfl,aI,hm,hz,hx⟩:=O;obtain⟨b,R,rfl,ak,D⟩:=ay.load o;have aG:=λW:World=>l7 W (some ⟨b,R,none⟩) 64 ad (aq _)
 clear hx hz;have h0:=h;have G:=h.ne2 (by rw[g];simp);have H:=h.ne.2;obtain⟨h1,h2,⟨ag,al,an,c⟩,⟨L,s,y⟩,z,f⟩:=h;obtain⟨ht,hk,f⟩:=f (n+1) t g;rw[g] at c;have E:=c.ne s (by decide);have aL:=c.lt;have c0:=c.cell 0;have c2:=c.cell 2;have c3:=c.cell 3;have k0:=f.cell 0;have aS:=f.free 0;simp at c0 c2 c3 k0
 have aR:=y.1
  -- behind the fault's count
 have r:=c.set_other (a:=⟨K.bf,0,none⟩) (.int .i64 (n:Int)) G;have u:=s.set_other (a:=⟨K.bf,0,none⟩) (.int .i64 (n:Int)) H;have ai:=f.set 0 (.int .i64 (n:Int));have ar:aM K.foot w (w.setCell ⟨K.bf,0,none⟩ (.int .i64 (n:Int))):=(aM.refl _ _).setCell (.inl (.inr (.inr rfl))) _
 have aK:=D ((w.setCell ⟨K.bf,0,none⟩ (.int .i64 (n:Int))).drew) (by
  have hb:=hF b ak
  exact Below.heap_setCell w ⟨K.bf,0,none⟩ _ b (λe=>hb (.inr (.inr e))))
 clear D;have I:(w.setCell ⟨K.bf,0,none⟩ (.int .i64 (n:Int))).heap.size=w.heap.size:=by simp[World.setCell]
 generalize Q:w.setCell ⟨K.bf,0,none⟩ (.int .i64 (n:Int))=q at *;have Z:=ae Q;clear Q;have aa:=r.cell 0;simp at aa;have ax:=zd (P:=aE) (w:=q.drew) iL (off:=i*64) u (V:=l.map B) (by simpa using o) (by omega) (jw l);have⟨H6,az⟩:=ae2 z g;clear z g;have U:=ae (y.put i hi l o);obtain⟨T,j⟩:=aP (q.drew.setRow K.bs (L.take (i*64)++l.map B++L.drop (i*64+64)).toArray);rw[<- j] at ax;have m:=r.drew.row_other (L.take (i*64)++l.map B++L.drop (i*64+64)).toArray E;have x:=u.drew.row (L.take (i*64)++l.map B++L.drop (i*64+64));have A:=ai.drew.row_other (L.take (i*64)++l.map B++L.drop (i*64+64)).toArray H.symm;rw[<- j] at m x A;have av:aM K.foot w T:=by rw[j];exact ar.drew.setRow (.inl (.inr (.inl rfl))) _
 have J:T.heap.size=w.heap.size:=by rw[j];simpa using I
 have ab:=m.cell 3;have aF:=m.free 3;simp at ab;have Y:=ae J;clear I J;clear j;generalize aJ:l.length=ln at *;obtain rfl:ln=64:=o;have aN:(i:Int)<(M.S.length:Int):=by omega
 have aH:((n:Int)+1 == 0)=false:=beq_eq_false_iff_ne.2 (by omega)
 go_enter func33,ntmps33
 go_wp2_with fail;refine(i5 w K M i h0).mono ?_;rintro e p ⟨rfl,rfl⟩;rw[X.x];go_wp2_with fail;rw[Z.x]
 go_still_tail 9,(by kernel_rfl)
 change wpList _ _ _ _ _ q.drew;go_wp2
 go_ret
 refine⟨rfl,⟨by simpa using h1,by simpa using h2,⟨ag,by simpa using al,an,?_⟩,⟨_,x.set_other _ E.symm,U.x⟩,nofun,λk t' N=>?_⟩,av.setCell (.inl (.inl rfl)) _,?_⟩
 ·simpa using m.set 3 (.int .i64 ((M.writes:Int)+1))
 ·simp at N;obtain⟨rfl,rfl⟩:=N;exact⟨ht,by omega,by simpa using A.set_other _ G.symm⟩
 ·simp[World.setCell];exact Y.x
theorem Di(K:DK)(M:MD)(h:bM w K M)(i:Nat)(r:i<M.S.length)(q:M.down=false)(x:M.writes<4611686018427387904)(F:aQ)(v:Value)(l:List UInt8)(u:aO F w v l)(s:l.length=64)
 (hF:∀b,F b -> ¬K.foot b):
 Calls aE 33 #[.pointer (some ⟨K.d,0,none⟩),.int .i64 (i:Int),v] w λe c=>e=.returned (.int .i64 (M.write i l).2) /\
  (∃m,m.d=K.d /\ (∀b,m.foot b -> K.foot b) /\ bM c m (M.write i l).1) /\ aM K.foot w c /\ c.heap.size=w.heap.size:=by
 cases a:M.fault with
 |none=>
  refine(zn w K M h a i r q x F v l u s).mono ?_;rintro e c ⟨rfl,g,j,k⟩;have f:M.write i l=({ M with S:=M.S.set i l,writes:=M.writes+1 },0):=by simp[MD.write,a]
  rw[f];exact⟨rfl,⟨K,rfl,λ_ o=>o,g⟩,j,k⟩
 |some p=>
  obtain⟨n,t⟩:=p;cases n with
  |zero=>
   refine(zJ w K M h t a i r q F v l u s).mono ?_;rintro e c ⟨rfl,g,j,k⟩;have f:M.write i l=({ M with S:=M.S.set i t,fault:=none,down:=true },341):=by simp[MD.write,a]
   rw[f];refine⟨rfl,⟨{ K with bf:=K.d },rfl,?_,g⟩,j,k⟩;rintro b (rfl|rfl|rfl)
   ·exact .inl rfl
   ·exact .inr (.inl rfl)
   ·exact .inl rfl
  |succ n=>
   refine(zK w K M h n t a i r q x F v l u s hF).mono ?_;rintro e c ⟨rfl,g,j,k⟩;have f:M.write i l=({ M with S:=M.S.set i l,fault:=some (n,t),writes:=M.writes+1 },0):=by simp[MD.write,a]
   rw[f];exact⟨rfl,⟨K,rfl,λ_ o=>o,g⟩,j,k⟩
end
section
attribute [local go_sem ↓] aU eF eG eR eh eH
theorem o4(l c:Value):Instr.makeSlice 85 l c=MK 85 l c:=rfl
attribute [local go_sem ↓] o4
theorem zL:(aE.info? 99).map (λi=>(i.zero,i.size,i.bytes))=some (some (.agg (Array.replicate 64 (.int .u8 0))),64,64):=by kernel_rfl
theorem jm(k n:Nat)(a:0<k):madeCells (Array.replicate k v) n=Array.replicate n v:=by
 apply Array.ext
 ·simp[madeCells]
 ·intro i b c;simp only[madeCells,Array.getElem_map,Array.getElem_range,Array.size_replicate,Array.getElem_replicate];rw[getElem!_pos (Array.replicate k v) (i%k) (by simpa using Nat.mod_lt i a)];simp
def MD.fresh(n:Nat):MD:={ S:=List.replicate n (List.replicate 64 0),down:=false,fault:=none,writes:=0 }
theorem tE(h:n*64 <= k):jr (List.replicate k (.int .u8 0)) (List.replicate n (List.replicate 64 0)):=by
 refine⟨by simpa using h,λi hi=>?_,λs a=>?_⟩
 ·simp only[List.length_replicate] at hi;simp only[List.drop_replicate,List.take_replicate,List.getElem_replicate,List.map_replicate];rw[show min 64 (k-i*64)=64 from by omega];rfl
 ·rw[List.eq_of_mem_replicate a];simp
theorem Dj(m:0<n)(o:n <= 65536):
 Calls aE 11 #[.int .i64 (n:Int)] w λe l=>∃K:DK,e=.returned (.tuple #[.pointer (some ⟨K.d,0,none⟩),.int .i64 0]) /\ bM l K (MD.fresh n) /\ Kpt w l /\ (∀b,K.foot b -> w.heap.size <= b):=by
 obtain⟨z,hi,v,x,y⟩:=info_parts zL;obtain⟨a,u,t,r⟩:=run_make_full (P:=aE) w w.heap.size 85 99 z _ 64 underlying85 hi v x .i64 .i64 n (by rw[y];omega) (by unfold maxLen;omega) (aq _);have F:(MK 85 (.int .i64 (n:Int)) (.int .i64 (n:Int))).run aE w=.ok (.slice (some ⟨w.heap.size,0,none⟩) n n) a:=u;obtain⟨g,A,f,k,B,q,C,D,E,i⟩:=t.2.resolve_left (by rintro⟨h,_⟩;cases h);simp at k;obtain⟨rfl,rfl⟩:=k;have c:Blk a w.heap.size f.toList 99:=by unfold Blk;simpa using q
 have p:f.toList=List.replicate (n*64) (.int .u8 0):=by
  rw[List.take_of_length_le (by simp;omega)] at i;rw[i];simp only[Value.cells];rw[jm _ _ _ (by decide)];simp
 rw[p] at c;have j:=c.lt;have s:Kpt w a:=(Below.refl _ _).grown r (aq _) (by simp)
 go_enter func11,ntmps11
 go_wp2;go_ret2;refine⟨⟨a.heap.size,w.heap.size,a.heap.size⟩,rfl,⟨by simpa[MD.fresh] using m,by simpa[MD.fresh] using o,⟨n,by simp[MD.fresh],by unfold maxLen;omega,?_⟩,⟨_,c.alloc _,?_⟩,λ_=>rfl,nofun⟩,s.alloc (by omega) _,?_⟩
 ·simpa[MD.fresh] using Blk.new a #[.slice (some ⟨w.heap.size,0,none⟩) n n,.bool false,.pointer none,.int .i64 0] 88
 ·exact tE n (n*64) (aq _)
 ·rintro b (rfl|rfl|rfl)
  ·exact Nat.le_of_lt j
  ·exact aq _
  ·exact Nat.le_of_lt j
theorem EK(n:Int)(h:n<1 \/ 65536<n):
 Calls aE 11 #[.int .i64 n] w λe a=>e=.returned (.tuple #[.pointer none,.int .i64 6]) /\ w=a:=by
 by_cases b:n<1
 ·go_enter func11,ntmps11
  go_wp2;go_ret2;exact⟨rfl,rfl⟩
 ·have c:65536<n:=by omega
  go_enter func11,ntmps11
  go_wp2;go_ret2;exact⟨rfl,rfl⟩
end
section
attribute [local go_sem ↓] aU eF eG eR eh eH
def AL(t:TypeId)(h:Bool)(a:Value):Sem Value:=Instr.alloc t h a
theorem k9(h:Bool)(a:Value):Instr.alloc 101 h a=AL 101 h a:=rfl
attribute [local go_sem ↓] k9
theorem jr.cut{L M:List Value}{S:List (List UInt8)}(h:jr L S)(b:S.length*64 <= M.length)(c:M.take (S.length*64)=L.take (S.length*64)):jr M S:=by
 refine⟨b,λi hi=>?_,h.2.2⟩;rw[<- h.2.1 i hi];apply List.ext_getElem?;intro k;simp only[List.getElem?_take,List.getElem?_drop]
 by_cases a:k<64
 ·rw[if_pos a,if_pos a];have:(M.take (S.length*64))[i*64+k]?=(L.take (S.length*64))[i*64+k]?:=by rw[c]
  rw[List.getElem?_take,List.getElem?_take,if_pos (by omega),if_pos (by omega)] at this;exact this
 ·rw[if_neg a,if_neg a]
end
section
theorem ep(l c:Value):Instr.makeSlice 41 l c=MK 41 l c:=rfl
attribute [local go_sem ↓] aU ep
theorem jL(h:n <= 140737488355328):
 ∃a,(MK 41 (.int .i64 (n:Int)) (.int .i64 (n:Int))).run aE w=.ok (.slice (some ⟨w.heap.size,0,none⟩) n n) a /\ Blk a w.heap.size (List.replicate n (B 0)) 5 /\ Kpt w a:=by
 obtain⟨p,hi,l,m,o⟩:=info_parts ku;obtain⟨q,k,j,i⟩:=run_make_full (P:=aE) w w.heap.size 41 5 p _ 1 underlying41 hi l m .i64 .i64 n (by rw[o];omega) (by unfold maxLen;omega) (aq _);refine⟨q,k,?_,(Below.refl _ _).grown i (aq _) (by simp)⟩;obtain⟨g,r,d,c,s,f,t,u,v,b⟩:=j.2.resolve_left (by rintro⟨h,_⟩;cases h);simp at c;obtain⟨rfl,rfl⟩:=c
 have e:d.toList=List.replicate n (B 0):=by
  rw[List.take_of_length_le (by simp;omega)] at b;rw[b];have:(Value.int .u8 0).cells=Array.replicate 1 (.int .u8 0):=rfl;rw[this,jm _ _ _ (by decide)];simp only[Array.toList_replicate,Nat.mul_one];rfl
 unfold Blk;rw[<- e];simpa using f
theorem jt{w:World}{g:Nat}(h:Blk w g (l.map B) t)(a:l.length <= maxLen)(F:aQ)(hF:F g):aO F w (.slice (some ⟨g,0,none⟩) l.length l.length) l:=
 ⟨_,_,rfl,aq _,a,nofun,.inr ⟨g,0,_,t,(0,0),rfl,hF,h,by simp,λi hi=>by simp[List.getElem?_eq_getElem hi]⟩⟩
theorem lN{c:UInt8}(h:Blk W i (List.replicate 64 (B c)) t)(F:aQ)(hF:F i):aO F W (.slice (some ⟨i,0,none⟩) 64 64) (List.replicate 64 c):=by
 have:=jt (l:=List.replicate 64 c) (t:=t) (w:=W) (g:=i) (by simpa using h) (by simp[maxLen]) F hF;simpa using this
end
theorem bM.kept{K:DK}(h:bM W K N)(a:Kpt W w'):bM w' K N:=
 h.keep λb c=>a.block b (h.lt b c)
theorem Dk(K:DK)(M:MD)(h:bM w K M)(n:Int)(f:0 <= n)(o:n <= 9223372036854775807)(F:aQ)(v:Value)(l:List UInt8)(k:aO F w v l)(i:l.length=64):
 Calls aE 15 #[.pointer (some ⟨K.d,0,none⟩),.int .i64 n,v] w λe c=>e=.returned (.int .i64 0) /\
  (∃a,a.d=K.d /\ (∀b,a.foot b -> K.foot b \/ w.heap.size <= b) /\ bM c a { M with fault:=some (n.toNat,l) }) /\ aM K.foot w c:=by
 obtain⟨m,rfl⟩:=Int.eq_ofNat_of_zero_le f;refine(Eu w K M h m (by omega) F v l k i).mono ?_;rintro e c ⟨rfl,g,j⟩;refine⟨rfl,⟨⟨K.d,K.bs,w.heap.size⟩,rfl,?_,g⟩,j⟩;rintro b (rfl|rfl|rfl)
 ·exact .inl (.inl rfl)
 ·exact .inl (.inr (.inl rfl))
 ·exact .inr (aq _)
theorem nB(h:W.ownsRow i t 1 u l.length (l.map B))(o:0<l.length):
 ∃g a,u=.slice (some ⟨g,0,none⟩) l.length a /\ i <= g /\ l.length <= a /\ ∃L,Blk W g L t /\ L.take l.length=l.map B /\ L.length=a:=by
 obtain⟨n,b⟩:=h;rcases b with⟨_,b⟩|⟨g,a,c,rfl,d,j,f,p,k,m⟩
 ·omega
 ·exact⟨g,a,rfl,d,f,c.toList,by unfold Blk;simpa using j,by simpa using m,by simpa using k⟩
theorem lG(h:aO G W u l):(convert 41 9 u).run aE W=.ok (.string ⟨l.toArray⟩) W:=by
 obtain⟨a,c,rfl,q,r,s,g⟩:=h;cases a with
 |none=>
  have n:l = []:=by
   rcases g with h|⟨b,i,L,t,d,h,_⟩
   ·exact h
   ·cases h
  subst n;rw[run_convert_bytes_string W 41 9 5 none _ c underlying41 underlying5 underlying9];rfl
 |some k=>
  refine run_convert_bytes_back W 41 9 5 k c l underlying41 underlying5 underlying9 (λj f=>?_);rcases g with rfl|⟨b,i,L,t,d,e,hF,m,p,o⟩
  ·simp at f
  ·simp at e;subst e;rw[Addr.add_lit,cell_of_row W b (i+j) L t d m];exact o j f
/-! the same with the disk's address by itself -/
def iz:List Value:=i6.map λq=>.int .u32 (q.toNat:Int)
def cU(w:World):Prop:=∃t a,w.heap[0]?=some (.cells iz.toArray t a)
theorem cU.keep{w w':World}(h:cU w)(b:w'.heap[0]?=w.heap[0]?):cU w':=by
 obtain⟨t,a,h⟩:=h;exact⟨t,a,b.trans h⟩
theorem cU.cell{w:World}(h:cU w)(i:Nat)(b:i<16):w.cell? ⟨0,i,none⟩=some (.int .u32 ((i6.getD i 0#32).toNat:Int)):=by
 obtain⟨t,a,h⟩:=h;rw[cell_of_row w 0 i _ t a h];have:iz.length=16:=rfl;simp only[List.getElem?_toArray,iz,List.getElem?_map];rw[List.getD_eq_getElem?_getD,List.getElem?_eq_getElem (show i<i6.length from b)];rfl
theorem jM(a b:BitVec 32):Go.bits .xor .u32 (a.toNat:Int) (b.toNat:Int)=((a ^^^ b).toNat:Int):=by
 have h:=(a ^^^ b).isLt;have e:∀x:BitVec 32,BitVec.ofInt 32 (x.toNat:Int)=x:=λx=>by simp
 show IntKind.u32.wrap ((BitVec.ofInt 32 (a.toNat:Int) ^^^ BitVec.ofInt 32 (b.toNat:Int)).toNat:Int)=_;rw[e a,e b];show((a ^^^ b).toNat:Int)%4294967296=_;omega
theorem zM(a b:BitVec 32):Go.bits .and .u32 (a.toNat:Int) (b.toNat:Int)=((a &&& b).toNat:Int):=by
 have h:=(a &&& b).isLt;have e:∀x:BitVec 32,BitVec.ofInt 32 (x.toNat:Int)=x:=λx=>by simp
 show IntKind.u32.wrap ((BitVec.ofInt 32 (a.toNat:Int) &&& BitVec.ofInt 32 (b.toNat:Int)).toNat:Int)=_;rw[e a,e b];show((a &&& b).toNat:Int)%4294967296=_;omega
theorem x5(r:BitVec 32)(c:UInt8):Go.bits .xor .u32 (r.toNat:Int) ((c.toNat:Int)%4294967296)=((r ^^^ BitVec.ofNat 32 c.toNat).toNat:Int):=by
 have a:=c.toNat_lt;rw[<- jM]
 congr 1
theorem ya(x:BitVec 32):∃i:Nat,i<16 /\ Go.bits .and .u32 (x.toNat:Int) 15=(i:Int) /\ Go.bits .xor .u32 ((x.toNat:Int)/16) ((i6.getD i 0#32).toNat:Int)=((nib x).toNat:Int):=by
 refine⟨(x &&& 15#32).toNat,?_,?_,?_⟩
 ·have:(x &&& 15#32).toNat <= 15:=by rw[BitVec.toNat_and];exact Nat.and_le_right
  omega
 ·exact zM x 15#32
 ·have e:((x.toNat:Int)/(16:Int))=((x >>> 4).toNat:Int):=by
   rw[BitVec.toNat_ushiftRight,Nat.shiftRight_eq_div_pow];omega
  rw[e,jM];rfl
theorem yb(x:BitVec 32):Go.bits .xor .u32 IntKind.u32.max (x.toNat:Int)=((~~~ x).toNat:Int):=by
 have:IntKind.u32.max=((~~~ (0#32)).toNat:Int):=by decide
 rw[this,jM]
 congr 2
theorem uy(r:BitVec 32)(l:List UInt8)(k:Nat)(h:k<l.length):qV r (l.take (k+1))=Ev (qV r (l.take k)) l[k]:=by
 unfold qV;rw[List.take_succ_eq_append_getElem h,List.foldl_append];rfl
theorem zN(h':cU w)(F:aQ)(v:Value)(l:List UInt8)(I:aO F w v l)(s:BitVec 32):
 Calls aE 198 #[.int .u32 (s.toNat:Int),v] w λe M=>e=.returned (.int .u32 ((~~~ (qV (~~~ s) l)).toNat:Int)) /\ w=M:=by
 obtain⟨a,p,rfl,T,G,hz,J⟩:=I;have Y:p <= 9223372036854775807:=by unfold maxLen at G;omega
 have n:=yb s;obtain⟨d,m⟩:=aP (~~~ s:BitVec 32);rw[<- m] at n⊢;clear m
 go_enter func198,ntmps198
 go_wp2;clear n
 go_loop [5,12] (λr i=>∃k:Nat,k <= l.length /\ i=.int .i64 (k:Int) /\ r=.int .u32 ((qV d (l.take k)).toNat:Int)) (λ_ i=>l.length-(intOf i).toNat)
 ·exact⟨0,by omega,rfl,rfl⟩
 ·obtain⟨k,W,rfl,rfl⟩:=hrel
  by_cases f:k<l.length
  ·obtain⟨b,K,L,t,A,rfl,hF,C,X,H⟩:=J.resolve_left (by rintro rfl;simp at f);have q:w.cell? ⟨b,K+k,none⟩=some (B l[k]):=by rw[cell_of_row w b _ L t A C];exact H k f
   unfold B at q;have g:=uy d l k f;generalize Z:qV d (l.take k)=r at *;generalize l[k]=c at *;have u:=x5 r c;unfold Ev at g;generalize r ^^^ BitVec.ofNat 32 c.toNat=x at *;obtain⟨i,hi,P,Q⟩:=ya x;have N:=h'.cell i hi;generalize nib x=y at *;obtain⟨j,D,R,S⟩:=ya y;have O:=h'.cell j D;generalize nib y=z at *;generalize i6.getD i 0#32=q1 at *;generalize i6.getD j 0#32=q2 at *;have o:=ae g;clear g;have E:(k:Int)<(l.length:Int):=by omega
   have U:(i:Int)<16:=by omega
   have V:(j:Int)<16:=by omega
   go_wp2
   go_round
   ·exact⟨k+1,by omega,by go_num,by rw[o.x]⟩
   ·simp[intOf];omega
  ·have E:¬(k:Int)<(l.length:Int):=by omega
   obtain rfl:k=l.length:=by omega
   rw[List.take_of_length_le (aq _)];have u:=yb (qV d l);go_wp2
   go_ret
   exact⟨rfl,rfl⟩
theorem sw(f:cU w)(F:aQ)(v:Value)(l:List UInt8)(d:aO F w v l):
 Calls aE 154 #[v] w λe b=>e=.returned (.int .u32 (crc l:Int)) /\ w=b:=by
 have h:=zN w f F v l d 0#32;have H:Calls aE 198 #[.int .u32 0,v] w λe b=>e=.returned (.int .u32 (crc l:Int)) /\ w=b:=h
 obtain⟨a,g,rfl,-⟩:=d;generalize crc l=c at *
 go_enter func154,ntmps154
 go_wp2_with fail;refine H.mono ?_;rintro e b ⟨rfl,rfl⟩;go_wp2
 go_ret
 exact⟨rfl,rfl⟩
section
attribute [local go_sem] opC upC told bE bm bF bp bq bG bH
def dR(w:World)(b:Nat)(l:List UInt8):Prop:=Blk w b (l.map B) 137 /\ l.length=64
def dp(l:List UInt8)(a:Nat)(x:List UInt8):List UInt8:=l.take a++x++l.drop (a+x.length)
theorem j9(a:Nat)(x:List UInt8)(h:a+x.length <= b.length):(dp b a x).length=b.length:=by simp[dp];omega
theorem BQ(a:Nat)(x:List UInt8)(c:UInt8)(h:a+x.length<b.length):(dp b a x).set (a+x.length) c=dp b a (x++[c]):=by
 unfold dp;have d:(b.take a++x).length=a+x.length:=by simp;omega
 rw[List.set_append_right _ _ (by omega),d,Nat.sub_self];have:b.drop (a+x.length)=b[a+x.length]::b.drop (a+x.length+1):=List.drop_eq_getElem_cons h;rw[this,List.set_cons_zero];simp[Nat.add_assoc]
theorem mM:B (UInt8.ofNat n)=.int .u8 ((n:Int)%256):=by
 unfold B
 congr 1
theorem o5{w wr:World}(j:l.length=64)(a n:Nat)(q:a+4 <= 64)(k:Nat)(d:k<4)(z:Int)(p:B ((cB n)[k]'(by rw[cn];exact d))=.int .u8 z)
 (c:Blk wr i ((dp l a ((cB n).take k)).map B) 137) (m:aM (λb=>b=i) w wr) (o:wr.heap.size=w.heap.size):
 ∃u,wr.cell? ⟨i,a+k,none⟩=some u /\ wr.frozen? ⟨i,a+k,none⟩=false /\
  Hd (Blk (wr.setCell ⟨i,a+k,none⟩ (.int .u8 z)) i ((dp l a ((cB n).take (k+1))).map B) 137 /\ aM (λb=>b=i) w (wr.setCell ⟨i,a+k,none⟩ (.int .u8 z)) /\ (wr.setCell ⟨i,a+k,none⟩ (.int .u8 z)).heap.size=w.heap.size):=by
 have e:((cB n).take k).length=k:=by rw[List.length_take,cn];omega
 have h:=BQ l a ((cB n).take k) ((cB n)[k]'(by rw[cn];exact d)) (by rw[e];omega);rw[e,<- List.take_succ_eq_append_getElem] at h;have r:(dp l a ((cB n).take k)).length=64:=by rw[j9 _ _ _ (by rw[e];omega),j]
 have f:=c.cell (a+k);rw[List.getElem?_eq_getElem (by simp;omega)] at f;have g:=c.set (a+k) (B ((cB n)[k]'(by rw[cn];exact d)));rw[<- List.map_set,h,p] at g;exact⟨_,f,c.free _,ae ⟨g,m.setCell (.inl rfl) _,by simpa[World.setCell] using o⟩⟩
theorem lc(l:List UInt8)(h:dR w n l)(a c:Nat)(t:a+4 <= 64)(H:c<4294967296):
 Calls aE 145 #[.pointer (some ⟨n,0,none⟩),.int .i64 (a:Int),.int .u32 (c:Int)] w λe o=>e=.returned (.tuple #[]) /\ dR o n (dp l a (cB c)) /\ aM (λb=>b=n) w o /\ o.heap.size=w.heap.size:=by
 obtain⟨E,q⟩:=h;have I:(c:Int)<4294967296:=by omega
 go_enter func145,ntmps145
 go_wp2
 go_loopw [7] (λi wr=>∃k:Nat,k <= 4 /\ i=.int .i64 (k:Int) /\ Blk wr n ((dp l a ((cB c).take k)).map B) 137 /\ aM (λb=>b=n) w wr /\ wr.heap.size=w.heap.size) (λi _=>4-(intOf i).toNat)
 ·exact⟨0,by omega,rfl,by simpa[dp] using E,aM.refl _ _,rfl⟩
 ·obtain⟨k,G,rfl,p,r,s⟩:=hrel;have F:k=0 \/ k=1 \/ k=2 \/ k=3 \/ k=4:=by omega
  rcases F with rfl|rfl|rfl|rfl|rfl
  ·
   obtain⟨u,f,g,d⟩:=o5 (w:=w) q a c t 0 (by omega) ((c:Int)%256) (mM c) p.drew r.drew s;have y:=af (a:Int) (by omega);have z:=af 0 (by omega);have A:0 <= (a:Int):=by omega
   have C:(a:Int)<64:=by omega
   have D:IntKind.u8.wrap (c:Int)=((c:Int)%256):=IntKind.wrap_u8 _;have m:((a:Int)).toNat=a+0:=by omega
   try simp only[Nat.add_zero] at f g d m
   go_wp2_with fail;refine dq aK 11 (up 11 [511]) (by kernel_rfl) ?_;apply bC;rfl;intro o x;go_simp;exact aF;refine cG rfl rfl rfl (λv j=>?_);go_simp;refine j _ _ ?_;go_simp;refine cZ ?_;go_wp2
   go_roundw
   ·exact⟨0+1,by omega,by go_num,d.x.1,d.x.2.1,d.x.2.2⟩
   ·simp[intOf]
  ·
   obtain⟨u,f,g,d⟩:=o5 (w:=w) q a c t 1 (by omega) ((c:Int)/256%256) (mM (c/256)) p.drew r.drew s;have y:=af ((a:Int)+1) (by omega);have z:=af 8 (by omega);have A:0 <= ((a:Int)+1):=by omega
   have C:((a:Int)+1)<64:=by omega
   have D:IntKind.u8.wrap ((c:Int)/256)=((c:Int)/256%256):=IntKind.wrap_u8 _;have m:(((a:Int)+1)).toNat=a+1:=by omega
   try simp only[Nat.add_zero] at f g d m
   go_wp2_with fail;refine dq aK 11 (up 11 [511]) (by kernel_rfl) ?_;apply bC;rfl;intro o x;go_simp;exact aF;refine cG rfl rfl rfl (λv j=>?_);go_simp;refine j _ _ ?_;go_simp;refine cZ ?_;go_wp2
   go_roundw
   ·exact⟨1+1,by omega,by go_num,d.x.1,d.x.2.1,d.x.2.2⟩
   ·simp[intOf]
  ·
   obtain⟨u,f,g,d⟩:=o5 (w:=w) q a c t 2 (by omega) ((c:Int)/65536%256) (mM (c/65536)) p.drew r.drew s;have y:=af ((a:Int)+2) (by omega);have z:=af 16 (by omega);have A:0 <= ((a:Int)+2):=by omega
   have C:((a:Int)+2)<64:=by omega
   have D:IntKind.u8.wrap ((c:Int)/65536)=((c:Int)/65536%256):=IntKind.wrap_u8 _;have m:(((a:Int)+2)).toNat=a+2:=by omega
   try simp only[Nat.add_zero] at f g d m
   go_wp2_with fail;refine dq aK 11 (up 11 [511]) (by kernel_rfl) ?_;apply bC;rfl;intro o x;go_simp;exact aF;refine cG rfl rfl rfl (λv j=>?_);go_simp;refine j _ _ ?_;go_simp;refine cZ ?_;go_wp2
   go_roundw
   ·exact⟨2+1,by omega,by go_num,d.x.1,d.x.2.1,d.x.2.2⟩
   ·simp[intOf]
  ·
   obtain⟨u,f,g,d⟩:=o5 (w:=w) q a c t 3 (by omega) ((c:Int)/16777216%256) (mM (c/16777216)) p.drew r.drew s;have y:=af ((a:Int)+3) (by omega);have z:=af 24 (by omega);have A:0 <= ((a:Int)+3):=by omega
   have C:((a:Int)+3)<64:=by omega
   have D:IntKind.u8.wrap ((c:Int)/16777216)=((c:Int)/16777216%256):=IntKind.wrap_u8 _;have m:(((a:Int)+3)).toNat=a+3:=by omega
   try simp only[Nat.add_zero] at f g d m
   go_wp2_with fail;refine dq aK 11 (up 11 [511]) (by kernel_rfl) ?_;apply bC;rfl;intro o x;go_simp;exact aF;refine cG rfl rfl rfl (λv j=>?_);go_simp;refine j _ _ ?_;go_simp;refine cZ ?_;go_wp2
   go_roundw
   ·exact⟨3+1,by omega,by go_num,d.x.1,d.x.2.1,d.x.2.2⟩
   ·simp[intOf]
  ·go_wp2_with fail
   go_end0
   refine⟨rfl,⟨?_,?_⟩,r,s⟩
   ·rw[List.take_of_length_le (by rw[cn];omega)] at p;exact p
   ·rw[j9 _ _ _ (by rw[cn];omega)];exact q
theorem BR(a b:BitVec 32):Go.bits .or .u32 (a.toNat:Int) (b.toNat:Int)=((a ||| b).toNat:Int):=by
 have h:=(a ||| b).isLt;have e:∀x:BitVec 32,BitVec.ofInt 32 (x.toNat:Int)=x:=λx=>by simp
 show IntKind.u32.wrap ((BitVec.ofInt 32 (a.toNat:Int) ||| BitVec.ofInt 32 (b.toNat:Int)).toNat:Int)=_;rw[e a,e b];show((a ||| b).toNat:Int)%4294967296=_;omega
theorem FC(p c s:Nat)(a:p<2 ^ s)(d:c*2 ^ s<4294967296)(b:p<4294967296):Go.bits .or .u32 (p:Int) ((c*2 ^ s:Nat):Int)=((p+c*2 ^ s:Nat):Int):=by
 have h:=BR (BitVec.ofNat 32 p) (BitVec.ofNat 32 (c*2 ^ s));rw[BitVec.toNat_or] at h;simp only[BitVec.toNat_ofNat] at h;rw[Nat.mod_eq_of_lt b,Nat.mod_eq_of_lt d] at h;rw[h]
 congr 1
 have:=Nat.shiftLeft_add_eq_or_of_lt a c;rw[Nat.shiftLeft_eq] at this;rw[Nat.or_comm,<- this];omega
def ib(l:List UInt8)(a:Nat):Nat -> Nat
 |0=>0
 |k+1=>ib l a k+(l.getD (a+k) 0).toNat*2 ^ (8*k)
theorem EL(a:Nat):ib b a 4=bV b a:=by
 simp only[ib,bV,Nat.add_zero];omega
theorem sx(l:List UInt8)(a:Nat):∀k,ib l a k<2 ^ (8*k)
 |0=>by simp[ib]
 |k+1=>by
  have:=sx l a k;have b:=(l.getD (a+k) 0).toNat_lt;simp only[ib];have e:2 ^ (8*(k+1))=256*2 ^ (8*k):=by rw[Nat.mul_add,Nat.pow_add];omega
  rw[e];have:(l.getD (a+k) 0).toNat*2 ^ (8*k) <= 255*2 ^ (8*k):=Nat.mul_le_mul_right _ (by omega);omega
theorem o6(a k:Nat)(c:UInt8)(g:b.getD (a+k) 0=c)(p:k<4)(m:Int)(i:m=2 ^ (8*k)):Go.bits .or .u32 (ib b a k:Int) ((c.toNat:Int)%4294967296*m%4294967296)=(ib b a (k+1):Int):=by
 have h:=sx b a k;have o:=c.toNat_lt;have d:k=0 \/ k=1 \/ k=2 \/ k=3:=by omega
 have n:c.toNat*2 ^ (8*k)<4294967296:=by rcases d with rfl|rfl|rfl|rfl<;>simp<;>omega
 have j:ib b a k<4294967296:=by
  have:2 ^ (8*k) <= 2 ^ 24:=Nat.pow_le_pow_right (by omega) (by omega);omega
 have e:=FC (ib b a k) c.toNat (8*k) h n j
 have f:((c.toNat:Int)%4294967296*m%4294967296)=((c.toNat*2 ^ (8*k):Nat):Int):=by
  subst i;rcases d with rfl|rfl|rfl|rfl<;>simp<;>omega
 rw[f,e];simp only[ib,g]
theorem fH(r:Nat)(l:List UInt8)(h:dR w r l)(a:Nat)(x:a+4 <= 64):
 Calls aE 95 #[.pointer (some ⟨r,0,none⟩),.int .i64 (a:Int)] w λe v=>e=.returned (.int .u32 (bV l a:Int)) /\ w=v:=by
 obtain⟨m,z⟩:=h;rw[<- EL];have C:=sx l a 0
 go_enter func95,ntmps95
 go_wp2
 go_loop [5,7] (λn i=>∃k:Nat,k <= 4 /\ i=.int .i64 (k:Int) /\ n=.int .u32 (ib l a k:Int)) (λ_ i=>4-(intOf i).toNat)
 ·exact⟨0,by omega,rfl,rfl⟩
 ·obtain⟨k,y,rfl,rfl⟩:=hrel;have u:k=0 \/ k=1 \/ k=2 \/ k=3 \/ k=4:=by omega
  rcases u with rfl|rfl|rfl|rfl|rfl
  ·have b:=m.cell a;rw[List.getElem?_eq_getElem (by simp;omega),List.getElem_map] at b;unfold B at b;have f:l.getD (a+0) 0=l[a]'(by omega):=by rw[List.getD_eq_getElem?_getD,Nat.add_zero,List.getElem?_eq_getElem (show a<l.length by omega)];rfl
   have j:=o6 l a 0 _ f (by omega) 1 (by simp);rw[Int.mul_one] at j;generalize g:ib l a (0+1)=q at *;have d:=g;generalize l[a]'(by omega)=c at *;have s:((c.toNat:Int)%4294967296%4294967296)=(c.toNat:Int)%4294967296:=by omega
   rw[s] at j;have A:Go.bits .or .u32 0 ((c.toNat:Int)%4294967296)=(q:Int):=j;have t:((ib l a 0:Nat):Int)=0:=rfl;rw[t];go_wp2
   go_round
   ·exact⟨1,by omega,rfl,by rw[<- d]⟩
   ·simp[intOf]
  ·
   have b:=m.cell (a+1);rw[List.getElem?_eq_getElem (by simp;omega),List.getElem_map] at b;unfold B at b;have f:l.getD (a+1) 0=l[a+1]'(by omega):=by rw[List.getD_eq_getElem?_getD,List.getElem?_eq_getElem (show a+1<l.length by omega)];rfl
   have j:=o6 l a 1 _ f (by omega) 256 (by simp);generalize g:ib l a (1+1)=q at *;have d:=g;generalize l[a+1]'(by omega)=c at *;generalize o:ib l a 1=p at *;go_wp2
   go_round
   ·exact⟨1+1,by omega,rfl,by rw[<- d]⟩
   ·simp[intOf]
  ·
   have b:=m.cell (a+2);rw[List.getElem?_eq_getElem (by simp;omega),List.getElem_map] at b;unfold B at b;have f:l.getD (a+2) 0=l[a+2]'(by omega):=by rw[List.getD_eq_getElem?_getD,List.getElem?_eq_getElem (show a+2<l.length by omega)];rfl
   have j:=o6 l a 2 _ f (by omega) 65536 (by simp);generalize g:ib l a (2+1)=q at *;have d:=g;generalize l[a+2]'(by omega)=c at *;generalize o:ib l a 2=p at *;go_wp2
   go_round
   ·exact⟨2+1,by omega,rfl,by rw[<- d]⟩
   ·simp[intOf]
  ·
   have b:=m.cell (a+3);rw[List.getElem?_eq_getElem (by simp;omega),List.getElem_map] at b;unfold B at b;have f:l.getD (a+3) 0=l[a+3]'(by omega):=by rw[List.getD_eq_getElem?_getD,List.getElem?_eq_getElem (show a+3<l.length by omega)];rfl
   have j:=o6 l a 3 _ f (by omega) 16777216 (by simp);generalize g:ib l a (3+1)=q at *;have d:=g;generalize l[a+3]'(by omega)=c at *;generalize o:ib l a 3=p at *;go_wp2
   go_round
   ·exact⟨3+1,by omega,rfl,by rw[<- d]⟩
   ·simp[intOf]
  ·go_wp2
   go_ret
   exact⟨rfl,rfl⟩
theorem dR.bytes60{w:World}(h:dR w j l):aO (λb=>b=j) w (.slice (some ⟨j,0,none⟩) 60 64) (l.take 60):=by
 obtain⟨c,d⟩:=h;have a:(l.take 60).length=60:=by simp;omega
 refine⟨some ⟨j,0,none⟩,64,by rw[a],by omega,by unfold maxLen;omega,nofun,.inr ⟨j,0,(l.map B).toArray,_,_,rfl,rfl,c,by simp;omega,λi hi=>?_⟩⟩;simp at hi;simp[List.getElem?_eq_getElem (show i<l.length by omega)]
theorem dR.bytes{w:World}(h:dR w j l):aO (λb=>b=j) w (.slice (some ⟨j,0,none⟩) 64 64) l:=by
 obtain⟨a,c⟩:=h;refine⟨some ⟨j,0,none⟩,64,by rw[c],by omega,by unfold maxLen;omega,nofun,.inr ⟨j,0,(l.map B).toArray,_,_,rfl,rfl,a,by simp,λi hi=>?_⟩⟩;simp[List.getElem?_eq_getElem hi]
theorem Dl(a:b.length=64):dp b 60 (cB (crc (b.take 60)))=fT (b.take 60):=by
 unfold dp fT;rw[cn,List.drop_of_length_le (by omega),List.append_nil]
theorem yc(k:cU w)(a:Nat)(l:List UInt8)(h:dR w a l):
 Calls aE 146 #[.pointer (some ⟨a,0,none⟩)] w λe d=>e=.returned (.tuple #[]) /\ dR d a (fT (l.take 60)) /\ aM (λb=>b=a) w d /\ d.heap.size=w.heap.size:=by
 have m:=sw w k _ _ _ h.bytes60;have g:=zo (l.take 60);have j:=Dl l h.2;have f:=lc w a l h 60 (crc (l.take 60)) (by omega) g;rw[j] at f;generalize crc (l.take 60)=c at *
 go_enter func146,ntmps146
 go_wp2_with fail;refine m.mono ?_;rintro e d ⟨rfl,rfl⟩;go_wp2_with fail;refine f.mono ?_;rintro e d ⟨rfl,n,i,o⟩;go_wp2_with fail
 go_end0
 exact⟨rfl,n,i,o⟩
theorem gO(p:cU w)(f:Nat)(l:List UInt8)(h:dR w f l):
 Calls aE 96 #[.pointer (some ⟨f,0,none⟩)] w λe a=>e=.returned (.bool (iM l)) /\ ∃n,w.drewN n=a:=by
 have k:=sw w.drew (p.keep rfl) _ _ _ (dR.bytes60 (w:=w.drew) ⟨h.1.drew,h.2⟩);have j:=fH w.drew f l ⟨h.1.drew,h.2⟩ 60 (by omega);have hi:iM l=(bV l 60 == crc (l.take 60)):=rfl
 have q:(((bV l 60:Nat):Int) == ((crc (l.take 60):Nat):Int))=iM l:=by
  rw[hi]
  by_cases i:bV l 60=crc (l.take 60)
  ·rw[beq_iff_eq.2 i,beq_iff_eq.2 (by omega)]
  ·rw[beq_eq_false_iff_ne.2 i,beq_eq_false_iff_ne.2 (by omega)]
 have⟨o,m⟩:=ae2 k j;clear k j hi;generalize crc (l.take 60)=c at *;generalize bV l 60=r at *
 go_enter func96,ntmps96
 go_wp2_with fail;refine bP aK [0,2,3,4,501,505,6,7] (by kernel_rfl) ?_;apply aG;rfl;intro a g;go_simp;exact aF;refine aY rfl rfl (λd b=>?_);go_simp;refine m.x.mono ?_;rintro e a ⟨rfl,rfl⟩;refine⟨_,rfl,aZ _,b _ _ ?_⟩;clear b d;go_simp;apply aG;rfl;intro a g;go_simp;exact aF;refine aY rfl rfl (λd b=>?_);go_simp;refine o.x.mono ?_;rintro e a ⟨rfl,rfl⟩;refine⟨_,rfl,aZ _,b _ _ ?_⟩;clear b d;go_simp;apply aG;rfl;intro a g;go_simp;exact aF;refine aW ?_;go_wp2
 go_ret
 exact⟨rfl,1,rfl⟩
end
end Go.Proofs.YtobjdpngnfbicaaGreatDoor
