/-
  Ref30 RRefV RRefF REncR RHas Disk6 Disk7 Disk8 Disk9 Mk Use Crc Sec Sec2 J1 J2 J3
-/
import Derived.Test.YtobjdpngnfbicaaGreatDoorZO07
open Go.Lib renaming hid->ae
open Go.IntWalk renaming i64_in->af,i64_quo->ah,u32_in->aj,rem_in->am,u8_in->ap
open Nat renaming le_refl->aq,le_trans->au,lt_of_lt_of_le->aw
open List renaming length_append->aA,append_assoc->aB,getElem_mem->aC,length_cons->aD
open Go.Proofs.Tryz renaming prog->aE
set_option maxHeartbeats 6000000
set_option maxRecDepth 100000
set_option linter.all false
namespace Go.Proofs.YtobjdpngnfbicaaGreatDoor
open Go.RowKit
open Tryz
variable(w:World)(F:aX)(n k:Nat)(v:Value)(b:List UInt8)(m:aU)(M:MD){W w':World}{G:aX}{u:Value}{i j:Nat}{l:List UInt8}{r:aU}{N:MD}{t:TypeId}
section
open Go.Lib
attribute [local go_sem ↓] aV
attribute [local go_sem] opC upC
theorem BN:(aE.info? 21).map (fun i=>(i.zero,i.size,i.bytes))=some (some (.int .i32 0),1,4):=by kernel_rfl
def Am(a:Bool)(w:World)(e:Ending)(b:World):Prop:=∃v,e=.returned (.tuple #[v,.bool a]) /\ Below w.heap.size w b
def wh(w:World)(l:List UInt8)(b:Bool)(v i:Value)(wr:World):Prop:=
 ∃(a n f:Nat)(c:List Value),a <= l.length /\ n <= a /\ i=.int .i64 (a:Int) /\ l.length-a <= f /\ mR f (l.drop a)=b /\ wr.ownsRow w.heap.size 21 1 v n c /\ Below w.heap.size w wr
theorem BO(a:b≠[]):(jm b).2 <= b.length:=by
 by_cases h:(jm b).2=0
 ·omega
 ·rw[qt b h];exact Lib.decodeL_le b a
theorem wi(h:(jm b).2≠0):(jm b).1 <= 1114111:=by
 rw[qt b h];exact Lib.decodeL_rune b
theorem An(U:b.length <= 1000000000):
 Calls aE 266 #[.string ⟨b.toArray⟩] w (Am (Lib.validD b) w):=by
 obtain⟨j,u⟩:=aH (Lib.validD b);rw[u];have M:=ae (show wh w b j (.slice none 0 0) (.int .i64 0) w from⟨0,0,b.length,[],by omega,by omega,rfl,by omega,by rw[sO,List.drop_zero];exact u,World.ownsRow_nil _ _ _ _,Below.refl _ _⟩);clear u
 go_enter func266,ntmps266
 go_wp2_with fail
 go_loopw [4,5] (fun v i wr=>wh w b j v i wr) (fun _ i _=>b.length-(intOf i).toNat)
 case atStart=>exact M.out
 case round=>
  obtain⟨a,n,f,xs,X,W,rfl,T,E,C,A⟩:=hrel;have q:=ae E;have K:=ae C;have k:=ae A;clear E C A
  by_cases Q:a<b.length
  ·have O:(a:Int)<(b.length:Int):=by omega
   have N:=ae (Al wr b a Q (by omega));obtain⟨r,x⟩:=aH (jm (b.drop a));have h:=wi (b.drop a);have y:=BO (b.drop a) (by intro e;have:=congrArg List.length e;simp at this;omega);rw[x] at N h y;rw[List.length_drop] at y;obtain⟨c,m⟩:=r;dsimp only at h y;have p:=ae x;clear x;go_wp2_with fail;refine N.out.mono ?_;rintro e R ⟨rfl,s⟩;dsimp only;clear N;have d:=k.out.trans (s.mono k.out.size)
   by_cases g:m=0
   ·have o:=ae (show j=false by
     rw[<- q.out];have t:f=(f-1)+1:=by omega
     rw[t];unfold mR
     rw[if_neg (by intro e;have:=congrArg List.length e;simp at this;omega),if_pos (by rw[p.out];exact g)])
    subst g;go_wp2_with fail;go_ret2;exact⟨_,by rw[o.out];rfl,d⟩
   ·have V:((m:Int) == 0)=false:=by simp;exact g
    have Z:=h g;obtain⟨i0,F,G,H,I⟩:=info_parts BN;have how:=bm K.out s;obtain⟨v',S,Y,D,B⟩:=cu (P:=aE) R w.heap.size 300 21 underlying300 F G H I rfl (by decide) _ n _ how #[.int .i32 (c:Int)] rfl (by simp[Value.oneCell']) (by unfold maxLen;omega) (by omega) d.size;have z:Below w.heap.size w S:=(d.alloc d.size _).trans (Below.grownOwn (how.alloc _) B (by have:=d.size;simp;omega) (aq _));have J:=ae z;have L:=ae D;clear s d how D B z h F G H I;go_wp2_with fail
    go_roundw
    case rel=>
     refine⟨a+m,n+1,f-1,_,by omega,by omega,by go_num,by omega,?_,L.out,J.out⟩;rw[<- q.out];have t:f=(f-1)+1:=by omega
     conv=>rhs;rw[t];unfold mR
     rw[if_neg (by intro e;have:=congrArg List.length e;simp at this;omega),if_neg (by rw[p.out];exact g),p.out,List.drop_drop]
    case measure=>simp[intOf];omega
  ·have O:¬(a:Int)<(b.length:Int):=by omega
   have o:=ae (show j=true by
    rw[<- q.out,List.drop_of_length_le (by omega)]
    cases f<;>simp[mR])
   go_wp2_with fail;go_ret2;exact⟨_,by rw[o.out];rfl,k.out⟩
theorem yk(d:b.length <= 1000000000):
 Calls aE 261 #[.string ⟨b.toArray⟩] w fun e f=>e=.returned (.bool (Lib.validD b)) /\ Below w.heap.size w f:=by
 have R:=ae (An w b d);obtain⟨g,a⟩:=aH (Lib.validD b);rw[a] at R⊢;clear a
 go_enter func261,ntmps261
 go_wp2_with fail;refine R.out.mono ?_;rintro e h ⟨v,rfl,c⟩;clear R;go_wp2_with fail
 go_ret
 exact⟨rfl,c⟩
theorem kT(z:b.length <= 1000000000):
 Calls aE 252 #[.string ⟨b.toArray⟩] w fun e B=>e=.returned (.bool (fR b)) /\ Below w.heap.size w B:=by
 have V:=ae (yk w b z);obtain⟨q,o⟩:=aH (fR b);rw[o];have f:=ae o;clear o
 go_enter func252,ntmps252
 go_wp2_with fail
 go_loop [3] (fun i=>∃k:Nat,k <= b.length /\ i=.int .i64 (k:Int) /\ ∀j,j<k -> b[j]?≠some 0) (fun i=>b.length-(intOf i).toNat)
 case atStart=>exact⟨0,by omega,rfl,fun j d=>by omega⟩
 case round=>
  obtain⟨k,F,rfl,t⟩:=hrel;have r:=ae t;clear t
  by_cases y:k<b.length
  ·have x:(k:Int)<(b.length:Int):=by omega
   obtain⟨c,m⟩:=aH b[k];have D:∀h:k<(⟨b.toArray⟩:ByteArray).size,((⟨b.toArray⟩:ByteArray)[k]'h)=c:=fun h=>m
   have s:=ae (show b[k]?=some c by rw[List.getElem?_eq_getElem y,m]);clear m
   by_cases g:c=0
   ·subst g;have a:=ae (show q=false by rw[<- f.out];exact sP b (List.mem_of_getElem? s.out));go_wp2_with fail
    go_ret
    exact⟨by rw[a.out];rfl,Below.refl _ _⟩
   ·have E:((c.toNat:Int) == 0)=false:=by
     simp;intro e;exact g (UInt8.toNat_inj.1 (by simpa using e))
    go_wp2_with fail
    go_round
    case rel=>exact⟨k+1,by omega,by go_num,fun j d=>by
     rcases Nat.lt_succ_iff_lt_or_eq.1 d with h|h
     ·exact r.out j h
     ·subst h;rw[s.out];simpa using g⟩
    case measure=>simp[intOf];omega
  ·have x:¬(k:Int)<(b.length:Int):=by omega
   have p:(0:UInt8)∉b:=fun A=>by
    obtain⟨j,d,v⟩:=List.getElem_of_mem A;exact r.out j (by omega) (by rw[List.getElem?_eq_getElem d,v])
   by_cases n:b = []
   ·subst n;have a:=ae (show q=false by rw[<- f.out];exact qu);clear p V;go_wp2_with fail
    go_ret
    exact⟨by rw[a.out];rfl,Below.refl _ _⟩
   ·have C:(!b.isEmpty)=true:=by simpa using n
    have a:=ae (show q=Lib.validD b by rw[<- f.out];simp[fR,p,n]);clear p;go_wp2_with fail;refine V.out.mono ?_;rintro e G ⟨rfl,u⟩;rw[<- a.out];clear V;go_wp2_with fail
    go_ret
    exact⟨rfl,u⟩
theorem mA:
 Calls aE 253 #[] w fun e b=>e=.returned (.string ⟨#[0]⟩) /\ b=w.alloc (.cells #[.int .u8 0] 5):=by
 have a:=Bk w 0;rw[show B 0=.int .u8 0 from rfl] at a
 go_enter func253,ntmps253
 go_wp2_with fail
 go_ret
 exact⟨rfl,rfl⟩
def oe:o7:=.steady 0 (.steady 1 (.steady 2 (.steady 5 (.steady 9 (.both 3 7 (.steady 4 (.steady 6 (.move 7 (.steady 8 (.steady 10 (.steady 11 (.steady 12 .done))))))) (.move 3 (.steady 4 (.steady 6 (.steady 8 (.steady 10 (.steady 11 (.steady 12 .done))))))))))))
theorem lA{w a:World}{c:UInt8}(h:aJ (w.alloc (.cells #[B c] 5)) a):(convert 41 9 (.slice (some ⟨w.heap.size,0,none⟩) 1 1)).run aE a=.ok (.string ⟨#[c]⟩) a:=
 kL (F:=fun _=>True) (l:=[c]) ⟨_,1,rfl,by simp,by unfold maxLen;omega,nofun,.inr ⟨w.heap.size,0,#[B c],5,(0,0),rfl,trivial,by rw[h.block w.heap.size (by simp)];unfold World.alloc;simp,by simp,fun i hi=>by simp at hi;subst hi;rfl⟩⟩
theorem pi(x y:List UInt8):(⟨x.toArray⟩:ByteArray)++⟨y.toArray⟩=⟨(x++y).toArray⟩:=by
 apply ByteArray.ext;simp
theorem qn(c:UInt8)(a b:List UInt8):(((⟨#[c]⟩:ByteArray)++⟨a.toArray⟩)++⟨#[0]⟩)++⟨b.toArray⟩=⟨(c::(a++0::b)).toArray⟩:=by
 rw[show(⟨#[c]⟩:ByteArray)=⟨[c].toArray⟩ from rfl,show(⟨#[0]⟩:ByteArray)=⟨[(0:UInt8)].toArray⟩ from rfl,pi,pi,pi];simp
def pj(c:Int)(a b:List UInt8)(w:World)(e:Ending)(d:World):Prop:=
 ∃s:ByteArray,e=.returned (.tuple #[.string s,.bool (fk c a b)]) /\ (fk c a b=true -> s=⟨(UInt8.ofNat (48+c).toNat::(a++0::b)).toArray⟩) /\ Below w.heap.size w d
theorem Ao(t:Int)(S:-1000 <= t /\ t <= 1000)(a b:List UInt8)(L:a.length <= 1000000000)(F:b.length <= 1000000000):
 Calls aE 242 #[.int .i64 t,.string ⟨a.toArray⟩,.string ⟨b.toArray⟩] w (pj t a b w):=by
 have o:=ae (kT w a L);unfold pj;obtain⟨C,x⟩:=aH (fk t a b);rw[x]
 by_cases A:t=1 \/ t=2
 ·obtain⟨R,D⟩:=aH (fR a);rw[D] at o;cases R with
  |false=>
   obtain rfl:C=false:=by rw[<- x];simp[fk,D]
   clear x D;rcases A with rfl|rfl
   all_goals
    go_enter func242,ntmps242
    go_wp2_with fail;refine o.out.mono ?_;rintro e u ⟨rfl,n⟩;go_wp2_with fail;go_ret2;exact⟨_,rfl,nofun,n⟩
  |true=>
   obtain⟨J,G⟩:=aH (fR b);have B:C=(J&&decide (a.length+b.length <= 398)):=by rw[<- x];simp[fk,D,G,A]
   clear x D;have E:=ae G;clear G;cases J with
   |false=>
    obtain rfl:C=false:=by simpa using B
    clear B;rcases A with rfl|rfl
    all_goals
     go_enter func242,ntmps242
     go_wp2_with fail;refine o.out.mono ?_;rintro e u ⟨rfl,n⟩;have m:=ae (kT u b F);rw[E.out] at m;clear o;go_wp2_with fail;refine m.out.mono ?_;rintro e i ⟨rfl,p⟩;clear m;go_wp2_with fail;go_ret2;exact⟨_,rfl,nofun,cQ n p⟩
   |true=>
    by_cases I:a.length+b.length <= 398
    ·obtain rfl:C=true:=by simpa[I] using B
     have T:decide ((a.length:Int)+(b.length:Int)+2>400)=false:=by simp;omega
     have U:1+a.length <= 1000:=by omega
     have V:1+a.length+1+b.length <= 1000:=by omega
     clear B;rcases A with rfl|rfl
     ·go_enter func242,ntmps242
      go_wp2_with fail;refine o.out.mono ?_;rintro e u ⟨rfl,n⟩;have m:=ae (kT u b F);rw[E.out] at m;clear o;go_wp2_with fail;refine m.out.mono ?_;rintro e i ⟨rfl,p⟩;clear m;go_wp2_with fail;refine jx aJ oe 13 (by kernel_rfl) (by kernel_rfl) bF bC _ (fun _ _ h=>h) ?_;unfold oe;have O:¬9223372036854775807<1+a.length:=by omega
      have P:¬9223372036854775807<1+a.length+1:=by omega
      have Q:¬9223372036854775807<1+a.length+1+b.length:=by omega
      have M:IntKind.i64.wrap 49=49:=by decide
      have N:IntKind.u8.wrap 49=49:=by decide
      refine bV (v:=?_) rfl (bj rfl) (fun f g=>?_) (fun K d=>?_);rotate_left;(focus (go_simp;first|done|exact rfl));go_simp;refine d _ ?_;clear d K;refine bV (v:=?_) rfl (bj rfl) (fun f g=>?_) (fun K d=>?_);rotate_left;(focus (go_simp;first|done|exact rfl));go_simp;refine d _ ?_;clear d K;refine bV (v:=?_) rfl (bj rfl) (fun f g=>?_) (fun K d=>?_);rotate_left;(focus (go_simp;first|done|exact rfl));go_simp;refine d _ ?_;clear d K;refine bV (v:=?_) rfl (bj rfl) (fun f g=>?_) (fun K d=>?_);rotate_left;(focus (go_simp;first|done|exact rfl));go_simp;refine d _ ?_;clear d K;refine bV (v:=?_) rfl (bj rfl) (fun f g=>?_) (fun K d=>?_);rotate_left;(focus (go_simp;first|done|exact rfl));go_simp;refine d _ ?_;clear d K;have s:w.heap.size <= i.heap.size:=(cQ n p).size;refine s5 rfl rfl rfl rfl (fun l d=>?_) (fun l d=>?_)
      ·go_simp;have j:aJ i.drew (i.alloc (.cells #[.int .u8 49] 5)).drew:=aI i.drew _;have r:∀f,aJ (i.alloc (.cells #[.int .u8 49] 5)).drew f -> (convert 41 9 (.slice (some ⟨i.heap.size,0,none⟩) 1 1)).run aE f=.ok (.string ⟨#[49]⟩) f:=fun f h=>lA (w:=i.drew) (c:=49) h
       obtain⟨H,q⟩:=aQ ((i.alloc (.cells #[.int .u8 49] 5)).drew);rw[<- q] at j r⊢;refine⟨j,d _ _ ?_⟩;clear d l q;go_simp;refine bV (v:=?_) rfl (bj rfl) (fun f g=>?_) (fun K d=>?_);rotate_left;(focus (go_simp;first|done|exact rfl));go_simp;refine d _ ?_;clear d K;refine bV (v:=?_) rfl (bj rfl) (fun f g=>?_) (fun K d=>?_);rotate_left;(focus (go_simp;first|done|exact rfl));go_simp;refine d _ ?_;clear d K;refine jX rfl rfl (fun l d=>?_);go_simp;refine(mA _).mono ?_;rintro e f ⟨rfl,rfl⟩;refine⟨_,rfl,aI _ _,d _ _ ?_⟩;clear d l r;go_simp;refine bV (v:=?_) rfl (bj rfl) (fun f g=>?_) (fun K d=>?_);rotate_left;(focus (go_simp;first|done|exact rfl));go_simp;refine d _ ?_;clear d K;refine bV (v:=?_) rfl (bj rfl) (fun f g=>?_) (fun K d=>?_);rotate_left;(focus (go_simp;first|done|exact rfl));go_simp;refine d _ ?_;clear d K;refine bV (v:=?_) rfl (bj rfl) (fun f g=>?_) (fun K d=>?_);rotate_left;(focus (go_simp;first|done|exact rfl));go_simp;refine d _ ?_;clear d K;refine bV (v:=?_) rfl (bj rfl) (fun f g=>?_) (fun K d=>?_);rotate_left;(focus (go_simp;first|done|exact rfl));go_simp;refine d _ ?_;clear d K;refine lX ?_;go_wp2_with fail;go_ret2;exact⟨_,rfl,fun _=>qn 49 a b,(((cQ n p).drew.trans (RowKit.Below.mono j s)).alloc (au s j.size) _)⟩
      ·go_simp;obtain⟨k,y⟩:=aQ (i.drew.alloc (.cells #[.int .u8 0] 5));have z:aJ i.drew k:=by rw[y];exact aI _ _
       refine(mA _).mono ?_;rintro e f ⟨rfl,rfl⟩;rw[<- y];refine⟨_,rfl,z,d _ _ ?_⟩;clear d l y;go_simp;refine jX rfl rfl (fun l d=>?_);go_simp;have j:aJ k (k.alloc (.cells #[.int .u8 49] 5)):=aI k _;have r:∀f,aJ (k.alloc (.cells #[.int .u8 49] 5)) f -> (convert 41 9 (.slice (some ⟨k.heap.size,0,none⟩) 1 1)).run aE f=.ok (.string ⟨#[49]⟩) f:=fun f h=>lA (w:=k) (c:=49) h
       obtain⟨H,q⟩:=aQ (k.alloc (.cells #[.int .u8 49] 5));rw[<- q] at j r⊢;refine⟨j,d _ _ ?_⟩;clear d l q;go_simp;refine bV (v:=?_) rfl (bj rfl) (fun f g=>?_) (fun K d=>?_);rotate_left;(focus (go_simp;first|done|exact rfl));go_simp;refine d _ ?_;clear d K;refine bV (v:=?_) rfl (bj rfl) (fun f g=>?_) (fun K d=>?_);rotate_left;(focus (go_simp;first|done|exact rfl));go_simp;refine d _ ?_;clear d K;refine bV (v:=?_) rfl (bj rfl) (fun f g=>?_) (fun K d=>?_);rotate_left;(focus (go_simp;first|done|exact rfl));go_simp;refine d _ ?_;clear d K;refine bV (v:=?_) rfl (bj rfl) (fun f g=>?_) (fun K d=>?_);rotate_left;(focus (go_simp;first|done|exact rfl));go_simp;refine d _ ?_;clear d K;refine bV (v:=?_) rfl (bj rfl) (fun f g=>?_) (fun K d=>?_);rotate_left;(focus (go_simp;first|done|exact rfl));go_simp;refine d _ ?_;clear d K;refine bV (v:=?_) rfl (bj rfl) (fun f g=>?_) (fun K d=>?_);rotate_left;(focus (go_simp;first|done|exact rfl));go_simp;refine d _ ?_;clear d K;refine lX ?_;go_wp2_with fail;go_ret2;exact⟨_,rfl,fun _=>qn 49 a b,((cQ n p).drew.trans (RowKit.Below.mono z s)).trans (RowKit.Below.mono j (au s z.size))⟩
     ·go_enter func242,ntmps242
      go_wp2_with fail;refine o.out.mono ?_;rintro e u ⟨rfl,n⟩;have m:=ae (kT u b F);rw[E.out] at m;clear o;go_wp2_with fail;refine m.out.mono ?_;rintro e i ⟨rfl,p⟩;clear m;go_wp2_with fail;refine jx aJ oe 13 (by kernel_rfl) (by kernel_rfl) bF bC _ (fun _ _ h=>h) ?_;unfold oe;have O:¬9223372036854775807<1+a.length:=by omega
      have P:¬9223372036854775807<1+a.length+1:=by omega
      have Q:¬9223372036854775807<1+a.length+1+b.length:=by omega
      have M:IntKind.i64.wrap 50=50:=by decide
      have N:IntKind.u8.wrap 50=50:=by decide
      refine bV (v:=?_) rfl (bj rfl) (fun f g=>?_) (fun K d=>?_);rotate_left;(focus (go_simp;first|done|exact rfl));go_simp;refine d _ ?_;clear d K;refine bV (v:=?_) rfl (bj rfl) (fun f g=>?_) (fun K d=>?_);rotate_left;(focus (go_simp;first|done|exact rfl));go_simp;refine d _ ?_;clear d K;refine bV (v:=?_) rfl (bj rfl) (fun f g=>?_) (fun K d=>?_);rotate_left;(focus (go_simp;first|done|exact rfl));go_simp;refine d _ ?_;clear d K;refine bV (v:=?_) rfl (bj rfl) (fun f g=>?_) (fun K d=>?_);rotate_left;(focus (go_simp;first|done|exact rfl));go_simp;refine d _ ?_;clear d K;refine bV (v:=?_) rfl (bj rfl) (fun f g=>?_) (fun K d=>?_);rotate_left;(focus (go_simp;first|done|exact rfl));go_simp;refine d _ ?_;clear d K;have s:w.heap.size <= i.heap.size:=(cQ n p).size;refine s5 rfl rfl rfl rfl (fun l d=>?_) (fun l d=>?_)
      ·go_simp;have j:aJ i.drew (i.alloc (.cells #[.int .u8 50] 5)).drew:=aI i.drew _;have r:∀f,aJ (i.alloc (.cells #[.int .u8 50] 5)).drew f -> (convert 41 9 (.slice (some ⟨i.heap.size,0,none⟩) 1 1)).run aE f=.ok (.string ⟨#[50]⟩) f:=fun f h=>lA (w:=i.drew) (c:=50) h
       obtain⟨H,q⟩:=aQ ((i.alloc (.cells #[.int .u8 50] 5)).drew);rw[<- q] at j r⊢;refine⟨j,d _ _ ?_⟩;clear d l q;go_simp;refine bV (v:=?_) rfl (bj rfl) (fun f g=>?_) (fun K d=>?_);rotate_left;(focus (go_simp;first|done|exact rfl));go_simp;refine d _ ?_;clear d K;refine bV (v:=?_) rfl (bj rfl) (fun f g=>?_) (fun K d=>?_);rotate_left;(focus (go_simp;first|done|exact rfl));go_simp;refine d _ ?_;clear d K;refine jX rfl rfl (fun l d=>?_);go_simp;refine(mA _).mono ?_;rintro e f ⟨rfl,rfl⟩;refine⟨_,rfl,aI _ _,d _ _ ?_⟩;clear d l r;go_simp;refine bV (v:=?_) rfl (bj rfl) (fun f g=>?_) (fun K d=>?_);rotate_left;(focus (go_simp;first|done|exact rfl));go_simp;refine d _ ?_;clear d K;refine bV (v:=?_) rfl (bj rfl) (fun f g=>?_) (fun K d=>?_);rotate_left;(focus (go_simp;first|done|exact rfl));go_simp;refine d _ ?_;clear d K;refine bV (v:=?_) rfl (bj rfl) (fun f g=>?_) (fun K d=>?_);rotate_left;(focus (go_simp;first|done|exact rfl));go_simp;refine d _ ?_;clear d K;refine bV (v:=?_) rfl (bj rfl) (fun f g=>?_) (fun K d=>?_);rotate_left;(focus (go_simp;first|done|exact rfl));go_simp;refine d _ ?_;clear d K;refine lX ?_;go_wp2_with fail;go_ret2;exact⟨_,rfl,fun _=>qn 50 a b,(((cQ n p).drew.trans (RowKit.Below.mono j s)).alloc (au s j.size) _)⟩
      ·go_simp;obtain⟨k,y⟩:=aQ (i.drew.alloc (.cells #[.int .u8 0] 5));have z:aJ i.drew k:=by rw[y];exact aI _ _
       refine(mA _).mono ?_;rintro e f ⟨rfl,rfl⟩;rw[<- y];refine⟨_,rfl,z,d _ _ ?_⟩;clear d l y;go_simp;refine jX rfl rfl (fun l d=>?_);go_simp;have j:aJ k (k.alloc (.cells #[.int .u8 50] 5)):=aI k _;have r:∀f,aJ (k.alloc (.cells #[.int .u8 50] 5)) f -> (convert 41 9 (.slice (some ⟨k.heap.size,0,none⟩) 1 1)).run aE f=.ok (.string ⟨#[50]⟩) f:=fun f h=>lA (w:=k) (c:=50) h
       obtain⟨H,q⟩:=aQ (k.alloc (.cells #[.int .u8 50] 5));rw[<- q] at j r⊢;refine⟨j,d _ _ ?_⟩;clear d l q;go_simp;refine bV (v:=?_) rfl (bj rfl) (fun f g=>?_) (fun K d=>?_);rotate_left;(focus (go_simp;first|done|exact rfl));go_simp;refine d _ ?_;clear d K;refine bV (v:=?_) rfl (bj rfl) (fun f g=>?_) (fun K d=>?_);rotate_left;(focus (go_simp;first|done|exact rfl));go_simp;refine d _ ?_;clear d K;refine bV (v:=?_) rfl (bj rfl) (fun f g=>?_) (fun K d=>?_);rotate_left;(focus (go_simp;first|done|exact rfl));go_simp;refine d _ ?_;clear d K;refine bV (v:=?_) rfl (bj rfl) (fun f g=>?_) (fun K d=>?_);rotate_left;(focus (go_simp;first|done|exact rfl));go_simp;refine d _ ?_;clear d K;refine bV (v:=?_) rfl (bj rfl) (fun f g=>?_) (fun K d=>?_);rotate_left;(focus (go_simp;first|done|exact rfl));go_simp;refine d _ ?_;clear d K;refine bV (v:=?_) rfl (bj rfl) (fun f g=>?_) (fun K d=>?_);rotate_left;(focus (go_simp;first|done|exact rfl));go_simp;refine d _ ?_;clear d K;refine lX ?_;go_wp2_with fail;go_ret2;exact⟨_,rfl,fun _=>qn 50 a b,((cQ n p).drew.trans (RowKit.Below.mono z s)).trans (RowKit.Below.mono j (au s z.size))⟩
    ·obtain rfl:C=false:=by simpa[I] using B
     have W:decide ((a.length:Int)+(b.length:Int)+2>400)=true:=by simp;omega
     clear B;rcases A with rfl|rfl
     all_goals
      go_enter func242,ntmps242
      go_wp2_with fail;refine o.out.mono ?_;rintro e u ⟨rfl,n⟩;have m:=ae (kT u b F);rw[E.out] at m;clear o;go_wp2_with fail;refine m.out.mono ?_;rintro e i ⟨rfl,p⟩;clear m;go_wp2_with fail;go_ret2;exact⟨_,rfl,nofun,cQ n p⟩
 ·obtain rfl:C=false:=by rw[<- x];simp[fk,A]
  have X:(t != 1)=true:=by simp;omega
  have Y:(t != 2)=true:=by simp;omega
  clear x o
  go_enter func242,ntmps242
  go_wp2_with fail;go_ret2;exact⟨_,rfl,nofun,Below.refl _ _⟩
theorem Ap(c:UInt8)(r:List UInt8)(i:Nat)(h:r[i]?=some 0):(UInt8.ofNat (48+((c.toNat:Int)-48)).toNat::(r.take i++0::r.drop (i+1)))=c::r:=by
 have hi:=(List.getElem?_eq_some_iff.1 h).1;have a:=(List.getElem?_eq_some_iff.1 h).2;rw[show(48+((c.toNat:Int)-48)).toNat=c.toNat by omega,UInt8.ofNat_toNat,<- a,<- List.drop_eq_getElem_cons hi,List.take_append_drop]
def tq(c:UInt8)(r:List UInt8)(w:World)(i:Value)(wr:World):Prop:=
 ∃k:Nat,k <= r.length /\ i=.int .i64 ((k:Int)+1) /\ (∀j,j<k -> ¬(r[j]?=some 0 /\ fk ((c.toNat:Int)-48) (r.take j) (r.drop (j+1))=true)) /\ Below w.heap.size w wr
theorem yl(R:b.length <= 1000000000):
 Calls aE 227 #[.string ⟨b.toArray⟩] w (s7 (fe b) w):=by
 cases b with
 |nil=>
  go_enter func227,ntmps227
  go_wp2_with fail
  go_loop [6] (fun i=>i=.int .i64 1) (fun i=>1)
  case atStart=>rfl
  case round=>
   subst hrel;go_wp2_with fail;exact bodyPost_ret (v:=.tuple #[.int .i64 0,.string ⟨#[]⟩,.string ⟨#[]⟩,.bool false]) (by simp[results,results227,go_sem]) rfl ⟨_,_,_,rfl,Below.refl _ _⟩
 |cons c r=>
  obtain⟨T,A⟩:=aH (fe (c::r));rw[A];have ar:r.length<1000000000:=by simp at R;omega
  have hc:=UInt8.toNat_lt c;have F:=ae A;have G:=ae (show tq c r w (.int .i64 1) w from⟨0,by omega,rfl,fun j a=>by omega,Below.refl _ _⟩);clear A R
  go_enter func227,ntmps227
  go_wp2_with fail
  go_loopw [6] (fun i wr=>tq c r w i wr) (fun i _=>r.length+1-(intOf i).toNat)
  case atStart=>exact G.out
  case round=>
   obtain⟨k,hk,rfl,N,P⟩:=hrel;have n:=ae N;have D:=ae P;clear N P G
   by_cases Q:k<r.length
   ·have Z:(k:Int)+1<(r.length:Int)+1:=by omega
    have aa:(k:Int)<(r.length:Int):=by omega
    have ag:IntKind.i64.wrap ((k:Int)+1+1)=(k:Int)+1+1:=af _ (by omega);have ai:((k:Int)+1+1).toNat=k+1+1:=by omega
    have ak:((k:Int)+1).toNat=k+1:=by omega
    have al:(1:Int) <= (k:Int)+1:=by omega
    go_wp2_with fail
    go_quiet (fail)
    clear ag ai ak al;have H:(⟨(c::r).toArray⟩:ByteArray).extract 1 (k+1)=⟨(r.take k).toArray⟩:=by rw[o8];simp
    have I:(⟨(c::r).toArray⟩:ByteArray).extract (k+1+1) (r.length+1)=⟨(r.drop (k+1)).toArray⟩:=nd (c::r) (k+1+1);have J:∀h:0<(⟨(c::r).toArray⟩:ByteArray).size,(⟨(c::r).toArray⟩:ByteArray)[0]'h=c:=fun _=>rfl
    have K:wrap64 (c.toNat:Int)=c.toNat:=IntWalk.wrap64_in _ (by omega);have L:wrap64 ((c.toNat:Int)-48)=(c.toNat:Int)-48:=IntWalk.wrap64_in _ (by omega);simp only[H,I,J,K,L];clear H I J K L;obtain⟨d,x⟩:=aH r[k];have an:∀h:k+1<(⟨(c::r).toArray⟩:ByteArray).size,((⟨(c::r).toArray⟩:ByteArray)[k+1]'h)=d:=fun h=>x
    have p:=ae (show r[k]?=some d by rw[List.getElem?_eq_getElem Q,x]);clear x;obtain⟨U,B⟩:=aQ (wr.drewN nq);have o:=ae (show Below w.heap.size w U by rw[B];exact cM D.out _);rw[<- B];clear B;obtain⟨m,f⟩:=aH (r.take k);obtain⟨rb,g⟩:=aH (r.drop (k+1));have ab:m.length <= 1000000000:=by rw[<- f];simp;omega
    have ad:rb.length <= 1000000000:=by rw[<- g];simp;omega
    rw[f,g];have q:=ae f;have t:=ae g;clear f g
    by_cases u:d=0
    ·subst u;have y:=Ap c r k p.out;rw[q.out,t.out] at y;have M:=ae (Ao U ((c.toNat:Int)-48) (by omega) m rb ab ad);obtain⟨mk,z⟩:=aH (fk ((c.toNat:Int)-48) m rb);unfold pj at M;rw[z,y] at M;have E:=ae z;clear z y;go_wp2_with fail;refine M.out.mono ?_;rintro e w2 ⟨s,rfl,S,O⟩;have C:=ae (o.out.trans (O.mono o.out.size));clear M O;cases mk with
     |true=>
      obtain rfl:=S rfl
      have W:=ae (show T=true by
       rw[<- F.out]
       exact(oS c r).2 ⟨k,Q,p.out,by rw[q.out,t.out];exact E.out⟩)
      go_wp2_with fail;rw[W.out];exact bodyPost_ret (v:=.tuple #[.int .i64 ((c.toNat:Int)-48),.string ⟨m.toArray⟩,.string ⟨rb.toArray⟩,.bool true]) (by simp[results,results227,go_sem]) rfl ⟨_,_,_,rfl,C.out⟩
     |false=>
      clear S;go_wp2_with fail
      go_roundw
      case rel=>exact⟨k+1,by omega,by go_num,fun j a=>by
       rcases Nat.lt_succ_iff_lt_or_eq.1 a with h|h
       ·exact n.out j h
       ·subst h;rintro⟨-,h⟩;rw[q.out,t.out,E.out] at h;exact absurd h (by decide),C.out⟩
      case measure=>simp[intOf];omega
    ·have ao:((d.toNat:Int) != 0)=true:=by
      simp;intro e;exact u (UInt8.toNat_inj.1 (by simpa using e))
     go_wp2_with fail
     go_roundw
     case rel=>exact⟨k+1,by omega,by go_num,fun j a=>by
      rcases Nat.lt_succ_iff_lt_or_eq.1 a with h|h
      ·exact n.out j h
      ·subst h;rintro⟨h,-⟩;rw[p.out] at h;exact u (by simpa using h),o.out⟩
     case measure=>simp[intOf];omega
   ·have Z:¬(k:Int)+1<(r.length:Int)+1:=by omega
    have aa:¬(k:Int)<(r.length:Int):=by omega
    have V:=ae (show T=false by
     rw[<- F.out];refine Bool.eq_false_iff.2 fun h=>?_
     obtain⟨j,a,X,Y⟩:=(oS c r).1 h
     exact n.out j (by omega) ⟨X,Y⟩)
    go_wp2_with fail;rw[V.out];exact bodyPost_ret (v:=.tuple #[.int .i64 0,.string ⟨#[]⟩,.string ⟨#[]⟩,.bool false]) (by simp[results,results227,go_sem]) rfl ⟨_,_,_,rfl,D.out⟩
theorem mM(l:List UInt8)(f:l.length <= 1000000000):
 Calls aE 213 #[.string ⟨l.toArray⟩] w fun e g=>e=.returned (.bool (fe l)) /\ Below w.heap.size w g:=by
 have P:=ae (yl w l f);obtain⟨h,c⟩:=aH (fe l);rw[c] at P⊢;clear c
 go_enter func213,ntmps213
 go_wp2_with fail;refine P.out.mono ?_;rintro e i ⟨k,a,b,rfl,d⟩;clear P;go_wp2_with fail
 go_ret
 exact⟨rfl,d⟩
end
section
attribute [local go_sem] opC upC
theorem ni(k b:bR)(d g:Int):
 Calls aE 215 #[.string ⟨k.toArray⟩,.int .i64 d,.string ⟨b.toArray⟩,.int .i64 g] w fun e n=>e=.returned (.bool (decide (plt (k,d) (b,g)))) /\ w=n:=by
 obtain⟨r,i⟩:=aH (decide (plt (k,d) (b,g)));rw[i];have f:=ae i;clear i
 by_cases a:k<b
 ·obtain rfl:r=true:=by rw[<- f.out];exact decide_eq_true (.inl a)
  have l:Op.bytesLess k b=true:=by rw[Go.Proofs.bytesLess_eq];simpa using a
  clear a
  go_enter func215,ntmps215
  go_wp2_with fail
  go_ret
  exact⟨rfl,rfl⟩
 have l:Op.bytesLess k b=false:=by rw[Go.Proofs.bytesLess_eq];simpa using a
 by_cases c:k=b
 ·have o:=ae c;have m:(k == b)=true:=by simpa using c
  by_cases j:d<g
  ·obtain rfl:r=true:=by rw[<- f.out];exact decide_eq_true (.inr ⟨c,j⟩)
   clear a c
   go_enter func215,ntmps215
   go_wp2_with fail
   go_ret
   exact⟨rfl,rfl⟩
  ·obtain rfl:r=false:=by
    rw[<- f.out];exact decide_eq_false fun h=>h.elim a fun h=>j h.2
   clear a c
   go_enter func215,ntmps215
   go_wp2_with fail
   go_ret
   exact⟨iM (by simp),rfl⟩
 ·have m:(k == b)=false:=by simpa using c
  obtain rfl:r=false:=by
   rw[<- f.out];exact decide_eq_false fun h=>h.elim a fun h=>c h.1
  clear a c
  go_enter func215,ntmps215
  go_wp2_with fail
  go_ret
  exact⟨rfl,rfl⟩
theorem rf(h:dl F w v m)(i:bR)(d g:Int)(X:i.length <= 1000000000)(ab:eX d)(ad:eX g):
 Calls aE 226 #[v,.string ⟨i.toArray⟩,.int .i64 d,.int .i64 g] w fun e w'=>e=.returned (.bool (dq m (i,d) g)) /\ Below w.heap.size w w':=by
 replace h:=j8 h 75
 obtain⟨M,Z,a2,p2,a3,p3,D,n2,n3,wx,rfl,h,l1,l2,l3,l,H,I,K,a,aa,L,u,N,O,P⟩:=h
 try rw[l.out]
 try rw[H.out]
 try rw[I.out]
 clear h;have V:=ae (mM wx i X);obtain⟨f,q⟩:=aH (dq m (i,d) g);rw[q];have j:=ae q;obtain⟨Y,p⟩:=aH (fe i);rw[p] at V;have t:=ae p;clear q p N O P
 go_enter func226,ntmps226
 go_wp2_with fail;rw[<- K.out];refine V.out.mono ?_;rintro e E ⟨rfl,c⟩
 have m0:E.cell? ⟨w.heap.size,0,none⟩=some (.slice M D Z):=by
  have:=(u.out.keep (c.block _ u.out.lt)).cell 0;simpa using this
 have B:=L.out.keep (w':=E) fun b _ W=>c.block b W
 have G:=ae B;clear B;cases Y with
 |false=>
  have U:=t.out;obtain rfl:f=false:=by rw[<- j.out];simp[dq,U]
  clear V;go_wp2_with fail
  go_ret
  exact⟨rfl,a.out.trans (c.mono a.out.size)⟩
 |true=>
  by_cases x:0 <= d
  ·by_cases Q:d<(D:Int)
   ·by_cases y:1 <= g
    ·obtain⟨k,rfl⟩:=Int.eq_ofNat_of_zero_le x;have A:k<m.seen.length:=by rw[l.out];omega
     obtain⟨b,ag,rfl,-,-,z⟩:=ie G.out.seen (by omega);have S:=z k A;obtain⟨s,r⟩:=aH m.seen[k];rw[r] at S;have J:=ae (show m.seen.getD k 0=s by rw[List.getD_eq_getElem?_getD,List.getElem?_eq_getElem A,r];rfl)
     have C:=ae (show f=decide (g <= s) by
      rw[<- j.out];unfold dq;rw[t.out];have T:((k:Int)).toNat=k:=by omega
      simp only[T,J.out,l.out];simp[y]
      omega)
     clear z r V
     by_cases n:g <= s
     ·have o:f=true:=by rw[C.out];simpa using n
      subst o;go_wp2_with fail
      go_ret
      exact⟨rfl,a.out.trans (c.mono a.out.size)⟩
     ·have o:f=false:=by rw[C.out];simpa using n
      subst o;go_wp2_with fail
      go_ret
      exact⟨iM (by simpa using n),a.out.trans (c.mono a.out.size)⟩
    ·
     obtain rfl:f=false:=by rw[<- j.out];simp[dq,y]
     clear V;go_wp2_with fail
     go_ret
     exact⟨rfl,a.out.trans (c.mono a.out.size)⟩
   ·have R:¬d<((m.seen.length:Nat):Int):=by rw[l.out];exact Q
    obtain rfl:f=false:=by rw[<- j.out];simp[dq,R]
    clear V;go_wp2_with fail
    go_ret
    exact⟨rfl,a.out.trans (c.mono a.out.size)⟩
  ·
   obtain rfl:f=false:=by rw[<- j.out];simp[dq,x]
   clear V;go_wp2_with fail
   go_ret
   exact⟨rfl,a.out.trans (c.mono a.out.size)⟩
theorem nk{α:Type}{b:α -> RPl}:∀(l:List α)(p:RPl)(k:Nat)(a:k<l.length),(∀j (d:j<l.length),j<k -> b l[j]≠p) -> b l[k]=p -> dh b l p=some l[k]
 |[],_,k,a,_,_=>by simp at a
 |x::l,p,0,a,_,h=>by rw[cC,if_pos (by simpa using h)];rfl
 |x::l,p,k+1,a,c,h=>by
  rw[cC,if_neg (show b x≠p from c 0 (Nat.succ_pos _) (by omega))];have:=nk l p k (by simpa using a) (fun j d e=>c (j+1) (by simpa using d) (by omega)) (by simpa using h);simpa using this
theorem wj{α:Type}{b:α -> RPl}(l:List α)(p:RPl)(h:∀j (a:j<l.length),b l[j]≠p):dh b l p=none:=
 gP.2 fun x c=>by
  obtain⟨j,a,rfl⟩:=List.mem_iff_getElem.1 c;exact h j a
theorem rg(h:dl F w v m)(c:bR)(a:Int):
 Calls aE 186 #[v,.string ⟨c.toArray⟩,.int .i64 a] w fun e T=>e=.returned (.int .i64 (m.buried (c,a))) /\ Below w.heap.size w T:=by
 replace h:=j8 h 75
 obtain⟨Y,p1,Z,p2,a3,p3,n1,n2,p,U,rfl,h,l1,l2,l3,K,L,r,M,B,X,d,W,N,O,c2⟩:=h
 try rw[K.out]
 try rw[L.out]
 try rw[r.out]
 clear h N O;obtain⟨s,y⟩:=aH (m.buried (c,a));rw[y];have C:=ae y;clear y
 go_enter func186,ntmps186
 go_wp2_with fail;rw[<- M.out]
 go_loopw [7] (fun i wr=>∃k:Nat,k <= p /\ i=.int .i64 (k:Int) /\ wr=U /\ ∀j (f:j<m.gone.length),j<k -> m.gone[j].pl≠(c,a)) (fun i _=>p-(intOf i).toNat)
 case atStart=>exact⟨0,by omega,rfl,rfl,fun j _ f=>by omega⟩
 case round=>
  obtain⟨k,hk,rfl,rfl,H⟩:=hrel;have q:=ae H;clear H
  by_cases S:k<p
  ·have R:(k:Int)<(p:Int):=by omega
   have J:k<m.gone.length:=by rw[r.out];exact S
   obtain⟨b,aa,rfl,-,-,I⟩:=gn d.out.gone (by omega);obtain⟨D,E,G⟩:=I k J;obtain⟨x,z⟩:=aH m.gone[k];rw[z] at D E G;have V:=d;clear d;have d:=ae z;clear I z;obtain⟨o,n,A⟩:=x;dsimp only at D E G
   by_cases g:o=c
   ·have P:(o == c)=true:=by simpa using g
    by_cases l:n=a
    ·have Q:(n == a)=true:=by simpa using l
     obtain rfl:s=A:=by
      rw[<- C.out];unfold aU.buried;rw[nk m.gone (c,a) k J q.out (by rw[d.out];show(o,n)=_;rw[g,l]),d.out]
     clear g l;go_wp2_with fail
     go_ret
     exact⟨rfl,B.out⟩
    ·have Q:(n == a)=false:=by simpa using l
     have t:=ae (show RGo.pl ⟨o,n,A⟩≠(c,a) from fun e=>l (Prod.mk.inj e).2);clear g l;go_wp2_with fail
     go_roundw
     case rel=>exact⟨k+1,by omega,by go_num,by trivial,fun j f u=>by
      rcases Nat.lt_succ_iff_lt_or_eq.1 u with h|h
      ·exact q.out j f h
      ·subst h;rw[d.out];exact t.out⟩
     case measure=>simp[intOf];omega
   ·have P:(o == c)=false:=by simpa using g
    have t:=ae (show RGo.pl ⟨o,n,A⟩≠(c,a) from fun e=>g (Prod.mk.inj e).1);clear g;go_wp2_with fail
    go_roundw
    case rel=>exact⟨k+1,by omega,by go_num,by trivial,fun j f u=>by
     rcases Nat.lt_succ_iff_lt_or_eq.1 u with h|h
     ·exact q.out j f h
     ·subst h;rw[d.out];exact t.out⟩
    case measure=>simp[intOf];omega
  ·have R:¬(k:Int)<(p:Int):=by omega
   obtain rfl:s=0:=by
    rw[<- C.out];unfold aU.buried;rw[wj m.gone (c,a) fun j f=>q.out j f (by rw[r.out] at f;omega)]
   go_wp2_with fail
   go_ret
   exact⟨rfl,B.out⟩
end
section
attribute [local go_sem] opC upC told bG br bH bt bw bI bJ
theorem gt(h:gJ r=true -> False):gJ r=false:=by
 cases a:gJ r with
 |false=>rfl
 |true=>exact(h a).elim
theorem ym(h:dl F w v m)(bY:m.items.length <= 1000000)(bZ:m.gone.length <= 1000000)(bJ:∀x∈m.items,x.key.length <= 1000000000)(bI:∀x∈m.gone,x.key.length <= 1000000000):
 Calls aE 211 #[v] w fun e c=>e=.returned (.bool (gJ m)) /\ Below w.heap.size w c:=by
 replace h:=h.mono (G:=fun b=>b<w.heap.size) fun b _ s=>s
 obtain⟨R,bi⟩:=aH (gJ m);rw[bi];have P:=ae bi;have bU:=ae bJ;have bT:=ae bI
 replace h:=j8 h 75
 obtain⟨a1,p1,a2,p2,a3,p3,n1,M,N,wx,rfl,h,l1,l2,l3,aT,aV,aW,bB,bv,bD,o,bA,c0,c1,c2⟩:=h
 try rw[aT.out]
 try rw[aV.out]
 try rw[aW.out]
 rw[aV.out] at bY;rw[aW.out] at bZ;have bp:=ae h.itemsB;have bn:=ae h.goneB
 have S:=ae (show ∀c,Below (w.heap.size+1) wx c -> (c.cell? ⟨w.heap.size,0,none⟩=some (.slice a1 n1 p1) /\ c.cell? ⟨w.heap.size,1,none⟩=some (.slice a2 M p2) /\ c.cell? ⟨w.heap.size,2,none⟩=some (.slice a3 N p3)) /\ cG (fun b=>b<w.heap.size) c (.slice a1 n1 p1) (.slice a2 M p2) (.slice a3 N p3) m from fun c hb=>by
  have hk:=bA.out.keep (hb.block _ (by omega));have k0:=hk.cell 0;have k1:=hk.cell 1;have k2:=hk.cell 2;simp at k0 k1 k2
  exact⟨⟨k0,k1,k2⟩,o.out.keep fun b b6 s=>hb.block b (by omega)⟩)
 have H0:=ae (show Below (w.heap.size+1) wx wx from Below.refl _ _);have K:=ae (show ∀c,Below (w.heap.size+1) wx c -> Below w.heap.size w c from fun c hb=>bv.out.trans (hb.mono (Nat.le_succ _)));have az:=ae (show wx.heap.size=w.heap.size+1 from bD.out);clear h bi bJ bI o bA c1 c2 bv bD
 go_enter func211,ntmps211
 by_cases bK:n1=8
 case neg=>
  have hI:¬(n1:Int)=8:=by omega
  have b5:((n1:Int) != 8)=true:=by simp[hI]
  obtain rfl:R=false:=by
   rw[<- P.out];refine gt fun t=>?_
   have r:=(ei m).1 t;exact bK (by rw[<- aT.out];exact r.len)
  go_wp2_with fail;rw[<- bB.out]
  go_ret
  exact⟨rfl,K.out _ H0.out⟩
 subst bK;go_wp2_with fail;rw[<- bB.out];clear c0
 go_loopw [3] (fun i wr=>∃k:Nat,k <= 8 /\ i=.int .i64 (k:Int) /\ wr=wx /\ ∀j (d:j<m.seen.length),j<k -> j4 m.seen[j]=true) (fun i _=>8-(intOf i).toNat)
 case atStart=>exact⟨0,by omega,rfl,rfl,fun j _ d=>by omega⟩
 case round=>
  obtain⟨k,hk,rfl,rfl,ad⟩:=hrel;have O:=ae ad;clear ad;obtain⟨⟨V,X,d2⟩,E⟩:=S.out _ H0.out
  by_cases ak:k<8
  ·have ai:(k:Int)<8:=by omega
   have A:k<m.seen.length:=by rw[aT.out];exact ak
   obtain⟨b,an,rfl,-,-,Q⟩:=ie E.seen (by omega);have e0:=Q k A;obtain⟨x,p⟩:=aH m.seen[k];rw[p] at e0;have o:=ae p;clear Q p E
   by_cases hs:0 <= x /\ x <= 1099511627776
   ·obtain⟨s1,s2⟩:=hs;have b7:¬x<0:=by omega
    have b8:¬x>1099511627776:=by omega
    have Hs:=ae (show j4 x=true by unfold j4;exact decide_eq_true ⟨s1,s2⟩);clear s1 s2;go_wp2_with fail
    go_roundw
    case rel=>exact⟨k+1,by omega,by go_num,by trivial,fun j d H=>by
     rcases Nat.lt_succ_iff_lt_or_eq.1 H with h|h
     ·exact O.out j d h
     ·subst h;rw[o.out];exact Hs.out⟩
    case measure=>simp[intOf];omega
   ·
    obtain rfl:R=false:=by
     rw[<- P.out];refine gt fun t=>?_
     have r:=(ei m).1 t;exact hs (r.seen x (by rw[<- o.out];exact aC A))
    by_cases s1:x<0
    ·go_wp2_with fail
     go_ret
     exact⟨rfl,K.out _ H0.out⟩
    ·have s2:x>1099511627776:=by omega
     go_wp2_with fail
     go_ret
     exact⟨rfl,K.out _ H0.out⟩
  ·have ai:¬(k:Int)<8:=by omega
   have bV:=ae (show m.seen.all j4=true by
    rw[List.all_eq_true];intro x p;obtain⟨j,d,rfl⟩:=List.mem_iff_getElem.1 p
    exact O.out j d (by rw[aT.out] at d;omega))
   clear E O ak hk;go_wp2_with fail;clear V X d2 ai
   go_loopw [4] (fun i wq=>∃k:Nat,k <= N /\ i=.int .i64 (k:Int) /\ Below (w.heap.size+1) wr wq /\ (∀j (d:j<m.gone.length),j<k -> mV m m.gone[j]=true) /\ ∀j (d:j+1<m.gone.length),j+1<k -> plt m.gone[j].pl m.gone[j+1].pl) (fun i _=>N-(intOf i).toNat)
   case atStart=>exact⟨0,by omega,rfl,H0.out,fun j _ d=>by omega,fun j _ d=>by omega⟩
   case round=>
    rename World=>wq
    obtain⟨k,hk,rfl,bG,ad,a5⟩:=hrel;have O:=ae ad;have av:=ae bG;have ay:=ae a5;clear ad bG a5;obtain⟨⟨V,X,d2⟩,E⟩:=S.out _ av.out
    by_cases ak:k<N
    ·have ai:(k:Int)<(N:Int):=by omega
     have A:k<m.gone.length:=by rw[aW.out];exact ak
     obtain⟨b,an,rfl,a4,-,Q⟩:=gn E.gone (by omega);obtain⟨e0,e1,e2⟩:=Q k A;obtain⟨x,p⟩:=aH m.gone[k];rw[p] at e0 e1 e2;have o:=ae p;obtain⟨l,ab⟩:=aQ (wq.alloc (.cells #[.string ⟨x.key.toArray⟩,.int .i64 x.dev,.int .i64 x.seq] 130));have aa:Below (w.heap.size+1) wr l:=by rw[ab];exact av.out.alloc (by have:=av.out.size;have:=az.out;omega) _
     have C:Blk l wq.heap.size [.string ⟨x.key.toArray⟩,.int .i64 x.dev,.int .i64 x.seq] 130:=by rw[ab];exact Blk.new _ _ _
     have I:=C.cell 0;have J:=C.cell 1;have x2:=C.cell 2;simp at I J x2;obtain⟨⟨m0,m1,m2⟩,-⟩:=S.out _ aa;have ao:∀c,aJ l.drew c -> c.cell? _=_:=fun c hh=>aZ I hh
     have ar:∀c,aJ l.drew c -> c.cell? _=_:=fun c hh=>aZ J hh
     have ba:∀c,aJ l.drew c -> c.cell? _=_:=fun c hh=>aZ x2 hh
     have a9:∀c,aJ l.drew c -> c.cell? _=_:=fun c hh=>aZ m0 hh
     have aI:∀c,aJ l.drew c -> c.cell? _=_:=fun c hh=>aZ m1 hh
     have a6:∀c,aJ l.drew c -> c.cell? _=_:=fun c hh=>aZ m2 hh
     have a7:x∈m.gone:=by rw[<- p];exact aC A
     have aO:=ae (rf l.drew _ (.agg #[.slice a1 8 p1,.slice a2 M p2,.slice (some ⟨b,an,none⟩) N p3]) m ⟨_,_,_,rfl,((S.out _ aa).2.keep (w':=l.drew) fun _ _ _=>rfl)⟩ x.key x.dev x.seq (bT.out x a7) (bn.out x a7).2.1 (bn.out x a7).2.2);have HC:=ae Q;have bd:=ae ab;have aP:=ae aa;have bW:=ae (show wq.heap.size<l.heap.size from C.lt);have aR:=ae a4;clear Q p ab aa C I J x2 m0 m1 m2 V X E a7 a4;go_wp2_with fail;rw[<- bd.out];refine bS aJ (up 7 [507,8,9,10,11,12,13,14,15,16,17,18,19,20,21,22,23,24,25,26,27,28,29,30,531,32,33,34]) (by kernel_rfl) ?_;apply aG;rfl;intro c f;go_simp;exact aF
     repeat (apply bE;rfl;rfl;go_simp;go_simp;rfl;apply aG;rfl;intro c f;go_simp;exact aF)
     refine bq rfl rfl (fun U B=>?_);go_simp;refine aO.out.mono ?_;rintro e n ⟨rfl,Y⟩;refine⟨_,rfl,Y,B _ _ ?_⟩;clear B U aO;go_simp;have Z:Below (w.heap.size+1) wr n:=aP.out.drew.trans (Y.mono (by have:=aP.out.size;have:=az.out;show _ <= l.heap.size;omega));have T:=ae Z;have D:aJ l.drew n:=Y;have aL:∀c,aJ n c -> c.cell? _=_:=fun c hh=>ao c (bC _ _ _ D hh)
     have aM:∀c,aJ n c -> c.cell? _=_:=fun c hh=>ar c (bC _ _ _ D hh)
     have aK:∀c,aJ n c -> c.cell? _=_:=fun c hh=>a6 c (bC _ _ _ D hh)
     have a0:∀c,aJ n c -> Below (w.heap.size+1) wr c:=fun c hh=>Z.trans (RowKit.Below.mono hh (by have:=Z.size;have:=az.out;omega))
     have bb:=ae a0;clear Y Z D ao ar ba a9 aI a6 a0;obtain⟨kn,al⟩:=aH (dq m (x.key,x.dev) x.seq);rw[al];have aS:=ae (show dq m x.pl x.seq=kn from al);clear al;cases kn with
     |false=>
      clear aL aM aK;apply aG;rfl;intro c f;go_simp;(repeat (simp(disch:=omega) only[af,if_pos];go_simp));exact aF
      repeat (apply bE;rfl;rfl;go_simp;go_simp;rfl;apply aG;rfl;intro c f;go_simp;(repeat (simp(disch:=omega) only[af,if_pos];go_simp));exact aF)
      obtain rfl:R=false:=by
       rw[<- P.out];refine gt fun t=>?_
       have r:=(ei m).1 t;have z:=r.gknown x (by rw[<- o.out];exact aC A);rw[aS.out] at z;cases z
      refine aY ?_;go_wp2_with fail
      go_ret
      exact⟨rfl,K.out _ T.out⟩
     |true=>
      have bw:=ae (show mV m x=true from aS.out);rcases Nat.eq_zero_or_pos k with rfl|bX
      ·clear aL aM aK;apply aG;rfl;intro c f;go_simp;(repeat (simp(disch:=omega) only[af,if_pos];go_simp));exact aF
       repeat (apply bE;rfl;rfl;go_simp;go_simp;rfl;apply aG;rfl;intro c f;go_simp;(repeat (simp(disch:=omega) only[af,if_pos];go_simp));exact aF)
       refine aY ?_;go_wp2_with fail
       go_roundw
       case rel=>exact⟨1,by omega,by go_num,T.out,fun j d H=>by
        obtain rfl:j=0:=by omega
        rw[o.out];exact bw.out,fun j d H=>by omega⟩
       case measure=>simp[intOf];omega
      ·obtain⟨q,rfl⟩:∃q,k=q+1:=⟨k-1,by omega⟩
       have bj:q<m.gone.length:=by omega
       obtain⟨f0,f1,f2⟩:=HC.out q bj;obtain⟨y,hy⟩:=aH m.gone[q];rw[hy] at f0 f1 f2;have Hy:=ae hy;have bg:∀{a:Addr}{u:Value},wq.cell? a=some u -> a.block<w.heap.size -> ∀c,aJ n c -> c.cell? a=some u:=fun h s c hh=>kM av.out (bb.out c hh) (by omega) h
       have bk:∀c,aJ n c -> c.cell? _=_:=bg f0 aR.out
       have bl:∀c,aJ n c -> c.cell? _=_:=bg f1 aR.out
       have b3:IntKind.i64.wrap (((q+1:Nat):Int)-1)=(q:Int):=by rw[af _ (by omega)];omega
       have b2:IntKind.i64.wrap (q:Int)=(q:Int):=af _ (by omega);have b1:(q:Int)<(N:Int):=by omega
       have b0:((q+1:Nat):Int)>0:=by omega
       have aN:=ae (fun W=>ni W y.key x.key y.dev x.dev);clear f0 f1 f2 hy bg;apply aG;rfl;intro c f;go_simp;(repeat (simp(disch:=omega) only[af,if_pos];go_simp));exact aF
       repeat (apply bE;rfl;rfl;go_simp;go_simp;rfl;apply aG;rfl;intro c f;go_simp;(repeat (simp(disch:=omega) only[af,if_pos];go_simp));exact aF)
       refine bq rfl rfl (fun U B=>?_);go_simp;refine(aN.out _).mono ?_;rintro e w5 ⟨rfl,rfl⟩;refine⟨_,rfl,bF _,B _ _ ?_⟩;clear B U aL aM aK bk bl aN;go_simp
       by_cases s:plt y.pl x.pl
       ·have L:decide (plt (y.key,y.dev) (x.key,x.dev))=true:=decide_eq_true s;rw[L];have bc:=ae s;clear L s;apply aG;rfl;intro c f;go_simp;(repeat (simp(disch:=omega) only[af,if_pos];go_simp));exact aF
        repeat (apply bE;rfl;rfl;go_simp;go_simp;rfl;apply aG;rfl;intro c f;go_simp;(repeat (simp(disch:=omega) only[af,if_pos];go_simp));exact aF)
        refine aY ?_;go_wp2_with fail
        go_roundw
        case rel=>exact⟨q+1+1,by omega,by go_num,T.out,fun j d H=>by
         rcases Nat.lt_succ_iff_lt_or_eq.1 H with h|h
         ·exact O.out j d h
         ·subst h;rw[o.out];exact bw.out,fun j d H=>by
         rcases Nat.lt_succ_iff_lt_or_eq.1 H with h|h
         ·exact ay.out j d h
         ·obtain rfl:j=q:=by omega
          rw[o.out,Hy.out];exact bc.out⟩
        case measure=>simp[intOf];omega
       ·have L:decide (plt (y.key,y.dev) (x.key,x.dev))=false:=decide_eq_false s;rw[L]
        obtain rfl:R=false:=by
         rw[<- P.out];refine gt fun t=>?_
         have r:=(ei m).1 t;have z:=iK RGo.pl r.gone q A;rw[o.out,Hy.out] at z;exact s z
        clear L s;apply aG;rfl;intro c f;go_simp;(repeat (simp(disch:=omega) only[af,if_pos];go_simp));exact aF
        repeat (apply bE;rfl;rfl;go_simp;go_simp;rfl;apply aG;rfl;intro c f;go_simp;(repeat (simp(disch:=omega) only[af,if_pos];go_simp));exact aF)
        refine aY ?_;go_wp2_with fail
        go_ret
        exact⟨rfl,K.out _ T.out⟩
    ·have ai:¬(k:Int)<(N:Int):=by omega
     have bx:=ae (show(∀g∈m.gone,mV m g=true) /\ Asc RGo.pl m.gone by
      refine⟨fun x p=>?_,jQ _ _ fun j d=>ay.out j d (by rw[aW.out] at d;omega)⟩;obtain⟨j,d,rfl⟩:=List.mem_iff_getElem.1 p
      exact O.out j d (by rw[aW.out] at d;omega))
     clear E O ak hk ay;go_wp2_with fail;clear V X d2 ai
     go_loopw [6] (fun i wu=>∃k:Nat,k <= M /\ i=.int .i64 (k:Int) /\ Below (w.heap.size+1) wr wu /\ (∀j (d:j<m.items.length),j<k -> lQ m m.items[j]=true) /\ ∀j (d:j+1<m.items.length),j+1<k -> plt m.items[j].pl m.items[j+1].pl) (fun i _=>M-(intOf i).toNat)
     case atStart=>exact⟨0,by omega,rfl,av.out,fun j _ d=>by omega,fun j _ d=>by omega⟩
     case round=>
      rename World=>wu
      obtain⟨k,hk,rfl,bH,ad,a5⟩:=hrel;have O:=ae ad;have ax:=ae bH;have ay:=ae a5;clear ad bH av a5;obtain⟨⟨V,X,d2⟩,E⟩:=S.out _ ax.out
      by_cases ak:k<M
      ·have ai:(k:Int)<(M:Int):=by omega
       have A:k<m.items.length:=by rw[aV.out];exact ak
       obtain⟨b,an,rfl,a4,-,Q⟩:=fB E.items (by omega);obtain⟨e0,e1,e2,e3⟩:=Q k A;obtain⟨x,p⟩:=aH m.items[k];rw[p] at e0 e1 e2 e3;have o:=ae p;obtain⟨l,ab⟩:=aQ (wu.alloc (.cells #[.string ⟨x.key.toArray⟩,.int .i64 x.dev,.int .i64 x.seq,.int .i64 x.val] 129));have aa:Below (w.heap.size+1) wr l:=by rw[ab];exact ax.out.alloc (by have:=ax.out.size;have:=az.out;omega) _
       have C:Blk l wu.heap.size [.string ⟨x.key.toArray⟩,.int .i64 x.dev,.int .i64 x.seq,.int .i64 x.val] 129:=by rw[ab];exact Blk.new _ _ _
       have a8:x∈m.items:=by rw[<- p];exact aC A
       have bs:=ae (show ∀c,aJ l c -> Blk c wu.heap.size [.string ⟨x.key.toArray⟩,.int .i64 x.dev,.int .i64 x.seq,.int .i64 x.val] 129 from fun c hh=>C.keep (hh.block _ C.lt));have I:=C.cell 0;have J:=C.cell 1;have x2:=C.cell 2;have x3:=C.cell 3;simp at I J x2 x3;obtain⟨⟨m0,m1,m2⟩,-⟩:=S.out _ aa;have ao:∀c,aJ l.drew c -> c.cell? _=_:=fun c hh=>aZ I hh
       have ar:∀c,aJ l.drew c -> c.cell? _=_:=fun c hh=>aZ J hh
       have ba:∀c,aJ l.drew c -> c.cell? _=_:=fun c hh=>aZ x2 hh
       have bL:∀c,aJ l.drew c -> c.cell? _=_:=fun c hh=>aZ x3 hh
       have a9:∀c,aJ l.drew c -> c.cell? _=_:=fun c hh=>aZ m0 hh
       have aI:∀c,aJ l.drew c -> c.cell? _=_:=fun c hh=>aZ m1 hh
       have a6:∀c,aJ l.drew c -> c.cell? _=_:=fun c hh=>aZ m2 hh
       have aO:=ae (rf l.drew _ (.agg #[.slice a1 8 p1,.slice (some ⟨b,an,none⟩) M p2,.slice a3 N p3]) m ⟨_,_,_,rfl,((S.out _ aa).2.keep (w':=l.drew) fun _ _ _=>rfl)⟩ x.key x.dev x.seq (bU.out x a8) (bp.out x a8).2.1 (bp.out x a8).2.2.1);have HC:=ae Q;have bd:=ae ab;have aP:=ae aa;have bW:=ae (show wu.heap.size<l.heap.size from C.lt);have aR:=ae a4;clear Q p ab aa C I J x2 x3 m0 m1 m2 V d2 E a8 a4;go_wp2_with fail;rw[<- bd.out];refine bS aJ (up 7 [507,8,9,10,11,12,13,14,15,16,17,18,19,20,21,22,23,24,25,26,527,28,29]) (by kernel_rfl) ?_;apply aG;rfl;intro c f;go_simp;exact aF
       repeat (apply bE;rfl;rfl;go_simp;go_simp;rfl;apply aG;rfl;intro c f;go_simp;exact aF)
       refine bq rfl rfl (fun U B=>?_);go_simp;refine aO.out.mono ?_;rintro e n ⟨rfl,Y⟩;refine⟨_,rfl,Y,B _ _ ?_⟩;clear B U aO;go_simp;have Z:Below (w.heap.size+1) wr n:=aP.out.drew.trans (Y.mono (by have:=aP.out.size;have:=az.out;show _ <= l.heap.size;omega));have T:=ae Z;have D:aJ l.drew n:=Y;have aL:∀c,aJ n c -> c.cell? _=_:=fun c hh=>ao c (bC _ _ _ D hh)
       have aM:∀c,aJ n c -> c.cell? _=_:=fun c hh=>ar c (bC _ _ _ D hh)
       have bO:∀c,aJ n c -> c.cell? _=_:=fun c hh=>ba c (bC _ _ _ D hh)
       have bP:∀c,aJ n c -> c.cell? _=_:=fun c hh=>bL c (bC _ _ _ D hh)
       have bM:∀c,aJ n c -> c.cell? _=_:=fun c hh=>a9 c (bC _ _ _ D hh)
       have bN:∀c,aJ n c -> c.cell? _=_:=fun c hh=>aI c (bC _ _ _ D hh)
       have aK:∀c,aJ n c -> c.cell? _=_:=fun c hh=>a6 c (bC _ _ _ D hh)
       have a0:∀c,aJ n c -> Below (w.heap.size+1) wr c:=fun c hh=>Z.trans (RowKit.Below.mono hh (by have:=Z.size;have:=az.out;omega))
       have bb:=ae a0;have bR:=ae (show ∀c,aJ n c -> Blk c wu.heap.size [.string ⟨x.key.toArray⟩,.int .i64 x.dev,.int .i64 x.seq,.int .i64 x.val] 129 from fun c hh=>bs.out c (bC _ _ _ ((Below.refl _ _).drew) (bC _ _ _ D hh)));clear Y Z D ao ar ba bL a9 aI a6 a0 bs;obtain⟨kn,al⟩:=aH (dq m (x.key,x.dev) x.seq);rw[al];have aS:=ae (show dq m x.pl x.seq=kn from al);clear al;cases kn with
       |false=>
        clear aL aM bO bP bM bN aK;apply aG;rfl;intro c f;go_simp;(repeat (simp(disch:=omega) only[af,if_pos];go_simp));exact aF
        repeat (apply bE;rfl;rfl;go_simp;go_simp;rfl;apply aG;rfl;intro c f;go_simp;(repeat (simp(disch:=omega) only[af,if_pos];go_simp));exact aF)
        obtain rfl:R=false:=by
         rw[<- P.out];refine gt fun t=>?_
         have r:=(ei m).1 t;have z:=r.iknown x (by rw[<- o.out];exact aC A);rw[aS.out] at z;cases z
        refine aY ?_;go_wp2_with fail
        go_ret
        exact⟨rfl,K.out _ T.out⟩
       |true=>
        by_cases v1:x.val<1
        ·have bm:decide (x.val<1)=true:=by simpa using v1
         obtain rfl:R=false:=by
          rw[<- P.out];refine gt fun t=>?_
          have r:=(ei m).1 t;have z:=r.val x (by rw[<- o.out];exact aC A);omega
         apply aG;rfl;intro c f;go_simp;(repeat (simp(disch:=omega) only[af,if_pos];go_simp));exact aF
         repeat (apply bE;rfl;rfl;go_simp;go_simp;rfl;apply aG;rfl;intro c f;go_simp;(repeat (simp(disch:=omega) only[af,if_pos];go_simp));exact aF)
         refine aY ?_;go_wp2_with fail
         go_ret
         exact⟨rfl,K.out _ T.out⟩
        ·by_cases v2:x.val>16777216
         ·have bm:decide (x.val<1)=false:=by simpa using v1
          have bQ:decide (x.val>16777216)=true:=by simpa using v2
          obtain rfl:R=false:=by
           rw[<- P.out];refine gt fun t=>?_
           have r:=(ei m).1 t;have z:=r.val x (by rw[<- o.out];exact aC A);omega
          apply aG;rfl;intro c f;go_simp;(repeat (simp(disch:=omega) only[af,if_pos];go_simp));exact aF
          repeat (apply bE;rfl;rfl;go_simp;go_simp;rfl;apply aG;rfl;intro c f;go_simp;(repeat (simp(disch:=omega) only[af,if_pos];go_simp));exact aF)
          refine aY ?_;go_wp2_with fail
          go_ret
          exact⟨rfl,K.out _ T.out⟩
         ·have bm:decide (x.val<1)=false:=by simpa using v1
          have bQ:decide (x.val>16777216)=false:=by simpa using v2
          have Hv:=ae (show 1 <= x.val /\ x.val <= 16777216 by omega);have bo:=ae (rg n _ (.agg #[.slice a1 8 p1,.slice (some ⟨b,an,none⟩) M p2,.slice a3 N p3]) m ⟨_,_,_,rfl,(S.out _ T.out).2⟩ x.key x.dev);apply aG;rfl;intro c f;go_simp;(repeat (simp(disch:=omega) only[af,if_pos];go_simp));exact aF
          repeat (apply bE;rfl;rfl;go_simp;go_simp;rfl;apply aG;rfl;intro c f;go_simp;(repeat (simp(disch:=omega) only[af,if_pos];go_simp));exact aF)
          refine bq rfl rfl (fun U B=>?_);go_simp;refine bo.out.mono ?_;rintro e w7 ⟨rfl,be⟩;refine⟨_,rfl,be,B _ _ ?_⟩;clear B U bo aL aM bO bP bM bN aK v1 v2 bm bQ;go_simp;have bh:aJ n w7:=be;have ag:=ae (bb.out _ bh);have br:=ae (bR.out _ bh);clear be bh;obtain⟨bu,bf⟩:=aH (m.buried (x.key,x.dev));rw[bf];have bt:=ae (show m.buried x.pl=bu from bf);clear bf
          by_cases v3:x.seq <= bu
          ·have b4:decide (x.seq <= bu)=true:=by simpa using v3
           obtain rfl:R=false:=by
            rw[<- P.out];refine gt fun t=>?_
            have r:=(ei m).1 t;have z:=r.above x (by rw[<- o.out];exact aC A);rw[bt.out] at z;omega
           apply aG;rfl;intro c f;go_simp;exact aF
           repeat (apply bE;rfl;rfl;go_simp;go_simp;rfl;apply aG;rfl;intro c f;go_simp;exact aF)
           refine aY ?_;go_wp2_with fail
           go_ret
           exact⟨rfl,K.out _ ag.out⟩
          ·have b4:decide (x.seq <= bu)=false:=by simpa using v3
           have bz:=ae (show lQ m x=true by
            unfold lQ;rw[aS.out,bt.out];have:=Hv.out;simp
            omega)
           clear v3;apply aG;rfl;intro c f;go_simp;exact aF
           repeat (apply bE;rfl;rfl;go_simp;go_simp;rfl;apply aG;rfl;intro c f;go_simp;exact aF)
           refine aY ?_;obtain⟨⟨V,X,d2⟩,E⟩:=S.out _ ag.out;have I:=br.out.cell 0;have J:=br.out.cell 1;simp at I J;rcases Nat.eq_zero_or_pos k with rfl|bX
           ·clear V X d2 E I J;go_wp2_with fail;refine bS aJ (up 21 [521,22,23]) (by kernel_rfl) ?_;apply aG;rfl;intro c f;go_simp;(repeat (simp(disch:=omega) only[af,if_pos];go_simp));exact aF
            repeat (apply bE;rfl;rfl;go_simp;go_simp;rfl;apply aG;rfl;intro c f;go_simp;(repeat (simp(disch:=omega) only[af,if_pos];go_simp));exact aF)
            refine aY ?_;go_wp2_with fail
            go_roundw
            case rel=>exact⟨1,by omega,by go_num,ag.out.drew,fun j d H=>by
             obtain rfl:j=0:=by omega
             rw[o.out];exact bz.out,fun j d H=>by omega⟩
            case measure=>simp[intOf];omega
           ·obtain⟨q,rfl⟩:∃q,k=q+1:=⟨k-1,by omega⟩
            have bj:q<m.items.length:=by omega
            obtain⟨f0,f1,f2,f3⟩:=HC.out q bj;obtain⟨y,hy⟩:=aH m.items[q];rw[hy] at f0 f1 f2 f3;have Hy:=ae hy;have g0:=kM ax.out ag.out (a:=⟨b,an+q*4,none⟩) (by show b<_;have:=aR.out;omega) f0;have g1:=kM ax.out ag.out (a:=⟨b,an+q*4+1,none⟩) (by show b<_;have:=aR.out;omega) f1;have ao:∀c,aJ w7.drew c -> c.cell? _=_:=fun c hh=>aZ I hh
            have ar:∀c,aJ w7.drew c -> c.cell? _=_:=fun c hh=>aZ J hh
            have aI:∀c,aJ w7.drew c -> c.cell? _=_:=fun c hh=>aZ X hh
            have bk:∀c,aJ w7.drew c -> c.cell? _=_:=fun c hh=>aZ g0 hh
            have bl:∀c,aJ w7.drew c -> c.cell? _=_:=fun c hh=>aZ g1 hh
            have b3:IntKind.i64.wrap (((q+1:Nat):Int)-1)=(q:Int):=by rw[af _ (by omega)];omega
            have b2:IntKind.i64.wrap (q:Int)=(q:Int):=af _ (by omega);have b1:(q:Int)<(M:Int):=by omega
            have b0:((q+1:Nat):Int)>0:=by omega
            have aN:=ae (fun W=>ni W y.key x.key y.dev x.dev);clear f0 f1 f2 f3 hy g0 g1 V X d2 I J E e0 e1 e2 e3;go_wp2_with fail;refine bS aJ (up 21 [521,22,23]) (by kernel_rfl) ?_;apply aG;rfl;intro c f;go_simp;(repeat (simp(disch:=omega) only[af,if_pos];go_simp));exact aF
            repeat (apply bE;rfl;rfl;go_simp;go_simp;rfl;apply aG;rfl;intro c f;go_simp;(repeat (simp(disch:=omega) only[af,if_pos];go_simp));exact aF)
            refine bq rfl rfl (fun U B=>?_);go_simp;refine(aN.out _).mono ?_;rintro e w8 ⟨rfl,rfl⟩;refine⟨_,rfl,bF _,B _ _ ?_⟩;clear B U ao ar aI bk bl aN;go_simp
            by_cases s:plt y.pl x.pl
            ·have L:decide (plt (y.key,y.dev) (x.key,x.dev))=true:=decide_eq_true s;rw[L];have bc:=ae s;clear L s;apply aG;rfl;intro c f;go_simp;(repeat (simp(disch:=omega) only[af,if_pos];go_simp));exact aF
             repeat (apply bE;rfl;rfl;go_simp;go_simp;rfl;apply aG;rfl;intro c f;go_simp;(repeat (simp(disch:=omega) only[af,if_pos];go_simp));exact aF)
             refine aY ?_;go_wp2_with fail
             go_roundw
             case rel=>exact⟨q+1+1,by omega,by go_num,ag.out.drew,fun j d H=>by
              rcases Nat.lt_succ_iff_lt_or_eq.1 H with h|h
              ·exact O.out j d h
              ·subst h;rw[o.out];exact bz.out,fun j d H=>by
              rcases Nat.lt_succ_iff_lt_or_eq.1 H with h|h
              ·exact ay.out j d h
              ·obtain rfl:j=q:=by omega
               rw[o.out,Hy.out];exact bc.out⟩
             case measure=>simp[intOf];omega
            ·have L:decide (plt (y.key,y.dev) (x.key,x.dev))=false:=decide_eq_false s;rw[L]
             obtain rfl:R=false:=by
              rw[<- P.out];refine gt fun t=>?_
              have r:=(ei m).1 t;have z:=iK RIt.pl r.items q A;rw[o.out,Hy.out] at z;exact s z
             clear L s;apply aG;rfl;intro c f;go_simp;(repeat (simp(disch:=omega) only[af,if_pos];go_simp));exact aF
             repeat (apply bE;rfl;rfl;go_simp;go_simp;rfl;apply aG;rfl;intro c f;go_simp;(repeat (simp(disch:=omega) only[af,if_pos];go_simp));exact aF)
             refine aY ?_;go_wp2_with fail
             go_ret
             exact⟨rfl,(K.out _ ag.out).drew⟩
      ·have ai:¬(k:Int)<(M:Int):=by omega
       obtain rfl:R=true:=by
        rw[<- P.out];unfold gJ;simp only[Bool.and_eq_true,decide_eq_true_eq];refine⟨⟨⟨⟨⟨aT.out,bV.out⟩,jQ _ _ fun j d=>ay.out j d (by rw[aV.out] at d;omega)⟩,bx.out.2⟩,?_⟩,?_⟩
        ·rw[List.all_eq_true];exact bx.out.1
        ·rw[List.all_eq_true];intro x p;obtain⟨j,d,rfl⟩:=List.mem_iff_getElem.1 p;exact O.out j d (by rw[aV.out] at d;omega)
       clear E;go_wp2_with fail
       go_ret
       exact⟨rfl,K.out _ ax.out⟩
theorem gY(h:dl F w v m)(P:∀x∈m.items,x.key.length <= 1000000000)(O:∀x∈m.gone,x.key.length <= 1000000000):
 Calls aE 176 #[v] w fun e U=>e=.returned (.bool (bp m)) /\ Below w.heap.size w U:=by
 replace h:=h.mono (G:=fun b=>b<w.heap.size) fun b _ u=>u
 obtain⟨a,y⟩:=aH (bp m);rw[y];have j:=ae y;have X:=ae P;have W:=ae O
 replace h:=j8 h 75
 obtain⟨H,R,I,S,J,T,Q,f,g,wx,rfl,h,l1,l2,l3,Y,c,d,q,i,ab,E,D,c0,c1,c2⟩:=h
 try rw[Y.out]
 try rw[c.out]
 try rw[d.out]
 have Hh:=ae h;clear h y P O c0
 by_cases L:f <= 4096
 case neg=>
  have hI:(f:Int)>4096:=by omega
  obtain rfl:a=false:=by
   rw[<- j.out];cases z:bp m with
   |false=>rfl
   |true=>exact absurd (by rw[<- c.out];exact(dr z).2.1) L
  go_enter func176,ntmps176
  go_wp2_with fail;rw[<- q.out]
  go_ret
  exact⟨rfl,i.out⟩
 have ad:¬(f:Int)>4096:=by omega
 by_cases M:g <= 4096
 case neg=>
  have hI:(g:Int)>4096:=by omega
  obtain rfl:a=false:=by
   rw[<- j.out];cases z:bp m with
   |false=>rfl
   |true=>exact absurd (by rw[<- d.out];exact(dr z).2.2.1) M
  go_enter func176,ntmps176
  go_wp2_with fail;rw[<- q.out]
  go_ret
  exact⟨rfl,i.out⟩
 have ag:¬(g:Int)>4096:=by omega
 have n:=ae (ym wx _ (.agg #[.slice H Q R,.slice I f S,.slice J g T]) m ⟨_,_,_,rfl,E.out⟩ (by rw[c.out];omega) (by rw[d.out];omega) X.out W.out);obtain⟨fm,t⟩:=aH (gJ m);rw[t] at n;have p:=ae t;clear t
 go_enter func176,ntmps176
 go_wp2_with fail;rw[<- q.out];refine n.out.mono ?_;rintro e V ⟨rfl,l⟩;have k:=D.out.keep (l.block _ D.out.lt);have e0:=k.cell 0;have e1:=k.cell 1;have e2:=k.cell 2;simp at e0 e1 e2;have o:=ae (i.out.trans (l.mono i.out.size));have Z:=ae (E.out.keep (w':=V) fun b _ u=>l.block b u);clear l n k c1 c2;cases fm with
 |false=>
  obtain rfl:a=false:=by rw[<- j.out];unfold bp;rw[p.out];rfl
  go_wp2_with fail
  go_ret
  exact⟨rfl,o.out⟩
 |true=>
  have A:=ae (pL V _ (.agg #[.slice H Q R,.slice I f S,.slice J g T]) m ⟨_,_,_,rfl,Z.out⟩ (fO ((ei m).1 p.out) (by rw[c.out];omega) (by rw[d.out];omega)));go_wp2_with fail;refine A.out.mono ?_;rintro e w4 ⟨⟨r,rfl,hr⟩,K⟩;obtain⟨N,s⟩:=aH ((dS m).length);obtain⟨ar,cr,rfl,-⟩:=hr;rw[s];have B:=ae (o.out.trans (K.mono o.out.size))
  have C:=ae (show a=decide (N <= 60000) by
   rw[<- j.out];unfold bp;rw[p.out,c.out,d.out,s]
   simp[L,M])
  clear s A K
  by_cases aa:(N:Int) <= 60000
  ·obtain rfl:a=true:=by rw[C.out];simp;omega
   go_wp2_with fail
   go_ret
   exact⟨iM (by simp),B.out⟩
  ·obtain rfl:a=false:=by rw[C.out];simp;omega
   go_wp2_with fail
   go_ret
   exact⟨iM (by simpa using aa),B.out⟩
end
section
open Go.Lib
attribute [local go_sem ↓] aV
attribute [local go_sem] opC upC
end
section
open Go.Lib
def ED(m:aU):Prop:=(∀x∈m.items,x.key.length <= 1000000) /\ ∀x∈m.gone,x.key.length <= 1000000
theorem dD(h:bp r=true):ED r:=by
 obtain⟨-,b,c⟩:=qE h;exact⟨fun x a=>by have:=(b x a).1;omega,fun x a=>by have:=(c x a).1;omega⟩
/-! maps of the program in variables -/
end
section
attribute [local go_sem ↓] aV eD eE eR ef eF
theorem yn(K:DK)(M:MD)(h:bT w K M)(t:List UInt8)(f:M.fault=some (0,t))(i:Nat)(U:i<M.S.length)(T:M.down=false)(F:aX)(v:Value)(l:List UInt8)(hv:aO F w v l)(W:l.length=64):
 Calls aE 33 #[.pointer (some ⟨K.d,0,none⟩),.int .i64 (i:Int),v] w fun e m=>e=.returned (.int .i64 341) /\
  bT m { K with bf:=K.d } { M with S:=M.S.set i t,fault:=none,down:=true } /\ aT K.foot w m /\ m.heap.size=w.heap.size:=by
 have s:M.chk (i:Int)=0:=by unfold MD.chk;rw[T,if_neg (by simp),if_pos (by omega)]
 have A:=ae s;clear s;obtain⟨a,ab,rfl,ai,hm,hz,hx⟩:=hv;clear hx hz;have J:=h;have an:=h.ne2 (by rw[f];simp);obtain⟨N,O,⟨I,Q,R,b⟩,⟨L,n,q⟩,r,j⟩:=h;obtain⟨k,hk,j⟩:=j 0 t f;rw[f] at b;have o:=b.ne n (by decide);have ak:=b.lt;have D:=b.cell 0;have G:=b.cell 2;have k0:=j.cell 0;simp at D G k0;have ao:=q.1;have X:=Bf (P:=aE) (w:=w.drew) underlying99 rfl ju (off:=1) j (by simp;omega);rw[List.drop_one,List.tail_cons,List.take_of_length_le (by simp;omega)] at X;have Z:=xO (P:=aE) (w:=w.drew) ju (off:=i*64) n (V:=t.map B) (by simpa using k) (by omega) (jg t);have H6:=ae r;have aa:=ae f;clear r f;have z:=ae (q.put i U t k);obtain⟨y,g⟩:=aQ (w.drew.setRow K.bs (L.take (i*64)++t.map B++L.drop (i*64+64)).toArray);rw[<- g] at Z;have c:=b.drew.row_other (L.take (i*64)++t.map B++L.drop (i*64+64)).toArray o;have p:=n.drew.row (L.take (i*64)++t.map B++L.drop (i*64+64));rw[<- g] at c p;have Y:aT K.foot w y:=by rw[g];exact(aT.refl _ _).drew.setRow (.inl (.inr (.inl rfl))) _
 have x:y.heap.size=w.heap.size:=by rw[g];simp
 have H:=c.cell 2;have ag:=c.free 2;have E:=c.cell 1;have ad:=c.free 1;simp at E H;have C:=ae x;clear x;clear g;generalize u:l.length=ln at *;obtain rfl:ln=64:=W;have HL:=ae u;clear u;have Ht:=ae k;clear k;have al:(i:Int)<(M.S.length:Int):=by omega
 go_enter func33,ntmps33
 go_wp2_with fail;refine(iO w K M i J).mono ?_;rintro e m ⟨rfl,rfl⟩;rw[A.out];go_wp2_with fail
 go_still_tail 13,(by kernel_rfl)
 change wpList _ _ _ _ _ w.drew;go_wp2_with fail
 go_ret
 refine⟨rfl,⟨by simpa using N,by simpa using O,⟨I,by simpa using Q,R,?_⟩,⟨_,(p.set_other _ o.symm).set_other _ o.symm,z.out⟩,fun _=>rfl,nofun⟩,(Y.setCell (.inl (.inl rfl)) _).setCell (.inl (.inl rfl)) _,?_⟩
 ·simpa using(c.set 2 (.pointer none)).set 1 (.bool true)
 ·simp[World.setCell];exact C.out
theorem yo(K:DK)(M:MD)(h:bT w K M)(n:Nat)(t:List UInt8)(g:M.fault=some (n+1,t))(i:Nat)(hi:i<M.S.length)(av:M.down=false)(hw:M.writes<4611686018427387904)(F:aX)(v:Value)(l:List UInt8)(R:aO F w v l)(o:l.length=64)
 (hF:∀b,F b -> ¬K.foot b):
 Calls aE 33 #[.pointer (some ⟨K.d,0,none⟩),.int .i64 (i:Int),v] w fun e p=>e=.returned (.int .i64 0) /\
  bT p K { M with S:=M.S.set i l,fault:=some (n,t),writes:=M.writes+1 } /\ aT K.foot w p /\ p.heap.size=w.heap.size:=by
 have C:M.chk (i:Int)=0:=by unfold MD.chk;rw[av,if_neg (by simp),if_pos (by omega)]
 have Z:=ae C;clear C;have aF:=R;obtain⟨a,ai,rfl,aK,hm,hz,hx⟩:=R;obtain⟨b,U,rfl,an,E⟩:=aF.load o;have aI:=fun W:World=>pM W (some ⟨b,U,none⟩) 64 ai (aq _)
 clear hx hz;have h0:=h;have H:=h.ne2 (by rw[g];simp);have I:=h.ne.2;obtain⟨h1,h2,⟨ak,ao,ar,c⟩,⟨L,s,y⟩,z,f⟩:=h;obtain⟨O,hk,f⟩:=f (n+1) t g;rw[g] at c;have G:=c.ne s (by decide);have aM:=c.lt;have c0:=c.cell 0;have c2:=c.cell 2;have c3:=c.cell 3;have k0:=f.cell 0;have aR:=f.free 0;simp at c0 c2 c3 k0
 have aP:=y.1
  -- behind the fault's count
 have r:=c.set_other (a:=⟨K.bf,0,none⟩) (.int .i64 (n:Int)) H;have u:=s.set_other (a:=⟨K.bf,0,none⟩) (.int .i64 (n:Int)) I;have al:=f.set 0 (.int .i64 (n:Int));have ax:aT K.foot w (w.setCell ⟨K.bf,0,none⟩ (.int .i64 (n:Int))):=(aT.refl _ _).setCell (.inl (.inr (.inr rfl))) _
 have aL:=E ((w.setCell ⟨K.bf,0,none⟩ (.int .i64 (n:Int))).drew) (by
  have hb:=hF b an
  exact Below.heap_setCell w ⟨K.bf,0,none⟩ _ b (fun e=>hb (.inr (.inr e))))
 clear E;have J:(w.setCell ⟨K.bf,0,none⟩ (.int .i64 (n:Int))).heap.size=w.heap.size:=by simp[World.setCell]
 generalize T:w.setCell ⟨K.bf,0,none⟩ (.int .i64 (n:Int))=q at *;have ab:=ae T;clear T;have ad:=r.cell 0;simp at ad;have az:=xO (P:=aE) (w:=q.drew) ju (off:=i*64) u (V:=l.map B) (by simpa using o) (by omega) (jg l);have H6:=ae z;have aG:=ae g;clear z g;have Y:=ae (y.put i hi l o);obtain⟨X,j⟩:=aQ (q.drew.setRow K.bs (L.take (i*64)++l.map B++L.drop (i*64+64)).toArray);rw[<- j] at az;have m:=r.drew.row_other (L.take (i*64)++l.map B++L.drop (i*64+64)).toArray G;have x:=u.drew.row (L.take (i*64)++l.map B++L.drop (i*64+64));have A:=al.drew.row_other (L.take (i*64)++l.map B++L.drop (i*64+64)).toArray I.symm;rw[<- j] at m x A;have ay:aT K.foot w X:=by rw[j];exact ax.drew.setRow (.inl (.inr (.inl rfl))) _
 have N:X.heap.size=w.heap.size:=by rw[j];simpa using J
 have ag:=m.cell 3;have aH:=m.free 3;simp at ag;have aa:=ae N;clear J N;clear j;generalize D:l.length=ln at *;obtain rfl:ln=64:=o;have HL:=ae D;clear D;have Ht:=ae O;clear O;have aN:(i:Int)<(M.S.length:Int):=by omega
 have aJ:((n:Int)+1 == 0)=false:=beq_eq_false_iff_ne.2 (by omega)
 go_enter func33,ntmps33
 go_wp2_with fail;refine(iO w K M i h0).mono ?_;rintro e p ⟨rfl,rfl⟩;rw[Z.out];go_wp2_with fail;rw[ab.out]
 go_still_tail 9,(by kernel_rfl)
 change wpList _ _ _ _ _ q.drew;go_wp2_with fail
 go_ret
 refine⟨rfl,⟨by simpa using h1,by simpa using h2,⟨ak,by simpa using ao,ar,?_⟩,⟨_,x.set_other _ G.symm,Y.out⟩,nofun,fun k t' Q=>?_⟩,ay.setCell (.inl (.inl rfl)) _,?_⟩
 ·simpa using m.set 3 (.int .i64 ((M.writes:Int)+1))
 ·simp at Q;obtain⟨rfl,rfl⟩:=Q;exact⟨Ht.out,by omega,by simpa using A.set_other _ H.symm⟩
 ·simp[World.setCell];exact aa.out
theorem BP(K:DK)(M:MD)(h:bT w K M)(i:Nat)(r:i<M.S.length)(q:M.down=false)(x:M.writes<4611686018427387904)(F:aX)(v:Value)(l:List UInt8)(u:aO F w v l)(s:l.length=64)
 (hF:∀b,F b -> ¬K.foot b):
 Calls aE 33 #[.pointer (some ⟨K.d,0,none⟩),.int .i64 (i:Int),v] w fun e c=>e=.returned (.int .i64 (M.write i l).2) /\
  (∃m,m.d=K.d /\ (∀b,m.foot b -> K.foot b) /\ bT c m (M.write i l).1) /\ aT K.foot w c /\ c.heap.size=w.heap.size:=by
 cases a:M.fault with
 |none=>
  refine(xV w K M h a i r q x F v l u s).mono ?_;rintro e c ⟨rfl,g,j,k⟩;have f:M.write i l=({ M with S:=M.S.set i l,writes:=M.writes+1 },0):=by simp[MD.write,a]
  rw[f];exact⟨rfl,⟨K,rfl,fun _ o=>o,g⟩,j,k⟩
 |some p=>
  obtain⟨n,t⟩:=p;cases n with
  |zero=>
   refine(yn w K M h t a i r q F v l u s).mono ?_;rintro e c ⟨rfl,g,j,k⟩;have f:M.write i l=({ M with S:=M.S.set i t,fault:=none,down:=true },341):=by simp[MD.write,a]
   rw[f];refine⟨rfl,⟨{ K with bf:=K.d },rfl,?_,g⟩,j,k⟩;rintro b (rfl|rfl|rfl)
   ·exact .inl rfl
   ·exact .inr (.inl rfl)
   ·exact .inl rfl
  |succ n=>
   refine(yo w K M h n t a i r q x F v l u s hF).mono ?_;rintro e c ⟨rfl,g,j,k⟩;have f:M.write i l=({ M with S:=M.S.set i l,fault:=some (n,t),writes:=M.writes+1 },0):=by simp[MD.write,a]
   rw[f];exact⟨rfl,⟨K,rfl,fun _ o=>o,g⟩,j,k⟩
end
section
attribute [local go_sem ↓] aV eD eE eR ef eF
theorem oh(l c:Value):Instr.makeSlice 85 l c=MK 85 l c:=rfl
attribute [local go_sem ↓] oh
theorem yp:(aE.info? 99).map (fun i=>(i.zero,i.size,i.bytes))=some (some (.agg (Array.replicate 64 (.int .u8 0))),64,64):=by kernel_rfl
theorem i6(k n:Nat)(a:0<k):madeCells (Array.replicate k v) n=Array.replicate n v:=by
 apply Array.ext
 ·simp[madeCells]
 ·intro i b c;simp only[madeCells,Array.getElem_map,Array.getElem_range,Array.size_replicate,Array.getElem_replicate];rw[getElem!_pos (Array.replicate k v) (i%k) (by simpa using Nat.mod_lt i a)];simp
def MD.fresh(n:Nat):MD:={ S:=List.replicate n (List.replicate 64 0),down:=false,fault:=none,writes:=0 }
theorem sE(h:n*64 <= k):ja (List.replicate k (.int .u8 0)) (List.replicate n (List.replicate 64 0)):=by
 refine⟨by simpa using h,fun i hi=>?_,fun s a=>?_⟩
 ·simp only[List.length_replicate] at hi;simp only[List.drop_replicate,List.take_replicate,List.getElem_replicate,List.map_replicate];rw[show min 64 (k-i*64)=64 from by omega];rfl
 ·rw[List.eq_of_mem_replicate a];simp
theorem D5(v:0<n)(x:n <= 65536):
 Calls aE 11 #[.int .i64 (n:Int)] w fun e s=>∃K:DK,e=.returned (.tuple #[.pointer (some ⟨K.d,0,none⟩),.int .i64 0]) /\ bT s K (MD.fresh n) /\ Below w.heap.size w s /\ (∀b,K.foot b -> w.heap.size <= b):=by
 obtain⟨F,hi,C,D,E⟩:=info_parts yp;obtain⟨a,q,p,l⟩:=run_make_full (P:=aE) w w.heap.size 85 99 F _ 64 underlying85 hi C D .i64 .i64 n (by rw[E];omega) (by unfold maxLen;omega) (aq _);have H:(MK 85 (.int .i64 (n:Int)) (.int .i64 (n:Int))).run aE w=.ok (.slice (some ⟨w.heap.size,0,none⟩) n n) a:=q;obtain⟨g,G,i,r,y,k,z,A,B,f⟩:=p.2.resolve_left (by rintro⟨h,_⟩;cases h);simp at r;obtain⟨rfl,rfl⟩:=r;have c:Blk a w.heap.size i.toList 99:=by unfold Blk;simpa using k
 have j:i.toList=List.replicate (n*64) (.int .u8 0):=by
  rw[List.take_of_length_le (by simp;omega)] at f;rw[f];simp only[Value.cells];rw[i6 _ _ _ (by decide)];simp
 rw[j] at c;have o:=c.lt;have m:Below w.heap.size w a:=(Below.refl _ _).grown l (aq _) (by simp);have u:=ae m;clear q p l y k z A B f j m;have t:=ae c;clear c
 go_enter func11,ntmps11
 go_wp2_with fail;go_ret2;refine⟨⟨a.heap.size,w.heap.size,a.heap.size⟩,rfl,⟨by simpa[MD.fresh] using v,by simpa[MD.fresh] using x,⟨n,by simp[MD.fresh],by unfold maxLen;omega,?_⟩,⟨_,t.out.alloc _,?_⟩,fun _=>rfl,nofun⟩,u.out.alloc (by omega) _,?_⟩
 ·simpa[MD.fresh] using Blk.new a #[.slice (some ⟨w.heap.size,0,none⟩) n n,.bool false,.pointer none,.int .i64 0] 88
 ·exact sE n (n*64) (aq _)
 ·rintro b (rfl|rfl|rfl)
  ·exact Nat.le_of_lt o
  ·exact aq _
  ·exact Nat.le_of_lt o
end
section
attribute [local go_sem ↓] aV eD eE eR ef eF
def AL(t:TypeId)(h:Bool)(a:Value):Sem Value:=Instr.alloc t h a
theorem kU(h:Bool)(a:Value):Instr.alloc 101 h a=AL 101 h a:=rfl
attribute [local go_sem ↓] kU
theorem ja.cut{L M:List Value}{S:List (List UInt8)}(h:ja L S)(b:S.length*64 <= M.length)(c:M.take (S.length*64)=L.take (S.length*64)):ja M S:=by
 refine⟨b,fun i hi=>?_,h.2.2⟩;rw[<- h.2.1 i hi];apply List.ext_getElem?;intro k;simp only[List.getElem?_take,List.getElem?_drop]
 by_cases a:k<64
 ·rw[if_pos a,if_pos a];have:(M.take (S.length*64))[i*64+k]?=(L.take (S.length*64))[i*64+k]?:=by rw[c]
  rw[List.getElem?_take,List.getElem?_take,if_pos (by omega),if_pos (by omega)] at this;exact this
 ·rw[if_neg a,if_neg a]
end
section
attribute [local go_sem ↓] aV eD eE eR ef eF kU
end
section
theorem eU(l c:Value):Instr.makeSlice 41 l c=MK 41 l c:=rfl
attribute [local go_sem ↓] aV eU
theorem l7(h:n <= 140737488355328):
 ∃a,(MK 41 (.int .i64 (n:Int)) (.int .i64 (n:Int))).run aE w=.ok (.slice (some ⟨w.heap.size,0,none⟩) n n) a /\ Blk a w.heap.size (List.replicate n (B 0)) 5 /\ Below w.heap.size w a:=by
 obtain⟨p,hi,l,m,o⟩:=info_parts j9;obtain⟨q,k,j,i⟩:=run_make_full (P:=aE) w w.heap.size 41 5 p _ 1 underlying41 hi l m .i64 .i64 n (by rw[o];omega) (by unfold maxLen;omega) (aq _);refine⟨q,k,?_,(Below.refl _ _).grown i (aq _) (by simp)⟩;obtain⟨g,r,d,c,s,f,t,u,v,b⟩:=j.2.resolve_left (by rintro⟨h,_⟩;cases h);simp at c;obtain⟨rfl,rfl⟩:=c
 have e:d.toList=List.replicate n (B 0):=by
  rw[List.take_of_length_le (by simp;omega)] at b;rw[b];have:(Value.int .u8 0).cells=Array.replicate 1 (.int .u8 0):=rfl;rw[this,i6 _ _ _ (by decide)];simp only[Array.toList_replicate,Nat.mul_one];rfl
 unfold Blk;rw[<- e];simpa using f
theorem jc{w:World}{g:Nat}(h:Blk w g (l.map B) t)(a:l.length <= maxLen)(F:aX)(hF:F g):aO F w (.slice (some ⟨g,0,none⟩) l.length l.length) l:=
 ⟨_,_,rfl,aq _,a,nofun,.inr ⟨g,0,_,t,(0,0),rfl,hF,h,by simp,fun i hi=>by simp[List.getElem?_eq_getElem hi]⟩⟩
theorem lI{c:UInt8}(h:Blk W i (List.replicate 64 (B c)) t)(F:aX)(hF:F i):aO F W (.slice (some ⟨i,0,none⟩) 64 64) (List.replicate 64 c):=by
 have:=jc (l:=List.replicate 64 c) (t:=t) (w:=W) (g:=i) (by simpa using h) (by simp[maxLen]) F hF;simpa using this
end
theorem bT.kept{K:DK}(h:bT W K N)(a:Below W.heap.size W w'):bT w' K N:=
 h.keep fun b c=>a.block b (h.lt b c)
theorem mN(h:W.ownsRow i t 1 u l.length (l.map B))(o:0<l.length):
 ∃g a,u=.slice (some ⟨g,0,none⟩) l.length a /\ i <= g /\ l.length <= a /\ ∃L,Blk W g L t /\ L.take l.length=l.map B /\ L.length=a:=by
 obtain⟨n,b⟩:=h;rcases b with⟨_,b⟩|⟨g,a,c,rfl,d,j,f,p,k,m⟩
 ·omega
 ·exact⟨g,a,rfl,d,f,c.toList,by unfold Blk;simpa using j,by simpa using m,by simpa using k⟩
theorem gL(h:aO G W u l):(convert 41 9 u).run aE W=.ok (.string ⟨l.toArray⟩) W:=by
 obtain⟨a,c,rfl,q,r,s,g⟩:=h;cases a with
 |none=>
  have n:l = []:=by
   rcases g with h|⟨b,i,L,t,d,h,_⟩
   ·exact h
   ·cases h
  subst n;rw[run_convert_bytes_string W 41 9 5 none _ c underlying41 underlying5 underlying9];rfl
 |some k=>
  refine run_convert_bytes_back W 41 9 5 k c l underlying41 underlying5 underlying9 (fun j f=>?_);rcases g with rfl|⟨b,i,L,t,d,e,hF,m,p,o⟩
  ·simp at f
  ·simp at e;subst e;rw[Addr.add_lit,cell_of_row W b (i+j) L t d m];exact o j f
/-! the same with the disk's address by itself -/
def iq:List Value:=iP.map fun q=>.int .u32 (q.toNat:Int)
def de(w:World):Prop:=∃t a,w.heap[0]?=some (.cells iq.toArray t a)
theorem de.keep{w w':World}(h:de w)(b:w'.heap[0]?=w.heap[0]?):de w':=by
 obtain⟨t,a,h⟩:=h;exact⟨t,a,b.trans h⟩
theorem de.cell{w:World}(h:de w)(i:Nat)(b:i<16):w.cell? ⟨0,i,none⟩=some (.int .u32 ((iP.getD i 0#32).toNat:Int)):=by
 obtain⟨t,a,h⟩:=h;rw[cell_of_row w 0 i _ t a h];have:iq.length=16:=rfl;simp only[List.getElem?_toArray,iq,List.getElem?_map];rw[List.getD_eq_getElem?_getD,List.getElem?_eq_getElem (show i<iP.length from b)];rfl
theorem jB(a b:BitVec 32):Go.bits .xor .u32 (a.toNat:Int) (b.toNat:Int)=((a ^^^ b).toNat:Int):=by
 have h:=(a ^^^ b).isLt;have e:∀x:BitVec 32,BitVec.ofInt 32 (x.toNat:Int)=x:=fun x=>by simp
 show IntKind.u32.wrap ((BitVec.ofInt 32 (a.toNat:Int) ^^^ BitVec.ofInt 32 (b.toNat:Int)).toNat:Int)=_;rw[e a,e b];show((a ^^^ b).toNat:Int)%4294967296=_;omega
theorem yq(a b:BitVec 32):Go.bits .and .u32 (a.toNat:Int) (b.toNat:Int)=((a &&& b).toNat:Int):=by
 have h:=(a &&& b).isLt;have e:∀x:BitVec 32,BitVec.ofInt 32 (x.toNat:Int)=x:=fun x=>by simp
 show IntKind.u32.wrap ((BitVec.ofInt 32 (a.toNat:Int) &&& BitVec.ofInt 32 (b.toNat:Int)).toNat:Int)=_;rw[e a,e b];show((a &&& b).toNat:Int)%4294967296=_;omega
theorem wk(r:BitVec 32)(c:UInt8):Go.bits .xor .u32 (r.toNat:Int) ((c.toNat:Int)%4294967296)=((r ^^^ BitVec.ofNat 32 c.toNat).toNat:Int):=by
 have a:=c.toNat_lt;rw[<- jB]
 congr 1
theorem wn(x:BitVec 32):∃i:Nat,i<16 /\ Go.bits .and .u32 (x.toNat:Int) 15=(i:Int) /\ Go.bits .xor .u32 ((x.toNat:Int)/16) ((iP.getD i 0#32).toNat:Int)=((nib x).toNat:Int):=by
 refine⟨(x &&& 15#32).toNat,?_,?_,?_⟩
 ·have:(x &&& 15#32).toNat <= 15:=by rw[BitVec.toNat_and];exact Nat.and_le_right
  omega
 ·exact yq x 15#32
 ·have e:((x.toNat:Int)/(16:Int))=((x >>> 4).toNat:Int):=by
   rw[BitVec.toNat_ushiftRight,Nat.shiftRight_eq_div_pow];omega
  rw[e,jB];rfl
theorem wv(x:BitVec 32):Go.bits .xor .u32 IntKind.u32.max (x.toNat:Int)=((~~~ x).toNat:Int):=by
 have:IntKind.u32.max=((~~~ (0#32)).toNat:Int):=by decide
 rw[this,jB]
 congr 2
theorem tr(r:BitVec 32)(l:List UInt8)(k:Nat)(h:k<l.length):qe r (l.take (k+1))=C6 (qe r (l.take k)) l[k]:=by
 unfold qe;rw[List.take_succ_eq_append_getElem h,List.foldl_append];rfl
theorem yr(m:de w)(F:aX)(v:Value)(l:List UInt8)(K:aO F w v l)(s:BitVec 32):
 Calls aE 198 #[.int .u32 (s.toNat:Int),v] w fun e N=>e=.returned (.int .u32 ((~~~ (qe (~~~ s) l)).toNat:Int)) /\ w=N:=by
 obtain⟨a,A,rfl,U,I,hz,q⟩:=K;have Z:A <= 9223372036854775807:=by unfold maxLen at I;omega
 have p:=wv s;obtain⟨d,o⟩:=aQ (~~~ s:BitVec 32);rw[<- o] at p⊢;clear o
 go_enter func198,ntmps198
 go_wp2_with fail;clear p
 go_loop [5,12] (fun r i=>∃k:Nat,k <= l.length /\ i=.int .i64 (k:Int) /\ r=.int .u32 ((qe d (l.take k)).toNat:Int)) (fun _ i=>l.length-(intOf i).toNat)
 case atStart=>exact⟨0,by omega,rfl,rfl⟩
 case round=>
  obtain⟨k,X,rfl,rfl⟩:=hrel
  by_cases f:k<l.length
  ·obtain⟨b,M,L,t,E,rfl,hF,h,Y,n⟩:=q.resolve_left (by rintro rfl;simp at f);have C:w.cell? ⟨b,M+k,none⟩=some (B l[k]):=by rw[cell_of_row w b _ L t E h];exact n k f
   unfold B at C;have g:=tr d l k f;generalize J:qe d (l.take k)=r at *;generalize l[k]=c at *;clear n q h J;have D:=wk r c;unfold C6 at g;generalize r ^^^ BitVec.ofNat 32 c.toNat=x at *;obtain⟨i,hi,Q,R⟩:=wn x;have O:=m.cell i hi;generalize nib x=y at *;obtain⟨j,G,S,T⟩:=wn y;have P:=m.cell j G;generalize nib y=z at *;generalize iP.getD i 0#32=q1 at *;generalize iP.getD j 0#32=q2 at *;have u:=ae g;clear g;have H:(k:Int)<(l.length:Int):=by omega
   have V:(i:Int)<16:=by omega
   have W:(j:Int)<16:=by omega
   go_wp2_with fail
   go_round
   case rel=>exact⟨k+1,by omega,by go_num,by rw[u.out]⟩
   case measure=>simp[intOf];omega
  ·have H:¬(k:Int)<(l.length:Int):=by omega
   obtain rfl:k=l.length:=by omega
   rw[List.take_of_length_le (aq _)];have D:=wv (qe d l);go_wp2_with fail
   go_ret
   exact⟨rfl,rfl⟩
theorem rh(g:de w)(F:aX)(v:Value)(l:List UInt8)(d:aO F w v l):
 Calls aE 154 #[v] w fun e b=>e=.returned (.int .u32 (crc l:Int)) /\ w=b:=by
 have h:=yr w g F v l d 0#32;have H:Calls aE 198 #[.int .u32 0,v] w fun e b=>e=.returned (.int .u32 (crc l:Int)) /\ w=b:=h
 obtain⟨a,i,rfl,-⟩:=d;generalize crc l=c at *;clear h;have f:=ae H;clear H
 go_enter func154,ntmps154
 go_wp2_with fail;refine f.out.mono ?_;rintro e b ⟨rfl,rfl⟩;go_wp2_with fail
 go_ret
 exact⟨rfl,rfl⟩
section
attribute [local go_sem] opC upC told bG br bH bt bw bI bJ
def dz(w:World)(b:Nat)(l:List UInt8):Prop:=Blk w b (l.map B) 137 /\ l.length=64
def du(l:List UInt8)(a:Nat)(x:List UInt8):List UInt8:=l.take a++x++l.drop (a+x.length)
theorem jZ(a:Nat)(x:List UInt8)(h:a+x.length <= b.length):(du b a x).length=b.length:=by simp[du];omega
theorem Aq(a:Nat)(x:List UInt8)(c:UInt8)(h:a+x.length<b.length):(du b a x).set (a+x.length) c=du b a (x++[c]):=by
 unfold du;have d:(b.take a++x).length=a+x.length:=by simp;omega
 rw[List.set_append_right _ _ (by omega),d,Nat.sub_self];have:b.drop (a+x.length)=b[a+x.length]::b.drop (a+x.length+1):=List.drop_eq_getElem_cons h;rw[this,List.set_cons_zero];simp[Nat.add_assoc]
theorem om:B (UInt8.ofNat n)=.int .u8 ((n:Int)%256):=by
 unfold B
 congr 1
theorem oo{w wr:World}(j:l.length=64)(a n:Nat)(q:a+4 <= 64)(k:Nat)(d:k<4)(z:Int)(p:B ((bZ n)[k]'(by rw[cn];exact d))=.int .u8 z)
 (c:Blk wr i ((du l a ((bZ n).take k)).map B) 137) (m:aT (fun b=>b=i) w wr) (o:wr.heap.size=w.heap.size):
 ∃u,wr.cell? ⟨i,a+k,none⟩=some u /\ wr.frozen? ⟨i,a+k,none⟩=false /\
  Hid (Blk (wr.setCell ⟨i,a+k,none⟩ (.int .u8 z)) i ((du l a ((bZ n).take (k+1))).map B) 137 /\ aT (fun b=>b=i) w (wr.setCell ⟨i,a+k,none⟩ (.int .u8 z)) /\ (wr.setCell ⟨i,a+k,none⟩ (.int .u8 z)).heap.size=w.heap.size):=by
 have e:((bZ n).take k).length=k:=by rw[List.length_take,cn];omega
 have h:=Aq l a ((bZ n).take k) ((bZ n)[k]'(by rw[cn];exact d)) (by rw[e];omega);rw[e,<- List.take_succ_eq_append_getElem] at h;have r:(du l a ((bZ n).take k)).length=64:=by rw[jZ _ _ _ (by rw[e];omega),j]
 have f:=c.cell (a+k);rw[List.getElem?_eq_getElem (by simp;omega)] at f;have g:=c.set (a+k) (B ((bZ n)[k]'(by rw[cn];exact d)));rw[<- List.map_set,h,p] at g;exact⟨_,f,c.free _,ae ⟨g,m.setCell (.inl rfl) _,by simpa[World.setCell] using o⟩⟩
theorem kV(l:List UInt8)(h:dz w n l)(a c:Nat)(x:a+4 <= 64)(H:c<4294967296):
 Calls aE 145 #[.pointer (some ⟨n,0,none⟩),.int .i64 (a:Int),.int .u32 (c:Int)] w fun e r=>e=.returned (.tuple #[]) /\ dz r n (du l a (bZ c)) /\ aT (fun b=>b=n) w r /\ r.heap.size=w.heap.size:=by
 obtain⟨s,t⟩:=h;have I:(c:Int)<4294967296:=by omega
 go_enter func145,ntmps145
 go_wp2_with fail
 go_loopw [7] (fun i wr=>∃k:Nat,k <= 4 /\ i=.int .i64 (k:Int) /\ Blk wr n ((du l a ((bZ c).take k)).map B) 137 /\ aT (fun b=>b=n) w wr /\ wr.heap.size=w.heap.size) (fun i _=>4-(intOf i).toNat)
 case atStart=>exact⟨0,by omega,rfl,by simpa[du] using s,aT.refl _ _,rfl⟩
 case round=>
  obtain⟨k,G,rfl,g,j,v⟩:=hrel;have F:k=0 \/ k=1 \/ k=2 \/ k=3 \/ k=4:=by omega
  rcases F with rfl|rfl|rfl|rfl|rfl
  ·
   obtain⟨u,o,p,d⟩:=oo (w:=w) t a c x 0 (by omega) ((c:Int)%256) (om c) g.drew j.drew v;clear g j s;have z:=af (a:Int) (by omega);have A:=af 0 (by omega);have C:0 <= (a:Int):=by omega
   have D:(a:Int)<64:=by omega
   have E:IntKind.u8.wrap (c:Int)=((c:Int)%256):=IntKind.wrap_u8 _;have q:((a:Int)).toNat=a+0:=by omega
   try simp only[Nat.add_zero] at o p d q
   go_wp2_with fail;refine dP aJ 11 (up 11 [511]) (by kernel_rfl) ?_;apply bM;rfl;intro r y;go_simp;exact aF;refine cZ rfl rfl rfl (fun m f=>?_);go_simp;refine f _ _ ?_;clear f m;go_simp;refine dt ?_;go_wp2_with fail
   go_roundw
   case rel=>exact⟨0+1,by omega,by go_num,d.out.1,d.out.2.1,d.out.2.2⟩
   case measure=>simp[intOf]
  ·
   obtain⟨u,o,p,d⟩:=oo (w:=w) t a c x 1 (by omega) ((c:Int)/256%256) (om (c/256)) g.drew j.drew v;clear g j s;have z:=af ((a:Int)+1) (by omega);have A:=af 8 (by omega);have C:0 <= ((a:Int)+1):=by omega
   have D:((a:Int)+1)<64:=by omega
   have E:IntKind.u8.wrap ((c:Int)/256)=((c:Int)/256%256):=IntKind.wrap_u8 _;have q:(((a:Int)+1)).toNat=a+1:=by omega
   try simp only[Nat.add_zero] at o p d q
   go_wp2_with fail;refine dP aJ 11 (up 11 [511]) (by kernel_rfl) ?_;apply bM;rfl;intro r y;go_simp;exact aF;refine cZ rfl rfl rfl (fun m f=>?_);go_simp;refine f _ _ ?_;clear f m;go_simp;refine dt ?_;go_wp2_with fail
   go_roundw
   case rel=>exact⟨1+1,by omega,by go_num,d.out.1,d.out.2.1,d.out.2.2⟩
   case measure=>simp[intOf]
  ·
   obtain⟨u,o,p,d⟩:=oo (w:=w) t a c x 2 (by omega) ((c:Int)/65536%256) (om (c/65536)) g.drew j.drew v;clear g j s;have z:=af ((a:Int)+2) (by omega);have A:=af 16 (by omega);have C:0 <= ((a:Int)+2):=by omega
   have D:((a:Int)+2)<64:=by omega
   have E:IntKind.u8.wrap ((c:Int)/65536)=((c:Int)/65536%256):=IntKind.wrap_u8 _;have q:(((a:Int)+2)).toNat=a+2:=by omega
   try simp only[Nat.add_zero] at o p d q
   go_wp2_with fail;refine dP aJ 11 (up 11 [511]) (by kernel_rfl) ?_;apply bM;rfl;intro r y;go_simp;exact aF;refine cZ rfl rfl rfl (fun m f=>?_);go_simp;refine f _ _ ?_;clear f m;go_simp;refine dt ?_;go_wp2_with fail
   go_roundw
   case rel=>exact⟨2+1,by omega,by go_num,d.out.1,d.out.2.1,d.out.2.2⟩
   case measure=>simp[intOf]
  ·
   obtain⟨u,o,p,d⟩:=oo (w:=w) t a c x 3 (by omega) ((c:Int)/16777216%256) (om (c/16777216)) g.drew j.drew v;clear g j s;have z:=af ((a:Int)+3) (by omega);have A:=af 24 (by omega);have C:0 <= ((a:Int)+3):=by omega
   have D:((a:Int)+3)<64:=by omega
   have E:IntKind.u8.wrap ((c:Int)/16777216)=((c:Int)/16777216%256):=IntKind.wrap_u8 _;have q:(((a:Int)+3)).toNat=a+3:=by omega
   try simp only[Nat.add_zero] at o p d q
   go_wp2_with fail;refine dP aJ 11 (up 11 [511]) (by kernel_rfl) ?_;apply bM;rfl;intro r y;go_simp;exact aF;refine cZ rfl rfl rfl (fun m f=>?_);go_simp;refine f _ _ ?_;clear f m;go_simp;refine dt ?_;go_wp2_with fail
   go_roundw
   case rel=>exact⟨3+1,by omega,by go_num,d.out.1,d.out.2.1,d.out.2.2⟩
   case measure=>simp[intOf]
  ·go_wp2_with fail
   go_end0
   refine⟨rfl,⟨?_,?_⟩,j,v⟩
   ·rw[List.take_of_length_le (by rw[cn];omega)] at g;exact g
   ·rw[jZ _ _ _ (by rw[cn];omega)];exact t
end
section
attribute [local go_sem] opC upC told bG br bH bt bw bI bJ
theorem Ar(a b:BitVec 32):Go.bits .or .u32 (a.toNat:Int) (b.toNat:Int)=((a ||| b).toNat:Int):=by
 have h:=(a ||| b).isLt;have e:∀x:BitVec 32,BitVec.ofInt 32 (x.toNat:Int)=x:=fun x=>by simp
 show IntKind.u32.wrap ((BitVec.ofInt 32 (a.toNat:Int) ||| BitVec.ofInt 32 (b.toNat:Int)).toNat:Int)=_;rw[e a,e b];show((a ||| b).toNat:Int)%4294967296=_;omega
theorem D6(p c s:Nat)(a:p<2 ^ s)(d:c*2 ^ s<4294967296)(b:p<4294967296):Go.bits .or .u32 (p:Int) ((c*2 ^ s:Nat):Int)=((p+c*2 ^ s:Nat):Int):=by
 have h:=Ar (BitVec.ofNat 32 p) (BitVec.ofNat 32 (c*2 ^ s));rw[BitVec.toNat_or] at h;simp only[BitVec.toNat_ofNat] at h;rw[Nat.mod_eq_of_lt b,Nat.mod_eq_of_lt d] at h;rw[h]
 congr 1
 have:=Nat.shiftLeft_add_eq_or_of_lt a c;rw[Nat.shiftLeft_eq] at this;rw[Nat.or_comm,<- this];omega
def gZ(l:List UInt8)(a:Nat):Nat -> Nat
 |0=>0
 |k+1=>gZ l a k+(l.getD (a+k) 0).toNat*2 ^ (8*k)
theorem Dm(a:Nat):gZ b a 4=bK b a:=by
 simp only[gZ,bK,Nat.add_zero];omega
theorem ri(l:List UInt8)(a:Nat):∀k,gZ l a k<2 ^ (8*k)
 |0=>by simp[gZ]
 |k+1=>by
  have:=ri l a k;have b:=(l.getD (a+k) 0).toNat_lt;simp only[gZ];have e:2 ^ (8*(k+1))=256*2 ^ (8*k):=by rw[Nat.mul_add,Nat.pow_add];omega
  rw[e];have:(l.getD (a+k) 0).toNat*2 ^ (8*k) <= 255*2 ^ (8*k):=Nat.mul_le_mul_right _ (by omega);omega
theorem oq(a k:Nat)(c:UInt8)(g:b.getD (a+k) 0=c)(p:k<4)(m:Int)(i:m=2 ^ (8*k)):Go.bits .or .u32 (gZ b a k:Int) ((c.toNat:Int)%4294967296*m%4294967296)=(gZ b a (k+1):Int):=by
 have h:=ri b a k;have o:=c.toNat_lt;have d:k=0 \/ k=1 \/ k=2 \/ k=3:=by omega
 have n:c.toNat*2 ^ (8*k)<4294967296:=by rcases d with rfl|rfl|rfl|rfl<;>simp<;>omega
 have j:gZ b a k<4294967296:=by
  have:2 ^ (8*k) <= 2 ^ 24:=Nat.pow_le_pow_right (by omega) (by omega);omega
 have e:=D6 (gZ b a k) c.toNat (8*k) h n j
 have f:((c.toNat:Int)%4294967296*m%4294967296)=((c.toNat*2 ^ (8*k):Nat):Int):=by
  subst i;rcases d with rfl|rfl|rfl|rfl<;>simp<;>omega
 rw[f,e];simp only[gZ,g]
theorem eZ(t:Nat)(l:List UInt8)(h:dz w t l)(a:Nat)(y:a+4 <= 64):
 Calls aE 95 #[.pointer (some ⟨t,0,none⟩),.int .i64 (a:Int)] w fun e x=>e=.returned (.int .u32 (bK l a:Int)) /\ w=x:=by
 obtain⟨o,A⟩:=h;rw[<- Dm];have v:=ri l a 0
 go_enter func95,ntmps95
 go_wp2_with fail;clear v
 go_loop [5,7] (fun n i=>∃k:Nat,k <= 4 /\ i=.int .i64 (k:Int) /\ n=.int .u32 (gZ l a k:Int)) (fun _ i=>4-(intOf i).toNat)
 case atStart=>exact⟨0,by omega,rfl,rfl⟩
 case round=>
  obtain⟨k,z,rfl,rfl⟩:=hrel;have u:k=0 \/ k=1 \/ k=2 \/ k=3 \/ k=4:=by omega
  rcases u with rfl|rfl|rfl|rfl|rfl
  ·have b:=o.cell a;rw[List.getElem?_eq_getElem (by simp;omega),List.getElem_map] at b;unfold B at b;have d:l.getD (a+0) 0=l[a]'(by omega):=by rw[List.getD_eq_getElem?_getD,Nat.add_zero,List.getElem?_eq_getElem (show a<l.length by omega)];rfl
   have j:=oq l a 0 _ d (by omega) 1 (by simp);rw[Int.mul_one] at j;generalize f:gZ l a (0+1)=q at *;have g:=ae f;clear f;generalize l[a]'(by omega)=c at *;have r:((c.toNat:Int)%4294967296%4294967296)=(c.toNat:Int)%4294967296:=by omega
   rw[r] at j;have C:Go.bits .or .u32 0 ((c.toNat:Int)%4294967296)=(q:Int):=j;clear r d j;have s:((gZ l a 0:Nat):Int)=0:=rfl;rw[s];clear s;go_wp2_with fail
   go_round
   case rel=>exact⟨1,by omega,rfl,by rw[<- g.out]⟩
   case measure=>simp[intOf]
  ·
   have b:=o.cell (a+1);rw[List.getElem?_eq_getElem (by simp;omega),List.getElem_map] at b;unfold B at b;have d:l.getD (a+1) 0=l[a+1]'(by omega):=by rw[List.getD_eq_getElem?_getD,List.getElem?_eq_getElem (show a+1<l.length by omega)];rfl
   have j:=oq l a 1 _ d (by omega) 256 (by simp);generalize f:gZ l a (1+1)=q at *;have g:=ae f;clear f d;generalize l[a+1]'(by omega)=c at *;generalize m:gZ l a 1=p at *;clear m;go_wp2_with fail
   go_round
   case rel=>exact⟨1+1,by omega,rfl,by rw[<- g.out]⟩
   case measure=>simp[intOf]
  ·
   have b:=o.cell (a+2);rw[List.getElem?_eq_getElem (by simp;omega),List.getElem_map] at b;unfold B at b;have d:l.getD (a+2) 0=l[a+2]'(by omega):=by rw[List.getD_eq_getElem?_getD,List.getElem?_eq_getElem (show a+2<l.length by omega)];rfl
   have j:=oq l a 2 _ d (by omega) 65536 (by simp);generalize f:gZ l a (2+1)=q at *;have g:=ae f;clear f d;generalize l[a+2]'(by omega)=c at *;generalize m:gZ l a 2=p at *;clear m;go_wp2_with fail
   go_round
   case rel=>exact⟨2+1,by omega,rfl,by rw[<- g.out]⟩
   case measure=>simp[intOf]
  ·
   have b:=o.cell (a+3);rw[List.getElem?_eq_getElem (by simp;omega),List.getElem_map] at b;unfold B at b;have d:l.getD (a+3) 0=l[a+3]'(by omega):=by rw[List.getD_eq_getElem?_getD,List.getElem?_eq_getElem (show a+3<l.length by omega)];rfl
   have j:=oq l a 3 _ d (by omega) 16777216 (by simp);generalize f:gZ l a (3+1)=q at *;have g:=ae f;clear f d;generalize l[a+3]'(by omega)=c at *;generalize m:gZ l a 3=p at *;clear m;go_wp2_with fail
   go_round
   case rel=>exact⟨3+1,by omega,rfl,by rw[<- g.out]⟩
   case measure=>simp[intOf]
  ·go_wp2_with fail
   go_ret
   exact⟨rfl,rfl⟩
theorem dz.bytes60{w:World}(h:dz w j l):aO (fun b=>b=j) w (.slice (some ⟨j,0,none⟩) 60 64) (l.take 60):=by
 obtain⟨c,d⟩:=h;have a:(l.take 60).length=60:=by simp;omega
 refine⟨some ⟨j,0,none⟩,64,by rw[a],by omega,by unfold maxLen;omega,nofun,.inr ⟨j,0,(l.map B).toArray,_,_,rfl,rfl,c,by simp;omega,fun i hi=>?_⟩⟩;simp at hi;simp[List.getElem?_eq_getElem (show i<l.length by omega)]
theorem dz.bytes{w:World}(h:dz w j l):aO (fun b=>b=j) w (.slice (some ⟨j,0,none⟩) 64 64) l:=by
 obtain⟨a,c⟩:=h;refine⟨some ⟨j,0,none⟩,64,by rw[c],by omega,by unfold maxLen;omega,nofun,.inr ⟨j,0,(l.map B).toArray,_,_,rfl,rfl,a,by simp,fun i hi=>?_⟩⟩;simp[List.getElem?_eq_getElem hi]
theorem BQ(a:b.length=64):du b 60 (bZ (crc (b.take 60)))=en (b.take 60):=by
 unfold du en;rw[cn,List.drop_of_length_le (by omega),List.append_nil]
theorem ww(o:de w)(a:Nat)(l:List UInt8)(h:dz w a l):
 Calls aE 146 #[.pointer (some ⟨a,0,none⟩)] w fun e d=>e=.returned (.tuple #[]) /\ dz d a (en (l.take 60)) /\ aT (fun b=>b=a) w d /\ d.heap.size=w.heap.size:=by
 have i:=rh w o _ _ _ h.bytes60;have m:=t6 (l.take 60);have g:=BQ l h.2;have f:=kV w a l h 60 (crc (l.take 60)) (by omega) m;rw[g] at f;have k:=ae i;have j:=ae f;clear i f g;generalize crc (l.take 60)=c at *
 go_enter func146,ntmps146
 go_wp2_with fail;refine k.out.mono ?_;rintro e d ⟨rfl,rfl⟩;go_wp2_with fail;refine j.out.mono ?_;rintro e d ⟨rfl,p,n,q⟩;go_wp2_with fail
 go_end0
 exact⟨rfl,p,n,q⟩
theorem eK(p:de w)(f:Nat)(l:List UInt8)(h:dz w f l):
 Calls aE 96 #[.pointer (some ⟨f,0,none⟩)] w fun e a=>e=.returned (.bool (dm l)) /\ ∃n,w.drewN n=a:=by
 have k:=rh w.drew (p.keep rfl) _ _ _ (dz.bytes60 (w:=w.drew) ⟨h.1.drew,h.2⟩);have j:=eZ w.drew f l ⟨h.1.drew,h.2⟩ 60 (by omega);have hi:dm l=(bK l 60 == crc (l.take 60)):=rfl
 have q:(((bK l 60:Nat):Int) == ((crc (l.take 60):Nat):Int))=dm l:=by
  rw[hi]
  by_cases i:bK l 60=crc (l.take 60)
  ·rw[beq_iff_eq.2 i,beq_iff_eq.2 (by omega)]
  ·rw[beq_eq_false_iff_ne.2 i,beq_eq_false_iff_ne.2 (by omega)]
 have o:=ae k;have m:=ae j;clear k j hi;generalize crc (l.take 60)=c at *;generalize bK l 60=r at *
 go_enter func96,ntmps96
 go_wp2_with fail;refine bS aJ [0,2,3,4,501,505,6,7] (by kernel_rfl) ?_;apply aG;rfl;intro a g;go_simp;exact aF;refine bq rfl rfl (fun d b=>?_);go_simp;refine m.out.mono ?_;rintro e a ⟨rfl,rfl⟩;refine⟨_,rfl,bF _,b _ _ ?_⟩;clear b d;go_simp;apply aG;rfl;intro a g;go_simp;exact aF;refine bq rfl rfl (fun d b=>?_);go_simp;refine o.out.mono ?_;rintro e a ⟨rfl,rfl⟩;refine⟨_,rfl,bF _,b _ _ ?_⟩;clear b d;go_simp;apply aG;rfl;intro a g;go_simp;exact aF;refine aY ?_;go_wp2_with fail
 go_ret
 exact⟨rfl,1,rfl⟩
end
section
attribute [local go_sem] opC upC told bG br bH bt bw bI bJ
def dZ(w:World)(jb b g:Nat)(c:Value)(d:Nat)(a:Bool):Prop:=
 Blk w jb [.pointer (some ⟨b,0,none⟩),.int .u32 (g:Int),c,.int .i64 (d:Int),.bool a] 141
theorem kW(c:n <= 140737488355328):
 Calls aE 147 #[.int .i64 (n:Int)] w fun e a=>e=.returned (.int .i64 (takes n:Int)) /\ w=a:=by
 have b:(n:Int) <= 140737488355328:=by omega
 go_enter func147,ntmps147
 go_wp2_with fail
 all_goals
  go_ret
  exact⟨fM (by unfold takes;omega),rfl⟩
theorem ou(g:Nat)(i:Value)(j:Nat)(c:Bool)(K:DK)(M:MD)(h:dZ w n k g i j c)(a:bT w K M)(f:K.d=k)(l:2 <= M.S.length):
 Calls aE 139 #[.pointer (some ⟨n,0,none⟩)] w fun e w'=>e=.returned (.int .i64 (aW M.S.length:Int)) /\ w=w':=by
 subst f;have b:=h.cell 0;simp at b;have p:=a.le;have e:((aW M.S.length:Nat):Int)=((M.S.length:Int)-2)/2:=by unfold aW;omega
 have m:(M.S.length:Int) <= 65536:=by omega
 have o:2 <= (M.S.length:Int):=by omega
 rw[e];clear e
 go_enter func139,ntmps139
 go_wp2_with fail;refine(qM w K M a).mono ?_;rintro e w' ⟨rfl,rfl⟩;go_wp2_with fail
 go_ret
 exact⟨rfl,rfl⟩
theorem pn(g:Nat)(i:Value)(j:Nat)(b:Bool)(K:DK)(M:MD)(q:dZ w n k g i j b)(c:bT w K M)(o:K.d=k)(m:2 <= M.S.length)(a p:Nat)(u:p <= 65536):
 Calls aE 149 #[.pointer (some ⟨n,0,none⟩),.int .u32 (a:Int),.int .i64 (p:Int)] w fun e w'=>e=.returned (.int .i64 (cm M.S.length a p:Int)) /\ w=w':=by
 have t:=c.le;have hh:aW M.S.length <= 65536:=by unfold aW;omega
 have f:=ou w n k g i j b K M q c o m;have e:((cm M.S.length a p:Nat):Int)=2+(a:Int)%2*(aW M.S.length:Int)+(p:Int):=by unfold cm;simp
 rw[e];clear e;generalize aW M.S.length=H at *;have v:(p:Int) <= 65536:=by omega
 have r:(H:Int) <= 65536:=by omega
 have s:0 <= (a:Int)%2*(H:Int) /\ (a:Int)%2*(H:Int) <= 65536:=by
  rcases(show(a:Int)%2=0 \/ (a:Int)%2=1 by omega) with h|h<;>rw[h]<;>omega
 have l:=ae f;clear f
 go_enter func149,ntmps149
 go_wp2_with fail;refine l.out.mono ?_;rintro e w' ⟨rfl,rfl⟩;go_wp2_with fail
 go_ret
 exact⟨rfl,rfl⟩
theorem rj(K:DK)(M:MD)(c:bT w K M):
 Calls aE 85 #[.pointer (some ⟨K.d,0,none⟩)] w fun e a=>e=.returned (.int .i64 (if M.S.length<8 then 6 else 0)) /\ w=a:=by
 by_cases h:M.S.length<8
 all_goals
  first|have b:(M.S.length:Int)<8:=by omega|have b:¬(M.S.length:Int)<8:=by omega
  go_enter func85,ntmps85
  go_wp2_with fail;refine(qM w K M c).mono ?_;rintro e a ⟨rfl,rfl⟩;go_wp2_with fail
  go_ret
  exact⟨rfl,rfl⟩
theorem rn(c i:Nat)(g:Nat)(m:Value)(b:Nat)(j:Bool)(K:DK)(M:MD)(h:dZ w c i g m b j)(k:bT w K M)(f:K.d=i)(q:2 <= M.S.length)(v:b <= aW M.S.length):
 Calls aE 89 #[.pointer (some ⟨c,0,none⟩)] w fun e a=>e=.returned (.int .i64 ((aW M.S.length-b:Nat):Int)) /\ ∃n,w.drewN n=a:=by
 have u:=k.le;have hh:aW M.S.length <= 65536:=by unfold aW;omega
 have l:=ou w.drew c i g m b j K M h.drew (k.keep (w':=w.drew) fun _ _=>rfl) f q;have e:((aW M.S.length-b:Nat):Int)=(aW M.S.length:Int)-(b:Int):=by omega
 rw[e];clear e;have y:∀a,aJ w.drew a -> a.cell? ⟨c,3,none⟩=some (.int .i64 (b:Int)):=fun a hh=>by simpa using(h.keep (w':=a) (hh.block c h.lt)).cell 3
 generalize aW M.S.length=H at *;have s:(H:Int) <= 65536:=by omega
 have t:(b:Int) <= H:=by omega
 have x:=af ((H:Int)-(b:Int)) (by omega);have o:=ae l;clear l
 go_enter func89,ntmps89
 go_wp2_with fail;refine bS aJ [0,2,3,4,5,501,6,7] (by kernel_rfl) ?_;apply aG;rfl;intro a r;go_simp;exact aF;refine bq rfl rfl (fun p f=>?_);go_simp;refine o.out.mono ?_;rintro e a ⟨rfl,rfl⟩;refine⟨_,rfl,bF _,f _ _ ?_⟩;clear f p;go_simp;apply aG;rfl;intro a r;go_simp;exact aF;refine aY ?_;go_wp2_with fail
 go_ret
 exact⟨rfl,1,rfl⟩
theorem BR:
 Calls aE 89 #[.pointer none] w fun e a=>e=.returned (.int .i64 0) /\ w=a:=by
 go_enter func89,ntmps89
 go_wp2_with fail
 go_ret
 exact⟨rfl,rfl⟩
theorem uv(K:DK)(M:MD)(h:bT w K M)(a:Nat)(i:a<M.S.length)(m:M.writes<4611686018427387904)(F:aX)(v:Value)(l:List UInt8)(k:aO F w v l)(j:l.length=64)(hF:∀b,F b -> ¬K.foot b):
 Calls aE 33 #[.pointer (some ⟨K.d,0,none⟩),.int .i64 (a:Int),v] w fun e w'=>e=.returned (.int .i64 (M.wr a l).2) /\
  (∃f,f.d=K.d /\ (∀b,f.foot b -> K.foot b) /\ bT w' f (M.wr a l).1) /\ aT K.foot w w' /\ w'.heap.size=w.heap.size:=by
 cases c:M.down with
 |false=>
  have e:M.wr a l=M.write a l:=by simp[MD.wr,c]
  rw[e];exact BP w K M h a i c m F v l k j hF
 |true=>
  have e:M.wr a l=(M,341):=by simp[MD.wr,c]
  have g:M.chk a=341:=by simp[MD.chk,c]
  rw[e];refine(zX w K M a v h (by rw[g];decide)).mono ?_;rintro e w' ⟨rfl,rfl⟩;exact⟨by rw[g],⟨K,rfl,fun _ h=>h,h⟩,aT.refl _ _,rfl⟩
theorem nm(a:Nat)(l:List UInt8):(M.wr a l).1.S.length=M.S.length /\ (M.wr a l).1.writes <= M.writes+1:=by
 unfold MD.wr MD.write;split
 ·simp
 ·split<;>simp
def et(K:DK)(jb:Nat):aX:=fun b=>K.foot b \/ b=jb
theorem ro(a k g:Nat)(o:Value)(s:Nat)(u:Bool)(K:DK)(M:MD)(m:dZ w a k g o s u)(N:bT w K M)(I:K.d=k)(z:¬K.foot a)(c:Nat)(P:c<M.S.length)(V:M.writes<4611686018427387904)
 (q:Nat) (l:List UInt8) (n:dz w q l) (U:¬K.foot q):
 Calls aE 140 #[.pointer (some ⟨a,0,none⟩),.int .i64 (c:Int),.pointer (some ⟨q,0,none⟩)] w fun e w'=>e=.returned (.int .i64 (M.wr c l).2) /\
  (∃i,i.d=k /\ (∀b,i.foot b -> K.foot b) /\ bT w' i (M.wr c l).1) /\ dZ w' a k g o s (!decide ((M.wr c l).2=0)) /\ aT (et K a) w w' /\ w'.heap.size=w.heap.size:=by
 subst I;have B:=uv w.drew K M (N.keep (w':=w.drew) fun _ _=>rfl) c P V _ _ l (dz.bytes (w:=w.drew) ⟨n.1.drew,n.2⟩) n.2 (fun b e O=>U (e▸O));have E:=ae B;clear B;have G:=m.drew.cell 0;simp at G
 go_enter func140,ntmps140
 go_wp2_with fail
 go_still_tail 8,(by kernel_rfl)
 change wpList _ _ _ _ _ w.drew;go_wp2_with fail;refine E.out.mono ?_;rintro e t ⟨rfl,⟨i,J,v,x⟩,f,T⟩;have j:dZ t a K.d g o s u:=m.keep (f.block a (show a<w.heap.size from m.lt) z)
 have Q:aT K.foot w t:=⟨f.os,f.tape,f.output,f.size,f.block⟩
 generalize R:(M.wr c l).2=r at *;have H:=j.cell 4;have W:=j.free 4;simp at H;have A:=j.set 4 (.bool (!decide (r=0)));have y:=x.only (F:=fun b=>b=a) (aT.setCell (F:=fun b=>b=a) (aT.refl _ t) (p:=⟨a,4,none⟩) (.inl rfl) (.bool (!decide (r=0)))) (fun b L e=>z (e▸v b L));have D:=ae A;have C:=ae y;clear A y j x;go_wp2_with fail
 go_ret
 rw[R];exact⟨rfl,⟨i,J,v,C.out⟩,D.out,(Q.mono (fun _ h=>.inl h)).setCell (.inl (.inr rfl)) _,by simpa[World.setCell] using T⟩
end
section
def CP(b:Array TypeId)(t:TypeId)(a:Array Value):Sem Value:=Builtin.copy_ b t a
theorem mB(b:Array TypeId)(t:TypeId)(a:Array Value):Builtin.copy_ b t a=CP b t a:=rfl
attribute [local go_sem ↓] mB
attribute [local go_sem] opC upC
theorem BS:(aE.info? 5).map (·.size)=some 1:=by kernel_rfl
theorem ow{w:World}(h:dz w i l)(c f k:Nat){v:Value}{x:List UInt8}(H:aO G w v x)(n:Nat)(e:n=Nat.min x.length f)(C:c+n <= 64):
 ∃w',(CP #[41,41] 3 #[.slice (some ⟨i,c,none⟩) f k,v]).run aE w=.ok (.int .i64 (n:Int)) w' /\ dz w' i (du l c (x.take n)) /\ aT (fun b=>b=i) w w' /\ w'.heap.size=w.heap.size:=by
 obtain⟨m,g⟩:=h;obtain⟨a,r,rfl,J,M,N,I⟩:=H;have d:(x.take n).length=n:=by rw[List.length_take,e];exact Nat.min_eq_left (Nat.min_le_left _ _)
 by_cases A:n=0
 ·subst A;refine⟨w,run_copy_none w 41 41 3 5 (some ⟨i,c,none⟩) a f k _ r underlying41 BS e.symm,⟨?_,?_⟩,aT.refl _ _,rfl⟩
  ·simpa[du] using m
  ·simp[du,g]
 ·rcases I with rfl|⟨b,o,L,t,z,rfl,hF,D,K,E⟩
  ·simp at e;omega
  ·have y:=run_copy_row (P:=aE) w 41 41 3 5 i c f k ⟨b,o,none⟩ x.length r (l.map B).toArray 137 ((x.take n).map B) underlying41 BS m (by rw[List.length_map,d,e])
    (fun j u p=>by
     have q:j<n:=by have:=(List.getElem?_eq_some_iff.1 p).1;rw[List.length_map,d] at this;exact this
     have s:j<x.length:=by rw[e] at q;exact aw q (Nat.min_le_left _ _)
     rw[Addr.add_lit,cell_of_row w b (o+j) L t z D,E j s];rw[List.getElem?_map,List.getElem?_take,if_pos q,List.getElem?_eq_getElem s] at p
     exact p) (by rw[List.length_map,d];simp[g];omega) (jg _)
   simp only[List.length_map,d] at y;refine⟨_,y,⟨?_,?_⟩,aT.setRow (F:=fun b=>b=i) (aT.refl _ w) (.inl rfl) _,by simp⟩
   ·have:=m.row ((l.map B).take c++(x.take n).map B++(l.map B).drop (c+n));unfold du;rw[d];simpa[List.map_append,List.map_take,List.map_drop] using this
   ·rw[jZ _ _ _ (by rw[d,g];exact C),g]
theorem rp(h:dz W i l):
 ∃a,(CP #[41,9] 3 #[.slice (some ⟨i,0,none⟩) 64 64,.string ⟨#[72,78,75,74]⟩]).run aE W=.ok (.int .i64 4) a /\ dz a i (du l 0 dp) /\ aT (fun b=>b=i) W a /\ a.heap.size=W.heap.size:=by
 obtain⟨d,c⟩:=h;have e:=run_storeCells_at aE i 0 137 (dp.map B) 0 (l.map B).toArray W d (by simp[dp,c]) (jg _);simp only[Nat.zero_add,Nat.add_zero] at e;refine⟨W.setRow i ((l.map B).toArray.toList.take 0++dp.map B++(l.map B).toArray.toList.drop (dp.map B).length).toArray,?_,⟨?_,?_⟩,aT.setRow (F:=fun b=>b=i) (aT.refl _ W) (.inl rfl) _,by simp⟩
 ·obtain⟨n,hi,j,k,m⟩:=info_parts j9;have g:Nat.min (ByteArray.mk #[72,78,75,74]).size 64=4:=by decide
  have f:[Value.int .u8 72,.int .u8 78,.int .u8 75,.int .u8 74]=dp.map B:=rfl;simp only[CP,Builtin.copy_,Builtin.lenOf,Builtin.firstCells,sizeOf,typeInfo];simp[hi,g];rw[f,e];simp[goInt]
 ·have:=d.row ((l.map B).take 0++dp.map B++(l.map B).drop 4);unfold du;simpa[List.map_append,List.map_take,List.map_drop,dp] using this
 ·rw[jZ _ _ _ (by simp[dp,c]),c]
def fs:List UInt8:=List.replicate 64 0
theorem gG:fs.length=64:=by simp[fs]
theorem Dn:en ((du (du fs 0 dp) 4 (bZ n)).take 60)=cP n:=by
 unfold cP
 congr 1
theorem ir(a:Array (Nat×Value)):Instr.build 137 a=BD 137 a:=rfl
attribute [local go_sem ↓] ir
theorem kq:(BD 137 #[]).run aE w=.ok (.agg (fs.map B).toArray) w:=by kernel_rfl
theorem dz.new(w:World)(l:List UInt8)(a:l.length=64):dz (w.alloc (.cells (l.map B).toArray 137)) w.heap.size l:=
 ⟨by simpa using Blk.new w (l.map B).toArray 137,a⟩
theorem f8{a w c:World}(h:Below i a w)(d:aT G w c)(hF:∀b,G b -> i <= b)(e:i <= w.heap.size):Below i a c:=h.trans (d.below hF e)
theorem wy(u:de w)(n:0<w.heap.size)(g:Nat)(p:g<4294967296):
 Calls aE 87 #[.int .u32 (g:Int)] w fun e l=>∃c,e=.returned (.pointer (some ⟨c,0,none⟩)) /\ w.heap.size <= c /\ dz l c (cP g) /\ Below w.heap.size w l:=by
 have G:=kq w;obtain⟨d,a⟩:=aQ (w.alloc (.cells (fs.map B).toArray 137));have z:dz d w.heap.size fs:=by rw[a];exact dz.new _ _ gG
 have f:Below w.heap.size w d:=by rw[a];exact aI _ _
 have H:d.heap.size=w.heap.size+1:=by rw[a];simp
 have v:=u.keep (f.block 0 n);obtain⟨D,o,A,h,I⟩:=rp z;have q:=f8 f h (fun b e=>by rw[e];exact aq _) (by omega);have x:=v.keep (h.block 0 (by omega) (by omega));rw[a] at o;have F:=ae a;clear a;have j:=kV D w.heap.size _ A 4 g (by omega) p;have m:=ae j;clear j
 go_enter func87,ntmps87
 go_wp2_with fail;refine m.out.mono ?_;rintro e E ⟨rfl,C,i,J⟩;have r:=f8 q i (fun b e=>by rw[e];exact aq _) (by omega);have y:=x.keep (i.block 0 (by omega) (by omega));go_wp2_with fail;refine(ww E y w.heap.size _ C).mono ?_;rintro e L ⟨rfl,k,t,K⟩;have s:=f8 r t (fun b e=>by rw[e];exact aq _) (by omega);rw[Dn] at k;go_wp2_with fail
 go_ret
 exact⟨_,rfl,aq _,k,s⟩
end
section
open Go.Shelf
attribute [local go_sem ↓] mB ir
attribute [local go_sem] opC upC told bG br bH bt bw bI bJ Oper.semAt_some
abbrev tt(x:Nat×Nat):Array Value:=#[.int .i64 (x.1:Int),.pointer (some ⟨x.2,0,none⟩)]
def D7(a g k:Nat)(l:List UInt8)(b:List (Nat×Nat))(x:Nat×Nat)(W:World):Prop:=
 x.1=b.length /\ x.1<takes l.length /\ dz W x.2 (cT g k l x.1) /\ a <= x.2
structure fP(W:World)(F:aX)(bb gb ob g k:Nat)(v:Value)(l:List UInt8):Prop where
 bcell:W.cell? ⟨bb,0,none⟩=some v
 gcell:W.cell? ⟨gb,0,none⟩=some (.int .u32 (g:Int))
 ocell:W.cell? ⟨ob,0,none⟩=some (.int .u32 (k:Int))
 bytes:aO F W v l
 quarter:de W
theorem mC{a:Addr}(h:W.cell? a=some u):a.block<W.heap.size:=World.block_lt_of_cell? W a h
theorem fP.only{W j:World}{F G:aX}{c d e g k:Nat}{v:Value}{l:List UInt8}(h:fP W F c d e g k v l)(i:aT G W j)(f:∀b,b=c \/ b=d \/ b=e \/ b=0 \/ F b -> ¬G b):fP j F c d e g k v l:=by
 obtain⟨m,n,o,p,q⟩:=h;have s:=mC m;have t:=mC n;have u:=mC o;refine⟨?_,?_,?_,p.only i fun b r=>f b (.inr (.inr (.inr (.inr r)))),q.keep (i.block 0 (by omega) (f 0 (.inr (.inr (.inr (.inl rfl))))))⟩
 ·rw[World.cell?_of_block (w:=W) (a:=⟨c,0,none⟩) (i.block c s (f c (.inl rfl)))];exact m
 ·rw[World.cell?_of_block (w:=W) (a:=⟨d,0,none⟩) (i.block d t (f d (.inr (.inl rfl))))];exact n
 ·rw[World.cell?_of_block (w:=W) (a:=⟨e,0,none⟩) (i.block e u (f e (.inr (.inr (.inl rfl)))))];exact o
structure iX(n0:Nat)(F:aX)(A C:World):Prop where
 size:A.heap.size <= C.heap.size
 block:∀k,k<n0 -> ¬F k -> C.heap[k]?=A.heap[k]?
theorem iX.trans{a:Nat}{F:aX}{A C D:World}(h:iX a F A C)(k:iX a F C D):iX a F A D:=⟨au h.size k.size,fun b c d=>(k.block b c d).trans (h.block b c d)⟩
theorem iX.put(o:Obj)(b:i <= n):iX i G w (w.putObj n o):=⟨by simp,fun k a _=>World.putObj_heap_other (by omega)⟩
theorem iX.of_only(h:aT G W w')(c:i <= W.heap.size):iX i G W w':=⟨h.size,fun k b a=>h.block k (by omega) a⟩
theorem fP.keepsB{F G:aX}{c d e g k:Nat}(h:fP W F c d e g k u l)(r:iX i G W w')(j:∀b,b=c \/ b=d \/ b=e \/ b=0 \/ F b -> b<i /\ ¬G b):fP w' F c d e g k u l:=by
 obtain⟨m,n,o,p,q⟩:=h;have hh:∀b,b=c \/ b=d \/ b=e \/ b=0 \/ F b -> w'.heap[b]?=W.heap[b]?:=fun b f=>r.block b (j b f).1 (j b f).2
 refine⟨?_,?_,?_,p.keep fun b f _=>hh b (.inr (.inr (.inr (.inr f)))),q.keep (hh 0 (.inr (.inr (.inr (.inl rfl)))))⟩
 ·rw[World.cell?_of_block (w:=W) (a:=⟨c,0,none⟩) (hh c (.inl rfl))];exact m
 ·rw[World.cell?_of_block (w:=W) (a:=⟨d,0,none⟩) (hh d (.inr (.inl rfl)))];exact n
 ·rw[World.cell?_of_block (w:=W) (a:=⟨e,0,none⟩) (hh e (.inr (.inr (.inl rfl))))];exact o
theorem fP.later{W W':World}{a b c g k:Nat}(h:fP W G a b c g k u l)(d:Below W.heap.size W W'):fP W' G a b c g k u l:=
 h.only (aT.of_below (F:=none_) d) (fun _ _ h=>h)
theorem pp(h:Below W.heap.size W w'):W.grownBy w' none:=⟨h.os,h.tape,h.output,h.size,fun k a _=>h.block k a⟩
theorem qo{p q x:List UInt8}{a:Nat}(b:a=p.length)(n:Nat)(c:x.length=n)(y:List UInt8)(d:y.length=n):du (p++x++q) a y=p++y++q:=by
 subst b;subst c;unfold du;rw[d,show p.length+x.length=(p++x).length from by simp,List.drop_left,aB p x q,List.take_left]
theorem BT(l:List UInt8)(i:Nat):en ((du (du (du (du fs 0 (bZ n)) 4 (bZ k)) 8 (bZ (l.length-48*i))) 12 ((l.drop (48*i)).take (Nat.min (l.drop (48*i)).length 48))).take 60)=cT n k l i:=by
 unfold cT
 congr 1
 have s:fs = []++bZ 0++(bZ 0++bZ 0++List.replicate 48 0++bZ 0):=by decide
 have d:du fs 0 (bZ n)=bZ n++bZ 0++(bZ 0++List.replicate 48 0++bZ 0):=by
  rw[s];have:=qo (p:=[]) (x:=bZ 0) (q:=bZ 0++bZ 0++List.replicate 48 0++bZ 0) (a:=0) rfl 4 rfl (bZ n) rfl;rw[this];simp
 have e:du (du fs 0 (bZ n)) 4 (bZ k)=bZ n++bZ k++bZ 0++(List.replicate 48 0++bZ 0):=by
  rw[d];have:=qo (p:=bZ n) (x:=bZ 0) (q:=bZ 0++List.replicate 48 0++bZ 0) (a:=4) rfl 4 rfl (bZ k) rfl;rw[this];simp
 have f:du (du (du fs 0 (bZ n)) 4 (bZ k)) 8 (bZ (l.length-48*i))=bZ n++bZ k++bZ (l.length-48*i)++List.replicate 48 0++bZ 0:=by
  rw[e];have:=qo (p:=bZ n++bZ k) (x:=bZ 0) (q:=List.replicate 48 0++bZ 0) (a:=8) rfl 4 rfl (bZ (l.length-48*i)) rfl;rw[this];simp
 rw[f];generalize t:l.drop (48*i)=b
 have o:b.take (Nat.min b.length 48)=b.take 48:=by
  rw[List.take_eq_take_iff];have:Nat.min b.length 48=min b.length 48:=rfl;omega
 rw[o];have j:(bZ n++bZ k++bZ (l.length-48*i)).length=12:=rfl;have r:(b.take 48).length=min 48 b.length:=List.length_take
 have m:List.replicate 48 (0:UInt8)=List.replicate (b.take 48).length 0++List.replicate (48-b.length) 0:=by
  rw[List.replicate_append_replicate]
  congr 1
  omega
 rw[m];have c:=qo (p:=bZ n++bZ k++bZ (l.length-48*i)) (q:=List.replicate (48-b.length) 0++bZ 0) (x:=List.replicate (b.take 48).length 0) (a:=12) j.symm _ (by simp) (b.take 48) rfl;simp only[aB] at c⊢;rw[c]
 have h:(bZ n++(bZ k++(bZ (l.length-48*i)++(b.take 48++List.replicate (48-b.length) 0)))).length=60:=by
  simp only[aA,cn,r,List.length_replicate];omega
 have:bZ n++(bZ k++(bZ (l.length-48*i)++(b.take 48++(List.replicate (48-b.length) 0++bZ 0))))=(bZ n++(bZ k++(bZ (l.length-48*i)++(b.take 48++List.replicate (48-b.length) 0))))++bZ 0:=by simp
 rw[this,<- h,List.take_left];rfl
theorem aO.drop{F:aX}{w:World}{a:Option Addr}{c:Nat}{l:List UInt8}(h:aO F w (.slice a l.length c) l)(k:Nat)(n:k <= l.length):
 aO F w (.slice (if c=k then a else a.map fun x=>x.add k) (l.length-k) (c-k)) (l.drop k):=by
 obtain⟨r,s,f,u,y,g,p⟩:=h;simp at f;obtain⟨rfl,rfl⟩:=f;refine⟨_,c-k,by rw[List.length_drop],by rw[List.length_drop];omega,by omega,fun d=>?_,?_⟩
 ·split at d
  ·have:=g d;omega
  ·rw[Option.map_eq_none_iff] at d;have:=g d;omega
 ·by_cases e:k=l.length
  ·left;rw[e,List.drop_length]
  ·right;rcases p with rfl|⟨b,q,L,t,j,rfl,hF,m,v,o⟩
   ·simp at n e;omega
   ·rw[if_neg (by omega)];refine⟨b,q+k,L,t,j,by simp[Addr.add],hF,m,by rw[List.length_drop];omega,fun i hi=>?_⟩;rw[List.length_drop] at hi;have:=o (k+i) (by omega);rw[Nat.add_assoc,this];simp
theorem ys(F G:aX)(f p s g k:Nat)(v:Value)(l:List UInt8)(h:fP w F f p s g k v l)(hd:∀b,b=f \/ b=p \/ b=s \/ b=0 \/ F b -> b<w.heap.size /\ ¬G b)(hl:l.length <= 65536)(hg:g<4294967296)(hk:k<4294967296):
 D2 aE 197 #[.pointer (some ⟨f,0,none⟩),.pointer (some ⟨p,0,none⟩),.pointer (some ⟨s,0,none⟩)] tt (iX w.heap.size G) (D7 w.heap.size g k l) (fun xs=>xs.length=takes l.length) (fun _=>True) w:=by
 intro lo J Jx W O hJ aW hY h0;have u:fP W F f p s g k v l:=h.later O;have a5:=O.size;obtain⟨a,z,rfl,hc,hm,-,-⟩:=h.bytes;have a3:=kW;refine callsIn_of_wp func197 rfl trivial ?_ rfl;simp only[ntmps197,List.size_toArray,aD,List.length_nil,Nat.reduceAdd,Nat.reduceSub,Array.replicate_succ,Array.replicate_zero,List.push_toArray,List.append_toArray,List.nil_append,List.cons_append];have o:=u.bcell;have t:=u.gcell;have A:=u.ocell
 gi_wp2_with fail
 refine⟨trivial,callsIn_wide.2 ((kW W l.length (by omega)).mono ?_)⟩;rintro e j ⟨rfl,rfl⟩;have a4:=dy l.length;have a2:takes l.length <= 65536:=by unfold takes;omega
 clear o t A
 gi_wp2_with fail
 gi_loopw [10] (fun i wr=>∃(m:Nat)(d:List (Nat×Nat)),m <= takes l.length /\ i=.int .i64 (m:Int) /\ d.length=m /\ J d wr /\ fP wr F f p s g k (.slice a l.length z) l /\ W.heap.size <= wr.heap.size) (fun i _=>takes l.length-(intOf i).toNat)
 case atStart=>exact⟨0,[],by omega,rfl,rfl,h0,u,aq _⟩
 case round=>
  obtain⟨m,d,a0,rfl,ab,C,c,a1⟩:=hrel
  by_cases Y:m<takes l.length
  ·have aK:(m:Int)<(takes l.length:Int):=by omega
   have av:48*m <= l.length:=by unfold takes at Y;omega
   have aY:=kq wr;obtain⟨y,q⟩:=aQ (wr.alloc (.cells (fs.map B).toArray 137));have aR:dz y wr.heap.size fs:=by rw[q];exact dz.new _ _ gG
   have S:Below wr.heap.size wr y:=by rw[q];exact aI _ _
   have a6:y.heap.size=wr.heap.size+1:=by rw[q];simp
   have aG:=c.later S;have ar:=ae q;clear q;have t:=c.gcell;have lg:=mC t;dsimp only at lg
   gi_wp2_with fail
   rw[<- ar.out];refine⟨trivial,callsIn_wide.2 ((kV y wr.heap.size _ aR 0 g (by omega) hg).mono ?_)⟩;rintro e w2 ⟨rfl,aS,aL,a7⟩;clear t lg;have T:=f8 S aL (fun b e=>by rw[e];exact aq _) (by omega);have P:=c.later T;have A:=P.ocell
   gi_wp2_with fail
   refine⟨trivial,callsIn_wide.2 ((kV w2 wr.heap.size _ aS 4 k (by omega) hk).mono ?_)⟩;rintro e w3 ⟨rfl,ag,aM,a8⟩;clear A;have U:=f8 T aM (fun b e=>by rw[e];exact aq _) (by omega);have Q:=c.later U;have o:=Q.bcell;have ad:((l.length-48*m:Nat):Int)=(l.length:Int)-48*(m:Int):=by omega
   have I:=kV w3 wr.heap.size _ ag 8 (l.length-48*m) (by omega) (by omega);rw[ad] at I;have ao:=ae I;clear I;have aV:48*(m:Int) <= (l.length:Int):=by omega
   have aZ:(l.length:Int) <= 65536:=by omega
   clear ad
   gi_wp2_with fail
   refine⟨trivial,callsIn_wide.2 ((ao.out).mono ?_)⟩;rintro e n ⟨rfl,ai,aN,a9⟩;clear o;have V:=f8 U aN (fun b e=>by rw[e];exact aq _) (by omega);have D:=c.later V
   gi_wp2_with fail
   refine wpIn_wide.2 ?_;have o:∀j,aJ n.drew j -> j.cell? ⟨f,0,none⟩=some (.slice a l.length z):=fun j hh=>((D.later (W':=n.drew) (Below.refl _ _).drew).later hh).bcell
   have hT:((48:Int)*(m:Int)).toNat=48*m:=by omega
   obtain⟨K,az,aT,aO,al⟩:=ow (w:=n.drew) ⟨ai.1.drew,ai.2⟩ 12 48 52 ((D.bytes.keep (w':=n.drew) fun b _ _=>rfl).drop (48*m) av) _ rfl (by have:Nat.min (l.drop (48*m)).length 48 <= 48:=Nat.min_le_right _ _;omega);have X:Below wr.heap.size wr K:=V.drew.trans (aO.below (fun b e=>by rw[e];exact aq _) (show wr.heap.size <= n.heap.size by omega));have al:K.heap.size=n.heap.size:=al;generalize Z:Nat.min (l.drop (48*m)).length 48=nn at *;have an:=ae Z;clear Z;refine dP aJ 7 (up 7 [507]) (by kernel_rfl) ?_;apply bM;rfl;intro j hC;go_simp;(repeat (simp(disch:=omega) only[af,aj,ap,ah,am,if_pos];go_simp));exact aF;generalize(if z=48*m then a else a.map fun x=>x.add (48*m))=aa at *;refine cZ rfl rfl rfl (fun KK M=>?_);go_simp;refine M _ _ ?_;clear M KK;go_simp;refine dt ?_;have R:=c.later X;clear o az hT
   gi_wp2_with fail
   refine⟨trivial,callsIn_wide.2 ((ww K R.quarter wr.heap.size _ aT).mono ?_)⟩;rintro e L ⟨rfl,ak,aP,aU⟩;have H:=f8 X aP (fun b e=>by rw[e];exact aq _) (by omega);rw[<- an.out,BT] at ak;obtain⟨fn,tmps,assign,body,hy,N⟩:=hY d (m,wr.heap.size) L (hJ _ _ _ none C (pp H) (fun r e=>by cases e)) ⟨ab.symm,Y,ak,by show w.heap.size <= wr.heap.size;omega⟩;dsimp only[tt] at hy;have HR:=ae N;clear N
   gi_wp2_with fail
   refine HR.out.mono ?_;rintro e W3 (⟨rfl,ax,E⟩|⟨rfl,ay⟩)
   ·have ag:L.heap.size <= W3.heap.size:=E.size;have aH:=(c.later H).keepsB E hd;have aU:wr.heap.size <= L.heap.size:=H.size;clear R D Q P aG E C c
    gi_wp2_with fail
    go_roundw
    case rel=>exact⟨m+1,d++[(m,wr.heap.size)],by omega,by go_num,by simp[ab],ax,aH,by omega⟩
    case measure=>simp[intOf];omega
   ·gi_wp2_with fail
    refine bodyPost_ret (results_none rfl _ _ _) rfl ?_;exact⟨⟨_,rfl⟩,.inr ⟨_,trivial,ay⟩⟩
  ·have aK:¬(m:Int)<(takes l.length:Int):=by omega
   gi_wp2_with fail
   go_end0
   exact⟨⟨_,rfl⟩,.inl ⟨d,by show d.length=takes l.length;omega,C⟩⟩
end
end Go.Proofs.YtobjdpngnfbicaaGreatDoor
