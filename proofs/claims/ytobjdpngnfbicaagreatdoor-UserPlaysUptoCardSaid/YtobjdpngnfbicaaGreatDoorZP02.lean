/-
  Region Region2 RL4 Str RCod RCod2 RCod3 RCod4 RefCode
-/
import Derived.Test.YtobjdpngnfbicaaGreatDoorZP01
import Derived.WalkLawsBesides
open Go.IntWalk renaming i64_in->af,u8_in->ap
open Nat renaming le_refl->aq,le_trans->au,lt_of_lt_of_le->aw
open List renaming length_append->aA,append_assoc->aB,getElem_mem->aC
open Go.Proofs.Tryz renaming prog->aE
set_option maxHeartbeats 8000000
set_option maxRecDepth 100000
set_option linter.all false
namespace Go.Proofs.YtobjdpngnfbicaaGreatDoor
open Go.RowKit
open Go.Proofs.Tryz
variable(w:World)(F:aQ)(n k:Nat)(v:Value)(b:List UInt8)(m:aT){W w':World}{G:aQ}{u:Value}{i j o:Nat}{l:List UInt8}{L:List Value}{t:TypeId}
section
open Go
section
variable {P:Program} {ops:Array Oper} {md:Region.Mode} {C:World -> World -> Prop}
def upC(P:Program)(next:Value -> World -> Prop):Result Next -> Prop
 |.ok (.value v) w'=>next v w'
 |.ok .skip w'=>next undef w'
 |.ok (.enter f args) w'=>Calls P f args w' (λe a=>∃v,e=.returned v /\ next v a)
 |_=>False
def opC(P:Program)(o:Oper)(a:Act)(w:World)(next:Value -> World -> Prop):Prop:=upC P next ((execOp a.eval o).run P w)
theorem eV{b c:Value -> World -> Prop}{r:Result Next}(h:∀v w,b v w -> c v w)(a:upC P b r):upC P c r:=by
 cases r with
 |ok n i=>
  cases n<;>simp only[upC] at a⊢
  case enter f args=>exact a.mono λe j ⟨v,d,g⟩=>⟨v,d,h _ _ g⟩
  all_goals exact h _ _ a
 |halt x i=>simp only[upC] at a
def stC(P:Program)(ops:Array Oper)(C:World -> World -> Prop)(i:Nat)(K:Act -> World -> Prop)(a:Act)(w:World):Prop:=
 match ops[i]? with
 |none=>K a w
 |some o=>if Region.wanted o (yielded ops a.tmps) then opC P o a w (λv b=>C w b /\ K (a.put o.dst v) b) else K (a.put o.dst undef) w
theorem CL{a:Act}{K e:Act -> World -> Prop}(h:∀a d,K a d -> e a d)(b:stC P ops C i K a W):stC P ops C i e a W:=by
 unfold stC at *;split
 ·exact h _ _ (by simpa[*] using b)
 ·rename_i o g;simp only[g] at b;split
  ·rename_i c;simp only[c,if_true] at b;exact eV (λv d f=>⟨f.1,h _ _ f.2⟩) b
  ·rename_i c;simp only[c] at b;exact h _ _ b
def iq(P:Program)(md:Region.Mode)(ops:Array Oper)(C:World -> World -> Prop)(Q:Act -> World -> Prop):Nat -> Array Bool -> Act -> World -> Prop
 |0,b,a,w=>Region.ready md ops b = [] /\ Q a w
 |c+1,b,a,w=>
  (Region.ready md ops b = [] -> Q a w) /\
  ∀i∈Region.ready md ops b,stC P ops C i (iq P md ops C Q c (b.setIfInBounds i true)) a w
theorem t6{o:Oper}{a:Act}{d:Value -> World -> Prop}{K:Act -> World -> Prop}{Q:Exit -> Act -> World -> Prop}(h:∀v c,d v c -> K (a.put o.dst v) c)(b:opC P o a W d):o.wp P a W K Q:=by
 unfold opC at b;unfold Oper.wp;generalize(execOp a.eval o).run P W=r at *;cases r with
 |ok n c=>
  cases n<;>simp only[upC] at b<;>simp only[Oper.upon]
  case enter f args=>exact b.mono λe j ⟨v,g,i⟩=>by subst g;exact h _ _ i
  all_goals exact h _ _ b
 |halt x c=>simp only[upC] at b
theorem xr{a:Act}{K f:Act -> World -> Prop}{Q:Exit -> Act -> World -> Prop}(h:∀a e,K a e -> f a e)(b:stC P ops C i K a W):wpOp P ops Q i f a W:=by
 unfold stC at b;unfold wpOp;split
 ·rename_i c;simp only[c] at b;exact h _ _ b
 ·rename_i o c;simp only[c] at b;split
  ·rename_i d;simp only[d,if_true] at b;exact .inl (t6 (λv e g=>h _ _ g.2) b)
  ·rename_i d;simp only[d] at b;exact h _ _ b
theorem ly{Q:Act -> World -> Prop}{d:Exit -> Act -> World -> Prop}(c:∀a w,Q a w -> d .normal a w):∀(b:Nat)(e:Array Bool)(a:Act)(w:World),
 iq P md ops C Q b e a w -> wpAny P md ops d b e a w
 |0,_,_,_,h=>⟨h.1,c _ _ h.2⟩
 |b+1,_,_,_,h=>⟨λg=>c _ _ (h.1 g),λi hi=>xr (λf k j=>ly c b _ f k j) (h.2 i hi)⟩
def fx(P:Program)(ops:Array Oper)(C:World -> World -> Prop)(o:Oper)(v:Value)(a:Act)(w:World):Prop:=
 (Region.wanted o (yielded ops a.tmps)=true /\ ∀b,C w b -> (execOp a.eval o).run P b=.ok (.value v) b) \/
 (Region.wanted o (yielded ops a.tmps)=false /\ v=undef)
theorem fx.stC{i:Nat}{o:Oper}{v:Value}{a:Act}{w:World}(c:∀w,C w w)(d:ops[i]?=some o)(f:fx P ops C o v a w){K:Act -> World -> Prop}(h:K (a.put o.dst v) w):stC P ops C i K a w:=by
 unfold Go.Proofs.YtobjdpngnfbicaaGreatDoor.stC;simp only[d];rcases f with⟨b,e⟩|⟨b,rfl⟩
 ·simp only[b,if_true,opC,e w (c w),upC];exact⟨c w,h⟩
 ·simp only[b,Bool.false_eq_true,if_false];exact h
theorem fx.keep{d e:Oper}{v u:Value}{a:Act}{w w':World}(m:∀a b c,C a b -> C b c -> C a c)(i:d.apart ops e=true)(l:∀h b,d.op≠.select h b)
 (f:fx P ops C d v a w) (j:C w w'):fx P ops C d v (a.put e.dst u) w':=by
 obtain⟨q,r,g⟩:=Oper.apart_spec i;unfold fx at *;rw[execOp_put d l a e.dst u g,wanted_put d a e.dst u g];rcases f with⟨o,n⟩|f
 ·exact .inl ⟨o,λp k=>n p (m _ _ _ j k)⟩
 ·exact .inr f
theorem En{d e:Oper}{v:Value}(x:∀W,C W W)(r:∀a b c,C a b -> C b c -> C a c)(t:ops[i]?=some e)(g:d.apart ops e=true)
 (q:∀f b,d.op≠.select f b) (y:∀f b,e.op≠.select f b) {K:Act -> World -> Prop} {a:Act}
 (s:fx P ops C d v a W) (h:stC P ops C i K (a.put d.dst v) W):
 stC P ops C i (λn m=>fx P ops C d v n m /\ K (n.put d.dst v) m) a W:=by
 obtain⟨o,p,z⟩:=Oper.apart_spec g;unfold stC at *;simp only[t] at *;rw[wanted_put e a d.dst v o] at h;split
 ·rename_i l;simp only[l,if_true] at h;unfold opC at *;rw[execOp_put e y a d.dst v o] at h;exact eV (λu m k=>⟨k.1,s.keep r g q k.1,by rw[<- Act.put_comm a v u p];exact k.2⟩) h
 ·rename_i l;simp only[l] at h;exact⟨s.keep r g q (x W),by rw[<- Act.put_comm a v undef p];exact h⟩
theorem gj{Q:Act -> World -> Prop}{n:Oper}{v:Value}(z:∀w,C w w)(W:∀a b c,C a b -> C b c -> C a c)(x:ops[i]?=some n)(G:∀(j:Nat)(o:Oper) p b,ops[j]?=some o -> o.op≠.select p b):
 ∀(q:Nat)(d:Array Bool)(a:Act)(w:World),
  (∀j m,ops[j]?=some m -> j≠i -> d.getD j true=false -> (∀e∈m.after,Region.binds md e=true -> e.on≠i) -> n.apart ops m=true) ->
  i∈Region.ready md ops d -> fx P ops C n v a w ->
  iq P md ops C Q q (d.setIfInBounds i true) (a.put n.dst v) w -> iq P md ops C Q (q+1) d a w:=by
 intro q
 induction q with
 |zero=>
  intro d a w _ l t H;refine⟨λh=>(by rw[h] at l;cases l),λj s=>?_⟩
  by_cases f:j=i
  ·subst f;exact t.stC z x H
  ·have:=ready_mono s f;rw[H.1] at this;cases this
 |succ q X=>
  intro d a w D l t H;refine⟨λh=>(by rw[h] at l;cases l),λj s=>?_⟩
  by_cases f:j=i
  ·subst f;exact t.stC z x H
  ·have g:=H.2 j (ready_mono s f);obtain⟨F,m,y,L⟩:=mem_ready.1 s
   have V:∀e∈m.after,Region.binds md e=true -> e.on≠i:=λe N M O=>by
    have g:=L e N M;have A:=(mem_ready.1 l).1;rw[O] at g;rcases Nat.lt_or_ge i d.size with u|u
    ·simp[u] at A g;rw[A] at g;cases g
    ·simp[Array.getElem?_eq_none u] at g
   have K:=En z W y (D j m y f F V) (λp b=>G i n p b x) (λp b=>G j m p b y) t g
   have R:∀k r,ops[k]?=some r -> k≠i -> (d.setIfInBounds j true).getD k true=false ->
    (∀e∈r.after,Region.binds md e=true -> e.on≠i) -> n.apart ops r=true:=λk r S T I U=>by
    refine D k r S T ?_ U
    by_cases E:j=k
    ·subst E;exact F
    ·rw[getD_set_ne true E] at I;exact I
   refine CL (λJ Y B=>X (d.setIfInBounds j true) J Y R (ready_mono l (Ne.symm f)) B.1 ?_) K;rw[Array.setIfInBounds_comm _ _ f];exact B.2
def fR(P:Program)(ops:Array Oper)(C:World -> World -> Prop)(Q:Act -> World -> Prop):List (Nat×Bool) -> Act -> World -> Prop
 |[],a,w=>Q a w
 |(i,true)::r,a,w=>match ops[i]? with
  |none=>False
  |some o=>if Region.wanted o (yielded ops a.tmps) then ∃v,(∀b,C w b -> (execOp a.eval o).run P b=.ok (.value v) b) /\ fR P ops C Q r (a.put o.dst v) w else fR P ops C Q r (a.put o.dst undef) w
 |(i,false)::r,a,w=>match ops[i]? with
  |none=>False
  |some o=>if Region.wanted o (yielded ops a.tmps) then opC P o a w (λv b=>C w b /\ fR P ops C Q r (a.put o.dst v) b) else fR P ops C Q r (a.put o.dst undef) w
def kT(md:Region.Mode)(ops:Array Oper):List (Nat×Bool) -> Array Bool -> Bool
 |[],a=>(Region.ready md ops a).isEmpty
 |(i,true)::r,a=>(Region.ready md ops a).contains i&&Region.free md ops a i&&kT md ops r (a.setIfInBounds i true)
 |(i,false)::r,a=>(Region.ready md ops a == [i])&&kT md ops r (a.setIfInBounds i true)
theorem iK{Q:Act -> World -> Prop}(k:∀w,C w w)(n:∀a b c,C a b -> C b c -> C a c)(m:Region.noSelect ops=true):∀(l:List (Nat×Bool))(g:Array Bool)(a:Act)(w:World),
 kT md ops l g=true -> fR P ops C Q l a w -> iq P md ops C Q l.length g a w
 |[],_,_,_,f,h=>⟨by simpa[kT] using f,h⟩
 |(i,true)::l,g,a,w,f,h=>by
  simp only[kT,Bool.and_eq_true] at f;obtain⟨⟨q,s⟩,p⟩:=f;simp only[fR] at h;cases d:ops[i]? with
  |none=>simp[d] at h
  |some o=>
   simp only[d] at h
   by_cases e:Region.wanted o (yielded ops a.tmps)=true
   ·simp only[e,if_true] at h;obtain⟨v,r,x⟩:=h;exact gj k n d (Region.noSelect_spec m) l.length g a w (Region.free_spec d s) (by simpa using q) (.inl ⟨e,r⟩) (iK k n m l _ _ _ p x)
   ·simp only[e] at h;exact gj k n d (Region.noSelect_spec m) l.length g a w (Region.free_spec d s) (by simpa using q) (.inr ⟨by simpa using e,rfl⟩) (iK k n m l _ _ _ p h)
 |(i,false)::l,g,a,w,f,h=>by
  simp only[kT,Bool.and_eq_true] at f;obtain⟨q,p⟩:=f;have u:Region.ready md ops g = [i]:=by simpa using q
  simp only[fR] at h;refine⟨λd=>(by rw[u] at d;cases d),λj t=>?_⟩;rw[u] at t;obtain rfl:j=i:=by simpa using t
  unfold stC;cases d:ops[j]? with
  |none=>simp[d] at h
  |some o=>
   simp only[d] at h;simp only;split
   ·rename_i e;simp only[e,if_true] at h;exact eV (λv y r=>⟨r.1,iK k n m l _ _ _ p r.2⟩) h
   ·rename_i e;simp only[e] at h;exact iK k n m l _ _ _ p h
theorem kw{Q:Exit -> Act -> World -> Prop}{a:Act}{l:List Oper}(C:World -> World -> Prop)(d:List (Nat×Bool))(o:P.follows .mixedOrders=true)(g:(Region.noSelect l.toArray&&kT .any l.toArray d (Array.replicate d.length false)&&(d.length == l.length))=true)
 (p:∀W,C W W) (q:∀a b c,C a b -> C b c -> C a c)
 (h:fR P l.toArray C (λe f=>Q .normal e f) d a W.drew):(Code.region i l.toArray true).wp P Q a W:=by
 simp only[Bool.and_eq_true] at g;obtain⟨⟨j,k⟩,m⟩:=g;have n:d.length=l.length:=by simpa using m
 refine wp_region_any o (ly (C:=C) (Q:=λe f=>Q .normal e f) (λ_ _ h=>h) _ _ _ _ ?_);have:=iK (md:=.any) p q j d _ a W.drew k h;rw[n] at this;simpa using this
theorem aW{Q:Act -> World -> Prop}{a:Act}(h:Q a W):fR P ops C Q [] a W:=h
theorem fS{o:Oper}{y:Nat -> Option Bool}(h:o.guard=none):Region.wanted o y=true:=by simp[Region.wanted,h]
theorem aY{Q:Act -> World -> Prop}{o:Oper}{r:List (Nat×Bool)}{a:Act}(d:ops[i]?=some o)(e:Region.wanted o (yielded ops a.tmps)=true)
 (h:∀K:Act -> World -> Prop,(∀c b,fR P ops C Q r c b -> K c b) -> opC P o a W (λv b=>C W b /\ K (a.put o.dst v) b)):fR P ops C Q ((i,false)::r) a W:=by
 simp only[fR,d,e,if_true];exact h _ (λ_ _ h=>h)
def isB:Value -> Bool -> Bool
 |.bool x,b=>x == b
 |_,_=>false
theorem bE{x b:Bool}:isB (.bool x) b=(x == b):=rfl
theorem bm{b:Bool}:isB undef b=false:=rfl
def told(g:Option (Tmp×Bool))(tmps:Array Value):Bool:=
 match g with
 |none=>true
 |some (d,b)=>isB (tmps.getD d undef) b
def CM(ops:Array Oper)(o:Oper):Option (Option (Tmp×Bool)):=
 match o.guard with
 |none=>some none
 |some (j,b)=>match ops[j]? with
  |none=>none
  |some a=>match a.dst with
   |none=>none
   |some d=>some (some (d,b))
def nf{α:Type}(a:α -> Option Nat)(ops:Array Oper):List α -> Option (List (Oper×Option (Tmp×Bool))×List α)
 |[]=>some ([],[])
 |x::l=>match a x with
  |none=>some ([],x::l)
  |some i=>match ops[i]? with
   |none=>none
   |some o=>match nf a ops l with
    |none=>none
    |some (b,r)=>match CM ops o with
     |none=>none
     |some g=>some ((o,g)::b,r)
def Fv(a:Act)(b:List Value)(A:Act)(c:List Value):Prop:=a=A /\ b=c
theorem aF{a:Act}:Fv a L a L:=⟨rfl,rfl⟩
def kU(P:Program):List (Oper×Option (Tmp×Bool)) -> Act -> World -> List Value -> Act -> List Value -> Prop
 |[],a,_,b,A,c=>Fv a b A c
 |(o,g)::r,a,w,b,A,c=>if told g a.tmps then ∃v,(execOp a.eval o).run P w=.ok (.value v) w /\ kU P r (a.put o.dst v) w (v::b) A c else kU P r (a.put o.dst undef) w (undef::b) A c
def xt(P:Program)(x:Result Next)(d:Option Tmp)(r:List (Oper×Option (Tmp×Bool)))(a:Act)(w:World)(b:List Value)(A:Act)(c:List Value):Prop:=
 ∃v,x=.ok (.value v) w /\ kU P r (a.put d v) w (v::b) A c
def t7(P:Program)(b:Bool)(o:Oper)(r:List (Oper×Option (Tmp×Bool)))(a:Act)(w:World)(c:List Value)(A:Act)(d:List Value):Prop:=
 if b then xt P ((execOp a.eval o).run P w) o.dst r a w c A d else kU P r (a.put o.dst undef) w (undef::c) A d
theorem bF{a A:Act}{b c:List Value}:kU P [] a W b A c=Fv a b A c:=by unfold kU;rfl
theorem bp{o:Oper}{g:Option (Tmp×Bool)}{r:List (Oper×Option (Tmp×Bool))}{a A:Act}{b c:List Value}:kU P ((o,g)::r) a W b A c=t7 P (told g a.tmps) o r a W b A c:=by rw[kU];rfl
theorem bq{o:Oper}{r:List (Oper×Option (Tmp×Bool))}{a A:Act}{b c:List Value}:t7 P true o r a W b A c=xt P ((execOp a.eval o).run P W) o.dst r a W b A c:=by rw[t7];rfl
theorem bG{o:Oper}{r:List (Oper×Option (Tmp×Bool))}{a A:Act}{b c:List Value}:t7 P false o r a W b A c=kU P r (a.put o.dst undef) W (undef::b) A c:=by simp[t7]
theorem bH{d:Option Tmp}{r:List (Oper×Option (Tmp×Bool))}{a A:Act}{b c:List Value}:xt P (.ok (.value u) W) d r a W b A c=kU P r (a.put d u) W (u::b) A c:=by simp[xt]
theorem rf:∀{d:List (Oper×Option (Tmp×Bool))}{a A:Act}{w:World}{c f:List Value},kU P d a w c A f -> ∃t,t.length=d.length /\ f=t++c
 |[],_,_,_,_,_,h=>⟨[],rfl,h.2.symm⟩
 |(o,g)::r,a,_,_,c,_,h=>by
  simp only[kU] at h;split at h
  ·obtain⟨v,-,h⟩:=h;obtain⟨t,b,e⟩:=rf h;exact⟨t++[v],by simp[b],by simp[e]⟩
  ·obtain⟨t,b,e⟩:=rf h;exact⟨t++[undef],by simp[b],by simp[e]⟩
theorem lX{o:Oper}{g:Option (Tmp×Bool)}(h:CM ops o=some g)(e:Array Value):Region.wanted o (yielded ops e)=told g e:=by
 unfold CM at h;unfold Region.wanted;cases f:o.guard with
 |none=>simp only[f,Option.some.injEq] at h;subst h;rfl
 |some p=>
  obtain⟨j,b⟩:=p;simp only[f] at h;cases c:ops[j]? with
  |none=>simp[c] at h
  |some i=>
   simp only[c] at h;cases a:i.dst with
   |none=>simp[a] at h
   |some d=>
    simp only[a,Option.some.injEq] at h;subst h;simp only[yielded,c,Option.bind_some,a,told,Array.getD_eq_getD_getElem?];cases e[d]? with
    |none=>rfl
    |some v=>cases v<;>rfl
theorem mE{α:Type}{f:α -> Option Nat}{W:List α -> Act -> Prop}{w:World}(d:C w w)
 (D:∀x i o r a v,f x=some i -> ops[i]?=some o -> Region.wanted o (yielded ops a.tmps)=true -> (∀E,C w E -> (execOp a.eval o).run P E=.ok (.value v) E) -> W r (a.put o.dst v) -> W (x::r) a)
 (B:∀x i o r a,f x=some i -> ops[i]?=some o -> Region.wanted o (yielded ops a.tmps)=false -> W r (a.put o.dst undef) -> W (x::r) a):
 ∀(l:List α){s:List (Oper×Option (Tmp×Bool))}{r:List α}{a A:Act}{y z:List Value},nf f ops l=some (s,r) -> (∀u,C w u -> kU P s a u y A z) -> W r A -> W l a
 |[],s,r,a,A,y,z,h,b,c=>by
  simp only[nf,Option.some.injEq,Prod.mk.injEq] at h;obtain⟨rfl,rfl⟩:=h;rw[(b w d).1];exact c
 |x::l,s,r,a,A,y,z,h,b,c=>by
  simp only[nf] at h;cases q:f x with
  |none=>
   simp only[q,Option.some.injEq,Prod.mk.injEq] at h;obtain⟨rfl,rfl⟩:=h;rw[(b w d).1];exact c
  |some i=>
   simp only[q] at h;cases m:ops[i]? with
   |none=>simp[m] at h
   |some o=>
    simp only[m] at h;cases k:nf f ops l with
    |none=>simp[k] at h
    |some p=>
     obtain⟨N,R⟩:=p;simp only[k] at h;cases j:CM ops o with
     |none=>simp[j] at h
     |some g=>
      simp only[j,Option.some.injEq,Prod.mk.injEq] at h;obtain⟨rfl,rfl⟩:=h;simp only[kU] at b;cases n:told g a.tmps with
      |false=>
       simp only[n,Bool.false_eq_true,if_false] at b;exact B x i o l a q m (by rw[lX j,n]) (mE d D B l k b c)
      |true=>
       simp only[n,if_true] at b;obtain⟨v,Q,L⟩:=b w d;obtain⟨t,H,I⟩:=rf L
       have F:∀u,C w u -> (execOp a.eval o).run P u=.ok (.value v) u /\ kU P N (a.put o.dst v) u (v::y) A z:=λu e=>by
        obtain⟨O,M,G⟩:=b u e;obtain⟨S,J,K⟩:=rf G;have:=(List.append_inj (I.symm.trans K) (H.trans J.symm)).2;obtain rfl:v=O:=(List.cons.inj this).1;exact⟨M,G⟩
       exact D x i o l a v q m (by rw[lX j,n]) (λu e=>(F u e).1) (mE d D B l k (λu e=>(F u e).2) c)
def F6:Nat×Bool -> Option Nat
 |(i,true)=>some i
 |_=>none
theorem aG[Std.Refl C]{Q:Act -> World -> Prop}{l r:List (Nat×Bool)}{e:List (Oper×Option (Tmp×Bool))}{a A:Act}(g:nf F6 ops l=some (e,r))
 (c:∀f,C w' f -> kU P e a f [] A L) (h:fR P ops C Q r A w'):fR P ops C Q l a w':=by
 refine mE (W:=λl a=>fR P ops C Q l a w') (Std.Refl.refl w') ?_ ?_ l g c h
 ·rintro⟨i,_|_⟩ j o r a v hi b d c h
  ·cases hi
  ·cases hi;simp only[fR,b,d,if_true];exact⟨v,c,h⟩
 ·rintro⟨i,_|_⟩ j o r a hi b d h
  ·cases hi
  ·cases hi;simpa only[fR,b,d,Bool.false_eq_true,if_false] using h
theorem bK{Q:Act -> World -> Prop}{b:Bool}{r:List (Nat×Bool)}{o:Oper}{g:Option (Tmp×Bool)}{a A:Act}(e:ops[i]?=some o)(d:CM ops o=some g)(f:told g a.tmps=false)(c:a.put o.dst undef=A)
 (h:fR P ops C Q r A W):fR P ops C Q ((i,b)::r) a W:=by
 subst c;have j:Region.wanted o (yielded ops a.tmps)=false:=by rw[lX d,f]
 cases b<;>simpa only[fR,e,j,Bool.false_eq_true,if_false] using h
end
attribute [irreducible] fR kU xt t7
def aK(w w':World):Prop:=RowKit.Below w.heap.size w w'
theorem aZ:aK w w:=RowKit.Below.refl _ _
theorem bL(a b c:World)(h:aK a b)(k:aK b c):aK a c:=h.trans (k.mono h.size)
def bI(F:aQ)(w w':World):Prop:=aM F w w'
theorem eC(w:World):bI F w w:=aM.refl _ _
theorem fy(a b c:World)(h:bI F a b)(k:bI F b c):bI F a c:=aM.trans h k (λ_ hi=>.inl hi)
theorem bI.of_below{F:aQ}{w a:World}(h:RowKit.Below w.heap.size w a):bI F w a:=aM.of_below h
instance:Std.Refl aK:=⟨aZ⟩
instance:Trans aK aK aK:=⟨λh k=>bL _ _ _ h k⟩
instance{F:aQ}:Std.Refl (bI F):=⟨eC F⟩
instance{F:aQ}:Trans (bI F) (bI F) (bI F):=⟨λh k=>fy F _ _ _ h k⟩
instance{F:aQ}:Std.Refl (aM F):=⟨eC F⟩
instance{F:aQ}:Trans (aM F) (aM F) (aM F):=⟨λh k=>fy F _ _ _ h k⟩
instance{n:Nat}:Std.Refl (RowKit.Below n):=⟨λw=>RowKit.Below.refl n w⟩
instance{n:Nat}:Trans (RowKit.Below n) (RowKit.Below n) (RowKit.Below n):=⟨λh k=>h.trans k⟩
def od(n:Nat):Nat×Bool:=(n%500,Nat.blt n 500)
def up:Nat -> List Nat -> List Nat
 |0,l=>l
 |k+1,l=>up k (k::l)
theorem mixed:aE.follows .mixedOrders=true:=by kernel_rfl
theorem bP{Q:Exit -> Act -> World -> Prop}{a:Act}{l:List Oper}(C:World -> World -> Prop)[Std.Refl C][Trans C C C](b:List Nat)
 (d:(Region.noSelect l.toArray&&kT .any l.toArray (b.map od) (Array.replicate (b.map od).length false)&&((b.map od).length == l.length))=true)
 (h:fR aE l.toArray C (λc e=>Q .normal c e) (b.map od) a W.drew):(Code.region i l.toArray true).wp aE Q a W:=
 kw C _ mixed d Std.Refl.refl (λ_ _ _=>Trans.trans) h
end
section
open Go
section
variable {P:Program} {ops:Array Oper} {md:Region.Mode} {C:World -> World -> Prop} {lx:Nat}
def stL(P:Program)(ops:Array Oper)(C:World -> World -> Prop)(lx:Nat)(i:Nat)(K:Act -> World -> Prop)(a:Act)(w:World):Prop:=
 match ops[i]? with
 |none=>K a w
 |some o=>if Region.wanted o (yielded ops a.tmps) then opC P o a w (λv b=>(i=lx \/ C w b) /\ K (a.put o.dst v) b) else K (a.put o.dst undef) w
theorem xu{a:Act}{K e:Act -> World -> Prop}(h:∀a d,K a d -> e a d)(b:stL P ops C lx i K a W):stL P ops C lx i e a W:=by
 unfold stL at *;split
 ·exact h _ _ (by simpa[*] using b)
 ·rename_i o g;simp only[g] at b;split
  ·rename_i c;simp only[c,if_true] at b;exact eV (λv d f=>⟨f.1,h _ _ f.2⟩) b
  ·rename_i c;simp only[c] at b;exact h _ _ b
def lY(P:Program)(md:Region.Mode)(ops:Array Oper)(C:World -> World -> Prop)(lx:Nat)(Q:Act -> World -> Prop):Nat -> Array Bool -> Act -> World -> Prop
 |0,b,a,w=>Region.ready md ops b = [] /\ Q a w
 |c+1,b,a,w=>
  (Region.ready md ops b = [] -> Q a w) /\
  ∀i∈Region.ready md ops b,stL P ops C lx i (lY P md ops C lx Q c (b.setIfInBounds i true)) a w
theorem xw{a:Act}{K f:Act -> World -> Prop}{Q:Exit -> Act -> World -> Prop}(h:∀a e,K a e -> f a e)(b:stL P ops C lx i K a W):wpOp P ops Q i f a W:=by
 unfold stL at b;unfold wpOp;split
 ·rename_i c;simp only[c] at b;exact h _ _ b
 ·rename_i o c;simp only[c] at b;split
  ·rename_i d;simp only[d,if_true] at b;exact .inl (t6 (λv e g=>h _ _ g.2) b)
  ·rename_i d;simp only[d] at b;exact h _ _ b
theorem nR{Q:Act -> World -> Prop}{d:Exit -> Act -> World -> Prop}(c:∀a w,Q a w -> d .normal a w):∀(b:Nat)(e:Array Bool)(a:Act)(w:World),
 lY P md ops C lx Q b e a w -> wpAny P md ops d b e a w
 |0,_,_,_,h=>⟨h.1,c _ _ h.2⟩
 |b+1,_,_,_,h=>⟨λg=>c _ _ (h.1 g),λi hi=>xw (λf k j=>nR c b _ f k j) (h.2 i hi)⟩
theorem fx.stL{i:Nat}{o:Oper}{v:Value}{a:Act}{w:World}(c:∀w,C w w)(d:ops[i]?=some o)(f:fx P ops C o v a w){K:Act -> World -> Prop}(h:K (a.put o.dst v) w):stL P ops C lx i K a w:=by
 unfold Go.Proofs.YtobjdpngnfbicaaGreatDoor.stL;simp only[d];rcases f with⟨b,e⟩|⟨b,rfl⟩
 ·simp only[b,if_true,opC,e w (c w),upC];exact⟨.inr (c w),h⟩
 ·simp only[b,Bool.false_eq_true,if_false];exact h
theorem Eo{d e:Oper}{v:Value}(y:∀W,C W W)(r:∀a b c,C a b -> C b c -> C a c)(t:ops[i]?=some e)(x:i≠lx)(g:d.apart ops e=true)
 (q:∀f b,d.op≠.select f b) (z:∀f b,e.op≠.select f b) {K:Act -> World -> Prop} {a:Act}
 (s:fx P ops C d v a W) (h:stL P ops C lx i K (a.put d.dst v) W):
 stL P ops C lx i (λn m=>fx P ops C d v n m /\ K (n.put d.dst v) m) a W:=by
 obtain⟨o,p,A⟩:=Oper.apart_spec g;unfold stL at *;simp only[t] at *;rw[wanted_put e a d.dst v o] at h;split
 ·rename_i l;simp only[l,if_true] at h;unfold opC at *;rw[execOp_put e z a d.dst v o] at h;exact eV (λu m k=>⟨k.1,s.keep r g q (k.1.resolve_left x),by rw[<- Act.put_comm a v u p];exact k.2⟩) h
 ·rename_i l;simp only[l] at h;exact⟨s.keep r g q (y W),by rw[<- Act.put_comm a v undef p];exact h⟩
def lZ(md:Region.Mode)(ops:Array Oper)(i:Nat):List Nat:=
 match ops[i]? with
 |none=>[]
 |some o=>(o.after.toList.filter (Region.binds md)).map (·.on)
def mF(md:Region.Mode)(ops:Array Oper):Nat -> List Nat -> List Nat
 |0,l=>l
 |n+1,l=>mF md ops n (l++l.flatMap (lZ md ops)).eraseDups
def xy(md:Region.Mode)(ops:Array Oper)(lx:Nat):Bool:=
 (List.range ops.size).all λi=>(i == lx) || (mF md ops 6 (lZ md ops lx)).contains i || (mF md ops 6 (lZ md ops i)).contains lx
def kC(md:Region.Mode)(ops:Array Oper)(a:Array Bool):Prop:=
 ∀k,a.getD k false=true -> ∀j∈lZ md ops k,a.getD j false=true
theorem ir{b:Array Bool}(c:kC md ops b):∀(n:Nat)(l:List Nat),(∀j∈l,b.getD j false=true) -> ∀j∈mF md ops n l,b.getD j false=true
 |0,_,h=>h
 |n+1,l,h=>ir c n _ (λj a=>by
  rw[List.mem_eraseDups,List.mem_append,List.mem_flatMap] at a;rcases a with a|⟨k,d,a⟩
  ·exact h j a
  ·exact c k (h k d) j a)
theorem iY{b:Array Bool}(g:i∈Region.ready md ops b):∀j∈lZ md ops i,b.getD j false=true:=by
 obtain⟨_,o,h,c⟩:=mem_ready.1 g;intro j a;unfold lZ at a;rw[h] at a;simp only[List.mem_map,List.mem_filter] at a;obtain⟨e,⟨f,d⟩,rfl⟩:=a;exact c e (by simpa using f) d
theorem kC.set{a:Array Bool}(e:kC md ops a)(f:i∈Region.ready md ops a):kC md ops (a.setIfInBounds i true):=by
 intro k c j b
 by_cases d:i=k
 ·subst d;exact getD_set_true (iY f j b)
 ·rw[getD_set_ne false d] at c;exact getD_set_true (e k c j b)
theorem Ep(h:xy md ops lx=true){a:Array Bool}(f:kC md ops a)(g:i∈Region.ready md ops a)(j:lx∈Region.ready md ops a):i=lx:=by
 obtain⟨c,o,n,_⟩:=mem_ready.1 g;have m:i<ops.size:=(Array.getElem?_eq_some_iff.1 n).1;have b:=List.all_eq_true.1 h i (by simpa using m);simp only[Bool.or_eq_true,beq_iff_eq] at b
 have l:∀k,a.getD k true=false -> a.getD k false=true -> False:=λk c this=>by
  rcases Nat.lt_or_ge k a.size with d|d
  ·simp[d] at c this;rw[c] at this;cases this
  ·simp[Array.getElem?_eq_none d] at this
 rcases b with(b|e)|e
 ·exact b
 ·exact(l i c (ir f 6 _ (iY j) i (by simpa using e))).elim
 ·exact(l lx (mem_ready.1 j).1 (ir f 6 _ (iY g) lx (by simpa using e))).elim
theorem oQ{Q:Act -> World -> Prop}{p:Oper}(X:xy md ops lx=true)(A:∀w,C w w)(aa:∀a b c,C a b -> C b c -> C a c)(y:ops[i]?=some p)(J:∀(j:Nat)(o:Oper) q b,ops[j]?=some o -> o.op≠.select q b):
 ∀(r:Nat)(d:Array Bool)(a:Act)(w:World),kC md ops d ->
  (∀j m,ops[j]?=some m -> j≠i -> d.getD j true=false -> (∀e∈m.after,Region.binds md e=true -> e.on≠i) -> p.apart ops m=true) ->
  i∈Region.ready md ops d -> fx P ops C p u a w ->
  lY P md ops C lx Q r (d.setIfInBounds i true) (a.put p.dst u) w -> lY P md ops C lx Q (r+1) d a w:=by
 intro r
 induction r with
 |zero=>
  intro d a w _ _ g t H;refine⟨λh=>(by rw[h] at g;cases g),λj n=>?_⟩
  by_cases f:j=i
  ·subst f;exact t.stL A y H
  ·have:=ready_mono n f;rw[H.1] at this;cases this
 |succ r ih=>
  intro d a w E F g t H;refine⟨λh=>(by rw[h] at g;cases g),λj n=>?_⟩
  by_cases f:j=i
  ·subst f;exact t.stL A y H
  ·have l:=H.2 j (ready_mono n f);obtain⟨I,m,z,N⟩:=mem_ready.1 n
   have Z:∀e∈m.after,Region.binds md e=true -> e.on≠i:=λe R O S=>by
    have l:=N e R O;have B:=(mem_ready.1 g).1;rw[S] at l;rcases Nat.lt_or_ge i d.size with x|x
    ·simp[x] at B l;rw[B] at l;cases l
    ·simp[Array.getElem?_eq_none x] at l
   have U:j≠lx:=λe=>f (e.trans (Ep X E g (e▸n)).symm)
   have M:=Eo A aa z U (F j m z f I Z) (λq b=>J i p q b y) (λq b=>J j m q b z) t l
   have T:∀k s,ops[k]?=some s -> k≠i -> (d.setIfInBounds j true).getD k true=false ->
    (∀e∈s.after,Region.binds md e=true -> e.on≠i) -> p.apart ops s=true:=λk s V W K Y=>by
    refine F k s V W ?_ Y
    by_cases G:j=k
    ·subst G;exact I
    ·rw[getD_set_ne true G] at K;exact K
   refine xu (λL w' D=>ih (d.setIfInBounds j true) L w' (E.set n) T (ready_mono g (Ne.symm f)) D.1 ?_) M;rw[Array.setIfInBounds_comm _ _ f];exact D.2
def eN(P:Program)(ops:Array Oper)(C:World -> World -> Prop)(lx:Nat)(Q:Act -> World -> Prop):List (Nat×Bool) -> Act -> World -> Prop
 |[],a,w=>Q a w
 |(i,true)::r,a,w=>match ops[i]? with
  |none=>False
  |some o=>if Region.wanted o (yielded ops a.tmps) then ∃v,(∀b,C w b -> (execOp a.eval o).run P b=.ok (.value v) b) /\ eN P ops C lx Q r (a.put o.dst v) w else eN P ops C lx Q r (a.put o.dst undef) w
 |(i,false)::r,a,w=>match ops[i]? with
  |none=>False
  |some o=>if Region.wanted o (yielded ops a.tmps) then opC P o a w (λv b=>(i=lx \/ C w b) /\ eN P ops C lx Q r (a.put o.dst v) b) else eN P ops C lx Q r (a.put o.dst undef) w
theorem jG{Q:Act -> World -> Prop}(n:xy md ops lx=true)(p:∀w,C w w)(r:∀a b c,C a b -> C b c -> C a c)(q:Region.noSelect ops=true):∀(l:List (Nat×Bool))(f:Array Bool)(a:Act)(w:World),
 kC md ops f -> kT md ops l f=true -> eN P ops C lx Q l a w -> lY P md ops C lx Q l.length f a w
 |[],_,_,_,_,k,h=>⟨by simpa[kT] using k,h⟩
 |(i,true)::l,f,a,w,m,k,h=>by
  simp only[kT,Bool.and_eq_true] at k;obtain⟨⟨e,x⟩,s⟩:=k;simp only[eN] at h;cases d:ops[i]? with
  |none=>simp[d] at h
  |some o=>
   simp only[d] at h
   by_cases g:Region.wanted o (yielded ops a.tmps)=true
   ·simp only[g,if_true] at h;obtain⟨v,t,z⟩:=h;exact oQ n p r d (Region.noSelect_spec q) l.length f a w m (Region.free_spec d x) (by simpa using e) (.inl ⟨g,t⟩) (jG n p r q l _ _ _ (m.set (by simpa using e)) s z)
   ·simp only[g] at h;exact oQ n p r d (Region.noSelect_spec q) l.length f a w m (Region.free_spec d x) (by simpa using e) (.inr ⟨by simpa using g,rfl⟩) (jG n p r q l _ _ _ (m.set (by simpa using e)) s h)
 |(i,false)::l,f,a,w,m,k,h=>by
  simp only[kT,Bool.and_eq_true] at k;obtain⟨e,s⟩:=k;have u:Region.ready md ops f = [i]:=by simpa using e
  simp only[eN] at h;refine⟨λd=>(by rw[u] at d;cases d),λj y=>?_⟩;rw[u] at y;obtain rfl:j=i:=by simpa using y
  have e:j∈Region.ready md ops f:=by rw[u];simp
  unfold stL;cases d:ops[j]? with
  |none=>simp[d] at h
  |some o=>
   simp only[d] at h;simp only;split
   ·rename_i g;simp only[g,if_true] at h;exact eV (λv A t=>⟨t.1,jG n p r q l _ _ _ (m.set (by simpa using e)) s t.2⟩) h
   ·rename_i g;simp only[g] at h;exact jG n p r q l _ _ _ (m.set (by simpa using e)) s h
theorem rJ{Q:Exit -> Act -> World -> Prop}{a:Act}{l:List Oper}(C:World -> World -> Prop)(lx:Nat)(d:List (Nat×Bool))(r:P.follows .mixedOrders=true)(j:(Region.noSelect l.toArray&&kT .any l.toArray d (Array.replicate d.length false)&&(d.length == l.length))=true)
 (q:xy .any l.toArray lx=true) (s:∀W,C W W) (t:∀a b c,C a b -> C b c -> C a c)
 (h:eN P l.toArray C lx (λe g=>Q .normal e g) d a W.drew):(Code.region i l.toArray true).wp P Q a W:=by
 simp only[Bool.and_eq_true] at j;obtain⟨⟨m,n⟩,o⟩:=j;have p:d.length=l.length:=by simpa using o
 refine wp_region_any r (nR (C:=C) (lx:=lx) (Q:=λe g=>Q .normal e g) (λ_ _ h=>h) _ _ _ _ ?_);have:=jG (md:=.any) q s t m d _ a W.drew (λk f=>by simp[Array.getElem?_replicate] at f;split at f<;>simp at f) n h;rw[p] at this;simpa using this
theorem cZ{Q:Act -> World -> Prop}{a:Act}(h:Q a W):eN P ops C lx Q [] a W:=h
theorem cD{Q:Act -> World -> Prop}{o:Oper}{r:List (Nat×Bool)}{a:Act}(d:ops[i]?=some o)(e:Region.wanted o (yielded ops a.tmps)=true)
 (h:∀K:Act -> World -> Prop,(∀c b,eN P ops C lx Q r c b -> K c b) -> opC P o a W (λv b=>(i=lx \/ C W b) /\ K (a.put o.dst v) b)):eN P ops C lx Q ((i,false)::r) a W:=by
 simp only[eN,d,e,if_true];exact h _ (λ_ _ h=>h)
theorem cG{Q:Act -> World -> Prop}{o:Oper}{r:List (Nat×Bool)}{a:Act}(g:i=lx)(d:ops[i]?=some o)(f:Region.wanted o (yielded ops a.tmps)=true)
 (h:∀K:Act -> World -> Prop,(∀c b,eN P ops C lx Q r c b -> K c b) -> opC P o a W (λv b=>K (a.put o.dst v) b)):eN P ops C lx Q ((i,false)::r) a W:=by
 simp only[eN,d,f,if_true];exact eV (λv b e=>⟨.inl g,e⟩) (h _ (λ_ _ h=>h))
theorem bC[Std.Refl C]{Q:Act -> World -> Prop}{l r:List (Nat×Bool)}{e:List (Oper×Option (Tmp×Bool))}{a A:Act}(g:nf F6 ops l=some (e,r))
 (c:∀f,C w' f -> kU P e a f [] A L) (h:eN P ops C lx Q r A w'):eN P ops C lx Q l a w':=by
 refine mE (W:=λl a=>eN P ops C lx Q l a w') (Std.Refl.refl w') ?_ ?_ l g c h
 ·rintro⟨i,_|_⟩ j o r a v hi b d c h
  ·cases hi
  ·cases hi;simp only[eN,b,d,if_true];exact⟨v,c,h⟩
 ·rintro⟨i,_|_⟩ j o r a hi b d h
  ·cases hi
  ·cases hi;simpa only[eN,b,d,Bool.false_eq_true,if_false] using h
end
attribute [irreducible] eN
theorem dq{Q:Exit -> Act -> World -> Prop}{a:Act}{l:List Oper}(C:World -> World -> Prop)[Std.Refl C][Trans C C C](lx:Nat)(b:List Nat)
 (c:(Region.noSelect l.toArray&&kT .any l.toArray (b.map od) (Array.replicate (b.map od).length false)&&((b.map od).length == l.length)&&xy .any l.toArray lx)=true)
 (h:eN aE l.toArray C lx (λd e=>Q .normal d e) (b.map od) a W.drew):(Code.region i l.toArray true).wp aE Q a W:=by
 rw[Bool.and_eq_true] at c;exact rJ C lx _ mixed c.1 c.2 Std.Refl.refl (λ_ _ _=>Trans.trans) h
end
section
attribute [local go_sem ↓] aU
structure Small(m:aT):Prop where
 seen:m.seen.length <= 20
 items:m.items.length <= 60
 gone:m.gone.length <= 60
 ikeys:∀x∈m.items,x.key.length <= 500
 gkeys:∀x∈m.gone,x.key.length <= 500
/- Two maps are compared: Same. -/
end
def CN(w:World)(a b:aT)(e:Ending)(c:World):Prop:=∃r,e=.returned (.bool r) /\ (r=true↔a=b) /\ Kpt w c
theorem iu{a b:aT}(h:a≠b):(false=true↔a=b):=⟨nofun,λe=>absurd e h⟩
theorem t8(w:World)(F G:aQ)(va vb:Value)(a b:aT)(ha:di F w va a)(N:di G w vb b):
 Calls aE 35 #[va,vb] w (CN w a b):=by
 replace ha:=jF ha 75
 obtain⟨a3,bh,a5,bj,a7,bl,r,s,C,a0,rfl,ha,a9,bd,bf,ab,ag,ak,an,aK,aW,Q,aF,aL,aM,aN⟩:=ha
 try rw[ab.x]
 try rw[ag.x]
 try rw[ak.x]
 replace N:=N.keep (w':=a0) λb _ aI=>aK.x.block b aI
 replace N:=jF N 75
 obtain⟨a4,bi,a6,bk,a8,bm,av,ax,aJ,ay,rfl,N,bc,be,bg,ad,ai,al,ao,az,a2,aG,a1,aX,aY,aZ⟩:=N
 try rw[ad.x]
 try rw[ai.x]
 try rw[al.x]
 have Q:=Q.keep (w':=ay) λb _ aI=>az.x.block b aI
 have ar:=aF.keep (az.x.block _ aF.lt);have aL:=ar.cell 0;have aM:=ar.cell 1;have aN:=ar.cell 2;simp at aL aM aN;have aF:=ar;rw[aW.x] at aX aY aZ;have m:=cT aK.x az.x
 go_enter func35,ntmps35
 by_cases h:r=av /\ s=ax /\ C=aJ
 ·obtain⟨n,u,L⟩:=h;subst n u L;go_wp2;rw[<- an.x,<- ao.x]
  go_loopw [5] (λi wr=>∃k d:Nat,k <= r /\ i=.int .i64 (k:Int) /\ wr=ay.drewN d /\ ∀j,j<k -> a.seen[j]?=b.seen[j]?) (λi _=>r-(intOf i).toNat)
  ·exact⟨0,0,by omega,rfl,rfl,λj f=>by omega⟩
  ·obtain⟨k,d,hk,rfl,rfl,X⟩:=hrel;have t:=X
   by_cases z:k<r
   ·have aa:(k:Int)<(r:Int):=by omega
    have x:k<a.seen.length:=by rw[ab.x];exact z
    have y:k<b.seen.length:=by rw[ad.x];exact z
    obtain⟨ba,aR,rfl,-,-,Y⟩:=ip Q.seen (by omega);obtain⟨bb,aS,rfl,-,-,Z⟩:=ip aG.x.seen (by omega);have ea:=Y k x;have eb:=Z k y;obtain⟨J,A⟩:=aH a.seen[k];obtain⟨K,B⟩:=aH b.seen[k];rw[A] at ea;rw[B] at eb;have g:=A;have l:=B
    by_cases he:J=K
    ·have d1:(J != K)=false:=by simp[he]
     go_wp2_with fail
     go_quiet (fail)
     go_wp2
     go_roundw
     ·exact⟨k+1,_,by omega,by go_num,rfl,λj f=>by
      rcases Nat.lt_succ_iff_lt_or_eq.1 f with h|h
      ·exact t j h
      ·subst h;rw[List.getElem?_eq_getElem x,List.getElem?_eq_getElem y,g,l,he]⟩
     ·simp[intOf];omega
    ·have d1:(J != K)=true:=by simp[he]
     have c:a≠b:=λe=>he (by subst e;rw[<- g,<- l])
     go_wp2_with fail
     go_quiet (fail)
     go_wp2
     go_ret
     exact⟨false,rfl,iu c,cN (cN m _) _⟩
   ·have aa:¬(k:Int)<(r:Int):=by omega
    have aU:a.seen=b.seen:=List.ext_getElem? λj=>by
     by_cases f:j<k
     ·exact t j f
     ·rw[List.getElem?_eq_none (by rw[ab.x];omega),List.getElem?_eq_none (by rw[ad.x];omega)]
    go_wp2
    go_loopw [6] (λi wr=>∃k d:Nat,k <= s /\ i=.int .i64 (k:Int) /\ wr=ay.drewN d /\ ∀j,j<k -> a.items[j]?=b.items[j]?) (λi _=>s-(intOf i).toNat)
    ·exact⟨0,_,by omega,rfl,rfl,λj f=>by omega⟩
    ·obtain⟨k,d,hk,rfl,rfl,X⟩:=hrel;have t:=X
     by_cases z:k<s
     ·have aa:(k:Int)<(s:Int):=by omega
      have x:k<a.items.length:=by rw[ag.x];exact z
      have y:k<b.items.length:=by rw[ai.x];exact z
      obtain⟨ba,aR,rfl,-,-,Y⟩:=fw Q.items (by omega);obtain⟨bb,aS,rfl,-,-,Z⟩:=fw aG.x.items (by omega);obtain⟨R,S,T,aO⟩:=Y k x;obtain⟨U,V,W,aP⟩:=Z k y;obtain⟨J,A⟩:=aH a.items[k];obtain⟨K,B⟩:=aH b.items[k];rw[A] at R S T aO;rw[B] at U V W aP;have g:=A;have l:=B;obtain⟨H,D,O,va⟩:=J;obtain⟨I,E,P,vb⟩:=K;dsimp only at R S T aO U V W aP
      by_cases o:H=I
      ·have g0:(H == I)=true:=by simp[o]
       by_cases p:D=E
       ·have g1:(D == E)=true:=by simp[p]
        by_cases v:O=P
        ·have g2:(O == P)=true:=by simp[v]
         by_cases h3:va=vb
         ·subst o p v h3;go_wp2_with fail
          go_quiet (fail)
          go_wp2
          go_roundw
          ·exact⟨k+1,_,by omega,by go_num,rfl,λj f=>by
           rcases Nat.lt_succ_iff_lt_or_eq.1 f with h|h
           ·exact t j h
           ·subst h;rw[List.getElem?_eq_getElem x,List.getElem?_eq_getElem y,g,l]⟩
          ·simp[intOf];omega
         ·
          have M:(va == vb)=false:=by simp[h3]
          have c:a≠b:=λe=>by subst e;have q:=g.symm.trans l;simp at q;exact h3 (by simp[q])
          go_wp2_with fail
          go_quiet (fail)
          go_wp2
          go_ret
          exact⟨false,rfl,iu c,cN (cN m _) _⟩
        ·
         have M:(O == P)=false:=by simp[v]
         have c:a≠b:=λe=>by subst e;have q:=g.symm.trans l;simp at q;exact v (by simp[q])
         go_wp2_with fail
         go_quiet (fail)
         go_wp2
         go_ret
         exact⟨false,rfl,iu c,cN (cN m _) _⟩
       ·
        have M:(D == E)=false:=by simp[p]
        have c:a≠b:=λe=>by subst e;have q:=g.symm.trans l;simp at q;exact p (by simp[q])
        go_wp2_with fail
        go_quiet (fail)
        go_wp2
        go_ret
        exact⟨false,rfl,iu c,cN (cN m _) _⟩
      ·
       have M:(H == I)=false:=by simp[o]
       have c:a≠b:=λe=>by subst e;have q:=g.symm.trans l;simp at q;exact o (by simp[q])
       go_wp2_with fail
       go_quiet (fail)
       go_wp2
       go_ret
       exact⟨false,rfl,iu c,cN (cN m _) _⟩
     ·have aa:¬(k:Int)<(s:Int):=by omega
      have aV:a.items=b.items:=List.ext_getElem? λj=>by
       by_cases f:j<k
       ·exact t j f
       ·rw[List.getElem?_eq_none (by rw[ag.x];omega),List.getElem?_eq_none (by rw[ai.x];omega)]
      go_wp2
      go_loopw [7] (λi wr=>∃k d:Nat,k <= C /\ i=.int .i64 (k:Int) /\ wr=ay.drewN d /\ ∀j,j<k -> a.gone[j]?=b.gone[j]?) (λi _=>C-(intOf i).toNat)
      ·exact⟨0,_,by omega,rfl,rfl,λj f=>by omega⟩
      ·obtain⟨k,d,hk,rfl,rfl,X⟩:=hrel;have t:=X
       by_cases z:k<C
       ·have aa:(k:Int)<(C:Int):=by omega
        have x:k<a.gone.length:=by rw[ak.x];exact z
        have y:k<b.gone.length:=by rw[al.x];exact z
        obtain⟨ba,aR,rfl,-,-,Y⟩:=gh Q.gone (by omega);obtain⟨bb,aS,rfl,-,-,Z⟩:=gh aG.x.gone (by omega);obtain⟨R,S,T⟩:=Y k x;obtain⟨U,V,W⟩:=Z k y;obtain⟨J,A⟩:=aH a.gone[k];obtain⟨K,B⟩:=aH b.gone[k];rw[A] at R S T;rw[B] at U V W;have g:=A;have l:=B;obtain⟨H,D,O⟩:=J;obtain⟨I,E,P⟩:=K;dsimp only at R S T U V W
        by_cases o:H=I
        ·have g0:(H == I)=true:=by simp[o]
         by_cases p:D=E
         ·have g1:(D == E)=true:=by simp[p]
          by_cases v:O=P
          ·subst o p v;clear g0 g1;go_wp2_with fail
           go_quiet (fail)
           go_wp2
           go_roundw
           ·exact⟨k+1,_,by omega,by go_num,rfl,λj f=>by
            rcases Nat.lt_succ_iff_lt_or_eq.1 f with h|h
            ·exact t j h
            ·subst h;rw[List.getElem?_eq_getElem x,List.getElem?_eq_getElem y,g,l]⟩
           ·simp[intOf];omega
          ·
           have M:(O == P)=false:=by simp[v]
           have c:a≠b:=λe=>by subst e;have q:=g.symm.trans l;simp at q;exact v (by simp[q])
           go_wp2_with fail
           go_quiet (fail)
           go_wp2
           go_ret
           exact⟨false,rfl,iu c,cN (cN m _) _⟩
         ·
          have M:(D == E)=false:=by simp[p]
          have c:a≠b:=λe=>by subst e;have q:=g.symm.trans l;simp at q;exact p (by simp[q])
          go_wp2_with fail
          go_quiet (fail)
          go_wp2
          go_ret
          exact⟨false,rfl,iu c,cN (cN m _) _⟩
        ·
         have M:(H == I)=false:=by simp[o]
         have c:a≠b:=λe=>by subst e;have q:=g.symm.trans l;simp at q;exact o (by simp[q])
         go_wp2_with fail
         go_quiet (fail)
         go_wp2
         go_ret
         exact⟨false,rfl,iu c,cN (cN m _) _⟩
       ·have aa:¬(k:Int)<(C:Int):=by omega
        have He:=ae (show a=b by
         have L:a.gone=b.gone:=List.ext_getElem? λj=>by
          by_cases f:j<k
          ·exact t j f
          ·rw[List.getElem?_eq_none (by rw[ak.x];omega),List.getElem?_eq_none (by rw[al.x];omega)]
         have n:=aU;have u:=aV;cases a;cases b
         simp_all)
        go_wp2
        go_ret
        exact⟨true,rfl,⟨λ_=>He.x,λ_=>rfl⟩,cN m _⟩
 ·have c:a≠b:=λe=>h (by subst e;exact⟨ab.x.symm.trans ad.x,ag.x.symm.trans ai.x,ak.x.symm.trans al.x⟩)
  by_cases n:r=av
  ·have g1:((r:Int) != (av:Int))=false:=by simp[n]
   by_cases u:s=ax
   ·have g2:((s:Int) != (ax:Int))=false:=by simp[u]
    have L:¬C=aJ:=λL=>h ⟨n,u,L⟩
    have g3:((C:Int) != (aJ:Int))=true:=by simp;omega
    have⟨H1,H2⟩:=ae2 n u;clear h n u L;go_wp2
    go_ret
    exact⟨false,rfl,iu c,by have:=m;rw[ao.x,an.x] at this;exact this⟩
   ·have g2:((s:Int) != (ax:Int))=true:=by simp;omega
    have H1:=ae n;clear h n u;go_wp2
    go_ret
    exact⟨false,rfl,iu c,by have:=m;rw[ao.x,an.x] at this;exact this⟩
  ·have g1:((r:Int) != (av:Int))=true:=by simp;omega
   go_wp2
   go_ret
   exact⟨false,rfl,iu c,by have:=m;rw[ao.x,an.x] at this;exact this⟩
/- A map is copied: given, taken. -/
section
attribute [local go_sem ↓] aU
theorem ua:(aE.info? 3).map (λi=>(i.zero,i.size,i.bytes))=some (some (.int .i64 0),1,8):=by kernel_rfl
theorem mG:(aE.info? 129).map (λi=>(i.zero,i.size,i.bytes))=some (some (.agg #[.string ⟨#[]⟩,.int .i64 0,.int .i64 0,.int .i64 0]),4,40):=by kernel_rfl
theorem mH:(aE.info? 108).map (λi=>(i.zero,i.size,i.bytes))=some (some (.agg #[.string ⟨#[]⟩,.int .i64 0,.int .i64 0,.int .i64 0]),4,40):=by kernel_rfl
theorem rg:(aE.info? 130).map (λi=>(i.zero,i.size,i.bytes))=some (some (.agg #[.string ⟨#[]⟩,.int .i64 0,.int .i64 0]),3,32):=by kernel_rfl
theorem mI:(aE.info? 111).map (λi=>(i.zero,i.size,i.bytes))=some (some (.agg #[.string ⟨#[]⟩,.int .i64 0,.int .i64 0]),3,32):=by kernel_rfl
def Fc(tI tIt tGo:TypeId)(w:World)(a:Nat)(v:Value)(m:aT):Prop:=∃b c d,v=.agg #[b,c,d] /\ w.ownsRow a tI 1 b m.seen.length (m.seen.map eI) /\ w.ownsRow a tIt 4 c m.items.length (m.items.flatMap bT) /\ w.ownsRow a tGo 3 d m.gone.length (m.gone.flatMap du)
def zg(tI tIt tGo:TypeId)(w:World)(m:aT)(e:Ending)(a:World):Prop:=∃v,e=.returned v /\ Fc tI tIt tGo a w.heap.size v m /\ di (λb=>w.heap.size <= b) a v m /\ Kpt w a
section
variable {tA tO tI tIt tGo:TypeId} {w wr:World} {m:aT} {P:List Value} {v1 v2 v3:Value} {k2 k3:Nat}
theorem ub{α:Type}(a:α -> List Value)(l:List α)(k:Nat)(h:k<l.length):(l.take (k+1)).flatMap a=(l.take k).flatMap a++a l[k]:=by
 rw[List.take_succ_eq_append_getElem h,List.flatMap_append];simp
end
/- same, equal, New. -/
end
section
attribute [local go_sem ↓] aU
attribute [local go_sem] opC upC
theorem eK{w:World}{a:Addr}(h:w.cell? a=some u):a.block<w.heap.size:=by
 rcases Nat.lt_or_ge a.block w.heap.size with c|b
 ·exact c
 ·unfold World.cell? at h;rw[Array.getElem?_eq_none b] at h;cases h
theorem bh{w b:World}{a:Addr}(h:w.cell? a=some u)(d:aK w.drew b):b.cell? a=some u:=by
 have c:b.heap[a.block]?=w.heap[a.block]?:=d.block a.block (eK h);unfold World.cell? at *;rw[c];exact h
/-! New -/
theorem Fd:(madeCells (Value.int .i64 0).cells (8*1)).toList=(List.replicate 8 (0:Int)).map eI:=by
 have h:madeCells (Array.replicate 1 (Value.int .i64 0)) 8=Array.replicate 8 (Value.int .i64 0):=by
  apply Array.ext
  ·simp[madeCells]
  ·intro i a b;simp only[madeCells,Array.getElem_map,Array.getElem_range,Array.size_replicate,Array.getElem_replicate];rw[getElem!_pos (Array.replicate 1 (Value.int .i64 0)) (i%1) (by simpa using Nat.mod_lt i (show 0<1 by decide))];simp
 simp only[Value.cells];rw[show #[Value.int .i64 0]=Array.replicate 1 (Value.int .i64 0) from rfl,show 8*1=8 from rfl,h];simp
attribute [local go_sem ↓] pT
end
theorem iZ{F:aQ}(h:aO F W u l):(convert 41 9 u).run aE W=.ok (.string ⟨l.toArray⟩) W:=by
 obtain⟨a,c,rfl,q,r,s,g⟩:=h;cases a with
 |none=>
  have n:l = []:=by
   rcases g with h|⟨b,i,L,t,d,h,_⟩
   ·exact h
   ·cases h
  subst n;rw[run_convert_bytes_string W 41 9 5 none _ c underlying41 underlying5 underlying9];rfl
 |some k=>
  refine run_convert_bytes_back W 41 9 5 k c l underlying41 underlying5 underlying9 (λj f=>?_);rcases g with rfl|⟨b,i,L,t,d,e,hF,m,p,o⟩
  ·simp at f
  ·simp at e;subst e;rw[Addr.add_lit,cell_of_row W b (i+j) L t d m];exact o j f
theorem CO(c:UInt8):(convert 41 9 (.slice (some ⟨w.heap.size,0,none⟩) 1 1)).run aE (w.alloc (.cells #[B c] 5))=.ok (.string ⟨#[c]⟩) (w.alloc (.cells #[B c] 5)):=
 iZ (F:=λ_=>True) (l:=[c]) ⟨_,1,rfl,by simp,by unfold maxLen;omega,nofun,.inr ⟨w.heap.size,0,#[B c],5,(0,0),rfl,trivial,by unfold World.alloc;simp,by simp,λi hi=>by simp at hi;subst hi;rfl⟩⟩
section
attribute [local go_sem] opC upC told bE bm bF bp bq bG bH
def failP:List PanicEntry:=[{ v:=.iface 245 (.agg #[]),recovered:=false }]
def Gt(w:World)(R:Nat)(d:Value)(c:Nat)(o:Option (Nat×List UInt8))(e:Ending)(b:World):Prop:=
 (match o with
  |some (n,r)=>e=.returned (.int .u64 (n:Int)) /\ ∃a:Nat,a+r.length=c /\ Blk b R [d,.int .i64 (a:Int)] 247
  |none=>e=.panicked failP) /\ aM (λq=>q=R) w b
theorem zh(a:n <= 9):2 ^ (7*(9-n))=128 ^ (9-n):=by rw[Nat.pow_mul]
theorem Bn(k:Nat)(h:k<b.length):b.drop k=b[k]::b.drop (k+1):=List.drop_eq_getElem_cons h
theorem Er(h:n<128)(i:k <= 63)(c:k=63 -> n <= 1)(a:k=63 \/ k <= 56):IntKind.u64.wrap ((n:Int)*2 ^ min k 64)=((n*2 ^ k:Nat):Int) /\ n*2 ^ k<18446744073709551616:=by
 have d:n*2 ^ k<18446744073709551616:=by
  rcases a with rfl|a
  ·have:=c rfl;have b:(2:Nat) ^ 63=9223372036854775808:=by decide
   rw[b];omega
  ·have b:(2:Nat) ^ k <= 2 ^ 56:=Nat.pow_le_pow_right (by omega) a;have f:(2:Nat) ^ 56=72057594037927936:=by decide
   have g:n*2 ^ k <= 127*2 ^ 56:=Nat.mul_le_mul (by omega) b;omega
 refine⟨?_,d⟩
 have e:(n:Int)*2 ^ min k 64=((n*2 ^ k:Nat):Int):=by
  rw[show min k 64=k by omega]
  push_cast
  rfl
 rw[e];exact IntWalk.u64_in _ (by omega)
theorem rK(R:Nat)(F:aQ)(A:Option Addr)(i:Nat)(b:List UInt8)(t:Nat)(hR:Blk w R [.slice A b.length i,.int .i64 (t:Int)] 247)(hB:aO F w (.slice A b.length i) b)(hF:∀q,F q -> q≠R)(hk:t <= b.length):
 Calls aE 156 #[.pointer (some ⟨R,0,none⟩)] w (Gt w R (.slice A b.length i) b.length (rdF (b.drop t) 9)):=by
 obtain⟨o,D⟩:=aH (rdF (b.drop t) 9);rw[D];have Ho:=ae D;have a3:b.length <= 9223372036854775807:=by obtain⟨-,h1,h2,-⟩:=hB.cells;unfold maxLen at h2;omega
 have HB:=ae (show ∀W,aM (λq=>q=R) w W -> aO F W (.slice A b.length i) b from λW hW=>hB.only hW λq O e=>hF q O e);obtain⟨n,hn⟩:=aH b.length;rw[hn] at hR a3 hk⊢;have⟨I,aY⟩:=ae2 hn hR;clear hB hn D hR
 go_enter func156,ntmps156
 go_wp2
 go_loopw [3,4] (λsv ss wr=>∃(f k v:Nat),f <= 9 /\ k <= n /\ ss=.int .i64 ((7*(9-f):Nat):Int) /\ sv=.int .u64 (v:Int) /\ v<128 ^ (9-f) /\ Blk wr R [.slice A n i,.int .i64 (k:Int)] 247 /\ rdF (b.drop t) 9=(rdF (b.drop k) f).map (λp=>(v+128 ^ (9-f)*p.1,p.2)) /\ aM (λq=>q=R) w wr) (λ_ ss _=>64-(intOf ss).toNat)
 ·exact⟨9,t,0,by omega,hk,rfl,rfl,by simp,aY.x,by cases rdF (b.drop t) 9<;>simp,aM.refl _ _⟩
 ·obtain⟨f,k,v,hf,be,rfl,rfl,hv,M,aS,D⟩:=hrel;have⟨T,Hv,a1,g⟩:=ae4 aS hv M D;obtain⟨a,ay⟩:=aH (7*(9-f));rw[ay];have V:=ae ay
  obtain⟨Y,Z⟩:wr.cell? ⟨R,0,none⟩=some (.slice A n i) /\ wr.cell? ⟨R,1,none⟩=some (.int .i64 (k:Int)):=⟨by simpa using M.cell 0,by simpa using M.cell 1⟩
  have aL:=M.free 1;have d0:∀d,aK wr.drew d -> d.cell? _=_:=λd hh=>bh Y hh
  have d1:∀d,aK wr.drew d -> d.cell? _=_:=λd hh=>bh Z hh
  clear aS hv M D ay
  by_cases a5:k<n
  ·have a4:¬(n:Int) <= (k:Int):=by omega
   have bd:(k:Int)<(n:Int):=by omega
   have ad:k<b.length:=by rw[I.x];exact a5
   obtain⟨-,-,-,aN⟩:=(HB.x wr g.x).cells;obtain⟨X,ob,rfl,a8,ba,aR⟩:=aN.resolve_left (by intro e;rw[e] at ad;simp at ad);obtain⟨c,hc⟩:=aH b[k];have C:=aR k ad;rw[hc] at C;unfold B at C;have d2:∀d,aK wr.drew d -> d.cell? _=_:=λd hh=>bh C hh
   have ar:=Bn b k ad;rw[hc] at ar;obtain⟨m,hm⟩:=aH c.toNat;have a6:m<256:=by have:=c.toNat_lt;omega
   rw[hm] at d2 C;have⟨ak,u⟩:=ae2 ar hm;clear aR hc ar hm aN;go_wp2_with fail;refine bP aK (up 10 []) (by kernel_rfl) ?_;apply aG;rfl;intro d hC;go_simp;(repeat (simp(disch:=omega) only[af,if_pos];go_simp));exact aF;refine aW ?_;clear d0 d1 d2;obtain⟨s,x⟩:=aP wr.drew;have d0:∀d,aK s.drew d -> d.cell? _=_:=λd hh=>bh (w:=s) (by rw[x];exact Y) hh
   have d1:∀d,aK s.drew d -> d.cell? _=_:=λd hh=>bh (w:=s) (by rw[x];exact Z) hh
   have d2:∀d,aK s.drew d -> d.cell? _=_:=λd hh=>bh (w:=s) (by rw[x];exact C) hh
   rw[<- x];have⟨G,aZ⟩:=ae2 (show aM (λq=>q=R) w s by rw[x];exact⟨g.x.os,g.x.tape,g.x.output,g.x.size,g.x.block⟩) (show Blk s R [.slice (some ⟨X,ob,none⟩) n i,.int .i64 (k:Int)] 247 by rw[x];exact a1.x.keep rfl);clear x Y Z C aL;go_wp2_with fail;refine bP aK (up 11 []) (by kernel_rfl) ?_;apply aG;rfl;intro d hC;go_simp;(repeat (simp(disch:=omega) only[af,if_pos];go_simp));exact aF;refine aW ?_;clear d0 d1 d2;obtain⟨S,ai⟩:=aP s.drew;rw[<- ai];have z:=ae (show aM (λq=>q=R) w S by rw[ai];exact⟨G.x.os,G.x.tape,G.x.output,G.x.size,G.x.block⟩);have N:Blk S R [.slice (some ⟨X,ob,none⟩) n i,.int .i64 (k:Int)] 247:=by rw[ai];exact aZ.x.keep rfl
   obtain⟨Y,Z⟩:S.cell? ⟨R,0,none⟩=some (.slice (some ⟨X,ob,none⟩) n i) /\ S.cell? ⟨R,1,none⟩=some (.int .i64 (k:Int)):=⟨by simpa using N.cell 0,by simpa using N.cell 1⟩
   have aL:=N.free 1;have a0:=ae N;have Q:a=7*(9-f):=V.x.symm;clear ai N
   by_cases l:(f=0 /\ 1<m) \/ (f<9 /\ m=0)
   ·obtain rfl:o=none:=by
     rw[<- Ho.x,T.x,ak.x,AE (by rw[u.x];exact l)];rfl
    rcases l with⟨r,j⟩|⟨r,j⟩
    ·have L:((a:Int) == 63)=true:=by simp;omega
     have aa:(a:Int)=63:=by omega
     have e2:(1:Int)<(m:Int):=by omega
     go_wp2_with fail;exact⟨rfl,rfl,z.x⟩
    ·have e2:¬(1:Int)<(m:Int):=by omega
     have e3:(0:Int)<(a:Int):=by omega
     have e4:((m:Int) == 0)=true:=by simp;omega
     have an:(m:Int)=0:=by omega
     by_cases e0:a=63
     ·have L:((a:Int) == 63)=true:=by simp;omega
      have aa:(a:Int)=63:=by omega
      go_wp2_with fail;exact⟨rfl,rfl,z.x⟩
     ·have L:((a:Int) == 63)=false:=by simp;omega
      have aa:¬(a:Int)=63:=by omega
      go_wp2_with fail;exact⟨rfl,rfl,z.x⟩
   ·have r:f=0 -> m <= 1:=λh=>by omega
    have j:f<9 -> m≠0:=λh h0=>l (.inr ⟨h,h0⟩)
    obtain⟨q,O⟩:=aH (m%128)
    have a9:bits .and .u8 (m:Int) 127=(q:Int):=by
     rw[<- O,<- nat_mask7];exact u8_and_nat m 127 a6 (by omega)
    have J:=ae O;clear O;have bi:IntKind.u64.wrap (q:Int)=(q:Int):=IntWalk.u64_in _ (by have:=J.x;omega);obtain⟨y,ax⟩:=aH (v+q*2 ^ a);have P:a=63 -> q <= 1:=λh=>by have:=r (by omega);have:=J.x;omega
    have az:v<2 ^ a:=by have:=Hv.x;rw[<- zh f hf,V.x] at this;exact this
    obtain⟨aV,aT⟩:=Er q a (by have:=J.x;omega) (by omega) (λh=>P h) (by omega)
    have a7:bits .or .u64 (v:Int) (IntKind.u64.wrap ((q:Int)*2 ^ min a 64))=(y:Int):=by
     rw[aV,<- ax];have h1:v<18446744073709551616:=aw az (au (Nat.pow_le_pow_right (by omega) (show a <= 63 by omega)) (by decide));rw[u64_or_nat v (q*2 ^ a) h1 aT,Nat.or_comm,nat_join a (q*2 ^ a) v (by simp) az,Nat.add_comm]
    have bf:bits .or .u64 (v:Int) (IntKind.u64.wrap ((q:Int)*2 ^ a))=(y:Int):=by
     have h:=a7;rw[show min a 64=a by omega] at h;exact h
    have aI:=ae ax;clear ax aV aT az;obtain⟨aX,ag⟩:=aP (S.setCell ⟨R,1,none⟩ (.int .i64 ((k:Int)+1)));have⟨H,E,K⟩:=ae3 (show Blk aX R [.slice (some ⟨X,ob,none⟩) n i,.int .i64 (((k+1:Nat)):Int)] 247 by rw[ag];exact a0.x.set 1 _) (show aM (λq=>q=R) w aX by rw[ag];exact z.x.setCell (.inl rfl) _) ag;clear ag
    by_cases ao:m<128
    ·have a2:(m:Int)<128:=by omega
     have al:=ae (show o=some (y,b.drop (k+1)) by
      rw[<- Ho.x,T.x,ak.x,AF (by rw[u.x];exact l) (by rw[u.x];exact ao),u.x,Option.map_some]
      congr 2
      rw[<- aI.x,<- V.x,zh f hf,<- J.x,Nat.mod_eq_of_lt ao,Nat.mul_comm])
     by_cases e0:a=63
     ·have L:((a:Int) == 63)=true:=by simp;omega
      have e2:¬(1:Int)<(m:Int):=by have:=r (by omega);omega
      have ab:(0:Int)<(a:Int):=by omega
      have e4:((m:Int) == 0)=false:=by have:=j (by omega);simp;omega
      have an:¬(m:Int)=0:=by have:=j (by omega);omega
      clear Q l r j e0 P;go_wp2;rw[<- K.x]
      go_ret
      rw[al.x];exact⟨⟨rfl,k+1,by simp[I.x];omega,H.x⟩,E.x⟩
     ·have L:((a:Int) == 63)=false:=by simp;omega
      have aa:¬(a:Int)=63:=by omega
      by_cases e3:0<a
      ·have ab:(0:Int)<(a:Int):=by omega
       have e4:((m:Int) == 0)=false:=by have:=j (by omega);simp;omega
       have an:¬(m:Int)=0:=by have:=j (by omega);omega
       clear Q l r j e0 P;go_wp2;rw[<- K.x]
       go_ret
       rw[al.x];exact⟨⟨rfl,k+1,by simp[I.x];omega,H.x⟩,E.x⟩
      ·have ab:¬(0:Int)<(a:Int):=by omega
       clear Q l r j e0 P;go_wp2;rw[<- K.x]
       go_ret
       rw[al.x];exact⟨⟨rfl,k+1,by simp[I.x];omega,H.x⟩,E.x⟩
    ·have a2:¬(m:Int)<128:=by omega
     have bc:f≠0:=λh=>by have:=r h;omega
     have L:((a:Int) == 63)=false:=by simp;omega
     have aa:¬(a:Int)=63:=by omega
     have e4:((m:Int) == 0)=false:=by simp;omega
     have an:¬(m:Int)=0:=by omega
     have aU:((7*(9-(f-1)):Nat):Int)=(a:Int)+7:=by omega
     have U:=ae (show y<128 ^ (9-(f-1)) /\ rdF (b.drop t) 9=(rdF (b.drop (k+1)) (f-1)).map (λp=>(y+128 ^ (9-(f-1))*p.1,p.2)) from by
      have hp:(128:Nat) ^ (9-(f-1))=128 ^ (9-f)*128:=by rw[<- Nat.pow_succ];congr 1;omega
      have h2:=zh f hf;rw[V.x] at h2;have h3:=Hv.x;have h4:=aI.x;have h5:=J.x;rw[h2] at h4;constructor
      ·rw[hp,<- h4];have:q*128 ^ (9-f) <= 127*128 ^ (9-f):=Nat.mul_le_mul_right _ (by omega);omega
      ·rw[T.x,ak.x,CF (by rw[u.x];exact l) (by rw[u.x];exact ao),Option.map_map,u.x,h5]
       congr 1
       funext p
       simp only[Function.comp];rw[hp,<- h4,Nat.mul_add,Nat.mul_assoc,Nat.mul_comm q]
       congr 1
       omega)
     have aJ:=ae aU;have bg:a <= 56:=by omega
     clear aU l r j P
     by_cases e3:0<a
     ·have ab:(0:Int)<(a:Int):=by omega
      clear Q;go_wp2;rw[<- K.x]
      go_roundw
      ·exact⟨f-1,k+1,y,by omega,by omega,by rw[aJ.x],rfl,U.x.1,H.x,U.x.2,E.x⟩
      ·simp[intOf];omega
     ·have ab:¬(0:Int)<(a:Int):=by omega
      clear Q;go_wp2;rw[<- K.x]
      go_roundw
      ·exact⟨f-1,k+1,y,by omega,by omega,by rw[aJ.x],rfl,U.x.1,H.x,U.x.2,E.x⟩
      ·simp[intOf];omega
  ·have a4:(n:Int) <= (k:Int):=by omega
   go_wp2_with fail;refine bP aK (up 10 []) (by kernel_rfl) ?_;apply aG;rfl;intro d hC;go_simp;exact aF;refine aW ?_
   obtain rfl:o=none:=by
    rw[<- Ho.x,T.x,List.drop_eq_nil_of_le (by rw[I.x];omega),AD];rfl
   have z:=ae (show aM (λq=>q=R) w wr.drew from⟨g.x.os,g.x.tape,g.x.output,g.x.size,g.x.block⟩);go_wp2_with fail;exact⟨rfl,rfl,z.x⟩
theorem aO.cut{d g j:Nat}(h:aO G W (.slice (some ⟨d,g,none⟩) l.length j) l)(k m:Nat)(s:k+m <= l.length):aO G W (.slice (some ⟨d,g+k,none⟩) m (j-k)) ((l.drop k).take m):=by
 obtain⟨a,c,n,r,v,x,h⟩:=h;simp at n;obtain⟨rfl,rfl⟩:=n;have f:((l.drop k).take m).length=m:=by simp;omega
 refine⟨some ⟨d,g+k,none⟩,j-k,by rw[f],by rw[f];omega,by unfold maxLen at *;omega,nofun,?_⟩;rcases h with h|⟨b,y,L,t,o,e,hF,p,u,q⟩
 ·left;rw[h];simp
 ·simp at e;obtain⟨rfl,rfl⟩:=e;refine .inr ⟨d,g+k,L,t,o,rfl,hF,p,by rw[f];omega,λi hi=>?_⟩;rw[f] at hi;have:=q (k+i) (by omega);rw[Nat.add_assoc,this];simp[List.getElem_take,List.getElem_drop]
theorem aO.cutI(h:aO G W (.slice (some ⟨i,j,none⟩) l.length o) l)(k m:Nat)(b:k+m <= l.length):aO G W (.slice (if o=k then some ⟨i,j,none⟩ else some ⟨i,j+k,none⟩) m (o-k)) ((l.drop k).take m):=by
 have a:=h.cut k m b
 by_cases e:o=k
 ·rw[if_pos e];obtain⟨-,d,f,-⟩:=h.cells;have c:m=0:=by omega
  subst c;exact⟨some ⟨i,j,none⟩,o-k,by simp,by simp,by unfold maxLen at *;omega,nofun,.inl (by simp)⟩
 ·rw[if_neg e];exact a
def F7(w:World)(R:Nat)(d:Value)(c:Nat)(o:Option (bQ×List UInt8))(e:Ending)(b:World):Prop:=
 (match o with
  |some (k,r)=>e=.returned (.string ⟨k.toArray⟩) /\ ∃a:Nat,a+r.length=c /\ Blk b R [d,.int .i64 (a:Int)] 247
  |none=>e=.panicked failP) /\ aM (λq=>q=R) w b
theorem uc(F:aQ)(v:Option Addr)(d:Nat)(b:List UInt8)(j:Nat)(hR:Blk w k [.slice v b.length d,.int .i64 (j:Int)] 247)(G:aO F w (.slice v b.length d) b)(hF:∀q,F q -> q≠k)(hk:j <= b.length):
 Calls aE 218 #[.pointer (some ⟨k,0,none⟩)] w (F7 w k (.slice v b.length d) b.length (rdT (b.drop j))):=by
 have Z:=rK w k F v d b j hR G hF hk;have aJ:b.length <= 9223372036854775807:=by obtain⟨-,X,Y,-⟩:=G.cells;unfold maxLen at Y;omega
 have N:=ae (show ∀W,aM (λq=>q=k) w W -> aO F W (.slice v b.length d) b from λW hW=>G.only hW λq hq e=>hF q hq e);obtain⟨o,J⟩:=aH (rdF (b.drop j) 9);obtain⟨n,I⟩:=aH b.length;obtain⟨ot,B⟩:=aH (rdT (b.drop j));rw[J,I] at Z;rw[B];rw[I] at aJ hk⊢;unfold rdT at B;rw[J] at B;have⟨HN,Ho,x,S⟩:=ae4 Z J I B;clear Z G J I B hR
 go_enter func218,ntmps218
 go_wp2_with fail;refine HN.x.mono ?_;rintro e s y;clear HN;cases o with
 |none=>
  obtain⟨rfl,t⟩:=y;obtain rfl:ot=none:=S.x.symm;have h:=ae t;clear t;go_wp2_with fail;exact⟨rfl,rfl,h.x⟩
 |some p=>
  obtain⟨m,r⟩:=p;obtain⟨⟨rfl,a,ak,ai⟩,t⟩:=y;have ab:=jD Ho.x;obtain⟨l,C⟩:=aH r.length;have aa:(b.drop j).length=n-j:=by rw[List.length_drop,x.x]
  rw[aa,C] at ab;rw[C] at ak;have a3:m<18446744073709551616:=ab.2.2
  have an:r=b.drop a:=by
   have X:=(gy.1 Ho.x).2;have Y:r=(b.drop j).drop (bY m).length:=by rw[X];simp
   have h3:=congrArg List.length X;rw[aa,aA,C] at h3;rw[Y,List.drop_drop]
   congr 1
   omega
  have a0:a <= n:=by omega
  have a1:0<n:=by omega
  obtain⟨f,g,rfl⟩:∃f g,v=some ⟨f,g,none⟩:=by
   obtain⟨-,-,-,A⟩:=(N.x s t).cells;obtain⟨f,g,e,-⟩:=A.resolve_left (by intro e;rw[e] at x;have:=x.x;simp at this;omega);exact⟨f,g,e⟩
  have A:=(N.x s t).cells
  have H:n <= d /\ d <= maxLen:=⟨by rw[<- x.x];exact A.2.1,A.2.2.1⟩
  unfold maxLen at H;have a4:=H.1;have aZ:=H.2
  have aS:IntKind.u64.wrap ((n:Int)-(a:Int))=(l:Int):=by
   rw[show(n:Int)-(a:Int)=(l:Int) by omega];exact IntWalk.u64_in _ (by omega)
  have aT:IntKind.u64.wrap (l:Int)=(l:Int):=IntWalk.u64_in _ (by omega)
  have aU:IntKind.i64.wrap ((n:Int)-(a:Int))=(l:Int):=by
   rw[show(n:Int)-(a:Int)=(l:Int) by omega];exact af _ (by omega)
  have⟨P,h,T,az,E⟩:=ae5 ai t C an ak;clear ai t C an ab aa A H;have U:∀c,aK s.drew c -> c.cell? ⟨k,0,none⟩=some (.slice (some ⟨f,g,none⟩) n d):=λc hh=>bh (w:=s) (by simpa using P.x.cell 0) hh
  have V:∀c,aK s.drew c -> c.cell? ⟨k,1,none⟩=some (.int .i64 (a:Int)):=λc hh=>bh (w:=s) (by simpa using P.x.cell 1) hh
  by_cases al:m <= l
  ·have aR:¬(l:Int)<(m:Int):=by omega
   have a2:IntKind.i64.wrap (m:Int)=(m:Int):=af _ (by have:=E.x;omega);have a5:IntKind.i64.wrap ((a:Int)+(m:Int))=(a:Int)+(m:Int):=af _ (by have:=E.x;omega)
   have ay:=ae (show ot=some (r.take m,r.drop m) by
    rw[<- S.x];show(if m <= r.length then some (r.take m,r.drop m) else none)=_
    rw[T.x,if_pos al])
   have aL:a+m <= n:=by have:=E.x;omega
   go_wp2_with fail;refine bP aK (up 13 []) (by kernel_rfl) ?_;apply aG;rfl;intro c y;go_simp;(repeat (simp(disch:=omega) only[af,if_pos];go_simp));exact aF;refine aW ?_;clear U V aS aT aU;obtain⟨i,L⟩:=aP s.drew;rw[<- L];have⟨u,Q⟩:=ae2 (show aM (λq=>q=k) w i by rw[L];exact⟨h.x.os,h.x.tape,h.x.output,h.x.size,h.x.block⟩) (show Blk i k [.slice (some ⟨f,g,none⟩) n d,.int .i64 (a:Int)] 247 by rw[L];exact P.x.keep rfl);clear L;have U:∀c,aK i.drew c -> c.cell? ⟨k,0,none⟩=some (.slice (some ⟨f,g,none⟩) n d):=λc hh=>bh (w:=i) (by simpa using Q.x.cell 0) hh
   have V:∀c,aK i.drew c -> c.cell? ⟨k,1,none⟩=some (.int .i64 (a:Int)):=λc hh=>bh (w:=i) (by simpa using Q.x.cell 1) hh
   have hcut:=(show aO F i (.slice (some ⟨f,g,none⟩) b.length d) b from N.x i u.x).cutI a m (by rw[x.x];exact aL);obtain⟨ad,ag⟩:=aH ((if d=a then some ⟨f,g,none⟩ else some ⟨f,g+a,none⟩):Option Addr);rw[ag] at hcut
   have d2:∀c,aK i.drew c -> (convert 41 9 (.slice ad m (d-a))).run aE c=.ok (.string ⟨(r.take m).toArray⟩) c:=λc hh=>by
    rw[az.x]
    exact iZ (hcut.keep (w':=c) λq _ aN=>by
     have:=hh.block q aN
     exact this)
   have aX:(a:Int) <= (a:Int)+(m:Int):=by omega
   have aY:(a:Int)+(m:Int) <= (d:Int):=by omega
   have a6:((a:Int)+(m:Int)).toNat-a=m:=by omega
   clear hcut;go_wp2_with fail;refine bP aK (up 18 []) (by kernel_rfl) ?_;apply aG;rfl;intro c y;go_simp;(repeat (simp(disch:=omega) only[af,if_pos];go_simp));exact aF;refine aW ?_;clear U V d2 ag;obtain⟨D,M⟩:=aP i.drew;rw[<- M];have O:=ae (show aM (λq=>q=k) w D by rw[M];exact⟨u.x.os,u.x.tape,u.x.output,u.x.size,u.x.block⟩);have z:Blk D k [.slice (some ⟨f,g,none⟩) n d,.int .i64 (a:Int)] 247:=by rw[M];exact Q.x.keep rfl
   obtain⟨c0,c1⟩:D.cell? ⟨k,0,none⟩=some (.slice (some ⟨f,g,none⟩) n d) /\ D.cell? ⟨k,1,none⟩=some (.int .i64 (a:Int)):=⟨by simpa using z.cell 0,by simpa using z.cell 1⟩
   have aV:=z.free 1;obtain⟨ao,K⟩:=aP (D.setCell ⟨k,1,none⟩ (.int .i64 ((a:Int)+(m:Int))));have⟨ax,ar,aI⟩:=ae3 (show Blk ao k [.slice (some ⟨f,g,none⟩) n d,.int .i64 (((a+m:Nat)):Int)] 247 by rw[K];exact z.set 1 _) (show aM (λq=>q=k) w ao by rw[K];exact O.x.setCell (.inl rfl) _) K;clear M z K;go_wp2;rw[<- aI.x]
   go_ret
   rw[ay.x];exact⟨⟨rfl,a+m,by rw[List.length_drop,T.x];have:=E.x;omega,ax.x⟩,ar.x⟩
  ·have aR:(l:Int)<(m:Int):=by omega
   obtain rfl:ot=none:=by
    rw[<- S.x];show(if m <= r.length then some (r.take m,r.drop m) else none)=_;rw[T.x,if_neg al]
   go_wp2_with fail;refine bP aK (up 13 []) (by kernel_rfl) ?_;apply aG;rfl;intro c y;go_simp;exact aF;refine aW ?_;have O:=ae (show aM (λq=>q=k) w s.drew from⟨h.x.os,h.x.tape,h.x.output,h.x.size,h.x.block⟩);go_wp2_with fail;exact⟨rfl,rfl,O.x⟩
end
section
attribute [local go_sem] opC upC
def CQ:List PanicEntry:=[{ v:=.iface 245 (.agg #[]),recovered:=true }]
def CR(T b a:Nat)(Z:Value)(c:Value -> Prop):Prop:=(T,b,a,Z,c)=(146,155,199,.int .u64 0,λv=>∃x,v=.int .u64 x) \/ (T,b,a,Z,c)=(9,217,229,.string ⟨#[]⟩,λv=>∃x,v=.string x) \/ (T,b,a,Z,c)=(32,201,219,.slice none 0 0,λv=>∃x:Option Addr×Nat×Nat,v=.slice x.1 x.2.1 x.2.2)
theorem xz{T v t:Nat}{Z:Value}{B:Value -> Prop}(A:CR T v t Z B)(g:Nat)(n o q:Value)(k l m:TypeId)(w:World)(u:Blk w g [n] k)(x:Blk w (g+1) [o] l)(y:Blk w (g+2) [q] m):
 CallsD aE t #[.pointer (some ⟨g,0,none⟩),.pointer (some ⟨g+1,0,none⟩),.pointer (some ⟨g+2,0,none⟩)] (.panicking failP) w λe C c=>
  e=.returned (.tuple #[]) /\ C=.panicking CQ /\ Blk c g [Z] k /\ Blk c (g+1) [.int .i64 0] l /\ Blk c (g+2) [.bool false] m /\ Below g w c:=by
 rcases A with h|h|h<;>cases h
 all_goals
  first|refine callsD_of_wpS func199 rfl λs r d=>?_|refine callsD_of_wpS func229 rfl λs r d=>?_|refine callsD_of_wpS func219 rfl λs r d=>?_
  apply wpS_seq;apply wpS_region;simp[wpOpsS,go_sem,recoverD,d,ntmps199,ntmps229,ntmps219,Exit.thenS,failP];refine wpS_of_wp ?_;have J:∀w,(Instr.typeAssert (.iface 245 (.agg #[])) 20 245 true).run aE w=.ok (.tuple #[.agg #[],.bool true]) w:=λ_=>by kernel_rfl
  obtain⟨a,b⟩:=aP (w.alloc (.cells #[] 245));have f:Blk a g [n] k:=by rw[b];exact u.alloc _
  have i:Blk a (g+1) [o] l:=by rw[b];exact x.alloc _
  have j:Blk a (g+2) [q] m:=by rw[b];exact y.alloc _
  have D:a.cell? ⟨g,0,none⟩=some n:=by simpa using f.cell 0
  have E:a.cell? ⟨g+1,0,none⟩=some o:=by simpa using i.cell 0
  have F:a.cell? ⟨g+2,0,none⟩=some q:=by simpa using j.cell 0
  have G:=f.free 0;have H:=i.free 0;have I:=j.free 0;rw[b] at D E F G H I;go_wp2_with fail;rw[<- b];have z:Below g w a:=by rw[b];exact(Below.refl g w).alloc (Nat.le_of_lt u.lt) _
  refine⟨rfl,.panicking CQ,rfl,.tuple #[],by simp[results,results199,results229,results219,go_sem],rfl,rfl,?_,?_,?_,?_⟩
  ·exact((f.set 0 _).set_other _ (by show g≠g+1;omega)).set_other _ (by show g≠g+2;omega)
  ·exact((i.set_other _ (by show g+1≠g;omega)).set 0 _).set_other _ (by show g+1≠g+2;omega)
  ·exact((j.set_other _ (by show g+2≠g;omega)).set_other _ (by show g+2≠g+1;omega)).set 0 _
  ·exact((z.setCell (p:=⟨g,0,none⟩) (aq _) _).setCell (p:=⟨g+1,0,none⟩) (Nat.le_succ _) _).setCell (p:=⟨g+2,0,none⟩) (by show g <= g+2;omega) _
theorem zi{T f d:Nat}{Z:Value}{l:Value -> Prop}(g:CR T f d Z l)(i j k:Value)(w:World):
 CallsD aE d #[i,j,k] .returning w λe m n=>e=.returned (.tuple #[]) /\ m=.returning /\ n=w:=by
 rcases g with h|h|h<;>cases h
 all_goals
  first|refine callsD_of_wpS func199 rfl λa c b=>?_|refine callsD_of_wpS func229 rfl λa c b=>?_|refine callsD_of_wpS func219 rfl λa c b=>?_
  apply wpS_seq;apply wpS_region;simp[wpOpsS,go_sem,recoverD,b,ntmps199,ntmps229,ntmps219,Exit.thenS];refine wpS_of_wp ?_;go_wp2_with fail;cases a
  simp_all [bodyPostS,results,results199,results229,results219,go_sem]
end
section
attribute [local go_sem] opC upC told bE bm bF bp bq bG bH
def C3(g:Nat)(a b:World):Prop:=aM (λq=>g <= q /\ q <= g+2) a b /\ ∀v,a.cell? ⟨g,0,none⟩=some v -> b.cell? ⟨g,0,none⟩=some v
instance{g:Nat}:Std.Refl (C3 g):=⟨λ_=>⟨aM.refl _ _,λ_ h=>h⟩⟩
instance{g:Nat}:Trans (C3 g) (C3 g) (C3 g):=⟨λh k=>⟨h.1.trans k.1 λ_ hi=>.inl hi,λv hh=>k.2 v (h.2 v hh)⟩⟩
theorem C3.cell{g:Nat}{a b:World}(h:C3 g a b){p:Addr}{x:Value}(c:a.cell? p=some x)(e:g+2<p.block):b.cell? p=some x:=by
 have d:=h.1.block p.block (eK c) (by omega);unfold World.cell? at *;rw[d];exact c
structure B3(w:World)(g:Nat)(x0 x1 x2:Value)(T:TypeId):Prop where
 b0:Blk w g [x0] T
 b1:Blk w (g+1) [x1] 3
 b2:Blk w (g+1+1) [x2] 4
def St3(g:Nat)(w a:World):Prop:=Below g w a /\ aM (λq=>q<g+4) w a
theorem St3.trans{g:Nat}{a b c:World}(h:St3 g a b)(k:St3 g b c):St3 g a c:=⟨h.1.trans k.1,h.2.trans k.2 λ_ hi=>.inl hi⟩
theorem lz(w:World)(y:Value)(a:n <= k)(b:k<n+3):St3 n w (w.setCell ⟨k,0,none⟩ y) /\ aM (λq=>n <= q /\ q <= n+2) w.drew (w.setCell ⟨k,0,none⟩ y).drew:=
 ⟨⟨(Below.refl n w).setCell (p:=⟨k,0,none⟩) a _,(aM.refl _ w).setCell (p:=⟨k,0,none⟩) (.inl (show k<n+4 by omega)) _⟩,(aM.refl _ w.drew).setCell (p:=⟨k,0,none⟩) (.inl ⟨a,show k <= n+2 by omega⟩) _⟩
theorem B3.first{f a b:Value}(c:Blk W i [f] t)(d:Blk W (i+1) [a] 3)(e:Blk W (i+1+1) [b] 4)(v:Value):∃w',w'=W.setCell ⟨i,0,none⟩ v /\ B3 w' i v a b t /\ St3 i W w':=
 ⟨_,rfl,⟨c.set 0 _,d.set_other _ (by show i+1≠i;omega),e.set_other _ (by show i+1+1≠i;omega)⟩,(lz i i W v (by omega) (by omega)).1⟩
theorem B3.put{b d e:Value}(h:B3 W i b d e t):
 (∃a,a=W.setCell ⟨i,0,none⟩ b /\ B3 a i b d e t /\ C3 i W.drew a.drew /\ St3 i W a) /\ (∀y,∃a,a=W.setCell ⟨i+1,0,none⟩ y /\ B3 a i b y e t /\ C3 i W.drew a.drew /\ St3 i W a) /\ ∀y,∃a,a=W.setCell ⟨i+1+1,0,none⟩ y /\ B3 a i b d y t /\ C3 i W.drew a.drew /\ St3 i W a:=by
 have c:∀a,Blk a i [b] t -> ∀v,W.drew.cell? ⟨i,0,none⟩=some v -> a.drew.cell? ⟨i,0,none⟩=some v:=λa k v f=>(k.cell 0).trans ((h.b0.cell 0).symm.trans f)
 refine⟨⟨_,rfl,⟨h.b0.set 0 _,h.b1.set_other _ (by show i+1≠i;omega),h.b2.set_other _ (by show i+1+1≠i;omega)⟩,⟨(lz i i W _ (by omega) (by omega)).2,c _ (h.b0.set 0 _)⟩,(lz i i W _ (by omega) (by omega)).1⟩,λy=>⟨_,rfl,⟨h.b0.set_other _ (by show i≠i+1;omega),h.b1.set 0 _,h.b2.set_other _ (by show i+1+1≠i+1;omega)⟩,⟨(lz i (i+1) W y (by omega) (by omega)).2,c _ (h.b0.set_other _ (by show i≠i+1;omega))⟩,(lz i (i+1) W y (by omega) (by omega)).1⟩,λy=>⟨_,rfl,⟨h.b0.set_other _ (by show i≠i+1+1;omega),h.b1.set_other _ (by show i+1≠i+1+1;omega),h.b2.set 0 _⟩,⟨(lz i (i+1+1) W y (by omega) (by omega)).2,c _ (h.b0.set_other _ (by show i≠i+1+1;omega))⟩,(lz i (i+1+1) W y (by omega) (by omega)).1⟩⟩
def iw(a:Nat):Option (Nat×List UInt8) -> Value
 |some (n,r)=>.tuple #[.int .u64 (n:Int),.int .i64 ((a-r.length:Nat):Int),.bool true]
 |none=>.tuple #[.int .u64 0,.int .i64 0,.bool false]
def ji(b:List UInt8)(k:Nat):Value:=iw b.length (rdF (b.drop k) 9)
def rL(a:Nat):Option (bQ×List UInt8) -> Value
 |some (n,r)=>.tuple #[.string ⟨n.toArray⟩,.int .i64 ((a-r.length:Nat):Int),.bool true]
 |none=>.tuple #[.string ⟨#[]⟩,.int .i64 0,.bool false]
def j5(b:List UInt8)(k:Nat):Value:=rL b.length (rdT (b.drop k))
def Gu(Q:Value -> World -> Prop)(w:World)(R:Nat)(b:Value)(o:Option Nat)(e:Ending)(a:World):Prop:=
 (match o with
  |some k=>∃v,e=.returned v /\ Q v a /\ Blk a R [b,.int .i64 (k:Int)] 247
  |none=>e=.panicked failP) /\ aM (λq=>q=R) w a
def F8(Z:Value)(Q:Value -> World -> Prop)(o:Option Nat)(e:Ending)(a:World):Prop:=match o with
 |some k=>∃v,e=.returned (.tuple #[v,.int .i64 (k:Int),.bool true]) /\ Q v a
 |none=>e=.returned (.tuple #[Z,.int .i64 0,.bool false])
theorem rM{sh:Value -> Prop}(hf:CR i j o u sh){A:Nat}(a7:∀a k,(callFunc A a).run aE k=.ok (.enter A a) k)(w:World)(F:aQ)(f:Option Addr)(c:Nat)(b:List UInt8)(l:Nat)(hB:aO F w (.slice f b.length c) b)(hF:∀q,F q -> q<w.heap.size)(ag:Option Nat)(Q:Value -> World -> Prop)(aJ:∀v W,Q v W -> sh v)(hQ:∀v W W',Q v W -> aM (λq=>q<w.heap.size+4) W W' -> Q v W')
 (hN:∀d,Blk d (w.heap.size+3) [.slice f b.length c,.int .i64 (l:Int)] 247 -> aO F d (.slice f b.length c) b -> d.heap.size=w.heap.size+4 -> Calls aE A #[.pointer (some ⟨w.heap.size+3,0,none⟩)] d (Gu Q d (w.heap.size+3) (.slice f b.length c) ag)):
 Calls aE j #[.slice f b.length c,.int .i64 (l:Int),.func (.func A) #[] #[]] w λe k=>Below w.heap.size w k /\ F8 u Q ag e k:=by
 have a8:∀(A:Fn)(first c:Array Value)(w:World),(Instr.makeFunc A first c).run aE w=.ok (.func A first c) w:=λ_ _ _ _=>rfl
 have⟨aX,aZ⟩:=ae2 (@xz _ _ _ _ _ hf) (@zi _ _ _ _ _ hf);obtain⟨g,t⟩:=aH w.heap.size;obtain⟨R,B⟩:=aP (((w.alloc (.cells #[u] i)).alloc (.cells #[.int .i64 0] 3)).alloc (.cells #[.bool false] 4));obtain⟨d,z⟩:=aP (R.alloc (.cells #[.slice f b.length c,.int .i64 (l:Int)] 247));have ad:R.heap.size=g+3:=by rw[B,<- t];simp
 have ax:Below g w R:=by
  rw[B,<- t];exact(((Below.refl w.heap.size w).alloc (aq _) _).alloc (by simp) _).alloc (by simp;omega) _
 have aa:Below g w d:=ax.trans (by rw[z];exact(aI _ _).mono (by omega))
 have aK:Blk d g [u] i:=by
  have:=(((Blk.new w #[u] i).alloc (.cells #[.int .i64 0] 3)).alloc (.cells #[.bool false] 4)).alloc (.cells #[.slice f b.length c,.int .i64 (l:Int)] 247);rw[z,B,<- t];exact this
 have aL:Blk d (g+1) [.int .i64 0] 3:=by
  have:=((Blk.new (w.alloc (.cells #[u] i)) #[.int .i64 0] 3).alloc (.cells #[.bool false] 4)).alloc (.cells #[.slice f b.length c,.int .i64 (l:Int)] 247);simp only[World.size_alloc,t] at this;rw[z,B];exact this
 have aN:Blk d (g+2) [.bool false] 4:=by
  have:=(Blk.new ((w.alloc (.cells #[u] i)).alloc (.cells #[.int .i64 0] 3)) #[.bool false] 4).alloc (.cells #[.slice f b.length c,.int .i64 (l:Int)] 247);simp only[World.size_alloc,t] at this;rw[z,B];exact this
 have kR:Blk d (g+3) [.slice f b.length c,.int .i64 (l:Int)] 247:=by
  have:=Blk.new R #[.slice f b.length c,.int .i64 (l:Int)] 247;rw[<- z,ad] at this;exact this
 rw[t] at hN hQ hF;have⟨U,ai,K0,K1,K2,ak,J,a4⟩:=ae8 (hN d kR (hB.keep (w':=d) λq D _=>aa.block q (hF q D)) (by rw[z];simp[ad])) aa aK aL aN (show d=(((w.alloc (.cells #[u] i)).alloc (.cells #[.int .i64 0] 3)).alloc (.cells #[.bool false] 4)).alloc (.cells #[.slice f b.length c,.int .i64 (l:Int)] 247) by rw[z,B]) t aJ;have HQ:=ae hQ;have a9:¬(l:Int)<0:=by omega
 obtain⟨n,hn⟩:=aH b.length;clear hN ax aa aK aL aN kR B z ad hB hF t aJ hQ;rw[hn] at ak U⊢;clear hn;rcases hf with h|h|h<;>cases h
 all_goals
  first|go_enter_defers func155,ntmps155|go_enter_defers func217,ntmps217|go_enter_defers func201,ntmps201
  go_wp2_with fail;rw[<- ak.x];rw[J.x];refine U.x.mono ?_;rintro e S ⟨hC,hO⟩;clear U;have P:∀q,q≠g+3 -> q<d.heap.size -> S.heap[q]?=d.heap[q]?:=λq h a6=>hO.block q a6 h
  have C:=K0.x.keep (P _ (by omega) K0.x.lt);have M:=K1.x.keep (P _ (by omega) K1.x.lt);have N:=K2.x.keep (P _ (by omega) K2.x.lt);have O:Below g w S:=ai.x.trans (hO.below (λq D=>by have ba:q=g+3:=D;omega) (by have:=ai.x.size;have:=J.x;omega));clear hO P;cases ag with
  |none=>
   subst hC;have⟨H0,H1,H2,V⟩:=ae4 C M N O;clear C M N O;go_wp2_with fail;refine leaves_cons (args:=#[.pointer (some ⟨g,0,none⟩),.pointer (some ⟨g+1,0,none⟩),.pointer (some ⟨g+1+1,0,none⟩)]) (by simp) (by simp[go_sem]) ((aX.x g _ _ _ _ _ _ S H0.x H1.x H2.x).mono ?_);rintro e u' m ⟨rfl,rfl,q0,q1,q2,a5⟩;have H:m.cell? ⟨g,0,none⟩=some _:=q0.cell 0;have Y:m.cell? ⟨g+1,0,none⟩=some _:=q1.cell 0;have c2:m.cell? ⟨g+1+1,0,none⟩=some _:=q2.cell 0;simp[Leaves,settle,results,results155,results217,results201,go_sem,CQ,H,Y,c2];exact⟨by rw[J.x];exact V.x.trans a5,rfl⟩
  |some an=>
   obtain⟨v,rfl,D,hR⟩:=hC;obtain⟨m,ab,p,aR⟩:=B3.first C M N v
   have ar:Blk m (g+1+1+1) [.slice f n c,.int .i64 (an:Int)] 247:=by rw[ab];exact hR.set_other _ (by show g+1+1+1≠g;omega)
   have a3:=ae (λk (hh:C3 g m.drew k)=>show k.cell? ⟨g+1+1+1,1,none⟩=some (.int .i64 (an:Int)) from C3.cell hh (a:=m.drew) (ar.cell 1) (by show g+2<g+1+1+1;omega));have a2:=ae (λk (hh:C3 g m.drew k)=>hh.2 v (p.b0.cell 0));have H:S.cell? ⟨g,0,none⟩=some _:=C.cell 0;have z0:=C.free 0;have⟨Hq,al,V,aV⟩:=ae4 D ab O p;clear hR C M N O ab ar D p;obtain⟨x,rfl⟩:=a4.x _ _ Hq.x;go_wp2_with fail;rw[<- al.x];clear H z0 al;have pg:=a2.x;have pr:=a3.x;have p:=aV.x;refine bP (C3 g) (up 5 [505,506,507]) (by kernel_rfl) ?_;apply aG;rfl;intro k hC;go_simp;(repeat (simp(disch:=omega) only[af,if_pos];go_simp));exact aF;refine aY rfl rfl (λE r=>?_);have a0:m.drew.cell? ⟨g,0,none⟩=some _:=p.b0.cell 0;have G:m.drew.frozen? ⟨g,0,none⟩=false:=p.b0.free 0;go_simp;obtain⟨w5,y,K,s,aS⟩:=p.put.1;rw[<- y];refine⟨s,r _ _ ?_⟩;clear r E y s a0 G;go_simp;refine aY rfl rfl (λE r=>?_);have a0:w5.drew.cell? ⟨g+1,0,none⟩=some _:=K.b1.cell 0;have G:w5.drew.frozen? ⟨g+1,0,none⟩=false:=K.b1.free 0;go_simp;obtain⟨w6,y,L,s,aT⟩:=K.put.2.1 _;rw[<- y];refine⟨s,r _ _ ?_⟩;clear r E y s a0 G;go_simp;refine aY rfl rfl (λE r=>?_);have a0:w6.drew.cell? ⟨g+1+1,0,none⟩=some _:=L.b2.cell 0;have G:w6.drew.frozen? ⟨g+1+1,0,none⟩=false:=L.b2.free 0;go_simp;obtain⟨I,y,ao,s,aU⟩:=L.put.2.2 _;rw[<- y];refine⟨s,r _ _ ?_⟩;clear r E y s a0 G;go_simp;refine aW ?_;clear pg pr p K L;have⟨Hs,X⟩:=ae2 (aR.trans (aS.trans (aT.trans aU))) ao;clear aR aS aT aU ao;go_wp2_with fail;refine leaves_cons (args:=#[.pointer (some ⟨g,0,none⟩),.pointer (some ⟨g+1,0,none⟩),.pointer (some ⟨g+1+1,0,none⟩)]) (by simp) (by simp[go_sem]) ((aZ.x _ _ _ I.drew).mono ?_);rintro e u' w8 ⟨rfl,rfl,rfl⟩;have H:I.drew.cell? ⟨g,0,none⟩=some _:=X.x.b0.cell 0;have Y:I.drew.cell? ⟨g+1,0,none⟩=some _:=X.x.b1.cell 0;have c2:I.drew.cell? ⟨g+1+1,0,none⟩=some _:=X.x.b2.cell 0;simp[Leaves,settle,results,results155,results217,results201,go_sem,H,Y,c2];have az:=HQ.x _ _ _ Hq.x Hs.x.2.drew;have ay:Below w.heap.size w I.drew:=by rw[J.x];exact(V.x.trans Hs.x.1).drew
   first|exact⟨ay,az⟩|exact⟨ay,_,rfl,az⟩
theorem Bo(d:Option Addr)(f:Nat)(b:List UInt8)(a:Nat)(l:aO F w (.slice d b.length f) b)(hF:∀q,F q -> q<w.heap.size)(s:a <= b.length):
 Calls aE 155 #[.slice d b.length f,.int .i64 (a:Int),.func (.func 156) #[] #[]] w λe i=>e=.returned (ji b a) /\ Below w.heap.size w i:=by
 unfold ji;refine(rM (.inl rfl) (λ_ _=>by go_simp) w F d f b a l hF ((rdF (b.drop a) 9).map λp=>b.length-p.2.length) (λv _=>∃p,rdF (b.drop a) 9=some p /\ v=.int .u64 (p.1:Int)) (λv _ ⟨p,_,h⟩=>⟨_,h⟩) (λ_ _ _ h _=>h) λt o m _=>(rK t _ F d f b a o m (λq g e=>by have:=hF q g;omega) s).mono ?_).mono ?_
 ·rintro e i ⟨h,n⟩;refine⟨?_,n⟩;cases c:rdF (b.drop a) 9 with
  |none=>rw[c] at h;exact h
  |some p=>
   rw[c] at h;obtain⟨rfl,k,u,j⟩:=h;obtain rfl:k=b.length-p.2.length:=by omega
   exact⟨_,rfl,⟨p,rfl,rfl⟩,j⟩
 ·rintro e i ⟨r,h⟩;refine⟨?_,r⟩;cases c:rdF (b.drop a) 9 with
  |none=>rw[c] at h;exact h
  |some p=>
   rw[c] at h;obtain⟨v,rfl,q,g,rfl⟩:=h;obtain rfl:=Option.some.inj g;rfl
theorem Bp(d:Option Addr)(f:Nat)(b:List UInt8)(a:Nat)(l:aO F w (.slice d b.length f) b)(hF:∀q,F q -> q<w.heap.size)(s:a <= b.length):
 Calls aE 217 #[.slice d b.length f,.int .i64 (a:Int),.func (.func 218) #[] #[]] w λe i=>e=.returned (j5 b a) /\ Below w.heap.size w i:=by
 unfold j5;refine(rM (.inr (.inl rfl)) (λ_ _=>by go_simp) w F d f b a l hF ((rdT (b.drop a)).map λp=>b.length-p.2.length) (λv _=>∃p,rdT (b.drop a)=some p /\ v=.string ⟨p.1.toArray⟩) (λv _ ⟨p,_,h⟩=>⟨_,h⟩) (λ_ _ _ h _=>h) λt o m _=>(uc t _ F d f b a o m (λq g e=>by have:=hF q g;omega) s).mono ?_).mono ?_
 ·rintro e i ⟨h,n⟩;refine⟨?_,n⟩;cases c:rdT (b.drop a) with
  |none=>rw[c] at h;exact h
  |some p=>
   rw[c] at h;obtain⟨rfl,k,u,j⟩:=h;obtain rfl:k=b.length-p.2.length:=by omega
   exact⟨_,rfl,⟨p,rfl,rfl⟩,j⟩
 ·rintro e i ⟨r,h⟩;refine⟨?_,r⟩;cases c:rdT (b.drop a) with
  |none=>rw[c] at h;exact h
  |some p=>
   rw[c] at h;obtain⟨v,rfl,q,g,rfl⟩:=h;obtain rfl:=Option.some.inj g;rfl
theorem xA(k:Nat):∃x y z,ji b k=.tuple #[x,y,z]:=by
 unfold ji iw;split
 ·exact⟨_,_,_,rfl⟩
 ·exact⟨_,_,_,rfl⟩
theorem xB(k:Nat):∃x y z,j5 b k=.tuple #[x,y,z]:=by
 unfold j5 rL;split
 ·exact⟨_,_,_,rfl⟩
 ·exact⟨_,_,_,rfl⟩
theorem xC(c:Option Addr)(d:Nat)(b:List UInt8)(a:Nat)(h:aO F w (.slice c b.length d) b)(hF:∀q,F q -> q<w.heap.size)(j:a <= b.length):
 Calls aE 99 #[.slice c b.length d,.int .i64 (a:Int)] w λe w'=>e=.returned (ji b a) /\ Below w.heap.size w w':=by
 have f:=Bo w F c d b a h hF j;obtain⟨x,y,z,g⟩:=xA b a;rw[g] at f;rw[g]
 go_enter func99,ntmps99
 go_wp2_with fail;refine f.mono ?_;rintro e k ⟨rfl,i⟩;go_wp2
 go_ret3
 exact⟨rfl,i⟩
theorem CS(c:Option Addr)(d:Nat)(b:List UInt8)(a:Nat)(h:aO F w (.slice c b.length d) b)(hF:∀q,F q -> q<w.heap.size)(j:a <= b.length):
 Calls aE 200 #[.slice c b.length d,.int .i64 (a:Int)] w λe w'=>e=.returned (j5 b a) /\ Below w.heap.size w w':=by
 have f:=Bp w F c d b a h hF j;obtain⟨x,y,z,g⟩:=xB b a;rw[g] at f;rw[g]
 go_enter func200,ntmps200
 go_wp2_with fail;refine f.mono ?_;rintro e k ⟨rfl,i⟩;go_wp2
 go_ret3
 exact⟨rfl,i⟩
end
section
attribute [local go_sem ↓] aU
theorem dS(X:n<18446744073709551616):
 Calls aE 120 #[.int .u64 (n:Int)] w λe h=>(∃r,e=.returned r /\ h.ownsRow w.heap.size 5 1 r (bY n).length ((bY n).map B)) /\ Kpt w h:=by
 go_enter func120,ntmps120
 go_wp2_with fail
 go_loopg [0,3] n (λk R S wr=>∃(m:Nat)(a:List UInt8),R=.int .u64 (m:Int) /\ m <= n /\ m <= k /\ wr.ownsRow w.heap.size 5 1 S a.length (a.map B) /\ a.length <= 10 /\ a++bY m=bY n /\ Kpt w wr)
 ·exact⟨n,[],rfl,aq _,aq _,World.ownsRow_nil _ _ _ _,by simp,rfl,Below.refl _ _⟩
 ·obtain⟨m,a,rfl,W,V,E,Y,I,F⟩:=hrel;have ab:=cq n;obtain⟨L,M,rfl⟩:=aJ E;obtain⟨N,D⟩:=aH a.length;have s:Apt wr w.heap.size (.slice L N M) a:=.inl (by rw[D] at E⊢;exact E);rw[D];have l:=D;have x:=I;have o:=F;clear I F
  by_cases U:128 <= m
  ·have O:(128:Int) <= (m:Int):=by omega
   obtain⟨t,P⟩:=aP (m%128);obtain⟨c,G⟩:=aP (m%128+128);obtain⟨q,H⟩:=aP (m/128);have Z:(m:Int)%128=(t:Int):=by omega
   have Q:IntKind.u8.wrap (t:Int)=(t:Int):=ap _ (by omega);have ad:IntKind.u8.wrap ((t:Int)+128)=(c:Int):=by rw[ap _ (by omega)];omega
   have aa:(m:Int)/128=(q:Int):=by omega
   have j:(UInt8.ofNat c).toNat=c:=by
    rw[UInt8.toNat_ofNat'];omega
   obtain⟨T,h,g,f,i⟩:=j2 wr w.heap.size _ _ s (UInt8.ofNat c) (by rw[l,<- l];omega) o.size;unfold B at g;rw[j] at g;obtain⟨z,A,rfl⟩:=aJ f;obtain⟨y,b⟩:=aH ((a++[UInt8.ofNat c]).length);rw[b] at g;have⟨v,u,J,K,p⟩:=ae5 (show h.ownsRow w.heap.size 5 1 (.slice z y A) (a++[UInt8.ofNat c]).length ((a++[UInt8.ofNat c]).map B) by rw[<- b];exact f) i b G H;clear f b i G H j s P;go_wp2
   go_roundg q
   case measure=>have:=p.x;omega
   case rel=>
    refine⟨q,a++[UInt8.ofNat c],rfl,by have:=p.x;omega,aq _,v.x,?_,?_,o.trans u.x⟩
    ·have d:=congrArg List.length x;have C:=il q;rw[kM m (by omega) (by omega),<- p.x] at d;simp at d⊢;omega
    ·have d:=x;rw[kM m (by omega) (by omega),<- p.x,<- K.x] at d;simpa[aB] using d
  ·have O:¬(128:Int) <= (m:Int):=by omega
   have Q:IntKind.u8.wrap (m:Int)=(m:Int):=ap _ (by omega)
   have j:(UInt8.ofNat m).toNat=m:=by
    rw[UInt8.toNat_ofNat'];omega
   obtain⟨T,h,g,f,i⟩:=j2 wr w.heap.size _ _ s (UInt8.ofNat m) (by rw[l,<- l];omega) o.size;unfold B at g;rw[j] at g;obtain⟨z,A,rfl⟩:=aJ f;obtain⟨y,b⟩:=aH ((a++[UInt8.ofNat m]).length);rw[b] at g;have⟨v,u,J⟩:=ae3 (show h.ownsRow w.heap.size 5 1 (.slice z y A) (a++[UInt8.ofNat m]).length ((a++[UInt8.ofNat m]).map B) by rw[<- b];exact f) i b;clear f b i j s;go_wp2
   go_ret
   refine⟨⟨_,rfl,?_⟩,o.trans u.x⟩;have d:=x;rw[nJ m (by omega)] at d;have C:=v.x;rw[d] at C;exact C
theorem l4(k:bQ)(u:k.length <= 1000000000000):
 Calls aE 212 #[.string ⟨k.toArray⟩] w λe b=>(∃r,e=.returned r /\ b.ownsRow w.heap.size 5 1 r (bt k).length ((bt k).map B)) /\ Kpt w b:=by
 have h:=dS w k.length (by omega);have x:IntKind.u64.wrap (k.length:Int)=(k.length:Int):=IntWalk.u64_in _ (by omega);obtain⟨a,f⟩:=aH k.length;have c:=f;have g:(ByteArray.mk k.toArray).size=a:=by rw[<- f];rfl
 rw[f] at h x u
 go_enter func212,ntmps212
 go_wp2_with fail;refine h.mono ?_;rintro e n ⟨⟨l,rfl,j⟩,d⟩;obtain⟨C,hi,y,z,A⟩:=info_parts ku;have E:=cq a;obtain⟨m,b,v,i,t,-⟩:=Lib.run_append_own_string (P:=aE) n w.heap.size 41 9 41 5 C underlying41 underlying9 hi y z A l _ _ j ⟨k.toArray⟩ (by rw[g];unfold maxLen;omega) (by rw[g];omega) d.size;have D:(AP #[41,9] 41 #[l,.string ⟨k.toArray⟩]).run aE n=.ok m b:=v
 have p:b.ownsRow w.heap.size 5 1 m (bt k).length ((bt k).map B):=by
  rw[m6,g] at i;have q:(bt k).length=(bY a).length+a:=by unfold bt;rw[c];simp[c]
  have s:(bt k).map B=(bY a).map B++k.map B:=by unfold bt;rw[c];simp
  rw[q,s];exact i
 have o:=d.trans (Below.grownOwn j t d.size (aq _));go_wp2
 go_ret
 exact⟨⟨_,rfl,p⟩,o⟩
def Out(w wr:World)(a:Nat)(s:Value)(l:List UInt8):Prop:=wr.ownsRow a 5 1 s l.length (l.map B) /\ Below a w wr /\ a <= wr.heap.size
theorem Out.app{w wr f:World}{s r:Value}{l x:List UInt8}(h:Out w wr i s l)(d:Kpt wr f)(A:f.ownsRow wr.heap.size 5 1 r x.length (x.map B))(F:l.length <= 1000000000)(G:x.length <= 1000000000):
 ∃a n c k,(AP #[41,41] 41 #[s,r]).run aE f=.ok (.slice a n c) k /\ Out w k i (.slice a n c) (l++x) /\ ∀b L t,Blk wr b L t -> t≠5 -> Blk k b L t:=by
 obtain⟨y,z,g⟩:=h;have j:f.ownsRow i 5 1 s l.length (l.map B):=br y d;obtain⟨H,v,D,u,p⟩:=cP f i s l j (λ_=>True) r x (aO.of_owns A _ λ_ _ _=>trivial) (by omega) (au g d.size);obtain⟨a,c,rfl⟩:=aJ u;have m:Below i f v:=(Below.refl _ _).grown p (au g d.size) (λq C=>(j.lt q C).1);exact⟨a,_,c,v,D,⟨u,(z.trans (d.mono g)).trans m,au (au g d.size) m.size⟩,λb L t o E=>(o.keep (d.block _ o.lt)).grownNe j (λe=>E e.symm) p⟩
theorem Out.alloc{w wr:World}{a:Nat}{s:Value}{l:List UInt8}(h:Out w wr a s l)(o:Obj):Out w (wr.alloc o) a s l:=
 ⟨br h.1 (aI _ _),h.2.1.alloc h.2.2 _,au h.2.2 (by simp)⟩
theorem kV{w b c:World}(e:Below i w b)(f:Below i w c){a:Addr}(d:a.block<i)(h:b.cell? a=some u):c.cell? a=some u:=by
 have g:c.heap[a.block]?=b.heap[a.block]?:=(f.block _ d).trans (e.block _ d).symm;unfold World.cell? at *;rw[g];exact h
theorem l5(h:di F w v m)(hC:mD m):
 Calls aE 177 #[v] w λe o=>(∃r,e=.returned r /\ aO (λ_=>True) o r (cQ m)) /\ Kpt w o:=by
 replace h:=h.mono (G:=λb=>b<w.heap.size) λb _ bd=>bd
 have HC:=hC
 replace h:=jF h 75
 obtain⟨a1,p1,a2,p2,a3,p3,U,u,y,N,rfl,h,l1,l2,l3,aS,aG,aI,bu,bn,bv,Hx,bp,c0,c1,c2⟩:=h
 try rw[aS.x]
 try rw[aG.x]
 try rw[aI.x]
 have Q:∀o aW,Below aW N o -> aW=w.heap.size+1 -> (o.cell? ⟨w.heap.size,0,none⟩=some (.slice a1 U p1) /\ o.cell? ⟨w.heap.size,1,none⟩=some (.slice a2 u p2) /\ o.cell? ⟨w.heap.size,2,none⟩=some (.slice a3 y p3)) /\ ce (λb=>b<w.heap.size) o (.slice a1 U p1) (.slice a2 u p2) (.slice a3 y p3) m:=λo aW hb bM=>by
  have hk:=bp.x.keep (hb.block _ (by omega));have k0:=hk.cell 0;have k1:=hk.cell 1;have k2:=hk.cell 2;simp at k0 k1 k2;exact⟨⟨k0,k1,k2⟩,Hx.keep λb bL bd=>hb.block b (by omega)⟩
 have O:(cQ m).length <= 1000000000:=HC.len
 have bG:Out N N (w.heap.size+1) (.slice none 0 0) []:=⟨World.ownsRow_nil _ _ _ _,Below.refl _ _,by rw[bv.x];exact aq _⟩
 go_enter func177,ntmps177
 go_wp2;rw[<- bu.x]
 go_loopw [3,4] (λs i wr=>∃k:Nat,k <= U /\ i=.int .i64 (k:Int) /\ Out N wr (w.heap.size+1) s ((m.seen.take k).flatMap λn=>bY n.toNat)) (λ_ i _=>U-(intOf i).toNat)
 ·exact⟨0,by omega,rfl,bG⟩
 ·obtain⟨k,hk,rfl,j⟩:=hrel;obtain⟨⟨d0,d1,d2⟩,an⟩:=Q wr _ j.2.1 rfl;obtain⟨ar,cr,B⟩:=aJ j.1;obtain⟨f,H⟩:=aH ((m.seen.take k).flatMap λn=>bY n.toNat);obtain⟨N0,ad⟩:=aH f.length;rw[H] at j B;rw[ad] at B;subst B
  have T:f.length <= 1000000000:=by
   rw[<- H];have h1:=jp (λn:Int=>bY n.toNat) m.seen k;have h2:=wT m;have h3:=O;unfold m5 at h2;rw[aA] at h2;omega
  have R:=T;have V:=H;have z:=j
  by_cases al:k<U
  ·have ag:(k:Int)<(U:Int):=by omega
   have A:k<m.seen.length:=by rw[aS.x];exact al
   obtain⟨b,bh,rfl,-,-,hc⟩:=ip an.seen (by omega);have S:=hc k A;obtain⟨x,L⟩:=aH m.seen[k];rw[L] at S;have C:=HC.seen x (by rw[<- L];exact aC A);obtain⟨q,rfl⟩:=Int.eq_ofNat_of_zero_le C.1;have hw:IntKind.u64.wrap (q:Int)=(q:Int):=IntWalk.u64_in _ (by omega);have HU:=dS wr q (by omega);have Hx:=L;go_wp2_with fail;refine HU.mono ?_;rintro e w7 ⟨⟨r7,rfl,g⟩,I⟩;obtain⟨X,m7,Y,E,aK,K,J⟩:=z.app I g (by have:=R;omega) (by have:=cq q;omega);obtain⟨x7,y7,l⟩:=aJ g;obtain⟨z7,M⟩:=aH ((bY q).length);rw[M] at l;subst l;have p:=K;have aa:=J;go_wp2
   go_roundw
   ·exact⟨k+1,by omega,by go_num,by
    rw[kQ _ _ _ A,Hx,V]
    exact p⟩
   ·simp[intOf];omega
  ·have ag:¬(k:Int)<(U:Int):=by omega
   have ai:k=m.seen.length:=by rw[aS.x];omega
   have aL:f=m.seen.flatMap λn=>bY n.toNat:=by rw[<- V,ai,List.take_length]
   have hw:IntKind.u64.wrap (u:Int)=(u:Int):=IntWalk.u64_in _ (by omega);have HU:=dS wr u (by omega);go_wp2_with fail;refine HU.mono ?_;rintro e w7 ⟨⟨r7,rfl,g⟩,I⟩;obtain⟨X,m7,Y,E,aK,K,J⟩:=z.app I g (by have:=R;omega) (by have:=cq u;omega);obtain⟨x7,y7,l⟩:=aJ g;obtain⟨z7,M⟩:=aH ((bY u).length);rw[M] at l;subst l;have p:=K;have aa:=J
   have br:Out N E (w.heap.size+1) (.slice X m7 Y) (fO m 0):=by
    rw[nN];unfold m5;rw[aG.x,<- aL];exact p
   obtain⟨⟨bw,bx,bz⟩,-⟩:=Q E _ p.2.1 rfl;go_wp2
   go_loopw [3,5] (λs i wr=>∃k:Nat,k <= u /\ i=.int .i64 (k:Int) /\ Out N wr (w.heap.size+1) s (fO m k)) (λ_ i _=>u-(intOf i).toNat)
   ·exact⟨0,by omega,rfl,br⟩
   ·obtain⟨k,hk,rfl,j⟩:=hrel;obtain⟨⟨d0,d1,d2⟩,an⟩:=Q _ _ j.2.1 rfl;obtain⟨ar,cr,B⟩:=aJ j.1;have T:(fO m k).length <= 1000000000:=au (jB m k) O;have t:=rB m k;obtain⟨f,H⟩:=aH (fO m k);obtain⟨N0,ad⟩:=aH f.length;rw[H] at j B T t;rw[ad] at B;subst B;have R:=T;have z:=j;have V:=H
    by_cases al:k<u
    ·have ag:(k:Int)<(u:Int):=by omega
     have A:k<m.items.length:=by rw[aG.x];exact al
     obtain⟨b,bh,rfl,-,-,hc⟩:=fw an.items (by omega);obtain⟨S,Z,e2,e3⟩:=hc k A
     replace t:=t A
     obtain⟨x,L⟩:=aH m.items[k];rw[L] at S Z e2 e3 t;have C:=HC.items x (by rw[<- L];exact aC A);obtain⟨a,ax⟩:=Int.eq_ofNat_of_zero_le C.2.1.1;obtain⟨c,ay⟩:=Int.eq_ofNat_of_zero_le C.2.2.1.1;obtain⟨D,bf⟩:=Int.eq_ofNat_of_zero_le C.2.2.2.1;have ak:=C.1;have g1:a <= 9223372036854775807:=by omega
     have g2:c <= 9223372036854775807:=by omega
     have g3:D <= 9223372036854775807:=by omega
     obtain⟨d,xd,xs,xv⟩:=x;dsimp only at ax ay bf S Z e2 e3 t ak;subst ax ay bf;have u1:IntKind.u64.wrap (a:Int)=(a:Int):=IntWalk.u64_in _ (by omega);have u2:IntKind.u64.wrap (c:Int)=(c:Int):=IntWalk.u64_in _ (by omega);have u3:IntKind.u64.wrap (D:Int)=(D:Int):=IntWalk.u64_in _ (by omega);have P:fO m (k+1)=(((f++bt d)++bY a)++bY c)++bY D:=by rw[t];simp
     have bq:=z.alloc (.cells #[.string ⟨d.toArray⟩,.int .i64 a,.int .i64 c,.int .i64 D] 129);have bB:=Blk.new wr #[.string ⟨d.toArray⟩,.int .i64 a,.int .i64 c,.int .i64 D] 129;have bl:=bB;have HT:=l4 (wr.alloc (.cells #[.string ⟨d.toArray⟩,.int .i64 a,.int .i64 c,.int .i64 D] 129)) d (by omega);have a6:=gd d ak;have aV:=a6;have W:=And.intro g1 (And.intro g2 g3);go_wp2_with fail;refine HT.mono ?_;rintro e w7 ⟨⟨r7,rfl,g⟩,I⟩;obtain⟨X,m7,Y,E,aK,K,J⟩:=bq.app I g (by have:=R;omega) (by have:=aV;omega);obtain⟨x7,y7,l⟩:=aJ g;obtain⟨z7,M⟩:=aH ((bt d).length);rw[M] at l;subst l;have p:=K;have aa:=J;have bb:=aa _ _ _ bl (by decide);have p1:=bb.cell 1;simp at p1;have aP:(f++bt d).length <= 1000000000:=au (by rw[P];simp) (au (jB m (k+1)) O);have aM:=dS E a (by have:=W;omega);have bj:=bb;go_wp2_with fail;refine aM.mono ?_;rintro e w8 ⟨⟨r8,rfl,ao⟩,aX⟩;obtain⟨b8,m8,c8,v8,bE,a4,aZ⟩:=p.app aX ao (by have:=aP;omega) (by have:=cq a;omega);obtain⟨x8,y8,az⟩:=aJ ao;obtain⟨z8,a7⟩:=aH ((bY a).length);rw[a7] at az;subst az;have ab:=a4;have a9:=aZ;have bc:=a9 _ _ _ bj (by decide);have p2:=bc.cell 2;simp at p2;have aR:((f++bt d)++bY a).length <= 1000000000:=au (by rw[P];simp) (au (jB m (k+1)) O);have aN:=dS v8 c (by have:=W;omega);have bk:=bc;go_wp2_with fail;refine aN.mono ?_;rintro e w9 ⟨⟨r9,rfl,av⟩,aY⟩;obtain⟨b9,m9,c9,v9,bF,a5,a0⟩:=ab.app aY av (by have:=aR;omega) (by have:=cq c;omega);obtain⟨x9,y9,aF⟩:=aJ av;obtain⟨z9,a8⟩:=aH ((bY c).length);rw[a8] at aF;subst aF;have aU:=a5;have ba:=a0;have bA:=ba _ _ _ bk (by decide);have p3:=bA.cell 3;simp at p3;have bm:(((f++bt d)++bY a)++bY c).length <= 1000000000:=au (by rw[P];simp) (au (jB m (k+1)) O);have bi:=dS v9 D (by have:=W;omega);go_wp2_with fail;refine bi.mono ?_;rintro e bS ⟨⟨bQ,rfl,be⟩,bC⟩;obtain⟨bI,bP,bJ,bR,bO,bD,bN⟩:=aU.app bC be (by have:=bm;omega) (by have:=cq D;omega);obtain⟨bT,bU,bg⟩:=aJ be;obtain⟨bV,bH⟩:=aH ((bY D).length);rw[bH] at bg;subst bg;go_wp2
     go_roundw
     ·exact⟨k+1,by omega,by go_num,by rw[P];exact bD⟩
     ·simp[intOf];omega
    ·have ag:¬(k:Int)<(u:Int):=by omega
     have ai:k=m.items.length:=by rw[aG.x];omega
     have aL:f=fO m m.items.length:=by rw[<- V,ai]
     have hw:IntKind.u64.wrap (y:Int)=(y:Int):=IntWalk.u64_in _ (by omega);have HU:=dS wr y (by omega);go_wp2_with fail;refine HU.mono ?_;rintro e w7 ⟨⟨r7,rfl,g⟩,I⟩;obtain⟨X,m7,Y,E,aK,K,J⟩:=z.app I g (by have:=R;omega) (by have:=cq y;omega);obtain⟨x7,y7,l⟩:=aJ g;obtain⟨z7,M⟩:=aH ((bY y).length);rw[M] at l;subst l;have p:=K;have aa:=J
     have bs:Out N E (w.heap.size+1) (.slice X m7 Y) (gV m 0):=by
      rw[rA,aI.x,<- aL];exact p
     obtain⟨⟨bw,bx,bz⟩,-⟩:=Q E _ p.2.1 rfl;go_wp2
     go_loopw [3,7] (λs i wr=>∃k:Nat,k <= y /\ i=.int .i64 (k:Int) /\ Out N wr (w.heap.size+1) s (gV m k)) (λ_ i _=>y-(intOf i).toNat)
     ·exact⟨0,by omega,rfl,bs⟩
     ·obtain⟨k,hk,rfl,j⟩:=hrel;obtain⟨⟨d0,d1,d2⟩,an⟩:=Q _ _ j.2.1 rfl;obtain⟨ar,cr,B⟩:=aJ j.1;have T:(gV m k).length <= 1000000000:=au (oO m k) O;have t:=rC m k;obtain⟨f,H⟩:=aH (gV m k);obtain⟨N0,ad⟩:=aH f.length;rw[H] at j B T t;rw[ad] at B;subst B;have R:=T;have z:=j;have V:=H
      by_cases al:k<y
      ·have ag:(k:Int)<(y:Int):=by omega
       have A:k<m.gone.length:=by rw[aI.x];exact al
       obtain⟨b,bh,rfl,bK,-,hc⟩:=gh an.gone (by omega);obtain⟨S,Z,e2⟩:=hc k A
       replace t:=t A
       obtain⟨x,L⟩:=aH m.gone[k];rw[L] at S Z e2 t;have C:=HC.gone x (by rw[<- L];exact aC A);obtain⟨a,ax⟩:=Int.eq_ofNat_of_zero_le C.2.1.1;obtain⟨c,ay⟩:=Int.eq_ofNat_of_zero_le C.2.2.1;have ak:=C.1;have g1:a <= 9223372036854775807:=by omega
       have g2:c <= 9223372036854775807:=by omega
       obtain⟨d,xd,xs⟩:=x;dsimp only at ax ay S Z e2 t ak;subst ax ay;have u1:IntKind.u64.wrap (a:Int)=(a:Int):=IntWalk.u64_in _ (by omega);have u2:IntKind.u64.wrap (c:Int)=(c:Int):=IntWalk.u64_in _ (by omega);have P:gV m (k+1)=((f++bt d)++bY a)++bY c:=by rw[t];simp
       have HG:∀o,Below (w.heap.size+1) N o -> o.cell? _=_ /\ o.cell? _=_:=λo hb=>⟨kV z.2.1 hb (by show b<_;omega) Z,kV z.2.1 hb (by show b<_;omega) e2⟩
       have HT:=l4 wr d (by omega);have a6:=gd d ak;have aV:=a6;have W:=And.intro g1 g2;go_wp2_with fail;refine HT.mono ?_;rintro e w7 ⟨⟨r7,rfl,g⟩,I⟩;obtain⟨X,m7,Y,E,aK,K,J⟩:=z.app I g (by have:=R;omega) (by have:=aV;omega);obtain⟨x7,y7,l⟩:=aJ g;obtain⟨z7,M⟩:=aH ((bt d).length);rw[M] at l;subst l;have p:=K;have aa:=J;obtain⟨p1,-⟩:=HG _ p.2.1;obtain⟨⟨t0,t1,t2⟩,-⟩:=Q _ _ p.2.1 rfl;have aP:(f++bt d).length <= 1000000000:=au (by rw[P];simp) (au (oO m (k+1)) O);have aM:=dS E a (by have:=W;omega);go_wp2_with fail;refine aM.mono ?_;rintro e w8 ⟨⟨r8,rfl,ao⟩,aX⟩;obtain⟨b8,m8,c8,v8,bE,a4,aZ⟩:=p.app aX ao (by have:=aP;omega) (by have:=cq a;omega);obtain⟨x8,y8,az⟩:=aJ ao;obtain⟨z8,a7⟩:=aH ((bY a).length);rw[a7] at az;subst az;have ab:=a4;have a9:=aZ;obtain⟨-,p2⟩:=HG _ ab.2.1;obtain⟨⟨f0,f1,f2⟩,-⟩:=Q _ _ ab.2.1 rfl;have aR:((f++bt d)++bY a).length <= 1000000000:=au (by rw[P];simp) (au (oO m (k+1)) O);have aN:=dS v8 c (by have:=W;omega);go_wp2_with fail;refine aN.mono ?_;rintro e w9 ⟨⟨r9,rfl,av⟩,aY⟩;obtain⟨b9,m9,c9,v9,bF,a5,a0⟩:=ab.app aY av (by have:=aR;omega) (by have:=cq c;omega);obtain⟨x9,y9,aF⟩:=aJ av;obtain⟨z9,a8⟩:=aH ((bY c).length);rw[a8] at aF;subst aF;have aU:=a5;have ba:=a0;go_wp2
       go_roundw
       ·exact⟨k+1,by omega,by go_num,by rw[P];exact aU⟩
       ·simp[intOf];omega
      ·have ag:¬(k:Int)<(y:Int):=by omega
       have ai:k=m.gone.length:=by rw[aI.x];omega
       have bo:(∃r,Ending.returned (.slice ar N0 cr)=.returned r /\ aO (λ_=>True) wr r (cQ m)) /\ Kpt w wr:=by
        refine⟨⟨_,rfl,?_⟩,bn.x.trans (z.2.1.mono (by omega))⟩;rw[<- tY,<- ai,V];exact aO.of_owns z.1 _ λ_ _ _=>trivial
       go_wp2
       go_ret
       exact bo
end
end Go.Proofs.YtobjdpngnfbicaaGreatDoor
