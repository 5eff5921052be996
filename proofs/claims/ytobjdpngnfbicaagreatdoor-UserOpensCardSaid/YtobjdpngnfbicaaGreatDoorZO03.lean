/-
  Region Region2 RL4 Str RCod RCod2 RCod3 RCod4 RefCode
-/
import Derived.Test.YtobjdpngnfbicaaGreatDoorZO02
import Derived.WalkLawsBesides
open Go.Lib renaming hid->ae
open Go.IntWalk renaming i64_in->af,u8_in->ap
open Nat renaming le_refl->aq,le_trans->au,lt_of_lt_of_le->aw
open List renaming length_append->aA,append_assoc->aB,getElem_mem->aC
open Go.Proofs.Tryz renaming prog->aE
set_option maxHeartbeats 8000000
set_option maxRecDepth 100000
set_option linter.all false
namespace Go.Proofs.YtobjdpngnfbicaaGreatDoor
open Go.RowKit
open Tryz
variable(w:World)(F:aX)(n k:Nat)(v:Value)(b:List UInt8)(m:aU){W w':World}{G:aX}{u:Value}{i j o:Nat}{l:List UInt8}{L:List Value}{t:TypeId}
section
open Go
section
variable {P:Program} {ops:Array Oper} {md:Region.Mode} {C:World -> World -> Prop}
def upC(P:Program)(next:Value -> World -> Prop):Result Next -> Prop
 |.ok (.value v) w'=>next v w'
 |.ok .skip w'=>next undef w'
 |.ok (.enter f args) w'=>Calls P f args w' (fun e a=>∃v,e=.returned v /\ next v a)
 |_=>False
def opC(P:Program)(o:Oper)(a:Act)(w:World)(next:Value -> World -> Prop):Prop:=upC P next ((execOp a.eval o).run P w)
theorem eY{b c:Value -> World -> Prop}{r:Result Next}(h:∀v w,b v w -> c v w)(a:upC P b r):upC P c r:=by
 cases r with
 |ok n i=>
  cases n<;>simp only[upC] at a⊢
  case enter f args=>exact a.mono fun e j ⟨v,d,g⟩=>⟨v,d,h _ _ g⟩
  all_goals exact h _ _ a
 |halt x i=>simp only[upC] at a
def stC(P:Program)(ops:Array Oper)(C:World -> World -> Prop)(i:Nat)(K:Act -> World -> Prop)(a:Act)(w:World):Prop:=
 match ops[i]? with
 |none=>K a w
 |some o=>if Region.wanted o (yielded ops a.tmps) then opC P o a w (fun v b=>C w b /\ K (a.put o.dst v) b) else K (a.put o.dst undef) w
theorem Bh{a:Act}{K e:Act -> World -> Prop}(h:∀a d,K a d -> e a d)(b:stC P ops C i K a W):stC P ops C i e a W:=by
 unfold stC at *;split
 ·exact h _ _ (by simpa[*] using b)
 ·rename_i o g;simp only[g] at b;split
  ·rename_i c;simp only[c,if_true] at b;exact eY (fun v d f=>⟨f.1,h _ _ f.2⟩) b
  ·rename_i c;simp only[c] at b;exact h _ _ b
def ig(P:Program)(md:Region.Mode)(ops:Array Oper)(C:World -> World -> Prop)(Q:Act -> World -> Prop):Nat -> Array Bool -> Act -> World -> Prop
 |0,b,a,w=>Region.ready md ops b = [] /\ Q a w
 |c+1,b,a,w=>
  (Region.ready md ops b = [] -> Q a w) /\
  ∀i∈Region.ready md ops b,stC P ops C i (ig P md ops C Q c (b.setIfInBounds i true)) a w
theorem sW{o:Oper}{a:Act}{d:Value -> World -> Prop}{K:Act -> World -> Prop}{Q:Exit -> Act -> World -> Prop}(h:∀v c,d v c -> K (a.put o.dst v) c)(b:opC P o a W d):o.wp P a W K Q:=by
 unfold opC at b;unfold Oper.wp;generalize(execOp a.eval o).run P W=r at *;cases r with
 |ok n c=>
  cases n<;>simp only[upC] at b<;>simp only[Oper.upon]
  case enter f args=>exact b.mono fun e j ⟨v,g,i⟩=>by subst g;exact h _ _ i
  all_goals exact h _ _ b
 |halt x c=>simp only[upC] at b
theorem vy{a:Act}{K f:Act -> World -> Prop}{Q:Exit -> Act -> World -> Prop}(h:∀a e,K a e -> f a e)(b:stC P ops C i K a W):wpOp P ops Q i f a W:=by
 unfold stC at b;unfold wpOp;split
 ·rename_i c;simp only[c] at b;exact h _ _ b
 ·rename_i o c;simp only[c] at b;split
  ·rename_i d;simp only[d,if_true] at b;exact .inl (sW (fun v e g=>h _ _ g.2) b)
  ·rename_i d;simp only[d] at b;exact h _ _ b
theorem ll{Q:Act -> World -> Prop}{d:Exit -> Act -> World -> Prop}(c:∀a w,Q a w -> d .normal a w):∀(b:Nat)(e:Array Bool)(a:Act)(w:World),
 ig P md ops C Q b e a w -> wpAny P md ops d b e a w
 |0,_,_,_,h=>⟨h.1,c _ _ h.2⟩
 |b+1,_,_,_,h=>⟨fun g=>c _ _ (h.1 g),fun i hi=>vy (fun f k j=>ll c b _ f k j) (h.2 i hi)⟩
def fC(P:Program)(ops:Array Oper)(C:World -> World -> Prop)(o:Oper)(v:Value)(a:Act)(w:World):Prop:=
 (Region.wanted o (yielded ops a.tmps)=true /\ ∀b,C w b -> (execOp a.eval o).run P b=.ok (.value v) b) \/
 (Region.wanted o (yielded ops a.tmps)=false /\ v=undef)
theorem fC.stC{i:Nat}{o:Oper}{v:Value}{a:Act}{w:World}(c:∀w,C w w)(d:ops[i]?=some o)(f:fC P ops C o v a w){K:Act -> World -> Prop}(h:K (a.put o.dst v) w):stC P ops C i K a w:=by
 unfold Go.Proofs.YtobjdpngnfbicaaGreatDoor.stC;simp only[d];rcases f with⟨b,e⟩|⟨b,rfl⟩
 ·simp only[b,if_true,opC,e w (c w),upC];exact⟨c w,h⟩
 ·simp only[b,Bool.false_eq_true,if_false];exact h
theorem fC.keep{d e:Oper}{v u:Value}{a:Act}{w w':World}(m:∀a b c,C a b -> C b c -> C a c)(i:d.apart ops e=true)(l:∀h b,d.op≠.select h b)
 (f:fC P ops C d v a w) (j:C w w'):fC P ops C d v (a.put e.dst u) w':=by
 obtain⟨q,r,g⟩:=Oper.apart_spec i;unfold fC at *;rw[execOp_put d l a e.dst u g,wanted_put d a e.dst u g];rcases f with⟨o,n⟩|f
 ·exact .inl ⟨o,fun p k=>n p (m _ _ _ j k)⟩
 ·exact .inr f
theorem C0{d e:Oper}{v:Value}(x:∀W,C W W)(r:∀a b c,C a b -> C b c -> C a c)(t:ops[i]?=some e)(g:d.apart ops e=true)
 (q:∀f b,d.op≠.select f b) (y:∀f b,e.op≠.select f b) {K:Act -> World -> Prop} {a:Act}
 (s:fC P ops C d v a W) (h:stC P ops C i K (a.put d.dst v) W):
 stC P ops C i (fun n m=>fC P ops C d v n m /\ K (n.put d.dst v) m) a W:=by
 obtain⟨o,p,z⟩:=Oper.apart_spec g;unfold stC at *;simp only[t] at *;rw[wanted_put e a d.dst v o] at h;split
 ·rename_i l;simp only[l,if_true] at h;unfold opC at *;rw[execOp_put e y a d.dst v o] at h;exact eY (fun u m k=>⟨k.1,s.keep r g q k.1,by rw[<- Act.put_comm a v u p];exact k.2⟩) h
 ·rename_i l;simp only[l] at h;exact⟨s.keep r g q (x W),by rw[<- Act.put_comm a v undef p];exact h⟩
theorem gp{Q:Act -> World -> Prop}{n:Oper}{v:Value}(z:∀w,C w w)(W:∀a b c,C a b -> C b c -> C a c)(x:ops[i]?=some n)(G:∀(j:Nat)(o:Oper) p b,ops[j]?=some o -> o.op≠.select p b):
 ∀(q:Nat)(d:Array Bool)(a:Act)(w:World),
  (∀j m,ops[j]?=some m -> j≠i -> d.getD j true=false -> (∀e∈m.after,Region.binds md e=true -> e.on≠i) -> n.apart ops m=true) ->
  i∈Region.ready md ops d -> fC P ops C n v a w ->
  ig P md ops C Q q (d.setIfInBounds i true) (a.put n.dst v) w -> ig P md ops C Q (q+1) d a w:=by
 intro q
 induction q with
 |zero=>
  intro d a w _ l t H;refine⟨fun h=>(by rw[h] at l;cases l),fun j s=>?_⟩
  by_cases f:j=i
  ·subst f;exact t.stC z x H
  ·have:=ready_mono s f;rw[H.1] at this;cases this
 |succ q X=>
  intro d a w D l t H;refine⟨fun h=>(by rw[h] at l;cases l),fun j s=>?_⟩
  by_cases f:j=i
  ·subst f;exact t.stC z x H
  ·have g:=H.2 j (ready_mono s f);obtain⟨F,m,y,L⟩:=mem_ready.1 s
   have V:∀e∈m.after,Region.binds md e=true -> e.on≠i:=fun e N M O=>by
    have g:=L e N M;have A:=(mem_ready.1 l).1;rw[O] at g;rcases Nat.lt_or_ge i d.size with u|u
    ·simp[u] at A g;rw[A] at g;cases g
    ·simp[Array.getElem?_eq_none u] at g
   have K:=C0 z W y (D j m y f F V) (fun p b=>G i n p b x) (fun p b=>G j m p b y) t g
   have R:∀k r,ops[k]?=some r -> k≠i -> (d.setIfInBounds j true).getD k true=false ->
    (∀e∈r.after,Region.binds md e=true -> e.on≠i) -> n.apart ops r=true:=fun k r S T I U=>by
    refine D k r S T ?_ U
    by_cases E:j=k
    ·subst E;exact F
    ·rw[getD_set_ne true E] at I;exact I
   refine Bh (fun J Y B=>X (d.setIfInBounds j true) J Y R (ready_mono l (Ne.symm f)) B.1 ?_) K;rw[Array.setIfInBounds_comm _ _ f];exact B.2
def f6(P:Program)(ops:Array Oper)(C:World -> World -> Prop)(Q:Act -> World -> Prop):List (Nat×Bool) -> Act -> World -> Prop
 |[],a,w=>Q a w
 |(i,true)::r,a,w=>match ops[i]? with
  |none=>False
  |some o=>if Region.wanted o (yielded ops a.tmps) then ∃v,(∀b,C w b -> (execOp a.eval o).run P b=.ok (.value v) b) /\ f6 P ops C Q r (a.put o.dst v) w else f6 P ops C Q r (a.put o.dst undef) w
 |(i,false)::r,a,w=>match ops[i]? with
  |none=>False
  |some o=>if Region.wanted o (yielded ops a.tmps) then opC P o a w (fun v b=>C w b /\ f6 P ops C Q r (a.put o.dst v) b) else f6 P ops C Q r (a.put o.dst undef) w
def kK(md:Region.Mode)(ops:Array Oper):List (Nat×Bool) -> Array Bool -> Bool
 |[],a=>(Region.ready md ops a).isEmpty
 |(i,true)::r,a=>(Region.ready md ops a).contains i&&Region.free md ops a i&&kK md ops r (a.setIfInBounds i true)
 |(i,false)::r,a=>(Region.ready md ops a == [i])&&kK md ops r (a.setIfInBounds i true)
theorem iF{Q:Act -> World -> Prop}(k:∀w,C w w)(n:∀a b c,C a b -> C b c -> C a c)(m:Region.noSelect ops=true):∀(l:List (Nat×Bool))(g:Array Bool)(a:Act)(w:World),
 kK md ops l g=true -> f6 P ops C Q l a w -> ig P md ops C Q l.length g a w
 |[],_,_,_,f,h=>⟨by simpa[kK] using f,h⟩
 |(i,true)::l,g,a,w,f,h=>by
  simp only[kK,Bool.and_eq_true] at f;obtain⟨⟨q,s⟩,p⟩:=f;simp only[f6] at h;cases d:ops[i]? with
  |none=>simp[d] at h
  |some o=>
   simp only[d] at h
   by_cases e:Region.wanted o (yielded ops a.tmps)=true
   ·simp only[e,if_true] at h;obtain⟨v,r,x⟩:=h;exact gp k n d (Region.noSelect_spec m) l.length g a w (Region.free_spec d s) (by simpa using q) (.inl ⟨e,r⟩) (iF k n m l _ _ _ p x)
   ·simp only[e] at h;exact gp k n d (Region.noSelect_spec m) l.length g a w (Region.free_spec d s) (by simpa using q) (.inr ⟨by simpa using e,rfl⟩) (iF k n m l _ _ _ p h)
 |(i,false)::l,g,a,w,f,h=>by
  simp only[kK,Bool.and_eq_true] at f;obtain⟨q,p⟩:=f;have u:Region.ready md ops g = [i]:=by simpa using q
  simp only[f6] at h;refine⟨fun d=>(by rw[u] at d;cases d),fun j t=>?_⟩;rw[u] at t;obtain rfl:j=i:=by simpa using t
  unfold stC;cases d:ops[j]? with
  |none=>simp[d] at h
  |some o=>
   simp only[d] at h;simp only;split
   ·rename_i e;simp only[e,if_true] at h;exact eY (fun v y r=>⟨r.1,iF k n m l _ _ _ p r.2⟩) h
   ·rename_i e;simp only[e] at h;exact iF k n m l _ _ _ p h
theorem su{Q:Exit -> Act -> World -> Prop}{a:Act}{l:List Oper}(C:World -> World -> Prop)(d:List (Nat×Bool))(o:P.follows .mixedOrders=true)(g:(Region.noSelect l.toArray&&kK .any l.toArray d (Array.replicate d.length false)&&(d.length == l.length))=true)
 (p:∀W,C W W) (q:∀a b c,C a b -> C b c -> C a c)
 (h:f6 P l.toArray C (fun e f=>Q .normal e f) d a W.drew):(Code.region i l.toArray true).wp P Q a W:=by
 simp only[Bool.and_eq_true] at g;obtain⟨⟨j,k⟩,m⟩:=g;have n:d.length=l.length:=by simpa using m
 refine wp_region_any o (ll (C:=C) (Q:=fun e f=>Q .normal e f) (fun _ _ h=>h) _ _ _ _ ?_);have:=iF (md:=.any) p q j d _ a W.drew k h;rw[n] at this;simpa using this
theorem aY{Q:Act -> World -> Prop}{a:Act}(h:Q a W):f6 P ops C Q [] a W:=h
theorem bj{o:Oper}{y:Nat -> Option Bool}(h:o.guard=none):Region.wanted o y=true:=by simp[Region.wanted,h]
theorem bq{Q:Act -> World -> Prop}{o:Oper}{r:List (Nat×Bool)}{a:Act}(d:ops[i]?=some o)(e:Region.wanted o (yielded ops a.tmps)=true)
 (h:∀K:Act -> World -> Prop,(∀c b,f6 P ops C Q r c b -> K c b) -> opC P o a W (fun v b=>C W b /\ K (a.put o.dst v) b)):f6 P ops C Q ((i,false)::r) a W:=by
 simp only[f6,d,e,if_true];exact h _ (fun _ _ h=>h)
def isB:Value -> Bool -> Bool
 |.bool x,b=>x == b
 |_,_=>false
theorem bG{x b:Bool}:isB (.bool x) b=(x == b):=rfl
theorem br{b:Bool}:isB undef b=false:=rfl
def told(g:Option (Tmp×Bool))(tmps:Array Value):Bool:=
 match g with
 |none=>true
 |some (d,b)=>isB (tmps.getD d undef) b
def Bi(ops:Array Oper)(o:Oper):Option (Option (Tmp×Bool)):=
 match o.guard with
 |none=>some none
 |some (j,b)=>match ops[j]? with
  |none=>none
  |some a=>match a.dst with
   |none=>none
   |some d=>some (some (d,b))
def heads{α:Type}(a:α -> Option Nat)(ops:Array Oper):List α -> Option (List (Oper×Option (Tmp×Bool))×List α)
 |[]=>some ([],[])
 |x::l=>match a x with
  |none=>some ([],x::l)
  |some i=>match ops[i]? with
   |none=>none
   |some o=>match heads a ops l with
    |none=>none
    |some (b,r)=>match Bi ops o with
     |none=>none
     |some g=>some ((o,g)::b,r)
def D0(a:Act)(b:List Value)(A:Act)(c:List Value):Prop:=a=A /\ b=c
theorem aF{a:Act}:D0 a L a L:=⟨rfl,rfl⟩
def lm(P:Program):List (Oper×Option (Tmp×Bool)) -> Act -> World -> List Value -> Act -> List Value -> Prop
 |[],a,_,b,A,c=>D0 a b A c
 |(o,g)::r,a,w,b,A,c=>if told g a.tmps then ∃v,(execOp a.eval o).run P w=.ok (.value v) w /\ lm P r (a.put o.dst v) w (v::b) A c else lm P r (a.put o.dst undef) w (undef::b) A c
def vz(P:Program)(x:Result Next)(d:Option Tmp)(r:List (Oper×Option (Tmp×Bool)))(a:Act)(w:World)(b:List Value)(A:Act)(c:List Value):Prop:=
 ∃v,x=.ok (.value v) w /\ lm P r (a.put d v) w (v::b) A c
def sX(P:Program)(b:Bool)(o:Oper)(r:List (Oper×Option (Tmp×Bool)))(a:Act)(w:World)(c:List Value)(A:Act)(d:List Value):Prop:=
 if b then vz P ((execOp a.eval o).run P w) o.dst r a w c A d else lm P r (a.put o.dst undef) w (undef::c) A d
theorem bH{a A:Act}{b c:List Value}:lm P [] a W b A c=D0 a b A c:=by unfold lm;rfl
theorem bt{o:Oper}{g:Option (Tmp×Bool)}{r:List (Oper×Option (Tmp×Bool))}{a A:Act}{b c:List Value}:lm P ((o,g)::r) a W b A c=sX P (told g a.tmps) o r a W b A c:=by rw[lm];rfl
theorem bw{o:Oper}{r:List (Oper×Option (Tmp×Bool))}{a A:Act}{b c:List Value}:sX P true o r a W b A c=vz P ((execOp a.eval o).run P W) o.dst r a W b A c:=by rw[sX];rfl
theorem bI{o:Oper}{r:List (Oper×Option (Tmp×Bool))}{a A:Act}{b c:List Value}:sX P false o r a W b A c=lm P r (a.put o.dst undef) W (undef::b) A c:=by simp[sX]
theorem bJ{d:Option Tmp}{r:List (Oper×Option (Tmp×Bool))}{a A:Act}{b c:List Value}:vz P (.ok (.value u) W) d r a W b A c=lm P r (a.put d u) W (u::b) A c:=by simp[vz]
theorem qj:∀{d:List (Oper×Option (Tmp×Bool))}{a A:Act}{w:World}{c f:List Value},lm P d a w c A f -> ∃t,t.length=d.length /\ f=t++c
 |[],_,_,_,_,_,h=>⟨[],rfl,h.2.symm⟩
 |(o,g)::r,a,_,_,c,_,h=>by
  simp only[lm] at h;split at h
  ·obtain⟨v,-,h⟩:=h;obtain⟨t,b,e⟩:=qj h;exact⟨t++[v],by simp[b],by simp[e]⟩
  ·obtain⟨t,b,e⟩:=qj h;exact⟨t++[undef],by simp[b],by simp[e]⟩
theorem lT{o:Oper}{g:Option (Tmp×Bool)}(h:Bi ops o=some g)(e:Array Value):Region.wanted o (yielded ops e)=told g e:=by
 unfold Bi at h;unfold Region.wanted;cases f:o.guard with
 |none=>simp only[f,Option.some.injEq] at h;subst h;rfl
 |some p=>
  obtain⟨j,b⟩:=p;simp only[f] at h;cases c:ops[j]? with
  |none=>simp[c] at h
  |some i=>
   simp only[c] at h;cases a:i.dst with
   |none=>simp[a] at h
   |some d=>
    simp only[a,Option.some.injEq] at h;subst h;simp only[yielded,c,Option.bind_some,a,told,Array.getD_eq_getD_getElem?];cases e[d]? with
    |none=>rfl
    |some v=>cases v<;>rfl
theorem nU{α:Type}{f:α -> Option Nat}{W:List α -> Act -> Prop}{w:World}(d:C w w)
 (D:∀x i o r a v,f x=some i -> ops[i]?=some o -> Region.wanted o (yielded ops a.tmps)=true -> (∀E,C w E -> (execOp a.eval o).run P E=.ok (.value v) E) -> W r (a.put o.dst v) -> W (x::r) a)
 (B:∀x i o r a,f x=some i -> ops[i]?=some o -> Region.wanted o (yielded ops a.tmps)=false -> W r (a.put o.dst undef) -> W (x::r) a):
 ∀(l:List α){s:List (Oper×Option (Tmp×Bool))}{r:List α}{a A:Act}{y z:List Value},heads f ops l=some (s,r) -> (∀u,C w u -> lm P s a u y A z) -> W r A -> W l a
 |[],s,r,a,A,y,z,h,b,c=>by
  simp only[heads,Option.some.injEq,Prod.mk.injEq] at h;obtain⟨rfl,rfl⟩:=h;rw[(b w d).1];exact c
 |x::l,s,r,a,A,y,z,h,b,c=>by
  simp only[heads] at h;cases q:f x with
  |none=>
   simp only[q,Option.some.injEq,Prod.mk.injEq] at h;obtain⟨rfl,rfl⟩:=h;rw[(b w d).1];exact c
  |some i=>
   simp only[q] at h;cases m:ops[i]? with
   |none=>simp[m] at h
   |some o=>
    simp only[m] at h;cases k:heads f ops l with
    |none=>simp[k] at h
    |some p=>
     obtain⟨N,R⟩:=p;simp only[k] at h;cases j:Bi ops o with
     |none=>simp[j] at h
     |some g=>
      simp only[j,Option.some.injEq,Prod.mk.injEq] at h;obtain⟨rfl,rfl⟩:=h;simp only[lm] at b;cases n:told g a.tmps with
      |false=>
       simp only[n,Bool.false_eq_true,if_false] at b;exact B x i o l a q m (by rw[lT j,n]) (nU d D B l k b c)
      |true=>
       simp only[n,if_true] at b;obtain⟨v,Q,L⟩:=b w d;obtain⟨t,H,I⟩:=qj L
       have F:∀u,C w u -> (execOp a.eval o).run P u=.ok (.value v) u /\ lm P N (a.put o.dst v) u (v::y) A z:=fun u e=>by
        obtain⟨O,M,G⟩:=b u e;obtain⟨S,J,K⟩:=qj G;have:=(List.append_inj (I.symm.trans K) (H.trans J.symm)).2;obtain rfl:v=O:=(List.cons.inj this).1;exact⟨M,G⟩
       exact D x i o l a v q m (by rw[lT j,n]) (fun u e=>(F u e).1) (nU d D B l k (fun u e=>(F u e).2) c)
def Ew:Nat×Bool -> Option Nat
 |(i,true)=>some i
 |_=>none
theorem aG[Std.Refl C]{Q:Act -> World -> Prop}{l r:List (Nat×Bool)}{e:List (Oper×Option (Tmp×Bool))}{a A:Act}(g:heads Ew ops l=some (e,r))
 (c:∀f,C w' f -> lm P e a f [] A L) (h:f6 P ops C Q r A w'):f6 P ops C Q l a w':=by
 refine nU (W:=fun l a=>f6 P ops C Q l a w') (Std.Refl.refl w') ?_ ?_ l g c h
 ·rintro⟨i,_|_⟩ j o r a v hi b d c h
  ·cases hi
  ·cases hi;simp only[f6,b,d,if_true];exact⟨v,c,h⟩
 ·rintro⟨i,_|_⟩ j o r a hi b d h
  ·cases hi
  ·cases hi;simpa only[f6,b,d,Bool.false_eq_true,if_false] using h
theorem bE{Q:Act -> World -> Prop}{b:Bool}{r:List (Nat×Bool)}{o:Oper}{g:Option (Tmp×Bool)}{a A:Act}(e:ops[i]?=some o)(d:Bi ops o=some g)(f:told g a.tmps=false)(c:a.put o.dst undef=A)
 (h:f6 P ops C Q r A W):f6 P ops C Q ((i,b)::r) a W:=by
 subst c;have j:Region.wanted o (yielded ops a.tmps)=false:=by rw[lT d,f]
 cases b<;>simpa only[f6,e,j,Bool.false_eq_true,if_false] using h
end
attribute [irreducible] f6 lm vz sX
def aJ(w w':World):Prop:=RowKit.Below w.heap.size w w'
theorem bF:aJ w w:=RowKit.Below.refl _ _
theorem bC(a b c:World)(h:aJ a b)(k:aJ b c):aJ a c:=h.trans (k.mono h.size)
def bL(F:aX)(w w':World):Prop:=aT F w w'
theorem fx(w:World):bL F w w:=aT.refl _ _
theorem ii(a b c:World)(h:bL F a b)(k:bL F b c):bL F a c:=aT.trans h k (fun _ hi=>.inl hi)
theorem bL.of_below{F:aX}{w a:World}(h:RowKit.Below w.heap.size w a):bL F w a:=aT.of_below h
instance:Std.Refl aJ:=⟨bF⟩
instance:Trans aJ aJ aJ:=⟨fun h k=>bC _ _ _ h k⟩
instance{F:aX}:Std.Refl (bL F):=⟨fx F⟩
instance{F:aX}:Trans (bL F) (bL F) (bL F):=⟨fun h k=>ii F _ _ _ h k⟩
instance{F:aX}:Std.Refl (aT F):=⟨fx F⟩
instance{F:aX}:Trans (aT F) (aT F) (aT F):=⟨fun h k=>ii F _ _ _ h k⟩
instance{n:Nat}:Std.Refl (RowKit.Below n):=⟨fun w=>RowKit.Below.refl n w⟩
instance{n:Nat}:Trans (RowKit.Below n) (RowKit.Below n) (RowKit.Below n):=⟨fun h k=>h.trans k⟩
def od(n:Nat):Nat×Bool:=(n%500,Nat.blt n 500)
def up:Nat -> List Nat -> List Nat
 |0,l=>l
 |k+1,l=>up k (k::l)
theorem mixed:aE.follows .mixedOrders=true:=by kernel_rfl
theorem bS{Q:Exit -> Act -> World -> Prop}{a:Act}{l:List Oper}(C:World -> World -> Prop)[Std.Refl C][Trans C C C](b:List Nat)
 (d:(Region.noSelect l.toArray&&kK .any l.toArray (b.map od) (Array.replicate (b.map od).length false)&&((b.map od).length == l.length))=true)
 (h:f6 aE l.toArray C (fun c e=>Q .normal c e) (b.map od) a W.drew):(Code.region i l.toArray true).wp aE Q a W:=
 su C _ mixed d Std.Refl.refl (fun _ _ _=>Trans.trans) h
end
section
open Go
section
variable {P:Program} {ops:Array Oper} {md:Region.Mode} {C:World -> World -> Prop} {lx:Nat}
def stL(P:Program)(ops:Array Oper)(C:World -> World -> Prop)(lx:Nat)(i:Nat)(K:Act -> World -> Prop)(a:Act)(w:World):Prop:=
 match ops[i]? with
 |none=>K a w
 |some o=>if Region.wanted o (yielded ops a.tmps) then opC P o a w (fun v b=>(i=lx \/ C w b) /\ K (a.put o.dst v) b) else K (a.put o.dst undef) w
theorem vA{a:Act}{K e:Act -> World -> Prop}(h:∀a d,K a d -> e a d)(b:stL P ops C lx i K a W):stL P ops C lx i e a W:=by
 unfold stL at *;split
 ·exact h _ _ (by simpa[*] using b)
 ·rename_i o g;simp only[g] at b;split
  ·rename_i c;simp only[c,if_true] at b;exact eY (fun v d f=>⟨f.1,h _ _ f.2⟩) b
  ·rename_i c;simp only[c] at b;exact h _ _ b
def lU(P:Program)(md:Region.Mode)(ops:Array Oper)(C:World -> World -> Prop)(lx:Nat)(Q:Act -> World -> Prop):Nat -> Array Bool -> Act -> World -> Prop
 |0,b,a,w=>Region.ready md ops b = [] /\ Q a w
 |c+1,b,a,w=>
  (Region.ready md ops b = [] -> Q a w) /\
  ∀i∈Region.ready md ops b,stL P ops C lx i (lU P md ops C lx Q c (b.setIfInBounds i true)) a w
theorem vC{a:Act}{K f:Act -> World -> Prop}{Q:Exit -> Act -> World -> Prop}(h:∀a e,K a e -> f a e)(b:stL P ops C lx i K a W):wpOp P ops Q i f a W:=by
 unfold stL at b;unfold wpOp;split
 ·rename_i c;simp only[c] at b;exact h _ _ b
 ·rename_i o c;simp only[c] at b;split
  ·rename_i d;simp only[d,if_true] at b;exact .inl (sW (fun v e g=>h _ _ g.2) b)
  ·rename_i d;simp only[d] at b;exact h _ _ b
theorem m6{Q:Act -> World -> Prop}{d:Exit -> Act -> World -> Prop}(c:∀a w,Q a w -> d .normal a w):∀(b:Nat)(e:Array Bool)(a:Act)(w:World),
 lU P md ops C lx Q b e a w -> wpAny P md ops d b e a w
 |0,_,_,_,h=>⟨h.1,c _ _ h.2⟩
 |b+1,_,_,_,h=>⟨fun g=>c _ _ (h.1 g),fun i hi=>vC (fun f k j=>m6 c b _ f k j) (h.2 i hi)⟩
theorem fC.stL{i:Nat}{o:Oper}{v:Value}{a:Act}{w:World}(c:∀w,C w w)(d:ops[i]?=some o)(f:fC P ops C o v a w){K:Act -> World -> Prop}(h:K (a.put o.dst v) w):stL P ops C lx i K a w:=by
 unfold Go.Proofs.YtobjdpngnfbicaaGreatDoor.stL;simp only[d];rcases f with⟨b,e⟩|⟨b,rfl⟩
 ·simp only[b,if_true,opC,e w (c w),upC];exact⟨.inr (c w),h⟩
 ·simp only[b,Bool.false_eq_true,if_false];exact h
theorem C1{d e:Oper}{v:Value}(y:∀W,C W W)(r:∀a b c,C a b -> C b c -> C a c)(t:ops[i]?=some e)(x:i≠lx)(g:d.apart ops e=true)
 (q:∀f b,d.op≠.select f b) (z:∀f b,e.op≠.select f b) {K:Act -> World -> Prop} {a:Act}
 (s:fC P ops C d v a W) (h:stL P ops C lx i K (a.put d.dst v) W):
 stL P ops C lx i (fun n m=>fC P ops C d v n m /\ K (n.put d.dst v) m) a W:=by
 obtain⟨o,p,A⟩:=Oper.apart_spec g;unfold stL at *;simp only[t] at *;rw[wanted_put e a d.dst v o] at h;split
 ·rename_i l;simp only[l,if_true] at h;unfold opC at *;rw[execOp_put e z a d.dst v o] at h;exact eY (fun u m k=>⟨k.1,s.keep r g q (k.1.resolve_left x),by rw[<- Act.put_comm a v u p];exact k.2⟩) h
 ·rename_i l;simp only[l] at h;exact⟨s.keep r g q (y W),by rw[<- Act.put_comm a v undef p];exact h⟩
def lV(md:Region.Mode)(ops:Array Oper)(i:Nat):List Nat:=
 match ops[i]? with
 |none=>[]
 |some o=>(o.after.toList.filter (Region.binds md)).map (·.on)
def mp(md:Region.Mode)(ops:Array Oper):Nat -> List Nat -> List Nat
 |0,l=>l
 |n+1,l=>mp md ops n (l++l.flatMap (lV md ops)).eraseDups
def vD(md:Region.Mode)(ops:Array Oper)(lx:Nat):Bool:=
 (List.range ops.size).all fun i=>(i == lx) || (mp md ops 6 (lV md ops lx)).contains i || (mp md ops 6 (lV md ops i)).contains lx
def kc(md:Region.Mode)(ops:Array Oper)(a:Array Bool):Prop:=
 ∀k,a.getD k false=true -> ∀j∈lV md ops k,a.getD j false=true
theorem ij{b:Array Bool}(c:kc md ops b):∀(n:Nat)(l:List Nat),(∀j∈l,b.getD j false=true) -> ∀j∈mp md ops n l,b.getD j false=true
 |0,_,h=>h
 |n+1,l,h=>ij c n _ (fun j a=>by
  rw[List.mem_eraseDups,List.mem_append,List.mem_flatMap] at a;rcases a with a|⟨k,d,a⟩
  ·exact h j a
  ·exact c k (h k d) j a)
theorem iN{b:Array Bool}(g:i∈Region.ready md ops b):∀j∈lV md ops i,b.getD j false=true:=by
 obtain⟨_,o,h,c⟩:=mem_ready.1 g;intro j a;unfold lV at a;rw[h] at a;simp only[List.mem_map,List.mem_filter] at a;obtain⟨e,⟨f,d⟩,rfl⟩:=a;exact c e (by simpa using f) d
theorem kc.set{a:Array Bool}(e:kc md ops a)(f:i∈Region.ready md ops a):kc md ops (a.setIfInBounds i true):=by
 intro k c j b
 by_cases d:i=k
 ·subst d;exact getD_set_true (iN f j b)
 ·rw[getD_set_ne false d] at c;exact getD_set_true (e k c j b)
theorem C2(h:vD md ops lx=true){a:Array Bool}(f:kc md ops a)(g:i∈Region.ready md ops a)(j:lx∈Region.ready md ops a):i=lx:=by
 obtain⟨c,o,n,_⟩:=mem_ready.1 g;have m:i<ops.size:=(Array.getElem?_eq_some_iff.1 n).1;have b:=List.all_eq_true.1 h i (by simpa using m);simp only[Bool.or_eq_true,beq_iff_eq] at b
 have l:∀k,a.getD k true=false -> a.getD k false=true -> False:=fun k c this=>by
  rcases Nat.lt_or_ge k a.size with d|d
  ·simp[d] at c this;rw[c] at this;cases this
  ·simp[Array.getElem?_eq_none d] at this
 rcases b with(b|e)|e
 ·exact b
 ·exact(l i c (ij f 6 _ (iN j) i (by simpa using e))).elim
 ·exact(l lx (mem_ready.1 j).1 (ij f 6 _ (iN g) lx (by simpa using e))).elim
theorem nV{Q:Act -> World -> Prop}{p:Oper}(X:vD md ops lx=true)(A:∀w,C w w)(aa:∀a b c,C a b -> C b c -> C a c)(y:ops[i]?=some p)(J:∀(j:Nat)(o:Oper) q b,ops[j]?=some o -> o.op≠.select q b):
 ∀(r:Nat)(d:Array Bool)(a:Act)(w:World),kc md ops d ->
  (∀j m,ops[j]?=some m -> j≠i -> d.getD j true=false -> (∀e∈m.after,Region.binds md e=true -> e.on≠i) -> p.apart ops m=true) ->
  i∈Region.ready md ops d -> fC P ops C p u a w ->
  lU P md ops C lx Q r (d.setIfInBounds i true) (a.put p.dst u) w -> lU P md ops C lx Q (r+1) d a w:=by
 intro r
 induction r with
 |zero=>
  intro d a w _ _ g t H;refine⟨fun h=>(by rw[h] at g;cases g),fun j n=>?_⟩
  by_cases f:j=i
  ·subst f;exact t.stL A y H
  ·have:=ready_mono n f;rw[H.1] at this;cases this
 |succ r ih=>
  intro d a w E F g t H;refine⟨fun h=>(by rw[h] at g;cases g),fun j n=>?_⟩
  by_cases f:j=i
  ·subst f;exact t.stL A y H
  ·have l:=H.2 j (ready_mono n f);obtain⟨I,m,z,N⟩:=mem_ready.1 n
   have Z:∀e∈m.after,Region.binds md e=true -> e.on≠i:=fun e R O S=>by
    have l:=N e R O;have B:=(mem_ready.1 g).1;rw[S] at l;rcases Nat.lt_or_ge i d.size with x|x
    ·simp[x] at B l;rw[B] at l;cases l
    ·simp[Array.getElem?_eq_none x] at l
   have U:j≠lx:=fun e=>f (e.trans (C2 X E g (e▸n)).symm)
   have M:=C1 A aa z U (F j m z f I Z) (fun q b=>J i p q b y) (fun q b=>J j m q b z) t l
   have T:∀k s,ops[k]?=some s -> k≠i -> (d.setIfInBounds j true).getD k true=false ->
    (∀e∈s.after,Region.binds md e=true -> e.on≠i) -> p.apart ops s=true:=fun k s V W K Y=>by
    refine F k s V W ?_ Y
    by_cases G:j=k
    ·subst G;exact I
    ·rw[getD_set_ne true G] at K;exact K
   refine vA (fun L w' D=>ih (d.setIfInBounds j true) L w' (E.set n) T (ready_mono g (Ne.symm f)) D.1 ?_) M;rw[Array.setIfInBounds_comm _ _ f];exact D.2
def eL(P:Program)(ops:Array Oper)(C:World -> World -> Prop)(lx:Nat)(Q:Act -> World -> Prop):List (Nat×Bool) -> Act -> World -> Prop
 |[],a,w=>Q a w
 |(i,true)::r,a,w=>match ops[i]? with
  |none=>False
  |some o=>if Region.wanted o (yielded ops a.tmps) then ∃v,(∀b,C w b -> (execOp a.eval o).run P b=.ok (.value v) b) /\ eL P ops C lx Q r (a.put o.dst v) w else eL P ops C lx Q r (a.put o.dst undef) w
 |(i,false)::r,a,w=>match ops[i]? with
  |none=>False
  |some o=>if Region.wanted o (yielded ops a.tmps) then opC P o a w (fun v b=>(i=lx \/ C w b) /\ eL P ops C lx Q r (a.put o.dst v) b) else eL P ops C lx Q r (a.put o.dst undef) w
theorem jt{Q:Act -> World -> Prop}(n:vD md ops lx=true)(p:∀w,C w w)(r:∀a b c,C a b -> C b c -> C a c)(q:Region.noSelect ops=true):∀(l:List (Nat×Bool))(f:Array Bool)(a:Act)(w:World),
 kc md ops f -> kK md ops l f=true -> eL P ops C lx Q l a w -> lU P md ops C lx Q l.length f a w
 |[],_,_,_,_,k,h=>⟨by simpa[kK] using k,h⟩
 |(i,true)::l,f,a,w,m,k,h=>by
  simp only[kK,Bool.and_eq_true] at k;obtain⟨⟨e,x⟩,s⟩:=k;simp only[eL] at h;cases d:ops[i]? with
  |none=>simp[d] at h
  |some o=>
   simp only[d] at h
   by_cases g:Region.wanted o (yielded ops a.tmps)=true
   ·simp only[g,if_true] at h;obtain⟨v,t,z⟩:=h;exact nV n p r d (Region.noSelect_spec q) l.length f a w m (Region.free_spec d x) (by simpa using e) (.inl ⟨g,t⟩) (jt n p r q l _ _ _ (m.set (by simpa using e)) s z)
   ·simp only[g] at h;exact nV n p r d (Region.noSelect_spec q) l.length f a w m (Region.free_spec d x) (by simpa using e) (.inr ⟨by simpa using g,rfl⟩) (jt n p r q l _ _ _ (m.set (by simpa using e)) s h)
 |(i,false)::l,f,a,w,m,k,h=>by
  simp only[kK,Bool.and_eq_true] at k;obtain⟨e,s⟩:=k;have u:Region.ready md ops f = [i]:=by simpa using e
  simp only[eL] at h;refine⟨fun d=>(by rw[u] at d;cases d),fun j y=>?_⟩;rw[u] at y;obtain rfl:j=i:=by simpa using y
  have e:j∈Region.ready md ops f:=by rw[u];simp
  unfold stL;cases d:ops[j]? with
  |none=>simp[d] at h
  |some o=>
   simp only[d] at h;simp only;split
   ·rename_i g;simp only[g,if_true] at h;exact eY (fun v A t=>⟨t.1,jt n p r q l _ _ _ (m.set (by simpa using e)) s t.2⟩) h
   ·rename_i g;simp only[g] at h;exact jt n p r q l _ _ _ (m.set (by simpa using e)) s h
theorem qH{Q:Exit -> Act -> World -> Prop}{a:Act}{l:List Oper}(C:World -> World -> Prop)(lx:Nat)(d:List (Nat×Bool))(r:P.follows .mixedOrders=true)(j:(Region.noSelect l.toArray&&kK .any l.toArray d (Array.replicate d.length false)&&(d.length == l.length))=true)
 (q:vD .any l.toArray lx=true) (s:∀W,C W W) (t:∀a b c,C a b -> C b c -> C a c)
 (h:eL P l.toArray C lx (fun e g=>Q .normal e g) d a W.drew):(Code.region i l.toArray true).wp P Q a W:=by
 simp only[Bool.and_eq_true] at j;obtain⟨⟨m,n⟩,o⟩:=j;have p:d.length=l.length:=by simpa using o
 refine wp_region_any r (m6 (C:=C) (lx:=lx) (Q:=fun e g=>Q .normal e g) (fun _ _ h=>h) _ _ _ _ ?_);have:=jt (md:=.any) q s t m d _ a W.drew (fun k f=>by simp[Array.getElem?_replicate] at f;split at f<;>simp at f) n h;rw[p] at this;simpa using this
theorem dt{Q:Act -> World -> Prop}{a:Act}(h:Q a W):eL P ops C lx Q [] a W:=h
theorem cU{Q:Act -> World -> Prop}{o:Oper}{r:List (Nat×Bool)}{a:Act}(d:ops[i]?=some o)(e:Region.wanted o (yielded ops a.tmps)=true)
 (h:∀K:Act -> World -> Prop,(∀c b,eL P ops C lx Q r c b -> K c b) -> opC P o a W (fun v b=>(i=lx \/ C W b) /\ K (a.put o.dst v) b)):eL P ops C lx Q ((i,false)::r) a W:=by
 simp only[eL,d,e,if_true];exact h _ (fun _ _ h=>h)
theorem cZ{Q:Act -> World -> Prop}{o:Oper}{r:List (Nat×Bool)}{a:Act}(g:i=lx)(d:ops[i]?=some o)(f:Region.wanted o (yielded ops a.tmps)=true)
 (h:∀K:Act -> World -> Prop,(∀c b,eL P ops C lx Q r c b -> K c b) -> opC P o a W (fun v b=>K (a.put o.dst v) b)):eL P ops C lx Q ((i,false)::r) a W:=by
 simp only[eL,d,f,if_true];exact eY (fun v b e=>⟨.inl g,e⟩) (h _ (fun _ _ h=>h))
theorem bM[Std.Refl C]{Q:Act -> World -> Prop}{l r:List (Nat×Bool)}{e:List (Oper×Option (Tmp×Bool))}{a A:Act}(g:heads Ew ops l=some (e,r))
 (c:∀f,C w' f -> lm P e a f [] A L) (h:eL P ops C lx Q r A w'):eL P ops C lx Q l a w':=by
 refine nU (W:=fun l a=>eL P ops C lx Q l a w') (Std.Refl.refl w') ?_ ?_ l g c h
 ·rintro⟨i,_|_⟩ j o r a v hi b d c h
  ·cases hi
  ·cases hi;simp only[eL,b,d,if_true];exact⟨v,c,h⟩
 ·rintro⟨i,_|_⟩ j o r a hi b d h
  ·cases hi
  ·cases hi;simpa only[eL,b,d,Bool.false_eq_true,if_false] using h
end
attribute [irreducible] eL
theorem dP{Q:Exit -> Act -> World -> Prop}{a:Act}{l:List Oper}(C:World -> World -> Prop)[Std.Refl C][Trans C C C](lx:Nat)(b:List Nat)
 (c:(Region.noSelect l.toArray&&kK .any l.toArray (b.map od) (Array.replicate (b.map od).length false)&&((b.map od).length == l.length)&&vD .any l.toArray lx)=true)
 (h:eL aE l.toArray C lx (fun d e=>Q .normal d e) (b.map od) a W.drew):(Code.region i l.toArray true).wp aE Q a W:=by
 rw[Bool.and_eq_true] at c;exact qH C lx _ mixed c.1 c.2 Std.Refl.refl (fun _ _ _=>Trans.trans) h
end
section
attribute [local go_sem ↓] aV
/- Two maps are compared: Same. -/
end
def Bj(w:World)(a b:aU)(e:Ending)(c:World):Prop:=∃r,e=.returned (.bool r) /\ (r=true↔a=b) /\ Below w.heap.size w c
theorem ik{a b:aU}(h:a≠b):(false=true↔a=b):=⟨nofun,fun e=>absurd e h⟩
theorem zT(w:World)(F G:aX)(va vb:Value)(a b:aU)(ha:dl F w va a)(K:dl G w vb b):
 Calls aE 35 #[va,vb] w (Bj w a b):=by
 replace ha:=j8 ha 75
 obtain⟨a3,bh,a5,bj,a7,bl,t,u,H,a0,rfl,ha,a9,bd,bf,ad,ai,al,ao,aK,aV,T,aF,aL,aM,aN⟩:=ha
 try rw[ad.out]
 try rw[ai.out]
 try rw[al.out]
 replace K:=K.keep (w':=a0) fun b _ aI=>aK.out.block b aI
 replace K:=j8 K 75
 obtain⟨a4,bi,a6,bk,a8,bm,av,ax,aJ,ay,rfl,K,bc,be,bg,ag,ak,an,ar,az,a2,aG,a1,aW,aY,aZ⟩:=K
 try rw[ag.out]
 try rw[ak.out]
 try rw[an.out]
 have T:=ae (T.out.keep (w':=ay) fun b _ aI=>az.out.block b aI);have ab:=aF.out.keep (az.out.block _ aF.out.lt);have aL:=ab.cell 0;have aM:=ab.cell 1;have aN:=ab.cell 2;simp at aL aM aN;have aF:=ae ab;rw[aV.out] at aW aY aZ;have m:=ae (cQ aK.out az.out);clear ab;clear ha K
 go_enter func35,ntmps35
 by_cases h:t=av /\ u=ax /\ H=aJ
 ·obtain⟨p,x,P⟩:=h;subst p x P;go_wp2_with fail;rw[<- ao.out,<- ar.out]
  go_loopw [5] (fun i wr=>∃k d:Nat,k <= t /\ i=.int .i64 (k:Int) /\ wr=ay.drewN d /\ ∀j,j<k -> a.seen[j]?=b.seen[j]?) (fun i _=>t-(intOf i).toNat)
  case atStart=>exact⟨0,0,by omega,rfl,rfl,fun j f=>by omega⟩
  case round=>
   obtain⟨k,d,hk,rfl,rfl,z⟩:=hrel;have v:=ae z;clear z
   by_cases E:k<t
   ·have aa:(k:Int)<(t:Int):=by omega
    have C:k<a.seen.length:=by rw[ad.out];exact E
    have D:k<b.seen.length:=by rw[ag.out];exact E
    obtain⟨ba,aQ,rfl,-,-,A⟩:=ie T.out.seen (by omega);obtain⟨bb,aR,rfl,-,-,B⟩:=ie aG.out.seen (by omega);have ea:=A k C;have eb:=B k D;obtain⟨N,n⟩:=aH a.seen[k];obtain⟨O,o⟩:=aH b.seen[k];rw[n] at ea;rw[o] at eb;have g:=ae n;have l:=ae o;clear A B n o
    by_cases he:N=O
    ·have d1:(N != O)=false:=by simp[he]
     go_wp2_with fail
     go_quiet (fail)
     go_wp2_with fail
     go_roundw
     case rel=>exact⟨k+1,_,by omega,by go_num,rfl,fun j f=>by
      rcases Nat.lt_succ_iff_lt_or_eq.1 f with h|h
      ·exact v.out j h
      ·subst h;rw[List.getElem?_eq_getElem C,List.getElem?_eq_getElem D,g.out,l.out,he]⟩
     case measure=>simp[intOf];omega
    ·have d1:(N != O)=true:=by simp[he]
     have c:=ae (show a≠b from fun e=>he (by subst e;rw[<- g.out,<- l.out]));go_wp2_with fail
     go_quiet (fail)
     go_wp2_with fail
     go_ret
     exact⟨false,rfl,ik c.out,cM (cM m.out _) _⟩
   ·have aa:¬(k:Int)<(t:Int):=by omega
    have aS:=ae (show a.seen=b.seen from List.ext_getElem? fun j=>by
     by_cases f:j<k
     ·exact v.out j f
     ·rw[List.getElem?_eq_none (by rw[ad.out];omega),List.getElem?_eq_none (by rw[ag.out];omega)])
    go_wp2_with fail
    go_loopw [6] (fun i wr=>∃k d:Nat,k <= u /\ i=.int .i64 (k:Int) /\ wr=ay.drewN d /\ ∀j,j<k -> a.items[j]?=b.items[j]?) (fun i _=>u-(intOf i).toNat)
    case atStart=>exact⟨0,_,by omega,rfl,rfl,fun j f=>by omega⟩
    case round=>
     obtain⟨k,d,hk,rfl,rfl,z⟩:=hrel;have v:=ae z;clear z
     by_cases E:k<u
     ·have aa:(k:Int)<(u:Int):=by omega
      have C:k<a.items.length:=by rw[ai.out];exact E
      have D:k<b.items.length:=by rw[ak.out];exact E
      obtain⟨ba,aQ,rfl,-,-,A⟩:=fB T.out.items (by omega);obtain⟨bb,aR,rfl,-,-,B⟩:=fB aG.out.items (by omega);obtain⟨U,V,W,aO⟩:=A k C;obtain⟨X,Y,Z,aP⟩:=B k D;obtain⟨N,n⟩:=aH a.items[k];obtain⟨O,o⟩:=aH b.items[k];rw[n] at U V W aO;rw[o] at X Y Z aP;have g:=ae n;have l:=ae o;clear A B n o;obtain⟨L,I,R,va⟩:=N;obtain⟨M,J,S,vb⟩:=O;dsimp only at U V W aO X Y Z aP
      by_cases r:L=M
      ·have g0:(L == M)=true:=by simp[r]
       by_cases s:I=J
       ·have g1:(I == J)=true:=by simp[s]
        by_cases y:R=S
        ·have g2:(R == S)=true:=by simp[y]
         by_cases h3:va=vb
         ·subst r s y h3;clear g0 g1 g2;go_wp2_with fail
          go_quiet (fail)
          go_wp2_with fail
          go_roundw
          case rel=>exact⟨k+1,_,by omega,by go_num,rfl,fun j f=>by
           rcases Nat.lt_succ_iff_lt_or_eq.1 f with h|h
           ·exact v.out j h
           ·subst h;rw[List.getElem?_eq_getElem C,List.getElem?_eq_getElem D,g.out,l.out]⟩
          case measure=>simp[intOf];omega
         ·
          have Q:(va == vb)=false:=by simp[h3]
          have c:=ae (show a≠b from fun e=>by subst e;have q:=g.out.symm.trans l.out;simp at q;exact h3 (by simp[q]));go_wp2_with fail
          go_quiet (fail)
          go_wp2_with fail
          go_ret
          exact⟨false,rfl,ik c.out,cM (cM m.out _) _⟩
        ·
         have Q:(R == S)=false:=by simp[y]
         have c:=ae (show a≠b from fun e=>by subst e;have q:=g.out.symm.trans l.out;simp at q;exact y (by simp[q]));go_wp2_with fail
         go_quiet (fail)
         go_wp2_with fail
         go_ret
         exact⟨false,rfl,ik c.out,cM (cM m.out _) _⟩
       ·
        have Q:(I == J)=false:=by simp[s]
        have c:=ae (show a≠b from fun e=>by subst e;have q:=g.out.symm.trans l.out;simp at q;exact s (by simp[q]));go_wp2_with fail
        go_quiet (fail)
        go_wp2_with fail
        go_ret
        exact⟨false,rfl,ik c.out,cM (cM m.out _) _⟩
      ·
       have Q:(L == M)=false:=by simp[r]
       have c:=ae (show a≠b from fun e=>by subst e;have q:=g.out.symm.trans l.out;simp at q;exact r (by simp[q]));go_wp2_with fail
       go_quiet (fail)
       go_wp2_with fail
       go_ret
       exact⟨false,rfl,ik c.out,cM (cM m.out _) _⟩
     ·have aa:¬(k:Int)<(u:Int):=by omega
      have aT:=ae (show a.items=b.items from List.ext_getElem? fun j=>by
       by_cases f:j<k
       ·exact v.out j f
       ·rw[List.getElem?_eq_none (by rw[ai.out];omega),List.getElem?_eq_none (by rw[ak.out];omega)])
      go_wp2_with fail
      go_loopw [7] (fun i wr=>∃k d:Nat,k <= H /\ i=.int .i64 (k:Int) /\ wr=ay.drewN d /\ ∀j,j<k -> a.gone[j]?=b.gone[j]?) (fun i _=>H-(intOf i).toNat)
      case atStart=>exact⟨0,_,by omega,rfl,rfl,fun j f=>by omega⟩
      case round=>
       obtain⟨k,d,hk,rfl,rfl,z⟩:=hrel;have v:=ae z;clear z
       by_cases E:k<H
       ·have aa:(k:Int)<(H:Int):=by omega
        have C:k<a.gone.length:=by rw[al.out];exact E
        have D:k<b.gone.length:=by rw[an.out];exact E
        obtain⟨ba,aQ,rfl,-,-,A⟩:=gn T.out.gone (by omega);obtain⟨bb,aR,rfl,-,-,B⟩:=gn aG.out.gone (by omega);obtain⟨U,V,W⟩:=A k C;obtain⟨X,Y,Z⟩:=B k D;obtain⟨N,n⟩:=aH a.gone[k];obtain⟨O,o⟩:=aH b.gone[k];rw[n] at U V W;rw[o] at X Y Z;have g:=ae n;have l:=ae o;clear A B n o;obtain⟨L,I,R⟩:=N;obtain⟨M,J,S⟩:=O;dsimp only at U V W X Y Z
        by_cases r:L=M
        ·have g0:(L == M)=true:=by simp[r]
         by_cases s:I=J
         ·have g1:(I == J)=true:=by simp[s]
          by_cases y:R=S
          ·subst r s y;clear g0 g1;go_wp2_with fail
           go_quiet (fail)
           go_wp2_with fail
           go_roundw
           case rel=>exact⟨k+1,_,by omega,by go_num,rfl,fun j f=>by
            rcases Nat.lt_succ_iff_lt_or_eq.1 f with h|h
            ·exact v.out j h
            ·subst h;rw[List.getElem?_eq_getElem C,List.getElem?_eq_getElem D,g.out,l.out]⟩
           case measure=>simp[intOf];omega
          ·
           have Q:(R == S)=false:=by simp[y]
           have c:=ae (show a≠b from fun e=>by subst e;have q:=g.out.symm.trans l.out;simp at q;exact y (by simp[q]));go_wp2_with fail
           go_quiet (fail)
           go_wp2_with fail
           go_ret
           exact⟨false,rfl,ik c.out,cM (cM m.out _) _⟩
         ·
          have Q:(I == J)=false:=by simp[s]
          have c:=ae (show a≠b from fun e=>by subst e;have q:=g.out.symm.trans l.out;simp at q;exact s (by simp[q]));go_wp2_with fail
          go_quiet (fail)
          go_wp2_with fail
          go_ret
          exact⟨false,rfl,ik c.out,cM (cM m.out _) _⟩
        ·
         have Q:(L == M)=false:=by simp[r]
         have c:=ae (show a≠b from fun e=>by subst e;have q:=g.out.symm.trans l.out;simp at q;exact r (by simp[q]));go_wp2_with fail
         go_quiet (fail)
         go_wp2_with fail
         go_ret
         exact⟨false,rfl,ik c.out,cM (cM m.out _) _⟩
       ·have aa:¬(k:Int)<(H:Int):=by omega
        have He:=ae (show a=b by
         have P:a.gone=b.gone:=List.ext_getElem? fun j=>by
          by_cases f:j<k
          ·exact v.out j f
          ·rw[List.getElem?_eq_none (by rw[al.out];omega),List.getElem?_eq_none (by rw[an.out];omega)]
         have p:=aS.out;have x:=aT.out;cases a;cases b
         simp_all)
        go_wp2_with fail
        go_ret
        exact⟨true,rfl,⟨fun _=>He.out,fun _=>rfl⟩,cM m.out _⟩
 ·have c:=ae (show a≠b from fun e=>h (by subst e;exact⟨ad.out.symm.trans ag.out,ai.out.symm.trans ak.out,al.out.symm.trans an.out⟩))
  by_cases p:t=av
  ·have g1:((t:Int) != (av:Int))=false:=by simp[p]
   by_cases x:u=ax
   ·have g2:((u:Int) != (ax:Int))=false:=by simp[x]
    have P:¬H=aJ:=fun P=>h ⟨p,x,P⟩
    have g3:((H:Int) != (aJ:Int))=true:=by simp;omega
    have H1:=ae p;have H2:=ae x;clear h p x P;go_wp2_with fail
    go_ret
    exact⟨false,rfl,ik c.out,by have:=m.out;rw[ar.out,ao.out] at this;exact this⟩
   ·have g2:((u:Int) != (ax:Int))=true:=by simp;omega
    have H1:=ae p;clear h p x;go_wp2_with fail
    go_ret
    exact⟨false,rfl,ik c.out,by have:=m.out;rw[ar.out,ao.out] at this;exact this⟩
  ·have g1:((t:Int) != (av:Int))=true:=by simp;omega
   clear h p;go_wp2_with fail
   go_ret
   exact⟨false,rfl,ik c.out,by have:=m.out;rw[ar.out,ao.out] at this;exact this⟩
/- A map is copied: given, taken. -/
section
attribute [local go_sem ↓] aV
theorem vE:(aE.info? 3).map (fun i=>(i.zero,i.size,i.bytes))=some (some (.int .i64 0),1,8):=by kernel_rfl
theorem ms:(aE.info? 129).map (fun i=>(i.zero,i.size,i.bytes))=some (some (.agg #[.string ⟨#[]⟩,.int .i64 0,.int .i64 0,.int .i64 0]),4,40):=by kernel_rfl
theorem mt:(aE.info? 108).map (fun i=>(i.zero,i.size,i.bytes))=some (some (.agg #[.string ⟨#[]⟩,.int .i64 0,.int .i64 0,.int .i64 0]),4,40):=by kernel_rfl
theorem qk:(aE.info? 130).map (fun i=>(i.zero,i.size,i.bytes))=some (some (.agg #[.string ⟨#[]⟩,.int .i64 0,.int .i64 0]),3,32):=by kernel_rfl
theorem mu:(aE.info? 111).map (fun i=>(i.zero,i.size,i.bytes))=some (some (.agg #[.string ⟨#[]⟩,.int .i64 0,.int .i64 0]),3,32):=by kernel_rfl
def DL(tI tIt tGo:TypeId)(w:World)(a:Nat)(v:Value)(m:aU):Prop:=∃b c d,v=.agg #[b,c,d] /\ w.ownsRow a tI 1 b m.seen.length (m.seen.map eI) /\ w.ownsRow a tIt 4 c m.items.length (m.items.flatMap bU) /\ w.ownsRow a tGo 3 d m.gone.length (m.gone.flatMap dC)
def xQ(tI tIt tGo:TypeId)(w:World)(m:aU)(e:Ending)(a:World):Prop:=∃v,e=.returned v /\ DL tI tIt tGo a w.heap.size v m /\ dl (fun b=>w.heap.size <= b) a v m /\ Below w.heap.size w a
section
variable {tA tO tI tIt tGo:TypeId} {w wr:World} {m:aU} {P:List Value} {v1 v2 v3:Value} {k2 k3:Nat}
theorem sY{α:Type}(a:α -> List Value)(l:List α)(k:Nat)(h:k<l.length):(l.take (k+1)).flatMap a=(l.take k).flatMap a++a l[k]:=by
 rw[List.take_succ_eq_append_getElem h,List.flatMap_append];simp
end
/- same, equal, New. -/
end
section
attribute [local go_sem ↓] aV
attribute [local go_sem] opC upC
theorem il{w:World}{a:Addr}(h:w.cell? a=some u):a.block<w.heap.size:=by
 rcases Nat.lt_or_ge a.block w.heap.size with c|b
 ·exact c
 ·unfold World.cell? at h;rw[Array.getElem?_eq_none b] at h;cases h
theorem aZ{w b:World}{a:Addr}(h:w.cell? a=some u)(d:aJ w.drew b):b.cell? a=some u:=by
 have c:b.heap[a.block]?=w.heap[a.block]?:=d.block a.block (il h);unfold World.cell? at *;rw[c];exact h
/-! New -/
theorem Ex:(madeCells (Value.int .i64 0).cells (8*1)).toList=(List.replicate 8 (0:Int)).map eI:=by
 have h:madeCells (Array.replicate 1 (Value.int .i64 0)) 8=Array.replicate 8 (Value.int .i64 0):=by
  apply Array.ext
  ·simp[madeCells]
  ·intro i a b;simp only[madeCells,Array.getElem_map,Array.getElem_range,Array.size_replicate,Array.getElem_replicate];rw[getElem!_pos (Array.replicate 1 (Value.int .i64 0)) (i%1) (by simpa using Nat.mod_lt i (show 0<1 by decide))];simp
 simp only[Value.cells];rw[show #[Value.int .i64 0]=Array.replicate 1 (Value.int .i64 0) from rfl,show 8*1=8 from rfl,h];simp
attribute [local go_sem ↓] sV
end
theorem kL{F:aX}(h:aO F W u l):(convert 41 9 u).run aE W=.ok (.string ⟨l.toArray⟩) W:=by
 obtain⟨a,c,rfl,q,r,s,g⟩:=h;cases a with
 |none=>
  have n:l = []:=by
   rcases g with h|⟨b,i,L,t,d,h,_⟩
   ·exact h
   ·cases h
  subst n;rw[run_convert_bytes_string W 41 9 5 none _ c underlying41 underlying5 underlying9];rfl
 |some k=>
  refine run_convert_bytes_back W 41 9 5 k c l underlying41 underlying5 underlying9 (fun j f=>?_);rcases g with rfl|⟨b,i,L,t,d,e,hF,m,p,o⟩
  ·simp at f
  ·simp at e;subst e;rw[Addr.add_lit,cell_of_row W b (i+j) L t d m];exact o j f
theorem Bk(c:UInt8):(convert 41 9 (.slice (some ⟨w.heap.size,0,none⟩) 1 1)).run aE (w.alloc (.cells #[B c] 5))=.ok (.string ⟨#[c]⟩) (w.alloc (.cells #[B c] 5)):=
 kL (F:=fun _=>True) (l:=[c]) ⟨_,1,rfl,by simp,by unfold maxLen;omega,nofun,.inr ⟨w.heap.size,0,#[B c],5,(0,0),rfl,trivial,by unfold World.alloc;simp,by simp,fun i hi=>by simp at hi;subst hi;rfl⟩⟩
section
attribute [local go_sem] opC upC told bG br bH bt bw bI bJ
def qI:List PanicEntry:=[{ v:=.iface 245 (.agg #[]),recovered:=false }]
def ET(w:World)(R:Nat)(d:Value)(c:Nat)(o:Option (Nat×List UInt8))(e:Ending)(b:World):Prop:=
 (match o with
  |some (n,r)=>e=.returned (.int .u64 (n:Int)) /\ ∃a:Nat,a+r.length=c /\ Blk b R [d,.int .i64 (a:Int)] 247
  |none=>e=.panicked qI) /\ aT (fun q=>q=R) w b
theorem xR(a:n <= 9):2 ^ (7*(9-n))=128 ^ (9-n):=by rw[Nat.pow_mul]
theorem zU(k:Nat)(h:k<b.length):b.drop k=b[k]::b.drop (k+1):=List.drop_eq_getElem_cons h
theorem C4(h:n<128)(i:k <= 63)(c:k=63 -> n <= 1)(a:k=63 \/ k <= 56):IntKind.u64.wrap ((n:Int)*2 ^ min k 64)=((n*2 ^ k:Nat):Int) /\ n*2 ^ k<18446744073709551616:=by
 have d:n*2 ^ k<18446744073709551616:=by
  rcases a with rfl|a
  ·have:=c rfl;have b:(2:Nat) ^ 63=9223372036854775808:=by decide
   rw[b];omega
  ·have b:(2:Nat) ^ k <= 2 ^ 56:=Nat.pow_le_pow_right (by omega) a;have f:(2:Nat) ^ 56=72057594037927936:=by decide
   have g:n*2 ^ k <= 127*2 ^ 56:=Nat.mul_le_mul (by omega) b;omega
 refine⟨?_,d⟩
 have e:(n:Int)*2 ^ min k 64=((n*2 ^ k:Nat):Int):=by
  rw[show min k 64=k by omega]
  push_cast
  rfl
 rw[e];exact IntWalk.u64_in _ (by omega)
theorem qJ(R:Nat)(F:aX)(A:Option Addr)(i:Nat)(b:List UInt8)(t:Nat)(hR:Blk w R [.slice A b.length i,.int .i64 (t:Int)] 247)(hB:aO F w (.slice A b.length i) b)(hF:∀q,F q -> q≠R)(hk:t <= b.length):
 Calls aE 156 #[.pointer (some ⟨R,0,none⟩)] w (ET w R (.slice A b.length i) b.length (rdF (b.drop t) 9)):=by
 obtain⟨o,D⟩:=aH (rdF (b.drop t) 9);rw[D];have Ho:=ae D;have a4:b.length <= 9223372036854775807:=by obtain⟨-,h1,h2,-⟩:=hB.cells;unfold maxLen at h2;omega
 have HB:=ae (show ∀W,aT (fun q=>q=R) w W -> aO F W (.slice A b.length i) b from fun W hW=>hB.only hW fun q O e=>hF q O e);obtain⟨n,hn⟩:=aH b.length;rw[hn] at hR a4 hk⊢;have I:=ae hn;have aW:=ae hR;clear hB hn D hR
 go_enter func156,ntmps156
 go_wp2_with fail
 go_loopw [3,4] (fun sv ss wr=>∃(f k v:Nat),f <= 9 /\ k <= n /\ ss=.int .i64 ((7*(9-f):Nat):Int) /\ sv=.int .u64 (v:Int) /\ v<128 ^ (9-f) /\ Blk wr R [.slice A n i,.int .i64 (k:Int)] 247 /\ rdF (b.drop t) 9=(rdF (b.drop k) f).map (fun p=>(v+128 ^ (9-f)*p.1,p.2)) /\ aT (fun q=>q=R) w wr) (fun _ ss _=>64-(intOf ss).toNat)
 case atStart=>exact⟨9,t,0,by omega,hk,rfl,rfl,by simp,aW.out,by cases rdF (b.drop t) 9<;>simp,aT.refl _ _⟩
 case round=>
  obtain⟨f,k,v,hf,bf,rfl,rfl,hv,M,aP,D⟩:=hrel;have T:=ae aP;have Hv:=ae hv;have a2:=ae M;have g:=ae D;obtain⟨a,ay⟩:=aH (7*(9-f));rw[ay];have V:=ae ay
  obtain⟨Y,Z⟩:wr.cell? ⟨R,0,none⟩=some (.slice A n i) /\ wr.cell? ⟨R,1,none⟩=some (.int .i64 (k:Int)):=⟨by simpa using M.cell 0,by simpa using M.cell 1⟩
  have aL:=M.free 1;have d0:∀d,aJ wr.drew d -> d.cell? _=_:=fun d hh=>aZ Y hh
  have d1:∀d,aJ wr.drew d -> d.cell? _=_:=fun d hh=>aZ Z hh
  clear aP hv M D ay
  by_cases a6:k<n
  ·have a5:¬(n:Int) <= (k:Int):=by omega
   have be:(k:Int)<(n:Int):=by omega
   have ad:k<b.length:=by rw[I.out];exact a6
   obtain⟨-,-,-,aM⟩:=(HB.out wr g.out).cells;obtain⟨X,ob,rfl,a9,bc,aN⟩:=aM.resolve_left (by intro e;rw[e] at ad;simp at ad);obtain⟨c,hc⟩:=aH b[k];have C:=aN k ad;rw[hc] at C;unfold B at C;have d2:∀d,aJ wr.drew d -> d.cell? _=_:=fun d hh=>aZ C hh
   have ar:=zU b k ad;rw[hc] at ar;obtain⟨m,hm⟩:=aH c.toNat;have a7:m<256:=by have:=c.toNat_lt;omega
   rw[hm] at d2 C;have ak:=ae ar;have u:=ae hm;clear aN hc ar hm aM;go_wp2_with fail;refine bS aJ (up 10 []) (by kernel_rfl) ?_;apply aG;rfl;intro d hC;go_simp;(repeat (simp(disch:=omega) only[af,if_pos];go_simp));exact aF;refine aY ?_;clear d0 d1 d2;obtain⟨s,x⟩:=aQ wr.drew;have d0:∀d,aJ s.drew d -> d.cell? _=_:=fun d hh=>aZ (w:=s) (by rw[x];exact Y) hh
   have d1:∀d,aJ s.drew d -> d.cell? _=_:=fun d hh=>aZ (w:=s) (by rw[x];exact Z) hh
   have d2:∀d,aJ s.drew d -> d.cell? _=_:=fun d hh=>aZ (w:=s) (by rw[x];exact C) hh
   rw[<- x];have G:=ae (show aT (fun q=>q=R) w s by rw[x];exact⟨g.out.os,g.out.tape,g.out.output,g.out.size,g.out.block⟩);have a0:=ae (show Blk s R [.slice (some ⟨X,ob,none⟩) n i,.int .i64 (k:Int)] 247 by rw[x];exact a2.out.keep rfl);clear x Y Z C aL;go_wp2_with fail;refine bS aJ (up 11 []) (by kernel_rfl) ?_;apply aG;rfl;intro d hC;go_simp;(repeat (simp(disch:=omega) only[af,if_pos];go_simp));exact aF;refine aY ?_;clear d0 d1 d2;obtain⟨S,ai⟩:=aQ s.drew;rw[<- ai];have z:=ae (show aT (fun q=>q=R) w S by rw[ai];exact⟨G.out.os,G.out.tape,G.out.output,G.out.size,G.out.block⟩);have N:Blk S R [.slice (some ⟨X,ob,none⟩) n i,.int .i64 (k:Int)] 247:=by rw[ai];exact a0.out.keep rfl
   obtain⟨Y,Z⟩:S.cell? ⟨R,0,none⟩=some (.slice (some ⟨X,ob,none⟩) n i) /\ S.cell? ⟨R,1,none⟩=some (.int .i64 (k:Int)):=⟨by simpa using N.cell 0,by simpa using N.cell 1⟩
   have aL:=N.free 1;have a1:=ae N;have Q:a=7*(9-f):=V.out.symm;clear ai N
   by_cases l:(f=0 /\ 1<m) \/ (f<9 /\ m=0)
   ·obtain rfl:o=none:=by
     rw[<- Ho.out,T.out,ak.out,zl (by rw[u.out];exact l)];rfl
    rcases l with⟨r,j⟩|⟨r,j⟩
    ·have L:((a:Int) == 63)=true:=by simp;omega
     have aa:(a:Int)=63:=by omega
     have e2:(1:Int)<(m:Int):=by omega
     go_wp2_with fail;exact⟨rfl,rfl,z.out⟩
    ·have e2:¬(1:Int)<(m:Int):=by omega
     have e3:(0:Int)<(a:Int):=by omega
     have e4:((m:Int) == 0)=true:=by simp;omega
     have an:(m:Int)=0:=by omega
     by_cases e0:a=63
     ·have L:((a:Int) == 63)=true:=by simp;omega
      have aa:(a:Int)=63:=by omega
      go_wp2_with fail;exact⟨rfl,rfl,z.out⟩
     ·have L:((a:Int) == 63)=false:=by simp;omega
      have aa:¬(a:Int)=63:=by omega
      go_wp2_with fail;exact⟨rfl,rfl,z.out⟩
   ·have r:f=0 -> m <= 1:=fun h=>by omega
    have j:f<9 -> m≠0:=fun h h0=>l (.inr ⟨h,h0⟩)
    obtain⟨q,O⟩:=aH (m%128)
    have ba:bits .and .u8 (m:Int) 127=(q:Int):=by
     rw[<- O,<- nat_mask7];exact u8_and_nat m 127 a7 (by omega)
    have J:=ae O;clear O;have bi:IntKind.u64.wrap (q:Int)=(q:Int):=IntWalk.u64_in _ (by have:=J.out;omega);obtain⟨y,ax⟩:=aH (v+q*2 ^ a);have P:a=63 -> q <= 1:=fun h=>by have:=r (by omega);have:=J.out;omega
    have az:v<2 ^ a:=by have:=Hv.out;rw[<- xR f hf,V.out] at this;exact this
    obtain⟨aU,aR⟩:=C4 q a (by have:=J.out;omega) (by omega) (fun h=>P h) (by omega)
    have a8:bits .or .u64 (v:Int) (IntKind.u64.wrap ((q:Int)*2 ^ min a 64))=(y:Int):=by
     rw[aU,<- ax];have h1:v<18446744073709551616:=aw az (au (Nat.pow_le_pow_right (by omega) (show a <= 63 by omega)) (by decide));rw[u64_or_nat v (q*2 ^ a) h1 aR,Nat.or_comm,nat_join a (q*2 ^ a) v (by simp) az,Nat.add_comm]
    have bg:bits .or .u64 (v:Int) (IntKind.u64.wrap ((q:Int)*2 ^ a))=(y:Int):=by
     have h:=a8;rw[show min a 64=a by omega] at h;exact h
    have aI:=ae ax;clear ax aU aR az;obtain⟨aV,ag⟩:=aQ (S.setCell ⟨R,1,none⟩ (.int .i64 ((k:Int)+1)));have H:=ae (show Blk aV R [.slice (some ⟨X,ob,none⟩) n i,.int .i64 (((k+1:Nat)):Int)] 247 by rw[ag];exact a1.out.set 1 _);have E:=ae (show aT (fun q=>q=R) w aV by rw[ag];exact z.out.setCell (.inl rfl) _);have K:=ae ag;clear ag
    by_cases ao:m<128
    ·have a3:(m:Int)<128:=by omega
     have al:=ae (show o=some (y,b.drop (k+1)) by
      rw[<- Ho.out,T.out,ak.out,zm (by rw[u.out];exact l) (by rw[u.out];exact ao),u.out,Option.map_some]
      congr 2
      rw[<- aI.out,<- V.out,xR f hf,<- J.out,Nat.mod_eq_of_lt ao,Nat.mul_comm])
     by_cases e0:a=63
     ·have L:((a:Int) == 63)=true:=by simp;omega
      have e2:¬(1:Int)<(m:Int):=by have:=r (by omega);omega
      have ab:(0:Int)<(a:Int):=by omega
      have e4:((m:Int) == 0)=false:=by have:=j (by omega);simp;omega
      have an:¬(m:Int)=0:=by have:=j (by omega);omega
      clear Q l r j e0 P;go_wp2_with fail;rw[<- K.out]
      go_ret
      rw[al.out];exact⟨⟨rfl,k+1,by simp[I.out];omega,H.out⟩,E.out⟩
     ·have L:((a:Int) == 63)=false:=by simp;omega
      have aa:¬(a:Int)=63:=by omega
      by_cases e3:0<a
      ·have ab:(0:Int)<(a:Int):=by omega
       have e4:((m:Int) == 0)=false:=by have:=j (by omega);simp;omega
       have an:¬(m:Int)=0:=by have:=j (by omega);omega
       clear Q l r j e0 P;go_wp2_with fail;rw[<- K.out]
       go_ret
       rw[al.out];exact⟨⟨rfl,k+1,by simp[I.out];omega,H.out⟩,E.out⟩
      ·have ab:¬(0:Int)<(a:Int):=by omega
       clear Q l r j e0 P;go_wp2_with fail;rw[<- K.out]
       go_ret
       rw[al.out];exact⟨⟨rfl,k+1,by simp[I.out];omega,H.out⟩,E.out⟩
    ·have a3:¬(m:Int)<128:=by omega
     have bd:f≠0:=fun h=>by have:=r h;omega
     have L:((a:Int) == 63)=false:=by simp;omega
     have aa:¬(a:Int)=63:=by omega
     have e4:((m:Int) == 0)=false:=by simp;omega
     have an:¬(m:Int)=0:=by omega
     have aS:((7*(9-(f-1)):Nat):Int)=(a:Int)+7:=by omega
     have U:=ae (show y<128 ^ (9-(f-1)) /\ rdF (b.drop t) 9=(rdF (b.drop (k+1)) (f-1)).map (fun p=>(y+128 ^ (9-(f-1))*p.1,p.2)) from by
      have hp:(128:Nat) ^ (9-(f-1))=128 ^ (9-f)*128:=by rw[<- Nat.pow_succ];congr 1;omega
      have h2:=xR f hf;rw[V.out] at h2;have h3:=Hv.out;have h4:=aI.out;have h5:=J.out;rw[h2] at h4;constructor
      ·rw[hp,<- h4];have:q*128 ^ (9-f) <= 127*128 ^ (9-f):=Nat.mul_le_mul_right _ (by omega);omega
      ·rw[T.out,ak.out,Bc (by rw[u.out];exact l) (by rw[u.out];exact ao),Option.map_map,u.out,h5]
       congr 1
       funext p
       simp only[Function.comp];rw[hp,<- h4,Nat.mul_add,Nat.mul_assoc,Nat.mul_comm q]
       congr 1
       omega)
     have aK:=ae aS;have bh:a <= 56:=by omega
     clear aS l r j P
     by_cases e3:0<a
     ·have ab:(0:Int)<(a:Int):=by omega
      clear Q;go_wp2_with fail;rw[<- K.out]
      go_roundw
      case rel=>exact⟨f-1,k+1,y,by omega,by omega,by rw[aK.out],rfl,U.out.1,H.out,U.out.2,E.out⟩
      case measure=>simp[intOf];omega
     ·have ab:¬(0:Int)<(a:Int):=by omega
      clear Q;go_wp2_with fail;rw[<- K.out]
      go_roundw
      case rel=>exact⟨f-1,k+1,y,by omega,by omega,by rw[aK.out],rfl,U.out.1,H.out,U.out.2,E.out⟩
      case measure=>simp[intOf];omega
  ·have a5:(n:Int) <= (k:Int):=by omega
   go_wp2_with fail;refine bS aJ (up 10 []) (by kernel_rfl) ?_;apply aG;rfl;intro d hC;go_simp;(repeat (simp(disch:=omega) only[af,if_pos];go_simp));exact aF;refine aY ?_
   obtain rfl:o=none:=by
    rw[<- Ho.out,T.out,List.drop_eq_nil_of_le (by rw[I.out];omega),zk];rfl
   have z:=ae (show aT (fun q=>q=R) w wr.drew from⟨g.out.os,g.out.tape,g.out.output,g.out.size,g.out.block⟩);go_wp2_with fail;exact⟨rfl,rfl,z.out⟩
end
section
attribute [local go_sem] opC upC told bG br bH bt bw bI bJ
theorem aO.cut{d g j:Nat}(h:aO G W (.slice (some ⟨d,g,none⟩) l.length j) l)(k m:Nat)(s:k+m <= l.length):aO G W (.slice (some ⟨d,g+k,none⟩) m (j-k)) ((l.drop k).take m):=by
 obtain⟨a,c,n,r,v,x,h⟩:=h;simp at n;obtain⟨rfl,rfl⟩:=n;have f:((l.drop k).take m).length=m:=by simp;omega
 refine⟨some ⟨d,g+k,none⟩,j-k,by rw[f],by rw[f];omega,by unfold maxLen at *;omega,nofun,?_⟩;rcases h with h|⟨b,y,L,t,o,e,hF,p,u,q⟩
 ·left;rw[h];simp
 ·simp at e;obtain⟨rfl,rfl⟩:=e;refine .inr ⟨d,g+k,L,t,o,rfl,hF,p,by rw[f];omega,fun i hi=>?_⟩;rw[f] at hi;have:=q (k+i) (by omega);rw[Nat.add_assoc,this];simp[List.getElem_take,List.getElem_drop]
theorem aO.cutI(h:aO G W (.slice (some ⟨i,j,none⟩) l.length o) l)(k m:Nat)(b:k+m <= l.length):aO G W (.slice (if o=k then some ⟨i,j,none⟩ else some ⟨i,j+k,none⟩) m (o-k)) ((l.drop k).take m):=by
 have a:=h.cut k m b
 by_cases e:o=k
 ·rw[if_pos e];obtain⟨-,d,f,-⟩:=h.cells;have c:m=0:=by omega
  subst c;exact⟨some ⟨i,j,none⟩,o-k,by simp,by simp,by unfold maxLen at *;omega,nofun,.inl (by simp)⟩
 ·rw[if_neg e];exact a
def Ey(w:World)(R:Nat)(d:Value)(c:Nat)(o:Option (bR×List UInt8))(e:Ending)(b:World):Prop:=
 (match o with
  |some (k,r)=>e=.returned (.string ⟨k.toArray⟩) /\ ∃a:Nat,a+r.length=c /\ Blk b R [d,.int .i64 (a:Int)] 247
  |none=>e=.panicked qI) /\ aT (fun q=>q=R) w b
theorem sZ(F:aX)(v:Option Addr)(d:Nat)(b:List UInt8)(j:Nat)(hR:Blk w k [.slice v b.length d,.int .i64 (j:Int)] 247)(G:aO F w (.slice v b.length d) b)(hF:∀q,F q -> q≠k)(hk:j <= b.length):
 Calls aE 218 #[.pointer (some ⟨k,0,none⟩)] w (Ey w k (.slice v b.length d) b.length (rdT (b.drop j))):=by
 have Z:=qJ w k F v d b j hR G hF hk;have aK:b.length <= 9223372036854775807:=by obtain⟨-,X,Y,-⟩:=G.cells;unfold maxLen at Y;omega
 have N:=ae (show ∀W,aT (fun q=>q=k) w W -> aO F W (.slice v b.length d) b from fun W hW=>G.only hW fun q hq e=>hF q hq e);obtain⟨o,J⟩:=aH (rdF (b.drop j) 9);obtain⟨n,I⟩:=aH b.length;obtain⟨ot,B⟩:=aH (rdT (b.drop j));rw[J,I] at Z;rw[B];rw[I] at aK hk⊢;unfold rdT at B;rw[J] at B;have HN:=ae Z;have Ho:=ae J;have x:=ae I;have S:=ae B;clear Z G J I B hR
 go_enter func218,ntmps218
 go_wp2_with fail;refine HN.out.mono ?_;rintro e s y;clear HN;cases o with
 |none=>
  obtain⟨rfl,t⟩:=y;obtain rfl:ot=none:=S.out.symm;have h:=ae t;clear t;go_wp2_with fail;exact⟨rfl,rfl,h.out⟩
 |some p=>
  obtain⟨m,r⟩:=p;obtain⟨⟨rfl,a,ak,ai⟩,t⟩:=y;have ab:=jr Ho.out;obtain⟨l,C⟩:=aH r.length;have aa:(b.drop j).length=n-j:=by rw[List.length_drop,x.out]
  rw[aa,C] at ab;rw[C] at ak;have a4:m<18446744073709551616:=ab.2.2
  have an:r=b.drop a:=by
   have X:=(gA.1 Ho.out).2;have Y:r=(b.drop j).drop (cj m).length:=by rw[X];simp
   have h3:=congrArg List.length X;rw[aa,aA,C] at h3;rw[Y,List.drop_drop]
   congr 1
   omega
  have a1:a <= n:=by omega
  have a2:0<n:=by omega
  obtain⟨f,g,rfl⟩:∃f g,v=some ⟨f,g,none⟩:=by
   obtain⟨-,-,-,A⟩:=(N.out s t).cells;obtain⟨f,g,e,-⟩:=A.resolve_left (by intro e;rw[e] at x;have:=x.out;simp at this;omega);exact⟨f,g,e⟩
  have A:=(N.out s t).cells
  have H:n <= d /\ d <= maxLen:=⟨by rw[<- x.out];exact A.2.1,A.2.2.1⟩
  unfold maxLen at H;have a5:=H.1;have a0:=H.2
  have aP:IntKind.u64.wrap ((n:Int)-(a:Int))=(l:Int):=by
   rw[show(n:Int)-(a:Int)=(l:Int) by omega];exact IntWalk.u64_in _ (by omega)
  have aR:IntKind.u64.wrap (l:Int)=(l:Int):=IntWalk.u64_in _ (by omega)
  have aS:IntKind.i64.wrap ((n:Int)-(a:Int))=(l:Int):=by
   rw[show(n:Int)-(a:Int)=(l:Int) by omega];exact af _ (by omega)
  have P:=ae ai;have h:=ae t;have T:=ae C;have az:=ae an;have E:=ae ak;clear ai t C an ab aa A H;have U:∀c,aJ s.drew c -> c.cell? ⟨k,0,none⟩=some (.slice (some ⟨f,g,none⟩) n d):=fun c hh=>aZ (w:=s) (by simpa using P.out.cell 0) hh
  have V:∀c,aJ s.drew c -> c.cell? ⟨k,1,none⟩=some (.int .i64 (a:Int)):=fun c hh=>aZ (w:=s) (by simpa using P.out.cell 1) hh
  by_cases al:m <= l
  ·have aN:¬(l:Int)<(m:Int):=by omega
   have a3:IntKind.i64.wrap (m:Int)=(m:Int):=af _ (by have:=E.out;omega);have a6:IntKind.i64.wrap ((a:Int)+(m:Int))=(a:Int)+(m:Int):=af _ (by have:=E.out;omega)
   have ay:=ae (show ot=some (r.take m,r.drop m) by
    rw[<- S.out];show(if m <= r.length then some (r.take m,r.drop m) else none)=_
    rw[T.out,if_pos al])
   have aL:a+m <= n:=by have:=E.out;omega
   go_wp2_with fail;refine bS aJ (up 13 []) (by kernel_rfl) ?_;apply aG;rfl;intro c y;go_simp;(repeat (simp(disch:=omega) only[af,if_pos];go_simp));exact aF;refine aY ?_;clear U V aP aR aS;obtain⟨i,L⟩:=aQ s.drew;rw[<- L];have u:=ae (show aT (fun q=>q=k) w i by rw[L];exact⟨h.out.os,h.out.tape,h.out.output,h.out.size,h.out.block⟩);have Q:=ae (show Blk i k [.slice (some ⟨f,g,none⟩) n d,.int .i64 (a:Int)] 247 by rw[L];exact P.out.keep rfl);clear L;have U:∀c,aJ i.drew c -> c.cell? ⟨k,0,none⟩=some (.slice (some ⟨f,g,none⟩) n d):=fun c hh=>aZ (w:=i) (by simpa using Q.out.cell 0) hh
   have V:∀c,aJ i.drew c -> c.cell? ⟨k,1,none⟩=some (.int .i64 (a:Int)):=fun c hh=>aZ (w:=i) (by simpa using Q.out.cell 1) hh
   have hcut:=(show aO F i (.slice (some ⟨f,g,none⟩) b.length d) b from N.out i u.out).cutI a m (by rw[x.out];exact aL);obtain⟨ad,ag⟩:=aH ((if d=a then some ⟨f,g,none⟩ else some ⟨f,g+a,none⟩):Option Addr);rw[ag] at hcut
   have d2:∀c,aJ i.drew c -> (convert 41 9 (.slice ad m (d-a))).run aE c=.ok (.string ⟨(r.take m).toArray⟩) c:=fun c hh=>by
    rw[az.out]
    exact kL (hcut.keep (w':=c) fun q _ aM=>by
     have:=hh.block q aM
     exact this)
   have aV:(a:Int) <= (a:Int)+(m:Int):=by omega
   have aW:(a:Int)+(m:Int) <= (d:Int):=by omega
   have a7:((a:Int)+(m:Int)).toNat-a=m:=by omega
   clear hcut;go_wp2_with fail;refine bS aJ (up 18 []) (by kernel_rfl) ?_;apply aG;rfl;intro c y;go_simp;(repeat (simp(disch:=omega) only[af,if_pos];go_simp));exact aF;refine aY ?_;clear U V d2 ag;obtain⟨D,M⟩:=aQ i.drew;rw[<- M];have O:=ae (show aT (fun q=>q=k) w D by rw[M];exact⟨u.out.os,u.out.tape,u.out.output,u.out.size,u.out.block⟩);have z:Blk D k [.slice (some ⟨f,g,none⟩) n d,.int .i64 (a:Int)] 247:=by rw[M];exact Q.out.keep rfl
   obtain⟨c0,c1⟩:D.cell? ⟨k,0,none⟩=some (.slice (some ⟨f,g,none⟩) n d) /\ D.cell? ⟨k,1,none⟩=some (.int .i64 (a:Int)):=⟨by simpa using z.cell 0,by simpa using z.cell 1⟩
   have aU:=z.free 1;obtain⟨ao,K⟩:=aQ (D.setCell ⟨k,1,none⟩ (.int .i64 ((a:Int)+(m:Int))));have ax:=ae (show Blk ao k [.slice (some ⟨f,g,none⟩) n d,.int .i64 (((a+m:Nat)):Int)] 247 by rw[K];exact z.set 1 _);have ar:=ae (show aT (fun q=>q=k) w ao by rw[K];exact O.out.setCell (.inl rfl) _);have aI:=ae K;clear M z K;go_wp2_with fail;rw[<- aI.out]
   go_ret
   rw[ay.out];exact⟨⟨rfl,a+m,by rw[List.length_drop,T.out];have:=E.out;omega,ax.out⟩,ar.out⟩
  ·have aN:(l:Int)<(m:Int):=by omega
   obtain rfl:ot=none:=by
    rw[<- S.out];show(if m <= r.length then some (r.take m,r.drop m) else none)=_;rw[T.out,if_neg al]
   go_wp2_with fail;refine bS aJ (up 13 []) (by kernel_rfl) ?_;apply aG;rfl;intro c y;go_simp;(repeat (simp(disch:=omega) only[af,if_pos];go_simp));exact aF;refine aY ?_;have O:=ae (show aT (fun q=>q=k) w s.drew from⟨h.out.os,h.out.tape,h.out.output,h.out.size,h.out.block⟩);go_wp2_with fail;exact⟨rfl,rfl,O.out⟩
end
section
attribute [local go_sem] opC upC
def Bl:List PanicEntry:=[{ v:=.iface 245 (.agg #[]),recovered:=true }]
def Bm(T b a:Nat)(Z:Value)(c:Value -> Prop):Prop:=(T,b,a,Z,c)=(146,155,199,.int .u64 0,fun v=>∃x,v=.int .u64 x) \/ (T,b,a,Z,c)=(9,217,229,.string ⟨#[]⟩,fun v=>∃x,v=.string x) \/ (T,b,a,Z,c)=(32,201,219,.slice none 0 0,fun v=>∃x:Option Addr×Nat×Nat,v=.slice x.1 x.2.1 x.2.2)
theorem vF{T v t:Nat}{Z:Value}{B:Value -> Prop}(A:Bm T v t Z B)(g:Nat)(n o q:Value)(k l m:TypeId)(w:World)(u:Blk w g [n] k)(x:Blk w (g+1) [o] l)(y:Blk w (g+2) [q] m):
 CallsD aE t #[.pointer (some ⟨g,0,none⟩),.pointer (some ⟨g+1,0,none⟩),.pointer (some ⟨g+2,0,none⟩)] (.panicking qI) w fun e C c=>
  e=.returned (.tuple #[]) /\ C=.panicking Bl /\ Blk c g [Z] k /\ Blk c (g+1) [.int .i64 0] l /\ Blk c (g+2) [.bool false] m /\ Below g w c:=by
 rcases A with h|h|h<;>cases h
 all_goals
  first|refine callsD_of_wpS func199 rfl fun s r d=>?_|refine callsD_of_wpS func229 rfl fun s r d=>?_|refine callsD_of_wpS func219 rfl fun s r d=>?_
  apply wpS_seq;apply wpS_region;simp[wpOpsS,go_sem,recoverD,d,ntmps199,ntmps229,ntmps219,Exit.thenS,qI];refine wpS_of_wp ?_;have J:∀w,(Instr.typeAssert (.iface 245 (.agg #[])) 20 245 true).run aE w=.ok (.tuple #[.agg #[],.bool true]) w:=fun _=>by kernel_rfl
  obtain⟨a,b⟩:=aQ (w.alloc (.cells #[] 245));have f:Blk a g [n] k:=by rw[b];exact u.alloc _
  have i:Blk a (g+1) [o] l:=by rw[b];exact x.alloc _
  have j:Blk a (g+2) [q] m:=by rw[b];exact y.alloc _
  have D:a.cell? ⟨g,0,none⟩=some n:=by simpa using f.cell 0
  have E:a.cell? ⟨g+1,0,none⟩=some o:=by simpa using i.cell 0
  have F:a.cell? ⟨g+2,0,none⟩=some q:=by simpa using j.cell 0
  have G:=f.free 0;have H:=i.free 0;have I:=j.free 0;rw[b] at D E F G H I;go_wp2_with fail;rw[<- b];have z:Below g w a:=by rw[b];exact(Below.refl g w).alloc (Nat.le_of_lt u.lt) _
  refine⟨rfl,.panicking Bl,rfl,.tuple #[],by simp[results,results199,results229,results219,go_sem],rfl,rfl,?_,?_,?_,?_⟩
  ·exact((f.set 0 _).set_other _ (by show g≠g+1;omega)).set_other _ (by show g≠g+2;omega)
  ·exact((i.set_other _ (by show g+1≠g;omega)).set 0 _).set_other _ (by show g+1≠g+2;omega)
  ·exact((j.set_other _ (by show g+2≠g;omega)).set_other _ (by show g+2≠g+1;omega)).set 0 _
  ·exact((z.setCell (p:=⟨g,0,none⟩) (aq _) _).setCell (p:=⟨g+1,0,none⟩) (Nat.le_succ _) _).setCell (p:=⟨g+2,0,none⟩) (by show g <= g+2;omega) _
theorem xS{T f d:Nat}{Z:Value}{l:Value -> Prop}(g:Bm T f d Z l)(i j k:Value)(w:World):
 CallsD aE d #[i,j,k] .returning w fun e m n=>e=.returned (.tuple #[]) /\ m=.returning /\ n=w:=by
 rcases g with h|h|h<;>cases h
 all_goals
  first|refine callsD_of_wpS func199 rfl fun a c b=>?_|refine callsD_of_wpS func229 rfl fun a c b=>?_|refine callsD_of_wpS func219 rfl fun a c b=>?_
  apply wpS_seq;apply wpS_region;simp[wpOpsS,go_sem,recoverD,b,ntmps199,ntmps229,ntmps219,Exit.thenS];refine wpS_of_wp ?_;go_wp2_with fail;cases a
  simp_all [bodyPostS,results,results199,results229,results219,go_sem]
end
section
attribute [local go_sem] opC upC told bG br bH bt bw bI bJ
def C3(g:Nat)(a b:World):Prop:=aT (fun q=>g <= q /\ q <= g+2) a b /\ ∀v,a.cell? ⟨g,0,none⟩=some v -> b.cell? ⟨g,0,none⟩=some v
instance{g:Nat}:Std.Refl (C3 g):=⟨fun _=>⟨aT.refl _ _,fun _ h=>h⟩⟩
instance{g:Nat}:Trans (C3 g) (C3 g) (C3 g):=⟨fun h k=>⟨h.1.trans k.1 fun _ hi=>.inl hi,fun v hh=>k.2 v (h.2 v hh)⟩⟩
theorem C3.cell{g:Nat}{a b:World}(h:C3 g a b){p:Addr}{x:Value}(c:a.cell? p=some x)(e:g+2<p.block):b.cell? p=some x:=by
 have d:=h.1.block p.block (il c) (by omega);unfold World.cell? at *;rw[d];exact c
structure B3(w:World)(g:Nat)(x0 x1 x2:Value)(T:TypeId):Prop where
 b0:Blk w g [x0] T
 b1:Blk w (g+1) [x1] 3
 b2:Blk w (g+1+1) [x2] 4
def St3(g:Nat)(w a:World):Prop:=Below g w a /\ aT (fun q=>q<g+4) w a
theorem St3.trans{g:Nat}{a b c:World}(h:St3 g a b)(k:St3 g b c):St3 g a c:=⟨h.1.trans k.1,h.2.trans k.2 fun _ hi=>.inl hi⟩
theorem lq(w:World)(y:Value)(a:n <= k)(b:k<n+3):St3 n w (w.setCell ⟨k,0,none⟩ y) /\ aT (fun q=>n <= q /\ q <= n+2) w.drew (w.setCell ⟨k,0,none⟩ y).drew:=
 ⟨⟨(Below.refl n w).setCell (p:=⟨k,0,none⟩) a _,(aT.refl _ w).setCell (p:=⟨k,0,none⟩) (.inl (show k<n+4 by omega)) _⟩,(aT.refl _ w.drew).setCell (p:=⟨k,0,none⟩) (.inl ⟨a,show k <= n+2 by omega⟩) _⟩
theorem B3.first{f a b:Value}(c:Blk W i [f] t)(d:Blk W (i+1) [a] 3)(e:Blk W (i+1+1) [b] 4)(v:Value):∃w',w'=W.setCell ⟨i,0,none⟩ v /\ B3 w' i v a b t /\ St3 i W w':=
 ⟨_,rfl,⟨c.set 0 _,d.set_other _ (by show i+1≠i;omega),e.set_other _ (by show i+1+1≠i;omega)⟩,(lq i i W v (by omega) (by omega)).1⟩
theorem B3.put{b d e:Value}(h:B3 W i b d e t):
 (∃a,a=W.setCell ⟨i,0,none⟩ b /\ B3 a i b d e t /\ C3 i W.drew a.drew /\ St3 i W a) /\ (∀y,∃a,a=W.setCell ⟨i+1,0,none⟩ y /\ B3 a i b y e t /\ C3 i W.drew a.drew /\ St3 i W a) /\ ∀y,∃a,a=W.setCell ⟨i+1+1,0,none⟩ y /\ B3 a i b d y t /\ C3 i W.drew a.drew /\ St3 i W a:=by
 have c:∀a,Blk a i [b] t -> ∀v,W.drew.cell? ⟨i,0,none⟩=some v -> a.drew.cell? ⟨i,0,none⟩=some v:=fun a k v f=>(k.cell 0).trans ((h.b0.cell 0).symm.trans f)
 refine⟨⟨_,rfl,⟨h.b0.set 0 _,h.b1.set_other _ (by show i+1≠i;omega),h.b2.set_other _ (by show i+1+1≠i;omega)⟩,⟨(lq i i W _ (by omega) (by omega)).2,c _ (h.b0.set 0 _)⟩,(lq i i W _ (by omega) (by omega)).1⟩,fun y=>⟨_,rfl,⟨h.b0.set_other _ (by show i≠i+1;omega),h.b1.set 0 _,h.b2.set_other _ (by show i+1+1≠i+1;omega)⟩,⟨(lq i (i+1) W y (by omega) (by omega)).2,c _ (h.b0.set_other _ (by show i≠i+1;omega))⟩,(lq i (i+1) W y (by omega) (by omega)).1⟩,fun y=>⟨_,rfl,⟨h.b0.set_other _ (by show i≠i+1+1;omega),h.b1.set_other _ (by show i+1≠i+1+1;omega),h.b2.set 0 _⟩,⟨(lq i (i+1+1) W y (by omega) (by omega)).2,c _ (h.b0.set_other _ (by show i≠i+1+1;omega))⟩,(lq i (i+1+1) W y (by omega) (by omega)).1⟩⟩
def io(a:Nat):Option (Nat×List UInt8) -> Value
 |some (n,r)=>.tuple #[.int .u64 (n:Int),.int .i64 ((a-r.length:Nat):Int),.bool true]
 |none=>.tuple #[.int .u64 0,.int .i64 0,.bool false]
def iZ(b:List UInt8)(k:Nat):Value:=io b.length (rdF (b.drop k) 9)
def qK(a:Nat):Option (bR×List UInt8) -> Value
 |some (n,r)=>.tuple #[.string ⟨n.toArray⟩,.int .i64 ((a-r.length:Nat):Int),.bool true]
 |none=>.tuple #[.string ⟨#[]⟩,.int .i64 0,.bool false]
def jV(b:List UInt8)(k:Nat):Value:=qK b.length (rdT (b.drop k))
def EU(Q:Value -> World -> Prop)(w:World)(R:Nat)(b:Value)(o:Option Nat)(e:Ending)(a:World):Prop:=
 (match o with
  |some k=>∃v,e=.returned v /\ Q v a /\ Blk a R [b,.int .i64 (k:Int)] 247
  |none=>e=.panicked qI) /\ aT (fun q=>q=R) w a
def Ez(Z:Value)(Q:Value -> World -> Prop)(o:Option Nat)(e:Ending)(a:World):Prop:=match o with
 |some k=>∃v,e=.returned (.tuple #[v,.int .i64 (k:Int),.bool true]) /\ Q v a
 |none=>e=.returned (.tuple #[Z,.int .i64 0,.bool false])
theorem qL{sh:Value -> Prop}(hf:Bm i j o u sh){A:Nat}(a6:∀a k,(callFunc A a).run aE k=.ok (.enter A a) k)(w:World)(F:aX)(f:Option Addr)(c:Nat)(b:List UInt8)(l:Nat)(hB:aO F w (.slice f b.length c) b)(hF:∀q,F q -> q<w.heap.size)(ag:Option Nat)(Q:Value -> World -> Prop)(aJ:∀v W,Q v W -> sh v)(hQ:∀v W W',Q v W -> aT (fun q=>q<w.heap.size+4) W W' -> Q v W')
 (hN:∀d,Blk d (w.heap.size+3) [.slice f b.length c,.int .i64 (l:Int)] 247 -> aO F d (.slice f b.length c) b -> d.heap.size=w.heap.size+4 -> Calls aE A #[.pointer (some ⟨w.heap.size+3,0,none⟩)] d (EU Q d (w.heap.size+3) (.slice f b.length c) ag)):
 Calls aE j #[.slice f b.length c,.int .i64 (l:Int),.func (.func A) #[] #[]] w fun e k=>Below w.heap.size w k /\ Ez u Q ag e k:=by
 have a7:∀(A:Fn)(first c:Array Value)(w:World),(Instr.makeFunc A first c).run aE w=.ok (.func A first c) w:=fun _ _ _ _=>rfl
 have aV:=ae (@vF _ _ _ _ _ hf);have aW:=ae (@xS _ _ _ _ _ hf);obtain⟨g,t⟩:=aH w.heap.size;obtain⟨R,B⟩:=aQ (((w.alloc (.cells #[u] i)).alloc (.cells #[.int .i64 0] 3)).alloc (.cells #[.bool false] 4));obtain⟨d,z⟩:=aQ (R.alloc (.cells #[.slice f b.length c,.int .i64 (l:Int)] 247));have ad:R.heap.size=g+3:=by rw[B,<- t];simp
 have ax:Below g w R:=by
  rw[B,<- t];exact(((Below.refl w.heap.size w).alloc (aq _) _).alloc (by simp) _).alloc (by simp;omega) _
 have aa:Below g w d:=ax.trans (by rw[z];exact(aI _ _).mono (by omega))
 have aK:Blk d g [u] i:=by
  have:=(((Blk.new w #[u] i).alloc (.cells #[.int .i64 0] 3)).alloc (.cells #[.bool false] 4)).alloc (.cells #[.slice f b.length c,.int .i64 (l:Int)] 247);rw[z,B,<- t];exact this
 have aL:Blk d (g+1) [.int .i64 0] 3:=by
  have:=((Blk.new (w.alloc (.cells #[u] i)) #[.int .i64 0] 3).alloc (.cells #[.bool false] 4)).alloc (.cells #[.slice f b.length c,.int .i64 (l:Int)] 247);simp only[World.size_alloc,t] at this;rw[z,B];exact this
 have aM:Blk d (g+2) [.bool false] 4:=by
  have:=(Blk.new ((w.alloc (.cells #[u] i)).alloc (.cells #[.int .i64 0] 3)) #[.bool false] 4).alloc (.cells #[.slice f b.length c,.int .i64 (l:Int)] 247);simp only[World.size_alloc,t] at this;rw[z,B];exact this
 have kR:Blk d (g+3) [.slice f b.length c,.int .i64 (l:Int)] 247:=by
  have:=Blk.new R #[.slice f b.length c,.int .i64 (l:Int)] 247;rw[<- z,ad] at this;exact this
 rw[t] at hN hQ hF;have U:=ae (hN d kR (hB.keep (w':=d) fun q D _=>aa.block q (hF q D)) (by rw[z];simp[ad]));have ai:=ae aa;have K0:=ae aK;have K1:=ae aL;have K2:=ae aM;have ak:=ae (show d=(((w.alloc (.cells #[u] i)).alloc (.cells #[.int .i64 0] 3)).alloc (.cells #[.bool false] 4)).alloc (.cells #[.slice f b.length c,.int .i64 (l:Int)] 247) by rw[z,B]);have J:=ae t;have a3:=ae aJ;have HQ:=ae hQ;have a8:¬(l:Int)<0:=by omega
 obtain⟨n,hn⟩:=aH b.length;clear hN ax aa aK aL aM kR B z ad hB hF t aJ hQ;rw[hn] at ak U⊢;clear hn;rcases hf with h|h|h<;>cases h
 all_goals
  first|go_enter_defers func155,ntmps155|go_enter_defers func217,ntmps217|go_enter_defers func201,ntmps201
  go_wp2_with fail;rw[<- ak.out];rw[J.out];refine U.out.mono ?_;rintro e S ⟨hC,hO⟩;clear U;have P:∀q,q≠g+3 -> q<d.heap.size -> S.heap[q]?=d.heap[q]?:=fun q h a5=>hO.block q a5 h
  have C:=K0.out.keep (P _ (by omega) K0.out.lt);have M:=K1.out.keep (P _ (by omega) K1.out.lt);have N:=K2.out.keep (P _ (by omega) K2.out.lt);have O:Below g w S:=ai.out.trans (hO.below (fun q D=>by have a9:q=g+3:=D;omega) (by have:=ai.out.size;have:=J.out;omega));clear hO P;cases ag with
  |none=>
   subst hC;have H0:=ae C;have H1:=ae M;have H2:=ae N;have V:=ae O;clear C M N O;go_wp2_with fail;refine leaves_cons (args:=#[.pointer (some ⟨g,0,none⟩),.pointer (some ⟨g+1,0,none⟩),.pointer (some ⟨g+1+1,0,none⟩)]) (by simp) (by simp[go_sem]) ((aV.out g _ _ _ _ _ _ S H0.out H1.out H2.out).mono ?_);rintro e u' m ⟨rfl,rfl,q0,q1,q2,a4⟩;have H:m.cell? ⟨g,0,none⟩=some _:=q0.cell 0;have Y:m.cell? ⟨g+1,0,none⟩=some _:=q1.cell 0;have c2:m.cell? ⟨g+1+1,0,none⟩=some _:=q2.cell 0;simp[Leaves,settle,results,results155,results217,results201,go_sem,Bl,H,Y,c2];exact⟨by rw[J.out];exact V.out.trans a4,rfl⟩
  |some an=>
   obtain⟨v,rfl,D,hR⟩:=hC;obtain⟨m,ab,p,aN⟩:=B3.first C M N v
   have ar:Blk m (g+1+1+1) [.slice f n c,.int .i64 (an:Int)] 247:=by rw[ab];exact hR.set_other _ (by show g+1+1+1≠g;omega)
   have a2:=ae (fun k (hh:C3 g m.drew k)=>show k.cell? ⟨g+1+1+1,1,none⟩=some (.int .i64 (an:Int)) from C3.cell hh (a:=m.drew) (ar.cell 1) (by show g+2<g+1+1+1;omega));have aZ:=ae (fun k (hh:C3 g m.drew k)=>hh.2 v (p.b0.cell 0));have H:S.cell? ⟨g,0,none⟩=some _:=C.cell 0;have z0:=C.free 0;have Hq:=ae D;have al:=ae ab;have V:=ae O;have aU:=ae p;clear hR C M N O ab ar D p;obtain⟨x,rfl⟩:=a3.out _ _ Hq.out;go_wp2_with fail;rw[<- al.out];clear H z0 al;have pg:=aZ.out;have pr:=a2.out;have p:=aU.out;refine bS (C3 g) (up 5 [505,506,507]) (by kernel_rfl) ?_;apply aG;rfl;intro k hC;go_simp;(repeat (simp(disch:=omega) only[af,if_pos];go_simp));exact aF;refine bq rfl rfl (fun E r=>?_);have a0:m.drew.cell? ⟨g,0,none⟩=some _:=p.b0.cell 0;have G:m.drew.frozen? ⟨g,0,none⟩=false:=p.b0.free 0;go_simp;obtain⟨w5,y,K,s,aP⟩:=p.put.1;rw[<- y];refine⟨s,r _ _ ?_⟩;clear r E y s a0 G;go_simp;refine bq rfl rfl (fun E r=>?_);have a0:w5.drew.cell? ⟨g+1,0,none⟩=some _:=K.b1.cell 0;have G:w5.drew.frozen? ⟨g+1,0,none⟩=false:=K.b1.free 0;go_simp;obtain⟨w6,y,L,s,aR⟩:=K.put.2.1 _;rw[<- y];refine⟨s,r _ _ ?_⟩;clear r E y s a0 G;go_simp;refine bq rfl rfl (fun E r=>?_);have a0:w6.drew.cell? ⟨g+1+1,0,none⟩=some _:=L.b2.cell 0;have G:w6.drew.frozen? ⟨g+1+1,0,none⟩=false:=L.b2.free 0;go_simp;obtain⟨I,y,ao,s,aS⟩:=L.put.2.2 _;rw[<- y];refine⟨s,r _ _ ?_⟩;clear r E y s a0 G;go_simp;refine aY ?_;clear pg pr p K L;have Hs:=ae (aN.trans (aP.trans (aR.trans aS)));have X:=ae ao;clear aN aP aR aS ao;go_wp2_with fail;refine leaves_cons (args:=#[.pointer (some ⟨g,0,none⟩),.pointer (some ⟨g+1,0,none⟩),.pointer (some ⟨g+1+1,0,none⟩)]) (by simp) (by simp[go_sem]) ((aW.out _ _ _ I.drew).mono ?_);rintro e u' w8 ⟨rfl,rfl,rfl⟩;have H:I.drew.cell? ⟨g,0,none⟩=some _:=X.out.b0.cell 0;have Y:I.drew.cell? ⟨g+1,0,none⟩=some _:=X.out.b1.cell 0;have c2:I.drew.cell? ⟨g+1+1,0,none⟩=some _:=X.out.b2.cell 0;simp[Leaves,settle,results,results155,results217,results201,go_sem,H,Y,c2];have az:=HQ.out _ _ _ Hq.out Hs.out.2.drew;have ay:Below w.heap.size w I.drew:=by rw[J.out];exact(V.out.trans Hs.out.1).drew
   first|exact⟨ay,az⟩|exact⟨ay,_,rfl,az⟩
theorem zV(d:Option Addr)(f:Nat)(b:List UInt8)(a:Nat)(l:aO F w (.slice d b.length f) b)(hF:∀q,F q -> q<w.heap.size)(s:a <= b.length):
 Calls aE 155 #[.slice d b.length f,.int .i64 (a:Int),.func (.func 156) #[] #[]] w fun e i=>e=.returned (iZ b a) /\ Below w.heap.size w i:=by
 unfold iZ;refine(qL (.inl rfl) (fun _ _=>by go_simp) w F d f b a l hF ((rdF (b.drop a) 9).map fun p=>b.length-p.2.length) (fun v _=>∃p,rdF (b.drop a) 9=some p /\ v=.int .u64 (p.1:Int)) (fun v _ ⟨p,_,h⟩=>⟨_,h⟩) (fun _ _ _ h _=>h) fun t o m _=>(qJ t _ F d f b a o m (fun q g e=>by have:=hF q g;omega) s).mono ?_).mono ?_
 ·rintro e i ⟨h,n⟩;refine⟨?_,n⟩;cases c:rdF (b.drop a) 9 with
  |none=>rw[c] at h;exact h
  |some p=>
   rw[c] at h;obtain⟨rfl,k,u,j⟩:=h;obtain rfl:k=b.length-p.2.length:=by omega
   exact⟨_,rfl,⟨p,rfl,rfl⟩,j⟩
 ·rintro e i ⟨r,h⟩;refine⟨?_,r⟩;cases c:rdF (b.drop a) 9 with
  |none=>rw[c] at h;exact h
  |some p=>
   rw[c] at h;obtain⟨v,rfl,q,g,rfl⟩:=h;obtain rfl:=Option.some.inj g;rfl
theorem zW(d:Option Addr)(f:Nat)(b:List UInt8)(a:Nat)(l:aO F w (.slice d b.length f) b)(hF:∀q,F q -> q<w.heap.size)(s:a <= b.length):
 Calls aE 217 #[.slice d b.length f,.int .i64 (a:Int),.func (.func 218) #[] #[]] w fun e i=>e=.returned (jV b a) /\ Below w.heap.size w i:=by
 unfold jV;refine(qL (.inr (.inl rfl)) (fun _ _=>by go_simp) w F d f b a l hF ((rdT (b.drop a)).map fun p=>b.length-p.2.length) (fun v _=>∃p,rdT (b.drop a)=some p /\ v=.string ⟨p.1.toArray⟩) (fun v _ ⟨p,_,h⟩=>⟨_,h⟩) (fun _ _ _ h _=>h) fun t o m _=>(sZ t _ F d f b a o m (fun q g e=>by have:=hF q g;omega) s).mono ?_).mono ?_
 ·rintro e i ⟨h,n⟩;refine⟨?_,n⟩;cases c:rdT (b.drop a) with
  |none=>rw[c] at h;exact h
  |some p=>
   rw[c] at h;obtain⟨rfl,k,u,j⟩:=h;obtain rfl:k=b.length-p.2.length:=by omega
   exact⟨_,rfl,⟨p,rfl,rfl⟩,j⟩
 ·rintro e i ⟨r,h⟩;refine⟨?_,r⟩;cases c:rdT (b.drop a) with
  |none=>rw[c] at h;exact h
  |some p=>
   rw[c] at h;obtain⟨v,rfl,q,g,rfl⟩:=h;obtain rfl:=Option.some.inj g;rfl
theorem vG(k:Nat):∃x y z,iZ b k=.tuple #[x,y,z]:=by
 unfold iZ io;split
 ·exact⟨_,_,_,rfl⟩
 ·exact⟨_,_,_,rfl⟩
theorem vH(k:Nat):∃x y z,jV b k=.tuple #[x,y,z]:=by
 unfold jV qK;split
 ·exact⟨_,_,_,rfl⟩
 ·exact⟨_,_,_,rfl⟩
theorem vI(d:Option Addr)(f:Nat)(b:List UInt8)(a:Nat)(h:aO F w (.slice d b.length f) b)(hF:∀q,F q -> q<w.heap.size)(j:a <= b.length):
 Calls aE 99 #[.slice d b.length f,.int .i64 (a:Int)] w fun e w'=>e=.returned (iZ b a) /\ Below w.heap.size w w':=by
 have c:=ae (zV w F d f b a h hF j);obtain⟨x,y,z,g⟩:=vG b a;rw[g] at c;rw[g];clear g h hF
 go_enter func99,ntmps99
 go_wp2_with fail;refine c.out.mono ?_;rintro e k ⟨rfl,i⟩;clear c;go_wp2_with fail
 go_ret3
 exact⟨rfl,i⟩
theorem Bn(d:Option Addr)(f:Nat)(b:List UInt8)(a:Nat)(h:aO F w (.slice d b.length f) b)(hF:∀q,F q -> q<w.heap.size)(j:a <= b.length):
 Calls aE 200 #[.slice d b.length f,.int .i64 (a:Int)] w fun e w'=>e=.returned (jV b a) /\ Below w.heap.size w w':=by
 have c:=ae (zW w F d f b a h hF j);obtain⟨x,y,z,g⟩:=vH b a;rw[g] at c;rw[g];clear g h hF
 go_enter func200,ntmps200
 go_wp2_with fail;refine c.out.mono ?_;rintro e k ⟨rfl,i⟩;clear c;go_wp2_with fail
 go_ret3
 exact⟨rfl,i⟩
end
section
attribute [local go_sem ↓] aV
theorem eC(X:n<18446744073709551616):
 Calls aE 120 #[.int .u64 (n:Int)] w fun e h=>(∃r,e=.returned r /\ h.ownsRow w.heap.size 5 1 r (cj n).length ((cj n).map B)) /\ Below w.heap.size w h:=by
 go_enter func120,ntmps120
 go_wp2_with fail
 go_loopg [0,3] n (fun k R S wr=>∃(m:Nat)(a:List UInt8),R=.int .u64 (m:Int) /\ m <= n /\ m <= k /\ wr.ownsRow w.heap.size 5 1 S a.length (a.map B) /\ a.length <= 10 /\ a++cj m=cj n /\ Below w.heap.size w wr)
 case atStart=>exact⟨n,[],rfl,aq _,aq _,World.ownsRow_nil _ _ _ _,by simp,rfl,Below.refl _ _⟩
 case round=>
  obtain⟨m,a,rfl,W,V,u,Y,I,F⟩:=hrel;have ab:=cF n;obtain⟨L,M,rfl⟩:=aK u;obtain⟨N,s⟩:=aH a.length;have t:Apt wr w.heap.size (.slice L N M) a:=.inl (by rw[s] at u⊢;exact u);rw[s];have l:=ae s;clear s u;have z:=ae I;have o:=ae F;clear I F
  by_cases U:128 <= m
  ·have O:(128:Int) <= (m:Int):=by omega
   obtain⟨v,P⟩:=aQ (m%128);obtain⟨c,G⟩:=aQ (m%128+128);obtain⟨q,H⟩:=aQ (m/128);have Z:(m:Int)%128=(v:Int):=by omega
   have Q:IntKind.u8.wrap (v:Int)=(v:Int):=ap _ (by omega);have ad:IntKind.u8.wrap ((v:Int)+128)=(c:Int):=by rw[ap _ (by omega)];omega
   have aa:(m:Int)/128=(q:Int):=by omega
   have j:(UInt8.ofNat c).toNat=c:=by
    rw[UInt8.toNat_ofNat'];omega
   obtain⟨T,h,g,f,i⟩:=jT wr w.heap.size _ _ t (UInt8.ofNat c) (by rw[l.out,<- l.out];omega) o.out.size;unfold B at g;rw[j] at g;obtain⟨C,D,rfl⟩:=aK f;obtain⟨A,b⟩:=aH ((a++[UInt8.ofNat c]).length);rw[b] at g;have y:=ae (show h.ownsRow w.heap.size 5 1 (.slice C A D) (a++[UInt8.ofNat c]).length ((a++[UInt8.ofNat c]).map B) by rw[<- b];exact f);have x:=ae i;have J:=ae b;have K:=ae G;have p:=ae H;clear f b i G H j t P;go_wp2_with fail
   go_roundg q
   case measure=>have:=p.out;omega
   case rel=>
    refine⟨q,a++[UInt8.ofNat c],rfl,by have:=p.out;omega,aq _,y.out,?_,?_,o.out.trans x.out⟩
    ·have d:=congrArg List.length z.out;have E:=ib q;rw[kH m (by omega) (by omega),<- p.out] at d;simp at d⊢;omega
    ·have d:=z.out;rw[kH m (by omega) (by omega),<- p.out,<- K.out] at d;simpa[aB] using d
  ·have O:¬(128:Int) <= (m:Int):=by omega
   have Q:IntKind.u8.wrap (m:Int)=(m:Int):=ap _ (by omega)
   have j:(UInt8.ofNat m).toNat=m:=by
    rw[UInt8.toNat_ofNat'];omega
   obtain⟨T,h,g,f,i⟩:=jT wr w.heap.size _ _ t (UInt8.ofNat m) (by rw[l.out,<- l.out];omega) o.out.size;unfold B at g;rw[j] at g;obtain⟨C,D,rfl⟩:=aK f;obtain⟨A,b⟩:=aH ((a++[UInt8.ofNat m]).length);rw[b] at g;have y:=ae (show h.ownsRow w.heap.size 5 1 (.slice C A D) (a++[UInt8.ofNat m]).length ((a++[UInt8.ofNat m]).map B) by rw[<- b];exact f);have x:=ae i;have J:=ae b;clear f b i j t;go_wp2_with fail
   go_ret
   refine⟨⟨_,rfl,?_⟩,o.out.trans x.out⟩;have d:=z.out;rw[mU m (by omega)] at d;have E:=y.out;rw[d] at E;exact E
theorem pK(k:bR)(v:k.length <= 1000000000000):
 Calls aE 212 #[.string ⟨k.toArray⟩] w fun e b=>(∃r,e=.returned r /\ b.ownsRow w.heap.size 5 1 r (bD k).length ((bD k).map B)) /\ Below w.heap.size w b:=by
 have f:=ae (eC w k.length (by omega));have x:IntKind.u64.wrap (k.length:Int)=(k.length:Int):=IntWalk.u64_in _ (by omega);obtain⟨a,d⟩:=aH k.length;have g:=ae d;have j:(ByteArray.mk k.toArray).size=a:=by rw[<- d];rfl
 rw[d] at f x v;clear d
 go_enter func212,ntmps212
 go_wp2_with fail;refine f.out.mono ?_;rintro e p ⟨⟨n,rfl,i⟩,c⟩;obtain⟨C,hi,y,z,A⟩:=info_parts j9;have E:=cF a;obtain⟨o,b,m,h,l,-⟩:=Lib.run_append_own_string (P:=aE) p w.heap.size 41 9 41 5 C underlying41 underlying9 hi y z A n _ _ i ⟨k.toArray⟩ (by rw[j];unfold maxLen;omega) (by rw[j];omega) c.size;have D:(AP #[41,9] 41 #[n,.string ⟨k.toArray⟩]).run aE p=.ok o b:=m
 have s:=ae (show b.ownsRow w.heap.size 5 1 o (bD k).length ((bD k).map B) by
  rw[mK,j] at h;have t:(bD k).length=(cj a).length+a:=by unfold bD;rw[g.out];simp[g.out]
  have u:(bD k).map B=(cj a).map B++k.map B:=by unfold bD;rw[g.out];simp
  rw[t,u]
  exact h)
 have q:=ae (c.trans (Below.grownOwn i l c.size (aq _)));clear m h l f i c;go_wp2_with fail
 go_ret
 exact⟨⟨_,rfl,s.out⟩,q.out⟩
def Out(w wr:World)(a:Nat)(s:Value)(l:List UInt8):Prop:=wr.ownsRow a 5 1 s l.length (l.map B) /\ Below a w wr /\ a <= wr.heap.size
theorem Out.app{w wr f:World}{s r:Value}{l x:List UInt8}(h:Out w wr i s l)(d:Below wr.heap.size wr f)(A:f.ownsRow wr.heap.size 5 1 r x.length (x.map B))(F:l.length <= 1000000000)(G:x.length <= 1000000000):
 ∃a n c k,(AP #[41,41] 41 #[s,r]).run aE f=.ok (.slice a n c) k /\ Out w k i (.slice a n c) (l++x) /\ ∀b L t,Blk wr b L t -> t≠5 -> Blk k b L t:=by
 obtain⟨y,z,g⟩:=h;have j:f.ownsRow i 5 1 s l.length (l.map B):=bm y d;obtain⟨H,v,D,u,p⟩:=cY f i s l j (fun _=>True) r x (aO.of_owns A _ fun _ _ _=>trivial) (by omega) (au g d.size);obtain⟨a,c,rfl⟩:=aK u;have m:Below i f v:=(Below.refl _ _).grown p (au g d.size) (fun q C=>(j.lt q C).1);exact⟨a,_,c,v,D,⟨u,(z.trans (d.mono g)).trans m,au (au g d.size) m.size⟩,fun b L t o E=>(o.keep (d.block _ o.lt)).grownNe j (fun e=>E e.symm) p⟩
theorem Out.alloc{w wr:World}{a:Nat}{s:Value}{l:List UInt8}(h:Out w wr a s l)(o:Obj):Out w (wr.alloc o) a s l:=
 ⟨bm h.1 (aI _ _),h.2.1.alloc h.2.2 _,au h.2.2 (by simp)⟩
theorem kM{w b c:World}(e:Below i w b)(f:Below i w c){a:Addr}(d:a.block<i)(h:b.cell? a=some u):c.cell? a=some u:=by
 have g:c.heap[a.block]?=b.heap[a.block]?:=(f.block _ d).trans (e.block _ d).symm;unfold World.cell? at *;rw[g];exact h
theorem pL(h:dl F w v m)(hC:mn m):
 Calls aE 177 #[v] w fun e A=>(∃r,e=.returned r /\ aO (fun _=>True) A r (dS m)) /\ Below w.heap.size w A:=by
 replace h:=h.mono (G:=fun b=>b<w.heap.size) fun b _ bl=>bl
 have HC:=ae hC
 replace h:=j8 h 75
 obtain⟨a1,p1,a2,p2,a3,p3,n1,H,I,Q,rfl,h,l1,l2,l3,a4,aT,aV,bA,bt,bB,Hx,bv,c0,c1,c2⟩:=h
 try rw[a4.out]
 try rw[aT.out]
 try rw[aV.out]
 clear h hC
 have HM:=ae (show ∀A a7,Below a7 Q A -> a7=w.heap.size+1 -> (A.cell? ⟨w.heap.size,0,none⟩=some (.slice a1 n1 p1) /\ A.cell? ⟨w.heap.size,1,none⟩=some (.slice a2 H p2) /\ A.cell? ⟨w.heap.size,2,none⟩=some (.slice a3 I p3)) /\ cG (fun b=>b<w.heap.size) A (.slice a1 n1 p1) (.slice a2 H p2) (.slice a3 I p3) m from fun A a7 hb bN=>by
  have Z:=bv.out.keep (hb.block _ (by omega));have k0:=Z.cell 0;have k1:=Z.cell 1;have k2:=Z.cell 2;simp at k0 k1 k2
  exact⟨⟨k0,k1,k2⟩,Hx.out.keep fun b bM bl=>hb.block b (by omega)⟩)
 have R:=ae (show(dS m).length <= 1000000000 from HC.out.len)
 have bo:Out Q Q (w.heap.size+1) (.slice none 0 0) []:=⟨World.ownsRow_nil _ _ _ _,Below.refl _ _,by rw[bB.out];exact aq _⟩
 have bf:=ae bo;clear bo c0 c1 c2
 go_enter func177,ntmps177
 go_wp2_with fail;rw[<- bA.out]
 go_loopw [3,4] (fun s i wr=>∃k:Nat,k <= n1 /\ i=.int .i64 (k:Int) /\ Out Q wr (w.heap.size+1) s ((m.seen.take k).flatMap fun n=>cj n.toNat)) (fun _ i _=>n1-(intOf i).toNat)
 case atStart=>exact⟨0,by omega,rfl,bf.out⟩
 case round=>
  obtain⟨k,Z,rfl,g⟩:=hrel;obtain⟨⟨d0,d1,d2⟩,K⟩:=HM.out wr _ g.2.1 rfl;obtain⟨ar,cr,L⟩:=aK g.1;obtain⟨o,C⟩:=aH ((m.seen.take k).flatMap fun n=>cj n.toNat);obtain⟨N0,X⟩:=aH o.length;rw[C] at g L;rw[X] at L;subst L
  have M:o.length <= 1000000000:=by
   rw[<- C];have h1:=lh (fun n:Int=>cj n.toNat) m.seen k;have h2:=vg m;have h3:=R.out;unfold mJ at h2;rw[aA] at h2;omega
  have P:=ae M;have S:=ae C;have B:=ae g;clear M C X g
  by_cases ag:k<n1
  ·have aa:(k:Int)<(n1:Int):=by omega
   have J:k<m.seen.length:=by rw[a4.out];exact ag
   obtain⟨b,br,rfl,-,-,Y⟩:=ie K.seen (by omega);have W:=Y k J;obtain⟨x,D⟩:=aH m.seen[k];rw[D] at W;have E:=HC.out.seen x (by rw[<- D];exact aC J);obtain⟨q,rfl⟩:=Int.eq_ofNat_of_zero_le E.1;have hw:IntKind.u64.wrap (q:Int)=(q:Int):=IntWalk.u64_in _ (by omega);have T:=ae (eC wr q (by omega));have Hx:=ae D;clear Y D K;go_wp2_with fail;refine T.out.mono ?_;rintro e w7 ⟨⟨r7,rfl,c⟩,p⟩;obtain⟨b7,m7,c7,O,aW,u,t⟩:=B.out.app p c (by have:=P.out;omega) (by have:=cF q;omega);obtain⟨x7,y7,y⟩:=aK c;obtain⟨z7,z⟩:=aH ((cj q).length);rw[z] at y;subst y;have l:=ae u;have V:=ae t;clear u c p t z T;go_wp2_with fail
   go_roundw
   case rel=>exact⟨k+1,by omega,by go_num,by
    rw[mh _ _ _ J,Hx.out,S.out]
    exact l.out⟩
   case measure=>simp[intOf];omega
  ·have aa:¬(k:Int)<(n1:Int):=by omega
   have ab:k=m.seen.length:=by rw[a4.out];omega
   have al:=ae (show o=m.seen.flatMap fun n=>cj n.toNat by rw[<- S.out,ab,List.take_length]);have hw:IntKind.u64.wrap (H:Int)=(H:Int):=IntWalk.u64_in _ (by omega);have T:=ae (eC wr H (by omega));clear S K;go_wp2_with fail;refine T.out.mono ?_;rintro e w7 ⟨⟨r7,rfl,c⟩,p⟩;obtain⟨b7,m7,c7,O,aW,u,t⟩:=B.out.app p c (by have:=P.out;omega) (by have:=cF H;omega);obtain⟨x7,y7,y⟩:=aK c;obtain⟨z7,z⟩:=aH ((cj H).length);rw[z] at y;subst y;have l:=ae u;have V:=ae t;clear u c p t z T
   have bg:=ae (show Out Q O (w.heap.size+1) (.slice b7 m7 c7) (fV m 0) by
    rw[mX];unfold mJ;rw[aT.out,<- al.out]
    exact l.out)
   obtain⟨⟨bC,bE,bF⟩,-⟩:=HM.out O _ l.out.2.1 rfl;clear l al P B ab aa ag Z bf d0 d1 d2;go_wp2_with fail
   go_loopw [3,5] (fun s i wr=>∃k:Nat,k <= H /\ i=.int .i64 (k:Int) /\ Out Q wr (w.heap.size+1) s (fV m k)) (fun _ i _=>H-(intOf i).toNat)
   case atStart=>exact⟨0,by omega,rfl,bg.out⟩
   case round=>
    obtain⟨k,Z,rfl,g⟩:=hrel;obtain⟨⟨d0,d1,d2⟩,K⟩:=HM.out _ _ g.2.1 rfl;obtain⟨ar,cr,L⟩:=aK g.1;have M:(fV m k).length <= 1000000000:=au (jp m k) R.out;have f:=qz m k;obtain⟨o,C⟩:=aH (fV m k);obtain⟨N0,X⟩:=aH o.length;rw[C] at g L M f;rw[X] at L;subst L;have P:=ae M;have B:=ae g;have S:=ae C;clear M X g C
    by_cases ag:k<H
    ·have aa:(k:Int)<(H:Int):=by omega
     have J:k<m.items.length:=by rw[aT.out];exact ag
     obtain⟨b,br,rfl,-,-,Y⟩:=fB K.items (by omega);obtain⟨W,e1,e2,e3⟩:=Y k J
     replace f:=f J
     obtain⟨x,D⟩:=aH m.items[k];rw[D] at W e1 e2 e3 f;have E:=HC.out.items x (by rw[<- D];exact aC J);obtain⟨a,aJ⟩:=Int.eq_ofNat_of_zero_le E.2.1.1;obtain⟨d,aL⟩:=Int.eq_ofNat_of_zero_le E.2.2.1.1;obtain⟨N,bn⟩:=Int.eq_ofNat_of_zero_le E.2.2.2.1;have ad:=E.1;have g1:a <= 9223372036854775807:=by omega
     have g2:d <= 9223372036854775807:=by omega
     have g3:N <= 9223372036854775807:=by omega
     obtain⟨j,xd,xs,xv⟩:=x;dsimp only at aJ aL bn W e1 e2 e3 f ad;subst aJ aL bn;have u1:IntKind.u64.wrap (a:Int)=(a:Int):=IntWalk.u64_in _ (by omega);have u2:IntKind.u64.wrap (d:Int)=(d:Int):=IntWalk.u64_in _ (by omega);have u3:IntKind.u64.wrap (N:Int)=(N:Int):=IntWalk.u64_in _ (by omega);have U:=ae (show fV m (k+1)=(((o++bD j)++cj a)++cj d)++cj N by rw[f];simp);have bx:=ae (B.out.alloc (.cells #[.string ⟨j.toArray⟩,.int .i64 a,.int .i64 d,.int .i64 N] 129));have bi:=Blk.new wr #[.string ⟨j.toArray⟩,.int .i64 a,.int .i64 d,.int .i64 N] 129;have be:=ae bi;have HT:=ae (pK (wr.alloc (.cells #[.string ⟨j.toArray⟩,.int .i64 a,.int .i64 d,.int .i64 N] 129)) j (by omega));have aM:=gj j ad;have a6:=ae aM;have Hg:=ae (And.intro g1 (And.intro g2 g3));clear Y D K E f bi aM ad g1 g2 g3;go_wp2_with fail;refine HT.out.mono ?_;rintro e w7 ⟨⟨r7,rfl,c⟩,p⟩;obtain⟨b7,m7,c7,O,aW,u,t⟩:=bx.out.app p c (by have:=P.out;omega) (by have:=a6.out;omega);obtain⟨x7,y7,y⟩:=aK c;obtain⟨z7,z⟩:=aH ((bD j).length);rw[z] at y;subst y;have l:=ae u;have V:=ae t;clear u c p t z HT;have a8:=V.out _ _ _ be.out (by decide);have p1:=a8.cell 1;simp at p1;have aY:=ae (show(o++bD j).length <= 1000000000 from au (by rw[U.out];simp) (au (jp m (k+1)) R.out));have an:=ae (eC O a (by have:=Hg.out;omega));have bc:=ae a8;clear a8 V be;go_wp2_with fail;refine an.out.mono ?_;rintro e w8 ⟨⟨r8,rfl,ai⟩,ax⟩;obtain⟨b8,m8,c8,v8,bG,aG,az⟩:=l.out.app ax ai (by have:=aY.out;omega) (by have:=cF a;omega);obtain⟨x8,y8,aN⟩:=aK ai;obtain⟨z8,aQ⟩:=aH ((cj a).length);rw[aQ] at aN;subst aN;have av:=ae aG;have aS:=ae az;clear aG ai ax az aQ an;have a9:=aS.out _ _ _ bc.out (by decide);have p2:=a9.cell 2;simp at p2;have aZ:=ae (show((o++bD j)++cj a).length <= 1000000000 from au (by rw[U.out];simp) (au (jp m (k+1)) R.out));have ao:=ae (eC v8 d (by have:=Hg.out;omega));have bd:=ae a9;clear a9 aS bc p1;go_wp2_with fail;refine ao.out.mono ?_;rintro e w9 ⟨⟨r9,rfl,ak⟩,ay⟩;obtain⟨b9,m9,c9,v9,bH,aI,aF⟩:=av.out.app ay ak (by have:=aZ.out;omega) (by have:=cF d;omega);obtain⟨x9,y9,aP⟩:=aK ak;obtain⟨z9,aR⟩:=aH ((cj d).length);rw[aR] at aP;subst aP;have a5:=ae aI;have a0:=ae aF;clear aI ak ay aF aR ao;have bh:=a0.out _ _ _ bd.out (by decide);have p3:=bh.cell 3;simp at p3;have bs:=ae (show(((o++bD j)++cj a)++cj d).length <= 1000000000 from au (by rw[U.out];simp) (au (jp m (k+1)) R.out));have bb:=ae (eC v9 N (by have:=Hg.out;omega));clear bh a0 bd p2;go_wp2_with fail;refine bb.out.mono ?_;rintro e bS ⟨⟨bQ,rfl,ba⟩,bj⟩;obtain⟨bJ,bP,bK,bR,bO,bm,bk⟩:=a5.out.app bj ba (by have:=bs.out;omega) (by have:=cF N;omega);obtain⟨bT,bU,bp⟩:=aK ba;obtain⟨bV,bq⟩:=aH ((cj N).length);rw[bq] at bp;subst bp;have bw:=ae bm;have bI:=ae bk;clear bm ba bj bk bq bb;go_wp2_with fail
     go_roundw
     case rel=>exact⟨k+1,by omega,by go_num,by rw[U.out];exact bw.out⟩
     case measure=>simp[intOf];omega
    ·have aa:¬(k:Int)<(H:Int):=by omega
     have ab:k=m.items.length:=by rw[aT.out];omega
     have al:=ae (show o=fV m m.items.length by rw[<- S.out,ab]);have hw:IntKind.u64.wrap (I:Int)=(I:Int):=IntWalk.u64_in _ (by omega);have T:=ae (eC wr I (by omega));clear S K f;go_wp2_with fail;refine T.out.mono ?_;rintro e w7 ⟨⟨r7,rfl,c⟩,p⟩;obtain⟨b7,m7,c7,O,aW,u,t⟩:=B.out.app p c (by have:=P.out;omega) (by have:=cF I;omega);obtain⟨x7,y7,y⟩:=aK c;obtain⟨z7,z⟩:=aH ((cj I).length);rw[z] at y;subst y;have l:=ae u;have V:=ae t;clear u c p t z T
     have bz:=ae (show Out Q O (w.heap.size+1) (.slice b7 m7 c7) (gS m 0) by
      rw[qy,aV.out,<- al.out]
      exact l.out)
     obtain⟨⟨bC,bE,bF⟩,-⟩:=HM.out O _ l.out.2.1 rfl;clear l al P B ab aa ag Z bg d0 d1 d2 V;go_wp2_with fail
     go_loopw [3,7] (fun s i wr=>∃k:Nat,k <= I /\ i=.int .i64 (k:Int) /\ Out Q wr (w.heap.size+1) s (gS m k)) (fun _ i _=>I-(intOf i).toNat)
     case atStart=>exact⟨0,by omega,rfl,bz.out⟩
     case round=>
      obtain⟨k,Z,rfl,g⟩:=hrel;obtain⟨⟨d0,d1,d2⟩,K⟩:=HM.out _ _ g.2.1 rfl;obtain⟨ar,cr,L⟩:=aK g.1;have M:(gS m k).length <= 1000000000:=au (nS m k) R.out;have f:=qA m k;obtain⟨o,C⟩:=aH (gS m k);obtain⟨N0,X⟩:=aH o.length;rw[C] at g L M f;rw[X] at L;subst L;have P:=ae M;have B:=ae g;have S:=ae C;clear M X g C
      by_cases ag:k<I
      ·have aa:(k:Int)<(I:Int):=by omega
       have J:k<m.gone.length:=by rw[aV.out];exact ag
       obtain⟨b,br,rfl,bL,-,Y⟩:=gn K.gone (by omega);obtain⟨W,e1,e2⟩:=Y k J
       replace f:=f J
       obtain⟨x,D⟩:=aH m.gone[k];rw[D] at W e1 e2 f;have E:=HC.out.gone x (by rw[<- D];exact aC J);obtain⟨a,aJ⟩:=Int.eq_ofNat_of_zero_le E.2.1.1;obtain⟨d,aL⟩:=Int.eq_ofNat_of_zero_le E.2.2.1;have ad:=E.1;have g1:a <= 9223372036854775807:=by omega
       have g2:d <= 9223372036854775807:=by omega
       obtain⟨j,xd,xs⟩:=x;dsimp only at aJ aL W e1 e2 f ad;subst aJ aL;have u1:IntKind.u64.wrap (a:Int)=(a:Int):=IntWalk.u64_in _ (by omega);have u2:IntKind.u64.wrap (d:Int)=(d:Int):=IntWalk.u64_in _ (by omega);have U:=ae (show gS m (k+1)=((o++bD j)++cj a)++cj d by rw[f];simp);have HG:=ae (show ∀A,Below (w.heap.size+1) Q A -> A.cell? _=_ /\ A.cell? _=_ from fun A hb=>⟨kM B.out.2.1 hb (by show b<_;omega) e1,kM B.out.2.1 hb (by show b<_;omega) e2⟩);have HT:=ae (pK wr j (by omega));have aM:=gj j ad;have a6:=ae aM;have Hg:=ae (And.intro g1 g2);clear Y D K E f aM ad g1 g2 e1 e2;go_wp2_with fail;refine HT.out.mono ?_;rintro e w7 ⟨⟨r7,rfl,c⟩,p⟩;obtain⟨b7,m7,c7,O,aW,u,t⟩:=B.out.app p c (by have:=P.out;omega) (by have:=a6.out;omega);obtain⟨x7,y7,y⟩:=aK c;obtain⟨z7,z⟩:=aH ((bD j).length);rw[z] at y;subst y;have l:=ae u;have V:=ae t;clear u c p t z HT;obtain⟨p1,-⟩:=HG.out _ l.out.2.1;obtain⟨⟨t0,t1,t2⟩,-⟩:=HM.out _ _ l.out.2.1 rfl;have aY:=ae (show(o++bD j).length <= 1000000000 from au (by rw[U.out];simp) (au (nS m (k+1)) R.out));have an:=ae (eC O a (by have:=Hg.out;omega));clear V W d0 d1 d2;go_wp2_with fail;refine an.out.mono ?_;rintro e w8 ⟨⟨r8,rfl,ai⟩,ax⟩;obtain⟨b8,m8,c8,v8,bG,aG,az⟩:=l.out.app ax ai (by have:=aY.out;omega) (by have:=cF a;omega);obtain⟨x8,y8,aN⟩:=aK ai;obtain⟨z8,aQ⟩:=aH ((cj a).length);rw[aQ] at aN;subst aN;have av:=ae aG;have aS:=ae az;clear aG ai ax az aQ an;obtain⟨-,p2⟩:=HG.out _ av.out.2.1;obtain⟨⟨f0,f1,f2⟩,-⟩:=HM.out _ _ av.out.2.1 rfl;have aZ:=ae (show((o++bD j)++cj a).length <= 1000000000 from au (by rw[U.out];simp) (au (nS m (k+1)) R.out));have ao:=ae (eC v8 d (by have:=Hg.out;omega));clear aS p1 t0 t1 t2;go_wp2_with fail;refine ao.out.mono ?_;rintro e w9 ⟨⟨r9,rfl,ak⟩,ay⟩;obtain⟨b9,m9,c9,v9,bH,aI,aF⟩:=av.out.app ay ak (by have:=aZ.out;omega) (by have:=cF d;omega);obtain⟨x9,y9,aP⟩:=aK ak;obtain⟨z9,aR⟩:=aH ((cj d).length);rw[aR] at aP;subst aP;have a5:=ae aI;have a0:=ae aF;clear aI ak ay aF aR ao;go_wp2_with fail
       go_roundw
       case rel=>exact⟨k+1,by omega,by go_num,by rw[U.out];exact a5.out⟩
       case measure=>simp[intOf];omega
      ·have aa:¬(k:Int)<(I:Int):=by omega
       have ab:k=m.gone.length:=by rw[aV.out];omega
       have bu:=ae (show(∃r,Ending.returned (.slice ar N0 cr)=.returned r /\ aO (fun _=>True) wr r (dS m)) /\ Below w.heap.size w wr by
        refine⟨⟨_,rfl,?_⟩,bt.out.trans (B.out.2.1.mono (by omega))⟩;rw[<- sT,<- ab,S.out]
        exact aO.of_owns B.out.1 _ fun _ _ _=>trivial)
       clear f K;go_wp2_with fail
       go_ret
       exact bu.out
end
end Go.Proofs.YtobjdpngnfbicaaGreatDoor
