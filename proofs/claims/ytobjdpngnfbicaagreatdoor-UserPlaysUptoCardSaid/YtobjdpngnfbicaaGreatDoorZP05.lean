/-
  RClone Range RSort ShelfD REv DecayAft RUse
-/
import Derived.RangeFuncNested
import Derived.RangeFuncBound
import Derived.Sort.OwnSorted
import Derived.Test.YtobjdpngnfbicaaGreatDoorZP04
open Go.IntWalk renaming i64_in->af
open Nat renaming le_refl->aq,le_trans->au
open List renaming length_append->aA,append_assoc->aB,getElem_mem->aC,length_cons->aD
open Go.Proofs.Tryz renaming prog->aE
set_option maxHeartbeats 16000000
set_option maxRecDepth 100000
set_option linter.all false
namespace Go.Proofs.YtobjdpngnfbicaaGreatDoor
open Go.RowKit
open Go.Proofs.Tryz
variable(w:World)(F:aQ)(n k:Nat)(v:Value)(m:aT){W w':World}{G:aQ}{u:Value}{i j o:Nat}{L:List Value}{r:aT}{t:TypeId}{y:List bQ}
section
attribute [local go_sem ↓] aU
theorem ma{b d K g:Nat}{z:Value}(r:(aE.info? b).map (λi=>(i.zero,i.size,i.bytes))=some (some z,K,g))(C:aE.underlying d=some (.slice b))(D:z.cells.size=K)(x:0<K)(t:g <= 40){w:World}{B n:Nat}{a:Option Addr}{c:Nat}(h:w.ownsRow B b K (.slice a n c) n L){f:Option Addr}{X:List Value}(s:Rows G w K (.slice f j o) j X)(q:∀u∈X,u.oneCell'=true)(y:n+j <= 4000000)(l:B <= w.heap.size):
 ∃e k w',(AP #[d,d] d #[.slice a n c,.slice f j o]).run aE w=.ok (.slice e (n+j) k) w' /\ w'.ownsRow B b K (.slice e (n+j) k) (n+j) (L++X) /\ Below B w w':=by
 obtain⟨O,E,H,I,J⟩:=info_parts r;obtain⟨Q,R,A,p,v⟩:=en (P:=aE) w B d b C E H I J D x (.slice a n c) n _ h G _ j _ s q (by unfold maxLen;omega) (by have:=Nat.mul_le_mul y t;omega) l;obtain⟨M,N,rfl⟩:=aJ p;exact⟨_,_,_,A,p,Below.grownOwn h v l (aq _)⟩
theorem lD{f d g K o:Nat}{z:Value}(D:(f,d,g)=(54,3,33) \/ (f,d,g)=(55,108,34) \/ (f,d,g)=(56,111,35) \/ (f,d,g)=(163,9,32))(x:(aE.info? d).map (λi=>(i.zero,i.size,i.bytes))=some (some z,K,o))(k:aE.underlying g=some (.slice d))(J:z.cells.size=K)(G:0<K)(C:o <= 40)(w:World)(F:aQ)(v:Value)(n:Nat)(X:List Value)(p:Rows F w K v n X)(R:n <= 1000000)(t:∀u∈X,u.oneCell'=true):
 Calls aE f #[v] w λe l=>∃r,e=.returned r /\ l.ownsRow w.heap.size d K r n X /\ Kpt w l:=by
 have y:Rows F (w.alloc (.cells #[] d)) K v n X:=p.keep λb _ A=>Below.heap_alloc _ _ _ A
 obtain⟨a,s,rfl,Q,S,M⟩:=p.shape;obtain⟨N,O,l,I,j,E⟩:=ma x k J G C (w:=w.alloc (.cells #[] d)) (B:=w.heap.size) (n:=0) (a:=some ⟨w.heap.size,0,none⟩) (c:=0) (L:=[]) ⟨by simp,.inr ⟨w.heap.size,0,#[],rfl,aq _,by unfold World.alloc;simp,aq _,by unfold maxLen;omega,by simp,by simp⟩⟩ y t (by omega) (by simp);rw[Nat.zero_add] at j I;rw[List.nil_append] at j;have m:=j;rcases D with h|h|h|h<;>cases h
 all_goals
  cases a with
  |none=>
   obtain rfl:=M rfl;obtain rfl:n=0:=by omega
   obtain rfl:X = []:=List.length_eq_zero_iff.1 (by rw[m.1,Nat.zero_mul]);have H:=λ(W:World)=>Lib.run_eql_slice_nil (P:=aE) W _ _ none 0 0 0 0 k
   first|go_enter func54,ntmps54|go_enter func55,ntmps55|go_enter func56,ntmps56|go_enter func163,ntmps163
   go_wp2
   go_ret
   exact⟨_,rfl,World.ownsRow_nil _ _ _ _,Below.refl _ _⟩
  |some q=>
   have H:=λ(W:World)=>Lib.run_eql_slice_nil (P:=aE) W _ _ (some q) n s 0 0 k
   first|go_enter func54,ntmps54|go_enter func55,ntmps55|go_enter func56,ntmps56|go_enter func163,ntmps163
   go_wp2
   go_ret
   exact⟨_,rfl,m,(aI _ _).trans E⟩
def vv{α:Type}(b c K:Nat)(f:List α -> List Value):Prop:=∀(w:World)(F:aQ)(v:Value)(l:List α),Rows F w K v l.length (f l) -> l.length <= 1000000 ->
 Calls aE b #[v] w λe a=>∃r,e=.returned r /\ a.ownsRow w.heap.size c K r l.length (f l) /\ Kpt w a
theorem rR:vv 54 3 1 (λl=>l.map eI):=λw F v l b a=>lD (.inl rfl) ua underlying33 rfl (by decide) (by decide) w F v _ _ b a (ze l)
theorem qr:vv 55 108 4 (λl=>l.flatMap bT):=λw F v l b a=>lD (.inr (.inl rfl)) mH underlying34 rfl (by decide) (by decide) w F v _ _ b a (mA l)
theorem qt:vv 56 111 3 (λl=>l.flatMap du):=λw F v l b a=>lD (.inr (.inr (.inl rfl))) mI underlying35 rfl (by decide) (by decide) w F v _ _ b a (mB l)
structure dU(w:World)(base:Nat)(s1 s2 s3:Value)(m:aT):Prop where
 seen:w.ownsRow base 3 1 s1 m.seen.length (m.seen.map eI)
 items:w.ownsRow base 108 4 s2 m.items.length (m.items.flatMap bT)
 gone:w.ownsRow base 111 3 s3 m.gone.length (m.gone.flatMap du)
structure Bnd(m:aT):Prop where
 seenB:∀n∈m.seen,dk n
 itemsB:∀x∈m.items,x.key.length <= 9223372036854775807 /\ dk x.dev /\ dk x.seq /\ dk x.val
 goneB:∀x∈m.gone,x.key.length <= 9223372036854775807 /\ dk x.dev /\ dk x.seq
theorem ce.bnd{a b c:Value}(h:ce G W a b c r):Bnd r:=⟨h.seenB,h.itemsB,h.goneB⟩
theorem dU.map{c d e:Value}(h:dU W i c d e r)(a:Bnd r):ce (λb=>i <= b) W c d e r:=
 ⟨(Rows.of_owns h.seen).mono (λb h _=>h.1),(Rows.of_owns h.items).mono (λb h _=>h.1),(Rows.of_owns h.gone).mono (λb h _=>h.1),a.seenB,a.itemsB,a.goneB⟩
theorem dU.below{b c d:Value}(h:dU W i b c d r)(a:Kpt W w'):dU w' i b c d r:=
 ⟨br h.seen a,br h.items a,br h.gone a⟩
theorem dU.mono{b c d:Value}(h:dU W i b c d r)(a:j <= i):dU W j b c d r:=
 ⟨bJ h.seen a,bJ h.items a,bJ h.gone a⟩
def pW(w:World)(d:Nat)(v:Value)(m:aT):Prop:=∃a b c,v=.agg #[a,b,c] /\ dU w d a b c m
theorem pW.map{w:World}{a:Nat}{v:Value}{m:aT}(h:pW w a v m)(c:Bnd m):di (λb=>a <= b) w v m:=by
 obtain⟨d,e,f,rfl,h⟩:=h;exact⟨d,e,f,rfl,h.map c⟩
theorem pW.below{w w':World}{a:Nat}{v:Value}{m:aT}(h:pW w a v m)(b:Kpt w w'):pW w' a v m:=by
 obtain⟨c,d,e,rfl,h⟩:=h;exact⟨c,d,e,rfl,h.below b⟩
theorem pW.mono{w:World}{a b:Nat}{v:Value}{m:aT}(h:pW w a v m)(c:b <= a):pW w b v m:=by
 obtain⟨d,e,f,rfl,h⟩:=h;exact⟨d,e,f,rfl,h.mono c⟩
theorem dU.setCell{w:World}{c b i:Nat}{d e f:Value}{m:aT}{L:List Value}(h:dU w c d e f m)(a:Blk w b L 37)(u:Value):dU (w.setCell ⟨b,i,none⟩ u) c d e f m:=
 ⟨aL h.seen a (by decide) u,aL h.items a (by decide) u,aL h.gone a (by decide) u⟩
attribute [local go_sem] opC upC told bE bm bF bp bq bG bH
theorem set3{wr:World}{x y z:Value}(t:TypeId)(f:Blk wr i [x,y,z] t){a c d:Value}
 (g:W=((wr.setCell ⟨i,0,none⟩ a).setCell ⟨i,1,none⟩ c).setCell ⟨i,2,none⟩ d):Blk W i [a,c,d] t:=by
 have e:=((f.set 0 a).set 1 c).set 2 d;subst g;exact e
theorem rS(h:di F w v m)(hs:m.seen.length <= 1000000)(hi:m.items.length <= 1000000)(hg:m.gone.length <= 1000000):
 Calls aE 114 #[v] w λe a=>(∃r,e=.returned r /\ pW a w.heap.size r m) /\ Kpt w a:=by
 replace h:=h.mono (G:=λb=>b<w.heap.size) λb _ M=>M
 replace h:=jF h 37
 obtain⟨o,y,q,z,s,A,g,i,j,wx,rfl,h,l1,l2,l3,aa,ab,ad,aR,Z,ai,Hx,ag,c0,c1,c2⟩:=h
 try rw[aa.x]
 try rw[ab.x]
 try rw[ad.x]
 obtain⟨c,l⟩:=aP (wx.alloc (.cells #[.slice none 0 0,.slice none 0 0,.slice none 0 0] 37));have ak:Kpt w c:=by rw[l];exact Z.x.alloc Z.x.size _
 have ay:c.heap.size=w.heap.size+2:=by rw[l];simp[ai.x]
 have k:=ae (show ∀a,aK c a -> Blk a w.heap.size [.slice o g y,.slice q i z,.slice s j A] 37 /\ Blk a (w.heap.size+1) [.slice none 0 0,.slice none 0 0,.slice none 0 0] 37 /\ ce (λb=>b<w.heap.size) a (.slice o g y) (.slice q i z) (.slice s j A) m from λa S=>by
  have k1:Blk c w.heap.size [.slice o g y,.slice q i z,.slice s j A] 37:=by rw[l];exact ag.x.alloc _
  have k2:Blk c (w.heap.size+1) [.slice none 0 0,.slice none 0 0,.slice none 0 0] 37:=by
   have:=Blk.new wx #[.slice none 0 0,.slice none 0 0,.slice none 0 0] 37;rw[l,<- ai.x];exact this
  exact⟨k1.keep (S.block _ k1.lt),k2.keep (S.block _ k2.lt),(Hx.x.keep (w':=c) λb _ M=>by rw[l];exact Below.heap_alloc _ _ _ M).keep λb hb M=>S.block b (by omega)⟩)
 have t:aK c c.drew:=(Below.refl _ _).drew;have p0:∀a,aK c.drew a -> a.cell? ⟨w.heap.size,0,none⟩=some (.slice o g y):=λa hh=>by simpa using(k.x a (bL _ _ _ t hh)).1.cell 0
 have aV:∀a,aK c.drew a -> a.cell? ⟨w.heap.size,1,none⟩=some (.slice q i z):=λa hh=>by simpa using(k.x a (bL _ _ _ t hh)).1.cell 1
 have aW:∀a,aK c.drew a -> a.cell? ⟨w.heap.size,2,none⟩=some (.slice s j A):=λa hh=>by simpa using(k.x a (bL _ _ _ t hh)).1.cell 2
 have⟨H1,aN,az,B⟩:=ae4 (rR c.drew _ (.slice o g y) m.seen (k.x c.drew t).2.2.seen hs) l ak ay;clear l ak ay Hx ag c0 c1 c2 t
 go_enter func114,ntmps114
 go_wp2_with fail;rw[<- aR.x,<- aN.x];refine dq aK 10 [0,1,3,4,6,7,502,505,508,9,510] (by kernel_rfl) ?_;apply bC;rfl;intro a R;go_simp;exact aF;refine cD rfl rfl (λn f=>?_);go_simp;refine H1.x.mono ?_;rintro e N ⟨r1,rfl,ao,al⟩;obtain⟨C,H,av⟩:=aJ ao;rw[aa.x] at av;subst av;refine⟨_,rfl,al,f _ _ ?_⟩;go_simp;have P:aK c N:=(Below.refl _ _).drew.trans al;have W:=qr N _ (.slice q i z) m.items (k.x N P).2.2.items hi;have aH:=ao;apply bC;rfl;intro a R;go_simp;exact aF;refine cD rfl rfl (λn f=>?_);go_simp;refine W.mono ?_;rintro e V ⟨r2,rfl,T,K⟩;obtain⟨D,I,ax⟩:=aJ T;rw[ab.x] at ax;subst ax;refine⟨_,rfl,K,f _ _ ?_⟩;clear f n W;go_simp;have Q:=ae (bL _ _ _ P K);have⟨X,aI,aL⟩:=ae3 (qt V _ (.slice s j A) m.gone (k.x V Q.x).2.2.gone hg) (br aH K) T;clear K T;apply bC;rfl;intro a R;go_simp;exact aF;refine cD rfl rfl (λn f=>?_);go_simp;refine X.x.mono ?_;rintro e O ⟨r3,rfl,U,u⟩;obtain⟨E,J,d⟩:=aJ U;rw[ad.x] at d;subst d;refine⟨_,rfl,u,f _ _ ?_⟩;clear f n X;go_simp;have Y:=ae (bL _ _ _ Q.x u);have d:=(k.x O Y.x).2.1;have y0:=d.cell 0;have y1:=d.cell 1;have y2:=d.cell 2;have z0:=d.free 0;have z1:=d.free 1;have z2:=d.free 2;simp at y0 y1 y2;obtain⟨wf,x⟩:=aP (((O.setCell ⟨w.heap.size+1,0,none⟩ (.slice C g H)).setCell ⟨w.heap.size+1,1,none⟩ (.slice D i I)).setCell ⟨w.heap.size+1,2,none⟩ (.slice E j J));have aS:c.heap.size <= N.heap.size:=P.size;have aU:c.heap.size <= V.heap.size:=Q.x.size
 have ar:dU wf w.heap.size (.slice C g H) (.slice D i I) (.slice E j J) m:=by
  have ho:dU O w.heap.size (.slice C g H) (.slice D i I) (.slice E j J) m:=⟨bJ (br aI.x u) (by have:=B.x;show w.heap.size <= c.drew.heap.size;show w.heap.size <= c.heap.size;omega),bJ (br aL.x u) (by have:=B.x;omega),bJ U (by have:=B.x;omega)⟩
  rw[x];exact((ho.setCell d _).setCell (d.set 0 _) _).setCell ((d.set 0 _).set 1 _) _
 have L:=set3 _ d x
 have an:Kpt w wf:=by
  rw[x];have h5:Kpt w O:=az.x.trans (Y.x.mono (by have:=B.x;omega));exact((h5.setCell (p:=⟨w.heap.size+1,0,none⟩) (Nat.le_succ _) _).setCell (p:=⟨w.heap.size+1,1,none⟩) (Nat.le_succ _) _).setCell (p:=⟨w.heap.size+1,2,none⟩) (Nat.le_succ _) _
 have⟨Q0,Q1,Q2,aM,aG,aO⟩:=ae6 (L.cell 0) (L.cell 1) (L.cell 2) ar an x;clear u ar an L d x U p0 aV aW aS aU;apply bC;rfl;intro a R;go_simp;exact aF;refine cG rfl rfl rfl (λn f=>?_);go_simp;rw[<- aO.x];refine f _ _ ?_;clear f n y0 y1 y2 z0 z1 z2;go_simp;refine cZ ?_;go_wp2;have q0:=Q0.x;have q1:=Q1.x;have q2:=Q2.x;simp at q0 q1 q2;exact bodyPost_ret (v:=.agg #[.slice C g H,.slice D i I,.slice E j J]) (by simp[results,results114,go_sem,q0,q1,q2]) rfl ⟨⟨_,rfl,_,_,_,rfl,aM.x⟩,aG.x⟩
end
section
open Go
variable {P:Program}
def Fz{α:Type}(P:Program)(i:Nat)(j:Array Value)(h:α -> Array Value)(f:World -> World -> Prop)(G:List α -> α -> World -> Prop)(S g:List α -> Prop)(w:World):Prop:=
 ∀(l:Nat)(J c:List α -> World -> Prop)(W:World),Kpt w W -> AbidesFrom W.heap.size J -> AbidesFrom W.heap.size c ->
  (∀a x b,J a b -> G a x b -> YieldAt Fence.wide 0 P l (h x) b λe W'=>
   (e=.returned (.bool true) /\ J (a++[x]) W' /\ f b W') \/ (e=.returned (.bool false) /\ c (a++[x]) W')) ->
  J [] W ->
  CallsIn Fence.wide 1 P i (#[.func (.yield l) #[] #[]]++j) W λe W'=>(∃v,e=.returned v) /\ ((∃d,S d /\ J d W') \/ (∃a,g a /\ c a W'))
def BC{α:Type}(b:World -> World -> Prop)(I E:List α -> World -> Prop)(a:List α)(W:World):Exit -> Act -> World -> Prop
 |.normal,_,W'=>KeepsOthers W W' /\ b W W' /\ I a W'
 |.ret,_,W'=>KeepsOthers W W' /\ E a W'
 |_,_,_=>False
def jf(B:Nat)(r:Loop)(W:World):Prop:=W.heap[B+1]?=some (.loop r) /\ W.heap[B]?=some (.deferred (some []))
theorem jf.grown{r:Loop}{c:Option Nat}(h:jf i r W)(a:W.grownBy w' c)(b:∀q,c=some q -> ∃o:Obj,W.heap[q]?=some o /\ o.isWalk=true):jf i r w':=
 ⟨(grownBy_keeps a b h.1 rfl).trans h.1,(grownBy_keeps a b h.2 rfl).trans h.2⟩
theorem jf.others{r:Loop}(h:jf i r W)(a:KeepsOthers W w'):jf i r w':=⟨a.same _ _ h.1 rfl,a.same _ _ h.2 rfl⟩
theorem jf.put{r:Loop}(h:jf i r W)(a:Loop):jf i a (W.putObj (i+1) (.loop a)):=
 ⟨World.putObj_heap_same (Array.getElem?_eq_some_iff.1 h.1).1,(World.putObj_heap_other (by omega)).trans h.2⟩
theorem qu{α:Type}{g:Operand}{H:Array Tmp}{assign body:Code}{Q:Exit -> Act -> World -> Prop}{a:Act}{n:Nat}
 {L:Array Value} (hg:a.eval g=.func (.func i) #[] L) (eg:∀args w',(callFunc i args).run P w'=.ok (.enter i args) w')
 {J:α -> Array Value} {k:World -> World -> Prop} {G:List α -> α -> World -> Prop} {S Y:List α -> Prop} (aL:Fz P i L J k G S Y w') (aK:∀x,(J x).size=H.size)
 (al:∀b x (W:World) (l:Nat) (o X:Obj),w'.heap.size <= l -> W.heap[l]?=some o -> o.isCells=false -> G b x W -> G b x (W.putObj l X))
 (ab:∀{A B C:World},k A B -> k B C -> k A C) (aa:∀(W:World)(l:Nat)(o X:Obj),w'.heap.size <= l -> W.heap[l]?=some o -> o.isCells=false -> k W (W.putObj l X))
 (I E:List α -> World -> Prop) (m:OwnFrom w'.heap.size I) (O:OwnFrom w'.heap.size E) (h0:I [] w') (Z:α -> Act)
 (av:∀(l:Nat)(x:α)(W:World)(K:Act -> World -> Prop),K (Z x) W ->
  assign.wpIn (Fence.wide.inRound l) 0 P (Exit.then K (λ_ _ _=>False)) { tmps:=(H.zip (J x)).foldl (λt (p,v)=>t.setIfInBounds p v) a.tmps,defers:=[] } W)
 (ay:∀(l:Nat)(b:List α)(x:α)(W:World),I b W -> G b x W -> body.wpIn (Fence.wide.inRound l) 0 P (BC k I E (b++[x]) W) (Z x) W)
 (aG:∀(D:Nat)(M:List α)(W:World),w'.heap.size <= D -> S M -> I M W -> W.heap[D]?=some (.deferred (some [])) -> Q .normal { a with defers:={ target:=.collected D,args:=#[] }::a.defers } W)
 (aM:∀(D:Nat)(b:List α)(W:World),w'.heap.size <= D -> Y b -> E b W -> W.heap[D]?=some (.deferred (some [])) -> Code.ret.wpIn Fence.wide (n+2) P Q { a with defers:={ target:=.collected D,args:=#[] }::a.defers } W):
 (Code.rangeFunc g H assign body).wpIn Fence.wide (n+2) P Q a w':=by
 refine wpIn_rangeFunc λfn aH=>?_
 let R:LoopState -> Option Code -> Loop:=λst pe=>{ state:=st,pending:=pe,fn,tmps:=a.tmps,params:=H,assign,body,defers:=w'.heap.size }
 have az:jf w'.heap.size (R .ready none) ((w'.alloc (.deferred (some []))).alloc (.loop (R .ready none))):=by
  have h1:=World.alloc_heap_new (w'.alloc (.deferred (some []))) (.loop (R .ready none));rw[World.size_alloc] at h1;exact⟨h1,(Below.heap_alloc _ _ _ (by simp)).trans (World.alloc_heap_new w' _)⟩
 have an:I [] ((w'.alloc (.deferred (some []))).alloc (.loop (R .ready none))):=m.alloc _ (m.alloc _ h0);have ax:Kpt w' ((w'.alloc (.deferred (some []))).alloc (.loop (R .ready none))):=((Below.refl _ w').alloc (aq _) _).alloc (by simp) _;have aN:((w'.alloc (.deferred (some []))).alloc (.loop (R .ready none))).heap.size=w'.heap.size+2:=by simp
 have ag:=run_enterLoop_outer (P:=P) (w:=w') fn a.tmps H assign body;change _=Result.ok _ ((w'.alloc (.deferred (some []))).alloc (.loop (R .ready none))) at ag;generalize(w'.alloc (.deferred (some []))).alloc (.loop (R .ready none))=y at *
 refine⟨w'.heap.size+1,[{ target:=.collected w'.heap.size,args:=#[] }],y,{ target:=.fn (.func i) L,args:=#[.func (.yield (w'.heap.size+1)) #[] #[]] },y,i,#[.func (.yield (w'.heap.size+1)) #[] #[]]++L,y,
  ag,?_,λ_ _=>trivial,?_,λh=>(by cases h),?_⟩
 ·simp only[resolve,hg];simp[go_sem]
 ·simp[invoke,go_sem,eg]
 have ai:∀{A:World}{row:Option Nat},(∀q,row=some q -> y.heap.size <= q /\ ∃o:Obj,A.heap[q]?=some o /\ o.isWalk=true) -> ∀q,row=some q -> w'.heap.size <= q /\ ∃o:Obj,A.heap[q]?=some o /\ o.isCells=false:=
  λf q e=>⟨by have:=(f q e).1;omega,by obtain⟨o,ho,T⟩:=(f q e).2;exact⟨o,ho,Obj.not_cells_of_walk T⟩⟩
 have aF:=aL (w'.heap.size+1) (λb W=>I b W /\ jf w'.heap.size (R .ready none) W) (λb W=>E b W /\ jf w'.heap.size (R .done (some .ret)) W) y ax
  (λs A N row F z f=>⟨m s A N row F.1 z (ai f),F.2.grown z (λq e=>(f q e).2)⟩)
  (λs A N row F z f=>⟨O s A N row F.1 z (ai f),F.2.grown z (λq e=>(f q e).2)⟩)
  (λb x W ao ak=>by
   obtain⟨aI,r⟩:=ao;have hy:=run_yield (P:=P) (args:=J x) r.1 (aK x);refine⟨fn,_,assign,body,hy,roundIn_of_wpIn aH (av _ x W _ ⟨_,run_beginRound r.1 rfl,?_⟩)⟩;have ad:=r.put { R .ready none with state:=.busy };have T:=ay (w'.heap.size+1) b x (W.putObj (w'.heap.size+1) (.loop { R .ready none with state:=.busy })) (m.putObj _ aI (by omega) r.1 rfl) (al _ _ _ _ _ _ (by omega) r.1 rfl ak);have aJ:=aa W _ _ (.loop { R .ready none with state:=.busy }) (by omega) r.1 rfl;refine wpIn_mono T ?_;intro ex a3 W3 u;cases ex with
   |normal=>
    obtain⟨U,V,k3⟩:=u;have d:=ad.others U;exact⟨_,_,run_endRound (P:=P) none d.1,.inl ⟨rfl,⟨m.putObj _ k3 (by omega) d.1 rfl,d.put _⟩,ab (ab aJ V) (aa _ _ _ _ (by omega) d.1 rfl)⟩⟩
   |ret=>
    obtain⟨U,V⟩:=u;have d:=ad.others U;exact⟨_,_,run_endRound (P:=P) (some .ret) d.1,.inr ⟨rfl,O.putObj _ V (by omega) d.1 rfl,d.put _⟩⟩
   |exit id=>exact u.elim
   |goto t=>exact u.elim
   |panic c=>exact u.elim
   |outgrown=>exact u.elim) ⟨an,az⟩
 refine(callsIn_wide (n:=n+2-1)).2 ((callsIn_wide (n:=1)).1 (aF.mono ?_));rintro e W2 ⟨⟨v,rfl⟩,(⟨M,hS,hi,j⟩|⟨b,ar,he,j⟩)⟩
 ·exact⟨none,_,run_endLoop (P:=P) j.1 (by simp[R]),aG _ M _ (aq _) hS (m.putObj _ hi (by omega) j.1 rfl) (j.put _).2⟩
 ·exact⟨some .ret,_,run_endLoop (P:=P) j.1 (by simp[R]),aM _ b _ (aq _) ar (O.putObj _ he (by omega) j.1 rfl) (j.put _).2⟩
/- The walks of regions that draw their order, in a round of a range over a function. Over any program. -/
end
section
open Go
section
variable {P:Program} {ops:Array Oper} {md:Region.Mode} {C:World -> World -> Prop} {lx lp n:Nat}
def ri(ops:Array Oper):Bool:=ops.all λo=>match o.op with
 |.defer _=>false
 |_=>true
theorem vw(h:ri ops=true){o:Oper}(b:ops[i]?=some o):∀c,o.op≠.defer c:=by
 intro c a;obtain⟨hi,rfl⟩:=Array.getElem?_eq_some_iff.1 b;have:=Array.all_eq_true.1 h i hi;simp[a] at this
theorem xL{o:Oper}{a:Act}{g:Value -> World -> Prop}{K:Act -> World -> Prop}{Q:Exit -> Act -> World -> Prop}(i:∀c,o.op≠.defer c)(h:∀v d,g v d -> K (a.put o.dst v) d)(b:opC P o a W g):o.wpIn (Fence.wide.inRound lp) n P a W K Q:=by
 refine⟨λ_ _=>trivial,?_⟩;rw[Oper.semAt_eq _ _ _ i];unfold opC at b;generalize(execOp a.eval o).run P W=r at *;cases r with
 |ok x d=>
  cases x<;>simp only[upC] at b<;>simp only[Oper.uponIn]
  case enter f args=>
   refine⟨(λe=>by cases e),CallsIn.inRound lp (callsIn_wide.2 (b.mono ?_))⟩;rintro e k ⟨v,rfl,j⟩;exact h _ _ j
  all_goals exact h _ _ b
 |halt x d=>simp only[upC] at b
theorem tB{a:Act}{K f:Act -> World -> Prop}{Q:Exit -> Act -> World -> Prop}(g:ri ops=true)(h:∀a e,K a e -> f a e)(b:stC P ops C i K a W):wpOpIn (Fence.wide.inRound lp) n P ops Q i f a W:=by
 unfold stC at b;unfold wpOpIn;split
 ·rename_i c;simp only[c] at b;exact h _ _ b
 ·rename_i o c;simp only[c] at b;split
  ·rename_i d;simp only[d,if_true] at b;exact xL (vw g c) (λv e j=>h _ _ j.2) b
  ·rename_i d;simp only[d] at b;exact⟨λ_ _=>trivial,h _ _ b⟩
theorem oX{Q:Act -> World -> Prop}{d:Exit -> Act -> World -> Prop}(e:ri ops=true)(c:∀a w,Q a w -> d .normal a w):∀(b:Nat)(f:Array Bool)(a:Act)(w:World),
 iq P md ops C Q b f a w -> wpAnyIn (Fence.wide.inRound lp) n P md ops d b f a w
 |0,_,_,_,h=>⟨h.1,c _ _ h.2⟩
 |b+1,_,_,_,h=>⟨λj=>c _ _ (h.1 j),λi hi=>tB e (λg l k=>oX e c b _ g l k) (h.2 i hi)⟩
theorem qW{Q:Exit -> Act -> World -> Prop}{a:Act}{l:List Oper}(C:World -> World -> Prop)(d:List (Nat×Bool))(q:P.follows .mixedOrders=true)(g:(Region.noSelect l.toArray&&kT .any l.toArray d (Array.replicate d.length false)&&(d.length == l.length))=true)
 (p:ri l.toArray=true) (r:∀W,C W W) (s:∀a b c,C a b -> C b c -> C a c)
 (h:fR P l.toArray C (λe f=>Q .normal e f) d a W.drew):(Code.region i l.toArray true).wpIn (Fence.wide.inRound lp) n P Q a W:=by
 simp only[Bool.and_eq_true] at g;obtain⟨⟨j,k⟩,m⟩:=g;have o:d.length=l.length:=by simpa using m
 refine wpIn_region_any q (oX (C:=C) (Q:=λe f=>Q .normal e f) p (λ_ _ h=>h) _ _ _ _ ?_);have:=iK (md:=.any) r s j d _ a W.drew k h;rw[o] at this;simpa using this
end
end
section
open Go.Sort Go.Shelf
attribute [local go_sem ↓] aU
attribute [local go_sem] Oper.semAt_some
abbrev eS(k:bQ):Value:=Go.Proofs.encStr k
theorem AM:(aE.info? 9).map (λi=>(i.zero,i.size,i.bytes))=some (some (.string ⟨#[]⟩),1,16):=by kernel_rfl
structure Kb(n0:Nat)(A C:World):Prop where
 size:A.heap.size <= C.heap.size
 block:∀b,b<n0 -> C.heap[b]?=A.heap[b]?
theorem Kb.trans{a:Nat}{A C D:World}(h:Kb a A C)(k:Kb a C D):Kb a A D:=⟨au h.size k.size,λb c=>(k.block b c).trans (h.block b c)⟩
theorem Kb.put(o:Obj)(b:i <= n):Kb i w (w.putObj n o):=⟨by simp,λk a=>World.putObj_heap_other (by omega)⟩
theorem Kb.of_below(h:Below i W w'):Kb i W w':=⟨h.size,λb a=>h.block b a⟩
theorem zr(l:List bQ)(k B:Nat)(u:Rows F w 1 v l.length (l.map eS))(hF:∀b,F b -> b<B)(hB:B <= w.heap.size)(s:Blk w k [v] 32)(Q:l.length <= 1000000):
 Fz aE 205 #[.pointer (some ⟨k,0,none⟩)] (λx:bQ=>#[eS x]) (Kb B) (λX x _=>l[X.length]?=some x) (λY=>Y=l) (λ_=>True) w:=by
 intro lo J Jx W d hJ ab L D;have T:=u.keep (w':=W) λb r f=>d.block b f
 have M:=s.keep (d.block _ s.lt);have o:=M.cell 0;simp at o;obtain⟨n,t⟩:=aH l.length;obtain⟨a,aa,rfl,ag,ad,-⟩:=u.shape;have y:=T;rw[t] at o Q;have c:=t;have Z:=d.size;refine callsIn_of_wp func205 rfl trivial ?_ rfl;simp only[ntmps205,List.size_toArray,aD,List.length_nil,Nat.reduceAdd,Nat.reduceSub,Array.replicate_succ,Array.replicate_zero,List.push_toArray,List.append_toArray,List.nil_append,List.cons_append]
 gi_wp2_with fail
 gi_loopw [7] (λi wr=>∃m:Nat,m <= n /\ i=.int .i64 (m:Int) /\ J (l.take m) wr /\ Kb B W wr) (λi _=>n-(intOf i).toNat)
 ·exact⟨0,by omega,rfl,by simpa using D,⟨aq _,λ_ _=>rfl⟩⟩
 ·obtain⟨m,ai,rfl,q,P⟩:=hrel;have j:=P
  by_cases f:m<n
  ·have R:(m:Int)<(n:Int):=by omega
   have g:m<l.length:=by rw[c];exact f
   have U:=y.keep (w':=wr) λb r _=>j.block b (hF b r)
   obtain⟨b,ak,rfl,-,-,N⟩:=fE U (by rw[c];omega);have p:=N m g;obtain⟨x,h⟩:=aH l[m];rw[h] at p;have S:(l.take m).length=m:=by rw[List.length_take];omega
   obtain⟨fn,tmps,assign,body,V,K⟩:=L (l.take m) x wr q (by rw[S,List.getElem?_eq_getElem g,h]);unfold eS Go.Proofs.encStr at V;have A:=h
   gi_wp2_with fail
   refine K.mono ?_;rintro e C (⟨rfl,E,O⟩|⟨rfl,I⟩)
   ·have G:J (l.take (m+1)) C:=by rw[List.take_succ_eq_append_getElem g,A];exact E
    have z:=j.trans O
    gi_wp2_with fail
    go_roundw
    ·exact⟨m+1,by omega,by go_num,G,z⟩
    ·simp[intOf];omega
   ·clear p
    gi_wp2_with fail
    refine bodyPost_ret (results_none rfl _ _ _) rfl ?_;exact⟨⟨_,rfl⟩,.inr ⟨_,trivial,I⟩⟩
  ·have R:¬(m:Int)<(n:Int):=by omega
   have H:J l wr:=by
    have:=q;rw[List.take_of_length_le (by rw[c];omega)] at this;exact this
   gi_wp2_with fail
   go_end0
   exact⟨⟨_,rfl⟩,.inl H⟩
def ApI(w:World)(n:Nat)(a:List bQ)(W:World):Prop:=
 ∃v,Blk W w.heap.size [v] 32 /\ W.ownsRow w.heap.size 9 1 v a.length (a.map eS) /\ Kpt w W /\ w.heap.size+1 <= W.heap.size /\ a.length <= n
theorem EC(m:w'.heap.size <= n):OwnFrom n (ApI w' i):=by
 rintro z W W' row ⟨v,d,f,j,k,l⟩ a g;have h:∀r,row=some r -> ∃o:Obj,W.heap[r]?=some o /\ o.isCells=false:=λr e=>(g r e).2
 refine⟨v,d.keep (grownBy_keeps_cells a h d rfl),f.kept a ?_,j.grown a (by omega) (λq x=>au m (g q x).1),au k a.size,l⟩;cases p:v.ownBlock with
 |none=>exact .inl rfl
 |some b=>
  refine .inr λt=>?_
  obtain⟨y,s⟩:=gW f p;obtain⟨o,c,u⟩:=h b t.symm;rw[s] at c;injection c with c
  subst c;cases u
theorem tC(l:List bQ)(c:Nat)(hv:Rows F w 1 v l.length (l.map eS))(hF:∀b,F b -> b<w.heap.size)(I:Blk w c [v] 32)(hl:l.length <= 1000000):
 Calls aE 221 #[.slice none 0 0,.func (.func 205) #[] #[.pointer (some ⟨c,0,none⟩)]] w λe O=>
  ∃r,e=.returned r /\ O.ownsRow w.heap.size 9 1 r l.length (l.map eS) /\ Kpt w O:=by
 refine(callsIn_wide (n:=2)).1 ?_;refine callsIn_of_wp_marks func221 rfl trivial ?_ rfl;simp only[ntmps221,List.size_toArray,aD,List.length_nil,Nat.reduceAdd,Nat.reduceSub,Array.replicate_succ,Array.replicate_zero,List.push_toArray,List.append_toArray,List.nil_append,List.cons_append];obtain⟨p,y⟩:=aP (w.alloc (.cells #[.slice none 0 0] 32));have L:Kpt w p:=by rw[y];exact aI _ _
 have az:p.heap.size=w.heap.size+1:=by rw[y];simp
 have aa:Blk p w.heap.size [.slice none 0 0] 32:=by rw[y];exact Blk.new _ _ _
 have ay:=I.lt;have ax:=hv.keep (w':=p) λb _ R=>L.block b R
 have ak:=I.keep (L.block _ I.lt)
 gi_wp2_with fail
 rw[<- y]
 refine qu (n:=0) rfl (enters_of func205 (by kernel_rfl) rfl)
  (zr p F v l c w.heap.size ax hF (by omega) ak hl)
  (λ_=>rfl) (λa x W z o U ao u f hG=>hG)
  (λ{A Bw C} H Z=>H.trans Z) (λW z o U ao u f=>Kb.put W z U (by omega))
  (ApI w l.length) (λ_ _=>False) (EC _ (by omega)) (λ_ _ _ _ h=>h.elim)
  ⟨_,aa,World.ownsRow_nil _ _ _ _,L,by omega,by simp⟩
  (λx=>{ tmps:=#[.slice none 0 0,.func (.func 205) #[] #[.pointer (some ⟨c,0,none⟩)],.pointer (some ⟨w.heap.size,0,none⟩),undef,.slice none 0 0,eS x,.func (.func 205) #[] #[.pointer (some ⟨c,0,none⟩)],eS x,undef,undef,undef,undef,undef],defers:=[] }) ?assign ?body ?done ?stop
 case assign=>
  intro z x W Kx ad
  gi_wp2
  exact ad
 case body=>
  rintro z a x W ⟨m,t,g,d,T,av⟩ hx;have R:a.length<l.length:=(List.getElem?_eq_some_iff.1 hx).1;obtain⟨i0,q1,q2,q3,q4⟩:=info_parts AM;obtain⟨v5,V,hr,S,K⟩:=cu (P:=aE) W w.heap.size 32 9 underlying32 q1 q2 q3 q4 rfl (by decide) m a.length _ g #[eS x] rfl (by simp[Value.oneCell']) (by unfold maxLen;omega) (by omega) (by omega);obtain⟨B,E,rfl⟩:=aJ S;have ag:Blk (W.alloc (.cells #[eS x] 9)) w.heap.size [m] 32:=t.alloc _;have N:=br g (aI W (.cells #[eS x] 9));have s:=ag.grownNe N (by decide) K;have X:=s.cell 0;have f5:=s.free 0;have G:=t.cell 0;simp at X G;obtain⟨w6,k⟩:=aP (V.setCell ⟨w.heap.size,0,none⟩ (.slice B (a.length+1) E))
  have an:KeepsOthers W w6:=by
   have H:KeepsOthers W V:=(KeepsOthers.alloc W _).trans (KeepsOthers.of_grownBy K (λj o hj u=>by
    obtain⟨Y,f⟩:=gW N hj;rw[f] at u;cases u
    rfl))
   rw[k];exact H.trans (KeepsOthers.setCell _ _ _)
  have M:Below w.heap.size W w6:=by
   rw[k];exact((Below.refl w.heap.size W).alloc (by omega) _).trans (Below.grownOwn N K (by simp;omega) (aq _)) |>.setCell (aq _) _
  have al:Kb w.heap.size W w6:=Kb.of_below M
  have ab:ApI w l.length (a++[x]) w6:=by
   refine⟨.slice B (a.length+1) E,?_,?_,d.trans M,au T M.size,by simp;omega⟩
   ·rw[k];simpa using s.set 0 _
   ·rw[k];have:=aL (i:=0) S s (by decide) (.slice B (a.length+1) E);simpa using this
  simp only[eS,Go.Proofs.encStr] at hr⊢
  gi_wp2_with fail
  rw[<- k];exact⟨an,al,ab⟩
 case done=>
  rintro D xs W hD rfl ⟨m,t,g,d,T,av⟩ J;have G:=t.cell 0;simp at G;have Q:=grownBy_putObj' W D (.deferred none)
  have ar:=g.kept Q (by
   cases d:m.ownBlock with
   |none=>exact .inl rfl
   |some b=>
    refine .inr λhe=>?_
    obtain⟨Y,f⟩:=gW g d;obtain rfl:b=D:=by simpa using he
    rw[f] at J
    cases J)
  have ai:Kpt w (W.putObj D (.deferred none)):=d.grown Q (by omega) (λq hq=>by cases hq;omega)
  gi_wp2_with fail
  refine⟨by simp,.inl ⟨_,_,rfl,run_takeDeferred J,?_⟩⟩;refine⟨m,by simp[results,Tryz.f221,go_sem],_,rfl,ar,ai⟩
 case stop=>
  rintro D a W hD-hE;exact hE.elim
theorem xM(l:List bQ)(d:Nat)(o:Rows F w 1 v l.length (l.map eS))(hF:∀b,F b -> b<w.heap.size)(k:Blk w d [v] 32)(m:l.length <= 1000000):
 Calls aE 203 #[.func (.func 205) #[] #[.pointer (some ⟨d,0,none⟩)]] w λe h=>
  ∃r,e=.returned r /\ h.ownsRow w.heap.size 9 1 r l.length (l.map eS) /\ Kpt w h:=by
 have i:=tC w F v l d o hF k m
 go_enter func203,ntmps203
 go_wp2_with fail;refine i.mono ?_;rintro e p ⟨r,rfl,f,j⟩;obtain⟨n,g⟩:=aH l.length;rw[g] at f;obtain⟨a,c,rfl⟩:=aJ f;go_wp2
 go_ret
 exact⟨_,rfl,by rw[g];exact f,j⟩
theorem zt(l:List bQ)(i:Nat)(N:Rows F w 1 v l.length (l.map eS))(hF:∀b,F b -> b<w.heap.size)(I:Blk w i [v] 32)(L:l.length <= 1000000):
 Calls aE 160 #[.func (.func 205) #[] #[.pointer (some ⟨i,0,none⟩)]] w λe A=>
  ∃r,e=.returned r /\ A.ownsRow w.heap.size 9 1 r (dt l).length ((dt l).map eS) /\ Kpt w A:=by
 have B:=xM w F v l i N hF I L;have M:(dt l).length=l.length:=(ek l).length_eq;obtain⟨n,u⟩:=aH l.length;rw[M,u];have g:=u
 go_enter func160,ntmps160
 go_wp2_with fail;refine B.mono ?_;rintro e a ⟨r,rfl,o,k⟩;rw[g] at o;rcases o.2 with⟨rfl,z⟩|⟨c,s,S,rfl,t,m,O,P,Q,p⟩
 ·obtain rfl:l = []:=List.length_eq_zero_iff.1 (by rw[g];exact z);have h:=Tryz.slices_Sort_string_none none 0 a;subst z;go_wp2_with fail;refine h.mono ?_;rintro e R ⟨rfl,rfl⟩;go_wp2
  go_ret
  exact⟨_,rfl,by simpa[dt] using o,k⟩
 ·have G:Holds Go.Proofs.encStr a c 0 l.toArray:=holds_of_block m (by rw[Nat.mul_one] at p;rw[<- g] at p;simpa using p);have J:c<a.heap.size:=(Array.getElem?_eq_some_iff.1 m).1;have q:=Tryz.slices_Sort_string c 0 s l a G J (by omega);rw[g] at q;have h:=q;have T:(a.heap.size:Nat)=a.heap.size:=rfl
  have C:∀d f,World.ownsRow (grow (putRow Go.Proofs.encStr (Sort.ahead a d) c 0 (l.mergeSort λx y=>decide (x <= y)).toArray) f) w.heap.size 9 1 (.slice (some ⟨c,0,none⟩) n s) n ((dt l).map eS) /\ Kpt w (grow (putRow Go.Proofs.encStr (Sort.ahead a d) c 0 (l.mergeSort λx y=>decide (x <= y)).toArray) f):=λd f=>by
   have H:=g;subst H;exact⟨ownsRow_sorted (by simp) t m O P Q,k.grown (grownBy_sorted _) k.size (λj K=>by cases K;exact t)⟩
  go_wp2_with fail;refine h.mono ?_;rintro e R ⟨rfl,d,f,rfl⟩;obtain⟨D,E⟩:=C d f;generalize(grow (putRow Go.Proofs.encStr (Sort.ahead a d) c 0 (l.mergeSort λx y=>decide (x <= y)).toArray) f)=U at *;go_wp2
  go_ret
  exact⟨_,rfl,D,E⟩
end
end Go.Proofs.YtobjdpngnfbicaaGreatDoor
namespace Go.Proofs
open Go.Shelf
def Tryz.laysCompact_ren:Go.Shelf.Ren:=⟨λ| 194=>162|n=>n,λ| 31=>32|9=>9|3=>3|4=>4|0=>0|n=>n,λ| n=>n⟩
theorem Tryz.laysCompact:Go.Proofs.Lays.n194 aE Tryz.laysCompact_ren:={
 mixed:=by kernel_rfl
 f194:=func162.trans (congrArg some (by kernel_rfl))
 t0:=underlying0
 a0:=Tryz.isAgg0
 z0:=Tryz.sizeOf0
 v0:=Tryz.zeroValue0
 t3:=underlying3
 a3:=Tryz.isAgg3
 z3:=Tryz.sizeOf3
 v3:=Tryz.zeroValue3
 t4:=underlying4
 a4:=Tryz.isAgg4
 z4:=Tryz.sizeOf4
 v4:=Tryz.zeroValue4
 t9:=underlying9
 a9:=Tryz.isAgg9
 z9:=Tryz.sizeOf9
 v9:=Tryz.zeroValue9
 t31:=underlying32
 a31:=Tryz.isAgg32
 z31:=Tryz.sizeOf32
 v31:=Tryz.zeroValue32 }
end Go.Proofs
namespace Go.Proofs.YtobjdpngnfbicaaGreatDoor
open Go.RowKit
open Go.Proofs.Tryz
variable(w:World)(F:aQ)(n k:Nat)(v:Value)(m:aT){W w':World}{G:aQ}{u:Value}{i j o:Nat}{L:List Value}{r:aT}{t:TypeId}{y:List bQ}
section
open Go.Sort
attribute [local go_sem ↓] aU
theorem zu:vv 163 9 1 (λl=>l.map eS):=λw F v l b a=>lD (.inr (.inr (.inr rfl))) AM underlying32 rfl (by decide) (by decide) w F v _ _ b a (Fu l)
theorem qX(c:List bQ)(h:c.Pairwise λa b=>a≠b):(Lib.compact c).length=c.length:=by
 rw[Lib.compact_all c λj d=>?_];rcases Nat.eq_zero_or_pos j with rfl|g
 ·exact Lib.keeps_lt_one _ 0 (by omega)
 ·refine Lib.keeps_pos λe=>?_
  have f:=List.pairwise_iff_getElem.1 h (j-1) j (by omega) d (by omega);rw[getElem!_pos c.toArray j (by simpa using d),getElem!_pos c.toArray (j-1) (by simp;omega)] at e;exact f (by simpa using e.symm)
theorem rT(a:List bQ)(j:Nat)(c:j+1<a.length)(h:a[j]=a[j+1]):(Lib.compact a).length<a.length:=by
 unfold Lib.compact Lib.compactUpTo;rw[List.length_map]
 have d:Lib.keeps a.toArray (j+1)=false:=Lib.keeps_neg (by omega) (by
  rw[getElem!_pos a.toArray (j+1) (by simpa using c),getElem!_pos a.toArray (j+1-1) (by simp;omega)]
  simpa using h.symm)
 have b:=List.length_filter_lt_length_iff_exists (l:=List.range a.length) (p:=Lib.keeps a.toArray);simp only[List.length_range] at b;exact b.2 ⟨j+1,List.mem_range.2 c,by simp[d]⟩
theorem rU:∀c:List bQ,(c.Pairwise λa b=>a <= b) -> ¬c.Nodup -> ∃(j:Nat)(h:j+1<c.length),c[j]=c[j+1]
 |[],_,h=>absurd List.nodup_nil h
 |[a],_,h=>absurd (by simp) h
 |a::b::l,o,n=>by
  by_cases d:a=b
  ·exact⟨0,by simp,by simpa using d⟩
  ·have e:=List.pairwise_cons.1 o
   by_cases f:(b::l).Nodup
   ·refine absurd (List.nodup_cons.2 ⟨λm=>?_,f⟩) n;rcases List.mem_cons.1 m with h|h
    ·exact d h
    ·have g:=e.1 b List.mem_cons_self;have i:=(List.pairwise_cons.1 e.2).1 a h;exact d (List.le_antisymm g i)
   ·obtain⟨j,k,h⟩:=rU (b::l) e.2 f;exact⟨j+1,by simpa using k,by simpa using h⟩
theorem tD(l:List bQ):(Lib.compact (dt l)).length=l.length↔l.Nodup:=by
 have a:=ek l;constructor
 ·intro h;refine Classical.byContradiction λd=>?_
  obtain⟨j,c,e⟩:=rU (dt l) (oM l) (λb=>d (a.nodup_iff.1 b));have:=rT _ j c e;rw[a.length_eq] at this;omega
 ·intro h;rw[qX _ (a.nodup_iff.2 h),a.length_eq]
theorem xN(b:List bQ)(t:w.ownsRow k 9 1 v b.length (b.map eS))(B:b.length <= 1000000)(z:w.heap.size <= k+w.heap.size)(d:Nat)(C:d <= k)(s:d <= w.heap.size):
 Calls aE 162 #[v] w λe h=>(∃a c,e=.returned (.slice a (Lib.compact b).length c)) /\ Below d w h:=by
 rcases t.2 with⟨rfl,u⟩|⟨f,m,y,rfl,A,p,x,D,E,l⟩
 ·obtain rfl:b = []:=List.length_eq_zero_iff.1 u;refine(Any.slices_Compact_string_empty Tryz.laysCompact none 0 w).mono ?_;rintro e h ⟨rfl,rfl⟩;exact⟨⟨none,0,rfl⟩,Below.refl _ _⟩
 ·have o:Holds Go.Proofs.encStr w f 0 b.toArray:=holds_of_block p (by rw[Nat.mul_one] at l;exact l);refine(Any.slices_Compact_string Tryz.laysCompact f 0 m b w o (by omega) x).mono ?_;rintro e h ⟨rfl,q,rfl⟩;refine⟨⟨_,_,rfl⟩,?_⟩;have i:=grownBy_sorted (w:=w) (g:=f) (n:=q) (os:=#[]) (Lib.compact b++List.replicate (b.length-(Lib.compact b).length) []).toArray;rw[grow_empty] at i;exact(Below.refl d w).grown i s (λj r=>by cases r;omega)
/-! is there a key that is none -/
theorem zw(c:eB w)(b:4 <= w.heap.size)(k:bQ)(g:k.length <= 4611686018427387903):
 Calls aE 165 #[.string ⟨k.toArray⟩] w λe a=>e=.returned (.bool (!eY k)) /\ Kpt w a:=by
 have V:=ug w c b k (by omega);obtain⟨h,f⟩:=aH (eY k);rw[f] at V⊢
 go_enter func165,ntmps165
 go_wp2_with fail;refine V.mono ?_;rintro e a ⟨rfl,d⟩;go_wp2
 go_ret
 exact⟨rfl,d⟩
theorem vx(J:eB w)(t:4 <= w.heap.size)(F:aQ)(v:Value)(l:List bQ)(A:Rows F w 1 v l.length (l.map eS))(Q:l.length <= 1000000)(u:∀k∈l,k.length <= 4611686018427387903):
 Calls aE 206 #[v,.func (.func 165) #[] #[]] w λe B=>(∃i:Int,e=.returned (.int .i64 i) /\ (0 <= i↔l.all eY=false) /\ -1 <= i) /\ Kpt w B:=by
 obtain⟨n,z⟩:=aH l.length;obtain⟨a,U,rfl,-⟩:=A.shape;have H:=A;rw[z] at Q⊢;have r:=z;have G:=u;have D:=J;have C:Kpt w w:=Below.refl _ _
 go_enter func206,ntmps206
 go_wp2
 go_loopw [8] (λi wr=>∃k:Nat,k <= n /\ i=.int .i64 (k:Int) /\ Kpt w wr /\ ∀j (f:j<l.length),j<k -> eY l[j]=true) (λi _=>n-(intOf i).toNat)
 ·exact⟨0,by omega,rfl,C,λj _ f=>by omega⟩
 ·obtain⟨k,u,rfl,L,g⟩:=hrel;have d:=L;have p:=g
  by_cases P:k<n
  ·have O:(k:Int)<(n:Int):=by omega
   have o:k<l.length:=by rw[r];exact P
   have S:=H.keep (w':=wr) λb _ R=>d.block b R
   obtain⟨b,W,rfl,-,-,M⟩:=fE S (by omega);have I:=M k o;obtain⟨x,c⟩:=aH l[k];rw[c] at I;have V:=zw wr (bR D t d) (au t d.size) x (G x (by rw[<- c];exact aC o));have s:=c;obtain⟨T,m⟩:=aH (eY x);rw[m] at V;go_wp2_with fail;refine V.mono ?_;rintro e X ⟨rfl,K⟩;have q:=d.trans (K.mono d.size);cases T with
   |true=>
    go_wp2
    go_roundw
    ·exact⟨k+1,by omega,by go_num,q,λj f N=>by
     rcases Nat.lt_succ_iff_lt_or_eq.1 N with h|h
     ·exact p j f h
     ·subst h;rw[s];exact m⟩
    ·simp[intOf];omega
   |false=>
    go_wp2
    go_ret
    refine⟨⟨_,rfl,⟨λ_=>?_,λ_=>by omega⟩,by omega⟩,q⟩;rw[List.all_eq_false];exact⟨l[k],aC o,by rw[s,m];simp⟩
  ·have O:¬(k:Int)<(n:Int):=by omega
   have g:l.all eY=true:=by
    rw[List.all_eq_true];intro x c;obtain⟨j,f,rfl⟩:=List.mem_iff_getElem.1 c;exact p j f (by rw[r] at f;omega)
   have E:=ae g;clear g;go_wp2
   go_ret
   exact⟨⟨-1,rfl,⟨λh=>by omega,λh=>by
    obtain⟨x,c,y⟩:=h;rw[List.all_eq_true.1 E.x x c] at y
    cases y⟩,by omega⟩,d⟩
theorem qY(m:eB w)(j:4 <= w.heap.size)(F:aQ)(v:Value)(l:List bQ)(g:Rows F w 1 v l.length (l.map eS))(p:l.length <= 1000000)(o:∀k∈l,k.length <= 4611686018427387903):
 Calls aE 164 #[v,.func (.func 165) #[] #[]] w λe s=>e=.returned (.bool (!l.all eY)) /\ Kpt w s:=by
 have b:=vx w m j F v l g p o;obtain⟨a,t,rfl,-⟩:=g.shape;obtain⟨r,f⟩:=aH (l.all eY);rw[f];obtain⟨n,q⟩:=aH l.length;rw[q] at b⊢
 go_enter func164,ntmps164
 go_wp2_with fail;refine b.mono ?_;rintro e u ⟨⟨i,rfl,hi,-⟩,d⟩;rw[f] at hi;cases r with
 |true=>
  have c:¬0 <= i:=λh=>by have:=hi.1 h;cases this
  go_wp2
  go_ret
  exact⟨iX (by simpa using c),d⟩
 |false=>
  have c:0 <= i:=hi.2 rfl;go_wp2
  go_ret
  exact⟨iX (by simp),d⟩
theorem mb(hT:eB w)(h3:4 <= w.heap.size)(F:aQ)(v:Value)(m:aT)(h:di F w v m)(al:∀x∈m.items,x.key.length <= 1000000)(ak:∀x∈m.gone,x.key.length <= 1000000):
 Calls aE 107 #[v] w λe W=>e=.returned (.tuple #[if aV m then v else .agg #[.slice none 0 0,.slice none 0 0,.slice none 0 0],.int .i64 (if aV m then 0 else 7)]) /\ Kpt w W:=by
 replace h:=h.mono (G:=λb=>b<w.heap.size) λb _ I=>I
 replace h:=jF h 37
 obtain⟨l,t,n,u,o,y,q,r,s,Y,rfl,h,l1,l2,l3,Z,aa,ab,ag,Q,R,Hx,ad,c0,c1,c2⟩:=h
 try rw[Z.x]
 try rw[aa.x]
 try rw[ab.x]
 obtain⟨f,d⟩:=aP (Y.alloc (.cells #[.slice none 0 0,.slice none 0 0,.slice none 0 0] 37));have U:Kpt w f:=by rw[d];exact Q.x.alloc Q.x.size _
 have ar:f.heap.size=w.heap.size+2:=by rw[d];simp[R.x]
 have k1:Blk f w.heap.size [.slice l q t,.slice n r u,.slice o s y] 37:=by rw[d];exact ad.x.alloc _
 have k2:Blk f (w.heap.size+1) [.slice none 0 0,.slice none 0 0,.slice none 0 0] 37:=by
  have:=Blk.new Y #[.slice none 0 0,.slice none 0 0,.slice none 0 0] 37;rw[d,<- R.x];exact this
 have an:=Hx.x.keep (w':=f) λb _ I=>by rw[d];exact Below.heap_alloc _ _ _ I
 have O:=kZ f (bR hT h3 U) (by omega) _ (.agg #[.slice l q t,.slice n r u,.slice o s y]) m ⟨_,_,_,rfl,an⟩ al ak;obtain⟨ok,ao⟩:=aH (aV m);rw[ao] at O⊢;have P:=U;have S:=k1;have T:=k2
 go_enter func107,ntmps107
 go_wp2_with fail;rw[<- ag.x,<- d];refine O.mono ?_;rintro e X ⟨rfl,E⟩;have K:=S.keep (E.block _ S.lt);have c:=T.keep (E.block _ T.lt);have d0:=K.cell 0;have d1:=K.cell 1;have d2:=K.cell 2;simp at d0 d1 d2;have y0:=c.cell 0;have y1:=c.cell 1;have y2:=c.cell 2;have z0:=c.free 0;have z1:=c.free 1;have z2:=c.free 2;simp at y0 y1 y2;have ai:Kpt w X:=P.trans (E.mono P.size)
 have V:∀L M N:Value,∃k,k=((X.setCell ⟨w.heap.size+1,0,none⟩ L).setCell ⟨w.heap.size+1,1,none⟩ M).setCell ⟨w.heap.size+1,2,none⟩ N /\ Blk k (w.heap.size+1) [L,M,N] 37 /\ Kpt w k:=λL M N=>
  ⟨_,rfl,set3 _ c rfl,((ai.setCell (p:=⟨w.heap.size+1,0,none⟩) (Nat.le_succ _) _).setCell (p:=⟨w.heap.size+1,1,none⟩) (Nat.le_succ _) _).setCell (p:=⟨w.heap.size+1,2,none⟩) (Nat.le_succ _) _⟩
 cases ok with
 |true=>
  obtain⟨k,J,a,H⟩:=V (.slice l q t) (.slice n r u) (.slice o s y);have B:=a.cell 0;have C:=a.cell 1;have D:=a.cell 2;have z:=H;have A:=J;go_wp2;rw[<- A];have g:=B;have i:=C;have j:=D;simp at g i j;refine bodyPost_ret (v:=.tuple #[.agg #[.slice l q t,.slice n r u,.slice o s y],.int .i64 0]) (by simp[results,results107,go_sem,g,i,j]) rfl ⟨rfl,z⟩
 |false=>
  obtain⟨k,J,a,H⟩:=V (.slice none 0 0) (.slice none 0 0) (.slice none 0 0);have B:=a.cell 0;have C:=a.cell 1;have D:=a.cell 2;have z:=H;have A:=J;go_wp2;rw[<- A];have g:=B;have i:=C;have j:=D;simp at g i j;refine bodyPost_ret (v:=.tuple #[.agg #[.slice none 0 0,.slice none 0 0,.slice none 0 0],.int .i64 7]) (by simp[results,results107,go_sem,g,i,j]) rfl ⟨rfl,z⟩
/- event. -/
theorem dX{x y z:Value}(h:Blk w' j [x,y,z] t)(g:Below i W w')(a:i <= j)(d e f:Value):
 ∃c,c=((w'.setCell ⟨j,0,none⟩ d).setCell ⟨j,1,none⟩ e).setCell ⟨j,2,none⟩ f /\ Blk c j [d,e,f] t /\ Below i W c:=
 ⟨_,rfl,set3 _ h rfl,((g.setCell (p:=⟨j,0,none⟩) a _).setCell (p:=⟨j,1,none⟩) a _).setCell (p:=⟨j,2,none⟩) a _⟩
def eJ:Value:=.agg #[.slice none 0 0,.slice none 0 0,.slice none 0 0]
theorem zy(b:∃a n c,v=.slice a n c):
 Calls aE 161 #[v] w λe d=>e=.returned (.func (.func 205) #[] #[.pointer (some ⟨w.heap.size,0,none⟩)]) /\ d=w.alloc (.cells #[v] 32):=by
 obtain⟨a,n,c,rfl⟩:=b
 go_enter func161,ntmps161
 go_wp2
 go_ret
 exact⟨rfl,rfl⟩
def C6(w:World)(m:aT)(d:Int)(l:List bQ)(e:Ending)(a:World):Prop:=
 ((aV m=false /\ e=.returned (.tuple #[eJ,.slice none 0 0,.int .i64 5])) \/ (aV m=true /\ dc d l=false /\ e=.returned (.tuple #[eJ,.slice none 0 0,.int .i64 1])) \/
  (aV m=true /\ dc d l=true /\ ∃r s,e=.returned (.tuple #[r,s,.int .i64 0]) /\ pW a w.heap.size r ⟨de m d,m.items,m.gone⟩ /\ a.ownsRow w.heap.size 9 1 s l.length ((dt l).map eS))) /\ Kpt w a
theorem uj(hT:eB w)(h3:4 <= w.heap.size)(F:aQ)(v:Value)(m:aT)(h:di F w v m)(b5:∀x∈m.items,x.key.length <= 1000000)(b4:∀x∈m.gone,x.key.length <= 1000000)
 (bn:m.items.length <= 1000000) (bo:m.gone.length <= 1000000) (d:Int) (G:aQ) (lv:Value) (l:List bQ) (aU:Rows G w 1 lv l.length (l.map eS)) (y:l.length <= 1000000) (hk:∀k∈l,k.length <= 4611686018427387903):
 Calls aE 102 #[v,.int .i64 d,lv] w (C6 w m d l):=by
 replace h:=h.mono (G:=λb=>b<w.heap.size) λb _ R=>R
 replace aU:=aU.mono (G:=λb=>b<w.heap.size) λb _ R=>R
 replace h:=jF h 37
 obtain⟨a1,p1,a2,p2,a3,p3,z,H,I,wx,rfl,h,l1,l2,l3,ab,aF,aG,bM,be,bh,Hx,bG,c0,c1,c2⟩:=h
 try rw[ab.x]
 try rw[aF.x]
 try rw[aG.x]
 rw[aF.x] at bn;rw[aG.x] at bo;obtain⟨A,bq⟩:=aH l.length;obtain⟨al,cl,rfl,-⟩:=aU.shape;rw[bq] at y⊢;have an:=bq;obtain⟨r,ai⟩:=aP (wx.alloc (.cells #[.slice none 0 0,.slice none 0 0,.slice none 0 0] 37));have bU:Kpt w r:=by rw[ai];exact be.x.alloc be.x.size _
 have cc:r.heap.size=w.heap.size+2:=by rw[ai];simp[bh.x]
 have i:∀W,Kpt r W -> Kpt w W /\ Blk W w.heap.size [.slice a1 z p1,.slice a2 H p2,.slice a3 I p3] 37 /\ Blk W (w.heap.size+1) [.slice none 0 0,.slice none 0 0,.slice none 0 0] 37 /\ ce (λb=>b<w.heap.size) W (.slice a1 z p1) (.slice a2 H p2) (.slice a3 I p3) m /\ Rows (λb=>b<w.heap.size) W 1 (.slice al l.length cl) l.length (l.map eS):=λW y=>by
  have k1:Blk r w.heap.size [.slice a1 z p1,.slice a2 H p2,.slice a3 I p3] 37:=by rw[ai];exact bG.x.alloc _
  have k2:Blk r (w.heap.size+1) [.slice none 0 0,.slice none 0 0,.slice none 0 0] 37:=by
   have:=Blk.new wx #[.slice none 0 0,.slice none 0 0,.slice none 0 0] 37;rw[ai,<- bh.x];exact this
  have bl:=bU.trans (y.mono (by omega));exact⟨bl,k1.keep (y.block _ k1.lt),k2.keep (y.block _ k2.lt),(Hx.keep (w':=r) λb _ R=>by rw[ai];exact Below.heap_alloc _ _ _ R).keep λb hb R=>y.block b (by omega),aU.keep λb _ R=>bl.block b R⟩
 have HT:∀W,Kpt r W -> eB W /\ 4 <= W.heap.size:=λW y=>⟨bR hT h3 (i W y).1,au h3 (i W y).1.size⟩
 have HC:=kZ r (HT r (Below.refl _ _)).1 (by omega) _ (.agg #[.slice a1 z p1,.slice a2 H p2,.slice a3 I p3]) m ⟨_,_,_,rfl,(i r (Below.refl _ _)).2.2.2.1⟩ b5 b4;obtain⟨ok,bt⟩:=aH (aV m);rw[bt] at HC;have U:=bt;have Hk:=hk;have bN:=cc
 go_enter func102,ntmps102
 go_wp2_with fail;rw[<- bM.x,<- ai];refine HC.mono ?_;rintro e w3 ⟨rfl,bV⟩;have az:=bV;cases ok with
 |false=>
  have a:=(i w3 az).2.2.1;obtain⟨T,t,c,u⟩:=dX a (i w3 az).1 (Nat.le_succ _) (.slice none 0 0) (.slice none 0 0) (.slice none 0 0);have C:=a.cell 0;have D:=a.cell 1;have E:=a.cell 2;have z0:=a.free 0;have z1:=a.free 1;have z2:=a.free 2;simp at C D E;have N:=c.cell 0;have O:=c.cell 1;have P:=c.cell 2;have L:=u;have M:=t;go_wp2;rw[<- M];have j:=N;have n:=O;have o:=P;simp at j n o;refine bodyPost_ret (v:=.tuple #[eJ,.slice none 0 0,.int .i64 5]) (by simp[results,results102,go_sem,j,n,o,eJ]) rfl ⟨.inl ⟨U,rfl⟩,L⟩
 |true=>
  have HV:=ae (zy w3 (.slice al A cl) ⟨_,_,_,rfl⟩);obtain⟨S,aX⟩:=aP (w3.alloc (.cells #[.slice al A cl] 32));have aO:Kpt r S:=by rw[aX];exact az.alloc az.size _
  have bm:Blk S w3.heap.size [.slice al A cl] 32:=by rw[aX];exact Blk.new _ _ _
  have⟨HS,aY,bL⟩:=ae3 (zt S _ (.slice al A cl) l w3.heap.size (by have:=(i S aO).2.2.2.2;rw[an] at this⊢;exact this) (λb hb=>by have:=(i S aO).1.size;omega) bm (by rw[an];exact y)) aO aX;clear aX aO bm;go_wp2_with fail;refine HV.x.mono ?_;rintro e w' ⟨rfl,rfl⟩;rw[<- bL.x];clear HV;go_wp2_with fail;refine HS.x.mono ?_;rintro e w5 ⟨s,rfl,bb,bW⟩;have bx:(dt l).length=A:=by rw[(ek l).length_eq];exact an
  obtain⟨sa,cs,rfl⟩:=aJ bb;rw[bx] at bb⊢;have a0:Kpt r w5:=aY.x.trans (bW.mono aY.x.size);have aZ:=a0;have aK:=bb;have ad:=bx;have a:=(i w5 a0).2.2.1;have V:=(i w5 a0).1
  by_cases cg:d<0
  ·have K:dc d l=false:=by unfold dc;simp;omega
   obtain⟨T,t,c,u⟩:=dX a V (Nat.le_succ _) (.slice none 0 0) (.slice none 0 0) (.slice none 0 0);have C:=a.cell 0;have D:=a.cell 1;have E:=a.cell 2;have z0:=a.free 0;have z1:=a.free 1;have z2:=a.free 2;simp at C D E;have N:=c.cell 0;have O:=c.cell 1;have P:=c.cell 2;have L:=u;have M:=t;go_wp2;rw[<- M];have j:=N;have n:=O;have o:=P;simp at j n o;refine bodyPost_ret (v:=.tuple #[eJ,.slice none 0 0,.int .i64 1]) (by simp[results,results102,go_sem,j,n,o,eJ]) rfl ⟨.inr (.inl ⟨U,K,rfl⟩),L⟩
  by_cases bX:d ≥ 8
  ·have K:dc d l=false:=by unfold dc;simp;omega
   obtain⟨T,t,c,u⟩:=dX a V (Nat.le_succ _) (.slice none 0 0) (.slice none 0 0) (.slice none 0 0);have C:=a.cell 0;have D:=a.cell 1;have E:=a.cell 2;have z0:=a.free 0;have z1:=a.free 1;have z2:=a.free 2;simp at C D E;have N:=c.cell 0;have O:=c.cell 1;have P:=c.cell 2;have L:=u;have M:=t;go_wp2;rw[<- M];have j:=N;have n:=O;have o:=P;simp at j n o;refine bodyPost_ret (v:=.tuple #[eJ,.slice none 0 0,.int .i64 1]) (by simp[results,results102,go_sem,j,n,o,eJ]) rfl ⟨.inr (.inl ⟨U,K,rfl⟩),L⟩
  have ch:¬d ≥ 8:=bX;have bA:=zu w5 _ (.slice sa A cs) (dt l) (by rw[ad];exact Rows.of_owns aK) (by rw[ad];exact y);go_wp2_with fail;refine bA.mono ?_;rintro e w6 ⟨c6,rfl,bs,aM⟩;have bS:Kpt r w6:=aZ.trans (aM.mono aZ.size);have bC:=bS;have cd:=br aK aM;have aR:=xN w6 w5.heap.size c6 (dt l) bs (by rw[ad];exact y) (by omega) w5.heap.size (aq _) aM.size;obtain⟨a6,d6,rfl⟩:=aJ bs;rw[ad] at aR⊢;obtain⟨J,bp⟩:=aH ((Lib.compact (dt l)).length);rw[bp] at aR;have bD:=aM;go_wp2_with fail;refine aR.mono ?_;rintro e Z ⟨⟨a7,c7,rfl⟩,a4⟩;have ar:Kpt r Z:=bC.trans (a4.mono aZ.size);have bd:=ar;have a:=(i Z ar).2.2.1;have V:=(i Z ar).1
  have aS:J=A↔l.Nodup:=by
   have:=tD l;rw[bp,an] at this;exact this
  have bg:Z.ownsRow S.heap.size 9 1 (.slice sa A cs) A ((dt l).map eS):=br aK (bD.trans a4);clear aR aK
  by_cases aW:J=A
  case neg=>
   have hI:¬(J:Int)=(A:Int):=by omega
   have cf:((J:Int) != (A:Int))=true:=by simp;omega
   have K:dc d l=false:=by
    unfold dc;rw[decide_eq_false (p:=l.Nodup) (λh=>aW (aS.2 h))];simp
   clear aS aW;obtain⟨T,t,c,u⟩:=dX a V (Nat.le_succ _) (.slice none 0 0) (.slice none 0 0) (.slice none 0 0);have C:=a.cell 0;have D:=a.cell 1;have E:=a.cell 2;have z0:=a.free 0;have z1:=a.free 1;have z2:=a.free 2;simp at C D E;have N:=c.cell 0;have O:=c.cell 1;have P:=c.cell 2;have L:=u;have M:=t;clear t c u;go_wp2;rw[<- M];have j:=N;have n:=O;have o:=P;simp at j n o;refine bodyPost_ret (v:=.tuple #[eJ,.slice none 0 0,.int .i64 1]) (by simp[results,results102,go_sem,j,n,o,eJ]) rfl ⟨.inr (.inl ⟨U,K,rfl⟩),L⟩
  have bF:=ae (aS.1 aW);subst aW;clear aS a4;obtain⟨kk,ba⟩:=aH ((dt l).all eY)
  have bf:=ae (show l.all eY=kk by
   rw[<- ba,Bool.eq_iff_iff,List.all_eq_true,List.all_eq_true]
   exact⟨λh x X=>h x ((ek l).mem_iff.1 X),λh x X=>h x ((ek l).mem_iff.2 X)⟩)
  have a5:=qY Z (HT Z ar).1 (HT Z ar).2 _ (.slice sa J cs) (dt l) (by rw[ad];exact Rows.of_owns bg) (by rw[ad];exact y) (λk hk=>Hk k ((ek l).mem_iff.1 hk));rw[ba] at a5;have bz:=ae a5;clear a5 ba a V;go_wp2_with fail;refine bz.x.mono ?_;rintro e B ⟨rfl,bj⟩;have av:Kpt r B:=bd.trans (bj.mono bd.size);have aa:=av;have a:=(i B av).2.2.1;have V:=(i B av).1;have bH:=br bg bj;cases kk with
  |false=>
   have K:dc d l=false:=by unfold dc;rw[bf.x];simp
   obtain⟨T,t,c,u⟩:=dX a V (Nat.le_succ _) (.slice none 0 0) (.slice none 0 0) (.slice none 0 0);have C:=a.cell 0;have D:=a.cell 1;have E:=a.cell 2;have z0:=a.free 0;have z1:=a.free 1;have z2:=a.free 2;simp at C D E;have N:=c.cell 0;have O:=c.cell 1;have P:=c.cell 2;have L:=u;have M:=t;go_wp2;rw[<- M];have j:=N;have n:=O;have o:=P;simp at j n o;refine bodyPost_ret (v:=.tuple #[eJ,.slice none 0 0,.int .i64 1]) (by simp[results,results102,go_sem,j,n,o,eJ]) rfl ⟨.inr (.inl ⟨U,K,rfl⟩),L⟩
  |true=>
   have K:dc d l=true:=by
    unfold dc;rw[bf.x,decide_eq_true bF.x];simp;omega
   have km:=(i B av).2.1;have d0:=km.cell 0;have d1:=km.cell 1;have d2:=km.cell 2;simp at d0 d1 d2;have f:=cA U;have bB:=rS B _ (.agg #[.slice a1 z p1,.slice a2 H p2,.slice a3 I p3]) m ⟨_,_,_,rfl,(i B av).2.2.2.1⟩ (by rw[f.len];omega) (by rw[aF.x];exact bn) (by rw[aG.x];exact bo);have Hf:=f;go_wp2_with fail;refine bB.mono ?_;rintro e Q ⟨⟨r9,rfl,s1,s2,s3,rfl,ag⟩,bk⟩;have bi:Kpt r Q:=aa.trans (bk.mono aa.size);obtain⟨b1,c1,bu⟩:=aJ ag.seen;obtain⟨b2,c2,bv⟩:=aJ ag.items;obtain⟨b3,c3,bw⟩:=aJ ag.gone;rw[ab.x] at bu;rw[aF.x] at bv;rw[aG.x] at bw;subst bu bv bw;have bI:=br bH bk
   obtain⟨g,rfl⟩:∃g,b1=some ⟨g,0,none⟩:=by
    rcases ag.seen.2 with⟨_,h0⟩|⟨g,bO,bP,hv,_⟩
    ·have:=Hf.len;omega
    ·simp at hv;exact⟨g,hv.1⟩
   obtain⟨q,rfl⟩:=Int.eq_ofNat_of_zero_le (show 0 <= d by omega);have hq:q<m.seen.length:=by have:=Hf.len;omega
   obtain⟨x,X⟩:=aH m.seen[q];obtain⟨cq,cr⟩:=Hf.seen x (by rw[<- X];exact aC hq);have ax:=ag.seen;rw[ab.x] at ax
   have e0:Q.cell? ⟨g,q,none⟩=some (.int .i64 x):=by
    rw[ax.cellAt q (by rw[<- ab.x];omega)];simp[hq,X]
   have f0:=ax.frozenAt q;have co:(q:Int)<(z:Int):=by rw[<- ab.x];omega
   obtain⟨ca,b0⟩:=ax.stored q (.int .i64 (x+1))
   have bY:B.heap.size <= g /\ g<Q.heap.size:=by
    rcases ax.2 with⟨hh,_⟩|⟨g',bO,bP,hv,hb,hg,_⟩
    ·simp at hh
    ·simp at hv;obtain⟨rfl,-⟩:=hv;exact⟨hb,lt_of_block hg⟩
   obtain⟨ci,cj⟩:=bY;have a:=(i Q bi).2.2.1;have C:=a.cell 0;have D:=a.cell 1;have E:=a.cell 2;have z0:=a.free 0;have z1:=a.free 1;have z2:=a.free 2;simp at C D E;have cp:=(i B aa).1.size;have cu:=aa.size;have ct:=bN;have cm:g≠w.heap.size+1:=by omega
   have cn:g≠Q.heap.size:=by omega
   have ck:w.heap.size+1<Q.heap.size:=by omega
   have bK:=ca;have bE:=b0;have ao:=ag;have Hx:=X;go_wp2_with fail;obtain⟨ak,ay⟩:=aP (Q.setCell ⟨g,q,none⟩ (.int .i64 (x+1)));rw[<- ay]
   have bT:Kpt w ak:=by
    rw[ay];exact(i Q bi).1.setCell (by have:=(i B aa).1.size;show w.heap.size <= g;omega) _
   have Y:Blk ak (w.heap.size+1) [.slice none 0 0,.slice none 0 0,.slice none 0 0] 37:=by
    rw[ay];exact a.set_other _ (by show w.heap.size+1≠g;omega)
   obtain⟨T,t,c,u⟩:=dX Y bT (Nat.le_succ _) (.slice (some ⟨g,0,none⟩) z c1) (.slice b2 H c2) (.slice b3 I c3);have bc:w.heap.size <= B.heap.size:=(i B aa).1.size;have cb:w.heap.size <= S.heap.size:=(i S aY.x).1.size;have a8:Q.grownBy ak (some g):=by rw[ay];exact bE
   have b8:dU ak w.heap.size (.slice (some ⟨g,0,none⟩) z c1) (.slice b2 H c2) (.slice b3 I c3) ⟨de m q,m.items,m.gone⟩:=by
    refine⟨?_,bJ (bZ ao.items ao.seen (by decide) a8) bc,bJ (bZ ao.gone ao.seen (by decide) a8) bc⟩;have h1:=bJ bK bc;rw[<- ay] at h1;have h2:(de m q).length=z:=by unfold de;simp;exact ab.x
    have h3:(de m q).map eI=(m.seen.map eI).set q (.int .i64 (x+1)):=by
     unfold de;rw[List.map_set,Int.toNat_natCast,List.getD_eq_getElem?_getD,List.getElem?_eq_getElem hq,Hx];rfl
    show ak.ownsRow w.heap.size 3 1 _ (de m q).length ((de m q).map eI);rw[h2,h3];exact h1
   have b6:ak.ownsRow w.heap.size 9 1 (.slice sa J cs) J ((dt l).map eS):=bJ (bZ bI ao.seen (by decide) a8) cb
   have b9:dU T w.heap.size (.slice (some ⟨g,0,none⟩) z c1) (.slice b2 H c2) (.slice b3 I c3) ⟨de m q,m.items,m.gone⟩:=by
    rw[t];exact((b8.setCell Y _).setCell (Y.set 0 _) _).setCell ((Y.set 0 _).set 1 _) _
   have b7:T.ownsRow w.heap.size 9 1 (.slice sa J cs) J ((dt l).map eS):=by
    rw[t];exact aL (aL (aL b6 Y (by decide) _) (Y.set 0 _) (by decide) _) ((Y.set 0 _).set 1 _) (by decide) _
   rw[<- t];have aN:=aI T (.cells #[.slice (some ⟨g,0,none⟩) z c1,.slice b2 H c2,.slice b3 I c3] 37);have a9:=c.keep (aN.block _ c.lt);have j:=a9.cell 0;have n:=a9.cell 1;have o:=a9.cell 2;simp at j n o
   refine bodyPost_ret (v:=.tuple #[.agg #[.slice (some ⟨g,0,none⟩) z c1,.slice b2 H c2,.slice b3 I c3],.slice sa J cs,.int .i64 0]) (by simp[results,results102,go_sem,j,n,o]) rfl
    ⟨.inr (.inr ⟨U,K,_,_,rfl,⟨_,_,_,rfl,b9.below aN⟩,by rw[an];exact br b7 aN⟩),u.trans (aN.mono u.size)⟩
end
theorem qv(v:Int)(w:World):
 Calls aE 194 #[.int .i64 v] w λe a=>e=.returned (.int .i64 (DM.bnd v)) /\ w=a:=by
 go_enter func194,ntmps194
 go_wp2
 all_goals (go_ret;refine⟨fv ?_,rfl⟩;unfold DM.bnd;(try split at *)<;>omega)
theorem BE(v:Int)(w:World):
 Calls aE 228 #[.int .i64 v] w λe a=>e=.returned (.int .i64 (DM.bnd v)) /\ w=a:=by
 go_enter func228,ntmps228
 go_wp2
 all_goals (go_ret;refine⟨fv ?_,rfl⟩;unfold DM.bnd;omega)
theorem rV(v l n:Int)(a b:Nat)(w:World)(c:et w a (.int .i64 l) 3)(d:et w b (.int .i64 n) 3)(o:a≠b)(k:1 <= n)(m:n <= 9223372036854775807):
 Calls aE 196 #[.int .i64 v,.pointer (some ⟨a,0,none⟩),.pointer (some ⟨b,0,none⟩)] w λe f=>
  e=.returned (.bool (decide (1<n))) /\ f=(w.setCell ⟨a,0,none⟩ (.int .i64 v)).setCell ⟨b,0,none⟩ (.int .i64 (n-1)):=by
 have g:=c.cell;have h:=d.cell;have i:=c.free;have j:=d.free
 go_enter func196,ntmps196
 go_wp2
 go_ret
 exact⟨rfl,rfl⟩
def ED(w0:World)(a b:Nat)(v:Int)(n:Int)(u:Value)(wr:World):Prop:=
 ∃k:Nat,(k:Int)<n /\ u=.int .i64 (DM.aft k v) /\ et wr a (.int .i64 (DM.aft k v)) 3 /\ et wr b (.int .i64 (n-k)) 3 /\ (∀B,B <= a -> B <= b -> Below B w0 wr)
theorem zz(v n:Int)(a b:Nat)(w:World)(C:et w a (.int .i64 v) 3)(D:et w b (.int .i64 n) 3)(g:a≠b)(G:1 <= n)(H:n <= 9223372036854775807)
 (r:0 <= v) (L:v <= 1099511627776):
 Calls aE 195 #[.int .i64 v,.func (.func 196) #[] #[.pointer (some ⟨a,0,none⟩),.pointer (some ⟨b,0,none⟩)]] w λe h=>
  e=.returned (.tuple #[]) /\ et h a (.int .i64 (DM.aft n.toNat v)) 3 /\ (∀B,B <= a -> B <= b -> Below B w h):=by
 go_enter func195,ntmps195
 go_wp2
 go_loopw [0] (λu wr=>ED w a b v n u wr) (λu _=>(intOf u).toNat)
 ·exact⟨0,by omega,rfl,C,by simpa using D,λB _ _=>Below.refl _ _⟩
 ·obtain⟨k,F,rfl,f,m,l⟩:=hrel;have y:=DM.aft_nonneg k v r;have c:=DM.aft_le k v r;generalize E:DM.aft k v=x at *;have p:=E
  by_cases o:0<x
  ·have I:=DM.stp_lt x o;have J:=DM.stp_nonneg x y;have i:DM.aft (k+1) v=DM.stp x:=by rw[DM.aft_succ',p,if_pos o]
   have K:x-(x+255)/256=DM.stp x:=rfl
   by_cases q:1<n-k
   ·have z:decide (1<n-(k:Int))=true:=by simpa using q
    go_wp2_with (go_at_call 196;refine(rV _ x (n-k) a b wr f m g (by omega) (by omega)).mono ?_;rintro e h ⟨rfl,rfl⟩)
    go_roundw
    ·exact⟨k+1,by omega,by rw[i],by rw[i];exact(f.set).other _ g,by rw[show n-((k+1:Nat):Int)=n-k-1 from by omega];exact(m.other _ g.symm).set,λB c d=>((l B c d).setCell c _).setCell d _⟩
    ·simp[intOf];omega
   ·have z:decide (1<n-(k:Int))=false:=by simpa using q
    go_wp2_with (go_at_call 196;refine(rV _ x (n-k) a b wr f m g (by omega) (by omega)).mono ?_;rintro e h ⟨rfl,rfl⟩);refine bodyPost_ret (results_none rfl _ _ _) rfl ?_;refine⟨rfl,?_,λB c d=>((l B c d).setCell c _).setCell d _⟩;rw[show n.toNat=k+1 from by omega,i];exact(f.set).other _ g
  ·have s:DM.aft n.toNat v=x:=by
    obtain⟨j,A⟩:∃j,n.toNat=k+j:=⟨n.toNat-k,by omega⟩
    rw[A,<- DM.aft_add,p,DM.aft_zero_of _ _ o]
   have t:=ae s;clear s
   go_wp2
   go_end0
   exact⟨rfl,by rw[t.x];exact f,l⟩
theorem uk(v n:Int)(w:World)(h:n <= 9223372036854775807):
 Calls aE 144 #[.int .i64 v,.int .i64 n] w λe a=>e=.returned (.int .i64 (DM.aft n.toNat (DM.bnd v))) /\ Below w.heap.size w a:=by
 have c:=DM.bnd_nonneg v;have d:=DM.bnd_le v
 by_cases l:n <= 0
 ·go_enter func144,ntmps144
  go_wp2_with (go_at_call 194;refine(qv _ _).mono ?_;rintro e a ⟨rfl,rfl⟩)
  go_ret
  exact⟨fv (by rw[show n.toNat=0 from by omega];rfl),(Below.refl _ _).alloc (aq _) _⟩
 ·generalize i:DM.bnd v=x at *
  go_enter func144,ntmps144
  go_wp2_with fail;refine(qv _ _).mono ?_;rintro e a ⟨rfl,rfl⟩;rw[i];go_wp2_with fail;refine(zz x n (w.heap.size+1) w.heap.size _ (by simpa using et.new (w.alloc (.cells #[.int .i64 n] 3)) (.int .i64 x) 3) ((et.new w _ _).alloc _) (by omega) (by omega) h c d).mono ?_;rintro e a ⟨rfl,b,f⟩;have g:=f w.heap.size (by omega) (by omega);have j:=b.cell;have k:=b.free;go_wp2
  go_ret
  exact⟨rfl,(((Below.refl _ _).alloc (aq _) _).alloc (by simp) _).trans g⟩
theorem EE(v n:Int)(w:World)(d:n <= 9223372036854775807):
 Calls aE 106 #[.int .i64 v,.int .i64 n] w λe b=>e=.returned (.int .i64 (DM.aft n.toNat (DM.bnd v)+65536)) /\ Below w.heap.size w b:=by
 have a:=DM.bnd_nonneg v;have h:=DM.bnd_le v;have a0:=DM.aft_nonneg n.toNat (DM.bnd v) a;have g:=DM.aft_le n.toNat (DM.bnd v) a;generalize f:DM.aft n.toNat (DM.bnd v)=x at *
 go_enter func106,ntmps106
 go_wp2_with fail;refine(uk _ _ _ d).mono ?_;rintro e b ⟨rfl,c⟩;rw[f];go_wp2
 go_ret
 exact⟨rfl,c⟩
theorem vy(v n:Int)(w:World)(B:n <= 9223372036854775807):
 Calls aE 214 #[.int .i64 v,.int .i64 n] w λe g=>e=.returned (.int .i64 (DM.aft n.toNat (DM.bnd v))) /\ w=g:=by
 have f:=DM.bnd_nonneg v;have s:=DM.bnd_le v;generalize q:DM.bnd v=x at *
 go_enter func214,ntmps214
 go_wp2_with fail;refine(BE _ _).mono ?_;rintro e g ⟨rfl,rfl⟩;rw[q];go_wp2
 go_loop [0,5] (λu i=>∃k:Nat,(k:Int) <= max n 0 /\ i=.int .i64 k /\ u=.int .i64 (DM.aft k x)) (λu _=>(intOf u).toNat)
 ·exact⟨0,by omega,rfl,rfl⟩
 ·obtain⟨k,z,rfl,rfl⟩:=hrel;have l:=DM.aft_nonneg k x f;have t:=DM.aft_le k x f;generalize r:DM.aft k x=y at *;have b:=r
  by_cases A:(k:Int)<n
  ·by_cases d:0<y
   ·have C:=DM.stp_lt y d;have D:=DM.stp_nonneg y l;have m:DM.aft (k+1) x=DM.stp y:=by rw[DM.aft_succ',b,if_pos d]
    have h:=ae m;have p:=DM.stp_mul y
    go_wp2
    go_round
    ·exact⟨k+1,by omega,by go_num,by rw[h.x,p]⟩
    ·simp[intOf];omega
   ·have a:DM.aft n.toNat x=y:=by
     obtain⟨j,o⟩:∃j,n.toNat=k+j:=⟨n.toNat-k,by omega⟩
     rw[o,<- DM.aft_add,b,DM.aft_zero_of _ _ d]
    have c:=ae a;clear a
    go_wp2
    go_ret
    exact⟨fv (by rw[c.x]),rfl⟩
  ·have a:DM.aft n.toNat x=y:=by rw[show n.toNat=k from by omega,b]
   have c:=ae a;clear a
   go_wp2
   go_ret
   exact⟨fv (by rw[c.x]),rfl⟩
theorem zA(v n:Int)(w:World)(c:n <= 9223372036854775807):
 Calls aE 180 #[.int .i64 v,.int .i64 n] w λe b=>e=.returned (.int .i64 (DM.aft n.toNat (DM.bnd v)+65536)) /\ w=b:=by
 have a:=DM.bnd_nonneg v;have g:=DM.bnd_le v;have a0:=DM.aft_nonneg n.toNat (DM.bnd v) a;have f:=DM.aft_le n.toNat (DM.bnd v) a;generalize d:DM.aft n.toNat (DM.bnd v)=x at *
 go_enter func180,ntmps180
 go_wp2_with fail;refine(vy _ _ _ c).mono ?_;rintro e b ⟨rfl,rfl⟩;rw[d];go_wp2
 go_ret
 exact⟨rfl,rfl⟩
section
attribute [local go_sem ↓] aU
attribute [local go_sem] opC upC told bE bm bF bp bq bG bH
def xO:Value -> Nat
 |.slice _ n _=>n
 |_=>0
def FA{α:Type}(pl:α -> RPl)(c:α -> α -> α)(enc:α -> List Value)(k:Nat)(g:TypeId)(w:World)(A B R:List α)(d e f:Value)(wr:World):Prop:=
 ∃(i j:Nat)(a:List α),i <= A.length /\ j <= B.length /\ Rows (λb=>b<w.heap.size) wr k d (A.drop i).length ((A.drop i).flatMap enc) /\ Rows (λb=>b<w.heap.size) wr k e (B.drop j).length ((B.drop j).flatMap enc) /\
  wr.ownsRow w.heap.size g k f a.length (a.flatMap enc) /\ a++cH pl c (A.drop i) (B.drop j)=R /\ a.length <= i+j /\ Kpt w wr
theorem xP(h:Rows G W i u j L):∃a c,u=.slice a j c /\ j <= c /\ c <= maxLen:=by
 obtain⟨a,c,rfl,b,d,-⟩:=h.shape;exact⟨a,c,rfl,b,d⟩
theorem mK{k n b d c:Nat}{X:List Value}{e:Option Addr}(h:Rows G W k (.slice (some ⟨b,d,none⟩) n c) n X)(B:1 <= n)(a:(if c=1 then some (⟨b,d,none⟩:Addr) else some ⟨b,d+k,none⟩)=e):
 Rows G W k (.slice e (n-1) (c-1)) (n-1) (X.drop k):=by
 obtain⟨u,x,j,y,A,C,o,h⟩:=h;simp at j;obtain⟨rfl,rfl⟩:=j
 obtain⟨q,rfl⟩:∃q,n=q+1:=⟨n-1,by omega⟩
 simp only[Nat.add_sub_cancel];have r:(q+1)*k=q*k+k:=Nat.succ_mul q k;refine⟨e,c-1,rfl,by omega,by omega,λm=>?_,by rw[List.length_drop,o,r];omega,?_⟩
 ·rw[m] at a;split at a<;>cases a
 ·rcases Nat.eq_zero_or_pos q with f|f
  ·exact .inl f
  ·right;rcases h with h|⟨v,D,L,t,l,g,hF,p,z,s⟩
   ·omega
   ·simp at g;obtain⟨rfl,rfl⟩:=g;rw[if_neg (by omega)] at a;refine⟨b,d+k,L,t,l,a.symm,hF,p,by omega,λi hi=>?_⟩;have:=s (k+i) (by omega);rw[Nat.add_assoc,this,List.getElem?_drop]
theorem g9{α:Type}(a:α -> List Value)(k:Nat)(b:∀x,(a x).length=k)(A:List α)(i:Nat)(h:i<A.length):((A.drop i).flatMap a).drop k=(A.drop (i+1)).flatMap a:=by
 rw[List.drop_eq_getElem_cons h,List.flatMap_cons,<- b A[i],List.drop_left]
theorem gl{α:Type}(a:α -> List Value)(b:List α)(x:α):(b++[x]).flatMap a=b.flatMap a++a x:=by simp
def iS(w:World)(b o:Nat)(L:List Value):Prop:=∀j (h:j<L.length),w.cell? ⟨b,o+j,none⟩=some L[j]
theorem iS.keep{w w':World}(h:iS w i o L)(a:w'.heap[i]?=w.heap[i]?):iS w' i o L:=λj c=>by
 have:=h j c;unfold World.cell? at *;rw[a];exact this
theorem vz{α:Type}{c:α -> List Value}{k n g:Nat}{a:Option Addr}{l:List α}(h:Rows G W k (.slice a n g) l.length (l.flatMap c))(m:0<l.length)(f:∀x,(c x).length=k):
 ∃b d,a=some ⟨b,d,none⟩ /\ G b /\ b<W.heap.size /\ ∀i (hi:i<l.length),iS W b (d+i*k) (c l[i]):=by
 obtain⟨b,d,rfl,hF,o,p⟩:=h.cells m;refine⟨b,d,rfl,hF,o,λi hi j e=>?_⟩;rw[Nat.add_assoc];exact p _ _ (by rw[fD c k f l i j hi (by rw[<- f l[i]];exact e),List.getElem?_eq_getElem e])
theorem kD{C:World -> Prop}{x:RIt}(h:∀a,C a -> iS a i j (bT x)):
 (∀a,C a -> a.cell? ⟨i,j,none⟩=some (.string ⟨x.key.toArray⟩)) /\ (∀a,C a -> a.cell? ⟨i,j+1,none⟩=some (.int .i64 x.dev)) /\ (∀a,C a -> a.cell? ⟨i,j+2,none⟩=some (.int .i64 x.seq)) /\ ∀a,C a -> a.cell? ⟨i,j+3,none⟩=some (.int .i64 x.val):=
 ⟨λa c=>h a c 0 (Nat.le_of_ble_eq_true rfl),λa c=>h a c 1 (Nat.le_of_ble_eq_true rfl),λa c=>h a c 2 (Nat.le_of_ble_eq_true rfl),λa c=>h a c 3 (Nat.le_of_ble_eq_true rfl)⟩
theorem kE{C:World -> Prop}{x:RGo}(h:∀a,C a -> iS a i j (du x)):
 (∀a,C a -> a.cell? ⟨i,j,none⟩=some (.string ⟨x.key.toArray⟩)) /\ (∀a,C a -> a.cell? ⟨i,j+1,none⟩=some (.int .i64 x.dev)) /\ (∀a,C a -> a.cell? ⟨i,j+2,none⟩=some (.int .i64 x.seq)) /\ True:=
 ⟨λa c=>h a c 0 (Nat.le_of_ble_eq_true rfl),λa c=>h a c 1 (Nat.le_of_ble_eq_true rfl),λa c=>h a c 2 (Nat.le_of_ble_eq_true rfl),trivial⟩
theorem mc{x:RIt}(h:iS W i j (bT x)):
 W.cell? ⟨i,j,none⟩=some (.string ⟨x.key.toArray⟩) /\ W.cell? ⟨i,j+1,none⟩=some (.int .i64 x.dev) /\ W.cell? ⟨i,j+2,none⟩=some (.int .i64 x.seq) /\ W.cell? ⟨i,j+3,none⟩=some (.int .i64 x.val):=
 ⟨h 0 (Nat.le_of_ble_eq_true rfl),h 1 (Nat.le_of_ble_eq_true rfl),h 2 (Nat.le_of_ble_eq_true rfl),h 3 (Nat.le_of_ble_eq_true rfl)⟩
theorem me{x:RGo}(h:iS W i j (du x)):
 W.cell? ⟨i,j,none⟩=some (.string ⟨x.key.toArray⟩) /\ W.cell? ⟨i,j+1,none⟩=some (.int .i64 x.dev) /\ W.cell? ⟨i,j+2,none⟩=some (.int .i64 x.seq) /\ True:=
 ⟨h 0 (Nat.le_of_ble_eq_true rfl),h 1 (Nat.le_of_ble_eq_true rfl),h 2 (Nat.le_of_ble_eq_true rfl),trivial⟩
theorem rj{d k K r:Nat}{z:Value}(A:(aE.info? d).map (λi=>(i.zero,i.size,i.bytes))=some (some z,K,r))(I:aE.underlying k=some (.slice d))(J:z.cells.size=K)(E:0<K)(C:r <= 40)(w:World){a:Option Addr}{c:Nat}(h:w.ownsRow j d K (.slice a o c) o L)(f:Array Value)(D:f.size=K)(x:∀u∈f.toList,u.oneCell'=true)(t:o <= 4000000)(y:j <= w.heap.size):
 ∃l p s m,l=w.alloc (.cells f d) /\ (AP #[k,k] k #[.slice a o c,.slice (some ⟨w.heap.size,0,none⟩) 1 1]).run aE l=.ok (.slice p (o+1) s) m /\ m.ownsRow j d K (.slice p (o+1) s) (o+1) (L++f.toList) /\ bI (λb=>j <= b) w l /\ bI (λb=>j <= b) l m:=by
 obtain⟨T,M,N,O,Q⟩:=info_parts A;obtain⟨U,V,H,v,g⟩:=cu (P:=aE) w j k d I M N O Q J E (.slice a o c) o _ h f D x (by unfold maxLen;omega) (by have:=Nat.mul_le_mul (show o+1 <= 4000001 by omega) C;omega) y;obtain⟨R,S,rfl⟩:=aJ v;have F:=br h (aI w (.cells f d));exact⟨_,_,_,_,rfl,H,v,bI.of_below (aI _ _),⟨g.os,g.tape,g.output,g.size,λq G t=>g.block q G (λe=>t (F.lt q e.symm).1)⟩⟩
def Fe(e f:Nat):Prop:=∀(w:World){B n:Nat}{a:Option Addr}{c:Nat}{L:List Value},w.ownsRow B e 4 (.slice a n c) n L -> ∀x:RIt,n <= 4000000 -> B <= w.heap.size ->
 ∃d h i g,d=w.alloc (.cells #[.string ⟨x.key.toArray⟩,.int .i64 x.dev,.int .i64 x.seq,.int .i64 x.val] e) /\ (AP #[f,f] f #[.slice a n c,.slice (some ⟨w.heap.size,0,none⟩) 1 1]).run aE d=.ok (.slice h (n+1) i) g /\ g.ownsRow B e 4 (.slice h (n+1) i) (n+1) (L++bT x) /\ bI (λb=>B <= b) w d /\ bI (λb=>B <= b) d g
def Ff(e f:Nat):Prop:=∀(w:World){B n:Nat}{a:Option Addr}{c:Nat}{L:List Value},w.ownsRow B e 3 (.slice a n c) n L -> ∀x:RGo,n <= 4000000 -> B <= w.heap.size ->
 ∃d h i g,d=w.alloc (.cells #[.string ⟨x.key.toArray⟩,.int .i64 x.dev,.int .i64 x.seq] e) /\ (AP #[f,f] f #[.slice a n c,.slice (some ⟨w.heap.size,0,none⟩) 1 1]).run aE d=.ok (.slice h (n+1) i) g /\ g.ownsRow B e 3 (.slice h (n+1) i) (n+1) (L++du x) /\ bI (λb=>B <= b) w d /\ bI (λb=>B <= b) d g
theorem zB:Fe 108 34:=λw _ _ _ _ _ h x=>rj mH underlying34 rfl (by decide) (by decide) w h _ rfl (by simp[Value.oneCell'])
theorem zC:Ff 111 35:=λw _ _ _ _ _ h x=>rj mI underlying35 rfl (by decide) (by decide) w h _ rfl (by simp[Value.oneCell'])
theorem vA:Fe 129 72:=λw _ _ _ _ _ h x=>rj mG underlying72 rfl (by decide) (by decide) w h _ rfl (by simp[Value.oneCell'])
theorem vC:Ff 130 73:=λw _ _ _ _ _ h x=>rj rg underlying73 rfl (by decide) (by decide) w h _ rfl (by simp[Value.oneCell'])
theorem rW(o:Obj):(w.alloc o).drew=w.drew.alloc o:=rfl
def Gb{α:Type}(pl:α -> RPl)(enc:α -> List Value)(V:α -> Value)(K g k l:Nat):Prop:=
 ∀(w:World)(F G:aQ)(h i:Value)(A B:List α)(c:Nat)(f:Array Value)(d:α -> α -> α),(∀a b,(callFunc c a).run aE b=.ok (.enter c a) b) -> Rows F w K h A.length (A.flatMap enc) -> Rows G w K i B.length (B.flatMap enc) -> A.length <= 1000000 -> B.length <= 1000000 ->
  (∀x∈A,∀y∈B,pl x=pl y -> ∀W,Kpt w W -> Calls aE c (#[V x,V y]++f) W λe b=>e=.returned (V (d x y)) /\ Kpt W b) ->
  ∀(R:List α)(j:Value -> Value -> Value -> World -> Prop),cH pl d A B=R -> j=FA pl d enc K g w A B R ->
  Calls aE k #[h,i,.func (.func l) #[] #[],.func (.func c) #[] f] w λe b=>
   ∃r,e=.returned r /\ b.ownsRow w.heap.size g K r R.length (R.flatMap enc) /\ Kpt w b
theorem vD:Gb RIt.pl bT itV 4 108 103 104 /\ Gb RGo.pl du goV 3 111 111 112:=by
 constructor<;>intro w F G va vb A B fb lb ay bY ha n bZ b0 bv R bt hR bd
 all_goals
  replace ha:=ha.mono (G:=λb=>b<w.heap.size) λb _ d=>d
  replace n:=n.mono (G:=λb=>b<w.heap.size) λb _ d=>d
  have⟨HS,bC,az⟩:=ae3 (show bt va vb (.slice none 0 0) w by rw[bd];exact⟨0,0,[],by omega,by omega,by simpa using ha,by simpa using n,World.ownsRow_nil _ _ _ _,by simpa using hR,by simp,Below.refl _ _⟩) bv bd;obtain⟨aa,ca,rfl,-⟩:=ha.shape;obtain⟨ab,cb,rfl,-⟩:=n.shape;clear ha n hR bv bd
  first|go_enter func103,ntmps103|go_enter func111,ntmps111
  go_wp2
  go_loopw [0,1,9] (λs0 s1 s9 wr=>bt s0 s1 s9 wr) (λs0 s1 _ _=>xO s0+xO s1)
  ·exact HS.x
  ·rw[az.x] at hrel;obtain⟨i,j,aX,hi,hj,v,C,bn,hR,bM,bw⟩:=hrel;obtain⟨a0,c0,rfl,bF,bH⟩:=xP v;obtain⟨a1,c1,rfl,bG,bJ⟩:=xP C;obtain⟨a9,c9,bQ⟩:=aJ bn;subst bQ;obtain⟨O,aT⟩:=aH ((A.drop i).length);obtain⟨P,aU⟩:=aH ((B.drop j).length);obtain⟨np,bm⟩:=aH aX.length;have⟨HA,HB,HO,HR,ad⟩:=ae5 v C bn hR bw;rw[aT] at bF⊢;rw[aU] at bG⊢;rw[bm] at bM⊢;have⟨S,T,s⟩:=ae3 aT aU bm;have bA:O=A.length-i:=by rw[<- aT];simp
   have bB:P=B.length-j:=by rw[<- aU];simp
   have⟨ar,av⟩:=ae2 bA bB;clear v C bn hR aT aU bm bw HS bA bB;unfold maxLen at bH bJ
   by_cases aL:0<O /\ 0<P
   ·obtain⟨h0,f⟩:=aL;have bR:(0:Int)<(O:Int):=by omega
    have bU:(0:Int)<(P:Int):=by omega
    have bS:(1:Int) <= (O:Int):=by omega
    have bV:(1:Int) <= (P:Int):=by omega
    have U:i<A.length:=by have:=ar.x;omega
    have V:j<B.length:=by have:=av.x;omega
    have v:=HA.x;have C:=HB.x;obtain⟨t,Y,rfl,bW,bk,bx⟩:=vz v (by rw[S.x];exact h0) (λ_=>rfl);obtain⟨u,Z,rfl,bX,bl,bz⟩:=vz C (by rw[T.x];exact f) (λ_=>rfl);obtain⟨x,hx⟩:=aH A[i];obtain⟨y,hy⟩:=aH B[j];have L:=bx 0 (by rw[S.x];exact h0);have M:=bz 0 (by rw[T.x];exact f);rw[show(A.drop i)[0]'(by rw[S.x];exact h0)=x by rw[List.getElem_drop];simpa using hx,Nat.zero_mul,Nat.add_zero] at L;rw[show(B.drop j)[0]'(by rw[T.x];exact f)=y by rw[List.getElem_drop];simpa using hy,Nat.zero_mul,Nat.add_zero] at M;have aI:=ae (λa (hh:aM (λb=>w.heap.size <= b) wr a)=>And.intro (L.keep (hh.block t bk (by omega))) (M.keep (hh.block u bl (by omega))))
    first|obtain⟨p0,p1,p2,p3⟩:=kD λa (hh:aK wr.drew a)=>L.keep (RowKit.Below.block hh t bk)|obtain⟨p0,p1,p2,p3⟩:=kE λa (hh:aK wr.drew a)=>L.keep (RowKit.Below.block hh t bk)
    first|obtain⟨q0,q1,q2,q3⟩:=kD λa (hh:aK wr.drew a)=>M.keep (RowKit.Below.block hh u bl)|obtain⟨q0,q1,q2,q3⟩:=kE λa (hh:aK wr.drew a)=>M.keep (RowKit.Below.block hh u bl)
    have a4:=ae (λW=>by first|exact g7 W x|exact g8 W x);have a7:=ae (λW=>by first|exact g7 W y|exact g8 W y);simp only[itV,goV] at a4 a7;have HC:=ae (λW=>j7 W x.pl y.pl);have⟨Hx,Hy⟩:=ae2 hx hy;clear bx bz hx hy L M v C;go_wp2_with fail;refine bP aK (up 4 [5,6,7,8,504,509,510,11]) (by kernel_rfl) ?_;apply aG;rfl;intro a D;go_simp;(repeat (simp(disch:=omega) only[af,if_pos];go_simp));exact aF;refine aY rfl rfl (λk c=>?_);go_simp;refine(a4.x _).mono ?_;rintro e w1 ⟨rfl,be⟩;refine⟨_,rfl,be,c _ _ ?_⟩;clear c k a4 p0 p1 p2 p3 q0 q1 q2 q3;go_simp;have bq:=ae (show aK wr w1 from(Below.refl _ _).drew.trans be);clear be;apply aG;rfl;intro a D;go_simp;(repeat (simp(disch:=omega) only[af,if_pos];go_simp));exact aF;refine aY rfl rfl (λk c=>?_);go_simp;refine(a7.x _).mono ?_;rintro e w2 ⟨rfl,bf⟩;refine⟨_,rfl,bf,c _ _ ?_⟩;clear c k a7;go_simp;have bs:=ae (bL _ _ _ bq.x bf);clear bf bq;apply aG;rfl;intro a D;go_simp;(repeat (simp(disch:=omega) only[af,if_pos];go_simp));exact aF;refine aY rfl rfl (λk c=>?_);go_simp;refine(HC.x _).mono ?_;rintro e g ⟨rfl,bg⟩;refine⟨_,rfl,bg,c _ _ ?_⟩;clear c k HC;go_simp;have ai:aK wr g:=bL _ _ _ bs.x bg;have bu:Kpt w g:=ad.x.trans (RowKit.Below.mono ai ad.x.size);obtain⟨L,M⟩:=aI.x g (aM.of_below ai)
    first|obtain⟨e0,e1,e2,e3⟩:=mc L|obtain⟨e0,e1,e2,e3⟩:=me L
    first|obtain⟨g0,g1,g2,g3⟩:=mc M|obtain⟨g0,g1,g2,g3⟩:=me M
    have⟨a3,aZ,a2,a8,r⟩:=ae5 (br HO.x ai) (HA.x.keep (w':=g) λb n d=>RowKit.Below.block ai b d) (HB.x.keep (w':=g) λb n d=>RowKit.Below.block ai b d) ai bu;clear bg bs bu ai L M
    by_cases d:plt x.pl y.pl
    ·have X:ij x.pl y.pl = -1:=by unfold ij;rw[if_pos d]
     rw[X];have ao:=ae (wU ay A B i j U V (by rw[Hx.x,Hy.x];exact d));clear X d;apply aG;rfl;intro a D;go_simp;(repeat (simp(disch:=omega) only[af,if_pos];go_simp));exact aF;refine aW ?_;have J:=ae (λa (hh:bI (λb=>w.heap.size <= b) g.drew a)=>aI.x a ((aM.of_below (F:=λb=>w.heap.size <= b) a8.x).drew.trans hh (λi h=>.inl h)));have K:=br a3.x (Below.refl _ _).drew;rw[s.x] at K
     first|obtain⟨wz,a5,c5,l,ak,N,p,H,I⟩:=zB g.drew K x (by omega) r.x.size|obtain⟨wz,a5,c5,l,ak,N,p,H,I⟩:=zC g.drew K x (by omega) r.x.size
     have E:aM (λb=>w.heap.size <= b) g l:=(aM.of_below (F:=λb=>w.heap.size <= b) ((Below.refl _ _).drew)).trans (aM.trans H I (λi h=>.inl h)) (λi h=>.inl h);have an:=ae (r.x.trans (E.below (λi h=>h) r.x.size));rw[show g.drew.heap=g.heap from rfl] at N;have⟨ax,Q⟩:=ae2 p E
     first|obtain⟨r0,r1,r2,r3⟩:=kD λa hh=>(J.x a hh).1|obtain⟨r0,r1,r2,r3⟩:=kE λa hh=>(J.x a hh).1
     have bc:=ae ak;clear p E ak K;go_wp2_with fail;refine bP (bI (λb=>w.heap.size <= b)) (up 4 [6,7,504,505,8,9]) (by kernel_rfl) ?_;apply aG;rfl;intro a D;go_simp;(repeat (simp(disch:=omega) only[af,if_pos];go_simp));exact aF
     first|(have m:=aH (if c0=1 then some (⟨t,Y,none⟩:Addr) else some ⟨t,Y+4,none⟩);obtain⟨aN,m⟩:=m;rw[m])|(have m:=aH (if c0=1 then some (⟨t,Y,none⟩:Addr) else some ⟨t,Y+3,none⟩);obtain⟨aN,m⟩:=m;rw[m])
     refine aY rfl rfl (λk c=>?_);go_simp;rw[rW,<- bc.x]
     first|refine⟨H,c _ _ ?_⟩|refine c _ _ ?_
     clear c k;go_simp;refine aY rfl rfl (λk c=>?_);go_simp
     first|refine⟨I,c _ _ ?_⟩|refine c _ _ ?_
     clear c k r0 r1 r2 r3;go_simp;apply aG;rfl;intro a D;go_simp;(repeat (simp(disch:=omega) only[af,if_pos];go_simp));exact aF;refine aW ?_;go_wp2
     go_roundw
     case measure=>simp[xO];omega
     case rel=>
      rw[az.x];refine⟨i+1,j,aX++[x],by omega,hj,?_,?_,?_,?_,?_,an.x⟩
      ·have f:=aZ.x.keep (w':=l) λb n d=>Q.x.block b d (by omega)
       rw[S.x] at f;have q:=mK f (by omega) m
       first|rw[g9 bT 4 cY A i U] at q|rw[g9 du 3 iJ A i U] at q
       have h3:(A.drop (i+1)).length=O-1:=by have:=ar.x;simp;omega
       rw[h3];exact q
      ·have f:=a2.x.keep (w':=l) λb n d=>Q.x.block b d (by omega)
       rw[T.x] at f⊢;exact f
      ·rw[gl,aA,s.x];exact ax.x
      ·rw[<- HR.x,ao.x,Hx.x];simp
      ·rw[aA,s.x];simp;omega
    ·by_cases al:plt y.pl x.pl
     ·have X:ij x.pl y.pl=1:=by unfold ij;rw[if_neg d,if_pos al]
      rw[X];have ao:=ae (wV ay A B i j U V (by rw[Hx.x,Hy.x];exact al));clear X d al;apply aG;rfl;intro a D;go_simp;(repeat (simp(disch:=omega) only[af,if_pos];go_simp));exact aF;refine aW ?_;go_wp2_with fail;have J:=ae (λa (hh:bI (λb=>w.heap.size <= b) g.drew a)=>aI.x a ((aM.of_below (F:=λb=>w.heap.size <= b) a8.x).drew.trans hh (λi h=>.inl h)));have K:=br a3.x (Below.refl _ _).drew;rw[s.x] at K
      first|obtain⟨wz,a5,c5,l,ak,N,p,H,I⟩:=zB g.drew K y (by omega) r.x.size|obtain⟨wz,a5,c5,l,ak,N,p,H,I⟩:=zC g.drew K y (by omega) r.x.size
      have E:aM (λb=>w.heap.size <= b) g l:=(aM.of_below (F:=λb=>w.heap.size <= b) ((Below.refl _ _).drew)).trans (aM.trans H I (λi h=>.inl h)) (λi h=>.inl h);have an:=ae (r.x.trans (E.below (λi h=>h) r.x.size));rw[show g.drew.heap=g.heap from rfl] at N;have⟨ax,Q⟩:=ae2 p E
      first|obtain⟨r0,r1,r2,r3⟩:=kD λa hh=>(J.x a hh).2|obtain⟨r0,r1,r2,r3⟩:=kE λa hh=>(J.x a hh).2
      have bc:=ae ak;clear p E ak K;go_wp2_with fail;refine bP (bI (λb=>w.heap.size <= b)) (up 4 [6,7,504,505,8,9]) (by kernel_rfl) ?_;apply aG;rfl;intro a D;go_simp;(repeat (simp(disch:=omega) only[af,if_pos];go_simp));exact aF
      first|(have o:=aH (if c1=1 then some (⟨u,Z,none⟩:Addr) else some ⟨u,Z+4,none⟩);obtain⟨bN,o⟩:=o;rw[o])|(have o:=aH (if c1=1 then some (⟨u,Z,none⟩:Addr) else some ⟨u,Z+3,none⟩);obtain⟨bN,o⟩:=o;rw[o])
      refine aY rfl rfl (λk c=>?_);go_simp;rw[rW,<- bc.x]
      first|refine⟨H,c _ _ ?_⟩|refine c _ _ ?_
      clear c k;go_simp;refine aY rfl rfl (λk c=>?_);go_simp
      first|refine⟨I,c _ _ ?_⟩|refine c _ _ ?_
      clear c k r0 r1 r2 r3;go_simp;apply aG;rfl;intro a D;go_simp;(repeat (simp(disch:=omega) only[af,if_pos];go_simp));exact aF;refine aW ?_;go_wp2
      go_roundw
      case measure=>simp[xO];omega
      case rel=>
       rw[az.x];refine⟨i,j+1,aX++[y],hi,by omega,?_,?_,?_,?_,?_,an.x⟩
       ·have f:=aZ.x.keep (w':=l) λb n d=>Q.x.block b d (by omega)
        rw[S.x] at f⊢;exact f
       ·have f:=a2.x.keep (w':=l) λb n d=>Q.x.block b d (by omega)
        rw[T.x] at f;have q:=mK f (by omega) o
        first|rw[g9 bT 4 cY B j V] at q|rw[g9 du 3 iJ B j V] at q
        have h3:(B.drop (j+1)).length=P-1:=by have:=av.x;simp;omega
        rw[h3];exact q
       ·rw[gl,aA,s.x];exact ax.x
       ·rw[<- HR.x,ao.x,Hy.x];simp
       ·rw[aA,s.x];simp;omega
     ·have bo:=my d al;have X:ij x.pl y.pl=0:=by unfold ij;rw[if_neg d,if_neg al]
      rw[X];have aS:=wW ay A B i j U V (by rw[Hx.x,Hy.x];exact bo);rw[Hx.x,Hy.x] at aS;have aP:=bC.x x (by rw[<- Hx.x];exact aC U) y (by rw[<- Hy.x];exact aC V) bo g.drew r.x.drew;obtain⟨z,hz⟩:=aH (ay x y);rw[hz] at aP aS;simp only[itV,goV] at aP;have⟨bp,ao⟩:=ae2 aP aS;have J:=ae (λa (hh:bI (λb=>w.heap.size <= b) g.drew a)=>aI.x a ((aM.of_below (F:=λb=>w.heap.size <= b) a8.x).drew.trans hh (λi h=>.inl h)))
      first|obtain⟨r0,r1,r2,r3⟩:=kD λa hh=>(J.x a hh).1|obtain⟨r0,r1,r2,r3⟩:=kE λa hh=>(J.x a hh).1
      first|obtain⟨u0,u1,u2,u3⟩:=kD λa hh=>(J.x a hh).2|obtain⟨u0,u1,u2,u3⟩:=kE λa hh=>(J.x a hh).2
      clear X d aS al aP bo;apply aG;rfl;intro a D;go_simp;(repeat (simp(disch:=omega) only[af,if_pos];go_simp));exact aF;refine aW ?_;go_wp2_with fail;refine bP (bI (λb=>w.heap.size <= b)) (up 8 [11,12,13,14,508,509,510,15,16,17]) (by kernel_rfl) ?_;apply aG;rfl;intro a D;go_simp;(repeat (simp(disch:=omega) only[af,if_pos];go_simp));exact aF
      first|(have m:=aH (if c0=1 then some (⟨t,Y,none⟩:Addr) else some ⟨t,Y+4,none⟩);obtain⟨aN,m⟩:=m;rw[m])|(have m:=aH (if c0=1 then some (⟨t,Y,none⟩:Addr) else some ⟨t,Y+3,none⟩);obtain⟨aN,m⟩:=m;rw[m])
      first|(have o:=aH (if c1=1 then some (⟨u,Z,none⟩:Addr) else some ⟨u,Z+4,none⟩);obtain⟨bN,o⟩:=o;rw[o])|(have o:=aH (if c1=1 then some (⟨u,Z,none⟩:Addr) else some ⟨u,Z+3,none⟩);obtain⟨bN,o⟩:=o;rw[o])
      refine aY rfl rfl (λk c=>?_);go_simp;refine bp.x.mono ?_;rintro e w4 ⟨rfl,bh⟩;refine⟨_,rfl,bI.of_below bh,c _ _ ?_⟩;clear c k bp r0 r1 r2 r3 u0 u1 u2 u3;go_simp;have aR:aK g w4:=(Below.refl _ _).drew.trans bh;have bi:Kpt w w4:=r.x.trans (RowKit.Below.mono aR r.x.size);have aO:=br a3.x aR;rw[s.x] at aO
      first|obtain⟨wz,a5,c5,l,rfl,N,p,H,I⟩:=zB w4 aO z (by omega) bi.size|obtain⟨wz,a5,c5,l,rfl,N,p,H,I⟩:=zC w4 aO z (by omega) bi.size
      have E:aM (λb=>w.heap.size <= b) g l:=(aM.of_below (F:=λb=>w.heap.size <= b) aR).trans (aM.trans H I (λi h=>.inl h)) (λi h=>.inl h);have⟨an,ax,Q⟩:=ae3 (r.x.trans (E.below (λi h=>h) r.x.size)) p E;clear p E aO bh aR bi;refine aY rfl rfl (λk c=>?_);go_simp
      first|refine⟨H,c _ _ ?_⟩|refine c _ _ ?_
      clear c k;go_simp;refine aY rfl rfl (λk c=>?_);go_simp
      first|refine⟨I,c _ _ ?_⟩|refine c _ _ ?_
      clear c k;go_simp;apply aG;rfl;intro a D;go_simp;(repeat (simp(disch:=omega) only[af,if_pos];go_simp));exact aF;refine aW ?_;go_wp2
      go_roundw
      case measure=>simp[xO];omega
      case rel=>
       rw[az.x];refine⟨i+1,j+1,aX++[z],by omega,by omega,?_,?_,?_,?_,?_,an.x⟩
       ·have f:=aZ.x.keep (w':=l) λb n d=>Q.x.block b d (by omega)
        rw[S.x] at f;have q:=mK f (by omega) m
        first|rw[g9 bT 4 cY A i U] at q|rw[g9 du 3 iJ A i U] at q
        have h3:(A.drop (i+1)).length=O-1:=by have:=ar.x;simp;omega
        rw[h3];exact q
       ·have f:=a2.x.keep (w':=l) λb n d=>Q.x.block b d (by omega)
        rw[T.x] at f;have q:=mK f (by omega) o
        first|rw[g9 bT 4 cY B j V] at q|rw[g9 du 3 iJ B j V] at q
        have h3:(B.drop (j+1)).length=P-1:=by have:=av.x;simp;omega
        rw[h3];exact q
       ·rw[gl,aA,s.x];exact ax.x
       ·rw[<- HR.x,ao.x];simp
       ·rw[aA,s.x];simp;omega
   ·have aQ:=HR.x;rw[Bk ay A B i j (by have:=ar.x;have:=av.x;omega)] at aQ
    by_cases h0:0<O
    all_goals
     try have f:¬0<P:=λh=>aL ⟨h0,h⟩
     have hO:=HO.x;rw[s.x] at hO;have v:=HA.x;rw[S.x] at v;have C:=HB.x;rw[T.x] at C;have⟨Hi,Hj,Hh⟩:=ae3 hi hj aL;have bK:O <= 1000000 /\ P <= 1000000:=by have:=ar.x;have:=av.x;omega
     first|obtain⟨a5,c5,l,N,p,ag⟩:=ma mH underlying34 rfl (by decide) (by decide) hO v (mA _) (by omega) ad.x.size|obtain⟨a5,c5,l,N,p,ag⟩:=ma mI underlying35 rfl (by decide) (by decide) hO v (mB _) (by omega) ad.x.size
     first|obtain⟨a6,c6,w6,bO,aV,bj⟩:=ma mH underlying34 rfl (by decide) (by decide) p (C.keep (w':=l) λb n _=>ag.block b n) (mA _) (by omega) (au ad.x.size ag.size)|obtain⟨a6,c6,w6,bO,aV,bj⟩:=ma mI underlying35 rfl (by decide) (by decide) p (C.keep (w':=l) λb n _=>ag.block b n) (mB _) (by omega) (au ad.x.size ag.size)
     have bD:=ae (ad.x.trans (ag.trans bj));rw[aB,<- List.flatMap_append,<- List.flatMap_append,aQ] at aV;have⟨HL,bE⟩:=ae2 (show R.length=np+O+P by rw[<- aQ,aA,aA,s.x,S.x,T.x];omega) aV;clear ag bj p aV C v hO aQ hi hj aL bK;go_wp2
     go_ret
     exact⟨_,rfl,by rw[HL.x];exact bE.x,bD.x⟩
/- Which of two elements is kept: later, deeper, Use's. -/
theorem aS{x y z:Value}(h:Blk W i [x,y,z] t):W.cell? ⟨i,0,none⟩=some x /\ W.cell? ⟨i,1,none⟩=some y /\ W.cell? ⟨i,2,none⟩=some z:=by
 have a:=h.cell 0;have c:=h.cell 1;have d:=h.cell 2;simp at a c d;exact⟨a,c,d⟩
theorem dH{x y z u:Value}(h:Blk W i [x,y,z,u] t):W.cell? ⟨i,0,none⟩=some x /\ W.cell? ⟨i,1,none⟩=some y /\ W.cell? ⟨i,2,none⟩=some z /\ W.cell? ⟨i,3,none⟩=some u:=by
 have a:=h.cell 0;have c:=h.cell 1;have d:=h.cell 2;have e:=h.cell 3;simp at a c d e;exact⟨a,c,d,e⟩
theorem C7{x y z u:Value}(k:Blk w' j [x,y,z,u] t)(h:Below i W w')(a:i <= j)(c d e f:Value):
 ∃g,g=(((w'.setCell ⟨j,0,none⟩ c).setCell ⟨j,1,none⟩ d).setCell ⟨j,2,none⟩ e).setCell ⟨j,3,none⟩ f /\ Blk g j [c,d,e,f] t /\ Below i W g:=
 ⟨_,rfl,(((k.set 0 c).set 1 d).set 2 e).set 3 f,(((h.setCell (p:=⟨j,0,none⟩) a _).setCell (p:=⟨j,1,none⟩) a _).setCell (p:=⟨j,2,none⟩) a _).setCell (p:=⟨j,3,none⟩) a _⟩
theorem rX(x y:RGo):
 Calls aE 113 #[goV x,goV y] w λe l=>e=.returned (goV (dM x y)) /\ Kpt w l:=by
 obtain⟨a,g⟩:=aP ((w.alloc (.cells #[.string ⟨x.key.toArray⟩,.int .i64 x.dev,.int .i64 x.seq] 111)).alloc (.cells #[.string ⟨y.key.toArray⟩,.int .i64 y.dev,.int .i64 y.seq] 111));have f:Kpt w a:=by rw[g];exact(aI _ _).alloc (by simp) _
 have k:a.heap.size=w.heap.size+2:=by rw[g];simp
 unfold goV
 go_enter func113,ntmps113
 by_cases j:x.seq<y.seq
 ·have i:dM x y=y:=by unfold dM;rw[if_pos j]
  rw[i];go_wp2;rw[<- g];have h:=aI a (.cells #[.string ⟨y.key.toArray⟩,.int .i64 y.dev,.int .i64 y.seq] 111);obtain⟨b,c,d⟩:=aS (Blk.new a #[.string ⟨y.key.toArray⟩,.int .i64 y.dev,.int .i64 y.seq] 111);rw[k] at b c d;refine bodyPost_ret (v:=.agg #[.string ⟨y.key.toArray⟩,.int .i64 y.dev,.int .i64 y.seq]) (by simp[results,results113,go_sem,b,c,d]) rfl ⟨rfl,f.trans (h.mono f.size)⟩
 ·have i:dM x y=x:=by unfold dM;rw[if_neg j]
  rw[i];go_wp2;rw[<- g];have h:=aI a (.cells #[.string ⟨x.key.toArray⟩,.int .i64 x.dev,.int .i64 x.seq] 111);obtain⟨b,c,d⟩:=aS (Blk.new a #[.string ⟨x.key.toArray⟩,.int .i64 x.dev,.int .i64 x.seq] 111);rw[k] at b c d;refine bodyPost_ret (v:=.agg #[.string ⟨x.key.toArray⟩,.int .i64 x.dev,.int .i64 x.seq]) (by simp[results,results113,go_sem,b,c,d]) rfl ⟨rfl,f.trans (h.mono f.size)⟩
theorem C8(b:Int)(J:w.cell? ⟨n,0,none⟩=some (.int .i64 b))(a x:RIt)(I:0 <= b /\ b <= 2199023255552)(L:0 <= a.seq /\ a.seq <= 2199023255552):
 Calls aE 105 #[itV a,itV x,.pointer (some ⟨n,0,none⟩)] w λe S=>e=.returned (itV (gU b a x)) /\ Kpt w S:=by
 obtain⟨k,i⟩:=aP (w.alloc (.cells #[.string ⟨a.key.toArray⟩,.int .i64 a.dev,.int .i64 a.seq,.int .i64 a.val] 108));obtain⟨l,g⟩:=aP (k.alloc (.cells #[.string ⟨x.key.toArray⟩,.int .i64 x.dev,.int .i64 x.seq,.int .i64 x.val] 108));obtain⟨d,f⟩:=aP (l.alloc (.cells #[.string ⟨#[]⟩,.int .i64 0,.int .i64 0,.int .i64 0] 108));have t:k.heap.size=w.heap.size+1:=by rw[i];simp
 have y:l.heap.size=w.heap.size+2:=by rw[g];simp[t]
 have ad:d.heap.size=w.heap.size+3:=by rw[f];simp[y]
 have E:Kpt w d:=by
  rw[f,g,i];exact((aI _ _).alloc (by simp) _).alloc (by simp;omega) _
 have D:Blk d (w.heap.size+1) [.string ⟨x.key.toArray⟩,.int .i64 x.dev,.int .i64 x.seq,.int .i64 x.val] 108:=by
  have:=Blk.new k #[.string ⟨x.key.toArray⟩,.int .i64 x.dev,.int .i64 x.seq,.int .i64 x.val] 108;rw[f,g,<- t];exact this.alloc _
 have C:Blk d (w.heap.size+2) [.string ⟨#[]⟩,.int .i64 0,.int .i64 0,.int .i64 0] 108:=by
  have:=Blk.new l #[.string ⟨#[]⟩,.int .i64 0,.int .i64 0,.int .i64 0] 108;rw[f,<- y];exact this
 have X:n<w.heap.size:=eK J;have Y:n<w.heap.size+1:=by omega
 have Z:n<w.heap.size+1+1:=by omega
 have q:=EE a.val (b-a.seq) d (by omega);obtain⟨u,r⟩:=aH (DM.aft (b-a.seq).toNat (DM.bnd a.val)+65536);rw[r] at q;have K:gU b a x=⟨x.key,x.dev,x.seq,u⟩:=by unfold gU ko;rw[r]
 rw[K];have o:=D;have m:=C;have p:=E;have B:d=((w.alloc (.cells #[.string ⟨a.key.toArray⟩,.int .i64 a.dev,.int .i64 a.seq,.int .i64 a.val] 108)).alloc (.cells #[.string ⟨x.key.toArray⟩,.int .i64 x.dev,.int .i64 x.seq,.int .i64 x.val] 108)).alloc (.cells #[.string ⟨#[]⟩,.int .i64 0,.int .i64 0,.int .i64 0] 108):=by rw[f,g,i]
 obtain⟨V,W⟩:=I;obtain⟨aa,ab⟩:=L;unfold itV
 go_enter func105,ntmps105
 go_wp2_with fail;rw[<- B];refine q.mono ?_;rintro e T ⟨rfl,h⟩;have z:=o.keep (h.block _ o.lt);have c:=m.keep (h.block _ m.lt);obtain⟨x0,x1,x2,x3⟩:=dH z;obtain⟨y0,y1,y2,y3⟩:=dH c;have U:=z.free 3;have z0:=c.free 0;have z1:=c.free 1;have z2:=c.free 2;have z3:=c.free 3;obtain⟨A,j⟩:=aP (T.setCell ⟨w.heap.size+1,3,none⟩ (.int .i64 u));have F:Kpt w A:=by rw[j];exact(p.trans (h.mono p.size)).setCell (Nat.le_succ _) _
 have M:Blk A (w.heap.size+2) [.string ⟨#[]⟩,.int .i64 0,.int .i64 0,.int .i64 0] 108:=by
  rw[j];exact c.set_other _ (by show w.heap.size+2≠w.heap.size+1;omega)
 obtain⟨wf,s,H,G⟩:=C7 M F (by omega) (.string ⟨x.key.toArray⟩) (.int .i64 x.dev) (.int .i64 x.seq) (.int .i64 u);rw[j] at s;have Q:=dH H;go_wp2;rw[<- s];obtain⟨N,O,P,R⟩:=Q;exact bodyPost_ret (v:=.agg #[.string ⟨x.key.toArray⟩,.int .i64 x.dev,.int .i64 x.seq,.int .i64 u]) (by simp[results,results105,go_sem,N,O,P,R]) rfl ⟨rfl,G⟩
/- Use. -/
end
section
open Go.Sort
attribute [local go_sem ↓] aU
def C9(w:World)(a:aT×Int)(e:Ending)(b:World):Prop:=
 (∃r,e=.returned (.tuple #[r,.int .i64 a.2]) /\ pW b w.heap.size r a.1 /\ Bnd a.1) /\ Kpt w b
theorem gI:pW w n eJ .empty:=⟨_,_,_,rfl,World.ownsRow_nil _ _ _ _,World.ownsRow_nil _ _ _ _,World.ownsRow_nil _ _ _ _⟩
theorem eT:Bnd .empty:=⟨nofun,nofun,nofun⟩
theorem fV{n:Int}(h:-4611686018427387904 <= n /\ n <= 4611686018427387904):dk n:=by unfold dk;omega
theorem fA(f:ez r):Bnd r:=by
 have j:=jC f;refine⟨λn l=>?_,λx a=>?_,λx a=>?_⟩
 ·have:=f.seen n l;exact fV (by omega)
 ·obtain⟨e,b,k,g⟩:=eQ (f.iknown x a);have h:=dW (dV (f.iknown x a));have o:=f.val x a;have i:=j x.pl.2.toNat;rw[f.len] at b;have c:x.pl.2=x.dev:=rfl;have d:x.pl.1=x.key:=rfl;rw[c] at e b g i;rw[d] at h;exact⟨by omega,fV (by omega),fV (by omega),fV (by omega)⟩
 ·obtain⟨e,b,k,g⟩:=eQ (f.gknown x a);have h:=dW (dV (f.gknown x a));have i:=j x.pl.2.toNat;rw[f.len] at b;have c:x.pl.2=x.dev:=rfl;have d:x.pl.1=x.key:=rfl;rw[c] at e b g i;rw[d] at h;exact⟨by omega,fV (by omega),fV (by omega)⟩
theorem zD(f:ez r){d:Int}(b:0 <= d)(c:d<8):∀n∈de r d,0 <= n /\ n <= 1099511627777:=by
 intro n e;obtain⟨i,hi,rfl⟩:=List.mem_iff_getElem.1 e;have a:=CC r d (CD f b c) i;rw[List.getD_eq_getElem?_getD,List.getElem?_eq_getElem hi] at a;have g:=jC f i;simp only[Option.getD_some] at a;rw[a];split<;>omega
theorem AO(f:ez r){d:Int}(c:vg d y):Bnd (iV r d y) /\ (∀x∈(iV r d y).items,x.key.length <= 400) /\ ∀x∈(iV r d y).gone,x.key.length <= 400:=by
 have b:=fA f;have h:=jC f d.toNat;have s:1 <= je r d /\ je r d <= 1099511627777:=by unfold je;omega
 have p:∀x∈r.items,x.key.length <= 400:=λx a=>dW (dV (f.iknown x a))
 have o:∀x∈r.gone,x.key.length <= 400:=λx a=>dW (dV (f.gknown x a))
 have e:∀x∈(iV r d y).items,(x.key.length <= 400) /\ dk x.dev /\ dk x.seq /\ dk x.val:=λx a=>by
  rcases Ek f.items c.nodup a with⟨k,j,rfl⟩|a
  ·have g:=Prod.mk.inj (lr r d k);have i:=xg r d k;have q:=xh f c.lo c.hi k;have t:=c.lo;have u:=c.hi;refine⟨by rw[g.1];exact dW (c.keys k j),by rw[g.2];exact fV (by omega),by rw[i];exact fV (by omega),fV (by omega)⟩
  ·exact⟨p x a,(b.itemsB x a).2⟩
 exact⟨⟨λn h=>by have:=zD f c.lo c.hi n h;exact fV (by omega),λx a=>⟨by have:=(e x a).1;omega,(e x a).2⟩,b.goneB⟩,λx a=>(e x a).1,o⟩
def vE(f:Nat)(b:aT -> Int -> List bQ -> aT×Int):Prop:=
 ∀(w:World)(e:eB w)(c:4 <= w.heap.size)(F:aQ)(v:Value)(m:aT)(h:di F w v m)(j:∀x∈m.items,x.key.length <= 1000000)(i:∀x∈m.gone,x.key.length <= 1000000)
  (o:m.items.length <= 1000000) (p:m.gone.length <= 1000000) (d:Int) (G:aQ) (a:Value) (l:List bQ) (q:Rows G w 1 a l.length (l.map eS)) (n:l.length <= 1000000) (g:∀k∈l,k.length <= 4611686018427387903),
  Calls aE f #[v,.int .i64 d,a] w (C9 w (b m d l))
theorem xQ:vE 57 iB:=by
 intro w hT h3 F v m h aF az bj bP d G lv l aG D hk
 replace h:=h.mono (G:=λb=>b<w.heap.size) λb _ ai=>ai
 replace aG:=aG.mono (G:=λb=>b<w.heap.size) λb _ ai=>ai
 replace h:=jF h 37
 obtain⟨a1,p1,a2,p2,a3,p3,n,O,z,wx,rfl,h,l1,l2,l3,a8,aM,bE,cf,bC,bG,Hx,b6,c0,u,L⟩:=h
 try rw[a8.x]
 try rw[aM.x]
 try rw[bE.x]
 clear h;obtain⟨R,aY⟩:=aH l.length;obtain⟨al,cl,rfl,-⟩:=aG.shape;have bD:=ae aG;rw[aY];have a9:=ae aY;obtain⟨o,ar⟩:=aP (wx.alloc (.cells #[.slice none 0 0,.slice none 0 0,.slice none 0 0] 37));have aT:Kpt w o:=by rw[ar];exact bC.x.alloc bC.x.size _
 have a0:o.heap.size=w.heap.size+2:=by rw[ar];simp[bG.x]
 have k2:Blk o (w.heap.size+1) [.slice none 0 0,.slice none 0 0,.slice none 0 0] 37:=by
  have:=Blk.new wx #[.slice none 0 0,.slice none 0 0,.slice none 0 0] 37;rw[ar,<- bG.x];exact this
 have J:=ae (show ∀W,Kpt o W -> Kpt w W /\ Blk W (w.heap.size+1) [.slice none 0 0,.slice none 0 0,.slice none 0 0] 37 from λW D=>⟨aT.trans (D.mono (by omega)),k2.keep (D.block _ k2.lt)⟩)
 have HE:=ae (show Calls aE 102 #[.agg #[.slice a1 n p1,.slice a2 O p2,.slice a3 z p3],.int .i64 d,.slice al R cl] o (C6 o m d l) by
  have:=uj o (bR hT h3 aT) (by omega) _ (.agg #[.slice a1 n p1,.slice a2 O p2,.slice a3 z p3]) m ⟨_,_,_,rfl,Hx.x.keep (w':=o) λb _ ai=>by rw[ar];exact Below.heap_alloc _ _ _ ai⟩ aF az bj bP d _ (.slice al l.length cl) l (bD.x.keep (w':=o) λb _ ai=>aT.block b ai) D hk;rw[a9.x] at this
  exact this)
 have⟨HT,cc,cg⟩:=ae3 (show ∀W,Kpt o W -> eB W /\ 4 <= W.heap.size from λW D=>⟨bR hT h3 (J.x W D).1,au h3 (J.x W D).1.size⟩) ar a0;rw[aY] at D;rw[aM.x] at bj;clear ar aT a0 k2 Hx b6 hT aF az c0 u L aG aY hk bD bP
 go_enter func57,ntmps57
 go_wp2_with fail;rw[<- cf.x,<- cc.x];refine HE.x.mono ?_;rintro e a ⟨(⟨E,rfl⟩|⟨E,ak,rfl⟩|⟨E,ak,r,s,rfl,⟨s1,s2,s3,rfl,ho⟩,aa⟩),C⟩
 ·have K:=ae (show iB m d l=(.empty,5) by unfold iB;rw[E];rfl);have c:=(J.x a C).2.alloc (.cells #[.slice none 0 0,.slice none 0 0,.slice none 0 0] 37);have an:=(J.x a C).1.alloc (J.x a C).1.size (.cells #[.slice none 0 0,.slice none 0 0,.slice none 0 0] 37);have a7:=ae C;clear HE E C;unfold eJ;obtain⟨wf,I,N,M⟩:=dX c an (Nat.le_succ _) (.slice none 0 0) (.slice none 0 0) (.slice none 0 0);obtain⟨y0,y1,y2⟩:=aS c;have z0:=c.free 0;have z1:=c.free 1;have z2:=c.free 2;have⟨Q,ab,ag⟩:=ae3 (aS N) M I;clear I N M;go_wp2;rw[<- ag.x];obtain⟨q0,q1,q2⟩:=Q.x;exact bodyPost_ret (v:=.tuple #[eJ,.int .i64 5]) (by simp[results,results57,go_sem,q0,q1,q2,eJ]) rfl ⟨⟨_,by rw[K.x],by rw[K.x];exact gI _ _,by rw[K.x];exact eT⟩,ab.x⟩
 ·have K:=ae (show iB m d l=(.empty,1) by unfold iB;rw[E,ak];rfl);have c:=(J.x a C).2.alloc (.cells #[.slice none 0 0,.slice none 0 0,.slice none 0 0] 37);have an:=(J.x a C).1.alloc (J.x a C).1.size (.cells #[.slice none 0 0,.slice none 0 0,.slice none 0 0] 37);have a7:=ae C;clear HE E C ak;unfold eJ;obtain⟨wf,I,N,M⟩:=dX c an (Nat.le_succ _) (.slice none 0 0) (.slice none 0 0) (.slice none 0 0);obtain⟨y0,y1,y2⟩:=aS c;have z0:=c.free 0;have z1:=c.free 1;have z2:=c.free 2;have⟨Q,ab,ag⟩:=ae3 (aS N) M I;clear I N M;go_wp2;rw[<- ag.x];obtain⟨q0,q1,q2⟩:=Q.x;exact bodyPost_ret (v:=.tuple #[eJ,.int .i64 1]) (by simp[results,results57,go_sem,q0,q1,q2,eJ]) rfl ⟨⟨_,by rw[K.x],by rw[K.x];exact gI _ _,by rw[K.x];exact eT⟩,ab.x⟩
 ·have Z:=(fo d l).1 ak;have f:=cA E;have aX:(de m d).length=n:=(yZ m d).trans a8.x;have bQ:=f.len;rw[a8.x] at bQ;have bV:(dt l).length=R:=by rw[(ek l).length_eq];exact a9.x
  have aO:=ae bV;obtain⟨b1,u,bt⟩:=aJ ho.seen;obtain⟨X,L,bu⟩:=aJ ho.items;obtain⟨A,B,bv⟩:=aJ ho.gone;rw[a9.x] at aa;obtain⟨bs,cs,rfl⟩:=aJ aa;dsimp only at bt bu bv;rw[aX] at bt;rw[aM.x] at bu;rw[bE.x] at bv;subst bt bu bv
  have cn:∃g,b1=some ⟨g,0,none⟩:=by
   rcases ho.seen.2 with⟨_,h0⟩|⟨g,cj,ck,hv,_⟩
   ·dsimp only at h0;omega
   ·simp at hv;exact⟨g,hv.1⟩
  obtain⟨g,rfl⟩:=cn;obtain⟨q,rfl⟩:=Int.eq_ofNat_of_zero_le Z.lo;have cr:=Z.hi;have ct:q<n:=by omega
  obtain⟨j,bl⟩:=aH (je m q);have hq:q<(de m q).length:=by rw[aX];exact ct
  have bw:(de m q)[q]=j:=by
   have h1:=CC m (q:Int) (CD f Z.lo Z.hi) q;rw[Int.toNat_natCast,if_pos rfl,List.getD_eq_getElem?_getD,List.getElem?_eq_getElem hq] at h1;rw[<- bl];unfold je;rw[Int.toNat_natCast];simpa using h1
  have bS:0 <= j /\ j <= 1099511627777:=by
   have:=zD f Z.lo Z.hi j (by rw[<- bw];exact aC hq);exact this
  obtain⟨w4,av⟩:=aP (a.alloc (.cells #[.slice (some ⟨g,0,none⟩) n u,.slice X O L,.slice A z B] 37));have bx:w4.heap.size=a.heap.size+1:=by rw[av];simp
  have bf:Kpt a w4:=by rw[av];exact aI _ _
  have bI:Blk w4 a.heap.size [.slice (some ⟨g,0,none⟩) n u,.slice X O L,.slice A z B] 37:=by rw[av];exact Blk.new _ _ _
  have bU:=ho.below bf;have aZ:=bU.seen;dsimp only at aZ;rw[aX] at aZ
  have e0:w4.cell? ⟨g,q,none⟩=some (.int .i64 j):=by
   rw[aZ.cellAt q (by omega)];simp[hq,bw]
  have co:g<a.heap.size:=by
   rcases ho.seen.2 with⟨hh,_⟩|⟨g',cj,ck,hv,hb,hg,_⟩
   ·simp at hh
   ·simp at hv;obtain⟨rfl,-⟩:=hv;exact lt_of_block hg
  have cm:a.cell? ⟨g,q,none⟩=some (.int .i64 j):=by
   rw[<- e0,av];unfold World.cell?;rw[show(a.alloc (.cells #[.slice (some ⟨g,0,none⟩) n u,.slice X O L,.slice A z B] 37)).heap[g]?=a.heap[g]? from Below.heap_alloc _ _ _ co]
  have cx:g<a.heap.size+1:=by omega
  have cy:(q:Int)<(n:Int):=by omega
  obtain⟨t,ax⟩:=aP (w4.alloc (.cells #[.int .i64 j] 3));have a4:t.heap.size=a.heap.size+2:=by rw[ax];simp[bx]
  have bM:Kpt a t:=by rw[ax];exact bf.alloc (by omega) _
  have a7:=ae C;have bX:o.heap.size <= a.heap.size:=C.size
  have a5:=ae (show ∀W,Kpt t W -> Kpt o W /\ Blk W a.heap.size [.slice (some ⟨g,0,none⟩) n u,.slice X O L,.slice A z B] 37 /\ W.cell? ⟨a.heap.size+1,0,none⟩=some (.int .i64 j) /\ dU W o.heap.size (.slice (some ⟨g,0,none⟩) n u) (.slice X O L) (.slice A z B) ⟨de m q,m.items,m.gone⟩ /\ W.ownsRow o.heap.size 9 1 (.slice bs R cs) R ((dt l).map eS) from λW D=>by
   have k5:Blk t a.heap.size [.slice (some ⟨g,0,none⟩) n u,.slice X O L,.slice A z B] 37:=by rw[ax];exact bI.alloc _
   have kn:Blk t (a.heap.size+1) [.int .i64 j] 3:=by
    have:=Blk.new w4 #[.int .i64 j] 3;rw[ax,<- bx];exact this
   have Y:Kpt a W:=bM.trans (D.mono (by omega));refine⟨a7.x.trans (Y.mono bX),k5.keep (D.block _ k5.lt),?_,ho.below Y,br aa Y⟩;have:=(kn.keep (D.block _ kn.lt)).cell 0
   simpa using this)
  have⟨H0,cd,Ha,Hf,ca,bY,bF,b4⟩:=ae8 (show Kpt t t from Below.refl _ _) (show t=(a.alloc (.cells #[.slice (some ⟨g,0,none⟩) n u,.slice X O L,.slice A z B] 37)).alloc (.cells #[.int .i64 j] 3) by rw[ax,av]) Z f E ak bS bl;have⟨ci,ch⟩:=ae2 a4 bX;clear HE E C ak Z f aX bQ aa ho bw bS av bf bI bU aZ e0 ax bM bx a4 bV bl hq cr;go_wp2;rw[<- cd.x];clear cm
  go_loopw [33,11] (λi s wr=>∃k:Nat,k <= R /\ i=.int .i64 (k:Int) /\ Kpt t wr /\ wr.ownsRow t.heap.size 108 4 s k ((((dt l).take k).map (kq q j)).flatMap bT)) (λi _ _=>R-(intOf i).toNat)
  ·exact⟨0,by omega,rfl,H0.x,World.ownsRow_nil _ _ _ _⟩
  ·obtain⟨k,hk,rfl,bi,bp⟩:=hrel;obtain⟨ba,bc,rfl⟩:=aJ bp;have⟨V,aN⟩:=ae2 bi bp;obtain⟨-,H,bk,-,aa⟩:=a5.x wr bi;clear bi bp
   by_cases cq:k<R
   ·have cp:(k:Int)<(R:Int):=by omega
    have aW:k<(dt l).length:=by rw[aO.x];exact cq
    have bW:=Rows.of_owns aa;obtain⟨bb,ob,rfl,-,-,hc⟩:=fE (l:=dt l) (by rw[aO.x];exact bW) (by rw[aO.x];omega);have e1:=hc k aW;obtain⟨x,U⟩:=aH ((dt l)[k]);rw[U] at e1;obtain⟨i0,t1,t2,t3,t4⟩:=info_parts mH;obtain⟨v6,w6,cz,bq,bN⟩:=cu (P:=aE) wr t.heap.size 34 108 underlying34 t1 t2 t3 t4 rfl (by decide) (.slice ba k bc) k _ aN.x #[.string ⟨x.toArray⟩,.int .i64 q,.int .i64 j,.int .i64 65536] rfl (by simp[Value.oneCell']) (by unfold maxLen;omega) (by omega) V.x.size;obtain⟨S,T,rfl⟩:=aJ bq
    have ay:Below t.heap.size wr w6:=(((Below.refl t.heap.size wr).alloc V.x.size _).trans (Below.grownOwn (br aN.x (aI _ _)) bN (by simp;have:=V.x.size;omega) (aq _)))
    have bZ:=ae (V.x.trans ay)
    have cb:=ae (show w6.ownsRow t.heap.size 108 4 (.slice S (k+1) T) (k+1) ((((dt l).take (k+1)).map (kq q j)).flatMap bT) by
     rw[List.take_succ_eq_append_getElem aW,List.map_append,List.flatMap_append,U]
     exact bq)
    clear bq bN ay t1 t2 t3 t4 hc U bW aa H;go_wp2
    go_roundw
    ·exact⟨k+1,by omega,by go_num,bZ.x,cb.x⟩
    ·simp[intOf];omega
   ·have cp:¬(k:Int)<(R:Int):=by omega
    obtain⟨o0,o1,o2⟩:=aS H;have aU:k=(dt l).length:=by rw[aO.x];omega
    have aW:k=R:=by omega
    subst aW
    have bL:wr.ownsRow t.heap.size 108 4 (.slice ba k bc) ((dt l).map (kq q j)).length (((dt l).map (kq q j)).flatMap bT):=by
     have h1:=aN.x;rw[List.length_map,<- aU];rw[show(dt l).take k=dt l by rw[aU,List.take_length]] at h1;exact h1
    have bO:(iV m q l).items=cH RIt.pl (gU j) m.items ((dt l).map (kq q j)):=by
     show cH RIt.pl (gU (je m q)) m.items ((dt l).map (kq q (je m q)))=_;rw[b4.x]
    obtain⟨Y,-,-,ao,-⟩:=a5.x wr V.x
    have aR:=vD.1 wr _ _ (.slice X O L) (.slice ba k bc) m.items ((dt l).map (kq q j)) 105 #[.pointer (some ⟨a.heap.size+1,0,none⟩)] (gU j) (λ_ _=>by go_simp) (Rows.of_owns ao.items) (Rows.of_owns bL) (by rw[aM.x];exact bj) (by rw[List.length_map,<- aU];exact D) (λx U y hy _ W hW=>C8 W _ j ((hW.cell (p:=⟨a.heap.size+1,0,none⟩) (eK bk)).trans bk) x y ⟨bF.x.1,by have:=bF.x.2;omega⟩ (by
     have h1:=(eQ (Hf.x.iknown x U)).2.2;have h2:=(jC Hf.x x.pl.2.toNat).2
     omega)) _ _ rfl rfl
    rw[<- bO] at aR;obtain⟨nr,bm⟩:=aH ((iV m q l).items.length);rw[bm] at aR;have⟨bB,b5⟩:=ae2 aR bm;clear aR bO bm bL aa ao Y H aN aU;go_wp2_with fail;refine bB.x.mono ?_;rintro e w6 ⟨r6,rfl,bn,ay⟩;obtain⟨S,T,rfl⟩:=aJ bn;have bH:Kpt t w6:=V.x.trans (ay.mono V.x.size);obtain⟨Y,H,-,ao,-⟩:=a5.x w6 bH;obtain⟨o0,o1,o2⟩:=aS H;have cw:=H.free 1;obtain⟨w7,aK⟩:=aP (w6.setCell ⟨a.heap.size,1,none⟩ (.slice S nr T));have bK:Blk w7 a.heap.size [.slice (some ⟨g,0,none⟩) n u,.slice S nr T,.slice A z B] 37:=by rw[aK];exact H.set 1 _
    have aQ:Kpt o w7:=by rw[aK];exact Y.setCell (by show o.heap.size <= a.heap.size;exact ch.x) _
    have cv:=V.x.size;have a4:=ci.x;have a0:=cg.x
    have bo:dU w7 w.heap.size (.slice (some ⟨g,0,none⟩) n u) (.slice S nr T) (.slice A z B) (iV m q l):=by
     rw[aK];refine⟨bJ (aL ao.seen H (by decide) _) (by omega),?_,bJ (aL ao.gone H (by decide) _) (by omega)⟩;rw[b5.x];exact bJ (aL bn H (by decide) _) (by omega)
    obtain⟨bh,aF,az⟩:=AO Hf.x Ha.x;have be:=mb w7 (HT.x w7 aQ).1 (HT.x w7 aQ).2 _ (.agg #[.slice (some ⟨g,0,none⟩) n u,.slice S nr T,.slice A z B]) (iV m q l) ⟨_,_,_,rfl,bo.map bh⟩ (λx U=>by have:=aF x U;omega) (λx U=>by have:=az x U;omega);obtain⟨ok,E⟩:=aH (aV (iV m q l));rw[E] at be
    have hu:iB m q l=if ok=true then(iV m q l,0) else(.empty,7):=by
     unfold iB gw;rw[ca.x,bY.x,E];cases ok<;>rfl
    have⟨bA,b7,bz,K,b0,ce⟩:=ae6 be bo aQ hu bh aK;obtain⟨cB,cC,cD⟩:=aS bK;clear bB bn ay bH Y H ao aK bK aQ cv a4 a0 bo bh aF az be E hu bk;go_wp2_with fail;rw[<- ce.x];refine bA.x.mono ?_;rintro e w8 ⟨rfl,bg⟩;have bd:Kpt o w8:=bz.x.trans (bg.mono bz.x.size);have c:=(J.x w8 bd).2;have an:=(J.x w8 bd).1;have b8:=ae (b7.x.below bg);clear bA bg bd;cases ok with
    |false=>
     have ad:=ae (show iB m q l=(.empty,7) from K.x.trans (if_neg Bool.false_ne_true));obtain⟨wf,I,N,M⟩:=dX c an (Nat.le_succ _) (.slice none 0 0) (.slice none 0 0) (.slice none 0 0);obtain⟨y0,y1,y2⟩:=aS c;have z0:=c.free 0;have z1:=c.free 1;have z2:=c.free 2;have⟨Q,ab,ag⟩:=ae3 (aS N) M I;clear I N M;go_wp2;rw[<- ag.x];obtain⟨q0,q1,q2⟩:=Q.x;exact bodyPost_ret (v:=.tuple #[eJ,.int .i64 7]) (by simp[results,results57,go_sem,q0,q1,q2,eJ]) rfl ⟨⟨_,by rw[ad.x],by rw[ad.x];exact gI _ _,by rw[ad.x];exact eT⟩,ab.x⟩
    |true=>
     have ad:=ae (show iB m q l=(iV m q l,0) from K.x.trans (if_pos rfl));obtain⟨wf,I,N,M⟩:=dX c an (Nat.le_succ _) (.slice (some ⟨g,0,none⟩) n u) (.slice S nr T) (.slice A z B);obtain⟨y0,y1,y2⟩:=aS c;have z0:=c.free 0;have z1:=c.free 1;have z2:=c.free 2;have Q:=ae (aS N)
     have b9:dU wf w.heap.size (.slice (some ⟨g,0,none⟩) n u) (.slice S nr T) (.slice A z B) (iV m q l):=by
      rw[I];exact((b8.x.setCell c _).setCell (c.set 0 _) _).setCell ((c.set 0 _).set 1 _) _
     have⟨ab,ag⟩:=ae2 M I;go_wp2;rw[<- ag.x];obtain⟨q0,q1,q2⟩:=Q.x;exact bodyPost_ret (v:=.tuple #[.agg #[.slice (some ⟨g,0,none⟩) n u,.slice S nr T,.slice A z B],.int .i64 0]) (by simp[results,results57,go_sem,q0,q1,q2]) rfl ⟨⟨_,by rw[ad.x],by rw[ad.x];exact⟨_,_,_,rfl,b9⟩,by rw[ad.x];exact b0.x⟩,ab.x⟩
end
end Go.Proofs.YtobjdpngnfbicaaGreatDoor
