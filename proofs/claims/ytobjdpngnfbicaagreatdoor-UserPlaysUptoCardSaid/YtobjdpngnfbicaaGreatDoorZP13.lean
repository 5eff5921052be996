/-
  UCall UCall2 UCall3 UBegin UKeys UEach UKinds JInv JTorn UKeep
-/
import Derived.Test.YtobjdpngnfbicaaGreatDoorZP12
import Derived.Test.YtobjdpngnfbicaaGreatDoorZP11
open Go.IntWalk renaming i64_in->af,i64_quo->ah,u32_in->aj,rem_in->am,u8_in->ap
open Nat renaming le_refl->aq,le_trans->au,lt_of_lt_of_le->aw
open List renaming length_append->aA,length_cons->aD
open Go.Proofs.Tryz renaming prog->aE
set_option maxHeartbeats 6000000
set_option maxRecDepth 100000
set_option linter.all false
namespace Go.Proofs.YtobjdpngnfbicaaGreatDoor
open Go.RowKit
open Go.Proofs.Tryz
variable(w:World)(M:MD){W w':World}{u:Value}{i j o:Nat}{l:List UInt8}{r:aT}{N:MD}{t:TypeId}{y:List bQ}
section
open Go.Lib
attribute [local go_sem] opC upC told bE bm bF bp bq bG bH
theorem mU{a:Addr}(h:W.cell? a=some u)(b:i=W.heap.size)(e:bX i t W.drew w'):w'.cell? a=some u:=by
 have c:=(e.below (by rw[b];exact aq _)).block a.block (by rw[b];exact eK h);have d:w'.heap[a.block]?=W.heap[a.block]?:=c;unfold World.cell? at *;rw[d];exact h
theorem bX.belD(a:i=W.heap.size)(b:bX i t W.drew w'):Kpt W w':=by
 have:=b.below (by rw[a];exact aq _);rw[a] at this;exact(Below.refl _ _).drew.trans this
def Fi:List gG:=[.steady 0,.steady 1,.steady 2,.steady 3,.steady 4,.steady 5,.steady 6,.steady 7,.steady 8,.steady 9,.move 10,.steady 11,.steady 12,.steady 13,.float 14,.fixed 15,.steady 16]
theorem dZ.same{a:JK}{u:Nat}{U:MU}{n:Int}(h:UAt W a u N U):dZ W a u (N,U,n) (.returned (.int .i64 n)) W:=⟨rfl,a,rfl,rfl,h,λq b=>.inl b,aM.refl _ _⟩
theorem dZ.kept{a:JK}{U:MU}{n:Int}(h:UAt W a i N U)(b:Kpt W w'):dZ W a i (N,U,n) (.returned (.int .i64 n)) w':=⟨rfl,a,rfl,rfl,h.keep b,λq c=>.inl c,aM.of_below b⟩
theorem dZ.after{w f d:World}{b:JK}{r:MD×MU×Int}{e:Ending}(c:Kpt w f)(h:dZ f b i r e d):dZ w b i r e d:=by
 obtain⟨g,o,j,k,l,m,n⟩:=h;exact⟨g,o,j,k,l,λq a=>(m q a).imp id λhh=>au c.size hh,(aM.of_below (F:=λq=>b.all q \/ q=i) c).trans n λq a=>.inl a⟩
theorem DG(l:List bQ)(h:∀k∈l,k.length <= 1000):(eM l).length <= 10+l.length*1010:=by
 have e:∀(q:List bQ),(∀x∈q,x.length <= 1000) -> (q.flatMap bt).length <= q.length*1010:=λq=>by
  induction q with
  |nil=>intro _;simp
  |cons x q g=>
   intro a;have b:=g λy f=>a y (List.mem_cons_of_mem _ f)
   have c:=a x List.mem_cons_self;have i:=cq x.length;have d:(bt x).length=(bY x.length).length+x.length:=by unfold bt;rw[aA]
   rw[List.flatMap_cons,aA,aD,d];omega
 have b:=e l h;have c:=cq l.length;unfold eM;rw[aA];omega
theorem ce.njBelow{c d e:Value}(h:ce (NJ W) W c d e r)(a:Kpt W w'):ce (NJ w') w' c d e r:=
 (h.keep (w':=w') λq _ f=>a.block q f).mono λq b _=>gK b (a.block q (uL b))
theorem sV{k:UInt8}{I:aT -> Int -> List bQ -> aT×Int}(bS:∀a f,(callFunc o a).run aE f=.ok (.enter o a) f)(aN:vE o I)(w:World)(hT:eB w)(h3:4 <= w.heap.size)(P:cU w)(jk:JK)(u:Nat)(M:MD)(U:MU)(h:UAt w jk u M U)(hd:U.dev<8)(hv:aV U.m=true)(F:aQ)(kv:Value)(l:List bQ)(X:Rows F w 1 kv l.length (l.map Go.Proofs.encStr))(bB:l.length <= 1000)(bm:∀k∈l,k.length <= 1000)(hw:M.writes+200000<4611686018427387904):
 Calls aE 61 #[.pointer (some ⟨u,0,none⟩),B k,kv,.func (.func o) #[] #[]] w (dZ w jk u (dz M U l (I U.m U.dev l) (k::eM l))):=by
 replace X:=X.mono (G:=λq=>q<w.heap.size) λq _ Z=>Z
 obtain⟨ak,ck,rfl,-⟩:=id X;obtain⟨a1,p1,a2,p2,a3,p3,V,hm⟩:=h.box;have H:=cO hv;have aR:=cX hv;obtain⟨m,ai⟩:=aH U.m;obtain⟨d,aM⟩:=aH U.dev;obtain⟨bd,E⟩:=aH U.J.dead;obtain⟨n,hn⟩:=aH l.length;obtain⟨RR,az⟩:=aH (I U.m U.dev l);have hD:=mS w jk u M U h;rw[ai,aM] at V az;rw[ai] at hm H aR;rw[E] at hD;obtain⟨c0,c1,c2,c3,c4⟩:=dr V;have⟨aN,HD,K,Hd,Hv,Hl,Hw,av⟩:=ae8 aN hD h hd hv X hw bm;have⟨Hm,Hk,a7,a9,a5,ag,an,C⟩:=ae8 hm H aR ai aM E az hn;have⟨HT,HQ⟩:=ae2 hT P;rw[hn] at bB⊢;clear hD h hd hv X hw bm hm H aR ai aM E az hn hT P V c4
 go_enter func61,ntmps61
 go_wp2_with fail;refine HD.x.mono ?_;rintro e w1 ⟨rfl,rfl⟩;clear HD;cases bd with
 |true=>
  have A:=ae (show dz M U l (I U.m U.dev l) (k::eM l)=(M,U,8) by unfold dz;rw[if_pos ag.x]);go_wp2
  go_ret
  rw[A.x];exact dZ.same K.x
 |false=>
  by_cases h0:n=0
  ·have bz:(n:Int)=0:=by omega
   have A:=ae (show dz M U l (I U.m U.dev l) (k::eM l)=(M,U,0) by unfold dz;rw[if_neg (by rw[ag.x];decide),if_pos (List.length_eq_zero_iff.1 (C.x.trans h0))]);clear h0;go_wp2
   go_ret
   rw[A.x];exact dZ.same K.x
  ·have bz:¬(n:Int)=0:=by omega
   have ba:=ae (show l≠[] from λe=>h0 (by rw[<- C.x,e];rfl));obtain⟨x,er⟩:=RR;have r:∀q x,w.cell? q=some x -> ∀f,bX w.heap.size 37 w.drew f -> f.cell? q=some x:=λq x hc f hh=>mU hc rfl hh
   have bD:=r _ _ c0;have bE:=r _ _ c1;have bF:=r _ _ c2;have bG:=r _ _ c3;clear h0 c0 c1 c2 c3 r;go_wp2_with fail
   skip
   refine gr (bX w.heap.size 37) (ou w.heap.size 37 3) [14] Fi 60 (by kernel_rfl) (by kernel_rfl) (f7 _ _) (cK _ _) (jx #[.slice none 0 0,.slice none 0 0,.slice none 0 0] rfl (aq _) (λj hj=>?_) (λi j hi hj bU=>?_)) ?_
   ·obtain rfl:j=14:=by simpa using hj
    exact⟨_,rfl,rfl,λa W=>by go_simp⟩
   ·simp at hi hj;omega
   unfold Fi;apply dA;rfl;intro f R;go_simp;(repeat (simp(disch:=omega) only[af,aj,ap,ah,am,if_pos];go_simp));exact aF;refine mT rfl rfl (λWa bg g c=>?_);go_simp;have v:Kpt w Wa:=bg.belD rfl;have S:=aN.x Wa (bR HT.x h3 v) (au h3 v.size) _ (.agg #[.slice a1 m.seen.length p1,.slice a2 m.items.length p2,.slice a3 m.gone.length p3]) m ⟨_,_,_,rfl,Hm.x.keep (w':=Wa) λq _ Z=>v.block q Z⟩ Hk.x.1 Hk.x.2 (by have:=a7.x;omega) (by have:=a7.x;omega) (d:Int) _ (.slice ak l.length ck) l (Hl.x.keep (w':=Wa) λq _ Z=>v.block q Z) (by rw[C.x];omega) (λk H=>by have:=av.x k H;omega);rw[an.x,C.x] at S;have ax:=ae v.size;refine S.mono ?_;rintro e bL ⟨⟨r1,rfl,y,E⟩,t⟩;refine⟨_,rfl,bX.of_later t,c _ _ ?_⟩;clear c g S bD bE bF bG;go_simp;obtain⟨t1,t2,t3,rfl,y⟩:=y;dsimp only at y E;obtain⟨n1,m1,rfl⟩:=aJ y.seen;obtain⟨n2,m2,rfl⟩:=aJ y.items;obtain⟨n3,m3,rfl⟩:=aJ y.gone;have bh:Kpt w bL:=v.trans (t.mono v.size);have⟨ao,Ho,a4⟩:=ae3 bh y E;clear bh y E t v bg;apply dA;rfl;intro f R;go_simp;(repeat (simp(disch:=omega) only[af,aj,ap,ah,am,if_pos];go_simp));exact aF;refine iO rfl (λvO Wd T hZ S g c=>?_);obtain⟨Om,LO,rfl,N,s,bf⟩:=hZ;refine c _ _ ?_;clear c g S;go_simp
   obtain⟨x0,x1,x2,rfl⟩:∃x0 x1 x2,LO = [x0,x1,x2]:=by
    match LO,bf with
    |[x0,x1,x2],_=>exact⟨x0,x1,x2,rfl⟩
   have bj:Kpt w Wd:=ao.x.trans (T.below ao.x.size);obtain⟨w6,aY,bk,D⟩:=dX s bj N (.slice n1 x.seen.length m1) (.slice n2 x.items.length m2) (.slice n3 x.gone.length m3)
   have Y:bX w.heap.size 37 Wd w6:=by
    rw[aY];exact cK _ _ _ _ _ (cK _ _ _ _ _ (bX.set s N 0 _) (bX.set (s.set 0 _) N 1 _)) (bX.set ((s.set 0 _).set 1 _) N 2 _)
   have O:dU w6 w.heap.size (.slice n1 x.seen.length m1) (.slice n2 x.items.length m2) (.slice n3 x.gone.length m3) x:=
    ⟨bJ (Y.own (T.own Ho.x.seen (by decide)) (by decide)) ax.x,bJ (Y.own (T.own Ho.x.items (by decide)) (by decide)) ax.x,bJ (Y.own (T.own Ho.x.gone (by decide)) (by decide)) ax.x⟩
   have⟨bM,bs,aZ,br⟩:=ae4 N O bk a4.x;obtain⟨y0,y1,y2⟩:=aS s;have z0:=s.free 0;have z1:=s.free 1;have z2:=s.free 2;have⟨ad,a6,bb⟩:=ae3 D Y aY;clear D Y aY bk bj T s bf Ho a4 ao O;refine iP rfl rfl (λg c=>?_);go_simp;rw[<- bb.x];refine⟨a6.x,c _ _ ?_⟩;clear c g y0 y1 y2 z0 z1 z2 a6 bb N;go_simp;apply dA;rfl;intro f R;go_simp;(repeat (simp(disch:=omega) only[af,aj,ap,ah,am,if_pos];go_simp));exact aF;refine lh ?_
   by_cases he:er=0
   ·subst he;have⟨bN,bt,A⟩:=ae3 (K.x.keep ad.x) (bs.x.nj br.x) (show dz M U l (I U.m U.dev l) (k::eM l)=cE M U (k::eM l) x by unfold dz;rw[if_neg (by rw[ag.x];decide),if_neg ba.x,a9.x,a5.x,an.x];rfl);obtain⟨z,aX⟩:=aP w6.drew;have t:Kpt w6 z:=by rw[aX];exact(Below.refl w6.heap.size w6).drew
    have ay:Kpt w z:=ad.x.trans (t.mono ad.x.size);obtain⟨o0,o1,o2⟩:=aS (aZ.x.keep (t.block _ aZ.x.lt));have r:∀q x,z.cell? q=some x -> ∀f,aK z f -> f.cell? q=some x:=λq x hc f hh=>(hh.cell (p:=q) (eK hc)).trans hc
    have bH:=r _ _ o0;have bI:=r _ _ o1;have bK:=r _ _ o2;have hP:=yj z _ (.slice ak l.length ck) l (Hl.x.keep (w':=z) λq P _=>ay.block q P) (by rw[C.x];omega) (λk H=>by have:=av.x k H;omega);rw[C.x] at hP;have⟨HP,bx,al,bu,a0⟩:=ae5 hP aX ay (bt.x.njBelow t) (show(eM l).length <= 2000000 by have:=DG l av.x;rw[C.x] at this;omega);clear hP aX t ay o0 o1 o2 r;go_wp2_with fail;refine dq aK 7 (up 3 [6,503,504,505,507,8]) (by kernel_rfl) ?_;rw[<- bx.x];apply bC;rfl;intro f R;go_simp;exact aF;clear bH bI bK;refine cD rfl rfl (λg c=>?_);go_simp;refine HP.x.mono ?_;rintro e w8 ⟨⟨r8,rfl,O⟩,D⟩;refine⟨_,rfl,D,c _ _ ?_⟩;clear c g HP;go_simp;have h8:aO (λ_=>True) w8 r8 (eM l):=aO.of_owns O _ λ_ _ _=>trivial
    obtain⟨a8,c8,rfl⟩:=aJ O;have aW:=sF h8.insideU (λb V=>V);obtain⟨Q,aa⟩:=aP (w8.alloc (.cells #[.slice a8 (eM l).length c8] 41));rw[<- aa] at aW;have bi:Kpt z Q:=by rw[aa];exact D.alloc D.size _
    have hR:=oh Q _ k _ _ aW (by rw[pv];have:=a0.x;omega) (by simp);rw[pv] at hR;have⟨HR,bc,ar,bv⟩:=ae4 (show Calls aE 81 #[B k,.slice (some ⟨w8.heap.size,0,none⟩) 1 1] Q _ from hR) aa bi (show Kpt w8 Q by rw[aa];exact aI _ _);obtain⟨nb,bn⟩:=aH ((eM l).length);rw[bn] at bc⊢;clear hR aW aa bi h8 O D bn;refine cD rfl rfl (λg c=>?_);go_simp;rw[<- bc.x];refine⟨bv.x,c _ _ ?_⟩;clear c g;go_simp;refine cD rfl rfl (λg c=>?_);go_simp;refine HR.x.mono ?_;rintro e ab ⟨⟨bp,rfl,aU⟩,aG⟩;refine⟨_,rfl,aG,c _ _ ?_⟩;clear c g HR;go_simp;have aL:Kpt z ab:=ar.x.trans (aG.mono ar.x.size);have L:Kpt w ab:=al.x.trans (aL.mono al.x.size);have bl:=K.x.jat.lt;have bA:w.heap.size <= Q.heap.size:=au al.x.size ar.x.size;have be:aO (λq=>Q.heap.size <= q /\ q<ab.heap.size) ab bp (k::eM l):=aO.of_owns aU _ λq h1 h2=>⟨h1,h2⟩
    have hW:=uM ab (bR HT.x h3 L) (au h3 L.size) (HQ.x.keep (L.block 0 (by omega))) jk u M U (K.x.keep L) Hd.x Hv.x _ bp (k::eM l) be (λq P=>⟨P.2,λha=>by have:=bl q ha;omega⟩) (.agg #[.slice n1 x.seen.length m1,.slice n2 x.items.length m2,.slice n3 x.gone.length m3]) x ⟨_,_,_,rfl,bu.x.njBelow aL⟩ Hw.x (by show(eM l).length+1 <= _;have:=a0.x;omega);have⟨HW,bq⟩:=ae2 hW L;obtain⟨bO,bP,rfl⟩:=aJ aU;clear hW L aL bl bA be aU aG;apply bC;rfl;intro f R;go_simp;exact aF;refine cG rfl rfl rfl (λg c=>?_);go_simp;refine HW.x.mono ?_;rintro e bV ⟨rfl,bo⟩;refine⟨_,rfl,c _ _ ?_⟩;clear c g HW;go_simp;apply bC;rfl;intro f R;go_simp;exact aF;refine cZ ?_;have bw:=ae bo;clear bo;go_wp2
    go_ret
    rw[A.x];exact dZ.after bq.x ⟨rfl,bw.x⟩
   ·have bT:¬er=0:=he;have A:=ae (show dz M U l (I U.m U.dev l) (k::eM l)=(M,U,er) by unfold dz;rw[if_neg (by rw[ag.x];decide),if_neg ba.x,a9.x,a5.x,an.x];exact if_neg he);clear he;go_wp2
    go_ret
    rw[A.x];exact dZ.kept K.x ad.x
def Gi(f:Nat)(c:MD -> MU -> List bQ -> MD×MU×Int):Prop:=
 ∀(w:World)(e:eB w)(d:4 <= w.heap.size)(o:cU w)(a:JK)(u:Nat)(M:MD)(U:MU)(h:UAt w a u M U)(g:U.dev<8)(p:aV U.m=true)(F:aQ)(b:Value)(l:List bQ)(j:Rows F w 1 b l.length (l.map Go.Proofs.encStr))(n:l.length <= 1000)(i:∀k∈l,k.length <= 1000)(q:M.writes+200000<4611686018427387904),
  Calls aE f #[.pointer (some ⟨u,0,none⟩),b] w (dZ w a u (c M U l))
theorem changes:Gi 23 lB /\ Gi 40 oT:=by
 constructor<;>intro w d c j p u M U h f m F q l b i g o
 case' left=>have a:=sV (k:=1) (λ_ _=>by go_simp) xQ w d c j p u M U h f m F q l b i g o
 case' right=>have a:=sV (k:=2) (λ_ _=>by go_simp) qD w d c j p u M U h f m F q l b i g o
 all_goals
  obtain⟨t,v,rfl,-⟩:=id b;obtain⟨n,r⟩:=aH l.length;rw[r] at a⊢
  first|go_enter func23,ntmps23|go_enter func40,ntmps40
  go_wp2_with fail;refine a.mono ?_;rintro e x ⟨rfl,s⟩;go_wp2
  go_ret
  exact⟨rfl,s⟩
theorem sW(f:JK)(u:Nat)(M:MD)(U:MU)(h:UAt w f u M U):
 Calls aE 17 #[.pointer (some ⟨u,0,none⟩)] w λe g=>e=.returned (.int .i64 (U.dev:Int)) /\ w=g:=by
 obtain⟨i,m,j,n,k,o,b,l⟩:=h.box;obtain⟨a,-,-,-,-⟩:=dr b;obtain⟨d,c⟩:=aH U.dev;rw[c] at a⊢
 go_enter func17,ntmps17
 go_wp2
 go_ret
 exact⟨rfl,rfl⟩
theorem EU(v:eB w)(O:4 <= w.heap.size)(a:cU w)(b:JK)(u:Nat)(M:MD)(U:MU)(h:UAt w b u M U)(T:U.dev<8)(X:aV U.m=true)(Y:M.writes+200000<4611686018427387904):
 Calls aE 41 #[.pointer (some ⟨u,0,none⟩)] w (dZ w b u (iy M U)):=by
 have s:=mS w b u M U h;obtain⟨bd,z⟩:=aH U.J.dead;rw[z] at s;obtain⟨i,C⟩:=aP w.drew;have f:Kpt w i:=by rw[C];exact(Below.refl w.heap.size w).drew
 have g:=h.keep f;obtain⟨b1,e1,b2,e2,b3,e3,R,-⟩:=g.box;obtain⟨-,-,-,-,d⟩:=dr R;obtain⟨jj,A⟩:=aH b.j;rw[A] at d;have ao:∀c,aK i c -> c.cell? ⟨u,4,none⟩=some (.pointer (some ⟨jj,0,none⟩)):=λc hh=>(hh.cell (p:=⟨u,4,none⟩) (eK d)).trans d
 have l:=p8 i (bR v O f) (au O f.size) b u M U g T X;obtain⟨D,B⟩:=aH (dB U.dev U.m);rw[B] at l;have H:=s;have ad:=B;have ag:=ae C;have HU:=h;have I:=g;have G:=f;have L:=A;have K:=z;have Hw:=ae Y;have HQ:=a;have HT:=v;clear s R f C d B g h A z Y a v T X
 go_enter func41,ntmps41
 go_wp2_with fail;refine H.mono ?_;rintro e w1 ⟨rfl,rfl⟩;clear H;cases bd with
 |true=>
  have o:=ae (show iy M U=(M,U,8) by unfold iy;rw[if_pos K]);clear ao l;go_wp2
  go_ret
  rw[o.x];exact dZ.same HU
 |false=>
  have o:=ae (show iy M U=fe M U by unfold iy;rw[if_neg (by rw[K];decide)]);go_wp2_with fail;refine dq aK 6 (up 5 [505,506,7]) (by kernel_rfl) ?_;rw[<- ag.x];apply bC;rfl;intro c Q;go_simp;exact aF;refine cD rfl rfl (λKK t=>?_);go_simp;refine l.mono ?_;rintro e k ⟨⟨r4,rfl,V⟩,y⟩;refine⟨_,rfl,y,t _ _ ?_⟩;go_simp;have x:=I.keep y;have an:=I.jat.lt;have ak:aO (λq=>i.heap.size <= q /\ q<k.heap.size) k r4 D:=aO.of_owns V _ λq h1 h2=>⟨h1,h2⟩
  have S:Kpt w k:=G.trans (y.mono G.size)
  have E:=by
   have P:=qz k b M U.J x.jat _ _ D ak (λq a=>⟨a.2,λha=>by have:=an q ha;omega⟩) (λh0=>by have:=x.low 0 h0;omega) (HQ.keep (S.block 0 (by omega))) (by have:=Hw.x;omega);rw[L] at P;exact P
  have ab:=x;have n:=S;obtain⟨a4,d,rfl⟩:=aJ V;obtain⟨r,W⟩:=aH (dx M U.J D);rw[W] at E;obtain⟨M5,J5,N⟩:=r;have Hr:=W;apply bC;rfl;intro c Q;go_simp;exact aF;refine cG rfl rfl rfl (λKK t=>?_);go_simp;refine E.mono ?_;rintro e w5 ⟨rfl,ar,k1,k2,k3,k4,Z⟩;obtain⟨ai,g1,g2,g3,al⟩:=ab.moved Z k3 (k1.trans L.symm) k4 (by have:=n.size;omega)
  have aa:dZ w b u (fe M U) (.returned (.int .i64 N)) w5:=by
   have e:fe M U=(M5,⟨U.dev,U.m,J5⟩,N):=by unfold fe;rw[ad,Hr]
   rw[e];exact⟨rfl,ai,g1,by rw[g2];exact k2,al,λq a=>(g3 q a).imp id λhh=>au n.size hh,(aM.of_below (F:=λq=>b.all q \/ q=u) n).trans Z λq a=>.inl (.inl a)⟩
  refine⟨_,rfl,t _ _ ?_⟩;go_simp;apply bC;rfl;intro c Q;go_simp;exact aF;refine cZ ?_;go_wp2
  go_ret
  rw[o.x];exact aa
def A5(w:World)(m:aT)(e:Ending)(a:World):Prop:=(∃r,e=.returned r /\ pW a w.heap.size r m /\ Bnd m) /\ Kpt w a
theorem yr(jk:JK)(u:Nat)(M:MD)(U:MU)(h:UAt w jk u M U)(hv:aV U.m=true):
 Calls aE 19 #[.pointer (some ⟨u,0,none⟩)] w (A5 w U.m):=by
 obtain⟨a1,p1,a2,p2,a3,p3,f,I⟩:=h.box;have H:=cX hv;obtain⟨m,aY⟩:=aH U.m;rw[aY] at f I H⊢;obtain⟨k,A⟩:=aP (w.alloc (.cells #[.slice none 0 0,.slice none 0 0,.slice none 0 0] 37));have Z:Kpt w k:=by rw[A];exact aI _ _
 have Y:Blk k w.heap.size [.slice none 0 0,.slice none 0 0,.slice none 0 0] 37:=by rw[A];exact Blk.new _ _ _
 have aZ:k.heap.size=w.heap.size+1:=by rw[A];simp
 obtain⟨b,ak⟩:=aP k.drew;have F:Kpt k b:=by rw[ak];exact(Below.refl k.heap.size k).drew
 have E:Kpt w b:=Z.trans (F.mono Z.size);obtain⟨c0,c1,c2,c3,c4⟩:=dr (f.keep (E.block _ f.lt));have P:∀q x,b.cell? q=some x -> ∀B,aK b B -> B.cell? q=some x:=λq x hc B hh=>(hh.cell (p:=q) (eK hc)).trans hc
 have aM:=P _ _ c1;have aN:=P _ _ c2;have aO:=P _ _ c3
 have y:=ae (show ∀W,Kpt b W -> ce (NJ w) W (.slice a1 m.seen.length p1) (.slice a2 m.items.length p2) (.slice a3 m.gone.length p3) m /\ Kpt w W /\ Blk W w.heap.size [.slice none 0 0,.slice none 0 0,.slice none 0 0] 37 from λW hW=>by
  have hB:Kpt w W:=E.trans (hW.mono E.size)
  exact⟨I.keep λq _ aX=>hB.block q aX,hB,(Y.keep (F.block _ Y.lt)).keep (hW.block _ (by have:=F.size;omega))⟩)
 obtain⟨d,hd⟩:=aH U.dev;have⟨S,aU,aW,an,aR⟩:=ae5 (rR b _ (.slice a1 m.seen.length p1) m.seen (y.x b (Below.refl _ _)).1.seen (by have:=H.1;omega)) A ak H I.bnd;obtain⟨n1,ad⟩:=aH m.seen.length;obtain⟨n2,ag⟩:=aH m.items.length;obtain⟨n3,ai⟩:=aH m.gone.length;rw[ad] at aM S;rw[ag] at aN;rw[ai] at aO;have⟨T,C,D⟩:=ae3 ad ag ai;clear f I H A Z Y aZ ak F E c0 c1 c2 c3 c4 P h hv ad ag ai
 go_enter func19,ntmps19
 go_wp2_with fail;rw[<- aU.x];refine dq aK 19 (up 5 [6,7,8,9,10,12,13,14,15,16,505,511,517,18,519]) (by kernel_rfl) ?_;rw[<- aW.x];apply bC;rfl;intro B hC;go_simp;exact aF;clear aM aN aO;refine cD rfl rfl (λj a=>?_);go_simp;refine S.x.mono ?_;rintro e w3 ⟨r3,rfl,J,g⟩;refine⟨_,rfl,g,a _ _ ?_⟩;clear a j S;go_simp;have V:=qr w3 _ (.slice a2 m.items.length p2) m.items (y.x w3 g).1.items (by have:=an.x.2.1;omega);rw[C.x] at V;refine cD rfl rfl (λj a=>?_);go_simp;refine V.mono ?_;rintro e w4 ⟨r4,rfl,K,z⟩;refine⟨_,rfl,z,a _ _ ?_⟩;clear a j V;go_simp;have aa:Kpt b w4:=g.trans (z.mono g.size);have X:=qt w4 _ (.slice a3 m.gone.length p3) m.gone (y.x w4 aa).1.gone (by have:=an.x.2.2.1;omega);rw[D.x] at X;refine cD rfl rfl (λj a=>?_);go_simp;refine X.mono ?_;rintro e R ⟨r5,rfl,N,G⟩;refine⟨_,rfl,G,a _ _ ?_⟩;clear a j X;go_simp;obtain⟨l,r,rfl⟩:=aJ J;obtain⟨n,s,rfl⟩:=aJ K;obtain⟨o,t,rfl⟩:=aJ N;have ab:Kpt w3 R:=z.trans (G.mono z.size);have av:Kpt b R:=g.trans (ab.mono g.size);obtain⟨-,ar,c⟩:=y.x R av;have O:w.heap.size <= b.heap.size:=(y.x b (Below.refl _ _)).2.1.size;rw[<- T.x] at J;rw[<- C.x] at K;rw[<- D.x] at N
 have az:dU R w.heap.size (.slice l m.seen.length r) (.slice n m.items.length s) (.slice o m.gone.length t) m:=
  ⟨bJ (br J ab) O,bJ (br K G) (au O g.size),bJ N (au O aa.size)⟩
 obtain⟨w6,al,ay,ax⟩:=dX c ar (aq _) (.slice l m.seen.length r) (.slice n m.items.length s) (.slice o m.gone.length t)
 have aG:dU w6 w.heap.size (.slice l m.seen.length r) (.slice n m.items.length s) (.slice o m.gone.length t) m:=by
  have one:∀{W:World}{L:List Value}(i:Nat)(x:Value),dU W w.heap.size (.slice l m.seen.length r) (.slice n m.items.length s) (.slice o m.gone.length t) m -> Blk W w.heap.size L 37 -> dU (W.setCell ⟨w.heap.size,i,none⟩ x) w.heap.size (.slice l m.seen.length r) (.slice n m.items.length s) (.slice o m.gone.length t) m:=λi x h f=>
   ⟨aL h.seen f (by decide) x,aL h.items f (by decide) x,aL h.gone f (by decide) x⟩
  rw[al];exact one 2 _ (one 1 _ (one 0 _ az c) (c.set 0 _)) ((c.set 0 _).set 1 _)
 obtain⟨y0,y1,y2⟩:=aS c;have z0:=c.free 0;have z1:=c.free 1;have z2:=c.free 2;have⟨Q,aT,aQ,ao⟩:=ae4 (aS ay) aG ax al;rw[T.x,C.x,D.x] at Q ao;clear az aG ay ax al J K N g z G aa ab av c ar O;apply bC;rfl;intro B hC;go_simp;exact aF;refine cG rfl rfl rfl (λj a=>?_);go_simp;rw[<- ao.x];refine a _ _ ?_;clear a j y0 y1 y2 z0 z1 z2;go_simp;refine cZ ?_;go_wp2;obtain⟨q0,q1,q2⟩:=Q.x;exact bodyPost_ret (v:=.agg #[.slice l n1 r,.slice n n2 s,.slice o n3 t]) (by simp[results,results19,go_sem,q0,q1,q2]) rfl ⟨⟨_,rfl,⟨_,_,_,rfl,by have h:=aT.x;rw[T.x,C.x,D.x] at h;exact h⟩,aR.x⟩,aQ.x⟩
def A6:List gG:=[.steady 0,.steady 1,.steady 2,.steady 3,.steady 4,.move 5,.steady 6,.steady 7,.steady 8,.float 9,.fixed 10,.steady 11]
theorem B1{a b x:aT}(h:dh a b=(x,0)):aV b=true /\ aV x=true:=by
 unfold dh at h;split at h
 ·rename_i c;simp only[Bool.and_eq_true] at c;unfold gw at h;split at h
  ·rename_i d;obtain⟨rfl,-⟩:=Prod.mk.inj h;exact⟨c.2,d⟩
  ·exact absurd (Prod.mk.inj h).2 (by decide)
 ·exact absurd (Prod.mk.inj h).2 (by decide)
theorem vZ(h:aV r=true):encR r=(cQ r,0):=by unfold encR;rw[h];rfl
theorem DH(hT:eB w)(l:4 <= w.heap.size)(R:cU w)(jk:JK)(u:Nat)(M:MD)(U:MU)(h:UAt w jk u M U)(hd:U.dev<8)(hv:aV U.m=true)(F:aQ)(gv:Value)(g:aT)(t:di F w gv g)(hw:M.writes+200000<4611686018427387904):
 Calls aE 38 #[.pointer (some ⟨u,0,none⟩),gv] w (dZ w jk u (fU M U g)):=by
 replace t:=t.mono (G:=λq=>q<w.heap.size) λq _ ag=>ag
 obtain⟨s1,s2,s3,rfl,t⟩:=t;obtain⟨C,H,rfl,-⟩:=t.seen.shape;obtain⟨D,I,rfl,-⟩:=t.items.shape;obtain⟨E,K,rfl,-⟩:=t.gone.shape;obtain⟨a1,p1,a2,p2,a3,p3,P,hm⟩:=h.box;obtain⟨c,aG⟩:=aP (w.alloc (.cells #[.slice C g.seen.length H,.slice D g.items.length I,.slice E g.gone.length K] 37));have ab:Kpt w c:=by rw[aG];exact aI _ _
 have O:Blk c w.heap.size [.slice C g.seen.length H,.slice D g.items.length I,.slice E g.gone.length K] 37:=by rw[aG];exact Blk.new _ _ _
 have hk:=cO hv;obtain⟨m,bb⟩:=aH U.m;obtain⟨bd,Q⟩:=aH U.J.dead;obtain⟨RR,a5⟩:=aH (dh U.m g);have hD:=mS c jk u M U (h.keep ab);rw[bb] at P a5 hm hk;rw[Q] at hD
 have o:∀W,Kpt c W -> Kpt w W /\ (W.cell? ⟨u,1,none⟩=some (.slice a1 m.seen.length p1) /\ W.cell? ⟨u,2,none⟩=some (.slice a2 m.items.length p2) /\ W.cell? ⟨u,3,none⟩=some (.slice a3 m.gone.length p3)) /\ ce (NJ w) W (.slice a1 m.seen.length p1) (.slice a2 m.items.length p2) (.slice a3 m.gone.length p3) m /\
  (W.cell? ⟨w.heap.size,0,none⟩=some (.slice C g.seen.length H) /\ W.cell? ⟨w.heap.size,1,none⟩=some (.slice D g.items.length I) /\ W.cell? ⟨w.heap.size,2,none⟩=some (.slice E g.gone.length K)) /\ ce (λq=>q<w.heap.size) W (.slice C g.seen.length H) (.slice D g.items.length I) (.slice E g.gone.length K) g:=λW hW=>by
  have hB:Kpt w W:=ab.trans (hW.mono ab.size);obtain⟨-,Y,Z,c3,-⟩:=dr (P.keep (hB.block _ P.lt));exact⟨hB,⟨Y,Z,c3⟩,hm.keep λq _ ag=>hB.block q ag,aS (O.keep (hW.block _ O.lt)),t.keep λq R _=>hB.block q R⟩
 have HD:=hD;have X:=h;have Hd:=hd;have Hv:=hv;have Hw:=hw;have Hk:=hk;have⟨aX,aU,ao,V,HQ,b8,b6⟩:=ae7 bb Q a5 hT R aG ab;clear hD h hd hv hw hk bb Q a5 hT R P hm t O aG ab
 go_enter func38,ntmps38
 go_wp2_with fail;rw[<- b8.x];refine HD.mono ?_;rintro e w2 ⟨rfl,rfl⟩;clear HD;cases bd with
 |true=>
  have B:=ae (show fU M U g=(M,U,8) by unfold fU;rw[if_pos aU.x]);go_wp2
  go_ret
  rw[B.x];exact dZ.kept X b6.x
 |false=>
  obtain⟨x,er⟩:=RR;obtain⟨-,⟨Y,Z,c3⟩,-,⟨g1,g2,g3⟩,-⟩:=o c (Below.refl _ _);have k:∀q x,c.cell? q=some x -> ∀f,bX c.heap.size 37 c.drew f -> f.cell? q=some x:=λq x s f hh=>mU s rfl hh
  have cn:=k _ _ Y;have co:=k _ _ Z;have cp:=k _ _ c3;have cq:=k _ _ g1;have cr:=k _ _ g2;have cs:=k _ _ g3;clear Y Z c3 g1 g2 g3 k;go_wp2_with fail
  skip
  refine gr (bX c.heap.size 37) (ou c.heap.size 37 3) [9] A6 60 (by kernel_rfl) (by kernel_rfl) (f7 _ _) (cK _ _) (jx #[.slice none 0 0,.slice none 0 0,.slice none 0 0] rfl (aq _) (λj hj=>?_) (λi j hi hj cl=>?_)) ?_
  ·obtain rfl:j=9:=by simpa using hj
   exact⟨_,rfl,rfl,λa W=>by go_simp⟩
  ·simp at hi hj;omega
  unfold A6;apply dA;rfl;intro f hC;go_simp;exact aF;refine mT rfl rfl (λWa cb v d=>?_);go_simp;have ay:Kpt c Wa:=cb.belD rfl;obtain⟨bT,-,cf,-,az⟩:=o Wa ay;have hU:=sP Wa (bR V.x l bT) (au l bT.size) _ _ (.agg #[.slice a1 m.seen.length p1,.slice a2 m.items.length p2,.slice a3 m.gone.length p3]) (.agg #[.slice C g.seen.length H,.slice D g.items.length I,.slice E g.gone.length K]) m g ⟨_,_,_,rfl,cf⟩ ⟨_,_,_,rfl,az⟩;rw[ao.x] at hU;have aY:=ay.size;refine hU.mono ?_;rintro e ch ⟨⟨r1,rfl,A,Q⟩,z⟩;refine⟨_,rfl,bX.of_later z,d _ _ ?_⟩;go_simp;obtain⟨t1,t2,t3,rfl,A⟩:=A;dsimp only at A Q;obtain⟨n1,m1,rfl⟩:=aJ A.seen;obtain⟨n2,m2,rfl⟩:=aJ A.items;obtain⟨n3,m3,rfl⟩:=aJ A.gone;have cc:Kpt c ch:=ay.trans (z.mono ay.size);have aR:=cc;have Ho:=A;have bp:=Q;apply dA;rfl;intro f hC;go_simp;exact aF;refine iO rfl (λvO Wd aa hZ hU v d=>?_);obtain⟨Om,LO,rfl,N,r,O⟩:=hZ;refine d _ _ ?_;go_simp
  obtain⟨x0,x1,x2,rfl⟩:∃x0 x1 x2,LO = [x0,x1,x2]:=by
   match LO,O with
   |[x0,x1,x2],_=>exact⟨x0,x1,x2,rfl⟩
  have bI:Kpt c Wd:=aR.trans (aa.below aR.size);obtain⟨w6,bg,bK,y⟩:=dX r bI N (.slice n1 x.seen.length m1) (.slice n2 x.items.length m2) (.slice n3 x.gone.length m3)
  have ad:bX c.heap.size 37 Wd w6:=by
   rw[bg];exact cK _ _ _ _ _ (cK _ _ _ _ _ (bX.set r N 0 _) (bX.set (r.set 0 _) N 1 _)) (bX.set ((r.set 0 _).set 1 _) N 2 _)
  have bP:dU w6 c.heap.size (.slice n1 x.seen.length m1) (.slice n2 x.items.length m2) (.slice n3 x.gone.length m3) x:=
   ⟨bJ (ad.own (aa.own Ho.seen (by decide)) (by decide)) aY,bJ (ad.own (aa.own Ho.items (by decide)) (by decide)) aY,bJ (ad.own (aa.own Ho.gone (by decide)) (by decide)) aY⟩
  have ci:=N;have b1:=bP;have al:=bK;have b0:=bp;obtain⟨y0,y1,y2⟩:=aS r;have z0:=r.free 0;have z1:=r.free 1;have z2:=r.free 2;have an:=y;have bs:=ad;have bu:=bg;clear y ad bg bK bI aa r O Ho bp aR bP;refine iP rfl rfl (λv d=>?_);go_simp;rw[<- bu];refine⟨bs,d _ _ ?_⟩;clear d v y0 y1 y2 z0 z1 z2 bs bu N;go_simp;apply dA;rfl;intro f hC;go_simp;(repeat (simp(disch:=omega) only[af,aj,ap,ah,am,if_pos];go_simp));exact aF;refine lh ?_
  by_cases he:er=0
  ·subst he;obtain⟨bL,bW⟩:=B1 ao.x;obtain⟨aZ,⟨Y,Z,c3⟩,bN,-,-⟩:=o w6 an;have b3:=ae (b1.nj b0);have hE:=j8 w6 (bR V.x l aZ) (au l aZ.size) _ (.agg #[.slice a1 m.seen.length p1,.slice a2 m.items.length p2,.slice a3 m.gone.length p3]) m ⟨_,_,_,rfl,bN⟩ Hk.1 Hk.2;rw[vZ (by rw[<- aX.x];exact Hv)] at hE;have⟨HE,av,bv,B⟩:=ae4 hE bL bW (show fU M U g=(if cQ m=cQ x then(M,U,0) else cE M U (ix g) x) by unfold fU;rw[if_neg (by rw[aU.x];decide),aX.x,ao.x];exact if_pos rfl);clear hE bL bW aZ bN;go_wp2_with fail;refine HE.x.mono ?_;rintro e w7 ⟨⟨v7,rfl,cg⟩,z⟩;have bU:=b3.x.njBelow z;obtain⟨o0,o1,o2⟩:=aS (al.keep (z.block _ al.lt));have bB:Kpt c w7:=an.trans (z.mono an.size);have bD:=(o w7 bB).1;have bV:=cO bv.x;have bF:=j8 w7 (bR V.x l bD) (au l bD.size) _ (.agg #[.slice n1 x.seen.length m1,.slice n2 x.items.length m2,.slice n3 x.gone.length m3]) x ⟨_,_,_,rfl,bU⟩ bV.1 bV.2;rw[vZ bv.x] at bF;have bi:=bF;have bn:=cg;have bh:=bB;have b4:=bU;have bl:=al.keep (z.block _ al.lt);dsimp only at bn;go_wp2_with fail;refine bi.mono ?_;rintro e T ⟨⟨v8,rfl,bS⟩,y⟩;have bw:=iZ (bn.keep (w':=T) λb _ ag=>y.block b ag);have bx:=iZ bS;have ak:Kpt c T:=bh.trans (y.mono bh.size);have b5:=b4.njBelow y;have bm:=ae (bl.keep (y.block _ bl.lt));clear bi bS y o0 o1 o2;obtain⟨cm,a8⟩:=aH (cQ m);obtain⟨cx,ba⟩:=aH (cQ x);rw[a8] at bw;rw[ba] at bx;have⟨bq,br⟩:=ae2 a8 ba;clear a8 ba
   by_cases s:cm=cx
   ·subst s;have aW:=ae (show fU M U g=(M,U,0) by rw[B.x,bq.x,br.x];exact if_pos rfl);go_wp2
    go_ret
    rw[aW.x];exact dZ.kept X (o T ak).1
   ·have cd:(cm == cx)=false:=by simpa using s
    have aW:=ae (show fU M U g=cE M U (ix g) x by rw[B.x,bq.x,br.x];exact if_neg s);obtain⟨a0,-,-,⟨g1,g2,g3⟩,az⟩:=o T ak;have a4:=j8 T (bR V.x l a0) (au l a0.size) _ (.agg #[.slice C g.seen.length H,.slice D g.items.length I,.slice E g.gone.length K]) g ⟨_,_,_,rfl,az⟩ (cO av.x).1 (cO av.x).2;rw[vZ av.x] at a4;have⟨bj,bk⟩:=ae2 a4 (cX av.x).2.2.2;clear a4 a0 az s;go_wp2_with fail;refine bj.x.mono ?_;rintro e w9 ⟨⟨v9,rfl,bf⟩,bH⟩;dsimp only at bf;obtain⟨n,aL⟩:=aP w9.drew;have ax:Kpt T n:=by rw[aL];exact bH.drew
    have bz:Kpt c n:=ak.trans (ax.mono ak.size);obtain⟨o0,o1,o2⟩:=aS (bm.x.keep (ax.block _ bm.x.lt));have k:∀q x,n.cell? q=some x -> ∀f,aK n f -> f.cell? q=some x:=λq x s f hh=>(hh.cell (p:=q) (eK s)).trans s
    have ct:=k _ _ o0;have cu:=k _ _ o1;have cv:=k _ _ o2;have be:aO (λ_=>True) n v9 (cQ g):=by rw[aL];exact bf
    obtain⟨a9,c9,rfl,-⟩:=id be;have hr:=sF be.insideU (λb P=>P);obtain⟨ai,aM⟩:=aP (n.alloc (.cells #[.slice a9 (cQ g).length c9] 41));rw[<- aM] at hr;have bG:Kpt n ai:=by rw[aM];exact aI _ _
    have hR:=oh ai _ 3 _ _ hr (by rw[pv];have:=bk.x;omega) (by simp);rw[pv] at hR;have⟨HR,bt,ar,aN,b9,b2⟩:=ae6 (show Calls aE 81 #[.int .u8 3,.slice (some ⟨n.heap.size,0,none⟩) 1 1] ai _ from hR) aM bG bz aL (b5.njBelow ax);obtain⟨ng,bO⟩:=aH ((cQ g).length);rw[bO] at bt⊢;clear bj bf bH ax bz aL o0 o1 o2 k be hr bG hR aM bO bw bx cd g1 g2 g3;go_wp2_with fail;refine dq aK 5 [0,1,4,502,503,505,6] (by kernel_rfl) ?_;rw[<- b9.x];apply bC;rfl;intro f hC;go_simp;exact aF;refine cD rfl rfl (λv d=>?_);go_simp;rw[<- bt.x];refine⟨ar.x,d _ _ ?_⟩;go_simp;refine cD rfl rfl (λv d=>?_);go_simp;refine HR.x.mono ?_;rintro e S ⟨⟨bY,rfl,bc⟩,a6⟩;refine⟨_,rfl,a6,d _ _ ?_⟩;clear d v HR;go_simp;have a7:Kpt n S:=ar.x.trans (a6.mono ar.x.size);have bA:Kpt c S:=aN.x.trans (a7.mono aN.x.size);have L:=(o S bA).1;have bM:=X.jat.lt;have ca:w.heap.size <= ai.heap.size:=au (o n aN.x).1.size ar.x.size;have bE:aO (λq=>ai.heap.size <= q /\ q<S.heap.size) S bY (ix g):=aO.of_owns bc _ λq h1 h2=>⟨h1,h2⟩
    have⟨bo,bZ⟩:=ae2 (uM S (bR V.x l L) (au l L.size) (HQ.x.keep (L.block 0 (by omega))) jk u M U (X.keep L) Hd Hv _ bY (ix g) bE (λq R=>⟨R.2,λha=>by have:=bM q ha;omega⟩) (.agg #[.slice n1 x.seen.length m1,.slice n2 x.items.length m2,.slice n3 x.gone.length m3]) x ⟨_,_,_,rfl,b2.x.njBelow a7⟩ Hw (by show(cQ g).length+1 <= _;have:=bk.x;omega)) L;obtain⟨a12,cj,rfl⟩:=aJ bc;clear L bA a7 bM ca bE bc a6;apply bC;rfl;intro f hC;go_simp;exact aF;refine cG rfl rfl rfl (λv d=>?_);go_simp;refine bo.x.mono ?_;rintro e cw ⟨rfl,bQ⟩;refine⟨_,rfl,d _ _ ?_⟩;clear d v bo;go_simp;apply bC;rfl;intro f hC;go_simp;exact aF;refine cZ ?_;have b7:=ae bQ;clear bQ;go_wp2
    go_ret
    rw[aW.x];exact dZ.after bZ.x ⟨rfl,b7.x⟩
  ·have ck:¬er=0:=he;have B:=ae (show fU M U g=(M,U,er) by unfold fU;rw[if_neg (by rw[aU.x];decide),aX.x,ao.x];exact if_neg he);clear he;go_wp2
   go_ret
   rw[B.x];exact dZ.kept X (o w6 an).1
theorem uN(h:MTy W i):NJ W i:=by
 obtain⟨L,t,a,b,c⟩:=h;refine⟨L,t,a,b,?_⟩;rcases c with rfl|rfl|rfl
 ·exact⟨Ad,by decide,by decide⟩
 ·exact⟨A1,by decide,by decide⟩
 ·exact⟨A2,by decide,by decide⟩
theorem UAt.setD{k:JK}{U:MU}(h:UAt W k i N U){d:Nat}(g:w'=W.setCell ⟨i,0,none⟩ (.int .i64 (d:Int))):UAt w' k i N ⟨d,U.m,U.J⟩ /\ aM (λq=>q=i) W w':=by
 obtain⟨o,v,r,x,s,y,j,z⟩:=h.box
 have f:∀q,q≠i -> w'.heap[q]?=W.heap[q]?:=λq a=>by
  rw[g];exact Below.heap_setCell _ _ _ _ a
 have C:w'.heap.size=W.heap.size:=by rw[g];simp[World.setCell]
 have n:∀q,NJ W q -> q≠i:=λq ⟨L,t,B,hh,_,A⟩ e=>by
  subst e;unfold Blk at j;rw[j] at hh;injection hh with hh
  injection hh with _ hh
  exact A.1 hh.symm
 have l:∀b,k.all b -> b≠i:=λb c e=>h.apart (e▸c)
 refine⟨⟨⟨o,v,r,x,s,y,?_,(z.keep (w':=w') λq a _=>f q (n q a)).mono λq a _=>gK a (f q (n q a))⟩,h.jat.keep (λb c=>f b (l b c)) (by omega),h.typ.keep λb c=>f b (l b c),h.low⟩,?_⟩
 ·rw[g];exact j.set 0 _
 ·rw[g];exact(aM.refl (λq=>q=i) W).setCell (p:=⟨i,0,none⟩) (.inl rfl) _
theorem Gj{d:JK}{U:MU}(h:UAt W d i N U)(b:NJ W j):j≠i:=λe=>by
 obtain⟨f,l,g,m,k,n,a,-⟩:=h.box;obtain⟨L,t,o,hh,_,c⟩:=b;subst e;unfold Blk at a;rw[a] at hh;injection hh with hh
 injection hh with _ hh
 exact c.1 hh.symm
theorem ce.past{d e f:Value}(k:ce (NJ W) W d e f r){l:JK}{U:MU}(h:UAt W l i N U){b:World}(j:aM (λq=>q=i) W b)(g:w'.heap=b.heap:=by rfl):ce (NJ w') w' d e f r:=by
 have c:∀q,NJ W q -> w'.heap[q]?=W.heap[q]?:=λq a=>by
  rw[g];exact j.block q (uL a) (Gj h a)
 exact(k.keep (w':=w') λq a _=>c q a).mono λq a _=>gK a (c q a)
def ii(w:World)(b:JK)(u:Nat)(M:MD)(U:MU)(r:List UInt8)(e:Ending)(a:World):Prop:=match eO (0::r) with
 |none=>e=.returned (.bool false) /\ aM (λq=>q=u) w a
 |some p=>e=.returned (.bool true) /\ UAt a b u M ⟨p.1,p.2,U.J⟩ /\ aM (λq=>q=u) w a
theorem B4(hT:eB w)(h3:4 <= w.heap.size)(jk:JK)(u:Nat)(M:MD)(U:MU)(h:UAt w jk u M U)(F:aQ)(Z:Option Addr)(B:Nat)(r:List UInt8)(hB:aO F w (.slice Z r.length B) r)(hF:∀q,F q -> q<w.heap.size)(hl:r.length <= 400000):
 Calls aE 50 #[.pointer (some ⟨u,0,none⟩),.slice Z r.length B] w (ii w jk u M U r):=by
 obtain⟨-,a8,a6,-⟩:=hB.cells;have a9:B <= 9223372036854775807:=by unfold maxLen at a6;omega
 have I:=xC w F Z B r 0 hB hF (Nat.zero_le _);unfold ji at I;rw[List.drop_zero] at I;cases E:rdF r 9 with
 |none=>
  rw[E] at I;have⟨aN,S⟩:=ae2 (show eO (0::r)=none by unfold eO;dsimp only;rw[if_pos rfl,E]) (show Calls aE 99 #[.slice Z r.length B,.int .i64 0] w λe a=>e=.returned (iw r.length none) /\ Kpt w a from I);unfold iw at S;clear I E h hB hF hT
  go_enter func50,ntmps50
  go_wp2_with fail;refine S.x.mono ?_;rintro e A ⟨rfl,f⟩;clear S;go_wp2
  exact bodyPost_ret (v:=.bool false) (by simp[results,results50,go_sem]) rfl (by
   unfold ii;rw[aN.x];exact⟨rfl,aM.of_below f⟩)
 |some p=>
  obtain⟨n,t⟩:=p;rw[E] at I;have a7:=jD E;have az:=k8 E;obtain⟨k,hk⟩:=aH (r.length-t.length);have S:=ae (show Calls aE 99 #[.slice Z r.length B,.int .i64 0] w λe a=>e=.returned (.tuple #[.int .u64 (n:Int),.int .i64 (k:Int),.bool true]) /\ Kpt w a from by rw[<- hk];exact I);rw[hk] at az;have a4:k <= r.length:=by omega
  by_cases h8:n<8
  case neg=>
   have hI:((n:Int)<8)=False:=eq_false (by omega);have a5:decide ((8:Int) <= (n:Int))=true:=decide_eq_true (by omega);have aN:=ae (show eO (0::r)=none by unfold eO;dsimp only;rw[if_pos rfl,E];dsimp only;rw[if_neg h8]);clear I E h hB hF hT hk az a4
   go_enter func50,ntmps50
   go_wp2_with fail;refine S.x.mono ?_;rintro e A ⟨rfl,f⟩;clear S;go_wp2
   exact bodyPost_ret (v:=.bool false) (by simp[results,results50,go_sem]) rfl (by
    unfold ii;rw[aN.x];exact⟨rfl,aM.of_below f⟩)
  have hI:((n:Int)<8)=True:=eq_true (by omega);have a5:decide ((8:Int) <= (n:Int))=false:=decide_eq_false (by omega);have hd:=hB.drop k a4;rw[<- az.2,show r.length-k=t.length by omega] at hd;obtain⟨aU,aV⟩:=aH (if B=k then Z else Z.map λx=>x.add k);rw[aV] at hd;have ad:r.length-k=t.length:=by omega
  have⟨T,ay,aZ,aY,a0,Hl⟩:=ae6 (show ∀W,Kpt w W -> eB W /\ 4 <= W.heap.size /\ aO F W (.slice aU t.length (B-k)) t /\ ∀q,F q -> q<W.heap.size from λW hW=>⟨bR hT h3 hW,au h3 hW.size,hd.keep (w':=W) λq N _=>hW.block q (hF q N),λq N=>aw (hF q N) hW.size⟩) h E aV ad (show t.length <= 400000 by omega);have ba:(k:Int) <= (r.length:Int):=by omega
  clear I E h hB hF hT hk az hd aV ad a7 hl
  go_enter func50,ntmps50
  go_wp2_with fail;refine S.x.mono ?_;rintro e A ⟨rfl,f⟩;clear S;go_wp2_with fail
  case inl h=>
   have ee:=aY.x;rw[if_pos h] at ee;rw[a0.x];have j:=nT A (T.x A f).1 (T.x A f).2.1 F aU (B-k) t (T.x A f).2.2.1 (T.x A f).2.2.2 Hl.x;rw[<- ee] at j;unfold vG at j;obtain⟨R,hR⟩:=aH (e9 t);rw[hR] at j;obtain⟨x,G⟩:=R;dsimp only at j;rw[show B-k=0 by omega] at j;have⟨HR,ag⟩:=ae2 hR j;clear j ee hR h;refine ag.x.mono ?_;rintro e g ⟨v,rfl,hv,J⟩;clear ag;obtain⟨s1,s2,s3,rfl,D⟩:=hv;obtain⟨l,s,rfl,-⟩:=D.seen.shape;obtain⟨m,y,rfl,-⟩:=D.items.shape;obtain⟨o,z,rfl,-⟩:=D.gone.shape;obtain⟨b,O⟩:=aP (g.alloc (.cells #[.slice l x.seen.length s,.slice m x.items.length y,.slice o x.gone.length z] 37));have K:Kpt g b:=by rw[O];exact aI _ _
   have ak:Blk b g.heap.size [.slice l x.seen.length s,.slice m x.items.length y,.slice o x.gone.length z] 37:=by rw[O];exact Blk.new _ _ _
   have ar:ce (NJ b) b (.slice l x.seen.length s) (.slice m x.items.length y) (.slice o x.gone.length z) x:=(D.keep (w':=b) λq _ ad=>K.block q ad).mono λq N _=>gK (uN N.2) (K.block q (by
    obtain⟨L,t,fz,hh,_⟩:=N.2
    exact lt_of_block hh))
   have aa:Kpt w b:=(f.trans (J.mono f.size)).trans (K.mono (au f.size J.size));have al:=ay.x.keep aa;have ao:u<g.heap.size:=by have:=ay.x.lt;have:=f.size;have:=J.size;omega
   have⟨aJ,aG,X,aT,ai,aR⟩:=ae6 ar aa al O ak ao;clear D K ak ar aa al J O ao;go_wp2_with fail;refine dq (bI (λq=>q=u)) 10 (up 7 [507,8,9,510]) (by kernel_rfl) ?_;rw[<- aT.x]
   have Q:∀a,bI (λq=>q=u) b.drew a -> a.cell? ⟨g.heap.size,0,none⟩=some (.slice l x.seen.length s) /\ a.cell? ⟨g.heap.size,1,none⟩=some (.slice m x.items.length y) /\ a.cell? ⟨g.heap.size,2,none⟩=some (.slice o x.gone.length z):=λa hh=>
    aS (ai.x.keep (w':=a) (hh.block g.heap.size ai.x.lt (by have:=aR.x;show ¬g.heap.size=u;omega)))
   have q0:=λa hh=>(Q a hh).1
   have q1:=λa hh=>(Q a hh).2.1
   have q2:=λa hh=>(Q a hh).2.2
   clear Q;have aX:IntKind.i64.wrap (n:Int)=(n:Int):=af _ (by omega);apply bC;rfl;intro a hC;go_simp;exact aF;clear q0 q1 q2 aX;obtain⟨a1,p1,a2,p2,a3,p3,c,-⟩:=X.x.box;have z0:=(dr c).1;have zf:=c.free 0;refine cD rfl rfl (λY C=>?_);go_simp;obtain⟨i,P⟩:=aP (b.setCell ⟨u,0,none⟩ (.int .i64 (n:Int)));rw[<- P];have h4:=(X.x.keep ((Below.refl b.heap.size b).drew)).setD (d:=n) (w':=i.drew) (by rw[P];rfl);have ax:ce (NJ i.drew) i.drew (.slice l x.seen.length s) (.slice m x.items.length y) (.slice o x.gone.length z) x:=aJ.x.past (w':=i.drew) X.x (show aM (λq=>q=u) b i by rw[P];exact(aM.refl (λq=>q=u) b).setCell (p:=⟨u,0,none⟩) (.inl rfl) _);have⟨V,aK⟩:=ae2 h4 ax;refine⟨h4.2,C _ _ ?_⟩;clear C Y h4 ax P c z0 zf;go_simp;apply bC;rfl;intro a hC;go_simp;exact aF;obtain⟨a1,p1,a2,p2,a3,p3,c,-⟩:=V.x.1.box;have c:Blk i u _ _:=c;obtain⟨-,z1,z2,z3,-⟩:=dr c;have f1:=c.free 1;have f2:=c.free 2;have f3:=c.free 3;refine cG rfl rfl rfl (λY C=>?_);go_simp;obtain⟨w5,ab⟩:=aP (((i.setCell ⟨u,1,none⟩ (.slice l x.seen.length s)).setCell ⟨u,2,none⟩ (.slice m x.items.length y)).setCell ⟨u,3,none⟩ (.slice o x.gone.length z));rw[<- ab];have h5:=V.x.1.setM aK.x (w':=w5.drew) (by rw[ab];rfl)
   have aL:=ae (show ii w jk u M U r (.returned (.bool (G == 0))) w5.drew from by
    have aW:eO (0::r)=if G=0 then some (n,x) else none:=by
     unfold eO;dsimp only;rw[if_pos rfl,aZ.x];dsimp only;rw[if_pos h8,HR.x]
    have an:aM (λq=>q=u) w w5.drew:=((aM.of_below (F:=λq=>q=u) aG.x.drew).trans V.x.2 λ_ hi=>.inl hi).trans h5.2 λ_ hi=>.inl hi
    unfold ii;rw[aW]
    by_cases H:G=0
    ·rw[if_pos H,H];exact⟨rfl,h5.1,an⟩
    ·rw[if_neg H]
     exact⟨by rw[beq_eq_false_iff_ne.2 H],an⟩)
   refine C _ _ ?_;clear C Y c z1 z2 z3 f1 f2 f3 ab h5;go_simp;apply bC;rfl;intro a hC;go_simp;exact aF;refine cZ ?_;go_wp2;exact bodyPost_ret (v:=.bool (G == 0)) (by simp[results,results50,go_sem]) rfl aL.x
  case inr h=>
   have ee:=aY.x;rw[if_neg h] at ee;rw[a0.x];have j:=nT A (T.x A f).1 (T.x A f).2.1 F aU (B-k) t (T.x A f).2.2.1 (T.x A f).2.2.2 Hl.x;rw[<- ee] at j;unfold vG at j;obtain⟨R,hR⟩:=aH (e9 t);rw[hR] at j;obtain⟨x,G⟩:=R;dsimp only at j
   skip
   have⟨HR,ag⟩:=ae2 hR j;clear j ee hR h;refine ag.x.mono ?_;rintro e g ⟨v,rfl,hv,J⟩;clear ag;obtain⟨s1,s2,s3,rfl,D⟩:=hv;obtain⟨l,s,rfl,-⟩:=D.seen.shape;obtain⟨m,y,rfl,-⟩:=D.items.shape;obtain⟨o,z,rfl,-⟩:=D.gone.shape;obtain⟨b,O⟩:=aP (g.alloc (.cells #[.slice l x.seen.length s,.slice m x.items.length y,.slice o x.gone.length z] 37));have K:Kpt g b:=by rw[O];exact aI _ _
   have ak:Blk b g.heap.size [.slice l x.seen.length s,.slice m x.items.length y,.slice o x.gone.length z] 37:=by rw[O];exact Blk.new _ _ _
   have ar:ce (NJ b) b (.slice l x.seen.length s) (.slice m x.items.length y) (.slice o x.gone.length z) x:=(D.keep (w':=b) λq _ ad=>K.block q ad).mono λq N _=>gK (uN N.2) (K.block q (by
    obtain⟨L,t,fz,hh,_⟩:=N.2
    exact lt_of_block hh))
   have aa:Kpt w b:=(f.trans (J.mono f.size)).trans (K.mono (au f.size J.size));have al:=ay.x.keep aa;have ao:u<g.heap.size:=by have:=ay.x.lt;have:=f.size;have:=J.size;omega
   have⟨aJ,aG,X,aT,ai,aR⟩:=ae6 ar aa al O ak ao;clear D K ak ar aa al J O ao;go_wp2_with fail;refine dq (bI (λq=>q=u)) 10 (up 7 [507,8,9,510]) (by kernel_rfl) ?_;rw[<- aT.x]
   have Q:∀a,bI (λq=>q=u) b.drew a -> a.cell? ⟨g.heap.size,0,none⟩=some (.slice l x.seen.length s) /\ a.cell? ⟨g.heap.size,1,none⟩=some (.slice m x.items.length y) /\ a.cell? ⟨g.heap.size,2,none⟩=some (.slice o x.gone.length z):=λa hh=>
    aS (ai.x.keep (w':=a) (hh.block g.heap.size ai.x.lt (by have:=aR.x;show ¬g.heap.size=u;omega)))
   have q0:=λa hh=>(Q a hh).1
   have q1:=λa hh=>(Q a hh).2.1
   have q2:=λa hh=>(Q a hh).2.2
   clear Q;have aX:IntKind.i64.wrap (n:Int)=(n:Int):=af _ (by omega);apply bC;rfl;intro a hC;go_simp;exact aF;clear q0 q1 q2 aX;obtain⟨a1,p1,a2,p2,a3,p3,c,-⟩:=X.x.box;have z0:=(dr c).1;have zf:=c.free 0;refine cD rfl rfl (λY C=>?_);go_simp;obtain⟨i,P⟩:=aP (b.setCell ⟨u,0,none⟩ (.int .i64 (n:Int)));rw[<- P];have h4:=(X.x.keep ((Below.refl b.heap.size b).drew)).setD (d:=n) (w':=i.drew) (by rw[P];rfl);have ax:ce (NJ i.drew) i.drew (.slice l x.seen.length s) (.slice m x.items.length y) (.slice o x.gone.length z) x:=aJ.x.past (w':=i.drew) X.x (show aM (λq=>q=u) b i by rw[P];exact(aM.refl (λq=>q=u) b).setCell (p:=⟨u,0,none⟩) (.inl rfl) _);have⟨V,aK⟩:=ae2 h4 ax;refine⟨h4.2,C _ _ ?_⟩;clear C Y h4 ax P c z0 zf;go_simp;apply bC;rfl;intro a hC;go_simp;exact aF;obtain⟨a1,p1,a2,p2,a3,p3,c,-⟩:=V.x.1.box;have c:Blk i u _ _:=c;obtain⟨-,z1,z2,z3,-⟩:=dr c;have f1:=c.free 1;have f2:=c.free 2;have f3:=c.free 3;refine cG rfl rfl rfl (λY C=>?_);go_simp;obtain⟨w5,ab⟩:=aP (((i.setCell ⟨u,1,none⟩ (.slice l x.seen.length s)).setCell ⟨u,2,none⟩ (.slice m x.items.length y)).setCell ⟨u,3,none⟩ (.slice o x.gone.length z));rw[<- ab];have h5:=V.x.1.setM aK.x (w':=w5.drew) (by rw[ab];rfl)
   have aL:=ae (show ii w jk u M U r (.returned (.bool (G == 0))) w5.drew from by
    have aW:eO (0::r)=if G=0 then some (n,x) else none:=by
     unfold eO;dsimp only;rw[if_pos rfl,aZ.x];dsimp only;rw[if_pos h8,HR.x]
    have an:aM (λq=>q=u) w w5.drew:=((aM.of_below (F:=λq=>q=u) aG.x.drew).trans V.x.2 λ_ hi=>.inl hi).trans h5.2 λ_ hi=>.inl hi
    unfold ii;rw[aW]
    by_cases H:G=0
    ·rw[if_pos H,H];exact⟨rfl,h5.1,an⟩
    ·rw[if_neg H]
     exact⟨by rw[beq_eq_false_iff_ne.2 H],an⟩)
   refine C _ _ ?_;clear C Y c z1 z2 z3 f1 f2 f3 ab h5;go_simp;apply bC;rfl;intro a hC;go_simp;exact aF;refine cZ ?_;go_wp2;exact bodyPost_ret (v:=.bool (G == 0)) (by simp[results,results50,go_sem]) rfl aL.x
theorem DI{k:bQ}{r:List UInt8}(h:rdT l=some (k,r)):k.length <= l.length /\ r.length <= l.length:=by
 unfold rdT at h;cases e:rdF l 9 with
 |none=>rw[e] at h;cases h
 |some p=>
  obtain⟨n,t⟩:=p;rw[e] at h;dsimp only at h;have c:=jD e
  by_cases a:n <= t.length
  ·rw[if_pos a] at h;obtain⟨rfl,rfl⟩:=Prod.mk.inj (Option.some.inj h);rw[List.length_take,List.length_drop];omega
  ·rw[if_neg a] at h;cases h
theorem ys:∀(n:Nat)(b:List UInt8)(l:List bQ)(r:List UInt8),jH n b=some (l,r) -> l.length=n /\ ∀k∈l,k.length <= b.length
 |0,b,l,r,h=>by
  obtain⟨rfl,rfl⟩:=Prod.mk.inj (Option.some.inj h);exact⟨rfl,nofun⟩
 |n+1,b,l,r,h=>by
  unfold jH at h;cases e:rdT b with
  |none=>rw[e] at h;cases h
  |some p=>
   obtain⟨k,t⟩:=p;rw[e] at h;dsimp only at h;cases a:jH n t with
   |none=>rw[a] at h;cases h
   |some q=>
    obtain⟨i,j⟩:=q;rw[a] at h;obtain⟨rfl,rfl⟩:=Prod.mk.inj (Option.some.inj h);obtain⟨f,g⟩:=ys n t i j a;have d:=DI e;refine⟨by rw[aD,f],λx c=>?_⟩;rcases List.mem_cons.1 c with rfl|c
    ·exact d.1
    ·exact au (g x c) d.2
theorem A7{r:List UInt8}(h:rdL l=some (y,r)):y.length <= l.length /\ ∀k∈y,k.length <= l.length:=by
 unfold rdL at h;cases e:rdF l 9 with
 |none=>rw[e] at h;cases h
 |some p=>
  obtain⟨n,t⟩:=p;rw[e] at h;dsimp only at h;have g:=jD e
  by_cases a:n <= t.length
  ·rw[if_pos a] at h;obtain⟨f,c⟩:=ys n t y r h;exact⟨by omega,λk d=>by have:=c k d;omega⟩
  ·rw[if_neg a] at h;cases h
def Fj:List gG:=[.steady 0,.steady 1,.steady 2,.steady 3,.steady 4,.steady 5,.steady 6,.steady 7,.steady 8,.steady 9,.move 10,.steady 11,.steady 12,.steady 13,.float 14,.fixed 15,.steady 16]
def jR(w:World)(b:JK)(u:Nat)(M:MD)(U:MU)(o:Option aT)(e:Ending)(a:World):Prop:=match o with
 |none=>e=.returned (.bool false) /\ aM (λq=>q=u) w a
 |some x=>e=.returned (.bool true) /\ UAt a b u M ⟨U.dev,x,U.J⟩ /\ aM (λq=>q=u) w a
theorem yt{R:Nat}{X:aT -> Int -> List bQ -> aT×Int}(bv:∀a g,(callFunc R a).run aE g=.ok (.enter R a) g)(ak:vE R X)(w:World)(hT:eB w)(h3:4 <= w.heap.size)(jk:JK)(u:Nat)(M:MD)(U:MU)(h:UAt w jk u M U)(hd:U.dev<8)(hv:aV U.m=true)(F:aQ)(P:Option Addr)(Q:Nat)(b:List UInt8)(hB:aO F w (.slice P b.length Q) b)(hF:∀q,F q -> q<w.heap.size)(hl:b.length <= 400000):
 Calls aE 101 #[.pointer (some ⟨u,0,none⟩),.slice P b.length Q,.func (.func R) #[] #[]] w (jR w jk u M U (match rdL b with|some (l,[])=>okR (X U.m U.dev l)|_=>none)):=by
 have hL:=Dc w F P Q b 0 hB hF (Nat.zero_le _) hl;rw[List.drop_zero] at hL;obtain⟨o,f⟩:=aH (rdL b);rw[f] at hL⊢;have HL:Calls aE 159 #[.slice P b.length Q,.int .i64 0] w (vH w b.length o):=hL;have ak:=ak;have HU:=h;have aI:=f;have Hv:=hv;have HT:=hT;have aL:=hl
 go_enter func101,ntmps101
 go_wp2_with fail;refine HL.mono ?_;rintro e s I;cases o with
 |none=>
  obtain⟨hb,rfl⟩:=I;have A:=hb;go_wp2;exact bodyPost_ret (v:=.bool false) (by simp[results,results101,go_sem]) rfl ⟨rfl,aM.of_below A⟩
 |some p=>
  obtain⟨l,r⟩:=p;obtain⟨hb,a,c,rfl,br⟩:=I
  have bp:0<b.length:=by
   cases b with
   |nil=>
    have bq:(none:Option (List bQ×List UInt8))=some (l,r):=aI;cases bq
   |cons y t=>simp
  have A:=hb;have aU:=br;cases r with
  |cons y r'=>
   obtain⟨q,V⟩:=aH (b.length-(y::r').length);have bx:¬(q:Int)=(b.length:Int):=by rw[aD] at V;omega
   rw[V];go_wp2;exact bodyPost_ret (v:=.bool false) (by simp[results,results101,go_sem]) rfl ⟨rfl,aM.of_below A⟩
  |nil=>
   rw[show b.length-([]:List UInt8).length=b.length from rfl];have ad:=HU.keep A;have L:=cO Hv;have al:=cX Hv;obtain⟨a1,p1,a2,p2,a3,p3,ai,hm⟩:=ad.box;obtain⟨m,ao⟩:=aH U.m;obtain⟨d,a6⟩:=aH U.dev;have aR:=A7 aI;have a9:=(Rows.of_owns aU).mono (G:=λq=>q<s.heap.size) λq V _=>V.2
   obtain⟨n,hn⟩:=aH l.length;obtain⟨bl,ag⟩:=aH b.length;obtain⟨RR,T⟩:=aH (X U.m U.dev l);have bj:=ae (show okR (X U.m U.dev l)=okR RR by rw[T]);rw[ao,a6] at ai T;rw[ao] at hm L al;obtain⟨c0,c1,c2,c3,c4⟩:=dr ai;have⟨Hm,Hk,aN,bf,Hn,bu,bk,bg⟩:=ae8 hm L al T hn ag a9 ad;rw[hn,ag];clear hm L al T hn a9 ad ai c4 ao a6 aU;obtain⟨x,B⟩:=RR;have O:∀q x,s.cell? q=some x -> ∀g,bX s.heap.size 37 s.drew g -> g.cell? q=some x:=λq x hc g hh=>mU hc rfl hh
   have bz:=O _ _ c0;have bA:=O _ _ c1;have bB:=O _ _ c2;have bC:=O _ _ c3;clear c0 c1 c2 c3 O bp ag;go_wp2_with fail
   skip
   refine gr (bX s.heap.size 37) (ou s.heap.size 37 3) [14] Fj 60 (by kernel_rfl) (by kernel_rfl) (f7 _ _) (cK _ _) (jx #[.slice none 0 0,.slice none 0 0,.slice none 0 0] rfl (aq _) (λj hj=>?_) (λi j hi hj bw=>?_)) ?_
   ·obtain rfl:j=14:=by simpa using hj
    exact⟨_,rfl,rfl,λa W=>by go_simp⟩
   ·simp at hi hj;omega
   unfold Fj;apply dA;rfl;intro g I;go_simp;(repeat (simp(disch:=omega) only[af,aj,ap,ah,am,if_pos];go_simp));exact aF;refine mT rfl rfl (λH bn KK C=>?_);go_simp;have E:Kpt s H:=bn.belD rfl;have ba:Kpt w H:=A.trans (E.mono A.size);have hU:=ak H (bR HT h3 ba) (au h3 ba.size) _ (.agg #[.slice a1 m.seen.length p1,.slice a2 m.items.length p2,.slice a3 m.gone.length p3]) m ⟨_,_,_,rfl,Hm.x.keep (w':=H) λq _ an=>E.block q an⟩ Hk.x.1 Hk.x.2 (by have:=aN.x;omega) (by have:=aN.x;omega) (d:Int) _ (.slice a l.length c) l (bk.x.keep (w':=H) λq _ an=>E.block q an) (by have:=aR.1;have:=aL;omega) (λk L=>by have:=aR.2 k L;have:=aL;omega);rw[bf.x,Hn.x] at hU;have ab:=ae E.size;refine hU.mono ?_;rintro e bs ⟨⟨r1,rfl,f,a0⟩,aY⟩;refine⟨_,rfl,bX.of_later aY,C _ _ ?_⟩;go_simp;obtain⟨t1,t2,t3,rfl,f⟩:=f;dsimp only at f a0;obtain⟨n1,m1,rfl⟩:=aJ f.seen;obtain⟨n2,m2,rfl⟩:=aJ f.items;obtain⟨n3,m3,rfl⟩:=aJ f.gone;have bo:Kpt s bs:=E.trans (aY.mono E.size);have aa:=bo;have aG:=a0;apply dA;rfl;intro g I;go_simp;exact aF;refine iO rfl (λvO Wd J hZ hU KK C=>?_);obtain⟨Om,LO,rfl,D,z,aX⟩:=hZ;refine C _ _ ?_;go_simp
   obtain⟨Y,Z,x2,rfl⟩:∃Y Z x2,LO = [Y,Z,x2]:=by
    match LO,aX with
    |[Y,Z,x2],_=>exact⟨Y,Z,x2,rfl⟩
   have a4:Kpt s Wd:=aa.trans (J.below aa.size);obtain⟨w6,ax,a5,aZ⟩:=dX z a4 D (.slice n1 x.seen.length m1) (.slice n2 x.items.length m2) (.slice n3 x.gone.length m3)
   have N:bX s.heap.size 37 Wd w6:=by
    rw[ax];exact cK _ _ _ _ _ (cK _ _ _ _ _ (bX.set z D 0 _) (bX.set (z.set 0 _) D 1 _)) (bX.set ((z.set 0 _).set 1 _) D 2 _)
   have a7:dU w6 s.heap.size (.slice n1 x.seen.length m1) (.slice n2 x.items.length m2) (.slice n3 x.gone.length m3) x:=
    ⟨bJ (N.own (J.own f.seen (by decide)) (by decide)) ab.x,bJ (N.own (J.own f.items (by decide)) (by decide)) ab.x,bJ (N.own (J.own f.gone (by decide)) (by decide)) ab.x⟩
   have⟨bt,be,bd,bc⟩:=ae4 D a7 a5 aG;obtain⟨y0,y1,y2⟩:=aS z;have z0:=z.free 0;have z1:=z.free 1;have z2:=z.free 2;have⟨ay,aK,aW⟩:=ae3 aZ N ax;clear aZ N ax a5 a4 J z aX f aG aa a7;refine iP rfl rfl (λKK C=>?_);go_simp;rw[<- aW.x];refine⟨aK.x,C _ _ ?_⟩;clear C KK y0 y1 y2 z0 z1 z2 aK aW D;go_simp;apply dA;rfl;intro g I;go_simp;(repeat (simp(disch:=omega) only[af,aj,ap,ah,am,if_pos];go_simp));exact aF;refine lh ?_;have⟨az,bh,bb⟩:=ae3 (bg.x.keep ay.x) (be.x.nj bc.x) (show Kpt w w6 from A.trans (ay.x.mono A.size));obtain⟨b1,q1,b2,q2,b3,q3,K,-⟩:=az.x.box;obtain⟨-,z1,z2,z3,-⟩:=dr K;have f1:=K.free 1;have f2:=K.free 2;have f3:=K.free 3;obtain⟨o0,o1,o2⟩:=aS bd.x;obtain⟨w7,ar⟩:=aP (((w6.setCell ⟨u,1,none⟩ (.slice n1 x.seen.length m1)).setCell ⟨u,2,none⟩ (.slice n2 x.items.length m2)).setCell ⟨u,3,none⟩ (.slice n3 x.gone.length m3));have h7:=az.x.setM bh.x ar
   have bi:=ae (show jR w jk u M U (okR (x,B)) (.returned (.bool (B == 0))) w7 from by
    have a8:aM (λq=>q=u) w w7:=(aM.of_below (F:=λq=>q=u) bb.x).trans h7.2 λ_ hi=>.inl hi
    by_cases S:B=0
    ·rw[show okR (x,B)=some x from if_pos S,S];exact⟨rfl,h7.1,a8⟩
    ·rw[show okR (x,B)=none from if_neg S]
     exact⟨by rw[beq_eq_false_iff_ne.2 S],a8⟩)
   have bm:=ae ar;clear ar h7 K;go_wp2;rw[bj.x];rw[<- bm.x];exact bodyPost_ret (v:=.bool (B == 0)) (by simp[results,results101,go_sem]) rfl bi.x
theorem jR.bool{w:World}{a:JK}{u:Nat}{M:MD}{U:MU}{o:Option aT}{e:Ending}{b:World}(h:jR w a u M U o e b):e=.returned (.bool o.isSome):=by
 cases o with
 |none=>exact h.1
 |some x=>exact h.1
def Fk(f:Nat)(k:UInt8):Prop:=
 ∀(w:World)(i:eB w)(e:4 <= w.heap.size)(d:JK)(u:Nat)(M:MD)(U:MU)(h:UAt w d u M U)(j:U.dev<8)(n:aV U.m=true)(F:aQ)(a:Option Addr)(c:Nat)(b:List UInt8)(g:aO F w (.slice a b.length c) b)(hF:∀q,F q -> q<w.heap.size)(l:b.length <= 400000),
  Calls aE f #[.pointer (some ⟨u,0,none⟩),.slice a b.length c] w (jR w d u M U (ef U.dev U.m (k::b)))
theorem Fl:Fk 51 1 /\ Fk 52 2:=by
 constructor<;>intro w j g t u M U h k s F d f b i hF p
 case' left=>
  have n:ef U.dev U.m (1::b)=(match rdL b with|some (l,[])=>okR (iB U.m U.dev l)|_=>none):=by unfold ef;dsimp only;rw[if_neg (by decide),if_pos rfl];rfl
  obtain⟨o,a⟩:=aH (ef U.dev U.m (1::b));rw[a];have c:=yt (λ_ _=>by go_simp) xQ w j g t u M U h k s F d f b i hF p
 case' right=>
  have n:ef U.dev U.m (2::b)=(match rdL b with|some (l,[])=>okR (dy U.m U.dev l)|_=>none):=by unfold ef;dsimp only;rw[if_neg (by decide),if_neg (by decide),if_pos rfl];rfl
  obtain⟨o,a⟩:=aH (ef U.dev U.m (2::b));rw[a];have c:=yt (λ_ _=>by go_simp) qD w j g t u M U h k s F d f b i hF p
 all_goals
  rw[n] at a
  first|go_enter func51,ntmps51|go_enter func52,ntmps52
  go_wp2_with fail;refine c.mono ?_;rintro e v q
  obtain⟨r,rfl⟩:∃r,e=.returned (.bool r):=⟨_,q.bool⟩
  go_wp2
  go_ret
  rw[<- a];exact q
theorem lJ{b:List UInt8}(h:(e9 b).2=0):aV (e9 b).1=true:=by
 unfold e9 at h⊢;split at h
 ·rename_i a;rw[if_pos a];exact a.2
 ·exact absurd h (show ¬(5:Int)=0 by decide)
theorem Ag(hT:eB w)(h3:4 <= w.heap.size)(jk:JK)(u:Nat)(M:MD)(U:MU)(h:UAt w jk u M U)(hv:aV U.m=true)(F:aQ)(Y:Option Addr)(Z:Nat)(b:List UInt8)(hB:aO F w (.slice Y b.length Z) b)(hF:∀q,F q -> q<w.heap.size)(hl:b.length <= 400000):
 Calls aE 53 #[.pointer (some ⟨u,0,none⟩),.slice Y b.length Z] w (jR w jk u M U (ef U.dev U.m (3::b))):=by
 have J:=nT w hT h3 F Y Z b hB hF hl;unfold vG at J;have ai:=lJ (b:=b);obtain⟨R,hR⟩:=aH (e9 b);rw[hR] at J ai;obtain⟨c,I⟩:=R;dsimp only at J ai
 have bk:ef U.dev U.m (3::b)=if I=0 then okR (dh U.m c) else none:=by
  unfold ef;dsimp only;rw[if_pos rfl,hR]
 rw[bk];obtain⟨O,hO⟩:=aH (if I=0 then okR (dh U.m c) else none);rw[hO];have HO:=hO;have HU:=h;have Hv:=hv;have HT:=hT;have ax:=ai
 go_enter func53,ntmps53
 go_wp2_with fail;refine J.mono ?_;rintro e N ⟨v,rfl,hv,ab⟩;obtain⟨s1,s2,s3,rfl,D⟩:=hv;obtain⟨g1,E,rfl,-⟩:=D.seen.shape;obtain⟨g2,H,rfl,-⟩:=D.items.shape;obtain⟨g3,y3,rfl,-⟩:=D.gone.shape;obtain⟨d,L⟩:=aP (N.alloc (.cells #[.slice g1 c.seen.length E,.slice g2 c.items.length H,.slice g3 c.gone.length y3] 37));have ad:Kpt N d:=by rw[L];exact aI _ _
 have f:Blk d N.heap.size [.slice g1 c.seen.length E,.slice g2 c.items.length H,.slice g3 c.gone.length y3] 37:=by rw[L];exact Blk.new _ _ _
 have a5:=((D.mono (G:=λq=>q<N.heap.size) λq _ l=>l).keep (w':=d) λq _ l=>ad.block q l).mono (G:=λq=>q<d.heap.size) λq _ l=>l
 have aL:Kpt w d:=ab.trans (ad.mono ab.size);have⟨be,ba,aG⟩:=ae3 a5 f L;have p:=aL;clear D ad f a5 aL L ab
 by_cases k:I=0
 ·have a6:=ax k;subst k;have ay:=ae (cO a6);have aa:=HU.keep p;have hk:=cO Hv;obtain⟨a1,p1,a2,p2,a3,p3,ag,hm⟩:=aa.box;obtain⟨m,aY⟩:=aH U.m;obtain⟨RR,K⟩:=aH (dh U.m c);have T:=ae (show O=okR RR by rw[<- K,<- HO];rfl);rw[aY] at ag K hm hk;obtain⟨c0,c1,c2,c3,c4⟩:=dr ag;obtain⟨d0,d1,d2⟩:=aS ba.x;have⟨Hm,Hk,bc,bd⟩:=ae4 hm hk K aa;clear hm hk K aa ag c0 c4 aY a6 ax;obtain⟨x,r⟩:=RR;have o:∀q x,d.cell? q=some x -> ∀n,bX d.heap.size 37 d.drew n -> n.cell? q=some x:=λq x hc n hh=>mU hc rfl hh
  have bp:=o _ _ c1;have bq:=o _ _ c2;have br:=o _ _ c3;have bs:=o _ _ d0;have bt:=o _ _ d1;have bu:=o _ _ d2;clear c1 c2 c3 d0 d1 d2 o;go_wp2_with fail;rw[<- aG.x];refine gr (bX d.heap.size 37) (ou d.heap.size 37 3) [9] A6 60 (by kernel_rfl) (by kernel_rfl) (f7 _ _) (cK _ _) (jx #[.slice none 0 0,.slice none 0 0,.slice none 0 0] rfl (aq _) (λj hj=>?_) (λi j hi hj bo=>?_)) ?_
  ·obtain rfl:j=9:=by simpa using hj
   exact⟨_,rfl,rfl,λa W=>by go_simp⟩
  ·simp at hi hj;omega
  unfold A6;apply dA;rfl;intro n hC;go_simp;(repeat (simp(disch:=omega) only[af,aj,ap,ah,am,if_pos];go_simp));exact aF;refine mT rfl rfl (λz bi X s=>?_);go_simp;have y:Kpt d z:=bi.belD rfl;have a4:Kpt w z:=p.trans (y.mono p.size);have hU:=z6 z (bR HT h3 a4) (au h3 a4.size) _ _ (.agg #[.slice a1 m.seen.length p1,.slice a2 m.items.length p2,.slice a3 m.gone.length p3]) (.agg #[.slice g1 c.seen.length E,.slice g2 c.items.length H,.slice g3 c.gone.length y3]) m c ⟨_,_,_,rfl,Hm.x.keep (w':=z) λq _ l=>y.block q l⟩ ⟨_,_,_,rfl,be.x.keep (w':=z) λq _ l=>y.block q l⟩ Hk.x.1 Hk.x.2 ay.x.1 ay.x.2;rw[bc.x] at hU;have V:=y.size;refine hU.mono ?_;rintro e bl ⟨⟨r1,rfl,g,aU⟩,aR⟩;refine⟨_,rfl,bX.of_later aR,s _ _ ?_⟩;go_simp;obtain⟨t1,t2,t3,rfl,g⟩:=g;dsimp only at g aU;obtain⟨n1,m1,rfl⟩:=aJ g.seen;obtain⟨n2,m2,rfl⟩:=aJ g.items;obtain⟨n3,m3,rfl⟩:=aJ g.gone;have bj:Kpt d bl:=y.trans (aR.mono y.size);have S:=bj;have ar:=aU;apply dA;rfl;intro n hC;go_simp;exact aF;refine iO rfl (λvO Wd A hZ hU X s=>?_);obtain⟨Om,LO,rfl,t,f,aN⟩:=hZ;refine s _ _ ?_;go_simp
  obtain⟨P,Q,c,rfl⟩:∃P Q c,LO = [P,Q,c]:=by
   match LO,aN with
   |[P,Q,c],_=>exact⟨P,Q,c,rfl⟩
  have aW:Kpt d Wd:=S.trans (A.below S.size);obtain⟨w6,al,aX,aT⟩:=dX f aW t (.slice n1 x.seen.length m1) (.slice n2 x.items.length m2) (.slice n3 x.gone.length m3)
  have C:bX d.heap.size 37 Wd w6:=by
   rw[al];exact cK _ _ _ _ _ (cK _ _ _ _ _ (bX.set f t 0 _) (bX.set (f.set 0 _) t 1 _)) (bX.set ((f.set 0 _).set 1 _) t 2 _)
  have aZ:dU w6 d.heap.size (.slice n1 x.seen.length m1) (.slice n2 x.items.length m2) (.slice n3 x.gone.length m3) x:=
   ⟨bJ (C.own (A.own g.seen (by decide)) (by decide)) V,bJ (C.own (A.own g.items (by decide)) (by decide)) V,bJ (C.own (A.own g.gone (by decide)) (by decide)) V⟩
  have⟨bm,bb,a9,a8⟩:=ae4 t aZ aX ar;obtain⟨y0,E,H⟩:=aS f;have z0:=f.free 0;have z1:=f.free 1;have z2:=f.free 2;have⟨an,az,aK⟩:=ae3 aT C al;clear aT C al aX aW A f aN g ar S aZ;refine iP rfl rfl (λX s=>?_);go_simp;rw[<- aK.x];refine⟨az.x,s _ _ ?_⟩;clear s X y0 E H z0 z1 z2 az aK t;go_simp;apply dA;rfl;intro n hC;go_simp;(repeat (simp(disch:=omega) only[af,aj,ap,ah,am,if_pos];go_simp));exact aF;refine lh ?_;have⟨ao,bf,a7⟩:=ae3 (bd.x.keep an.x) (bb.x.nj a8.x) (show Kpt w w6 from p.trans (an.x.mono p.size));obtain⟨b1,q1,b2,q2,b3,q3,B,-⟩:=ao.x.box;obtain⟨-,z1,z2,z3,-⟩:=dr B;have f1:=B.free 1;have f2:=B.free 2;have f3:=B.free 3;obtain⟨o0,o1,o2⟩:=aS a9.x;obtain⟨w7,ak⟩:=aP (((w6.setCell ⟨u,1,none⟩ (.slice n1 x.seen.length m1)).setCell ⟨u,2,none⟩ (.slice n2 x.items.length m2)).setCell ⟨u,3,none⟩ (.slice n3 x.gone.length m3));have h7:=ao.x.setM bf.x ak
  have bg:=ae (show jR w jk u M U (okR (x,r)) (.returned (.bool (r == 0))) w7 from by
   have a0:aM (λq=>q=u) w w7:=(aM.of_below (F:=λq=>q=u) a7.x).trans h7.2 λ_ hi=>.inl hi
   by_cases k:r=0
   ·rw[show okR (x,r)=some x from if_pos k,k];exact⟨rfl,h7.1,a0⟩
   ·rw[show okR (x,r)=none from if_neg k]
    exact⟨by rw[beq_eq_false_iff_ne.2 k],a0⟩)
  have bh:=ae ak;clear ak h7 B;go_wp2;rw[T.x];rw[<- bh.x];exact bodyPost_ret (v:=.bool (r == 0)) (by simp[results,results53,go_sem]) rfl bg.x
 ·have bn:¬I=0:=k;have T:=ae (show O=none by rw[<- HO];exact if_neg k);go_wp2;rw[<- aG.x,T.x];exact bodyPost_ret (v:=.bool false) (by simp[results,results53,go_sem]) rfl ⟨rfl,aM.of_below p⟩
end
section
open Go.MapKept
theorem sX:aE.underlying 103=some (.map 5 40):=by kernel_rfl
theorem li:aE.underlying 5=some (.int .u8):=by kernel_rfl
theorem DJ(k:Int):IsKey (.int .u8) (.int .u8 k):=by simp[IsKey]
theorem FK:(Instr.makeMap 103 none).run aE w=.ok (.map (some w.heap.size)) (w.alloc (.map #[] 0)):=by
 simp[Instr.makeMap,Result.andThen]
theorem DL{w:World}{a:Array MapEntry}(b:w.heap[i]?=some (.map a j))(k:Int)(f:Value)(h:Instr.findNow (.int .u8) (.int .u8 k) a.toList 0=some none):
 (Instr.mapUpdate 103 (.map (some i)) (.int .u8 k) f).run aE w=.ok () { w with heap:=w.heap.setIfInBounds i (.map (a.push ⟨.int .u8 k,f,j⟩) (j+1)) }:=by
 simp[Instr.mapUpdate,run_underlying sX,MapKept.run_getObj_map b,run_checkKey li (DJ k),run_findKey li h,run_setObj_map _ b,Result.andThen]
def qc(a b c:Value):Obj:=.map #[⟨.int .u8 1,a,0⟩,⟨.int .u8 2,b,1⟩,⟨.int .u8 3,c,2⟩] 3
theorem B5(f1 f2 d:Value):∃w1 c e,(Instr.mapUpdate 103 (.map (some w.heap.size)) (.int .u8 1) f1).run aE (w.alloc (.map #[] 0))=.ok () w1 /\
 (Instr.mapUpdate 103 (.map (some w.heap.size)) (.int .u8 2) f2).run aE w1=.ok () c /\
 (Instr.mapUpdate 103 (.map (some w.heap.size)) (.int .u8 3) d).run aE c=.ok () e /\ Kpt w e /\ e.heap[w.heap.size]?=some (qc f1 f2 d):=by
 have h:(w.alloc (.map #[] 0)).heap[w.heap.size]?=some (.map #[] 0):=(heap_alloc w _).1;have f:=DL h 1 f1 rfl
 have j:=(heap_set (o':=.map ((#[]:Array MapEntry).push ⟨.int .u8 1,f1,0⟩) (0+1)) h)
 obtain⟨w1,a⟩:=aP ({ w.alloc (.map #[] 0) with heap:=(w.alloc (.map #[] 0)).heap.setIfInBounds w.heap.size (.map ((#[]:Array MapEntry).push ⟨.int .u8 1,f1,0⟩) (0+1)) });have k:w1.heap[w.heap.size]?=some (.map #[⟨.int .u8 1,f1,0⟩] 1):=by rw[a];exact j.1
 rw[<- a] at f;have g:=DL k 2 f2 rfl
 have l:=(heap_set (o':=.map ((#[⟨.int .u8 1,f1,0⟩]:Array MapEntry).push ⟨.int .u8 2,f2,1⟩) (1+1)) k)
 obtain⟨c,b⟩:=aP ({ w1 with heap:=w1.heap.setIfInBounds w.heap.size (.map ((#[⟨.int .u8 1,f1,0⟩]:Array MapEntry).push ⟨.int .u8 2,f2,1⟩) (1+1)) });have m:c.heap[w.heap.size]?=some (.map #[⟨.int .u8 1,f1,0⟩,⟨.int .u8 2,f2,1⟩] 2):=by rw[b];exact l.1
 rw[<- b] at g;have o:=DL m 3 d rfl
 have n:=(heap_set (o':=.map ((#[⟨.int .u8 1,f1,0⟩,⟨.int .u8 2,f2,1⟩]:Array MapEntry).push ⟨.int .u8 3,d,2⟩) (2+1)) m)
 refine⟨w1,c,_,f,g,o,?_,n.1⟩;refine⟨by rw[b,a];rfl,by rw[b,a];rfl,by rw[b,a];rfl,?_,λi hi=>?_⟩
 ·rw[b,a];simp
 ·show(c.heap.setIfInBounds w.heap.size _)[i]?=_;rw[n.2 i (by omega),b];show(w1.heap.setIfInBounds w.heap.size _)[i]?=_;rw[l.2 i (by omega),a];show((w.alloc (.map #[] 0)).heap.setIfInBounds w.heap.size _)[i]?=_;rw[j.2 i (by omega)];exact(heap_alloc w _).2 i hi
theorem we{a:Array MapEntry}(b:W.heap[i]?=some (.map a j))(k:Int)(c:Nat)(f:Value)(h:Instr.findNow (.int .u8) (.int .u8 k) a.toList 0=some (some (c,f))):
 (Instr.lookup 103 (.map (some i)) (.int .u8 k) true).run aE W=.ok (.tuple #[f,.bool true]) W:=by
 simp[Instr.lookup,run_underlying sX,MapKept.run_getObj_map b,run_checkKey li (DJ k),run_findKey li h,Result.andThen]
theorem FM{a b c:Value}(d:W.heap[i]?=some (qc a b c)):(Instr.lookup 103 (.map (some i)) (.int .u8 1) true).run aE W=.ok (.tuple #[a,.bool true]) W:=we d 1 0 a rfl
theorem FN{b a c:Value}(d:W.heap[i]?=some (qc b a c)):(Instr.lookup 103 (.map (some i)) (.int .u8 2) true).run aE W=.ok (.tuple #[a,.bool true]) W:=we d 2 1 a rfl
theorem FO{b c a:Value}(d:W.heap[i]?=some (qc b c a)):(Instr.lookup 103 (.map (some i)) (.int .u8 3) true).run aE W=.ok (.tuple #[a,.bool true]) W:=we d 3 2 a rfl
theorem DN:(aE.info? 40).map (·.zero)=some (some (.nilFunc)):=by kernel_rfl
theorem FP{a b c:Value}(o:W.heap[j]?=some (qc a b c))(k:Int)(l:k≠1)(m:k≠2)(n:k≠3):∃z,(Instr.lookup 103 (.map (some j)) (.int .u8 k) true).run aE W=.ok (.tuple #[z,.bool false]) W:=by
 have h:Instr.findNow (.int .u8) (.int .u8 k) [⟨.int .u8 1,a,0⟩,⟨.int .u8 2,b,1⟩,⟨.int .u8 3,c,2⟩] 0=some none:=by
  have d:(k == 1)=false:=beq_eq_false_iff_ne.2 l;have f:(k == 2)=false:=beq_eq_false_iff_ne.2 m;have g:(k == 3)=false:=beq_eq_false_iff_ne.2 n;simp[Instr.findNow,Instr.sameNow,d,f,g]
 have q:(zeroValue 40).run aE W=.ok .nilFunc W:=by
  cases e:aE.info? 40 with
  |none=>have:=DN;rw[e] at this;cases this
  |some i=>
   have:=DN;rw[e] at this;simp at this;simp[zeroValue,typeInfo,e,this,Result.andThen]
 have p:W.heap[j]?=some (.map #[⟨.int .u8 1,a,0⟩,⟨.int .u8 2,b,1⟩,⟨.int .u8 3,c,2⟩] 3):=o;exact⟨.nilFunc,by simp[Instr.lookup,run_underlying sX,MapKept.run_getObj_map p,run_checkKey li (DJ k),run_findKey li h,q,Result.andThen]⟩
end
theorem ow{m x:aT}{e:Int}(h:gw m=(x,e))(b:e=0):aV x=true:=by
 unfold gw at h
 by_cases a:aV m=true
 ·rw[if_pos a] at h;obtain⟨rfl,-⟩:=Prod.mk.inj h;exact a
 ·rw[if_neg a] at h;obtain⟨-,rfl⟩:=Prod.mk.inj h;exact absurd b (by decide)
theorem DO{d:Int}(h:(iB r d y).2=0):aV (iB r d y).1=true:=by
 unfold iB at h⊢;split at h
 ·rename_i a;rw[if_pos a];split at h
  ·rename_i b;rw[if_pos b];exact ow (m:=iV r d y) (x:=(gw (iV r d y)).1) (e:=(gw (iV r d y)).2) rfl h
  ·exact absurd h (show ¬(1:Int)=0 by decide)
 ·exact absurd h (show ¬(5:Int)=0 by decide)
theorem uO{d:Int}(h:(dy r d y).2=0):aV (dy r d y).1=true:=by
 unfold dy at h⊢;split at h
 ·rename_i a;rw[if_pos a];split at h
  ·rename_i b;rw[if_pos b];exact ow (m:=dI r d y) (x:=(gw (dI r d y)).1) (e:=(gw (dI r d y)).2) rfl h
  ·exact absurd h (show ¬(1:Int)=0 by decide)
 ·exact absurd h (show ¬(5:Int)=0 by decide)
theorem py{a b:aT}(h:(dh a b).2=0):aV a=true /\ aV b=true /\ aV (dh a b).1=true:=by
 unfold dh at h⊢;split at h
 ·rename_i c;rw[if_pos c];rw[Bool.and_eq_true] at c;exact⟨c.1,c.2,ow (m:=dK a b) (x:=(gw (dK a b)).1) (e:=(gw (dK a b)).2) rfl h⟩
 ·exact absurd h (show ¬(5:Int)=0 by decide)
theorem A8(U:MU):(fe M U).1.S.length=M.S.length /\ (fe M U).1.writes <= M.writes+65536:=mn M U.J _
theorem A9(U:MU)(b:List UInt8)(x:aT):(js M U b x).1.S.length=M.S.length /\ (js M U b x).1.writes <= M.writes+65536:=by
 have:=Ae M U.J b;unfold js;split<;>exact this
theorem B6(U:MU)(b:List UInt8)(x:aT):(cE M U b x).1.S.length=M.S.length /\ (cE M U b x).1.writes <= M.writes+200000:=by
 have a:=A8 M U;have c:=A9 M U b x;have d:=A9 (fe M U).1 (fe M U).2.1 b x;unfold cE;split
 ·split
  ·split
   ·exact⟨a.1,au a.2 (by omega)⟩
   ·exact⟨d.1.trans a.1,au d.2 (by omega)⟩
  ·exact⟨a.1,au a.2 (by omega)⟩
 ·exact⟨c.1,au c.2 (by omega)⟩
end Go.Proofs.YtobjdpngnfbicaaGreatDoor
