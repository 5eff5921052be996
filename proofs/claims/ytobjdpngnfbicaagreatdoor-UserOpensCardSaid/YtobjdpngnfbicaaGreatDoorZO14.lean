/-
  JX UStep UWrite Float UCall UCall2 UCall3 UBegin UKeys UEach UKinds JInv
-/
import Derived.Test.YtobjdpngnfbicaaGreatDoorZO13
open Go.Lib renaming hid->ae
open Go.IntWalk renaming i64_in->af,i64_quo->ah,u32_in->aj,rem_in->am,u8_in->ap
open Nat renaming le_refl->aq,le_trans->au,lt_of_lt_of_le->aw
open List renaming length_append->aA,append_assoc->aB,getElem_mem->aC,length_cons->aD
open Go.Proofs.Tryz renaming prog->aE
set_option maxHeartbeats 4000000
set_option maxRecDepth 100000
set_option linter.all false
namespace Go.Proofs.YtobjdpngnfbicaaGreatDoor
open Go.RowKit
open Tryz
variable(w:World)(n k:Nat)(b:List UInt8)(M:MD){W w':World}{u:Value}{i j o:Nat}{l:List UInt8}{L:List Value}{r:aU}{N:MD}{t:TypeId}{y:List bR}
theorem Ax(c:JK)(M:MD)(J:MJ)(a:JAt w c M J):
 Calls aE 49 #[.pointer (some ⟨c.j,0,none⟩)] w fun e f=>∃r h,e=.returned r /\ bX h f w.heap.size r J.L /\ (∀b,h b -> w.heap.size <= b /\ b<f.heap.size) /\ Below w.heap.size w f:=by
 have l:aM J.L <= aW M.S.length:=a.room;have m:M.S.length <= 65536:=a.disk.le;have:=dB J.L;obtain⟨o,p,R,i,k,n⟩:=a.recs;exact wH w c.j c.K.d J.g (aM J.L) _ J.dead i R J.L k (by unfold aW at l;omega) a.lens
theorem Ec(a:JK)(M:MD)(J:MJ)(b:JAt w a M J):
 Calls aE 60 #[.pointer (some ⟨a.j,0,none⟩)] w fun e f=>e=.returned (.bool J.dead) /\ w=f:=by
 obtain⟨k,l,R,c,i,h⟩:=b.recs;exact BW w a.j a.K.d J.g (aM J.L) _ J.dead c
section
attribute [local go_sem] opC upC
theorem tF(a b:List UInt8):gd [a,b]=a++b:=by unfold gd;simp
theorem wR:gd [b]=b:=by unfold gd;simp
theorem eO{a c d e f:Value}(h:Blk W i [a,c,d,e,f] t):W.cell? ⟨i,0,none⟩=some a /\ W.cell? ⟨i,1,none⟩=some c /\ W.cell? ⟨i,2,none⟩=some d /\ W.cell? ⟨i,3,none⟩=some e /\ W.cell? ⟨i,4,none⟩=some f:=
 ⟨h.cell 0,h.cell 1,h.cell 2,h.cell 3,h.cell 4⟩
theorem tG(P:eJ w)(h3:4 <= w.heap.size)(jk:JK)(u:Nat)(M:MD)(U:MU)(h:UAt w jk u M U)(t:U.dev<8)(j:bp U.m=true):
 Calls aE 45 #[.pointer (some ⟨u,0,none⟩)] w fun e A=>(∃r,e=.returned r /\ A.ownsRow w.heap.size 5 1 r (fo U.dev U.m).length ((fo U.dev U.m).map B)) /\ Below w.heap.size w A:=by
 obtain⟨a1,p1,a2,p2,a3,p3,a,T⟩:=h.box;have v:=dD j;have x:=(dr j).2.2.2;have q:=vZ w P h3 _ (.agg #[.slice a1 U.m.seen.length p1,.slice a2 U.m.items.length p2,.slice a3 U.m.gone.length p3]) U.m ⟨_,_,_,rfl,T⟩ v.1 v.2;rw[show encR U.m=(dS U.m,0) by unfold encR;rw[j];rfl] at q;have E:=ae q;obtain⟨K,c1,c2,c3,c4⟩:=eO a;have G:=ae a;obtain⟨d,g⟩:=aH U.dev;obtain⟨m,y⟩:=aH U.m;rw[g] at t;rw[y] at x;have ab:=ae x;have Hd:=ae t;have H:=ae g;have I:=ae y;have hw:IntKind.u64.wrap (d:Int)=(d:Int):=IntWalk.u64_in _ (by omega);rw[g] at K;clear q v x j P T a g y t
 go_enter func45,ntmps45
 go_wp2_with fail;refine E.out.mono ?_;rintro e Y ⟨⟨v1,rfl,O⟩,s⟩;have S:=G.out.keep (s.block _ G.out.lt);have L:=(eO S).1;rw[H.out] at L;have F:=ae (jU Y none_ (.slice none 0 0) [] (pW none_ Y none) d (by have:=Hd.out;omega) (by simp));have Z:=ae O;have n:=ae s;clear E O s S K c1 c2 c3 c4;go_wp2_with fail;refine F.out.mono ?_;rintro e l ⟨⟨r2,rfl,i⟩,f⟩;rw[List.nil_append] at i;have N:aO (fun b=>True) l r2 (cj d):=aO.of_owns i _ fun _ _ _=>trivial
 have c:=(Z.out.keep (w':=l) fun b _ an=>f.block b an).insideU;rw[I.out] at c;obtain⟨ai,al,rfl⟩:=aK i;obtain⟨ag,ak,rfl,-⟩:=id c;have z:=rq N.insideU c (fun b a=>a);obtain⟨C,k⟩:=aQ (l.alloc (.cells #[.slice ai (cj d).length al,.slice ag (dS m).length ak] 41));have Q:Below w.heap.size w C:=by rw[k];exact(n.out.trans (f.mono n.out.size)).alloc (au n.out.size f.size) _
 rw[<- k] at z;have ao:=cF d;have p:=rt C _ 0 _ _ z (by rw[tF,aA];have:=ab.out;omega) (by simp);rw[tF] at p;have D:=ae (show Calls aE 81 #[.int .u8 0,.slice (some ⟨l.heap.size,0,none⟩) 2 2] C _ from p);have o:=ae Q;have J:=ae k;obtain⟨n1,V⟩:=aH ((cj d).length);obtain⟨n2,W⟩:=aH ((dS m).length);rw[V,W] at J⊢;clear F p z k Q N c i f ao V W L;go_wp2_with fail;rw[<- J.out];refine D.out.mono ?_;rintro e w4 ⟨⟨r4,rfl,X⟩,R⟩;have ad:=ae (show w4.ownsRow w.heap.size 5 1 r4 (fo U.dev U.m).length ((fo U.dev U.m).map B) by rw[H.out,I.out];exact bP X o.out.size);have aa:=ae (o.out.trans (R.mono o.out.size));clear D X R;go_wp2_with fail
 go_ret
 exact⟨⟨_,rfl,ad.out⟩,aa.out⟩
theorem Ay(f:JK)(u:Nat)(M:MD)(U:MU)(h:UAt w f u M U):
 Calls aE 22 #[.pointer (some ⟨u,0,none⟩)] w fun e i=>e=.returned (.bool U.J.dead) /\ w=i:=by
 obtain⟨j,r,k,s,l,t,c,g⟩:=h.box;have a:=ae (Ec w f M U.J h.jat);obtain⟨m,n,o,p,q⟩:=eO c;obtain⟨b,d⟩:=aH U.J.dead;rw[d] at a⊢;clear c g d h
 go_enter func22,ntmps22
 go_wp2_with fail;refine a.out.mono ?_;rintro e v ⟨rfl,rfl⟩;clear a;go_wp2_with fail
 go_ret
 exact⟨rfl,rfl⟩
end
section
attribute [local go_sem] opC upC told bG br bH bt bw bI bJ
theorem Cd(w:World)(jk:JK)(u:Nat)(M:MD)(U:MU)(h:UAt w jk u M U):
 Calls aE 137 #[.pointer (some ⟨jk.j,0,none⟩)] w fun e b=>e=.returned (.int .i64 (qN M U.J)) /\ ∃m,w.drewN m=b:=by
 obtain⟨f,i,R,a,-,-⟩:=h.jat.recs;have c:=h.jat.size8;exact BV w jk.j jk.K.d U.J.g (aM U.J.L) _ U.J.dead jk.K M a h.jat.disk rfl (by omega) h.jat.room
theorem rF(J:MJ)(l:List UInt8):(bQ M J l).1.S.length=M.S.length /\ (bQ M J l).1.writes <= M.writes+65536:=by
 unfold bQ;split
 ·exact⟨rfl,Nat.le_add_right _ _⟩
 ·split
  ·exact⟨rfl,Nat.le_add_right _ _⟩
  ·split
   ·exact⟨rfl,Nat.le_add_right _ _⟩
   ·rename_i b c d;have a:=fE (aP M.S.length J.g J.L.length (aM J.L) l) M;have e:(aP M.S.length J.g J.L.length (aM J.L) l).length=takes l.length:=by unfold aP;simp
    have f:takes l.length <= 65536:=by unfold takes;omega
    dsimp only;split
    ·exact⟨a.1,au a.2 (by omega)⟩
    ·exact⟨a.1,au a.2 (by omega)⟩
theorem p4(J:MJ)(l:List UInt8):(cw M J l).1.S.length=M.S.length /\ (cw M J l).1.writes <= M.writes+65536:=by
 unfold cw;split
 ·exact⟨rfl,Nat.le_add_right _ _⟩
 ·split
  ·exact⟨rfl,Nat.le_add_right _ _⟩
  ·split
   ·exact⟨rfl,Nat.le_add_right _ _⟩
   ·rename_i b c d;have a:=fE (aP M.S.length (J.g+1) 0 0 l++[((J.g+1)%2,cP (J.g+1))]) M;have e:(aP M.S.length (J.g+1) 0 0 l++[((J.g+1)%2,cP (J.g+1))]).length=takes l.length+1:=by unfold aP;simp
    have f:takes l.length <= 1366:=by unfold takes;omega
    dsimp only;split
    ·exact⟨a.1,au a.2 (by omega)⟩
    ·exact⟨a.1,au a.2 (by omega)⟩
def gB(w:World)(jk:JK)(u:Nat)(r:MD×MU×Int)(e:Ending)(a:World):Prop:=
 e=.returned (.int .i64 r.2.2) /\ ∃jk',jk'.j=jk.j /\ jk'.K.d=jk.K.d /\ UAt a jk' u r.1 r.2.1 /\ (∀q,jk'.all q -> jk.all q \/ w.heap.size <= q) /\ aT (fun q=>jk.all q \/ q=u) w a
theorem UAt.setM{w w':World}{jk:JK}{u:Nat}{U:MU}(h:UAt w jk u N U){x:aU}{a1 a2 a3:Option Addr}{p1 p2 p3:Nat}(l:cG (NJ w) w (.slice a1 x.seen.length p1) (.slice a2 x.items.length p2) (.slice a3 x.gone.length p3) x)
 (f:w'=((w.setCell ⟨u,1,none⟩ (.slice a1 x.seen.length p1)).setCell ⟨u,2,none⟩ (.slice a2 x.items.length p2)).setCell ⟨u,3,none⟩ (.slice a3 x.gone.length p3)):UAt w' jk u N ⟨U.dev,x,U.J⟩ /\ aT (fun q=>q=u) w w':=by
 obtain⟨m,r,n,s,o,v,g,z⟩:=h.box
 have d:∀q,q≠u -> w'.heap[q]?=w.heap[q]?:=fun q a=>by
  rw[f];exact(Below.heap_setCell _ _ _ _ a).trans ((Below.heap_setCell _ _ _ _ a).trans (Below.heap_setCell _ _ _ _ a))
 have A:w'.heap.size=w.heap.size:=by rw[f];simp[World.setCell]
 have j:∀q,NJ w q -> q≠u:=fun q ⟨L,t,y,hh,_,k⟩ e=>by
  subst e;unfold Blk at g;rw[g] at hh;injection hh with hh
  injection hh with _ hh
  exact k.1 hh.symm
 have i:∀b,jk.all b -> b≠u:=fun b c e=>h.apart (e▸c)
 refine⟨⟨⟨a1,p1,a2,p2,a3,p3,?_,(l.keep (w':=w') fun q a _=>d q (j q a)).mono fun q a _=>iu a (d q (j q a))⟩,h.jat.keep (fun b c=>d b (i b c)) (by omega),h.typ.keep fun b c=>d b (i b c),h.low⟩,?_⟩
 ·rw[f];exact(((g.set 1 _).set 2 _).set 3 _)
 ·rw[f];exact(((aT.refl (fun q=>q=u) w).setCell (p:=⟨u,1,none⟩) (.inl rfl) _).setCell (p:=⟨u,2,none⟩) (.inl rfl) _).setCell (p:=⟨u,3,none⟩) (.inl rfl) _
structure WS(w W:World)(jk JJ:JK)(u:Nat)(MM:MD)(UU:MU)(F:aX)(bv:Value)(b:List UInt8)(a1 a2 a3:Option Addr)(p1 p2 p3:Nat)(x:aU)(O:Nat):Prop where
 U:UAt W JJ u MM UU
 B:aO F W bv b
 F:∀q,F q -> q<W.heap.size /\ ¬JJ.all q
 Q:de W
 T:eJ W
 bO:Blk W O [.slice a1 x.seen.length p1,.slice a2 x.items.length p2,.slice a3 x.gone.length p3] 37
 X:cG (NJ W) W (.slice a1 x.seen.length p1) (.slice a2 x.items.length p2) (.slice a3 x.gone.length p3) x
 j:JJ.j=jk.j
 kd:JJ.K.d=jk.K.d
 sz:3<W.heap.size
 on:aT (fun q=>jk.all q \/ q=u) w W
 al:∀q,JJ.all q -> jk.all q \/ w.heap.size <= q
section
variable {w W W':World} {jk JJ jk':JK} {u:Nat} {MM M':MD} {UU:MU} {J':MJ} {F:aX} {bv:Value} {b:List UInt8} {a1 a2 a3:Option Addr} {p1 p2 p3:Nat} {x:aU} {O:Nat}
theorem wT(h:NJ W i):i<W.heap.size:=by
 obtain⟨L,t,a,hh,_⟩:=h;exact lt_of_block hh
theorem Ed:¬TJ 37:=by unfold TJ;decide
theorem WS.below(h:WS w W jk JJ u MM UU F bv b a1 a2 a3 p1 p2 p3 x O)(a:Below W.heap.size W W'):WS w W' jk JJ u MM UU F bv b a1 a2 a3 p1 p2 p3 x O:=
 ⟨h.U.keep a,h.B.keep fun q _ d=>a.block q d,fun q c=>⟨aw (h.F q c).1 a.size,(h.F q c).2⟩,h.Q.keep (a.block 0 (by have:=h.sz;omega)),cd h.T h.sz a,h.bO.keep (a.block O h.bO.lt),
  (h.X.keep (w':=W') fun q _ d=>a.block q d).mono fun q c _=>iu c (a.block q (wT c)),h.j,h.kd,aw h.sz a.size,h.on.trans (aT.of_below (F:=none_) a) (fun _ e=>e.elim),h.al⟩
theorem WS.moved(h:WS w W jk JJ u MM UU F bv b a1 a2 a3 p1 p2 p3 x O)(g:aT JJ.all W W')(t:JAt W' jk' M' J')(v:jk'.j=JJ.j)(y:jk'.K.d=JJ.K.d)(s:∀q,jk'.all q -> JJ.all q \/ W.heap.size <= q)(z:w.heap.size <= W.heap.size):
 ∃k,WS w W' jk k u M' ⟨UU.dev,UU.m,J'⟩ F bv b a1 a2 a3 p1 p2 p3 x O:=by
 obtain⟨k,o,p,g3,r⟩:=h.U.moved g t v s h.sz;have n:∀q,q<4 -> W'.heap[q]?=W.heap[q]?:=fun q c=>g.block q (by have:=h.sz;omega) fun i=>by have:=h.U.low q i;omega
 refine⟨k,r,h.B.keep fun q c l=>g.block q l (h.F q c).2,fun q c=>⟨aw (h.F q c).1 g.size,fun i=>?_⟩,h.Q.keep (n 0 (by omega)),h.T.keep fun a i=>?_,h.bO.keep (g.block O h.bO.lt (Aw h.U.typ h.bO Ed)),
  (h.X.keep (w':=W') fun q c l=>g.block q l (oF h.U.typ c)).mono fun q c _=>iu c (g.block q (wT c) (oF h.U.typ c)),o.trans h.j,by rw[p,y];exact h.kd,aw h.sz g.size,h.on.trans g (fun q c=>?_),fun q c=>?_⟩
 ·rcases g3 q i with f|f
  ·exact(h.F q c).2 f
  ·have:=(h.F q c).1;omega
 ·have e:=n a.block i;unfold World.cell?;rw[e]
 ·rcases h.al q c with f|f
  ·exact .inl (.inl f)
  ·exact .inr f
 ·rcases g3 q c with f|f
  ·exact h.al q f
  ·right;omega
theorem WS.put(h:WS w W jk JJ u MM UU F bv b a1 a2 a3 p1 p2 p3 x O)(d:W'=((W.setCell ⟨u,1,none⟩ (.slice a1 x.seen.length p1)).setCell ⟨u,2,none⟩ (.slice a2 x.items.length p2)).setCell ⟨u,3,none⟩ (.slice a3 x.gone.length p3)):
 UAt W' JJ u MM ⟨UU.dev,x,UU.J⟩ /\ aT (fun q=>jk.all q \/ q=u) w W':=by
 obtain⟨a,c⟩:=h.U.setM h.X d;exact⟨a,h.on.trans c (fun q e=>.inl (.inr e))⟩
end
theorem Az(w:World)(hT:eJ w)(h3:4 <= w.heap.size)(G:de w)(jk:JK)(u:Nat)(M:MD)(U:MU)(h:UAt w jk u M U)(hd:U.dev<8)(hv:bp U.m=true)(F:aX)(bv:Value)(b:List UInt8)(hB:aO F w bv b)(hF:∀q,F q -> q<w.heap.size /\ ¬jk.all q)
 (mv:Value) (x:aU) (V:dl (NJ w) w mv x) (hw:M.writes+200000<4611686018427387904) (bj:b.length <= 1000000000):
 Calls aE 80 #[.pointer (some ⟨u,0,none⟩),bv,mv] w (gB w jk u (dV M U b x)):=by
 obtain⟨s1,s2,s3,rfl,V⟩:=V;obtain⟨a1,p1,rfl,-⟩:=V.seen.shape;obtain⟨a2,p2,rfl,-⟩:=V.items.shape;obtain⟨a3,p3,rfl,-⟩:=V.gone.shape;obtain⟨ab,cb,rfl,-⟩:=id hB;obtain⟨w1,ad⟩:=aQ (w.alloc (.cells #[.slice a1 x.seen.length p1,.slice a2 x.items.length p2,.slice a3 x.gone.length p3] 37));have E:Below w.heap.size w w1:=by rw[ad];exact aI _ _
 have ak:WS w w1 jk jk u M U F (.slice ab b.length cb) b a1 a2 a3 p1 p2 p3 x w.heap.size:=
  ⟨h.keep E,hB.keep fun q _ A=>E.block q A,fun q ba=>⟨aw (hF q ba).1 E.size,(hF q ba).2⟩,G.keep (E.block 0 (by omega)),cd hT h3 E,by rw[ad];exact Blk.new _ _ _,
   (V.keep (w':=w1) fun q _ A=>E.block q A).mono fun q G _=>iu G (E.block q (wT G)),rfl,rfl,by rw[ad];simp;omega,aT.of_below E,fun q G=>.inl G⟩
 have HR:=ae (Cd w1 jk u M U ak.U);have aW:=ae ak;have bg:=ae ad;have Hd:=ae hd;have Hv:=ae hv;have Hw:=ae hw;obtain⟨b1,e1,b2,e2,b3,e3,c,-⟩:=ak.U.box;obtain⟨-,-,-,-,f⟩:=eO c;obtain⟨n,hn⟩:=aH b.length;have C:=ae hn;obtain⟨jj,an⟩:=aH jk.j;have s:=ae an;obtain⟨rm,aL⟩:=aH (qN M U.J);rw[an,aL] at HR;rw[an] at f;have Z:=ae aL;rw[hn] at bj aW⊢;rw[ad] at f;clear h hd hv hB hF V hw G hT ad E ak c hn an aL
 go_enter func80,ntmps80
 go_wp2_with fail;rw[<- bg.out];refine HR.out.mono ?_;rintro e X ⟨rfl,dn,a6⟩;have k:=ae (aW.out.below (W':=X) (by rw[<- a6];exact Below.drewN' (Below.refl _ _) dn));clear HR f a6
 by_cases A:rm<(n:Int)
 ·have bl:rm<(n:Int):=A;have R:=ae A;obtain⟨w3,aP⟩:=aQ X.drew;have a5:Below X.heap.size X w3:=by rw[aP];exact(Below.refl X.heap.size X).drew
  have Y:=ae (k.out.below a5);obtain⟨b1,e1,b2,e2,b3,e3,c,-⟩:=Y.out.U.box;obtain⟨-,-,-,-,f⟩:=eO c;have bc:∀W,aJ w3 W -> W.cell? ⟨u,4,none⟩=some (.pointer (some ⟨jk.j,0,none⟩)):=fun W hh=>(hh.cell (p:=⟨u,4,none⟩) (il f)).trans f
  rw[s.out] at bc;have av:=ae (tG w3 Y.out.T Y.out.sz jk u M U Y.out.U Hd.out Hv.out);obtain⟨sB,aN⟩:=aH (fo U.dev U.m);rw[aN] at av;have aY:=ae aN;have bh:=ae aP;clear c a5 aP f aN A;go_wp2_with fail;refine dP aJ 6 (up 5 [505,506,7]) (by kernel_rfl) ?_;rw[<- bh.out];apply bM;rfl;intro W hC;go_simp;exact aF;clear bc;refine cU rfl rfl (fun KK hK=>?_);go_simp;refine av.out.mono ?_;rintro e w4 ⟨⟨r4,rfl,aG⟩,az⟩;refine⟨_,rfl,az,hK _ _ ?_⟩;clear hK KK av;go_simp;have v:=Y.out.below az;have a9:=Y.out.U.jat.lt;have aZ:aO (fun q=>w3.heap.size <= q /\ q<w4.heap.size) w4 r4 sB:=aO.of_owns aG _ fun q h1 h2=>⟨h1,h2⟩
  have o:=ae (by
   have I:=wG w4 jk M U.J v.U.jat _ _ sB aZ (fun q G=>⟨G.2,fun ha=>by have:=a9 q ha;omega⟩) (fun h0=>by have:=v.U.low 0 h0;omega) v.Q (by have:=Hw.out;omega);rw[s.out] at I
   exact I)
  have a:=ae v;obtain⟨a4,f,rfl⟩:=aK aG;obtain⟨r,y⟩:=aH (cw M U.J sB);have ao:=p4 M U.J sB;rw[y] at o ao;obtain⟨D,t,l⟩:=r;dsimp only at ao;have H:=ae y;have bf:=ae ao;clear v a9 aZ aG az y ao;apply bM;rfl;intro W hC;go_simp;exact aF;refine cZ rfl rfl rfl (fun KK hK=>?_);go_simp;refine o.out.mono ?_;rintro e w5 ⟨rfl,bb,K,L,N,O,P⟩;obtain⟨ai,a0⟩:=a.out.moved P N (K.trans s.out.symm) L O a.out.on.size;have z:=ae a0;refine⟨_,rfl,hK _ _ ?_⟩;clear hK KK o K L N O P a0;go_simp;apply bM;rfl;intro W hC;go_simp;exact aF;refine dt ?_
  by_cases i:l=0
  ·subst i
   have ar:=ae (by
    have hR:=Cd w5 ai u D ⟨U.dev,U.m,t⟩ z.out.U;rw[z.out.j.trans s.out] at hR
    exact hR)
   obtain⟨aR,aM⟩:=aH (qN D t);rw[aM] at ar;obtain⟨b1,e1,b2,e2,b3,e3,c,-⟩:=z.out.U.box;obtain⟨-,-,-,-,f⟩:=eO c;rw[z.out.j.trans s.out] at f;have ax:=ae aM;have ag:=ae (show lN M U=(D,⟨U.dev,U.m,t⟩,0) by unfold lN;rw[aY.out,H.out]);clear c aM;go_wp2_with fail;refine ar.out.mono ?_;rintro e w6 ⟨rfl,bi,a7⟩;have g:=ae (z.out.below (W':=w6) (by rw[<- a7];exact Below.drewN' (Below.refl _ _) bi));clear ar f a7
   by_cases aa:aR<(n:Int)
   ·have bk:aR<(n:Int):=aa;have d:=ae (show dV M U b x=(D,⟨U.dev,U.m,t⟩,7) by unfold dV;rw[if_pos (by rw[Z.out,C.out];exact R.out),ag.out];dsimp only;rw[if_pos rfl,if_pos (by rw[ax.out,C.out];exact aa)]);clear aa;go_wp2_with fail
    go_ret
    exact⟨by rw[d.out];rfl,ai,g.out.j,g.out.kd,by rw[d.out];exact g.out.U,g.out.al,g.out.on⟩
   ·have bk:¬aR<(n:Int):=aa;have be:=ae (show D.writes+65536<4611686018427387904 by have:=Hw.out;have:=bf.out.2;omega);have aV:=ae aa;clear aa
    have o:=ae (by
     have I:=nu w6 ai D (⟨U.dev,U.m,t⟩:MU).J g.out.U.jat _ _ b g.out.B g.out.F (fun h0=>by have:=g.out.U.low 0 h0;omega) g.out.Q be.out;rw[g.out.j.trans s.out] at I
     exact I)
    obtain⟨r,y⟩:=aH (bQ D (⟨U.dev,U.m,t⟩:MU).J b);rw[y] at o;obtain⟨M3,J3,l⟩:=r;have H:=ae y;obtain⟨b1,e1,b2,e2,b3,e3,c,-⟩:=g.out.U.box;obtain⟨-,-,-,-,f⟩:=eO c;rw[g.out.j.trans s.out] at f;clear y c;go_wp2_with fail;refine o.out.mono ?_;rintro e w7 ⟨rfl,bb,K,L,N,O,P⟩;obtain⟨J4,v⟩:=g.out.moved P N (K.trans (g.out.j.trans s.out).symm) L O g.out.on.size;have a:=ae v;clear o K L N O P v f
    by_cases i:l=0
    ·subst i;obtain⟨z1,z2,z3⟩:=aS a.out.bO;obtain⟨b1,e1,b2,e2,b3,e3,c,-⟩:=a.out.U.box;obtain⟨y0,y1,y2,y3,y4⟩:=eO c;have q1:=c.free 1;have q2:=c.free 2;have q3:=c.free 3;obtain⟨w8,S⟩:=aQ (((w7.setCell ⟨u,1,none⟩ (.slice a1 x.seen.length p1)).setCell ⟨u,2,none⟩ (.slice a2 x.items.length p2)).setCell ⟨u,3,none⟩ (.slice a3 x.gone.length p3));have H8:=ae (a.out.put S);have ay:=ae S;have d:=ae (show dV M U b x=(M3,⟨(⟨U.dev,U.m,t⟩:MU).dev,x,J3⟩,0) by unfold dV;rw[if_pos (by rw[Z.out,C.out];exact R.out),ag.out];dsimp only;rw[if_pos rfl,if_neg (by rw[ax.out,C.out];have:=aV.out;omega)];unfold mH;rw[H.out];rfl);clear c S;go_wp2_with fail;rw[<- ay.out]
     go_ret
     exact⟨by rw[d.out];rfl,J4,a.out.j,a.out.kd,by rw[d.out];exact H8.out.1,a.out.al,H8.out.2⟩
    ·have a8:¬l=0:=i;have d:=ae (show dV M U b x=(M3,⟨(⟨U.dev,U.m,t⟩:MU).dev,(⟨U.dev,U.m,t⟩:MU).m,J3⟩,l) by unfold dV;rw[if_pos (by rw[Z.out,C.out];exact R.out),ag.out];dsimp only;rw[if_pos rfl,if_neg (by rw[ax.out,C.out];have:=aV.out;omega)];unfold mH;rw[H.out];exact if_neg i);clear i;go_wp2_with fail
     go_ret
     exact⟨by rw[d.out];rfl,J4,a.out.j,a.out.kd,by rw[d.out];exact a.out.U,a.out.al,a.out.on⟩
  ·have a8:¬l=0:=i;have ag:=ae (show lN M U=(D,⟨U.dev,U.m,t⟩,l) by unfold lN;rw[aY.out,H.out]);have d:=ae (show dV M U b x=(D,⟨U.dev,U.m,t⟩,l) by unfold dV;rw[if_pos (by rw[Z.out,C.out];exact R.out),ag.out];dsimp only;rw[if_neg i]);clear i;go_wp2_with fail
   go_ret
   exact⟨by rw[d.out];rfl,ai,z.out.j,z.out.kd,by rw[d.out];exact z.out.U,z.out.al,z.out.on⟩
 ·have bl:¬rm<(n:Int):=A;have bd:=ae (show M.writes+65536<4611686018427387904 by have:=Hw.out;omega);have R:=ae A;clear A
  have o:=ae (by
   have I:=nu X jk M (U).J k.out.U.jat _ _ b k.out.B k.out.F (fun h0=>by have:=k.out.U.low 0 h0;omega) k.out.Q bd.out;rw[k.out.j.trans s.out] at I
   exact I)
  obtain⟨r,y⟩:=aH (bQ M (U).J b);rw[y] at o;obtain⟨M3,J3,l⟩:=r;have H:=ae y;obtain⟨b1,e1,b2,e2,b3,e3,c,-⟩:=k.out.U.box;obtain⟨-,-,-,-,f⟩:=eO c;rw[k.out.j.trans s.out] at f;clear y c;go_wp2_with fail;refine o.out.mono ?_;rintro e w7 ⟨rfl,bb,K,L,N,O,P⟩;obtain⟨J4,v⟩:=k.out.moved P N (K.trans (k.out.j.trans s.out).symm) L O k.out.on.size;have a:=ae v;clear o K L N O P v f
  by_cases i:l=0
  ·subst i;obtain⟨z1,z2,z3⟩:=aS a.out.bO;obtain⟨b1,e1,b2,e2,b3,e3,c,-⟩:=a.out.U.box;obtain⟨y0,y1,y2,y3,y4⟩:=eO c;have q1:=c.free 1;have q2:=c.free 2;have q3:=c.free 3;obtain⟨w8,S⟩:=aQ (((w7.setCell ⟨u,1,none⟩ (.slice a1 x.seen.length p1)).setCell ⟨u,2,none⟩ (.slice a2 x.items.length p2)).setCell ⟨u,3,none⟩ (.slice a3 x.gone.length p3));have H8:=ae (a.out.put S);have ay:=ae S;have d:=ae (show dV M U b x=(M3,⟨(U).dev,x,J3⟩,0) by unfold dV;rw[if_neg (by rw[Z.out,C.out];have:=R.out;omega)];unfold mH;rw[H.out];rfl);clear c S;go_wp2_with fail;rw[<- ay.out]
   go_ret
   exact⟨by rw[d.out];rfl,J4,a.out.j,a.out.kd,by rw[d.out];exact H8.out.1,a.out.al,H8.out.2⟩
  ·have a8:¬l=0:=i;have d:=ae (show dV M U b x=(M3,⟨(U).dev,(U).m,J3⟩,l) by unfold dV;rw[if_neg (by rw[Z.out,C.out];have:=R.out;omega)];unfold mH;rw[H.out];exact if_neg i);clear i;go_wp2_with fail
   go_ret
   exact⟨by rw[d.out];rfl,J4,a.out.j,a.out.kd,by rw[d.out];exact a.out.U,a.out.al,a.out.on⟩
end
section
open Go
inductive iw where
 |steady (i:Nat)
 |move (i:Nat)
 |float (i:Nat)
 |fixed (i:Nat)
section
variable {P:Program} {ops:Array Oper} {md:Region.Mode} {C:World -> World -> Prop} {Z:Nat -> Value -> World -> Prop} {Q:Act -> World -> Prop} {w0:World}
def gh(P:Program)(ops:Array Oper)(C:World -> World -> Prop)(Z:Nat -> Value -> World -> Prop)(Q:Act -> World -> Prop):List iw -> List Value -> Act -> World -> Prop
 |[],_,a,w=>Q a w
 |.steady i::r,U,a,w=>match ops[i]? with
  |none=>False
  |some o=>if Region.wanted o (yielded ops a.tmps) then ∃v,(∀b,C w b -> (execOp a.eval o).run P b=.ok (.value v) b) /\ gh P ops C Z Q r U (a.put o.dst v) w else gh P ops C Z Q r U (a.put o.dst undef) w
 |.move i::r,U,a,w=>match ops[i]? with
  |none=>False
  |some o=>∀W,C w W -> if Region.wanted o (yielded ops a.tmps) then opC P o a W (fun v b=>C W b /\ gh P ops C Z Q r U (a.put o.dst v) b) else gh P ops C Z Q r U (a.put o.dst undef) W
 |.float i::r,U,a,w=>match ops[i]? with
  |none=>False
  |some o=>∀v W,C w W -> Z i v W -> v∉U -> gh P ops C Z Q r (v::U) (a.put o.dst v) W
 |.fixed i::r,U,a,w=>match ops[i]? with
  |none=>False
  |some o=>if Region.wanted o (yielded ops a.tmps) then opC P o a w (fun v b=>C w b /\ gh P ops C Z Q r U (a.put o.dst v) b) else gh P ops C Z Q r U (a.put o.dst undef) w
def apF(ops:Array Oper)(i j:Nat):Bool:=
 match ops[i]?,ops[j]? with
 |some x,some y=>x.apart ops y
 |_,_=>false
def gC(md:Region.Mode)(ops:Array Oper)(b:List Nat):Nat -> List iw -> List Nat -> Array Bool -> Bool
 |0,_,_,_=>false
 |_+1,[],D,a=>D.isEmpty&&(Region.ready md ops a).isEmpty
 |k+1,.steady i::r,D,a=>Nat.ble D.length r.length&&(Region.ready md ops a).contains i&&Region.free md ops a i&&D.all (fun j=>apF ops j i)&&gC md ops b k r D (a.setIfInBounds i true)
 |k+1,.move i::r,D,a=>Nat.ble D.length r.length&&D.all (fun j=>apF ops j i)&&(Region.ready md ops a).contains i&&gC md ops b k r D (a.setIfInBounds i true) &&
   (Region.ready md ops a).all (fun j=>j == i || (b.contains j&&!D.contains j&&D.all (fun x=>apF ops x j)&&gC md ops b k (.move i::r) (j::D) (a.setIfInBounds j true)))
 |k+1,.float i::r,D,a=>b.contains i&&(if D.contains i then gC md ops b k r (D.erase i) a else
   Nat.ble D.length r.length&&(Region.ready md ops a).contains i&&(Region.ready md ops a).all (fun j=>b.contains j&&!D.contains j&&D.all (fun x=>apF ops x j)&&gC md ops b k (.float i::r) (j::D) (a.setIfInBounds j true)))
 |k+1,.fixed i::r,D,a=>D.isEmpty&&(Region.ready md ops a == [i])&&gC md ops b k r [] (a.setIfInBounds i true)
def nA(ops:Array Oper)(j:Nat):Option Tmp:=(ops[j]?).bind (·.dst)
def jF(ops:Array Oper)(b:Nat -> Value):List Nat -> Act -> Act
 |[],a=>a
 |j::D,a=>jF ops b D (a.put (nA ops j) (b j))
theorem Ce(h:apF ops i j=true):∃x y,ops[i]?=some x /\ ops[j]?=some y /\ x.apart ops y=true:=by
 unfold apF at h;split at h
 ·rename_i x y a b;exact⟨x,y,a,b,h⟩
 ·cases h
theorem kZ{b:Nat -> Value}:∀(D:List Nat)(a:Act)(x:Option Tmp)(v:Value),(∀j∈D,∀d,nA ops j=some d -> x≠some d) -> (jF ops b D a).put x v=jF ops b D (a.put x v)
 |[],_,_,_,_=>rfl
 |j::D,a,x,v,h=>by
  rw[jF,kZ D _ x v fun k c=>h k (List.mem_cons_of_mem _ c),jF,Act.put_comm a (b j) v (h j List.mem_cons_self)]
theorem pw{val:Nat -> Value}{o:Oper}(c:∀e b,o.op≠.select e b):∀(D:List Nat)(a:Act),(∀j∈D,∀d,nA ops j=some d -> d∉o.looksAt ops) -> execOp (jF ops val D a).eval o=execOp a.eval o /\ Region.wanted o (yielded ops (jF ops val D a).tmps)=Region.wanted o (yielded ops a.tmps)
 |[],_,_=>⟨rfl,rfl⟩
 |j::D,a,h=>by
  obtain⟨f,g⟩:=pw c D (a.put (nA ops j) (val j)) fun k i=>h k (List.mem_cons_of_mem _ i)
  exact⟨f.trans (execOp_put o c a _ _ (h j List.mem_cons_self)),g.trans (wanted_put o a _ _ (h j List.mem_cons_self))⟩
theorem rG{b c:Nat -> Value}:∀(D:List Nat)(a:Act),(∀j∈D,b j=c j) -> jF ops b D a=jF ops c D a
 |[],_,_=>rfl
 |j::D,a,h=>by
  rw[jF,jF,h j List.mem_cons_self];exact rG D _ fun k d=>h k (List.mem_cons_of_mem _ d)
theorem rH{b:Nat -> Value}{i:Nat}:∀(D:List Nat)(a:Act),D.Nodup -> i∈D -> (∀j∈D,j≠i -> ∀d,nA ops j=some d -> nA ops i≠some d) -> jF ops b D a=jF ops b (D.erase i) (a.put (nA ops i) (b i))
 |[],_,_,h,_=>by cases h
 |j::D,a,l,h,f=>by
  by_cases c:j=i
  ·subst c;rw[List.erase_cons_head];rfl
  ·have hi:i∈D:=by
    rcases List.mem_cons.1 h with e|e
    ·exact absurd e.symm c
    ·exact e
   rw[jF,rH D _ (List.nodup_cons.1 l).2 hi (fun k g=>f k (List.mem_cons_of_mem _ g)),List.erase_cons_tail (by simpa using c),jF,Act.put_comm a (b j) (b i) (f j List.mem_cons_self c)]
structure uH(P:Program)(ops:Array Oper)(C:World -> World -> Prop)(Z:Nat -> Value -> World -> Prop)(w0:World)(FL:List Nat):Prop where
 run:∀j,FL.contains j=true -> ∃o,ops[j]?=some o /\ o.guard=none /\ ∀a W,C w0 W -> opC P o a W (fun v w'=>C W w' /\ Z j v w' /\ ∀k u,Z k u W -> v≠u)
 keep:∀j v w w',C w w' -> Z j v w -> Z j v w'
 dst:∀i j,FL.contains i=true -> FL.contains j=true -> i≠j -> ∀d,nA ops i=some d -> nA ops j≠some d
theorem uI{o:Oper}(h:ops[i]?=some o):nA ops i=o.dst:=by simp[nA,h]
theorem yK{D:List Nat}{o:Oper}(f:ops[i]?=some o)(h:D.all (fun j=>apF ops j i)=true):(∀j∈D,∀d,nA ops j=some d -> o.dst≠some d) /\ (∀j∈D,∀d,nA ops j=some d -> d∉o.looksAt ops):=by
 have hh:∀j∈D,∃x,ops[j]?=some x /\ x.apart ops o=true:=fun j c=>by
  obtain⟨x,y,e,g,a⟩:=Ce (List.all_eq_true.1 h j c);obtain rfl:=Option.some.inj (f.symm.trans g);exact⟨x,e,a⟩
 refine⟨fun j c d b=>?_,fun j c d b=>?_⟩
 ·obtain⟨x,e,a⟩:=hh j c;rw[uI e] at b;exact(Oper.apart_spec a).2.1 d b
 ·obtain⟨x,e,a⟩:=hh j c;rw[uI e] at b;exact(Oper.apart_spec a).1 d b
theorem wU{n:List Nat}(B:uH P ops C Z w0 n)(M:∀a b c,C a b -> C b c -> C a c)(hs:Region.noSelect ops=true){K:Nat}{l:List iw}{D:List Nat}{q:Array Bool}{a:Act}{f:Nat -> Value}
 (ih:∀(D:List Nat)(q:Array Bool)(a:Act)(W w':World)(L:List Value)(f:Nat -> Value),gC md ops n K l D q=true -> D.Nodup -> (∀j∈D,n.contains j=true) -> C w0 w' -> C W w' -> (D = [] -> w'=W) -> (∀j∈D,Z j (f j) w') -> (∀v∈L,∃k,Z k v w') -> (∀j∈D,f j∉L) -> (∀i j,i∈D -> j∈D -> i≠j -> f i≠f j) ->
  gh P ops C Z Q l L a W -> ig P md ops C Q (l.length-D.length) q (jF ops f D a) w')
 (I:n.contains j=true) (ab:D.contains j=false) (aa:D.all (fun x=>apF ops x j)=true) (T:gC md ops n K l (j::D) (q.setIfInBounds j true)=true)
 (hn:D.Nodup) (V:∀j∈D,n.contains j=true) (G:C w0 w') (hc:C W w') (A:∀j∈D,Z j (f j) w') (H:∀v∈L,∃k,Z k v w') (Y:∀j∈D,f j∉L) (X:∀i j,i∈D -> j∈D -> i≠j -> f i≠f j)
 (h:gh P ops C Z Q l L a W):stC P ops C j (ig P md ops C Q (l.length-(D.length+1)) (q.setIfInBounds j true)) (jF ops f D a) w':=by
 obtain⟨o,F,hg,hr⟩:=B.run j I;have J:j∉D:=by simpa using ab
 unfold stC;simp only[F,bj hg,if_true];refine eY (fun v ai N=>⟨N.1,?_⟩) (hr (jF ops f D a) w' G);obtain⟨r,hz,E⟩:=N
 let g:Nat -> Value:=fun x=>if x=j then v else f x
 have m:∀k∈D,f k=g k:=fun k d=>by
  have:k≠j:=fun e=>J (e▸d)
  simp[g,this]
 have he:(jF ops f D a).put o.dst v=jF ops g (j::D) a:=by
  rw[kZ D a o.dst v (yK F aa).1,jF,uI F,rG D _ m];simp[g]
 rw[he];have ag:l.length-(j::D).length=l.length-(D.length+1):=rfl;rw[<- ag];refine ih (j::D) _ a W ai L g T (List.nodup_cons.2 ⟨J,hn⟩) (fun k d=>?_) (M _ _ _ G r) (M _ _ _ hc r) nofun (fun k d=>?_) (fun u s=>?_) (fun k d=>?_) (fun x y hx R O=>?_) h
 ·rcases List.mem_cons.1 d with rfl|d
  ·exact I
  ·exact V k d
 ·rcases List.mem_cons.1 d with rfl|d
  ·simpa[g] using hz
  ·rw[<- m k d];exact B.keep _ _ _ _ r (A k d)
 ·obtain⟨k,d⟩:=H u s;exact⟨k,B.keep _ _ _ _ r d⟩
 ·rcases List.mem_cons.1 d with rfl|d
  ·intro s;have e:g k=v:=by simp[g]
   rw[e] at s;obtain⟨k',ad⟩:=H v s;exact E k' v ad rfl
  ·rw[<- m k d];exact Y k d
 ·rcases List.mem_cons.1 hx with S|t
  ·subst S;rcases List.mem_cons.1 R with z|p
   ·exact absurd z.symm O
   ·rw[<- m y p];have e:g x=v:=by simp[g]
    rw[e];exact E y (f y) (A y p)
  ·rcases List.mem_cons.1 R with z|p
   ·subst z;rw[<- m x t];have e:g y=v:=by simp[g]
    rw[e];exact(E x (f x) (A x t)).symm
   ·rw[<- m x t,<- m y p];exact X x y t p O
theorem Cf{FL:List Nat}(S:∀w,C w w)(T:∀a b c,C a b -> C b c -> C a c)(hs:Region.noSelect ops=true)(N:uH P ops C Z w0 FL):∀(k:Nat)(X:List iw)(D:List Nat)(p:Array Bool)(a:Act)(w W:World)(U:List Value)(l:Nat -> Value),
 gC md ops FL k X D p=true -> D.Nodup -> (∀j∈D,FL.contains j=true) -> C w0 W -> C w W -> (D = [] -> W=w) -> (∀j∈D,Z j (l j) W) -> (∀v∈U,∃k,Z k v W) -> (∀j∈D,l j∉U) -> (∀i j,i∈D -> j∈D -> i≠j -> l i≠l j) ->
  gh P ops C Z Q X U a w -> ig P md ops C Q (X.length-D.length) p (jF ops l D a) W:=by
 intro k
 induction k with
 |zero=>intro X D p a w W U l d;simp[gC] at d
 |succ k J=>
  intro X D p a w W U l d B F E M hw A I H G h
  match X,d,h with
  |[],d,h=>
   simp only[gC,Bool.and_eq_true] at d;obtain⟨t,s⟩:=d;obtain rfl:D = []:=by simpa using t
   rw[hw rfl];exact⟨by simpa using s,h⟩
  |.steady i::r,d,h=>
   simp only[gC,Bool.and_eq_true] at d;obtain⟨⟨⟨⟨t,s⟩,h3⟩,h4⟩,L⟩:=d;have av:D.length <= r.length:=Nat.le_of_ble_eq_true t;have O:(iw.steady i::r).length-D.length=(r.length-D.length)+1:=by simp;omega
   rw[O];cases f:ops[i]? with
   |none=>simp only[gh,f] at h
   |some o=>
    simp only[gh,f] at h;have ad:=Region.noSelect_spec hs;obtain⟨Y,al⟩:=yK f h4;obtain⟨an,aa⟩:=pw (val:=l) (fun cs b=>ad i o cs b f) D a al
    by_cases n:Region.wanted o (yielded ops a.tmps)=true
    ·simp only[n,if_true] at h;obtain⟨v,m,hK⟩:=h;refine gp S T f ad _ p _ W (Region.free_spec f h3) (by simpa using s) (v:=v) (.inl ⟨aa.trans n,fun q ay=>by rw[an];exact m q (T _ _ _ M ay)⟩) ?_;rw[kZ D a o.dst v Y];exact J r D _ _ w W U l L B F E M hw A I H G hK
    ·simp only[n] at h;refine gp S T f ad _ p _ W (Region.free_spec f h3) (by simpa using s) (v:=undef) (.inr ⟨by rw[aa];simpa using n,rfl⟩) ?_;rw[kZ D a o.dst undef Y];exact J r D _ _ w W U l L B F E M hw A I H G h
  |.move i::r,d,h=>
   have az:=d;simp only[gC,Bool.and_eq_true] at d;obtain⟨⟨⟨⟨t,h4⟩,s⟩,L⟩,h6⟩:=d;have av:D.length <= r.length:=Nat.le_of_ble_eq_true t;have O:(iw.move i::r).length-D.length=(r.length-D.length)+1:=by simp;omega
   rw[O];have ab:i∈Region.ready md ops p:=by simpa using s
   refine⟨fun V=>(by rw[V] at ab;cases ab),fun j g=>?_⟩
   by_cases ag:j=i
   ·subst ag;cases f:ops[j]? with
    |none=>simp only[gh,f] at h
    |some o=>
     simp only[gh,f] at h;have ad:=Region.noSelect_spec hs;obtain⟨Y,al⟩:=yK f h4;obtain⟨an,aa⟩:=pw (val:=l) (fun cs b=>ad j o cs b f) D a al;have hh:=h W M;unfold stC;simp only[f]
     by_cases n:Region.wanted o (yielded ops a.tmps)=true
     ·rw[if_pos (aa.trans n)];simp only[n,if_true] at hh;unfold opC at hh⊢;rw[an];refine eY (fun v q m=>⟨m.1,?_⟩) hh;rw[kZ D a o.dst v Y];exact J r D _ _ q q U l L B F (T _ _ _ E m.1) (S _) (fun _=>rfl) (fun k hk=>N.keep _ _ _ _ m.1 (A k hk)) (fun u hu=>by obtain⟨k,hk⟩:=I u hu;exact⟨k,N.keep _ _ _ _ m.1 hk⟩) H G m.2
     ·rw[if_neg (by rw[aa];exact n)];simp only[n] at hh;rw[kZ D a o.dst undef Y];exact J r D _ _ W W U l L B F E (S _) (fun _=>rfl) A I H G hh
   ·have z:=List.all_eq_true.1 h6 j g;simp only[Bool.or_eq_true,Bool.and_eq_true,beq_iff_eq,ag,false_or,Bool.not_eq_true'] at z;obtain⟨⟨⟨z,h8⟩,h9⟩,ai⟩:=z;have:=wU (K:=k) N T hs (J (.move i::r)) z h8 h9 ai B F E M A I H G h;have e:(iw.move i::r).length-(D.length+1)=r.length-D.length:=by simp
    rw[e] at this;exact this
  |.float i::r,d,h=>
   simp only[gC,Bool.and_eq_true] at d;obtain⟨ao,d⟩:=d;cases ak:D.contains i with
   |true=>
    rw[ak] at d;simp only[if_true] at d;have hi:i∈D:=by simpa using ak
    obtain⟨o,f,-,-⟩:=N.run i ao;simp only[gh,f] at h;have hh:=h (l i) W M (A i hi) (H i hi);rw[rH D a B hi (fun j g ag=>N.dst j i (F j g) ao ag),uI f]
    have O:(iw.float i::r).length-D.length=r.length-(D.erase i).length:=by
     rw[List.length_erase_of_mem hi];have:=List.length_pos_of_mem hi;simp;omega
    rw[O]
    have R:∀j,j∈D.erase i -> j∈D /\ j≠i:=fun j g=>by
     rw[List.Nodup.mem_erase_iff B] at g;exact⟨g.2,g.1⟩
    refine J r (D.erase i) p _ W W (l i::U) l d (B.erase i) (fun j g=>F j (R j g).1) E (S _) (fun _=>rfl) (fun j g=>A j (R j g).1) (fun v m=>?_) (fun j g=>?_) (fun x y hx hy=>G x y (R x hx).1 (R y hy).1) hh
    ·rcases List.mem_cons.1 m with rfl|m
     ·exact⟨i,A i hi⟩
     ·exact I v m
    ·intro hm;rcases List.mem_cons.1 hm with e|e
     ·exact G j i (R j g).1 hi (R j g).2 e
     ·exact H j (R j g).1 e
   |false=>
    rw[ak] at d;simp only[Bool.false_eq_true,if_false,Bool.and_eq_true] at d;obtain⟨⟨t,s⟩,h6⟩:=d;have av:D.length <= r.length:=Nat.le_of_ble_eq_true t;have O:(iw.float i::r).length-D.length=(r.length-D.length)+1:=by simp;omega
    rw[O];have ab:i∈Region.ready md ops p:=by simpa using s
    refine⟨fun V=>(by rw[V] at ab;cases ab),fun j g=>?_⟩;have z:=List.all_eq_true.1 h6 j g;simp only[Bool.and_eq_true,Bool.not_eq_true'] at z;obtain⟨⟨⟨z,h8⟩,h9⟩,ai⟩:=z;have:=wU (K:=k) N T hs (J (.float i::r)) z h8 h9 ai B F E M A I H G h;have e:(iw.float i::r).length-(D.length+1)=r.length-D.length:=by simp
    rw[e] at this;exact this
  |.fixed i::r,d,h=>
   simp only[gC,Bool.and_eq_true] at d;obtain⟨⟨t,s⟩,L⟩:=d;obtain rfl:D = []:=by simpa using t
   obtain rfl:=hw rfl;have ax:Region.ready md ops p = [i]:=by simpa using s
   show ig P md ops C Q (r.length+1) p a W;refine⟨fun V=>(by rw[ax] at V;cases V),fun j g=>?_⟩;rw[ax] at g;obtain rfl:j=i:=by simpa using g
   cases f:ops[j]? with
   |none=>simp only[gh,f] at h
   |some o=>
    simp only[gh,f] at h;unfold stC;simp only[f]
    have go:∀(a':Act)(q:World),C W q -> gh P ops C Z Q r U a' q -> ig P md ops C Q r.length (p.setIfInBounds j true) a' q:=fun a' q ar hh=>
     J r [] _ a' q q U l L List.nodup_nil nofun (T _ _ _ E ar) (S _) (fun _=>rfl) nofun (fun u hu=>by obtain⟨k,hk⟩:=I u hu;exact⟨k,N.keep _ _ _ _ ar hk⟩) nofun nofun hh
    by_cases n:Region.wanted o (yielded ops a.tmps)=true
    ·simp only[n,if_true] at h⊢;exact eY (fun v q m=>⟨m.1,go _ _ m.1 m.2⟩) h
    ·simp only[n] at h⊢;exact go _ _ (S _) h
theorem lD{Q:Exit -> Act -> World -> Prop}{a:Act}{l:List Oper}(C:World -> World -> Prop)(Z:Nat -> Value -> World -> Prop)(j:List Nat)(e:List iw)(k:Nat)(s:P.follows .mixedOrders=true)
 (m:(Region.noSelect l.toArray&&gC .any l.toArray j k e [] (Array.replicate l.length false)&&(e.length == l.length))=true)
 (g:∀W,C W W) (t:∀a b c,C a b -> C b c -> C a c) (r:uH P l.toArray C Z W.drew j)
 (h:gh P l.toArray C Z (fun d f=>Q .normal d f) e [] a W.drew):(Code.region i l.toArray true).wp P Q a W:=by
 simp only[Bool.and_eq_true] at m;obtain⟨⟨n,o⟩,p⟩:=m;have q:e.length=l.length:=by simpa using p
 refine wp_region_any s (ll (C:=C) (Q:=fun d f=>Q .normal d f) (fun _ _ h=>h) _ _ _ _ ?_);have:=Cf (Q:=fun d f=>Q .normal d f) g t n r k e [] _ a W.drew W.drew [] (fun _=>undef) o List.nodup_nil nofun (g _) (g _) (fun _=>rfl) nofun nofun nofun nofun h;simpa[q,jF] using this
theorem rI{a:Act}(h:Q a W):gh P ops C Z Q [] L a W:=h
theorem uJ{o:Oper}{r:List iw}{a:Act}(e:ops[i]?=some o)(f:Region.wanted o (yielded ops a.tmps)=true)
 (h:∀W,C w' W -> ∀K:Act -> World -> Prop,(∀c b,gh P ops C Z Q r L c b -> K c b) -> opC P o a W (fun v b=>C W b /\ K (a.put o.dst v) b)):gh P ops C Z Q (.move i::r) L a w':=by
 simp only[gh,e,f,if_true];exact fun W d=>h W d _ (fun _ _ h=>h)
theorem nB{o:Oper}{r:List iw}{a:Act}(g:ops[i]?=some o)
 (h:∀v W,C w' W -> Z i v W -> v∉L -> ∀K:Act -> World -> Prop,(∀b c,gh P ops C Z Q r (v::L) b c -> K b c) -> K (a.put o.dst v) W):gh P ops C Z Q (.float i::r) L a w':=by
 simp only[gh,g];exact fun v W e f d=>h v W e f d _ (fun _ _ h=>h)
theorem nC{o:Oper}{r:List iw}{a:Act}(d:ops[i]?=some o)(e:Region.wanted o (yielded ops a.tmps)=true)
 (h:∀K:Act -> World -> Prop,(∀c b,gh P ops C Z Q r L c b -> K c b) -> opC P o a W (fun v b=>C W b /\ K (a.put o.dst v) b)):gh P ops C Z Q (.fixed i::r) L a W:=by
 simp only[gh,d,e,if_true];exact h _ (fun _ _ h=>h)
def stF:iw -> Option Nat
 |.steady i=>some i
 |_=>none
theorem gw[Std.Refl C]{l r:List iw}{e:List (Oper×Option (Tmp×Bool))}{a A:Act}{i:List Value}(g:heads stF ops l=some (e,r))
 (c:∀f,C w' f -> lm P e a f [] A i) (h:gh P ops C Z Q r L A w'):gh P ops C Z Q l L a w':=by
 refine nU (W:=fun l a=>gh P ops C Z Q l L a w') (Std.Refl.refl w') ?_ ?_ l g c h
 ·rintro x j o r a v hi b d c h;cases x<;>cases hi
  simp only[gh,b,d,if_true];exact⟨v,c,h⟩
 ·rintro x j o r a hi b d h;cases x<;>cases hi
  simpa only[gh,b,d,Bool.false_eq_true,if_false] using h
end
attribute [irreducible] gh
structure dc(B0:Nat)(T:TypeId)(w w':World):Prop where
 os:w'.os=w.os
 tape:w'.tape=w.tape
 output:w'.output=w.output
 size:w.heap.size <= w'.heap.size
 block:∀b,b<w.heap.size -> (∀L,B0 <= b -> ¬Blk w b L T) -> w'.heap[b]?=w.heap[b]?
 typed:∀b L,B0 <= b -> Blk w b L T -> ∃L',Blk w' b L' T /\ L'.length=L.length
theorem j2(T:TypeId)(w:World):dc n T w w:=⟨rfl,rfl,rfl,aq _,fun _ _ _=>rfl,fun _ L _ h=>⟨L,h,rfl⟩⟩
theorem eB(T:TypeId)(a b c:World)(h:dc n T a b)(k:dc n T b c):dc n T a c:=
 ⟨k.os.trans h.os,k.tape.trans h.tape,k.output.trans h.output,au h.size k.size,
  fun x g f=>(k.block x (aw g h.size) fun L d e=>f L d ((h.block x g f).symm.trans e)).trans (h.block x g f),
  fun x L d e=>by
   obtain⟨i,o,l⟩:=h.typed x L d e;obtain⟨j,p,m⟩:=k.typed x i d o
   exact⟨j,p,m.trans l⟩⟩
theorem dc.of_later(h:aJ W w'):dc i t W w':=
 ⟨h.os,h.tape,h.output,h.size,fun b a _=>h.block b a,fun b L _ a=>⟨L,a.keep (h.block b a.lt),rfl⟩⟩
theorem dc.below(h:dc i t W w')(a:i <= W.heap.size):RowKit.Below i W w':=
 ⟨h.os,h.tape,h.output,h.size,fun b d=>h.block b (aw d a) fun L c=>absurd c (by omega)⟩
theorem dc.set{a:Nat}{T:TypeId}{w:World}{b:Nat}{L:List Value}(g:Blk w b L T)(f:a <= b)(i:Nat)(u:Value):dc a T w (w.setCell ⟨b,i,none⟩ u):=by
 refine⟨rfl,rfl,rfl,by simp[World.setCell],fun x j h=>?_,fun x M j c=>?_⟩
 ·exact RowKit.Below.heap_setCell _ _ _ _ fun e=>h L (by rw[e];exact f) (by rw[e];exact g)
 ·by_cases d:x=b
  ·subst d;exact⟨_,c.set i u,by simp⟩
  ·exact⟨M,c.set_other u d,rfl⟩
theorem dc.blk{T t:TypeId}(h:dc i T W w')(a:Blk W j L t)(d:t≠T):Blk w' j L t:=
 a.keep (h.block j a.lt fun M _ c=>d (a.inj c).2)
theorem dc.own(h:dc i t W w'){e:TypeId}{k n:Nat}{d:List Value}(c:W.ownsRow j e k u n d)(p:e≠t):w'.ownsRow j e k u n d:=by
 refine⟨c.1,?_⟩;rcases c.2 with m|⟨g,f,l,r,o,b,q⟩
 ·exact .inl m
 ·refine .inr ⟨g,f,l,r,o,?_,q⟩;rw[h.block g (lt_of_block b) fun L _ a=>?_]
  ·exact b
  ·unfold Blk at a;rw[b] at a;simp at a;exact p a.2
instance{B0:Nat}{T:TypeId}:Std.Refl (dc B0 T):=⟨j2 B0 T⟩
def uK(B0:Nat)(T:TypeId)(n:Nat)(_:Nat)(v:Value)(W:World):Prop:=∃b L,v=.pointer (some ⟨b,0,none⟩) /\ B0 <= b /\ Blk W b L T /\ L.length=n
theorem py{P:Program}{ops:Array Oper}{w0:World}{f:Nat}{n:Nat}{c:List Nat}(g:Array Value)(s:g.size=n)(p:f <= w0.heap.size)
 (E:∀j,c.contains j=true -> ∃o,ops[j]?=some o /\ o.guard=none /\ ∀(a:Act)(W:World),(execOp a.eval o).run P W=.ok (.value (.pointer (some ⟨W.heap.size,0,none⟩))) (W.alloc (.cells g t)))
 (x:∀i j,c.contains i=true -> c.contains j=true -> i≠j -> ∀d,nA ops i=some d -> nA ops j≠some d):uH P ops (dc f t) (uK f t n) w0 c:=by
 refine⟨fun j A=>?_,fun j v w I r ⟨b,L,G,e,B,C⟩=>?_,x⟩
 ·obtain⟨o,D,z,F⟩:=E j A;refine⟨o,D,z,fun a W q=>?_⟩;unfold opC;rw[F a W];refine⟨dc.of_later (RowKit.Below.refl W.heap.size W |>.alloc (aq _) _),⟨_,_,rfl,au p q.size,Blk.new _ _ _,by simpa using s⟩,?_⟩;rintro k u ⟨b,L,rfl,-,e,-⟩ y;have H:=e.lt;simp at y
  try omega
 ·obtain⟨h,l,m⟩:=r.typed b L e B;exact⟨b,h,G,e,l,m.trans C⟩
end
section
open Go.Lib
attribute [local go_sem] opC upC told bG br bH bt bw bI bJ
theorem uL{a:Addr}(h:W.cell? a=some u)(b:i=W.heap.size)(e:dc i t W.drew w'):w'.cell? a=some u:=by
 have c:=(e.below (by rw[b];exact aq _)).block a.block (by rw[b];exact il h);have d:w'.heap[a.block]?=W.heap[a.block]?:=c;unfold World.cell? at *;rw[d];exact h
theorem dc.belD(a:i=W.heap.size)(b:dc i t W.drew w'):Below W.heap.size W w':=by
 have:=b.below (by rw[a];exact aq _);rw[a] at this;exact(Below.refl _ _).drew.trans this
def DP:List iw:=[.steady 0,.steady 1,.steady 2,.steady 3,.steady 4,.steady 5,.steady 6,.steady 7,.steady 8,.steady 9,.move 10,.steady 11,.steady 12,.steady 13,.float 14,.fixed 15,.steady 16]
theorem gB.same{a:JK}{U:MU}{n:Int}(h:UAt W a i N U):gB W a i (N,U,n) (.returned (.int .i64 n)) W:=⟨rfl,a,rfl,rfl,h,fun q b=>.inl b,aT.refl _ _⟩
theorem gB.kept{a:JK}{U:MU}{n:Int}(h:UAt W a i N U)(b:Below W.heap.size W w'):gB W a i (N,U,n) (.returned (.int .i64 n)) w':=⟨rfl,a,rfl,rfl,h.keep b,fun q c=>.inl c,aT.of_below b⟩
theorem gB.after{w f d:World}{b:JK}{r:MD×MU×Int}{e:Ending}(c:Below w.heap.size w f)(h:gB f b i r e d):gB w b i r e d:=by
 obtain⟨g,o,j,k,l,m,n⟩:=h;exact⟨g,o,j,k,l,fun q a=>(m q a).imp id fun hh=>au c.size hh,(aT.of_below (F:=fun q=>b.all q \/ q=i) c).trans n fun q a=>.inl a⟩
theorem Cg(l:List bR)(h:∀k∈l,k.length <= 1000):(fI l).length <= 10+l.length*1010:=by
 have e:∀(q:List bR),(∀x∈q,x.length <= 1000) -> (q.flatMap bD).length <= q.length*1010:=fun q=>by
  induction q with
  |nil=>intro _;simp
  |cons x q g=>
   intro a;have b:=g fun y f=>a y (List.mem_cons_of_mem _ f)
   have c:=a x List.mem_cons_self;have i:=cF x.length;have d:(bD x).length=(cj x.length).length+x.length:=by unfold bD;rw[aA]
   rw[List.flatMap_cons,aA,aD,d];omega
 have b:=e l h;have c:=cF l.length;unfold fI;rw[aA];omega
theorem cG.njBelow{c d e:Value}(h:cG (NJ W) W c d e r)(a:Below W.heap.size W w'):cG (NJ w') w' c d e r:=
 (h.keep (w':=w') fun q _ f=>a.block q f).mono fun q b _=>iu b (a.block q (wT b))
theorem rJ{k:UInt8}{I:aU -> Int -> List bR -> aU×Int}(bS:∀a f,(callFunc o a).run aE f=.ok (.enter o a) f)(aP:un o I)(w:World)(hT:eJ w)(h3:4 <= w.heap.size)(Q:de w)(jk:JK)(u:Nat)(M:MD)(U:MU)(h:UAt w jk u M U)(hd:U.dev<8)(hv:bp U.m=true)(F:aX)(kv:Value)(l:List bR)(Y:Rows F w 1 kv l.length (l.map Go.Proofs.encStr))(bC:l.length <= 1000)(bm:∀k∈l,k.length <= 1000)(hw:M.writes+200000<4611686018427387904):
 Calls aE 61 #[.pointer (some ⟨u,0,none⟩),B k,kv,.func (.func o) #[] #[]] w (gB w jk u (fj M U l (I U.m U.dev l) (k::fI l))):=by
 replace Y:=Y.mono (G:=fun q=>q<w.heap.size) fun q _ aa=>aa
 obtain⟨ak,ck,rfl,-⟩:=id Y;obtain⟨a1,p1,a2,p2,a3,p3,X,hm⟩:=h.box;have H:=dD hv;have aR:=dr hv;obtain⟨m,al⟩:=aH U.m;obtain⟨d,aN⟩:=aH U.dev;obtain⟨bd,E⟩:=aH U.J.dead;obtain⟨n,hn⟩:=aH l.length;obtain⟨RR,aG⟩:=aH (I U.m U.dev l);have hD:=Ay w jk u M U h;rw[al,aN] at X aG;rw[al] at hm H aR;rw[E] at hD;obtain⟨c0,c1,c2,c3,c4⟩:=eO X;have aP:=ae aP;have HD:=ae hD;have L:=ae h;have Hd:=ae hd;have Hv:=ae hv;have Hl:=ae Y;have Hw:=ae hw;have ax:=ae bm;have Hm:=ae hm;have Hk:=ae H;have a7:=ae aR;have a9:=ae al;have a5:=ae aN;have ai:=ae E;have ao:=ae aG;have C:=ae hn;have HT:=ae hT;have HQ:=ae Q;rw[hn] at bC⊢;clear hD h hd hv Y hw bm hm H aR al aN E aG hn hT Q X c4
 go_enter func61,ntmps61
 go_wp2_with fail;refine HD.out.mono ?_;rintro e w1 ⟨rfl,rfl⟩;clear HD;cases bd with
 |true=>
  have A:=ae (show fj M U l (I U.m U.dev l) (k::fI l)=(M,U,8) by unfold fj;rw[if_pos ai.out]);go_wp2_with fail
  go_ret
  rw[A.out];exact gB.same L.out
 |false=>
  by_cases h0:n=0
  ·have bA:(n:Int)=0:=by omega
   have A:=ae (show fj M U l (I U.m U.dev l) (k::fI l)=(M,U,0) by unfold fj;rw[if_neg (by rw[ai.out];decide),if_pos (List.length_eq_zero_iff.1 (C.out.trans h0))]);clear h0;go_wp2_with fail
   go_ret
   rw[A.out];exact gB.same L.out
  ·have bA:¬(n:Int)=0:=by omega
   have ba:=ae (show l≠[] from fun e=>h0 (by rw[<- C.out,e];rfl));obtain⟨x,er⟩:=RR;have r:∀q x,w.cell? q=some x -> ∀f,dc w.heap.size 37 w.drew f -> f.cell? q=some x:=fun q x hc f hh=>uL hc rfl hh
   have bD:=r _ _ c0;have bE:=r _ _ c1;have bF:=r _ _ c2;have bG:=r _ _ c3;clear h0 c0 c1 c2 c3 r;go_wp2_with fail
   skip
   refine lD (dc w.heap.size 37) (uK w.heap.size 37 3) [14] DP 60 (by kernel_rfl) (by kernel_rfl) (j2 _ _) (eB _ _) (py #[.slice none 0 0,.slice none 0 0,.slice none 0 0] rfl (aq _) (fun j hj=>?_) (fun i j hi hj bU=>?_)) ?_
   ·obtain rfl:j=14:=by simpa using hj
    exact⟨_,rfl,rfl,fun a W=>by go_simp⟩
   ·simp at hi hj;omega
   unfold DP;apply gw;rfl;intro f S;go_simp;(repeat (simp(disch:=omega) only[af,aj,ap,ah,am,if_pos];go_simp));exact aF;refine uJ rfl rfl (fun Wa bg g c=>?_);go_simp;have y:Below w.heap.size w Wa:=bg.belD rfl;have T:=aP.out Wa (cd HT.out h3 y) (au h3 y.size) _ (.agg #[.slice a1 m.seen.length p1,.slice a2 m.items.length p2,.slice a3 m.gone.length p3]) m ⟨_,_,_,rfl,Hm.out.keep (w':=Wa) fun q _ aa=>y.block q aa⟩ Hk.out.1 Hk.out.2 (by have:=a7.out;omega) (by have:=a7.out;omega) (d:Int) _ (.slice ak l.length ck) l (Hl.out.keep (w':=Wa) fun q _ aa=>y.block q aa) (by rw[C.out];omega) (fun k H=>by have:=ax.out k H;omega);rw[ao.out,C.out] at T;have ay:=ae y.size;refine T.mono ?_;rintro e bK ⟨⟨r1,rfl,z,E⟩,v⟩;refine⟨_,rfl,dc.of_later v,c _ _ ?_⟩;clear c g T bD bE bF bG;go_simp;obtain⟨t1,t2,t3,rfl,z⟩:=z;dsimp only at z E;obtain⟨n1,m1,rfl⟩:=aK z.seen;obtain⟨n2,m2,rfl⟩:=aK z.items;obtain⟨n3,m3,rfl⟩:=aK z.gone;have bh:Below w.heap.size w bK:=y.trans (v.mono y.size);have ar:=ae bh;have Ho:=ae z;have a4:=ae E;clear bh z E v y bg;apply gw;rfl;intro f S;go_simp;(repeat (simp(disch:=omega) only[af,aj,ap,ah,am,if_pos];go_simp));exact aF;refine nB rfl (fun vO Wd V hZ T g c=>?_);obtain⟨Om,LO,rfl,O,t,bf⟩:=hZ;refine c _ _ ?_;clear c g T;go_simp
   obtain⟨x0,x1,x2,rfl⟩:∃x0 x1 x2,LO = [x0,x1,x2]:=by
    match LO,bf with
    |[x0,x1,x2],_=>exact⟨x0,x1,x2,rfl⟩
   have bj:Below w.heap.size w Wd:=ar.out.trans (V.below ar.out.size);obtain⟨K,aY,bk,D⟩:=dJ t bj O (.slice n1 x.seen.length m1) (.slice n2 x.items.length m2) (.slice n3 x.gone.length m3)
   have Z:dc w.heap.size 37 Wd K:=by
    rw[aY];exact eB _ _ _ _ _ (eB _ _ _ _ _ (dc.set t O 0 _) (dc.set (t.set 0 _) O 1 _)) (dc.set ((t.set 0 _).set 1 _) O 2 _)
   have P:dW K w.heap.size (.slice n1 x.seen.length m1) (.slice n2 x.items.length m2) (.slice n3 x.gone.length m3) x:=
    ⟨bP (Z.own (V.own Ho.out.seen (by decide)) (by decide)) ay.out,bP (Z.own (V.own Ho.out.items (by decide)) (by decide)) ay.out,bP (Z.own (V.own Ho.out.gone (by decide)) (by decide)) ay.out⟩
   have bL:=ae O;have bt:=ae P;have aZ:=ae bk;have bs:=ae a4.out;obtain⟨y0,y1,y2⟩:=aS t;have z0:=t.free 0;have z1:=t.free 1;have z2:=t.free 2;have ag:=ae D;have a6:=ae Z;have bb:=ae aY;clear D Z aY bk bj V t bf Ho a4 ar P;refine nC rfl rfl (fun g c=>?_);go_simp;rw[<- bb.out];refine⟨a6.out,c _ _ ?_⟩;clear c g y0 y1 y2 z0 z1 z2 a6 bb O;go_simp;apply gw;rfl;intro f S;go_simp;(repeat (simp(disch:=omega) only[af,aj,ap,ah,am,if_pos];go_simp));exact aF;refine rI ?_
   by_cases he:er=0
   ·subst he;have bN:=ae (L.out.keep ag.out);have bu:=ae (bt.out.nj bs.out);have A:=ae (show fj M U l (I U.m U.dev l) (k::fI l)=dV M U (k::fI l) x by unfold fj;rw[if_neg (by rw[ai.out];decide),if_neg ba.out,a9.out,a5.out,ao.out];rfl);obtain⟨s,aW⟩:=aQ K.drew;have v:Below K.heap.size K s:=by rw[aW];exact(Below.refl K.heap.size K).drew
    have az:Below w.heap.size w s:=ag.out.trans (v.mono ag.out.size);obtain⟨o0,o1,o2⟩:=aS (aZ.out.keep (v.block _ aZ.out.lt));have r:∀q x,s.cell? q=some x -> ∀f,aJ s f -> f.cell? q=some x:=fun q x hc f hh=>(hh.cell (p:=q) (il hc)).trans hc
    have bH:=r _ _ o0;have bI:=r _ _ o1;have bJ:=r _ _ o2;have hP:=wJ s _ (.slice ak l.length ck) l (Hl.out.keep (w':=s) fun q Q _=>az.block q Q) (by rw[C.out];omega) (fun k H=>by have:=ax.out k H;omega);rw[C.out] at hP;have HP:=ae hP;have bz:=ae aW;have an:=ae az;have bv:=ae (bu.out.njBelow v);have a0:=ae (show(fI l).length <= 2000000 by have:=Cg l ax.out;rw[C.out] at this;omega);clear hP aW v az o0 o1 o2 r;go_wp2_with fail;refine dP aJ 7 (up 3 [6,503,504,505,507,8]) (by kernel_rfl) ?_;rw[<- bz.out];apply bM;rfl;intro f S;go_simp;exact aF;clear bH bI bJ;refine cU rfl rfl (fun g c=>?_);go_simp;refine HP.out.mono ?_;rintro e w8 ⟨⟨r8,rfl,P⟩,D⟩;refine⟨_,rfl,D,c _ _ ?_⟩;clear c g HP;go_simp;have h8:aO (fun _=>True) w8 r8 (fI l):=aO.of_owns P _ fun _ _ _=>trivial
    obtain⟨a8,c8,rfl⟩:=aK P;have aV:=yA h8.insideU (fun b X=>X);obtain⟨R,ab⟩:=aQ (w8.alloc (.cells #[.slice a8 (fI l).length c8] 41));rw[<- ab] at aV;have bi:Below s.heap.size s R:=by rw[ab];exact D.alloc D.size _
    have hR:=rt R _ k _ _ aV (by rw[wR];have:=a0.out;omega) (by simp);rw[wR] at hR;have HR:=ae (show Calls aE 81 #[B k,.slice (some ⟨w8.heap.size,0,none⟩) 1 1] R _ from hR);have bc:=ae ab;have av:=ae bi;have bw:=ae (show Below w8.heap.size w8 R by rw[ab];exact aI _ _);obtain⟨nb,bn⟩:=aH ((fI l).length);rw[bn] at bc⊢;clear hR aV ab bi h8 P D bn;refine cU rfl rfl (fun g c=>?_);go_simp;rw[<- bc.out];refine⟨bw.out,c _ _ ?_⟩;clear c g;go_simp;refine cU rfl rfl (fun g c=>?_);go_simp;refine HR.out.mono ?_;rintro e ad ⟨⟨bq,rfl,aT⟩,aL⟩;refine⟨_,rfl,aL,c _ _ ?_⟩;clear c g HR;go_simp;have aM:Below s.heap.size s ad:=av.out.trans (aL.mono av.out.size);have N:Below w.heap.size w ad:=an.out.trans (aM.mono an.out.size);have bl:=L.out.jat.lt;have bB:w.heap.size <= R.heap.size:=au an.out.size av.out.size;have be:aO (fun q=>R.heap.size <= q /\ q<ad.heap.size) ad bq (k::fI l):=aO.of_owns aT _ fun q h1 h2=>⟨h1,h2⟩
    have hW:=Az ad (cd HT.out h3 N) (au h3 N.size) (HQ.out.keep (N.block 0 (by omega))) jk u M U (L.out.keep N) Hd.out Hv.out _ bq (k::fI l) be (fun q Q=>⟨Q.2,fun ha=>by have:=bl q ha;omega⟩) (.agg #[.slice n1 x.seen.length m1,.slice n2 x.items.length m2,.slice n3 x.gone.length m3]) x ⟨_,_,_,rfl,bv.out.njBelow aM⟩ Hw.out (by show(fI l).length+1 <= _;have:=a0.out;omega);have HW:=ae hW;have br:=ae N;obtain⟨bO,bQ,rfl⟩:=aK aT;clear hW N aM bl bB be aT aL;apply bM;rfl;intro f S;go_simp;exact aF;refine cZ rfl rfl rfl (fun g c=>?_);go_simp;refine HW.out.mono ?_;rintro e bV ⟨rfl,bo⟩;refine⟨_,rfl,c _ _ ?_⟩;clear c g HW;go_simp;apply bM;rfl;intro f S;go_simp;exact aF;refine dt ?_;have bx:=ae bo;clear bo;go_wp2_with fail
    go_ret
    rw[A.out];exact gB.after br.out ⟨rfl,bx.out⟩
   ·have bT:¬er=0:=he;have A:=ae (show fj M U l (I U.m U.dev l) (k::fI l)=(M,U,er) by unfold fj;rw[if_neg (by rw[ai.out];decide),if_neg ba.out,a9.out,a5.out,ao.out];exact if_neg he);clear he;go_wp2_with fail
    go_ret
    rw[A.out];exact gB.kept L.out ag.out
def EJ(f:Nat)(c:MD -> MU -> List bR -> MD×MU×Int):Prop:=
 ∀(w:World)(e:eJ w)(d:4 <= w.heap.size)(o:de w)(a:JK)(u:Nat)(M:MD)(U:MU)(h:UAt w a u M U)(g:U.dev<8)(p:bp U.m=true)(F:aX)(b:Value)(l:List bR)(j:Rows F w 1 b l.length (l.map Go.Proofs.encStr))(n:l.length <= 1000)(i:∀k∈l,k.length <= 1000)(q:M.writes+200000<4611686018427387904),
  Calls aE f #[.pointer (some ⟨u,0,none⟩),b] w (gB w a u (c M U l))
theorem changes:EJ 23 lu /\ EJ 40 nX:=by
 constructor<;>intro w c o i r u M U h d j F s l b g f m
 case' left=>have a:=ae (rJ (k:=1) (fun _ _=>by go_simp) vU w c o i r u M U h d j F s l b g f m)
 case' right=>have a:=ae (rJ (k:=2) (fun _ _=>by go_simp) pX w c o i r u M U h d j F s l b g f m)
 all_goals
  obtain⟨v,x,rfl,-⟩:=id b;obtain⟨n,p⟩:=aH l.length;rw[p] at a⊢;clear b g f m h d j i c p
  first|go_enter func23,ntmps23|go_enter func40,ntmps40
  go_wp2_with fail;refine a.out.mono ?_;rintro e y ⟨rfl,q⟩;have t:=ae q;clear a q;go_wp2_with fail
  go_ret
  exact⟨rfl,t.out⟩
theorem yL(g:JK)(u:Nat)(M:MD)(U:MU)(h:UAt w g u M U):
 Calls aE 17 #[.pointer (some ⟨u,0,none⟩)] w fun e i=>e=.returned (.int .i64 (U.dev:Int)) /\ w=i:=by
 obtain⟨j,m,k,n,l,o,a,f⟩:=h.box;obtain⟨c,-,-,-,-⟩:=eO a;obtain⟨d,b⟩:=aH U.dev;rw[b] at c⊢;clear a f b h
 go_enter func17,ntmps17
 go_wp2_with fail
 go_ret
 exact⟨rfl,rfl⟩
end
section
open Go.Lib
attribute [local go_sem] opC upC told bG br bH bt bw bI bJ
def zF(w:World)(m:aU)(e:Ending)(a:World):Prop:=(∃r,e=.returned r /\ pc a w.heap.size r m /\ Bnd m) /\ Below w.heap.size w a
theorem Ci(jk:JK)(u:Nat)(M:MD)(U:MU)(h:UAt w jk u M U)(hv:bp U.m=true):
 Calls aE 19 #[.pointer (some ⟨u,0,none⟩)] w (zF w U.m):=by
 obtain⟨a1,p1,a2,p2,a3,p3,f,I⟩:=h.box;have H:=dr hv;obtain⟨m,aY⟩:=aH U.m;rw[aY] at f I H⊢;obtain⟨j,A⟩:=aQ (w.alloc (.cells #[.slice none 0 0,.slice none 0 0,.slice none 0 0] 37));have aa:Below w.heap.size w j:=by rw[A];exact aI _ _
 have Z:Blk j w.heap.size [.slice none 0 0,.slice none 0 0,.slice none 0 0] 37:=by rw[A];exact Blk.new _ _ _
 have aZ:j.heap.size=w.heap.size+1:=by rw[A];simp
 obtain⟨a,al⟩:=aQ j.drew;have F:Below j.heap.size j a:=by rw[al];exact(Below.refl j.heap.size j).drew
 have E:Below w.heap.size w a:=aa.trans (F.mono aa.size);obtain⟨c0,c1,c2,c3,c4⟩:=eO (f.keep (E.block _ f.lt));have P:∀q x,a.cell? q=some x -> ∀B,aJ a B -> B.cell? q=some x:=fun q x hc B hh=>(hh.cell (p:=q) (il hc)).trans hc
 have aN:=P _ _ c1;have aO:=P _ _ c2;have aP:=P _ _ c3
 have y:=ae (show ∀W,Below a.heap.size a W -> cG (NJ w) W (.slice a1 m.seen.length p1) (.slice a2 m.items.length p2) (.slice a3 m.gone.length p3) m /\ Below w.heap.size w W /\ Blk W w.heap.size [.slice none 0 0,.slice none 0 0,.slice none 0 0] 37 from fun W hW=>by
  have hB:Below w.heap.size w W:=E.trans (hW.mono E.size)
  exact⟨I.keep fun q _ aX=>hB.block q aX,hB,(Z.keep (F.block _ Z.lt)).keep (hW.block _ (by have:=F.size;omega))⟩)
 obtain⟨d,hd⟩:=aH U.dev;have T:=ae (qR a _ (.slice a1 m.seen.length p1) m.seen (y.out a (Below.refl _ _)).1.seen (by have:=H.1;omega));have aV:=ae A;have aW:=ae al;have ao:=ae H;have aT:=ae I.bnd;obtain⟨n1,ag⟩:=aH m.seen.length;obtain⟨n2,ai⟩:=aH m.items.length;obtain⟨n3,ak⟩:=aH m.gone.length;rw[ag] at aN T;rw[ai] at aO;rw[ak] at aP;have V:=ae ag;have C:=ae ai;have D:=ae ak;clear f I H A aa Z aZ al F E c0 c1 c2 c3 c4 P h hv ag ai ak
 go_enter func19,ntmps19
 go_wp2_with fail;rw[<- aV.out];refine dP aJ 19 (up 5 [6,7,8,9,10,12,13,14,15,16,505,511,517,18,519]) (by kernel_rfl) ?_;rw[<- aW.out];apply bM;rfl;intro B hC;go_simp;exact aF;clear aN aO aP;refine cU rfl rfl (fun k b=>?_);go_simp;refine T.out.mono ?_;rintro e R ⟨r3,rfl,J,g⟩;refine⟨_,rfl,g,b _ _ ?_⟩;clear b k T;go_simp;have X:=pQ R _ (.slice a2 m.items.length p2) m.items (y.out R g).1.items (by have:=ao.out.2.1;omega);rw[C.out] at X;refine cU rfl rfl (fun k b=>?_);go_simp;refine X.mono ?_;rintro e w4 ⟨r4,rfl,K,z⟩;refine⟨_,rfl,z,b _ _ ?_⟩;clear b k X;go_simp;have ab:Below a.heap.size a w4:=g.trans (z.mono g.size);have Y:=pR w4 _ (.slice a3 m.gone.length p3) m.gone (y.out w4 ab).1.gone (by have:=ao.out.2.2.1;omega);rw[D.out] at Y;refine cU rfl rfl (fun k b=>?_);go_simp;refine Y.mono ?_;rintro e S ⟨r5,rfl,N,G⟩;refine⟨_,rfl,G,b _ _ ?_⟩;clear b k Y;go_simp;obtain⟨l,r,rfl⟩:=aK J;obtain⟨n,s,rfl⟩:=aK K;obtain⟨o,t,rfl⟩:=aK N;have ad:Below R.heap.size R S:=z.trans (G.mono z.size);have ax:Below a.heap.size a S:=g.trans (ad.mono g.size);obtain⟨-,av,c⟩:=y.out S ax;have O:w.heap.size <= a.heap.size:=(y.out a (Below.refl _ _)).2.1.size;rw[<- V.out] at J;rw[<- C.out] at K;rw[<- D.out] at N
 have aG:dW S w.heap.size (.slice l m.seen.length r) (.slice n m.items.length s) (.slice o m.gone.length t) m:=
  ⟨bP (bm J ad) O,bP (bm K G) (au O g.size),bP N (au O ab.size)⟩
 obtain⟨w6,an,az,ay⟩:=dJ c av (aq _) (.slice l m.seen.length r) (.slice n m.items.length s) (.slice o m.gone.length t)
 have aM:dW w6 w.heap.size (.slice l m.seen.length r) (.slice n m.items.length s) (.slice o m.gone.length t) m:=by
  have one:∀{W:World}{L:List Value}(i:Nat)(x:Value),dW W w.heap.size (.slice l m.seen.length r) (.slice n m.items.length s) (.slice o m.gone.length t) m -> Blk W w.heap.size L 37 -> dW (W.setCell ⟨w.heap.size,i,none⟩ x) w.heap.size (.slice l m.seen.length r) (.slice n m.items.length s) (.slice o m.gone.length t) m:=fun i x h f=>
   ⟨aL h.seen f (by decide) x,aL h.items f (by decide) x,aL h.gone f (by decide) x⟩
  rw[an];exact one 2 _ (one 1 _ (one 0 _ aG c) (c.set 0 _)) ((c.set 0 _).set 1 _)
 obtain⟨y0,y1,y2⟩:=aS c;have z0:=c.free 0;have z1:=c.free 1;have z2:=c.free 2;have Q:=ae (aS az);have aU:=ae aM;have aR:=ae ay;have ar:=ae an;rw[V.out,C.out,D.out] at Q ar;clear aG aM az ay an J K N g z G ab ad ax c av O;apply bM;rfl;intro B hC;go_simp;exact aF;refine cZ rfl rfl rfl (fun k b=>?_);go_simp;rw[<- ar.out];refine b _ _ ?_;clear b k y0 y1 y2 z0 z1 z2;go_simp;refine dt ?_;go_wp2_with fail;obtain⟨q0,q1,q2⟩:=Q.out;exact bodyPost_ret (v:=.agg #[.slice l n1 r,.slice n n2 s,.slice o n3 t]) (by simp[results,results19,go_sem,q0,q1,q2]) rfl ⟨⟨_,rfl,⟨_,_,_,rfl,by have h:=aU.out;rw[V.out,C.out,D.out] at h;exact h⟩,aT.out⟩,aR.out⟩
end
section
open Go.Lib
attribute [local go_sem] opC upC told bG br bH bt bw bI bJ
def DQ:List iw:=[.steady 0,.steady 1,.steady 2,.steady 3,.steady 4,.move 5,.steady 6,.steady 7,.steady 8,.float 9,.fixed 10,.steady 11]
end
section
open Go.Lib
attribute [local go_sem] opC upC told bG br bH bt bw bI bJ
theorem tH(h:MTy W i):NJ W i:=by
 obtain⟨L,t,a,b,c⟩:=h;refine⟨L,t,a,b,?_⟩;rcases c with rfl|rfl|rfl
 ·exact⟨yJ,by decide,by decide⟩
 ·exact⟨zB,by decide,by decide⟩
 ·exact⟨zC,by decide,by decide⟩
theorem UAt.setD{k:JK}{U:MU}(h:UAt W k i N U){d:Nat}(g:w'=W.setCell ⟨i,0,none⟩ (.int .i64 (d:Int))):UAt w' k i N ⟨d,U.m,U.J⟩ /\ aT (fun q=>q=i) W w':=by
 obtain⟨o,v,r,x,s,y,j,z⟩:=h.box
 have f:∀q,q≠i -> w'.heap[q]?=W.heap[q]?:=fun q a=>by
  rw[g];exact Below.heap_setCell _ _ _ _ a
 have C:w'.heap.size=W.heap.size:=by rw[g];simp[World.setCell]
 have n:∀q,NJ W q -> q≠i:=fun q ⟨L,t,B,hh,_,A⟩ e=>by
  subst e;unfold Blk at j;rw[j] at hh;injection hh with hh
  injection hh with _ hh
  exact A.1 hh.symm
 have l:∀b,k.all b -> b≠i:=fun b c e=>h.apart (e▸c)
 refine⟨⟨⟨o,v,r,x,s,y,?_,(z.keep (w':=w') fun q a _=>f q (n q a)).mono fun q a _=>iu a (f q (n q a))⟩,h.jat.keep (fun b c=>f b (l b c)) (by omega),h.typ.keep fun b c=>f b (l b c),h.low⟩,?_⟩
 ·rw[g];exact j.set 0 _
 ·rw[g];exact(aT.refl (fun q=>q=i) W).setCell (p:=⟨i,0,none⟩) (.inl rfl) _
theorem EK{d:JK}{U:MU}(h:UAt W d i N U)(b:NJ W j):j≠i:=fun e=>by
 obtain⟨f,l,g,m,k,n,a,-⟩:=h.box;obtain⟨L,t,o,hh,_,c⟩:=b;subst e;unfold Blk at a;rw[a] at hh;injection hh with hh
 injection hh with _ hh
 exact c.1 hh.symm
theorem cG.past{d e f:Value}(k:cG (NJ W) W d e f r){l:JK}{U:MU}(h:UAt W l i N U){b:World}(j:aT (fun q=>q=i) W b)(g:w'.heap=b.heap:=by rfl):cG (NJ w') w' d e f r:=by
 have c:∀q,NJ W q -> w'.heap[q]?=W.heap[q]?:=fun q a=>by
  rw[g];exact j.block q (wT a) (EK h a)
 exact(k.keep (w':=w') fun q a _=>c q a).mono fun q a _=>iu a (c q a)
def g7(w:World)(b:JK)(u:Nat)(M:MD)(U:MU)(r:List UInt8)(e:Ending)(a:World):Prop:=match eM (0::r) with
 |none=>e=.returned (.bool false) /\ aT (fun q=>q=u) w a
 |some p=>e=.returned (.bool true) /\ UAt a b u M ⟨p.1,p.2,U.J⟩ /\ aT (fun q=>q=u) w a
theorem AA(hT:eJ w)(h3:4 <= w.heap.size)(jk:JK)(u:Nat)(M:MD)(U:MU)(h:UAt w jk u M U)(F:aX)(Z:Option Addr)(B:Nat)(r:List UInt8)(hB:aO F w (.slice Z r.length B) r)(hF:∀q,F q -> q<w.heap.size)(hl:r.length <= 400000):
 Calls aE 50 #[.pointer (some ⟨u,0,none⟩),.slice Z r.length B] w (g7 w jk u M U r):=by
 obtain⟨-,a8,a6,-⟩:=hB.cells;have a9:B <= 9223372036854775807:=by unfold maxLen at a6;omega
 have I:=vI w F Z B r 0 hB hF (Nat.zero_le _);unfold iZ at I;rw[List.drop_zero] at I;cases E:rdF r 9 with
 |none=>
  rw[E] at I;have aM:=ae (show eM (0::r)=none by unfold eM;dsimp only;rw[if_pos rfl,E]);have S:=ae (show Calls aE 99 #[.slice Z r.length B,.int .i64 0] w fun e a=>e=.returned (io r.length none) /\ Below w.heap.size w a from I);unfold io at S;clear I E h hB hF hT
  go_enter func50,ntmps50
  go_wp2_with fail;refine S.out.mono ?_;rintro e A ⟨rfl,g⟩;clear S;go_wp2_with fail
  exact bodyPost_ret (v:=.bool false) (by simp[results,results50,go_sem]) rfl (by
   unfold g7;rw[aM.out];exact⟨rfl,aT.of_below g⟩)
 |some p=>
  obtain⟨n,t⟩:=p;rw[E] at I;have a7:=jr E;have az:=kS E;obtain⟨k,hk⟩:=aH (r.length-t.length);have S:=ae (show Calls aE 99 #[.slice Z r.length B,.int .i64 0] w fun e a=>e=.returned (.tuple #[.int .u64 (n:Int),.int .i64 (k:Int),.bool true]) /\ Below w.heap.size w a from by rw[<- hk];exact I);rw[hk] at az;have a4:k <= r.length:=by omega
  by_cases h8:n<8
  case neg=>
   have hI:((n:Int)<8)=False:=eq_false (by omega);have a5:decide ((8:Int) <= (n:Int))=true:=decide_eq_true (by omega);have aM:=ae (show eM (0::r)=none by unfold eM;dsimp only;rw[if_pos rfl,E];dsimp only;rw[if_neg h8]);clear I E h hB hF hT hk az a4
   go_enter func50,ntmps50
   go_wp2_with fail;refine S.out.mono ?_;rintro e A ⟨rfl,g⟩;clear S;go_wp2_with fail
   exact bodyPost_ret (v:=.bool false) (by simp[results,results50,go_sem]) rfl (by
    unfold g7;rw[aM.out];exact⟨rfl,aT.of_below g⟩)
  have hI:((n:Int)<8)=True:=eq_true (by omega);have a5:decide ((8:Int) <= (n:Int))=false:=decide_eq_false (by omega);have hd:=hB.drop k a4;rw[<- az.2,show r.length-k=t.length by omega] at hd;obtain⟨aR,aU⟩:=aH (if B=k then Z else Z.map fun x=>x.add k);rw[aU] at hd;have ad:r.length-k=t.length:=by omega
  have T:=ae (show ∀W,Below w.heap.size w W -> eJ W /\ 4 <= W.heap.size /\ aO F W (.slice aR t.length (B-k)) t /\ ∀q,F q -> q<W.heap.size from fun W hW=>⟨cd hT h3 hW,au h3 hW.size,hd.keep (w':=W) fun q N _=>hW.block q (hF q N),fun q N=>aw (hF q N) hW.size⟩);have ay:=ae h;have aZ:=ae E;have aY:=ae aU;have a0:=ae ad;have Hl:=ae (show t.length <= 400000 by omega);have ba:(k:Int) <= (r.length:Int):=by omega
  clear I E h hB hF hT hk az hd aU ad a7 hl
  go_enter func50,ntmps50
  go_wp2_with fail;refine S.out.mono ?_;rintro e A ⟨rfl,g⟩;clear S;go_wp2_with fail
  case inl h=>
   have ee:=aY.out;rw[if_pos h] at ee;rw[a0.out];have j:=nf A (T.out A g).1 (T.out A g).2.1 F aR (B-k) t (T.out A g).2.2.1 (T.out A g).2.2.2 Hl.out;rw[<- ee] at j;unfold uq at j;obtain⟨R,hR⟩:=aH (fi t);rw[hR] at j;obtain⟨x,G⟩:=R;dsimp only at j;rw[show B-k=0 by omega] at j;have HR:=ae hR;have ag:=ae j;clear j ee hR h;refine ag.out.mono ?_;rintro e f ⟨v,rfl,hv,J⟩;clear ag;obtain⟨s1,s2,s3,rfl,D⟩:=hv;obtain⟨l,s,rfl,-⟩:=D.seen.shape;obtain⟨m,y,rfl,-⟩:=D.items.shape;obtain⟨o,z,rfl,-⟩:=D.gone.shape;obtain⟨b,O⟩:=aQ (f.alloc (.cells #[.slice l x.seen.length s,.slice m x.items.length y,.slice o x.gone.length z] 37));have K:Below f.heap.size f b:=by rw[O];exact aI _ _
   have ak:Blk b f.heap.size [.slice l x.seen.length s,.slice m x.items.length y,.slice o x.gone.length z] 37:=by rw[O];exact Blk.new _ _ _
   have ar:cG (NJ b) b (.slice l x.seen.length s) (.slice m x.items.length y) (.slice o x.gone.length z) x:=(D.keep (w':=b) fun q _ ad=>K.block q ad).mono fun q N _=>iu (tH N.2) (K.block q (by
    obtain⟨L,t,fz,hh,_⟩:=N.2
    exact lt_of_block hh))
   have aa:Below w.heap.size w b:=(g.trans (J.mono g.size)).trans (K.mono (au g.size J.size));have al:=ay.out.keep aa;have ao:u<f.heap.size:=by have:=ay.out.lt;have:=g.size;have:=J.size;omega
   have aJ:=ae ar;have aG:=ae aa;have X:=ae al;have aP:=ae O;have ai:=ae ak;have aN:=ae ao;clear D K ak ar aa al J O ao;go_wp2_with fail;refine dP (bL (fun q=>q=u)) 10 (up 7 [507,8,9,510]) (by kernel_rfl) ?_;rw[<- aP.out]
   have Q:∀a,bL (fun q=>q=u) b.drew a -> a.cell? ⟨f.heap.size,0,none⟩=some (.slice l x.seen.length s) /\ a.cell? ⟨f.heap.size,1,none⟩=some (.slice m x.items.length y) /\ a.cell? ⟨f.heap.size,2,none⟩=some (.slice o x.gone.length z):=fun a hh=>
    aS (ai.out.keep (w':=a) (hh.block f.heap.size ai.out.lt (by have:=aN.out;show ¬f.heap.size=u;omega)))
   have q0:=fun a hh=>(Q a hh).1
   have q1:=fun a hh=>(Q a hh).2.1
   have q2:=fun a hh=>(Q a hh).2.2
   clear Q;have aW:IntKind.i64.wrap (n:Int)=(n:Int):=af _ (by omega);apply bM;rfl;intro a hC;go_simp;exact aF;clear q0 q1 q2 aW;obtain⟨a1,p1,a2,p2,a3,p3,c,-⟩:=X.out.box;have z0:=(eO c).1;have zf:=c.free 0;refine cU rfl rfl (fun Y C=>?_);go_simp;obtain⟨i,P⟩:=aQ (b.setCell ⟨u,0,none⟩ (.int .i64 (n:Int)));rw[<- P];have h4:=(X.out.keep ((Below.refl b.heap.size b).drew)).setD (d:=n) (w':=i.drew) (by rw[P];rfl);have ax:cG (NJ i.drew) i.drew (.slice l x.seen.length s) (.slice m x.items.length y) (.slice o x.gone.length z) x:=aJ.out.past (w':=i.drew) X.out (show aT (fun q=>q=u) b i by rw[P];exact(aT.refl (fun q=>q=u) b).setCell (p:=⟨u,0,none⟩) (.inl rfl) _);have V:=ae h4;have aK:=ae ax;refine⟨h4.2,C _ _ ?_⟩;clear C Y h4 ax P c z0 zf;go_simp;apply bM;rfl;intro a hC;go_simp;exact aF;obtain⟨a1,p1,a2,p2,a3,p3,c,-⟩:=V.out.1.box;have c:Blk i u _ _:=c;obtain⟨-,z1,z2,z3,-⟩:=eO c;have f1:=c.free 1;have f2:=c.free 2;have f3:=c.free 3;refine cZ rfl rfl rfl (fun Y C=>?_);go_simp;obtain⟨w5,ab⟩:=aQ (((i.setCell ⟨u,1,none⟩ (.slice l x.seen.length s)).setCell ⟨u,2,none⟩ (.slice m x.items.length y)).setCell ⟨u,3,none⟩ (.slice o x.gone.length z));rw[<- ab];have h5:=V.out.1.setM aK.out (w':=w5.drew) (by rw[ab];rfl)
   have aL:=ae (show g7 w jk u M U r (.returned (.bool (G == 0))) w5.drew from by
    have aV:eM (0::r)=if G=0 then some (n,x) else none:=by
     unfold eM;dsimp only;rw[if_pos rfl,aZ.out];dsimp only;rw[if_pos h8,HR.out]
    have an:aT (fun q=>q=u) w w5.drew:=((aT.of_below (F:=fun q=>q=u) aG.out.drew).trans V.out.2 fun _ hi=>.inl hi).trans h5.2 fun _ hi=>.inl hi
    unfold g7;rw[aV]
    by_cases H:G=0
    ·rw[if_pos H,H];exact⟨rfl,h5.1,an⟩
    ·rw[if_neg H]
     exact⟨by rw[beq_eq_false_iff_ne.2 H],an⟩)
   refine C _ _ ?_;clear C Y c z1 z2 z3 f1 f2 f3 ab h5;go_simp;apply bM;rfl;intro a hC;go_simp;exact aF;refine dt ?_;go_wp2_with fail;exact bodyPost_ret (v:=.bool (G == 0)) (by simp[results,results50,go_sem]) rfl aL.out
  case inr h=>
   have ee:=aY.out;rw[if_neg h] at ee;rw[a0.out];have j:=nf A (T.out A g).1 (T.out A g).2.1 F aR (B-k) t (T.out A g).2.2.1 (T.out A g).2.2.2 Hl.out;rw[<- ee] at j;unfold uq at j;obtain⟨R,hR⟩:=aH (fi t);rw[hR] at j;obtain⟨x,G⟩:=R;dsimp only at j
   skip
   have HR:=ae hR;have ag:=ae j;clear j ee hR h;refine ag.out.mono ?_;rintro e f ⟨v,rfl,hv,J⟩;clear ag;obtain⟨s1,s2,s3,rfl,D⟩:=hv;obtain⟨l,s,rfl,-⟩:=D.seen.shape;obtain⟨m,y,rfl,-⟩:=D.items.shape;obtain⟨o,z,rfl,-⟩:=D.gone.shape;obtain⟨b,O⟩:=aQ (f.alloc (.cells #[.slice l x.seen.length s,.slice m x.items.length y,.slice o x.gone.length z] 37));have K:Below f.heap.size f b:=by rw[O];exact aI _ _
   have ak:Blk b f.heap.size [.slice l x.seen.length s,.slice m x.items.length y,.slice o x.gone.length z] 37:=by rw[O];exact Blk.new _ _ _
   have ar:cG (NJ b) b (.slice l x.seen.length s) (.slice m x.items.length y) (.slice o x.gone.length z) x:=(D.keep (w':=b) fun q _ ad=>K.block q ad).mono fun q N _=>iu (tH N.2) (K.block q (by
    obtain⟨L,t,fz,hh,_⟩:=N.2
    exact lt_of_block hh))
   have aa:Below w.heap.size w b:=(g.trans (J.mono g.size)).trans (K.mono (au g.size J.size));have al:=ay.out.keep aa;have ao:u<f.heap.size:=by have:=ay.out.lt;have:=g.size;have:=J.size;omega
   have aJ:=ae ar;have aG:=ae aa;have X:=ae al;have aP:=ae O;have ai:=ae ak;have aN:=ae ao;clear D K ak ar aa al J O ao;go_wp2_with fail;refine dP (bL (fun q=>q=u)) 10 (up 7 [507,8,9,510]) (by kernel_rfl) ?_;rw[<- aP.out]
   have Q:∀a,bL (fun q=>q=u) b.drew a -> a.cell? ⟨f.heap.size,0,none⟩=some (.slice l x.seen.length s) /\ a.cell? ⟨f.heap.size,1,none⟩=some (.slice m x.items.length y) /\ a.cell? ⟨f.heap.size,2,none⟩=some (.slice o x.gone.length z):=fun a hh=>
    aS (ai.out.keep (w':=a) (hh.block f.heap.size ai.out.lt (by have:=aN.out;show ¬f.heap.size=u;omega)))
   have q0:=fun a hh=>(Q a hh).1
   have q1:=fun a hh=>(Q a hh).2.1
   have q2:=fun a hh=>(Q a hh).2.2
   clear Q;have aW:IntKind.i64.wrap (n:Int)=(n:Int):=af _ (by omega);apply bM;rfl;intro a hC;go_simp;exact aF;clear q0 q1 q2 aW;obtain⟨a1,p1,a2,p2,a3,p3,c,-⟩:=X.out.box;have z0:=(eO c).1;have zf:=c.free 0;refine cU rfl rfl (fun Y C=>?_);go_simp;obtain⟨i,P⟩:=aQ (b.setCell ⟨u,0,none⟩ (.int .i64 (n:Int)));rw[<- P];have h4:=(X.out.keep ((Below.refl b.heap.size b).drew)).setD (d:=n) (w':=i.drew) (by rw[P];rfl);have ax:cG (NJ i.drew) i.drew (.slice l x.seen.length s) (.slice m x.items.length y) (.slice o x.gone.length z) x:=aJ.out.past (w':=i.drew) X.out (show aT (fun q=>q=u) b i by rw[P];exact(aT.refl (fun q=>q=u) b).setCell (p:=⟨u,0,none⟩) (.inl rfl) _);have V:=ae h4;have aK:=ae ax;refine⟨h4.2,C _ _ ?_⟩;clear C Y h4 ax P c z0 zf;go_simp;apply bM;rfl;intro a hC;go_simp;exact aF;obtain⟨a1,p1,a2,p2,a3,p3,c,-⟩:=V.out.1.box;have c:Blk i u _ _:=c;obtain⟨-,z1,z2,z3,-⟩:=eO c;have f1:=c.free 1;have f2:=c.free 2;have f3:=c.free 3;refine cZ rfl rfl rfl (fun Y C=>?_);go_simp;obtain⟨w5,ab⟩:=aQ (((i.setCell ⟨u,1,none⟩ (.slice l x.seen.length s)).setCell ⟨u,2,none⟩ (.slice m x.items.length y)).setCell ⟨u,3,none⟩ (.slice o x.gone.length z));rw[<- ab];have h5:=V.out.1.setM aK.out (w':=w5.drew) (by rw[ab];rfl)
   have aL:=ae (show g7 w jk u M U r (.returned (.bool (G == 0))) w5.drew from by
    have aV:eM (0::r)=if G=0 then some (n,x) else none:=by
     unfold eM;dsimp only;rw[if_pos rfl,aZ.out];dsimp only;rw[if_pos h8,HR.out]
    have an:aT (fun q=>q=u) w w5.drew:=((aT.of_below (F:=fun q=>q=u) aG.out.drew).trans V.out.2 fun _ hi=>.inl hi).trans h5.2 fun _ hi=>.inl hi
    unfold g7;rw[aV]
    by_cases H:G=0
    ·rw[if_pos H,H];exact⟨rfl,h5.1,an⟩
    ·rw[if_neg H]
     exact⟨by rw[beq_eq_false_iff_ne.2 H],an⟩)
   refine C _ _ ?_;clear C Y c z1 z2 z3 f1 f2 f3 ab h5;go_simp;apply bM;rfl;intro a hC;go_simp;exact aF;refine dt ?_;go_wp2_with fail;exact bodyPost_ret (v:=.bool (G == 0)) (by simp[results,results50,go_sem]) rfl aL.out
end
section
open Go.Lib
attribute [local go_sem] opC upC told bG br bH bt bw bI bJ
theorem Cj{k:bR}{r:List UInt8}(h:rdT l=some (k,r)):k.length <= l.length /\ r.length <= l.length:=by
 unfold rdT at h;cases e:rdF l 9 with
 |none=>rw[e] at h;cases h
 |some p=>
  obtain⟨n,t⟩:=p;rw[e] at h;dsimp only at h;have c:=jr e
  by_cases a:n <= t.length
  ·rw[if_pos a] at h;obtain⟨rfl,rfl⟩:=Prod.mk.inj (Option.some.inj h);rw[List.length_take,List.length_drop];omega
  ·rw[if_neg a] at h;cases h
theorem wV:∀(n:Nat)(b:List UInt8)(l:List bR)(r:List UInt8),jw n b=some (l,r) -> l.length=n /\ ∀k∈l,k.length <= b.length
 |0,b,l,r,h=>by
  obtain⟨rfl,rfl⟩:=Prod.mk.inj (Option.some.inj h);exact⟨rfl,nofun⟩
 |n+1,b,l,r,h=>by
  unfold jw at h;cases e:rdT b with
  |none=>rw[e] at h;cases h
  |some p=>
   obtain⟨k,t⟩:=p;rw[e] at h;dsimp only at h;cases a:jw n t with
   |none=>rw[a] at h;cases h
   |some q=>
    obtain⟨i,j⟩:=q;rw[a] at h;obtain⟨rfl,rfl⟩:=Prod.mk.inj (Option.some.inj h);obtain⟨f,g⟩:=wV n t i j a;have d:=Cj e;refine⟨by rw[aD,f],fun x c=>?_⟩;rcases List.mem_cons.1 c with rfl|c
    ·exact d.1
    ·exact au (g x c) d.2
theorem uM{r:List UInt8}(h:rdL l=some (y,r)):y.length <= l.length /\ ∀k∈y,k.length <= l.length:=by
 unfold rdL at h;cases e:rdF l 9 with
 |none=>rw[e] at h;cases h
 |some p=>
  obtain⟨n,t⟩:=p;rw[e] at h;dsimp only at h;have g:=jr e
  by_cases a:n <= t.length
  ·rw[if_pos a] at h;obtain⟨f,c⟩:=wV n t y r h;exact⟨by omega,fun k d=>by have:=c k d;omega⟩
  ·rw[if_neg a] at h;cases h
def DR:List iw:=[.steady 0,.steady 1,.steady 2,.steady 3,.steady 4,.steady 5,.steady 6,.steady 7,.steady 8,.steady 9,.move 10,.steady 11,.steady 12,.steady 13,.float 14,.fixed 15,.steady 16]
def jG(w:World)(b:JK)(u:Nat)(M:MD)(U:MU)(o:Option aU)(e:Ending)(a:World):Prop:=match o with
 |none=>e=.returned (.bool false) /\ aT (fun q=>q=u) w a
 |some x=>e=.returned (.bool true) /\ UAt a b u M ⟨U.dev,x,U.J⟩ /\ aT (fun q=>q=u) w a
theorem wW{Y:Nat}{op:aU -> Int -> List bR -> aU×Int}(bB:∀a s,(callFunc Y a).run aE s=.ok (.enter Y a) s)(ao:un Y op)(w:World)(hT:eJ w)(h3:4 <= w.heap.size)(jk:JK)(u:Nat)(M:MD)(U:MU)(h:UAt w jk u M U)(hd:U.dev<8)(hv:bp U.m=true)(F:aX)(V:Option Addr)(X:Nat)(b:List UInt8)(hB:aO F w (.slice V b.length X) b)(hF:∀q,F q -> q<w.heap.size)(hl:b.length <= 400000):
 Calls aE 101 #[.pointer (some ⟨u,0,none⟩),.slice V b.length X,.func (.func Y) #[] #[]] w (jG w jk u M U (match rdL b with|some (l,[])=>okR (op U.m U.dev l)|_=>none)):=by
 have hL:=BJ w F V X b 0 hB hF (Nat.zero_le _) hl;rw[List.drop_zero] at hL;obtain⟨o,g⟩:=aH (rdL b);rw[g] at hL⊢;have HL:=ae (show Calls aE 159 #[.slice V b.length X,.int .i64 0] w (ur w b.length o) from hL);have ao:=ae ao;have HU:=ae h;have aN:=ae g;have Hv:=ae hv;have HT:=ae hT;have aR:=ae hl;clear hL h hB hF hv hT hl
 go_enter func101,ntmps101
 go_wp2_with fail;refine HL.out.mono ?_;rintro e f J;clear HL;cases o with
 |none=>
  obtain⟨N,rfl⟩:=J;have A:=ae N;clear N;go_wp2_with fail;exact bodyPost_ret (v:=.bool false) (by simp[results,results101,go_sem]) rfl ⟨rfl,aT.of_below A.out⟩
 |some p=>
  obtain⟨l,r⟩:=p;obtain⟨N,a,c,rfl,bd⟩:=J
  have a9:0<b.length:=by
   cases b with
   |nil=>
    have bs:(none:Option (List bR×List UInt8))=some (l,r):=aN.out;cases bs
   |cons y t=>simp
  have A:=ae N;have aY:=ae bd;clear N bd;cases r with
  |cons y r'=>
   obtain⟨q,R⟩:=aH (b.length-(y::r').length);have bD:¬(q:Int)=(b.length:Int):=by rw[aD] at R;omega
   rw[R];clear R a9;go_wp2_with fail;exact bodyPost_ret (v:=.bool false) (by simp[results,results101,go_sem]) rfl ⟨rfl,aT.of_below A.out⟩
  |nil=>
   rw[show b.length-([]:List UInt8).length=b.length from rfl];have ag:=HU.out.keep A.out;have P:=dD Hv.out;have ar:=dr Hv.out;obtain⟨a1,p1,a2,p2,a3,p3,an,hm⟩:=ag.box;obtain⟨m,ay⟩:=aH U.m;obtain⟨d,ba⟩:=aH U.dev;have aW:=ae (uM aN.out);have be:=(Rows.of_owns aY.out).mono (G:=fun q=>q<f.heap.size) fun q R _=>R.2
   obtain⟨n,hn⟩:=aH l.length;obtain⟨bl,al⟩:=aH b.length;obtain⟨RR,aa⟩:=aH (op U.m U.dev l);have bo:=ae (show okR (op U.m U.dev l)=okR RR by rw[aa]);rw[ay,ba] at an aa;rw[ay] at hm P ar;obtain⟨c0,c1,c2,c3,c4⟩:=eO an;have Hm:=ae hm;have Hk:=ae P;have aV:=ae ar;have bj:=ae aa;have Hn:=ae hn;have bA:=ae al;have bq:=ae be;have bk:=ae ag;rw[hn,al];clear hm P ar aa hn be ag an c4 ay ba aY;obtain⟨x,D⟩:=RR;have S:∀q x,f.cell? q=some x -> ∀s,dc f.heap.size 37 f.drew s -> s.cell? q=some x:=fun q x hc s hh=>uL hc rfl hh
   have bt:=S _ _ c0;have bu:=S _ _ c1;have bv:=S _ _ c2;have bw:=S _ _ c3;clear c0 c1 c2 c3 S a9 al;go_wp2_with fail
   skip
   refine lD (dc f.heap.size 37) (uK f.heap.size 37 3) [14] DR 60 (by kernel_rfl) (by kernel_rfl) (j2 _ _) (eB _ _) (py #[.slice none 0 0,.slice none 0 0,.slice none 0 0] rfl (aq _) (fun j hj=>?_) (fun i j hi hj bC=>?_)) ?_
   ·obtain rfl:j=14:=by simpa using hj
    exact⟨_,rfl,rfl,fun a W=>by go_simp⟩
   ·simp at hi hj;omega
   unfold DR;apply gw;rfl;intro s J;go_simp;(repeat (simp(disch:=omega) only[af,aj,ap,ah,am,if_pos];go_simp));exact aF;refine uJ rfl rfl (fun I a4 H B=>?_);go_simp;have C:Below f.heap.size f I:=a4.belD rfl;have aI:Below w.heap.size w I:=A.out.trans (C.mono A.out.size);have K:=ao.out I (cd HT.out h3 aI) (au h3 aI.size) _ (.agg #[.slice a1 m.seen.length p1,.slice a2 m.items.length p2,.slice a3 m.gone.length p3]) m ⟨_,_,_,rfl,Hm.out.keep (w':=I) fun q _ ax=>C.block q ax⟩ Hk.out.1 Hk.out.2 (by have:=aV.out;omega) (by have:=aV.out;omega) (d:Int) _ (.slice a l.length c) l (bq.out.keep (w':=I) fun q _ ax=>C.block q ax) (by have:=aW.out.1;have:=aR.out;omega) (fun k P=>by have:=aW.out.2 k P;have:=aR.out;omega);rw[bj.out,Hn.out] at K;have ad:=ae C.size;refine K.mono ?_;rintro e bx ⟨⟨r1,rfl,g,ak⟩,ai⟩;refine⟨_,rfl,dc.of_later ai,B _ _ ?_⟩;clear B H K bt bu bv bw;go_simp;obtain⟨t1,t2,t3,rfl,g⟩:=g;dsimp only at g ak;obtain⟨n1,m1,rfl⟩:=aK g.seen;obtain⟨n2,m2,rfl⟩:=aK g.items;obtain⟨n3,m3,rfl⟩:=aK g.gone;have a5:Below f.heap.size f bx:=C.trans (ai.mono C.size);have ab:=ae a5;have T:=ae g;have aM:=ae ak;clear a5 g ak ai C a4 aI;apply gw;rfl;intro s J;go_simp;(repeat (simp(disch:=omega) only[af,aj,ap,ah,am,if_pos];go_simp));exact aF;refine nB rfl (fun vO Wd L hZ K H B=>?_);obtain⟨Om,LO,rfl,E,z,a0⟩:=hZ;refine B _ _ ?_;clear B H K;go_simp
   obtain⟨x0,x1,x2,rfl⟩:∃x0 x1 x2,LO = [x0,x1,x2]:=by
    match LO,a0 with
    |[x0,x1,x2],_=>exact⟨x0,x1,x2,rfl⟩
   have a7:Below f.heap.size f Wd:=ab.out.trans (L.below ab.out.size);obtain⟨w6,aG,a8,a6⟩:=dJ z a7 E (.slice n1 x.seen.length m1) (.slice n2 x.items.length m2) (.slice n3 x.gone.length m3)
   have Q:dc f.heap.size 37 Wd w6:=by
    rw[aG];exact eB _ _ _ _ _ (eB _ _ _ _ _ (dc.set z E 0 _) (dc.set (z.set 0 _) E 1 _)) (dc.set ((z.set 0 _).set 1 _) E 2 _)
   have bb:dW w6 f.heap.size (.slice n1 x.seen.length m1) (.slice n2 x.items.length m2) (.slice n3 x.gone.length m3) x:=
    ⟨bP (Q.own (L.own T.out.seen (by decide)) (by decide)) ad.out,bP (Q.own (L.own T.out.items (by decide)) (by decide)) ad.out,bP (Q.own (L.own T.out.gone (by decide)) (by decide)) ad.out⟩
   have bz:=ae E;have bi:=ae bb;have bh:=ae a8;have bg:=ae aM.out;obtain⟨y0,y1,y2⟩:=aS z;have z0:=z.free 0;have z1:=z.free 1;have z2:=z.free 2;have aJ:=ae a6;have aP:=ae Q;have aZ:=ae aG;clear a6 Q aG a8 a7 L z a0 T aM ab bb;refine nC rfl rfl (fun H B=>?_);go_simp;rw[<- aZ.out];refine⟨aP.out,B _ _ ?_⟩;clear B H y0 y1 y2 z0 z1 z2 aP aZ E;go_simp;apply gw;rfl;intro s J;go_simp;(repeat (simp(disch:=omega) only[af,aj,ap,ah,am,if_pos];go_simp));exact aF;refine rI ?_;have aL:=ae (bk.out.keep aJ.out);have bm:=ae (bi.out.nj bg.out);have bf:=ae (show Below w.heap.size w w6 from A.out.trans (aJ.out.mono A.out.size));obtain⟨b1,q1,b2,q2,b3,q3,O,-⟩:=aL.out.box;obtain⟨-,z1,z2,z3,-⟩:=eO O;have f1:=O.free 1;have f2:=O.free 2;have f3:=O.free 3;obtain⟨o0,o1,o2⟩:=aS bh.out;obtain⟨w7,az⟩:=aQ (((w6.setCell ⟨u,1,none⟩ (.slice n1 x.seen.length m1)).setCell ⟨u,2,none⟩ (.slice n2 x.items.length m2)).setCell ⟨u,3,none⟩ (.slice n3 x.gone.length m3));have h7:=aL.out.setM bm.out az
   have bn:=ae (show jG w jk u M U (okR (x,D)) (.returned (.bool (D == 0))) w7 from by
    have bc:aT (fun q=>q=u) w w7:=(aT.of_below (F:=fun q=>q=u) bf.out).trans h7.2 fun _ hi=>.inl hi
    by_cases Z:D=0
    ·rw[show okR (x,D)=some x from if_pos Z,Z];exact⟨rfl,h7.1,bc⟩
    ·rw[show okR (x,D)=none from if_neg Z]
     exact⟨by rw[beq_eq_false_iff_ne.2 Z],bc⟩)
   have br:=ae az;clear az h7 O;go_wp2_with fail;rw[bo.out];rw[<- br.out];exact bodyPost_ret (v:=.bool (D == 0)) (by simp[results,results101,go_sem]) rfl bn.out
end
section
open Go.Lib
attribute [local go_sem] opC upC told bG br bH bt bw bI bJ
theorem jG.bool{w:World}{a:JK}{u:Nat}{M:MD}{U:MU}{o:Option aU}{e:Ending}{b:World}(h:jG w a u M U o e b):e=.returned (.bool o.isSome):=by
 cases o with
 |none=>exact h.1
 |some x=>exact h.1
def DS(f:Nat)(k:UInt8):Prop:=
 ∀(w:World)(i:eJ w)(e:4 <= w.heap.size)(d:JK)(u:Nat)(M:MD)(U:MU)(h:UAt w d u M U)(j:U.dev<8)(n:bp U.m=true)(F:aX)(a:Option Addr)(c:Nat)(b:List UInt8)(g:aO F w (.slice a b.length c) b)(hF:∀q,F q -> q<w.heap.size)(l:b.length <= 400000),
  Calls aE f #[.pointer (some ⟨u,0,none⟩),.slice a b.length c] w (jG w d u M U (dF U.dev U.m (k::b)))
theorem DT:DS 51 1 /\ DS 52 2:=by
 constructor<;>intro w f s t u M U h g n F p q b d hF j
 case' left=>
  have i:dF U.dev U.m (1::b)=(match rdL b with|some (l,[])=>okR (fK U.m U.dev l)|_=>none):=by unfold dF;dsimp only;rw[if_neg (by decide),if_pos rfl];rfl
  obtain⟨o,a⟩:=aH (dF U.dev U.m (1::b));rw[a];have c:=ae (wW (fun _ _=>by go_simp) vU w f s t u M U h g n F p q b d hF j)
 case' right=>
  have i:dF U.dev U.m (2::b)=(match rdL b with|some (l,[])=>okR (cH U.m U.dev l)|_=>none):=by unfold dF;dsimp only;rw[if_neg (by decide),if_neg (by decide),if_pos rfl];rfl
  obtain⟨o,a⟩:=aH (dF U.dev U.m (2::b));rw[a];have c:=ae (wW (fun _ _=>by go_simp) pX w f s t u M U h g n F p q b d hF j)
 all_goals
  rw[i] at a;have v:=ae a;clear d hF j h g n f i a
  first|go_enter func51,ntmps51|go_enter func52,ntmps52
  go_wp2_with fail;refine c.out.mono ?_;rintro e y k
  obtain⟨r,rfl⟩:∃r,e=.returned (.bool r):=⟨_,k.bool⟩
  have x:=ae k;clear c k;go_wp2_with fail
  go_ret
  rw[<- v.out];exact x.out
theorem lE{b:List UInt8}(h:(fi b).2=0):bp (fi b).1=true:=by
 unfold fi at h⊢;split at h
 ·rename_i a;rw[if_pos a];exact a.2
 ·exact absurd h (show ¬(5:Int)=0 by decide)
theorem yM(hT:eJ w)(h3:4 <= w.heap.size)(jk:JK)(u:Nat)(M:MD)(U:MU)(h:UAt w jk u M U)(T:bp U.m=true)(F:aX)(av:Option Addr)(ag:Nat)(b:List UInt8)(hB:aO F w (.slice av b.length ag) b)(hF:∀q,F q -> q<w.heap.size)(hl:b.length <= 400000):
 Calls aE 53 #[.pointer (some ⟨u,0,none⟩),.slice av b.length ag] w (jG w jk u M U (dF U.dev U.m (3::b))):=by
 have B:=nf w hT h3 F av ag b hB hF hl;unfold uq at B;have S:=lE (b:=b);obtain⟨R,hR⟩:=aH (fi b);rw[hR] at B S;obtain⟨d,P⟩:=R;dsimp only at B S
 have a8:dF U.dev U.m (3::b)=if P=0 then okR (dN U.m d) else none:=by
  unfold dF;dsimp only;rw[if_pos rfl,hR]
 rw[a8];obtain⟨O,hO⟩:=aH (if P=0 then okR (dN U.m d) else none);rw[hO];have HO:=ae hO;have aJ:=ae B;have HU:=ae h;have Hv:=ae T;have HT:=ae hT;have aN:=ae S;clear B h T hT S hB hF hR a8 hO
 go_enter func53,ntmps53
 go_wp2_with fail;refine aJ.out.mono ?_;rintro e J ⟨v,rfl,T,ak⟩;clear aJ;obtain⟨s1,s2,s3,rfl,I⟩:=T;obtain⟨g1,K,rfl,-⟩:=I.seen.shape;obtain⟨g2,L,rfl,-⟩:=I.items.shape;obtain⟨g3,y3,rfl,-⟩:=I.gone.shape;obtain⟨c,V⟩:=aQ (J.alloc (.cells #[.slice g1 d.seen.length K,.slice g2 d.items.length L,.slice g3 d.gone.length y3] 37));have al:Below J.heap.size J c:=by rw[V];exact aI _ _
 have f:Blk c J.heap.size [.slice g1 d.seen.length K,.slice g2 d.items.length L,.slice g3 d.gone.length y3] 37:=by rw[V];exact Blk.new _ _ _
 have bb:=((I.mono (G:=fun q=>q<J.heap.size) fun q _ k=>k).keep (w':=c) fun q _ k=>al.block q k).mono (G:=fun q=>q<c.heap.size) fun q _ k=>k
 have aW:Below w.heap.size w c:=ak.trans (al.mono ak.size);have bk:=ae bb;have bg:=ae f;have aU:=ae V;have s:=ae aW;clear I al f bb aW V ak
 by_cases g:P=0
 ·have bc:=aN.out g;subst g;have aP:=ae (dD bc);have ai:=HU.out.keep s.out;have hk:=dD Hv.out;obtain⟨a1,p1,a2,p2,a3,p3,ar,hm⟩:=ai.box;obtain⟨m,a7⟩:=aH U.m;obtain⟨RR,Q⟩:=aH (dN U.m d);have ab:=ae (show O=okR RR by rw[<- Q,<- HO.out];rfl);rw[a7] at ar Q hm hk;obtain⟨c0,c1,c2,c3,c4⟩:=eO ar;obtain⟨d0,d1,d2⟩:=aS bg.out;have Hm:=ae hm;have Hk:=ae hk;have bi:=ae Q;have bj:=ae ai;clear hm hk Q ai ar c0 c4 a7 bc aN;obtain⟨x,t⟩:=RR;have r:∀q x,c.cell? q=some x -> ∀l,dc c.heap.size 37 c.drew l -> l.cell? q=some x:=fun q x hc l hh=>uL hc rfl hh
  have bo:=r _ _ c1;have bq:=r _ _ c2;have br:=r _ _ c3;have bs:=r _ _ d0;have bt:=r _ _ d1;have bu:=r _ _ d2;clear c1 c2 c3 d0 d1 d2 r;go_wp2_with fail;rw[<- aU.out];refine lD (dc c.heap.size 37) (uK c.heap.size 37 3) [9] DQ 60 (by kernel_rfl) (by kernel_rfl) (j2 _ _) (eB _ _) (py #[.slice none 0 0,.slice none 0 0,.slice none 0 0] rfl (aq _) (fun j hj=>?_) (fun i j hi hj bz=>?_)) ?_
  ·obtain rfl:j=9:=by simpa using hj
   exact⟨_,rfl,rfl,fun a W=>by go_simp⟩
  ·simp at hi hj;omega
  unfold DQ;apply gw;rfl;intro l hC;go_simp;(repeat (simp(disch:=omega) only[af,aj,ap,ah,am,if_pos];go_simp));exact aF;refine uJ rfl rfl (fun A aZ z n=>?_);go_simp;have p:Below c.heap.size c A:=aZ.belD rfl;have az:Below w.heap.size w A:=s.out.trans (p.mono s.out.size);have C:=yE A (cd HT.out h3 az) (au h3 az.size) _ _ (.agg #[.slice a1 m.seen.length p1,.slice a2 m.items.length p2,.slice a3 m.gone.length p3]) (.agg #[.slice g1 d.seen.length K,.slice g2 d.items.length L,.slice g3 d.gone.length y3]) m d ⟨_,_,_,rfl,Hm.out.keep (w':=A) fun q _ k=>p.block q k⟩ ⟨_,_,_,rfl,bk.out.keep (w':=A) fun q _ k=>p.block q k⟩ Hk.out.1 Hk.out.2 aP.out.1 aP.out.2;rw[bi.out] at C;have ad:=ae p.size;refine C.mono ?_;rintro e bv ⟨⟨r1,rfl,o,ao⟩,an⟩;refine⟨_,rfl,dc.of_later an,n _ _ ?_⟩;clear n z C bo bq br bs bt bu;go_simp;obtain⟨t1,t2,t3,rfl,o⟩:=o;dsimp only at o ao;obtain⟨n1,m1,rfl⟩:=aK o.seen;obtain⟨n2,m2,rfl⟩:=aK o.items;obtain⟨n3,m3,rfl⟩:=aK o.gone;have a0:Below c.heap.size c bv:=p.trans (an.mono p.size);have aa:=ae a0;have N:=ae o;have aM:=ae ao;clear a0 o ao an p aZ az;apply gw;rfl;intro l hC;go_simp;(repeat (simp(disch:=omega) only[af,aj,ap,ah,am,if_pos];go_simp));exact aF;refine nB rfl (fun vO Wd D hZ C z n=>?_);obtain⟨Om,LO,rfl,y,f,aY⟩:=hZ;refine n _ _ ?_;clear n z C;go_simp
  obtain⟨Y,Z,d,rfl⟩:∃Y Z d,LO = [Y,Z,d]:=by
   match LO,aY with
   |[Y,Z,d],_=>exact⟨Y,Z,d,rfl⟩
  have a5:Below c.heap.size c Wd:=aa.out.trans (D.below aa.out.size);obtain⟨X,ay,a6,a4⟩:=dJ f a5 y (.slice n1 x.seen.length m1) (.slice n2 x.items.length m2) (.slice n3 x.gone.length m3)
  have H:dc c.heap.size 37 Wd X:=by
   rw[ay];exact eB _ _ _ _ _ (eB _ _ _ _ _ (dc.set f y 0 _) (dc.set (f.set 0 _) y 1 _)) (dc.set ((f.set 0 _).set 1 _) y 2 _)
  have a9:dW X c.heap.size (.slice n1 x.seen.length m1) (.slice n2 x.items.length m2) (.slice n3 x.gone.length m3) x:=
   ⟨bP (H.own (D.own N.out.seen (by decide)) (by decide)) ad.out,bP (H.own (D.own N.out.items (by decide)) (by decide)) ad.out,bP (H.own (D.own N.out.gone (by decide)) (by decide)) ad.out⟩
  have bw:=ae y;have bh:=ae a9;have bf:=ae a6;have be:=ae aM.out;obtain⟨y0,K,L⟩:=aS f;have z0:=f.free 0;have z1:=f.free 1;have z2:=f.free 2;have aG:=ae a4;have aR:=ae H;have aV:=ae ay;clear a4 H ay a6 a5 D f aY N aM aa a9;refine nC rfl rfl (fun z n=>?_);go_simp;rw[<- aV.out];refine⟨aR.out,n _ _ ?_⟩;clear n z y0 K L z0 z1 z2 aR aV y;go_simp;apply gw;rfl;intro l hC;go_simp;(repeat (simp(disch:=omega) only[af,aj,ap,ah,am,if_pos];go_simp));exact aF;refine rI ?_;have aL:=ae (bj.out.keep aG.out);have bl:=ae (bh.out.nj be.out);have bd:=ae (show Below w.heap.size w X from s.out.trans (aG.out.mono s.out.size));obtain⟨b1,q1,b2,q2,b3,q3,E,-⟩:=aL.out.box;obtain⟨-,z1,z2,z3,-⟩:=eO E;have f1:=E.free 1;have f2:=E.free 2;have f3:=E.free 3;obtain⟨o0,o1,o2⟩:=aS bf.out;obtain⟨w7,ax⟩:=aQ (((X.setCell ⟨u,1,none⟩ (.slice n1 x.seen.length m1)).setCell ⟨u,2,none⟩ (.slice n2 x.items.length m2)).setCell ⟨u,3,none⟩ (.slice n3 x.gone.length m3));have h7:=aL.out.setM bl.out ax
  have bm:=ae (show jG w jk u M U (okR (x,t)) (.returned (.bool (t == 0))) w7 from by
   have ba:aT (fun q=>q=u) w w7:=(aT.of_below (F:=fun q=>q=u) bd.out).trans h7.2 fun _ hi=>.inl hi
   by_cases g:t=0
   ·rw[show okR (x,t)=some x from if_pos g,g];exact⟨rfl,h7.1,ba⟩
   ·rw[show okR (x,t)=none from if_neg g]
    exact⟨by rw[beq_eq_false_iff_ne.2 g],ba⟩)
  have bn:=ae ax;clear ax h7 E;go_wp2_with fail;rw[ab.out];rw[<- bn.out];exact bodyPost_ret (v:=.bool (t == 0)) (by simp[results,results53,go_sem]) rfl bm.out
 ·have bx:¬P=0:=g;have ab:=ae (show O=none by rw[<- HO.out];exact if_neg g);clear g HO;go_wp2_with fail;rw[<- aU.out,ab.out];exact bodyPost_ret (v:=.bool false) (by simp[results,results53,go_sem]) rfl ⟨rfl,aT.of_below s.out⟩
end
section
open Go.MapKept
theorem rK:aE.underlying 103=some (.map 5 40):=by kernel_rfl
theorem k7:aE.underlying 5=some (.int .u8):=by kernel_rfl
theorem Ck(k:Int):IsKey (.int .u8) (.int .u8 k):=by simp[IsKey]
theorem Ee:(Instr.makeMap 103 none).run aE w=.ok (.map (some w.heap.size)) (w.alloc (.map #[] 0)):=by
 simp[Instr.makeMap,Result.andThen]
theorem Cl{w:World}{a:Array MapEntry}(b:w.heap[i]?=some (.map a j))(k:Int)(f:Value)(h:Instr.findNow (.int .u8) (.int .u8 k) a.toList 0=some none):
 (Instr.mapUpdate 103 (.map (some i)) (.int .u8 k) f).run aE w=.ok () { w with heap:=w.heap.setIfInBounds i (.map (a.push ⟨.int .u8 k,f,j⟩) (j+1)) }:=by
 simp[Instr.mapUpdate,run_underlying rK,MapKept.run_getObj_map b,run_checkKey k7 (Ck k),run_findKey k7 h,run_setObj_map _ b,Result.andThen]
def pA(a b c:Value):Obj:=.map #[⟨.int .u8 1,a,0⟩,⟨.int .u8 2,b,1⟩,⟨.int .u8 3,c,2⟩] 3
theorem AB(f1 f2 d:Value):∃w1 c e,(Instr.mapUpdate 103 (.map (some w.heap.size)) (.int .u8 1) f1).run aE (w.alloc (.map #[] 0))=.ok () w1 /\
 (Instr.mapUpdate 103 (.map (some w.heap.size)) (.int .u8 2) f2).run aE w1=.ok () c /\
 (Instr.mapUpdate 103 (.map (some w.heap.size)) (.int .u8 3) d).run aE c=.ok () e /\ Below w.heap.size w e /\ e.heap[w.heap.size]?=some (pA f1 f2 d):=by
 have h:(w.alloc (.map #[] 0)).heap[w.heap.size]?=some (.map #[] 0):=(heap_alloc w _).1;have f:=Cl h 1 f1 rfl
 have j:=(heap_set (o':=.map ((#[]:Array MapEntry).push ⟨.int .u8 1,f1,0⟩) (0+1)) h)
 obtain⟨w1,a⟩:=aQ ({ w.alloc (.map #[] 0) with heap:=(w.alloc (.map #[] 0)).heap.setIfInBounds w.heap.size (.map ((#[]:Array MapEntry).push ⟨.int .u8 1,f1,0⟩) (0+1)) });have k:w1.heap[w.heap.size]?=some (.map #[⟨.int .u8 1,f1,0⟩] 1):=by rw[a];exact j.1
 rw[<- a] at f;have g:=Cl k 2 f2 rfl
 have l:=(heap_set (o':=.map ((#[⟨.int .u8 1,f1,0⟩]:Array MapEntry).push ⟨.int .u8 2,f2,1⟩) (1+1)) k)
 obtain⟨c,b⟩:=aQ ({ w1 with heap:=w1.heap.setIfInBounds w.heap.size (.map ((#[⟨.int .u8 1,f1,0⟩]:Array MapEntry).push ⟨.int .u8 2,f2,1⟩) (1+1)) });have m:c.heap[w.heap.size]?=some (.map #[⟨.int .u8 1,f1,0⟩,⟨.int .u8 2,f2,1⟩] 2):=by rw[b];exact l.1
 rw[<- b] at g;have o:=Cl m 3 d rfl
 have n:=(heap_set (o':=.map ((#[⟨.int .u8 1,f1,0⟩,⟨.int .u8 2,f2,1⟩]:Array MapEntry).push ⟨.int .u8 3,d,2⟩) (2+1)) m)
 refine⟨w1,c,_,f,g,o,?_,n.1⟩;refine⟨by rw[b,a];rfl,by rw[b,a];rfl,by rw[b,a];rfl,?_,fun i hi=>?_⟩
 ·rw[b,a];simp
 ·show(c.heap.setIfInBounds w.heap.size _)[i]?=_;rw[n.2 i (by omega),b];show(w1.heap.setIfInBounds w.heap.size _)[i]?=_;rw[l.2 i (by omega),a];show((w.alloc (.map #[] 0)).heap.setIfInBounds w.heap.size _)[i]?=_;rw[j.2 i (by omega)];exact(heap_alloc w _).2 i hi
theorem uN{a:Array MapEntry}(b:W.heap[i]?=some (.map a j))(k:Int)(c:Nat)(f:Value)(h:Instr.findNow (.int .u8) (.int .u8 k) a.toList 0=some (some (c,f))):
 (Instr.lookup 103 (.map (some i)) (.int .u8 k) true).run aE W=.ok (.tuple #[f,.bool true]) W:=by
 simp[Instr.lookup,run_underlying rK,MapKept.run_getObj_map b,run_checkKey k7 (Ck k),run_findKey k7 h,Result.andThen]
theorem Ef{a b c:Value}(d:W.heap[i]?=some (pA a b c)):(Instr.lookup 103 (.map (some i)) (.int .u8 1) true).run aE W=.ok (.tuple #[a,.bool true]) W:=uN d 1 0 a rfl
theorem Eg{b a c:Value}(d:W.heap[i]?=some (pA b a c)):(Instr.lookup 103 (.map (some i)) (.int .u8 2) true).run aE W=.ok (.tuple #[a,.bool true]) W:=uN d 2 1 a rfl
theorem Eh{b c a:Value}(d:W.heap[i]?=some (pA b c a)):(Instr.lookup 103 (.map (some i)) (.int .u8 3) true).run aE W=.ok (.tuple #[a,.bool true]) W:=uN d 3 2 a rfl
theorem Cm:(aE.info? 40).map (·.zero)=some (some (.nilFunc)):=by kernel_rfl
theorem Ei{a b c:Value}(o:W.heap[j]?=some (pA a b c))(k:Int)(l:k≠1)(m:k≠2)(n:k≠3):∃z,(Instr.lookup 103 (.map (some j)) (.int .u8 k) true).run aE W=.ok (.tuple #[z,.bool false]) W:=by
 have h:Instr.findNow (.int .u8) (.int .u8 k) [⟨.int .u8 1,a,0⟩,⟨.int .u8 2,b,1⟩,⟨.int .u8 3,c,2⟩] 0=some none:=by
  have d:(k == 1)=false:=beq_eq_false_iff_ne.2 l;have f:(k == 2)=false:=beq_eq_false_iff_ne.2 m;have g:(k == 3)=false:=beq_eq_false_iff_ne.2 n;simp[Instr.findNow,Instr.sameNow,d,f,g]
 have q:(zeroValue 40).run aE W=.ok .nilFunc W:=by
  cases e:aE.info? 40 with
  |none=>have:=Cm;rw[e] at this;cases this
  |some i=>
   have:=Cm;rw[e] at this;simp at this;simp[zeroValue,typeInfo,e,this,Result.andThen]
 have p:W.heap[j]?=some (.map #[⟨.int .u8 1,a,0⟩,⟨.int .u8 2,b,1⟩,⟨.int .u8 3,c,2⟩] 3):=o;exact⟨.nilFunc,by simp[Instr.lookup,run_underlying rK,MapKept.run_getObj_map p,run_checkKey k7 (Ck k),run_findKey k7 h,q,Result.andThen]⟩
end
theorem mO(h:b.length=60):dm (en b)=true:=by
 unfold dm en
 have e:bK (b++bZ (crc b)) 60=crc b:=by
  have:=jv b (crc b) [] (t6 b) 60 h.symm;simpa using this
 rw[e,List.take_append_of_le_length (by omega),List.take_of_length_le (by omega)];simp
theorem jf{p q:List UInt8}(h:j+4 <= p.length):bK (p++q) j=bK p j:=by
 have e:∀i,i<p.length -> (p++q).getD i 0=p.getD i 0:=fun i hi=>by
  rw[List.getD_eq_getElem?_getD,List.getElem?_append_left hi,<- List.getD_eq_getElem?_getD]
 unfold bK;rw[e _ (by omega),e _ (by omega),e _ (by omega),e _ (by omega)]
theorem wZ:dm (cP n)=true:=mO _ (by simp[dp,bZ])
theorem rL(a:n<4294967296):bK (cP n) 4=n:=by
 unfold cP en;rw[jf (by simp[dp,bZ])];exact jv dp n (List.replicate 52 0) a 4 rfl
theorem yN:(cP n).take 4=dp:=by
 simp[cP,en,dp]
theorem Du(a:n<4294967296):eH (cP n) (n%2)=true:=by
 simp[eH,wZ,yN,rL n a]
theorem uO(i:Nat):dm (cT n k b i)=true:=mO _ (by simp[bZ,eA])
theorem jh(i:Nat)(a:n<4294967296):bK (cT n k b i) 0=n:=by
 unfold cT en;rw[jf (by simp[bZ,eA]),aB,aB];have:=jv [] n (bZ k++(bZ (b.length-48*i)++kN (b.drop (48*i)))) a 0 rfl;simpa using this
theorem mF(i:Nat)(a:k<4294967296):bK (cT n k b i) 4=k:=by
 unfold cT en;rw[jf (by simp[bZ,eA]),aB];exact jv (bZ n) k _ a 4 rfl
theorem pB(i:Nat)(a:b.length<4294967296):bK (cT n k b i) 8=b.length-48*i:=by
 unfold cT en;rw[jf (by simp[bZ,eA])];exact jv (bZ n++bZ k) _ _ (by omega) 8 rfl
theorem yO(i:Nat):((cT n k b i).drop 12).take 48=kN (b.drop (48*i)):=by
 unfold cT en;have a:(bZ n++bZ k++bZ (b.length-48*i)).length=12:=by simp[bZ]
 rw[aB (bZ n++bZ k++bZ (b.length-48*i)),List.drop_append_of_le_length (by omega),List.drop_of_length_le (by omega),List.nil_append,List.take_append_of_le_length (by rw[eA];exact aq _),List.take_of_length_le (by rw[eA];exact aq _)]
theorem Cn(i:Nat)(c:n<4294967296)(d:k<4294967296)(a:b.length<4294967296):cD (cT n k b i) n k (b.length-48*i)=true:=by
 simp[cD,uO,jh n k b i c,mF n k b i d,pB n k b i a]
def rM(S:List (List UInt8))(g k p:Nat)(b:List UInt8):Prop:=∀j,j<takes b.length -> cN S g (p+j)=cT g k b j
theorem oJ{S:List (List UInt8)}{g k p:Nat}{b:List UInt8}(h:rM S g k p b)(c:g<4294967296)(d:k<4294967296)(a:b.length<4294967296):∀i,i <= takes b.length -> dx S g k p b.length i=true
 |0,_=>rfl
 |i+1,hi=>by
  simp only[dx,oJ h c d a i (by omega),Bool.true_and,h i (by omega),Cn g k b i c d a]
theorem tJ{S:List (List UInt8)}{g k p:Nat}{b:List UInt8}(h:rM S g k p b):∀i,i <= takes b.length -> 48*i <= b.length+48 -> (eq S g p i).take b.length=b.take (48*i) /\ (48*i <= b.length -> eq S g p i=b.take (48*i))
 |0,_,_=>by simp[eq]
 |i+1,hi,j=>by
  have f:=(tJ h i (by omega) (by omega)).2 (by omega)
  have e:eq S g p (i+1)=b.take (48*i)++kN (b.drop (48*i)):=by
   simp only[eq,f,h i (by omega),yO]
  have d:(b.take (48*i)).length=48*i:=by simp;omega
  have c:48*(i+1) <= b.length -> eq S g p (i+1)=b.take (48*(i+1)):=fun a=>by
   rw[e];unfold kN;rw[show 48-(b.drop (48*i)).length=0 by simp;omega,List.replicate_zero,List.append_nil,show 48*(i+1)=48*i+48 by omega,List.take_add]
  refine⟨?_,c⟩
  by_cases a:48*(i+1) <= b.length
  ·rw[c a,List.take_take,Nat.min_eq_right a]
  ·rw[e,List.take_append,d,List.take_of_length_le (by rw[d];omega)];unfold kN;rw[List.take_of_length_le (l:=b.drop (48*i)) (by simp;omega),List.take_append_of_le_length (by simp),List.take_of_length_le (l:=b.drop (48*i)) (by simp),List.take_append_drop,List.take_of_length_le (by omega)]
theorem xb{S:List (List UInt8)}(h:rM S i j o l)(n:o+takes l.length <= aW S.length)(c:i<4294967296)(d:j<4294967296)(m:l.length <= 65536):dd S i j o=some l:=by
 have e:=dy l.length;have f:takes l.length=max 1 ((l.length+47)/48):=rfl
 have a:bK (cN S i o) 8=l.length:=by
  have:=h 0 e;rw[Nat.add_zero] at this;rw[this,pB i j l 0 (by omega)];omega
 unfold dd;rw[if_neg (by omega)];dsimp only;rw[a,if_neg (by omega),if_pos (oJ h c d (by omega) _ (aq _)),(tJ h _ (aq _) (by omega)).1,List.take_of_length_le (by omega)]
theorem iJ{S:List (List UInt8)}(h:aW S.length <= o \/ ∀n,cD (cN S i o) i j n=false):dd S i j o=none:=by
 unfold dd
 by_cases a:aW S.length <= o
 ·rw[if_pos a]
 ·rw[if_neg a];have b:=h.resolve_left a;dsimp only;split
  ·rfl
  ·rw[if_neg];intro hh;have c:=dy (bK (cN S i o) 8);have:=iT S i j o (bK (cN S i o) 8) 1 (takes (bK (cN S i o) 8)-1) (by rw[show 1+(takes (bK (cN S i o) 8)-1)=takes (bK (cN S i o) 8) by omega];exact hh);simp[dx,b] at this
theorem rM.sub{S a:List (List UInt8)}{g k p:Nat}(h:rM S g k p l)(d:∀j,j<takes l.length -> cN a g (p+j)=cN S g (p+j)):rM a g k p l:=
 fun j c=>(d j c).trans (h j c)
theorem fw(L:List (List UInt8))(i:Nat)(h:i<L.length):aM (L.take (i+1))=aM (L.take i)+takes L[i].length:=by
 rw[List.take_succ_eq_append_getElem h,d9]
theorem ix(L:List (List UInt8))(i:Nat):aM (L.take i) <= aM L:=by
 have:aM L=aM (L.take i)+aM (L.drop i):=by
  unfold aM;rw[<- List.sum_append,<- List.map_append,List.take_append_drop]
 omega
structure Inv(S:List (List UInt8))(g:Nat)(L:List (List UInt8)):Prop where
 n8:8 <= S.length
 le:S.length <= 65536
 gen:g<4294967295
 room:aM L <= aW S.length
 lens:∀b∈L,b.length <= 65536
 recs:∀i (h:i<L.length),rM S g i (aM (L.take i)) L[i]
 stop:dd S g L.length (aM L)=none
 beyond:∀p,aM L <= p -> p<aW S.length -> dm (cN S g p)=true -> bK (cN S g p) 0=g -> bK (cN S g p) 4 <= L.length
 own:∀p,p<aW S.length -> dm (cN S g p)=true -> bK (cN S g p) 0 <= g
 other:∀p,p<aW S.length -> dm (cN S (g+1) p)=true -> bK (cN S (g+1) p) 0 <= g+1 /\ (bK (cN S (g+1) p) 0=g+1 -> bK (cN S (g+1) p) 4=0)
 head:S.getD (g%2) []=cP g
 head2:eH (S.getD ((g+1)%2) []) ((g+1)%2)=true -> bK (S.getD ((g+1)%2) []) 4<g
theorem Inv.recordsM_from{S:List (List UInt8)}{g:Nat}{L:List (List UInt8)}(h:Inv S g L):∀(d i f:Nat),L.length=i+d -> d<f -> dE S g f i (aM (L.take i))=L.drop i
 |0,i,f,hi,e=>by
  have m:=h.stop
  obtain⟨a,rfl⟩:∃a,f=a+1:=⟨f-1,by omega⟩
  rw[List.take_of_length_le (by omega),List.drop_of_length_le (by omega)];have:i=L.length:=by omega
  subst this;exact kw m _
 |d+1,i,f,hi,e=>by
  obtain⟨a,rfl⟩:∃a,f=a+1:=⟨f-1,by omega⟩
  have b:i<L.length:=by omega
  have l:=h.room;have o:=h.le;have n:=dB L;have c:=h.lens L[i] (aC b)
  have j:aM (L.take i)+takes L[i].length <= aW S.length:=by
   have:=ix L (i+1);rw[fw L i b] at this;omega
  have k:=xb (h.recs i b) j (by have:=h.gen;omega) (by unfold aW at l;omega) c;rw[kC k,<- fw L i b,Inv.recordsM_from h d (i+1) a (by omega) (by omega),List.drop_eq_getElem_cons b]
theorem Inv.genM{S:List (List UInt8)}{g:Nat}{L:List (List UInt8)}(h:Inv S g L):genM S=some g:=by
 have b:=h.head;have c:=h.head2;have f:=h.gen;have hi:=Du g (by omega);have d:=rL g (by omega);rcases(show g%2=0 \/ g%2=1 by omega) with e|e
 ·rw[e] at b hi;rw[show(g+1)%2=1 by omega] at c;unfold Go.Proofs.YtobjdpngnfbicaaGreatDoor.genM;simp only[b,hi,d];generalize S.getD 1 []=o at *
  by_cases a:eH o 1=true
  ·have:=c a;simp[a];omega
  ·simp[a]
 ·rw[e] at b hi;rw[show(g+1)%2=0 by omega] at c;unfold Go.Proofs.YtobjdpngnfbicaaGreatDoor.genM;simp only[b,hi,d];generalize S.getD 0 []=o at *
  by_cases a:eH o 0=true
  ·have:=c a;simp[a];omega
  ·simp[a]
theorem Inv.opened{L:List (List UInt8)}(h:Inv N.S i L)(b:N.down=false):fN N=.inl ⟨i,L,false⟩:=by
 have c:=h.n8;have e:=h.room;have d:=dB L;have a:=Inv.recordsM_from h L.length 0 (aW N.S.length+1) (by omega) (by omega);unfold fN;rw[if_neg (by omega),if_neg (by simp[b]),h.genM];simp only;rw[show aM (L.take 0)=0 from rfl] at a;rw[a,List.drop_zero]
/- Writes of pieces keep what the sectors bear. -/
theorem rN{n g h p q:Nat}(a:p<aW n)(b:q<aW n):cm n g p=cm n h q↔g%2=h%2 /\ p=q:=by
 unfold cm;rcases(show g%2=0 \/ g%2=1 by omega) with e|e<;>rcases(show h%2=0 \/ h%2=1 by omega) with f|f<;>rw[e,f]<;>omega
theorem iy(S:List (List UInt8))(a c:Nat)(x:List UInt8)(b:a<S.length):(S.set a x).getD c []=if c=a then x else S.getD c []:=by
 rw[List.getD_eq_getElem?_getD,List.getElem?_set]
 by_cases h:a=c
 ·subst h;simp[b]
 ·rw[if_neg h,if_neg (fun e=>h e.symm),<- List.getD_eq_getElem?_getD]
theorem rO(S:List (List UInt8))(g h p q:Nat)(x:List UInt8)(a:p<aW S.length)(b:q<aW S.length):
 cN (S.set (cm S.length g p) x) h q=if h%2=g%2 /\ q=p then x else cN S h q:=by
 unfold cN;rw[List.length_set,iy _ _ _ _ (fv _ _ _ a)]
 by_cases e:h%2=g%2 /\ q=p
 ·rw[if_pos e,if_pos ((rN b a).2 e)]
 ·rw[if_neg e,if_neg (fun hh=>e ((rN b a).1 hh))]
theorem kD(S:List (List UInt8))(t h q:Nat)(x:List UInt8)(b:t<2)(a:2 <= S.length):cN (S.set t x) h q=cN S h q:=by
 unfold cN;rw[List.length_set,iy _ _ _ _ (by omega),if_neg (by unfold cm;omega)]
theorem rP(S:List (List UInt8))(g p t:Nat)(x:List UInt8)(b:t<2)(a:p<aW S.length):(S.set (cm S.length g p) x).getD t []=S.getD t []:=by
 rw[iy _ _ _ _ (fv _ _ _ a),if_neg (by unfold cm;omega)]
structure mP(S S':List (List UInt8))(g k p:Nat)(b:List UInt8)(i:Nat):Prop where
 len:S'.length=S.length
 sec:∀h q,q<aW S.length -> cN S' h q=if h%2=g%2 /\ p <= q /\ q<p+i then cT g k b (q-p) else cN S h q
 heads:∀t,t<2 -> S'.getD t []=S.getD t []
theorem yP(S:List (List UInt8))(g k p:Nat)(b:List UInt8):mP S S g k p b 0:=⟨rfl,fun h q a=>by rw[if_neg (by omega)],fun t c=>rfl⟩
theorem mP.snoc{S d:List (List UInt8)}{a:Nat}(h:mP S d i j o l a)(m:o+a<aW S.length):mP S (d.set (cm S.length i (o+a)) (cT i j l a)) i j o l (a+1):=by
 refine⟨by simp[h.len],fun c q n=>?_,fun t r=>?_⟩
 ·rw[<- h.len,rO _ _ _ _ _ _ (by rw[h.len];exact m) (by rw[h.len];exact n),h.sec c q n]
  by_cases e:c%2=i%2 /\ q=o+a
  ·rw[if_pos e,if_pos (by omega),show q-o=a by omega]
  ·rw[if_neg e]
   by_cases f:c%2=i%2 /\ o <= q /\ q<o+a
   ·rw[if_pos f,if_pos (by omega)]
   ·rw[if_neg f,if_neg (by omega)]
 ·rw[<- h.len,rP _ _ _ _ _ r (by rw[h.len];exact m),h.heads t r]
theorem kE(S:List (List UInt8))(a b:List (Nat×List UInt8)):df S (a++b)=df (df S a) b:=by unfold df;rw[List.foldl_append]
theorem ji(S:List (List UInt8))(g k p:Nat)(b:List UInt8)(a:p+takes b.length <= aW S.length):∀i,i <= takes b.length -> mP S (df S ((aP S.length g k p b).take i)) g k p b i
 |0,_=>by simpa[df] using yP S g k p b
 |i+1,hi=>by
  rw[uw _ _ _ _ _ _ (by omega),kE];exact(ji S g k p b a i (by omega)).snoc (by omega)
theorem Inv.append{S c:List (List UInt8)}{L:List (List UInt8)}(h:Inv S o L)(B:aM L+takes l.length <= aW S.length)(z:l.length <= 65536)(d:mP S c o L.length (aM L) l (takes l.length)):Inv c o (L++[l]):=by
 have F:=h.le;have C:=h.gen;have K:=dB L;have J:aW S.length <= 32768:=by unfold aW;omega
 have M:=dy l.length
 have m:∀q,q<aW S.length -> cN c o q=if aM L <= q /\ q<aM L+takes l.length then cT o L.length l (q-aM L) else cN S o q:=fun q a=>by
  rw[d.sec o q a]
  by_cases e:aM L <= q /\ q<aM L+takes l.length
  ·rw[if_pos ⟨rfl,e⟩,if_pos e]
  ·rw[if_neg (fun hh=>e hh.2),if_neg e]
 have H:∀q,q<aW S.length -> cN c (o+1) q=cN S (o+1) q:=fun q a=>by rw[d.sec _ q a,if_neg (by omega)]
 have I:aM (L++[l])=aM L+takes l.length:=d9 L l
 have w:∀p,aM (L++[l]) <= p -> p<aW S.length -> dm (cN c o p)=true -> bK (cN c o p) 0=o -> bK (cN c o p) 4 <= L.length:=fun p r a hi f=>by
  rw[m p a,if_neg (by omega)] at hi f⊢;exact h.beyond p (by omega) a hi f
 refine⟨by rw[d.len];exact h.n8,by rw[d.len];exact F,C,by rw[d.len,I];exact B,fun x k=>?_,fun i hi=>?_,?_,?_,?_,?_,?_,?_⟩
 ·rcases List.mem_append.1 k with k|k
  ·exact h.lens x k
  ·obtain rfl:=List.mem_singleton.1 k;exact z
 ·by_cases u:i<L.length
  ·have s:(L++[l])[i]=L[i]:=List.getElem_append_left u;have t:(L++[l]).take i=L.take i:=List.take_append_of_le_length (by omega);rw[s,t];refine(h.recs i u).sub fun j E=>?_
   have:=ix L (i+1);rw[fw L i u] at this;have f:=h.room;rw[m _ (by omega),if_neg (by omega)]
  ·have D:i=L.length:=by simp at hi;omega
   subst D;have s:(L++[l])[L.length]=l:=by simp
   have t:(L++[l]).take L.length=L:=by simp
   rw[s,t];intro j E;rw[m _ (by omega),if_pos (by omega),show aM L+j-aM L=j by omega]
 ·refine iJ ?_
  by_cases r:aW S.length <= aM (L++[l])
  ·exact .inl (by rw[d.len];exact r)
  ·refine .inr fun n=>?_
   by_cases hi:dm (cN c o (aM (L++[l])))=true /\ bK (cN c o (aM (L++[l]))) 0=o
   ·have:=w _ (aq _) (by omega) hi.1 hi.2;have G:bK (cN c o (aM (L++[l]))) 4≠(L++[l]).length:=by simp;omega
    unfold cD;rw[beq_eq_false_iff_ne.2 G];simp
   ·by_cases v:dm (cN c o (aM (L++[l])))=true
    ·have y:¬bK (cN c o (aM (L++[l]))) 0=o:=fun hh=>hi ⟨v,hh⟩
     simp[cD,y]
    ·simp[cD,v]
 ·intro p r a hi f;rw[d.len] at a;have:=w p r a hi f;simp;omega
 ·intro p a hi;rw[d.len] at a;rw[m p a] at hi⊢;split
  ·rw[jh _ _ _ _ (by omega)];exact aq _
  ·rename_i A;rw[if_neg A] at hi;exact h.own p a hi
 ·intro p a hi;rw[d.len] at a;rw[H p a] at hi⊢;exact h.other p a hi
 ·rw[d.heads _ (by omega)];exact h.head
 ·rw[d.heads _ (by omega)];exact h.head2
theorem Inv.replace{S c:List (List UInt8)}{L:List (List UInt8)}(h:Inv S o L)(F:o+1<4294967295)(E:takes l.length <= aW S.length)(C:l.length <= 65536)(f:mP S c (o+1) 0 0 l (takes l.length)):Inv (c.set ((o+1)%2) (cP (o+1))) (o+1) [l]:=by
 have I:=h.le;have B:=h.n8;have M:aW S.length <= 32768:=by unfold aW;omega
 have N:=dy l.length;have d:(c.set ((o+1)%2) (cP (o+1))).length=S.length:=by rw[List.length_set,f.len]
 have z:∀r q,q<aW S.length -> cN (c.set ((o+1)%2) (cP (o+1))) r q=cN c r q:=fun r q a=>kD _ _ _ _ _ (by omega) (by rw[f.len];omega)
 have t:∀q,q<aW S.length -> cN (c.set ((o+1)%2) (cP (o+1))) (o+1) q=if q<takes l.length then cT (o+1) 0 l q else cN S (o+1) q:=fun q a=>by
  rw[z _ q a,f.sec _ q a]
  by_cases e:q<takes l.length
  ·rw[if_pos (by omega),if_pos e];rfl
  ·rw[if_neg (by omega),if_neg e]
 have J:∀q,q<aW S.length -> cN (c.set ((o+1)%2) (cP (o+1))) (o+1+1) q=cN S o q:=fun q a=>by
  rw[z _ q a,f.sec _ q a,if_neg (by omega)];unfold cN cm;rw[show(o+1+1)%2=o%2 by omega]
 have v:aM [l]=takes l.length:=by simp[aM]
 have y:∀p,takes l.length <= p -> p<aW S.length -> dm (cN (c.set ((o+1)%2) (cP (o+1))) (o+1) p)=true -> bK (cN (c.set ((o+1)%2) (cP (o+1))) (o+1) p) 0=o+1 -> bK (cN (c.set ((o+1)%2) (cP (o+1))) (o+1) p) 4=0:=fun p k a hi m=>by
  rw[t p a,if_neg (by omega)] at hi m⊢;exact(h.other p a hi).2 m
 refine⟨by rw[d];exact B,by rw[d];exact I,F,by rw[d,v];exact E,fun x K=>?_,fun i hi=>?_,?_,?_,?_,?_,?_,?_⟩
 ·obtain rfl:=List.mem_singleton.1 K;exact C
 ·have:i=0:=by simp at hi;omega
  subst this;intro j G;have H:j<takes l.length:=G;show cN _ (o+1) (0+j)=cT (o+1) 0 l j;rw[Nat.zero_add,t j (by omega),if_pos H]
 ·refine iJ ?_;rw[v]
  by_cases k:aW S.length <= takes l.length
  ·exact .inl (by rw[d];exact k)
  ·refine .inr fun n=>?_
   generalize u:cN (c.set ((o+1)%2) (cP (o+1))) (o+1) (takes l.length)=s
   by_cases hi:dm s=true /\ bK s 0=o+1
   ·have:=y (takes l.length) (aq _) (by omega) (by rw[u];exact hi.1) (by rw[u];exact hi.2);rw[u] at this;simp[cD,this]
   ·by_cases w:dm s=true
    ·have A:¬bK s 0=o+1:=fun hh=>hi ⟨w,hh⟩
     simp[cD,A]
    ·simp[cD,w]
 ·intro p k a hi m;rw[d] at a;rw[v] at k;have:=y p k a hi m;omega
 ·intro p a hi;rw[d] at a;rw[t p a] at hi⊢;split
  ·rw[jh _ _ _ _ (by omega)];exact aq _
  ·rename_i D;rw[if_neg D] at hi;exact(h.other p a hi).1
 ·intro p a hi;rw[d] at a;rw[J p a] at hi⊢;have:=h.own p a hi;exact⟨by omega,fun e=>by omega⟩
 ·rw[iy _ _ _ _ (by rw[f.len];omega),if_pos rfl]
 ·intro hh;rw[iy _ _ _ _ (by rw[f.len];omega),if_neg (by omega),f.heads _ (by omega)] at hh⊢;rw[show(o+1+1)%2=o%2 by omega,h.head] at hh⊢;rw[rL o (by omega)];omega
/- A journal on a disk that never fails: its sectors bear it. -/
theorem ma:dm (List.replicate 64 0)=false:=by decide +kernel
theorem xe(a:List (Nat×List UInt8))(h:∀x∈a,x.2=b):df (List.replicate n b) a=List.replicate n b:=by
 induction a with
 |nil=>rfl
 |cons x a d=>
  show df ((List.replicate n b).set x.1 x.2) a=_;rw[h x (by simp),List.set_replicate_self];exact d fun y c=>h y (by simp[c])
theorem AC(j:8 <= n)(l:n <= 65536):Inv (df (List.replicate n (List.replicate 64 0)) (eN n++[(0,cP 0)])) 0 []:=by
 have e:df (List.replicate n (List.replicate 64 0)) (eN n++[(0,cP 0)])=(List.replicate n (List.replicate 64 0)).set 0 (cP 0):=by
  rw[kE,xe]
  ·rfl
  ·intro x g;simp[eN] at g;obtain⟨a,_,rfl⟩:=g;rfl
 rw[e];have c:((List.replicate n (List.replicate 64 (0:UInt8))).set 0 (cP 0)).length=n:=by simp
 have f:∀h q,q<aW n -> cN ((List.replicate n (List.replicate 64 (0:UInt8))).set 0 (cP 0)) h q=List.replicate 64 0:=fun h q b=>by
  rw[kD _ _ _ _ _ (by omega) (by simp;omega)];unfold cN;have:=fv n h q b;rw[List.length_replicate,List.getD_eq_getElem?_getD,List.getElem?_replicate,if_pos this];rfl
 have d:∀h q,q<aW n -> dm (cN ((List.replicate n (List.replicate 64 (0:UInt8))).set 0 (cP 0)) h q)=true -> False:=fun h q b hi=>by
  rw[f h q b,ma] at hi;cases hi
 refine⟨by rw[c];exact j,by rw[c];exact l,by omega,by simp[aM],by simp,fun i hi=>by simp at hi,?_,?_,?_,?_,?_,?_⟩
 ·refine iJ (.inr fun k=>?_);have:=f 0 0 (by unfold aW;omega);show cD (cN _ 0 0) 0 0 k=false;rw[this];unfold cD;rw[ma];rfl
 ·intro p _ b hi;rw[c] at b;exact(d 0 p b hi).elim
 ·intro p b hi;rw[c] at b;exact(d 0 p b hi).elim
 ·intro p b hi;rw[c] at b;exact(d _ p b hi).elim
 ·rw[iy _ _ _ _ (by simp;omega)];rfl
 ·intro hh;exfalso;rw[iy _ _ _ _ (by simp;omega),if_neg (by omega),List.getD_eq_getElem?_getD,List.getElem?_replicate,if_pos (by omega)] at hh;unfold eH at hh;rw[Option.getD_some,ma] at hh;exact absurd hh (by simp only[Bool.false_and,Bool.false_eq_true,not_false_eq_true])
theorem kF{S:List (List UInt8)}{k g:Nat}{L:List (List UInt8)}(h:Inv S g L)(a:aM L+takes l.length <= aW S.length)(b:l.length <= 65536):Inv (df S (aP S.length g L.length (aM L) l)) g (L++[l]):=by
 refine h.append a b ?_;have:=ji S g L.length (aM L) l a (takes l.length) (aq _)
 rwa [List.take_of_length_le (by rw[fJ];exact aq _)] at this
theorem mb{S:List (List UInt8)}{k g:Nat}{L:List (List UInt8)}(h:Inv S g L)(b:g+1<4294967295)(a:takes l.length <= aW S.length)(c:l.length <= 65536):Inv (df S (ce S.length g l)) (g+1) [l]:=by
 unfold ce;rw[kE];refine h.replace b a c ?_;have:=ji S (g+1) 0 0 l (by omega) (takes l.length) (aq _)
 rwa [List.take_of_length_le (by rw[fJ];exact aq _)] at this
end Go.Proofs.YtobjdpngnfbicaaGreatDoor
