/-
  RJ9 VUser VCalls UForm VForm VEvent
-/
import Derived.Test.YtobjdpngnfbicaaGreatDoorZP15
open Go.IntWalk renaming i64_in->af,i64_quo->ah,u32_in->aj,rem_in->am,u8_in->ap
open Nat renaming le_refl->aq,le_trans->au,lt_of_lt_of_le->aw
open List renaming length_append->aA,append_assoc->aB,length_cons->aD
open Go.Proofs.Tryz renaming prog->aE
set_option maxHeartbeats 8000000
set_option maxRecDepth 100000
set_option linter.all false
namespace Go.Proofs.YtobjdpngnfbicaaGreatDoor
open Go.RowKit
open Go.Proofs.Tryz
variable(w w9:World)(F:aQ)(n:Nat)(b:List UInt8)(M:MD){W w':World}{G:aQ}{u:Value}{i j o:Nat}{l:List UInt8}{L:List Value}{r:aT}{N:MD}{t:TypeId}
section
attribute [local go_sem] opC upC told bE bm bF bp bq bG bH
attribute [local go_sem ↓] aU
theorem DZ(n q:Nat)(a:q<48):(qo (b.drop (48*n))).take (q+1)=(qo (b.drop (48*n))).take q++[b.getD (48*n+q) 0]:=by
 have c:=lA (b.drop (48*n));rw[List.take_succ_eq_append_getElem (by omega)]
 congr 2
 have:(qo (b.drop (48*n)))[q]?=some (b.getD (48*n+q) 0):=by
  unfold qo
  by_cases h:48*n+q<b.length
  ·rw[List.getElem?_append_left (by simp;omega),List.getElem?_take,if_pos a,List.getElem?_drop,List.getD_eq_getElem?_getD,List.getElem?_eq_getElem h];rfl
  ·rw[List.getElem?_append_right (by simp;omega),List.getElem?_replicate,if_pos (by simp;omega),List.getD_eq_getElem?_getD,List.getElem?_eq_none (by omega)];rfl
 rw[List.getElem?_eq_getElem (by omega)] at this;exact Option.some.inj this
theorem ke(h:W.ownsRow i 5 1 u j L):∃a c,u=.slice a j c:=by
 rcases h.2 with⟨rfl,d⟩|⟨g,b,e,rfl,_⟩
 ·exact⟨none,0,by rw[d]⟩
 ·exact⟨_,b,rfl⟩
theorem qK(h:W.ownsRow i t 1 u j L)(a:u.ownBlock=some o):i <= o:=by
 rcases h.2 with⟨rfl,d⟩|⟨g,b,c,rfl,f,_⟩
 ·cases a
 ·simp[Value.ownBlock] at a;omega
theorem qL(a:Option Addr)(d c:Nat)(e:List UInt8)(r:e.length=d)(j:w.ownsRow n 5 1 (.slice a d c) d (e.map B))(m:Below n w9 w)(k:n <= w.heap.size)(u:UInt8)(z:Value)(v:z=B u)(x:d <= 1000):
 ∃g h f,(AP #[41,41] 41 #[.slice a d c,.slice (some ⟨w.heap.size,0,none⟩) 1 1]).run aE (w.alloc (.cells #[z] 5))=.ok (.slice g (d+1) h) f /\ f.ownsRow n 5 1 (.slice g (d+1) h) (d+1) ((e++[u]).map B) /\ Below n w9 f:=by
 subst r v;have o:aO (λb=>b=w.heap.size) (w.alloc (.cells #[B u] 5)) (.slice (some ⟨w.heap.size,0,none⟩) 1 1) [u]:=jt (l:=[u]) (Blk.new w #[B u] 5) (by unfold maxLen;simp) _ rfl;obtain⟨y,f,t,i,p⟩:=cP (w.alloc (.cells #[B u] 5)) n _ e (j.alloc _) _ _ [u] o (by simp;omega) (by simp;omega);rw[show(e++[u]).length=e.length+1 from by simp] at i;obtain⟨g,h,rfl⟩:=ke i;exact⟨g,h,f,t,i,(Below.alloc m k _).grown p (by simp;omega) (λq s=>qK j s)⟩
def yE(w:World)(g k:Nat)(l:List UInt8)(d i:Value)(wr:World):Prop:=
 ∃(n:Nat)(a:Option Addr)(c:Nat)(R:aQ)(S:List (List UInt8)),n <= takes l.length /\ i=.int .i64 (n:Int) /\ d=.slice a n c /\ S=(List.range n).map (eo g k l) /\ S.length=n /\ bU R wr w.heap.size (.slice a n c) S /\ (∀b,R b -> w.heap.size <= b /\ b<wr.heap.size) /\ Kpt w wr
def rq(wo:World)(X d:List UInt8)(n:Nat)(s m:Value)(wr:World):Prop:=
 ∃(j q:Nat)(a:Option Addr)(c:Nat)(b:List UInt8),j=48*n+q /\ q <= 48 /\ m=.int .i64 (j:Int) /\ s=.slice a (12+q) c /\ b=X++d.take q /\ b.length=12+q /\ wr.ownsRow wo.heap.size 5 1 (.slice a (12+q) c) (12+q) (b.map B) /\ Kpt wo wr
theorem yF(g k:Nat)(v:Value)(l:List UInt8)(F:aQ)(hv:aO F w v l)(hg:g <= 4294967295)(hk:k <= 4294967295)(hl:l.length <= 65536):
 Calls aE 129 #[.int .i64 (g:Int),.int .i64 (k:Int),v] w λe y=>∃r R,e=.returned r /\ bU R y w.heap.size r ((List.range (takes l.length)).map (eo g k l)) /\ (∀b,R b -> w.heap.size <= b /\ b<y.heap.size) /\ Kpt w y:=by
 obtain⟨a,bN,rfl,-,-,-,hx⟩:=hv;have Hx:=ae hx;obtain⟨c,aI⟩:=aH l.length;have C:=ae aI;have bT:(c:Int) <= 65536:=by omega
 rw[aI] at hl⊢;have bH:takes c <= 1366:=by unfold takes;omega
 have aV:Hd (∀n,n<takes c -> 48*n <= c):=ae λn hn=>by unfold takes at hn;omega
 clear hx aI;obtain⟨T,V⟩:=aH (takes c);have HT:=ae V;have bx:∀y:World,Hd (Calls aE 73 #[.int .i64 (c:Int)] y λe bM=>e=.returned (.int .i64 (T:Int)) /\ y=bM):=λy=>ae (by rw[<- V];exact jT y c (by omega))
 rw[V] at bH⊢aV;clear V
 go_enter func129,ntmps129
 go_wp2
 go_loopw [7,8] (λbL i wr=>yE w g k l bL i wr) (λ_ i _=>T-(intOf i).toNat)
 ·exact⟨0,none,0,none_,[],by omega,rfl,rfl,rfl,rfl,bU.nil _ _,λb h=>h.elim,Below.refl _ _⟩
 ·rename World=>wo
  obtain⟨n,oa,oc,R,S,bE,rfl,rfl,U,av,ai,hR,N⟩:=hrel;rw[C.x,HT.x] at bE;go_wp2_with fail;refine(bx wo).x.mono ?_;rintro e y ⟨rfl,rfl⟩
  by_cases hn:n<T
  ·have bD:(n:Int)<(T:Int):=by omega
   have bV:(n:Int) <= 1366:=by omega
   have bO:=aV.x n hn;have bP:48*(n:Int) <= (c:Int):=by omega
   have bc:(c:Int)-48*(n:Int)=((c-48*n:Nat):Int):=by omega
   obtain⟨X,W⟩:=aP (cB g++cB k++cB (c-48*n));obtain⟨o,ag⟩:=aP (qo (l.drop (48*n)));have aX:X.length=12:=by rw[W];simp[cn]
   have bi:fT (X++o)=eo g k l n:=by rw[W,ag];unfold eo;rw[C.x]
   have bk:o.length=48:=by rw[ag];exact lA _
   have bs:Hd (∀q,q<48 -> o.take (q+1)=o.take q++[l.getD (48*n+q) 0]):=ae λq f=>by rw[ag];exact DZ l n q f
   have⟨aR,Q,HS,al,aL,bu,bv,HX⟩:=ae8 (jc wo g hg) ai U av aX bi bk W;have bt:=ae bc;clear ai U av aX bi bk W ag bc;go_wp2_with fail;refine aR.x.mono ?_;rintro e w1 ⟨rfl,a0,bg⟩;have⟨aS,an,ar⟩:=ae3 (jc w1 k hk) a0 bg;clear aR a0 bg;go_wp2_with fail;refine aS.x.mono ?_;rintro e w2 ⟨rfl,a1,Y⟩;have bo:=ar.x.size;have bh:=an.x.lt;have bI:=Y.size
   obtain⟨v3,w3,aY,aa,bd⟩:=lQ w2 wo.heap.size wo.heap.size (cB g) (λj u A=>by
    have:=(an.x.keep (Y.block _ bh)).cell j
    rw[this];exact A) _ _ _ (lL a1 (λb=>b=w1.heap.size) rfl) (by rw[cn];omega) (by simp[cn]) (by omega)
   rw[show(cB g++cB k).length=8 from by simp[cn]] at aa;obtain⟨a3,c3,rfl⟩:=ke aa;have a2:Kpt wo w3:=(ar.x.trans (Y.mono bo)).grown bd (by omega) (λq f=>by cases f);have aJ:=jc w3 (c-48*n) (by omega);rw[<- bt.x] at aJ;have⟨aT,aU,aM⟩:=ae3 aJ aa a2;rw[show(cB g).length=4 from rfl] at aY;clear aS a1 Y bd aJ aa a2 an ar bo bh bI;go_wp2_with fail;refine aT.x.mono ?_;rintro e w4 ⟨rfl,a4,Z⟩;have bJ:=Z.size;have bp:=aM.x.size;have aK:=ig aU.x Z;obtain⟨v5,w5,bQ,ab,be⟩:=cP w4 wo.heap.size _ (cB g++cB k) (by rw[show(cB g++cB k).length=8 from by simp[cn]];exact aK) _ _ (cB (c-48*n)) (lL a4 (λb=>b=w3.heap.size) rfl) (by simp[cn]) (by omega);have a6:Kpt wo w5:=(aM.x.trans (Z.mono bp)).grown be (by omega) (λq f=>qK aK f);rw[<- HX.x,aL.x] at ab;obtain⟨a5,c5,rfl⟩:=ke ab
   have h0:rq wo X o n (.slice a5 12 c5) (.int .i64 (48*(n:Int))) w5:=⟨48*n,0,a5,c5,X,rfl,by omega,by simp,rfl,by simp,aL.x,ab,a6⟩
   have H0:=ae h0;clear aT aU aY a4 Z bJ bp aK ab be a6 h0;go_wp2
   go_loopw [9,10] (λs m wr=>rq wo X o n s m wr) (λ_ m _=>48*n+48-(intOf m).toNat)
   ·exact H0.x
   ·obtain⟨j,q,sa,sc,E,A,f,rfl,rfl,D,x,H,z⟩:=hrel;have bS:(j:Int) <= 66000:=by omega
    have aG:(j:Int)=48*(n:Int)+(q:Int):=by omega
    by_cases bG:q<48
    ·have bB:(j:Int)<48*(n:Int)+48:=by omega
     have G:=bs.x q bG;rw[<- A] at G;have aW:=z.size;obtain⟨u,P⟩:=aP (l.getD j 0);rw[<- P] at G
     by_cases bf:j<c
     ·have bA:(j:Int)<(c:Int):=by omega
      obtain⟨b,ak,L,t,fz,rfl,hF,aF,bC,hr⟩:=Hx.x.resolve_left (by intro e;have:=C.x;rw[e] at this;simp at this;omega)
      have bR:wr.cell? ⟨b,ak+j,none⟩=some (.int .u8 (u.toNat:Int)):=by
       rw[z.cell (p:=⟨b,ak+j,none⟩) (by have:=lt_of_block aF;have:=N.size;show b<wo.heap.size;omega),N.cell (p:=⟨b,ak+j,none⟩) (lt_of_block aF),cell_of_row w b (ak+j) L t fz aF,hr j (by rw[C.x];exact bf),P,List.getD_eq_getElem?_getD,List.getElem?_eq_getElem (by rw[C.x];exact bf)];rfl
      obtain⟨J,K,w6,bz,O,M⟩:=qL wr wo wo.heap.size sa (12+q) sc E x H z aW u (.int .u8 (u.toNat:Int)) rfl (by omega)
      have B:rq wo X o n (.slice J (12+q+1) K) (.int .i64 ((j:Int)+1)) w6:=⟨j+1,q+1,J,K,E++[u],by omega,by omega,by simp,rfl,by rw[G,D,aB],by simp[x];omega,O,M⟩
      have⟨I,ao⟩:=ae2 B A;clear H x D z B O M G hr bC A aG P;go_wp2
      go_roundw
      ·exact I.x
      ·simp[intOf];have:=ao.x;omega
     ·have bA:¬(j:Int)<(c:Int):=by omega
      have bn:u=0:=by rw[P,List.getD_eq_getElem?_getD,List.getElem?_eq_none (by rw[C.x];omega)];rfl
      obtain⟨J,K,w6,bz,O,M⟩:=qL wr wo wo.heap.size sa (12+q) sc E x H z aW u (.int .u8 0) (by rw[bn];rfl) (by omega)
      have B:rq wo X o n (.slice J (12+q+1) K) (.int .i64 ((j:Int)+1)) w6:=⟨j+1,q+1,J,K,E++[u],by omega,by omega,by simp,rfl,by rw[G,D,aB],by simp[x];omega,O,M⟩
      have⟨I,ao⟩:=ae2 B A;clear H x D z B O M G A aG P bn;go_wp2
      go_roundw
      ·exact I.x
      ·simp[intOf];have:=ao.x;omega
    ·have bB:¬(j:Int)<48*(n:Int)+48:=by omega
     have f:q=48:=by omega
     subst f;rw[show o.take 48=o from List.take_of_length_le (by rw[bv.x];omega)] at D;have ba:aO (λb=>wo.heap.size <= b) wr (.slice sa 60 sc) E:=aO.of_owns (by rw[x];exact H) _ (λb d _=>d);have Hs:=ae (qJ wr _ _ E ba x);have bm:fT E=eo g k l n:=by rw[D];exact bu.x
     have⟨bw,aN⟩:=ae2 bm z;clear H x D z ba bm A aG H0;go_wp2_with fail;refine Hs.x.mono ?_;rintro e w7 ⟨r,rfl,ad,ax⟩;rw[bw.x] at ad;obtain⟨a7,c7,rfl⟩:=ke ad;have hz:=aN.x.size;have bK:=ax.size;have br:=N.size;have ay:=aN.x.trans (ax.mono hz);have bj:=nh g k l n;have bb:=lH (l:=eo g k l n) (by rw[bj];exact ad);have aZ:=(Q.x.kept ay).append bb (λb d=>d.2.2) (by rw[al.x];omega) (by omega);rw[al.x] at aZ;obtain⟨a8,c8,w8,bW,bl,az⟩:=aZ;have bq:=az.size;simp only[World.size_alloc] at bq;have a9:Kpt w w8:=(Below.alloc (N.trans (ay.mono br)) (by omega) _).grown az (by simp;omega) (λq f=>(Q.x.own f).1)
     have B:yE w g k l (.slice a8 (n+1) c8) (.int .i64 ((n:Int)+1)) w8:=⟨n+1,a8,c8,_,S++[eo g k l n],by rw[C.x,HT.x];omega,by simp,rfl,by rw[HS.x,List.range_succ,List.map_append];rfl,by simp[al.x],bl,λb d=>by
      rcases d with d|d
      ·have:=hR b d;omega
      ·have h1:=d.1;have h2:=d.2.1;omega,a9⟩
     have I:=ae B;clear Hs ad ax hz bK br ay bj bb bl az bq a9 B;go_wp2
     go_roundw
     ·exact I.x
     ·simp[intOf];omega
  ·have bD:¬(n:Int)<(T:Int):=by omega
   have bF:n=T:=by omega
   have⟨Q,HS⟩:=ae2 ai U;clear ai U av;go_wp2
   go_ret
   refine⟨_,R,rfl,?_,hR,N⟩;have:=Q.x;rw[HS.x,bF] at this;exact this
/- The reference journal: write. -/
def tf(w e:World)(K:RK)(M:MD)(T rb f:Nat)(g:Value)(h:List (Nat×List UInt8))(i:Value)(wr:World):Prop:=
 ∃(n:Nat)(a:RK)(c:MD),n <= T /\ i=.int .i64 (n:Int) /\ a.d=K.d /\ (∀b,a.all b -> K.all b \/ e.heap.size <= b) /\ bS wr a c /\ bD M (h.take n)=(c,0) /\ eE wr rb K.d f g false /\
  (∀b,b<e.heap.size -> ¬K.all b -> wr.heap[b]?=e.heap[b]?) /\ aM K.foot w wr /\ e.heap.size <= wr.heap.size /\ c.S.length=M.S.length /\ c.writes <= M.writes+n /\ a.bs=K.bs
theorem tg(c u:Nat)(y:Value)(K:RK)(M:MD)(hd:bS w K M)(hj:eE w c K.d u y false)(a6:¬K.all c)(g k p:Nat)(v:Value)(l:List UInt8)(F:aQ)(hv:aO F w v l)
 (hg:g <= 4294967295) (hk:k <= 65536) (hl:l.length <= 65536) (z:2 <= M.S.length) (hp:p+takes l.length <= bw M.S.length) (hw:M.writes+takes l.length<4611686018427387904):
 Calls aE 75 #[.pointer (some ⟨c,0,none⟩),.int .i64 (g:Int),.int .i64 (k:Int),.int .i64 (p:Int),v] w λe w'=>
  e=.returned (.int .i64 (bD M (aX M.S.length g k p l)).2) /\ (∃f,f.d=K.d /\ (∀b,f.all b -> K.all b \/ w.heap.size <= b) /\ bS w' f (bD M (aX M.S.length g k p l)).1 /\ f.bs=K.bs) /\
  eE w' c K.d u y (!decide ((bD M (aX M.S.length g k p l)).2=0)) /\ aM (λb=>K.foot b \/ b=c) w w':=by
 obtain⟨t,an⟩:=aP (aX M.S.length g k p l);have aN:t.length=takes l.length:=by rw[an,mP]
 have ax:Hd (∀n,n<takes l.length -> t.take (n+1)=t.take n++[(dm M.S.length g (p+n),eo g k l n)]):=ae λn O=>by rw[an];exact AX _ _ _ _ _ _ O
 rw[<- an];have ar:=ae (yF w g k v l F hv hg (by omega) hl);have a7:=hd.len;have bF:takes l.length <= 1366:=by unfold takes;omega
 have bA:bw M.S.length <= 32768:=by unfold bw;omega
 obtain⟨N,Z⟩:=aH M.S.length;obtain⟨T,hT⟩:=aH (takes l.length);have ay:=hd.lt;have ba:=Blk.lt hj;obtain⟨la,bZ,rfl,-⟩:=id hv;rw[Z] at a7 hp bA z;rw[hT] at bF aN ar hp hw ax;have⟨Hj,Hd,HN,bp⟩:=ae4 hj hd Z aN;rw[Z] at ax;clear an hv hj hd Z hT aN
 go_enter func75,ntmps75
 go_wp2_with fail;refine ar.x.mono ?_;rintro e o ⟨r,R,rfl,Q,hR,L⟩;obtain⟨S,hS⟩:=aP ((List.range T).map (eo g k l));rw[<- hS] at Q;obtain⟨ra,rc,rfl,-,-⟩:=Q.shape;have az:S.length=T:=by rw[hS];simp
 rw[az] at Q⊢
 have h0:tf w o K M T c u y t (.int .i64 0) o:=⟨0,K,M,by omega,rfl,rfl,λb a=>.inl a,Hd.x.kept L,rfl,Blk.keep Hj.x (L.block _ ba),λb _ _=>rfl,aM.of_below L,aq _,rfl,by omega,rfl⟩
 have⟨H0,av,HS,ao,aS⟩:=ae5 h0 Q hS az L;clear h0 Q hS az ar L;go_wp2
 go_loopw [12] (λi wr=>tf w o K M T c u y t i wr) (λi _=>T-(intOf i).toNat)
 ·exact H0.x
 ·obtain⟨n,f,X,bR,rfl,I,J,A,E,C,hold,P,bW,ag,bY,aa⟩:=hrel
  by_cases O:n<T
  ·have bB:(n:Int)<(T:Int):=by omega
   have bG:=aS.x.size;obtain⟨bt,bM,c0,-⟩:=A.row;rw[I,ag,HN.x] at c0;have bH:wr.drew.cell? ⟨K.d,0,none⟩=some (.slice (some ⟨f.bs,0,none⟩) N bt):=c0;have bb:¬f.foot c:=λh=>by rcases J _ (bS.foot_all h) with h|h;exact a6 h;omega
   have q1:∀w',bI f.foot wr.drew w' -> w'.cell? ⟨c,0,none⟩=some (.pointer (some ⟨K.d,0,none⟩)):=λw' hh=>by simpa using(Blk.keep (w':=w') C (hh.block _ (Blk.lt C) bb)).cell 0
   have bE:bU R wr w.heap.size (.slice ra T rc) S:=av.x.keep λb a bQ=>by
    have bv:w.heap.size <= b /\ b<o.heap.size:=by
     rcases a with a|a
     ·have:=av.x.own a;omega
     ·exact hR b a
    exact hold b bv.2 λh=>by have:=ay b h;omega
   obtain⟨b0,ak,be,-⟩:=bE;obtain⟨x,hx,U⟩:=be n (by rw[ao.x];exact O);have aZ:S[n]'(by rw[ao.x];exact O)=eo g k l n:=by simp[HS.x]
   rw[aZ] at U;have aI:=nh g k l n;rw[ao.x] at ak;rcases ak.2 with⟨-,h⟩|⟨j,bJ,bL,bx,bO,a2,bT,-⟩
   ·omega
   injection bx with e1 e2 e3
   subst e1 e3;have ab:=ak.cells (g:=j) rfl n x (by simpa using hx);have bN:j<o.heap.size:=by have:=av.x.own (g:=j) rfl;omega
   have bz:¬f.foot j:=λh=>by
    rcases J _ (bS.foot_all h) with h|h
    ·have:=ay _ h;omega
    ·omega
   obtain⟨xa,xc,rfl,-⟩:=id U;rw[aI] at U ab;rw[Addr.add_lit,Nat.zero_add] at ab
   have q2:∀w',bI f.foot wr.drew w' -> w'.cell? ⟨j,n,none⟩=some (.slice xa 64 xc):=λw' hh=>by
    have e:w'.heap[j]?=wr.heap[j]?:=hh.block j (lt_of_block a2) bz;rw[<- ab];unfold World.cell?;rw[show(⟨j,n,none⟩:Addr).block=j from rfl,e]
   have a9:((p+n:Nat):Int)=(p:Int)+(n:Int):=by omega
   have aK:=oB wr.drew N z a7 g (p+n) hg (by omega)
   have a0:dm N g (p+n)<X.S.length:=by
    rw[ag,HN.x];unfold dm bw at *;rcases(show g%2=0 \/ g%2=1 by omega) with h|h<;>rw[h]<;>omega
   have al:=wk wr.drew f X (A.kept (Below.refl _ _).drew) (dm N g (p+n)) a0 (by omega) R _ (eo g k l n) (U.keep λb _ _=>rfl) aI (λb a e=>by
    have h1:=hR b a;have z:=ay K.d (.inl rfl);rw[e,I] at h1
    omega)
   rw[I] at al;have aL:=eD M (t.take n) (dm N g (p+n)) (eo g k l n) (by rw[E]);have bd:=ax.x n O;rw[<- bd,E] at aL;have aR:=nZ X (dm N g (p+n)) (eo g k l n);generalize dm N g (p+n)=br at *;rw[a9] at aK;have bX:=af ((p:Int)+(n:Int)) (by omega);generalize X.wr br (eo g k l n)=mq at *;obtain⟨M2,rr⟩:=mq;dsimp only at al aR;have⟨bm,bq,aT,V,aU,bj⟩:=ae6 aK al aL C aR ag;clear aK al aL bd E a9 C U ab a2 be ak hx aZ aI c0 aR a0 H0 ag;go_wp2_with fail;refine bP (bI f.foot) (up 10 [12,13,14,15,17,18,19,20,510,11,516,521,22]) (by kernel_rfl) ?_;apply aG;rfl;intro w' H;go_simp;exact aF
   repeat (apply bK;rfl;rfl;go_simp;go_simp;rfl;apply aG;rfl;intro w' H;go_simp;exact aF)
   refine aY rfl rfl (λG q=>?_);go_simp;refine⟨eC _ _,q _ _ ?_⟩;clear q G;go_simp;apply aG;rfl;intro w' H;go_simp;exact aF
   repeat (apply bK;rfl;rfl;go_simp;go_simp;rfl;apply aG;rfl;intro w' H;go_simp;exact aF)
   refine aY rfl rfl (λG q=>?_);go_simp;refine bm.x.mono ?_;rintro e w' ⟨rfl,rfl⟩;refine⟨_,rfl,eC _ _,q _ _ ?_⟩;clear q G;go_simp;refine aY rfl rfl (λG q=>?_);go_simp;refine bq.x.mono ?_;rintro e m ⟨rfl,⟨W,aV,bu,ad,a1⟩,s⟩;refine⟨_,rfl,s,q _ _ ?_⟩;clear q G q1 q2;go_simp;apply aG;rfl;intro w' H;go_simp;exact aF
   repeat (apply bK;rfl;rfl;go_simp;go_simp;rfl;apply aG;rfl;intro w' H;go_simp;exact aF)
   refine aW ?_
   have D:aM f.foot wr m:=⟨s.os,s.tape,s.output,s.size,s.block⟩
   have bV:wr.heap.size <= m.heap.size:=D.size
   have Y:∀b,W.all b -> K.all b \/ o.heap.size <= b:=λb a=>by
    rcases bu b a with h|h
    ·exact J b h
    ·exact .inr (by have h:wr.heap.size <= b:=h;omega)
   have ai:aM K.foot w m:=P.trans D λi hi=>by
    rcases hi with h|h
    ·exact .inl (.inl (h.trans I))
    ·exact .inl (.inr (h.trans aa))
   have aJ:∀b,b<o.heap.size -> ¬K.all b -> m.heap[b]?=o.heap[b]?:=λb h1 z=>by
    rw[D.block b (by omega) (λh=>by rcases J b (bS.foot_all h) with h|h;exact z h;omega),hold b h1 z]
   have B:eE m c K.d u y false:=Blk.keep V.x (D.block c (Blk.lt V.x) bb)
   by_cases hr:rr=0
   ·subst hr
    have bc:tf w o K M T c u y t (.int .i64 ((n:Int)+1)) m:=⟨n+1,W,M2,by omega,by simp,aV,Y,ad,aT.x,B,aJ,ai,by omega,by have:=aU.x;have:=bj.x;omega,by have:=aU.x;omega,a1.trans aa⟩
    have bn:=ae bc;clear bc ad Y ai aJ B s D hold P A;go_wp2
    go_roundw
    ·exact bn.x
    ·simp[intOf];omega
   ·have ba:(rr != 0)=true:=bne_iff_ne.2 hr;have a4:=iT M M2 rr t (n+1) aT.x hr;have f3:=Blk.free B 3;have c3:m.cell? ⟨c,3,none⟩=some (.bool false):=by simpa using Blk.cell B 3
    have a5:eE (m.setCell ⟨c,3,none⟩ (.bool true)) c K.d u y true:=Blk.set B 3 (.bool true)
    have a3:bS (m.setCell ⟨c,3,none⟩ (.bool true)) W M2:=ad.keep (λb a=>Below.heap_setCell _ ⟨c,3,none⟩ _ b (λe=>by
     have e:b=c:=e;rw[e] at a;rcases Y c a with h|h
     ·exact a6 h
     ·omega)) (by simp[World.setCell])
    have a8:aM (λb=>K.foot b \/ b=c) w (m.setCell ⟨c,3,none⟩ (.bool true)):=(ai.mono λb a=>.inl a).setCell (p:=⟨c,3,none⟩) (.inl (.inr rfl)) _;have⟨bh,bi,bf,bl⟩:=ae4 a4 a5 a3 a8;clear a4 a5 a3 a8 ad ai aJ B s D hold P A;go_wp2
    go_ret
    rw[bh.x];refine⟨rfl,⟨W,aV,λb a=>(Y b a).imp id (λh=>by omega),bf.x,a1.trans aa⟩,?_,bl.x⟩;have e1:(!decide (rr=0))=true:=by simp[hr]
    dsimp only;rw[e1];exact bi.x
  ·have bB:¬(n:Int)<(T:Int):=by omega
   have bC:n=T:=by omega
   subst bC;rw[List.take_of_length_le (by rw[bp.x];omega)] at E;have⟨bo,bg,V,bk⟩:=ae4 E A C P;clear E A C P hold;go_wp2
   go_ret
   rw[bo.x];have bG:=aS.x.size;exact⟨rfl,⟨f,I,λb a=>(J b a).imp id (λh=>by omega),bg.x,aa⟩,V.x,bk.x.mono λb a=>.inl a⟩
/- The reference journal: Append. -/
def jU(F:aQ)(rb:Nat)(w a:World):Prop:=bI F w a /\ ∀i,i<3 -> a.cell? ⟨rb,i,none⟩=w.cell? ⟨rb,i,none⟩
theorem qM(w:World):jU F n w w:=⟨eC _ _,λ_ _=>rfl⟩
theorem wn(a b c:World)(h:jU F n a b)(k:jU F n b c):jU F n a c:=⟨fy _ _ _ _ h.1 k.1,λi hi=>(k.2 i hi).trans (h.2 i hi)⟩
instance{F:aQ}{rb:Nat}:Std.Refl (jU F rb):=⟨qM F rb⟩
instance{F:aQ}{rb:Nat}:Trans (jU F rb) (jU F rb) (jU F rb):=⟨λh k=>wn F rb _ _ _ h k⟩
theorem iC.wrote{K f:RK}{L:List (List UInt8)}{M k:MD}(h:iC W ⟨i,K,G⟩ M ⟨j,L,false⟩)(A:bS w' f k)(y:f.d=K.d)(n:∀b,f.all b -> K.all b \/ W.heap.size <= b)(l:Bool)
 (B:∀q,eE W i K.d j q false -> eE w' i K.d j q l) (p:aM (λb=>K.all b \/ b=i) W w') (o:k.S.length=M.S.length):iC w' ⟨i,f,G⟩ k ⟨j,L,l⟩:=by
 have C:=h.lt;obtain⟨F,⟨D,E,R,r,s,m⟩,e,t,u,v,x⟩:=h;dsimp only at *;have z:∀b,G b -> w'.heap[b]?=W.heap[b]?:=λb a=>p.block b (e.2 b a).2.2 (λc=>by rcases c with c|c;exact(e.2 b a).2.1 c;exact(e.2 b a).1 c)
 refine⟨A,⟨D,E,R,?_,s.keep λb a _=>z b (m b a),m⟩,⟨λc=>?_,λb a=>⟨(e.2 b a).1,λc=>?_,aw (e.2 b a).2.2 p.size⟩⟩,by rw[o];exact t,by rw[o];exact u,v,x⟩
 ·dsimp only;rw[y];exact B _ r
 ·have:=C i (.inl rfl);rcases n _ c with h|h
  ·exact e.1 h
  ·exact absurd h (by show ¬W.heap.size <= i;omega)
 ·have:=(e.2 b a).2.2;rcases n _ c with h|h
  ·exact(e.2 b a).2.1 h
  ·omega
def D0(w:World)(c:RJK)(M:MD)(a:MD×MJ×Int)(e:Ending)(g:World):Prop:=
 e=.returned (.int .i64 a.2.2) /\ ∃f:RJK,f.j=c.j /\ f.K.d=c.K.d /\ iC g f a.1 a.2.1 /\ (∀b,f.all b -> c.all b \/ w.heap.size <= b) /\ aM c.all w g
def E1(w:World)(b:Nat):Prop:=∃L t a,w.heap[b]?=some (.cells L t a) /\ (t=121 \/ t=117 \/ t=41)
def Bb(w:World)(c:RJK)(M:MD)(a:MD×MJ×Int)(e:Ending)(b:World):Prop:=D0 w c M a e b /\ aM (E1 w) w b
theorem Bc{K:RK}{L:List (List UInt8)}{e:Bool}{c:Option Addr}(n:bS W K N)(p:eE W i K.d j (.slice c L.length o) e)(r:bU G W 0 (.slice c L.length o) L):
 ∀b,(K.foot b \/ b=i) \/ (Value.slice c L.length o).ownBlock=some b -> E1 W b:=by
 obtain⟨v,u,z,-,-,l,⟨t,k,-⟩,-⟩:=n.main;rintro b (((rfl|rfl)|rfl)|a)
 ·exact⟨_,_,_,l,.inr (.inl rfl)⟩
 ·exact⟨_,_,_,k,.inr (.inr rfl)⟩
 ·exact⟨_,_,_,p,.inl rfl⟩
 ·obtain⟨A,q,-⟩:=r;rcases q.2 with⟨h,-⟩|⟨f,x,y,s,-,m,-⟩
  ·rw[h] at a;cases a
  ·rw[s] at a;obtain rfl:f=b:=by simpa[Value.ownBlock] using a
   exact⟨_,_,_,m,.inr (.inr rfl)⟩
theorem mt(jk:RJK)(M:MD)(J:MJ)(h:iC w jk M J)(F:aQ)(v:Value)(l:List UInt8)(hv:aO F w v l)(hF:∀b,F b -> b<w.heap.size /\ ¬jk.all b)(hl:l.length <= 65536)(hw:M.writes+65536<4611686018427387904):
 Calls aE 31 #[.pointer (some ⟨jk.j,0,none⟩),v] w (Bb w jk M (cw M J l)):=by
 obtain⟨rb,K,O⟩:=jk;obtain⟨g,L,a6⟩:=J;have aN:=h;obtain⟨U,⟨u,x,R,D,hr,y⟩,⟨a8,N⟩,h8,bQ,bz,aP⟩:=h;dsimp only at *;have ax:=ae (Bc U D hr);obtain⟨va,vc,rfl,-⟩:=id hv;have bA:=U.len;have bH:=eU L;have bL:bw M.S.length <= 32768:=by unfold bw;omega
 have bR:takes l.length <= 1366:=by unfold takes;omega
 have bM:¬(65536:Int)<(l.length:Int):=by omega
 have c3:w.cell? ⟨rb,3,none⟩=some (.bool a6):=by simpa using Blk.cell D 3
 have av:=ae aN;cases a6 with
 |true=>
  have z:cw M ⟨g,L,true⟩ l=(M,⟨g,L,true⟩,341):=by unfold cw;rfl
  rw[z];clear aN U D hr z
  go_enter func31,ntmps31
  go_wp2
  go_ret
  exact⟨⟨rfl,⟨rb,K,O⟩,rfl,rfl,av.x,λb a=>.inl a,aM.refl _ _⟩,aM.refl _ _⟩
 |false=>
  obtain⟨bt,bK,c0,-⟩:=U.row;have bN:=Blk.lt D;have a0:∀c,aK w.drew c -> c.cell? ⟨rb,0,none⟩=some (.pointer (some ⟨K.d,0,none⟩)):=λc hh=>dY (by simpa using Blk.cell D 0) hh
  have b0:∀c,aK w.drew c -> c.cell? ⟨K.d,0,none⟩=some (.slice (some ⟨K.bs,0,none⟩) M.S.length bt):=λc hh=>dY c0 hh
  have⟨Ht,ay,Hh⟩:=ae3 (lK w.drew rb K.d g _ false (show eE w.drew rb K.d g _ false from D) R L (hr.kept (Below.refl _ _).drew) (by omega) (by omega) aP) (jT w.drew l.length (by omega)) (lj w.drew M.S.length (by omega) bA);have bV:=af ((bj L:Int)+(takes l.length:Int)) (by omega);have⟨Hd,P,Hr⟩:=ae3 U D hr
  have I:cw M ⟨g,L,false⟩ l=if bw M.S.length-bj L<takes l.length then(M,⟨g,L,false⟩,7) else
   if(bD M (aX M.S.length g L.length (bj L) l)).2=0 then((bD M (aX M.S.length g L.length (bj L) l)).1,⟨g,L++[l],false⟩,0) else((bD M (aX M.S.length g L.length (bj L) l)).1,⟨g,L,true⟩,(bD M (aX M.S.length g L.length (bj L) l)).2):=by
   unfold cw;simp only[Bool.false_eq_true,if_false];rw[if_neg (by omega)]
  have bT:=ei l.length;clear aN U D hr c0
  by_cases be:bw M.S.length-bj L<takes l.length
  ·rw[if_pos be] at I;rw[I];have hI:(bw M.S.length:Int)<(bj L:Int)+(takes l.length:Int):=by omega
   clear I
   go_enter func31,ntmps31
   go_wp2_with fail;refine bP aK [0,2,3,6,7,8,9,10,11,12,13,501,504,5,514,15] (by kernel_rfl) ?_;apply aG;rfl;intro c B;go_simp;exact aF;refine aY rfl rfl (λm f=>?_);go_simp;refine Ht.x.mono ?_;rintro e c ⟨rfl,rfl⟩;refine⟨_,rfl,aZ _,f _ _ ?_⟩;clear f m;go_simp;refine aY rfl rfl (λm f=>?_);go_simp;refine ay.x.mono ?_;rintro e c ⟨rfl,rfl⟩;refine⟨_,rfl,aZ _,f _ _ ?_⟩;clear f m;go_simp;apply aG;rfl;intro c B;go_simp;exact aF;refine aY rfl rfl (λm f=>?_);go_simp;refine Hh.x.mono ?_;rintro e c ⟨rfl,rfl⟩;refine⟨_,rfl,aZ _,f _ _ ?_⟩;clear f m;go_simp;apply aG;rfl;intro c B;go_simp;exact aF;refine aW ?_;go_wp2
   go_ret
   exact⟨⟨rfl,⟨rb,K,O⟩,rfl,rfl,av.x.kept (Below.refl _ _).drew,λb a=>.inl a,aM.of_below (Below.refl _ _).drew⟩,aM.of_below (Below.refl _ _).drew⟩
  ·rw[if_neg be] at I;have hI:¬(bw M.S.length:Int)<(bj L:Int)+(takes l.length:Int):=by omega
   have aU:=ec (aX M.S.length g L.length (bj L) l) M;have aV:=tg w.drew.drew rb g _ K M (Hd.x.kept (Below.refl _ _).drew.drew) (show eE w.drew.drew rb K.d g _ false from P.x) a8 g L.length (bj L) (.slice va l.length vc) l F (hv.keep (w':=w.drew.drew) λb _ _=>rfl) (by omega) (by omega) hl (by omega) (by omega) (by omega);generalize bD M (aX M.S.length g L.length (bj L) l)=mw at *;obtain⟨M',r⟩:=mw;dsimp only at I aU aV;have⟨a2,bq,az,Hv,bp⟩:=ae5 I aV aU hv (lK w.drew.drew rb K.d g _ false (show eE w.drew.drew rb K.d g _ false from P.x) R L (Hr.x.kept (Below.refl _ _).drew.drew) (by omega) (by omega) aP)
   have d0:∀c,jU (λb=>K.foot b \/ b=rb) rb w.drew.drew c -> c.cell? ⟨rb,1,none⟩=some (.int .i64 (g:Int)):=λc hh=>by
    rw[hh.2 1 (by omega)];simpa using Blk.cell P.x 1
   have d2:∀c,jU (λb=>K.foot b \/ b=rb) rb w.drew.drew c -> c.cell? ⟨rb,2,none⟩=some (.slice u L.length x):=λc hh=>by
    rw[hh.2 2 (by omega)];simpa using Blk.cell P.x 2
   clear I aV aU hv
   go_enter func31,ntmps31
   go_wp2_with fail;refine bP aK [0,2,3,6,7,8,9,10,11,12,13,501,504,5,514,15] (by kernel_rfl) ?_;apply aG;rfl;intro c B;go_simp;exact aF;refine aY rfl rfl (λm f=>?_);go_simp;refine Ht.x.mono ?_;rintro e c ⟨rfl,rfl⟩;refine⟨_,rfl,aZ _,f _ _ ?_⟩;clear f m;go_simp;refine aY rfl rfl (λm f=>?_);go_simp;refine ay.x.mono ?_;rintro e c ⟨rfl,rfl⟩;refine⟨_,rfl,aZ _,f _ _ ?_⟩;clear f m;go_simp;apply aG;rfl;intro c B;go_simp;exact aF;refine aY rfl rfl (λm f=>?_);go_simp;refine Hh.x.mono ?_;rintro e c ⟨rfl,rfl⟩;refine⟨_,rfl,aZ _,f _ _ ?_⟩;clear f m;go_simp;apply aG;rfl;intro c B;go_simp;exact aF;refine aW ?_;clear a0 b0 Ht ay Hh;go_wp2_with fail;refine bP (jU (λb=>K.foot b \/ b=rb) rb) (up 11 [12,511,513,14]) (by kernel_rfl) ?_;apply aG;rfl;intro c B;go_simp;exact aF;refine aY rfl rfl (λm f=>?_);go_simp;refine bp.x.mono ?_;rintro e c ⟨rfl,rfl⟩;refine⟨_,rfl,qM _ _ _,f _ _ ?_⟩;clear f m;go_simp;refine aY rfl rfl (λm f=>?_);go_simp;refine bq.x.mono ?_;rintro e k ⟨rfl,⟨T,aa,bv,an,bJ⟩,t,X⟩
   have bc:∀i,i<3 -> k.cell? ⟨rb,i,none⟩=w.drew.drew.cell? ⟨rb,i,none⟩:=λi hi=>by
    have e1:=Blk.cell t i;have e2:w.drew.drew.cell? ⟨rb,i,none⟩=_:=Blk.cell P.x i;rw[e1,e2];have:i=0 \/ i=1 \/ i=2:=by omega
    rcases this with rfl|rfl|rfl<;>rfl
   refine⟨_,rfl,⟨X,bc⟩,f _ _ ?_⟩;clear f m d0 d2 bc;go_simp;apply aG;rfl;intro c B;go_simp;exact aF;refine aW ?_
   have E:aM (λb=>K.foot b \/ b=rb) w k:=⟨X.os,X.tape,X.output,X.size,X.block⟩
   have ab:∀b,T.all b -> K.all b \/ w.heap.size <= b:=bv
   have bg:=λbu (hh:eE k rb K.d g (.slice u L.length x) bu)=>hh
   by_cases ar:r=0
   ·subst ar;have z:=a2.x;simp only[if_true] at z;have HM:=ae z;have bf:eE k rb K.d g (.slice u L.length x) false:=t
    have bm:bU R k 0 (.slice u L.length x) L:=Hr.x.keep λb a ao=>E.block b ao λn=>by
     have o:=N b (y b a);rcases n with n|n
     ·exact o.2.1 (bS.foot_all n)
     ·exact o.1 n
    have ba:aO F k (.slice va l.length vc) l:=Hv.x.keep λb a ao=>E.block b ao λn=>(hF b a).2 (by
     rcases n with n|n
     ·exact .inr (.inl (bS.foot_all n))
     ·exact .inl n)
    have t:=bf;have aR:=bm;have bX:w.heap.size <= k.heap.size:=E.size;obtain⟨xa,xc,A,bE,bB,ad,V,bb⟩:=mW k.drew _ (.slice va l.length vc) l ((ba.keep λb _ _=>rfl):aO _ k.drew (.slice va l.length vc) l) (by omega);change(AP _ _ #[.slice (some ⟨k.heap.size,0,none⟩) 0 0,_]).run _ (k.alloc _).drew=_ at bE;clear bB;have aT:k.heap.size <= A.heap.size:=ad.size;have aS:bU R A 0 (.slice u L.length x) L:=(aR.kept (w':=k.drew) (Below.refl _ _).drew).kept ad;obtain⟨G,H,Y,bx,bk,s⟩:=aS.append bb (λb a=>a.2.2) (by omega) (by omega);have aJ:=aS.appended rfl (by omega) bx;have aL:Blk A rb _ _:=(Blk.keep (w':=k.drew) t rfl).keep (ad.block rb (Blk.lt t));have ag:∀q,Value.ownBlock (.slice u L.length x)=some q -> q≠rb /\ q<k.heap.size:=λq C=>⟨(N q (y q (.inl C))).1,(aR.own C).2.1⟩
    have al:Blk Y rb _ 121:=(aL.alloc _).keep (s.block _ (by have:=aL.lt;simp;omega) (λe=>(ag _ e.symm).1 rfl));have k0:bI (λb=>b≠rb) k.drew (k.alloc (.cells #[] 5)).drew:=bI.of_below (aI k.drew _)
    have k1:bI (λb=>b≠rb) (k.alloc (.cells #[] 5)).drew A:=⟨V.os,V.tape,V.output,V.size,λq C W=>V.block q C (λe=>W (λe2=>by have:=Blk.lt t;simp at e;have:k.drew.heap.size=k.heap.size:=rfl;omega))⟩
    have k2:bI (λb=>b≠rb) A (A.alloc (.cells #[.slice xa l.length xc] 41)):=bI.of_below (aI _ _)
    have k3:bI (λb=>b≠rb) (A.alloc (.cells #[.slice xa l.length xc] 41)) Y:=⟨s.os,s.tape,s.output,s.size,λq C W=>s.block q C (λe=>W (λe2=>(ag _ e.symm).1 e2))⟩
    have bh:aM (λb=>b=rb \/ (Value.slice u L.length x).ownBlock=some b) k Y:=by
     have Z:aM (λb=>b=rb \/ (Value.slice u L.length x).ownBlock=some b) k.drew (A.alloc (.cells #[.slice xa l.length xc] 41)):=((aM.of_below (F:=λb=>b=rb \/ (Value.slice u L.length x).ownBlock=some b) (w:=k.drew) ad).alloc _)
     have o:aM (λb=>b=rb \/ (Value.slice u L.length x).ownBlock=some b) k (A.alloc (.cells #[.slice xa l.length xc] 41)):=⟨Z.os,Z.tape,Z.output,Z.size,Z.block⟩
     exact⟨s.os.trans o.os,s.tape.trans o.tape,s.output.trans o.output,au o.size s.size,λq C W=>(s.block q (aw C o.size) (λe=>W (.inr e.symm))).trans (o.block q C W)⟩
    have c2:=al.cell 2;have f2:=al.free 2;simp at c2;have a9:=al.set 2 (.slice G (L.length+1) H)
    have bl:bU _ (Y.setCell ⟨rb,2,none⟩ (.slice G (L.length+1) H)) 0 (.slice G (L.length+1) H) (L++[l]):=bk.keep λb a _=>Below.heap_setCell _ ⟨rb,2,none⟩ _ b (by
     have ao:=Blk.lt t;have hz:k.drew.heap.size=k.heap.size:=rfl;rcases a with a|a|a
     ·rcases aJ b a with h|h
      ·exact(ag b h).1
      ·show b≠rb;omega
     ·exact(N b (y b (.inr a))).1
     ·have:=a.1;show b≠rb;omega)
    have bi:aM (λb=>b=rb \/ (Value.slice u L.length x).ownBlock=some b) k (Y.setCell ⟨rb,2,none⟩ (.slice G (L.length+1) H)):=bh.setCell (p:=⟨rb,2,none⟩) (.inl (.inl rfl)) _
    have q2:∀c,bI (λb=>b≠rb) k.drew c -> c.cell? ⟨rb,2,none⟩=some (.slice u L.length x):=λc hh=>by
     simpa using(Blk.keep (w':=c) t (hh.block rb (Blk.lt t) (λh=>h rfl))).cell 2
    have a1:A.heap.size <= (Y.setCell ⟨rb,2,none⟩ (.slice G (L.length+1) H)).heap.size:=by have:=s.size;simp at this;simp[World.setCell];omega
    have⟨bn,a5,ak,a3,br,bo,bG⟩:=ae7 a9 bl bi aJ a1 aT ag;clear a9 bl bi bh bk al aS bb s V ad aL aR t aJ a1 aT ag;have⟨a4,Q,ai⟩:=ae3 an E aa;clear an E bf ba bg z t bm aa;go_wp2_with fail;refine dq (bI (λb=>b≠rb)) 12 (up 5 [6,505,507,508,509,10,11,512]) (by kernel_rfl) ?_;apply bC;rfl;intro c B;go_simp;exact aF;refine cD rfl rfl (λm f=>?_);go_simp;refine f _ _ ?_;clear f m;go_simp;refine cD rfl rfl (λm f=>?_);go_simp;refine f _ _ ?_;clear f m;go_simp;refine cD rfl rfl (λm f=>?_);go_simp;refine f _ _ ?_;clear f m;go_simp;refine cD rfl rfl (λm f=>?_);go_simp;refine f _ _ ?_;clear f m;go_simp;apply bC;rfl;intro c B;go_simp;exact aF;refine cG rfl rfl rfl (λm f=>?_);go_simp;refine f _ _ ?_;clear f m;go_simp;refine cZ ?_;go_wp2
    go_ret
    rw[HM.x];have aT:=bo.x;have bW:w.heap.size <= k.heap.size:=Q.x.size;have bY:=ak.x.size;have bd:=a4.x.lt;have a1:=br.x
    have a7:¬T.all rb:=λh=>by
     rcases ab _ h with h|h
     ·exact a8 h
     ·omega
    have aH:∀b,O b -> ¬T.all b:=λb a h=>by
     rcases ab _ h with h|h
     ·exact(N b a).2.1 h
     ·have:=(N b a).2.2;omega
    refine⟨⟨rfl,⟨rb,T,λb=>(Value.slice G (L.length+1) H).ownBlock=some b \/ _⟩,rfl,ai.x,⟨a4.x.only ak.x λb a n=>?_,⟨G,H,_,?_,by simpa using a5.x,λb a=>by simpa using a⟩,⟨a7,λb a=>?_⟩,?_,?_,bz,?_⟩,λb a=>?_,?_⟩,(Q.x.mono λb a=>ax.x b (.inl a)).trans ak.x λb a=>.inl (ax.x b (by rcases a with a|a;exact .inl (.inr a);exact .inr a))⟩
    ·rcases n with n|n
     ·exact a7 (n▸a)
     ·exact aH b (y b (.inl n)) a
    ·have:=bn.x;rw[<- ai.x] at this;simpa[eE] using this
    ·rcases a with a|a|a
     ·have o:=(a5.x.own a).2.1;rcases a3.x b a with h|h
      ·exact⟨(N b (y b (.inl h))).1,aH b (y b (.inl h)),o⟩
      ·exact⟨by show b≠rb;omega,λn=>by have:=bd b n;omega,o⟩
     ·have o:=N b (y b (.inr a));exact⟨o.1,aH b (y b (.inr a)),by have:=o.2.2;omega⟩
     ·have o:k.heap.size <= b:=a.1;have h2:=a.2.1;exact⟨by show b≠rb;omega,λn=>by have:=bd b n;omega,by omega⟩
    ·rw[az.x.1];exact h8
    ·show bj (L++[l]) <= bw M'.S.length;rw[az.x.1,eW];omega
    ·intro b a;rcases List.mem_append.1 a with a|a
     ·exact aP b a
     ·rw[List.mem_singleton.1 a];exact hl
    ·rcases a with a|a|a
     ·exact .inl (.inl a)
     ·rcases ab b a with h|h
      ·exact .inl (.inr (.inl h))
      ·exact .inr h
     ·rcases a with a|a|a
      ·rcases a3.x b a with h|h
       ·exact .inl (.inr (.inr (y b (.inl h))))
       ·exact .inr (by omega)
      ·exact .inl (.inr (.inr (y b (.inr a))))
      ·exact .inr (by have o:k.heap.size <= b:=a.1;omega)
    ·refine(Q.x.mono λb a=>?_).trans ak.x λb a=>?_
     ·rcases a with a|a
      ·exact .inr (.inl (bS.foot_all a))
      ·exact .inl a
     ·rcases a with a|a
      ·exact .inl (.inl a)
      ·exact .inl (.inr (.inr (y b (.inl a))))
   ·have bO:(r == 0)=false:=beq_eq_false_iff_ne.2 ar;have z:=a2.x;rw[if_neg ar] at z
    have hw:iC k ⟨rb,T,O⟩ M' ⟨g,L,true⟩:=av.x.wrote an aa ab true (λrv bF=>by
     have e:=(Blk.cell bF 2).symm.trans (Blk.cell P.x 2);simp at e;rw[e];have:=t;rw[show(!decide (r=0))=true from by simp[ar]] at this
     exact this) (E.mono λb a=>a.imp bS.foot_all id) az.x.1
    have⟨HM,Hw,Q,ai⟩:=ae4 z hw E aa;clear z hw E t an bg aa;go_wp2
    go_ret
    rw[HM.x];refine⟨⟨rfl,⟨rb,T,O⟩,rfl,ai.x,Hw.x,λb a=>?_,Q.x.mono λb a=>?_⟩,Q.x.mono λb a=>ax.x b (.inl a)⟩
    ·rcases a with a|a|a
     ·exact .inl (.inl a)
     ·rcases ab b a with h|h
      ·exact .inl (.inr (.inl h))
      ·exact .inr h
     ·exact .inl (.inr (.inr a))
    ·rcases a with a|a
     ·exact .inr (.inl (bS.foot_all a))
     ·exact .inl a
/- The reference journal: Replace. -/
theorem D1(e:aO G W u l)(d:∀b,G b -> ∃L a,W.heap[b]?=some (.cells L 5 a)):
 bU G (W.alloc (.cells #[u] 41)) 0 (.slice (some ⟨W.heap.size,0,none⟩) 1 1) [l]:=by
 have c:=aI W (.cells #[u] 41);refine⟨[u],⟨rfl,.inr ⟨W.heap.size,1,#[u],rfl,Nat.zero_le _,Blk.new W #[u] 41,aq _,by unfold maxLen;omega,rfl,rfl⟩⟩,λi hi=>?_,λb g=>?_⟩
 ·have:i=0:=by simp at hi;exact hi
  subst this;exact⟨u,rfl,e.keep λb _ f=>c.block b f⟩
 ·obtain⟨L,a,h⟩:=d b g;exact⟨L,a,(c.block b (lt_of_block h)).trans h⟩
theorem pF(jk:RJK)(M:MD)(J:MJ)(h:iC w jk M J)(F:aQ)(v:Value)(l:List UInt8)(hv:aO F w v l)(hF:∀b,F b -> b<w.heap.size /\ ¬jk.all b)(hl:l.length <= 65536)(D:M.writes+65536<4611686018427387904):
 Calls aE 126 #[.pointer (some ⟨jk.j,0,none⟩),v] w (Bb w jk M (dx M J l)):=by
 obtain⟨rb,K,O⟩:=jk;obtain⟨g,L,bp⟩:=J;have bc:=h;obtain⟨N,⟨V,W,R,B,hr,cc⟩,⟨a7,hO⟩,h8,ck,bA,cb⟩:=h;dsimp only at *;have a2:=ae (Bc N B hr);obtain⟨va,vc,rfl,-⟩:=id hv;have b2:=N.len;have b9:bw M.S.length <= 32768:=by unfold bw;omega
 have cl:takes l.length <= 1366:=by unfold takes;omega
 have ca:¬(65536:Int)<(l.length:Int):=by omega
 have c3:w.cell? ⟨rb,3,none⟩=some (.bool bp):=by simpa using Blk.cell B 3
 have Y:=ae bc;cases bp with
 |true=>
  have n:dx M ⟨g,L,true⟩ l=(M,⟨g,L,true⟩,341):=by unfold dx;rfl
  rw[n];clear bc N B hr n
  go_enter func126,ntmps126
  go_wp2
  go_ret
  exact⟨⟨rfl,⟨rb,K,O⟩,rfl,rfl,Y.x,λb a=>.inl a,aM.refl _ _⟩,aM.refl _ _⟩
 |false=>
  obtain⟨bW,b6,c0,-⟩:=N.row;have ce:=Blk.lt B;have a0:∀c,aK w.drew c -> c.cell? ⟨rb,0,none⟩=some (.pointer (some ⟨K.d,0,none⟩)):=λc hh=>dY (by simpa using Blk.cell B 0) hh
  have a1:∀c,aK w.drew c -> c.cell? ⟨rb,1,none⟩=some (.int .i64 (g:Int)):=λc hh=>dY (by simpa using Blk.cell B 1) hh
  have b0:∀c,aK w.drew c -> c.cell? ⟨K.d,0,none⟩=some (.slice (some ⟨K.bs,0,none⟩) M.S.length bW):=λc hh=>dY c0 hh
  have⟨ax,Hh,Hd,Hj,Hr⟩:=ae5 (jT w.drew l.length (by omega)) (lj w.drew M.S.length (by omega) b2) N B hr
  have u:dx M ⟨g,L,false⟩ l=if bw M.S.length<takes l.length \/ 4294967295 <= g then(M,⟨g,L,false⟩,7) else
   if(bD M (aX M.S.length (g+1) 0 0 l++[((g+1)%2,dw (g+1))])).2=0 then((bD M (aX M.S.length (g+1) 0 0 l++[((g+1)%2,dw (g+1))])).1,⟨g+1,[l],false⟩,0) else((bD M (aX M.S.length (g+1) 0 0 l++[((g+1)%2,dw (g+1))])).1,⟨g,L,true⟩,(bD M (aX M.S.length (g+1) 0 0 l++[((g+1)%2,dw (g+1))])).2):=by
   unfold dx;simp only[Bool.false_eq_true,if_false];rw[if_neg (by omega)]
  have cm:=ei l.length;clear bc N B hr c0
  by_cases b1:bw M.S.length<takes l.length
  ·rw[if_pos (.inl b1)] at u;rw[u];have hI:(bw M.S.length:Int)<(takes l.length:Int):=by omega
   clear u
   go_enter func126,ntmps126
   go_wp2_with fail;refine bP aK [0,1,3,4,5,6,7,8,9,10,502,511,12,13,14,15,16,17,18,19] (by kernel_rfl) ?_;apply aG;rfl;intro c s;go_simp;exact aF;refine aY rfl rfl (λq m=>?_);go_simp;refine ax.x.mono ?_;rintro e c ⟨rfl,rfl⟩;refine⟨_,rfl,aZ _,m _ _ ?_⟩;clear m q;go_simp;apply aG;rfl;intro c s;go_simp;exact aF;refine aY rfl rfl (λq m=>?_);go_simp;refine Hh.x.mono ?_;rintro e c ⟨rfl,rfl⟩;refine⟨_,rfl,aZ _,m _ _ ?_⟩;clear m q;go_simp;apply aG;rfl;intro c s;go_simp;exact aF;refine aW ?_;go_wp2
   go_ret
   exact⟨⟨rfl,⟨rb,K,O⟩,rfl,rfl,Y.x.kept (Below.refl _ _).drew,λb a=>.inl a,aM.of_below (Below.refl _ _).drew⟩,aM.of_below (Below.refl _ _).drew⟩
  by_cases ba:4294967295 <= g
  ·rw[if_pos (.inr ba)] at u;rw[u];have hI:¬(bw M.S.length:Int)<(takes l.length:Int):=by omega
   have a5:(4294967295:Int) <= (g:Int):=by omega
   clear u
   go_enter func126,ntmps126
   go_wp2_with fail;refine bP aK [0,1,3,4,5,6,7,8,9,10,502,511,12,13,14,15,16,17,18,19] (by kernel_rfl) ?_;apply aG;rfl;intro c s;go_simp;exact aF;refine aY rfl rfl (λq m=>?_);go_simp;refine ax.x.mono ?_;rintro e c ⟨rfl,rfl⟩;refine⟨_,rfl,aZ _,m _ _ ?_⟩;clear m q;go_simp;apply aG;rfl;intro c s;go_simp;exact aF;refine aY rfl rfl (λq m=>?_);go_simp;refine Hh.x.mono ?_;rintro e c ⟨rfl,rfl⟩;refine⟨_,rfl,aZ _,m _ _ ?_⟩;clear m q;go_simp;apply aG;rfl;intro c s;go_simp;exact aF;refine aW ?_;go_wp2
   go_ret
   exact⟨⟨rfl,⟨rb,K,O⟩,rfl,rfl,Y.x.kept (Below.refl _ _).drew,λb a=>.inl a,aM.of_below (Below.refl _ _).drew⟩,aM.of_below (Below.refl _ _).drew⟩
  rw[if_neg (by omega)] at u;have hI:¬(bw M.S.length:Int)<(takes l.length:Int):=by omega
  have a5:¬(4294967295:Int) <= (g:Int):=by omega
  have bi:=ec (aX M.S.length (g+1) 0 0 l) M;have bJ:=ec (aX M.S.length (g+1) 0 0 l++[((g+1)%2,dw (g+1))]) M;have cd:(aX M.S.length (g+1) 0 0 l).length <= 32768:=by rw[mP];omega
  have a8:=gJ M (aX M.S.length (g+1) 0 0 l) [((g+1)%2,dw (g+1))];have aR:=tg w.drew rb g _ K M (Hd.x.kept (Below.refl _ _).drew) (show eE w.drew rb K.d g _ false from Hj.x) a7 (g+1) 0 0 (.slice va l.length vc) l F (hv.keep (w':=w.drew) λb _ _=>rfl) (by omega) (by omega) hl (by omega) (by omega) (by omega);generalize bD M (aX M.S.length (g+1) 0 0 l++[((g+1)%2,dw (g+1))])=mf at *;generalize bD M (aX M.S.length (g+1) 0 0 l)=mw at *;obtain⟨I,r⟩:=mw;dsimp only at u bi aR a8;rw[show((g+1:Nat):Int)=(g:Int)+1 from by omega,show((0:Nat):Int)=0 from rfl] at aR;have⟨aS,bV,a3,Hv,bk,a4⟩:=ae6 u aR bi hv a8 bJ;have c1:w.drew.cell? ⟨rb,1,none⟩=some (.int .i64 (g:Int)):=by simpa using Blk.cell Hj.x 1
  have b8:=af ((g:Int)+1) (by omega);have⟨aU,b4⟩:=ae2 ba bA;have b7:decide ((4294967295:Int) <= (g:Int))=false:=by simpa using a5
  have bT:=ae D;clear u aR bi hv a8 bJ ba bA a5 D
  go_enter func126,ntmps126
  go_wp2_with fail;refine bP aK [0,1,3,4,5,6,7,8,9,10,502,511,12,13,14,15,16,17,18,19] (by kernel_rfl) ?_;apply aG;rfl;intro c s;go_simp;exact aF;refine aY rfl rfl (λq m=>?_);go_simp;refine ax.x.mono ?_;rintro e c ⟨rfl,rfl⟩;refine⟨_,rfl,aZ _,m _ _ ?_⟩;clear m q;go_simp;apply aG;rfl;intro c s;go_simp;exact aF;refine aY rfl rfl (λq m=>?_);go_simp;refine Hh.x.mono ?_;rintro e c ⟨rfl,rfl⟩;refine⟨_,rfl,aZ _,m _ _ ?_⟩;clear m q;go_simp;apply aG;rfl;intro c s;go_simp;exact aF;refine aW ?_;clear a0 a1 b0 ax Hh;go_wp2_with fail;refine bV.x.mono ?_;rintro e x ⟨rfl,⟨A,aa,bX,aJ,bZ⟩,aL,T⟩
  have ak:aM (λb=>K.foot b \/ b=rb) w x:=⟨T.os,T.tape,T.output,T.size,T.block⟩
  have ay:∀b,A.all b -> K.all b \/ w.heap.size <= b:=bX
  by_cases ao:r=0
  ·subst ao;have G:=bk.x;rw[if_pos rfl] at G;have bF:bD I [((g+1)%2,dw (g+1))]=I.wr ((g+1)%2) (dw (g+1)):=eD I [] _ _ rfl;rw[bF] at G;subst G;have P:eE x rb K.d g (.slice V L.length W) false:=aL
   have a6:¬A.all rb:=λh=>by
    rcases ay _ h with h|h
    ·exact a7 h
    ·omega
   have q0:∀c,bI A.foot x.drew c -> c.cell? ⟨rb,0,none⟩=some (.pointer (some ⟨K.d,0,none⟩)):=λc hh=>by
    simpa using(Blk.keep (w':=c) P (hh.block _ (Blk.lt P) λh=>a6 (bS.foot_all h))).cell 0
   have q1:∀c,bI A.foot x.drew c -> c.cell? ⟨rb,1,none⟩=some (.int .i64 (g:Int)):=λc hh=>by
    simpa using(Blk.keep (w':=c) P (hh.block _ (Blk.lt P) λh=>a6 (bS.foot_all h))).cell 1
   have bb:=uU x.drew (g+1) (by have:=aU.x;omega);rw[show((g+1:Nat):Int)=(g:Int)+1 from by omega] at bb;have ch:=am ((g:Int)+1) 2 (by have:=aU.x;omega);have⟨bm,bl,aV,Z,ar⟩:=ae5 bb aJ P ak aa;clear bb aJ aL P ak bF aa T c1;go_wp2_with fail;refine bP (bI A.foot) (up 15 [515,516,17]) (by kernel_rfl) ?_;apply aG;rfl;intro c s;go_simp;(repeat (simp(disch:=omega) only[af,aj,ap,ah,am,if_pos];go_simp));exact aF;refine aY rfl rfl (λq m=>?_);go_simp;refine bm.x.mono ?_;rintro e w4 ⟨r4,rfl,bG,E⟩;refine⟨_,rfl,bI.of_below E,m _ _ ?_⟩;clear m q q0 q1 bm;go_simp
   have a9:Kpt x w4:=⟨E.os,E.tape,E.output,E.size,E.block⟩
   have bd:=oS (g+1);have br:=aO.of_owns (l:=dw (g+1)) (by rw[bd];exact bG) (λb=>x.heap.size <= b) (λk hk _=>hk);have aP:=E0 w4 A I (bl.x.kept a9) ((g+1)%2) (by have:=a3.x.1;omega) (by have:=a3.x.2;have:=bT.x;omega) _ _ _ br bd (λb a e=>by have:=bl.x.lt _ (.inl rfl);rw[e] at a;omega);rw[ar.x,show(((g+1)%2:Nat):Int)=((g:Int)+1)%2 from by omega] at aP;generalize I.wr ((g+1)%2) (dw (g+1))=mq at *;obtain⟨M5,r5⟩:=mq;dsimp only at aP;have⟨bU,aT⟩:=ae2 aP a9;clear aP br bG bd E a9;apply aG;rfl;intro c s;go_simp;(repeat (simp(disch:=omega) only[af,aj,ap,ah,am,if_pos];go_simp));exact aF;refine aY rfl rfl (λq m=>?_);go_simp;refine bU.x.mono ?_;rintro e o ⟨rfl,⟨H,ab,bY,ad⟩,al⟩;refine⟨_,rfl,al,m _ _ ?_⟩;clear m q;go_simp;apply aG;rfl;intro c s;go_simp;exact aF;refine aW ?_;have co:x.heap.size <= w4.heap.size:=aT.x.size;have cn:w.heap.size <= x.heap.size:=Z.x.size
   have U:aM (λb=>K.foot b \/ b=rb) w o:=(Z.x.trans (aM.of_below (F:=none_) aT.x) λi hi=>hi.elim).trans al λi hi=>by
    rcases hi with h|h
    ·exact .inl (.inl (.inl (h.trans ar.x)))
    ·exact .inl (.inl (.inr (h.trans bZ)))
   have az:∀b,H.all b -> K.all b \/ w.heap.size <= b:=λb a=>by
    rcases bY b a with h|h
    ·exact ay b h
    ·exact .inr (by omega)
   have t:eE o rb K.d g (.slice V L.length W) false:=Blk.keep (Blk.keep aV.x (aT.x.block rb (Blk.lt aV.x))) (al.block rb (by have:=Blk.lt aV.x;show rb<w4.heap.size;omega) λh=>a6 (bS.foot_all h))
   have aH:¬H.all rb:=λh=>by
    rcases az _ h with h|h
    ·exact a7 h
    ·omega
   by_cases bf:r5=0
   ·subst bf;have n:=aS.x;dsimp only at n;rw[if_pos rfl] at n;have c1:o.cell? ⟨rb,1,none⟩=some (.int .i64 (g:Int)):=by simpa using Blk.cell t 1
    have f1:=Blk.free t 1
    have Q:eE (o.setCell ⟨rb,1,none⟩ (.int .i64 ((g:Int)+1))) rb K.d (g+1) (.slice V L.length W) false:=by
     have:=Blk.set t 1 (.int .i64 ((g:Int)+1));simpa[eE] using this
    have C:aM (λb=>b=rb) o (o.setCell ⟨rb,1,none⟩ (.int .i64 ((g:Int)+1))):=aM.setCell (aM.refl (λb=>b=rb) o) (p:=⟨rb,1,none⟩) (.inl (show rb=rb from rfl)) _;have bv:=ad.only C λb a e=>aH (e▸a)
    have be:aM (λb=>K.foot b \/ b=rb) w _:=U.trans C λi hi=>.inl (.inr hi)
    have bH:=Hv.x.only be λb a h=>(hF b a).2 (by
     rcases h with h|h
     ·exact .inr (.inl (bS.foot_all h))
     ·exact .inl h)
    obtain⟨xa,xc,f,b3,-,ai,-,bt⟩:=mW _ _ (.slice va l.length vc) l bH (by omega);have z:(o.setCell ⟨rb,1,none⟩ (.int .i64 ((g:Int)+1))).heap.size=o.heap.size:=by simp[World.setCell]
    rw[z] at b3;have cq:o.heap.size <= f.heap.size:=by have:=ai.size;rw[z] at this;exact this
    have ag:eE f rb K.d (g+1) (.slice V L.length W) false:=Blk.keep Q (ai.block rb (Blk.lt Q));have cp:w.heap.size <= o.heap.size:=U.size;have c2:f.cell? ⟨rb,2,none⟩=some (.slice V L.length W):=by simpa using Blk.cell ag 2
    have f2:=Blk.free ag 2
    have bB:eE (f.setCell ⟨rb,2,none⟩ (.slice (some ⟨f.heap.size,0,none⟩) 1 1)) rb K.d (g+1) (.slice (some ⟨f.heap.size,0,none⟩) 1 1) false:=by
     have:=Blk.set ag 2 (.slice (some ⟨f.heap.size,0,none⟩) 1 1);simpa[eE] using this
    have cj:=Blk.lt ag;have an:aM (λb=>b=rb) f (f.setCell ⟨rb,2,none⟩ (.slice (some ⟨f.heap.size,0,none⟩) 1 1)):=aM.setCell (aM.refl (λb=>b=rb) f) (p:=⟨rb,2,none⟩) (.inl (show rb=rb from rfl)) _;have aN:(f.setCell ⟨rb,2,none⟩ (.slice (some ⟨f.heap.size,0,none⟩) 1 1)).heap.size=f.heap.size:=by simp[World.setCell]
    have bu:=bt.only an (λb a e=>by
     have y:=a.1;rw[z] at y;rw[e] at y;have:=Blk.lt t
     omega)
    have bg:=D1 bu (λb a=>by
     obtain⟨L',fz,bq⟩:=a.2.2
     exact⟨L',fz,(an.block b (lt_of_block bq) (λe=>by
      have y:=a.1;rw[z] at y;rw[e] at y;have:=Blk.lt t
      omega)).trans bq⟩)
    rw[aN] at bg;have bx:bS ((f.setCell ⟨rb,2,none⟩ (.slice (some ⟨f.heap.size,0,none⟩) 1 1)).alloc (.cells #[.slice xa l.length xc] 41)) H M5:=((bv.kept ai).only an λb a e=>aH (e▸a)).kept (aI _ _);have bC:eE ((f.setCell ⟨rb,2,none⟩ (.slice (some ⟨f.heap.size,0,none⟩) 1 1)).alloc (.cells #[.slice xa l.length xc] 41)) rb K.d (g+1) (.slice (some ⟨f.heap.size,0,none⟩) 1 1) false:=Blk.alloc bB _;have bE:aM (λb=>K.foot b \/ b=rb) w ((f.setCell ⟨rb,2,none⟩ (.slice (some ⟨f.heap.size,0,none⟩) 1 1)).alloc (.cells #[.slice xa l.length xc] 41)):=((be.trans (aM.of_below (F:=none_) ai) λi hi=>hi.elim).trans an λi hi=>.inl (.inr hi)).alloc _;have bz:=ad.lt;have⟨X,bO,bL,bM,bo,av,bQ,bR⟩:=ae8 n bg bx bC bE ab z aN;have bN:=ae (Blk.lt t);clear n bg bx bC bE ab z aN bu an bB ag ai bt bH be bv C Q t U ad al;go_wp2
    go_ret
    rw[X.x];have z:=bQ.x;have aN:=bR.x;have ci:=bN.x;have bK:((f.setCell ⟨rb,2,none⟩ (.slice (some ⟨f.heap.size,0,none⟩) 1 1)).alloc (.cells #[.slice xa l.length xc] 41)).heap.size=f.heap.size+1:=by simp
    refine⟨⟨rfl,⟨rb,H,λb=>(Value.slice (some ⟨f.heap.size,0,none⟩) 1 1).ownBlock=some b \/ _⟩,rfl,av.x,⟨bL.x,⟨some ⟨f.heap.size,0,none⟩,1,_,?_,bO.x,λb a=>a⟩,⟨aH,λb a=>?_⟩,?_,?_,?_,?_⟩,λb a=>?_,bo.x.mono λb a=>?_⟩,bo.x.mono λb a=>a2.x b (.inl a)⟩
    ·have:=bM.x;rw[<- av.x] at this;exact this
    ·rcases a with a|a
     ·simp[Value.ownBlock] at a;subst a;exact⟨by show f.heap.size≠rb;omega,λhx=>by have:=bz _ hx;omega,by rw[bK];omega⟩
     ·have y:=a.1;have h2:=a.2.1;rw[z] at y;exact⟨by show b≠rb;omega,λhx=>by have:=bz b hx;omega,by rw[bK];omega⟩
    ·rw[show M5.S.length=M.S.length from a4.x.1];exact h8
    ·show bj [l] <= bw M5.S.length;rw[show M5.S.length=M.S.length from a4.x.1];simp[bj];omega
    ·show g+1<4294967296;have:=aU.x;omega
    ·intro b a;rw[List.mem_singleton.1 a];exact hl
    ·rcases a with a|a|a
     ·exact .inl (.inl a)
     ·rcases az b a with h|h
      ·exact .inl (.inr (.inl h))
      ·exact .inr h
     ·rcases a with a|a
      ·simp[Value.ownBlock] at a;exact .inr (by omega)
      ·have y:=a.1;rw[z] at y;exact .inr (by omega)
    ·rcases a with a|a
     ·exact .inr (.inl (bS.foot_all a))
     ·exact .inl a
   ·have cg:(r5 != 0)=true:=bne_iff_ne.2 bf;have f3:=Blk.free t 3;have b5:o.cell? ⟨rb,3,none⟩=some (.bool false):=by simpa using Blk.cell t 3
    have C:aM (λb=>b=rb) o (o.setCell ⟨rb,3,none⟩ (.bool true)):=aM.setCell (aM.refl (λb=>b=rb) o) (p:=⟨rb,3,none⟩) (.inl (show rb=rb from rfl)) _;have Q:eE (o.setCell ⟨rb,3,none⟩ (.bool true)) rb K.d g (.slice V L.length W) true:=Blk.set t 3 (.bool true)
    have D:iC (o.setCell ⟨rb,3,none⟩ (.bool true)) ⟨rb,H,O⟩ M5 ⟨g,L,true⟩:=Y.x.wrote (ad.only C λb a e=>aH (e▸a)) ab az true (λrv bh=>by
     have e:=(Blk.cell bh 2).symm.trans (Blk.cell Hj.x 2);simp at e;rw[e]
     exact Q) ((U.trans C λi hi=>.inl (.inr hi)).mono λb a=>a.imp bS.foot_all id) (by have:=a4.x.1;exact this)
    have n:=aS.x;dsimp only at n;rw[if_neg bf] at n;have⟨X,Hw,bn,av⟩:=ae4 n D (U.trans C λi hi=>.inl (.inr hi)) ab;clear n D U t ad ab C Q al;go_wp2
    go_ret
    rw[X.x];refine⟨⟨rfl,⟨rb,H,O⟩,rfl,av.x,Hw.x,λb a=>?_,bn.x.mono λb a=>?_⟩,bn.x.mono λb a=>a2.x b (.inl a)⟩
    ·rcases a with a|a|a
     ·exact .inl (.inl a)
     ·rcases az b a with h|h
      ·exact .inl (.inr (.inl h))
      ·exact .inr h
     ·exact .inl (.inr (.inr a))
    ·rcases a with a|a
     ·exact .inr (.inl (bS.foot_all a))
     ·exact .inl a
  ·have cf:(r != 0)=true:=bne_iff_ne.2 ao;have n:=aS.x;have G:=bk.x;rw[if_neg ao] at G;rw[G] at n;dsimp only at n;rw[if_neg ao] at n
   have D:iC x ⟨rb,A,O⟩ I ⟨g,L,true⟩:=Y.x.wrote aJ aa ay true (λrv bh=>by
    have e:=(Blk.cell bh 2).symm.trans (Blk.cell Hj.x 2);simp at e;rw[e];have:=aL;rw[show(!decide (r=0))=true from by simp[ao]] at this
    exact this) (ak.mono λb a=>a.imp bS.foot_all id) a3.x.1
   have⟨X,Hw,Z,ar⟩:=ae4 n D ak aa;clear n D ak aL aJ aa G;go_wp2
   go_ret
   rw[X.x];refine⟨⟨rfl,⟨rb,A,O⟩,rfl,ar.x,Hw.x,λb a=>?_,Z.x.mono λb a=>?_⟩,Z.x.mono λb a=>a2.x b (.inl a)⟩
   ·rcases a with a|a|a
    ·exact .inl (.inl a)
    ·rcases ay b a with h|h
     ·exact .inl (.inr (.inl h))
     ·exact .inr h
    ·exact .inl (.inr (.inr a))
   ·rcases a with a|a
    ·exact .inr (.inl (bS.foot_all a))
    ·exact .inl a
end
section
open Go.Lib
attribute [local go_sem] opC upC
structure f8(Z:aQ)(w:World)(rk:RJK)(u:Nat)(M:MD)(U:MU):Prop where
 box:∃a1 c1 a2 c2 a3 c3,Blk w u [.int .i64 (U.dev:Int),.slice a1 U.m.seen.length c1,.slice a2 U.m.items.length c2,.slice a3 U.m.gone.length c3,.pointer (some ⟨rk.j,0,none⟩)] 77 /\
  ce (λq=>¬rk.all q /\ q≠u /\ ¬Z q) w (.slice a1 U.m.seen.length c1) (.slice a2 U.m.items.length c2) (.slice a3 U.m.gone.length c3) U.m
 jat:iC w rk M U.J
 ne:¬rk.all u
theorem f8.lt{Z:aQ}{w:World}{b:RJK}{u:Nat}{M:MD}{U:MU}(h:f8 Z w b u M U):u<w.heap.size:=by
 obtain⟨c,f,d,g,e,i,a,-⟩:=h.box;exact a.lt
theorem f8.keep{Z:aQ}{w w':World}{c:RJK}{u:Nat}{M:MD}{U:MU}(h:f8 Z w c u M U)(a:Kpt w w'):f8 Z w' c u M U:=by
 obtain⟨d,g,e,i,f,j,b,k⟩:=h.box;exact⟨⟨d,g,e,i,f,j,b.keep (a.block _ b.lt),k.keep λq _ l=>a.block q l⟩,h.jat.kept a,h.ne⟩
def f9(Z:aQ)(w:World)(K:RK)(M:MD)(r:MU ⊕ Int)(e:Ending)(b:World):Prop:=(match r with
 |.inr c=>e=.returned (.tuple #[.pointer none,.int .i64 c])
 |.inl U=>∃u a,e=.returned (.tuple #[.pointer (some ⟨u,0,none⟩),.int .i64 0]) /\ a.K=K /\ f8 Z b a u M U /\ (∀q,a.all q -> K.all q \/ w.heap.size <= q) /\ w.heap.size <= u) /\ Kpt w b
def Gk(J:MJ):Option (Nat×aT) -> MU ⊕ Int
 |none=>.inr 5
 |some (d,m)=>.inl ⟨d,m,J⟩
theorem Aq(w:World)(hZ:∀q,F q -> q<w.heap.size)(K:RK)(M:MD)(h:bS w K M):
 Calls aE 34 #[.pointer (some ⟨K.d,0,none⟩)] w (f9 F w K M (eZ M)):=by
 have y:=Ci w K M h;obtain⟨o,I⟩:=aH (gX M);rw[I] at y;have Q:=y;have x:=ae I;have HZ:=hZ;clear y I h hZ
 go_enter func34,ntmps34
 go_wp2_with fail;refine Q.mono ?_;rintro e g ⟨i,s⟩;clear Q;cases o with
 |inr c=>
  obtain rfl:e=.returned (.tuple #[.pointer none,.int .i64 c]):=i;have aT:¬c=0:=by rcases uR x.x with h|h|h<;>rw[h]<;>decide
  have b:=ae (show f9 F w K M (eZ M) (.returned (.tuple #[.pointer none,.int .i64 c])) g from by
   unfold eZ;rw[x.x]
   exact⟨rfl,s⟩)
  clear s;go_wp2;go_ret2;exact b.x
 |inl J=>
  obtain⟨k,rfl,hK,u,ai⟩:=i;obtain⟨ra,rc,R,an,N,aO⟩:=u.recs;have c2:=Blk.cell an 2;simp at c2;obtain⟨v,H⟩:=aH J.L.length;have aV:v <= 9223372036854775807:=by obtain⟨_,_,_,aU,aN⟩:=N.shape;unfold maxLen at aN;omega
  have n:=ae (Ai g R 0 _ J.L N u.lens)
  have V:=ae (show eZ M=if J.L = [] then .inr 340 else Gk J (fh J.L) by
   unfold eZ;rw[x.x];dsimp only
   by_cases h:J.L = []
   ·rw[if_pos h,if_pos h]
   ·rw[if_neg h,if_neg h];cases fh J.L with
    |none=>rfl
    |some p=>rfl)
  have⟨T,HK,az,a,U⟩:=ae5 u hK ai s H;rw[H] at c2 n;clear u hK ai s an N aO H
  by_cases h0:v=0
  ·subst h0
   have b:=ae (show f9 F w K M (eZ M) (.returned (.tuple #[.pointer none,.int .i64 340])) g from by
    rw[V.x,if_pos (List.length_eq_zero_iff.1 U.x)]
    exact⟨rfl,a.x⟩)
   clear n;go_wp2;go_ret2;exact b.x
  ·have aL:¬(v:Int)=0:=by omega
   have aR:((v:Int) == 0)=false:=beq_eq_false_iff_ne.2 aL;obtain⟨of,ar⟩:=aH (fh J.L)
   have X:eZ M=Gk J of:=by
    rw[V.x,if_neg (λe=>h0 (by rw[<- U.x,e];rfl)),ar]
   rw[ar] at n;go_wp2_with fail;refine n.x.mono ?_;rintro e w2 ⟨i,A⟩;cases of with
   |none=>
    obtain rfl:=i
    have b:=ae (show ∀W,Kpt w W -> f9 F w K M (eZ M) (.returned (.tuple #[.pointer none,.int .i64 5])) W from λW hW=>by
     rw[X]
     exact⟨rfl,hW⟩)
    have S:=a.x.trans (A.mono a.x.size);go_wp2;go_ret2;exact b.x _ (S.trans ((aI _ _).mono S.size))
   |some p=>
    obtain⟨d,m⟩:=p;obtain⟨r,rfl,P⟩:=i
    replace P:=qU P 75
    obtain⟨ab,av,ad,ax,ag,ay,f,rfl,aa,aF,aK,aJ,aG⟩:=P;obtain⟨d0,d1,d2⟩:=aS aG.x;obtain⟨l,O⟩:=aP (f.alloc (.cells #[.int .i64 (d:Int),.slice ab m.seen.length av,.slice ad m.items.length ax,.slice ag m.gone.length ay,.pointer (some ⟨k.j,0,none⟩)] 77));have al:Kpt f l:=by rw[O];exact aI _ _
    have aM:Blk l f.heap.size [.int .i64 (d:Int),.slice ab m.seen.length av,.slice ad m.items.length ax,.slice ag m.gone.length ay,.pointer (some ⟨k.j,0,none⟩)] 77:=by rw[O];exact Blk.new _ _ _
    have t:Kpt g f:=A.trans (aF.x.mono A.size);have ak:Kpt g l:=t.trans (al.mono t.size);have ao:=T.x.lt;have hu:¬k.all f.heap.size:=λz=>by have:=ao _ z;have:=t.size;omega
    have b:=ae (show f9 F w K M (eZ M) (.returned (.tuple #[.pointer (some ⟨f.heap.size,0,none⟩),.int .i64 0])) l from by
     rw[X];refine⟨⟨_,k,rfl,HK.x,⟨⟨_,_,_,_,_,_,aM,(aJ.x.mono (G:=λq=>¬k.all q /\ q≠f.heap.size /\ ¬F q) λq hq B=>?_).keep (w':=l) λq _ B=>al.block q B⟩,T.x.kept ak,hu⟩,az.x,?_⟩,a.x.trans (ak.mono a.x.size)⟩
     ·have aW:g.heap.size <= q:=hq;exact⟨λz=>by have:=ao _ z;omega,Nat.ne_of_lt B,λhz=>by have:=HZ q hz;have:=a.x.size;omega⟩
     ·have:=a.x.size;have:=t.size
      omega)
    have Y:=O;obtain⟨n1,C⟩:=aH m.seen.length;obtain⟨n2,D⟩:=aH m.items.length;obtain⟨n3,E⟩:=aH m.gone.length;rw[C,D,E] at Y aa;rw[C] at d0;rw[D] at d1;rw[E] at d2;rw[C,D,E];go_wp2;rw[<- aa.x];rw[<- Y];go_ret2;have h:=b.x;rw[aK.x] at h;exact h
end
section
open Go.Lib
attribute [local go_sem] opC upC told bE bm bF bp bq bG bH
def iE(w:World)(q:Nat):Prop:=E1 w q \/ ∃L a,w.heap[q]?=some (.cells L 77 a)
theorem iE.back(h:iE w' i)(b:aM (iE W) W w'):iE W i \/ W.heap.size <= i:=by
 by_cases c:i<W.heap.size
 ·by_cases a:iE W i
  ·exact .inl a
  ·have e:=b.block i c a;unfold iE E1 at h;rw[e] at h;exact .inl h
 ·exact .inr (by omega)
def jh(w b:World)(rk a:RJK)(u:Nat):Prop:=a.j=rk.j /\ a.K.d=rk.K.d /\ (∀q,a.all q -> rk.all q \/ w.heap.size <= q) /\ aM (λq=>rk.all q \/ q=u) w b /\ aM (iE w) w b
theorem jh.same{rk:RJK}{u:Nat}(h:Kpt W w'):jh W w' rk rk u:=⟨rfl,rfl,λ_ h=>.inl h,aM.of_below h,aM.of_below h⟩
theorem jh.trans{w f g:World}{c d e:RJK}{u:Nat}(h:jh w f c d u)(k:jh f g d e u):jh w g c e u:=
 ⟨k.1.trans h.1,k.2.1.trans h.2.1,λq b=>by
  rcases k.2.2.1 q b with a|a
  ·exact h.2.2.1 q a
  ·exact .inr (au h.2.2.2.1.size a),h.2.2.2.1.trans k.2.2.2.1 λq b=>by
   rcases b with a|a
   ·exact(h.2.2.1 q a).imp .inl id
   ·exact .inl (.inr a),h.2.2.2.2.trans k.2.2.2.2 λq b=>b.back h.2.2.2.2⟩
def gL(Z:aQ)(w:World)(c:RJK)(u:Nat)(r:MD×MU×Int)(e:Ending)(b:World):Prop:=
 e=.returned (.int .i64 r.2.2) /\ ∃a,jh w b c a u /\ f8 Z b a u r.1 r.2.1
theorem f8.moved{Z:aQ}{d e:RJK}{M l:MD}{U:MU}{k:MJ}(h:f8 Z W d i M U)(o:aM d.all W w')(A:iC w' e l k)(B:e.j=d.j)(n:∀b,e.all b -> d.all b \/ W.heap.size <= b):f8 Z w' e i l ⟨U.dev,U.m,k⟩:=by
 obtain⟨p,t,r,v,s,x,y,z⟩:=h.box;have C:=h.lt;refine⟨⟨p,t,r,v,s,x,by rw[B];exact y.keep (o.block i C h.ne),((z.mono (G:=λq=>q<W.heap.size /\ ¬d.all q /\ q≠i /\ ¬Z q) λq a g=>⟨g,a⟩).keep (w':=w') λq a g=>o.block q g a.2.1).mono λq a _=>⟨λf=>?_,a.2.2⟩⟩,A,λf=>?_⟩
 ·rcases n q f with c|c
  ·exact a.2.1 c
  ·have:=a.1;omega
 ·rcases n i f with c|c
  ·exact h.ne c
  ·omega
theorem oC{d:Nat}(a:aV r=true):(dB d r).length <= 60011:=by
 have b:=(cX a).2.2.2;have c:=cq d;unfold dB;rw[aD,aA];omega
theorem mu{U:MU}:js N U l U.m=((cw N U.J l).1,⟨U.dev,U.m,(cw N U.J l).2.1⟩,(cw N U.J l).2.2):=by
 unfold js;split
 ·rename_i h;rw[h]
 ·rfl
theorem qN(w:World)(i:RJK)(u:Nat)(M:MD)(U:MU)(h:f8 F w i u M U)(hd:U.dev<8)(hv:aV U.m=true)(L:aQ)(v:Value)(b:List UInt8)(hB:aO L w v b)(hF:∀q,L q -> q<w.heap.size /\ ¬i.all q)(hw:M.writes+200000<4611686018427387904):
 Calls aE 122 #[.pointer (some ⟨u,0,none⟩),v] w (gL F w i u (cE M U b U.m)):=by
 obtain⟨av,cv,rfl,bn,a7,-⟩:=id hB;have bm:b.length <= 9223372036854775807:=by unfold maxLen at a7;omega
 obtain⟨rm,Y⟩:=aH (kW M U.J);have HR:Calls aE 183 #[.pointer (some ⟨i.j,0,none⟩)] w λe c=>e=.returned (.int .i64 rm) /\ w=c:=by rw[<- Y];exact uT w i M U.J h.jat
 have bo:=yp M U.J;rw[Y] at bo;obtain⟨a1,p1,a2,p2,a3,p3,hb,-⟩:=h.box;obtain⟨-,-,-,-,c4⟩:=dr hb;obtain⟨n,hn⟩:=aH b.length;rw[hn] at bm⊢;have⟨aU,x,HB,E,Hw,HU⟩:=ae6 Y hn hB hF hw h;clear Y hn hB hF hw bn a7 hb
 by_cases H:rm<(n:Int)
 ·have an:=ae (show cE M U b U.m=if(fe M U).2.2=0 then(if kW (fe M U).1 (fe M U).2.1.J<(b.length:Int) then((fe M U).1,(fe M U).2.1,7) else js (fe M U).1 (fe M U).2.1 b U.m) else fe M U by unfold cE;rw[if_pos (by rw[aU.x,x.x];exact H)]);obtain⟨R,aM⟩:=aP w.drew;have ax:Kpt w R:=by rw[aM];exact(Below.refl w.heap.size w).drew
  have ao:=h.keep ax;obtain⟨b1,e1,b2,e2,b3,e3,a5,a9⟩:=ao.box;obtain⟨n1,ay⟩:=aH U.m.seen.length;obtain⟨n2,az⟩:=aH U.m.items.length;obtain⟨n3,aG⟩:=aH U.m.gone.length;obtain⟨dv,P⟩:=aH U.dev;have O:=om R U.dev hd _ (.agg #[.slice b1 U.m.seen.length e1,.slice b2 U.m.items.length e2,.slice b3 U.m.gone.length e3]) U.m ⟨_,_,_,rfl,a9⟩ hv;obtain⟨d0,d1,d2,d3,d4⟩:=dr a5;rw[ay,az,aG] at O;rw[ay] at d1;rw[az] at d2;rw[aG] at d3;rw[P] at d0 O;have K:∀q y,R.cell? q=some y -> ∀c,aK R c -> c.cell? q=some y:=λq y hc c hh=>(hh.cell (p:=q) (eK hc)).trans hc
  have bs:=K _ _ d0;have bt:=K _ _ d1;have bu:=K _ _ d2;have bv:=K _ _ d3;have bw:=K _ _ d4;have aL:=oC (d:=U.dev) hv;obtain⟨sB,ab⟩:=aH (dB U.dev U.m);rw[<- P,ab,P] at O;rw[ab] at aL;have bf:=O;have⟨bi,bj,bk⟩:=ae3 ab aL aM;have aS:=ao;have aR:=ax;have bq:=P;clear O ab aL aM ao ax a5 a9 ay az aG d0 d1 d2 d3 d4 K P;clear h hd hv
  go_enter func122,ntmps122
  go_wp2_with fail;refine HR.mono ?_;rintro e c ⟨rfl,rfl⟩;clear HR;go_wp2_with fail;refine dq aK 13 (up 12 [512,513,14]) (by kernel_rfl) ?_;rw[<- bk.x];apply bC;rfl;intro c hC;go_simp;exact aF;refine cD rfl rfl (λKK V=>?_);go_simp;refine bf.mono ?_;rintro e S ⟨⟨r4,rfl,aI⟩,X⟩;refine⟨_,rfl,X,V _ _ ?_⟩;go_simp;have ar:=aS.keep X;have a8:=aS.jat.lt;have aY:aO (λq=>R.heap.size <= q /\ q<S.heap.size) S r4 sB:=aO.of_owns aI _ λq r h2=>⟨r,h2⟩
  have a0:Kpt w S:=aR.trans (X.mono aR.size);have HA:=pF S i M U.J ar.jat _ _ sB aY (λq a=>⟨a.2,λha=>by have:=a8 q ha;omega⟩) (by have:=bj.x;omega) (by have:=Hw.x;omega);have⟨bg,aT⟩:=ae2 ar a0;obtain⟨a4,br,rfl⟩:=aJ aI;obtain⟨⟨g,f,er⟩,H⟩:=aH (dx M U.J sB);rw[H] at HA;have Hr:=ae H;clear ar a8 aY aI X H a0;apply bC;rfl;intro c hC;go_simp;exact aF;refine cG rfl rfl rfl (λKK V=>?_);go_simp;refine HA.mono ?_;rintro e s ⟨⟨rfl,D,k,A,B,l,o⟩,C⟩;have aZ:=bg.x.moved o B k l;have⟨N,G,ag,be⟩:=ae4 (show jh w s i D u from(jh.same (u:=u) (rk:=i) aT.x).trans ⟨k,A,l,o.mono λq a=>.inl a,C.mono λq a=>.inl a⟩) aZ (And.intro k l) o;refine⟨_,rfl,V _ _ ?_⟩;clear V KK HA k A B l o C aZ;go_simp;apply bC;rfl;intro c hC;go_simp;exact aF;refine cZ ?_;have aW:=ae (show fe M U=(g,⟨U.dev,U.m,f⟩,er) by unfold fe;rw[bi.x,Hr.x])
  by_cases h0:er=0
  ·subst h0;have bh:=ae (show g.writes <= M.writes+65536 by have:=(mn M U.J sB).2;rw[Hr.x] at this;exact this);obtain⟨aN,aa⟩:=aH (kW g f);have ai:=ae (show Calls aE 183 #[.pointer (some ⟨i.j,0,none⟩)] s λe c=>e=.returned (.int .i64 aN) /\ s=c by rw[<- aa,<- ag.x.1];exact uT s D g f G.x.jat);have bp:=yp g f;rw[aa] at bp;have aX:=ae (show cE M U b U.m=if aN<(n:Int) then(g,⟨U.dev,U.m,f⟩,7) else js g ⟨U.dev,U.m,f⟩ b U.m by rw[an.x,aW.x];dsimp only;rw[if_pos rfl,aa,x.x]);obtain⟨x1,y1,x2,y2,x3,y3,a6,-⟩:=G.x.box;obtain⟨-,-,-,-,g4⟩:=dr a6;rw[ag.x.1] at g4;clear aa a6 an
   by_cases ba:aN<(n:Int)
   ·have t:=ae (show cE M U b U.m=(g,⟨U.dev,U.m,f⟩,7) from aX.x.trans (if_pos ba));go_wp2_with fail;refine ai.x.mono ?_;rintro e c ⟨rfl,rfl⟩;go_wp2
    go_ret
    rw[t.x];exact⟨rfl,D,N.x,G.x⟩
   ·have t:=ae (show cE M U b U.m=js g ⟨U.dev,U.m,f⟩ b U.m from aX.x.trans (if_neg ba))
    have bc:=ae (show aO L s (.slice av n cv) b from(by
     have r:=HB.x.keep (w':=S) λq a _=>aT.x.block q (E.x q a).1
     rw[x.x] at r
     exact r.only be.x λq a=>(E.x q a).2))
    have bd:=ae (show ∀q,L q -> q<s.heap.size /\ ¬D.all q from λq a=>⟨aw (E.x q a).1 N.x.2.2.2.1.size,λha=>by
     rcases N.x.2.2.1 q ha with r|r
     ·exact(E.x q a).2 r
     ·have:=(E.x q a).1;omega⟩)
    go_wp2_with fail;refine ai.x.mono ?_;rintro e c ⟨rfl,rfl⟩;clear ai;have z:=mt s D g f (G.x).jat _ _ b bc.x bd.x (by rw[x.x];omega) (by have:=bh.x;have:=Hw.x;omega);obtain⟨⟨M9,J9,bl⟩,I⟩:=aH (cw g f b);rw[I] at z;rw[ag.x.1] at z;have⟨T,al⟩:=ae2 z I;clear z I;go_wp2_with fail;refine T.x.mono ?_;rintro e w9 ⟨⟨rfl,Q,k,A,B,l,o⟩,C⟩;have W:=(G.x).moved o B (k) l;have⟨ak,ad⟩:=ae2 W (show jh s w9 D Q u from⟨k,A,l,o.mono λq a=>.inl a,C.mono λq a=>.inl a⟩);clear T k A B l o C W;go_wp2
    go_ret
    rw[t.x,show js g ⟨U.dev,U.m,f⟩ b U.m=_ from mu (U:=⟨U.dev,U.m,f⟩)];dsimp only;rw[al.x];exact⟨rfl,Q,N.x.trans ad.x,ak.x⟩
  ·have t:=ae (show cE M U b U.m=(g,⟨U.dev,U.m,f⟩,er) by rw[an.x,aW.x];exact if_neg h0);go_wp2
   go_ret
   rw[t.x];exact⟨rfl,D,N.x,G.x⟩
 ·have t:=ae (show cE M U b U.m=js M U b U.m by unfold cE;rw[if_neg (by rw[aU.x,x.x];exact H)]);have bb:aO L w (.slice av n cv) b:=by have r:=HB.x;rw[x.x] at r;exact r
  go_enter func122,ntmps122
  go_wp2_with fail;refine HR.mono ?_;rintro e c ⟨rfl,rfl⟩;have z:=mt w i M U.J (HU.x).jat _ _ b bb E.x (by rw[x.x];omega) (by have:=Hw.x;omega);obtain⟨⟨M9,J9,bl⟩,I⟩:=aH (cw M U.J b);rw[I] at z;have⟨T,al⟩:=ae2 z I;go_wp2_with fail;refine T.x.mono ?_;rintro e w9 ⟨⟨rfl,Q,k,A,B,l,o⟩,C⟩;have W:=(HU.x).moved o B (k) l;have⟨ak,ad⟩:=ae2 W (show jh w w9 i Q u from⟨k,A,l,o.mono λq a=>.inl a,C.mono λq a=>.inl a⟩);go_wp2
  go_ret
  rw[t.x,mu,al.x];exact⟨rfl,Q,ad.x,ak.x⟩
theorem D2(w:World)(a:RJK)(u:Nat)(M:MD)(U:MU)(h:f8 F w a u M U)(L:U.dev<8)(o:aV U.m=true)(hw:M.writes+200000<4611686018427387904):
 Calls aE 69 #[.pointer (some ⟨u,0,none⟩)] w (gL F w a u (iy M U)):=by
 obtain⟨a1,p1,a2,p2,a3,p3,hb,-⟩:=h.box;obtain⟨-,-,-,-,c4⟩:=dr hb;obtain⟨ra,rc,R,ao,-⟩:=h.jat.recs;have W:=Blk.cell ao 3;simp at W;obtain⟨bd,K⟩:=aH U.J.dead;rw[K] at W;have⟨ad,Hw,HU⟩:=ae3 K hw h;clear K hw hb ao;cases bd with
 |true=>
  have z:=ae (show iy M U=(M,U,8) by unfold iy;rw[if_pos ad.x]);clear h L o
  go_enter func69,ntmps69
  go_wp2
  go_ret
  rw[z.x];exact⟨rfl,a,jh.same (Below.refl _ _),HU.x⟩
 |false=>
  have z:=ae (show iy M U=fe M U by unfold iy;rw[if_neg (by rw[ad.x];decide)]);obtain⟨k,V⟩:=aP w.drew;have I:Kpt w k:=by rw[V];exact(Below.refl w.heap.size w).drew
  have G:=h.keep I;obtain⟨b1,e1,b2,e2,b3,e3,al,ar⟩:=G.box;obtain⟨n1,N⟩:=aH U.m.seen.length;obtain⟨n2,O⟩:=aH U.m.items.length;obtain⟨n3,P⟩:=aH U.m.gone.length;obtain⟨dv,i⟩:=aH U.dev;have g:=om k U.dev L _ (.agg #[.slice b1 U.m.seen.length e1,.slice b2 U.m.items.length e2,.slice b3 U.m.gone.length e3]) U.m ⟨_,_,_,rfl,ar⟩ o;obtain⟨B,C,D,E,d4⟩:=dr al;rw[N,O,P] at g;rw[N] at C;rw[O] at D;rw[P] at E;rw[i] at B g;have b:∀q y,k.cell? q=some y -> ∀c,aK k c -> c.cell? q=some y:=λq y hc c hh=>(hh.cell (p:=q) (eK hc)).trans hc
  have aR:=b _ _ B;have aS:=b _ _ C;have aT:=b _ _ D;have aU:=b _ _ E;have aW:=b _ _ d4;have T:=oC (d:=U.dev) o;obtain⟨X,n⟩:=aH (dB U.dev U.m);rw[<- i,n,i] at g;rw[n] at T;have⟨aa,aL,aM,aN,ab,Y,aZ⟩:=ae7 g n T V G I i;clear g n T V G I al ar N O P B C D E d4 b i;clear h L o
  go_enter func69,ntmps69
  go_wp2_with fail;refine dq aK 13 (up 12 [512,513,14]) (by kernel_rfl) ?_;rw[<- aN.x];apply bC;rfl;intro c hC;go_simp;exact aF;clear aR aS aT aU aW c4 W;refine cD rfl rfl (λA f=>?_);go_simp;refine aa.x.mono ?_;rintro e v ⟨⟨r4,rfl,Q⟩,l⟩;refine⟨_,rfl,l,f _ _ ?_⟩;clear f A aa;go_simp;have H:=ab.x.keep l;have an:=ab.x.jat.lt;have ag:aO (λq=>k.heap.size <= q /\ q<v.heap.size) v r4 X:=aO.of_owns Q _ λq h1 h2=>⟨h1,h2⟩
  have ak:Kpt w v:=Y.x.trans (l.mono Y.x.size);have⟨x,ay,aG⟩:=ae3 (pF v a M U.J H.jat _ _ X ag (λq j=>⟨j.2,λha=>by have:=an q ha;omega⟩) (by have:=aM.x;omega) (by have:=Hw.x;omega)) H ak;obtain⟨a4,a0,rfl⟩:=aJ Q;obtain⟨⟨M5,J5,er⟩,S⟩:=aH (dx M U.J X);rw[S] at x;have Hr:=ae S;clear H an ag Q l S ak;apply bC;rfl;intro c hC;go_simp;exact aF;refine cG rfl rfl rfl (λA f=>?_);go_simp;refine x.x.mono ?_;rintro e w5 ⟨⟨rfl,av,r,k2,k3,s,t⟩,k6⟩;have ai:=ay.x.moved t k3 r s;have⟨ax,az,aX,aY⟩:=ae4 (show jh w w5 a av u from(jh.same (u:=u) (rk:=a) aG.x).trans ⟨r,k2,s,t.mono λq j=>.inl j,k6.mono λq j=>.inl j⟩) ai (And.intro r s) t;refine⟨_,rfl,f _ _ ?_⟩;clear f A x r k2 k3 s t k6 ai;go_simp;apply bC;rfl;intro c hC;go_simp;exact aF;refine cZ ?_;have aI:=ae (show fe M U=(M5,⟨U.dev,U.m,J5⟩,er) by unfold fe;rw[aL.x,Hr.x]);go_wp2
  go_ret
  rw[z.x,aI.x];exact⟨rfl,av,ax.x,az.x⟩
end
section
open Go.Lib
attribute [local go_sem] opC upC
theorem iQ:aV .new=true:=by decide +kernel
theorem Ar(h:Blk W j (List.replicate 8 (.int .i64 0)) 3)(hF:G j):ce G W (.slice (some ⟨j,0,none⟩) 8 8) (.slice none 0 0) (.slice none 0 0) .new:=by
 refine⟨⟨_,8,rfl,by decide,by unfold maxLen;omega,nofun,rfl,.inr ⟨j,0,_,_,_,rfl,hF,h,by simp;decide,λi hi=>?_⟩⟩,Rows.nil _ _ _,Rows.nil _ _ _,?_,nofun,nofun⟩
 ·have d:i<8:=hi;rcases(show i=0 \/ i=1 \/ i=2 \/ i=3 \/ i=4 \/ i=5 \/ i=6 \/ i=7 by omega) with rfl|rfl|rfl|rfl|rfl|rfl|rfl|rfl<;>rfl
 ·intro n c
  have:n=0:=by
   have a:n∈List.replicate 8 (0:Int):=c;exact(List.mem_replicate.1 a).2
  subst this;exact⟨by decide,by decide⟩
def yG(w:World)(K:DK)(r:MD×MU×Int)(e:Ending)(b:World):Prop:=∃u a,e=.returned (.tuple #[.pointer (some ⟨u,0,none⟩),.int .i64 0]) /\ a.K.d=K.d /\ UAt b a u r.1 r.2.1 /\ (∀q,a.all q -> K.foot q \/ w.heap.size <= q) /\ w.heap.size <= u /\ aM K.foot w b
theorem qO(hT:eB w)(h3:4 <= w.heap.size)(g:cU w)(K:DK)(M:MD)(A:bM w K M)(h8:8 <= M.S.length)(R:∀b,K.foot b -> 3<b)(hw:M.writes+200000<4611686018427387904)(c:Nat)(ar:c<8)(B:(cJ M).2=0)(f:(gY M c).2.2=0):
 Calls aE 12 #[.pointer (some ⟨K.d,0,none⟩),.int .i64 (c:Int)] w (yG w K (gY M c)):=by
 have hF:=zX w K M A h8 g (λI=>by have:=R 0 I;omega) (by omega)
 have av:(cJ M).1.S.length=M.S.length /\ (cJ M).1.writes <= M.writes+65540:=by
  have l:=ec ((List.range M.S.length).map (λi=>(i,List.replicate 64 0))++[(0,dw 0)]) M;have h2:((List.range M.S.length).map (λi=>(i,List.replicate 64 (0:UInt8)))++[(0,dw 0)]).length=M.S.length+1:=by simp
  have h3:=A.le;unfold cJ;exact⟨l.1,au l.2 (by omega)⟩
 have a5:¬(c:Int)<0:=by omega
 have a6:¬(8:Int) <= (c:Int):=by omega
 obtain⟨p,W⟩:=aH (dB c .new);have⟨G,Z,Hf,Ha,aT,ak,Hw,aR⟩:=ae8 (show gY M c=((cw (cJ M).1 ⟨0,[],false⟩ p).1,⟨c,.new,(cw (cJ M).1 ⟨0,[],false⟩ p).2.1⟩,(cw (cJ M).1 ⟨0,[],false⟩ p).2.2) by rw[<- W];rfl) hF B f av R hw ar;have⟨HT,HQ,aY,a3⟩:=ae4 hT g W A.lt;clear hF B f av R hw ar hT g W A h8
 go_enter func12,ntmps12
 go_wp2_with fail;refine Z.x.mono ?_;rintro e k ⟨K',e1,e2,U,l⟩;obtain⟨-,jb,rfl,az,hj⟩:=l.resolve_right (λh=>h.1 Hf.x);obtain⟨m,g1,g2,ax,g3,aF⟩:=hj.slim
 have Q:∀b,m.all b -> K.foot b \/ w.heap.size <= b:=λb t=>by
  rcases g3 b t with h|h|h
  ·right;rw[h];exact az
  ·left;exact e2 b h
  ·exact h.elim
 have aG:∀b,m.all b -> 3<b:=λb t=>by
  rcases Q b t with h|h
  ·exact ak.x b h
  ·omega
 have T:∀q,q<4 -> k.heap[q]?=w.heap[q]?:=λq g=>U.block q (by omega) λf=>by have:=ak.x q f;omega
 have aN:=ae (show eB k from HT.x.keep λa f=>by
  have e:=T a.block f;unfold World.cell?
  rw[e])
 have⟨aL,ag,aU,ai,aW,H,aV,x⟩:=ae8 (show cU k from HQ.x.keep (T 0 (by omega))) ax aF Q aG (show m.j=jb from g1) (show m.K.d=K.d by rw[g2];exact e1) U;have HN:=ae (uq k);clear Z l hj g1 g2 g3 ax aF Q aG T U e1 e2 az;go_wp2_with fail;refine HN.x.mono ?_;rintro e n ⟨rfl,O,z⟩;obtain⟨s,u⟩:=aP (n.alloc (.cells #[.int .i64 (c:Int),.slice (some ⟨k.heap.size+1,0,none⟩) 8 8,.slice none 0 0,.slice none 0 0,.pointer (some ⟨jb,0,none⟩)] 93));have o:Kpt k s:=by rw[u];exact z.alloc z.size _
 have ao:Kpt n s:=by rw[u];exact aI _ _
 have P:=O.keep (ao.block _ O.lt)
 have aK:NJ s (k.heap.size+1):=⟨_,_,_,P,Ad,by decide,by decide⟩
 have J:UAt s m n.heap.size (cJ M).1 ⟨c,.new,⟨0,[],false⟩⟩:=
  ⟨⟨_,_,_,_,_,_,by rw[H.x,u];exact Blk.new _ _ _,Ar P aK⟩,ag.x.kept o,aU.x.keep λb t=>o.block b (ag.x.lt b t),aW.x⟩
 have C:=x.x.size;have⟨aa,ab,aZ,Y,aX⟩:=ae5 (p8 s (bR aN.x (by omega) o) (by have:=o.size;omega) m n.heap.size _ _ J aR.x iQ) J u o z.size;clear HN O z u o ao P aK J C;go_wp2_with fail;rw[<- aZ.x];refine aa.x.mono ?_;rintro e D ⟨⟨r4,rfl,V⟩,N⟩;have y:=ab.x.keep N;have ay:=ab.x.jat.lt;have al:aO (λq=>s.heap.size <= q /\ q<D.heap.size) D r4 p:=by rw[<- aY.x];exact aO.of_owns V _ λq l h2=>⟨l,h2⟩
 have L:Kpt k D:=Y.x.trans (N.mono Y.x.size)
 have E:=ae (by
  have C:=x.x.size;have hA:=oe D m (cJ M).1 ⟨0,[],false⟩ y.jat _ _ p al (λq g=>⟨g.2,λf=>by have:=ay q f;omega⟩) (λI=>by have:=y.low 0 I;omega) (aL.x.keep (L.block 0 (by omega))) (by have:=Hw.x;have:=aT.x.2;omega);rw[H.x] at hA
  exact hA)
 obtain⟨r,hr⟩:=aH (cw (cJ M).1 ⟨0,[],false⟩ p);rw[hr] at E G;obtain⟨M5,J5,er⟩:=r;have a1:er=0:=by have h:=Ha.x;rw[G.x] at h;exact h
 subst a1;have⟨aQ,ad⟩:=ae2 y L;obtain⟨a4,c4,rfl⟩:=aJ V;clear aa y ay al L V N hr;go_wp2_with fail;refine E.x.mono ?_;rintro e w5 ⟨rfl,a7,k1,k2,k3,k4,X⟩;have C:=x.x.size;have a2:=ad.x.size;obtain⟨a0,l1,l2,l3,an⟩:=aQ.x.moved X k3 (k1.trans H.x.symm) k4 (by omega)
 have aS:=ae (show yG w K (gY M c) (.returned (.tuple #[.pointer (some ⟨n.heap.size,0,none⟩),.int .i64 0])) w5 from by
  rw[G.x];refine⟨n.heap.size,a0,rfl,by rw[l2,k2];exact aV.x,an,λq g=>?_,by have:=aX.x;omega,?_⟩
  ·rcases l3 q g with h|h
   ·exact ai.x q h
   ·right;omega
  ·exact(x.x.trans (aM.of_below (F:=none_) ad.x) λ_ B=>B.elim).trans X ai.x)
 clear E k1 k2 k3 k4 X l1 l2 l3 an C a2;go_wp2;exact bodyPost_ret (v:=.tuple #[.pointer (some ⟨n.heap.size,0,none⟩),.int .i64 0]) (by simp[results,results12,go_sem]) rfl aS.x
end
section
open Go.Lib
attribute [local go_sem] opC upC
section
attribute [local go_sem ↓] pT
theorem Cj:Calls aE 62 #[] w (AQ w):=by
 obtain⟨b,d⟩:=aP (w.alloc (.cells #[.slice none 0 0,.slice none 0 0,.slice none 0 0] 75));have x:Kpt w b:=by rw[d];exact aI _ _
 have E:b.heap.size=w.heap.size+1:=by rw[d];simp
 have m:Blk b w.heap.size [.slice none 0 0,.slice none 0 0,.slice none 0 0] 75:=by rw[d];exact Blk.new _ _ _
 obtain⟨S,j,k,F,G⟩:=info_parts ua;obtain⟨h,A,i,l⟩:=run_make_full (P:=aE) b w.heap.size 33 3 S _ 1 underlying33 j k F .i64 .i64 8 (by rw[G];omega) (by unfold maxLen;omega) (by omega);have B:(MK 33 (.int .i64 8) (.int .i64 8)).run aE b=.ok (.slice (some ⟨b.heap.size,0,none⟩) 8 8) h:=A;rw[Fd] at i;have a:Blk h w.heap.size _ _:=m.keep (l.block _ m.lt (by simp));have y:Kpt w h:=x.trans ((Below.refl w.heap.size b).grown l (by omega) (by simp));have T:=a.cell 0;have U:=a.cell 1;have V:=a.cell 2;have z0:=a.free 0;have z1:=a.free 1;have z2:=a.free 2;simp at T U V;rw[E] at B i
 have t:Blk h (w.heap.size+1) (List.replicate 8 (.int .i64 0)) 3:=by
  rcases i.2 with⟨O,-⟩|⟨g,W,q,D,X,Q,Y,hm,R,C⟩
  ·simp at O
  ·simp at D;obtain⟨rfl,rfl⟩:=D;unfold Blk;rw[Q];have Z:q.toList.length=8:=by simpa using R
   rw[List.take_of_length_le (by omega)] at C
   have:q=(List.replicate 8 (Value.int .i64 0)).toArray:=by
    apply Array.toList_inj.1;rw[C];rfl
   rw[this]
 obtain⟨H,e⟩:=aP (((h.setCell ⟨w.heap.size,0,none⟩ (.slice (some ⟨w.heap.size+1,0,none⟩) 8 8)).setCell ⟨w.heap.size,1,none⟩ (.slice none 0 0)).setCell ⟨w.heap.size,2,none⟩ (.slice none 0 0));have r:=a.set 0 (.slice (some ⟨w.heap.size+1,0,none⟩) 8 8);have s:=r.set 1 (.slice none 0 0);have c:=s.set 2 (.slice none 0 0)
 have u:Blk H (w.heap.size+1) (List.replicate 8 (.int .i64 0)) 3:=by
  rw[e];exact((t.set_other _ (by show w.heap.size+1≠w.heap.size;omega)).set_other _ (by show w.heap.size+1≠w.heap.size;omega)).set_other _ (by show w.heap.size+1≠w.heap.size;omega)
 have z:Kpt w H:=by
  rw[e];exact((y.setCell (p:=⟨w.heap.size,0,none⟩) (aq _) _).setCell (p:=⟨w.heap.size,1,none⟩) (aq _) _).setCell (p:=⟨w.heap.size,2,none⟩) (aq _) _
 rw[<- e] at c;have f:=c.cell 0;have n:=c.cell 1;have o:=c.cell 2;simp at f n o;rw[d] at B;have⟨K,J,I,L,M,N⟩:=ae6 e z u f n o;clear x E m d A i l a y r s c t u z e f n o j k F G
 go_enter func62,ntmps62
 go_wp2;rw[<- K.x];have f:=L.x;have j:=M.x;have k:=N.x;exact bodyPost_ret (v:=.agg #[.slice (some ⟨w.heap.size+1,0,none⟩) 8 8,.slice none 0 0,.slice none 0 0]) (by simp[results,results62,go_sem,f,j,k]) rfl ⟨rfl,I.x,J.x⟩
end
def uV(Z:aQ)(w:World)(K:RK)(r:MD×MU×Int)(e:Ending)(b:World):Prop:=∃u a,e=.returned (.tuple #[.pointer (some ⟨u,0,none⟩),.int .i64 0]) /\ a.K.d=K.d /\ f8 Z b a u r.1 r.2.1 /\ (∀q,a.all q -> K.all q \/ w.heap.size <= q) /\ w.heap.size <= u /\ aM K.all w b /\ aM (iE w) w b
theorem wv(Z:aQ)(w:World)(hZ:∀q,Z q -> q<w.heap.size)(K:RK)(M:MD)(u:bS w K M)(h8:8 <= M.S.length)(hw:M.writes+200000<4611686018427387904)(a:Nat)(an:a<8)(m:(cJ M).2=0)(f:(gY M a).2.2=0):
 Calls aE 27 #[.pointer (some ⟨K.d,0,none⟩),.int .i64 (a:Int)] w (uV Z w K (gY M a)):=by
 have hF:=yC w K M u h8 (by omega)
 have aU:=ae (show ∀b,K.foot b -> iE w b from λb E=>by
  obtain⟨a1,a0,tv,-,-,c,⟨L',s,-⟩,-⟩:=u.main;rcases E with rfl|rfl
  ·exact .inl ⟨_,_,_,c,.inr (.inl rfl)⟩
  ·exact .inl ⟨_,_,_,s,.inr (.inr rfl)⟩)
 have ao:(cJ M).1.writes <= M.writes+65540:=by
  have c:=ec ((List.range M.S.length).map (λi=>(i,List.replicate 64 0))++[(0,dw 0)]) M;have s:((List.range M.S.length).map (λi=>(i,List.replicate 64 (0:UInt8)))++[(0,dw 0)]).length=M.S.length+1:=by simp
  have h3:=u.len;unfold cJ;exact au c.2 (by omega)
 have a2:¬(a:Int)<0:=by omega
 have a3:¬(7:Int)<(a:Int):=by omega
 have Q:=oC (d:=a) iQ;obtain⟨n,x⟩:=aH (dB a .new);rw[x] at Q;have⟨A,V,Hf,Ha,aK,Hw,aF,aS⟩:=ae8 (show gY M a=((cw (cJ M).1 ⟨0,[],false⟩ n).1,⟨a,.new,(cw (cJ M).1 ⟨0,[],false⟩ n).2.1⟩,(cw (cJ M).1 ⟨0,[],false⟩ n).2.2) by rw[<- x];rfl) hF m f ao hw an x;have⟨aT,HZ⟩:=ae2 Q hZ;clear hF m f ao hw an x u h8 Q hZ
 go_enter func27,ntmps27
 go_wp2_with fail;refine V.x.mono ?_;rintro e g ⟨C,e1,e2,L,c⟩;have ay:=yD L;have aN:=ae (show aM (iE w) w g from L.mono aU.x);obtain⟨-,jb,rfl,av,hj⟩:=c.resolve_right (λh=>h.1 Hf.x)
 have ax:∀b,(⟨jb,C,none_⟩:RJK).all b -> K.all b \/ w.heap.size <= b:=λb E=>by
  rcases E with h|h|h
  ·right;rw[h];exact av
  ·exact e2 b h
  ·exact h.elim
 have⟨aa,ab,aL,B,W⟩:=ae5 hj ax e1 ay (Cj g);clear V c hj ax ay L e1 e2 av;go_wp2_with fail;refine W.x.mono ?_;rintro e k ⟨rfl,t,o⟩;obtain⟨r,p⟩:=aP (k.alloc (.cells #[.int .i64 (a:Int),.slice (some ⟨g.heap.size+1,0,none⟩) 8 8,.slice none 0 0,.slice none 0 0,.pointer (some ⟨jb,0,none⟩)] 77));have G:Kpt g r:=by rw[p];exact o.alloc o.size _
 have al:Kpt k r:=by rw[p];exact aI _ _
 have I:=t.keep (al.block _ t.lt);have J:=aa.x.lt;have P:=B.x.size;have aX:=t.lt
 have ag:f8 Z r ⟨jb,C,none_⟩ k.heap.size (cJ M).1 ⟨a,.new,⟨0,[],false⟩⟩:=
  ⟨⟨_,_,_,_,_,_,by rw[p];exact Blk.new _ _ _,Ar I ⟨λf=>by have:=J _ f;omega,by show g.heap.size+1≠k.heap.size;omega,λhz=>by have:=HZ.x _ hz;omega⟩⟩,aa.x.kept G,λf=>by have:=J _ f;have:=o.size;omega⟩
 have⟨X,Y,aV,U,aR⟩:=ae5 (om r a aF.x (λq=>q=g.heap.size+1) (.agg #[.slice (some ⟨g.heap.size+1,0,none⟩) 8 8,.slice none 0 0,.slice none 0 0]) .new ⟨_,_,_,rfl,Ar I rfl⟩ iQ) ag p G o.size;clear W t o p G al I ag P J aX;go_wp2_with fail;rw[<- aV.x];refine X.x.mono ?_;rintro e l ⟨⟨r4,rfl,N⟩,H⟩;have D:=Y.x.keep H;have ar:=Y.x.jat.lt;have ad:aO (λq=>r.heap.size <= q /\ q<l.heap.size) l r4 n:=by rw[<- aS.x];exact aO.of_owns N _ λq c s=>⟨c,s⟩
 have ak:Kpt g l:=U.x.trans (H.mono U.x.size);have y:=ae (mt l ⟨jb,C,none_⟩ (cJ M).1 ⟨0,[],false⟩ D.jat _ _ n ad (λq j=>⟨j.2,λf=>by have:=ar q f;omega⟩) (by have:=aT.x;omega) (by have:=Hw.x;have:=aK.x;omega));obtain⟨⟨M5,J5,er⟩,hr⟩:=aH (cw (cJ M).1 ⟨0,[],false⟩ n);rw[hr] at y A;have aW:er=0:=by have h:=Ha.x;rw[A.x] at h;exact h
 subst aW;have⟨az,z⟩:=ae2 D ak;obtain⟨a4,c4,rfl⟩:=aJ N;clear X D ar ad ak N H hr;go_wp2_with fail;refine y.x.mono ?_;rintro e w5 ⟨⟨rfl,aZ,k1,k2,k3,R,T⟩,k6⟩;have O:aM (iE w) w l:=aN.x.trans (aM.of_below (F:=none_) z.x) λ_ m=>m.elim
 have k7:aM (iE l) l w5:=k6.mono λq j=>.inl j
 have P:=B.x.size;have aY:=z.x.size;have ai:=az.x.moved T k3 k1 R
 have aG:=ae (show uV Z w K (gY M a) (.returned (.tuple #[.pointer (some ⟨k.heap.size,0,none⟩),.int .i64 0])) w5 from by
  rw[A.x];refine⟨k.heap.size,aZ,rfl,by rw[k2];exact aL.x,ai,λq j=>?_,by have:=aR.x;omega,?_⟩
  ·rcases R q j with h|h
   ·exact ab.x q h
   ·right;omega
  ·exact⟨(B.x.trans (aM.of_below (F:=none_) z.x) λ_ m=>m.elim).trans T ab.x,O.trans k7 λq j=>j.back O⟩)
 clear y k1 k2 k3 R T k6 k7 O ai P aY;go_wp2;exact bodyPost_ret (v:=.tuple #[.pointer (some ⟨k.heap.size,0,none⟩),.int .i64 0]) (by simp[results,results27,go_sem]) rfl aG.x
end
section
open Go.Lib
attribute [local go_sem] opC upC told bE bm bF bp bq bG bH
def Fm:List gG:=[.steady 0,.steady 1,.steady 2,.steady 3,.steady 4,.steady 5,.steady 6,.steady 7,.steady 8,.move 9,.steady 10,.steady 11,.steady 12,.float 13,.fixed 14,.steady 15]
def RNJ(w:World)(q:Nat):Prop:=∃L t a,w.heap[q]?=some (.cells L t a) /\ (t=3 \/ t=129 \/ t=130)
theorem ti{l:List Value}(h:W.ownsRow i t j u o l)(r:t=3 \/ t=129 \/ t=130):Rows (λq=>i <= q /\ q<W.heap.size /\ RNJ W q) W j u o l:=by
 obtain⟨a,m,rfl,z,A,B,C,D⟩:=Rows.of_owns h;refine⟨a,m,rfl,z,A,B,C,?_⟩;rcases D with c|⟨b,y,L,E,p,rfl,d,s,w,x⟩
 ·exact .inl c
 ·refine .inr ⟨b,y,L,E,p,rfl,⟨d.1,d.2,?_⟩,s,w,x⟩;rcases h.2 with⟨c,_⟩|⟨g,F,G,f,_,hh,_⟩
  ·simp at c
  ·simp at f;obtain⟨⟨rfl,-⟩,-⟩:=f;exact⟨_,_,_,hh,r⟩
theorem dC.rnj{b c d:Value}(h:dC W i b c d r)(a:Bnd r):ce (λq=>i <= q /\ q<W.heap.size /\ RNJ W q) W b c d r:=
 ⟨ti h.seen (.inl rfl),ti h.items (.inr (.inl rfl)),ti h.gone (.inr (.inr rfl)),a.seenB,a.itemsB,a.goneB⟩
theorem ww{L:Array Value}{b:Nat×Nat}(h:W.heap[i]?=some (.cells L t b))(d:t≠121)(f:t≠117)(g:t≠41)(j:t≠77):¬iE W i:=by
 rintro(⟨a,l,c,hh,k⟩|⟨a,c,hh⟩)
 ·rw[h] at hh;injection hh with hh
  injection hh with _ hh
  subst hh;rcases k with e|e|e
  ·exact d e
  ·exact f e
  ·exact g e
 ·rw[h] at hh;injection hh with hh
  injection hh with _ hh
  exact j hh
theorem Bd(h:RNJ W i):¬iE W i:=by
 obtain⟨L,t,b,hh,a⟩:=h;rcases a with rfl|rfl|rfl<;>exact ww hh (by decide) (by decide) (by decide) (by decide)
theorem f8.setM{c:RJK}{U:MU}(h:f8 G W c i N U){f g j:Option Addr}{k l m:Nat}(v:ce (λq=>¬c.all q /\ q≠i /\ ¬G q) W (.slice f r.seen.length k) (.slice g r.items.length l) (.slice j r.gone.length m) r)
 (d:w'=((W.setCell ⟨i,1,none⟩ (.slice f r.seen.length k)).setCell ⟨i,2,none⟩ (.slice g r.items.length l)).setCell ⟨i,3,none⟩ (.slice j r.gone.length m)):f8 G w' c i N ⟨U.dev,r,U.J⟩ /\ jh W w' c c i:=by
 obtain⟨y,B,z,C,A,D,n,E⟩:=h.box
 have o:∀q,q≠i -> w'.heap[q]?=W.heap[q]?:=λq a=>by
  rw[d];exact(Below.heap_setCell _ _ _ _ a).trans ((Below.heap_setCell _ _ _ _ a).trans (Below.heap_setCell _ _ _ _ a))
 have F:w'.heap.size=W.heap.size:=by rw[d];simp[World.setCell]
 have s:aM (λq=>q=i) W w':=by
  rw[d];exact(((aM.refl (λq=>q=i) W).setCell (p:=⟨i,1,none⟩) (.inl rfl) _).setCell (p:=⟨i,2,none⟩) (.inl rfl) _).setCell (p:=⟨i,3,none⟩) (.inl rfl) _
 refine⟨⟨⟨f,k,g,l,j,m,?_,v.keep (w':=w') λq a _=>o q a.2.1⟩,h.jat.keep (λb t=>o b λe=>h.ne (e▸t)) (by omega),h.ne⟩,rfl,rfl,λ_ h=>.inl h,s.mono λq a=>.inr a,s.mono λq a=>by
  have e:q=i:=a;subst e
  exact .inr ⟨_,_,n⟩⟩
 rw[d];exact(((n.set 1 _).set 2 _).set 3 _)
theorem yH(U:MU)(b:List UInt8)(x:aT):js M U b x=((js M U b U.m).1,(if(js M U b U.m).2.2=0 then⟨U.dev,x,(js M U b U.m).2.1.J⟩ else(js M U b U.m).2.1),(js M U b U.m).2.2):=by
 rw[mu];dsimp only;unfold js
 by_cases h:(cw M U.J b).2.2=0
 ·rw[if_pos h,if_pos h,h]
 ·rw[if_neg h,if_neg h]
theorem lM(U:MU)(b:List UInt8)(x:aT):cE M U b x=((cE M U b U.m).1,(if(cE M U b U.m).2.2=0 then⟨U.dev,x,(cE M U b U.m).2.1.J⟩ else(cE M U b U.m).2.1),(cE M U b U.m).2.2):=by
 unfold cE
 by_cases c:kW M U.J<(b.length:Int)
 ·rw[if_pos c,if_pos c]
  by_cases a:(fe M U).2.2=0
  ·rw[if_pos a,if_pos a]
   by_cases d:kW (fe M U).1 (fe M U).2.1.J<(b.length:Int)
   ·rw[if_pos d,if_pos d];rfl
   ·rw[if_neg d,if_neg d];exact yH (fe M U).1 (fe M U).2.1 b x
  ·rw[if_neg a,if_neg a,if_neg a]
 ·rw[if_neg c,if_neg c];exact yH M U b x
/- behind write: WB the world ahead of it, w6 the one in which the next map x lay in Om -/
theorem oD(U:MU)(b:List UInt8):(cE M U b U.m).2.1.dev=U.dev /\ (cE M U b U.m).2.1.m=U.m:=by
 unfold cE;split
 ·split
  ·split
   ·exact⟨rfl,rfl⟩
   ·rw[show js (fe M U).1 (fe M U).2.1 b U.m=_ from mu (U:=(fe M U).2.1)];exact⟨rfl,rfl⟩
  ·exact⟨rfl,rfl⟩
 ·rw[mu];exact⟨rfl,rfl⟩
theorem pG{f fr:Nat}{kk:UInt8}{p:aT -> Int -> List bQ -> aT×Int}(hf:(f,fr,kk)=(66,121,1) \/ (f,fr,kk)=(67,124,2))(aW:Du fr p)(b:List UInt8)(Z:aQ)(w:World)(hZ:∀q,Z q -> q<w.heap.size)(c:RJK)(u:Nat)(M:MD)(U:MU)(h:f8 Z w c u M U)(hd:U.dev<8)(hv:aV U.m=true)(F:aQ)(kv:Value)(l:List bQ)(C:Rows F w 1 kv l.length (l.map eS))(al:l.length <= 1000)(ai:∀k∈l,k.length <= 1000)(bo:b=kk::eM l)(hw:M.writes+200000<4611686018427387904):
 Calls aE f #[.pointer (some ⟨u,0,none⟩),kv] w (gL Z w c u (dz M U l (p U.m U.dev l) b)):=by
 obtain⟨ak,ck,rfl,-⟩:=C.shape
 replace C:=C.mono (G:=λq=>q<w.heap.size) λq _ g=>g
 obtain⟨a1,p1,a2,p2,a3,p3,X,hm⟩:=h.box;obtain⟨ra,rc,R,ag,-⟩:=h.jat.recs;have j3:=Blk.cell ag 3;simp at j3;obtain⟨bd,s⟩:=aH U.J.dead;rw[s] at j3;have B:=cO hv;have⟨aG,bu,aW⟩:=ae3 (show(∀x∈U.m.items,x.key.length <= 1000000000) /\ ∀x∈U.m.gone,x.key.length <= 1000000000 from⟨λx hx=>au (B.1 x hx) (by decide),λx hx=>au (B.2 x hx) (by decide)⟩) bo aW;clear bo;have⟨Q,ay,Hw,Hd,Hv,HL,ba,HZ⟩:=ae8 h s hw hd hv C ai hZ;have bc:=ae al;obtain⟨m,N⟩:=aH U.m;obtain⟨d,aa⟩:=aH U.dev;rw[N,aa] at X;rw[N] at hm aG;obtain⟨c0,c1,c2,c3,c4⟩:=dr X;obtain⟨nk,D⟩:=aH l.length;have⟨Hm,be⟩:=ae2 hm D;rw[D];rcases hf with h'|h'<;>cases h'
 all_goals
  cases bd with
  |true=>
   have y:=ae (show dz M U l (p U.m U.dev l) b=(M,U,8) by unfold dz;rw[if_pos ay.x]);clear h hd hv hw C ai hZ s X hm ag B N aa D al
   first|go_enter func66,ntmps66|go_enter func67,ntmps67
   go_wp2
   go_ret
   rw[y.x];exact⟨rfl,c,jh.same (Below.refl _ _),Q.x⟩
  |false=>
   by_cases h0:nk=0
   ·subst h0;have y:=ae (show dz M U l (p U.m U.dev l) b=(M,U,0) by unfold dz;rw[if_neg (by rw[ay.x];decide),if_pos (List.length_eq_zero_iff.1 D)]);clear h hd hv hw C ai hZ s X hm ag B N aa D al
    first|go_enter func66,ntmps66|go_enter func67,ntmps67
    go_wp2
    go_ret
    rw[y.x];exact⟨rfl,c,jh.same (Below.refl _ _),Q.x⟩
   ·have bv:¬(nk:Int)=0:=by omega
    have bG:((nk:Int) == 0)=false:=beq_eq_false_iff_ne.2 bv;obtain⟨RR,aN⟩:=aH (p m d l)
    have a9:=ae (show dz M U l (p U.m U.dev l) b=if RR.2=0 then cE M U b RR.1 else(M,U,RR.2) by
     unfold dz
     rw[if_neg (by rw[ay.x];decide),if_neg (λe=>h0 (by rw[<- D,e];rfl)),<- aN,<- N,<- aa])
    have br:=ae aN;have pz:∀q x,w.cell? q=some x -> ∀o,bX w.heap.size 75 w.drew o -> o.cell? q=some x:=λq x hc o hh=>mU hc rfl hh
    have bz:=pz _ _ c0;have bA:=pz _ _ c1;have bB:=pz _ _ c2;have bC:=pz _ _ c3;clear h hd hv hw C ai hZ s X hm ag B N aa D aN c0 c1 c2 c3 pz al;obtain⟨x,er⟩:=RR
    first|go_enter func66,ntmps66|go_enter func67,ntmps67
    go_wp2_with fail
    skip
    refine gr (bX w.heap.size 75) (ou w.heap.size 75 3) [13] Fm 60 (by kernel_rfl) (by kernel_rfl) (f7 _ _) (cK _ _) (jx #[.slice none 0 0,.slice none 0 0,.slice none 0 0] rfl (aq _) (λj hj=>?_) (λi j hi hj bK=>?_)) ?_
    ·obtain rfl:j=13:=by simpa using hj
     exact⟨_,rfl,rfl,λa W=>by go_simp⟩
    ·simp at hi hj;omega
    unfold Fm;apply dA;rfl;intro o hC;go_simp;(repeat (simp(disch:=omega) only[af,aj,ap,ah,am,if_pos];go_simp));exact aF;refine mT rfl rfl (λWa bk T z=>?_);go_simp;have K:Kpt w Wa:=bk.belD rfl;have hU:=aW.x Wa _ (.agg #[.slice a1 m.seen.length p1,.slice a2 m.items.length p2,.slice a3 m.gone.length p3]) m ⟨_,_,_,rfl,Hm.x.keep (w':=Wa) λq _ g=>K.block q g⟩ aG.x.1 aG.x.2 (d:Int) _ (.slice ak l.length ck) l (HL.x.keep (w':=Wa) λq _ g=>K.block q g) (by have:=bc.x;omega) (λk B=>by have:=ba.x k B;omega);rw[br.x,be.x] at hU;have aI:=ae K.size;refine hU.mono ?_;rintro e bE ⟨r1,rfl,⟨t1,t2,t3,rfl,O,s⟩,aR⟩;refine⟨_,rfl,bX.of_later aR,z _ _ ?_⟩;clear z T hU bz bA bB bC;go_simp;dsimp only at O s;obtain⟨n1,m1,rfl⟩:=aJ O.seen;obtain⟨n2,m2,rfl⟩:=aJ O.items;obtain⟨n3,m3,rfl⟩:=aJ O.gone;have bl:Kpt w bE:=K.trans (aR.mono K.size);have⟨ax,Ho,bs⟩:=ae3 bl O s;clear bl O s aR K bk;apply dA;rfl;intro o hC;go_simp;(repeat (simp(disch:=omega) only[af,aj,ap,ah,am,if_pos];go_simp));exact aF;refine iO rfl (λvO Wd V bx bw T z=>?_);obtain⟨Om,LO,rfl,H,r,bi⟩:=bx;refine z _ _ ?_;clear z T bw;go_simp
    obtain⟨x0,x1,x2,rfl⟩:∃x0 x1 x2,LO = [x0,x1,x2]:=by
     match LO,bi with
     |[x0,x1,x2],_=>exact⟨x0,x1,x2,rfl⟩
    have bm:Kpt w Wd:=ax.x.trans (V.below ax.x.size);obtain⟨w6,a6,bn,I⟩:=dX r bm H (.slice n1 x.seen.length m1) (.slice n2 x.items.length m2) (.slice n3 x.gone.length m3)
    have ab:bX w.heap.size 75 Wd w6:=by
     rw[a6];exact cK _ _ _ _ _ (cK _ _ _ _ _ (bX.set r H 0 _) (bX.set (r.set 0 _) H 1 _)) (bX.set ((r.set 0 _).set 1 _) H 2 _)
    have E:dC w6 w.heap.size (.slice n1 x.seen.length m1) (.slice n2 x.items.length m2) (.slice n3 x.gone.length m3) x:=
     ⟨bJ (ab.own (V.own Ho.x.seen (by decide)) (by decide)) aI.x,bJ (ab.own (V.own Ho.x.items (by decide)) (by decide)) aI.x,bJ (ab.own (V.own Ho.x.gone (by decide)) (by decide)) aI.x⟩
    have⟨bF,bq,P⟩:=ae3 H E bn;obtain⟨y0,y1,y2⟩:=aS r;have z0:=r.free 0;have z1:=r.free 1;have z2:=r.free 2;have⟨A,bb,bg⟩:=ae3 I ab a6;clear I ab a6 bn bm V r bi Ho ax E;refine iP rfl rfl (λT z=>?_);go_simp;rw[<- bg.x];refine⟨bb.x,z _ _ ?_⟩;clear z T y0 y1 y2 z0 z1 z2 bb bg H;go_simp;apply dA;rfl;intro o hC;go_simp;(repeat (simp(disch:=omega) only[af,aj,ap,ah,am,if_pos];go_simp));exact aF;refine lh ?_;have av:=ae (Q.x.keep A.x)
    by_cases he:er=0
    ·subst he;have y:=ae (show dz M U l (p U.m U.dev l) b=cE M U b x from a9.x.trans (if_pos rfl));have aM:=λ(k:UInt8)=>BS w6 k _ (.slice ak l.length ck) l (HL.x.keep (w':=w6) λq _ g=>A.x.block q g) bc.x ba.x
     rw[be.x] at aM;have ar:=ae aM;clear aM;go_wp2_with fail
     first|refine(ar.x 1).mono ?_|refine(ar.x 2).mono ?_
     rintro e w8 ⟨⟨r8,rfl,E⟩,I⟩;rw[<- bu.x] at E;have HW:=ae (qN Z w8 c u M U (av.x.keep I) Hd.x Hv.x _ r8 b (aO.of_owns E (λq=>w6.heap.size <= q /\ q<w8.heap.size) λq h1 h2=>⟨h1,h2⟩) (λq n=>⟨n.2,λha=>by have:=av.x.jat.lt q ha;have:=n.1;omega⟩) Hw.x);obtain⟨a8,c8,rfl⟩:=aJ E;have v:=ae I;clear ar E I;go_wp2_with fail;refine HW.x.mono ?_;rintro e w9 ⟨rfl,a7,aX,bj⟩;have⟨ad,S⟩:=ae2 aX bj;obtain⟨⟨M9,U9,aK⟩,an⟩:=aH (cE M U b U.m);rw[an] at S⊢;dsimp only at S⊢;have ao:=lM M U b x;rw[an] at ao;dsimp only at ao;have a4:=oD M U b;rw[an] at a4;have⟨bh,bt⟩:=ae2 ao a4;have aU:Blk w9 Om [.slice n1 x.seen.length m1,.slice n2 x.items.length m2,.slice n3 x.gone.length m3] 75:=(P.x.keep (v.x.block _ P.x.lt)).keep (aX.2.2.2.2.block _ (aw P.x.lt v.x.size) (ww (P.x.keep (v.x.block _ P.x.lt)) (by decide) (by decide) (by decide) (by decide)));clear aX bj an ao a4 HW
     by_cases h9:aK=0
     ·subst h9;obtain⟨b1,q1,b2,q2,b3,q3,Y,-⟩:=S.x.box;obtain⟨-,z1,z2,z3,-⟩:=dr Y;have f1:=Y.free 1;have f2:=Y.free 2;have f3:=Y.free 3;obtain⟨o0,o1,o2⟩:=aS aU;have bL:=Q.x.lt
      have bp:ce (λq=>¬a7.all q /\ q≠u /\ ¬Z q) w9 (.slice n1 x.seen.length m1) (.slice n2 x.items.length m2) (.slice n3 x.gone.length m3) x:=by
       have h6:=bq.x.rnj bs.x;have h8:=h6.keep (w':=w8) λq n g=>v.x.block q g
       refine(h8.keep (w':=w9) λq n g=>ad.x.2.2.2.2.block q g (Bd (by
        obtain⟨L,t,fz,hh,ht⟩:=n.2.2
        exact⟨L,t,fz,(v.x.block q n.2.1).trans hh,ht⟩))).mono λq n _=>⟨λha=>?_,λe=>?_,λhz=>?_⟩
       ·rcases ad.x.2.2.1 q ha with h1|h1
        ·have:=Q.x.jat.lt q h1;have:=n.1;have:=aq w.heap.size;omega
        ·have:=n.2.1;have:=v.x.size;omega
       ·have:=n.1;have:=aq w.heap.size;omega
       ·have:=HZ.x q hz;have:=n.1;have:=aq w.heap.size;omega
      obtain⟨bD,a5⟩:=aP (((w9.setCell ⟨u,1,none⟩ (.slice n1 x.seen.length m1)).setCell ⟨u,2,none⟩ (.slice n2 x.items.length m2)).setCell ⟨u,3,none⟩ (.slice n3 x.gone.length m3));have aL:=S.x.setM bp a5
      have az:=ae (show gL Z w c u (dz M U l (p U.m U.dev l) b) (.returned (.int .i64 0)) bD from by
       rw[y.x,bh.x,if_pos rfl];refine⟨rfl,a7,(jh.same (u:=u) (rk:=c) (A.x.trans (v.x.mono A.x.size))).trans (ad.x.trans aL.2),?_⟩;have e:=aL.1;rw[bt.x.1] at e
       exact e)
      have bf:=ae a5;obtain⟨k1,aY⟩:=aH x.seen.length;obtain⟨k2,aZ⟩:=aH x.items.length;obtain⟨k3,a0⟩:=aH x.gone.length;rw[aY,aZ,a0] at bf;rw[aY] at o0;rw[aZ] at o1;rw[a0] at o2;clear a5 aL bp Y aU aY aZ a0;go_wp2;rw[<- bf.x]
      go_ret
      exact az.x
     ·have bH:(aK == 0)=false:=beq_eq_false_iff_ne.2 h9
      have az:=ae (show gL Z w c u (dz M U l (p U.m U.dev l) b) (.returned (.int .i64 aK)) w9 from by
       rw[y.x,bh.x,if_neg h9]
       exact⟨rfl,a7,(jh.same (u:=u) (rk:=c) (A.x.trans (v.x.mono A.x.size))).trans ad.x,S.x⟩)
      clear aU;go_wp2
      go_ret
      exact az.x
    ·have bI:(er == 0)=false:=beq_eq_false_iff_ne.2 he;have y:=ae (show dz M U l (p U.m U.dev l) b=(M,U,er) from a9.x.trans (if_neg he));go_wp2
     go_ret
     rw[y.x];exact⟨rfl,c,jh.same A.x,av.x⟩
def Fo(f:Nat)(c:MD -> MU -> List bQ -> MD×MU×Int):Prop:=
 ∀(Z:aQ)(w:World)(d:∀q,Z q -> q<w.heap.size)(b:RJK)(u:Nat)(M:MD)(U:MU)(h:f8 Z w b u M U)(e:U.dev<8)(n:aV U.m=true)(F:aQ)(a:Value)(l:List bQ)(i:Rows F w 1 a l.length (l.map eS))(j:l.length <= 1000)(g:∀k∈l,k.length <= 1000)(o:M.writes+200000<4611686018427387904),
  Calls aE f #[.pointer (some ⟨u,0,none⟩),a] w (gL Z w b u (c M U l))
theorem yI:Fo 66 lB /\ Fo 67 oT:=
 ⟨λZ w a j u M U h b f F i l d e c g=>pG (.inl rfl) EQ.1 _ Z w a j u M U h b f F i l d e c rfl g,λZ w a j u M U h b f F i l d e c g=>pG (.inr rfl) EQ.2 _ Z w a j u M U h b f F i l d e c rfl g⟩
end
end Go.Proofs.YtobjdpngnfbicaaGreatDoor
