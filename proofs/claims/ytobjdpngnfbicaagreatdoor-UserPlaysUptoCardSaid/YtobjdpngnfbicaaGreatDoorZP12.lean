/-
  UMem J10 J11 JX UStep UWrite Float
-/
import Derived.Test.YtobjdpngnfbicaaGreatDoorZP09
open Go.IntWalk renaming i64_in->af,u32_in->aj
open Nat renaming le_refl->aq,le_trans->au,lt_of_lt_of_le->aw
open List renaming length_append->aA,getElem_mem->aC
open Go.Proofs.Tryz renaming prog->aE
set_option maxHeartbeats 4000000
set_option maxRecDepth 100000
set_option linter.all false
namespace Go.Proofs.YtobjdpngnfbicaaGreatDoor
open Go.RowKit
open Go.Proofs.Tryz
variable(w:World)(n:Nat)(b:List UInt8)(M:MD){W w':World}{u:Value}{i j o:Nat}{l:List UInt8}{L:List Value}{r:aT}{N:MD}{t:TypeId}
def TJ(t:TypeId):Prop:=t=141 \/ t=88 \/ t=99 \/ t=101 \/ t=41 \/ t=5 \/ t=121 \/ t=117 \/ t=77 \/ t=61
def NJ(w:World):aQ:=λq=>∃L t a,w.heap[q]?=some (.cells L t a) /\ ¬TJ t /\ t≠93 /\ t≠37
def JT(w:World)(c:JK):Prop:=∀b,c.all b -> ∃L t a,w.heap[b]?=some (.cells L t a) /\ TJ t
theorem pn{b:JK}(h:JT W b)(f:NJ W i):¬b.all i:=λe=>by
 obtain⟨L,t,k,c,d,-⟩:=f;obtain⟨j,m,l,a,g⟩:=h i e;rw[c] at a;injection a with a
 injection a with _ a
 subst a;exact d g
theorem BX{c:JK}(h:JT W c)(b:Blk W i L t)(e:¬TJ t):¬c.all i:=λd=>by
 obtain⟨g,k,j,a,f⟩:=h i d;unfold Blk at b;rw[b] at a;injection a with a
 injection a with _ a
 subst a;exact e f
theorem gK(d:NJ W i)(h:w'.heap[i]?=W.heap[i]?):NJ w' i:=by
 obtain⟨L,t,a,b,c⟩:=d;exact⟨L,t,a,h.trans b,c⟩
theorem JT.keep{w w':World}{a:JK}(h:JT w a)(g:∀b,a.all b -> w'.heap[b]?=w.heap[b]?):JT w' a:=λb c=>by
 obtain⟨L,t,d,e,f⟩:=h b c;exact⟨L,t,d,(g b c).trans e,f⟩
theorem JAt.slim{c:JK}{J:MJ}(h:JAt W c N J):∃d,d.j=c.j /\ d.K=c.K /\ JAt W d N J /\ (∀b,d.all b -> c.all b) /\ JT W d:=by
 obtain⟨i,⟨m,n,R,f,e,g⟩,⟨o,q⟩,r,s,t,u⟩:=h;refine⟨⟨c.j,c.K,λb=>(Value.slice m J.L.length n).ownBlock=some b \/ R b⟩,rfl,rfl,⟨i,⟨m,n,R,f,e,λb a=>a⟩,⟨o,λb a=>q b (g b a)⟩,r,s,t,u⟩,?_,?_⟩
 ·rintro b (a|a|a)
  ·exact .inl a
  ·exact .inr (.inl a)
  ·exact .inr (.inr (g b a))
 ·rintro b (rfl|a|a)
  ·exact⟨_,_,_,f,.inl rfl⟩
  ·obtain⟨-,-,⟨E,-,-,l⟩,⟨L,A,-⟩,B,C⟩:=i;rcases a with rfl|rfl|rfl
   ·exact⟨_,_,_,l,.inr (.inl rfl)⟩
   ·exact⟨_,_,_,A,.inr (.inr (.inl rfl))⟩
   ·cases k:N.fault with
    |none=>rw[B k];exact⟨_,_,_,l,.inr (.inl rfl)⟩
    |some p=>exact⟨_,_,_,(C p.1 p.2 (by rw[k])).2.2,.inr (.inr (.inr (.inl rfl)))⟩
  ·rcases a with a|a
   ·obtain⟨D,z,-,-⟩:=e;obtain⟨F,y⟩:=gW z a;exact⟨_,_,_,y,.inr (.inr (.inr (.inr (.inl rfl))))⟩
   ·obtain⟨D,-,-,x⟩:=e;obtain⟨L,G,v⟩:=x b a;exact⟨_,_,_,v,.inr (.inr (.inr (.inr (.inr (.inl rfl)))))⟩
theorem Ad:¬TJ 3:=by unfold TJ;decide
theorem A1:¬TJ 108:=by unfold TJ;decide
theorem A2:¬TJ 111:=by unfold TJ;decide
theorem ES:¬TJ 93:=by unfold TJ;decide
theorem vW{f:List Value}(h:W.ownsRow i t j u o f)(p:¬TJ t)(y:t≠93)(s:t≠37):Rows (NJ W) W j u o f:=by
 obtain⟨a,l,rfl,A,B,C,D,E⟩:=Rows.of_owns h;refine⟨a,l,rfl,A,B,C,D,?_⟩;rcases E with c|⟨b,z,L,F,m,rfl,I,q,r,x⟩
 ·exact .inl c
 ·refine .inr ⟨b,z,L,F,m,rfl,?_,q,r,x⟩;rcases h.2 with⟨c,_⟩|⟨g,G,H,d,_,hh,_⟩
  ·simp at c
  ·simp at d;obtain⟨⟨rfl,-⟩,-⟩:=d;exact⟨_,_,_,hh,p,y,s⟩
theorem dU.nj{b c d:Value}(h:dU W i b c d r)(a:Bnd r):ce (NJ W) W b c d r:=
 ⟨vW h.seen Ad (by decide) (by decide),vW h.items A1 (by decide) (by decide),vW h.gone A2 (by decide) (by decide),(h.map a).seenB,(h.map a).itemsB,(h.map a).goneB⟩
structure UAt(w:World)(jk:JK)(u:Nat)(M:MD)(U:MU):Prop where
 box:∃a1 c1 a2 c2 a3 c3,Blk w u [.int .i64 (U.dev:Int),.slice a1 U.m.seen.length c1,.slice a2 U.m.items.length c2,.slice a3 U.m.gone.length c3,.pointer (some ⟨jk.j,0,none⟩)] 93 /\
  ce (NJ w) w (.slice a1 U.m.seen.length c1) (.slice a2 U.m.items.length c2) (.slice a3 U.m.gone.length c3) U.m
 jat:JAt w jk M U.J
 typ:JT w jk
 low:∀b,jk.all b -> 3<b
theorem UAt.lt{w:World}{b:JK}{u:Nat}{M:MD}{U:MU}(h:UAt w b u M U):u<w.heap.size:=by
 obtain⟨c,f,d,g,e,i,a,-⟩:=h.box;exact a.lt
theorem UAt.keep{w w':World}{f:JK}{u:Nat}{M:MD}{U:MU}(h:UAt w f u M U)(a:Kpt w w'):UAt w' f u M U:=by
 obtain⟨g,k,i,l,j,m,c,n⟩:=h.box;have p:=h.jat.lt
 exact⟨⟨g,k,i,l,j,m,c.keep (a.block _ c.lt),(n.keep λq _ d=>a.block q d).mono (λq e d=>gK e (a.block q (by
  obtain⟨L,t,r,hh,_⟩:=e
  exact lt_of_block hh)))⟩,h.jat.kept a,h.typ.keep λb o=>a.block b (p b o),h.low⟩
theorem UAt.apart{c:JK}{U:MU}(h:UAt W c i N U):¬c.all i:=λd=>by
 obtain⟨f,k,g,l,j,m,b,-⟩:=h.box;obtain⟨L,t,n,a,e⟩:=h.typ i d;unfold Blk at b;rw[b] at a;injection a with a
 injection a with _ a
 subst a;exact ES e
theorem UAt.moved{a e:JK}{M l:MD}{U:MU}{k:MJ}(h:UAt W a i M U)(g:aM a.all W w')(H:JAt w' e l k)(v:e.j=a.j)(r:∀b,e.all b -> a.all b \/ W.heap.size <= b)(N:3<W.heap.size):
 ∃c,c.j=a.j /\ c.K=e.K /\ (∀b,c.all b -> a.all b \/ W.heap.size <= b) /\ UAt w' c i l ⟨U.dev,U.m,k⟩:=by
 obtain⟨x,A,y,B,z,C,p,G⟩:=h.box;obtain⟨c,n,D,E,o,F⟩:=H.slim
 refine⟨c,n.trans v,D,λb f=>r b (o b f),⟨x,A,y,B,z,C,?_,(G.keep λq d I=>g.block q I (pn h.typ d)).mono λq d _=>gK d (g.block q (by
  obtain⟨L,t,J,hh,_⟩:=d
  exact lt_of_block hh) (pn h.typ d))⟩,E,F,λb f=>?_⟩
 ·rw[n,v];exact p.keep (g.block i p.lt h.apart)
 ·rcases r b (o b f) with s|s
  ·exact h.low b s
  ·omega
section
attribute [local go_sem ↓] mN iA
attribute [local go_sem] opC upC
theorem Dz(l x:List UInt8)(h:l.length=x.length):dp l 0 x=x:=by
 unfold dp;simp[h]
theorem p7(l z g C:Nat)(A:Value)(q:Bool)(K:DK)(M:MD)(u:d9 w l z g A C q)(t:bM w K M)(F:K.d=z)(c:Nat)(m:c<M.S.length)(J:M.down=false):
 Calls aE 94 #[.pointer (some ⟨l,0,none⟩),.int .i64 (c:Int)] w λe D=>∃o,e=.returned (.pointer (some ⟨o,0,none⟩)) /\ w.heap.size <= o /\ dR D o (M.S.getD c []) /\ Kpt w D:=by
 subst F;have U:=kH w;obtain⟨f,h⟩:=aP (w.alloc (.cells (fi.map B).toArray 137));have x:dR f w.heap.size fi:=by rw[h];exact dR.new _ _ gE
 have n:Kpt w f:=by rw[h];exact aI _ _
 have V:f.heap.size=w.heap.size+1:=by rw[h];simp
 have I:=t.kept n;have N:d9 f l K.d g A C q:=Blk.keep u (n.block l (Blk.lt u));have p:=N.cell 0;simp at p;have v:=Es f K M c I m J
 have i:M.S[c].length=64:=by
  obtain⟨L,-,G⟩:=t.secs;exact G.2.2 _ (aC m)
 rw[h] at p v
 go_enter func94,ntmps94
 go_wp2_with fail;refine v.mono ?_;rintro e E ⟨r,rfl,k,j⟩;rw[<- h] at k j;have k:E.ownsRow f.heap.size 5 1 r (M.S[c]).length ((M.S[c]).map B):=by rw[i];exact k
 have R:dR E w.heap.size fi:=⟨x.1.keep (j.block _ (by omega)),x.2⟩
 have O:=n.trans (j.mono (by omega));have s:=lH k;obtain⟨a,T,rfl,-,-⟩:=id s;obtain⟨X,H,y,Q,W⟩:=o8 R 0 64 64 s 64 (by rw[i];rfl) (by omega);rw[List.take_of_length_le (by omega),Dz _ _ (by rw[gE,i])] at y;rw[show((64:Nat):Int)=64 from rfl,i] at H;have P:=fW O Q (λb e=>by rw[e];exact aq _) (by have:=j.size;omega);go_wp2
 go_ret
 refine⟨_,rfl,aq _,?_,P⟩;rw[show M.S.getD c []=M.S[c] from by rw[List.getD_eq_getElem?_getD,List.getElem?_eq_getElem m];rfl];exact y
theorem mm(S:List (List UInt8))(g k p n:Nat):∀(i j:Nat),eL S g k p n (i+j)=true -> eL S g k p n i=true
 |i,0,h=>h
 |i,j+1,h=>by
  refine mm S g k p n i j ?_;have:eL S g k p n (i+j+1)=true:=h;simp only[eL,Bool.and_eq_true] at this;exact this.1
theorem gp(S:List (List UInt8))(b:∀s∈S,s.length=64)(g p:Nat):∀i,(∀j,j<i -> dm S.length g (p+j)<S.length) -> (fF S g p i).length=48*i
 |0,_=>rfl
 |i+1,h=>by
  have c:=gp S b g p i (λj e=>h j (by omega));have a:=h i (by omega)
  have d:(mY S g (p+i)).length=64:=by
   unfold mY;rw[List.getD_eq_getElem?_getD,List.getElem?_eq_getElem a];exact b _ (aC a)
  simp only[fF,aA,c,List.length_take,List.length_drop,d];omega
theorem ie(n g p:Nat)(b:p<bw n):dm n g p<n:=by
 unfold dm;have a:g%2=0 \/ g%2=1:=by omega
 unfold bw at *;rcases a with h|h<;>rw[h]<;>omega
end
section
attribute [local go_sem ↓] aU
attribute [local go_sem] opC upC told bE bm bF bp bq bG bH
theorem dR.bytes12(h:dR W j l):aO (λb=>b=j) W (.slice (some ⟨j,12,none⟩) 48 52) ((l.drop 12).take 48):=by
 obtain⟨c,d⟩:=h;have a:((l.drop 12).take 48).length=48:=by simp;omega
 refine⟨some ⟨j,12,none⟩,52,by rw[a],by omega,by unfold maxLen;omega,nofun,.inr ⟨j,12,(l.map B).toArray,137,(0,0),rfl,rfl,c,by simp;omega,λi hi=>?_⟩⟩;rw[a] at hi;simp[List.getElem?_eq_getElem (show 12+i<l.length by omega)]
def yo(w:World)(r:Option (List UInt8))(e:Ending)(a:World):Prop:=
 (match r with
  |none=>e=.returned (.tuple #[.slice none 0 0,.bool false])
  |some b=>∃v,e=.returned (.tuple #[v,.bool true]) /\ aO (λq=>w.heap.size <= q /\ q<a.heap.size) a v b /\ b.length <= 65536) /\ Kpt w a
theorem ig(h:W.ownsRow i t j u o L)(b:Kpt W w'):w'.ownsRow i t j u o L:=by
 refine uB h λg a=>b.block g ?_
 rcases h.2 with⟨rfl,_⟩|⟨k,d,f,rfl,_,c,_⟩
 ·cases a
 ·simp[Value.ownBlock] at a;subst a;exact lt_of_block c
theorem aO.take{F:aQ}{w:World}{a:Option Addr}{cap:Nat}{l:List UInt8}(h:aO F w (.slice a l.length cap) l)(n:Nat)(u:n <= l.length):aO F w (.slice a n cap) (l.take n):=by
 obtain⟨p,q,c,r,g,m,k⟩:=h;simp at c;obtain⟨rfl,rfl⟩:=c;have d:(l.take n).length=n:=by simp;omega
 refine⟨a,cap,by rw[d],by omega,g,m,?_⟩;rcases k with rfl|⟨b,o,L,t,e,rfl,hF,f,s,j⟩
 ·exact .inl (by simp)
 ·refine .inr ⟨b,o,L,t,e,rfl,hF,f,by omega,λi hi=>?_⟩;rw[d] at hi;rw[List.getElem_take];exact j i (by omega)
def A3(w:World)(S:List (List UInt8))(g k p n T:Nat)(v i:Value)(wr:World):Prop:=
 ∃m:Nat,m <= T /\ i=.int .i64 (m:Int) /\ eL S g k p n m=true /\ wr.ownsRow w.heap.size 5 1 v (fF S g p m).length ((fF S g p m).map B) /\ Kpt w wr
theorem DA(r z g c k:Nat)(ra:Option Addr)(rc:Nat)(D:Bool)(K:DK)(M:MD)(Q:d9 w r z g (.slice ra k rc) c D)(hd:bM w K M)(b:K.d=z)(U:cU w)(a7:M.down=false)(h8:8 <= M.S.length)(hg:g<4294967296)(hk:k <= 65536)(ht:c <= 65536)(h0:0<w.heap.size):
 Calls aE 97 #[.pointer (some ⟨r,0,none⟩)] w (yo w (dP M.S g k c)):=by
 have bX:=hd.le;have hH:bw M.S.length <= 32768:=by unfold bw;omega
 have bE:=Blk.lt Q;obtain⟨H,ai⟩:=aH (bw M.S.length);have bH:∀{a},Kpt w a -> cU a:=λp=>U.keep (p.block 0 h0)
 have x:∀{a},Kpt w a -> d9 a r z g (.slice ra k rc) c D:=λp=>Blk.keep Q (p.block r bE)
 have X:∀{a},Kpt w a -> bM a K M:=λp=>hd.kept p
 have bi:∀w0:World,Kpt w w0 -> ∀a,aK w0.drew a -> a.cell? ⟨r,1,none⟩=some (.int .u32 (g:Int)):=λw0 p a hh=>dY (by simpa using(x p).cell 1) hh
 have bj:∀w0:World,Kpt w w0 -> ∀a,aK w0.drew a -> a.cell? ⟨r,2,none⟩=some (.slice ra k rc):=λw0 p a hh=>dY (by simpa using(x p).cell 2) hh
 have bk:∀w0:World,Kpt w w0 -> ∀a,aK w0.drew a -> a.cell? ⟨r,3,none⟩=some (.int .i64 (c:Int)):=λw0 p a hh=>dY (by simpa using(x p).cell 3) hh
 have N:=ae ai;rw[ai] at hH;have O:Kpt w w.drew:=(Below.refl _ _).drew
 have a0:∀w0,Kpt w w0 -> Hd (Calls aE 139 #[.pointer (some ⟨r,0,none⟩)] w0 λe a=>e=.returned (.int .i64 (H:Int)) /\ w0=a):=λw0 p=>by
  have:=o7 w0 r z g _ c D K M (x p) (X p) b (by omega);rw[ai] at this;exact ae this
 have⟨Hj,Hd,Q1,Q2,Q3⟩:=ae5 Q hd bi bj bk;clear ai Q hd bi bj bk;have bR:(H:Int) <= 32768:=by omega
 have b8:(c:Int) <= 65536:=by omega
 have bU:(k:Int) <= 65536:=by omega
 go_enter func97,ntmps97
 go_wp2_with fail;have G:=Q3.x w (Below.refl _ _);refine bP aK (up 5 [505,6]) (by kernel_rfl) ?_;apply aG;rfl;intro a f;go_simp;exact aF;refine aY rfl rfl (λo b=>?_);go_simp;refine(a0 w.drew O).x.mono ?_;rintro e a ⟨rfl,rfl⟩;refine⟨_,rfl,aZ _,b _ _ ?_⟩;clear b o;go_simp;apply aG;rfl;intro a f;go_simp;exact aF;refine aW ?_;clear G
 by_cases hT:H <= c
 ·have bz:(H:Int) <= (c:Int):=by omega
  have hr:dP M.S g k c=none:=by unfold dP;rw[N.x,if_pos hT]
  have Hr:=ae hr;clear hr;go_wp2;go_ret2;rw[Hr.x];exact⟨rfl,O⟩
 ·have bz:¬(H:Int) <= (c:Int):=by omega
  have Z:dm M.S.length g c<M.S.length:=ie _ _ _ (by rw[N.x];omega);obtain⟨wA,bg⟩:=aP w.drew;rw[<- bg] at O⊢;clear bg;have P:Kpt w wA.drew:=O.drew;have R:=p4 wA.drew r z g _ c D K M (x P) (X P) b (by omega) g c ht;have E:=p7 wA.drew r z g c _ D K M (x P) (X P) b _ Z a7;obtain⟨l,aT⟩:=aH (mY M.S g c);rw[show M.S.getD (dm M.S.length g c) []=l from aT] at E;have⟨ax,ay,bu⟩:=ae3 R E aT;clear R E aT Z;go_wp2_with fail;have t:=Q1.x wA O;have G:=Q3.x wA O;refine bP aK (up 10 [510,511,512,13]) (by kernel_rfl) ?_;apply aG;rfl;intro a f;go_simp;exact aF;refine aY rfl rfl (λo b=>?_);go_simp;refine ax.x.mono ?_;rintro e a ⟨rfl,rfl⟩;refine⟨_,rfl,aZ _,b _ _ ?_⟩;clear b o;go_simp;apply aG;rfl;intro a f;go_simp;exact aF;refine aY rfl rfl (λo b=>?_);go_simp;refine ay.x.mono ?_;rintro e I ⟨u,rfl,be,ab,aM⟩;refine⟨_,rfl,aM,b _ _ ?_⟩;clear b o;go_simp;apply aG;rfl;intro a f;go_simp;exact aF;refine aY rfl rfl (λo b=>?_);go_simp;refine(fH I u _ ab 8 (by omega)).mono ?_;rintro e a ⟨rfl,rfl⟩;refine⟨_,rfl,aZ _,b _ _ ?_⟩;clear b o;go_simp;apply aG;rfl;intro a f;go_simp;exact aF;refine aW ?_;clear t G;have b3:Kpt w I:=P.trans (aM.mono P.size)
  have bb:dP M.S g k c=if 65536<bV l 8 \/ H<c+takes (bV l 8) then none else
   if eL M.S g k c (bV l 8) (takes (bV l 8)) then some ((fF M.S g c (takes (bV l 8))).take (bV l 8)) else none:=by
   unfold dP;rw[N.x,if_neg hT,bu.x]
  have b2:bV l 8<4294967296:=l8 _ _;generalize bV l 8=n at *;have az:=ae bb;clear bb ab aM be
  by_cases hn:65536<n
  ·have aQ:(65536:Int)<(n:Int):=by omega
   have bG:decide ((65536:Int)<(n:Int))=true:=decide_eq_true aQ;go_wp2_with fail;refine bP aK (up 9 [11,509,10,512,13,14]) (by kernel_rfl) ?_;apply aG;rfl;intro a f;go_simp;exact aF
   repeat (apply bK;rfl;rfl;go_simp;go_simp;rfl;apply aG;rfl;intro a f;go_simp;exact aF)
   refine aW ?_;go_wp2;go_ret2;rw[az.x,if_pos (.inl hn)];exact⟨rfl,b3.drew⟩
  ·have aQ:¬(65536:Int)<(n:Int):=by omega
   have bG:decide ((65536:Int)<(n:Int))=false:=decide_eq_false aQ;have b4:(n:Int) <= 65536:=by omega
   have b9:=af (n:Int) (by omega);have bI:=ei n;have bJ:takes n <= 1366:=by unfold takes;omega
   have aV:=λw0=>ld w0 n (by omega)
   obtain⟨T,aL⟩:=aH (takes n);have HT:=ae aL;rw[aL] at bI bJ aV;have a2:=ae aV;clear aL aV;have aX:=af ((c:Int)+(T:Int)) (by omega);have ag:Kpt w I.drew:=b3.drew;go_wp2_with fail;have G:=Q3.x I b3;refine bP aK (up 9 [11,509,10,512,13,14]) (by kernel_rfl) ?_;apply aG;rfl;intro a f;go_simp;exact aF
   repeat (apply bK;rfl;rfl;go_simp;go_simp;rfl;apply aG;rfl;intro a f;go_simp;exact aF)
   refine aY rfl rfl (λo b=>?_);go_simp;refine(a2.x I.drew).mono ?_;rintro e a ⟨rfl,rfl⟩;refine⟨_,rfl,aZ _,b _ _ ?_⟩;clear b o;go_simp;apply aG;rfl;intro a f;go_simp;exact aF
   repeat (apply bK;rfl;rfl;go_simp;go_simp;rfl;apply aG;rfl;intro a f;go_simp;exact aF)
   refine aY rfl rfl (λo b=>?_);go_simp;refine(a0 I.drew ag).x.mono ?_;rintro e a ⟨rfl,rfl⟩;refine⟨_,rfl,aZ _,b _ _ ?_⟩;clear b o;go_simp;apply aG;rfl;intro a f;go_simp;exact aF
   repeat (apply bK;rfl;rfl;go_simp;go_simp;rfl;apply aG;rfl;intro a f;go_simp;exact aF)
   refine aW ?_;clear G
   by_cases bD:H<c+T
   ·have bC:(H:Int)<(c:Int)+(T:Int):=by omega
    go_wp2;go_ret2;rw[az.x,HT.x,if_pos (.inr bD)];exact⟨rfl,ag⟩
   ·have bC:¬(H:Int)<(c:Int)+(T:Int):=by omega
    have bc:dP M.S g k c=if eL M.S g k c n T then some ((fF M.S g c T).take n) else none:=by
     rw[az.x,HT.x,if_neg (by omega)]
    have a1:=ae bc;clear bc;obtain⟨wB,bh⟩:=aP I.drew;rw[<- bh] at ag⊢;clear bh aX;go_wp2_with fail;refine(a2.x wB).mono ?_;rintro e a ⟨rfl,rfl⟩;go_wp2
    go_loopw [5,46] (λv i wr=>A3 w M.S g k c n T v i wr) (λ_ i _=>T-(intOf i).toNat)
    ·exact⟨0,by omega,rfl,rfl,World.ownsRow_nil _ _ _ _,ag⟩
    ·obtain⟨m,hm,rfl,aa,an,al⟩:=hrel
     by_cases bZ:m<T
     ·have bF:(m:Int)<(T:Int):=by omega
      have aJ:takes n=max 1 ((n+47)/48):=rfl;have bx:48*m <= n:=by have:=HT.x;omega
      have aX:=af ((c:Int)+(m:Int)) (by omega);have ca:=af (48*(m:Int)) (by omega);have cb:=aj (48*(m:Int)) (by omega);have cc:=aj ((n:Int)-48*(m:Int)) (by omega);have ar:=aj (k:Int) (by omega);have Z:dm M.S.length g (c+m)<M.S.length:=ie _ _ _ (by rw[N.x];omega);have C:Kpt w wr.drew:=al.drew;have R:=p4 wr.drew r z g _ c D K M (x C) (X C) b (by omega) g (c+m) (by omega);have E:=p7 wr.drew r z g c _ D K M (x C) (X C) b _ Z a7;obtain⟨sm,ao⟩:=aH (mY M.S g (c+m));rw[show M.S.getD (dm M.S.length g (c+m)) []=sm from ao] at E;rw[show((c+m:Nat):Int)=(c:Int)+(m:Int) by omega] at R
      have aU:eL M.S g k c n (m+1)=dE sm g k (n-48*m):=by
       simp only[eL,aa,ao,Bool.true_and]
      have a3:dE sm g k (n-48*m)=false -> dP M.S g k c=none:=λp=>by
       rw[a1.x,if_neg];intro hh;have:=mm M.S g k c n (m+1) (T-(m+1)) (by rw[show m+1+(T-(m+1))=T by omega];exact hh);rw[aU,p] at this;cases this
      have a5:fF M.S g c (m+1)=fF M.S g c m++(sm.drop 12).take 48:=by
       simp only[fF,ao]
      have⟨ax,ay,bv,ad,bm,bq,bN⟩:=ae7 R E aU a3 a5 an aa;clear R E aU a3 a5 an aa ao Z aJ;go_wp2_with fail;have t:=Q1.x wr al;have G:=Q3.x wr al;refine bP aK (up 12 [512,513,14]) (by kernel_rfl) ?_;apply aG;rfl;intro a f;go_simp;exact aF;refine aY rfl rfl (λo b=>?_);go_simp;refine ax.x.mono ?_;rintro e a ⟨rfl,rfl⟩;refine⟨_,rfl,aZ _,b _ _ ?_⟩;clear b o;go_simp;apply aG;rfl;intro a f;go_simp;exact aF;refine aY rfl rfl (λo b=>?_);go_simp;refine ay.x.mono ?_;rintro e J ⟨u,rfl,be,ab,ak⟩;refine⟨_,rfl,ak,b _ _ ?_⟩;clear b o;go_simp;apply aG;rfl;intro a f;go_simp;exact aF;refine aW ?_;clear t G;have A:Kpt w J:=C.trans (ak.mono C.size);have ba:=ig (ig bq.x (Below.refl _ _).drew) ak;have⟨br,bf⟩:=ae2 ba ab;clear ba ab ak C aX;obtain⟨l,rfl⟩:=aP sm;go_wp2_with fail;have t:=Q1.x J A;have F:=Q2.x J A;refine bP aK [0,501,2,3,4,6,7,8,9,505,10,11,12,13,15,16,17,18,19,20,514,21,22,23,24,26,27,28,29,30,525,31,32] (by kernel_rfl) ?_;apply aG;rfl;intro a f;go_simp;exact aF
      repeat (apply bK;rfl;rfl;go_simp;go_simp;rfl;apply aG;rfl;intro a f;go_simp;exact aF)
      refine aY rfl rfl (λo b=>?_);go_simp;refine(gO J.drew (bH A.drew) u l bf.x).mono ?_;rintro e w6 ⟨rfl,q,ar⟩;have l6:aK J.drew w6:=by rw[<- ar];exact⟨rfl,rfl,rfl,aq _,λ_ _=>rfl⟩
      have y:dR w6 u l:=by rw[<- ar];exact bf.x
      have B:Kpt w w6:=A.drew.trans (l6.mono A.size);clear ar;refine⟨_,rfl,l6,b _ _ ?_⟩;clear b o t F;have t:∀a,aK w6 a -> a.cell? ⟨r,1,none⟩=some (.int .u32 (g:Int)):=λa hh=>Q1.x J A a (bL _ _ _ l6 hh)
      have F:∀a,aK w6 a -> a.cell? ⟨r,2,none⟩=some (.slice ra k rc):=λa hh=>Q2.x J A a (bL _ _ _ l6 hh)
      cases a9:iM l with
      |false=>
       have p:dE l g k (n-48*m)=false:=by simp[dE,a9]
       go_simp;apply aG;rfl;intro a f;go_simp;exact aF
       repeat (apply bK;rfl;rfl;go_simp;go_simp;rfl;apply aG;rfl;intro a f;go_simp;exact aF)
       refine aW ?_;clear t F;go_wp2;go_ret2;rw[ad.x p];exact⟨rfl,B⟩
      |true=>
       go_simp;apply aG;rfl;intro a f;go_simp;exact aF
       repeat (apply bK;rfl;rfl;go_simp;go_simp;rfl;apply aG;rfl;intro a f;go_simp;exact aF)
       by_cases V:bV l 0=g
       case neg=>
        have n0:((bV l 0:Int) != (g:Int))=true:=by simp;omega
        have p:dE l g k (n-48*m)=false:=by simp[dE,V]
        clear V;refine aY rfl rfl (λo b=>?_);go_simp;refine(fH w6 u l y 0 (by omega)).mono ?_;rintro e a ⟨rfl,rfl⟩;refine⟨_,rfl,aZ _,b _ _ ?_⟩;clear b o;go_simp;apply aG;rfl;intro a f;go_simp;exact aF
        repeat (apply bK;rfl;rfl;go_simp;go_simp;rfl;apply aG;rfl;intro a f;go_simp;exact aF)
        refine aW ?_;clear t F;go_wp2;go_ret2;rw[ad.x p];exact⟨rfl,B⟩
       have n0:((bV l 0:Int) != (g:Int))=false:=by simp[V]
       have H0:=ae V;clear V;refine aY rfl rfl (λo b=>?_);go_simp;refine(fH w6 u l y 0 (by omega)).mono ?_;rintro e a ⟨rfl,rfl⟩;refine⟨_,rfl,aZ _,b _ _ ?_⟩;clear b o;go_simp;apply aG;rfl;intro a f;go_simp;exact aF
       repeat (apply bK;rfl;rfl;go_simp;go_simp;rfl;apply aG;rfl;intro a f;go_simp;exact aF)
       by_cases W:bV l 4=k
       case neg=>
        have n4:((bV l 4:Int) != (k:Int))=true:=by simp;omega
        have p:dE l g k (n-48*m)=false:=by simp[dE,W]
        clear W;refine aY rfl rfl (λo b=>?_);go_simp;refine(fH w6 u l y 4 (by omega)).mono ?_;rintro e a ⟨rfl,rfl⟩;refine⟨_,rfl,aZ _,b _ _ ?_⟩;clear b o;go_simp;apply aG;rfl;intro a f;go_simp;exact aF
        repeat (apply bK;rfl;rfl;go_simp;go_simp;rfl;apply aG;rfl;intro a f;go_simp;exact aF)
        refine aW ?_;clear t F;go_wp2;go_ret2;rw[ad.x p];exact⟨rfl,B⟩
       have n4:((bV l 4:Int) != (k:Int))=false:=by simp[W]
       have H4:=ae W;clear W;refine aY rfl rfl (λo b=>?_);go_simp;refine(fH w6 u l y 4 (by omega)).mono ?_;rintro e a ⟨rfl,rfl⟩;refine⟨_,rfl,aZ _,b _ _ ?_⟩;clear b o;go_simp;apply aG;rfl;intro a f;go_simp;exact aF
       repeat (apply bK;rfl;rfl;go_simp;go_simp;rfl;apply aG;rfl;intro a f;go_simp;exact aF)
       by_cases aI:bV l 8=n-48*m
       case neg=>
        have n8:((bV l 8:Int) != (n:Int)-48*(m:Int))=true:=by simp;omega
        have p:dE l g k (n-48*m)=false:=by simp[dE,aI]
        clear aI;refine aY rfl rfl (λo b=>?_);go_simp;refine(fH w6 u l y 8 (by omega)).mono ?_;rintro e a ⟨rfl,rfl⟩;refine⟨_,rfl,aZ _,b _ _ ?_⟩;clear b o;go_simp;apply aG;rfl;intro a f;go_simp;exact aF
        repeat (apply bK;rfl;rfl;go_simp;go_simp;rfl;apply aG;rfl;intro a f;go_simp;exact aF)
        refine aW ?_;clear t F;go_wp2;go_ret2;rw[ad.x p];exact⟨rfl,B⟩
       have n8:((bV l 8:Int) != (n:Int)-48*(m:Int))=false:=by simp;omega
       have bp:dE l g k (n-48*m)=true:=by simp[dE,a9,H0.x,H4.x,aI]
       refine aY rfl rfl (λo b=>?_);go_simp;refine(fH w6 u l y 8 (by omega)).mono ?_;rintro e a ⟨rfl,rfl⟩;refine⟨_,rfl,aZ _,b _ _ ?_⟩;go_simp;apply aG;rfl;intro a f;go_simp;exact aF
       repeat (apply bK;rfl;rfl;go_simp;go_simp;rfl;apply aG;rfl;intro a f;go_simp;exact aF)
       refine aW ?_;clear t F;have aR:=ig (ig br.x (Below.refl _ _).drew) l6;have Y:(fF M.S g c m).length=48*m:=gp _ (λs hs=>by obtain⟨L,-,hL⟩:=Hd.x.secs;exact hL.2.2 s hs) _ _ _ (λj Q=>ie _ _ _ (by rw[N.x];omega));obtain⟨v7,w7,bS,aS,a8⟩:=cP w6 w.heap.size _ _ aR _ _ _ y.bytes12 (by rw[Y];simp;omega) B.size;rw[<- bm.x] at aS
       have b7:Kpt w w7:=B.grown a8 B.size (λq U=>by
        rcases aR.2 with⟨h,_⟩|⟨g',bO,bQ,h,bY,_⟩
        ·rw[h] at U;cases U
        ·rw[h] at U;simp[Value.ownBlock] at U;omega)
       have bs:=ae aS;clear aS aR a8 Y y;go_wp2
       go_roundw
       ·exact⟨m+1,by omega,by go_num,by rw[bv.x];exact bp,bs.x,b7⟩
       ·simp[intOf];omega
     ·have bF:¬(m:Int)<(T:Int):=by omega
      obtain rfl:m=T:=by omega
      have aJ:takes n=max 1 ((n+47)/48):=rfl;have bx:n <= 48*m:=by have:=HT.x;omega
      have Y:(fF M.S g c m).length=48*m:=gp _ (λs hs=>by obtain⟨L,-,hL⟩:=Hd.x.secs;exact hL.2.2 s hs) _ _ _ (λj Q=>ie _ _ _ (by rw[N.x];omega));have aN:=aO.of_owns an (λq=>w.heap.size <= q /\ q<wr.heap.size) (λq h1 h2=>⟨h1,h2⟩);have bd:dP M.S g k c=some ((fF M.S g c m).take n):=by rw[a1.x,if_pos aa]
      generalize fF M.S g c m=bo at *;obtain⟨av,cv,rfl,bB,b1,-,-⟩:=id aN;have a6:=aN.take n (by omega);have a4:(bo.take n).length <= 65536:=by simp;omega
      have⟨bt,bn,bl⟩:=ae3 bd a6 a4;clear bd a6 a4 aN an aa aJ;rw[Y] at bB⊢;clear Y;have bT:(n:Int) <= (cv:Int):=by omega
      go_wp2;go_ret2;rw[bt.x];exact⟨⟨_,rfl,bn.x,bl.x⟩,al⟩
/- Open. -/
end
section
attribute [local go_sem] opC upC told bE bm bF bp bq bG bH
def rp(S:List (List UInt8))(a:Bool×Nat)(i:Nat):Bool×Nat:=
 if gz (S.getD i []) i&&(!a.1 || decide (a.2<bV (S.getD i []) 4)) then(true,bV (S.getD i []) 4) else a
def fJ(S:List (List UInt8)):Nat -> Bool×Nat
 |0=>(false,0)
 |m+1=>rp S (fJ S m) m
theorem ET(x y:Bool)(p q:Nat):(if y&&(!x || decide (p<q)) then some q else if x then some p else none) =
 (if(if y&&(!(if x&&(!false || decide (0<p)) then(true,p) else(false,0)).1 || decide ((if x&&(!false || decide (0<p)) then(true,p) else(false,0)).2<q)) then(true,q) else(if x&&(!false || decide (0<p)) then(true,p) else(false,0))).1 then
  some (if y&&(!(if x&&(!false || decide (0<p)) then(true,p) else(false,0)).1 || decide ((if x&&(!false || decide (0<p)) then(true,p) else(false,0)).2<q)) then(true,q) else(if x&&(!false || decide (0<p)) then(true,p) else(false,0))).2 else none):=by
 cases x<;>cases y<;>by_cases h:p<q<;>simp[h]
theorem A4(S:List (List UInt8)):Ew S=if(fJ S 2).1 then some (fJ S 2).2 else none:=ET _ _ _ _
theorem pp(S:List (List UInt8)):∀m,(fJ S m).2<4294967296
 |0=>by simp[fJ]
 |m+1=>by
  simp only[fJ,rp];split
  ·exact l8 _ _
  ·exact pp S m
theorem pq{S:List (List UInt8)}{g k p:Nat}(a:∀s∈S,s.length=64)(h:dP S g k p=some l):p+takes l.length <= bw S.length /\ l.length <= 65536:=by
 unfold dP at h;split at h
 ·cases h
 ·rename_i o;dsimp only at h;generalize m:bV (mY S g p) 8=n at h;split at h
  ·cases h
  ·rename_i r;split at h
   ·rename_i q;have e:takes n=max 1 ((n+47)/48):=rfl;have i:=gp S a g p (takes n) (λj f=>ie _ _ _ (by omega));have c:=Option.some.inj h;have d:l.length=n:=by rw[<- c];simp;omega
    rw[d];omega
   ·cases h
theorem nC{S:List (List UInt8)}(h:dP S i j o=none)(f:Nat):dQ S i f j o = []:=by
 cases f with
 |zero=>rfl
 |succ f=>simp[dQ,h]
theorem nD{S:List (List UInt8)}(h:dP S i j o=some l)(f:Nat):dQ S i (f+1) j o=l::dQ S i f (j+1) (o+takes l.length):=by
 simp[dQ,h]
def FG(w:World)(jb a:Nat)(S:List (List UInt8))(f i:Value)(wr:World):Prop:=
 ∃m:Nat,m <= 2 /\ i=.int .i64 (m:Int) /\ f=.bool (fJ S m).1 /\ d9 wr jb a (fJ S m).2 (.slice none 0 0) 0 false /\ Kpt w wr
def FH(w:World)(jb d g:Nat)(S:List (List UInt8))(v:Value)(wr:World):Prop:=
 ∃(a:Option Addr)(c:Nat)(R:aQ)(L:List (List UInt8)),v=v /\ d9 wr jb d g (.slice a L.length c) (bj L) false /\ bU R wr 0 (.slice a L.length c) L /\
  (∀b,(Value.slice a L.length c).ownBlock=some b \/ R b -> w.heap.size <= b /\ b≠jb /\ b<wr.heap.size) /\ bj L <= bw S.length /\ (∀b∈L,b.length <= 65536) /\
  dQ S g (bw S.length+1) 0 0=L++dQ S g (bw S.length+1-L.length) L.length (bj L) /\ Kpt w wr
def pt(jb:Nat)(wr:World):Nat:=(intOf ((wr.cell? ⟨jb,3,none⟩).getD (.int .i64 0))).toNat
def DB(w:World)(K:DK)(M:MD)(r:MJ ⊕ Int)(e:Ending)(d:World):Prop:=
 (match r with
  |.inr c=>e=.returned (.tuple #[.pointer none,.int .i64 c])
  |.inl J=>∃a,e=.returned (.tuple #[.pointer (some ⟨a.j,0,none⟩),.int .i64 0]) /\ a.K=K /\ JAt d a M J /\ ∀b,a.all b -> K.foot b \/ w.heap.size <= b) /\ Kpt w d
theorem DC(K:DK)(M:MD)(W:bM w K M)(hq:cU w):
 Calls aE 48 #[.pointer (some ⟨K.d,0,none⟩)] w (DB w K M (gX M)):=by
 have hc:=nY w K M W;have h0:0<w.heap.size:=by obtain⟨t,fz,hh⟩:=hq;exact lt_of_block hh
 have br:=W.le;have ad:=xE w K M W;have⟨Hc,aT⟩:=ae2 hc ad;clear hc ad
 by_cases h8:M.S.length<8
 ·have Hr:=ae (show gX M=.inr 6 by unfold gX;rw[if_pos h8]);have U:=Hc.x;rw[if_pos h8] at U
  go_enter func48,ntmps48
  go_wp2_with fail;refine U.mono ?_;rintro e F ⟨rfl,rfl⟩;clear U;go_wp2;go_ret2;rw[Hr.x];exact⟨rfl,Below.refl _ _⟩
 have U:=Hc.x;rw[if_neg h8] at U;have aS:=ae U;clear U Hc
 by_cases av:M.down=true
 ·have Hr:=ae (show gX M=.inr 341 by unfold gX;rw[if_neg h8,if_pos av])
  go_enter func48,ntmps48
  go_wp2_with fail;refine aS.x.mono ?_;rintro e F ⟨rfl,rfl⟩;go_wp2_with fail;refine aT.x.mono ?_;rintro e F ⟨rfl,rfl⟩;rw[av];go_wp2;go_ret2;rw[Hr.x];exact⟨rfl,Below.refl _ _⟩
 have ad:M.down=false:=by simpa using av
 have Hr:=ae (show gX M=match Ew M.S with|none=>.inr 340|some g=>.inl ⟨g,dQ M.S g (bw M.S.length+1) 0 0,false⟩ by unfold gX;rw[if_neg h8,if_neg av];rfl);clear av
 go_enter func48,ntmps48
 go_wp2_with fail;refine aS.x.mono ?_;rintro e F ⟨rfl,rfl⟩;go_wp2_with fail;refine aT.x.mono ?_;rintro e F ⟨rfl,rfl⟩;rw[ad];go_wp2_with fail;obtain⟨jb,az⟩:=aP w.heap.size
 have aX:d9 (w.alloc (.cells #[.pointer (some ⟨K.d,0,none⟩),.int .u32 0,.slice none 0 0,.int .i64 0,.bool false] 141)) jb K.d 0 (.slice none 0 0) 0 false:=by
  rw[az];exact Blk.new w #[.pointer (some ⟨K.d,0,none⟩),.int .u32 0,.slice none 0 0,.int .i64 0,.bool false] 141
 have aY:=aI w (.cells #[.pointer (some ⟨K.d,0,none⟩),.int .u32 0,.slice none 0 0,.int .i64 0,.bool false] 141);have Z:∀{F},Kpt w F -> cU F:=λn=>hq.keep (n.block 0 h0)
 have aK:∀{F},Kpt w F -> bM F K M:=λn=>W.kept n
 have aF:w.heap.size <= jb:=by omega
 have bu:(w.alloc (.cells #[.pointer (some ⟨K.d,0,none⟩),.int .u32 0,.slice none 0 0,.int .i64 0,.bool false] 141)).heap.size=w.heap.size+1:=by simp
 rw[<- az];have a4:=ae az;clear az
 go_loopw [6,22] (λf i wr=>FG w jb K.d M.S f i wr) (λ_ i _=>2-(intOf i).toNat)
 ·exact⟨0,by omega,rfl,rfl,aX,aY⟩
 ·obtain⟨m,Y,rfl,rfl,p,k⟩:=hrel;clear aX aY
  by_cases bs:m<2
  ·have bf:(m:Int)<2:=by omega
   have aL:=p7 wr jb K.d _ _ _ _ K M p (aK k) rfl m (by omega) ad;obtain⟨j,aN⟩:=aH (M.S.getD m []);rw[aN] at aL
   have aQ:fJ M.S (m+1)=if gz j m&&(!(fJ M.S m).1 || decide ((fJ M.S m).2<bV j 4)) then(true,bV j 4) else fJ M.S m:=by
    simp only[fJ,rp,aN]
   have X:=pp M.S m;obtain⟨st,ak⟩:=aH (fJ M.S m);rw[ak] at aQ p X⊢;have⟨aa,ab⟩:=ae2 aL aQ;have h4:=l8 j 4;clear aL aQ ak aN;obtain⟨fd,H⟩:=st;dsimp only at X;cases P:iM j with
   |false=>
    have E:fJ M.S (m+1)=(fd,H):=by rw[ab.x,if_neg (by simp[gz,P])]
    go_wp2_with fail;refine aa.x.mono ?_;rintro e B ⟨x,rfl,ay,r,c⟩;go_wp2_with fail;refine(fH B x j r 4 (by omega)).mono ?_;rintro e F ⟨rfl,rfl⟩;go_wp2_with fail;refine(gO B (Z (k.trans (c.mono k.size))) x j r).mono ?_;rintro e o ⟨rfl,q,A⟩;have z:Kpt wr o:=by rw[<- A];exact⟨c.os,c.tape,c.output,c.size,c.block⟩
    have u:dR o x j:=by rw[<- A];exact r
    have D:Kpt w o:=k.trans (z.mono k.size);have y:d9 o jb K.d H (.slice none 0 0) 0 false:=Blk.keep p (z.block jb (Blk.lt p));have ar:=lG (aO.take (a:=some ⟨x,0,none⟩) (cap:=64) (l:=j) (by have:=u.bytes;rw[u.2];exact this) 4 (by rw[u.2];omega));clear A c r z;rw[P];have⟨C,V,T⟩:=ae3 E y D;have G:=y.cell 1;simp at G;clear E y D u k p;go_wp2
    go_roundw
    ·exact⟨m+1,by omega,by go_num,by rw[C.x],by rw[C.x];exact V.x,T.x⟩
    ·simp[intOf];omega
   |true=>
    by_cases a0:j.take 4 = [72,78,75,74]
    ·by_cases bt:(bV j 4:Int)%2=(m:Int)
     ·have aG:bV j 4%2=m:=by omega
      have ax:gz j m=true:=by simp[gz,P,a0,aG,dF]
      cases fd with
      |false=>
       have E:fJ M.S (m+1)=(true,bV j 4):=by rw[ab.x,if_pos (by simp[ax])]
       clear ax aG;go_wp2_with fail;refine aa.x.mono ?_;rintro e B ⟨x,rfl,ay,r,c⟩;go_wp2_with fail;refine(fH B x j r 4 (by omega)).mono ?_;rintro e F ⟨rfl,rfl⟩;go_wp2_with fail;refine(gO B (Z (k.trans (c.mono k.size))) x j r).mono ?_;rintro e o ⟨rfl,q,A⟩;have z:Kpt wr o:=by rw[<- A];exact⟨c.os,c.tape,c.output,c.size,c.block⟩
       have u:dR o x j:=by rw[<- A];exact r
       have D:Kpt w o:=k.trans (z.mono k.size);have y:d9 o jb K.d H (.slice none 0 0) 0 false:=Blk.keep p (z.block jb (Blk.lt p));have ar:=lG (aO.take (a:=some ⟨x,0,none⟩) (cap:=64) (l:=j) (by have:=u.bytes;rw[u.2];exact this) 4 (by rw[u.2];omega));clear A c r z;rw[P];have C:=ae E;have G:=y.cell 1;have f1:=y.free 1;simp at G
       have Q:d9 (o.setCell ⟨jb,1,none⟩ (.int .u32 (bV j 4:Int))) jb K.d (bV j 4) (.slice none 0 0) 0 false:=by
        have:=y.set 1 (.int .u32 (bV j 4:Int));simpa[d9] using this
       have ao:Kpt w (o.setCell ⟨jb,1,none⟩ (.int .u32 (bV j 4:Int))):=D.setCell aF _;have⟨an,al⟩:=ae2 Q ao;clear E y D u k p Q ao;go_wp2
       go_roundw
       ·exact⟨m+1,by omega,by go_num,by rw[C.x],by rw[C.x];exact an.x,al.x⟩
       ·simp[intOf];omega
      |true=>
       by_cases bp:(H:Int)<(bV j 4:Int)
       ·have E:fJ M.S (m+1)=(true,bV j 4):=by rw[ab.x,if_pos (by simp[ax];omega)]
        clear ax aG;go_wp2_with fail;refine aa.x.mono ?_;rintro e B ⟨x,rfl,ay,r,c⟩;go_wp2_with fail;refine(fH B x j r 4 (by omega)).mono ?_;rintro e F ⟨rfl,rfl⟩;go_wp2_with fail;refine(gO B (Z (k.trans (c.mono k.size))) x j r).mono ?_;rintro e o ⟨rfl,q,A⟩;have z:Kpt wr o:=by rw[<- A];exact⟨c.os,c.tape,c.output,c.size,c.block⟩
        have u:dR o x j:=by rw[<- A];exact r
        have D:Kpt w o:=k.trans (z.mono k.size);have y:d9 o jb K.d H (.slice none 0 0) 0 false:=Blk.keep p (z.block jb (Blk.lt p));have ar:=lG (aO.take (a:=some ⟨x,0,none⟩) (cap:=64) (l:=j) (by have:=u.bytes;rw[u.2];exact this) 4 (by rw[u.2];omega));clear A c r z;rw[P];have C:=ae E;have G:=y.cell 1;have f1:=y.free 1;simp at G
        have Q:d9 (o.setCell ⟨jb,1,none⟩ (.int .u32 (bV j 4:Int))) jb K.d (bV j 4) (.slice none 0 0) 0 false:=by
         have:=y.set 1 (.int .u32 (bV j 4:Int));simpa[d9] using this
        have ao:Kpt w (o.setCell ⟨jb,1,none⟩ (.int .u32 (bV j 4:Int))):=D.setCell aF _;have⟨an,al⟩:=ae2 Q ao;clear E y D u k p Q ao;go_wp2
        go_roundw
        ·exact⟨m+1,by omega,by go_num,by rw[C.x],by rw[C.x];exact an.x,al.x⟩
        ·simp[intOf];omega
       ·have E:fJ M.S (m+1)=(true,H):=by rw[ab.x,if_neg (by simp;omega)]
        clear ax aG;go_wp2_with fail;refine aa.x.mono ?_;rintro e B ⟨x,rfl,ay,r,c⟩;go_wp2_with fail;refine(fH B x j r 4 (by omega)).mono ?_;rintro e F ⟨rfl,rfl⟩;go_wp2_with fail;refine(gO B (Z (k.trans (c.mono k.size))) x j r).mono ?_;rintro e o ⟨rfl,q,A⟩;have z:Kpt wr o:=by rw[<- A];exact⟨c.os,c.tape,c.output,c.size,c.block⟩
        have u:dR o x j:=by rw[<- A];exact r
        have D:Kpt w o:=k.trans (z.mono k.size);have y:d9 o jb K.d H (.slice none 0 0) 0 false:=Blk.keep p (z.block jb (Blk.lt p));have ar:=lG (aO.take (a:=some ⟨x,0,none⟩) (cap:=64) (l:=j) (by have:=u.bytes;rw[u.2];exact this) 4 (by rw[u.2];omega));clear A c r z;rw[P];have⟨C,V,T⟩:=ae3 E y D;have G:=y.cell 1;simp at G;clear E y D u k p;go_wp2
        go_roundw
        ·exact⟨m+1,by omega,by go_num,by rw[C.x],by rw[C.x];exact V.x,T.x⟩
        ·simp[intOf];omega
     ·have E:fJ M.S (m+1)=(fd,H):=by rw[ab.x,if_neg (by simp[gz];omega)]
      go_wp2_with fail;refine aa.x.mono ?_;rintro e B ⟨x,rfl,ay,r,c⟩;go_wp2_with fail;refine(fH B x j r 4 (by omega)).mono ?_;rintro e F ⟨rfl,rfl⟩;go_wp2_with fail;refine(gO B (Z (k.trans (c.mono k.size))) x j r).mono ?_;rintro e o ⟨rfl,q,A⟩;have z:Kpt wr o:=by rw[<- A];exact⟨c.os,c.tape,c.output,c.size,c.block⟩
      have u:dR o x j:=by rw[<- A];exact r
      have D:Kpt w o:=k.trans (z.mono k.size);have y:d9 o jb K.d H (.slice none 0 0) 0 false:=Blk.keep p (z.block jb (Blk.lt p));have ar:=lG (aO.take (a:=some ⟨x,0,none⟩) (cap:=64) (l:=j) (by have:=u.bytes;rw[u.2];exact this) 4 (by rw[u.2];omega));clear A c r z;rw[P];have⟨C,V,T⟩:=ae3 E y D;have G:=y.cell 1;simp at G;clear E y D u k p;go_wp2
      go_roundw
      ·exact⟨m+1,by omega,by go_num,by rw[C.x],by rw[C.x];exact V.x,T.x⟩
      ·simp[intOf];omega
    ·have E:fJ M.S (m+1)=(fd,H):=by rw[ab.x,if_neg (by simp[gz,dF,a0])]
     go_wp2_with fail;refine aa.x.mono ?_;rintro e B ⟨x,rfl,ay,r,c⟩;go_wp2_with fail;refine(fH B x j r 4 (by omega)).mono ?_;rintro e F ⟨rfl,rfl⟩;go_wp2_with fail;refine(gO B (Z (k.trans (c.mono k.size))) x j r).mono ?_;rintro e o ⟨rfl,q,A⟩;have z:Kpt wr o:=by rw[<- A];exact⟨c.os,c.tape,c.output,c.size,c.block⟩
     have u:dR o x j:=by rw[<- A];exact r
     have D:Kpt w o:=k.trans (z.mono k.size);have y:d9 o jb K.d H (.slice none 0 0) 0 false:=Blk.keep p (z.block jb (Blk.lt p));have ar:=lG (aO.take (a:=some ⟨x,0,none⟩) (cap:=64) (l:=j) (by have:=u.bytes;rw[u.2];exact this) 4 (by rw[u.2];omega));clear A c r z;rw[P];have⟨C,V,T⟩:=ae3 E y D;have G:=y.cell 1;simp at G;clear E y D u k p;go_wp2
     go_roundw
     ·exact⟨m+1,by omega,by go_num,by rw[C.x],by rw[C.x];exact V.x,T.x⟩
     ·simp[intOf];omega
  ·have bf:¬(m:Int)<2:=by omega
   obtain rfl:m=2:=by omega
   have ag:=A4 M.S;have X:=pp M.S 2;obtain⟨st,ak⟩:=aH (fJ M.S 2);rw[ak] at p ag X⊢;obtain⟨fd,g⟩:=st;dsimp only at p ag X⊢;cases fd with
   |false=>
    have I:=Hr.x;rw[ag] at I;have aJ:=ae I;clear I ag ak;go_wp2;go_ret2;rw[aJ.x];exact⟨rfl,k⟩
   |true=>
    have I:=Hr.x;rw[ag] at I;have aJ:=ae I;clear I ag ak;have hS:∀s∈M.S,s.length=64:=by obtain⟨L,-,hL⟩:=W.secs;exact hL.2.2
    go_wp2
    go_loopw [10] (λv wr=>FH w jb K.d g M.S v wr) (λ_ wr=>bw M.S.length+1-pt jb wr)
    ·exact⟨none,0,none_,[],rfl,by simpa[bj] using p,bU.nil _ 0,λb n=>by rcases n with n|n;exact absurd n (by simp[Value.ownBlock]);exact n.elim,by simp[bj],by simp,by simp[bj],k⟩
    ·clear p k;obtain⟨ra,rc,R,L,-,p,I,J,bl,aZ,aM,k⟩:=hrel;have bo:=eU L;have hH:bw M.S.length <= 32768:=by unfold bw;omega
     have aR:=k.size;have a1:=DA _ jb K.d g (bj L) L.length ra rc false K M p (aK k) rfl (Z k) ad (by omega) X (by omega) (by omega) (by omega);have a6:=ae a1;clear a1;go_wp2_with fail;refine a6.x.mono ?_;rintro e B ⟨Y,c⟩;cases ai:dP M.S g L.length (bj L) with
     |none=>
      rw[ai] at Y;dsimp only at Y;subst Y;have aU:dQ M.S g (bw M.S.length+1) 0 0=L:=by rw[aM,nC ai,List.append_nil]
      have a5:=ae aU;clear aU aM ai;go_wp2;go_ret2;rw[aJ.x];simp only[if_true];rw[a5.x];refine⟨⟨⟨jb,K,λb=>(Value.slice ra L.length rc).ownBlock=some b \/ R b⟩,rfl,rfl,⟨aK (k.trans (c.mono aR)),⟨ra,rc,R,Blk.keep p (c.block jb (Blk.lt p)),I.kept c,λb n=>n⟩,⟨λh=>by have O:=W.lt _ h;have:=a4.x;dsimp only at O;omega,λb n=>⟨(J b n).2.1,λh=>by have O:=W.lt _ h;have:=(J b n).1;omega,by have:=(J b n).2.2;have:=c.size;omega⟩⟩,by show 8 <= M.S.length;omega,bl,X,aZ⟩,?_⟩,k.trans (c.mono aR)⟩;rintro b (n|n|n)
      ·exact .inr (by rw[n];exact aF)
      ·exact .inl n
      ·exact .inr (J b n).1
     |some N=>
      rw[ai] at Y;dsimp only at Y;obtain⟨v,rfl,ba,aV⟩:=Y;obtain⟨bd,-⟩:=pq hS ai
      have bk:dQ M.S g (bw M.S.length+1) 0 0=(L++[N])++dQ M.S g (bw M.S.length+1-(L++[N]).length) (L++[N]).length (bj (L++[N])):=by
       rw[aM,show bw M.S.length+1-L.length=(bw M.S.length-L.length)+1 by omega,nD ai,eW];simp
      have be:d9 B jb K.d g (.slice ra L.length rc) (bj L) false:=Blk.keep p (c.block jb (Blk.lt p));have aW:=k.trans (c.mono aR);have a9:=vK B jb K.d g (bj L) _ false R L be (I.kept c) (λb n=>⟨(J b n).2.1,by have:=(J b n).2.2;have:=c.size;omega⟩) _ v N ba aV (by omega) (by omega);have a2:=p.cell 3;have bq:=Blk.lt p;have bx:=c.size;simp at a2;have a7:=a2;have bv:=ei N.length;go_wp2_with fail;refine a9.mono ?_;rintro e w4 ⟨rfl,bm,bn,R',Q,bi,bg,bh⟩
      have bc:Kpt w w4:=aW.trans (bg.below (λb n=>by
       rcases n with n|n
       ·rw[n];exact aF
       ·exact(J b (.inl n)).1) aW.size)
      have a3:=Q.cell 3;simp at a3;have⟨an,al⟩:=ae2 Q bc;have a8:=a3;go_wp2
      go_roundw
      ·refine⟨bm,bn,R',L++[N],rfl,by rw[eW];simpa using an.x,by simpa using bi,λb n=>?_,by rw[eW];exact bd,λb n=>?_,bk,al.x⟩
       ·obtain⟨O,h2⟩:=bh b (by simpa using n);rcases O with O|O
        ·exact⟨(J b O).1,(J b O).2.1,h2⟩
        ·exact⟨by omega,by omega,h2⟩
       ·rcases List.mem_append.1 n with n|n
        ·exact aZ b n
        ·obtain rfl:=List.mem_singleton.1 n;exact aV
      ·have e4:pt jb w4=bj L+takes N.length:=by unfold pt;rw[a8];simp[intOf];omega
       have e0:pt jb wr=bj L:=by unfold pt;rw[a7];simp[intOf]
       rw[e4,e0];omega
end
theorem JAt.onDisk{a:JK}{M g:MD}{J:MJ}(h:JAt W a M J){f:DK}(y:bM w' f g)(v:f.d=a.K.d)(m:∀b,f.foot b -> a.K.foot b \/ W.heap.size <= b)(i:aM a.K.foot W w')(o:g.S.length=M.S.length):
 JAt w' ⟨a.j,f,a.O⟩ g J:=by
 have n:=h.lt;obtain⟨B,⟨z,A,R,p,q,l⟩,e,r,s,t,u⟩:=h;have x:∀b,a.O b -> w'.heap[b]?=W.heap[b]?:=λb c=>i.block b (e.2 b c).2.2 (e.2 b c).2.1
 refine⟨y,⟨z,A,R,?_,q.keep λb c _=>x b (l b c),l⟩,⟨λk=>?_,λb c=>⟨(e.2 b c).1,λk=>?_,aw (e.2 b c).2.2 i.size⟩⟩,by rw[o];exact r,by rw[o];exact s,t,u⟩
 ·rw[show(⟨a.j,f,a.O⟩:JK).K.d=a.K.d from v];exact Blk.keep p (i.block _ (n _ (.inl rfl)) e.1)
 ·have:=n a.j (.inl rfl);rcases m _ k with h|h
  ·exact e.1 h
  ·exact absurd h (by show ¬W.heap.size <= a.j;omega)
 ·have:=(e.2 b c).2.2;rcases m _ k with h|h
  ·exact(e.2 b c).2.1 h
  ·omega
theorem BZ(c:JK)(M:MD)(J:MJ)(a:JAt w c M J):
 Calls aE 49 #[.pointer (some ⟨c.j,0,none⟩)] w λe f=>∃r h,e=.returned r /\ bU h f w.heap.size r J.L /\ (∀b,h b -> w.heap.size <= b /\ b<f.heap.size) /\ Kpt w f:=by
 have l:bj J.L <= bw M.S.length:=a.room;have m:M.S.length <= 65536:=a.disk.le;have:=eU J.L;obtain⟨o,p,R,i,k,n⟩:=a.recs;exact yh w c.j c.K.d J.g (bj J.L) _ J.dead i R J.L k (by unfold bw at l;omega) a.lens
theorem FI(a:JK)(M:MD)(J:MJ)(b:JAt w a M J):
 Calls aE 60 #[.pointer (some ⟨a.j,0,none⟩)] w λe f=>e=.returned (.bool J.dead) /\ w=f:=by
 obtain⟨k,l,R,c,i,h⟩:=b.recs;exact Dr w a.j a.K.d J.g (bj J.L) _ J.dead c
section
attribute [local go_sem] opC upC
theorem uK(a b:List UInt8):fY [a,b]=a++b:=by unfold fY;simp
theorem pv:fY [b]=b:=by unfold fY;simp
theorem dr{a c d e f:Value}(h:Blk W i [a,c,d,e,f] t):W.cell? ⟨i,0,none⟩=some a /\ W.cell? ⟨i,1,none⟩=some c /\ W.cell? ⟨i,2,none⟩=some d /\ W.cell? ⟨i,3,none⟩=some e /\ W.cell? ⟨i,4,none⟩=some f:=
 ⟨h.cell 0,h.cell 1,h.cell 2,h.cell 3,h.cell 4⟩
theorem p8(P:eB w)(h3:4 <= w.heap.size)(jk:JK)(u:Nat)(M:MD)(U:MU)(h:UAt w jk u M U)(t:U.dev<8)(j:aV U.m=true):
 Calls aE 45 #[.pointer (some ⟨u,0,none⟩)] w λe A=>(∃r,e=.returned r /\ A.ownsRow w.heap.size 5 1 r (dB U.dev U.m).length ((dB U.dev U.m).map B)) /\ Kpt w A:=by
 obtain⟨a1,p1,a2,p2,a3,p3,a,T⟩:=h.box;have v:=cO j;have x:=(cX j).2.2.2;have q:=j8 w P h3 _ (.agg #[.slice a1 U.m.seen.length p1,.slice a2 U.m.items.length p2,.slice a3 U.m.gone.length p3]) U.m ⟨_,_,_,rfl,T⟩ v.1 v.2;rw[show encR U.m=(cQ U.m,0) by unfold encR;rw[j];rfl] at q;have E:=ae q;obtain⟨K,c1,c2,c3,c4⟩:=dr a;have G:=ae a;obtain⟨d,g⟩:=aH U.dev;obtain⟨m,y⟩:=aH U.m;rw[g] at t;rw[y] at x;have⟨ab,Hd,H,I⟩:=ae4 x t g y;have hw:IntKind.u64.wrap (d:Int)=(d:Int):=IntWalk.u64_in _ (by omega);rw[g] at K;clear q v x j P T a g y t
 go_enter func45,ntmps45
 go_wp2_with fail;refine E.x.mono ?_;rintro e Y ⟨⟨v1,rfl,O⟩,s⟩;have S:=G.x.keep (s.block _ G.x.lt);have L:=(dr S).1;rw[H.x] at L;have⟨F,Z,n⟩:=ae3 (j4 Y none_ (.slice none 0 0) [] (qC none_ Y none) d (by have:=Hd.x;omega) (by simp)) O s;clear E O s S K c1 c2 c3 c4;go_wp2_with fail;refine F.x.mono ?_;rintro e l ⟨⟨r2,rfl,i⟩,f⟩;rw[List.nil_append] at i;have N:aO (λb=>True) l r2 (bY d):=aO.of_owns i _ λ_ _ _=>trivial
 have c:=(Z.x.keep (w':=l) λb _ an=>f.block b an).insideU;rw[I.x] at c;obtain⟨ai,al,rfl⟩:=aJ i;obtain⟨ag,ak,rfl,-⟩:=id c;have z:=sE N.insideU c (λb a=>a);obtain⟨C,k⟩:=aP (l.alloc (.cells #[.slice ai (bY d).length al,.slice ag (cQ m).length ak] 41));have Q:Kpt w C:=by rw[k];exact(n.x.trans (f.mono n.x.size)).alloc (au n.x.size f.size) _
 rw[<- k] at z;have ao:=cq d;have p:=oh C _ 0 _ _ z (by rw[uK,aA];have:=ab.x;omega) (by simp);rw[uK] at p;have⟨D,o,J⟩:=ae3 (show Calls aE 81 #[.int .u8 0,.slice (some ⟨l.heap.size,0,none⟩) 2 2] C _ from p) Q k;obtain⟨n1,V⟩:=aH ((bY d).length);obtain⟨n2,W⟩:=aH ((cQ m).length);rw[V,W] at J⊢;clear F p z k Q N c i f ao V W L;go_wp2_with fail;rw[<- J.x];refine D.x.mono ?_;rintro e w4 ⟨⟨r4,rfl,X⟩,R⟩;have⟨ad,aa⟩:=ae2 (show w4.ownsRow w.heap.size 5 1 r4 (dB U.dev U.m).length ((dB U.dev U.m).map B) by rw[H.x,I.x];exact bJ X o.x.size) (o.x.trans (R.mono o.x.size));clear D X R;go_wp2
 go_ret
 exact⟨⟨_,rfl,ad.x⟩,aa.x⟩
theorem mS(c:JK)(u:Nat)(M:MD)(U:MU)(h:UAt w c u M U):
 Calls aE 22 #[.pointer (some ⟨u,0,none⟩)] w λe g=>e=.returned (.bool U.J.dead) /\ w=g:=by
 obtain⟨i,r,j,s,k,t,d,q⟩:=h.box;have a:=FI w c M U.J h.jat;obtain⟨l,m,n,o,p⟩:=dr d;obtain⟨b,f⟩:=aH U.J.dead;rw[f] at a⊢
 go_enter func22,ntmps22
 go_wp2_with fail;refine a.mono ?_;rintro e v ⟨rfl,rfl⟩;go_wp2
 go_ret
 exact⟨rfl,rfl⟩
end
section
attribute [local go_sem] opC upC told bE bm bF bp bq bG bH
theorem DD(w:World)(jk:JK)(u:Nat)(M:MD)(U:MU)(h:UAt w jk u M U):
 Calls aE 137 #[.pointer (some ⟨jk.j,0,none⟩)] w λe b=>e=.returned (.int .i64 (kW M U.J)) /\ ∃m,w.drewN m=b:=by
 obtain⟨f,i,R,a,-,-⟩:=h.jat.recs;have c:=h.jat.size8;exact Dq w jk.j jk.K.d U.J.g (bj U.J.L) _ U.J.dead jk.K M a h.jat.disk rfl (by omega) h.jat.room
theorem yp(J:MJ):-1 <= kW M J /\ kW M J <= 65536:=by unfold kW;split<;>omega
theorem Ae(J:MJ)(l:List UInt8):(cw M J l).1.S.length=M.S.length /\ (cw M J l).1.writes <= M.writes+65536:=by
 unfold cw;split
 ·exact⟨rfl,Nat.le_add_right _ _⟩
 ·split
  ·exact⟨rfl,Nat.le_add_right _ _⟩
  ·split
   ·exact⟨rfl,Nat.le_add_right _ _⟩
   ·rename_i b c d;have a:=ec (aX M.S.length J.g J.L.length (bj J.L) l) M;have e:(aX M.S.length J.g J.L.length (bj J.L) l).length=takes l.length:=by unfold aX;simp
    have f:takes l.length <= 65536:=by unfold takes;omega
    dsimp only;split
    ·exact⟨a.1,au a.2 (by omega)⟩
    ·exact⟨a.1,au a.2 (by omega)⟩
theorem mn(J:MJ)(l:List UInt8):(dx M J l).1.S.length=M.S.length /\ (dx M J l).1.writes <= M.writes+65536:=by
 unfold dx;split
 ·exact⟨rfl,Nat.le_add_right _ _⟩
 ·split
  ·exact⟨rfl,Nat.le_add_right _ _⟩
  ·split
   ·exact⟨rfl,Nat.le_add_right _ _⟩
   ·rename_i b c d;have a:=ec (aX M.S.length (J.g+1) 0 0 l++[((J.g+1)%2,dw (J.g+1))]) M;have e:(aX M.S.length (J.g+1) 0 0 l++[((J.g+1)%2,dw (J.g+1))]).length=takes l.length+1:=by unfold aX;simp
    have f:takes l.length <= 1366:=by unfold takes;omega
    dsimp only;split
    ·exact⟨a.1,au a.2 (by omega)⟩
    ·exact⟨a.1,au a.2 (by omega)⟩
def dZ(w:World)(jk:JK)(u:Nat)(r:MD×MU×Int)(e:Ending)(a:World):Prop:=
 e=.returned (.int .i64 r.2.2) /\ ∃jk',jk'.j=jk.j /\ jk'.K.d=jk.K.d /\ UAt a jk' u r.1 r.2.1 /\ (∀q,jk'.all q -> jk.all q \/ w.heap.size <= q) /\ aM (λq=>jk.all q \/ q=u) w a
theorem UAt.setM{w w':World}{jk:JK}{u:Nat}{U:MU}(h:UAt w jk u N U){x:aT}{a1 a2 a3:Option Addr}{p1 p2 p3:Nat}(l:ce (NJ w) w (.slice a1 x.seen.length p1) (.slice a2 x.items.length p2) (.slice a3 x.gone.length p3) x)
 (f:w'=((w.setCell ⟨u,1,none⟩ (.slice a1 x.seen.length p1)).setCell ⟨u,2,none⟩ (.slice a2 x.items.length p2)).setCell ⟨u,3,none⟩ (.slice a3 x.gone.length p3)):UAt w' jk u N ⟨U.dev,x,U.J⟩ /\ aM (λq=>q=u) w w':=by
 obtain⟨m,r,n,s,o,v,g,z⟩:=h.box
 have d:∀q,q≠u -> w'.heap[q]?=w.heap[q]?:=λq a=>by
  rw[f];exact(Below.heap_setCell _ _ _ _ a).trans ((Below.heap_setCell _ _ _ _ a).trans (Below.heap_setCell _ _ _ _ a))
 have A:w'.heap.size=w.heap.size:=by rw[f];simp[World.setCell]
 have j:∀q,NJ w q -> q≠u:=λq ⟨L,t,y,hh,_,k⟩ e=>by
  subst e;unfold Blk at g;rw[g] at hh;injection hh with hh
  injection hh with _ hh
  exact k.1 hh.symm
 have i:∀b,jk.all b -> b≠u:=λb c e=>h.apart (e▸c)
 refine⟨⟨⟨a1,p1,a2,p2,a3,p3,?_,(l.keep (w':=w') λq a _=>d q (j q a)).mono λq a _=>gK a (d q (j q a))⟩,h.jat.keep (λb c=>d b (i b c)) (by omega),h.typ.keep λb c=>d b (i b c),h.low⟩,?_⟩
 ·rw[f];exact(((g.set 1 _).set 2 _).set 3 _)
 ·rw[f];exact(((aM.refl (λq=>q=u) w).setCell (p:=⟨u,1,none⟩) (.inl rfl) _).setCell (p:=⟨u,2,none⟩) (.inl rfl) _).setCell (p:=⟨u,3,none⟩) (.inl rfl) _
structure WS(w W:World)(jk JJ:JK)(u:Nat)(MM:MD)(UU:MU)(F:aQ)(bv:Value)(b:List UInt8)(a1 a2 a3:Option Addr)(p1 p2 p3:Nat)(x:aT)(O:Nat):Prop where
 U:UAt W JJ u MM UU
 B:aO F W bv b
 F:∀q,F q -> q<W.heap.size /\ ¬JJ.all q
 Q:cU W
 T:eB W
 bO:Blk W O [.slice a1 x.seen.length p1,.slice a2 x.items.length p2,.slice a3 x.gone.length p3] 37
 X:ce (NJ W) W (.slice a1 x.seen.length p1) (.slice a2 x.items.length p2) (.slice a3 x.gone.length p3) x
 j:JJ.j=jk.j
 kd:JJ.K.d=jk.K.d
 sz:3<W.heap.size
 on:aM (λq=>jk.all q \/ q=u) w W
 al:∀q,JJ.all q -> jk.all q \/ w.heap.size <= q
section
variable {w W W':World} {jk JJ jk':JK} {u:Nat} {MM M':MD} {UU:MU} {J':MJ} {F:aQ} {bv:Value} {b:List UInt8} {a1 a2 a3:Option Addr} {p1 p2 p3:Nat} {x:aT} {O:Nat}
theorem uL(h:NJ W i):i<W.heap.size:=by
 obtain⟨L,t,a,hh,_⟩:=h;exact lt_of_block hh
theorem FJ:¬TJ 37:=by unfold TJ;decide
theorem WS.below(h:WS w W jk JJ u MM UU F bv b a1 a2 a3 p1 p2 p3 x O)(a:Kpt W W'):WS w W' jk JJ u MM UU F bv b a1 a2 a3 p1 p2 p3 x O:=
 ⟨h.U.keep a,h.B.keep λq _ d=>a.block q d,λq c=>⟨aw (h.F q c).1 a.size,(h.F q c).2⟩,h.Q.keep (a.block 0 (by have:=h.sz;omega)),bR h.T h.sz a,h.bO.keep (a.block O h.bO.lt),
  (h.X.keep (w':=W') λq _ d=>a.block q d).mono λq c _=>gK c (a.block q (uL c)),h.j,h.kd,aw h.sz a.size,h.on.trans (aM.of_below (F:=none_) a) (λ_ e=>e.elim),h.al⟩
theorem WS.moved(h:WS w W jk JJ u MM UU F bv b a1 a2 a3 p1 p2 p3 x O)(g:aM JJ.all W W')(t:JAt W' jk' M' J')(v:jk'.j=JJ.j)(y:jk'.K.d=JJ.K.d)(s:∀q,jk'.all q -> JJ.all q \/ W.heap.size <= q)(z:w.heap.size <= W.heap.size):
 ∃k,WS w W' jk k u M' ⟨UU.dev,UU.m,J'⟩ F bv b a1 a2 a3 p1 p2 p3 x O:=by
 obtain⟨k,o,p,g3,r⟩:=h.U.moved g t v s h.sz;have n:∀q,q<4 -> W'.heap[q]?=W.heap[q]?:=λq c=>g.block q (by have:=h.sz;omega) λi=>by have:=h.U.low q i;omega
 refine⟨k,r,h.B.keep λq c l=>g.block q l (h.F q c).2,λq c=>⟨aw (h.F q c).1 g.size,λi=>?_⟩,h.Q.keep (n 0 (by omega)),h.T.keep λa i=>?_,h.bO.keep (g.block O h.bO.lt (BX h.U.typ h.bO FJ)),
  (h.X.keep (w':=W') λq c l=>g.block q l (pn h.U.typ c)).mono λq c _=>gK c (g.block q (uL c) (pn h.U.typ c)),o.trans h.j,by rw[p,y];exact h.kd,aw h.sz g.size,h.on.trans g (λq c=>?_),λq c=>?_⟩
 ·rcases g3 q i with f|f
  ·exact(h.F q c).2 f
  ·have:=(h.F q c).1;omega
 ·have e:=n a.block i;unfold World.cell?;rw[e]
 ·rcases h.al q c with f|f
  ·exact .inl (.inl f)
  ·exact .inr f
 ·rcases g3 q c with f|f
  ·exact h.al q f
  ·right;omega
theorem WS.put(h:WS w W jk JJ u MM UU F bv b a1 a2 a3 p1 p2 p3 x O)(d:W'=((W.setCell ⟨u,1,none⟩ (.slice a1 x.seen.length p1)).setCell ⟨u,2,none⟩ (.slice a2 x.items.length p2)).setCell ⟨u,3,none⟩ (.slice a3 x.gone.length p3)):
 UAt W' JJ u MM ⟨UU.dev,x,UU.J⟩ /\ aM (λq=>jk.all q \/ q=u) w W':=by
 obtain⟨a,c⟩:=h.U.setM h.X d;exact⟨a,h.on.trans c (λq e=>.inl (.inr e))⟩
end
theorem uM(w:World)(hT:eB w)(h3:4 <= w.heap.size)(I:cU w)(jk:JK)(u:Nat)(M:MD)(U:MU)(h:UAt w jk u M U)(hd:U.dev<8)(hv:aV U.m=true)(F:aQ)(bv:Value)(b:List UInt8)(hB:aO F w bv b)(hF:∀q,F q -> q<w.heap.size /\ ¬jk.all q)
 (mv:Value) (x:aT) (hx:di (NJ w) w mv x) (hw:M.writes+200000<4611686018427387904) (bi:b.length <= 1000000000):
 Calls aE 80 #[.pointer (some ⟨u,0,none⟩),bv,mv] w (dZ w jk u (cE M U b x)):=by
 obtain⟨s1,s2,s3,rfl,hx⟩:=hx;obtain⟨a1,p1,rfl,-⟩:=hx.seen.shape;obtain⟨a2,p2,rfl,-⟩:=hx.items.shape;obtain⟨a3,p3,rfl,-⟩:=hx.gone.shape;obtain⟨ab,cb,rfl,-⟩:=id hB;obtain⟨w1,ai⟩:=aP (w.alloc (.cells #[.slice a1 x.seen.length p1,.slice a2 x.items.length p2,.slice a3 x.gone.length p3] 37));have H:Kpt w w1:=by rw[ai];exact aI _ _
 have ax:WS w w1 jk jk u M U F (.slice ab b.length cb) b a1 a2 a3 p1 p2 p3 x w.heap.size:=
  ⟨h.keep H,hB.keep λq _ D=>H.block q D,λq ba=>⟨aw (hF q ba).1 H.size,(hF q ba).2⟩,I.keep (H.block 0 (by omega)),bR hT h3 H,by rw[ai];exact Blk.new _ _ _,
   (hx.keep (w':=w1) λq _ D=>H.block q D).mono λq I _=>gK I (H.block q (uL I)),rfl,rfl,by rw[ai];simp;omega,aM.of_below H,λq I=>.inl I⟩
 have HR:=DD w1 jk u M U ax.U;have aX:=ax;have Hd:=hd;have Hv:=hv;have Hw:=hw;obtain⟨X,e1,Y,e2,Z,e3,c,-⟩:=ax.U.box;obtain⟨-,-,-,-,g⟩:=dr c;obtain⟨n,hn⟩:=aH b.length;have A:=hn;obtain⟨jj,az⟩:=aH jk.j;have o:=az;obtain⟨rm,bb⟩:=aH (kW M U.J);rw[az,bb] at HR;rw[az] at g;have W:=bb;rw[hn] at bi aX⊢;rw[ai] at g
 go_enter func80,ntmps80
 go_wp2_with fail;rw[<- ai];refine HR.mono ?_;rintro e w2 ⟨rfl,dn,bj⟩;have k:=aX.below (W':=w2) (by rw[<- bj];exact Below.drewN' (Below.refl _ _) dn)
 by_cases D:rm<(n:Int)
 ·have bl:rm<(n:Int):=D;have K:=D;obtain⟨w3,aR⟩:=aP w2.drew;have a6:Kpt w2 w3:=by rw[aR];exact(Below.refl w2.heap.size w2).drew
  have V:=k.below a6;obtain⟨X,e1,Y,e2,Z,e3,c,-⟩:=V.U.box;obtain⟨-,-,-,-,g⟩:=dr c;have bm:∀S,aK w3 S -> S.cell? ⟨u,4,none⟩=some (.pointer (some ⟨jk.j,0,none⟩)):=λS hh=>(hh.cell (p:=⟨u,4,none⟩) (eK g)).trans g
  rw[o] at bm;have aY:=p8 w3 V.T V.sz jk u M U V.U Hd Hv;obtain⟨sB,aN⟩:=aH (dB U.dev U.m);rw[aN] at aY;have aZ:=aN;have bg:=ae aR;clear c a6 aR g aN D;go_wp2_with fail;refine dq aK 6 (up 5 [505,506,7]) (by kernel_rfl) ?_;rw[<- bg.x];apply bC;rfl;intro S hC;go_simp;exact aF;refine cD rfl rfl (λKK hK=>?_);go_simp;refine aY.mono ?_;rintro e w4 ⟨⟨r4,rfl,aG⟩,ay⟩;refine⟨_,rfl,ay,hK _ _ ?_⟩;go_simp;have y:=V.below ay;have a9:=V.U.jat.lt;have a0:aO (λq=>w3.heap.size <= q /\ q<w4.heap.size) w4 r4 sB:=aO.of_owns aG _ λq h1 h2=>⟨h1,h2⟩
  have t:=by
   have G:=qz w4 jk M U.J y.U.jat _ _ sB a0 (λq I=>⟨I.2,λha=>by have:=a9 q ha;omega⟩) (λh0=>by have:=y.U.low 0 h0;omega) y.Q (by have:=Hw;omega);rw[o] at G;exact G
  have a:=ae y;obtain⟨a4,g,rfl⟩:=aJ aG;obtain⟨r,z⟩:=aH (dx M U.J sB);have an:=mn M U.J sB;rw[z] at t an;obtain⟨C,s,l⟩:=r;dsimp only at an;have⟨E,bf⟩:=ae2 z an;clear y a9 a0 aG ay z an;apply bC;rfl;intro S hC;go_simp;exact aF;refine cG rfl rfl rfl (λKK hK=>?_);go_simp;refine t.mono ?_;rintro e w5 ⟨rfl,bc,L,N,O,P,R⟩;obtain⟨ak,a5⟩:=a.x.moved R O (L.trans o.symm) N P a.x.on.size;have v:=ae a5;refine⟨_,rfl,hK _ _ ?_⟩;clear hK KK t L N O P R a5;go_simp;apply bC;rfl;intro S hC;go_simp;exact aF;refine cZ ?_
  by_cases i:l=0
  ·subst i
   have ao:=ae (by
    have hR:=DD w5 ak u C ⟨U.dev,U.m,s⟩ v.x.U;rw[v.x.j.trans o] at hR
    exact hR)
   obtain⟨aU,aL⟩:=aH (kW C s);rw[aL] at ao;obtain⟨X,e1,Y,e2,Z,e3,c,-⟩:=v.x.U.box;obtain⟨-,-,-,-,g⟩:=dr c;rw[v.x.j.trans o] at g;have⟨ar,ag⟩:=ae2 aL (show fe M U=(C,⟨U.dev,U.m,s⟩,0) by unfold fe;rw[aZ,E.x]);clear c aL;go_wp2_with fail;refine ao.x.mono ?_;rintro e w6 ⟨rfl,bh,a7⟩;have f:=ae (v.x.below (W':=w6) (by rw[<- a7];exact Below.drewN' (Below.refl _ _) bh));clear ao g a7
   by_cases aa:aU<(n:Int)
   ·have bk:aU<(n:Int):=aa;have d:=ae (show cE M U b x=(C,⟨U.dev,U.m,s⟩,7) by unfold cE;rw[if_pos (by rw[W,A];exact K),ag.x];dsimp only;rw[if_pos rfl,if_pos (by rw[ar.x,A];exact aa)]);clear aa;go_wp2
    go_ret
    exact⟨by rw[d.x];rfl,ak,f.x.j,f.x.kd,by rw[d.x];exact f.x.U,f.x.al,f.x.on⟩
   ·have bk:¬aU<(n:Int):=aa;have⟨be,aW⟩:=ae2 (show C.writes+65536<4611686018427387904 by have:=Hw;have:=bf.x.2;omega) aa;clear aa
    have t:=by
     have G:=oe w6 ak C (⟨U.dev,U.m,s⟩:MU).J f.x.U.jat _ _ b f.x.B f.x.F (λh0=>by have:=f.x.U.low 0 h0;omega) f.x.Q be.x;rw[f.x.j.trans o] at G;exact G
    obtain⟨r,z⟩:=aH (cw C (⟨U.dev,U.m,s⟩:MU).J b);rw[z] at t;obtain⟨M3,J3,l⟩:=r;have E:=ae z;obtain⟨X,e1,Y,e2,Z,e3,c,-⟩:=f.x.U.box;obtain⟨-,-,-,-,g⟩:=dr c;rw[f.x.j.trans o] at g;clear z c;go_wp2_with fail;refine t.mono ?_;rintro e w7 ⟨rfl,bc,L,N,O,P,R⟩;obtain⟨J4,y⟩:=f.x.moved R O (L.trans (f.x.j.trans o).symm) N P f.x.on.size;have a:=ae y;clear t L N O P R y g
    by_cases i:l=0
    ·subst i;obtain⟨z1,z2,z3⟩:=aS a.x.bO;obtain⟨X,e1,Y,e2,Z,e3,c,-⟩:=a.x.U.box;obtain⟨y0,y1,y2,y3,y4⟩:=dr c;have q1:=c.free 1;have q2:=c.free 2;have q3:=c.free 3;obtain⟨w8,ad⟩:=aP (((w7.setCell ⟨u,1,none⟩ (.slice a1 x.seen.length p1)).setCell ⟨u,2,none⟩ (.slice a2 x.items.length p2)).setCell ⟨u,3,none⟩ (.slice a3 x.gone.length p3));have⟨H8,av,d⟩:=ae3 (a.x.put ad) ad (show cE M U b x=(M3,⟨(⟨U.dev,U.m,s⟩:MU).dev,x,J3⟩,0) by unfold cE;rw[if_pos (by rw[W,A];exact K),ag.x];dsimp only;rw[if_pos rfl,if_neg (by rw[ar.x,A];have:=aW.x;omega)];unfold js;rw[E.x];rfl);clear c ad;go_wp2;rw[<- av.x]
     go_ret
     exact⟨by rw[d.x];rfl,J4,a.x.j,a.x.kd,by rw[d.x];exact H8.x.1,a.x.al,H8.x.2⟩
    ·have a8:¬l=0:=i;have d:=ae (show cE M U b x=(M3,⟨(⟨U.dev,U.m,s⟩:MU).dev,(⟨U.dev,U.m,s⟩:MU).m,J3⟩,l) by unfold cE;rw[if_pos (by rw[W,A];exact K),ag.x];dsimp only;rw[if_pos rfl,if_neg (by rw[ar.x,A];have:=aW.x;omega)];unfold js;rw[E.x];exact if_neg i);clear i;go_wp2
     go_ret
     exact⟨by rw[d.x];rfl,J4,a.x.j,a.x.kd,by rw[d.x];exact a.x.U,a.x.al,a.x.on⟩
  ·have a8:¬l=0:=i;have ag:=ae (show fe M U=(C,⟨U.dev,U.m,s⟩,l) by unfold fe;rw[aZ,E.x]);have d:=ae (show cE M U b x=(C,⟨U.dev,U.m,s⟩,l) by unfold cE;rw[if_pos (by rw[W,A];exact K),ag.x];dsimp only;rw[if_neg i]);clear i;go_wp2
   go_ret
   exact⟨by rw[d.x];rfl,ak,v.x.j,v.x.kd,by rw[d.x];exact v.x.U,v.x.al,v.x.on⟩
 ·have bl:¬rm<(n:Int):=D;have bd:M.writes+65536<4611686018427387904:=by have:=Hw;omega
  have K:=D
  have t:=by
   have G:=oe w2 jk M (U).J k.U.jat _ _ b k.B k.F (λh0=>by have:=k.U.low 0 h0;omega) k.Q bd;rw[k.j.trans o] at G;exact G
  obtain⟨r,z⟩:=aH (cw M (U).J b);rw[z] at t;obtain⟨M3,J3,l⟩:=r;have E:=ae z;obtain⟨X,e1,Y,e2,Z,e3,c,-⟩:=k.U.box;obtain⟨-,-,-,-,g⟩:=dr c;rw[k.j.trans o] at g;go_wp2_with fail;refine t.mono ?_;rintro e w7 ⟨rfl,bc,L,N,O,P,R⟩;obtain⟨J4,y⟩:=k.moved R O (L.trans (k.j.trans o).symm) N P k.on.size;have a:=ae y
  by_cases i:l=0
  ·subst i;obtain⟨z1,z2,z3⟩:=aS a.x.bO;obtain⟨X,e1,Y,e2,Z,e3,c,-⟩:=a.x.U.box;obtain⟨y0,y1,y2,y3,y4⟩:=dr c;have q1:=c.free 1;have q2:=c.free 2;have q3:=c.free 3;obtain⟨w8,ad⟩:=aP (((w7.setCell ⟨u,1,none⟩ (.slice a1 x.seen.length p1)).setCell ⟨u,2,none⟩ (.slice a2 x.items.length p2)).setCell ⟨u,3,none⟩ (.slice a3 x.gone.length p3));have⟨H8,av,d⟩:=ae3 (a.x.put ad) ad (show cE M U b x=(M3,⟨(U).dev,x,J3⟩,0) by unfold cE;rw[if_neg (by rw[W,A];have:=K;omega)];unfold js;rw[E.x];rfl);go_wp2;rw[<- av.x]
   go_ret
   exact⟨by rw[d.x];rfl,J4,a.x.j,a.x.kd,by rw[d.x];exact H8.x.1,a.x.al,H8.x.2⟩
  ·have a8:¬l=0:=i;have d:=ae (show cE M U b x=(M3,⟨(U).dev,(U).m,J3⟩,l) by unfold cE;rw[if_neg (by rw[W,A];have:=K;omega)];unfold js;rw[E.x];exact if_neg i);go_wp2
   go_ret
   exact⟨by rw[d.x];rfl,J4,a.x.j,a.x.kd,by rw[d.x];exact a.x.U,a.x.al,a.x.on⟩
end
section
open Go
inductive gG where
 |steady (i:Nat)
 |move (i:Nat)
 |float (i:Nat)
 |fixed (i:Nat)
section
variable {P:Program} {ops:Array Oper} {md:Region.Mode} {C:World -> World -> Prop} {Z:Nat -> Value -> World -> Prop} {Q:Act -> World -> Prop} {w0:World}
def f6(P:Program)(ops:Array Oper)(C:World -> World -> Prop)(Z:Nat -> Value -> World -> Prop)(Q:Act -> World -> Prop):List gG -> List Value -> Act -> World -> Prop
 |[],_,a,w=>Q a w
 |.steady i::r,U,a,w=>match ops[i]? with
  |none=>False
  |some o=>if Region.wanted o (yielded ops a.tmps) then ∃v,(∀b,C w b -> (execOp a.eval o).run P b=.ok (.value v) b) /\ f6 P ops C Z Q r U (a.put o.dst v) w else f6 P ops C Z Q r U (a.put o.dst undef) w
 |.move i::r,U,a,w=>match ops[i]? with
  |none=>False
  |some o=>∀W,C w W -> if Region.wanted o (yielded ops a.tmps) then opC P o a W (λv b=>C W b /\ f6 P ops C Z Q r U (a.put o.dst v) b) else f6 P ops C Z Q r U (a.put o.dst undef) W
 |.float i::r,U,a,w=>match ops[i]? with
  |none=>False
  |some o=>∀v W,C w W -> Z i v W -> v∉U -> f6 P ops C Z Q r (v::U) (a.put o.dst v) W
 |.fixed i::r,U,a,w=>match ops[i]? with
  |none=>False
  |some o=>if Region.wanted o (yielded ops a.tmps) then opC P o a w (λv b=>C w b /\ f6 P ops C Z Q r U (a.put o.dst v) b) else f6 P ops C Z Q r U (a.put o.dst undef) w
def apF(ops:Array Oper)(i j:Nat):Bool:=
 match ops[i]?,ops[j]? with
 |some x,some y=>x.apart ops y
 |_,_=>false
def gA(md:Region.Mode)(ops:Array Oper)(b:List Nat):Nat -> List gG -> List Nat -> Array Bool -> Bool
 |0,_,_,_=>false
 |_+1,[],D,a=>D.isEmpty&&(Region.ready md ops a).isEmpty
 |k+1,.steady i::r,D,a=>Nat.ble D.length r.length&&(Region.ready md ops a).contains i&&Region.free md ops a i&&D.all (λj=>apF ops j i)&&gA md ops b k r D (a.setIfInBounds i true)
 |k+1,.move i::r,D,a=>Nat.ble D.length r.length&&D.all (λj=>apF ops j i)&&(Region.ready md ops a).contains i&&gA md ops b k r D (a.setIfInBounds i true) &&
   (Region.ready md ops a).all (λj=>j == i || (b.contains j&&!D.contains j&&D.all (λx=>apF ops x j)&&gA md ops b k (.move i::r) (j::D) (a.setIfInBounds j true)))
 |k+1,.float i::r,D,a=>b.contains i&&(if D.contains i then gA md ops b k r (D.erase i) a else
   Nat.ble D.length r.length&&(Region.ready md ops a).contains i&&(Region.ready md ops a).all (λj=>b.contains j&&!D.contains j&&D.all (λx=>apF ops x j)&&gA md ops b k (.float i::r) (j::D) (a.setIfInBounds j true)))
 |k+1,.fixed i::r,D,a=>D.isEmpty&&(Region.ready md ops a == [i])&&gA md ops b k r [] (a.setIfInBounds i true)
def oq(ops:Array Oper)(j:Nat):Option Tmp:=(ops[j]?).bind (·.dst)
def jQ(ops:Array Oper)(b:Nat -> Value):List Nat -> Act -> Act
 |[],a=>a
 |j::D,a=>jQ ops b D (a.put (oq ops j) (b j))
theorem DE(h:apF ops i j=true):∃x y,ops[i]?=some x /\ ops[j]?=some y /\ x.apart ops y=true:=by
 unfold apF at h;split at h
 ·rename_i x y a b;exact⟨x,y,a,b,h⟩
 ·cases h
theorem lf{b:Nat -> Value}:∀(D:List Nat)(a:Act)(x:Option Tmp)(v:Value),(∀j∈D,∀d,oq ops j=some d -> x≠some d) -> (jQ ops b D a).put x v=jQ ops b D (a.put x v)
 |[],_,_,_,_=>rfl
 |j::D,a,x,v,h=>by
  rw[jQ,lf D _ x v λk c=>h k (List.mem_cons_of_mem _ c),jQ,Act.put_comm a (b j) v (h j List.mem_cons_self)]
theorem p9{val:Nat -> Value}{o:Oper}(c:∀e b,o.op≠.select e b):∀(D:List Nat)(a:Act),(∀j∈D,∀d,oq ops j=some d -> d∉o.looksAt ops) -> execOp (jQ ops val D a).eval o=execOp a.eval o /\ Region.wanted o (yielded ops (jQ ops val D a).tmps)=Region.wanted o (yielded ops a.tmps)
 |[],_,_=>⟨rfl,rfl⟩
 |j::D,a,h=>by
  obtain⟨f,g⟩:=p9 c D (a.put (oq ops j) (val j)) λk i=>h k (List.mem_cons_of_mem _ i)
  exact⟨f.trans (execOp_put o c a _ _ (h j List.mem_cons_self)),g.trans (wanted_put o a _ _ (h j List.mem_cons_self))⟩
theorem sT{b c:Nat -> Value}:∀(D:List Nat)(a:Act),(∀j∈D,b j=c j) -> jQ ops b D a=jQ ops c D a
 |[],_,_=>rfl
 |j::D,a,h=>by
  rw[jQ,jQ,h j List.mem_cons_self];exact sT D _ λk d=>h k (List.mem_cons_of_mem _ d)
theorem sU{b:Nat -> Value}{i:Nat}:∀(D:List Nat)(a:Act),D.Nodup -> i∈D -> (∀j∈D,j≠i -> ∀d,oq ops j=some d -> oq ops i≠some d) -> jQ ops b D a=jQ ops b (D.erase i) (a.put (oq ops i) (b i))
 |[],_,_,h,_=>by cases h
 |j::D,a,l,h,f=>by
  by_cases c:j=i
  ·subst c;rw[List.erase_cons_head];rfl
  ·have hi:i∈D:=by
    rcases List.mem_cons.1 h with e|e
    ·exact absurd e.symm c
    ·exact e
   rw[jQ,sU D _ (List.nodup_cons.1 l).2 hi (λk g=>f k (List.mem_cons_of_mem _ g)),List.erase_cons_tail (by simpa using c),jQ,Act.put_comm a (b j) (b i) (f j List.mem_cons_self c)]
structure vX(P:Program)(ops:Array Oper)(C:World -> World -> Prop)(Z:Nat -> Value -> World -> Prop)(w0:World)(FL:List Nat):Prop where
 run:∀j,FL.contains j=true -> ∃o,ops[j]?=some o /\ o.guard=none /\ ∀a W,C w0 W -> opC P o a W (λv w'=>C W w' /\ Z j v w' /\ ∀k u,Z k u W -> v≠u)
 keep:∀j v w w',C w w' -> Z j v w -> Z j v w'
 dst:∀i j,FL.contains i=true -> FL.contains j=true -> i≠j -> ∀d,oq ops i=some d -> oq ops j≠some d
theorem vY{o:Oper}(h:ops[i]?=some o):oq ops i=o.dst:=by simp[oq,h]
theorem Af{D:List Nat}{o:Oper}(f:ops[i]?=some o)(h:D.all (λj=>apF ops j i)=true):(∀j∈D,∀d,oq ops j=some d -> o.dst≠some d) /\ (∀j∈D,∀d,oq ops j=some d -> d∉o.looksAt ops):=by
 have hh:∀j∈D,∃x,ops[j]?=some x /\ x.apart ops o=true:=λj c=>by
  obtain⟨x,y,e,g,a⟩:=DE (List.all_eq_true.1 h j c);obtain rfl:=Option.some.inj (f.symm.trans g);exact⟨x,e,a⟩
 refine⟨λj c d b=>?_,λj c d b=>?_⟩
 ·obtain⟨x,e,a⟩:=hh j c;rw[vY e] at b;exact(Oper.apart_spec a).2.1 d b
 ·obtain⟨x,e,a⟩:=hh j c;rw[vY e] at b;exact(Oper.apart_spec a).1 d b
theorem yq{n:List Nat}(B:vX P ops C Z w0 n)(M:∀a b c,C a b -> C b c -> C a c)(hs:Region.noSelect ops=true){K:Nat}{l:List gG}{D:List Nat}{q:Array Bool}{a:Act}{f:Nat -> Value}
 (ih:∀(D:List Nat)(q:Array Bool)(a:Act)(W w':World)(L:List Value)(f:Nat -> Value),gA md ops n K l D q=true -> D.Nodup -> (∀j∈D,n.contains j=true) -> C w0 w' -> C W w' -> (D = [] -> w'=W) -> (∀j∈D,Z j (f j) w') -> (∀v∈L,∃k,Z k v w') -> (∀j∈D,f j∉L) -> (∀i j,i∈D -> j∈D -> i≠j -> f i≠f j) ->
  f6 P ops C Z Q l L a W -> iq P md ops C Q (l.length-D.length) q (jQ ops f D a) w')
 (I:n.contains j=true) (ab:D.contains j=false) (aa:D.all (λx=>apF ops x j)=true) (T:gA md ops n K l (j::D) (q.setIfInBounds j true)=true)
 (hn:D.Nodup) (V:∀j∈D,n.contains j=true) (G:C w0 w') (hc:C W w') (A:∀j∈D,Z j (f j) w') (H:∀v∈L,∃k,Z k v w') (Y:∀j∈D,f j∉L) (X:∀i j,i∈D -> j∈D -> i≠j -> f i≠f j)
 (h:f6 P ops C Z Q l L a W):stC P ops C j (iq P md ops C Q (l.length-(D.length+1)) (q.setIfInBounds j true)) (jQ ops f D a) w':=by
 obtain⟨o,F,hg,hr⟩:=B.run j I;have J:j∉D:=by simpa using ab
 unfold stC;simp only[F,fS hg,if_true];refine eV (λv ai N=>⟨N.1,?_⟩) (hr (jQ ops f D a) w' G);obtain⟨r,hz,E⟩:=N
 let g:Nat -> Value:=λx=>if x=j then v else f x
 have m:∀k∈D,f k=g k:=λk d=>by
  have:k≠j:=λe=>J (e▸d)
  simp[g,this]
 have he:(jQ ops f D a).put o.dst v=jQ ops g (j::D) a:=by
  rw[lf D a o.dst v (Af F aa).1,jQ,vY F,sT D _ m];simp[g]
 rw[he];have ag:l.length-(j::D).length=l.length-(D.length+1):=rfl;rw[<- ag];refine ih (j::D) _ a W ai L g T (List.nodup_cons.2 ⟨J,hn⟩) (λk d=>?_) (M _ _ _ G r) (M _ _ _ hc r) nofun (λk d=>?_) (λu s=>?_) (λk d=>?_) (λx y hx R O=>?_) h
 ·rcases List.mem_cons.1 d with rfl|d
  ·exact I
  ·exact V k d
 ·rcases List.mem_cons.1 d with rfl|d
  ·simpa[g] using hz
  ·rw[<- m k d];exact B.keep _ _ _ _ r (A k d)
 ·obtain⟨k,d⟩:=H u s;exact⟨k,B.keep _ _ _ _ r d⟩
 ·rcases List.mem_cons.1 d with rfl|d
  ·intro s;have e:g k=v:=by simp[g]
   rw[e] at s;obtain⟨k',ad⟩:=H v s;exact E k' v ad rfl
  ·rw[<- m k d];exact Y k d
 ·rcases List.mem_cons.1 hx with S|t
  ·subst S;rcases List.mem_cons.1 R with z|p
   ·exact absurd z.symm O
   ·rw[<- m y p];have e:g x=v:=by simp[g]
    rw[e];exact E y (f y) (A y p)
  ·rcases List.mem_cons.1 R with z|p
   ·subst z;rw[<- m x t];have e:g y=v:=by simp[g]
    rw[e];exact(E x (f x) (A x t)).symm
   ·rw[<- m x t,<- m y p];exact X x y t p O
theorem DF{FL:List Nat}(S:∀w,C w w)(T:∀a b c,C a b -> C b c -> C a c)(hs:Region.noSelect ops=true)(N:vX P ops C Z w0 FL):∀(k:Nat)(X:List gG)(D:List Nat)(p:Array Bool)(a:Act)(w W:World)(U:List Value)(l:Nat -> Value),
 gA md ops FL k X D p=true -> D.Nodup -> (∀j∈D,FL.contains j=true) -> C w0 W -> C w W -> (D = [] -> W=w) -> (∀j∈D,Z j (l j) W) -> (∀v∈U,∃k,Z k v W) -> (∀j∈D,l j∉U) -> (∀i j,i∈D -> j∈D -> i≠j -> l i≠l j) ->
  f6 P ops C Z Q X U a w -> iq P md ops C Q (X.length-D.length) p (jQ ops l D a) W:=by
 intro k
 induction k with
 |zero=>intro X D p a w W U l d;simp[gA] at d
 |succ k J=>
  intro X D p a w W U l d B F E M hw A I H G h
  match X,d,h with
  |[],d,h=>
   simp only[gA,Bool.and_eq_true] at d;obtain⟨t,s⟩:=d;obtain rfl:D = []:=by simpa using t
   rw[hw rfl];exact⟨by simpa using s,h⟩
  |.steady i::r,d,h=>
   simp only[gA,Bool.and_eq_true] at d;obtain⟨⟨⟨⟨t,s⟩,h3⟩,h4⟩,L⟩:=d;have av:D.length <= r.length:=Nat.le_of_ble_eq_true t;have O:(gG.steady i::r).length-D.length=(r.length-D.length)+1:=by simp;omega
   rw[O];cases f:ops[i]? with
   |none=>simp only[f6,f] at h
   |some o=>
    simp only[f6,f] at h;have ad:=Region.noSelect_spec hs;obtain⟨Y,al⟩:=Af f h4;obtain⟨an,aa⟩:=p9 (val:=l) (λcs b=>ad i o cs b f) D a al
    by_cases n:Region.wanted o (yielded ops a.tmps)=true
    ·simp only[n,if_true] at h;obtain⟨v,m,hK⟩:=h;refine gj S T f ad _ p _ W (Region.free_spec f h3) (by simpa using s) (v:=v) (.inl ⟨aa.trans n,λq ay=>by rw[an];exact m q (T _ _ _ M ay)⟩) ?_;rw[lf D a o.dst v Y];exact J r D _ _ w W U l L B F E M hw A I H G hK
    ·simp only[n] at h;refine gj S T f ad _ p _ W (Region.free_spec f h3) (by simpa using s) (v:=undef) (.inr ⟨by rw[aa];simpa using n,rfl⟩) ?_;rw[lf D a o.dst undef Y];exact J r D _ _ w W U l L B F E M hw A I H G h
  |.move i::r,d,h=>
   have az:=d;simp only[gA,Bool.and_eq_true] at d;obtain⟨⟨⟨⟨t,h4⟩,s⟩,L⟩,h6⟩:=d;have av:D.length <= r.length:=Nat.le_of_ble_eq_true t;have O:(gG.move i::r).length-D.length=(r.length-D.length)+1:=by simp;omega
   rw[O];have ab:i∈Region.ready md ops p:=by simpa using s
   refine⟨λV=>(by rw[V] at ab;cases ab),λj g=>?_⟩
   by_cases ag:j=i
   ·subst ag;cases f:ops[j]? with
    |none=>simp only[f6,f] at h
    |some o=>
     simp only[f6,f] at h;have ad:=Region.noSelect_spec hs;obtain⟨Y,al⟩:=Af f h4;obtain⟨an,aa⟩:=p9 (val:=l) (λcs b=>ad j o cs b f) D a al;have hh:=h W M;unfold stC;simp only[f]
     by_cases n:Region.wanted o (yielded ops a.tmps)=true
     ·rw[if_pos (aa.trans n)];simp only[n,if_true] at hh;unfold opC at hh⊢;rw[an];refine eV (λv q m=>⟨m.1,?_⟩) hh;rw[lf D a o.dst v Y];exact J r D _ _ q q U l L B F (T _ _ _ E m.1) (S _) (λ_=>rfl) (λk hk=>N.keep _ _ _ _ m.1 (A k hk)) (λu hu=>by obtain⟨k,hk⟩:=I u hu;exact⟨k,N.keep _ _ _ _ m.1 hk⟩) H G m.2
     ·rw[if_neg (by rw[aa];exact n)];simp only[n] at hh;rw[lf D a o.dst undef Y];exact J r D _ _ W W U l L B F E (S _) (λ_=>rfl) A I H G hh
   ·have z:=List.all_eq_true.1 h6 j g;simp only[Bool.or_eq_true,Bool.and_eq_true,beq_iff_eq,ag,false_or,Bool.not_eq_true'] at z;obtain⟨⟨⟨z,h8⟩,h9⟩,ai⟩:=z;have:=yq (K:=k) N T hs (J (.move i::r)) z h8 h9 ai B F E M A I H G h;have e:(gG.move i::r).length-(D.length+1)=r.length-D.length:=by simp
    rw[e] at this;exact this
  |.float i::r,d,h=>
   simp only[gA,Bool.and_eq_true] at d;obtain⟨ao,d⟩:=d;cases ak:D.contains i with
   |true=>
    rw[ak] at d;simp only[if_true] at d;have hi:i∈D:=by simpa using ak
    obtain⟨o,f,-,-⟩:=N.run i ao;simp only[f6,f] at h;have hh:=h (l i) W M (A i hi) (H i hi);rw[sU D a B hi (λj g ag=>N.dst j i (F j g) ao ag),vY f]
    have O:(gG.float i::r).length-D.length=r.length-(D.erase i).length:=by
     rw[List.length_erase_of_mem hi];have:=List.length_pos_of_mem hi;simp;omega
    rw[O]
    have R:∀j,j∈D.erase i -> j∈D /\ j≠i:=λj g=>by
     rw[List.Nodup.mem_erase_iff B] at g;exact⟨g.2,g.1⟩
    refine J r (D.erase i) p _ W W (l i::U) l d (B.erase i) (λj g=>F j (R j g).1) E (S _) (λ_=>rfl) (λj g=>A j (R j g).1) (λv m=>?_) (λj g=>?_) (λx y hx hy=>G x y (R x hx).1 (R y hy).1) hh
    ·rcases List.mem_cons.1 m with rfl|m
     ·exact⟨i,A i hi⟩
     ·exact I v m
    ·intro hm;rcases List.mem_cons.1 hm with e|e
     ·exact G j i (R j g).1 hi (R j g).2 e
     ·exact H j (R j g).1 e
   |false=>
    rw[ak] at d;simp only[Bool.false_eq_true,if_false,Bool.and_eq_true] at d;obtain⟨⟨t,s⟩,h6⟩:=d;have av:D.length <= r.length:=Nat.le_of_ble_eq_true t;have O:(gG.float i::r).length-D.length=(r.length-D.length)+1:=by simp;omega
    rw[O];have ab:i∈Region.ready md ops p:=by simpa using s
    refine⟨λV=>(by rw[V] at ab;cases ab),λj g=>?_⟩;have z:=List.all_eq_true.1 h6 j g;simp only[Bool.and_eq_true,Bool.not_eq_true'] at z;obtain⟨⟨⟨z,h8⟩,h9⟩,ai⟩:=z;have:=yq (K:=k) N T hs (J (.float i::r)) z h8 h9 ai B F E M A I H G h;have e:(gG.float i::r).length-(D.length+1)=r.length-D.length:=by simp
    rw[e] at this;exact this
  |.fixed i::r,d,h=>
   simp only[gA,Bool.and_eq_true] at d;obtain⟨⟨t,s⟩,L⟩:=d;obtain rfl:D = []:=by simpa using t
   obtain rfl:=hw rfl;have ax:Region.ready md ops p = [i]:=by simpa using s
   show iq P md ops C Q (r.length+1) p a W;refine⟨λV=>(by rw[ax] at V;cases V),λj g=>?_⟩;rw[ax] at g;obtain rfl:j=i:=by simpa using g
   cases f:ops[j]? with
   |none=>simp only[f6,f] at h
   |some o=>
    simp only[f6,f] at h;unfold stC;simp only[f]
    have go:∀(a':Act)(q:World),C W q -> f6 P ops C Z Q r U a' q -> iq P md ops C Q r.length (p.setIfInBounds j true) a' q:=λa' q ar hh=>
     J r [] _ a' q q U l L List.nodup_nil nofun (T _ _ _ E ar) (S _) (λ_=>rfl) nofun (λu hu=>by obtain⟨k,hk⟩:=I u hu;exact⟨k,N.keep _ _ _ _ ar hk⟩) nofun nofun hh
    by_cases n:Region.wanted o (yielded ops a.tmps)=true
    ·simp only[n,if_true] at h⊢;exact eV (λv q m=>⟨m.1,go _ _ m.1 m.2⟩) h
    ·simp only[n] at h⊢;exact go _ _ (S _) h
theorem gr{Q:Exit -> Act -> World -> Prop}{a:Act}{l:List Oper}(C:World -> World -> Prop)(Z:Nat -> Value -> World -> Prop)(j:List Nat)(e:List gG)(k:Nat)(s:P.follows .mixedOrders=true)
 (m:(Region.noSelect l.toArray&&gA .any l.toArray j k e [] (Array.replicate l.length false)&&(e.length == l.length))=true)
 (g:∀W,C W W) (t:∀a b c,C a b -> C b c -> C a c) (r:vX P l.toArray C Z W.drew j)
 (h:f6 P l.toArray C Z (λd f=>Q .normal d f) e [] a W.drew):(Code.region i l.toArray true).wp P Q a W:=by
 simp only[Bool.and_eq_true] at m;obtain⟨⟨n,o⟩,p⟩:=m;have q:e.length=l.length:=by simpa using p
 refine wp_region_any s (ly (C:=C) (Q:=λd f=>Q .normal d f) (λ_ _ h=>h) _ _ _ _ ?_);have:=DF (Q:=λd f=>Q .normal d f) g t n r k e [] _ a W.drew W.drew [] (λ_=>undef) o List.nodup_nil nofun (g _) (g _) (λ_=>rfl) nofun nofun nofun nofun h;simpa[q,jQ] using this
theorem lh{a:Act}(h:Q a W):f6 P ops C Z Q [] L a W:=h
theorem mT{o:Oper}{r:List gG}{a:Act}(e:ops[i]?=some o)(f:Region.wanted o (yielded ops a.tmps)=true)
 (h:∀W,C w' W -> ∀K:Act -> World -> Prop,(∀c b,f6 P ops C Z Q r L c b -> K c b) -> opC P o a W (λv b=>C W b /\ K (a.put o.dst v) b)):f6 P ops C Z Q (.move i::r) L a w':=by
 simp only[f6,e,f,if_true];exact λW d=>h W d _ (λ_ _ h=>h)
theorem iO{o:Oper}{r:List gG}{a:Act}(g:ops[i]?=some o)
 (h:∀v W,C w' W -> Z i v W -> v∉L -> ∀K:Act -> World -> Prop,(∀b c,f6 P ops C Z Q r (v::L) b c -> K b c) -> K (a.put o.dst v) W):f6 P ops C Z Q (.float i::r) L a w':=by
 simp only[f6,g];exact λv W e f d=>h v W e f d _ (λ_ _ h=>h)
theorem iP{o:Oper}{r:List gG}{a:Act}(d:ops[i]?=some o)(e:Region.wanted o (yielded ops a.tmps)=true)
 (h:∀K:Act -> World -> Prop,(∀c b,f6 P ops C Z Q r L c b -> K c b) -> opC P o a W (λv b=>C W b /\ K (a.put o.dst v) b)):f6 P ops C Z Q (.fixed i::r) L a W:=by
 simp only[f6,d,e,if_true];exact h _ (λ_ _ h=>h)
def stF:gG -> Option Nat
 |.steady i=>some i
 |_=>none
theorem dA[Std.Refl C]{l r:List gG}{e:List (Oper×Option (Tmp×Bool))}{a A:Act}{i:List Value}(g:nf stF ops l=some (e,r))
 (c:∀f,C w' f -> kU P e a f [] A i) (h:f6 P ops C Z Q r L A w'):f6 P ops C Z Q l L a w':=by
 refine mE (W:=λl a=>f6 P ops C Z Q l L a w') (Std.Refl.refl w') ?_ ?_ l g c h
 ·rintro x j o r a v hi b d c h;cases x<;>cases hi
  simp only[f6,b,d,if_true];exact⟨v,c,h⟩
 ·rintro x j o r a hi b d h;cases x<;>cases hi
  simpa only[f6,b,d,Bool.false_eq_true,if_false] using h
end
attribute [irreducible] f6
structure bX(B0:Nat)(T:TypeId)(w w':World):Prop where
 os:w'.os=w.os
 tape:w'.tape=w.tape
 output:w'.output=w.output
 size:w.heap.size <= w'.heap.size
 block:∀b,b<w.heap.size -> (∀L,B0 <= b -> ¬Blk w b L T) -> w'.heap[b]?=w.heap[b]?
 typed:∀b L,B0 <= b -> Blk w b L T -> ∃L',Blk w' b L' T /\ L'.length=L.length
theorem f7(T:TypeId)(w:World):bX n T w w:=⟨rfl,rfl,rfl,aq _,λ_ _ _=>rfl,λ_ L _ h=>⟨L,h,rfl⟩⟩
theorem cK(T:TypeId)(a b c:World)(h:bX n T a b)(k:bX n T b c):bX n T a c:=
 ⟨k.os.trans h.os,k.tape.trans h.tape,k.output.trans h.output,au h.size k.size,
  λx g f=>(k.block x (aw g h.size) λL d e=>f L d ((h.block x g f).symm.trans e)).trans (h.block x g f),
  λx L d e=>by
   obtain⟨i,o,l⟩:=h.typed x L d e;obtain⟨j,p,m⟩:=k.typed x i d o
   exact⟨j,p,m.trans l⟩⟩
theorem bX.of_later(h:aK W w'):bX i t W w':=
 ⟨h.os,h.tape,h.output,h.size,λb a _=>h.block b a,λb L _ a=>⟨L,a.keep (h.block b a.lt),rfl⟩⟩
theorem bX.below(h:bX i t W w')(a:i <= W.heap.size):RowKit.Below i W w':=
 ⟨h.os,h.tape,h.output,h.size,λb d=>h.block b (aw d a) λL c=>absurd c (by omega)⟩
theorem bX.set{a:Nat}{T:TypeId}{w:World}{b:Nat}{L:List Value}(g:Blk w b L T)(f:a <= b)(i:Nat)(u:Value):bX a T w (w.setCell ⟨b,i,none⟩ u):=by
 refine⟨rfl,rfl,rfl,by simp[World.setCell],λx j h=>?_,λx M j c=>?_⟩
 ·exact RowKit.Below.heap_setCell _ _ _ _ λe=>h L (by rw[e];exact f) (by rw[e];exact g)
 ·by_cases d:x=b
  ·subst d;exact⟨_,c.set i u,by simp⟩
  ·exact⟨M,c.set_other u d,rfl⟩
theorem bX.blk{T t:TypeId}(h:bX i T W w')(a:Blk W j L t)(d:t≠T):Blk w' j L t:=
 a.keep (h.block j a.lt λM _ c=>d (a.inj c).2)
theorem bX.own(h:bX i t W w'){e:TypeId}{k n:Nat}{d:List Value}(c:W.ownsRow j e k u n d)(p:e≠t):w'.ownsRow j e k u n d:=by
 refine⟨c.1,?_⟩;rcases c.2 with m|⟨g,f,l,r,o,b,q⟩
 ·exact .inl m
 ·refine .inr ⟨g,f,l,r,o,?_,q⟩;rw[h.block g (lt_of_block b) λL _ a=>?_]
  ·exact b
  ·unfold Blk at a;rw[b] at a;simp at a;exact p a.2
instance{B0:Nat}{T:TypeId}:Std.Refl (bX B0 T):=⟨f7 B0 T⟩
def ou(B0:Nat)(T:TypeId)(n:Nat)(_:Nat)(v:Value)(W:World):Prop:=∃b L,v=.pointer (some ⟨b,0,none⟩) /\ B0 <= b /\ Blk W b L T /\ L.length=n
theorem jx{P:Program}{ops:Array Oper}{w0:World}{f:Nat}{n:Nat}{c:List Nat}(g:Array Value)(s:g.size=n)(p:f <= w0.heap.size)
 (E:∀j,c.contains j=true -> ∃o,ops[j]?=some o /\ o.guard=none /\ ∀(a:Act)(W:World),(execOp a.eval o).run P W=.ok (.value (.pointer (some ⟨W.heap.size,0,none⟩))) (W.alloc (.cells g t)))
 (x:∀i j,c.contains i=true -> c.contains j=true -> i≠j -> ∀d,oq ops i=some d -> oq ops j≠some d):vX P ops (bX f t) (ou f t n) w0 c:=by
 refine⟨λj A=>?_,λj v w I r ⟨b,L,G,e,B,C⟩=>?_,x⟩
 ·obtain⟨o,D,z,F⟩:=E j A;refine⟨o,D,z,λa W q=>?_⟩;unfold opC;rw[F a W];refine⟨bX.of_later (RowKit.Below.refl W.heap.size W |>.alloc (aq _) _),⟨_,_,rfl,au p q.size,Blk.new _ _ _,by simpa using s⟩,?_⟩;rintro k u ⟨b,L,rfl,-,e,-⟩ y;have H:=e.lt;simp at y
  try omega
 ·obtain⟨h,l,m⟩:=r.typed b L e B;exact⟨b,h,G,e,l,m.trans C⟩
end
end Go.Proofs.YtobjdpngnfbicaaGreatDoor
