/-
  VUser RefRead Read JL4 OwnA UForm JA JV RWorks UEx ULaid UX RArg UActs UXH UCalm AppNew UGiven UWorks UOpens
-/
import Derived.Test.YtobjdpngnfbicaaGreatDoorZO17
import Derived.Test.YtobjdpngnfbicaaGreatDoorRows
import Derived.Lib.LaidIn
import Derived.Lib.LaidU8T
import Derived.Lib.SmallJoins
open Go.Lib renaming hid->ae
open Go.IntWalk renaming i64_in->af
open Nat renaming le_refl->aq,le_trans->au,lt_of_lt_of_le->aw
open List renaming getElem_mem->aC,length_cons->aD
open Go.Proofs.Tryz renaming prog->aE
set_option maxHeartbeats 16000000
set_option maxRecDepth 100000
set_option linter.all false
namespace Go.Proofs.YtobjdpngnfbicaaGreatDoor
open Go.RowKit
open Go.Proofs.Tryz
variable(w:World)(F:aX)(n:Nat)(v:Value)(m:aU){W w':World}{G:aX}{u:Value}{i j o:Nat}{l:List UInt8}{r:aU}{N:MD}{t:TypeId}
section
open Go.Lib
attribute [local go_sem] opC upC
structure AZ(Z:aX)(w:World)(rk:RJK)(u:Nat)(M:MD)(U:MU):Prop where
 box:∃a1 c1 a2 c2 a3 c3,Blk w u [.int .i64 (U.dev:Int),.slice a1 U.m.seen.length c1,.slice a2 U.m.items.length c2,.slice a3 U.m.gone.length c3,.pointer (some ⟨rk.j,0,none⟩)] 77 /\
  cG (fun q=>¬rk.all q /\ q≠u /\ ¬Z q) w (.slice a1 U.m.seen.length c1) (.slice a2 U.m.items.length c2) (.slice a3 U.m.gone.length c3) U.m
 jat:jJ w rk M U.J
 ne:¬rk.all u
theorem AZ.lt{Z:aX}{w:World}{b:RJK}{u:Nat}{M:MD}{U:MU}(h:AZ Z w b u M U):u<w.heap.size:=by
 obtain⟨c,f,d,g,e,i,a,-⟩:=h.box;exact a.lt
theorem AZ.keep{Z:aX}{w w':World}{c:RJK}{u:Nat}{M:MD}{U:MU}(h:AZ Z w c u M U)(a:Below w.heap.size w w'):AZ Z w' c u M U:=by
 obtain⟨d,g,e,i,f,j,b,k⟩:=h.box;exact⟨⟨d,g,e,i,f,j,b.keep (a.block _ b.lt),k.keep fun q _ l=>a.block q l⟩,h.jat.kept a,h.ne⟩
def jL(Z:aX)(w:World)(K:RK)(M:MD)(r:MU ⊕ Int)(e:Ending)(b:World):Prop:=(match r with
 |.inr c=>e=.returned (.tuple #[.pointer none,.int .i64 c])
 |.inl U=>∃u a,e=.returned (.tuple #[.pointer (some ⟨u,0,none⟩),.int .i64 0]) /\ a.K=K /\ AZ Z b a u M U /\ (∀q,a.all q -> K.all q \/ w.heap.size <= q) /\ w.heap.size <= u) /\ Below w.heap.size w b
def EM(J:MJ):Option (Nat×aU) -> MU ⊕ Int
 |none=>.inr 5
 |some (d,m)=>.inl ⟨d,m,J⟩
theorem zb(w:World)(hZ:∀q,F q -> q<w.heap.size)(K:RK)(M:MD)(h:cB w K M):
 Calls aE 34 #[.pointer (some ⟨K.d,0,none⟩)] w (jL F w K M (eh M)):=by
 have H:=AX w K M h;obtain⟨o,T⟩:=aH (fN M);rw[T] at H;have Y:=ae H;have C:=ae T;have HZ:=ae hZ;clear H T h hZ
 go_enter func34,ntmps34
 go_wp2_with fail;refine Y.out.mono ?_;rintro e a ⟨n,u⟩;clear Y;cases o with
 |inr c=>
  obtain rfl:e=.returned (.tuple #[.pointer none,.int .i64 c]):=n;have aR:¬c=0:=by rcases tM C.out with h|h|h<;>rw[h]<;>decide
  have g:=ae (show jL F w K M (eh M) (.returned (.tuple #[.pointer none,.int .i64 c])) a from by
   unfold eh;rw[C.out]
   exact⟨rfl,u⟩)
  clear u;go_wp2_with fail;go_ret2;exact g.out
 |inl J=>
  obtain⟨s,rfl,hK,v,ao⟩:=n;obtain⟨ra,rc,R,av,V,aO⟩:=v.recs;have E:=Blk.cell av 2;simp at E;obtain⟨B,S⟩:=aH J.L.length;have aU:B <= 9223372036854775807:=by obtain⟨_,_,_,aT,aN⟩:=V.shape;unfold maxLen at aN;omega
  have i:=ae (yU a R 0 _ J.L V v.lens)
  have D:=ae (show eh M=if J.L = [] then .inr 340 else EM J (ff J.L) by
   unfold eh;rw[C.out];dsimp only
   by_cases h:J.L = []
   ·rw[if_pos h,if_pos h]
   ·rw[if_neg h,if_neg h];cases ff J.L with
    |none=>rfl
    |some p=>rfl)
  have Hj:=ae v;have HK:=ae hK;have aF:=ae ao;have f:=ae u;have ab:=ae S;rw[S] at E i;clear v hK ao u av V aO S
  by_cases h0:B=0
  ·subst h0
   have g:=ae (show jL F w K M (eh M) (.returned (.tuple #[.pointer none,.int .i64 340])) a from by
    rw[D.out,if_pos (List.length_eq_zero_iff.1 ab.out)]
    exact⟨rfl,f.out⟩)
   clear i;go_wp2_with fail;go_ret2;exact g.out
  ·have aM:¬(B:Int)=0:=by omega
   have aP:((B:Int) == 0)=false:=beq_eq_false_iff_ne.2 aM;obtain⟨of,U⟩:=aH (ff J.L)
   have ad:=ae (show eh M=EM J of by
    rw[D.out,if_neg (fun e=>h0 (by rw[<- ab.out,e];rfl)),U])
   rw[U] at i;clear U D;go_wp2_with fail;refine i.out.mono ?_;rintro e w2 ⟨n,l⟩;clear i E;cases of with
   |none=>
    obtain rfl:=n
    have g:=ae (show ∀W,Below w.heap.size w W -> jL F w K M (eh M) (.returned (.tuple #[.pointer none,.int .i64 5])) W from fun W hW=>by
     rw[ad.out]
     exact⟨rfl,hW⟩)
    have aa:=ae (f.out.trans (l.mono f.out.size));clear l;go_wp2_with fail;go_ret2;exact g.out _ (aa.out.trans ((aI _ _).mono aa.out.size))
   |some p=>
    obtain⟨d,m⟩:=p;obtain⟨r,rfl,X⟩:=n
    replace X:=o6 X 75
    obtain⟨ak,ax,al,ay,an,az,b,rfl,ai,aG,aL,aK,aJ⟩:=X;obtain⟨d0,d1,d2⟩:=aS aJ.out;obtain⟨t,A⟩:=aQ (b.alloc (.cells #[.int .i64 (d:Int),.slice ak m.seen.length ax,.slice al m.items.length ay,.slice an m.gone.length az,.pointer (some ⟨s.j,0,none⟩)] 77));have O:Below b.heap.size b t:=by rw[A];exact aI _ _
    have ar:Blk t b.heap.size [.int .i64 (d:Int),.slice ak m.seen.length ax,.slice al m.items.length ay,.slice an m.gone.length az,.pointer (some ⟨s.j,0,none⟩)] 77:=by rw[A];exact Blk.new _ _ _
    have k:Below a.heap.size a b:=l.trans (aG.out.mono l.size);have N:Below a.heap.size a t:=k.trans (O.mono k.size);have P:=Hj.out.lt;have hu:¬s.all b.heap.size:=fun I=>by have:=P _ I;have:=k.size;omega
    have g:=ae (show jL F w K M (eh M) (.returned (.tuple #[.pointer (some ⟨b.heap.size,0,none⟩),.int .i64 0])) t from by
     rw[ad.out];refine⟨⟨_,s,rfl,HK.out,⟨⟨_,_,_,_,_,_,ar,(aK.out.mono (G:=fun q=>¬s.all q /\ q≠b.heap.size /\ ¬F q) fun q hq Q=>?_).keep (w':=t) fun q _ Q=>O.block q Q⟩,Hj.out.kept N,hu⟩,aF.out,?_⟩,f.out.trans (N.mono f.out.size)⟩
     ·have aV:a.heap.size <= q:=hq;exact⟨fun I=>by have:=P _ I;omega,Nat.ne_of_lt Q,fun hz=>by have:=HZ.out q hz;have:=f.out.size;omega⟩
     ·have:=f.out.size;have:=k.size
      omega)
    have ag:=ae A;obtain⟨n1,x⟩:=aH m.seen.length;obtain⟨n2,y⟩:=aH m.items.length;obtain⟨n3,z⟩:=aH m.gone.length;rw[x,y,z] at ag ai;rw[x] at d0;rw[y] at d1;rw[z] at d2;rw[x,y,z];clear l O ar k N P hu A x y z;go_wp2_with fail;rw[<- ai.out];rw[<- ag.out];go_ret2;have h:=g.out;rw[aL.out] at h;exact h
end
section
attribute [local go_sem ↓] aV
theorem zc(K:RK)(M:MD)(i:Nat)(h:cB w K M)(p:i<M.S.length)(n:M.down=false):
 Calls aE 32 #[.pointer (some ⟨K.d,0,none⟩),.int .i64 (i:Int)] w fun e f=>∃r,e=.returned (.tuple #[r,.int .i64 0]) /\
  f.ownsRow w.heap.size 5 1 r 64 (M.S[i].map B) /\ Below w.heap.size w f:=by
 have c:(M.S[i]).length=64:=h.s64 _ (aC p);have O:=h.len;have A:=h.apart;have D:=h.lt;obtain⟨G,F,V,I,P,a,⟨L,j,H,s⟩,-⟩:=h.main;obtain⟨v,E,m⟩:=s i p;clear s;have y:=a.cell 0;have g:=a.cell 1;simp at y g;rw[n] at g;have z:=j.cell i;rw[E] at z;have l:aO K.R (w.alloc (.cells #[] 5)) v M.S[i]:=m.keep fun b _ a=>Below.heap_alloc _ _ _ a
 obtain⟨W,f,U,q,o⟩:=cY (w.alloc (.cells #[] 5)) w.heap.size (.slice (some ⟨w.heap.size,0,none⟩) 0 0) []
  ⟨rfl,.inr ⟨w.heap.size,0,#[],rfl,aq _,by unfold World.alloc;simp,aq _,by unfold maxLen;omega,rfl,rfl⟩⟩ K.R v M.S[i] l (by simp[c]) (by simp)
 have x:=ae q;clear q;have u:=ae o;clear o;have t:=ae c;clear c;have Q:(i:Int)<(M.S.length:Int):=by omega
 have T:M.S.length <= 9223372036854775807:=by omega
 have J:=a.lt;have N:=j.lt;clear h A D a n l m
 go_enter func32,ntmps32
 go_wp2_with fail;go_ret2;exact⟨_,rfl,by have:=x.out;rw[List.nil_append,t.out] at this;exact this,(aI _ _).grown u.out (by simp) (fun k C=>by simp[Value.ownBlock] at C;omega)⟩
end
section
open Go.ChangeShapes Go.WideShapes Go.Deep
theorem rY{w:World}{a:Addr}(h:w.cell? a=some u):a.spot=none /\ ∃L t d,w.heap[a.block]?=some (.cells L t d) /\ L[a.off]?=some u:=by
 unfold World.cell? at h;split at h
 ·rename_i c e f g
  by_cases b:a.spot.isSome=true
  ·simp[b] at h
  ·refine⟨by simpa using b,c,e,f,g,?_⟩;simpa[b] using h
 ·cases h
def rZ(k:Nat)(E:List Value -> Prop)(w:World)(v:Value)(n:Nat):Prop:=
 ∃a c,v=.slice a n c /\ n <= c /\ c <= maxLen /\ (a=none -> c=0) /\
  (n=0 \/ ∃b d L t e,a=some ⟨b,d,none⟩ /\ b<w.heap.size /\ w.heap[b]?=some (.cells L t e) /\ d+n*k <= L.size /\ ∀i,i<n -> E ((L.toList.drop (d+i*k)).take k))
section
variable {H:Type} {enc:TypeId×Value -> H} {P:Program} {w:World} {base:Nat} {held:Bool}
theorem CD{t e:TypeId}{G k:Nat}{x:DataW H×List MemPlace}(S:0<k)(W:P.underlying t=some (.slice e))(I:P.cellsOf e=k)(E:List Value -> Prop)
 (J:∀(m:Nat)(r:List Value)(y:DataW H×List MemPlace),DataW.trod enc P w base (fun _=>true) held m e r=some y -> E r)
 (h:DataW.trod enc P w base (fun _=>true) held G t [u]=some x):∃n,rZ k E w u n:=by
 rcases open_slice W h with⟨g,_⟩|⟨a,b,Z,m,n,D,Y,B,hb,T,V,C,hx,hi⟩
 ·simp at g;subst g;exact⟨0,none,0,rfl,aq _,by unfold maxLen;omega,fun _=>rfl,.inl rfl⟩
 ·simp at B;subst B;simp only[if_true] at C;subst C;refine⟨b,some a,m,rfl,T,V,nofun,?_⟩
  by_cases g:b=0
  ·exact .inl g
  ·right;rw[I] at hi;obtain⟨aa,O,_⟩:=hi 0 (by omega);obtain⟨_,ad,K⟩:=World.cells?_some O;have l:=K 0 S;rw[List.getElem?_eq_getElem (by omega)] at l;simp only[Nat.zero_mul] at l;have N:(a.add 0).add 0=a:=by simp[Addr.add]
   rw[N] at l;obtain⟨hs,L,F,s,p,_⟩:=rY l;have z:a=⟨a.block,a.off,none⟩:=by cases a;simp_all
   have A:∀i j,i<b -> j<k -> ∀o,w.cells? base (a.add (i*k)) k=some o -> L[a.off+i*k+j]?=o[j]?:=by
    intro i j ab d o Q;obtain⟨_,ag,M⟩:=World.cells?_some Q;have hh:=M j d;rw[add_add,z,Addr.add_lit,cell_of_row w a.block _ L F s p] at hh;rw[Nat.add_assoc];exact hh
   refine⟨a.block,a.off,L,F,s,by rw[<- z],lt_of_block p,p,?_,fun i R=>?_⟩
   ·obtain⟨f,c,_⟩:=hi (b-1) (by omega);obtain⟨_,U,_⟩:=World.cells?_some c;have:=A (b-1) (k-1) (by omega) (by omega) f c;rw[List.getElem?_eq_getElem (by omega)] at this;have:=(Array.getElem?_eq_some_iff.1 this).1
    have e1:b*k=(b-1)*k+k:=by
     obtain⟨q,rfl⟩:∃q,b=q+1:=⟨b-1,by omega⟩
     simp[Nat.add_mul]
    omega
   ·obtain⟨f,c,X⟩:=hi i (by omega);obtain⟨_,U,_⟩:=World.cells?_some c
    have e:(L.toList.drop (a.off+i*k)).take k=f:=by
     apply List.ext_getElem?;intro j;rw[List.getElem?_take]
     by_cases d:j<k
     ·rw[if_pos d,List.getElem?_drop,<- A i j R d f c];simp
     ·rw[if_neg d,List.getElem?_eq_none (by omega)]
    rw[e];exact J _ _ _ X
def EN(a:List Value):Prop:=∃n:Int,a = [.int .u8 n] /\ 0 <= n /\ n <= 255
theorem uV{w:World}(h:rZ 1 EN w u j):∃l:List UInt8,l.length=j /\ aO (fun b=>b<w.heap.size) w u l:=by
 obtain⟨a,g,rfl,k,m,q,r⟩:=h;rcases r with rfl|⟨b,d,L,t,p,rfl,x,A,D,s⟩
 ·exact⟨[],rfl,a,g,rfl,k,m,q,.inl rfl⟩
 ·have o:∀i,i<j -> ∃c:UInt8,L[d+i]?=some (B c):=by
   intro i hi;obtain⟨z,C,E,F⟩:=s i hi;refine⟨UInt8.ofNat z.toNat,?_⟩;have:((L.toList.drop (d+i*1)).take 1)[0]?=some (.int .u8 z):=by rw[C];rfl
   rw[List.getElem?_take,if_pos (by omega),List.getElem?_drop] at this
   have e:B (UInt8.ofNat z.toNat)=.int .u8 z:=by
    unfold B
    congr 1
    simp only[UInt8.toNat_ofNat'];omega
   rw[e];simpa using this
  let f:Nat -> UInt8:=fun i=>if h:i<j then Classical.choose (o i h) else 0
  have y:∀i,(h:i<j) -> L[d+i]?=some (B (f i)):=fun i h=>by
   simp only[f,dif_pos h];exact Classical.choose_spec (o i h)
  refine⟨(List.range j).map f,by simp,some ⟨b,d,none⟩,g,by simp,by simpa using k,m,nofun,.inr ⟨b,d,L,t,p,rfl,x,A,by simp;omega,fun i hi=>?_⟩⟩;simp at hi;simpa using y i hi
end
theorem rZ.keep{E:List Value -> Prop}{w w':World}(h:rZ i E w u j)(d:Below w.heap.size w w'):rZ i E w' u j:=by
 obtain⟨a,f,rfl,l,m,o,c⟩:=h;refine⟨a,f,rfl,l,m,o,?_⟩;rcases c with c|⟨b,s,L,t,g,rfl,e,q,r,p⟩
 ·exact .inl c
 ·exact .inr ⟨b,s,L,t,g,rfl,aw e d.size,(d.block b e).trans q,r,p⟩
end
section
open Go.ChangeShapes Go.WideShapes Go.ChangeAt
attribute [local go_sem] opC upC
theorem CE:aE.cellsOf 5=1:=by kernel_rfl
end
section
open Go.ChangeShapes Go.WideShapes Go.ChangeAt Go.Deep
attribute [local go_sem ↓] aV
attribute [local go_sem] opC upC
section
variable {H:Type} {enc:TypeId×Value -> H} {P:Program} {w:World} {base:Nat} {held:Bool}
theorem A0{t e:TypeId}{K k:Nat}{x:DataW H×List MemPlace}(U:0<k)(Y:P.underlying t=some (.slice e))(M:P.cellsOf e=k)(E:List Value -> Prop)
 (N:∀(m:Nat)(r:List Value)(y:DataW H×List MemPlace)(s sp:List (DataW H)),x.1=.slice s sp -> y.1∈s -> DataW.trod enc P w base (fun _=>true) held m e r=some y -> E r)
 (h:DataW.trod enc P w base (fun _=>true) held K t [u]=some x):∃n,rZ k E w u n:=by
 rcases open_slice Y h with⟨g,_⟩|⟨a,b,aa,m,n,D,J,C,hb,V,X,G,hx,hi⟩
 ·simp at g;subst g;exact⟨0,none,0,rfl,aq _,by unfold maxLen;omega,fun _=>rfl,.inl rfl⟩
 ·simp at C;subst C;simp only[if_true] at G;subst G;refine⟨b,some a,m,rfl,V,X,nofun,?_⟩
  by_cases g:b=0
  ·exact .inl g
  ·right;rw[M] at hi;obtain⟨ab,S,_⟩:=hi 0 (by omega);obtain⟨_,ag,O⟩:=World.cells?_some S;have l:=O 0 U;rw[List.getElem?_eq_getElem (by omega)] at l;simp only[Nat.zero_mul] at l;have R:(a.add 0).add 0=a:=by simp[Addr.add]
   rw[R] at l;obtain⟨hs,L,I,z,p,_⟩:=rY l;have A:a=⟨a.block,a.off,none⟩:=by cases a;simp_all
   have B:∀i j,i<b -> j<k -> ∀o,w.cells? base (a.add (i*k)) k=some o -> L[a.off+i*k+j]?=o[j]?:=by
    intro i j ad d o T;obtain⟨_,ai,Q⟩:=World.cells?_some T;have hh:=Q j d;rw[add_add,A,Addr.add_lit,cell_of_row w a.block _ L I z p] at hh;rw[Nat.add_assoc];exact hh
   refine⟨a.block,a.off,L,I,z,by rw[<- A],lt_of_block p,p,?_,fun i F=>?_⟩
   ·obtain⟨f,c,_⟩:=hi (b-1) (by omega);obtain⟨_,W,_⟩:=World.cells?_some c;have:=B (b-1) (k-1) (by omega) (by omega) f c;rw[List.getElem?_eq_getElem (by omega)] at this;have:=(Array.getElem?_eq_some_iff.1 this).1
    have e1:b*k=(b-1)*k+k:=by
     obtain⟨q,rfl⟩:∃q,b=q+1:=⟨b-1,by omega⟩
     simp[Nat.add_mul]
    omega
   ·obtain⟨f,c,Z⟩:=hi i (by omega);obtain⟨_,W,_⟩:=World.cells?_some c
    have e:(L.toList.drop (a.off+i*k)).take k=f:=by
     apply List.ext_getElem?;intro j;rw[List.getElem?_take]
     by_cases d:j<k
     ·rw[if_pos d,List.getElem?_drop,<- B i j F d f c];simp
     ·rw[if_neg d,List.getElem?_eq_none (by omega)]
    rw[e];exact N _ _ (D i,J i) _ _ (by rw[hx]) (List.mem_map.2 ⟨i,List.mem_range.2 F,rfl⟩) Z
end
theorem lM{H:Type}{P:Program}{e:TypeId}:∀{l:List (DataW H)}{d:DataW H},d∈l -> ∀n∈d.weights P e,n∈DataW.weightsAll P e l
 |c::r,d,b,n,a=>by
  simp only[DataW.weightsAll,List.mem_append];rcases List.mem_cons.1 b with rfl|h
  ·exact Or.inl a
  ·exact Or.inr (lM h n a)
theorem CF{H:Type}{P:Program}{f:List TypeId}{a:List (DataW H)}(h:(DataW.weightsEach P f a).all (· <= reachBytes)=true){t e q:TypeId}{c n b d:List (DataW H)}
 (i:f[j]?=some t) (g:a[j]?=some (.slice c n)) (k:P.underlying t=some (.slice e)) (l:P.underlying e=some (.slice q)) (m:DataW.slice b d∈c):(b.length+d.length)*P.bytesOf q <= reachBytes:=by
 refine of_decide_eq_true (List.all_eq_true.1 h _ (DataW.weights_mem_each i g _ ?_));simp only[DataW.weights,k,List.mem_cons,List.mem_append];exact Or.inr (Or.inl (lM m _ (by simp[DataW.weights,l])))
theorem DD:aE.bytesOf 5=1:=by kernel_rfl
theorem CG:aE.cellsOf 41=1:=by kernel_rfl
def IsBss(w:World)(v:Value):Prop:=
 ∃n,rZ 1 (fun c=>∃a l,c = [a] /\ aO (fun b=>b<w.heap.size) w a l /\ l.length <= 140737488351232) w v n
theorem open_Bss{H:Type}{enc:TypeId×Value -> H}{w:World}{d:DataW H}{p:List MemPlace}{E:List TypeId}{k:List (DataW H)}
 (A:Value.okWide aE w .any i 64 u) (h:DataW.Trod enc aE w 0 (fun _=>true) true 64 u d p) (x:(DataW.weightsEach aE (64::E) (d::k)).all (· <= reachBytes)=true):IsBss w u:=by
 obtain⟨a0,U,L,rfl⟩:=okWide_slice underlying64 A;obtain⟨M,t⟩:=h;refine A0 (by omega) underlying64 CG _ (fun m g y o C c b e=>?_) t;have c:d=.slice o C:=c;rcases open_slice underlying41 e with⟨q,_⟩|⟨a,T,J,V,n,D,G,rfl,O,P,R,S,B,hi⟩
 ·subst q;exact⟨_,[],rfl,⟨none,0,rfl,aq _,by unfold maxLen;omega,fun _=>rfl,.inl rfl⟩,by simp⟩
 ·obtain⟨W,r⟩:=CD (by omega) underlying41 CE EN (fun m g y b=>by
   obtain⟨z,rfl,_,F⟩:=DataW.trod_int underlying5 b
   exact⟨z,rfl,bounds_u8 F⟩) e
  obtain⟨l,Q,f⟩:=uV r;refine⟨_,l,rfl,f,?_⟩;obtain⟨I,K,s,-⟩:=f;simp at s;rw[B] at b;have:=CF (j:=0) x rfl (by rw[c];rfl) underlying64 underlying41 b;rw[DD] at this;simp at this;have N:reachBytes=140737488351232:=rfl;omega
def EO(w:World)(d:Nat)(v:Value)(A:List (List UInt8)):Prop:=
 ∃a f,v=.slice a A.length f /\ A.length <= 9223372036854775807 /\ (A = [] \/ ∃b e,a=some ⟨b,e,none⟩ /\ b<d /\ ∀i (h:i<A.length),∃x c,w.cell? ⟨b,e+i,none⟩=some (.slice x A[i].length c) /\ aO (fun b=>b<d) w (.slice x A[i].length c) A[i] /\ A[i].length <= 140737488351232)
theorem Ek{w:World}(h:IsBss w u):∃A,EO w w.heap.size u A:=by
 obtain⟨n,a,e,rfl,C,D,E,m⟩:=h;have G:(maxLen:Nat) <= 9223372036854775807:=by decide
 rcases m with rfl|⟨b,d,L,t,l,rfl,p,y,F,o⟩
 ·exact⟨[],a,e,rfl,by simp,.inl rfl⟩
 ·have j:∀i,i<n -> ∃q:List UInt8,∃x c,w.cell? ⟨b,d+i,none⟩=some (.slice x q.length c) /\ aO (fun b=>b<w.heap.size) w (.slice x q.length c) q /\ q.length <= 140737488351232:=by
   intro i hi;obtain⟨k,q,r,g,z⟩:=o i hi
   have B:L[d+i]?=some k:=by
    have:((L.toList.drop (d+i*1)).take 1)[0]?=some k:=by rw[r];rfl
    rw[List.getElem?_take,if_pos (by omega),List.getElem?_drop] at this;simpa using this
   obtain⟨x,c,rfl,H⟩:=id g;exact⟨q,x,c,by rw[cell_of_row w b _ L t l y];exact B,g,z⟩
  let f:Nat -> List UInt8:=fun i=>if h:i<n then Classical.choose (j i h) else[]
  have s:∀i,(h:i<n) -> ∃x c,w.cell? ⟨b,d+i,none⟩=some (.slice x (f i).length c) /\ aO (fun b=>b<w.heap.size) w (.slice x (f i).length c) (f i) /\ (f i).length <= 140737488351232:=fun i h=>by
   simp only[f,dif_pos h];exact Classical.choose_spec (j i h)
  refine⟨(List.range n).map f,some ⟨b,d,none⟩,e,by simp,by simp;omega,.inr ⟨b,d,rfl,p,fun i hi=>?_⟩⟩;simp at hi;simpa using s i hi
end
section
open Go.Lib
attribute [local go_sem] opC upC
theorem k9:bp .new=true:=by decide +kernel
theorem El(h:Blk W j (List.replicate 8 (.int .i64 0)) 3)(hF:G j):cG G W (.slice (some ⟨j,0,none⟩) 8 8) (.slice none 0 0) (.slice none 0 0) .new:=by
 refine⟨⟨_,8,rfl,by decide,by unfold maxLen;omega,nofun,rfl,.inr ⟨j,0,_,_,_,rfl,hF,h,by simp;decide,fun i hi=>?_⟩⟩,Rows.nil _ _ _,Rows.nil _ _ _,?_,nofun,nofun⟩
 ·have d:i<8:=hi;rcases(show i=0 \/ i=1 \/ i=2 \/ i=3 \/ i=4 \/ i=5 \/ i=6 \/ i=7 by omega) with rfl|rfl|rfl|rfl|rfl|rfl|rfl|rfl<;>rfl
 ·intro n c
  have:n=0:=by
   have a:n∈List.replicate 8 (0:Int):=c;exact(List.mem_replicate.1 a).2
  subst this;exact⟨by decide,by decide⟩
def xz(w:World)(K:DK)(r:MD×MU×Int)(e:Ending)(b:World):Prop:=∃u a,e=.returned (.tuple #[.pointer (some ⟨u,0,none⟩),.int .i64 0]) /\ a.K.d=K.d /\ UAt b a u r.1 r.2.1 /\ (∀q,a.all q -> K.foot q \/ w.heap.size <= q) /\ w.heap.size <= u /\ aT K.foot w b
theorem xA(hT:eJ w)(h3:4 <= w.heap.size)(k:de w)(K:DK)(M:MD)(A:bT w K M)(h8:8 <= M.S.length)(R:∀b,K.foot b -> 3<b)(hw:M.writes+200000<4611686018427387904)(c:Nat)(ar:c<8)(B:(cO M).2=0)(g:(ip M c).2.2=0):
 Calls aE 12 #[.pointer (some ⟨K.d,0,none⟩),.int .i64 (c:Int)] w (xz w K (ip M c)):=by
 have hF:=yz w K M A h8 k (fun I=>by have:=R 0 I;omega) (by omega)
 have av:(cO M).1.S.length=M.S.length /\ (cO M).1.writes <= M.writes+65540:=by
  have m:=fE ((List.range M.S.length).map (fun i=>(i,List.replicate 64 0))++[(0,cP 0)]) M;have h2:((List.range M.S.length).map (fun i=>(i,List.replicate 64 (0:UInt8)))++[(0,cP 0)]).length=M.S.length+1:=by simp
  have h3:=A.le;unfold cO;exact⟨m.1,au m.2 (by omega)⟩
 have a5:¬(c:Int)<0:=by omega
 have a6:¬(8:Int) <= (c:Int):=by omega
 obtain⟨p,W⟩:=aH (fo c .new);have G:=ae (show ip M c=((bQ (cO M).1 ⟨0,[],false⟩ p).1,⟨c,.new,(bQ (cO M).1 ⟨0,[],false⟩ p).2.1⟩,(bQ (cO M).1 ⟨0,[],false⟩ p).2.2) by rw[<- W];rfl);have Z:=ae hF;have Hf:=ae B;have Ha:=ae g;have aS:=ae av;have ak:=ae R;have Hw:=ae hw;have aP:=ae ar;have HT:=ae hT;have HQ:=ae k;have aY:=ae W;have a3:=ae A.lt;clear hF B g av R hw ar hT k W A h8
 go_enter func12,ntmps12
 go_wp2_with fail;refine Z.out.mono ?_;rintro e f ⟨K',e1,e2,U,m⟩;obtain⟨-,jb,rfl,az,hj⟩:=m.resolve_right (fun h=>h.1 Hf.out);obtain⟨n,g1,g2,ax,g3,aF⟩:=hj.slim
 have Q:∀b,n.all b -> K.foot b \/ w.heap.size <= b:=fun b t=>by
  rcases g3 b t with h|h|h
  ·right;rw[h];exact az
  ·left;exact e2 b h
  ·exact h.elim
 have aG:∀b,n.all b -> 3<b:=fun b t=>by
  rcases Q b t with h|h
  ·exact ak.out b h
  ·omega
 have T:∀q,q<4 -> f.heap[q]?=w.heap[q]?:=fun q k=>U.block q (by omega) fun g=>by have:=ak.out q g;omega
 have aM:=ae (show eJ f from HT.out.keep fun a g=>by
  have e:=T a.block g;unfold World.cell?
  rw[e])
 have aL:=ae (show de f from HQ.out.keep (T 0 (by omega)));have ag:=ae ax;have aU:=ae aF;have ai:=ae Q;have aW:=ae aG;have H:=ae (show n.j=jb from g1);have aV:=ae (show n.K.d=K.d by rw[g2];exact e1);have x:=ae U;have HN:=ae (tn f);clear Z m hj g1 g2 g3 ax aF Q aG T U e1 e2 az;go_wp2_with fail;refine HN.out.mono ?_;rintro e l ⟨rfl,O,z⟩;obtain⟨s,u⟩:=aQ (l.alloc (.cells #[.int .i64 (c:Int),.slice (some ⟨f.heap.size+1,0,none⟩) 8 8,.slice none 0 0,.slice none 0 0,.pointer (some ⟨jb,0,none⟩)] 93));have o:Below f.heap.size f s:=by rw[u];exact z.alloc z.size _
 have ao:Below l.heap.size l s:=by rw[u];exact aI _ _
 have P:=O.keep (ao.block _ O.lt)
 have aJ:NJ s (f.heap.size+1):=⟨_,_,_,P,yJ,by decide,by decide⟩
 have J:UAt s n l.heap.size (cO M).1 ⟨c,.new,⟨0,[],false⟩⟩:=
  ⟨⟨_,_,_,_,_,_,by rw[H.out,u];exact Blk.new _ _ _,El P aJ⟩,ag.out.kept o,aU.out.keep fun b t=>o.block b (ag.out.lt b t),aW.out⟩
 have C:=x.out.size;have aa:=ae (tG s (cd aM.out (by omega) o) (by have:=o.size;omega) n l.heap.size _ _ J aP.out k9);have ab:=ae J;have aZ:=ae u;have Y:=ae o;have aX:=ae z.size;clear HN O z u o ao P aJ J C;go_wp2_with fail;rw[<- aZ.out];refine aa.out.mono ?_;rintro e D ⟨⟨r4,rfl,V⟩,N⟩;have y:=ab.out.keep N;have ay:=ab.out.jat.lt;have al:aO (fun q=>s.heap.size <= q /\ q<D.heap.size) D r4 p:=by rw[<- aY.out];exact aO.of_owns V _ fun q m h2=>⟨m,h2⟩
 have L:Below f.heap.size f D:=Y.out.trans (N.mono Y.out.size)
 have E:=ae (by
  have C:=x.out.size;have hA:=nu D n (cO M).1 ⟨0,[],false⟩ y.jat _ _ p al (fun q k=>⟨k.2,fun g=>by have:=ay q g;omega⟩) (fun I=>by have:=y.low 0 I;omega) (aL.out.keep (L.block 0 (by omega))) (by have:=Hw.out;have:=aS.out.2;omega);rw[H.out] at hA
  exact hA)
 obtain⟨r,hr⟩:=aH (bQ (cO M).1 ⟨0,[],false⟩ p);rw[hr] at E G;obtain⟨M5,J5,er⟩:=r;have a1:er=0:=by have h:=Ha.out;rw[G.out] at h;exact h
 subst a1;have aN:=ae y;have ad:=ae L;obtain⟨a4,c4,rfl⟩:=aK V;clear aa y ay al L V N hr;go_wp2_with fail;refine E.out.mono ?_;rintro e w5 ⟨rfl,a7,k1,k2,k3,k4,X⟩;have C:=x.out.size;have a2:=ad.out.size;obtain⟨a0,l1,l2,l3,an⟩:=aN.out.moved X k3 (k1.trans H.out.symm) k4 (by omega)
 have aR:=ae (show xz w K (ip M c) (.returned (.tuple #[.pointer (some ⟨l.heap.size,0,none⟩),.int .i64 0])) w5 from by
  rw[G.out];refine⟨l.heap.size,a0,rfl,by rw[l2,k2];exact aV.out,an,fun q k=>?_,by have:=aX.out;omega,?_⟩
  ·rcases l3 q k with h|h
   ·exact ai.out q h
   ·right;omega
  ·exact(x.out.trans (aT.of_below (F:=none_) ad.out) fun _ B=>B.elim).trans X ai.out)
 clear E k1 k2 k3 k4 X l1 l2 l3 an C a2;go_wp2_with fail;exact bodyPost_ret (v:=.tuple #[.pointer (some ⟨l.heap.size,0,none⟩),.int .i64 0]) (by simp[results,results12,go_sem]) rfl aR.out
end
section
open Go.ChangeShapes Go.WideShapes Go.ChangeAt
attribute [local go_sem] opC upC
end
section
open Go.ChangeShapes Go.WideShapes Go.ChangeAt
end
section
open Go.Maps Go.WideMaps
attribute [local go_sem] opC upC told bG br bH bt bw bI bJ
abbrev Em(n:Int):DataW Unit:=.lit (.int .i64 n)
theorem En:Keyed aE 9:=string_keyed underlying9
theorem DU:(zeroValue 3).run aE w=.ok (.int .i64 0) w:=by kernel_rfl
def se(m:aU)(l:List RIt)(k:bR):Int:=((l.filter fun x=>decide (x.key=k)).map (kI m)).sum
theorem CH(k:bR):se m m.items k=A8 m k:=rfl
theorem A1(l:List RIt)(x:RIt)(k:bR):se m (l++[x]) k=se m l k+if x.key=k then kI m x else 0:=by
 unfold se;rw[List.filter_append,List.map_append,List.sum_append]
 by_cases h:x.key=k<;>simp[h]
structure uW(m:aU)(k:Nat)(D:DataW Unit):Prop where
 isMap:IsMap D
 at_:∀key:bR,D.atKey (.string key) (Em 0)=Em (se m (m.items.take k) key)
 has_:∀key:bR,Maps.has D (.string key)=(m.items.take k).any fun x=>decide (x.key=key)
theorem uW.start:uW m 0 (.map []):=⟨isMap_empty,fun _=>rfl,fun _=>rfl⟩
theorem uW.step{D:DataW Unit}(h:uW r i D)(b:i<r.items.length):uW r (i+1) (D.put (.string r.items[i].key) (Em (se r (r.items.take i) r.items[i].key+kI r r.items[i]))):=by
 refine⟨h.isMap.put _ _,fun a=>?_,fun a=>?_⟩
 ·rw[List.take_succ_eq_append_getElem b,A1]
  by_cases e:r.items[i].key=a
  ·subst e;rw[atKey_put_same h.isMap (by trivial),if_pos rfl]
  ·rw[atKey_put_other (by simpa using fun h=>e h.symm),h.at_,if_neg e,Int.add_zero]
 ·rw[List.take_succ_eq_append_getElem b,List.any_append]
  by_cases e:r.items[i].key=a
  ·subst e;rw[has_put_same h.isMap (by trivial)];simp
  ·rw[has_put_other (by simpa using fun h=>e h.symm),h.has_];simp[e]
theorem xB(f:ew r){x:RIt}(a:x∈r.items):0 <= kI r x /\ kI r x <= 16777216:=by
 refine⟨tW r x,?_⟩;have b:=f.val x a;unfold kI xG;rw[DM.bnd_id x.val (by omega) (by omega)];have:=DM.aft_le (r.seen.getD x.dev.toNat 0-x.seq).toNat x.val (by omega);omega
theorem zJ(m:aU)(k:bR):∀l:List RIt,(∀x∈l,0 <= kI m x /\ kI m x <= 16777216) -> 0 <= se m l k /\ se m l k <= 16777216*l.length
 |[],_=>by simp[se]
 |x::l,h=>by
  have c:=h x List.mem_cons_self;have a:=zJ m k l fun y b=>h y (List.mem_cons_of_mem _ b)
  unfold se at a⊢;rw[List.filter_cons];split
  ·rw[List.map_cons,List.sum_cons,aD];omega
  ·rw[aD];omega
def CJ(w:World)(m:aU)(e:Ending)(a:World):Prop:=
 (∃B D,e=.returned (.map (some B)) /\ w.heap.size <= B /\ a.ownsMap aE 9 (plainElem (H:=Unit) aE 3) B m.items.length D /\ uW m m.items.length D) /\ Below w.heap.size w a
theorem CK(h:dl F w v m)(f:ew m)(hl:m.items.length <= 1000000):
 Calls aE 84 #[v] w (CJ w m):=by
 replace h:=h.mono (G:=fun b=>b<w.heap.size) fun b _ aP=>aP
 replace h:=j8 h 37
 obtain⟨a1,p1,a2,p2,a3,p3,n1,n,n3,o,rfl,h,l1,l2,l3,ax,L,bd,bk,ba,M,Hx,ay,c0,c1,c2⟩:=h
 try rw[ax.out]
 try rw[L.out]
 try rw[bd.out]
 rw[L.out] at hl;clear h;obtain⟨w2,I⟩:=aQ (o.alloc (.map #[] 0));have bp:=@run_makeMap aE;have a4:w2.heap.size=w.heap.size+2:=by rw[I];simp[M.out]
 have aK:Below (w.heap.size+1) o w2:=by rw[I];exact(Below.refl _ _).alloc (by rw[M.out];exact aq _) _
 have aT:w2.ownsMap aE 9 (plainElem (H:=Unit) aE 3) (w.heap.size+1) 0 (.map []):=by
  have:=World.ownsMap_made (H:=Unit) o aE 9 (plainElem aE 3);rw[I,<- M.out];exact this
 have HM:=ae (show ∀W,Below (w.heap.size+1) o W -> (W.cell? ⟨w.heap.size,0,none⟩=some (.slice a1 n1 p1) /\ W.cell? ⟨w.heap.size,1,none⟩=some (.slice a2 n p2) /\ W.cell? ⟨w.heap.size,2,none⟩=some (.slice a3 n3 p3)) /\ cG (fun b=>b<w.heap.size) W (.slice a1 n1 p1) (.slice a2 n p2) (.slice a3 n3 p3) m from fun W l=>
  ⟨aS (ay.out.keep (l.block _ (by omega))),Hx.out.keep fun b bB aP=>l.block b (by omega)⟩)
 have bi:=ae I;have a7:=ae aK;have bl:=ae a4;have be:=ae aT;have A:=ae f;clear I aK a4 aT f Hx ay
 go_enter func84,ntmps84
 go_wp2_with fail;rw[<- bk.out,<- bi.out];clear bp
 go_loopw [10] (fun i wr=>∃(k:Nat)(D:DataW Unit),k <= n /\ i=.int .i64 (k:Int) /\ Below (w.heap.size+1) o wr /\ w.heap.size+2 <= wr.heap.size /\ wr.ownsMap aE 9 (plainElem aE 3) (w.heap.size+1) k D /\ uW m k D) (fun i _=>n-(intOf i).toNat)
 case atStart=>exact⟨0,_,by omega,rfl,a7.out,by rw[bl.out];exact aq _,be.out,uW.start m⟩
 case round=>
  obtain⟨k,D,hk,rfl,aM,aW,aR,hD⟩:=hrel;have K:=ae aM;have az:=ae aR;have U:=ae hD;have bh:=ae aW;clear aM aR hD aW c0 c1 c2
  by_cases bn:k<n
  ·have bm:(k:Int)<(n:Int):=by omega
   have r:k<m.items.length:=by rw[L.out];exact bn
   obtain⟨⟨d0,d1,d2⟩,O⟩:=HM.out wr K.out;obtain⟨b,bH,rfl,-,-,hc⟩:=fB O.items (by omega);obtain⟨e0,e1,e2,e3⟩:=hc k r;have t:=U.out.step r;obtain⟨x,hx⟩:=aH m.items[k];rw[hx] at e0 e1 e2 e3 t;have S:x∈m.items:=by rw[<- hx];exact aC r
   obtain⟨k1,k2,k3,k4⟩:=eQ (A.out.iknown x S);obtain⟨q,hq⟩:=Int.eq_ofNat_of_zero_le k1;have ak:x.dev=(q:Int):=hq;have al:q<m.seen.length:=by rw[hq] at k2;omega
   have bC:q<8:=by have:=A.out.len;omega
   obtain⟨bs,os,rfl,-,-,aN⟩:=ie O.seen (by omega);have Y:=aN q al;obtain⟨s,P⟩:=aH m.seen[q];rw[P] at Y
   have aa:m.seen.getD x.dev.toNat 0=s:=by
    rw[ak,Int.toNat_natCast,List.getD_eq_getElem?_getD,List.getElem?_eq_getElem al,P];rfl
   have bq:=A.out.seen s (by rw[<- P];exact aC al);have a6:x.seq <= s:=by rw[<- aa];exact k4
   have a5:1 <= x.seq:=k3;have a0:=xB A.out S;have Q:kI m x=DM.aft (s-x.seq).toNat (DM.bnd x.val):=by unfold kI xG;rw[aa]
   have ao:=zJ m x.key (m.items.take k) (fun y hy=>xB A.out (List.mem_of_mem_take hy));have aY:(m.items.take k).length=k:=by rw[List.length_take];omega
   rw[aY] at ao;have N:=U.out.at_ x.key;obtain⟨c,aO⟩:=aH (se m (m.items.take k) x.key);rw[aO] at N ao t;obtain⟨u,hu⟩:=aH (kI m x);rw[hu] at a0 Q t;obtain⟨z,xd,J,xv⟩:=x;dsimp only at e0 e1 e2 e3 ak t N Q a6 a5;subst ak;have ag:=(O.itemsB _ S).1;dsimp only at ag;have ad:keyOf aE 9 (.string ⟨z.toArray⟩)=some (.string z):=keyOf_string_mk underlying9 (show z.toArray.size <= maxLen by unfold maxLen;simpa using ag);obtain⟨g,R⟩:=aQ (wr.alloc (.cells #[.string ⟨z.toArray⟩,.int .i64 (q:Int),.int .i64 J,.int .i64 xv] 108));have E:Below wr.heap.size wr g:=by rw[R];exact aI _ _
   have aG:Blk g wr.heap.size [.string ⟨z.toArray⟩,.int .i64 (q:Int),.int .i64 J,.int .i64 xv] 108:=by rw[R];exact Blk.new _ _ _
   have hz:w.heap.size+2 <= wr.heap.size:=bh.out
   have ar:=ae (show ∀d,aJ g.drew d -> d.ownsMap aE 9 (plainElem (H:=Unit) aE 3) (w.heap.size+1) k D from fun d hh=>by
    have l:Below wr.heap.size wr d:=E.trans (((Below.refl _ _).drew.trans hh).mono E.size)
    exact az.out.kept (row:=none) ⟨l.os,l.tape,l.output,l.size,fun i hi _=>l.block i hi⟩ (by simp))
   have bo:∀d,aJ g.drew d -> (Instr.lookup 134 (.map (some (w.heap.size+1))) (.string ⟨z.toArray⟩) false).run aE d=.ok (.int .i64 c) d:=fun d hh=>by
    obtain⟨c',an,p,-⟩:=(ar.out d hh).lookup_int En underlying134 underlying3 (DU d) ad;rw[N] at p;injection p with p
    injection p with _ p
    rw[an,p]
   obtain⟨x0,x1,x2,x3⟩:=dX aG;have ai:∀{a:Addr}{u:Value},wr.cell? a=some u -> g.cell? a=some u:=fun{a u} h=>(E.cell (il h)).trans h
   have bv:∀d,aJ g.drew d -> d.cell? _=_:=fun d hh=>aZ x0 hh
   have bw:∀d,aJ g.drew d -> d.cell? _=_:=fun d hh=>aZ x1 hh
   have bx:∀d,aJ g.drew d -> d.cell? _=_:=fun d hh=>aZ x2 hh
   have bz:∀d,aJ g.drew d -> d.cell? _=_:=fun d hh=>aZ x3 hh
   have bu:∀d,aJ g.drew d -> d.cell? _=_:=fun d hh=>aZ (ai d0) hh
   have bt:∀d,aJ g.drew d -> d.cell? _=_:=fun d hh=>aZ (ai Y) hh
   have hA:=tg xv (s-J) g.drew (by omega);rw[<- Q] at hA;have HA:=ae hA;have bF:IntKind.i64.wrap (s-J)=s-J:=af _ (by omega);have bG:IntKind.i64.wrap (c+u)=c+u:=af _ (by omega);have bE:IntKind.i64.wrap (q:Int)=(q:Int):=af _ (by omega);have bD:(q:Int)<(n1:Int):=by have:=ax.out;omega
   have bg:=ae t;have bj:=ae R;have V:=ae E;have bc:=ae ad;have bb:=ae (show -9223372036854775808 <= c+u /\ c+u <= 9223372036854775807 by omega);clear hc aN hx P aa bq k1 k2 k3 k4 a5 a6 a0 Q ao aY N aO hu ag ad R E aG hA t x0 x1 x2 x3 Y d0 d2 ai hq O S;go_wp2_with fail;rw[<- bj.out];refine dP aJ 17 (up 15 [515,16,517]) (by kernel_rfl) ?_;apply bM;rfl;intro d hC;go_simp;(repeat (simp(disch:=omega) only[af,if_pos];go_simp));exact aF;refine cU rfl rfl (fun X B=>?_);go_simp;refine HA.out.mono ?_;rintro e T ⟨rfl,C⟩;refine⟨_,rfl,C,B _ _ ?_⟩;clear B X HA bv bw bx bz bu bt bo;go_simp;obtain⟨w5,an,aV,ab⟩:=(ar.out T C).update En underlying134 (by unfold maxLen;omega) bc.out (plainElem_int underlying3 (a:=c+u) (WalkArith.wf_i64 bb.out))
   have br:w.heap.size+2 <= w5.heap.size:=by
    have Z:=V.out.size;have h2:g.drew.heap.size <= T.heap.size:=RowKit.Below.size C;have bA:g.heap.size <= T.heap.size:=h2;have h3:=ab.size;omega
   have aL:Below (w.heap.size+1) o w5:=by
    have Z:Below (w.heap.size+1) o T:=K.out.trans ((V.out.mono (by omega)).trans (((Below.refl _ _).drew.trans C).mono (show w.heap.size+1 <= g.heap.size by have:=V.out.size;omega)));exact Z.grown ab (au (by have:=K.out.size;have:=M.out;omega) Z.size) (fun j hj=>by cases hj;exact aq _)
   have bf:=ae aV;have a8:=ae aL;clear aV aL ab C;apply bM;rfl;intro d hC;go_simp;(repeat (simp(disch:=omega) only[af,if_pos];go_simp));exact aF;refine cZ rfl rfl rfl (fun X B=>?_);go_simp;refine B _ _ ?_;clear B X;go_simp;refine dt ?_;clear an;go_wp2_with fail
   go_roundw
   case rel=>exact⟨k+1,_,by omega,by go_num,a8.out,br,bf.out,bg.out⟩
   case measure=>simp[intOf];omega
  ·have bm:¬(k:Int)<(n:Int):=by omega
   have r:k=m.items.length:=by rw[L.out];omega
   have av:=ae (show wr.ownsMap aE 9 (plainElem aE 3) (w.heap.size+1) m.items.length D /\ uW m m.items.length D from by rw[<- r];exact⟨az.out,U.out⟩);have a9:=ae (ba.out.trans (K.out.mono (Nat.le_succ _)));clear r;go_wp2_with fail
   go_ret
   exact⟨⟨_,D,rfl,Nat.le_succ _,av.out.1,av.out.2⟩,a9.out⟩
theorem nI(E:eJ w)(h3:4 <= w.heap.size)(F:aX)(v:Value)(m:aU)(h:dl F w v m)(L:∀x∈m.items,x.key.length <= 1000000)(K:∀x∈m.gone,x.key.length <= 1000000)(a:bR)(hk:a.length <= 9223372036854775807):
 Calls aE 42 #[v,.string ⟨a.toArray⟩] w fun e T=>e=.returned (.int .i64 (lR m a)) /\ Below w.heap.size w T:=by
 replace h:=h.mono (G:=fun b=>b<w.heap.size) fun b _ n=>n
 replace h:=j8 h 37
 obtain⟨y,Q,z,R,A,S,N,O,P,wx,rfl,h,l1,l2,l3,X,Y,Z,aa,l,ad,u,s,c0,c1,c2⟩:=h
 try rw[X.out]
 try rw[Y.out]
 try rw[Z.out]
 clear h;have j:=ae (kQ wx (cd E h3 l.out) (by rw[ad.out];omega) _ (.agg #[.slice y N Q,.slice z O R,.slice A P S]) m ⟨_,_,_,rfl,u.out⟩ L K);obtain⟨ok,o⟩:=aH (bp m);obtain⟨r,p⟩:=aH (lR m a);rw[o] at j;rw[p];have g:=ae o;have t:=ae p;have J:keyOf aE 9 (.string ⟨a.toArray⟩)=some (.string a):=keyOf_string_mk underlying9 (show a.toArray.size <= maxLen by unfold maxLen;simpa using hk);have W:=ae J;clear o p E L K c0 c1 c2 J
 go_enter func42,ntmps42
 go_wp2_with fail;rw[<- aa.out];refine j.out.mono ?_;rintro e U ⟨rfl,i⟩;have k:=ae (l.out.trans (i.mono l.out.size));obtain⟨d0,d1,d2⟩:=aS (s.out.keep (i.block _ s.out.lt));have ab:=ae (u.out.keep (w':=U) fun b _ n=>i.block b n);clear j i;cases ok with
 |false=>
  obtain rfl:r=0:=by rw[<- t.out];unfold lR;rw[g.out];rfl
  go_wp2_with fail
  go_ret
  exact⟨rfl,k.out⟩
 |true=>
  have f:=cq g.out;have q:=ae (CK U _ (.agg #[.slice y N Q,.slice z O R,.slice A P S]) m ⟨_,_,_,rfl,ab.out⟩ f (by have:=(dr g.out).2.1;omega));clear f;go_wp2_with fail;refine q.out.mono ?_;rintro e w4 ⟨⟨B,D,rfl,-,M,C⟩,I⟩;obtain⟨c,ag,H,-⟩:=M.lookup_int En underlying134 underlying3 (DU w4) W.out
  have hc:c=r:=by
   have d:=C.at_ a;rw[H,List.take_length,CH] at d;injection d with d
   injection d with _ d
   rw[d,<- t.out];unfold lR;rw[g.out];rfl
  subst hc;have V:=ae (k.out.trans (I.mono k.out.size));clear M H C I q;go_wp2_with fail
  go_ret
  exact⟨rfl,V.out⟩
/- works: the chapter's first example. -/
end
abbrev exK:bR:=[49,97,0,98]
theorem A2(k:bR):dw [k] = [k]:=List.mergeSort_singleton k
structure A3(M:MD)(U:MU)(n:Nat):Prop where
 fault:M.fault=none
 down:M.down=false
 dead:U.J.dead=false
 gen:U.J.g=0
 room:aM U.J.L+n <= aW M.S.length
theorem zd{U:MU}(h:A3 N U i)(s:l.length <= 48)(t:1 <= i)(x:aU):
 (mH N U l x).2.2=0 /\ A3 (mH N U l x).1 (mH N U l x).2.1 (i-1):=by
 obtain⟨S,down,r,k⟩:=N;obtain⟨d,m,⟨g,L,q⟩⟩:=U;obtain⟨a,c,e,f,j⟩:=h;dsimp only at a c e f j;subst a c e f;have u:takes l.length=1:=by unfold takes;omega
 have o:bQ ⟨S,false,none,k⟩ ⟨0,L,false⟩ l=(upM (df S (aP S.length 0 L.length (aM L) l)) (k+(aP S.length 0 L.length (aM L) l).length),⟨0,L++[l],false⟩,0):=by
  unfold bQ;rw[if_neg (by simp),if_neg (by omega),if_neg (by show ¬aW S.length-aM L<_;omega)];dsimp only;have p:bh ⟨S,false,none,k⟩ (aP S.length 0 L.length (aM L) l)=(upM (df S (aP S.length 0 L.length (aM L) l)) (k+(aP S.length 0 L.length (aM L) l).length),0):=f9 _ _ _;rw[p,if_pos rfl]
 unfold mH;rw[o,if_pos rfl];refine⟨rfl,rfl,rfl,rfl,rfl,?_⟩;show aM (L++[l])+(i-1) <= aW (df S _).length;rw[gH];have:aM (L++[l])=aM L+takes l.length:=by unfold aM;simp
 omega
theorem tN{U:MU}{b:List UInt8}(h:A3 N U i)(a:b.length <= 48)(c:1 <= i)(x:aU):(dV N U b x).2.2=0 /\ A3 (dV N U b x).1 (dV N U b x).2.1 (i-1):=by
 have d:=h.room
 have:¬qN N U.J<(b.length:Int):=by
  unfold qN;rw[if_neg (by omega)];omega
 unfold dV;rw[if_neg this];exact zd h a c x
theorem CL(n d:Nat)(h:8 <= n)(q:n <= 65536)(f:d<8):(cO (MD.fresh n)).2=0 /\ (ip (MD.fresh n) d).2.2=0 /\ lF (ip (MD.fresh n) d).1 (ip (MD.fresh n) d).2.1 /\ A3 (ip (MD.fresh n) d).1 (ip (MD.fresh n) d).2.1 (aW n-1) /\
 (ip (MD.fresh n) d).2.1.m=.new /\ (ip (MD.fresh n) d).2.1.dev=d /\ (ip (MD.fresh n) d).1.S.length=n /\ (ip (MD.fresh n) d).1.writes <= 200000:=by
 have l:cO (MD.fresh n)=(upM (df (List.replicate n (List.replicate 64 0)) (eN n++[(0,cP 0)])) (0+(eN n++[(0,cP 0)]).length),0):=by
  rw[j1,show(MD.fresh n).S.length=n by simp[MD.fresh]];exact f9 _ _ _
 have t:(eN n++[(0,cP 0)]).length=n+1:=by simp[eN]
 have e:=AC n h q;have a:(df (List.replicate n (List.replicate 64 (0:UInt8))) (eN n++[(0,cP 0)])).length=n:=by rw[gH];simp
 have r:(fo d .new).length <= 48:=by
  rcases(by omega:d=0 \/ d=1 \/ d=2 \/ d=3 \/ d=4 \/ d=5 \/ d=6 \/ d=7) with rfl|rfl|rfl|rfl|rfl|rfl|rfl|rfl<;>decide +kernel
 have s:takes (fo d .new).length=1:=by unfold takes;omega
 have hh:3 <= aW n:=by unfold aW;omega
 obtain⟨b,c⟩:=aH (fo d .new);unfold ip;rw[l,c];obtain⟨S,o⟩:=aH (df (List.replicate n (List.replicate 64 (0:UInt8))) (eN n++[(0,cP 0)]));obtain⟨k,p⟩:=aH (0+(eN n++[(0,cP 0)]).length);rw[o] at e a⊢;rw[p];rw[c] at r s
 have i:bQ (upM S k) ⟨0,[],false⟩ b=(upM (df S (aP S.length 0 0 0 b)) (k+(aP S.length 0 0 0 b).length),⟨0,[b],false⟩,0):=by
  unfold bQ;rw[if_neg (by simp),if_neg (by omega),if_neg (by show ¬aW S.length-aM []<_;rw[a];show ¬aW n-0<_;omega)];dsimp only;have g:bh (upM S k) (aP S.length 0 0 0 b)=(upM (df S (aP S.length 0 0 0 b)) (k+(aP S.length 0 0 0 b).length),0):=f9 _ _ _;show(if(bh (upM S k) (aP S.length 0 0 0 b)).2=0 then _ else _)=_;rw[g,if_pos rfl];show((bh (upM S k) (aP S.length 0 0 0 b)).1,(⟨0,[b],false⟩:MJ),(0:Int))=_;rw[g]
 dsimp only;rw[i];have j:Inv (df S (aP S.length 0 0 0 b)) 0 [b]:=kF (k:=k) (L:=[]) e (by show 0+_ <= _;rw[a];omega) (by omega);refine⟨rfl,rfl,⟨j,nofun,f,k9,?_⟩,⟨rfl,rfl,rfl,rfl,?_⟩,rfl,rfl,?_,?_⟩
 ·show ff [b]=_;rw[<- c];exact pO f k9
 ·show aM [b]+(aW n-1) <= aW (df S _).length;rw[gH,a];have:aM [b]=takes b.length:=by unfold aM;simp
  omega
 ·show(df S _).length=n;rw[gH,a]
 ·show k+_ <= _;have:(aP S.length 0 0 0 b).length=takes b.length:=fJ _ _ _ _ _;omega
def sM:aU:=⟨[0,0,0,1,0,0,0,0],[⟨exK,3,1,65536⟩],[]⟩
def xC:aU:=⟨[0,0,0,2,0,0,0,0],[],[⟨exK,3,1⟩]⟩
theorem e9:bp sM=true:=by decide +kernel
theorem jM:bp xC=true:=by decide +kernel
theorem tP:di 3 [exK]=true:=by decide +kernel
theorem zK:fK .new 3 [exK]=(sM,0):=by
 have e:gz .new 3 [exK]=sM:=by
  unfold gz;rw[A2];show aU.mk _ (cE RIt.pl _ [] _) _=_;rw[fy];rfl
 unfold fK;rw[if_pos k9,if_pos tP,e];exact if_pos e9
theorem sf:cH sM 3 [exK]=(xC,0):=by
 have e:dg sM 3 [exK]=xC:=by
  unfold dg;show aU.mk _ _ (cE RGo.pl _ [] _)=_;rw[fy];rfl
 unfold cH;rw[if_pos e9,if_pos tP,e];exact if_pos jM
theorem xD:lR sM exK=65536:=by
 unfold lR;rw[if_pos e9]
 decide +kernel
theorem CM:lR xC exK=0:=by
 unfold lR;rw[if_pos jM]
 decide +kernel
structure EP(M0:MD)(U0:MU)(M1:MD)(U1:MU)(M2:MD)(U2:MU):Prop where
 form:ip (MD.fresh 40) 3=(M0,U0,0)
 fmt:(cO (MD.fresh 40)).2=0
 learn:lu M0 U0 [exK]=(M1,U1,0)
 opened:eh M1=.inl ⟨U1.dev,U1.m,⟨U1.J.g,U1.J.L,false⟩⟩
 drop:nX M1 ⟨U1.dev,U1.m,⟨U1.J.g,U1.J.L,false⟩⟩ [exK]=(M2,U2,0)
 dev0:U0.dev=3
 m0:U0.m=.new
 dev1:U1.dev=3
 m1:U1.m=sM
 m2:U2.m=xC
 w0:M0.writes <= 200000
 w1:M1.writes <= 400000
 n1:M1.S.length=40
theorem A4:(fI [exK]).length <= 40:=by decide +kernel
theorem EQ:∃n d i a t p,EP n d i a t p:=by
 obtain⟨D,u,v,a4,q,o,A,w⟩:=CL 40 3 (by decide) (by decide) (by decide);obtain⟨⟨n,d,R⟩,C⟩:=aH (ip (MD.fresh 40) 3);rw[C] at u v a4 q o A w;dsimp only at u v a4 q o A w;have hh:aW 40-1=18:=by decide
 rw[hh] at a4;have S:=A4;have c:=yR (l:=[exK]) v a4.dead a4.down (by rw[a4.gen];decide) (by decide) (fun k j=>by rw[List.mem_singleton.1 j];decide) (by omega)
 have N:lu n d [exK]=dV n d (xW [exK]) sM:=by
  unfold lu fj;rw[q,o,show((3:Nat):Int)=3 from rfl,zK,if_neg (by rw[a4.dead];decide),if_neg (by simp)];rfl
 obtain⟨r,e⟩:=tN (b:=xW [exK]) a4 (by unfold xW;rw[aD];omega) (by decide) sM;obtain⟨⟨i,a,E⟩,y⟩:=aH (lu n d [exK]);rw[<- N,y] at r e;rw[y] at c;dsimp only at r e
 have z:a.m=sM:=by
  rcases c.out with⟨-,h,-⟩|⟨h,-⟩|⟨h,-⟩
  ·have f:a.m=pC d.m (fK d.m d.dev [exK]) [exK]:=h;rw[f,q,o,show((3:Nat):Int)=3 from rfl,zK];exact if_pos ⟨rfl,by simp⟩
  ·exact absurd r h
  ·have f:E=341:=h;rw[r] at f;exact absurd f (by decide)
 have x:a.dev=3:=c.dev.trans o;have K:=c.inv.opened e.down
 have H:A3 i ⟨a.dev,a.m,⟨a.J.g,a.J.L,false⟩⟩ (18-1):=⟨e.fault,e.down,rfl,e.gen,e.room⟩
 have G:lF i ⟨a.dev,a.m,⟨a.J.g,a.J.L,false⟩⟩:=⟨c.inv.inv,c.inv.torn,c.inv.ok.dev,c.inv.ok.valid,c.inv.ok.fold⟩
 have B:=AF (l:=[exK]) G rfl e.down (by show a.J.g+1<_;rw[e.gen];decide) (by decide) (fun k j=>by rw[List.mem_singleton.1 j];decide) (by omega);obtain⟨⟨t,p,F⟩,j⟩:=aH (nX i ⟨a.dev,a.m,⟨a.J.g,a.J.L,false⟩⟩ [exK])
 have O:nX i ⟨a.dev,a.m,⟨a.J.g,a.J.L,false⟩⟩ [exK]=dV i ⟨a.dev,a.m,⟨a.J.g,a.J.L,false⟩⟩ (lr [exK]) xC:=by
  unfold nX fj;dsimp only;rw[z,x,show((3:Nat):Int)=3 from rfl,sf,if_neg (by decide),if_neg (by simp)];rfl
 obtain⟨s,Q⟩:=tN (b:=lr [exK]) H (by unfold lr;rw[aD];omega) (by decide) xC;rw[<- O,j] at s;rw[j] at B;dsimp only at s
 have I:p.m=xC:=by
  rcases B.out with⟨-,h,-⟩|⟨h,-⟩|⟨h,-⟩
  ·have f:p.m=pC a.m (cH a.m a.dev [exK]) [exK]:=h;rw[f,z,x,show((3:Nat):Int)=3 from rfl,sf];exact if_pos ⟨rfl,by simp⟩
  ·exact absurd s h
  ·have f:F=341:=h;rw[s] at f;exact absurd f (by decide)
 have P:=c.writes;have M:=c.size;dsimp only at P M;exact⟨n,d,i,a,t,p,by rw[C,u],D,by rw[y,r],K,by rw[j,s],o,q,x,z,I,w,by omega,by omega⟩
section
open Go.ChangeShapes Go.WideShapes Go.Lib
theorem DV:aE.globalNamed "henkan/crc.quarter"=some 0:=by kernel_rfl
theorem Eo:(aE.globals[0]?).map (·.type)=some 260:=by kernel_rfl
theorem DE:aE.cellsOf 260=16:=by kernel_rfl
theorem Ep:aE.cellsOf 96=1:=by kernel_rfl
theorem DF:aE.underlying 260=some (.array 16 96):=by kernel_rfl
theorem eu:aE.underlying 96=some (.int .u32):=by kernel_rfl
theorem dj{H:Type}{a:TypeId×Value -> H}{P:Program}{e:Nat -> Bool}{b:Bool}{k:IntKind}{y:DataW H×List MemPlace}
 (d:P.underlying t=some (.int k)) (h:DataW.trod a P W i e b j t [u]=some y):∃n,u=.int k n /\ y=(.lit (.int k n),[]):=by
 cases j with
 |zero=>simp[DataW.trod] at h
 |succ j=>
  cases u<;>simp[DataW.trod,d] at h
  rename_i f n;obtain⟨⟨rfl,_⟩,rfl⟩:=h;exact⟨n,rfl,rfl⟩
abbrev laidQ:List (String×DataW Unit):=[("henkan/crc.quarter",Rows.laid_henkan_crc_quarter),("unicode/utf8.acceptRanges",Rows.laid_unicode_utf8_acceptRanges),("unicode/utf8.first",Rows.laid_unicode_utf8_first)]
theorem A5:Rows.laid_unicode_utf8_acceptRanges (H:=Unit)=Lib.acceptData:=by kernel_rfl
theorem CN:Rows.laid_unicode_utf8_first=Lib.firstData:=by kernel_rfl
theorem sN(h:laidMet aE laidQ W):W.var? aE "henkan/crc.quarter"=some iq.toArray:=by
 obtain⟨g,t,z,x,p,Q,S,T,a⟩:=Lib.laidMet.reads h (.head _);obtain rfl:=Option.some.inj (DV.symm.trans Q);obtain rfl:=Option.some.inj (Eo.symm.trans S);rw[T]
 congr 1
 obtain⟨l⟩:=z;cases x with
 |zero=>simp[DataW.trod] at a
 |succ x=>
  simp only[DataW.trod,DF,DE,Ep] at a;split at a
  ·rename_i R
   obtain⟨b,c,n,o,q,r,s,u,v,w,d,f,i,j,k,m,rfl⟩:∃b c n o q r s u v w d f i j k m,l = [b,c,n,o,q,r,s,u,v,w,d,f,i,j,k,m]:=by
    match l,R with
    |[b,c,n,o,q,r,s,u,v,w,d,f,i,j,k,m],_=>exact⟨b,c,n,o,q,r,s,u,v,w,d,f,i,j,k,m,rfl⟩
   have e:List.range 16 = [0,1,2,3,4,5,6,7,8,9,10,11,12,13,14,15]:=rfl;rw[e] at a;simp only[Option.map_eq_some_iff,List.mapM_cons,List.mapM_nil,Option.bind_eq_bind,Option.bind_eq_some_iff,Option.pure_def,Option.some.injEq] at a;obtain⟨xs,⟨y0,A,_,⟨y1,B,_,⟨y2,I,_,⟨y3,J,_,⟨y4,K,_,⟨y5,L,_,⟨y6,M,_,⟨y7,N,_,⟨y8,O,_,⟨y9,P,_,⟨ag,C,_,⟨ai,D,_,⟨ak,E,_,⟨al,F,_,⟨an,G,_,⟨ao,H,_,rfl,rfl⟩,rfl⟩,rfl⟩,rfl⟩,rfl⟩,rfl⟩,rfl⟩,rfl⟩,rfl⟩,rfl⟩,rfl⟩,rfl⟩,rfl⟩,rfl⟩,rfl⟩,rfl⟩,y⟩:=a;obtain⟨U,rfl,rfl⟩:=dj eu A;obtain⟨V,rfl,rfl⟩:=dj eu B;obtain⟨n2,rfl,rfl⟩:=dj eu I;obtain⟨n3,rfl,rfl⟩:=dj eu J;obtain⟨n4,rfl,rfl⟩:=dj eu K;obtain⟨n5,rfl,rfl⟩:=dj eu L;obtain⟨n6,rfl,rfl⟩:=dj eu M;obtain⟨n7,rfl,rfl⟩:=dj eu N;obtain⟨n8,rfl,rfl⟩:=dj eu O;obtain⟨n9,rfl,rfl⟩:=dj eu P;obtain⟨X,rfl,rfl⟩:=dj eu C;obtain⟨Y,rfl,rfl⟩:=dj eu D;obtain⟨Z,rfl,rfl⟩:=dj eu E;obtain⟨aa,rfl,rfl⟩:=dj eu F;obtain⟨ab,rfl,rfl⟩:=dj eu G;obtain⟨ad,rfl,rfl⟩:=dj eu H;simp[Rows.laid_henkan_crc_quarter] at y;obtain⟨⟨rfl,rfl,rfl,rfl,rfl,rfl,rfl,rfl,rfl,rfl,rfl,rfl,rfl,rfl,rfl,rfl⟩,_⟩:=y;rfl
  ·cases a
theorem qi(h:laidMet aE laidQ W):de W:=by
 have a:=sN h;unfold World.var? at a;rw[DV] at a;simp only[Option.bind_some] at a;split at a
 ·rename_i c t d b;obtain rfl:=Option.some.inj a;exact⟨_,_,b⟩
 ·cases a
theorem uX(h:laidMet aE laidQ W):eJ W /\ 4 <= W.heap.size:=by
 have a:=Lib.laidMet.reads h (.tail _ (.tail _ (.head _)));have b:=Lib.laidMet.reads h (.tail _ (.head _));rw[CN] at a;rw[A5] at b;have c:eJ W:=utf8Tabs_of_readsT (U8Types.of196 Tryz.laysValid) ⟨by kernel_rfl,by kernel_rfl,by kernel_rfl,by kernel_rfl,by kernel_rfl,by kernel_rfl,by kernel_rfl⟩ a b;refine⟨c,?_⟩;have d:=(c.2 0 (by decide)).1;have e:Tryz.laysValid_ren.g 4=3:=by decide
 rw[e] at d;have k:W.heap[3]?≠none:=fun f=>by simp[World.cell?,f] at d
 have:=Array.getElem?_eq_none_iff (xs:=W.heap) (i:=3)
 by_cases j:W.heap.size <= 3
 ·exact absurd (this.2 j) k
 ·omega
def jN(w:World):Prop:=de w /\ eJ w /\ 4 <= w.heap.size
theorem all_of_laid(h:laidMet aE laidQ W):jN W:=⟨qi h,uX h⟩
theorem jN.below(h:jN W)(a:Below W.heap.size W w'):jN w':=
 ⟨h.1.keep (a.block 0 (by have:=h.2.2;omega)),cd h.2.1 h.2.2 a,au h.2.2 a.size⟩
noncomputable def laidWorld(f:Os):World:=
 let w0:=World.holding aE f ⟨#[],#[],[]⟩
 let put (h:Array Obj) (g:Nat) (a:Array Value):Array Obj:=h.modify g fun
  |.cells _ t b=>.cells a t b
  |o=>o
 let c:=put w0.heap 0 iq.toArray
 let d:=put c (Tryz.laysValid_ren.g 3) (Lib.firstTab.map fun z=>Value.int .u8 z).toArray
 let e:=put d (Tryz.laysValid_ren.g 4) ((List.range 16).flatMap fun i=>[Value.int .u8 (Lib.accLo i),Value.int .u8 (Lib.accHi i)]).toArray
 { w0 with heap:=e }
theorem laidWorld_met(b:Os)(a:Array Value):laidMet aE laidQ ((laidWorld b).forCall (fun _ _=>0) ⟨#[],a,[]⟩).memory:=
 (LaidIn.of_run (l:=laidQ) [0,Tryz.laysValid_ren.g 4,Tryz.laysValid_ren.g 3] 8 (by kernel_rfl) (by kernel_rfl) (by kernel_rfl) (by kernel_rfl)).met
end
section
open Go.Lib
attribute [local go_sem] opC upC
def UX(w:World)(a d u:Nat)(M:MD)(U:MU):Prop:=∃b,b.K.d=d /\ 3<a /\ a <= w.heap.size /\ (∀q,b.all q -> a <= q) /\ a <= u /\ UAt w b u M U
def DX4(w:World)(a d:Nat)(M:MD):Prop:=∃K:DK,K.d=d /\ 3<a /\ a <= w.heap.size /\ (∀b,K.foot b -> a <= b) /\ bT w K M
theorem UX.keep{w w':World}{b d u:Nat}{M:MD}{U:MU}(h:UX w b d u M U)(a:Below w.heap.size w w'):UX w' b d u M U:=by
 obtain⟨k,c,e,f,g,i,j⟩:=h;exact⟨k,c,e,au f a.size,g,i,j.keep a⟩
theorem DX4.keep{w w':World}{b d:Nat}(h:DX4 w b d N)(a:Below w.heap.size w w'):DX4 w' b d N:=by
 obtain⟨j,c,e,f,g,i⟩:=h;exact⟨j,c,e,au f a.size,g,i.kept a⟩
theorem UX.disk{w:World}{a d u:Nat}{M:MD}{U:MU}(h:UX w a d u M U):DX4 w a d M:=by
 obtain⟨k,c,e,f,g,l,i⟩:=h;exact⟨k.K,c,e,f,fun b j=>g b (.inr (.inl j)),i.jat.disk⟩
theorem UX.lo{w:World}{a d u:Nat}{M:MD}{U:MU}(h:UX w a d u M U):3<a /\ a <= w.heap.size:=by
 obtain⟨j,e,b,c,f,g,i⟩:=h;exact⟨b,c⟩
theorem DX4.lo{w:World}{a d:Nat}{M:MD}(h:DX4 w a d M):3<a /\ a <= w.heap.size:=by
 obtain⟨i,e,b,c,f,g⟩:=h;exact⟨b,c⟩
theorem jN.low(h:jN W)(c:3<i)(b:Below i W w'):jN w':=
 ⟨h.1.keep (b.block 0 (by omega)),h.2.1.keep (fun a d=>b.cell (p:=a) (by omega)),au h.2.2 b.size⟩
theorem gB.ux{b:JK}{r:MD×MU×Int}{e:Ending}(h:gB W b o r e w')(k:b.K.d=j)(l:3<i)(c:i <= W.heap.size)(f:∀q,b.all q -> i <= q)(m:i <= o):
 e=.returned (.int .i64 r.2.2) /\ UX w' i j o r.1 r.2.1 /\ Below i W w':=by
 obtain⟨rfl,n,x,p,s,t,v⟩:=h
 have g:Below i W w':=v.below (fun q a=>by
  rcases a with a|a
  ·exact f q a
  ·omega) c
 refine⟨rfl,⟨n,by rw[p,k],l,au c g.size,fun q a=>?_,m,s⟩,g⟩;rcases t q a with h|h
 ·exact f q h
 ·omega
theorem DG(a:jN w)(c d u:Nat)(M:MD)(U:MU)(h:UX w c d u M U)(q:U.dev<8)(x:bp U.m=true)(F:aX)(b:Value)(l:List bR)(s:Rows F w 1 b l.length (l.map Go.Proofs.encStr))(t:l.length <= 1000)(r:∀k∈l,k.length <= 1000)(y:M.writes+200000<4611686018427387904):
 Calls aE 23 #[.pointer (some ⟨u,0,none⟩),b] w fun e f=>e=.returned (.int .i64 (lu M U l).2.2) /\ UX f c d u (lu M U l).1 (lu M U l).2.1 /\ Below c w f:=by
 obtain⟨z,g,i,j,n,o,p⟩:=h;refine(changes.1 w a.2.1 a.2.2 a.1 z u M U p q x F b l s t r y).mono ?_;intro e f v;exact v.ux g i j n o
theorem Er(a:jN w)(c d u:Nat)(M:MD)(U:MU)(h:UX w c d u M U)(q:U.dev<8)(x:bp U.m=true)(F:aX)(b:Value)(l:List bR)(s:Rows F w 1 b l.length (l.map Go.Proofs.encStr))(t:l.length <= 1000)(r:∀k∈l,k.length <= 1000)(y:M.writes+200000<4611686018427387904):
 Calls aE 40 #[.pointer (some ⟨u,0,none⟩),b] w fun e f=>e=.returned (.int .i64 (nX M U l).2.2) /\ UX f c d u (nX M U l).1 (nX M U l).2.1 /\ Below c w f:=by
 obtain⟨z,g,i,j,n,o,p⟩:=h;refine(changes.2 w a.2.1 a.2.2 a.1 z u M U p q x F b l s t r y).mono ?_;intro e f v;exact v.ux g i j n o
theorem zL(e d u:Nat)(M:MD)(U:MU)(h:UX w e d u M U)(b:bp U.m=true):
 Calls aE 19 #[.pointer (some ⟨u,0,none⟩)] w (zF w U.m):=by
 obtain⟨c,f,g,i,j,k,a⟩:=h;exact Ci w c u M U a b
theorem sk(c d u:Nat)(M:MD)(U:MU)(h:UX w c d u M U):
 Calls aE 17 #[.pointer (some ⟨u,0,none⟩)] w fun e f=>e=.returned (.int .i64 (U.dev:Int)) /\ w=f:=by
 obtain⟨b,g,i,j,k,l,a⟩:=h;exact yL w b u M U a
def ER(w:World)(b d:Nat)(M:MD)(r:MU ⊕ Int)(e:Ending)(a:World):Prop:=(match r with
 |.inr c=>e=.returned (.tuple #[.pointer none,.int .i64 c])
 |.inl U=>∃u,e=.returned (.tuple #[.pointer (some ⟨u,0,none⟩),.int .i64 0]) /\ UX a b d u M U) /\ Below w.heap.size w a
theorem zM(g:jN w)(l d:Nat)(M:MD)(h:DX4 w l d M):Calls aE 16 #[.pointer (some ⟨d,0,none⟩)] w (ER w l d M (eh M)):=by
 obtain⟨K,rfl,i,r,j,s⟩:=h;refine(AG w g.2.1 g.2.2 g.1 K M s fun b a=>aw i (j b a)).mono ?_;rintro e y ⟨f,a⟩;refine⟨?_,a⟩;cases k:eh M with
 |inr c=>rw[k] at f;exact f
 |inl U=>
  rw[k] at f;obtain⟨u,v,m,n,o,p,x⟩:=f;refine⟨u,m,v,n,i,au r a.size,fun q t=>?_,by omega,o⟩;rcases p q t with h|h
  ·exact j q h
  ·omega
theorem Es(j:jN w)(f d:Nat)(M:MD)(h:DX4 w f d M)(s:8 <= M.S.length)(z:M.writes+200000<4611686018427387904)(a:Nat)(v:a<8)(x:(cO M).2=0)(t:(ip M a).2.2=0):
 Calls aE 12 #[.pointer (some ⟨d,0,none⟩),.int .i64 (a:Int)] w fun e g=>∃u,e=.returned (.tuple #[.pointer (some ⟨u,0,none⟩),.int .i64 0]) /\ UX g f d u (ip M a).1 (ip M a).2.1 /\ Below f w g:=by
 obtain⟨K,rfl,k,l,i,r⟩:=h;refine(xA w j.2.1 j.2.2 j.1 K M r s (fun b c=>aw k (i b c)) z a v x t).mono ?_;rintro e g ⟨u,A,rfl,m,n,o,B,p⟩;have c:Below f w g:=p.below i l;refine⟨u,rfl,⟨A,m,k,au l c.size,fun q y=>?_,by omega,n⟩,c⟩;rcases o q y with h|h
 ·exact i q h
 ·omega
theorem DW(i:4 <= w.heap.size)(n:Nat)(c:0<n)(f:n <= 65536):
 Calls aE 11 #[.int .i64 (n:Int)] w fun e a=>∃d,e=.returned (.tuple #[.pointer (some ⟨d,0,none⟩),.int .i64 0]) /\ DX4 a w.heap.size d (MD.fresh n) /\ Below w.heap.size w a:=by
 refine(D5 w n c f).mono ?_;rintro e a ⟨K,rfl,g,b,h⟩;exact⟨K.d,rfl,⟨K,rfl,by omega,b.size,h,g⟩,b⟩
end
section
open Go.ChangeShapes Go.WideShapes Go.ChangeAt Go.Deep
section
variable {H:Type} {enc:TypeId×Value -> H} {w:World} {base:Nat} {held:Bool}
end
end
section
open Go.ChangeShapes Go.WideShapes Go.ChangeAt Go.Deep
section
variable {H:Type} {enc:TypeId×Value -> H} {w:World} {base:Nat} {held:Bool}
end
end
section
open Go.Lib
def UXH(w:World)(a hi d u:Nat)(M:MD)(U:MU):Prop:=∃b,b.K.d=d /\ 3<a /\ a <= hi /\ hi <= w.heap.size /\ (∀q,b.all q -> a <= q /\ q<hi) /\ (a <= u /\ u<hi) /\ UAt w b u M U
theorem UX.at{U:MU}(h:UX W i j o N U):UXH W i W.heap.size j o N U:=by
 obtain⟨l,c,e,f,g,k,a⟩:=h;exact⟨l,c,e,f,aq _,fun q b=>⟨g q b,a.jat.lt q b⟩,⟨k,a.lt⟩,a⟩
theorem UXH.ux{a i d u:Nat}{U:MU}(h:UXH W a i d u N U):UX W a d u N U:=by
 obtain⟨k,b,c,l,m,e,f,g⟩:=h;exact⟨k,b,c,by omega,fun q j=>(e q j).1,f.1,g⟩
theorem UXH.keep{w w':World}{c b d u:Nat}{M:MD}{U:MU}(h:UXH w c b d u M U)(a:Below w.heap.size w w'):UXH w' c b d u M U:=by
 obtain⟨m,e,f,g,i,j,k,l⟩:=h;exact⟨m,e,f,g,au i a.size,j,k,l.keep a⟩
/-! an act -/
end
theorem xE{J:MJ}{b:List UInt8}(d:N.fault=none)(c:N.down=false)(a:J.dead=false):(bQ N J b).1.fault=none /\ (bQ N J b).1.down=false /\ (bQ N J b).2.2≠341 /\ (bQ N J b).2.1.dead=false:=by
 obtain⟨S,down,f,k⟩:=N;dsimp only at d c;subst d c;unfold bQ;rw[if_neg (by rw[a];decide)];split
 ·exact⟨rfl,rfl,show(2:Int)≠341 by decide,a⟩
 ·split
  ·exact⟨rfl,rfl,show(7:Int)≠341 by decide,a⟩
  ·dsimp only;have e:bh ⟨S,false,none,k⟩ (aP S.length J.g J.L.length (aM J.L) b)=(upM (df S (aP S.length J.g J.L.length (aM J.L) b)) (k+(aP S.length J.g J.L.length (aM J.L) b).length),0):=f9 _ _ _;rw[e,if_pos rfl];exact⟨rfl,rfl,show(0:Int)≠341 by decide,a⟩
theorem DH{P:Program}(c f:TypeId){g:TypeInfo}{z:Value}(A:P.underlying c=some (.slice f))(v:P.info? f=some g)(Q:g.zero=some z)(O:g.size=i)(I:g.bytes=o)(ab:z.cells.size=i)(V:0<i)
 (d:Nat) (s:Blk w d [] f) (q:n <= d) (F:aX) (x:Value) (m:Nat) (X:List Value) (B:Rows F w i x m X) (S:∀u∈X,u.oneCell'=true)
 (ak:m <= maxLen) (G:m*o <= 140737488355328) (T:n <= w.heap.size):
 ∃l h,(AP #[c,c] c #[.slice (some ⟨d,0,none⟩) 0 0,x]).run P w=.ok l h /\ h.ownsRow n f i l m X /\ Below w.heap.size w h:=by
 have N:w.ownsRow n f i (.slice (some ⟨d,0,none⟩) 0 0) 0 []:=⟨by simp,.inr ⟨d,0,#[],rfl,q,s,aq _,by unfold maxLen;omega,by simp,by simp⟩⟩
 obtain⟨l,h,D,M,-⟩:=ek (P:=P) w n c f A v Q O I ab V _ 0 [] N F x m X B S (by omega) (by simpa using G) T;rw[Nat.zero_add,List.nil_append] at M;refine⟨l,h,D,M,?_⟩;obtain⟨a,C,rfl,hc,Y,ag,E,B⟩:=B;cases a with
 |none=>
  have p:=run_append_owned_none (P:=P) w n c c f g i A v _ _ _ N;obtain rfl:=ag rfl;obtain rfl:m=0:=by omega
  have e:(Builtin.append_ #[c,c] c #[.slice (some ⟨d,0,none⟩) 0 0,.slice none 0 0]).run P w=.ok l h:=D;rw[p] at e;simp at e;rw[<- e.2];exact Below.refl _ _
 |some r=>
  have K:∀j u,X[j]?=some u -> w.cell? (r.add j)=some u:=fun j u y=>by
   have J:j<m*i:=by rw[<- E];exact(List.getElem?_eq_some_iff.1 y).1
   rcases B with rfl|⟨b,ai,L,t,R,q,hF,U,hL,aa⟩
   ·simp at J
   ·simp at q;subst q;rw[Addr.add_lit,cell_of_row w b (ai+j) L t R U,aa j J,y]
  have e:(Builtin.append_ #[c,c] c #[.slice (some ⟨d,0,none⟩) 0 0,.slice (some r) m C]).run P w=.ok l h:=D
  by_cases Z:m=0
  ·subst Z;obtain rfl:X = []:=List.length_eq_zero_iff.1 (by omega);have p:=run_append_room (P:=P) w c c f g A v d 0 0 #[] s r 0 C [] (by simp) K nofun (aq _) (by simp);rw[p] at e;simp at e;rw[<- e.2];refine⟨rfl,rfl,rfl,by simp[World.setRow],fun b q=>?_⟩
   by_cases H:b=d
   ·subst H;rw[setRow_heap w b #[] _ f (0,0) s];exact s.symm
   ·exact setRow_other w d b _ H
  ·have p:=run_append_grow (P:=P) w c c f g z A v Q ⟨d,0,none⟩ 0 0 [] (by simp) (fun j u y=>by simp at y) r m C X (by rw[E,O]) K (by omega) (by unfold maxLen at Y;simp;omega) (growslice_fits (by omega) (by rw[I];simpa using G));rw[p] at e;simp only[Result.ok.injEq] at e;rw[<- e.2];exact(Below.refl w.heap.size w).drew.alloc (aq _) _
section
open Go.Lib
attribute [local go_sem ↓] aV
structure oR(tA tO tI tIt tGo:TypeId)(bo:Nat)(w wr:World)(m:aU)(P:List Value)(v1 v2 v3:Value)(k2 k3:Nat):Prop where
 lo:w.heap.size+1<bo
 out:Blk wr bo [v1,v2,v3] tO
 par:Blk wr w.heap.size P tA
 res:Blk wr (w.heap.size+1) [.slice none 0 0,.slice none 0 0,.slice none 0 0] tO
 o1:wr.ownsRow w.heap.size tI 1 v1 m.seen.length (m.seen.map eI)
 o2:wr.ownsRow w.heap.size tIt 4 v2 k2 ((m.items.take k2).flatMap bU)
 o3:wr.ownsRow w.heap.size tGo 3 v3 k3 ((m.gone.take k3).flatMap dC)
 below:Below w.heap.size w wr
section
variable {tA tO tI tIt tGo:TypeId} {bo:Nat} {w wr:World} {m:aU} {P:List Value} {v1 v2 v3:Value} {k2 k3:Nat}
theorem oR.kept(a:oR tA tO tI tIt tGo bo w wr m P v1 v2 v3 k2 k3)(b:Below wr.heap.size wr W):oR tA tO tI tIt tGo bo w W m P v1 v2 v3 k2 k3:=
 ⟨a.lo,a.out.keep (b.block _ a.out.lt),a.par.keep (b.block _ a.par.lt),a.res.keep (b.block _ a.res.lt),bm a.o1 b,bm a.o2 b,bm a.o3 b,a.below.trans (b.mono a.below.size)⟩
theorem oR.stepIt(a:oR tA tO tI tIt tGo bo w wr m P v1 v2 v3 k2 k3)(e:k2<m.items.length)(l:W.ownsRow w.heap.size tIt 4 u (k2+1) ((m.items.take k2).flatMap bU++bU m.items[k2]))(b:wr.grownBy W v2.ownBlock)
 (d:tIt≠tO) (g:tIt≠tA) (h:tIt≠tI) (i:tIt≠tGo) (j:tI≠tO) (k:tGo≠tO):oR tA tO tI tIt tGo bo w (W.setCell ⟨bo,1,none⟩ u) m P v1 u v3 (k2+1) k3:=by
 have c:=a.out.grownNe a.o2 d b;have n:=a.out.lt;have f:=a.lo;refine⟨f,c.set 1 u,(a.par.grownNe a.o2 g b).set_other u (by show w.heap.size≠bo;omega),(a.res.grownNe a.o2 d b).set_other u (by show w.heap.size+1≠bo;omega),aL (bY a.o1 a.o2 h b) c j _,?_,aL (bY a.o3 a.o2 i b) c k _,?_⟩
 ·rw[sY _ _ _ e];exact aL l c d _
 ·exact(a.below.trans (Below.grownOwn a.o2 b a.below.size (aq _))).setCell (by show w.heap.size <= bo;omega) _
theorem oR.stepGo(a:oR tA tO tI tIt tGo bo w wr m P v1 v2 v3 k2 k3)(e:k3<m.gone.length)(l:W.ownsRow w.heap.size tGo 3 u (k3+1) ((m.gone.take k3).flatMap dC++dC m.gone[k3]))(b:wr.grownBy W v3.ownBlock)
 (d:tGo≠tO) (g:tGo≠tA) (h:tGo≠tI) (i:tGo≠tIt) (j:tI≠tO) (k:tIt≠tO):oR tA tO tI tIt tGo bo w (W.setCell ⟨bo,2,none⟩ u) m P v1 v2 u k2 (k3+1):=by
 have c:=a.out.grownNe a.o3 d b;have f:=a.lo;refine⟨f,c.set 2 u,(a.par.grownNe a.o3 g b).set_other u (by show w.heap.size≠bo;omega),(a.res.grownNe a.o3 d b).set_other u (by show w.heap.size+1≠bo;omega),aL (bY a.o1 a.o3 h b) c j _,aL (bY a.o2 a.o3 i b) c k _,?_,?_⟩
 ·rw[sY _ _ _ e];exact aL l c d _
 ·exact(a.below.trans (Below.grownOwn a.o3 b a.below.size (aq _))).setCell (by show w.heap.size <= bo;omega) _
theorem oR.done(a:oR tA tO tI tIt tGo bo w wr m P v1 v2 v3 k2 k3)(s:k2=m.items.length)(t:k3=m.gone.length){y z A:Value}(f:cG G W y z A m)(g:tI≠tO)(j:tIt≠tO)(k:tGo≠tO)
 (v:w'=((wr.setCell ⟨w.heap.size+1,0,none⟩ v1).setCell ⟨w.heap.size+1,1,none⟩ v2).setCell ⟨w.heap.size+1,2,none⟩ v3):
 Blk w' (w.heap.size+1) [v1,v2,v3] tO /\ dl (fun b=>w.heap.size <= b) w' (.agg #[v1,v2,v3]) m /\ DL tI tIt tGo w' w.heap.size (.agg #[v1,v2,v3]) m /\ Below w.heap.size w w':=by
 subst s t v;have c:=a.res;have d:=c.set 0 v1;have e:=d.set 1 v2;have x:=e.set 2 v3;have l:=a.o2;have n:=a.o3;rw[List.take_length] at l n;have o:=aL (i:=2) (aL (i:=1) (aL (i:=0) a.o1 c g v1) d g v2) e g v3;have q:=aL (i:=2) (aL (i:=1) (aL (i:=0) l c j v1) d j v2) e j v3;have r:=aL (i:=2) (aL (i:=1) (aL (i:=0) n c k v1) d k v2) e k v3;have u:Below w.heap.size w _:=((a.below.setCell (p:=⟨w.heap.size+1,0,none⟩) (by show w.heap.size <= w.heap.size+1;omega) v1).setCell (p:=⟨w.heap.size+1,1,none⟩) (by show w.heap.size <= w.heap.size+1;omega) v2).setCell (p:=⟨w.heap.size+1,2,none⟩) (by show w.heap.size <= w.heap.size+1;omega) v3;exact⟨x,⟨v1,v2,v3,rfl,(Rows.of_owns o).mono (fun b h _=>h.1),(Rows.of_owns q).mono (fun b h _=>h.1),(Rows.of_owns r).mono (fun b h _=>h.1),f.seenB,f.itemsB,f.goneB⟩,⟨v1,v2,v3,rfl,o,q,r⟩,u⟩
end
theorem ze(w:World)(F:aX)(v:Value)(m:aU)(h:dl F w v m)(hs:m.seen.length <= 1000000)(hi:m.items.length <= 1000000)(hg:m.gone.length <= 1000000):
 Calls aE 36 #[v] w (xQ 3 129 130 w m):=by
 replace h:=j8 h 37
 obtain⟨a1,p1,Y,p2,Z,p3,r,s,t,wx,rfl,h,l1,l2,l3,D,W,X,a6,ad,ak,Hx,aF,c0,c1,c2⟩:=h
 try rw[D.out]
 try rw[W.out]
 try rw[X.out]
 rw[D.out] at hs;rw[W.out] at hi;rw[X.out] at hg;have Hh:=ae h;obtain⟨C,B⟩:=aQ ((wx.alloc (.cells #[.slice none 0 0,.slice none 0 0,.slice none 0 0] 75)).alloc (.cells #[] 3));have al:Below w.heap.size w C:=by rw[B];exact(ad.out.alloc ad.out.size _).alloc (by have:=ad.out.size;simp;omega) _
 have bg:C.heap.size=w.heap.size+3:=by rw[B];simp[ak.out]
 have aR:cG F C _ _ _ m:=h.keep fun b _ R=>al.block b R
 have aK:Blk C (w.heap.size+1+1) [] 3:=by
  have:=Blk.new (wx.alloc (.cells #[.slice none 0 0,.slice none 0 0,.slice none 0 0] 75)) #[] 3;rw[B];simpa[ak.out] using this
 have ax:Blk C (w.heap.size+1) [.slice none 0 0,.slice none 0 0,.slice none 0 0] 75:=by
  have:=(Blk.new wx #[.slice none 0 0,.slice none 0 0,.slice none 0 0] 75).alloc (.cells #[] 3);rw[B];simpa[ak.out] using this
 have ar:Blk C w.heap.size _ _:=aF.out.keep (by rw[B];exact((aI wx _).trans (aI _ _ |>.mono (by simp))).block _ aF.out.lt);obtain⟨i0,j,l,u,x⟩:=info_parts vE;obtain⟨v1,V,H,aa,L⟩:=DH (P:=aE) C w.heap.size 33 3 underlying33 j l u x rfl (by decide) (w.heap.size+1+1) aK (by omega) F _ _ _ aR.seen (xP _) (by rw[D.out];unfold maxLen;omega) (by rw[D.out];omega) (by omega);rw[D.out] at aa;obtain⟨E,G,rfl,-⟩:=(Rows.of_owns aa).shape;have an:Below w.heap.size w V:=al.trans (L.mono (by omega));have ay:=ax.keep (L.block _ ax.lt);have av:=ar.keep (L.block _ ar.lt);have be:=L.size;obtain⟨w4,ab⟩:=aQ (V.alloc (.cells #[.slice E r G,.slice none 0 0,.slice none 0 0] 75));have M:Below V.heap.size V w4:=by rw[ab];exact aI _ _
 obtain⟨bo,ao⟩:=aQ V.heap.size
 have aS:oR 37 75 3 129 130 bo w w4 m [.slice a1 r p1,.slice Y s p2,.slice Z t p3] (.slice E r G) (.slice none 0 0) (.slice none 0 0) 0 0:=
  ⟨by omega,by rw[ab,ao];exact Blk.new _ _ _,av.keep (M.block _ av.lt),ay.keep (M.block _ ay.lt),by rw[D.out];exact bm aa M,World.ownsRow_nil _ _ _ _,World.ownsRow_nil _ _ _ _,an.trans (M.mono an.size)⟩
 rw[B,a6.out] at H;have a0:=ae aS;have a4:=ae ab;have aV:=ae ao;clear h aR aK ar ax aa L av ay an aS ab B al bg j l u x M be ao
 go_enter func36,ntmps36
 go_wp2_with fail;rw[<- a4.out,<- aV.out];clear H
 go_loopw [4] (fun i wr=>∃(k:Nat)(v2:Value),k <= s /\ i=.int .i64 (k:Int) /\ oR 37 75 3 129 130 bo w wr m [.slice a1 r p1,.slice Y s p2,.slice Z t p3] (.slice E r G) v2 (.slice none 0 0) k 0) (fun i _=>s-(intOf i).toNat)
 case atStart=>exact⟨0,_,by omega,rfl,a0.out⟩
 case round=>
  obtain⟨k,v2,hk,rfl,a⟩:=hrel;have r1:wr.cell? ⟨w.heap.size,1,none⟩=some (.slice Y s p2):=by simpa using a.par.cell 1
  by_cases ba:k<s
  ·have a8:(k:Int)<(s:Int):=by omega
   have Q:k<m.items.length:=by rw[W.out];exact ba
   have S:=Hh.out.keep (w':=wr) fun b _ R=>a.below.block b R
   obtain⟨b,bh,rfl,-,a7,O⟩:=fB S.items (by omega);obtain⟨I,J,K,e3⟩:=O k Q;obtain⟨q,o⟩:=aH m.items[k];rw[o] at I J K e3;obtain⟨g,f,n,U⟩:=q;dsimp only at I J K e3;obtain⟨e,p⟩:=aQ (wr.alloc (.cells #[.string ⟨g.toArray⟩,.int .i64 f,.int .i64 n,.int .i64 U] 108));have N:Below wr.heap.size wr e:=by rw[p];exact aI _ _
   have d:=a.kept N;obtain⟨i0,j,l,u,x⟩:=info_parts ms;obtain⟨bj,w5,H,A,y⟩:=cu (P:=aE) e w.heap.size 72 129 underlying72 j l u x rfl (by decide) v2 k _ d.o2 #[.string ⟨g.toArray⟩,.int .i64 f,.int .i64 n,.int .i64 U] rfl (by simp[Value.oneCell']) (by unfold maxLen;omega) (by omega) (by have:=d.below.size;omega);obtain⟨b2,d2,rfl,-⟩:=(Rows.of_owns A).shape;have T:=(d.kept (aI e (.cells #[.string ⟨g.toArray⟩,.int .i64 f,.int .i64 n,.int .i64 U] 129))).stepIt Q (by rw[o];exact A) y (by decide) (by decide) (by decide) (by decide) (by decide) (by decide);have z:=(d.kept (aI e (.cells #[.string ⟨g.toArray⟩,.int .i64 f,.int .i64 n,.int .i64 U] 129))).out.grownNe (d.kept (aI e (.cells #[.string ⟨g.toArray⟩,.int .i64 f,.int .i64 n,.int .i64 U] 129))).o2 (by decide) y;have o1:=z.cell 1;have f1:=z.free 1;simp at o1;have bf:wr.cell? ⟨bo,1,none⟩=some v2:=by simpa using a.out.cell 1
   have bd:=a.out.lt;have bc:=a.par.lt;have ai:=ae T;have Hq:=ae o;rw[show e.heap.size=wr.heap.size+1 by rw[p];simp,p] at H;clear S O o N d A y T z a j l u x p;go_wp2_with fail
   go_roundw
   case rel=>exact⟨k+1,_,by omega,by go_num,ai.out⟩
   case measure=>simp[intOf];omega
  ·have a8:¬(k:Int)<(s:Int):=by omega
   have aL:k=m.items.length:=by rw[W.out];omega
   have aG:=ae a;have aW:=ae aL;clear a aL;go_wp2_with fail;clear r1
   go_loopw [6] (fun i wr=>∃(c:Nat)(v3:Value),c <= t /\ i=.int .i64 (c:Int) /\ oR 37 75 3 129 130 bo w wr m [.slice a1 r p1,.slice Y s p2,.slice Z t p3] (.slice E r G) v2 v3 k c) (fun i _=>t-(intOf i).toNat)
   case atStart=>exact⟨0,_,by omega,rfl,aG.out⟩
   case round=>
    obtain⟨c,v3,bi,rfl,a⟩:=hrel;clear aG;have r1:wr.cell? ⟨w.heap.size,2,none⟩=some (.slice Z t p3):=by simpa using a.par.cell 2
    by_cases bb:c<t
    ·have a9:(c:Int)<(t:Int):=by omega
     have Q:c<m.gone.length:=by rw[X.out];exact bb
     have S:=Hh.out.keep (w':=wr) fun b _ R=>a.below.block b R
     obtain⟨b,bh,rfl,-,a7,O⟩:=gn S.gone (by omega);obtain⟨I,J,K⟩:=O c Q;obtain⟨q,o⟩:=aH m.gone[c];rw[o] at I J K;obtain⟨g,f,n⟩:=q;dsimp only at I J K;obtain⟨e,p⟩:=aQ (wr.alloc (.cells #[.string ⟨g.toArray⟩,.int .i64 f,.int .i64 n] 111));have N:Below wr.heap.size wr e:=by rw[p];exact aI _ _
     have d:=a.kept N;obtain⟨i0,j,l,u,x⟩:=info_parts qk;obtain⟨bk,w5,H,A,y⟩:=cu (P:=aE) e w.heap.size 73 130 underlying73 j l u x rfl (by decide) v3 c _ d.o3 #[.string ⟨g.toArray⟩,.int .i64 f,.int .i64 n] rfl (by simp[Value.oneCell']) (by unfold maxLen;omega) (by omega) (by have:=d.below.size;omega);obtain⟨b3,d3,rfl,-⟩:=(Rows.of_owns A).shape;have T:=(d.kept (aI e (.cells #[.string ⟨g.toArray⟩,.int .i64 f,.int .i64 n] 130))).stepGo Q (by rw[o];exact A) y (by decide) (by decide) (by decide) (by decide) (by decide) (by decide);have z:=(d.kept (aI e (.cells #[.string ⟨g.toArray⟩,.int .i64 f,.int .i64 n] 130))).out.grownNe (d.kept (aI e (.cells #[.string ⟨g.toArray⟩,.int .i64 f,.int .i64 n] 130))).o3 (by decide) y;have o1:=z.cell 2;have f1:=z.free 2;simp at o1;have bf:wr.cell? ⟨bo,2,none⟩=some v3:=by simpa using a.out.cell 2
     have bd:=a.out.lt;have bc:=a.par.lt;have ai:=ae T;have Hq:=ae o;rw[show e.heap.size=wr.heap.size+1 by rw[p];simp,p] at H;clear S O o N d A y T z a j l u x p;go_wp2_with fail
     go_roundw
     case rel=>exact⟨c+1,_,by omega,by go_num,ai.out⟩
     case measure=>simp[intOf];omega
    ·have a9:¬(c:Int)<(t:Int):=by omega
     have aM:c=m.gone.length:=by rw[X.out];omega
     obtain⟨b2,d2,rfl,-⟩:=(Rows.of_owns a.o2).shape;obtain⟨b3,d3,rfl,-⟩:=(Rows.of_owns a.o3).shape;have x0:=a.out.cell 0;have x1:=a.out.cell 1;have x2:=a.out.cell 2;have y0:=a.res.cell 0;have y1:=a.res.cell 1;have y2:=a.res.cell 2;have z0:=a.res.free 0;have z1:=a.res.free 1;have z2:=a.res.free 2;simp at x0 x1 x2 y0 y1 y2;obtain⟨wf,az⟩:=aQ (((wr.setCell ⟨w.heap.size+1,0,none⟩ (.slice E r G)).setCell ⟨w.heap.size+1,1,none⟩ (.slice b2 k d2)).setCell ⟨w.heap.size+1,2,none⟩ (.slice b3 c d3));obtain⟨aP,aN,aO,aJ⟩:=a.done aW.out aM Hh.out (by decide) (by decide) (by decide) az;have a5:=ae az;have aY:=ae aN;have aZ:=ae aO;have aT:=ae aJ;have ag:=ae aP;clear a aM az aP aN aO aJ;go_wp2_with fail;rw[<- a5.out];have q0:=ag.out.cell 0;have j:=ag.out.cell 1;have l:=ag.out.cell 2;simp at q0 j l;exact bodyPost_ret (v:=.agg #[.slice E r G,.slice b2 k d2,.slice b3 c d3]) (by simp[results,results36,go_sem,q0,j,l]) rfl ⟨_,rfl,aZ.out,aY.out,aT.out⟩
end
section
open Go.Lib
attribute [local go_sem] opC upC
theorem ES(a b:List UInt8)(d:a.length <= 100)(f:b.length <= 100):
 Calls aE 24 #[.string ⟨a.toArray⟩,.string ⟨b.toArray⟩] w fun e c=>e=.returned (.string ⟨(49::a++0::b).toArray⟩) /\ w=c:=by
 go_enter func24,ntmps24
 go_wp2_with fail
 have e:(⟨#[49]⟩:ByteArray)++⟨a.toArray⟩++⟨#[0]⟩++⟨b.toArray⟩=⟨(49::a++0::b).toArray⟩:=by
  apply ByteArray.ext;simp
 rw[e]
 go_ret
 exact⟨rfl,rfl⟩
theorem jO(M:jN w):
 Calls aE 10 #[] w fun e x=>e=.returned (.bool true) /\ Below w.heap.size w x:=by
 have j:=ae (show ∀W,Below w.heap.size w W -> jN W from fun W a=>M.below a);have aT:=ae M;have HN:=ae (DW w M.2.2 40 (by decide) (by decide));obtain⟨M0,U0,T,U1,M2,U2,hP⟩:=EQ;have c:=ae hP;clear M hP
 go_enter func10,ntmps10
 go_wp2_with fail;refine HN.out.mono ?_;rintro e w1 ⟨d,rfl,hd,V⟩;have hF:=Es w1 (j.out w1 V) _ d (MD.fresh 40) hd (by simp[MD.fresh]) (by show 0+200000<_;decide) 3 (by decide) c.out.fmt (by rw[c.out.form]);rw[c.out.form] at hF;have HF:=ae hF;have aO:=ae V;clear hF hd V HN;go_wp2_with fail;refine HF.out.mono ?_;rintro e y ⟨u,rfl,o,al⟩;have an:Below w.heap.size w y:=aO.out.trans al;have HU:=ae o;have ai:=ae an;have B:=ae (show ∀W,Calls aE 24 #[.string ⟨#[97]⟩,.string ⟨#[98]⟩] W fun e x=>e=.returned (.string ⟨exK.toArray⟩) /\ W=x from fun W=>ES W [97] [98] (by decide) (by decide));clear o al an HF;go_wp2_with fail;refine(B.out _).mono ?_;rintro e bi ⟨rfl,rfl⟩;obtain⟨F,l⟩:=aQ (y.alloc (.cells #[.string ⟨exK.toArray⟩] 9));have v:Below y.heap.size y F:=by rw[l];exact aI _ _
 have D:Rows (fun b=>b=y.heap.size) F 1 (.slice (some ⟨y.heap.size,0,none⟩) 1 1) [exK].length ([exK].map Go.Proofs.encStr):=by
  rw[l];exact kJ y #[.string ⟨exK.toArray⟩] 9 1 rfl (by unfold maxLen;omega)
 have s:Below w.heap.size w F:=ai.out.trans (v.mono ai.out.size);have t:=DG F (j.out F s) _ d u _ _ (HU.out.keep v) (by show _<8;rw[c.out.dev0];decide) (by show bp _=true;rw[c.out.m0];exact k9) _ _ [exK] D (by decide) (fun k X=>by rw[List.mem_singleton.1 X];decide) (by have:=c.out.w0;have:=c.out.w1;omega);rw[c.out.learn] at t;have C:=ae t;have aP:=ae l;have az:=ae s;clear t l v D s;go_wp2_with fail;rw[<- aP.out];refine C.out.mono ?_;rintro e G ⟨rfl,o,a⟩;have R:=ae o;have Y:=ae (show Below w.heap.size w G from az.out.trans a);clear o a C
 have A:=ae (show Calls aE 17 #[.pointer (some ⟨u,0,none⟩)] G fun e x=>e=.returned (.int .i64 3) /\ G=x from by
  have h:=sk G _ d u T U1 R.out;rw[c.out.dev1] at h
  exact h)
 go_wp2_with fail;refine A.out.mono ?_;rintro e bd ⟨rfl,rfl⟩;clear A;have N:=zL G _ d u _ _ R.out (by show bp _=true;rw[c.out.m1];exact e9)
 try dsimp only at N
 rw[c.out.m1] at N;have m:=ae N;clear N;go_wp2_with fail;refine m.out.mono ?_;rintro e ar ⟨⟨r,rfl,i,p⟩,a⟩;have q:=i.map p;obtain⟨t1,t2,t3,rfl,f⟩:=id i;obtain⟨a4,aV,rfl⟩:=aK f.seen;obtain⟨a7,aY,rfl⟩:=aK f.items;obtain⟨ba,a1,rfl⟩:=aK f.gone;have J:=ae (show Below w.heap.size w ar from Y.out.trans (a.mono Y.out.size));have g:=nI ar (j.out _ J.out).2.1 (j.out _ J.out).2.2 _ _ _ q (dD e9).1 (dD e9).2 exK (by decide);rw[xD] at g;have n:=ae g;have aH:=ae (R.out.keep a);clear g q i f a p m;go_wp2_with fail;refine(B.out _).mono ?_;rintro e bf ⟨rfl,rfl⟩;go_wp2_with fail;refine n.out.mono ?_;rintro e ay ⟨rfl,a⟩;have Q:=ae (show Below w.heap.size w ay from J.out.trans (a.mono J.out.size));have aM:=ae (aH.out.keep a);clear a n;have U:=zM ay (j.out _ Q.out) _ d T aM.out.disk;rw[c.out.opened] at U;have ad:=ae U;clear U;go_wp2_with fail;refine ad.out.mono ?_;rintro e H ⟨⟨E,rfl,ak⟩,ao⟩;have S:=ae ak;have Z:=ae (show Below w.heap.size w H from Q.out.trans (ao.mono Q.out.size));clear ak ao ad
 have A:=ae (show Calls aE 17 #[.pointer (some ⟨E,0,none⟩)] H fun e x=>e=.returned (.int .i64 3) /\ H=x from by
  have h:=sk H _ d E T _ S.out
  try dsimp only at h
  rw[c.out.dev1] at h
  exact h)
 go_wp2_with fail;refine A.out.mono ?_;rintro e be ⟨rfl,rfl⟩;clear A;have O:=zL H _ d E _ _ S.out (by show bp _=true;rw[c.out.m1];exact e9)
 try dsimp only at O
 rw[c.out.m1] at O;have m:=ae O;clear O;go_wp2_with fail;refine m.out.mono ?_;rintro e av ⟨⟨r,rfl,i,p⟩,a⟩;have q:=i.map p;obtain⟨t1,t2,t3,rfl,f⟩:=id i;obtain⟨a5,aW,rfl⟩:=aK f.seen;obtain⟨a8,aZ,rfl⟩:=aK f.items;obtain⟨bb,a2,rfl⟩:=aK f.gone;have K:=ae (show Below w.heap.size w av from Z.out.trans (a.mono Z.out.size));have g:=nI av (j.out _ K.out).2.1 (j.out _ K.out).2.2 _ _ _ q (dD e9).1 (dD e9).2 exK (by decide);rw[xD] at g;have n:=ae g;have aJ:=ae (S.out.keep a);clear g q i f a p m;go_wp2_with fail;refine(B.out _).mono ?_;rintro e bg ⟨rfl,rfl⟩;go_wp2_with fail;refine n.out.mono ?_;rintro e z ⟨rfl,a⟩;have ab:=ae (show Below w.heap.size w z from K.out.trans (a.mono K.out.size));have aN:=ae (aJ.out.keep a);clear a n;go_wp2_with fail;refine(B.out _).mono ?_;rintro e bj ⟨rfl,rfl⟩;obtain⟨I,l⟩:=aQ (z.alloc (.cells #[.string ⟨exK.toArray⟩] 9));have v:Below z.heap.size z I:=by rw[l];exact aI _ _
 have D:Rows (fun b=>b=z.heap.size) I 1 (.slice (some ⟨z.heap.size,0,none⟩) 1 1) [exK].length ([exK].map Go.Proofs.encStr):=by
  rw[l];exact kJ z #[.string ⟨exK.toArray⟩] 9 1 rfl (by unfold maxLen;omega)
 have s:Below w.heap.size w I:=ab.out.trans (v.mono ab.out.size);have t:=Er I (j.out I s) _ d E _ _ (aN.out.keep v) (by show _<8;rw[c.out.dev1];decide) (by show bp _=true;rw[c.out.m1];exact e9) _ _ [exK] D (by decide) (fun k X=>by rw[List.mem_singleton.1 X];decide) (by have:=c.out.w0;have:=c.out.w1;omega);rw[c.out.drop] at t;have C:=ae t;have aR:=ae l;have aF:=ae s;clear t l v D s;go_wp2_with fail;rw[<- aR.out];refine C.out.mono ?_;rintro e w7 ⟨rfl,o,a⟩;have ag:=ae o;have aa:=ae (show Below w.heap.size w w7 from aF.out.trans a);clear o a C;have P:=zL w7 _ d E _ _ ag.out (by show bp _=true;rw[c.out.m2];exact jM)
 try dsimp only at P
 rw[c.out.m2] at P;have m:=ae P;clear P;go_wp2_with fail;refine m.out.mono ?_;rintro e ax ⟨⟨r,rfl,i,p⟩,a⟩;have q:=i.map p;obtain⟨t1,t2,t3,rfl,f⟩:=id i;obtain⟨a6,aX,rfl⟩:=aK f.seen;obtain⟨a9,a0,rfl⟩:=aK f.items;obtain⟨bc,a3,rfl⟩:=aK f.gone;have L:=ae (show Below w.heap.size w ax from aa.out.trans (a.mono aa.out.size));have g:=nI ax (j.out _ L.out).2.1 (j.out _ L.out).2.2 _ _ _ q (dD jM).1 (dD jM).2 exK (by decide);rw[CM] at g;have n:=ae g;have aL:=ae (ag.out.keep a);clear g q i f a p m;go_wp2_with fail;refine(B.out _).mono ?_;rintro e bh ⟨rfl,rfl⟩;go_wp2_with fail;refine n.out.mono ?_;rintro e aS ⟨rfl,a⟩;have aG:=ae (show Below w.heap.size w aS from L.out.trans (a.mono L.out.size));have aU:=ae (aL.out.keep a);clear a n;go_wp2_with fail
 go_ret
 exact⟨rfl,aG.out⟩
end
section
open Go.Lib
attribute [local go_sem] opC upC told bG br bH bt bw bI bJ
theorem tQ{d:Nat}:∀(l:List (List UInt8))(m x:aU),bp m=true -> dk d m l=some x -> bp x=true
 |[],m,x,a,h=>by
  obtain rfl:=Option.some.inj h;exact a
 |b::l,m,x,a,h=>by
  unfold dk at h;cases e:dF d m b with
  |none=>rw[e] at h;cases h
  |some y=>
   rw[e] at h;exact tQ l y x (mc e) h
theorem CO{L:List (List UInt8)}(h:ff L=some (i,r)):i<8 /\ bp r=true:=by
 cases L with
 |nil=>cases h
 |cons b l=>
  unfold ff at h;dsimp only at h;cases e:eM b with
  |none=>rw[e] at h;cases h
  |some p=>
   obtain⟨f,c⟩:=p;rw[e] at h;dsimp only at h;obtain⟨g,j⟩:=tL e;cases a:dk f c l with
   |none=>rw[a] at h;cases h
   |some y=>
    rw[a] at h;obtain⟨rfl,rfl⟩:=Prod.mk.inj (Option.some.inj h);exact⟨g,tQ l c _ j a⟩
theorem CQ{U:MU}(h:eh N=.inl U):U.dev<8 /\ bp U.m=true:=by
 unfold eh at h;split at h
 ·cases h
 ·split at h
  ·cases h
  ·split at h
   ·cases h
   ·rename_i e;obtain rfl:=Sum.inl.inj h;exact CO e
theorem zg{M N:MD}(a:M.S=N.S)(b:M.down=N.down):eh M=eh N:=by
 have h:fN M=fN N:=by unfold fN;rw[a,b]
 unfold eh;rw[h]
theorem uY(h:bp r=true):r.seen.length <= 1000000 /\ r.items.length <= 1000000 /\ r.gone.length <= 1000000:=by
 have:=dr h;omega
theorem DI{M:MD}(b:M.fault=none)(a:M.down=false)(i:Nat)(l:List UInt8):M.wr i l=({ M with S:=M.S.set i l,writes:=M.writes+1 },0):=by
 unfold MD.wr MD.write;rw[a,b];rfl
theorem zh(b:8 <= n)(c:n <= 65536):(cO (MD.fresh n)).2=0 /\ (cO (MD.fresh n)).1.fault=none /\ (cO (MD.fresh n)).1.down=false /\ (cO (MD.fresh n)).1.S.length=n /\ (cO (MD.fresh n)).1.writes=n+1:=by
 have a:cO (MD.fresh n)=(upM (df (List.replicate n (List.replicate 64 0)) (eN n++[(0,cP 0)])) (0+(eN n++[(0,cP 0)]).length),0):=by
  rw[j1,show(MD.fresh n).S.length=n by simp[MD.fresh]];exact f9 _ _ _
 rw[a];refine⟨rfl,rfl,rfl,?_,?_⟩
 ·show(df _ _).length=n;rw[gH];simp
 ·show 0+(eN n++[(0,cP 0)]).length=n+1;simp[eN]
def opB(k:Nat):Nat:=1000+k*70000
theorem CR:opB (n+1)=opB n+70000:=by unfold opB;omega
theorem Et{k:Nat}(h:k <= 20):opB k <= 1401000:=by unfold opB;omega
def CS(w c:World)(K:DK)(jb e n:Nat)(i:Value)(wr:World):Prop:=∃(k:Nat)(a:RJK)(M:MD)(J:MJ),k <= n /\ i=.int .i64 (k:Int) /\ a.j=jb /\ a.K.d=e /\ jJ wr a M J /\ (∀b,a.all b -> c.heap.size <= b) /\ bT wr K (MD.fresh 600) /\ M.S.length=600 /\ M.down=false /\ M.fault=none /\ J.dead=false /\ M.writes <= opB k /\ Below w.heap.size w wr /\ c.heap.size <= wr.heap.size
def CT(w:World)(K:DK)(e:RJK)(M:MD)(J:MJ)(i:Value)(wr:World):Prop:=∃(k:Nat)(c:DK)(a:MD),k <= 600 /\ i=.int .i64 (k:Int) /\ c.d=K.d /\ (∀b,c.foot b -> K.foot b) /\ bT wr c a /\ a.S.length=600 /\ (∀q,q<k -> a.S[q]?=M.S[q]?) /\ a.fault=none /\ a.down=false /\ a.writes <= k /\ jJ wr e M J /\ Below w.heap.size w wr
theorem UserOpens_walk(w:World)(hv:IsBss w v)(hL:jN w):
 Calls aE 5 #[v] w fun e g=>e=.returned (.bool true) /\ Below w.heap.size w g:=by
 obtain⟨A,Y⟩:=Ek hv;obtain⟨a,db,rfl,cT,hx⟩:=Y;have P:=ae (show ∀W,Below w.heap.size w W -> jN W from fun W f=>hL.below f);obtain⟨n,hn⟩:=aH A.length;rw[hn] at cT⊢;have Hx:=ae hx;have Hn:=ae hn;have cS:4 <= w.heap.size:=hL.2.2;clear hL hx hn hv
 by_cases dd:20<n
 ·have cQ:(20:Int)<(n:Int):=by omega
  go_enter func5,ntmps5
  have t:=ae (jO w (P.out w (Below.refl w.heap.size w)));have D:=ae (Below.refl w.heap.size w)
  skip
  go_wp2_with fail
  skip
  refine t.out.mono ?_;rintro e wz ⟨rfl,l⟩;have B:=ae (D.out.trans (l.mono D.out.size));clear t l;go_wp2_with fail
  go_ret
  exact⟨rfl,B.out⟩
 have cQ:¬(20:Int)<(n:Int):=by omega
 have HN:=ae (show Calls aE 11 #[.int .i64 600] w _ from DW w cS 600 (by decide) (by decide));have bg:=ae (zh 600 (by decide) (by decide))
 go_enter func5,ntmps5
 go_wp2_with fail;refine HN.out.mono ?_;rintro e w1 ⟨d,rfl,⟨K,rfl,h4,cY,cn,ch⟩,b4⟩;have bj:=ae (show Calls aE 26 #[.int .i64 600] w1 _ from AR w1 600 (by decide) (by decide));have bu:=ae ch;have bz:=ae cn;have R:=ae b4;clear HN ch cn b4 h4 cY;go_wp2_with fail;refine bj.out.mono ?_;rintro e w2 ⟨KR,rfl,E,b5,bW⟩;have HF:=ae (xr w2 KR (MD.fresh 600) E (by simp[MD.fresh]) (by show 0+65540<_;decide));have T:=ae b5;have ax:=ae bW;clear bj E b5 bW;go_wp2_with fail;refine HF.out.mono ?_;rintro e w3 ⟨K',e1,e2,ao,h3⟩;obtain⟨-,jb,rfl,cq,hj⟩:=h3.resolve_right (fun h=>h.1 bg.out.1);obtain⟨M0,bR⟩:=aH ((cO (MD.fresh 600)).1);have O:=bg.out.2;rw[bR] at hj O;have a2:=bu.out.lt;have cd:bT w3 K (MD.fresh 600):=(bu.out.kept T.out).only ao fun b f G=>by have:=ax.out b G;have:=a2 b f;omega
 have H0:=ae (show CS w w1 K jb KR.d n (.int .i64 0) w3 from⟨0,⟨jb,K',none_⟩,M0,⟨0,[],false⟩,Nat.zero_le _,rfl,rfl,e1,hj,fun b f=>by
  rcases f with h|h|h
  ·rw[h];exact au T.out.size cq
  ·rcases e2 b h with h'|h'
   ·exact ax.out b h'
   ·exact au T.out.size h'
  ·exact h.elim,cd,O.2.2.1,O.2.1,O.1,rfl,by have:=O.2.2.2;unfold opB;omega,(R.out.trans (T.out.mono R.out.size)).trans (ao.below (fun b f=>by have:=ax.out b f;have:=R.out.size;omega) (au R.out.size T.out.size)),au T.out.size ao.size⟩)
 have bv:=ae a2;clear HF h3 hj cd ao e1 e2 O bR cq a2;go_wp2_with fail
 go_loopw [9] (fun i wr=>CS w w1 K jb KR.d n i wr) (fun i _=>n-(intOf i).toNat)
 case atStart=>exact H0.out
 case round=>
  rename World=>wr
  obtain⟨k,rk,M,J,hk,rfl,cr,cs,hj,b0,hd,Z,ci,co,cg,cz,f,cB⟩:=hrel;have Hj:=ae hj;have aa:=ae b0;have Hd:=ae hd;have HS:=ae Z;have aL:=ae ci;have cL:=ae co;have cK:=ae cg;have bI:=ae cz;have Q:=ae f;have bA:=ae cr;have aN:=ae cs;have bJ:=ae cB;clear cB hj b0 hd Z ci co cg cz cr cs
  by_cases cX:k<n
  ·have cW:(k:Int)<(n:Int):=by omega
   have a3:k<A.length:=by rw[Hn.out];exact cX
   obtain⟨b,c8,rfl,cU,hc⟩:=Hx.out.resolve_left (by intro e;rw[e] at a3;simp at a3);obtain⟨x,c,b9,bL,cA⟩:=hc k a3;have ca:=(f.cell (p:=⟨b,c8+k,none⟩) cU).trans b9;have aP:=bL.keep (w':=wr) fun q hq _=>f.block q hq
   obtain⟨y,hy⟩:=aH A[k];rw[hy] at ca aP cA;obtain⟨ny,ba⟩:=aH y.length;rw[ba] at ca cA;have bC:=ae ba;have cG:=ae aP;clear hc b9 bL f hy ba aP
   by_cases de:400<ny
   ·have cR:(400:Int)<(ny:Int):=by omega
    have t:=ae (jO wr (P.out wr Q.out));have D:=ae Q.out
    skip
    go_wp2_with fail
    skip
    refine t.out.mono ?_;rintro e wz ⟨rfl,l⟩;have B:=ae (D.out.trans (l.mono D.out.size));clear t l;go_wp2_with fail
    go_ret
    exact⟨rfl,B.out⟩
   ·have cR:¬(400:Int)<(ny:Int):=by omega
    have Y:=xy wr rk M J Hj.out _ _ y cG.out (fun q hq=>⟨aw hq Q.out.size,fun G=>by have:=aa.out q G;have:=R.out.size;omega⟩) (by rw[bC.out];omega) (by have:=bI.out;have:=Et (k:=k) (by omega);omega);obtain⟨⟨M',J',er⟩,E⟩:=aH (bQ M J y);have a1:=xE (b:=y) cL.out aL.out cK.out;have a5:=rF M J y;rw[E] at Y a1 a5;rw[bA.out,bC.out] at Y;have HA:=ae Y;have az:=ae a1;have bB:=ae a5;clear Y E a1 a5;go_wp2_with fail;refine HA.out.mono ?_;rintro e w5 ⟨rfl,c9,k1,k2,k3,k4,k5⟩;have cV:=Hd.out.lt;have ce:bT w5 K (MD.fresh 600):=Hd.out.only k5 fun b f G=>by have:=aa.out b G;have:=bv.out b f;omega
    have aT:Below w.heap.size w w5:=Q.out.trans (k5.below (fun b f=>by have:=aa.out b f;have:=R.out.size;omega) Q.out.size)
    have cH:=ae (show CS w w1 K jb KR.d n (.int .i64 ((k:Int)+1)) w5 from⟨k+1,c9,M',J',by omega,rfl,k1.trans bA.out,k2.trans aN.out,k3,fun b f=>by
     rcases k4 b f with h|h
     ·exact aa.out b h
     ·exact au bJ.out h,ce,bB.out.1.trans HS.out,az.out.2.1,az.out.1,az.out.2.2.2,by rw[CR];exact au bB.out.2 (Nat.add_le_add bI.out (by decide)),aT,au bJ.out k5.size⟩)
    have bn:=ae aT;clear HA k1 k2 k3 k4 k5 ce cV aT
    by_cases h0:er=0
    ·subst h0;go_wp2_with fail
     go_roundw
     case rel=>exact cH.out
     case measure=>simp[intOf];omega
    ·have dc:(er != 0)=true:=bne_iff_ne.2 h0;have t:=ae (jO w5 (P.out w5 bn.out));have D:=ae bn.out
     skip
     go_wp2_with fail
     skip
     refine t.out.mono ?_;rintro e wz ⟨rfl,l⟩;have B:=ae (D.out.trans (l.mono D.out.size));clear t l;go_wp2_with fail
     go_ret
     exact⟨rfl,B.out⟩
  ·have cW:¬(k:Int)<(n:Int):=by omega
   have H1:=ae (show CT w K rk M J (.int .i64 0) wr from⟨0,K,MD.fresh 600,by omega,rfl,rfl,fun b h=>h,Hd.out,List.length_replicate,fun q hq=>absurd hq (Nat.not_lt_zero _),rfl,rfl,aq _,Hj.out,Q.out⟩);clear f;go_wp2_with fail
   go_loopw [10] (fun i N=>CT w K rk M J i N) (fun i _=>600-(intOf i).toNat)
   case atStart=>exact H1.out
   case round=>
    rename World=>N
    obtain⟨q,K1,F,hq,rfl,bN,bO,cb,bX,cl,cm,cj,cy,cp,b7⟩:=hrel;have ai:=ae bO;have aI:=ae cb;have ak:=ae bX;have bw:=ae cl;have bx:=ae cm;have aM:=ae cj;have bH:=ae cy;have al:=ae cp;have V:=ae b7;have bh:=ae bN;clear bO cb bX cl cm cj cy cp b7 bN
    by_cases bd:q<600
    ·have c5:(q:Int)<600:=by omega
     have be:q<M.S.length:=by rw[HS.out];exact bd
     have bk:=ae (by
      have h:=zc N rk.K M q al.out.ref be aL.out;rw[aN.out] at h
      exact h)
     have bD:=ae (al.out.ref.s64 _ (aC be));go_wp2_with fail;refine bk.out.mono ?_;rintro e w6 ⟨r6,rfl,bb,ad⟩;have bK:aO (fun b=>N.heap.size <= b) w6 r6 M.S[q]:=aO.of_owns (by rw[bD.out];exact bb) _ fun b h1 _=>h1
     have ct:=aI.out.lt
     have bm:=ae (by
      have h:=uv w6 K1 F (aI.out.kept ad) q (by rw[ak.out];exact bd) (by have:=bH.out;omega) _ r6 _ bK bD.out (fun b f hf=>by have:=ct b hf;have df:N.heap.size <= b:=f;omega);rw[bh.out,DI bx.out aM.out] at h
      exact h)
     obtain⟨a6,c6,rfl⟩:=aK bb;have cM:=ae (al.out.kept ad);have bo:=ae (V.out.trans (ad.mono V.out.size));have da:=ae ad.size;clear bk bb ad bK ct;go_wp2_with fail;refine bm.out.mono ?_;rintro e w7 ⟨rfl,⟨K7,bM,bP,cf⟩,bc,c7⟩
     have cI:=ae (show CT w K rk M J (.int .i64 ((q:Int)+1)) w7 from⟨q+1,K7,_,by omega,rfl,bM,fun b f=>ai.out b (bP b f),cf,by simp[ak.out],fun p hp=>by
      dsimp only;rw[List.getElem?_set]
      by_cases cw:q=p
      ·subst cw;rw[if_pos rfl,if_pos (by rw[ak.out];exact bd),List.getElem?_eq_getElem be]
      ·rw[if_neg cw]
       exact bw.out p (by omega),bx.out,aM.out,by have:=bH.out;show F.writes+1 <= q+1;omega,cM.out.only bc fun b G hf=>by have:=aa.out b G;have:=bv.out b (ai.out b hf);omega,bo.out.trans (bc.below (fun b f=>bz.out b (ai.out b f)) bo.out.size)⟩)
     clear bm cf bc c7 bM bP;go_wp2_with fail
     go_roundw
     case rel=>exact cI.out
     case measure=>simp[intOf];omega
    ·have c5:¬(q:Int)<600:=by omega
     have bY:F.S=M.S:=List.ext_getElem? fun p=>by
      by_cases hp:p<q
      ·exact bw.out p hp
      ·rw[List.getElem?_eq_none (by rw[ak.out];omega),List.getElem?_eq_none (by rw[HS.out];omega)]
     have bU:eh F=eh M:=zg bY (aM.out.trans aL.out.symm);have cZ:3<w.heap.size:=by omega
     have HO:=ae (by
      have h:=zM N (P.out N V.out) w.heap.size K1.d F ⟨K1,rfl,cZ,V.out.size,fun b f=>bz.out b (ai.out b f),aI.out⟩;rw[bU,bh.out] at h
      exact h)
     obtain⟨o,L⟩:=aH (eh M);rw[L] at HO;have Ho:=ae L;clear bY bU L;go_wp2_with fail;refine HO.out.mono ?_;rintro e w8 ⟨hp,aU⟩
     have HV:=ae (by
      have h:=zb none_ w8 (fun _ h=>h.elim) rk.K M (al.out.ref.kept aU);rw[aN.out,Ho.out] at h
      exact h)
     have ab:=ae (V.out.trans (aU.mono V.out.size));clear HO aU;cases o with
     |inr cc=>
      obtain rfl:e=.returned (.tuple #[.pointer none,.int .i64 cc]):=hp;go_wp2_with fail;refine HV.out.mono ?_;rintro e w9 ⟨c4,H⟩;obtain rfl:e=.returned (.tuple #[.pointer none,.int .i64 cc]):=c4;have aS:=ab.out.trans (H.mono ab.out.size);have t:=ae (jO w9.drew (P.out _ aS.drew));have bp:=ae aS.drew;clear HV H aS;go_wp2_with fail;refine bS aJ (up 4 [5,6,7,8,504,9,10,11,14,15,16,17,512,513,518,19,20,21,522,23,24]) (by kernel_rfl) ?_;apply aG;rfl;intro g s;go_simp;exact aF
      repeat (apply bE;rfl;rfl;go_simp;go_simp;rfl;apply aG;rfl;intro g s;go_simp;exact aF)
      refine bq rfl rfl (fun z j=>?_);go_simp;refine t.out.mono ?_;rintro e wz ⟨rfl,l⟩;have B:=ae (bp.out.trans (l.mono bp.out.size));refine⟨_,rfl,l,j _ _ ?_⟩;clear j z t l;go_simp;apply aG;rfl;intro g s;go_simp;exact aF
      repeat (apply bE;rfl;rfl;go_simp;go_simp;rfl;apply aG;rfl;intro g s;go_simp;exact aF)
      refine aY ?_;go_wp2_with fail
      go_ret
      exact⟨rfl,B.out⟩
     |inl U=>
      obtain⟨u,rfl,bZ⟩:=hp;obtain⟨dg,cx⟩:=CQ Ho.out;have cJ:=ae bZ;have bG:=ae cx;clear bZ cx;go_wp2_with fail;refine HV.out.mono ?_;rintro e w9 ⟨⟨u9,dh,rfl,-,bV,-,-⟩,H⟩;obtain⟨b1,e1,b2,e2,b3,e3,a0,cv⟩:=bV.box;obtain⟨C,bf⟩:=aQ w9.drew;have ag:Below w9.heap.size w9 C:=by rw[bf];exact(Below.refl _ _).drew
      have aR:=(cJ.out.keep H).keep ag;have b8:Below w.heap.size w C:=(ab.out.trans (H.mono ab.out.size)).trans (ag.mono (au ab.out.size H.size));obtain⟨c0,c1,c2,c3,-⟩:=eO (a0.keep (ag.block _ a0.lt));have pz:∀q x,C.cell? q=some x -> ∀g,aJ C g -> g.cell? q=some x:=fun q x hc g hh=>(hh.cell (p:=q) (il hc)).trans hc
      have cC:=pz _ _ c0;have cD:=pz _ _ c1;have cE:=pz _ _ c2;have cF:=pz _ _ c3;have av:=ae (sk C w.heap.size K.d u F U aR);have bi:=ae (zL C w.heap.size K.d u F U aR bG.out);have cN:=ae (cv.keep (w':=C) fun q _ a4=>ag.block q a4);obtain⟨n1,a7⟩:=aH U.m.seen.length;obtain⟨n2,a8⟩:=aH U.m.items.length;obtain⟨n3,a9⟩:=aH U.m.gone.length;rw[a7] at cD;rw[a8] at cE;rw[a9] at cF;obtain⟨dv,ck⟩:=aH U.dev;rw[ck] at cC av;have cP:=ae bf;have bt:=ae b8;have X:=ae (And.intro a7 (And.intro a8 a9));clear HV bV H a0 cv bf ag aR b8 c0 c1 c2 c3 pz a7 a8 a9 ck;go_wp2_with fail;refine bS aJ (up 4 [5,6,7,8,504,9,10,11,14,15,16,17,512,513,518,19,20,21,522,23,24]) (by kernel_rfl) ?_;rw[<- cP.out];apply aG;rfl;intro g s;go_simp;exact aF
      repeat (apply bE;rfl;rfl;go_simp;go_simp;rfl;apply aG;rfl;intro g s;go_simp;exact aF)
      refine bq rfl rfl (fun z j=>?_);go_simp;refine av.out.mono ?_;rintro e wz ⟨rfl,rfl⟩;refine⟨_,rfl,bF _,j _ _ ?_⟩;clear j z av;go_simp;apply aG;rfl;intro g s;go_simp;exact aF
      repeat (apply bE;rfl;rfl;go_simp;go_simp;rfl;apply aG;rfl;intro g s;go_simp;exact aF)
      clear cC cD cE cF;refine bq rfl rfl (fun z j=>?_);go_simp;refine bi.out.mono ?_;rintro e wm ⟨⟨r,rfl,L,b6⟩,aX⟩;have cu:=L.map b6;obtain⟨t1,t2,t3,rfl,an⟩:=id L;obtain⟨q1,l1,rfl⟩:=aK an.seen;obtain⟨q2,l2,rfl⟩:=aK an.items;obtain⟨q3,l3,rfl⟩:=aK an.gone;refine⟨_,rfl,aX,j _ _ ?_⟩;clear j z bi;go_simp;have ar:=uY bG.out;have HG:=ae (ze wm _ _ U.m cu ar.1 ar.2.1 ar.2.2);have bs:=ae aX;clear cu L an b6 aX ar;apply aG;rfl;intro g s;go_simp;exact aF
      repeat (apply bE;rfl;rfl;go_simp;go_simp;rfl;apply aG;rfl;intro g s;go_simp;exact aF)
      refine bq rfl rfl (fun z j=>?_);go_simp;refine HG.out.mono ?_;rintro e wg ⟨r,rfl,-,I,aW⟩;obtain⟨t1,t2,t3,rfl,I⟩:=I;obtain⟨f1,l1,rfl,-⟩:=I.seen.shape;obtain⟨f2,l2,rfl,-⟩:=I.items.shape;obtain⟨f3,l3,rfl,-⟩:=I.gone.shape;refine⟨_,rfl,aW,j _ _ ?_⟩;clear j z HG;go_simp;have aV:Below C.heap.size C wg:=bs.out.trans (aW.mono bs.out.size);have Z:=zT wg _ _ (.agg #[.slice f1 U.m.seen.length l1,.slice f2 U.m.items.length l2,.slice f3 U.m.gone.length l3]) (.agg #[.slice b1 U.m.seen.length e1,.slice b2 U.m.items.length e2,.slice b3 U.m.gone.length e3]) U.m U.m ⟨_,_,_,rfl,I⟩ ⟨_,_,_,rfl,cN.out.keep (w':=wg) fun q _ a4=>aV.block q a4⟩;rw[X.out.1,X.out.2.1,X.out.2.2] at Z;rw[X.out.1,X.out.2.1,X.out.2.2];have bl:=ae Z;have br:=ae aV;clear I aW aV Z;apply aG;rfl;intro g s;go_simp;exact aF
      repeat (apply bE;rfl;rfl;go_simp;go_simp;rfl;apply aG;rfl;intro g s;go_simp;exact aF)
      refine bq rfl rfl (fun z j=>?_);go_simp;refine bl.out.mono ?_;rintro e ws ⟨r,rfl,E,aZ⟩;obtain rfl:r=true:=E.2 rfl;refine⟨_,rfl,aZ,j _ _ ?_⟩;have ay:=ae (show Below w.heap.size w ws from bt.out.trans ((br.out.trans (aZ.mono br.out.size)).mono bt.out.size));clear j z bl E aZ;go_simp;have t:=ae (jO ws (P.out _ ay.out));apply aG;rfl;intro g s;go_simp;exact aF
      repeat (apply bE;rfl;rfl;go_simp;go_simp;rfl;apply aG;rfl;intro g s;go_simp;exact aF)
      refine bq rfl rfl (fun z j=>?_);go_simp;refine t.out.mono ?_;rintro e wz ⟨rfl,l⟩;have B:=ae (ay.out.trans (l.mono ay.out.size));refine⟨_,rfl,l,j _ _ ?_⟩;clear j z t l;go_simp;apply aG;rfl;intro g s;go_simp;exact aF
      repeat (apply bE;rfl;rfl;go_simp;go_simp;rfl;apply aG;rfl;intro g s;go_simp;exact aF)
      refine aY ?_;go_wp2_with fail
      go_ret
      exact⟨rfl,B.out⟩
end
end Go.Proofs.YtobjdpngnfbicaaGreatDoor
