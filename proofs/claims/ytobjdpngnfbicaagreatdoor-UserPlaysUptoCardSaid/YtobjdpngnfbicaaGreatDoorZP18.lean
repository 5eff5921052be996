/-
  RArg UActs UXH UCalm AppNew UGiven UPair UTorn UPHalf UPAll UPForm OwnA UActsB ULight UWorks UPlays
-/
import Derived.Test.YtobjdpngnfbicaaGreatDoorZP17
import Derived.Lib.SmallJoins
open Go.IntWalk renaming u8_in->ap
open Nat renaming le_refl->aq,le_trans->au,lt_of_lt_of_le->aw
open List renaming getElem_mem->aC
open Go.Proofs.Tryz renaming prog->aE
set_option maxHeartbeats 40000000
set_option maxRecDepth 100000
set_option linter.all false
namespace Go.Proofs.YtobjdpngnfbicaaGreatDoor
open Go.RowKit
open Go.Proofs.Tryz
variable(w:World)(F:aQ)(n:Nat){W w':World}{G:aQ}{u:Value}{i j o:Nat}{l:List UInt8}{L:List Value}{r:aT}{N:MD}
section
open Go.ChangeShapes Go.WideShapes Go.ChangeAt Go.Deep
theorem kh{α:Type}(enc:α -> List Value)(k:Nat)(K:0<k)(s:∀x,(enc x).length=k)(E:List Value -> Prop)(Q:α -> Prop)(G:∀g,E g -> ∃x,g=enc x /\ Q x){w:World}(h:tk k E w u j):
 ∃l:List α,l.length=j /\ (∀x∈l,Q x) /\ Rows (λb=>b<w.heap.size) w k u j (l.flatMap enc):=by
 obtain⟨a,e,rfl,o,p,D,F⟩:=h
 by_cases z:j=0
 ·subst z;exact⟨[],rfl,nofun,a,e,rfl,o,p,D,by simp,.inl rfl⟩
 ·obtain⟨b,c,L,t,C,rfl,I,J,M,H⟩:=F.resolve_left z;have d:∀i,i<j -> ∃x,(L.toList.drop (c+i*k)).take k=enc x /\ Q x:=λi hi=>G _ (H i hi)
  obtain⟨O,_⟩:=d 0 (by omega)
  let f:Nat -> α:=λi=>if h:i<j then Classical.choose (d i h) else O
  have q:∀i,i<j -> (L.toList.drop (c+i*k)).take k=enc (f i) /\ Q (f i):=λi h=>by
   simp only[f,dif_pos h];exact Classical.choose_spec (d i h)
  have y:((List.range j).map f).length=j:=by simp
  refine⟨(List.range j).map f,y,λx N=>?_,some ⟨b,c,none⟩,e,rfl,o,p,nofun,by rw[dG enc k s,y],.inr ⟨b,c,L,t,C,rfl,I,J,M,λi hi=>?_⟩⟩
  ·obtain⟨i,hi,rfl⟩:=List.mem_map.1 N;exact(q i (List.mem_range.1 hi)).2
  ·have A:i/k<j:=Nat.div_lt_of_lt_mul (by rw[Nat.mul_comm];exact hi);have B:i%k<k:=Nat.mod_lt _ K;have r:i/k*k+i%k=i:=by rw[Nat.mul_comm];exact Nat.div_add_mod i k
   have m:=fD enc k s ((List.range j).map f) (i/k) (i%k) (by simpa using A) B;rw[r] at m;rw[m];simp only[List.getElem_map,List.getElem_range];rw[<- (q _ A).1,List.getElem?_take,if_pos B,List.getElem?_drop,Nat.add_assoc,r];simp
def Ea(a:List Value):Prop:=∃n:Int,a = [.int .i64 n] /\ dk n
def Eb(a:List Value):Prop:=∃s:ByteArray,a = [.string s] /\ s.size <= maxLen
def Gq(l:List UInt8):List Value:=[Go.Proofs.encStr l]
theorem wG(s:ByteArray):Value.string s=Go.Proofs.encStr s.data.toList:=by cases s;simp[Go.Proofs.encStr]
theorem E6{s:ByteArray}(h:s.size <= maxLen):s.data.toList.length <= 9223372036854775807:=by
 have:s.size=s.data.size:=rfl;simp;unfold maxLen at h;omega
section
variable {H:Type} {enc:TypeId×Value -> H} {w:World} {base:Nat} {held:Bool}
theorem qg{y:DataW H×List MemPlace}(h:DataW.trod enc aE w base (λ_=>true) held i 3 L=some y):Ea L:=by
 obtain⟨z,rfl,_,a⟩:=DataW.trod_int underlying3 h;exact⟨z,rfl,bounds_i64 a⟩
theorem FX{y:DataW H×List MemPlace}(h:DataW.trod enc aE w base (λ_=>true) held i 9 L=some y):Eb L:=by
 obtain⟨s,rfl,_,a⟩:=DataW.trod_string underlying9 h;exact⟨s,rfl,a⟩
theorem qh:aE.cellsOf 9=1:=by kernel_rfl
theorem mX:aE.cellsOf 3=1:=by kernel_rfl
theorem Au:aE.cellsOf 33=1:=by kernel_rfl
end
theorem Co(l:List Int):l.flatMap (λn=>[eI n])=l.map eI:=by induction l with
 |nil=>rfl
 |cons x l a=>rw[List.flatMap_cons,a];rfl
theorem Cq(l:List (List UInt8)):l.flatMap Gq=l.map Go.Proofs.encStr:=by induction l with
 |nil=>rfl
 |cons x l a=>rw[List.flatMap_cons,a];rfl
end
section
open Go.ChangeShapes Go.WideShapes Go.ChangeAt Go.Deep
section
variable {H:Type} {enc:TypeId×Value -> H} {w:World} {base:Nat} {held:Bool}
theorem qP:aE.cellsOf 108=4:=by kernel_rfl
theorem qQ:aE.cellsOf 111=3:=by kernel_rfl
theorem wH:aE.cellsOf 34=1:=by kernel_rfl
theorem wI:aE.cellsOf 35=1:=by kernel_rfl
theorem yO:aE.cellsOf 32=1:=by kernel_rfl
theorem tp:aE.cellsOf 37=3:=by kernel_rfl
theorem Cr:aE.cellsOf 5=1:=by kernel_rfl
theorem tq:aE.cellsOf 39=7:=by kernel_rfl
end
structure tR where
 kind:Int
 keys:List (List UInt8)
 m:aT
 n:Int
 b:UInt8
def Av(w:World)(f:Nat)(k:List Value)(A:tR):Prop:=
 (0 <= A.kind /\ A.kind <= 255) /\ dk A.n /\ ∃j e g a h c i d,k = [.int .u8 A.kind,.slice j A.keys.length e,.slice g A.m.seen.length a,.slice h A.m.items.length c,.slice i A.m.gone.length d,.int .i64 A.n,B A.b] /\
  Rows (λq=>q<f) w 1 (.slice j A.keys.length e) A.keys.length (A.keys.map Go.Proofs.encStr) /\ (∀x∈A.keys,x.length <= 9223372036854775807) /\ ce (λq=>q<f) w (.slice g A.m.seen.length a) (.slice h A.m.items.length c) (.slice i A.m.gone.length d) A.m
def pH(w:World)(d:Nat)(v:Value)(A:List tR):Prop:=
 ∃a r,v=.slice a A.length r /\ A.length <= 9223372036854775807 /\ (A = [] \/ ∃b c,a=some ⟨b,c,none⟩ /\ b<d /\ ∀i (h:i<A.length),(0 <= A[i].kind /\ A[i].kind <= 255) /\ dk A[i].n /\ (∀x∈A[i].keys,x.length <= 9223372036854775807) /\ ∃p j k e l f o g,
  w.cell? ⟨b,c+i*7,none⟩=some (.int .u8 A[i].kind) /\ w.cell? ⟨b,c+i*7+1,none⟩=some (.slice p A[i].keys.length j) /\ w.cell? ⟨b,c+i*7+2,none⟩=some (.slice k A[i].m.seen.length e) /\ w.cell? ⟨b,c+i*7+3,none⟩=some (.slice l A[i].m.items.length f) /\ w.cell? ⟨b,c+i*7+4,none⟩=some (.slice o A[i].m.gone.length g) /\ w.cell? ⟨b,c+i*7+5,none⟩=some (.int .i64 A[i].n) /\ w.cell? ⟨b,c+i*7+6,none⟩=some (B A[i].b) /\
  Rows (λq=>q<d) w 1 (.slice p A[i].keys.length j) A[i].keys.length (A[i].keys.map Go.Proofs.encStr) /\ ce (λq=>q<d) w (.slice k A[i].m.seen.length e) (.slice l A[i].m.items.length f) (.slice o A[i].m.gone.length g) A[i].m)
theorem pH.kept{w w':World}{A:List tR}(h:pH w o u A)(d:Below o w w'):pH w' o u A:=by
 obtain⟨a,m,rfl,F,h⟩:=h;refine⟨a,m,rfl,F,?_⟩;rcases h with h|⟨b,I,rfl,f,h⟩
 ·exact .inl h
 ·refine .inr ⟨b,I,rfl,f,λi hi=>?_⟩;obtain⟨C,D,E,M,n,J,g,K,k,L,l,r,s,t,x,y,z,B,H,G⟩:=h i hi;have c:∀j,w'.cell? ⟨b,j,none⟩=w.cell? ⟨b,j,none⟩:=λj=>d.cell (p:=⟨b,j,none⟩) f
  exact⟨C,D,E,M,n,J,g,K,k,L,l,(c _).trans r,(c _).trans s,(c _).trans t,(c _).trans x,(c _).trans y,(c _).trans z,(c _).trans B,H.keep (w':=w') λq e _=>d.block q e,G.keep (w':=w') λq e _=>d.block q e⟩
end
section
open Go.Lib
def UXH(w:World)(a hi d u:Nat)(M:MD)(U:MU):Prop:=∃b,b.K.d=d /\ 3<a /\ a <= hi /\ hi <= w.heap.size /\ (∀q,b.all q -> a <= q /\ q<hi) /\ (a <= u /\ u<hi) /\ UAt w b u M U
theorem UX.at{U:MU}(h:UX W i j o N U):UXH W i W.heap.size j o N U:=by
 obtain⟨l,c,e,f,g,k,a⟩:=h;exact⟨l,c,e,f,aq _,λq b=>⟨g q b,a.jat.lt q b⟩,⟨k,a.lt⟩,a⟩
theorem UXH.ux{a i d u:Nat}{U:MU}(h:UXH W a i d u N U):UX W a d u N U:=by
 obtain⟨k,b,c,l,m,e,f,g⟩:=h;exact⟨k,b,c,by omega,λq j=>(e q j).1,f.1,g⟩
theorem UXH.keep{w w':World}{c b d u:Nat}{M:MD}{U:MU}(h:UXH w c b d u M U)(a:Kpt w w'):UXH w' c b d u M U:=by
 obtain⟨m,e,f,g,i,j,k,l⟩:=h;exact⟨m,e,f,g,au i a.size,j,k,l.keep a⟩
/-! an act -/
structure E7(A:tR):Prop where
 kind:0 <= A.kind /\ A.kind <= 255
 num:dk A.n
 keys:A.keys.length <= 20
 klen:∀k∈A.keys,k.length <= 60
 items:A.m.items.length <= 20
 gone:A.m.gone.length <= 20
 seen:A.m.seen.length <= 20
end
theorem E8{P:Program}(c f:TypeId){g:TypeInfo}{z:Value}(A:P.underlying c=some (.slice f))(v:P.info? f=some g)(Q:g.zero=some z)(O:g.size=i)(I:g.bytes=o)(ab:z.cells.size=i)(V:0<i)
 (d:Nat) (s:Blk w d [] f) (q:n <= d) (F:aQ) (x:Value) (m:Nat) (X:List Value) (B:Rows F w i x m X) (S:∀u∈X,u.oneCell'=true)
 (ak:m <= maxLen) (G:m*o <= 140737488355328) (T:n <= w.heap.size):
 ∃l h,(AP #[c,c] c #[.slice (some ⟨d,0,none⟩) 0 0,x]).run P w=.ok l h /\ h.ownsRow n f i l m X /\ Kpt w h:=by
 have N:w.ownsRow n f i (.slice (some ⟨d,0,none⟩) 0 0) 0 []:=⟨by simp,.inr ⟨d,0,#[],rfl,q,s,aq _,by unfold maxLen;omega,by simp,by simp⟩⟩
 obtain⟨l,h,D,M,-⟩:=en (P:=P) w n c f A v Q O I ab V _ 0 [] N F x m X B S (by omega) (by simpa using G) T;rw[Nat.zero_add,List.nil_append] at M;refine⟨l,h,D,M,?_⟩;obtain⟨a,C,rfl,hc,Y,ag,E,B⟩:=B;cases a with
 |none=>
  have p:=run_append_owned_none (P:=P) w n c c f g i A v _ _ _ N;obtain rfl:=ag rfl;obtain rfl:m=0:=by omega
  have e:(Builtin.append_ #[c,c] c #[.slice (some ⟨d,0,none⟩) 0 0,.slice none 0 0]).run P w=.ok l h:=D;rw[p] at e;simp at e;rw[<- e.2];exact Below.refl _ _
 |some r=>
  have K:∀j u,X[j]?=some u -> w.cell? (r.add j)=some u:=λj u y=>by
   have J:j<m*i:=by rw[<- E];exact(List.getElem?_eq_some_iff.1 y).1
   rcases B with rfl|⟨b,ai,L,t,R,q,hF,U,hL,aa⟩
   ·simp at J
   ·simp at q;subst q;rw[Addr.add_lit,cell_of_row w b (ai+j) L t R U,aa j J,y]
  have e:(Builtin.append_ #[c,c] c #[.slice (some ⟨d,0,none⟩) 0 0,.slice (some r) m C]).run P w=.ok l h:=D
  by_cases Z:m=0
  ·subst Z;obtain rfl:X = []:=List.length_eq_zero_iff.1 (by omega);have p:=run_append_room (P:=P) w c c f g A v d 0 0 #[] s r 0 C [] (by simp) K nofun (aq _) (by simp);rw[p] at e;simp at e;rw[<- e.2];refine⟨rfl,rfl,rfl,by simp[World.setRow],λb q=>?_⟩
   by_cases H:b=d
   ·subst H;rw[setRow_heap w b #[] _ f (0,0) s];exact s.symm
   ·exact setRow_other w d b _ H
  ·have p:=run_append_grow (P:=P) w c c f g z A v Q ⟨d,0,none⟩ 0 0 [] (by simp) (λj u y=>by simp at y) r m C X (by rw[E,O]) K (by omega) (by unfold maxLen at Y;simp;omega) (growslice_fits (by omega) (by rw[I];simpa using G));rw[p] at e;simp only[Result.ok.injEq] at e;rw[<- e.2];exact(Below.refl w.heap.size w).drew.alloc (aq _) _
section
open Go.Lib
attribute [local go_sem ↓] aU
structure pI(tA tO tI tIt tGo:TypeId)(bo:Nat)(w wr:World)(m:aT)(P:List Value)(v1 v2 v3:Value)(k2 k3:Nat):Prop where
 lo:w.heap.size+1<bo
 x:Blk wr bo [v1,v2,v3] tO
 par:Blk wr w.heap.size P tA
 res:Blk wr (w.heap.size+1) [.slice none 0 0,.slice none 0 0,.slice none 0 0] tO
 o1:wr.ownsRow w.heap.size tI 1 v1 m.seen.length (m.seen.map eI)
 o2:wr.ownsRow w.heap.size tIt 4 v2 k2 ((m.items.take k2).flatMap bT)
 o3:wr.ownsRow w.heap.size tGo 3 v3 k3 ((m.gone.take k3).flatMap du)
 below:Kpt w wr
section
variable {tA tO tI tIt tGo:TypeId} {bo:Nat} {w wr:World} {m:aT} {P:List Value} {v1 v2 v3:Value} {k2 k3:Nat}
theorem pI.kept(a:pI tA tO tI tIt tGo bo w wr m P v1 v2 v3 k2 k3)(b:Kpt wr W):pI tA tO tI tIt tGo bo w W m P v1 v2 v3 k2 k3:=
 ⟨a.lo,a.x.keep (b.block _ a.x.lt),a.par.keep (b.block _ a.par.lt),a.res.keep (b.block _ a.res.lt),br a.o1 b,br a.o2 b,br a.o3 b,a.below.trans (b.mono a.below.size)⟩
theorem pI.stepIt(a:pI tA tO tI tIt tGo bo w wr m P v1 v2 v3 k2 k3)(e:k2<m.items.length)(l:W.ownsRow w.heap.size tIt 4 u (k2+1) ((m.items.take k2).flatMap bT++bT m.items[k2]))(b:wr.grownBy W v2.ownBlock)
 (d:tIt≠tO) (g:tIt≠tA) (h:tIt≠tI) (i:tIt≠tGo) (j:tI≠tO) (k:tGo≠tO):pI tA tO tI tIt tGo bo w (W.setCell ⟨bo,1,none⟩ u) m P v1 u v3 (k2+1) k3:=by
 have c:=a.x.grownNe a.o2 d b;have n:=a.x.lt;have f:=a.lo;refine⟨f,c.set 1 u,(a.par.grownNe a.o2 g b).set_other u (by show w.heap.size≠bo;omega),(a.res.grownNe a.o2 d b).set_other u (by show w.heap.size+1≠bo;omega),aL (bZ a.o1 a.o2 h b) c j _,?_,aL (bZ a.o3 a.o2 i b) c k _,?_⟩
 ·rw[ub _ _ _ e];exact aL l c d _
 ·exact(a.below.trans (Below.grownOwn a.o2 b a.below.size (aq _))).setCell (by show w.heap.size <= bo;omega) _
theorem pI.stepGo(a:pI tA tO tI tIt tGo bo w wr m P v1 v2 v3 k2 k3)(e:k3<m.gone.length)(l:W.ownsRow w.heap.size tGo 3 u (k3+1) ((m.gone.take k3).flatMap du++du m.gone[k3]))(b:wr.grownBy W v3.ownBlock)
 (d:tGo≠tO) (g:tGo≠tA) (h:tGo≠tI) (i:tGo≠tIt) (j:tI≠tO) (k:tIt≠tO):pI tA tO tI tIt tGo bo w (W.setCell ⟨bo,2,none⟩ u) m P v1 v2 u k2 (k3+1):=by
 have c:=a.x.grownNe a.o3 d b;have f:=a.lo;refine⟨f,c.set 2 u,(a.par.grownNe a.o3 g b).set_other u (by show w.heap.size≠bo;omega),(a.res.grownNe a.o3 d b).set_other u (by show w.heap.size+1≠bo;omega),aL (bZ a.o1 a.o3 h b) c j _,aL (bZ a.o2 a.o3 i b) c k _,?_,?_⟩
 ·rw[ub _ _ _ e];exact aL l c d _
 ·exact(a.below.trans (Below.grownOwn a.o3 b a.below.size (aq _))).setCell (by show w.heap.size <= bo;omega) _
theorem pI.done(a:pI tA tO tI tIt tGo bo w wr m P v1 v2 v3 k2 k3)(s:k2=m.items.length)(t:k3=m.gone.length){y z A:Value}(f:ce G W y z A m)(g:tI≠tO)(j:tIt≠tO)(k:tGo≠tO)
 (v:w'=((wr.setCell ⟨w.heap.size+1,0,none⟩ v1).setCell ⟨w.heap.size+1,1,none⟩ v2).setCell ⟨w.heap.size+1,2,none⟩ v3):
 Blk w' (w.heap.size+1) [v1,v2,v3] tO /\ di (λb=>w.heap.size <= b) w' (.agg #[v1,v2,v3]) m /\ Fc tI tIt tGo w' w.heap.size (.agg #[v1,v2,v3]) m /\ Kpt w w':=by
 subst s t v;have c:=a.res;have d:=c.set 0 v1;have e:=d.set 1 v2;have x:=e.set 2 v3;have l:=a.o2;have n:=a.o3;rw[List.take_length] at l n;have o:=aL (i:=2) (aL (i:=1) (aL (i:=0) a.o1 c g v1) d g v2) e g v3;have q:=aL (i:=2) (aL (i:=1) (aL (i:=0) l c j v1) d j v2) e j v3;have r:=aL (i:=2) (aL (i:=1) (aL (i:=0) n c k v1) d k v2) e k v3;have u:Kpt w _:=((a.below.setCell (p:=⟨w.heap.size+1,0,none⟩) (by show w.heap.size <= w.heap.size+1;omega) v1).setCell (p:=⟨w.heap.size+1,1,none⟩) (by show w.heap.size <= w.heap.size+1;omega) v2).setCell (p:=⟨w.heap.size+1,2,none⟩) (by show w.heap.size <= w.heap.size+1;omega) v3;exact⟨x,⟨v1,v2,v3,rfl,(Rows.of_owns o).mono (λb h _=>h.1),(Rows.of_owns q).mono (λb h _=>h.1),(Rows.of_owns r).mono (λb h _=>h.1),f.seenB,f.itemsB,f.goneB⟩,⟨v1,v2,v3,rfl,o,q,r⟩,u⟩
end
theorem tr(w:World)(F:aQ)(v:Value)(m:aT)(h:di F w v m)(hs:m.seen.length <= 1000000)(hi:m.items.length <= 1000000)(hg:m.gone.length <= 1000000):
 Calls aE 36 #[v] w (zg 3 129 130 w m):=by
 replace h:=jF h 37
 obtain⟨a1,p1,X,p2,Y,p3,r,s,t,wx,rfl,h,l1,l2,l3,D,V,W,a5,ab,ai,Hx,az,c0,c1,c2⟩:=h
 try rw[D.x]
 try rw[V.x]
 try rw[W.x]
 rw[D.x] at hs;rw[V.x] at hi;rw[W.x] at hg;have Hh:=ae h;obtain⟨C,B⟩:=aP ((wx.alloc (.cells #[.slice none 0 0,.slice none 0 0,.slice none 0 0] 75)).alloc (.cells #[] 3));have ak:Kpt w C:=by rw[B];exact(ab.x.alloc ab.x.size _).alloc (by have:=ab.x.size;simp;omega) _
 have bf:C.heap.size=w.heap.size+3:=by rw[B];simp[ai.x]
 have aR:ce F C _ _ _ m:=h.keep λb _ R=>ak.block b R
 have aJ:Blk C (w.heap.size+1+1) [] 3:=by
  have:=Blk.new (wx.alloc (.cells #[.slice none 0 0,.slice none 0 0,.slice none 0 0] 75)) #[] 3;rw[B];simpa[ai.x] using this
 have av:Blk C (w.heap.size+1) [.slice none 0 0,.slice none 0 0,.slice none 0 0] 75:=by
  have:=(Blk.new wx #[.slice none 0 0,.slice none 0 0,.slice none 0 0] 75).alloc (.cells #[] 3);rw[B];simpa[ai.x] using this
 have ao:Blk C w.heap.size _ _:=az.x.keep (by rw[B];exact((aI wx _).trans (aI _ _ |>.mono (by simp))).block _ az.x.lt);obtain⟨i0,j,l,u,x⟩:=info_parts ua;obtain⟨v1,w3,H,Z,L⟩:=E8 (P:=aE) C w.heap.size 33 3 underlying33 j l u x rfl (by decide) (w.heap.size+1+1) aJ (by omega) F _ _ _ aR.seen (ze _) (by rw[D.x];unfold maxLen;omega) (by rw[D.x];omega) (by omega);rw[D.x] at Z;obtain⟨E,G,rfl,-⟩:=(Rows.of_owns Z).shape;have al:Kpt w w3:=ak.trans (L.mono (by omega));have ax:=av.keep (L.block _ av.lt);have ar:=ao.keep (L.block _ ao.lt);have bd:=L.size;obtain⟨w4,aa⟩:=aP (w3.alloc (.cells #[.slice E r G,.slice none 0 0,.slice none 0 0] 75));have M:Kpt w3 w4:=by rw[aa];exact aI _ _
 obtain⟨bo,an⟩:=aP w3.heap.size
 have aS:pI 37 75 3 129 130 bo w w4 m [.slice a1 r p1,.slice X s p2,.slice Y t p3] (.slice E r G) (.slice none 0 0) (.slice none 0 0) 0 0:=
  ⟨by omega,by rw[aa,an];exact Blk.new _ _ _,ar.keep (M.block _ ar.lt),ax.keep (M.block _ ax.lt),by rw[D.x];exact br Z M,World.ownsRow_nil _ _ _ _,World.ownsRow_nil _ _ _ _,al.trans (M.mono al.size)⟩
 rw[B,a5.x] at H;have⟨aZ,a0,aV⟩:=ae3 aS aa an;clear h aR aJ ao av Z L ar ax al aS aa B ak bf j l u x M bd an
 go_enter func36,ntmps36
 go_wp2;rw[<- a0.x,<- aV.x];clear H
 go_loopw [4] (λi wr=>∃(k:Nat)(v2:Value),k <= s /\ i=.int .i64 (k:Int) /\ pI 37 75 3 129 130 bo w wr m [.slice a1 r p1,.slice X s p2,.slice Y t p3] (.slice E r G) v2 (.slice none 0 0) k 0) (λi _=>s-(intOf i).toNat)
 ·exact⟨0,_,by omega,rfl,aZ.x⟩
 ·obtain⟨k,v2,hk,rfl,a⟩:=hrel;have r1:wr.cell? ⟨w.heap.size,1,none⟩=some (.slice X s p2):=by simpa using a.par.cell 1
  by_cases a9:k<s
  ·have a7:(k:Int)<(s:Int):=by omega
   have Q:k<m.items.length:=by rw[V.x];exact a9
   have S:=Hh.x.keep (w':=wr) λb _ R=>a.below.block b R
   obtain⟨b,bg,rfl,-,a6,O⟩:=fw S.items (by omega);obtain⟨I,J,K,e3⟩:=O k Q;obtain⟨q,o⟩:=aH m.items[k];rw[o] at I J K e3;obtain⟨g,f,n,U⟩:=q;dsimp only at I J K e3;obtain⟨e,p⟩:=aP (wr.alloc (.cells #[.string ⟨g.toArray⟩,.int .i64 f,.int .i64 n,.int .i64 U] 108));have N:Kpt wr e:=by rw[p];exact aI _ _
   have d:=a.kept N;obtain⟨i0,j,l,u,x⟩:=info_parts mG;obtain⟨bi,w5,H,A,y⟩:=cu (P:=aE) e w.heap.size 72 129 underlying72 j l u x rfl (by decide) v2 k _ d.o2 #[.string ⟨g.toArray⟩,.int .i64 f,.int .i64 n,.int .i64 U] rfl (by simp[Value.oneCell']) (by unfold maxLen;omega) (by omega) (by have:=d.below.size;omega);obtain⟨b2,d2,rfl,-⟩:=(Rows.of_owns A).shape;have T:=(d.kept (aI e (.cells #[.string ⟨g.toArray⟩,.int .i64 f,.int .i64 n,.int .i64 U] 129))).stepIt Q (by rw[o];exact A) y (by decide) (by decide) (by decide) (by decide) (by decide) (by decide);have z:=(d.kept (aI e (.cells #[.string ⟨g.toArray⟩,.int .i64 f,.int .i64 n,.int .i64 U] 129))).x.grownNe (d.kept (aI e (.cells #[.string ⟨g.toArray⟩,.int .i64 f,.int .i64 n,.int .i64 U] 129))).o2 (by decide) y;have o1:=z.cell 1;have f1:=z.free 1;simp at o1;have be:wr.cell? ⟨bo,1,none⟩=some v2:=by simpa using a.x.cell 1
   have bc:=a.x.lt;have bb:=a.par.lt;have⟨ag,Hq⟩:=ae2 T o;rw[show e.heap.size=wr.heap.size+1 by rw[p];simp,p] at H;clear S O o N d A y T z a j l u x p;go_wp2
   go_roundw
   ·exact⟨k+1,_,by omega,by go_num,ag.x⟩
   ·simp[intOf];omega
  ·have a7:¬(k:Int)<(s:Int):=by omega
   have aK:k=m.items.length:=by rw[V.x];omega
   have⟨aF,aW⟩:=ae2 a aK;clear a aK;go_wp2;clear r1
   go_loopw [6] (λi wr=>∃(c:Nat)(v3:Value),c <= t /\ i=.int .i64 (c:Int) /\ pI 37 75 3 129 130 bo w wr m [.slice a1 r p1,.slice X s p2,.slice Y t p3] (.slice E r G) v2 v3 k c) (λi _=>t-(intOf i).toNat)
   ·exact⟨0,_,by omega,rfl,aF.x⟩
   ·obtain⟨c,v3,bh,rfl,a⟩:=hrel;clear aF;have r1:wr.cell? ⟨w.heap.size,2,none⟩=some (.slice Y t p3):=by simpa using a.par.cell 2
    by_cases ba:c<t
    ·have a8:(c:Int)<(t:Int):=by omega
     have Q:c<m.gone.length:=by rw[W.x];exact ba
     have S:=Hh.x.keep (w':=wr) λb _ R=>a.below.block b R
     obtain⟨b,bg,rfl,-,a6,O⟩:=gh S.gone (by omega);obtain⟨I,J,K⟩:=O c Q;obtain⟨q,o⟩:=aH m.gone[c];rw[o] at I J K;obtain⟨g,f,n⟩:=q;dsimp only at I J K;obtain⟨e,p⟩:=aP (wr.alloc (.cells #[.string ⟨g.toArray⟩,.int .i64 f,.int .i64 n] 111));have N:Kpt wr e:=by rw[p];exact aI _ _
     have d:=a.kept N;obtain⟨i0,j,l,u,x⟩:=info_parts rg;obtain⟨bj,w5,H,A,y⟩:=cu (P:=aE) e w.heap.size 73 130 underlying73 j l u x rfl (by decide) v3 c _ d.o3 #[.string ⟨g.toArray⟩,.int .i64 f,.int .i64 n] rfl (by simp[Value.oneCell']) (by unfold maxLen;omega) (by omega) (by have:=d.below.size;omega);obtain⟨b3,d3,rfl,-⟩:=(Rows.of_owns A).shape;have T:=(d.kept (aI e (.cells #[.string ⟨g.toArray⟩,.int .i64 f,.int .i64 n] 130))).stepGo Q (by rw[o];exact A) y (by decide) (by decide) (by decide) (by decide) (by decide) (by decide);have z:=(d.kept (aI e (.cells #[.string ⟨g.toArray⟩,.int .i64 f,.int .i64 n] 130))).x.grownNe (d.kept (aI e (.cells #[.string ⟨g.toArray⟩,.int .i64 f,.int .i64 n] 130))).o3 (by decide) y;have o1:=z.cell 2;have f1:=z.free 2;simp at o1;have be:wr.cell? ⟨bo,2,none⟩=some v3:=by simpa using a.x.cell 2
     have bc:=a.x.lt;have bb:=a.par.lt;have⟨ag,Hq⟩:=ae2 T o;rw[show e.heap.size=wr.heap.size+1 by rw[p];simp,p] at H;clear S O o N d A y T z a j l u x p;go_wp2
     go_roundw
     ·exact⟨c+1,_,by omega,by go_num,ag.x⟩
     ·simp[intOf];omega
    ·have a8:¬(c:Int)<(t:Int):=by omega
     have aL:c=m.gone.length:=by rw[W.x];omega
     obtain⟨b2,d2,rfl,-⟩:=(Rows.of_owns a.o2).shape;obtain⟨b3,d3,rfl,-⟩:=(Rows.of_owns a.o3).shape;have x0:=a.x.cell 0;have x1:=a.x.cell 1;have x2:=a.x.cell 2;have y0:=a.res.cell 0;have y1:=a.res.cell 1;have y2:=a.res.cell 2;have z0:=a.res.free 0;have z1:=a.res.free 1;have z2:=a.res.free 2;simp at x0 x1 x2 y0 y1 y2;obtain⟨wf,ay⟩:=aP (((wr.setCell ⟨w.heap.size+1,0,none⟩ (.slice E r G)).setCell ⟨w.heap.size+1,1,none⟩ (.slice b2 k d2)).setCell ⟨w.heap.size+1,2,none⟩ (.slice b3 c d3));obtain⟨aO,aM,aN,aG⟩:=a.done aW.x aL Hh.x (by decide) (by decide) (by decide) ay;have⟨a4,aX,aY,aU,ad⟩:=ae5 ay aM aN aG aO;clear a aL ay aO aM aN aG;go_wp2;rw[<- a4.x];have q0:=ad.x.cell 0;have j:=ad.x.cell 1;have l:=ad.x.cell 2;simp at q0 j l;exact bodyPost_ret (v:=.agg #[.slice E r G,.slice b2 k d2,.slice b3 c d3]) (by simp[results,results36,go_sem,q0,j,l]) rfl ⟨_,rfl,aY.x,aX.x,aU.x⟩
end
section
open Go.Lib
attribute [local go_sem] opC upC told bE bm bF bp bq bG bH
structure wJ(M:MD)(r:MD×MU×Int):Prop where
 dev:r.2.1.dev<8
 valid:aV r.2.1.m=true
 wr:r.1.writes <= M.writes+200000
theorem gR{U:MU}(a:U.dev<8)(b:aV U.m=true)(e:Int):wJ N (N,U,e):=⟨a,b,Nat.le_add_right _ _⟩
theorem tt{U:MU}(a:U.dev<8)(e:aV U.m=true)(b:List UInt8)(g:aV r=true):wJ N (cE N U b r):=by
 have f:=(B6 N U b r).2;obtain⟨c,d⟩:=oD N U b;refine⟨?_,?_,f⟩
 ·rw[lM];dsimp only;split
  ·exact a
  ·rw[c];exact a
 ·rw[lM];dsimp only;split
  ·exact g
  ·rw[d];exact e
theorem qR{U:MU}(a:U.dev<8)(c:aV U.m=true)(l:List bQ)(b:List UInt8){p:aT×Int}(d:p.2=0 -> aV p.1=true):wJ N (dz N U l p b):=by
 unfold dz;split
 ·exact gR a c _
 ·split
  ·exact gR a c _
  ·split
   ·rename_i h;exact tt a c _ (d h)
   ·exact gR a c _
theorem Cs{U:MU}(a:U.dev<8)(b:aV U.m=true)(x:aT):wJ N (fU N U x):=by
 unfold fU;split
 ·exact gR a b _
 ·split
  ·split
   ·exact gR a b _
   ·rename_i h _;exact tt a b _ (py h).2.2
  ·exact gR a b _
theorem Aw{U:MU}(a:U.dev<8)(b:aV U.m=true):wJ N (iy N U):=by
 unfold iy;split
 ·exact gR a b _
 ·exact⟨a,b,au (A8 N U).2 (by omega)⟩
theorem wK(h:aV r=true):r.seen.length <= 1000000 /\ r.items.length <= 1000000 /\ r.gone.length <= 1000000:=by
 have:=cX h;omega
theorem uX(W d v:Nat)(M:MD)(o:Option MU)(pu pw:Value)(h:PX w F W d v M M o o pu pw)(hv:∀U,o=some U -> aV U.m=true):
 Calls aE 28 #[.pointer (some ⟨W,0,none⟩)] w λe a=>e=.returned (.bool true) /\ Kpt w a:=by
 obtain⟨K,R,rfl,rfl,hD⟩:=h.two.disks;obtain⟨g,Q⟩:=aP w.drew;have l:Kpt w g:=by rw[Q];exact(Below.refl _ _).drew
 have C:=h.keep l;have G:=hD.keep l;have⟨D,E⟩:=ae2 (xE g K M G.dat) (zm g K M G.dat);obtain⟨bd,bc,tv,-,-,ar,-,-,-⟩:=G.rat.main;have j:=ar.cell 1;have V:=ar.cell 5;simp at j V;have r1:∀a,aK g a -> a.cell? ⟨R.d,1,none⟩=some (.bool M.down):=λa hh=>(hh.cell (p:=⟨R.d,1,none⟩) (eK j)).trans j
 have r5:∀a,aK g a -> a.cell? ⟨R.d,5,none⟩=some (.int .i64 (M.writes:Int)):=λa hh=>(hh.cell (p:=⟨R.d,5,none⟩) (eK V)).trans V
 clear j V ar;obtain⟨S,j,H,I⟩:=dH C.box;have⟨aM,bb⟩:=ae2 Q l;obtain⟨dn,ak⟩:=aH M.down;rw[ak] at D r1;obtain⟨wr,av⟩:=aH M.writes;rw[av] at E r5;cases o with
 |none=>
  obtain⟨rfl,rfl,-⟩:=h.two;have i:∀q x,g.cell? q=some x -> ∀a,aK g a -> a.cell? q=some x:=λq x t a hh=>(hh.cell (p:=q) (eK t)).trans t
  have p0:=i _ _ S;have p1:=i _ _ j;have p2:=i _ _ H;have p3:=i _ _ I;obtain⟨k,z⟩:=aP g.drew;have s:Kpt g k:=by rw[z];exact(Below.refl _ _).drew
  have⟨N,aa⟩:=ae2 (l.trans (s.mono l.size)) z;have T:=(C.keep s).box.cell 3;simp at T;have be:∀a,aK k a -> a.cell? ⟨W,3,none⟩=some (.pointer none):=λa hh=>(hh.cell (p:=⟨W,3,none⟩) (eK T)).trans T
  clear h hD G C l Q i S j H I T s z ak av hv
  go_enter func28,ntmps28
  go_wp2_with fail;refine bP aK (up 16 [17,18,19,20,21,22,23,516,24,25,26,27,28,29,30,32,33,34,35,36,37,38,531,39,40]) (by kernel_rfl) ?_;rw[<- aM.x];apply aG;rfl;intro a c;go_simp;exact aF
  repeat (apply bK;rfl;rfl;go_simp;go_simp;rfl;apply aG;rfl;intro a c;go_simp;exact aF)
  refine aY rfl rfl (λf b=>?_);go_simp;refine D.x.mono ?_;rintro e L ⟨rfl,rfl⟩;refine⟨_,rfl,aZ _,b _ _ ?_⟩;clear b f D;go_simp;apply aG;rfl;intro a c;go_simp;exact aF
  repeat (apply bK;rfl;rfl;go_simp;go_simp;rfl;apply aG;rfl;intro a c;go_simp;exact aF)
  refine aY rfl rfl (λf b=>?_);go_simp;refine E.x.mono ?_;rintro e L ⟨rfl,rfl⟩;refine⟨_,rfl,aZ _,b _ _ ?_⟩;clear b f E;go_simp;apply aG;rfl;intro a c;go_simp;exact aF
  repeat (apply bK;rfl;rfl;go_simp;go_simp;rfl;apply aG;rfl;intro a c;go_simp;exact aF)
  refine aW ?_;clear p0 p1 p2 p3 r1 r5;go_wp2_with fail;refine bP aK (up 10 [11,12,13,14,15,16,17,510,18,19,20,21,22,23,25,26,27,28,29,30,31,32,33,34,524,35,36,37,38,39,40,41,44,45,46,47,48,49,50,542,543,551,52,53,54]) (by kernel_rfl) ?_;rw[<- aa.x];apply aG;rfl;intro a c;go_simp;exact aF
  repeat (apply bK;rfl;rfl;go_simp;go_simp;rfl;apply aG;rfl;intro a c;go_simp;exact aF)
  refine aW ?_;go_wp2
  go_ret
  exact⟨rfl,N.x⟩
 |some U=>
  obtain⟨jk,rk,u,ur,rfl,rfl,-,-,hX⟩:=C.two;have aL:=ae (hv U rfl);have i:∀q x,g.cell? q=some x -> ∀a,aK g a -> a.cell? q=some x:=λq x t a hh=>(hh.cell (p:=q) (eK t)).trans t
  have p0:=i _ _ S;have p1:=i _ _ j;have p2:=i _ _ H;have p3:=i _ _ I;obtain⟨k,z⟩:=aP g.drew;have s:Kpt g k:=by rw[z];exact(Below.refl _ _).drew
  have⟨N,aa⟩:=ae2 (l.trans (s.mono l.size)) z;have B:=hX.keep s;obtain⟨-,g1,-,g3⟩:=dH (C.keep s).box;obtain⟨b1,e1,b2,e2,b3,e3,aO,aX⟩:=B.rat.box;obtain⟨c0,c1,c2,c3,c4⟩:=dr aO;obtain⟨ra,rc,RR,aT,-,-⟩:=B.rat.jat.recs;have cj:=Blk.cell aT 3;simp at cj;have n:∀q x,k.cell? q=some x -> ∀a,aK k a -> a.cell? q=some x:=λq x t a hh=>(hh.cell (p:=q) (eK t)).trans t
  have a9:=n _ _ g1;have ba:=n _ _ g3;have a0:=n _ _ c0;have a1:=n _ _ c1;have a2:=n _ _ c2;have a3:=n _ _ c3;have a8:=n _ _ c4;have a4:=n _ _ cj;have⟨Z,Y,ax,a6⟩:=ae4 (sW k jk u M U B.uat) (mS k jk u M U B.uat) (yr k jk u M U B.uat aL.x) aX;obtain⟨n1,al⟩:=aH U.m.seen.length;obtain⟨n2,an⟩:=aH U.m.items.length;obtain⟨n3,ao⟩:=aH U.m.gone.length;rw[al] at a1;rw[an] at a2;rw[ao] at a3;obtain⟨dv,aS⟩:=aH U.dev;rw[aS] at a0 Z;obtain⟨dd,aR⟩:=aH U.J.dead;rw[aR] at a4 Y;have A:=ae (And.intro al (And.intro an ao));clear h hD G C l Q i S j H I s z ak av hv hX B g1 g3 aO aX c0 c1 c2 c3 c4 aT cj n al an ao aS aR
  go_enter func28,ntmps28
  go_wp2_with fail;refine bP aK (up 16 [17,18,19,20,21,22,23,516,24,25,26,27,28,29,30,32,33,34,35,36,37,38,531,39,40]) (by kernel_rfl) ?_;rw[<- aM.x];apply aG;rfl;intro a c;go_simp;exact aF
  repeat (apply bK;rfl;rfl;go_simp;go_simp;rfl;apply aG;rfl;intro a c;go_simp;exact aF)
  refine aY rfl rfl (λf b=>?_);go_simp;refine D.x.mono ?_;rintro e L ⟨rfl,rfl⟩;refine⟨_,rfl,aZ _,b _ _ ?_⟩;clear b f D;go_simp;apply aG;rfl;intro a c;go_simp;exact aF
  repeat (apply bK;rfl;rfl;go_simp;go_simp;rfl;apply aG;rfl;intro a c;go_simp;exact aF)
  refine aY rfl rfl (λf b=>?_);go_simp;refine E.x.mono ?_;rintro e L ⟨rfl,rfl⟩;refine⟨_,rfl,aZ _,b _ _ ?_⟩;clear b f E;go_simp;apply aG;rfl;intro a c;go_simp;exact aF
  repeat (apply bK;rfl;rfl;go_simp;go_simp;rfl;apply aG;rfl;intro a c;go_simp;exact aF)
  refine aW ?_;clear p0 p1 p2 p3 r1 r5;go_wp2_with fail;refine bP aK (up 10 [11,12,13,14,15,16,17,510,18,19,20,21,22,23,25,26,27,28,29,30,31,32,33,34,524,35,36,37,38,39,40,41,44,45,46,47,48,49,50,542,543,551,52,53,54]) (by kernel_rfl) ?_;rw[<- aa.x];apply aG;rfl;intro a c;go_simp;exact aF
  repeat (apply bK;rfl;rfl;go_simp;go_simp;rfl;apply aG;rfl;intro a c;go_simp;exact aF)
  refine aY rfl rfl (λf b=>?_);go_simp;refine Z.x.mono ?_;rintro e L ⟨rfl,rfl⟩;refine⟨_,rfl,aZ _,b _ _ ?_⟩;clear b f Z;go_simp;apply aG;rfl;intro a c;go_simp;exact aF
  repeat (apply bK;rfl;rfl;go_simp;go_simp;rfl;apply aG;rfl;intro a c;go_simp;exact aF)
  refine aY rfl rfl (λf b=>?_);go_simp;refine Y.x.mono ?_;rintro e L ⟨rfl,rfl⟩;refine⟨_,rfl,aZ _,b _ _ ?_⟩;clear b f Y;go_simp;apply aG;rfl;intro a c;go_simp;exact aF
  repeat (apply bK;rfl;rfl;go_simp;go_simp;rfl;apply aG;rfl;intro a c;go_simp;exact aF)
  clear a9 ba a0 a1 a2 a3 a8 a4;refine aY rfl rfl (λf b=>?_);go_simp;refine ax.x.mono ?_;rintro e wm ⟨⟨r,rfl,ho,aN⟩,ag⟩;have aU:=ho.map aN;obtain⟨t1,t2,t3,rfl,O⟩:=id ho;obtain⟨j,l1,rfl⟩:=aJ O.seen;obtain⟨H,l2,rfl⟩:=aJ O.items;obtain⟨I,l3,rfl⟩:=aJ O.gone;refine⟨_,rfl,ag,b _ _ ?_⟩;clear b f ax;go_simp;have P:=wK aL.x;have⟨HG,aI⟩:=ae2 (tr wm _ _ U.m aU P.1 P.2.1 P.2.2) ag;clear aU ho O aN ag P;apply aG;rfl;intro a c;go_simp;exact aF
  repeat (apply bK;rfl;rfl;go_simp;go_simp;rfl;apply aG;rfl;intro a c;go_simp;exact aF)
  refine aY rfl rfl (λf b=>?_);go_simp;refine HG.x.mono ?_;rintro e wg ⟨r,rfl,-,y,ad⟩;obtain⟨t1,t2,t3,rfl,y⟩:=y;obtain⟨f1,l1,rfl,-⟩:=y.seen.shape;obtain⟨f2,l2,rfl,-⟩:=y.items.shape;obtain⟨f3,l3,rfl,-⟩:=y.gone.shape;refine⟨_,rfl,ad,b _ _ ?_⟩;clear b f HG;go_simp;have ab:Kpt k wg:=aI.x.trans (ad.mono aI.x.size);have hS:=t8 wg _ _ (.agg #[.slice f1 U.m.seen.length l1,.slice f2 U.m.items.length l2,.slice f3 U.m.gone.length l3]) (.agg #[.slice b1 U.m.seen.length e1,.slice b2 U.m.items.length e2,.slice b3 U.m.gone.length e3]) U.m U.m ⟨_,_,_,rfl,y⟩ ⟨_,_,_,rfl,a6.x.keep (w':=wg) λq _ a7=>ab.block q a7⟩;rw[A.x.1,A.x.2.1,A.x.2.2] at hS;rw[A.x.1,A.x.2.1,A.x.2.2];have⟨ay,az⟩:=ae2 hS ab;clear y ad ab hS;apply aG;rfl;intro a c;go_simp;exact aF
  repeat (apply bK;rfl;rfl;go_simp;go_simp;rfl;apply aG;rfl;intro a c;go_simp;exact aF)
  refine aY rfl rfl (λf b=>?_);go_simp;refine ay.x.mono ?_;rintro e ws ⟨r,rfl,hr,ai⟩;obtain rfl:r=true:=hr.2 rfl;refine⟨_,rfl,ai,b _ _ ?_⟩;have a5:=ae (show Kpt w ws from N.x.trans ((az.x.trans (ai.mono az.x.size)).mono N.x.size));clear b f ay hr ai;go_simp;apply aG;rfl;intro a c;go_simp;exact aF
  repeat (apply bK;rfl;rfl;go_simp;go_simp;rfl;apply aG;rfl;intro a c;go_simp;exact aF)
  refine aW ?_;go_wp2
  go_ret
  exact⟨rfl,a5.x⟩
end
section
attribute [local go_sem ↓] ep
attribute [local go_sem] opC upC
def qT(c:UInt8):List UInt8:=(List.range 64).map λi=>c+UInt8.ofNat i
def nE(c:UInt8)(k:Nat):List Value:=(List.range 64).map λi=>if i<k then B (c+UInt8.ofNat i) else B 0
theorem Ax(c:UInt8):nE c 0=List.replicate 64 (B 0):=by
 unfold nE;apply List.ext_getElem
 ·simp
 ·intro i a b;simp only[List.getElem_map,List.getElem_range,List.getElem_replicate];rw[if_neg (by omega)]
theorem Ct(c:UInt8)(k:Nat)(h:k<64):(nE c k).set k (B (c+UInt8.ofNat k))=nE c (k+1):=by
 unfold nE;apply List.ext_getElem
 ·simp
 ·intro i d e;rw[List.getElem_set];simp only[List.getElem_map,List.getElem_range]
  by_cases a:k=i
  ·subst a;rw[if_pos rfl,if_pos (by omega)]
  ·rw[if_neg a]
   by_cases b:i<k
   ·rw[if_pos b,if_pos (by omega)]
   ·rw[if_neg b,if_neg (by omega)]
theorem Ay(c:UInt8):nE c 64=(qT c).map B:=by
 unfold nE qT;apply List.ext_getElem
 ·simp
 ·intro i a b;simp only[List.getElem_map,List.getElem_range];simp at a;rw[if_pos a]
theorem E9(c:UInt8)(k:Nat):B (c+UInt8.ofNat k)=.int .u8 (IntKind.u8.wrap ((c.toNat:Int)+(k:Int))):=by
 have e:c+UInt8.ofNat k=UInt8.ofNat (c.toNat+k):=by
  apply UInt8.toNat_inj.1;simp
 rw[e,mM]
 congr 1
theorem uY(c:UInt8):(qT c).length=64:=by simp[qT]
theorem uZ(c:UInt8):
 Calls aE 14 #[.int .u8 (c.toNat:Int)] w λe n=>∃g,e=.returned (.slice (some ⟨g,0,none⟩) 64 64) /\ w.heap.size <= g /\ Blk n g ((qT c).map B) 5 /\ Kpt w n:=by
 obtain⟨z,m,f,j⟩:=jL w 64 (by omega);rw[show((64:Nat):Int)=64 from rfl] at m;have⟨o,q⟩:=ae2 f j;clear f j
 go_enter func14,ntmps14
 go_wp2;clear m
 go_loopw [4] (λi wr=>∃k:Nat,k <= 64 /\ i=.int .i64 (k:Int) /\ Blk wr w.heap.size (nE c k) 5 /\ Kpt w wr) (λi _=>64-(intOf i).toNat)
 ·exact⟨0,by omega,rfl,by rw[Ax];exact o.x,q.x⟩
 ·obtain⟨k,u,rfl,a,h⟩:=hrel
  by_cases l:k<64
  ·have v:(k:Int)<64:=by omega
   have d:∃x,wr.cell? ⟨w.heap.size,k,none⟩=some x:=by
    have:=a.cell k;have s:k<(nE c k).length:=by simp[nE];exact l
    rw[List.getElem?_eq_getElem s] at this;exact⟨_,this⟩
   obtain⟨x,d⟩:=d;have t:=a.free k;have b:=a.set k (B (c+UInt8.ofNat k));rw[Ct c k l,E9] at b;have y:IntKind.u8.wrap (k:Int)=(k:Int):=ap _ (by omega);have r:=ae b;clear b a;go_wp2
   go_roundw
   ·exact⟨k+1,by omega,by go_num,r.x,h.setCell (aq _) _⟩
   ·simp[intOf];omega
  ·obtain rfl:k=64:=by omega
   rw[Ay] at a;have p:=ae a;clear a;go_wp2
   go_ret
   exact⟨_,rfl,aq _,p.x,h⟩
theorem u6(h:Blk W j (l.map B) 5)(hF:G j)(a:l.length=64):aO G W (.slice (some ⟨j,0,none⟩) 64 64) l:=by
 refine⟨some ⟨j,0,none⟩,64,by rw[a],by omega,by unfold maxLen;omega,nofun,.inr ⟨j,0,_,_,_,rfl,hF,h,by simp,λi hi=>by simp[hi]⟩⟩
end
section
open Go.Lib
attribute [local go_sem] opC upC
theorem Bg(h:Blk W i L 61):¬NJ W i:=λd=>by
 obtain⟨e,t,f,a,c,-⟩:=d;unfold Blk at h;rw[h] at a;injection a with a
 injection a with _ a
 subst a;exact c (by unfold TJ;simp)
def Gr:MU ⊕ Int -> Int
 |.inr c=>c
 |.inl _=>0
def wL:MU ⊕ Int -> Option MU
 |.inr _=>none
 |.inl U=>some U
def pJ(w:World)(X:aQ)(d v:Nat)(M N:MD)(r:MU ⊕ Int)(pu:Value):Prop:=match r with
 |.inr _=>pu=.pointer none /\ ∃K R,K.d=d /\ R.d=v /\ lR w X K R M N
 |.inl U=>∃a u R,pu=.pointer (some ⟨u,0,none⟩) /\ a.K.d=d /\ R.d=v /\ qZ w X a u R M U N
theorem pJ.box{w l:World}{X:aQ}{d v g:Nat}{M N:MD}{r:MU ⊕ Int}{k:Value}(h:pJ w X d v M N r k)(i:X g)(j:aM (λq=>q=g) w l)(m:¬NJ w g):pJ l X d v M N r k:=by
 cases r with
 |inr c=>
  obtain⟨a,K,R,b,e,f⟩:=h;exact⟨a,K,R,b,e,f.box i j⟩
 |inl U=>
  obtain⟨n,u,R,a,b,e,f⟩:=h;exact⟨n,u,R,a,b,e,f.box i j m⟩
theorem Two.box{w l:World}{X:aQ}{d v f:Nat}{M N:MD}{o e:Option MU}{j k:Value}(h:Two w X d v M N o e j k)(g:X f)(i:aM (λq=>q=f) w l)(s:¬NJ w f):Two l X d v M N o e j k:=by
 cases o<;>cases e
 ·obtain⟨a,b,K,R,c,p,r⟩:=h;exact⟨a,b,K,R,c,p,r.box g i⟩
 ·exact h.elim
 ·exact h.elim
 ·obtain⟨t,x,u,y,m,n,a,b,c⟩:=h;exact⟨t,x,u,y,m,n,a,b,c.box g i s⟩
def FY(w:World)(K:DK)(M f:MD)(r:MU ⊕ Int)(e:Ending)(b:World):Prop:=match r with
 |.inr c=>e=.returned (.tuple #[.pointer none,.int .i64 c]) /\ Kpt w b /\ f=M
 |.inl U=>∃u a,e=.returned (.tuple #[.pointer (some ⟨u,0,none⟩),.int .i64 0]) /\ a.K.d=K.d /\ UAt b a u f U /\ (∀q,a.all q -> K.foot q \/ w.heap.size <= q) /\ w.heap.size <= u /\ aM K.foot w b
def Ec(Z:aQ)(w:World)(K:RK)(M f:MD)(r:MU ⊕ Int)(e:Ending)(a:World):Prop:=match r with
 |.inr c=>e=.returned (.tuple #[.pointer none,.int .i64 c]) /\ Kpt w a /\ f=M
 |.inl U=>∃u b,e=.returned (.tuple #[.pointer (some ⟨u,0,none⟩),.int .i64 0]) /\ b.K.d=K.d /\ f8 Z a b u f U /\ (∀q,b.all q -> K.all q \/ w.heap.size <= q) /\ w.heap.size <= u /\ aM K.all w a /\ aM (iE w) w a
theorem fl.new{K:DK}{r:MU ⊕ Int}{e:Ending}(h:fl W K N r e w'):FY W K N N r e w':=by
 obtain⟨b,a⟩:=h;cases r with
 |inr c=>exact⟨b,a,rfl⟩
 |inl U=>
  obtain⟨u,k,d,f,g,i,j⟩:=b;exact⟨u,k,d,f,g,i,j,aM.of_below a⟩
theorem f9.new{K:RK}{r:MU ⊕ Int}{e:Ending}(h:f9 G W K N r e w'):Ec G W K N N r e w':=by
 obtain⟨b,a⟩:=h;cases r with
 |inr c=>exact⟨b,a,rfl⟩
 |inl U=>
  obtain⟨u,k,d,f,g,i,j⟩:=b;exact⟨u,k,d,by rw[f],g,i,j,aM.of_below a,aM.of_below a⟩
theorem lR.new{K:DK}{R:RK}{M N:MD}(h:lR W G K R M N)(n:∀q,G q -> q<W.heap.size){M':MD}{r:MU ⊕ Int}{e:Ending}(b:FY W K M M' r e w'):∃a,e=.returned (.tuple #[.pointer a,.int .i64 (Gr r)]) /\ pJ w' G K.d R.d M' N r (.pointer a) /\ Far W G w':=by
 cases r with
 |inr c=>
  obtain⟨b,g,rfl⟩:=b;exact⟨_,b,⟨rfl,K,R,rfl,rfl,h.keep g⟩,Far.of_below g⟩
 |inl U=>
  obtain⟨u,o,i,j,k,l,m,f⟩:=b;exact⟨_,i,⟨o,u,R,rfl,j,rfl,h.prog n k l m f⟩,f.mono h.klo⟩
theorem pJ.new{M N:MD}{r:MU ⊕ Int}{x:Value}(h:pJ W G i j M N r x)(s:∀q,G q -> q<W.heap.size):∃Z R,R.d=j /\ (∀q,Z q -> q<W.heap.size) /\ bS W R N /\
 ∀(e:Ending)(w':World)(k:MD),Ec Z W R N k r e w' -> ∃a,e=.returned (.tuple #[.pointer a,.int .i64 (Gr r)]) /\ Two w' G i j M k (wL r) (wL r) x (.pointer a) /\ Far W G w':=by
 cases r with
 |inr c=>
  obtain⟨l,K,R,m,f,b⟩:=h;refine⟨none_,R,f,λ_ h=>h.elim,b.rat,λe w' k g=>?_⟩;obtain⟨g,p,rfl⟩:=g;exact⟨_,g,⟨l,rfl,K,R,m,f,b.keep p⟩,Far.of_below p⟩
 |inl U=>
  obtain⟨t,u,R,l,m,f,b⟩:=h;refine⟨λq=>(t.all q \/ q=u) \/ G q,R,f,λq n=>n.elim (b.klt q) (s q),b.rat,λe w' k g=>?_⟩;obtain⟨F,E,y,z,A,B,C,o,D⟩:=g;exact⟨_,y,⟨t,E,u,F,l,rfl,m,by rw[z];exact f,b.ref s A B C o D⟩,o.mono λq n=>(b.rlo q n).1⟩
theorem pJ.put{M N:MD}{r:MU ⊕ Int}{g b k c e:Value}(h:pJ W G i j M N r g)(l:G o)(f:Blk W o [b,k,c,e] 61)(a:Value):pJ (W.setCell ⟨o,1,none⟩ a) G i j M N r g /\ Blk (W.setCell ⟨o,1,none⟩ a) o [b,a,c,e] 61:=
 ⟨h.box l ((aM.of_below (F:=λq=>q=o) (Below.refl _ W)).setCell (.inl rfl) _) (Bg f),f.set 1 a⟩
theorem Two.put{M N:MD}{g k:Option MU}{l m b c e n:Value}(h:Two W G i j M N g k l m)(p:G o)(f:Blk W o [b,c,e,n] 61)(a:Value):Two (W.setCell ⟨o,3,none⟩ a) G i j M N g k l m /\ Blk (W.setCell ⟨o,3,none⟩ a) o [b,c,e,a] 61:=
 ⟨h.box p ((aM.of_below (F:=λq=>q=o) (Below.refl _ W)).setCell (.inl rfl) _) (Bg f),f.set 3 a⟩
def u7(M:MD)(n:Int)(l:List UInt8):MD:=if n<0 then M else { M with fault:=some (n.toNat,l) }
theorem PX.failP{k d v:Nat}{M N:MD}{o f:Option MU}{i j:Value}(h:PX W G k d v M N o f i j)(n:Int)(u:dk n)(g:Nat)(l:List UInt8)(y:Blk W g (l.map B) 5)(c:l.length=64):
 Calls aE 15 #[.pointer (some ⟨d,0,none⟩),.int .i64 n,.slice (some ⟨g,0,none⟩) 64 64] W λe b=>e=.returned (.int .i64 (if n<0 then 6 else 0)) /\ PX b G k d v (u7 M n l) N o f i j /\ Far W G b:=by
 obtain⟨K,rfl,s,r⟩:=h.diskP;unfold u7
 by_cases a:n<0
 ·rw[if_pos a,if_pos a];refine(CU W K n (some ⟨g,0,none⟩) 64 64 (by omega) (.inl a)).mono ?_;rintro e b ⟨rfl,rfl⟩;rw[if_pos a];exact⟨rfl,h,Far.of_below (Below.refl _ _)⟩
 ·rw[if_neg a,if_neg a];refine(Dk W K M s n (by omega) (by have:=u.2;omega) (λ_=>True) _ l (u6 y trivial c) c).mono ?_;rintro e b ⟨rfl,⟨m,p,q,t⟩,x⟩;exact⟨rfl,r b m _ t p q x rfl⟩
theorem PX.failR{M N:MD}{q r:Option MU}{s t:Value}(h:PX W G i j o M N q r s t)(n:Int)(D:dk n)(g:Nat)(l:List UInt8)(p:Blk W g (l.map B) 5)(k:l.length=64):
 Calls aE 64 #[.pointer (some ⟨o,0,none⟩),.int .i64 n,.slice (some ⟨g,0,none⟩) 64 64] W λe c=>e=.returned (.int .i64 (if n<0 then 6 else 0)) /\ PX c G i j o M (u7 N n l) q r s t /\ Far W G c:=by
 obtain⟨K,rfl,f,A⟩:=h.diskR;unfold u7
 by_cases a:n<0
 ·rw[if_pos a,if_pos a];refine(yw W K.d n (some ⟨g,0,none⟩) 64 64 (by omega) (.inl a)).mono ?_;rintro e c ⟨rfl,rfl⟩;rw[if_pos a];exact⟨rfl,h,Far.of_below (Below.refl _ _)⟩
 ·rw[if_neg a,if_neg a];obtain⟨m,rfl⟩:=Int.eq_ofNat_of_zero_le (show 0 <= n by omega);refine(Am W K N f m (by have:=D.2;omega) (λb=>b=g) _ l (u6 p rfl k) k λb z=>?_).mono ?_
  ·obtain⟨I,H,J,-,-,F,-,-,-⟩:=f.main;rw[z];exact p.ne F (by decide)
  rintro e c ⟨rfl,⟨u,x,y,C⟩,E⟩;exact⟨rfl,A c u _ C x y E rfl⟩
end
section
open Go.Lib
attribute [local go_sem] opC upC told bE bm bF bp bq bG bH
def yP(w:World)(X:aQ)(f d v:Nat)(M:MD)(e:Ending)(c:World):Prop:=
 e=.returned (.bool true) /\ ∃a b pu g,PX c X f d v a a b b pu g /\ (∀U,b=some U -> U.dev<8 /\ aV U.m=true) /\ a.writes <= M.writes+200000 /\ aM (λq=>¬X q \/ q=f) w c
theorem Cu(hL:iF w)(X:aQ)(D d v:Nat)(M:MD)(o:Option MU)(pu pw:Value)(h:PX w X D d v M M o o pu pw)(ho:∀U,o=some U -> U.dev<8 /\ aV U.m=true)(hw:M.writes+200000<4611686018427387904)(A:tR)(hA:E7 A)(xk:Option Addr)(ck:Nat)(x1:Option Addr)(c1:Nat)(x2:Option Addr)(c2:Nat)(x3:Option Addr)(c3:Nat)(P:Rows X w 1 (.slice xk A.keys.length ck) A.keys.length (A.keys.map Go.Proofs.encStr))(hM:ce X w (.slice x1 A.m.seen.length c1) (.slice x2 A.m.items.length c2) (.slice x3 A.m.gone.length c3) A.m)
 (hk:(∀x∈A.m.items,x.key.length <= 1048576) /\ ∀x∈A.m.gone,x.key.length <= 1048576):
 Calls aE 29 #[.pointer (some ⟨D,0,none⟩),.agg #[.int .u8 A.kind,.slice xk A.keys.length ck,.slice x1 A.m.seen.length c1,.slice x2 A.m.items.length c2,.slice x3 A.m.gone.length c3,.int .i64 A.n,B A.b]] w (yP w X D d v M):=by
 obtain⟨nk,bN⟩:=aH A.keys.length;obtain⟨ns,bl⟩:=aH A.m.seen.length;obtain⟨ni,bk⟩:=aH A.m.items.length;obtain⟨ng,bj⟩:=aH A.m.gone.length;obtain⟨wb,ao⟩:=aP (w.alloc (.cells #[.int .u8 A.kind,.slice xk nk ck,.slice x1 ns c1,.slice x2 ni c2,.slice x3 ng c3,.int .i64 A.n,B A.b] 39));have aN:Kpt w wb:=by rw[ao];exact aI _ _
 obtain⟨Y,hY⟩:=aP (λq=>X q \/ q=w.heap.size:aQ);have a0:∀q,X q -> Y q:=λq t=>by rw[hY];exact .inl t
 have bF:Y w.heap.size:=by rw[hY];exact .inr rfl
 have aZ:=h.re (Y:=Y) aN a0 λq t=>by
  rw[hY] at t;exact t.imp id λe=>⟨by omega,by rw[ao,e];simp⟩
 have aT:Blk wb w.heap.size [.int .u8 A.kind,.slice xk nk ck,.slice x1 ns c1,.slice x2 ni c2,.slice x3 ng c3,.int .i64 A.n,B A.b] 39:=by rw[ao];exact Blk.new _ _ _
 have ar:=ae (show ∀W,Far w X W -> Rows X W 1 (.slice xk nk ck) A.keys.length (A.keys.map Go.Proofs.encStr) /\ ce X W (.slice x1 ns c1) (.slice x2 ni c2) (.slice x3 ng c3) A.m from λW hW=>by
  rw[<- bN,<- bl,<- bk,<- bj]
  exact⟨P.keep λq t bh=>hW.block q bh λhn=>hn t,hM.keep λq t bh=>hW.block q bh λhn=>hn t⟩)
 have N:=ae (show ∀W,Far w X W -> iF W from λW hW=>⟨hL.1.keep (hW.block 0 (h.lt 0 (h.low 0 (by decide))) λhn=>hn (h.low 0 (by decide))),hL.2.1.keep λa ha=>by
  have e:=hW.block a.block (h.lt _ (h.low _ (by omega))) λhn=>hn (h.low _ (by omega))
  unfold World.cell?
  rw[e],au hL.2.2 hW.size⟩)
 have b0:=ae (show ∀(W:World)(G:MD)(o':Option MU)(p q:Value),PX W Y D d v G G o' o' p q -> PX W X D d v G G o' o' p q from λW G o' p q hP=>hP.less a0 h.xx h.low);rw[bN,bl,bk,bj];obtain⟨f,a7⟩:=aP wb.drew;have a2:Kpt wb f:=by rw[a7];exact(Below.refl _ _).drew
 have bA:=aZ.keep a2;have bu:=aT.keep (a2.block _ aT.lt);have bM:Far w X f:=Far.of_below (aN.trans (a2.mono aN.size));have y0:=aT.cell 0;have y3:=aZ.box.cell 3;simp at y0 y3;rw[ao] at y0 y3 a7;have⟨S,ab,ag,C,bb,bZ,H,Ho⟩:=ae8 a0 bA bu bM a7 bF hA ho;have⟨Hw,ba,ax,bq⟩:=ae4 hw ao aZ aN;clear a0 aZ aT bA bu a2 bM a7 bF hY P hM hA ho hw hL h ao aN;have zx:∀i x,f.cell? ⟨D,i,none⟩=some x -> ∀l,bI (λq=>¬Y q) f l -> l.cell? ⟨D,i,none⟩=some x:=λi x hx l hh=>yJ hh ab.x.xx ab.x.box.lt i hx
 have za:∀i x,f.cell? ⟨w.heap.size,i,none⟩=some x -> ∀l,bI (λq=>¬Y q) f l -> l.cell? ⟨w.heap.size,i,none⟩=some x:=λi x hx l hh=>yJ hh bZ.x ag.x.lt i hx
 have⟨Zx,Za,Hk⟩:=ae3 zx za hk;clear zx za hk;obtain⟨kk,cb⟩:=aH (A.kind.tmod 8)
 have h8:0 <= kk /\ kk<8:=by
  have h1:=H.x.kind;have:A.kind.tmod 8=A.kind%8:=Int.tmod_eq_emod_of_nonneg h1.1;omega
 rcases(show kk=6 \/ kk=7 \/ (¬kk=6 /\ ¬kk=7) by omega) with rfl|rfl|⟨h6,h7⟩
 case' inl=>
  obtain⟨k0,-,k2,-⟩:=dH ab.x.box;have z0:=Zx.x _ _ k0;have z2:=Zx.x _ _ k2;have s5:=Za.x 5 _ (ag.x.cell 5);have s6:∀l,bI (λq=>¬Y q) f l -> l.cell? ⟨w.heap.size,6,none⟩=some (.int .u8 (A.b.toNat:Int)):=Za.x 6 _ (ag.x.cell 6)
  have HT:=ae (uZ f A.b);obtain⟨er,bK⟩:=aH ((if A.n<0 then 6 else 0):Int);have br:=ae bK;clear k0 k2 bK
  go_enter func29,ntmps29
  go_wp2_with fail;refine bP (bI λq=>¬Y q) (up 8 [10,11,12,13,14,15,16,17,508,509,518,519,20,21]) (by kernel_rfl) ?_;rw[<- bb.x];clear y0 y3;apply aG;rfl;intro l hC;go_simp;exact aF;refine aY rfl rfl (λE j=>?_);go_simp;refine HT.x.mono ?_;rintro e w1 ⟨g,rfl,-,aO,a1⟩;refine⟨_,rfl,bI.of_below a1,j _ _ ?_⟩;clear j E HT;go_simp;have hF:=(ab.x.keep a1).failP A.n H.x.num g (qT A.b) aO (uY _);rw[br.x] at hF;have⟨HF,a8⟩:=ae2 hF (C.x.step (Far.of_below (X:=Y) a1) S.x);clear aO a1 hF;apply aG;rfl;intro l hC;go_simp;exact aF;refine aY rfl rfl (λE j=>?_);go_simp;refine HF.x.mono ?_;rintro e w2 ⟨rfl,O,an⟩;refine⟨_,rfl,an,j _ _ ?_⟩;clear j E HF;go_simp;have⟨bX,a9,HT⟩:=ae3 O (a8.x.step an S.x) (uZ w2 A.b);clear O an;apply aG;rfl;intro l hC;go_simp;exact aF;refine aY rfl rfl (λE j=>?_);go_simp;refine HT.x.mono ?_;rintro e w3 ⟨g2,rfl,-,aO,aa⟩;refine⟨_,rfl,bI.of_below aa,j _ _ ?_⟩;clear j E HT;go_simp;have hF:=(bX.x.keep aa).failR A.n H.x.num g2 (qT A.b) aO (uY _);rw[br.x] at hF;have⟨HF,b1⟩:=ae2 hF (a9.x.step (Far.of_below (X:=Y) aa) S.x);clear aO aa hF;apply aG;rfl;intro l hC;go_simp;exact aF;refine aY rfl rfl (λE j=>?_);go_simp;refine HF.x.mono ?_;rintro e w4 ⟨rfl,ad,J⟩;refine⟨_,rfl,J,j _ _ ?_⟩;have⟨al,av⟩:=ae2 ad ((b1.x.step J S.x).mono λq t=>(.inl t:¬X q \/ q=D));have ak:=Ho;have ay:=ae (show(u7 M A.n (qT A.b)).writes <= M.writes+200000 by unfold u7;split<;>exact Nat.le_add_right _ _);clear j E HF ad J z0 z2 s5 s6;go_simp;apply aG;rfl;intro l hC;go_simp;exact aF;refine aW ?_
 case' inr.inl=>
  obtain⟨K,j,bJ,I⟩:=ax.x.diskP;have Q:=Fw wb K M bJ;rw[j] at Q;have⟨HU,y⟩:=ae2 Q I;have q0:=ax.x.box.cell 0;simp at q0;rw[ba.x] at q0;clear Q I bJ j
  go_enter func29,ntmps29
  go_wp2_with fail;rw[<- ba.x];refine HU.x.mono ?_;rintro e w1 ⟨rfl,bG,bO,-⟩;obtain⟨be,bL⟩:=y.x w1 K _ bG rfl (λb h=>.inl h) bO rfl;obtain⟨R,P,bU,I⟩:=be.diskR;have Q:=Cd w1 R M bU;rw[P] at Q;have e2:=be.box.cell 2;simp at e2;have a8:=ae ((Far.of_below (X:=X) bq.x).step bL S.x);clear HU y bG bO y0 y3 q0 bU P be bL;have⟨HU,y⟩:=ae2 Q I;clear Q I;go_wp2_with fail;refine HU.x.mono ?_;rintro e w2 ⟨rfl,bH,bQ,-⟩;obtain⟨O,an⟩:=y.x w2 R _ bH rfl (λb h=>.inl h) bQ rfl;obtain⟨G,bd⟩:=aH ({ M with down:=false });have ay:=ae (show G.writes <= M.writes+200000 by rw[<- bd];exact Nat.le_add_right _ _);rw[bd] at O;have bg:=a8.x.step an S.x;have aX:=N.x w2 bg;obtain⟨K2,R2,bc,bB,hD⟩:=O.two.disks;have hO:=uS w2 aX.2.1 (au (by decide) aX.2.2) aX.1 K2 G hD.dat λb hb=>Nat.lt_of_not_le λca=>hD.klo b hb (O.low b ca)
  obtain⟨r,L⟩:=aH (eZ G);rw[L,bc] at hO;have bm:=λe l z=>hD.new O.lt (fl.new (r:=r) (e:=e) (w':=l) z)
  rw[bc,bB] at bm;have e0:=O.box.cell 0;simp at e0;have⟨HO,bs,bn,b5,b4,az,Hr,a9⟩:=ae8 hO bm O.box O.lt O.low O.xx L bg;clear HU y bH bQ e2 O an bd bg aX bc bB hD hO bm L;go_wp2_with fail;refine HO.x.mono ?_;intro e w3 z;obtain⟨a3,rfl,bx,T⟩:=bs.x _ _ z;have⟨bV,b8⟩:=ae2 (a9.x.step T S.x) T.size;have aJ:=bn.x.keep (T.block _ bn.x.lt λhn=>hn az.x);clear HO bs z T e0;have g1:=aJ.cell 1;have g2:=aJ.cell 2;have f1:=aJ.free 1;simp at g1 g2;obtain⟨w4,aR⟩:=aP (w3.setCell ⟨D,1,none⟩ (.pointer a3));have bR:=bx.put az.x aJ (.pointer a3);rw[<- aR] at bR;obtain⟨bz,bv⟩:=bR;have bi:∀q,Y q -> q<w4.heap.size:=λq t=>by have:=b5.x q t;have:=b8.x;rw[aR];simp[World.setCell];omega
  obtain⟨Z,R4,bC,hZ,bT,I⟩:=bz.new bi;have hO:=Aq Z w4 hZ R4 G bT;rw[Hr.x,bC] at hO
  have J:aM (λq=>¬X q \/ q=D) w w4:=by
   rw[aR];exact(bV.x.mono λq t=>(.inl t:¬X q \/ q=D)).setCell (.inl (.inr rfl)) _
  have⟨HO,y,bo,b7,b2,b6⟩:=ae6 hO I bv aR J bi;clear bx aJ bv aR bz bi bC hZ bT I hO J;go_wp2_with fail;rw[<- b7.x];refine HO.x.mono ?_;intro e w5 z;obtain⟨a5,rfl,bD,a6⟩:=y.x _ _ _ (f9.new z);have aU:=bo.x.keep (a6.block _ bo.x.lt λhn=>hn az.x);clear g1 g2 f1;have g3:=aU.cell 3;have f3:=aU.free 3;simp at g3;obtain⟨w6,aS⟩:=aP (w5.setCell ⟨D,3,none⟩ (.pointer a5));have bS:=bD.put az.x aU (.pointer a5);rw[<- aS] at bS;obtain⟨bE,bw⟩:=bS;have al:=ae (show PX w6 Y D d v G G (wL r) (wL r) (.pointer a3) (.pointer a5) from⟨bw,bE,az.x,b4.x,λq t=>by have:=b6.x q t;have:=a6.size;rw[aS];simp[World.setCell];omega⟩)
  have av:=ae (show aM (λq=>¬X q \/ q=D) w w6 by
   rw[aS]
   exact(b2.x.trans a6 λq t=>.inl (.inl λhx=>t (S.x q hx))).setCell (.inl (.inr rfl)) _)
  have bt:=ae aS;clear HO y z bD a6 aU bw bE aS
  have ak:=ae (show ∀U,wL r=some U -> U.dev<8 /\ aV U.m=true from λU e=>by
   cases r with
   |inr c=>cases e
   |inl V=>
    obtain rfl:=Option.some.inj e
    exact DQ Hr.x)
 case' inr.inr=>
  rcases(show o=none \/ ∃U,o=some U by cases o<;>simp) with rfl|⟨U,rfl⟩
  case' inl=>
   obtain⟨rfl,rfl,-⟩:=ax.x.two;have al:=ax;have ak:=Ho;have⟨ay,av⟩:=ae2 (Nat.le_add_right M.writes 200000) (aM.of_below (F:=λq=>¬X q \/ q=D) bq.x);have bt:=ba
   go_enter func29,ntmps29
  case' inr=>
   obtain⟨u,ur,rfl,rfl⟩:=ax.x.ptrs;have s:=ae (Ho.x U rfl)
   by_cases h4:kk=4
   case' pos=>
    subst h4;obtain⟨-,k1,-,k3⟩:=dH ab.x.box;have z1:=Zx.x _ _ k1;have z3:=Zx.x _ _ k3;have s2:=Za.x 2 _ (ag.x.cell 2);have s3:=Za.x 3 _ (ag.x.cell 3);have s4:=Za.x 4 _ (ag.x.cell 4);obtain⟨jk,Q,I⟩:=ab.x.prog;obtain⟨⟨G,U',er⟩,L⟩:=aH (fU M U A.m);have hm:wJ M (fU M U A.m):=Cs s.x.1 s.x.2 _;have bp:=ae (show ∀W,Far w X W -> di X W (.agg #[.slice x1 ns c1,.slice x2 ni c2,.slice x3 ng c3]) A.m from λW hW=>⟨_,_,_,rfl,(ar.x W hW).2⟩);have hc:=DH f (N.x f C.x).2.1 (au (by decide) (N.x f C.x).2.2) (N.x f C.x).1 jk u M U Q s.x.1 s.x.2 X _ A.m (bp.x f C.x) Hw.x;rw[L] at hc hm;have⟨HC,y,Hm,Hr⟩:=ae4 hc I hm L;clear hc I hm L Q k1 k3 
    go_enter func29,ntmps29
    go_wp2_with fail;refine bP (bI λq=>¬Y q) (up 6 [7,8,9,10,11,12,506,513,514,15,16]) (by kernel_rfl) ?_;rw[<- bb.x];clear y0 y3;apply aG;rfl;intro l hC;go_simp;exact aF;refine aY rfl rfl (λE j=>?_);go_simp;refine HC.x.mono ?_;intro e w3 z;obtain⟨rfl,aK,T⟩:=y.x _ _ _ z;refine⟨_,rfl,T,j _ _ ?_⟩;clear j E HC z y;go_simp;have⟨bY,Hf⟩:=ae2 aK (C.x.step T S.x);have HG:=ae (tr w3 X _ A.m (bp.x w3 Hf.x) (au H.x.seen (by decide)) (au H.x.items (by decide)) (au H.x.gone (by decide)));clear aK T;apply aG;rfl;intro l hC;go_simp;exact aF;refine aY rfl rfl (λE j=>?_);go_simp;refine HG.x.mono ?_;rintro e wg ⟨r,rfl,-,ai,a4⟩;obtain⟨t1,t2,t3,rfl,ai⟩:=ai;obtain⟨f1,l1,rfl,-⟩:=ai.seen.shape;obtain⟨f2,l2,rfl,-⟩:=ai.items.shape;obtain⟨f3,l3,rfl,-⟩:=ai.gone.shape;refine⟨_,rfl,bI.of_below a4,j _ _ ?_⟩;clear j E HG;go_simp;obtain⟨Z,rk,hZ,aL,aa⟩:=(bY.x.keep a4).ref;have hc:=Ck Z wg hZ rk ur M U aL s.x.1 s.x.2 _ _ A.m ⟨_,_,_,rfl,ai⟩ (λx hx=>au (Hk.x.1 x hx) (by decide)) (λx hx=>au (Hk.x.2 x hx) (by decide)) Hw.x;rw[Hr.x,bl,bk,bj] at hc;have⟨HC,y,b3⟩:=ae3 hc aa (Hf.x.step (Far.of_below (X:=X) a4) λ_ h=>h);clear hc aa hZ aL ai a4;apply aG;rfl;intro l hC;go_simp;exact aF;refine aY rfl rfl (λE j=>?_);go_simp;refine HC.x.mono ?_;intro e w4 z;obtain⟨rfl,ad,J⟩:=y.x _ _ _ z;refine⟨_,rfl,J,j _ _ ?_⟩;have⟨al,av⟩:=ae2 ad ((b3.x.step J S.x).mono λq t=>(.inl t:¬X q \/ q=D))
    have ak:=ae (show ∀V,some U'=some V -> V.dev<8 /\ aV V.m=true from λV e=>by
     obtain rfl:=Option.some.inj e
     exact⟨Hm.x.dev,Hm.x.valid⟩)
    have ay:=ae Hm.x.wr;clear j E HC z y ad J z1 z3 s2 s3 s4;go_simp;apply aG;rfl;intro l hC;go_simp;exact aF;refine aW ?_
   case' neg=>
    obtain⟨-,k1,-,k3⟩:=dH ab.x.box;have z1:=Zx.x _ _ k1;have z3:=Zx.x _ _ k3;have s1:=Za.x 1 _ (ag.x.cell 1);clear k1 k3;rcases(show kk <= 2 \/ kk=3 \/ kk=5 by omega) with h2|rfl|rfl
    case' inl=>
     obtain⟨⟨G,U',er⟩,L⟩:=aH (lB M U A.keys);have hm:wJ M (lB M U A.keys):=qR s.x.1 s.x.2 _ _ λe=>DO e
     have hP:=λjk (h:UAt f jk u M U)=>changes.1 f (N.x f C.x).2.1 (au (by decide) (N.x f C.x).2.2) (N.x f C.x).1 jk u M U h s.x.1 s.x.2 X (.slice xk nk ck) A.keys (ar.x f C.x).1 (au H.x.keys (by decide)) (λk hk=>au (H.x.klen k hk) (by decide)) Hw.x
     have P:=λZ W rk (hz:∀q,Z q -> q<W.heap.size) (hf:Far w X W) (h:f8 Z W rk ur M U)=>yI.1 Z W hz rk ur M U h s.x.1 s.x.2 X (.slice xk nk ck) A.keys (ar.x W hf).1 (au H.x.keys (by decide)) (λk hk=>au (H.x.klen k hk) (by decide)) Hw.x
     rw[L] at hm hP P
    case' inr.inl=>
     obtain⟨⟨G,U',er⟩,L⟩:=aH (oT M U A.keys);have hm:wJ M (oT M U A.keys):=qR s.x.1 s.x.2 _ _ λe=>uO e
     have hP:=λjk (h:UAt f jk u M U)=>changes.2 f (N.x f C.x).2.1 (au (by decide) (N.x f C.x).2.2) (N.x f C.x).1 jk u M U h s.x.1 s.x.2 X (.slice xk nk ck) A.keys (ar.x f C.x).1 (au H.x.keys (by decide)) (λk hk=>au (H.x.klen k hk) (by decide)) Hw.x
     have P:=λZ W rk (hz:∀q,Z q -> q<W.heap.size) (hf:Far w X W) (h:f8 Z W rk ur M U)=>yI.2 Z W hz rk ur M U h s.x.1 s.x.2 X (.slice xk nk ck) A.keys (ar.x W hf).1 (au H.x.keys (by decide)) (λk hk=>au (H.x.klen k hk) (by decide)) Hw.x
     rw[L] at hm hP P
    case' inr.inr=>
     have b9:=trivial;obtain⟨⟨G,U',er⟩,L⟩:=aH (iy M U);have hm:wJ M (iy M U):=Aw s.x.1 s.x.2;have hP:=λjk (h:UAt f jk u M U)=>EU f (N.x f C.x).2.1 (au (by decide) (N.x f C.x).2.2) (N.x f C.x).1 jk u M U h s.x.1 s.x.2  Hw.x
     have P:=λZ W rk (hz:∀q,Z q -> q<W.heap.size) (hf:Far w X W) (h:f8 Z W rk ur M U)=>D2 Z W  rk ur M U h s.x.1 s.x.2  Hw.x
     rw[L] at hm hP P
    all_goals
     obtain⟨jk,Q,I⟩:=ab.x.prog;have⟨HC,y,Hm,HR⟩:=ae4 (hP jk Q) I hm P;clear I hm L Q hP P
     go_enter func29,ntmps29
     go_wp2_with fail
     first
      |(clear b9;refine kw (bI λq=>¬Y q) [(0,true),(1,true),(2,true),(3,true),(5,true),(6,true),(7,true),(8,true),(4,false),(9,false),(10,true),(11,true)] (by kernel_rfl) (by kernel_rfl) (eC _) (fy _) ?_)
      |refine kw (bI λq=>¬Y q) [(0,true),(1,true),(2,true),(3,true),(4,true),(5,true),(7,true),(8,true),(9,true),(10,true),(11,true),(12,true),(6,false),(13,false),(14,true),(15,true)] (by kernel_rfl) (by kernel_rfl) (eC _) (fy _) ?_
     rw[<- bb.x];clear y0 y3;apply aG;rfl;intro l hC;go_simp;exact aF;refine aY rfl rfl (λE j=>?_);go_simp;refine HC.x.mono ?_;intro e w3 z;obtain⟨rfl,aK,T⟩:=y.x _ _ _ z;refine⟨_,rfl,T,j _ _ ?_⟩;clear j E HC z y;go_simp;have hf:=C.x.step T S.x;obtain⟨Z,rk,hZ,aL,aa⟩:=aK.ref;have⟨HC,y,Hf⟩:=ae3 (HR.x Z w3 rk hZ hf aL) aa hf;clear aa hf hZ aL aK T HR;apply aG;rfl;intro l hC;go_simp;exact aF;refine aY rfl rfl (λE j=>?_);go_simp;refine HC.x.mono ?_;intro e w4 z;obtain⟨rfl,ad,J⟩:=y.x _ _ _ z;refine⟨_,rfl,J,j _ _ ?_⟩;have⟨al,av⟩:=ae2 ad ((Hf.x.step J S.x).mono λq t=>(.inl t:¬X q \/ q=D))
     have ak:=ae (show ∀V,some U'=some V -> V.dev<8 /\ aV V.m=true from λV e=>by
      obtain rfl:=Option.some.inj e
      exact⟨Hm.x.dev,Hm.x.valid⟩)
     have ay:=ae Hm.x.wr;clear j E HC z y ad J z1 z3 s1;go_simp;apply aG;rfl;intro l hC;go_simp;exact aF;refine aW ?_
 all_goals
  have HS:=ae (uX _ _ _ _ _ _ _ _ _ al.x λU e=>(ak.x U e).2);go_wp2_with fail
  first|rw[<- bt.x]|skip
  refine HS.x.mono ?_;rintro e w7 ⟨rfl,bf⟩;have bW:=ae (show yP w X D d v M (.returned (.bool true)) w7 from⟨rfl,_,_,_,_,b0.x _ _ _ _ _ (al.x.keep bf),ak.x,ay.x,av.x.trans (aM.of_below (F:=none_) bf) λ_ h=>h.elim⟩);clear HS bf;go_wp2
  go_ret
  exact bW.x
end
section
open Go.Lib
attribute [local go_sem] opC upC
def wM(f b:Nat):Prop:=∀(w:World)(p:Option Addr)(d:Int),
 (d<0 \/ 7<d -> Calls aE f #[.pointer p,.int .i64 d] w λe a=>e=.returned (.tuple #[.pointer none,.int .i64 1]) /\ w=a) /\
 ∀c:Int,0 <= d -> d <= 7 -> c≠0 -> (Calls aE b #[.pointer p] w λe a=>e=.returned (.tuple #[.pointer none,.int .i64 c]) /\ w=a) -> Calls aE f #[.pointer p,.int .i64 d] w λe a=>e=.returned (.tuple #[.pointer none,.int .i64 c]) /\ w=a
theorem tu:wM 12 43:=by
 intro w p d;refine⟨λh=>?_,λc a b g hF=>?_⟩
 ·by_cases a:d<0
  ·go_enter func12,ntmps12
   go_wp2;go_ret2;exact⟨rfl,rfl⟩
  ·have b:7<d:=h.resolve_left a;have k:8 <= d:=b
   go_enter func12,ntmps12
   go_wp2;go_ret2;exact⟨rfl,rfl⟩
 ·have i:¬d<0:=by omega
  have j:¬7<d:=by omega
  have l:¬8 <= d:=by omega
  have m:(c != 0)=true:=bne_iff_ne.2 g;have f:=ae hF;clear hF a b
  go_enter func12,ntmps12
  go_wp2_with fail;refine f.x.mono ?_;rintro e n ⟨rfl,rfl⟩;go_wp2;go_ret2;exact⟨rfl,rfl⟩
theorem qi:wM 27 30:=by
 intro w p d;refine⟨λh=>?_,λc a b g hF=>?_⟩
 ·by_cases a:d<0
  ·go_enter func27,ntmps27
   go_wp2;go_ret2;exact⟨rfl,rfl⟩
  ·have b:7<d:=h.resolve_left a;have k:8 <= d:=b
   go_enter func27,ntmps27
   go_wp2;go_ret2;exact⟨rfl,rfl⟩
 ·have i:¬d<0:=by omega
  have j:¬7<d:=by omega
  have l:¬8 <= d:=by omega
  have m:(c != 0)=true:=bne_iff_ne.2 g;have f:=ae hF;clear hF a b
  go_enter func27,ntmps27
  go_wp2_with fail;refine f.x.mono ?_;rintro e n ⟨rfl,rfl⟩;go_wp2;go_ret2;exact⟨rfl,rfl⟩
def FZ(d:Int):Int:=if d<0 \/ 7<d then 1 else 9
theorem yQ(b:wM i j)(w:World)(c:Calls aE j #[.pointer none] w λe a=>e=.returned (.tuple #[.pointer none,.int .i64 9]) /\ w=a)(d:Int):
 Calls aE i #[.pointer none,.int .i64 d] w λe a=>e=.returned (.tuple #[.pointer none,.int .i64 (FZ d)]) /\ w=a:=by
 unfold FZ;split
 ·rename_i h;exact(b w _ d).1 h
 ·rename_i h;exact(b w _ d).2 9 (by omega) (by omega) (by decide) c
theorem Cv:Calls aE 16 #[.pointer none] w λe a=>e=.returned (.tuple #[.pointer none,.int .i64 9]) /\ w=a:=by
 have H:=ae (D3 w)
 go_enter func16,ntmps16
 go_wp2_with fail;refine H.x.mono ?_;rintro e b ⟨rfl,rfl⟩;go_wp2;go_ret2;exact⟨rfl,rfl⟩
def nF(n:Nat)(d:Int):MD×(MU ⊕ Int):=
 if d<0 \/ 7<d then(MD.fresh n,.inr 1) else if n<8 then(MD.fresh n,.inr 6) else((gY (MD.fresh n) d.toNat).1,.inl (gY (MD.fresh n) d.toNat).2.1)
theorem Ed(f:n <= 300)(d:Int):(nF n d).1.writes <= 200000 /\ ∀U,wL (nF n d).2=some U -> U.dev<8 /\ aV U.m=true:=by
 unfold nF;split
 ·exact⟨Nat.zero_le _,nofun⟩
 ·split
  ·exact⟨Nat.zero_le _,nofun⟩
  ·obtain⟨-,-,a,b,c⟩:=wC n d.toNat (by omega) (by omega) (by omega);refine⟨c,λU e=>?_⟩;obtain rfl:=Option.some.inj e;exact⟨a,b⟩
theorem Cw(a:iF w)(K:DK)(n:Nat)(m:n <= 300)(c:bM w K (MD.fresh n))(j:∀b,K.foot b -> 3<b)(d:Int):
 Calls aE 12 #[.pointer (some ⟨K.d,0,none⟩),.int .i64 d] w (FY w K (MD.fresh n) (nF n d).1 (nF n d).2):=by
 unfold nF;split
 ·rename_i h;refine((tu w _ d).1 h).mono ?_;rintro e l ⟨rfl,rfl⟩;exact⟨rfl,Below.refl _ _,rfl⟩
 ·rename_i h;split
  ·rename_i i;refine((tu w _ d).2 6 (by omega) (by omega) (by decide) (vP w K _ c (by simpa[MD.fresh] using i))).mono ?_;rintro e l ⟨rfl,rfl⟩;exact⟨rfl,Below.refl _ _,rfl⟩
  ·obtain⟨k,rfl⟩:=Int.eq_ofNat_of_zero_le (show 0 <= d by omega);obtain⟨f,g,-⟩:=wC n k (by omega) (by omega) (by omega);exact qO w a.2.1 (au (by decide) a.2.2) a.1 K _ c (by simp[MD.fresh];omega) j (by show 0+200000<_;decide) k (by omega) f g
theorem Cx(w:World)(g:∀q,F q -> q<w.heap.size)(K:RK)(n:Nat)(j:n <= 300)(a:bS w K (MD.fresh n))(d:Int):
 Calls aE 27 #[.pointer (some ⟨K.d,0,none⟩),.int .i64 d] w (Ec F w K (MD.fresh n) (nF n d).1 (nF n d).2):=by
 unfold nF;split
 ·rename_i h;refine((qi w _ d).1 h).mono ?_;rintro e i ⟨rfl,rfl⟩;exact⟨rfl,Below.refl _ _,rfl⟩
 ·rename_i h;split
  ·rename_i f;refine((qi w _ d).2 6 (by omega) (by omega) (by decide) (tP w K _ a (by simpa[MD.fresh] using f))).mono ?_;rintro e i ⟨rfl,rfl⟩;exact⟨rfl,Below.refl _ _,rfl⟩
  ·obtain⟨k,rfl⟩:=Int.eq_ofNat_of_zero_le (show 0 <= d by omega);obtain⟨b,c,-⟩:=wC n k (by omega) (by omega) (by omega);exact wv F w g K _ a (by simp[MD.fresh];omega) (by show 0+200000<_;decide) k (by omega) b c
end
section
open Go.ChangeShapes Go.WideShapes Go.ChangeAt Go.Deep
attribute [local go_sem ↓] aU
attribute [local go_sem] opC upC
section
variable {H:Type} {enc:TypeId×Value -> H} {P:Program} {w:World} {base:Nat} {held:Bool}
theorem qj{t e:TypeId}{K k:Nat}{x:DataW H×List MemPlace}(U:0<k)(Y:P.underlying t=some (.slice e))(M:P.cellsOf e=k)(E:List Value -> Prop)
 (N:∀(m:Nat)(r:List Value)(y:DataW H×List MemPlace)(s sp:List (DataW H)),x.1=.slice s sp -> y.1∈s -> DataW.trod enc P w base (λ_=>true) held m e r=some y -> E r)
 (h:DataW.trod enc P w base (λ_=>true) held K t [u]=some x):∃n,tk k E w u n:=by
 rcases open_slice Y h with⟨g,_⟩|⟨a,b,aa,m,n,D,J,C,hb,V,X,G,hx,hi⟩
 ·simp at g;subst g;exact⟨0,none,0,rfl,aq _,by unfold maxLen;omega,λ_=>rfl,.inl rfl⟩
 ·simp at C;subst C;simp only[if_true] at G;subst G;refine⟨b,some a,m,rfl,V,X,nofun,?_⟩
  by_cases g:b=0
  ·exact .inl g
  ·right;rw[M] at hi;obtain⟨ab,S,_⟩:=hi 0 (by omega);obtain⟨_,ag,O⟩:=World.cells?_some S;have l:=O 0 U;rw[List.getElem?_eq_getElem (by omega)] at l;simp only[Nat.zero_mul] at l;have R:(a.add 0).add 0=a:=by simp[Addr.add]
   rw[R] at l;obtain⟨hs,L,I,z,p,_⟩:=tj l;have A:a=⟨a.block,a.off,none⟩:=by cases a;simp_all
   have B:∀i j,i<b -> j<k -> ∀o,w.cells? base (a.add (i*k)) k=some o -> L[a.off+i*k+j]?=o[j]?:=by
    intro i j ad d o T;obtain⟨_,ai,Q⟩:=World.cells?_some T;have hh:=Q j d;rw[add_add,A,Addr.add_lit,cell_of_row w a.block _ L I z p] at hh;rw[Nat.add_assoc];exact hh
   refine⟨a.block,a.off,L,I,z,by rw[<- A],lt_of_block p,p,?_,λi F=>?_⟩
   ·obtain⟨f,c,_⟩:=hi (b-1) (by omega);obtain⟨_,W,_⟩:=World.cells?_some c;have:=B (b-1) (k-1) (by omega) (by omega) f c;rw[List.getElem?_eq_getElem (by omega)] at this;have:=(Array.getElem?_eq_some_iff.1 this).1
    have e1:b*k=(b-1)*k+k:=by
     obtain⟨q,rfl⟩:∃q,b=q+1:=⟨b-1,by omega⟩
     simp[Nat.add_mul]
    omega
   ·obtain⟨f,c,Z⟩:=hi i (by omega);obtain⟨_,W,_⟩:=World.cells?_some c
    have e:(L.toList.drop (a.off+i*k)).take k=f:=by
     apply List.ext_getElem?;intro j;rw[List.getElem?_take]
     by_cases d:j<k
     ·rw[if_pos d,List.getElem?_drop,<- B i j F d f c];simp
     ·rw[if_neg d,List.getElem?_eq_none (by omega)]
    rw[e];exact N _ _ (D i,J i) _ _ (by rw[hx]) (List.mem_map.2 ⟨i,List.mem_range.2 F,rfl⟩) Z
end
end
section
open Go.ChangeShapes Go.WideShapes Go.ChangeAt Go.Deep
theorem bulk_mem{H:Type}:∀{l:List (DataW H)}{d:DataW H},d∈l -> Rows.uptoBulk d <= Rows.uptoBulkAll l
 |x::r,d,a=>by
  rw[Rows.uptoBulkAll];rcases List.mem_cons.1 a with rfl|h
  ·exact Nat.le_add_right _ _
  ·exact au (bulk_mem h) (Nat.le_add_left _ _)
theorem qk{H:Type}{a sp:List (DataW H)}{d:DataW H}(h:d∈a):Rows.uptoBulk d <= Rows.uptoBulk (.slice a sp):=by
 have:=bulk_mem h;rw[Rows.uptoBulk];omega
theorem lk{H:Type}{l:List (DataW H)}{d:DataW H}(h:d∈l):Rows.uptoBulk d <= Rows.uptoBulk (.agg l):=by
 have:=bulk_mem h;rw[Rows.uptoBulk];omega
theorem yR{H:Type}(h:Rows.uptoBulk (.lit (.string l):DataW H) <= 1048576):l.length <= 1048576:=by
 rw[Rows.uptoBulk] at h;omega
def Ee(a:List Value):Prop:=∃x:RIt,a=bT x /\ x.key.length <= 1048576 /\ dk x.dev /\ dk x.seq /\ dk x.val
def Ef(a:List Value):Prop:=∃x:RGo,a=du x /\ x.key.length <= 1048576 /\ dk x.dev /\ dk x.seq
def ql(m:aT):Prop:=(∀x∈m.items,x.key.length <= 1048576) /\ ∀x∈m.gone,x.key.length <= 1048576
section
variable {H:Type} {enc:TypeId×Value -> H} {w:World} {base:Nat} {held:Bool}
theorem Eg{y:DataW H×List MemPlace}(h:DataW.trod enc aE w base (λ_=>true) held i 108 L=some y)(u:Rows.uptoBulk y.1 <= 1048576):Ee L:=by
 obtain⟨z,F,G,I,n,rfl,q,k,l,o,p⟩:=Go.Joins.trod_struct4 underlying108 h;rw[qP] at q;simp only[qh,mX] at k l o p
 match L,q with
 |[A,B,C,D],_=>
  obtain⟨s,e,t,E⟩:=DataW.trod_string underlying9 k;have r:=au (lk (d:=z.1) (List.mem_cons_self ..)) u;rw[t] at r;obtain⟨a,f,v⟩:=qg l;obtain⟨b,g,x⟩:=qg o;obtain⟨c,j,wc⟩:=qg p;simp at e f g j;subst e f g j;exact⟨⟨s.data.toList,a,b,c⟩,by simp[bT,eI,wG],yR r,v,x,wc⟩
theorem Eh{y:DataW H×List MemPlace}(h:DataW.trod enc aE w base (λ_=>true) held i 111 L=some y)(q:Rows.uptoBulk y.1 <= 1048576):Ef L:=by
 obtain⟨u,B,C,n,rfl,l,g,j,k⟩:=trod_struct3 underlying111 h;rw[qQ] at l;simp only[qh,mX] at g j k
 match L,l with
 |[v,x,z],_=>
  obtain⟨s,c,p,A⟩:=DataW.trod_string underlying9 g;have o:=au (lk (d:=u.1) (List.mem_cons_self ..)) q;rw[p] at o;obtain⟨a,e,r⟩:=qg j;obtain⟨b,f,t⟩:=qg k;simp at c e f;subst c e f;exact⟨⟨s.data.toList,a,b⟩,by simp[du,eI,wG],yR o,r,t⟩
theorem Fa{y:DataW H×List MemPlace}(h:DataW.trod enc aE w base (λ_=>true) true i 37 L=some y)(u:Rows.uptoBulk y.1 <= 1048576):∃f j k g,L = [f,j,k] /\ ce (λb=>b<w.heap.size) w f j k g /\ ql g:=by
 obtain⟨P,Q,R,n,rfl,v,l,o,p⟩:=trod_struct3 underlying37 h;rw[tp] at v;simp only[Au,wH,wI] at l o p
 match L,v with
 |[f,j,k],_=>
  simp at l o p;obtain⟨M,G⟩:=yK (by omega) underlying33 mX Ea (λi L y d=>qg d) l;obtain⟨N,I⟩:=qj (by omega) underlying34 qP Ee (λi L y B K a q d=>Eg d (au (qk q) (by rw[<- a];exact au (lk (by simp)) u))) o;obtain⟨O,J⟩:=qj (by omega) underlying35 qQ Ef (λi L y B K a q d=>Eh d (au (qk q) (by rw[<- a];exact au (lk (by simp)) u))) p;obtain⟨C,rfl,F,t⟩:=kh (λn=>[eI n]) 1 (by omega) (λ_=>rfl) Ea dk (λL ⟨n,e,c⟩=>⟨n,e,c⟩) G;obtain⟨D,rfl,r,z⟩:=kh bT 4 (by omega) (λ_=>rfl) Ee (λx=>x.key.length <= 1048576 /\ dk x.dev /\ dk x.seq /\ dk x.val) (λL ⟨n,e,c⟩=>⟨n,e,c⟩) I;obtain⟨E,rfl,s,A⟩:=kh du 3 (by omega) (λ_=>rfl) Ef (λx=>x.key.length <= 1048576 /\ dk x.dev /\ dk x.seq) (λL ⟨n,e,c⟩=>⟨n,e,c⟩) J;rw[Co] at t;exact⟨f,j,k,⟨C,D,E⟩,rfl,⟨t,z,A,F,λx a=>⟨au (r x a).1 (by decide),(r x a).2⟩,λx a=>⟨au (s x a).1 (by decide),(s x a).2⟩⟩,λx a=>(r x a).1,λx a=>(s x a).1⟩
end
theorem tS{H:Type}{enc:TypeId×Value -> H}{w:World}{base m:Nat}{y:DataW H×List MemPlace}
 (f:DataW.trod enc aE w base (λ_=>true) true m 39 L=some y) (p:Rows.uptoBulk y.1 <= 1048576):∃A,Av w w.heap.size L A /\ ql A.m:=by
 obtain⟨P,n,_,G,r,F,a⟩:=DataW.trod_struct underlying39 f;have j:=a 0 _ rfl;have k:=a 1 _ rfl;have o:=a 2 _ rfl;have g3:=a 3 _ rfl;have g4:=a 4 _ rfl;rw[tq] at r
 match L,r,P,F with
 |[W,X,Y,Z,c4,c5,c6],_,[x0,x1,N,x3,x4],_=>
  simp[Cr,yO,tp,mX] at j k o g3 g4;obtain⟨U,g,_,J⟩:=DataW.trod_int underlying5 j;obtain⟨n1,I⟩:=yK (by omega) underlying32 qh Eb (λm L y f=>FX f) k;obtain⟨l,rfl,q,R⟩:=kh Gq 1 (by omega) (λ_=>rfl) Eb (λx=>x.length <= 9223372036854775807) (λL ⟨s,e,D⟩=>⟨s.data.toList,by rw[e,wG];rfl,E6 D⟩) I;rw[Cq] at R
  obtain⟨v1,v2,v3,C,h,c,E⟩:=Fa o (by
   rw[G] at p
   exact au (lk (d:=N.1) (by simp)) p)
  obtain⟨z3,i,_,K⟩:=DataW.trod_int underlying3 g3;obtain⟨z4,b,_,M⟩:=DataW.trod_int underlying5 g4;simp at g h i b;obtain⟨rfl,rfl,rfl⟩:=h;subst g i b;have V:=bounds_u8 M;obtain⟨O,t,rfl,-⟩:=id R;obtain⟨Q,u,rfl,-⟩:=c.seen.shape;obtain⟨S,v,rfl,-⟩:=c.items.shape;obtain⟨T,z,rfl,-⟩:=c.gone.shape
  have b:Value.int .u8 z4=B (UInt8.ofNat z4.toNat):=by
   unfold B
   congr 1
   simp;omega
  exact⟨⟨U,l,C,z3,UInt8.ofNat z4.toNat⟩,⟨bounds_u8 J,bounds_i64 K,O,t,Q,u,S,v,T,z,by rw[b],R,q,c⟩,E⟩
def IsUActsB(w:World)(v:Value):Prop:=∃n,tk 7 (λa=>∃A,Av w w.heap.size a A /\ ql A.m) w v n
theorem open_UActsB{H:Type}{enc:TypeId×Value -> H}{w:World}{d:DataW H}{p:List MemPlace}
 (k:Value.okWide aE w .any i 22 u) (h:DataW.Trod enc aE w 0 (λ_=>true) true 22 u d p) (f:Rows.uptoBulk d <= 1048576):IsUActsB w u:=by
 obtain⟨a0,q,n,rfl⟩:=okWide_slice underlying22 k;obtain⟨o,g⟩:=h;refine qj (by omega) underlying22 tq (λc=>∃A,Av w w.heap.size c A /\ ql A.m) (λm c y e b a j l=>tS l (au (qk (sp:=b) j) ?_)) g;have a:d=.slice e b:=a;rw[<- a];exact f
theorem Cy{w:World}{v:Value}(h:IsUActsB w v):∃A,pH w w.heap.size v A /\ ∀a∈A,ql a.m:=by
 obtain⟨n,a,D,rfl,X,H,Y,I⟩:=h;have S:n <= 9223372036854775807:=by unfold maxLen at H;omega
 rcases I with rfl|⟨b,c,L,t,G,rfl,O,Q,Z,J⟩
 ·exact⟨[],⟨a,D,rfl,by simp,.inl rfl⟩,nofun⟩
 ·have p:∀i,i<n -> ∃A:tR,ql A.m /\ (0 <= A.kind /\ A.kind <= 255) /\ dk A.n /\ (∀x∈A.keys,x.length <= 9223372036854775807) /\ ∃z o r g s k y l,
   w.cell? ⟨b,c+i*7,none⟩=some (.int .u8 A.kind) /\ w.cell? ⟨b,c+i*7+1,none⟩=some (.slice z A.keys.length o) /\ w.cell? ⟨b,c+i*7+2,none⟩=some (.slice r A.m.seen.length g) /\ w.cell? ⟨b,c+i*7+3,none⟩=some (.slice s A.m.items.length k) /\ w.cell? ⟨b,c+i*7+4,none⟩=some (.slice y A.m.gone.length l) /\ w.cell? ⟨b,c+i*7+5,none⟩=some (.int .i64 A.n) /\ w.cell? ⟨b,c+i*7+6,none⟩=some (B A.b) /\
   Rows (λq=>q<w.heap.size) w 1 (.slice z A.keys.length o) A.keys.length (A.keys.map Go.Proofs.encStr) /\ ce (λq=>q<w.heap.size) w (.slice r A.m.seen.length g) (.slice s A.m.items.length k) (.slice y A.m.gone.length l) A.m:=by
   intro i hi;obtain⟨A,⟨V,W,z,o,r,g,s,k,y,l,P,M,T,K⟩,U⟩:=J i hi
   have d:∀j u,[Value.int .u8 A.kind,.slice z A.keys.length o,.slice r A.m.seen.length g,.slice s A.m.items.length k,.slice y A.m.gone.length l,.int .i64 A.n,B A.b][j]?=some u -> j<7 -> w.cell? ⟨b,c+i*7+j,none⟩=some u:=λj u F R=>by
    rw[<- P,List.getElem?_take,if_pos R,List.getElem?_drop] at F;rw[cell_of_row w b _ L t G Q];simpa using F
   exact⟨A,U,V,W,T,z,o,r,g,s,k,y,l,d 0 _ rfl (by omega),d 1 _ rfl (by omega),d 2 _ rfl (by omega),d 3 _ rfl (by omega),d 4 _ rfl (by omega),d 5 _ rfl (by omega),d 6 _ rfl (by omega),M,K⟩
  let f:Nat -> tR:=λi=>if h:i<n then Classical.choose (p i h) else⟨0,[],.empty,0,0⟩
  have E:∀i,(h:i<n) -> f i=Classical.choose (p i h):=λi h=>by simp only[f,dif_pos h]
  refine⟨(List.range n).map f,⟨some ⟨b,c,none⟩,D,by simp,by simpa using S,.inr ⟨b,c,rfl,O,λi hi=>?_⟩⟩,λa N=>?_⟩
  ·have C:i<n:=by simpa using hi
   have e:((List.range n).map f)[i]=Classical.choose (p i C):=by simp[E i C]
   rw[e];exact(Classical.choose_spec (p i C)).2
  ·obtain⟨i,hi,rfl⟩:=List.mem_map.1 N;rw[E i (List.mem_range.1 hi)];exact(Classical.choose_spec (p i (List.mem_range.1 hi))).1
end
section
open Go.Lib
attribute [local go_sem] opC upC
def F0(A:List tR):Prop:=A.length <= 60 /\ ∀a∈A,E7 a
def Az(w:World)(A:List tR)(e:Ending)(a:World):Prop:=w=a /\ ∃r:Bool,e=.returned (.bool r) /\ (r=true -> F0 A)
theorem AA(lo:Nat)(v:Value)(A:List tR)(h:pH w lo v A)(aM:lo <= w.heap.size):
 Calls aE 9 #[v] w (Az w A):=by
 obtain⟨a,aJ,rfl,h9,l⟩:=h;obtain⟨n,s⟩:=aH A.length;rw[s] at h9⊢;have⟨Hx,o⟩:=ae2 l s;clear l s
 by_cases ar:n <= 60
 case neg=>
  have av:¬(n:Int) <= 60:=by omega
  have aK:(60:Int)<(n:Int):=by omega
  go_enter func9,ntmps9
  go_wp2
  go_ret
  exact⟨rfl,false,rfl,nofun⟩
 have av:(n:Int) <= 60:=by omega
 go_enter func9,ntmps9
 go_wp2
 go_loopw [3] (λi wr=>∃k:Nat,k <= n /\ i=.int .i64 (k:Int) /\ (∀j (h:j<A.length),j<k -> E7 A[j]) /\ w=wr) (λi _=>n-(intOf i).toNat)
 ·exact⟨0,by omega,rfl,λj h f=>by omega,rfl⟩
 ·rename World=>wo
  obtain⟨k,hk,rfl,Z,rfl⟩:=hrel;have M:=ae Z;clear Z
  by_cases az:k<n
  ·have ay:(k:Int)<(n:Int):=by omega
   have r:k<A.length:=by rw[o.x];exact az
   obtain⟨b,aO,rfl,aL,V⟩:=Hx.x.resolve_left (by intro e;rw[e] at r;simp at r);obtain⟨I,J,q3,xk,ck,x1,c1,x2,c2,x3,c3,N,O,P,Q,R,S,T,p,U⟩:=V k r;obtain⟨y,D⟩:=aH A[k];rw[D] at I J q3 N O P Q R S T p U;obtain⟨c,B⟩:=aH y.keys.length;obtain⟨H,C⟩:=aH y.m.seen.length;obtain⟨G,u⟩:=aH y.m.items.length;obtain⟨F,t⟩:=aH y.m.gone.length;rw[B] at O;rw[C] at P;rw[u] at Q;rw[t] at R;have⟨Hy,L,HR,d,ad,ab,aa⟩:=ae7 D (show(0 <= y.kind /\ y.kind <= 255) /\ dk y.n from⟨I,J⟩) p B C u t;clear I J q3 N S T p U V D B C u t
   by_cases b1:c <= 20
   case neg=>
    have ai:(20:Int)<(c:Int):=by omega
    go_wp2
    go_ret
    exact⟨rfl,false,rfl,nofun⟩
   have ai:¬(20:Int)<(c:Int):=by omega
   by_cases b2:G <= 20
   case neg=>
    have ak:(20:Int)<(G:Int):=by omega
    go_wp2
    go_ret
    exact⟨rfl,false,rfl,nofun⟩
   have ak:¬(20:Int)<(G:Int):=by omega
   by_cases b3:F <= 20
   case neg=>
    have al:(20:Int)<(F:Int):=by omega
    go_wp2
    go_ret
    exact⟨rfl,false,rfl,nofun⟩
   have al:¬(20:Int)<(F:Int):=by omega
   by_cases b4:H <= 20
   case neg=>
    have an:(20:Int)<(H:Int):=by omega
    go_wp2
    go_ret
    exact⟨rfl,false,rfl,nofun⟩
   have an:¬(20:Int)<(H:Int):=by omega
   go_wp2
   go_loopw [4] (λi wr=>∃q:Nat,q <= c /\ i=.int .i64 (q:Int) /\ (∀j (h:j<y.keys.length),j<q -> y.keys[j].length <= 60) /\ w=wr) (λi _=>c-(intOf i).toNat)
   ·exact⟨0,by omega,rfl,λj h f=>by omega,rfl⟩
   ·obtain⟨q,aN,rfl,X,rfl⟩:=hrel;have K:=ae X;clear X
    by_cases aI:q<c
    ·have aF:(q:Int)<(c:Int):=by omega
     have aG:q<y.keys.length:=by rw[d.x];exact aI
     have g:=HR.x;rw[d.x] at g;rw[<- d.x] at g;obtain⟨bk,aP,rfl,-,-,W⟩:=fE g (by omega);have e0:=W q aG;obtain⟨z,E⟩:=aH y.keys[q];rw[E] at e0;have Hz:=ae E;clear g W E
     by_cases b5:z.length <= 60
     ·have ao:¬(60:Int)<(z.length:Int):=by omega
      go_wp2
      go_roundw
      ·exact⟨q+1,by omega,by go_num,λj f ax=>by
       by_cases e:j=q
       ·subst e;rw[Hz.x];exact b5
       ·exact K.x j f (by omega),trivial⟩
      ·simp[intOf];omega
     ·have ao:(60:Int)<(z.length:Int):=by omega
      go_wp2
      go_ret
      exact⟨rfl,false,rfl,nofun⟩
    ·have aF:¬(q:Int)<(c:Int):=by omega
     have Y:E7 y:=⟨L.x.1,L.x.2,by rw[d.x];exact b1,λx l=>by
      obtain⟨i,hi,rfl⟩:=List.getElem_of_mem l
      exact K.x i hi (by rw[d.x] at hi;omega),by rw[ab.x];exact b2,by rw[aa.x];exact b3,by rw[ad.x];exact b4⟩
     have ag:=ae Y;clear Y;go_wp2_with fail
     exact⟨⟨k+1,by omega,by go_num,λj f ax=>by
      by_cases e:j=k
      ·subst e;rw[Hy.x];exact ag.x
      ·exact M.x j f (by omega),trivial⟩,by simp[intOf];omega⟩
  ·have ay:¬(k:Int)<(n:Int):=by omega
   obtain rfl:k=n:=by omega
   go_wp2
   go_ret
   refine⟨rfl,true,rfl,λ_=>⟨by rw[o.x];exact ar,λa ha=>?_⟩⟩;obtain⟨i,hi,rfl⟩:=List.getElem_of_mem ha;exact M.x i hi (by rw[<- o.x];exact hi)
theorem Gs(a b:List UInt8)(d:a.length <= 100)(f:b.length <= 100):
 Calls aE 24 #[.string ⟨a.toArray⟩,.string ⟨b.toArray⟩] w λe c=>e=.returned (.string ⟨(49::a++0::b).toArray⟩) /\ w=c:=by
 go_enter func24,ntmps24
 go_wp2_with fail
 have e:(⟨#[49]⟩:ByteArray)++⟨a.toArray⟩++⟨#[0]⟩++⟨b.toArray⟩=⟨(49::a++0::b).toArray⟩:=by
  apply ByteArray.ext;simp
 rw[e]
 go_ret
 exact⟨rfl,rfl⟩
theorem jX(L:iF w):
 Calls aE 10 #[] w λe x=>e=.returned (.bool true) /\ Kpt w x:=by
 have⟨j,aS,HN⟩:=ae3 (show ∀W,Kpt w W -> iF W from λW a=>L.below a) L (Gp w L.2.2 40 (by decide) (by decide));obtain⟨M0,U0,S,U1,M2,U2,hP⟩:=Gm;have c:=ae hP;clear L hP
 go_enter func10,ntmps10
 go_wp2_with fail;refine HN.x.mono ?_;rintro e w1 ⟨d,rfl,hd,U⟩;have hF:=FW w1 (j.x w1 U) _ d (MD.fresh 40) hd (by simp[MD.fresh]) (by show 0+200000<_;decide) 3 (by decide) c.x.fmt (by rw[c.x.form]);rw[c.x.form] at hF;have⟨HF,aN⟩:=ae2 hF U;clear hF hd U HN;go_wp2_with fail;refine HF.x.mono ?_;rintro e y ⟨u,rfl,o,ak⟩;have al:Kpt w y:=aN.x.trans ak;have⟨HU,ag,B⟩:=ae3 o al (show ∀W,Calls aE 24 #[.string ⟨#[97]⟩,.string ⟨#[98]⟩] W λe x=>e=.returned (.string ⟨exK.toArray⟩) /\ W=x from λW=>Gs W [97] [98] (by decide) (by decide));clear o ak al HF;go_wp2_with fail;refine(B.x _).mono ?_;rintro e bi ⟨rfl,rfl⟩;obtain⟨F,l⟩:=aP (y.alloc (.cells #[.string ⟨exK.toArray⟩] 9));have v:Kpt y F:=by rw[l];exact aI _ _
 have D:Rows (λb=>b=y.heap.size) F 1 (.slice (some ⟨y.heap.size,0,none⟩) 1 1) [exK].length ([exK].map Go.Proofs.encStr):=by
  rw[l];exact kS y #[.string ⟨exK.toArray⟩] 9 1 rfl (by unfold maxLen;omega)
 have s:Kpt w F:=ag.x.trans (v.mono ag.x.size);have t:=E4 F (j.x F s) _ d u _ _ (HU.x.keep v) (by show _<8;rw[c.x.dev0];decide) (by show aV _=true;rw[c.x.m0];exact iQ) _ _ [exK] D (by decide) (λk V=>by rw[List.mem_singleton.1 V];decide) (by have:=c.x.w0;have:=c.x.w1;omega);rw[c.x.learn] at t;have⟨C,aO,ay⟩:=ae3 t l s;clear t l v D s;go_wp2_with fail;rw[<- aO.x];refine C.x.mono ?_;rintro e G ⟨rfl,o,a⟩;have⟨Q,X⟩:=ae2 o (show Kpt w G from ay.x.trans a);clear o a C
 have A:=ae (show Calls aE 17 #[.pointer (some ⟨u,0,none⟩)] G λe x=>e=.returned (.int .i64 3) /\ G=x from by
  have h:=yN G _ d u S U1 Q.x;rw[c.x.dev1] at h
  exact h)
 go_wp2_with fail;refine A.x.mono ?_;rintro e bd ⟨rfl,rfl⟩;clear A;have M:=D9 G _ d u _ _ Q.x (by show aV _=true;rw[c.x.m1];exact eX)
 try dsimp only at M
 rw[c.x.m1] at M;have m:=ae M;clear M;go_wp2_with fail;refine m.x.mono ?_;rintro e ao ⟨⟨r,rfl,i,p⟩,a⟩;have q:=i.map p;obtain⟨t1,t2,t3,rfl,f⟩:=id i;obtain⟨a4,aU,rfl⟩:=aJ f.seen;obtain⟨a7,aY,rfl⟩:=aJ f.items;obtain⟨ba,a1,rfl⟩:=aJ f.gone;have I:=ae (show Kpt w ao from X.x.trans (a.mono X.x.size));have g:=oE ao (j.x _ I.x).2.1 (j.x _ I.x).2.2 _ _ _ q (cO eX).1 (cO eX).2 exK (by decide);rw[yM] at g;have⟨n,aG⟩:=ae2 g (Q.x.keep a);clear g q i f a p m;go_wp2_with fail;refine(B.x _).mono ?_;rintro e bf ⟨rfl,rfl⟩;go_wp2_with fail;refine n.x.mono ?_;rintro e ax ⟨rfl,a⟩;have⟨P,aL⟩:=ae2 (show Kpt w ax from I.x.trans (a.mono I.x.size)) (aG.x.keep a);clear a n;have T:=E5 ax (j.x _ P.x) _ d S aL.x.disk;rw[c.x.opened] at T;have ab:=ae T;clear T;go_wp2_with fail;refine ab.x.mono ?_;rintro e H ⟨⟨E,rfl,ai⟩,an⟩;have⟨R,Y⟩:=ae2 ai (show Kpt w H from P.x.trans (an.mono P.x.size));clear ai an ab
 have A:=ae (show Calls aE 17 #[.pointer (some ⟨E,0,none⟩)] H λe x=>e=.returned (.int .i64 3) /\ H=x from by
  have h:=yN H _ d E S _ R.x
  try dsimp only at h
  rw[c.x.dev1] at h
  exact h)
 go_wp2_with fail;refine A.x.mono ?_;rintro e be ⟨rfl,rfl⟩;clear A;have N:=D9 H _ d E _ _ R.x (by show aV _=true;rw[c.x.m1];exact eX)
 try dsimp only at N
 rw[c.x.m1] at N;have m:=ae N;clear N;go_wp2_with fail;refine m.x.mono ?_;rintro e ar ⟨⟨r,rfl,i,p⟩,a⟩;have q:=i.map p;obtain⟨t1,t2,t3,rfl,f⟩:=id i;obtain⟨a5,aW,rfl⟩:=aJ f.seen;obtain⟨a8,aZ,rfl⟩:=aJ f.items;obtain⟨bb,a2,rfl⟩:=aJ f.gone;have J:=ae (show Kpt w ar from Y.x.trans (a.mono Y.x.size));have g:=oE ar (j.x _ J.x).2.1 (j.x _ J.x).2.2 _ _ _ q (cO eX).1 (cO eX).2 exK (by decide);rw[yM] at g;have⟨n,aH⟩:=ae2 g (R.x.keep a);clear g q i f a p m;go_wp2_with fail;refine(B.x _).mono ?_;rintro e bg ⟨rfl,rfl⟩;go_wp2_with fail;refine n.x.mono ?_;rintro e z ⟨rfl,a⟩;have⟨aa,aM⟩:=ae2 (show Kpt w z from J.x.trans (a.mono J.x.size)) (aH.x.keep a);clear a n;go_wp2_with fail;refine(B.x _).mono ?_;rintro e bj ⟨rfl,rfl⟩;obtain⟨w6,l⟩:=aP (z.alloc (.cells #[.string ⟨exK.toArray⟩] 9));have v:Kpt z w6:=by rw[l];exact aI _ _
 have D:Rows (λb=>b=z.heap.size) w6 1 (.slice (some ⟨z.heap.size,0,none⟩) 1 1) [exK].length ([exK].map Go.Proofs.encStr):=by
  rw[l];exact kS z #[.string ⟨exK.toArray⟩] 9 1 rfl (by unfold maxLen;omega)
 have s:Kpt w w6:=aa.x.trans (v.mono aa.x.size);have t:=FV w6 (j.x w6 s) _ d E _ _ (aM.x.keep v) (by show _<8;rw[c.x.dev1];decide) (by show aV _=true;rw[c.x.m1];exact eX) _ _ [exK] D (by decide) (λk V=>by rw[List.mem_singleton.1 V];decide) (by have:=c.x.w0;have:=c.x.w1;omega);rw[c.x.drop] at t;have⟨C,aQ,az⟩:=ae3 t l s;clear t l v D s;go_wp2_with fail;rw[<- aQ.x];refine C.x.mono ?_;rintro e w7 ⟨rfl,o,a⟩;have⟨ad,Z⟩:=ae2 o (show Kpt w w7 from az.x.trans a);clear o a C;have O:=D9 w7 _ d E _ _ ad.x (by show aV _=true;rw[c.x.m2];exact jW)
 try dsimp only at O
 rw[c.x.m2] at O;have m:=ae O;clear O;go_wp2_with fail;refine m.x.mono ?_;rintro e av ⟨⟨r,rfl,i,p⟩,a⟩;have q:=i.map p;obtain⟨t1,t2,t3,rfl,f⟩:=id i;obtain⟨a6,aX,rfl⟩:=aJ f.seen;obtain⟨a9,a0,rfl⟩:=aJ f.items;obtain⟨bc,a3,rfl⟩:=aJ f.gone;have K:=ae (show Kpt w av from Z.x.trans (a.mono Z.x.size));have g:=oE av (j.x _ K.x).2.1 (j.x _ K.x).2.2 _ _ _ q (cO jW).1 (cO jW).2 exK (by decide);rw[D7] at g;have⟨n,aK⟩:=ae2 g (ad.x.keep a);clear g q i f a p m;go_wp2_with fail;refine(B.x _).mono ?_;rintro e bh ⟨rfl,rfl⟩;go_wp2_with fail;refine n.x.mono ?_;rintro e aR ⟨rfl,a⟩;have⟨aF,aT⟩:=ae2 (show Kpt w aR from K.x.trans (a.mono K.x.size)) (aK.x.keep a);clear a n;go_wp2
 go_ret
 exact⟨rfl,aF.x⟩
def Ei(w:World)(X:aQ)(b d v n:Nat)(i:Value)(wr:World):Prop:=∃(k:Nat)(M:MD)(o:Option MU)(pu a:Value),k <= n /\ i=.int .i64 (k:Int) /\ PX wr X b d v M M o o pu a /\ (∀U,o=some U -> U.dev<8 /\ aV U.m=true) /\ M.writes <= 200000+200000*k /\ Kpt w wr
theorem UserPlays_walk(C J:Int)(v:Value)(w:World)(hv:IsUActsB w v)(hL:iF w):
 Calls aE 4 #[.int .i64 C,.int .i64 J,v] w λe O=>e=.returned (.bool true) /\ Kpt w O:=by
 obtain⟨A,hA,bB⟩:=Cy hv;have T:=ae (AA w w.heap.size v A hA (aq _));obtain⟨a,b7,rfl,h9,u⟩:=id hA;have P:=ae (show ∀W,Kpt w W -> iF W from λW g=>hL.below g);obtain⟨n,R⟩:=aH A.length;rw[R] at h9 T⊢;have⟨Hx,Hn,bN⟩:=ae3 u R bB;have b9:4 <= w.heap.size:=hL.2.2;clear hL u hA hv R bB
 by_cases ak:300<C /\ C <= 65536
 ·obtain⟨ak,b1⟩:=ak
  go_enter func4,ntmps4
  have⟨m,l⟩:=ae2 (jX w (P.x w (Below.refl w.heap.size w))) (Below.refl w.heap.size w)
  skip
  go_wp2_with fail
  skip
  refine m.x.mono ?_;rintro e wz ⟨rfl,t⟩;have H:=ae (l.x.trans (t.mono l.x.size));clear m t;go_wp2
  go_ret
  exact⟨rfl,H.x⟩
 by_cases hN:C<1 \/ 65536<C
 ·have⟨HN,HR,HG,aY,HO⟩:=ae5 (EK w C hN) (Ao w C hN) (yQ tu w (zW w) J) (yQ qi w (yB w) J) (Cv w);obtain⟨c,hc⟩:=aH (FZ J);rw[hc] at HG aY;clear hc ak;rcases hN with h1|b1
  case' inl=>have h3:¬300<C:=by omega
  case' inr=>
   have h3:300<C:=by omega
   have ca:¬C <= 65536:=by omega
  all_goals
   go_enter func4,ntmps4
   go_wp2_with fail;refine T.x.mono ?_;rintro e O ⟨rfl,r,rfl,F⟩;clear T;cases r with
   |false=>
    clear F;have⟨m,l⟩:=ae2 (jX w (P.x w (Below.refl w.heap.size w))) (Below.refl w.heap.size w)
    skip
    go_wp2_with fail
    skip
    refine m.x.mono ?_;rintro e wz ⟨rfl,t⟩;have H:=ae (l.x.trans (t.mono l.x.size));clear m t;go_wp2
    go_ret
    exact⟨rfl,H.x⟩
   |true=>
    clear F;go_wp2_with fail;refine HN.x.mono ?_;rintro e w1 ⟨rfl,rfl⟩;go_wp2_with fail;refine HR.x.mono ?_;rintro e w1 ⟨rfl,rfl⟩;go_wp2_with fail;refine HG.x.mono ?_;rintro e w1 ⟨rfl,rfl⟩;go_wp2_with fail;refine HO.x.mono ?_;rintro e w1 ⟨rfl,rfl⟩;go_wp2_with fail;refine aY.x.mono ?_;rintro e w1 ⟨rfl,rfl⟩;have⟨m,l⟩:=ae2 (jX w (P.x w (Below.refl w.heap.size w))) (Below.refl w.heap.size w)
    skip
    go_wp2_with fail
    skip
    refine m.x.mono ?_;rintro e wz ⟨rfl,t⟩;have H:=ae (l.x.trans (t.mono l.x.size));clear m t;go_wp2
    go_ret
    exact⟨rfl,H.x⟩
 obtain⟨E,rfl⟩:∃s:Nat,C=(s:Int):=⟨C.toNat,by omega⟩
 have b0:1 <= E:=by omega
 have bc:E <= 300:=by omega
 have b8:¬(300:Int)<(E:Int):=by omega
 have⟨HN,ai⟩:=ae2 (Dj w E (by omega) (by omega)) bc;clear ak hN bc
 go_enter func4,ntmps4
 go_wp2_with fail;refine T.x.mono ?_;rintro e O ⟨rfl,r,rfl,F⟩;clear T;cases r with
 |false=>
  clear F;have⟨m,l⟩:=ae2 (jX w (P.x w (Below.refl w.heap.size w))) (Below.refl w.heap.size w)
  skip
  go_wp2_with fail
  skip
  refine m.x.mono ?_;rintro e wz ⟨rfl,t⟩;have H:=ae (l.x.trans (t.mono l.x.size));clear m t;go_wp2
  go_ret
  exact⟨rfl,H.x⟩
 |true=>
  have aZ:=ae (F rfl);have cb:n <= 60:=by rw[<- Hn.x];exact aZ.x.1
  clear F;go_wp2_with fail;refine HN.x.mono ?_;rintro e wa ⟨K,rfl,br,bo,bu⟩;have⟨a2,a7,a8,ax⟩:=ae4 (Ce wa E b0 (by have:=ai.x;omega)) br bu bo;clear HN br bo bu;go_wp2_with fail;refine a2.x.mono ?_;rintro e wc ⟨I,rfl,F,Q,bl⟩;obtain⟨z,aV⟩:=aP wc.heap.size;obtain⟨G,ab⟩:=aP (wc.alloc (.cells #[.pointer (some ⟨K.d,0,none⟩),.pointer none,.pointer (some ⟨I.d,0,none⟩),.pointer none] 61));have an:Kpt wc G:=by rw[ab];exact aI _ _
  have b5:G.heap.size=wc.heap.size+1:=by rw[ab];simp
  have L:Blk G z [.pointer (some ⟨K.d,0,none⟩),.pointer none,.pointer (some ⟨I.d,0,none⟩),.pointer none] 61:=by rw[ab,aV];exact Blk.new _ _ _
  obtain⟨X,D⟩:=aP (λq=>q<w.heap.size \/ q=z:aQ);have bC:=ax.x.size;have bD:=Q.size;have aN:=a7.x.lt;have bA:=F.lt;have aL:=(a7.x.kept Q).kept an
  have bg:lR G X K I (MD.fresh E) (MD.fresh E):=⟨aL,F.kept an,λb g u=>by
   have:=a8.x b g;have:=aN b g;rw[D] at u;rcases u with u|u<;>omega,λb g=>by
   have:=bl b g;have:=bA b g;refine⟨λu=>?_,λhf=>by have:=aN b hf;omega⟩;rw[D] at u
   rcases u with u|u<;>omega⟩
  have aR:∀q,X q -> q<G.heap.size:=λq f=>by
   rw[D] at f;rcases f with f|f<;>omega
  have aG:Kpt w G:=(ax.x.trans (Q.mono ax.x.size)).trans (an.mono (au bC bD));have HF:=ae (Cw G (P.x G aG) K E ai.x aL (λb g=>by have:=a8.x b g;omega) J);have aT:=Ed E ai.x J;obtain⟨⟨Y,r⟩,aU⟩:=aH (nF E J);rw[aU] at HF aT;have⟨Hr,ay⟩:=ae2 aU aT;have a9:=ae (λe O S=>bg.new aR (M':=Y) (r:=r) (e:=e) (w':=O) S);have⟨aW,bL,bO,a6,V,bK,ba,HX⟩:=ae8 L aR ab aG (show X z by rw[D];exact .inr rfl) (show ∀q,q <= 3 -> X q from λq f=>by rw[D];exact .inl (by omega)) (show w.heap.size <= z by omega) D;clear a2 F Q bl ab an b5 L bC bD aN bA aL bg aR aG aU aT;go_wp2_with fail;rw[<- aV,<- bO.x];clear aV D;refine HF.x.mono ?_;intro e w3 S;obtain⟨a3,rfl,bh,ao⟩:=a9.x _ _ S;have⟨bF,bS⟩:=ae2 ao ao.size;have L:=aW.x.keep (ao.block _ aW.x.lt λR=>R V.x);have bI:=ae (λ(q:Nat) (h:X q)=>h);clear HF a9 S ao;have g1:=L.cell 1;have g2:=L.cell 2;have f1:=L.free 1;simp at g1 g2;obtain⟨w4,ad⟩:=aP (w3.setCell ⟨z,1,none⟩ (.pointer a3));have bw:=bh.put V.x L (.pointer a3);rw[<- ad] at bw;obtain⟨bi,be⟩:=bw;have aS:∀q,X q -> q<w4.heap.size:=λq f=>by have:=bL.x q f;have:=bS.x;rw[ad];simp[World.setCell];omega
  obtain⟨Z,R4,bk,hZ,bz,bp⟩:=bi.new aS;have hO:=Cx Z w4 hZ R4 E ai.x bz J;rw[Hr.x,bk] at hO
  have bt:aM (λq=>¬X q \/ q=z) G w4:=by
   rw[ad];exact(bF.x.mono λq f=>(.inl f:¬X q \/ q=z)).setCell (.inl (.inr rfl)) _
  have⟨HO,l,aX,bP,bJ,bM⟩:=ae6 hO bp be ad bt aS;clear bh L be ad bi aS bk hZ bz bp hO bt;go_wp2_with fail;rw[<- bP.x];refine HO.x.mono ?_;intro e w5 S;obtain⟨a5,rfl,bm,ar⟩:=l.x _ _ _ S;have al:=aX.x.keep (ar.block _ aX.x.lt λR=>R V.x);clear g1 g2 f1;have g3:=al.cell 3;have f3:=al.free 3;simp at g3;obtain⟨w6,ag⟩:=aP (w5.setCell ⟨z,3,none⟩ (.pointer a5));have bx:=bm.put V.x al (.pointer a5);rw[<- ag] at bx;obtain⟨bn,bf⟩:=bx;have a4:=ae (show PX w6 X z K.d I.d Y Y (wL r) (wL r) (.pointer a3) (.pointer a5) from⟨bf,bn,V.x,bK.x,λq f=>by have:=bM.x q f;have:=ar.size;rw[ag];simp[World.setCell];omega⟩)
  have bG:=ae (show aM (λq=>¬X q \/ q=z) G w6 by
   rw[ag]
   exact(bJ.x.trans ar λq f=>.inl (.inl λu=>f (bI.x q u))).setCell (.inl (.inr rfl)) _)
  have bQ:=ae ag;clear HO l S bm ar al bf bn ag;have HS:=ae (uX _ _ _ _ _ _ _ _ _ a4.x λU e=>(ay.x.2 U e).2);go_wp2_with fail;rw[<- bQ.x];refine HS.x.mono ?_;rintro e w7 ⟨rfl,aK⟩
  have aJ:Kpt w w6:=a6.x.trans (bG.x.below (λq f=>by
   have:=ba.x;have D:=HX.x;rcases f with f|f
   ·rw[D] at f;exact Nat.le_of_not_lt λh=>f (.inl h)
   ·omega) a6.x.size)
  have H0:=ae (show Ei w X z K.d I.d n (.int .i64 0) w7 from⟨0,Y,wL r,_,_,Nat.zero_le _,rfl,a4.x.keep aK,ay.x.2,by have:=ay.x.1;omega,aJ.trans (aK.mono aJ.size)⟩);clear HS aK aJ g3 f3;go_wp2
  go_loopw [18] (λi wr=>Ei w X z K.d I.d n i wr) (λi _=>n-(intOf i).toNat)
  ·exact H0.x
  ·rename World=>wo
   obtain⟨k,M,o,pu,pw,hk,rfl,hP,ho,av,g⟩:=hrel
   by_cases b4:k<n
   case neg=>
    have b3:¬(k:Int)<(n:Int):=by omega
    have⟨m,l⟩:=ae2 (jX wo (P.x wo g)) g;clear hP ho av g;go_wp2_with fail
    skip
    refine m.x.mono ?_;rintro e wz ⟨rfl,t⟩;have H:=ae (l.x.trans (t.mono l.x.size));clear m t;go_wp2
    go_ret
    exact⟨rfl,H.x⟩
   have b3:(k:Int)<(n:Int):=by omega
   have aa:k<A.length:=by rw[Hn.x];exact b4
   obtain⟨b,b6,rfl,bq,hc⟩:=Hx.x.resolve_left (by intro e;rw[e] at aa;simp at aa);obtain⟨q1,q2,q3,xk,ck,x1,c1,x2,c2,x3,c3,d0,d1,d2,d3,d4,d5,d6,hR,hM⟩:=hc k aa;have az:=aZ.x.2 A[k] (aC aa);have aF:=bN.x A[k] (aC aa);obtain⟨y,hy⟩:=aH A[k];rw[hy] at d0 d1 d2 d3 d4 d5 d6 hR hM az aF;clear hc q1 q2 q3 hy;have N:∀j x,w.cell? ⟨b,j,none⟩=some x -> wo.cell? ⟨b,j,none⟩=some x:=λj x h=>(g.cell (p:=⟨b,j,none⟩) bq).trans h
   have bb:w.cell? ⟨b,b6+k*7+6,none⟩=some (.int .u8 (y.b.toNat:Int)):=d6;have bT:=N _ _ d0;have bU:=N _ _ d1;have bV:=N _ _ d2;have bW:=N _ _ d3;have bX:=N _ _ d4;have bY:=N _ _ d5;have bZ:=N _ _ bb;have b2:b<wo.heap.size:=aw bq g.size;have aO:∀q,q<w.heap.size -> X q:=λq f=>by rw[HX.x];exact .inl f
   have hC:=Cu wo (P.x wo g) X z K.d I.d M o pu pw hP ho (Nat.lt_of_le_of_lt (Nat.add_le_add_right (au av (Nat.add_le_add_left (Nat.mul_le_mul_left 200000 (show k <= 60 by omega)) 200000)) 200000) (by decide)) y az xk ck x1 c1 x2 c2 x3 c3 ((hR.keep (w':=wo) λq f _=>g.block q f).mono λq f _=>aO q f) ((hM.keep (w':=wo) λq f _=>g.block q f).mono λq f _=>aO q f) aF;have bd:B y.b=.int .u8 (y.b.toNat:Int):=rfl;rw[bd] at hC;have⟨HC,bR,Hb⟩:=ae3 hC av g;clear hC bd aO N d0 d1 d2 d3 d4 d5 d6 bb hR hM az aF hP ho av g;go_wp2_with fail;refine HC.x.mono ?_;rintro e w8 ⟨rfl,M2,o2,p2,q2,bj,bv,bE,bs⟩
   have Q:Below w.heap.size wo w8:=bs.below (λq f=>by
    have:=ba.x;have D:=HX.x;rcases f with f|f
    ·rw[D] at f;exact Nat.le_of_not_lt λh=>f (.inl h)
    ·omega) Hb.x.size
   have bH:=ae (show Ei w X z K.d I.d n (.int .i64 ((k:Int)+1)) w8 from⟨k+1,M2,o2,p2,q2,by omega,rfl,bj,bv,au bE (by rw[Nat.mul_succ,<- Nat.add_assoc];exact Nat.add_le_add_right bR.x 200000),Hb.x.trans Q⟩);clear HC bj bv bE bs Q bT bU bV bW bX bY bZ b2;go_wp2
   go_roundw
   ·exact bH.x
   ·simp[intOf];omega
end
end Go.Proofs.YtobjdpngnfbicaaGreatDoor
