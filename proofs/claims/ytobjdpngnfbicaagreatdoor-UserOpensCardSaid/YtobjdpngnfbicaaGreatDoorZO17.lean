/-
  Sec35 P4 P2 P6 RJ9
-/
import Derived.Test.YtobjdpngnfbicaaGreatDoorZO16
open Go.Lib renaming hid->ae
open Go.IntWalk renaming i64_in->af
open Nat renaming le_refl->aq,le_trans->au,lt_of_lt_of_le->aw
open List renaming length_append->aA,append_assoc->aB
open Go.Proofs.Tryz renaming prog->aE
set_option maxHeartbeats 4000000
set_option maxRecDepth 100000
set_option linter.all false
namespace Go.Proofs.YtobjdpngnfbicaaGreatDoor
open Go.RowKit
open Tryz
variable(w w9:World)(F:aX)(n:Nat)(v:Value)(b:List UInt8){W w':World}{G:aX}{u:Value}{i j o:Nat}{l:List UInt8}{L:List Value}{N:MD}{t:TypeId}
section
attribute [local go_sem ↓] mB eU
theorem xq{s:List UInt8}(b:Blk W i (s.map B) t)(a:s.length=64)(F:aX)(hF:F i):aO F W (.slice (some ⟨i,0,none⟩) 64 64) s:=by
 have:=jc b (by rw[a];unfold maxLen;omega) F hF;rw[a] at this;exact this
theorem Blk.byte(c:Blk W i (l.map B) t)(a:Nat)(b:a<l.length):W.cell? ⟨i,a,none⟩=some (.int .u8 ((l.getD a 0).toNat:Int)):=by
 rw[c.cell a,List.getElem?_map,List.getElem?_eq_getElem b,List.getD_eq_getElem?_getD,List.getElem?_eq_getElem b];rfl
end
section
attribute [local go_sem] opC upC
/- open and sectors, of a pair. -/
end
section
attribute [local go_sem] opC upC
/- sectors, of a pair. -/
end
section
attribute [local go_sem] opC upC
end
section
attribute [local go_sem] opC upC
end
section
attribute [local go_sem ↓] aV
attribute [local go_sem] l8
theorem oQ:(Builtin.zeroCells #[Value.int .u8 0] n).toList=List.replicate n (B 0):=by
 apply List.ext_getElem
 ·simp[Builtin.zeroCells]
 ·intro i a b;simp[Builtin.zeroCells,Nat.mod_one];rfl
theorem pH(O:w.ownsRow n 5 1 v b.length (b.map B))(V:0<b.length)(a:Nat)(L:0<a)(U:b.length+a <= 140737488355328)(F:n <= w.heap.size):
 ∃A p,(AP #[41,3] 41 #[v,.int .i64 (a:Int)]).run aE w=.ok A p /\ p.ownsRow n 5 1 A (b++List.replicate a 0).length ((b++List.replicate a 0).map B) /\ w.grownBy p v.ownBlock:=by
 obtain⟨o,hi,y,z,l⟩:=info_parts j9;have J:(b++List.replicate a (0:UInt8)).length=b.length+a:=by simp
 have K:((b++List.replicate a (0:UInt8)).map B)=b.map B++List.replicate a (B 0):=by simp
 rw[J,K];obtain⟨C,D⟩:=O;rcases D with⟨rfl,T⟩|⟨g,c,d,rfl,q,i,M,r,h,x⟩
 ·omega
 ·by_cases s:b.length+a <= c
  ·have G:b.length+(List.replicate a (B 0)).length <= d.size:=by rw[List.length_replicate,h];omega
   have t:=run_storeCells_at (P:=aE) g b.length 5 (List.replicate a (B 0)) 0 d w i (by simpa using G) (fun v R=>by obtain⟨_,rfl⟩:=List.mem_replicate.1 R;rfl);simp only[Nat.add_zero] at t;have S:IntKind.i64.wrap (a:Int)=a:=by rw[IntKind.wrap_i64];omega
   have N:¬((a:Int)<0):=by omega
   have E:¬(281474976710656<(a:Int)):=by omega
   have f:a≠0:=by omega
   have m:(Builtin.zeroCells #[Value.int .u8 0] a).toList=List.replicate a (B 0):=oQ a
   refine⟨.slice (some ⟨g,0,none⟩) (b.length+a) c,w.setRow g (List.take b.length d.toList++(List.replicate a (B 0)++List.drop (b.length+a) d.toList)).toArray,by
    unfold AP
    simp[Builtin.append_,run_underlying underlying41,run_underlying underlying3,sizeOf,typeInfo,zeroValue,hi,y,z,l,asInt,asIntOf,S,N,E,f,s,Addr.add_lit,Value.cells,m,t],?_,?_⟩
   ·refine⟨by simp,.inr ⟨g,c,_,rfl,q,setRow_heap w g d _ _ _ i,s,r,?_,?_⟩⟩
    ·simp;rw[h];omega
    ·rw[show(d.toList.take b.length)=b.map B from by simpa using x];rw[show(b.length+a)*1=(b.map B++List.replicate a (B 0)).length from by simp,<- aB];exact List.take_left
   ·exact⟨rfl,rfl,rfl,by simp,fun k _ f=>setRow_other w g k _ (fun e=>f (by simp[Value.ownBlock,e]))⟩
  ·have holds:(Builtin.firstCells o.size b.length (.slice (some ⟨g,0,none⟩) b.length c)).run aE w.drew=.ok (b.map B).toArray w.drew:=
    run_firstCells_some w.drew o.size b.length ⟨g,0,none⟩ b.length c (b.map B) (by rw[z];simp) (fun j u I=>by
     have:=(show w.ownsRow n 5 1 (.slice (some ⟨g,0,none⟩) b.length c) b.length (b.map B) from⟨C,.inr ⟨g,c,d,rfl,q,i,M,r,h,x⟩⟩).cells (g:=g) rfl j u I
     simpa using this)
   have Q:=Lib.run_append_grow_zeros (P:=aE) w 41 3 41 5 o _ .i64 .i64 underlying41 underlying3 hi y (some ⟨g,0,none⟩) b.length c (b.map B) holds a L (by omega) (by omega) (by omega) (by rw[l];omega) (by rw[l];exact growslice_fits (by omega) (by omega));have H:=grownCap_ge w (b.length+a) c 5;refine⟨_,_,Q,?_,?_⟩
   ·refine⟨by simp,.inr ⟨w.heap.size,_,_,rfl,F,heap_alloc_new w.drew _,H,grownCap_le_maxLen w _ _ _ (by unfold maxLen;omega),?_,?_⟩⟩
    ·simp[size_zeroCells,Value.cells];omega
    ·have m:=oQ a;simp only[Array.toList_append,aB];rw[show Value.cells (Value.int .u8 0)=#[Value.int .u8 0] from rfl,m,<- aB,show(b.length+a)*1=(b.map B++List.replicate a (B 0)).length from by simp];exact List.take_left
   ·exact⟨rfl,rfl,rfl,by simp,fun k f _=>Go.heap_alloc_old w.drew _ f⟩
theorem lL(h e:Nat)(c:List UInt8)(p:∀j u,(c.map B)[j]?=some u -> w.cell? ⟨e,j,none⟩=some u)(F:aX)(x:Value)(l:List UInt8)(f:aO F w x l)(A:0<l.length)(K:c.length+l.length <= 100000)(s:h <= w.heap.size):
 ∃o g,(AP #[41,41] 41 #[.slice (some ⟨e,0,none⟩) c.length c.length,x]).run aE w=.ok o g /\ g.ownsRow h 5 1 o (c++l).length ((c++l).map B) /\ w.grownBy g none:=by
 obtain⟨H,hi,E,m,G⟩:=info_parts j9;obtain⟨a,q,rfl,I,M,N,f⟩:=f;obtain⟨b,n,L,t,r,rfl,hF,v,J,C⟩:=f.resolve_left (by rintro rfl;simp at A)
 have D:=run_append_grow (P:=aE) w 41 41 5 H _ underlying41 hi E ⟨e,0,none⟩ c.length c.length (c.map B) (by rw[m];simp) (fun j u d=>by rw[Addr.add_lit,Nat.zero_add];exact p j u d)
  ⟨b,n,none⟩ l.length q (l.map B) (by rw[m];simp) (fun j u d=>by
   have i:j<l.length:=by have:=(List.getElem?_eq_some_iff.1 d).1;simpa using this
   rw[Addr.add_lit,cell_of_row w b (n+j) L t r v,C j i];simp[List.getElem?_eq_getElem i] at d
   simp[d]) (by omega) (by omega) (by rw[G];exact growslice_fits (by omega) (by omega))
 have y:=grownCap_ge w (c.length+l.length) c.length 5;refine⟨_,_,D,?_,⟨rfl,rfl,rfl,by simp,fun k z _=>Go.heap_alloc_old w.drew _ z⟩⟩;rw[show(c++l).length=c.length+l.length from by simp];refine⟨by simp,.inr ⟨w.heap.size,_,_,rfl,s,heap_alloc_new w.drew _,y,grownCap_le_maxLen w _ _ _ (by unfold maxLen;omega),?_,?_⟩⟩
 ·simp[size_zeroCells,Value.cells];omega
 ·simp only[Array.toList_append,aB];rw[<- aB,show(c.length+l.length)*1=(c.map B++l.map B).length from by simp,List.map_append];exact List.take_left
theorem CA:(bZ n).map B = [.int .u8 ((n:Int)%256),.int .u8 ((n:Int)/256%256),.int .u8 ((n:Int)/65536%256),.int .u8 ((n:Int)/16777216%256)]:=by
 simp[bZ,om]
theorem iU(c:n <= 4294967295):
 Calls aE 127 #[.int .i64 (n:Int)] w fun e d=>e=.returned (.slice (some ⟨w.heap.size,0,none⟩) 4 4) /\ Blk d w.heap.size ((bZ n).map B) 5 /\ Below w.heap.size w d:=by
 have a:=Blk.new w #[.int .u8 ((n:Int)%256),.int .u8 ((n:Int)/256%256),.int .u8 ((n:Int)/65536%256),.int .u8 ((n:Int)/16777216%256)] 5;have b:=aI w (.cells #[.int .u8 ((n:Int)%256),.int .u8 ((n:Int)/256%256),.int .u8 ((n:Int)/65536%256),.int .u8 ((n:Int)/16777216%256)] 5);rw[CA];have i:=af ((n:Int)/256) (by omega);have j:=af ((n:Int)/65536) (by omega);have k:=af ((n:Int)/16777216) (by omega);have f:=ae a;have g:=ae b;have h:=ae c;clear a b c
 go_enter func127,ntmps127
 go_wp2_with fail
 go_ret
 exact⟨rfl,f.out,g.out⟩
theorem lH(h:Blk W i ((bZ j).map B) 5)(F:aX)(hF:F i):aO F W (.slice (some ⟨i,0,none⟩) 4 4) (bZ j):=by
 have:=jc h (by rw[cn];unfold maxLen;omega) F hF;rw[cn] at this;exact this
theorem p8(l:List UInt8)(o:aO F w v l)(E:l.length=60):
 Calls aE 128 #[v] w fun e s=>∃r,e=.returned r /\ s.ownsRow w.heap.size 5 1 r 64 ((en l).map B) /\ Below w.heap.size w s:=by
 have p:aO (fun b=>b<w.heap.size) w v l:=by
  obtain⟨a,y,rfl,d,Z,hz,hx⟩:=o;refine⟨a,y,rfl,d,Z,hz,?_⟩;rcases hx with h|⟨R,ab,L,t,S,T,h2,z,U,V⟩
  ·exact .inl h
  ·exact .inr ⟨R,ab,L,t,S,T,lt_of_block z,z,U,V⟩
 obtain⟨xa,xc,u,hr,H,f,Y,X⟩:=pF w _ v l p (by omega);have n:=rV u _ v l (p.keep fun b W _=>f.block b W);have aa:=f.size;obtain⟨a,y,rfl,-⟩:=id o;have k:=t6 l;obtain⟨c,d⟩:=aH (crc l);rw[d] at n k;have Q:=ae n;have O:=ae H;have M:=ae f;have K:=ae d;have x:=ae E;have an:=af (c:Int) (by omega);have ad:=ae k;have N:=ae (iU u c (by omega));clear n H f Y X o p d E k
 go_enter func128,ntmps128
 go_wp2_with fail;refine Q.out.mono ?_;rintro e s ⟨rfl,rfl⟩;go_wp2_with fail;refine N.out.mono ?_;rintro e w3 ⟨rfl,A,g⟩;have m:=g6 O.out g;obtain⟨v4,w4,ak,i,D⟩:=cY w3 w.heap.size _ _ m _ _ _ (lH A (fun b=>b=u.heap.size) rfl) (by rw[x.out,cn];omega) (by have:=g.size;omega)
 have C:Below w.heap.size w w4:=(M.out.trans (g.mono aa)).grown D (by have:=g.size;omega) (fun q j=>by
  rcases m.2 with⟨h,_⟩|⟨g',ag,ai,h,al,_⟩
  ·rw[h] at j;cases j
  ·rw[h] at j;simp[Value.ownBlock] at j;omega)
 have I:l++bZ c=en l:=by unfold en;rw[K.out]
 rw[I] at i;have G:(en l).length=64:=by unfold en;rw[aA,x.out,cn]
 rw[G] at i;have P:=ae i;have J:=ae C;clear i C m A D I G;go_wp2_with fail
 go_ret
 exact⟨_,rfl,P.out,J.out⟩
theorem AY(hg:n <= 4294967295):
 Calls aE 71 #[.int .i64 (n:Int)] w fun e Q=>∃r,e=.returned r /\ Q.ownsRow w.heap.size 5 1 r 64 ((cP n).map B) /\ Below w.heap.size w Q:=by
 obtain⟨c,l⟩:=aQ (w.alloc (.cells #[.int .u8 72,.int .u8 78,.int .u8 75,.int .u8 74] 5 (4,5)));have f:c.heap.size=w.heap.size+1:=by rw[l];simp
 have D:Below w.heap.size w c:=by rw[l];exact aI _ _
 have J:∀j u,(dp.map B)[j]?=some u -> c.cell? ⟨w.heap.size,j,none⟩=some u:=fun j u o=>by
  rw[l];unfold World.cell? World.alloc;simp;exact o
 obtain⟨w2,ag⟩:=aQ (c.alloc (.cells ((bZ n).map B).toArray 5));have U:=ae (iU c n hg);have Y:=ae f;have R:=ae D;have T:=ae J;clear f D J ag
 go_enter func71,ntmps71
 go_wp2_with fail;rw[<- l];refine U.out.mono ?_;rintro e w3 ⟨rfl,E,i⟩;have ai:=i.size;have f:=Y.out;obtain⟨v4,t,aa,a,K⟩:=lL w3 w.heap.size w.heap.size dp (fun j u o=>by rw[i.cell (p:=⟨w.heap.size,j,none⟩) (show w.heap.size<c.heap.size by omega)];exact T.out j u o) _ _ _ (lH E (fun b=>b=c.heap.size) rfl) (by rw[cn];omega) (by rw[cn];simp[dp]) (by omega);rw[show dp.length=4 from rfl,f] at aa;have F:Below w.heap.size w t:=(R.out.trans (i.mono (by omega))).grown K (by omega) (fun q d=>by cases d);rw[show(dp++bZ n).length=8 from by simp[dp,cn]] at a;have V:=ae a;have x:=ae F;clear a F E i K ai f;have a:=V.out;have s:w.heap.size <= t.heap.size:=x.out.size;obtain⟨P,v,ab,N,L⟩:=pH t w.heap.size v4 (dp++bZ n) (by rw[show(dp++bZ n).length=8 from by simp[dp,cn]];exact a) (by simp[dp]) 52 (by omega) (by simp[dp,cn]) s;rw[show((52:Nat):Int)=52 from rfl] at ab
 have G:Below w.heap.size w v:=x.out.grown L s (fun q d=>by
  rcases a.2 with⟨h,_⟩|⟨C,z,A,h,ad,_⟩
  ·rw[h] at d;cases d
  ·rw[h] at d;simp[Value.ownBlock] at d;omega)
 have M:(dp++bZ n++List.replicate 52 0).length=60:=by simp[dp,cn]
 have I:aO (fun b=>w.heap.size <= b) v P (dp++bZ n++List.replicate 52 0):=aO.of_owns N _ (fun k hk _=>hk);have X:=ae (p8 v _ P _ I M);have y:=ae G;clear a N I G L M s;go_wp2_with fail;refine X.out.mono ?_;rintro e w6 ⟨r,rfl,O,H⟩;have W:=ae O;have S:=ae H;clear O H;go_wp2_with fail
 go_ret
 have ak:=y.out.size;refine⟨_,rfl,?_,y.out.trans (S.out.mono ak)⟩;obtain⟨Z,m⟩:=W.out;refine⟨Z,?_⟩;rcases m with m|⟨C,z,A,e,ad,h3⟩
 ·exact .inl m
 ·exact .inr ⟨C,z,A,e,by omega,h3⟩
theorem CB(K:RK)(M:MD)(h:cB w K M)(i:Nat)(m:i<M.S.length)(p:M.writes<4611686018427387904)(F:aX)(v:Value)(l:List UInt8)(o:aO F w v l)(n:l.length=64)(hF:∀b,F b -> b≠K.d):
 Calls aE 70 #[.pointer (some ⟨K.d,0,none⟩),.int .i64 (i:Int),v] w fun e g=>e=.returned (.int .i64 (M.wr i l).2) /\
  (∃a,a.d=K.d /\ (∀b,a.all b -> K.all b \/ w.heap.size <= b) /\ cB g a (M.wr i l).1 /\ a.bs=K.bs) /\ aT K.foot w g:=by
 by_cases c:M.down=true
 ·have j:M.chk (i:Int)=341:=by unfold MD.chk;rw[if_pos c]
  refine(uT w K M i v h (by rw[j];omega)).mono ?_;rintro e g ⟨rfl,rfl⟩;have f:M.wr i l=(M,341):=by unfold MD.wr;rw[if_pos c]
  rw[f,j];exact⟨rfl,⟨K,rfl,fun b k=>.inl k,h,rfl⟩,aT.refl _ _⟩
 ·have f:M.wr i l=M.write i l:=by unfold MD.wr;rw[if_neg c]
  rw[f];exact xm w K M h i m (by simpa using c) p F v l o n hF
theorem zI(K:RK)(M:MD)(h:cB w K M)(i:Nat)(n:i<M.S.length)(q:M.writes<4611686018427387904)(F:aX)(v:Value)(l:List UInt8)(p:aO F w v l)(o:l.length=64)(hF:∀b,F b -> b≠K.d):
 Calls aE 70 #[.pointer (some ⟨K.d,0,none⟩),.int .i64 (i:Int),v] w fun e c=>e=.returned (.int .i64 (M.wr i l).2) /\
  (∃a,a.d=K.d /\ (∀b,a.all b -> K.all b \/ w.heap.size <= b) /\ cB c a (M.wr i l).1) /\ aT K.foot w c:=
 (CB w K M h i n q F v l p o hF).mono fun _ _ ⟨f,⟨a,g,j,k,_⟩,m⟩=>⟨f,⟨a,g,j,k⟩,m⟩
/- The reference journal: Format. -/
end
section
attribute [local go_sem] opC upC
attribute [local go_sem ↓] eU
def rW(w:World)(d:Nat)(M:MD)(e:aX)(n:Nat)(f:List (Nat×List UInt8))(i:Value)(wr:World):Prop:=
 ∃k c a,k <= n /\ i=.int .i64 (k:Int) /\ c.d=d /\ (∀b,RK.all c b -> e b \/ w.heap.size <= b) /\ cB wr c a /\ bh M (f.take k)=(a,0) /\ aT e w wr /\ a.S.length=n /\ a.writes <= M.writes+k
theorem xr(K:RK)(M:MD)(h:cB w K M)(h8:8 <= M.S.length)(hw:M.writes+65540<4611686018427387904):
 Calls aE 30 #[.pointer (some ⟨K.d,0,none⟩)] w fun e w'=>∃m:RK,m.d=K.d /\ (∀b,m.all b -> K.all b \/ w.heap.size <= b) /\ aT K.all w w' /\
  (((cO M).2=0 /\ ∃jb,e=.returned (.tuple #[.pointer (some ⟨jb,0,none⟩),.int .i64 0]) /\ w.heap.size <= jb /\ jJ w' ⟨jb,m,none_⟩ (cO M).1 ⟨0,[],false⟩) \/
   ((cO M).2≠0 /\ e=.returned (.tuple #[.pointer none,.int .i64 (cO M).2]) /\ cB w' m (cO M).1)):=by
 have a3:=h.len;have ax:=h.lt K.d (.inl rfl);obtain⟨a8,ar,N,-⟩:=h.row;rw[j1];obtain⟨g,U⟩:=aQ (eN M.S.length);have ad:g.length=M.S.length:=by rw[U,kt]
 have ag:∀i,i<M.S.length -> g.take (i+1)=g.take i++[(i,List.replicate 64 0)]:=fun i hi=>by rw[U];exact pV _ i hi
 rw[<- U];clear U;obtain⟨n,T⟩:=aH M.S.length;rw[T] at h8 a3 ar N ad ag
 try rw[T]
 have ba:¬(n:Int)<8:=by omega
 have bc:(n:Int) <= 65536:=by omega
 have H0:Hid (rW w K.d M K.all n g (.int .i64 0) w):=ae ⟨0,K,M,by omega,rfl,rfl,fun b a=>.inl a,h,rfl,aT.refl _ _,T,by omega⟩;have aX:=ae ag;have an:=ae ad;have a7:=ae ax;clear ag ad T h ar ax
 go_enter func30,ntmps30
 go_wp2_with fail
 go_loopw [4] (fun i wr=>rW w K.d M K.all n g i wr) (fun i _=>n-(intOf i).toNat)
 case atStart=>exact H0.out
 case round=>
  obtain⟨k,m,t,hk,rfl,Y,O,x,G,E,D,be⟩:=hrel;clear N;obtain⟨a9,bb,N,-⟩:=x.row;rw[Y,D] at N;have aF:=x.lt;have bd:=E.size
  by_cases a0:k<n
  ·have a1:(k:Int)<(n:Int):=by omega
   obtain⟨w1,a5,ao,R⟩:=l7 wr 64 (by omega);rw[show((64:Nat):Int)=64 from rfl] at a5;have C:aO (fun b=>b=wr.heap.size) w1 (.slice (some ⟨wr.heap.size,0,none⟩) 64 64) (List.replicate 64 0):=xq (s:=List.replicate 64 0) (by simpa using ao) (by simp) _ rfl;have f:=zI w1 m t (x.kept R) k (by omega) (by omega) _ _ _ C (by simp) (fun b e h=>by have:=aF _ (.inl rfl);omega);rw[Y] at f;have p:=e7 M (g.take k) k (List.replicate 64 0) (by rw[G]);rw[<- aX.out k a0,G] at p;have q:=nm t k (List.replicate 64 0);generalize t.wr k (List.replicate 64 0)=mq at *;obtain⟨B,r⟩:=mq;dsimp only at f q;have H:=R.size;have aG:aT K.all w w1:=E.trans (aT.of_below (F:=none_) R) fun i hi=>hi.elim
   have X:=ae f;have ai:=ae p;have aS:=ae aG;have aY:=ae H;have L:=ae q;have J:=ae D;clear f p ao R aG E H x C q D;go_wp2_with fail;refine X.out.mono ?_;rintro e W ⟨rfl,⟨j,u,P,c⟩,z⟩;have H:=aY.out
   have o:=aS.out.trans z fun i hi=>by
    rcases O i (cB.foot_all hi) with h|h
    ·exact .inl h
    ·exact .inr h
   have y:∀b,RK.all j b -> K.all b \/ w.heap.size <= b:=fun b a=>by
    rcases P b a with h|h
    ·exact O b h
    ·exact .inr (by omega)
   by_cases l:r=0
   ·subst l
    have aL:rW w K.d M K.all n g (.int .i64 ((k:Int)+1)) W:=⟨k+1,j,B,by omega,by simp,by rw[u],y,c,ai.out,o,by have:=L.out;have:=J.out;omega,by have:=L.out;omega⟩
    have aW:=ae aL;clear aL c o y P H z;go_wp2_with fail
    go_roundw
    case rel=>exact aW.out
    case measure=>simp[intOf];omega
   ·have a6:(r != 0)=true:=bne_iff_ne.2 l
    have ay:bh M (g++[(0,cP 0)])=(B,r):=by
     refine iI M B r _ (k+1) ?_ l;rw[List.take_append_of_le_length (by have:=an.out;omega)];exact ai.out
    have I:=ae c;have A:=ae o;have aP:=ae ay;clear c o ay H z;go_wp2_with fail;go_ret2;rw[aP.out];exact⟨j,by rw[u],y,A.out,.inr ⟨l,rfl,I.out⟩⟩
  ·have a1:¬(k:Int)<(n:Int):=by omega
   have a2:k=n:=by omega
   subst a2;rw[List.take_of_length_le (by have:=an.out;omega)] at G;have ab:=e7 M g 0 (cP 0) (by rw[G]);rw[G] at ab;have az:=AY wr 0 (by omega);have aR:=ae az;have al:=ae ab;have aU:=ae E;have aN:=ae x;have J:=ae D;clear az ab E x D;go_wp2_with fail;refine aR.out.mono ?_;rintro e w4 ⟨v,rfl,aK,Q⟩;have av:=aN.out.kept Q;have aJ:aT K.all w w4:=aU.out.trans (aT.of_below (F:=none_) Q) fun i hi=>hi.elim
   have Z:=t7 0;have aa:=aK;rw[<- Z] at aa;have C:=aO.of_owns aa (fun b=>wr.heap.size <= b) (fun k hk _=>hk);have f:=zI w4 m t av 0 (by have:=J.out;omega) (by omega) _ _ _ C Z (fun b e h=>by have:=aF _ (.inl rfl);omega);rw[Y] at f;have p:=al.out;have q:=nm t 0 (cP 0);have V:=Q.size
   try dsimp only at p
   generalize t.wr 0 (cP 0)=mq at *;obtain⟨B,r⟩:=mq;dsimp only at f q;have X:=ae f;have ak:=ae p;have aV:=ae aJ;have L:=ae q;have aZ:=ae V;clear f p al aJ q V av C aK aa Z Q;go_wp2_with fail;refine X.out.mono ?_;rintro e W ⟨rfl,⟨j,u,P,c⟩,z⟩;have V:=aZ.out
   have o:=aV.out.trans z fun i hi=>by
    rcases O i (cB.foot_all hi) with h|h
    ·exact .inl h
    ·exact .inr h
   have y:∀b,RK.all j b -> K.all b \/ w.heap.size <= b:=fun b a=>by
    rcases P b a with h|h
    ·exact O b h
    ·exact .inr (by omega)
   have I:=ae c;have A:=ae o;clear c o z V
   by_cases l:r=0
   ·subst l;go_wp2_with fail;go_ret2;rw[ak.out];have c:=I.out;have a4:=c.lt;refine⟨j,by rw[u],y,A.out.alloc _,.inl ⟨rfl,_,rfl,by have:=A.out.size;omega,?_⟩⟩;refine⟨c.kept (aI _ _),⟨none,0,none_,?_,bX.nil _ 0,fun b a=>by rcases a with a|a;exact absurd a (by simp[Value.ownBlock]);exact a.elim⟩,⟨fun h=>by have h1:=a4 _ h;dsimp only at h1;omega,fun b a=>a.elim⟩,by have:=L.out;have:=J.out;show 8 <= B.S.length;omega,by simp[aM],by simp,fun b a=>by simp at a⟩;show gy _ W.heap.size j.d 0 (.slice none 0 0) false;rw[u];exact Blk.new W #[.pointer (some ⟨K.d,0,none⟩),.int .i64 0,.slice none 0 0,.bool false] 121
   ·have a6:(r != 0)=true:=bne_iff_ne.2 l;go_wp2_with fail;go_ret2;rw[ak.out];exact⟨j,by rw[u],y,A.out,.inr ⟨l,rfl,I.out⟩⟩
/- A pair whose sides are changed one after the other. -/
end
section
attribute [local go_sem] opC upC
/- Two disks apart, formatted. -/
end
section
attribute [local go_sem] opC upC
end
section
attribute [local go_sem] opC upC told bG br bH bt bw bI bJ
attribute [local go_sem ↓] aV
theorem CC(n q:Nat)(a:q<48):(kN (b.drop (48*n))).take (q+1)=(kN (b.drop (48*n))).take q++[b.getD (48*n+q) 0]:=by
 have c:=eA (b.drop (48*n));rw[List.take_succ_eq_append_getElem (by omega)]
 congr 2
 have:(kN (b.drop (48*n)))[q]?=some (b.getD (48*n+q) 0):=by
  unfold kN
  by_cases h:48*n+q<b.length
  ·rw[List.getElem?_append_left (by simp;omega),List.getElem?_take,if_pos a,List.getElem?_drop,List.getD_eq_getElem?_getD,List.getElem?_eq_getElem h];rfl
  ·rw[List.getElem?_append_right (by simp;omega),List.getElem?_replicate,if_pos (by simp;omega),List.getD_eq_getElem?_getD,List.getElem?_eq_none (by omega)];rfl
 rw[List.getElem?_eq_getElem (by omega)] at this;exact Option.some.inj this
theorem j3(h:W.ownsRow i 5 1 u j L):∃a c,u=.slice a j c:=by
 rcases h.2 with⟨rfl,d⟩|⟨g,b,e,rfl,_⟩
 ·exact⟨none,0,by rw[d]⟩
 ·exact⟨_,b,rfl⟩
theorem p9(h:W.ownsRow i t 1 u j L)(a:u.ownBlock=some o):i <= o:=by
 rcases h.2 with⟨rfl,d⟩|⟨g,b,c,rfl,f,_⟩
 ·cases a
 ·simp[Value.ownBlock] at a;omega
theorem qc(a:Option Addr)(d c:Nat)(e:List UInt8)(r:e.length=d)(j:w.ownsRow n 5 1 (.slice a d c) d (e.map B))(m:Below n w9 w)(k:n <= w.heap.size)(u:UInt8)(z:Value)(v:z=B u)(x:d <= 1000):
 ∃g h f,(AP #[41,41] 41 #[.slice a d c,.slice (some ⟨w.heap.size,0,none⟩) 1 1]).run aE (w.alloc (.cells #[z] 5))=.ok (.slice g (d+1) h) f /\ f.ownsRow n 5 1 (.slice g (d+1) h) (d+1) ((e++[u]).map B) /\ Below n w9 f:=by
 subst r v;have o:aO (fun b=>b=w.heap.size) (w.alloc (.cells #[B u] 5)) (.slice (some ⟨w.heap.size,0,none⟩) 1 1) [u]:=jc (l:=[u]) (Blk.new w #[B u] 5) (by unfold maxLen;simp) _ rfl;obtain⟨y,f,t,i,p⟩:=cY (w.alloc (.cells #[B u] 5)) n _ e (j.alloc _) _ _ [u] o (by simp;omega) (by simp;omega);rw[show(e++[u]).length=e.length+1 from by simp] at i;obtain⟨g,h,rfl⟩:=j3 i;exact⟨g,h,f,t,i,(Below.alloc m k _).grown p (by simp;omega) (fun q s=>p9 j s)⟩
def xt(w:World)(g k:Nat)(l:List UInt8)(d i:Value)(wr:World):Prop:=
 ∃(n:Nat)(a:Option Addr)(c:Nat)(R:aX)(S:List (List UInt8)),n <= takes l.length /\ i=.int .i64 (n:Int) /\ d=.slice a n c /\ S=(List.range n).map (cT g k l) /\ S.length=n /\ bX R wr w.heap.size (.slice a n c) S /\ (∀b,R b -> w.heap.size <= b /\ b<wr.heap.size) /\ Below w.heap.size w wr
def qq(wo:World)(X d:List UInt8)(n:Nat)(s m:Value)(wr:World):Prop:=
 ∃(j q:Nat)(a:Option Addr)(c:Nat)(b:List UInt8),j=48*n+q /\ q <= 48 /\ m=.int .i64 (j:Int) /\ s=.slice a (12+q) c /\ b=X++d.take q /\ b.length=12+q /\ wr.ownsRow wo.heap.size 5 1 (.slice a (12+q) c) (12+q) (b.map B) /\ Below wo.heap.size wo wr
theorem xu(g k:Nat)(v:Value)(l:List UInt8)(F:aX)(hv:aO F w v l)(hg:g <= 4294967295)(hk:k <= 4294967295)(hl:l.length <= 65536):
 Calls aE 129 #[.int .i64 (g:Int),.int .i64 (k:Int),v] w fun e y=>∃r R,e=.returned r /\ bX R y w.heap.size r ((List.range (takes l.length)).map (cT g k l)) /\ (∀b,R b -> w.heap.size <= b /\ b<y.heap.size) /\ Below w.heap.size w y:=by
 obtain⟨a,bN,rfl,-,-,-,hx⟩:=hv;have Hx:=ae hx;obtain⟨c,aI⟩:=aH l.length;have C:=ae aI;have bT:(c:Int) <= 65536:=by omega
 rw[aI] at hl⊢;have bH:takes c <= 1366:=by unfold takes;omega
 have aU:Hid (∀n,n<takes c -> 48*n <= c):=ae fun n hn=>by unfold takes at hn;omega
 clear hx aI;obtain⟨T,V⟩:=aH (takes c);have HT:=ae V;have bx:∀y:World,Hid (Calls aE 73 #[.int .i64 (c:Int)] y fun e bM=>e=.returned (.int .i64 (T:Int)) /\ y=bM):=fun y=>ae (by rw[<- V];exact lG y c (by omega))
 rw[V] at bH⊢aU;clear V
 go_enter func129,ntmps129
 go_wp2_with fail
 go_loopw [7,8] (fun bL i wr=>xt w g k l bL i wr) (fun _ i _=>T-(intOf i).toNat)
 case atStart=>exact⟨0,none,0,none_,[],by omega,rfl,rfl,rfl,rfl,bX.nil _ _,fun b h=>h.elim,Below.refl _ _⟩
 case round=>
  rename World=>wo
  obtain⟨n,oa,oc,R,S,bE,rfl,rfl,U,av,ai,hR,N⟩:=hrel;rw[C.out,HT.out] at bE;go_wp2_with fail;refine(bx wo).out.mono ?_;rintro e y ⟨rfl,rfl⟩
  by_cases hn:n<T
  ·have bD:(n:Int)<(T:Int):=by omega
   have bU:(n:Int) <= 1366:=by omega
   have bO:=aU.out n hn;have bP:48*(n:Int) <= (c:Int):=by omega
   have bc:(c:Int)-48*(n:Int)=((c-48*n:Nat):Int):=by omega
   obtain⟨X,W⟩:=aQ (bZ g++bZ k++bZ (c-48*n));obtain⟨o,ag⟩:=aQ (kN (l.drop (48*n)));have aW:X.length=12:=by rw[W];simp[cn]
   have bi:en (X++o)=cT g k l n:=by rw[W,ag];unfold cT;rw[C.out]
   have bk:o.length=48:=by rw[ag];exact eA _
   have bs:Hid (∀q,q<48 -> o.take (q+1)=o.take q++[l.getD (48*n+q) 0]):=ae fun q f=>by rw[ag];exact CC l n q f
   have aP:=ae (iU wo g hg);have Q:=ae ai;have HS:=ae U;have al:=ae av;have aL:=ae aW;have bu:=ae bi;have bv:=ae bk;have HX:=ae W;have bt:=ae bc;clear ai U av aW bi bk W ag bc;go_wp2_with fail;refine aP.out.mono ?_;rintro e w1 ⟨rfl,a0,bg⟩;have aR:=ae (iU w1 k hk);have an:=ae a0;have ar:=ae bg;clear aP a0 bg;go_wp2_with fail;refine aR.out.mono ?_;rintro e w2 ⟨rfl,a1,Y⟩;have bo:=ar.out.size;have bh:=an.out.lt;have bI:=Y.size
   obtain⟨v3,w3,aY,aa,bd⟩:=lL w2 wo.heap.size wo.heap.size (bZ g) (fun j u A=>by
    have:=(an.out.keep (Y.block _ bh)).cell j
    rw[this];exact A) _ _ _ (lH a1 (fun b=>b=w1.heap.size) rfl) (by rw[cn];omega) (by simp[cn]) (by omega)
   rw[show(bZ g++bZ k).length=8 from by simp[cn]] at aa;obtain⟨a3,c3,rfl⟩:=j3 aa;have a2:Below wo.heap.size wo w3:=(ar.out.trans (Y.mono bo)).grown bd (by omega) (fun q f=>by cases f);have aJ:=iU w3 (c-48*n) (by omega);rw[<- bt.out] at aJ;have aS:=ae aJ;have aT:=ae aa;have aM:=ae a2;rw[show(bZ g).length=4 from rfl] at aY;clear aR a1 Y bd aJ aa a2 an ar bo bh bI;go_wp2_with fail;refine aS.out.mono ?_;rintro e w4 ⟨rfl,a4,Z⟩;have bJ:=Z.size;have bp:=aM.out.size;have aK:=g6 aT.out Z;obtain⟨v5,w5,bQ,ab,be⟩:=cY w4 wo.heap.size _ (bZ g++bZ k) (by rw[show(bZ g++bZ k).length=8 from by simp[cn]];exact aK) _ _ (bZ (c-48*n)) (lH a4 (fun b=>b=w3.heap.size) rfl) (by simp[cn]) (by omega);have a6:Below wo.heap.size wo w5:=(aM.out.trans (Z.mono bp)).grown be (by omega) (fun q f=>p9 aK f);rw[<- HX.out,aL.out] at ab;obtain⟨a5,c5,rfl⟩:=j3 ab
   have h0:qq wo X o n (.slice a5 12 c5) (.int .i64 (48*(n:Int))) w5:=⟨48*n,0,a5,c5,X,rfl,by omega,by simp,rfl,by simp,aL.out,ab,a6⟩
   have H0:=ae h0;clear aS aT aY a4 Z bJ bp aK ab be a6 h0;go_wp2_with fail
   go_loopw [9,10] (fun s m wr=>qq wo X o n s m wr) (fun _ m _=>48*n+48-(intOf m).toNat)
   case atStart=>exact H0.out
   case round=>
    obtain⟨j,q,sa,sc,E,A,f,rfl,rfl,D,x,H,z⟩:=hrel;have bS:(j:Int) <= 66000:=by omega
    have aG:(j:Int)=48*(n:Int)+(q:Int):=by omega
    by_cases bG:q<48
    ·have bB:(j:Int)<48*(n:Int)+48:=by omega
     have G:=bs.out q bG;rw[<- A] at G;have aV:=z.size;obtain⟨u,P⟩:=aQ (l.getD j 0);rw[<- P] at G
     by_cases bf:j<c
     ·have bA:(j:Int)<(c:Int):=by omega
      obtain⟨b,ak,L,t,fz,rfl,hF,aF,bC,hr⟩:=Hx.out.resolve_left (by intro e;have:=C.out;rw[e] at this;simp at this;omega)
      have bR:wr.cell? ⟨b,ak+j,none⟩=some (.int .u8 (u.toNat:Int)):=by
       rw[z.cell (p:=⟨b,ak+j,none⟩) (by have:=lt_of_block aF;have:=N.size;show b<wo.heap.size;omega),N.cell (p:=⟨b,ak+j,none⟩) (lt_of_block aF),cell_of_row w b (ak+j) L t fz aF,hr j (by rw[C.out];exact bf),P,List.getD_eq_getElem?_getD,List.getElem?_eq_getElem (by rw[C.out];exact bf)];rfl
      obtain⟨J,K,w6,bz,O,M⟩:=qc wr wo wo.heap.size sa (12+q) sc E x H z aV u (.int .u8 (u.toNat:Int)) rfl (by omega)
      have B:qq wo X o n (.slice J (12+q+1) K) (.int .i64 ((j:Int)+1)) w6:=⟨j+1,q+1,J,K,E++[u],by omega,by omega,by simp,rfl,by rw[G,D,aB],by simp[x];omega,O,M⟩
      have I:=ae B;have ao:=ae A;clear H x D z B O M G hr bC A aG P;go_wp2_with fail
      go_roundw
      case rel=>exact I.out
      case measure=>simp[intOf];have:=ao.out;omega
     ·have bA:¬(j:Int)<(c:Int):=by omega
      have bn:u=0:=by rw[P,List.getD_eq_getElem?_getD,List.getElem?_eq_none (by rw[C.out];omega)];rfl
      obtain⟨J,K,w6,bz,O,M⟩:=qc wr wo wo.heap.size sa (12+q) sc E x H z aV u (.int .u8 0) (by rw[bn];rfl) (by omega)
      have B:qq wo X o n (.slice J (12+q+1) K) (.int .i64 ((j:Int)+1)) w6:=⟨j+1,q+1,J,K,E++[u],by omega,by omega,by simp,rfl,by rw[G,D,aB],by simp[x];omega,O,M⟩
      have I:=ae B;have ao:=ae A;clear H x D z B O M G A aG P bn;go_wp2_with fail
      go_roundw
      case rel=>exact I.out
      case measure=>simp[intOf];have:=ao.out;omega
    ·have bB:¬(j:Int)<48*(n:Int)+48:=by omega
     have f:q=48:=by omega
     subst f;rw[show o.take 48=o from List.take_of_length_le (by rw[bv.out];omega)] at D;have ba:aO (fun b=>wo.heap.size <= b) wr (.slice sa 60 sc) E:=aO.of_owns (by rw[x];exact H) _ (fun b d _=>d);have Hs:=ae (p8 wr _ _ E ba x);have bm:en E=cT g k l n:=by rw[D];exact bu.out
     have bw:=ae bm;have aN:=ae z;clear H x D z ba bm A aG H0;go_wp2_with fail;refine Hs.out.mono ?_;rintro e w7 ⟨r,rfl,ad,ax⟩;rw[bw.out] at ad;obtain⟨a7,c7,rfl⟩:=j3 ad;have hz:=aN.out.size;have bK:=ax.size;have br:=N.size;have ay:=aN.out.trans (ax.mono hz);have bj:=mL g k l n;have bb:=lB (l:=cT g k l n) (by rw[bj];exact ad);have aZ:=(Q.out.kept ay).append bb (fun b d=>d.2.2) (by rw[al.out];omega) (by omega);rw[al.out] at aZ;obtain⟨a8,c8,w8,bV,bl,az⟩:=aZ;have bq:=az.size;simp only[World.size_alloc] at bq;have a9:Below w.heap.size w w8:=(Below.alloc (N.trans (ay.mono br)) (by omega) _).grown az (by simp;omega) (fun q f=>(Q.out.own f).1)
     have B:xt w g k l (.slice a8 (n+1) c8) (.int .i64 ((n:Int)+1)) w8:=⟨n+1,a8,c8,_,S++[cT g k l n],by rw[C.out,HT.out];omega,by simp,rfl,by rw[HS.out,List.range_succ,List.map_append];rfl,by simp[al.out],bl,fun b d=>by
      rcases d with d|d
      ·have:=hR b d;omega
      ·have h1:=d.1;have h2:=d.2.1;omega,a9⟩
     have I:=ae B;clear Hs ad ax hz bK br ay bj bb bl az bq a9 B;go_wp2_with fail
     go_roundw
     case rel=>exact I.out
     case measure=>simp[intOf];omega
  ·have bD:¬(n:Int)<(T:Int):=by omega
   have bF:n=T:=by omega
   have Q:=ae ai;have HS:=ae U;clear ai U av;go_wp2_with fail
   go_ret
   refine⟨_,R,rfl,?_,hR,N⟩;have:=Q.out;rw[HS.out,bF] at this;exact this
/- The reference journal: write. -/
end
section
attribute [local go_sem] opC upC told bG br bH bt bw bI bJ
attribute [local go_sem ↓] aV
def rX(w e:World)(K:RK)(M:MD)(T rb f:Nat)(g:Value)(h:List (Nat×List UInt8))(i:Value)(wr:World):Prop:=
 ∃(n:Nat)(a:RK)(c:MD),n <= T /\ i=.int .i64 (n:Int) /\ a.d=K.d /\ (∀b,a.all b -> K.all b \/ e.heap.size <= b) /\ cB wr a c /\ bh M (h.take n)=(c,0) /\ gy wr rb K.d f g false /\
  (∀b,b<e.heap.size -> ¬K.all b -> wr.heap[b]?=e.heap[b]?) /\ aT K.foot w wr /\ e.heap.size <= wr.heap.size /\ c.S.length=M.S.length /\ c.writes <= M.writes+n /\ a.bs=K.bs
theorem za(c u:Nat)(y:Value)(K:RK)(M:MD)(hd:cB w K M)(hj:gy w c K.d u y false)(a6:¬K.all c)(g k p:Nat)(v:Value)(l:List UInt8)(F:aX)(hv:aO F w v l)
 (hg:g <= 4294967295) (hk:k <= 65536) (hl:l.length <= 65536) (z:2 <= M.S.length) (hp:p+takes l.length <= aW M.S.length) (hw:M.writes+takes l.length<4611686018427387904):
 Calls aE 75 #[.pointer (some ⟨c,0,none⟩),.int .i64 (g:Int),.int .i64 (k:Int),.int .i64 (p:Int),v] w fun e w'=>
  e=.returned (.int .i64 (bh M (aP M.S.length g k p l)).2) /\ (∃f,f.d=K.d /\ (∀b,f.all b -> K.all b \/ w.heap.size <= b) /\ cB w' f (bh M (aP M.S.length g k p l)).1 /\ f.bs=K.bs) /\
  gy w' c K.d u y (!decide ((bh M (aP M.S.length g k p l)).2=0)) /\ aT (fun b=>K.foot b \/ b=c) w w':=by
 obtain⟨t,an⟩:=aQ (aP M.S.length g k p l);have aM:t.length=takes l.length:=by rw[an,fJ]
 have ax:Hid (∀n,n<takes l.length -> t.take (n+1)=t.take n++[(cm M.S.length g (p+n),cT g k l n)]):=ae fun n O=>by rw[an];exact uw _ _ _ _ _ _ O
 rw[<- an];have ar:=ae (xu w g k v l F hv hg (by omega) hl);have a7:=hd.len;have bG:takes l.length <= 1366:=by unfold takes;omega
 have bB:aW M.S.length <= 32768:=by unfold aW;omega
 obtain⟨N,Z⟩:=aH M.S.length;obtain⟨T,hT⟩:=aH (takes l.length);have ay:=hd.lt;have ba:=Blk.lt hj;obtain⟨la,bY,rfl,-⟩:=id hv;rw[Z] at a7 hp bB z;rw[hT] at bG aM ar hp hw ax;have Hj:=ae hj;have Hd:=ae hd;have HN:=ae Z;have br:=ae aM;rw[Z] at ax;clear an hv hj hd Z hT aM
 go_enter func75,ntmps75
 go_wp2_with fail;refine ar.out.mono ?_;rintro e o ⟨r,R,rfl,Q,hR,L⟩;obtain⟨S,hS⟩:=aQ ((List.range T).map (cT g k l));rw[<- hS] at Q;obtain⟨ra,rc,rfl,-,-⟩:=Q.shape;have az:S.length=T:=by rw[hS];simp
 rw[az] at Q⊢
 have h0:rX w o K M T c u y t (.int .i64 0) o:=⟨0,K,M,by omega,rfl,rfl,fun b a=>.inl a,Hd.out.kept L,rfl,Blk.keep Hj.out (L.block _ ba),fun b _ _=>rfl,aT.of_below L,aq _,rfl,by omega,rfl⟩
 have H0:=ae h0;have av:=ae Q;have HS:=ae hS;have ao:=ae az;have aR:=ae L;clear h0 Q hS az ar L;go_wp2_with fail
 go_loopw [12] (fun i wr=>rX w o K M T c u y t i wr) (fun i _=>T-(intOf i).toNat)
 case atStart=>exact H0.out
 case round=>
  obtain⟨n,f,X,bQ,rfl,I,J,A,E,C,hold,P,bU,ag,bW,aa⟩:=hrel
  by_cases O:n<T
  ·have bC:(n:Int)<(T:Int):=by omega
   have bH:=aR.out.size;obtain⟨bv,bM,c0,-⟩:=A.row;rw[I,ag,HN.out] at c0;have bI:wr.drew.cell? ⟨K.d,0,none⟩=some (.slice (some ⟨f.bs,0,none⟩) N bv):=c0;have bb:¬f.foot c:=fun h=>by rcases J _ (cB.foot_all h) with h|h;exact a6 h;omega
   have q1:∀w',bL f.foot wr.drew w' -> w'.cell? ⟨c,0,none⟩=some (.pointer (some ⟨K.d,0,none⟩)):=fun w' hh=>by simpa using(Blk.keep (w':=w') C (hh.block _ (Blk.lt C) bb)).cell 0
   have bF:bX R wr w.heap.size (.slice ra T rc) S:=av.out.keep fun b a bP=>by
    have bx:w.heap.size <= b /\ b<o.heap.size:=by
     rcases a with a|a
     ·have:=av.out.own a;omega
     ·exact hR b a
    exact hold b bx.2 fun h=>by have:=ay b h;omega
   obtain⟨bZ,ak,be,-⟩:=bF;obtain⟨x,hx,U⟩:=be n (by rw[ao.out];exact O);have aZ:S[n]'(by rw[ao.out];exact O)=cT g k l n:=by simp[HS.out]
   rw[aZ] at U;have aI:=mL g k l n;rw[ao.out] at ak;rcases ak.2 with⟨-,h⟩|⟨j,bJ,bK,bz,bO,a2,bR,-⟩
   ·omega
   injection bz with e1 e2 e3
   subst e1 e3;have ab:=ak.cells (g:=j) rfl n x (by simpa using hx);have bN:j<o.heap.size:=by have:=av.out.own (g:=j) rfl;omega
   have bA:¬f.foot j:=fun h=>by
    rcases J _ (cB.foot_all h) with h|h
    ·have:=ay _ h;omega
    ·omega
   obtain⟨xa,xc,rfl,-⟩:=id U;rw[aI] at U ab;rw[Addr.add_lit,Nat.zero_add] at ab
   have q2:∀w',bL f.foot wr.drew w' -> w'.cell? ⟨j,n,none⟩=some (.slice xa 64 xc):=fun w' hh=>by
    have e:w'.heap[j]?=wr.heap[j]?:=hh.block j (lt_of_block a2) bA;rw[<- ab];unfold World.cell?;rw[show(⟨j,n,none⟩:Addr).block=j from rfl,e]
   have a9:((p+n:Nat):Int)=(p:Int)+(n:Int):=by omega
   have aK:=nG wr.drew N z a7 g (p+n) hg (by omega)
   have a0:cm N g (p+n)<X.S.length:=by
    rw[ag,HN.out];unfold cm aW at *;rcases(show g%2=0 \/ g%2=1 by omega) with h|h<;>rw[h]<;>omega
   have al:=CB wr.drew f X (A.kept (Below.refl _ _).drew) (cm N g (p+n)) a0 (by omega) R _ (cT g k l n) (U.keep fun b _ _=>rfl) aI (fun b a e=>by
    have h1:=hR b a;have z:=ay K.d (.inl rfl);rw[e,I] at h1
    omega)
   rw[I] at al;have aL:=e7 M (t.take n) (cm N g (p+n)) (cT g k l n) (by rw[E]);have bd:=ax.out n O;rw[<- bd,E] at aL;have aN:=nm X (cm N g (p+n)) (cT g k l n);generalize cm N g (p+n)=bu at *;rw[a9] at aK;have bV:=af ((p:Int)+(n:Int)) (by omega);generalize X.wr bu (cT g k l n)=mq at *;obtain⟨M2,rr⟩:=mq;dsimp only at al aN;have bn:=ae aK;have bt:=ae al;have aS:=ae aL;have V:=ae C;have aU:=ae aN;have bk:=ae ag;clear aK al aL bd E a9 C U ab a2 be ak hx aZ aI c0 aN a0 H0 ag;go_wp2_with fail;refine bS (bL f.foot) (up 10 [12,13,14,15,17,18,19,20,510,11,516,521,22]) (by kernel_rfl) ?_;apply aG;rfl;intro w' H;go_simp;exact aF
   repeat (apply bE;rfl;rfl;go_simp;go_simp;rfl;apply aG;rfl;intro w' H;go_simp;exact aF)
   refine bq rfl rfl (fun G q=>?_);go_simp;refine⟨fx _ _,q _ _ ?_⟩;clear q G;go_simp;apply aG;rfl;intro w' H;go_simp;exact aF
   repeat (apply bE;rfl;rfl;go_simp;go_simp;rfl;apply aG;rfl;intro w' H;go_simp;exact aF)
   refine bq rfl rfl (fun G q=>?_);go_simp;refine bn.out.mono ?_;rintro e w' ⟨rfl,rfl⟩;refine⟨_,rfl,fx _ _,q _ _ ?_⟩;clear q G;go_simp;refine bq rfl rfl (fun G q=>?_);go_simp;refine bt.out.mono ?_;rintro e m ⟨rfl,⟨W,aV,bw,ad,a1⟩,s⟩;refine⟨_,rfl,s,q _ _ ?_⟩;clear q G q1 q2;go_simp;apply aG;rfl;intro w' H;go_simp;exact aF
   repeat (apply bE;rfl;rfl;go_simp;go_simp;rfl;apply aG;rfl;intro w' H;go_simp;exact aF)
   refine aY ?_
   have D:aT f.foot wr m:=⟨s.os,s.tape,s.output,s.size,s.block⟩
   have bT:wr.heap.size <= m.heap.size:=D.size
   have Y:∀b,W.all b -> K.all b \/ o.heap.size <= b:=fun b a=>by
    rcases bw b a with h|h
    ·exact J b h
    ·exact .inr (by have h:wr.heap.size <= b:=h;omega)
   have ai:aT K.foot w m:=P.trans D fun i hi=>by
    rcases hi with h|h
    ·exact .inl (.inl (h.trans I))
    ·exact .inl (.inr (h.trans aa))
   have aJ:∀b,b<o.heap.size -> ¬K.all b -> m.heap[b]?=o.heap[b]?:=fun b h1 z=>by
    rw[D.block b (by omega) (fun h=>by rcases J b (cB.foot_all h) with h|h;exact z h;omega),hold b h1 z]
   have B:gy m c K.d u y false:=Blk.keep V.out (D.block c (Blk.lt V.out) bb)
   by_cases hr:rr=0
   ·subst hr
    have bc:rX w o K M T c u y t (.int .i64 ((n:Int)+1)) m:=⟨n+1,W,M2,by omega,by simp,aV,Y,ad,aS.out,B,aJ,ai,by omega,by have:=aU.out;have:=bk.out;omega,by have:=aU.out;omega,a1.trans aa⟩
    have bo:=ae bc;clear bc ad Y ai aJ B s D hold P A;go_wp2_with fail
    go_roundw
    case rel=>exact bo.out
    case measure=>simp[intOf];omega
   ·have ba:(rr != 0)=true:=bne_iff_ne.2 hr;have a4:=iI M M2 rr t (n+1) aS.out hr;have f3:=Blk.free B 3;have c3:m.cell? ⟨c,3,none⟩=some (.bool false):=by simpa using Blk.cell B 3
    have a5:gy (m.setCell ⟨c,3,none⟩ (.bool true)) c K.d u y true:=Blk.set B 3 (.bool true)
    have a3:cB (m.setCell ⟨c,3,none⟩ (.bool true)) W M2:=ad.keep (fun b a=>Below.heap_setCell _ ⟨c,3,none⟩ _ b (fun e=>by
     have e:b=c:=e;rw[e] at a;rcases Y c a with h|h
     ·exact a6 h
     ·omega)) (by simp[World.setCell])
    have a8:aT (fun b=>K.foot b \/ b=c) w (m.setCell ⟨c,3,none⟩ (.bool true)):=(ai.mono fun b a=>.inl a).setCell (p:=⟨c,3,none⟩) (.inl (.inr rfl)) _;have bi:=ae a4;have bj:=ae a5;have bf:=ae a3;have bm:=ae a8;clear a4 a5 a3 a8 ad ai aJ B s D hold P A;go_wp2_with fail
    go_ret
    rw[bi.out];refine⟨rfl,⟨W,aV,fun b a=>(Y b a).imp id (fun h=>by omega),bf.out,a1.trans aa⟩,?_,bm.out⟩;have e1:(!decide (rr=0))=true:=by simp[hr]
    dsimp only;rw[e1];exact bj.out
  ·have bC:¬(n:Int)<(T:Int):=by omega
   have bD:n=T:=by omega
   subst bD;rw[List.take_of_length_le (by rw[br.out];omega)] at E;have bp:=ae E;have bg:=ae A;have V:=ae C;have bl:=ae P;clear E A C P hold;go_wp2_with fail
   go_ret
   rw[bp.out];have bH:=aR.out.size;exact⟨rfl,⟨f,I,fun b a=>(J b a).imp id (fun h=>by omega),bg.out,aa⟩,V.out,bl.out.mono fun b a=>.inl a⟩
/- The reference journal: Append. -/
end
section
attribute [local go_sem] opC upC told bG br bH bt bw bI bJ
attribute [local go_sem ↓] aV
def jK(F:aX)(rb:Nat)(w a:World):Prop:=bL F w a /\ ∀i,i<3 -> a.cell? ⟨rb,i,none⟩=w.cell? ⟨rb,i,none⟩
theorem qd(w:World):jK F n w w:=⟨fx _ _,fun _ _=>rfl⟩
theorem uU(a b c:World)(h:jK F n a b)(k:jK F n b c):jK F n a c:=⟨ii _ _ _ _ h.1 k.1,fun i hi=>(k.2 i hi).trans (h.2 i hi)⟩
instance{F:aX}{rb:Nat}:Std.Refl (jK F rb):=⟨qd F rb⟩
instance{F:aX}{rb:Nat}:Trans (jK F rb) (jK F rb) (jK F rb):=⟨fun h k=>uU F rb _ _ _ h k⟩
theorem jJ.wrote{K f:RK}{L:List (List UInt8)}{M k:MD}(h:jJ W ⟨i,K,G⟩ M ⟨j,L,false⟩)(A:cB w' f k)(y:f.d=K.d)(n:∀b,f.all b -> K.all b \/ W.heap.size <= b)(l:Bool)
 (B:∀q,gy W i K.d j q false -> gy w' i K.d j q l) (p:aT (fun b=>K.all b \/ b=i) W w') (o:k.S.length=M.S.length):jJ w' ⟨i,f,G⟩ k ⟨j,L,l⟩:=by
 have C:=h.lt;obtain⟨F,⟨D,E,R,r,s,m⟩,e,t,u,v,x⟩:=h;dsimp only at *;have z:∀b,G b -> w'.heap[b]?=W.heap[b]?:=fun b a=>p.block b (e.2 b a).2.2 (fun c=>by rcases c with c|c;exact(e.2 b a).2.1 c;exact(e.2 b a).1 c)
 refine⟨A,⟨D,E,R,?_,s.keep fun b a _=>z b (m b a),m⟩,⟨fun c=>?_,fun b a=>⟨(e.2 b a).1,fun c=>?_,aw (e.2 b a).2.2 p.size⟩⟩,by rw[o];exact t,by rw[o];exact u,v,x⟩
 ·dsimp only;rw[y];exact B _ r
 ·have:=C i (.inl rfl);rcases n _ c with h|h
  ·exact e.1 h
  ·exact absurd h (by show ¬W.heap.size <= i;omega)
 ·have:=(e.2 b a).2.2;rcases n _ c with h|h
  ·exact(e.2 b a).2.1 h
  ·omega
def xw(w:World)(c:RJK)(M:MD)(a:MD×MJ×Int)(e:Ending)(g:World):Prop:=
 e=.returned (.int .i64 a.2.2) /\ ∃f:RJK,f.j=c.j /\ f.K.d=c.K.d /\ jJ g f a.1 a.2.1 /\ (∀b,f.all b -> c.all b \/ w.heap.size <= b) /\ aT c.all w g
def EL(w:World)(b:Nat):Prop:=∃L t a,w.heap[b]?=some (.cells L t a) /\ (t=121 \/ t=117 \/ t=41)
def DB(w:World)(c:RJK)(M:MD)(a:MD×MJ×Int)(e:Ending)(b:World):Prop:=xw w c M a e b /\ aT (EL w) w b
theorem DC{K:RK}{L:List (List UInt8)}{e:Bool}{c:Option Addr}(n:cB W K N)(p:gy W i K.d j (.slice c L.length o) e)(r:bX G W 0 (.slice c L.length o) L):
 ∀b,(K.foot b \/ b=i) \/ (Value.slice c L.length o).ownBlock=some b -> EL W b:=by
 obtain⟨v,u,z,-,-,l,⟨t,k,-⟩,-⟩:=n.main;rintro b (((rfl|rfl)|rfl)|a)
 ·exact⟨_,_,_,l,.inr (.inl rfl)⟩
 ·exact⟨_,_,_,k,.inr (.inr rfl)⟩
 ·exact⟨_,_,_,p,.inl rfl⟩
 ·obtain⟨A,q,-⟩:=r;rcases q.2 with⟨h,-⟩|⟨f,x,y,s,-,m,-⟩
  ·rw[h] at a;cases a
  ·rw[s] at a;obtain rfl:f=b:=by simpa[Value.ownBlock] using a
   exact⟨_,_,_,m,.inr (.inr rfl)⟩
theorem xx(jk:RJK)(M:MD)(J:MJ)(h:jJ w jk M J)(F:aX)(v:Value)(l:List UInt8)(hv:aO F w v l)(hF:∀b,F b -> b<w.heap.size /\ ¬jk.all b)(hl:l.length <= 65536)(hw:M.writes+65536<4611686018427387904):
 Calls aE 31 #[.pointer (some ⟨jk.j,0,none⟩),v] w (DB w jk M (bQ M J l)):=by
 obtain⟨rb,K,O⟩:=jk;obtain⟨g,L,a6⟩:=J;have aN:=h;obtain⟨U,⟨u,x,R,D,hr,y⟩,⟨a8,N⟩,h8,bP,bz,aQ⟩:=h;dsimp only at *;have ax:=ae (DC U D hr);obtain⟨va,vc,rfl,-⟩:=id hv;have bA:=U.len;have bG:=dB L;have bJ:aW M.S.length <= 32768:=by unfold aW;omega
 have bR:takes l.length <= 1366:=by unfold takes;omega
 have bK:¬(65536:Int)<(l.length:Int):=by omega
 have c3:w.cell? ⟨rb,3,none⟩=some (.bool a6):=by simpa using Blk.cell D 3
 have av:=ae aN;cases a6 with
 |true=>
  have z:bQ M ⟨g,L,true⟩ l=(M,⟨g,L,true⟩,341):=by unfold bQ;rfl
  rw[z];clear aN U D hr z
  go_enter func31,ntmps31
  go_wp2_with fail
  go_ret
  exact⟨⟨rfl,⟨rb,K,O⟩,rfl,rfl,av.out,fun b a=>.inl a,aT.refl _ _⟩,aT.refl _ _⟩
 |false=>
  obtain⟨bu,bI,c0,-⟩:=U.row;have bN:=Blk.lt D;have a0:∀c,aJ w.drew c -> c.cell? ⟨rb,0,none⟩=some (.pointer (some ⟨K.d,0,none⟩)):=fun c hh=>e8 (by simpa using Blk.cell D 0) hh
  have b0:∀c,aJ w.drew c -> c.cell? ⟨K.d,0,none⟩=some (.slice (some ⟨K.bs,0,none⟩) M.S.length bu):=fun c hh=>e8 c0 hh
  have Ht:=ae (nH w.drew rb K.d g _ false (show gy w.drew rb K.d g _ false from D) R L (hr.kept (Below.refl _ _).drew) (by omega) (by omega) aQ);have ay:=ae (lG w.drew l.length (by omega));have Hh:=ae (pG w.drew M.S.length (by omega) bA);have bU:=af ((aM L:Int)+(takes l.length:Int)) (by omega);have Hd:=ae U;have P:=ae D;have Hr:=ae hr
  have I:bQ M ⟨g,L,false⟩ l=if aW M.S.length-aM L<takes l.length then(M,⟨g,L,false⟩,7) else
   if(bh M (aP M.S.length g L.length (aM L) l)).2=0 then((bh M (aP M.S.length g L.length (aM L) l)).1,⟨g,L++[l],false⟩,0) else((bh M (aP M.S.length g L.length (aM L) l)).1,⟨g,L,true⟩,(bh M (aP M.S.length g L.length (aM L) l)).2):=by
   unfold bQ;simp only[Bool.false_eq_true,if_false];rw[if_neg (by omega)]
  have bT:=dy l.length;clear aN U D hr c0
  by_cases be:aW M.S.length-aM L<takes l.length
  ·rw[if_pos be] at I;rw[I];have hI:(aW M.S.length:Int)<(aM L:Int)+(takes l.length:Int):=by omega
   clear I
   go_enter func31,ntmps31
   go_wp2_with fail;refine bS aJ [0,2,3,6,7,8,9,10,11,12,13,501,504,5,514,15] (by kernel_rfl) ?_;apply aG;rfl;intro c B;go_simp;exact aF;refine bq rfl rfl (fun m f=>?_);go_simp;refine Ht.out.mono ?_;rintro e c ⟨rfl,rfl⟩;refine⟨_,rfl,bF _,f _ _ ?_⟩;clear f m;go_simp;refine bq rfl rfl (fun m f=>?_);go_simp;refine ay.out.mono ?_;rintro e c ⟨rfl,rfl⟩;refine⟨_,rfl,bF _,f _ _ ?_⟩;clear f m;go_simp;apply aG;rfl;intro c B;go_simp;exact aF;refine bq rfl rfl (fun m f=>?_);go_simp;refine Hh.out.mono ?_;rintro e c ⟨rfl,rfl⟩;refine⟨_,rfl,bF _,f _ _ ?_⟩;clear f m;go_simp;apply aG;rfl;intro c B;go_simp;exact aF;refine aY ?_;go_wp2_with fail
   go_ret
   exact⟨⟨rfl,⟨rb,K,O⟩,rfl,rfl,av.out.kept (Below.refl _ _).drew,fun b a=>.inl a,aT.of_below (Below.refl _ _).drew⟩,aT.of_below (Below.refl _ _).drew⟩
  ·rw[if_neg be] at I;have hI:¬(aW M.S.length:Int)<(aM L:Int)+(takes l.length:Int):=by omega
   have aV:=fE (aP M.S.length g L.length (aM L) l) M;have aZ:=za w.drew.drew rb g _ K M (Hd.out.kept (Below.refl _ _).drew.drew) (show gy w.drew.drew rb K.d g _ false from P.out) a8 g L.length (aM L) (.slice va l.length vc) l F (hv.keep (w':=w.drew.drew) fun b _ _=>rfl) (by omega) (by omega) hl (by omega) (by omega) (by omega);generalize bh M (aP M.S.length g L.length (aM L) l)=mw at *;obtain⟨M',r⟩:=mw;dsimp only at I aV aZ;have a2:=ae I;have br:=ae aZ;have az:=ae aV;have Hv:=ae hv;have bp:=ae (nH w.drew.drew rb K.d g _ false (show gy w.drew.drew rb K.d g _ false from P.out) R L (Hr.out.kept (Below.refl _ _).drew.drew) (by omega) (by omega) aQ)
   have d0:∀c,jK (fun b=>K.foot b \/ b=rb) rb w.drew.drew c -> c.cell? ⟨rb,1,none⟩=some (.int .i64 (g:Int)):=fun c hh=>by
    rw[hh.2 1 (by omega)];simpa using Blk.cell P.out 1
   have d2:∀c,jK (fun b=>K.foot b \/ b=rb) rb w.drew.drew c -> c.cell? ⟨rb,2,none⟩=some (.slice u L.length x):=fun c hh=>by
    rw[hh.2 2 (by omega)];simpa using Blk.cell P.out 2
   clear I aZ aV hv
   go_enter func31,ntmps31
   go_wp2_with fail;refine bS aJ [0,2,3,6,7,8,9,10,11,12,13,501,504,5,514,15] (by kernel_rfl) ?_;apply aG;rfl;intro c B;go_simp;exact aF;refine bq rfl rfl (fun m f=>?_);go_simp;refine Ht.out.mono ?_;rintro e c ⟨rfl,rfl⟩;refine⟨_,rfl,bF _,f _ _ ?_⟩;clear f m;go_simp;refine bq rfl rfl (fun m f=>?_);go_simp;refine ay.out.mono ?_;rintro e c ⟨rfl,rfl⟩;refine⟨_,rfl,bF _,f _ _ ?_⟩;clear f m;go_simp;apply aG;rfl;intro c B;go_simp;exact aF;refine bq rfl rfl (fun m f=>?_);go_simp;refine Hh.out.mono ?_;rintro e c ⟨rfl,rfl⟩;refine⟨_,rfl,bF _,f _ _ ?_⟩;clear f m;go_simp;apply aG;rfl;intro c B;go_simp;exact aF;refine aY ?_;clear a0 b0 Ht ay Hh;go_wp2_with fail;refine bS (jK (fun b=>K.foot b \/ b=rb) rb) (up 11 [12,511,513,14]) (by kernel_rfl) ?_;apply aG;rfl;intro c B;go_simp;exact aF;refine bq rfl rfl (fun m f=>?_);go_simp;refine bp.out.mono ?_;rintro e c ⟨rfl,rfl⟩;refine⟨_,rfl,qd _ _ _,f _ _ ?_⟩;clear f m;go_simp;refine bq rfl rfl (fun m f=>?_);go_simp;refine br.out.mono ?_;rintro e k ⟨rfl,⟨T,aa,bw,an,bH⟩,t,X⟩
   have bc:∀i,i<3 -> k.cell? ⟨rb,i,none⟩=w.drew.drew.cell? ⟨rb,i,none⟩:=fun i hi=>by
    have e1:=Blk.cell t i;have e2:w.drew.drew.cell? ⟨rb,i,none⟩=_:=Blk.cell P.out i;rw[e1,e2];have:i=0 \/ i=1 \/ i=2:=by omega
    rcases this with rfl|rfl|rfl<;>rfl
   refine⟨_,rfl,⟨X,bc⟩,f _ _ ?_⟩;clear f m d0 d2 bc;go_simp;apply aG;rfl;intro c B;go_simp;exact aF;refine aY ?_
   have E:aT (fun b=>K.foot b \/ b=rb) w k:=⟨X.os,X.tape,X.output,X.size,X.block⟩
   have ab:∀b,T.all b -> K.all b \/ w.heap.size <= b:=bw
   have bg:=fun bv (hh:gy k rb K.d g (.slice u L.length x) bv)=>hh
   by_cases ar:r=0
   ·subst ar;have z:=a2.out;simp only[if_true] at z;have HM:=ae z;have bf:gy k rb K.d g (.slice u L.length x) false:=t
    have bm:bX R k 0 (.slice u L.length x) L:=Hr.out.keep fun b a ao=>E.block b ao fun n=>by
     have o:=N b (y b a);rcases n with n|n
     ·exact o.2.1 (cB.foot_all n)
     ·exact o.1 n
    have ba:aO F k (.slice va l.length vc) l:=Hv.out.keep fun b a ao=>E.block b ao fun n=>(hF b a).2 (by
     rcases n with n|n
     ·exact .inr (.inl (cB.foot_all n))
     ·exact .inl n)
    have t:=bf;have aR:=bm;have bW:w.heap.size <= k.heap.size:=E.size;obtain⟨xa,xc,A,bC,bB,ad,V,bb⟩:=pF k.drew _ (.slice va l.length vc) l ((ba.keep fun b _ _=>rfl):aO _ k.drew (.slice va l.length vc) l) (by omega);change(AP _ _ #[.slice (some ⟨k.heap.size,0,none⟩) 0 0,_]).run _ (k.alloc _).drew=_ at bC;clear bB;have aU:k.heap.size <= A.heap.size:=ad.size;have aS:bX R A 0 (.slice u L.length x) L:=(aR.kept (w':=k.drew) (Below.refl _ _).drew).kept ad;obtain⟨G,H,Y,bx,bk,s⟩:=aS.append bb (fun b a=>a.2.2) (by omega) (by omega);have aK:=aS.appended rfl (by omega) bx;have aL:Blk A rb _ _:=(Blk.keep (w':=k.drew) t rfl).keep (ad.block rb (Blk.lt t));have ag:∀q,Value.ownBlock (.slice u L.length x)=some q -> q≠rb /\ q<k.heap.size:=fun q C=>⟨(N q (y q (.inl C))).1,(aR.own C).2.1⟩
    have al:Blk Y rb _ 121:=(aL.alloc _).keep (s.block _ (by have:=aL.lt;simp;omega) (fun e=>(ag _ e.symm).1 rfl));have k0:bL (fun b=>b≠rb) k.drew (k.alloc (.cells #[] 5)).drew:=bL.of_below (aI k.drew _)
    have k1:bL (fun b=>b≠rb) (k.alloc (.cells #[] 5)).drew A:=⟨V.os,V.tape,V.output,V.size,fun q C W=>V.block q C (fun e=>W (fun e2=>by have:=Blk.lt t;simp at e;have:k.drew.heap.size=k.heap.size:=rfl;omega))⟩
    have k2:bL (fun b=>b≠rb) A (A.alloc (.cells #[.slice xa l.length xc] 41)):=bL.of_below (aI _ _)
    have k3:bL (fun b=>b≠rb) (A.alloc (.cells #[.slice xa l.length xc] 41)) Y:=⟨s.os,s.tape,s.output,s.size,fun q C W=>s.block q C (fun e=>W (fun e2=>(ag _ e.symm).1 e2))⟩
    have bi:aT (fun b=>b=rb \/ (Value.slice u L.length x).ownBlock=some b) k Y:=by
     have Z:aT (fun b=>b=rb \/ (Value.slice u L.length x).ownBlock=some b) k.drew (A.alloc (.cells #[.slice xa l.length xc] 41)):=((aT.of_below (F:=fun b=>b=rb \/ (Value.slice u L.length x).ownBlock=some b) (w:=k.drew) ad).alloc _)
     have o:aT (fun b=>b=rb \/ (Value.slice u L.length x).ownBlock=some b) k (A.alloc (.cells #[.slice xa l.length xc] 41)):=⟨Z.os,Z.tape,Z.output,Z.size,Z.block⟩
     exact⟨s.os.trans o.os,s.tape.trans o.tape,s.output.trans o.output,au o.size s.size,fun q C W=>(s.block q (aw C o.size) (fun e=>W (.inr e.symm))).trans (o.block q C W)⟩
    have c2:=al.cell 2;have f2:=al.free 2;simp at c2;have a9:=al.set 2 (.slice G (L.length+1) H)
    have bl:bX _ (Y.setCell ⟨rb,2,none⟩ (.slice G (L.length+1) H)) 0 (.slice G (L.length+1) H) (L++[l]):=bk.keep fun b a _=>Below.heap_setCell _ ⟨rb,2,none⟩ _ b (by
     have ao:=Blk.lt t;have hz:k.drew.heap.size=k.heap.size:=rfl;rcases a with a|a|a
     ·rcases aK b a with h|h
      ·exact(ag b h).1
      ·show b≠rb;omega
     ·exact(N b (y b (.inr a))).1
     ·have:=a.1;show b≠rb;omega)
    have bj:aT (fun b=>b=rb \/ (Value.slice u L.length x).ownBlock=some b) k (Y.setCell ⟨rb,2,none⟩ (.slice G (L.length+1) H)):=bi.setCell (p:=⟨rb,2,none⟩) (.inl (.inl rfl)) _
    have q2:∀c,bL (fun b=>b≠rb) k.drew c -> c.cell? ⟨rb,2,none⟩=some (.slice u L.length x):=fun c hh=>by
     simpa using(Blk.keep (w':=c) t (hh.block rb (Blk.lt t) (fun h=>h rfl))).cell 2
    have a1:A.heap.size <= (Y.setCell ⟨rb,2,none⟩ (.slice G (L.length+1) H)).heap.size:=by have:=s.size;simp at this;simp[World.setCell];omega
    have bn:=ae a9;have a5:=ae bl;have ak:=ae bj;have a3:=ae aK;have bt:=ae a1;have bo:=ae aU;have bE:=ae ag;clear a9 bl bj bi bk al aS bb s V ad aL aR t aK a1 aU ag;have a4:=ae an;have Q:=ae E;have ai:=ae aa;clear an E bf ba bg z t bm aa;go_wp2_with fail;refine dP (bL (fun b=>b≠rb)) 12 (up 5 [6,505,507,508,509,10,11,512]) (by kernel_rfl) ?_;apply bM;rfl;intro c B;go_simp;exact aF;refine cU rfl rfl (fun m f=>?_);go_simp;refine f _ _ ?_;clear f m;go_simp;refine cU rfl rfl (fun m f=>?_);go_simp;refine f _ _ ?_;clear f m;go_simp;refine cU rfl rfl (fun m f=>?_);go_simp;refine f _ _ ?_;clear f m;go_simp;refine cU rfl rfl (fun m f=>?_);go_simp;refine f _ _ ?_;clear f m;go_simp;apply bM;rfl;intro c B;go_simp;exact aF;refine cZ rfl rfl rfl (fun m f=>?_);go_simp;refine f _ _ ?_;clear f m;go_simp;refine dt ?_;go_wp2_with fail
    go_ret
    rw[HM.out];have aU:=bo.out;have bV:w.heap.size <= k.heap.size:=Q.out.size;have bY:=ak.out.size;have bd:=a4.out.lt;have a1:=bt.out
    have a7:¬T.all rb:=fun h=>by
     rcases ab _ h with h|h
     ·exact a8 h
     ·omega
    have aH:∀b,O b -> ¬T.all b:=fun b a h=>by
     rcases ab _ h with h|h
     ·exact(N b a).2.1 h
     ·have:=(N b a).2.2;omega
    refine⟨⟨rfl,⟨rb,T,fun b=>(Value.slice G (L.length+1) H).ownBlock=some b \/ _⟩,rfl,ai.out,⟨a4.out.only ak.out fun b a n=>?_,⟨G,H,_,?_,by simpa using a5.out,fun b a=>by simpa using a⟩,⟨a7,fun b a=>?_⟩,?_,?_,bz,?_⟩,fun b a=>?_,?_⟩,(Q.out.mono fun b a=>ax.out b (.inl a)).trans ak.out fun b a=>.inl (ax.out b (by rcases a with a|a;exact .inl (.inr a);exact .inr a))⟩
    ·rcases n with n|n
     ·exact a7 (n▸a)
     ·exact aH b (y b (.inl n)) a
    ·have:=bn.out;rw[<- ai.out] at this;simpa[gy] using this
    ·rcases a with a|a|a
     ·have o:=(a5.out.own a).2.1;rcases a3.out b a with h|h
      ·exact⟨(N b (y b (.inl h))).1,aH b (y b (.inl h)),o⟩
      ·exact⟨by show b≠rb;omega,fun n=>by have:=bd b n;omega,o⟩
     ·have o:=N b (y b (.inr a));exact⟨o.1,aH b (y b (.inr a)),by have:=o.2.2;omega⟩
     ·have o:k.heap.size <= b:=a.1;have h2:=a.2.1;exact⟨by show b≠rb;omega,fun n=>by have:=bd b n;omega,by omega⟩
    ·rw[az.out.1];exact h8
    ·show aM (L++[l]) <= aW M'.S.length;rw[az.out.1,d9];omega
    ·intro b a;rcases List.mem_append.1 a with a|a
     ·exact aQ b a
     ·rw[List.mem_singleton.1 a];exact hl
    ·rcases a with a|a|a
     ·exact .inl (.inl a)
     ·rcases ab b a with h|h
      ·exact .inl (.inr (.inl h))
      ·exact .inr h
     ·rcases a with a|a|a
      ·rcases a3.out b a with h|h
       ·exact .inl (.inr (.inr (y b (.inl h))))
       ·exact .inr (by omega)
      ·exact .inl (.inr (.inr (y b (.inr a))))
      ·exact .inr (by have o:k.heap.size <= b:=a.1;omega)
    ·refine(Q.out.mono fun b a=>?_).trans ak.out fun b a=>?_
     ·rcases a with a|a
      ·exact .inr (.inl (cB.foot_all a))
      ·exact .inl a
     ·rcases a with a|a
      ·exact .inl (.inl a)
      ·exact .inl (.inr (.inr (y b (.inl a))))
   ·have bO:(r == 0)=false:=beq_eq_false_iff_ne.2 ar;have z:=a2.out;rw[if_neg ar] at z
    have hw:jJ k ⟨rb,T,O⟩ M' ⟨g,L,true⟩:=av.out.wrote an aa ab true (fun rv bD=>by
     have e:=(Blk.cell bD 2).symm.trans (Blk.cell P.out 2);simp at e;rw[e];have:=t;rw[show(!decide (r=0))=true from by simp[ar]] at this
     exact this) (E.mono fun b a=>a.imp cB.foot_all id) az.out.1
    have HM:=ae z;have Hw:=ae hw;have Q:=ae E;have ai:=ae aa;clear z hw E t an bg aa;go_wp2_with fail
    go_ret
    rw[HM.out];refine⟨⟨rfl,⟨rb,T,O⟩,rfl,ai.out,Hw.out,fun b a=>?_,Q.out.mono fun b a=>?_⟩,Q.out.mono fun b a=>ax.out b (.inl a)⟩
    ·rcases a with a|a|a
     ·exact .inl (.inl a)
     ·rcases ab b a with h|h
      ·exact .inl (.inr (.inl h))
      ·exact .inr h
     ·exact .inl (.inr (.inr a))
    ·rcases a with a|a
     ·exact .inr (.inl (cB.foot_all a))
     ·exact .inl a
theorem xy(a:RJK)(M:MD)(J:MJ)(h:jJ w a M J)(F:aX)(v:Value)(l:List UInt8)(d:aO F w v l)(hF:∀b,F b -> b<w.heap.size /\ ¬a.all b)(c:l.length <= 65536)(e:M.writes+65536<4611686018427387904):
 Calls aE 31 #[.pointer (some ⟨a.j,0,none⟩),v] w (xw w a M (bQ M J l)):=
 (xx w a M J h F v l d hF c e).mono fun _ _ h=>h.1
/- The reference journal: Replace. -/
end
section
attribute [local go_sem] opC upC told bG br bH bt bw bI bJ
attribute [local go_sem ↓] aV
end
end Go.Proofs.YtobjdpngnfbicaaGreatDoor
