/-
  J1 J2 J3 J4 BRows J5
-/
import Derived.Test.YtobjdpngnfbicaaGreatDoorZP07
open Go.IntWalk renaming i64_in->af,i64_quo->ah,u32_in->aj,rem_in->am,u8_in->ap
open Nat renaming le_refl->aq,le_trans->au,lt_of_lt_of_le->aw
open List renaming length_append->aA,append_assoc->aB,length_cons->aD
open Go.Proofs.Tryz renaming prog->aE
set_option maxHeartbeats 4000000
set_option maxRecDepth 100000
set_option linter.all false
namespace Go.Proofs.YtobjdpngnfbicaaGreatDoor
open Go.RowKit
open Go.Proofs.Tryz
variable(w:World)(n k:Nat)(v:Value)(M:MD){W w':World}{G:aQ}{u:Value}{i j o:Nat}{l:List UInt8}{L:List Value}{N:MD}{t:TypeId}
section
attribute [local go_sem] opC upC told bE bm bF bp bq bG bH
def d9(w:World)(jb b g:Nat)(c:Value)(d:Nat)(a:Bool):Prop:=
 Blk w jb [.pointer (some ⟨b,0,none⟩),.int .u32 (g:Int),c,.int .i64 (d:Int),.bool a] 141
theorem ld(c:n <= 140737488355328):
 Calls aE 147 #[.int .i64 (n:Int)] w λe a=>e=.returned (.int .i64 (takes n:Int)) /\ w=a:=by
 have b:(n:Int) <= 140737488355328:=by omega
 go_enter func147,ntmps147
 go_wp2_with fail
 all_goals
  go_ret
  exact⟨fv (by unfold takes;omega),rfl⟩
theorem o7(g:Nat)(i:Value)(j:Nat)(c:Bool)(K:DK)(M:MD)(h:d9 w n k g i j c)(a:bM w K M)(f:K.d=k)(l:2 <= M.S.length):
 Calls aE 139 #[.pointer (some ⟨n,0,none⟩)] w λe w'=>e=.returned (.int .i64 (bw M.S.length:Int)) /\ w=w':=by
 subst f;have b:=h.cell 0;simp at b;have p:=a.le;have e:((bw M.S.length:Nat):Int)=((M.S.length:Int)-2)/2:=by unfold bw;omega
 have m:(M.S.length:Int) <= 65536:=by omega
 have o:2 <= (M.S.length:Int):=by omega
 rw[e]
 go_enter func139,ntmps139
 go_wp2_with fail;refine(rN w K M a).mono ?_;rintro e w' ⟨rfl,rfl⟩;go_wp2
 go_ret
 exact⟨rfl,rfl⟩
theorem p4(g:Nat)(f:Value)(i:Nat)(b:Bool)(K:DK)(M:MD)(o:d9 w n k g f i b)(c:bM w K M)(l:K.d=k)(j:2 <= M.S.length)(a p:Nat)(t:p <= 65536):
 Calls aE 149 #[.pointer (some ⟨n,0,none⟩),.int .u32 (a:Int),.int .i64 (p:Int)] w λe w'=>e=.returned (.int .i64 (dm M.S.length a p:Int)) /\ w=w':=by
 have s:=c.le;have hh:bw M.S.length <= 65536:=by unfold bw;omega
 have m:=o7 w n k g f i b K M o c l j;have e:((dm M.S.length a p:Nat):Int)=2+(a:Int)%2*(bw M.S.length:Int)+(p:Int):=by unfold dm;simp
 rw[e];generalize bw M.S.length=H at *;have u:(p:Int) <= 65536:=by omega
 have q:(H:Int) <= 65536:=by omega
 have r:0 <= (a:Int)%2*(H:Int) /\ (a:Int)%2*(H:Int) <= 65536:=by
  rcases(show(a:Int)%2=0 \/ (a:Int)%2=1 by omega) with h|h<;>rw[h]<;>omega
 go_enter func149,ntmps149
 go_wp2_with fail;refine m.mono ?_;rintro e w' ⟨rfl,rfl⟩;go_wp2
 go_ret
 exact⟨rfl,rfl⟩
theorem sy:
 Calls aE 85 #[.pointer none] w λe a=>e=.returned (.int .i64 9) /\ w=a:=by
 go_enter func85,ntmps85
 go_wp2
 go_ret
 exact⟨rfl,rfl⟩
theorem nY(K:DK)(M:MD)(c:bM w K M):
 Calls aE 85 #[.pointer (some ⟨K.d,0,none⟩)] w λe a=>e=.returned (.int .i64 (if M.S.length<8 then 6 else 0)) /\ w=a:=by
 by_cases h:M.S.length<8
 all_goals
  first|have b:(M.S.length:Int)<8:=by omega|have b:¬(M.S.length:Int)<8:=by omega
  go_enter func85,ntmps85
  go_wp2_with fail;refine(rN w K M c).mono ?_;rintro e a ⟨rfl,rfl⟩;go_wp2
  go_ret
  exact⟨rfl,rfl⟩
theorem sA(c i:Nat)(g:Nat)(l:Value)(b:Nat)(j:Bool)(K:DK)(M:MD)(h:d9 w c i g l b j)(k:bM w K M)(f:K.d=i)(m:2 <= M.S.length)(u:b <= bw M.S.length):
 Calls aE 89 #[.pointer (some ⟨c,0,none⟩)] w λe a=>e=.returned (.int .i64 ((bw M.S.length-b:Nat):Int)) /\ ∃n,w.drewN n=a:=by
 have t:=k.le;have hh:bw M.S.length <= 65536:=by unfold bw;omega
 have p:=o7 w.drew c i g l b j K M h.drew (k.keep (w':=w.drew) λ_ _=>rfl) f m;have e:((bw M.S.length-b:Nat):Int)=(bw M.S.length:Int)-(b:Int):=by omega
 rw[e];have x:∀a,aK w.drew a -> a.cell? ⟨c,3,none⟩=some (.int .i64 (b:Int)):=λa hh=>by simpa using(h.keep (w':=a) (hh.block c h.lt)).cell 3
 generalize bw M.S.length=H at *;have r:(H:Int) <= 65536:=by omega
 have s:(b:Int) <= H:=by omega
 have v:=af ((H:Int)-(b:Int)) (by omega)
 go_enter func89,ntmps89
 go_wp2_with fail;refine bP aK [0,2,3,4,5,501,6,7] (by kernel_rfl) ?_;apply aG;rfl;intro a o;go_simp;exact aF;refine aY rfl rfl (λq f=>?_);go_simp;refine p.mono ?_;rintro e a ⟨rfl,rfl⟩;refine⟨_,rfl,aZ _,f _ _ ?_⟩;go_simp;apply aG;rfl;intro a o;go_simp;exact aF;refine aW ?_;go_wp2
 go_ret
 exact⟨rfl,1,rfl⟩
theorem Dm:
 Calls aE 89 #[.pointer none] w λe a=>e=.returned (.int .i64 0) /\ w=a:=by
 go_enter func89,ntmps89
 go_wp2
 go_ret
 exact⟨rfl,rfl⟩
theorem zO(K:DK)(M:MD)(h:bM w K M)(a:Nat)(i:a<M.S.length)(m:M.writes<4611686018427387904)(F:aQ)(v:Value)(l:List UInt8)(k:aO F w v l)(j:l.length=64)(hF:∀b,F b -> ¬K.foot b):
 Calls aE 33 #[.pointer (some ⟨K.d,0,none⟩),.int .i64 (a:Int),v] w λe w'=>e=.returned (.int .i64 (M.wr a l).2) /\
  (∃f,f.d=K.d /\ (∀b,f.foot b -> K.foot b) /\ bM w' f (M.wr a l).1) /\ aM K.foot w w' /\ w'.heap.size=w.heap.size:=by
 cases c:M.down with
 |false=>
  have e:M.wr a l=M.write a l:=by simp[MD.wr,c]
  rw[e];exact Di w K M h a i c m F v l k j hF
 |true=>
  have e:M.wr a l=(M,341):=by simp[MD.wr,c]
  have g:M.chk a=341:=by simp[MD.chk,c]
  rw[e];refine(Bt w K M a v h (by rw[g];decide)).mono ?_;rintro e w' ⟨rfl,rfl⟩;exact⟨by rw[g],⟨K,rfl,λ_ h=>h,h⟩,aM.refl _ _,rfl⟩
theorem nZ(a:Nat)(l:List UInt8):(M.wr a l).1.S.length=M.S.length /\ (M.wr a l).1.writes <= M.writes+1:=by
 unfold MD.wr MD.write;split
 ·simp
 ·split<;>simp
def eu(K:DK)(jb:Nat):aQ:=λb=>K.foot b \/ b=jb
theorem sC(a j g:Nat)(o:Value)(s:Nat)(u:Bool)(K:DK)(M:MD)(k:d9 w a j g o s u)(D:bM w K M)(A:K.d=j)(x:¬K.foot a)(c:Nat)(I:c<M.S.length)(Q:M.writes<4611686018427387904)
 (q:Nat) (l:List UInt8) (n:dR w q l) (O:¬K.foot q):
 Calls aE 140 #[.pointer (some ⟨a,0,none⟩),.int .i64 (c:Int),.pointer (some ⟨q,0,none⟩)] w λe w'=>e=.returned (.int .i64 (M.wr c l).2) /\
  (∃i,i.d=j /\ (∀b,i.foot b -> K.foot b) /\ bM w' i (M.wr c l).1) /\ d9 w' a j g o s (!decide ((M.wr c l).2=0)) /\ aM (eu K a) w w' /\ w'.heap.size=w.heap.size:=by
 subst A;have R:=zO w.drew K M (D.keep (w':=w.drew) λ_ _=>rfl) c I Q _ _ l (dR.bytes (w:=w.drew) ⟨n.1.drew,n.2⟩) n.2 (λb e H=>O (e▸H));have y:=k.drew.cell 0;simp at y
 go_enter func140,ntmps140
 go_wp2_with fail
 go_still_tail 8,(by kernel_rfl)
 change wpList _ _ _ _ _ w.drew;go_wp2_with fail;refine R.mono ?_;rintro e t ⟨rfl,⟨i,B,v,E⟩,f,N⟩;have m:d9 t a K.d g o s u:=k.keep (f.block a (show a<w.heap.size from k.lt) x)
 have J:aM K.foot w t:=⟨f.os,f.tape,f.output,f.size,f.block⟩
 generalize L:(M.wr c l).2=r at *;have z:=m.cell 4;have T:=m.free 4;simp at z;have P:=m.set 4 (.bool (!decide (r=0)));have G:=E.only (F:=λb=>b=a) (aM.setCell (F:=λb=>b=a) (aM.refl _ t) (p:=⟨a,4,none⟩) (.inl rfl) (.bool (!decide (r=0)))) (λb C e=>x (e▸v b C));go_wp2
 go_ret
 rw[L];exact⟨rfl,⟨i,B,v,G⟩,P,(J.mono (λ_ h=>.inl h)).setCell (.inl (.inr rfl)) _,by simpa[World.setCell] using N⟩
end
section
def CP(b:Array TypeId)(t:TypeId)(a:Array Value):Sem Value:=Builtin.copy_ b t a
theorem mN(b:Array TypeId)(t:TypeId)(a:Array Value):Builtin.copy_ b t a=CP b t a:=rfl
attribute [local go_sem ↓] mN
attribute [local go_sem] opC upC
theorem Dn:(aE.info? 5).map (·.size)=some 1:=by kernel_rfl
theorem o8{w:World}(h:dR w i l)(c f k:Nat){v:Value}{x:List UInt8}(H:aO G w v x)(n:Nat)(e:n=Nat.min x.length f)(C:c+n <= 64):
 ∃w',(CP #[41,41] 3 #[.slice (some ⟨i,c,none⟩) f k,v]).run aE w=.ok (.int .i64 (n:Int)) w' /\ dR w' i (dp l c (x.take n)) /\ aM (λb=>b=i) w w' /\ w'.heap.size=w.heap.size:=by
 obtain⟨m,g⟩:=h;obtain⟨a,r,rfl,J,M,N,I⟩:=H;have d:(x.take n).length=n:=by rw[List.length_take,e];exact Nat.min_eq_left (Nat.min_le_left _ _)
 by_cases A:n=0
 ·subst A;refine⟨w,run_copy_none w 41 41 3 5 (some ⟨i,c,none⟩) a f k _ r underlying41 Dn e.symm,⟨?_,?_⟩,aM.refl _ _,rfl⟩
  ·simpa[dp] using m
  ·simp[dp,g]
 ·rcases I with rfl|⟨b,o,L,t,z,rfl,hF,D,K,E⟩
  ·simp at e;omega
  ·have y:=run_copy_row (P:=aE) w 41 41 3 5 i c f k ⟨b,o,none⟩ x.length r (l.map B).toArray 137 ((x.take n).map B) underlying41 Dn m (by rw[List.length_map,d,e])
    (λj u p=>by
     have q:j<n:=by have:=(List.getElem?_eq_some_iff.1 p).1;rw[List.length_map,d] at this;exact this
     have s:j<x.length:=by rw[e] at q;exact aw q (Nat.min_le_left _ _)
     rw[Addr.add_lit,cell_of_row w b (o+j) L t z D,E j s];rw[List.getElem?_map,List.getElem?_take,if_pos q,List.getElem?_eq_getElem s] at p
     exact p) (by rw[List.length_map,d];simp[g];omega) (jw _)
   simp only[List.length_map,d] at y;refine⟨_,y,⟨?_,?_⟩,aM.setRow (F:=λb=>b=i) (aM.refl _ w) (.inl rfl) _,by simp⟩
   ·have:=m.row ((l.map B).take c++(x.take n).map B++(l.map B).drop (c+n));unfold dp;rw[d];simpa[List.map_append,List.map_take,List.map_drop] using this
   ·rw[j9 _ _ _ (by rw[d,g];exact C),g]
theorem sD(h:dR W i l):
 ∃a,(CP #[41,9] 3 #[.slice (some ⟨i,0,none⟩) 64 64,.string ⟨#[72,78,75,74]⟩]).run aE W=.ok (.int .i64 4) a /\ dR a i (dp l 0 dF) /\ aM (λb=>b=i) W a /\ a.heap.size=W.heap.size:=by
 obtain⟨d,c⟩:=h;have e:=run_storeCells_at aE i 0 137 (dF.map B) 0 (l.map B).toArray W d (by simp[dF,c]) (jw _);simp only[Nat.zero_add,Nat.add_zero] at e;refine⟨W.setRow i ((l.map B).toArray.toList.take 0++dF.map B++(l.map B).toArray.toList.drop (dF.map B).length).toArray,?_,⟨?_,?_⟩,aM.setRow (F:=λb=>b=i) (aM.refl _ W) (.inl rfl) _,by simp⟩
 ·obtain⟨n,hi,j,k,m⟩:=info_parts ku;have g:Nat.min (ByteArray.mk #[72,78,75,74]).size 64=4:=by decide
  have f:[Value.int .u8 72,.int .u8 78,.int .u8 75,.int .u8 74]=dF.map B:=rfl;simp only[CP,Builtin.copy_,Builtin.lenOf,Builtin.firstCells,sizeOf,typeInfo];simp[hi,g];rw[f,e];simp[goInt]
 ·have:=d.row ((l.map B).take 0++dF.map B++(l.map B).drop 4);unfold dp;simpa[List.map_append,List.map_take,List.map_drop,dF] using this
 ·rw[j9 _ _ _ (by simp[dF,c]),c]
def fi:List UInt8:=List.replicate 64 0
theorem gE:fi.length=64:=by simp[fi]
theorem EM:fT ((dp (dp fi 0 dF) 4 (cB n)).take 60)=dw n:=by
 unfold dw
 congr 1
theorem iA(a:Array (Nat×Value)):Instr.build 137 a=BD 137 a:=rfl
attribute [local go_sem ↓] iA
theorem kH:(BD 137 #[]).run aE w=.ok (.agg (fi.map B).toArray) w:=by kernel_rfl
theorem dR.new(w:World)(l:List UInt8)(a:l.length=64):dR (w.alloc (.cells (l.map B).toArray 137)) w.heap.size l:=
 ⟨by simpa using Blk.new w (l.map B).toArray 137,a⟩
theorem fW{a w c:World}(h:Below i a w)(d:aM G w c)(hF:∀b,G b -> i <= b)(e:i <= w.heap.size):Below i a c:=h.trans (d.below hF e)
theorem yd(t:cU w)(l:0<w.heap.size)(g:Nat)(n:g<4294967296):
 Calls aE 87 #[.int .u32 (g:Int)] w λe k=>∃c,e=.returned (.pointer (some ⟨c,0,none⟩)) /\ w.heap.size <= c /\ dR k c (dw g) /\ Kpt w k:=by
 have E:=kH w;obtain⟨d,a⟩:=aP (w.alloc (.cells (fi.map B).toArray 137));have y:dR d w.heap.size fi:=by rw[a];exact dR.new _ _ gE
 have f:Kpt w d:=by rw[a];exact aI _ _
 have F:d.heap.size=w.heap.size+1:=by rw[a];simp
 have u:=t.keep (f.block 0 l);obtain⟨C,m,z,h,G⟩:=sD y;have o:=fW f h (λb e=>by rw[e];exact aq _) (by omega);have v:=u.keep (h.block 0 (by omega) (by omega));rw[a] at m;have s:=lc C w.heap.size _ z 4 g (by omega) n
 go_enter func87,ntmps87
 go_wp2_with fail;refine s.mono ?_;rintro e D ⟨rfl,A,i,H⟩;have p:=fW o i (λb e=>by rw[e];exact aq _) (by omega);have x:=v.keep (i.block 0 (by omega) (by omega));go_wp2_with fail;refine(yc D x w.heap.size _ A).mono ?_;rintro e J ⟨rfl,j,r,I⟩;have q:=fW p r (λb e=>by rw[e];exact aq _) (by omega);rw[EM] at j;go_wp2
 go_ret
 exact⟨_,rfl,aq _,j,q⟩
end
section
open Go.Shelf
attribute [local go_sem ↓] mN iA
attribute [local go_sem] opC upC told bE bm bF bp bq bG bH Oper.semAt_some
abbrev uz(x:Nat×Nat):Array Value:=#[.int .i64 (x.1:Int),.pointer (some ⟨x.2,0,none⟩)]
def FD(a g k:Nat)(l:List UInt8)(b:List (Nat×Nat))(x:Nat×Nat)(W:World):Prop:=
 x.1=b.length /\ x.1<takes l.length /\ dR W x.2 (eo g k l x.1) /\ a <= x.2
structure fI(W:World)(F:aQ)(bb gb ob g k:Nat)(v:Value)(l:List UInt8):Prop where
 bcell:W.cell? ⟨bb,0,none⟩=some v
 gcell:W.cell? ⟨gb,0,none⟩=some (.int .u32 (g:Int))
 ocell:W.cell? ⟨ob,0,none⟩=some (.int .u32 (k:Int))
 bytes:aO F W v l
 quarter:cU W
theorem mO{a:Addr}(h:W.cell? a=some u):a.block<W.heap.size:=World.block_lt_of_cell? W a h
theorem fI.only{W j:World}{F G:aQ}{c d e g k:Nat}{v:Value}{l:List UInt8}(h:fI W F c d e g k v l)(i:aM G W j)(f:∀b,b=c \/ b=d \/ b=e \/ b=0 \/ F b -> ¬G b):fI j F c d e g k v l:=by
 obtain⟨m,n,o,p,q⟩:=h;have s:=mO m;have t:=mO n;have u:=mO o;refine⟨?_,?_,?_,p.only i λb r=>f b (.inr (.inr (.inr (.inr r)))),q.keep (i.block 0 (by omega) (f 0 (.inr (.inr (.inr (.inl rfl))))))⟩
 ·rw[World.cell?_of_block (w:=W) (a:=⟨c,0,none⟩) (i.block c s (f c (.inl rfl)))];exact m
 ·rw[World.cell?_of_block (w:=W) (a:=⟨d,0,none⟩) (i.block d t (f d (.inr (.inl rfl))))];exact n
 ·rw[World.cell?_of_block (w:=W) (a:=⟨e,0,none⟩) (i.block e u (f e (.inr (.inr (.inl rfl)))))];exact o
structure jg(n0:Nat)(F:aQ)(A C:World):Prop where
 size:A.heap.size <= C.heap.size
 block:∀k,k<n0 -> ¬F k -> C.heap[k]?=A.heap[k]?
theorem jg.trans{a:Nat}{F:aQ}{A C D:World}(h:jg a F A C)(k:jg a F C D):jg a F A D:=⟨au h.size k.size,λb c d=>(k.block b c d).trans (h.block b c d)⟩
theorem jg.put(o:Obj)(b:i <= n):jg i G w (w.putObj n o):=⟨by simp,λk a _=>World.putObj_heap_other (by omega)⟩
theorem jg.of_only(h:aM G W w')(c:i <= W.heap.size):jg i G W w':=⟨h.size,λk b a=>h.block k (by omega) a⟩
theorem fI.keepsB{F G:aQ}{c d e g k:Nat}(h:fI W F c d e g k u l)(r:jg i G W w')(j:∀b,b=c \/ b=d \/ b=e \/ b=0 \/ F b -> b<i /\ ¬G b):fI w' F c d e g k u l:=by
 obtain⟨m,n,o,p,q⟩:=h;have hh:∀b,b=c \/ b=d \/ b=e \/ b=0 \/ F b -> w'.heap[b]?=W.heap[b]?:=λb f=>r.block b (j b f).1 (j b f).2
 refine⟨?_,?_,?_,p.keep λb f _=>hh b (.inr (.inr (.inr (.inr f)))),q.keep (hh 0 (.inr (.inr (.inr (.inl rfl)))))⟩
 ·rw[World.cell?_of_block (w:=W) (a:=⟨c,0,none⟩) (hh c (.inl rfl))];exact m
 ·rw[World.cell?_of_block (w:=W) (a:=⟨d,0,none⟩) (hh d (.inr (.inl rfl)))];exact n
 ·rw[World.cell?_of_block (w:=W) (a:=⟨e,0,none⟩) (hh e (.inr (.inr (.inl rfl))))];exact o
theorem fI.later{W W':World}{a b c g k:Nat}(h:fI W G a b c g k u l)(d:Kpt W W'):fI W' G a b c g k u l:=
 h.only (aM.of_below (F:=none_) d) (λ_ _ h=>h)
theorem p5(h:Kpt W w'):W.grownBy w' none:=⟨h.os,h.tape,h.output,h.size,λk a _=>h.block k a⟩
theorem ro{p q x:List UInt8}{a:Nat}(b:a=p.length)(n:Nat)(c:x.length=n)(y:List UInt8)(d:y.length=n):dp (p++x++q) a y=p++y++q:=by
 subst b;subst c;unfold dp;rw[d,show p.length+x.length=(p++x).length from by simp,List.drop_left,aB p x q,List.take_left]
theorem Do(l:List UInt8)(i:Nat):fT ((dp (dp (dp (dp fi 0 (cB n)) 4 (cB k)) 8 (cB (l.length-48*i))) 12 ((l.drop (48*i)).take (Nat.min (l.drop (48*i)).length 48))).take 60)=eo n k l i:=by
 unfold eo
 congr 1
 have s:fi = []++cB 0++(cB 0++cB 0++List.replicate 48 0++cB 0):=by decide
 have d:dp fi 0 (cB n)=cB n++cB 0++(cB 0++List.replicate 48 0++cB 0):=by
  rw[s];have:=ro (p:=[]) (x:=cB 0) (q:=cB 0++cB 0++List.replicate 48 0++cB 0) (a:=0) rfl 4 rfl (cB n) rfl;rw[this];simp
 have e:dp (dp fi 0 (cB n)) 4 (cB k)=cB n++cB k++cB 0++(List.replicate 48 0++cB 0):=by
  rw[d];have:=ro (p:=cB n) (x:=cB 0) (q:=cB 0++List.replicate 48 0++cB 0) (a:=4) rfl 4 rfl (cB k) rfl;rw[this];simp
 have f:dp (dp (dp fi 0 (cB n)) 4 (cB k)) 8 (cB (l.length-48*i))=cB n++cB k++cB (l.length-48*i)++List.replicate 48 0++cB 0:=by
  rw[e];have:=ro (p:=cB n++cB k) (x:=cB 0) (q:=List.replicate 48 0++cB 0) (a:=8) rfl 4 rfl (cB (l.length-48*i)) rfl;rw[this];simp
 rw[f];generalize t:l.drop (48*i)=b
 have o:b.take (Nat.min b.length 48)=b.take 48:=by
  rw[List.take_eq_take_iff];have:Nat.min b.length 48=min b.length 48:=rfl;omega
 rw[o];have j:(cB n++cB k++cB (l.length-48*i)).length=12:=rfl;have r:(b.take 48).length=min 48 b.length:=List.length_take
 have m:List.replicate 48 (0:UInt8)=List.replicate (b.take 48).length 0++List.replicate (48-b.length) 0:=by
  rw[List.replicate_append_replicate]
  congr 1
  omega
 rw[m];have c:=ro (p:=cB n++cB k++cB (l.length-48*i)) (q:=List.replicate (48-b.length) 0++cB 0) (x:=List.replicate (b.take 48).length 0) (a:=12) j.symm _ (by simp) (b.take 48) rfl;simp only[aB] at c⊢;rw[c]
 have h:(cB n++(cB k++(cB (l.length-48*i)++(b.take 48++List.replicate (48-b.length) 0)))).length=60:=by
  simp only[aA,cn,r,List.length_replicate];omega
 have:cB n++(cB k++(cB (l.length-48*i)++(b.take 48++(List.replicate (48-b.length) 0++cB 0))))=(cB n++(cB k++(cB (l.length-48*i)++(b.take 48++List.replicate (48-b.length) 0))))++cB 0:=by simp
 rw[this,<- h,List.take_left];rfl
theorem aO.drop{F:aQ}{w:World}{a:Option Addr}{c:Nat}{l:List UInt8}(h:aO F w (.slice a l.length c) l)(k:Nat)(n:k <= l.length):
 aO F w (.slice (if c=k then a else a.map λx=>x.add k) (l.length-k) (c-k)) (l.drop k):=by
 obtain⟨r,s,f,u,y,g,p⟩:=h;simp at f;obtain⟨rfl,rfl⟩:=f;refine⟨_,c-k,by rw[List.length_drop],by rw[List.length_drop];omega,by omega,λd=>?_,?_⟩
 ·split at d
  ·have:=g d;omega
  ·rw[Option.map_eq_none_iff] at d;have:=g d;omega
 ·by_cases e:k=l.length
  ·left;rw[e,List.drop_length]
  ·right;rcases p with rfl|⟨b,q,L,t,j,rfl,hF,m,v,o⟩
   ·simp at n e;omega
   ·rw[if_neg (by omega)];refine⟨b,q+k,L,t,j,by simp[Addr.add],hF,m,by rw[List.length_drop];omega,λi hi=>?_⟩;rw[List.length_drop] at hi;have:=o (k+i) (by omega);rw[Nat.add_assoc,this];simp
theorem zP(F G:aQ)(f o p g k:Nat)(v:Value)(l:List UInt8)(h:fI w F f o p g k v l)(hd:∀b,b=f \/ b=o \/ b=p \/ b=0 \/ F b -> b<w.heap.size /\ ¬G b)(hl:l.length <= 65536)(hg:g<4294967296)(hk:k<4294967296):
 Fz aE 197 #[.pointer (some ⟨f,0,none⟩),.pointer (some ⟨o,0,none⟩),.pointer (some ⟨p,0,none⟩)] uz (jg w.heap.size G) (FD w.heap.size g k l) (λxs=>xs.length=takes l.length) (λ_=>True) w:=by
 intro lo J Jx W E hJ aR hY Z;have q:fI W F f o p g k v l:=h.later E;have a1:=E.size;obtain⟨a,u,rfl,hc,hm,-,-⟩:=h.bytes;have aZ:=ld;refine callsIn_of_wp func197 rfl trivial ?_ rfl;simp only[ntmps197,List.size_toArray,aD,List.length_nil,Nat.reduceAdd,Nat.reduceSub,Array.replicate_succ,Array.replicate_zero,List.push_toArray,List.append_toArray,List.nil_append,List.cons_append];have A:=q.bcell;have C:=q.gcell;have Y:=q.ocell
 gi_wp2_with fail
 refine⟨trivial,callsIn_wide.2 ((ld W l.length (by omega)).mono ?_)⟩;rintro e j ⟨rfl,rfl⟩;have a0:=ei l.length;have aY:takes l.length <= 65536:=by unfold takes;omega
 gi_wp2_with fail
 gi_loopw [10] (λi wr=>∃(m:Nat)(d:List (Nat×Nat)),m <= takes l.length /\ i=.int .i64 (m:Int) /\ d.length=m /\ J d wr /\ fI wr F f o p g k (.slice a l.length u) l /\ W.heap.size <= wr.heap.size) (λi _=>takes l.length-(intOf i).toNat)
 ·exact⟨0,[],by omega,rfl,rfl,Z,q,aq _⟩
 ·obtain⟨m,d,aW,rfl,Q,D,c,aX⟩:=hrel
  by_cases P:m<takes l.length
  ·have ao:(m:Int)<(takes l.length:Int):=by omega
   have ab:48*m <= l.length:=by unfold takes at P;omega
   have aS:=kH wr;obtain⟨t,s⟩:=aP (wr.alloc (.cells (fi.map B).toArray 137));have aJ:dR t wr.heap.size fi:=by rw[s];exact dR.new _ _ gE
   have I:Kpt wr t:=by rw[s];exact aI _ _
   have a2:t.heap.size=wr.heap.size+1:=by rw[s];simp
   have aU:=c.later I;have C:=c.gcell;have lg:=mO C;dsimp only at lg
   gi_wp2_with fail
   rw[<- s];refine⟨trivial,callsIn_wide.2 ((lc t wr.heap.size _ aJ 0 g (by omega) hg).mono ?_)⟩;rintro e w2 ⟨rfl,aL,av,a3⟩;have K:=fW I av (λb e=>by rw[e];exact aq _) (by omega);have ai:=c.later K;have Y:=ai.ocell
   gi_wp2_with fail
   refine⟨trivial,callsIn_wide.2 ((lc w2 wr.heap.size _ aL 4 k (by omega) hk).mono ?_)⟩;rintro e w3 ⟨rfl,S,ax,a4⟩;have L:=fW K ax (λb e=>by rw[e];exact aq _) (by omega);have ak:=c.later L;have A:=ak.bcell;have aH:((l.length-48*m:Nat):Int)=(l.length:Int)-48*(m:Int):=by omega
   have R:=lc w3 wr.heap.size _ S 8 (l.length-48*m) (by omega) (by omega);rw[aH] at R;have aO:48*(m:Int) <= (l.length:Int):=by omega
   have aV:(l.length:Int) <= 65536:=by omega
   gi_wp2_with fail
   refine⟨trivial,callsIn_wide.2 ((R).mono ?_)⟩;rintro e n ⟨rfl,T,ay,a5⟩;have N:=fW L ay (λb e=>by rw[e];exact aq _) (by omega);have H:=c.later N
   gi_wp2_with fail
   refine wpIn_wide.2 ?_;have A:∀j,aK n.drew j -> j.cell? ⟨f,0,none⟩=some (.slice a l.length u):=λj hh=>((H.later (W':=n.drew) (Below.refl _ _).drew).later hh).bcell
   have hT:((48:Int)*(m:Int)).toNat=48*m:=by omega
   obtain⟨z,aT,aM,az,V⟩:=o8 (w:=n.drew) ⟨T.1.drew,T.2⟩ 12 48 52 ((H.bytes.keep (w':=n.drew) λb _ _=>rfl).drop (48*m) ab) _ rfl (by have:Nat.min (l.drop (48*m)).length 48 <= 48:=Nat.min_le_right _ _;omega);have O:Kpt wr z:=N.drew.trans (az.below (λb e=>by rw[e];exact aq _) (show wr.heap.size <= n.heap.size by omega));have V:z.heap.size=n.heap.size:=V;generalize ar:Nat.min (l.drop (48*m)).length 48=nn at *;refine dq aK 7 (up 7 [507]) (by kernel_rfl) ?_;apply bC;rfl;intro j hC;go_simp;(repeat (simp(disch:=omega) only[af,aj,ap,ah,am,if_pos];go_simp));exact aF;generalize(if u=48*m then a else a.map λx=>x.add (48*m))=aa at *;refine cG rfl rfl rfl (λKK hK=>?_);go_simp;refine hK _ _ ?_;go_simp;refine cZ ?_;have an:=c.later O
   gi_wp2_with fail
   refine⟨trivial,callsIn_wide.2 ((yc z an.quarter wr.heap.size _ aM).mono ?_)⟩;rintro e w6 ⟨rfl,U,aG,aN⟩;have y:=fW O aG (λb e=>by rw[e];exact aq _) (by omega);rw[<- ar,Do] at U;obtain⟨fn,tmps,assign,body,hy,hR⟩:=hY d (m,wr.heap.size) w6 (hJ _ _ _ none D (p5 y) (λr e=>by cases e)) ⟨Q.symm,P,U,by show w.heap.size <= wr.heap.size;omega⟩;dsimp only[uz] at hy
   gi_wp2_with fail
   refine hR.mono ?_;rintro e X (⟨rfl,ad,M⟩|⟨rfl,ag⟩)
   ·have S:w6.heap.size <= X.heap.size:=M.size;have al:=(c.later y).keepsB M hd;have aN:wr.heap.size <= w6.heap.size:=y.size
    gi_wp2_with fail
    go_roundw
    ·exact⟨m+1,d++[(m,wr.heap.size)],by omega,by go_num,by simp[Q],ad,al,by omega⟩
    ·simp[intOf];omega
   ·gi_wp2_with fail
    refine bodyPost_ret (results_none rfl _ _ _) rfl ?_;exact⟨⟨_,rfl⟩,.inr ⟨_,trivial,ag⟩⟩
  ·have ao:¬(m:Int)<(takes l.length:Int):=by omega
   gi_wp2_with fail
   go_end0
   exact⟨⟨_,rfl⟩,.inl ⟨d,by show d.length=takes l.length;omega,D⟩⟩
end
section
open Go.Shelf
attribute [local go_sem] opC upC told bE bm bF bp bq bG bH Oper.semAt_some
theorem gJ(a b:List (Nat×List UInt8)):bD M (a++b)=if(bD M a).2=0 then bD (bD M a).1 b else bD M a:=by
 induction a generalizing M with
 |nil=>simp[bD]
 |cons x a c=>
  obtain⟨i,s⟩:=x;simp only[List.cons_append,bD];split
  ·exact c _
  ·rfl
theorem eD(a:List (Nat×List UInt8))(i:Nat)(s:List UInt8)(h:(bD M a).2=0):bD M (a++[(i,s)])=(bD M a).1.wr i s:=by
 rw[gJ,if_pos h];generalize(bD M a).1=N;simp only[bD];generalize N.wr i s=r;obtain⟨x,y⟩:=r;simp only;split
 ·rename_i b;rw[b]
 ·rfl
theorem zQ(l:List UInt8)(F:aQ)(i:aO F w v l)(q:cU w)(hF:∀b,F b -> b<w.heap.size)(m:0<w.heap.size):
 Calls aE 148 #[.int .u32 (n:Int),.int .u32 (k:Int),v] w λe d=>e=.returned (.func (.func 197) #[] #[.pointer (some ⟨w.heap.size+2,0,none⟩),.pointer (some ⟨w.heap.size,0,none⟩),.pointer (some ⟨w.heap.size+1,0,none⟩)]) /\
  fI d F (w.heap.size+2) w.heap.size (w.heap.size+1) n k v l /\ Kpt w d /\ d.heap.size=w.heap.size+3:=by
 have c:Kpt w (((w.alloc (.cells #[.int .u32 (n:Int)] 96)).alloc (.cells #[.int .u32 (k:Int)] 96)).alloc (.cells #[v] 41)):=(((Below.refl _ w).alloc (aq _) _).alloc (by simp) _).alloc (by simp;omega) _
 have p:fI (((w.alloc (.cells #[.int .u32 (n:Int)] 96)).alloc (.cells #[.int .u32 (k:Int)] 96)).alloc (.cells #[v] 41)) F (w.heap.size+2) w.heap.size (w.heap.size+1) n k v l:=by
  have j:=Blk.new w #[.int .u32 (n:Int)] 96;have f:=Blk.new (w.alloc (.cells #[.int .u32 (n:Int)] 96)) #[.int .u32 (k:Int)] 96;have h:=Blk.new ((w.alloc (.cells #[.int .u32 (n:Int)] 96)).alloc (.cells #[.int .u32 (k:Int)] 96)) #[v] 41;simp only[World.size_alloc] at f h;refine⟨by simpa using h.cell 0,by simpa using((j.alloc _).alloc _).cell 0,by simpa using(f.alloc _).cell 0,i.keep λb o _=>c.block b (hF b o),q.keep (c.block 0 m)⟩
 obtain⟨a,r,rfl,-⟩:=i
 go_enter func148,ntmps148
 go_wp2
 go_ret
 exact⟨rfl,p,c,by simp⟩
theorem tF(d:aM G W w')(f:∀b,G b -> ∃o:Obj,W.heap[b]?=some o /\ o.isCells=true):KeepsOthers W w':=
 ⟨d.size,λk o a g=>by
  rw[d.block k (Array.getElem?_eq_some_iff.1 a).1 (λhF=>by
   obtain⟨h,e,c⟩:=f k hF;rw[a] at e;cases e;rw[g] at c
   cases c)]
  exact a⟩
theorem Blk.isCells{w:World}{b:Nat}{L:List Value}{t:TypeId}(h:Blk w b L t):∃o:Obj,w.heap[b]?=some o /\ o.isCells=true:=⟨_,h,rfl⟩
theorem bM.isCells{w:World}{K:DK}{M:MD}(h:bM w K M):∀b,K.foot b -> ∃o:Obj,w.heap[b]?=some o /\ o.isCells=true:=by
 obtain⟨i,j,⟨g,l,m,a⟩,⟨L,d,k⟩,e,f⟩:=h;rintro b (rfl|rfl|rfl)
 ·exact a.isCells
 ·exact d.isCells
 ·cases c:M.fault with
  |none=>rw[e c];exact a.isCells
  |some p=>exact(f p.1 p.2 (by rw[c])).2.2.isCells
theorem Blk.grown{a:Option Nat}(h:Blk W i L t)(c:W.grownBy w' a)(d:∀r,a=some r -> ∃o:Obj,W.heap[r]?=some o /\ o.isCells=false):Blk w' i L t:=
 h.keep (grownBy_keeps_cells c d h rfl)
theorem bM.grown{K:DK}{a:Option Nat}(h:bM W K N)(e:W.grownBy w' a)(g:∀r,a=some r -> ∃o:Obj,W.heap[r]?=some o /\ o.isCells=false):bM w' K N:=
 h.keep λb c=>by
  obtain⟨o,f,d⟩:=h.isCells b c;exact grownBy_keeps_cells e g f d
theorem aM.grown{a w f:World}{d:Option Nat}(h:aM G a w)(b:w.grownBy f d)(i:∀r,d=some r -> a.heap.size <= r):aM G a f:=
 ⟨b.os.trans h.os,b.tape.trans h.tape,b.output.trans h.output,au h.size b.size,λk c g=>(b.block k (aw c h.size) (λe=>by have:=i k e.symm;omega)).trans (h.block k c g)⟩
def zR(k:World)(K:DK)(M:MD)(jb h j:Nat)(i:Value)(c g p:Nat)(l:List (Nat×List UInt8))(f:List (Nat×Nat))(W:World):Prop:=
 ∃e a,e.d=K.d /\ (∀b,e.foot b -> K.foot b) /\ bM W e a /\ bD M (l.take f.length)=(a,0) /\ d9 W jb K.d h i j false /\
  Blk W c [.pointer (some ⟨jb,0,none⟩)] 89 /\ Blk W (c+1) [.int .u32 (g:Int)] 96 /\ Blk W (c+2) [.int .i64 (p:Int)] 3 /\ Blk W (c+3) [.int .i64 0] 26 /\
  aM (eu K jb) k W /\ a.S.length=M.S.length /\ a.writes <= M.writes+f.length
def zS(j:World)(K:DK)(M:MD)(jb f i:Nat)(h:Value)(e:Nat)(k:List (Nat×List UInt8))(g:List (Nat×Nat))(W:World):Prop:=
 ∃a c r,a.d=K.d /\ (∀b,a.foot b -> K.foot b) /\ bM W a c /\ bD M (k.take g.length)=(c,r) /\ r≠0 /\ d9 W jb K.d f h i true /\ Blk W (e+3) [.int .i64 r] 26 /\
  aM (λb=>eu K jb b \/ b=e+3) j W
theorem zT{K:DK}{A i B:Nat}{h g p:Nat}{C:List (Nat×List UInt8)}(z:w'.heap.size <= n):OwnFrom n (zR w' K N A i B u h g p C):=by
 rintro D W W' row ⟨d,f,j,m,q,s,t,v,w,x,y,k,l⟩ a c;have b:∀r,row=some r -> ∃o:Obj,W.heap[r]?=some o /\ o.isCells=false:=λr e=>(c r e).2
 exact⟨d,f,j,m,q.grown a b,s,Blk.grown t a b,v.grown a b,w.grown a b,x.grown a b,y.grown a b,k.grown a (λr e=>au z (c r e).1),l⟩
theorem zU{K:DK}{v g w:Nat}{x:List (Nat×List UInt8)}(t:w'.heap.size <= n):OwnFrom n (zS w' K N v g w u i x):=by
 rintro y W W' row ⟨d,f,r,h,j,k,l,m,p,q,s⟩ a c;have b:∀r,row=some r -> ∃o:Obj,W.heap[r]?=some o /\ o.isCells=false:=λr e=>(c r e).2
 exact⟨d,f,r,h,j,k.grown a b,l,m,Blk.grown p a b,q.grown a b,s.grown a (λr e=>au t (c r e).1)⟩
theorem mP(n g k p:Nat)(l:List UInt8):(aX n g k p l).length=takes l.length:=by simp[aX]
theorem AX(n g k p:Nat)(l:List UInt8)(i:Nat)(h:i<takes l.length):(aX n g k p l).take (i+1)=(aX n g k p l).take i++[(dm n g (p+i),eo g k l i)]:=by
 rw[List.take_succ_eq_append_getElem (by rw[mP];exact h)]
 congr 1
 simp[aX]
theorem iT(M b:MD)(r:Int)(a:List (Nat×List UInt8))(t:Nat)(h:bD M (a.take t)=(b,r))(c:r≠0):bD M a=(b,r):=by
 have:=gJ M (a.take t) (a.drop t);rw[List.take_append_drop,h,if_neg c] at this;exact this
theorem uA(c kd u z:Nat)(y:Value)(K:DK)(M:MD)(g k p:Nat)(v:Value)(l:List UInt8)(F:aQ)(hv:aO F w v l)(hF:∀b,F b -> b<w.heap.size /\ ¬eu K c b)(bm:¬eu K c 0)(hj:d9 w c kd u y z false)(hd:bM w K M)(O:K.d=kd)(bs:¬K.foot c)(hq:cU w)
 (hg:g<4294967296) (hk:k<65536) (hl:l.length <= 65536) (h2:2 <= M.S.length) (hp:p+takes l.length <= bw M.S.length) (hw:M.writes+takes l.length<4611686018427387904):
 Calls aE 90 #[.pointer (some ⟨c,0,none⟩),.int .u32 (g:Int),.int .i64 (k:Int),.int .i64 (p:Int),v] w λe j=>
  e=.returned (.int .i64 (bD M (aX M.S.length g k p l)).2) /\ (∃q,q.d=kd /\ (∀b,q.foot b -> K.foot b) /\ bM j q (bD M (aX M.S.length g k p l)).1) /\
  d9 j c kd u y z (!decide ((bD M (aX M.S.length g k p l)).2=0)) /\ aM (eu K c) w j:=by
 subst O;obtain⟨Y,an⟩:=aP (aX M.S.length g k p l);rw[<- an];have a2:=an;have bi:=hv;obtain⟨a,a4,rfl,bG,bF,-,-⟩:=hv;have bJ:=hd.le;have hH:bw M.S.length <= 65536:=by unfold bw;omega
 have bN:=ei l.length;refine(callsIn_wide (n:=2)).1 ?_;refine callsIn_of_wp_marks func90 rfl trivial ?_ rfl;simp only[ntmps90,List.size_toArray,aD,List.length_nil,Nat.reduceAdd,Nat.reduceSub,Array.replicate_succ,Array.replicate_zero,List.push_toArray,List.append_toArray,List.nil_append,List.cons_append];obtain⟨V,al⟩:=aP ((((w.alloc (.cells #[.pointer (some ⟨c,0,none⟩)] 89)).alloc (.cells #[.int .u32 (g:Int)] 96)).alloc (.cells #[.int .i64 (p:Int)] 3)).alloc (.cells #[.int .i64 0] 26));have aU:Kpt w V:=by rw[al];exact((((Below.refl _ w).alloc (aq _) _).alloc (by simp) _).alloc (by simp;omega) _).alloc (by simp;omega) _
 have bC:V.heap.size=w.heap.size+4:=by rw[al];simp
 have bd:=hj.lt;have Q:=hd.lt
 have bo:Blk V w.heap.size [.pointer (some ⟨c,0,none⟩)] 89 /\ Blk V (w.heap.size+1) [.int .u32 (g:Int)] 96 /\ Blk V (w.heap.size+2) [.int .i64 (p:Int)] 3 /\ Blk V (w.heap.size+3) [.int .i64 0] 26:=by
  rw[al];have b1:=Blk.new w #[.pointer (some ⟨c,0,none⟩)] 89;have b2:=Blk.new (w.alloc (.cells #[.pointer (some ⟨c,0,none⟩)] 89)) #[.int .u32 (g:Int)] 96;have b3:=Blk.new ((w.alloc (.cells #[.pointer (some ⟨c,0,none⟩)] 89)).alloc (.cells #[.int .u32 (g:Int)] 96)) #[.int .i64 (p:Int)] 3;have b4:=Blk.new (((w.alloc (.cells #[.pointer (some ⟨c,0,none⟩)] 89)).alloc (.cells #[.int .u32 (g:Int)] 96)).alloc (.cells #[.int .i64 (p:Int)] 3)) #[.int .i64 0] 26;simp only[World.size_alloc] at b2 b3 b4;exact⟨((b1.alloc _).alloc _).alloc _,(b2.alloc _).alloc _,b3.alloc _,b4⟩
 gi_wp2_with fail
 rw[<- al];have bE:=ae al;refine⟨trivial,callsIn_wide.2 ((zQ V g k _ l F (bi.keep λb f _=>aU.block b (hF b f).1) (hq.keep (aU.block 0 (by omega))) (λb f=>by have:=(hF b f).1;omega) (by omega)).mono ?_)⟩;rintro e G ⟨rfl,a9,ag,bP⟩;have ar:=aU.trans (ag.mono (by omega));have bp:bM G K M:=hd.keep λb f=>ar.block b (Q b f)
 have br:d9 G c K.d u y z false:=hj.keep (ar.block c bd);obtain⟨x1,x2,x3,x4⟩:=bo;have y1:=x1.keep (ag.block _ (by omega));have y2:=x2.keep (ag.block _ (by omega));have y3:=x3.keep (ag.block _ (by omega));have y4:=x4.keep (ag.block _ (by omega))
 have ao:∀b,eu K c b -> b<w.heap.size:=λb f=>by
  rcases f with f|rfl
  ·exact Q b f
  ·exact bd
 clear x1 x2 x3 x4 bi;rw[bC] at a9
 gi_wp2_with fail
 refine qu (n:=0) rfl (enters_of func197 (by kernel_rfl) rfl)
  (zP G F (eu K c) _ _ _ g k _ l a9 (λb f=>by
   rcases f with rfl|rfl|rfl|rfl|f
   ·exact⟨by omega,λh=>by have:=ao _ h;omega⟩
   ·exact⟨by omega,λh=>by have:=ao _ h;omega⟩
   ·exact⟨by omega,λh=>by have:=ao _ h;omega⟩
   ·exact⟨by omega,bm⟩
   ·exact⟨by have:=(hF b f).1;omega,(hF b f).2⟩) hl hg (by omega))
  (λ_=>rfl) (λs x W lo o o' bc ho hc hG=>⟨hG.1,hG.2.1,⟨hG.2.2.1.1.keep (World.putObj_heap_other (λe=>by
   have J:W.heap[x.2]?=some (.cells ((eo g k l x.1).map B).toArray 137 (0,0)):=hG.2.2.1.1;rw[e,ho] at J;cases J
   cases hc)),hG.2.2.1.2⟩,hG.2.2.2⟩)
  (λ{A Bw C} J h2=>J.trans h2) (λW lo o o' bc ho hc=>jg.put W lo o' bc)
  (zR G K M c u z y w.heap.size g p Y) (zS G K M c u z y w.heap.size Y) (zT _ (aq _)) (zU _ (aq _))
  ⟨K,M,rfl,λ_ h=>h,bp,rfl,br,y1,y2,y3,y4,aM.refl _ _,rfl,by omega⟩
  (λx=>{ tmps:=#[.pointer (some ⟨c,0,none⟩),.int .u32 (g:Int),.int .i64 (k:Int),.int .i64 (p:Int),.slice a l.length a4,.pointer (some ⟨w.heap.size,0,none⟩),.pointer (some ⟨w.heap.size+1,0,none⟩),undef,.pointer (some ⟨w.heap.size+1+1,0,none⟩),undef,.pointer (some ⟨w.heap.size+1+1+1,0,none⟩),.int .i64 (x.1:Int),.pointer (some ⟨x.2,0,none⟩),undef,.int .u32 (g:Int),.int .i64 (k:Int),.int .u32 (k:Int),.slice a l.length a4,
   .func (.func 197) #[] #[.pointer (some ⟨w.heap.size+4+2,0,none⟩),.pointer (some ⟨w.heap.size+4,0,none⟩),.pointer (some ⟨w.heap.size+4+1,0,none⟩)],.int .i64 (x.1:Int),.pointer (some ⟨x.2,0,none⟩),undef,undef,undef,undef,undef,undef,undef,undef,undef,undef,undef,undef],defers:=[] }) ?assign ?body ?done ?stop
 case assign=>
  intro lo x W Kx bn
  gi_wp2
  exact bn
 case body=>
  rintro lo s ⟨m,sb⟩ W ⟨q,E,aa,t,H,U,I,Z,z2,z3,z4,N,aV,bB⟩ ⟨hm,be,a0,bv⟩;dsimp only at hm be a0 bv;subst hm
  have bu:dm M.S.length g (p+s.length)<E.S.length:=by
   rw[aV];unfold dm bw at *;rcases(show g%2=0 \/ g%2=1 by omega) with h|h<;>rw[h]<;>omega
  have L:∀b,eu q c b -> b<w.heap.size:=λb f=>ao b (f.imp (t b) id)
  have bx:¬eu q c sb:=λh=>by have:=L sb h;omega
  have q5:∀j,bI (eu q c) W.drew j -> j.cell? ⟨w.heap.size,0,none⟩=some (.pointer (some ⟨c,0,none⟩)):=λj hh=>by simpa using(Z.keep (w':=j) (hh.block _ Z.lt (λh=>by have:=L _ h;omega))).cell 0
  have q6:∀j,bI (eu q c) W.drew j -> j.cell? ⟨w.heap.size+1,0,none⟩=some (.int .u32 (g:Int)):=λj hh=>by simpa using(z2.keep (w':=j) (hh.block _ z2.lt (λh=>by have:=L _ h;omega))).cell 0
  have q8:∀j,bI (eu q c) W.drew j -> j.cell? ⟨w.heap.size+2,0,none⟩=some (.int .i64 (p:Int)):=λj hh=>by simpa using(z3.keep (w':=j) (hh.block _ z3.lt (λh=>by have:=L _ h;omega))).cell 0
  have av:=p4 W.drew c K.d u y z false q E I.drew (H.keep (w':=W.drew) λ_ _=>rfl) aa (by omega) g (p+s.length) (by omega);have bj:=sC W.drew c K.d u y z false q E I.drew (H.keep (w':=W.drew) λ_ _=>rfl) aa (λh=>bs (t _ h)) (dm M.S.length g (p+s.length)) bu (by omega) sb _ ⟨a0.1.drew,a0.2⟩ (λh=>bx (.inl h));rw[aV] at av;have ay:=eD M (Y.take s.length) (dm M.S.length g (p+s.length)) (eo g k l s.length) (by rw[U]);rw[U] at ay;have an:=a2;have a1:=AX M.S.length g k p l s.length be;rw[<- an] at a1;rw[<- a1] at ay;generalize dm M.S.length g (p+s.length)=a3 at *;have bh:((p+s.length:Nat):Int)=(p:Int)+(s.length:Int):=by omega
  rw[bh] at av;have bO:=af ((p:Int)+(s.length:Int)) (by omega);have⟨aI,aK,aJ⟩:=ae3 av bj ay;clear av bj ay a1 an U bh
  gi_wp2_with fail
  refine qW (bI (eu q c)) [(0,true),(1,true),(2,true),(3,true),(4,true),(5,true),(7,true),(6,false),(8,false),(9,true)] (by kernel_rfl) (by kernel_rfl) (by kernel_rfl) (eC _) (fy _) ?_;apply aG;rfl;intro j hC;go_simp;exact aF;refine aY rfl rfl (λKK O=>?_);go_simp;refine aI.x.mono ?_;rintro e j ⟨rfl,rfl⟩;refine⟨_,rfl,eC _ _,O _ _ ?_⟩;clear O KK;go_simp;apply aG;rfl;intro j hC;go_simp;exact aF;refine aY rfl rfl (λKK O=>?_);go_simp;refine aK.x.mono ?_;rintro e X ⟨rfl,⟨K3,a7,aL,ai⟩,ak,ab,bL⟩;refine⟨_,rfl,ab,O _ _ ?_⟩;clear O KK q5 q6 q8;go_simp;apply aG;rfl;intro j hC;go_simp;exact aF;refine aW ?_
  have R:aM (eu q c) W X:=⟨ab.os,ab.tape,ab.output,ab.size,ab.block⟩
  have ax:=aJ.x;have bA:=nZ E a3 (eo g k l s.length);generalize bf:E.wr a3 (eo g k l s.length)=mw at *;obtain⟨M3,r⟩:=mw;dsimp only at ai ak bA;dsimp only
  have bb:KeepsOthers W X:=tF R (λb f=>by
   rcases f with f|rfl
   ·exact H.isCells b f
   ·exact Blk.isCells I)
  have u1:=Z.keep (R.block _ Z.lt (λh=>by have:=L _ h;omega));have u2:=z2.keep (R.block _ z2.lt (λh=>by have:=L _ h;omega));have u3:=z3.keep (R.block _ z3.lt (λh=>by have:=L _ h;omega));have u4:=z4.keep (R.block _ z4.lt (λh=>by have:=L _ h;omega));have bg:aM (eu K c) G X:=N.trans R (λi hi=>.inl (hi.imp (t i) id));have bz:G.heap.size <= W.heap.size:=N.size
  by_cases T:r=0
  ·subst T
   have a6:zR G K M c u z y w.heap.size g p Y (s++[(s.length,sb)]) X:=⟨K3,M3,a7,λb f=>t b (aL b f),ai,by simpa using ax,by simpa using ak,u1,u2,u3,u4,bg,by omega,by simp;omega⟩
   have bl:=ae a6;clear a6 ax ak ai u1 u2 u3 u4 Z z2 z3 z4 bf aJ aK aI H I N
   gi_wp2_with fail
   exact⟨bb,jg.of_only (R.mono λb f=>f.imp (t b) id) bz,bl.x⟩
  ·have bK:(r != 0)=true:=bne_iff_ne.2 T;have c4:=u4.cell 0;have f4:=u4.free 0;simp at c4;have u5:=u4.set 0 (.int .i64 r)
   have ba:d9 (X.setCell ⟨w.heap.size+3,0,none⟩ (.int .i64 r)) c K.d u y z true:=by
    have:=Blk.set_other ak (a:=⟨w.heap.size+3,0,none⟩) (.int .i64 r) (show c≠w.heap.size+3 by omega);simpa[T,d9] using this
   have a8:bM (X.setCell ⟨w.heap.size+3,0,none⟩ (.int .i64 r)) K3 M3:=ai.keep λb f=>Below.heap_setCell _ ⟨w.heap.size+3,0,none⟩ _ b (by have:=Q b (t b (aL b f));show b≠w.heap.size+3;omega)
   have a5:zS G K M c u z y w.heap.size Y (s++[(s.length,sb)]) (X.setCell ⟨w.heap.size+3,0,none⟩ (.int .i64 r)):=⟨K3,M3,r,a7,λb f=>t b (aL b f),a8,by simpa using ax,T,ba,by simpa using u5,(bg.mono λb f=>.inl f).setCell (.inl (.inr rfl)) _⟩
   have bk:=ae a5;clear a5 ax ak ai ba a8 u1 u2 u3 u5 Z z2 z3 z4 bf aJ aK aI H I N
   gi_wp2_with fail
   exact⟨bb.trans (KeepsOthers.setCell _ _ _),bk.x⟩
 case done=>
  rintro D xs W hD hS ⟨q,E,aa,t,H,U,I,Z,z2,z3,z4,N,aV,bB⟩ aS
  have aN:bD M Y=(E,0):=by
   rw[<- U,List.take_of_length_le (by rw[a2,mP];omega)]
  have c4:=z4.cell 0;have f4:=z4.free 0;simp at c4;have bH:=Q;have v4:=z4.set 0 (.int .i64 0);have bq:(W.setCell ⟨w.heap.size+3,0,none⟩ (.int .i64 0)).heap[D]?=some (.deferred (some [])):=by rw[Below.heap_setCell _ ⟨w.heap.size+3,0,none⟩ _ D (by show D≠w.heap.size+3;omega)];exact aS
  have ad:∀b,b<G.heap.size -> b≠w.heap.size+3 -> ((W.setCell ⟨w.heap.size+3,0,none⟩ (.int .i64 0)).putObj D (.deferred none)).heap[b]?=W.heap[b]?:=λb f bt=>by
   rw[World.putObj_heap_other (by omega),Below.heap_setCell _ ⟨w.heap.size+3,0,none⟩ _ b bt]
  have aR:bM ((W.setCell ⟨w.heap.size+3,0,none⟩ (.int .i64 0)).putObj D (.deferred none)) q E:=H.keep λb f=>ad b (by have:=Q b (t b f);omega) (by have:=Q b (t b f);omega)
  have aT:d9 ((W.setCell ⟨w.heap.size+3,0,none⟩ (.int .i64 0)).putObj D (.deferred none)) c K.d u y z false:=I.keep (ad c (by omega) (by omega))
  have aZ:aM (eu K c) w ((W.setCell ⟨w.heap.size+3,0,none⟩ (.int .i64 0)).putObj D (.deferred none)):=by
   have J:aM (eu K c) w W:=(aM.of_below ar).trans N (λi hi=>.inl hi);have h2:=J.setCell (p:=⟨w.heap.size+3,0,none⟩) (.inr (by show w.heap.size <= w.heap.size+3;omega)) (.int .i64 0);exact h2.grown (grownBy_putObj' _ D (.deferred none)) (λr e=>by cases e;omega)
  have P:((W.setCell ⟨w.heap.size+3,0,none⟩ (.int .i64 0)).putObj D (.deferred none)).cell? ⟨w.heap.size+3,0,none⟩=some (.int .i64 0):=by
   have:=v4.keep (w':=(W.setCell ⟨w.heap.size+3,0,none⟩ (.int .i64 0)).putObj D (.deferred none)) (World.putObj_heap_other (by omega));simpa using this.cell 0
  have HF:=aR;have HJ:=aT;have HO:=aZ;have az:=aN;have HC:=P;have aH:=bq
  gi_wp2_with fail
  refine⟨by simp,.inl ⟨_,_,rfl,run_takeDeferred aH,?_⟩⟩;have P:=HC;refine⟨.int .i64 0,?_,?_⟩
  ·simp[results,Tryz.f90,go_sem,P]
  ·rw[az];exact⟨rfl,⟨q,aa,t,HF⟩,HJ,HO⟩
 case stop=>
  rintro D s W hD-⟨q,E,r,aa,t,H,U,T,I,z4,N⟩ aS;have aN:=iT M E r Y _ U T;have ad:∀b,b<G.heap.size -> (W.putObj D (.deferred none)).heap[b]?=W.heap[b]?:=λb f=>World.putObj_heap_other (by omega)
  have aR:bM (W.putObj D (.deferred none)) q E:=H.keep λb f=>ad b (by have:=Q b (t b f);omega)
  have aT:d9 (W.putObj D (.deferred none)) c K.d u y z true:=I.keep (ad c (by omega))
  have aZ:aM (eu K c) w (W.putObj D (.deferred none)):=by
   have J:aM (eu K c) w W:=(aM.of_below ar).trans N (λi hi=>hi.imp id (λh=>by omega));exact J.grown (grownBy_putObj' _ D (.deferred none)) (λr e=>by cases e;omega)
  have P:(W.putObj D (.deferred none)).cell? ⟨w.heap.size+3,0,none⟩=some (.int .i64 r):=by
   have:=z4.keep (w':=W.putObj D (.deferred none)) (ad _ (by omega));simpa using this.cell 0
  have HF:=aR;have HJ:=aT;have HO:=aZ;have az:=aN;have HC:=P;have aH:=aS
  gi_wp2_with fail
  refine⟨by simp,.inl ⟨_,_,rfl,run_takeDeferred aH,?_⟩⟩;have P:=HC;refine⟨.int .i64 r,?_,?_⟩
  ·simp[results,Tryz.f90,go_sem,P]
  ·rw[az];exact⟨rfl,⟨q,aa,t,HF⟩,by simpa[T] using HJ,HO⟩
end
theorem Dp:(aE.info? 41).map (λi=>(i.zero,i.size,i.bytes))=some (some (.slice none 0 0),1,24):=by kernel_rfl
def bU(R:aQ)(w:World)(d:Nat)(v:Value)(S:List (List UInt8)):Prop:=
 ∃a,w.ownsRow d 41 1 v S.length a /\ (∀i (h:i<S.length),∃x,a[i]?=some x /\ aO R w x S[i]) /\ (∀b,R b -> ∃L c,w.heap[b]?=some (.cells L 5 c))
theorem bU.nil:bU none_ w n (.slice none 0 0) []:=
 ⟨[],World.ownsRow_nil _ _ _ _,λi h=>by simp at h,λb h=>h.elim⟩
theorem bU.shape{S:List (List UInt8)}(h:bU G W i u S):∃a b,u=.slice a S.length b /\ S.length <= b /\ b <= maxLen:=by
 obtain⟨k,f,-⟩:=h;rcases f.2 with⟨rfl,c⟩|⟨g,b,j,rfl,_,_,d,e,_⟩
 ·exact⟨none,0,by rw[c],by omega,by unfold maxLen;omega⟩
 ·exact⟨_,b,rfl,d,e⟩
theorem bU.own{S:List (List UInt8)}(h:bU G W i u S){g:Nat}(a:u.ownBlock=some g):i <= g /\ g<W.heap.size /\ ¬G g:=by
 obtain⟨r,j,-,e⟩:=h;rcases j.2 with⟨rfl,o⟩|⟨d,l,m,rfl,f,c,p,q,_⟩
 ·cases a
 ·simp[Value.ownBlock] at a;subst a;refine⟨f,lt_of_block c,λk=>?_⟩;obtain⟨L,n,b⟩:=e d k;rw[c] at b;simp at b
theorem uB(h:W.ownsRow i t j u o L)(k:∀g,u.ownBlock=some g -> w'.heap[g]?=W.heap[g]?):w'.ownsRow i t j u o L:=by
 obtain⟨d,a⟩:=h;refine⟨d,?_⟩;rcases a with a|⟨g,b,c,rfl,l,f,r⟩
 ·exact .inl a
 ·exact .inr ⟨g,b,c,rfl,l,(k g rfl).trans f,r⟩
theorem bU.keep{R:aQ}{w w':World}{f:Nat}{v:Value}{S:List (List UInt8)}(h:bU R w f v S)(d:∀b,v.ownBlock=some b \/ R b -> b<w.heap.size -> w'.heap[b]?=w.heap[b]?):bU R w' f v S:=by
 have o:=λg c=>(h.own (g:=g) c).2.1
 obtain⟨r,n,p,k⟩:=h;refine⟨r,uB n λg c=>d g (.inl c) (o g c),λi hi=>?_,λb a=>?_⟩
 ·obtain⟨x,q,l⟩:=p i hi;exact⟨x,q,l.keep λb a m=>d b (.inr a) m⟩
 ·obtain⟨L,j,e⟩:=k b a;exact⟨L,j,(d b (.inr a) (lt_of_block e)).trans e⟩
theorem bU.kept{S:List (List UInt8)}(h:bU G W i u S)(a:Kpt W w'):bU G w' i u S:=
 h.keep λb _ c=>a.block b c
theorem bU.only{R F:aQ}{v:Value}{S:List (List UInt8)}(h:bU R W i v S)(e:aM F W w')(c:∀b,v.ownBlock=some b \/ R b -> ¬F b):bU R w' i v S:=
 h.keep λb a d=>e.block b d (c b a)
theorem bU.append{R p:aQ}{v x:Value}{S:List (List UInt8)}(h:bU R W o v S)(F:aO p W x l)(D:∀b,p b -> ∃L f,W.heap[b]?=some (.cells L 5 f))
 (ab:S.length<1000000000) (ad:o <= W.heap.size):
 ∃a d n,(AP #[64,64] 64 #[v,.slice (some ⟨W.heap.size,0,none⟩) 1 1]).run aE (W.alloc (.cells #[x] 41))=.ok (.slice a (S.length+1) d) n /\
  bU (λb=>R b \/ p b) n o (.slice a (S.length+1) d) (S++[l]) /\ (W.alloc (.cells #[x] 41)).grownBy n v.ownBlock:=by
 obtain⟨Y,hi,U,V,X⟩:=info_parts Dp;have ag:=λg k=>h.own (g:=g) k
 obtain⟨z,t,O,C⟩:=h;have Q:x.oneCell'=true:=by obtain⟨a,d,rfl,-⟩:=F;rfl
 obtain⟨Z,n,M,A,B,h3⟩:=run_append_own (P:=aE) (W.alloc (.cells #[x] 41)) o 64 64 41 Y _ 1 24 underlying64 hi U V X rfl (by decide) v S.length z (t.alloc _)
  ⟨W.heap.size,0,none⟩ 1 1 [x] (by simp) (λj u I=>by
   have K:=Blk.new W #[x] 41;rw[Addr.add_lit,K.cell]
   simpa using I) (by simpa using Q) (by unfold maxLen;omega) (by omega) (by simp;omega)
 have N:∃a d,Z=.slice a (S.length+1) d:=by
  rcases A.2 with⟨_,h0⟩|⟨g,d,G,rfl,_⟩
  ·omega
  ·exact⟨_,d,rfl⟩
 obtain⟨a,d,rfl⟩:=N
 have r:∀b,b<W.heap.size -> (∀g,v.ownBlock=some g -> b≠g) -> n.heap[b]?=W.heap[b]?:=λb c k=>by
  rw[B.block b (by simp;omega) (λe=>k b e.symm rfl),Below.heap_alloc _ _ _ c]
 have s:∀b,(∃L f,W.heap[b]?=some (.cells L 5 f)) -> ∀g,v.ownBlock=some g -> b≠g:=by
  rintro b ⟨L,f,m⟩ g k rfl;rcases t.2 with⟨rfl,_⟩|⟨g',aa,G,rfl,_,c,_⟩
  ·cases k
  ·simp[Value.ownBlock] at k;subst k;rw[c] at m;simp at m
 refine⟨a,d,n,M,⟨z++[x],by simpa using A,λi hi=>?_,λb c=>?_⟩,B⟩
 ·have J:z.length=S.length:=by simpa using t.1
  by_cases E:i<S.length
  ·obtain⟨y,T,H⟩:=O i E;refine⟨y,by rw[List.getElem?_append_left (by omega)];exact T,?_⟩;rw[List.getElem_append_left E];exact(H.keep λb c q=>r b q (s b (C b c))).mono λb c=>.inl c
  ·simp at hi;obtain rfl:i=S.length:=by omega
   refine⟨x,by rw[List.getElem?_append_right (by omega),J];simp,?_⟩;simp only[List.getElem_concat_length];exact(F.keep λb c q=>r b q (s b (D b c))).mono λb c=>.inr c
 ·have:∃L f,W.heap[b]?=some (.cells L 5 f):=c.elim (C b) (D b)
  obtain⟨L,f,m⟩:=this;exact⟨L,f,(r b (lt_of_block m) (s b ⟨L,f,m⟩)).trans m⟩
theorem bU.appended{v x:Value}{S:List (List UInt8)}(h:bU G W i v S)(B:x.oneCell'=true)(E:S.length<1000000000){q:Value}
 (a:(AP #[64,64] 64 #[v,.slice (some ⟨W.heap.size,0,none⟩) 1 1]).run aE (W.alloc (.cells #[x] 41))=.ok q w'):∀b,q.ownBlock=some b -> v.ownBlock=some b \/ W.heap.size <= b:=by
 obtain⟨m,hi,o,e,p⟩:=info_parts Dp;obtain⟨r,l,-,-⟩:=h
 have k:∀j u,[x][j]?=some u -> (W.alloc (.cells #[x] 41)).cell? ((⟨W.heap.size,0,none⟩:Addr).add j)=some u:=λj u t=>by
  have y:=Blk.new W #[x] 41;rw[Addr.add_lit,y.cell];simpa using t
 rcases l.2 with⟨rfl,C⟩|⟨g,f,n,rfl,F,c,D,H,A,I⟩
 ·have d:=run_append_nil (P:=aE) (W.alloc (.cells #[x] 41)) 64 64 41 m _ underlying64 hi o ⟨W.heap.size,0,none⟩ 1 1 [x] (by rw[e];rfl) k (by omega) (by omega) (by rw[p];omega);change _=_ at a;unfold AP at a;rw[d] at a;simp only[Result.ok.injEq] at a;obtain⟨rfl,-⟩:=a;intro b c;simp[Value.ownBlock] at c;right;omega
 ·have s:(W.alloc (.cells #[x] 41)).heap[g]?=some (.cells n 41 (0,0)):=(Below.heap_alloc _ _ _ (lt_of_block c)).trans c
  by_cases z:S.length+1 <= f
  ·have d:=run_append_room (P:=aE) (W.alloc (.cells #[x] 41)) 64 64 41 m underlying64 hi g S.length f n s ⟨W.heap.size,0,none⟩ 1 1 [x] (by rw[e];rfl) k (by simpa using B) z (by rw[e,A];simp;omega);unfold AP at a;rw[d] at a;simp only[Result.ok.injEq] at a;obtain⟨rfl,-⟩:=a;intro b c;left;exact c
  ·have holds:∀j u,r[j]?=some u -> (W.alloc (.cells #[x] 41)).cell? ((⟨g,0,none⟩:Addr).add j)=some u:=(l.alloc _).cells (g:=g) rfl
   have d:=run_append_grow (P:=aE) (W.alloc (.cells #[x] 41)) 64 64 41 m _ underlying64 hi o ⟨g,0,none⟩ S.length f r (by rw[e];exact l.1) holds ⟨W.heap.size,0,none⟩ 1 1 [x] (by rw[e];rfl) k (by omega) (by omega) (by rw[p];exact growslice_fits (by omega) (by omega));unfold AP at a;rw[d] at a;simp only[Result.ok.injEq] at a;obtain⟨rfl,-⟩:=a;intro b c;simp[Value.ownBlock] at c;right;omega
section
attribute [local go_sem ↓] aU
attribute [local go_sem] opC upC told bE bm bF bp bq bG bH
theorem lH(h:W.ownsRow j 5 1 u l.length (l.map B)):aO (λb=>j <= b /\ b<W.heap.size /\ ∃L f,W.heap[b]?=some (.cells L 5 f)) W u l:=by
 rcases h.2 with⟨rfl,d⟩|⟨g,e,c,rfl,k,a,m,n,p,o⟩
 ·exact⟨none,0,by rw[d],by omega,by unfold maxLen;omega,λ_=>rfl,.inl (List.length_eq_zero_iff.1 d)⟩
 ·refine⟨_,e,rfl,m,n,nofun,.inr ⟨g,0,c,5,(0,0),rfl,⟨k,lt_of_block a,_,_,a⟩,a,by omega,λi hi=>?_⟩⟩;have:(c.toList.take (l.length*1))[i]?=(l.map B)[i]?:=by rw[o]
  rw[List.getElem?_take,if_pos (by omega)] at this;simpa[List.getElem?_eq_getElem hi] using this
structure JK where
 j:Nat
 K:DK
 O:aQ
def JK.all(k:JK):aQ:=λb=>b=k.j \/ k.K.foot b \/ k.O b
structure JAt(w:World)(k:JK)(M:MD)(J:MJ):Prop where
 disk:bM w k.K M
 recs:∃ra rc R,d9 w k.j k.K.d J.g (.slice ra J.L.length rc) (bj J.L) J.dead /\ bU R w 0 (.slice ra J.L.length rc) J.L /\ (∀b,(Value.slice ra J.L.length rc).ownBlock=some b \/ R b -> k.O b)
 apart:¬k.K.foot k.j /\ (∀b,k.O b -> b≠k.j /\ ¬k.K.foot b /\ b<w.heap.size)
 size8:8 <= M.S.length
 room:bj J.L <= bw M.S.length
 gen:J.g<4294967296
 lens:∀b∈J.L,b.length <= 65536
theorem JAt.keep{w w':World}{k:JK}{M:MD}{J:MJ}(h:JAt w k M J)(d:∀b,k.all b -> w'.heap[b]?=w.heap[b]?)(o:w.heap.size <= w'.heap.size):JAt w' k M J:=by
 obtain⟨f,⟨p,q,R,g,i,e⟩,c,j,l,m,n⟩:=h;exact⟨f.keep λb a=>d b (.inr (.inl a)),⟨p,q,R,Blk.keep g (d _ (.inl rfl)),i.keep λb a _=>d b (.inr (.inr (e b a))),e⟩,⟨c.1,λb a=>⟨(c.2 b a).1,(c.2 b a).2.1,aw (c.2 b a).2.2 o⟩⟩,j,l,m,n⟩
theorem JAt.lt{w:World}{k:JK}{M:MD}{J:MJ}(h:JAt w k M J):∀b,k.all b -> b<w.heap.size:=by
 rintro b (rfl|a|a)
 ·obtain⟨d,e,R,c,_⟩:=h.recs;exact Blk.lt c
 ·exact h.disk.lt b a
 ·exact(h.apart.2 b a).2.2
theorem JAt.kept{k:JK}{J:MJ}(h:JAt W k N J)(a:Kpt W w'):JAt w' k N J:=h.keep (λb c=>a.block b (h.lt b c)) a.size
theorem JAt.only{k:JK}{J:MJ}{F:aQ}(h:JAt W k N J)(c:aM F W w')(d:∀b,k.all b -> ¬F b):JAt w' k N J:=h.keep (λb a=>c.block b (h.lt b a) (d b a)) c.size
theorem eW(L:List (List UInt8))(b:List UInt8):bj (L++[b])=bj L+takes b.length:=by simp[bj]
theorem eU(L:List (List UInt8)):L.length <= bj L:=by
 induction L with
 |nil=>simp
 |cons x L a=>
  have:=ei x.length;simp only[bj,List.map_cons,List.sum_cons,aD] at *;omega
theorem vK(c E g k:Nat)(G:Value)(C:Bool)(R:aQ)(L:List (List UInt8))(O:d9 w c E g G k C)(Q:bU R w 0 G L)(Y:∀b,G.ownBlock=some b \/ R b -> b≠c /\ b<w.heap.size)(F:aQ)(v:Value)(l:List UInt8)(hv:aO F w v l)(hl:l.length <= 65536)(hL:L.length <= 65536)(ht:k <= 65536):
 Calls aE 91 #[.pointer (some ⟨c,0,none⟩),v] w λe f=>e=.returned (.tuple #[]) /\ ∃y z T,d9 f c E g (.slice y (L.length+1) z) (k+takes l.length) C /\ bU T f 0 (.slice y (L.length+1) z) (L++[l]) /\
  aM (λb=>b=c \/ G.ownBlock=some b) w f /\ (∀b,(Value.slice y (L.length+1) z).ownBlock=some b \/ T b -> ((G.ownBlock=some b \/ R b) \/ w.heap.size <= b) /\ b<f.heap.size):=by
 have P:∀b,G.ownBlock=some b \/ R b -> b≠c:=λb h=>(Y b h).1
 have W:=O.lt;have aU:=ei l.length;have aT:takes l.length <= 65536:=by unfold takes;omega
 obtain⟨va,vc,rfl,aV,aW,-,-⟩:=id hv;obtain⟨i,j,rfl,-,-⟩:=Q.shape
 have aS:∀f,bI (λb=>w.heap.size <= b \/ (Value.slice i L.length j).ownBlock=some b) w.drew f -> f.cell? ⟨c,2,none⟩=some (.slice i L.length j):=λf hh=>by
  simpa using(Blk.keep O (w':=f) (hh.block c W (λh=>h.elim (λh=>by omega) (λh=>P c (.inl h) rfl)))).cell 2
 go_enter func91,ntmps91
 go_wp2_with fail;refine dq (bI (λb=>w.heap.size <= b \/ (Value.slice i L.length j).ownBlock=some b)) 11 (up 6 [506,507,508,9,10,511]) (by kernel_rfl) ?_;apply bC;rfl;intro f N;go_simp;exact aF;refine cD rfl rfl (λH o=>?_);go_simp;refine(mC w.drew F _ l (hv.keep (w':=w.drew) λb _ _=>rfl) (by omega)).mono ?_;rintro e s ⟨r,rfl,S,U⟩;have J:Kpt w s:=(Below.refl _ _).drew.trans U;have S:s.ownsRow w.heap.size 5 1 r l.length (l.map B):=S;refine⟨_,rfl,bI.of_below U,o _ _ ?_⟩;have V:=lH S
 obtain⟨y,z,rfl,-,-⟩:∃a I,r=.slice a l.length I /\ l.length <= I /\ I <= maxLen:=by
  obtain⟨a,I,h,u,h2,-⟩:=V;exact⟨a,I,h,u,h2⟩
 have Z:=Q.kept J;obtain⟨m,n,t,al,aa,p⟩:=Z.append V (λb d=>d.2.2) (by omega) (Nat.zero_le _);have ao:d9 s c E g (.slice i L.length j) k C:=Blk.keep O (J.block c W);have aX:=J.size;have aP:∀q,(Value.slice i L.length j).ownBlock=some q -> q<w.heap.size:=λq D=>(Q.own D).2.1
 have K:d9 t c E g (.slice i L.length j) k C:=Blk.keep (Blk.alloc ao _) (p.block c (by simp;omega) (λe=>P c (.inl e.symm) rfl));have k1:bI (λb=>w.heap.size <= b \/ (Value.slice i L.length j).ownBlock=some b) s (s.alloc (.cells #[.slice y l.length z] 41)):=bI.of_below (aI _ _)
 have k2:bI (λb=>w.heap.size <= b \/ (Value.slice i L.length j).ownBlock=some b) (s.alloc (.cells #[.slice y l.length z] 41)) t:=⟨p.os,p.tape,p.output,p.size,λq D M=>p.block q D (λe=>M (.inr e.symm))⟩
 have az:aM (λb=>b=c \/ (Value.slice i L.length j).ownBlock=some b) w t:=by
  have u:aM (λb=>b=c \/ (Value.slice i L.length j).ownBlock=some b) w (s.alloc (.cells #[.slice y l.length z] 41)):=(aM.of_below J).alloc _;exact⟨p.os.trans u.os,p.tape.trans u.tape,p.output.trans u.output,au u.size p.size,λq D M=>(p.block q (aw D u.size) (λe=>M (.inr e.symm))).trans (u.block q D M)⟩
 have c2:=K.cell 2;have f2:=K.free 2;simp at c2
 have X:∀b,(Value.slice m (L.length+1) n).ownBlock=some b \/ (R b \/ (w.heap.size <= b /\ b<s.heap.size /\ ∃L fz,s.heap[b]?=some (.cells L 5 fz))) -> b≠c:=λb d=>by
  rcases d with d|d|d
  ·intro e;subst e;obtain⟨a0,ho,-⟩:=aa;rcases ho.2 with⟨h,_⟩|⟨g',aL,aN,h,_,an,_⟩
   ·rw[h] at d;cases d
   ·rw[h] at d;simp[Value.ownBlock] at d;subst d;have:t.heap[g']?=some (.cells #[.pointer (some ⟨E,0,none⟩),.int .u32 (g:Int),.slice i L.length j,.int .i64 (k:Int),.bool C] 141 (0,0)):=K;rw[an] at this;simp at this
  ·exact P b (.inr d)
  ·have:=d.1;omega
 have x:=K.set 2 (.slice m (L.length+1) n);have aJ:bU _ (t.setCell ⟨c,2,none⟩ (.slice m (L.length+1) n)) 0 (.slice m (L.length+1) n) (L++[l]):=aa.keep λb d _=>Below.heap_setCell _ ⟨c,2,none⟩ _ b (X b (by simpa using d))
 have ay:∀b,(Value.slice m (L.length+1) n).ownBlock=some b -> (Value.slice i L.length j).ownBlock=some b \/ w.heap.size <= b:=λb d=>by
  rcases Z.appended rfl (by omega) al b d with h|h
  ·exact .inl h
  ·exact .inr (by omega)
 have aY:s.heap.size <= (t.setCell ⟨c,2,none⟩ (.slice m (L.length+1) n)).heap.size:=by have:=k2.size;simp at this⊢;omega
 have ar:d9 (t.setCell ⟨c,2,none⟩ (.slice m (L.length+1) n)) c E g (.slice m (L.length+1) n) k C:=by simpa[d9] using x
 have aG:aM (λb=>b=c \/ (Value.slice i L.length j).ownBlock=some b) w (t.setCell ⟨c,2,none⟩ (.slice m (L.length+1) n)):=az.setCell (.inl (.inl rfl)) _;have ag:=ar;have ak:=aJ;have ai:=aG;go_simp;refine cD rfl rfl (λH o=>?_);go_simp;refine o _ _ ?_;go_simp;refine cD rfl rfl (λH o=>?_);go_simp;refine o _ _ ?_;go_simp;apply bC;rfl;intro f N;go_simp;exact aF;refine cG rfl rfl rfl (λH o=>?_);go_simp;refine o _ _ ?_;go_simp;refine cZ ?_;go_wp2_with fail;generalize t.setCell ⟨c,2,none⟩ (.slice m (L.length+1) n)=A at *;have x:=ag;have ax:c<A.heap.size:=x.lt;have q3:∀f,aK A.drew f -> f.cell? ⟨c,3,none⟩=some (.int .i64 (k:Int)):=λf hh=>by simpa using(Blk.keep x (w':=f) (hh.block c ax)).cell 3
 have c3:=x.drew.cell 3;have f3:=x.drew.free 3;simp at c3;have av:=(x.set 3 (.int .i64 ((k:Int)+(takes l.length:Int)))).drew
 have ab:bU _ (A.setCell ⟨c,3,none⟩ (.int .i64 ((k:Int)+(takes l.length:Int)))).drew 0 (.slice m (L.length+1) n) (L++[l]):=ak.keep λb d _=>by
  exact Below.heap_setCell _ ⟨c,3,none⟩ _ b (X b (by simpa using d))
 have aH:aM (λb=>b=c \/ (Value.slice i L.length j).ownBlock=some b) w (A.setCell ⟨c,3,none⟩ (.int .i64 ((k:Int)+(takes l.length:Int)))).drew:=(ai.setCell (.inl (.inl rfl)) _).drew;have hw:=af ((k:Int)+(takes l.length:Int)) (by omega);refine dq aK 10 (up 6 [506,7,8,9,510]) (by kernel_rfl) ?_;apply bC;rfl;intro f N;go_simp;exact aF;refine cD rfl rfl (λH o=>?_);go_simp;refine(ld A.drew l.length (by omega)).mono ?_;rintro e f ⟨rfl,rfl⟩;refine⟨_,rfl,aZ _,o _ _ ?_⟩;go_simp;apply bC;rfl;intro f N;go_simp;exact aF;refine cG rfl rfl rfl (λH o=>?_);go_simp;refine o _ _ ?_;go_simp;refine cZ ?_;go_wp2_with fail
 go_end0
 refine⟨rfl,m,n,_,av,ab,aH,λb d=>?_⟩;have ad:(A.setCell ⟨c,3,none⟩ (.int .i64 ((k:Int)+(takes l.length:Int)))).drew.heap.size=A.heap.size:=by simp
 rcases d with d|d|d
 ·refine⟨?_,(ab.own d).2.1⟩;rcases ay b d with h|h
  ·exact .inl (.inl h)
  ·exact .inr h
 ·exact⟨.inl (.inr d),by have:=(Y b (.inr d)).2;rw[ad];omega⟩
 ·exact⟨.inr d.1,by have:=d.2.1;rw[ad];omega⟩
end
end Go.Proofs.YtobjdpngnfbicaaGreatDoor
