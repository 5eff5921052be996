/-
  J8 J9 JL1 JL2 JL3 UCat VState RRdS RDecF RDecG RRef1 RRef2
-/
import Derived.Test.YtobjdpngnfbicaaGreatDoorZO09
import Derived.Lib.SlBytesConst
import Derived.Lib.AppendZerosOnto
open Go.Lib renaming hid->ae
open Go.IntWalk renaming i64_in->af
open Nat renaming le_refl->aq,le_trans->au,lt_of_lt_of_le->aw
open List renaming length_append->aA,append_assoc->aB,getElem_mem->aC,length_cons->aD
open Go.Proofs.Tryz renaming prog->aE
set_option maxHeartbeats 16000000
set_option maxRecDepth 100000
set_option linter.all false
namespace Go.Proofs.YtobjdpngnfbicaaGreatDoor
open Go.RowKit
open Tryz
variable(w:World)(F:aX)(n k:Nat)(v:Value)(b:List UInt8)(M:MD){W w':World}{G:aX}{u:Value}{i j:Nat}{l:List UInt8}{r:aU}
section
attribute [local go_sem ↓] aV
attribute [local go_sem] opC upC
theorem bX.elem{S:List (List UInt8)}(h:bX G W i u S)(a:Nat)(f:a<S.length):
 ∃g b x,u=.slice (some ⟨g,0,none⟩) S.length b /\ aO G W x S[a] /\ W.cell? ⟨g,a,none⟩=some x:=by
 obtain⟨n,j,l,p⟩:=h;obtain⟨x,m,d⟩:=l a f;rcases j.2 with⟨rfl,o⟩|⟨g,b,c,rfl,r,e,q,s,t,k⟩
 ·omega
 ·refine⟨g,b,x,rfl,d,?_⟩;have:(c.toList.take (S.length*1))[a]?=n[a]?:=by rw[k]
  rw[List.getElem?_take,if_pos (by omega),m] at this;unfold World.cell?;simpa[e] using this
theorem wH(G kd g aa:Nat)(H:Value)(M:Bool)(T:dZ w G kd g H aa M)(R:aX)(L:List (List UInt8))(C:bX R w 0 H L)(hL:L.length <= 65536)(W:∀b∈L,b.length <= 65536):
 Calls aE 49 #[.pointer (some ⟨G,0,none⟩)] w fun e y=>∃r f,e=.returned r /\ bX f y w.heap.size r L /\ (∀b,f b -> w.heap.size <= b /\ b<y.heap.size) /\ Below w.heap.size w y:=by
 have K:=T.cell 2;simp at K;obtain⟨aR,cR,rfl,ak,ao⟩:=C.shape;have ad:(L.length:Int) <= 65536:=by omega
 go_enter func49,ntmps49
 go_wp2_with fail
 go_loopw [3,13] (fun v i wr=>∃k f,k <= L.length /\ i=.int .i64 (k:Int) /\ bX f wr w.heap.size v (L.take k) /\ (∀b,f b -> w.heap.size <= b /\ b<wr.heap.size) /\ Below w.heap.size w wr) (fun _ i _=>L.length-(intOf i).toNat)
 case atStart=>exact⟨0,none_,by omega,rfl,by simpa using bX.nil w w.heap.size,fun b c=>c.elim,Below.refl _ _⟩
 case round=>
  obtain⟨k,f,hk,rfl,m,z,d⟩:=hrel
  by_cases s:k<L.length
  ·have V:(k:Int)<(L.length:Int):=by omega
   have E:=C.kept d;obtain⟨gg,j,x,F,B,S⟩:=E.elem k s;simp at F;obtain⟨rfl,rfl⟩:=F;have t:(L.take k).length=k:=by simp;omega
   obtain⟨a1,c1,rfl,Q,an⟩:=m.shape;rw[t] at Q m;have al:=W L[k] (aC s);rw[t];go_wp2_with fail;refine(mm wr R x L[k] B (by omega)).mono ?_;rintro e w1 ⟨r,rfl,D,l⟩;have o:=lB D
   obtain⟨a2,ab,rfl,-,-⟩:∃a j,r=.slice a L[k].length j /\ L[k].length <= j /\ j <= maxLen:=by
    obtain⟨a,j,h,N,O,-⟩:=o;exact⟨a,j,h,N,O⟩
   have u:=m.kept l;obtain⟨a',c',w2,P,n,p⟩:=u.append o (fun b c=>c.2.2) (by simp;omega) (by have:=l.size;have:=d.size;omega);rw[t] at P n;have A:Below w.heap.size w w2:=(Below.alloc (d.trans (l.mono d.size)) (by have:=l.size;have:=d.size;omega) _).grown p (by have:=l.size;have:=d.size;simp;omega) (fun q X=>((u.own X).1));have Y:=p.size;simp at Y;have Z:L.take k++[L[k]]=L.take (k+1):=by rw[List.take_succ_eq_append_getElem s]
   rw[Z] at n;have J:=ae n;have I:=ae A;have ai:=d.size;have ag:=l.size;clear n A u m E o D p S B;go_wp2_with fail
   go_roundw
   case rel=>exact⟨k+1,_,by omega,by go_num,J.out,fun b c=>by
    rcases c with c|c
    ·have:=z b c;omega
    ·have:=c.1;have:=c.2.1;omega,I.out⟩
   case measure=>simp[intOf];omega
  ·have V:¬(k:Int)<(L.length:Int):=by omega
   have U:k=L.length:=by omega
   subst U;rw[List.take_length] at m;go_wp2_with fail
   go_ret
   exact⟨_,rfl,f,m,z,d⟩
theorem BV(b h g a:Nat)(k:Value)(i:Bool)(K:DK)(M:MD)(t:dZ w b h g k a i)(j:bT w K M)(q:K.d=h)(p:2 <= M.S.length)(u:a <= aW M.S.length):
 Calls aE 137 #[.pointer (some ⟨b,0,none⟩)] w fun e c=>e=.returned (.int .i64 (if aW M.S.length-a<1 then -1 else min (48*((aW M.S.length-a:Nat):Int)) 65536)) /\ ∃n,w.drewN n=c:=by
 have A:=j.le;have hh:aW M.S.length-a <= 65536:=by unfold aW;omega
 have r:∀n,Calls aE 89 #[.pointer (some ⟨b,0,none⟩)] (w.drewN n) fun e c=>e=.returned (.int .i64 ((aW M.S.length-a:Nat):Int)) /\ ∃m,(w.drewN n).drewN m=c:=fun n=>
  rn (w.drewN n) b h g k a i K M (t.keep rfl) (j.keep fun _ _=>rfl) q p u
 have s:Calls aE 89 #[.pointer (some ⟨b,0,none⟩)] w fun e c=>e=.returned (.int .i64 ((aW M.S.length-a:Nat):Int)) /\ ∃m,w.drewN m=c:=rn w b h g k a i K M t j q p u
 generalize aW M.S.length-a=f at *;have x:=ae r;have l:=ae s;clear r s;have z:(f:Int) <= 65536:=by omega
 by_cases o:f<1
 ·have y:(f:Int)<1:=by omega
  rw[if_pos o]
  go_enter func137,ntmps137
  go_wp2_with fail;refine l.out.mono ?_;rintro e v ⟨rfl,n,rfl⟩;go_wp2_with fail
  go_ret
  exact⟨rfl,n,rfl⟩
 ·have y:¬(f:Int)<1:=by omega
  rw[if_neg o]
  go_enter func137,ntmps137
  go_wp2_with fail;refine l.out.mono ?_;rintro e v ⟨rfl,n,rfl⟩;go_wp2_with fail;refine(x.out n).mono ?_;rintro e v ⟨rfl,m,rfl⟩;go_wp2_with fail
  all_goals
   go_ret
   exact⟨fM (by omega),n+m,by first|rfl|(simp[World.drewN];done)|(simp[World.drewN];omega)⟩
theorem BW(b f g i:Nat)(h:Value)(a:Bool)(d:dZ w b f g h i a):
 Calls aE 60 #[.pointer (some ⟨b,0,none⟩)] w fun e j=>e=.returned (.bool a) /\ w=j:=by
 have c:=d.cell 4;simp at c
 go_enter func60,ntmps60
 go_wp2_with fail
 go_ret
 exact⟨rfl,rfl⟩
theorem BX(n:Int):
 Calls aE 88 #[.pointer none,v,.int .i64 n] w fun e a=>e=.returned (.int .i64 9) /\ w=a:=by
 go_enter func88,ntmps88
 go_wp2_with fail
 go_ret
 exact⟨rfl,rfl⟩
theorem append_nil:
 Calls aE 44 #[.pointer none,v] w fun e a=>e=.returned (.int .i64 9) /\ w=a:=by
 have c:=ae (BR w);have b:=ae (BX w v 0)
 go_enter func44,ntmps44
 go_wp2_with fail;refine c.out.mono ?_;rintro e a ⟨rfl,rfl⟩;go_wp2_with fail;refine b.out.mono ?_;rintro e a ⟨rfl,rfl⟩;go_wp2_with fail
 go_ret
 exact⟨rfl,rfl⟩
end
section
attribute [local go_sem] opC upC
theorem oz(h:Bool)(a:Value):Instr.alloc 137 h a=AL 137 h a:=rfl
attribute [local go_sem ↓] oz
theorem sG:(AL 137 true (.tuple #[])).run aE w=.ok (.pointer (some ⟨w.heap.size,0,none⟩)) (w.alloc (.cells (fs.map B).toArray 137)):=by kernel_rfl
def eN(n:Nat):List (Nat×List UInt8):=(List.range n).map fun i=>(i,List.replicate 64 0)
theorem kt:(eN n).length=n:=by simp[eN]
theorem pV(h:k<n):(eN n).take (k+1)=(eN n).take k++[(k,List.replicate 64 0)]:=by
 rw[List.take_succ_eq_append_getElem (by rw[kt];exact h)];simp[eN]
theorem j1:cO M=bh M (eN M.S.length++[(0,cP 0)]):=rfl
theorem yz(K:DK)(M:MD)(L:bT w K M)(h8:8 <= M.S.length)(V:de w)(aN:¬K.foot 0)(hw:M.writes+65540<4611686018427387904):
 Calls aE 43 #[.pointer (some ⟨K.d,0,none⟩)] w fun e l=>∃c,c.d=K.d /\ (∀b,c.foot b -> K.foot b) /\ aT K.foot w l /\
  (((cO M).2=0 /\ ∃jb,e=.returned (.tuple #[.pointer (some ⟨jb,0,none⟩),.int .i64 0]) /\ w.heap.size <= jb /\ JAt l ⟨jb,c,none_⟩ (cO M).1 ⟨0,[],false⟩) \/
   ((cO M).2≠0 /\ e=.returned (.tuple #[.pointer none,.int .i64 (cO M).2]) /\ bT l c (cO M).1)):=by
 have aY:=L.le;have R:=rj w K M L;rw[if_neg (by omega)] at R;have ag:=sG w;obtain⟨I,G⟩:=aQ (w.alloc (.cells (fs.map B).toArray 137));have av:Blk I w.heap.size (List.replicate 64 (B 0)) 137:=by rw[G];have:=(dz.new w fs gG).1;simpa[fs] using this
 have U:Below w.heap.size w I:=by rw[G];exact aI _ _
 have a4:I.heap.size=w.heap.size+1:=by rw[G];simp
 have T:=L.kept U;have ao:aT K.foot w I:=aT.of_below U;rw[<- G] at ag;clear G;have J:=L.lt;have az:=qM I K M T;have aV:∀l,aT K.foot w l -> de l:=fun l ho=>V.keep (ho.block 0 (by obtain⟨t,fz,hh⟩:=V;exact lt_of_block hh) aN)
 have aX:0<w.heap.size:=by obtain⟨t,fz,hh⟩:=V;exact lt_of_block hh
 rw[j1];obtain⟨v,O⟩:=aQ (eN M.S.length);have a3:v.length=M.S.length:=by rw[O,kt]
 have aF:∀i,i<M.S.length -> v.take (i+1)=v.take i++[(i,List.replicate 64 0)]:=fun i hi=>by rw[O];exact pV _ i hi
 rw[<- O];clear O;generalize hn:M.S.length=n at *;have a0:(n:Int) <= 65536:=by omega
 have Hc:=ae R;have aK:=ae az;have aL:=ae aF;clear R az aF
 go_enter func43,ntmps43
 go_wp2_with fail;refine Hc.out.mono ?_;rintro e l ⟨rfl,rfl⟩;go_wp2_with fail;refine aK.out.mono ?_;rintro e l ⟨rfl,rfl⟩;go_wp2_with fail
 go_loopw [16] (fun i wr=>∃k c f,k <= n /\ i=.int .i64 (k:Int) /\ c.d=K.d /\ (∀b,c.foot b -> K.foot b) /\ bT wr c f /\ bh M (v.take k)=(f,0) /\ Blk wr w.heap.size (List.replicate 64 (B 0)) 137 /\ aT K.foot w wr /\ f.S.length=n /\ f.writes <= M.writes+k) (fun i _=>n-(intOf i).toNat)
 case atStart=>exact⟨0,K,M,by omega,rfl,rfl,fun _ h=>h,T,rfl,av,ao,hn,by omega⟩
 case round=>
  obtain⟨k,c,f,hk,rfl,ad,g,E,H,A,o,aZ,a2⟩:=hrel;clear T av ao ag U
  by_cases aR:k<n
  ·have aS:(k:Int)<(n:Int):=by omega
   have aP:aO (fun b=>b=w.heap.size) wr (.slice (some ⟨w.heap.size,0,none⟩) 64 64) (List.replicate 64 0):=lI A _ rfl;have j:=uv wr c f E k (by omega) (by omega) _ _ _ aP (by simp) (fun b e h=>by have:=J b (g b h);omega);rw[ad] at j;have u:=e7 M (v.take k) k (List.replicate 64 0) (by rw[H]);rw[<- aL.out k aR,H] at u;have X:=nm f k (List.replicate 64 0);generalize f.wr k (List.replicate 64 0)=Y at *;obtain⟨D,r⟩:=Y;dsimp only at j X;have P:=ae j;have Z:=ae u;clear j u;go_wp2_with fail;refine P.out.mono ?_;rintro e w2 ⟨rfl,⟨C,y,z,q⟩,N,ax⟩;have s:=o.trans N fun i hi=>.inl (g i hi)
   have Q:=A.keep (N.block _ A.lt fun h=>by have:=J _ (g _ h);omega)
   by_cases p:r=0
   ·subst p;have x:=ae q;have m:=ae s;have aG:=ae Q;clear q s Q A o E;go_wp2_with fail
    go_roundw
    case rel=>exact⟨k+1,C,D,by omega,by go_num,by rw[y],fun b a=>g b (z b a),x.out,Z.out,aG.out,m.out,by omega,by omega⟩
    case measure=>simp[intOf];omega
   ·have aW:(r != 0)=true:=bne_iff_ne.2 p
    have al:bh M (v++[(0,cP 0)])=(D,r):=by
     refine iI M D r _ (k+1) ?_ p;rw[List.take_append_of_le_length (by omega)];exact Z.out
    have x:=ae q;have m:=ae s;have aH:=ae al;clear q s Q A o E al;go_wp2_with fail;go_ret2;rw[aH.out];exact⟨C,by rw[y],fun b a=>g b (z b a),m.out,.inr ⟨p,rfl,x.out⟩⟩
  ·have aS:¬(k:Int)<(n:Int):=by omega
   have aU:k=n:=by omega
   subst aU;rw[List.take_of_length_le (by omega)] at H;have an:=wy wr (aV wr o) (by have:=o.size;omega) 0 (by omega);have W:=e7 M v 0 (cP 0) (by rw[H]);rw[H] at W;have aJ:=ae an;have ab:=ae W;clear an W A;go_wp2_with fail;refine aJ.out.mono ?_;rintro e w4 ⟨sb,rfl,a1,ay,ai⟩;have ak:=E.kept ai;have ar:aT K.foot w w4:=o.trans (aT.of_below (F:=none_) ai) fun i hi=>hi.elim
   have j:=uv w4 c f ak 0 (by omega) (by omega) _ _ _ ay.bytes ay.2 (fun b e h=>by have:=J b (g b h);have:=o.size;omega);rw[ad] at j;have u:=ab.out;have X:=nm f 0 (cP 0)
   try dsimp only at u
   generalize f.wr 0 (cP 0)=Y at *;obtain⟨D,r⟩:=Y;dsimp only at j X;have P:=ae j;have aa:=ae u;clear j u ab;go_wp2_with fail;refine P.out.mono ?_;rintro e w2 ⟨rfl,⟨C,y,z,q⟩,N,ax⟩;have s:=ar.trans N fun i hi=>.inl (g i hi)
   have x:=ae q;have m:=ae s;clear q s o E ak ar
   by_cases p:r=0
   ·subst p;go_wp2_with fail;go_ret2;rw[aa.out];refine⟨C,by rw[y],fun b a=>g b (z b a),m.out.alloc _,.inl ⟨rfl,_,rfl,by have:=m.out.size;omega,?_⟩⟩;refine⟨x.out.kept (aI _ _),⟨none,0,none_,?_,bX.nil _ 0,fun b a=>by rcases a with a|a;exact absurd a (by simp[Value.ownBlock]);exact a.elim⟩,⟨fun h=>by have h1:=J _ (g _ (z _ h));have:=m.out.size;dsimp only at h1;omega,fun b a=>a.elim⟩,by show 8 <= D.S.length;omega,by simp[aM],by simp,fun b a=>by simp at a⟩;have:=Blk.new w2 #[.pointer (some ⟨K.d,0,none⟩),.int .u32 0,.slice none 0 0,.int .i64 0,.bool false] 141;rw[ax] at this;simpa[dZ,aM,y] using this
   ·have aW:(r != 0)=true:=bne_iff_ne.2 p;go_wp2_with fail;go_ret2;rw[aa.out];exact⟨C,by rw[y],fun b a=>g b (z b a),m.out,.inr ⟨p,rfl,x.out⟩⟩
end
section
attribute [local go_sem] opC upC
def jD(R:aX)(w:World)(v:Value)(S:List (List UInt8)):Prop:=
 ∃a b,v=.slice a S.length b /\ (S = [] \/ ∃g,a=some ⟨g,0,none⟩ /\ g<w.heap.size /\ ∀i (h:i<S.length),∃x,w.cell? ⟨g,i,none⟩=some x /\ aO R w x S[i])
theorem bX.at{R:aX}{w:World}{k:Nat}{v:Value}{S:List (List UInt8)}(h:bX R w k v S):jD R w v S:=by
 obtain⟨a,d,rfl,-,-⟩:=id h.shape;refine⟨a,d,rfl,?_⟩;cases S with
 |nil=>exact .inl rfl
 |cons x S=>
  right;obtain⟨g,m,q,b,p,f⟩:=h.elem 0 (by simp);simp at b;obtain⟨rfl,rfl⟩:=b;refine⟨g,rfl,mC f,fun i hi=>?_⟩;obtain⟨o,n,l,c,e,j⟩:=h.elem i hi;simp at c;obtain⟨rfl,-⟩:=c;exact⟨l,j,e⟩
theorem jD.drewN{R:aX}{w:World}{v:Value}{S:List (List UInt8)}(h:jD R w v S)(n:Nat):jD R (w.drewN n) v S:=h
theorem e8{a:Addr}(h:W.cell? a=some u)(c:aJ W.drew w'):w'.cell? a=some u:=by
 have d:=mC h;have b:w'.heap[a.block]?=W.heap[a.block]?:=c.block a.block d;unfold World.cell? at *;rw[b];exact h
end
section
attribute [local go_sem] opC upC
def upM(S:List (List UInt8))(k:Nat):MD:=⟨S,false,none,k⟩
def df(S:List (List UInt8))(a:List (Nat×List UInt8)):List (List UInt8):=a.foldl (fun S p=>S.set p.1 p.2) S
theorem gH(a:List (Nat×List UInt8)):∀S,(df S a).length=S.length:=by
 induction a with
 |nil=>intro S;rfl
 |cons x a b=>intro S;show(df (S.set x.1 x.2) a).length=_;rw[b];simp
theorem EE(S:List (List UInt8))(k a:Nat)(s:List UInt8):(upM S k).wr a s=(upM (S.set a s) (k+1),0):=rfl
theorem f9(b:List (Nat×List UInt8)):∀S k,bh (upM S k) b=(upM (df S b) (k+b.length),0):=by
 induction b with
 |nil=>intro S k;rfl
 |cons x b c=>
  intro S k;obtain⟨a,s⟩:=x;show(if((upM S k).wr a s).2=0 then bh ((upM S k).wr a s).1 b else(upM S k).wr a s)=_;rw[EE];simp only[if_true];rw[c]
  show(upM (df (S.set a s) b) (k+1+b.length),(0:Int))=(upM (df (S.set a s) b) (k+(b.length+1)),0)
  rw[Nat.add_assoc,Nat.add_comm 1]
end
section
attribute [local go_sem ↓] eU
theorem l8(C:Array Value)(n c:Nat):(convert 41 41 (.slice (some ⟨w.heap.size,0,none⟩) n c)).run aE (w.alloc (.cells C 5))=.ok (.slice (some ⟨w.heap.size,0,none⟩) n c) (w.alloc (.cells C 5 (C.size,C.size+1))):=
 Lib.run_convert_bytes_const w _ _ C n c underlying41 underlying5
attribute [local go_sem] l8
theorem Below.drewN'(h:Below i W w')(n:Nat):Below i W (w'.drewN n):=⟨h.os,h.tape,h.output,h.size,h.block⟩
theorem rq{a c:Value}{f g:List UInt8}(h:aO G W a f)(j:aO G W c g)(l:∀b,G b -> b<W.heap.size):
 jD G (W.alloc (.cells #[a,c] 41)) (.slice (some ⟨W.heap.size,0,none⟩) 2 2) [f,g]:=by
 have e:∀b,G b -> b<W.heap.size -> (W.alloc (.cells #[a,c] 41)).heap[b]?=W.heap[b]?:=fun b _ k=>(aI W _).block b k
 refine⟨_,2,rfl,.inr ⟨W.heap.size,rfl,by simp,fun i hi=>?_⟩⟩;have d:=Blk.new W #[a,c] 41;have:i=0 \/ i=1:=by simp at hi;omega
 rcases this with rfl|rfl
 ·exact⟨a,by simp[d.cell 0],h.keep e⟩
 ·exact⟨c,by simp[d.cell 1],j.keep e⟩
theorem yA(a:aO G W u l)(f:∀b,G b -> b<W.heap.size):
 jD G (W.alloc (.cells #[u] 41)) (.slice (some ⟨W.heap.size,0,none⟩) 1 1) [l]:=by
 have d:∀b,G b -> b<W.heap.size -> (W.alloc (.cells #[u] 41)).heap[b]?=W.heap[b]?:=fun b _ e=>(aI W _).block b e
 refine⟨_,1,rfl,.inr ⟨W.heap.size,rfl,by simp,fun i hi=>?_⟩⟩;have c:=Blk.new W #[u] 41;have:i=0:=by simp at hi;omega
 subst this;exact⟨u,by simp[c.cell 0],a.keep d⟩
theorem pW(w:World)(a:Option Addr):aO F w (.slice a 0 0) []:=⟨a,0,rfl,aq _,by unfold maxLen;omega,fun _=>rfl,.inl rfl⟩
theorem jD.kept{S:List (List UInt8)}(h:jD G W u S)(c:Below W.heap.size W w'):jD G w' u S:=by
 obtain⟨a,e,rfl,h⟩:=h;refine⟨a,e,rfl,?_⟩;rcases h with h|⟨g,rfl,d,h⟩
 ·exact .inl h
 ·refine .inr ⟨g,rfl,aw d c.size,fun i hi=>?_⟩;obtain⟨x,k,f⟩:=h i hi;refine⟨x,?_,f.keep fun b _ j=>c.block b j⟩;unfold World.cell? at *;rw[show w'.heap[(⟨g,i,none⟩:Addr).block]?=W.heap[(⟨g,i,none⟩:Addr).block]? from c.block g d];exact k
end
section
attribute [local go_sem ↓] aV
attribute [local go_sem] opC upC
theorem uC(u:n <= 1000000000000):
 Calls aE 193 #[.slice none 0 0,.int .i64 (n:Int)] w fun e m=>(∃v,e=.returned v /\ m.ownsRow w.heap.size 5 1 v 0 []) /\ Below w.heap.size w m:=by
 have y:¬(n:Int)<0:=by omega
 have A:IntKind.i64.wrap (n:Int)=n:=af _ (by omega)
 by_cases q:n=0
 ·subst q
  go_enter func193,ntmps193
  go_wp2_with fail
  go_ret
  exact⟨⟨_,rfl,World.ownsRow_nil _ _ _ _⟩,Below.refl _ _⟩
 ·obtain⟨t,hi,j,l,d⟩:=info_parts j9;have b:=Lib.run_append_grow_zeros (P:=aE) w 41 3 41 5 t _ .i64 .i64 underlying41 underlying3 hi j none 0 0 [] (by rw[l];rfl) n (by omega) (by omega) (by omega) (by omega) (by rw[d];omega) (by rw[d];exact growslice_fits (by omega) (by omega));have h:=grownCap_ge w (0+n) 0 5;have i:=grownCap_le_maxLen w (0+n) 0 5 (by unfold maxLen;omega);obtain⟨a,g⟩:=aH (grownCap w (0+n) 0 5);rw[g] at b h i;obtain⟨f,c⟩:=aQ (w.drew.alloc (.cells ((([]:List Value).toArray++Builtin.zeroCells (Value.int .u8 0).cells n++Builtin.zeroCells (Value.int .u8 0).cells (a-(0+n)))) 5));rw[<- c] at b;have s:(AP #[41,3] 41 #[.slice none 0 0,.int .i64 (n:Int)]).run aE w=.ok (.slice (some ⟨w.heap.size,0,none⟩) (0+n) a) f:=b;rw[Nat.zero_add] at s h;have p:=ae (show f.ownsRow w.heap.size 5 1 (.slice (some ⟨w.heap.size,0,none⟩) 0 a) 0 [] from⟨rfl,.inr ⟨w.heap.size,a,_,rfl,aq _,by rw[c];exact heap_alloc_new w.drew _,Nat.zero_le _,i,by simp[size_zeroCells,Value.cells];omega,by simp⟩⟩);have o:=ae (show Below w.heap.size w f by rw[c];exact⟨rfl,rfl,rfl,by simp,fun k r=>Go.heap_alloc_old w.drew _ r⟩);have x:(0:Int)<(n:Int):=by omega
  have z:0<n:=by omega
  clear b c g hi j l d
  go_enter func193,ntmps193
  go_wp2_with fail
  go_ret
  exact⟨⟨_,rfl,p.out⟩,o.out⟩
theorem yB(h:aO G W u l):Rows G W 1 u l.length (l.map B):=by
 obtain⟨a,d,rfl,f,g,j,k⟩:=h;refine⟨a,d,rfl,f,g,j,by simp,?_⟩;rcases k with rfl|⟨b,o,L,t,e,rfl,hF,m,p,n⟩
 ·exact .inl rfl
 ·refine .inr ⟨b,o,L,t,e,rfl,hF,m,by omega,fun i hi=>?_⟩;have c:i<l.length:=by omega
  rw[n i c,List.getElem?_map,List.getElem?_eq_getElem c];rfl
theorem EF:∀u∈b.map B,u.oneCell'=true:=fun u a=>by
 obtain⟨c,_,rfl⟩:=List.mem_map.1 a;simp[Value.oneCell',B]
def gd(S:List (List UInt8)):List UInt8:=S.flatten
theorem wI(k:UInt8)(l:List UInt8):gd [[k],l]=k::l:=by unfold gd;simp
theorem oA{α:Type}(S:List (List α))(k:Nat)(h:k<S.length):(S.take (k+1)).flatten=(S.take k).flatten++S[k]:=by
 rw[List.take_succ_eq_append_getElem h,List.flatten_append];simp
theorem lJ{α:Type}(S:List (List α))(k:Nat):(S.take k).flatten.length <= S.flatten.length:=by
 have h:(S.take k).flatten++(S.drop k).flatten=S.flatten:=by rw[<- List.flatten_append,List.take_append_drop]
 rw[<- h,aA];omega
theorem rs(S:List (List UInt8))(h:jD F w v S)(W:(gd S).length <= 1000000000)(hn:S.length <= 1000000):
 Calls aE 138 #[v] w fun e H=>(∃r,e=.returned r /\ H.ownsRow w.heap.size 5 1 r (gd S).length ((gd S).map B)) /\ Below w.heap.size w H:=by
 obtain⟨n,u⟩:=aH S.length;have C:=ae u;obtain⟨a,az,rfl,hx⟩:=h
 have ab:∀k,k<n -> ∃g,a=some ⟨g,0,none⟩ /\ g<w.heap.size /\ ∃j l,w.cell? ⟨g,k,none⟩=some (.slice j (S.getD k []).length l) /\ aO F w (.slice j (S.getD k []).length l) (S.getD k []):=fun k O=>by
  rcases hx with h0|⟨g,ha,D,hc⟩
  ·rw[h0] at u;simp at u;omega
  ·obtain⟨x,h1,K⟩:=hc k (by omega);have e:S.getD k []=S[k]'(by omega):=by rw[List.getD_eq_getElem?_getD,List.getElem?_eq_getElem (by omega)];rfl
   obtain⟨j,l,rfl,-⟩:=id K;exact⟨g,ha,D,j,l,by rw[e];exact h1,by rw[e];exact K⟩
 have J:=ae ab;have E:=ae W;rw[u] at hn⊢;clear hx ab u W
 go_enter func138,ntmps138
 go_wp2_with fail
 go_loopw [3,11] (fun z i wr=>∃k:Nat,k <= n /\ i=.int .i64 (k:Int) /\ z=.int .i64 (((gd (S.take k)).length:Nat):Int) /\ w=wr) (fun _ i _=>n-(intOf i).toNat)
 case atStart=>exact⟨0,by omega,rfl,rfl,rfl⟩
 case round=>
  obtain⟨k,O,rfl,rfl,rfl⟩:=hrel
  by_cases V:k<n
  ·have Q:(k:Int)<(n:Int):=by omega
   obtain⟨g,rfl,D,j,l,y,A⟩:=J.out k V;obtain⟨m,t⟩:=aH ((S.getD k []).length);obtain⟨z,c⟩:=aH ((gd (S.take k)).length)
   have o:(gd (S.take (k+1))).length=z+m:=by
    have U:k<S.length:=by rw[C.out];exact V
    rw[show gd (S.take (k+1))=gd (S.take k)++S[k] from oA S k U,aA,c,<- t,List.getD_eq_getElem?_getD,List.getElem?_eq_getElem U];rfl
   have s:=(show(gd (S.take (k+1))).length <= (gd S).length from lJ S (k+1))
   rw[o] at s;have aG:z+m <= 1000000000:=au s E.out;have hw:IntKind.i64.wrap ((z:Int)+(m:Int))=(z:Int)+(m:Int):=af _ (by omega);have u:¬(z:Int)+(m:Int)<0:=by omega
   rw[t] at y;have Hs:=ae o;clear A t s o;rw[c];clear c;go_wp2_with fail
   go_roundw
   case rel=>exact⟨k+1,by omega,by go_num,by rw[Hs.out];simp,by first|rfl|trivial⟩
   case measure=>simp[intOf];omega
  ·have Q:¬(k:Int)<(n:Int):=by omega
   have T:(gd (S.take k))=(gd S):=by rw[List.take_of_length_le (by have:=C.out;omega)]
   rw[T];obtain⟨z,c⟩:=aH ((gd S).length);have I:=ae (uC w z (by have:=E.out;omega));have Hz:=ae c;rw[c];clear T c;go_wp2_with fail;refine I.out.mono ?_;rintro e w1 ⟨⟨v1,rfl,X⟩,L⟩;have an:=ae X;have ak:=ae L;clear I X L Q O;go_wp2_with fail
   go_loopw [6,27] (fun r i wr=>∃(k:Nat),k <= n /\ i=.int .i64 (k:Int) /\ wr.ownsRow w.heap.size 5 1 r (gd (S.take k)).length ((gd (S.take k)).map B) /\ Below w.heap.size w wr) (fun _ i _=>n-(intOf i).toNat)
   case atStart=>exact⟨0,by omega,rfl,an.out,ak.out⟩
   case round=>
    rename World=>wr
    obtain⟨q,hq,rfl,f,d⟩:=hrel
    by_cases aa:q<n
    ·have ay:(q:Int)<(n:Int):=by omega
     obtain⟨g,rfl,D,j,l,y,A⟩:=J.out q aa;have G:q<S.length:=by rw[C.out];exact aa
     have o:gd (S.take (q+1))=gd (S.take q)++S[q]:=oA S q G;have e:S.getD q []=S[q]:=by rw[List.getD_eq_getElem?_getD,List.getElem?_eq_getElem G];rfl
     have s:=(show(gd (S.take (q+1))).length <= (gd S).length from lJ S (q+1))
     rw[o,aA] at s;rw[e] at y A;obtain⟨i0,hi,ad,ag,ai⟩:=info_parts j9;have av:=E.out;obtain⟨v2,w2,hr,Y,N⟩:=ek (P:=aE) wr w.heap.size 41 5 underlying41 hi ad ag ai rfl (by decide) _ _ _ f F _ _ _ (yB (A.keep (w':=wr) fun b aF ax=>d.block b ax)) (EF _) (by unfold maxLen;omega) (by omega) d.size;have M:Below w.heap.size w w2:=d.trans (Below.grownOwn f N d.size (aq _));have c1:wr.cell? ⟨g,q,none⟩=some (.slice j S[q].length l):=(d.cell (p:=⟨g,q,none⟩) D).trans y;have ao:=ae (show w2.ownsRow w.heap.size 5 1 v2 (gd (S.take (q+1))).length ((gd (S.take (q+1))).map B) by rw[o,aA,List.map_append];exact Y);have al:=ae M;obtain⟨m,t⟩:=aH S[q].length;rw[t] at hr c1;obtain⟨z,c⟩:=aH ((gd (S.take q)).length);obtain⟨ar,cr,rfl⟩:=aK f;rw[c] at hr⊢;clear f Y N M o s av e y A hi ad ag ai d t c G;go_wp2_with fail
     go_roundw
     case rel=>exact⟨q+1,by omega,by go_num,ao.out,al.out⟩
     case measure=>simp[intOf];omega
    ·have ay:¬(q:Int)<(n:Int):=by omega
     have Z:(gd (S.take q))=(gd S):=by rw[List.take_of_length_le (by have:=C.out;omega)]
     rw[Z] at f;have Ho:=ae f;have Hb:=ae d;obtain⟨ar,cr,rfl⟩:=aK f;clear f d Z;go_wp2_with fail
     go_ret
     exact⟨⟨_,rfl,Ho.out⟩,Hb.out⟩
theorem aO.insideU(h:aO G W u l):aO (fun q=>q<W.heap.size) W u l:=by
 obtain⟨a,d,rfl,f,g,i,j⟩:=h;refine⟨a,d,rfl,f,g,i,?_⟩;rcases j with rfl|⟨b,n,L,t,e,rfl,hF,c,k,m⟩
 ·exact .inl rfl
 ·exact .inr ⟨b,n,L,t,e,rfl,lt_of_block c,c,k,m⟩
theorem rt(k:UInt8)(v:Value)(S:List (List UInt8))(h:jD F w v S)(H:(gd S).length <= 100000000)(Z:S.length <= 1000):
 Calls aE 81 #[B k,v] w fun e y=>(∃r,e=.returned r /\ y.ownsRow w.heap.size 5 1 r (k::(gd S)).length ((k::(gd S)).map B)) /\ Below w.heap.size w y:=by
 obtain⟨l,g⟩:=aQ (w.alloc (.cells #[B k] 5));have t:Below w.heap.size w l:=by rw[g];exact aI _ _
 have o:=ae (rs l F v S (h.kept t) (by omega) (by omega))
 have D:aO (fun b=>w.heap.size <= b) l (.slice (some ⟨w.heap.size,0,none⟩) 1 1) [k]:=by
  refine⟨_,1,rfl,by simp,by unfold maxLen;omega,nofun,.inr ⟨w.heap.size,0,_,_,_,rfl,aq _,by rw[g];exact heap_alloc_new w _,by simp,fun i hi=>?_⟩⟩;have:i=0:=by simpa using hi
  subst this;simp
 have L:=ae D;have p:=ae t;have A:=ae g;have N:=ae H;obtain⟨a,ab,rfl,-⟩:=h;obtain⟨n,I⟩:=aH S.length;rw[I] at o⊢;clear g t D H Z I;obtain⟨T,f⟩:=aH (B k);rw[f] at A⊢;have aa:=ae f;have X:T=.int .u8 (k.toNat:Int):=by rw[<- f];rfl
 subst X;clear f
 go_enter func81,ntmps81
 go_wp2_with fail;rw[<- A.out];refine o.out.mono ?_;rintro e m ⟨⟨r2,rfl,u⟩,d⟩;have C:=(L.out.keep (w':=m) fun b _ Y=>d.block b Y).insideU;have c:aO (fun b=>l.heap.size <= b /\ b<m.heap.size) m r2 (gd S):=aO.of_owns u _ fun b V c=>⟨V,c⟩
 obtain⟨Q,U,rfl⟩:=aK u;have x:=rq C c.insideU (fun b W=>W);obtain⟨K,j⟩:=aQ (m.alloc (.cells #[.slice (some ⟨w.heap.size,0,none⟩) 1 1,.slice Q (gd S).length U] 41));have E:Below w.heap.size w K:=by rw[j];exact(p.out.trans (d.mono p.out.size)).alloc (au p.out.size d.size) _
 rw[<- j] at x;have s:=rs K _ _ _ x (by rw[wI];have:=N.out;rw[aD];omega) (by simp);rw[wI] at s;have z:=ae s;have q:=ae E;have P:=ae j;clear o s x j E C c u d;go_wp2_with fail;rw[<- P.out];refine z.out.mono ?_;rintro e w4 ⟨⟨r4,rfl,J⟩,G⟩;have O:=ae (bP J q.out.size);have M:=ae (q.out.trans (G.mono q.out.size));clear z J G;go_wp2_with fail
 go_ret
 exact⟨⟨_,rfl,O.out⟩,M.out⟩
theorem wJ(l:List bR)(h:Rows F w 1 v l.length (l.map Go.Proofs.encStr))(hl:l.length <= 1000000)(N:∀k∈l,k.length <= 100000):
 Calls aE 118 #[.slice none 0 0,v] w fun e w'=>(∃r,e=.returned r /\ w'.ownsRow w.heap.size 5 1 r (fI l).length ((fI l).map B)) /\ Below w.heap.size w w':=by
 have c:=ae (jU w none_ (.slice none 0 0) [] (pW none_ w none) l.length (by omega) (by simp));have hw:IntKind.u64.wrap (l.length:Int)=(l.length:Int):=IntWalk.u64_in _ (by omega)
 replace h:=h.mono (G:=fun b=>b<w.heap.size) fun b _ ab=>ab
 have H:=ae h;obtain⟨a,ag,rfl,-⟩:=h;obtain⟨n,t⟩:=aH l.length;have m:=ae t;have E:=ae N;rw[t] at c hw hl H⊢;clear t N
 go_enter func118,ntmps118
 go_wp2_with fail;refine c.out.mono ?_;rintro e w1 ⟨⟨r1,rfl,u⟩,K⟩;rw[List.nil_append] at u;have U:=ae u;have R:=ae K;clear c u K;go_wp2_with fail
 go_loopw [0,14] (fun r i wr=>∃(k:Nat),k <= n /\ i=.int .i64 (k:Int) /\ wr.ownsRow w.heap.size 5 1 r (cj n++(l.take k).flatMap bD).length ((cj n++(l.take k).flatMap bD).map B) /\ Below w.heap.size w wr) (fun _ i _=>n-(intOf i).toNat)
 case atStart=>exact⟨0,by omega,rfl,by simpa using U.out,R.out⟩
 case round=>
  obtain⟨k,ai,rfl,d,g⟩:=hrel
  by_cases Y:k<n
  ·have Z:(k:Int)<(n:Int):=by omega
   have o:k<l.length:=by rw[m.out];exact Y
   have D:=H.out.keep (w':=wr) fun b C _=>g.block b C
   rw[<- m.out] at D;obtain⟨b,ak,rfl,-,-,M⟩:=gF D (by omega);have I:=M k o;have J:aO (fun q=>q<wr.heap.size) wr _ _:=(aO.of_owns d (fun _=>True) fun _ _ _=>trivial).insideU
   have aa:((l.take k).flatMap bD).length <= k*200000:=by
    have C:∀(q:List bR),(∀x∈q,x.length <= 100000) -> (q.flatMap bD).length <= q.length*200000:=fun q=>by
     induction q with
     |nil=>intro _;simp
     |cons x q ih=>
      intro p;have h1:=ih fun y j=>p y (List.mem_cons_of_mem _ j)
      have h2:=p x List.mem_cons_self;have h3:=cF x.length;have X:(bD x).length=(cj x.length).length+x.length:=by unfold bD;rw[aA]
      rw[List.flatMap_cons,aA,aD,X];omega
    have:=C (l.take k) fun x p=>E.out x (List.mem_of_mem_take p)
    rw[List.length_take,Nat.min_eq_left (by omega)] at this;exact this
   have ad:=cF n;have s:=lS wr _ _ _ J l[k] (by have:=E.out _ (aC o);omega) (by rw[aA];omega);obtain⟨y,j⟩:=aH l[k]
   have P:cj n++(l.take (k+1)).flatMap bD=(cj n++(l.take k).flatMap bD)++bD y:=by
    rw[List.take_succ_eq_append_getElem o,List.flatMap_append,j,aB];simp
   rw[j] at s I;have c:=ae s;have W:=ae P;have f:=ae g;obtain⟨ar,cr,rfl⟩:=aK d;obtain⟨z,Q⟩:=aH ((cj n++(l.take k).flatMap bD).length);rw[Q] at c⊢;clear s P g d J aa ad j M D o Q;go_wp2_with fail;refine c.out.mono ?_;rintro e w2 ⟨⟨r2,rfl,A⟩,L⟩;rw[<- W.out] at A;have V:=ae (bP A f.out.size);have S:=ae (f.out.trans (L.mono f.out.size));clear c A L I;go_wp2_with fail
   go_roundw
   case rel=>exact⟨k+1,by omega,by go_num,V.out,S.out⟩
   case measure=>simp[intOf];omega
  ·have Z:¬(k:Int)<(n:Int):=by omega
   have O:l.take k=l:=List.take_of_length_le (by rw[m.out];omega);rw[O] at d;have T:=ae d;have f:=ae g;clear d g O;go_wp2_with fail
   go_ret
   exact⟨⟨_,rfl,by have h:=T.out;unfold fI;rw[m.out];exact h⟩,f.out⟩
end
section
open Go.Lib
attribute [local go_sem ↓] aV
attribute [local go_sem] opC upC
end
section
open Go.Lib
theorem iS(F:aX)(a:Option Addr)(c:Nat)(b:List UInt8)(d:dO)(h:vV w n a c b d)(g:aO F w (.slice a b.length c) b)(hF:∀q,F q -> q<w.heap.size):
 Calls aE 189 #[.pointer (some ⟨n,0,none⟩)] w fun e f=>e=.returned (.int .i64 (cA d).1) /\ vV f n a c b (cA d).2 /\ aT (fun q=>q=n) w f:=
 tk (.inr rfl) w n F a c b d h g fun k j W i=>jW W F a c b k (g.keep (w':=W) fun q m l=>i.block q l) j
theorem tx(F:aX)(a:Option Addr)(c:Nat)(b:List UInt8)(d:dO)(h:vV w n a c b d)(g:aO F w (.slice a b.length c) b)(hF:∀q,F q -> q<w.heap.size):
 Calls aE 190 #[.pointer (some ⟨n,0,none⟩)] w fun e f=>e=.returned (.string ⟨(cJ d).1.toArray⟩) /\ vV f n a c b (cJ d).2 /\ aT (fun q=>q=n) w f:=
 qZ (.inr rfl) w n F a c b d h g fun k j W i=>nW W F a c b k (g.keep (w':=W) fun q m l=>i.block q l) j
end
section
open Go.Lib
attribute [local go_sem ↓] aV
attribute [local go_sem] opC upC
structure jd(w:World)(M:Nat)(av:Option Addr)(cap:Nat)(b:List UInt8)(W:World)(l:List Int)(its:List RIt)(gs:List RGo)(az:Option Addr)(cz:Nat)(ai:Option Addr)(ci:Nat)(ag:Option Addr)(cg:Nat)(st:dO):Prop where
 bel:Below w.heap.size w W
 res:Blk W w.heap.size [.slice none 0 0,.slice none 0 0,.slice none 0 0] 75
 rd:vV W (w.heap.size+1) av cap b st
 map:Blk W M [.slice az l.length cz,.slice ai its.length ci,.slice ag gs.length cg] 75
 hM:w.heap.size+1<M
 seen:W.ownsRow (M+1) 3 1 (.slice az l.length cz) l.length (l.map eI)
 items:W.ownsRow (M+1) 129 4 (.slice ai its.length ci) its.length (its.flatMap bU)
 gone:W.ownsRow (M+1) 130 3 (.slice ag gs.length cg) gs.length (gs.flatMap dC)
section
variable {w:World} {M:Nat} {av:Option Addr} {cap:Nat} {b:List UInt8} {W W':World} {l:List Int} {its:List RIt} {gs:List RGo} {az:Option Addr} {cz:Nat} {ai:Option Addr} {ci:Nat} {ag:Option Addr} {cg:Nat} {st:dO}
theorem vV.blk(h:vV W i av cap b st):∃L,Blk W i L 238:=by
 obtain⟨k,c,a,-⟩:=h;exact⟨_,a⟩
theorem jd.read(h:jd w M av cap b W l its gs az cz ai ci ag cg st)(a:aT (fun q=>q=w.heap.size+1) W W'){d:dO}(f:vV W' (w.heap.size+1) av cap b d):jd w M av cap b W' l its gs az cz ai ci ag cg d:=by
 have e:=h.hM;exact⟨h.bel.trans (a.below (fun q c=>by have g:q=w.heap.size+1:=c;omega) h.bel.size),h.res.keep (a.block _ h.res.lt (by show ¬w.heap.size=w.heap.size+1;omega)),f,h.map.keep (a.block _ h.map.lt (by show ¬M=w.heap.size+1;omega)),e,jz h.seen a (fun q c=>by show ¬q=w.heap.size+1;omega),jz h.items a (fun q c=>by show ¬q=w.heap.size+1;omega),jz h.gone a (fun q c=>by show ¬q=w.heap.size+1;omega)⟩
theorem jd.kept(h:jd w M av cap b W l its gs az cz ai ci ag cg st)(a:Below W.heap.size W W'):jd w M av cap b W' l its gs az cz ai ci ag cg st:=by
 have c:w.heap.size+1<W.heap.size:=h.rd.lt;exact⟨h.bel.trans (a.mono h.bel.size),h.res.keep (a.block _ h.res.lt),h.rd.keep (a.block _ c),h.map.keep (a.block _ h.map.lt),h.hM,bm h.seen a,bm h.items a,bm h.gone a⟩
theorem jd.far(h:jd w M av cap b W l its gs az cz ai ci ag cg st)(g:M<i)(c:∀q,(Value.slice az l.length cz).ownBlock=some q -> q≠i)(d:∀q,(Value.slice ai its.length ci).ownBlock=some q -> q≠i)(e:∀q,(Value.slice ag gs.length cg).ownBlock=some q -> q≠i)(a:Nat)(u:Value):jd w M av cap b (W.setCell ⟨i,a,none⟩ u) l its gs az cz ai ci ag cg st:=by
 have f:=h.hM;exact⟨h.bel.setCell (p:=⟨i,a,none⟩) (by show w.heap.size <= i;omega) _,h.res.set_other _ (by show w.heap.size≠i;omega),h.rd.keep (Below.heap_setCell _ _ _ _ (by show w.heap.size+1≠i;omega)),h.map.set_other _ (by show M≠i;omega),f,jA h.seen c u,jA h.items d u,jA h.gone e u⟩
theorem jd.sn(h:jd w M av cap b W l its gs az cz ai ci ag cg st){x:Int}{c:Option Addr}(d:W.grownBy W' (Value.slice az l.length cz).ownBlock)
 (t:W'.ownsRow (M+1) 3 1 (.slice c (l.length+1) j) (l.length+1) (l.map eI++[eI x])):jd w M av cap b (W'.setCell ⟨M,0,none⟩ (.slice c (l.length+1) j)) (l++[x]) its gs c j ai ci ag cg st:=by
 have q:=h.hM;obtain⟨k,o,u,s,v⟩:=h.rd;have e:=h.map.grownNe h.seen (by decide) d;have r:Below w.heap.size w W':=h.bel.trans (Below.grownOwn h.seen d h.bel.size (by omega));have f:(l++[x]).length=l.length+1:=by simp
 have n:=(u.grownNe h.seen (by decide) d).set_other (.slice c (l.length+1) j) (a:=⟨M,0,none⟩) (by show w.heap.size+1≠M;omega)
 have m:(W'.setCell ⟨M,0,none⟩ (.slice c (l.length+1) j)).ownsRow (M+1) 3 1 (.slice c (l++[x]).length j) (l++[x]).length ((l++[x]).map eI):=by
  rw[f];have:=aL (i:=0) t e (by decide) (.slice c (l.length+1) j);simpa using this
 have g:=e.set 0 (.slice c (l.length+1) j);rw[<- f] at g;rw[<- f] at m n⊢;exact⟨r.setCell (p:=⟨M,0,none⟩) (by show w.heap.size <= M;omega) _,(h.res.grownNe h.seen (by decide) d).set_other _ (by show w.heap.size≠M;omega),⟨k,o,n,s,v⟩,g,q,m,aL (bY h.items h.seen (by decide) d) e (by decide) _,aL (bY h.gone h.seen (by decide) d) e (by decide) _⟩
theorem jd.item(h:jd w M av cap b W l its gs az cz ai ci ag cg st){x:RIt}{c:Option Addr}(d:W.grownBy W' (Value.slice ai its.length ci).ownBlock)
 (t:W'.ownsRow (M+1) 129 4 (.slice c (its.length+1) j) (its.length+1) (its.flatMap bU++bU x)):jd w M av cap b (W'.setCell ⟨M,1,none⟩ (.slice c (its.length+1) j)) l (its++[x]) gs az cz c j ag cg st:=by
 have q:=h.hM;obtain⟨k,o,u,s,v⟩:=h.rd;have e:=h.map.grownNe h.items (by decide) d;have r:Below w.heap.size w W':=h.bel.trans (Below.grownOwn h.items d h.bel.size (by omega));have f:(its++[x]).length=its.length+1:=by simp
 have n:=(u.grownNe h.items (by decide) d).set_other (.slice c (its.length+1) j) (a:=⟨M,1,none⟩) (by show w.heap.size+1≠M;omega)
 have m:(W'.setCell ⟨M,1,none⟩ (.slice c (its.length+1) j)).ownsRow (M+1) 129 4 (.slice c (its++[x]).length j) (its++[x]).length ((its++[x]).flatMap bU):=by
  rw[f];have:=aL (i:=1) t e (by decide) (.slice c (its.length+1) j);simpa using this
 have g:=e.set 1 (.slice c (its.length+1) j);rw[<- f] at g;rw[<- f] at m n⊢;exact⟨r.setCell (p:=⟨M,1,none⟩) (by show w.heap.size <= M;omega) _,(h.res.grownNe h.items (by decide) d).set_other _ (by show w.heap.size≠M;omega),⟨k,o,n,s,v⟩,g,q,aL (bY h.seen h.items (by decide) d) e (by decide) _,m,aL (bY h.gone h.items (by decide) d) e (by decide) _⟩
theorem jd.gon(h:jd w M av cap b W l its gs az cz ai ci ag cg st){x:RGo}{c:Option Addr}(d:W.grownBy W' (Value.slice ag gs.length cg).ownBlock)
 (t:W'.ownsRow (M+1) 130 3 (.slice c (gs.length+1) j) (gs.length+1) (gs.flatMap dC++dC x)):jd w M av cap b (W'.setCell ⟨M,2,none⟩ (.slice c (gs.length+1) j)) l its (gs++[x]) az cz ai ci c j st:=by
 have q:=h.hM;obtain⟨k,o,u,s,v⟩:=h.rd;have e:=h.map.grownNe h.gone (by decide) d;have r:Below w.heap.size w W':=h.bel.trans (Below.grownOwn h.gone d h.bel.size (by omega));have f:(gs++[x]).length=gs.length+1:=by simp
 have n:=(u.grownNe h.gone (by decide) d).set_other (.slice c (gs.length+1) j) (a:=⟨M,2,none⟩) (by show w.heap.size+1≠M;omega)
 have m:(W'.setCell ⟨M,2,none⟩ (.slice c (gs.length+1) j)).ownsRow (M+1) 130 3 (.slice c (gs++[x]).length j) (gs++[x]).length ((gs++[x]).flatMap dC):=by
  rw[f];have:=aL (i:=2) t e (by decide) (.slice c (gs.length+1) j);simpa using this
 have g:=e.set 2 (.slice c (gs.length+1) j);rw[<- f] at g;rw[<- f] at m n⊢;exact⟨r.setCell (p:=⟨M,2,none⟩) (by show w.heap.size <= M;omega) _,(h.res.grownNe h.gone (by decide) d).set_other _ (by show w.heap.size≠M;omega),⟨k,o,n,s,v⟩,g,q,aL (bY h.seen h.gone (by decide) d) e (by decide) _,aL (bY h.items h.gone (by decide) d) e (by decide) _,m⟩
theorem jd.mapV(h:jd w M av cap b W l its gs az cz ai ci ag cg st)(d:∀x∈l,0 <= x /\ x <= 1099511627776)(e:∀x∈its,ItB i x)(f:∀x∈gs,GoB i x)(o:i <= 1000000):
 dl (fun q=>w.heap.size<q) W (.agg #[.slice az l.length cz,.slice ai its.length ci,.slice ag gs.length cg]) ⟨l,its,gs⟩:=by
 have m:=h.hM;refine⟨_,_,_,rfl,(Rows.of_owns h.seen).mono fun q a _=>by have:=a.1;omega,(Rows.of_owns h.items).mono fun q a _=>by have:=a.1;omega,(Rows.of_owns h.gone).mono fun q a _=>by have:=a.1;omega,fun x c=>?_,fun x c=>?_,fun x c=>?_⟩
 ·have:=d x c;unfold eX;omega
 ·obtain⟨g,j,k,p⟩:=e x c;unfold eX;omega
 ·obtain⟨g,j,k⟩:=f x c;unfold eX;omega
end
end
section
open Go.Lib
attribute [local go_sem ↓] aV
attribute [local go_sem] opC upC told bG br bH bt bw bI bJ
theorem Do{w W:World}(x y z:Value)(c:dl (fun q=>w.heap.size<q) W u r):
 dl (fun q=>w.heap.size <= q) (((W.setCell ⟨w.heap.size,0,none⟩ x).setCell ⟨w.heap.size,1,none⟩ y).setCell ⟨w.heap.size,2,none⟩ z) u r:=by
 refine(c.keep (w':=((W.setCell ⟨w.heap.size,0,none⟩ x).setCell ⟨w.heap.size,1,none⟩ y).setCell ⟨w.heap.size,2,none⟩ z) fun q b _=>?_).mono fun q b _=>Nat.le_of_lt b
 have a:q≠w.heap.size:=by have d:w.heap.size<q:=b;omega
 exact(Below.heap_setCell _ _ _ _ a).trans ((Below.heap_setCell _ _ _ _ a).trans (Below.heap_setCell _ _ _ _ a))
theorem wK(p:Option Addr)(s:Nat)(b:List UInt8)(hB:aO F w (.slice p b.length s) b)(hF:∀q,F q -> q<w.heap.size)(hl:b.length <= 60000):
 Calls aE 134 #[.slice p b.length s] w (zv w b):=by
 have u:=ae (show ∀a,Below w.heap.size w a -> aO F a (.slice p b.length s) b /\ ∀q,F q -> q<a.heap.size from fun a hb=>⟨hB.keep (w':=a) fun q J _=>hb.block q (hF q J),fun q J=>aw (hF q J) hb.size⟩);obtain⟨M,hM⟩:=aH (w.heap.size+1+1);obtain⟨w4,bN⟩:=aQ (((w.alloc (.cells #[.slice none 0 0,.slice none 0 0,.slice none 0 0] 75)).alloc (.cells #[.slice p b.length s,.int .i64 0,.bool false] 238)).alloc (.cells #[.slice none 0 0,.slice none 0 0,.slice none 0 0] 75))
 have D:jd w M p s b w4 [] [] [] none 0 none 0 none 0 (some b):=by
  have r1:=((Blk.new w #[.slice none 0 0,.slice none 0 0,.slice none 0 0] 75).alloc (.cells #[.slice p b.length s,.int .i64 0,.bool false] 238)).alloc (.cells #[.slice none 0 0,.slice none 0 0,.slice none 0 0] 75);have r2:=(Blk.new (w.alloc (.cells #[.slice none 0 0,.slice none 0 0,.slice none 0 0] 75)) #[.slice p b.length s,.int .i64 0,.bool false] 238).alloc (.cells #[.slice none 0 0,.slice none 0 0,.slice none 0 0] 75);have r3:=Blk.new ((w.alloc (.cells #[.slice none 0 0,.slice none 0 0,.slice none 0 0] 75)).alloc (.cells #[.slice p b.length s,.int .i64 0,.bool false] 238)) #[.slice none 0 0,.slice none 0 0,.slice none 0 0] 75;simp only[World.size_alloc] at r2 r3;rw[<- bN] at r1 r2 r3;rw[hM] at r3;refine⟨?_,r1,⟨0,false,r2,Nat.zero_le _,by simp⟩,r3,by omega,World.ownsRow_nil _ _ _ _,World.ownsRow_nil _ _ _ _,World.ownsRow_nil _ _ _ _⟩;rw[bN];exact(((Below.refl w.heap.size w).alloc (aq _) _).alloc (by simp) _).alloc (by simp;omega) _
 have HD:=ae D;have b2:=ae bN;have Hl:=ae hl;obtain⟨n,hn⟩:=aH b.length;have c6:¬(60000:Int)<(n:Int):=by omega
 have Hn:=ae hn;have HM:=ae hM;clear hB hF D bN hl;rw[hn];rw[hn] at b2;clear hn
 go_enter func134,ntmps134
 go_wp2_with fail;rw[<- b2.out];clear hM b2
 go_loopw [6] (fun i wr=>∃k:Nat,k <= 8 /\ i=.int .i64 (k:Int) /\ ∃L U az cz,ic k ([],some b)=(L,U) /\ L.length=k /\ jd w M p s b wr L [] [] az cz none 0 none 0 U) (fun i _=>8-(intOf i).toNat)
 case atStart=>exact⟨0,by omega,rfl,[],some b,none,0,rfl,rfl,HD.out⟩
 case round=>
  obtain⟨k,hk,rfl,L,U,az,cz,bK,hL,D⟩:=hrel
  by_cases c4:k<8
  ·have cV:(k:Int)<8:=by omega
   have pm:∀a,aT (fun q=>q=w.heap.size+1 \/ M<q) wr.drew a -> a.cell? ⟨M,0,none⟩=some (.slice az L.length cz):=fun a hh=>aT.cellB hh (D.map.cell 0) (by have:=D.hM;show ¬(M=w.heap.size+1 \/ M<M);omega)
   have bk:=D.kept (W':=wr.drew) ((Below.refl wr.heap.size wr).drew);have l:=ae bk;have f:=ae (iS wr.drew (w.heap.size+1) F p s b U bk.rd (u.out _ bk.bel).1 (u.out _ bk.bel).2);clear D bk;go_wp2_with fail;refine dP (aT (fun q=>q=w.heap.size+1 \/ M<q)) 7 (up 3 [503,504,505,6,507]) (by kernel_rfl) ?_;apply bM;rfl;intro a C;go_simp;(repeat (simp(disch:=omega) only[af,if_pos];go_simp));exact aF;refine cU rfl rfl (fun KK y=>?_);go_simp;refine f.out.mono ?_;rintro e V ⟨rfl,g,ce⟩;refine⟨_,rfl,aT.trans (aT.refl _ _) ce (fun i hi=>.inl (.inl hi)),y _ _ ?_⟩;have bF:=l.out.read ce g;clear y KK f ce g pm l;go_simp;obtain⟨x,R⟩:=aH ((cA U).1);rw[R];obtain⟨i0,t1,t2,t3,t4⟩:=info_parts vE;obtain⟨va,w9,hr,ad,G⟩:=cu (P:=aE) V (M+1) 33 3 underlying33 t1 t2 t3 t4 rfl (by decide) (.slice az L.length cz) L.length _ bF.seen #[.int .i64 x] rfl (by simp[Value.oneCell']) (by unfold maxLen;omega) (by omega) bF.map.lt;obtain⟨a5,c5,rfl⟩:=aK ad;have I:=bF.kept (aI V (.cells #[.int .i64 x] 3));have b5:=I.sn (x:=x) G (by simpa using ad);have ca:=I.map.grownNe I.seen (by decide) G;have k1:aT (fun q=>q=w.heap.size+1 \/ M<q) V (V.alloc (.cells #[.int .i64 x] 3)):=(aT.refl _ V).alloc _
   have k2:aT (fun q=>q=w.heap.size+1 \/ M<q) (V.alloc (.cells #[.int .i64 x] 3)) w9:=⟨G.os,G.tape,G.output,G.size,fun q J hn=>G.block q J fun e=>hn (.inr (by have:=(I.seen.lt q e.symm).1;omega))⟩
   obtain⟨d0,d1,d2⟩:=aS ca;have g0:=ca.free 0;obtain⟨da,bL⟩:=aQ (w9.setCell ⟨M,0,none⟩ (.slice a5 (L.length+1) c5));rw[<- bL] at b5;rw[hL] at hr bL d0;have al:=ae b5;have cQ:=ae bL;have Hx:=ae R;clear bF I b5 bL ca ad G t1 t2 t3 t4 R;refine cU rfl rfl (fun KK y=>?_);go_simp
   first|refine⟨k1,y _ _ ?_⟩|refine y _ _ ?_
   clear y KK;go_simp;refine cU rfl rfl (fun KK y=>?_);go_simp
   first|refine⟨k2,y _ _ ?_⟩|refine y _ _ ?_
   clear y KK k1 k2 hr;go_simp;apply bM;rfl;intro a C;go_simp;(repeat (simp(disch:=omega) only[af,if_pos];go_simp));exact aF;refine cZ rfl rfl rfl (fun KK y=>?_);go_simp;refine y _ _ ?_;clear y KK;go_simp;refine dt ?_;rw[<- cQ.out];clear d0 d1 d2 g0;go_wp2_with fail
   go_roundw
   case rel=>exact⟨k+1,by omega,by go_num,L++[x],(cA U).2,a5,c5,by rw[jy,bK,Hx.out],by simp[hL],al.out⟩
   case measure=>simp[intOf];omega
  ·have cV:¬(k:Int)<8:=by omega
   obtain rfl:k=8:=by omega
   have cv:o5 b=(L,U):=bK;have cj:=q7 8 ([],some b);rw[bK] at cj;have bW:=ae cv;have HL:=ae hL;have bc:=ae D;have cL:=ae (show szS U <= b.length+1 from cj);clear D bK hk cv hL cj HD;obtain⟨⟨n0,s0⟩,ay⟩:=aH (cA U);have aL:=gE U;have aR:=(iG U).1;rw[ay] at aL aR;dsimp only at aL aR;obtain⟨N,rfl⟩:=Int.eq_ofNat_of_zero_le aL.1;have cM:=ae (au aR cL.out);have cE:=ae (show fH fW N ([],s0)=jP b by unfold jP;rw[bW.out];dsimp only;rw[ay];rfl);have c7:N <= 1099511627776:=by omega
   have c:=iS wr (w.heap.size+1) F p s b _ bc.out.rd (u.out _ bc.out.bel).1 (u.out _ bc.out.bel).2;rw[ay] at c;dsimp only at c;have f:=ae c;clear c;go_wp2_with fail
   skip
   refine f.out.mono ?_;rintro e w5 ⟨rfl,g,cx⟩;have cR:=ae (bc.out.read cx g);clear f g;clear aL aR ay bc cx;go_wp2_with fail
   go_loopw [8] (fun i wq=>∃(j:Nat)(z:List RIt)(ai:Option Addr)(ci:Nat)(sq:dO),j <= N /\ i=.int .i64 (j:Int) /\ fH fW (N-j) (z,sq)=jP b /\ (∀x∈z,ItB (b.length+1) x) /\ z.length+szS sq <= b.length+1 /\ jd w M p s b wq L z [] az cz ai ci none 0 sq) (fun i _=>N-(intOf i).toNat)
   case atStart=>exact⟨0,[],none,0,s0,by omega,rfl,cE.out,nofun,by simpa using cM.out,cR.out⟩
   case round=>
    obtain⟨j,z,ai,ci,sq,bH,rfl,br,cs,cB,D⟩:=hrel;obtain⟨d,a0,bu,bI,bv⟩:=id D.rd;obtain⟨z0,z1,z2⟩:=aS bu;have an:=ae br;have bU:=ae cs;have bh:=ae cB;have o:=ae D;have ao:=ae bv;clear br cs cB D bu bI bv;rcases Decidable.em (j=N \/ a0=true) with E|E
    ·have co:=ae (show jP b=(z,sq) by
      rw[<- an.out];rcases E with rfl|rfl
      ·rw[Nat.sub_self];rfl
      ·rw[show sq=none from ao.out,js])
     by_cases ba:j=N
     case' pos=>subst ba
     case' neg=>
      obtain rfl:a0=true:=E.resolve_left ba;have b7:(j:Int)<(N:Int):=by omega
      clear ba
     all_goals
      clear an bH E;go_wp2_with fail;obtain⟨⟨c9,cl⟩,ay⟩:=aH (cA sq);have aL:=gE sq;have aR:=(iG sq).1;rw[ay] at aL aR;dsimp only at aL aR;obtain⟨K,rfl⟩:=Int.eq_ofNat_of_zero_le aL.1;have cN:=ae (show szS cl <= b.length+1 by have:=bh.out;omega);have cF:=ae (show fH fY K ([],cl)=lj b by unfold lj;rw[co.out];dsimp only;rw[ay];rfl);have c8:K <= 1099511627776:=by omega
      clear z0 z1 z2;have c:=iS wr (w.heap.size+1) F p s b _ o.out.rd (u.out _ o.out.bel).1 (u.out _ o.out.bel).2;rw[ay] at c;dsimp only at c;have f:=ae c;clear c;go_wp2_with fail
      skip
      refine f.out.mono ?_;rintro e y5 ⟨rfl,g,cy⟩;have cT:=ae (o.out.read cy g);clear f g;clear aL aR ay o cy;go_wp2_with fail
      go_loopw [10] (fun i wz=>∃(j:Nat)(B:List RGo)(ag:Option Addr)(cg:Nat)(sg:dO),j <= K /\ i=.int .i64 (j:Int) /\ fH fY (K-j) (B,sg)=lj b /\ (∀x∈B,GoB (b.length+1) x) /\ B.length+szS sg <= b.length+1 /\ jd w M p s b wz L z B az cz ai ci ag cg sg) (fun i _=>K-(intOf i).toNat)
      case atStart=>exact⟨0,[],none,0,cl,by omega,rfl,cF.out,nofun,by simpa using cN.out,cT.out⟩
      case round=>
       obtain⟨j,B,ag,cg,sg,bH,rfl,br,cr,cC,D⟩:=hrel;obtain⟨d,a0,bu,bI,bv⟩:=id D.rd;obtain⟨z0,z1,z2⟩:=aS bu;have an:=ae br;have bT:=ae cr;have bD:=ae cC;have o:=ae D;have ao:=ae bv;have cG:=ae bI;clear br cr cC D bu bI bv;rcases Decidable.em (j=K \/ a0=true) with E|E
       ·have bB:=ae (show lj b=(B,sg) by
         rw[<- an.out];rcases E with rfl|rfl
         ·rw[Nat.sub_self];rfl
         ·rw[show sg=none from ao.out,js])
        clear an;cases a0 with
        |true=>
         clear E;obtain rfl:sg=none:=ao.out
         by_cases ba:j=K
         case' pos=>subst ba
         case' neg=>
          have b7:(j:Int)<(K:Int):=by omega
          clear ba
         all_goals
          clear bH;have W:=ae (show fi b=(.empty,5) by unfold fi;rw[if_neg];rw[bB.out];exact fun h=>nomatch h.1);have pb:∀a,aJ wr.drew a -> a.cell? ⟨w.heap.size+1,2,none⟩=some (.bool true):=fun a hh=>aZ z2 hh
          have l:=ae (o.out.kept (W':=wr.drew) ((Below.refl wr.heap.size wr).drew));go_wp2_with fail;refine bS aJ (up 15 [515,16,17,18,19,22,23,520,21,24,25]) (by kernel_rfl) ?_;apply aG;rfl;intro a C;go_simp;(repeat (simp(disch:=omega) only[af,if_pos];go_simp));exact aF
          repeat (apply bE;rfl;rfl;go_simp;go_simp;rfl;apply aG;rfl;intro a C;go_simp;(repeat (simp(disch:=omega) only[af,if_pos];go_simp));exact aF)
          refine aY ?_;clear pb z0 z1 z2 o;obtain⟨wd,bw⟩:=aQ wr.drew;rw[<- bw] at l⊢;clear bw;obtain⟨wf,T,ab,aa⟩:=dJ l.out.res l.out.bel (aq _) (.slice none 0 0) (.slice none 0 0) (.slice none 0 0);obtain⟨y0,y1,y2⟩:=aS l.out.res;have f0:=l.out.res.free 0;have f1:=l.out.res.free 1;have f2:=l.out.res.free 2;have Q:=ae (aS ab);have aU:=ae aa;have aW:=ae T;clear T ab aa;go_wp2_with fail;rw[<- aW.out];obtain⟨q0,q1,q2⟩:=Q.out;exact bodyPost_ret (v:=.tuple #[eG,.int .i64 5]) (by simp[results,results134,go_sem,q0,q1,q2,eG]) rfl ⟨_,by rw[W.out],by rw[W.out];exact(gK _ _).map eT,aU.out⟩
        |false=>
         obtain rfl:j=K:=by simpa using E
         clear E bH;obtain rfl:sg=some (b.drop d):=ao.out;have pb:∀a,aJ wr.drew a -> a.cell? ⟨w.heap.size+1,2,none⟩=some (.bool false):=fun a hh=>aZ z2 hh
         have l:=ae (o.out.kept (W':=wr.drew) ((Below.refl wr.heap.size wr).drew))
         by_cases bo:d=n
         case neg=>
          have pa:∀a,aJ wr.drew a -> a.cell? ⟨w.heap.size+1,1,none⟩=some (.int .i64 (d:Int)):=fun a hh=>aZ z1 hh
          have b8:¬(d:Int)=(n:Int):=by omega
          have cW:((d:Int) == (n:Int))=false:=beq_eq_false_iff_ne.2 b8;have cX:((d:Int) != (n:Int))=true:=by simp[b8]
          have W:=ae (show fi b=(.empty,5) by
           unfold fi;rw[if_neg];rw[bB.out];intro h;have h1:=congrArg List.length (Option.some.inj h.1);have:=cG.out;have:=Hn.out;simp at h1
           omega)
          clear bo;go_wp2_with fail;refine bS aJ (up 15 [515,16,17,18,19,22,23,520,21,24,25]) (by kernel_rfl) ?_;apply aG;rfl;intro a C;go_simp;(repeat (simp(disch:=omega) only[af,if_pos];go_simp));exact aF
          repeat (apply bE;rfl;rfl;go_simp;go_simp;rfl;apply aG;rfl;intro a C;go_simp;(repeat (simp(disch:=omega) only[af,if_pos];go_simp));exact aF)
          refine aY ?_;clear pb pa z0 z1 z2 o b8 cW cX;obtain⟨wd,bw⟩:=aQ wr.drew;rw[<- bw] at l⊢;clear bw;obtain⟨wf,T,ab,aa⟩:=dJ l.out.res l.out.bel (aq _) (.slice none 0 0) (.slice none 0 0) (.slice none 0 0);obtain⟨y0,y1,y2⟩:=aS l.out.res;have f0:=l.out.res.free 0;have f1:=l.out.res.free 1;have f2:=l.out.res.free 2;have Q:=ae (aS ab);have aU:=ae aa;have aW:=ae T;clear T ab aa;go_wp2_with fail;rw[<- aW.out];obtain⟨q0,q1,q2⟩:=Q.out;exact bodyPost_ret (v:=.tuple #[eG,.int .i64 5]) (by simp[results,results134,go_sem,q0,q1,q2,eG]) rfl ⟨_,by rw[W.out],by rw[W.out];exact(gK _ _).map eT,aU.out⟩
         case pos=>
          have pa:∀a,aJ wr.drew a -> a.cell? ⟨w.heap.size+1,1,none⟩=some (.int .i64 (n:Int)):=fun a hh=>by rw[<- bo];exact aZ z1 hh
          rw[bo] at z1;have cp:=ae (show j7 b=⟨L,z,B⟩ by unfold j7;rw[bW.out,co.out,bB.out]);have cn:=ae (show(lj b).2=some [] by rw[bB.out,bo,<- Hn.out];simp)
          have ct:∀x∈L,0 <= x /\ x <= 1099511627776:=fun x R=>by
           have:=pf 8 ([],some b) nofun x;have e:ic 8 ([],some b)=(L,U):=bW.out;rw[e] at this;exact this R
          have bJ:=l.out.mapV ct bU.out bT.out (by have:=Hl.out;omega);rw[<- cp.out] at bJ
          have b9:(∀x∈(j7 b).items,x.key.length <= 1000000000) /\ (∀x∈(j7 b).gone,x.key.length <= 1000000000):=by
           rw[cp.out];exact⟨fun x R=>by have:=(bU.out x R).1;have:=Hl.out;omega,fun x R=>by have:=(bT.out x R).1;have:=Hl.out;omega⟩
          obtain⟨ok,cf⟩:=aH (bp (j7 b));have hV:=gY wr.drew _ _ (j7 b) bJ b9.1 b9.2;rw[cf] at hV;have b6:∀a,aJ wr.drew a -> Below w.heap.size w a:=fun a hh=>l.out.bel.trans (hh.mono l.out.bel.size)
          obtain⟨c0,c1,c2⟩:=aS o.out.map;have bO:∀a,aJ wr.drew a -> a.cell? ⟨M,0,none⟩=_:=fun a hh=>aZ c0 hh
          have bP:∀a,aJ wr.drew a -> a.cell? ⟨M,1,none⟩=_:=fun a hh=>aZ c1 hh
          have bQ:∀a,aJ wr.drew a -> a.cell? ⟨M,2,none⟩=_:=fun a hh=>aZ c2 hh
          have ps:∀a,aJ wr.drew a -> (convert 41 9 (.slice p n s)).run aE a=.ok (.string ⟨b.toArray⟩) a:=fun a hh=>by
           have:=kL (u.out a (b6 a hh)).1
           rwa [Hn.out] at this
          have HV:=ae hV;have cI:=ae bJ;have bf:=ae cf;have c3:=ae b6;clear bo ct bJ b9 cf hV b6 c0 c1 c2;go_wp2_with fail;refine bS aJ (up 15 [515,16,17,18,19,22,23,520,21,24,25]) (by kernel_rfl) ?_;apply aG;rfl;intro a C;go_simp;(repeat (simp(disch:=omega) only[af,if_pos];go_simp));exact aF
          repeat (apply bE;rfl;rfl;go_simp;go_simp;rfl;apply aG;rfl;intro a C;go_simp;(repeat (simp(disch:=omega) only[af,if_pos];go_simp));exact aF)
          refine bq rfl rfl (fun KK y=>?_);go_simp;refine HV.out.mono ?_;rintro e V ⟨rfl,ax⟩;refine⟨_,rfl,ax,y _ _ ?_⟩;clear y KK HV;have aN:=ae (l.out.kept ax);go_simp;cases ok with
          |false=>
           have W:=ae (show fi b=(.empty,5) by unfold fi;rw[if_neg];rw[bf.out];exact fun h=>nomatch h.2);apply aG;rfl;intro a C;go_simp;(repeat (simp(disch:=omega) only[af,if_pos];go_simp));exact aF
           repeat (apply bE;rfl;rfl;go_simp;go_simp;rfl;apply aG;rfl;intro a C;go_simp;(repeat (simp(disch:=omega) only[af,if_pos];go_simp));exact aF)
           refine aY ?_;clear pb pa bO bP bQ ps z0 z1 z2 o l ax;obtain⟨wf,T,ab,aa⟩:=dJ aN.out.res aN.out.bel (aq _) (.slice none 0 0) (.slice none 0 0) (.slice none 0 0);obtain⟨y0,y1,y2⟩:=aS aN.out.res;have f0:=aN.out.res.free 0;have f1:=aN.out.res.free 1;have f2:=aN.out.res.free 2;have Q:=ae (aS ab);have aU:=ae aa;have aW:=ae T;clear T ab aa;go_wp2_with fail;rw[<- aW.out];obtain⟨q0,q1,q2⟩:=Q.out;exact bodyPost_ret (v:=.tuple #[eG,.int .i64 5]) (by simp[results,results134,go_sem,q0,q1,q2,eG]) rfl ⟨_,by rw[W.out],by rw[W.out];exact(gK _ _).map eT,aU.out⟩
          |true=>
           have W:=ae (show fi b=(j7 b,0) by unfold fi;rw[if_pos ⟨cn.out,bf.out⟩])
           replace bO:∀a,aJ V a -> _:=fun a hh=>bO a (bC _ _ _ ax hh)
           replace bP:∀a,aJ V a -> _:=fun a hh=>bP a (bC _ _ _ ax hh)
           replace bQ:∀a,aJ V a -> _:=fun a hh=>bQ a (bC _ _ _ ax hh)
           replace ps:∀a,aJ V a -> _:=fun a hh=>ps a (bC _ _ _ ax hh)
           clear pb pa;have cc:=cI.out.later ax (aq _);have C:=pL V _ _ (j7 b) cc (fO (cq bf.out) (dr bf.out).2.1 (dr bf.out).2.2.1);rw[vv cn.out] at C;have HC:=ae C;have cK:=ae cc;clear C cc z0 z1 z2 o l ax;apply aG;rfl;intro a C;go_simp;(repeat (simp(disch:=omega) only[af,if_pos];go_simp));exact aF
           repeat (apply bE;rfl;rfl;go_simp;go_simp;rfl;apply aG;rfl;intro a C;go_simp;(repeat (simp(disch:=omega) only[af,if_pos];go_simp));exact aF)
           refine bq rfl rfl (fun KK y=>?_);go_simp;refine HC.out.mono ?_;rintro e w9 ⟨⟨r,rfl,hr⟩,bG⟩;refine⟨_,rfl,bG,y _ _ ?_⟩;clear y KK HC bO bP bQ ps;have pr:∀a,aJ w9 a -> (convert 41 9 r).run aE a=.ok (.string ⟨b.toArray⟩) a:=fun a hh=>kL (hr.keep (w':=a) fun q _ cY=>hh.block q cY)
           have al:=ae (aN.out.kept bG);have cw:=cK.out.later bG (aq _);obtain⟨wf,T,ab,aa⟩:=dJ al.out.res al.out.bel (aq _) (.slice az L.length cz) (.slice ai z.length ci) (.slice ag B.length cg);have cb:=Do (.slice az L.length cz) (.slice ai z.length ci) (.slice ag B.length cg) cw;rw[<- T] at cb;have aU:=ae aa;have aW:=ae T;have cH:=ae cb;have Q:=ae (aS ab);clear T ab aa cb cw hr bG aN;go_simp;apply aG;rfl;intro a C;go_simp;(repeat (simp(disch:=omega) only[af,if_pos];go_simp));exact aF
           repeat (apply bE;rfl;rfl;go_simp;go_simp;rfl;apply aG;rfl;intro a C;go_simp;(repeat (simp(disch:=omega) only[af,if_pos];go_simp));exact aF)
           refine aY ?_;clear pr;obtain⟨y0,y1,y2⟩:=aS al.out.res;have f0:=al.out.res.free 0;have f1:=al.out.res.free 1;have f2:=al.out.res.free 2;obtain⟨c0,c1,c2⟩:=aS al.out.map;go_wp2_with fail;rw[<- aW.out];obtain⟨q0,q1,q2⟩:=Q.out;exact bodyPost_ret (v:=.tuple #[.agg #[.slice az L.length cz,.slice ai z.length ci,.slice ag B.length cg],.int .i64 0]) (by simp[results,results134,go_sem,q0,q1,q2]) rfl ⟨_,by rw[W.out],by rw[W.out];exact cH.out,aU.out⟩
       have cd:j≠K:=fun h=>E (.inl h)
       have b7:(j:Int)<(K:Int):=by omega
       obtain⟨nr,bs⟩:∃nr,K-j=nr+1:=⟨K-j-1,by omega⟩
       clear cd;cases a0 with
       |true=>exact absurd (.inr rfl) E
       |false=>
        clear E;obtain⟨O,bl⟩:=aH (b.drop d);obtain rfl:sg=some O:=by rw[<- bl];exact ao.out
        have aV:=ae (vu O)
        have bg:=ae (show fH fY (K-(j+1)) (B++[(fY (some O)).1],(fY (some O)).2)=lj b by
         rw[<- an.out,bs,iD,show K-(j+1)=nr by omega])
        obtain⟨⟨t,s1⟩,ht⟩:=aH (cJ (some O));obtain⟨⟨A,s2⟩,a7⟩:=aH (cA s1);obtain⟨⟨H,s3⟩,a8⟩:=aH (cA s2);have bm:fY (some O)=(⟨t,A,H⟩,s3):=by unfold fY;rw[ht];dsimp only;rw[a7];dsimp only;rw[a8]
        rw[bm] at aV bg;have Ht:=ae ht;have b3:=ae a7;have b4:=ae a8;clear bl ht a7 a8 bm ao an bs;have c:=tx wr (w.heap.size+1) F p s b _ o.out.rd (u.out _ o.out.bel).1 (u.out _ o.out.bel).2;rw[Ht.out] at c;dsimp only at c;have f:=ae c;clear c;go_wp2_with fail
        skip
        refine f.out.mono ?_;rintro e v5 ⟨rfl,g,bt⟩;have S:=ae (o.out.read bt g);clear f g;obtain⟨v6,aM⟩:=aQ (v5.alloc (.cells #[.string ⟨t.toArray⟩,.int .i64 0,.int .i64 0] 130));have bn:Below v5.heap.size v5 v6:=by rw[aM];exact aI _ _
        obtain⟨X,hX⟩:=aH v5.heap.size;have be:=ae (show Blk v6 X [.string ⟨t.toArray⟩,.int .i64 0,.int .i64 0] 130 by rw[aM,<- hX];exact Blk.new _ _ _);have aP:=ae (show M<X by rw[<- hX];exact S.out.map.lt);have H0:=ae (show ∀q,(Value.slice az L.length cz).ownBlock=some q -> q≠X from fun q J e=>by have:=(S.out.seen.lt q J).2;omega);have H1:=ae (show ∀q,(Value.slice ai z.length ci).ownBlock=some q -> q≠X from fun q J e=>by have:=(S.out.items.lt q J).2;omega);have H2:=ae (show ∀q,(Value.slice ag B.length cg).ownBlock=some q -> q≠X from fun q J e=>by have:=(S.out.gone.lt q J).2;omega);have ar:=ae (S.out.kept bn);have bY:=ae aM;have a9:=ae (show ¬X=w.heap.size+1 by have:=aP.out;have:=S.out.hM;omega);clear aM bn z0 z1 z2 bt o;have c:=iS v6 (w.heap.size+1) F p s b _ ar.out.rd (u.out _ ar.out.bel).1 (u.out _ ar.out.bel).2;rw[b3.out] at c;dsimp only at c;have f:=ae c;clear c;go_wp2_with fail;rw[<- bY.out];refine f.out.mono ?_;rintro e v7 ⟨rfl,g,a3⟩;have bZ:=ae (ar.out.read a3 g);clear f g;clear hX;have d:=be.out.keep (a3.block _ be.out.lt a9.out);have e1:v7.cell? ⟨X,1,none⟩=some (.int .i64 0):=d.cell 1;have f1:=d.free 1;obtain⟨bA,m⟩:=aQ (v7.setCell ⟨X,1,none⟩ (.int .i64 A));have bd:=ae (show Blk bA X [.string ⟨t.toArray⟩,.int .i64 A,.int .i64 0] 130 by rw[m];exact d.set 1 _);have Z:=ae (bZ.out.far aP.out H0.out H1.out H2.out 1 (.int .i64 A));rw[<- m] at Z;have b0:=ae m;clear d m a3;have c:=iS bA (w.heap.size+1) F p s b _ Z.out.rd (u.out _ Z.out.bel).1 (u.out _ Z.out.bel).2;rw[b4.out] at c;dsimp only at c;have f:=ae c;clear c;go_wp2_with fail;rw[<- b0.out];refine f.out.mono ?_;rintro e v8 ⟨rfl,g,a4⟩;have b1:=ae (Z.out.read a4 g);clear f g;clear e1 f1;have d:=bd.out.keep (a4.block _ bd.out.lt a9.out);have e2:v8.cell? ⟨X,2,none⟩=some (.int .i64 0):=d.cell 2;have f2:=d.free 2;obtain⟨ak,m⟩:=aQ (v8.setCell ⟨X,2,none⟩ (.int .i64 H));have bV:=ae (show Blk ak X [.string ⟨t.toArray⟩,.int .i64 A,.int .i64 H] 130 by rw[m];exact d.set 2 _);have Y:=ae (b1.out.far aP.out H0.out H1.out H2.out 2 (.int .i64 H));rw[<- m] at Y;have bi:=ae m;clear d m a4;obtain⟨i0,t1,t2,t3,t4⟩:=info_parts qk;obtain⟨va,bz,hr,ad,G⟩:=cu (P:=aE) ak (M+1) 73 130 underlying73 t1 t2 t3 t4 rfl (by decide) (.slice ag B.length cg) B.length _ Y.out.gone #[.string ⟨t.toArray⟩,.int .i64 A,.int .i64 H] rfl (by simp[Value.oneCell']) (by have:=bD.out;have:=Hl.out;unfold maxLen;omega) (by have:=bD.out;have:=Hl.out;omega) Y.out.map.lt;obtain⟨a5,c5,rfl⟩:=aK ad;have I:=Y.out.kept (aI ak (.cells #[.string ⟨t.toArray⟩,.int .i64 A,.int .i64 H] 130));have a1:=I.gon (x:=⟨t,A,H⟩) G ad;have a2:=I.map.grownNe I.gone (by decide) G;have d1:bz.cell? ⟨M,2,none⟩=some (.slice ag B.length cg):=a2.cell 2;have g1:=a2.free 2;obtain⟨v12,a6⟩:=aQ (bz.setCell ⟨M,2,none⟩ (.slice a5 (B.length+1) c5));rw[<- a6] at a1;have m1:ak.cell? ⟨M,2,none⟩=some (.slice ag B.length cg):=Y.out.map.cell 2;obtain⟨k0,k1,k2⟩:=aS bV.out;have bx:ak.heap.size=v8.heap.size:=by rw[bi.out];simp[World.setCell]
        rw[bx] at hr;rw[bi.out] at m1 k0 k1 k2 hr;have bR:=ae a1;have bX:=ae a6;clear ad G a2 a1 a6 t1 t2 t3 t4 bx I;go_wp2_with fail;rw[<- bX.out]
        go_roundw
        case rel=>exact⟨j+1,_,a5,c5,s3,by omega,by go_num,bg.out,fun x R=>by
         rcases List.mem_append.1 R with h|h
         ·exact bT.out x h
         ·rw[List.mem_singleton.1 h];exact aV.out.2.mono (by have:=bD.out;omega),by have:=bD.out;have:=aV.out.1;rw[aA,List.length_singleton];omega,bR.out⟩
        case measure=>first|(simp[intOf];done)|(simp[intOf];omega)
    have cd:j≠N:=fun h=>E (.inl h)
    have b7:(j:Int)<(N:Int):=by omega
    obtain⟨nr,bs⟩:∃nr,N-j=nr+1:=⟨N-j-1,by omega⟩
    clear cd;cases a0 with
    |true=>exact absurd (.inr rfl) E
    |false=>
     clear E;obtain⟨O,bl⟩:=aH (b.drop d);obtain rfl:sq=some O:=by rw[<- bl];exact ao.out
     have aV:=ae (vt O)
     have bg:=ae (show fH fW (N-(j+1)) (z++[(fW (some O)).1],(fW (some O)).2)=jP b by
      rw[<- an.out,bs,iD,show N-(j+1)=nr by omega])
     obtain⟨⟨t,s1⟩,ht⟩:=aH (cJ (some O));obtain⟨⟨A,s2⟩,a7⟩:=aH (cA s1);obtain⟨⟨H,s3⟩,a8⟩:=aH (cA s2);obtain⟨⟨x3,s4⟩,ck⟩:=aH (cA s3);have bm:fW (some O)=(⟨t,A,H,x3⟩,s4):=by unfold fW;rw[ht];dsimp only;rw[a7];dsimp only;rw[a8];dsimp only;rw[ck]
     rw[bm] at aV bg;have Ht:=ae ht;have b3:=ae a7;have b4:=ae a8;have cS:=ae ck;clear bl ht a7 a8 ck bm ao an bs;have c:=tx wr (w.heap.size+1) F p s b _ o.out.rd (u.out _ o.out.bel).1 (u.out _ o.out.bel).2;rw[Ht.out] at c;dsimp only at c;have f:=ae c;clear c;go_wp2_with fail
     skip
     refine f.out.mono ?_;rintro e v5 ⟨rfl,g,bt⟩;have S:=ae (o.out.read bt g);clear f g;obtain⟨v6,aM⟩:=aQ (v5.alloc (.cells #[.string ⟨t.toArray⟩,.int .i64 0,.int .i64 0,.int .i64 0] 129));have bn:Below v5.heap.size v5 v6:=by rw[aM];exact aI _ _
     obtain⟨X,hX⟩:=aH v5.heap.size;have be:=ae (show Blk v6 X [.string ⟨t.toArray⟩,.int .i64 0,.int .i64 0,.int .i64 0] 129 by rw[aM,<- hX];exact Blk.new _ _ _);have aP:=ae (show M<X by rw[<- hX];exact S.out.map.lt);have H0:=ae (show ∀q,(Value.slice az L.length cz).ownBlock=some q -> q≠X from fun q J e=>by have:=(S.out.seen.lt q J).2;omega);have H1:=ae (show ∀q,(Value.slice ai z.length ci).ownBlock=some q -> q≠X from fun q J e=>by have:=(S.out.items.lt q J).2;omega);have H2:=ae (show ∀q,(Value.slice none ([]:List RGo).length 0).ownBlock=some q -> q≠X from nofun);have ar:=ae (S.out.kept bn);have bY:=ae aM;have a9:=ae (show ¬X=w.heap.size+1 by have:=aP.out;have:=S.out.hM;omega);clear aM bn z0 z1 z2 bt o;have c:=iS v6 (w.heap.size+1) F p s b _ ar.out.rd (u.out _ ar.out.bel).1 (u.out _ ar.out.bel).2;rw[b3.out] at c;dsimp only at c;have f:=ae c;clear c;go_wp2_with fail;rw[<- bY.out];refine f.out.mono ?_;rintro e v7 ⟨rfl,g,a3⟩;have bZ:=ae (ar.out.read a3 g);clear f g;clear hX;have d:=be.out.keep (a3.block _ be.out.lt a9.out);have e1:v7.cell? ⟨X,1,none⟩=some (.int .i64 0):=d.cell 1;have f1:=d.free 1;obtain⟨bA,m⟩:=aQ (v7.setCell ⟨X,1,none⟩ (.int .i64 A));have bd:=ae (show Blk bA X [.string ⟨t.toArray⟩,.int .i64 A,.int .i64 0,.int .i64 0] 129 by rw[m];exact d.set 1 _);have Z:=ae (bZ.out.far aP.out H0.out H1.out H2.out 1 (.int .i64 A));rw[<- m] at Z;have b0:=ae m;clear d m a3;have c:=iS bA (w.heap.size+1) F p s b _ Z.out.rd (u.out _ Z.out.bel).1 (u.out _ Z.out.bel).2;rw[b4.out] at c;dsimp only at c;have f:=ae c;clear c;go_wp2_with fail;rw[<- b0.out];refine f.out.mono ?_;rintro e v8 ⟨rfl,g,a4⟩;have b1:=ae (Z.out.read a4 g);clear f g;clear e1 f1;have d:=bd.out.keep (a4.block _ bd.out.lt a9.out);have e2:v8.cell? ⟨X,2,none⟩=some (.int .i64 0):=d.cell 2;have f2:=d.free 2;obtain⟨cD,m⟩:=aQ (v8.setCell ⟨X,2,none⟩ (.int .i64 H));have cm:=ae (show Blk cD X [.string ⟨t.toArray⟩,.int .i64 A,.int .i64 H,.int .i64 0] 129 by rw[m];exact d.set 2 _);have bj:=ae (b1.out.far aP.out H0.out H1.out H2.out 2 (.int .i64 H));rw[<- m] at bj;have cO:=ae m;clear d m a4;have c:=iS cD (w.heap.size+1) F p s b _ bj.out.rd (u.out _ bj.out.bel).1 (u.out _ bj.out.bel).2;rw[cS.out] at c;dsimp only at c;have f:=ae c;clear c;go_wp2_with fail;rw[<- cO.out];refine f.out.mono ?_;rintro e v9 ⟨rfl,g,ch⟩;have cP:=ae (bj.out.read ch g);clear f g;clear e2 f2;have d:=cm.out.keep (ch.block _ cm.out.lt a9.out);have e3:v9.cell? ⟨X,3,none⟩=some (.int .i64 0):=d.cell 3;have f3:=d.free 3;obtain⟨ak,m⟩:=aQ (v9.setCell ⟨X,3,none⟩ (.int .i64 x3));have bV:=ae (show Blk ak X [.string ⟨t.toArray⟩,.int .i64 A,.int .i64 H,.int .i64 x3] 129 by rw[m];exact d.set 3 _);have Y:=ae (cP.out.far aP.out H0.out H1.out H2.out 3 (.int .i64 x3));rw[<- m] at Y;have bi:=ae m;clear d m ch;obtain⟨i0,t1,t2,t3,t4⟩:=info_parts ms;obtain⟨va,bz,hr,ad,G⟩:=cu (P:=aE) ak (M+1) 72 129 underlying72 t1 t2 t3 t4 rfl (by decide) (.slice ai z.length ci) z.length _ Y.out.items #[.string ⟨t.toArray⟩,.int .i64 A,.int .i64 H,.int .i64 x3] rfl (by simp[Value.oneCell']) (by have:=bh.out;have:=Hl.out;unfold maxLen;omega) (by have:=bh.out;have:=Hl.out;omega) Y.out.map.lt;obtain⟨a5,c5,rfl⟩:=aK ad;have I:=Y.out.kept (aI ak (.cells #[.string ⟨t.toArray⟩,.int .i64 A,.int .i64 H,.int .i64 x3] 129));have a1:=I.item (x:=⟨t,A,H,x3⟩) G ad;have a2:=I.map.grownNe I.items (by decide) G;have d1:bz.cell? ⟨M,1,none⟩=some (.slice ai z.length ci):=a2.cell 1;have g1:=a2.free 1;obtain⟨v12,a6⟩:=aQ (bz.setCell ⟨M,1,none⟩ (.slice a5 (z.length+1) c5));rw[<- a6] at a1;have m1:ak.cell? ⟨M,1,none⟩=some (.slice ai z.length ci):=Y.out.map.cell 1;obtain⟨k0,k1,k2,k3⟩:=dX bV.out;have bx:ak.heap.size=v9.heap.size:=by rw[bi.out];simp[World.setCell]
     rw[bx] at hr;rw[bi.out] at m1 k0 k1 k2 k3 hr;have bR:=ae a1;have bX:=ae a6;clear ad G a2 a1 a6 t1 t2 t3 t4 bx I;go_wp2_with fail;rw[<- bX.out]
     go_roundw
     case rel=>exact⟨j+1,_,a5,c5,s4,by omega,by go_num,bg.out,fun x R=>by
      rcases List.mem_append.1 R with h|h
      ·exact bU.out x h
      ·rw[List.mem_singleton.1 h];exact aV.out.2.mono (by have:=bh.out;omega),by have:=bh.out;have:=aV.out.1;rw[aA,List.length_singleton];omega,bR.out⟩
     case measure=>first|(simp[intOf];done)|(simp[intOf];omega)
end
section
attribute [local go_sem ↓] aV
attribute [local go_sem] opC upC
theorem oB(d:Int)(l:List bR)(f:Rows F w 1 v l.length (l.map eS))(hl:l.length <= 1000000)(Y:∀k∈l,k.length <= 1000000000):
 Calls aE 178 #[.int .i64 d,v] w fun e w'=>e=.returned (.bool (di d l)) /\ Below w.heap.size w w':=by
 obtain⟨s,I⟩:=aH (di d l);rw[I];obtain⟨n,H⟩:=aH l.length;obtain⟨a,ao,rfl,-⟩:=f.shape;have Hv:=ae f;rw[H] at hl⊢;have r:=ae I;have D:=ae H;have Hk:=ae Y;have C:=ae (show Below w.heap.size w w from Below.refl _ _);clear I H f Y
 go_enter func178,ntmps178
 by_cases ar:d<0
 ·
  obtain rfl:s=false:=by
   rw[<- r.out];cases f:di d l with
   |false=>rfl
   |true=>
    have g:=(eW d l).1 f;exact(absurd g.lo (by omega))
  go_wp2_with fail
  go_ret
  exact⟨rfl,C.out⟩
 by_cases av:d ≥ 8
 ·
  obtain rfl:s=false:=by
   rw[<- r.out];cases f:di d l with
   |false=>rfl
   |true=>
    have g:=(eW d l).1 f;exact(absurd g.hi (by omega))
  go_wp2_with fail
  go_ret
  exact⟨rfl,C.out⟩
 go_wp2_with fail
 go_loopw [5] (fun i wr=>∃k:Nat,k <= n /\ i=.int .i64 (k:Int) /\ Below w.heap.size w wr /\ (∀j (c:j<l.length),j<k -> fe l[j]=true) /\ ∀i j (hi:i<l.length) (c:j<l.length),i<j -> j<k -> l[i]≠l[j]) (fun i _=>n-(intOf i).toNat)
 case atStart=>exact⟨0,by omega,rfl,C.out,fun j _ c=>by omega,fun i j _ _ _ c=>by omega⟩
 case round=>
  obtain⟨k,ay,rfl,U,R,Z⟩:=hrel;have M:=ae U;have K:=ae R;have O:=ae Z;clear U R Z
  by_cases al:k<n
  ·have ak:(k:Int)<(n:Int):=by omega
   have A:k<l.length:=by rw[D.out];exact al
   go_wp2_with fail
   go_loopw [6] (fun i B=>∃j:Nat,j <= k /\ i=.int .i64 (j:Int) /\ Below w.heap.size w B /\ ∀i (hi:i<l.length),i<j -> l[i]≠l[k]) (fun i _=>k-(intOf i).toNat)
   case atStart=>exact⟨0,by omega,rfl,M.out,fun i _ hi=>by omega⟩
   case round=>
    rename World=>B
    obtain⟨j,z,rfl,T,aa⟩:=hrel;have q:=ae T;have P:=ae aa;clear T aa;have G:=Hv.out.keep (w':=B) fun b _ an=>q.out.block b an
    obtain⟨b,az,rfl,-,-,u⟩:=gF G (by omega);have e0:=u k A;obtain⟨x,m⟩:=aH l[k];rw[m] at e0;have t:=ae m
    by_cases ai:j<k
    ·have ag:(j:Int)<(k:Int):=by omega
     have ax:(j:Int)<(n:Int):=by omega
     have X:j<l.length:=by omega
     have g0:=u j X;obtain⟨y,J⟩:=aH l[j];rw[J] at g0;have Q:=ae J;clear u G m J
     by_cases o:y=x
     ·have ad:(y == x)=true:=by simpa using o
      obtain rfl:s=false:=by
       rw[<- r.out];cases f:di d l with
       |false=>rfl
       |true=>
        have g:=(eW d l).1 f;exact(absurd (List.nodup_iff_pairwise_ne.1 g.nodup) (fun hp=>(List.pairwise_iff_getElem.1 hp j k X A ai) (by rw[t.out,Q.out];exact o)))
      clear o;go_wp2_with fail
      go_quiet (fail)
      go_wp2_with fail
      go_ret
      exact⟨rfl,cM q.out _⟩
     ·have ad:(y == x)=false:=by simpa using o
      have He:=ae o;clear o;go_wp2_with fail
      go_quiet (fail)
      go_wp2_with fail
      go_roundw
      case rel=>exact⟨j+1,by omega,by go_num,cM q.out _,fun i hi p=>by
       rcases Nat.lt_succ_iff_lt_or_eq.1 p with h|h
       ·exact P.out i hi h
       ·subst h;rw[t.out,Q.out];exact He.out⟩
      case measure=>simp[intOf];omega
    ·have ag:¬(j:Int)<(k:Int):=by omega
     have W:j=k:=by omega
     have ab:=ae (show ∀i (hi:i<l.length),i<k -> l[i]≠l[k] by have:=P.out;rw[W] at this;exact this);have V:=ae (mM B x (Hk.out x (by rw[<- m];exact aC A)));obtain⟨kk,E⟩:=aH (fe x);rw[E] at V;have N:=ae E;clear u G m W E;go_wp2_with fail;refine V.out.mono ?_;rintro e w1 ⟨rfl,S⟩;have L:=ae (q.out.trans (S.mono q.out.size));clear V S;cases kk with
     |false=>
      obtain rfl:s=false:=by
       rw[<- r.out];cases f:di d l with
       |false=>rfl
       |true=>
        have g:=(eW d l).1 f;exact(absurd (g.keys x (by rw[<- t.out];exact aC A)) (by rw[N.out];exact Bool.false_ne_true))
      go_wp2_with fail
      go_ret
      exact⟨rfl,L.out⟩
     |true=>
      go_wp2_with fail
      go_roundw
      case rel=>exact⟨k+1,by omega,by go_num,L.out,fun j c z=>by
       rcases Nat.lt_succ_iff_lt_or_eq.1 z with h|h
       ·exact K.out j c h
       ·subst h;rw[t.out];exact N.out,fun i j hi c p z=>by
       rcases Nat.lt_succ_iff_lt_or_eq.1 z with h|h
       ·exact O.out i j hi c p h
       ·subst h;exact ab.out i hi p⟩
      case measure=>simp[intOf];omega
  ·have ak:¬(k:Int)<(n:Int):=by omega
   obtain rfl:s=true:=by
    rw[<- r.out,eW];refine⟨by omega,by omega,?_,fun x m=>?_⟩
    ·rw[List.nodup_iff_pairwise_ne,List.pairwise_iff_getElem];intro i j hi c p;exact O.out i j hi c p (by rw[D.out] at c;omega)
    ·obtain⟨j,c,rfl⟩:=List.mem_iff_getElem.1 m;exact K.out j c (by rw[D.out] at c;omega)
   go_wp2_with fail
   go_ret
   exact⟨rfl,M.out⟩
end
section
attribute [local go_sem ↓] aV
attribute [local go_sem] opC upC told bG br bH bt bw bI bJ
def D8{α:Type}(pl:α -> RPl)(enc:α -> List Value)(K:Nat)(e:TypeId)(B:Nat)(f:World)(l:List α)(x:α)(s c d:Value)(wr:World):Prop:=
 ∃(k:Nat)(b:Bool)(a:List α),k <= l.length /\ d=.int .i64 (k:Int) /\ c=.bool b /\ wr.ownsRow B e K s a.length (a.flatMap enc) /\ a++ez pl l x k b=dK pl l x /\ (a.length <= k+1 /\ (b=false -> a.length <= k)) /\ Below B f wr
theorem As(a b:bR)(c d:Int):((a,c)=(b,d) /\ (a == b)=true /\ (c == d)=true) \/ ((a,c)≠(b,d) /\ (a == b)=true /\ (c == d)=false) \/ ((a,c)≠(b,d) /\ (a == b)=false /\ True):=by
 by_cases e:a=b
 ·by_cases f:c=d
  ·subst e f;simp
  ·subst e;simp[f]
 ·simp[e]
theorem tz(L:List Value)(t:TypeId):iH (w.alloc (.cells L.toArray t)) w.heap.size 0 L:=fun j a=>by
 rw[Nat.zero_add,(Blk.new w L.toArray t).cell];simp[a]
def EG{α:Type}(pl:α -> RPl)(enc:α -> List Value)(V:α -> Value)(K a f:Nat):Prop:=
 ∀(w:World)(F:aX)(v:Value)(l:List α)(x:α),Rows F w K v l.length (l.flatMap enc) -> l.length <= 1000000 -> ∀(c:World)(R:List α)(d:World -> List α -> α -> Value -> Value -> Value -> World -> Prop),c=w.alloc (.cells (enc x).toArray a) -> iH c w.heap.size 0 (enc x) -> dK pl l x=R -> d=D8 pl enc K a (w.heap.size+1) ->
  Calls aE f #[v,V x] w fun e b=>(∃r,e=.returned r /\ b.ownsRow w.heap.size a K r R.length (R.flatMap enc)) /\ Below w.heap.size w b
theorem puts:EG RIt.pl bU itV 4 129 181 /\ EG RGo.pl dC goV 3 130 185:=by
 constructor<;>intro w F v l x hv hl t R aN ab hX hR ao
 all_goals
  replace hv:=hv.mono (G:=fun b=>b<w.heap.size) fun b _ o=>o
  have av:Below w.heap.size w t:=by rw[ab];exact aI _ _
  have aU:t.heap.size=w.heap.size+1:=by rw[ab];simp
  have Hs:=ae (show aN t l x (.slice none 0 0) (.bool false) (.int .i64 0) t by rw[ao];exact⟨0,false,[],by omega,rfl,rfl,World.ownsRow_nil _ _ _ _,by rw[tU];rfl,⟨by simp,fun _=>by simp⟩,Below.refl _ _⟩);obtain⟨n,hn⟩:=aH l.length;obtain⟨a,a3,rfl,-⟩:=hv.shape;have B:=ae (fun W (hb:Below (w.heap.size+1) t W)=>And.intro (hX.keep (hb.block _ (by omega))) ((hv.keep (w':=t) fun b _ o=>av.block b o).keep fun b a4 o=>hb.block b (by omega)));simp only[bU,dC,Go.Proofs.encStr,eI] at ab;rw[hn] at hl⊢;have aW:=ae ab;have aL:=ae av;have aM:=ae aU;have Hn:=ae hn;have HR:=ae hR;have an:=ae ao;clear hv hn ab av aU hX hR ao;simp only[itV,goV]
  first|go_enter func181,ntmps181|go_enter func185,ntmps185
  go_wp2_with fail;rw[<- aW.out]
  go_loopw [5,6,7] (fun s sd si wr=>aN t l x s sd si wr) (fun _ _ si _=>n-(intOf si).toNat)
  case atStart=>exact Hs.out
  case round=>
   rw[an.out] at hrel;obtain⟨k,aO,V,hk,rfl,rfl,E,f,⟨aQ,al⟩,ar⟩:=hrel;obtain⟨P,Q,rfl⟩:=aK E;obtain⟨U,S⟩:=aH V.length;rw[S] at E aQ al⊢;have A:=ae S;have J:=ae f;have M:=ae ar;have N:=ae (show w.heap.size+1 <= wr.heap.size by have:=ar.size;have:=aM.out;omega);rw[Hn.out] at hk;clear S f ar Hs
   by_cases a0:k<n
   ·have aZ:(k:Int)<(n:Int):=by omega
    have aa:k<l.length:=by rw[Hn.out];exact a0
    obtain⟨b,a7,rfl,aP,-,hc⟩:=uj (B.out t (Below.refl _ _)).2 (by omega) (fun _=>rfl)
    replace aP:b<w.heap.size:=aP
    replace hc:=hc k aa
    obtain⟨y,hy⟩:=aH l[k];rw[hy] at hc;have O:=ae hy;have L:=ae (fun W (hb:Below (w.heap.size+1) t W)=>hc.keep (hb.block b (by omega)));have HO:=ae (bm E (Below.refl _ _).drew);have aX:=ae (As y.key x.key y.dev x.dev);clear hc hy E;rcases aO with _|_
    case' false=>
     have a6:=al rfl;have az:=ae (fun W=>ni W y.key x.key y.dev x.dev);have H:=M;have I:=N;obtain⟨j,z⟩:=aH wr;clear al;rw[z] at H I;have m:∀c,aJ j.drew c -> Below (w.heap.size+1) t c:=fun c hh=>H.out.drew.trans (RowKit.Below.mono hh I.out)
     first|have g:=ke fun c hh=>(B.out c (m c hh)).1|have g:=kh fun c hh=>(B.out c (m c hh)).1
     simp only[Nat.zero_add] at g;obtain⟨p0,p1,-⟩:=g
     first|obtain⟨X,Y,-⟩:=ke fun c hh=>L.out c (m c hh)|obtain⟨X,Y,-⟩:=kh fun c hh=>L.out c (m c hh)
     have a2:IntKind.i64.wrap (k:Int)=(k:Int):=af _ (by omega);rw[<- z] at m p0 p1 X Y H I;clear z j;go_wp2_with fail;refine bS aJ (up 17 [517,18,19]) (by kernel_rfl) ?_;apply aG;rfl;intro c C;go_simp;(repeat (simp(disch:=omega) only[af,if_pos];go_simp));exact aF
     repeat (apply bE;rfl;rfl;go_simp;go_simp;rfl;apply aG;rfl;intro c C;go_simp;(repeat (simp(disch:=omega) only[af,if_pos];go_simp));exact aF)
     refine bq rfl rfl (fun KK hK=>?_);go_simp;refine(az.out _).mono ?_;rintro e j ⟨rfl,z⟩;refine⟨_,rfl,by rw[z];exact bF _,hK _ _ ?_⟩;clear hK KK p0 p1 X Y m az H I;go_simp;have d:=HO.out;have p:=M.out.drew;have u:w.heap.size+1 <= wr.drew.heap.size:=N.out;rw[z] at d p u;clear z
     by_cases o:plt y.pl x.pl
     case' pos=>
      rw[show decide (plt (y.key,y.dev) (x.key,x.dev))=true from decide_eq_true o];apply aG;rfl;intro c C;go_simp;(repeat (simp(disch:=omega) only[af,if_pos];go_simp));exact aF
      repeat (apply bE;rfl;rfl;go_simp;go_simp;rfl;apply aG;rfl;intro c C;go_simp;(repeat (simp(disch:=omega) only[af,if_pos];go_simp));exact aF)
      refine aY ?_
     case' neg=>
      rw[show decide (plt (y.key,y.dev) (x.key,x.dev))=false from decide_eq_false o];have f:=J.out;rw[vl l x k aa (by rw[O.out];exact o),List.append_cons] at f;clear o;apply aG;rfl;intro c C;go_simp;(repeat (simp(disch:=omega) only[af,if_pos];go_simp));exact aF
      repeat (apply bE;rfl;rfl;go_simp;go_simp;rfl;apply aG;rfl;intro c C;go_simp;(repeat (simp(disch:=omega) only[af,if_pos];go_simp));exact aF)
      refine aY ?_
      first|have g:=l4 (B.out j p).1|have g:=l5 (B.out j p).1
      simp only[Nat.zero_add] at g;obtain⟨x0,x1,x2,x3⟩:=g
      first|obtain⟨wz,P,Q,j,rfl,T,d,q,r⟩:=uk j d x (by omega) u|obtain⟨wz,P,Q,j,rfl,T,d,q,r⟩:=ul j d x (by omega) u
      have D:=p.trans ((aT.trans q r fun i h=>.inl h).below (fun i h=>h) u);rw[<- gr] at d;clear q r;have Hq:=ae D;clear D;go_wp2_with fail;have p:=Hq.out;have u:w.heap.size+1 <= j.heap.size:=by have:=p.size;have:=aM.out;omega
      have ak:(V++[x]).length=U+1:=by rw[aA,A.out];rfl
      clear x0 x1 x2 x3 T Hq;obtain⟨V,aR⟩:=aH (V++[x]);rw[aR] at f ak d;obtain⟨U,S⟩:=aH (U+1);rw[S] at ak d⊢;have aQ:U <= k+1:=by omega
      have J:=ae f;have A:=ae ak;clear f ak aR S
    case' true=>
     clear al;go_wp2_with fail;refine bS aJ (up 17 [517,18,19]) (by kernel_rfl) ?_;apply aG;rfl;intro c C;go_simp;(repeat (simp(disch:=omega) only[af,if_pos];go_simp));exact aF
     repeat (apply bE;rfl;rfl;go_simp;go_simp;rfl;apply aG;rfl;intro c C;go_simp;(repeat (simp(disch:=omega) only[af,if_pos];go_simp));exact aF)
     refine aY ?_;have d:=HO.out;have p:=M.out.drew;have u:w.heap.size+1 <= wr.drew.heap.size:=N.out;obtain⟨j,z⟩:=aH wr.drew;rw[z] at d p u⊢;clear z
    all_goals
     have H:=ae p;have I:=ae u;have ad:=ae (bm d (Below.refl _ _).drew);have Z:=ae p.drew;have ag:=ae (show w.heap.size+1 <= j.drew.heap.size from u);clear p u d;obtain⟨K,c1,c2⟩|⟨K,c1,c2⟩|⟨K,c1,c2⟩:=aX.out
     all_goals try exact absurd K (iV o)
     all_goals
      have f:=J.out
      first|rw[xL l x k aa (by rw[O.out];exact K)] at f|rw[xK l x k aa (by rw[O.out];exact K),O.out,List.append_cons] at f|rw[xJ l x k aa (by rw[O.out];exact o),O.out,List.append_cons] at f
      have J:=ae f;have He:=ae K;clear f K
      try clear o
      have m:∀c,aJ j.drew c -> Below (w.heap.size+1) t c:=fun c hh=>H.out.drew.trans (RowKit.Below.mono hh I.out)
      first|have g:=ke fun c hh=>(B.out c (m c hh)).1|have g:=kh fun c hh=>(B.out c (m c hh)).1
      simp only[Nat.zero_add] at g;obtain⟨p0,p1,-⟩:=g
      first|obtain⟨X,Y,-⟩:=ke fun c hh=>L.out c (m c hh)|obtain⟨X,Y,-⟩:=kh fun c hh=>L.out c (m c hh)
      have a2:IntKind.i64.wrap (k:Int)=(k:Int):=af _ (by omega);go_wp2_with fail;refine bS aJ (up 18 []) (by kernel_rfl) ?_;apply aG;rfl;intro c C;go_simp;(repeat (simp(disch:=omega) only[af,if_pos];go_simp));exact aF;refine aY ?_;clear p0 p1 X Y m;obtain⟨w9,aS⟩:=aH j.drew;rw[aS] at ad Z ag⊢;clear aS H I
      first
      |have a1:(y.key,y.dev)≠(x.key,x.dev):=He.out
       first|have g:=l4 (L.out w9 Z.out)|have g:=l5 (L.out w9 Z.out)
       obtain⟨g0,g1,g2,g3⟩:=g
       first|obtain⟨wz,P,Q,j,rfl,T,d,q,r⟩:=uk w9 ad.out y (by omega) ag.out|obtain⟨wz,P,Q,j,rfl,T,d,q,r⟩:=ul w9 ad.out y (by omega) ag.out
       have D:=Z.out.trans ((aT.trans q r fun i h=>.inl h).below (fun i h=>h) ag.out);rw[<- gr] at d;clear q r;have Hq:=ae D;have Ho:=ae d;clear D d a1;go_wp2_with fail
       go_roundw
       case rel=>
        rw[an.out];exact⟨k+1,_,V++[y],by omega,by go_num,rfl,by rw[aA,A.out];exact Ho.out,J.out,⟨by rw[aA,A.out];simp;omega,fun h=>by first|exact absurd h (by decide)|(rw[aA,A.out];simp;omega)⟩,Hq.out⟩
       case measure=>simp[intOf];omega
      |go_wp2_with fail
       go_roundw
       case rel=>
        rw[an.out];exact⟨k+1,_,V,by omega,by go_num,rfl,by rw[A.out];exact ad.out,J.out,⟨by rw[A.out];omega,nofun⟩,Z.out⟩
       case measure=>simp[intOf];omega
   ·have aZ:¬(k:Int)<(n:Int):=by omega
    have ax:k=l.length:=by rw[Hn.out];omega
    have f:=J.out;rw[ax,HR.out] at f;cases aO with
    |true=>
     rw[oY,List.append_nil] at f;have ai:=ae (bP E (Nat.le_succ _));have HL:=ae (show R.length=U by rw[<- f,A.out]);rw[f] at ai;clear ax f;go_wp2_with fail
     go_ret
     exact⟨⟨_,rfl,by rw[HL.out];exact ai.out⟩,aL.out.trans (M.out.mono (Nat.le_succ _))⟩
    |false=>
     rw[vk] at f;obtain⟨ay,-⟩:=B.out wr M.out
     first|have g:=l4 ay|have g:=l5 ay
     simp only[Nat.zero_add] at g;obtain⟨x0,x1,x2,x3⟩:=g
     first|obtain⟨wz,P,Q,j,rfl,T,d,q,r⟩:=uk wr E x (by omega) N.out|obtain⟨wz,P,Q,j,rfl,T,d,q,r⟩:=ul wr E x (by omega) N.out
     have D:=M.out.trans ((aT.trans q r fun i h=>.inl h).below (fun i h=>h) N.out);rw[<- gr] at d;clear q r;rw[f] at d;have ai:=ae (bP d (Nat.le_succ _));have HL:=ae (show R.length=U+1 by rw[<- f,aA,A.out];rfl);have aV:=ae D;clear ax f d D ay E;go_wp2_with fail
     go_ret
     exact⟨⟨_,rfl,by rw[HL.out];exact ai.out⟩,aL.out.trans (aV.out.mono (Nat.le_succ _))⟩
theorem oC(l:List RIt)(x:RIt)(c:Rows F w 4 v l.length (l.flatMap bU))(b:l.length <= 1000000):
 Calls aE 181 #[v,itV x] w fun e a=>(∃r,e=.returned r /\ a.ownsRow w.heap.size 129 4 r (dK RIt.pl l x).length ((dK RIt.pl l x).flatMap bU)) /\ Below w.heap.size w a:=puts.1 w F v l x c b _ _ _ rfl (tz _ _ _) rfl rfl
theorem tB(l:List RGo)(x:RGo)(c:Rows F w 3 v l.length (l.flatMap dC))(b:l.length <= 1000000):
 Calls aE 185 #[v,goV x] w fun e a=>(∃r,e=.returned r /\ a.ownsRow w.heap.size 130 3 r (dK RGo.pl l x).length ((dK RGo.pl l x).flatMap dC)) /\ Below w.heap.size w a:=puts.2 w F v l x c b _ _ _ rfl (tz _ _ _) rfl rfl
end
end Go.Proofs.YtobjdpngnfbicaaGreatDoor
