/-
  RRd RDecP UList UReadL UListC VList REncP Ref01
-/
import Derived.Test.YtobjdpngnfbicaaGreatDoorZO06
open Go.Lib renaming hid->ae
open Go.IntWalk renaming i64_in->af
open Nat renaming le_refl->aq,le_trans->au,lt_of_lt_of_le->aw
open List renaming length_append->aA,append_assoc->aB,length_cons->aD
open Go.Proofs.Tryz renaming prog->aE
set_option maxHeartbeats 16000000
set_option maxRecDepth 100000
set_option linter.all false
namespace Go.Proofs.YtobjdpngnfbicaaGreatDoor
open Go.RowKit
open Tryz
variable(w:World)(F:aX)(n:Nat)(b:List UInt8){W:World}{G:aX}{u:Value}{i j o:Nat}{L:List Value}{r:aU}{t:TypeId}
section
open Go.Lib
attribute [local go_sem] opC upC told bG br bH bt bw bI bJ
def RdT(T:TypeId)(W:World)(R:Nat)(c:Option Addr)(d:Nat)(b:List UInt8)(e:dO):Prop:=
 ∃(k:Nat)(a:Bool),Blk W R [.slice c b.length d,.int .i64 (k:Int),.bool a] T /\ k <= b.length /\ e=if a then none else some (b.drop k)
abbrev uo:=RdT 207
abbrev vV:=RdT 238
theorem RdT.keep{T:TypeId}{W a:World}{R:Nat}{c:Option Addr}{d:Nat}{b:List UInt8}{e:dO}(h:RdT T W R c d b e)(l:a.heap[R]?=W.heap[R]?):RdT T a R c d b e:=by
 obtain⟨k,f,g,i,j⟩:=h;exact⟨k,f,g.keep l,i,j⟩
theorem RdT.lt{T:TypeId}{W:World}{R:Nat}{a:Option Addr}{c:Nat}{b:List UInt8}{e:dO}(h:RdT T W R a c b e):R<W.heap.size:=by
 obtain⟨k,f,d,-⟩:=h;exact d.lt
def RdC(w:World)(d:FuncId)(a:Option Addr)(c b k:Nat)(v:Value):Prop:=
 ∀W,Below w.heap.size w W -> Calls aE d #[.slice a b c,.int .i64 (k:Int)] W fun e f=>e=.returned v /\ Below W.heap.size W f
theorem ti(L:(i,j,o)=(207,157,99) \/ (i,j,o)=(238,189,133))(w:World)(R:Nat)(s:Option Addr)(v:Nat)(b:List UInt8)(k n g:Nat)(c d:Bool)(y:Blk w R [.slice s b.length v,.int .i64 (k:Int),.bool c] i)(U:b.length <= 9223372036854775807)(M:k <= b.length)(V:n<18446744073709551616)(F:g <= b.length)
 (x:RdC w o s v b.length k (.tuple #[.int .u64 (n:Int),.int .i64 (g:Int),.bool d])):
 Calls aE j #[.pointer (some ⟨R,0,none⟩)] w fun e a=>
  e=.returned (.int .i64 (if c=false /\ d=true /\ n <= 1099511627776 then(n:Int) else 0)) /\ RdT i a R s v b (if c=false /\ d=true /\ n <= 1099511627776 then some (b.drop g) else none) /\ aT (fun q=>q=R) w a:=by
 unfold RdC at x;have C:=ae x;obtain⟨p,A⟩:=aH (c=false /\ d=true /\ n <= 1099511627776);have K:c=true /\ ¬p \/ c=false /\ d=false /\ ¬p \/ c=false /\ d=true /\ n <= 1099511627776 /\ p \/ c=false /\ d=true /\ ¬n <= 1099511627776 /\ ¬p:=by subst A;cases c<;>cases d<;>simp<;>omega
 clear x;rcases L with h|h<;>cases h
 all_goals
  rcases K with⟨rfl,h⟩|⟨rfl,rfl,h⟩|⟨rfl,rfl,N,h⟩|⟨rfl,rfl,N,h⟩
  all_goals
   rw[<- A] at h;clear A
   first|rw[if_pos h,if_pos h]|rw[if_neg h,if_neg h]
   clear h
   first|have J:¬(1099511627776:Int)<(n:Int):=by omega|have J:(1099511627776:Int)<(n:Int):=by omega|skip
   obtain⟨t,u,D⟩:=aS y;have O:∀a,aJ w.drew a -> a.cell? _=_:=fun a hh=>aZ t hh
   have P:∀a,aJ w.drew a -> a.cell? _=_:=fun a hh=>aZ u hh
   have l:=ae y;clear y t u D
   first|go_enter func157,ntmps157|go_enter func189,ntmps189
   go_wp2_with fail;refine bS aJ (up 8 [508,9,10,11,12,13,14,15]) (by kernel_rfl) ?_;apply aG;rfl;intro a I;go_simp;(repeat (simp(disch:=omega) only[af,if_pos];go_simp));exact aF;refine bq rfl rfl (fun H E=>?_);go_simp;refine(C.out _ (Below.refl w.heap.size w).drew).mono ?_;rintro e G ⟨rfl,z⟩;refine⟨_,rfl,z,E _ _ ?_⟩;have B:Below w.heap.size w G:=(Below.refl w.heap.size w).drew.trans z;have f:=l.out.keep (B.block _ l.out.lt);have r:=ae (show aT (fun q=>q=R) w G from aT.of_below B);obtain⟨t,u,D⟩:=aS f;have Q:=f.free 1;have S:=f.free 2;have m:=ae f;clear E H O P C z B f l;go_simp;apply aG;rfl;intro a I;go_simp;(repeat (simp(disch:=omega) only[af,if_pos];go_simp));exact aF;refine aY ?_;go_wp2_with fail
   go_ret
   first
   |exact⟨rfl,⟨k,true,m.out.set 2 _,M,rfl⟩,r.out.setCell (.inl rfl) _⟩
   |exact⟨rfl,⟨g,false,m.out.set 1 _,F,rfl⟩,r.out.setCell (.inl rfl) _⟩
   |(refine⟨rfl,⟨g,false,?_,F,rfl⟩,(r.out.setCell (.inl rfl) _).setCell (.inl rfl) _⟩;rw[show decide ((1099511627776:Int)<(n:Int))=false from decide_eq_false (by omega)];exact(m.out.set 2 _).set 1 _)
theorem qY(K:(i,j,o)=(207,158,200) \/ (i,j,o)=(238,190,216))(w:World)(R:Nat)(r:Option Addr)(v:Nat)(b:List UInt8)(k:Nat)(t:bR)(g:Nat)(c d:Bool)(y:Blk w R [.slice r b.length v,.int .i64 (k:Int),.bool c] i)(Q:b.length <= 9223372036854775807)(L:k <= b.length)(F:g <= b.length)
 (x:RdC w o r v b.length k (.tuple #[.string ⟨t.toArray⟩,.int .i64 (g:Int),.bool d])):
 Calls aE j #[.pointer (some ⟨R,0,none⟩)] w fun e a=>
  e=.returned (.string ⟨(if c=false /\ d=true then t else[]).toArray⟩) /\ RdT i a R r v b (if c=false /\ d=true then some (b.drop g) else none) /\ aT (fun q=>q=R) w a:=by
 unfold RdC at x;have C:=ae x;clear x;obtain⟨p,A⟩:=aH (c=false /\ d=true);have J:c=true /\ ¬p \/ c=false /\ d=false /\ ¬p \/ c=false /\ d=true /\ p:=by subst A;cases c<;>cases d<;>simp
 rcases K with h|h<;>cases h
 all_goals
  rcases J with⟨rfl,h⟩|⟨rfl,rfl,h⟩|⟨rfl,rfl,h⟩
  all_goals
   rw[<- A] at h;clear A
   first|rw[if_pos h,if_pos h]|rw[if_neg h,if_neg h]
   clear h;obtain⟨s,u,D⟩:=aS y;have M:∀a,aJ w.drew a -> a.cell? _=_:=fun a hh=>aZ s hh
   have N:∀a,aJ w.drew a -> a.cell? _=_:=fun a hh=>aZ u hh
   have l:=ae y;clear y s u D
   first|go_enter func158,ntmps158|go_enter func190,ntmps190
   go_wp2_with fail;refine bS aJ (up 8 [508,9,10,11,12,13,14,15]) (by kernel_rfl) ?_;apply aG;rfl;intro a I;go_simp;(repeat (simp(disch:=omega) only[af,if_pos];go_simp));exact aF;refine bq rfl rfl (fun H E=>?_);go_simp;refine(C.out _ (Below.refl w.heap.size w).drew).mono ?_;rintro e G ⟨rfl,z⟩;refine⟨_,rfl,z,E _ _ ?_⟩;have B:Below w.heap.size w G:=(Below.refl w.heap.size w).drew.trans z;have f:=l.out.keep (B.block _ l.out.lt);have n:=ae (show aT (fun q=>q=R) w G from aT.of_below B);obtain⟨s,u,D⟩:=aS f;have O:=f.free 1;have P:=f.free 2;have m:=ae f;clear E H M N C z B f l;go_simp;apply aG;rfl;intro a I;go_simp;(repeat (simp(disch:=omega) only[af,if_pos];go_simp));exact aF;refine aY ?_;go_wp2_with fail
   go_ret
   first
   |exact⟨rfl,⟨k,true,m.out.set 2 _,L,rfl⟩,n.out.setCell (.inl rfl) _⟩
   |exact⟨rfl,⟨g,false,m.out.set 1 _,F,rfl⟩,n.out.setCell (.inl rfl) _⟩
   |exact⟨rfl,⟨g,false,(m.out.set 2 _).set 1 _,F,rfl⟩,(n.out.setCell (.inl rfl) _).setCell (.inl rfl) _⟩
theorem Df{b r:List UInt8}{t:bR}(h:rdT b=some (t,r)):r.length <= b.length /\ r=b.drop (b.length-r.length):=by
 unfold rdT at h;split at h
 ·rename_i n q d;have a:=(gA.1 d).2;split at h
  ·rename_i e;simp at h;obtain⟨rfl,rfl⟩:=h;have c:=congrArg List.length a;simp at c;refine⟨by simp;omega,?_⟩;rw[a];simp;rw[show(cj n).length+q.length-(q.length-n)=(cj n).length+n by omega,List.drop_append];simp
  ·simp at h
 ·simp at h
theorem kS{b r:List UInt8}(h:rdF b 9=some (i,r)):r.length <= b.length /\ r=b.drop (b.length-r.length):=by
 have a:=(gA.1 h).2;have c:=congrArg List.length a;simp at c;refine⟨by omega,?_⟩;rw[a];simp
theorem tj{b r:List UInt8}(d:i <= b.length)(c:r.length <= (b.drop i).length)(a:r=(b.drop i).drop ((b.drop i).length-r.length)):b.drop (b.length-r.length)=r:=by
 rw[List.length_drop] at c a
 conv=>rhs;rw[a]
 rw[List.drop_drop]
 congr 1
 omega
theorem tk(v:(i,j,o)=(207,157,99) \/ (i,j,o)=(238,189,133))(w:World)(R:Nat)(F:aX)(c:Option Addr)(d:Nat)(b:List UInt8)(m:dO)(y:RdT i w R c d b m)(x:aO F w (.slice c b.length d) b)(a:∀k,k <= b.length -> RdC w o c d b.length k (iZ b k)):
 Calls aE j #[.pointer (some ⟨R,0,none⟩)] w fun e w'=>e=.returned (.int .i64 (cA m).1) /\ RdT i w' R c d b (cA m).2 /\ aT (fun q=>q=R) w w':=by
 obtain⟨k,g,t,h,rfl⟩:=y;have u:b.length <= 9223372036854775807:=by obtain⟨-,s,l,-⟩:=x.cells;unfold maxLen at l;omega
 replace a:=a k h
 unfold iZ at a;cases f:rdF (b.drop k) 9 with
 |none=>
  rw[f] at a;have:=ti v w R c d b k 0 0 g false t u h (by omega) (by omega) a;rw[if_neg (by simp),if_neg (by simp)] at this;cases g<;>simpa[cA,f] using this
 |some p=>
  obtain⟨n,r⟩:=p;rw[f] at a;obtain⟨s,l⟩:=kS f;have:=ti v w R c d b k n (b.length-r.length) g true t u h (jr f).2.2 (by omega) a;rw[tj h s l] at this;cases g<;>by_cases z:n <= 1099511627776<;>simpa[cA,f,z] using this
theorem qZ(v:(i,j,o)=(207,158,200) \/ (i,j,o)=(238,190,216))(w:World)(R:Nat)(F:aX)(c:Option Addr)(d:Nat)(b:List UInt8)(m:dO)(y:RdT i w R c d b m)(x:aO F w (.slice c b.length d) b)(a:∀k,k <= b.length -> RdC w o c d b.length k (jV b k)):
 Calls aE j #[.pointer (some ⟨R,0,none⟩)] w fun e w'=>e=.returned (.string ⟨(cJ m).1.toArray⟩) /\ RdT i w' R c d b (cJ m).2 /\ aT (fun q=>q=R) w w':=by
 obtain⟨k,g,s,h,rfl⟩:=y;have u:b.length <= 9223372036854775807:=by obtain⟨-,n,l,-⟩:=x.cells;unfold maxLen at l;omega
 replace a:=a k h
 unfold jV at a;cases f:rdT (b.drop k) with
 |none=>
  rw[f] at a;have:=qY v w R c d b k [] 0 g false s u h (by omega) a;rw[if_neg (by simp),if_neg (by simp)] at this;cases g<;>simpa[cJ,f] using this
 |some p=>
  obtain⟨t,r⟩:=p;rw[f] at a;obtain⟨n,l⟩:=Df f;have:=qY v w R c d b k t (b.length-r.length) g true s u h (by omega) a;rw[tj h n l] at this;cases g<;>simpa[cJ,f] using this
theorem iR(F:aX)(a:Option Addr)(c:Nat)(b:List UInt8)(d:dO)(j:uo w n a c b d)(g:aO F w (.slice a b.length c) b)(hF:∀q,F q -> q<w.heap.size):
 Calls aE 157 #[.pointer (some ⟨n,0,none⟩)] w fun e f=>e=.returned (.int .i64 (cA d).1) /\ uo f n a c b (cA d).2 /\ aT (fun q=>q=n) w f:=
 tk (.inl rfl) w n F a c b d j g fun k l W h=>vI W F a c b k (g.keep (w':=W) fun q i m=>h.block q m) (fun q i=>aw (hF q i) h.size) l
theorem tm(F:aX)(a:Option Addr)(c:Nat)(b:List UInt8)(d:dO)(j:uo w n a c b d)(g:aO F w (.slice a b.length c) b)(hF:∀q,F q -> q<w.heap.size):
 Calls aE 158 #[.pointer (some ⟨n,0,none⟩)] w fun e f=>e=.returned (.string ⟨(cJ d).1.toArray⟩) /\ uo f n a c b (cJ d).2 /\ aT (fun q=>q=n) w f:=
 qZ (.inl rfl) w n F a c b d j g fun k l W h=>Bn W F a c b k (g.keep (w':=W) fun q i m=>h.block q m) (fun q i=>aw (hF q i) h.size) l
end
section
open Go.Lib
attribute [local go_sem ↓] aV
attribute [local go_sem] opC upC told bG br bH bt bw bI bJ
theorem jy:∀(n:Nat)(p:List Int×dO),ic (n+1) p=((ic n p).1++[(cA (ic n p).2).1],(cA (ic n p).2).2)
 |0,p=>rfl
 |n+1,p=>by
  show ic (n+1) (p.1++[(cA p.2).1],(cA p.2).2)=_;rw[jy n];rfl
structure DSt(w:World)(M:Nat)(av:Option Addr)(cap:Nat)(b:List UInt8)(W:World)(l:List Value)(its:List RIt)(gs:List RGo)(ai:Option Addr)(ci:Nat)(ag:Option Addr)(cg:Nat)(st:dO):Prop where
 bel:Below w.heap.size w W
 res:Blk W w.heap.size [.slice none 0 0,.slice none 0 0,.slice none 0 0] 37
 rd:uo W (w.heap.size+1) av cap b st
 seen:Blk W (w.heap.size+1+1+1) l 3
 map:Blk W M [.slice (some ⟨w.heap.size+1+1+1,0,none⟩) 8 8,.slice ai its.length ci,.slice ag gs.length cg] 37
 hM:w.heap.size+1+1+1<M
 items:W.ownsRow (M+1) 108 4 (.slice ai its.length ci) its.length (its.flatMap bU)
 gone:W.ownsRow (M+1) 111 3 (.slice ag gs.length cg) gs.length (gs.flatMap dC)
section
variable {w:World} {M:Nat} {av:Option Addr} {cap:Nat} {b:List UInt8} {W W':World} {l:List Value} {its:List RIt} {gs:List RGo} {ai:Option Addr} {ci:Nat} {ag:Option Addr} {cg:Nat} {st:dO}
theorem aT.cellB{w c:World}(h:aT G w c){a:Addr}(b:w.cell? a=some u)(d:¬G a.block):c.cell? a=some u:=by
 have e:=h.block a.block (il b) d;unfold World.cell? at *;rw[e];exact b
theorem uo.blk(h:uo W i av cap b st):∃L,Blk W i L 207:=by
 obtain⟨k,c,a,-⟩:=h;exact⟨_,a⟩
theorem jz(h:W.ownsRow i t j u o L)(f:aT G W W')(hF:∀q,i <= q -> ¬G q):W'.ownsRow i t j u o L:=by
 refine⟨h.1,?_⟩;rcases h.2 with d|⟨g,cap,c,m,a,b,l⟩
 ·exact .inl d
 ·exact .inr ⟨g,cap,c,m,a,(f.block g (lt_of_block b) (hF g a)).trans b,l⟩
theorem DSt.read(h:DSt w M av cap b W l its gs ai ci ag cg st)(a:aT (fun q=>q=w.heap.size+1) W W'){d:dO}(f:uo W' (w.heap.size+1) av cap b d):DSt w M av cap b W' l its gs ai ci ag cg d:=by
 have e:=h.hM;refine⟨h.bel.trans (a.below (fun q c=>by have g:q=w.heap.size+1:=c;omega) h.bel.size),h.res.keep (a.block _ h.res.lt (by show ¬w.heap.size=w.heap.size+1;omega)),f,h.seen.keep (a.block _ h.seen.lt (by show ¬w.heap.size+1+1+1=w.heap.size+1;omega)),h.map.keep (a.block _ h.map.lt (by show ¬M=w.heap.size+1;omega)),e,jz h.items a (fun q c=>by show ¬q=w.heap.size+1;omega),jz h.gone a (fun q c=>by show ¬q=w.heap.size+1;omega)⟩
theorem DSt.kept(h:DSt w M av cap b W l its gs ai ci ag cg st)(a:Below W.heap.size W W'):DSt w M av cap b W' l its gs ai ci ag cg st:=by
 have c:w.heap.size+1<W.heap.size:=h.rd.lt;exact⟨h.bel.trans (a.mono h.bel.size),h.res.keep (a.block _ h.res.lt),h.rd.keep (a.block _ c),h.seen.keep (a.block _ h.seen.lt),h.map.keep (a.block _ h.map.lt),h.hM,bm h.items a,bm h.gone a⟩
theorem DSt.put(h:DSt w M av cap b W l its gs ai ci ag cg st)(k:Nat)(x:Value):DSt w M av cap b (W.setCell ⟨w.heap.size+1+1+1,k,none⟩ x) (l.set k x) its gs ai ci ag cg st:=by
 have a:=h.hM;obtain⟨L,c⟩:=h.rd.blk;refine⟨h.bel.setCell (p:=⟨w.heap.size+1+1+1,k,none⟩) (by show w.heap.size <= w.heap.size+1+1+1;omega) _,h.res.set_other _ (by show w.heap.size≠w.heap.size+1+1+1;omega),h.rd.keep (Below.heap_setCell _ _ _ _ (by show w.heap.size+1≠w.heap.size+1+1+1;omega)),h.seen.set k x,h.map.set_other _ (by show M≠w.heap.size+1+1+1;omega),a,aL h.items h.seen (by decide) _,aL h.gone h.seen (by decide) _⟩
theorem jA{w:World}{k n:Nat}(h:w.ownsRow i t k u n L)(b:∀q,u.ownBlock=some q -> q≠j)(a:Value):(w.setCell ⟨j,o,none⟩ a).ownsRow i t k u n L:=by
 refine h.kept (row:=some j) ⟨rfl,rfl,rfl,by simp[World.setCell],fun q l f=>Below.heap_setCell w ⟨j,o,none⟩ a q (fun t=>f (by rw[t]))⟩ ?_;cases d:u.ownBlock with
 |none=>exact .inl rfl
 |some g=>exact .inr fun c=>b g d (by simpa using c)
theorem DSt.far(h:DSt w M av cap b W l its gs ai ci ag cg st)(f:M<i)(c:∀q,(Value.slice ai its.length ci).ownBlock=some q -> q≠i)(d:∀q,(Value.slice ag gs.length cg).ownBlock=some q -> q≠i)(a:Nat)(u:Value):DSt w M av cap b (W.setCell ⟨i,a,none⟩ u) l its gs ai ci ag cg st:=by
 have e:=h.hM;exact⟨h.bel.setCell (p:=⟨i,a,none⟩) (by show w.heap.size <= i;omega) _,h.res.set_other _ (by show w.heap.size≠i;omega),h.rd.keep (Below.heap_setCell _ _ _ _ (by show w.heap.size+1≠i;omega)),h.seen.set_other _ (by show w.heap.size+1+1+1≠i;omega),h.map.set_other _ (by show M≠i;omega),e,jA h.items c u,jA h.gone d u⟩
theorem DSt.item(h:DSt w M av cap b W l its gs ai ci ag cg st){x:RIt}{d:Option Addr}(c:W.grownBy W' (Value.slice ai its.length ci).ownBlock)
 (q:W'.ownsRow (M+1) 108 4 (.slice d (its.length+1) i) (its.length+1) (its.flatMap bU++bU x)):DSt w M av cap b (W'.setCell ⟨M,1,none⟩ (.slice d (its.length+1) i)) l (its++[x]) gs d i ag cg st:=by
 have m:=h.hM;obtain⟨k,g,r,o,t⟩:=h.rd;have e:=h.map.grownNe h.items (by decide) c;have n:Below w.heap.size w W':=h.bel.trans (Below.grownOwn h.items c h.bel.size (by omega));have f:(its++[x]).length=its.length+1:=by simp
 have j:(its++[x]).flatMap bU=its.flatMap bU++bU x:=by simp
 have s:=(r.grownNe h.items (by decide) c).set_other (.slice d (its.length+1) i) (a:=⟨M,1,none⟩) (by show w.heap.size+1≠M;omega);refine⟨n.setCell (p:=⟨M,1,none⟩) (by show w.heap.size <= M;omega) _,(h.res.grownNe h.items (by decide) c).set_other _ (by show w.heap.size≠M;omega),⟨k,g,s,o,t⟩,(h.seen.grownNe h.items (by decide) c).set_other _ (by show w.heap.size+1+1+1≠M;omega),?_,m,?_,aL (bY h.gone h.items (by decide) c) e (by decide) _⟩
 ·rw[f];exact e.set 1 _
 ·rw[f,j];exact aL q e (by decide) _
theorem DSt.gon(h:DSt w M av cap b W l its gs ai ci ag cg st){x:RGo}{d:Option Addr}(c:W.grownBy W' (Value.slice ag gs.length cg).ownBlock)
 (q:W'.ownsRow (M+1) 111 3 (.slice d (gs.length+1) i) (gs.length+1) (gs.flatMap dC++dC x)):DSt w M av cap b (W'.setCell ⟨M,2,none⟩ (.slice d (gs.length+1) i)) l its (gs++[x]) ai ci d i st:=by
 have m:=h.hM;obtain⟨k,g,r,o,t⟩:=h.rd;have e:=h.map.grownNe h.gone (by decide) c;have n:Below w.heap.size w W':=h.bel.trans (Below.grownOwn h.gone c h.bel.size (by omega));have f:(gs++[x]).length=gs.length+1:=by simp
 have j:(gs++[x]).flatMap dC=gs.flatMap dC++dC x:=by simp
 have s:=(r.grownNe h.gone (by decide) c).set_other (.slice d (gs.length+1) i) (a:=⟨M,2,none⟩) (by show w.heap.size+1≠M;omega);refine⟨n.setCell (p:=⟨M,2,none⟩) (by show w.heap.size <= M;omega) _,(h.res.grownNe h.gone (by decide) c).set_other _ (by show w.heap.size≠M;omega),⟨k,g,s,o,t⟩,(h.seen.grownNe h.gone (by decide) c).set_other _ (by show w.heap.size+1+1+1≠M;omega),?_,m,aL (bY h.items h.gone (by decide) c) e (by decide) _,?_⟩
 ·rw[f];exact e.set 2 _
 ·rw[f,j];exact aL q e (by decide) _
end
theorem q7:∀(n:Nat)(p:List Int×dO),szS (ic n p).2 <= szS p.2
 |0,p=>aq _
 |n+1,p=>by
  rw[jy];exact au (iG _).1 (q7 n p)
theorem ItB.mono{x:RIt}(h:ItB i x)(a:i <= j):ItB j x:=⟨au h.1 a,h.2⟩
theorem GoB.mono{x:RGo}(h:GoB i x)(a:i <= j):GoB j x:=⟨au h.1 a,h.2⟩
def Dg(w:World)(e:Ending)(a:World):Prop:=e=.returned (.agg #[.slice (some ⟨w.heap.size+1,0,none⟩) 8 8,.slice none 0 0,.slice none 0 0]) /\ Blk a (w.heap.size+1) (List.replicate 8 (.int .i64 0)) 3 /\ Below w.heap.size w a
section
attribute [local go_sem ↓] sV
theorem tn(w:World):Calls aE 39 #[] w (Dg w):=by
 obtain⟨b,d⟩:=aQ (w.alloc (.cells #[.slice none 0 0,.slice none 0 0,.slice none 0 0] 37));have x:Below w.heap.size w b:=by rw[d];exact aI _ _
 have E:b.heap.size=w.heap.size+1:=by rw[d];simp
 have m:Blk b w.heap.size [.slice none 0 0,.slice none 0 0,.slice none 0 0] 37:=by rw[d];exact Blk.new _ _ _
 obtain⟨S,j,k,F,G⟩:=info_parts vE;obtain⟨h,A,i,l⟩:=run_make_full (P:=aE) b w.heap.size 33 3 S _ 1 underlying33 j k F .i64 .i64 8 (by rw[G];omega) (by unfold maxLen;omega) (by omega);have B:(MK 33 (.int .i64 8) (.int .i64 8)).run aE b=.ok (.slice (some ⟨b.heap.size,0,none⟩) 8 8) h:=A;rw[Ex] at i;have a:Blk h w.heap.size _ _:=m.keep (l.block _ m.lt (by simp));have y:Below w.heap.size w h:=x.trans ((Below.refl w.heap.size b).grown l (by omega) (by simp));have T:=a.cell 0;have U:=a.cell 1;have V:=a.cell 2;have z0:=a.free 0;have z1:=a.free 1;have z2:=a.free 2;simp at T U V;rw[E] at B i
 have t:Blk h (w.heap.size+1) (List.replicate 8 (.int .i64 0)) 3:=by
  rcases i.2 with⟨O,-⟩|⟨g,cap,q,D,W,Q,X,Z,R,C⟩
  ·simp at O
  ·simp at D;obtain⟨rfl,rfl⟩:=D;unfold Blk;rw[Q];have Y:q.toList.length=8:=by simpa using R
   rw[List.take_of_length_le (by omega)] at C
   have:q=(List.replicate 8 (Value.int .i64 0)).toArray:=by
    apply Array.toList_inj.1;rw[C];rfl
   rw[this]
 obtain⟨H,e⟩:=aQ (((h.setCell ⟨w.heap.size,0,none⟩ (.slice (some ⟨w.heap.size+1,0,none⟩) 8 8)).setCell ⟨w.heap.size,1,none⟩ (.slice none 0 0)).setCell ⟨w.heap.size,2,none⟩ (.slice none 0 0));have r:=a.set 0 (.slice (some ⟨w.heap.size+1,0,none⟩) 8 8);have s:=r.set 1 (.slice none 0 0);have c:=s.set 2 (.slice none 0 0)
 have u:Blk H (w.heap.size+1) (List.replicate 8 (.int .i64 0)) 3:=by
  rw[e];exact((t.set_other _ (by show w.heap.size+1≠w.heap.size;omega)).set_other _ (by show w.heap.size+1≠w.heap.size;omega)).set_other _ (by show w.heap.size+1≠w.heap.size;omega)
 have z:Below w.heap.size w H:=by
  rw[e];exact((y.setCell (p:=⟨w.heap.size,0,none⟩) (aq _) _).setCell (p:=⟨w.heap.size,1,none⟩) (aq _) _).setCell (p:=⟨w.heap.size,2,none⟩) (aq _) _
 rw[<- e] at c;have f:=c.cell 0;have n:=c.cell 1;have o:=c.cell 2;simp at f n o;rw[d] at B;have K:=ae e;have J:=ae z;have I:=ae u;have L:=ae f;have M:=ae n;have N:=ae o;clear x E m d A i l a y r s c t u z e f n o j k F G
 go_enter func39,ntmps39
 go_wp2_with fail;rw[<- K.out];have f:=L.out;have j:=M.out;have k:=N.out;exact bodyPost_ret (v:=.agg #[.slice (some ⟨w.heap.size+1,0,none⟩) 8 8,.slice none 0 0,.slice none 0 0]) (by simp[results,results39,go_sem,f,j,k]) rfl ⟨rfl,I.out,J.out⟩
end
theorem yi(W:World)(av:Option Addr)(cap:Nat)(b:List UInt8):uo (W.alloc (.cells #[.slice av b.length cap,.int .i64 0,.bool false] 207)) W.heap.size av cap b (some b):=
 ⟨0,false,Blk.new W #[.slice av b.length cap,.int .i64 0,.bool false] _,Nat.zero_le _,by simp⟩
theorem DSt.start(w:World)(av:Option Addr)(cap:Nat)(b:List UInt8)(a:World)
 (g:Blk a (w.heap.size+1+1+1) (List.replicate 8 (.int .i64 0)) 3)
 (d:Below (w.heap.size+1+1) ((w.alloc (.cells #[.slice none 0 0,.slice none 0 0,.slice none 0 0] 37)).alloc (.cells #[.slice av b.length cap,.int .i64 0,.bool false] 207)) a):
 DSt w a.heap.size av cap b (a.alloc (.cells #[.slice (some ⟨w.heap.size+1+1+1,0,none⟩) 8 8,.slice none 0 0,.slice none 0 0] 37)) (List.replicate 8 (.int .i64 0)) [] [] none 0 none 0 (some b):=by
 have c:=aI a (.cells #[.slice (some ⟨w.heap.size+1+1+1,0,none⟩) 8 8,.slice none 0 0,.slice none 0 0] 37);have i:=(Blk.new w #[.slice none 0 0,.slice none 0 0,.slice none 0 0] 37).alloc (.cells #[.slice av b.length cap,.int .i64 0,.bool false] 207);have h:=yi (w.alloc (.cells #[.slice none 0 0,.slice none 0 0,.slice none 0 0] 37)) av cap b;simp only[World.size_alloc] at h;have j:=i.keep (d.block _ (by omega));have k:=h.keep (d.block _ (by omega));have f:w.heap.size+1+1+1<a.heap.size:=g.lt;refine⟨?_,j.keep (c.block _ (by omega)),k.keep (c.block _ (by omega)),g.keep (c.block _ f),Blk.new _ _ _,f,World.ownsRow_nil _ _ _ _,World.ownsRow_nil _ _ _ _⟩;have e:Below w.heap.size w a:=(((Below.refl w.heap.size w).alloc (aq _) _).alloc (by simp) _).trans (d.mono (by omega));exact e.trans (c.mono e.size)
def eqs(L:List Int):List Value:=L.map eI++List.replicate (8-L.length) (.int .i64 0)
theorem Dh(L:List Int)(x:Int)(h:L.length<8):(eqs L).set L.length (.int .i64 x)=eqs (L++[x]):=by
 unfold eqs;rw[List.set_append_right _ _ (by simp)]
 obtain⟨r,a⟩:∃r,8-L.length=r+1:=⟨7-L.length,by omega⟩
 rw[a,List.length_map,Nat.sub_self,List.replicate_succ,List.set_cons_zero];simp only[List.map_append,List.map_cons,List.map_nil,aB,aA,aD,List.length_nil];rw[show 8-(L.length+(0+1))=r by omega];rfl
theorem Di(L:List Int)(h:L.length <= 8):(eqs L).length=8:=by
 unfold eqs;simp;omega
theorem pf:∀(n:Nat)(p:List Int×dO),(∀x∈p.1,0 <= x /\ x <= 1099511627776) -> ∀x∈(ic n p).1,0 <= x /\ x <= 1099511627776
 |0,p,h=>h
 |n+1,p,h=>by
  rw[jy];intro x a;rcases List.mem_append.1 a with a|a
  ·exact pf n p h x a
  ·rw[List.mem_singleton.1 a];exact gE _
def MTy(W:World)(q:Nat):Prop:=∃L t a,W.heap[q]?=some (.cells L t a) /\ (t=3 \/ t=108 \/ t=111)
theorem vW{W:World}{f:List Value}(h:W.ownsRow i t j u o f)(m:t=3 \/ t=108 \/ t=111):Rows (fun q=>i <= q /\ MTy W q) W j u o f:=by
 obtain⟨a,cap,rfl,y,z,A,B,C⟩:=Rows.of_owns h;refine⟨a,cap,rfl,y,z,A,B,?_⟩;rcases C with c|⟨b,x,L,D,l,rfl,G,p,s,w⟩
 ·exact .inl c
 ·refine .inr ⟨b,x,L,D,l,rfl,?_,p,s,w⟩;rcases h.2 with⟨c,_⟩|⟨g,E,F,d,r,hh,_⟩
  ·simp at c
  ·simp at d;obtain⟨⟨rfl,-⟩,-⟩:=d;exact⟨r,_,_,_,hh,m⟩
theorem fq(w:World):dl F w eG .empty:=⟨_,_,_,rfl,Rows.nil F w 1,Rows.nil F w 4,Rows.nil F w 3,nofun,nofun,nofun⟩
theorem Ae{w a:World}(h:dl (fun q=>i<q /\ MTy w q) w u r)(c:Below w.heap.size w a):dl (fun q=>i<q /\ MTy a q) a u r:=
 (h.later c (aq _)).mono fun q d _=>⟨d.1,by
  obtain⟨L,t,e,b,f⟩:=d.2
  exact⟨L,t,e,(c.block q (lt_of_block b)).trans b,f⟩⟩
theorem DSt.mapV{w:World}{M:Nat}{av:Option Addr}{cap:Nat}{b:List UInt8}{W:World}{its:List RIt}{gs:List RGo}{ai:Option Addr}{ci:Nat}{ag:Option Addr}{cg:Nat}{st:dO}{L:List Int}(h:DSt w M av cap b W (eqs L) its gs ai ci ag cg st)(d:L.length=8)(g:∀x∈L,0 <= x /\ x <= 1099511627776)(k:∀x∈its,ItB j x)(l:∀x∈gs,GoB j x)(s:j <= 1000000):
 dl (fun q=>w.heap.size<q /\ MTy W q) W (.agg #[.slice (some ⟨w.heap.size+1+1+1,0,none⟩) 8 8,.slice ai its.length ci,.slice ag gs.length cg]) ⟨L,its,gs⟩:=by
 have r:=h.hM;refine⟨_,_,_,rfl,?_,(vW h.items (.inr (.inl rfl))).mono fun q a _=>⟨by have:=a.1;omega,a.2⟩,(vW h.gone (.inr (.inr rfl))).mono fun q a _=>⟨by have:=a.1;omega,a.2⟩,fun x c=>?_,fun x c=>?_,fun x c=>?_⟩
 ·have f:=h.seen;have e:eqs L=L.map eI:=by unfold eqs;rw[d];simp
  rw[e] at f;refine⟨some ⟨w.heap.size+1+1+1,0,none⟩,8,by rw[d],by rw[d];exact aq _,by unfold maxLen;omega,nofun,by simp,.inr ⟨w.heap.size+1+1+1,0,(L.map eI).toArray,3,(0,0),rfl,⟨by omega,_,_,_,f,.inl rfl⟩,f,by simp,fun i hi=>by simp⟩⟩
 ·have:=g x c;unfold eX;omega
 ·obtain⟨m,o,p,t⟩:=k x c;unfold eX;omega
 ·obtain⟨m,o,p⟩:=l x c;unfold eX;omega
theorem DSt.fin{w:World}{M:Nat}{av:Option Addr}{cap:Nat}{b:List UInt8}{W:World}{l:List Value}{its:List RIt}{gs:List RGo}{ai:Option Addr}{ci:Nat}{ag:Option Addr}{cg:Nat}{st:dO}(h:DSt w M av cap b W l its gs ai ci ag cg st)(x y z:Value)(i:dl (fun q=>w.heap.size<q /\ MTy W q) W u r):
 dl (fun q=>w.heap.size <= q /\ MTy (((W.setCell ⟨w.heap.size,0,none⟩ x).setCell ⟨w.heap.size,1,none⟩ y).setCell ⟨w.heap.size,2,none⟩ z) q) (((W.setCell ⟨w.heap.size,0,none⟩ x).setCell ⟨w.heap.size,1,none⟩ y).setCell ⟨w.heap.size,2,none⟩ z) u r:=by
 have d:∀q,w.heap.size<q -> (((W.setCell ⟨w.heap.size,0,none⟩ x).setCell ⟨w.heap.size,1,none⟩ y).setCell ⟨w.heap.size,2,none⟩ z).heap[q]?=W.heap[q]?:=fun q a=>by
  have c:q≠w.heap.size:=by omega
  exact(Below.heap_setCell _ _ _ _ c).trans ((Below.heap_setCell _ _ _ _ c).trans (Below.heap_setCell _ _ _ _ c))
 refine(i.keep (w':=((W.setCell ⟨w.heap.size,0,none⟩ x).setCell ⟨w.heap.size,1,none⟩ y).setCell ⟨w.heap.size,2,none⟩ z) fun q a _=>d q a.1).mono fun q a _=>⟨Nat.le_of_lt a.1,?_⟩
 obtain⟨L,t,e,f,g⟩:=a.2;exact⟨L,t,e,(d q a.1).trans f,g⟩
def uq(w:World)(b:List UInt8)(e:Ending)(a:World):Prop:=∃r,e=.returned (.tuple #[r,.int .i64 (fi b).2]) /\ dl (fun q=>w.heap.size <= q /\ MTy a q) a r (fi b).1 /\ Below w.heap.size w a
def zv(w:World)(b:List UInt8)(e:Ending)(a:World):Prop:=∃r,e=.returned (.tuple #[r,.int .i64 (fi b).2]) /\ dl (fun q=>w.heap.size <= q) a r (fi b).1 /\ Below w.heap.size w a
theorem nf(w:World)(hT:eJ w)(h3:4 <= w.heap.size)(F:aX)(av:Option Addr)(cap:Nat)(b:List UInt8)(hB:aO F w (.slice av b.length cap) b)(hF:∀q,F q -> q<w.heap.size)(hl:b.length <= 400000):
 Calls aE 100 #[.slice av b.length cap] w (uq w b):=by
 have bO:=ae (show ∀m,Below w.heap.size w m -> eJ m /\ 4 <= m.heap.size from fun m hb=>⟨cd hT h3 hb,au h3 hb.size⟩);have j:=ae (show ∀m,Below w.heap.size w m -> aO F m (.slice av b.length cap) b /\ ∀q,F q -> q<m.heap.size from fun m hb=>⟨hB.keep (w':=m) fun q Y _=>hb.block q (hF q Y),fun q Y=>aw (hF q Y) hb.size⟩);obtain⟨w2,bK⟩:=aQ ((w.alloc (.cells #[.slice none 0 0,.slice none 0 0,.slice none 0 0] 37)).alloc (.cells #[.slice av b.length cap,.int .i64 0,.bool false] 207));have b9:w2.heap.size=w.heap.size+1+1:=by rw[bK];simp
 have HN:=ae (tn w2);have bU:=ae bK;have bX:=ae b9;have Hl:=ae hl;clear bK hB hT b9 hl hF
 go_enter func100,ntmps100
 go_wp2_with fail;rw[<- bU.out];refine HN.out.mono ?_;rintro e w3 ⟨rfl,hS,bk⟩;rw[bX.out] at hS bk;rw[bX.out];rw[bU.out] at bk;have l:=DSt.start w av cap b w3 hS bk;obtain⟨M,hM⟩:=aH w3.heap.size;obtain⟨w4,bo⟩:=aQ (w3.alloc (.cells #[.slice (some ⟨w.heap.size+1+1+1,0,none⟩) 8 8,.slice none 0 0,.slice none 0 0] 37));rw[<- bo,hM] at l;obtain⟨c0,c1,c2⟩:=aS l.map;rw[bo] at c0 c1 c2;have bV:=ae bo;have HD:=ae l;clear hS bk l HN bo;go_wp2_with fail;rw[<- bV.out];clear c0 c1 c2 bV hM
 go_loopw [18] (fun i wr=>∃k:Nat,k <= 8 /\ i=.int .i64 (k:Int) /\ ∃L st,ic k ([],some b)=(L,st) /\ L.length=k /\ DSt w M av cap b wr (eqs L) [] [] none 0 none 0 st) (fun i _=>8-(intOf i).toNat)
 case atStart=>exact⟨0,by omega,rfl,[],some b,rfl,rfl,HD.out⟩
 case round=>
  obtain⟨k,hk,rfl,L,st,bn,hL,l⟩:=hrel
  by_cases ct:k<8
  ·have cv:(k:Int)<8:=by omega
   have pm:∀m,aT (fun q=>q=w.heap.size+1 \/ q=w.heap.size+1+1+1) wr.drew m -> m.cell? ⟨M,0,none⟩=some (.slice (some ⟨w.heap.size+1+1+1,0,none⟩) 8 8):=fun m hh=>aT.cellB hh (l.map.cell 0) (by have:=l.hM;show ¬(M=w.heap.size+1 \/ M=w.heap.size+1+1+1);omega)
   have a3:=l.kept (W':=wr.drew) ((Below.refl wr.heap.size wr).drew);have bN:=ae a3;have d:=ae (iR wr.drew (w.heap.size+1) F av cap b st a3.rd (j.out _ a3.bel).1 (j.out _ a3.bel).2);clear l a3;go_wp2_with fail;refine bS (aT (fun q=>q=w.heap.size+1 \/ q=w.heap.size+1+1+1)) (up 4 [504,5,506]) (by kernel_rfl) ?_;apply aG;rfl;intro m hC;go_simp;(repeat (simp(disch:=omega) only[af,if_pos];go_simp));exact aF;refine bq rfl rfl (fun KK hK=>?_);go_simp;refine d.out.mono ?_;rintro e w8 ⟨rfl,f,bG⟩;refine⟨_,rfl,aT.trans (aT.refl _ _) bG (fun i hi=>.inl (.inl hi)),hK _ _ ?_⟩;have bi:=bN.out.read bG f;clear hK KK d bG f pm bN;go_simp;apply aG;rfl;intro m hC;go_simp;(repeat (simp(disch:=omega) only[af,if_pos];go_simp));exact aF;have cw:k<(eqs L).length:=by rw[Di L (by omega)];exact ct
   have e0:w8.cell? ⟨w.heap.size+1+1+1,k,none⟩=some ((eqs L)[k]):=by rw[bi.seen.cell k,List.getElem?_eq_getElem cw]
   have f0:w8.frozen? ⟨w.heap.size+1+1+1,k,none⟩=false:=bi.seen.free k;have bj:=bi.put k (.int .i64 (cA st).1);rw[<- hL,Dh L _ (by omega),hL] at bj;obtain⟨w9,br⟩:=aQ (w8.setCell ⟨w.heap.size+1+1+1,k,none⟩ (.int .i64 (cA st).1));have b4:aT (fun q=>q=w.heap.size+1 \/ q=w.heap.size+1+1+1) w8 w9:=by rw[br];exact(aT.refl _ _).setCell (p:=⟨w.heap.size+1+1+1,k,none⟩) (.inl (.inr rfl)) _
   rw[<- br] at bj;have ca:=ae bj;have cl:=ae b4;have bW:=ae br;clear bi bj b4 br;refine bq rfl rfl (fun KK hK=>?_);go_simp;rw[<- bW.out];refine⟨cl.out,hK _ _ ?_⟩;clear hK KK e0 f0 bW;go_simp;apply aG;rfl;intro m hC;go_simp;(repeat (simp(disch:=omega) only[af,if_pos];go_simp));exact aF;refine aY ?_;go_wp2_with fail
   go_roundw
   case rel=>exact⟨k+1,by omega,by go_num,L++[(cA st).1],(cA st).2,by rw[jy,bn],by simp[hL],ca.out⟩
   case measure=>simp[intOf];omega
  ·have cv:¬(k:Int)<8:=by omega
   obtain rfl:k=8:=by omega
   have b1:o5 b=(L,st):=bn;have bJ:=q7 8 ([],some b);rw[bn] at bJ;have bv:=ae b1;have HL:=ae hL;have aZ:=ae l;have cn:=ae (show szS st <= b.length+1 from bJ);clear l bn hk b1 hL bJ HD;obtain⟨⟨n0,s0⟩,W⟩:=aH (cA st);have C:=gE st;have ak:=(iG st).1;rw[W] at C ak;dsimp only at C ak;obtain⟨n1,rfl⟩:=Int.eq_ofNat_of_zero_le C.1;have co:=ae (au ak cn.out);have cc:=ae (show fH fW n1 ([],s0)=jP b by unfold jP;rw[bv.out];dsimp only;rw[W];rfl);have cx:n1 <= 1099511627776:=by omega
   have a:=iR wr (w.heap.size+1) F av cap b _ aZ.out.rd (j.out _ aZ.out.bel).1 (j.out _ aZ.out.bel).2;rw[W] at a;dsimp only at a;have d:=ae a;clear a;go_wp2_with fail
   skip
   refine d.out.mono ?_;rintro e w5 ⟨rfl,f,b5⟩;have cq:=ae (aZ.out.read b5 f);clear d f;clear C ak W aZ b5;go_wp2_with fail
   go_loopw [7] (fun i wq=>∃(g:Nat)(its:List RIt)(ai:Option Addr)(ci:Nat)(S:dO),g <= 1099511627776 /\ i=.int .i64 (g:Int) /\ fH fW g (its,S)=jP b /\ (∀x∈its,ItB (b.length+1) x) /\ its.length+szS S <= b.length+1 /\ DSt w M av cap b wq (eqs L) its [] ai ci none 0 S) (fun i _=>(intOf i).toNat)
   case atStart=>exact⟨n1,[],none,0,s0,cx,rfl,cc.out,nofun,by simpa using co.out,cq.out⟩
   case round=>
    obtain⟨g,its,ai,ci,S,C,rfl,ba,bZ,b7,l⟩:=hrel;obtain⟨kk,ay,bd,bl,be⟩:=id l.rd;obtain⟨z0,z1,z2⟩:=aS bd;have T:=ae ba;have bu:=ae bZ;have a1:=ae b7;have c:=ae l;have U:=ae be;clear ba bZ b7 l bd bl be;rcases Decidable.em (g=0 \/ ay=true) with u|u
    ·have bP:=ae (show jP b=(its,S) by
      rw[<- T.out];rcases u with rfl|rfl
      ·rfl
      ·rw[show S=none from U.out,js])
     rcases Nat.eq_zero_or_pos g with K|K
     case' inl=>subst K
     case' inr=>
      obtain rfl:ay=true:=u.resolve_left (by omega)
      obtain⟨n,rfl⟩:∃n,g=n+1:=⟨g-1,by omega⟩
      have bF:(0:Int)<((n+1:Nat):Int):=by omega
      clear K
     all_goals
      clear T C u;go_wp2_with fail;obtain⟨⟨cC,bM⟩,W⟩:=aH (cA S);have C:=gE S;have ak:=(iG S).1;rw[W] at C ak;dsimp only at C ak;obtain⟨n2,rfl⟩:=Int.eq_ofNat_of_zero_le C.1;have cp:=ae (show szS bM <= b.length+1 by have:=a1.out;omega);have ce:=ae (show fH fY n2 ([],bM)=lj b by unfold lj;rw[bP.out];dsimp only;rw[W];rfl);have cy:n2 <= 1099511627776:=by omega
      clear z0 z1 z2;have a:=iR wr (w.heap.size+1) F av cap b _ c.out.rd (j.out _ c.out.bel).1 (j.out _ c.out.bel).2;rw[W] at a;dsimp only at a;have d:=ae a;clear a;go_wp2_with fail
      skip
      refine d.out.mono ?_;rintro e y5 ⟨rfl,f,b6⟩;have cs:=ae (c.out.read b6 f);clear d f;clear C ak W c b6;go_wp2_with fail
      go_loopw [9] (fun i wq=>∃(g:Nat)(gs:List RGo)(ag:Option Addr)(cg:Nat)(sg:dO),g <= 1099511627776 /\ i=.int .i64 (g:Int) /\ fH fY g (gs,sg)=lj b /\ (∀x∈gs,GoB (b.length+1) x) /\ gs.length+szS sg <= b.length+1 /\ DSt w M av cap b wq (eqs L) its gs ai ci ag cg sg) (fun i _=>(intOf i).toNat)
      case atStart=>exact⟨n2,[],none,0,bM,cy,rfl,ce.out,nofun,by simpa using cp.out,cs.out⟩
      case round=>
       obtain⟨g,gs,ag,cg,sg,C,rfl,ba,bY,b8,l⟩:=hrel;obtain⟨kk,ay,bd,bl,be⟩:=id l.rd;obtain⟨z0,z1,z2⟩:=aS bd;have T:=ae ba;have bt:=ae bY;have bh:=ae b8;have c:=ae l;have U:=ae be;have cf:=ae bl;clear ba bY b8 l bd bl be;rcases Decidable.em (g=0 \/ ay=true) with u|u
       ·have bg:=ae (show lj b=(gs,sg) by
         rw[<- T.out];rcases u with rfl|rfl
         ·rfl
         ·rw[show sg=none from U.out,js])
        clear T C;cases ay with
        |true=>
         clear u;obtain rfl:sg=none:=U.out;rcases Nat.eq_zero_or_pos g with K|K
         case' inl=>subst K
         case' inr=>
          obtain⟨n,rfl⟩:∃n,g=n+1:=⟨g-1,by omega⟩
          have bF:(0:Int)<((n+1:Nat):Int):=by omega
          clear K
         all_goals
          have E:=ae (show fi b=(.empty,5) by unfold fi;rw[if_neg];rw[bg.out];exact fun h=>nomatch h.1);obtain⟨wf,D,J,I⟩:=dJ c.out.res c.out.bel (aq _) (.slice none 0 0) (.slice none 0 0) (.slice none 0 0);obtain⟨y0,y1,y2⟩:=aS c.out.res;have f0:=c.out.res.free 0;have f1:=c.out.res.free 1;have f2:=c.out.res.free 2;have Q:=ae (aS J);have al:=ae I;have ax:=ae D;clear D J I;go_wp2_with fail;rw[<- ax.out];obtain⟨q0,q1,q2⟩:=Q.out;exact bodyPost_ret (v:=.tuple #[eG,.int .i64 5]) (by simp[results,results100,go_sem,q0,q1,q2,eG]) rfl ⟨_,by rw[E.out],by rw[E.out];exact fq _ _,al.out⟩
        |false=>
         obtain rfl:g=0:=by simpa using u
         clear u;obtain rfl:sg=some (b.drop kk):=U.out
         by_cases b2:kk=b.length
         case neg=>
          have b3:¬(kk:Int)=(b.length:Int):=by omega
          have cz:((kk:Int) == (b.length:Int))=false:=beq_eq_false_iff_ne.2 b3;have cB:((kk:Int) != (b.length:Int))=true:=by simp[b3]
          have E:=ae (show fi b=(.empty,5) by
           unfold fi;rw[if_neg];rw[bg.out];intro h;have R:=congrArg List.length (Option.some.inj h.1);have:=cf.out;simp at R
           omega)
          clear b2;obtain⟨wf,D,J,I⟩:=dJ c.out.res c.out.bel (aq _) (.slice none 0 0) (.slice none 0 0) (.slice none 0 0);obtain⟨y0,y1,y2⟩:=aS c.out.res;have f0:=c.out.res.free 0;have f1:=c.out.res.free 1;have f2:=c.out.res.free 2;have Q:=ae (aS J);have al:=ae I;have ax:=ae D;clear D J I;go_wp2_with fail;rw[<- ax.out];obtain⟨q0,q1,q2⟩:=Q.out;exact bodyPost_ret (v:=.tuple #[eG,.int .i64 5]) (by simp[results,results100,go_sem,q0,q1,q2,eG]) rfl ⟨_,by rw[E.out],by rw[E.out];exact fq _ _,al.out⟩
         case pos=>
          subst b2;have bQ:=ae (show j7 b=⟨L,its,gs⟩ by unfold j7;rw[bv.out,bP.out,bg.out]);have cb:=ae (show(lj b).2=some [] by rw[bg.out];simp)
          have b0:∀x∈L,0 <= x /\ x <= 1099511627776:=fun x hx=>by
           have:=pf 8 ([],some b) nofun x;have e:ic 8 ([],some b)=(L,st):=bv.out;rw[e] at this;exact this hx
          have bm:=c.out.mapV HL.out b0 bu.out bt.out (by have:=Hl.out;omega);rw[<- bQ.out] at bm
          have bD:(∀x∈(j7 b).items,x.key.length <= 1000000) /\ (∀x∈(j7 b).gone,x.key.length <= 1000000):=by
           rw[bQ.out];exact⟨fun x hx=>by have:=(bu.out x hx).1;have:=Hl.out;omega,fun x hx=>by have:=(bt.out x hx).1;have:=Hl.out;omega⟩
          obtain⟨ok,bH⟩:=aH (bp (j7 b));have hC:=kQ _ (bO.out _ c.out.bel).1 (bO.out _ c.out.bel).2 _ _ (j7 b) bm bD.1 bD.2;rw[bH] at hC;have HC:=ae hC;have cj:=ae bm;have bR:=ae bH;obtain⟨c0,c1,c2⟩:=aS c.out.map;clear b0 bm bD bH hC;go_wp2_with fail;refine HC.out.mono ?_;rintro e y6 ⟨rfl,bC⟩;have A:=ae (c.out.kept bC);have ck:=ae (Ae cj.out bC);clear HC bC c0 c1 c2 z0 z1 z2;cases ok with
          |false=>
           have E:=ae (show fi b=(.empty,5) by unfold fi;rw[if_neg];rw[bR.out];exact fun h=>nomatch h.2);obtain⟨wf,D,J,I⟩:=dJ A.out.res A.out.bel (aq _) (.slice none 0 0) (.slice none 0 0) (.slice none 0 0);obtain⟨y0,y1,y2⟩:=aS A.out.res;have f0:=A.out.res.free 0;have f1:=A.out.res.free 1;have f2:=A.out.res.free 2;have Q:=ae (aS J);have al:=ae I;have ax:=ae D;clear D J I;go_wp2_with fail;rw[<- ax.out];obtain⟨q0,q1,q2⟩:=Q.out;exact bodyPost_ret (v:=.tuple #[eG,.int .i64 5]) (by simp[results,results100,go_sem,q0,q1,q2,eG]) rfl ⟨_,by rw[E.out],by rw[E.out];exact fq _ _,al.out⟩
          |true=>
           have E:=ae (show fi b=(j7 b,0) by unfold fi;rw[if_pos ⟨cb.out,bR.out⟩]);obtain⟨wf,D,J,I⟩:=dJ A.out.res A.out.bel (aq _) (.slice (some ⟨w.heap.size+1+1+1,0,none⟩) 8 8) (.slice ai its.length ci) (.slice ag gs.length cg);have bE:=A.out.fin (.slice (some ⟨w.heap.size+1+1+1,0,none⟩) 8 8) (.slice ai its.length ci) (.slice ag gs.length cg) ck.out;rw[<- D] at bE;obtain⟨y0,y1,y2⟩:=aS A.out.res;have f0:=A.out.res.free 0;have f1:=A.out.res.free 1;have f2:=A.out.res.free 2;obtain⟨c0,c1,c2⟩:=aS A.out.map;have Q:=ae (aS J);have al:=ae I;have ax:=ae D;have ch:=ae bE;clear D J I bE;go_wp2_with fail;rw[<- ax.out];obtain⟨q0,q1,q2⟩:=Q.out;exact bodyPost_ret (v:=.tuple #[.agg #[.slice (some ⟨w.heap.size+1+1+1,0,none⟩) 8 8,.slice ai its.length ci,.slice ag gs.length cg],.int .i64 0]) (by simp[results,results100,go_sem,q0,q1,q2]) rfl ⟨_,by rw[E.out],by rw[E.out];exact ch.out,al.out⟩
       have K:g≠0:=fun h=>u (.inl h)
       obtain⟨n,rfl⟩:∃n,g=n+1:=⟨g-1,by omega⟩
       have bF:(0:Int)<((n+1:Nat):Int):=by omega
       clear K;cases ay with
       |true=>exact absurd (.inr rfl) u
       |false=>
        clear u;obtain⟨B,a6⟩:=aH (b.drop kk);obtain rfl:sg=some B:=by rw[<- a6];exact U.out
        have an:=ae (vu B);have a0:=ae (show fH fY n (gs++[(fY (some B)).1],(fY (some B)).2)=lj b by rw[<- T.out,iD]);obtain⟨⟨t,s1⟩,ht⟩:=aH (cJ (some B));obtain⟨⟨r,s2⟩,aU⟩:=aH (cA s1);obtain⟨⟨s,s3⟩,aV⟩:=aH (cA s2);have a7:fY (some B)=(⟨t,r,s⟩,s3):=by unfold fY;rw[ht];dsimp only;rw[aU];dsimp only;rw[aV]
        rw[a7] at an a0;have Ht:=ae ht;have bA:=ae aU;have bB:=ae aV;clear a6 ht aU aV a7 U T;have a:=tm wr (w.heap.size+1) F av cap b _ c.out.rd (j.out _ c.out.bel).1 (j.out _ c.out.bel).2;rw[Ht.out] at a;dsimp only at a;have d:=ae a;clear a;go_wp2_with fail
        skip
        refine d.out.mono ?_;rintro e v5 ⟨rfl,f,bc⟩;have O:=ae (c.out.read bc f);clear d f;obtain⟨v6,Z⟩:=aQ (v5.alloc (.cells #[.string ⟨t.toArray⟩,.int .i64 0,.int .i64 0] 111));have a9:Below v5.heap.size v5 v6:=by rw[Z];exact aI _ _
        obtain⟨X,V⟩:=aH v5.heap.size;have ao:=ae (show Blk v6 X [.string ⟨t.toArray⟩,.int .i64 0,.int .i64 0] 111 by rw[Z,<- V];exact Blk.new _ _ _);have aa:=ae (show M<X by rw[<- V];exact O.out.map.lt);have HX:=ae V;have G:=ae (O.out.kept a9);have a2:=ae Z;have bx:=ae (show ∀q,(Value.slice ag gs.length cg).ownBlock=some q -> q≠X from fun q Y e=>by have:=(O.out.gone.lt q Y).2;omega);have cm:=ae (show ∀q,(Value.slice ai its.length ci).ownBlock=some q -> q≠X from fun q Y e=>by have:=(O.out.items.lt q Y).2;omega);have a4:¬X=w.heap.size+1:=by have:=aa.out;have:=O.out.hM;omega
        have ab:=ae a4;clear Z a9 z0 z1 z2 bc c a4;have a:=iR v6 (w.heap.size+1) F av cap b _ G.out.rd (j.out _ G.out.bel).1 (j.out _ G.out.bel).2;rw[bA.out] at a;dsimp only at a;have d:=ae a;clear a;go_wp2_with fail;rw[<- a2.out];refine d.out.mono ?_;rintro e v7 ⟨rfl,f,aM⟩;have H:=ae (G.out.read aM f);clear d f;have ar:=ae (ao.out.keep (aM.block _ ao.out.lt ab.out));clear V aM ao G a2;have a:=iR v7 (w.heap.size+1) F av cap b _ H.out.rd (j.out _ H.out.bel).1 (j.out _ H.out.bel).2;rw[bB.out] at a;dsimp only at a;have d:=ae a;clear a;go_wp2_with fail
        skip
        refine d.out.mono ?_;rintro e v8 ⟨rfl,f,aN⟩;have ad:=ae (H.out.read aN f);clear d f;have z:=ar.out.keep (aN.block _ ar.out.lt ab.out);have e1:v8.cell? ⟨X,1,none⟩=some (.int .i64 0):=z.cell 1;have e2:v8.cell? ⟨X,2,none⟩=some (.int .i64 0):=z.cell 2;have f1:=z.free 1;have f2:=z.free 2;obtain⟨o,N⟩:=aQ ((v8.setCell ⟨X,1,none⟩ (.int .i64 r)).setCell ⟨X,2,none⟩ (.int .i64 s));have a8:Blk o X [.string ⟨t.toArray⟩,.int .i64 r,.int .i64 s] 111:=by rw[N];exact(z.set 1 _).set 2 _
        have R:∀q,(Value.slice ai its.length ci).ownBlock=some q -> q≠X:=cm.out
        have h2:∀q,(Value.slice ag gs.length cg).ownBlock=some q -> q≠X:=bx.out
        have y:DSt w M av cap b o (eqs L) its gs ai ci ag cg s3:=by
         rw[N];exact(ad.out.far aa.out R h2 1 _).far aa.out R h2 2 _
        obtain⟨i0,t1,t2,t3,t4⟩:=info_parts mu;obtain⟨va,aW,hr,aP,aJ⟩:=cu (P:=aE) o (M+1) 35 111 underlying35 t1 t2 t3 t4 rfl (by decide) (.slice ag gs.length cg) gs.length _ y.gone #[.string ⟨t.toArray⟩,.int .i64 r,.int .i64 s] rfl (by simp[Value.oneCell']) (by have:=bh.out;have:=Hl.out;unfold maxLen;omega) (by have:=bh.out;have:=Hl.out;omega) y.map.lt;obtain⟨a5,c5,rfl⟩:=aK aP;have az:=(y.kept (aI o (.cells #[.string ⟨t.toArray⟩,.int .i64 r,.int .i64 s] 111))).gon (x:=⟨t,r,s⟩) aJ aP;have aL:Blk aW M [.slice (some ⟨w.heap.size+1+1+1,0,none⟩) 8 8,.slice ai its.length ci,.slice ag gs.length cg] 37:=((y.kept (aI o (.cells #[.string ⟨t.toArray⟩,.int .i64 r,.int .i64 s] 111))).map).grownNe ((y.kept (aI o (.cells #[.string ⟨t.toArray⟩,.int .i64 r,.int .i64 s] 111))).gone) (by decide) aJ;have d1:aW.cell? ⟨M,2,none⟩=some (.slice ag gs.length cg):=aL.cell 2;have g1:=aL.free 2;obtain⟨v12,aR⟩:=aQ (aW.setCell ⟨M,2,none⟩ (.slice a5 (gs.length+1) c5));rw[<- aR] at az;have m1:o.cell? ⟨M,2,none⟩=some (.slice ag gs.length cg):=y.map.cell 2;obtain⟨k0,k1,k2⟩:=aS a8;have bf:o.heap.size=v8.heap.size:=by rw[N];simp[World.setCell]
        rw[bf] at hr;rw[N] at m1 k0 k1 k2 hr;have bs:=ae az;have bz:=ae aR;clear aN ar H ad z N a8 y R h2 ab aP aJ aL az aR t1 t2 t3 t4 bf;go_wp2_with fail;rw[<- bz.out]
        go_roundw
        case rel=>exact⟨n,_,a5,c5,s3,by omega,by go_num,a0.out,fun x hx=>by
         rcases List.mem_append.1 hx with h|h
         ·exact bt.out x h
         ·rw[List.mem_singleton.1 h];exact an.out.2.mono (by have:=bh.out;omega),by have:=bh.out;have:=an.out.1;rw[aA,List.length_singleton];omega,bs.out⟩
        case measure=>first|(simp[intOf];done)|(simp[intOf];omega)
    have K:g≠0:=fun h=>u (.inl h)
    obtain⟨n,rfl⟩:∃n,g=n+1:=⟨g-1,by omega⟩
    have bF:(0:Int)<((n+1:Nat):Int):=by omega
    clear K;cases ay with
    |true=>exact absurd (.inr rfl) u
    |false=>
     clear u;obtain⟨B,a6⟩:=aH (b.drop kk);obtain rfl:S=some B:=by rw[<- a6];exact U.out
     have an:=ae (vt B);have a0:=ae (show fH fW n (its++[(fW (some B)).1],(fW (some B)).2)=jP b by rw[<- T.out,iD]);obtain⟨⟨t,s1⟩,ht⟩:=aH (cJ (some B));obtain⟨⟨r,s2⟩,aU⟩:=aH (cA s1);obtain⟨⟨s,s3⟩,aV⟩:=aH (cA s2);obtain⟨⟨x3,s4⟩,bL⟩:=aH (cA s3);have a7:fW (some B)=(⟨t,r,s,x3⟩,s4):=by unfold fW;rw[ht];dsimp only;rw[aU];dsimp only;rw[aV];dsimp only;rw[bL]
     rw[a7] at an a0;have Ht:=ae ht;have bA:=ae aU;have bB:=ae aV;have cr:=ae bL;clear a6 ht aU aV bL a7 U T;have a:=tm wr (w.heap.size+1) F av cap b _ c.out.rd (j.out _ c.out.bel).1 (j.out _ c.out.bel).2;rw[Ht.out] at a;dsimp only at a;have d:=ae a;clear a;go_wp2_with fail
     skip
     refine d.out.mono ?_;rintro e v5 ⟨rfl,f,bc⟩;have O:=ae (c.out.read bc f);clear d f;obtain⟨v6,Z⟩:=aQ (v5.alloc (.cells #[.string ⟨t.toArray⟩,.int .i64 0,.int .i64 0,.int .i64 0] 108));have a9:Below v5.heap.size v5 v6:=by rw[Z];exact aI _ _
     obtain⟨X,V⟩:=aH v5.heap.size;have ao:=ae (show Blk v6 X [.string ⟨t.toArray⟩,.int .i64 0,.int .i64 0,.int .i64 0] 108 by rw[Z,<- V];exact Blk.new _ _ _);have aa:=ae (show M<X by rw[<- V];exact O.out.map.lt);have HX:=ae V;have G:=ae (O.out.kept a9);have a2:=ae Z;have bx:=ae (show ∀q,(Value.slice ai its.length ci).ownBlock=some q -> q≠X from fun q Y e=>by have:=(O.out.items.lt q Y).2;omega);have a4:¬X=w.heap.size+1:=by have:=aa.out;have:=O.out.hM;omega
     have ab:=ae a4;clear Z a9 z0 z1 z2 bc c a4;have a:=iR v6 (w.heap.size+1) F av cap b _ G.out.rd (j.out _ G.out.bel).1 (j.out _ G.out.bel).2;rw[bA.out] at a;dsimp only at a;have d:=ae a;clear a;go_wp2_with fail;rw[<- a2.out];refine d.out.mono ?_;rintro e v7 ⟨rfl,f,aM⟩;have H:=ae (G.out.read aM f);clear d f;have ar:=ae (ao.out.keep (aM.block _ ao.out.lt ab.out));clear V aM ao G a2;have a:=iR v7 (w.heap.size+1) F av cap b _ H.out.rd (j.out _ H.out.bel).1 (j.out _ H.out.bel).2;rw[bB.out] at a;dsimp only at a;have d:=ae a;clear a;go_wp2_with fail
     skip
     refine d.out.mono ?_;rintro e v8 ⟨rfl,f,aN⟩;have ad:=ae (H.out.read aN f);clear d f;have bw:=ae (ar.out.keep (aN.block _ ar.out.lt ab.out));clear aN ar H;have a:=iR v8 (w.heap.size+1) F av cap b _ ad.out.rd (j.out _ ad.out.bel).1 (j.out _ ad.out.bel).2;rw[cr.out] at a;dsimp only at a;have d:=ae a;clear a;go_wp2_with fail
     skip
     refine d.out.mono ?_;rintro e v9 ⟨rfl,f,bI⟩;have bT:=ae (ad.out.read bI f);clear d f;have z:=bw.out.keep (bI.block _ bw.out.lt ab.out);have e1:v9.cell? ⟨X,1,none⟩=some (.int .i64 0):=z.cell 1;have e2:v9.cell? ⟨X,2,none⟩=some (.int .i64 0):=z.cell 2;have e3:v9.cell? ⟨X,3,none⟩=some (.int .i64 0):=z.cell 3;have f1:=z.free 1;have f2:=z.free 2;have f3:=z.free 3;obtain⟨o,N⟩:=aQ (((v9.setCell ⟨X,1,none⟩ (.int .i64 r)).setCell ⟨X,2,none⟩ (.int .i64 s)).setCell ⟨X,3,none⟩ (.int .i64 x3));have a8:Blk o X [.string ⟨t.toArray⟩,.int .i64 r,.int .i64 s,.int .i64 x3] 108:=by rw[N];exact((z.set 1 _).set 2 _).set 3 _
     have R:∀q,(Value.slice ai its.length ci).ownBlock=some q -> q≠X:=bx.out
     have h2:∀q,(Value.slice none 0 0).ownBlock=some q -> q≠X:=nofun
     have y:DSt w M av cap b o (eqs L) its [] ai ci none 0 s4:=by
      rw[N];exact((bT.out.far aa.out R h2 1 _).far aa.out R h2 2 _).far aa.out R h2 3 _
     obtain⟨i0,t1,t2,t3,t4⟩:=info_parts mt;obtain⟨va,aW,hr,aP,aJ⟩:=cu (P:=aE) o (M+1) 34 108 underlying34 t1 t2 t3 t4 rfl (by decide) (.slice ai its.length ci) its.length _ y.items #[.string ⟨t.toArray⟩,.int .i64 r,.int .i64 s,.int .i64 x3] rfl (by simp[Value.oneCell']) (by have:=a1.out;have:=Hl.out;unfold maxLen;omega) (by have:=a1.out;have:=Hl.out;omega) y.map.lt;obtain⟨a5,c5,rfl⟩:=aK aP;have az:=(y.kept (aI o (.cells #[.string ⟨t.toArray⟩,.int .i64 r,.int .i64 s,.int .i64 x3] 108))).item (x:=⟨t,r,s,x3⟩) aJ aP;have aL:Blk aW M [.slice (some ⟨w.heap.size+1+1+1,0,none⟩) 8 8,.slice ai its.length ci,.slice none ([]:List RGo).length 0] 37:=((y.kept (aI o (.cells #[.string ⟨t.toArray⟩,.int .i64 r,.int .i64 s,.int .i64 x3] 108))).map).grownNe ((y.kept (aI o (.cells #[.string ⟨t.toArray⟩,.int .i64 r,.int .i64 s,.int .i64 x3] 108))).items) (by decide) aJ;have d1:aW.cell? ⟨M,1,none⟩=some (.slice ai its.length ci):=aL.cell 1;have g1:=aL.free 1;obtain⟨v12,aR⟩:=aQ (aW.setCell ⟨M,1,none⟩ (.slice a5 (its.length+1) c5));rw[<- aR] at az;have m1:o.cell? ⟨M,1,none⟩=some (.slice ai its.length ci):=y.map.cell 1;obtain⟨k0,k1,k2,k3⟩:=dX a8;have bf:o.heap.size=v9.heap.size:=by rw[N];simp[World.setCell]
     rw[bf] at hr;rw[N] at m1 k0 k1 k2 k3 hr;have bs:=ae az;have bz:=ae aR;clear bI bw ad bT z N a8 y R h2 ab aP aJ aL az aR t1 t2 t3 t4 bf;go_wp2_with fail;rw[<- bz.out]
     go_roundw
     case rel=>exact⟨n,_,a5,c5,s4,by omega,by go_num,a0.out,fun x hx=>by
      rcases List.mem_append.1 hx with h|h
      ·exact bu.out x h
      ·rw[List.mem_singleton.1 h];exact an.out.2.mono (by have:=a1.out;omega),by have:=a1.out;have:=an.out.1;rw[aA,List.length_singleton];omega,bs.out⟩
     case measure=>first|(simp[intOf];done)|(simp[intOf];omega)
end
section
open Go.Lib
attribute [local go_sem ↓] aV
attribute [local go_sem] opC upC
def BH(w:World)(R:Nat)(d:Value)(c:Nat)(o:Option (List bR×List UInt8))(e:Ending)(a:World):Prop:=
 (match o with
  |some (l,r)=>(∃v,e=.returned v /\ a.ownsRow w.heap.size 9 1 v l.length (l.map eS)) /\ ∃b:Nat,b+r.length=c /\ Blk a R [d,.int .i64 (b:Int)] 247
  |none=>e=.panicked qI) /\ aT (fun q=>q=R) w a
theorem aT.later{w c d:World}(h:aT G w c)(a:Below w.heap.size c d):aT G w d:=
 ⟨a.os.trans h.os,a.tape.trans h.tape,a.output.trans h.output,au h.size a.size,fun q b e=>(a.block q b).trans (h.block q b e)⟩
theorem Af{b r:List UInt8}(h:pP (b.drop i)=some (o,r))(g:i <= b.length)(f:j+r.length=b.length):r=b.drop j /\ o <= r.length:=by
 unfold pP at h;cases c:rdF (b.drop i) 9 with
 |none=>rw[c] at h;cases h
 |some p=>
  obtain⟨m,q⟩:=p;rw[c] at h;dsimp only at h;split at h
  ·rename_i e;obtain⟨rfl,rfl⟩:=Prod.mk.inj (Option.some.inj h);obtain⟨d,a⟩:=kS c;rw[List.length_drop] at d a;refine⟨?_,e⟩;rw[List.drop_drop,show i+(b.length-i-q.length)=j by omega] at a;exact a
  ·cases h
theorem vX{b r:List UInt8}{k:bR}(h:rdT (b.drop i)=some (k,r))(f:i <= b.length)(d:j+r.length=b.length):r=b.drop j:=by
 unfold rdT at h;cases c:rdF (b.drop i) 9 with
 |none=>rw[c] at h;cases h
 |some p=>
  obtain⟨m,q⟩:=p;rw[c] at h;dsimp only at h;split at h
  ·rename_i g;obtain⟨rfl,rfl⟩:=Prod.mk.inj (Option.some.inj h);obtain⟨e,a⟩:=kS c;rw[List.length_drop] at e a;rw[List.length_drop] at d;rw[List.drop_drop] at a;rw[a,List.drop_drop]
   congr 1
   omega
  ·cases h
theorem Ag(R:Nat)(F:aX)(a:Option Addr)(c:Nat)(b:List UInt8)(u:Nat)(J:Blk w R [.slice a b.length c,.int .i64 (u:Int)] 247)(H:aO F w (.slice a b.length c) b)(hF:∀q,F q -> q≠R)(O:u <= b.length)(hl:b.length <= 400000):
 Calls aE 202 #[.pointer (some ⟨R,0,none⟩)] w (BH w R (.slice a b.length c) b.length (rdL (b.drop u))):=by
 have I:=z6 w R F a c b u J H hF O;have HB:=ae (show ∀W,aT (fun q=>q=R) w W -> aO F W (.slice a b.length c) b from fun W hW=>H.only hW fun q s e=>hF q s e);have ab:=ae (show R<w.heap.size from J.lt);rw[Br];obtain⟨o,S⟩:=aH (pP (b.drop u));rw[S] at I⊢;have HM:=ae I;have Ho:=ae S;have Hl:=ae hl;have HF:=ae hF;have Hk:=ae O;clear I H S J hl hF O
 go_enter func202,ntmps202
 go_wp2_with fail;refine HM.out.mono ?_;rintro e w1 hC;clear HM;cases o with
 |none=>
  obtain⟨rfl,l⟩:=hC;have A:=ae l;clear l;go_wp2_with fail;exact⟨rfl,rfl,A.out⟩
 |some p=>
  obtain⟨n,r⟩:=p;obtain⟨⟨rfl,k1,ax,ak⟩,l⟩:=hC;obtain⟨az,aW⟩:=Af Ho.out Hk.out ax;obtain⟨j,ai⟩:=aH (jw n r);have aV:n <= 400000:=by have:=Hl.out;omega
  have aL:=ae ak;have A:=ae l;have aQ:=ae az;have B:=ae ai;have aN:=ae (show k1 <= b.length by omega);clear ak l az ai ax;go_wp2_with fail
  go_loopw [3,4] (fun v i wr=>∃(m:Nat)(L:List bR)(d:Nat),i=.int .i64 (m:Int) /\ L.length+m=n /\ d <= b.length /\ (jw m (b.drop d)).map (fun p=>(L++p.1,p.2))=j /\ wr.ownsRow w.heap.size 9 1 v L.length (L.map eS) /\ Blk wr R [.slice a b.length c,.int .i64 (d:Int)] 247 /\ aT (fun q=>q=R) w wr) (fun _ i _=>(intOf i).toNat)
  case atStart=>exact⟨n,[],k1,rfl,by simp,aN.out,by rw[<- aQ.out,B.out];cases j<;>rfl,World.ownsRow_nil _ _ _ _,aL.out,A.out⟩
  case round=>
   obtain⟨m,L,d,rfl,aU,Q,an,f,N,T⟩:=hrel;obtain⟨ao,co,rfl⟩:=aK f;have K:=sZ wr R F a c b d N (HB.out wr T) HF.out Q;obtain⟨ot,V⟩:=aH (rdT (b.drop d));rw[V] at K;have HT:=ae K;have G:=ae V;clear K V;have ad:=ae f;have C:=ae an;have E:=ae T;have aM:=ae N;have aa:=ae Q;clear f an T N Q
   by_cases h0:0<m
   ·have aS:(0:Int)<(m:Int):=by omega
    obtain⟨z,rfl⟩:∃z,m=z+1:=⟨m-1,by omega⟩
    go_wp2_with fail;refine HT.out.mono ?_;rintro e x ag;clear HT;cases ot with
    |none=>
     obtain⟨rfl,g⟩:=ag
     have D:=ae (show j=none by
      rw[<- C.out];unfold jw;rw[G.out]
      rfl)
     have aG:=ae (show aT (fun q=>q=R) w x from E.out.trans g fun _ h=>.inl h);clear g;go_wp2_with fail;refine⟨rfl,?_⟩;show BH w R _ _ (jw n r) _ _;rw[B.out,D.out];exact⟨rfl,aG.out⟩
    |some p=>
     obtain⟨k,t⟩:=p;obtain⟨⟨rfl,y,ay,al⟩,g⟩:=ag;have ht:=vX G.out aa.out ay
     have s:(jw z (b.drop y)).map (fun p=>((L++[k])++p.1,p.2))=j:=by
      rw[<- C.out]
      conv=>rhs;unfold jw
      rw[G.out];dsimp only;rw[ht,Option.map_map]
      congr 1
      funext p
      simp
     have f:=jz ad.out g (fun q s e=>by have:=ab.out;have e':q=R:=e;omega);have U:aT (fun q=>q=R) w x:=E.out.trans g fun _ h=>.inl h
     have Y:=U.size;obtain⟨i0,t1,t2,t3,t4⟩:=info_parts zt;obtain⟨v5,Z,aR,X,ar⟩:=cu (P:=aE) x w.heap.size 32 9 underlying32 t1 t2 t3 t4 rfl (by decide) (.slice ao L.length co) L.length _ f #[.string ⟨k.toArray⟩] rfl (by simp[Value.oneCell']) (by unfold maxLen;omega) (by omega) Y;obtain⟨a9,c9,rfl⟩:=aK X;have M:Below w.heap.size x Z:=((Below.refl w.heap.size x).alloc Y _).trans (Below.grownOwn (bm f (aI _ _)) ar (by simp;omega) (aq _))
     have Hf:=ae (show Z.ownsRow w.heap.size 9 1 (.slice a9 (L.length+1) c9) (L++[k]).length ((L++[k]).map eS) by
      rw[aA,List.map_append];exact X)
     have aF:=ae (show Blk Z R [.slice a b.length c,.int .i64 (y:Int)] 247 from al.keep (M.block R ab.out));have aJ:=ae (U.later M);have Hq:=ae s;have aP:=ae (show y <= b.length by omega);clear s f U Y X ar M t1 t2 t3 t4 ht ay al g;go_wp2_with fail;clear aR
     go_roundw
     case rel=>exact⟨z,L++[k],y,by go_num,by simp;omega,aP.out,Hq.out,by simpa using Hf.out,aF.out,aJ.out⟩
     case measure=>simp[intOf]
   ·obtain rfl:m=0:=by omega
    have D:=ae (show j=some (L,b.drop d) by rw[<- C.out];show some (L++[],_)=_;rw[List.append_nil]);go_wp2_with fail
    go_ret
    show BH w R _ _ (jw n r) _ _;rw[B.out,D.out];exact⟨⟨⟨_,rfl,ad.out⟩,d,by rw[List.length_drop];have:=aa.out;omega,aM.out⟩,E.out⟩
end
section
attribute [local go_sem] opC upC
theorem BI{k n:Nat}(h:W.ownsRow i t k u n L)(d:j <= i):W.ownsRow j t k u n L:=by
 refine⟨h.1,?_⟩;rcases h.2 with c|⟨g,a,b,m,f,l⟩
 ·exact .inl c
 ·exact .inr ⟨g,a,b,m,au d f,l⟩
def ur(w:World)(d:Nat)(o:Option (List bR×List UInt8))(e:Ending)(b:World):Prop:=Below w.heap.size w b /\ match o with
 |none=>e=.returned (.tuple #[.slice none 0 0,.int .i64 0,.bool false])
 |some (l,r)=>∃a c,e=.returned (.tuple #[.slice a l.length c,.int .i64 ((d-r.length:Nat):Int),.bool true]) /\ b.ownsRow w.heap.size 9 1 (.slice a l.length c) l.length (l.map eS)
theorem Ah(i:Option Addr)(j:Nat)(b:List UInt8)(d:Nat)(s:aO F w (.slice i b.length j) b)(hF:∀q,F q -> q<w.heap.size)(y:d <= b.length)(z:b.length <= 400000):
 Calls aE 201 #[.slice i b.length j,.int .i64 (d:Int),.func (.func 202) #[] #[]] w (ur w b.length (rdL (b.drop d))):=by
 refine(qL (.inr (.inr rfl)) (fun _ _=>by go_simp) w F i j b d s hF ((rdL (b.drop d)).map fun p=>b.length-p.2.length) (fun v W=>∃p a c,rdL (b.drop d)=some p /\ v=.slice a p.1.length c /\ W.ownsRow (w.heap.size+4) 9 1 v p.1.length (p.1.map eS)) (fun v _ ⟨p,a,c,_,h,_⟩=>⟨(a,_,c),h⟩) (fun v W W' ⟨p,a,c,o,m,r⟩ n=>⟨p,a,c,o,m,jz r n fun q l=>by show ¬q<w.heap.size+4;omega⟩) fun C u t A=>(Ag C _ F i j b d u t (fun q l e=>by have:=hF q l;omega) y z).mono ?_).mono ?_
 ·rintro e B ⟨h,n⟩;refine⟨?_,n⟩;cases f:rdL (b.drop d) with
  |none=>rw[f] at h;exact h
  |some p=>
   rw[f] at h;obtain⟨⟨v,rfl,g⟩,k,D,m⟩:=h;obtain rfl:k=b.length-p.2.length:=by omega
   obtain⟨a,c,rfl⟩:=aK g;rw[A] at g;exact⟨_,rfl,⟨p,a,c,rfl,rfl,g⟩,m⟩
 ·rintro e B ⟨x,h⟩;refine⟨x,?_⟩;cases f:rdL (b.drop d) with
  |none=>rw[f] at h;exact h
  |some p=>
   rw[f] at h;obtain⟨v,rfl,q,a,c,l,rfl,g⟩:=h;obtain rfl:=Option.some.inj l;exact⟨a,c,rfl,BI g (by omega)⟩
end
section
attribute [local go_sem] opC upC
theorem BJ(g:Option Addr)(h:Nat)(b:List UInt8)(f:Nat)(m:aO F w (.slice g b.length h) b)(hF:∀q,F q -> q<w.heap.size)(t:f <= b.length)(u:b.length <= 400000):
 Calls aE 159 #[.slice g b.length h,.int .i64 (f:Int)] w (ur w b.length (rdL (b.drop f))):=by
 have i:=Ah w F g h b f m hF t u;obtain⟨o,d⟩:=aH (rdL (b.drop f));rw[d] at i⊢;have k:=ae i;clear m hF d i
 go_enter func159,ntmps159
 go_wp2_with fail;refine k.out.mono ?_;rintro e v n;clear k;cases o with
 |none=>
  obtain⟨j,rfl⟩:=n;go_wp2_with fail
  go_ret3
  exact⟨j,rfl⟩
 |some p=>
  obtain⟨l,r⟩:=p;obtain⟨j,a,c,rfl,d⟩:=n;have s:=ae d;clear d;go_wp2_with fail
  go_ret3
  exact⟨j,a,c,rfl,s.out⟩
end
section
open Go.Lib
attribute [local go_sem ↓] aV
attribute [local go_sem] opC upC
theorem vY{b r:List UInt8}{k:bR}(h:rdT b=some (k,r)):r.length<b.length:=by
 unfold rdT at h;cases a:rdF b 9 with
 |none=>rw[a] at h;cases h
 |some p=>
  obtain⟨m,q⟩:=p;rw[a] at h;dsimp only at h;split at h
  ·obtain⟨rfl,rfl⟩:=Prod.mk.inj (Option.some.inj h);have:=jr a;rw[List.length_drop];omega
  ·cases h
theorem tp:∀(n:Nat)(r:List UInt8),r.length<n -> jw n r=none
 |0,r,h=>absurd h (Nat.not_lt_zero _)
 |n+1,r,h=>by
  unfold jw;cases e:rdT r with
  |none=>rfl
  |some p=>
   obtain⟨k,t⟩:=p;have:=vY e;dsimp only;rw[tp n t (by omega)];rfl
theorem BK{b:List UInt8}{m:Nat}(a:b.length <= m):rdL b=match rdF b 9 with
 |none=>none
 |some (n,r)=>if n <= m then jw n r else none:=by
 unfold rdL;cases e:rdF b 9 with
 |none=>rfl
 |some p=>
  obtain⟨n,r⟩:=p;have:=jr e;dsimp only
  by_cases h:n <= r.length
  ·rw[if_pos h,if_pos (by omega)]
  ·rw[if_neg h];split
   ·rw[tp n r (by omega)]
   ·rfl
theorem ut(z:Option Addr)(A:Nat)(b:List UInt8)(l:Nat)(S:aO F w (.slice z b.length A) b)(hk:l <= b.length)(hl:b.length <= 400000):
 Calls aE 191 #[.slice z b.length A,.int .i64 (l:Int)] w (ur w b.length (rdL (b.drop l))):=by
 have HB:=ae (show ∀W,Below w.heap.size w W -> aO (fun q=>q<w.heap.size) W (.slice z b.length A) b from fun W hW=>by
  obtain⟨a,cp,e,h1,h2,h3,h4⟩:=S
  refine⟨a,cp,e,h1,h2,h3,h4.imp id fun⟨bb,aW,L,t,fz,e1,_,R,aY⟩=>⟨bb,aW,L,t,fz,e1,lt_of_block R,(hW.block _ (lt_of_block R)).trans R,aY⟩⟩)
 have u:=jW w F z A b l S hk;obtain⟨h,al⟩:=aH (rdL (b.drop l));have c:=BK (b:=b.drop l) (m:=b.length) (by rw[List.length_drop];omega);rw[al] at c⊢;obtain⟨n,M⟩:=aH b.length;obtain⟨o,N⟩:=aH (rdF (b.drop l) 9);have aJ:iZ b l=io n o:=by unfold iZ;rw[N,M]
 rw[aJ] at u;rw[N] at c;rw[M] at u c hl hk⊢;have g:=ae M;have Ho:=ae N;clear aJ al S M N;have a4:IntKind.u64.wrap (n:Int)=(n:Int):=IntWalk.u64_in _ (by omega);cases o with
 |none=>
  have s:=ae (show h=none from c);have f:=ae u;clear u c;unfold io at f;dsimp only at f
  go_enter func191,ntmps191
  go_wp2_with fail;refine f.out.mono ?_;rintro e w1 ⟨rfl,x⟩;clear f;go_wp2_with fail
  go_ret3
  rw[s.out];exact⟨x,rfl⟩
 |some p=>
  obtain⟨m,r⟩:=p;have Y:=jr Ho.out;have Z:=kS Ho.out;obtain⟨rl,ag⟩:=aH r.length;rw[ag,List.length_drop,g.out] at Y Z;obtain⟨E,az⟩:=aH (n-rl)
  have aR:=ae (show r=b.drop E by
   rw[Z.2,List.drop_drop]
   congr 1
   omega)
  have a2:=Y.2.2;have aP:=ae (show E <= n by omega)
  have an:io n (some (m,r))=.tuple #[.int .u64 (m:Int),.int .i64 (E:Int),.bool true]:=by
   show Value.tuple #[.int .u64 (m:Int),.int .i64 ((n-r.length:Nat):Int),.bool true]=_;rw[ag,az]
  rw[an] at u;have f:=ae u;dsimp only at c;clear u Y Z ag an az
  by_cases C:m <= n
  ·have aU:¬(n:Int)<(m:Int):=by omega
   have a3:¬n<m:=by omega
   have a1:IntKind.i64.wrap (m:Int)=(m:Int):=af _ (by omega);have aM:=ae (show jw m (b.drop E)=h by rw[c,if_pos C,aR.out]);have aZ:=ae C;clear c C
   go_enter func191,ntmps191
   go_wp2_with fail;refine f.out.mono ?_;rintro e w1 ⟨rfl,x⟩;have aN:=ae x;clear f x;go_wp2_with fail
   go_loopw [8,10,11] (fun kv ov i wr=>∃(j:Nat)(L:List bR)(d:Nat),j <= m /\ L.length=j /\ i=.int .i64 (j:Int) /\ kv=.int .i64 (d:Int) /\ d <= n /\ (jw (m-j) (b.drop d)).map (fun p=>(L++p.1,p.2))=h /\ wr.ownsRow w.heap.size 9 1 ov L.length (L.map eS) /\ Below w.heap.size w wr) (fun _ _ i _=>m-(intOf i).toNat)
   case atStart=>exact⟨0,[],E,by omega,rfl,rfl,rfl,aP.out,by rw[Nat.sub_zero,aM.out];cases h<;>rfl,World.ownsRow_nil _ _ _ _,aN.out⟩
   case round=>
    obtain⟨j,L,d,hj,T,rfl,rfl,aa,ax,v,X⟩:=hrel;obtain⟨ao,co,rfl⟩:=aK v;have U:=nW wr _ z A b d (HB.out wr X) (by rw[g.out];exact aa);obtain⟨ot,ab⟩:=aH (rdT (b.drop d));have D:jV b d=qK n ot:=by unfold jV;rw[ab,g.out]
    rw[D,g.out] at U;have HT:=ae U;have J:=ae ab;have Q:=ae v;have O:=ae ax;have y:=ae X;have ak:=ae aa;have I:=ae T;rw[T] at Q⊢;clear U ab D v ax X aa T
    by_cases a0:j<m
    ·have aS:(j:Int)<(m:Int):=by omega
     go_wp2_with fail;refine HT.out.mono ?_;rintro e H ⟨rfl,B⟩;clear HT
     obtain⟨m',K⟩:∃m',m-j=m'+1:=⟨m-j-1,by omega⟩
     cases ot with
     |none=>
      have s:=ae (show h=none by
       rw[<- O.out,K];unfold jw;rw[J.out]
       rfl)
      have Hb:=ae (show Below w.heap.size w H from y.out.trans (B.mono y.out.size));clear B K;unfold qK;dsimp only;go_wp2_with fail
      go_ret3
      rw[s.out];exact⟨Hb.out,rfl⟩
     |some p=>
      obtain⟨k,t⟩:=p;have aT:=ak.out;have aG:=vY J.out;rw[List.length_drop,g.out] at aG;obtain⟨G,aF⟩:=aH (n-t.length);have ht:t=b.drop G:=vX J.out (by rw[g.out];exact aT) (by rw[g.out];omega)
      have D:qK n (some (k,t))=.tuple #[.string ⟨k.toArray⟩,.int .i64 (G:Int),.bool true]:=by
       show Value.tuple #[.string ⟨k.toArray⟩,.int .i64 ((n-t.length:Nat):Int),.bool true]=_;rw[aF]
      rw[D]
      have hq:(jw (m-(j+1)) (b.drop G)).map (fun p=>((L++[k])++p.1,p.2))=h:=by
       rw[<- O.out,K,show m-(j+1)=m' by omega]
       conv=>rhs;unfold jw
       rw[J.out];dsimp only;rw[ht,Option.map_map]
       congr 1
       funext p
       simp
      have v:=bm Q.out B;have V:Below w.heap.size w H:=y.out.trans (B.mono y.out.size);have ai:=V.size;obtain⟨i0,t1,t2,t3,t4⟩:=info_parts zt;obtain⟨v5,w9,aV,ad,ay⟩:=cu (P:=aE) H w.heap.size 32 9 underlying32 t1 t2 t3 t4 rfl (by decide) (.slice ao j co) j _ v #[.string ⟨k.toArray⟩] rfl (by simp[Value.oneCell']) (by unfold maxLen;omega) (by omega) ai;obtain⟨a9,c9,rfl⟩:=aK ad;have ar:Below w.heap.size H w9:=((Below.refl w.heap.size H).alloc ai _).trans (Below.grownOwn (bm v (aI _ _)) ay (by simp;omega) (aq _))
      have Hf:=ae (show w9.ownsRow w.heap.size 9 1 (.slice a9 (j+1) c9) (L++[k]).length ((L++[k]).map eS) by
       rw[aA,List.map_append,I.out];exact ad)
      have aL:=ae (V.trans ar);have Hq:=ae hq;have aQ:=ae (show G <= n by omega);clear hq v V ai ad ay ar t1 t2 t3 t4 ht aF B D K aG;go_wp2_with fail;clear aV
      go_roundw
      case rel=>exact⟨j+1,L++[k],G,by omega,by rw[aA,I.out];rfl,by go_num,rfl,aQ.out,Hq.out,Hf.out,aL.out⟩
      case measure=>simp[intOf];omega
    ·have aS:¬(j:Int)<(m:Int):=by omega
     obtain rfl:j=m:=by omega
     have s:=ae (show h=some (L,b.drop d) by
      rw[<- O.out,Nat.sub_self];show some (L++[],_)=_
      rw[List.append_nil])
     go_wp2_with fail
     go_ret3
     rw[s.out];refine⟨y.out,ao,co,?_,by rw[I.out];exact Q.out⟩;have:=ak.out;rw[List.length_drop,g.out,I.out,show n-(n-d)=d by omega];rfl
  ·have aU:(n:Int)<(m:Int):=by omega
   have s:=ae (show h=none by rw[c,if_neg C]);clear c C
   go_enter func191,ntmps191
   go_wp2_with fail;refine f.out.mono ?_;rintro e w1 ⟨rfl,x⟩;clear f;go_wp2_with fail
   go_ret3
   rw[s.out];exact⟨x,rfl⟩
end
section
open Go.Lib
attribute [local go_sem ↓] aV
attribute [local go_sem] opC upC
def encR(m:aU):List UInt8×Int:=if bp m then(dS m,0) else([],5)
def Dj(w:World)(r:List UInt8×Int)(e:Ending)(a:World):Prop:=(∃v,e=.returned (.tuple #[v,.int .i64 r.2]) /\ aO (fun _=>True) a v r.1) /\ Below w.heap.size w a
theorem Ai(w:World):aO F w (.slice none 0 0) []:=⟨none,0,rfl,by simp,by unfold maxLen;omega,fun _=>rfl,.inl rfl⟩
theorem sD(h:bp r=true):mn r:=fO (cq h) (dr h).2.1 (dr h).2.2.1
theorem vZ(t:eJ w)(V:4 <= w.heap.size)(F:aX)(v:Value)(m:aU)(h:dl F w v m)(z:∀x∈m.items,x.key.length <= 1000000)(y:∀x∈m.gone,x.key.length <= 1000000):
 Calls aE 79 #[v] w (Dj w (encR m)):=by
 replace h:=h.mono (G:=fun b=>b<w.heap.size) fun b _ j=>j
 replace h:=j8 h 37
 obtain⟨p,E,q,H,s,I,B,C,D,X,rfl,h,l1,l2,l3,L,M,N,P,g,R,o,n,S,T,U⟩:=h
 try rw[L.out]
 try rw[M.out]
 try rw[N.out]
 clear h;have d:=ae (kQ X (cd t V g.out) (by rw[R.out];omega) _ (.agg #[.slice p B E,.slice q C H,.slice s D I]) m ⟨_,_,_,rfl,o.out⟩ z y);obtain⟨W,k⟩:=aH (bp m);rw[k] at d;have i:=ae k;clear k t z y S T U
 go_enter func79,ntmps79
 go_wp2_with fail;rw[<- P.out];refine d.out.mono ?_;rintro e J ⟨rfl,c⟩;have f:=ae (g.out.trans (c.mono g.out.size));obtain⟨Y,Z,d2⟩:=aS (n.out.keep (c.block _ n.out.lt));have Q:=ae (o.out.keep (w':=J) fun b _ j=>c.block b j);clear d c;cases W with
 |false=>
  have a:=ae (show encR m=([],5) by unfold encR;rw[i.out];rfl);go_wp2_with fail;exact bodyPost_ret (v:=.tuple #[.slice none 0 0,.int .i64 5]) (by simp[results,results79,go_sem]) rfl ⟨⟨_,by rw[a.out],by rw[a.out];exact Ai _ _⟩,f.out⟩
 |true=>
  have a:=ae (show encR m=(dS m,0) by unfold encR;rw[i.out];rfl);have l:=ae (vx J _ (.agg #[.slice p B E,.slice q C H,.slice s D I]) m ⟨_,_,_,rfl,Q.out⟩ (sD i.out));go_wp2_with fail;refine l.out.mono ?_;rintro e w4 ⟨⟨r,rfl,A⟩,u⟩;have K:=ae (f.out.trans (u.mono f.out.size));have O:=ae A;clear u A l;go_wp2_with fail;exact bodyPost_ret (v:=.tuple #[r,.int .i64 0]) (by simp[results,results79,go_sem]) rfl ⟨⟨_,by rw[a.out],by rw[a.out];exact O.out⟩,K.out⟩
end
section
open Go.Lib
theorem we(r:n<256):
 Calls aE 268 #[.int .u8 (n:Int)] w fun e q=>e=.returned (.tuple #[.int .i64 ((dA n).1:Int),.int .i32 ((dA n).2:Int)]) /\ w=q:=by
 have s:(n:Int) <= 255:=by omega
 by_cases a:n<128
 ·have e:dA n=(1,n):=by unfold dA;rw[if_pos a]
  have o:(n:Int)<128:=by omega
  rw[e];clear e
  go_enter func268,ntmps268
  go_wp2_with fail;go_ret2;exact⟨rfl,rfl⟩
 have o:¬(n:Int)<128:=by omega
 by_cases c:192 <= n /\ n<224
 ·have e:dA n=(2,n-192):=by unfold dA;rw[if_neg a,if_pos c]
  have g:192 <= (n:Int):=by omega
  have j:(n:Int)<224:=by omega
  have d:=ae (show((n-192:Nat):Int)=(n:Int)-192 by omega);rw[e,d.out];clear e
  go_enter func268,ntmps268
  go_wp2_with fail;go_ret2;exact⟨rfl,rfl⟩
 by_cases f:224 <= n /\ n<240
 ·have e:dA n=(3,n-224):=by unfold dA;rw[if_neg a,if_neg c,if_pos f]
  have g:192 <= (n:Int):=by omega
  have j:¬(n:Int)<224:=by omega
  have k:224 <= (n:Int):=by omega
  have l:(n:Int)<240:=by omega
  have d:=ae (show((n-224:Nat):Int)=(n:Int)-224 by omega);rw[e,d.out];clear e
  go_enter func268,ntmps268
  go_wp2_with fail;go_ret2;exact⟨rfl,rfl⟩
 by_cases h:240 <= n /\ n<248
 ·have e:dA n=(4,n-240):=by unfold dA;rw[if_neg a,if_neg c,if_neg f,if_pos h]
  have g:192 <= (n:Int):=by omega
  have j:¬(n:Int)<224:=by omega
  have k:224 <= (n:Int):=by omega
  have l:¬(n:Int)<240:=by omega
  have m:240 <= (n:Int):=by omega
  have p:(n:Int)<248:=by omega
  have d:=ae (show((n-240:Nat):Int)=(n:Int)-240 by omega);rw[e,d.out];clear e
  go_enter func268,ntmps268
  go_wp2_with fail;go_ret2;exact⟨rfl,rfl⟩
 ·have e:dA n=(0,0):=by unfold dA;rw[if_neg a,if_neg c,if_neg f,if_neg h]
  rw[e];clear e;have i:(n:Int)<192 \/ 248 <= (n:Int):=by omega
  clear c f h;rcases i with i|i
  ·have g:¬192 <= (n:Int):=by omega
   have k:¬224 <= (n:Int):=by omega
   have m:¬240 <= (n:Int):=by omega
   go_enter func268,ntmps268
   go_wp2_with fail;go_ret2;exact⟨rfl,rfl⟩
  ·have g:192 <= (n:Int):=by omega
   have j:¬(n:Int)<224:=by omega
   have k:224 <= (n:Int):=by omega
   have l:¬(n:Int)<240:=by omega
   have m:240 <= (n:Int):=by omega
   have p:¬(n:Int)<248:=by omega
   go_enter func268,ntmps268
   go_wp2_with fail;go_ret2;exact⟨rfl,rfl⟩
theorem Aj(m:n<2147483648):
 Calls aE 269 #[.int .i32 (n:Int)] w fun e k=>e=.returned (.bool (rCh n)) /\ w=k:=by
 obtain⟨b,a⟩:=aH (rCh n);rw[a];have o:(n:Int) <= 2147483647:=by omega
 have l:0 <= (n:Int):=by omega
 unfold rCh at a
 by_cases d:n <= 1114111
 ·have h:(n:Int) <= 1114111:=by omega
  by_cases f:n<55296
  ·have i:(n:Int)<55296:=by omega
   obtain rfl:b=true:=by rw[<- a];simp[d,f]
   clear a
   go_enter func269,ntmps269
   go_wp2_with fail
   go_ret
   exact⟨rfl,rfl⟩
  ·have i:¬(n:Int)<55296:=by omega
   by_cases g:57343<n
   ·have j:decide ((n:Int)>57343)=true:=by simp;omega
    obtain rfl:b=true:=by rw[<- a];simp[d,g]
    clear a
    go_enter func269,ntmps269
    go_wp2_with fail
    go_ret
    exact⟨rfl,rfl⟩
   ·have j:decide ((n:Int)>57343)=false:=by simp;omega
    obtain rfl:b=false:=by rw[<- a];simp[f,g]
    clear a
    go_enter func269,ntmps269
    go_wp2_with fail
    go_ret
    exact⟨rfl,rfl⟩
 ·have h:¬(n:Int) <= 1114111:=by omega
  obtain rfl:b=false:=by rw[<- a];simp[d]
  clear a
  go_enter func269,ntmps269
  go_wp2_with fail
  go_ret
  exact⟨rfl,rfl⟩
def kj(b:Nat -> Nat)(a:Nat):Nat -> Nat
 |0=>a
 |k+1=>64*kj b a k+(b (k+1)-128)
def ko(n:Nat):Nat:=[0,0,128,2048,65536].getD n 0
def lz(b:Nat -> Nat)(n:Nat):Prop:=∀j,1 <= j -> j<n -> dR (b j)=true
theorem uu(b:Nat -> Nat)(a:Nat):∀k,lz b (k+1) -> kj b a k<(a+1)*64 ^ k
 |0,_=>by simp[kj]
 |k+1,h=>by
  have f:=uu b a k fun j d g=>h j d (by omega)
  have c:=h (k+1) (by omega) (by omega);unfold dR at c;simp only[decide_eq_true_eq] at c;have e:(a+1)*64 ^ (k+1)=64*((a+1)*64 ^ k):=by rw[Nat.pow_succ];ac_rfl
  rw[e];show 64*kj b a k+(b (k+1)-128)<_;omega
theorem ng(a:n<256):((dA n).1=0 /\ (dA n).2=0) \/ ((dA n).1=1 /\ (dA n).2=n /\ n<128) \/ ((dA n).1=2 /\ (dA n).2 <= 31) \/ ((dA n).1=3 /\ (dA n).2 <= 15) \/ ((dA n).1=4 /\ (dA n).2 <= 7):=by
 unfold dA
 repeat' split
 all_goals (dsimp only;omega)
theorem Dk(b:Nat -> Nat)(c:b 0<256)(k:Nat)(h:lz b (k+1))(f:k+1<(dA (b 0)).1):kj b (dA (b 0)).2 k <= 32767:=by
 have a:=uu b (dA (b 0)).2 k h;have e:=ng (b 0) c;have d:k=0 \/ k=1 \/ k=2:=by omega
 rcases d with rfl|rfl|rfl
 ·simp at a;omega
 ·simp at a;omega
 ·simp at a;omega
theorem Dl(b:Nat -> Nat)(f:b 0<256)(h:lz b (dA (b 0)).1)(d:(dA (b 0)).1≠0):kj b (dA (b 0)).2 ((dA (b 0)).1-1) <= 2097151:=by
 have c:=uu b (dA (b 0)).2 ((dA (b 0)).1-1) (by rw[Nat.sub_add_cancel (by omega)];exact h);have g:=ng (b 0) f;rcases g with⟨e,_⟩|⟨e,i,a⟩|⟨e,a⟩|⟨e,a⟩|⟨e,a⟩
 ·exact absurd e d
 all_goals (rw[e] at c⊢;simp at c⊢;omega)
theorem nh(b:Nat -> Nat)(k:1 <= n):
 jl n (b 0) (b 1) (b 2) (b 3)=if(dA (b 0)).1=0 \/ n<(dA (b 0)).1 then(0,0) else
  if decide ((dA (b 0)).1<2 \/ dR (b 1)=true)&&decide ((dA (b 0)).1<3 \/ dR (b 2)=true)&&decide ((dA (b 0)).1<4 \/ dR (b 3)=true) then
   (if ko (dA (b 0)).1 <= kj b (dA (b 0)).2 ((dA (b 0)).1-1) /\ rCh (kj b (dA (b 0)).2 ((dA (b 0)).1-1))=true then(kj b (dA (b 0)).2 ((dA (b 0)).1-1),(dA (b 0)).1) else(0,0)) else(0,0):=by
 unfold dA jl
 by_cases e:b 0<128
 ·have j:rCh (b 0)=true:=by unfold rCh;simp;omega
  simp only[if_pos e];simp[ko,kj,j];omega
 simp only[if_neg e]
 by_cases f:192 <= b 0 /\ b 0<224
 ·simp only[if_pos f]
  by_cases a:2 <= n
  ·by_cases c:dR (b 1)=true
   ·simp[ko,kj,a,c,Nat.not_lt.2 a]
   ·simp[c]
  ·simp[a,Nat.not_le.1 a]
 simp only[if_neg f]
 by_cases g:224 <= b 0 /\ b 0<240
 ·simp only[if_pos g]
  by_cases a:3 <= n
  ·by_cases c:dR (b 1)=true
   ·by_cases d:dR (b 2)=true
    ·simp[ko,kj,a,c,d,Nat.not_lt.2 a]
    ·simp[d]
   ·simp[c]
  ·simp[a,Nat.not_le.1 a]
 simp only[if_neg g]
 by_cases h:240 <= b 0 /\ b 0<248
 ·simp only[if_pos h]
  by_cases a:4 <= n
  ·by_cases c:dR (b 1)=true
   ·by_cases d:dR (b 2)=true
    ·by_cases i:dR (b 3)=true
     ·simp[ko,kj,a,c,d,i,Nat.not_lt.2 a]
     ·simp[i]
    ·simp[d]
   ·simp[c]
  ·simp[a,Nat.not_le.1 a]
 ·simp[if_neg h]
theorem pU(b:Nat -> Nat)(L:Nat)(f:L <= 4):(decide (L<2 \/ dR (b 1)=true)&&decide (L<3 \/ dR (b 2)=true)&&decide (L<4 \/ dR (b 3)=true))=true↔lz b L:=by
 simp only[Bool.and_eq_true,decide_eq_true_eq];constructor
 ·rintro⟨⟨c,d⟩,e⟩ j g i;have:j=1 \/ j=2 \/ j=3:=by omega
  rcases this with rfl|rfl|rfl
  ·exact c.resolve_left (by omega)
  ·exact d.resolve_left (by omega)
  ·exact e.resolve_left (by omega)
 ·intro h;refine⟨⟨?_,?_⟩,?_⟩
  ·rcases Nat.lt_or_ge L 2 with a|a
   ·exact .inl a
   ·exact .inr (h 1 (by omega) (by omega))
  ·rcases Nat.lt_or_ge L 3 with a|a
   ·exact .inl a
   ·exact .inr (h 2 (by omega) (by omega))
  ·rcases Nat.lt_or_ge L 4 with a|a
   ·exact .inl a
   ·exact .inr (h 3 (by omega) (by omega))
theorem zw:(dA n).1 <= 4:=by
 unfold dA
 repeat' split
 all_goals simp
theorem re(b:Nat -> Nat)(a:1 <= n)(h:(dA (b 0)).1=0 \/ n<(dA (b 0)).1):jl n (b 0) (b 1) (b 2) (b 3)=(0,0):=by
 rw[nh n b a,if_pos h]
theorem nZ(b:Nat -> Nat)(c:1 <= n)(h:¬lz b (dA (b 0)).1):jl n (b 0) (b 1) (b 2) (b 3)=(0,0):=by
 rw[nh n b c];split
 ·rfl
 ·rw[if_neg (fun a=>h ((pU b _ (zw _)).1 a))]
theorem Ak(b:Nat -> Nat)(a:1 <= n)(h:lz b (dA (b 0)).1)(c:(dA (b 0)).1≠0)(d:(dA (b 0)).1 <= n):
 jl n (b 0) (b 1) (b 2) (b 3)=if ko (dA (b 0)).1 <= kj b (dA (b 0)).2 ((dA (b 0)).1-1) /\ rCh (kj b (dA (b 0)).2 ((dA (b 0)).1-1))=true then(kj b (dA (b 0)).2 ((dA (b 0)).1-1),(dA (b 0)).1) else(0,0):=by
 rw[nh n b a,if_neg (by omega),if_pos ((pU b _ (zw _)).2 h)]
def bAt(l:List UInt8)(a:Nat):Nat -> Nat:=fun j=>(l.getD (a+j) 0).toNat
theorem D4(a j:Nat):bAt b a j<256:=UInt8.toNat_lt _
theorem BL(a:Nat)(h:a<b.length):jm (b.drop a)=jl (b.length-a) (bAt b a 0) (bAt b a 1) (bAt b a 2) (bAt b a 3):=by
 unfold jm bAt
 have e:∀j,(b.drop a).getD j 0=b.getD (a+j) 0:=fun j=>by
  rw[List.getD_eq_getElem?_getD,List.getD_eq_getElem?_getD,List.getElem?_drop]
 rw[e,e,e,e,List.length_drop]
theorem BM(i:Nat)(h:i<(⟨b.toArray⟩:ByteArray).size):((⟨b.toArray⟩:ByteArray)[i]'h).toNat=(b.getD i 0).toNat:=by
 have a:i<b.length:=h;rw[List.getD_eq_getElem?_getD,List.getElem?_eq_getElem a];rfl
def yj(w:World)(r:Nat×Nat)(e:Ending)(a:World):Prop:=e=.returned (.tuple #[.int .i32 (r.1:Int),.int .i64 (r.2:Int)]) /\ Below w.heap.size w a
theorem Al(l:List UInt8)(d:Nat)(hp:d<l.length)(hl:l.length <= 4611686018427387903):
 Calls aE 267 #[.string ⟨l.toArray⟩,.int .i64 (d:Int)] w (yj w (jm (l.drop d))):=by
 obtain⟨R,C⟩:=aH (jm (l.drop d));rw[C];rw[BL l d hp] at C;have t:=D4 l d;obtain⟨b,H⟩:=aH (bAt l d);rw[H] at C t;have z:=ae C;have F:=ae (we w (b 0) (t 0));have o:=ng (b 0) (t 0);obtain⟨L,G⟩:=aH ((dA (b 0)).1);obtain⟨B,K⟩:=aH ((dA (b 0)).2);have I:∀j (h:d+j<(⟨l.toArray⟩:ByteArray).size),((⟨l.toArray⟩:ByteArray)[d+j]'h).toNat=b j:=fun j h=>by rw[BM,<- H];rfl
 have S:∀h:d<(⟨l.toArray⟩:ByteArray).size,((⟨l.toArray⟩:ByteArray)[d]'h).toNat=b 0:=fun h=>I 0 h
 rw[G,K] at F o;have i:=ae G;have P:=ae K;have ab:=ae I;have aa:=ae S;have ay:(d:Int)<(l.length:Int):=by omega
 have az:¬(d:Int) ≥ (l.length:Int):=by omega
 have ax:¬(d:Int)<0:=by omega
 clear C G K H I S
 go_enter func267,ntmps267
 go_wp2_with fail;simp only[aa.out];refine F.out.mono ?_;rintro e p ⟨rfl,rfl⟩;clear F
 by_cases u:L=0
 ·have q:=ae (show R=(0,0) by rw[<- z.out];exact re _ b (by omega) (.inl (by rw[i.out];exact u)));subst u;go_wp2_with fail;go_ret2;exact⟨by rw[q.out];rfl,Below.refl _ _⟩
 have ar:L <= 4:=by omega
 by_cases Q:l.length-d<L
 ·have q:=ae (show R=(0,0) by rw[<- z.out];exact re _ b (by omega) (.inr (by rw[i.out];exact Q)));have g0:((L:Int) == 0)=false:=by simp;exact u
  have g1:decide ((L:Int)>(l.length:Int)-(d:Int))=true:=by simp;omega
  clear Q o;go_wp2_with fail;go_ret2;exact⟨by rw[q.out];rfl,Below.refl _ _⟩
 have g0:((L:Int) == 0)=false:=by simp;exact u
 have g1:decide ((L:Int)>(l.length:Int)-(d:Int))=false:=by simp;omega
 have ao:=ae o;clear o;go_wp2_with fail
 go_loop [7,8] (fun cv O=>∃k:Nat,1 <= k /\ k <= L /\ O=.int .i64 (k:Int) /\ cv=.int .i32 (kj b B (k-1):Int) /\ lz b k) (fun _ O=>L-(intOf O).toNat)
 case atStart=>exact⟨1,by omega,by omega,rfl,rfl,fun j s h2=>by omega⟩
 case round=>
  obtain⟨k,s,hk,rfl,rfl,x⟩:=hrel
  by_cases N:k<L
  ·have an:(k:Int)<(L:Int):=by omega
   have V:=Dk b (t 0) (k-1) (by rw[Nat.sub_add_cancel s];exact x) (by rw[Nat.sub_add_cancel s,i.out];exact N);rw[P.out] at V;have ag:=t k;have T:b k<128 \/ 191<b k \/ (128 <= b k /\ b k <= 191):=by omega
   have ks:((d:Int)+(k:Int)).toNat=d+k:=by omega
   obtain⟨a,v⟩:=aH (kj b B (k-1));rw[v] at V⊢;obtain⟨r,J⟩:=aH (b k);rw[J] at ag T;have A:=ae J;have Z:=ae v;have ad:=ae x;have av:∀h:d+k<(⟨l.toArray⟩:ByteArray).size,((⟨l.toArray⟩:ByteArray)[d+k]'h).toNat=r:=fun h=>by rw[ab.out,A.out]
   clear v J x;rcases T with X|X|X
   ·have Y:(r:Int)<128:=by omega
    have q:=ae (show R=(0,0) by
     rw[<- z.out];refine nZ _ b (by omega) (fun o=>?_);have:=o k s (by rw[i.out];exact N);unfold dR at this;simp only[decide_eq_true_eq] at this;rw[A.out] at this
     omega)
    go_wp2_with fail;go_ret2;exact⟨by rw[q.out];rfl,Below.refl _ _⟩
   ·have Y:¬(r:Int)<128:=by omega
    have x2:decide ((r:Int)>191)=true:=by simp;omega
    have q:=ae (show R=(0,0) by
     rw[<- z.out];refine nZ _ b (by omega) (fun o=>?_);have:=o k s (by rw[i.out];exact N);unfold dR at this;simp only[decide_eq_true_eq] at this;rw[A.out] at this
     omega)
    go_wp2_with fail;go_ret2;exact⟨by rw[q.out];rfl,Below.refl _ _⟩
   ·have Y:¬(r:Int)<128:=by omega
    have x2:decide ((r:Int)>191)=false:=by simp;omega
    go_wp2_with fail;refine⟨⟨k+1,by omega,by omega,by go_num,?_,fun j ai ak=>?_⟩,by simp[intOf];omega⟩
    ·have e:kj b B (k+1-1)=64*a+(r-128):=by
      rw[show k+1-1=(k-1)+1 by omega];show 64*kj b B (k-1)+(b (k-1+1)-128)=_;rw[Z.out,Nat.sub_add_cancel s,A.out]
     rw[e]
     congr 1
     omega
    ·rcases Nat.lt_succ_iff_lt_or_eq.1 ak with h|h
     ·exact ad.out j ai h
     ·subst h;unfold dR;rw[A.out];simp only[decide_eq_true_eq];omega
  ·have an:¬(k:Int)<(L:Int):=by omega
   obtain rfl:k=L:=by omega
   have U:=Dl b (t 0) (by rw[i.out];exact x) (by rw[i.out];exact u);have c:=Ak (l.length-d) b (by omega) (by rw[i.out];exact x) (by rw[i.out];exact u) (by rw[i.out];omega);rw[i.out,P.out] at U c;rw[z.out] at c;obtain⟨a,v⟩:=aH (kj b B (k-1));rw[v] at U c⊢;have g:=ae (Aj (w.alloc (.cells #[.int .i32 0,.int .i32 0,.int .i32 128,.int .i32 2048,.int .i32 65536] 21)) a (by omega));have D:=ae c;clear v x c;have al:k=1 \/ k=2 \/ k=3 \/ k=4:=by omega
   obtain⟨E,M⟩:=aH (rCh a);rw[M] at g;have n:=ae M;clear M;rcases al with rfl|rfl|rfl|rfl
   ·
    have c:=D.out;simp only[ko] at c;have m:0 <= a:=Nat.zero_le _;have y:¬(a:Int)<0:=by omega
    cases E with
    |true=>
     have f:=ae (show R=_ from c.trans (if_pos ⟨m,n.out⟩));clear c;go_wp2_with fail;refine g.out.mono ?_;rintro e p ⟨rfl,rfl⟩;go_wp2_with fail;go_ret2;exact⟨by rw[f.out];rfl,aI _ _⟩
    |false=>
     have f:=ae (show R=_ from c.trans (if_neg (fun h=>by rw[n.out] at h;exact absurd h.2 (by decide))));clear c;go_wp2_with fail;refine g.out.mono ?_;rintro e p ⟨rfl,rfl⟩;go_wp2_with fail;go_ret2;exact⟨by rw[f.out];rfl,aI _ _⟩
   ·
    have c:=D.out;simp only[ko] at c
    by_cases m:128 <= a
    ·have y:¬(a:Int)<128:=by omega
     cases E with
     |true=>
      have f:=ae (show R=_ from c.trans (if_pos ⟨m,n.out⟩));clear c;go_wp2_with fail;refine g.out.mono ?_;rintro e p ⟨rfl,rfl⟩;go_wp2_with fail;go_ret2;exact⟨by rw[f.out];rfl,aI _ _⟩
     |false=>
      have f:=ae (show R=_ from c.trans (if_neg (fun h=>by rw[n.out] at h;exact absurd h.2 (by decide))));clear c;go_wp2_with fail;refine g.out.mono ?_;rintro e p ⟨rfl,rfl⟩;go_wp2_with fail;go_ret2;exact⟨by rw[f.out];rfl,aI _ _⟩
    ·have y:(a:Int)<128:=by omega
     have W:0<128:=by omega
     have f:=ae (show R=_ from c.trans (if_neg (fun h=>m h.1)));clear c g;go_wp2_with fail;go_ret2;exact⟨by rw[f.out];rfl,aI _ _⟩
   ·
    have c:=D.out;simp only[ko] at c
    by_cases m:2048 <= a
    ·have y:¬(a:Int)<2048:=by omega
     cases E with
     |true=>
      have f:=ae (show R=_ from c.trans (if_pos ⟨m,n.out⟩));clear c;go_wp2_with fail;refine g.out.mono ?_;rintro e p ⟨rfl,rfl⟩;go_wp2_with fail;go_ret2;exact⟨by rw[f.out];rfl,aI _ _⟩
     |false=>
      have f:=ae (show R=_ from c.trans (if_neg (fun h=>by rw[n.out] at h;exact absurd h.2 (by decide))));clear c;go_wp2_with fail;refine g.out.mono ?_;rintro e p ⟨rfl,rfl⟩;go_wp2_with fail;go_ret2;exact⟨by rw[f.out];rfl,aI _ _⟩
    ·have y:(a:Int)<2048:=by omega
     have W:0<2048:=by omega
     have f:=ae (show R=_ from c.trans (if_neg (fun h=>m h.1)));clear c g;go_wp2_with fail;go_ret2;exact⟨by rw[f.out];rfl,aI _ _⟩
   ·
    have c:=D.out;simp only[ko] at c
    by_cases m:65536 <= a
    ·have y:¬(a:Int)<65536:=by omega
     cases E with
     |true=>
      have f:=ae (show R=_ from c.trans (if_pos ⟨m,n.out⟩));clear c;go_wp2_with fail;refine g.out.mono ?_;rintro e p ⟨rfl,rfl⟩;go_wp2_with fail;go_ret2;exact⟨by rw[f.out];rfl,aI _ _⟩
     |false=>
      have f:=ae (show R=_ from c.trans (if_neg (fun h=>by rw[n.out] at h;exact absurd h.2 (by decide))));clear c;go_wp2_with fail;refine g.out.mono ?_;rintro e p ⟨rfl,rfl⟩;go_wp2_with fail;go_ret2;exact⟨by rw[f.out];rfl,aI _ _⟩
    ·have y:(a:Int)<65536:=by omega
     have W:0<65536:=by omega
     have f:=ae (show R=_ from c.trans (if_neg (fun h=>m h.1)));clear c g;go_wp2_with fail;go_ret2;exact⟨by rw[f.out];rfl,aI _ _⟩
end
end Go.Proofs.YtobjdpngnfbicaaGreatDoor
