/-
  RRd RDecP UList UReadL UListC VList REncP Ref01
-/
import Derived.Test.YtobjdpngnfbicaaGreatDoorZP05
open Go.IntWalk renaming i64_in->af
open Nat renaming le_refl->aq,le_trans->au,lt_of_lt_of_le->aw
open List renaming length_append->aA,append_assoc->aB,getElem_mem->aC,length_cons->aD
open Go.Proofs.Tryz renaming prog->aE
set_option maxHeartbeats 16000000
set_option maxRecDepth 100000
set_option linter.all false
namespace Go.Proofs.YtobjdpngnfbicaaGreatDoor
open Go.RowKit
open Go.Proofs.Tryz
variable(w:World)(F:aQ)(n:Nat)(v:Value)(b:List UInt8){W:World}{G:aQ}{u:Value}{i j o:Nat}{L:List Value}{r:aT}{t:TypeId}
section
open Go.Lib
attribute [local go_sem] opC upC told bE bm bF bp bq bG bH
def RdT(T:TypeId)(W:World)(R:Nat)(c:Option Addr)(d:Nat)(b:List UInt8)(e:dO):Prop:=
 ∃(k:Nat)(a:Bool),Blk W R [.slice c b.length d,.int .i64 (k:Int),.bool a] T /\ k <= b.length /\ e=if a then none else some (b.drop k)
abbrev vF:=RdT 207
abbrev xR:=RdT 238
theorem RdT.keep{T:TypeId}{W a:World}{R:Nat}{c:Option Addr}{d:Nat}{b:List UInt8}{e:dO}(h:RdT T W R c d b e)(l:a.heap[R]?=W.heap[R]?):RdT T a R c d b e:=by
 obtain⟨k,f,g,i,j⟩:=h;exact⟨k,f,g.keep l,i,j⟩
theorem RdT.lt{T:TypeId}{W:World}{R:Nat}{a:Option Addr}{c:Nat}{b:List UInt8}{e:dO}(h:RdT T W R a c b e):R<W.heap.size:=by
 obtain⟨k,f,d,-⟩:=h;exact d.lt
def RdC(w:World)(d:FuncId)(a:Option Addr)(c b k:Nat)(v:Value):Prop:=
 ∀W,Kpt w W -> Calls aE d #[.slice a b c,.int .i64 (k:Int)] W λe f=>e=.returned v /\ Kpt W f
theorem ul(I:(i,j,o)=(207,157,99) \/ (i,j,o)=(238,189,133))(w:World)(R:Nat)(m:Option Addr)(r:Nat)(b:List UInt8)(k n g:Nat)(c d:Bool)(x:Blk w R [.slice m b.length r,.int .i64 (k:Int),.bool c] i)(O:b.length <= 9223372036854775807)(J:k <= b.length)(P:n<18446744073709551616)(z:g <= b.length)
 (v:RdC w o m r b.length k (.tuple #[.int .u64 (n:Int),.int .i64 (g:Int),.bool d])):
 Calls aE j #[.pointer (some ⟨R,0,none⟩)] w λe a=>
  e=.returned (.int .i64 (if c=false /\ d=true /\ n <= 1099511627776 then(n:Int) else 0)) /\ RdT i a R m r b (if c=false /\ d=true /\ n <= 1099511627776 then some (b.drop g) else none) /\ aM (λq=>q=R) w a:=by
 unfold RdC at v;obtain⟨p,A⟩:=aH (c=false /\ d=true /\ n <= 1099511627776);have H:c=true /\ ¬p \/ c=false /\ d=false /\ ¬p \/ c=false /\ d=true /\ n <= 1099511627776 /\ p \/ c=false /\ d=true /\ ¬n <= 1099511627776 /\ ¬p:=by subst A;cases c<;>cases d<;>simp<;>omega
 rcases I with h|h<;>cases h
 all_goals
  rcases H with⟨rfl,h⟩|⟨rfl,rfl,h⟩|⟨rfl,rfl,K,h⟩|⟨rfl,rfl,K,h⟩
  all_goals
   rw[<- A] at h
   first|rw[if_pos h,if_pos h]|rw[if_neg h,if_neg h]
   first|have F:¬(1099511627776:Int)<(n:Int):=by omega|have F:(1099511627776:Int)<(n:Int):=by omega|skip
   obtain⟨t,u,D⟩:=aS x;have Q:∀a,aK w.drew a -> a.cell? _=_:=λa hh=>bh t hh
   have S:∀a,aK w.drew a -> a.cell? _=_:=λa hh=>bh u hh
   have s:=x
   first|go_enter func157,ntmps157|go_enter func189,ntmps189
   go_wp2_with fail;refine bP aK (up 8 [508,9,10,11,12,13,14,15]) (by kernel_rfl) ?_;apply aG;rfl;intro a E;go_simp;exact aF;refine aY rfl rfl (λL G=>?_);go_simp;refine(v _ (Below.refl w.heap.size w).drew).mono ?_;rintro e C ⟨rfl,y⟩;refine⟨_,rfl,y,G _ _ ?_⟩;have B:Kpt w C:=(Below.refl w.heap.size w).drew.trans y;have f:=s.keep (B.block _ s.lt);have l:aM (λq=>q=R) w C:=aM.of_below B;obtain⟨t,u,D⟩:=aS f;have M:=f.free 1;have N:=f.free 2;go_simp;apply aG;rfl;intro a E;go_simp;exact aF;refine aW ?_;go_wp2
   go_ret
   first
   |exact⟨rfl,⟨k,true,f.set 2 _,J,rfl⟩,l.setCell (.inl rfl) _⟩
   |exact⟨rfl,⟨g,false,f.set 1 _,z,rfl⟩,l.setCell (.inl rfl) _⟩
   |(refine⟨rfl,⟨g,false,?_,z,rfl⟩,(l.setCell (.inl rfl) _).setCell (.inl rfl) _⟩;rw[show decide ((1099511627776:Int)<(n:Int))=false from decide_eq_false (by omega)];exact(f.set 2 _).set 1 _)
theorem rY(H:(i,j,o)=(207,158,200) \/ (i,j,o)=(238,190,216))(w:World)(R:Nat)(m:Option Addr)(n:Nat)(b:List UInt8)(k:Nat)(t:bQ)(g:Nat)(c d:Bool)(x:Blk w R [.slice m b.length n,.int .i64 (k:Int),.bool c] i)(M:b.length <= 9223372036854775807)(I:k <= b.length)(z:g <= b.length)
 (v:RdC w o m n b.length k (.tuple #[.string ⟨t.toArray⟩,.int .i64 (g:Int),.bool d])):
 Calls aE j #[.pointer (some ⟨R,0,none⟩)] w λe a=>
  e=.returned (.string ⟨(if c=false /\ d=true then t else[]).toArray⟩) /\ RdT i a R m n b (if c=false /\ d=true then some (b.drop g) else none) /\ aM (λq=>q=R) w a:=by
 unfold RdC at v;obtain⟨p,A⟩:=aH (c=false /\ d=true);have G:c=true /\ ¬p \/ c=false /\ d=false /\ ¬p \/ c=false /\ d=true /\ p:=by subst A;cases c<;>cases d<;>simp
 rcases H with h|h<;>cases h
 all_goals
  rcases G with⟨rfl,h⟩|⟨rfl,rfl,h⟩|⟨rfl,rfl,h⟩
  all_goals
   rw[<- A] at h
   first|rw[if_pos h,if_pos h]|rw[if_neg h,if_neg h]
   obtain⟨s,u,D⟩:=aS x;have N:∀a,aK w.drew a -> a.cell? _=_:=λa hh=>bh s hh
   have O:∀a,aK w.drew a -> a.cell? _=_:=λa hh=>bh u hh
   have r:=x
   first|go_enter func158,ntmps158|go_enter func190,ntmps190
   go_wp2_with fail;refine bP aK (up 8 [508,9,10,11,12,13,14,15]) (by kernel_rfl) ?_;apply aG;rfl;intro a E;go_simp;exact aF;refine aY rfl rfl (λJ F=>?_);go_simp;refine(v _ (Below.refl w.heap.size w).drew).mono ?_;rintro e C ⟨rfl,y⟩;refine⟨_,rfl,y,F _ _ ?_⟩;have B:Kpt w C:=(Below.refl w.heap.size w).drew.trans y;have f:=r.keep (B.block _ r.lt);have l:aM (λq=>q=R) w C:=aM.of_below B;obtain⟨s,u,D⟩:=aS f;have K:=f.free 1;have L:=f.free 2;go_simp;apply aG;rfl;intro a E;go_simp;exact aF;refine aW ?_;go_wp2
   go_ret
   first
   |exact⟨rfl,⟨k,true,f.set 2 _,I,rfl⟩,l.setCell (.inl rfl) _⟩
   |exact⟨rfl,⟨g,false,f.set 1 _,z,rfl⟩,l.setCell (.inl rfl) _⟩
   |exact⟨rfl,⟨g,false,(f.set 2 _).set 1 _,z,rfl⟩,(l.setCell (.inl rfl) _).setCell (.inl rfl) _⟩
theorem EF{b r:List UInt8}{t:bQ}(h:rdT b=some (t,r)):r.length <= b.length /\ r=b.drop (b.length-r.length):=by
 unfold rdT at h;split at h
 ·rename_i n q d;have a:=(gy.1 d).2;split at h
  ·rename_i e;simp at h;obtain⟨rfl,rfl⟩:=h;have c:=congrArg List.length a;simp at c;refine⟨by simp;omega,?_⟩;rw[a];simp;rw[show(bY n).length+q.length-(q.length-n)=(bY n).length+n by omega,List.drop_append];simp
  ·simp at h
 ·simp at h
theorem k8{b r:List UInt8}(h:rdF b 9=some (i,r)):r.length <= b.length /\ r=b.drop (b.length-r.length):=by
 have a:=(gy.1 h).2;have c:=congrArg List.length a;simp at c;refine⟨by omega,?_⟩;rw[a];simp
theorem um{b r:List UInt8}(d:i <= b.length)(c:r.length <= (b.drop i).length)(a:r=(b.drop i).drop ((b.drop i).length-r.length)):b.drop (b.length-r.length)=r:=by
 rw[List.length_drop] at c a
 conv=>rhs;rw[a]
 rw[List.drop_drop]
 congr 1
 omega
theorem un(v:(i,j,o)=(207,157,99) \/ (i,j,o)=(238,189,133))(w:World)(R:Nat)(F:aQ)(c:Option Addr)(d:Nat)(b:List UInt8)(m:dO)(y:RdT i w R c d b m)(x:aO F w (.slice c b.length d) b)(a:∀k,k <= b.length -> RdC w o c d b.length k (ji b k)):
 Calls aE j #[.pointer (some ⟨R,0,none⟩)] w λe w'=>e=.returned (.int .i64 (cC m).1) /\ RdT i w' R c d b (cC m).2 /\ aM (λq=>q=R) w w':=by
 obtain⟨k,g,t,h,rfl⟩:=y;have u:b.length <= 9223372036854775807:=by obtain⟨-,s,l,-⟩:=x.cells;unfold maxLen at l;omega
 replace a:=a k h
 unfold ji at a;cases f:rdF (b.drop k) 9 with
 |none=>
  rw[f] at a;have:=ul v w R c d b k 0 0 g false t u h (by omega) (by omega) a;rw[if_neg (by simp),if_neg (by simp)] at this;cases g<;>simpa[cC,f] using this
 |some p=>
  obtain⟨n,r⟩:=p;rw[f] at a;obtain⟨s,l⟩:=k8 f;have:=ul v w R c d b k n (b.length-r.length) g true t u h (jD f).2.2 (by omega) a;rw[um h s l] at this;cases g<;>by_cases z:n <= 1099511627776<;>simpa[cC,f,z] using this
theorem rZ(v:(i,j,o)=(207,158,200) \/ (i,j,o)=(238,190,216))(w:World)(R:Nat)(F:aQ)(c:Option Addr)(d:Nat)(b:List UInt8)(m:dO)(y:RdT i w R c d b m)(x:aO F w (.slice c b.length d) b)(a:∀k,k <= b.length -> RdC w o c d b.length k (j5 b k)):
 Calls aE j #[.pointer (some ⟨R,0,none⟩)] w λe w'=>e=.returned (.string ⟨(cM m).1.toArray⟩) /\ RdT i w' R c d b (cM m).2 /\ aM (λq=>q=R) w w':=by
 obtain⟨k,g,s,h,rfl⟩:=y;have u:b.length <= 9223372036854775807:=by obtain⟨-,n,l,-⟩:=x.cells;unfold maxLen at l;omega
 replace a:=a k h
 unfold j5 at a;cases f:rdT (b.drop k) with
 |none=>
  rw[f] at a;have:=rY v w R c d b k [] 0 g false s u h (by omega) a;rw[if_neg (by simp),if_neg (by simp)] at this;cases g<;>simpa[cM,f] using this
 |some p=>
  obtain⟨t,r⟩:=p;rw[f] at a;obtain⟨n,l⟩:=EF f;have:=rY v w R c d b k t (b.length-r.length) g true s u h (by omega) a;rw[um h n l] at this;cases g<;>simpa[cM,f] using this
theorem i8(F:aQ)(a:Option Addr)(c:Nat)(b:List UInt8)(d:dO)(j:vF w n a c b d)(g:aO F w (.slice a b.length c) b)(hF:∀q,F q -> q<w.heap.size):
 Calls aE 157 #[.pointer (some ⟨n,0,none⟩)] w λe f=>e=.returned (.int .i64 (cC d).1) /\ vF f n a c b (cC d).2 /\ aM (λq=>q=n) w f:=
 un (.inl rfl) w n F a c b d j g λk l W h=>xC W F a c b k (g.keep (w':=W) λq i m=>h.block q m) (λq i=>aw (hF q i) h.size) l
theorem uo(F:aQ)(a:Option Addr)(c:Nat)(b:List UInt8)(d:dO)(j:vF w n a c b d)(g:aO F w (.slice a b.length c) b)(hF:∀q,F q -> q<w.heap.size):
 Calls aE 158 #[.pointer (some ⟨n,0,none⟩)] w λe f=>e=.returned (.string ⟨(cM d).1.toArray⟩) /\ vF f n a c b (cM d).2 /\ aM (λq=>q=n) w f:=
 rZ (.inl rfl) w n F a c b d j g λk l W h=>CS W F a c b k (g.keep (w':=W) λq i m=>h.block q m) (λq i=>aw (hF q i) h.size) l
end
section
open Go.Lib
attribute [local go_sem ↓] aU
attribute [local go_sem] opC upC told bE bm bF bp bq bG bH
theorem jI:∀(n:Nat)(p:List Int×dO),io (n+1) p=((io n p).1++[(cC (io n p).2).1],(cC (io n p).2).2)
 |0,p=>rfl
 |n+1,p=>by
  show io (n+1) (p.1++[(cC p.2).1],(cC p.2).2)=_;rw[jI n];rfl
structure DSt(w:World)(M:Nat)(av:Option Addr)(cap:Nat)(b:List UInt8)(W:World)(l:List Value)(its:List RIt)(gs:List RGo)(ai:Option Addr)(ci:Nat)(ag:Option Addr)(cg:Nat)(st:dO):Prop where
 bel:Below w.heap.size w W
 res:Blk W w.heap.size [.slice none 0 0,.slice none 0 0,.slice none 0 0] 37
 rd:vF W (w.heap.size+1) av cap b st
 seen:Blk W (w.heap.size+1+1+1) l 3
 map:Blk W M [.slice (some ⟨w.heap.size+1+1+1,0,none⟩) 8 8,.slice ai its.length ci,.slice ag gs.length cg] 37
 hM:w.heap.size+1+1+1<M
 items:W.ownsRow (M+1) 108 4 (.slice ai its.length ci) its.length (its.flatMap bT)
 gone:W.ownsRow (M+1) 111 3 (.slice ag gs.length cg) gs.length (gs.flatMap du)
section
variable {w:World} {M:Nat} {av:Option Addr} {cap:Nat} {b:List UInt8} {W W':World} {l:List Value} {its:List RIt} {gs:List RGo} {ai:Option Addr} {ci:Nat} {ag:Option Addr} {cg:Nat} {st:dO}
theorem aM.cellB{w c:World}(h:aM G w c){a:Addr}(b:w.cell? a=some u)(d:¬G a.block):c.cell? a=some u:=by
 have e:=h.block a.block (eK b) d;unfold World.cell? at *;rw[e];exact b
theorem vF.blk(h:vF W i av cap b st):∃L,Blk W i L 207:=by
 obtain⟨k,c,a,-⟩:=h;exact⟨_,a⟩
theorem jJ(h:W.ownsRow i t j u o L)(f:aM G W W')(hF:∀q,i <= q -> ¬G q):W'.ownsRow i t j u o L:=by
 refine⟨h.1,?_⟩;rcases h.2 with d|⟨g,cap,c,m,a,b,l⟩
 ·exact .inl d
 ·exact .inr ⟨g,cap,c,m,a,(f.block g (lt_of_block b) (hF g a)).trans b,l⟩
theorem DSt.read(h:DSt w M av cap b W l its gs ai ci ag cg st)(a:aM (λq=>q=w.heap.size+1) W W'){d:dO}(f:vF W' (w.heap.size+1) av cap b d):DSt w M av cap b W' l its gs ai ci ag cg d:=by
 have e:=h.hM;refine⟨h.bel.trans (a.below (λq c=>by have g:q=w.heap.size+1:=c;omega) h.bel.size),h.res.keep (a.block _ h.res.lt (by show ¬w.heap.size=w.heap.size+1;omega)),f,h.seen.keep (a.block _ h.seen.lt (by show ¬w.heap.size+1+1+1=w.heap.size+1;omega)),h.map.keep (a.block _ h.map.lt (by show ¬M=w.heap.size+1;omega)),e,jJ h.items a (λq c=>by show ¬q=w.heap.size+1;omega),jJ h.gone a (λq c=>by show ¬q=w.heap.size+1;omega)⟩
theorem DSt.kept(h:DSt w M av cap b W l its gs ai ci ag cg st)(a:Below W.heap.size W W'):DSt w M av cap b W' l its gs ai ci ag cg st:=by
 have c:w.heap.size+1<W.heap.size:=h.rd.lt;exact⟨h.bel.trans (a.mono h.bel.size),h.res.keep (a.block _ h.res.lt),h.rd.keep (a.block _ c),h.seen.keep (a.block _ h.seen.lt),h.map.keep (a.block _ h.map.lt),h.hM,br h.items a,br h.gone a⟩
theorem DSt.put(h:DSt w M av cap b W l its gs ai ci ag cg st)(k:Nat)(x:Value):DSt w M av cap b (W.setCell ⟨w.heap.size+1+1+1,k,none⟩ x) (l.set k x) its gs ai ci ag cg st:=by
 have a:=h.hM;obtain⟨L,c⟩:=h.rd.blk;refine⟨h.bel.setCell (p:=⟨w.heap.size+1+1+1,k,none⟩) (by show w.heap.size <= w.heap.size+1+1+1;omega) _,h.res.set_other _ (by show w.heap.size≠w.heap.size+1+1+1;omega),h.rd.keep (Below.heap_setCell _ _ _ _ (by show w.heap.size+1≠w.heap.size+1+1+1;omega)),h.seen.set k x,h.map.set_other _ (by show M≠w.heap.size+1+1+1;omega),a,aL h.items h.seen (by decide) _,aL h.gone h.seen (by decide) _⟩
theorem jK{w:World}{k n:Nat}(h:w.ownsRow i t k u n L)(b:∀q,u.ownBlock=some q -> q≠j)(a:Value):(w.setCell ⟨j,o,none⟩ a).ownsRow i t k u n L:=by
 refine h.kept (row:=some j) ⟨rfl,rfl,rfl,by simp[World.setCell],λq l f=>Below.heap_setCell w ⟨j,o,none⟩ a q (λt=>f (by rw[t]))⟩ ?_;cases d:u.ownBlock with
 |none=>exact .inl rfl
 |some g=>exact .inr λc=>b g d (by simpa using c)
theorem DSt.far(h:DSt w M av cap b W l its gs ai ci ag cg st)(f:M<i)(c:∀q,(Value.slice ai its.length ci).ownBlock=some q -> q≠i)(d:∀q,(Value.slice ag gs.length cg).ownBlock=some q -> q≠i)(a:Nat)(u:Value):DSt w M av cap b (W.setCell ⟨i,a,none⟩ u) l its gs ai ci ag cg st:=by
 have e:=h.hM;exact⟨h.bel.setCell (p:=⟨i,a,none⟩) (by show w.heap.size <= i;omega) _,h.res.set_other _ (by show w.heap.size≠i;omega),h.rd.keep (Below.heap_setCell _ _ _ _ (by show w.heap.size+1≠i;omega)),h.seen.set_other _ (by show w.heap.size+1+1+1≠i;omega),h.map.set_other _ (by show M≠i;omega),e,jK h.items c u,jK h.gone d u⟩
theorem DSt.item(h:DSt w M av cap b W l its gs ai ci ag cg st){x:RIt}{d:Option Addr}(c:W.grownBy W' (Value.slice ai its.length ci).ownBlock)
 (q:W'.ownsRow (M+1) 108 4 (.slice d (its.length+1) i) (its.length+1) (its.flatMap bT++bT x)):DSt w M av cap b (W'.setCell ⟨M,1,none⟩ (.slice d (its.length+1) i)) l (its++[x]) gs d i ag cg st:=by
 have m:=h.hM;obtain⟨k,g,r,o,t⟩:=h.rd;have e:=h.map.grownNe h.items (by decide) c;have n:Below w.heap.size w W':=h.bel.trans (Below.grownOwn h.items c h.bel.size (by omega));have f:(its++[x]).length=its.length+1:=by simp
 have j:(its++[x]).flatMap bT=its.flatMap bT++bT x:=by simp
 have s:=(r.grownNe h.items (by decide) c).set_other (.slice d (its.length+1) i) (a:=⟨M,1,none⟩) (by show w.heap.size+1≠M;omega);refine⟨n.setCell (p:=⟨M,1,none⟩) (by show w.heap.size <= M;omega) _,(h.res.grownNe h.items (by decide) c).set_other _ (by show w.heap.size≠M;omega),⟨k,g,s,o,t⟩,(h.seen.grownNe h.items (by decide) c).set_other _ (by show w.heap.size+1+1+1≠M;omega),?_,m,?_,aL (bZ h.gone h.items (by decide) c) e (by decide) _⟩
 ·rw[f];exact e.set 1 _
 ·rw[f,j];exact aL q e (by decide) _
theorem DSt.gon(h:DSt w M av cap b W l its gs ai ci ag cg st){x:RGo}{d:Option Addr}(c:W.grownBy W' (Value.slice ag gs.length cg).ownBlock)
 (q:W'.ownsRow (M+1) 111 3 (.slice d (gs.length+1) i) (gs.length+1) (gs.flatMap du++du x)):DSt w M av cap b (W'.setCell ⟨M,2,none⟩ (.slice d (gs.length+1) i)) l its (gs++[x]) ai ci d i st:=by
 have m:=h.hM;obtain⟨k,g,r,o,t⟩:=h.rd;have e:=h.map.grownNe h.gone (by decide) c;have n:Below w.heap.size w W':=h.bel.trans (Below.grownOwn h.gone c h.bel.size (by omega));have f:(gs++[x]).length=gs.length+1:=by simp
 have j:(gs++[x]).flatMap du=gs.flatMap du++du x:=by simp
 have s:=(r.grownNe h.gone (by decide) c).set_other (.slice d (gs.length+1) i) (a:=⟨M,2,none⟩) (by show w.heap.size+1≠M;omega);refine⟨n.setCell (p:=⟨M,2,none⟩) (by show w.heap.size <= M;omega) _,(h.res.grownNe h.gone (by decide) c).set_other _ (by show w.heap.size≠M;omega),⟨k,g,s,o,t⟩,(h.seen.grownNe h.gone (by decide) c).set_other _ (by show w.heap.size+1+1+1≠M;omega),?_,m,aL (bZ h.items h.gone (by decide) c) e (by decide) _,?_⟩
 ·rw[f];exact e.set 2 _
 ·rw[f,j];exact aL q e (by decide) _
end
theorem se:∀(n:Nat)(p:List Int×dO),szS (io n p).2 <= szS p.2
 |0,p=>aq _
 |n+1,p=>by
  rw[jI];exact au (iR _).1 (se n p)
theorem ItB.mono{x:RIt}(h:ItB i x)(a:i <= j):ItB j x:=⟨au h.1 a,h.2⟩
theorem GoB.mono{x:RGo}(h:GoB i x)(a:i <= j):GoB j x:=⟨au h.1 a,h.2⟩
def AQ(w:World)(e:Ending)(a:World):Prop:=e=.returned (.agg #[.slice (some ⟨w.heap.size+1,0,none⟩) 8 8,.slice none 0 0,.slice none 0 0]) /\ Blk a (w.heap.size+1) (List.replicate 8 (.int .i64 0)) 3 /\ Below w.heap.size w a
section
attribute [local go_sem ↓] pT
theorem uq(w:World):Calls aE 39 #[] w (AQ w):=by
 obtain⟨b,e⟩:=aP (w.alloc (.cells #[.slice none 0 0,.slice none 0 0,.slice none 0 0] 37));have F:Below w.heap.size w b:=by rw[e];exact aI _ _
 have L:b.heap.size=w.heap.size+1:=by rw[e];simp
 have o:Blk b w.heap.size [.slice none 0 0,.slice none 0 0,.slice none 0 0] 37:=by rw[e];exact Blk.new _ _ _
 obtain⟨M,j,k,N,O⟩:=info_parts ua;obtain⟨c,J,i,m⟩:=run_make_full (P:=aE) b w.heap.size 33 3 M _ 1 underlying33 j k N .i64 .i64 8 (by rw[O];omega) (by unfold maxLen;omega) (by omega);have n:(MK 33 (.int .i64 8) (.int .i64 8)).run aE b=.ok (.slice (some ⟨b.heap.size,0,none⟩) 8 8) c:=J;rw[Fd] at i;have a:Blk c w.heap.size _ _:=o.keep (m.block _ o.lt (by simp));have G:Below w.heap.size w c:=F.trans ((Below.refl w.heap.size b).grown m (by omega) (by simp));have Q:=a.cell 0;have R:=a.cell 1;have S:=a.cell 2;have X:=a.free 0;have Y:=a.free 1;have Z:=a.free 2;simp at Q R S;rw[L] at n i
 have D:Blk c (w.heap.size+1) (List.replicate 8 (.int .i64 0)) 3:=by
  rcases i.2 with⟨C,-⟩|⟨g,cap,l,r,T,I,U,W,K,q⟩
  ·simp at C
  ·simp at r;obtain⟨rfl,rfl⟩:=r;unfold Blk;rw[I];have V:l.toList.length=8:=by simpa using K
   rw[List.take_of_length_le (by omega)] at q
   have:l=(List.replicate 8 (Value.int .i64 0)).toArray:=by
    apply Array.toList_inj.1;rw[q];rfl
   rw[this]
 obtain⟨u,f⟩:=aP (((c.setCell ⟨w.heap.size,0,none⟩ (.slice (some ⟨w.heap.size+1,0,none⟩) 8 8)).setCell ⟨w.heap.size,1,none⟩ (.slice none 0 0)).setCell ⟨w.heap.size,2,none⟩ (.slice none 0 0));have A:=a.set 0 (.slice (some ⟨w.heap.size+1,0,none⟩) 8 8);have B:=A.set 1 (.slice none 0 0);have d:=B.set 2 (.slice none 0 0)
 have E:Blk u (w.heap.size+1) (List.replicate 8 (.int .i64 0)) 3:=by
  rw[f];exact((D.set_other _ (by show w.heap.size+1≠w.heap.size;omega)).set_other _ (by show w.heap.size+1≠w.heap.size;omega)).set_other _ (by show w.heap.size+1≠w.heap.size;omega)
 have H:Below w.heap.size w u:=by
  rw[f];exact((G.setCell (p:=⟨w.heap.size,0,none⟩) (aq _) _).setCell (p:=⟨w.heap.size,1,none⟩) (aq _) _).setCell (p:=⟨w.heap.size,2,none⟩) (aq _) _
 rw[<- f] at d;have h:=d.cell 0;have s:=d.cell 1;have t:=d.cell 2;simp at h s t;rw[e] at n;have x:=h;have y:=s;have z:=t
 go_enter func39,ntmps39
 go_wp2;rw[<- f];have h:=x;have j:=y;have k:=z;exact bodyPost_ret (v:=.agg #[.slice (some ⟨w.heap.size+1,0,none⟩) 8 8,.slice none 0 0,.slice none 0 0]) (by simp[results,results39,go_sem,h,j,k]) rfl ⟨rfl,E,H⟩
end
theorem zE(W:World)(av:Option Addr)(cap:Nat)(b:List UInt8):vF (W.alloc (.cells #[.slice av b.length cap,.int .i64 0,.bool false] 207)) W.heap.size av cap b (some b):=
 ⟨0,false,Blk.new W #[.slice av b.length cap,.int .i64 0,.bool false] _,Nat.zero_le _,by simp⟩
theorem DSt.start(w:World)(av:Option Addr)(cap:Nat)(b:List UInt8)(a:World)
 (g:Blk a (w.heap.size+1+1+1) (List.replicate 8 (.int .i64 0)) 3)
 (d:Below (w.heap.size+1+1) ((w.alloc (.cells #[.slice none 0 0,.slice none 0 0,.slice none 0 0] 37)).alloc (.cells #[.slice av b.length cap,.int .i64 0,.bool false] 207)) a):
 DSt w a.heap.size av cap b (a.alloc (.cells #[.slice (some ⟨w.heap.size+1+1+1,0,none⟩) 8 8,.slice none 0 0,.slice none 0 0] 37)) (List.replicate 8 (.int .i64 0)) [] [] none 0 none 0 (some b):=by
 have c:=aI a (.cells #[.slice (some ⟨w.heap.size+1+1+1,0,none⟩) 8 8,.slice none 0 0,.slice none 0 0] 37);have i:=(Blk.new w #[.slice none 0 0,.slice none 0 0,.slice none 0 0] 37).alloc (.cells #[.slice av b.length cap,.int .i64 0,.bool false] 207);have h:=zE (w.alloc (.cells #[.slice none 0 0,.slice none 0 0,.slice none 0 0] 37)) av cap b;simp only[World.size_alloc] at h;have j:=i.keep (d.block _ (by omega));have k:=h.keep (d.block _ (by omega));have f:w.heap.size+1+1+1<a.heap.size:=g.lt;refine⟨?_,j.keep (c.block _ (by omega)),k.keep (c.block _ (by omega)),g.keep (c.block _ f),Blk.new _ _ _,f,World.ownsRow_nil _ _ _ _,World.ownsRow_nil _ _ _ _⟩;have e:Below w.heap.size w a:=(((Below.refl w.heap.size w).alloc (aq _) _).alloc (by simp) _).trans (d.mono (by omega));exact e.trans (c.mono e.size)
def eqs(L:List Int):List Value:=L.map eI++List.replicate (8-L.length) (.int .i64 0)
theorem EG(L:List Int)(x:Int)(h:L.length<8):(eqs L).set L.length (.int .i64 x)=eqs (L++[x]):=by
 unfold eqs;rw[List.set_append_right _ _ (by simp)]
 obtain⟨r,a⟩:∃r,8-L.length=r+1:=⟨7-L.length,by omega⟩
 rw[a,List.length_map,Nat.sub_self,List.replicate_succ,List.set_cons_zero];simp only[List.map_append,List.map_cons,List.map_nil,aB,aA,aD,List.length_nil];rw[show 8-(L.length+(0+1))=r by omega];rfl
theorem EH(L:List Int)(h:L.length <= 8):(eqs L).length=8:=by
 unfold eqs;simp;omega
theorem pX:∀(n:Nat)(p:List Int×dO),(∀x∈p.1,0 <= x /\ x <= 1099511627776) -> ∀x∈(io n p).1,0 <= x /\ x <= 1099511627776
 |0,p,h=>h
 |n+1,p,h=>by
  rw[jI];intro x a;rcases List.mem_append.1 a with a|a
  ·exact pX n p h x a
  ·rw[List.mem_singleton.1 a];exact gC _
def MTy(W:World)(q:Nat):Prop:=∃L t a,W.heap[q]?=some (.cells L t a) /\ (t=3 \/ t=108 \/ t=111)
theorem xS{W:World}{f:List Value}(h:W.ownsRow i t j u o f)(m:t=3 \/ t=108 \/ t=111):Rows (λq=>i <= q /\ MTy W q) W j u o f:=by
 obtain⟨a,cap,rfl,y,z,A,B,C⟩:=Rows.of_owns h;refine⟨a,cap,rfl,y,z,A,B,?_⟩;rcases C with c|⟨b,x,L,D,l,rfl,G,p,s,w⟩
 ·exact .inl c
 ·refine .inr ⟨b,x,L,D,l,rfl,?_,p,s,w⟩;rcases h.2 with⟨c,_⟩|⟨g,E,F,d,r,hh,_⟩
  ·simp at c
  ·simp at d;obtain⟨⟨rfl,-⟩,-⟩:=d;exact⟨r,_,_,_,hh,m⟩
theorem gD(w:World):di F w eJ .empty:=⟨_,_,_,rfl,Rows.nil F w 1,Rows.nil F w 4,Rows.nil F w 3,nofun,nofun,nofun⟩
theorem BF{w a:World}(h:di (λq=>i<q /\ MTy w q) w u r)(c:Below w.heap.size w a):di (λq=>i<q /\ MTy a q) a u r:=
 (h.later c (aq _)).mono λq d _=>⟨d.1,by
  obtain⟨L,t,e,b,f⟩:=d.2
  exact⟨L,t,e,(c.block q (lt_of_block b)).trans b,f⟩⟩
theorem DSt.mapV{w:World}{M:Nat}{av:Option Addr}{cap:Nat}{b:List UInt8}{W:World}{its:List RIt}{gs:List RGo}{ai:Option Addr}{ci:Nat}{ag:Option Addr}{cg:Nat}{st:dO}{L:List Int}(h:DSt w M av cap b W (eqs L) its gs ai ci ag cg st)(d:L.length=8)(g:∀x∈L,0 <= x /\ x <= 1099511627776)(k:∀x∈its,ItB j x)(l:∀x∈gs,GoB j x)(s:j <= 1000000):
 di (λq=>w.heap.size<q /\ MTy W q) W (.agg #[.slice (some ⟨w.heap.size+1+1+1,0,none⟩) 8 8,.slice ai its.length ci,.slice ag gs.length cg]) ⟨L,its,gs⟩:=by
 have r:=h.hM;refine⟨_,_,_,rfl,?_,(xS h.items (.inr (.inl rfl))).mono λq a _=>⟨by have:=a.1;omega,a.2⟩,(xS h.gone (.inr (.inr rfl))).mono λq a _=>⟨by have:=a.1;omega,a.2⟩,λx c=>?_,λx c=>?_,λx c=>?_⟩
 ·have f:=h.seen;have e:eqs L=L.map eI:=by unfold eqs;rw[d];simp
  rw[e] at f;refine⟨some ⟨w.heap.size+1+1+1,0,none⟩,8,by rw[d],by rw[d];exact aq _,by unfold maxLen;omega,nofun,by simp,.inr ⟨w.heap.size+1+1+1,0,(L.map eI).toArray,3,(0,0),rfl,⟨by omega,_,_,_,f,.inl rfl⟩,f,by simp,λi hi=>by simp⟩⟩
 ·have:=g x c;unfold dk;omega
 ·obtain⟨m,o,p,t⟩:=k x c;unfold dk;omega
 ·obtain⟨m,o,p⟩:=l x c;unfold dk;omega
theorem DSt.fin{w:World}{M:Nat}{av:Option Addr}{cap:Nat}{b:List UInt8}{W:World}{l:List Value}{its:List RIt}{gs:List RGo}{ai:Option Addr}{ci:Nat}{ag:Option Addr}{cg:Nat}{st:dO}(h:DSt w M av cap b W l its gs ai ci ag cg st)(x y z:Value)(i:di (λq=>w.heap.size<q /\ MTy W q) W u r):
 di (λq=>w.heap.size <= q /\ MTy (((W.setCell ⟨w.heap.size,0,none⟩ x).setCell ⟨w.heap.size,1,none⟩ y).setCell ⟨w.heap.size,2,none⟩ z) q) (((W.setCell ⟨w.heap.size,0,none⟩ x).setCell ⟨w.heap.size,1,none⟩ y).setCell ⟨w.heap.size,2,none⟩ z) u r:=by
 have d:∀q,w.heap.size<q -> (((W.setCell ⟨w.heap.size,0,none⟩ x).setCell ⟨w.heap.size,1,none⟩ y).setCell ⟨w.heap.size,2,none⟩ z).heap[q]?=W.heap[q]?:=λq a=>by
  have c:q≠w.heap.size:=by omega
  exact(Below.heap_setCell _ _ _ _ c).trans ((Below.heap_setCell _ _ _ _ c).trans (Below.heap_setCell _ _ _ _ c))
 refine(i.keep (w':=((W.setCell ⟨w.heap.size,0,none⟩ x).setCell ⟨w.heap.size,1,none⟩ y).setCell ⟨w.heap.size,2,none⟩ z) λq a _=>d q a.1).mono λq a _=>⟨Nat.le_of_lt a.1,?_⟩
 obtain⟨L,t,e,f,g⟩:=a.2;exact⟨L,t,e,(d q a.1).trans f,g⟩
def vG(w:World)(b:List UInt8)(e:Ending)(a:World):Prop:=∃r,e=.returned (.tuple #[r,.int .i64 (e9 b).2]) /\ di (λq=>w.heap.size <= q /\ MTy a q) a r (e9 b).1 /\ Below w.heap.size w a
def AR(w:World)(b:List UInt8)(e:Ending)(a:World):Prop:=∃r,e=.returned (.tuple #[r,.int .i64 (e9 b).2]) /\ di (λq=>w.heap.size <= q) a r (e9 b).1 /\ Below w.heap.size w a
theorem nT(w:World)(hT:eB w)(h3:4 <= w.heap.size)(F:aQ)(av:Option Addr)(cap:Nat)(b:List UInt8)(hB:aO F w (.slice av b.length cap) b)(hF:∀q,F q -> q<w.heap.size)(hl:b.length <= 400000):
 Calls aE 100 #[.slice av b.length cap] w (vG w b):=by
 have bG:∀l,Below w.heap.size w l -> eB l /\ 4 <= l.heap.size:=λl hb=>⟨bR hT h3 hb,au h3 hb.size⟩
 have f:∀l,Below w.heap.size w l -> aO F l (.slice av b.length cap) b /\ ∀q,F q -> q<l.heap.size:=λl hb=>⟨hB.keep (w':=l) λq J _=>hb.block q (hF q J),λq J=>aw (hF q J) hb.size⟩
 obtain⟨w2,bC⟩:=aP ((w.alloc (.cells #[.slice none 0 0,.slice none 0 0,.slice none 0 0] 37)).alloc (.cells #[.slice av b.length cap,.int .i64 0,.bool false] 207));have bZ:w2.heap.size=w.heap.size+1+1:=by rw[bC];simp
 have HN:=uq w2;have Hl:=hl
 go_enter func100,ntmps100
 go_wp2_with fail;rw[<- bC];refine HN.mono ?_;rintro e w3 ⟨rfl,hS,bp⟩;rw[bZ] at hS bp;rw[bZ];rw[bC] at bp;have u:=DSt.start w av cap b w3 hS bp;obtain⟨M,hM⟩:=aH w3.heap.size;obtain⟨w4,bD⟩:=aP (w3.alloc (.cells #[.slice (some ⟨w.heap.size+1+1+1,0,none⟩) 8 8,.slice none 0 0,.slice none 0 0] 37));rw[<- bD,hM] at u;obtain⟨c0,c1,c2⟩:=aS u.map;rw[bD] at c0 c1 c2;have HD:=u;go_wp2;rw[<- bD]
 go_loopw [18] (λi wr=>∃k:Nat,k <= 8 /\ i=.int .i64 (k:Int) /\ ∃L st,io k ([],some b)=(L,st) /\ L.length=k /\ DSt w M av cap b wr (eqs L) [] [] none 0 none 0 st) (λi _=>8-(intOf i).toNat)
 ·exact⟨0,by omega,rfl,[],some b,rfl,rfl,HD⟩
 ·obtain⟨k,hk,rfl,L,st,bA,hL,u⟩:=hrel
  by_cases cm:k<8
  ·have cn:(k:Int)<8:=by omega
   have pm:∀l,aM (λq=>q=w.heap.size+1 \/ q=w.heap.size+1+1+1) wr.drew l -> l.cell? ⟨M,0,none⟩=some (.slice (some ⟨w.heap.size+1+1+1,0,none⟩) 8 8):=λl hh=>aM.cellB hh (u.map.cell 0) (by have:=u.hM;show ¬(M=w.heap.size+1 \/ M=w.heap.size+1+1+1);omega)
   have bd:=u.kept (W':=wr.drew) ((Below.refl wr.heap.size wr).drew);have b1:=bd;have g:=i8 wr.drew (w.heap.size+1) F av cap b st bd.rd (f _ bd.bel).1 (f _ bd.bel).2;go_wp2_with fail;refine bP (aM (λq=>q=w.heap.size+1 \/ q=w.heap.size+1+1+1)) (up 4 [504,5,506]) (by kernel_rfl) ?_;apply aG;rfl;intro l hC;go_simp;exact aF;refine aY rfl rfl (λKK hK=>?_);go_simp;refine g.mono ?_;rintro e w8 ⟨rfl,j,bT⟩;refine⟨_,rfl,aM.trans (aM.refl _ _) bT (λi hi=>.inl (.inl hi)),hK _ _ ?_⟩;have ba:=b1.read bT j;go_simp;apply aG;rfl;intro l hC;go_simp;exact aF;have cp:k<(eqs L).length:=by rw[EH L (by omega)];exact cm
   have e0:w8.cell? ⟨w.heap.size+1+1+1,k,none⟩=some ((eqs L)[k]):=by rw[ba.seen.cell k,List.getElem?_eq_getElem cp]
   have f0:w8.frozen? ⟨w.heap.size+1+1+1,k,none⟩=false:=ba.seen.free k;have bc:=ba.put k (.int .i64 (cC st).1);rw[<- hL,EG L _ (by omega),hL] at bc;obtain⟨w9,be⟩:=aP (w8.setCell ⟨w.heap.size+1+1+1,k,none⟩ (.int .i64 (cC st).1));have bV:aM (λq=>q=w.heap.size+1 \/ q=w.heap.size+1+1+1) w8 w9:=by rw[be];exact(aM.refl _ _).setCell (p:=⟨w.heap.size+1+1+1,k,none⟩) (.inl (.inr rfl)) _
   rw[<- be] at bc;have⟨b0,b8,bL⟩:=ae3 bc bV be;clear ba bc bV be;refine aY rfl rfl (λKK hK=>?_);go_simp;rw[<- bL.x];refine⟨b8.x,hK _ _ ?_⟩;clear hK KK e0 f0 bL;go_simp;apply aG;rfl;intro l hC;go_simp;(repeat (simp(disch:=omega) only[af,if_pos];go_simp));exact aF;refine aW ?_;go_wp2
   go_roundw
   ·exact⟨k+1,by omega,by go_num,L++[(cC st).1],(cC st).2,by rw[jI,bA],by simp[hL],b0.x⟩
   ·simp[intOf];omega
  ·have cn:¬(k:Int)<8:=by omega
   obtain rfl:k=8:=by omega
   have cl:pR b=(L,st):=bA;have bX:=se 8 ([],some b);rw[bA] at bX;have bi:=cl;have HL:=hL;have a7:=u;have ca:szS st <= b.length+1:=bX;obtain⟨⟨n0,s0⟩,an⟩:=aH (cC st);have I:=gC st;have az:=(iR st).1;rw[an] at I az;dsimp only at I az;obtain⟨n1,rfl⟩:=Int.eq_ofNat_of_zero_le I.1;have cb:=au az ca;have b3:fC fP n1 ([],s0)=jY b:=by unfold jY;rw[bi];dsimp only;rw[an];rfl
   have cq:n1 <= 1099511627776:=by omega
   have a:=i8 wr (w.heap.size+1) F av cap b _ a7.rd (f _ a7.bel).1 (f _ a7.bel).2;rw[an] at a;dsimp only at a;have g:=a;go_wp2_with fail;refine g.mono ?_;rintro e w5 ⟨rfl,j,cs⟩;have ce:=a7.read cs j;go_wp2
   go_loopw [7] (λi wq=>∃(d:Nat)(its:List RIt)(ai:Option Addr)(ci:Nat)(E:dO),d <= 1099511627776 /\ i=.int .i64 (d:Int) /\ fC fP d (its,E)=jY b /\ (∀x∈its,ItB (b.length+1) x) /\ its.length+szS E <= b.length+1 /\ DSt w M av cap b wq (eqs L) its [] ai ci none 0 E) (λi _=>(intOf i).toNat)
   ·exact⟨n1,[],none,0,s0,cq,rfl,b3,nofun,by simpa using cb,ce⟩
   ·obtain⟨d,its,ai,ci,E,I,rfl,bu,cj,cv,u⟩:=hrel;obtain⟨V,ad,bz,bQ,bB⟩:=id u.rd;obtain⟨z0,z1,z2⟩:=aS bz;have aN:=bu;have bh:=cj;have aT:=cv;have c:=u;have aa:=bB;rcases Decidable.em (d=0 \/ ad=true) with C|C
    ·have bH:jY b=(its,E):=by
      rw[<- aN];rcases C with rfl|rfl
      ·rfl
      ·rw[show E=none from aa,jE]
     rcases Nat.eq_zero_or_pos d with hn|hn
     case' inl=>subst hn
     case' inr=>
      obtain rfl:ad=true:=C.resolve_left (by omega)
      obtain⟨n,rfl⟩:∃n,d=n+1:=⟨d-1,by omega⟩
      have bw:(0:Int)<((n+1:Nat):Int):=by omega
     all_goals
      go_wp2_with fail;obtain⟨⟨cz,bF⟩,an⟩:=aH (cC E);have I:=gC E;have az:=(iR E).1;rw[an] at I az;dsimp only at I az;obtain⟨n2,rfl⟩:=Int.eq_ofNat_of_zero_le I.1;have cc:szS bF <= b.length+1:=by have:=aT;omega
      have b4:fC fQ n2 ([],bF)=lu b:=by unfold lu;rw[bH];dsimp only;rw[an];rfl
      have cr:n2 <= 1099511627776:=by omega
      have a:=i8 wr (w.heap.size+1) F av cap b _ c.rd (f _ c.bel).1 (f _ c.bel).2;rw[an] at a;dsimp only at a;have g:=a;go_wp2_with fail;refine g.mono ?_;rintro e y5 ⟨rfl,j,ct⟩;have cf:=c.read ct j;go_wp2
      go_loopw [9] (λi wq=>∃(d:Nat)(gs:List RGo)(ag:Option Addr)(cg:Nat)(O:dO),d <= 1099511627776 /\ i=.int .i64 (d:Int) /\ fC fQ d (gs,O)=lu b /\ (∀x∈gs,GoB (b.length+1) x) /\ gs.length+szS O <= b.length+1 /\ DSt w M av cap b wq (eqs L) its gs ai ci ag cg O) (λi _=>(intOf i).toNat)
      ·exact⟨n2,[],none,0,bF,cr,rfl,b4,nofun,by simpa using cc,cf⟩
      ·obtain⟨d,gs,ag,cg,O,I,rfl,bu,ch,cw,u⟩:=hrel;obtain⟨V,ad,bz,bQ,bB⟩:=id u.rd;obtain⟨z0,z1,z2⟩:=aS bz;have aN:=bu;have bg:=ch;have a9:=cw;have c:=u;have aa:=bB;have b5:=bQ;rcases Decidable.em (d=0 \/ ad=true) with C|C
       ·have a8:lu b=(gs,O):=by
         rw[<- aN];rcases C with rfl|rfl
         ·rfl
         ·rw[show O=none from aa,jE]
        cases ad with
        |true=>
         obtain rfl:O=none:=aa;rcases Nat.eq_zero_or_pos d with hn|hn
         case' inl=>subst hn
         case' inr=>
          obtain⟨n,rfl⟩:∃n,d=n+1:=⟨d-1,by omega⟩
          have bw:(0:Int)<((n+1:Nat):Int):=by omega
         all_goals
          have B:e9 b=(.empty,5):=by unfold e9;rw[if_neg];rw[a8];exact λh=>nomatch h.1
          obtain⟨wf,U,al,ak⟩:=dX c.res c.bel (aq _) (.slice none 0 0) (.slice none 0 0) (.slice none 0 0);obtain⟨y0,y1,y2⟩:=aS c.res;have f0:=c.res.free 0;have f1:=c.res.free 1;have f2:=c.res.free 2;have Q:=aS al;have Y:=ak;have ab:=U;go_wp2;rw[<- ab];obtain⟨q0,q1,q2⟩:=Q;exact bodyPost_ret (v:=.tuple #[eJ,.int .i64 5]) (by simp[results,results100,go_sem,q0,q1,q2,eJ]) rfl ⟨_,by rw[B],by rw[B];exact gD _ _,Y⟩
        |false=>
         obtain rfl:d=0:=by simpa using C
         obtain rfl:O=some (b.drop V):=aa
         by_cases co:V=b.length
         case neg=>
          have bN:¬(V:Int)=(b.length:Int):=by omega
          have cx:((V:Int) == (b.length:Int))=false:=beq_eq_false_iff_ne.2 bN;have cy:((V:Int) != (b.length:Int))=true:=by simp[bN]
          have B:e9 b=(.empty,5):=by
           unfold e9;rw[if_neg];rw[a8];intro h;have T:=congrArg List.length (Option.some.inj h.1);have:=b5;simp at T;omega
          obtain⟨wf,U,al,ak⟩:=dX c.res c.bel (aq _) (.slice none 0 0) (.slice none 0 0) (.slice none 0 0);obtain⟨y0,y1,y2⟩:=aS c.res;have f0:=c.res.free 0;have f1:=c.res.free 1;have f2:=c.res.free 2;have Q:=aS al;have Y:=ak;have ab:=U;go_wp2;rw[<- ab];obtain⟨q0,q1,q2⟩:=Q;exact bodyPost_ret (v:=.tuple #[eJ,.int .i64 5]) (by simp[results,results100,go_sem,q0,q1,q2,eJ]) rfl ⟨_,by rw[B],by rw[B];exact gD _ _,Y⟩
         case pos=>
          subst co;have bI:kt b=⟨L,its,gs⟩:=by unfold kt;rw[bi,bH,a8]
          have b2:(lu b).2=some []:=by rw[a8];simp
          have ck:∀x∈L,0 <= x /\ x <= 1099511627776:=λx N=>by
           have:=pX 8 ([],some b) nofun x;have e:io 8 ([],some b)=(L,st):=bi;rw[e] at this;exact this N
          have bv:=c.mapV HL ck bh bg (by have:=Hl;omega);rw[<- bI] at bv
          have bO:(∀x∈(kt b).items,x.key.length <= 1000000) /\ (∀x∈(kt b).gone,x.key.length <= 1000000):=by
           rw[bI];exact⟨λx N=>by have:=(bh x N).1;have:=Hl;omega,λx N=>by have:=(bg x N).1;have:=Hl;omega⟩
          obtain⟨ok,bU⟩:=aH (aV (kt b));have hC:=kZ _ (bG _ c.bel).1 (bG _ c.bel).2 _ _ (kt b) bv bO.1 bO.2;rw[bU] at hC;have b6:=bv;have bK:=bU;obtain⟨c0,c1,c2⟩:=aS c.map;go_wp2_with fail;refine hC.mono ?_;rintro e y6 ⟨rfl,bM⟩;have s:=c.kept bM;have b7:=BF b6 bM;cases ok with
          |false=>
           have B:e9 b=(.empty,5):=by unfold e9;rw[if_neg];rw[bK];exact λh=>nomatch h.2
           obtain⟨wf,U,al,ak⟩:=dX s.res s.bel (aq _) (.slice none 0 0) (.slice none 0 0) (.slice none 0 0);obtain⟨y0,y1,y2⟩:=aS s.res;have f0:=s.res.free 0;have f1:=s.res.free 1;have f2:=s.res.free 2;have Q:=aS al;have Y:=ak;have ab:=U;go_wp2;rw[<- ab];obtain⟨q0,q1,q2⟩:=Q;exact bodyPost_ret (v:=.tuple #[eJ,.int .i64 5]) (by simp[results,results100,go_sem,q0,q1,q2,eJ]) rfl ⟨_,by rw[B],by rw[B];exact gD _ _,Y⟩
          |true=>
           have B:e9 b=(kt b,0):=by unfold e9;rw[if_pos ⟨b2,bK⟩]
           obtain⟨wf,U,al,ak⟩:=dX s.res s.bel (aq _) (.slice (some ⟨w.heap.size+1+1+1,0,none⟩) 8 8) (.slice ai its.length ci) (.slice ag gs.length cg);have bS:=s.fin (.slice (some ⟨w.heap.size+1+1+1,0,none⟩) 8 8) (.slice ai its.length ci) (.slice ag gs.length cg) b7;rw[<- U] at bS;obtain⟨y0,y1,y2⟩:=aS s.res;have f0:=s.res.free 0;have f1:=s.res.free 1;have f2:=s.res.free 2;obtain⟨c0,c1,c2⟩:=aS s.map;have Q:=aS al;have Y:=ak;have ab:=U;go_wp2;rw[<- ab];obtain⟨q0,q1,q2⟩:=Q;exact bodyPost_ret (v:=.tuple #[.agg #[.slice (some ⟨w.heap.size+1+1+1,0,none⟩) 8 8,.slice ai its.length ci,.slice ag gs.length cg],.int .i64 0]) (by simp[results,results100,go_sem,q0,q1,q2]) rfl ⟨_,by rw[B],by rw[B];exact bS,Y⟩
       have hn:d≠0:=λh=>C (.inl h)
       obtain⟨n,rfl⟩:∃n,d=n+1:=⟨d-1,by omega⟩
       have bw:(0:Int)<((n+1:Nat):Int):=by omega
       cases ad with
       |true=>exact absurd (.inr rfl) C
       |false=>
        obtain⟨y,bq⟩:=aH (b.drop V);obtain rfl:O=some y:=by rw[<- bq];exact aa
        have Z:=xn y;have aR:fC fQ n (gs++[(fQ (some y)).1],(fQ (some y)).2)=lu b:=by rw[<- aN,iI]
        obtain⟨⟨t,s1⟩,ht⟩:=aH (cM (some y));obtain⟨⟨o,s2⟩,a4⟩:=aH (cC s1);obtain⟨⟨r,s3⟩,a6⟩:=aH (cC s2);have br:fQ (some y)=(⟨t,o,r⟩,s3):=by unfold fQ;rw[ht];dsimp only;rw[a4];dsimp only;rw[a6]
        rw[br] at Z aR;have Ht:=ht;have bm:=a4;have bn:=a6;have a:=uo wr (w.heap.size+1) F av cap b _ c.rd (f _ c.bel).1 (f _ c.bel).2;rw[Ht] at a;dsimp only at a;have g:=a;go_wp2_with fail;refine g.mono ?_;rintro e R ⟨rfl,j,bx⟩;have D:=c.read bx j;obtain⟨v6,ao⟩:=aP (R.alloc (.cells #[.string ⟨t.toArray⟩,.int .i64 0,.int .i64 0] 111));have bt:Below R.heap.size R v6:=by rw[ao];exact aI _ _
        obtain⟨X,hX⟩:=aH R.heap.size;have aK:Blk v6 X [.string ⟨t.toArray⟩,.int .i64 0,.int .i64 0] 111:=by rw[ao,<- hX];exact Blk.new _ _ _
        have S:M<X:=by rw[<- hX];exact D.map.lt
        have HX:=hX;have G:=D.kept bt;have bl:=ao;have bj:∀q,(Value.slice ag gs.length cg).ownBlock=some q -> q≠X:=λq J e=>by have:=(D.gone.lt q J).2;omega
        have b9:∀q,(Value.slice ai its.length ci).ownBlock=some q -> q≠X:=λq J e=>by have:=(D.items.lt q J).2;omega
        have bo:¬X=w.heap.size+1:=by have:=S;have:=D.hM;omega
        have ax:=bo;have a:=i8 v6 (w.heap.size+1) F av cap b _ G.rd (f _ G.bel).1 (f _ G.bel).2;rw[bm] at a;dsimp only at a;have g:=a;go_wp2_with fail;rw[<- bl];refine g.mono ?_;rintro e v7 ⟨rfl,j,a0⟩;have H:=G.read a0 j;have aL:=aK.keep (a0.block _ aK.lt ax);have a:=i8 v7 (w.heap.size+1) F av cap b _ H.rd (f _ H.bel).1 (f _ H.bel).2;rw[bn] at a;dsimp only at a;have g:=a;go_wp2_with fail;refine g.mono ?_;rintro e v8 ⟨rfl,j,a1⟩;have ay:=H.read a1 j;have A:=aL.keep (a1.block _ aL.lt ax);have e1:v8.cell? ⟨X,1,none⟩=some (.int .i64 0):=A.cell 1;have e2:v8.cell? ⟨X,2,none⟩=some (.int .i64 0):=A.cell 2;have f1:=A.free 1;have f2:=A.free 2;obtain⟨m,K⟩:=aP ((v8.setCell ⟨X,1,none⟩ (.int .i64 o)).setCell ⟨X,2,none⟩ (.int .i64 r));have bs:Blk m X [.string ⟨t.toArray⟩,.int .i64 o,.int .i64 r] 111:=by rw[K];exact(A.set 1 _).set 2 _
        have T:∀q,(Value.slice ai its.length ci).ownBlock=some q -> q≠X:=b9
        have h2:∀q,(Value.slice ag gs.length cg).ownBlock=some q -> q≠X:=bj
        have z:DSt w M av cap b m (eqs L) its gs ai ci ag cg s3:=by
         rw[K];exact(ay.far S T h2 1 _).far S T h2 2 _
        obtain⟨i0,t1,t2,t3,t4⟩:=info_parts mI;obtain⟨va,ar,hr,a2,aX⟩:=cu (P:=aE) m (M+1) 35 111 underlying35 t1 t2 t3 t4 rfl (by decide) (.slice ag gs.length cg) gs.length _ z.gone #[.string ⟨t.toArray⟩,.int .i64 o,.int .i64 r] rfl (by simp[Value.oneCell']) (by have:=a9;have:=Hl;unfold maxLen;omega) (by have:=a9;have:=Hl;omega) z.map.lt;obtain⟨a5,c5,rfl⟩:=aJ a2;have aU:=(z.kept (aI m (.cells #[.string ⟨t.toArray⟩,.int .i64 o,.int .i64 r] 111))).gon (x:=⟨t,o,r⟩) aX a2;have aZ:Blk ar M [.slice (some ⟨w.heap.size+1+1+1,0,none⟩) 8 8,.slice ai its.length ci,.slice ag gs.length cg] 37:=((z.kept (aI m (.cells #[.string ⟨t.toArray⟩,.int .i64 o,.int .i64 r] 111))).map).grownNe ((z.kept (aI m (.cells #[.string ⟨t.toArray⟩,.int .i64 o,.int .i64 r] 111))).gone) (by decide) aX;have d1:ar.cell? ⟨M,2,none⟩=some (.slice ag gs.length cg):=aZ.cell 2;have g1:=aZ.free 2;obtain⟨v12,a3⟩:=aP (ar.setCell ⟨M,2,none⟩ (.slice a5 (gs.length+1) c5));rw[<- a3] at aU;have m1:m.cell? ⟨M,2,none⟩=some (.slice ag gs.length cg):=z.map.cell 2;obtain⟨k0,k1,k2⟩:=aS bs;have bE:m.heap.size=v8.heap.size:=by rw[K];simp[World.setCell]
        rw[bE] at hr;rw[K] at m1 k0 k1 k2 hr;have bf:=aU;have bk:=a3;go_wp2;rw[<- bk]
        go_roundw
        ·exact⟨n,_,a5,c5,s3,by omega,by go_num,aR,λx N=>by
         rcases List.mem_append.1 N with h|h
         ·exact bg x h
         ·rw[List.mem_singleton.1 h];exact Z.2.mono (by have:=a9;omega),by have:=a9;have:=Z.1;rw[aA,List.length_singleton];omega,bf⟩
        ·first|(simp[intOf];done)|(simp[intOf];omega)
    have hn:d≠0:=λh=>C (.inl h)
    obtain⟨n,rfl⟩:∃n,d=n+1:=⟨d-1,by omega⟩
    have bw:(0:Int)<((n+1:Nat):Int):=by omega
    cases ad with
    |true=>exact absurd (.inr rfl) C
    |false=>
     obtain⟨y,bq⟩:=aH (b.drop V);obtain rfl:E=some y:=by rw[<- bq];exact aa
     have Z:=xm y;have aR:fC fP n (its++[(fP (some y)).1],(fP (some y)).2)=jY b:=by rw[<- aN,iI]
     obtain⟨⟨t,s1⟩,ht⟩:=aH (cM (some y));obtain⟨⟨o,s2⟩,a4⟩:=aH (cC s1);obtain⟨⟨r,s3⟩,a6⟩:=aH (cC s2);obtain⟨⟨W,s4⟩,bY⟩:=aH (cC s3);have br:fP (some y)=(⟨t,o,r,W⟩,s4):=by unfold fP;rw[ht];dsimp only;rw[a4];dsimp only;rw[a6];dsimp only;rw[bY]
     rw[br] at Z aR;have Ht:=ht;have bm:=a4;have bn:=a6;have a:=uo wr (w.heap.size+1) F av cap b _ c.rd (f _ c.bel).1 (f _ c.bel).2;rw[Ht] at a;dsimp only at a;have g:=a;go_wp2_with fail;refine g.mono ?_;rintro e R ⟨rfl,j,bx⟩;have D:=c.read bx j;obtain⟨v6,ao⟩:=aP (R.alloc (.cells #[.string ⟨t.toArray⟩,.int .i64 0,.int .i64 0,.int .i64 0] 108));have bt:Below R.heap.size R v6:=by rw[ao];exact aI _ _
     obtain⟨X,hX⟩:=aH R.heap.size;have aK:Blk v6 X [.string ⟨t.toArray⟩,.int .i64 0,.int .i64 0,.int .i64 0] 108:=by rw[ao,<- hX];exact Blk.new _ _ _
     have S:M<X:=by rw[<- hX];exact D.map.lt
     have HX:=hX;have G:=D.kept bt;have bl:=ao;have bj:∀q,(Value.slice ai its.length ci).ownBlock=some q -> q≠X:=λq J e=>by have:=(D.items.lt q J).2;omega
     have bo:¬X=w.heap.size+1:=by have:=S;have:=D.hM;omega
     have ax:=bo;have a:=i8 v6 (w.heap.size+1) F av cap b _ G.rd (f _ G.bel).1 (f _ G.bel).2;rw[bm] at a;dsimp only at a;have g:=a;go_wp2_with fail;rw[<- bl];refine g.mono ?_;rintro e v7 ⟨rfl,j,a0⟩;have H:=G.read a0 j;have aL:=aK.keep (a0.block _ aK.lt ax);have a:=i8 v7 (w.heap.size+1) F av cap b _ H.rd (f _ H.bel).1 (f _ H.bel).2;rw[bn] at a;dsimp only at a;have g:=a;go_wp2_with fail;refine g.mono ?_;rintro e v8 ⟨rfl,j,a1⟩;have ay:=H.read a1 j;have bJ:=aL.keep (a1.block _ aL.lt ax);have a:=i8 v8 (w.heap.size+1) F av cap b _ ay.rd (f _ ay.bel).1 (f _ ay.bel).2;rw[bY] at a;dsimp only at a;have g:=a;go_wp2_with fail;refine g.mono ?_;rintro e v9 ⟨rfl,j,bW⟩;have cd:=ay.read bW j;have A:=bJ.keep (bW.block _ bJ.lt ax);have e1:v9.cell? ⟨X,1,none⟩=some (.int .i64 0):=A.cell 1;have e2:v9.cell? ⟨X,2,none⟩=some (.int .i64 0):=A.cell 2;have e3:v9.cell? ⟨X,3,none⟩=some (.int .i64 0):=A.cell 3;have f1:=A.free 1;have f2:=A.free 2;have f3:=A.free 3;obtain⟨m,K⟩:=aP (((v9.setCell ⟨X,1,none⟩ (.int .i64 o)).setCell ⟨X,2,none⟩ (.int .i64 r)).setCell ⟨X,3,none⟩ (.int .i64 W));have bs:Blk m X [.string ⟨t.toArray⟩,.int .i64 o,.int .i64 r,.int .i64 W] 108:=by rw[K];exact((A.set 1 _).set 2 _).set 3 _
     have T:∀q,(Value.slice ai its.length ci).ownBlock=some q -> q≠X:=bj
     have h2:∀q,(Value.slice none 0 0).ownBlock=some q -> q≠X:=nofun
     have z:DSt w M av cap b m (eqs L) its [] ai ci none 0 s4:=by
      rw[K];exact((cd.far S T h2 1 _).far S T h2 2 _).far S T h2 3 _
     obtain⟨i0,t1,t2,t3,t4⟩:=info_parts mH;obtain⟨va,ar,hr,a2,aX⟩:=cu (P:=aE) m (M+1) 34 108 underlying34 t1 t2 t3 t4 rfl (by decide) (.slice ai its.length ci) its.length _ z.items #[.string ⟨t.toArray⟩,.int .i64 o,.int .i64 r,.int .i64 W] rfl (by simp[Value.oneCell']) (by have:=aT;have:=Hl;unfold maxLen;omega) (by have:=aT;have:=Hl;omega) z.map.lt;obtain⟨a5,c5,rfl⟩:=aJ a2;have aU:=(z.kept (aI m (.cells #[.string ⟨t.toArray⟩,.int .i64 o,.int .i64 r,.int .i64 W] 108))).item (x:=⟨t,o,r,W⟩) aX a2;have aZ:Blk ar M [.slice (some ⟨w.heap.size+1+1+1,0,none⟩) 8 8,.slice ai its.length ci,.slice none ([]:List RGo).length 0] 37:=((z.kept (aI m (.cells #[.string ⟨t.toArray⟩,.int .i64 o,.int .i64 r,.int .i64 W] 108))).map).grownNe ((z.kept (aI m (.cells #[.string ⟨t.toArray⟩,.int .i64 o,.int .i64 r,.int .i64 W] 108))).items) (by decide) aX;have d1:ar.cell? ⟨M,1,none⟩=some (.slice ai its.length ci):=aZ.cell 1;have g1:=aZ.free 1;obtain⟨v12,a3⟩:=aP (ar.setCell ⟨M,1,none⟩ (.slice a5 (its.length+1) c5));rw[<- a3] at aU;have m1:m.cell? ⟨M,1,none⟩=some (.slice ai its.length ci):=z.map.cell 1;obtain⟨k0,k1,k2,k3⟩:=dH bs;have bE:m.heap.size=v9.heap.size:=by rw[K];simp[World.setCell]
     rw[bE] at hr;rw[K] at m1 k0 k1 k2 k3 hr;have bf:=aU;have bk:=a3;go_wp2;rw[<- bk]
     go_roundw
     ·exact⟨n,_,a5,c5,s4,by omega,by go_num,aR,λx N=>by
      rcases List.mem_append.1 N with h|h
      ·exact bh x h
      ·rw[List.mem_singleton.1 h];exact Z.2.mono (by have:=aT;omega),by have:=aT;have:=Z.1;rw[aA,List.length_singleton];omega,bf⟩
     ·first|(simp[intOf];done)|(simp[intOf];omega)
end
section
open Go.Lib
attribute [local go_sem ↓] aU
attribute [local go_sem] opC upC
def Da(w:World)(R:Nat)(d:Value)(c:Nat)(o:Option (List bQ×List UInt8))(e:Ending)(a:World):Prop:=
 (match o with
  |some (l,r)=>(∃v,e=.returned v /\ a.ownsRow w.heap.size 9 1 v l.length (l.map eS)) /\ ∃b:Nat,b+r.length=c /\ Blk a R [d,.int .i64 (b:Int)] 247
  |none=>e=.panicked failP) /\ aM (λq=>q=R) w a
theorem aM.later{w c d:World}(h:aM G w c)(a:Below w.heap.size c d):aM G w d:=
 ⟨a.os.trans h.os,a.tape.trans h.tape,a.output.trans h.output,au h.size a.size,λq b e=>(a.block q b).trans (h.block q b e)⟩
theorem BG{b r:List UInt8}(h:qq (b.drop i)=some (o,r))(g:i <= b.length)(f:j+r.length=b.length):r=b.drop j /\ o <= r.length:=by
 unfold qq at h;cases c:rdF (b.drop i) 9 with
 |none=>rw[c] at h;cases h
 |some p=>
  obtain⟨m,q⟩:=p;rw[c] at h;dsimp only at h;split at h
  ·rename_i e;obtain⟨rfl,rfl⟩:=Prod.mk.inj (Option.some.inj h);obtain⟨d,a⟩:=k8 c;rw[List.length_drop] at d a;refine⟨?_,e⟩;rw[List.drop_drop,show i+(b.length-i-q.length)=j by omega] at a;exact a
  ·cases h
theorem xT{b r:List UInt8}{k:bQ}(h:rdT (b.drop i)=some (k,r))(f:i <= b.length)(d:j+r.length=b.length):r=b.drop j:=by
 unfold rdT at h;cases c:rdF (b.drop i) 9 with
 |none=>rw[c] at h;cases h
 |some p=>
  obtain⟨m,q⟩:=p;rw[c] at h;dsimp only at h;split at h
  ·rename_i g;obtain⟨rfl,rfl⟩:=Prod.mk.inj (Option.some.inj h);obtain⟨e,a⟩:=k8 c;rw[List.length_drop] at e a;rw[List.length_drop] at d;rw[List.drop_drop] at a;rw[a,List.drop_drop]
   congr 1
   omega
  ·cases h
theorem BH(R:Nat)(F:aQ)(a:Option Addr)(c:Nat)(b:List UInt8)(u:Nat)(hR:Blk w R [.slice a b.length c,.int .i64 (u:Int)] 247)(hB:aO F w (.slice a b.length c) b)(hF:∀q,F q -> q≠R)(hk:u <= b.length)(hl:b.length <= 400000):
 Calls aE 202 #[.pointer (some ⟨R,0,none⟩)] w (Da w R (.slice a b.length c) b.length (rdL (b.drop u))):=by
 have H:=Bz w R F a c b u hR hB hF hk;have HB:∀W,aM (λq=>q=R) w W -> aO F W (.slice a b.length c) b:=λW hW=>hB.only hW λq s e=>hF q s e
 have Y:R<w.heap.size:=hR.lt;rw[CW];obtain⟨o,ho⟩:=aH (qq (b.drop u));rw[ho] at H⊢;have Ho:=ho;have Hl:=hl;have HF:=hF;have Hk:=hk
 go_enter func202,ntmps202
 go_wp2_with fail;refine H.mono ?_;rintro e w1 hC;clear H;cases o with
 |none=>
  obtain⟨rfl,l⟩:=hC;have A:=ae l;clear l;go_wp2_with fail;exact⟨rfl,rfl,A.x⟩
 |some p=>
  obtain⟨n,r⟩:=p;obtain⟨⟨rfl,k1,al,ad⟩,l⟩:=hC;obtain⟨ar,aU⟩:=BG Ho Hk al;obtain⟨j,ab⟩:=aH (jH n r);have aT:n <= 400000:=by have:=Hl;omega
  have⟨aF,A,aN,B,aK⟩:=ae5 ad l ar ab (show k1 <= b.length by omega);clear ad l ar ab al;go_wp2
  go_loopw [3,4] (λv i wr=>∃(m:Nat)(L:List bQ)(d:Nat),i=.int .i64 (m:Int) /\ L.length+m=n /\ d <= b.length /\ (jH m (b.drop d)).map (λp=>(L++p.1,p.2))=j /\ wr.ownsRow w.heap.size 9 1 v L.length (L.map eS) /\ Blk wr R [.slice a b.length c,.int .i64 (d:Int)] 247 /\ aM (λq=>q=R) w wr) (λ_ i _=>(intOf i).toNat)
  ·exact⟨n,[],k1,rfl,by simp,aK.x,by rw[<- aN.x,B.x];cases j<;>rfl,World.ownsRow_nil _ _ _ _,aF.x,A.x⟩
  ·obtain⟨m,L,d,rfl,aS,M,ai,f,K,N⟩:=hrel;obtain⟨ao,co,rfl⟩:=aJ f;have I:=uc wr R F a c b d K (HB wr N) HF M;obtain⟨ot,Q⟩:=aH (rdT (b.drop d));rw[Q] at I;have⟨V,G⟩:=ae2 I Q;clear I Q;have⟨Z,C,E,aG,X⟩:=ae5 f ai N K M;clear f ai N K M
   by_cases h0:0<m
   ·have aR:(0:Int)<(m:Int):=by omega
    obtain⟨z,rfl⟩:∃z,m=z+1:=⟨m-1,by omega⟩
    go_wp2_with fail;refine V.x.mono ?_;rintro e x aa;clear V;cases ot with
    |none=>
     obtain⟨rfl,g⟩:=aa
     have D:=ae (show j=none by
      rw[<- C.x];unfold jH;rw[G.x]
      rfl)
     have ay:=ae (show aM (λq=>q=R) w x from E.x.trans g λ_ h=>.inl h);clear g;go_wp2_with fail;refine⟨rfl,?_⟩;show Da w R _ _ (jH n r) _ _;rw[B.x,D.x];exact⟨rfl,ay.x⟩
    |some p=>
     obtain⟨k,t⟩:=p;obtain⟨⟨rfl,y,an,ag⟩,g⟩:=aa;have ht:=xT G.x X.x an
     have s:(jH z (b.drop y)).map (λp=>((L++[k])++p.1,p.2))=j:=by
      rw[<- C.x]
      conv=>rhs;unfold jH
      rw[G.x];dsimp only;rw[ht,Option.map_map]
      congr 1
      funext p
      simp
     have f:=jJ Z.x g (λq s e=>by have:=Y;have e':q=R:=e;omega);have O:aM (λq=>q=R) w x:=E.x.trans g λ_ h=>.inl h
     have T:=O.size;obtain⟨i0,t1,t2,t3,t4⟩:=info_parts AM;obtain⟨v5,U,aP,S,ak⟩:=cu (P:=aE) x w.heap.size 32 9 underlying32 t1 t2 t3 t4 rfl (by decide) (.slice ao L.length co) L.length _ f #[.string ⟨k.toArray⟩] rfl (by simp[Value.oneCell']) (by unfold maxLen;omega) (by omega) T;obtain⟨a9,c9,rfl⟩:=aJ S;have J:Below w.heap.size x U:=((Below.refl w.heap.size x).alloc T _).trans (Below.grownOwn (br f (aI _ _)) ak (by simp;omega) (aq _))
     have Hf:=ae (show U.ownsRow w.heap.size 9 1 (.slice a9 (L.length+1) c9) (L++[k]).length ((L++[k]).map eS) by
      rw[aA,List.map_append];exact S)
     have⟨ax,az,Hq,aL⟩:=ae4 (show Blk U R [.slice a b.length c,.int .i64 (y:Int)] 247 from ag.keep (J.block R Y)) (O.later J) s (show y <= b.length by omega);clear s f O T S ak J t1 t2 t3 t4 ht an ag g;go_wp2;clear aP
     go_roundw
     ·exact⟨z,L++[k],y,by go_num,by simp;omega,aL.x,Hq.x,by simpa using Hf.x,ax.x,az.x⟩
     ·simp[intOf]
   ·obtain rfl:m=0:=by omega
    have D:=ae (show j=some (L,b.drop d) by rw[<- C.x];show some (L++[],_)=_;rw[List.append_nil]);go_wp2
    go_ret
    show Da w R _ _ (jH n r) _ _;rw[B.x,D.x];exact⟨⟨⟨_,rfl,Z.x⟩,d,by rw[List.length_drop];have:=X.x;omega,aG.x⟩,E.x⟩
end
section
attribute [local go_sem] opC upC
theorem Db{k n:Nat}(h:W.ownsRow i t k u n L)(d:j <= i):W.ownsRow j t k u n L:=by
 refine⟨h.1,?_⟩;rcases h.2 with c|⟨g,a,b,m,f,l⟩
 ·exact .inl c
 ·exact .inr ⟨g,a,b,m,au d f,l⟩
def vH(w:World)(d:Nat)(o:Option (List bQ×List UInt8))(e:Ending)(b:World):Prop:=Kpt w b /\ match o with
 |none=>e=.returned (.tuple #[.slice none 0 0,.int .i64 0,.bool false])
 |some (l,r)=>∃a c,e=.returned (.tuple #[.slice a l.length c,.int .i64 ((d-r.length:Nat):Int),.bool true]) /\ b.ownsRow w.heap.size 9 1 (.slice a l.length c) l.length (l.map eS)
theorem BI(i:Option Addr)(j:Nat)(b:List UInt8)(d:Nat)(s:aO F w (.slice i b.length j) b)(hF:∀q,F q -> q<w.heap.size)(y:d <= b.length)(z:b.length <= 400000):
 Calls aE 201 #[.slice i b.length j,.int .i64 (d:Int),.func (.func 202) #[] #[]] w (vH w b.length (rdL (b.drop d))):=by
 refine(rM (.inr (.inr rfl)) (λ_ _=>by go_simp) w F i j b d s hF ((rdL (b.drop d)).map λp=>b.length-p.2.length) (λv W=>∃p a c,rdL (b.drop d)=some p /\ v=.slice a p.1.length c /\ W.ownsRow (w.heap.size+4) 9 1 v p.1.length (p.1.map eS)) (λv _ ⟨p,a,c,_,h,_⟩=>⟨(a,_,c),h⟩) (λv W W' ⟨p,a,c,o,m,r⟩ n=>⟨p,a,c,o,m,jJ r n λq l=>by show ¬q<w.heap.size+4;omega⟩) λC u t A=>(BH C _ F i j b d u t (λq l e=>by have:=hF q l;omega) y z).mono ?_).mono ?_
 ·rintro e B ⟨h,n⟩;refine⟨?_,n⟩;cases f:rdL (b.drop d) with
  |none=>rw[f] at h;exact h
  |some p=>
   rw[f] at h;obtain⟨⟨v,rfl,g⟩,k,D,m⟩:=h;obtain rfl:k=b.length-p.2.length:=by omega
   obtain⟨a,c,rfl⟩:=aJ g;rw[A] at g;exact⟨_,rfl,⟨p,a,c,rfl,rfl,g⟩,m⟩
 ·rintro e B ⟨x,h⟩;refine⟨x,?_⟩;cases f:rdL (b.drop d) with
  |none=>rw[f] at h;exact h
  |some p=>
   rw[f] at h;obtain⟨v,rfl,q,a,c,l,rfl,g⟩:=h;obtain rfl:=Option.some.inj l;exact⟨a,c,rfl,Db g (by omega)⟩
theorem Dc(f:Option Addr)(g:Nat)(b:List UInt8)(d:Nat)(m:aO F w (.slice f b.length g) b)(hF:∀q,F q -> q<w.heap.size)(n:d <= b.length)(s:b.length <= 400000):
 Calls aE 159 #[.slice f b.length g,.int .i64 (d:Int)] w (vH w b.length (rdL (b.drop d))):=by
 have k:=BI w F f g b d m hF n s;obtain⟨o,i⟩:=aH (rdL (b.drop d));rw[i] at k⊢
 go_enter func159,ntmps159
 go_wp2_with fail;refine k.mono ?_;rintro e t j;cases o with
 |none=>
  obtain⟨h,rfl⟩:=j;go_wp2
  go_ret3
  exact⟨h,rfl⟩
 |some p=>
  obtain⟨l,r⟩:=p;obtain⟨h,a,c,rfl,i⟩:=j;go_wp2
  go_ret3
  exact⟨h,a,c,rfl,i⟩
end
section
open Go.Lib
attribute [local go_sem ↓] aU
attribute [local go_sem] opC upC
theorem qw(k:bQ)(h:k.length <= i):(bt k).length <= i+10:=by
 unfold bt;have:=cq k.length;rw[aA];omega
theorem sf(m:Nat):∀l:List bQ,(∀k∈l,k.length <= m) -> (l.flatMap bt).length <= l.length*(m+10)
 |[],_=>Nat.zero_le _
 |k::l,h=>by
  have b:=sf m l λx a=>h x (List.mem_cons_of_mem _ a)
  have c:=qw k (h k List.mem_cons_self);rw[List.flatMap_cons,aA,aD,Nat.succ_mul];omega
theorem xU{b r:List UInt8}{k:bQ}(h:rdT b=some (k,r)):r.length<b.length:=by
 unfold rdT at h;cases a:rdF b 9 with
 |none=>rw[a] at h;cases h
 |some p=>
  obtain⟨m,q⟩:=p;rw[a] at h;dsimp only at h;split at h
  ·obtain⟨rfl,rfl⟩:=Prod.mk.inj (Option.some.inj h);have:=jD a;rw[List.length_drop];omega
  ·cases h
theorem ut:∀(n:Nat)(r:List UInt8),r.length<n -> jH n r=none
 |0,r,h=>absurd h (Nat.not_lt_zero _)
 |n+1,r,h=>by
  unfold jH;cases e:rdT r with
  |none=>rfl
  |some p=>
   obtain⟨k,t⟩:=p;have:=xU e;dsimp only;rw[ut n t (by omega)];rfl
theorem Dd{b:List UInt8}{m:Nat}(a:b.length <= m):rdL b=match rdF b 9 with
 |none=>none
 |some (n,r)=>if n <= m then jH n r else none:=by
 unfold rdL;cases e:rdF b 9 with
 |none=>rfl
 |some p=>
  obtain⟨n,r⟩:=p;have:=jD e;dsimp only
  by_cases h:n <= r.length
  ·rw[if_pos h,if_pos (by omega)]
  ·rw[if_neg h];split
   ·rw[ut n r (by omega)]
   ·rfl
theorem xV(l:List bQ)(d:Rows F w 1 v l.length (l.map eS))(Y:l.length <= 1000)(j:∀k∈l,k.length <= 1000):
 Calls aE 184 #[v] w λe w'=>(∃r,e=.returned r /\ w'.ownsRow w.heap.size 5 1 r (eM l).length ((eM l).map B)) /\ Kpt w w':=by
 replace d:=d.mono (G:=λb=>b<w.heap.size) λb _ aa=>aa
 obtain⟨n,o⟩:=aH l.length;obtain⟨a,ak,rfl,-⟩:=d.shape;have K:=d;rw[o] at Y⊢;have hw:IntKind.u64.wrap (n:Int)=(n:Int):=IntWalk.u64_in _ (by omega);have J:=dS w n (by omega);have f:=o;have L:=j;have I:(l.flatMap bt).length <= 1010000:=au (sf 1000 l j) (by rw[o];omega)
 go_enter func184,ntmps184
 go_wp2_with fail;refine J.mono ?_;rintro e w1 ⟨⟨r1,rfl,ab⟩,z⟩
 have E:Out w w1 w.heap.size r1 (bY n):=⟨ab,z,z.size⟩
 go_wp2
 go_loopw [3,4] (λs i wr=>∃k:Nat,k <= n /\ i=.int .i64 (k:Int) /\ Out w wr w.heap.size s (bY n++(l.take k).flatMap bt)) (λ_ i _=>n-(intOf i).toNat)
 ·exact⟨0,by omega,rfl,by simpa using E⟩
 ·obtain⟨k,j,rfl,p⟩:=hrel;obtain⟨y,c⟩:=aH (bY n++(l.take k).flatMap bt);obtain⟨O,S⟩:=aH y.length;rw[c] at p;obtain⟨P,Q,C⟩:=aJ p.1;rw[S] at C;subst C
  have Z:y.length <= 1000000000:=by
   have h1:=cq n;have h2:=jp bt l k;have h3:=I;rw[<- c,aA];omega
  have M:=Z;have g:=p
  by_cases X:k<n
  ·have V:(k:Int)<(n:Int):=by omega
   have m:k<l.length:=by rw[f];exact X
   obtain⟨b,ao,rfl,-,-,U⟩:=fE (K.keep (w':=wr) λq hq _=>g.2.1.block q hq) (by omega);have R:=U k m;obtain⟨x,t⟩:=aH l[k];rw[t] at R;have ag:x.length <= 1000:=L x (by rw[<- t];exact aC m);have H:=l4 wr x (by omega);have N:=qw x ag;go_wp2_with fail;refine H.mono ?_;rintro e w7 ⟨⟨r7,rfl,A⟩,T⟩;obtain⟨b7,m7,c7,v7,an,ad,al⟩:=g.app T A (by have:=M;omega) (by have:=N;omega);obtain⟨x7,y7,D⟩:=aJ A;obtain⟨z7,ai⟩:=aH ((bt x).length);rw[ai] at D;subst D;go_wp2
   go_roundw
   ·exact⟨k+1,by omega,by go_num,by
    rw[kQ _ _ _ m,<- aB,c,t]
    exact ad⟩
   ·simp[intOf];omega
  ·have V:¬(k:Int)<(n:Int):=by omega
   have W:l.take k=l:=List.take_of_length_le (by rw[f];omega)
   have u:Out w wr w.heap.size (.slice P O Q) (eM l):=by
    have h:=g;rw[<- c,W,<- f] at h;exact h
   go_wp2
   go_ret
   exact⟨⟨_,rfl,u.1⟩,u.2.1⟩
theorem vI(z:Option Addr)(A:Nat)(b:List UInt8)(l:Nat)(S:aO F w (.slice z b.length A) b)(hk:l <= b.length)(hl:b.length <= 400000):
 Calls aE 191 #[.slice z b.length A,.int .i64 (l:Int)] w (vH w b.length (rdL (b.drop l))):=by
 have HB:∀W,Kpt w W -> aO (λq=>q<w.heap.size) W (.slice z b.length A) b:=λW hW=>by
  obtain⟨a,cp,e,h1,h2,h3,h4⟩:=S;refine⟨a,cp,e,h1,h2,h3,h4.imp id λ⟨bb,aX,L,t,fz,e1,_,R,aY⟩=>⟨bb,aX,L,t,fz,e1,lt_of_block R,(hW.block _ (lt_of_block R)).trans R,aY⟩⟩
 have u:=j6 w F z A b l S hk;obtain⟨h,al⟩:=aH (rdL (b.drop l));have d:=Dd (b:=b.drop l) (m:=b.length) (by rw[List.length_drop];omega);rw[al] at d⊢;obtain⟨n,M⟩:=aH b.length;obtain⟨o,N⟩:=aH (rdF (b.drop l) 9);have aK:ji b l=iw n o:=by unfold ji;rw[N,M]
 rw[aK] at u;rw[N] at d;rw[M] at u d hl hk⊢;have g:=M;have Ho:=N;clear aK al S M N;have a4:IntKind.u64.wrap (n:Int)=(n:Int):=IntWalk.u64_in _ (by omega);cases o with
 |none=>
  have⟨s,f⟩:=ae2 (show h=none from d) u;clear u d;unfold iw at f;dsimp only at f
  go_enter func191,ntmps191
  go_wp2_with fail;refine f.x.mono ?_;rintro e w1 ⟨rfl,x⟩;clear f;go_wp2
  go_ret3
  rw[s.x];exact⟨x,rfl⟩
 |some p=>
  obtain⟨m,r⟩:=p;have Y:=jD Ho;have Z:=k8 Ho;obtain⟨rl,ag⟩:=aH r.length;rw[ag,List.length_drop,g] at Y Z;obtain⟨D,az⟩:=aH (n-rl)
  have aS:=ae (show r=b.drop D by
   rw[Z.2,List.drop_drop]
   congr 1
   omega)
  have a2:=Y.2.2;have aP:=ae (show D <= n by omega)
  have an:iw n (some (m,r))=.tuple #[.int .u64 (m:Int),.int .i64 (D:Int),.bool true]:=by
   show Value.tuple #[.int .u64 (m:Int),.int .i64 ((n-r.length:Nat):Int),.bool true]=_;rw[ag,az]
  rw[an] at u;have f:=ae u;dsimp only at d;clear u Y Z ag an az
  by_cases K:m <= n
  ·have aV:¬(n:Int)<(m:Int):=by omega
   have a3:¬n<m:=by omega
   have a1:IntKind.i64.wrap (m:Int)=(m:Int):=af _ (by omega);have⟨aM,aZ⟩:=ae2 (show jH m (b.drop D)=h by rw[d,if_pos K,aS.x]) K;clear d K
   go_enter func191,ntmps191
   go_wp2_with fail;refine f.x.mono ?_;rintro e w1 ⟨rfl,x⟩;have aN:=ae x;clear f x;go_wp2
   go_loopw [8,10,11] (λkv ov i wr=>∃(j:Nat)(L:List bQ)(c:Nat),j <= m /\ L.length=j /\ i=.int .i64 (j:Int) /\ kv=.int .i64 (c:Int) /\ c <= n /\ (jH (m-j) (b.drop c)).map (λp=>(L++p.1,p.2))=h /\ wr.ownsRow w.heap.size 9 1 ov L.length (L.map eS) /\ Kpt w wr) (λ_ _ i _=>m-(intOf i).toNat)
   ·exact⟨0,[],D,by omega,rfl,rfl,rfl,aP.x,by rw[Nat.sub_zero,aM.x];cases h<;>rfl,World.ownsRow_nil _ _ _ _,aN.x⟩
   ·obtain⟨j,L,c,hj,T,rfl,rfl,aa,ax,v,X⟩:=hrel;obtain⟨ao,co,rfl⟩:=aJ v;have U:=oR wr _ z A b c (HB wr X) (by rw[g];exact aa);obtain⟨ot,ab⟩:=aH (rdT (b.drop c));have C:j5 b c=rL n ot:=by unfold j5;rw[ab,g]
    rw[C,g] at U;have⟨HT,I,Q,O,y,ak,H⟩:=ae7 U ab v ax X aa T;rw[T] at Q⊢;clear U ab C v ax X aa T
    by_cases a0:j<m
    ·have aT:(j:Int)<(m:Int):=by omega
     go_wp2_with fail;refine HT.x.mono ?_;rintro e G ⟨rfl,B⟩;clear HT
     obtain⟨m',J⟩:∃m',m-j=m'+1:=⟨m-j-1,by omega⟩
     cases ot with
     |none=>
      have s:=ae (show h=none by
       rw[<- O.x,J];unfold jH;rw[I.x]
       rfl)
      have Hb:=ae (show Kpt w G from y.x.trans (B.mono y.x.size));clear B J;unfold rL;dsimp only;go_wp2
      go_ret3
      rw[s.x];exact⟨Hb.x,rfl⟩
     |some p=>
      obtain⟨k,t⟩:=p;have aU:=ak.x;have aG:=xU I.x;rw[List.length_drop,g] at aG;obtain⟨E,aF⟩:=aH (n-t.length);have ht:t=b.drop E:=xT I.x (by rw[g];exact aU) (by rw[g];omega)
      have C:rL n (some (k,t))=.tuple #[.string ⟨k.toArray⟩,.int .i64 (E:Int),.bool true]:=by
       show Value.tuple #[.string ⟨k.toArray⟩,.int .i64 ((n-t.length:Nat):Int),.bool true]=_;rw[aF]
      rw[C]
      have hq:(jH (m-(j+1)) (b.drop E)).map (λp=>((L++[k])++p.1,p.2))=h:=by
       rw[<- O.x,J,show m-(j+1)=m' by omega]
       conv=>rhs;unfold jH
       rw[I.x];dsimp only;rw[ht,Option.map_map]
       congr 1
       funext p
       simp
      have v:=br Q.x B;have V:Kpt w G:=y.x.trans (B.mono y.x.size);have ai:=V.size;obtain⟨i0,t1,t2,t3,t4⟩:=info_parts AM;obtain⟨v5,w9,aW,ad,ay⟩:=cu (P:=aE) G w.heap.size 32 9 underlying32 t1 t2 t3 t4 rfl (by decide) (.slice ao j co) j _ v #[.string ⟨k.toArray⟩] rfl (by simp[Value.oneCell']) (by unfold maxLen;omega) (by omega) ai;obtain⟨a9,c9,rfl⟩:=aJ ad;have ar:Below w.heap.size G w9:=((Below.refl w.heap.size G).alloc ai _).trans (Below.grownOwn (br v (aI _ _)) ay (by simp;omega) (aq _))
      have Hf:=ae (show w9.ownsRow w.heap.size 9 1 (.slice a9 (j+1) c9) (L++[k]).length ((L++[k]).map eS) by
       rw[aA,List.map_append,H.x];exact ad)
      have⟨aL,Hq,aR⟩:=ae3 (V.trans ar) hq (show E <= n by omega);clear hq v V ai ad ay ar t1 t2 t3 t4 ht aF B C J aG;go_wp2;clear aW
      go_roundw
      ·exact⟨j+1,L++[k],E,by omega,by rw[aA,H.x];rfl,by go_num,rfl,aR.x,Hq.x,Hf.x,aL.x⟩
      ·simp[intOf];omega
    ·have aT:¬(j:Int)<(m:Int):=by omega
     obtain rfl:j=m:=by omega
     have s:=ae (show h=some (L,b.drop c) by
      rw[<- O.x,Nat.sub_self];show some (L++[],_)=_
      rw[List.append_nil])
     go_wp2
     go_ret3
     rw[s.x];refine⟨y.x,ao,co,?_,by rw[H.x];exact Q.x⟩;have:=ak.x;rw[List.length_drop,g,H.x,show n-(n-c)=c by omega];rfl
  ·have aV:(n:Int)<(m:Int):=by omega
   have s:=ae (show h=none by rw[d,if_neg K])
   go_enter func191,ntmps191
   go_wp2_with fail;refine f.x.mono ?_;rintro e w1 ⟨rfl,x⟩;go_wp2
   go_ret3
   rw[s.x];exact⟨x,rfl⟩
def encR(m:aT):List UInt8×Int:=if aV m then(cQ m,0) else([],5)
def AU(w:World)(r:List UInt8×Int)(e:Ending)(a:World):Prop:=(∃v,e=.returned (.tuple #[v,.int .i64 r.2]) /\ aO (λ_=>True) a v r.1) /\ Kpt w a
theorem uu(w:World):aO F w (.slice none 0 0) []:=⟨none,0,rfl,by simp,by unfold maxLen;omega,λ_=>rfl,.inl rfl⟩
theorem nz(h:aV r=true):mD r:=fG (cA h) (cX h).2.1 (cX h).2.2.1
theorem j8(N:eB w)(M:4 <= w.heap.size)(F:aQ)(v:Value)(m:aT)(h:di F w v m)(Q:∀x∈m.items,x.key.length <= 1000000)(P:∀x∈m.gone,x.key.length <= 1000000):
 Calls aE 79 #[v] w (AU w (encR m)):=by
 replace h:=h.mono (G:=λb=>b<w.heap.size) λb _ i=>i
 replace h:=jF h 37
 obtain⟨n,y,o,z,p,A,s,t,u,T,rfl,h,l1,l2,l3,E,H,I,J,d,L,l,k,U,V,W⟩:=h
 try rw[E.x]
 try rw[H.x]
 try rw[I.x]
 have j:=kZ T (bR N M d.x) (by rw[L.x];omega) _ (.agg #[.slice n s y,.slice o t z,.slice p u A]) m ⟨_,_,_,rfl,l.x⟩ Q P;obtain⟨S,q⟩:=aH (aV m);rw[q] at j;have f:=q
 go_enter func79,ntmps79
 go_wp2_with fail;rw[<- J.x];refine j.mono ?_;rintro e B ⟨rfl,g⟩;have c:=d.x.trans (g.mono d.x.size);obtain⟨X,Y,Z⟩:=aS (k.x.keep (g.block _ k.x.lt));have K:=l.x.keep (w':=B) λb _ i=>g.block b i
 cases S with
 |false=>
  have a:encR m=([],5):=by unfold encR;rw[f];rfl
  go_wp2;exact bodyPost_ret (v:=.tuple #[.slice none 0 0,.int .i64 5]) (by simp[results,results79,go_sem]) rfl ⟨⟨_,by rw[a],by rw[a];exact uu _ _⟩,c⟩
 |true=>
  have a:encR m=(cQ m,0):=by unfold encR;rw[f];rfl
  have C:=xq B _ (.agg #[.slice n s y,.slice o t z,.slice p u A]) m ⟨_,_,_,rfl,K⟩ (nz f);go_wp2_with fail;refine C.mono ?_;rintro e w4 ⟨⟨r,rfl,R⟩,O⟩;have D:=c.trans (O.mono c.size);go_wp2;exact bodyPost_ret (v:=.tuple #[r,.int .i64 0]) (by simp[results,results79,go_sem]) rfl ⟨⟨_,by rw[a],by rw[a];exact R⟩,D⟩
end
section
open Go.Lib
theorem xW(r:n<256):
 Calls aE 268 #[.int .u8 (n:Int)] w λe q=>e=.returned (.tuple #[.int .i64 ((dD n).1:Int),.int .i32 ((dD n).2:Int)]) /\ w=q:=by
 have s:(n:Int) <= 255:=by omega
 by_cases a:n<128
 ·have e:dD n=(1,n):=by unfold dD;rw[if_pos a]
  have o:(n:Int)<128:=by omega
  rw[e]
  go_enter func268,ntmps268
  go_wp2;go_ret2;exact⟨rfl,rfl⟩
 have o:¬(n:Int)<128:=by omega
 by_cases d:192 <= n /\ n<224
 ·have e:dD n=(2,n-192):=by unfold dD;rw[if_neg a,if_pos d]
  have f:192 <= (n:Int):=by omega
  have i:(n:Int)<224:=by omega
  have c:((n-192:Nat):Int)=(n:Int)-192:=by omega
  rw[e,c]
  go_enter func268,ntmps268
  go_wp2;go_ret2;exact⟨rfl,rfl⟩
 by_cases g:224 <= n /\ n<240
 ·have e:dD n=(3,n-224):=by unfold dD;rw[if_neg a,if_neg d,if_pos g]
  have f:192 <= (n:Int):=by omega
  have i:¬(n:Int)<224:=by omega
  have j:224 <= (n:Int):=by omega
  have l:(n:Int)<240:=by omega
  have c:((n-224:Nat):Int)=(n:Int)-224:=by omega
  rw[e,c]
  go_enter func268,ntmps268
  go_wp2;go_ret2;exact⟨rfl,rfl⟩
 by_cases k:240 <= n /\ n<248
 ·have e:dD n=(4,n-240):=by unfold dD;rw[if_neg a,if_neg d,if_neg g,if_pos k]
  have f:192 <= (n:Int):=by omega
  have i:¬(n:Int)<224:=by omega
  have j:224 <= (n:Int):=by omega
  have l:¬(n:Int)<240:=by omega
  have m:240 <= (n:Int):=by omega
  have p:(n:Int)<248:=by omega
  have c:((n-240:Nat):Int)=(n:Int)-240:=by omega
  rw[e,c]
  go_enter func268,ntmps268
  go_wp2;go_ret2;exact⟨rfl,rfl⟩
 ·have e:dD n=(0,0):=by unfold dD;rw[if_neg a,if_neg d,if_neg g,if_neg k]
  rw[e];have h:(n:Int)<192 \/ 248 <= (n:Int):=by omega
  rcases h with h|h
  ·have f:¬192 <= (n:Int):=by omega
   have j:¬224 <= (n:Int):=by omega
   have m:¬240 <= (n:Int):=by omega
   go_enter func268,ntmps268
   go_wp2;go_ret2;exact⟨rfl,rfl⟩
  ·have f:192 <= (n:Int):=by omega
   have i:¬(n:Int)<224:=by omega
   have j:224 <= (n:Int):=by omega
   have l:¬(n:Int)<240:=by omega
   have m:240 <= (n:Int):=by omega
   have p:¬(n:Int)<248:=by omega
   go_enter func268,ntmps268
   go_wp2;go_ret2;exact⟨rfl,rfl⟩
theorem BJ(m:n<2147483648):
 Calls aE 269 #[.int .i32 (n:Int)] w λe k=>e=.returned (.bool (rCh n)) /\ w=k:=by
 obtain⟨b,a⟩:=aH (rCh n);rw[a];have o:(n:Int) <= 2147483647:=by omega
 have l:0 <= (n:Int):=by omega
 unfold rCh at a
 by_cases d:n <= 1114111
 ·have h:(n:Int) <= 1114111:=by omega
  by_cases f:n<55296
  ·have i:(n:Int)<55296:=by omega
   obtain rfl:b=true:=by rw[<- a];simp[d,f]
   go_enter func269,ntmps269
   go_wp2
   go_ret
   exact⟨rfl,rfl⟩
  ·have i:¬(n:Int)<55296:=by omega
   by_cases g:57343<n
   ·have j:decide ((n:Int)>57343)=true:=by simp;omega
    obtain rfl:b=true:=by rw[<- a];simp[d,g]
    go_enter func269,ntmps269
    go_wp2
    go_ret
    exact⟨rfl,rfl⟩
   ·have j:decide ((n:Int)>57343)=false:=by simp;omega
    obtain rfl:b=false:=by rw[<- a];simp[f,g]
    go_enter func269,ntmps269
    go_wp2
    go_ret
    exact⟨rfl,rfl⟩
 ·have h:¬(n:Int) <= 1114111:=by omega
  obtain rfl:b=false:=by rw[<- a];simp[d]
  go_enter func269,ntmps269
  go_wp2
  go_ret
  exact⟨rfl,rfl⟩
def kF(b:Nat -> Nat)(a:Nat):Nat -> Nat
 |0=>a
 |k+1=>64*kF b a k+(b (k+1)-128)
def kG(n:Nat):Nat:=[0,0,128,2048,65536].getD n 0
def lE(b:Nat -> Nat)(n:Nat):Prop:=∀j,1 <= j -> j<n -> dT (b j)=true
theorem vJ(b:Nat -> Nat)(a:Nat):∀k,lE b (k+1) -> kF b a k<(a+1)*64 ^ k
 |0,_=>by simp[kF]
 |k+1,h=>by
  have f:=vJ b a k λj d g=>h j d (by omega)
  have c:=h (k+1) (by omega) (by omega);unfold dT at c;simp only[decide_eq_true_eq] at c;have e:(a+1)*64 ^ (k+1)=64*((a+1)*64 ^ k):=by rw[Nat.pow_succ];ac_rfl
  rw[e];show 64*kF b a k+(b (k+1)-128)<_;omega
theorem nU(a:n<256):((dD n).1=0 /\ (dD n).2=0) \/ ((dD n).1=1 /\ (dD n).2=n /\ n<128) \/ ((dD n).1=2 /\ (dD n).2 <= 31) \/ ((dD n).1=3 /\ (dD n).2 <= 15) \/ ((dD n).1=4 /\ (dD n).2 <= 7):=by
 unfold dD
 repeat' split
 all_goals (dsimp only;omega)
theorem EI(b:Nat -> Nat)(c:b 0<256)(k:Nat)(h:lE b (k+1))(f:k+1<(dD (b 0)).1):kF b (dD (b 0)).2 k <= 32767:=by
 have a:=vJ b (dD (b 0)).2 k h;have e:=nU (b 0) c;have d:k=0 \/ k=1 \/ k=2:=by omega
 rcases d with rfl|rfl|rfl
 ·simp at a;omega
 ·simp at a;omega
 ·simp at a;omega
theorem EJ(b:Nat -> Nat)(f:b 0<256)(h:lE b (dD (b 0)).1)(d:(dD (b 0)).1≠0):kF b (dD (b 0)).2 ((dD (b 0)).1-1) <= 2097151:=by
 have c:=vJ b (dD (b 0)).2 ((dD (b 0)).1-1) (by rw[Nat.sub_add_cancel (by omega)];exact h);have g:=nU (b 0) f;rcases g with⟨e,_⟩|⟨e,i,a⟩|⟨e,a⟩|⟨e,a⟩|⟨e,a⟩
 ·exact absurd e d
 all_goals (rw[e] at c⊢;simp at c⊢;omega)
theorem nV(b:Nat -> Nat)(k:1 <= n):
 jy n (b 0) (b 1) (b 2) (b 3)=if(dD (b 0)).1=0 \/ n<(dD (b 0)).1 then(0,0) else
  if decide ((dD (b 0)).1<2 \/ dT (b 1)=true)&&decide ((dD (b 0)).1<3 \/ dT (b 2)=true)&&decide ((dD (b 0)).1<4 \/ dT (b 3)=true) then
   (if kG (dD (b 0)).1 <= kF b (dD (b 0)).2 ((dD (b 0)).1-1) /\ rCh (kF b (dD (b 0)).2 ((dD (b 0)).1-1))=true then(kF b (dD (b 0)).2 ((dD (b 0)).1-1),(dD (b 0)).1) else(0,0)) else(0,0):=by
 unfold dD jy
 by_cases e:b 0<128
 ·have j:rCh (b 0)=true:=by unfold rCh;simp;omega
  simp only[if_pos e];simp[kG,kF,j];omega
 simp only[if_neg e]
 by_cases f:192 <= b 0 /\ b 0<224
 ·simp only[if_pos f]
  by_cases a:2 <= n
  ·by_cases c:dT (b 1)=true
   ·simp[kG,kF,a,c,Nat.not_lt.2 a]
   ·simp[c]
  ·simp[a,Nat.not_le.1 a]
 simp only[if_neg f]
 by_cases g:224 <= b 0 /\ b 0<240
 ·simp only[if_pos g]
  by_cases a:3 <= n
  ·by_cases c:dT (b 1)=true
   ·by_cases d:dT (b 2)=true
    ·simp[kG,kF,a,c,d,Nat.not_lt.2 a]
    ·simp[d]
   ·simp[c]
  ·simp[a,Nat.not_le.1 a]
 simp only[if_neg g]
 by_cases h:240 <= b 0 /\ b 0<248
 ·simp only[if_pos h]
  by_cases a:4 <= n
  ·by_cases c:dT (b 1)=true
   ·by_cases d:dT (b 2)=true
    ·by_cases i:dT (b 3)=true
     ·simp[kG,kF,a,c,d,i,Nat.not_lt.2 a]
     ·simp[i]
    ·simp[d]
   ·simp[c]
  ·simp[a,Nat.not_le.1 a]
 ·simp[if_neg h]
theorem qx(b:Nat -> Nat)(L:Nat)(f:L <= 4):(decide (L<2 \/ dT (b 1)=true)&&decide (L<3 \/ dT (b 2)=true)&&decide (L<4 \/ dT (b 3)=true))=true↔lE b L:=by
 simp only[Bool.and_eq_true,decide_eq_true_eq];constructor
 ·rintro⟨⟨c,d⟩,e⟩ j g i;have:j=1 \/ j=2 \/ j=3:=by omega
  rcases this with rfl|rfl|rfl
  ·exact c.resolve_left (by omega)
  ·exact d.resolve_left (by omega)
  ·exact e.resolve_left (by omega)
 ·intro h;refine⟨⟨?_,?_⟩,?_⟩
  ·rcases Nat.lt_or_ge L 2 with a|a
   ·exact .inl a
   ·exact .inr (h 1 (by omega) (by omega))
  ·rcases Nat.lt_or_ge L 3 with a|a
   ·exact .inl a
   ·exact .inr (h 2 (by omega) (by omega))
  ·rcases Nat.lt_or_ge L 4 with a|a
   ·exact .inl a
   ·exact .inr (h 3 (by omega) (by omega))
theorem AW:(dD n).1 <= 4:=by
 unfold dD
 repeat' split
 all_goals simp
theorem sk(b:Nat -> Nat)(a:1 <= n)(h:(dD (b 0)).1=0 \/ n<(dD (b 0)).1):jy n (b 0) (b 1) (b 2) (b 3)=(0,0):=by
 rw[nV n b a,if_pos h]
theorem oY(b:Nat -> Nat)(c:1 <= n)(h:¬lE b (dD (b 0)).1):jy n (b 0) (b 1) (b 2) (b 3)=(0,0):=by
 rw[nV n b c];split
 ·rfl
 ·rw[if_neg (λa=>h ((qx b _ (AW _)).1 a))]
theorem BK(b:Nat -> Nat)(a:1 <= n)(h:lE b (dD (b 0)).1)(c:(dD (b 0)).1≠0)(d:(dD (b 0)).1 <= n):
 jy n (b 0) (b 1) (b 2) (b 3)=if kG (dD (b 0)).1 <= kF b (dD (b 0)).2 ((dD (b 0)).1-1) /\ rCh (kF b (dD (b 0)).2 ((dD (b 0)).1-1))=true then(kF b (dD (b 0)).2 ((dD (b 0)).1-1),(dD (b 0)).1) else(0,0):=by
 rw[nV n b a,if_neg (by omega),if_pos ((qx b _ (AW _)).2 h)]
def bAt(l:List UInt8)(a:Nat):Nat -> Nat:=λj=>(l.getD (a+j) 0).toNat
theorem FB(a j:Nat):bAt b a j<256:=UInt8.toNat_lt _
theorem De(a:Nat)(h:a<b.length):jz (b.drop a)=jy (b.length-a) (bAt b a 0) (bAt b a 1) (bAt b a 2) (bAt b a 3):=by
 unfold jz bAt
 have e:∀j,(b.drop a).getD j 0=b.getD (a+j) 0:=λj=>by
  rw[List.getD_eq_getElem?_getD,List.getD_eq_getElem?_getD,List.getElem?_drop]
 rw[e,e,e,e,List.length_drop]
theorem Df(i:Nat)(h:i<(⟨b.toArray⟩:ByteArray).size):((⟨b.toArray⟩:ByteArray)[i]'h).toNat=(b.getD i 0).toNat:=by
 have a:i<b.length:=h;rw[List.getD_eq_getElem?_getD,List.getElem?_eq_getElem a];rfl
def zF(w:World)(r:Nat×Nat)(e:Ending)(a:World):Prop:=e=.returned (.tuple #[.int .i32 (r.1:Int),.int .i64 (r.2:Int)]) /\ Kpt w a
theorem BL(l:List UInt8)(d:Nat)(hp:d<l.length)(hl:l.length <= 4611686018427387903):
 Calls aE 267 #[.string ⟨l.toArray⟩,.int .i64 (d:Int)] w (zF w (jz (l.drop d))):=by
 obtain⟨R,C⟩:=aH (jz (l.drop d));rw[C];rw[De l d hp] at C;have t:=FB l d;obtain⟨b,H⟩:=aH (bAt l d);rw[H] at C t;have⟨z,F⟩:=ae2 C (xW w (b 0) (t 0));have o:=nU (b 0) (t 0);obtain⟨L,G⟩:=aH ((dD (b 0)).1);obtain⟨B,K⟩:=aH ((dD (b 0)).2);have I:∀j (h:d+j<(⟨l.toArray⟩:ByteArray).size),((⟨l.toArray⟩:ByteArray)[d+j]'h).toNat=b j:=λj h=>by rw[Df,<- H];rfl
 have S:∀h:d<(⟨l.toArray⟩:ByteArray).size,((⟨l.toArray⟩:ByteArray)[d]'h).toNat=b 0:=λh=>I 0 h
 rw[G,K] at F o;have⟨i,P,ab,aa⟩:=ae4 G K I S;have ay:(d:Int)<(l.length:Int):=by omega
 have az:¬(d:Int) ≥ (l.length:Int):=by omega
 have ax:¬(d:Int)<0:=by omega
 clear C G K H I S
 go_enter func267,ntmps267
 go_wp2_with fail;simp only[aa.x];refine F.x.mono ?_;rintro e p ⟨rfl,rfl⟩;clear F
 by_cases u:L=0
 ·have q:=ae (show R=(0,0) by rw[<- z.x];exact sk _ b (by omega) (.inl (by rw[i.x];exact u)));subst u;go_wp2;go_ret2;exact⟨by rw[q.x];rfl,Below.refl _ _⟩
 have ar:L <= 4:=by omega
 by_cases Q:l.length-d<L
 ·have q:=ae (show R=(0,0) by rw[<- z.x];exact sk _ b (by omega) (.inr (by rw[i.x];exact Q)));have g0:((L:Int) == 0)=false:=by simp;exact u
  have g1:decide ((L:Int)>(l.length:Int)-(d:Int))=true:=by simp;omega
  clear Q o;go_wp2;go_ret2;exact⟨by rw[q.x];rfl,Below.refl _ _⟩
 have g0:((L:Int) == 0)=false:=by simp;exact u
 have g1:decide ((L:Int)>(l.length:Int)-(d:Int))=false:=by simp;omega
 have ao:=ae o;clear o;go_wp2
 go_loop [7,8] (λcv O=>∃k:Nat,1 <= k /\ k <= L /\ O=.int .i64 (k:Int) /\ cv=.int .i32 (kF b B (k-1):Int) /\ lE b k) (λ_ O=>L-(intOf O).toNat)
 ·exact⟨1,by omega,by omega,rfl,rfl,λj s h2=>by omega⟩
 ·obtain⟨k,s,hk,rfl,rfl,x⟩:=hrel
  by_cases N:k<L
  ·have an:(k:Int)<(L:Int):=by omega
   have V:=EI b (t 0) (k-1) (by rw[Nat.sub_add_cancel s];exact x) (by rw[Nat.sub_add_cancel s,i.x];exact N);rw[P.x] at V;have ag:=t k;have T:b k<128 \/ 191<b k \/ (128 <= b k /\ b k <= 191):=by omega
   have ks:((d:Int)+(k:Int)).toNat=d+k:=by omega
   obtain⟨a,v⟩:=aH (kF b B (k-1));rw[v] at V⊢;obtain⟨r,J⟩:=aH (b k);rw[J] at ag T;have⟨A,Z,ad⟩:=ae3 J v x;have av:∀h:d+k<(⟨l.toArray⟩:ByteArray).size,((⟨l.toArray⟩:ByteArray)[d+k]'h).toNat=r:=λh=>by rw[ab.x,A.x]
   clear v J x;rcases T with X|X|X
   ·have Y:(r:Int)<128:=by omega
    have q:=ae (show R=(0,0) by
     rw[<- z.x];refine oY _ b (by omega) (λo=>?_);have:=o k s (by rw[i.x];exact N);unfold dT at this;simp only[decide_eq_true_eq] at this;rw[A.x] at this
     omega)
    go_wp2;go_ret2;exact⟨by rw[q.x];rfl,Below.refl _ _⟩
   ·have Y:¬(r:Int)<128:=by omega
    have x2:decide ((r:Int)>191)=true:=by simp;omega
    have q:=ae (show R=(0,0) by
     rw[<- z.x];refine oY _ b (by omega) (λo=>?_);have:=o k s (by rw[i.x];exact N);unfold dT at this;simp only[decide_eq_true_eq] at this;rw[A.x] at this
     omega)
    go_wp2;go_ret2;exact⟨by rw[q.x];rfl,Below.refl _ _⟩
   ·have Y:¬(r:Int)<128:=by omega
    have x2:decide ((r:Int)>191)=false:=by simp;omega
    go_wp2_with fail;refine⟨⟨k+1,by omega,by omega,by go_num,?_,λj ai ak=>?_⟩,by simp[intOf];omega⟩
    ·have e:kF b B (k+1-1)=64*a+(r-128):=by
      rw[show k+1-1=(k-1)+1 by omega];show 64*kF b B (k-1)+(b (k-1+1)-128)=_;rw[Z.x,Nat.sub_add_cancel s,A.x]
     rw[e]
     congr 1
     omega
    ·rcases Nat.lt_succ_iff_lt_or_eq.1 ak with h|h
     ·exact ad.x j ai h
     ·subst h;unfold dT;rw[A.x];simp only[decide_eq_true_eq];omega
  ·have an:¬(k:Int)<(L:Int):=by omega
   obtain rfl:k=L:=by omega
   have U:=EJ b (t 0) (by rw[i.x];exact x) (by rw[i.x];exact u);have c:=BK (l.length-d) b (by omega) (by rw[i.x];exact x) (by rw[i.x];exact u) (by rw[i.x];omega);rw[i.x,P.x] at U c;rw[z.x] at c;obtain⟨a,v⟩:=aH (kF b B (k-1));rw[v] at U c⊢;have⟨g,D⟩:=ae2 (BJ (w.alloc (.cells #[.int .i32 0,.int .i32 0,.int .i32 128,.int .i32 2048,.int .i32 65536] 21)) a (by omega)) c;clear v x c;have al:k=1 \/ k=2 \/ k=3 \/ k=4:=by omega
   obtain⟨E,M⟩:=aH (rCh a);rw[M] at g;have n:=ae M;clear M;rcases al with rfl|rfl|rfl|rfl
   ·
    have c:=D.x;simp only[kG] at c;have m:0 <= a:=Nat.zero_le _;have y:¬(a:Int)<0:=by omega
    cases E with
    |true=>
     have f:=ae (show R=_ from c.trans (if_pos ⟨m,n.x⟩));clear c;go_wp2_with fail;refine g.x.mono ?_;rintro e p ⟨rfl,rfl⟩;go_wp2;go_ret2;exact⟨by rw[f.x];rfl,aI _ _⟩
    |false=>
     have f:=ae (show R=_ from c.trans (if_neg (λh=>by rw[n.x] at h;exact absurd h.2 (by decide))));clear c;go_wp2_with fail;refine g.x.mono ?_;rintro e p ⟨rfl,rfl⟩;go_wp2;go_ret2;exact⟨by rw[f.x];rfl,aI _ _⟩
   ·
    have c:=D.x;simp only[kG] at c
    by_cases m:128 <= a
    ·have y:¬(a:Int)<128:=by omega
     cases E with
     |true=>
      have f:=ae (show R=_ from c.trans (if_pos ⟨m,n.x⟩));clear c;go_wp2_with fail;refine g.x.mono ?_;rintro e p ⟨rfl,rfl⟩;go_wp2;go_ret2;exact⟨by rw[f.x];rfl,aI _ _⟩
     |false=>
      have f:=ae (show R=_ from c.trans (if_neg (λh=>by rw[n.x] at h;exact absurd h.2 (by decide))));clear c;go_wp2_with fail;refine g.x.mono ?_;rintro e p ⟨rfl,rfl⟩;go_wp2;go_ret2;exact⟨by rw[f.x];rfl,aI _ _⟩
    ·have y:(a:Int)<128:=by omega
     have W:0<128:=by omega
     have f:=ae (show R=_ from c.trans (if_neg (λh=>m h.1)));clear c g;go_wp2;go_ret2;exact⟨by rw[f.x];rfl,aI _ _⟩
   ·
    have c:=D.x;simp only[kG] at c
    by_cases m:2048 <= a
    ·have y:¬(a:Int)<2048:=by omega
     cases E with
     |true=>
      have f:=ae (show R=_ from c.trans (if_pos ⟨m,n.x⟩));clear c;go_wp2_with fail;refine g.x.mono ?_;rintro e p ⟨rfl,rfl⟩;go_wp2;go_ret2;exact⟨by rw[f.x];rfl,aI _ _⟩
     |false=>
      have f:=ae (show R=_ from c.trans (if_neg (λh=>by rw[n.x] at h;exact absurd h.2 (by decide))));clear c;go_wp2_with fail;refine g.x.mono ?_;rintro e p ⟨rfl,rfl⟩;go_wp2;go_ret2;exact⟨by rw[f.x];rfl,aI _ _⟩
    ·have y:(a:Int)<2048:=by omega
     have W:0<2048:=by omega
     have f:=ae (show R=_ from c.trans (if_neg (λh=>m h.1)));clear c g;go_wp2;go_ret2;exact⟨by rw[f.x];rfl,aI _ _⟩
   ·
    have c:=D.x;simp only[kG] at c
    by_cases m:65536 <= a
    ·have y:¬(a:Int)<65536:=by omega
     cases E with
     |true=>
      have f:=ae (show R=_ from c.trans (if_pos ⟨m,n.x⟩));clear c;go_wp2_with fail;refine g.x.mono ?_;rintro e p ⟨rfl,rfl⟩;go_wp2;go_ret2;exact⟨by rw[f.x];rfl,aI _ _⟩
     |false=>
      have f:=ae (show R=_ from c.trans (if_neg (λh=>by rw[n.x] at h;exact absurd h.2 (by decide))));clear c;go_wp2_with fail;refine g.x.mono ?_;rintro e p ⟨rfl,rfl⟩;go_wp2;go_ret2;exact⟨by rw[f.x];rfl,aI _ _⟩
    ·have y:(a:Int)<65536:=by omega
     have W:0<65536:=by omega
     have f:=ae (show R=_ from c.trans (if_neg (λh=>m h.1)));clear c g;go_wp2;go_ret2;exact⟨by rw[f.x];rfl,aI _ _⟩
end
end Go.Proofs.YtobjdpngnfbicaaGreatDoor
