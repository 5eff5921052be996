/-
  RefDisk8 RJ3
-/
import Derived.Test.YtobjdpngnfbicaaGreatDoorZO15
open Go.Lib renaming hid->ae
open Go.IntWalk renaming i64_in->af
open Nat renaming le_refl->aq,lt_of_lt_of_le->aw
open List renaming getElem_mem->aC
open Go.Proofs.Tryz renaming prog->aE
set_option maxHeartbeats 4000000
set_option maxRecDepth 100000
set_option linter.all false
namespace Go.Proofs.YtobjdpngnfbicaaGreatDoor
open Go.RowKit
open Tryz
variable(w w9:World)(F:aX)(n:Nat)(v:Value){W w':World}{G:aX}{u:Value}{i j o:Nat}{l:List UInt8}{N:MD}{t:TypeId}
section
attribute [local go_sem ↓] aV
structure RK where
 d:Nat
 bs:Nat
 R:aX
def RK.foot(K:RK):aX:=fun k=>k=K.d \/ k=K.bs
def RK.all(K:RK):aX:=fun k=>k=K.d \/ k=K.bs \/ K.R k
structure cB(w:World)(K:RK)(M:MD):Prop where
 ne:K.d≠K.bs
 apart:∀b,K.R b -> b≠K.d /\ b≠K.bs /\ b<w.heap.size
 len:M.S.length <= 65536
 main:∃(cap:Nat)(after:Int)(tv:Value),M.S.length <= cap /\ cap <= maxLen /\
  Blk w K.d [.slice (some ⟨K.bs,0,none⟩) M.S.length cap,.bool M.down,.bool M.fault.isSome,.int .i64 after,tv,.int .i64 (M.writes:Int)] 117 /\
  (∃L,Blk w K.bs L 41 /\ L.length=cap /\ ∀i (h:i<M.S.length),∃v,L[i]?=some v /\ aO K.R w v M.S[i]) /\
  (∃ct,aO K.R w tv ct /\ ct.length <= 140737488355328 /\ ∀k t,M.fault=some (k,t) -> after=(k:Int) /\ ct=t) /\ (-9223372036854775808 <= after /\ after <= 9223372036854775807)
 s64:∀s∈M.S,s.length=64
 f64:∀k t,M.fault=some (k,t) -> t.length=64 /\ k <= 9223372036854775807
theorem cB.lt{w:World}{K:RK}{M:MD}(h:cB w K M):∀b,K.all b -> b<w.heap.size:=by
 obtain⟨f,e,j,g,i,d,⟨L,a,_⟩,_⟩:=h.main;rintro b (rfl|rfl|c)
 ·exact d.lt
 ·exact a.lt
 ·exact(h.apart b c).2.2
theorem cB.keep{w w':World}{K:RK}{M:MD}(h:cB w K M)(c:∀b,K.all b -> w'.heap[b]?=w.heap[b]?)(A:w.heap.size <= w'.heap.size):cB w' K M:=by
 obtain⟨j,d,k,⟨f,e,C,s,y,q,⟨L,n,o,z⟩,⟨g,u,t,x⟩,p⟩,l,m⟩:=h;refine⟨j,fun b a=>⟨(d b a).1,(d b a).2.1,aw (d b a).2.2 A⟩,k,⟨f,e,C,s,y,q.keep (c _ (.inl rfl)),⟨L,n.keep (c _ (.inr (.inl rfl))),o,fun i hi=>?_⟩,⟨g,u.keep (fun b a _=>c b (.inr (.inr a))),t,x⟩,p⟩,l,m⟩;obtain⟨v,B,r⟩:=z i hi;exact⟨v,B,r.keep fun b a _=>c b (.inr (.inr a))⟩
theorem cB.kept{K:RK}(h:cB W K N)(a:Below W.heap.size W w'):cB w' K N:=
 h.keep (fun b c=>a.block b (h.lt b c)) a.size
theorem cB.only{K:RK}{F:aX}(h:cB W K N)(c:aT F W w')(d:∀b,K.all b -> ¬F b):cB w' K N:=
 h.keep (fun b a=>c.block b (h.lt b a) (d b a)) c.size
/- The reference disk: Write, Fail, Up. -/
end
section
attribute [local go_sem ↓] aV
attribute [local go_sem] opC upC told bG br bH bt bw bI bJ
theorem uT(K:RK)(M:MD)(i:Int)(v:Value)(h:cB w K M)(b:M.chk i≠0):
 Calls aE 70 #[.pointer (some ⟨K.d,0,none⟩),.int .i64 i,v] w fun e l=>e=.returned (.int .i64 (M.chk i)) /\ w=l:=by
 obtain⟨o,m,t,p,r,a,-⟩:=h.main;have c:=a.cell 0;have f:=a.cell 1;simp at c f;have s:M.S.length <= 9223372036854775807:=by have:=h.len;omega
 unfold MD.chk at *;clear h a;generalize M.down=g at *;generalize M.S.length=n at *;cases g
 ·simp only[Bool.false_eq_true,if_false] at b⊢;have j:¬(0 <= i /\ i<(n:Int)):=fun k=>b (by rw[if_pos k])
  rw[if_neg j]
  by_cases hi:i<0
  all_goals
   go_enter func70,ntmps70
   try (have q:(n:Int) <= i:=by omega)
   go_wp2_with fail
   go_ret
   exact⟨rfl,rfl⟩
 ·go_enter func70,ntmps70
  go_wp2_with fail
  go_ret
  exact⟨rfl,rfl⟩
/- The reference disk: Write with no fault. -/
end
section
attribute [local go_sem ↓] aV
attribute [local go_sem] opC upC told bG br bH bt bw bI bJ
def RK.grow(K:RK)(a hi:Nat):RK:={ K with R:=fun b=>K.R b \/ (a <= b /\ b<hi) }
theorem sJ(K:RK)(M:MD)(h:cB w K M)(J:M.fault=none)(i:Nat)(hi:i<M.S.length)(I:M.down=false)(hw:M.writes<4611686018427387904)(F:aX)(v:Value)(l:List UInt8)(C:aO F w v l)(hl:l.length=64):
 Calls aE 70 #[.pointer (some ⟨K.d,0,none⟩),.int .i64 (i:Int),v] w fun e c=>e=.returned (.int .i64 0) /\
  cB c (K.grow w.heap.size c.heap.size) { M with S:=M.S.set i l,writes:=M.writes+1 } /\ aT K.foot w c:=by
 have ad:=h.lt;obtain⟨u,m,h3,⟨V,an,tv,hc,hm,p,⟨L,A,av,hs⟩,⟨ct,aK,aJ,hf⟩,ha⟩,X,Y⟩:=h;rw[I,J] at p;have aN:=C;obtain⟨a,W,rfl,aR,aS,-,-⟩:=C;have Q:=p.lt;have aM:=A.lt;have U:=p.cell 0;have c1:=p.cell 1;have c2:=p.cell 2;simp at U c1 c2;have Z:aO F (w.alloc (.cells #[] 5)).drew (.slice a l.length W) l:=aN.keep fun b _ p=>Below.heap_alloc w _ _ p
 obtain⟨v',n,hr,z,q⟩:=cY (w.alloc (.cells #[] 5)).drew w.heap.size (.slice (some ⟨w.heap.size,0,none⟩) 0 0) []
  ⟨rfl,.inr ⟨w.heap.size,0,#[],rfl,aq _,by unfold World.alloc World.drew;simp,aq _,by unfold maxLen;omega,rfl,rfl⟩⟩ F (.slice a l.length W) l Z (by simp;omega) (by simp)
 rw[List.nil_append] at z;have aa:aO (fun b=>w.heap.size <= b /\ b<n.heap.size) n v' l:=aO.of_owns z _ (fun k u m=>⟨u,m⟩);obtain⟨g,r,rfl,-⟩:=mN z (by omega);have P:Below w.heap.size w n:=((Below.refl _ _).alloc (aq _) _).drew.grown q (by simp) (fun k O=>by have aW:w.drew.heap.size=w.heap.size:=rfl;simp[Value.ownBlock] at O;omega);have ay:=p.keep (P.block K.d Q);have E:=A.keep (P.block K.bs aM);have cL:=E.cell i;have fL:=E.free i;have aL:i<L.length:=by omega
 rw[List.getElem?_eq_getElem aL] at cL;have H:=ay.set_other (a:=⟨K.bs,i,none⟩) (.slice (some ⟨g,0,none⟩) l.length r) u;have ao:=E.set i (.slice (some ⟨g,0,none⟩) l.length r);have c5:=H.cell 5;have f5:=H.free 5;simp at c5;generalize ab:l.length=ln at *;obtain rfl:ln=64:=hl;have HL:=ae ab;clear ab;have aU:(i:Int)<(M.S.length:Int):=by omega
 have aV:M.S.length <= 9223372036854775807:=by omega
 have H2:=ae m;have Hs:=ae hs;have Hf:=ae hf;have H5:=ae X;have H6:=ae Y;have al:=ae J;have ak:=ae I;have aP:=ae ad
 have k1:bL (fun b=>b=K.bs \/ w.heap.size <= b) (w.alloc (.cells #[] 5)).drew n:=⟨q.os,q.tape,q.output,q.size,fun k O hn=>q.block k O (fun e=>hn (.inr (by simp[Value.ownBlock] at e;omega)))⟩
 have ai:=ae aa;clear aa;have k2:bL (fun b=>b=K.bs \/ w.heap.size <= b) n (n.setCell ⟨K.bs,i,none⟩ (.slice (some ⟨g,0,none⟩) 64 r)):=(aT.refl _ _).setCell (.inl (.inl rfl)) _;clear m hs hf X Y J I ad q Z;have aQ:=ae z;clear z;have k0:bL (fun b=>b=K.bs \/ w.heap.size <= b) w.drew (w.alloc (.cells #[] 5)).drew:=bL.of_below (aI w.drew (.cells #[] 5))
 go_enter func70,ntmps70
 go_wp2_with fail
 have q0:∀c,bL (fun b=>b=K.bs \/ w.heap.size <= b) w.drew c -> c.cell? ⟨K.d,0,none⟩=some (.slice (some ⟨K.bs,0,none⟩) M.S.length V):=fun c hh=>by
  rw[World.cell?_of_block (w:=w) (a:=⟨K.d,0,none⟩) (hh.block K.d Q (fun e=>e.elim u (fun e=>absurd Q (by omega))))];exact U
 refine bS (bL (fun b=>b=K.bs \/ w.heap.size <= b)) (up 5 [6,505,507,8,509]) (by kernel_rfl) ?_;apply aG;rfl;intro c D;go_simp;exact aF;refine bq rfl rfl (fun x o=>?_);go_simp;refine o _ _ ?_;clear o x;go_simp;apply aG;rfl;intro c D;go_simp;exact aF;refine bq rfl rfl (fun x o=>?_);go_simp;refine o _ _ ?_;clear o x;go_simp;apply aG;rfl;intro c D;go_simp;exact aF;refine bq rfl rfl (fun x o=>?_);go_simp;refine o _ _ ?_;clear o x;go_simp;apply aG;rfl;intro c D;go_simp;exact aF;refine aY ?_;go_simp;go_wp2_with fail
 go_ret
 have A:=HL.out;have m:=H2.out;have B:aT K.foot w ((n.setCell ⟨K.bs,i,none⟩ (.slice (some ⟨g,0,none⟩) 64 r)).setCell ⟨K.d,5,none⟩ (.int .i64 (M.writes+1))):=((aT.of_below P).setCell (.inl (.inr rfl)) _).setCell (.inl (.inl rfl)) _;have ag:aT K.foot n ((n.setCell ⟨K.bs,i,none⟩ (.slice (some ⟨g,0,none⟩) 64 r)).setCell ⟨K.d,5,none⟩ (.int .i64 (M.writes+1))):=((aT.refl _ _).setCell (.inl (.inr rfl)) _).setCell (.inl (.inl rfl)) _;have az:=H.set 5 (.int .i64 (M.writes+1));have ar:=ao.set_other (a:=⟨K.d,5,none⟩) (.int .i64 (M.writes+1)) (Ne.symm u);generalize((n.setCell ⟨K.bs,i,none⟩ (.slice (some ⟨g,0,none⟩) 64 r)).setCell ⟨K.d,5,none⟩ (.int .i64 (M.writes+1)))=T at *;refine⟨rfl,⟨u,?_,by simpa using h3,⟨V,an,tv,by simpa using hc,hm,by simpa[RK.grow,ak.out,al.out] using az,⟨_,ar,by simpa using av,?_⟩,⟨ct,?_,aJ,fun k t hh=>Hf.out k t hh⟩,ha⟩,?_,H6.out⟩,B⟩
 ·rintro b (f|⟨f,ax⟩)
  ·exact⟨(m b f).1,(m b f).2.1,aw (m b f).2.2 B.size⟩
  ·exact⟨fun e=>by simp[RK.grow] at e;omega,fun e=>by simp[RK.grow] at e;omega,ax⟩
 ·intro j hj;simp at hj
  by_cases N:i=j
  ·subst N;refine⟨_,by rw[List.getElem?_set_self (by omega)],?_⟩;simp only[List.getElem_set_self];refine(ai.out.keep (w':=T) fun b G y=>ag.block b y (by rintro(e|e)<;>omega)).mono fun b G=>.inr ⟨G.1,aw G.2 ag.size⟩
  ·obtain⟨v,C,aH⟩:=Hs.out j (by omega);refine⟨v,by rw[List.getElem?_set_ne N];exact C,?_⟩;simp only[List.getElem_set_ne N];exact(aH.keep (w':=T) fun b f y=>B.block b y (by have:=m b f;rintro(e|e)<;>simp_all)).mono fun b f=>.inl f
 ·exact(aK.keep (w':=T) fun b f y=>B.block b y (by have:=m b f;rintro(e|e)<;>simp_all)).mono fun b f=>.inl f
 ·intro s R;rcases List.mem_or_eq_of_mem_set R with R|rfl
  ·exact H5.out s R
  ·exact A
/- The reference disk: Write with a fault. -/
end
section
attribute [local go_sem ↓] aV
attribute [local go_sem] opC upC told bG br bH bt bw bI bJ
theorem sK(K:RK)(M:MD)(h:cB w K M)(t:List UInt8)(p:M.fault=some (0,t))(i:Nat)(hi:i<M.S.length)(x:M.down=false)(a:Option Addr)(X:Nat):
 Calls aE 70 #[.pointer (some ⟨K.d,0,none⟩),.int .i64 (i:Int),.slice a 64 X] w fun e B=>e=.returned (.int .i64 341) /\
  cB B K { M with S:=M.S.set i t,fault:=none,down:=true } /\ aT K.foot w B /\ B.heap.size=w.heap.size:=by
 obtain⟨n,c,Y,⟨W,ao,tv,hc,hm,g,⟨L,o,ab,G⟩,⟨k,E,ai,y⟩,ha⟩,C,D⟩:=h;rw[x,p] at g;obtain⟨rfl,rfl⟩:=y 0 t p;have F:=E;obtain⟨q,r,rfl,az,aF,-,-⟩:=E;have ar:=g.lt;have av:=o.lt;have P:=g.cell 0;have Q:=g.cell 1;have R:=g.cell 2;have T:=g.cell 3;have U:=g.cell 4;simp at P Q R T U;have ak:i<L.length:=by omega
 have V:=o.cell i;have fL:=o.free i;rw[List.getElem?_eq_getElem ak] at V;have ax:(i:Int)<(M.S.length:Int):=by omega
 have ay:M.S.length <= 9223372036854775807:=by omega
 have H:=ae c;have O:=ae G;have Hf:=ae y;have I:=ae C;have J:=ae D;have N:=ae p;have an:=ae x;clear c G y C D p x;have u:=g.set_other (a:=⟨K.bs,i,none⟩) (.slice q k.length r) n;have Z:=o.set i (.slice q k.length r);have f2:=u.free 2;have f1:=(u.set 2 (.bool false)).free 1;have ad:=(u.set 2 (.bool false)).set 1 (.bool true);have aa:=(Z.set_other (a:=⟨K.d,2,none⟩) (.bool false) (Ne.symm n)).set_other (a:=⟨K.d,1,none⟩) (.bool true) (Ne.symm n)
 go_enter func70,ntmps70
 go_wp2_with fail
 go_still_tail 10,(by kernel_rfl)
 change wpList _ _ _ _ _ w.drew;go_wp2_with fail
 go_ret
 have c:=H.out;have m:aT K.foot w (((w.setCell ⟨K.bs,i,none⟩ (.slice q k.length r)).setCell ⟨K.d,2,none⟩ (.bool false)).setCell ⟨K.d,1,none⟩ (.bool true)):=(((aT.refl _ _).setCell (.inl (.inr rfl)) _).setCell (.inl (.inl rfl)) _).setCell (.inl (.inl rfl)) _;have al:(((w.setCell ⟨K.bs,i,none⟩ (.slice q k.length r)).setCell ⟨K.d,2,none⟩ (.bool false)).setCell ⟨K.d,1,none⟩ (.bool true)).heap.size=w.heap.size:=by simp[World.setCell]
 refine⟨rfl,⟨n,?_,by simpa using Y,⟨W,0,_,by simpa using hc,hm,by simpa using ad.drew,⟨_,aa.drew,by simpa using ab,?_⟩,⟨k,?_,ai,nofun⟩,by omega⟩,?_,nofun⟩,m.drew,al⟩
 ·intro b f;exact⟨(c b f).1,(c b f).2.1,aw (c b f).2.2 m.size⟩
 ·intro j hj;simp at hj
  by_cases z:i=j
  ·subst z;refine⟨_,by rw[List.getElem?_set_self (by omega)],?_⟩;simp only[List.getElem_set_self];exact F.keep fun b f l=>m.block b l (by have:=c b f;rintro(e|e)<;>simp_all)
  ·obtain⟨v,hv,ag⟩:=O.out j (by omega);refine⟨v,by rw[List.getElem?_set_ne z];exact hv,?_⟩;simp only[List.getElem_set_ne z];exact ag.keep fun b f l=>m.block b l (by have:=c b f;rintro(e|e)<;>simp_all)
 ·exact F.keep fun b f l=>m.block b l (by have:=c b f;rintro(e|e)<;>simp_all)
 ·intro s A;rcases List.mem_or_eq_of_mem_set A with A|rfl
  ·exact I.out s A
  ·exact(J.out 0 _ N.out).1
/- The reference disk: Write with a fault that strikes later. -/
end
section
attribute [local go_sem ↓] aV
attribute [local go_sem] opC upC told bG br bH bt bw bI bJ
theorem cB.tick{K:RK}{M:MD}(h:cB W K M)(g:M.fault=some (j+1,l)):
 cB (W.setCell ⟨K.d,3,none⟩ (.int .i64 (j:Int))) K { M with fault:=some (j,l) }:=by
 obtain⟨m,e,s,⟨q,J,I,A,E,f,⟨L,x,y,F⟩,⟨r,C,B,D⟩,N⟩,u,o⟩:=h;rw[g] at f;obtain⟨rfl,rfl⟩:=D _ l g;have p:∀b,K.R b -> (W.setCell ⟨K.d,3,none⟩ (.int .i64 (j:Int))).heap[b]?=W.heap[b]?:=fun b f=>Below.heap_setCell W ⟨K.d,3,none⟩ _ b (e b f).1
 refine⟨m,fun b c=>⟨(e b c).1,(e b c).2.1,by simpa[World.setCell] using(e b c).2.2⟩,s,⟨q,j,I,A,E,by simpa using f.set 3 (.int .i64 (j:Int)),⟨L,x.set_other (a:=⟨K.d,3,none⟩) _ (Ne.symm m),y,fun i hi=>?_⟩,⟨r,C.keep fun b c _=>p b c,B,?_⟩,by have:=(o _ _ g).2;omega⟩,u,?_⟩
 ·obtain⟨v,G,z⟩:=F i hi;exact⟨v,G,z.keep fun b c _=>p b c⟩
 ·rintro k H hh;simp at hh;obtain⟨rfl,rfl⟩:=hh;exact⟨rfl,rfl⟩
 ·rintro k H hh;simp at hh;obtain⟨rfl,rfl⟩:=hh;have:=o _ _ g;exact⟨this.1,by omega⟩
theorem cB.cells{w:World}{K:RK}(h:cB w K N){n:Nat}(c:N.fault=some (n,l))(f:N.down=false):
 ∃b,N.S.length <= b /\ w.cell? ⟨K.d,0,none⟩=some (.slice (some ⟨K.bs,0,none⟩) N.S.length b) /\ w.cell? ⟨K.d,1,none⟩=some (.bool false) /\ w.cell? ⟨K.d,2,none⟩=some (.bool true) /\ w.cell? ⟨K.d,3,none⟩=some (.int .i64 (n:Int)) /\ w.frozen? ⟨K.d,3,none⟩=false:=by
 obtain⟨b,i,m,e,k,a,-,⟨j,-,-,g⟩,-⟩:=h.main;rw[f,c] at a;obtain⟨rfl,rfl⟩:=g _ l c;exact⟨b,e,by simpa using a.cell 0,by simpa using a.cell 1,by simpa using a.cell 2,by simpa using a.cell 3,by simpa using a.free 3⟩
theorem sL(K:RK)(M0:MD)(D:cB w9 K M0)(n:Nat)(t:List UInt8)(z:M0.fault=some (n+1,t))(i:Nat)(hi:i<M0.S.length)(G:M0.down=false)(bb:M0.writes<4611686018427387904)(F:aX)(v:Value)(l:List UInt8)(an:aO F w9 v l)(hl:l.length=64)(hF:∀b,F b -> b≠K.d):
 Calls aE 70 #[.pointer (some ⟨K.d,0,none⟩),.int .i64 (i:Int),v] w9 fun e c=>e=.returned (.int .i64 0) /\
  cB c (K.grow w9.heap.size c.heap.size) { M0 with S:=M0.S.set i l,fault:=some (n,t),writes:=M0.writes+1 } /\ aT K.foot w9 c:=by
 obtain⟨a2,a4,e0,e1,e2,e3,e4⟩:=D.cells z G;simp at e3;have h:=D.tick z;have a9:n+1 <= 9223372036854775807:=(D.f64 _ _ z).2;have C:aO F (w9.setCell ⟨K.d,3,none⟩ (.int .i64 (n:Int))) v l:=an.keep fun b m _=>Below.heap_setCell w9 ⟨K.d,3,none⟩ _ b (hF b m)
 have Z:(w9.setCell ⟨K.d,3,none⟩ (.int .i64 (n:Int))).heap.size=w9.heap.size:=by simp[World.setCell]
 have W:aT K.foot w9 (w9.setCell ⟨K.d,3,none⟩ (.int .i64 (n:Int))):=(aT.refl _ _).setCell (.inl (.inl rfl)) _;obtain⟨w,aa⟩:=aQ (w9.setCell ⟨K.d,3,none⟩ (.int .i64 (n:Int)));rw[<- aa] at h C Z W;have az:=ae aa;have ax:=ae W;have ay:=ae Z;clear aa W Z an D;have ak:=h.lt;obtain⟨x,o,h3,⟨ab,aH,tv,hc,hm,m,⟨L,E,aL,X⟩,⟨ct,aU,aS,Q⟩,ha⟩,I,J⟩:=h;dsimp only at h3 hc m X Q I J;rw[G] at m;have aZ:=C;obtain⟨a,ad,rfl,a5,a6,-,-⟩:=C;have V:=m.lt;have aW:=E.lt;have c0:=m.cell 0;have c1:=m.cell 1;have c2:=m.cell 2;simp at c0 c1 c2;have hW:aO F (w.alloc (.cells #[] 5)).drew (.slice a l.length ad) l:=aZ.keep fun b _ m=>Below.heap_alloc w _ _ m
 obtain⟨v',p,hr,B,r⟩:=cY (w.alloc (.cells #[] 5)).drew w.heap.size (.slice (some ⟨w.heap.size,0,none⟩) 0 0) []
  ⟨rfl,.inr ⟨w.heap.size,0,#[],rfl,aq _,by unfold World.alloc World.drew;simp,aq _,by unfold maxLen;omega,rfl,rfl⟩⟩ F (.slice a l.length ad) l hW (by simp;omega) (by simp)
 rw[List.nil_append] at B;have ag:aO (fun b=>w.heap.size <= b /\ b<p.heap.size) p v' l:=aO.of_owns B _ (fun k x o=>⟨x,o⟩);obtain⟨g,u,rfl,-⟩:=mN B (by omega);have U:Below w.heap.size w p:=((Below.refl _ _).alloc (aq _) _).drew.grown r (by simp) (fun k T=>by have ba:w.drew.heap.size=w.heap.size:=rfl;simp[Value.ownBlock] at T;omega);have aN:=m.keep (U.block K.d V);have N:=E.keep (U.block K.bs aW);have cL:=N.cell i;have fL:=N.free i;have aV:i<L.length:=by omega
 rw[List.getElem?_eq_getElem aV] at cL;have P:=aN.set_other (a:=⟨K.bs,i,none⟩) (.slice (some ⟨g,0,none⟩) l.length u) x;have aJ:=N.set i (.slice (some ⟨g,0,none⟩) l.length u);have c5:=P.cell 5;have f5:=P.free 5;simp at c5;generalize ai:l.length=ln at *;obtain rfl:ln=64:=hl;have HL:=ae ai;clear ai;have a7:(i:Int)<(M0.S.length:Int):=by omega
 have a8:M0.S.length <= 9223372036854775807:=by omega
 have H2:=ae o;have Hs:=ae X;have Hf:=ae Q;have H5:=ae I;have H6:=ae J;have av:=ae z;have ar:=ae G;have a0:=ae ak
 have k1:bL (fun b=>b=K.bs \/ w.heap.size <= b) (w.alloc (.cells #[] 5)).drew p:=⟨r.os,r.tape,r.output,r.size,fun k T hn=>r.block k T (fun e=>hn (.inr (by simp[Value.ownBlock] at e;omega)))⟩
 have ao:=ae ag;clear ag;have k2:bL (fun b=>b=K.bs \/ w.heap.size <= b) p (p.setCell ⟨K.bs,i,none⟩ (.slice (some ⟨g,0,none⟩) 64 u)):=(aT.refl _ _).setCell (.inl (.inl rfl)) _;clear o X Q I J z G ak r hW;have a1:=ae B;clear B;have k0:bL (fun b=>b=K.bs \/ w.heap.size <= b) w.drew (w.alloc (.cells #[] 5)).drew:=bL.of_below (aI w.drew (.cells #[] 5))
 go_enter func70,ntmps70
 have a3:((n:Int)+1 == 0)=false:=beq_eq_false_iff_ne.2 (by omega);go_wp2_with fail;rw[az.out.symm]
 have q0:∀c,bL (fun b=>b=K.bs \/ w.heap.size <= b) w.drew c -> c.cell? ⟨K.d,0,none⟩=some (.slice (some ⟨K.bs,0,none⟩) M0.S.length ab):=fun c hh=>by
  rw[World.cell?_of_block (w:=w) (a:=⟨K.d,0,none⟩) (hh.block K.d V (fun e=>e.elim x (fun e=>absurd V (by omega))))];exact c0
 refine bS (bL (fun b=>b=K.bs \/ w.heap.size <= b)) (up 5 [6,505,507,8,509]) (by kernel_rfl) ?_;apply aG;rfl;intro c M;go_simp;exact aF;refine bq rfl rfl (fun y q=>?_);go_simp;refine q _ _ ?_;clear q y;go_simp;apply aG;rfl;intro c M;go_simp;exact aF;refine bq rfl rfl (fun y q=>?_);go_simp;refine q _ _ ?_;clear q y;go_simp;apply aG;rfl;intro c M;go_simp;exact aF;refine bq rfl rfl (fun y q=>?_);go_simp;refine q _ _ ?_;clear q y;go_simp;apply aG;rfl;intro c M;go_simp;exact aF;refine aY ?_;go_simp;go_wp2_with fail
 go_ret
 have E:=HL.out;have o:=H2.out;have H:aT K.foot w ((p.setCell ⟨K.bs,i,none⟩ (.slice (some ⟨g,0,none⟩) 64 u)).setCell ⟨K.d,5,none⟩ (.int .i64 (M0.writes+1))):=((aT.of_below U).setCell (.inl (.inr rfl)) _).setCell (.inl (.inl rfl)) _;have al:aT K.foot p ((p.setCell ⟨K.bs,i,none⟩ (.slice (some ⟨g,0,none⟩) 64 u)).setCell ⟨K.d,5,none⟩ (.int .i64 (M0.writes+1))):=((aT.refl _ _).setCell (.inl (.inr rfl)) _).setCell (.inl (.inl rfl)) _;have aP:=P.set 5 (.int .i64 (M0.writes+1));have aK:=aJ.set_other (a:=⟨K.d,5,none⟩) (.int .i64 (M0.writes+1)) (Ne.symm x);generalize((p.setCell ⟨K.bs,i,none⟩ (.slice (some ⟨g,0,none⟩) 64 u)).setCell ⟨K.d,5,none⟩ (.int .i64 (M0.writes+1)))=wF at *;rw[<- ay.out];refine⟨rfl,⟨x,?_,by simpa using h3,⟨ab,aH,tv,by simpa using hc,hm,by simpa[RK.grow,ar.out,av.out] using aP,⟨_,aK,by simpa using aL,?_⟩,⟨ct,?_,aS,fun k t hh=>Hf.out k t hh⟩,ha⟩,?_,H6.out⟩,ax.out.trans H (fun _ hi=>.inl hi)⟩
 ·rintro b (f|⟨f,aM⟩)
  ·exact⟨(o b f).1,(o b f).2.1,aw (o b f).2.2 H.size⟩
  ·exact⟨fun e=>by simp[RK.grow] at e;omega,fun e=>by simp[RK.grow] at e;omega,aM⟩
 ·intro j hj;simp at hj
  by_cases R:i=j
  ·subst R;refine⟨_,by rw[List.getElem?_set_self (by omega)],?_⟩;simp only[List.getElem_set_self];refine(ao.out.keep (w':=wF) fun b O A=>al.block b A (by rintro(e|e)<;>omega)).mono fun b O=>.inr ⟨O.1,aw O.2 al.size⟩
  ·obtain⟨v,C,aR⟩:=Hs.out j (by omega);refine⟨v,by rw[List.getElem?_set_ne R];exact C,?_⟩;simp only[List.getElem_set_ne R];exact(aR.keep (w':=wF) fun b f A=>H.block b A (by have:=o b f;rintro(e|e)<;>simp_all)).mono fun b f=>.inl f
 ·exact(aU.keep (w':=wF) fun b f A=>H.block b A (by have:=o b f;rintro(e|e)<;>simp_all)).mono fun b f=>.inl f
 ·intro s Y;rcases List.mem_or_eq_of_mem_set Y with Y|rfl
  ·exact H5.out s Y
  ·exact E
/- The reference disk: Write whole, Fail. -/
end
section
attribute [local go_sem ↓] aV
attribute [local go_sem] opC upC told bG br bH bt bw bI bJ
theorem cB.foot_all{K:RK}(h:K.foot i):K.all i:=by
 rcases h with h|h
 ·exact .inl h
 ·exact .inr (.inl h)
theorem RK.grow_all{K:RK}(h:(K.grow i j).all o):K.all o \/ (i <= o /\ o<j):=by
 rcases h with h|h|h|h
 ·exact .inl (.inl h)
 ·exact .inl (.inr (.inl h))
 ·exact .inl (.inr (.inr h))
 ·exact .inr h
theorem xm(K:RK)(M:MD)(h:cB w K M)(i:Nat)(r:i<M.S.length)(q:M.down=false)(x:M.writes<4611686018427387904)(F:aX)(v:Value)(l:List UInt8)(u:aO F w v l)(s:l.length=64)(hF:∀b,F b -> b≠K.d):
 Calls aE 70 #[.pointer (some ⟨K.d,0,none⟩),.int .i64 (i:Int),v] w fun e c=>e=.returned (.int .i64 (M.write i l).2) /\
  (∃o,o.d=K.d /\ (∀b,o.all b -> K.all b \/ w.heap.size <= b) /\ cB c o (M.write i l).1 /\ o.bs=K.bs) /\ aT K.foot w c:=by
 cases f:M.fault with
 |none=>
  refine(sJ w K M h f i r q x F v l u s).mono ?_;rintro e c ⟨rfl,k,m⟩;have g:M.write i l=({ M with S:=M.S.set i l,writes:=M.writes+1 },0):=by simp[MD.write,f]
  rw[g];exact⟨rfl,⟨K.grow w.heap.size c.heap.size,rfl,fun b j=>(RK.grow_all j).imp id (·.1),k,rfl⟩,m⟩
 |some p=>
  obtain⟨n,t⟩:=p;cases n with
  |zero=>
   obtain⟨a,y,rfl,-⟩:=u;rw[s];refine(sK w K M h t f i r q a y).mono ?_;rintro e c ⟨rfl,k,m,z⟩;have g:M.write i l=({ M with S:=M.S.set i t,fault:=none,down:=true },341):=by simp[MD.write,f]
   rw[g];exact⟨rfl,⟨K,rfl,fun _ j=>.inl j,k,rfl⟩,m⟩
  |succ n=>
   refine(sL w K M h n t f i r q x F v l u s hF).mono ?_;rintro e c ⟨rfl,k,m⟩;have g:M.write i l=({ M with S:=M.S.set i l,fault:=some (n,t),writes:=M.writes+1 },0):=by simp[MD.write,f]
   rw[g];exact⟨rfl,⟨K.grow w.heap.size c.heap.size,rfl,fun b j=>(RK.grow_all j).imp id (·.1),k,rfl⟩,m⟩
/- The reference disk: New. -/
end
section
attribute [local go_sem ↓] aV eU
attribute [local go_sem] opC upC told bG br bH bt bw bI bJ
theorem yY{S:List (List UInt8)}(h:bX G W j u S)(s:0<S.length):
 ∃g a L,u=.slice (some ⟨g,0,none⟩) S.length a /\ j <= g /\ ¬G g /\ S.length <= a /\ a <= maxLen /\ Blk W g L 41 /\ L.length=a /\ ∀i (h:i<S.length),∃u,L[i]?=some u /\ aO G W u S[i]:=by
 have n:=fun g k=>(h.own (g:=g) k)
 obtain⟨z,o,r,y⟩:=h;rcases o.2 with⟨rfl,t⟩|⟨g,a,c,rfl,l,d,f,m,p,q⟩
 ·omega
 ·refine⟨g,a,c.toList,rfl,l,(n g rfl).2.2,f,m,by unfold Blk;simpa using d,by simpa using p,fun i hi=>?_⟩;obtain⟨x,b,e⟩:=r i hi;refine⟨x,?_,e⟩;rw[<- q,List.getElem?_take] at b;split at b
  ·exact b
  ·cases b
theorem xn{w:World}{R Rt:aX}{base lo d cap:Nat}{a:Option Addr}{S:List (List UInt8)}{M:MD}{after:Int}{tv:Value}{ct:List UInt8}(z:M.S=S)(h:bX R w lo (.slice a S.length cap) S)(o:0<S.length)(J:S.length <= 65536)(q:∀s∈S,s.length=64)
 (n:Blk w d [.slice a S.length cap,.bool M.down,.bool M.fault.isSome,.int .i64 after,tv,.int .i64 (M.writes:Int)] 117) (T:d<lo) (B:base <= d) (l:∀b,R b -> lo <= b) (m:∀b,Rt b -> base <= b /\ b<d)
 (F:aO Rt w tv ct) (E:ct.length <= 140737488355328) (H:∀k t,M.fault=some (k,t) -> after=(k:Int) /\ ct=t) (A:-9223372036854775808 <= after /\ after <= 9223372036854775807) (p:∀k t,M.fault=some (k,t) -> t.length=64 /\ k <= 9223372036854775807):
 ∃K:RK,K.d=d /\ (∀b,K.all b -> base <= b) /\ cB w K M:=by
 obtain⟨g,N,L,f,Q,x,D,I,j,r,G⟩:=yY h o;simp at f;obtain⟨rfl,rfl⟩:=f
 have y:∀b,R b -> b<w.heap.size:=fun b c=>by
  obtain⟨_,_,_,u⟩:=h;obtain⟨L,O,j⟩:=u b c;exact lt_of_block j
 have P:=n.lt;subst z;refine⟨RK.mk d g (fun b=>R b \/ Rt b),rfl,?_,⟨by show d≠g;omega,?_,J,⟨cap,after,tv,D,I,n,⟨L,j,r,fun i hi=>?_⟩,⟨ct,F.mono fun b c=>.inr c,E,H⟩,A⟩,q,p⟩⟩
 ·intro b c;have c:b=d \/ b=g \/ (R b \/ Rt b):=c;rcases c with rfl|rfl|c|c
  ·exact B
  ·omega
  ·have:=l b c;omega
  ·exact(m b c).1
 ·rintro b (c|c)
  ·exact⟨by show b≠d;have:=l b c;omega,fun e=>x (show R g from(show b=g from e)▸c),y b c⟩
  ·have:=m b c;exact⟨by show b≠d;omega,by show b≠g;omega,by omega⟩
 ·obtain⟨v,f,C⟩:=G i hi;exact⟨v,f,C.mono fun b c=>.inl c⟩
theorem nF:List.replicate n (List.replicate 64 (0:UInt8))++[List.replicate 64 0]=List.replicate (n+1) (List.replicate 64 0):=by rw[<- List.replicate_succ']
theorem AR(h1:0<n)(h2:n <= 65536):
 Calls aE 26 #[.int .i64 (n:Int)] w fun e f=>∃K:RK,e=.returned (.tuple #[.pointer (some ⟨K.d,0,none⟩),.int .i64 0]) /\ cB f K (MD.fresh n) /\ Below w.heap.size w f /\ (∀b,K.all b -> w.heap.size <= b):=by
 have al:1 <= (n:Int):=by omega
 have an:(n:Int) <= 65536:=by omega
 have J:=Blk.new w #[.slice none 0 0,.bool false,.bool false,.int .i64 0,.slice none 0 0,.int .i64 0] 117;have O:=aI w (.cells #[.slice none 0 0,.bool false,.bool false,.int .i64 0,.slice none 0 0,.int .i64 0] 117);have V:=ae J;clear J
 go_enter func26,ntmps26
 go_wp2_with fail
 go_loopw [5] (fun i wr=>∃(k:Nat)(a:Option Addr)(j:Nat)(R:aX),k <= n /\ i=.int .i64 (k:Int) /\ Blk wr w.heap.size [.slice a k j,.bool false,.bool false,.int .i64 0,.slice none 0 0,.int .i64 0] 117 /\
  bX R wr (w.heap.size+1) (.slice a k j) (List.replicate k (List.replicate 64 0)) /\ (∀b,R b -> w.heap.size+1 <= b) /\ Below w.heap.size w wr) (fun i _=>n-(intOf i).toNat)
 case atStart=>exact⟨0,none,0,none_,by omega,rfl,V.out,bX.nil _ _,fun b h=>h.elim,O⟩
 case round=>
  obtain⟨k,a,j,R,hk,rfl,y,C,G,H⟩:=hrel;clear O;have T:w.heap.size<wr.heap.size:=y.lt
  by_cases ai:k<n
  ·have ag:(k:Int)<(n:Int):=by omega
   obtain⟨g,ak,E,p⟩:∃g,(MK 41 (.int .i64 64) (.int .i64 64)).run aE wr.drew=.ok (.slice (some ⟨wr.heap.size,0,none⟩) 64 64) g /\ Blk g wr.heap.size (List.replicate 64 (B 0)) 5 /\ Below wr.heap.size wr.drew g:=l7 wr.drew 64 (by omega)
   have ao:=E.lt;have U:aO (fun b=>b=wr.heap.size) g (.slice (some ⟨wr.heap.size,0,none⟩) 64 64) (List.replicate 64 0):=lI E _ rfl;have P:bX R g (w.heap.size+1) (.slice a k j) (List.replicate k (List.replicate 64 0)):=(C.kept (w':=wr.drew) (Below.refl _ _).drew).kept p;obtain⟨v,x,F,ad,D,m⟩:=P.append U (by rintro b rfl;exact⟨_,_,E⟩) (by simp;omega) (by have:=p.size;omega);simp only[List.length_replicate,nF] at ad D;have r:Blk g w.heap.size _ _:=(y.keep (w':=wr.drew) rfl).keep (p.block w.heap.size T);have I:∀q,Value.ownBlock (.slice a k j)=some q -> w.heap.size+1 <= q /\ q<wr.heap.size /\ ¬R q:=fun q u=>C.own u
   have z:Blk F w.heap.size [.slice a k j,.bool false,.bool false,.int .i64 0,.slice none 0 0,.int .i64 0] 117:=(r.alloc _).keep (m.block _ (by have:=r.lt;simp;omega) (fun e=>by have:=I _ e.symm;omega));have k0:bL (fun b=>w.heap.size<b) wr.drew g:=bL.of_below p;have k1:bL (fun b=>w.heap.size<b) g (g.alloc (.cells #[.slice (some ⟨wr.heap.size,0,none⟩) 64 64] 41)):=bL.of_below (aI _ _)
   have k2:bL (fun b=>w.heap.size<b) (g.alloc (.cells #[.slice (some ⟨wr.heap.size,0,none⟩) 64 64] 41)) F:=⟨m.os,m.tape,m.output,m.size,fun q u hn=>m.block q u (fun e=>hn (by have:=I _ e.symm;omega))⟩
   have N:Below w.heap.size w F:=((H.drew.trans (p.mono (show w.heap.size <= wr.heap.size from H.size))).alloc (by have:=r.lt;omega) _).grown m (by simp;have:=r.lt;omega) (fun q u=>by have:=I q u;omega);have Z:=z.cell 0;have f0:=z.free 0;simp at Z;have L:=z.set 0 (.slice v (k+1) x)
   have Q:bX _ (F.setCell ⟨w.heap.size,0,none⟩ (.slice v (k+1) x)) (w.heap.size+1) (.slice v (k+1) x) (List.replicate (k+1) (List.replicate 64 0)):=D.keep fun b l _=>Below.heap_setCell _ ⟨w.heap.size,0,none⟩ _ b (by
    rcases l with l|l|l
    ·have:=(D.own l).1;show b≠w.heap.size;omega
    ·have:=G b l;show b≠w.heap.size;omega
    ·show b≠w.heap.size;omega)
   have W:=ae L;have Y:=ae Q;have X:=ae N;clear L Q N D z P U E m p r C;go_wp2_with fail
   have q0:∀f,bL (fun b=>w.heap.size<b) wr.drew f -> f.cell? ⟨w.heap.size,0,none⟩=some (.slice a k j):=fun f hh=>by
    rw[World.cell?_of_block (w:=wr.drew) (a:=⟨w.heap.size,0,none⟩) (hh.block w.heap.size T (by omega))];simpa using(y.keep (w':=wr.drew) rfl).cell 0
   refine dP (bL (fun b=>w.heap.size<b)) 10 (up 5 [505,506,507,8,9,510]) (by kernel_rfl) ?_;apply bM;rfl;intro f hC;go_simp;exact aF;refine cU rfl rfl (fun o c=>?_);go_simp;refine c _ _ ?_;clear c o;go_simp;refine cU rfl rfl (fun o c=>?_);go_simp;refine c _ _ ?_;clear c o;go_simp;refine cU rfl rfl (fun o c=>?_);go_simp;refine c _ _ ?_;clear c o;go_simp;apply bM;rfl;intro f hC;go_simp;exact aF;refine cZ rfl rfl rfl (fun o c=>?_);go_simp;refine c _ _ ?_;clear c o;go_simp;refine dt ?_;go_wp2_with fail
   go_roundw
   case rel=>exact⟨k+1,v,x,_,by omega,by go_num,by simpa using W.out,Y.out,(by
    rintro b (l|l)
    ·exact G b l
    ·omega),X.out.setCell (aq _) _⟩
   case measure=>simp[intOf];omega
  ·have ag:¬(k:Int)<(n:Int):=by omega
   obtain rfl:k=n:=by omega
   go_wp2_with fail;go_ret2;have A:(List.replicate k (List.replicate 64 (0:UInt8))).length=k:=by simp
   obtain⟨K,ab,aa,c⟩:=xn (M:=MD.fresh k) (w:=wr) (Rt:=none_) (base:=w.heap.size) (lo:=w.heap.size+1) (d:=w.heap.size) (S:=List.replicate k (List.replicate 64 0)) (after:=0) (tv:=.slice none 0 0) (ct:=[]) (cap:=j) (a:=a) rfl (by rw[A];exact C) (by rw[A];exact h1) (by rw[A];exact h2) (fun s hs=>by rw[List.eq_of_mem_replicate hs];simp)
    (by rw[A];exact y) (by omega) (by omega) G (fun b h=>h.elim) ⟨none,0,rfl,by simp,by unfold maxLen;omega,fun _=>rfl,.inl rfl⟩ (by simp) (fun k t h=>by simp[MD.fresh] at h) (by omega) (fun k t h=>by simp[MD.fresh] at h)
   exact⟨K,by rw[ab];rfl,c,H,aa⟩
/- The reference disk: Copy. -/
end
section
attribute [local go_sem ↓] aV eU
attribute [local go_sem] opC upC told bG br bH bt bw bI bJ
theorem yZ(h:W.ownsRow i t 1 u l.length (l.map B)):∃a b,u=.slice a l.length b:=by
 rcases h.2 with⟨rfl,c⟩|⟨g,b,d,rfl,_⟩
 ·exact⟨none,0,by rw[c]⟩
 ·exact⟨_,b,rfl⟩
theorem pF(l:List UInt8)(z:aO F w v l)(t:l.length <= 140737488355328):
 ∃a d c,(AP #[41,41] 41 #[.slice (some ⟨w.heap.size,0,none⟩) 0 0,v]).run aE (w.alloc (.cells #[] 5))=.ok (.slice a l.length d) c /\
  c.ownsRow w.heap.size 5 1 (.slice a l.length d) l.length (l.map B) /\ Below w.heap.size w c /\ (w.alloc (.cells #[] 5)).grownBy c (some w.heap.size) /\
  aO (fun b=>w.heap.size <= b /\ b<c.heap.size /\ ∃L o,c.heap[b]?=some (.cells L 5 o)) c (.slice a l.length d) l:=by
 obtain⟨D,c,x,e,n⟩:=cY (w.alloc (.cells #[] 5)) w.heap.size (.slice (some ⟨w.heap.size,0,none⟩) 0 0) []
  ⟨rfl,.inr ⟨w.heap.size,0,#[],rfl,aq _,by unfold World.alloc;simp,aq _,by unfold maxLen;omega,rfl,rfl⟩⟩ F v l (z.keep fun b _ f=>Below.heap_alloc _ _ _ f) (by simpa using t) (by simp)
 rw[List.nil_append] at e;obtain⟨a,d,rfl⟩:=yZ e;refine⟨a,d,c,x,e,(aI _ _).grown n (by simp) (fun k s=>by simp[Value.ownBlock] at s;omega),n,?_⟩;have q:=e.2;rcases q with⟨h,p⟩|⟨g,A,m,h,f,j,r,u,C,y⟩
 ·simp at h;obtain⟨rfl,_,rfl⟩:=h;exact⟨none,0,rfl,by omega,by unfold maxLen;omega,fun _=>rfl,.inl (List.length_eq_zero_iff.1 p)⟩
 ·simp at h;obtain⟨rfl,rfl⟩:=h;refine⟨_,d,rfl,r,u,nofun,.inr ⟨g,0,m,5,(0,0),rfl,⟨f,lt_of_block j,_,_,j⟩,j,by omega,fun i hi=>?_⟩⟩;have:(m.toList.take (l.length*1))[i]?=(l.map B)[i]?:=by rw[y]
  rw[List.getElem?_take,if_pos (by omega)] at this;simpa[List.getElem?_eq_getElem hi] using this
end
theorem pG(b:2 <= n)(h:n <= 65536):
 Calls aE 74 #[.int .i64 (n:Int)] w fun e a=>e=.returned (.int .i64 (aW n:Int)) /\ w=a:=by
 have e:((aW n:Nat):Int)=((n:Int)-2)/2:=by unfold aW;omega
 have c:(n:Int) <= 65536:=by omega
 have d:2 <= (n:Int):=by omega
 rw[e];clear e
 go_enter func74,ntmps74
 go_wp2_with fail
 go_ret
 exact⟨rfl,rfl⟩
theorem nG(d:2 <= n)(h:n <= 65536)(g p:Nat)(j:g <= 4294967295)(l:p <= 131072):
 Calls aE 130 #[.int .i64 (n:Int),.int .i64 (g:Int),.int .i64 (p:Int)] w fun e b=>e=.returned (.int .i64 (cm n g p:Int)) /\ w=b:=by
 have hh:aW n <= 65536:=by unfold aW;omega
 have a:=pG w n d h;have e:((cm n g p:Nat):Int)=2+(g:Int)%2*(aW n:Int)+(p:Int):=by unfold cm;simp
 rw[e];clear e;generalize aW n=H at *;have m:(p:Int) <= 131072:=by omega
 have f:(H:Int) <= 65536:=by omega
 have k:(g:Int) <= 4294967295:=by omega
 have i:0 <= (g:Int)%2*(H:Int) /\ (g:Int)%2*(H:Int) <= 65536:=by
  rcases(show(g:Int)%2=0 \/ (g:Int)%2=1 by omega) with h|h<;>rw[h]<;>omega
 have c:=ae a;clear a
 go_enter func130,ntmps130
 go_wp2_with fail;refine c.out.mono ?_;rintro e b ⟨rfl,rfl⟩;go_wp2_with fail
 go_ret
 exact⟨rfl,rfl⟩
theorem lG(c:n <= 140737488355328):
 Calls aE 73 #[.int .i64 (n:Int)] w fun e a=>e=.returned (.int .i64 (takes n:Int)) /\ w=a:=by
 have b:(n:Int) <= 140737488355328:=by omega
 go_enter func73,ntmps73
 go_wp2_with fail
 all_goals
  go_ret
  exact⟨fM (by unfold takes;omega),rfl⟩
def gy(w:World)(rb d g:Nat)(b:Value)(a:Bool):Prop:=Blk w rb [.pointer (some ⟨d,0,none⟩),.int .i64 (g:Int),b,.bool a] 121
theorem xo(L:List (List UInt8))(k:Nat)(h:k<L.length):aM (L.take (k+1))=aM (L.take k)+takes L[k].length:=by
 rw[List.take_succ_eq_append_getElem h,d9]
theorem oP(L:List (List UInt8))(k:Nat):aM (L.take k) <= aM L:=by
 have h:aM L=aM (L.take k)+aM (L.drop k):=by
  unfold aM;rw[<- List.sum_append,<- List.map_append,List.take_append_drop]
 omega
theorem nH(r d g:Nat)(s:Value)(z:Bool)(B:gy w r d g s z)(R:aX)(L:List (List UInt8))(h:bX R w 0 s L)(N:L.length <= 65536)(W:aM L <= 1000000)(F:∀b∈L,b.length <= 65536):
 Calls aE 72 #[.pointer (some ⟨r,0,none⟩)] w fun e t=>e=.returned (.int .i64 (aM L:Int)) /\ w=t:=by
 have l:=B.cell 2;simp at l;obtain⟨G,I,rfl,A,V⟩:=h.shape;obtain⟨a,f⟩:=aH L.length;rw[f] at l;have O:(a:Int) <= 65536:=by omega
 have j:=ae f;have v:=ae h;clear f h A
 go_enter func72,ntmps72
 go_wp2_with fail
 go_loop [3,4] (fun n i=>∃k:Nat,k <= a /\ i=.int .i64 (k:Int) /\ n=.int .i64 ((aM (L.take k):Nat):Int)) (fun _ i=>a-(intOf i).toNat)
 case atStart=>exact⟨0,by omega,rfl,rfl⟩
 case round=>
  obtain⟨k,Q,rfl,rfl⟩:=hrel
  by_cases C:k<a
  ·have D:(k:Int)<(a:Int):=by omega
   have c:k<L.length:=by rw[j.out];exact C
   obtain⟨M,J,x,p,m,P⟩:=v.out.elem k c;simp at p;obtain⟨rfl,rfl⟩:=p;have U:=F L[k] (aC c);have o:=xo L k c;have E:=oP L (k+1);obtain⟨H,K,rfl,-⟩:=id m;generalize L[k]=b at *;have S:((aM (L.take k):Nat):Int)+((takes b.length:Nat):Int) <= 1000000:=by omega
   have u:=ae (lG w b.length (by omega));generalize takes b.length=T at *;generalize aM (L.take k)=q at *;have y:=ae o;clear o E m;go_wp2_with fail;refine u.out.mono ?_;rintro e t ⟨rfl,rfl⟩;go_wp2_with fail
   go_round
   case rel=>exact⟨k+1,by omega,by go_num,by rw[y.out];go_num⟩
   case measure=>simp[intOf];omega
  ·have D:¬(k:Int)<(a:Int):=by omega
   have e:L.take k=L:=List.take_of_length_le (by rw[j.out];omega);rw[e];go_wp2_with fail
   go_ret
   exact⟨rfl,rfl⟩
/- The reference journal: the generation of a disk. -/
section
attribute [local go_sem] opC upC told bG br bH bt bw bI bJ
def d7(w a:World):Prop:=∃n,w.drewN n=a
theorem d7.refl:d7 w w:=⟨0,rfl⟩
theorem d7.trans{a b c:World}(h:d7 a b)(k:d7 b c):d7 a c:=by
 obtain⟨n,rfl⟩:=h;obtain⟨m,rfl⟩:=k;refine⟨n+m,?_⟩;unfold World.drewN
 congr 1
 show a.drawn+(n+m)=a.drawn+n+m;omega
theorem d7.drew{a b:World}(h:d7 a b):d7 a b.drew:=h.trans ⟨1,rfl⟩
theorem d7.heap{a b:World}(h:d7 a b):b.heap=a.heap:=by obtain⟨n,rfl⟩:=h;rfl
theorem d7.below(h:d7 W w'):Below W.heap.size W w':=by obtain⟨n,rfl⟩:=h;exact Below.drewN' (Below.refl _ _) n
theorem d7.later(h:d7 W w'):aJ W w':=h.below
theorem cB.row{K:RK}(h:cB W K N):∃a,N.S.length <= a /\ W.cell? ⟨K.d,0,none⟩=some (.slice (some ⟨K.bs,0,none⟩) N.S.length a) /\ W.cell? ⟨K.d,1,none⟩=some (.bool N.down) /\ W.cell? ⟨K.d,5,none⟩=some (.int .i64 (N.writes:Int)):=by
 obtain⟨a,e,g,c,f,b,-⟩:=h.main;exact⟨a,c,by rw[b.cell];rfl,by rw[b.cell];rfl,by rw[b.cell];rfl⟩
theorem cB.sector{K:RK}(h:cB W K N)(i:Nat)(c:i<N.S.length):∃x,W.cell? ⟨K.bs,i,none⟩=some x /\ aO K.R W x N.S[i]:=by
 obtain⟨g,f,n,l,m,k,⟨L,a,j,d⟩,-⟩:=h.main;obtain⟨v,e,b⟩:=d i c;exact⟨v,by rw[a.cell];exact e,b⟩
def gv(a:Bool×Nat):Int:=if a.1 then(a.2:Int) else -1
def Dz(w:World)(S:List (List UInt8))(f i:Value)(wr:World):Prop:=
 ∃m:Nat,m <= 2 /\ i=.int .i64 (m:Int) /\ f=.int .i64 (gv (fQ S m)) /\ d7 w wr
theorem Cz(K:RK)(M:MD)(h:cB w K M)(h8:8 <= M.S.length):
 Calls aE 131 #[.pointer (some ⟨K.d,0,none⟩)] w fun e z=>e=.returned (.int .i64 (gv (fQ M.S 2))) /\ d7 w z:=by
 obtain⟨W,ab,L,-,-⟩:=h.row;have ag:=h.len
 go_enter func131,ntmps131
 go_wp2_with fail
 go_loopw [3,4] (fun f i wr=>Dz w M.S f i wr) (fun _ i _=>2-(intOf i).toNat)
 case atStart=>exact⟨0,by omega,rfl,rfl,d7.refl w⟩
 case round=>
  obtain⟨m,hm,rfl,rfl,r⟩:=hrel
  by_cases ai:m<2
  ·have X:(m:Int)<2:=by omega
   have H:m<M.S.length:=by omega
   obtain⟨x,V,g⟩:=h.sector m H;have N:M.S[m].length=64:=h.s64 _ (aC H);have T:M.S.getD m []=M.S[m]:=by rw[List.getD_eq_getElem?_getD,List.getElem?_eq_getElem H];rfl
   have an:wr.cell? ⟨K.bs,m,none⟩=some x:=by unfold World.cell? at *;rw[r.heap];exact V
   have aa:wr.cell? ⟨K.d,0,none⟩=some (.slice (some ⟨K.bs,0,none⟩) M.S.length W):=by unfold World.cell? at *;rw[r.heap];exact L
   have g:aO K.R wr x M.S[m]:=g.keep fun b _ _=>by rw[r.heap]
   have J:fQ M.S (m+1)=if eH (M.S[m]) m&&(!(fQ M.S m).1 || decide ((fQ M.S m).2<bK (M.S[m]) 4)) then(true,bK (M.S[m]) 4) else fQ M.S m:=by
    simp only[fQ,qp,T]
   obtain⟨C,A,rfl,-⟩:=id g;generalize M.S[m]=k at *;have I:=eV wr _ _ _ g 4 (by omega) (by omega);rw[show((4:Nat):Int)=4 from rfl] at I;have P:=oG M.S m;obtain⟨Y,U⟩:=aH (fQ M.S m);rw[U] at J P⊢;have ak:(m:Int)<(M.S.length:Int):=by omega
   have t:=ae I;have B:=ae J;have h4:=lW k 4;have ao:(64:Int) <= (A:Int):=by obtain⟨Z,c',O,hc,-⟩:=id g;simp at O;obtain⟨-,rfl⟩:=O;omega
   have s:=ae N;clear I J U T V L N;obtain⟨F,v⟩:=Y;dsimp only at P;cases y:dm k with
   |false=>
    have p:fQ M.S (m+1)=(F,v):=by rw[B.out,if_neg (by simp[eH,y])]
    go_wp2_with fail;refine t.out.mono ?_;rintro e j ⟨rfl,a⟩;have a:d7 wr j:=a;have o:aO K.R j (.slice C k.length A) k:=g.keep fun b _ _=>by rw[a.heap]
    have l:=ae (ec j _ _ _ o s.out);clear o;go_wp2_with fail;refine l.out.mono ?_;rintro e q ⟨rfl,c⟩;have c:d7 wr q:=a.trans c;have D:=gL (aO.take (g.keep (w':=q) fun b _ _=>by rw[c.heap]) 4 (by rw[s.out];omega));have u:=ae (r.trans c);rw[y];clear l t a c r g;have n:=ae p;clear p;go_wp2_with fail
    go_roundw
    case rel=>exact⟨m+1,by omega,by go_num,by first|(rw[n.out];done)|(rw[n.out];rfl),u.out⟩
    case measure=>simp[intOf];omega
   |true=>
    by_cases Q:k.take 4 = [72,78,75,74]
    ·by_cases al:(bK k 4:Int)%2=(m:Int)
     ·have G:bK k 4%2=m:=by omega
      have E:eH k m=true:=by simp[eH,y,Q,G,dp]
      cases F with
      |false=>
       have p:fQ M.S (m+1)=(true,bK k 4):=by rw[B.out,if_pos (by simp[E])]
       clear E G;rw[show gv (false,v) = -1 from rfl];go_wp2_with fail;refine t.out.mono ?_;rintro e j ⟨rfl,a⟩;have a:d7 wr j:=a;have o:aO K.R j (.slice C k.length A) k:=g.keep fun b _ _=>by rw[a.heap]
       have l:=ae (ec j _ _ _ o s.out);clear o;go_wp2_with fail;refine l.out.mono ?_;rintro e q ⟨rfl,c⟩;have c:d7 wr q:=a.trans c;have D:=gL (aO.take (g.keep (w':=q) fun b _ _=>by rw[c.heap]) 4 (by rw[s.out];omega));have u:=ae (r.trans c);rw[y];clear l t a c r g;have n:=ae p;clear p;go_wp2_with fail
       go_roundw
       case rel=>exact⟨m+1,by omega,by go_num,by first|(rw[n.out];done)|(rw[n.out];rfl),u.out⟩
       case measure=>simp[intOf];omega
      |true=>
       rw[show gv (true,v)=(v:Int) from rfl]
       by_cases ad:(v:Int)<(bK k 4:Int)
       ·have p:fQ M.S (m+1)=(true,bK k 4):=by rw[B.out,if_pos (by simp[E];omega)]
        clear E G;go_wp2_with fail;refine t.out.mono ?_;rintro e j ⟨rfl,a⟩;have a:d7 wr j:=a;have o:aO K.R j (.slice C k.length A) k:=g.keep fun b _ _=>by rw[a.heap]
        have l:=ae (ec j _ _ _ o s.out);clear o;go_wp2_with fail;refine l.out.mono ?_;rintro e q ⟨rfl,c⟩;have c:d7 wr q:=a.trans c;have D:=gL (aO.take (g.keep (w':=q) fun b _ _=>by rw[c.heap]) 4 (by rw[s.out];omega));have u:=ae (r.trans c);rw[y];clear l t a c r g;have n:=ae p;clear p;go_wp2_with fail
        go_roundw
        case rel=>exact⟨m+1,by omega,by go_num,by first|(rw[n.out];done)|(rw[n.out];rfl),u.out⟩
        case measure=>simp[intOf];omega
       ·have p:fQ M.S (m+1)=(true,v):=by rw[B.out,if_neg (by simp;omega)]
        clear E G;go_wp2_with fail;refine t.out.mono ?_;rintro e j ⟨rfl,a⟩;have a:d7 wr j:=a;have o:aO K.R j (.slice C k.length A) k:=g.keep fun b _ _=>by rw[a.heap]
        have l:=ae (ec j _ _ _ o s.out);clear o;go_wp2_with fail;refine l.out.mono ?_;rintro e q ⟨rfl,c⟩;have c:d7 wr q:=a.trans c;have D:=gL (aO.take (g.keep (w':=q) fun b _ _=>by rw[c.heap]) 4 (by rw[s.out];omega));have u:=ae (r.trans c);rw[y];clear l t a c r g;have n:=ae p;clear p;go_wp2_with fail
        go_roundw
        case rel=>exact⟨m+1,by omega,by go_num,by first|(rw[n.out];done)|(rw[n.out];rfl),u.out⟩
        case measure=>simp[intOf];omega
     ·have p:fQ M.S (m+1)=(F,v):=by rw[B.out,if_neg (by simp[eH];omega)]
      go_wp2_with fail;refine t.out.mono ?_;rintro e j ⟨rfl,a⟩;have a:d7 wr j:=a;have o:aO K.R j (.slice C k.length A) k:=g.keep fun b _ _=>by rw[a.heap]
      have l:=ae (ec j _ _ _ o s.out);clear o;go_wp2_with fail;refine l.out.mono ?_;rintro e q ⟨rfl,c⟩;have c:d7 wr q:=a.trans c;have D:=gL (aO.take (g.keep (w':=q) fun b _ _=>by rw[c.heap]) 4 (by rw[s.out];omega));have u:=ae (r.trans c);rw[y];clear l t a c r g;have n:=ae p;clear p;go_wp2_with fail
      go_roundw
      case rel=>exact⟨m+1,by omega,by go_num,by first|(rw[n.out];done)|(rw[n.out];rfl),u.out⟩
      case measure=>simp[intOf];omega
    ·have p:fQ M.S (m+1)=(F,v):=by rw[B.out,if_neg (by simp[eH,dp,Q])]
     go_wp2_with fail;refine t.out.mono ?_;rintro e j ⟨rfl,a⟩;have a:d7 wr j:=a;have o:aO K.R j (.slice C k.length A) k:=g.keep fun b _ _=>by rw[a.heap]
     have l:=ae (ec j _ _ _ o s.out);clear o;go_wp2_with fail;refine l.out.mono ?_;rintro e q ⟨rfl,c⟩;have c:d7 wr q:=a.trans c;have D:=gL (aO.take (g.keep (w':=q) fun b _ _=>by rw[c.heap]) 4 (by rw[s.out];omega));have u:=ae (r.trans c);rw[y];clear l t a c r g;have n:=ae p;clear p;go_wp2_with fail
     go_roundw
     case rel=>exact⟨m+1,by omega,by go_num,by first|(rw[n.out];done)|(rw[n.out];rfl),u.out⟩
     case measure=>simp[intOf];omega
  ·have X:¬(m:Int)<2:=by omega
   obtain rfl:m=2:=by omega
   go_wp2_with fail
   go_ret
   exact⟨rfl,r⟩
/- The reference journal: the record at a place. -/
end
section
attribute [local go_sem ↓] aV
attribute [local go_sem] opC upC told bG br bH bt bw bI bJ
theorem AU{b c d:Nat}(h:aO G W (.slice (some ⟨b,c,none⟩) l.length d) l)(m:l.length=64):aO G W (.slice (some ⟨b,c+12,none⟩) 48 (d-12)) ((l.drop 12).take 48):=by
 have g:((l.drop 12).take 48).length=48:=by simp;omega
 obtain⟨a,q,f,r,u,v,o⟩:=h;simp at f;obtain⟨rfl,rfl⟩:=f;obtain⟨p,x,L,t,j,e,hF,k,s,n⟩:=o.resolve_left (by rintro rfl;simp at m);simp at e;obtain⟨rfl,rfl⟩:=e;refine⟨some ⟨b,c+12,none⟩,d-12,by rw[g],by omega,by omega,nofun,.inr ⟨b,c+12,L,t,j,rfl,hF,k,by omega,fun i hi=>?_⟩⟩;rw[g] at hi;have:=n (12+i) (by omega);rw[Nat.add_assoc,this]
 congr 2
 rw[List.getElem_take,List.getElem_drop]
theorem cB.at_place{K:RK}(h:cB W K N)(g p:Nat)(n:p<aW N.S.length):
 cm N.S.length g p<N.S.length /\ ∃b f i,W.cell? ⟨K.bs,cm N.S.length g p,none⟩=some (.slice (some ⟨b,f,none⟩) (cN N.S g p).length i) /\ aO K.R W (.slice (some ⟨b,f,none⟩) (cN N.S g p).length i) (cN N.S g p) /\ (cN N.S g p).length=64 /\ 64 <= i /\ i <= maxLen:=by
 have d:=fv N.S.length g p n;refine⟨d,?_⟩;obtain⟨x,o,j⟩:=h.sector _ d;have e:cN N.S g p=N.S[cm N.S.length g p]:=by unfold cN;rw[List.getD_eq_getElem?_getD,List.getElem?_eq_getElem d];rfl
 have c:=h.s64 _ (aC d);rw[<- e] at c j;obtain⟨a,k,rfl,s,m,u,q⟩:=id j;obtain⟨b,f,L,t,r,rfl,-⟩:=q.resolve_left (by intro l;rw[l] at c;simp at c);exact⟨b,f,k,o,j,c,by omega,m⟩
theorem xp(K:RK)(M:MD)(h:cB w K M)(h8:8 <= M.S.length)(g k p:Nat)(hg:g<4294967296)(hk:k <= 65536)(hp:p <= 65536):
 Calls aE 132 #[.pointer (some ⟨K.d,0,none⟩),.int .i64 (g:Int),.int .i64 (k:Int),.int .i64 (p:Int)] w (wQ w (dd M.S g k p)):=by
 have ca:=h.len;have hH:aW M.S.length <= 32768:=by unfold aW;omega
 have aM:∀{u},Below w.heap.size w u -> cB u K M:=fun G=>h.kept G
 obtain⟨bE,b0,c0,-,-⟩:=h.row;have bM:=h.lt K.d (.inl rfl);have bn:∀w0:World,Below w.heap.size w w0 -> ∀u,aJ w0.drew u -> u.cell? ⟨K.d,0,none⟩=some (.slice (some ⟨K.bs,0,none⟩) M.S.length bE):=fun w0 G u hh=>e8 (by rw[G.cell (p:=⟨K.d,0,none⟩) bM];exact c0) hh
 have a0:=pG w M.S.length (by omega) (by omega);obtain⟨H,aR⟩:=aH (aW M.S.length);rw[aR] at hH a0;have aa:=ae aR;have Q0:=ae bn;have bu:=ae a0;have bc:=ae h;clear aR bn a0;have bX:(H:Int) <= 32768:=by omega
 have cg:(p:Int) <= 65536:=by omega
 have b4:(k:Int) <= 65536:=by omega
 have b2:(g:Int) <= 4294967295:=by omega
 have aK:(M.S.length:Int) <= 65536:=by omega
 go_enter func132,ntmps132
 go_wp2_with fail;refine bu.out.mono ?_;rintro e u ⟨rfl,rfl⟩
 by_cases hT:H <= p
 ·have bH:(H:Int) <= (p:Int):=by omega
  have hr:dd M.S g k p=none:=by unfold dd;rw[aa.out,if_pos hT]
  have Hr:=ae hr;clear hr;go_wp2_with fail;go_ret2;rw[Hr.out];exact⟨rfl,Below.refl _ _⟩
 have bH:¬(H:Int) <= (p:Int):=by omega
 obtain⟨ar,bs,os,xs,aX,x,ab,bT,a8⟩:=h.at_place g p (by rw[aa.out];omega);have W:=nG w.drew M.S.length (by omega) (by omega) g p (by omega) (by omega);obtain⟨a,a5⟩:=aH (cN M.S g p);rw[a5] at aX x ab;have qs:∀u,aJ w.drew u -> u.cell? ⟨K.bs,cm M.S.length g p,none⟩=some (.slice (some ⟨bs,os,none⟩) a.length xs):=fun u hh=>e8 aX hh
 have bh:aO K.R w.drew (.slice (some ⟨bs,os,none⟩) a.length xs) a:=x.keep fun _ _ _=>rfl
 have a4:=eV w.drew _ _ _ bh 8 (by omega) (by omega);rw[show((8:Nat):Int)=8 from rfl] at a4;obtain⟨P,hP⟩:=aH (cm M.S.length g p);rw[hP] at W qs ar;have a3:(P:Int)<(M.S.length:Int):=by omega
 have ag:=ae W;have ba:=ae a4;have bC:=ae a5;clear W a4 a5 hP aX x bh ab bT a8;have q0:=Q0.out w (Below.refl _ _);go_wp2_with fail;refine bS aJ (up 11 [511,12,13,514,15]) (by kernel_rfl) ?_;apply aG;rfl;intro u hC;go_simp;exact aF;refine bq rfl rfl (fun KK U=>?_);go_simp;refine ag.out.mono ?_;rintro e u ⟨rfl,rfl⟩;refine⟨_,rfl,bF _,U _ _ ?_⟩;clear U KK;go_simp;apply aG;rfl;intro u hC;go_simp;exact aF;refine bq rfl rfl (fun KK U=>?_);go_simp;refine ba.out.mono ?_;rintro e w3 ⟨rfl,an⟩;have an:d7 w.drew w3:=an;refine⟨_,rfl,an.later,U _ _ ?_⟩;clear U KK;go_simp;apply aG;rfl;intro u hC;go_simp;exact aF;refine aY ?_;have b3:Below w.heap.size w w3:=(Below.refl _ _).drew.trans an.below;clear q0 qs an ag ba ar a3
 have bl:dd M.S g k p=if 65536<bK a 8 \/ H<p+takes (bK a 8) then none else
  if dx M.S g k p (bK a 8) (takes (bK a 8)) then some ((eq M.S g p (takes (bK a 8))).take (bK a 8)) else none:=by
  unfold dd;rw[aa.out,if_neg hT,bC.out]
 have ce:bK a 8<4294967296:=lW _ _;generalize bK a 8=n at *;have aP:=ae bl;clear bl
 by_cases hn:65536<n
 ·have aK:(65536:Int)<(n:Int):=by omega
  have bO:decide ((65536:Int)<(n:Int))=true:=decide_eq_true aK;go_wp2_with fail;go_ret2;rw[aP.out,if_pos (.inl hn)];exact⟨rfl,b3⟩
 have aK:¬(65536:Int)<(n:Int):=by omega
 have bO:decide ((65536:Int)<(n:Int))=false:=decide_eq_false aK;have cf:(n:Int) <= 65536:=by omega
 have bP:=dy n;have bQ:takes n <= 1366:=by unfold takes;omega
 have a7:=fun w0=>lG w0 n (by omega)
 obtain⟨T,aT⟩:=aH (takes n);have HT:=ae aT;rw[aT] at bP bQ a7;have bd:=ae a7;clear aT a7;have bY:(T:Int) <= 1366:=by omega
 go_wp2_with fail;refine(bd.out w3).mono ?_;rintro e u ⟨rfl,rfl⟩
 by_cases bL:H<p+T
 ·have bJ:(H:Int)<(p:Int)+(T:Int):=by omega
  go_wp2_with fail;go_ret2;rw[aP.out,HT.out,if_pos (.inr bL)];exact⟨rfl,b3⟩
 have bJ:¬(H:Int)<(p:Int)+(T:Int):=by omega
 have bm:dd M.S g k p=if dx M.S g k p n T then some ((eq M.S g p T).take n) else none:=by
  rw[aP.out,HT.out,if_neg (by omega)]
 have bb:=ae bm;clear bm;go_wp2_with fail
 go_loopw [12,13] (fun v i wr=>zD w M.S g k p n T v i wr) (fun _ i _=>T-(intOf i).toNat)
 case atStart=>exact⟨0,by omega,rfl,rfl,World.ownsRow_nil _ _ _ _,b3⟩
 case round=>
  obtain⟨m,hm,rfl,ax,aL,al⟩:=hrel;go_wp2_with fail;refine(bd.out wr).mono ?_;rintro e u ⟨rfl,rfl⟩
  by_cases cc:m<T
  ·have bN:(m:Int)<(T:Int):=by omega
   have aS:takes n=max 1 ((n+47)/48):=rfl;have bG:48*m <= n:=by have:=HT.out;omega
   have bR:=af ((p:Int)+(m:Int)) (by omega);obtain⟨ar,C,D,A,aZ,aU,ab,ch,a8⟩:=(aM al).at_place g (p+m) (by rw[aa.out];omega);have W:=nG wr.drew M.S.length (by omega) (by omega) g (p+m) (by omega) (by omega);obtain⟨a,aN⟩:=aH (cN M.S g (p+m));rw[aN] at aZ aU ab;rw[show((p+m:Nat):Int)=(p:Int)+(m:Int) by omega] at W
   have a6:dx M.S g k p n (m+1)=cD a g k (n-48*m):=by
    simp only[dx,ax,aN,Bool.true_and]
   have be:cD a g k (n-48*m)=false -> dd M.S g k p=none:=fun G=>by
    rw[bb.out,if_neg];intro hh;have:=iT M.S g k p n (m+1) (T-(m+1)) (by rw[show m+1+(T-(m+1))=T by omega];exact hh);rw[a6,G] at this;cases this
   have bg:eq M.S g p (m+1)=eq M.S g p m++(a.drop 12).take 48:=by
    simp only[eq,aN]
   have qs:∀u,aJ wr.drew u -> u.cell? ⟨K.bs,cm M.S.length g (p+m),none⟩=some (.slice (some ⟨C,D,none⟩) a.length A):=fun u hh=>e8 aZ hh
   obtain⟨P,hP⟩:=aH (cm M.S.length g (p+m));rw[hP] at W qs ar;have a3:(P:Int)<(M.S.length:Int):=by omega
   have ag:=ae W;have bD:=ae a6;have az:=ae be;have br:=ae bg;have a9:=ae aL;have bU:=ae ax;have E:=ae ab;have ci:(64:Int) <= (A:Int):=by omega
   have B:=ae aU;clear W a6 be bg aL ax aN aS hP aZ aU ab a8;have q0:=Q0.out wr al;go_wp2_with fail;refine bS aJ (up 13 [513,14,15,16]) (by kernel_rfl) ?_;apply aG;rfl;intro u hC;go_simp;exact aF;refine bq rfl rfl (fun KK U=>?_);go_simp;refine ag.out.mono ?_;rintro e u ⟨rfl,rfl⟩;refine⟨_,rfl,bF _,U _ _ ?_⟩;clear U KK;go_simp;apply aG;rfl;intro u hC;go_simp;exact aF;refine aY ?_;clear q0 qs ag ar a3 bR;obtain⟨y,ay⟩:=aQ wr.drew;have l:Below w.heap.size w y:=by rw[ay];exact al.drew
   have B:Hid (aO K.R y (.slice (some ⟨C,D,none⟩) a.length A) a):=ae (by rw[ay];exact B.out.keep fun _ _ _=>rfl);have bw:=ae (show y.ownsRow w.heap.size 5 1 _ _ _ from by rw[ay];exact g6 a9.out (Below.refl _ _).drew);rw[<- ay];clear ay al a9;cases Z:dm a with
   |false=>
    have G:cD a g k (n-48*m)=false:=by simp[cD,Z]
    have x:=B.out;go_wp2_with fail;refine(ec y _ _ _ x E.out).mono ?_;rintro e r ⟨rfl,o⟩;have o:d7 y r:=o;have b6:Below w.heap.size w r:=l.trans (o.below.mono l.size);have I:aO K.R r (.slice (some ⟨C,D,none⟩) a.length A) a:=x.keep fun b _ _=>by rw[o.heap]
    rw[Z];clear x;clear I;go_wp2_with fail;go_ret2;rw[az.out G];exact⟨rfl,b6⟩
   |true=>
   by_cases Q:bK a 0=g
   ·have n0:((bK a 0:Int) != (g:Int))=false:=by simp[Q]
    by_cases X:bK a 4=k
    ·have n4:((bK a 4:Int) != (k:Int))=false:=by simp[X]
     by_cases ai:bK a 8=n-48*m
     ·have n8:((bK a 8:Int) != (n:Int)-48*(m:Int))=false:=by simp;omega
      have bk:cD a g k (n-48*m)=true:=by simp[cD,Z,Q,X,ai]
      have bv:=ae bk;have H0:=ae Q;have H4:=ae X;have H8:=ae ai;clear bk Q X ai;have x:=B.out;go_wp2_with fail;refine(ec y _ _ _ x E.out).mono ?_;rintro e r ⟨rfl,o⟩;have o:d7 y r:=o;have b6:Below w.heap.size w r:=l.trans (o.below.mono l.size);have I:aO K.R r (.slice (some ⟨C,D,none⟩) a.length A) a:=x.keep fun b _ _=>by rw[o.heap]
      rw[Z];clear x;have J:=I;have f:=ae (eV r _ _ _ J 0 (by rw[E.out];omega) (by omega));rw[show((0:Nat):Int)=0 from rfl] at f;clear J I;go_wp2_with fail;refine f.out.mono ?_;rintro e t ⟨rfl,c⟩;have c:d7 r t:=c;have F:d7 y t:=o.trans c;have b7:Below w.heap.size w t:=l.trans (F.below.mono l.size);have L:aO K.R t (.slice (some ⟨C,D,none⟩) a.length A) a:=B.out.keep fun b _ _=>by rw[F.heap]
      clear c f;have V:=L;have f:=ae (eV t _ _ _ V 4 (by rw[E.out];omega) (by omega));rw[show((4:Nat):Int)=4 from rfl] at f;clear V L;go_wp2_with fail;refine f.out.mono ?_;rintro e z ⟨rfl,c⟩;have c:d7 t z:=c;have N:d7 y z:=F.trans c;have b8:Below w.heap.size w z:=l.trans (N.below.mono l.size);have Y:aO K.R z (.slice (some ⟨C,D,none⟩) a.length A) a:=B.out.keep fun b _ _=>by rw[N.heap]
      clear c f;have ak:=Y;have f:=ae (eV z _ _ _ ak 8 (by rw[E.out];omega) (by omega));rw[show((8:Nat):Int)=8 from rfl] at f;clear ak Y;go_wp2_with fail;refine f.out.mono ?_;rintro e O ⟨rfl,c⟩;have c:d7 z O:=c;have ad:d7 y O:=N.trans c;have b9:Below w.heap.size w O:=l.trans (ad.below.mono l.size);have aI:aO K.R O (.slice (some ⟨C,D,none⟩) a.length A) a:=B.out.keep fun b _ _=>by rw[ad.heap]
      clear c f;have a1:=g6 bw.out ad.below;have ao:(eq M.S g p m).length=48*m:=gu _ (fun s hs=>bc.out.s64 s hs) _ _ _ (fun j hj=>fv _ _ _ (by rw[aa.out];omega));obtain⟨vB,wB,bZ,a2,bj⟩:=cY O w.heap.size _ _ a1 _ _ _ (AU aI E.out) (by rw[ao];simp;omega) b9.size;rw[<- br.out] at a2
      have bB:Below w.heap.size w wB:=b9.grown bj b9.size (fun q hq=>by
       rcases a1.2 with⟨h,_⟩|⟨g',bV,bW,h,cb,_⟩
       ·rw[h] at hq;cases hq
       ·rw[h] at hq;simp[Value.ownBlock] at hq;omega)
      have bz:=ae a2;clear a2 a1 bj ao aI;go_wp2_with fail
      go_roundw
      case rel=>exact⟨m+1,by omega,by go_num,by rw[bD.out];exact bv.out,bz.out,bB⟩
      case measure=>simp[intOf];omega
     ·have n8:((bK a 8:Int) != (n:Int)-48*(m:Int))=true:=by simp;omega
      have G:cD a g k (n-48*m)=false:=by simp[cD,ai]
      clear Q X ai;have x:=B.out;go_wp2_with fail;refine(ec y _ _ _ x E.out).mono ?_;rintro e r ⟨rfl,o⟩;have o:d7 y r:=o;have b6:Below w.heap.size w r:=l.trans (o.below.mono l.size);have I:aO K.R r (.slice (some ⟨C,D,none⟩) a.length A) a:=x.keep fun b _ _=>by rw[o.heap]
      rw[Z];clear x;have J:=I;have f:=ae (eV r _ _ _ J 0 (by rw[E.out];omega) (by omega));rw[show((0:Nat):Int)=0 from rfl] at f;clear J I;go_wp2_with fail;refine f.out.mono ?_;rintro e t ⟨rfl,c⟩;have c:d7 r t:=c;have F:d7 y t:=o.trans c;have b7:Below w.heap.size w t:=l.trans (F.below.mono l.size);have L:aO K.R t (.slice (some ⟨C,D,none⟩) a.length A) a:=B.out.keep fun b _ _=>by rw[F.heap]
      clear c f;have V:=L;have f:=ae (eV t _ _ _ V 4 (by rw[E.out];omega) (by omega));rw[show((4:Nat):Int)=4 from rfl] at f;clear V L;go_wp2_with fail;refine f.out.mono ?_;rintro e z ⟨rfl,c⟩;have c:d7 t z:=c;have N:d7 y z:=F.trans c;have b8:Below w.heap.size w z:=l.trans (N.below.mono l.size);have Y:aO K.R z (.slice (some ⟨C,D,none⟩) a.length A) a:=B.out.keep fun b _ _=>by rw[N.heap]
      clear c f;have ak:=Y;have f:=ae (eV z _ _ _ ak 8 (by rw[E.out];omega) (by omega));rw[show((8:Nat):Int)=8 from rfl] at f;clear ak Y;go_wp2_with fail;refine f.out.mono ?_;rintro e O ⟨rfl,c⟩;have c:d7 z O:=c;have ad:d7 y O:=N.trans c;have b9:Below w.heap.size w O:=l.trans (ad.below.mono l.size);have aI:aO K.R O (.slice (some ⟨C,D,none⟩) a.length A) a:=B.out.keep fun b _ _=>by rw[ad.heap]
      clear c f;clear aI;go_wp2_with fail;go_ret2;rw[az.out G];exact⟨rfl,b9⟩
    ·have n4:((bK a 4:Int) != (k:Int))=true:=by simp;omega
     have G:cD a g k (n-48*m)=false:=by simp[cD,X]
     clear Q X;have x:=B.out;go_wp2_with fail;refine(ec y _ _ _ x E.out).mono ?_;rintro e r ⟨rfl,o⟩;have o:d7 y r:=o;have b6:Below w.heap.size w r:=l.trans (o.below.mono l.size);have I:aO K.R r (.slice (some ⟨C,D,none⟩) a.length A) a:=x.keep fun b _ _=>by rw[o.heap]
     rw[Z];clear x;have J:=I;have f:=ae (eV r _ _ _ J 0 (by rw[E.out];omega) (by omega));rw[show((0:Nat):Int)=0 from rfl] at f;clear J I;go_wp2_with fail;refine f.out.mono ?_;rintro e t ⟨rfl,c⟩;have c:d7 r t:=c;have F:d7 y t:=o.trans c;have b7:Below w.heap.size w t:=l.trans (F.below.mono l.size);have L:aO K.R t (.slice (some ⟨C,D,none⟩) a.length A) a:=B.out.keep fun b _ _=>by rw[F.heap]
     clear c f;have V:=L;have f:=ae (eV t _ _ _ V 4 (by rw[E.out];omega) (by omega));rw[show((4:Nat):Int)=4 from rfl] at f;clear V L;go_wp2_with fail;refine f.out.mono ?_;rintro e z ⟨rfl,c⟩;have c:d7 t z:=c;have N:d7 y z:=F.trans c;have b8:Below w.heap.size w z:=l.trans (N.below.mono l.size);have Y:aO K.R z (.slice (some ⟨C,D,none⟩) a.length A) a:=B.out.keep fun b _ _=>by rw[N.heap]
     clear c f;clear Y;go_wp2_with fail;go_ret2;rw[az.out G];exact⟨rfl,b8⟩
   ·have n0:((bK a 0:Int) != (g:Int))=true:=by simp;omega
    have G:cD a g k (n-48*m)=false:=by simp[cD,Q]
    clear Q;have x:=B.out;go_wp2_with fail;refine(ec y _ _ _ x E.out).mono ?_;rintro e r ⟨rfl,o⟩;have o:d7 y r:=o;have b6:Below w.heap.size w r:=l.trans (o.below.mono l.size);have I:aO K.R r (.slice (some ⟨C,D,none⟩) a.length A) a:=x.keep fun b _ _=>by rw[o.heap]
    rw[Z];clear x;have J:=I;have f:=ae (eV r _ _ _ J 0 (by rw[E.out];omega) (by omega));rw[show((0:Nat):Int)=0 from rfl] at f;clear J I;go_wp2_with fail;refine f.out.mono ?_;rintro e t ⟨rfl,c⟩;have c:d7 r t:=c;have F:d7 y t:=o.trans c;have b7:Below w.heap.size w t:=l.trans (F.below.mono l.size);have L:aO K.R t (.slice (some ⟨C,D,none⟩) a.length A) a:=B.out.keep fun b _ _=>by rw[F.heap]
    clear c f;clear L;go_wp2_with fail;go_ret2;rw[az.out G];exact⟨rfl,b7⟩
  ·have bN:¬(m:Int)<(T:Int):=by omega
   obtain rfl:m=T:=by omega
   have aS:takes n=max 1 ((n+47)/48):=rfl;have bG:n <= 48*m:=by have:=HT.out;omega
   have ao:(eq M.S g p m).length=48*m:=gu _ (fun s hs=>bc.out.s64 s hs) _ _ _ (fun j hj=>fv _ _ _ (by rw[aa.out];omega));have aV:=aO.of_owns aL (fun q=>w.heap.size <= q /\ q<wr.heap.size) (fun q h1 h2=>⟨h1,h2⟩);have aM:dd M.S g k p=some ((eq M.S g p m).take n):=by rw[bb.out,if_pos ax]
   generalize eq M.S g p m=bo at *;obtain⟨av,cv,rfl,bI,cd,-,-⟩:=id aV;have bi:=aV.take n (by omega);have bf:(bo.take n).length <= 65536:=by simp;omega
   have bA:=ae aM;have bt:=ae bi;have bp:=ae bf;clear aM bi bf aV aL ax aS;rw[ao] at bI⊢;clear ao;have b1:(n:Int) <= (cv:Int):=by omega
   go_wp2_with fail;go_ret2;rw[bA.out];exact⟨⟨_,rfl,bt.out,bp.out⟩,al⟩
/- The reference journal: Open. -/
end
section
attribute [local go_sem ↓] aV
attribute [local go_sem] opC upC told bG br bH bt bw bI bJ
structure RJK where
 j:Nat
 K:RK
 O:aX
def RJK.all(k:RJK):aX:=fun b=>b=k.j \/ k.K.all b \/ k.O b
structure jJ(w:World)(k:RJK)(M:MD)(J:MJ):Prop where
 ref:cB w k.K M
 recs:∃ra rc R,gy w k.j k.K.d J.g (.slice ra J.L.length rc) J.dead /\ bX R w 0 (.slice ra J.L.length rc) J.L /\ (∀b,(Value.slice ra J.L.length rc).ownBlock=some b \/ R b -> k.O b)
 apart:¬k.K.all k.j /\ (∀b,k.O b -> b≠k.j /\ ¬k.K.all b /\ b<w.heap.size)
 size8:8 <= M.S.length
 room:aM J.L <= aW M.S.length
 gen:J.g<4294967296
 lens:∀b∈J.L,b.length <= 65536
theorem jJ.keep{w w':World}{k:RJK}{M:MD}{J:MJ}(h:jJ w k M J)(d:∀b,k.all b -> w'.heap[b]?=w.heap[b]?)(f:w.heap.size <= w'.heap.size):jJ w' k M J:=by
 obtain⟨g,⟨p,q,R,i,j,e⟩,c,l,m,n,o⟩:=h;exact⟨g.keep (fun b a=>d b (.inr (.inl a))) f,⟨p,q,R,Blk.keep i (d _ (.inl rfl)),j.keep fun b a _=>d b (.inr (.inr (e b a))),e⟩,⟨c.1,fun b a=>⟨(c.2 b a).1,(c.2 b a).2.1,aw (c.2 b a).2.2 f⟩⟩,l,m,n,o⟩
theorem jJ.lt{w:World}{k:RJK}{M:MD}{J:MJ}(h:jJ w k M J):∀b,k.all b -> b<w.heap.size:=by
 rintro b (rfl|a|a)
 ·obtain⟨d,e,R,c,_⟩:=h.recs;exact Blk.lt c
 ·exact h.ref.lt b a
 ·exact(h.apart.2 b a).2.2
theorem jJ.kept{k:RJK}{J:MJ}(h:jJ W k N J)(a:Below W.heap.size W w'):jJ w' k N J:=h.keep (fun b c=>a.block b (h.lt b c)) a.size
theorem jJ.only{k:RJK}{J:MJ}{F:aX}(h:jJ W k N J)(c:aT F W w')(d:∀b,k.all b -> ¬F b):jJ w' k N J:=h.keep (fun b a=>c.block b (h.lt b a) (d b a)) c.size
def lenOf(rb:Nat)(wr:World):Nat:=match wr.cell? ⟨rb,2,none⟩ with
 |some (.slice _ n _)=>n
 |_=>0
def DA(w:World)(rb d g:Nat)(S:List (List UInt8))(v:Value)(wr:World):Prop:=
 ∃(a:Option Addr)(c:Nat)(R:aX)(L:List (List UInt8)),v=v /\ gy wr rb d g (.slice a L.length c) false /\ bX R wr (rb+1) (.slice a L.length c) L /\
  (∀b,R b -> rb<b /\ b<wr.heap.size) /\ aM L <= aW S.length /\ (∀b∈L,b.length <= 65536) /\
  dE S g (aW S.length+1) 0 0=L++dE S g (aW S.length+1-L.length) L.length (aM L) /\ Below w.heap.size w wr
def AW(w:World)(K:RK)(M:MD)(r:MJ ⊕ Int)(e:Ending)(d:World):Prop:=
 (match r with
  |.inr c=>e=.returned (.tuple #[.pointer none,.int .i64 c])
  |.inl J=>∃a,e=.returned (.tuple #[.pointer (some ⟨a.j,0,none⟩),.int .i64 0]) /\ a.K=K /\ jJ d a M J /\ ∀b,a.all b -> K.all b \/ w.heap.size <= b) /\ Below w.heap.size w d
theorem bX.lower{S:List (List UInt8)}(h:bX G W i u S)(l:j <= i):bX G W j u S:=by
 obtain⟨k,⟨d,a⟩,e,f⟩:=h;refine⟨k,⟨d,?_⟩,e,f⟩;rcases a with a|⟨g,b,c,rfl,m,r⟩
 ·exact .inl a
 ·exact .inr ⟨g,b,c,rfl,by omega,r⟩
theorem AX(K:RK)(M:MD)(h:cB w K M):
 Calls aE 77 #[.pointer (some ⟨K.d,0,none⟩)] w (AW w K M (fN M)):=by
 have bu:=h.len;obtain⟨bo,bs,c0,c1,-⟩:=h.row
 by_cases h8:M.S.length<8
 ·have B:=ae (show fN M=.inr 6 by unfold fN;rw[if_pos h8]);have be:(M.S.length:Int)<8:=by omega
  go_enter func77,ntmps77
  go_wp2_with fail;go_ret2;rw[B.out];exact⟨rfl,Below.refl _ _⟩
 have be:¬(M.S.length:Int)<8:=by omega
 by_cases J:M.down=true
 ·have B:=ae (show fN M=.inr 341 by unfold fN;rw[if_neg h8,if_pos J]);rw[J] at c1
  go_enter func77,ntmps77
  go_wp2_with fail;go_ret2;rw[B.out];exact⟨rfl,Below.refl _ _⟩
 have bi:M.down=false:=by simpa using J
 have B:=ae (show fN M=match genM M.S with|none=>.inr 340|some g=>.inl ⟨g,dE M.S g (aW M.S.length+1) 0 0,false⟩ by unfold fN;rw[if_neg h8,if_neg J];rfl);rw[bi] at c1;clear J;have G:=ae (Cz w K M h (by omega));have D:=zE M.S;have X:=oG M.S 2;obtain⟨st,ao⟩:=aH (fQ M.S 2);rw[ao] at D X G;obtain⟨fd,g⟩:=st;dsimp only at D X;have bf:=h.lt;have ax:=ae h;cases fd with
 |false=>
  have y:=B.out;rw[D] at y;have aa:=ae y;rw[show gv (false,g) = -1 from rfl] at G;clear y D ao h
  go_enter func77,ntmps77
  go_wp2_with fail;refine G.out.mono ?_;rintro e F ⟨rfl,I⟩;go_wp2_with fail;go_ret2;rw[aa.out];exact⟨rfl,I.below⟩
 |true=>
  have y:=B.out;rw[D] at y;have aa:=ae y;rw[show gv (true,g)=(g:Int) from rfl] at G;clear y D ao h
  go_enter func77,ntmps77
  go_wp2_with fail;refine G.out.mono ?_;rintro e F ⟨rfl,I⟩;have T:=I.below;have bt:¬((g:Nat):Int)<0:=by omega
  obtain⟨rb,Y⟩:=aQ F.heap.size
  have aO:gy (F.alloc (.cells #[.pointer (some ⟨K.d,0,none⟩),.int .i64 (g:Int),.slice none 0 0,.bool false] 121)) rb K.d g (.slice none 0 0) false:=by
   rw[Y];exact Blk.new F #[.pointer (some ⟨K.d,0,none⟩),.int .i64 (g:Int),.slice none 0 0,.bool false] 121
  have aS:Below w.heap.size w (F.alloc (.cells #[.pointer (some ⟨K.d,0,none⟩),.int .i64 (g:Int),.slice none 0 0,.bool false] 121)):=Below.alloc T T.size _;have aX:w.heap.size <= rb:=by have:=T.size;omega
  have a2:∀{i},Below w.heap.size w i -> cB i K M:=fun a=>ax.out.kept a
  have a5:=ae Y;have W:F.heap.size=w.heap.size:=by rw[I.heap]
  have a7:=ae W;clear c0 c1 I T W;go_wp2_with fail;rw[<- Y];clear Y
  go_loopw [28] (fun v wr=>DA w rb K.d g M.S v wr) (fun _ wr=>aW M.S.length+1-lenOf rb wr)
  case atStart=>exact⟨none,0,none_,[],rfl,by simpa using aO,bX.nil _ _,fun b a=>a.elim,by simp[aM],by simp,by simp[aM],aS⟩
  case round=>
   clear aO aS;obtain⟨o,p,R,L,-,u,A,Q,bm,ak,Z,H⟩:=hrel;have bp:=dB L;have hH:aW M.S.length <= 32768:=by unfold aW;omega
   have ar:=H.size;have aP:=Blk.lt u;have ht:=nH wr.drew rb K.d g _ false (show gy wr.drew rb K.d g _ false from u) R L ((A.lower (Nat.zero_le _)).kept (Below.refl _ _).drew) (by omega) (by omega) ak;have aU:=xp wr.drew K M ((a2 H).kept (Below.refl _ _).drew) (by omega) g L.length (aM L) X (by omega) (by omega);have Ht:=ae ht;have ab:=ae aU;have O:∀i,aJ wr.drew i -> i.cell? ⟨rb,2,none⟩=some (.slice o L.length p):=fun i hh=>e8 (by simpa using u.cell 2) hh
   clear ht aU;go_wp2_with fail;refine bS aJ (up 8 [508,509,10,11,12,13,14]) (by kernel_rfl) ?_;apply aG;rfl;intro i P;go_simp;exact aF;refine bq rfl rfl (fun j f=>?_);go_simp;refine Ht.out.mono ?_;rintro e i ⟨rfl,rfl⟩;refine⟨_,rfl,bF _,f _ _ ?_⟩;clear f j;go_simp;refine bq rfl rfl (fun j f=>?_);go_simp;refine ab.out.mono ?_;rintro e c ⟨E,U⟩;cases z:dd M.S g L.length (aM L) with
   |none=>
    rw[z] at E;dsimp only at E;subst E;refine⟨_,rfl,U,f _ _ ?_⟩;clear f j O Ht ab;go_simp;apply aG;rfl;intro i P;go_simp;exact aF;refine aY ?_;have l:Below wr.heap.size wr c:=(Below.refl _ _).drew.trans U;have ay:dE M.S g (aW M.S.length+1) 0 0=L:=by rw[Z,kw z,List.append_nil]
    have a4:=ae ay;clear ay Z z;go_wp2_with fail;go_ret2;rw[aa.out];simp only[if_true];rw[a4.out];have aR:=bf;have W:=a7.out;have bn:=l.size;refine⟨⟨⟨rb,K,fun b=>(Value.slice o L.length p).ownBlock=some b \/ R b⟩,rfl,rfl,⟨a2 (H.trans (l.mono ar)),⟨o,p,R,Blk.keep u (l.block rb aP),(A.lower (Nat.zero_le _)).kept l,fun b a=>a⟩,⟨fun h=>by have h1:rb<w.heap.size:=aR _ h;have:=a5.out;have:=W;omega,fun b a=>?_⟩,by show 8 <= M.S.length;omega,bm,X,ak⟩,?_⟩,H.trans (l.mono ar)⟩
    ·have h1:rb<b /\ b<wr.heap.size:=by
      rcases a with a|a
      ·have:=A.own a;omega
      ·exact Q b a
     exact⟨by show b≠rb;omega,fun h=>by have:=aR _ h;omega,by show b<c.heap.size;omega⟩
    ·rintro b (a|a|a)
     ·exact .inr (by rw[a];exact aX)
     ·exact .inl a
     ·right;rcases a with a|a
      ·have:=A.own a;omega
      ·have:=Q b a;omega
   |some k=>
    rw[z] at E;dsimp only at E;obtain⟨v,rfl,ag,bg⟩:=E;refine⟨_,rfl,U,f _ _ ?_⟩;clear f j O Ht ab;go_simp;apply aG;rfl;intro i P;go_simp;exact aF;refine aY ?_;have l:Below wr.heap.size wr c:=(Below.refl _ _).drew.trans U;obtain⟨bj,-⟩:=oH ax.out.s64 z
    have aV:dE M.S g (aW M.S.length+1) 0 0=(L++[k])++dE M.S g (aW M.S.length+1-(L++[k]).length) (L++[k]).length (aM (L++[k])):=by
     rw[Z,show aW M.S.length+1-L.length=(aW M.S.length-L.length)+1 by omega,kC z,d9];simp
    have ai:gy c rb K.d g (.slice o L.length p) false:=Blk.keep u (l.block rb aP);have aZ:=A.kept l;have bh:=H.trans (l.mono ar);have bn:=l.size;have bw:=dy k.length;have a8:Hid (lenOf rb wr=L.length):=ae (by unfold lenOf;rw[u.cell 2];rfl);obtain⟨xa,xc,r,bl,bk,N,C,aN⟩:=pF c.drew _ v k (ag.keep fun b _ _=>rfl) (by omega);change(AP _ _ #[.slice (some ⟨c.heap.size,0,none⟩) 0 0,_]).run _ (c.alloc _).drew=_ at bl;clear bk;have bv:c.heap.size <= r.heap.size:=N.size;have a0:bX R r (rb+1) (.slice o L.length p) L:=(aZ.kept (w':=c.drew) (Below.refl _ _).drew).kept N;obtain⟨s,t,n,br,an,m⟩:=a0.append aN (fun b a=>a.2.2) (by omega) (by omega);have ad:Blk r rb _ _:=(Blk.keep (w':=c.drew) ai rfl).keep (N.block rb (show rb<c.heap.size by omega));have al:∀q,Value.ownBlock (.slice o L.length p)=some q -> rb+1 <= q /\ q<wr.heap.size /\ ¬R q:=fun q x=>A.own x
    have V:Blk n rb [.pointer (some ⟨K.d,0,none⟩),.int .i64 (g:Int),.slice o L.length p,.bool false] 121:=(ad.alloc _).keep (m.block _ (by have:=ad.lt;simp;omega) (fun e=>by have:=al _ e.symm;omega));have k0:bL (fun b=>rb<b) c.drew (c.alloc (.cells #[] 5)).drew:=bL.of_below (aI c.drew _)
    have k1:bL (fun b=>rb<b) (c.alloc (.cells #[] 5)).drew r:=⟨C.os,C.tape,C.output,C.size,fun q x hn=>C.block q x (fun e=>hn (by simp at e;have:c.drew.heap.size=c.heap.size:=rfl;omega))⟩
    have k2:bL (fun b=>rb<b) r (r.alloc (.cells #[.slice xa k.length xc] 41)):=bL.of_below (aI _ _)
    have k3:bL (fun b=>rb<b) (r.alloc (.cells #[.slice xa k.length xc] 41)) n:=⟨m.os,m.tape,m.output,m.size,fun q x hn=>m.block q x (fun e=>hn (by have:=al _ e.symm;omega))⟩
    have aK:Below w.heap.size w n:=((bh.drew.trans (N.mono (show w.heap.size <= c.heap.size by omega))).alloc (by omega) _).grown m (by simp;omega) (fun q x=>by have:=al q x;omega);have O:=V.cell 2;have f2:=V.free 2;simp at O;have az:=V.set 2 (.slice s (L.length+1) t)
    have a1:bX _ (n.setCell ⟨rb,2,none⟩ (.slice s (L.length+1) t)) (rb+1) (.slice s (L.length+1) t) (L++[k]):=an.keep fun b a _=>Below.heap_setCell _ ⟨rb,2,none⟩ _ b (by
     rcases a with a|a|a
     ·have:=(an.own a).1;show b≠rb;omega
     ·have:=Q b a;show b≠rb;omega
     ·have:c.drew.heap.size=c.heap.size:=rfl;have:=a.1;show b≠rb;omega)
    have aL:Below w.heap.size w (n.setCell ⟨rb,2,none⟩ (.slice s (L.length+1) t)):=aK.setCell aX _
    have q2:∀i,bL (fun b=>rb<b) c.drew i -> i.cell? ⟨rb,2,none⟩=some (.slice o L.length p):=fun i hh=>by
     simpa using(Blk.keep (w':=i) ai (hh.block rb (show rb<c.heap.size by omega) (by omega))).cell 2
    obtain⟨va,vc,rfl,-⟩:=id ag;have a3:n.heap.size ≥ r.heap.size:=by have:=m.size;simp at this;omega
    have av:=ae az;have bc:=ae a1;have a6:=ae aL;have ba:=ae aV;have aT:(n.setCell ⟨rb,2,none⟩ (.slice s (L.length+1) t)).heap.size=n.heap.size:=by simp[World.setCell]
    have a9:=ae aT;have bd:=ae a3;clear az a1 aL aK an V a0 aN m C N ad A aZ ag aV Z z u ai aT a3;go_wp2_with fail;refine dP (bL (fun b=>rb<b)) 12 (up 5 [6,505,507,508,509,10,11,512]) (by kernel_rfl) ?_;apply bM;rfl;intro i P;go_simp;exact aF;refine cU rfl rfl (fun j f=>?_);go_simp;refine f _ _ ?_;clear f j;go_simp;refine cU rfl rfl (fun j f=>?_);go_simp;refine f _ _ ?_;clear f j;go_simp;refine cU rfl rfl (fun j f=>?_);go_simp;refine f _ _ ?_;clear f j;go_simp;refine cU rfl rfl (fun j f=>?_);go_simp;refine f _ _ ?_;clear f j;go_simp;apply bM;rfl;intro i P;go_simp;exact aF;refine cZ rfl rfl rfl (fun j f=>?_);go_simp;refine f _ _ ?_;clear f j;go_simp;refine dt ?_;go_wp2_with fail
    go_roundw
    case rel=>
     refine⟨s,t,_,L++[k],rfl,by simpa[gy] using av.out,by simpa using bc.out,fun b a=>?_,by rw[d9];exact bj,fun b a=>?_,ba.out,a6.out⟩
     ·have h5:=a9.out;have hz:=bd.out;rcases a with a|a
      ·have:=Q b a;omega
      ·have:c.drew.heap.size=c.heap.size:=rfl;have h1:=a.1;have h2:=a.2.1;omega
     ·rcases List.mem_append.1 a with a|a
      ·exact ak b a
      ·obtain rfl:=List.mem_singleton.1 a;exact bg
    case measure=>
     have e4:lenOf rb (n.setCell ⟨rb,2,none⟩ (.slice s (L.length+1) t))=L.length+1:=by unfold lenOf;rw[av.out.cell 2];rfl
     rw[e4,a8.out];omega
/- The reference journal: Records, Room. -/
end
section
attribute [local go_sem ↓] aV
attribute [local go_sem] opC upC told bG br bH bt bw bI bJ
end
end Go.Proofs.YtobjdpngnfbicaaGreatDoor
