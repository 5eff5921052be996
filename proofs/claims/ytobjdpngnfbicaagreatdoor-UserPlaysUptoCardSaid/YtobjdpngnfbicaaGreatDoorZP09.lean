/-
  J6 J7 J8 J9 JL1 JL2 JL3 UCat VState RRdS RDecF RDecG
-/
import Derived.Test.YtobjdpngnfbicaaGreatDoorZP08
import Derived.Lib.SlBytesConst
import Derived.Lib.AppendZerosOnto
open Go.IntWalk renaming i64_in->af,i64_quo->ah,u32_in->aj,rem_in->am,u8_in->ap
open Nat renaming le_refl->aq,le_trans->au,lt_of_lt_of_le->aw
open List renaming length_append->aA,append_assoc->aB,getElem_mem->aC,length_cons->aD
open Go.Proofs.Tryz renaming prog->aE
set_option maxHeartbeats 8000000
set_option maxRecDepth 100000
set_option linter.all false
namespace Go.Proofs.YtobjdpngnfbicaaGreatDoor
open Go.RowKit
open Go.Proofs.Tryz
variable(w:World)(F:aQ)(n k:Nat)(v:Value)(b:List UInt8)(M:MD){W w':World}{G:aQ}{u:Value}{i j:Nat}{l:List UInt8}{r:aT}
section
attribute [local go_sem] opC upC told bE bm bF bp bq bG bH
theorem ec(b:List (Nat×List UInt8)):∀M:MD,(bD M b).1.S.length=M.S.length /\ (bD M b).1.writes <= M.writes+b.length:=by
 induction b with
 |nil=>intro M;exact⟨rfl,aq _⟩
 |cons x b e=>
  intro M;obtain⟨a,s⟩:=x;have c:=nZ M a s;unfold bD;split
  ·have d:=e (M.wr a s).1;simp only[aD];exact⟨d.1.trans c.1,by omega⟩
  ·simp only[aD];exact⟨c.1,by omega⟩
def jN(a:Bool)(n:Nat)(f:Int):Int:=if a then 341 else if 65536<n then 2 else if f<(takes n:Int) then 7 else 0
theorem mQ{a:Bool}{f:Int}(h:jN a i f=0):a=false /\ i <= 65536 /\ (takes i:Int) <= f:=by
 unfold jN at h;cases a
 ·by_cases b:65536<i
  ·simp[b] at h
  ·by_cases c:f<(takes i:Int)
   ·simp[b,c] at h
   ·exact⟨rfl,by omega,by omega⟩
 ·simp at h
theorem vL(h p g r:Nat)(q:Value)(c:Bool)(m:d9 w h p g q r c)(F:aQ)(v:Value)(l:List UInt8)(o:aO F w v l)(f:Nat)(x:f <= 65536):
 Calls aE 88 #[.pointer (some ⟨h,0,none⟩),v,.int .i64 (f:Int)] w λe i=>e=.returned (.int .i64 (jN c l.length (f:Int))) /\ w=i:=by
 obtain⟨a,s,rfl,u,b,-,-⟩:=o;have j:=m.cell 4;simp at j;cases c with
 |true=>
  go_enter func88,ntmps88
  go_wp2
  go_ret
  exact⟨by simp[jN],rfl⟩
 |false=>
  rcases Nat.lt_or_ge 65536 l.length with d|d
  ·have k:(65536:Int)<(l.length:Int):=by omega
   have b:jN false l.length (f:Int)=2:=by simp[jN,d]
   rw[b]
   go_enter func88,ntmps88
   go_wp2_with fail
   all_goals
    first
    |omega
    |(go_ret;exact⟨rfl,rfl⟩)
  ·have k:(l.length:Int) <= 65536:=by omega
   have n:=ld w l.length (by omega);have y:takes l.length <= 65536:=by unfold takes;omega
   have b:jN false l.length (f:Int)=if(f:Int)<(takes l.length:Int) then 7 else 0:=by simp[jN,show ¬65536<l.length by omega]
   rw[b];generalize takes l.length=t at *
   go_enter func88,ntmps88
   go_wp2_with fail;refine n.mono ?_;rintro e i ⟨rfl,rfl⟩;go_wp2_with fail
   all_goals
    go_ret
    exact⟨fv (by first|rfl|(split<;>omega)),rfl⟩
def fk(F:aQ)(jb:Nat)(w a:World):Prop:=bI F w a /\ ∀i,i<4 -> a.cell? ⟨jb,i,none⟩=w.cell? ⟨jb,i,none⟩
theorem ye(w:World):fk F n w w:=⟨eC F w,λ_ _=>rfl⟩
theorem vM(a b c:World)(h:fk F n a b)(k:fk F n b c):fk F n a c:=⟨fy F a b c h.1 k.1,λi hi=>(k.2 i hi).trans (h.2 i hi)⟩
instance{F:aQ}{jb:Nat}:Std.Refl (fk F jb):=⟨ye F jb⟩
instance{F:aQ}{jb:Nat}:Trans (fk F jb) (fk F jb) (fk F jb):=⟨λh k=>vM F jb _ _ _ h k⟩
theorem fk.of{a b g c:Nat}{d e:Bool}(j:d9 W a b g u c d)(k:d9 w' a b g u c e)(l:bI G W w'):fk G a W w':=by
 refine⟨l,λi hi=>?_⟩;have f:=j.cell i;have h:=k.cell i;rw[f,h];have:i=0 \/ i=1 \/ i=2 \/ i=3:=by omega
 rcases this with rfl|rfl|rfl|rfl<;>rfl
theorem yf{M:MD}{J:MJ}(d:bj J.L <= bw M.S.length)(h:jN J.dead l.length ((bw M.S.length-bj J.L:Nat):Int)≠0):
 cw M J l=(M,J,jN J.dead l.length ((bw M.S.length-bj J.L:Nat):Int)):=by
 unfold jN at *;unfold cw
 by_cases a:J.dead=true
 ·simp[a]
 ·by_cases b:65536<l.length
  ·simp[a,b]
  ·by_cases c:bw M.S.length-bj J.L<takes l.length
   ·simp only[a,b,c];simp;omega
   ·exfalso;apply h;simp only[a,b];simp;omega
theorem zV{M:MD}{J:MJ}(d:bj J.L <= bw M.S.length)(h:jN J.dead l.length ((bw M.S.length-bj J.L:Nat):Int)=0):
 cw M J l=if(bD M (aX M.S.length J.g J.L.length (bj J.L) l)).2=0 then((bD M (aX M.S.length J.g J.L.length (bj J.L) l)).1,{ J with L:=J.L++[l] },0) else((bD M (aX M.S.length J.g J.L.length (bj J.L) l)).1,{ J with dead:=true },(bD M (aX M.S.length J.g J.L.length (bj J.L) l)).2):=by
 obtain⟨a,b,c⟩:=mQ h;unfold cw;rw[if_neg (by simp[a]),if_neg (by omega),if_neg (by omega)]
theorem oe(s:JK)(M:MD)(J:MJ)(h:JAt w s M J)(F:aQ)(v:Value)(l:List UInt8)(hv:aO F w v l)(hF:∀b,F b -> b<w.heap.size /\ ¬s.all b)(aZ:¬s.all 0)(hq:cU w)(hw:M.writes+65536<4611686018427387904):
 Calls aE 44 #[.pointer (some ⟨s.j,0,none⟩),v] w λe k=>e=.returned (.int .i64 (cw M J l).2.2) /\
  ∃Z,Z.j=s.j /\ Z.K.d=s.K.d /\ JAt k Z (cw M J l).1 (cw M J l).2.1 /\ (∀b,Z.all b -> s.all b \/ w.heap.size <= b) /\ aM s.all w k:=by
 obtain⟨jb,K,O⟩:=s;obtain⟨g,L,y⟩:=J;have a5:=h;obtain⟨Q,⟨C,D,R,U,hr,p⟩,⟨P,o⟩,h8,Y,ai,aI⟩:=h;dsimp only at *;have bi:=Q.le;have hH:bw M.S.length <= 32768:=by unfold bw;omega
 have bm:=ei l.length;have bf:=eU L;have ay:=sA w jb K.d g (.slice C L.length D) (bj L) y K M U Q rfl (by omega) Y;have bh:=U.lt;have ao:=ae ay;clear ay
 by_cases z:jN y l.length ((bw M.S.length-bj L:Nat):Int)=0
 ·have m:=zV (M:=M) (J:=⟨g,L,y⟩) Y z;obtain⟨a2,ak,a3⟩:=mQ z;subst a2;dsimp only at m;have H:=ec (aX M.S.length g L.length (bj L) l) M;generalize bd:bD M (aX M.S.length g L.length (bj L) l)=mw at *;obtain⟨M',r⟩:=mw;dsimp only at m H;have I:=ae m;clear m;have ax:bj L+takes l.length <= bw M.S.length:=by omega
  have ag:(bw M.S.length-bj L:Nat) <= 65536:=by omega
  have be:(L.length:Int) <= 65536:=by omega
  have Hc:=ae z;clear z a3;generalize hf:(bw M.S.length-bj L:Nat)=f at *;have bc:bj L <= 65536:=by omega
  go_enter func44,ntmps44
  go_wp2_with fail;refine ao.x.mono ?_;rintro e t ⟨rfl,n,rfl⟩;have x:d9 (w.drewN n) jb K.d g (.slice C L.length D) (bj L) false:=U.keep rfl;have an:aO F (w.drewN n) v l:=hv.keep λ_ _ _=>rfl
  have av:bM (w.drewN n) K M:=Q.keep λ_ _=>rfl
  have a7:aM (eu K jb) w (w.drewN n):=(aM.refl _ _).drewN n;have a9:cU (w.drewN n):=hq;have bk:(w.drewN n).heap.size=w.heap.size:=rfl;generalize w.drewN n=t at *;go_wp2_with fail;refine(vL t jb K.d g (bj L) _ false x F v l an f ag).mono ?_;rintro e k ⟨rfl,rfl⟩;rw[Hc.x];have al:=uA t.drew jb K.d g (bj L) _ K M g L.length (bj L) v l F (an.keep λ_ _ _=>rfl) (λb a=>⟨by have:=(hF b a).1;show b<t.heap.size;omega,λh=>(hF b a).2 (by rcases h with h|h;exact .inr (.inl h);exact .inl h)⟩) (λh=>aZ (by rcases h with h|h;exact .inr (.inl h);exact .inl h)) (x.keep rfl) (av.keep λ_ _=>rfl) rfl P a9 ai (by omega) ak (by omega) ax (by omega);rw[bd] at al;have aV:=ae al;clear al;have q1:∀k,fk (eu K jb) jb t.drew k -> k.cell? ⟨jb,1,none⟩=some (.int .u32 (g:Int)):=λk hh=>(hh.2 1 (by omega)).trans (by simpa using x.drew.cell 1)
  have q2:∀k,fk (eu K jb) jb t.drew k -> k.cell? ⟨jb,2,none⟩=some (.slice C L.length D):=λk hh=>(hh.2 2 (by omega)).trans (by simpa using x.drew.cell 2)
  have q3:∀k,fk (eu K jb) jb t.drew k -> k.cell? ⟨jb,3,none⟩=some (.int .i64 (bj L:Int)):=λk hh=>(hh.2 3 (by omega)).trans (by simpa using x.drew.cell 3)
  have az:=x.drew;have aS:=ae az;go_wp2_with fail;clear x an av az;refine bP (fk (eu K jb) jb) (up 15 [515,16]) (by kernel_rfl) ?_;apply aG;rfl;intro k hC;go_simp;exact aF;refine aY rfl rfl (λKK hK=>?_);go_simp;refine aV.x.mono ?_;rintro e E ⟨rfl,⟨K',N,q,T⟩,G,A⟩;refine⟨_,rfl,fk.of aS.x G A,hK _ _ ?_⟩;clear hK KK q1 q2 q3;go_simp;apply aG;rfl;intro k hC;go_simp;exact aF;refine aW ?_
  have a8:aM (eu K jb) t E:=⟨A.os,A.tape,A.output,A.size,A.block⟩
  have B:aM (eu K jb) w E:=a7.trans a8 λi hi=>.inl hi
  have bl:=B.size
  have a6:∀b,O b -> ¬eu K jb b:=λb a h=>by
   rcases h with h|h
   ·exact(o b a).2.1 h
   ·exact(o b a).1 h
  have X:=hr.only B λb a=>a6 b (p b a)
  have V:aM (λb=>b=jb \/ K.foot b \/ O b) w E:=B.mono λb a=>by
   rcases a with a|a
   ·exact .inr (.inl a)
   ·exact .inl a
  by_cases W:r=0
  ·subst W;have m:=I.x;rw[if_pos rfl] at m;have aH:d9 E jb K.d g (.slice C L.length D) (bj L) false:=by simpa using G
   have aL:aO F E v l:=hv.only B λb a h=>(hF b a).2 (by rcases h with h|h;exact .inr (.inl h);exact .inl h)
   have ar:=vK E jb K.d g (bj L) _ false R L aH X (λb a=>⟨(o b (p b a)).1,by have:=(o b (p b a)).2.2;omega⟩) F v l aL ak (by omega) bc;have⟨aR,aa,ab⟩:=ae3 ar T V;clear ar T G aH X aL V B;go_wp2_with fail;refine aR.x.mono ?_;rintro e w4 ⟨rfl,aN,aP,R',a4,ba,aJ,aK⟩;go_wp2
   go_ret
   rw[m];have bg:∀b,(Value.slice C L.length D).ownBlock=some b \/ R b -> O b:=p
   have a0:=Q.lt;refine⟨rfl,⟨jb,K',λb=>(Value.slice aN (L.length+1) aP).ownBlock=some b \/ R' b⟩,rfl,N,?_,?_,?_⟩
   ·refine⟨?_,⟨aN,aP,R',?_,?_,λb a=>by simpa using a⟩,⟨λhh=>P (q _ hh),λb a=>?_⟩,by rw[H.1];exact h8,?_,ai,?_⟩
    ·exact aa.x.only aJ λb a h=>by
      rcases h with h|h
      ·exact P (h▸q b a)
      ·exact(o b (p b (.inl h))).2.1 (q b a)
    ·rw[eW];rw[N];simpa using a4
    ·simpa using ba
    ·obtain⟨u,h2⟩:=aK b a;rcases u with u|u
     ·exact⟨(o b (p b u)).1,λh=>(o b (p b u)).2.1 (q b h),h2⟩
     ·exact⟨by show b≠jb;omega,λh=>by have:=a0 b (q b h);omega,h2⟩
    ·show bj (L++[l]) <= bw M'.S.length;rw[eW,H.1];exact ax
    ·intro b a;rcases List.mem_append.1 a with a|a
     ·exact aI b a
     ·obtain rfl:=List.mem_singleton.1 a;exact ak
   ·rintro b (a|a|a)
    ·exact .inl (.inl a)
    ·exact .inl (.inr (.inl (q b a)))
    ·rcases(aK b a).1 with u|u
     ·exact .inl (.inr (.inr (p b u)))
     ·exact .inr (by omega)
   ·exact ab.x.trans aJ λi hi=>.inl (by
     rcases hi with hi|hi
     ·exact .inl hi
     ·exact .inr (.inr (p i (.inl hi))))
  ·have m:=I.x;rw[if_neg W] at m;have bb:(r != 0)=true:=bne_iff_ne.2 W;have⟨aa,aT,aU,ab⟩:=ae4 T G X V;clear T G X V B;go_wp2
   go_ret
   rw[m];refine⟨rfl,⟨jb,K',O⟩,rfl,N,⟨aa.x,⟨C,D,R,?_,aU.x,p⟩,⟨λhh=>P (q _ hh),λb a=>⟨(o b a).1,λh=>(o b a).2.1 (q b h),by have:=(o b a).2.2;omega⟩⟩,by rw[H.1];exact h8,by rw[H.1];exact Y,ai,aI⟩,?_,ab.x⟩
   ·rw[N];simpa[W] using aT.x
   ·rintro b (a|a|a)
    ·exact .inl (.inl a)
    ·exact .inl (.inr (.inl (q b a)))
    ·exact .inl (.inr (.inr a))
 ·have m:=yf (M:=M) (J:=⟨g,L,y⟩) Y z;have ag:(bw M.S.length-bj L:Nat) <= 65536:=by omega
  dsimp only at m;have I:=ae m;clear m;generalize hf:(bw M.S.length-bj L:Nat)=f at *;generalize a1:jN y l.length (f:Int)=c at *;have bb:(c != 0)=true:=bne_iff_ne.2 z
  go_enter func44,ntmps44
  go_wp2_with fail;refine ao.x.mono ?_;rintro e t ⟨rfl,n,rfl⟩;go_wp2_with fail;have ad:=vL (w.drewN n) jb K.d g (bj L) _ y (U.keep rfl) F v l (hv.keep λ_ _ _=>rfl) f ag;rw[a1] at ad;refine ad.mono ?_;rintro e k ⟨rfl,rfl⟩;clear ad;go_wp2
  go_ret
  rw[I.x];exact⟨rfl,⟨jb,K,O⟩,rfl,rfl,a5.keep (λ_ _=>rfl) (aq _),λb a=>.inl a,(aM.refl _ _).drewN n⟩
def kc(n g:Nat):Nat:=if g<4294967295 then bw n else 0
theorem vN{M:MD}{J:MJ}(h:jN J.dead l.length (kc M.S.length J.g:Nat)≠0):
 dx M J l=(M,J,jN J.dead l.length (kc M.S.length J.g:Nat)):=by
 unfold jN kc at *;unfold dx;have e:=ei l.length
 by_cases a:J.dead=true
 ·simp[a]
 ·by_cases b:65536<l.length
  ·simp[a,b]
  ·by_cases d:bw M.S.length<takes l.length \/ 4294967295 <= J.g
   ·simp only[a,b,d];simp
    by_cases c:J.g<4294967295
    ·rw[if_pos c];omega
    ·rw[if_neg c];omega
   ·exfalso;apply h;simp only[a,b];simp;split<;>omega
def ic(n g:Nat)(l:List UInt8):List (Nat×List UInt8):=aX n (g+1) 0 0 l++[((g+1)%2,dw (g+1))]
theorem yg{M:MD}{J:MJ}(h:jN J.dead l.length (kc M.S.length J.g:Nat)=0):
 J.g<4294967295 /\ takes l.length <= bw M.S.length /\ dx M J l=if(bD M (ic M.S.length J.g l)).2=0 then((bD M (ic M.S.length J.g l)).1,⟨J.g+1,[l],false⟩,0) else((bD M (ic M.S.length J.g l)).1,{ J with dead:=true },(bD M (ic M.S.length J.g l)).2):=by
 obtain⟨c,d,b⟩:=mQ h;have e:=ei l.length;unfold kc at b
 have a:J.g<4294967295:=by
  by_cases a:J.g<4294967295
  ·exact a
  ·rw[if_neg a] at b;omega
 rw[if_pos a] at b;refine⟨a,by omega,?_⟩;unfold dx ic;rw[if_neg (by simp[c]),if_neg (by omega),if_neg (by omega)]
theorem qz(z:JK)(M:MD)(J:MJ)(h:JAt w z M J)(F:aQ)(v:Value)(l:List UInt8)(hv:aO F w v l)(hF:∀b,F b -> b<w.heap.size /\ ¬z.all b)(ba:¬z.all 0)(hq:cU w)(hw:M.writes+65536<4611686018427387904):
 Calls aE 82 #[.pointer (some ⟨z.j,0,none⟩),v] w λe n=>e=.returned (.int .i64 (dx M J l).2.2) /\
  ∃aI,aI.j=z.j /\ aI.K.d=z.K.d /\ JAt n aI (dx M J l).1 (dx M J l).2.1 /\ (∀b,aI.all b -> z.all b \/ w.heap.size <= b) /\ aM z.all w n:=by
 obtain⟨jb,K,O⟩:=z;obtain⟨g,L,y⟩:=J;have bh:=h;obtain⟨hd,⟨Q,T,R,hj,hr,ax⟩,⟨P,E⟩,h8,ca,be,bi⟩:=h;dsimp only at *;have b8:=hd.le;have hH:bw M.S.length <= 32768:=by unfold bw;omega
 have cg:=ei l.length;have b7:=hj.lt;have bf:=o7 w jb K.d g (.slice Q L.length T) (bj L) y K M hj hd rfl (by omega);have Z:=hj.cell 1;simp at Z;have cb:∀x:Int,x=(kc M.S.length g:Nat) -> jN y l.length x=jN y l.length (kc M.S.length g:Nat):=λx hx=>by rw[hx]
 have aS:∀f:Nat,f=kc M.S.length g -> Calls aE 88 #[.pointer (some ⟨jb,0,none⟩),v,.int .i64 (f:Int)] w λe n=>e=.returned (.int .i64 (jN y l.length (kc M.S.length g:Nat))) /\ w=n:=λf hf=>by
  subst hf;exact vL w jb K.d g (bj L) _ y hj F v l hv _ (by unfold kc;split<;>omega)
 by_cases hc:jN y l.length (kc M.S.length g:Nat)=0
 ·obtain⟨ab,b6,m⟩:=yg (M:=M) (J:=⟨g,L,y⟩) hc;obtain⟨bO,a1,-⟩:=mQ hc;subst bO;dsimp only at m ab;have U:=aS (bw M.S.length) (by unfold kc;rw[if_pos ab]);rw[hc] at U;have X:=U;have aU:(g:Int)<4294967295:=by omega
  have a2:=ec (aX M.S.length (g+1) 0 0 l) M;have al:=ec (ic M.S.length g l) M;have s:=gJ M (aX M.S.length (g+1) 0 0 l) [((g+1)%2,dw (g+1))];change bD M (ic M.S.length g l)=_ at s;have b9:(aX M.S.length (g+1) 0 0 l).length <= 32768:=by simp[aX];omega
  have az:=uA w jb K.d g (bj L) _ K M (g+1) 0 0 v l F hv (λb k=>⟨(hF b k).1,λh=>(hF b k).2 (by rcases h with h|h;exact .inr (.inl h);exact .inl h)⟩) (λh=>ba (by rcases h with h|h;exact .inr (.inl h);exact .inl h)) hj hd rfl P hq (by omega) (by omega) a1 (by omega) (by omega) (by omega);generalize bD M (ic M.S.length g l)=mr at *;generalize b0:bD M (aX M.S.length (g+1) 0 0 l)=mw at *;obtain⟨C,r⟩:=mw;dsimp only at a2 s az;rw[show((g+1:Nat):Int)=(g:Int)+1 by omega] at az;have⟨bJ,W,a9⟩:=ae3 az m s;clear az m s b0;generalize b4:bw M.S.length=H at *;have b3:(H:Int) <= 32768:=by omega
  have ch:=aj ((g:Int)+1) (by omega);have bX:=am ((g:Int)+1) 2 (by omega);have bY:=aj (((g:Int)+1)%2) (by omega);have bZ:=af (((g:Int)+1)%2) (by omega)
  go_enter func82,ntmps82
  go_wp2_with fail;refine bf.mono ?_;rintro e n ⟨rfl,rfl⟩;go_wp2_with fail;refine X.mono ?_;rintro e n ⟨rfl,rfl⟩;go_wp2_with fail;refine bJ.x.mono ?_;rintro e q ⟨rfl,⟨B,aR,p,aa⟩,ar,ai⟩;have ce:=ai.size
  have bk:∀b,O b -> ¬eu K jb b:=λb k h=>by
   rcases h with h|h
   ·exact(E b k).2.1 h
   ·exact(E b k).1 h
  have ay:=hr.only ai λb k=>bk b (ax b k)
  have av:aM (λb=>b=jb \/ K.foot b \/ O b) w q:=ai.mono λb k=>by
   rcases k with k|k
   ·exact .inr (.inl k)
   ·exact .inl k
  by_cases u:r=0
  ·subst u;have m:=W.x;have s:=a9.x;rw[if_pos rfl] at s;have bS:bD C [((g+1)%2,dw (g+1))]=C.wr ((g+1)%2) (dw (g+1)):=eD C [] _ _ rfl;rw[bS] at s;have aZ:d9 q jb K.d g (.slice Q L.length T) (bj L) false:=by simpa using ar
   have bs:aO F q v l:=hv.only ai λb k h=>(hF b k).2 (by rcases h with h|h;exact .inr (.inl h);exact .inl h)
   have bo:cU q:=hq.keep (ai.block 0 (by obtain⟨t,fz,hh⟩:=hq;exact lt_of_block hh) λh=>ba (by rcases h with h|h;exact .inr (.inl h);exact .inl h));have b1:0<w.heap.size:=by obtain⟨t,fz,hh⟩:=hq;exact lt_of_block hh
   have aV:=yd q.drew bo (by show 0<q.heap.size;omega) (g+1) (by omega);have a0:=aZ.drew;have bd:bM q.drew B C:=aa.keep λ_ _=>rfl
   have bu:aO F q.drew v l:=bs.keep λ_ _ _=>rfl
   have bq:bU R q.drew 0 (.slice Q L.length T) L:=ay.keep λ_ _ _=>rfl
   have bm:aM (λb=>b=jb \/ K.foot b \/ O b) w q.drew:=av.drew
   have bR:∀b,eu B jb b -> b<q.heap.size:=λb k=>by
    rcases k with k|k
    ·exact aa.lt b k
    ·rw[k];exact aZ.lt
   have bT:∀n,fk (eu B jb) jb q.drew n -> n.cell? ⟨jb,1,none⟩=some (.int .u32 (g:Int)):=λn hh=>(hh.2 1 (by omega)).trans (by simpa using a0.cell 1)
   rw[show((g+1:Nat):Int)=(g:Int)+1 by omega] at aV;have⟨bC,Y,aK,bK,aN,aL⟩:=ae6 aV a0 bd bu bq bm;clear aV a0 bd bu bq bm ar aZ aa bs bo ay av Z;go_wp2_with fail;refine bP (fk (eu B jb) jb) (up 13 [513,514,15]) (by kernel_rfl) ?_;apply aG;rfl;intro n hC;go_simp;(repeat (simp(disch:=omega) only[af,aj,ap,ah,am,if_pos];go_simp));exact aF;refine aY rfl rfl (λKK hK=>?_);go_simp;refine bC.x.mono ?_;rintro e w4 ⟨sb,rfl,bW,a7,I⟩;have ad:d9 w4 jb K.d g (.slice Q L.length T) (bj L) false:=Blk.keep Y.x (I.block jb (Blk.lt Y.x));refine⟨_,rfl,fk.of Y.x ad (bI.of_below I),hK _ _ ?_⟩;clear hK KK;go_simp;have aT:bM w4 B C:=aK.x.kept I;have aH:=sC w4 jb K.d g _ (bj L) false B C ad aT aR (λh=>P (p _ h)) ((g+1)%2) (by omega) (by omega) sb _ a7 (λh=>by have:=bR sb (.inl h);have:q.heap.size <= sb:=bW;omega);rw[show(((g+1)%2:Nat):Int)=((g:Int)+1)%2 by omega] at aH;generalize C.wr ((g+1)%2) (dw (g+1))=mq at *;obtain⟨M5,r⟩:=mq;dsimp only at aH;subst s;dsimp only at m al;have bL:=ae aH;clear aH;apply aG;rfl;intro n hC;go_simp;(repeat (simp(disch:=omega) only[af,aj,ap,ah,am,if_pos];go_simp));exact aF;refine aY rfl rfl (λKK hK=>?_);go_simp;refine bL.x.mono ?_;rintro e A ⟨rfl,⟨K5,an,D,ao⟩,ag,V,cc⟩;have aP:fk (eu B jb) jb w4 A:=fk.of ad ag V;refine⟨_,rfl,aP,hK _ _ ?_⟩;clear hK KK bT;go_simp;apply aG;rfl;intro n hC;go_simp;exact aF;refine aW ?_;have a8:aO F A v l:=(aO.keep bK.x (w':=w4) (λb k _=>I.block b (by have:=(hF b k).1;show b<q.heap.size;omega))).only V λb k h=>(hF b k).2 (by rcases h with h|h;exact .inr (.inl (p b h));exact .inl h)
   have a6:=(aN.x.kept I).only V λb k h=>bk b (ax b k) (h.imp (p b) id)
   have ak:aM (λb=>b=jb \/ K.foot b \/ O b) w A:=(aL.x.trans (aM.of_below (F:=none_) I) (λi hi=>hi.elim)).trans V λi hi=>.inl (by
    rcases hi with hi|hi
    ·exact .inr (.inl (p i hi))
    ·exact .inl hi)
   have cf:=ak.size
   by_cases u:r=0
   ·subst u;rw[if_pos rfl] at m;have aJ:=ae m;clear m;have N:d9 A jb K.d g (.slice Q L.length T) (bj L) false:=by simpa using ag
    have Z:=N.cell 1;have c2:=N.cell 2;have c3:=N.cell 3;have f1:=N.free 1;have f2:=N.free 2;have f3:=N.free 3;simp at Z c2 c3
    have bg:d9 (((A.setCell ⟨jb,1,none⟩ (.int .u32 ((g:Int)+1))).setCell ⟨jb,2,none⟩ (.slice none 0 0)).setCell ⟨jb,3,none⟩ (.int .i64 0)) jb K.d (g+1) (.slice none 0 0) 0 false:=by
     have:=((N.set 1 (.int .u32 ((g:Int)+1))).set 2 (.slice none 0 0)).set 3 (.int .i64 0);simpa[d9] using this
    have a5:∀{G:aQ}{a:World},G jb -> aM G a A -> aM G a (((A.setCell ⟨jb,1,none⟩ (.int .u32 ((g:Int)+1))).setCell ⟨jb,2,none⟩ (.slice none 0 0)).setCell ⟨jb,3,none⟩ (.int .i64 0)):=λhG ho=>((ho.setCell (.inl hG) _).setCell (.inl hG) _).setCell (.inl hG) _
    have a3:aM (λb=>b=jb) A (((A.setCell ⟨jb,1,none⟩ (.int .u32 ((g:Int)+1))).setCell ⟨jb,2,none⟩ (.slice none 0 0)).setCell ⟨jb,3,none⟩ (.int .i64 0)):=a5 rfl (aM.refl _ _);have a4:=a5 (.inl rfl) ak;have bc:=ao.only a3 λb k e=>P (e▸p b (D b k))
    have bt:=a8.only a3 λb k e=>(hF b k).2 (.inl e)
    have bb:=vK _ jb K.d (g+1) 0 _ false none_ [] bg (bU.nil _ 0) (λb k=>by rcases k with k|k;exact absurd k (by simp[Value.ownBlock]);exact k.elim) F v l bt a1 (by simp) (by omega);have⟨bz,bG,bB⟩:=ae3 bb a4 bc;have cd:=a4.size;clear bb a4 bc a5 a3 bt bg ak a6 a8 ao ag N aP V aT a7 I ad aU bX bY bZ;go_wp2_with fail;refine bz.x.mono ?_;rintro e w7 ⟨rfl,bv,bx,R',bQ,bV,bl,bn⟩;go_wp2
    go_ret
    rw[aJ.x];have bN:=hd.lt;refine⟨rfl,⟨jb,K5,λb=>(Value.slice bv (([]:List (List UInt8)).length+1) bx).ownBlock=some b \/ R' b⟩,rfl,an,?_,?_,?_⟩
    ·refine⟨?_,⟨bv,bx,R',?_,?_,λb k=>by simpa using k⟩,⟨λhh=>P (p _ (D _ hh)),λb k=>?_⟩,by rw[al.1];exact h8,?_,by show g+1<_;omega,?_⟩
     ·exact bB.x.only bl λb k h=>by
       rcases h with h|h
       ·exact P (h▸p b (D b k))
       ·simp[Value.ownBlock] at h
     ·rw[an];simpa[bj] using bQ
     ·simpa using bV
     ·obtain⟨o,h2⟩:=bn b k
      have b2:w.heap.size <= b:=by
       rcases o with o|o
       ·rcases o with o|o
        ·simp[Value.ownBlock] at o
        ·exact o.elim
       ·omega
      exact⟨by show b≠jb;omega,λh=>by have:=bN b (p b (D b h));omega,h2⟩
     ·show bj [l] <= bw M5.S.length;rw[al.1];simp[bj];omega
     ·intro b k;obtain rfl:=List.mem_singleton.1 k;exact a1
    ·rintro b (k|k|k)
     ·exact .inl (.inl k)
     ·exact .inl (.inr (.inl (p b (D b k))))
     ·rcases(bn b k).1 with o|o
      ·rcases o with o|o
       ·simp[Value.ownBlock] at o
       ·exact o.elim
      ·exact .inr (by omega)
    ·exact bG.x.trans bl λi hi=>.inl (by
      rcases hi with hi|hi
      ·exact .inl hi
      ·simp[Value.ownBlock] at hi)
   ·rw[if_neg u] at m;have aJ:=ae m;clear m;have bp:(r != 0)=true:=bne_iff_ne.2 u;have⟨bA,bE,bH,bF⟩:=ae4 ao ag a6 ak;clear ao ag a6 ak a8 aP V aT a7 I ad;go_wp2
    go_ret
    rw[aJ.x];refine⟨rfl,⟨jb,K5,O⟩,rfl,an,⟨bA.x,⟨Q,T,R,?_,bH.x,ax⟩,⟨λhh=>P (p _ (D _ hh)),λb k=>⟨(E b k).1,λh=>(E b k).2.1 (p b (D b h)),by have:=(E b k).2.2;omega⟩⟩,by rw[al.1];exact h8,?_,be,bi⟩,?_,bF.x⟩
    ·rw[an];simpa[u] using bE.x
    ·show bj L <= bw M5.S.length;rw[al.1];omega
    ·rintro b (k|k|k)
     ·exact .inl (.inl k)
     ·exact .inl (.inr (.inl (p b (D b k))))
     ·exact .inl (.inr (.inr k))
  ·have m:=W.x;have s:=a9.x;rw[if_neg u] at s;subst s;dsimp only at m;rw[if_neg u] at m;have bp:(r != 0)=true:=bne_iff_ne.2 u;have⟨aK,Y,aN,aL⟩:=ae4 aa ar ay av;clear aa ar ay av Z;go_wp2
   go_ret
   rw[m];refine⟨rfl,⟨jb,B,O⟩,rfl,aR,⟨aK.x,⟨Q,T,R,?_,aN.x,ax⟩,⟨λhh=>P (p _ hh),λb k=>⟨(E b k).1,λh=>(E b k).2.1 (p b h),by have:=(E b k).2.2;omega⟩⟩,by rw[a2.1];exact h8,?_,be,bi⟩,?_,aL.x⟩
   ·rw[aR];simpa[u] using Y.x
   ·show bj L <= bw C.S.length;rw[a2.1];omega
   ·rintro b (k|k|k)
    ·exact .inl (.inl k)
    ·exact .inl (.inr (.inl (p b k)))
    ·exact .inl (.inr (.inr k))
 ·have m:=vN (M:=M) (J:=⟨g,L,y⟩) hc;dsimp only at m;have W:=ae m;have br:kc M.S.length g=if g<4294967295 then bw M.S.length else 0:=rfl
  generalize b5:jN y l.length (kc M.S.length g:Nat)=c at *;have bp:(c != 0)=true:=bne_iff_ne.2 hc
  by_cases ab:g<4294967295
  ·have U:=aS (bw M.S.length) (by rw[br,if_pos ab]);have X:=U;have aU:(g:Int)<4294967295:=by omega
   generalize bw M.S.length=H at *
   go_enter func82,ntmps82
   go_wp2_with fail;refine bf.mono ?_;rintro e n ⟨rfl,rfl⟩;go_wp2_with fail;refine X.mono ?_;rintro e n ⟨rfl,rfl⟩;go_wp2
   go_ret
   rw[W.x];exact⟨rfl,⟨jb,K,O⟩,rfl,rfl,bh,λb k=>.inl k,aM.refl _ _⟩
  ·have U:=aS 0 (by rw[br,if_neg ab]);have X:=U;have aU:¬((g:Int)<4294967295):=by omega
   go_enter func82,ntmps82
   go_wp2_with fail;refine X.mono ?_;rintro e n ⟨rfl,rfl⟩;go_wp2
   go_ret
   rw[W.x];exact⟨rfl,⟨jb,K,O⟩,rfl,rfl,bh,λb k=>.inl k,aM.refl _ _⟩
end
section
attribute [local go_sem ↓] aU
attribute [local go_sem] opC upC
theorem bU.elem{S:List (List UInt8)}(h:bU G W i u S)(a:Nat)(f:a<S.length):
 ∃g b x,u=.slice (some ⟨g,0,none⟩) S.length b /\ aO G W x S[a] /\ W.cell? ⟨g,a,none⟩=some x:=by
 obtain⟨n,j,l,p⟩:=h;obtain⟨x,m,d⟩:=l a f;rcases j.2 with⟨rfl,o⟩|⟨g,b,c,rfl,r,e,q,s,t,k⟩
 ·omega
 ·refine⟨g,b,x,rfl,d,?_⟩;have:(c.toList.take (S.length*1))[a]?=n[a]?:=by rw[k]
  rw[List.getElem?_take,if_pos (by omega),m] at this;unfold World.cell?;simpa[e] using this
theorem yh(C Y g Z:Nat)(D:Value)(G:Bool)(O:d9 w C Y g D Z G)(R:aQ)(L:List (List UInt8))(z:bU R w 0 D L)(hL:L.length <= 65536)(S:∀b∈L,b.length <= 65536):
 Calls aE 49 #[.pointer (some ⟨C,0,none⟩)] w λe s=>∃r f,e=.returned r /\ bU f s w.heap.size r L /\ (∀b,f b -> w.heap.size <= b /\ b<s.heap.size) /\ Kpt w s:=by
 have F:=O.cell 2;simp at F;obtain⟨aR,cR,rfl,ai,ao⟩:=z.shape;have ab:(L.length:Int) <= 65536:=by omega
 go_enter func49,ntmps49
 go_wp2
 go_loopw [3,13] (λv i wr=>∃k f,k <= L.length /\ i=.int .i64 (k:Int) /\ bU f wr w.heap.size v (L.take k) /\ (∀b,f b -> w.heap.size <= b /\ b<wr.heap.size) /\ Kpt w wr) (λ_ i _=>L.length-(intOf i).toNat)
 ·exact⟨0,none_,by omega,rfl,by simpa using bU.nil w w.heap.size,λb c=>c.elim,Below.refl _ _⟩
 ·obtain⟨k,f,hk,rfl,m,t,d⟩:=hrel
  by_cases n:k<L.length
  ·have Q:(k:Int)<(L.length:Int):=by omega
   have V:=z.kept d;obtain⟨gg,j,x,B,M,ak⟩:=V.elem k n;simp at B;obtain⟨rfl,rfl⟩:=B;have o:(L.take k).length=k:=by simp;omega
   obtain⟨a1,c1,rfl,N,an⟩:=m.shape;rw[o] at N m;have al:=S L[k] (aC n);rw[o];go_wp2_with fail;refine(mC wr R x L[k] M (by omega)).mono ?_;rintro e w1 ⟨r,rfl,U,l⟩;have u:=lH U
   obtain⟨a2,aa,rfl,-,-⟩:∃a j,r=.slice a L[k].length j /\ L[k].length <= j /\ j <= maxLen:=by
    obtain⟨a,j,h,H,I,-⟩:=u;exact⟨a,j,h,H,I⟩
   have A:=m.kept l;obtain⟨a',c',w2,J,p,y⟩:=A.append u (λb c=>c.2.2) (by simp;omega) (by have:=l.size;have:=d.size;omega);rw[o] at J p;have K:Kpt w w2:=(Below.alloc (d.trans (l.mono d.size)) (by have:=l.size;have:=d.size;omega) _).grown y (by have:=l.size;have:=d.size;simp;omega) (λq T=>((A.own T).1));have W:=y.size;simp at W;have X:L.take k++[L[k]]=L.take (k+1):=by rw[List.take_succ_eq_append_getElem n]
   rw[X] at p;have E:=K;have ag:=d.size;have ad:=l.size;go_wp2
   go_roundw
   ·exact⟨k+1,_,by omega,by go_num,p,λb c=>by
    rcases c with c|c
    ·have:=t b c;omega
    ·have:=c.1;have:=c.2.1;omega,E⟩
   ·simp[intOf];omega
  ·have Q:¬(k:Int)<(L.length:Int):=by omega
   have P:k=L.length:=by omega
   subst P;rw[List.take_length] at m;go_wp2
   go_ret
   exact⟨_,rfl,f,m,t,d⟩
theorem Dq(b h g a:Nat)(k:Value)(i:Bool)(K:DK)(M:MD)(r:d9 w b h g k a i)(j:bM w K M)(p:K.d=h)(o:2 <= M.S.length)(s:a <= bw M.S.length):
 Calls aE 137 #[.pointer (some ⟨b,0,none⟩)] w λe c=>e=.returned (.int .i64 (if bw M.S.length-a<1 then -1 else min (48*((bw M.S.length-a:Nat):Int)) 65536)) /\ ∃n,w.drewN n=c:=by
 have y:=j.le;have hh:bw M.S.length-a <= 65536:=by unfold bw;omega
 have v:∀n,Calls aE 89 #[.pointer (some ⟨b,0,none⟩)] (w.drewN n) λe c=>e=.returned (.int .i64 ((bw M.S.length-a:Nat):Int)) /\ ∃m,(w.drewN n).drewN m=c:=λn=>
  sA (w.drewN n) b h g k a i K M (r.keep rfl) (j.keep λ_ _=>rfl) p o s
 have q:Calls aE 89 #[.pointer (some ⟨b,0,none⟩)] w λe c=>e=.returned (.int .i64 ((bw M.S.length-a:Nat):Int)) /\ ∃m,w.drewN m=c:=sA w b h g k a i K M r j p o s
 generalize bw M.S.length-a=f at *;have x:(f:Int) <= 65536:=by omega
 by_cases l:f<1
 ·have u:(f:Int)<1:=by omega
  rw[if_pos l]
  go_enter func137,ntmps137
  go_wp2_with fail;refine q.mono ?_;rintro e t ⟨rfl,n,rfl⟩;go_wp2
  go_ret
  exact⟨rfl,n,rfl⟩
 ·have u:¬(f:Int)<1:=by omega
  rw[if_neg l]
  go_enter func137,ntmps137
  go_wp2_with fail;refine q.mono ?_;rintro e t ⟨rfl,n,rfl⟩;go_wp2_with fail;refine(v n).mono ?_;rintro e t ⟨rfl,m,rfl⟩;go_wp2_with fail
  all_goals
   go_ret
   exact⟨fv (by omega),n+m,by first|rfl|(simp[World.drewN];done)|(simp[World.drewN];omega)⟩
theorem Dr(b f g i:Nat)(h:Value)(a:Bool)(d:d9 w b f g h i a):
 Calls aE 60 #[.pointer (some ⟨b,0,none⟩)] w λe j=>e=.returned (.bool a) /\ w=j:=by
 have c:=d.cell 4;simp at c
 go_enter func60,ntmps60
 go_wp2
 go_ret
 exact⟨rfl,rfl⟩
theorem Ds(n:Int):
 Calls aE 88 #[.pointer none,v,.int .i64 n] w λe a=>e=.returned (.int .i64 9) /\ w=a:=by
 go_enter func88,ntmps88
 go_wp2
 go_ret
 exact⟨rfl,rfl⟩
theorem append_nil:
 Calls aE 44 #[.pointer none,v] w λe a=>e=.returned (.int .i64 9) /\ w=a:=by
 have c:=Dm w;have b:=Ds w v 0
 go_enter func44,ntmps44
 go_wp2_with fail;refine c.mono ?_;rintro e a ⟨rfl,rfl⟩;go_wp2_with fail;refine b.mono ?_;rintro e a ⟨rfl,rfl⟩;go_wp2
 go_ret
 exact⟨rfl,rfl⟩
end
section
attribute [local go_sem] opC upC
theorem o9(h:Bool)(a:Value):Instr.alloc 137 h a=AL 137 h a:=rfl
attribute [local go_sem ↓] o9
theorem tG:(AL 137 true (.tuple #[])).run aE w=.ok (.pointer (some ⟨w.heap.size,0,none⟩)) (w.alloc (.cells (fi.map B).toArray 137)):=by kernel_rfl
def gP(n:Nat):List (Nat×List UInt8):=(List.range n).map λi=>(i,List.replicate 64 0)
theorem kI:(gP n).length=n:=by simp[gP]
theorem qA(h:k<n):(gP n).take (k+1)=(gP n).take k++[(k,List.replicate 64 0)]:=by
 rw[List.take_succ_eq_append_getElem (by rw[kI];exact h)];simp[gP]
theorem mh:cJ M=bD M (gP M.S.length++[(0,dw 0)]):=rfl
theorem zW:
 Calls aE 43 #[.pointer none] w λe a=>e=.returned (.tuple #[.pointer none,.int .i64 9]) /\ w=a:=by
 have b:=sy w
 go_enter func43,ntmps43
 go_wp2_with fail;refine b.mono ?_;rintro e a ⟨rfl,rfl⟩;go_wp2;go_ret2;exact⟨rfl,rfl⟩
theorem vP(K:DK)(M:MD)(f:bM w K M)(c:M.S.length<8):
 Calls aE 43 #[.pointer (some ⟨K.d,0,none⟩)] w λe b=>e=.returned (.tuple #[.pointer none,.int .i64 6]) /\ w=b:=by
 have a:=nY w K M f;rw[if_pos c] at a;have a:=a
 go_enter func43,ntmps43
 go_wp2_with fail;refine a.mono ?_;rintro e b ⟨rfl,rfl⟩;go_wp2;go_ret2;exact⟨rfl,rfl⟩
theorem zX(K:DK)(M:MD)(G:bM w K M)(h8:8 <= M.S.length)(Q:cU w)(ao:¬K.foot 0)(hw:M.writes+65540<4611686018427387904):
 Calls aE 43 #[.pointer (some ⟨K.d,0,none⟩)] w λe j=>∃c,c.d=K.d /\ (∀b,c.foot b -> K.foot b) /\ aM K.foot w j /\
  (((cJ M).2=0 /\ ∃jb,e=.returned (.tuple #[.pointer (some ⟨jb,0,none⟩),.int .i64 0]) /\ w.heap.size <= jb /\ JAt j ⟨jb,c,none_⟩ (cJ M).1 ⟨0,[],false⟩) \/
   ((cJ M).2≠0 /\ e=.returned (.tuple #[.pointer none,.int .i64 (cJ M).2]) /\ bM j c (cJ M).1)):=by
 have aT:=G.le;have P:=nY w K M G;rw[if_neg (by omega)] at P;have ar:=tG w;obtain⟨D,A⟩:=aP (w.alloc (.cells (fi.map B).toArray 137));have aR:Blk D w.heap.size (List.replicate 64 (B 0)) 137:=by rw[A];have:=(dR.new w fi gE).1;simpa[fi] using this
 have Z:Kpt w D:=by rw[A];exact aI _ _
 have aZ:D.heap.size=w.heap.size+1:=by rw[A];simp
 have X:=G.kept Z;have aK:aM K.foot w D:=aM.of_below Z;rw[<- A] at ar;clear A;have E:=G.lt;have ag:=rN D K M X;have aN:∀j,aM K.foot w j -> cU j:=λj ho=>Q.keep (ho.block 0 (by obtain⟨t,fz,hh⟩:=Q;exact lt_of_block hh) ao)
 have aS:0<w.heap.size:=by obtain⟨t,fz,hh⟩:=Q;exact lt_of_block hh
 rw[mh];obtain⟨p,L⟩:=aP (gP M.S.length);have aY:p.length=M.S.length:=by rw[L,kI]
 have ai:∀i,i<M.S.length -> p.take (i+1)=p.take i++[(i,List.replicate 64 0)]:=λi hi=>by rw[L];exact qA _ i hi
 rw[<- L];clear L;generalize hn:M.S.length=n at *;have aV:(n:Int) <= 65536:=by omega
 have⟨Hc,al,an⟩:=ae3 P ag ai;clear P ag ai
 go_enter func43,ntmps43
 go_wp2_with fail;refine Hc.x.mono ?_;rintro e j ⟨rfl,rfl⟩;go_wp2_with fail;refine al.x.mono ?_;rintro e j ⟨rfl,rfl⟩;go_wp2
 go_loopw [16] (λi wr=>∃k c f,k <= n /\ i=.int .i64 (k:Int) /\ c.d=K.d /\ (∀b,c.foot b -> K.foot b) /\ bM wr c f /\ bD M (p.take k)=(f,0) /\ Blk wr w.heap.size (List.replicate 64 (B 0)) 137 /\ aM K.foot w wr /\ f.S.length=n /\ f.writes <= M.writes+k) (λi _=>n-(intOf i).toNat)
 ·exact⟨0,K,M,by omega,rfl,rfl,λ_ h=>h,X,rfl,aR,aK,hn,by omega⟩
 ·obtain⟨k,c,f,hk,rfl,V,g,Y,C,O,z,aU,aX⟩:=hrel
  by_cases aG:k<n
  ·have aH:(k:Int)<(n:Int):=by omega
   have ax:aO (λb=>b=w.heap.size) wr (.slice (some ⟨w.heap.size,0,none⟩) 64 64) (List.replicate 64 0):=lN O _ rfl;have o:=zO wr c f Y k (by omega) (by omega) _ _ _ ax (by simp) (λb e h=>by have:=E b (g b h);omega);rw[V] at o;have v:=eD M (p.take k) k (List.replicate 64 0) (by rw[C]);rw[<- an.x k aG,C] at v;have R:=nZ f k (List.replicate 64 0);generalize f.wr k (List.replicate 64 0)=T at *;obtain⟨y,r⟩:=T;dsimp only at o R;have N:=o;have U:=v;go_wp2_with fail;refine N.mono ?_;rintro e w2 ⟨rfl,⟨x,s,u,H⟩,I,aa⟩;have J:=z.trans I λi hi=>.inl (g i hi)
   have av:=O.keep (I.block _ O.lt λh=>by have:=E _ (g _ h);omega)
   by_cases m:r=0
   ·subst m;have q:=H;have l:=J;go_wp2
    go_roundw
    ·exact⟨k+1,x,y,by omega,by go_num,by rw[s],λb a=>g b (u b a),q,U,av,l,by omega,by omega⟩
    ·simp[intOf];omega
   ·have aQ:(r != 0)=true:=bne_iff_ne.2 m
    have az:bD M (p++[(0,dw 0)])=(y,r):=by
     refine iT M y r _ (k+1) ?_ m;rw[List.take_append_of_le_length (by omega)];exact U
    have q:=H;have l:=J;go_wp2;go_ret2;rw[az];exact⟨x,by rw[s],λb a=>g b (u b a),l,.inr ⟨m,rfl,q⟩⟩
  ·have aH:¬(k:Int)<(n:Int):=by omega
   have aJ:k=n:=by omega
   subst aJ;rw[List.take_of_length_le (by omega)] at C;have aF:=yd wr (aN wr z) (by have:=z.size;omega) 0 (by omega);have ad:=eD M p 0 (dw 0) (by rw[C]);rw[C] at ad;have ak:=ad;go_wp2_with fail;refine aF.mono ?_;rintro e w4 ⟨sb,rfl,aW,ab,W⟩;have ay:=Y.kept W;have aL:aM K.foot w w4:=z.trans (aM.of_below (F:=none_) W) λi hi=>hi.elim
   have o:=zO w4 c f ay 0 (by omega) (by omega) _ _ _ ab.bytes ab.2 (λb e h=>by have:=E b (g b h);have:=z.size;omega);rw[V] at o;have v:=ak;have R:=nZ f 0 (dw 0)
   try dsimp only at v
   generalize f.wr 0 (dw 0)=T at *;obtain⟨y,r⟩:=T;dsimp only at o R;have N:=o;go_wp2_with fail;refine N.mono ?_;rintro e w2 ⟨rfl,⟨x,s,u,H⟩,I,aa⟩;have J:=aL.trans I λi hi=>.inl (g i hi)
   have q:=H;have l:=J
   by_cases m:r=0
   ·subst m;go_wp2;go_ret2;rw[v];refine⟨x,by rw[s],λb a=>g b (u b a),l.alloc _,.inl ⟨rfl,_,rfl,by have:=l.size;omega,?_⟩⟩;refine⟨q.kept (aI _ _),⟨none,0,none_,?_,bU.nil _ 0,λb a=>by rcases a with a|a;exact absurd a (by simp[Value.ownBlock]);exact a.elim⟩,⟨λh=>by have h1:=E _ (g _ (u _ h));have:=l.size;dsimp only at h1;omega,λb a=>a.elim⟩,by show 8 <= y.S.length;omega,by simp[bj],by simp,λb a=>by simp at a⟩;have:=Blk.new w2 #[.pointer (some ⟨K.d,0,none⟩),.int .u32 0,.slice none 0 0,.int .i64 0,.bool false] 141;rw[aa] at this;simpa[d9,bj,s] using this
   ·have aQ:(r != 0)=true:=bne_iff_ne.2 m;go_wp2;go_ret2;rw[v];exact⟨x,by rw[s],λb a=>g b (u b a),l,.inr ⟨m,rfl,q⟩⟩
end
section
attribute [local go_sem] opC upC
def jO(R:aQ)(w:World)(v:Value)(S:List (List UInt8)):Prop:=
 ∃a b,v=.slice a S.length b /\ (S = [] \/ ∃g,a=some ⟨g,0,none⟩ /\ g<w.heap.size /\ ∀i (h:i<S.length),∃x,w.cell? ⟨g,i,none⟩=some x /\ aO R w x S[i])
theorem bU.at{R:aQ}{w:World}{k:Nat}{v:Value}{S:List (List UInt8)}(h:bU R w k v S):jO R w v S:=by
 obtain⟨a,d,rfl,-,-⟩:=id h.shape;refine⟨a,d,rfl,?_⟩;cases S with
 |nil=>exact .inl rfl
 |cons x S=>
  right;obtain⟨g,m,q,b,p,f⟩:=h.elem 0 (by simp);simp at b;obtain⟨rfl,rfl⟩:=b;refine⟨g,rfl,mO f,λi hi=>?_⟩;obtain⟨o,n,l,c,e,j⟩:=h.elem i hi;simp at c;obtain⟨rfl,-⟩:=c;exact⟨l,j,e⟩
theorem jO.drewN{R:aQ}{w:World}{v:Value}{S:List (List UInt8)}(h:jO R w v S)(n:Nat):jO R (w.drewN n) v S:=h
theorem dY{a:Addr}(h:W.cell? a=some u)(c:aK W.drew w'):w'.cell? a=some u:=by
 have d:=mO h;have b:w'.heap[a.block]?=W.heap[a.block]?:=c.block a.block d;unfold World.cell? at *;rw[b];exact h
def upM(S:List (List UInt8))(k:Nat):MD:=⟨S,false,none,k⟩
def kJ(S:List (List UInt8))(a:List (Nat×List UInt8)):List (List UInt8):=a.foldl (λS p=>S.set p.1 p.2) S
theorem tH(a:List (Nat×List UInt8)):∀S,(kJ S a).length=S.length:=by
 induction a with
 |nil=>intro S;rfl
 |cons x a b=>intro S;show(kJ (S.set x.1 x.2) a).length=_;rw[b];simp
theorem Gd(S:List (List UInt8))(k a:Nat)(s:List UInt8):(upM S k).wr a s=(upM (S.set a s) (k+1),0):=rfl
theorem qB(b:List (Nat×List UInt8)):∀S k,bD (upM S k) b=(upM (kJ S b) (k+b.length),0):=by
 induction b with
 |nil=>intro S k;rfl
 |cons x b c=>
  intro S k;obtain⟨a,s⟩:=x;show(if((upM S k).wr a s).2=0 then bD ((upM S k).wr a s).1 b else(upM S k).wr a s)=_;rw[Gd];simp only[if_true];rw[c]
  show(upM (kJ (S.set a s) b) (k+1+b.length),(0:Int))=(upM (kJ (S.set a s) b) (k+(b.length+1)),0)
  rw[Nat.add_assoc,Nat.add_comm 1]
def Fg(n:Nat)(L:List (List UInt8)):Int:=if bw n-bj L<1 then -1 else min (48*((bw n-bj L:Nat):Int)) 65536
end
section
attribute [local go_sem ↓] ep
theorem mj(C:Array Value)(n c:Nat):(convert 41 41 (.slice (some ⟨w.heap.size,0,none⟩) n c)).run aE (w.alloc (.cells C 5))=.ok (.slice (some ⟨w.heap.size,0,none⟩) n c) (w.alloc (.cells C 5 (C.size,C.size+1))):=
 Lib.run_convert_bytes_const w _ _ C n c underlying41 underlying5
attribute [local go_sem] mj
theorem Below.drewN'(h:Below i W w')(n:Nat):Below i W (w'.drewN n):=⟨h.os,h.tape,h.output,h.size,h.block⟩
theorem sE{a c:Value}{f g:List UInt8}(h:aO G W a f)(j:aO G W c g)(l:∀b,G b -> b<W.heap.size):
 jO G (W.alloc (.cells #[a,c] 41)) (.slice (some ⟨W.heap.size,0,none⟩) 2 2) [f,g]:=by
 have e:∀b,G b -> b<W.heap.size -> (W.alloc (.cells #[a,c] 41)).heap[b]?=W.heap[b]?:=λb _ k=>(aI W _).block b k
 refine⟨_,2,rfl,.inr ⟨W.heap.size,rfl,by simp,λi hi=>?_⟩⟩;have d:=Blk.new W #[a,c] 41;have:i=0 \/ i=1:=by simp at hi;omega
 rcases this with rfl|rfl
 ·exact⟨a,by simp[d.cell 0],h.keep e⟩
 ·exact⟨c,by simp[d.cell 1],j.keep e⟩
theorem sF(a:aO G W u l)(f:∀b,G b -> b<W.heap.size):
 jO G (W.alloc (.cells #[u] 41)) (.slice (some ⟨W.heap.size,0,none⟩) 1 1) [l]:=by
 have d:∀b,G b -> b<W.heap.size -> (W.alloc (.cells #[u] 41)).heap[b]?=W.heap[b]?:=λb _ e=>(aI W _).block b e
 refine⟨_,1,rfl,.inr ⟨W.heap.size,rfl,by simp,λi hi=>?_⟩⟩;have c:=Blk.new W #[u] 41;have:i=0:=by simp at hi;omega
 subst this;exact⟨u,by simp[c.cell 0],a.keep d⟩
theorem qC(w:World)(a:Option Addr):aO F w (.slice a 0 0) []:=⟨a,0,rfl,aq _,by unfold maxLen;omega,λ_=>rfl,.inl rfl⟩
theorem jO.kept{S:List (List UInt8)}(h:jO G W u S)(c:Kpt W w'):jO G w' u S:=by
 obtain⟨a,e,rfl,h⟩:=h;refine⟨a,e,rfl,?_⟩;rcases h with h|⟨g,rfl,d,h⟩
 ·exact .inl h
 ·refine .inr ⟨g,rfl,aw d c.size,λi hi=>?_⟩;obtain⟨x,k,f⟩:=h i hi;refine⟨x,?_,f.keep λb _ j=>c.block b j⟩;unfold World.cell? at *;rw[show w'.heap[(⟨g,i,none⟩:Addr).block]?=W.heap[(⟨g,i,none⟩:Addr).block]? from c.block g d];exact k
end
section
attribute [local go_sem ↓] aU
attribute [local go_sem] opC upC
theorem vQ(u:n <= 1000000000000):
 Calls aE 193 #[.slice none 0 0,.int .i64 (n:Int)] w λe m=>(∃v,e=.returned v /\ m.ownsRow w.heap.size 5 1 v 0 []) /\ Kpt w m:=by
 have y:¬(n:Int)<0:=by omega
 have A:IntKind.i64.wrap (n:Int)=n:=af _ (by omega)
 by_cases q:n=0
 ·subst q
  go_enter func193,ntmps193
  go_wp2
  go_ret
  exact⟨⟨_,rfl,World.ownsRow_nil _ _ _ _⟩,Below.refl _ _⟩
 ·obtain⟨t,hi,j,l,d⟩:=info_parts ku;have b:=Lib.run_append_grow_zeros (P:=aE) w 41 3 41 5 t _ .i64 .i64 underlying41 underlying3 hi j none 0 0 [] (by rw[l];rfl) n (by omega) (by omega) (by omega) (by omega) (by rw[d];omega) (by rw[d];exact growslice_fits (by omega) (by omega));have h:=grownCap_ge w (0+n) 0 5;have i:=grownCap_le_maxLen w (0+n) 0 5 (by unfold maxLen;omega);obtain⟨a,g⟩:=aH (grownCap w (0+n) 0 5);rw[g] at b h i;obtain⟨f,c⟩:=aP (w.drew.alloc (.cells ((([]:List Value).toArray++Builtin.zeroCells (Value.int .u8 0).cells n++Builtin.zeroCells (Value.int .u8 0).cells (a-(0+n)))) 5));rw[<- c] at b;have s:(AP #[41,3] 41 #[.slice none 0 0,.int .i64 (n:Int)]).run aE w=.ok (.slice (some ⟨w.heap.size,0,none⟩) (0+n) a) f:=b;rw[Nat.zero_add] at s h
  have p:f.ownsRow w.heap.size 5 1 (.slice (some ⟨w.heap.size,0,none⟩) 0 a) 0 []:=⟨rfl,.inr ⟨w.heap.size,a,_,rfl,aq _,by rw[c];exact heap_alloc_new w.drew _,Nat.zero_le _,i,by simp[size_zeroCells,Value.cells];omega,by simp⟩⟩
  have o:=ae (show Kpt w f by rw[c];exact⟨rfl,rfl,rfl,by simp,λk r=>Go.heap_alloc_old w.drew _ (h:=r)⟩);have x:(0:Int)<(n:Int):=by omega
  have z:0<n:=by omega
  clear b c g hi j l d
  go_enter func193,ntmps193
  go_wp2
  go_ret
  exact⟨⟨_,rfl,p⟩,o.x⟩
theorem zY(h:aO G W u l):Rows G W 1 u l.length (l.map B):=by
 obtain⟨a,d,rfl,f,g,j,k⟩:=h;refine⟨a,d,rfl,f,g,j,by simp,?_⟩;rcases k with rfl|⟨b,o,L,t,e,rfl,hF,m,p,n⟩
 ·exact .inl rfl
 ·refine .inr ⟨b,o,L,t,e,rfl,hF,m,by omega,λi hi=>?_⟩;have c:i<l.length:=by omega
  rw[n i c,List.getElem?_map,List.getElem?_eq_getElem c];rfl
theorem Ge:∀u∈b.map B,u.oneCell'=true:=λu a=>by
 obtain⟨c,_,rfl⟩:=List.mem_map.1 a;simp[Value.oneCell',B]
def fY(S:List (List UInt8)):List UInt8:=S.flatten
theorem yi(k:UInt8)(l:List UInt8):fY [[k],l]=k::l:=by unfold fY;simp
theorem pc{α:Type}(S:List (List α))(k:Nat)(h:k<S.length):(S.take (k+1)).flatten=(S.take k).flatten++S[k]:=by
 rw[List.take_succ_eq_append_getElem h,List.flatten_append];simp
theorem lO{α:Type}(S:List (List α))(k:Nat):(S.take k).flatten.length <= S.flatten.length:=by
 have h:(S.take k).flatten++(S.drop k).flatten=S.flatten:=by rw[<- List.flatten_append,List.take_append_drop]
 rw[<- h,aA];omega
theorem sG(S:List (List UInt8))(h:jO F w v S)(hl:(fY S).length <= 1000000000)(hn:S.length <= 1000000):
 Calls aE 138 #[v] w λe H=>(∃r,e=.returned r /\ H.ownsRow w.heap.size 5 1 r (fY S).length ((fY S).map B)) /\ Kpt w H:=by
 obtain⟨n,A⟩:=aH S.length;have C:=A;obtain⟨a,ay,rfl,hx⟩:=h
 have ax:∀k,k<n -> ∃g,a=some ⟨g,0,none⟩ /\ g<w.heap.size /\ ∃j l,w.cell? ⟨g,k,none⟩=some (.slice j (S.getD k []).length l) /\ aO F w (.slice j (S.getD k []).length l) (S.getD k []):=λk O=>by
  rcases hx with h0|⟨g,ha,D,hc⟩
  ·rw[h0] at A;simp at A;omega
  ·obtain⟨x,h1,K⟩:=hc k (by omega);have e:S.getD k []=S[k]'(by omega):=by rw[List.getD_eq_getElem?_getD,List.getElem?_eq_getElem (by omega)];rfl
   obtain⟨j,l,rfl,-⟩:=id K;exact⟨g,ha,D,j,l,by rw[e];exact h1,by rw[e];exact K⟩
 have J:=ax;have E:=hl;rw[A] at hn⊢
 go_enter func138,ntmps138
 go_wp2
 go_loopw [3,11] (λz i wr=>∃k:Nat,k <= n /\ i=.int .i64 (k:Int) /\ z=.int .i64 (((fY (S.take k)).length:Nat):Int) /\ w=wr) (λ_ i _=>n-(intOf i).toNat)
 ·exact⟨0,by omega,rfl,rfl,rfl⟩
 ·obtain⟨k,O,rfl,rfl,rfl⟩:=hrel
  by_cases V:k<n
  ·have Q:(k:Int)<(n:Int):=by omega
   obtain⟨g,rfl,D,j,l,u,y⟩:=J k V;obtain⟨m,t⟩:=aH ((S.getD k []).length);obtain⟨z,c⟩:=aH ((fY (S.take k)).length)
   have o:(fY (S.take (k+1))).length=z+m:=by
    have U:k<S.length:=by rw[C];exact V
    rw[show fY (S.take (k+1))=fY (S.take k)++S[k] from pc S k U,aA,c,<- t,List.getD_eq_getElem?_getD,List.getElem?_eq_getElem U];rfl
   have s:=(show(fY (S.take (k+1))).length <= (fY S).length from lO S (k+1))
   rw[o] at s;have aF:z+m <= 1000000000:=au s E;have hw:IntKind.i64.wrap ((z:Int)+(m:Int))=(z:Int)+(m:Int):=af _ (by omega);have A:¬(z:Int)+(m:Int)<0:=by omega
   rw[t] at u;have Hs:=o;clear y t s o;rw[c];clear c;go_wp2
   go_roundw
   ·exact⟨k+1,by omega,by go_num,by rw[Hs];simp,by first|rfl|trivial⟩
   ·simp[intOf];omega
  ·have Q:¬(k:Int)<(n:Int):=by omega
   have T:(fY (S.take k))=(fY S):=by rw[List.take_of_length_le (by have:=C;omega)]
   rw[T];obtain⟨z,c⟩:=aH ((fY S).length);have⟨I,Hz⟩:=ae2 (vQ w z (by have:=E;omega)) c;rw[c];clear T c;go_wp2_with fail;refine I.x.mono ?_;rintro e w1 ⟨⟨v1,rfl,W⟩,L⟩;have⟨ak,ag⟩:=ae2 W L;clear I W L Q O;go_wp2
   go_loopw [6,27] (λr i wr=>∃(k:Nat),k <= n /\ i=.int .i64 (k:Int) /\ wr.ownsRow w.heap.size 5 1 r (fY (S.take k)).length ((fY (S.take k)).map B) /\ Kpt w wr) (λ_ i _=>n-(intOf i).toNat)
   ·exact⟨0,by omega,rfl,ak.x,ag.x⟩
   ·rename World=>wr
    obtain⟨q,hq,rfl,f,d⟩:=hrel
    by_cases Z:q<n
    ·have av:(q:Int)<(n:Int):=by omega
     obtain⟨g,rfl,D,j,l,u,y⟩:=J q Z;have G:q<S.length:=by rw[C];exact Z
     have o:fY (S.take (q+1))=fY (S.take q)++S[q]:=pc S q G;have e:S.getD q []=S[q]:=by rw[List.getD_eq_getElem?_getD,List.getElem?_eq_getElem G];rfl
     have s:=(show(fY (S.take (q+1))).length <= (fY S).length from lO S (q+1))
     rw[o,aA] at s;rw[e] at u y;obtain⟨i0,hi,aa,ab,ad⟩:=info_parts ku;have an:=E;obtain⟨v2,w2,hr,X,N⟩:=en (P:=aE) wr w.heap.size 41 5 underlying41 hi aa ab ad rfl (by decide) _ _ _ f F _ _ _ (zY (y.keep (w':=wr) λb az ao=>d.block b ao)) (Ge _) (by unfold maxLen;omega) (by omega) d.size;have M:Kpt w w2:=d.trans (Below.grownOwn f N d.size (aq _));have c1:wr.cell? ⟨g,q,none⟩=some (.slice j S[q].length l):=(d.cell (p:=⟨g,q,none⟩) D).trans u;have⟨al,ai⟩:=ae2 (show w2.ownsRow w.heap.size 5 1 v2 (fY (S.take (q+1))).length ((fY (S.take (q+1))).map B) by rw[o,aA,List.map_append];exact X) M;obtain⟨m,t⟩:=aH S[q].length;rw[t] at hr c1;obtain⟨z,c⟩:=aH ((fY (S.take q)).length);obtain⟨ar,cr,rfl⟩:=aJ f;rw[c] at hr⊢;clear f X N M o s an e u y hi aa ab ad d t c G;go_wp2
     go_roundw
     ·exact⟨q+1,by omega,by go_num,al.x,ai.x⟩
     ·simp[intOf];omega
    ·have av:¬(q:Int)<(n:Int):=by omega
     have Y:(fY (S.take q))=(fY S):=by rw[List.take_of_length_le (by have:=C;omega)]
     rw[Y] at f;have⟨Ho,Hb⟩:=ae2 f d;obtain⟨ar,cr,rfl⟩:=aJ f;clear f d Y;go_wp2
     go_ret
     exact⟨⟨_,rfl,Ho.x⟩,Hb.x⟩
theorem aO.insideU(h:aO G W u l):aO (λq=>q<W.heap.size) W u l:=by
 obtain⟨a,d,rfl,f,g,i,j⟩:=h;refine⟨a,d,rfl,f,g,i,?_⟩;rcases j with rfl|⟨b,n,L,t,e,rfl,hF,c,k,m⟩
 ·exact .inl rfl
 ·exact .inr ⟨b,n,L,t,e,rfl,lt_of_block c,c,k,m⟩
theorem oh(k:UInt8)(v:Value)(S:List (List UInt8))(h:jO F w v S)(Q:(fY S).length <= 100000000)(Z:S.length <= 1000):
 Calls aE 81 #[B k,v] w λe q=>(∃r,e=.returned r /\ q.ownsRow w.heap.size 5 1 r (k::(fY S)).length ((k::(fY S)).map B)) /\ Kpt w q:=by
 obtain⟨d,c⟩:=aP (w.alloc (.cells #[B k] 5));have u:Kpt w d:=by rw[c];exact aI _ _
 have s:=sG d F v S (h.kept u) (by omega) (by omega)
 have L:aO (λb=>w.heap.size <= b) d (.slice (some ⟨w.heap.size,0,none⟩) 1 1) [k]:=by
  refine⟨_,1,rfl,by simp,by unfold maxLen;omega,nofun,.inr ⟨w.heap.size,0,_,_,_,rfl,aq _,by rw[c];exact heap_alloc_new w _,by simp,λi hi=>?_⟩⟩;have:i=0:=by simpa using hi
  subst this;simp
 have A:=L;have g:=u;have D:=Q;obtain⟨a,Y,rfl,-⟩:=h;obtain⟨n,U⟩:=aH S.length;rw[U] at s⊢;obtain⟨H,o⟩:=aH (B k);rw[o] at c⊢;have X:=o;have P:H=.int .u8 (k.toNat:Int):=by rw[<- o];rfl
 subst P
 go_enter func81,ntmps81
 go_wp2_with fail;rw[<- c];refine s.mono ?_;rintro e f ⟨⟨W,rfl,x⟩,m⟩;have J:=(A.keep (w':=f) λb _ T=>m.block b T).insideU;have l:aO (λb=>d.heap.size <= b /\ b<f.heap.size) f W (fY S):=aO.of_owns x _ λb K l=>⟨K,l⟩
 obtain⟨G,I,rfl⟩:=aJ x;have y:=sE J l.insideU (λb M=>M);obtain⟨z,p⟩:=aP (f.alloc (.cells #[.slice (some ⟨w.heap.size,0,none⟩) 1 1,.slice G (fY S).length I] 41));have N:Kpt w z:=by rw[p];exact(g.trans (m.mono g.size)).alloc (au g.size m.size) _
 rw[<- p] at y;have t:=sG z _ _ _ y (by rw[yi];have:=D;rw[aD];omega) (by simp);rw[yi] at t;have j:=N;go_wp2_with fail;rw[<- p];refine t.mono ?_;rintro e w4 ⟨⟨r4,rfl,V⟩,O⟩;have E:=bJ V j.size;have C:=j.trans (O.mono j.size);go_wp2
 go_ret
 exact⟨⟨_,rfl,E⟩,C⟩
theorem yj(l:List bQ)(h:Rows F w 1 v l.length (l.map Go.Proofs.encStr))(V:l.length <= 1000000)(R:∀k∈l,k.length <= 100000):
 Calls aE 118 #[.slice none 0 0,v] w λe w'=>(∃r,e=.returned r /\ w'.ownsRow w.heap.size 5 1 r (eM l).length ((eM l).map B)) /\ Kpt w w':=by
 have c:=j4 w none_ (.slice none 0 0) [] (qC none_ w none) l.length (by omega) (by simp);have Y:IntKind.u64.wrap (l.length:Int)=(l.length:Int):=IntWalk.u64_in _ (by omega)
 replace h:=h.mono (G:=λb=>b<w.heap.size) λb _ W=>W
 have H:=h;obtain⟨a,aa,rfl,-⟩:=h;obtain⟨n,A⟩:=aH l.length;have f:=A;have t:=R;rw[A] at c Y V H⊢
 go_enter func118,ntmps118
 go_wp2_with fail;refine c.mono ?_;rintro e w1 ⟨⟨r1,rfl,C⟩,O⟩;rw[List.nil_append] at C;go_wp2
 go_loopw [0,14] (λr i wr=>∃(k:Nat),k <= n /\ i=.int .i64 (k:Int) /\ wr.ownsRow w.heap.size 5 1 r (bY n++(l.take k).flatMap bt).length ((bY n++(l.take k).flatMap bt).map B) /\ Kpt w wr) (λ_ i _=>n-(intOf i).toNat)
 ·exact⟨0,by omega,rfl,by simpa using C,O⟩
 ·obtain⟨k,ab,rfl,g,o⟩:=hrel
  by_cases S:k<n
  ·have T:(k:Int)<(n:Int):=by omega
   have p:k<l.length:=by rw[f];exact S
   have E:=H.keep (w':=wr) λb s _=>o.block b s
   rw[<- f] at E;obtain⟨b,ai,rfl,-,-,Q⟩:=fE E (by omega);have L:=Q k p;have N:aO (λq=>q<wr.heap.size) wr _ _:=(aO.of_owns g (λ_=>True) λ_ _ _=>trivial).insideU
   have ad:((l.take k).flatMap bt).length <= k*200000:=by
    have s:∀(q:List bQ),(∀x∈q,x.length <= 100000) -> (q.flatMap bt).length <= q.length*200000:=λq=>by
     induction q with
     |nil=>intro _;simp
     |cons x q ih=>
      intro j;have h1:=ih λy m=>j y (List.mem_cons_of_mem _ m)
      have h2:=j x List.mem_cons_self;have h3:=cq x.length;have M:(bt x).length=(bY x.length).length+x.length:=by unfold bt;rw[aA]
      rw[List.flatMap_cons,aA,aD,M];omega
    have:=s (l.take k) λx j=>t x (List.mem_of_mem_take j)
    rw[List.length_take,Nat.min_eq_left (by omega)] at this;exact this
   have ag:=cq n;have u:=lW wr _ _ _ N l[k] (by have:=t _ (aC p);omega) (by rw[aA];omega);obtain⟨y,m⟩:=aH l[k]
   have X:bY n++(l.take (k+1)).flatMap bt=(bY n++(l.take k).flatMap bt)++bt y:=by
    rw[List.take_succ_eq_append_getElem p,List.flatMap_append,m,aB];simp
   rw[m] at u L;have c:=u;have d:=o;obtain⟨ar,cr,rfl⟩:=aJ g;obtain⟨z,Z⟩:=aH ((bY n++(l.take k).flatMap bt).length);rw[Z] at c⊢;go_wp2_with fail;refine c.mono ?_;rintro e w2 ⟨⟨r2,rfl,D⟩,P⟩;rw[<- X] at D;have K:=bJ D d.size;have I:=d.trans (P.mono d.size);go_wp2
   go_roundw
   ·exact⟨k+1,by omega,by go_num,K,I⟩
   ·simp[intOf];omega
  ·have T:¬(k:Int)<(n:Int):=by omega
   have U:l.take k=l:=List.take_of_length_le (by rw[f];omega);rw[U] at g;have J:=g;have d:=o;go_wp2
   go_ret
   exact⟨⟨_,rfl,by have h:=J;unfold eM;rw[f];exact h⟩,d⟩
end
section
open Go.Lib
attribute [local go_sem ↓] aU
attribute [local go_sem] opC upC
theorem sH(x:UInt8):Out (w.alloc (.cells #[B x] 5)) (w.alloc (.cells #[B x] 5)) w.heap.size (.slice (some ⟨w.heap.size,0,none⟩) 1 1) [x]:=
 ⟨⟨rfl,.inr ⟨w.heap.size,1,#[B x],rfl,aq _,by unfold World.alloc;simp,aq _,by unfold maxLen;omega,rfl,rfl⟩⟩,Below.refl _ _,by simp⟩
theorem om(hd:n<8)(F:aQ)(v:Value)(m:aT)(h:di F w v m)(j:aV m=true):
 Calls aE 63 #[.int .i64 (n:Int),v] w λe o=>(∃r,e=.returned r /\ o.ownsRow w.heap.size 5 1 r (dB n m).length ((dB n m).map B)) /\ Kpt w o:=by
 replace h:=h.mono (G:=λb=>b<w.heap.size) λb _ ag=>ag
 have z:=cO j;have ab:=(cX j).2.2.2
 replace h:=jF h 75
 obtain⟨S,p1,T,p2,U,p3,n1,n2,n3,wx,rfl,h,l1,l2,l3,M,N,O,Q,s,av,R,ar,c0,c1,c2⟩:=h
 try rw[M.x]
 try rw[N.x]
 try rw[O.x]
 have u:=qy wx _ (.agg #[.slice S n1 p1,.slice T n2 p2,.slice U n3 p3]) m ⟨_,_,_,rfl,R.x⟩ (λx l=>au (z.1 x l) (by decide)) (λx l=>au (z.2 x l) (by decide));rw[show encR m=(cQ m,0) by unfold encR;rw[j];rfl] at u;have hw:IntKind.u64.wrap (n:Int)=(n:Int):=IntWalk.u64_in _ (by omega);have L:=ab;have J:=hd
 go_enter func63,ntmps63
 go_wp2_with fail;rw[<- Q.x];refine u.mono ?_;rintro e a ⟨⟨v1,rfl,t⟩,V⟩;obtain⟨ac,cc,rfl,-⟩:=id t;obtain⟨g,k⟩:=aP (a.alloc (.cells #[.int .u8 0] 5));have al:Out g g a.heap.size (.slice (some ⟨a.heap.size,0,none⟩) 1 1) [0]:=by rw[k];exact sH a 0
 have W:Kpt a g:=by rw[k];exact aI _ _
 have E:=dS g n (by have:=J;omega);have D:=t.insideU;have P:=al;have H:=W;have f:=s.x.trans (V.mono s.x.size);obtain⟨nc,A⟩:=aH ((cQ m).length);rw[A];go_wp2_with fail;rw[<- k];refine E.mono ?_;rintro e w3 ⟨⟨r3,rfl,C⟩,X⟩;obtain⟨ad,nd,cd,i,an,c,-⟩:=P.app X C (by simp) (by have:=cq n;omega);have y:Kpt a i:=H.trans c.2.1;have Z:=D.keep (w':=i) λq hq _=>y.block q hq
 obtain⟨v5,p,ao,ak,aa⟩:=cP i a.heap.size _ _ c.1 _ _ _ Z (by have:=cq n;have:=L;simp;omega) c.2.2;have Y:Below a.heap.size i p:=Below.grownOwn c.1 aa c.2.2 (aq _)
 have K:p.ownsRow w.heap.size 5 1 v5 (dB n m).length ((dB n m).map B):=by
  refine bJ ?_ f.size;have e:dB n m=([0]++bY n)++cQ m:=rfl;rw[e];exact ak
 have I:Kpt w p:=(f.trans (y.mono f.size)).trans (Y.mono f.size);rw[A] at ao;obtain⟨ax,ay,rfl⟩:=aJ C;obtain⟨nu,ai⟩:=aH ((bY n).length);rw[ai] at an⊢;go_wp2
 go_ret
 exact⟨⟨_,rfl,K⟩,I⟩
theorem BS(k:UInt8)(F:aQ)(v:Value)(l:List bQ)(j:Rows F w 1 v l.length (l.map eS))(s:l.length <= 1000)(g:∀k∈l,k.length <= 1000):
 Calls aE 123 #[.int .u8 (k.toNat:Int),v] w λe w'=>(∃r,e=.returned r /\ w'.ownsRow w.heap.size 5 1 r (k::eM l).length ((k::eM l).map B)) /\ Kpt w w':=by
 obtain⟨a,D,rfl,-⟩:=j.shape;obtain⟨b,c⟩:=aP (w.alloc (.cells #[.int .u8 (k.toNat:Int)] 5));have y:Out b b w.heap.size (.slice (some ⟨w.heap.size,0,none⟩) 1 1) [k]:=by rw[c];exact sH w k
 have f:Kpt w b:=by rw[c];exact aI _ _
 have d:=xV b _ _ l (j.keep (w':=b) λq _ t=>f.block q t) s g
 have m:(eM l).length <= 1020000:=by
  have:=cq l.length;have H:=sf 1000 l g;unfold eM;rw[aA];omega
 obtain⟨n,u⟩:=aH l.length;rw[u] at d⊢;have o:=y
 go_enter func123,ntmps123
 go_wp2_with fail;rw[<- c];refine d.mono ?_;rintro e L ⟨⟨K,rfl,h⟩,p⟩;obtain⟨A,I,E,M,z,i,-⟩:=o.app p h (by simp) (by have:=m;omega);obtain⟨C,G,rfl⟩:=aJ h;obtain⟨J,x⟩:=aH ((eM l).length);rw[x] at z⊢;go_wp2
 go_ret
 exact⟨⟨_,rfl,i.1⟩,f.trans i.2.1⟩
end
section
open Go.Lib
theorem ja(F:aQ)(a:Option Addr)(c:Nat)(b:List UInt8)(d:dO)(h:xR w n a c b d)(g:aO F w (.slice a b.length c) b)(hF:∀q,F q -> q<w.heap.size):
 Calls aE 189 #[.pointer (some ⟨n,0,none⟩)] w λe f=>e=.returned (.int .i64 (cC d).1) /\ xR f n a c b (cC d).2 /\ aM (λq=>q=n) w f:=
 un (.inr rfl) w n F a c b d h g λk j W i=>j6 W F a c b k (g.keep (w':=W) λq m l=>i.block q l) j
theorem uC(F:aQ)(a:Option Addr)(c:Nat)(b:List UInt8)(d:dO)(h:xR w n a c b d)(g:aO F w (.slice a b.length c) b)(hF:∀q,F q -> q<w.heap.size):
 Calls aE 190 #[.pointer (some ⟨n,0,none⟩)] w λe f=>e=.returned (.string ⟨(cM d).1.toArray⟩) /\ xR f n a c b (cM d).2 /\ aM (λq=>q=n) w f:=
 rZ (.inr rfl) w n F a c b d h g λk j W i=>oR W F a c b k (g.keep (w':=W) λq m l=>i.block q l) j
end
section
open Go.Lib
attribute [local go_sem ↓] aU
attribute [local go_sem] opC upC
structure ju(w:World)(M:Nat)(av:Option Addr)(cap:Nat)(b:List UInt8)(W:World)(l:List Int)(its:List RIt)(gs:List RGo)(az:Option Addr)(cz:Nat)(ai:Option Addr)(ci:Nat)(ag:Option Addr)(cg:Nat)(st:dO):Prop where
 bel:Kpt w W
 res:Blk W w.heap.size [.slice none 0 0,.slice none 0 0,.slice none 0 0] 75
 rd:xR W (w.heap.size+1) av cap b st
 map:Blk W M [.slice az l.length cz,.slice ai its.length ci,.slice ag gs.length cg] 75
 hM:w.heap.size+1<M
 seen:W.ownsRow (M+1) 3 1 (.slice az l.length cz) l.length (l.map eI)
 items:W.ownsRow (M+1) 129 4 (.slice ai its.length ci) its.length (its.flatMap bT)
 gone:W.ownsRow (M+1) 130 3 (.slice ag gs.length cg) gs.length (gs.flatMap du)
section
variable {w:World} {M:Nat} {av:Option Addr} {cap:Nat} {b:List UInt8} {W W':World} {l:List Int} {its:List RIt} {gs:List RGo} {az:Option Addr} {cz:Nat} {ai:Option Addr} {ci:Nat} {ag:Option Addr} {cg:Nat} {st:dO}
theorem xR.blk(h:xR W i av cap b st):∃L,Blk W i L 238:=by
 obtain⟨k,c,a,-⟩:=h;exact⟨_,a⟩
theorem ju.read(h:ju w M av cap b W l its gs az cz ai ci ag cg st)(a:aM (λq=>q=w.heap.size+1) W W'){d:dO}(f:xR W' (w.heap.size+1) av cap b d):ju w M av cap b W' l its gs az cz ai ci ag cg d:=by
 have e:=h.hM;exact⟨h.bel.trans (a.below (λq c=>by have g:q=w.heap.size+1:=c;omega) h.bel.size),h.res.keep (a.block _ h.res.lt (by show ¬w.heap.size=w.heap.size+1;omega)),f,h.map.keep (a.block _ h.map.lt (by show ¬M=w.heap.size+1;omega)),e,jJ h.seen a (λq c=>by show ¬q=w.heap.size+1;omega),jJ h.items a (λq c=>by show ¬q=w.heap.size+1;omega),jJ h.gone a (λq c=>by show ¬q=w.heap.size+1;omega)⟩
theorem ju.kept(h:ju w M av cap b W l its gs az cz ai ci ag cg st)(a:Kpt W W'):ju w M av cap b W' l its gs az cz ai ci ag cg st:=by
 have c:w.heap.size+1<W.heap.size:=h.rd.lt;exact⟨h.bel.trans (a.mono h.bel.size),h.res.keep (a.block _ h.res.lt),h.rd.keep (a.block _ c),h.map.keep (a.block _ h.map.lt),h.hM,br h.seen a,br h.items a,br h.gone a⟩
theorem ju.far(h:ju w M av cap b W l its gs az cz ai ci ag cg st)(g:M<i)(c:∀q,(Value.slice az l.length cz).ownBlock=some q -> q≠i)(d:∀q,(Value.slice ai its.length ci).ownBlock=some q -> q≠i)(e:∀q,(Value.slice ag gs.length cg).ownBlock=some q -> q≠i)(a:Nat)(u:Value):ju w M av cap b (W.setCell ⟨i,a,none⟩ u) l its gs az cz ai ci ag cg st:=by
 have f:=h.hM;exact⟨h.bel.setCell (p:=⟨i,a,none⟩) (by show w.heap.size <= i;omega) _,h.res.set_other _ (by show w.heap.size≠i;omega),h.rd.keep (Below.heap_setCell _ _ _ _ (by show w.heap.size+1≠i;omega)),h.map.set_other _ (by show M≠i;omega),f,jK h.seen c u,jK h.items d u,jK h.gone e u⟩
theorem ju.sn(h:ju w M av cap b W l its gs az cz ai ci ag cg st){x:Int}{c:Option Addr}(d:W.grownBy W' (Value.slice az l.length cz).ownBlock)
 (t:W'.ownsRow (M+1) 3 1 (.slice c (l.length+1) j) (l.length+1) (l.map eI++[eI x])):ju w M av cap b (W'.setCell ⟨M,0,none⟩ (.slice c (l.length+1) j)) (l++[x]) its gs c j ai ci ag cg st:=by
 have q:=h.hM;obtain⟨k,o,u,s,v⟩:=h.rd;have e:=h.map.grownNe h.seen (by decide) d;have r:Kpt w W':=h.bel.trans (Below.grownOwn h.seen d h.bel.size (by omega));have f:(l++[x]).length=l.length+1:=by simp
 have n:=(u.grownNe h.seen (by decide) d).set_other (.slice c (l.length+1) j) (a:=⟨M,0,none⟩) (by show w.heap.size+1≠M;omega)
 have m:(W'.setCell ⟨M,0,none⟩ (.slice c (l.length+1) j)).ownsRow (M+1) 3 1 (.slice c (l++[x]).length j) (l++[x]).length ((l++[x]).map eI):=by
  rw[f];have:=aL (i:=0) t e (by decide) (.slice c (l.length+1) j);simpa using this
 have g:=e.set 0 (.slice c (l.length+1) j);rw[<- f] at g;rw[<- f] at m n⊢;exact⟨r.setCell (p:=⟨M,0,none⟩) (by show w.heap.size <= M;omega) _,(h.res.grownNe h.seen (by decide) d).set_other _ (by show w.heap.size≠M;omega),⟨k,o,n,s,v⟩,g,q,m,aL (bZ h.items h.seen (by decide) d) e (by decide) _,aL (bZ h.gone h.seen (by decide) d) e (by decide) _⟩
theorem ju.item(h:ju w M av cap b W l its gs az cz ai ci ag cg st){x:RIt}{c:Option Addr}(d:W.grownBy W' (Value.slice ai its.length ci).ownBlock)
 (t:W'.ownsRow (M+1) 129 4 (.slice c (its.length+1) j) (its.length+1) (its.flatMap bT++bT x)):ju w M av cap b (W'.setCell ⟨M,1,none⟩ (.slice c (its.length+1) j)) l (its++[x]) gs az cz c j ag cg st:=by
 have q:=h.hM;obtain⟨k,o,u,s,v⟩:=h.rd;have e:=h.map.grownNe h.items (by decide) d;have r:Kpt w W':=h.bel.trans (Below.grownOwn h.items d h.bel.size (by omega));have f:(its++[x]).length=its.length+1:=by simp
 have n:=(u.grownNe h.items (by decide) d).set_other (.slice c (its.length+1) j) (a:=⟨M,1,none⟩) (by show w.heap.size+1≠M;omega)
 have m:(W'.setCell ⟨M,1,none⟩ (.slice c (its.length+1) j)).ownsRow (M+1) 129 4 (.slice c (its++[x]).length j) (its++[x]).length ((its++[x]).flatMap bT):=by
  rw[f];have:=aL (i:=1) t e (by decide) (.slice c (its.length+1) j);simpa using this
 have g:=e.set 1 (.slice c (its.length+1) j);rw[<- f] at g;rw[<- f] at m n⊢;exact⟨r.setCell (p:=⟨M,1,none⟩) (by show w.heap.size <= M;omega) _,(h.res.grownNe h.items (by decide) d).set_other _ (by show w.heap.size≠M;omega),⟨k,o,n,s,v⟩,g,q,aL (bZ h.seen h.items (by decide) d) e (by decide) _,m,aL (bZ h.gone h.items (by decide) d) e (by decide) _⟩
theorem ju.gon(h:ju w M av cap b W l its gs az cz ai ci ag cg st){x:RGo}{c:Option Addr}(d:W.grownBy W' (Value.slice ag gs.length cg).ownBlock)
 (t:W'.ownsRow (M+1) 130 3 (.slice c (gs.length+1) j) (gs.length+1) (gs.flatMap du++du x)):ju w M av cap b (W'.setCell ⟨M,2,none⟩ (.slice c (gs.length+1) j)) l its (gs++[x]) az cz ai ci c j st:=by
 have q:=h.hM;obtain⟨k,o,u,s,v⟩:=h.rd;have e:=h.map.grownNe h.gone (by decide) d;have r:Kpt w W':=h.bel.trans (Below.grownOwn h.gone d h.bel.size (by omega));have f:(gs++[x]).length=gs.length+1:=by simp
 have n:=(u.grownNe h.gone (by decide) d).set_other (.slice c (gs.length+1) j) (a:=⟨M,2,none⟩) (by show w.heap.size+1≠M;omega)
 have m:(W'.setCell ⟨M,2,none⟩ (.slice c (gs.length+1) j)).ownsRow (M+1) 130 3 (.slice c (gs++[x]).length j) (gs++[x]).length ((gs++[x]).flatMap du):=by
  rw[f];have:=aL (i:=2) t e (by decide) (.slice c (gs.length+1) j);simpa using this
 have g:=e.set 2 (.slice c (gs.length+1) j);rw[<- f] at g;rw[<- f] at m n⊢;exact⟨r.setCell (p:=⟨M,2,none⟩) (by show w.heap.size <= M;omega) _,(h.res.grownNe h.gone (by decide) d).set_other _ (by show w.heap.size≠M;omega),⟨k,o,n,s,v⟩,g,q,aL (bZ h.seen h.gone (by decide) d) e (by decide) _,aL (bZ h.items h.gone (by decide) d) e (by decide) _,m⟩
theorem ju.mapV(h:ju w M av cap b W l its gs az cz ai ci ag cg st)(d:∀x∈l,0 <= x /\ x <= 1099511627776)(e:∀x∈its,ItB i x)(f:∀x∈gs,GoB i x)(o:i <= 1000000):
 di (λq=>w.heap.size<q) W (.agg #[.slice az l.length cz,.slice ai its.length ci,.slice ag gs.length cg]) ⟨l,its,gs⟩:=by
 have m:=h.hM;refine⟨_,_,_,rfl,(Rows.of_owns h.seen).mono λq a _=>by have:=a.1;omega,(Rows.of_owns h.items).mono λq a _=>by have:=a.1;omega,(Rows.of_owns h.gone).mono λq a _=>by have:=a.1;omega,λx c=>?_,λx c=>?_,λx c=>?_⟩
 ·have:=d x c;unfold dk;omega
 ·obtain⟨g,j,k,p⟩:=e x c;unfold dk;omega
 ·obtain⟨g,j,k⟩:=f x c;unfold dk;omega
end
end
section
open Go.Lib
attribute [local go_sem ↓] aU
attribute [local go_sem] opC upC told bE bm bF bp bq bG bH
theorem EN{w W:World}(x y z:Value)(c:di (λq=>w.heap.size<q) W u r):
 di (λq=>w.heap.size <= q) (((W.setCell ⟨w.heap.size,0,none⟩ x).setCell ⟨w.heap.size,1,none⟩ y).setCell ⟨w.heap.size,2,none⟩ z) u r:=by
 refine(c.keep (w':=((W.setCell ⟨w.heap.size,0,none⟩ x).setCell ⟨w.heap.size,1,none⟩ y).setCell ⟨w.heap.size,2,none⟩ z) λq b _=>?_).mono λq b _=>Nat.le_of_lt b
 have a:q≠w.heap.size:=by have d:w.heap.size<q:=b;omega
 exact(Below.heap_setCell _ _ _ _ a).trans ((Below.heap_setCell _ _ _ _ a).trans (Below.heap_setCell _ _ _ _ a))
theorem yk(p:Option Addr)(s:Nat)(b:List UInt8)(hB:aO F w (.slice p b.length s) b)(hF:∀q,F q -> q<w.heap.size)(hl:b.length <= 60000):
 Calls aE 134 #[.slice p b.length s] w (AR w b):=by
 have u:=ae (show ∀a,Kpt w a -> aO F a (.slice p b.length s) b /\ ∀q,F q -> q<a.heap.size from λa hb=>⟨hB.keep (w':=a) λq J _=>hb.block q (hF q J),λq J=>aw (hF q J) hb.size⟩);obtain⟨M,hM⟩:=aH (w.heap.size+1+1);obtain⟨w4,bN⟩:=aP (((w.alloc (.cells #[.slice none 0 0,.slice none 0 0,.slice none 0 0] 75)).alloc (.cells #[.slice p b.length s,.int .i64 0,.bool false] 238)).alloc (.cells #[.slice none 0 0,.slice none 0 0,.slice none 0 0] 75))
 have D:ju w M p s b w4 [] [] [] none 0 none 0 none 0 (some b):=by
  have r1:=((Blk.new w #[.slice none 0 0,.slice none 0 0,.slice none 0 0] 75).alloc (.cells #[.slice p b.length s,.int .i64 0,.bool false] 238)).alloc (.cells #[.slice none 0 0,.slice none 0 0,.slice none 0 0] 75);have r2:=(Blk.new (w.alloc (.cells #[.slice none 0 0,.slice none 0 0,.slice none 0 0] 75)) #[.slice p b.length s,.int .i64 0,.bool false] 238).alloc (.cells #[.slice none 0 0,.slice none 0 0,.slice none 0 0] 75);have r3:=Blk.new ((w.alloc (.cells #[.slice none 0 0,.slice none 0 0,.slice none 0 0] 75)).alloc (.cells #[.slice p b.length s,.int .i64 0,.bool false] 238)) #[.slice none 0 0,.slice none 0 0,.slice none 0 0] 75;simp only[World.size_alloc] at r2 r3;rw[<- bN] at r1 r2 r3;rw[hM] at r3;refine⟨?_,r1,⟨0,false,r2,Nat.zero_le _,by simp⟩,r3,by omega,World.ownsRow_nil _ _ _ _,World.ownsRow_nil _ _ _ _,World.ownsRow_nil _ _ _ _⟩;rw[bN];exact(((Below.refl w.heap.size w).alloc (aq _) _).alloc (by simp) _).alloc (by simp;omega) _
 have⟨HD,b2,Hl⟩:=ae3 D bN hl;obtain⟨n,hn⟩:=aH b.length;have c8:¬(60000:Int)<(n:Int):=by omega
 have⟨Hn,HM⟩:=ae2 hn hM;clear hB hF D bN hl;rw[hn];rw[hn] at b2;clear hn
 go_enter func134,ntmps134
 go_wp2;rw[<- b2.x];clear hM b2
 go_loopw [6] (λi wr=>∃k:Nat,k <= 8 /\ i=.int .i64 (k:Int) /\ ∃L U az cz,io k ([],some b)=(L,U) /\ L.length=k /\ ju w M p s b wr L [] [] az cz none 0 none 0 U) (λi _=>8-(intOf i).toNat)
 ·exact⟨0,by omega,rfl,[],some b,none,0,rfl,rfl,HD.x⟩
 ·obtain⟨k,hk,rfl,L,U,az,cz,bJ,hL,D⟩:=hrel
  by_cases c7:k<8
  ·have cW:(k:Int)<8:=by omega
   have pm:∀a,aM (λq=>q=w.heap.size+1 \/ M<q) wr.drew a -> a.cell? ⟨M,0,none⟩=some (.slice az L.length cz):=λa hh=>aM.cellB hh (D.map.cell 0) (by have:=D.hM;show ¬(M=w.heap.size+1 \/ M<M);omega)
   have bm:=D.kept (W':=wr.drew) ((Below.refl wr.heap.size wr).drew);have⟨l,f⟩:=ae2 bm (ja wr.drew (w.heap.size+1) F p s b U bm.rd (u.x _ bm.bel).1 (u.x _ bm.bel).2);clear D bm;go_wp2_with fail;refine dq (aM (λq=>q=w.heap.size+1 \/ M<q)) 7 (up 3 [503,504,505,6,507]) (by kernel_rfl) ?_;apply bC;rfl;intro a C;go_simp;(repeat (simp(disch:=omega) only[af,if_pos];go_simp));exact aF;refine cD rfl rfl (λKK y=>?_);go_simp;refine f.x.mono ?_;rintro e V ⟨rfl,g,ce⟩;refine⟨_,rfl,aM.trans (aM.refl _ _) ce (λi hi=>.inl (.inl hi)),y _ _ ?_⟩;have bE:=l.x.read ce g;clear y KK f ce g pm l;go_simp;obtain⟨x,R⟩:=aH ((cC U).1);rw[R];obtain⟨i0,t1,t2,t3,t4⟩:=info_parts ua;obtain⟨va,w9,hr,ad,G⟩:=cu (P:=aE) V (M+1) 33 3 underlying33 t1 t2 t3 t4 rfl (by decide) (.slice az L.length cz) L.length _ bE.seen #[.int .i64 x] rfl (by simp[Value.oneCell']) (by unfold maxLen;omega) (by omega) bE.map.lt;obtain⟨a5,c5,rfl⟩:=aJ ad;have I:=bE.kept (aI V (.cells #[.int .i64 x] 3));have b5:=I.sn (x:=x) G (by simpa using ad);have ca:=I.map.grownNe I.seen (by decide) G;have k1:aM (λq=>q=w.heap.size+1 \/ M<q) V (V.alloc (.cells #[.int .i64 x] 3)):=(aM.refl _ V).alloc _
   have k2:aM (λq=>q=w.heap.size+1 \/ M<q) (V.alloc (.cells #[.int .i64 x] 3)) w9:=⟨G.os,G.tape,G.output,G.size,λq J hn=>G.block q J λe=>hn (.inr (by have:=(I.seen.lt q e.symm).1;omega))⟩
   obtain⟨d0,d1,d2⟩:=aS ca;have g0:=ca.free 0;obtain⟨dc,bM⟩:=aP (w9.setCell ⟨M,0,none⟩ (.slice a5 (L.length+1) c5));rw[<- bM] at b5;rw[hL] at hr bM d0;have⟨al,cS,Hx⟩:=ae3 b5 bM R;clear bE I b5 bM ca ad G t1 t2 t3 t4 R;refine cD rfl rfl (λKK y=>?_);go_simp
   first|refine⟨k1,y _ _ ?_⟩|refine y _ _ ?_
   clear y KK;go_simp;refine cD rfl rfl (λKK y=>?_);go_simp
   first|refine⟨k2,y _ _ ?_⟩|refine y _ _ ?_
   clear y KK k1 k2 hr;go_simp;apply bC;rfl;intro a C;go_simp;(repeat (simp(disch:=omega) only[af,if_pos];go_simp));exact aF;refine cG rfl rfl rfl (λKK y=>?_);go_simp;refine y _ _ ?_;clear y KK;go_simp;refine cZ ?_;rw[<- cS.x];clear d0 d1 d2 g0;go_wp2
   go_roundw
   ·exact⟨k+1,by omega,by go_num,L++[x],(cC U).2,a5,c5,by rw[jI,bJ,Hx.x],by simp[hL],al.x⟩
   ·simp[intOf];omega
  ·have cW:¬(k:Int)<8:=by omega
   obtain rfl:k=8:=by omega
   have ct:pR b=(L,U):=bJ;have cj:=se 8 ([],some b);rw[bJ] at cj;have⟨bW,HL,bd,cN⟩:=ae4 ct hL D (show szS U <= b.length+1 from cj);clear D bJ hk ct hL cj HD;obtain⟨⟨n0,s0⟩,ay⟩:=aH (cC U);have aL:=gC U;have aU:=(iR U).1;rw[ay] at aL aU;dsimp only at aL aU;obtain⟨N,rfl⟩:=Int.eq_ofNat_of_zero_le aL.1;have⟨cO,cF⟩:=ae2 (au aU cN.x) (show fC fP N ([],s0)=jY b by unfold jY;rw[bW.x];dsimp only;rw[ay];rfl);have c9:N <= 1099511627776:=by omega
   have c:=ja wr (w.heap.size+1) F p s b _ bd.x.rd (u.x _ bd.x.bel).1 (u.x _ bd.x.bel).2;rw[ay] at c;dsimp only at c;have f:=ae c;clear c;go_wp2_with fail
   skip
   refine f.x.mono ?_;rintro e w5 ⟨rfl,g,cw⟩;have cT:=ae (bd.x.read cw g);clear f g;clear aL aU ay bd cw;go_wp2
   go_loopw [8] (λi wq=>∃(j:Nat)(z:List RIt)(ai:Option Addr)(ci:Nat)(sq:dO),j <= N /\ i=.int .i64 (j:Int) /\ fC fP (N-j) (z,sq)=jY b /\ (∀x∈z,ItB (b.length+1) x) /\ z.length+szS sq <= b.length+1 /\ ju w M p s b wq L z [] az cz ai ci none 0 sq) (λi _=>N-(intOf i).toNat)
   ·exact⟨0,[],none,0,s0,by omega,rfl,cF.x,nofun,by simpa using cO.x,cT.x⟩
   ·obtain⟨j,z,ai,ci,sq,bG,rfl,br,cr,cy,D⟩:=hrel;obtain⟨d,a1,bu,bH,bv⟩:=id D.rd;obtain⟨z0,z1,z2⟩:=aS bu;have⟨an,bU,bj,o,ao⟩:=ae5 br cr cy D bv;clear br cr cy D bu bH bv;rcases Decidable.em (j=N \/ a1=true) with E|E
    ·have co:=ae (show jY b=(z,sq) by
      rw[<- an.x];rcases E with rfl|rfl
      ·rw[Nat.sub_self];rfl
      ·rw[show sq=none from ao.x,jE])
     by_cases bc:j=N
     case' pos=>subst bc
     case' neg=>
      obtain rfl:a1=true:=E.resolve_left bc;have b7:(j:Int)<(N:Int):=by omega
      clear bc
     all_goals
      clear an bG E;go_wp2_with fail;obtain⟨⟨db,cl⟩,ay⟩:=aH (cC sq);have aL:=gC sq;have aU:=(iR sq).1;rw[ay] at aL aU;dsimp only at aL aU;obtain⟨K,rfl⟩:=Int.eq_ofNat_of_zero_le aL.1;have⟨cP,cH⟩:=ae2 (show szS cl <= b.length+1 by have:=bj.x;omega) (show fC fQ K ([],cl)=lu b by unfold lu;rw[co.x];dsimp only;rw[ay];rfl);have da:K <= 1099511627776:=by omega
      clear z0 z1 z2;have c:=ja wr (w.heap.size+1) F p s b _ o.x.rd (u.x _ o.x.bel).1 (u.x _ o.x.bel).2;rw[ay] at c;dsimp only at c;have f:=ae c;clear c;go_wp2_with fail
      skip
      refine f.x.mono ?_;rintro e y5 ⟨rfl,g,cx⟩;have cV:=ae (o.x.read cx g);clear f g;clear aL aU ay o cx;go_wp2
      go_loopw [10] (λi wz=>∃(j:Nat)(B:List RGo)(ag:Option Addr)(cg:Nat)(sg:dO),j <= K /\ i=.int .i64 (j:Int) /\ fC fQ (K-j) (B,sg)=lu b /\ (∀x∈B,GoB (b.length+1) x) /\ B.length+szS sg <= b.length+1 /\ ju w M p s b wz L z B az cz ai ci ag cg sg) (λi _=>K-(intOf i).toNat)
      ·exact⟨0,[],none,0,cl,by omega,rfl,cH.x,nofun,by simpa using cP.x,cV.x⟩
      ·obtain⟨j,B,ag,cg,sg,bG,rfl,br,cq,cB,D⟩:=hrel;obtain⟨d,a1,bu,bH,bv⟩:=id D.rd;obtain⟨z0,z1,z2⟩:=aS bu;have⟨an,bT,bD,o,ao,cI⟩:=ae6 br cq cB D bv bH;clear br cq cB D bu bH bv;rcases Decidable.em (j=K \/ a1=true) with E|E
       ·have bB:=ae (show lu b=(B,sg) by
         rw[<- an.x];rcases E with rfl|rfl
         ·rw[Nat.sub_self];rfl
         ·rw[show sg=none from ao.x,jE])
        clear an;cases a1 with
        |true=>
         clear E;obtain rfl:sg=none:=ao.x
         by_cases bc:j=K
         case' pos=>subst bc
         case' neg=>
          have b7:(j:Int)<(K:Int):=by omega
          clear bc
         all_goals
          clear bG;have W:=ae (show e9 b=(.empty,5) by unfold e9;rw[if_neg];rw[bB.x];exact λh=>nomatch h.1);have pb:∀a,aK wr.drew a -> a.cell? ⟨w.heap.size+1,2,none⟩=some (.bool true):=λa hh=>bh z2 hh
          have l:=ae (o.x.kept (W':=wr.drew) ((Below.refl wr.heap.size wr).drew));go_wp2_with fail;refine bP aK (up 15 [515,16,17,18,19,22,23,520,21,24,25]) (by kernel_rfl) ?_;apply aG;rfl;intro a C;go_simp;(repeat (simp(disch:=omega) only[af,if_pos];go_simp));exact aF
          repeat (apply bK;rfl;rfl;go_simp;go_simp;rfl;apply aG;rfl;intro a C;go_simp;(repeat (simp(disch:=omega) only[af,if_pos];go_simp));exact aF)
          refine aW ?_;clear pb z0 z1 z2 o;obtain⟨wd,bw⟩:=aP wr.drew;rw[<- bw] at l⊢;clear bw;obtain⟨wf,T,ab,aa⟩:=dX l.x.res l.x.bel (aq _) (.slice none 0 0) (.slice none 0 0) (.slice none 0 0);obtain⟨y0,y1,y2⟩:=aS l.x.res;have f0:=l.x.res.free 0;have f1:=l.x.res.free 1;have f2:=l.x.res.free 2;have⟨Q,aX,a0⟩:=ae3 (aS ab) aa T;clear T ab aa;go_wp2;rw[<- a0.x];obtain⟨q0,q1,q2⟩:=Q.x;exact bodyPost_ret (v:=.tuple #[eJ,.int .i64 5]) (by simp[results,results134,go_sem,q0,q1,q2,eJ]) rfl ⟨_,by rw[W.x],by rw[W.x];exact(gI _ _).map eT,aX.x⟩
        |false=>
         obtain rfl:j=K:=by simpa using E
         clear E bG;obtain rfl:sg=some (b.drop d):=ao.x;have pb:∀a,aK wr.drew a -> a.cell? ⟨w.heap.size+1,2,none⟩=some (.bool false):=λa hh=>bh z2 hh
         have l:=ae (o.x.kept (W':=wr.drew) ((Below.refl wr.heap.size wr).drew))
         by_cases bq:d=n
         case neg=>
          have pa:∀a,aK wr.drew a -> a.cell? ⟨w.heap.size+1,1,none⟩=some (.int .i64 (d:Int)):=λa hh=>bh z1 hh
          have b8:¬(d:Int)=(n:Int):=by omega
          have cY:((d:Int) == (n:Int))=false:=beq_eq_false_iff_ne.2 b8;have c3:((d:Int) != (n:Int))=true:=by simp[b8]
          have W:=ae (show e9 b=(.empty,5) by
           unfold e9;rw[if_neg];rw[bB.x];intro h;have h1:=congrArg List.length (Option.some.inj h.1);have:=cI.x;have:=Hn.x;simp at h1
           omega)
          clear bq;go_wp2_with fail;refine bP aK (up 15 [515,16,17,18,19,22,23,520,21,24,25]) (by kernel_rfl) ?_;apply aG;rfl;intro a C;go_simp;(repeat (simp(disch:=omega) only[af,if_pos];go_simp));exact aF
          repeat (apply bK;rfl;rfl;go_simp;go_simp;rfl;apply aG;rfl;intro a C;go_simp;(repeat (simp(disch:=omega) only[af,if_pos];go_simp));exact aF)
          refine aW ?_;clear pb pa z0 z1 z2 o b8 cY c3;obtain⟨wd,bw⟩:=aP wr.drew;rw[<- bw] at l⊢;clear bw;obtain⟨wf,T,ab,aa⟩:=dX l.x.res l.x.bel (aq _) (.slice none 0 0) (.slice none 0 0) (.slice none 0 0);obtain⟨y0,y1,y2⟩:=aS l.x.res;have f0:=l.x.res.free 0;have f1:=l.x.res.free 1;have f2:=l.x.res.free 2;have⟨Q,aX,a0⟩:=ae3 (aS ab) aa T;clear T ab aa;go_wp2;rw[<- a0.x];obtain⟨q0,q1,q2⟩:=Q.x;exact bodyPost_ret (v:=.tuple #[eJ,.int .i64 5]) (by simp[results,results134,go_sem,q0,q1,q2,eJ]) rfl ⟨_,by rw[W.x],by rw[W.x];exact(gI _ _).map eT,aX.x⟩
         case pos=>
          have pa:∀a,aK wr.drew a -> a.cell? ⟨w.heap.size+1,1,none⟩=some (.int .i64 (n:Int)):=λa hh=>by rw[<- bq];exact bh z1 hh
          rw[bq] at z1;have⟨cp,cn⟩:=ae2 (show kt b=⟨L,z,B⟩ by unfold kt;rw[bW.x,co.x,bB.x]) (show(lu b).2=some [] by rw[bB.x,bq,<- Hn.x];simp)
          have cs:∀x∈L,0 <= x /\ x <= 1099511627776:=λx R=>by
           have:=pX 8 ([],some b) nofun x;have e:io 8 ([],some b)=(L,U):=bW.x;rw[e] at this;exact this R
          have bI:=l.x.mapV cs bU.x bT.x (by have:=Hl.x;omega);rw[<- cp.x] at bI
          have b9:(∀x∈(kt b).items,x.key.length <= 1000000000) /\ (∀x∈(kt b).gone,x.key.length <= 1000000000):=by
           rw[cp.x];exact⟨λx R=>by have:=(bU.x x R).1;have:=Hl.x;omega,λx R=>by have:=(bT.x x R).1;have:=Hl.x;omega⟩
          obtain⟨ok,cf⟩:=aH (aV (kt b));have hV:=ia wr.drew _ _ (kt b) bI b9.1 b9.2;rw[cf] at hV;have b6:∀a,aK wr.drew a -> Kpt w a:=λa hh=>l.x.bel.trans (hh.mono l.x.bel.size)
          obtain⟨c0,c1,c2⟩:=aS o.x.map;have bO:∀a,aK wr.drew a -> a.cell? ⟨M,0,none⟩=_:=λa hh=>bh c0 hh
          have bQ:∀a,aK wr.drew a -> a.cell? ⟨M,1,none⟩=_:=λa hh=>bh c1 hh
          have bR:∀a,aK wr.drew a -> a.cell? ⟨M,2,none⟩=_:=λa hh=>bh c2 hh
          have ps:∀a,aK wr.drew a -> (convert 41 9 (.slice p n s)).run aE a=.ok (.string ⟨b.toArray⟩) a:=λa hh=>by
           have:=iZ (u.x a (b6 a hh)).1
           rwa [Hn.x] at this
          have⟨HV,cK,bg,c6⟩:=ae4 hV bI cf b6;clear bq cs bI b9 cf hV b6 c0 c1 c2;go_wp2_with fail;refine bP aK (up 15 [515,16,17,18,19,22,23,520,21,24,25]) (by kernel_rfl) ?_;apply aG;rfl;intro a C;go_simp;(repeat (simp(disch:=omega) only[af,if_pos];go_simp));exact aF
          repeat (apply bK;rfl;rfl;go_simp;go_simp;rfl;apply aG;rfl;intro a C;go_simp;(repeat (simp(disch:=omega) only[af,if_pos];go_simp));exact aF)
          refine aY rfl rfl (λKK y=>?_);go_simp;refine HV.x.mono ?_;rintro e V ⟨rfl,ax⟩;refine⟨_,rfl,ax,y _ _ ?_⟩;clear y KK HV;have aR:=ae (l.x.kept ax);go_simp;cases ok with
          |false=>
           have W:=ae (show e9 b=(.empty,5) by unfold e9;rw[if_neg];rw[bg.x];exact λh=>nomatch h.2);apply aG;rfl;intro a C;go_simp;(repeat (simp(disch:=omega) only[af,if_pos];go_simp));exact aF
           repeat (apply bK;rfl;rfl;go_simp;go_simp;rfl;apply aG;rfl;intro a C;go_simp;(repeat (simp(disch:=omega) only[af,if_pos];go_simp));exact aF)
           refine aW ?_;clear pb pa bO bQ bR ps z0 z1 z2 o l ax;obtain⟨wf,T,ab,aa⟩:=dX aR.x.res aR.x.bel (aq _) (.slice none 0 0) (.slice none 0 0) (.slice none 0 0);obtain⟨y0,y1,y2⟩:=aS aR.x.res;have f0:=aR.x.res.free 0;have f1:=aR.x.res.free 1;have f2:=aR.x.res.free 2;have⟨Q,aX,a0⟩:=ae3 (aS ab) aa T;clear T ab aa;go_wp2;rw[<- a0.x];obtain⟨q0,q1,q2⟩:=Q.x;exact bodyPost_ret (v:=.tuple #[eJ,.int .i64 5]) (by simp[results,results134,go_sem,q0,q1,q2,eJ]) rfl ⟨_,by rw[W.x],by rw[W.x];exact(gI _ _).map eT,aX.x⟩
          |true=>
           have W:=ae (show e9 b=(kt b,0) by unfold e9;rw[if_pos ⟨cn.x,bg.x⟩])
           replace bO:∀a,aK V a -> _:=λa hh=>bO a (bL _ _ _ ax hh)
           replace bQ:∀a,aK V a -> _:=λa hh=>bQ a (bL _ _ _ ax hh)
           replace bR:∀a,aK V a -> _:=λa hh=>bR a (bL _ _ _ ax hh)
           replace ps:∀a,aK V a -> _:=λa hh=>ps a (bL _ _ _ ax hh)
           clear pb pa;have cc:=cK.x.later ax (aq _);have C:=l5 V _ _ (kt b) cc (fG (cA bg.x) (cX bg.x).2.1 (cX bg.x).2.2.1);rw[xo cn.x] at C;have⟨HC,cL⟩:=ae2 C cc;clear C cc z0 z1 z2 o l ax;apply aG;rfl;intro a C;go_simp;(repeat (simp(disch:=omega) only[af,if_pos];go_simp));exact aF
           repeat (apply bK;rfl;rfl;go_simp;go_simp;rfl;apply aG;rfl;intro a C;go_simp;(repeat (simp(disch:=omega) only[af,if_pos];go_simp));exact aF)
           refine aY rfl rfl (λKK y=>?_);go_simp;refine HC.x.mono ?_;rintro e w9 ⟨⟨r,rfl,hr⟩,bF⟩;refine⟨_,rfl,bF,y _ _ ?_⟩;clear y KK HC bO bQ bR ps;have pr:∀a,aK w9 a -> (convert 41 9 r).run aE a=.ok (.string ⟨b.toArray⟩) a:=λa hh=>iZ (hr.keep (w':=a) λq _ c4=>hh.block q c4)
           have al:=ae (aR.x.kept bF);have cv:=cL.x.later bF (aq _);obtain⟨wf,T,ab,aa⟩:=dX al.x.res al.x.bel (aq _) (.slice az L.length cz) (.slice ai z.length ci) (.slice ag B.length cg);have cb:=EN (.slice az L.length cz) (.slice ai z.length ci) (.slice ag B.length cg) cv;rw[<- T] at cb;have⟨aX,a0,cJ,Q⟩:=ae4 aa T cb (aS ab);clear T ab aa cb cv hr bF aR;go_simp;apply aG;rfl;intro a C;go_simp;(repeat (simp(disch:=omega) only[af,if_pos];go_simp));exact aF
           repeat (apply bK;rfl;rfl;go_simp;go_simp;rfl;apply aG;rfl;intro a C;go_simp;(repeat (simp(disch:=omega) only[af,if_pos];go_simp));exact aF)
           refine aW ?_;clear pr;obtain⟨y0,y1,y2⟩:=aS al.x.res;have f0:=al.x.res.free 0;have f1:=al.x.res.free 1;have f2:=al.x.res.free 2;obtain⟨c0,c1,c2⟩:=aS al.x.map;go_wp2;rw[<- a0.x];obtain⟨q0,q1,q2⟩:=Q.x;exact bodyPost_ret (v:=.tuple #[.agg #[.slice az L.length cz,.slice ai z.length ci,.slice ag B.length cg],.int .i64 0]) (by simp[results,results134,go_sem,q0,q1,q2]) rfl ⟨_,by rw[W.x],by rw[W.x];exact cJ.x,aX.x⟩
       have cd:j≠K:=λh=>E (.inl h)
       have b7:(j:Int)<(K:Int):=by omega
       obtain⟨nr,bs⟩:∃nr,K-j=nr+1:=⟨K-j-1,by omega⟩
       clear cd;cases a1 with
       |true=>exact absurd (.inr rfl) E
       |false=>
        clear E;obtain⟨O,bn⟩:=aH (b.drop d);obtain rfl:sg=some O:=by rw[<- bn];exact ao.x
        have aZ:=ae (xn O)
        have bi:=ae (show fC fQ (K-(j+1)) (B++[(fQ (some O)).1],(fQ (some O)).2)=lu b by
         rw[<- an.x,bs,iI,show K-(j+1)=nr by omega])
        obtain⟨⟨t,s1⟩,ht⟩:=aH (cM (some O));obtain⟨⟨A,s2⟩,a8⟩:=aH (cC s1);obtain⟨⟨H,s3⟩,a9⟩:=aH (cC s2);have bo:fQ (some O)=(⟨t,A,H⟩,s3):=by unfold fQ;rw[ht];dsimp only;rw[a8];dsimp only;rw[a9]
        rw[bo] at aZ bi;have⟨Ht,b3,b4⟩:=ae3 ht a8 a9;clear bn ht a8 a9 bo ao an bs;have c:=uC wr (w.heap.size+1) F p s b _ o.x.rd (u.x _ o.x.bel).1 (u.x _ o.x.bel).2;rw[Ht.x] at c;dsimp only at c;have f:=ae c;clear c;go_wp2_with fail
        skip
        refine f.x.mono ?_;rintro e v5 ⟨rfl,g,bt⟩;have S:=ae (o.x.read bt g);clear f g;obtain⟨v6,aN⟩:=aP (v5.alloc (.cells #[.string ⟨t.toArray⟩,.int .i64 0,.int .i64 0] 130));have bp:Kpt v5 v6:=by rw[aN];exact aI _ _
        obtain⟨X,hX⟩:=aH v5.heap.size;have⟨bf,aT,H0,H1,H2,ar,bY⟩:=ae7 (show Blk v6 X [.string ⟨t.toArray⟩,.int .i64 0,.int .i64 0] 130 by rw[aN,<- hX];exact Blk.new _ _ _) (show M<X by rw[<- hX];exact S.x.map.lt) (show ∀q,(Value.slice az L.length cz).ownBlock=some q -> q≠X from λq J e=>by have:=(S.x.seen.lt q J).2;omega) (show ∀q,(Value.slice ai z.length ci).ownBlock=some q -> q≠X from λq J e=>by have:=(S.x.items.lt q J).2;omega) (show ∀q,(Value.slice ag B.length cg).ownBlock=some q -> q≠X from λq J e=>by have:=(S.x.gone.lt q J).2;omega) (S.x.kept bp) aN;have ba:=ae (show ¬X=w.heap.size+1 by have:=aT.x;have:=S.x.hM;omega);clear aN bp z0 z1 z2 bt o;have c:=ja v6 (w.heap.size+1) F p s b _ ar.x.rd (u.x _ ar.x.bel).1 (u.x _ ar.x.bel).2;rw[b3.x] at c;dsimp only at c;have f:=ae c;clear c;go_wp2_with fail;rw[<- bY.x];refine f.x.mono ?_;rintro e v7 ⟨rfl,g,a4⟩;have bZ:=ae (ar.x.read a4 g);clear f g;clear hX;have d:=bf.x.keep (a4.block _ bf.x.lt ba.x);have e1:v7.cell? ⟨X,1,none⟩=some (.int .i64 0):=d.cell 1;have f1:=d.free 1;obtain⟨bA,m⟩:=aP (v7.setCell ⟨X,1,none⟩ (.int .i64 A));have⟨be,Z⟩:=ae2 (show Blk bA X [.string ⟨t.toArray⟩,.int .i64 A,.int .i64 0] 130 by rw[m];exact d.set 1 _) (bZ.x.far aT.x H0.x H1.x H2.x 1 (.int .i64 A));rw[<- m] at Z;have b0:=ae m;clear d m a4;have c:=ja bA (w.heap.size+1) F p s b _ Z.x.rd (u.x _ Z.x.bel).1 (u.x _ Z.x.bel).2;rw[b4.x] at c;dsimp only at c;have f:=ae c;clear c;go_wp2_with fail;rw[<- b0.x];refine f.x.mono ?_;rintro e v8 ⟨rfl,g,a6⟩;have b1:=ae (Z.x.read a6 g);clear f g;clear e1 f1;have d:=be.x.keep (a6.block _ be.x.lt ba.x);have e2:v8.cell? ⟨X,2,none⟩=some (.int .i64 0):=d.cell 2;have f2:=d.free 2;obtain⟨ak,m⟩:=aP (v8.setCell ⟨X,2,none⟩ (.int .i64 H));have⟨bV,Y⟩:=ae2 (show Blk ak X [.string ⟨t.toArray⟩,.int .i64 A,.int .i64 H] 130 by rw[m];exact d.set 2 _) (b1.x.far aT.x H0.x H1.x H2.x 2 (.int .i64 H));rw[<- m] at Y;have bk:=ae m;clear d m a6;obtain⟨i0,t1,t2,t3,t4⟩:=info_parts rg;obtain⟨va,bz,hr,ad,G⟩:=cu (P:=aE) ak (M+1) 73 130 underlying73 t1 t2 t3 t4 rfl (by decide) (.slice ag B.length cg) B.length _ Y.x.gone #[.string ⟨t.toArray⟩,.int .i64 A,.int .i64 H] rfl (by simp[Value.oneCell']) (by have:=bD.x;have:=Hl.x;unfold maxLen;omega) (by have:=bD.x;have:=Hl.x;omega) Y.x.map.lt;obtain⟨a5,c5,rfl⟩:=aJ ad;have I:=Y.x.kept (aI ak (.cells #[.string ⟨t.toArray⟩,.int .i64 A,.int .i64 H] 130));have a2:=I.gon (x:=⟨t,A,H⟩) G ad;have a3:=I.map.grownNe I.gone (by decide) G;have d1:bz.cell? ⟨M,2,none⟩=some (.slice ag B.length cg):=a3.cell 2;have g1:=a3.free 2;obtain⟨v12,a7⟩:=aP (bz.setCell ⟨M,2,none⟩ (.slice a5 (B.length+1) c5));rw[<- a7] at a2;have m1:ak.cell? ⟨M,2,none⟩=some (.slice ag B.length cg):=Y.x.map.cell 2;obtain⟨k0,k1,k2⟩:=aS bV.x;have bx:ak.heap.size=v8.heap.size:=by rw[bk.x];simp[World.setCell]
        rw[bx] at hr;rw[bk.x] at m1 k0 k1 k2 hr;have⟨bS,bX⟩:=ae2 a2 a7;clear ad G a3 a2 a7 t1 t2 t3 t4 bx I;go_wp2;rw[<- bX.x]
        go_roundw
        ·exact⟨j+1,_,a5,c5,s3,by omega,by go_num,bi.x,λx R=>by
         rcases List.mem_append.1 R with h|h
         ·exact bT.x x h
         ·rw[List.mem_singleton.1 h];exact aZ.x.2.mono (by have:=bD.x;omega),by have:=bD.x;have:=aZ.x.1;rw[aA,List.length_singleton];omega,bS.x⟩
        ·first|(simp[intOf];done)|(simp[intOf];omega)
    have cd:j≠N:=λh=>E (.inl h)
    have b7:(j:Int)<(N:Int):=by omega
    obtain⟨nr,bs⟩:∃nr,N-j=nr+1:=⟨N-j-1,by omega⟩
    clear cd;cases a1 with
    |true=>exact absurd (.inr rfl) E
    |false=>
     clear E;obtain⟨O,bn⟩:=aH (b.drop d);obtain rfl:sq=some O:=by rw[<- bn];exact ao.x
     have aZ:=ae (xm O)
     have bi:=ae (show fC fP (N-(j+1)) (z++[(fP (some O)).1],(fP (some O)).2)=jY b by
      rw[<- an.x,bs,iI,show N-(j+1)=nr by omega])
     obtain⟨⟨t,s1⟩,ht⟩:=aH (cM (some O));obtain⟨⟨A,s2⟩,a8⟩:=aH (cC s1);obtain⟨⟨H,s3⟩,a9⟩:=aH (cC s2);obtain⟨⟨x3,s4⟩,ck⟩:=aH (cC s3);have bo:fP (some O)=(⟨t,A,H,x3⟩,s4):=by unfold fP;rw[ht];dsimp only;rw[a8];dsimp only;rw[a9];dsimp only;rw[ck]
     rw[bo] at aZ bi;have⟨Ht,b3,b4,cU⟩:=ae4 ht a8 a9 ck;clear bn ht a8 a9 ck bo ao an bs;have c:=uC wr (w.heap.size+1) F p s b _ o.x.rd (u.x _ o.x.bel).1 (u.x _ o.x.bel).2;rw[Ht.x] at c;dsimp only at c;have f:=ae c;clear c;go_wp2_with fail
     skip
     refine f.x.mono ?_;rintro e v5 ⟨rfl,g,bt⟩;have S:=ae (o.x.read bt g);clear f g;obtain⟨v6,aN⟩:=aP (v5.alloc (.cells #[.string ⟨t.toArray⟩,.int .i64 0,.int .i64 0,.int .i64 0] 129));have bp:Kpt v5 v6:=by rw[aN];exact aI _ _
     obtain⟨X,hX⟩:=aH v5.heap.size;have⟨bf,aT,H0,H1,H2,ar,bY⟩:=ae7 (show Blk v6 X [.string ⟨t.toArray⟩,.int .i64 0,.int .i64 0,.int .i64 0] 129 by rw[aN,<- hX];exact Blk.new _ _ _) (show M<X by rw[<- hX];exact S.x.map.lt) (show ∀q,(Value.slice az L.length cz).ownBlock=some q -> q≠X from λq J e=>by have:=(S.x.seen.lt q J).2;omega) (show ∀q,(Value.slice ai z.length ci).ownBlock=some q -> q≠X from λq J e=>by have:=(S.x.items.lt q J).2;omega) (show ∀q,(Value.slice none ([]:List RGo).length 0).ownBlock=some q -> q≠X from nofun) (S.x.kept bp) aN;have ba:=ae (show ¬X=w.heap.size+1 by have:=aT.x;have:=S.x.hM;omega);clear aN bp z0 z1 z2 bt o;have c:=ja v6 (w.heap.size+1) F p s b _ ar.x.rd (u.x _ ar.x.bel).1 (u.x _ ar.x.bel).2;rw[b3.x] at c;dsimp only at c;have f:=ae c;clear c;go_wp2_with fail;rw[<- bY.x];refine f.x.mono ?_;rintro e v7 ⟨rfl,g,a4⟩;have bZ:=ae (ar.x.read a4 g);clear f g;clear hX;have d:=bf.x.keep (a4.block _ bf.x.lt ba.x);have e1:v7.cell? ⟨X,1,none⟩=some (.int .i64 0):=d.cell 1;have f1:=d.free 1;obtain⟨bA,m⟩:=aP (v7.setCell ⟨X,1,none⟩ (.int .i64 A));have⟨be,Z⟩:=ae2 (show Blk bA X [.string ⟨t.toArray⟩,.int .i64 A,.int .i64 0,.int .i64 0] 129 by rw[m];exact d.set 1 _) (bZ.x.far aT.x H0.x H1.x H2.x 1 (.int .i64 A));rw[<- m] at Z;have b0:=ae m;clear d m a4;have c:=ja bA (w.heap.size+1) F p s b _ Z.x.rd (u.x _ Z.x.bel).1 (u.x _ Z.x.bel).2;rw[b4.x] at c;dsimp only at c;have f:=ae c;clear c;go_wp2_with fail;rw[<- b0.x];refine f.x.mono ?_;rintro e v8 ⟨rfl,g,a6⟩;have b1:=ae (Z.x.read a6 g);clear f g;clear e1 f1;have d:=be.x.keep (a6.block _ be.x.lt ba.x);have e2:v8.cell? ⟨X,2,none⟩=some (.int .i64 0):=d.cell 2;have f2:=d.free 2;obtain⟨cE,m⟩:=aP (v8.setCell ⟨X,2,none⟩ (.int .i64 H));have⟨cm,bl⟩:=ae2 (show Blk cE X [.string ⟨t.toArray⟩,.int .i64 A,.int .i64 H,.int .i64 0] 129 by rw[m];exact d.set 2 _) (b1.x.far aT.x H0.x H1.x H2.x 2 (.int .i64 H));rw[<- m] at bl;have cQ:=ae m;clear d m a6;have c:=ja cE (w.heap.size+1) F p s b _ bl.x.rd (u.x _ bl.x.bel).1 (u.x _ bl.x.bel).2;rw[cU.x] at c;dsimp only at c;have f:=ae c;clear c;go_wp2_with fail;rw[<- cQ.x];refine f.x.mono ?_;rintro e v9 ⟨rfl,g,ch⟩;have cR:=ae (bl.x.read ch g);clear f g;clear e2 f2;have d:=cm.x.keep (ch.block _ cm.x.lt ba.x);have e3:v9.cell? ⟨X,3,none⟩=some (.int .i64 0):=d.cell 3;have f3:=d.free 3;obtain⟨ak,m⟩:=aP (v9.setCell ⟨X,3,none⟩ (.int .i64 x3));have⟨bV,Y⟩:=ae2 (show Blk ak X [.string ⟨t.toArray⟩,.int .i64 A,.int .i64 H,.int .i64 x3] 129 by rw[m];exact d.set 3 _) (cR.x.far aT.x H0.x H1.x H2.x 3 (.int .i64 x3));rw[<- m] at Y;have bk:=ae m;clear d m ch;obtain⟨i0,t1,t2,t3,t4⟩:=info_parts mG;obtain⟨va,bz,hr,ad,G⟩:=cu (P:=aE) ak (M+1) 72 129 underlying72 t1 t2 t3 t4 rfl (by decide) (.slice ai z.length ci) z.length _ Y.x.items #[.string ⟨t.toArray⟩,.int .i64 A,.int .i64 H,.int .i64 x3] rfl (by simp[Value.oneCell']) (by have:=bj.x;have:=Hl.x;unfold maxLen;omega) (by have:=bj.x;have:=Hl.x;omega) Y.x.map.lt;obtain⟨a5,c5,rfl⟩:=aJ ad;have I:=Y.x.kept (aI ak (.cells #[.string ⟨t.toArray⟩,.int .i64 A,.int .i64 H,.int .i64 x3] 129));have a2:=I.item (x:=⟨t,A,H,x3⟩) G ad;have a3:=I.map.grownNe I.items (by decide) G;have d1:bz.cell? ⟨M,1,none⟩=some (.slice ai z.length ci):=a3.cell 1;have g1:=a3.free 1;obtain⟨v12,a7⟩:=aP (bz.setCell ⟨M,1,none⟩ (.slice a5 (z.length+1) c5));rw[<- a7] at a2;have m1:ak.cell? ⟨M,1,none⟩=some (.slice ai z.length ci):=Y.x.map.cell 1;obtain⟨k0,k1,k2,k3⟩:=dH bV.x;have bx:ak.heap.size=v9.heap.size:=by rw[bk.x];simp[World.setCell]
     rw[bx] at hr;rw[bk.x] at m1 k0 k1 k2 k3 hr;have⟨bS,bX⟩:=ae2 a2 a7;clear ad G a3 a2 a7 t1 t2 t3 t4 bx I;go_wp2;rw[<- bX.x]
     go_roundw
     ·exact⟨j+1,_,a5,c5,s4,by omega,by go_num,bi.x,λx R=>by
      rcases List.mem_append.1 R with h|h
      ·exact bU.x x h
      ·rw[List.mem_singleton.1 h];exact aZ.x.2.mono (by have:=bj.x;omega),by have:=bj.x;have:=aZ.x.1;rw[aA,List.length_singleton];omega,bS.x⟩
     ·first|(simp[intOf];done)|(simp[intOf];omega)
end
end Go.Proofs.YtobjdpngnfbicaaGreatDoor
