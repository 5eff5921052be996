/-
  RJ3 Sec35 P4 P2 P6
-/
import Derived.Test.YtobjdpngnfbicaaGreatDoorZP14
open Go.IntWalk renaming i64_in->af
open Nat renaming lt_of_lt_of_le->aw
open List renaming length_append->aA,append_assoc->aB,getElem_mem->aC
open Go.Proofs.Tryz renaming prog->aE
set_option maxHeartbeats 4000000
set_option maxRecDepth 100000
set_option linter.all false
namespace Go.Proofs.YtobjdpngnfbicaaGreatDoor
open Go.RowKit
open Go.Proofs.Tryz
variable(w:World)(F:aQ)(n:Nat)(v:Value)(b:List UInt8){W w':World}{G:aQ}{u:Value}{i j:Nat}{l:List UInt8}{N:MD}{t:TypeId}
theorem lj(b:2 <= n)(h:n <= 65536):
 Calls aE 74 #[.int .i64 (n:Int)] w λe a=>e=.returned (.int .i64 (bw n:Int)) /\ w=a:=by
 have e:((bw n:Nat):Int)=((n:Int)-2)/2:=by unfold bw;omega
 have c:(n:Int) <= 65536:=by omega
 have d:2 <= (n:Int):=by omega
 rw[e]
 go_enter func74,ntmps74
 go_wp2
 go_ret
 exact⟨rfl,rfl⟩
theorem oB(b:2 <= n)(h:n <= 65536)(g p:Nat)(i:g <= 4294967295)(k:p <= 131072):
 Calls aE 130 #[.int .i64 (n:Int),.int .i64 (g:Int),.int .i64 (p:Int)] w λe a=>e=.returned (.int .i64 (dm n g p:Int)) /\ w=a:=by
 have hh:bw n <= 65536:=by unfold bw;omega
 have c:=lj w n b h;have e:((dm n g p:Nat):Int)=2+(g:Int)%2*(bw n:Int)+(p:Int):=by unfold dm;simp
 rw[e];generalize bw n=H at *;have l:(p:Int) <= 131072:=by omega
 have d:(H:Int) <= 65536:=by omega
 have j:(g:Int) <= 4294967295:=by omega
 have f:0 <= (g:Int)%2*(H:Int) /\ (g:Int)%2*(H:Int) <= 65536:=by
  rcases(show(g:Int)%2=0 \/ (g:Int)%2=1 by omega) with h|h<;>rw[h]<;>omega
 go_enter func130,ntmps130
 go_wp2_with fail;refine c.mono ?_;rintro e a ⟨rfl,rfl⟩;go_wp2
 go_ret
 exact⟨rfl,rfl⟩
theorem jT(c:n <= 140737488355328):
 Calls aE 73 #[.int .i64 (n:Int)] w λe a=>e=.returned (.int .i64 (takes n:Int)) /\ w=a:=by
 have b:(n:Int) <= 140737488355328:=by omega
 go_enter func73,ntmps73
 go_wp2_with fail
 all_goals
  go_ret
  exact⟨fv (by unfold takes;omega),rfl⟩
def eE(w:World)(rb d g:Nat)(b:Value)(a:Bool):Prop:=Blk w rb [.pointer (some ⟨d,0,none⟩),.int .i64 (g:Int),b,.bool a] 121
theorem yy(L:List (List UInt8))(k:Nat)(h:k<L.length):bj (L.take (k+1))=bj (L.take k)+takes L[k].length:=by
 rw[List.take_succ_eq_append_getElem h,eW]
theorem pD(L:List (List UInt8))(k:Nat):bj (L.take k) <= bj L:=by
 have h:bj L=bj (L.take k)+bj (L.drop k):=by
  unfold bj;rw[<- List.sum_append,<- List.map_append,List.take_append_drop]
 omega
theorem lK(o d g:Nat)(p:Value)(u:Bool)(y:eE w o d g p u)(R:aQ)(L:List (List UInt8))(l:bU R w 0 p L)(J:L.length <= 65536)(V:bj L <= 1000000)(B:∀b∈L,b.length <= 65536):
 Calls aE 72 #[.pointer (some ⟨o,0,none⟩)] w λe r=>e=.returned (.int .i64 (bj L:Int)) /\ w=r:=by
 have h:=y.cell 2;simp at h;obtain⟨D,F,rfl,M,U⟩:=l.shape;obtain⟨a,j⟩:=aH L.length;rw[j] at h;have K:(a:Int) <= 65536:=by omega
 have f:=j;have t:=l
 go_enter func72,ntmps72
 go_wp2
 go_loop [3,4] (λn i=>∃k:Nat,k <= a /\ i=.int .i64 (k:Int) /\ n=.int .i64 ((bj (L.take k):Nat):Int)) (λ_ i=>a-(intOf i).toNat)
 ·exact⟨0,by omega,rfl,rfl⟩
 ·obtain⟨k,O,rfl,rfl⟩:=hrel
  by_cases z:k<a
  ·have A:(k:Int)<(a:Int):=by omega
   have c:k<L.length:=by rw[f];exact z
   obtain⟨I,G,x,m,v,N⟩:=t.elem k c;simp at m;obtain⟨rfl,rfl⟩:=m;have S:=B L[k] (aC c);have C:=yy L k c;have Q:=pD L (k+1);obtain⟨E,H,rfl,-⟩:=id v;generalize L[k]=b at *;have P:((bj (L.take k):Nat):Int)+((takes b.length:Nat):Int) <= 1000000:=by omega
   have s:=jT w b.length (by omega);generalize takes b.length=T at *;generalize bj (L.take k)=q at *;go_wp2_with fail;refine s.mono ?_;rintro e r ⟨rfl,rfl⟩;go_wp2
   go_round
   ·exact⟨k+1,by omega,by go_num,by rw[C];go_num⟩
   ·simp[intOf];omega
  ·have A:¬(k:Int)<(a:Int):=by omega
   have e:L.take k=L:=List.take_of_length_le (by rw[f];omega);rw[e];go_wp2
   go_ret
   exact⟨rfl,rfl⟩
/- The reference journal: the generation of a disk. -/
section
attribute [local go_sem] opC upC told bE bm bF bp bq bG bH
def gu(w a:World):Prop:=∃n,w.drewN n=a
theorem gu.refl:gu w w:=⟨0,rfl⟩
theorem gu.trans{a b c:World}(h:gu a b)(k:gu b c):gu a c:=by
 obtain⟨n,rfl⟩:=h;obtain⟨m,rfl⟩:=k;refine⟨n+m,?_⟩;unfold World.drewN
 congr 1
 show a.drawn+(n+m)=a.drawn+n+m;omega
theorem gu.drew{a b:World}(h:gu a b):gu a b.drew:=h.trans ⟨1,rfl⟩
theorem gu.heap{a b:World}(h:gu a b):b.heap=a.heap:=by obtain⟨n,rfl⟩:=h;rfl
theorem gu.below(h:gu W w'):Kpt W w':=by obtain⟨n,rfl⟩:=h;exact Below.drewN' (Below.refl _ _) n
theorem gu.later(h:gu W w'):aK W w':=h.below
theorem bS.row{K:RK}(h:bS W K N):∃a,N.S.length <= a /\ W.cell? ⟨K.d,0,none⟩=some (.slice (some ⟨K.bs,0,none⟩) N.S.length a) /\ W.cell? ⟨K.d,1,none⟩=some (.bool N.down) /\ W.cell? ⟨K.d,5,none⟩=some (.int .i64 (N.writes:Int)):=by
 obtain⟨a,e,g,c,f,b,-⟩:=h.main;exact⟨a,c,by rw[b.cell];rfl,by rw[b.cell];rfl,by rw[b.cell];rfl⟩
theorem bS.sector{K:RK}(h:bS W K N)(i:Nat)(c:i<N.S.length):∃x,W.cell? ⟨K.bs,i,none⟩=some x /\ aO K.R W x N.S[i]:=by
 obtain⟨g,f,n,l,m,k,⟨L,a,j,d⟩,-⟩:=h.main;obtain⟨v,e,b⟩:=d i c;exact⟨v,by rw[a.cell];exact e,b⟩
def gv(a:Bool×Nat):Int:=if a.1 then(a.2:Int) else -1
def EY(w:World)(S:List (List UInt8))(f i:Value)(wr:World):Prop:=
 ∃m:Nat,m <= 2 /\ i=.int .i64 (m:Int) /\ f=.int .i64 (gv (fJ S m)) /\ gu w wr
theorem DX(K:RK)(M:MD)(h:bS w K M)(h8:8 <= M.S.length):
 Calls aE 131 #[.pointer (some ⟨K.d,0,none⟩)] w λe O=>e=.returned (.int .i64 (gv (fJ M.S 2))) /\ gu w O:=by
 obtain⟨U,ab,B,-,-⟩:=h.row;have ai:=h.len
 go_enter func131,ntmps131
 go_wp2
 go_loopw [3,4] (λf i wr=>EY w M.S f i wr) (λ_ i _=>2-(intOf i).toNat)
 ·exact⟨0,by omega,rfl,rfl,gu.refl w⟩
 ·obtain⟨m,hm,rfl,rfl,l⟩:=hrel
  by_cases ak:m<2
  ·have V:(m:Int)<2:=by omega
   have r:m<M.S.length:=by omega
   obtain⟨x,N,g⟩:=h.sector m r;have C:M.S[m].length=64:=h.s64 _ (aC r);have J:M.S.getD m []=M.S[m]:=by rw[List.getD_eq_getElem?_getD,List.getElem?_eq_getElem r];rfl
   have ao:wr.cell? ⟨K.bs,m,none⟩=some x:=by unfold World.cell? at *;rw[l.heap];exact N
   have aa:wr.cell? ⟨K.d,0,none⟩=some (.slice (some ⟨K.bs,0,none⟩) M.S.length U):=by unfold World.cell? at *;rw[l.heap];exact B
   have g:aO K.R wr x M.S[m]:=g.keep λb _ _=>by rw[l.heap]
   have t:fJ M.S (m+1)=if gz (M.S[m]) m&&(!(fJ M.S m).1 || decide ((fJ M.S m).2<bV (M.S[m]) 4)) then(true,bV (M.S[m]) 4) else fJ M.S m:=by
    simp only[fJ,rp,J]
   obtain⟨X,Q,rfl,-⟩:=id g;generalize M.S[m]=a at *;have s:=gt wr _ _ _ g 4 (by omega) (by omega);rw[show((4:Nat):Int)=4 from rfl] at s;have F:=pp M.S m;obtain⟨W,L⟩:=aH (fJ M.S m);rw[L] at t F⊢;have al:(m:Int)<(M.S.length:Int):=by omega
   have⟨z,k⟩:=ae2 s t;have h4:=l8 a 4;have ar:(64:Int) <= (Q:Int):=by obtain⟨Y,Z,E,hc,-⟩:=id g;simp at E;obtain⟨-,rfl⟩:=E;omega
   have v:=ae C;clear s t L J N B C;obtain⟨p,c⟩:=W;dsimp only at F;go_wp2_with fail;refine z.x.mono ?_;rintro e u ⟨rfl,n⟩;have n:gu wr u:=n;have D:aO K.R u (.slice X a.length Q) a:=g.keep λb _ _=>by rw[n.heap]
   have y:=ae (qH u _ _ _ D v.x);clear D;go_wp2_with fail;refine y.x.mono ?_;rintro e P ⟨rfl,o⟩;have o:gu wr P:=n.trans o;have ad:=lG (aO.take (g.keep (w':=P) λb _ _=>by rw[o.heap]) 4 (by rw[v.x];omega));have T:=ae (l.trans o);clear y z n o l g;cases G:iM a
   case' false=>have j:fJ M.S (m+1)=(p,c):=by rw[k.x,if_neg (by simp[gz,G])]
   case' true=>
    by_cases H:a.take 4 = [72,78,75,74]
    case' neg=>have j:fJ M.S (m+1)=(p,c):=by rw[k.x,if_neg (by simp[gz,dF,H])]
    case' pos=>
     by_cases an:(bV a 4:Int)%2=(m:Int)
     case' neg=>have j:fJ M.S (m+1)=(p,c):=by rw[k.x,if_neg (by simp[gz];omega)]
     case' pos=>
      have I:bV a 4%2=m:=by omega
      have q:gz a m=true:=by simp[gz,G,H,I,dF]
      cases p
      case' false=>
       have j:fJ M.S (m+1)=(true,bV a 4):=by rw[k.x,if_pos (by simp[q])]
       rw[show gv (false,c) = -1 from rfl]
      case' true=>
       rw[show gv (true,c)=(c:Int) from rfl]
       by_cases ag:(c:Int)<(bV a 4:Int)
       case' pos=>have j:fJ M.S (m+1)=(true,bV a 4):=by rw[k.x,if_pos (by simp[q];omega)]
       case' neg=>have j:fJ M.S (m+1)=(true,c):=by rw[k.x,if_neg (by simp;omega)]
      all_goals clear q I
   all_goals
    have A:=ae j;clear j;go_wp2
    go_roundw
    ·exact⟨m+1,by omega,by go_num,by first|(rw[A.x];done)|(rw[A.x];rfl),T.x⟩
    ·simp[intOf];omega
  ·have V:¬(m:Int)<2:=by omega
   obtain rfl:m=2:=by omega
   go_wp2
   go_ret
   exact⟨rfl,l⟩
/- The reference journal: the record at a place. -/
end
section
attribute [local go_sem ↓] aU
attribute [local go_sem] opC upC told bE bm bF bp bq bG bH
theorem Cf{b c d:Nat}(h:aO G W (.slice (some ⟨b,c,none⟩) l.length d) l)(m:l.length=64):aO G W (.slice (some ⟨b,c+12,none⟩) 48 (d-12)) ((l.drop 12).take 48):=by
 have g:((l.drop 12).take 48).length=48:=by simp;omega
 obtain⟨a,q,f,r,u,v,o⟩:=h;simp at f;obtain⟨rfl,rfl⟩:=f;obtain⟨p,x,L,t,j,e,hF,k,s,n⟩:=o.resolve_left (by rintro rfl;simp at m);simp at e;obtain⟨rfl,rfl⟩:=e;refine⟨some ⟨b,c+12,none⟩,d-12,by rw[g],by omega,by omega,nofun,.inr ⟨b,c+12,L,t,j,rfl,hF,k,by omega,λi hi=>?_⟩⟩;rw[g] at hi;have:=n (12+i) (by omega);rw[Nat.add_assoc,this]
 congr 2
 rw[List.getElem_take,List.getElem_drop]
theorem bS.at_place{K:RK}(h:bS W K N)(g p:Nat)(n:p<bw N.S.length):
 dm N.S.length g p<N.S.length /\ ∃b f i,W.cell? ⟨K.bs,dm N.S.length g p,none⟩=some (.slice (some ⟨b,f,none⟩) (mY N.S g p).length i) /\ aO K.R W (.slice (some ⟨b,f,none⟩) (mY N.S g p).length i) (mY N.S g p) /\ (mY N.S g p).length=64 /\ 64 <= i /\ i <= maxLen:=by
 have d:=ie N.S.length g p n;refine⟨d,?_⟩;obtain⟨x,o,j⟩:=h.sector _ d;have e:mY N.S g p=N.S[dm N.S.length g p]:=by unfold mY;rw[List.getD_eq_getElem?_getD,List.getElem?_eq_getElem d];rfl
 have c:=h.s64 _ (aC d);rw[<- e] at c j;obtain⟨a,k,rfl,s,m,u,q⟩:=id j;obtain⟨b,f,L,t,r,rfl,-⟩:=q.resolve_left (by intro l;rw[l] at c;simp at c);exact⟨b,f,k,o,j,c,by omega,m⟩
theorem yz(K:RK)(M:MD)(h:bS w K M)(h8:8 <= M.S.length)(g k p:Nat)(hg:g<4294967296)(hk:k <= 65536)(hp:p <= 65536):
 Calls aE 132 #[.pointer (some ⟨K.d,0,none⟩),.int .i64 (g:Int),.int .i64 (k:Int),.int .i64 (p:Int)] w (yo w (dP M.S g k p)):=by
 have cb:=h.len;have hH:bw M.S.length <= 32768:=by unfold bw;omega
 have aM:∀{f},Kpt w f -> bS f K M:=λr=>h.kept r
 obtain⟨bF,b1,c0,-,-⟩:=h.row;have bL:=h.lt K.d (.inl rfl);have bp:∀w0:World,Kpt w w0 -> ∀f,aK w0.drew f -> f.cell? ⟨K.d,0,none⟩=some (.slice (some ⟨K.bs,0,none⟩) M.S.length bF):=λw0 r f hh=>dY (by rw[r.cell (p:=⟨K.d,0,none⟩) bL];exact c0) hh
 have a1:=lj w M.S.length (by omega) (by omega);obtain⟨H,aR⟩:=aH (bw M.S.length);rw[aR] at hH a1;have⟨L,Q0,bu,bd⟩:=ae4 aR bp a1 h;clear aR bp a1;have bY:(H:Int) <= 32768:=by omega
 have ch:(p:Int) <= 65536:=by omega
 have ca:(k:Int) <= 65536:=by omega
 have b4:(g:Int) <= 4294967295:=by omega
 have aJ:(M.S.length:Int) <= 65536:=by omega
 go_enter func132,ntmps132
 go_wp2_with fail;refine bu.x.mono ?_;rintro e f ⟨rfl,rfl⟩
 by_cases hT:H <= p
 ·have bH:(H:Int) <= (p:Int):=by omega
  have hr:dP M.S g k p=none:=by unfold dP;rw[L.x,if_pos hT]
  have Hr:=ae hr;clear hr;go_wp2;go_ret2;rw[Hr.x];exact⟨rfl,Below.refl _ _⟩
 have bH:¬(H:Int) <= (p:Int):=by omega
 obtain⟨ao,bs,os,xs,aX,G,N,bT,a9⟩:=h.at_place g p (by rw[L.x];omega);have F:=oB w.drew M.S.length (by omega) (by omega) g p (by omega) (by omega);obtain⟨a,a6⟩:=aH (mY M.S g p);rw[a6] at aX G N;have qs:∀f,aK w.drew f -> f.cell? ⟨K.bs,dm M.S.length g p,none⟩=some (.slice (some ⟨bs,os,none⟩) a.length xs):=λf hh=>dY aX hh
 have bi:aO K.R w.drew (.slice (some ⟨bs,os,none⟩) a.length xs) a:=G.keep λ_ _ _=>rfl
 have a5:=gt w.drew _ _ _ bi 8 (by omega) (by omega);rw[show((8:Nat):Int)=8 from rfl] at a5;obtain⟨P,hP⟩:=aH (dm M.S.length g p);rw[hP] at F qs ao;have a4:(P:Int)<(M.S.length:Int):=by omega
 have⟨W,bb,bD⟩:=ae3 F a5 a6;clear F a5 a6 hP aX G bi N bT a9;have q0:=Q0.x w (Below.refl _ _);go_wp2_with fail;refine bP aK (up 11 [511,12,13,514,15]) (by kernel_rfl) ?_;apply aG;rfl;intro f hC;go_simp;exact aF;refine aY rfl rfl (λX E=>?_);go_simp;refine W.x.mono ?_;rintro e f ⟨rfl,rfl⟩;refine⟨_,rfl,aZ _,E _ _ ?_⟩;clear E X;go_simp;apply aG;rfl;intro f hC;go_simp;exact aF;refine aY rfl rfl (λX E=>?_);go_simp;refine bb.x.mono ?_;rintro e w3 ⟨rfl,al⟩;have al:gu w.drew w3:=al;refine⟨_,rfl,al.later,E _ _ ?_⟩;clear E X;go_simp;apply aG;rfl;intro f hC;go_simp;exact aF;refine aW ?_;have b3:Kpt w w3:=(Below.refl _ _).drew.trans al.below;clear q0 qs al W bb ao a4
 have bm:dP M.S g k p=if 65536<bV a 8 \/ H<p+takes (bV a 8) then none else
  if eL M.S g k p (bV a 8) (takes (bV a 8)) then some ((fF M.S g p (takes (bV a 8))).take (bV a 8)) else none:=by
  unfold dP;rw[L.x,if_neg hT,bD.x]
 have cf:bV a 8<4294967296:=l8 _ _;generalize bV a 8=n at *;have aQ:=ae bm;clear bm
 by_cases hn:65536<n
 ·have aJ:(65536:Int)<(n:Int):=by omega
  have bN:decide ((65536:Int)<(n:Int))=true:=decide_eq_true aJ;go_wp2;go_ret2;rw[aQ.x,if_pos (.inl hn)];exact⟨rfl,b3⟩
 have aJ:¬(65536:Int)<(n:Int):=by omega
 have bN:decide ((65536:Int)<(n:Int))=false:=decide_eq_false aJ;have cg:(n:Int) <= 65536:=by omega
 have bO:=ei n;have bQ:takes n <= 1366:=by unfold takes;omega
 have a8:=λw0=>jT w0 n (by omega)
 obtain⟨T,aT⟩:=aH (takes n);have HT:=ae aT;rw[aT] at bO bQ a8;have be:=ae a8;clear aT a8;have bZ:(T:Int) <= 1366:=by omega
 go_wp2_with fail;refine(be.x w3).mono ?_;rintro e f ⟨rfl,rfl⟩
 by_cases bK:H<p+T
 ·have bJ:(H:Int)<(p:Int)+(T:Int):=by omega
  go_wp2;go_ret2;rw[aQ.x,HT.x,if_pos (.inr bK)];exact⟨rfl,b3⟩
 have bJ:¬(H:Int)<(p:Int)+(T:Int):=by omega
 have bn:dP M.S g k p=if eL M.S g k p n T then some ((fF M.S g p T).take n) else none:=by
  rw[aQ.x,HT.x,if_neg (by omega)]
 have bc:=ae bn;clear bn;go_wp2
 go_loopw [12,13] (λv i wr=>A3 w M.S g k p n T v i wr) (λ_ i _=>T-(intOf i).toNat)
 ·exact⟨0,by omega,rfl,rfl,World.ownsRow_nil _ _ _ _,b3⟩
 ·obtain⟨m,hm,rfl,ar,aL,ak⟩:=hrel;go_wp2_with fail;refine(be.x wr).mono ?_;rintro e f ⟨rfl,rfl⟩
  by_cases cd:m<T
  ·have bM:(m:Int)<(T:Int):=by omega
   have aS:takes n=max 1 ((n+47)/48):=rfl;have bG:48*m <= n:=by have:=HT.x;omega
   have bR:=af ((p:Int)+(m:Int)) (by omega);obtain⟨ao,B,C,z,a0,aU,N,ci,a9⟩:=(aM ak).at_place g (p+m) (by rw[L.x];omega);have F:=oB wr.drew M.S.length (by omega) (by omega) g (p+m) (by omega) (by omega);obtain⟨a,aN⟩:=aH (mY M.S g (p+m));rw[aN] at a0 aU N;rw[show((p+m:Nat):Int)=(p:Int)+(m:Int) by omega] at F
   have a7:eL M.S g k p n (m+1)=dE a g k (n-48*m):=by
    simp only[eL,ar,aN,Bool.true_and]
   have bf:dE a g k (n-48*m)=false -> dP M.S g k p=none:=λr=>by
    rw[bc.x,if_neg];intro hh;have:=mm M.S g k p n (m+1) (T-(m+1)) (by rw[show m+1+(T-(m+1))=T by omega];exact hh);rw[a7,r] at this;cases this
   have bh:fF M.S g p (m+1)=fF M.S g p m++(a.drop 12).take 48:=by
    simp only[fF,aN]
   have qs:∀f,aK wr.drew f -> f.cell? ⟨K.bs,dm M.S.length g (p+m),none⟩=some (.slice (some ⟨B,C,none⟩) a.length z):=λf hh=>dY a0 hh
   obtain⟨P,hP⟩:=aH (dm M.S.length g (p+m));rw[hP] at F qs ao;have a4:(P:Int)<(M.S.length:Int):=by omega
   have⟨W,bE,ay,br,ba,bU,D⟩:=ae7 F a7 bf bh aL ar N;have cj:(64:Int) <= (z:Int):=by omega
   have A:=ae aU;clear F a7 bf bh aL ar aN aS hP a0 aU N a9;have q0:=Q0.x wr ak;go_wp2_with fail;refine bP aK (up 13 [513,14,15,16]) (by kernel_rfl) ?_;apply aG;rfl;intro f hC;go_simp;exact aF;refine aY rfl rfl (λX E=>?_);go_simp;refine W.x.mono ?_;rintro e f ⟨rfl,rfl⟩;refine⟨_,rfl,aZ _,E _ _ ?_⟩;clear E X;go_simp;apply aG;rfl;intro f hC;go_simp;exact aF;refine aW ?_;clear q0 qs W ao a4 bR;obtain⟨x,ax⟩:=aP wr.drew;have o:Kpt w x:=by rw[ax];exact ak.drew
   have A:Hd (aO K.R x (.slice (some ⟨B,C,none⟩) a.length z) a):=ae (by rw[ax];exact A.x.keep λ_ _ _=>rfl);have bz:=ae (show x.ownsRow w.heap.size 5 1 _ _ _ from by rw[ax];exact ig ba.x (Below.refl _ _).drew);rw[<- ax];clear ax ak ba;have G:=A.x;go_wp2_with fail;refine(qH x _ _ _ G D.x).mono ?_;rintro e w6 ⟨rfl,U⟩;have U:gu x w6:=U;have b6:Kpt w w6:=o.trans (U.below.mono o.size);have ab:aO K.R w6 (.slice (some ⟨B,C,none⟩) a.length z) a:=G.keep λb _ _=>by rw[U.heap]
   clear G;cases bl:iM a
   case false=>
    have r:dE a g k (n-48*m)=false:=by simp[dE,bl]
    clear ab;go_wp2;go_ret2;rw[ay.x r];exact⟨rfl,b6⟩
   by_cases Z:bV a 0=g
   case neg=>
    have n0:((bV a 0:Int) != (g:Int))=true:=by simp;omega
    have r:dE a g k (n-48*m)=false:=by simp[dE,Z]
    clear Z;have ad:=ab;have l:=ae (gt w6 _ _ _ ad 0 (by rw[D.x];omega) (by omega));rw[show((0:Nat):Int)=0 from rfl] at l;clear ad ab;go_wp2_with fail;refine l.x.mono ?_;rintro e t ⟨rfl,c⟩;have c:gu w6 t:=c;have I:gu x t:=U.trans c;have b7:Kpt w t:=o.trans (I.below.mono o.size);have O:aO K.R t (.slice (some ⟨B,C,none⟩) a.length z) a:=A.x.keep λb _ _=>by rw[I.heap]
    clear c l;clear O;go_wp2;go_ret2;rw[ay.x r];exact⟨rfl,b7⟩
   have n0:((bV a 0:Int) != (g:Int))=false:=by simp[Z]
   have H0:=ae Z;clear Z;have ad:=ab;have l:=ae (gt w6 _ _ _ ad 0 (by rw[D.x];omega) (by omega));rw[show((0:Nat):Int)=0 from rfl] at l;clear ad ab;go_wp2_with fail;refine l.x.mono ?_;rintro e t ⟨rfl,c⟩;have c:gu w6 t:=c;have I:gu x t:=U.trans c;have b7:Kpt w t:=o.trans (I.below.mono o.size);have O:aO K.R t (.slice (some ⟨B,C,none⟩) a.length z) a:=A.x.keep λb _ _=>by rw[I.heap]
   clear c l
   by_cases aa:bV a 4=k
   case neg=>
    have n4:((bV a 4:Int) != (k:Int))=true:=by simp;omega
    have r:dE a g k (n-48*m)=false:=by simp[dE,aa]
    clear aa;have ag:=O;have l:=ae (gt t _ _ _ ag 4 (by rw[D.x];omega) (by omega));rw[show((4:Nat):Int)=4 from rfl] at l;clear ag O;go_wp2_with fail;refine l.x.mono ?_;rintro e u ⟨rfl,c⟩;have c:gu t u:=c;have J:gu x u:=I.trans c;have b8:Kpt w u:=o.trans (J.below.mono o.size);have Q:aO K.R u (.slice (some ⟨B,C,none⟩) a.length z) a:=A.x.keep λb _ _=>by rw[J.heap]
    clear c l;clear Q;go_wp2;go_ret2;rw[ay.x r];exact⟨rfl,b8⟩
   have n4:((bV a 4:Int) != (k:Int))=false:=by simp[aa]
   have H4:=ae aa;clear aa;have ag:=O;have l:=ae (gt t _ _ _ ag 4 (by rw[D.x];omega) (by omega));rw[show((4:Nat):Int)=4 from rfl] at l;clear ag O;go_wp2_with fail;refine l.x.mono ?_;rintro e u ⟨rfl,c⟩;have c:gu t u:=c;have J:gu x u:=I.trans c;have b8:Kpt w u:=o.trans (J.below.mono o.size);have Q:aO K.R u (.slice (some ⟨B,C,none⟩) a.length z) a:=A.x.keep λb _ _=>by rw[J.heap]
   clear c l
   by_cases az:bV a 8=n-48*m
   case neg=>
    have n8:((bV a 8:Int) != (n:Int)-48*(m:Int))=true:=by simp;omega
    have r:dE a g k (n-48*m)=false:=by simp[dE,az]
    clear az;have ai:=Q;have l:=ae (gt u _ _ _ ai 8 (by rw[D.x];omega) (by omega));rw[show((8:Nat):Int)=8 from rfl] at l;clear ai Q;go_wp2_with fail;refine l.x.mono ?_;rintro e y ⟨rfl,c⟩;have c:gu u y:=c;have V:gu x y:=J.trans c;have Y:Kpt w y:=o.trans (V.below.mono o.size);have aI:aO K.R y (.slice (some ⟨B,C,none⟩) a.length z) a:=A.x.keep λb _ _=>by rw[V.heap]
    clear c l;clear aI;go_wp2;go_ret2;rw[ay.x r];exact⟨rfl,Y⟩
   have n8:((bV a 8:Int) != (n:Int)-48*(m:Int))=false:=by simp;omega
   have bv:=ae (show dE a g k (n-48*m)=true by simp[dE,bl,H0.x,H4.x,az]);clear az;have ai:=Q;have l:=ae (gt u _ _ _ ai 8 (by rw[D.x];omega) (by omega));rw[show((8:Nat):Int)=8 from rfl] at l;clear ai Q;go_wp2_with fail;refine l.x.mono ?_;rintro e y ⟨rfl,c⟩;have c:gu u y:=c;have V:gu x y:=J.trans c;have Y:Kpt w y:=o.trans (V.below.mono o.size);have aI:aO K.R y (.slice (some ⟨B,C,none⟩) a.length z) a:=A.x.keep λb _ _=>by rw[V.heap]
   clear c l;have a2:=ig bz.x V.below;have an:(fF M.S g p m).length=48*m:=gp _ (λs hs=>bd.x.s64 s hs) _ _ _ (λj hj=>ie _ _ _ (by rw[L.x];omega));obtain⟨vB,wB,b0,a3,bk⟩:=cP y w.heap.size _ _ a2 _ _ _ (Cf aI D.x) (by rw[an];simp;omega) Y.size;rw[<- br.x] at a3
   have bB:Kpt w wB:=Y.grown bk Y.size (λq hq=>by
    rcases a2.2 with⟨h,_⟩|⟨g',bW,bX,h,cc,_⟩
    ·rw[h] at hq;cases hq
    ·rw[h] at hq;simp[Value.ownBlock] at hq;omega)
   have bA:=ae a3;clear a3 a2 bk an aI;go_wp2
   go_roundw
   ·exact⟨m+1,by omega,by go_num,by rw[bE.x];exact bv.x,bA.x,bB⟩
   ·simp[intOf];omega
  ·have bM:¬(m:Int)<(T:Int):=by omega
   obtain rfl:m=T:=by omega
   have aS:takes n=max 1 ((n+47)/48):=rfl;have bG:n <= 48*m:=by have:=HT.x;omega
   have an:(fF M.S g p m).length=48*m:=gp _ (λs hs=>bd.x.s64 s hs) _ _ _ (λj hj=>ie _ _ _ (by rw[L.x];omega));have aV:=aO.of_owns aL (λq=>w.heap.size <= q /\ q<wr.heap.size) (λq h1 h2=>⟨h1,h2⟩);have aM:dP M.S g k p=some ((fF M.S g p m).take n):=by rw[bc.x,if_pos ar]
   generalize fF M.S g p m=bo at *;obtain⟨av,cv,rfl,bI,ce,-,-⟩:=id aV;have bj:=aV.take n (by omega);have bg:(bo.take n).length <= 65536:=by simp;omega
   have⟨bC,bt,bq⟩:=ae3 aM bj bg;clear aM bj bg aV aL ar aS;rw[an] at bI⊢;clear an;have b2:(n:Int) <= (cv:Int):=by omega
   go_wp2;go_ret2;rw[bC.x];exact⟨⟨_,rfl,bt.x,bq.x⟩,ak⟩
/- The reference journal: Open. -/
structure RJK where
 j:Nat
 K:RK
 O:aQ
def RJK.all(k:RJK):aQ:=λb=>b=k.j \/ k.K.all b \/ k.O b
structure iC(w:World)(k:RJK)(M:MD)(J:MJ):Prop where
 ref:bS w k.K M
 recs:∃ra rc R,eE w k.j k.K.d J.g (.slice ra J.L.length rc) J.dead /\ bU R w 0 (.slice ra J.L.length rc) J.L /\ (∀b,(Value.slice ra J.L.length rc).ownBlock=some b \/ R b -> k.O b)
 apart:¬k.K.all k.j /\ (∀b,k.O b -> b≠k.j /\ ¬k.K.all b /\ b<w.heap.size)
 size8:8 <= M.S.length
 room:bj J.L <= bw M.S.length
 gen:J.g<4294967296
 lens:∀b∈J.L,b.length <= 65536
theorem iC.keep{w w':World}{k:RJK}{M:MD}{J:MJ}(h:iC w k M J)(d:∀b,k.all b -> w'.heap[b]?=w.heap[b]?)(f:w.heap.size <= w'.heap.size):iC w' k M J:=by
 obtain⟨g,⟨p,q,R,i,j,e⟩,c,l,m,n,o⟩:=h;exact⟨g.keep (λb a=>d b (.inr (.inl a))) f,⟨p,q,R,Blk.keep i (d _ (.inl rfl)),j.keep λb a _=>d b (.inr (.inr (e b a))),e⟩,⟨c.1,λb a=>⟨(c.2 b a).1,(c.2 b a).2.1,aw (c.2 b a).2.2 f⟩⟩,l,m,n,o⟩
theorem iC.lt{w:World}{k:RJK}{M:MD}{J:MJ}(h:iC w k M J):∀b,k.all b -> b<w.heap.size:=by
 rintro b (rfl|a|a)
 ·obtain⟨d,e,R,c,_⟩:=h.recs;exact Blk.lt c
 ·exact h.ref.lt b a
 ·exact(h.apart.2 b a).2.2
theorem iC.kept{k:RJK}{J:MJ}(h:iC W k N J)(a:Kpt W w'):iC w' k N J:=h.keep (λb c=>a.block b (h.lt b c)) a.size
theorem iC.only{k:RJK}{J:MJ}{F:aQ}(h:iC W k N J)(c:aM F W w')(d:∀b,k.all b -> ¬F b):iC w' k N J:=h.keep (λb a=>c.block b (h.lt b a) (d b a)) c.size
def lenOf(rb:Nat)(wr:World):Nat:=match wr.cell? ⟨rb,2,none⟩ with
 |some (.slice _ n _)=>n
 |_=>0
def EZ(w:World)(rb d g:Nat)(S:List (List UInt8))(v:Value)(wr:World):Prop:=
 ∃(a:Option Addr)(c:Nat)(R:aQ)(L:List (List UInt8)),v=v /\ eE wr rb d g (.slice a L.length c) false /\ bU R wr (rb+1) (.slice a L.length c) L /\
  (∀b,R b -> rb<b /\ b<wr.heap.size) /\ bj L <= bw S.length /\ (∀b∈L,b.length <= 65536) /\
  dQ S g (bw S.length+1) 0 0=L++dQ S g (bw S.length+1-L.length) L.length (bj L) /\ Kpt w wr
def Cg(w:World)(K:RK)(M:MD)(r:MJ ⊕ Int)(e:Ending)(d:World):Prop:=
 (match r with
  |.inr c=>e=.returned (.tuple #[.pointer none,.int .i64 c])
  |.inl J=>∃a,e=.returned (.tuple #[.pointer (some ⟨a.j,0,none⟩),.int .i64 0]) /\ a.K=K /\ iC d a M J /\ ∀b,a.all b -> K.all b \/ w.heap.size <= b) /\ Kpt w d
theorem bU.lower{S:List (List UInt8)}(h:bU G W i u S)(l:j <= i):bU G W j u S:=by
 obtain⟨k,⟨d,a⟩,e,f⟩:=h;refine⟨k,⟨d,?_⟩,e,f⟩;rcases a with a|⟨g,b,c,rfl,m,r⟩
 ·exact .inl a
 ·exact .inr ⟨g,b,c,rfl,by omega,r⟩
theorem Ci(K:RK)(M:MD)(h:bS w K M):
 Calls aE 77 #[.pointer (some ⟨K.d,0,none⟩)] w (Cg w K M (gX M)):=by
 have bq:=h.len;obtain⟨bl,bo,c0,Y,-⟩:=h.row
 by_cases Z:M.S.length<8
 ·have x:=ae (show gX M=.inr 6 by unfold gX;rw[if_pos Z]);have aX:(M.S.length:Int)<8:=by omega
  go_enter func77,ntmps77
  go_wp2;go_ret2;rw[x.x];exact⟨rfl,Below.refl _ _⟩
 have aX:¬(M.S.length:Int)<8:=by omega
 by_cases H:M.down=true
 ·have x:=ae (show gX M=.inr 341 by unfold gX;rw[if_neg Z,if_pos H]);rw[H] at Y
  go_enter func77,ntmps77
  go_wp2;go_ret2;rw[x.x];exact⟨rfl,Below.refl _ _⟩
 have a8:M.down=false:=by simpa using H
 have x:=ae (show gX M=match Ew M.S with|none=>.inr 340|some g=>.inl ⟨g,dQ M.S g (bw M.S.length+1) 0 0,false⟩ by unfold gX;rw[if_neg Z,if_neg H];rfl);rw[a8] at Y;clear H;have E:=ae (DX w K M h (by omega));have z:=A4 M.S;have U:=pp M.S 2;obtain⟨st,ag⟩:=aH (fJ M.S 2);rw[ag] at z U E;obtain⟨fd,g⟩:=st;dsimp only at z U;have a0:=h.lt;have al:=ae h;cases fd with
 |false=>
  have u:=x.x;rw[z] at u;have X:=ae u;rw[show gv (false,g) = -1 from rfl] at E;clear u z ag h
  go_enter func77,ntmps77
  go_wp2_with fail;refine E.x.mono ?_;rintro e D ⟨rfl,G⟩;go_wp2;go_ret2;rw[X.x];exact⟨rfl,G.below⟩
 |true=>
  have u:=x.x;rw[z] at u;have X:=ae u;rw[show gv (true,g)=(g:Int) from rfl] at E;clear u z ag h
  go_enter func77,ntmps77
  go_wp2_with fail;refine E.x.mono ?_;rintro e D ⟨rfl,G⟩;have P:=G.below;have bp:¬((g:Nat):Int)<0:=by omega
  obtain⟨rb,W⟩:=aP D.heap.size
  have ar:eE (D.alloc (.cells #[.pointer (some ⟨K.d,0,none⟩),.int .i64 (g:Int),.slice none 0 0,.bool false] 121)) rb K.d g (.slice none 0 0) false:=by
   rw[W];exact Blk.new D #[.pointer (some ⟨K.d,0,none⟩),.int .i64 (g:Int),.slice none 0 0,.bool false] 121
  have az:Kpt w (D.alloc (.cells #[.pointer (some ⟨K.d,0,none⟩),.int .i64 (g:Int),.slice none 0 0,.bool false] 121)):=Below.alloc P P.size _;have aM:w.heap.size <= rb:=by have:=P.size;omega
  have aO:∀{f},Kpt w f -> bS f K M:=λa=>al.x.kept a
  have aQ:=ae W;have T:D.heap.size=w.heap.size:=by rw[G.heap]
  have aR:=ae T;clear c0 Y G P T;go_wp2;rw[<- W];clear W
  go_loopw [28] (λv wr=>EZ w rb K.d g M.S v wr) (λ_ wr=>bw M.S.length+1-lenOf rb wr)
  ·exact⟨none,0,none_,[],rfl,by simpa using ar,bU.nil _ _,λb a=>a.elim,by simp[bj],by simp,by simp[bj],az⟩
  ·clear ar az;obtain⟨n,o,R,L,-,A,C,O,bh,ab,aL,F⟩:=hrel;have bm:=eU L;have hH:bw M.S.length <= 32768:=by unfold bw;omega
   have ai:=F.size;have ax:=Blk.lt A;have ht:=lK wr.drew rb K.d g _ false (show eE wr.drew rb K.d g _ false from A) R L ((C.lower (Nat.zero_le _)).kept (Below.refl _ _).drew) (by omega) (by omega) ab;have aJ:=yz wr.drew K M ((aO F).kept (Below.refl _ _).drew) (by omega) g L.length (bj L) U (by omega) (by omega);have⟨Ht,aU⟩:=ae2 ht aJ;have c2:∀f,aK wr.drew f -> f.cell? ⟨rb,2,none⟩=some (.slice n L.length o):=λf hh=>dY (by simpa using A.cell 2) hh
   clear ht aJ;go_wp2_with fail;refine bP aK (up 8 [508,509,10,11,12,13,14]) (by kernel_rfl) ?_;apply aG;rfl;intro f N;go_simp;exact aF;refine aY rfl rfl (λy i=>?_);go_simp;refine Ht.x.mono ?_;rintro e f ⟨rfl,rfl⟩;refine⟨_,rfl,aZ _,i _ _ ?_⟩;go_simp;refine aY rfl rfl (λy i=>?_);go_simp;refine aU.x.mono ?_;rintro e c ⟨B,Q⟩;cases J:dP M.S g L.length (bj L) with
   |none=>
    rw[J] at B;dsimp only at B;subst B;refine⟨_,rfl,Q,i _ _ ?_⟩;go_simp;apply aG;rfl;intro f N;go_simp;exact aF;refine aW ?_;have k:Kpt wr c:=(Below.refl _ _).drew.trans Q;have a1:dQ M.S g (bw M.S.length+1) 0 0=L:=by rw[aL,nC J,List.append_nil]
    go_wp2;go_ret2;rw[X.x];simp only[if_true];rw[a1];have ay:=a0;have T:=aR.x;have bi:=k.size;refine⟨⟨⟨rb,K,λb=>(Value.slice n L.length o).ownBlock=some b \/ R b⟩,rfl,rfl,⟨aO (F.trans (k.mono ai)),⟨n,o,R,Blk.keep A (k.block rb ax),(C.lower (Nat.zero_le _)).kept k,λb a=>a⟩,⟨λh=>by have h1:rb<w.heap.size:=ay _ h;have:=aQ.x;have:=T;omega,λb a=>?_⟩,by show 8 <= M.S.length;omega,bh,U,ab⟩,?_⟩,F.trans (k.mono ai)⟩
    ·have h1:rb<b /\ b<wr.heap.size:=by
      rcases a with a|a
      ·have:=C.own a;omega
      ·exact O b a
     exact⟨by show b≠rb;omega,λh=>by have:=ay _ h;omega,by show b<c.heap.size;omega⟩
    ·rintro b (a|a|a)
     ·exact .inr (by rw[a];exact aM)
     ·exact .inl a
     ·right;rcases a with a|a
      ·have:=C.own a;omega
      ·have:=O b a;omega
   |some j=>
    rw[J] at B;dsimp only at B;obtain⟨v,rfl,ao,a2⟩:=B;refine⟨_,rfl,Q,i _ _ ?_⟩;go_simp;apply aG;rfl;intro f N;go_simp;exact aF;refine aW ?_;have k:Kpt wr c:=(Below.refl _ _).drew.trans Q;obtain⟨a9,-⟩:=pq al.x.s64 J
    have bd:dQ M.S g (bw M.S.length+1) 0 0=(L++[j])++dQ M.S g (bw M.S.length+1-(L++[j]).length) (L++[j]).length (bj (L++[j])):=by
     rw[aL,show bw M.S.length+1-L.length=(bw M.S.length-L.length)+1 by omega,nD J,eW];simp
    have av:eE c rb K.d g (.slice n L.length o) false:=Blk.keep A (k.block rb ax);have be:=C.kept k;have a4:=F.trans (k.mono ai);have bi:=k.size;have bt:=ei j.length;have aS:Hd (lenOf rb wr=L.length):=ae (by unfold lenOf;rw[A.cell 2];rfl);obtain⟨xa,xc,p,bc,br,V,I,a7⟩:=mW c.drew _ v j (ao.keep λb _ _=>rfl) (by omega);change(AP _ _ #[.slice (some ⟨c.heap.size,0,none⟩) 0 0,_]).run _ (c.alloc _).drew=_ at bc;have bs:c.heap.size <= p.heap.size:=V.size;have bf:bU R p (rb+1) (.slice n L.length o) L:=(be.kept (w':=c.drew) (Below.refl _ _).drew).kept V;obtain⟨r,s,l,bn,aN,m⟩:=bf.append a7 (λb a=>a.2.2) (by omega) (by omega);have an:Blk p rb _ _:=(Blk.keep (w':=c.drew) av rfl).keep (V.block rb (show rb<c.heap.size by omega));have ad:∀q,Value.ownBlock (.slice n L.length o)=some q -> rb+1 <= q /\ q<wr.heap.size /\ ¬R q:=λq t=>C.own t
    have aa:Blk l rb [.pointer (some ⟨K.d,0,none⟩),.int .i64 (g:Int),.slice n L.length o,.bool false] 121:=(an.alloc _).keep (m.block _ (by have:=an.lt;simp;omega) (λe=>by have:=ad _ e.symm;omega));have k0:bI (λb=>rb<b) c.drew (c.alloc (.cells #[] 5)).drew:=bI.of_below (aI c.drew _)
    have k1:bI (λb=>rb<b) (c.alloc (.cells #[] 5)).drew p:=⟨I.os,I.tape,I.output,I.size,λq t hn=>I.block q t (λe=>hn (by simp at e;have:c.drew.heap.size=c.heap.size:=rfl;omega))⟩
    have k2:bI (λb=>rb<b) p (p.alloc (.cells #[.slice xa j.length xc] 41)):=bI.of_below (aI _ _)
    have k3:bI (λb=>rb<b) (p.alloc (.cells #[.slice xa j.length xc] 41)) l:=⟨m.os,m.tape,m.output,m.size,λq t hn=>m.block q t (λe=>hn (by have:=ad _ e.symm;omega))⟩
    have a5:Kpt w l:=((a4.drew.trans (V.mono (show w.heap.size <= c.heap.size by omega))).alloc (by omega) _).grown m (by simp;omega) (λq t=>by have:=ad q t;omega);have c2:=aa.cell 2;have f2:=aa.free 2;simp at c2;have a3:=aa.set 2 (.slice r (L.length+1) s)
    have bg:bU _ (l.setCell ⟨rb,2,none⟩ (.slice r (L.length+1) s)) (rb+1) (.slice r (L.length+1) s) (L++[j]):=aN.keep λb a _=>Below.heap_setCell _ ⟨rb,2,none⟩ _ b (by
     rcases a with a|a|a
     ·have:=(aN.own a).1;show b≠rb;omega
     ·have:=O b a;show b≠rb;omega
     ·have:c.drew.heap.size=c.heap.size:=rfl;have:=a.1;show b≠rb;omega)
    have a6:Kpt w (l.setCell ⟨rb,2,none⟩ (.slice r (L.length+1) s)):=a5.setCell aM _
    have q2:∀f,bI (λb=>rb<b) c.drew f -> f.cell? ⟨rb,2,none⟩=some (.slice n L.length o):=λf hh=>by
     simpa using(Blk.keep (w':=f) av (hh.block rb (show rb<c.heap.size by omega) (by omega))).cell 2
    obtain⟨va,vc,rfl,-⟩:=id ao;have bk:l.heap.size ≥ p.heap.size:=by have:=m.size;simp at this;omega
    have ak:=a3;have ba:(l.setCell ⟨rb,2,none⟩ (.slice r (L.length+1) s)).heap.size=l.heap.size:=by simp[World.setCell]
    have aT:=ba;have aV:=bk;go_wp2_with fail;refine dq (bI (λb=>rb<b)) 12 (up 5 [6,505,507,508,509,10,11,512]) (by kernel_rfl) ?_;apply bC;rfl;intro f N;go_simp;exact aF;refine cD rfl rfl (λy i=>?_);go_simp;refine i _ _ ?_;go_simp;refine cD rfl rfl (λy i=>?_);go_simp;refine i _ _ ?_;go_simp;refine cD rfl rfl (λy i=>?_);go_simp;refine i _ _ ?_;go_simp;refine cD rfl rfl (λy i=>?_);go_simp;refine i _ _ ?_;go_simp;apply bC;rfl;intro f N;go_simp;exact aF;refine cG rfl rfl rfl (λy i=>?_);go_simp;refine i _ _ ?_;go_simp;refine cZ ?_;go_wp2
    go_roundw
    ·refine⟨r,s,_,L++[j],rfl,by simpa[eE] using ak,by simpa using bg,λb a=>?_,by rw[eW];exact a9,λb a=>?_,bd,a6⟩
     ·have h5:=aT;have hz:=aV;rcases a with a|a
      ·have:=O b a;omega
      ·have:c.drew.heap.size=c.heap.size:=rfl;have h1:=a.1;have h2:=a.2.1;omega
     ·rcases List.mem_append.1 a with a|a
      ·exact ab b a
      ·obtain rfl:=List.mem_singleton.1 a;exact a2
    ·have e4:lenOf rb (l.setCell ⟨rb,2,none⟩ (.slice r (L.length+1) s))=L.length+1:=by unfold lenOf;rw[ak.cell 2];rfl
     rw[e4,aS.x];omega
/- The reference journal: Records, Room. -/
theorem uT(k:RJK)(M:MD)(J:MJ)(h:iC w k M J):
 Calls aE 183 #[.pointer (some ⟨k.j,0,none⟩)] w λe a=>e=.returned (.int .i64 (Fg M.S.length J.L)) /\ w=a:=by
 obtain⟨D,E,R,i,n,-⟩:=h.recs;have B:bj J.L <= bw M.S.length:=h.room;have z:M.S.length <= 65536:=h.ref.len;have s:8 <= M.S.length:=h.size8;have x:=eU J.L;have u:bw M.S.length <= 32768:=by unfold bw;omega
 obtain⟨p,y,q,r,-⟩:=h.ref.row;have c:=lK w k.j k.K.d J.g _ J.dead i R J.L n (by omega) (by omega) h.lens;have b:=lj w M.S.length (by omega) (by omega);have l:=i.cell 0;simp at l;have o:Fg M.S.length J.L=if bw M.S.length-bj J.L<1 then -1 else min (48*((bw M.S.length-bj J.L:Nat):Int)) 65536:=rfl
 rw[o];generalize bj J.L=t at *;generalize bw M.S.length=H at *;have A:(M.S.length:Int) <= 65536:=by omega
 have v:(H:Int) <= 32768:=by omega
 have C:(t:Int) <= (H:Int):=by omega
 by_cases f:H-t<1
 ·have m:(H:Int)-(t:Int)<1:=by omega
  rw[if_pos f]
  go_enter func183,ntmps183
  go_wp2_with fail;refine b.mono ?_;rintro e a ⟨rfl,rfl⟩;go_wp2_with fail;refine c.mono ?_;rintro e a ⟨rfl,rfl⟩;go_wp2
  go_ret
  exact⟨rfl,rfl⟩
 ·have m:¬(H:Int)-(t:Int)<1:=by omega
  rw[if_neg f]
  go_enter func183,ntmps183
  go_wp2_with fail;refine b.mono ?_;rintro e a ⟨rfl,rfl⟩;go_wp2_with fail;refine c.mono ?_;rintro e a ⟨rfl,rfl⟩;go_wp2_with fail
  all_goals
   go_ret
   exact⟨fv (by omega),rfl⟩
end
section
attribute [local go_sem ↓] mN ep
theorem yA{s:List UInt8}(b:Blk W i (s.map B) t)(a:s.length=64)(F:aQ)(hF:F i):aO F W (.slice (some ⟨i,0,none⟩) 64 64) s:=by
 have:=jt b (by rw[a];unfold maxLen;omega) F hF;rw[a] at this;exact this
theorem Blk.byte(c:Blk W i (l.map B) t)(a:Nat)(b:a<l.length):W.cell? ⟨i,a,none⟩=some (.int .u8 ((l.getD a 0).toNat:Int)):=by
 rw[c.cell a,List.getElem?_map,List.getElem?_eq_getElem b,List.getD_eq_getElem?_getD,List.getElem?_eq_getElem b];rfl
end
section
attribute [local go_sem ↓] aU
attribute [local go_sem] mj
theorem pE:(Builtin.zeroCells #[Value.int .u8 0] n).toList=List.replicate n (B 0):=by
 apply List.ext_getElem
 ·simp[Builtin.zeroCells]
 ·intro i a b;simp[Builtin.zeroCells,Nat.mod_one];rfl
theorem qf(O:w.ownsRow n 5 1 v b.length (b.map B))(V:0<b.length)(a:Nat)(L:0<a)(U:b.length+a <= 140737488355328)(F:n <= w.heap.size):
 ∃A p,(AP #[41,3] 41 #[v,.int .i64 (a:Int)]).run aE w=.ok A p /\ p.ownsRow n 5 1 A (b++List.replicate a 0).length ((b++List.replicate a 0).map B) /\ w.grownBy p v.ownBlock:=by
 obtain⟨o,hi,y,z,l⟩:=info_parts ku;have J:(b++List.replicate a (0:UInt8)).length=b.length+a:=by simp
 have K:((b++List.replicate a (0:UInt8)).map B)=b.map B++List.replicate a (B 0):=by simp
 rw[J,K];obtain⟨C,D⟩:=O;rcases D with⟨rfl,T⟩|⟨g,c,d,rfl,q,i,M,r,h,x⟩
 ·omega
 ·by_cases s:b.length+a <= c
  ·have G:b.length+(List.replicate a (B 0)).length <= d.size:=by rw[List.length_replicate,h];omega
   have t:=run_storeCells_at (P:=aE) g b.length 5 (List.replicate a (B 0)) 0 d w i (by simpa using G) (λv R=>by obtain⟨_,rfl⟩:=List.mem_replicate.1 R;rfl);simp only[Nat.add_zero] at t;have S:IntKind.i64.wrap (a:Int)=a:=by rw[IntKind.wrap_i64];omega
   have N:¬((a:Int)<0):=by omega
   have E:¬(281474976710656<(a:Int)):=by omega
   have f:a≠0:=by omega
   have m:(Builtin.zeroCells #[Value.int .u8 0] a).toList=List.replicate a (B 0):=pE a
   refine⟨.slice (some ⟨g,0,none⟩) (b.length+a) c,w.setRow g (List.take b.length d.toList++(List.replicate a (B 0)++List.drop (b.length+a) d.toList)).toArray,by
    unfold AP
    simp[Builtin.append_,run_underlying underlying41,run_underlying underlying3,sizeOf,typeInfo,zeroValue,hi,y,z,l,asInt,asIntOf,S,N,E,f,s,Addr.add_lit,Value.cells,m,t],?_,?_⟩
   ·refine⟨by simp,.inr ⟨g,c,_,rfl,q,setRow_heap w g d _ _ _ i,s,r,?_,?_⟩⟩
    ·simp;rw[h];omega
    ·rw[show(d.toList.take b.length)=b.map B from by simpa using x];rw[show(b.length+a)*1=(b.map B++List.replicate a (B 0)).length from by simp,<- aB];exact List.take_left
   ·exact⟨rfl,rfl,rfl,by simp,λk _ f=>setRow_other w g k _ (λe=>f (by simp[Value.ownBlock,e]))⟩
  ·have holds:(Builtin.firstCells o.size b.length (.slice (some ⟨g,0,none⟩) b.length c)).run aE w.drew=.ok (b.map B).toArray w.drew:=
    run_firstCells_some w.drew o.size b.length ⟨g,0,none⟩ b.length c (b.map B) (by rw[z];simp) (λj u I=>by
     have:=(show w.ownsRow n 5 1 (.slice (some ⟨g,0,none⟩) b.length c) b.length (b.map B) from⟨C,.inr ⟨g,c,d,rfl,q,i,M,r,h,x⟩⟩).cells (g:=g) rfl j u I
     simpa using this)
   have Q:=Lib.run_append_grow_zeros (P:=aE) w 41 3 41 5 o _ .i64 .i64 underlying41 underlying3 hi y (some ⟨g,0,none⟩) b.length c (b.map B) holds a L (by omega) (by omega) (by omega) (by rw[l];omega) (by rw[l];exact growslice_fits (by omega) (by omega));have H:=grownCap_ge w (b.length+a) c 5;refine⟨_,_,Q,?_,?_⟩
   ·refine⟨by simp,.inr ⟨w.heap.size,_,_,rfl,F,heap_alloc_new w.drew _,H,grownCap_le_maxLen w _ _ _ (by unfold maxLen;omega),?_,?_⟩⟩
    ·simp[size_zeroCells,Value.cells];omega
    ·have m:=pE a;simp only[Array.toList_append,aB];rw[show Value.cells (Value.int .u8 0)=#[Value.int .u8 0] from rfl,m,<- aB,show(b.length+a)*1=(b.map B++List.replicate a (B 0)).length from by simp];exact List.take_left
   ·exact⟨rfl,rfl,rfl,by simp,λk f _=>Go.heap_alloc_old w.drew _ (h:=f)⟩
theorem lQ(h e:Nat)(c:List UInt8)(p:∀j u,(c.map B)[j]?=some u -> w.cell? ⟨e,j,none⟩=some u)(F:aQ)(x:Value)(l:List UInt8)(f:aO F w x l)(A:0<l.length)(K:c.length+l.length <= 100000)(s:h <= w.heap.size):
 ∃o g,(AP #[41,41] 41 #[.slice (some ⟨e,0,none⟩) c.length c.length,x]).run aE w=.ok o g /\ g.ownsRow h 5 1 o (c++l).length ((c++l).map B) /\ w.grownBy g none:=by
 obtain⟨H,hi,E,m,G⟩:=info_parts ku;obtain⟨a,q,rfl,I,M,N,f⟩:=f;obtain⟨b,n,L,t,r,rfl,hF,v,J,C⟩:=f.resolve_left (by rintro rfl;simp at A)
 have D:=run_append_grow (P:=aE) w 41 41 5 H _ underlying41 hi E ⟨e,0,none⟩ c.length c.length (c.map B) (by rw[m];simp) (λj u d=>by rw[Addr.add_lit,Nat.zero_add];exact p j u d)
  ⟨b,n,none⟩ l.length q (l.map B) (by rw[m];simp) (λj u d=>by
   have i:j<l.length:=by have:=(List.getElem?_eq_some_iff.1 d).1;simpa using this
   rw[Addr.add_lit,cell_of_row w b (n+j) L t r v,C j i];simp[List.getElem?_eq_getElem i] at d
   simp[d]) (by omega) (by omega) (by rw[G];exact growslice_fits (by omega) (by omega))
 have y:=grownCap_ge w (c.length+l.length) c.length 5;refine⟨_,_,D,?_,⟨rfl,rfl,rfl,by simp,λk z _=>Go.heap_alloc_old w.drew _ (h:=z)⟩⟩;rw[show(c++l).length=c.length+l.length from by simp];refine⟨by simp,.inr ⟨w.heap.size,_,_,rfl,s,heap_alloc_new w.drew _,y,grownCap_le_maxLen w _ _ _ (by unfold maxLen;omega),?_,?_⟩⟩
 ·simp[size_zeroCells,Value.cells];omega
 ·simp only[Array.toList_append,aB];rw[<- aB,show(c.length+l.length)*1=(c.map B++l.map B).length from by simp,List.map_append];exact List.take_left
theorem DY:(cB n).map B = [.int .u8 ((n:Int)%256),.int .u8 ((n:Int)/256%256),.int .u8 ((n:Int)/65536%256),.int .u8 ((n:Int)/16777216%256)]:=by
 simp[cB,mM]
theorem jc(c:n <= 4294967295):
 Calls aE 127 #[.int .i64 (n:Int)] w λe d=>e=.returned (.slice (some ⟨w.heap.size,0,none⟩) 4 4) /\ Blk d w.heap.size ((cB n).map B) 5 /\ Kpt w d:=by
 have a:=Blk.new w #[.int .u8 ((n:Int)%256),.int .u8 ((n:Int)/256%256),.int .u8 ((n:Int)/65536%256),.int .u8 ((n:Int)/16777216%256)] 5;have b:=aI w (.cells #[.int .u8 ((n:Int)%256),.int .u8 ((n:Int)/256%256),.int .u8 ((n:Int)/65536%256),.int .u8 ((n:Int)/16777216%256)] 5);rw[DY];have i:=af ((n:Int)/256) (by omega);have j:=af ((n:Int)/65536) (by omega);have k:=af ((n:Int)/16777216) (by omega);have f:=a;have g:=b;have h:=ae c;clear a b c
 go_enter func127,ntmps127
 go_wp2
 go_ret
 exact⟨rfl,f,g⟩
theorem lL(h:Blk W i ((cB j).map B) 5)(F:aQ)(hF:F i):aO F W (.slice (some ⟨i,0,none⟩) 4 4) (cB j):=by
 have:=jt h (by rw[cn];unfold maxLen;omega) F hF;rw[cn] at this;exact this
theorem qJ(l:List UInt8)(n:aO F w v l)(z:l.length=60):
 Calls aE 128 #[v] w λe p=>∃r,e=.returned r /\ p.ownsRow w.heap.size 5 1 r 64 ((fT l).map B) /\ Kpt w p:=by
 have o:aO (λb=>b<w.heap.size) w v l:=by
  obtain⟨a,x,rfl,d,W,Z,Y⟩:=n;refine⟨a,x,rfl,d,W,Z,?_⟩;rcases Y with h|⟨J,ab,L,t,K,M,h2,y,N,O⟩
  ·exact .inl h
  ·exact .inr ⟨J,ab,L,t,K,M,lt_of_block y,y,N,O⟩
 obtain⟨xa,xc,s,hr,A,f,T,S⟩:=mW w _ v l o (by omega);have m:=tb s _ v l (o.keep λb P _=>f.block b P);have aa:=f.size;obtain⟨a,x,rfl,-⟩:=id n;have j:=zo l;obtain⟨c,d⟩:=aH (crc l);rw[d] at m j;have⟨I,H⟩:=ae2 m A;have E:=f;have D:=d;have u:=ae z;have an:=af (c:Int) (by omega);have⟨ad,G⟩:=ae2 j (jc s c (by omega));clear m A f T S n o d z j
 go_enter func128,ntmps128
 go_wp2_with fail;refine I.x.mono ?_;rintro e p ⟨rfl,rfl⟩;go_wp2_with fail;refine G.x.mono ?_;rintro e w3 ⟨rfl,Q,g⟩;have C:=ig H.x g;obtain⟨v4,w4,ak,k,U⟩:=cP w3 w.heap.size _ _ C _ _ _ (lL Q (λb=>b=s.heap.size) rfl) (by rw[u.x,cn];omega) (by have:=g.size;omega)
 have R:Kpt w w4:=(E.trans (g.mono aa)).grown U (by have:=g.size;omega) (λq i=>by
  rcases C.2 with⟨h,_⟩|⟨g',ag,ai,h,al,_⟩
  ·rw[h] at i;cases i
  ·rw[h] at i;simp[Value.ownBlock] at i;omega)
 have X:l++cB c=fT l:=by unfold fT;rw[D]
 rw[X] at k;have V:(fT l).length=64:=by unfold fT;rw[aA,u.x,cn]
 rw[V] at k;go_wp2
 go_ret
 exact⟨_,rfl,k,R⟩
theorem uU(X:n <= 4294967295):
 Calls aE 71 #[.int .i64 (n:Int)] w λe E=>∃r,e=.returned r /\ E.ownsRow w.heap.size 5 1 r 64 ((dw n).map B) /\ Kpt w E:=by
 obtain⟨a,f⟩:=aP (w.alloc (.cells #[.int .u8 72,.int .u8 78,.int .u8 75,.int .u8 74] 5 (4,5)));have o:a.heap.size=w.heap.size+1:=by rw[f];simp
 have Q:Kpt w a:=by rw[f];exact aI _ _
 have W:∀j u,(dF.map B)[j]?=some u -> a.cell? ⟨w.heap.size,j,none⟩=some u:=λj u l=>by
  rw[f];unfold World.cell? World.alloc;simp;exact l
 obtain⟨w2,ak⟩:=aP (a.alloc (.cells ((cB n).map B).toArray 5));have H:=jc a n X;have L:=o;have F:=Q;have G:=W
 go_enter func71,ntmps71
 go_wp2_with fail;rw[<- f];refine H.mono ?_;rintro e w3 ⟨rfl,R,m⟩;have al:=m.size;have o:=L;obtain⟨v4,s,O,d,Y⟩:=lQ w3 w.heap.size w.heap.size dF (λj u l=>by rw[m.cell (p:=⟨w.heap.size,j,none⟩) (show w.heap.size<a.heap.size by omega)];exact G j u l) _ _ _ (lL R (λb=>b=a.heap.size) rfl) (by rw[cn];omega) (by rw[cn];simp[dF]) (by omega);rw[show dF.length=4 from rfl,o] at O;have S:Kpt w s:=(F.trans (m.mono (by omega))).grown Y (by omega) (λq c=>by cases c);rw[show(dF++cB n).length=8 from by simp[dF,cn]] at d;have I:=d;have v:=S;have d:=I;have C:w.heap.size <= s.heap.size:=v.size;obtain⟨D,t,P,ad,Z⟩:=qf s w.heap.size v4 (dF++cB n) (by rw[show(dF++cB n).length=8 from by simp[dF,cn]];exact d) (by simp[dF]) 52 (by omega) (by simp[dF,cn]) C;rw[show((52:Nat):Int)=52 from rfl] at P
 have T:Kpt w t:=v.grown Z C (λq c=>by
  rcases d.2 with⟨h,_⟩|⟨A,y,z,h,ab,_⟩
  ·rw[h] at c;cases c
  ·rw[h] at c;simp[Value.ownBlock] at c;omega)
 have aa:(dF++cB n++List.replicate 52 0).length=60:=by simp[dF,cn]
 have V:aO (λb=>w.heap.size <= b) t D (dF++cB n++List.replicate 52 0):=aO.of_owns ad _ (λk hk _=>hk);have K:=qJ t _ D _ V aa;have x:=T;go_wp2_with fail;refine K.mono ?_;rintro e w6 ⟨r,rfl,ag,U⟩;have J:=ag;go_wp2
 go_ret
 have ai:=x.size;refine⟨_,rfl,?_,x.trans (U.mono ai)⟩;obtain⟨M,i⟩:=J;refine⟨M,?_⟩;rcases i with i|⟨A,y,z,e,ab,N⟩
 ·exact .inl i
 ·exact .inr ⟨A,y,z,e,by omega,N⟩
theorem wk(K:RK)(M:MD)(h:bS w K M)(i:Nat)(m:i<M.S.length)(p:M.writes<4611686018427387904)(F:aQ)(v:Value)(l:List UInt8)(o:aO F w v l)(n:l.length=64)(hF:∀b,F b -> b≠K.d):
 Calls aE 70 #[.pointer (some ⟨K.d,0,none⟩),.int .i64 (i:Int),v] w λe g=>e=.returned (.int .i64 (M.wr i l).2) /\
  (∃a,a.d=K.d /\ (∀b,a.all b -> K.all b \/ w.heap.size <= b) /\ bS g a (M.wr i l).1 /\ a.bs=K.bs) /\ aM K.foot w g:=by
 by_cases c:M.down=true
 ·have j:M.chk (i:Int)=341:=by unfold MD.chk;rw[if_pos c]
  refine(wj w K M i v h (by rw[j];omega)).mono ?_;rintro e g ⟨rfl,rfl⟩;have f:M.wr i l=(M,341):=by unfold MD.wr;rw[if_pos c]
  rw[f,j];exact⟨rfl,⟨K,rfl,λb k=>.inl k,h,rfl⟩,aM.refl _ _⟩
 ·have f:M.wr i l=M.write i l:=by unfold MD.wr;rw[if_neg c]
  rw[f];exact yv w K M h i m (by simpa using c) p F v l o n hF
theorem E0(K:RK)(M:MD)(h:bS w K M)(i:Nat)(n:i<M.S.length)(q:M.writes<4611686018427387904)(F:aQ)(v:Value)(l:List UInt8)(p:aO F w v l)(o:l.length=64)(hF:∀b,F b -> b≠K.d):
 Calls aE 70 #[.pointer (some ⟨K.d,0,none⟩),.int .i64 (i:Int),v] w λe c=>e=.returned (.int .i64 (M.wr i l).2) /\
  (∃a,a.d=K.d /\ (∀b,a.all b -> K.all b \/ w.heap.size <= b) /\ bS c a (M.wr i l).1) /\ aM K.foot w c:=
 (wk w K M h i n q F v l p o hF).mono λ_ _ ⟨f,⟨a,g,j,k,_⟩,m⟩=>⟨f,⟨a,g,j,k⟩,m⟩
/- The reference journal: Format. -/
end
section
attribute [local go_sem] opC upC
attribute [local go_sem ↓] ep
theorem yB:
 Calls aE 30 #[.pointer none] w λe a=>e=.returned (.tuple #[.pointer none,.int .i64 9]) /\ w=a:=by
 go_enter func30,ntmps30
 go_wp2;go_ret2;exact⟨rfl,rfl⟩
theorem tP(K:RK)(M:MD)(h:bS w K M)(g:M.S.length<8):
 Calls aE 30 #[.pointer (some ⟨K.d,0,none⟩)] w λe a=>e=.returned (.tuple #[.pointer none,.int .i64 6]) /\ w=a:=by
 have k:=h.len;obtain⟨f,j,b,c,-⟩:=h.row;have i:(M.S.length:Int)<8:=by omega
 go_enter func30,ntmps30
 go_wp2;go_ret2;exact⟨rfl,rfl⟩
def td(w:World)(K:RK)(M:MD)(n:Nat)(e:List (Nat×List UInt8))(i:Value)(wr:World):Prop:=
 ∃k a c,k <= n /\ i=.int .i64 (k:Int) /\ (a.d=K.d /\ a.bs=K.bs) /\ (∀b,RK.all a b -> K.all b \/ w.heap.size <= b) /\ bS wr a c /\ bD M (e.take k)=(c,0) /\ aM K.foot w wr /\ c.S.length=n /\ c.writes <= M.writes+k
theorem yC(K:RK)(M:MD)(h:bS w K M)(h8:8 <= M.S.length)(hw:M.writes+65540<4611686018427387904):
 Calls aE 30 #[.pointer (some ⟨K.d,0,none⟩)] w λe Y=>∃j:RK,j.d=K.d /\ (∀b,j.all b -> K.all b \/ w.heap.size <= b) /\ aM K.foot w Y /\
  (((cJ M).2=0 /\ ∃jb,e=.returned (.tuple #[.pointer (some ⟨jb,0,none⟩),.int .i64 0]) /\ w.heap.size <= jb /\ iC Y ⟨jb,j,none_⟩ (cJ M).1 ⟨0,[],false⟩) \/
   ((cJ M).2≠0 /\ e=.returned (.tuple #[.pointer none,.int .i64 (cJ M).2]) /\ bS Y j (cJ M).1)):=by
 have aX:=h.len;have a9:=h.lt K.d (.inl rfl);obtain⟨a5,aQ,J,-⟩:=h.row;rw[mh];obtain⟨c,W⟩:=aP (gP M.S.length);have ao:c.length=M.S.length:=by rw[W,kI]
 have ar:∀i,i<M.S.length -> c.take (i+1)=c.take i++[(i,List.replicate 64 0)]:=λi hi=>by rw[W];exact qA _ i hi
 rw[<- W];obtain⟨n,T⟩:=aH M.S.length;rw[T] at h8 aX aQ J ao ar
 try rw[T]
 have a7:¬(n:Int)<8:=by omega
 have ba:(n:Int) <= 65536:=by omega
 have H0:Hd (td w K M n c (.int .i64 0) w):=ae ⟨0,K,M,by omega,rfl,⟨rfl,rfl⟩,λb a=>.inl a,h,rfl,aM.refl _ _,T,by omega⟩;have ab:=ao
 go_enter func30,ntmps30
 go_wp2
 go_loopw [4] (λi wr=>td w K M n c i wr) (λi _=>n-(intOf i).toNat)
 ·exact H0.x
 ·obtain⟨k,j,o,hk,rfl,⟨x,L⟩,ad,E,z,V,R,bc⟩:=hrel;obtain⟨a6,a8,J,-⟩:=E.row;rw[x,R] at J;have ak:=E.lt;have bb:=V.size
  by_cases aU:k<n
  ·have aV:(k:Int)<(n:Int):=by omega
   obtain⟨Z,aZ,aN,Q⟩:=jL wr 64 (by omega);rw[show((64:Nat):Int)=64 from rfl] at aZ;have P:aO (λb=>b=wr.heap.size) Z (.slice (some ⟨wr.heap.size,0,none⟩) 64 64) (List.replicate 64 0):=yA (s:=List.replicate 64 0) (by simpa using aN) (by simp) _ rfl;have m:=wk Z j o (E.kept Q) k (by omega) (by omega) _ _ _ P (by simp) (λb e h=>by have:=ak _ (.inl rfl);omega);rw[x] at m;have q:=eD M (c.take k) k (List.replicate 64 0) (by rw[z]);rw[<- ar k aU,z] at q;have A:=nZ o k (List.replicate 64 0);generalize o.wr k (List.replicate 64 0)=X at *;obtain⟨u,r⟩:=X;dsimp only at m A;have av:=Q.size;have a0:aM K.foot w Z:=V.trans (aM.of_below (F:=none_) Q) λi hi=>hi.elim
   have I:=m;have aa:=q;have az:=a0;have aK:=av;have D:=A;have C:=R;go_wp2_with fail;refine I.mono ?_;rintro e H ⟨rfl,⟨f,p,N,l,ag⟩,U⟩;have av:=aK
   have G:=az.trans U λi hi=>.inl (by
    unfold RK.foot at hi⊢;rw[<- x,<- L]
    exact hi)
   have y:∀b,RK.all f b -> K.all b \/ w.heap.size <= b:=λb a=>by
    rcases N b a with h|h
    ·exact ad b h
    ·exact .inr (by omega)
   by_cases g:r=0
   ·subst g
    have a4:td w K M n c (.int .i64 ((k:Int)+1)) H:=⟨k+1,f,u,by omega,by simp,⟨p,ag.trans L⟩,y,l,aa,G,by have:=D;have:=C;omega,by have:=D;omega⟩
    go_wp2
    go_roundw
    ·exact a4
    ·simp[intOf];omega
   ·have a3:(r != 0)=true:=bne_iff_ne.2 g
    have aS:bD M (c++[(0,dw 0)])=(u,r):=by
     refine iT M u r _ (k+1) ?_ g;rw[List.take_append_of_le_length (by have:=ab;omega)];exact aa
    have B:=l;have t:=G;go_wp2;go_ret2;rw[aS];exact⟨f,by rw[p],y,t,.inr ⟨g,rfl,B⟩⟩
  ·have aV:¬(k:Int)<(n:Int):=by omega
   have aW:k=n:=by omega
   subst aW;rw[List.take_of_length_le (by have:=ab;omega)] at z;have an:=eD M c 0 (dw 0) (by rw[z]);rw[z] at an;have aT:=uU wr 0 (by omega);have aJ:=an;have aF:=V;have ay:=E;have C:=R;go_wp2_with fail;refine aT.mono ?_;rintro e w4 ⟨v,rfl,a2,O⟩;have aR:=ay.kept O;have a1:aM K.foot w w4:=aF.trans (aM.of_below (F:=none_) O) λi hi=>hi.elim
   have ai:=oS 0;have al:=a2;rw[<- ai] at al;have P:=aO.of_owns al (λb=>wr.heap.size <= b) (λk hk _=>hk);have m:=wk w4 j o aR 0 (by have:=C;omega) (by omega) _ _ _ P ai (λb e h=>by have:=ak _ (.inl rfl);omega);rw[x] at m;have q:=aJ;have A:=nZ o 0 (dw 0);have ax:=O.size
   try dsimp only at q
   generalize o.wr 0 (dw 0)=X at *;obtain⟨u,r⟩:=X;dsimp only at m A;have I:=m;have aG:=a1;have D:=A;have aL:=ax;go_wp2_with fail;refine I.mono ?_;rintro e H ⟨rfl,⟨f,p,N,l,ag⟩,U⟩;have ax:=aL
   have G:=aG.trans U λi hi=>.inl (by
    unfold RK.foot at hi⊢;rw[<- x,<- L]
    exact hi)
   have y:∀b,RK.all f b -> K.all b \/ w.heap.size <= b:=λb a=>by
    rcases N b a with h|h
    ·exact ad b h
    ·exact .inr (by omega)
   have B:=l;have t:=G
   by_cases g:r=0
   ·subst g;go_wp2;go_ret2;rw[q];have l:=B;have aY:=l.lt;refine⟨f,by rw[p],y,t.alloc _,.inl ⟨rfl,_,rfl,by have:=t.size;omega,?_⟩⟩;refine⟨l.kept (aI _ _),⟨none,0,none_,?_,bU.nil _ 0,λb a=>by rcases a with a|a;exact absurd a (by simp[Value.ownBlock]);exact a.elim⟩,⟨λh=>by have h1:=aY _ h;dsimp only at h1;omega,λb a=>a.elim⟩,by have:=D;have:=C;show 8 <= u.S.length;omega,by simp[bj],by simp,λb a=>by simp at a⟩;show eE _ H.heap.size f.d 0 (.slice none 0 0) false;rw[p];exact Blk.new H #[.pointer (some ⟨K.d,0,none⟩),.int .i64 0,.slice none 0 0,.bool false] 121
   ·have a3:(r != 0)=true:=bne_iff_ne.2 g;go_wp2;go_ret2;rw[q];exact⟨f,by rw[p],y,t,.inr ⟨g,rfl,B⟩⟩
/- A pair whose sides are changed one after the other. -/
end
section
attribute [local go_sem] opC upC
theorem iC.onDisk{a:RJK}{M g:MD}{J:MJ}(h:iC W a M J){f:RK}(y:bS w' f g)(v:f.d=a.K.d)(m:∀b,f.all b -> a.K.all b \/ W.heap.size <= b)(i:aM a.K.all W w')(o:g.S.length=M.S.length):
 iC w' ⟨a.j,f,a.O⟩ g J:=by
 have n:=h.lt;obtain⟨B,⟨z,A,R,p,q,l⟩,e,r,s,t,u⟩:=h;have x:∀b,a.O b -> w'.heap[b]?=W.heap[b]?:=λb c=>i.block b (e.2 b c).2.2 (e.2 b c).2.1
 refine⟨y,⟨z,A,R,?_,q.keep λb c _=>x b (l b c),l⟩,⟨λk=>?_,λb c=>⟨(e.2 b c).1,λk=>?_,aw (e.2 b c).2.2 i.size⟩⟩,by rw[o];exact r,by rw[o];exact s,t,u⟩
 ·rw[show(⟨a.j,f,a.O⟩:RJK).K.d=a.K.d from v];exact Blk.keep p (i.block _ (n _ (.inl rfl)) e.1)
 ·have:=n a.j (.inl rfl);rcases m _ k with h|h
  ·exact e.1 h
  ·exact absurd h (by show ¬W.heap.size <= a.j;omega)
 ·have:=(e.2 b c).2.2;rcases m _ k with h|h
  ·exact(e.2 b c).2.1 h
  ·omega
theorem yD{K:RK}(h:aM K.foot W w'):aM K.all W w':=⟨h.os,h.tape,h.output,h.size,λi hi a=>h.block i hi λb=>a (bS.foot_all b)⟩
/- Two disks apart, formatted. -/
end
end Go.Proofs.YtobjdpngnfbicaaGreatDoor
