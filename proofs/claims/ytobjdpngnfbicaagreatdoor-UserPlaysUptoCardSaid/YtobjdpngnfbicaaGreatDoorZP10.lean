/-
  RRef1 RRef2 RRef4 ShelfB RForg RDel RRef5
-/
import Derived.Test.YtobjdpngnfbicaaGreatDoorZP07
import Derived.Shelf.Spec.SearchS
open Go.IntWalk renaming i64_in->af
open Nat renaming le_refl->aq,le_trans->au,lt_of_lt_of_le->aw
open List renaming length_append->aA,append_assoc->aB,getElem_mem->aC,length_cons->aD
open Go.Proofs.Tryz renaming prog->aE
set_option maxHeartbeats 16000000
set_option maxRecDepth 100000
set_option linter.all false
namespace Go.Proofs.YtobjdpngnfbicaaGreatDoor
open Go.RowKit
open Go.Proofs.Tryz
variable(w:World)(F:aQ)(n:Nat)(v:Value)(m:aT){W w':World}{u:Value}{i j o:Nat}{L:List Value}{r:aT}{t:TypeId}
section
attribute [local go_sem ↓] aU
attribute [local go_sem] opC upC
theorem vR(d:Int)(l:List bQ)(f:Rows F w 1 v l.length (l.map eS))(hl:l.length <= 1000000)(hk:∀k∈l,k.length <= 1000000000):
 Calls aE 178 #[.int .i64 d,v] w λe O=>e=.returned (.bool (dc d l)) /\ Kpt w O:=by
 obtain⟨r,o⟩:=aH (dc d l);rw[o];obtain⟨n,M⟩:=aH l.length;obtain⟨a,ak,rfl,-⟩:=f.shape;have R:=f;rw[M] at hl⊢;have C:=M;have P:=hk;have B:Kpt w w:=Below.refl _ _
 go_enter func178,ntmps178
 by_cases al:d<0
 ·
  obtain rfl:r=false:=by
   rw[<- o];cases f:dc d l with
   |false=>rfl
   |true=>
    have g:=(fo d l).1 f;exact(absurd g.lo (by omega))
  go_wp2
  go_ret
  exact⟨rfl,B⟩
 by_cases an:d ≥ 8
 ·
  obtain rfl:r=false:=by
   rw[<- o];cases f:dc d l with
   |false=>rfl
   |true=>
    have g:=(fo d l).1 f;exact(absurd g.hi (by omega))
  go_wp2
  go_ret
  exact⟨rfl,B⟩
 go_wp2
 go_loopw [5] (λi wr=>∃k:Nat,k <= n /\ i=.int .i64 (k:Int) /\ Kpt w wr /\ (∀j (c:j<l.length),j<k -> eY l[j]=true) /\ ∀i j (hi:i<l.length) (c:j<l.length),i<j -> j<k -> l[i]≠l[j]) (λi _=>n-(intOf i).toNat)
 ·exact⟨0,by omega,rfl,B,λj _ c=>by omega,λi j _ _ _ c=>by omega⟩
 ·obtain⟨k,ar,rfl,J,I,N⟩:=hrel
  by_cases ad:k<n
  ·have ab:(k:Int)<(n:Int):=by omega
   have z:k<l.length:=by rw[C];exact ad
   go_wp2
   go_loopw [6] (λi A=>∃j:Nat,j <= k /\ i=.int .i64 (j:Int) /\ Kpt w A /\ ∀i (hi:i<l.length),i<j -> l[i]≠l[k]) (λi _=>k-(intOf i).toNat)
   ·exact⟨0,by omega,rfl,J,λi _ hi=>by omega⟩
   ·rename World=>A
    obtain⟨j,u,rfl,W,ai⟩:=hrel;have p:=W;have H:=ai;have hm:=R.keep (w':=A) λb _ ag=>p.block b ag
    obtain⟨b,av,rfl,-,-,K⟩:=fE hm (by omega);have S:=K k z;obtain⟨x,q⟩:=aH l[k];rw[q] at S;have s:=q
    by_cases aa:j<k
    ·have Y:(j:Int)<(k:Int):=by omega
     have ao:(j:Int)<(n:Int):=by omega
     have L:j<l.length:=by omega
     have T:=K j L;obtain⟨y,E⟩:=aH l[j];rw[E] at T
     by_cases t:y=x
     ·have X:(y == x)=true:=by simpa using t
      obtain rfl:r=false:=by
       rw[<- o];cases f:dc d l with
       |false=>rfl
       |true=>
        have g:=(fo d l).1 f;exact(absurd (List.nodup_iff_pairwise_ne.1 g.nodup) (λhp=>(List.pairwise_iff_getElem.1 hp j k L z aa) (by rw[s,E];exact t)))
      go_wp2_with fail
      go_quiet (fail)
      go_wp2
      go_ret
      exact⟨rfl,cN p _⟩
     ·have X:(y == x)=false:=by simpa using t
      go_wp2_with fail
      go_quiet (fail)
      go_wp2
      go_roundw
      ·exact⟨j+1,by omega,by go_num,cN p _,λi hi m=>by
       rcases Nat.lt_succ_iff_lt_or_eq.1 m with h|h
       ·exact H i hi h
       ·subst h;rw[s,E];exact t⟩
      ·simp[intOf];omega
    ·have Y:¬(j:Int)<(k:Int):=by omega
     have Z:j=k:=by omega
     have Q:∀i (hi:i<l.length),i<k -> l[i]≠l[k]:=by have:=H;rw[Z] at this;exact this
     have V:=nA A x (P x (by rw[<- q];exact aC z));obtain⟨kk,D⟩:=aH (eY x);rw[D] at V;go_wp2_with fail;refine V.mono ?_;rintro e w1 ⟨rfl,U⟩;have G:=p.trans (U.mono p.size);cases kk with
     |false=>
      obtain rfl:r=false:=by
       rw[<- o];cases f:dc d l with
       |false=>rfl
       |true=>
        have g:=(fo d l).1 f;exact(absurd (g.keys x (by rw[<- s];exact aC z)) (by rw[D];exact Bool.false_ne_true))
      go_wp2
      go_ret
      exact⟨rfl,G⟩
     |true=>
      go_wp2
      go_roundw
      ·exact⟨k+1,by omega,by go_num,G,λj c u=>by
       rcases Nat.lt_succ_iff_lt_or_eq.1 u with h|h
       ·exact I j c h
       ·subst h;rw[s];exact D,λi j hi c m u=>by
       rcases Nat.lt_succ_iff_lt_or_eq.1 u with h|h
       ·exact N i j hi c m h
       ·subst h;exact Q i hi m⟩
      ·simp[intOf];omega
  ·have ab:¬(k:Int)<(n:Int):=by omega
   obtain rfl:r=true:=by
    rw[<- o,fo];refine⟨by omega,by omega,?_,λx q=>?_⟩
    ·rw[List.nodup_iff_pairwise_ne,List.pairwise_iff_getElem];intro i j hi c m;exact N i j hi c m (by rw[C] at c;omega)
    ·obtain⟨j,c,rfl⟩:=List.mem_iff_getElem.1 q;exact I j c (by rw[C] at c;omega)
   go_wp2
   go_ret
   exact⟨rfl,J⟩
end
section
attribute [local go_sem ↓] aU
attribute [local go_sem] opC upC told bE bm bF bp bq bG bH
def FE{α:Type}(pl:α -> RPl)(enc:α -> List Value)(K:Nat)(e:TypeId)(B:Nat)(f:World)(l:List α)(x:α)(s c d:Value)(wr:World):Prop:=
 ∃(k:Nat)(b:Bool)(a:List α),k <= l.length /\ d=.int .i64 (k:Int) /\ c=.bool b /\ wr.ownsRow B e K s a.length (a.flatMap enc) /\ a++eA pl l x k b=dL pl l x /\ (a.length <= k+1 /\ (b=false -> a.length <= k)) /\ Below B f wr
theorem BT(a b:bQ)(c d:Int):((a,c)=(b,d) /\ (a == b)=true /\ (c == d)=true) \/ ((a,c)≠(b,d) /\ (a == b)=true /\ (c == d)=false) \/ ((a,c)≠(b,d) /\ (a == b)=false /\ True):=by
 by_cases e:a=b
 ·by_cases f:c=d
  ·subst e f;simp
  ·subst e;simp[f]
 ·simp[e]
theorem uD(L:List Value)(t:TypeId):iS (w.alloc (.cells L.toArray t)) w.heap.size 0 L:=λj a=>by
 rw[Nat.zero_add,(Blk.new w L.toArray t).cell];simp[a]
def Gf{α:Type}(pl:α -> RPl)(enc:α -> List Value)(V:α -> Value)(K a f:Nat):Prop:=
 ∀(w:World)(F:aQ)(v:Value)(l:List α)(x:α),Rows F w K v l.length (l.flatMap enc) -> l.length <= 1000000 -> ∀(c:World)(R:List α)(d:World -> List α -> α -> Value -> Value -> Value -> World -> Prop),c=w.alloc (.cells (enc x).toArray a) -> iS c w.heap.size 0 (enc x) -> dL pl l x=R -> d=FE pl enc K a (w.heap.size+1) ->
  Calls aE f #[v,V x] w λe b=>(∃r,e=.returned r /\ b.ownsRow w.heap.size a K r R.length (R.flatMap enc)) /\ Kpt w b
theorem puts:Gf RIt.pl bT itV 4 129 181 /\ Gf RGo.pl du goV 3 130 185:=by
 constructor<;>intro w F v l x hv hl p R az ak hX hR ag
 all_goals
  replace hv:=hv.mono (G:=λb=>b<w.heap.size) λb _ o=>o
  have al:Kpt w p:=by rw[ak];exact aI _ _
  have a1:p.heap.size=w.heap.size+1:=by rw[ak];simp
  have Hs:az p l x (.slice none 0 0) (.bool false) (.int .i64 0) p:=by rw[ag];exact⟨0,false,[],by omega,rfl,rfl,World.ownsRow_nil _ _ _ _,by rw[vf];rfl,⟨by simp,λ_=>by simp⟩,Below.refl _ _⟩
  obtain⟨n,hn⟩:=aH l.length;obtain⟨a,a2,rfl,-⟩:=hv.shape;have A:=λW (hb:Below (w.heap.size+1) p W)=>And.intro (hX.keep (hb.block _ (by omega))) ((hv.keep (w':=p) λb _ o=>al.block b o).keep λb a3 o=>hb.block b (by omega))
  simp only[bT,du,Go.Proofs.encStr,eI] at ak;rw[hn] at hl⊢;have ay:=a1;have Hn:=hn;simp only[itV,goV]
  first|go_enter func181,ntmps181|go_enter func185,ntmps185
  go_wp2;rw[<- ak]
  go_loopw [5,6,7] (λs sd si wr=>az p l x s sd si wr) (λ_ _ si _=>n-(intOf si).toNat)
  ·exact Hs
  ·rw[ag] at hrel;obtain⟨k,aL,T,hk,rfl,rfl,H,f,⟨aP,ar⟩,aO⟩:=hrel;obtain⟨O,P,rfl⟩:=aJ H;obtain⟨S,ai⟩:=aH T.length;rw[ai] at H aP ar⊢;have r:=ai;have D:=f;have M:=aO;have N:w.heap.size+1 <= wr.heap.size:=by have:=aO.size;have:=ay;omega
   rw[Hn] at hk
   by_cases aT:k<n
   ·have aS:(k:Int)<(n:Int):=by omega
    have V:k<l.length:=by rw[Hn];exact aT
    obtain⟨b,a6,rfl,aN,-,hc⟩:=vz (A p (Below.refl _ _)).2 (by omega) (λ_=>rfl)
    replace aN:b<w.heap.size:=aN
    replace hc:=hc k V
    obtain⟨y,I⟩:=aH l[k];rw[I] at hc;have L:=λW (hb:Below (w.heap.size+1) p W)=>hc.keep (hb.block b (by omega))
    have HO:=br H (Below.refl _ _).drew;have aR:=BT y.key x.key y.dev x.dev;rcases aL with _|_
    case' false=>
     have a4:=ar rfl;have ax:=λW=>nW W y.key x.key y.dev x.dev
     have J:=M;have K:=N;obtain⟨j,C⟩:=aH wr;clear ar;rw[C] at J K;have m:∀c,aK j.drew c -> Below (w.heap.size+1) p c:=λc hh=>J.drew.trans (RowKit.Below.mono hh K)
     first|have g:=kD λc hh=>(A c (m c hh)).1|have g:=kE λc hh=>(A c (m c hh)).1
     simp only[Nat.zero_add] at g;obtain⟨p0,p1,-⟩:=g
     first|obtain⟨Y,Z,-⟩:=kD λc hh=>L c (m c hh)|obtain⟨Y,Z,-⟩:=kE λc hh=>L c (m c hh)
     have aX:IntKind.i64.wrap (k:Int)=(k:Int):=af _ (by omega);rw[<- C] at m p0 p1 Y Z J K;clear C j;go_wp2_with fail;refine bP aK (up 17 [517,18,19]) (by kernel_rfl) ?_;apply aG;rfl;intro c B;go_simp;(repeat (simp(disch:=omega) only[af,if_pos];go_simp));exact aF
     repeat (apply bK;rfl;rfl;go_simp;go_simp;rfl;apply aG;rfl;intro c B;go_simp;(repeat (simp(disch:=omega) only[af,if_pos];go_simp));exact aF)
     refine aY rfl rfl (λKK hK=>?_);go_simp;refine(ax _).mono ?_;rintro e j ⟨rfl,C⟩;refine⟨_,rfl,by rw[C];exact aZ _,hK _ _ ?_⟩;clear hK KK p0 p1 Y Z m ax J K;go_simp;have d:=HO;have q:=M.drew;have t:w.heap.size+1 <= wr.drew.heap.size:=N;rw[C] at d q t
     by_cases o:plt y.pl x.pl
     case' pos=>
      rw[show decide (plt (y.key,y.dev) (x.key,x.dev))=true from decide_eq_true o];apply aG;rfl;intro c B;go_simp;exact aF
      repeat (apply bK;rfl;rfl;go_simp;go_simp;rfl;apply aG;rfl;intro c B;go_simp;(repeat (simp(disch:=omega) only[af,if_pos];go_simp));exact aF)
      refine aW ?_
     case' neg=>
      rw[show decide (plt (y.key,y.dev) (x.key,x.dev))=false from decide_eq_false o];have f:=D;rw[xe l x k V (by rw[I];exact o),List.append_cons] at f;apply aG;rfl;intro c B;go_simp;exact aF
      repeat (apply bK;rfl;rfl;go_simp;go_simp;rfl;apply aG;rfl;intro c B;go_simp;(repeat (simp(disch:=omega) only[af,if_pos];go_simp));exact aF)
      refine aW ?_
      first|have g:=mc (A j q).1|have g:=me (A j q).1
      simp only[Nat.zero_add] at g;obtain⟨x0,x1,x2,x3⟩:=g
      first|obtain⟨wz,O,P,j,rfl,X,d,u,z⟩:=vA j d x (by omega) t|obtain⟨wz,O,P,j,rfl,X,d,u,z⟩:=vC j d x (by omega) t
      have E:=q.trans ((aM.trans u z λi h=>.inl h).below (λi h=>h) t);rw[<- gl] at d;have Hq:=E;go_wp2_with fail;have q:=Hq;have t:w.heap.size+1 <= j.heap.size:=by have:=q.size;have:=ay;omega
      have ao:(T++[x]).length=S+1:=by rw[aA,r];rfl
      obtain⟨T,aV⟩:=aH (T++[x]);rw[aV] at f ao d;obtain⟨S,ai⟩:=aH (S+1);rw[ai] at ao d⊢;have aP:S <= k+1:=by omega
      have D:=f;have r:=ao
    case' true=>
     go_wp2_with fail;refine bP aK (up 17 [517,18,19]) (by kernel_rfl) ?_;apply aG;rfl;intro c B;go_simp;exact aF
     repeat (apply bK;rfl;rfl;go_simp;go_simp;rfl;apply aG;rfl;intro c B;go_simp;(repeat (simp(disch:=omega) only[af,if_pos];go_simp));exact aF)
     refine aW ?_;have d:=HO;have q:=M.drew;have t:w.heap.size+1 <= wr.drew.heap.size:=N;obtain⟨j,C⟩:=aH wr.drew;rw[C] at d q t⊢
    all_goals
     have J:=q;have K:=t;have aa:=br d (Below.refl _ _).drew;have U:=q.drew;have ab:w.heap.size+1 <= j.drew.heap.size:=t;obtain⟨Q,c1,c2⟩|⟨Q,c1,c2⟩|⟨Q,c1,c2⟩:=aR
     all_goals try exact absurd Q (jd o)
     all_goals
      have f:=D
      first|rw[yY l x k V (by rw[I];exact Q)] at f|rw[yX l x k V (by rw[I];exact Q),I,List.append_cons] at f|rw[yW l x k V (by rw[I];exact o),I,List.append_cons] at f
      have D:=f;have He:=Q
      try clear o
      have m:∀c,aK j.drew c -> Below (w.heap.size+1) p c:=λc hh=>J.drew.trans (RowKit.Below.mono hh K)
      first|have g:=kD λc hh=>(A c (m c hh)).1|have g:=kE λc hh=>(A c (m c hh)).1
      simp only[Nat.zero_add] at g;obtain⟨p0,p1,-⟩:=g
      first|obtain⟨Y,Z,-⟩:=kD λc hh=>L c (m c hh)|obtain⟨Y,Z,-⟩:=kE λc hh=>L c (m c hh)
      have aX:IntKind.i64.wrap (k:Int)=(k:Int):=af _ (by omega);go_wp2_with fail;refine bP aK (up 18 []) (by kernel_rfl) ?_;apply aG;rfl;intro c B;go_simp;exact aF;refine aW ?_;obtain⟨w9,a0⟩:=aH j.drew;rw[a0] at aa U ab⊢
      first
      |have aU:(y.key,y.dev)≠(x.key,x.dev):=He
       first|have g:=mc (L w9 U)|have g:=me (L w9 U)
       obtain⟨g0,g1,g2,g3⟩:=g
       first|obtain⟨wz,O,P,j,rfl,X,d,u,z⟩:=vA w9 aa y (by omega) ab|obtain⟨wz,O,P,j,rfl,X,d,u,z⟩:=vC w9 aa y (by omega) ab
       have E:=U.trans ((aM.trans u z λi h=>.inl h).below (λi h=>h) ab);rw[<- gl] at d;have Hq:=E;have Ho:=ae d;clear E d aU;go_wp2
       go_roundw
       ·rw[ag];exact⟨k+1,_,T++[y],by omega,by go_num,rfl,by rw[aA,r];exact Ho.x,D,⟨by rw[aA,r];simp;omega,λh=>by first|exact absurd h (by decide)|(rw[aA,r];simp;omega)⟩,Hq⟩
       ·simp[intOf];omega
      |go_wp2
       go_roundw
       ·rw[ag];exact⟨k+1,_,T,by omega,by go_num,rfl,by rw[r];exact aa,D,⟨by rw[r];omega,nofun⟩,U⟩
       ·simp[intOf];omega
   ·have aS:¬(k:Int)<(n:Int):=by omega
    have an:k=l.length:=by rw[Hn];omega
    have f:=D;rw[an,hR] at f;cases aL with
    |true=>
     rw[pP,List.append_nil] at f;have⟨ad,HL⟩:=ae2 (bJ H (Nat.le_succ _)) (show R.length=S by rw[<- f,r]);rw[f] at ad;clear an f;go_wp2
     go_ret
     exact⟨⟨_,rfl,by rw[HL.x];exact ad.x⟩,al.trans (M.mono (Nat.le_succ _))⟩
    |false=>
     rw[wZ] at f;obtain⟨av,-⟩:=A wr M
     first|have g:=mc av|have g:=me av
     simp only[Nat.zero_add] at g;obtain⟨x0,x1,x2,x3⟩:=g
     first|obtain⟨wz,O,P,j,rfl,X,d,u,z⟩:=vA wr H x (by omega) N|obtain⟨wz,O,P,j,rfl,X,d,u,z⟩:=vC wr H x (by omega) N
     have E:=M.trans ((aM.trans u z λi h=>.inl h).below (λi h=>h) N);rw[<- gl] at d;clear u z;rw[f] at d;have⟨ad,HL,aQ⟩:=ae3 (bJ d (Nat.le_succ _)) (show R.length=S+1 by rw[<- f,aA,r];rfl) E;clear an f d E av H;go_wp2
     go_ret
     exact⟨⟨_,rfl,by rw[HL.x];exact ad.x⟩,al.trans (aQ.x.mono (Nat.le_succ _))⟩
theorem pf(l:List RIt)(x:RIt)(c:Rows F w 4 v l.length (l.flatMap bT))(b:l.length <= 1000000):
 Calls aE 181 #[v,itV x] w λe a=>(∃r,e=.returned r /\ a.ownsRow w.heap.size 129 4 r (dL RIt.pl l x).length ((dL RIt.pl l x).flatMap bT)) /\ Kpt w a:=puts.1 w F v l x c b _ _ _ rfl (uD _ _ _) rfl rfl
theorem uE(l:List RGo)(x:RGo)(c:Rows F w 3 v l.length (l.flatMap du))(b:l.length <= 1000000):
 Calls aE 185 #[v,goV x] w λe a=>(∃r,e=.returned r /\ a.ownsRow w.heap.size 130 3 r (dL RGo.pl l x).length ((dL RGo.pl l x).flatMap du)) /\ Kpt w a:=puts.2 w F v l x c b _ _ _ rfl (uD _ _ _) rfl rfl
end
section
attribute [local go_sem ↓] aU
structure dC(w:World)(base:Nat)(s1 s2 s3:Value)(m:aT):Prop where
 seen:w.ownsRow base 3 1 s1 m.seen.length (m.seen.map eI)
 items:w.ownsRow base 129 4 s2 m.items.length (m.items.flatMap bT)
 gone:w.ownsRow base 130 3 s3 m.gone.length (m.gone.flatMap du)
theorem dC.map{c d e:Value}(h:dC W i c d e r)(a:Bnd r):ce (λb=>i <= b) W c d e r:=
 ⟨(Rows.of_owns h.seen).mono (λb h _=>h.1),(Rows.of_owns h.items).mono (λb h _=>h.1),(Rows.of_owns h.gone).mono (λb h _=>h.1),a.seenB,a.itemsB,a.goneB⟩
theorem dC.below{b c d:Value}(h:dC W i b c d r)(a:Kpt W w'):dC w' i b c d r:=
 ⟨br h.seen a,br h.items a,br h.gone a⟩
theorem dC.mono{b c d:Value}(h:dC W i b c d r)(a:j <= i):dC W j b c d r:=
 ⟨bJ h.seen a,bJ h.items a,bJ h.gone a⟩
theorem dC.setCell{w:World}{c b i:Nat}{d e f:Value}{m:aT}{L:List Value}(h:dC w c d e f m)(a:Blk w b L 75)(u:Value):dC (w.setCell ⟨b,i,none⟩ u) c d e f m:=
 ⟨aL h.seen a (by decide) u,aL h.items a (by decide) u,aL h.gone a (by decide) u⟩
theorem uF(h:di F w v m)(hs:m.seen.length <= 1000000)(hi:m.items.length <= 1000000)(hg:m.gone.length <= 1000000):
 Calls aE 179 #[v] w λe w'=>(∃s1 s2 s3,e=.returned (.agg #[s1,s2,s3]) /\ dC w' w.heap.size s1 s2 s3 m) /\ Kpt w w':=by
 replace h:=h.mono (G:=λb=>b<w.heap.size) λb _ al=>al
 replace h:=qU h 75
 obtain⟨Q,p1,R,p2,S,p3,wx,rfl,aR,ai,an,Hx,aF⟩:=h;obtain⟨l,N⟩:=aP ((wx.alloc (.cells #[.slice none 0 0,.slice none 0 0,.slice none 0 0] 75)).alloc (.cells #[.slice none 0 0,.slice none 0 0,.slice none 0 0] 75));have ar:Kpt w l:=by rw[N];exact(ai.x.alloc ai.x.size _).alloc (by have:=ai.x.size;simp;omega) _
 have ax:l.heap.size=w.heap.size+3:=by rw[N];simp[an.x]
 have k1:Blk l w.heap.size [.slice Q m.seen.length p1,.slice R m.items.length p2,.slice S m.gone.length p3] 75:=by rw[N];exact(aF.x.alloc _).alloc _
 have k2:Blk l (w.heap.size+1) [.slice none 0 0,.slice none 0 0,.slice none 0 0] 75:=by
  have:=(Blk.new wx #[.slice none 0 0,.slice none 0 0,.slice none 0 0] 75).alloc (.cells #[.slice none 0 0,.slice none 0 0,.slice none 0 0] 75);rw[N,<- an.x];exact this
 have k3:Blk l (w.heap.size+1+1) [.slice none 0 0,.slice none 0 0,.slice none 0 0] 75:=by
  have:=Blk.new (wx.alloc (.cells #[.slice none 0 0,.slice none 0 0,.slice none 0 0] 75)) #[.slice none 0 0,.slice none 0 0,.slice none 0 0] 75;simp only[World.size_alloc,an.x] at this;rw[N];exact this
 have HM:∀W,Kpt w W -> ce (λb=>b<w.heap.size) W (.slice Q m.seen.length p1) (.slice R m.items.length p2) (.slice S m.gone.length p3) m:=λW hb=>Hx.x.keep (w':=W) λb al _=>(hb.block b al).trans (ai.x.block b al).symm
 have aK:=ae N;have ag:=ar;have⟨a8,K1,K2,K3⟩:=ae4 ax k1 k2 k3;clear N ar ax k1 k2 k3
 go_enter func179,ntmps179
 go_wp2_with fail;rw[<- aR.x,<- aK.x];obtain⟨i0,E,H,I,J⟩:=info_parts ua;have c:l.ownsRow l.heap.size 3 1 (.slice none 0 0) 0 []:=World.ownsRow_nil _ _ _ _;obtain⟨v1,w3,hr,i,g⟩:=en (P:=aE) l l.heap.size 33 3 underlying33 E H I J rfl (by decide) _ _ _ c _ _ _ _ (HM l ag).seen (ze _) (by unfold maxLen;omega) (by omega) (aq _);rw[Nat.zero_add,List.nil_append] at i;have o:Kpt l w3:=Below.grownOwn c g (aq _) (aq _);obtain⟨r,s,rfl⟩:=aJ i;have p:=K1.x.grownNe c (by decide) g;have d:=K2.x.grownNe c (by decide) g;have f:=K3.x.grownNe c (by decide) g;have y:Kpt w w3:=ag.trans (o.mono ag.size);obtain⟨j,a⟩:=aP (w3.setCell ⟨w.heap.size+1+1,0,none⟩ (.slice r m.seen.length s));have B:Blk j w.heap.size [.slice Q m.seen.length p1,.slice R m.items.length p2,.slice S m.gone.length p3] 75:=by rw[a];exact p.set_other _ (by show w.heap.size≠w.heap.size+1+1;omega)
 have C:Blk j (w.heap.size+1) [.slice none 0 0,.slice none 0 0,.slice none 0 0] 75:=by rw[a];exact d.set_other _ (by show w.heap.size+1≠w.heap.size+1+1;omega)
 have D:Blk j (w.heap.size+1+1) [.slice r m.seen.length s,.slice none 0 0,.slice none 0 0] 75:=by rw[a];exact f.set 0 _
 have A:j.ownsRow w.heap.size 3 1 (.slice r m.seen.length s) m.seen.length (m.seen.map eI):=by rw[a];exact bJ (aL i f (by decide) _) ag.size
 have z:Kpt w j:=by rw[a];exact y.setCell (by show w.heap.size <= w.heap.size+1+1;omega) _
 try clear T U V
 try clear g0 g1 g2 g3 g4 g5
 try clear X Y Z f0
 obtain⟨X,Y,Z⟩:=aS f;have f0:=f.free 0;obtain⟨T,U,V⟩:=aS p;obtain⟨g0,g1,g2⟩:=aS d;have g3:=d.free 0;have g4:=d.free 1;have g5:=d.free 2;have⟨aM,aU,aW,aY,aG,ab,a7⟩:=ae7 a B C D A z (show ∀(q:TypeId)(k n:Nat)(u:Value)(K:List Value),l.ownsRow w.heap.size q k u n K -> q≠75 -> j.ownsRow w.heap.size q k u n K from λ_ _ _ _ _ ho aa=>by rw[a];exact aL (br ho o) f aa _);clear c g p d f y a B C D A z E H I J i o;go_simp;go_wp2_with fail;rw[<- aM.x];obtain⟨i0,E,H,I,J⟩:=info_parts mG;have c:j.ownsRow j.heap.size 129 4 (.slice none 0 0) 0 []:=World.ownsRow_nil _ _ _ _;obtain⟨v1,w5,hr,i,g⟩:=en (P:=aE) j j.heap.size 72 129 underlying72 E H I J rfl (by decide) _ _ _ c _ _ _ _ (HM j ab.x).items (mA _) (by unfold maxLen;omega) (by omega) (aq _);rw[Nat.zero_add,List.nil_append] at i;have o:Kpt j w5:=Below.grownOwn c g (aq _) (aq _);obtain⟨t,x,rfl⟩:=aJ i;have p:=aU.x.grownNe c (by decide) g;have d:=aW.x.grownNe c (by decide) g;have f:=aY.x.grownNe c (by decide) g;have y:Kpt w w5:=ab.x.trans (o.mono ab.x.size);obtain⟨w6,a⟩:=aP (w5.setCell ⟨w.heap.size+1+1,1,none⟩ (.slice t m.items.length x));have B:Blk w6 w.heap.size [.slice Q m.seen.length p1,.slice R m.items.length p2,.slice S m.gone.length p3] 75:=by rw[a];exact p.set_other _ (by show w.heap.size≠w.heap.size+1+1;omega)
 have C:Blk w6 (w.heap.size+1) [.slice none 0 0,.slice none 0 0,.slice none 0 0] 75:=by rw[a];exact d.set_other _ (by show w.heap.size+1≠w.heap.size+1+1;omega)
 have D:Blk w6 (w.heap.size+1+1) [.slice r m.seen.length s,.slice t m.items.length x,.slice none 0 0] 75:=by rw[a];exact f.set 1 _
 have A:w6.ownsRow w.heap.size 129 4 (.slice t m.items.length x) m.items.length (m.items.flatMap bT):=by rw[a];exact bJ (aL i f (by decide) _) ab.x.size
 have z:Kpt w w6:=by rw[a];exact y.setCell (by show w.heap.size <= w.heap.size+1+1;omega) _
 try clear T U V
 try clear g0 g1 g2 g3 g4 g5
 try clear X Y Z f0
 obtain⟨X,Y,Z⟩:=aS f;have f0:=f.free 1;obtain⟨T,U,V⟩:=aS p;obtain⟨g0,g1,g2⟩:=aS d;have g3:=d.free 0;have g4:=d.free 1;have g5:=d.free 2;have⟨aN,aV,aX,aZ,aH⟩:=ae5 a B C D A;have ad:=z;have az:=ae (show ∀(q:TypeId)(k n:Nat)(u:Value)(K:List Value),j.ownsRow w.heap.size q k u n K -> q≠75 -> w6.ownsRow w.heap.size q k u n K from λ_ _ _ _ _ ho aa=>by rw[a];exact aL (br ho o) f aa _);clear c g p d f y a B C D A z E H I J i o;go_simp;go_wp2_with fail;rw[<- aN.x];clear hr;obtain⟨i0,E,H,I,J⟩:=info_parts rg;have c:w6.ownsRow w6.heap.size 130 3 (.slice none 0 0) 0 []:=World.ownsRow_nil _ _ _ _;obtain⟨v1,w7,hr,i,g⟩:=en (P:=aE) w6 w6.heap.size 73 130 underlying73 E H I J rfl (by decide) _ _ _ c _ _ _ _ (HM w6 ad).gone (mB _) (by unfold maxLen;omega) (by omega) (aq _);rw[Nat.zero_add,List.nil_append] at i;have o:Kpt w6 w7:=Below.grownOwn c g (aq _) (aq _);obtain⟨L,M,rfl⟩:=aJ i;have p:=aV.x.grownNe c (by decide) g;have d:=aX.x.grownNe c (by decide) g;have f:=aZ.x.grownNe c (by decide) g;have y:Kpt w w7:=ad.trans (o.mono ad.size);obtain⟨O,a⟩:=aP (w7.setCell ⟨w.heap.size+1+1,2,none⟩ (.slice L m.gone.length M));have B:Blk O w.heap.size [.slice Q m.seen.length p1,.slice R m.items.length p2,.slice S m.gone.length p3] 75:=by rw[a];exact p.set_other _ (by show w.heap.size≠w.heap.size+1+1;omega)
 have C:Blk O (w.heap.size+1) [.slice none 0 0,.slice none 0 0,.slice none 0 0] 75:=by rw[a];exact d.set_other _ (by show w.heap.size+1≠w.heap.size+1+1;omega)
 have D:Blk O (w.heap.size+1+1) [.slice r m.seen.length s,.slice t m.items.length x,.slice L m.gone.length M] 75:=by rw[a];exact f.set 2 _
 have A:O.ownsRow w.heap.size 130 3 (.slice L m.gone.length M) m.gone.length (m.gone.flatMap du):=by rw[a];exact bJ (aL i f (by decide) _) ad.size
 have z:Kpt w O:=by rw[a];exact y.setCell (by show w.heap.size <= w.heap.size+1+1;omega) _
 try clear T U V
 try clear g0 g1 g2 g3 g4 g5
 try clear X Y Z f0
 obtain⟨X,Y,Z⟩:=aS f;have f0:=f.free 2;obtain⟨T,U,V⟩:=aS p;obtain⟨g0,g1,g2⟩:=aS d;have g3:=d.free 0;have g4:=d.free 1;have g5:=d.free 2;have⟨aO,a9,ak,ba,aI,ay,ao⟩:=ae7 a B C D A z (show ∀(q:TypeId)(k n:Nat)(u:Value)(K:List Value),w6.ownsRow w.heap.size q k u n K -> q≠75 -> O.ownsRow w.heap.size q k u n K from λ_ _ _ _ _ ho aa=>by rw[a];exact aL (br ho o) f aa _);clear c g p d f y a B C D A z E H I J i o;go_simp;go_wp2_with fail;rw[<- aO.x];obtain⟨wf,av,a4,a0⟩:=dX ak.x ay.x (Nat.le_succ _) (.slice r m.seen.length s) (.slice t m.items.length x) (.slice L m.gone.length M);rw[<- av];obtain⟨t0,t1,t2⟩:=aS a4
 have a6:dC O w.heap.size (.slice r m.seen.length s) (.slice t m.items.length x) (.slice L m.gone.length M) m:=⟨ao.x _ _ _ _ _ (az.x _ _ _ _ _ aG.x (by decide)) (by decide),ao.x _ _ _ _ _ aH.x (by decide),aI.x⟩
 have a5:dC wf w.heap.size (.slice r m.seen.length s) (.slice t m.items.length x) (.slice L m.gone.length M) m:=by
  rw[av];exact((a6.setCell ak.x _).setCell (ak.x.set 0 _) _).setCell ((ak.x.set 0 _).set 1 _) _
 exact bodyPost_ret (v:=.agg #[.slice r m.seen.length s,.slice t m.items.length x,.slice L m.gone.length M]) (by simp[results,results179,go_sem,t0,t1,t2]) rfl ⟨⟨_,_,_,rfl,a5⟩,a0⟩
theorem uG(h:di F w v m)(al:∀x∈m.items,x.key.length <= 1000000000)(ak:∀x∈m.gone,x.key.length <= 1000000000):
 Calls aE 182 #[v] w λe V=>e=.returned (.tuple #[if aV m then v else .agg #[.slice none 0 0,.slice none 0 0,.slice none 0 0],.int .i64 (if aV m then 0 else 7)]) /\ Kpt w V:=by
 replace h:=h.mono (G:=λb=>b<w.heap.size) λb _ I=>I
 replace h:=jF h 75
 obtain⟨l,t,n,u,o,y,q,r,s,X,rfl,h,l1,l2,l3,Y,Z,aa,ad,Q,R,Hx,ab,c0,c1,c2⟩:=h
 try rw[Y.x]
 try rw[Z.x]
 try rw[aa.x]
 obtain⟨f,d⟩:=aP (X.alloc (.cells #[.slice none 0 0,.slice none 0 0,.slice none 0 0] 75));have ag:Kpt w f:=by rw[d];exact Q.x.alloc Q.x.size _
 have ar:f.heap.size=w.heap.size+2:=by rw[d];simp[R.x]
 have k1:Blk f w.heap.size [.slice l q t,.slice n r u,.slice o s y] 75:=by rw[d];exact ab.x.alloc _
 have k2:Blk f (w.heap.size+1) [.slice none 0 0,.slice none 0 0,.slice none 0 0] 75:=by
  have:=Blk.new X #[.slice none 0 0,.slice none 0 0,.slice none 0 0] 75;rw[d,<- R.x];exact this
 have an:=Hx.x.keep (w':=f) λb _ I=>by rw[d];exact Below.heap_alloc _ _ _ I
 have O:=ia f _ (.agg #[.slice l q t,.slice n r u,.slice o s y]) m ⟨_,_,_,rfl,an⟩ al ak;obtain⟨ok,ao⟩:=aH (aV m);rw[ao] at O⊢;have P:=ag;have S:=k1;have T:=k2
 go_enter func182,ntmps182
 go_wp2_with fail;rw[<- ad.x,<- d];refine O.mono ?_;rintro e W ⟨rfl,E⟩;have K:=S.keep (E.block _ S.lt);have c:=T.keep (E.block _ T.lt);have d0:=K.cell 0;have d1:=K.cell 1;have d2:=K.cell 2;simp at d0 d1 d2;have y0:=c.cell 0;have y1:=c.cell 1;have y2:=c.cell 2;have z0:=c.free 0;have z1:=c.free 1;have z2:=c.free 2;simp at y0 y1 y2;have ai:Kpt w W:=P.trans (E.mono P.size)
 have U:∀L M N:Value,∃k,k=((W.setCell ⟨w.heap.size+1,0,none⟩ L).setCell ⟨w.heap.size+1,1,none⟩ M).setCell ⟨w.heap.size+1,2,none⟩ N /\ Blk k (w.heap.size+1) [L,M,N] 75 /\ Kpt w k:=λL M N=>
  ⟨_,rfl,set3 _ c rfl,((ai.setCell (p:=⟨w.heap.size+1,0,none⟩) (Nat.le_succ _) _).setCell (p:=⟨w.heap.size+1,1,none⟩) (Nat.le_succ _) _).setCell (p:=⟨w.heap.size+1,2,none⟩) (Nat.le_succ _) _⟩
 cases ok with
 |true=>
  obtain⟨k,J,a,H⟩:=U (.slice l q t) (.slice n r u) (.slice o s y);have B:=a.cell 0;have C:=a.cell 1;have D:=a.cell 2;have z:=H;have A:=J;go_wp2;rw[<- A];have g:=B;have i:=C;have j:=D;simp at g i j;refine bodyPost_ret (v:=.tuple #[.agg #[.slice l q t,.slice n r u,.slice o s y],.int .i64 0]) (by simp[results,results182,go_sem,g,i,j]) rfl ⟨rfl,z⟩
 |false=>
  obtain⟨k,J,a,H⟩:=U (.slice none 0 0) (.slice none 0 0) (.slice none 0 0);have B:=a.cell 0;have C:=a.cell 1;have D:=a.cell 2;have z:=H;have A:=J;go_wp2;rw[<- A];have g:=B;have i:=C;have j:=D;simp at g i j;refine bodyPost_ret (v:=.tuple #[.agg #[.slice none 0 0,.slice none 0 0,.slice none 0 0],.int .i64 7]) (by simp[results,results182,go_sem,g,i,j]) rfl ⟨rfl,z⟩
/- The reference: Use. -/
end
section
attribute [local go_sem ↓] aU
attribute [local go_sem] opC upC told bE bm bF bp bq bG bH
theorem mR{α:Type}(a:α -> RPl)(l:List α)(x:α):(dL a l x).length <= l.length+1:=by
 unfold dL;rw[aA,aD];have c:=List.length_filter_le (λe=>decide (a e≠a x)) (l.dropWhile λe=>decide (plt (a e) (a x)));have b:=congrArg List.length (List.takeWhile_append_dropWhile (p:=λe=>decide (plt (a e) (a x))) (l:=l));rw[aA] at b;omega
def gF(d b:Int)(a:bQ)(v:Int)(x:RIt):Int:=if x.pl=(a,d) then ko x.val (b-x.seq) else v
def iD(l:List RIt)(d b:Int)(a:bQ)(j:Nat):Int:=(l.take j).foldl (gF d b a) 65536
theorem BU(l:List RIt)(d b:Int)(a:bQ)(j:Nat)(h:j<l.length):iD l d b a (j+1)=gF d b a (iD l d b a j) l[j]:=by
 unfold iD;rw[List.take_succ_eq_append_getElem h,List.foldl_append];rfl
theorem uH(d b:Int)(a:bQ):∀(l:List RIt)(v:Int),(∀x∈l,x.pl≠(a,d)) -> l.foldl (gF d b a) v=v
 |[],v,_=>rfl
 |x::l,v,h=>by
  rw[List.foldl_cons,gF,if_neg (h x List.mem_cons_self)];exact uH d b a l v λy c=>h y (List.mem_cons_of_mem _ c)
theorem yl(d c:Int)(b:bQ):∀(l:List RIt)(v:Int),Asc RIt.pl l -> l.foldl (gF d c b) v=match df RIt.pl l (b,d) with|some o=>ko o.val (c-o.seq)|none=>v
 |[],v,_=>rfl
 |x::l,v,h=>by
  rw[List.foldl_cons,cF]
  by_cases a:x.pl=(b,d)
  ·rw[if_pos a,uH d c b l _ (λy f e=>jd ((List.pairwise_cons.1 h).1 y f) (a.trans e.symm)),gF,if_pos a]
  ·rw[if_neg a,gF,if_neg a];exact yl d c b l v (List.pairwise_cons.1 h).2
theorem Dt(d:Int)(a:bQ)(h:Asc RIt.pl m.items):(⟨a,d,je m d,iD m.items d (je m d) a m.items.length⟩:RIt)=dJ m d a:=by
 unfold iD dJ;rw[List.take_length,yl d _ a _ _ h];cases df RIt.pl m.items (a,d)<;>rfl
def Fh(w:World)(a:aT×Int)(e:Ending)(c:World):Prop:=∃r,e=.returned (.tuple #[r,.int .i64 a.2]) /\ di (λb=>w.heap.size <= b) c r a.1 /\ Kpt w c
def Gg(w:World)(d:Nat)(v:Value)(m:aT):Prop:=∃a b c,v=.agg #[a,b,c] /\ dC w d a b c m /\ Bnd m
theorem iN:Gg w n (.agg #[.slice none 0 0,.slice none 0 0,.slice none 0 0]) .empty:=⟨_,_,_,rfl,⟨World.ownsRow_nil _ _ _ _,World.ownsRow_nil _ _ _ _,World.ownsRow_nil _ _ _ _⟩,nofun,nofun,nofun⟩
def vS(w:World)(a:aT×Int)(e:Ending)(b:World):Prop:=∃r,e=.returned (.tuple #[r,.int .i64 a.2]) /\ Gg b w.heap.size r a.1 /\ Kpt w b
theorem vS.post{a:aT×Int}{e:Ending}(h:vS W a e w'):Fh W a e w':=by
 obtain⟨r,b,⟨g,i,j,rfl,c,d⟩,f⟩:=h;exact⟨_,b,⟨_,_,_,rfl,c.map d⟩,f⟩
def Du(f:Nat)(b:aT -> Int -> List bQ -> aT×Int):Prop:=
 ∀(w:World)(F:aQ)(v:Value)(m:aT)(h:di F w v m)(g:∀x∈m.items,x.key.length <= 1000000000)(e:∀x∈m.gone,x.key.length <= 1000000000)
  (d:Int) (G:aQ) (a:Value) (l:List bQ) (j:Rows G w 1 a l.length (l.map eS)) (i:l.length <= 100000) (c:∀k∈l,k.length <= 1000000000),
  Calls aE f #[v,.int .i64 d,a] w (vS w (b m d l))
end
end Go.Proofs.YtobjdpngnfbicaaGreatDoor
namespace Go.Proofs
open Go.Shelf
def Tryz.laysBSearch_ren:Go.Shelf.Ren:=⟨λ| 26=>110|33=>169|34=>170|38=>209|n=>n,λ| 24=>32|9=>9|3=>3|4=>4|40=>199|0=>0|n=>n,λ| n=>n⟩
theorem Tryz.laysBSearch:Go.Proofs.Lays2.n26 aE Tryz.laysBSearch_ren:={
 mixed:=by kernel_rfl
 f26:=func110.trans (congrArg some (by kernel_rfl))
 f33:=func169.trans (congrArg some (by kernel_rfl))
 f34:=func170.trans (congrArg some (by kernel_rfl))
 f38:=func209.trans (congrArg some (by kernel_rfl))
 t0:=underlying0
 a0:=Tryz.isAgg0
 z0:=Tryz.sizeOf0
 v0:=Tryz.zeroValue0
 t3:=underlying3
 a3:=Tryz.isAgg3
 z3:=Tryz.sizeOf3
 v3:=Tryz.zeroValue3
 t4:=underlying4
 a4:=Tryz.isAgg4
 z4:=Tryz.sizeOf4
 v4:=Tryz.zeroValue4
 t9:=underlying9
 a9:=Tryz.isAgg9
 z9:=Tryz.sizeOf9
 v9:=Tryz.zeroValue9
 t24:=underlying32
 a24:=Tryz.isAgg32
 z24:=Tryz.sizeOf32
 v24:=Tryz.zeroValue32
 t40:=underlying199
 a40:=Tryz.isAgg199
 z40:=Tryz.sizeOf199
 v40:=Tryz.zeroValue199 }
end Go.Proofs
namespace Go.Proofs.YtobjdpngnfbicaaGreatDoor
open Go.RowKit
open Go.Proofs.Tryz
variable(w:World)(F:aQ)(n:Nat)(v:Value)(m:aT){W w':World}{u:Value}{i j o:Nat}{L:List Value}{r:aT}{t:TypeId}
section
attribute [local go_sem ↓] aU
theorem sI(e:bQ):∀l:List bQ,(l.Pairwise λa b=>a<b) -> ∃d,d <= l.length /\ (∀t (h:t<l.length),t<d -> l[t]<e) /\ ∀t (h:t<l.length),d <= t -> ¬l[t]<e
 |[],_=>⟨0,aq _,λt h=>by simp at h,λt h=>by simp at h⟩
 |x::l,k=>by
  obtain⟨m,j⟩:=List.pairwise_cons.1 k
  by_cases h:x<e
  ·obtain⟨d,n,g,i⟩:=sI e l j;refine⟨d+1,by simp;omega,λt c f=>?_,λt c f=>?_⟩
   ·cases t with
    |zero=>exact h
    |succ t=>exact g t (by simpa using c) (by omega)
   ·cases t with
    |zero=>omega
    |succ t=>exact i t (by simpa using c) (by omega)
  ·refine⟨0,Nat.zero_le _,λt c f=>by omega,λt c _=>?_⟩;cases t with
   |zero=>exact h
   |succ t=>exact λhh=>h (List.lt_trans (m _ (aC (by simpa using c))) hh)
theorem vT(l:List bQ)(c:bQ)(x:Rows F w 1 v l.length (l.map eS))(G:l.length <= 1000000)(u:l.Pairwise λa b=>a<b):
 Calls aE 110 #[v,.string ⟨c.toArray⟩] w λe m=>(∃i:Nat,e=.returned (.tuple #[.int .i64 i,.bool (decide (c∈l))])) /\ ∃q,m=w.drewN q:=by
 obtain⟨a,n,rfl,-⟩:=x.shape
 by_cases y:l.length=0
 ·obtain rfl:=List.length_eq_zero_iff.1 y;refine(Any2.slices_BinarySearch_string_empty Tryz.laysBSearch a n ⟨c.toArray⟩ w).mono ?_;rintro e m ⟨rfl,rfl⟩;exact⟨⟨0,by simp⟩,0,rfl⟩
 ·obtain⟨b,E,rfl,-,-,z⟩:=fE x (by omega);obtain⟨f,C,o,p⟩:=sI c l u
  have s:∀t,Op.bytesLess ((⟨(l.getD t c).toArray⟩:ByteArray)).toList ((⟨c.toArray⟩:ByteArray)).toList=decide (l.getD t c<c):=λt=>by
   rw[Go.Proofs.bytesLess_eq];simp
  have B:=Lib.bsGo_spec (λt=>Op.bytesLess ((⟨(l.getD t c).toArray⟩:ByteArray)).toList ((⟨c.toArray⟩:ByteArray)).toList) f (λt d=>by
   rw[s,List.getD_eq_getElem?_getD,List.getElem?_eq_getElem (by omega)]
   simpa using o t (by omega) d) (λt d=>by
   rw[s,List.getD_eq_getElem?_getD]
   by_cases g:t<l.length
   ·rw[List.getElem?_eq_getElem g];simpa using p t g d
   ·rw[List.getElem?_eq_none (by omega)]
    simp[List.lt_irrefl]) l.length 0 l.length (by omega) (Nat.zero_le _) C
  refine(Any2.slices_BinarySearch_string Tryz.laysBSearch b E l.length n (λt=>⟨(l.getD t c).toArray⟩) ⟨c.toArray⟩ w (by omega) (λj r=>by
   rw[z j r,List.getD_eq_getElem?_getD,List.getElem?_eq_getElem r];rfl)).mono ?_
  rintro e m ⟨rfl,q,rfl⟩;rw[B];refine⟨⟨f,?_⟩,q,rfl⟩
  have A:decide (f<l.length /\ (⟨(l.getD f c).toArray⟩:ByteArray)=⟨c.toArray⟩)=decide (c∈l):=by
   rw[Bool.eq_iff_iff,decide_eq_true_iff,decide_eq_true_iff];constructor
   ·rintro⟨g,k⟩;rw[List.getD_eq_getElem?_getD,List.getElem?_eq_getElem g] at k;simp at k;rw[<- k];exact aC g
   ·intro D;obtain⟨t,d,rfl⟩:=List.mem_iff_getElem.1 D
    have:t=f:=by
     rcases Nat.lt_trichotomy t f with h|h|h
     ·exact absurd (o t d h) (List.lt_irrefl _)
     ·exact h
     ·exact absurd (List.pairwise_iff_getElem.1 u f t (by omega) d h) (p f (by omega) (aq _))
    subst this;refine⟨d,?_⟩;rw[List.getD_eq_getElem?_getD,List.getElem?_eq_getElem d];rfl
  rw[A]
structure jo(B:Nat)(w w':World):Prop where
 bel:Below B w w'
 blk:∀b L t,Blk w b L t -> t≠111 -> t≠35 -> Blk w' b L t
theorem jo.own(h:jo i W w'){k n:Nat}(b:W.ownsRow j t k u n L)(f:t≠111)(l:t≠35):w'.ownsRow j t k u n L:=by
 refine⟨b.1,?_⟩;rcases b.2 with d|⟨g,c,a,q,m,o,p⟩
 ·exact .inl d
 ·refine .inr ⟨g,c,a,q,m,?_,p⟩;have:=h.blk g a.toList t o f l;unfold Blk at this;simpa using this
theorem jo.trans{B:Nat}{a b c:World}(h:jo B a b)(k:jo B b c):jo B a c:=⟨h.bel.trans k.bel,λx L t f d e=>k.blk x L t (h.blk x L t f d e) d e⟩
structure jP(B bl bg:Nat)(w:World)(l:List bQ)(gs:List RGo):Prop where
 var:∃sv,Blk w bl [sv] 32 /\ w.ownsRow 0 9 1 sv l.length (l.map eS)
 gone:∃gv,Blk w bg [gv] 35 /\ w.ownsRow B 111 3 gv gs.length (gs.flatMap du)
theorem ym(B o f:Nat)(l:List bQ)(c:List RGo)(x:RIt)(h:jP B o f w l c)(hl:l.length <= 1000000)(hs:l.Pairwise λa b=>a<b)(hg:c.length <= 1000000)(K:B <= w.heap.size)(ao:B <= f):
 Calls aE 109 #[itV x,.pointer (some ⟨o,0,none⟩),.pointer (some ⟨f,0,none⟩)] w λe w'=>e=.returned (.bool (decide (x.key∈l))) /\ jP B o f w' l (if x.key∈l then c++[dN x] else c) /\ jo B w w':=by
 obtain⟨⟨sv,C,D⟩,⟨gv,ag,j⟩⟩:=h;obtain⟨sa,sc,rfl⟩:=aJ D;obtain⟨I,J,rfl⟩:=aJ j;obtain⟨v,s⟩:=aP (w.alloc (.cells #[.string ⟨x.key.toArray⟩,.int .i64 x.dev,.int .i64 x.seq,.int .i64 x.val] 108));have z:Kpt w v:=by rw[s];exact aI _ _
 have O:Blk v w.heap.size [.string ⟨x.key.toArray⟩,.int .i64 x.dev,.int .i64 x.seq,.int .i64 x.val] 108:=by rw[s];exact Blk.new _ _ _
 have V:=vT v _ (.slice sa l.length sc) l x.key (Rows.of_owns (br D z)) hl hs;have Z:v.cell? ⟨o,0,none⟩=some (.slice sa l.length sc):=by simpa using(C.keep (z.block _ C.lt)).cell 0
 obtain⟨R,S,T,U⟩:=dH O;have al:=ae s;have ai:=z;have H:=C;have⟨W,y,X,Kx⟩:=ae4 D ag j O;rw[s] at Z R S T U;clear s z C D ag j O;unfold itV
 go_enter func109,ntmps109
 go_wp2_with fail;rw[<- al.x];refine V.mono ?_;rintro e d ⟨⟨i,rfl⟩,q,rfl⟩;obtain⟨d,F⟩:=aP (v.drewN q);rw[<- F];have g:Kpt w d:=by rw[F];exact cN ai _
 have u:Blk d w.heap.size [.string ⟨x.key.toArray⟩,.int .i64 x.dev,.int .i64 x.seq,.int .i64 x.val] 108:=by rw[F];exact Kx.x.drewN _
 have az:w.heap.size<d.heap.size:=u.lt;have⟨k,ax⟩:=ae2 g u;clear F V Z R S T U
 by_cases hm:x.key∈l
 ·have r:decide (x.key∈l)=true:=decide_eq_true hm;rw[r];obtain⟨R,S,T,U⟩:=dH u;have j:=br X.x g;have N:=y.x.keep (g.block _ y.x.lt);have g0:d.cell? ⟨f,0,none⟩=some (.slice I c.length J):=by simpa using N.cell 0
  obtain⟨i0,t1,t2,t3,t4⟩:=info_parts mI;have aa:B <= d.heap.size:=au K g.size;obtain⟨v5,Q,ay,M,A⟩:=cu (P:=aE) d B 35 111 underlying35 t1 t2 t3 t4 rfl (by decide) (.slice I c.length J) c.length _ j #[.string ⟨x.key.toArray⟩,.int .i64 x.dev,.int .i64 x.seq] rfl (by simp[Value.oneCell']) (by unfold maxLen;omega) (by omega) aa;obtain⟨Y,c5,rfl⟩:=aJ M;have E:=br j (aI d (.cells #[.string ⟨x.key.toArray⟩,.int .i64 x.dev,.int .i64 x.seq] 111));have n:=(N.alloc (.cells #[.string ⟨x.key.toArray⟩,.int .i64 x.dev,.int .i64 x.seq] 111)).grownNe E (by decide) A;have g5:Q.cell? ⟨f,0,none⟩=some (.slice I c.length J):=by simpa using n.cell 0
  have f5:=n.free 0;obtain⟨w6,m⟩:=aP (Q.setCell ⟨f,0,none⟩ (.slice Y (c.length+1) c5));have ad:Below B w Q:=(g.mono K).trans (((Below.refl B d).alloc aa _).trans (Below.grownOwn E A (by simp;omega) (aq _)))
  have G:=ae (show jo B w w6 from⟨by rw[m];exact ad.setCell ao _,λb L t p ar av=>by
   have ab:=((p.keep (g.block b p.lt)).alloc (.cells #[.string ⟨x.key.toArray⟩,.int .i64 x.dev,.int .i64 x.seq] 111)).grownNe E (Ne.symm ar) A;rw[m]
   exact ab.set_other _ (ab.ne n av)⟩)
  have ak:=ae (show jP B o f w6 l (c++[dN x]) from⟨⟨_,G.x.blk _ _ _ H (by decide) (by decide),G.x.own W.x (by decide) (by decide)⟩,⟨.slice Y (c.length+1) c5,by rw[m];exact n.set 0 _,by
   rw[m,aA,gl]
   exact aL M n (by decide) _⟩⟩)
  have an:=ae m;clear r j N M A E n ad m g u t1 t2 t3 t4;go_wp2;rw[<- an.x]
  go_ret
  exact⟨rfl,ak.x,G.x⟩
 ·have r:decide (x.key∈l)=false:=decide_eq_false hm;rw[r];clear r g u;go_wp2
  go_ret
  exact⟨rfl,⟨⟨_,H.keep (k.x.block _ H.lt),br W.x k.x⟩,⟨_,y.x.keep (k.x.block _ y.x.lt),br X.x k.x⟩⟩,k.x.mono K,λb L t p _ _=>p.keep (k.x.block b p.lt)⟩
end
structure e8(B:Nat)(w w':World):Prop where
 bel:Below B w w'
 same:∀b,b<w.heap.size -> (∀L,¬Blk w b L 108) -> w'.heap[b]?=w.heap[b]?
theorem e8.blk(h:e8 i W w')(b:Nat)(L:List Value)(t:TypeId)(a:Blk W b L t)(d:t≠108):Blk w' b L t:=a.keep (h.same b a.lt λM c=>d (a.inj c).2)
theorem e8.refl(B:Nat)(w:World):e8 B w w:=⟨Below.refl _ _,λ_ _ _=>rfl⟩
theorem e8.trans{B:Nat}{a b c:World}(h:e8 B a b)(k:e8 B b c):e8 B a c:=
 ⟨h.bel.trans k.bel,λx e d=>(k.same x (aw e h.bel.size) λL f=>d L ((h.same x e d).symm.trans f)).trans (h.same x e d)⟩
theorem e8.alloc{B:Nat}{w:World}(a:B <= w.heap.size)(o:Obj):e8 B w (w.alloc o):=⟨(Below.refl B w).alloc a o,λb c _=>Below.heap_alloc _ _ _ c⟩
theorem e8.set(c:Blk W j L 108)(a:i <= j)(u:Value):e8 i W (W.setCell ⟨j,o,none⟩ u):=
 ⟨(Below.refl i W).setCell a u,λb f d=>Below.heap_setCell _ _ _ _ λe=>d L (by rw[e];exact c)⟩
structure fB(B B2:Nat)(w w':World):Prop where
 bel:Below B w w'
 blk:∀b L t,Blk w b L t -> t≠111 -> t≠35 -> t≠108 -> Blk w' b L t
 low:∀b,b<B2 -> b<w.heap.size -> (∀L,¬Blk w b L 108) -> w'.heap[b]?=w.heap[b]?
theorem fB.refl(B a:Nat)(w:World):fB B a w w:=⟨Below.refl _ _,λ_ _ _ h _ _ _=>h,λ_ _ _ _=>rfl⟩
theorem fB.trans{B e:Nat}{a b c:World}(h:fB B e a b)(k:fB B e b c):fB B e a c:=
 ⟨h.bel.trans k.bel,λx L t d i j l=>k.blk x L t (h.blk x L t d i j l) i j l,λx d g f=>(k.low x d (aw g h.bel.size) λL m=>f L ((h.low x d g f).symm.trans m)).trans (h.low x d g f)⟩
theorem jo.gi(h:jo j W w')(d:i <= j):fB i j W w':=⟨h.bel.mono d,λx L t a b c _=>h.blk x L t a b c,λx a _ _=>h.bel.block x a⟩
theorem e8.gi(h:e8 i W w'):fB i j W w':=⟨h.bel,λx L t c _ _ a=>h.blk x L t c a,λx _ d b=>h.same x d b⟩
theorem fB.own(h:fB i j W w'){k n:Nat}(b:W.ownsRow o t k u n L)(f:t≠111)(l:t≠35)(m:t≠108):w'.ownsRow o t k u n L:=by
 refine⟨b.1,?_⟩;rcases b.2 with d|⟨g,c,a,s,p,q,r⟩
 ·exact .inl d
 ·refine .inr ⟨g,c,a,s,p,?_,r⟩;have:=h.blk g a.toList t q f l m;unfold Blk at this;simpa using this
theorem fB.ownLow(h:fB i j W w'){k n:Nat}{l:List Value}(d:W.ownsRow o t k u n l)(x:∀b,u.ownBlock=some b -> b<j)(r:t≠108):w'.ownsRow o t k u n l:=by
 refine⟨d.1,?_⟩;rcases d.2 with q|⟨g,m,p,f,s,c,y⟩
 ·exact .inl q
 ·refine .inr ⟨g,m,p,f,s,?_,y⟩;rw[h.low g (x g (by rw[f];rfl)) (lt_of_block c) λL a=>?_]
  ·exact c
  ·unfold Blk at a;rw[c] at a;simp at a;exact r a.2
theorem uI(x:RIt)(b:List Value):∀(a:List RIt)(i:Nat),i<a.length ->
 ((((a.flatMap bT++b).set (i*4) (.string ⟨x.key.toArray⟩)).set (i*4+1) (.int .i64 x.dev)).set (i*4+2) (.int .i64 x.seq)).set (i*4+3) (.int .i64 x.val)=(a.set i x).flatMap bT++b
 |[],i,h=>by simp at h
 |y::a,0,_=>rfl
 |y::a,i+1,h=>by
  have:=uI x b a i (by simpa using h);rw[List.set_cons_succ,List.flatMap_cons,List.flatMap_cons,aB,aB,<- this]
  have e:∀(M:List Value)(j:Nat)(u:Value),(bT y++M).set ((i+1)*4+j) u=bT y++M.set (i*4+j) u:=λM j u=>by
   rw[List.set_append_right _ _ (by show 4 <= _;omega)]
   congr 2
   show(i+1)*4+j-4=_;omega
  have c:∀(M:List Value)(u:Value),(bT y++M).set ((i+1)*4) u=bT y++M.set (i*4) u:=λM u=>e M 0 u
  rw[c,e,e,e]
def EO(a:RIt -> Bool)(l:List RIt)(b:List RIt -> World -> Prop)(e:Ending)(c:World):Prop:=
 (∃k x,l[k]?=some x /\ e=.returned (.int .i64 ((k:Nat):Int)) /\ a x=true /\ (∀y∈l.take k,a y=false) /\ b (l.take (k+1)) c) \/ (e=.returned (.int .i64 (-1)) /\ (∀x∈l,a x=false) /\ b l c)
theorem Dv(b:RIt -> Bool)(l:List RIt)(k:Nat)(h:∀j (h:j<l.length),j<k -> b l[j]=false):∀y∈l.take k,b y=false:=λy c=>by
 obtain⟨j,a,rfl⟩:=List.getElem_of_mem c;rw[List.getElem_take];exact h j (by simp at a;omega) (by simp at a;omega)
theorem sJ{b:Array Value}:
 Calls aE 108 #[.slice none 0 0,.func (.func j) #[] b] w λe a=>e=.returned (.slice none 0 0) /\ a=w:=by
 have c:Calls aE 168 #[.slice none 0 0,.func (.func j) #[] b] w λe a=>e=.returned (.int .i64 (-1)) /\ a=w:=by
  go_enter func168,ntmps168
  go_wp2
  go_loop [8] (λi=>i=.int .i64 0) (λ_=>0)
  ·rfl
  ·subst hrel;go_wp2
   go_ret
   exact⟨rfl,rfl⟩
 go_enter func108,ntmps108
 go_wp2_with fail;refine c.mono ?_;rintro e d ⟨rfl,rfl⟩;go_wp2
 go_ret
 exact⟨rfl,rfl⟩
theorem EP{H:Array Value}(ab:∀a d,(callFunc o a).run aE d=.ok (.enter o a) d)(f:List RIt -> World -> Prop)(p:RIt -> Bool)(B:Nat)
 (Y:∀z x w,f z w -> B <= w.heap.size -> z.length <= 1000000 -> Calls aE o (#[itV x]++H) w λe d=>e=.returned (.bool (p x)) /\ f (z++[x]) d /\ jo B w d)
 (w:World) (g O:Nat) (l:List RIt) (aa:List Value) (R:Blk w g (l.flatMap bT++aa) 108) (X:l.length <= 1000000) (Q:B <= w.heap.size) (P:f [] w):
 Calls aE 168 #[.slice (some ⟨g,0,none⟩) l.length O,.func (.func o) #[] H] w λe d=>EO p l f e d /\ jo B w d:=by
 obtain⟨n,J⟩:=aH l.length;have s:=J;have M:=R;have L:=Y;rw[J] at X⊢
 go_enter func168,ntmps168
 go_wp2
 go_loopw [8] (λi wr=>∃k:Nat,k <= n /\ i=.int .i64 (k:Int) /\ (∀j (h:j<l.length),j<k -> p l[j]=false) /\ f (l.take k) wr /\ jo B w wr) (λi _=>n-(intOf i).toNat)
 ·exact⟨0,by omega,rfl,λj _ c=>by omega,P,⟨Below.refl _ _,λ_ _ _ h _ _=>h⟩⟩
 ·obtain⟨k,hk,rfl,u,Z,U⟩:=hrel;have F:=Z;have r:=U
  by_cases W:k<n
  ·have T:(k:Int)<(n:Int):=by omega
   have v:k<l.length:=by rw[s];exact W
   have I:=r.blk _ _ _ M (by decide) (by decide);obtain⟨x,m⟩:=aH l[k]
   have q:∀j,j<4 -> wr.cell? ⟨g,k*4+j,none⟩=(bT x)[j]?:=λj c=>by
    rw[I.cell,List.getElem?_append_left (by rw[dG bT 4 cY];omega),fD bT 4 cY l k j v c,m]
   have x0:wr.cell? ⟨g,k*4,none⟩=some (.string ⟨x.key.toArray⟩):=q 0 (by omega);have x1:wr.cell? ⟨g,k*4+1,none⟩=some (.int .i64 x.dev):=q 1 (by omega);have x2:wr.cell? ⟨g,k*4+2,none⟩=some (.int .i64 x.seq):=q 2 (by omega);have x3:wr.cell? ⟨g,k*4+3,none⟩=some (.int .i64 x.val):=q 3 (by omega);have t:=L (l.take k) x wr F (au Q r.bel.size) (by simp;omega);unfold itV at t;have⟨A,N,G⟩:=ae3 t (show l.take k++[x]=l.take (k+1) by rw[List.take_succ_eq_append_getElem v,m]) m;generalize K:p x=b at A;clear t I q m;have E:=ae K;clear K;go_wp2_with fail;refine A.x.mono ?_;rintro e w2 ⟨rfl,y,V⟩;rw[N.x] at y;have D:=r.trans V;cases b with
   |true=>
    go_wp2
    go_ret
    exact⟨.inl ⟨k,x,by rw[List.getElem?_eq_getElem v,G.x],rfl,E.x,Dv p l k u,y⟩,D⟩
   |false=>
    go_wp2
    go_roundw
    ·exact⟨k+1,by omega,by go_num,λj c S=>by
     rcases Nat.lt_succ_iff_lt_or_eq.1 S with h|h
     ·exact u j c h
     ·subst h;rw[G.x];exact E.x,y,D⟩
    ·simp[intOf];omega
  ·have T:¬(k:Int)<(n:Int):=by omega
   obtain rfl:k=n:=by omega
   have C:(∀x∈l,p x=false) /\ f l wr:=⟨λx m=>by
    obtain⟨j,c,rfl⟩:=List.getElem_of_mem m;exact u j c (by rw[s] at c;exact c),by
    have:=F;rw[<- s,List.take_length] at this
    exact this⟩
   go_wp2
   go_ret
   exact⟨.inr ⟨rfl,C.1,C.2⟩,r⟩
theorem pi{B g:Nat}(c:B <= g):∀(b:List Value)(o:Nat)(w:World)(L:List Value),Blk w g L 108 -> ∃a,Blk (w.setCells g o b) g a 108 /\ a.length=L.length /\ (∀p,p <= o -> a.take p=L.take p) /\ e8 B w (w.setCells g o b)
 |[],o,w,L,h=>⟨L,h,rfl,λ_ _=>rfl,e8.refl _ _⟩
 |v::b,o,w,L,h=>by
  obtain⟨a,d,e,f,i⟩:=pi c b (o+1) (w.setCell ⟨g,o,none⟩ v) (L.set o v) (h.set o v);refine⟨a,d,by simpa using e,λp j=>?_,(e8.set h c v).trans i⟩;rw[f p (by omega),List.take_set_of_le j]
theorem lP(z:TypeId)(g o n c:Nat)(L:List Value)(h:Blk w g L 108)(u:i <= g)(C:o+n*4 <= L.length):
 ∃l a,(Builtin.clear_ #[34] z #[.slice (some ⟨g,o,none⟩) n c]).run aE w=.ok (.tuple #[]) l /\ Blk l g a 108 /\ a.length=L.length /\ (∀p,p <= o \/ n=0 -> a.take p=L.take p) /\ e8 i w l:=by
 cases n with
 |zero=>
  refine⟨w,L,?_,h,rfl,λ_ _=>rfl,e8.refl _ _⟩;simp[Builtin.clear_,run_underlying underlying34]
 |succ m=>
  obtain⟨b,f⟩:=aH ((Builtin.zeroCells (Value.agg #[.string ⟨#[]⟩,.int .i64 0,.int .i64 0,.int .i64 0]).cells (m+1)).toList);have E:b.length=(m+1)*4:=by rw[<- f];simp[Builtin.zeroCells,Value.cells]
  have x:∀v∈b,v.oneCell'=true:=by
   intro v d;rw[<- f] at d;simp only[Builtin.zeroCells,Value.cells,Array.toList_map,List.mem_map] at d;obtain⟨k,-,rfl⟩:=d;have:k%4=0 \/ k%4=1 \/ k%4=2 \/ k%4=3:=by omega
   rcases this with e|e|e|e<;>simp[e,Value.oneCell']
  have y:=run_storeCells_cells (P:=aE) g o b 0 w (λj A=>by
   rw[Nat.add_zero,h.cell,List.getElem?_eq_getElem (by omega)];rfl) (λj _=>h.free _) x
  obtain⟨a,q,r,s,t⟩:=pi u b (o+0) w L h;exact⟨_,a,by simp[Builtin.clear_,run_underlying underlying34,f,y],q,r,λp D=>s p (by omega),t⟩
theorem oo:∀(a:List RIt)(i:Nat),(a.flatMap bT).take (i*4)=(a.take i).flatMap bT
 |[],i=>by simp
 |y::a,0=>rfl
 |y::a,i+1=>by
  rw[List.take_succ_cons,List.flatMap_cons,List.flatMap_cons,<- oo a i,show(i+1)*4=(bT y).length+i*4 from by rw[cY];omega,List.take_length_add_append]
theorem pj{α:Type}(p:α -> Bool)(l:List α)(k:Nat)(h:k<l.length):(l.take (k+1)).filter p=(l.take k).filter p++(if p l[k] then[l[k]] else[]):=by
 rw[List.take_succ_eq_append_getElem h,List.filter_append]
 congr 1
 by_cases a:p l[k]=true
 ·rw[if_pos a,List.filter_cons,if_pos a];rfl
 ·rw[if_neg a,List.filter_cons,if_neg a];rfl
structure AY(St:List RIt -> World -> Prop)(pd:RIt -> Bool)(B B2 g:Nat)(w wr:World)(l:List RIt)(rest:List Value)(cl:List RIt)(i j:Nat):Prop where
 blk:Blk wr g (cl.flatMap bT++rest) 108
 len:cl.length=l.length
 drop:cl.drop j=l.drop j
 take:cl.take i=(l.take j).filter λx=>!pd x
 ile:i <= j
 ilen:i=((l.take j).filter λx=>!pd x).length
 st:St (l.take j) wr
 keep:fB B B2 w wr
def vU(g:Nat)(m:Nat)(b:List RIt)(c:World):Prop:=∃a,Blk c g a 108 /\ a.length=m /\ a.take (b.length*4)=b.flatMap bT
theorem AZ{cp:Array Value}(aT:∀a w',(callFunc o a).run aE w'=.ok (.enter o a) w')(p:List RIt -> World -> Prop)(f:RIt -> Bool)(B h:Nat)(V:B <= h)
 (aJ:∀J x w,p J w -> h <= w.heap.size -> J.length <= 1000000 -> Calls aE o (#[itV x]++cp) w λe w'=>e=.returned (.bool (f x)) /\ p (J++[x]) w' /\ jo h w w')
 (aY:∀J w w',p J w -> e8 B w w' -> p J w')
 (w:World) (g F m:Nat) (l:List RIt) (s:List Value) (hg:Blk w g (l.flatMap bT++s) 108) (hm:(l.flatMap bT++s).length=m) (H:B <= g) (hl:l.length <= 1000000) (aS:l.length <= F) (an:h <= w.heap.size) (h0:p [] w):
 Calls aE 108 #[.slice (some ⟨g,0,none⟩) l.length F,.func (.func o) #[] cp] w λe w'=>
  (e=.returned (.slice (some ⟨g,0,none⟩) (l.filter λx=>!f x).length F) /\ vU g m (l.filter λx=>!f x) w' /\ p l w') /\ fB B h w w':=by
 have HI:=EP aT p f h aJ w g F l s hg hl an h0;obtain⟨n,hn⟩:=aH l.length;have K:=hn;have Hg:=hg;have HR:=aJ;have S:=aY;have Hm:=hm;rw[hn] at hl aS HI⊢
 go_enter func108,ntmps108
 go_wp2_with fail;refine HI.mono ?_;rintro e w1 ⟨a1,aZ⟩;have U:=aZ;rcases a1 with⟨k,x,aG,rfl,a2,ad,D⟩|⟨rfl,ad,D⟩
 ·have aF:k<l.length:=(List.getElem?_eq_some_iff.1 aG).1;have a0:l[k]=x:=(List.getElem?_eq_some_iff.1 aG).2;have aU:(l.take k).filter (λx=>!f x)=l.take k:=List.filter_eq_self.2 λy hy=>by rw[ad y hy];rfl
  have av:(l.take (k+1)).filter (λx=>!f x)=l.take k:=by rw[pj _ l k aF,aU,a0,a2];simp
  have a6:k<n:=by rw[<- K];exact aF
  have H0:AY p f B h g w w1 l s l k (k+1):=⟨U.blk _ _ _ Hg (by decide) (by decide),rfl,rfl,av.symm,by omega,by rw[av];simp;omega,D,(U.gi V)⟩
  have a4:((k:Int) == -1)=false:=by simp
  have a5:¬(k:Int) = -1:=by omega
  go_wp2
  go_loopw [5,6] (λsi sj wr=>∃i j d,j <= n /\ si=.int .i64 ((i:Nat):Int) /\ sj=.int .i64 ((j:Nat):Int) /\ AY p f B h g w wr l s d i j) (λ_ sj _=>n-(intOf sj).toNat)
  ·exact⟨k,k+1,l,by omega,rfl,by go_num,H0⟩
  ·obtain⟨i,j,d,hj,rfl,rfl,st⟩:=hrel;have c:=st
   by_cases aX:j<n
   ·have aW:(j:Int)<(n:Int):=by omega
    have Y:j<l.length:=by rw[K];exact aX
    have az:j<d.length:=by rw[c.len];exact Y
    obtain⟨x,hx⟩:=aH l[j]
    have ar:d[j]=x:=by
     have h1:=congrArg (λz:List RIt=>z[0]?) c.drop;simp only[List.getElem?_drop,Nat.add_zero,List.getElem?_eq_getElem az,List.getElem?_eq_getElem Y] at h1;rw[<- hx];exact Option.some.inj h1
    have M:∀q,q<4 -> wr.cell? ⟨g,j*4+q,none⟩=(bT x)[q]?:=λq hq=>by
     rw[c.blk.cell,List.getElem?_append_left (by rw[dG bT 4 cY];omega),fD bT 4 cY d j q az hq,ar]
    have x0:wr.cell? ⟨g,j*4,none⟩=some (.string ⟨x.key.toArray⟩):=M 0 (by omega);have x1:wr.cell? ⟨g,j*4+1,none⟩=some (.int .i64 x.dev):=M 1 (by omega);have x2:wr.cell? ⟨g,j*4+2,none⟩=some (.int .i64 x.seq):=M 2 (by omega);have x3:wr.cell? ⟨g,j*4+3,none⟩=some (.int .i64 x.val):=M 3 (by omega);obtain⟨wX,I⟩:=aP (wr.alloc (.cells #[.string ⟨x.key.toArray⟩,.int .i64 x.dev,.int .i64 x.seq,.int .i64 x.val] 108));have ao:h <= wr.heap.size:=au an c.keep.bel.size;have aR:B <= wr.heap.size:=au V ao;have ab:e8 B wr wX:=by rw[I];exact e8.alloc aR _
    have kX:Blk wX wr.heap.size [.string ⟨x.key.toArray⟩,.int .i64 x.dev,.int .i64 x.seq,.int .i64 x.val] 108:=by rw[I];exact Blk.new _ _ _
    have kg:Blk wX g (d.flatMap bT++s) 108:=by rw[I];exact c.blk.alloc _
    have W:=HR (l.take j) x wX (S _ _ _ c.st ab) (au ao ab.bel.size) (by simp;omega);unfold itV at W;have aM:l.take j++[x]=l.take (j+1):=by rw[List.take_succ_eq_append_getElem Y,hx]
    generalize aI:f x=b at W;have HC:=W;have aK:=aI;have aO:=I;have aQ:=ae ab;have KX:=kX;have Kg:=kg;have Hx:=hx;obtain⟨q0,q1,q2,q3⟩:=dH kX;rw[I] at q0 q1 q2 q3;clear W aI I ab kX kg M hx ar;go_wp2_with fail;rw[<- aO];refine HC.mono ?_;rintro e u ⟨rfl,Q,O⟩;rw[aM] at Q;have ak:=O.blk _ _ _ KX (by decide) (by decide);have r:=O.blk _ _ _ Kg (by decide) (by decide);have Z:fB B h w u:=c.keep.trans (aQ.x.gi.trans (O.gi V));have aV:=c.ile
    have X:d.drop (j+1)=l.drop (j+1):=by
     have:=congrArg (List.drop 1) c.drop;simpa[List.drop_drop,Nat.add_comm] using this
    have N:=pj (λx=>!f x) l j Y;rw[Hx,aK] at N;cases b with
    |true=>
     have t:=ae (show AY p f B h g w u l s d i (j+1) from by
      have A:(l.take (j+1)).filter (λx=>!f x)=(l.take j).filter λx=>!f x:=by rw[N];simp
      exact⟨r,c.len,X,by rw[A];exact c.take,by omega,by rw[A];exact c.ilen,Q,Z⟩)
     clear ak r Z X N Q O;go_wp2
     go_roundw
     ·exact⟨i,j+1,d,by omega,rfl,by go_num,t.x⟩
     ·simp[intOf];omega
    |false=>
     obtain⟨q0,q1,q2,q3⟩:=dH ak;have ay:i<d.length:=by omega
     have G:(d.flatMap bT++s).length=d.length*4+s.length:=by rw[aA,dG bT 4 cY]
     obtain⟨z0,y0⟩:∃z,u.cell? ⟨g,i*4,none⟩=some z:=⟨_,(r.cell (i*4)).trans (List.getElem?_eq_getElem (by omega))⟩
     obtain⟨z1,y1⟩:∃z,u.cell? ⟨g,i*4+1,none⟩=some z:=⟨_,(r.cell (i*4+1)).trans (List.getElem?_eq_getElem (by omega))⟩
     obtain⟨z2,y2⟩:∃z,u.cell? ⟨g,i*4+2,none⟩=some z:=⟨_,(r.cell (i*4+2)).trans (List.getElem?_eq_getElem (by omega))⟩
     obtain⟨z3,y3⟩:∃z,u.cell? ⟨g,i*4+3,none⟩=some z:=⟨_,(r.cell (i*4+3)).trans (List.getElem?_eq_getElem (by omega))⟩
     have f0:=r.free (i*4);have f1:=r.free (i*4+1);have f2:=r.free (i*4+2);have f3:=r.free (i*4+3);obtain⟨w3,aa⟩:=aP ((((u.setCell ⟨g,i*4,none⟩ (.string ⟨x.key.toArray⟩)).setCell ⟨g,i*4+1,none⟩ (.int .i64 x.dev)).setCell ⟨g,i*4+2,none⟩ (.int .i64 x.seq)).setCell ⟨g,i*4+3,none⟩ (.int .i64 x.val));have s1:=r.set (i*4) (.string ⟨x.key.toArray⟩);have s2:=s1.set (i*4+1) (.int .i64 x.dev);have s3:=s2.set (i*4+2) (.int .i64 x.seq);have s4:=s3.set (i*4+3) (.int .i64 x.val);rw[uI x s d i ay,<- aa] at s4
     have al:e8 B u w3:=by
      rw[aa];exact(((e8.set r H _).trans (e8.set s1 H _)).trans (e8.set s2 H _)).trans (e8.set s3 H _)
     have t:=ae (show AY p f B h g w w3 l s (d.set i x) (i+1) (j+1) from by
      have A:(l.take (j+1)).filter (λx=>!f x)=((l.take j).filter λx=>!f x)++[x]:=by rw[N];rfl
      refine⟨s4,by rw[List.length_set];exact c.len,by rw[List.drop_set_of_lt (by omega)];exact X,?_,by omega,by rw[A,aA,<- c.ilen];rfl,S _ _ _ Q al,Z.trans al.gi⟩;rw[A,<- c.take,List.take_succ_eq_append_getElem (by simpa using ay)]
      simp[List.take_set_of_le (aq i)])
     have aN:=ae aa;clear ak r Z X N Q O aa s1 s2 s3 s4 al G;go_wp2;rw[<- aN.x];clear q0 q1 q2 q3 y0 y1 y2 y3 f0 f1 f2 f3
     go_roundw
     ·exact⟨i+1,j+1,d.set i x,by omega,by go_num,by go_num,t.x⟩
     ·simp[intOf];omega
   ·have aW:¬(j:Int)<(n:Int):=by omega
    obtain rfl:j=n:=by omega
    have ax:l.take j=l:=by rw[<- K,List.take_length]
    have ht:=c.take;have hi:=c.ilen;have D:=c.st;rw[ax] at ht hi D;have aV:=c.ile;have⟨t,Ht,T⟩:=ae3 D ht hi;clear ax ht hi D;have G:(d.flatMap bT++s).length=d.length*4+s.length:=by rw[aA,dG bT 4 cY]
    have ag:=c.len;rw[K] at ag
    by_cases a3:F=i
    ·obtain⟨E,L',ai,L,P,R,C⟩:=lP wr 0 g 0 (j-i) 0 _ c.blk H (by omega)
     have v:=ae (show vU g m (l.filter λx=>!f x) E /\ p l E /\ fB B h w E from by
      refine⟨⟨L',L,?_,?_⟩,S _ _ _ t.x C,c.keep.trans C.gi⟩
      ·rw[P,G,<- Hm,aA,dG bT 4 cY,c.len]
      ·rw[<- T.x,R (i*4) (.inr (by omega)),<- Ht.x,List.take_append_of_le_length (by rw[dG bT 4 cY];omega)]
       exact oo d i)
     have aL:=ae ai;clear L P R C G ag;go_wp2
     go_ret
     exact⟨⟨by rw[<- T.x];rfl,v.x.1,v.x.2.1⟩,v.x.2.2⟩
    ·obtain⟨E,L',ai,L,P,R,C⟩:=lP wr 0 g (i*4) (j-i) (F-i) _ c.blk H (by omega)
     have v:=ae (show vU g m (l.filter λx=>!f x) E /\ p l E /\ fB B h w E from by
      refine⟨⟨L',L,?_,?_⟩,S _ _ _ t.x C,c.keep.trans C.gi⟩
      ·rw[P,G,<- Hm,aA,dG bT 4 cY,c.len]
      ·rw[<- T.x,R (i*4) (.inl (aq _)),<- Ht.x,List.take_append_of_le_length (by rw[dG bT 4 cY];omega)]
       exact oo d i)
     have aL:=ae ai;clear L P R C G ag;go_wp2
     go_ret
     exact⟨⟨by rw[<- T.x];rfl,v.x.1,v.x.2.1⟩,v.x.2.2⟩
 ·have A:l.filter (λx=>!f x)=l:=List.filter_eq_self.2 λy hy=>by rw[ad y hy];rfl
  have Hf:=A;have t:=ae D;go_wp2
  go_ret
  refine⟨⟨?_,⟨_,U.blk _ _ _ Hg (by decide) (by decide),Hm,by rw[Hf,List.take_append_of_le_length (by rw[dG bT 4 cY];exact aq _),List.take_of_length_le (by rw[dG bT 4 cY];exact aq _)]⟩,t.x⟩,(U.gi V)⟩;rw[Hf,K];rfl
theorem sK(f:ez r){d:Int}{l:List bQ}(e:vg d l):Bnd (dI r d l) /\ (∀x∈(dI r d l).items,x.key.length <= 400) /\ ∀x∈(dI r d l).gone,x.key.length <= 400:=by
 have b:=fA f;have h:∀x∈r.items,x.key.length <= 400:=λx a=>dW (dV (f.iknown x a))
 have j:∀x∈r.gone,x.key.length <= 400:=λx a=>dW (dV (f.gknown x a))
 have hi:∀x∈(dI r d l).items,x∈r.items:=λx a=>(List.mem_filter.1 a).1
 have c:∀g∈(dI r d l).gone,g.key.length <= 400 /\ dk g.dev /\ dk g.seq:=λg c=>by
  rcases xi f c with⟨x,a,-,rfl⟩|c
  ·exact⟨h x a,(b.itemsB x a).2.1,(b.itemsB x a).2.2.1⟩
  ·exact⟨j g c,(b.goneB g c).2⟩
 exact⟨⟨λn i=>by have:=zD f e.lo e.hi n i;exact fV (by omega),λx a=>b.itemsB x (hi x a),λg hh=>⟨by have:=(c g hh).1;omega,(c g hh).2⟩⟩,λx a=>h x (hi x a),λg hh=>(c g hh).1⟩
section
attribute [local go_sem ↓] aU
attribute [local go_sem] opC upC told bE bm bF bp bq bG bH
theorem fZ{α:Type}(p:α -> Bool)(l:List α)(k:Nat)(h:k<l.length):(l.take (k+1)).filter p=(l.take k).filter p++(if p l[k] then[l[k]] else[]):=by
 rw[List.take_succ_eq_append_getElem h,List.filter_append]
 congr 1
 by_cases a:p l[k]=true
 ·rw[if_pos a,List.filter_cons,if_pos a];rfl
 ·rw[if_neg a,List.filter_cons,if_neg a];rfl
theorem tJ(l:List bQ)(y:bQ)(j:Nat)(h:j<l.length):decide (y∈l.take (j+1))=(decide (y∈l.take j) || (l[j] == y)):=by
 rw[List.take_succ_eq_append_getElem h,Bool.eq_iff_iff];simp only[List.mem_append,List.mem_singleton,decide_eq_true_eq,Bool.or_eq_true,beq_iff_eq];exact⟨λhh=>hh.imp id Eq.symm,λhh=>hh.imp id Eq.symm⟩
theorem EQ:Du 121 iB /\ Du 124 dy:=by
 refine⟨?left,?right⟩
 all_goals
  intro w F v m h dY dW d G lv l bQ hl hk
 case' right=>have cM:(aV m=false -> dy m d l=(.empty,5)) /\ (aV m=true -> dc d l=false -> dy m d l=(.empty,1)):=⟨λh=>by unfold dy;rw[h];rfl,λh h1=>by unfold dy;rw[h,h1];rfl⟩
 case' left=>have cM:(aV m=false -> iB m d l=(.empty,5)) /\ (aV m=true -> dc d l=false -> iB m d l=(.empty,1)):=⟨λh=>by unfold iB;rw[h];rfl,λh h1=>by unfold iB;rw[h,h1];rfl⟩
 all_goals
  replace h:=h.mono (G:=λb=>b<w.heap.size) λb _ aN=>aN
  replace bQ:=bQ.mono (G:=λb=>b<w.heap.size) λb _ aN=>aN
  replace h:=qU h 75
  obtain⟨a1,p1,a2,p2,a3,p3,wx,rfl,dF,ck,c6,Hx,bw⟩:=h;obtain⟨al,cl,rfl,-⟩:=bQ.shape;obtain⟨o,bq⟩:=aP (wx.alloc (.cells #[.slice none 0 0,.slice none 0 0,.slice none 0 0] 75));have da:Kpt w o:=by rw[bq];exact ck.x.alloc ck.x.size _
  have bX:o.heap.size=w.heap.size+2:=by rw[bq];simp[c6.x]
  have k1:Blk o w.heap.size [.slice a1 m.seen.length p1,.slice a2 m.items.length p2,.slice a3 m.gone.length p3] 75:=by rw[bq];exact bw.x.alloc _
  have k2:Blk o (w.heap.size+1) [.slice none 0 0,.slice none 0 0,.slice none 0 0] 75:=by
   have:=Blk.new wx #[.slice none 0 0,.slice none 0 0,.slice none 0 0] 75;rw[bq,<- c6.x];exact this
  have K:=ae (show ∀W,Kpt o W -> Kpt w W /\ Blk W w.heap.size [.slice a1 m.seen.length p1,.slice a2 m.items.length p2,.slice a3 m.gone.length p3] 75 /\ Blk W (w.heap.size+1) [.slice none 0 0,.slice none 0 0,.slice none 0 0] 75 /\ ce (λb=>b<w.heap.size) W (.slice a1 m.seen.length p1) (.slice a2 m.items.length p2) (.slice a3 m.gone.length p3) m /\ Rows (λb=>b<w.heap.size) W 1 (.slice al l.length cl) l.length (l.map eS) from λW M=>by
   have hB:Kpt w W:=da.trans (M.mono (by omega))
   exact⟨hB,k1.keep (M.block _ k1.lt),k2.keep (M.block _ k2.lt),Hx.x.keep (w':=W) λb aN _=>(hB.block b aN).trans (ck.x.block b aN).symm,bQ.keep (w':=W) λb aN _=>hB.block b aN⟩)
  have HV:=ae (ia o _ (.agg #[.slice a1 m.seen.length p1,.slice a2 m.items.length p2,.slice a3 m.gone.length p3]) m ⟨_,_,_,rfl,(K.x o (Below.refl _ _)).2.2.2.1⟩ dY dW);obtain⟨ok,cL⟩:=aH (aV m);rw[cL] at HV;obtain⟨c0,c1,c2⟩:=aS k1;have⟨dD,dG,aY⟩:=ae3 bq bX cL;clear bq da bX k1 k2 bQ cL
  first|go_enter func121,ntmps121|go_enter func124,ntmps124
  go_wp2_with fail;rw[<- dF.x,<- dD.x];refine HV.x.mono ?_;rintro e w3 ⟨rfl,bh⟩;clear HV c0 c1 c2;cases ok
  case false=>
   have Hu:=ae (cM.1 aY.x);have s:=(K.x w3 bh).2.2.1;have bk:=(K.x w3 bh).1;clear bh;obtain⟨wf,V,ab,aa⟩:=dX s bk (Nat.le_succ _) (.slice none 0 0) (.slice none 0 0) (.slice none 0 0);obtain⟨y0,y1,y2⟩:=aS s;have z0:=s.free 0;have z1:=s.free 1;have z2:=s.free 2;have⟨Q,aX,a0⟩:=ae3 (aS ab) aa V;clear V ab aa;go_wp2;rw[<- a0.x];obtain⟨q0,q1,q2⟩:=Q.x;exact bodyPost_ret (v:=.tuple #[.agg #[.slice none 0 0,.slice none 0 0,.slice none 0 0],.int .i64 5]) (by simp[results,results121,results124,go_sem,q0,q1,q2]) rfl ⟨_,by rw[Hu.x],by rw[Hu.x];exact iN _ _,aX.x⟩
  have HA:=ae (vR w3 _ _ d l (K.x w3 bh).2.2.2.2 (by omega) hk);obtain⟨d5,cC⟩:=aH (dc d l);rw[cC] at HA;have⟨b5,cU⟩:=ae2 cC bh;clear cC bh;go_wp2_with fail;refine HA.x.mono ?_;rintro e w4 ⟨rfl,db⟩;have a5:Kpt o w4:=cU.x.trans (db.mono cU.x.size);clear HA db;cases d5
  case false=>
   have Hu:=ae (cM.2 aY.x b5.x);have s:=(K.x w4 a5).2.2.1;have bk:=(K.x w4 a5).1;clear a5;obtain⟨wf,V,ab,aa⟩:=dX s bk (Nat.le_succ _) (.slice none 0 0) (.slice none 0 0) (.slice none 0 0);obtain⟨y0,y1,y2⟩:=aS s;have z0:=s.free 0;have z1:=s.free 1;have z2:=s.free 2;have⟨Q,aX,a0⟩:=ae3 (aS ab) aa V;clear V ab aa;go_wp2;rw[<- a0.x];obtain⟨q0,q1,q2⟩:=Q.x;exact bodyPost_ret (v:=.tuple #[.agg #[.slice none 0 0,.slice none 0 0,.slice none 0 0],.int .i64 1]) (by simp[results,results121,results124,go_sem,q0,q1,q2]) rfl ⟨_,by rw[Hu.x],by rw[Hu.x];exact iN _ _,aX.x⟩
  have ha:=(fo d l).1 b5.x;have f:=cA aY.x;have dg:=f.len;have d1:m.items.length <= 4096:=by have:=aY.x;unfold aV at this;simp at this;omega
  have d0:m.gone.length <= 4096:=by have:=aY.x;unfold aV at this;simp at this;omega
  obtain⟨c0,c1,c2⟩:=aS (K.x w4 a5).2.1;have⟨HC,bY,Ha,Hf,c3⟩:=ae5 (uF w4 _ (.agg #[.slice a1 m.seen.length p1,.slice a2 m.items.length p2,.slice a3 m.gone.length p3]) m ⟨_,_,_,rfl,(K.x w4 a5).2.2.2.1⟩ (by omega) (by omega) (by omega)) a5 ha f dg;clear a5 ha f dg;go_wp2_with fail;refine HC.x.mono ?_;rintro e z ⟨⟨s1,s2,s3,rfl,S⟩,dd⟩;have b9:Kpt o z:=bY.x.trans (dd.mono bY.x.size);obtain⟨b1,B,d3⟩:=aJ S.seen;obtain⟨b2,e2,rfl⟩:=aJ S.items;obtain⟨b3,e3,rfl⟩:=aJ S.gone;subst d3
  obtain⟨g,rfl⟩:∃g,b1=some ⟨g,0,none⟩:=by
   rcases S.seen.2 with⟨_,h0⟩|⟨g,dO,A,hv,_⟩
   ·have:=c3.x;omega
   ·simp at hv;exact⟨g,hv.1⟩
  obtain⟨q,rfl⟩:=Int.eq_ofNat_of_zero_le Ha.x.lo;have ed:=Ha.x.hi;have hq:q<m.seen.length:=by have:=c3.x;omega
  have ee:(q:Int)<(m.seen.length:Int):=by omega
  obtain⟨x,hx⟩:=aH m.seen[q];obtain⟨eh,ei⟩:=Hf.x.seen x (by rw[<- hx];exact aC hq)
  have dh:je m q=x+1:=by
   unfold je;rw[Int.toNat_natCast,List.getD_eq_getElem?_getD,List.getElem?_eq_getElem hq,hx];rfl
  obtain⟨dQ,dR⟩:w4.heap.size <= g /\ g<z.heap.size:=by
   rcases S.seen.2 with⟨hh,_⟩|⟨g',dO,A,hv,M,hg,_⟩
   ·simp at hh
   ·simp at hv;obtain⟨rfl,-⟩:=hv;exact⟨M,lt_of_block hg⟩
  have e0:z.cell? ⟨g,q,none⟩=some (.int .i64 x):=by
   rw[S.seen.cellAt q (by simpa using hq)];simp[hq,hx]
  have f0:=S.seen.frozenAt q;obtain⟨cP,ca⟩:=S.seen.stored q (.int .i64 (x+1));obtain⟨w6,bV⟩:=aP (z.setCell ⟨g,q,none⟩ (.int .i64 (x+1)));rw[<- bV] at cP ca;have cQ:w6.heap.size=z.heap.size:=by rw[bV];simp[World.setCell]
  have di:dC w6 w4.heap.size (.slice (some ⟨g,0,none⟩) m.seen.length B) (.slice b2 m.items.length e2) (.slice b3 m.gone.length e3) ⟨de m q,m.items,m.gone⟩:=by
   refine⟨?_,bZ S.items S.seen (by decide) ca,bZ S.gone S.seen (by decide) ca⟩;have h2:(de m q).length=m.seen.length:=yZ m q
   have h3:(de m q).map eI=(m.seen.map eI).set q (.int .i64 (x+1)):=by
    unfold de;rw[List.map_set,Int.toNat_natCast,List.getD_eq_getElem?_getD,List.getElem?_eq_getElem hq,hx];rfl
   show w6.ownsRow w4.heap.size 3 1 _ (de m q).length ((de m q).map eI);rw[h2,h3];exact cP
 obtain⟨z2,bX⟩:=aP (.slice b2 m.items.length e2:Value);rotate_left;obtain⟨z2,bX⟩:=aP (.slice none 0 0:Value);rotate_left
 all_goals
  obtain⟨w7,bW⟩:=aP (w6.alloc (.cells #[.slice (some ⟨g,0,none⟩) m.seen.length B,z2,.slice b3 m.gone.length e3] 75));have cE:Kpt w6 w7:=by rw[bW];exact aI _ _
  have dj:=di.below cE;have dn:Blk w7 z.heap.size [.slice (some ⟨g,0,none⟩) m.seen.length B,z2,.slice b3 m.gone.length e3] 75:=by rw[bW,<- cQ];exact Blk.new _ _ _
  have c8:Kpt o w7:=by
   have h6:Kpt o w6:=by
    rw[bV];exact b9.setCell (by have:=bY.x.size;show o.heap.size <= g;omega) _
   exact h6.trans (cE.mono h6.size)
  have dS:g<z.heap.size+1:=by omega
  have dT:g≠z.heap.size:=by omega
  have dE:=ae (show w7=(z.setCell ⟨g,q,none⟩ (.int .i64 (x+1))).alloc (.cells #[.slice (some ⟨g,0,none⟩) m.seen.length B,z2,.slice b3 m.gone.length e3] 75) by rw[bW,bV]);have dm:w7.heap.size=z.heap.size+1:=by rw[bW];simp[cQ]
  have⟨c4,c7,cV,dA,ea,eb,cv,c5⟩:=ae8 dj dn c8 dh b9 dm b9.size (show o.heap.size <= w4.heap.size from bY.x.size);clear HC dd b9 di cP ca bW bV dj dn c8 dh c0 c1 c2 hx S hq cE cQ dm;subst bX;go_wp2_with fail;rw[<- dE.x];clear e0 f0 dS dT dQ dR
 focus go_loopw [10] (λi wr=>∃k:Nat,k <= l.length /\ i=.int .i64 (k:Int) /\ Kpt o wr /\ ∃si,Blk wr z.heap.size [.slice (some ⟨g,0,none⟩) m.seen.length B,si,.slice b3 m.gone.length e3] 75 /\ dC wr o.heap.size (.slice (some ⟨g,0,none⟩) m.seen.length B) si (.slice b3 m.gone.length e3) ⟨de m q,((l.take k).map (dJ m q)).foldl (dL RIt.pl) m.items,m.gone⟩ /\ (((l.take k).map (dJ m q)).foldl (dL RIt.pl) m.items).length <= 4096+k) (λi _=>l.length-(intOf i).toNat)
 case atStart=>exact⟨0,by omega,rfl,cV.x,_,c7.x,c4.x.mono c5.x,by simpa using d1⟩
 case' round=>
  obtain⟨k,dZ,rfl,bK,si,a6,R,ao⟩:=hrel;generalize bL:((l.take k).map (dJ m q)).foldl (dL RIt.pl) m.items=A at R ao;obtain⟨ai,ci,rfl⟩:=aJ R.items;dsimp only at a6 R ao⊢;have⟨be,O,aR,bt,bf⟩:=ae5 bL bK a6 R ao;clear bL bK a6 R ao;obtain⟨-,kA,-,bH,bG⟩:=K.x wr O.x
  by_cases ba:k<l.length
  ·have cI:(k:Int)<(l.length:Int):=by omega
   obtain⟨bl,ol,rfl,-,-,cc⟩:=fE bG (by omega);have e0:=cc k ba;obtain⟨y,hy⟩:=aH l[k];rw[hy] at e0;have Hy:=ae hy;obtain⟨wX,ar⟩:=aP (wr.alloc (.cells #[.string ⟨y.toArray⟩,.int .i64 q,.int .i64 (x+1),.int .i64 65536] 129));have ct:=ae ar;have bI:Kpt wr wX:=by rw[ar];exact aI _ _
   have kX:Blk wX wr.heap.size [.string ⟨y.toArray⟩,.int .i64 q,.int .i64 (x+1),.int .i64 65536] 129:=by rw[ar];exact Blk.new _ _ _
   have⟨b6,KX⟩:=ae2 bI kX
   have HF:=ae (show ∀W,Kpt wr W -> Kpt o W /\ Blk W w.heap.size [.slice a1 m.seen.length p1,.slice a2 m.items.length p2,.slice a3 m.gone.length p3] 75 /\ ce (λb=>b<w.heap.size) W (.slice a1 m.seen.length p1) (.slice a2 m.items.length p2) (.slice a3 m.gone.length p3) m /\ W.cell? ⟨bl,ol+k,none⟩=some (.string ⟨y.toArray⟩) from λW M=>by
    have h1:=O.x.trans (M.mono O.x.size);obtain⟨-,d4,-,cz,cw⟩:=K.x W h1;obtain⟨ec,ej,ay,-,-,cJ⟩:=fE cw (by omega);simp at ay;obtain⟨rfl,rfl⟩:=ay;have:=cJ k ba;rw[hy] at this
    exact⟨h1,d4,cz,this⟩)
   clear cc hy ar bI kX kA bH bG;go_wp2;rw[<- ct.x];clear e0
   go_loopw [12] (λj p=>∃n:Nat,n <= m.items.length /\ j=.int .i64 (n:Int) /\ Kpt wr p /\ Blk p wr.heap.size [.string ⟨y.toArray⟩,.int .i64 q,.int .i64 (x+1),.int .i64 (iD m.items q (x+1) y n)] 129) (λj _=>m.items.length-(intOf j).toNat)
   ·exact⟨0,by omega,rfl,b6.x,KX.x⟩
   ·rename World=>p
    obtain⟨n,dV,rfl,bn,dr⟩:=hrel;obtain⟨I,kA,cB,e0⟩:=HF.x p bn;have⟨E,bD⟩:=ae2 bn dr;clear bn dr;obtain⟨c0,c1,c2⟩:=aS kA
    by_cases hj:n<m.items.length
    ·have cH:(n:Int)<(m.items.length:Int):=by omega
     obtain⟨Z,oi,rfl,-,-,cb⟩:=fw cB.items (by omega);obtain⟨a,az⟩:=aH m.items[n]
     have HI:=ae (show ∀W,Kpt wr W -> W.cell? ⟨Z,oi+n*4,none⟩=some (.string ⟨a.key.toArray⟩) /\ W.cell? ⟨Z,oi+n*4+1,none⟩=some (.int .i64 a.dev) /\ W.cell? ⟨Z,oi+n*4+2,none⟩=some (.int .i64 a.seq) /\ W.cell? ⟨Z,oi+n*4+3,none⟩=some (.int .i64 a.val) from λW M=>by
      obtain⟨-,-,cz,-⟩:=HF.x W M;obtain⟨b',o',ay,-,-,dU⟩:=fw cz.items (by omega);simp at ay;obtain⟨rfl,rfl⟩:=ay;have:=dU n hj;rw[az] at this
      exact this)
     have cO:=eQ (Hf.x.iknown a (by rw[<- az];exact aC hj));have dk:=jC Hf.x a.pl.2.toNat;have ef:1 <= a.seq:=cO.2.2.1;have eg:a.seq <= 1099511627776:=by have:=cO.2.2.2;have:=dk.2;omega
     have cr:=ae (show iD m.items q (x+1) y (n+1)=gF q (x+1) y (iD m.items q (x+1) y n) a by rw[BU _ _ _ _ _ hj,az]);have C:∀c,aK p.drew c -> Kpt wr c:=λc hh=>E.x.drew.trans (RowKit.Below.mono hh E.x.size)
     have pa:∀c,aK p.drew c -> c.cell? ⟨w.heap.size,1,none⟩=some (.slice (some ⟨Z,oi,none⟩) m.items.length p2):=λc hh=>(aS (HF.x c (C c hh)).2.1).2.1
     have pk:∀c,aK p.drew c -> c.cell? ⟨bl,ol+k,none⟩=some (.string ⟨y.toArray⟩):=λc hh=>(HF.x c (C c hh)).2.2.2
     have cR:∀c,aK p.drew c -> c.cell? ⟨Z,oi+n*4,none⟩=some (.string ⟨a.key.toArray⟩):=λc hh=>(HI.x c (C c hh)).1
     have cS:∀c,aK p.drew c -> c.cell? ⟨Z,oi+n*4+1,none⟩=some (.int .i64 a.dev):=λc hh=>(HI.x c (C c hh)).2.1
     clear cb az cB kA I cO dk e0
     by_cases bc:a.pl=(y,(q:Int))
     ·obtain⟨aM,bo⟩:=Prod.mk.inj bc;have g1:(a.key == y)=true:=by simp[show a.key=y from aM]
      have g2:(a.dev == (q:Int))=true:=by simp[show a.dev=(q:Int) from bo]
      have ak:=ae (show iD m.items q (x+1) y (n+1)=ko a.val (x+1-a.seq) by rw[cr.x,gF,if_pos bc]);clear aM bo bc;go_wp2_with fail;refine bP aK (up 21 []) (by kernel_rfl) ?_;apply aG;rfl;intro c hC;go_simp;(repeat (simp(disch:=omega) only[af,if_pos];go_simp));exact aF;refine aW ?_;clear pa pk cR cS C c0 c1 c2 g1 g2;obtain⟨D,N⟩:=aP p.drew;rw[<- N];have bj:Kpt wr D:=by rw[N];exact E.x.drew
      have dp:Blk D wr.heap.size [.string ⟨y.toArray⟩,.int .i64 q,.int .i64 (x+1),.int .i64 (iD m.items q (x+1) y n)] 129:=by rw[N];exact bD.x.keep rfl
      have⟨aU,bB⟩:=ae2 bj dp;have C:∀c,aK D.drew c -> Kpt wr c:=λc hh=>aU.x.drew.trans (RowKit.Below.mono hh aU.x.size)
      have pa:∀c,aK D.drew c -> c.cell? ⟨w.heap.size,1,none⟩=some (.slice (some ⟨Z,oi,none⟩) m.items.length p2):=λc hh=>(aS (HF.x c (C c hh)).2.1).2.1
      have d8:∀c,aK D.drew c -> c.cell? ⟨Z,oi+n*4+2,none⟩=some (.int .i64 a.seq):=λc hh=>(HI.x c (C c hh)).2.2.1
      have d9:∀c,aK D.drew c -> c.cell? ⟨Z,oi+n*4+3,none⟩=some (.int .i64 a.val):=λc hh=>(HI.x c (C c hh)).2.2.2
      clear N bj dp;go_wp2_with fail;refine dq aK 16 (up 14 [514,15,516]) (by kernel_rfl) ?_;apply bC;rfl;intro c hC;go_simp;(repeat (simp(disch:=omega) only[af,if_pos];go_simp));exact aF;refine cD rfl rfl (λKK hK=>?_);go_simp;refine(zA _ _ _ (by omega)).mono ?_;rintro e T ⟨rfl,cd⟩;refine⟨_,rfl,by rw[<- cd];exact aZ _,hK _ _ ?_⟩;clear hK KK pa d8 d9 C;go_simp;apply bC;rfl;intro c hC;go_simp;(repeat (simp(disch:=omega) only[af,if_pos];go_simp));exact aF;have dv:=ae (show Kpt wr T by rw[<- cd];exact aU.x.drew);have cf:Blk T wr.heap.size [.string ⟨y.toArray⟩,.int .i64 q,.int .i64 (x+1),.int .i64 (iD m.items q (x+1) y n)] 129:=by rw[<- cd];exact bB.x.keep rfl
      obtain⟨x0,x1,x2,x3⟩:=dH cf;have dP:=cf.free 3;have dM:=ae cf;clear cd cf;refine cG rfl rfl rfl (λKK hK=>?_);go_simp;refine hK _ _ ?_;clear hK KK x0 x1 x2 x3 dP;go_simp;refine cZ ?_;obtain⟨J,u⟩:=aP (T.setCell ⟨wr.heap.size,3,none⟩ (.int .i64 (ko a.val (x+1-a.seq))));have⟨du,dK⟩:=ae2 (show Kpt wr J by rw[u];exact dv.x.setCell (aq _) _) (show Blk J wr.heap.size [.string ⟨y.toArray⟩,.int .i64 q,.int .i64 (x+1),.int .i64 (iD m.items q (x+1) y (n+1))] 129 by rw[ak.x,u];exact dM.x.set 3 _);have dl:J=T.setCell ⟨wr.heap.size,3,none⟩ (.int .i64 (DM.aft (x+1-a.seq).toNat (DM.bnd a.val)+65536)):=u;rw[<- dl];clear u dl ak cr;go_wp2
      go_roundw
      ·exact⟨n+1,by omega,by go_num,du.x,dK.x⟩
      ·simp[intOf];omega
     ·have ak:=ae (show iD m.items q (x+1) y (n+1)=iD m.items q (x+1) y n by rw[cr.x,gF,if_neg bc])
      by_cases aM:a.key=y
      ·have g1:(a.key == y)=true:=by simpa using aM
       have g2:(a.dev == (q:Int))=false:=by
        simp;exact λe=>bc (Prod.ext aM e)
       clear aM bc;go_wp2_with fail;refine bP aK (up 21 []) (by kernel_rfl) ?_;apply aG;rfl;intro c hC;go_simp;(repeat (simp(disch:=omega) only[af,if_pos];go_simp));exact aF;refine aW ?_;clear pa pk cR cS C c0 c1 c2;obtain⟨D,N⟩:=aP p.drew;rw[<- N];have⟨aU,bB⟩:=ae2 (show Kpt wr D by rw[N];exact E.x.drew) (show Blk D wr.heap.size [.string ⟨y.toArray⟩,.int .i64 q,.int .i64 (x+1),.int .i64 (iD m.items q (x+1) y (n+1))] 129 by rw[ak.x,N];exact bD.x.keep rfl);clear N;go_wp2
       go_roundw
       ·exact⟨n+1,by omega,by go_num,aU.x,bB.x⟩
       ·simp[intOf];omega
      ·have g1:(a.key == y)=false:=by simpa using aM
       clear aM bc;go_wp2_with fail;refine bP aK (up 21 []) (by kernel_rfl) ?_;apply aG;rfl;intro c hC;go_simp;(repeat (simp(disch:=omega) only[af,if_pos];go_simp));exact aF;refine aW ?_;clear pa pk cR cS C c0 c1 c2;obtain⟨D,N⟩:=aP p.drew;rw[<- N];have⟨aU,bB⟩:=ae2 (show Kpt wr D by rw[N];exact E.x.drew) (show Blk D wr.heap.size [.string ⟨y.toArray⟩,.int .i64 q,.int .i64 (x+1),.int .i64 (iD m.items q (x+1) y (n+1))] 129 by rw[ak.x,N];exact bD.x.keep rfl);clear N;go_wp2
       go_roundw
       ·exact⟨n+1,by omega,by go_num,aU.x,bB.x⟩
       ·simp[intOf];omega
    ·have cH:¬(n:Int)<(m.items.length:Int):=by omega
     obtain rfl:n=m.items.length:=by omega
     have b7:=ae (show(⟨y,q,x+1,iD m.items q (x+1) y m.items.length⟩:RIt)=dJ m q y by
      have:=Dt m q y Hf.x.items;rw[dA.x] at this
      exact this)
     generalize iD m.items q (x+1) y m.items.length=cT at b7 bD⊢;have aQ:=aR.x.keep (E.x.block _ aR.x.lt);obtain⟨o0,o1,o2⟩:=aS aQ;obtain⟨x0,x1,x2,x3⟩:=dH bD.x;have U:=bt.x.below E.x;have hP:=pf p _ (.slice ai A.length ci) A ⟨y,q,x+1,cT⟩ (Rows.of_owns U.items) (by have:=bf.x;omega);have bd:=mR RIt.pl A ⟨y,q,x+1,cT⟩;generalize bR:dL RIt.pl A ⟨y,q,x+1,cT⟩=ad at hP bd;unfold itV at hP;have⟨HP,bw,cq,bg,co⟩:=ae5 hP bR bd aQ U;clear hP bR bd aQ U kA cB I e0;go_wp2_with fail;refine HP.x.mono ?_;rintro e T ⟨⟨r,rfl,bb⟩,an⟩;obtain⟨Y,c9,rfl⟩:=aJ bb;have t:=bg.x.keep (an.block _ bg.x.lt);clear o0 o1 o2 x0 x1 x2 x3;obtain⟨o0,o1,o2⟩:=aS t;have bF:=t.free 1;obtain⟨J,u⟩:=aP (T.setCell ⟨z.heap.size,1,none⟩ (.slice Y ad.length c9));have I:Kpt o p:=O.x.trans (E.x.mono O.x.size);have av:Kpt o T:=I.trans (an.mono I.size);have⟨bs,bA⟩:=ae2 (show Kpt o J by rw[u];exact av.setCell (by show o.heap.size <= z.heap.size;exact cv.x) _) (show Blk J z.heap.size [.slice (some ⟨g,0,none⟩) m.seen.length B,.slice Y ad.length c9,.slice b3 m.gone.length e3] 75 by rw[u];exact t.set 1 _)
     have cK:((l.take (k+1)).map (dJ m q)).foldl (dL RIt.pl) m.items=ad:=by
      rw[List.take_succ_eq_append_getElem ba,List.map_append,List.foldl_append,be.x,Hy.x];show dL RIt.pl A (dJ m q y)=ad;rw[<- b7.x,bw.x]
     have bu:=ae (show dC J o.heap.size (.slice (some ⟨g,0,none⟩) m.seen.length B) (.slice Y ad.length c9) (.slice b3 m.gone.length e3) ⟨de m q,((l.take (k+1)).map (dJ m q)).foldl (dL RIt.pl) m.items,m.gone⟩ by
      have bT:=co.x.below an;rw[u];refine⟨aL bT.seen t (by decide) _,?_,aL bT.gone t (by decide) _⟩;dsimp only;rw[cK]
      exact aL (bJ bb I.size) t (by decide) _)
     have bv:=ae (show(((l.take (k+1)).map (dJ m q)).foldl (dL RIt.pl) m.items).length <= 4096+(k+1) by
      rw[cK];have:=cq.x;have:=bf.x
      omega)
     have bz:=ae u;clear u I av cK bb an t HP;go_wp2;rw[<- bz.x];clear o0 o1 o2 bF
     go_roundw
     ·exact⟨k+1,by omega,by go_num,bs.x,_,bA.x,bu.x,bv.x⟩
     ·simp[intOf];omega
  have cI:¬(k:Int)<(l.length:Int):=by omega
  obtain rfl:k=l.length:=by omega
  have bU:(⟨de m q,A,m.gone⟩:aT)=iV m q l:=by
   rw[<- pO m q l Hf.x.items Ha.x.nodup];unfold vd;rw[<- be.x,List.take_length]
  have hO:=aR.x;have L:=bt.x;rw[bU] at L;obtain⟨bm,bO,bN⟩:=AO Hf.x Ha.x;have hu:iB m q l=gw (iV m q l):=by unfold iB;rw[aY.x,b5.x];rfl
  generalize iV m q l=H at L bm bO bN hu;generalize Value.slice ai A.length ci=S2 at hO L;generalize Value.slice b3 m.gone.length e3=S3 at hO L;clear bU
 rotate_left
 have cY:=ae (show dC w7 o.heap.size (.slice (some ⟨g,0,none⟩) m.seen.length B) (.slice none 0 0) (.slice b3 m.gone.length e3) ⟨de m q,[],m.gone⟩ from
  have hh:=c4.x.mono c5.x
  ⟨hh.seen,World.ownsRow_nil _ _ _ _,hh.gone⟩)
 focus go_loopw [9] (λi wr=>∃k:Nat,k <= m.items.length /\ i=.int .i64 (k:Int) /\ Kpt o wr /\ ∃si sg,Blk wr z.heap.size [.slice (some ⟨g,0,none⟩) m.seen.length B,si,sg] 75 /\ dC wr o.heap.size (.slice (some ⟨g,0,none⟩) m.seen.length B) si sg ⟨de m q,(m.items.take k).filter (λx=>decide (x.key∉l)),(((m.items.take k).filter λx=>decide (x.key∈l)).map dN).foldl (dL RGo.pl) m.gone⟩ /\ ((((m.items.take k).filter λx=>decide (x.key∈l)).map dN).foldl (dL RGo.pl) m.gone).length <= 4096+k) (λi _=>m.items.length-(intOf i).toNat)
 case atStart=>exact⟨0,by omega,rfl,cV.x,_,_,c7.x,cY.x,by simpa using d0⟩
 case' round=>
  obtain⟨k,dZ,rfl,bK,si,sg,a6,R,ao⟩:=hrel;generalize bL:(((m.items.take k).filter λx=>decide (x.key∈l)).map dN).foldl (dL RGo.pl) m.gone=A at R ao;generalize cF:(m.items.take k).filter (λx=>decide (x.key∉l))=X at R
  have df:X.length <= k:=by
   rw[<- cF];exact au (List.length_filter_le _ _) (by simp;omega)
  obtain⟨ai,ci,rfl⟩:=aJ R.items;obtain⟨ag,cg,rfl⟩:=aJ R.gone;dsimp only at a6 R ao⊢;have⟨be,cp,O,aR,bt,bf,cW⟩:=ae7 bL cF bK a6 R ao df;clear bL cF bK a6 R ao df cY;obtain⟨-,kA,-,bH,bG⟩:=K.x wr O.x;obtain⟨c0,c1,c2⟩:=aS kA
  by_cases ba:k<m.items.length
  ·have cI:(k:Int)<(m.items.length:Int):=by omega
   obtain⟨Z,oi,rfl,-,-,cb⟩:=fw bH.items (by omega);obtain⟨x0,x1,x2,x3⟩:=cb k ba;obtain⟨a,az⟩:=aH m.items[k];rw[az] at x0 x1 x2 x3;have b7:=ae az;obtain⟨wX,ar⟩:=aP (wr.alloc (.cells #[.string ⟨a.key.toArray⟩,.int .i64 a.dev,.int .i64 a.seq,.int .i64 a.val] 129));have ct:=ae ar;have bI:Kpt wr wX:=by rw[ar];exact aI _ _
   have kX:Blk wX wr.heap.size [.string ⟨a.key.toArray⟩,.int .i64 a.dev,.int .i64 a.seq,.int .i64 a.val] 129:=by rw[ar];exact Blk.new _ _ _
   have⟨b6,KX⟩:=ae2 bI kX
   have HF:=ae (show ∀W,Kpt wr W -> Kpt o W /\ Rows (λb=>b<w.heap.size) W 1 (.slice al l.length cl) l.length (l.map eS) from λW M=>by
    have h1:=O.x.trans (M.mono O.x.size);obtain⟨-,-,-,-,cw⟩:=K.x W h1
    exact⟨h1,cw⟩)
   clear cb az ar bI kX kA bH bG;go_wp2;rw[<- ct.x];clear x0 x1 x2 x3 c0 c1 c2
   go_loopw [12,11] (λj b p=>∃n:Nat,n <= l.length /\ j=.int .i64 (n:Int) /\ b=.bool (decide (a.key∈l.take n)) /\ Kpt wX p) (λj _ _=>l.length-(intOf j).toNat)
   ·exact⟨0,by omega,rfl,by simp,Below.refl _ _⟩
   ·rename World=>p
    obtain⟨n,dV,rfl,rfl,bn⟩:=hrel;have⟨b4,E⟩:=ae2 (show ∀W,Kpt wX W -> Kpt wr W /\ Blk W wr.heap.size [.string ⟨a.key.toArray⟩,.int .i64 a.dev,.int .i64 a.seq,.int .i64 a.val] 129 from λW M=>⟨b6.x.trans (M.mono b6.x.size),KX.x.keep (M.block _ KX.x.lt)⟩) bn;clear bn
    by_cases hj:n<l.length
    ·have cH:(n:Int)<(l.length:Int):=by omega
     obtain⟨bl,ol,rfl,-,-,cc⟩:=fE (HF.x p (b4.x p E.x).1).2 (by omega);obtain⟨y,hy⟩:=aH l[n];have C:∀c,aK p.drew c -> Kpt wX c:=λc hh=>E.x.drew.trans (RowKit.Below.mono hh E.x.size)
     have px:∀c,aK p.drew c -> c.cell? ⟨wr.heap.size,0,none⟩=some (.string ⟨a.key.toArray⟩):=λc hh=>(dH (b4.x c (C c hh)).2).1
     have pk:∀c,aK p.drew c -> c.cell? ⟨bl,ol+n,none⟩=some (.string ⟨y.toArray⟩):=λc hh=>by
      obtain⟨b',o',ay,-,-,cJ⟩:=fE (HF.x c (b4.x c (C c hh)).1).2 (by omega);simp at ay;obtain⟨rfl,rfl⟩:=ay;have:=cJ n hj;rw[hy] at this;exact this
     have ak:=ae (show decide (a.key∈l.take (n+1))=(decide (a.key∈l.take n) || (y == a.key)) by rw[tJ l a.key n hj,hy]);generalize decide (a.key∈l.take n)=b0 at ak⊢;clear cc hy;cases b0 with
     |false=>
      go_wp2_with fail;refine bP aK (up 11 []) (by kernel_rfl) ?_;apply aG;rfl;intro c hC;go_simp;(repeat (simp(disch:=omega) only[af,if_pos];go_simp));exact aF;refine aW ?_;clear px pk C;go_wp2
      go_roundw
      ·exact⟨n+1,by omega,by go_num,by rw[ak.x];rfl,E.x.drew⟩
      ·simp[intOf];omega
     |true=>
      go_wp2_with fail;refine bP aK (up 11 []) (by kernel_rfl) ?_;apply aG;rfl;intro c hC;go_simp;(repeat (simp(disch:=omega) only[af,if_pos];go_simp));exact aF;refine aW ?_;clear px pk C;go_wp2
      go_roundw
      ·exact⟨n+1,by omega,by go_num,by rw[ak.x];rfl,E.x.drew⟩
      ·simp[intOf];omega
    ·have cH:¬(n:Int)<(l.length:Int):=by omega
     obtain rfl:n=l.length:=by omega
     rw[List.take_length];have bp:=b4.x p E.x;have aQ:=aR.x.keep (bp.1.block _ aR.x.lt);obtain⟨o0,o1,o2⟩:=aS aQ;obtain⟨x0,x1,x2,x3⟩:=dH bp.2;have U:=bt.x.below bp.1;have I:Kpt o p:=O.x.trans (bp.1.mono O.x.size);have a7:=fZ (λx:RIt=>decide (x.key∈l)) m.items k ba;have a8:=fZ (λx:RIt=>decide (x.key∉l)) m.items k ba;rw[b7.x] at a7 a8;have⟨bg,co,cj⟩:=ae3 aQ U I
     by_cases aO:a.key∈l
     ·have hd:decide (a.key∈l)=true:=decide_eq_true aO;rw[hd];rw[if_pos (by simpa using aO)] at a7;rw[if_neg (by simpa using aO)] at a8;have⟨cm,cn⟩:=ae2 a7 a8;clear hd a7 a8 aO;have hP:=uE p _ (.slice ag A.length cg) A (dN a) (Rows.of_owns U.gone) (by have:=bf.x;omega);have bd:=mR RGo.pl A (dN a);generalize bR:dL RGo.pl A (dN a)=ad at hP bd;unfold goV dN at hP;have⟨HP,bw,cq⟩:=ae3 hP bR bd;clear hP bR bd aQ U I bp;go_wp2_with fail;refine HP.x.mono ?_;rintro e T ⟨⟨r,rfl,bb⟩,an⟩;obtain⟨Y,c9,rfl⟩:=aJ bb;have t:=bg.x.keep (an.block _ bg.x.lt);clear o0 o1 o2 x0 x1 x2 x3;obtain⟨o0,o1,o2⟩:=aS t;have bF:=t.free 2;obtain⟨J,u⟩:=aP (T.setCell ⟨z.heap.size,2,none⟩ (.slice Y ad.length c9));have av:Kpt o T:=cj.x.trans (an.mono cj.x.size);have⟨bs,bA⟩:=ae2 (show Kpt o J by rw[u];exact av.setCell (by show o.heap.size <= z.heap.size;exact cv.x) _) (show Blk J z.heap.size [.slice (some ⟨g,0,none⟩) m.seen.length B,.slice ai X.length ci,.slice Y ad.length c9] 75 by rw[u];exact t.set 2 _);have bE:(m.items.take (k+1)).filter (λx=>decide (x.key∉l))=X:=by rw[cn.x,cp.x,List.append_nil]
      have a4:(((m.items.take (k+1)).filter λx=>decide (x.key∈l)).map dN).foldl (dL RGo.pl) m.gone=ad:=by
       rw[cm.x,List.map_append,List.foldl_append,be.x];exact bw.x
      have bu:=ae (show dC J o.heap.size (.slice (some ⟨g,0,none⟩) m.seen.length B) (.slice ai X.length ci) (.slice Y ad.length c9) ⟨de m q,(m.items.take (k+1)).filter (λx=>decide (x.key∉l)),(((m.items.take (k+1)).filter λx=>decide (x.key∈l)).map dN).foldl (dL RGo.pl) m.gone⟩ by
       rw[bE,a4];have bT:=co.x.below an;rw[u]
       exact⟨aL bT.seen t (by decide) _,aL bT.items t (by decide) _,aL (bJ bb cj.x.size) t (by decide) _⟩)
      have bv:=ae (show((((m.items.take (k+1)).filter λx=>decide (x.key∈l)).map dN).foldl (dL RGo.pl) m.gone).length <= 4096+(k+1) by
       rw[a4];have:=cq.x;have:=bf.x
       omega)
      have bz:=ae u;clear u av bE a4 bb an t HP;go_wp2;rw[<- bz.x];clear o0 o1 o2 bF
      go_roundw
      ·exact⟨k+1,by omega,by go_num,bs.x,_,_,bA.x,bu.x,bv.x⟩
      ·simp[intOf];omega
     ·have hd:decide (a.key∈l)=false:=decide_eq_false aO;rw[hd];rw[if_neg (by simpa using aO)] at a7;rw[if_pos (by simpa using aO)] at a8;have⟨cm,cn⟩:=ae2 a7 a8;clear hd a7 a8 aO;obtain⟨i0,t1,t2,t3,t4⟩:=info_parts mG;obtain⟨v5,T,d2,cN,bM⟩:=cu (P:=aE) p o.heap.size 72 129 underlying72 t1 t2 t3 t4 rfl (by decide) (.slice ai X.length ci) X.length _ U.items #[.string ⟨a.key.toArray⟩,.int .i64 a.dev,.int .i64 a.seq,.int .i64 a.val] rfl (by simp[Value.oneCell']) (by have:=cW.x;unfold maxLen;omega) (by have:=cW.x;omega) I.size;obtain⟨Y,c9,rfl⟩:=aJ cN;have bS:=br U.items (aI p (.cells #[.string ⟨a.key.toArray⟩,.int .i64 a.dev,.int .i64 a.seq,.int .i64 a.val] 129));have t:=(bg.x.alloc (.cells #[.string ⟨a.key.toArray⟩,.int .i64 a.dev,.int .i64 a.seq,.int .i64 a.val] 129)).grownNe bS (by decide) bM;have dt:=bZ (br U.seen (aI p (.cells #[.string ⟨a.key.toArray⟩,.int .i64 a.dev,.int .i64 a.seq,.int .i64 a.val] 129))) bS (by decide) bM;have ds:=bZ (br U.gone (aI p (.cells #[.string ⟨a.key.toArray⟩,.int .i64 a.dev,.int .i64 a.seq,.int .i64 a.val] 129))) bS (by decide) bM;have av:Kpt o T:=I.trans (((Below.refl o.heap.size p).alloc I.size _).trans (Below.grownOwn bS bM (by have:=I.size;simp;omega) (aq _)));obtain⟨J,u⟩:=aP (T.setCell ⟨z.heap.size,1,none⟩ (.slice Y (X.length+1) c9));have⟨bs,bA⟩:=ae2 (show Kpt o J by rw[u];exact av.setCell (by show o.heap.size <= z.heap.size;exact cv.x) _) (show Blk J z.heap.size [.slice (some ⟨g,0,none⟩) m.seen.length B,.slice Y (X.length+1) c9,.slice ag A.length cg] 75 by rw[u];exact t.set 1 _);have bE:(m.items.take (k+1)).filter (λx=>decide (x.key∉l))=X++[a]:=by rw[cn.x,cp.x]
      have a4:(((m.items.take (k+1)).filter λx=>decide (x.key∈l)).map dN).foldl (dL RGo.pl) m.gone=A:=by
       rw[cm.x,List.append_nil,be.x]
      have bu:=ae (show dC J o.heap.size (.slice (some ⟨g,0,none⟩) m.seen.length B) (.slice Y (X.length+1) c9) (.slice ag A.length cg) ⟨de m q,(m.items.take (k+1)).filter (λx=>decide (x.key∉l)),(((m.items.take (k+1)).filter λx=>decide (x.key∈l)).map dN).foldl (dL RGo.pl) m.gone⟩ by
       rw[bE,a4,u];refine⟨aL dt t (by decide) _,?_,aL ds t (by decide) _⟩;dsimp only;rw[aA,gl]
       exact aL cN t (by decide) _)
      have bv:=ae (show((((m.items.take (k+1)).filter λx=>decide (x.key∈l)).map dN).foldl (dL RGo.pl) m.gone).length <= 4096+(k+1) by
       rw[a4];have:=bf.x
       omega)
      obtain⟨p0,d6,d7⟩:=aS t;have bF:=t.free 1;have bz:=ae u;clear u av bE a4 cN t dt ds bS bM t1 t2 t3 t4 aQ U I bp;go_wp2;rw[<- bz.x];clear o0 o1 o2 bF p0 d6 d7 d2
      go_roundw
      ·exact⟨k+1,by omega,by go_num,bs.x,_,_,bA.x,bu.x,bv.x⟩
      ·simp[intOf];omega
  have cI:¬(k:Int)<(m.items.length:Int):=by omega
  obtain rfl:k=m.items.length:=by omega
  have bU:(⟨de m q,X,A⟩:aT)=dI m q l:=by
   rw[<- ve m q l Hf.x];unfold nM;rw[<- be.x,<- cp.x,List.take_length]
  have hO:=aR.x;have L:=bt.x;rw[bU] at L;obtain⟨bm,bO,bN⟩:=sK Hf.x Ha.x;have hu:dy m q l=gw (dI m q l):=by unfold dy;rw[aY.x,b5.x];rfl
  generalize dI m q l=H at L bm bO bN hu;generalize Value.slice ai X.length ci=S2 at hO L;generalize Value.slice ag A.length cg=S3 at hO L;clear bU
 all_goals
  obtain⟨b8,cs,rfl⟩:=aJ L.items;obtain⟨ax,cx,rfl⟩:=aJ L.gone;have ch:=ae (uG wr _ (.agg #[.slice (some ⟨g,0,none⟩) m.seen.length B,.slice b8 H.items.length cs,.slice ax H.gone.length cx]) H ⟨_,_,_,rfl,L.map bm⟩ (λx hx=>by have:=bO x hx;omega) (λx hx=>by have:=bN x hx;omega));obtain⟨ok,bo⟩:=aH (aV H);rw[bo] at ch;obtain⟨o0,o1,o2⟩:=aS hO;have⟨Hu,dw,dx,cX⟩:=ae4 hu bm L bo;clear hu bm bO bN L hO bo kA bH bG;go_wp2_with fail;refine ch.x.mono ?_;rintro e D ⟨rfl,bj⟩;have cy:Kpt o D:=O.x.trans (bj.mono O.x.size);have s:=(K.x D cy).2.2.1;have bk:=(K.x D cy).1;have dz:=ae (dx.x.below bj);clear ch bj cy o0 o1 o2;cases ok
  case false=>
   have bx:=ae (Hu.x.trans (show gw H=(.empty,7) by unfold gw;rw[cX.x];rfl));obtain⟨wf,V,ab,aa⟩:=dX s bk (Nat.le_succ _) (.slice none 0 0) (.slice none 0 0) (.slice none 0 0);obtain⟨y0,y1,y2⟩:=aS s;have z0:=s.free 0;have z1:=s.free 1;have z2:=s.free 2;have⟨Q,aX,a0⟩:=ae3 (aS ab) aa V;clear V ab aa;go_wp2;rw[<- a0.x];obtain⟨q0,q1,q2⟩:=Q.x;exact bodyPost_ret (v:=.tuple #[.agg #[.slice none 0 0,.slice none 0 0,.slice none 0 0],.int .i64 7]) (by simp[results,results121,results124,go_sem,q0,q1,q2]) rfl ⟨_,by rw[bx.x],by rw[bx.x];exact iN _ _,aX.x⟩
  have bx:=ae (Hu.x.trans (show gw H=(H,0) by unfold gw;rw[cX.x];rfl));obtain⟨wf,V,ab,aa⟩:=dX s bk (Nat.le_succ _) (.slice (some ⟨g,0,none⟩) m.seen.length B) (.slice b8 H.items.length cs) (.slice ax H.gone.length cx);obtain⟨y0,y1,y2⟩:=aS s;have z0:=s.free 0;have z1:=s.free 1;have z2:=s.free 2;have Q:=ae (aS ab)
  have dB:=ae (show dC wf o.heap.size (.slice (some ⟨g,0,none⟩) m.seen.length B) (.slice b8 H.items.length cs) (.slice ax H.gone.length cx) H by
   rw[V]
   exact((dz.x.setCell s _).setCell (s.set 0 _) _).setCell ((s.set 0 _).set 1 _) _)
  have⟨aX,a0⟩:=ae2 aa V;clear V ab aa;go_wp2;rw[<- a0.x];obtain⟨q0,q1,q2⟩:=Q.x;exact bodyPost_ret (v:=.tuple #[.agg #[.slice (some ⟨g,0,none⟩) m.seen.length B,.slice b8 H.items.length cs,.slice ax H.gone.length cx],.int .i64 0]) (by simp[results,results121,results124,go_sem,q0,q1,q2]) rfl ⟨_,by rw[bx.x],by rw[bx.x];exact⟨_,_,_,rfl,dB.x.mono (by have:=dG.x;omega),dw.x⟩,aX.x⟩
end
end Go.Proofs.YtobjdpngnfbicaaGreatDoor
