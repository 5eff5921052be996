/-
  UOpen VNext RegionP VFold RInt RefDisk8
-/
import Derived.Test.YtobjdpngnfbicaaGreatDoorZP13
open Go.IntWalk renaming i64_in->af,i64_quo->ah,u32_in->aj,rem_in->am,u8_in->ap
open Nat renaming le_refl->aq,le_trans->au,lt_of_lt_of_le->aw
open List renaming getElem_mem->aC,length_cons->aD
open Go.Proofs.Tryz renaming prog->aE
set_option maxHeartbeats 8000000
set_option maxRecDepth 100000
set_option linter.all false
namespace Go.Proofs.YtobjdpngnfbicaaGreatDoor
open Go.RowKit
open Go.Proofs.Tryz
variable(w w9:World)(F:aQ)(n:Nat)(v:Value)(b:List UInt8)(m:aT){W w':World}{G:aQ}{u:Value}{i j o:Nat}{l:List UInt8}{r:aT}{N:MD}{t:TypeId}
section
open Go.Lib
attribute [local go_sem] opC upC FK
theorem uP(h:eO l=some (i,r)):i<8 /\ aV r=true:=by
 cases l with
 |nil=>cases h
 |cons k d=>
  unfold eO at h;dsimp only at h;split at h
  ·split at h
   ·cases h
   ·split at h
    ·rename_i c;split at h
     ·rename_i a;obtain⟨rfl,rfl⟩:=Prod.mk.inj (Option.some.inj h);exact⟨c,lJ a⟩
     ·cases h
    ·cases h
  ·cases h
theorem mp{p:aT×Int}(h:okR p=some r):p.2=0 /\ p.1=r:=by
 unfold okR at h;split at h
 ·rename_i a;exact⟨a,Option.some.inj h⟩
 ·cases h
theorem ms{x:aT}(h:ef i r l=some x):aV x=true:=by
 cases l with
 |nil=>cases h
 |cons k c=>
  unfold ef at h;dsimp only at h;split at h
  ·split at h
   ·obtain⟨a,rfl⟩:=mp h;exact(py a).2.2
   ·cases h
  ·split at h
   ·split at h
    ·obtain⟨a,rfl⟩:=mp h;exact DO a
    ·cases h
   ·split at h
    ·split at h
     ·obtain⟨a,rfl⟩:=mp h;exact uO a
     ·cases h
    ·cases h
theorem uQ{d:Nat}:∀(l:List (List UInt8))(m x:aT),aV m=true -> dj d m l=some x -> aV x=true
 |[],m,x,a,h=>by
  obtain rfl:=Option.some.inj h;exact a
 |b::l,m,x,a,h=>by
  unfold dj at h;cases e:ef d m b with
  |none=>rw[e] at h;cases h
  |some y=>
   rw[e] at h;exact uQ l y x (ms e) h
theorem DP{L:List (List UInt8)}(h:fh L=some (i,r)):i<8 /\ aV r=true:=by
 cases L with
 |nil=>cases h
 |cons b l=>
  unfold fh at h;dsimp only at h;cases e:eO b with
  |none=>rw[e] at h;cases h
  |some p=>
   obtain⟨f,c⟩:=p;rw[e] at h;dsimp only at h;obtain⟨g,j⟩:=uP e;cases a:dj f c l with
   |none=>rw[a] at h;cases h
   |some y=>
    rw[a] at h;obtain⟨rfl,rfl⟩:=Prod.mk.inj (Option.some.inj h);exact⟨g,uQ l c _ j a⟩
theorem DQ{U:MU}(h:eZ N=.inl U):U.dev<8 /\ aV U.m=true:=by
 unfold eZ at h;split at h
 ·cases h
 ·split at h
  ·cases h
  ·split at h
   ·cases h
   ·rename_i e;obtain rfl:=Sum.inl.inj h;exact DP e
theorem uR{c:Int}(h:gX N=.inr c):c=6 \/ c=341 \/ c=340:=by
 unfold gX at h;split at h
 ·injection h with h;exact .inl h.symm
 ·split at h
  ·injection h with h;exact .inr (.inl h.symm)
  ·split at h
   ·injection h with h;exact .inr (.inr h.symm)
   ·cases h
def SA(t:TypeId)(x:Value)(a hi b:Option Value):Sem Value:=Instr.sliceAt t x a hi b
theorem oz(t:TypeId)(x a:Value):Instr.sliceAt t x (some a) none none=SA t x (some a) none none:=rfl
theorem qd(b a n c:Nat)(e:1 <= n)(g:n <= c)(h:c <= 9223372036854775807):(SA 41 (.slice (some ⟨b,a,none⟩) n c) (some (.int .i64 1)) none none).run aE w=.ok (.slice (if c=1 then some ⟨b,a,none⟩ else some ⟨b,a+1,none⟩) (n-1) (c-1)) w:=by
 have f:(1:Int) <= (n:Int):=by omega
 unfold SA
 by_cases d:c=1
 ·subst d;obtain rfl:n=1:=by omega
  go_simp
 ·rw[if_neg d];have i:¬(c-1=0):=by omega
  go_simp
theorem DR(b n c:Nat)(d:1 <= n)(f:n <= c)(g:c <= 9223372036854775807):(SA 64 (.slice (some ⟨b,0,none⟩) n c) (some (.int .i64 1)) none none).run aE w=.ok (.slice (if c=1 then some ⟨b,0,none⟩ else some ⟨b,1,none⟩) (n-1) (c-1)) w:=by
 have e:(1:Int) <= (n:Int):=by omega
 unfold SA
 by_cases a:c=1
 ·subst a;obtain rfl:n=1:=by omega
  go_simp
 ·rw[if_neg a];have h:¬(c-1=0):=by omega
  go_simp
attribute [local go_sem ↓] oz
def fl(w:World)(K:DK)(M:MD)(r:MU ⊕ Int)(e:Ending)(w':World):Prop:=(match r with
 |.inr c=>e=.returned (.tuple #[.pointer none,.int .i64 c])
 |.inl U=>∃u a,e=.returned (.tuple #[.pointer (some ⟨u,0,none⟩),.int .i64 0]) /\ a.K.d=K.d /\ UAt w' a u M U /\ (∀q,a.all q -> K.foot q \/ w.heap.size <= q) /\ w.heap.size <= u) /\ Kpt w w'
theorem UAt.new{w:World}{a:JK}{M:MD}{J:MJ}(d:JAt w a M J)(g:JT w a)(f:∀b,a.all b -> 3<b):
 UAt (w.alloc (.cells #[.int .i64 0,.slice none 0 0,.slice none 0 0,.slice none 0 0,.pointer (some ⟨a.j,0,none⟩)] 93)) a w.heap.size M ⟨0,.empty,J⟩:=by
 have c:Kpt w (w.alloc (.cells #[.int .i64 0,.slice none 0 0,.slice none 0 0,.slice none 0 0,.pointer (some ⟨a.j,0,none⟩)] 93)):=aI _ _;exact⟨⟨none,0,none,0,none,0,Blk.new _ _ _,Rows.nil _ _ _,Rows.nil _ _ _,Rows.nil _ _ _,nofun,nofun,nofun⟩,d.kept c,g.keep λb e=>c.block b (d.lt b e),f⟩
theorem uS(hT:eB w)(h3:4 <= w.heap.size)(I:cU w)(K:DK)(M:MD)(hd:bM w K M)(al:∀b,K.foot b -> 3<b):
 Calls aE 16 #[.pointer (some ⟨K.d,0,none⟩)] w (fl w K M (eZ M)):=by
 have hO:=DC w K M hd I;obtain⟨o,G⟩:=aH (gX M);rw[G] at hO;have⟨HO,aS,HT,cN⟩:=ae4 hO G hT al;clear hO G hT al hd I
 go_enter func16,ntmps16
 go_wp2_with fail;refine HO.x.mono ?_;rintro e w1 ⟨hm,a6⟩;clear HO;cases o with
 |inr c=>
  obtain rfl:e=.returned (.tuple #[.pointer none,.int .i64 c]):=hm;have df:¬c=0:=by rcases uR aS.x with h|h|h<;>rw[h]<;>decide
  have P:=ae (show fl w K M (eZ M) (.returned (.tuple #[.pointer none,.int .i64 c])) w1 from by
   unfold eZ;rw[aS.x]
   exact⟨rfl,a6⟩)
  clear a6;go_wp2;go_ret2;exact P.x
 |inl J=>
  obtain⟨c7,rfl,hK,hj,cg⟩:=hm;obtain⟨u,e1,e2,bG,bZ,bX⟩:=hj.slim;rw[<- e1];have bF:∀b,u.all b -> K.foot b \/ w.heap.size <= b:=λb hb=>cg b (bZ b hb)
  have ck:∀b,u.all b -> 3<b:=λb hb=>by
   rcases bF b hb with h|h
   ·exact cN.x b h
   ·omega
  have hR:=BZ w1 u M J bG;have⟨HR,aU,cD,cJ,cO,bT,cE⟩:=ae7 hR bG bX bF ck a6 (show u.K.d=K.d by rw[e2,hK]);clear hR hj bG bX cg bF ck a6 bZ e2 e1 hK c7;go_wp2_with fail;refine HR.x.mono ?_;rintro e f ⟨r,Q,rfl,bJ,bY,b3⟩;obtain⟨a,aY,rfl,b7,cY⟩:=bJ.shape;have⟨aX,bQ,bh⟩:=ae3 bJ bY b3;have bW:Kpt w f:=bT.x.trans (bh.x.mono bT.x.size);have ad:=ae bW;clear HR bJ bY b3 bW;obtain⟨g,L,ao⟩:=J;cases L with
  |nil=>
   have P:=ae (show fl w K M (eZ M) (.returned (.tuple #[.pointer none,.int .i64 340])) f from by
    unfold eZ;rw[aS.x];dsimp only;rw[if_pos rfl]
    exact⟨rfl,ad.x⟩)
   dsimp only[List.length_nil];go_wp2;go_ret2;exact P.x
  |cons Y L=>
   have az:=ae (show eZ M=match fh (Y::L) with
    |none=>.inr 5
    |some (d,m)=>.inl ⟨d,m,⟨g,Y::L,ao⟩⟩ from by
    unfold eZ;rw[aS.x];dsimp only;rw[if_neg (by simp)];cases fh (Y::L) with
    |none=>rfl
    |some p=>rfl)
   obtain⟨gb,da,x0,hv,ai,bC⟩:=aX.x.elem 0 (by simp);simp at hv;obtain⟨rfl,rfl⟩:=hv;have b2:Y.length <= 65536:=aU.x.lens Y List.mem_cons_self;have ai:aO Q f x0 Y:=ai;have c1:gb<f.heap.size:=eK bC;have bK:=UAt.new (aU.x.kept bh.x) (cD.x.keep λb hb=>bh.x.block b (aU.x.lt b hb)) cO.x;obtain⟨w3,aZ⟩:=aP (f.alloc (.cells #[.int .i64 0,.slice none 0 0,.slice none 0 0,.slice none 0 0,.pointer (some ⟨u.j,0,none⟩)] 93));rw[<- aZ] at bK;have bA:Kpt f w3:=by rw[aZ];exact aI _ _
   have⟨cG,br,av,be,U⟩:=ae5 bK aZ bA ai (show Kpt w w3 from ad.x.trans (bA.mono ad.x.size));obtain⟨nL,aJ⟩:=aH ((Y::L).length);have cl:nL=L.length+1:=by rw[<- aJ];rfl
   have c3:¬(nL:Int)=0:=by omega
   have c5:(1:Int) <= (nL:Int):=by omega
   have c4:(0:Int)<(nL:Int):=by omega
   have cZ:nL <= aY:=by rw[<- aJ];exact b7
   have⟨c9,aW,bk⟩:=ae3 aJ cl cZ;dsimp only at aX⊢;rw[aJ] at aX⊢;clear bK aZ bA aJ b7 cl;cases Y with
   |nil=>
    obtain⟨a0,c0,rfl,-⟩:=id ai
    have P:=ae (show fl w K M (eZ M) (.returned (.tuple #[.pointer none,.int .i64 5])) w3 from by
     rw[az.x]
     exact⟨rfl,U.x⟩)
    dsimp only[List.length_nil] at *;clear ai be;go_wp2;rw[<- br.x];go_ret2;exact P.x
   |cons k r=>
    obtain⟨a0,c0,rfl,co,cp,-,bc⟩:=id ai;obtain⟨bb,bd,-,-,-,rfl,dc,-,-,-⟩:=bc.resolve_left (by simp);obtain⟨-,-,-,bc⟩:=ai.cells;obtain⟨cR,c8,cq,-,dd,b9⟩:=bc.resolve_left (by simp);obtain⟨rfl,rfl⟩:bb=cR /\ bd=c8:=by simpa using cq
    have a7:=b9 0 (by simp);rw[Nat.add_zero,List.getElem_cons_zero] at a7;obtain⟨nb,aK⟩:=aH ((k::r).length);rw[aK] at bC co;have aL:nb-1=r.length:=by rw[<- aK];rfl
    have cm:1 <= nb:=by rw[<- aK,aD];omega
    have b1:¬(nb:Int)=0:=by omega
    have cW:((nb:Int) == 0)=false:=beq_eq_false_iff_ne.2 b1;have cV:(1:Int) <= (nb:Int):=by omega
    have cT:(0:Int)<(nb:Int):=by omega
    have cX:c0 <= 9223372036854775807:=by unfold maxLen at cp;omega
    have⟨bn,bo,bS⟩:=ae3 aK aL b2;clear aK aL b2 cp bc cq b9
    by_cases a9:k=0
    ·subst a9;have ab:B 0=.int .u8 0:=rfl;rw[ab] at a7;have hcut:=λW=>qd W bb bd nb c0 cm co cX
     obtain⟨AV,bt⟩:=aH (if c0=1 then some (⟨bb,bd,none⟩:Addr) else some ⟨bb,bd+1,none⟩);rw[bt] at hcut;have cd:=be.x.drop 1 (by have:=bn.x;omega);have ce:aO Q f (.slice AV r.length (c0-1)) r:=by rw[<- bt];exact cd
     rw[bo.x] at hcut;have b5:=ce.keep (w':=w3) λq _ bI=>av.x.block q bI
     have a3:=B4 w3 (bR HT.x h3 U.x) (au h3 U.x.size) u f.heap.size M _ cG.x Q AV (c0-1) r b5 (λq I=>aw (bQ.x q I).2 av.x.size) (by have:=bS.x;rw[bn.x] at this;have:=bo.x;omega);unfold ii at a3;obtain⟨O,hO⟩:=aH (eO (0::r));rw[hO] at a3;have⟨bO,bf⟩:=ae2 a3 hO;clear a3 hO b5 ce cd bt ab;go_wp2_with fail;rw[<- br.x];refine bO.x.mono ?_;rintro e w4 s;clear bO hcut;cases O with
     |none=>
      obtain⟨rfl,aQ⟩:=s
      have P:=ae (show fl w K M (eZ M) (.returned (.tuple #[.pointer none,.int .i64 5])) w4 from by
       rw[az.x]
       have e:fh ((0::r)::L)=none:=by
        unfold fh;dsimp only;rw[bf.x]
       rw[e]
       exact⟨rfl,U.x.trans (aQ.below (λq I=>by have:=ad.x.size;omega) U.x.size)⟩)
      clear aQ;go_wp2;go_ret2;exact P.x
     |some p=>
      obtain⟨rfl,bz,aQ⟩:=s;obtain⟨l,S⟩:=p;have b4:=uP bf.x
      have bU:=ae (show fh ((0::r)::L)=(dj l S L).map λx=>(l,x) by
       unfold fh;dsimp only
       rw[bf.x])
      obtain⟨F1,bv⟩:=aP (.func (.func 51) #[.pointer (some ⟨f.heap.size,0,none⟩)] #[]:Value);obtain⟨F2,bw⟩:=aP (.func (.func 52) #[.pointer (some ⟨f.heap.size,0,none⟩)] #[]:Value);obtain⟨F3,bx⟩:=aP (.func (.func 53) #[.pointer (some ⟨f.heap.size,0,none⟩)] #[]:Value);obtain⟨v1,v2,T,g1,g2,g3,bB,F⟩:=B5 w4 F1 F2 F3;have cH:=ae (bz.keep bB);have c6:=bz.lt;have⟨cM,cL,cK⟩:=ae3 (show w4.heap.size≠f.heap.size by omega) F (show w4.heap.size<T.heap.size from lt_of_block F);have a5:aM (λq=>q=f.heap.size) w3 T:=aQ.trans (aM.of_below bB) λ_ hi=>.inl hi
      have⟨bV,bN,cQ,cA,cB,cC,bi⟩:=ae7 (show f.heap.size <= T.heap.size from au av.x.size a5.size) (show Kpt w T from U.x.trans (a5.below (λq I=>by have:=ad.x.size;omega) U.x.size)) (show ∀b,b<f.heap.size -> T.heap[b]?=f.heap[b]? from λb hb=>(a5.block b (by have:=av.x.size;omega) (by omega)).trans (av.x.block b hb)) bv bw bx b4;have b8:aY <= 9223372036854775807:=by unfold maxLen at cY;omega
      have ca:=λW=>DR W gb nL aY (by have:=aW.x;omega) bk.x b8
      obtain⟨AL,bs⟩:=aH (if aY=1 then some (⟨gb,0,none⟩:Addr) else some ⟨gb,1,none⟩);obtain⟨n,hn⟩:=aH L.length;have di:n <= 9223372036854775806:=by have:=aW.x;have:=bk.x;omega
      rw[bs,show nL-1=n by have:=aW.x;omega] at ca;have⟨cz,Hn⟩:=ae2 bs hn;rw[bv] at g1;rw[bw] at g2;rw[bx] at g3;clear bs hn bz aQ bB F a5 bv bw bx b4 c6 bC a7 c3 c5 c4 b1 cW cm cV cT b8 be bS bn bo
      have ax:=ae (show dj l S L=none -> ∀W,Kpt w W -> fl w K M (eZ M) (.returned (.tuple #[.pointer none,.int .i64 5])) W from λhn W hW=>by
       rw[az.x,bU.x,hn]
       exact⟨rfl,hW⟩)
      have cI:=ae (show ∀m,dj l S L=some m -> ∀W,Kpt w W -> UAt W u f.heap.size M ⟨l,m,⟨g,(0::r)::L,ao⟩⟩ -> fl w K M (eZ M) (.returned (.tuple #[.pointer (some ⟨f.heap.size,0,none⟩),.int .i64 0])) W from λm hn W hW hU=>by
       rw[az.x,bU.x,hn]
       exact⟨⟨_,u,rfl,cE.x,hU,cJ.x,ad.x.size⟩,hW⟩)
      go_wp2;clear g1 g2 g3 ca
      go_loopw [62] (λi wr=>∃(k:Nat)(m:aT),k <= n /\ i=.int .i64 (k:Int) /\ aV m=true /\ dj l S L=dj l m (L.drop k) /\ UAt wr u f.heap.size M ⟨l,m,⟨g,(0::r)::L,ao⟩⟩ /\ aM (λq=>q=f.heap.size) T wr) (λi _=>n-(intOf i).toNat)
      ·exact⟨0,S,by omega,rfl,bi.x.2,rfl,cH.x,aM.refl _ _⟩
      ·obtain⟨k,m,dh,rfl,ct,ar,hU,G⟩:=hrel;have cr:f.heap.size <= wr.heap.size:=au bV.x G.size;have al:∀q,q=f.heap.size -> w.heap.size <= q:=λq I=>by have:=ad.x.size;omega
       have a4:Kpt w wr:=bN.x.trans (G.below al bN.x.size)
       by_cases cj:k<n
       ·have c2:(k:Int)<(n:Int):=by omega
        have ci:k<L.length:=by rw[Hn.x];exact cj
        obtain⟨a1,db,x,cs,aG,bD⟩:=aX.x.elem (k+1) (by rw[aD];omega);have e1:a1=gb:=by simp at cs;omega
        subst e1;have aG:aO Q f x L[k]:=aG;have bL:L[k].length <= 65536:=aU.x.lens _ (List.mem_cons_of_mem _ (aC ci));have bE:L.drop k=L[k]::L.drop (k+1):=List.drop_eq_getElem_cons ci;obtain⟨y,cu⟩:=aH L[k];rw[cu] at aG bL bE;rw[bE] at ar;have cS:AL=some ⟨a1,1,none⟩:=by rw[<- cz.x];exact if_neg (by have:=bk.x;have:=aW.x;omega)
        subst cS;have bH:∀q,q<f.heap.size -> wr.heap[q]?=f.heap[q]?:=λq I=>(G.block q (by have:=bV.x;omega) (by omega)).trans (cQ.x q I)
        have a8:wr.cell? ⟨a1,1+k,none⟩=some x:=by
         rw[Nat.add_comm 1 k];unfold World.cell? at bD⊢;rw[bH a1 c1];exact bD
        have F:wr.heap[w4.heap.size]?=some (qc F1 F2 F3):=(G.block _ cK.x cM.x).trans cL.x;have⟨bl,HU,X,v,bm,bq⟩:=ae6 G hU ar a4 al ct;have ak:=aG.keep (w':=wr) λq _ bI=>bH q bI
        have⟨bP,bg⟩:=ae2 ak (show ∀q,Q q -> q<wr.heap.size from λq I=>aw (bQ.x q I).2 cr);clear ar bE cu bD cs G hU a4 aG bH al ct;cases y with
        |nil=>
         obtain⟨ay,Z,rfl,-⟩:=id ak;dsimp only[List.length_nil] at *;clear ak bP;go_wp2;go_ret2;exact ax.x X.x _ v.x
        |cons N C=>
         obtain⟨ay,Z,rfl,cv,cw,-,-⟩:=id ak;obtain⟨-,-,-,cx⟩:=ak.cells;obtain⟨an,oy,rfl,-,de,cb⟩:=cx.resolve_left (by simp);have E:=cb 0 (by simp);rw[Nat.add_zero,List.getElem_cons_zero] at E;obtain⟨ny,aN⟩:=aH ((N::C).length);rw[aN] at a8 cv;have aL:ny-1=C.length:=by rw[<- aN];rfl
         have cn:1 <= ny:=by rw[<- aN,aD];omega
         have dk:¬(ny:Int)=0:=by omega
         have dl:(0:Int)<(ny:Int):=by omega
         have cc:Z <= 9223372036854775807:=by unfold maxLen at cw;omega
         have hcut:=λW=>qd W an oy ny Z cn cv cc
         obtain⟨aR,bu⟩:=aH (if Z=1 then some (⟨an,oy,none⟩:Addr) else some ⟨an,oy+1,none⟩);rw[bu,aL] at hcut;have cf:=ak.drop 1 (by rw[aN];exact cn);have b6:aO Q wr (.slice aR C.length (Z-1)) C:=by rw[<- bu];exact cf
         have bp:=ae (show C.length <= 400000 by rw[aD] at bL;omega);have ab:B N=.int .u8 (N.toNat:Int):=rfl;rw[ab] at E;have bj:=ae b6;clear ak bP cx cb aN cf b6 bu bL ab cw cc aL
         by_cases h1:N=1
         ·skip
          subst h1;have E:wr.cell? ⟨an,oy,none⟩=some (.int .u8 1):=E;have R:=FM F;rw[cA.x] at R;have s:=Fl.1 wr (bR HT.x h3 v.x) (au h3 v.x.size) u f.heap.size M _ HU.x bi.x.1 bq.x Q aR (Z-1) C bj.x bg.x bp.x;dsimp only at s;obtain⟨o,H⟩:=aH (ef l m (1::C));rw[H] at s;have⟨V,D⟩:=ae2 s H;clear s H;go_wp2_with fail;refine V.x.mono ?_;rintro e w6 hp;clear V R hcut a8 E F;cases o with
          |none=>
           obtain⟨rfl,t⟩:=hp;have ag:=ae (ax.x (by rw[X.x];unfold dj;rw[D.x]) w6 (v.x.trans (t.below bm.x v.x.size)));clear t;go_wp2;go_ret2;exact ag.x
          |some A=>
           obtain⟨rfl,aa,t⟩:=hp
           have aF:=ae (show aV A=true /\ dj l S L=dj l A (L.drop (k+1)) /\ UAt w6 u f.heap.size M ⟨l,A,⟨g,(0::r)::L,ao⟩⟩ /\ aM (λq=>q=f.heap.size) T w6 from
            ⟨ms D.x,by rw[X.x];conv=>lhs;unfold dj
                       rw[D.x],aa,bl.x.trans t λ_ hi=>.inl hi⟩)
           clear aa t;go_wp2
           go_roundw
           ·exact⟨k+1,A,by omega,by go_num,aF.x⟩
           ·simp[intOf];omega
         ·by_cases h2:N=2
          ·skip
           subst h2;have E:wr.cell? ⟨an,oy,none⟩=some (.int .u8 2):=E;have R:=FN F;rw[cB.x] at R;have s:=Fl.2 wr (bR HT.x h3 v.x) (au h3 v.x.size) u f.heap.size M _ HU.x bi.x.1 bq.x Q aR (Z-1) C bj.x bg.x bp.x;dsimp only at s;obtain⟨o,H⟩:=aH (ef l m (2::C));rw[H] at s;have⟨V,D⟩:=ae2 s H;clear s H;go_wp2_with fail;refine V.x.mono ?_;rintro e w6 hp;clear V R hcut a8 E F;cases o with
           |none=>
            obtain⟨rfl,t⟩:=hp;have ag:=ae (ax.x (by rw[X.x];unfold dj;rw[D.x]) w6 (v.x.trans (t.below bm.x v.x.size)));clear t;go_wp2;go_ret2;exact ag.x
           |some A=>
            obtain⟨rfl,aa,t⟩:=hp
            have aF:=ae (show aV A=true /\ dj l S L=dj l A (L.drop (k+1)) /\ UAt w6 u f.heap.size M ⟨l,A,⟨g,(0::r)::L,ao⟩⟩ /\ aM (λq=>q=f.heap.size) T w6 from
             ⟨ms D.x,by rw[X.x];conv=>lhs;unfold dj
                        rw[D.x],aa,bl.x.trans t λ_ hi=>.inl hi⟩)
            clear aa t;go_wp2
            go_roundw
            ·exact⟨k+1,A,by omega,by go_num,aF.x⟩
            ·simp[intOf];omega
          ·by_cases a2:N=3
           ·skip
            subst a2;have E:wr.cell? ⟨an,oy,none⟩=some (.int .u8 3):=E;have R:=FO F;rw[cC.x] at R;have s:=Ag wr (bR HT.x h3 v.x) (au h3 v.x.size) u f.heap.size M _ HU.x  bq.x Q aR (Z-1) C bj.x bg.x bp.x;dsimp only at s;obtain⟨o,H⟩:=aH (ef l m (3::C));rw[H] at s;have⟨V,D⟩:=ae2 s H;clear s H;go_wp2_with fail;refine V.x.mono ?_;rintro e w6 hp;clear V R hcut a8 E F;cases o with
            |none=>
             obtain⟨rfl,t⟩:=hp;have ag:=ae (ax.x (by rw[X.x];unfold dj;rw[D.x]) w6 (v.x.trans (t.below bm.x v.x.size)));clear t;go_wp2;go_ret2;exact ag.x
            |some A=>
             obtain⟨rfl,aa,t⟩:=hp
             have aF:=ae (show aV A=true /\ dj l S L=dj l A (L.drop (k+1)) /\ UAt w6 u f.heap.size M ⟨l,A,⟨g,(0::r)::L,ao⟩⟩ /\ aM (λq=>q=f.heap.size) T w6 from
              ⟨ms D.x,by rw[X.x];conv=>lhs;unfold dj
                         rw[D.x],aa,bl.x.trans t λ_ hi=>.inl hi⟩)
             clear aa t;go_wp2
             go_roundw
             ·exact⟨k+1,A,by omega,by go_num,aF.x⟩
             ·simp[intOf];omega
           ·have ba:∀j:Nat,j<256 -> N≠UInt8.ofNat j -> ¬(N.toNat:Int)=(j:Int):=λj hj h e=>h (by
             have e':N.toNat=j:=by omega
             rw[<- e']
             simp)
            obtain⟨z,R⟩:=FP F (N.toNat:Int) (ba 1 (by decide) h1) (ba 2 (by decide) h2) (ba 3 (by decide) a2)
            have cP:=ae (show ef l m (N::C)=none by
             unfold ef;dsimp only
             rw[if_neg a2,if_neg h1,if_neg h2])
            have cF:=ae (show dj l S L=none by
             rw[X.x];unfold dj
             rw[cP.x])
            clear h1 h2 a2 ba hcut;go_wp2;go_ret2;exact ax.x cF.x _ v.x
       ·have c2:¬(k:Int)<(n:Int):=by omega
        have ch:L.drop k = []:=List.drop_eq_nil_of_le (by rw[Hn.x];omega);rw[ch] at ar;have ag:=ae (cI.x m ar wr a4 hU);clear ar ch hU G a4 cj al cr;go_wp2;go_ret2;exact ag.x
    ·have dg:¬(k.toNat:Int)=0:=λe=>a9 (UInt8.toNat_inj.1 (by simpa using e))
     have ab:B k=.int .u8 (k.toNat:Int):=rfl;rw[ab] at a7
     have P:=ae (show fl w K M (eZ M) (.returned (.tuple #[.pointer none,.int .i64 5])) w3 from by
      rw[az.x]
      have e:fh ((k::r)::L)=none:=by
       unfold fh eO;dsimp only;rw[if_neg a9]
      rw[e]
      exact⟨rfl,U.x⟩)
     clear a9 ab;go_wp2;rw[<- br.x];go_ret2;exact P.x
end
section
open Go.Lib
attribute [local go_sem] opC upC
attribute [local go_sem ↓] oz
theorem B7{b:List UInt8}(h:60000<b.length):e9 b=(.empty,5):=by
 refine(Em b).resolve_left λa=>?_
 obtain⟨d,c⟩:=El a;have:=(cX d).2.2.2;rw[c] at this;omega
theorem pA(c:Option Addr)(d:Nat)(b:List UInt8)(f:aO F w (.slice c b.length d) b)(hF:∀q,F q -> q<w.heap.size)(s:b.length <= 400000):
 Calls aE 134 #[.slice c b.length d] w (AR w b):=by
 by_cases m:b.length <= 60000
 ·exact yk w F c d b f hF m
 ·have h:=B7 (b:=b) (by omega);have r:(60000:Int)<(b.length:Int):=by omega
  obtain⟨j,a⟩:=aP (w.alloc (.cells #[.slice none 0 0,.slice none 0 0,.slice none 0 0] 75));have g:Kpt w j:=by rw[a];exact aI _ _
  have i:Blk j w.heap.size [.slice none 0 0,.slice none 0 0,.slice none 0 0] 75:=by rw[a];exact Blk.new _ _ _
  have⟨Q,k,e,l⟩:=ae4 (aS i) g h a;clear i g a h f hF
  go_enter func134,ntmps134
  go_wp2;rw[<- l.x];obtain⟨n,o,p⟩:=Q.x;exact bodyPost_ret (v:=.tuple #[.agg #[.slice none 0 0,.slice none 0 0,.slice none 0 0],.int .i64 5]) (by simp[results,results134,go_sem,n,o,p]) rfl ⟨_,by rw[e.x],by rw[e.x];exact gD _ _,k.x⟩
theorem DS(p:aT×Int):(okR p).isSome=(p.2 == 0):=by
 unfold okR
 by_cases h:p.2=0
 ·rw[if_pos h,h];rfl
 ·rw[if_neg h,beq_eq_false_iff_ne.2 h];rfl
theorem ce.set3{c d e:Value}(h:ce G W c d e r)(hF:∀q,G q -> q≠i)(g j k:Value):ce G (((W.setCell ⟨i,0,none⟩ g).setCell ⟨i,1,none⟩ j).setCell ⟨i,2,none⟩ k) c d e r:=
 h.keep λq f _=>by
  have a:=hF q f;rw[Below.heap_setCell _ ⟨i,2,none⟩ _ q a,Below.heap_setCell _ ⟨i,1,none⟩ _ q a,Below.heap_setCell _ ⟨i,0,none⟩ _ q a]
def B8(w:World)(o:Option aT)(e:Ending)(a:World):Prop:=∃r y,e=.returned (.tuple #[r,.bool o.isSome]) /\ di (λq=>w.heap.size <= q) a r y /\ (∀x,o=some x -> y=x) /\ Kpt w a
theorem Ah(h:di F w v m)(hv:aV m=true)(d:Nat)(hd:d<8)(G:aQ)(av:Option Addr)(ag:Nat)(b:List UInt8)(hB:aO G w (.slice av b.length ag) b)(hl:b.length <= 65536):
 Calls aE 135 #[v,.int .i64 (d:Int),.slice av b.length ag] w (B8 w (ef d m b)):=by
 replace h:=h.mono (G:=λq=>q<w.heap.size) λq _ ai=>ai
 replace hB:=hB.insideU
 have a8:=ae (show(∀x∈m.items,x.key.length <= 1000000000) /\ ∀x∈m.gone,x.key.length <= 1000000000 from⟨λx j=>au ((cO hv).1 x j) (by decide),λx j=>au ((cO hv).2 x j) (by decide)⟩)
 replace h:=qU h 75
 obtain⟨a1,p1,a2,p2,a3,p3,wx,rfl,ba,bf,bv,Hx,bW⟩:=h;obtain⟨n,aJ⟩:=aP (wx.alloc (.cells #[.slice none 0 0,.slice none 0 0,.slice none 0 0] 75));have bD:Kpt w n:=by rw[aJ];exact bf.x.alloc bf.x.size _
 have bP:n.heap.size=w.heap.size+2:=by rw[aJ];simp[bv.x]
 have k1:Blk n w.heap.size [.slice a1 m.seen.length p1,.slice a2 m.items.length p2,.slice a3 m.gone.length p3] 75:=by rw[aJ];exact bW.x.alloc _
 have k2:Blk n (w.heap.size+1) [.slice none 0 0,.slice none 0 0,.slice none 0 0] 75:=by
  have:=Blk.new wx #[.slice none 0 0,.slice none 0 0,.slice none 0 0] 75;rw[aJ,<- bv.x];exact this
 have A:=ae (show ∀W,Kpt n W -> Kpt w W /\ Blk W w.heap.size [.slice a1 m.seen.length p1,.slice a2 m.items.length p2,.slice a3 m.gone.length p3] 75 /\ Blk W (w.heap.size+1) [.slice none 0 0,.slice none 0 0,.slice none 0 0] 75 /\ ce (λb=>b<w.heap.size) W (.slice a1 m.seen.length p1) (.slice a2 m.items.length p2) (.slice a3 m.gone.length p3) m /\ aO (λq=>q<w.heap.size) W (.slice av b.length ag) b from λW hb=>by
  have bj:Kpt w W:=bD.trans (hb.mono (by omega))
  exact⟨bj,k1.keep (hb.block _ k1.lt),k2.keep (hb.block _ k2.lt),Hx.x.keep (w':=W) λb ai _=>(bj.block b ai).trans (bf.x.block b ai).symm,hB.keep (w':=W) λb ai _=>bj.block b ai⟩)
 have⟨a9,aR,HB⟩:=ae3 aJ bP hB;obtain⟨o,ho⟩:=aH (ef d m b);rw[ho];have Ho:=ae ho;clear aJ bD bP hB ho;cases b with
 |nil=>
  have T:=ae (show o=none from Ho.x.symm);obtain⟨bB,-,a,-⟩:=A.x n (Below.refl _ _);clear k1 k2 A HB;dsimp only[List.length_nil]
  go_enter func135,ntmps135
  have⟨Q,C⟩:=ae2 (aS a) bB;clear a bB;go_wp2;rw[<- ba.x,<- a9.x];obtain⟨I,J,K⟩:=Q.x;exact bodyPost_ret (v:=.tuple #[.agg #[.slice none 0 0,.slice none 0 0,.slice none 0 0],.bool false]) (by simp[results,results135,go_sem,I,J,K]) rfl ⟨_,.empty,by rw[T.x];rfl,gD _ _,by rw[T.x];exact nofun,C.x⟩
 |cons E t=>
  obtain⟨-,bF,bH,bI⟩:=HB.x.cells;obtain⟨P,R,rfl,ch,b1,bG⟩:=bI.resolve_left (by simp);have ak:=bG 0 (by simp);rw[Nat.add_zero,List.getElem_cons_zero,show B E=.int .u8 (E.toNat:Int) from rfl] at ak;have be:=ae (show ∀W,Kpt n W -> W.cell? ⟨P,R,none⟩=some (.int .u8 (E.toNat:Int)) /\ True from λW hW=>⟨((A.x W hW).1.cell (p:=⟨P,R,none⟩) b1).trans ak,trivial⟩);obtain⟨e0,-⟩:=be.x n (Below.refl _ _);obtain⟨H,aG⟩:=aH ((E::t).length);have bN:H-1=t.length:=by rw[<- aG];rfl
  have b5:1 <= H:=by rw[<- aG,aD];omega
  have b0:¬(H:Int)=0:=by omega
  have ci:((H:Int) == 0)=false:=beq_eq_false_iff_ne.2 b0;have cg:(1:Int) <= (H:Int):=by omega
  have cf:(0:Int)<(H:Int):=by omega
  have b2:ag <= 9223372036854775807:=by unfold maxLen at bH;omega
  have b3:H <= ag:=by rw[<- aG];exact bF
  have⟨bh,HL⟩:=ae2 (show t.length <= 65536 by rw[aD] at hl;omega) (vI n _ (some ⟨P,R,none⟩) ag (E::t) 1 (A.x n (Below.refl _ _)).2.2.2.2 (by simp) (by omega));rw[show(E::t).drop 1=t from rfl] at HL;rw[aG] at HL⊢;have⟨cb,bV⟩:=ae2 aG bN;clear bI bG bF bH hl k1 k2 aG bN
  by_cases aY:E=3
  ·subst aY;have ak:w.cell? ⟨P,R,none⟩=some (.int .u8 3):=ak;have e0:n.cell? ⟨P,R,none⟩=some (.int .u8 3):=e0;have hcut:=λW=>qd W P R H ag b5 b3 b2
   obtain⟨AV,bi⟩:=aH (if ag=1 then some (⟨P,R,none⟩:Addr) else some ⟨P,R+1,none⟩);rw[bi,bV.x] at hcut;have bJ:=(A.x n (Below.refl _ _)).2.2.2.2.drop 1 (by simp);have bK:aO (λq=>q<w.heap.size) n (.slice AV t.length (ag-1)) t:=by rw[<- bi];exact bJ
   have hD:=pA n _ AV (ag-1) t bK (λq s=>by have:=aR.x;have bd:q<w.heap.size:=s;omega) (by have:=bh.x;omega);unfold AR at hD;obtain⟨⟨O,bA⟩,bk⟩:=aH (e9 t);have bm:=lJ (b:=t);rw[bk] at hD bm;have⟨HD,bt,bU⟩:=ae3 hD (show o=if bA=0 then okR (dh m O) else none by rw[<- Ho.x];unfold ef;dsimp only;rw[if_pos rfl,bk]) bm;clear bJ bK bi hD bk bm HL
   go_enter func135,ntmps135
   go_wp2_with fail;rw[<- ba.x,<- a9.x];refine HD.x.mono ?_;rintro e u ⟨r3,rfl,hb,c⟩;clear HD hcut
   replace hb:=qU hb 75
   obtain⟨bw,bQ,bx,bR,bz,bS,aL,rfl,bX,bT,cd,bY,cc⟩:=hb;have bl:Kpt n aL:=c.trans (bT.x.mono c.size);have a7:=ae bl;obtain⟨bC,aK,a,ao,-⟩:=A.x aL bl;obtain⟨c0,c1,c2⟩:=aS (A.x u c).2.1;have aF:=(A.x u c).2.2.1;have Y:=(A.x u c).1;have bE:w.heap.size<u.heap.size:=(A.x u c).2.1.lt;clear c bl
   by_cases h0:bA=0
   ·subst h0;have bs:=bU.x rfl;obtain⟨⟨x,er⟩,ar⟩:=aH (dh m O);have M:=Ac aL _ _ (.agg #[.slice a1 m.seen.length p1,.slice a2 m.items.length p2,.slice a3 m.gone.length p3]) (.agg #[.slice bw O.seen.length bQ,.slice bx O.items.length bR,.slice bz O.gone.length bS]) m O ⟨_,_,_,rfl,ao⟩ ⟨_,_,_,rfl,bY.x⟩ a8.x.1 a8.x.2 (λx j=>au ((cO bs).1 x j) (by decide)) (λx j=>au ((cO bs).2 x j) (by decide));rw[ar] at M;have⟨HC,aM⟩:=ae2 M (show o=okR (x,er) by rw[bt.x,if_pos rfl,ar]);clear M ar a bC ao aK bs aF Y;go_wp2_with fail;rw[<- bX.x];refine HC.x.mono ?_;rintro e w6 ⟨r6,rfl,⟨b8,b9,ca,rfl,j⟩,aW⟩;obtain⟨U,aa,rfl,-⟩:=j.seen.shape;obtain⟨V,ab,rfl,-⟩:=j.items.shape;obtain⟨X,ad,rfl,-⟩:=j.gone.shape;have aX:Kpt n w6:=a7.x.trans (aW.mono a7.x.size);obtain⟨aU,-,a,-⟩:=A.x w6 aX;have bM:w.heap.size+1<w6.heap.size:=a.lt;obtain⟨L,i,g,f⟩:=dX a aU (Nat.le_succ _) (.slice U x.seen.length aa) (.slice V x.items.length ab) (.slice X x.gone.length ad);obtain⟨S,Z⟩:=aP (L.alloc (.cells #[.slice U x.seen.length aa,.slice V x.items.length ab,.slice X x.gone.length ad] 75));have N:Kpt L S:=by rw[Z];exact aI _ _
    obtain⟨y0,y1,y2⟩:=aS a;have z0:=a.free 0;have z1:=a.free 1;have z2:=a.free 2;have Q:=ae (aS (g.keep (N.block _ g.lt)))
    have a4:ce (λq=>aL.heap.size <= q) L (.slice U x.seen.length aa) (.slice V x.items.length ab) (.slice X x.gone.length ad) x:=by
     rw[i];exact j.set3 (λq s=>by have:=a7.x.size;have:=aR.x;have bd:aL.heap.size <= q:=s;omega) _ _ _
    have⟨aN,C,D,an⟩:=ae4 (show di (λq=>w.heap.size <= q) S (.agg #[.slice U x.seen.length aa,.slice V x.items.length ab,.slice X x.gone.length ad]) x from⟨_,_,_,rfl,(a4.keep (w':=S) λq _ ai=>N.block q ai).mono λq s _=>by have:=a7.x.size;have:=aR.x;have bd:aL.heap.size <= q:=s;show w.heap.size <= q;omega⟩) (show Kpt w S from f.trans (N.mono f.size)) i Z;obtain⟨m1,ax⟩:=aH x.seen.length;obtain⟨O,ay⟩:=aH x.items.length;obtain⟨m3,az⟩:=aH x.gone.length;rw[ax,ay,az] at Q aN D an;rw[ax,ay,az];clear i Z g f N a4 j aW aX aU a HC ax ay az c0 c1 c2 bE;go_wp2;rw[<- D.x];rw[<- an.x];obtain⟨I,J,K⟩:=Q.x;exact bodyPost_ret (v:=.tuple #[.agg #[.slice U m1 aa,.slice V O ab,.slice X m3 ad],.bool (er == 0)]) (by simp[results,results135,go_sem,I,J,K]) rfl ⟨_,x,by rw[aM.x,DS],aN.x,λz hz=>(mp (aM.x.symm.trans hz)).2,C.x⟩
   ·have T:=ae (show o=none by rw[bt.x,if_neg h0]);clear aK ao c0 c1 c2 bE a bC;obtain⟨L,i,g,f⟩:=dX aF Y (Nat.le_succ _) (.slice none 0 0) (.slice none 0 0) (.slice none 0 0);obtain⟨S,Z⟩:=aP (L.alloc (.cells #[.slice bw O.seen.length bQ,.slice bx O.items.length bR,.slice bz O.gone.length bS] 75));have N:Kpt L S:=by rw[Z];exact aI _ _
    have bM:=aF.lt;obtain⟨y0,y1,y2⟩:=aS aF;have z0:=aF.free 0;have z1:=aF.free 1;have z2:=aF.free 2;have⟨Q,C,D,an⟩:=ae4 (aS (g.keep (N.block _ g.lt))) (show Kpt w S from f.trans (N.mono f.size)) i Z;clear i Z g f N;go_wp2;rw[<- D.x];rw[<- an.x];obtain⟨I,J,K⟩:=Q.x;exact bodyPost_ret (v:=.tuple #[.agg #[.slice none 0 0,.slice none 0 0,.slice none 0 0],.bool false]) (by simp[results,results135,go_sem,I,J,K]) rfl ⟨_,.empty,by rw[T.x];rfl,gD _ _,by rw[T.x];exact nofun,C.x⟩
  ·have b4:¬(E.toNat:Int)=3:=λe=>aY (UInt8.toNat_inj.1 (by show E.toNat=3;omega))
   obtain⟨oL,br⟩:=aH (rdL t);rw[br] at HL;have bu:=ae br;clear br
   by_cases bp:E=1 \/ E=2
   ·rcases bp with rfl|rfl
    case' inl=>
     obtain⟨op,bn,bc⟩:∃op,Du 121 op /\ ef d m (1::t)=(match rdL t with|some (l,[])=>okR (op m d l)|_=>none):=⟨iB,EQ.1,by unfold ef;dsimp only;rw[if_neg (by decide),if_pos rfl];rcases rdL t with _|⟨_,_|_⟩<;>rfl⟩
     have ak:w.cell? ⟨P,R,none⟩=some (.int .u8 1):=ak;have e0:n.cell? ⟨P,R,none⟩=some (.int .u8 1):=e0
    case' inr=>
     obtain⟨op,bn,bc⟩:∃op,Du 124 op /\ ef d m (2::t)=(match rdL t with|some (l,[])=>okR (op m d l)|_=>none):=⟨dy,EQ.2,by unfold ef;dsimp only;rw[if_neg (by decide),if_neg (by decide),if_pos rfl];rcases rdL t with _|⟨_,_|_⟩<;>rfl⟩
     have ak:w.cell? ⟨P,R,none⟩=some (.int .u8 2):=ak;have e0:n.cell? ⟨P,R,none⟩=some (.int .u8 2):=e0
    all_goals
     rw[bu.x] at bc;have bg:=ae bc;clear aY b4 bc
     go_enter func135,ntmps135
     go_wp2_with fail;rw[<- ba.x,<- a9.x];refine HL.x.mono ?_;rintro e u M;clear HL;cases oL with
     |none=>
      obtain⟨c,rfl⟩:=M;have T:=ae (show o=none by rw[<- Ho.x,bg.x]);obtain⟨Y,-,a,-⟩:=A.x u c;clear c e0;obtain⟨L,i,g,f⟩:=dX a Y (Nat.le_succ _) (.slice none 0 0) (.slice none 0 0) (.slice none 0 0);obtain⟨y0,y1,y2⟩:=aS a;have z0:=a.free 0;have z1:=a.free 1;have z2:=a.free 2;have⟨Q,C,D⟩:=ae3 (aS g) f i;clear i g f;go_wp2
      skip
      rw[<- D.x];obtain⟨I,J,K⟩:=Q.x;exact bodyPost_ret (v:=.tuple #[.agg #[.slice none 0 0,.slice none 0 0,.slice none 0 0],.bool false]) (by simp[results,results135,go_sem,I,J,K]) rfl ⟨_,.empty,by rw[T.x];rfl,gD _ _,by rw[T.x];exact nofun,C.x⟩
     |some p=>
      obtain⟨l,r⟩:=p;obtain⟨c,al,cl,rfl,a0⟩:=M;obtain⟨Y,aK,a,ao,-⟩:=A.x u c;cases r with
      |cons y r'=>
       have T:=ae (show o=none by rw[<- Ho.x,bg.x]);obtain⟨q,s⟩:=aH (H-(y::r').length);have b6:¬(q:Int)=(H:Int):=by rw[aD] at s;omega
       rw[s];clear c s a0 aK ao e0;obtain⟨L,i,g,f⟩:=dX a Y (Nat.le_succ _) (.slice none 0 0) (.slice none 0 0) (.slice none 0 0);obtain⟨y0,y1,y2⟩:=aS a;have z0:=a.free 0;have z1:=a.free 1;have z2:=a.free 2;have⟨Q,C,D⟩:=ae3 (aS g) f i;clear i g f;go_wp2
       skip
       rw[<- D.x];obtain⟨I,J,K⟩:=Q.x;exact bodyPost_ret (v:=.tuple #[.agg #[.slice none 0 0,.slice none 0 0,.slice none 0 0],.bool false]) (by simp[results,results135,go_sem,I,J,K]) rfl ⟨_,.empty,by rw[T.x];rfl,gD _ _,by rw[T.x];exact nofun,C.x⟩
      |nil=>
       rw[show H-([]:List UInt8).length=H from rfl];have bL:=A7 bu.x;have bO:=(Rows.of_owns a0).mono (G:=λq=>q<u.heap.size) λq s _=>s.2
       have M:=(bn u _ (.agg #[.slice a1 m.seen.length p1,.slice a2 m.items.length p2,.slice a3 m.gone.length p3]) m ⟨_,_,_,rfl,ao⟩ a8.x.1 a8.x.2 (d:Int) _ (.slice al l.length cl) l bO (by have:=bh.x;omega) (λk hk=>by have:=bL.2 k hk;have:=bh.x;omega)).mono λ_ _ h=>h.post
       obtain⟨⟨x,er⟩,ar⟩:=aH (op m (d:Int) l);rw[ar] at M;have⟨HC,aM⟩:=ae2 M (show o=okR (x,er) by rw[<- Ho.x,bg.x];exact congrArg okR ar);obtain⟨c0,c1,c2⟩:=aS aK;obtain⟨bZ,-⟩:=be.x u c;have a6:=ae c;obtain⟨nl,aZ⟩:=aH l.length;rw[aZ] at HC⊢;clear M bn c a0 bL bO ar a Y ao aK aZ;go_wp2_with fail;refine HC.x.mono ?_;rintro e w6 ⟨r6,rfl,⟨b8,b9,ca,rfl,j⟩,aW⟩;obtain⟨U,aa,rfl,-⟩:=j.seen.shape;obtain⟨V,ab,rfl,-⟩:=j.items.shape;obtain⟨X,ad,rfl,-⟩:=j.gone.shape;have aX:Kpt n w6:=a6.x.trans (aW.mono a6.x.size);obtain⟨aU,-,a,-⟩:=A.x w6 aX;have bM:w.heap.size+1<w6.heap.size:=a.lt;obtain⟨L,i,g,f⟩:=dX a aU (Nat.le_succ _) (.slice U x.seen.length aa) (.slice V x.items.length ab) (.slice X x.gone.length ad);obtain⟨S,Z⟩:=aP (L.alloc (.cells #[.slice U x.seen.length aa,.slice V x.items.length ab,.slice X x.gone.length ad] 75));have N:Kpt L S:=by rw[Z];exact aI _ _
       obtain⟨y0,y1,y2⟩:=aS a;have z0:=a.free 0;have z1:=a.free 1;have z2:=a.free 2;have Q:=ae (aS (g.keep (N.block _ g.lt)))
       have a4:ce (λq=>u.heap.size <= q) L (.slice U x.seen.length aa) (.slice V x.items.length ab) (.slice X x.gone.length ad) x:=by
        rw[i];exact j.set3 (λq s=>by have:=a6.x.size;have:=aR.x;have bd:u.heap.size <= q:=s;omega) _ _ _
       have⟨aN,C,D,an⟩:=ae4 (show di (λq=>w.heap.size <= q) S (.agg #[.slice U x.seen.length aa,.slice V x.items.length ab,.slice X x.gone.length ad]) x from⟨_,_,_,rfl,(a4.keep (w':=S) λq _ ai=>N.block q ai).mono λq s _=>by have:=a6.x.size;have:=aR.x;have bd:u.heap.size <= q:=s;show w.heap.size <= q;omega⟩) (show Kpt w S from f.trans (N.mono f.size)) i Z;obtain⟨m1,ax⟩:=aH x.seen.length;obtain⟨O,ay⟩:=aH x.items.length;obtain⟨m3,az⟩:=aH x.gone.length;rw[ax,ay,az] at Q aN D an;rw[ax,ay,az];clear i Z g f N a4 j aW aX aU a HC ax ay az c0 c1 c2;go_wp2;rw[<- D.x];rw[<- an.x];obtain⟨I,J,K⟩:=Q.x;exact bodyPost_ret (v:=.tuple #[.agg #[.slice U m1 aa,.slice V O ab,.slice X m3 ad],.bool (er == 0)]) (by simp[results,results135,go_sem,I,J,K]) rfl ⟨_,x,by rw[aM.x,DS],aN.x,λz hz=>(mp (aM.x.symm.trans hz)).2,C.x⟩
   obtain⟨bo,bq⟩:=not_or.1 bp;have cj:¬(E.toNat:Int)=1:=λe=>bo (UInt8.toNat_inj.1 (by show E.toNat=1;omega))
   have ck:¬(E.toNat:Int)=2:=λe=>bq (UInt8.toNat_inj.1 (by show E.toNat=2;omega))
   have a5:=ae (show o=none by rw[<- Ho.x];unfold ef;dsimp only;rw[if_neg aY,if_neg bo,if_neg bq]);clear bo bq aY bp
   go_enter func135,ntmps135
   go_wp2_with fail;rw[<- ba.x,<- a9.x];refine HL.x.mono ?_;rintro e u M;clear HL;cases oL with
   |none=>
    obtain⟨c,rfl⟩:=M;obtain⟨Y,-,a,-⟩:=A.x u c;clear c e0;obtain⟨L,i,g,f⟩:=dX a Y (Nat.le_succ _) (.slice none 0 0) (.slice none 0 0) (.slice none 0 0);obtain⟨y0,y1,y2⟩:=aS a;have z0:=a.free 0;have z1:=a.free 1;have z2:=a.free 2;have⟨Q,C,D⟩:=ae3 (aS g) f i;clear i g f;go_wp2
    skip
    rw[<- D.x];obtain⟨I,J,K⟩:=Q.x;exact bodyPost_ret (v:=.tuple #[.agg #[.slice none 0 0,.slice none 0 0,.slice none 0 0],.bool false]) (by simp[results,results135,go_sem,I,J,K]) rfl ⟨_,.empty,by rw[a5.x];rfl,gD _ _,by rw[a5.x];exact nofun,C.x⟩
   |some p=>
    obtain⟨l,r⟩:=p;obtain⟨c,al,cl,rfl,a0⟩:=M;obtain⟨Y,-,a,-⟩:=A.x u c;obtain⟨bZ,-⟩:=be.x u c;obtain⟨nl,aZ⟩:=aH l.length;rw[aZ];obtain⟨q,s⟩:=aH (H-r.length);rw[s]
    by_cases b7:q=H
    case' pos=>subst b7
    case' neg=>have b6:¬(q:Int)=(H:Int):=by omega
    all_goals
     clear c a0 aZ s e0;obtain⟨L,i,g,f⟩:=dX a Y (Nat.le_succ _) (.slice none 0 0) (.slice none 0 0) (.slice none 0 0);obtain⟨y0,y1,y2⟩:=aS a;have z0:=a.free 0;have z1:=a.free 1;have z2:=a.free 2;have⟨Q,C,D⟩:=ae3 (aS g) f i;clear i g f;go_wp2
     skip
     rw[<- D.x];obtain⟨I,J,K⟩:=Q.x;exact bodyPost_ret (v:=.tuple #[.agg #[.slice none 0 0,.slice none 0 0,.slice none 0 0],.bool false]) (by simp[results,results135,go_sem,I,J,K]) rfl ⟨_,.empty,by rw[a5.x];rfl,gD _ _,by rw[a5.x];exact nofun,C.x⟩
end
section
open Go
section
variable {P:Program} {ops:Array Oper} {md:Region.Mode} {C:World -> World -> Prop} {lx:Nat} {pu:List Nat}
def Cp(p:Bool)(C:World -> World -> Prop)(w a:World):Prop:=p=true \/ C w a
theorem Cp.refl(p:Bool)(a:∀w,C w w)(w:World):Cp p C w w:=.inr (a w)
theorem Cp.trans(p:Bool)(d:∀a b c,C a b -> C b c -> C a c)(a b c:World)(h:Cp p C a b)(k:Cp p C b c):Cp p C a c:=by
 rcases h with h|h
 ·exact .inl h
 ·rcases k with k|k
  ·exact .inl k
  ·exact .inr (d _ _ _ h k)
def Ba(md:Region.Mode)(ops:Array Oper)(lx:Nat)(pu:List Nat):Bool:=
 (List.range ops.size).all λi=>(i == lx) || (mF md ops 12 (lZ md ops lx)).contains i || (mF md ops 12 (lZ md ops i)).contains lx || pu.contains i
theorem EV{p:Bool}{d e:Oper}{v:Value}(z:∀W,C W W)(s:∀a b c,C a b -> C b c -> C a c)(x:ops[i]?=some e)(y:i≠lx \/ p=true)(g:d.apart ops e=true)
 (r:∀f b,d.op≠.select f b) (A:∀f b,e.op≠.select f b) {K:Act -> World -> Prop} {a:Act}
 (t:fx P ops (Cp p C) d v a W) (h:stL P ops C lx i K (a.put d.dst v) W):
 stL P ops C lx i (λn m=>fx P ops (Cp p C) d v n m /\ K (n.put d.dst v) m) a W:=by
 obtain⟨o,q,B⟩:=Oper.apart_spec g;unfold stL at *;simp only[x] at *;rw[wanted_put e a d.dst v o] at h;split
 ·rename_i l;simp only[l,if_true] at h;unfold opC at *;rw[execOp_put e A a d.dst v o] at h;exact eV (λu m k=>⟨k.1,t.keep (Cp.trans p s) g r (y.elim (λh=>.inr (k.1.resolve_left h)) .inl),by rw[<- Act.put_comm a v u q];exact k.2⟩) h
 ·rename_i l;simp only[l] at h;exact⟨t.keep (Cp.trans p s) g r (.inr (z W)),by rw[<- Act.put_comm a v undef q];exact h⟩
theorem DT(h:Ba md ops lx pu=true){a:Array Bool}(f:kC md ops a)(g:i∈Region.ready md ops a)(j:lx∈Region.ready md ops a):i=lx \/ pu.contains i=true:=by
 obtain⟨d,o,n,_⟩:=mem_ready.1 g;have m:i<ops.size:=(Array.getElem?_eq_some_iff.1 n).1;have c:=List.all_eq_true.1 h i (by simpa using m);simp only[Bool.or_eq_true,beq_iff_eq] at c
 have l:∀k,a.getD k true=false -> a.getD k false=true -> False:=λk d this=>by
  rcases Nat.lt_or_ge k a.size with e|e
  ·simp[e] at d this;rw[d] at this;cases this
  ·simp[Array.getElem?_eq_none e] at this
 rcases c with((c|b)|b)|b
 ·exact .inl c
 ·exact(l i d (ir f 12 _ (iY j) i (by simpa using b))).elim
 ·exact(l lx (mem_ready.1 j).1 (ir f 12 _ (iY g) lx (by simpa using b))).elim
 ·exact .inr b
theorem qG{p:Bool}{o:Oper}{a:Act}(e:∀W,C W W)(d:ops[i]?=some o)(b:fx P ops (Cp p C) o u a W){K:Act -> World -> Prop}(h:K (a.put o.dst u) W):stL P ops C lx i K a W:=by
 refine fx.stL e d ?_ h;rcases b with⟨g,f⟩|b
 ·exact .inl ⟨g,λj c=>f j (.inr c)⟩
 ·exact .inr b
theorem pB{Q:Act -> World -> Prop}{p:Oper}(X:Ba md ops lx pu=true)(A:∀w,C w w)(aa:∀a b c,C a b -> C b c -> C a c)(y:ops[i]?=some p)(J:∀(j:Nat)(o:Oper) q b,ops[j]?=some o -> o.op≠.select q b):
 ∀(r:Nat)(d:Array Bool)(a:Act)(w:World),kC md ops d ->
  (∀j m,ops[j]?=some m -> j≠i -> d.getD j true=false -> (∀e∈m.after,Region.binds md e=true -> e.on≠i) -> p.apart ops m=true) ->
  i∈Region.ready md ops d -> fx P ops (Cp (pu.contains i) C) p u a w ->
  lY P md ops C lx Q r (d.setIfInBounds i true) (a.put p.dst u) w -> lY P md ops C lx Q (r+1) d a w:=by
 intro r
 induction r with
 |zero=>
  intro d a w _ _ g t H;refine⟨λh=>(by rw[h] at g;cases g),λj n=>?_⟩
  by_cases f:j=i
  ·subst f;exact(qG A y t H)
  ·have:=ready_mono n f;rw[H.1] at this;cases this
 |succ r ih=>
  intro d a w E F g t H;refine⟨λh=>(by rw[h] at g;cases g),λj n=>?_⟩
  by_cases f:j=i
  ·subst f;exact(qG A y t H)
  ·have l:=H.2 j (ready_mono n f);obtain⟨I,m,z,N⟩:=mem_ready.1 n
   have Z:∀e∈m.after,Region.binds md e=true -> e.on≠i:=λe R O S=>by
    have l:=N e R O;have B:=(mem_ready.1 g).1;rw[S] at l;rcases Nat.lt_or_ge i d.size with x|x
    ·simp[x] at B l;rw[B] at l;cases l
    ·simp[Array.getElem?_eq_none x] at l
   have U:j≠lx \/ pu.contains i=true:=by
    by_cases e:j=lx
    ·exact(DT X E g (e▸n)).elim (λh=>absurd (e.trans h.symm) f) .inr
    ·exact .inl e
   have M:=EV A aa z U (F j m z f I Z) (λq b=>J i p q b y) (λq b=>J j m q b z) t l
   have T:∀k s,ops[k]?=some s -> k≠i -> (d.setIfInBounds j true).getD k true=false ->
    (∀e∈s.after,Region.binds md e=true -> e.on≠i) -> p.apart ops s=true:=λk s V W K Y=>by
    refine F k s V W ?_ Y
    by_cases G:j=k
    ·subst G;exact I
    ·rw[getD_set_ne true G] at K;exact K
   refine xu (λL w' D=>ih (d.setIfInBounds j true) L w' (E.set n) T (ready_mono g (Ne.symm f)) D.1 ?_) M;rw[Array.setIfInBounds_comm _ _ f];exact D.2
def eP(P:Program)(ops:Array Oper)(C:World -> World -> Prop)(lx:Nat)(pu:List Nat)(Q:Act -> World -> Prop):List (Nat×Bool) -> Act -> World -> Prop
 |[],a,w=>Q a w
 |(i,true)::r,a,w=>match ops[i]? with
  |none=>False
  |some o=>if Region.wanted o (yielded ops a.tmps) then ∃v,(∀b,Cp (pu.contains i) C w b -> (execOp a.eval o).run P b=.ok (.value v) b) /\ eP P ops C lx pu Q r (a.put o.dst v) w else eP P ops C lx pu Q r (a.put o.dst undef) w
 |(i,false)::r,a,w=>match ops[i]? with
  |none=>False
  |some o=>if Region.wanted o (yielded ops a.tmps) then opC P o a w (λv b=>(i=lx \/ C w b) /\ eP P ops C lx pu Q r (a.put o.dst v) b) else eP P ops C lx pu Q r (a.put o.dst undef) w
theorem jS{Q:Act -> World -> Prop}(n:Ba md ops lx pu=true)(p:∀w,C w w)(r:∀a b c,C a b -> C b c -> C a c)(q:Region.noSelect ops=true):∀(l:List (Nat×Bool))(f:Array Bool)(a:Act)(w:World),
 kC md ops f -> kT md ops l f=true -> eP P ops C lx pu Q l a w -> lY P md ops C lx Q l.length f a w
 |[],_,_,_,_,k,h=>⟨by simpa[kT] using k,h⟩
 |(i,true)::l,f,a,w,m,k,h=>by
  simp only[kT,Bool.and_eq_true] at k;obtain⟨⟨e,x⟩,s⟩:=k;simp only[eP] at h;cases d:ops[i]? with
  |none=>simp[d] at h
  |some o=>
   simp only[d] at h
   by_cases g:Region.wanted o (yielded ops a.tmps)=true
   ·simp only[g,if_true] at h;obtain⟨v,t,z⟩:=h;exact pB n p r d (Region.noSelect_spec q) l.length f a w m (Region.free_spec d x) (by simpa using e) (.inl ⟨g,t⟩) (jS n p r q l _ _ _ (m.set (by simpa using e)) s z)
   ·simp only[g] at h;exact pB n p r d (Region.noSelect_spec q) l.length f a w m (Region.free_spec d x) (by simpa using e) (.inr ⟨by simpa using g,rfl⟩) (jS n p r q l _ _ _ (m.set (by simpa using e)) s h)
 |(i,false)::l,f,a,w,m,k,h=>by
  simp only[kT,Bool.and_eq_true] at k;obtain⟨e,s⟩:=k;have u:Region.ready md ops f = [i]:=by simpa using e
  simp only[eP] at h;refine⟨λd=>(by rw[u] at d;cases d),λj y=>?_⟩;rw[u] at y;obtain rfl:j=i:=by simpa using y
  have e:j∈Region.ready md ops f:=by rw[u];simp
  unfold stL;cases d:ops[j]? with
  |none=>simp[d] at h
  |some o=>
   simp only[d] at h;simp only;split
   ·rename_i g;simp only[g,if_true] at h;exact eV (λv A t=>⟨t.1,jS n p r q l _ _ _ (m.set (by simpa using e)) s t.2⟩) h
   ·rename_i g;simp only[g] at h;exact jS n p r q l _ _ _ (m.set (by simpa using e)) s h
theorem sY{Q:Exit -> Act -> World -> Prop}{a:Act}{l:List Oper}(C:World -> World -> Prop)(lx:Nat)(pu:List Nat)(d:List (Nat×Bool))(r:P.follows .mixedOrders=true)(j:(Region.noSelect l.toArray&&kT .any l.toArray d (Array.replicate d.length false)&&(d.length == l.length))=true)
 (q:Ba .any l.toArray lx pu=true) (s:∀W,C W W) (t:∀a b c,C a b -> C b c -> C a c)
 (h:eP P l.toArray C lx pu (λe g=>Q .normal e g) d a W.drew):(Code.region i l.toArray true).wp P Q a W:=by
 simp only[Bool.and_eq_true] at j;obtain⟨⟨m,n⟩,o⟩:=j;have p:d.length=l.length:=by simpa using o
 refine wp_region_any r (nR (C:=C) (lx:=lx) (Q:=λe g=>Q .normal e g) (λ_ _ h=>h) _ _ _ _ ?_);have:=jS (md:=.any) q s t m d _ a W.drew (λk f=>by simp[Array.getElem?_replicate] at f;split at f<;>simp at f) n h;rw[p] at this;simpa using this
theorem DU{Q:Act -> World -> Prop}{a:Act}(h:Q a W):eP P ops C lx pu Q [] a W:=h
theorem sZ{Q:Act -> World -> Prop}{o:Oper}{r:List (Nat×Bool)}{a:Act}(e:ops[i]?=some o)(j:Region.wanted o (yielded ops a.tmps)=true)(f:pu.contains i=false){v:Value}
 (g:∀b,C W b -> (execOp a.eval o).run P b=.ok (.value v) b)
 (h:∀K:Act -> Prop,(∀c,eP P ops C lx pu Q r c W -> K c) -> K (a.put o.dst v)):eP P ops C lx pu Q ((i,true)::r) a W:=by
 simp only[eP,e,j,if_true];exact⟨v,λb d=>g b (d.resolve_left (by rw[f];exact Bool.false_ne_true)),h _ (λ_ h=>h)⟩
theorem qe{Q:Act -> World -> Prop}{o:Oper}{r:List (Nat×Bool)}{a:Act}(d:ops[i]?=some o)(f:Region.wanted o (yielded ops a.tmps)=true){v:Value}
 (e:∀b,(execOp a.eval o).run P b=.ok (.value v) b)
 (h:∀K:Act -> Prop,(∀c,eP P ops C lx pu Q r c W -> K c) -> K (a.put o.dst v)):eP P ops C lx pu Q ((i,true)::r) a W:=by
 simp only[eP,d,f,if_true];exact⟨v,λb _=>e b,h _ (λ_ h=>h)⟩
theorem EW{Q:Act -> World -> Prop}{o:Oper}{r:List (Nat×Bool)}{a:Act}(d:ops[i]?=some o)(e:Region.wanted o (yielded ops a.tmps)=true)
 (h:∀K:Act -> World -> Prop,(∀c b,eP P ops C lx pu Q r c b -> K c b) -> opC P o a W (λv b=>(i=lx \/ C W b) /\ K (a.put o.dst v) b)):eP P ops C lx pu Q ((i,false)::r) a W:=by
 simp only[eP,d,e,if_true];exact h _ (λ_ _ h=>h)
theorem B9{Q:Act -> World -> Prop}{o:Oper}{r:List (Nat×Bool)}{a:Act}(g:i=lx)(d:ops[i]?=some o)(f:Region.wanted o (yielded ops a.tmps)=true)
 (h:∀K:Act -> World -> Prop,(∀c b,eP P ops C lx pu Q r c b -> K c b) -> opC P o a W (λv b=>K (a.put o.dst v) b)):eP P ops C lx pu Q ((i,false)::r) a W:=by
 simp only[eP,d,f,if_true];exact eV (λv b e=>⟨.inl g,e⟩) (h _ (λ_ _ h=>h))
end
attribute [irreducible] eP
end
section
open Go.Lib
attribute [local go_sem] opC upC told bE bm bF bp bq bG bH
theorem EX(b a n c k:Nat)(e:k <= n)(g:n <= c)(h:c <= 9223372036854775807):(SA 41 (.slice (some ⟨b,a,none⟩) n c) (some (.int .i64 (k:Int))) none none).run aE w=.ok (.slice (if c=k then some ⟨b,a,none⟩ else some ⟨b,a+k,none⟩) (n-k) (c-k)) w:=by
 have f:(k:Int) <= (n:Int):=by omega
 unfold SA
 by_cases d:c=k
 ·subst d;obtain rfl:n=c:=by omega
  go_simp
 ·rw[if_neg d];have i:¬(c-k=0):=by omega
  go_simp
attribute [local go_sem ↓] oz
def Ca(w:World)(o:Option (Nat×aT))(e:Ending)(a:World):Prop:=(match o with
 |none=>e=.returned (.tuple #[.int .i64 0,.agg #[.slice none 0 0,.slice none 0 0,.slice none 0 0],.bool false])
 |some (d,m)=>∃r,e=.returned (.tuple #[.int .i64 (d:Int),r,.bool true]) /\ di (λq=>w.heap.size <= q) a r m) /\ Kpt w a
theorem Ai(L:List (List UInt8))(hL:bU F w n v L)(dd:∀b∈L,b.length <= 65536):
 Calls aE 78 #[v] w (Ca w (fh L)):=by
 obtain⟨a,c1,rfl,cc,c8⟩:=hL.shape;obtain⟨h,ai⟩:=aP (w.alloc (.cells #[.slice none 0 0,.slice none 0 0,.slice none 0 0] 75));have b5:Kpt w h:=by rw[ai];exact aI _ _
 have j:Blk h w.heap.size [.slice none 0 0,.slice none 0 0,.slice none 0 0] 75:=by rw[ai];exact Blk.new _ _ _
 have dh:h.heap.size=w.heap.size+1:=by rw[ai];simp
 have H:∀W,Kpt h W -> Kpt w W /\ Blk W w.heap.size [.slice none 0 0,.slice none 0 0,.slice none 0 0] 75:=λW Z=>⟨b5.trans (Z.mono b5.size),j.keep (Z.block _ j.lt)⟩
 have HE:∀k (hk:k<L.length),∃g ax I,a=some ⟨g,0,none⟩ /\ g<w.heap.size /\ ∀W,Kpt w W -> W.cell? ⟨g,k,none⟩=some (.slice ax L[k].length I) /\ aO (λq=>q<w.heap.size) W (.slice ax L[k].length I) L[k]:=λk hk=>by
  obtain⟨g,ds,x,hv,hB,hc⟩:=hL.elem k hk;obtain⟨ax,I,rfl,-⟩:=id hB;simp at hv;obtain⟨rfl,-⟩:=hv;have hg:g<w.heap.size:=eK hc;exact⟨g,ax,I,rfl,hg,λW hW=>⟨(hW.cell (p:=⟨g,k,none⟩) hg).trans hc,hB.insideU.keep (w':=W) λq M _=>hW.block q M⟩⟩
 have bW:=dh;have bR:=dd;obtain⟨o,ho⟩:=aH (fh L);rw[ho];have Ho:=ho;cases L with
 |nil=>
  have J:o=none:=Ho.symm;obtain⟨aa,c⟩:=H h (Below.refl _ _);clear j H HE;dsimp only[List.length_nil]
  go_enter func78,ntmps78
  have⟨Q,m⟩:=ae2 (aS c) aa;clear c aa;go_wp2;rw[<- ai];obtain⟨A,C,D⟩:=Q.x;exact bodyPost_ret (v:=.tuple #[.int .i64 0,.agg #[.slice none 0 0,.slice none 0 0,.slice none 0 0],.bool false]) (by simp[results,results78,go_sem,A,C,D]) rfl (by rw[J];exact⟨rfl,m.x⟩)
 |cons b0 r=>
  obtain⟨g,ax,I,rfl,dx,Y⟩:=HE 0 (by simp);have Y:∀W,Kpt w W -> W.cell? ⟨g,0,none⟩=some (.slice ax b0.length I) /\ aO (λq=>q<w.heap.size) W (.slice ax b0.length I) b0:=Y
  obtain⟨nL,ba⟩:=aH ((b0::r).length);have cp:nL=r.length+1:=by rw[<- ba];rfl
  have df:¬(nL:Int)=0:=by omega
  have dw:((nL:Int) == 0)=false:=beq_eq_false_iff_ne.2 df;have dC:(0:Int)<(nL:Int):=by omega
  have cL:=ae cp;have c9:nL <= c1:=by rw[<- ba];exact cc
  have dD:nL <= 9223372036854775807:=by unfold maxLen at c8;omega
  rw[ba];have b4:b0.length <= 65536:=bR b0 List.mem_cons_self;have a5:=(Y w (Below.refl _ _)).1;have a4:=(Y h (H h (Below.refl _ _)).1).1;clear cc ba cp c9;cases b0 with
  |nil=>
   have J:o=none:=Ho.symm;obtain⟨aa,c⟩:=H h (Below.refl _ _);dsimp only[List.length_nil] at *;clear j H HE Y
   go_enter func78,ntmps78
   have⟨Q,m⟩:=ae2 (aS c) aa;clear c aa;go_wp2;rw[<- ai];obtain⟨A,C,D⟩:=Q.x;exact bodyPost_ret (v:=.tuple #[.int .i64 0,.agg #[.slice none 0 0,.slice none 0 0,.slice none 0 0],.bool false]) (by simp[results,results78,go_sem,A,C,D]) rfl (by rw[J];exact⟨rfl,m.x⟩)
  |cons kk S=>
   obtain⟨-,cb,cf,cg⟩:=(Y w (Below.refl _ _)).2.cells;obtain⟨bb,al,rfl,du,c5,cd⟩:=cg.resolve_left (by simp);have ad:=cd 0 (by simp);rw[Nat.add_zero,List.getElem_cons_zero,show B kk=.int .u8 (kk.toNat:Int) from rfl] at ad;have aR:=((H h (Below.refl _ _)).1.cell (p:=⟨bb,al,none⟩) c5).trans ad;obtain⟨N,a1⟩:=aH ((kk::S).length);have bc:N=S.length+1:=by rw[<- a1];rfl
   have c4:¬(N:Int)=0:=by omega
   have dv:((N:Int) == 0)=false:=beq_eq_false_iff_ne.2 c4;have dt:(0:Int)<(N:Int):=by omega
   have c6:I <= 9223372036854775807:=by unfold maxLen at cf;omega
   have c7:N <= I:=by rw[<- a1];exact cb
   have⟨bJ,cK,an,cz⟩:=ae4 Y bc a1 b4;rw[a1] at a5 a4;clear cg cd cb cf bc Y a1 b4
   by_cases bu:kk=0
   ·subst bu;have ad:w.cell? ⟨bb,al,none⟩=some (.int .u8 0):=ad;have aR:h.cell? ⟨bb,al,none⟩=some (.int .u8 0):=aR;have bo:=j6 h _ (some ⟨bb,al,none⟩) I (0::S) 1 (bJ.x h (H h (Below.refl _ _)).1).2 (by simp);obtain⟨oU,bx⟩:=aH (rdF S 9);have ar:ji (0::S) 1=iw N oU:=by unfold ji;rw[show(0::S).drop 1=S from rfl,bx,an.x]
    rw[ar,an.x] at bo;have⟨bK,az⟩:=ae2 bo bx;clear bo bx ar j
    go_enter func78,ntmps78
    go_wp2_with fail;rw[<- ai];refine bK.x.mono ?_;rintro e w2 ⟨rfl,aJ⟩;clear bK;obtain⟨aG,c⟩:=H w2 aJ;cases oU with
    |none=>
     have J:o=none:=by rw[<- Ho];unfold fh eO;dsimp only;rw[if_pos rfl,az.x]
     clear aJ a5 a4 ad aR;unfold iw;dsimp only;obtain⟨wf,z,u,s⟩:=dX c aG (aq _) (.slice none 0 0) (.slice none 0 0) (.slice none 0 0);obtain⟨y0,y1,y2⟩:=aS c;have z0:=c.free 0;have z1:=c.free 1;have z2:=c.free 2;have⟨Q,m,P⟩:=ae3 (aS u) s z;clear z u s;go_wp2
     skip
     rw[<- P.x];obtain⟨A,C,D⟩:=Q.x;exact bodyPost_ret (v:=.tuple #[.int .i64 0,.agg #[.slice none 0 0,.slice none 0 0,.slice none 0 0],.bool false]) (by simp[results,results78,go_sem,A,C,D]) rfl (by rw[J];exact⟨rfl,m.x⟩)
    |some p=>
     obtain⟨d,t⟩:=p;have ci:=jD az.x;have br:=k8 az.x;obtain⟨tl,bd⟩:=aH t.length;obtain⟨j,bv⟩:=aH (N-tl)
     have ar:iw N (some (d,t))=.tuple #[.int .u64 (d:Int),.int .i64 (j:Int),.bool true]:=by
      show Value.tuple #[.int .u64 (d:Int),.int .i64 ((N-t.length:Nat):Int),.bool true]=_;rw[bd,bv]
     rw[ar]
     by_cases h8:d<8
     ·have c2:¬(7:Int)<(d:Int):=by omega
      have bc:=cK.x
      have ca:(0::S).drop j=t:=by
       rw[br.2,show j=(S.length-t.length)+1 by omega,List.drop_succ_cons]
      obtain⟨bX,bY⟩:=bJ.x w2 aG;rw[an.x] at bX;have hcut:=λW=>EX W bb al N I j (by omega) c7 c6
      obtain⟨AV,bl⟩:=aH (if I=j then some (⟨bb,al,none⟩:Addr) else some ⟨bb,al+j,none⟩);rw[bl,show N-j=tl by omega] at hcut;have a9:=bY.drop j (by rw[an.x];omega);rw[Option.map_some,Addr.add_lit] at a9;have ch:aO (λq=>q<w.heap.size) w2 (.slice AV t.length (I-j)) t:=by rw[ca,an.x,show N-j=t.length by omega] at a9;rw[<- bl];exact a9
      have hD:=pA w2 _ AV (I-j) t ch (λq M=>by have:=aG.size;have cr:q<w.heap.size:=M;omega) (by have:=cz.x;rw[an.x] at this;omega);unfold AR at hD;obtain⟨⟨m0,er⟩,bn⟩:=aH (e9 t);have bt:=lJ (b:=t);rw[bn] at hD bt;rw[bd] at hD;have⟨HD,bN,cF,bg⟩:=ae4 hD (show eO (0::S)=if er=0 then some (d,m0) else none by unfold eO;dsimp only;rw[if_pos rfl,az.x];dsimp only;rw[if_pos h8,bn]) bt aJ;have dE:IntKind.i64.wrap (d:Int)=(d:Int):=af _ (by omega);clear a9 ch bl hD bn bt bY ca ci br bd bv ar aJ bc c aG a5 a4 ad aR;go_wp2_with fail;refine HD.x.mono ?_;rintro e O ⟨r3,rfl,Z,b7⟩;clear HD hcut bX;have aL:=bg.x.trans (b7.mono bg.x.size);have de:h.heap.size <= O.heap.size:=aL.size;have cj:∀q,w2.heap.size <= q -> q<O.heap.size -> w.heap.size<q /\ q≠O.heap.size:=λq h1 h2=>by have:=bg.x.size;have:=bW;omega
      replace Z:=Z.mono (G:=λq=>w.heap.size<q /\ q≠O.heap.size) λq M aU=>cj q M aU
      replace Z:=qU Z 75
      obtain⟨cX,dk,cY,dl,c0,dm,cv,rfl,cU,cE,cW,cV,cM⟩:=Z;have b8:Kpt h cv:=aL.trans (cE.x.mono aL.size);have cA:=ae b8;obtain⟨b1,ak⟩:=H O aL;clear b7 b8 aL cj
      by_cases h0:er=0
      ·subst h0;have⟨cP,bQ⟩:=ae2 (cF.x rfl) (show o=(dj d m0 r).map λx=>(d,x) by rw[<- Ho];unfold fh;dsimp only;rw[bN.x,if_pos rfl]);obtain⟨nt,bw⟩:=aH r.length;have dg:nL=nt+1:=by rw[<- bw];exact cL.x
       subst dg;have bT:=ae bw;have b3:O.heap.size<cv.heap.size:=by rw[cW.x];omega
       have⟨cw,cI⟩:=ae2 b3 de;clear ak b1 bw b3;go_wp2;rw[<- cU.x]
       go_loopw [7,10] (λok i wr=>∃(k:Nat)(x:aT)(s1:Option Addr)(U:Nat)(s2:Option Addr)(V:Nat)(s3:Option Addr)(X:Nat),k <= nt /\ i=.int .i64 ((k:Int)+1) /\ ok=.bool true /\ aV x=true /\ dj d m0 r=dj d x (r.drop k) /\ Blk wr O.heap.size [.slice s1 x.seen.length U,.slice s2 x.items.length V,.slice s3 x.gone.length X] 75 /\ ce (λq=>w.heap.size<q /\ q≠O.heap.size) wr (.slice s1 x.seen.length U) (.slice s2 x.items.length V) (.slice s3 x.gone.length X) x /\ Kpt h wr /\ O.heap.size<wr.heap.size) (λ_ i _=>nt+1-(intOf i).toNat)
       ·exact⟨0,m0,_,_,_,_,_,_,by omega,rfl,rfl,cP.x,rfl,cM.x,cV.x,cA.x,cw.x⟩
       ·obtain⟨k,x,s1,U,s2,V,s3,X,dA,rfl,rfl,be,a2,aN,aW,ao,bA⟩:=hrel;obtain⟨bm,c⟩:=H wr ao;have⟨dr,bV,cD,dp,cC,bf,dn,bi⟩:=ae8 be a2 aN aW ao bm c bA;obtain⟨l,a3⟩:=aP wr.drew;have ab:Kpt wr l:=by rw[a3];exact(Below.refl _ _).drew
        have bB:l.heap.size=wr.heap.size:=by rw[a3];rfl
        obtain⟨n1,aX⟩:=aH x.seen.length;obtain⟨n2,aY⟩:=aH x.items.length;obtain⟨n3,a0⟩:=aH x.gone.length;obtain⟨p0,p1,p2⟩:=aS (aN.keep (ab.block _ aN.lt));have pz:∀q y,l.cell? q=some y -> ∀E,aK l E -> E.cell? q=some y:=λq y hc E hh=>(hh.cell (p:=q) (eK hc)).trans hc
        have bG:=pz _ _ p0;have bH:=pz _ _ p1;have bI:=pz _ _ p2;have aM:Kpt h l:=ao.trans (ab.mono ao.size);have⟨bk,bO,bj⟩:=ae3 a3 aM bB;rw[aX] at bG;rw[aY] at bH;rw[a0] at bI
        by_cases dc:k<nt
        ·have da:(k:Int)+1<((nt+1:Nat):Int):=by omega
         have db:(k:Int)+1<(nt:Int)+1:=by omega
         have dz:(0:Int) <= (k:Int)+1:=by omega
         have cl:k<r.length:=by rw[bT.x];exact dc
         obtain⟨g',ay,cy,ck,-,b2⟩:=HE (k+1) (by rw[aD];omega);obtain rfl:g=g':=by simpa using ck
         obtain⟨a8,a6⟩:=b2 l (bf.x.trans (ab.mono bf.x.size));rw[List.getElem_cons_succ] at a8 a6;have bF:r[k].length <= 65536:=bR _ (List.mem_cons_of_mem _ (aC cl));have bs:r.drop k=r[k]::r.drop (k+1):=List.drop_eq_getElem_cons cl;obtain⟨y,ct⟩:=aH r[k];rw[ct] at a8 a6 bF bs;have cu:=pz _ _ a8;have co:=aW.keep (w':=l) λq _ aU=>ab.block q aU
         have hN:=Ah l _ (.agg #[.slice s1 x.seen.length U,.slice s2 x.items.length V,.slice s3 x.gone.length X]) x ⟨_,_,_,rfl,co⟩ be d h8 _ ay cy y a6 bF;rw[aX,aY,a0] at hN;obtain⟨ox,bz⟩:=aH (ef d x y);rw[bz] at hN;have⟨HN,bh,bP⟩:=ae3 hN bz bs;obtain⟨ny,cq⟩:=aH y.length;rw[cq] at cu HN;clear hN bz bs be a2 aN aW ao bA bm c ab aM co p0 p1 p2 pz a8 a6 b2 ct cq aX aY a0 a3 bB ck bF;go_wp2_with fail;refine sY aK 11 [10,12] [(0,true),(1,true),(2,true),(3,true),(4,true),(5,true),(6,true),(7,false),(8,true),(9,true),(10,true),(11,false),(12,true)] (by kernel_rfl) (by kernel_rfl) (by kernel_rfl) aZ bL ?_;rw[<- bk.x]
         repeat (first|(refine sZ (v:=?_) rfl (fS rfl) rfl (λE hC=>?_) (λK f=>?_);rotate_left;(focus (go_simp;(try simp(disch:=omega) only[af]);(try simp(disch:=omega) only[aj]);(try simp(disch:=omega) only[ap]);(try simp(disch:=omega) only[ah]);(try simp(disch:=omega) only[am]);first|done|exact rfl));go_simp;(try simp(disch:=omega) only[af]);(try simp(disch:=omega) only[aj]);(try simp(disch:=omega) only[ap]);(try simp(disch:=omega) only[ah]);(try simp(disch:=omega) only[am]);refine f _ ?_;clear f K)|(refine qe (v:=?_) rfl (fS rfl) (λE=>?_) (λK f=>?_);rotate_left;(focus (go_simp;(try simp(disch:=omega) only[af]);(try simp(disch:=omega) only[aj]);(try simp(disch:=omega) only[ap]);(try simp(disch:=omega) only[ah]);(try simp(disch:=omega) only[am]);first|done|exact rfl));go_simp;(try simp(disch:=omega) only[af]);(try simp(disch:=omega) only[aj]);(try simp(disch:=omega) only[ap]);(try simp(disch:=omega) only[ah]);(try simp(disch:=omega) only[am]);refine f _ ?_;clear f K))
         clear bG bH bI cu;refine EW rfl rfl (λKK f=>?_);go_simp;refine HN.x.mono ?_;rintro e w6 ⟨r6,T,rfl,ag,cs,a7⟩;refine⟨_,rfl,a7,f _ _ ?_⟩;clear f KK HN;go_simp;obtain⟨t1,t2,t3,rfl,ag⟩:=ag;obtain⟨f1,l1,rfl,-⟩:=ag.seen.shape;obtain⟨f2,l2,rfl,-⟩:=ag.items.shape;obtain⟨f3,l3,rfl,-⟩:=ag.gone.shape;have b6:Kpt h w6:=bO.x.trans (a7.mono bO.x.size);have kP:Blk w6 O.heap.size [.slice s1 x.seen.length U,.slice s2 x.items.length V,.slice s3 x.gone.length X] 75:=(cD.x.keep (w':=l) (by rw[bk.x];rfl)).keep (a7.block _ (by have:=bi.x;have:=bj.x;omega));obtain⟨w7,bD,bq,b9⟩:=dX kP b6 cI.x (.slice f1 T.seen.length l1) (.slice f2 T.items.length l2) (.slice f3 T.gone.length l3)
         have cn:ce (λq=>w.heap.size<q /\ q≠O.heap.size) w7 (.slice f1 T.seen.length l1) (.slice f2 T.items.length l2) (.slice f3 T.gone.length l3) T:=by
          rw[bD]
          exact(ag.set3 (λq M=>by have:=bi.x;have:=bj.x;have cr:l.heap.size <= q:=M;omega) _ _ _).mono λq M _=>by
           have h1:=bi.x;have h2:=bj.x;have h3:=bf.x.size;have h4:=cC.x.size;have h5:=bW;have cr:l.heap.size <= q:=M;exact⟨by omega,by omega⟩
         have⟨cJ,cB,bM,cN,cS,cQ⟩:=ae6 cn bq b9 (show O.heap.size<w7.heap.size from bq.lt) bD cs;obtain⟨y0,y1,y2⟩:=aS kP;have z0:=kP.free 0;have z1:=kP.free 1;have z2:=kP.free 2;clear ag cn bq b9 bD b6 a7 kP cs
         repeat (first|(refine sZ (v:=?_) rfl (fS rfl) rfl (λE hC=>?_) (λK f=>?_);rotate_left;(focus (go_simp;(try simp(disch:=omega) only[af]);(try simp(disch:=omega) only[aj]);(try simp(disch:=omega) only[ap]);(try simp(disch:=omega) only[ah]);(try simp(disch:=omega) only[am]);first|done|exact rfl));go_simp;(try simp(disch:=omega) only[af]);(try simp(disch:=omega) only[aj]);(try simp(disch:=omega) only[ap]);(try simp(disch:=omega) only[ah]);(try simp(disch:=omega) only[am]);refine f _ ?_;clear f K)|(refine qe (v:=?_) rfl (fS rfl) (λE=>?_) (λK f=>?_);rotate_left;(focus (go_simp;(try simp(disch:=omega) only[af]);(try simp(disch:=omega) only[aj]);(try simp(disch:=omega) only[ap]);(try simp(disch:=omega) only[ah]);(try simp(disch:=omega) only[am]);first|done|exact rfl));go_simp;(try simp(disch:=omega) only[af]);(try simp(disch:=omega) only[aj]);(try simp(disch:=omega) only[ap]);(try simp(disch:=omega) only[ah]);(try simp(disch:=omega) only[am]);refine f _ ?_;clear f K))
         refine B9 rfl rfl rfl (λKK f=>?_);go_simp;rw[<- cS.x];refine f _ _ ?_;clear f KK y0 y1 y2 z0 z1 z2;go_simp
         repeat (first|(refine sZ (v:=?_) rfl (fS rfl) rfl (λE hC=>?_) (λK f=>?_);rotate_left;(focus (go_simp;(try simp(disch:=omega) only[af]);(try simp(disch:=omega) only[aj]);(try simp(disch:=omega) only[ap]);(try simp(disch:=omega) only[ah]);(try simp(disch:=omega) only[am]);first|done|exact rfl));go_simp;(try simp(disch:=omega) only[af]);(try simp(disch:=omega) only[aj]);(try simp(disch:=omega) only[ap]);(try simp(disch:=omega) only[ah]);(try simp(disch:=omega) only[am]);refine f _ ?_;clear f K)|(refine qe (v:=?_) rfl (fS rfl) (λE=>?_) (λK f=>?_);rotate_left;(focus (go_simp;(try simp(disch:=omega) only[af]);(try simp(disch:=omega) only[aj]);(try simp(disch:=omega) only[ap]);(try simp(disch:=omega) only[ah]);(try simp(disch:=omega) only[am]);first|done|exact rfl));go_simp;(try simp(disch:=omega) only[af]);(try simp(disch:=omega) only[aj]);(try simp(disch:=omega) only[ap]);(try simp(disch:=omega) only[ah]);(try simp(disch:=omega) only[am]);refine f _ ?_;clear f K))
         refine DU ?_;cases ox with
         |none=>
          have J:o=none:=by
           rw[bQ.x,bV.x,bP.x];unfold dj;rw[bh.x];rfl
          obtain⟨c3,c⟩:=H w7 bM.x;dsimp only[Option.isSome_none];obtain⟨wf,z,u,s⟩:=dX c c3 (aq _) (.slice none 0 0) (.slice none 0 0) (.slice none 0 0);obtain⟨y0,y1,y2⟩:=aS c;have z0:=c.free 0;have z1:=c.free 1;have z2:=c.free 2;have⟨Q,m,P⟩:=ae3 (aS u) s z;clear z u s;go_wp2
          skip
          rw[<- P.x];obtain⟨A,C,D⟩:=Q.x;exact bodyPost_ret (v:=.tuple #[.int .i64 0,.agg #[.slice none 0 0,.slice none 0 0,.slice none 0 0],.bool false]) (by simp[results,results78,go_sem,A,C,D]) rfl (by rw[J];exact⟨rfl,m.x⟩)
         |some x'=>
          obtain rfl:T=x':=cQ.x x' rfl
          have cO:=ae (show dj d m0 r=dj d T (r.drop (k+1)) by
           rw[bV.x,bP.x]
           conv=>lhs;unfold dj
           rw[bh.x])
          have cR:=ae (ms bh.x);dsimp only[Option.isSome_some];go_wp2
          go_roundw
          ·exact⟨k+1,T,_,_,_,_,_,_,by omega,by go_num,rfl,cR.x,cO.x,cB.x,cJ.x,bM.x,cN.x⟩
          ·simp[intOf];omega
        ·have da:¬(k:Int)+1<((nt+1:Nat):Int):=by omega
         have db:¬(k:Int)+1<(nt:Int)+1:=by omega
         have cm:r.drop k = []:=List.drop_eq_nil_of_le (by rw[bT.x];omega);rw[cm] at a2;have cH:=ae (show o=some (d,x) by rw[bQ.x,a2];rfl);have bZ:Kpt w l:=(H l aM).1;have av:Blk l w.heap.size [.slice none 0 0,.slice none 0 0,.slice none 0 0] 75:=(H l aM).2;obtain⟨wf,z,u,s⟩:=dX av bZ (aq _) (.slice s1 x.seen.length U) (.slice s2 x.items.length V) (.slice s3 x.gone.length X)
         have bS:=ae (show di (λq=>w.heap.size <= q) wf (.agg #[.slice s1 x.seen.length U,.slice s2 x.items.length V,.slice s3 x.gone.length X]) x from⟨_,_,_,rfl,by
          rw[z]
          exact((aW.keep (w':=l) λq _ aU=>ab.block q aU).set3 (λq M=>Nat.ne_of_gt M.1) _ _ _).mono λq M _=>Nat.le_of_lt M.1⟩)
         obtain⟨y0,y1,y2⟩:=aS av;have z0:=av.free 0;have z1:=av.free 1;have z2:=av.free 2;have⟨Q,m,P⟩:=ae3 (aS u) s z;rw[aX,aY,a0] at Q bS P;clear cm a2 be aN aW ao bA bm c ab aM p0 p1 p2 pz z u s bZ av aX aY a0 a3 bB;go_wp2_with fail;refine dq aK 4 (up 4 [504,5]) (by kernel_rfl) ?_;rw[<- bk.x];apply bC;rfl;intro E hC;go_simp;(repeat (simp(disch:=omega) only[af,aj,ap,ah,am,if_pos];go_simp));exact aF;clear bG bH bI;refine cG rfl rfl rfl (λKK f=>?_);go_simp;rw[<- P.x];refine f _ _ ?_;clear f KK y0 y1 y2 z0 z1 z2;go_simp;apply bC;rfl;intro E hC;go_simp;(repeat (simp(disch:=omega) only[af,aj,ap,ah,am,if_pos];go_simp));exact aF;refine cZ ?_;go_wp2;obtain⟨A,C,D⟩:=Q.x;exact bodyPost_ret (v:=.tuple #[.int .i64 (d:Int),.agg #[.slice s1 n1 U,.slice s2 n2 V,.slice s3 n3 X],.bool true]) (by simp[results,results78,go_sem,A,C,D]) rfl (by rw[cH.x];exact⟨⟨_,rfl,bS.x⟩,m.x⟩)
      ·have J:o=none:=by rw[<- Ho];unfold fh;dsimp only;rw[bN.x,if_neg h0]
       obtain⟨wf,z,u,s⟩:=dX ak b1 (aq _) (.slice none 0 0) (.slice none 0 0) (.slice none 0 0);obtain⟨wg,bE⟩:=aP (wf.alloc (.cells #[.slice cX m0.seen.length dk,.slice cY m0.items.length dl,.slice c0 m0.gone.length dm] 75));have bp:Kpt wf wg:=by rw[bE];exact aI _ _
       have dB:=ak.lt;obtain⟨y0,y1,y2⟩:=aS ak;have z0:=ak.free 0;have z1:=ak.free 1;have z2:=ak.free 2;have⟨Q,m,P,cT⟩:=ae4 (aS (u.keep (bp.block _ u.lt))) (show Kpt w wg from s.trans (bp.mono s.size)) z bE;clear z bE u s bp;go_wp2;rw[<- P.x];rw[<- cT.x];obtain⟨A,C,D⟩:=Q.x;exact bodyPost_ret (v:=.tuple #[.int .i64 0,.agg #[.slice none 0 0,.slice none 0 0,.slice none 0 0],.bool false]) (by simp[results,results78,go_sem,A,C,D]) rfl (by rw[J];exact⟨rfl,m.x⟩)
     ·have c2:(7:Int)<(d:Int):=by omega
      have J:o=none:=by rw[<- Ho];unfold fh eO;dsimp only;rw[if_pos rfl,az.x];dsimp only;rw[if_neg h8]
      clear aJ a5 a4 ad aR ci br bd bv ar;obtain⟨wf,z,u,s⟩:=dX c aG (aq _) (.slice none 0 0) (.slice none 0 0) (.slice none 0 0);obtain⟨y0,y1,y2⟩:=aS c;have z0:=c.free 0;have z1:=c.free 1;have z2:=c.free 2;have⟨Q,m,P⟩:=ae3 (aS u) s z;clear z u s;go_wp2
      skip
      rw[<- P.x];obtain⟨A,C,D⟩:=Q.x;exact bodyPost_ret (v:=.tuple #[.int .i64 0,.agg #[.slice none 0 0,.slice none 0 0,.slice none 0 0],.bool false]) (by simp[results,results78,go_sem,A,C,D]) rfl (by rw[J];exact⟨rfl,m.x⟩)
   ·have dy:¬(kk.toNat:Int)=0:=λe=>bu (UInt8.toNat_inj.1 (by simpa using e))
    have J:o=none:=by rw[<- Ho];unfold fh eO;dsimp only;rw[if_neg bu]
    obtain⟨aa,c⟩:=H h (Below.refl _ _)
    go_enter func78,ntmps78
    have⟨Q,m⟩:=ae2 (aS c) aa;go_wp2;rw[<- ai];obtain⟨A,C,D⟩:=Q.x;exact bodyPost_ret (v:=.tuple #[.int .i64 0,.agg #[.slice none 0 0,.slice none 0 0,.slice none 0 0],.bool false]) (by simp[results,results78,go_sem,A,C,D]) rfl (by rw[J];exact⟨rfl,m.x⟩)
end
def mZ(r:BitVec 32):BitVec 32:=(r >>> 1) ^^^ (if r.getLsbD 0 then 0xEDB88320#32 else 0#32)
theorem pC(a b:BitVec 32):mZ (a ^^^ b)=mZ a ^^^ mZ b:=by
 unfold mZ;rw[BitVec.getLsbD_xor];have h:(a ^^^ b) >>> 1=(a >>> 1) ^^^ (b >>> 1):=BitVec.ushiftRight_xor_distrib a b 1;rw[h];generalize a >>> 1=p;generalize b >>> 1=q;generalize(0xEDB88320#32)=c;cases a.getLsbD 0<;>cases b.getLsbD 0
 ·simp
 ·simp[BitVec.xor_assoc]
 ·simp only[Bool.xor_false,if_true,Bool.false_eq_true,if_false,BitVec.xor_zero];rw[BitVec.xor_assoc,BitVec.xor_comm q c,<- BitVec.xor_assoc]
 ·simp only[Bool.xor_self,if_true,Bool.false_eq_true,if_false,BitVec.xor_zero];rw[BitVec.xor_assoc,BitVec.xor_comm q c,<- BitVec.xor_assoc c c q,BitVec.xor_self,BitVec.zero_xor]
theorem mV(q:BitVec 32)(h:q.getLsbD 0=false):mZ q=q >>> 1:=by
 unfold mZ;rw[h];simp
def s7(r:BitVec 32):BitVec 32:=mZ (mZ (mZ (mZ r)))
theorem DV(a b:BitVec 32):s7 (a ^^^ b)=s7 a ^^^ s7 b:=by
 unfold s7;rw[pC,pC,pC,pC]
theorem wh(q:BitVec 32)(n:Nat):(q >>> n).getLsbD 0=q.getLsbD n:=by
 rw[BitVec.getLsbD_ushiftRight];simp
theorem Cb(r:BitVec 32):s7 ((r >>> 4) <<< 4)=r >>> 4:=by
 have a:∀i,i<4 -> ((r >>> 4) <<< 4).getLsbD i=false:=λi hi=>by
  rw[BitVec.getLsbD_shiftLeft];simp[hi]
 unfold s7;rw[mV _ (a 0 (by omega))];rw[mV ((r >>> 4) <<< 4 >>> 1) (by rw[wh];exact a 1 (by omega))];rw[mV ((r >>> 4) <<< 4 >>> 1 >>> 1) (by rw[<- BitVec.shiftRight_add,wh];exact a 2 (by omega))];rw[mV ((r >>> 4) <<< 4 >>> 1 >>> 1 >>> 1) (by rw[<- BitVec.shiftRight_add,<- BitVec.shiftRight_add,wh];exact a 3 (by omega))];rw[<- BitVec.shiftRight_add,<- BitVec.shiftRight_add,<- BitVec.shiftRight_add];apply BitVec.eq_of_getLsbD_eq;intro i hi;rw[BitVec.getLsbD_ushiftRight,BitVec.getLsbD_shiftLeft]
 by_cases h:4+i<32
 ·simp[h]
 ·have:(r >>> 4).getLsbD i=false:=by rw[BitVec.getLsbD_ushiftRight];exact BitVec.getLsbD_of_ge _ _ (by omega)
  rw[this];simp[h]
theorem FQ(r:BitVec 32):r=((r >>> 4) <<< 4) ^^^ (r &&& 15#32):=by
 apply BitVec.eq_of_getLsbD_eq;intro i hi;rw[BitVec.getLsbD_xor,BitVec.getLsbD_shiftLeft,BitVec.getLsbD_and]
 by_cases h:i<4
 ·have:(15#32).getLsbD i=true:=by
   have:i=0 \/ i=1 \/ i=2 \/ i=3:=by omega
   rcases this with rfl|rfl|rfl|rfl<;>decide
  simp[h,this]
 ·have a:(15#32).getLsbD i=false:=by
   rw[BitVec.getLsbD_ofNat];have:Nat.testBit 15 i=false:=Nat.testBit_lt_two_pow (aw (by decide:15<2 ^ 4) (Nat.pow_le_pow_right (by omega) (by omega)));simp[this]
  rw[a,BitVec.getLsbD_ushiftRight];simp[h,hi]
  congr 1
  omega
theorem yu(r:BitVec 32):s7 r=nib r:=by
 have c:∀m:Nat,m<16 -> s7 (BitVec.ofNat 32 m)=i6.getD m 0#32:=by decide
 have d:(r &&& 15#32).toNat<16:=by
  rw[BitVec.toNat_and];exact Nat.lt_of_le_of_lt Nat.and_le_right (by decide)
 have a:=c _ d;rw[BitVec.ofNat_toNat,BitVec.setWidth_eq] at a;have b:s7 r=s7 ((r >>> 4) <<< 4) ^^^ s7 (r &&& 15#32):=by rw[<- DV,<- FQ]
 rw[b,Cb,a];rfl
def wi:Nat -> BitVec 32 -> BitVec 32
 |0,r=>r
 |n+1,r=>mZ (wi n r)
theorem Aj(r:BitVec 32):wi 8 r=nib (nib r):=by
 rw[<- yu,<- yu];rfl
theorem Cc(x:BitVec 32):((x.toNat:Int)%2=1 -> Go.bits .xor .u32 ((x.toNat:Int)/2) 3988292384=((mZ x).toNat:Int)) /\ (¬(x.toNat:Int)%2=1 -> (x.toNat:Int)/2=((mZ x).toNat:Int)):=by
 have c:x.getLsbD 0=decide (x.toNat%2=1):=by
  rw[BitVec.getLsbD,Nat.testBit_zero]
 have d:(x >>> 1).toNat=x.toNat/2:=by
  rw[BitVec.toNat_ushiftRight,Nat.shiftRight_eq_div_pow]
 constructor
 ·intro h;have a:x.toNat%2=1:=by omega
  have b:=jM (x >>> 1) 0xEDB88320#32;rw[d] at b;have e:(((0xEDB88320#32).toNat:Nat):Int)=3988292384:=by decide
  rw[e] at b;unfold mZ;rw[c,a];simp only[decide_true,if_true];rw[<- b]
  congr 1
 ·intro h;have a:¬x.toNat%2=1:=by omega
  unfold mZ;rw[c];simp only[a,decide_false];simp only[Bool.false_eq_true,if_false,BitVec.xor_zero,d];omega
theorem DW(x:BitVec 32):
 Calls aE 152 #[.int .u32 (x.toNat:Int)] w λe p=>e=.returned (.int .u32 ((nib (nib x)).toNat:Int)) /\ w=p:=by
 rw[<- Aj]
 go_enter func152,ntmps152
 go_wp2
 go_loop [0,3] (λr i=>∃k:Nat,k <= 8 /\ i=.int .i64 (k:Int) /\ r=.int .u32 ((wi k x).toNat:Int)) (λ_ i=>8-(intOf i).toNat)
 ·exact⟨0,by omega,rfl,rfl⟩
 ·obtain⟨k,s,rfl,rfl⟩:=hrel
  by_cases u:k<8
  ·have t:(k:Int)<8:=by omega
   obtain⟨b,c⟩:=Cc (wi k x);have h:wi (k+1) x=mZ (wi k x):=rfl;have d:((wi k x).toNat:Int) <= 4294967295:=by have:=(wi k x).isLt;omega
   have f:=ae h;generalize wi k x=r at *;obtain⟨z,l⟩:=aH ((r.toNat:Int):Int);have o:0 <= z:=by omega
   rw[l] at b c d⊢;have j:z.tdiv 2%4294967296=z/2:=by rw[Int.tdiv_eq_ediv_of_nonneg o];omega
   have⟨q,g⟩:=ae2 d j;clear h l d j
   by_cases a:z%2=1
   ·have n:(z%2 == 1)=true:=by simp[a]
    have e:=b a;have m:=ae a;clear b c a;go_wp2
    go_round
    ·exact⟨k+1,by omega,by go_num,by rw[g.x,e,f.x]⟩
    ·simp[intOf];omega
   ·have n:(z%2 == 1)=false:=by simp[a]
    have e:=c a;have m:=ae a;clear b c a;go_wp2
    go_round
    ·exact⟨k+1,by omega,by go_num,by rw[g.x,e,f.x]⟩
    ·simp[intOf];omega
  ·obtain rfl:k=8:=by omega
   go_wp2
   go_ret
   exact⟨rfl,rfl⟩
theorem s8(x:BitVec 32):
 Calls aE 151 #[.int .u32 (x.toNat:Int)] w λe a=>e=.returned (.int .u32 ((~~~ x).toNat:Int)) /\ w=a:=by
 have e:Go.bits .xor .u32 (x.toNat:Int) 4294967295=((~~~ x).toNat:Int):=by
  have h:=jM x (~~~ (0#32));have:(((~~~ (0#32)).toNat:Nat):Int)=4294967295:=by decide
  rw[this] at h;rw[h]
  congr 2
  rw[show ~~~ (0#32)=BitVec.allOnes 32 from by decide,BitVec.xor_allOnes]
 generalize ~~~ x=y at *
 go_enter func151,ntmps151
 go_wp2
 go_ret
 exact⟨rfl,rfl⟩
theorem Ak(l:List UInt8)(J:aO F w v l):
 Calls aE 93 #[.int .u32 0,v] w λe g=>e=.returned (.int .u32 (crc l:Int)) /\ w=g:=by
 obtain⟨a,C,rfl,N,H,R,s⟩:=J;have Q:C <= 9223372036854775807:=by unfold maxLen at H;omega
 have hi:=s8 w 0#32;rw[show(((0#32).toNat:Nat):Int)=0 from rfl] at hi;obtain⟨d,j⟩:=aP (~~~ 0#32:BitVec 32);rw[<- j] at hi;obtain⟨y,n⟩:=aP (~~~ (qV d l):BitVec 32);have o:crc l=y.toNat:=by rw[n,j];rfl
 rw[o];have f:=hi;have A:=ae n;clear j o hi n
 go_enter func93,ntmps93
 go_wp2_with fail;refine f.mono ?_;rintro e g ⟨rfl,rfl⟩;clear f;go_wp2
 go_loop [5,6] (λr i=>∃k:Nat,k <= l.length /\ i=.int .i64 (k:Int) /\ r=.int .u32 ((qV d (l.take k)).toNat:Int)) (λ_ i=>l.length-(intOf i).toNat)
 ·exact⟨0,by omega,rfl,rfl⟩
 ·obtain⟨k,O,rfl,rfl⟩:=hrel
  by_cases h:k<l.length
  ·obtain⟨b,K,L,t,E,rfl,hF,p,P,q⟩:=s.resolve_left (by rintro rfl;simp at h);have D:w.cell? ⟨b,K+k,none⟩=some (B l[k]):=by rw[cell_of_row w b _ L t E p];exact q k h
   unfold B at D;have m:=uy d l k h;generalize I:qV d (l.take k)=r at *;generalize l[k]=c at *;clear q s p I;have M:=x5 r c;unfold Ev at m;have u:=ae (DW w (r ^^^ BitVec.ofNat 32 c.toNat));generalize r ^^^ BitVec.ofNat 32 c.toNat=x at *;have z:=ae m;clear m;have G:(k:Int)<(l.length:Int):=by omega
   go_wp2_with fail;refine u.x.mono ?_;rintro e g ⟨rfl,rfl⟩;go_wp2
   go_round
   ·exact⟨k+1,by omega,by go_num,by rw[z.x]⟩
   ·simp[intOf];omega
  ·have G:¬(k:Int)<(l.length:Int):=by omega
   obtain rfl:k=l.length:=by omega
   rw[List.take_of_length_le (aq _)];have hi:=s8 w (qV d l);rw[<- A.x] at hi;have f:=hi;clear hi;go_wp2_with fail;refine f.mono ?_;rintro e g ⟨rfl,rfl⟩;go_wp2
   go_ret
   exact⟨rfl,rfl⟩
theorem tb(d:aO F w v b):
 Calls aE 47 #[v] w λe f=>e=.returned (.int .u32 (crc b:Int)) /\ w=f:=by
 have H:=Ak w F v b d;obtain⟨a,g,rfl,-⟩:=d;generalize crc b=c at *
 go_enter func47,ntmps47
 go_wp2_with fail;refine H.mono ?_;rintro e f ⟨rfl,rfl⟩;go_wp2
 go_ret
 exact⟨rfl,rfl⟩
/- The reference journal: numbers, check sums, halves, places. -/
section
attribute [local go_sem] opC upC told bE bm bF bp bq bG bH
theorem gt(l:List UInt8)(K:aO F w v l)(c:Nat)(h:c+4 <= l.length)(X:c <= 1000):
 Calls aE 46 #[v,.int .i64 (c:Int)] w λe d=>e=.returned (.int .i64 (bV l c:Int)) /\ ∃n,w.drewN n=d:=by
 obtain⟨a,Q,rfl,hc,hm,hz,M⟩:=K;obtain⟨b,r,L,t,E,rfl,hF,j,J,k⟩:=M.resolve_left (by rintro rfl;simp at h)
 have f:∀i,i<4 -> ∀d,aK w.drew d -> d.cell? ⟨b,r+(c+i),none⟩=some (.int .u8 ((l.getD (c+i) 0).toNat:Int)):=λi hi d I=>by
  have G:w.cell? ⟨b,r+(c+i),none⟩=some (B l[c+i]):=by rw[cell_of_row w b _ L t E j];exact k (c+i) (by omega)
  have H:=dY G I;rw[H,List.getD_eq_getElem?_getD,List.getElem?_eq_getElem (show c+i<l.length by omega)];rfl
 have s:=f 0 (by omega);have N:=f 1 (by omega);have O:=f 2 (by omega);have P:=f 3 (by omega)
 have g:(bV l c:Int)=((l.getD c 0).toNat:Int)+256*((l.getD (c+1) 0).toNat:Int)+65536*((l.getD (c+2) 0).toNat:Int)+16777216*((l.getD (c+3) 0).toNat:Int):=by
  unfold bV;omega
 have z:=(l.getD c 0).toNat_lt;have A:=(l.getD (c+1) 0).toNat_lt;have C:=(l.getD (c+2) 0).toNat_lt;have D:=(l.getD (c+3) 0).toNat_lt;simp only[Nat.add_zero] at s;obtain⟨u,m⟩:=aH (((l.getD c 0).toNat:Int):Int);obtain⟨x,o⟩:=aH (((l.getD (c+1) 0).toNat:Int):Int);obtain⟨y,p⟩:=aH (((l.getD (c+2) 0).toNat:Int):Int);obtain⟨z3,q⟩:=aH (((l.getD (c+3) 0).toNat:Int):Int);simp only[m,o,p,q] at s N O P g;have U:0 <= u /\ u <= 255:=by omega
 have V:0 <= x /\ x <= 255:=by omega
 have W:0 <= y /\ y <= 255:=by omega
 have g3:0 <= z3 /\ z3 <= 255:=by omega
 rw[g];have ag:(c:Int)+3<(l.length:Int):=by omega
 have Z:(c:Int)<(l.length:Int):=by omega
 have aa:(c:Int)+1<(l.length:Int):=by omega
 have ad:(c:Int)+2<(l.length:Int):=by omega
 have n1:0 <= (c:Int)+1:=by omega
 have n2:0 <= (c:Int)+2:=by omega
 have n3:0 <= (c:Int)+3:=by omega
 have ai:=af ((c:Int)+1) (by omega);have ak:=af ((c:Int)+2) (by omega);have al:=af ((c:Int)+3) (by omega);have ab:(c:Int) <= 1000:=by omega
 have R:((c:Int)+1).toNat=c+1:=by omega
 have S:((c:Int)+2).toNat=c+2:=by omega
 have T:((c:Int)+3).toNat=c+3:=by omega
 clear g m o p q z A C D f k j J h
 go_enter func46,ntmps46
 go_wp2_with fail;refine bP aK (up 30 []) (by kernel_rfl) ?_;apply aG;rfl;intro d Y;go_simp;(repeat (simp(disch:=omega) only[af,if_pos];go_simp));exact aF;refine aW ?_;go_wp2
 go_ret
 exact⟨rfl,1,rfl⟩
/- The reference journal: check sums, halves, places, pieces' numbers. -/
theorem Al:w.drewN (n+1)=w.drew.drewN n:=by
 unfold World.drewN World.drew
 congr 1
 show w.drawn+(n+1)=w.drawn+1+n;omega
theorem qH(h:aO F w v b)(k:b.length=64):
 Calls aE 13 #[v] w λe f=>e=.returned (.bool (iM b)) /\ ∃n,w.drewN n=f:=by
 have y:aO F w.drew v b:=h.keep λ_ _ _=>rfl
 have g:=gt w.drew F v b y 60 (by omega) (by omega);rw[show((60:Nat):Int)=60 from rfl] at g;obtain⟨a,q,rfl,B,G,-⟩:=id h;have s:=h.take 60 (by omega);have x:∀n,Calls aE 47 #[.slice a 60 q] (w.drew.drewN n) λe f=>e=.returned (.int .u32 (crc (b.take 60):Int)) /\ w.drew.drewN n=f:=λn=>tb _ F _ _ (s.keep λ_ _ _=>rfl)
 have hi:iM b=(bV b 60 == crc (b.take 60)):=rfl
 have E:(((bV b 60:Nat):Int) == ((crc (b.take 60):Nat):Int))=iM b:=by
  rw[hi]
  by_cases u:bV b 60=crc (b.take 60)
  ·rw[beq_iff_eq.2 u,beq_iff_eq.2 (by omega)]
  ·rw[beq_eq_false_iff_ne.2 u,beq_eq_false_iff_ne.2 (by omega)]
 have t:=zo (b.take 60);rw[k] at g;have o:=g;have p:=x;have D:(60:Int) <= (q:Int):=by omega
 rw[k];clear g x hi s y h B k;generalize crc (b.take 60)=c at *;generalize bV b 60=r at *;have H:=af ((c:Int)) (by omega);have C:=ae t;clear t
 go_enter func13,ntmps13
 go_wp2_with fail;refine bP aK [0,2,3,501,504,5,6,7] (by kernel_rfl) ?_;apply aG;rfl;intro f A;go_simp;exact aF;refine aY rfl rfl (λj d=>?_);go_simp;refine o.mono ?_;rintro e I ⟨rfl,i,m⟩;refine⟨_,rfl,by rw[<- m];exact Below.drewN' (Below.refl _ _) i,d _ _ ?_⟩;clear d j o;go_simp;refine aY rfl rfl (λj d=>?_);go_simp;rw[<- m];refine(p i).mono ?_;rintro e J ⟨rfl,z⟩;refine⟨_,rfl,by rw[<- z];exact aZ _,d _ _ ?_⟩;clear d j p m;go_simp;apply aG;rfl;intro f A;go_simp;(repeat (simp(disch:=omega) only[af,if_pos];go_simp));exact aF;refine aW ?_;go_wp2
 go_ret
 exact⟨rfl,i+1,by rw[<- z];exact Al w i⟩
end
section
attribute [local go_sem ↓] aU
structure RK where
 d:Nat
 bs:Nat
 R:aQ
def RK.foot(K:RK):aQ:=λk=>k=K.d \/ k=K.bs
def RK.all(K:RK):aQ:=λk=>k=K.d \/ k=K.bs \/ K.R k
structure bS(w:World)(K:RK)(M:MD):Prop where
 ne:K.d≠K.bs
 apart:∀b,K.R b -> b≠K.d /\ b≠K.bs /\ b<w.heap.size
 len:M.S.length <= 65536
 main:∃(cap:Nat)(after:Int)(tv:Value),M.S.length <= cap /\ cap <= maxLen /\
  Blk w K.d [.slice (some ⟨K.bs,0,none⟩) M.S.length cap,.bool M.down,.bool M.fault.isSome,.int .i64 after,tv,.int .i64 (M.writes:Int)] 117 /\
  (∃L,Blk w K.bs L 41 /\ L.length=cap /\ ∀i (h:i<M.S.length),∃v,L[i]?=some v /\ aO K.R w v M.S[i]) /\
  (∃ct,aO K.R w tv ct /\ ct.length <= 140737488355328 /\ ∀k t,M.fault=some (k,t) -> after=(k:Int) /\ ct=t) /\ (-9223372036854775808 <= after /\ after <= 9223372036854775807)
 s64:∀s∈M.S,s.length=64
 f64:∀k t,M.fault=some (k,t) -> t.length=64 /\ k <= 9223372036854775807
theorem bS.lt{w:World}{K:RK}{M:MD}(h:bS w K M):∀b,K.all b -> b<w.heap.size:=by
 obtain⟨f,e,j,g,i,d,⟨L,a,_⟩,_⟩:=h.main;rintro b (rfl|rfl|c)
 ·exact d.lt
 ·exact a.lt
 ·exact(h.apart b c).2.2
theorem bS.keep{w w':World}{K:RK}{M:MD}(h:bS w K M)(c:∀b,K.all b -> w'.heap[b]?=w.heap[b]?)(A:w.heap.size <= w'.heap.size):bS w' K M:=by
 obtain⟨j,d,k,⟨f,e,C,s,y,q,⟨L,n,o,z⟩,⟨g,u,t,x⟩,p⟩,l,m⟩:=h;refine⟨j,λb a=>⟨(d b a).1,(d b a).2.1,aw (d b a).2.2 A⟩,k,⟨f,e,C,s,y,q.keep (c _ (.inl rfl)),⟨L,n.keep (c _ (.inr (.inl rfl))),o,λi hi=>?_⟩,⟨g,u.keep (λb a _=>c b (.inr (.inr a))),t,x⟩,p⟩,l,m⟩;obtain⟨v,B,r⟩:=z i hi;exact⟨v,B,r.keep λb a _=>c b (.inr (.inr a))⟩
theorem bS.kept{K:RK}(h:bS W K N)(a:Kpt W w'):bS w' K N:=
 h.keep (λb c=>a.block b (h.lt b c)) a.size
theorem bS.only{K:RK}{F:aQ}(h:bS W K N)(c:aM F W w')(d:∀b,K.all b -> ¬F b):bS w' K N:=
 h.keep (λb a=>c.block b (h.lt b a) (d b a)) c.size
/- The reference disk: Write, Fail, Up. -/
end
section
attribute [local go_sem ↓] aU
attribute [local go_sem] opC upC told bE bm bF bp bq bG bH
theorem Cd(K:RK)(M:MD)(h:bS w K M):
 Calls aE 65 #[.pointer (some ⟨K.d,0,none⟩)] w λe j=>e=.returned (.tuple #[]) /\ bS j K { M with down:=false } /\ aM K.foot w j /\ j.heap.size=w.heap.size:=by
 obtain⟨m,f,r,⟨l,k,o,B,F,c,⟨L,u,y,H⟩,⟨q,D,C,E⟩,z⟩,s,t⟩:=h;have p:=c.cell 1;have O:=c.free 1;simp at p;have I:=c.set 1 (.bool false);have J:Blk (w.setCell ⟨K.d,1,none⟩ (.bool false)) K.d [.slice (some ⟨K.bs,0,none⟩) M.S.length l,.bool false,.bool M.fault.isSome,.int .i64 k,o,.int .i64 (M.writes:Int)] 117:=by simpa using I
 have x:=u.set_other (a:=⟨K.d,1,none⟩) (.bool false) m.symm;have n:∀b,K.R b -> b<w.heap.size -> (w.setCell ⟨K.d,1,none⟩ (.bool false)).heap[b]?=w.heap[b]?:=λb c _=>Below.heap_setCell _ _ _ _ (f b c).1
 have G:bS (w.setCell ⟨K.d,1,none⟩ (.bool false)) K { M with down:=false }:=
  ⟨m,λb g=>⟨(f b g).1,(f b g).2.1,by simpa[World.setCell] using(f b g).2.2⟩,r,⟨l,k,o,B,F,J,⟨L,x,y,λi hi=>by
   obtain⟨v,N,A⟩:=H i hi
   exact⟨v,N,A.keep n⟩⟩,⟨q,D.keep n,C,E⟩,z⟩,s,t⟩
 go_enter func65,ntmps65
 go_wp2_with fail
 go_end0
 exact⟨rfl,G,(aM.refl _ _).setCell (.inl (.inl rfl)) _,by simp[World.setCell]⟩
theorem wj(K:RK)(M:MD)(i:Int)(v:Value)(h:bS w K M)(b:M.chk i≠0):
 Calls aE 70 #[.pointer (some ⟨K.d,0,none⟩),.int .i64 i,v] w λe l=>e=.returned (.int .i64 (M.chk i)) /\ w=l:=by
 obtain⟨o,m,t,p,r,a,-⟩:=h.main;have c:=a.cell 0;have f:=a.cell 1;simp at c f;have s:M.S.length <= 9223372036854775807:=by have:=h.len;omega
 unfold MD.chk at *;generalize M.down=g at *;generalize M.S.length=n at *;cases g
 ·simp only[Bool.false_eq_true,if_false] at b⊢;have j:¬(0 <= i /\ i<(n:Int)):=λk=>b (by rw[if_pos k])
  rw[if_neg j]
  by_cases hi:i<0
  all_goals
   go_enter func70,ntmps70
   try (have q:(n:Int) <= i:=by omega)
   go_wp2
   go_ret
   exact⟨rfl,rfl⟩
 ·go_enter func70,ntmps70
  go_wp2
  go_ret
  exact⟨rfl,rfl⟩
/- The reference disk: Write with no fault. -/
def RK.grow(K:RK)(a hi:Nat):RK:={ K with R:=λb=>K.R b \/ (a <= b /\ b<hi) }
theorem qI(K:RK)(M:MD)(h:bS w9 K M)(ax:(w9=w /\ M.fault=none) \/ ∃n D:Nat,n+1 <= 9223372036854775807 /\ w.setCell ⟨K.d,3,none⟩ (.int .i64 (n:Int))=w9 /\ M.S.length <= D /\ w.cell? ⟨K.d,0,none⟩=some (.slice (some ⟨K.bs,0,none⟩) M.S.length D) /\ w.cell? ⟨K.d,1,none⟩=some (.bool false) /\ w.cell? ⟨K.d,2,none⟩=some (.bool true) /\ w.cell? ⟨K.d,3,none⟩=some (.int .i64 ((n:Int)+1)) /\ w.frozen? ⟨K.d,3,none⟩=false)
 (i:Nat) (hi:i<M.S.length) (Y:M.down=false) (hw:M.writes<4611686018427387904) (F:aQ) (v:Value) (l:List UInt8) (B:aO F w9 v l) (hl:l.length=64):
 Calls aE 70 #[.pointer (some ⟨K.d,0,none⟩),.int .i64 (i:Int),v] w λe c=>e=.returned (.int .i64 0) /\
  bS c (K.grow w9.heap.size c.heap.size) { M with S:=M.S.set i l,writes:=M.writes+1 } /\ aM K.foot w9 c:=by
 have aT:=h.lt;obtain⟨r,o,h3,⟨W,ad,tv,hc,hm,p,⟨L,z,ak,hs⟩,⟨ct,az,ay,hf⟩,ha⟩,h5,h6⟩:=h;rw[Y] at p;have aN:=B;obtain⟨a,X,rfl,aS,aU,-,-⟩:=B;have P:=p.lt;have aL:=z.lt;have V:=p.cell 0;have c1:=p.cell 1;have C:=p.cell 2;simp at V c1 C;have hW:aO F (w9.alloc (.cells #[] 5)).drew (.slice a l.length X) l:=aN.keep λb _ p=>Below.heap_alloc w9 _ _ p
 obtain⟨v',m,hr,Q,u⟩:=cP (w9.alloc (.cells #[] 5)).drew w9.heap.size (.slice (some ⟨w9.heap.size,0,none⟩) 0 0) []
  ⟨rfl,.inr ⟨w9.heap.size,0,#[],rfl,aq _,by unfold World.alloc World.drew;simp,aq _,by unfold maxLen;omega,rfl,rfl⟩⟩ F (.slice a l.length X) l hW (by simp;omega) (by simp)
 rw[List.nil_append] at Q;have av:aO (λb=>w9.heap.size <= b /\ b<m.heap.size) m v' l:=aO.of_owns Q _ (λk r o=>⟨r,o⟩);obtain⟨g,q,rfl,-⟩:=nB Q (by omega);have O:Kpt w9 m:=((Below.refl _ _).alloc (aq _) _).drew.grown u (by simp) (λk N=>by have a0:w9.drew.heap.size=w9.heap.size:=rfl;simp[Value.ownBlock] at N;omega);have an:=p.keep (O.block K.d P);have G:=z.keep (O.block K.bs aL);have cL:=G.cell i;have fL:=G.free i;have aJ:i<L.length:=by omega
 rw[List.getElem?_eq_getElem aJ] at cL;have I:=an.set_other (a:=⟨K.bs,i,none⟩) (.slice (some ⟨g,0,none⟩) l.length q) r;have ag:=G.set i (.slice (some ⟨g,0,none⟩) l.length q);have c5:=I.cell 5;have f5:=I.free 5;simp at c5;generalize aK:l.length=ln at *;obtain rfl:ln=64:=hl;have HL:=aK;have aV:(i:Int)<(M.S.length:Int):=by omega
 have aX:M.S.length <= 9223372036854775807:=by omega
 have H2:=o;have Hs:=hs
 have k1:bI (λb=>b=K.bs \/ w9.heap.size <= b) (w9.alloc (.cells #[] 5)).drew m:=⟨u.os,u.tape,u.output,u.size,λk N hn=>u.block k N (λe=>hn (.inr (by simp[Value.ownBlock] at e;omega)))⟩
 have k2:bI (λb=>b=K.bs \/ w9.heap.size <= b) m (m.setCell ⟨K.bs,i,none⟩ (.slice (some ⟨g,0,none⟩) 64 q)):=(aM.refl _ _).setCell (.inl (.inl rfl)) _;have k0:bI (λb=>b=K.bs \/ w9.heap.size <= b) w9.drew (w9.alloc (.cells #[] 5)).drew:=bI.of_below (aI w9.drew (.cells #[] 5))
 go_enter func70,ntmps70
 rcases ax with⟨rfl,aH⟩|⟨n,D,aZ,aa,aR,e0,e1,e2,e3,e4⟩
 case' inl=>
  rw[aH] at C;simp at C;go_wp2_with fail
 case' inr=>
  have aP:((n:Int)+1 == 0)=false:=beq_eq_false_iff_ne.2 (by omega);have ab:=ae aa;clear aa;go_wp2_with fail;rw[ab.x]
 all_goals
  have q0:∀c,bI (λb=>b=K.bs \/ w9.heap.size <= b) w9.drew c -> c.cell? ⟨K.d,0,none⟩=some (.slice (some ⟨K.bs,0,none⟩) M.S.length W):=λc hh=>by
   rw[World.cell?_of_block (w:=w9) (a:=⟨K.d,0,none⟩) (hh.block K.d P (λe=>e.elim r (λe=>absurd P (by omega))))];exact V
  refine bP (bI (λb=>b=K.bs \/ w9.heap.size <= b)) (up 5 [6,505,507,8,509]) (by kernel_rfl) ?_;apply aG;rfl;intro c E;go_simp;exact aF;refine aY rfl rfl (λU x=>?_);go_simp;refine x _ _ ?_;go_simp;apply aG;rfl;intro c E;go_simp;exact aF;refine aY rfl rfl (λU x=>?_);go_simp;refine x _ _ ?_;go_simp;apply aG;rfl;intro c E;go_simp;exact aF;refine aY rfl rfl (λU x=>?_);go_simp;refine x _ _ ?_;go_simp;apply aG;rfl;intro c E;go_simp;exact aF;refine aW ?_;go_simp;go_wp2
  go_ret
  have z:=HL;have o:=H2;have A:aM K.foot w9 ((m.setCell ⟨K.bs,i,none⟩ (.slice (some ⟨g,0,none⟩) 64 q)).setCell ⟨K.d,5,none⟩ (.int .i64 (M.writes+1))):=((aM.of_below O).setCell (.inl (.inr rfl)) _).setCell (.inl (.inl rfl)) _;have Z:aM K.foot m ((m.setCell ⟨K.bs,i,none⟩ (.slice (some ⟨g,0,none⟩) 64 q)).setCell ⟨K.d,5,none⟩ (.int .i64 (M.writes+1))):=((aM.refl _ _).setCell (.inl (.inr rfl)) _).setCell (.inl (.inl rfl)) _;have ao:=I.set 5 (.int .i64 (M.writes+1));have ai:=ag.set_other (a:=⟨K.d,5,none⟩) (.int .i64 (M.writes+1)) (Ne.symm r);generalize((m.setCell ⟨K.bs,i,none⟩ (.slice (some ⟨g,0,none⟩) 64 q)).setCell ⟨K.d,5,none⟩ (.int .i64 (M.writes+1)))=T at *;refine⟨rfl,⟨r,?_,by simpa using h3,⟨W,ad,tv,by simpa using hc,hm,by simpa[RK.grow,Y] using ao,⟨_,ai,by simpa using ak,?_⟩,⟨ct,?_,ay,λk t hh=>hf k t hh⟩,ha⟩,?_,h6⟩,A⟩
  ·rintro b (f|⟨f,al⟩)
   ·exact⟨(o b f).1,(o b f).2.1,aw (o b f).2.2 A.size⟩
   ·exact⟨λe=>by simp[RK.grow] at e;omega,λe=>by simp[RK.grow] at e;omega,al⟩
  ·intro j hj;simp at hj
   by_cases J:i=j
   ·subst J;refine⟨_,by rw[List.getElem?_set_self (by omega)],?_⟩;simp only[List.getElem_set_self];refine(av.keep (w':=T) λb H y=>Z.block b y (by rintro(e|e)<;>omega)).mono λb H=>.inr ⟨H.1,aw H.2 Z.size⟩
   ·obtain⟨v,B,ar⟩:=Hs j (by omega);refine⟨v,by rw[List.getElem?_set_ne J];exact B,?_⟩;simp only[List.getElem_set_ne J];exact(ar.keep (w':=T) λb f y=>A.block b y (by have:=o b f;rintro(e|e)<;>simp_all)).mono λb f=>.inl f
  ·exact(az.keep (w':=T) λb f y=>A.block b y (by have:=o b f;rintro(e|e)<;>simp_all)).mono λb f=>.inl f
  ·intro s R;rcases List.mem_or_eq_of_mem_set R with R|rfl
   ·exact h5 s R
   ·exact z
theorem tL(K:RK)(M:MD)(h:bS w K M)(c:M.fault=none)(i:Nat)(f:i<M.S.length)(b:M.down=false)(k:M.writes<4611686018427387904)(F:aQ)(v:Value)(l:List UInt8)(j:aO F w v l)(g:l.length=64):
 Calls aE 70 #[.pointer (some ⟨K.d,0,none⟩),.int .i64 (i:Int),v] w λe a=>e=.returned (.int .i64 0) /\
  bS a (K.grow w.heap.size a.heap.size) { M with S:=M.S.set i l,writes:=M.writes+1 } /\ aM K.foot w a:=
 qI w w K M h (.inl ⟨rfl,c⟩) i f b k F v l j g
/- The reference disk: Write with a fault. -/
theorem tM(K:RK)(M:MD)(h:bS w K M)(t:List UInt8)(p:M.fault=some (0,t))(i:Nat)(hi:i<M.S.length)(x:M.down=false)(a:Option Addr)(X:Nat):
 Calls aE 70 #[.pointer (some ⟨K.d,0,none⟩),.int .i64 (i:Int),.slice a 64 X] w λe B=>e=.returned (.int .i64 341) /\
  bS B K { M with S:=M.S.set i t,fault:=none,down:=true } /\ aM K.foot w B /\ B.heap.size=w.heap.size:=by
 obtain⟨n,c,Y,⟨W,ao,tv,hc,hm,g,⟨L,o,ab,G⟩,⟨k,E,ai,y⟩,ha⟩,C,D⟩:=h;rw[x,p] at g;obtain⟨rfl,rfl⟩:=y 0 t p;have F:=E;obtain⟨q,r,rfl,az,aF,-,-⟩:=E;have ar:=g.lt;have av:=o.lt;have P:=g.cell 0;have Q:=g.cell 1;have R:=g.cell 2;have T:=g.cell 3;have U:=g.cell 4;simp at P Q R T U;have ak:i<L.length:=by omega
 have V:=o.cell i;have fL:=o.free i;rw[List.getElem?_eq_getElem ak] at V;have ax:(i:Int)<(M.S.length:Int):=by omega
 have ay:M.S.length <= 9223372036854775807:=by omega
 have⟨H,O,Hf,I,J,N,an⟩:=ae7 c G y C D p x;clear c G y C D p x;have u:=g.set_other (a:=⟨K.bs,i,none⟩) (.slice q k.length r) n;have Z:=o.set i (.slice q k.length r);have f2:=u.free 2;have f1:=(u.set 2 (.bool false)).free 1;have ad:=(u.set 2 (.bool false)).set 1 (.bool true);have aa:=(Z.set_other (a:=⟨K.d,2,none⟩) (.bool false) (Ne.symm n)).set_other (a:=⟨K.d,1,none⟩) (.bool true) (Ne.symm n)
 go_enter func70,ntmps70
 go_wp2_with fail
 go_still_tail 10,(by kernel_rfl)
 change wpList _ _ _ _ _ w.drew;go_wp2
 go_ret
 have c:=H.x;have m:aM K.foot w (((w.setCell ⟨K.bs,i,none⟩ (.slice q k.length r)).setCell ⟨K.d,2,none⟩ (.bool false)).setCell ⟨K.d,1,none⟩ (.bool true)):=(((aM.refl _ _).setCell (.inl (.inr rfl)) _).setCell (.inl (.inl rfl)) _).setCell (.inl (.inl rfl)) _;have al:(((w.setCell ⟨K.bs,i,none⟩ (.slice q k.length r)).setCell ⟨K.d,2,none⟩ (.bool false)).setCell ⟨K.d,1,none⟩ (.bool true)).heap.size=w.heap.size:=by simp[World.setCell]
 refine⟨rfl,⟨n,?_,by simpa using Y,⟨W,0,_,by simpa using hc,hm,by simpa using ad.drew,⟨_,aa.drew,by simpa using ab,?_⟩,⟨k,?_,ai,nofun⟩,by omega⟩,?_,nofun⟩,m.drew,al⟩
 ·intro b f;exact⟨(c b f).1,(c b f).2.1,aw (c b f).2.2 m.size⟩
 ·intro j hj;simp at hj
  by_cases z:i=j
  ·subst z;refine⟨_,by rw[List.getElem?_set_self (by omega)],?_⟩;simp only[List.getElem_set_self];exact F.keep λb f l=>m.block b l (by have:=c b f;rintro(e|e)<;>simp_all)
  ·obtain⟨v,hv,ag⟩:=O.x j (by omega);refine⟨v,by rw[List.getElem?_set_ne z];exact hv,?_⟩;simp only[List.getElem_set_ne z];exact ag.keep λb f l=>m.block b l (by have:=c b f;rintro(e|e)<;>simp_all)
 ·exact F.keep λb f l=>m.block b l (by have:=c b f;rintro(e|e)<;>simp_all)
 ·intro s A;rcases List.mem_or_eq_of_mem_set A with A|rfl
  ·exact I.x s A
  ·exact(J.x 0 _ N.x).1
/- The reference disk: Write with a fault that strikes later. -/
theorem bS.tick{K:RK}{M:MD}(h:bS W K M)(g:M.fault=some (j+1,l)):
 bS (W.setCell ⟨K.d,3,none⟩ (.int .i64 (j:Int))) K { M with fault:=some (j,l) }:=by
 obtain⟨m,e,s,⟨q,J,I,A,E,f,⟨L,x,y,F⟩,⟨r,C,B,D⟩,N⟩,u,o⟩:=h;rw[g] at f;obtain⟨rfl,rfl⟩:=D _ l g;have p:∀b,K.R b -> (W.setCell ⟨K.d,3,none⟩ (.int .i64 (j:Int))).heap[b]?=W.heap[b]?:=λb f=>Below.heap_setCell W ⟨K.d,3,none⟩ _ b (e b f).1
 refine⟨m,λb c=>⟨(e b c).1,(e b c).2.1,by simpa[World.setCell] using(e b c).2.2⟩,s,⟨q,j,I,A,E,by simpa using f.set 3 (.int .i64 (j:Int)),⟨L,x.set_other (a:=⟨K.d,3,none⟩) _ (Ne.symm m),y,λi hi=>?_⟩,⟨r,C.keep λb c _=>p b c,B,?_⟩,by have:=(o _ _ g).2;omega⟩,u,?_⟩
 ·obtain⟨v,G,z⟩:=F i hi;exact⟨v,G,z.keep λb c _=>p b c⟩
 ·rintro k H hh;simp at hh;obtain⟨rfl,rfl⟩:=hh;exact⟨rfl,rfl⟩
 ·rintro k H hh;simp at hh;obtain⟨rfl,rfl⟩:=hh;have:=o _ _ g;exact⟨this.1,by omega⟩
theorem bS.cells{w:World}{K:RK}(h:bS w K N){n:Nat}(c:N.fault=some (n,l))(f:N.down=false):
 ∃b,N.S.length <= b /\ w.cell? ⟨K.d,0,none⟩=some (.slice (some ⟨K.bs,0,none⟩) N.S.length b) /\ w.cell? ⟨K.d,1,none⟩=some (.bool false) /\ w.cell? ⟨K.d,2,none⟩=some (.bool true) /\ w.cell? ⟨K.d,3,none⟩=some (.int .i64 (n:Int)) /\ w.frozen? ⟨K.d,3,none⟩=false:=by
 obtain⟨b,i,m,e,k,a,-,⟨j,-,-,g⟩,-⟩:=h.main;rw[f,c] at a;obtain⟨rfl,rfl⟩:=g _ l c;exact⟨b,e,by simpa using a.cell 0,by simpa using a.cell 1,by simpa using a.cell 2,by simpa using a.cell 3,by simpa using a.free 3⟩
theorem tN(K:RK)(M0:MD)(c:bS w K M0)(n:Nat)(t:List UInt8)(f:M0.fault=some (n+1,t))(i:Nat)(g:i<M0.S.length)(j:M0.down=false)(B:M0.writes<4611686018427387904)(F:aQ)(v:Value)(l:List UInt8)(A:aO F w v l)(y:l.length=64)(hF:∀b,F b -> b≠K.d):
 Calls aE 70 #[.pointer (some ⟨K.d,0,none⟩),.int .i64 (i:Int),v] w λe a=>e=.returned (.int .i64 0) /\
  bS a (K.grow w.heap.size a.heap.size) { M0 with S:=M0.S.set i l,fault:=some (n,t),writes:=M0.writes+1 } /\ aM K.foot w a:=by
 obtain⟨m,x,o,q,r,h,s⟩:=c.cells f j;simp at h;refine(qI w _ K _ (c.tick f) (.inr ⟨n,m,(c.f64 _ _ f).2,rfl,x,o,q,r,h,s⟩) i g j B F v l (A.keep λb u _=>Below.heap_setCell w ⟨K.d,3,none⟩ _ b (hF b u)) y).mono ?_;rintro e a ⟨rfl,k,z⟩;rw[show(w.setCell ⟨K.d,3,none⟩ (.int .i64 (n:Int))).heap.size=w.heap.size by simp[World.setCell]] at k;exact⟨rfl,k,((aM.refl _ _).setCell (p:=⟨K.d,3,none⟩) (.inl (.inl rfl)) _).trans z λ_ g=>.inl g⟩
/- The reference disk: Write whole, Fail. -/
theorem bS.foot_all{K:RK}(h:K.foot i):K.all i:=by
 rcases h with h|h
 ·exact .inl h
 ·exact .inr (.inl h)
theorem RK.grow_all{K:RK}(h:(K.grow i j).all o):K.all o \/ (i <= o /\ o<j):=by
 rcases h with h|h|h|h
 ·exact .inl (.inl h)
 ·exact .inl (.inr (.inl h))
 ·exact .inl (.inr (.inr h))
 ·exact .inr h
theorem yv(K:RK)(M:MD)(h:bS w K M)(i:Nat)(r:i<M.S.length)(q:M.down=false)(x:M.writes<4611686018427387904)(F:aQ)(v:Value)(l:List UInt8)(u:aO F w v l)(s:l.length=64)(hF:∀b,F b -> b≠K.d):
 Calls aE 70 #[.pointer (some ⟨K.d,0,none⟩),.int .i64 (i:Int),v] w λe c=>e=.returned (.int .i64 (M.write i l).2) /\
  (∃o,o.d=K.d /\ (∀b,o.all b -> K.all b \/ w.heap.size <= b) /\ bS c o (M.write i l).1 /\ o.bs=K.bs) /\ aM K.foot w c:=by
 cases f:M.fault with
 |none=>
  refine(tL w K M h f i r q x F v l u s).mono ?_;rintro e c ⟨rfl,k,m⟩;have g:M.write i l=({ M with S:=M.S.set i l,writes:=M.writes+1 },0):=by simp[MD.write,f]
  rw[g];exact⟨rfl,⟨K.grow w.heap.size c.heap.size,rfl,λb j=>(RK.grow_all j).imp id (·.1),k,rfl⟩,m⟩
 |some p=>
  obtain⟨n,t⟩:=p;cases n with
  |zero=>
   obtain⟨a,y,rfl,-⟩:=u;rw[s];refine(tM w K M h t f i r q a y).mono ?_;rintro e c ⟨rfl,k,m,z⟩;have g:M.write i l=({ M with S:=M.S.set i t,fault:=none,down:=true },341):=by simp[MD.write,f]
   rw[g];exact⟨rfl,⟨K,rfl,λ_ j=>.inl j,k,rfl⟩,m⟩
  |succ n=>
   refine(tN w K M h n t f i r q x F v l u s hF).mono ?_;rintro e c ⟨rfl,k,m⟩;have g:M.write i l=({ M with S:=M.S.set i l,fault:=some (n,t),writes:=M.writes+1 },0):=by simp[MD.write,f]
   rw[g];exact⟨rfl,⟨K.grow w.heap.size c.heap.size,rfl,λb j=>(RK.grow_all j).imp id (·.1),k,rfl⟩,m⟩
theorem yw(c:Int)(a:Option Addr)(b f:Nat)(l:b <= 9223372036854775807)(j:c<0 \/ b≠64):
 Calls aE 64 #[.pointer (some ⟨n,0,none⟩),.int .i64 c,.slice a b f] w λe g=>e=.returned (.int .i64 (if c<0 then 6 else 1)) /\ w=g:=by
 by_cases m:c<0
 ·go_enter func64,ntmps64
  go_wp2
  go_ret
  exact⟨rfl,rfl⟩
 ·have k:b≠64:=by omega
  have h:((b:Int) != 64)=true:=bne_iff_ne.2 (by omega);have i:(b != 64)=true:=bne_iff_ne.2 (by omega)
  go_enter func64,ntmps64
  go_wp2
  go_ret
  exact⟨rfl,rfl⟩
theorem Am(K:RK)(M:MD)(h:bS w K M)(n:Nat)(hn:n <= 9223372036854775807)(F:aQ)(v:Value)(l:List UInt8)(y:aO F w v l)(T:l.length=64)(hF:∀b,F b -> b≠K.d):
 Calls aE 64 #[.pointer (some ⟨K.d,0,none⟩),.int .i64 (n:Int),v] w λe w'=>e=.returned (.int .i64 0) /\
  (∃z,z.d=K.d /\ (∀b,z.all b -> K.all b \/ w.heap.size <= b) /\ bS w' z { M with fault:=some (n,l) }) /\ aM K.foot w w':=by
 obtain⟨q,o,h3,⟨ak,aF,tv,hc,hm,c,⟨L,A,al,Z⟩,⟨ct,ar,aJ,hf⟩,ha⟩,E,h6⟩:=h;have ax:=y;obtain⟨a,D,rfl,aK,aP,-,-⟩:=y;have aL:=c.lt;have aN:=A.lt;have c2:=c.cell 2;have f2:=c.free 2;have s:=c.set 2 (.bool true);have c3:=s.cell 3;have f3:=s.free 3;have N:=s.set 3 (.int .i64 (n:Int));have H:=(A.set_other (a:=⟨K.d,2,none⟩) (.bool true) (Ne.symm q)).set_other (a:=⟨K.d,3,none⟩) (.int .i64 (n:Int)) (Ne.symm q);simp at c2 c3
 have G:aO F ((w.setCell ⟨K.d,2,none⟩ (.bool true)).setCell ⟨K.d,3,none⟩ (.int .i64 (n:Int))) (.slice a l.length D) l:=ax.keep λb c _=>by
  rw[Below.heap_setCell _ ⟨K.d,3,none⟩ _ b (hF b c),Below.heap_setCell _ ⟨K.d,2,none⟩ _ b (hF b c)]
 have V:aM K.foot w ((w.setCell ⟨K.d,2,none⟩ (.bool true)).setCell ⟨K.d,3,none⟩ (.int .i64 (n:Int))):=((aM.refl _ _).setCell (.inl (.inl rfl)) _).setCell (.inl (.inl rfl)) _;have C:((w.setCell ⟨K.d,2,none⟩ (.bool true)).setCell ⟨K.d,3,none⟩ (.int .i64 (n:Int))).heap.size=w.heap.size:=by simp[World.setCell]
 generalize ab:(w.setCell ⟨K.d,2,none⟩ (.bool true)).setCell ⟨K.d,3,none⟩ (.int .i64 (n:Int))=p at *;have ai:=ae ab;clear ab
 obtain⟨v',f,X,x,S⟩:=cP (p.alloc (.cells #[] 5)) p.heap.size (.slice (some ⟨p.heap.size,0,none⟩) 0 0) []
  ⟨rfl,.inr ⟨p.heap.size,0,#[],rfl,aq _,by unfold World.alloc;simp,aq _,by unfold maxLen;omega,rfl,rfl⟩⟩ F (.slice a l.length D) l (G.keep λb _ c=>Below.heap_alloc _ _ _ c) (by simp;omega) (by simp)
 rw[List.nil_append] at x;obtain⟨g,j,rfl,-⟩:=nB x (by omega);have P:aO (λb=>p.heap.size <= b /\ b<f.heap.size) f (.slice (some ⟨g,0,none⟩) l.length j) l:=aO.of_owns x _ (λk q o=>⟨q,o⟩);have r:Kpt p f:=(aI _ _).grown S (by simp) (λk hk=>by simp[Value.ownBlock] at hk;omega);have u:=N.keep (r.block K.d (by omega));have I:=H.keep (r.block K.bs (by omega));have c4:=u.cell 4;have f4:=u.free 4;simp at c4;have W:aM K.foot w f:=V.trans (aM.of_below r) (λ_ hi=>.inl hi);have O:=u.set 4 (.slice (some ⟨g,0,none⟩) l.length j);have J:=I.set_other (a:=⟨K.d,4,none⟩) (.slice (some ⟨g,0,none⟩) l.length j) (Ne.symm q);have B:aM K.foot w (f.setCell ⟨K.d,4,none⟩ (.slice (some ⟨g,0,none⟩) l.length j)):=W.setCell (.inl (.inl rfl)) _;have Q:aO (λb=>p.heap.size <= b /\ b<f.heap.size) (f.setCell ⟨K.d,4,none⟩ (.slice (some ⟨g,0,none⟩) l.length j)) (.slice (some ⟨g,0,none⟩) l.length j) l:=P.keep λb aH _=>Below.heap_setCell _ ⟨K.d,4,none⟩ _ b (by simp;omega)
 have aa:(f.setCell ⟨K.d,4,none⟩ (.slice (some ⟨g,0,none⟩) l.length j)).heap.size=f.heap.size:=by simp[World.setCell]
 have Y:bS (f.setCell ⟨K.d,4,none⟩ (.slice (some ⟨g,0,none⟩) l.length j)) (K.grow w.heap.size f.heap.size) { M with fault:=some (n,l) }:=by
  have an:∀b,K.R b -> b<w.heap.size -> (f.setCell ⟨K.d,4,none⟩ (.slice (some ⟨g,0,none⟩) l.length j)).heap[b]?=w.heap[b]?:=λb m av=>B.block b av (by have:=o b m;rintro(e|e)<;>simp_all)
  refine⟨q,?_,h3,⟨ak,(n:Int),(.slice (some ⟨g,0,none⟩) l.length j),hc,hm,by simpa[RK.grow] using O,⟨L,J,al,λi hi=>?_⟩,⟨l,Q.mono λb c=>.inr ⟨by omega,c.2⟩,by omega,λk t hh=>?_⟩,by omega⟩,E,λk t hh=>?_⟩
  ·rintro b (m|⟨m,aG⟩)
   ·exact⟨(o b m).1,(o b m).2.1,by have:=(o b m).2.2;have:=r.size;omega⟩
   ·exact⟨λe=>by simp[RK.grow] at e;omega,λe=>by simp[RK.grow] at e;omega,by omega⟩
  ·obtain⟨v,y,ao⟩:=Z i hi;exact⟨v,y,(ao.keep an).mono λb m=>.inl m⟩
  ·simp at hh;obtain⟨rfl,rfl⟩:=hh;exact⟨rfl,rfl⟩
  ·simp at hh;obtain⟨rfl,rfl⟩:=hh;exact⟨T,hn⟩
 have⟨ag,ad⟩:=ae2 Y B;clear Y B Q O J W I u r P x S G V Z ar E h6 hf o H N s A c;rw[C] at X;rw[<- ai.x] at X;generalize U:l.length=ln at *;obtain rfl:ln=64:=T;have HL:=ae U;clear U;have⟨ay,az⟩:=ae2 C aa;clear C aa
 go_enter func64,ntmps64
 go_wp2
 go_ret
 exact⟨rfl,⟨K.grow w.heap.size f.heap.size,rfl,λb c=>(RK.grow_all c).imp id (·.1),ag.x⟩,ad.x⟩
/- The reference disk: New. -/
end
section
attribute [local go_sem ↓] aU ep
attribute [local go_sem] opC upC told bE bm bF bp bq bG bH
theorem An{S:List (List UInt8)}(h:bU G W j u S)(s:0<S.length):
 ∃g a L,u=.slice (some ⟨g,0,none⟩) S.length a /\ j <= g /\ ¬G g /\ S.length <= a /\ a <= maxLen /\ Blk W g L 41 /\ L.length=a /\ ∀i (h:i<S.length),∃u,L[i]?=some u /\ aO G W u S[i]:=by
 have n:=λg k=>(h.own (g:=g) k)
 obtain⟨z,o,r,y⟩:=h;rcases o.2 with⟨rfl,t⟩|⟨g,a,c,rfl,l,d,f,m,p,q⟩
 ·omega
 ·refine⟨g,a,c.toList,rfl,l,(n g rfl).2.2,f,m,by unfold Blk;simpa using d,by simpa using p,λi hi=>?_⟩;obtain⟨x,b,e⟩:=r i hi;refine⟨x,?_,e⟩;rw[<- q,List.getElem?_take] at b;split at b
  ·exact b
  ·cases b
theorem yx{w:World}{R Rt:aQ}{base lo d cap:Nat}{a:Option Addr}{S:List (List UInt8)}{M:MD}{after:Int}{tv:Value}{ct:List UInt8}(z:M.S=S)(h:bU R w lo (.slice a S.length cap) S)(o:0<S.length)(J:S.length <= 65536)(q:∀s∈S,s.length=64)
 (n:Blk w d [.slice a S.length cap,.bool M.down,.bool M.fault.isSome,.int .i64 after,tv,.int .i64 (M.writes:Int)] 117) (T:d<lo) (B:base <= d) (l:∀b,R b -> lo <= b) (m:∀b,Rt b -> base <= b /\ b<d)
 (F:aO Rt w tv ct) (E:ct.length <= 140737488355328) (H:∀k t,M.fault=some (k,t) -> after=(k:Int) /\ ct=t) (A:-9223372036854775808 <= after /\ after <= 9223372036854775807) (p:∀k t,M.fault=some (k,t) -> t.length=64 /\ k <= 9223372036854775807):
 ∃K:RK,K.d=d /\ (∀b,K.all b -> base <= b) /\ bS w K M:=by
 obtain⟨g,N,L,f,Q,x,D,I,j,r,G⟩:=An h o;simp at f;obtain⟨rfl,rfl⟩:=f
 have y:∀b,R b -> b<w.heap.size:=λb c=>by
  obtain⟨_,_,_,u⟩:=h;obtain⟨L,O,j⟩:=u b c;exact lt_of_block j
 have P:=n.lt;subst z;refine⟨RK.mk d g (λb=>R b \/ Rt b),rfl,?_,⟨by show d≠g;omega,?_,J,⟨cap,after,tv,D,I,n,⟨L,j,r,λi hi=>?_⟩,⟨ct,F.mono λb c=>.inr c,E,H⟩,A⟩,q,p⟩⟩
 ·intro b c;have c:b=d \/ b=g \/ (R b \/ Rt b):=c;rcases c with rfl|rfl|c|c
  ·exact B
  ·omega
  ·have:=l b c;omega
  ·exact(m b c).1
 ·rintro b (c|c)
  ·exact⟨by show b≠d;have:=l b c;omega,λe=>x (show R g from(show b=g from e)▸c),y b c⟩
  ·have:=m b c;exact⟨by show b≠d;omega,by show b≠g;omega,by omega⟩
 ·obtain⟨v,f,C⟩:=G i hi;exact⟨v,f,C.mono λb c=>.inl c⟩
theorem oA:List.replicate n (List.replicate 64 (0:UInt8))++[List.replicate 64 0]=List.replicate (n+1) (List.replicate 64 0):=by rw[<- List.replicate_succ']
theorem Ao(n:Int)(h:n<1 \/ 65536<n):
 Calls aE 26 #[.int .i64 n] w λe a=>e=.returned (.tuple #[.pointer none,.int .i64 6]) /\ w=a:=by
 by_cases b:n<1
 ·go_enter func26,ntmps26
  go_wp2;go_ret2;exact⟨rfl,rfl⟩
 ·have c:65536<n:=by omega
  go_enter func26,ntmps26
  go_wp2;go_ret2;exact⟨rfl,rfl⟩
theorem Ce(N:0<n)(O:n <= 65536):
 Calls aE 26 #[.int .i64 (n:Int)] w λe c=>∃K:RK,e=.returned (.tuple #[.pointer (some ⟨K.d,0,none⟩),.int .i64 0]) /\ bS c K (MD.fresh n) /\ Kpt w c /\ (∀b,K.all b -> w.heap.size <= b):=by
 have ai:1 <= (n:Int):=by omega
 have ak:(n:Int) <= 65536:=by omega
 have Q:=Blk.new w #[.slice none 0 0,.bool false,.bool false,.int .i64 0,.slice none 0 0,.int .i64 0] 117;have Y:=aI w (.cells #[.slice none 0 0,.bool false,.bool false,.int .i64 0,.slice none 0 0,.int .i64 0] 117)
 go_enter func26,ntmps26
 go_wp2
 go_loopw [5] (λi wr=>∃(k:Nat)(a:Option Addr)(g:Nat)(R:aQ),k <= n /\ i=.int .i64 (k:Int) /\ Blk wr w.heap.size [.slice a k g,.bool false,.bool false,.int .i64 0,.slice none 0 0,.int .i64 0] 117 /\
  bU R wr (w.heap.size+1) (.slice a k g) (List.replicate k (List.replicate 64 0)) /\ (∀b,R b -> w.heap.size+1 <= b) /\ Kpt w wr) (λi _=>n-(intOf i).toNat)
 ·exact⟨0,none,0,none_,by omega,rfl,Q,bU.nil _ _,λb h=>h.elim,Y⟩
 ·obtain⟨k,a,g,R,hk,rfl,v,G,C,E⟩:=hrel;have J:w.heap.size<wr.heap.size:=v.lt
  by_cases ad:k<n
  ·have Z:(k:Int)<(n:Int):=by omega
   obtain⟨f,ag,I,o⟩:∃f,(MK 41 (.int .i64 64) (.int .i64 64)).run aE wr.drew=.ok (.slice (some ⟨wr.heap.size,0,none⟩) 64 64) f /\ Blk f wr.heap.size (List.replicate 64 (B 0)) 5 /\ Below wr.heap.size wr.drew f:=jL wr.drew 64 (by omega)
   have al:=I.lt;have hx:aO (λb=>b=wr.heap.size) f (.slice (some ⟨wr.heap.size,0,none⟩) 64 64) (List.replicate 64 0):=lN I _ rfl;have aa:bU R f (w.heap.size+1) (.slice a k g) (List.replicate k (List.replicate 64 0)):=(G.kept (w':=wr.drew) (Below.refl _ _).drew).kept o;obtain⟨r,u,z,V,H,m⟩:=aa.append hx (by rintro b rfl;exact⟨_,_,I⟩) (by simp;omega) (by have:=o.size;omega);simp only[List.length_replicate,oA] at V H;have x:Blk f w.heap.size _ _:=(v.keep (w':=wr.drew) rfl).keep (o.block w.heap.size J);have F:∀q,Value.ownBlock (.slice a k g)=some q -> w.heap.size+1 <= q /\ q<wr.heap.size /\ ¬R q:=λq p=>G.own p
   have D:Blk z w.heap.size [.slice a k g,.bool false,.bool false,.int .i64 0,.slice none 0 0,.int .i64 0] 117:=(x.alloc _).keep (m.block _ (by have:=x.lt;simp;omega) (λe=>by have:=F _ e.symm;omega));have k0:bI (λb=>w.heap.size<b) wr.drew f:=bI.of_below o;have k1:bI (λb=>w.heap.size<b) f (f.alloc (.cells #[.slice (some ⟨wr.heap.size,0,none⟩) 64 64] 41)):=bI.of_below (aI _ _)
   have k2:bI (λb=>w.heap.size<b) (f.alloc (.cells #[.slice (some ⟨wr.heap.size,0,none⟩) 64 64] 41)) z:=⟨m.os,m.tape,m.output,m.size,λq p hn=>m.block q p (λe=>hn (by have:=F _ e.symm;omega))⟩
   have X:Kpt w z:=((E.drew.trans (o.mono (show w.heap.size <= wr.heap.size from E.size))).alloc (by have:=x.lt;omega) _).grown m (by simp;have:=x.lt;omega) (λq p=>by have:=F q p;omega);have L:=D.cell 0;have f0:=D.free 0;simp at L;have W:=D.set 0 (.slice r (k+1) u)
   have ab:bU _ (z.setCell ⟨w.heap.size,0,none⟩ (.slice r (k+1) u)) (w.heap.size+1) (.slice r (k+1) u) (List.replicate (k+1) (List.replicate 64 0)):=H.keep λb l _=>Below.heap_setCell _ ⟨w.heap.size,0,none⟩ _ b (by
    rcases l with l|l|l
    ·have:=(H.own l).1;show b≠w.heap.size;omega
    ·have:=C b l;show b≠w.heap.size;omega
    ·show b≠w.heap.size;omega)
   go_wp2_with fail
   have q0:∀c,bI (λb=>w.heap.size<b) wr.drew c -> c.cell? ⟨w.heap.size,0,none⟩=some (.slice a k g):=λc hh=>by
    rw[World.cell?_of_block (w:=wr.drew) (a:=⟨w.heap.size,0,none⟩) (hh.block w.heap.size J (by omega))];simpa using(v.keep (w':=wr.drew) rfl).cell 0
   refine dq (bI (λb=>w.heap.size<b)) 10 (up 5 [505,506,507,8,9,510]) (by kernel_rfl) ?_;apply bC;rfl;intro c P;go_simp;exact aF;refine cD rfl rfl (λA j=>?_);go_simp;refine j _ _ ?_;go_simp;refine cD rfl rfl (λA j=>?_);go_simp;refine j _ _ ?_;go_simp;refine cD rfl rfl (λA j=>?_);go_simp;refine j _ _ ?_;go_simp;apply bC;rfl;intro c P;go_simp;exact aF;refine cG rfl rfl rfl (λA j=>?_);go_simp;refine j _ _ ?_;go_simp;refine cZ ?_;go_wp2
   go_roundw
   ·exact⟨k+1,r,u,_,by omega,by go_num,by simpa using W,ab,(by
    rintro b (l|l)
    ·exact C b l
    ·omega),X.setCell (aq _) _⟩
   ·simp[intOf];omega
  ·have Z:¬(k:Int)<(n:Int):=by omega
   obtain rfl:k=n:=by omega
   go_wp2;go_ret2;have y:(List.replicate k (List.replicate 64 (0:UInt8))).length=k:=by simp
   obtain⟨K,U,T,j⟩:=yx (M:=MD.fresh k) (w:=wr) (Rt:=none_) (base:=w.heap.size) (lo:=w.heap.size+1) (d:=w.heap.size) (S:=List.replicate k (List.replicate 64 0)) (after:=0) (tv:=.slice none 0 0) (ct:=[]) (cap:=g) (a:=a) rfl (by rw[y];exact G) (by rw[y];exact N) (by rw[y];exact O) (λs hs=>by rw[List.eq_of_mem_replicate hs];simp)
    (by rw[y];exact v) (by omega) (by omega) C (λb h=>h.elim) ⟨none,0,rfl,by simp,by unfold maxLen;omega,λ_=>rfl,.inl rfl⟩ (by simp) (λk t h=>by simp[MD.fresh] at h) (by omega) (λk t h=>by simp[MD.fresh] at h)
   exact⟨K,by rw[U];rfl,j,E,T⟩
/- The reference disk: Copy. -/
theorem Ap(h:W.ownsRow i t 1 u l.length (l.map B)):∃a b,u=.slice a l.length b:=by
 rcases h.2 with⟨rfl,c⟩|⟨g,b,d,rfl,_⟩
 ·exact⟨none,0,by rw[c]⟩
 ·exact⟨_,b,rfl⟩
theorem mW(l:List UInt8)(z:aO F w v l)(t:l.length <= 140737488355328):
 ∃a d c,(AP #[41,41] 41 #[.slice (some ⟨w.heap.size,0,none⟩) 0 0,v]).run aE (w.alloc (.cells #[] 5))=.ok (.slice a l.length d) c /\
  c.ownsRow w.heap.size 5 1 (.slice a l.length d) l.length (l.map B) /\ Kpt w c /\ (w.alloc (.cells #[] 5)).grownBy c (some w.heap.size) /\
  aO (λb=>w.heap.size <= b /\ b<c.heap.size /\ ∃L o,c.heap[b]?=some (.cells L 5 o)) c (.slice a l.length d) l:=by
 obtain⟨D,c,x,e,n⟩:=cP (w.alloc (.cells #[] 5)) w.heap.size (.slice (some ⟨w.heap.size,0,none⟩) 0 0) []
  ⟨rfl,.inr ⟨w.heap.size,0,#[],rfl,aq _,by unfold World.alloc;simp,aq _,by unfold maxLen;omega,rfl,rfl⟩⟩ F v l (z.keep λb _ f=>Below.heap_alloc _ _ _ f) (by simpa using t) (by simp)
 rw[List.nil_append] at e;obtain⟨a,d,rfl⟩:=Ap e;refine⟨a,d,c,x,e,(aI _ _).grown n (by simp) (λk s=>by simp[Value.ownBlock] at s;omega),n,?_⟩;have q:=e.2;rcases q with⟨h,p⟩|⟨g,A,m,h,f,j,r,u,C,y⟩
 ·simp at h;obtain⟨rfl,_,rfl⟩:=h;exact⟨none,0,rfl,by omega,by unfold maxLen;omega,λ_=>rfl,.inl (List.length_eq_zero_iff.1 p)⟩
 ·simp at h;obtain⟨rfl,rfl⟩:=h;refine⟨_,d,rfl,r,u,nofun,.inr ⟨g,0,m,5,(0,0),rfl,⟨f,lt_of_block j,_,_,j⟩,j,by omega,λi hi=>?_⟩⟩;have:(m.toList.take (l.length*1))[i]?=(l.map B)[i]?:=by rw[y]
  rw[List.getElem?_take,if_pos (by omega)] at this;simpa[List.getElem?_eq_getElem hi] using this
end
end Go.Proofs.YtobjdpngnfbicaaGreatDoor
