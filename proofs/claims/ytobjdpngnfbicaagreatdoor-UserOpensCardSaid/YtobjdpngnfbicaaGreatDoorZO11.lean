/-
  RRef4 ShelfB RForg RDel
-/
import Derived.Test.YtobjdpngnfbicaaGreatDoorZO10
import Derived.Shelf.Spec.SearchS
open Go.Lib renaming hid->ae
open Go.IntWalk renaming i64_in->af
open Nat renaming le_refl->aq,le_trans->au,lt_of_lt_of_le->aw
open List renaming length_append->aA,append_assoc->aB,getElem_mem->aC,length_cons->aD
open Go.Proofs.Tryz renaming prog->aE
set_option maxHeartbeats 8000000
set_option maxRecDepth 100000
set_option linter.all false
namespace Go.Proofs.YtobjdpngnfbicaaGreatDoor
open Go.RowKit
open Tryz
variable(w:World)(F:aX)(n:Nat)(v:Value)(m:aU){W w':World}{u:Value}{i j o:Nat}{L:List Value}{r:aU}{t:TypeId}
section
attribute [local go_sem ↓] aV
structure dG(w:World)(base:Nat)(s1 s2 s3:Value)(m:aU):Prop where
 seen:w.ownsRow base 3 1 s1 m.seen.length (m.seen.map eI)
 items:w.ownsRow base 129 4 s2 m.items.length (m.items.flatMap bU)
 gone:w.ownsRow base 130 3 s3 m.gone.length (m.gone.flatMap dC)
theorem dG.map{c d e:Value}(h:dG W i c d e r)(a:Bnd r):cG (fun b=>i <= b) W c d e r:=
 ⟨(Rows.of_owns h.seen).mono (fun b h _=>h.1),(Rows.of_owns h.items).mono (fun b h _=>h.1),(Rows.of_owns h.gone).mono (fun b h _=>h.1),a.seenB,a.itemsB,a.goneB⟩
theorem dG.below{b c d:Value}(h:dG W i b c d r)(a:Below W.heap.size W w'):dG w' i b c d r:=
 ⟨bm h.seen a,bm h.items a,bm h.gone a⟩
theorem dG.mono{b c d:Value}(h:dG W i b c d r)(a:j <= i):dG W j b c d r:=
 ⟨bP h.seen a,bP h.items a,bP h.gone a⟩
theorem dG.setCell{w:World}{c b i:Nat}{d e f:Value}{m:aU}{L:List Value}(h:dG w c d e f m)(a:Blk w b L 75)(u:Value):dG (w.setCell ⟨b,i,none⟩ u) c d e f m:=
 ⟨aL h.seen a (by decide) u,aL h.items a (by decide) u,aL h.gone a (by decide) u⟩
theorem pq(h:dl F w v m)(hs:m.seen.length <= 1000000)(hi:m.items.length <= 1000000)(hg:m.gone.length <= 1000000):
 Calls aE 179 #[v] w fun e w'=>(∃s1 s2 s3,e=.returned (.agg #[s1,s2,s3]) /\ dG w' w.heap.size s1 s2 s3 m) /\ Below w.heap.size w w':=by
 replace h:=h.mono (G:=fun b=>b<w.heap.size) fun b _ al=>al
 replace h:=o6 h 75
 obtain⟨R,p1,S,p2,T,p3,wx,rfl,aP,ai,an,Hx,aF⟩:=h;obtain⟨o,O⟩:=aQ ((wx.alloc (.cells #[.slice none 0 0,.slice none 0 0,.slice none 0 0] 75)).alloc (.cells #[.slice none 0 0,.slice none 0 0,.slice none 0 0] 75));have ar:Below w.heap.size w o:=by rw[O];exact(ai.out.alloc ai.out.size _).alloc (by have:=ai.out.size;simp;omega) _
 have ax:o.heap.size=w.heap.size+3:=by rw[O];simp[an.out]
 have k1:Blk o w.heap.size [.slice R m.seen.length p1,.slice S m.items.length p2,.slice T m.gone.length p3] 75:=by rw[O];exact(aF.out.alloc _).alloc _
 have k2:Blk o (w.heap.size+1) [.slice none 0 0,.slice none 0 0,.slice none 0 0] 75:=by
  have:=(Blk.new wx #[.slice none 0 0,.slice none 0 0,.slice none 0 0] 75).alloc (.cells #[.slice none 0 0,.slice none 0 0,.slice none 0 0] 75);rw[O,<- an.out];exact this
 have k3:Blk o (w.heap.size+1+1) [.slice none 0 0,.slice none 0 0,.slice none 0 0] 75:=by
  have:=Blk.new (wx.alloc (.cells #[.slice none 0 0,.slice none 0 0,.slice none 0 0] 75)) #[.slice none 0 0,.slice none 0 0,.slice none 0 0] 75;simp only[World.size_alloc,an.out] at this;rw[O];exact this
 have HM:=ae (show ∀W,Below w.heap.size w W -> cG (fun b=>b<w.heap.size) W (.slice R m.seen.length p1) (.slice S m.items.length p2) (.slice T m.gone.length p3) m from fun W hb=>Hx.out.keep (w':=W) fun b al _=>(hb.block b al).trans (ai.out.block b al).symm);have aJ:=ae O;have ag:=ae ar;have a8:=ae ax;have K1:=ae k1;have K2:=ae k2;have K3:=ae k3;clear O ar ax k1 k2 k3
 go_enter func179,ntmps179
 go_wp2_with fail;rw[<- aP.out,<- aJ.out];obtain⟨i0,H,I,J,K⟩:=info_parts vE;have c:o.ownsRow o.heap.size 3 1 (.slice none 0 0) 0 []:=World.ownsRow_nil _ _ _ _;obtain⟨v1,w3,hr,i,g⟩:=ek (P:=aE) o o.heap.size 33 3 underlying33 H I J K rfl (by decide) _ _ _ c _ _ _ _ (HM.out o ag.out).seen (xP _) (by unfold maxLen;omega) (by omega) (aq _);rw[Nat.zero_add,List.nil_append] at i;have p:Below o.heap.size o w3:=Below.grownOwn c g (aq _) (aq _);obtain⟨s,t,rfl⟩:=aK i;have q:=K1.out.grownNe c (by decide) g;have d:=K2.out.grownNe c (by decide) g;have f:=K3.out.grownNe c (by decide) g;have z:Below w.heap.size w w3:=ag.out.trans (p.mono ag.out.size);obtain⟨j,a⟩:=aQ (w3.setCell ⟨w.heap.size+1+1,0,none⟩ (.slice s m.seen.length t));have C:Blk j w.heap.size [.slice R m.seen.length p1,.slice S m.items.length p2,.slice T m.gone.length p3] 75:=by rw[a];exact q.set_other _ (by show w.heap.size≠w.heap.size+1+1;omega)
 have D:Blk j (w.heap.size+1) [.slice none 0 0,.slice none 0 0,.slice none 0 0] 75:=by rw[a];exact d.set_other _ (by show w.heap.size+1≠w.heap.size+1+1;omega)
 have E:Blk j (w.heap.size+1+1) [.slice s m.seen.length t,.slice none 0 0,.slice none 0 0] 75:=by rw[a];exact f.set 0 _
 have B:j.ownsRow w.heap.size 3 1 (.slice s m.seen.length t) m.seen.length (m.seen.map eI):=by rw[a];exact bP (aL i f (by decide) _) ag.out.size
 have A:Below w.heap.size w j:=by rw[a];exact z.setCell (by show w.heap.size <= w.heap.size+1+1;omega) _
 try clear U V X
 try clear g0 g1 g2 g3 g4 g5
 try clear Y Z e2 f0
 obtain⟨Y,Z,e2⟩:=aS f;have f0:=f.free 0;obtain⟨U,V,X⟩:=aS q;obtain⟨g0,g1,g2⟩:=aS d;have g3:=d.free 0;have g4:=d.free 1;have g5:=d.free 2;have aM:=ae a;have aR:=ae C;have aV:=ae D;have aY:=ae E;have aG:=ae B;have ab:=ae A;have a7:=ae (show ∀(r:TypeId)(k n:Nat)(u:Value)(L:List Value),o.ownsRow w.heap.size r k u n L -> r≠75 -> j.ownsRow w.heap.size r k u n L from fun _ _ _ _ _ ho aa=>by rw[a];exact aL (bm ho p) f aa _);clear c g q d f z a C D E B A H I J K i p;go_simp;go_wp2_with fail;rw[<- aM.out];clear hr;obtain⟨i0,H,I,J,K⟩:=info_parts ms;have c:j.ownsRow j.heap.size 129 4 (.slice none 0 0) 0 []:=World.ownsRow_nil _ _ _ _;obtain⟨v1,w5,hr,i,g⟩:=ek (P:=aE) j j.heap.size 72 129 underlying72 H I J K rfl (by decide) _ _ _ c _ _ _ _ (HM.out j ab.out).items (mj _) (by unfold maxLen;omega) (by omega) (aq _);rw[Nat.zero_add,List.nil_append] at i;have p:Below j.heap.size j w5:=Below.grownOwn c g (aq _) (aq _);obtain⟨x,y,rfl⟩:=aK i;have q:=aR.out.grownNe c (by decide) g;have d:=aV.out.grownNe c (by decide) g;have f:=aY.out.grownNe c (by decide) g;have z:Below w.heap.size w w5:=ab.out.trans (p.mono ab.out.size);obtain⟨l,a⟩:=aQ (w5.setCell ⟨w.heap.size+1+1,1,none⟩ (.slice x m.items.length y));have C:Blk l w.heap.size [.slice R m.seen.length p1,.slice S m.items.length p2,.slice T m.gone.length p3] 75:=by rw[a];exact q.set_other _ (by show w.heap.size≠w.heap.size+1+1;omega)
 have D:Blk l (w.heap.size+1) [.slice none 0 0,.slice none 0 0,.slice none 0 0] 75:=by rw[a];exact d.set_other _ (by show w.heap.size+1≠w.heap.size+1+1;omega)
 have E:Blk l (w.heap.size+1+1) [.slice s m.seen.length t,.slice x m.items.length y,.slice none 0 0] 75:=by rw[a];exact f.set 1 _
 have B:l.ownsRow w.heap.size 129 4 (.slice x m.items.length y) m.items.length (m.items.flatMap bU):=by rw[a];exact bP (aL i f (by decide) _) ab.out.size
 have A:Below w.heap.size w l:=by rw[a];exact z.setCell (by show w.heap.size <= w.heap.size+1+1;omega) _
 try clear U V X
 try clear g0 g1 g2 g3 g4 g5
 try clear Y Z e2 f0
 obtain⟨Y,Z,e2⟩:=aS f;have f0:=f.free 1;obtain⟨U,V,X⟩:=aS q;obtain⟨g0,g1,g2⟩:=aS d;have g3:=d.free 0;have g4:=d.free 1;have g5:=d.free 2;have aN:=ae a;have aT:=ae C;have aW:=ae D;have aZ:=ae E;have aH:=ae B;have ad:=ae A;have az:=ae (show ∀(r:TypeId)(k n:Nat)(u:Value)(L:List Value),j.ownsRow w.heap.size r k u n L -> r≠75 -> l.ownsRow w.heap.size r k u n L from fun _ _ _ _ _ ho aa=>by rw[a];exact aL (bm ho p) f aa _);clear c g q d f z a C D E B A H I J K i p;go_simp;go_wp2_with fail;rw[<- aN.out];clear hr;obtain⟨i0,H,I,J,K⟩:=info_parts qk;have c:l.ownsRow l.heap.size 130 3 (.slice none 0 0) 0 []:=World.ownsRow_nil _ _ _ _;obtain⟨v1,w7,hr,i,g⟩:=ek (P:=aE) l l.heap.size 73 130 underlying73 H I J K rfl (by decide) _ _ _ c _ _ _ _ (HM.out l ad.out).gone (ml _) (by unfold maxLen;omega) (by omega) (aq _);rw[Nat.zero_add,List.nil_append] at i;have p:Below l.heap.size l w7:=Below.grownOwn c g (aq _) (aq _);obtain⟨M,N,rfl⟩:=aK i;have q:=aT.out.grownNe c (by decide) g;have d:=aW.out.grownNe c (by decide) g;have f:=aZ.out.grownNe c (by decide) g;have z:Below w.heap.size w w7:=ad.out.trans (p.mono ad.out.size);obtain⟨Q,a⟩:=aQ (w7.setCell ⟨w.heap.size+1+1,2,none⟩ (.slice M m.gone.length N));have C:Blk Q w.heap.size [.slice R m.seen.length p1,.slice S m.items.length p2,.slice T m.gone.length p3] 75:=by rw[a];exact q.set_other _ (by show w.heap.size≠w.heap.size+1+1;omega)
 have D:Blk Q (w.heap.size+1) [.slice none 0 0,.slice none 0 0,.slice none 0 0] 75:=by rw[a];exact d.set_other _ (by show w.heap.size+1≠w.heap.size+1+1;omega)
 have E:Blk Q (w.heap.size+1+1) [.slice s m.seen.length t,.slice x m.items.length y,.slice M m.gone.length N] 75:=by rw[a];exact f.set 2 _
 have B:Q.ownsRow w.heap.size 130 3 (.slice M m.gone.length N) m.gone.length (m.gone.flatMap dC):=by rw[a];exact bP (aL i f (by decide) _) ad.out.size
 have A:Below w.heap.size w Q:=by rw[a];exact z.setCell (by show w.heap.size <= w.heap.size+1+1;omega) _
 try clear U V X
 try clear g0 g1 g2 g3 g4 g5
 try clear Y Z e2 f0
 obtain⟨Y,Z,e2⟩:=aS f;have f0:=f.free 2;obtain⟨U,V,X⟩:=aS q;obtain⟨g0,g1,g2⟩:=aS d;have g3:=d.free 0;have g4:=d.free 1;have g5:=d.free 2;have aO:=ae a;have a9:=ae C;have ak:=ae D;have ba:=ae E;have aI:=ae B;have ay:=ae A;have ao:=ae (show ∀(r:TypeId)(k n:Nat)(u:Value)(L:List Value),l.ownsRow w.heap.size r k u n L -> r≠75 -> Q.ownsRow w.heap.size r k u n L from fun _ _ _ _ _ ho aa=>by rw[a];exact aL (bm ho p) f aa _);clear c g q d f z a C D E B A H I J K i p;go_simp;go_wp2_with fail;rw[<- aO.out];clear hr;obtain⟨wf,av,a4,a0⟩:=dJ ak.out ay.out (Nat.le_succ _) (.slice s m.seen.length t) (.slice x m.items.length y) (.slice M m.gone.length N);rw[<- av];obtain⟨t0,t1,t2⟩:=aS a4
 have a6:dG Q w.heap.size (.slice s m.seen.length t) (.slice x m.items.length y) (.slice M m.gone.length N) m:=⟨ao.out _ _ _ _ _ (az.out _ _ _ _ _ aG.out (by decide)) (by decide),ao.out _ _ _ _ _ aH.out (by decide),aI.out⟩
 have a5:dG wf w.heap.size (.slice s m.seen.length t) (.slice x m.items.length y) (.slice M m.gone.length N) m:=by
  rw[av];exact((a6.setCell ak.out _).setCell (ak.out.set 0 _) _).setCell ((ak.out.set 0 _).set 1 _) _
 exact bodyPost_ret (v:=.agg #[.slice s m.seen.length t,.slice x m.items.length y,.slice M m.gone.length N]) (by simp[results,results179,go_sem,t0,t1,t2]) rfl ⟨⟨_,_,_,rfl,a5⟩,a0⟩
theorem pt(h:dl F w v m)(aa:∀x∈m.items,x.key.length <= 1000000000)(Z:∀x∈m.gone,x.key.length <= 1000000000):
 Calls aE 182 #[v] w fun e w'=>e=.returned (.tuple #[if bp m then v else .agg #[.slice none 0 0,.slice none 0 0,.slice none 0 0],.int .i64 (if bp m then 0 else 7)]) /\ Below w.heap.size w w':=by
 replace h:=h.mono (G:=fun b=>b<w.heap.size) fun b _ N=>N
 replace h:=j8 h 75
 obtain⟨s,C,t,D,u,E,z,A,B,wx,rfl,h,l1,l2,l3,ai,ak,al,ao,S,V,U,T,c0,c1,c2⟩:=h
 try rw[ai.out]
 try rw[ak.out]
 try rw[al.out]
 clear h;obtain⟨f,d⟩:=aQ (wx.alloc (.cells #[.slice none 0 0,.slice none 0 0,.slice none 0 0] 75));have Y:Below w.heap.size w f:=by rw[d];exact S.out.alloc S.out.size _
 have ag:f.heap.size=w.heap.size+2:=by rw[d];simp[V.out]
 have k1:Blk f w.heap.size [.slice s z C,.slice t A D,.slice u B E] 75:=by rw[d];exact T.out.alloc _
 have k2:Blk f (w.heap.size+1) [.slice none 0 0,.slice none 0 0,.slice none 0 0] 75:=by
  have:=Blk.new wx #[.slice none 0 0,.slice none 0 0,.slice none 0 0] 75;rw[d,<- V.out];exact this
 have ab:=U.out.keep (w':=f) fun b _ N=>by rw[d];exact Below.heap_alloc _ _ _ N
 have r:=ae (gY f _ (.agg #[.slice s z C,.slice t A D,.slice u B E]) m ⟨_,_,_,rfl,ab⟩ aa Z);obtain⟨ok,ad⟩:=aH (bp m);rw[ad] at r⊢;have an:=ae d;have R:=ae Y;have W:=ae k1;have X:=ae k2;have ar:=ae ag;clear d Y k1 k2 ab ag U T ad aa Z c0 c1 c2
 go_enter func182,ntmps182
 go_wp2_with fail;rw[<- ao.out,<- an.out];refine r.out.mono ?_;rintro e w3 ⟨rfl,g⟩;have k:=W.out.keep (g.block _ W.out.lt);have c:=X.out.keep (g.block _ X.out.lt);have d0:=k.cell 0;have d1:=k.cell 1;have d2:=k.cell 2;simp at d0 d1 d2;have y0:=c.cell 0;have y1:=c.cell 1;have y2:=c.cell 2;have z0:=c.free 0;have z1:=c.free 1;have z2:=c.free 2;simp at y0 y1 y2;have M:Below w.heap.size w w3:=R.out.trans (g.mono R.out.size)
 have y:∀O P Q:Value,∃q,q=((w3.setCell ⟨w.heap.size+1,0,none⟩ O).setCell ⟨w.heap.size+1,1,none⟩ P).setCell ⟨w.heap.size+1,2,none⟩ Q /\ Blk q (w.heap.size+1) [O,P,Q] 75 /\ Below w.heap.size w q:=fun O P Q=>
  ⟨_,rfl,set3 _ c rfl,((M.setCell (p:=⟨w.heap.size+1,0,none⟩) (Nat.le_succ _) _).setCell (p:=⟨w.heap.size+1,1,none⟩) (Nat.le_succ _) _).setCell (p:=⟨w.heap.size+1,2,none⟩) (Nat.le_succ _) _⟩
 cases ok with
 |true=>
  obtain⟨q,j,a,i⟩:=y (.slice s z C) (.slice t A D) (.slice u B E);have J:=ae (a.cell 0);have K:=ae (a.cell 1);have L:=ae (a.cell 2);have H:=ae i;have I:=ae j;clear y j a i k c r g M;go_wp2_with fail;rw[<- I.out];have l:=J.out;have n:=K.out;have o:=L.out;simp at l n o;refine bodyPost_ret (v:=.tuple #[.agg #[.slice s z C,.slice t A D,.slice u B E],.int .i64 0]) (by simp[results,results182,go_sem,l,n,o]) rfl ⟨rfl,H.out⟩
 |false=>
  obtain⟨q,j,a,i⟩:=y (.slice none 0 0) (.slice none 0 0) (.slice none 0 0);have J:=ae (a.cell 0);have K:=ae (a.cell 1);have L:=ae (a.cell 2);have H:=ae i;have I:=ae j;clear y j a i k c r g M;go_wp2_with fail;rw[<- I.out];have l:=J.out;have n:=K.out;have o:=L.out;simp at l n o;refine bodyPost_ret (v:=.tuple #[.agg #[.slice none 0 0,.slice none 0 0,.slice none 0 0],.int .i64 7]) (by simp[results,results182,go_sem,l,n,o]) rfl ⟨rfl,H.out⟩
/- The reference: Use. -/
end
section
attribute [local go_sem ↓] aV
attribute [local go_sem] opC upC told bG br bH bt bw bI bJ
theorem mE{α:Type}(a:α -> RPl)(l:List α)(x:α):(dK a l x).length <= l.length+1:=by
 unfold dK;rw[aA,aD];have c:=List.length_filter_le (fun e=>decide (a e≠a x)) (l.dropWhile fun e=>decide (plt (a e) (a x)));have b:=congrArg List.length (List.takeWhile_append_dropWhile (p:=fun e=>decide (plt (a e) (a x))) (l:=l));rw[aA] at b;omega
def gI(d b:Int)(a:bR)(v:Int)(x:RIt):Int:=if x.pl=(a,d) then j5 x.val (b-x.seq) else v
def iz(l:List RIt)(d b:Int)(a:bR)(j:Nat):Int:=(l.take j).foldl (gI d b a) 65536
theorem At(l:List RIt)(d b:Int)(a:bR)(j:Nat)(h:j<l.length):iz l d b a (j+1)=gI d b a (iz l d b a j) l[j]:=by
 unfold iz;rw[List.take_succ_eq_append_getElem h,List.foldl_append];rfl
theorem tC(d b:Int)(a:bR):∀(l:List RIt)(v:Int),(∀x∈l,x.pl≠(a,d)) -> l.foldl (gI d b a) v=v
 |[],v,_=>rfl
 |x::l,v,h=>by
  rw[List.foldl_cons,gI,if_neg (h x List.mem_cons_self)];exact tC d b a l v fun y c=>h y (List.mem_cons_of_mem _ c)
theorem wL(d c:Int)(b:bR):∀(l:List RIt)(v:Int),Asc RIt.pl l -> l.foldl (gI d c b) v=match dh RIt.pl l (b,d) with|some o=>j5 o.val (c-o.seq)|none=>v
 |[],v,_=>rfl
 |x::l,v,h=>by
  rw[List.foldl_cons,cC]
  by_cases a:x.pl=(b,d)
  ·rw[if_pos a,tC d c b l _ (fun y f e=>iV ((List.pairwise_cons.1 h).1 y f) (a.trans e.symm)),gI,if_pos a]
  ·rw[if_neg a,gI,if_neg a];exact wL d c b l v (List.pairwise_cons.1 h).2
theorem BZ(d:Int)(a:bR)(h:Asc RIt.pl m.items):(⟨a,d,iC m d,iz m.items d (iC m d) a m.items.length⟩:RIt)=dH m d a:=by
 unfold iz dH;rw[List.take_length,wL d _ a _ _ h];cases dh RIt.pl m.items (a,d)<;>rfl
def zx(w:World)(a:aU×Int)(e:Ending)(c:World):Prop:=∃r,e=.returned (.tuple #[r,.int .i64 a.2]) /\ dl (fun b=>w.heap.size <= b) c r a.1 /\ Below w.heap.size w c
def EH(w:World)(d:Nat)(v:Value)(m:aU):Prop:=∃a b c,v=.agg #[a,b,c] /\ dG w d a b c m /\ Bnd m
theorem fF:EH w n (.agg #[.slice none 0 0,.slice none 0 0,.slice none 0 0]) .empty:=⟨_,_,_,rfl,⟨World.ownsRow_nil _ _ _ _,World.ownsRow_nil _ _ _ _,World.ownsRow_nil _ _ _ _⟩,nofun,nofun,nofun⟩
def ru(w:World)(a:aU×Int)(e:Ending)(b:World):Prop:=∃r,e=.returned (.tuple #[r,.int .i64 a.2]) /\ EH b w.heap.size r a.1 /\ Below w.heap.size w b
theorem ru.post{a:aU×Int}{e:Ending}(h:ru W a e w'):zx W a e w':=by
 obtain⟨r,b,⟨g,i,j,rfl,c,d⟩,f⟩:=h;exact⟨_,b,⟨_,_,_,rfl,c.map d⟩,f⟩
theorem B1(h:dl F w v m)(dm:∀x∈m.items,x.key.length <= 1000000000)(dk:∀x∈m.gone,x.key.length <= 1000000000)
 (d:Int) (G:aX) (lv:Value) (l:List bR) (a0:Rows G w 1 lv l.length (l.map eS)) (hl:l.length <= 100000) (hk:∀k∈l,k.length <= 1000000000):
 Calls aE 121 #[v,.int .i64 d,lv] w (ru w (fK m d l)):=by
 replace h:=h.mono (G:=fun b=>b<w.heap.size) fun b _ aa=>aa
 replace a0:=a0.mono (G:=fun b=>b<w.heap.size) fun b _ aa=>aa
 replace h:=o6 h 75
 obtain⟨a1,p1,a2,V,a3,p3,wx,rfl,cT,bk,b0,Hx,bm⟩:=h;obtain⟨al,cl,rfl,-⟩:=a0.shape;obtain⟨c,aP⟩:=aQ (wx.alloc (.cells #[.slice none 0 0,.slice none 0 0,.slice none 0 0] 75));have b8:Below w.heap.size w c:=by rw[aP];exact bk.out.alloc bk.out.size _
 have ct:c.heap.size=w.heap.size+2:=by rw[aP];simp[b0.out]
 have k1:Blk c w.heap.size [.slice a1 m.seen.length p1,.slice a2 m.items.length V,.slice a3 m.gone.length p3] 75:=by rw[aP];exact bm.out.alloc _
 have k2:Blk c (w.heap.size+1) [.slice none 0 0,.slice none 0 0,.slice none 0 0] 75:=by
  have:=Blk.new wx #[.slice none 0 0,.slice none 0 0,.slice none 0 0] 75;rw[aP,<- b0.out];exact this
 have C:=ae (show ∀W,Below c.heap.size c W -> Below w.heap.size w W /\ Blk W w.heap.size [.slice a1 m.seen.length p1,.slice a2 m.items.length V,.slice a3 m.gone.length p3] 75 /\ Blk W (w.heap.size+1) [.slice none 0 0,.slice none 0 0,.slice none 0 0] 75 /\ cG (fun b=>b<w.heap.size) W (.slice a1 m.seen.length p1) (.slice a2 m.items.length V) (.slice a3 m.gone.length p3) m /\ Rows (fun b=>b<w.heap.size) W 1 (.slice al l.length cl) l.length (l.map eS) from fun W T=>by
  have hB:Below w.heap.size w W:=b8.trans (T.mono (by omega))
  exact⟨hB,k1.keep (T.block _ k1.lt),k2.keep (T.block _ k2.lt),Hx.out.keep (w':=W) fun b aa _=>(hB.block b aa).trans (bk.out.block b aa).symm,a0.keep (w':=W) fun b aa _=>hB.block b aa⟩)
 have HV:=ae (gY c _ (.agg #[.slice a1 m.seen.length p1,.slice a2 m.items.length V,.slice a3 m.gone.length p3]) m ⟨_,_,_,rfl,(C.out c (Below.refl _ _)).2.2.2.1⟩ dm dk);obtain⟨ok,ar⟩:=aH (bp m);rw[ar] at HV;obtain⟨c0,c1,c2⟩:=aS k1;have cQ:=ae aP;have cV:=ae ct;have az:=ae ar;clear aP b8 ct k1 k2 a0 ar
 go_enter func121,ntmps121
 go_wp2_with fail;rw[<- cT.out,<- cQ.out];refine HV.out.mono ?_;rintro e w3 ⟨rfl,aM⟩;clear HV c0 c1 c2;cases ok with
 |false=>
  have Y:=ae (show fK m d l=(.empty,5) by unfold fK;rw[az.out];rfl);have p:=(C.out w3 aM).2.2.1;have aO:=(C.out w3 aM).1;clear aM;obtain⟨wf,K,M,L⟩:=dJ p aO (Nat.le_succ _) (.slice none 0 0) (.slice none 0 0) (.slice none 0 0);obtain⟨y0,y1,y2⟩:=aS p;have z0:=p.free 0;have z1:=p.free 1;have z2:=p.free 2;have Q:=ae (aS M);have ad:=ae L;have ak:=ae K;clear K M L;go_wp2_with fail;rw[<- ak.out];obtain⟨q0,q1,q2⟩:=Q.out;exact bodyPost_ret (v:=.tuple #[.agg #[.slice none 0 0,.slice none 0 0,.slice none 0 0],.int .i64 5]) (by simp[results,results121,go_sem,q0,q1,q2]) rfl ⟨_,by rw[Y.out],by rw[Y.out];exact fF _ _,ad.out⟩
 |true=>
  have HA:=ae (oB w3 _ _ d l (C.out w3 aM).2.2.2.2 (by omega) hk);obtain⟨du,bv⟩:=aH (di d l);rw[bv] at HA;have bj:=ae bv;have bQ:=ae aM;clear bv aM;go_wp2_with fail;refine HA.out.mono ?_;rintro e S ⟨rfl,b9⟩;have an:Below c.heap.size c S:=bQ.out.trans (b9.mono bQ.out.size);clear HA b9;cases du with
  |false=>
   have Y:=ae (show fK m d l=(.empty,1) by unfold fK;rw[az.out,bj.out];rfl);have p:=(C.out S an).2.2.1;have aO:=(C.out S an).1;clear an;obtain⟨wf,K,M,L⟩:=dJ p aO (Nat.le_succ _) (.slice none 0 0) (.slice none 0 0) (.slice none 0 0);obtain⟨y0,y1,y2⟩:=aS p;have z0:=p.free 0;have z1:=p.free 1;have z2:=p.free 2;have Q:=ae (aS M);have ad:=ae L;have ak:=ae K;clear K M L;go_wp2_with fail;rw[<- ak.out];obtain⟨q0,q1,q2⟩:=Q.out;exact bodyPost_ret (v:=.tuple #[.agg #[.slice none 0 0,.slice none 0 0,.slice none 0 0],.int .i64 1]) (by simp[results,results121,go_sem,q0,q1,q2]) rfl ⟨_,by rw[Y.out],by rw[Y.out];exact fF _ _,ad.out⟩
  |true=>
   have ha:=(eW d l).1 bj.out;have f:=cq az.out;have cj:=f.len;have dq:m.items.length <= 4096:=by have:=az.out;unfold bp at this;simp at this;omega
   have dC:m.gone.length <= 4096:=by have:=az.out;unfold bp at this;simp at this;omega
   obtain⟨c0,c1,c2⟩:=aS (C.out S an).2.1;have HC:=ae (pq S _ (.agg #[.slice a1 m.seen.length p1,.slice a2 m.items.length V,.slice a3 m.gone.length p3]) m ⟨_,_,_,rfl,(C.out S an).2.2.2.1⟩ (by omega) (by omega) (by omega));have a7:=ae an;have Ha:=ae ha;have Hf:=ae f;have bZ:=ae cj;clear an ha f cj;go_wp2_with fail;refine HC.out.mono ?_;rintro e u ⟨⟨s1,s2,s3,rfl,B⟩,ca⟩;have a8:Below c.heap.size c u:=a7.out.trans (ca.mono a7.out.size);obtain⟨b1,H,dr⟩:=aK B.seen;obtain⟨b2,e2,rfl⟩:=aK B.items;obtain⟨D,I,rfl⟩:=aK B.gone;subst dr
   obtain⟨g,rfl⟩:∃g,b1=some ⟨g,0,none⟩:=by
    rcases B.seen.2 with⟨_,h0⟩|⟨g,c6,E,hv,_⟩
    ·have:=bZ.out;omega
    ·simp at hv;exact⟨g,hv.1⟩
   obtain⟨q,rfl⟩:=Int.eq_ofNat_of_zero_le Ha.out.lo;have dD:=Ha.out.hi;have hq:q<m.seen.length:=by have:=bZ.out;omega
   have dE:(q:Int)<(m.seen.length:Int):=by omega
   obtain⟨x,U⟩:=aH m.seen[q];obtain⟨dL,dM⟩:=Hf.out.seen x (by rw[<- U];exact aC hq)
   have ck:iC m q=x+1:=by
    unfold iC;rw[Int.toNat_natCast,List.getD_eq_getElem?_getD,List.getElem?_eq_getElem hq,U];rfl
   obtain⟨db,dc⟩:S.heap.size <= g /\ g<u.heap.size:=by
    rcases B.seen.2 with⟨hh,_⟩|⟨g',c6,E,hv,T,hg,_⟩
    ·simp at hh
    ·simp at hv;obtain⟨rfl,-⟩:=hv;exact⟨T,lt_of_block hg⟩
   have e0:u.cell? ⟨g,q,none⟩=some (.int .i64 x):=by
    rw[B.seen.cellAt q (by simpa using hq)];simp[hq,U]
   have f0:=B.seen.frozenAt q;obtain⟨bH,bb⟩:=B.seen.stored q (.int .i64 (x+1));obtain⟨w6,a4⟩:=aQ (u.setCell ⟨g,q,none⟩ (.int .i64 (x+1)));rw[<- a4] at bH bb;have bJ:w6.heap.size=u.heap.size:=by rw[a4];simp[World.setCell]
   have cn:dG w6 S.heap.size (.slice (some ⟨g,0,none⟩) m.seen.length H) (.slice b2 m.items.length e2) (.slice D m.gone.length I) ⟨cK m q,m.items,m.gone⟩:=by
    refine⟨?_,bY B.items B.seen (by decide) bb,bY B.gone B.seen (by decide) bb⟩;have h2:(cK m q).length=m.seen.length:=o4 m q
    have h3:(cK m q).map eI=(m.seen.map eI).set q (.int .i64 (x+1)):=by
     unfold cK;rw[List.map_set,Int.toNat_natCast,List.getD_eq_getElem?_getD,List.getElem?_eq_getElem hq,U];rfl
    show w6.ownsRow S.heap.size 3 1 _ (cK m q).length ((cK m q).map eI);rw[h2,h3];exact bH
   obtain⟨w7,a5⟩:=aQ (w6.alloc (.cells #[.slice (some ⟨g,0,none⟩) m.seen.length H,.slice b2 m.items.length e2,.slice D m.gone.length I] 75));have bw:Below w6.heap.size w6 w7:=by rw[a5];exact aI _ _
   have co:=cn.below bw;have cv:Blk w7 u.heap.size [.slice (some ⟨g,0,none⟩) m.seen.length H,.slice b2 m.items.length e2,.slice D m.gone.length I] 75:=by rw[a5,<- bJ];exact Blk.new _ _ _
   have b5:Below c.heap.size c w7:=by
    have h6:Below c.heap.size c w6:=by
     rw[a4];exact a8.setCell (by have:=a7.out.size;show c.heap.size <= g;omega) _
    exact h6.trans (bw.mono h6.size)
   have dd:g<u.heap.size+1:=by omega
   have de:g≠u.heap.size:=by omega
   have cR:=ae (show w7=(u.setCell ⟨g,q,none⟩ (.int .i64 (x+1))).alloc (.cells #[.slice (some ⟨g,0,none⟩) m.seen.length H,.slice b2 m.items.length e2,.slice D m.gone.length I] 75) by rw[a5,a4]);have cu:w7.heap.size=u.heap.size+1:=by rw[a5];simp[bJ]
   have cM:=ae co;have c3:=ae cv;have cz:=ae b5;have cL:=ae ck;have dx:=ae a8;have dy:=ae cu;have cX:=ae a8.size;have cW:=ae (show c.heap.size <= S.heap.size from a7.out.size);clear HC ca a8 cn bH bb a5 a4 co cv b5 ck c0 c1 c2 U B hq bw bJ cu;go_wp2_with fail;rw[<- cR.out];clear e0 f0 dd de db dc
   go_loopw [10] (fun i wr=>∃k:Nat,k <= l.length /\ i=.int .i64 (k:Int) /\ Below c.heap.size c wr /\ ∃si,Blk wr u.heap.size [.slice (some ⟨g,0,none⟩) m.seen.length H,si,.slice D m.gone.length I] 75 /\ dG wr c.heap.size (.slice (some ⟨g,0,none⟩) m.seen.length H) si (.slice D m.gone.length I) ⟨cK m q,((l.take k).map (dH m q)).foldl (dK RIt.pl) m.items,m.gone⟩ /\ (((l.take k).map (dH m q)).foldl (dK RIt.pl) m.items).length <= 4096+k) (fun i _=>l.length-(intOf i).toNat)
   case atStart=>exact⟨0,by omega,rfl,cz.out,_,c3.out,cM.out.mono cW.out,by simpa using dq⟩
   case round=>
    obtain⟨k,dB,rfl,cc,si,bu,O,bd⟩:=hrel;generalize cd:((l.take k).map (dH m q)).foldl (dK RIt.pl) m.items=E at O bd;obtain⟨ai,ci,rfl⟩:=aK O.items;dsimp only at bu O bd⊢;have bU:=ae cd;have ag:=ae cc;have bh:=ae bu;have bV:=ae O;have bX:=ae bd;clear cd cc bu O bd;obtain⟨-,kA,-,b7,bq⟩:=C.out wr ag.out
    by_cases bB:k<l.length
    ·have dj:(k:Int)<(l.length:Int):=by omega
     obtain⟨bl,ol,rfl,-,-,ch⟩:=gF bq (by omega);have e0:=ch k bB;obtain⟨y,hy⟩:=aH l[k];rw[hy] at e0;have Hy:=ae hy;obtain⟨wX,bf⟩:=aQ (wr.alloc (.cells #[.string ⟨y.toArray⟩,.int .i64 q,.int .i64 (x+1),.int .i64 65536] 129));have cS:=ae bf;have cb:Below wr.heap.size wr wX:=by rw[bf];exact aI _ _
     have kX:Blk wX wr.heap.size [.string ⟨y.toArray⟩,.int .i64 q,.int .i64 (x+1),.int .i64 65536] 129:=by rw[bf];exact Blk.new _ _ _
     have cC:=ae cb;have KX:=ae kX
     have HF:=ae (show ∀W,Below wr.heap.size wr W -> Below c.heap.size c W /\ Blk W w.heap.size [.slice a1 m.seen.length p1,.slice a2 m.items.length V,.slice a3 m.gone.length p3] 75 /\ cG (fun b=>b<w.heap.size) W (.slice a1 m.seen.length p1) (.slice a2 m.items.length V) (.slice a3 m.gone.length p3) m /\ W.cell? ⟨bl,ol+k,none⟩=some (.string ⟨y.toArray⟩) from fun W T=>by
      have h1:=ag.out.trans (T.mono ag.out.size);obtain⟨-,ds,-,bs,da⟩:=C.out W h1;obtain⟨dz,dN,aZ,-,-,dn⟩:=gF da (by omega);simp at aZ;obtain⟨rfl,rfl⟩:=aZ;have:=dn k bB;rw[hy] at this
      exact⟨h1,ds,bs,this⟩)
     clear ch hy bf cb kX kA b7 bq;go_wp2_with fail;rw[<- cS.out];clear e0
     go_loopw [12] (fun j A=>∃n:Nat,n <= m.items.length /\ j=.int .i64 (n:Int) /\ Below wr.heap.size wr A /\ Blk A wr.heap.size [.string ⟨y.toArray⟩,.int .i64 q,.int .i64 (x+1),.int .i64 (iz m.items q (x+1) y n)] 129) (fun j _=>m.items.length-(intOf j).toNat)
     case atStart=>exact⟨0,by omega,rfl,cC.out,KX.out⟩
     case round=>
      rename World=>A
      obtain⟨n,dA,rfl,bz,cx⟩:=hrel;obtain⟨ao,kA,bt,e0⟩:=HF.out A bz;have X:=ae bz;have aW:=ae cx;clear bz cx;obtain⟨c0,c1,c2⟩:=aS kA
      by_cases hj:n<m.items.length
      ·have dh:(n:Int)<(m.items.length:Int):=by omega
       obtain⟨N,R,rfl,-,-,df⟩:=fB bt.items (by omega);obtain⟨o,bc⟩:=aH m.items[n]
       have HI:=ae (show ∀W,Below wr.heap.size wr W -> W.cell? ⟨N,R+n*4,none⟩=some (.string ⟨o.key.toArray⟩) /\ W.cell? ⟨N,R+n*4+1,none⟩=some (.int .i64 o.dev) /\ W.cell? ⟨N,R+n*4+2,none⟩=some (.int .i64 o.seq) /\ W.cell? ⟨N,R+n*4+3,none⟩=some (.int .i64 o.val) from fun W T=>by
        obtain⟨-,-,bs,-⟩:=HF.out W T;obtain⟨b',o',aZ,-,-,dg⟩:=fB bs.items (by omega);simp at aZ;obtain⟨rfl,rfl⟩:=aZ;have:=dg n hj;rw[bc] at this
        exact this)
       have bG:=eQ (Hf.out.iknown o (by rw[<- bc];exact aC hj));have cr:=jq Hf.out o.pl.2.toNat;have dF:1 <= o.seq:=bG.2.2.1;have dI:o.seq <= 1099511627776:=by have:=bG.2.2.2;have:=cr.2;omega
       have bn:=ae (show iz m.items q (x+1) y (n+1)=gI q (x+1) y (iz m.items q (x+1) y n) o by rw[At _ _ _ _ _ hj,bc]);have J:∀a,aJ A.drew a -> Below wr.heap.size wr a:=fun a hh=>X.out.drew.trans (RowKit.Below.mono hh X.out.size)
       have pa:∀a,aJ A.drew a -> a.cell? ⟨w.heap.size,1,none⟩=some (.slice (some ⟨N,R,none⟩) m.items.length V):=fun a hh=>(aS (HF.out a (J a hh)).2.1).2.1
       have pk:∀a,aJ A.drew a -> a.cell? ⟨bl,ol+k,none⟩=some (.string ⟨y.toArray⟩):=fun a hh=>(HF.out a (J a hh)).2.2.2
       have bL:∀a,aJ A.drew a -> a.cell? ⟨N,R+n*4,none⟩=some (.string ⟨o.key.toArray⟩):=fun a hh=>(HI.out a (J a hh)).1
       have bN:∀a,aJ A.drew a -> a.cell? ⟨N,R+n*4+1,none⟩=some (.int .i64 o.dev):=fun a hh=>(HI.out a (J a hh)).2.1
       clear df bc bt kA ao bG cr e0
       by_cases av:o.pl=(y,(q:Int))
       ·obtain⟨Z,ce⟩:=Prod.mk.inj av;have g1:(o.key == y)=true:=by simp[show o.key=y from Z]
        have g2:(o.dev == (q:Int))=true:=by simp[show o.dev=(q:Int) from ce]
        have aR:=ae (show iz m.items q (x+1) y (n+1)=j5 o.val (x+1-o.seq) by rw[bn.out,gI,if_pos av]);clear Z ce av;go_wp2_with fail;refine bS aJ (up 21 []) (by kernel_rfl) ?_;apply aG;rfl;intro a hC;go_simp;(repeat (simp(disch:=omega) only[af,if_pos];go_simp));exact aF;refine aY ?_;clear pa pk bL bN J c0 c1 c2 g1 g2;obtain⟨s,t⟩:=aQ A.drew;rw[<- t];have aN:Below wr.heap.size wr s:=by rw[t];exact X.out.drew
        have cw:Blk s wr.heap.size [.string ⟨y.toArray⟩,.int .i64 q,.int .i64 (x+1),.int .i64 (iz m.items q (x+1) y n)] 129:=by rw[t];exact aW.out.keep rfl
        have ab:=ae aN;have aV:=ae cw;have J:∀a,aJ s.drew a -> Below wr.heap.size wr a:=fun a hh=>ab.out.drew.trans (RowKit.Below.mono hh ab.out.size)
        have pa:∀a,aJ s.drew a -> a.cell? ⟨w.heap.size,1,none⟩=some (.slice (some ⟨N,R,none⟩) m.items.length V):=fun a hh=>(aS (HF.out a (J a hh)).2.1).2.1
        have dv:∀a,aJ s.drew a -> a.cell? ⟨N,R+n*4+2,none⟩=some (.int .i64 o.seq):=fun a hh=>(HI.out a (J a hh)).2.2.1
        have dw:∀a,aJ s.drew a -> a.cell? ⟨N,R+n*4+3,none⟩=some (.int .i64 o.val):=fun a hh=>(HI.out a (J a hh)).2.2.2
        clear t aN cw;go_wp2_with fail;refine dP aJ 16 (up 14 [514,15,516]) (by kernel_rfl) ?_;apply bM;rfl;intro a hC;go_simp;(repeat (simp(disch:=omega) only[af,if_pos];go_simp));exact aF;refine cU rfl rfl (fun KK hK=>?_);go_simp;refine(ye _ _ _ (by omega)).mono ?_;rintro e w9 ⟨rfl,be⟩;refine⟨_,rfl,by rw[<- be];exact bF _,hK _ _ ?_⟩;clear hK KK pa dv dw J;go_simp;apply bM;rfl;intro a hC;go_simp;(repeat (simp(disch:=omega) only[af,if_pos];go_simp));exact aF;have cB:=ae (show Below wr.heap.size wr w9 by rw[<- be];exact ab.out.drew);have bg:Blk w9 wr.heap.size [.string ⟨y.toArray⟩,.int .i64 q,.int .i64 (x+1),.int .i64 (iz m.items q (x+1) y n)] 129:=by rw[<- be];exact aV.out.keep rfl
        obtain⟨x0,x1,x2,x3⟩:=dX bg;have c8:=bg.free 3;have c5:=ae bg;clear be bg;refine cZ rfl rfl rfl (fun KK hK=>?_);go_simp;refine hK _ _ ?_;clear hK KK x0 x1 x2 x3 c8;go_simp;refine dt ?_;obtain⟨ay,P⟩:=aQ (w9.setCell ⟨wr.heap.size,3,none⟩ (.int .i64 (j5 o.val (x+1-o.seq))));have cA:=ae (show Below wr.heap.size wr ay by rw[P];exact cB.out.setCell (aq _) _);have c4:=ae (show Blk ay wr.heap.size [.string ⟨y.toArray⟩,.int .i64 q,.int .i64 (x+1),.int .i64 (iz m.items q (x+1) y (n+1))] 129 by rw[aR.out,P];exact c5.out.set 3 _);have cs:ay=w9.setCell ⟨wr.heap.size,3,none⟩ (.int .i64 (DM.aft (x+1-o.seq).toNat (DM.bnd o.val)+65536)):=P;rw[<- cs];clear P cs aR bn;go_wp2_with fail
        go_roundw
        case rel=>exact⟨n+1,by omega,by go_num,cA.out,c4.out⟩
        case measure=>simp[intOf];omega
       ·have aR:=ae (show iz m.items q (x+1) y (n+1)=iz m.items q (x+1) y n by rw[bn.out,gI,if_neg av])
        by_cases Z:o.key=y
        ·have g1:(o.key == y)=true:=by simpa using Z
         have g2:(o.dev == (q:Int))=false:=by
          simp;exact fun e=>av (Prod.ext Z e)
         clear Z av;go_wp2_with fail;refine bS aJ (up 21 []) (by kernel_rfl) ?_;apply aG;rfl;intro a hC;go_simp;(repeat (simp(disch:=omega) only[af,if_pos];go_simp));exact aF;refine aY ?_;clear pa pk bL bN J c0 c1 c2;obtain⟨s,t⟩:=aQ A.drew;rw[<- t];have ab:=ae (show Below wr.heap.size wr s by rw[t];exact X.out.drew);have aV:=ae (show Blk s wr.heap.size [.string ⟨y.toArray⟩,.int .i64 q,.int .i64 (x+1),.int .i64 (iz m.items q (x+1) y (n+1))] 129 by rw[aR.out,t];exact aW.out.keep rfl);clear t;go_wp2_with fail
         go_roundw
         case rel=>exact⟨n+1,by omega,by go_num,ab.out,aV.out⟩
         case measure=>simp[intOf];omega
        ·have g1:(o.key == y)=false:=by simpa using Z
         clear Z av;go_wp2_with fail;refine bS aJ (up 21 []) (by kernel_rfl) ?_;apply aG;rfl;intro a hC;go_simp;(repeat (simp(disch:=omega) only[af,if_pos];go_simp));exact aF;refine aY ?_;clear pa pk bL bN J c0 c1 c2;obtain⟨s,t⟩:=aQ A.drew;rw[<- t];have ab:=ae (show Below wr.heap.size wr s by rw[t];exact X.out.drew);have aV:=ae (show Blk s wr.heap.size [.string ⟨y.toArray⟩,.int .i64 q,.int .i64 (x+1),.int .i64 (iz m.items q (x+1) y (n+1))] 129 by rw[aR.out,t];exact aW.out.keep rfl);clear t;go_wp2_with fail
         go_roundw
         case rel=>exact⟨n+1,by omega,by go_num,ab.out,aV.out⟩
         case measure=>simp[intOf];omega
      ·have dh:¬(n:Int)<(m.items.length:Int):=by omega
       obtain rfl:n=m.items.length:=by omega
       have bW:=ae (show(⟨y,q,x+1,iz m.items q (x+1) y m.items.length⟩:RIt)=dH m q y by
        have:=BZ m q y Hf.out.items;rw[cL.out] at this
        exact this)
       generalize iz m.items q (x+1) y m.items.length=bO at bW aW⊢;have bK:=bh.out.keep (X.out.block _ bh.out.lt);obtain⟨o0,o1,o2⟩:=aS bK;obtain⟨x0,x1,x2,x3⟩:=dX aW.out;have bA:=bV.out.below X.out;have hP:=oC A _ (.slice ai E.length ci) E ⟨y,q,x+1,bO⟩ (Rows.of_owns bA.items) (by have:=bX.out;omega);have bE:=mE RIt.pl E ⟨y,q,x+1,bO⟩;generalize cm:dK RIt.pl E ⟨y,q,x+1,bO⟩=a6 at hP bE;unfold itV at hP;have HP:=ae hP;have bm:=ae cm;have cO:=ae bE;have b4:=ae bK;have cI:=ae bA;clear hP cm bE bK bA kA bt ao e0;go_wp2_with fail;refine HP.out.mono ?_;rintro e w9 ⟨⟨r,rfl,bD⟩,ba⟩;obtain⟨a9,c9,rfl⟩:=aK bD;have ax:=b4.out.keep (ba.block _ b4.out.lt);clear o0 o1 o2 x0 x1 x2 x3;obtain⟨o0,o1,o2⟩:=aS ax;have c7:=ax.free 1;obtain⟨ay,P⟩:=aQ (w9.setCell ⟨u.heap.size,1,none⟩ (.slice a9 a6.length c9));have ao:Below c.heap.size c A:=ag.out.trans (X.out.mono ag.out.size);have b6:Below c.heap.size c w9:=ao.trans (ba.mono ao.size);have cy:=ae (show Below c.heap.size c ay by rw[P];exact b6.setCell (by show c.heap.size <= u.heap.size;exact cX.out) _);have cY:=ae (show Blk ay u.heap.size [.slice (some ⟨g,0,none⟩) m.seen.length H,.slice a9 a6.length c9,.slice D m.gone.length I] 75 by rw[P];exact ax.set 1 _)
       have bC:((l.take (k+1)).map (dH m q)).foldl (dK RIt.pl) m.items=a6:=by
        rw[List.take_succ_eq_append_getElem bB,List.map_append,List.foldl_append,bU.out,Hy.out];show dK RIt.pl E (dH m q y)=a6;rw[<- bW.out,bm.out]
       have cE:=ae (show dG ay c.heap.size (.slice (some ⟨g,0,none⟩) m.seen.length H) (.slice a9 a6.length c9) (.slice D m.gone.length I) ⟨cK m q,((l.take (k+1)).map (dH m q)).foldl (dK RIt.pl) m.items,m.gone⟩ by
        have cp:=cI.out.below ba;rw[P];refine⟨aL cp.seen ax (by decide) _,?_,aL cp.gone ax (by decide) _⟩;dsimp only;rw[bC]
        exact aL (bP bD ao.size) ax (by decide) _)
       have cJ:=ae (show(((l.take (k+1)).map (dH m q)).foldl (dK RIt.pl) m.items).length <= 4096+(k+1) by
        rw[bC];have:=cO.out;have:=bX.out
        omega)
       have cP:=ae P;clear P ao b6 bC bD ba ax HP;go_wp2_with fail;rw[<- cP.out];clear o0 o1 o2 c7
       go_roundw
       case rel=>exact⟨k+1,by omega,by go_num,cy.out,_,cY.out,cE.out,cJ.out⟩
       case measure=>simp[intOf];omega
    ·have dj:¬(k:Int)<(l.length:Int):=by omega
     obtain rfl:k=l.length:=by omega
     have bI:(⟨cK m q,E,m.gone⟩:aU)=gz m q l:=by
      rw[<- oX m q l Hf.out.items Ha.out.nodup];unfold tS;rw[<- bU.out,List.take_length]
     have O:=bV.out;rw[bI] at O;have dp:m.seen.length=(gz m q l).seen.length:=(congrArg (fun z:aU=>z.seen.length) bI.symm).trans (o4 m q) |>.symm
     obtain⟨bx,cg,cf⟩:=zu Hf.out Ha.out;have br:=pt wr _ (.agg #[.slice (some ⟨g,0,none⟩) m.seen.length H,.slice ai E.length ci,.slice D m.gone.length I]) (gz m q l) ⟨_,_,_,rfl,O.map bx⟩ (fun x U=>by have:=cg x U;omega) (fun x U=>by have:=cf x U;omega);obtain⟨ok,ar⟩:=aH (bp (gz m q l));rw[ar] at br
     have hu:fK m q l=if ok=true then(gz m q l,0) else(.empty,7):=by
      unfold fK fU;rw[az.out,bj.out,ar];cases ok<;>rfl
     obtain⟨o0,o1,o2⟩:=aS bh.out;have bT:=ae br;have Y:=ae hu;have cD:=ae bx;have cF:=ae O;clear br hu bx cg cf O bI dp ar kA b7 bq;go_wp2_with fail;refine bT.out.mono ?_;rintro e s ⟨rfl,aN⟩;have bo:Below c.heap.size c s:=ag.out.trans (aN.mono ag.out.size);have p:=(C.out s bo).2.2.1;have aO:=(C.out s bo).1;have cH:=ae (cF.out.below aN);clear bT aN bo o0 o1 o2;cases ok with
     |false=>
      have aT:=ae (show fK m q l=(.empty,7) from Y.out.trans (if_neg Bool.false_ne_true));obtain⟨wf,K,M,L⟩:=dJ p aO (Nat.le_succ _) (.slice none 0 0) (.slice none 0 0) (.slice none 0 0);obtain⟨y0,y1,y2⟩:=aS p;have z0:=p.free 0;have z1:=p.free 1;have z2:=p.free 2;have Q:=ae (aS M);have ad:=ae L;have ak:=ae K;clear K M L;go_wp2_with fail;rw[<- ak.out];obtain⟨q0,q1,q2⟩:=Q.out;exact bodyPost_ret (v:=.tuple #[.agg #[.slice none 0 0,.slice none 0 0,.slice none 0 0],.int .i64 7]) (by simp[results,results121,go_sem,q0,q1,q2]) rfl ⟨_,by rw[aT.out],by rw[aT.out];exact fF _ _,ad.out⟩
     |true=>
      have aT:=ae (show fK m q l=(gz m q l,0) from Y.out.trans (if_pos rfl));obtain⟨wf,K,M,L⟩:=dJ p aO (Nat.le_succ _) (.slice (some ⟨g,0,none⟩) m.seen.length H) (.slice ai E.length ci) (.slice D m.gone.length I);obtain⟨y0,y1,y2⟩:=aS p;have z0:=p.free 0;have z1:=p.free 1;have z2:=p.free 2;have Q:=ae (aS M)
      have cN:=ae (show dG wf c.heap.size (.slice (some ⟨g,0,none⟩) m.seen.length H) (.slice ai E.length ci) (.slice D m.gone.length I) (gz m q l) by
       rw[K]
       exact((cH.out.setCell p _).setCell (p.set 0 _) _).setCell ((p.set 0 _).set 1 _) _)
      have ad:=ae L;have ak:=ae K;clear K M L;go_wp2_with fail;rw[<- ak.out];obtain⟨q0,q1,q2⟩:=Q.out;exact bodyPost_ret (v:=.tuple #[.agg #[.slice (some ⟨g,0,none⟩) m.seen.length H,.slice ai E.length ci,.slice D m.gone.length I],.int .i64 0]) (by simp[results,results121,go_sem,q0,q1,q2]) rfl ⟨_,by rw[aT.out],by rw[aT.out];exact⟨_,_,_,rfl,cN.out.mono (by have:=cV.out;omega),cD.out⟩,ad.out⟩
theorem B4(h:dl F w v m)(e:∀x∈m.items,x.key.length <= 1000000000)(c:∀x∈m.gone,x.key.length <= 1000000000)
 (d:Int) (G:aX) (a:Value) (l:List bR) (g:Rows G w 1 a l.length (l.map eS)) (f:l.length <= 100000) (b:∀k∈l,k.length <= 1000000000):
 Calls aE 121 #[v,.int .i64 d,a] w (zx w (fK m d l)):=
 (B1 w F v m h e c d G a l g f b).mono fun _ _ h=>h.post
end
end Go.Proofs.YtobjdpngnfbicaaGreatDoor
namespace Go.Proofs
open Go.Shelf
def Tryz.laysBSearch_ren:Go.Shelf.Ren:=⟨fun|26=>110|33=>169|34=>170|38=>209|n=>n,fun|24=>32|9=>9|3=>3|4=>4|40=>199|0=>0|n=>n,fun|n=>n⟩
theorem Tryz.laysBSearch:Go.Proofs.Lays2.n26 aE Tryz.laysBSearch_ren:={
 mixed:=by kernel_rfl
 f26:=func110.trans (congrArg some (by kernel_rfl))
 f33:=func169.trans (congrArg some (by kernel_rfl))
 f34:=func170.trans (congrArg some (by kernel_rfl))
 f38:=func209.trans (congrArg some (by kernel_rfl))
 t0:=underlying0
 a0:=Tryz.isAgg0
 z0:=Tryz.sizeOf0
 v0:=Tryz.zeroValue0
 t3:=underlying3
 a3:=Tryz.isAgg3
 z3:=Tryz.sizeOf3
 v3:=Tryz.zeroValue3
 t4:=underlying4
 a4:=Tryz.isAgg4
 z4:=Tryz.sizeOf4
 v4:=Tryz.zeroValue4
 t9:=underlying9
 a9:=Tryz.isAgg9
 z9:=Tryz.sizeOf9
 v9:=Tryz.zeroValue9
 t24:=underlying32
 a24:=Tryz.isAgg32
 z24:=Tryz.sizeOf32
 v24:=Tryz.zeroValue32
 t40:=underlying199
 a40:=Tryz.isAgg199
 z40:=Tryz.sizeOf199
 v40:=Tryz.zeroValue199 }
end Go.Proofs
namespace Go.Proofs.YtobjdpngnfbicaaGreatDoor
open Go.RowKit
open Tryz
variable(w:World)(F:aX)(n:Nat)(v:Value)(m:aU){W w':World}{u:Value}{i j o:Nat}{L:List Value}{r:aU}{t:TypeId}
section
attribute [local go_sem ↓] aV
theorem rx(e:bR):∀l:List bR,(l.Pairwise fun a b=>a<b) -> ∃d,d <= l.length /\ (∀t (h:t<l.length),t<d -> l[t]<e) /\ ∀t (h:t<l.length),d <= t -> ¬l[t]<e
 |[],_=>⟨0,aq _,fun t h=>by simp at h,fun t h=>by simp at h⟩
 |x::l,k=>by
  obtain⟨m,j⟩:=List.pairwise_cons.1 k
  by_cases h:x<e
  ·obtain⟨d,n,g,i⟩:=rx e l j;refine⟨d+1,by simp;omega,fun t c f=>?_,fun t c f=>?_⟩
   ·cases t with
    |zero=>exact h
    |succ t=>exact g t (by simpa using c) (by omega)
   ·cases t with
    |zero=>omega
    |succ t=>exact i t (by simpa using c) (by omega)
  ·refine⟨0,Nat.zero_le _,fun t c f=>by omega,fun t c _=>?_⟩;cases t with
   |zero=>exact h
   |succ t=>exact fun hh=>h (List.lt_trans (m _ (aC (by simpa using c))) hh)
theorem uD(l:List bR)(c:bR)(x:Rows F w 1 v l.length (l.map eS))(G:l.length <= 1000000)(u:l.Pairwise fun a b=>a<b):
 Calls aE 110 #[v,.string ⟨c.toArray⟩] w fun e m=>(∃i:Nat,e=.returned (.tuple #[.int .i64 i,.bool (decide (c∈l))])) /\ ∃q,m=w.drewN q:=by
 obtain⟨a,n,rfl,-⟩:=x.shape
 by_cases y:l.length=0
 ·obtain rfl:=List.length_eq_zero_iff.1 y;refine(Any2.slices_BinarySearch_string_empty Tryz.laysBSearch a n ⟨c.toArray⟩ w).mono ?_;rintro e m ⟨rfl,rfl⟩;exact⟨⟨0,by simp⟩,0,rfl⟩
 ·obtain⟨b,E,rfl,-,-,z⟩:=gF x (by omega);obtain⟨f,C,o,p⟩:=rx c l u
  have s:∀t,Op.bytesLess ((⟨(l.getD t c).toArray⟩:ByteArray)).toList ((⟨c.toArray⟩:ByteArray)).toList=decide (l.getD t c<c):=fun t=>by
   rw[Go.Proofs.bytesLess_eq];simp
  have B:=Lib.bsGo_spec (fun t=>Op.bytesLess ((⟨(l.getD t c).toArray⟩:ByteArray)).toList ((⟨c.toArray⟩:ByteArray)).toList) f (fun t d=>by
   rw[s,List.getD_eq_getElem?_getD,List.getElem?_eq_getElem (by omega)]
   simpa using o t (by omega) d) (fun t d=>by
   rw[s,List.getD_eq_getElem?_getD]
   by_cases g:t<l.length
   ·rw[List.getElem?_eq_getElem g];simpa using p t g d
   ·rw[List.getElem?_eq_none (by omega)]
    simp[List.lt_irrefl]) l.length 0 l.length (by omega) (Nat.zero_le _) C
  refine(Any2.slices_BinarySearch_string Tryz.laysBSearch b E l.length n (fun t=>⟨(l.getD t c).toArray⟩) ⟨c.toArray⟩ w (by omega) (fun j r=>by
   rw[z j r,List.getD_eq_getElem?_getD,List.getElem?_eq_getElem r];rfl)).mono ?_
  rintro e m ⟨rfl,q,rfl⟩;rw[B];refine⟨⟨f,?_⟩,q,rfl⟩
  have A:decide (f<l.length /\ (⟨(l.getD f c).toArray⟩:ByteArray)=⟨c.toArray⟩)=decide (c∈l):=by
   rw[Bool.eq_iff_iff,decide_eq_true_iff,decide_eq_true_iff];constructor
   ·rintro⟨g,k⟩;rw[List.getD_eq_getElem?_getD,List.getElem?_eq_getElem g] at k;simp at k;rw[<- k];exact aC g
   ·intro D;obtain⟨t,d,rfl⟩:=List.mem_iff_getElem.1 D
    have:t=f:=by
     rcases Nat.lt_trichotomy t f with h|h|h
     ·exact absurd (o t d h) (List.lt_irrefl _)
     ·exact h
     ·exact absurd (List.pairwise_iff_getElem.1 u f t (by omega) d h) (p f (by omega) (aq _))
    subst this;refine⟨d,?_⟩;rw[List.getD_eq_getElem?_getD,List.getElem?_eq_getElem d];rfl
  rw[A]
structure i7(B:Nat)(w w':World):Prop where
 bel:Below B w w'
 blk:∀b L t,Blk w b L t -> t≠111 -> t≠35 -> Blk w' b L t
theorem i7.own(h:i7 i W w'){k n:Nat}(b:W.ownsRow j t k u n L)(f:t≠111)(l:t≠35):w'.ownsRow j t k u n L:=by
 refine⟨b.1,?_⟩;rcases b.2 with d|⟨g,c,a,q,m,o,p⟩
 ·exact .inl d
 ·refine .inr ⟨g,c,a,q,m,?_,p⟩;have:=h.blk g a.toList t o f l;unfold Blk at this;simpa using this
theorem i7.trans{B:Nat}{a b c:World}(h:i7 B a b)(k:i7 B b c):i7 B a c:=⟨h.bel.trans k.bel,fun x L t f d e=>k.blk x L t (h.blk x L t f d e) d e⟩
structure jE(B bl bg:Nat)(w:World)(l:List bR)(gs:List RGo):Prop where
 var:∃sv,Blk w bl [sv] 32 /\ w.ownsRow 0 9 1 sv l.length (l.map eS)
 gone:∃gv,Blk w bg [gv] 35 /\ w.ownsRow B 111 3 gv gs.length (gs.flatMap dC)
theorem wM(B o f:Nat)(l:List bR)(c:List RGo)(x:RIt)(h:jE B o f w l c)(hl:l.length <= 1000000)(hs:l.Pairwise fun a b=>a<b)(hg:c.length <= 1000000)(K:B <= w.heap.size)(ao:B <= f):
 Calls aE 109 #[itV x,.pointer (some ⟨o,0,none⟩),.pointer (some ⟨f,0,none⟩)] w fun e w'=>e=.returned (.bool (decide (x.key∈l))) /\ jE B o f w' l (if x.key∈l then c++[dM x] else c) /\ i7 B w w':=by
 obtain⟨⟨sv,C,D⟩,⟨gv,ag,j⟩⟩:=h;obtain⟨sa,sc,rfl⟩:=aK D;obtain⟨I,J,rfl⟩:=aK j;obtain⟨v,s⟩:=aQ (w.alloc (.cells #[.string ⟨x.key.toArray⟩,.int .i64 x.dev,.int .i64 x.seq,.int .i64 x.val] 108));have z:Below w.heap.size w v:=by rw[s];exact aI _ _
 have O:Blk v w.heap.size [.string ⟨x.key.toArray⟩,.int .i64 x.dev,.int .i64 x.seq,.int .i64 x.val] 108:=by rw[s];exact Blk.new _ _ _
 have V:=ae (uD v _ (.slice sa l.length sc) l x.key (Rows.of_owns (bm D z)) hl hs);have Z:v.cell? ⟨o,0,none⟩=some (.slice sa l.length sc):=by simpa using(C.keep (z.block _ C.lt)).cell 0
 obtain⟨R,S,T,U⟩:=dX O;have al:=ae s;have ai:=ae z;have H:=ae C;have W:=ae D;have y:=ae ag;have X:=ae j;have Kx:=ae O;rw[s] at Z R S T U;clear s z C D ag j O;unfold itV
 go_enter func109,ntmps109
 go_wp2_with fail;rw[<- al.out];refine V.out.mono ?_;rintro e d ⟨⟨i,rfl⟩,q,rfl⟩;obtain⟨d,F⟩:=aQ (v.drewN q);rw[<- F];have g:Below w.heap.size w d:=by rw[F];exact cM ai.out _
 have u:Blk d w.heap.size [.string ⟨x.key.toArray⟩,.int .i64 x.dev,.int .i64 x.seq,.int .i64 x.val] 108:=by rw[F];exact Kx.out.drewN _
 have az:w.heap.size<d.heap.size:=u.lt;have k:=ae g;have ax:=ae u;clear F V Z R S T U
 by_cases hm:x.key∈l
 ·have r:decide (x.key∈l)=true:=decide_eq_true hm;rw[r];obtain⟨R,S,T,U⟩:=dX u;have j:=bm X.out g;have N:=y.out.keep (g.block _ y.out.lt);have g0:d.cell? ⟨f,0,none⟩=some (.slice I c.length J):=by simpa using N.cell 0
  obtain⟨i0,t1,t2,t3,t4⟩:=info_parts mu;have aa:B <= d.heap.size:=au K g.size;obtain⟨v5,Q,ay,M,A⟩:=cu (P:=aE) d B 35 111 underlying35 t1 t2 t3 t4 rfl (by decide) (.slice I c.length J) c.length _ j #[.string ⟨x.key.toArray⟩,.int .i64 x.dev,.int .i64 x.seq] rfl (by simp[Value.oneCell']) (by unfold maxLen;omega) (by omega) aa;obtain⟨Y,c5,rfl⟩:=aK M;have E:=bm j (aI d (.cells #[.string ⟨x.key.toArray⟩,.int .i64 x.dev,.int .i64 x.seq] 111));have n:=(N.alloc (.cells #[.string ⟨x.key.toArray⟩,.int .i64 x.dev,.int .i64 x.seq] 111)).grownNe E (by decide) A;have g5:Q.cell? ⟨f,0,none⟩=some (.slice I c.length J):=by simpa using n.cell 0
  have f5:=n.free 0;obtain⟨w6,m⟩:=aQ (Q.setCell ⟨f,0,none⟩ (.slice Y (c.length+1) c5));have ad:Below B w Q:=(g.mono K).trans (((Below.refl B d).alloc aa _).trans (Below.grownOwn E A (by simp;omega) (aq _)))
  have G:=ae (show i7 B w w6 from⟨by rw[m];exact ad.setCell ao _,fun b L t p ar av=>by
   have ab:=((p.keep (g.block b p.lt)).alloc (.cells #[.string ⟨x.key.toArray⟩,.int .i64 x.dev,.int .i64 x.seq] 111)).grownNe E (Ne.symm ar) A;rw[m]
   exact ab.set_other _ (ab.ne n av)⟩)
  have ak:=ae (show jE B o f w6 l (c++[dM x]) from⟨⟨_,G.out.blk _ _ _ H.out (by decide) (by decide),G.out.own W.out (by decide) (by decide)⟩,⟨.slice Y (c.length+1) c5,by rw[m];exact n.set 0 _,by
   rw[m,aA,gr]
   exact aL M n (by decide) _⟩⟩)
  have an:=ae m;clear r j N M A E n ad m g u t1 t2 t3 t4;go_wp2_with fail;rw[<- an.out]
  go_ret
  exact⟨rfl,ak.out,G.out⟩
 ·have r:decide (x.key∈l)=false:=decide_eq_false hm;rw[r];clear r g u;go_wp2_with fail
  go_ret
  exact⟨rfl,⟨⟨_,H.out.keep (k.out.block _ H.out.lt),bm W.out k.out⟩,⟨_,y.out.keep (k.out.block _ y.out.lt),bm X.out k.out⟩⟩,k.out.mono K,fun b L t p _ _=>p.keep (k.out.block b p.lt)⟩
end
structure fh(B:Nat)(w w':World):Prop where
 bel:Below B w w'
 same:∀b,b<w.heap.size -> (∀L,¬Blk w b L 108) -> w'.heap[b]?=w.heap[b]?
theorem fh.blk(h:fh i W w')(b:Nat)(L:List Value)(t:TypeId)(a:Blk W b L t)(d:t≠108):Blk w' b L t:=a.keep (h.same b a.lt fun M c=>d (a.inj c).2)
theorem fh.refl(B:Nat)(w:World):fh B w w:=⟨Below.refl _ _,fun _ _ _=>rfl⟩
theorem fh.trans{B:Nat}{a b c:World}(h:fh B a b)(k:fh B b c):fh B a c:=
 ⟨h.bel.trans k.bel,fun x e d=>(k.same x (aw e h.bel.size) fun L f=>d L ((h.same x e d).symm.trans f)).trans (h.same x e d)⟩
theorem fh.alloc{B:Nat}{w:World}(a:B <= w.heap.size)(o:Obj):fh B w (w.alloc o):=⟨(Below.refl B w).alloc a o,fun b c _=>Below.heap_alloc _ _ _ c⟩
theorem fh.set(c:Blk W j L 108)(a:i <= j)(u:Value):fh i W (W.setCell ⟨j,o,none⟩ u):=
 ⟨(Below.refl i W).setCell a u,fun b f d=>Below.heap_setCell _ _ _ _ fun e=>d L (by rw[e];exact c)⟩
structure fG(B B2:Nat)(w w':World):Prop where
 bel:Below B w w'
 blk:∀b L t,Blk w b L t -> t≠111 -> t≠35 -> t≠108 -> Blk w' b L t
 low:∀b,b<B2 -> b<w.heap.size -> (∀L,¬Blk w b L 108) -> w'.heap[b]?=w.heap[b]?
theorem fG.refl(B a:Nat)(w:World):fG B a w w:=⟨Below.refl _ _,fun _ _ _ h _ _ _=>h,fun _ _ _ _=>rfl⟩
theorem fG.trans{B e:Nat}{a b c:World}(h:fG B e a b)(k:fG B e b c):fG B e a c:=
 ⟨h.bel.trans k.bel,fun x L t d i j l=>k.blk x L t (h.blk x L t d i j l) i j l,fun x d g f=>(k.low x d (aw g h.bel.size) fun L m=>f L ((h.low x d g f).symm.trans m)).trans (h.low x d g f)⟩
theorem i7.gi(h:i7 j W w')(d:i <= j):fG i j W w':=⟨h.bel.mono d,fun x L t a b c _=>h.blk x L t a b c,fun x a _ _=>h.bel.block x a⟩
theorem fh.gi(h:fh i W w'):fG i j W w':=⟨h.bel,fun x L t c _ _ a=>h.blk x L t c a,fun x _ d b=>h.same x d b⟩
theorem fG.own(h:fG i j W w'){k n:Nat}(b:W.ownsRow o t k u n L)(f:t≠111)(l:t≠35)(m:t≠108):w'.ownsRow o t k u n L:=by
 refine⟨b.1,?_⟩;rcases b.2 with d|⟨g,c,a,s,p,q,r⟩
 ·exact .inl d
 ·refine .inr ⟨g,c,a,s,p,?_,r⟩;have:=h.blk g a.toList t q f l m;unfold Blk at this;simpa using this
theorem fG.ownLow(h:fG i j W w'){k n:Nat}{l:List Value}(d:W.ownsRow o t k u n l)(x:∀b,u.ownBlock=some b -> b<j)(r:t≠108):w'.ownsRow o t k u n l:=by
 refine⟨d.1,?_⟩;rcases d.2 with q|⟨g,m,p,f,s,c,y⟩
 ·exact .inl q
 ·refine .inr ⟨g,m,p,f,s,?_,y⟩;rw[h.low g (x g (by rw[f];rfl)) (lt_of_block c) fun L a=>?_]
  ·exact c
  ·unfold Blk at a;rw[c] at a;simp at a;exact r a.2
theorem tD(x:RIt)(b:List Value):∀(a:List RIt)(i:Nat),i<a.length ->
 ((((a.flatMap bU++b).set (i*4) (.string ⟨x.key.toArray⟩)).set (i*4+1) (.int .i64 x.dev)).set (i*4+2) (.int .i64 x.seq)).set (i*4+3) (.int .i64 x.val)=(a.set i x).flatMap bU++b
 |[],i,h=>by simp at h
 |y::a,0,_=>rfl
 |y::a,i+1,h=>by
  have:=tD x b a i (by simpa using h);rw[List.set_cons_succ,List.flatMap_cons,List.flatMap_cons,aB,aB,<- this]
  have e:∀(M:List Value)(j:Nat)(u:Value),(bU y++M).set ((i+1)*4+j) u=bU y++M.set (i*4+j) u:=fun M j u=>by
   rw[List.set_append_right _ _ (by show 4 <= _;omega)]
   congr 2
   show(i+1)*4+j-4=_;omega
  have c:∀(M:List Value)(u:Value),(bU y++M).set ((i+1)*4) u=bU y++M.set (i*4) u:=fun M u=>e M 0 u
  rw[c,e,e,e]
def Dp(a:RIt -> Bool)(l:List RIt)(b:List RIt -> World -> Prop)(e:Ending)(c:World):Prop:=
 (∃k x,l[k]?=some x /\ e=.returned (.int .i64 ((k:Nat):Int)) /\ a x=true /\ (∀y∈l.take k,a y=false) /\ b (l.take (k+1)) c) \/ (e=.returned (.int .i64 (-1)) /\ (∀x∈l,a x=false) /\ b l c)
theorem B5(b:RIt -> Bool)(l:List RIt)(k:Nat)(h:∀j (h:j<l.length),j<k -> b l[j]=false):∀y∈l.take k,b y=false:=fun y c=>by
 obtain⟨j,a,rfl⟩:=List.getElem_of_mem c;rw[List.getElem_take];exact h j (by simp at a;omega) (by simp at a;omega)
theorem ry{b:Array Value}:
 Calls aE 108 #[.slice none 0 0,.func (.func j) #[] b] w fun e a=>e=.returned (.slice none 0 0) /\ a=w:=by
 have c:Calls aE 168 #[.slice none 0 0,.func (.func j) #[] b] w fun e a=>e=.returned (.int .i64 (-1)) /\ a=w:=by
  go_enter func168,ntmps168
  go_wp2_with fail
  go_loop [8] (fun i=>i=.int .i64 0) (fun _=>0)
  case atStart=>rfl
  case round=>
   subst hrel;go_wp2_with fail
   go_ret
   exact⟨rfl,rfl⟩
 have d:=ae c;clear c
 go_enter func108,ntmps108
 go_wp2_with fail;refine d.out.mono ?_;rintro e f ⟨rfl,rfl⟩;go_wp2_with fail
 go_ret
 exact⟨rfl,rfl⟩
theorem Dq{J:Array Value}(ag:∀a d,(callFunc o a).run aE d=.ok (.enter o a) d)(f:List RIt -> World -> Prop)(p:RIt -> Bool)(B:Nat)
 (R:∀C x w,f C w -> B <= w.heap.size -> C.length <= 1000000 -> Calls aE o (#[itV x]++J) w fun e d=>e=.returned (.bool (p x)) /\ f (C++[x]) d /\ i7 B w d)
 (w:World) (g X:Nat) (l:List RIt) (ad:List Value) (M:Blk w g (l.flatMap bU++ad) 108) (hl:l.length <= 1000000) (Y:B <= w.heap.size) (K:f [] w):
 Calls aE 168 #[.slice (some ⟨g,0,none⟩) l.length X,.func (.func o) #[] J] w fun e d=>Dp p l f e d /\ i7 B w d:=by
 obtain⟨n,z⟩:=aH l.length;have u:=ae z;have V:=ae M;have U:=ae R;have T:=ae K;rw[z] at hl⊢;clear z M R K
 go_enter func168,ntmps168
 go_wp2_with fail
 go_loopw [8] (fun i wr=>∃k:Nat,k <= n /\ i=.int .i64 (k:Int) /\ (∀j (h:j<l.length),j<k -> p l[j]=false) /\ f (l.take k) wr /\ i7 B w wr) (fun i _=>n-(intOf i).toNat)
 case atStart=>exact⟨0,by omega,rfl,fun j _ c=>by omega,T.out,⟨Below.refl _ _,fun _ _ _ h _ _=>h⟩⟩
 case round=>
  obtain⟨k,hk,rfl,L,S,O⟩:=hrel;have t:=ae L;have G:=ae S;have r:=ae O;clear L S O
  by_cases ab:k<n
  ·have aa:(k:Int)<(n:Int):=by omega
   have y:k<l.length:=by rw[u.out];exact ab
   have N:=r.out.blk _ _ _ V.out (by decide) (by decide);obtain⟨x,m⟩:=aH l[k]
   have q:∀j,j<4 -> wr.cell? ⟨g,k*4+j,none⟩=(bU x)[j]?:=fun j c=>by
    rw[N.cell,List.getElem?_append_left (by rw[dQ bU 4 cX];omega),fZ bU 4 cX l k j y c,m]
   have x0:wr.cell? ⟨g,k*4,none⟩=some (.string ⟨x.key.toArray⟩):=q 0 (by omega);have x1:wr.cell? ⟨g,k*4+1,none⟩=some (.int .i64 x.dev):=q 1 (by omega);have x2:wr.cell? ⟨g,k*4+2,none⟩=some (.int .i64 x.seq):=q 2 (by omega);have x3:wr.cell? ⟨g,k*4+3,none⟩=some (.int .i64 x.val):=q 3 (by omega);have v:=U.out (l.take k) x wr G.out (au Y r.out.bel.size) (by simp;omega);unfold itV at v;have s:=ae v;have W:=ae (show l.take k++[x]=l.take (k+1) by rw[List.take_succ_eq_append_getElem y,m]);have I:=ae m;generalize Q:p x=b at s;clear v N q m;have F:=ae Q;clear Q;go_wp2_with fail;refine s.out.mono ?_;rintro e w2 ⟨rfl,A,P⟩;rw[W.out] at A;have H:=ae A;have E:=ae (r.out.trans P);clear s A P x0 x1 x2 x3;cases b with
   |true=>
    go_wp2_with fail
    go_ret
    exact⟨.inl ⟨k,x,by rw[List.getElem?_eq_getElem y,I.out],rfl,F.out,B5 p l k t.out,H.out⟩,E.out⟩
   |false=>
    go_wp2_with fail
    go_roundw
    case rel=>exact⟨k+1,by omega,by go_num,fun j c Z=>by
     rcases Nat.lt_succ_iff_lt_or_eq.1 Z with h|h
     ·exact t.out j c h
     ·subst h;rw[I.out];exact F.out,H.out,E.out⟩
    case measure=>simp[intOf];omega
  ·have aa:¬(k:Int)<(n:Int):=by omega
   obtain rfl:k=n:=by omega
   have D:=ae (show(∀x∈l,p x=false) /\ f l wr from⟨fun x m=>by
    obtain⟨j,c,rfl⟩:=List.getElem_of_mem m;exact t.out j c (by rw[u.out] at c;exact c),by
    have:=G.out;rw[<- u.out,List.take_length] at this
    exact this⟩)
   go_wp2_with fail
   go_ret
   exact⟨.inr ⟨rfl,D.out.1,D.out.2⟩,r.out⟩
theorem oD{B g:Nat}(c:B <= g):∀(b:List Value)(o:Nat)(w:World)(L:List Value),Blk w g L 108 -> ∃a,Blk (w.setCells g o b) g a 108 /\ a.length=L.length /\ (∀p,p <= o -> a.take p=L.take p) /\ fh B w (w.setCells g o b)
 |[],o,w,L,h=>⟨L,h,rfl,fun _ _=>rfl,fh.refl _ _⟩
 |v::b,o,w,L,h=>by
  obtain⟨a,d,e,f,i⟩:=oD c b (o+1) (w.setCell ⟨g,o,none⟩ v) (L.set o v) (h.set o v);refine⟨a,d,by simpa using e,fun p j=>?_,(fh.set h c v).trans i⟩;rw[f p (by omega),List.take_set_of_le j]
theorem lK(z:TypeId)(g o n c:Nat)(L:List Value)(h:Blk w g L 108)(u:i <= g)(C:o+n*4 <= L.length):
 ∃l a,(Builtin.clear_ #[34] z #[.slice (some ⟨g,o,none⟩) n c]).run aE w=.ok (.tuple #[]) l /\ Blk l g a 108 /\ a.length=L.length /\ (∀p,p <= o \/ n=0 -> a.take p=L.take p) /\ fh i w l:=by
 cases n with
 |zero=>
  refine⟨w,L,?_,h,rfl,fun _ _=>rfl,fh.refl _ _⟩;simp[Builtin.clear_,run_underlying underlying34]
 |succ m=>
  obtain⟨b,f⟩:=aH ((Builtin.zeroCells (Value.agg #[.string ⟨#[]⟩,.int .i64 0,.int .i64 0,.int .i64 0]).cells (m+1)).toList);have E:b.length=(m+1)*4:=by rw[<- f];simp[Builtin.zeroCells,Value.cells]
  have x:∀v∈b,v.oneCell'=true:=by
   intro v d;rw[<- f] at d;simp only[Builtin.zeroCells,Value.cells,Array.toList_map,List.mem_map] at d;obtain⟨k,-,rfl⟩:=d;have:k%4=0 \/ k%4=1 \/ k%4=2 \/ k%4=3:=by omega
   rcases this with e|e|e|e<;>simp[e,Value.oneCell']
  have y:=run_storeCells_cells (P:=aE) g o b 0 w (fun j A=>by
   rw[Nat.add_zero,h.cell,List.getElem?_eq_getElem (by omega)];rfl) (fun j _=>h.free _) x
  obtain⟨a,q,r,s,t⟩:=oD u b (o+0) w L h;exact⟨_,a,by simp[Builtin.clear_,run_underlying underlying34,f,y],q,r,fun p D=>s p (by omega),t⟩
theorem nz:∀(a:List RIt)(i:Nat),(a.flatMap bU).take (i*4)=(a.take i).flatMap bU
 |[],i=>by simp
 |y::a,0=>rfl
 |y::a,i+1=>by
  rw[List.take_succ_cons,List.flatMap_cons,List.flatMap_cons,<- nz a i,show(i+1)*4=(bU y).length+i*4 from by rw[cX];omega,List.take_length_add_append]
theorem oE{α:Type}(p:α -> Bool)(l:List α)(k:Nat)(h:k<l.length):(l.take (k+1)).filter p=(l.take k).filter p++(if p l[k] then[l[k]] else[]):=by
 rw[List.take_succ_eq_append_getElem h,List.filter_append]
 congr 1
 by_cases a:p l[k]=true
 ·rw[if_pos a,List.filter_cons,if_pos a];rfl
 ·rw[if_neg a,List.filter_cons,if_neg a];rfl
structure zy(St:List RIt -> World -> Prop)(pd:RIt -> Bool)(B B2 g:Nat)(w wr:World)(l:List RIt)(rest:List Value)(cl:List RIt)(i j:Nat):Prop where
 blk:Blk wr g (cl.flatMap bU++rest) 108
 len:cl.length=l.length
 drop:cl.drop j=l.drop j
 take:cl.take i=(l.take j).filter fun x=>!pd x
 ile:i <= j
 ilen:i=((l.take j).filter fun x=>!pd x).length
 st:St (l.take j) wr
 keep:fG B B2 w wr
def uE(g:Nat)(m:Nat)(b:List RIt)(c:World):Prop:=∃a,Blk c g a 108 /\ a.length=m /\ a.take (b.length*4)=b.flatMap bU
theorem zz{cp:Array Value}(aY:∀a w',(callFunc o a).run aE w'=.ok (.enter o a) w')(p:List RIt -> World -> Prop)(f:RIt -> Bool)(B h:Nat)(W:B <= h)
 (ao:∀J x w,p J w -> h <= w.heap.size -> J.length <= 1000000 -> Calls aE o (#[itV x]++cp) w fun e w'=>e=.returned (.bool (f x)) /\ p (J++[x]) w' /\ i7 h w w')
 (aK:∀J w w',p J w -> fh B w w' -> p J w')
 (w:World) (g F m:Nat) (l:List RIt) (s:List Value) (hg:Blk w g (l.flatMap bU++s) 108) (hm:(l.flatMap bU++s).length=m) (H:B <= g) (hl:l.length <= 1000000) (aX:l.length <= F) (ax:h <= w.heap.size) (h0:p [] w):
 Calls aE 108 #[.slice (some ⟨g,0,none⟩) l.length F,.func (.func o) #[] cp] w fun e w'=>
  (e=.returned (.slice (some ⟨g,0,none⟩) (l.filter fun x=>!f x).length F) /\ uE g m (l.filter fun x=>!f x) w' /\ p l w') /\ fG B h w w':=by
 have HI:=ae (Dq aY p f h ao w g F l s hg hl ax h0);obtain⟨n,hn⟩:=aH l.length;have L:=ae hn;have Hg:=ae hg;have HR:=ae ao;have U:=ae aK;have Hm:=ae hm;rw[hn] at hl aX HI⊢;clear hn hg ao h0 aK hm
 go_enter func108,ntmps108
 go_wp2_with fail;refine HI.out.mono ?_;rintro e w1 ⟨a2,aL⟩;have K:=ae aL;clear HI aL;rcases a2 with⟨k,x,al,rfl,aO,M,t⟩|⟨rfl,M,t⟩
 ·have ak:k<l.length:=(List.getElem?_eq_some_iff.1 al).1;have aM:l[k]=x:=(List.getElem?_eq_some_iff.1 al).2;have aF:(l.take k).filter (fun x=>!f x)=l.take k:=List.filter_eq_self.2 fun y hy=>by rw[M y hy];rfl
  have ai:(l.take (k+1)).filter (fun x=>!f x)=l.take k:=by rw[oE _ l k ak,aF,aM,aO];simp
  have a6:k<n:=by rw[<- L.out];exact ak
  have H0:=ae (show zy p f B h g w w1 l s l k (k+1) from⟨K.out.blk _ _ _ Hg.out (by decide) (by decide),rfl,rfl,ai.symm,by omega,by rw[ai];simp;omega,t,(K.out.gi W)⟩);have a4:((k:Int) == -1)=false:=by simp
  have a5:¬(k:Int) = -1:=by omega
  clear M t aO aM aF ai al ak K;go_wp2_with fail
  go_loopw [5,6] (fun si sj wr=>∃i j d,j <= n /\ si=.int .i64 ((i:Nat):Int) /\ sj=.int .i64 ((j:Nat):Int) /\ zy p f B h g w wr l s d i j) (fun _ sj _=>n-(intOf sj).toNat)
  case atStart=>exact⟨k,k+1,l,by omega,rfl,by go_num,H0.out⟩
  case round=>
   obtain⟨i,j,d,hj,rfl,rfl,st⟩:=hrel;have c:=ae st;clear st H0
   by_cases a1:j<n
   ·have a0:(j:Int)<(n:Int):=by omega
    have Z:j<l.length:=by rw[L.out];exact a1
    have aJ:j<d.length:=by rw[c.out.len];exact Z
    obtain⟨x,hx⟩:=aH l[j]
    have az:d[j]=x:=by
     have h1:=congrArg (fun z:List RIt=>z[0]?) c.out.drop;simp only[List.getElem?_drop,Nat.add_zero,List.getElem?_eq_getElem aJ,List.getElem?_eq_getElem Z] at h1;rw[<- hx];exact Option.some.inj h1
    have O:∀q,q<4 -> wr.cell? ⟨g,j*4+q,none⟩=(bU x)[q]?:=fun q hq=>by
     rw[c.out.blk.cell,List.getElem?_append_left (by rw[dQ bU 4 cX];omega),fZ bU 4 cX d j q aJ hq,az]
    have x0:wr.cell? ⟨g,j*4,none⟩=some (.string ⟨x.key.toArray⟩):=O 0 (by omega);have x1:wr.cell? ⟨g,j*4+1,none⟩=some (.int .i64 x.dev):=O 1 (by omega);have x2:wr.cell? ⟨g,j*4+2,none⟩=some (.int .i64 x.seq):=O 2 (by omega);have x3:wr.cell? ⟨g,j*4+3,none⟩=some (.int .i64 x.val):=O 3 (by omega);obtain⟨wX,I⟩:=aQ (wr.alloc (.cells #[.string ⟨x.key.toArray⟩,.int .i64 x.dev,.int .i64 x.seq,.int .i64 x.val] 108));have ay:h <= wr.heap.size:=au ax c.out.keep.bel.size;have aW:B <= wr.heap.size:=au W ay;have ad:fh B wr wX:=by rw[I];exact fh.alloc aW _
    have kX:Blk wX wr.heap.size [.string ⟨x.key.toArray⟩,.int .i64 x.dev,.int .i64 x.seq,.int .i64 x.val] 108:=by rw[I];exact Blk.new _ _ _
    have kg:Blk wX g (d.flatMap bU++s) 108:=by rw[I];exact c.out.blk.alloc _
    have X:=HR.out (l.take j) x wX (U.out _ _ _ c.out.st ad) (au ay ad.bel.size) (by simp;omega);unfold itV at X;have aS:=ae (show l.take j++[x]=l.take (j+1) by rw[List.take_succ_eq_append_getElem Z,hx]);generalize aN:f x=b at X;have HC:=ae X;have aP:=ae aN;have aU:=ae I;have aV:=ae ad;have KX:=ae kX;have Kg:=ae kg;have Hx:=ae hx;obtain⟨q0,q1,q2,q3⟩:=dX kX;rw[I] at q0 q1 q2 q3;clear X aN I ad kX kg O hx az;go_wp2_with fail;rw[<- aU.out];refine HC.out.mono ?_;rintro e A ⟨rfl,S,Q⟩;rw[aS.out] at S;have ar:=Q.blk _ _ _ KX.out (by decide) (by decide);have r:=Q.blk _ _ _ Kg.out (by decide) (by decide);have aa:fG B h w A:=c.out.keep.trans (aV.out.gi.trans (Q.gi W));have aZ:=c.out.ile
    have Y:d.drop (j+1)=l.drop (j+1):=by
     have:=congrArg (List.drop 1) c.out.drop;simpa[List.drop_drop,Nat.add_comm] using this
    have P:=oE (fun x=>!f x) l j Z;rw[Hx.out,aP.out] at P;clear x0 x1 x2 x3 q0 q1 q2 q3 HC;cases b with
    |true=>
     have u:=ae (show zy p f B h g w A l s d i (j+1) from by
      have v:(l.take (j+1)).filter (fun x=>!f x)=(l.take j).filter fun x=>!f x:=by rw[P];simp
      exact⟨r,c.out.len,Y,by rw[v];exact c.out.take,by omega,by rw[v];exact c.out.ilen,S,aa⟩)
     clear ar r aa Y P S Q;go_wp2_with fail
     go_roundw
     case rel=>exact⟨i,j+1,d,by omega,rfl,by go_num,u.out⟩
     case measure=>simp[intOf];omega
    |false=>
     obtain⟨q0,q1,q2,q3⟩:=dX ar;have aI:i<d.length:=by omega
     have G:(d.flatMap bU++s).length=d.length*4+s.length:=by rw[aA,dQ bU 4 cX]
     obtain⟨z0,y0⟩:∃z,A.cell? ⟨g,i*4,none⟩=some z:=⟨_,(r.cell (i*4)).trans (List.getElem?_eq_getElem (by omega))⟩
     obtain⟨z1,y1⟩:∃z,A.cell? ⟨g,i*4+1,none⟩=some z:=⟨_,(r.cell (i*4+1)).trans (List.getElem?_eq_getElem (by omega))⟩
     obtain⟨z2,y2⟩:∃z,A.cell? ⟨g,i*4+2,none⟩=some z:=⟨_,(r.cell (i*4+2)).trans (List.getElem?_eq_getElem (by omega))⟩
     obtain⟨z3,y3⟩:∃z,A.cell? ⟨g,i*4+3,none⟩=some z:=⟨_,(r.cell (i*4+3)).trans (List.getElem?_eq_getElem (by omega))⟩
     have f0:=r.free (i*4);have f1:=r.free (i*4+1);have f2:=r.free (i*4+2);have f3:=r.free (i*4+3);obtain⟨w3,ab⟩:=aQ ((((A.setCell ⟨g,i*4,none⟩ (.string ⟨x.key.toArray⟩)).setCell ⟨g,i*4+1,none⟩ (.int .i64 x.dev)).setCell ⟨g,i*4+2,none⟩ (.int .i64 x.seq)).setCell ⟨g,i*4+3,none⟩ (.int .i64 x.val));have s1:=r.set (i*4) (.string ⟨x.key.toArray⟩);have s2:=s1.set (i*4+1) (.int .i64 x.dev);have s3:=s2.set (i*4+2) (.int .i64 x.seq);have s4:=s3.set (i*4+3) (.int .i64 x.val);rw[tD x s d i aI,<- ab] at s4
     have av:fh B A w3:=by
      rw[ab];exact(((fh.set r H _).trans (fh.set s1 H _)).trans (fh.set s2 H _)).trans (fh.set s3 H _)
     have u:=ae (show zy p f B h g w w3 l s (d.set i x) (i+1) (j+1) from by
      have v:(l.take (j+1)).filter (fun x=>!f x)=((l.take j).filter fun x=>!f x)++[x]:=by rw[P];rfl
      refine⟨s4,by rw[List.length_set];exact c.out.len,by rw[List.drop_set_of_lt (by omega)];exact Y,?_,by omega,by rw[v,aA,<- c.out.ilen];rfl,U.out _ _ _ S av,aa.trans av.gi⟩;rw[v,<- c.out.take,List.take_succ_eq_append_getElem (by simpa using aI)]
      simp[List.take_set_of_le (aq i)])
     have aT:=ae ab;clear ar r aa Y P S Q ab s1 s2 s3 s4 av G;go_wp2_with fail;rw[<- aT.out];clear q0 q1 q2 q3 y0 y1 y2 y3 f0 f1 f2 f3
     go_roundw
     case rel=>exact⟨i+1,j+1,d.set i x,by omega,by go_num,by go_num,u.out⟩
     case measure=>simp[intOf];omega
   ·have a0:¬(j:Int)<(n:Int):=by omega
    obtain rfl:j=n:=by omega
    have aG:l.take j=l:=by rw[<- L.out,List.take_length]
    have ht:=c.out.take;have hi:=c.out.ilen;have t:=c.out.st;rw[aG] at ht hi t;have aZ:=c.out.ile;have u:=ae t;have Ht:=ae ht;have V:=ae hi;clear aG ht hi t;have G:(d.flatMap bU++s).length=d.length*4+s.length:=by rw[aA,dQ bU 4 cX]
    have ag:=c.out.len;rw[L.out] at ag
    by_cases a3:F=i
    ·obtain⟨E,L',an,N,R,T,D⟩:=lK wr 0 g 0 (j-i) 0 _ c.out.blk H (by omega)
     have C:=ae (show uE g m (l.filter fun x=>!f x) E /\ p l E /\ fG B h w E from by
      refine⟨⟨L',N,?_,?_⟩,U.out _ _ _ u.out D,c.out.keep.trans D.gi⟩
      ·rw[R,G,<- Hm.out,aA,dQ bU 4 cX,c.out.len]
      ·rw[<- V.out,T (i*4) (.inr (by omega)),<- Ht.out,List.take_append_of_le_length (by rw[dQ bU 4 cX];omega)]
       exact nz d i)
     have aR:=ae an;clear N R T D G ag;go_wp2_with fail
     go_ret
     exact⟨⟨by rw[<- V.out];rfl,C.out.1,C.out.2.1⟩,C.out.2.2⟩
    ·obtain⟨E,L',an,N,R,T,D⟩:=lK wr 0 g (i*4) (j-i) (F-i) _ c.out.blk H (by omega)
     have C:=ae (show uE g m (l.filter fun x=>!f x) E /\ p l E /\ fG B h w E from by
      refine⟨⟨L',N,?_,?_⟩,U.out _ _ _ u.out D,c.out.keep.trans D.gi⟩
      ·rw[R,G,<- Hm.out,aA,dQ bU 4 cX,c.out.len]
      ·rw[<- V.out,T (i*4) (.inl (aq _)),<- Ht.out,List.take_append_of_le_length (by rw[dQ bU 4 cX];omega)]
       exact nz d i)
     have aR:=ae an;clear N R T D G ag;go_wp2_with fail
     go_ret
     exact⟨⟨by rw[<- V.out];rfl,C.out.1,C.out.2.1⟩,C.out.2.2⟩
 ·have v:l.filter (fun x=>!f x)=l:=List.filter_eq_self.2 fun y hy=>by rw[M y hy];rfl
  have Hf:=ae v;have u:=ae t;clear v M t;go_wp2_with fail
  go_ret
  refine⟨⟨?_,⟨_,K.out.blk _ _ _ Hg.out (by decide) (by decide),Hm.out,by rw[Hf.out,List.take_append_of_le_length (by rw[dQ bU 4 cX];exact aq _),List.take_of_length_le (by rw[dQ bU 4 cX];exact aq _)]⟩,u.out⟩,(K.out.gi W)⟩;rw[Hf.out,L.out];rfl
theorem rz(f:ew r){d:Int}{l:List bR}(e:tV d l):Bnd (dg r d l) /\ (∀x∈(dg r d l).items,x.key.length <= 400) /\ ∀x∈(dg r d l).gone,x.key.length <= 400:=by
 have b:=fD f;have h:∀x∈r.items,x.key.length <= 400:=fun x a=>dU (dT (f.iknown x a))
 have j:∀x∈r.gone,x.key.length <= 400:=fun x a=>dU (dT (f.gknown x a))
 have hi:∀x∈(dg r d l).items,x∈r.items:=fun x a=>(List.mem_filter.1 a).1
 have c:∀g∈(dg r d l).gone,g.key.length <= 400 /\ eX g.dev /\ eX g.seq:=fun g c=>by
  rcases vp f c with⟨x,a,-,rfl⟩|c
  ·exact⟨h x a,(b.itemsB x a).2.1,(b.itemsB x a).2.2.1⟩
  ·exact⟨j g c,(b.goneB g c).2⟩
 exact⟨⟨fun n i=>by have:=yh f e.lo e.hi n i;exact f7 (by omega),fun x a=>b.itemsB x (hi x a),fun g hh=>⟨by have:=(c g hh).1;omega,(c g hh).2⟩⟩,fun x a=>h x (hi x a),fun g hh=>(c g hh).1⟩
end Go.Proofs.YtobjdpngnfbicaaGreatDoor
