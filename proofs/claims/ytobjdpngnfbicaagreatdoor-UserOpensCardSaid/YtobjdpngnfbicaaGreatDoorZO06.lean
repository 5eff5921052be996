/-
  REv DecayAft RUse
-/
import Derived.Test.YtobjdpngnfbicaaGreatDoorZO05
open Go.Lib renaming hid->ae
open Go.IntWalk renaming i64_in->af
open Nat renaming le_refl->aq,le_trans->au
open List renaming length_append->aA,append_assoc->aB,getElem_mem->aC
open Go.Proofs.Tryz renaming prog->aE
set_option maxHeartbeats 16000000
set_option maxRecDepth 100000
set_option linter.all false
namespace Go.Proofs.YtobjdpngnfbicaaGreatDoor
open Go.RowKit
open Tryz
variable(w:World)(n k:Nat)(v:Value){W w':World}{G:aX}{u:Value}{i j o:Nat}{L:List Value}{r:aU}{t:TypeId}{y:List bR}
section
open Go.Sort
attribute [local go_sem ↓] aV
theorem ya:uf 163 9 1 (fun l=>l.map eS):=fun w F v l b a=>ly (.inr (.inr (.inr rfl))) zt underlying32 rfl (by decide) (by decide) w F v _ _ b a (DZ l)
theorem qg(c:List bR)(h:c.Pairwise fun a b=>a≠b):(Lib.compact c).length=c.length:=by
 rw[Lib.compact_all c fun j d=>?_];rcases Nat.eq_zero_or_pos j with rfl|g
 ·exact Lib.keeps_lt_one _ 0 (by omega)
 ·refine Lib.keeps_pos fun e=>?_
  have f:=List.pairwise_iff_getElem.1 h (j-1) j (by omega) d (by omega);rw[getElem!_pos c.toArray j (by simpa using d),getElem!_pos c.toArray (j-1) (by simp;omega)] at e;exact f (by simpa using e.symm)
theorem qT(a:List bR)(j:Nat)(c:j+1<a.length)(h:a[j]=a[j+1]):(Lib.compact a).length<a.length:=by
 unfold Lib.compact Lib.compactUpTo;rw[List.length_map]
 have d:Lib.keeps a.toArray (j+1)=false:=Lib.keeps_neg (by omega) (by
  rw[getElem!_pos a.toArray (j+1) (by simpa using c),getElem!_pos a.toArray (j+1-1) (by simp;omega)]
  simpa using h.symm)
 have b:=List.length_filter_lt_length_iff_exists (l:=List.range a.length) (p:=Lib.keeps a.toArray);simp only[List.length_range] at b;exact b.2 ⟨j+1,List.mem_range.2 c,by simp[d]⟩
theorem qU:∀c:List bR,(c.Pairwise fun a b=>a <= b) -> ¬c.Nodup -> ∃(j:Nat)(h:j+1<c.length),c[j]=c[j+1]
 |[],_,h=>absurd List.nodup_nil h
 |[a],_,h=>absurd (by simp) h
 |a::b::l,o,n=>by
  by_cases d:a=b
  ·exact⟨0,by simp,by simpa using d⟩
  ·have e:=List.pairwise_cons.1 o
   by_cases f:(b::l).Nodup
   ·refine absurd (List.nodup_cons.2 ⟨fun m=>?_,f⟩) n;rcases List.mem_cons.1 m with h|h
    ·exact d h
    ·have g:=e.1 b List.mem_cons_self;have i:=(List.pairwise_cons.1 e.2).1 a h;exact d (List.le_antisymm g i)
   ·obtain⟨j,k,h⟩:=qU (b::l) e.2 f;exact⟨j+1,by simpa using k,by simpa using h⟩
theorem sC(l:List bR):(Lib.compact (dw l)).length=l.length↔l.Nodup:=by
 have a:=ej l;constructor
 ·intro h;refine Classical.byContradiction fun d=>?_
  obtain⟨j,c,e⟩:=qU (dw l) (nQ l) (fun b=>d (a.nodup_iff.1 b));have:=qT _ j c e;rw[a.length_eq] at this;omega
 ·intro h;rw[qg _ (a.nodup_iff.2 h),a.length_eq]
theorem vR(b:List bR)(t:w.ownsRow k 9 1 v b.length (b.map eS))(B:b.length <= 1000000)(z:w.heap.size <= k+w.heap.size)(d:Nat)(C:d <= k)(s:d <= w.heap.size):
 Calls aE 162 #[v] w fun e h=>(∃a c,e=.returned (.slice a (Lib.compact b).length c)) /\ Below d w h:=by
 rcases t.2 with⟨rfl,u⟩|⟨f,m,y,rfl,A,p,x,D,E,l⟩
 ·obtain rfl:b = []:=List.length_eq_zero_iff.1 u;refine(Any.slices_Compact_string_empty Tryz.laysCompact none 0 w).mono ?_;rintro e h ⟨rfl,rfl⟩;exact⟨⟨none,0,rfl⟩,Below.refl _ _⟩
 ·have o:Holds Go.Proofs.encStr w f 0 b.toArray:=holds_of_block p (by rw[Nat.mul_one] at l;exact l);refine(Any.slices_Compact_string Tryz.laysCompact f 0 m b w o (by omega) x).mono ?_;rintro e h ⟨rfl,q,rfl⟩;refine⟨⟨_,_,rfl⟩,?_⟩;have i:=grownBy_sorted (w:=w) (g:=f) (n:=q) (os:=#[]) (Lib.compact b++List.replicate (b.length-(Lib.compact b).length) []).toArray;rw[grow_empty] at i;exact(Below.refl d w).grown i s (fun j r=>by cases r;omega)
/-! is there a key that is none -/
theorem yb(d:eJ w)(c:4 <= w.heap.size)(k:bR)(g:k.length <= 4611686018427387903):
 Calls aE 165 #[.string ⟨k.toArray⟩] w fun e b=>e=.returned (.bool (!fe k)) /\ Below w.heap.size w b:=by
 have V:=ae (s8 w d c k (by omega));obtain⟨h,a⟩:=aH (fe k);rw[a] at V⊢;clear a
 go_enter func165,ntmps165
 go_wp2_with fail;refine V.out.mono ?_;rintro e b ⟨rfl,f⟩;go_wp2_with fail
 go_ret
 exact⟨rfl,f⟩
theorem uh(C:eJ w)(B:4 <= w.heap.size)(F:aX)(v:Value)(l:List bR)(r:Rows F w 1 v l.length (l.map eS))(S:l.length <= 1000000)(m:∀k∈l,k.length <= 4611686018427387903):
 Calls aE 206 #[v,.func (.func 165) #[] #[]] w fun e J=>(∃i:Int,e=.returned (.int .i64 i) /\ (0 <= i↔l.all fe=false) /\ -1 <= i) /\ Below w.heap.size w J:=by
 obtain⟨n,q⟩:=aH l.length;obtain⟨a,W,rfl,-⟩:=r.shape;have O:=ae r;rw[q] at S⊢;have y:=ae q;have N:=ae m;have L:=ae C;have K:=ae (show Below w.heap.size w w from Below.refl _ _);clear r q m C
 go_enter func206,ntmps206
 go_wp2_with fail
 go_loopw [8] (fun i wr=>∃k:Nat,k <= n /\ i=.int .i64 (k:Int) /\ Below w.heap.size w wr /\ ∀j (f:j<l.length),j<k -> fe l[j]=true) (fun i _=>n-(intOf i).toNat)
 case atStart=>exact⟨0,by omega,rfl,K.out,fun j _ f=>by omega⟩
 case round=>
  obtain⟨k,m,rfl,E,g⟩:=hrel;have d:=ae E;have s:=ae g;clear E g
  by_cases R:k<n
  ·have Q:(k:Int)<(n:Int):=by omega
   have p:k<l.length:=by rw[y.out];exact R
   have I:=O.out.keep (w':=wr) fun b _ T=>d.out.block b T
   obtain⟨b,X,rfl,-,-,G⟩:=gF I (by omega);have A:=G k p;obtain⟨x,c⟩:=aH l[k];rw[c] at A;have V:=ae (yb wr (cd L.out B d.out) (au B d.out.size) x (N.out x (by rw[<- c];exact aC p)));have z:=ae c;obtain⟨U,o⟩:=aH (fe x);rw[o] at V;have u:=ae o;clear G c I o;go_wp2_with fail;refine V.out.mono ?_;rintro e Y ⟨rfl,D⟩;have t:=ae (d.out.trans (D.mono d.out.size));clear V D A;cases U with
   |true=>
    go_wp2_with fail
    go_roundw
    case rel=>exact⟨k+1,by omega,by go_num,t.out,fun j f P=>by
     rcases Nat.lt_succ_iff_lt_or_eq.1 P with h|h
     ·exact s.out j f h
     ·subst h;rw[z.out];exact u.out⟩
    case measure=>simp[intOf];omega
   |false=>
    go_wp2_with fail
    go_ret
    refine⟨⟨_,rfl,⟨fun _=>?_,fun _=>by omega⟩,by omega⟩,t.out⟩;rw[List.all_eq_false];exact⟨l[k],aC p,by rw[z.out,u.out];simp⟩
  ·have Q:¬(k:Int)<(n:Int):=by omega
   have g:l.all fe=true:=by
    rw[List.all_eq_true];intro x c;obtain⟨j,f,rfl⟩:=List.mem_iff_getElem.1 c;exact s.out j f (by rw[y.out] at f;omega)
   have M:=ae g;clear g;go_wp2_with fail
   go_ret
   exact⟨⟨-1,rfl,⟨fun h=>by omega,fun h=>by
    obtain⟨x,c,H⟩:=h;rw[List.all_eq_true.1 M.out x c] at H
    cases H⟩,by omega⟩,d.out⟩
theorem qh(g:eJ w)(q:4 <= w.heap.size)(F:aX)(v:Value)(l:List bR)(d:Rows F w 1 v l.length (l.map eS))(s:l.length <= 1000000)(m:∀k∈l,k.length <= 4611686018427387903):
 Calls aE 164 #[v,.func (.func 165) #[] #[]] w fun e t=>e=.returned (.bool (!l.all fe)) /\ Below w.heap.size w t:=by
 have b:=ae (uh w g q F v l d s m);obtain⟨a,u,rfl,-⟩:=d.shape;obtain⟨r,c⟩:=aH (l.all fe);rw[c];obtain⟨n,o⟩:=aH l.length;rw[o] at b⊢;have p:=ae c;clear d m c g o
 go_enter func164,ntmps164
 go_wp2_with fail;refine b.out.mono ?_;rintro e x ⟨⟨i,rfl,hi,-⟩,j⟩;rw[p.out] at hi;clear b;cases r with
 |true=>
  have f:¬0 <= i:=fun h=>by have:=hi.1 h;cases this
  clear hi;go_wp2_with fail
  go_ret
  exact⟨iM (by simpa using f),j⟩
 |false=>
  have f:0 <= i:=hi.2 rfl;clear hi;go_wp2_with fail
  go_ret
  exact⟨iM (by simp),j⟩
theorem lZ(Z:eJ w)(h3:4 <= w.heap.size)(F:aX)(v:Value)(m:aU)(h:dl F w v m)(ab:∀x∈m.items,x.key.length <= 1000000)(aa:∀x∈m.gone,x.key.length <= 1000000):
 Calls aE 107 #[v] w fun e w'=>e=.returned (.tuple #[if bp m then v else .agg #[.slice none 0 0,.slice none 0 0,.slice none 0 0],.int .i64 (if bp m then 0 else 7)]) /\ Below w.heap.size w w':=by
 replace h:=h.mono (G:=fun b=>b<w.heap.size) fun b _ O=>O
 replace h:=j8 h 37
 obtain⟨s,C,t,D,u,E,z,A,B,wx,rfl,h,l1,l2,l3,ak,al,an,ar,T,W,V,U,c0,c1,c2⟩:=h
 try rw[ak.out]
 try rw[al.out]
 try rw[an.out]
 clear h;obtain⟨f,d⟩:=aQ (wx.alloc (.cells #[.slice none 0 0,.slice none 0 0,.slice none 0 0] 37));have M:Below w.heap.size w f:=by rw[d];exact T.out.alloc T.out.size _
 have ai:f.heap.size=w.heap.size+2:=by rw[d];simp[W.out]
 have k1:Blk f w.heap.size [.slice s z C,.slice t A D,.slice u B E] 37:=by rw[d];exact U.out.alloc _
 have k2:Blk f (w.heap.size+1) [.slice none 0 0,.slice none 0 0,.slice none 0 0] 37:=by
  have:=Blk.new wx #[.slice none 0 0,.slice none 0 0,.slice none 0 0] 37;rw[d,<- W.out];exact this
 have ad:=V.out.keep (w':=f) fun b _ O=>by rw[d];exact Below.heap_alloc _ _ _ O
 have r:=ae (kQ f (cd Z h3 M) (by omega) _ (.agg #[.slice s z C,.slice t A D,.slice u B E]) m ⟨_,_,_,rfl,ad⟩ ab aa);obtain⟨ok,ag⟩:=aH (bp m);rw[ag] at r⊢;have ao:=ae d;have S:=ae M;have X:=ae k1;have Y:=ae k2;have av:=ae ai;clear d M k1 k2 ad ai V U ag Z ab aa c0 c1 c2
 go_enter func107,ntmps107
 go_wp2_with fail;rw[<- ar.out,<- ao.out];refine r.out.mono ?_;rintro e w3 ⟨rfl,g⟩;have k:=X.out.keep (g.block _ X.out.lt);have c:=Y.out.keep (g.block _ Y.out.lt);have d0:=k.cell 0;have d1:=k.cell 1;have d2:=k.cell 2;simp at d0 d1 d2;have y0:=c.cell 0;have y1:=c.cell 1;have y2:=c.cell 2;have z0:=c.free 0;have z1:=c.free 1;have z2:=c.free 2;simp at y0 y1 y2;have N:Below w.heap.size w w3:=S.out.trans (g.mono S.out.size)
 have y:∀P Q R:Value,∃q,q=((w3.setCell ⟨w.heap.size+1,0,none⟩ P).setCell ⟨w.heap.size+1,1,none⟩ Q).setCell ⟨w.heap.size+1,2,none⟩ R /\ Blk q (w.heap.size+1) [P,Q,R] 37 /\ Below w.heap.size w q:=fun P Q R=>
  ⟨_,rfl,set3 _ c rfl,((N.setCell (p:=⟨w.heap.size+1,0,none⟩) (Nat.le_succ _) _).setCell (p:=⟨w.heap.size+1,1,none⟩) (Nat.le_succ _) _).setCell (p:=⟨w.heap.size+1,2,none⟩) (Nat.le_succ _) _⟩
 cases ok with
 |true=>
  obtain⟨q,j,a,i⟩:=y (.slice s z C) (.slice t A D) (.slice u B E);have J:=ae (a.cell 0);have K:=ae (a.cell 1);have L:=ae (a.cell 2);have H:=ae i;have I:=ae j;clear y j a i k c r g N;go_wp2_with fail;rw[<- I.out];have l:=J.out;have n:=K.out;have o:=L.out;simp at l n o;refine bodyPost_ret (v:=.tuple #[.agg #[.slice s z C,.slice t A D,.slice u B E],.int .i64 0]) (by simp[results,results107,go_sem,l,n,o]) rfl ⟨rfl,H.out⟩
 |false=>
  obtain⟨q,j,a,i⟩:=y (.slice none 0 0) (.slice none 0 0) (.slice none 0 0);have J:=ae (a.cell 0);have K:=ae (a.cell 1);have L:=ae (a.cell 2);have H:=ae i;have I:=ae j;clear y j a i k c r g N;go_wp2_with fail;rw[<- I.out];have l:=J.out;have n:=K.out;have o:=L.out;simp at l n o;refine bodyPost_ret (v:=.tuple #[.agg #[.slice none 0 0,.slice none 0 0,.slice none 0 0],.int .i64 7]) (by simp[results,results107,go_sem,l,n,o]) rfl ⟨rfl,H.out⟩
/- event. -/
end
section
open Go.Sort
attribute [local go_sem ↓] aV
theorem dJ{x y z:Value}(h:Blk w' j [x,y,z] t)(g:Below i W w')(a:i <= j)(d e f:Value):
 ∃c,c=((w'.setCell ⟨j,0,none⟩ d).setCell ⟨j,1,none⟩ e).setCell ⟨j,2,none⟩ f /\ Blk c j [d,e,f] t /\ Below i W c:=
 ⟨_,rfl,set3 _ h rfl,((g.setCell (p:=⟨j,0,none⟩) a _).setCell (p:=⟨j,1,none⟩) a _).setCell (p:=⟨j,2,none⟩) a _⟩
def eG:Value:=.agg #[.slice none 0 0,.slice none 0 0,.slice none 0 0]
theorem yc(b:∃a n c,v=.slice a n c):
 Calls aE 161 #[v] w fun e d=>e=.returned (.func (.func 205) #[] #[.pointer (some ⟨w.heap.size,0,none⟩)]) /\ d=w.alloc (.cells #[v] 32):=by
 obtain⟨a,n,c,rfl⟩:=b
 go_enter func161,ntmps161
 go_wp2_with fail
 go_ret
 exact⟨rfl,rfl⟩
def BC(w:World)(m:aU)(d:Int)(l:List bR)(e:Ending)(a:World):Prop:=
 ((bp m=false /\ e=.returned (.tuple #[eG,.slice none 0 0,.int .i64 5])) \/ (bp m=true /\ di d l=false /\ e=.returned (.tuple #[eG,.slice none 0 0,.int .i64 1])) \/
  (bp m=true /\ di d l=true /\ ∃r s,e=.returned (.tuple #[r,s,.int .i64 0]) /\ pc a w.heap.size r ⟨cK m d,m.items,m.gone⟩ /\ a.ownsRow w.heap.size 9 1 s l.length ((dw l).map eS))) /\ Below w.heap.size w a
theorem tf(hT:eJ w)(h3:4 <= w.heap.size)(F:aX)(v:Value)(m:aU)(h:dl F w v m)(bH:∀x∈m.items,x.key.length <= 1000000)(bG:∀x∈m.gone,x.key.length <= 1000000)
 (bI:m.items.length <= 1000000) (bJ:m.gone.length <= 1000000) (d:Int) (G:aX) (lv:Value) (l:List bR) (aF:Rows G w 1 lv l.length (l.map eS)) (y:l.length <= 1000000) (hk:∀k∈l,k.length <= 4611686018427387903):
 Calls aE 102 #[v,.int .i64 d,lv] w (BC w m d l):=by
 replace h:=h.mono (G:=fun b=>b<w.heap.size) fun b _ S=>S
 replace aF:=aF.mono (G:=fun b=>b<w.heap.size) fun b _ S=>S
 replace h:=j8 h 37
 obtain⟨a1,p1,a2,p2,a3,p3,z,H,I,wx,rfl,h,l1,l2,l3,ai,aM,aN,b7,bs,bx,Hx,bv,c0,Y,Z⟩:=h
 try rw[ai.out]
 try rw[aM.out]
 try rw[aN.out]
 clear h;rw[aM.out] at bI;rw[aN.out] at bJ;obtain⟨A,bg⟩:=aH l.length;obtain⟨al,cl,rfl,-⟩:=aF.shape;have bu:=ae aF;rw[bg] at y⊢;have av:=ae bg;obtain⟨i,ab⟩:=aQ (wx.alloc (.cells #[.slice none 0 0,.slice none 0 0,.slice none 0 0] 37));have bA:Below w.heap.size w i:=by rw[ab];exact bs.out.alloc bs.out.size _
 have bO:i.heap.size=w.heap.size+2:=by rw[ab];simp[bx.out]
 have j:=ae (show ∀W,Below i.heap.size i W -> Below w.heap.size w W /\ Blk W w.heap.size [.slice a1 z p1,.slice a2 H p2,.slice a3 I p3] 37 /\ Blk W (w.heap.size+1) [.slice none 0 0,.slice none 0 0,.slice none 0 0] 37 /\ cG (fun b=>b<w.heap.size) W (.slice a1 z p1) (.slice a2 H p2) (.slice a3 I p3) m /\ Rows (fun b=>b<w.heap.size) W 1 (.slice al l.length cl) l.length (l.map eS) from fun W y=>by
  have k1:Blk i w.heap.size [.slice a1 z p1,.slice a2 H p2,.slice a3 I p3] 37:=by rw[ab];exact bv.out.alloc _
  have k2:Blk i (w.heap.size+1) [.slice none 0 0,.slice none 0 0,.slice none 0 0] 37:=by
   have:=Blk.new wx #[.slice none 0 0,.slice none 0 0,.slice none 0 0] 37;rw[ab,<- bx.out];exact this
  have bD:=bA.trans (y.mono (by omega))
  exact⟨bD,k1.keep (y.block _ k1.lt),k2.keep (y.block _ k2.lt),(Hx.out.keep (w':=i) fun b _ S=>by rw[ab];exact Below.heap_alloc _ _ _ S).keep fun b hb S=>y.block b (by omega),bu.out.keep fun b _ S=>bD.block b S⟩)
 have HT:=ae (show ∀W,Below i.heap.size i W -> eJ W /\ 4 <= W.heap.size from fun W y=>⟨cd hT h3 (j.out W y).1,au h3 (j.out W y).1.size⟩);have HC:=ae (kQ i (HT.out i (Below.refl _ _)).1 (by omega) _ (.agg #[.slice a1 z p1,.slice a2 H p2,.slice a3 I p3]) m ⟨_,_,_,rfl,(j.out i (Below.refl _ _)).2.2.2.1⟩ bH bG);obtain⟨ok,bi⟩:=aH (bp m);rw[bi] at HC;have X:=ae bi;have Hk:=ae hk;have b5:=ae ab;have b8:=ae bO;clear ab bA bO Hx bv bi hT bH bG c0 Y Z aF bg hk bu
 go_enter func102,ntmps102
 go_wp2_with fail;rw[<- b7.out,<- b5.out];refine HC.out.mono ?_;rintro e w3 ⟨rfl,bB⟩;have aJ:=ae bB;clear HC bB;cases ok with
 |false=>
  have a:=(j.out w3 aJ.out).2.2.1;obtain⟨V,n,c,o⟩:=dJ a (j.out w3 aJ.out).1 (Nat.le_succ _) (.slice none 0 0) (.slice none 0 0) (.slice none 0 0);have C:=a.cell 0;have D:=a.cell 1;have E:=a.cell 2;have z0:=a.free 0;have z1:=a.free 1;have z2:=a.free 2;simp at C D E;have N:=ae (c.cell 0);have O:=ae (c.cell 1);have P:=ae (c.cell 2);have L:=ae o;have M:=ae n;clear n c o;go_wp2_with fail;rw[<- M.out];have r:=N.out;have t:=O.out;have u:=P.out;simp at r t u;refine bodyPost_ret (v:=.tuple #[eG,.slice none 0 0,.int .i64 5]) (by simp[results,results102,go_sem,r,t,u,eG]) rfl ⟨.inl ⟨X.out,rfl⟩,L.out⟩
 |true=>
  have HV:=ae (yc w3 (.slice al A cl) ⟨_,_,_,rfl⟩);obtain⟨U,aZ⟩:=aQ (w3.alloc (.cells #[.slice al A cl] 32));have aS:Below i.heap.size i U:=by rw[aZ];exact aJ.out.alloc aJ.out.size _
  have bE:Blk U w3.heap.size [.slice al A cl] 32:=by rw[aZ];exact Blk.new _ _ _
  have HS:=ae (x5 U _ (.slice al A cl) l w3.heap.size (by have:=(j.out U aS).2.2.2.2;rw[av.out] at this⊢;exact this) (fun b hb=>by have:=(j.out U aS).1.size;omega) bE (by rw[av.out];exact y));have a0:=ae aS;have b6:=ae aZ;clear aZ aS bE;go_wp2_with fail;refine HV.out.mono ?_;rintro e w' ⟨rfl,rfl⟩;rw[<- b6.out];clear HV;go_wp2_with fail;refine HS.out.mono ?_;rintro e w5 ⟨s,rfl,aY,bC⟩;have bj:(dw l).length=A:=by rw[(ej l).length_eq];exact av.out
  obtain⟨sa,cs,rfl⟩:=aK aY;rw[bj] at aY⊢;have aP:Below i.heap.size i w5:=a0.out.trans (bC.mono a0.out.size);have a4:=ae aP;have aO:=ae aY;have ak:=ae bj;have a:=(j.out w5 aP).2.2.1;have Q:=(j.out w5 aP).1;clear HS bC aP aY bj
  by_cases cr:d<0
  ·have K:=ae (show di d l=false by unfold di;simp;omega);obtain⟨V,n,c,o⟩:=dJ a Q (Nat.le_succ _) (.slice none 0 0) (.slice none 0 0) (.slice none 0 0);have C:=a.cell 0;have D:=a.cell 1;have E:=a.cell 2;have z0:=a.free 0;have z1:=a.free 1;have z2:=a.free 2;simp at C D E;have N:=ae (c.cell 0);have O:=ae (c.cell 1);have P:=ae (c.cell 2);have L:=ae o;have M:=ae n;clear n c o;go_wp2_with fail;rw[<- M.out];have r:=N.out;have t:=O.out;have u:=P.out;simp at r t u;refine bodyPost_ret (v:=.tuple #[eG,.slice none 0 0,.int .i64 1]) (by simp[results,results102,go_sem,r,t,u,eG]) rfl ⟨.inr (.inl ⟨X.out,K.out,rfl⟩),L.out⟩
  by_cases cc:d ≥ 8
  ·have K:=ae (show di d l=false by unfold di;simp;omega);obtain⟨V,n,c,o⟩:=dJ a Q (Nat.le_succ _) (.slice none 0 0) (.slice none 0 0) (.slice none 0 0);have C:=a.cell 0;have D:=a.cell 1;have E:=a.cell 2;have z0:=a.free 0;have z1:=a.free 1;have z2:=a.free 2;simp at C D E;have N:=ae (c.cell 0);have O:=ae (c.cell 1);have P:=ae (c.cell 2);have L:=ae o;have M:=ae n;clear n c o;go_wp2_with fail;rw[<- M.out];have r:=N.out;have t:=O.out;have u:=P.out;simp at r t u;refine bodyPost_ret (v:=.tuple #[eG,.slice none 0 0,.int .i64 1]) (by simp[results,results102,go_sem,r,t,u,eG]) rfl ⟨.inr (.inl ⟨X.out,K.out,rfl⟩),L.out⟩
  have ct:¬d ≥ 8:=cc;have bn:=ae (ya w5 _ (.slice sa A cs) (dw l) (by rw[ak.out];exact Rows.of_owns aO.out) (by rw[ak.out];exact y));clear a Q;go_wp2_with fail;refine bn.out.mono ?_;rintro e w6 ⟨c6,rfl,bh,az⟩;have bz:Below i.heap.size i w6:=a4.out.trans (az.mono a4.out.size);have bQ:=ae bz;have co:=ae (bm aO.out az);have aT:=vR w6 w5.heap.size c6 (dw l) bh (by rw[ak.out];exact y) (by omega) w5.heap.size (aq _) az.size;obtain⟨a6,d6,rfl⟩:=aK bh;rw[ak.out] at aT⊢;obtain⟨J,bf⟩:=aH ((Lib.compact (dw l)).length);rw[bf] at aT;have bo:=ae aT;have bW:=ae bf;have bT:=ae az;clear bn bz az bh aT bf;go_wp2_with fail;refine bo.out.mono ?_;rintro e w7 ⟨⟨a7,c7,rfl⟩,a8⟩;have ay:Below i.heap.size i w7:=bQ.out.trans (a8.mono a4.out.size);have br:=ae ay;have a:=(j.out w7 ay).2.2.1;have Q:=(j.out w7 ay).1
  have aV:J=A↔l.Nodup:=by
   have:=sC l;rw[bW.out,av.out] at this;exact this
  have bw:=ae (show w7.ownsRow U.heap.size 9 1 (.slice sa A cs) A ((dw l).map eS) from bm aO.out (bT.out.trans a8));clear bo aO
  by_cases aW:J=A
  case neg=>
   have hI:¬(J:Int)=(A:Int):=by omega
   have cp:((J:Int) != (A:Int))=true:=by simp;omega
   have K:=ae (show di d l=false by
    unfold di;rw[decide_eq_false (p:=l.Nodup) (fun h=>aW (aV.2 h))]
    simp)
   clear aV aW;obtain⟨V,n,c,o⟩:=dJ a Q (Nat.le_succ _) (.slice none 0 0) (.slice none 0 0) (.slice none 0 0);have C:=a.cell 0;have D:=a.cell 1;have E:=a.cell 2;have z0:=a.free 0;have z1:=a.free 1;have z2:=a.free 2;simp at C D E;have N:=ae (c.cell 0);have O:=ae (c.cell 1);have P:=ae (c.cell 2);have L:=ae o;have M:=ae n;clear n c o;go_wp2_with fail;rw[<- M.out];have r:=N.out;have t:=O.out;have u:=P.out;simp at r t u;refine bodyPost_ret (v:=.tuple #[eG,.slice none 0 0,.int .i64 1]) (by simp[results,results102,go_sem,r,t,u,eG]) rfl ⟨.inr (.inl ⟨X.out,K.out,rfl⟩),L.out⟩
  have bX:=ae (aV.1 aW);subst aW;clear aV a8;obtain⟨kk,be⟩:=aH ((dw l).all fe)
  have bt:=ae (show l.all fe=kk by
   rw[<- be,Bool.eq_iff_iff,List.all_eq_true,List.all_eq_true]
   exact⟨fun h x T=>h x ((ej l).mem_iff.1 T),fun h x T=>h x ((ej l).mem_iff.2 T)⟩)
  have bb:=qh w7 (HT.out w7 ay).1 (HT.out w7 ay).2 _ (.slice sa J cs) (dw l) (by rw[ak.out];exact Rows.of_owns bw.out) (by rw[ak.out];exact y) (fun k hk=>Hk.out k ((ej l).mem_iff.1 hk));rw[be] at bb;have bl:=ae bb;clear bb be a Q;go_wp2_with fail;refine bl.out.mono ?_;rintro e B ⟨rfl,a9⟩;have an:Below i.heap.size i B:=br.out.trans (a9.mono br.out.size);have ag:=ae an;have a:=(j.out B an).2.2.1;have Q:=(j.out B an).1;have bZ:=ae (bm bw.out a9);clear bl a9;cases kk with
  |false=>
   have K:=ae (show di d l=false by unfold di;rw[bt.out];simp);obtain⟨V,n,c,o⟩:=dJ a Q (Nat.le_succ _) (.slice none 0 0) (.slice none 0 0) (.slice none 0 0);have C:=a.cell 0;have D:=a.cell 1;have E:=a.cell 2;have z0:=a.free 0;have z1:=a.free 1;have z2:=a.free 2;simp at C D E;have N:=ae (c.cell 0);have O:=ae (c.cell 1);have P:=ae (c.cell 2);have L:=ae o;have M:=ae n;clear n c o;go_wp2_with fail;rw[<- M.out];have r:=N.out;have t:=O.out;have u:=P.out;simp at r t u;refine bodyPost_ret (v:=.tuple #[eG,.slice none 0 0,.int .i64 1]) (by simp[results,results102,go_sem,r,t,u,eG]) rfl ⟨.inr (.inl ⟨X.out,K.out,rfl⟩),L.out⟩
  |true=>
   have K:=ae (show di d l=true by
    unfold di;rw[bt.out,decide_eq_true bX.out];simp
    omega)
   have km:=(j.out B an).2.1;have d0:=km.cell 0;have d1:=km.cell 1;have d2:=km.cell 2;simp at d0 d1 d2;have f:=cq X.out;have bq:=ae (qS B _ (.agg #[.slice a1 z p1,.slice a2 H p2,.slice a3 I p3]) m ⟨_,_,_,rfl,(j.out B an).2.2.2.1⟩ (by rw[f.len];omega) (by rw[aM.out];exact bI) (by rw[aN.out];exact bJ));have Hf:=ae f;clear f an km Q a;go_wp2_with fail;refine bq.out.mono ?_;rintro e R ⟨⟨r9,rfl,s1,s2,s3,rfl,aa⟩,ba⟩;have a5:Below i.heap.size i R:=ag.out.trans (ba.mono ag.out.size);obtain⟨b1,Y,bK⟩:=aK aa.seen;obtain⟨b2,Z,bL⟩:=aK aa.items;obtain⟨b3,c3,bM⟩:=aK aa.gone;rw[ai.out] at bK;rw[aM.out] at bL;rw[aN.out] at bM;subst bK bL bM;have b0:=ae (bm bZ.out ba)
   obtain⟨g,rfl⟩:∃g,b1=some ⟨g,0,none⟩:=by
    rcases aa.seen.2 with⟨_,h0⟩|⟨g,b9,ca,hv,_⟩
    ·have:=Hf.out.len;omega
    ·simp at hv;exact⟨g,hv.1⟩
   obtain⟨q,rfl⟩:=Int.eq_ofNat_of_zero_le (show 0 <= d by omega);have hq:q<m.seen.length:=by have:=Hf.out.len;omega
   obtain⟨x,T⟩:=aH m.seen[q];obtain⟨cA,cB⟩:=Hf.out.seen x (by rw[<- T];exact aC hq);have ao:=aa.seen;rw[ai.out] at ao
   have e0:R.cell? ⟨g,q,none⟩=some (.int .i64 x):=by
    rw[ao.cellAt q (by rw[<- ai.out];omega)];simp[hq,T]
   have f0:=ao.frozenAt q;have cz:(q:Int)<(z:Int):=by rw[<- ai.out];omega
   obtain⟨bN,bF⟩:=ao.stored q (.int .i64 (x+1))
   have ce:B.heap.size <= g /\ g<R.heap.size:=by
    rcases ao.2 with⟨hh,_⟩|⟨g',b9,ca,hv,hb,hg,_⟩
    ·simp at hh
    ·simp at hv;obtain⟨rfl,-⟩:=hv;exact⟨hb,lt_of_block hg⟩
   obtain⟨cu,cv⟩:=ce;have a:=(j.out R a5).2.2.1;have C:=a.cell 0;have D:=a.cell 1;have E:=a.cell 2;have z0:=a.free 0;have z1:=a.free 1;have z2:=a.free 2;simp at C D E;have ck:=(j.out B ag.out).1.size;have cn:=ag.out.size;have cm:=b8.out;have cx:g≠w.heap.size+1:=by omega
   have cy:g≠R.heap.size:=by omega
   have cw:w.heap.size+1<R.heap.size:=by omega
   have b4:=ae bN;have bU:=ae bF;have ax:=ae aa;have bS:=ae a5;have Hx:=ae T;have bV:=ae a;clear bN bF aa ao a5 T a ba bq ck cn cm;go_wp2_with fail;obtain⟨ar,aG⟩:=aQ (R.setCell ⟨g,q,none⟩ (.int .i64 (x+1)));rw[<- aG]
   have cb:Below w.heap.size w ar:=by
    rw[aG];exact(j.out R bS.out).1.setCell (by have:=(j.out B ag.out).1.size;show w.heap.size <= g;omega) _
   have ad:Blk ar (w.heap.size+1) [.slice none 0 0,.slice none 0 0,.slice none 0 0] 37:=by
    rw[aG];exact bV.out.set_other _ (by show w.heap.size+1≠g;omega)
   obtain⟨V,n,c,o⟩:=dJ ad cb (Nat.le_succ _) (.slice (some ⟨g,0,none⟩) z Y) (.slice b2 H Z) (.slice b3 I c3);have bk:w.heap.size <= B.heap.size:=(j.out B ag.out).1.size;have cj:w.heap.size <= U.heap.size:=(j.out U a0.out).1.size;have bc:R.grownBy ar (some g):=by rw[aG];exact bU.out
   have ch:dW ar w.heap.size (.slice (some ⟨g,0,none⟩) z Y) (.slice b2 H Z) (.slice b3 I c3) ⟨cK m q,m.items,m.gone⟩:=by
    refine⟨?_,bP (bY ax.out.items ax.out.seen (by decide) bc) bk,bP (bY ax.out.gone ax.out.seen (by decide) bc) bk⟩;have h1:=bP b4.out bk;rw[<- aG] at h1;have h2:(cK m q).length=z:=by unfold cK;simp;exact ai.out
    have h3:(cK m q).map eI=(m.seen.map eI).set q (.int .i64 (x+1)):=by
     unfold cK;rw[List.map_set,Int.toNat_natCast,List.getD_eq_getElem?_getD,List.getElem?_eq_getElem hq,Hx.out];rfl
    show ar.ownsRow w.heap.size 3 1 _ (cK m q).length ((cK m q).map eI);rw[h2,h3];exact h1
   have cf:ar.ownsRow w.heap.size 9 1 (.slice sa J cs) J ((dw l).map eS):=bP (bY b0.out ax.out.seen (by decide) bc) cj
   have ci:dW V w.heap.size (.slice (some ⟨g,0,none⟩) z Y) (.slice b2 H Z) (.slice b3 I c3) ⟨cK m q,m.items,m.gone⟩:=by
    rw[n];exact((ch.setCell ad _).setCell (ad.set 0 _) _).setCell ((ad.set 0 _).set 1 _) _
   have cg:V.ownsRow w.heap.size 9 1 (.slice sa J cs) J ((dw l).map eS):=by
    rw[n];exact aL (aL (aL cf ad (by decide) _) (ad.set 0 _) (by decide) _) ((ad.set 0 _).set 1 _) (by decide) _
   rw[<- n];have aR:=aI V (.cells #[.slice (some ⟨g,0,none⟩) z Y,.slice b2 H Z,.slice b3 I c3] 37);have bd:=c.keep (aR.block _ c.lt);have r:=bd.cell 0;have t:=bd.cell 1;have u:=bd.cell 2;simp at r t u
   refine bodyPost_ret (v:=.tuple #[.agg #[.slice (some ⟨g,0,none⟩) z Y,.slice b2 H Z,.slice b3 I c3],.slice sa J cs,.int .i64 0]) (by simp[results,results102,go_sem,r,t,u]) rfl
    ⟨.inr (.inr ⟨X.out,K.out,_,_,rfl,⟨_,_,_,rfl,ci.below aR⟩,by rw[av.out];exact bm cg aR⟩),o.trans (aR.mono o.size)⟩
end
theorem pT(v:Int)(w:World):
 Calls aE 194 #[.int .i64 v] w fun e a=>e=.returned (.int .i64 (DM.bnd v)) /\ w=a:=by
 go_enter func194,ntmps194
 go_wp2
 all_goals (go_ret;refine⟨fM ?_,rfl⟩;unfold DM.bnd;(try split at *)<;>omega)
theorem Ad(v:Int)(w:World):
 Calls aE 228 #[.int .i64 v] w fun e a=>e=.returned (.int .i64 (DM.bnd v)) /\ w=a:=by
 go_enter func228,ntmps228
 go_wp2
 all_goals (go_ret;refine⟨fM ?_,rfl⟩;unfold DM.bnd;omega)
theorem qV(v l n:Int)(a b:Nat)(w:World)(c:ep w a (.int .i64 l) 3)(d:ep w b (.int .i64 n) 3)(o:a≠b)(k:1 <= n)(m:n <= 9223372036854775807):
 Calls aE 196 #[.int .i64 v,.pointer (some ⟨a,0,none⟩),.pointer (some ⟨b,0,none⟩)] w fun e f=>
  e=.returned (.bool (decide (1<n))) /\ f=(w.setCell ⟨a,0,none⟩ (.int .i64 v)).setCell ⟨b,0,none⟩ (.int .i64 (n-1)):=by
 have g:=c.cell;have h:=d.cell;have i:=c.free;have j:=d.free
 go_enter func196,ntmps196
 go_wp2
 go_ret
 exact⟨rfl,rfl⟩
def Dd(w0:World)(a b:Nat)(v:Int)(n:Int)(u:Value)(wr:World):Prop:=
 ∃k:Nat,(k:Int)<n /\ u=.int .i64 (DM.aft k v) /\ ep wr a (.int .i64 (DM.aft k v)) 3 /\ ep wr b (.int .i64 (n-k)) 3 /\ (∀B,B <= a -> B <= b -> Below B w0 wr)
theorem yd(v n:Int)(a b:Nat)(w:World)(E:ep w a (.int .i64 v) 3)(F:ep w b (.int .i64 n) 3)(g:a≠b)(H:1 <= n)(I:n <= 9223372036854775807)
 (s:0 <= v) (M:v <= 1099511627776):
 Calls aE 195 #[.int .i64 v,.func (.func 196) #[] #[.pointer (some ⟨a,0,none⟩),.pointer (some ⟨b,0,none⟩)]] w fun e h=>
  e=.returned (.tuple #[]) /\ ep h a (.int .i64 (DM.aft n.toNat v)) 3 /\ (∀B,B <= a -> B <= b -> Below B w h):=by
 go_enter func195,ntmps195
 go_wp2_with fail
 go_loopw [0] (fun u wr=>Dd w a b v n u wr) (fun u _=>(intOf u).toNat)
 case atStart=>exact⟨0,by omega,rfl,E,by simpa using F,fun B _ _=>Below.refl _ _⟩
 case round=>
  obtain⟨k,G,rfl,f,m,l⟩:=hrel;have A:=DM.aft_nonneg k v s;have c:=DM.aft_le k v s;generalize t:DM.aft k v=x at *;have p:=ae t;clear t
  by_cases o:0<x
  ·have J:=DM.stp_lt x o;have K:=DM.stp_nonneg x A;have q:DM.aft (k+1) v=DM.stp x:=by rw[DM.aft_succ',p.out,if_pos o]
   have i:=ae q;clear q;have L:x-(x+255)/256=DM.stp x:=rfl
   by_cases r:1<n-k
   ·have C:decide (1<n-(k:Int))=true:=by simpa using r
    go_wp2_with (go_at_call 196;refine(qV _ x (n-k) a b wr f m g (by omega) (by omega)).mono ?_;rintro e h ⟨rfl,rfl⟩)
    go_roundw
    case rel=>exact⟨k+1,by omega,by rw[i.out],by rw[i.out];exact(f.set).other _ g,by rw[show n-((k+1:Nat):Int)=n-k-1 from by omega];exact(m.other _ g.symm).set,fun B c d=>((l B c d).setCell c _).setCell d _⟩
    case measure=>simp[intOf];omega
   ·have C:decide (1<n-(k:Int))=false:=by simpa using r
    go_wp2_with (go_at_call 196;refine(qV _ x (n-k) a b wr f m g (by omega) (by omega)).mono ?_;rintro e h ⟨rfl,rfl⟩);refine bodyPost_ret (results_none rfl _ _ _) rfl ?_;refine⟨rfl,?_,fun B c d=>((l B c d).setCell c _).setCell d _⟩;rw[show n.toNat=k+1 from by omega,i.out];exact(f.set).other _ g
  ·have y:DM.aft n.toNat v=x:=by
    obtain⟨j,D⟩:∃j,n.toNat=k+j:=⟨n.toNat-k,by omega⟩
    rw[D,<- DM.aft_add,p.out,DM.aft_zero_of _ _ o]
   have z:=ae y;clear y
   go_wp2
   go_end0
   exact⟨rfl,by rw[z.out];exact f,l⟩
theorem tg(v n:Int)(w:World)(j:n <= 9223372036854775807):
 Calls aE 144 #[.int .i64 v,.int .i64 n] w fun e a=>e=.returned (.int .i64 (DM.aft n.toNat (DM.bnd v))) /\ Below w.heap.size w a:=by
 have f:=DM.bnd_nonneg v;have g:=DM.bnd_le v
 by_cases m:n <= 0
 ·go_enter func144,ntmps144
  go_wp2_with (go_at_call 194;refine(pT _ _).mono ?_;rintro e a ⟨rfl,rfl⟩)
  go_ret
  exact⟨fM (by rw[show n.toNat=0 from by omega];rfl),(Below.refl _ _).alloc (aq _) _⟩
 ·generalize c:DM.bnd v=x at *;have d:=ae c;clear c
  go_enter func144,ntmps144
  go_wp2_with fail;refine(pT _ _).mono ?_;rintro e a ⟨rfl,rfl⟩;rw[d.out];go_wp2_with fail;refine(yd x n (w.heap.size+1) w.heap.size _ (by simpa using ep.new (w.alloc (.cells #[.int .i64 n] 3)) (.int .i64 x) 3) ((ep.new w _ _).alloc _) (by omega) (by omega) j f g).mono ?_;rintro e a ⟨rfl,b,h⟩;have i:=h w.heap.size (by omega) (by omega);have k:=b.cell;have l:=b.free;go_wp2_with fail
  go_ret
  exact⟨rfl,(((Below.refl _ _).alloc (aq _) _).alloc (by simp) _).trans i⟩
theorem De(v n:Int)(w:World)(g:n <= 9223372036854775807):
 Calls aE 106 #[.int .i64 v,.int .i64 n] w fun e c=>e=.returned (.int .i64 (DM.aft n.toNat (DM.bnd v)+65536)) /\ Below w.heap.size w c:=by
 have a:=DM.bnd_nonneg v;have i:=DM.bnd_le v;have a0:=DM.aft_nonneg n.toNat (DM.bnd v) a;have h:=DM.aft_le n.toNat (DM.bnd v) a;generalize b:DM.aft n.toNat (DM.bnd v)=x at *;have d:=ae b;clear b
 go_enter func106,ntmps106
 go_wp2_with fail;refine(tg _ _ _ g).mono ?_;rintro e c ⟨rfl,f⟩;rw[d.out];go_wp2_with fail
 go_ret
 exact⟨rfl,f⟩
theorem ui(v n:Int)(w:World)(C:n <= 9223372036854775807):
 Calls aE 214 #[.int .i64 v,.int .i64 n] w fun e m=>e=.returned (.int .i64 (DM.aft n.toNat (DM.bnd v))) /\ w=m:=by
 have f:=DM.bnd_nonneg v;have t:=DM.bnd_le v;generalize h:DM.bnd v=x at *;have p:=ae h;clear h
 go_enter func214,ntmps214
 go_wp2_with fail;refine(Ad _ _).mono ?_;rintro e m ⟨rfl,rfl⟩;rw[p.out];go_wp2_with fail
 go_loop [0,5] (fun u i=>∃k:Nat,(k:Int) <= max n 0 /\ i=.int .i64 k /\ u=.int .i64 (DM.aft k x)) (fun u _=>(intOf u).toNat)
 case atStart=>exact⟨0,by omega,rfl,rfl⟩
 case round=>
  obtain⟨k,A,rfl,rfl⟩:=hrel;have q:=DM.aft_nonneg k x f;have z:=DM.aft_le k x f;generalize l:DM.aft k x=y at *;have b:=ae l;clear l
  by_cases B:(k:Int)<n
  ·by_cases d:0<y
   ·have D:=DM.stp_lt y d;have E:=DM.stp_nonneg y q;have g:DM.aft (k+1) x=DM.stp y:=by rw[DM.aft_succ',b.out,if_pos d]
    have o:=ae g;clear g;have s:=DM.stp_mul y
    go_wp2
    go_round
    case rel=>exact⟨k+1,by omega,by go_num,by rw[o.out,s]⟩
    case measure=>simp[intOf];omega
   ·have a:DM.aft n.toNat x=y:=by
     obtain⟨j,r⟩:∃j,n.toNat=k+j:=⟨n.toNat-k,by omega⟩
     rw[r,<- DM.aft_add,b.out,DM.aft_zero_of _ _ d]
    have c:=ae a;clear a
    go_wp2
    go_ret
    exact⟨fM (by rw[c.out]),rfl⟩
  ·have a:DM.aft n.toNat x=y:=by rw[show n.toNat=k from by omega,b.out]
   have c:=ae a;clear a
   go_wp2
   go_ret
   exact⟨fM (by rw[c.out]),rfl⟩
theorem ye(v n:Int)(w:World)(f:n <= 9223372036854775807):
 Calls aE 180 #[.int .i64 v,.int .i64 n] w fun e c=>e=.returned (.int .i64 (DM.aft n.toNat (DM.bnd v)+65536)) /\ w=c:=by
 have a:=DM.bnd_nonneg v;have h:=DM.bnd_le v;have a0:=DM.aft_nonneg n.toNat (DM.bnd v) a;have g:=DM.aft_le n.toNat (DM.bnd v) a;generalize b:DM.aft n.toNat (DM.bnd v)=x at *;have d:=ae b;clear b
 go_enter func180,ntmps180
 go_wp2_with fail;refine(ui _ _ _ f).mono ?_;rintro e c ⟨rfl,rfl⟩;rw[d.out];go_wp2_with fail
 go_ret
 exact⟨rfl,rfl⟩
section
attribute [local go_sem ↓] aV
attribute [local go_sem] opC upC told bG br bH bt bw bI bJ
def vS:Value -> Nat
 |.slice _ n _=>n
 |_=>0
def D3{α:Type}(pl:α -> RPl)(c:α -> α -> α)(enc:α -> List Value)(k:Nat)(g:TypeId)(w:World)(A B R:List α)(d e f:Value)(wr:World):Prop:=
 ∃(i j:Nat)(a:List α),i <= A.length /\ j <= B.length /\ Rows (fun b=>b<w.heap.size) wr k d (A.drop i).length ((A.drop i).flatMap enc) /\ Rows (fun b=>b<w.heap.size) wr k e (B.drop j).length ((B.drop j).flatMap enc) /\
  wr.ownsRow w.heap.size g k f a.length (a.flatMap enc) /\ a++cE pl c (A.drop i) (B.drop j)=R /\ a.length <= i+j /\ Below w.heap.size w wr
theorem vT(h:Rows G W i u j L):∃a c,u=.slice a j c /\ j <= c /\ c <= maxLen:=by
 obtain⟨a,c,rfl,b,d,-⟩:=h.shape;exact⟨a,c,rfl,b,d⟩
theorem mz{k n b d c:Nat}{X:List Value}{e:Option Addr}(h:Rows G W k (.slice (some ⟨b,d,none⟩) n c) n X)(B:1 <= n)(a:(if c=1 then some (⟨b,d,none⟩:Addr) else some ⟨b,d+k,none⟩)=e):
 Rows G W k (.slice e (n-1) (c-1)) (n-1) (X.drop k):=by
 obtain⟨u,x,j,y,A,C,o,h⟩:=h;simp at j;obtain⟨rfl,rfl⟩:=j
 obtain⟨q,rfl⟩:∃q,n=q+1:=⟨n-1,by omega⟩
 simp only[Nat.add_sub_cancel];have r:(q+1)*k=q*k+k:=Nat.succ_mul q k;refine⟨e,c-1,rfl,by omega,by omega,fun m=>?_,by rw[List.length_drop,o,r];omega,?_⟩
 ·rw[m] at a;split at a<;>cases a
 ·rcases Nat.eq_zero_or_pos q with f|f
  ·exact .inl f
  ·right;rcases h with h|⟨v,D,L,t,l,g,hF,p,z,s⟩
   ·omega
   ·simp at g;obtain⟨rfl,rfl⟩:=g;rw[if_neg (by omega)] at a;refine⟨b,d+k,L,t,l,a.symm,hF,p,by omega,fun i hi=>?_⟩;have:=s (k+i) (by omega);rw[Nat.add_assoc,this,List.getElem?_drop]
theorem gX{α:Type}(a:α -> List Value)(k:Nat)(b:∀x,(a x).length=k)(A:List α)(i:Nat)(h:i<A.length):((A.drop i).flatMap a).drop k=(A.drop (i+1)).flatMap a:=by
 rw[List.drop_eq_getElem_cons h,List.flatMap_cons,<- b A[i],List.drop_left]
theorem gr{α:Type}(a:α -> List Value)(b:List α)(x:α):(b++[x]).flatMap a=b.flatMap a++a x:=by simp
def iH(w:World)(b o:Nat)(L:List Value):Prop:=∀j (h:j<L.length),w.cell? ⟨b,o+j,none⟩=some L[j]
theorem iH.keep{w w':World}(h:iH w i o L)(a:w'.heap[i]?=w.heap[i]?):iH w' i o L:=fun j c=>by
 have:=h j c;unfold World.cell? at *;rw[a];exact this
theorem uj{α:Type}{c:α -> List Value}{k n g:Nat}{a:Option Addr}{l:List α}(h:Rows G W k (.slice a n g) l.length (l.flatMap c))(m:0<l.length)(f:∀x,(c x).length=k):
 ∃b d,a=some ⟨b,d,none⟩ /\ G b /\ b<W.heap.size /\ ∀i (hi:i<l.length),iH W b (d+i*k) (c l[i]):=by
 obtain⟨b,d,rfl,hF,o,p⟩:=h.cells m;refine⟨b,d,rfl,hF,o,fun i hi j e=>?_⟩;rw[Nat.add_assoc];exact p _ _ (by rw[fZ c k f l i j hi (by rw[<- f l[i]];exact e),List.getElem?_eq_getElem e])
theorem ke{C:World -> Prop}{x:RIt}(h:∀a,C a -> iH a i j (bU x)):
 (∀a,C a -> a.cell? ⟨i,j,none⟩=some (.string ⟨x.key.toArray⟩)) /\ (∀a,C a -> a.cell? ⟨i,j+1,none⟩=some (.int .i64 x.dev)) /\ (∀a,C a -> a.cell? ⟨i,j+2,none⟩=some (.int .i64 x.seq)) /\ ∀a,C a -> a.cell? ⟨i,j+3,none⟩=some (.int .i64 x.val):=
 ⟨fun a c=>h a c 0 (Nat.le_of_ble_eq_true rfl),fun a c=>h a c 1 (Nat.le_of_ble_eq_true rfl),fun a c=>h a c 2 (Nat.le_of_ble_eq_true rfl),fun a c=>h a c 3 (Nat.le_of_ble_eq_true rfl)⟩
theorem kh{C:World -> Prop}{x:RGo}(h:∀a,C a -> iH a i j (dC x)):
 (∀a,C a -> a.cell? ⟨i,j,none⟩=some (.string ⟨x.key.toArray⟩)) /\ (∀a,C a -> a.cell? ⟨i,j+1,none⟩=some (.int .i64 x.dev)) /\ (∀a,C a -> a.cell? ⟨i,j+2,none⟩=some (.int .i64 x.seq)) /\ True:=
 ⟨fun a c=>h a c 0 (Nat.le_of_ble_eq_true rfl),fun a c=>h a c 1 (Nat.le_of_ble_eq_true rfl),fun a c=>h a c 2 (Nat.le_of_ble_eq_true rfl),trivial⟩
theorem l4{x:RIt}(h:iH W i j (bU x)):
 W.cell? ⟨i,j,none⟩=some (.string ⟨x.key.toArray⟩) /\ W.cell? ⟨i,j+1,none⟩=some (.int .i64 x.dev) /\ W.cell? ⟨i,j+2,none⟩=some (.int .i64 x.seq) /\ W.cell? ⟨i,j+3,none⟩=some (.int .i64 x.val):=
 ⟨h 0 (Nat.le_of_ble_eq_true rfl),h 1 (Nat.le_of_ble_eq_true rfl),h 2 (Nat.le_of_ble_eq_true rfl),h 3 (Nat.le_of_ble_eq_true rfl)⟩
theorem l5{x:RGo}(h:iH W i j (dC x)):
 W.cell? ⟨i,j,none⟩=some (.string ⟨x.key.toArray⟩) /\ W.cell? ⟨i,j+1,none⟩=some (.int .i64 x.dev) /\ W.cell? ⟨i,j+2,none⟩=some (.int .i64 x.seq) /\ True:=
 ⟨h 0 (Nat.le_of_ble_eq_true rfl),h 1 (Nat.le_of_ble_eq_true rfl),h 2 (Nat.le_of_ble_eq_true rfl),trivial⟩
theorem qm{d k K r:Nat}{z:Value}(A:(aE.info? d).map (fun i=>(i.zero,i.size,i.bytes))=some (some z,K,r))(I:aE.underlying k=some (.slice d))(J:z.cells.size=K)(E:0<K)(C:r <= 40)(w:World){a:Option Addr}{c:Nat}(h:w.ownsRow j d K (.slice a o c) o L)(f:Array Value)(D:f.size=K)(x:∀u∈f.toList,u.oneCell'=true)(t:o <= 4000000)(y:j <= w.heap.size):
 ∃l p s m,l=w.alloc (.cells f d) /\ (AP #[k,k] k #[.slice a o c,.slice (some ⟨w.heap.size,0,none⟩) 1 1]).run aE l=.ok (.slice p (o+1) s) m /\ m.ownsRow j d K (.slice p (o+1) s) (o+1) (L++f.toList) /\ bL (fun b=>j <= b) w l /\ bL (fun b=>j <= b) l m:=by
 obtain⟨T,M,N,O,Q⟩:=info_parts A;obtain⟨U,V,H,v,g⟩:=cu (P:=aE) w j k d I M N O Q J E (.slice a o c) o _ h f D x (by unfold maxLen;omega) (by have:=Nat.mul_le_mul (show o+1 <= 4000001 by omega) C;omega) y;obtain⟨R,S,rfl⟩:=aK v;have F:=bm h (aI w (.cells f d));exact⟨_,_,_,_,rfl,H,v,bL.of_below (aI _ _),⟨g.os,g.tape,g.output,g.size,fun q G t=>g.block q G (fun e=>t (F.lt q e.symm).1)⟩⟩
def DN(e f:Nat):Prop:=∀(w:World){B n:Nat}{a:Option Addr}{c:Nat}{L:List Value},w.ownsRow B e 4 (.slice a n c) n L -> ∀x:RIt,n <= 4000000 -> B <= w.heap.size ->
 ∃d h i g,d=w.alloc (.cells #[.string ⟨x.key.toArray⟩,.int .i64 x.dev,.int .i64 x.seq,.int .i64 x.val] e) /\ (AP #[f,f] f #[.slice a n c,.slice (some ⟨w.heap.size,0,none⟩) 1 1]).run aE d=.ok (.slice h (n+1) i) g /\ g.ownsRow B e 4 (.slice h (n+1) i) (n+1) (L++bU x) /\ bL (fun b=>B <= b) w d /\ bL (fun b=>B <= b) d g
def DO(e f:Nat):Prop:=∀(w:World){B n:Nat}{a:Option Addr}{c:Nat}{L:List Value},w.ownsRow B e 3 (.slice a n c) n L -> ∀x:RGo,n <= 4000000 -> B <= w.heap.size ->
 ∃d h i g,d=w.alloc (.cells #[.string ⟨x.key.toArray⟩,.int .i64 x.dev,.int .i64 x.seq] e) /\ (AP #[f,f] f #[.slice a n c,.slice (some ⟨w.heap.size,0,none⟩) 1 1]).run aE d=.ok (.slice h (n+1) i) g /\ g.ownsRow B e 3 (.slice h (n+1) i) (n+1) (L++dC x) /\ bL (fun b=>B <= b) w d /\ bL (fun b=>B <= b) d g
theorem yf:DN 108 34:=fun w _ _ _ _ _ h x=>qm mt underlying34 rfl (by decide) (by decide) w h _ rfl (by simp[Value.oneCell'])
theorem yg:DO 111 35:=fun w _ _ _ _ _ h x=>qm mu underlying35 rfl (by decide) (by decide) w h _ rfl (by simp[Value.oneCell'])
theorem uk:DN 129 72:=fun w _ _ _ _ _ h x=>qm ms underlying72 rfl (by decide) (by decide) w h _ rfl (by simp[Value.oneCell'])
theorem ul:DO 130 73:=fun w _ _ _ _ _ h x=>qm qk underlying73 rfl (by decide) (by decide) w h _ rfl (by simp[Value.oneCell'])
theorem qW(o:Obj):(w.alloc o).drew=w.drew.alloc o:=rfl
def EC{α:Type}(pl:α -> RPl)(enc:α -> List Value)(V:α -> Value)(K g k l:Nat):Prop:=
 ∀(w:World)(F G:aX)(h i:Value)(A B:List α)(c:Nat)(f:Array Value)(d:α -> α -> α),(∀a b,(callFunc c a).run aE b=.ok (.enter c a) b) -> Rows F w K h A.length (A.flatMap enc) -> Rows G w K i B.length (B.flatMap enc) -> A.length <= 1000000 -> B.length <= 1000000 ->
  (∀x∈A,∀y∈B,pl x=pl y -> ∀W,Below w.heap.size w W -> Calls aE c (#[V x,V y]++f) W fun e b=>e=.returned (V (d x y)) /\ Below W.heap.size W b) ->
  ∀(R:List α)(j:Value -> Value -> Value -> World -> Prop),cE pl d A B=R -> j=D3 pl d enc K g w A B R ->
  Calls aE k #[h,i,.func (.func l) #[] #[],.func (.func c) #[] f] w fun e b=>
   ∃r,e=.returned r /\ b.ownsRow w.heap.size g K r R.length (R.flatMap enc) /\ Below w.heap.size w b
theorem um:EC RIt.pl bU itV 4 108 103 104 /\ EC RGo.pl dC goV 3 111 111 112:=by
 constructor<;>intro w F G va vb A B fb lb ay bY ha n bZ b0 bv R bt hR bc
 all_goals
  replace ha:=ha.mono (G:=fun b=>b<w.heap.size) fun b _ d=>d
  replace n:=n.mono (G:=fun b=>b<w.heap.size) fun b _ d=>d
  have HS:=ae (show bt va vb (.slice none 0 0) w by rw[bc];exact⟨0,0,[],by omega,by omega,by simpa using ha,by simpa using n,World.ownsRow_nil _ _ _ _,by simpa using hR,by simp,Below.refl _ _⟩);have bD:=ae bv;have az:=ae bc;obtain⟨aa,ca,rfl,-⟩:=ha.shape;obtain⟨ab,cb,rfl,-⟩:=n.shape;clear ha n hR bv bc
  first|go_enter func103,ntmps103|go_enter func111,ntmps111
  go_wp2_with fail
  go_loopw [0,1,9] (fun s0 s1 s9 wr=>bt s0 s1 s9 wr) (fun s0 s1 _ _=>vS s0+vS s1)
  case atStart=>exact HS.out
  case round=>
   rw[az.out] at hrel;obtain⟨i,j,aW,hi,hj,v,C,bn,hR,bM,bw⟩:=hrel;obtain⟨a0,c0,rfl,bG,bI⟩:=vT v;obtain⟨a1,c1,rfl,bH,bJ⟩:=vT C;obtain⟨a9,c9,bP⟩:=aK bn;subst bP;obtain⟨O,aS⟩:=aH ((A.drop i).length);obtain⟨P,aU⟩:=aH ((B.drop j).length);obtain⟨np,bl⟩:=aH aW.length;have HA:=ae v;have HB:=ae C;have HO:=ae bn;have HR:=ae hR;have ad:=ae bw;rw[aS] at bG⊢;rw[aU] at bH⊢;rw[bl] at bM⊢;have S:=ae aS;have T:=ae aU;have s:=ae bl;have bA:O=A.length-i:=by rw[<- aS];simp
   have bB:P=B.length-j:=by rw[<- aU];simp
   have ar:=ae bA;have av:=ae bB;clear v C bn hR aS aU bl bw HS bA bB;unfold maxLen at bI bJ
   by_cases aL:0<O /\ 0<P
   ·obtain⟨h0,f⟩:=aL;have bQ:(0:Int)<(O:Int):=by omega
    have bT:(0:Int)<(P:Int):=by omega
    have bR:(1:Int) <= (O:Int):=by omega
    have bV:(1:Int) <= (P:Int):=by omega
    have U:i<A.length:=by have:=ar.out;omega
    have V:j<B.length:=by have:=av.out;omega
    have v:=HA.out;have C:=HB.out;obtain⟨t,Y,rfl,bW,bj,bx⟩:=uj v (by rw[S.out];exact h0) (fun _=>rfl);obtain⟨u,Z,rfl,bX,bk,bz⟩:=uj C (by rw[T.out];exact f) (fun _=>rfl);obtain⟨x,hx⟩:=aH A[i];obtain⟨y,hy⟩:=aH B[j];have L:=bx 0 (by rw[S.out];exact h0);have M:=bz 0 (by rw[T.out];exact f);rw[show(A.drop i)[0]'(by rw[S.out];exact h0)=x by rw[List.getElem_drop];simpa using hx,Nat.zero_mul,Nat.add_zero] at L;rw[show(B.drop j)[0]'(by rw[T.out];exact f)=y by rw[List.getElem_drop];simpa using hy,Nat.zero_mul,Nat.add_zero] at M;have aI:=ae (fun a (hh:aT (fun b=>w.heap.size <= b) wr a)=>And.intro (L.keep (hh.block t bj (by omega))) (M.keep (hh.block u bk (by omega))))
    first|obtain⟨p0,p1,p2,p3⟩:=ke fun a (hh:aJ wr.drew a)=>L.keep (RowKit.Below.block hh t bj)|obtain⟨p0,p1,p2,p3⟩:=kh fun a (hh:aJ wr.drew a)=>L.keep (RowKit.Below.block hh t bj)
    first|obtain⟨q0,q1,q2,q3⟩:=ke fun a (hh:aJ wr.drew a)=>M.keep (RowKit.Below.block hh u bk)|obtain⟨q0,q1,q2,q3⟩:=kh fun a (hh:aJ wr.drew a)=>M.keep (RowKit.Below.block hh u bk)
    have a3:=ae (fun W=>by first|exact gV W x|exact gW W x);have a4:=ae (fun W=>by first|exact gV W y|exact gW W y);simp only[itV,goV] at a3 a4;have HC:=ae (fun W=>jY W x.pl y.pl);have Hx:=ae hx;have Hy:=ae hy;clear bx bz hx hy L M v C;go_wp2_with fail;refine bS aJ (up 4 [5,6,7,8,504,509,510,11]) (by kernel_rfl) ?_;apply aG;rfl;intro a D;go_simp;(repeat (simp(disch:=omega) only[af,if_pos];go_simp));exact aF;refine bq rfl rfl (fun k c=>?_);go_simp;refine(a3.out _).mono ?_;rintro e w1 ⟨rfl,bd⟩;refine⟨_,rfl,bd,c _ _ ?_⟩;clear c k a3 p0 p1 p2 p3 q0 q1 q2 q3;go_simp;have br:=ae (show aJ wr w1 from(Below.refl _ _).drew.trans bd);clear bd;apply aG;rfl;intro a D;go_simp;(repeat (simp(disch:=omega) only[af,if_pos];go_simp));exact aF;refine bq rfl rfl (fun k c=>?_);go_simp;refine(a4.out _).mono ?_;rintro e w2 ⟨rfl,be⟩;refine⟨_,rfl,be,c _ _ ?_⟩;clear c k a4;go_simp;have bs:=ae (bC _ _ _ br.out be);clear be br;apply aG;rfl;intro a D;go_simp;(repeat (simp(disch:=omega) only[af,if_pos];go_simp));exact aF;refine bq rfl rfl (fun k c=>?_);go_simp;refine(HC.out _).mono ?_;rintro e g ⟨rfl,bf⟩;refine⟨_,rfl,bf,c _ _ ?_⟩;clear c k HC;go_simp;have ai:aJ wr g:=bC _ _ _ bs.out bf;have bu:Below w.heap.size w g:=ad.out.trans (RowKit.Below.mono ai ad.out.size);obtain⟨L,M⟩:=aI.out g (aT.of_below ai)
    first|obtain⟨e0,e1,e2,e3⟩:=l4 L|obtain⟨e0,e1,e2,e3⟩:=l5 L
    first|obtain⟨g0,g1,g2,g3⟩:=l4 M|obtain⟨g0,g1,g2,g3⟩:=l5 M
    have a2:=ae (bm HO.out ai);have aX:=ae (HA.out.keep (w':=g) fun b n d=>RowKit.Below.block ai b d);have aZ:=ae (HB.out.keep (w':=g) fun b n d=>RowKit.Below.block ai b d);have a7:=ae ai;have r:=ae bu;clear bf bs bu ai L M
    by_cases d:plt x.pl y.pl
    ·have X:g9 x.pl y.pl = -1:=by unfold g9;rw[if_pos d]
     rw[X];have ao:=ae (vh ay A B i j U V (by rw[Hx.out,Hy.out];exact d));clear X d;apply aG;rfl;intro a D;go_simp;(repeat (simp(disch:=omega) only[af,if_pos];go_simp));exact aF;refine aY ?_;have J:=ae (fun a (hh:bL (fun b=>w.heap.size <= b) g.drew a)=>aI.out a ((aT.of_below (F:=fun b=>w.heap.size <= b) a7.out).drew.trans hh (fun i h=>.inl h)));have K:=bm a2.out (Below.refl _ _).drew;rw[s.out] at K
     first|obtain⟨wz,a5,c5,l,ak,N,p,H,I⟩:=yf g.drew K x (by omega) r.out.size|obtain⟨wz,a5,c5,l,ak,N,p,H,I⟩:=yg g.drew K x (by omega) r.out.size
     have E:aT (fun b=>w.heap.size <= b) g l:=(aT.of_below (F:=fun b=>w.heap.size <= b) ((Below.refl _ _).drew)).trans (aT.trans H I (fun i h=>.inl h)) (fun i h=>.inl h);have an:=ae (r.out.trans (E.below (fun i h=>h) r.out.size));rw[show g.drew.heap=g.heap from rfl] at N;have ax:=ae p;have Q:=ae E
     first|obtain⟨r0,r1,r2,r3⟩:=ke fun a hh=>(J.out a hh).1|obtain⟨r0,r1,r2,r3⟩:=kh fun a hh=>(J.out a hh).1
     have a8:=ae ak;clear p E ak K;go_wp2_with fail;refine bS (bL (fun b=>w.heap.size <= b)) (up 4 [6,7,504,505,8,9]) (by kernel_rfl) ?_;apply aG;rfl;intro a D;go_simp;(repeat (simp(disch:=omega) only[af,if_pos];go_simp));exact aF
     first|(have m:=aH (if c0=1 then some (⟨t,Y,none⟩:Addr) else some ⟨t,Y+4,none⟩);obtain⟨aN,m⟩:=m;rw[m])|(have m:=aH (if c0=1 then some (⟨t,Y,none⟩:Addr) else some ⟨t,Y+3,none⟩);obtain⟨aN,m⟩:=m;rw[m])
     refine bq rfl rfl (fun k c=>?_);go_simp;rw[qW,<- a8.out]
     first|refine⟨H,c _ _ ?_⟩|refine c _ _ ?_
     clear c k;go_simp;refine bq rfl rfl (fun k c=>?_);go_simp
     first|refine⟨I,c _ _ ?_⟩|refine c _ _ ?_
     clear c k r0 r1 r2 r3;go_simp;apply aG;rfl;intro a D;go_simp;(repeat (simp(disch:=omega) only[af,if_pos];go_simp));exact aF;refine aY ?_;go_wp2_with fail
     go_roundw
     case measure=>simp[vS];omega
     case rel=>
      rw[az.out];refine⟨i+1,j,aW++[x],by omega,hj,?_,?_,?_,?_,?_,an.out⟩
      ·have f:=aX.out.keep (w':=l) fun b n d=>Q.out.block b d (by omega)
       rw[S.out] at f;have q:=mz f (by omega) m
       first|rw[gX bU 4 cX A i U] at q|rw[gX dC 3 iE A i U] at q
       have h3:(A.drop (i+1)).length=O-1:=by have:=ar.out;simp;omega
       rw[h3];exact q
      ·have f:=aZ.out.keep (w':=l) fun b n d=>Q.out.block b d (by omega)
       rw[T.out] at f⊢;exact f
      ·rw[gr,aA,s.out];exact ax.out
      ·rw[<- HR.out,ao.out,Hx.out];simp
      ·rw[aA,s.out];simp;omega
    ·by_cases al:plt y.pl x.pl
     ·have X:g9 x.pl y.pl=1:=by unfold g9;rw[if_neg d,if_pos al]
      rw[X];have ao:=ae (vi ay A B i j U V (by rw[Hx.out,Hy.out];exact al));clear X d al;apply aG;rfl;intro a D;go_simp;(repeat (simp(disch:=omega) only[af,if_pos];go_simp));exact aF;refine aY ?_;go_wp2_with fail;have J:=ae (fun a (hh:bL (fun b=>w.heap.size <= b) g.drew a)=>aI.out a ((aT.of_below (F:=fun b=>w.heap.size <= b) a7.out).drew.trans hh (fun i h=>.inl h)));have K:=bm a2.out (Below.refl _ _).drew;rw[s.out] at K
      first|obtain⟨wz,a5,c5,l,ak,N,p,H,I⟩:=yf g.drew K y (by omega) r.out.size|obtain⟨wz,a5,c5,l,ak,N,p,H,I⟩:=yg g.drew K y (by omega) r.out.size
      have E:aT (fun b=>w.heap.size <= b) g l:=(aT.of_below (F:=fun b=>w.heap.size <= b) ((Below.refl _ _).drew)).trans (aT.trans H I (fun i h=>.inl h)) (fun i h=>.inl h);have an:=ae (r.out.trans (E.below (fun i h=>h) r.out.size));rw[show g.drew.heap=g.heap from rfl] at N;have ax:=ae p;have Q:=ae E
      first|obtain⟨r0,r1,r2,r3⟩:=ke fun a hh=>(J.out a hh).2|obtain⟨r0,r1,r2,r3⟩:=kh fun a hh=>(J.out a hh).2
      have a8:=ae ak;clear p E ak K;go_wp2_with fail;refine bS (bL (fun b=>w.heap.size <= b)) (up 4 [6,7,504,505,8,9]) (by kernel_rfl) ?_;apply aG;rfl;intro a D;go_simp;(repeat (simp(disch:=omega) only[af,if_pos];go_simp));exact aF
      first|(have o:=aH (if c1=1 then some (⟨u,Z,none⟩:Addr) else some ⟨u,Z+4,none⟩);obtain⟨bN,o⟩:=o;rw[o])|(have o:=aH (if c1=1 then some (⟨u,Z,none⟩:Addr) else some ⟨u,Z+3,none⟩);obtain⟨bN,o⟩:=o;rw[o])
      refine bq rfl rfl (fun k c=>?_);go_simp;rw[qW,<- a8.out]
      first|refine⟨H,c _ _ ?_⟩|refine c _ _ ?_
      clear c k;go_simp;refine bq rfl rfl (fun k c=>?_);go_simp
      first|refine⟨I,c _ _ ?_⟩|refine c _ _ ?_
      clear c k r0 r1 r2 r3;go_simp;apply aG;rfl;intro a D;go_simp;(repeat (simp(disch:=omega) only[af,if_pos];go_simp));exact aF;refine aY ?_;go_wp2_with fail
      go_roundw
      case measure=>simp[vS];omega
      case rel=>
       rw[az.out];refine⟨i,j+1,aW++[y],hi,by omega,?_,?_,?_,?_,?_,an.out⟩
       ·have f:=aX.out.keep (w':=l) fun b n d=>Q.out.block b d (by omega)
        rw[S.out] at f⊢;exact f
       ·have f:=aZ.out.keep (w':=l) fun b n d=>Q.out.block b d (by omega)
        rw[T.out] at f;have q:=mz f (by omega) o
        first|rw[gX bU 4 cX B j V] at q|rw[gX dC 3 iE B j V] at q
        have h3:(B.drop (j+1)).length=P-1:=by have:=av.out;simp;omega
        rw[h3];exact q
       ·rw[gr,aA,s.out];exact ax.out
       ·rw[<- HR.out,ao.out,Hy.out];simp
       ·rw[aA,s.out];simp;omega
     ·have bo:=me d al;have X:g9 x.pl y.pl=0:=by unfold g9;rw[if_neg d,if_neg al]
      rw[X];have aR:=vj ay A B i j U V (by rw[Hx.out,Hy.out];exact bo);rw[Hx.out,Hy.out] at aR;have aO:=bD.out x (by rw[<- Hx.out];exact aC U) y (by rw[<- Hy.out];exact aC V) bo g.drew r.out.drew;obtain⟨z,hz⟩:=aH (ay x y);rw[hz] at aO aR;simp only[itV,goV] at aO;have bp:=ae aO;have ao:=ae aR;have J:=ae (fun a (hh:bL (fun b=>w.heap.size <= b) g.drew a)=>aI.out a ((aT.of_below (F:=fun b=>w.heap.size <= b) a7.out).drew.trans hh (fun i h=>.inl h)))
      first|obtain⟨r0,r1,r2,r3⟩:=ke fun a hh=>(J.out a hh).1|obtain⟨r0,r1,r2,r3⟩:=kh fun a hh=>(J.out a hh).1
      first|obtain⟨u0,u1,u2,u3⟩:=ke fun a hh=>(J.out a hh).2|obtain⟨u0,u1,u2,u3⟩:=kh fun a hh=>(J.out a hh).2
      clear X d aR al aO bo;apply aG;rfl;intro a D;go_simp;(repeat (simp(disch:=omega) only[af,if_pos];go_simp));exact aF;refine aY ?_;go_wp2_with fail;refine bS (bL (fun b=>w.heap.size <= b)) (up 8 [11,12,13,14,508,509,510,15,16,17]) (by kernel_rfl) ?_;apply aG;rfl;intro a D;go_simp;(repeat (simp(disch:=omega) only[af,if_pos];go_simp));exact aF
      first|(have m:=aH (if c0=1 then some (⟨t,Y,none⟩:Addr) else some ⟨t,Y+4,none⟩);obtain⟨aN,m⟩:=m;rw[m])|(have m:=aH (if c0=1 then some (⟨t,Y,none⟩:Addr) else some ⟨t,Y+3,none⟩);obtain⟨aN,m⟩:=m;rw[m])
      first|(have o:=aH (if c1=1 then some (⟨u,Z,none⟩:Addr) else some ⟨u,Z+4,none⟩);obtain⟨bN,o⟩:=o;rw[o])|(have o:=aH (if c1=1 then some (⟨u,Z,none⟩:Addr) else some ⟨u,Z+3,none⟩);obtain⟨bN,o⟩:=o;rw[o])
      refine bq rfl rfl (fun k c=>?_);go_simp;refine bp.out.mono ?_;rintro e w4 ⟨rfl,bg⟩;refine⟨_,rfl,bL.of_below bg,c _ _ ?_⟩;clear c k bp r0 r1 r2 r3 u0 u1 u2 u3;go_simp;have aQ:aJ g w4:=(Below.refl _ _).drew.trans bg;have bh:Below w.heap.size w w4:=r.out.trans (RowKit.Below.mono aQ r.out.size);have aM:=bm a2.out aQ;rw[s.out] at aM
      first|obtain⟨wz,a5,c5,l,rfl,N,p,H,I⟩:=yf w4 aM z (by omega) bh.size|obtain⟨wz,a5,c5,l,rfl,N,p,H,I⟩:=yg w4 aM z (by omega) bh.size
      have E:aT (fun b=>w.heap.size <= b) g l:=(aT.of_below (F:=fun b=>w.heap.size <= b) aQ).trans (aT.trans H I (fun i h=>.inl h)) (fun i h=>.inl h);have an:=ae (r.out.trans (E.below (fun i h=>h) r.out.size));have ax:=ae p;have Q:=ae E;clear p E aM bg aQ bh;refine bq rfl rfl (fun k c=>?_);go_simp
      first|refine⟨H,c _ _ ?_⟩|refine c _ _ ?_
      clear c k;go_simp;refine bq rfl rfl (fun k c=>?_);go_simp
      first|refine⟨I,c _ _ ?_⟩|refine c _ _ ?_
      clear c k;go_simp;apply aG;rfl;intro a D;go_simp;(repeat (simp(disch:=omega) only[af,if_pos];go_simp));exact aF;refine aY ?_;go_wp2_with fail
      go_roundw
      case measure=>simp[vS];omega
      case rel=>
       rw[az.out];refine⟨i+1,j+1,aW++[z],by omega,by omega,?_,?_,?_,?_,?_,an.out⟩
       ·have f:=aX.out.keep (w':=l) fun b n d=>Q.out.block b d (by omega)
        rw[S.out] at f;have q:=mz f (by omega) m
        first|rw[gX bU 4 cX A i U] at q|rw[gX dC 3 iE A i U] at q
        have h3:(A.drop (i+1)).length=O-1:=by have:=ar.out;simp;omega
        rw[h3];exact q
       ·have f:=aZ.out.keep (w':=l) fun b n d=>Q.out.block b d (by omega)
        rw[T.out] at f;have q:=mz f (by omega) o
        first|rw[gX bU 4 cX B j V] at q|rw[gX dC 3 iE B j V] at q
        have h3:(B.drop (j+1)).length=P-1:=by have:=av.out;simp;omega
        rw[h3];exact q
       ·rw[gr,aA,s.out];exact ax.out
       ·rw[<- HR.out,ao.out];simp
       ·rw[aA,s.out];simp;omega
   ·have aP:=HR.out;rw[zQ ay A B i j (by have:=ar.out;have:=av.out;omega)] at aP
    by_cases h0:0<O
    all_goals
     try have f:¬0<P:=fun h=>aL ⟨h0,h⟩
     have hO:=HO.out;rw[s.out] at hO;have v:=HA.out;rw[S.out] at v;have C:=HB.out;rw[T.out] at C;have Hi:=ae hi;have Hj:=ae hj;have Hh:=ae aL;have bK:O <= 1000000 /\ P <= 1000000:=by have:=ar.out;have:=av.out;omega
     first|obtain⟨a5,c5,l,N,p,ag⟩:=lY mt underlying34 rfl (by decide) (by decide) hO v (mj _) (by omega) ad.out.size|obtain⟨a5,c5,l,N,p,ag⟩:=lY mu underlying35 rfl (by decide) (by decide) hO v (ml _) (by omega) ad.out.size
     first|obtain⟨a6,c6,w6,bO,aV,bi⟩:=lY mt underlying34 rfl (by decide) (by decide) p (C.keep (w':=l) fun b n _=>ag.block b n) (mj _) (by omega) (au ad.out.size ag.size)|obtain⟨a6,c6,w6,bO,aV,bi⟩:=lY mu underlying35 rfl (by decide) (by decide) p (C.keep (w':=l) fun b n _=>ag.block b n) (ml _) (by omega) (au ad.out.size ag.size)
     have bE:=ae (ad.out.trans (ag.trans bi));rw[aB,<- List.flatMap_append,<- List.flatMap_append,aP] at aV;have HL:=ae (show R.length=np+O+P by rw[<- aP,aA,aA,s.out,S.out,T.out];omega);have bF:=ae aV;clear ag bi p aV C v hO aP hi hj aL bK;go_wp2_with fail
     go_ret
     exact⟨_,rfl,by rw[HL.out];exact bF.out,bE.out⟩
/- Which of two elements is kept: later, deeper, Use's. -/
end
section
attribute [local go_sem ↓] aV
attribute [local go_sem] opC upC told bG br bH bt bw bI bJ
theorem aS{x y z:Value}(h:Blk W i [x,y,z] t):W.cell? ⟨i,0,none⟩=some x /\ W.cell? ⟨i,1,none⟩=some y /\ W.cell? ⟨i,2,none⟩=some z:=by
 have a:=h.cell 0;have c:=h.cell 1;have d:=h.cell 2;simp at a c d;exact⟨a,c,d⟩
theorem dX{x y z u:Value}(h:Blk W i [x,y,z,u] t):W.cell? ⟨i,0,none⟩=some x /\ W.cell? ⟨i,1,none⟩=some y /\ W.cell? ⟨i,2,none⟩=some z /\ W.cell? ⟨i,3,none⟩=some u:=by
 have a:=h.cell 0;have c:=h.cell 1;have d:=h.cell 2;have e:=h.cell 3;simp at a c d e;exact⟨a,c,d,e⟩
theorem BE{x y z u:Value}(k:Blk w' j [x,y,z,u] t)(h:Below i W w')(a:i <= j)(c d e f:Value):
 ∃g,g=(((w'.setCell ⟨j,0,none⟩ c).setCell ⟨j,1,none⟩ d).setCell ⟨j,2,none⟩ e).setCell ⟨j,3,none⟩ f /\ Blk g j [c,d,e,f] t /\ Below i W g:=
 ⟨_,rfl,(((k.set 0 c).set 1 d).set 2 e).set 3 f,(((h.setCell (p:=⟨j,0,none⟩) a _).setCell (p:=⟨j,1,none⟩) a _).setCell (p:=⟨j,2,none⟩) a _).setCell (p:=⟨j,3,none⟩) a _⟩
theorem qX(x y:RGo):
 Calls aE 113 #[goV x,goV y] w fun e o=>e=.returned (goV (dL x y)) /\ Below w.heap.size w o:=by
 obtain⟨a,h⟩:=aQ ((w.alloc (.cells #[.string ⟨x.key.toArray⟩,.int .i64 x.dev,.int .i64 x.seq] 111)).alloc (.cells #[.string ⟨y.key.toArray⟩,.int .i64 y.dev,.int .i64 y.seq] 111));have l:Below w.heap.size w a:=by rw[h];exact(aI _ _).alloc (by simp) _
 have n:a.heap.size=w.heap.size+2:=by rw[h];simp
 have g:=ae l;have k:=ae n;have j:=ae h;clear l n h;unfold goV
 go_enter func113,ntmps113
 by_cases m:x.seq<y.seq
 ·have b:dL x y=y:=by unfold dL;rw[if_pos m]
  rw[b];clear b;go_wp2_with fail;rw[<- j.out];have i:=aI a (.cells #[.string ⟨y.key.toArray⟩,.int .i64 y.dev,.int .i64 y.seq] 111);obtain⟨c,d,f⟩:=aS (Blk.new a #[.string ⟨y.key.toArray⟩,.int .i64 y.dev,.int .i64 y.seq] 111);rw[k.out] at c d f;refine bodyPost_ret (v:=.agg #[.string ⟨y.key.toArray⟩,.int .i64 y.dev,.int .i64 y.seq]) (by simp[results,results113,go_sem,c,d,f]) rfl ⟨rfl,g.out.trans (i.mono g.out.size)⟩
 ·have b:dL x y=x:=by unfold dL;rw[if_neg m]
  rw[b];clear b;go_wp2_with fail;rw[<- j.out];have i:=aI a (.cells #[.string ⟨x.key.toArray⟩,.int .i64 x.dev,.int .i64 x.seq] 111);obtain⟨c,d,f⟩:=aS (Blk.new a #[.string ⟨x.key.toArray⟩,.int .i64 x.dev,.int .i64 x.seq] 111);rw[k.out] at c d f;refine bodyPost_ret (v:=.agg #[.string ⟨x.key.toArray⟩,.int .i64 x.dev,.int .i64 x.seq]) (by simp[results,results113,go_sem,c,d,f]) rfl ⟨rfl,g.out.trans (i.mono g.out.size)⟩
theorem BF(c:Int)(P:w.cell? ⟨n,0,none⟩=some (.int .i64 c))(a x:RIt)(O:0 <= c /\ c <= 2199023255552)(R:0 <= a.seq /\ a.seq <= 2199023255552):
 Calls aE 105 #[itV a,itV x,.pointer (some ⟨n,0,none⟩)] w fun e W=>e=.returned (itV (gR c a x)) /\ Below w.heap.size w W:=by
 obtain⟨r,i⟩:=aQ (w.alloc (.cells #[.string ⟨a.key.toArray⟩,.int .i64 a.dev,.int .i64 a.seq,.int .i64 a.val] 108));obtain⟨s,g⟩:=aQ (r.alloc (.cells #[.string ⟨x.key.toArray⟩,.int .i64 x.dev,.int .i64 x.seq,.int .i64 x.val] 108));obtain⟨f,d⟩:=aQ (s.alloc (.cells #[.string ⟨#[]⟩,.int .i64 0,.int .i64 0,.int .i64 0] 108));have o:r.heap.size=w.heap.size+1:=by rw[i];simp
 have p:s.heap.size=w.heap.size+2:=by rw[g];simp[o]
 have I:f.heap.size=w.heap.size+3:=by rw[d];simp[p]
 have D:Below w.heap.size w f:=by
  rw[d,g,i];exact((aI _ _).alloc (by simp) _).alloc (by simp;omega) _
 have C:Blk f (w.heap.size+1) [.string ⟨x.key.toArray⟩,.int .i64 x.dev,.int .i64 x.seq,.int .i64 x.val] 108:=by
  have:=Blk.new r #[.string ⟨x.key.toArray⟩,.int .i64 x.dev,.int .i64 x.seq,.int .i64 x.val] 108;rw[d,g,<- o];exact this.alloc _
 have B:Blk f (w.heap.size+2) [.string ⟨#[]⟩,.int .i64 0,.int .i64 0,.int .i64 0] 108:=by
  have:=Blk.new s #[.string ⟨#[]⟩,.int .i64 0,.int .i64 0,.int .i64 0] 108;rw[d,<- p];exact this
 have ad:n<w.heap.size:=il P;have ag:n<w.heap.size+1:=by omega
 have ai:n<w.heap.size+1+1:=by omega
 have k:=De a.val (c-a.seq) f (by omega);obtain⟨u,l⟩:=aH (DM.aft (c-a.seq).toNat (DM.bnd a.val)+65536);rw[l] at k;have H:gR c a x=⟨x.key,x.dev,x.seq,u⟩:=by unfold gR j5;rw[l]
 rw[H];have y:=ae k;have z:=ae C;have t:=ae B;have A:=ae D;have Y:=ae I;have M:=ae (show f=((w.alloc (.cells #[.string ⟨a.key.toArray⟩,.int .i64 a.dev,.int .i64 a.seq,.int .i64 a.val] 108)).alloc (.cells #[.string ⟨x.key.toArray⟩,.int .i64 x.dev,.int .i64 x.seq,.int .i64 x.val] 108)).alloc (.cells #[.string ⟨#[]⟩,.int .i64 0,.int .i64 0,.int .i64 0] 108) by rw[d,g,i]);obtain⟨aa,ab⟩:=O;obtain⟨ak,al⟩:=R;clear k C B D l H I o p i g d;unfold itV
 go_enter func105,ntmps105
 go_wp2_with fail;rw[<- M.out];refine y.out.mono ?_;rintro e X ⟨rfl,h⟩;have q:=z.out.keep (h.block _ z.out.lt);have b:=t.out.keep (h.block _ t.out.lt);obtain⟨x0,x1,x2,x3⟩:=dX q;obtain⟨y0,y1,y2,y3⟩:=dX b;have Z:=q.free 3;have z0:=b.free 0;have z1:=b.free 1;have z2:=b.free 2;have z3:=b.free 3;obtain⟨K,j⟩:=aQ (X.setCell ⟨w.heap.size+1,3,none⟩ (.int .i64 u));have E:Below w.heap.size w K:=by rw[j];exact(A.out.trans (h.mono A.out.size)).setCell (Nat.le_succ _) _
 have J:Blk K (w.heap.size+2) [.string ⟨#[]⟩,.int .i64 0,.int .i64 0,.int .i64 0] 108:=by
  rw[j];exact b.set_other _ (by show w.heap.size+2≠w.heap.size+1;omega)
 obtain⟨wf,m,G,F⟩:=BE J E (by omega) (.string ⟨x.key.toArray⟩) (.int .i64 x.dev) (.int .i64 x.seq) (.int .i64 u);rw[j] at m;have Q:=ae (dX G);have L:=ae F;have N:=ae m;clear y h q b J G E j F m;go_wp2_with fail;rw[<- N.out];obtain⟨S,T,U,V⟩:=Q.out;exact bodyPost_ret (v:=.agg #[.string ⟨x.key.toArray⟩,.int .i64 x.dev,.int .i64 x.seq,.int .i64 u]) (by simp[results,results105,go_sem,S,T,U,V]) rfl ⟨rfl,L.out⟩
/- Use. -/
end
section
open Go.Sort
attribute [local go_sem ↓] aV
def BG(w:World)(a:aU×Int)(e:Ending)(b:World):Prop:=
 (∃r,e=.returned (.tuple #[r,.int .i64 a.2]) /\ pc b w.heap.size r a.1 /\ Bnd a.1) /\ Below w.heap.size w b
theorem gK:pc w n eG .empty:=⟨_,_,_,rfl,World.ownsRow_nil _ _ _ _,World.ownsRow_nil _ _ _ _,World.ownsRow_nil _ _ _ _⟩
theorem eT:Bnd .empty:=⟨nofun,nofun,nofun⟩
theorem f7{n:Int}(h:-4611686018427387904 <= n /\ n <= 4611686018427387904):eX n:=by unfold eX;omega
theorem fD(f:ew r):Bnd r:=by
 have j:=jq f;refine⟨fun n l=>?_,fun x a=>?_,fun x a=>?_⟩
 ·have:=f.seen n l;exact f7 (by omega)
 ·obtain⟨e,b,k,g⟩:=eQ (f.iknown x a);have h:=dU (dT (f.iknown x a));have o:=f.val x a;have i:=j x.pl.2.toNat;rw[f.len] at b;have c:x.pl.2=x.dev:=rfl;have d:x.pl.1=x.key:=rfl;rw[c] at e b g i;rw[d] at h;exact⟨by omega,f7 (by omega),f7 (by omega),f7 (by omega)⟩
 ·obtain⟨e,b,k,g⟩:=eQ (f.gknown x a);have h:=dU (dT (f.gknown x a));have i:=j x.pl.2.toNat;rw[f.len] at b;have c:x.pl.2=x.dev:=rfl;have d:x.pl.1=x.key:=rfl;rw[c] at e b g i;rw[d] at h;exact⟨by omega,f7 (by omega),f7 (by omega)⟩
theorem yh(f:ew r){d:Int}(b:0 <= d)(c:d<8):∀n∈cK r d,0 <= n /\ n <= 1099511627777:=by
 intro n e;obtain⟨i,hi,rfl⟩:=List.mem_iff_getElem.1 e;have a:=A9 r d (Ba f b c) i;rw[List.getD_eq_getElem?_getD,List.getElem?_eq_getElem hi] at a;have g:=jq f i;simp only[Option.getD_some] at a;rw[a];split<;>omega
theorem zu(f:ew r){d:Int}(c:tV d y):Bnd (gz r d y) /\ (∀x∈(gz r d y).items,x.key.length <= 400) /\ ∀x∈(gz r d y).gone,x.key.length <= 400:=by
 have b:=fD f;have h:=jq f d.toNat;have s:1 <= iC r d /\ iC r d <= 1099511627777:=by unfold iC;omega
 have p:∀x∈r.items,x.key.length <= 400:=fun x a=>dU (dT (f.iknown x a))
 have o:∀x∈r.gone,x.key.length <= 400:=fun x a=>dU (dT (f.gknown x a))
 have e:∀x∈(gz r d y).items,(x.key.length <= 400) /\ eX x.dev /\ eX x.seq /\ eX x.val:=fun x a=>by
  rcases CW f.items c.nodup a with⟨k,j,rfl⟩|a
  ·have g:=Prod.mk.inj (li r d k);have i:=vn r d k;have q:=vo f c.lo c.hi k;have t:=c.lo;have u:=c.hi;refine⟨by rw[g.1];exact dU (c.keys k j),by rw[g.2];exact f7 (by omega),by rw[i];exact f7 (by omega),f7 (by omega)⟩
  ·exact⟨p x a,(b.itemsB x a).2⟩
 exact⟨⟨fun n h=>by have:=yh f c.lo c.hi n h;exact f7 (by omega),fun x a=>⟨by have:=(e x a).1;omega,(e x a).2⟩,b.goneB⟩,fun x a=>(e x a).1,o⟩
def un(f:Nat)(b:aU -> Int -> List bR -> aU×Int):Prop:=
 ∀(w:World)(e:eJ w)(c:4 <= w.heap.size)(F:aX)(v:Value)(m:aU)(h:dl F w v m)(j:∀x∈m.items,x.key.length <= 1000000)(i:∀x∈m.gone,x.key.length <= 1000000)
  (o:m.items.length <= 1000000) (p:m.gone.length <= 1000000) (d:Int) (G:aX) (a:Value) (l:List bR) (q:Rows G w 1 a l.length (l.map eS)) (n:l.length <= 1000000) (g:∀k∈l,k.length <= 4611686018427387903),
  Calls aE f #[v,.int .i64 d,a] w (BG w (b m d l))
theorem vU:un 57 fK:=by
 intro w hT h3 F v m h aF az bi bO d G lv l aG D hk
 replace h:=h.mono (G:=fun b=>b<w.heap.size) fun b _ ai=>ai
 replace aG:=aG.mono (G:=fun b=>b<w.heap.size) fun b _ ai=>ai
 replace h:=j8 h 37
 obtain⟨a1,p1,a2,p2,a3,p3,t,O,z,wx,rfl,h,l1,l2,l3,a7,aM,bE,cf,bC,bG,Hx,b5,c0,u,N⟩:=h
 try rw[a7.out]
 try rw[aM.out]
 try rw[bE.out]
 clear h;obtain⟨R,aX⟩:=aH l.length;obtain⟨al,cl,rfl,-⟩:=aG.shape;have bD:=ae aG;rw[aX];have a8:=ae aX;obtain⟨j,ar⟩:=aQ (wx.alloc (.cells #[.slice none 0 0,.slice none 0 0,.slice none 0 0] 37));have aT:Below w.heap.size w j:=by rw[ar];exact bC.out.alloc bC.out.size _
 have aZ:j.heap.size=w.heap.size+2:=by rw[ar];simp[bG.out]
 have k2:Blk j (w.heap.size+1) [.slice none 0 0,.slice none 0 0,.slice none 0 0] 37:=by
  have:=Blk.new wx #[.slice none 0 0,.slice none 0 0,.slice none 0 0] 37;rw[ar,<- bG.out];exact this
 have L:=ae (show ∀W,Below j.heap.size j W -> Below w.heap.size w W /\ Blk W (w.heap.size+1) [.slice none 0 0,.slice none 0 0,.slice none 0 0] 37 from fun W D=>⟨aT.trans (D.mono (by omega)),k2.keep (D.block _ k2.lt)⟩)
 have HE:=ae (show Calls aE 102 #[.agg #[.slice a1 t p1,.slice a2 O p2,.slice a3 z p3],.int .i64 d,.slice al R cl] j (BC j m d l) by
  have:=tf j (cd hT h3 aT) (by omega) _ (.agg #[.slice a1 t p1,.slice a2 O p2,.slice a3 z p3]) m ⟨_,_,_,rfl,Hx.out.keep (w':=j) fun b _ ai=>by rw[ar];exact Below.heap_alloc _ _ _ ai⟩ aF az bi bO d _ (.slice al l.length cl) l (bD.out.keep (w':=j) fun b _ ai=>aT.block b ai) D hk;rw[a8.out] at this
  exact this)
 have HT:=ae (show ∀W,Below j.heap.size j W -> eJ W /\ 4 <= W.heap.size from fun W D=>⟨cd hT h3 (L.out W D).1,au h3 (L.out W D).1.size⟩);have cb:=ae ar;have cg:=ae aZ;rw[aX] at D;rw[aM.out] at bi;clear ar aT aZ k2 Hx b5 hT aF az c0 u N aG aX hk bD bO
 go_enter func57,ntmps57
 go_wp2_with fail;rw[<- cf.out,<- cb.out];refine HE.out.mono ?_;rintro e a ⟨(⟨E,rfl⟩|⟨E,ak,rfl⟩|⟨E,ak,r,s,rfl,⟨s1,s2,s3,rfl,ho⟩,aa⟩),C⟩
 ·have M:=ae (show fK m d l=(.empty,5) by unfold fK;rw[E];rfl);have c:=(L.out a C).2.alloc (.cells #[.slice none 0 0,.slice none 0 0,.slice none 0 0] 37);have an:=(L.out a C).1.alloc (L.out a C).1.size (.cells #[.slice none 0 0,.slice none 0 0,.slice none 0 0] 37);have a5:=ae C;clear HE E C;unfold eG;obtain⟨wf,H,K,J⟩:=dJ c an (Nat.le_succ _) (.slice none 0 0) (.slice none 0 0) (.slice none 0 0);obtain⟨y0,y1,y2⟩:=aS c;have z0:=c.free 0;have z1:=c.free 1;have z2:=c.free 2;have Q:=ae (aS K);have ab:=ae J;have ag:=ae H;clear H K J;go_wp2_with fail;rw[<- ag.out];obtain⟨q0,q1,q2⟩:=Q.out;exact bodyPost_ret (v:=.tuple #[eG,.int .i64 5]) (by simp[results,results57,go_sem,q0,q1,q2,eG]) rfl ⟨⟨_,by rw[M.out],by rw[M.out];exact gK _ _,by rw[M.out];exact eT⟩,ab.out⟩
 ·have M:=ae (show fK m d l=(.empty,1) by unfold fK;rw[E,ak];rfl);have c:=(L.out a C).2.alloc (.cells #[.slice none 0 0,.slice none 0 0,.slice none 0 0] 37);have an:=(L.out a C).1.alloc (L.out a C).1.size (.cells #[.slice none 0 0,.slice none 0 0,.slice none 0 0] 37);have a5:=ae C;clear HE E C ak;unfold eG;obtain⟨wf,H,K,J⟩:=dJ c an (Nat.le_succ _) (.slice none 0 0) (.slice none 0 0) (.slice none 0 0);obtain⟨y0,y1,y2⟩:=aS c;have z0:=c.free 0;have z1:=c.free 1;have z2:=c.free 2;have Q:=ae (aS K);have ab:=ae J;have ag:=ae H;clear H K J;go_wp2_with fail;rw[<- ag.out];obtain⟨q0,q1,q2⟩:=Q.out;exact bodyPost_ret (v:=.tuple #[eG,.int .i64 1]) (by simp[results,results57,go_sem,q0,q1,q2,eG]) rfl ⟨⟨_,by rw[M.out],by rw[M.out];exact gK _ _,by rw[M.out];exact eT⟩,ab.out⟩
 ·have Z:=(eW d l).1 ak;have f:=cq E;have aW:(cK m d).length=t:=(o4 m d).trans a7.out;have bQ:=f.len;rw[a7.out] at bQ;have bT:(dw l).length=R:=by rw[(ej l).length_eq];exact a8.out
  have aO:=ae bT;obtain⟨b1,u,bt⟩:=aK ho.seen;obtain⟨X,N,bu⟩:=aK ho.items;obtain⟨A,B,bv⟩:=aK ho.gone;rw[a8.out] at aa;obtain⟨bs,cs,rfl⟩:=aK aa;dsimp only at bt bu bv;rw[aW] at bt;rw[aM.out] at bu;rw[bE.out] at bv;subst bt bu bv
  have cn:∃g,b1=some ⟨g,0,none⟩:=by
   rcases ho.seen.2 with⟨_,h0⟩|⟨g,cj,ck,hv,_⟩
   ·dsimp only at h0;omega
   ·simp at hv;exact⟨g,hv.1⟩
  obtain⟨g,rfl⟩:=cn;obtain⟨q,rfl⟩:=Int.eq_ofNat_of_zero_le Z.lo;have ct:=Z.hi;have cv:q<t:=by omega
  obtain⟨n,bk⟩:=aH (iC m q);have hq:q<(cK m q).length:=by rw[aW];exact cv
  have bw:(cK m q)[q]=n:=by
   have h1:=A9 m (q:Int) (Ba f Z.lo Z.hi) q;rw[Int.toNat_natCast,if_pos rfl,List.getD_eq_getElem?_getD,List.getElem?_eq_getElem hq] at h1;rw[<- bk];unfold iC;rw[Int.toNat_natCast];simpa using h1
  have bR:0 <= n /\ n <= 1099511627777:=by
   have:=yh f Z.lo Z.hi n (by rw[<- bw];exact aC hq);exact this
  obtain⟨w4,av⟩:=aQ (a.alloc (.cells #[.slice (some ⟨g,0,none⟩) t u,.slice X O N,.slice A z B] 37));have bx:w4.heap.size=a.heap.size+1:=by rw[av];simp
  have be:Below a.heap.size a w4:=by rw[av];exact aI _ _
  have bI:Blk w4 a.heap.size [.slice (some ⟨g,0,none⟩) t u,.slice X O N,.slice A z B] 37:=by rw[av];exact Blk.new _ _ _
  have bS:=ho.below be;have aY:=bS.seen;dsimp only at aY;rw[aW] at aY
  have e0:w4.cell? ⟨g,q,none⟩=some (.int .i64 n):=by
   rw[aY.cellAt q (by omega)];simp[hq,bw]
  have co:g<a.heap.size:=by
   rcases ho.seen.2 with⟨hh,_⟩|⟨g',cj,ck,hv,hb,hg,_⟩
   ·simp at hh
   ·simp at hv;obtain⟨rfl,-⟩:=hv;exact lt_of_block hg
  have cm:a.cell? ⟨g,q,none⟩=some (.int .i64 n):=by
   rw[<- e0,av];unfold World.cell?;rw[show(a.alloc (.cells #[.slice (some ⟨g,0,none⟩) t u,.slice X O N,.slice A z B] 37)).heap[g]?=a.heap[g]? from Below.heap_alloc _ _ _ co]
  have cy:g<a.heap.size+1:=by omega
  have cz:(q:Int)<(t:Int):=by omega
  obtain⟨o,ax⟩:=aQ (w4.alloc (.cells #[.int .i64 n] 3));have a0:o.heap.size=a.heap.size+2:=by rw[ax];simp[bx]
  have bL:Below a.heap.size a o:=by rw[ax];exact be.alloc (by omega) _
  have a5:=ae C;have bW:j.heap.size <= a.heap.size:=C.size
  have a4:=ae (show ∀W,Below o.heap.size o W -> Below j.heap.size j W /\ Blk W a.heap.size [.slice (some ⟨g,0,none⟩) t u,.slice X O N,.slice A z B] 37 /\ W.cell? ⟨a.heap.size+1,0,none⟩=some (.int .i64 n) /\ dW W j.heap.size (.slice (some ⟨g,0,none⟩) t u) (.slice X O N) (.slice A z B) ⟨cK m q,m.items,m.gone⟩ /\ W.ownsRow j.heap.size 9 1 (.slice bs R cs) R ((dw l).map eS) from fun W D=>by
   have k5:Blk o a.heap.size [.slice (some ⟨g,0,none⟩) t u,.slice X O N,.slice A z B] 37:=by rw[ax];exact bI.alloc _
   have kn:Blk o (a.heap.size+1) [.int .i64 n] 3:=by
    have:=Blk.new w4 #[.int .i64 n] 3;rw[ax,<- bx];exact this
   have Y:Below a.heap.size a W:=bL.trans (D.mono (by omega));refine⟨a5.out.trans (Y.mono bW),k5.keep (D.block _ k5.lt),?_,ho.below Y,bm aa Y⟩;have:=(kn.keep (D.block _ kn.lt)).cell 0
   simpa using this)
  have H0:=ae (show Below o.heap.size o o from Below.refl _ _);have cc:=ae (show o=(a.alloc (.cells #[.slice (some ⟨g,0,none⟩) t u,.slice X O N,.slice A z B] 37)).alloc (.cells #[.int .i64 n] 3) by rw[ax,av]);have Ha:=ae Z;have Hf:=ae f;have b9:=ae E;have bX:=ae ak;have bF:=ae bR;have b0:=ae bk;have ci:=ae a0;have ch:=ae bW;clear HE E C ak Z f aW bQ aa ho bw bR av be bI bS aY e0 ax bL bx a0 bT bk hq ct;go_wp2_with fail;rw[<- cc.out];clear cm
  go_loopw [33,11] (fun i s wr=>∃k:Nat,k <= R /\ i=.int .i64 (k:Int) /\ Below o.heap.size o wr /\ wr.ownsRow o.heap.size 108 4 s k ((((dw l).take k).map (j6 q n)).flatMap bU)) (fun i _ _=>R-(intOf i).toNat)
  case atStart=>exact⟨0,by omega,rfl,H0.out,World.ownsRow_nil _ _ _ _⟩
  case round=>
   obtain⟨k,hk,rfl,bh,bq⟩:=hrel;obtain⟨a9,ba,rfl⟩:=aK bq;have V:=ae bh;have aN:=ae bq;obtain⟨-,I,bj,-,aa⟩:=a4.out wr bh;clear bh bq
   by_cases cr:k<R
   ·have cp:(k:Int)<(R:Int):=by omega
    have aV:k<(dw l).length:=by rw[aO.out];exact cr
    have bV:=Rows.of_owns aa;obtain⟨bb,ob,rfl,-,-,hc⟩:=gF (l:=dw l) (by rw[aO.out];exact bV) (by rw[aO.out];omega);have e1:=hc k aV;obtain⟨x,U⟩:=aH ((dw l)[k]);rw[U] at e1;obtain⟨i0,t1,t2,t3,t4⟩:=info_parts mt;obtain⟨v6,w6,cA,br,bM⟩:=cu (P:=aE) wr o.heap.size 34 108 underlying34 t1 t2 t3 t4 rfl (by decide) (.slice a9 k ba) k _ aN.out #[.string ⟨x.toArray⟩,.int .i64 q,.int .i64 n,.int .i64 65536] rfl (by simp[Value.oneCell']) (by unfold maxLen;omega) (by omega) V.out.size;obtain⟨S,T,rfl⟩:=aK br
    have ay:Below o.heap.size wr w6:=(((Below.refl o.heap.size wr).alloc V.out.size _).trans (Below.grownOwn (bm aN.out (aI _ _)) bM (by simp;have:=V.out.size;omega) (aq _)))
    have bY:=ae (V.out.trans ay)
    have ca:=ae (show w6.ownsRow o.heap.size 108 4 (.slice S (k+1) T) (k+1) ((((dw l).take (k+1)).map (j6 q n)).flatMap bU) by
     rw[List.take_succ_eq_append_getElem aV,List.map_append,List.flatMap_append,U]
     exact br)
    clear br bM ay t1 t2 t3 t4 hc U bV aa I;go_wp2_with fail
    go_roundw
    case rel=>exact⟨k+1,by omega,by go_num,bY.out,ca.out⟩
    case measure=>simp[intOf];omega
   ·have cp:¬(k:Int)<(R:Int):=by omega
    obtain⟨o0,o1,o2⟩:=aS I;have aU:k=(dw l).length:=by rw[aO.out];omega
    have aV:k=R:=by omega
    subst aV
    have bK:wr.ownsRow o.heap.size 108 4 (.slice a9 k ba) ((dw l).map (j6 q n)).length (((dw l).map (j6 q n)).flatMap bU):=by
     have h1:=aN.out;rw[List.length_map,<- aU];rw[show(dw l).take k=dw l by rw[aU,List.take_length]] at h1;exact h1
    have bN:(gz m q l).items=cE RIt.pl (gR n) m.items ((dw l).map (j6 q n)):=by
     show cE RIt.pl (gR (iC m q)) m.items ((dw l).map (j6 q (iC m q)))=_;rw[b0.out]
    obtain⟨Y,-,-,ao,-⟩:=a4.out wr V.out
    have aR:=um.1 wr _ _ (.slice X O N) (.slice a9 k ba) m.items ((dw l).map (j6 q n)) 105 #[.pointer (some ⟨a.heap.size+1,0,none⟩)] (gR n) (fun _ _=>by go_simp) (Rows.of_owns ao.items) (Rows.of_owns bK) (by rw[aM.out];exact bi) (by rw[List.length_map,<- aU];exact D) (fun x U y hy _ W hW=>BF W _ n ((hW.cell (p:=⟨a.heap.size+1,0,none⟩) (il bj)).trans bj) x y ⟨bF.out.1,by have:=bF.out.2;omega⟩ (by
     have h1:=(eQ (Hf.out.iknown x U)).2.2;have h2:=(jq Hf.out x.pl.2.toNat).2
     omega)) _ _ rfl rfl
    rw[<- bN] at aR;obtain⟨nr,bl⟩:=aH ((gz m q l).items.length);rw[bl] at aR;have bB:=ae aR;have b4:=ae bl;clear aR bN bl bK aa ao Y I aN aU;go_wp2_with fail;refine bB.out.mono ?_;rintro e w6 ⟨r6,rfl,bn,ay⟩;obtain⟨S,T,rfl⟩:=aK bn;have bH:Below o.heap.size o w6:=V.out.trans (ay.mono V.out.size);obtain⟨Y,I,-,ao,-⟩:=a4.out w6 bH;obtain⟨o0,o1,o2⟩:=aS I;have cx:=I.free 1;obtain⟨w7,aJ⟩:=aQ (w6.setCell ⟨a.heap.size,1,none⟩ (.slice S nr T));have bJ:Blk w7 a.heap.size [.slice (some ⟨g,0,none⟩) t u,.slice S nr T,.slice A z B] 37:=by rw[aJ];exact I.set 1 _
    have aP:Below j.heap.size j w7:=by rw[aJ];exact Y.setCell (by show j.heap.size <= a.heap.size;exact ch.out) _
    have cw:=V.out.size;have a0:=ci.out;have aZ:=cg.out
    have bo:dW w7 w.heap.size (.slice (some ⟨g,0,none⟩) t u) (.slice S nr T) (.slice A z B) (gz m q l):=by
     rw[aJ];refine⟨bP (aL ao.seen I (by decide) _) (by omega),?_,bP (aL ao.gone I (by decide) _) (by omega)⟩;rw[b4.out];exact bP (aL bn I (by decide) _) (by omega)
    obtain⟨bg,aF,az⟩:=zu Hf.out Ha.out;have bd:=lZ w7 (HT.out w7 aP).1 (HT.out w7 aP).2 _ (.agg #[.slice (some ⟨g,0,none⟩) t u,.slice S nr T,.slice A z B]) (gz m q l) ⟨_,_,_,rfl,bo.map bg⟩ (fun x U=>by have:=aF x U;omega) (fun x U=>by have:=az x U;omega);obtain⟨ok,E⟩:=aH (bp (gz m q l));rw[E] at bd
    have hu:fK m q l=if ok=true then(gz m q l,0) else(.empty,7):=by
     unfold fK fU;rw[b9.out,bX.out,E];cases ok<;>rfl
    have bA:=ae bd;have b6:=ae bo;have bz:=ae aP;have M:=ae hu;have bZ:=ae bg;have ce:=ae aJ;obtain⟨cB,cC,cD⟩:=aS bJ;clear bB bn ay bH Y I ao aJ bJ aP cw a0 aZ bo bg aF az bd E hu bj;go_wp2_with fail;rw[<- ce.out];refine bA.out.mono ?_;rintro e w8 ⟨rfl,bf⟩;have bc:Below j.heap.size j w8:=bz.out.trans (bf.mono bz.out.size);have c:=(L.out w8 bc).2;have an:=(L.out w8 bc).1;have b7:=ae (b6.out.below bf);clear bA bf bc;cases ok with
    |false=>
     have ad:=ae (show fK m q l=(.empty,7) from M.out.trans (if_neg Bool.false_ne_true));obtain⟨wf,H,K,J⟩:=dJ c an (Nat.le_succ _) (.slice none 0 0) (.slice none 0 0) (.slice none 0 0);obtain⟨y0,y1,y2⟩:=aS c;have z0:=c.free 0;have z1:=c.free 1;have z2:=c.free 2;have Q:=ae (aS K);have ab:=ae J;have ag:=ae H;clear H K J;go_wp2_with fail;rw[<- ag.out];obtain⟨q0,q1,q2⟩:=Q.out;exact bodyPost_ret (v:=.tuple #[eG,.int .i64 7]) (by simp[results,results57,go_sem,q0,q1,q2,eG]) rfl ⟨⟨_,by rw[ad.out],by rw[ad.out];exact gK _ _,by rw[ad.out];exact eT⟩,ab.out⟩
    |true=>
     have ad:=ae (show fK m q l=(gz m q l,0) from M.out.trans (if_pos rfl));obtain⟨wf,H,K,J⟩:=dJ c an (Nat.le_succ _) (.slice (some ⟨g,0,none⟩) t u) (.slice S nr T) (.slice A z B);obtain⟨y0,y1,y2⟩:=aS c;have z0:=c.free 0;have z1:=c.free 1;have z2:=c.free 2;have Q:=ae (aS K)
     have b8:=ae (show dW wf w.heap.size (.slice (some ⟨g,0,none⟩) t u) (.slice S nr T) (.slice A z B) (gz m q l) by
      rw[H]
      exact((b7.out.setCell c _).setCell (c.set 0 _) _).setCell ((c.set 0 _).set 1 _) _)
     have ab:=ae J;have ag:=ae H;clear H K J;go_wp2_with fail;rw[<- ag.out];obtain⟨q0,q1,q2⟩:=Q.out;exact bodyPost_ret (v:=.tuple #[.agg #[.slice (some ⟨g,0,none⟩) t u,.slice S nr T,.slice A z B],.int .i64 0]) (by simp[results,results57,go_sem,q0,q1,q2]) rfl ⟨⟨_,by rw[ad.out],by rw[ad.out];exact⟨_,_,_,rfl,b8.out⟩,by rw[ad.out];exact bZ.out⟩,ab.out⟩
end
end Go.Proofs.YtobjdpngnfbicaaGreatDoor
