/-
  UCat REncP RHas J10
-/
import Derived.Test.YtobjdpngnfbicaaGreatDoorZK04
import Derived.Test.YtobjdpngnfbicaaGreatDoorZK23
import Derived.Test.YtobjdpngnfbicaaGreatDoorZK08
import Derived.Lib.AppendZerosOnto
import Derived.Test.YtobjdpngnfbicaaGreatDoorZK15
import Derived.Test.YtobjdpngnfbicaaGreatDoorZK07
open Go.Lib renaming hid->ae
open Go.IntWalk renaming i64_in->af
open Nat renaming le_refl->aq,le_trans->au
open List renaming length_append->ax,append_assoc->az,getElem_mem->aA,length_cons->aB
open Go.Proofs.Tryz renaming prog->aC
namespace Go.Proofs.YtobjdpngnfbicaaGreatDoor
open Go.RowKit
set_option linter.unusedVariables false
set_option maxRecDepth 20000
section
attribute [local go_sem ↓] bq
attribute [local go_sem] opC upC
theorem mt (w:World) (n:Nat) (hn:n <= 1000000000000):
 Calls aC 193 #[.slice none 0 0,.int .i64 (n:Int)] w fun e w'=>(∃ v,e=.returned v /\ w'.ownsRow w.heap.size 5 1 v 0 []) /\ Below w.heap.size w w':=by
 have hnn:¬ (n:Int) < 0:=by omega
 have hw:IntKind.i64.wrap (n:Int)=n:=af _ (by omega)
 by_cases h0:n=0
 ·subst h0
  go_enter Tryz.func193,Tryz.ntmps193
  go_wp2_with fail
  go_ret
  exact⟨⟨_,rfl,World.ownsRow_nil _ _ _ _⟩,Below.refl _ _⟩
 ·obtain⟨i0,hi,hz0,hz1,hz2⟩:=info_parts ig;have hr:=Lib.run_append_grow_zeros (P:=aC) w 41 3 41 5 i0 _ .i64 .i64 Tryz.underlying41 Tryz.underlying3 hi hz0 none 0 0 [] (by rw[hz1];rfl) n (by omega) (by omega) (by omega) (by omega) (by rw[hz2];omega) (by rw[hz2];exact growslice_fits (by omega) (by omega));have hge:=grownCap_ge w (0+n) 0 5;have hle:=grownCap_le_maxLen w (0+n) 0 5 (by unfold maxLen;omega)
  obtain⟨cp,hcp⟩:∃ cp,grownCap w (0+n) 0 5=cp:=⟨_,rfl⟩
  rw[hcp] at hr hge hle
  obtain⟨w2,hw2⟩:∃ w2,w2=w.drew.alloc (.cells ((([]:List Value).toArray ++ Builtin.zeroCells (Value.int .u8 0).cells n ++ Builtin.zeroCells (Value.int .u8 0).cells (cp - (0+n)))) 5):=⟨_,rfl⟩
  rw[<- hw2] at hr;have hr':(AP #[41,3] 41 #[.slice none 0 0,.int .i64 (n:Int)]).run aC w=.ok (.slice (some ⟨w.heap.size,0,none⟩) (0+n) cp) w2:=hr;rw[Nat.zero_add] at hr' hge;have Ho:=ae (show w2.ownsRow w.heap.size 5 1 (.slice (some ⟨w.heap.size,0,none⟩) 0 cp) 0 [] from ⟨rfl,.inr ⟨w.heap.size,cp,_,rfl,aq _,by rw[hw2];exact heap_alloc_new w.drew _,Nat.zero_le _,hle,by simp[size_zeroCells,Value.cells];omega,by simp⟩⟩);have Hb:=ae (show Below w.heap.size w w2 by rw[hw2];exact⟨rfl,rfl,rfl,by simp,fun k hk=>Go.heap_alloc_old w.drew _ hk⟩);have hnI:(0:Int) < (n:Int):=by omega
  have hpos:0 < n:=by omega
  clear hr hw2 hcp hi hz0 hz1 hz2
  go_enter Tryz.func193,Tryz.ntmps193
  go_wp2_with fail
  go_ret
  exact⟨⟨_,rfl,Ho.out⟩,Hb.out⟩
theorem o6 {F:aV} {w:World} {v:Value} {l:List UInt8} (h:Bytes F w v l):Rows F w 1 v l.length (l.map B):=by
 obtain⟨a,cap,rfl,h1,h2,h3,h4⟩:=h;refine⟨a,cap,rfl,h1,h2,h3,by simp,?_⟩;rcases h4 with rfl | ⟨b,off,L,t,fz,rfl,hF,hg,hle,hr⟩
 ·exact .inl rfl
 ·refine .inr ⟨b,off,L,t,fz,rfl,hF,hg,by omega,fun i hi=>?_⟩;have hi':i < l.length:=by omega
  rw[hr i hi',List.getElem?_map,List.getElem?_eq_getElem hi'];rfl
theorem tL (l:List UInt8):∀ u ∈ l.map B,u.oneCell'=true:=fun u hu=>by
 obtain⟨c,_,rfl⟩:=List.mem_map.1 hu;simp[Value.oneCell',B]
def dP (S:List (List UInt8)):List UInt8:=S.flatten
theorem nN (k:UInt8) (l:List UInt8):dP [[k],l]=k :: l:=by unfold dP;simp
theorem iL {α:Type} (S:List (List α)) (k:Nat) (h:k < S.length):(S.take (k+1)).flatten=(S.take k).flatten ++ S[k]:=by
 rw[List.take_succ_eq_append_getElem h,List.flatten_append];simp
theorem gH {α:Type} (S:List (List α)) (k:Nat):(S.take k).flatten.length <= S.flatten.length:=by
 have h:(S.take k).flatten ++ (S.drop k).flatten=S.flatten:=by rw[<- List.flatten_append,List.take_append_drop]
 rw[<- h,ax];omega
set_option maxHeartbeats 2000000 in
theorem kt (w:World) (R:aV) (v:Value) (S:List (List UInt8)) (h:fH R w v S) (hl:(dP S).length <= 1000000000) (hn:S.length <= 1000000):
 Calls aC 138 #[v] w fun e w'=>(∃ r,e=.returned r /\ w'.ownsRow w.heap.size 5 1 r (dP S).length ((dP S).map B)) /\ Below w.heap.size w w':=by
 obtain⟨n,hnn⟩:∃ n,S.length=n:=⟨_,rfl⟩
 have Hn:=ae hnn;obtain⟨a,cap,rfl,hx⟩:=h
 have hx':∀ k,k < n -> ∃ g,a=some ⟨g,0,none⟩ /\ g < w.heap.size /\ ∃ ba ca,w.cell? ⟨g,k,none⟩=some (.slice ba (S.getD k []).length ca) /\ Bytes R w (.slice ba (S.getD k []).length ca) (S.getD k []):=fun k hk=>by
  rcases hx with h0 | ⟨g,ha,hg,hc⟩
  ·rw[h0] at hnn;simp at hnn;omega
  ·obtain⟨x,h1,h2⟩:=hc k (by omega);have e:S.getD k []=S[k]'(by omega):=by rw[List.getD_eq_getElem?_getD,List.getElem?_eq_getElem (by omega)];rfl
   obtain⟨ba,ca,rfl,-⟩:=id h2;exact⟨g,ha,hg,ba,ca,by rw[e];exact h1,by rw[e];exact h2⟩
 have HX:=ae hx';have Hl:=ae hl;rw[hnn] at hn ⊢;clear hx hx' hnn hl
 go_enter Tryz.func138,Tryz.ntmps138
 go_wp2_with fail
 go_loopw [3,11] (fun z i wr=>∃ k:Nat,k <= n /\ i=.int .i64 (k:Int) /\ z=.int .i64 (((dP (S.take k)).length:Nat):Int) /\ w=wr) (fun _ i _=>n - (intOf i).toNat)
 case atStart=>exact⟨0,by omega,rfl,rfl,rfl⟩
 case round=>
  obtain⟨k,hk,rfl,rfl,rfl⟩:=hrel
  by_cases hkn:k < n
  ·have hkI:(k:Int) < (n:Int):=by omega
   obtain⟨g,rfl,hg,ba,ca,c0,hB⟩:=HX.out k hkn
   obtain⟨m,hm⟩:∃ m,(S.getD k []).length=m:=⟨_,rfl⟩
   obtain⟨z,hz⟩:∃ z,(dP (S.take k)).length=z:=⟨_,rfl⟩
   have hs:(dP (S.take (k+1))).length=z+m:=by
    have hkl:k < S.length:=by rw[Hn.out];exact hkn
    rw[show dP (S.take (k+1))=dP (S.take k) ++ S[k] from iL S k hkl,ax,hz,<- hm,List.getD_eq_getElem?_getD,List.getElem?_eq_getElem hkl];rfl
   have hle:=(show (dP (S.take (k+1))).length <= (dP S).length from gH S (k+1))
   rw[hs] at hle;have hle':z+m <= 1000000000:=au hle Hl.out;have hw:IntKind.i64.wrap ((z:Int)+(m:Int))=(z:Int)+(m:Int):=af _ (by omega);have hnn:¬ (z:Int)+(m:Int) < 0:=by omega
   rw[hm] at c0;have Hs:=ae hs;clear hB hm hle hs;rw[hz];clear hz;go_wp2_with fail
   go_roundw
   case rel=>exact⟨k+1,by omega,by go_num,by rw[Hs.out];simp,by first | rfl | trivial⟩
   case measure=>simp[intOf];omega
  ·have hkI:¬ (k:Int) < (n:Int):=by omega
   have hke:(dP (S.take k))=(dP S):=by rw[List.take_of_length_le (by have:=Hn.out;omega)]
   rw[hke]
   obtain⟨z,hz⟩:∃ z,(dP S).length=z:=⟨_,rfl⟩
   have HG:=ae (mt w z (by have:=Hl.out;omega));have Hz:=ae hz;rw[hz];clear hke hz;go_wp2_with fail;refine HG.out.mono ?_;rintro e w1 ⟨⟨v1,rfl,ho1⟩,hb1⟩;have Ho1:=ae ho1;have Hb1:=ae hb1;clear HG ho1 hb1 hkI hk;go_wp2_with fail
   go_loopw [6,27] (fun r i wr=>∃ (k:Nat),k <= n /\ i=.int .i64 (k:Int) /\ wr.ownsRow w.heap.size 5 1 r (dP (S.take k)).length ((dP (S.take k)).map B) /\ Below w.heap.size w wr) (fun _ i _=>n - (intOf i).toNat)
   case atStart=>exact⟨0,by omega,rfl,Ho1.out,Hb1.out⟩
   case round=>
    rename World=>wr
    obtain⟨q,hq,rfl,ho,hb⟩:=hrel
    by_cases hqn:q < n
    ·have hqI:(q:Int) < (n:Int):=by omega
     obtain⟨g,rfl,hg,ba,ca,c0,hB⟩:=HX.out q hqn;have hql:q < S.length:=by rw[Hn.out];exact hqn
     have hs:dP (S.take (q+1))=dP (S.take q) ++ S[q]:=iL S q hql;have e:S.getD q []=S[q]:=by rw[List.getD_eq_getElem?_getD,List.getElem?_eq_getElem hql];rfl
     have hle:=(show (dP (S.take (q+1))).length <= (dP S).length from gH S (q+1))
     rw[hs,ax] at hle;rw[e] at c0 hB;obtain⟨i0,hi,hz0,hz1,hz2⟩:=info_parts ig;have hlt:=Hl.out;obtain⟨v2,w2,hr,ho2,hg2⟩:=bw (P:=aC) wr w.heap.size 41 5 Tryz.underlying41 hi hz0 hz1 hz2 rfl (by decide) _ _ _ ho R _ _ _ (o6 (hB.keep (w':=wr) fun b hb' hlt'=>hb.block b hlt')) (tL _) (by unfold maxLen;omega) (by omega) hb.size;have hb2:Below w.heap.size w w2:=hb.trans (Below.grownOwn ho hg2 hb.size (aq _));have c1:wr.cell? ⟨g,q,none⟩=some (.slice ba S[q].length ca):=(hb.cell (p:=⟨g,q,none⟩) hg).trans c0;have Ho2:=ae (show w2.ownsRow w.heap.size 5 1 v2 (dP (S.take (q+1))).length ((dP (S.take (q+1))).map B) by rw[hs,ax,List.map_append];exact ho2);have Hb2:=ae hb2
     obtain⟨m,hm⟩:∃ m,S[q].length=m:=⟨_,rfl⟩
     rw[hm] at hr c1
     obtain⟨z,hz⟩:∃ z,(dP (S.take q)).length=z:=⟨_,rfl⟩
     obtain⟨ar,cr,rfl⟩:=own_shape ho;rw[hz] at hr ⊢;clear ho ho2 hg2 hb2 hs hle hlt e c0 hB hi hz0 hz1 hz2 hb hm hz hql;go_wp2_with fail
     go_roundw
     case rel=>exact⟨q+1,by omega,by go_num,Ho2.out,Hb2.out⟩
     case measure=>simp[intOf];omega
    ·have hqI:¬ (q:Int) < (n:Int):=by omega
     have hqe:(dP (S.take q))=(dP S):=by rw[List.take_of_length_le (by have:=Hn.out;omega)]
     rw[hqe] at ho;have Ho:=ae ho;have Hb:=ae hb;obtain⟨ar,cr,rfl⟩:=own_shape ho;clear ho hb hqe;go_wp2_with fail
     go_ret
     exact⟨⟨_,rfl,Ho.out⟩,Hb.out⟩
theorem Bytes.insideU {F:aV} {w:World} {v:Value} {l:List UInt8} (h:Bytes F w v l):Bytes (fun q=>q < w.heap.size) w v l:=by
 obtain⟨a,cap,rfl,h1,h2,h3,h4⟩:=h;refine⟨a,cap,rfl,h1,h2,h3,?_⟩;rcases h4 with rfl | ⟨b,off,L,t,fz,rfl,hF,hg,hle,hr⟩
 ·exact .inl rfl
 ·exact .inr ⟨b,off,L,t,fz,rfl,lt_of_block hg,hg,hle,hr⟩
set_option maxHeartbeats 2000000 in
theorem gF (w:World) (R:aV) (k:UInt8) (v:Value) (S:List (List UInt8)) (h:fH R w v S) (hl:(dP S).length <= 100000000) (hn:S.length <= 1000):
 Calls aC 81 #[B k,v] w fun e w'=>(∃ r,e=.returned r /\ w'.ownsRow w.heap.size 5 1 r (k :: (dP S)).length ((k :: (dP S)).map B)) /\ Below w.heap.size w w':=by
 obtain⟨w1,hw1⟩:∃ w1,w1=w.alloc (.cells #[B k] 5):=⟨_,rfl⟩
 have hb1:Below w.heap.size w w1:=by rw[hw1];exact aE _ _
 have HC:=ae (kt w1 R v S (h.kept hb1) (by omega) (by omega))
 have hB1:Bytes (fun b=>w.heap.size <= b) w1 (.slice (some ⟨w.heap.size,0,none⟩) 1 1) [k]:=by
  refine⟨_,1,rfl,by simp,by unfold maxLen;omega,nofun,.inr ⟨w.heap.size,0,_,_,_,rfl,aq _,by rw[hw1];exact heap_alloc_new w _,by simp,fun i hi=>?_⟩⟩;have:i=0:=by simpa using hi
  subst this;simp
 have HB1:=ae hB1;have Hb1:=ae hb1;have Hw1:=ae hw1;have Hl:=ae hl;obtain⟨a,cap,rfl,-⟩:=h
 obtain⟨n,hnn⟩:∃ n,S.length=n:=⟨_,rfl⟩
 rw[hnn] at HC ⊢;clear hw1 hb1 hB1 hl hn hnn
 obtain⟨bk,hbk⟩:∃ bk,B k=bk:=⟨_,rfl⟩
 rw[hbk] at Hw1 ⊢;have Hbk:=ae hbk;have hbk':bk=.int .u8 (k.toNat:Int):=by rw[<- hbk];rfl
 subst hbk';clear hbk
 go_enter Tryz.func81,Tryz.ntmps81
 go_wp2_with fail;rw[<- Hw1.out];refine HC.out.mono ?_;rintro e w2 ⟨⟨r2,rfl,ho2⟩,hb2⟩;have h0:=(HB1.out.keep (w':=w2) fun b _ hlt=>hb2.block b hlt).insideU;have h2:Bytes (fun b=>w1.heap.size <= b /\ b < w2.heap.size) w2 r2 (dP S):=Bytes.of_owns ho2 _ fun b h1 h2=>⟨h1,h2⟩
 obtain⟨a2,c2,rfl⟩:=own_shape ho2;have hr:=ks h0 h2.insideU (fun b hb=>hb)
 obtain⟨w3,hw3⟩:∃ w3,w3=w2.alloc (.cells #[.slice (some ⟨w.heap.size,0,none⟩) 1 1,.slice a2 (dP S).length c2] 41):=⟨_,rfl⟩
 have hb3:Below w.heap.size w w3:=by rw[hw3];exact(Hb1.out.trans (hb2.mono Hb1.out.size)).alloc (au Hb1.out.size hb2.size) _
 rw[<- hw3] at hr;have hC:=kt w3 _ _ _ hr (by rw[nN];have:=Hl.out;rw[aB];omega) (by simp);rw[nN] at hC;have HC2:=ae hC;have Hb3:=ae hb3;have Hw3:=ae hw3;clear HC hC hr hw3 hb3 h0 h2 ho2 hb2;go_wp2_with fail;rw[<- Hw3.out];refine HC2.out.mono ?_;rintro e w4 ⟨⟨r4,rfl,ho4⟩,hb4⟩;have Ho4:=ae (own_base ho4 Hb3.out.size);have Hb4:=ae (Hb3.out.trans (hb4.mono Hb3.out.size));clear HC2 ho4 hb4;go_wp2_with fail
 go_ret
 exact⟨⟨_,rfl,Ho4.out⟩,Hb4.out⟩
set_option maxHeartbeats 2000000 in
theorem jw (w:World) (F:aV) (v:Value) (l:List RKey) (h:Rows F w 1 v l.length (l.map Go.Proofs.encStr)) (hl:l.length <= 1000000) (hk:∀ k ∈ l,k.length <= 100000):
 Calls aC 118 #[.slice none 0 0,v] w fun e w'=>(∃ r,e=.returned r /\ w'.ownsRow w.heap.size 5 1 r (dI l).length ((dI l).map B)) /\ Below w.heap.size w w':=by
 have HP:=ae (putUint_any w none_ (.slice none 0 0) [] (jv none_ w none) l.length (by omega) (by simp));have hw:IntKind.u64.wrap (l.length:Int)=(l.length:Int):=IntWalk.u64_in _ (by omega)
 replace h:=h.mono (G:=fun b=>b < w.heap.size) fun b _ hlt=>hlt
 have H:=ae h;obtain⟨a,cap,rfl,-⟩:=h
 obtain⟨n,hn⟩:∃ n,l.length=n:=⟨_,rfl⟩
 have Hn:=ae hn;have Hk:=ae hk;rw[hn] at HP hw hl H ⊢;clear hn hk
 go_enter Tryz.func118,Tryz.ntmps118
 go_wp2_with fail;refine HP.out.mono ?_;rintro e w1 ⟨⟨r1,rfl,ho1⟩,hb1⟩;rw[List.nil_append] at ho1;have Ho1:=ae ho1;have Hb1:=ae hb1;clear HP ho1 hb1;go_wp2_with fail
 go_loopw [0,14] (fun r i wr=>∃ (k:Nat),k <= n /\ i=.int .i64 (k:Int) /\ wr.ownsRow w.heap.size 5 1 r (uvar n ++ (l.take k).flatMap codeText).length ((uvar n ++ (l.take k).flatMap codeText).map B) /\ Below w.heap.size w wr) (fun _ i _=>n - (intOf i).toNat)
 case atStart=>exact⟨0,by omega,rfl,by simpa using Ho1.out,Hb1.out⟩
 case round=>
  obtain⟨k,hkn,rfl,ho,hb⟩:=hrel
  by_cases hk':k < n
  ·have hkI:(k:Int) < (n:Int):=by omega
   have hkl:k < l.length:=by rw[Hn.out];exact hk'
   have hv:=H.out.keep (w':=wr) fun b hq _=>hb.block b hq
   rw[<- Hn.out] at hv;obtain⟨b,off,rfl,-,-,hc⟩:=fZ hv (by omega);have c0:=hc k hkl;have hB:Bytes (fun q=>q < wr.heap.size) wr _ _:=(Bytes.of_owns ho (fun _=>True) fun _ _ _=>trivial).insideU
   have hle:((l.take k).flatMap codeText).length <= k * 200000:=by
    have hq:∀ (q:List RKey),(∀ x ∈ q,x.length <= 100000) -> (q.flatMap codeText).length <= q.length * 200000:=fun q=>by
     induction q with
     | nil=>intro _;simp
     | cons x q ih=>
       intro hx;have h1:=ih fun y hy=>hx y (List.mem_cons_of_mem _ hy)
       have h2:=hx x List.mem_cons_self;have h3:=uvar_len x.length;have h4:(codeText x).length=(uvar x.length).length+x.length:=by unfold codeText;rw[ax]
       rw[List.flatMap_cons,ax,aB,h4];omega
    have:=hq (l.take k) fun x hx=>Hk.out x (List.mem_of_mem_take hx)
    rw[List.length_take,Nat.min_eq_left (by omega)] at this;exact this
   have hul:=uvar_len n;have hP:=putText_any wr _ _ _ hB l[k] (by have:=Hk.out _ (aA hkl);omega) (by rw[ax];omega)
   obtain⟨y,hy⟩:∃ y,l[k]=y:=⟨_,rfl⟩
   have hst:uvar n ++ (l.take (k+1)).flatMap codeText=(uvar n ++ (l.take k).flatMap codeText) ++ codeText y:=by
    rw[List.take_succ_eq_append_getElem hkl,List.flatMap_append,hy,az];simp
   rw[hy] at hP c0;have HP:=ae hP;have Hst:=ae hst;have Hb:=ae hb;obtain⟨ar,cr,rfl⟩:=own_shape ho
   obtain⟨z,hz⟩:∃ z,(uvar n ++ (l.take k).flatMap codeText).length=z:=⟨_,rfl⟩
   rw[hz] at HP ⊢;clear hP hst hb ho hB hle hul hy hc hv hkl hz;go_wp2_with fail;refine HP.out.mono ?_;rintro e w2 ⟨⟨r2,rfl,ho2⟩,hb2⟩;rw[<- Hst.out] at ho2;have Ho2:=ae (own_base ho2 Hb.out.size);have Hb2:=ae (Hb.out.trans (hb2.mono Hb.out.size));clear HP ho2 hb2 c0;go_wp2_with fail
   go_roundw
   case rel=>exact⟨k+1,by omega,by go_num,Ho2.out,Hb2.out⟩
   case measure=>simp[intOf];omega
  ·have hkI:¬ (k:Int) < (n:Int):=by omega
   have hke:l.take k=l:=List.take_of_length_le (by rw[Hn.out];omega);rw[hke] at ho;have Ho:=ae ho;have Hb:=ae hb;clear ho hb hke;go_wp2_with fail
   go_ret
   exact⟨⟨_,rfl,by have h:=Ho.out;unfold dI;rw[Hn.out];exact h⟩,Hb.out⟩
end
section
open Go.Lib
attribute [local go_sem ↓] bq
attribute [local go_sem] opC upC
def encR (m:RMap):List UInt8 × Int:=if validR m then (codeR m,0) else ([],5)
def sV (w:World) (r:List UInt8 × Int) (e:Ending) (w':World):Prop:=(∃ v,e=.returned (.tuple #[v,.int .i64 r.2]) /\ Bytes (fun _=>True) w' v r.1) /\ Below w.heap.size w w'
theorem qB (F:aV) (w:World):Bytes F w (.slice none 0 0) []:=⟨none,0,rfl,by simp,by unfold maxLen;omega,fun _=>rfl,.inl rfl⟩
theorem lf {m:RMap} (h:validR m=true):Codable m:=fO (valid_formed h) (valid_lens h).2.1 (valid_lens h).2.2.1
set_option maxRecDepth 100000 in
set_option maxHeartbeats 1500000 in
theorem fR (w:World) (hT:cL w) (h3:4 <= w.heap.size) (F:aV) (v:Value) (m:RMap) (h:cY F w v m) (hki:∀ x ∈ m.items,x.key.length <= 1000000) (hkg:∀ x ∈ m.gone,x.key.length <= 1000000):
 Calls aC 79 #[v] w (sV w (encR m)):=by
 replace h:=h.mono (G:=fun b=>b < w.heap.size) fun b _ hlt=>hlt
 obtain⟨s1,s2,s3,rfl,h⟩:=h;obtain⟨a1,p1,rfl,-⟩:=h.seen.shape;obtain⟨a2,p2,rfl,-⟩:=h.items.shape;obtain⟨a3,p3,rfl,-⟩:=h.gone.shape;have l1:=h.seen.len;have l2:=h.items.len;have l3:=h.gone.len;unfold maxLen at l1 l2 l3
 obtain⟨n1,hn1⟩:∃ n,m.seen.length=n:=⟨_,rfl⟩
 obtain⟨n2,hn2⟩:∃ n,m.items.length=n:=⟨_,rfl⟩
 obtain⟨n3,hn3⟩:∃ n,m.gone.length=n:=⟨_,rfl⟩
 rw[hn1,hn2,hn3] at h;rw[hn1] at l1 ⊢;rw[hn2] at l2 ⊢;rw[hn3] at l3 ⊢
 obtain⟨wx,hwx⟩:∃ wx,wx=w.alloc (.cells #[.slice a1 n1 p1,.slice a2 n2 p2,.slice a3 n3 p3] 37):=⟨_,rfl⟩
 have hbx:Below w.heap.size w wx:=by rw[hwx];exact aE _ _
 have hzx:wx.heap.size=w.heap.size+1:=by rw[hwx];simp
 have hx:=h.keep (w':=wx) fun b _ hlt=>hbx.block b hlt
 have hnx:Blk wx w.heap.size [.slice a1 n1 p1,.slice a2 n2 p2,.slice a3 n3 p3] 37:=by rw[hwx];exact Blk.new _ _ _
 have Hx:=ae hx;have Hn1:=ae hn1;have Hn2:=ae hn2;have Hn3:=ae hn3;have Hwx:=ae hwx;have Hbx:=ae hbx;have Hzx:=ae hzx;have c0:=hnx.cell 0;have c1:=hnx.cell 1;have c2:=hnx.cell 2;simp at c0 c1 c2;have Hnx:=ae hnx;clear hx hn1 hn2 hn3 hwx hbx hnx hzx;clear h;have HC:=ae (fA wx (bi hT h3 Hbx.out) (by rw[Hzx.out];omega) _ (.agg #[.slice a1 n1 p1,.slice a2 n2 p2,.slice a3 n3 p3]) m ⟨_,_,_,rfl,Hx.out⟩ hki hkg)
 obtain⟨ok,hok⟩:∃ ok,validR m=ok:=⟨_,rfl⟩
 rw[hok] at HC;have Hok:=ae hok;clear hok hT hki hkg c0 c1 c2
 go_enter Tryz.func79,Tryz.ntmps79
 go_wp2_with fail;rw[<- Hwx.out];refine HC.out.mono ?_;rintro e w3 ⟨rfl,hb3⟩;have Hb3:=ae (Hbx.out.trans (hb3.mono Hbx.out.size));obtain⟨d0,d1,d2⟩:=cell3 (Hnx.out.keep (hb3.block _ Hnx.out.lt));have Hx3:=ae (Hx.out.keep (w':=w3) fun b _ hlt=>hb3.block b hlt);clear HC hb3;cases ok with
 | false=>
   have He:=ae (show encR m=([],5) by unfold encR;rw[Hok.out];rfl);go_wp2_with fail;exact bodyPost_ret (v:=.tuple #[.slice none 0 0,.int .i64 5]) (by simp[results,Tryz.results79,go_sem]) rfl ⟨⟨_,by rw[He.out],by rw[He.out];exact qB _ _⟩,Hb3.out⟩
 | true=>
   have He:=ae (show encR m=(codeR m,0) by unfold encR;rw[Hok.out];rfl);have HS:=ae (code_any w3 _ (.agg #[.slice a1 n1 p1,.slice a2 n2 p2,.slice a3 n3 p3]) m ⟨_,_,_,rfl,Hx3.out⟩ (lf Hok.out));go_wp2_with fail;refine HS.out.mono ?_;rintro e w4 ⟨⟨r,rfl,hr⟩,hb4⟩;have Hb4:=ae (Hb3.out.trans (hb4.mono Hb3.out.size));have Hr:=ae hr;clear hb4 hr HS;go_wp2_with fail;exact bodyPost_ret (v:=.tuple #[r,.int .i64 0]) (by simp[results,Tryz.results79,go_sem]) rfl ⟨⟨_,by rw[He.out],by rw[He.out];exact Hr.out⟩,Hb4.out⟩
end
section
open Go.Lib
def tM (m:RMap):Prop:=(∀ x ∈ m.items,x.key.length <= 1000000) /\ ∀ x ∈ m.gone,x.key.length <= 1000000
theorem b9 {m:RMap} (h:validR m=true):tM m:=by
 obtain⟨-,h2,h3⟩:=valid_nums h;exact⟨fun x hx=>by have:=(h2 x hx).1;omega,fun x hx=>by have:=(h3 x hx).1;omega⟩
/-! maps of the program in variables -/
end
section
attribute [local go_sem ↓] iY eM
attribute [local go_sem] opC upC
theorem rM (l x:List UInt8) (h:l.length=x.length):ch l 0 x=x:=by
 unfold ch;simp[h]
theorem i5 (w:World) (jb kd g taken:Nat) (rv:Value) (dead:Bool) (K:DK) (M:MD) (hj:cM w jb kd g rv taken dead) (hd:bj w K M) (hK:K.d=kd) (at_:Nat) (hi:at_ < M.S.length) (hdn:M.down=false):
 Calls aC 94 #[.pointer (some ⟨jb,0,none⟩),.int .i64 (at_:Int)] w fun e w'=>∃ sb,e=.returned (.pointer (some ⟨sb,0,none⟩)) /\ w.heap.size <= sb /\ SecAt w' sb (M.S.getD at_ []) /\ Below w.heap.size w w':=by
 subst hK;have hbd:=fV w
 obtain⟨w1,hw1⟩:∃ w1,w1=w.alloc (.cells (dw.map B).toArray 137):=⟨_,rfl⟩
 have hs1:SecAt w1 w.heap.size dw:=by rw[hw1];exact SecAt.new _ _ eh
 have hk1:Below w.heap.size w w1:=by rw[hw1];exact aE _ _
 have hz1:w1.heap.size=w.heap.size+1:=by rw[hw1];simp
 have hd1:=hd.kept hk1;have hj1:cM w1 jb K.d g rv taken dead:=Blk.keep hj (hk1.block jb (Blk.lt hj));have c0:=hj1.cell 0;simp at c0;have hrd:=sE w1 K M at_ hd1 hi hdn
 have h64:M.S[at_].length=64:=by
  obtain⟨L,-,hL⟩:=hd.secs;exact hL.2.2 _ (aA hi)
 have Hrd:=ae hrd;clear hrd;rw[hw1] at c0 Hrd;have Hw1:=ae hw1;clear hw1
 go_enter Tryz.func94,Tryz.ntmps94
 go_wp2_with fail;refine Hrd.out.mono ?_;rintro e w2 ⟨r,rfl,hr2,hb2⟩;rw[<- Hw1.out] at hr2 hb2;have hr2:w2.ownsRow w1.heap.size 5 1 r (M.S[at_]).length ((M.S[at_]).map B):=by rw[h64];exact hr2
 have hs2:SecAt w2 w.heap.size dw:=⟨hs1.1.keep (hb2.block _ (by omega)),hs1.2⟩
 have hk2:=hk1.trans (hb2.mono (by omega));have hby:=il hr2;obtain⟨a,cap,rfl,-,-⟩:=id hby;obtain⟨w3,hcp,hs3,ho3,hz3⟩:=iH hs2 0 64 64 hby 64 (by rw[h64];rfl) (by omega);rw[List.take_of_length_le (by omega),rM _ _ (by rw[eh,h64])] at hs3;rw[show ((64:Nat):Int)=64 from rfl,h64] at hcp;have hk3:=dL hk2 ho3 (fun b e=>by rw[e];exact aq _) (by have:=hb2.size;omega);have Hs3:=ae hs3;have Hk3:=ae hk3;clear hs3 hk3 hby hr2 hs2 hk2 c0 hs1 hd1 hj1;go_wp2_with fail
 go_ret
 refine⟨_,rfl,aq _,?_,Hk3.out⟩;rw[show M.S.getD at_ []=M.S[at_] from by rw[List.getD_eq_getElem?_getD,List.getElem?_eq_getElem hi];rfl];exact Hs3.out
theorem fS (S:List (List UInt8)) (g k p n:Nat):∀ (i j:Nat),cE S g k p n (i+j)=true -> cE S g k p n i=true
 | i,0,h=>h
 | i,j+1,h=>by
   refine fS S g k p n i j ?_;have:cE S g k p n (i+j+1)=true:=h;simp only[cE,Bool.and_eq_true] at this;exact this.1
theorem fw (S:List (List UInt8)) (hS:∀ s ∈ S,s.length=64) (g p:Nat):∀ i,(∀ j,j < i -> bT S.length g (p+j) < S.length) -> (dD S g p i).length=48 * i
 | 0,_=>rfl
 | i+1,h=>by
   have h1:=fw S hS g p i (fun j hj=>h j (by omega));have h2:=h i (by omega)
   have h3:(bU S g (p+i)).length=64:=by
    unfold bU;rw[List.getD_eq_getElem?_getD,List.getElem?_eq_getElem h2];exact hS _ (aA h2)
   simp only[dD,ax,h1,List.length_take,List.length_drop,h3];omega
theorem eu (n g p:Nat) (hp:p < aT n):bT n g p < n:=by
 unfold bT;have h2:g % 2=0 \/ g % 2=1:=by omega
 unfold aT at *;rcases h2 with h | h <;> rw[h] <;> omega
end
end Go.Proofs.YtobjdpngnfbicaaGreatDoor
