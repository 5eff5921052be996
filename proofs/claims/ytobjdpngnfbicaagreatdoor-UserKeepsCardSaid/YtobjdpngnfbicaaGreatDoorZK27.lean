/-
  ShelfB RForg RDel
-/
import Derived.Shelf.Small.Bits
import Derived.Shelf.Small.Wraps
import Derived.Shelf.Strconv.Itoa0
import Derived.Shelf.Strings.Search1
import Derived.Shelf.Strings.Search2
import Derived.Shelf.Strings.Cut
import Derived.Shelf.LaysM
import Derived.Shelf.Strings.Shaped
import Derived.Shelf.Sort.Plain
import Derived.Shelf.GgClosure.StringsIndexFunc
import Derived.Ground.GgwProg
import Derived.Shelf.GgClosure.StringsIndexFuncTop
import Derived.Shelf.GgClosure.StringsRunes
import Derived.Shelf.Strings.FuncGrows
import Derived.Shelf.Slices.CompactS
import Derived.Shelf.Slices.In.SortNone
import Derived.Shelf.Spec.SearchS
import Derived.Ground.Names2Prog
import Derived.Test.YtobjdpngnfbicaaGreatDoorProg
import Derived.Test.YtobjdpngnfbicaaGreatDoorZK15
open Go.Lib renaming hid->ae
open Nat renaming le_refl->aq,le_trans->au,lt_of_lt_of_le->aw
open List renaming length_append->ax,append_assoc->az,getElem_mem->aA
open Go.Proofs.Tryz renaming prog->aC
namespace Go.Proofs
open Go.Shelf
def Tryz.laysBSearch_ren:Go.Shelf.Ren:=⟨fun | 26=>110 | 33=>169 | 34=>170 | 38=>209 | n=>n,fun | 24=>32 | 9=>9 | 3=>3 | 4=>4 | 40=>199 | 0=>0 | n=>n,fun | n=>n⟩
theorem Tryz.laysBSearch:Go.Proofs.Lays2.n26 aC Tryz.laysBSearch_ren:={
 mixed:=by kernel_rfl
 f26:=Tryz.func110.trans (congrArg some (by kernel_rfl))
 f33:=Tryz.func169.trans (congrArg some (by kernel_rfl))
 f34:=Tryz.func170.trans (congrArg some (by kernel_rfl))
 f38:=Tryz.func209.trans (congrArg some (by kernel_rfl))
 t0:=Tryz.underlying0
 a0:=Tryz.isAgg0
 z0:=Tryz.sizeOf0
 v0:=Tryz.zeroValue0
 t3:=Tryz.underlying3
 a3:=Tryz.isAgg3
 z3:=Tryz.sizeOf3
 v3:=Tryz.zeroValue3
 t4:=Tryz.underlying4
 a4:=Tryz.isAgg4
 z4:=Tryz.sizeOf4
 v4:=Tryz.zeroValue4
 t9:=Tryz.underlying9
 a9:=Tryz.isAgg9
 z9:=Tryz.sizeOf9
 v9:=Tryz.zeroValue9
 t24:=Tryz.underlying32
 a24:=Tryz.isAgg32
 z24:=Tryz.sizeOf32
 v24:=Tryz.zeroValue32
 t40:=Tryz.underlying199
 a40:=Tryz.isAgg199
 z40:=Tryz.sizeOf199
 v40:=Tryz.zeroValue199 }
end Go.Proofs
namespace Go.Proofs.YtobjdpngnfbicaaGreatDoor
open Go.RowKit
set_option linter.unusedVariables false
set_option maxRecDepth 20000
section
attribute [local go_sem ↓] bq
theorem ku (key:RKey):∀ l:List RKey,(l.Pairwise fun a b=>a < b) -> ∃ k0,k0 <= l.length /\ (∀ t (h:t < l.length),t < k0 -> l[t] < key) /\ ∀ t (h:t < l.length),k0 <= t -> ¬ l[t] < key
 | [],_=>⟨0,aq _,fun t h=>by simp at h,fun t h=>by simp at h⟩
 | x :: l,hp=>by
   obtain⟨hx,hl⟩:=List.pairwise_cons.1 hp
   by_cases h:x < key
   ·obtain⟨k0,h0,h1,h2⟩:=ku key l hl;refine⟨k0+1,by simp;omega,fun t ht hk=>?_,fun t ht hk=>?_⟩
    ·cases t with
     | zero=>exact h
     | succ t=>exact h1 t (by simpa using ht) (by omega)
    ·cases t with
     | zero=>omega
     | succ t=>exact h2 t (by simpa using ht) (by omega)
   ·refine⟨0,Nat.zero_le _,fun t ht hk=>by omega,fun t ht _=>?_⟩;cases t with
    | zero=>exact h
    | succ t=>exact fun hh=>h (List.lt_trans (hx _ (aA (by simpa using ht))) hh)
theorem mu (w:World) (F:aV) (v:Value) (l:List RKey) (key:RKey) (hv:Rows F w 1 v l.length (l.map eS)) (hl:l.length <= 1000000) (hs:l.Pairwise fun a b=>a < b):
 Calls aC 110 #[v,.string ⟨key.toArray⟩] w fun e w'=>(∃ i:Nat,e=.returned (.tuple #[.int .i64 i,.bool (decide (key ∈ l))])) /\ ∃ q,w'=w.drewN q:=by
 obtain⟨a,cap,rfl,-⟩:=hv.shape
 by_cases h0:l.length=0
 ·obtain rfl:=List.length_eq_zero_iff.1 h0;refine(Any2.slices_BinarySearch_string_empty Tryz.laysBSearch a cap ⟨key.toArray⟩ w).mono ?_;rintro e w' ⟨rfl,rfl⟩;exact⟨⟨0,by simp⟩,0,rfl⟩
 ·obtain⟨b,off,rfl,-,-,hc⟩:=fZ hv (by omega);obtain⟨k0,hk0,h1,h2⟩:=ku key l hs
  have hless:∀ t,Op.bytesLess ((⟨(l.getD t key).toArray⟩:ByteArray)).toList ((⟨key.toArray⟩:ByteArray)).toList=decide (l.getD t key < key):=fun t=>by
   rw[Go.Proofs.bytesLess_eq];simp
  have hg:=Lib.bsGo_spec (fun t=>Op.bytesLess ((⟨(l.getD t key).toArray⟩:ByteArray)).toList ((⟨key.toArray⟩:ByteArray)).toList) k0 (fun t ht=>by
   rw[hless,List.getD_eq_getElem?_getD,List.getElem?_eq_getElem (by omega)]
   simpa using h1 t (by omega) ht) (fun t ht=>by
   rw[hless,List.getD_eq_getElem?_getD]
   by_cases hlt:t < l.length
   ·rw[List.getElem?_eq_getElem hlt];simpa using h2 t hlt ht
   ·rw[List.getElem?_eq_none (by omega)]
    simp[List.lt_irrefl]) l.length 0 l.length (by omega) (Nat.zero_le _) hk0
  refine(Any2.slices_BinarySearch_string Tryz.laysBSearch b off l.length cap (fun t=>⟨(l.getD t key).toArray⟩) ⟨key.toArray⟩ w (by omega) (fun j hj=>by
   rw[hc j hj,List.getD_eq_getElem?_getD,List.getElem?_eq_getElem hj];rfl)).mono ?_
  rintro e w' ⟨rfl,q,rfl⟩;rw[hg];refine⟨⟨k0,?_⟩,q,rfl⟩
  have hd:decide (k0 < l.length /\ (⟨(l.getD k0 key).toArray⟩:ByteArray)=⟨key.toArray⟩)=decide (key ∈ l):=by
   rw[Bool.eq_iff_iff,decide_eq_true_iff,decide_eq_true_iff];constructor
   ·rintro⟨hlt,he⟩;rw[List.getD_eq_getElem?_getD,List.getElem?_eq_getElem hlt] at he;simp at he;rw[<- he];exact aA hlt
   ·intro hm;obtain⟨t,ht,rfl⟩:=List.mem_iff_getElem.1 hm
    have:t=k0:=by
     rcases Nat.lt_trichotomy t k0 with h | h | h
     ·exact absurd (h1 t ht h) (List.lt_irrefl _)
     ·exact h
     ·exact absurd (List.pairwise_iff_getElem.1 hs k0 t (by omega) ht h) (h2 k0 (by omega) (aq _))
    subst this;refine⟨ht,?_⟩;rw[List.getD_eq_getElem?_getD,List.getElem?_eq_getElem ht];rfl
  rw[hd]
structure ev (B:Nat) (w w':World):Prop where
 bel:Below B w w'
 blk:∀ b L t,Blk w b L t -> t≠111 -> t≠35 -> Blk w' b L t
theorem ev.own {B:Nat} {w w':World} (h:ev B w w') {base:Nat} {e:TypeId} {k n:Nat} {v:Value} {xs:List Value} (ho:w.ownsRow base e k v n xs) (h1:e≠111) (h2:e≠35):w'.ownsRow base e k v n xs:=by
 refine⟨ho.1,?_⟩;rcases ho.2 with h0 | ⟨g,cap,cur,hv,hb,hg,hr⟩
 ·exact .inl h0
 ·refine .inr ⟨g,cap,cur,hv,hb,?_,hr⟩;have:=h.blk g cur.toList e hg h1 h2;unfold Blk at this;simpa using this
theorem ev.trans {B:Nat} {a b c:World} (h:ev B a b) (k:ev B b c):ev B a c:=⟨h.bel.trans k.bel,fun x L t hx h1 h2=>k.blk x L t (h.blk x L t hx h1 h2) h1 h2⟩
structure fI (B bl bg:Nat) (w:World) (l:List RKey) (gs:List RGo):Prop where
 var:∃ sv,Blk w bl [sv] 32 /\ w.ownsRow 0 9 1 sv l.length (l.map eS)
 gone:∃ gv,Blk w bg [gv] 35 /\ w.ownsRow B 111 3 gv gs.length (gs.flatMap cn)
set_option maxRecDepth 100000 in
set_option maxHeartbeats 1500000 in
theorem nO (w:World) (B bl bg:Nat) (l:List RKey) (gs:List RGo) (x:RIt) (h:fI B bl bg w l gs) (hl:l.length <= 1000000) (hs:l.Pairwise fun a b=>a < b) (hg:gs.length <= 1000000) (hB:B <= w.heap.size) (hbg:B <= bg):
 Calls aC 109 #[itV x,.pointer (some ⟨bl,0,none⟩),.pointer (some ⟨bg,0,none⟩)] w fun e w'=>e=.returned (.bool (decide (x.key ∈ l))) /\ fI B bl bg w' l (if x.key ∈ l then gs ++ [goneOf x] else gs) /\ ev B w w':=by
 obtain⟨⟨sv,hk1,ho1⟩,⟨gv,hk2,ho2⟩⟩:=h;obtain⟨sa,sc,rfl⟩:=own_shape ho1;obtain⟨ga,gc,rfl⟩:=own_shape ho2
 obtain⟨w1,hw1⟩:∃ w1,w1=w.alloc (.cells #[.string ⟨x.key.toArray⟩,.int .i64 x.dev,.int .i64 x.seq,.int .i64 x.val] 108):=⟨_,rfl⟩
 have hb1:Below w.heap.size w w1:=by rw[hw1];exact aE _ _
 have kx:Blk w1 w.heap.size [.string ⟨x.key.toArray⟩,.int .i64 x.dev,.int .i64 x.seq,.int .i64 x.val] 108:=by rw[hw1];exact Blk.new _ _ _
 have HS:=ae (mu w1 _ (.slice sa l.length sc) l x.key (Rows.of_owns (bc ho1 hb1)) hl hs);have c0:w1.cell? ⟨bl,0,none⟩=some (.slice sa l.length sc):=by simpa using (hk1.keep (hb1.block _ hk1.lt)).cell 0
 obtain⟨x0,x1,x2,x3⟩:=cell4 kx;have Hw1:=ae hw1;have Hb1:=ae hb1;have Hk1:=ae hk1;have Ho1:=ae ho1;have Hk2:=ae hk2;have Ho2:=ae ho2;have Kx:=ae kx;rw[hw1] at c0 x0 x1 x2 x3;clear hw1 hb1 hk1 ho1 hk2 ho2 kx;unfold itV
 go_enter Tryz.func109,Tryz.ntmps109
 go_wp2_with fail;rw[<- Hw1.out];refine HS.out.mono ?_;rintro e w2 ⟨⟨i,rfl⟩,q,rfl⟩
 obtain⟨w2,hw2⟩:∃ w2,w2=w1.drewN q:=⟨_,rfl⟩
 rw[<- hw2];have hb2:Below w.heap.size w w2:=by rw[hw2];exact bV Hb1.out _
 have kx2:Blk w2 w.heap.size [.string ⟨x.key.toArray⟩,.int .i64 x.dev,.int .i64 x.seq,.int .i64 x.val] 108:=by rw[hw2];exact Kx.out.drewN _
 have hz2:w.heap.size < w2.heap.size:=kx2.lt;have Hb2:=ae hb2;have Kx2:=ae kx2;clear hw2 HS c0 x0 x1 x2 x3
 by_cases hm:x.key ∈ l
 ·have hd:decide (x.key ∈ l)=true:=decide_eq_true hm;rw[hd];obtain⟨x0,x1,x2,x3⟩:=cell4 kx2;have ho2:=bc Ho2.out hb2;have kg2:=Hk2.out.keep (hb2.block _ Hk2.out.lt);have g0:w2.cell? ⟨bg,0,none⟩=some (.slice ga gs.length gc):=by simpa using kg2.cell 0
  obtain⟨i0,t1,t2,t3,t4⟩:=info_parts infoGoP;have hB2:B <= w2.heap.size:=au hB hb2.size;obtain⟨v5,w5,hr5,hown5,hg5⟩:=bF (P:=aC) w2 B 35 111 Tryz.underlying35 t1 t2 t3 t4 rfl (by decide) (.slice ga gs.length gc) gs.length _ ho2 #[.string ⟨x.key.toArray⟩,.int .i64 x.dev,.int .i64 x.seq] rfl (by simp[Value.oneCell']) (by unfold maxLen;omega) (by omega) hB2;obtain⟨a5,c5,rfl⟩:=own_shape hown5;have hoA:=bc ho2 (aE w2 (.cells #[.string ⟨x.key.toArray⟩,.int .i64 x.dev,.int .i64 x.seq] 111));have kg5:=(kg2.alloc (.cells #[.string ⟨x.key.toArray⟩,.int .i64 x.dev,.int .i64 x.seq] 111)).grownNe hoA (by decide) hg5;have g5:w5.cell? ⟨bg,0,none⟩=some (.slice ga gs.length gc):=by simpa using kg5.cell 0
  have f5:=kg5.free 0
  obtain⟨w6,hw6⟩:∃ w6,w6=w5.setCell ⟨bg,0,none⟩ (.slice a5 (gs.length+1) c5):=⟨_,rfl⟩
  have hb5:Below B w w5:=(hb2.mono hB).trans (((Below.refl B w2).alloc hB2 _).trans (Below.grownOwn hoA hg5 (by simp;omega) (aq _)))
  have HK:=ae (show ev B w w6 from ⟨by rw[hw6];exact hb5.setCell hbg _,fun b L t hb ht1 ht2=>by
   have hb':=((hb.keep (hb2.block b hb.lt)).alloc (.cells #[.string ⟨x.key.toArray⟩,.int .i64 x.dev,.int .i64 x.seq] 111)).grownNe hoA (Ne.symm ht1) hg5;rw[hw6]
   exact hb'.set_other _ (hb'.ne kg5 ht2)⟩)
  have Hst:=ae (show fI B bl bg w6 l (gs ++ [goneOf x]) from ⟨⟨_,HK.out.blk _ _ _ Hk1.out (by decide) (by decide),HK.out.own Ho1.out (by decide) (by decide)⟩,⟨.slice a5 (gs.length+1) c5,by rw[hw6];exact kg5.set 0 _,by
   rw[hw6,ax,flat_snoc]
   exact aS hown5 kg5 (by decide) _⟩⟩)
  have Hw6:=ae hw6;clear hd ho2 kg2 hown5 hg5 hoA kg5 hb5 hw6 hb2 kx2 t1 t2 t3 t4;go_wp2_with fail;rw[<- Hw6.out]
  go_ret
  exact⟨rfl,Hst.out,HK.out⟩
 ·have hd:decide (x.key ∈ l)=false:=decide_eq_false hm;rw[hd];clear hd hb2 kx2;go_wp2_with fail
  go_ret
  exact⟨rfl,⟨⟨_,Hk1.out.keep (Hb2.out.block _ Hk1.out.lt),bc Ho1.out Hb2.out⟩,⟨_,Hk2.out.keep (Hb2.out.block _ Hk2.out.lt),bc Ho2.out Hb2.out⟩⟩,Hb2.out.mono hB,fun b L t hb _ _=>hb.keep (Hb2.out.block b hb.lt)⟩
end
structure cK (B:Nat) (w w':World):Prop where
 bel:Below B w w'
 same:∀ b,b < w.heap.size -> (∀ L,¬ Blk w b L 108) -> w'.heap[b]?=w.heap[b]?
theorem cK.blk {B:Nat} {w w':World} (h:cK B w w') (b:Nat) (L:List Value) (t:TypeId) (hb:Blk w b L t) (hne:t≠108):Blk w' b L t:=hb.keep (h.same b hb.lt fun M hM=>hne (hb.inj hM).2)
theorem cK.refl (B:Nat) (w:World):cK B w w:=⟨Below.refl _ _,fun _ _ _=>rfl⟩
theorem cK.trans {B:Nat} {a b c:World} (h:cK B a b) (k:cK B b c):cK B a c:=
 ⟨h.bel.trans k.bel,fun x hx hn=>(k.same x (aw hx h.bel.size) fun L hL=>hn L ((h.same x hx hn).symm.trans hL)).trans (h.same x hx hn)⟩
theorem cK.alloc {B:Nat} {w:World} (hB:B <= w.heap.size) (o:Obj):cK B w (w.alloc o):=⟨(Below.refl B w).alloc hB o,fun b hb _=>Below.heap_alloc _ _ _ hb⟩
theorem cK.set {B:Nat} {w:World} {g i:Nat} {L:List Value} (hg:Blk w g L 108) (hB:B <= g) (u:Value):cK B w (w.setCell ⟨g,i,none⟩ u):=
 ⟨(Below.refl B w).setCell hB u,fun b hb hn=>Below.heap_setCell _ _ _ _ fun e=>hn L (by rw[e];exact hg)⟩
structure dj (B B2:Nat) (w w':World):Prop where
 bel:Below B w w'
 blk:∀ b L t,Blk w b L t -> t≠111 -> t≠35 -> t≠108 -> Blk w' b L t
 low:∀ b,b < B2 -> b < w.heap.size -> (∀ L,¬ Blk w b L 108) -> w'.heap[b]?=w.heap[b]?
theorem dj.refl (B B2:Nat) (w:World):dj B B2 w w:=⟨Below.refl _ _,fun _ _ _ h _ _ _=>h,fun _ _ _ _=>rfl⟩
theorem dj.trans {B B2:Nat} {a b c:World} (h:dj B B2 a b) (k:dj B B2 b c):dj B B2 a c:=
 ⟨h.bel.trans k.bel,fun x L t hx h1 h2 h3=>k.blk x L t (h.blk x L t hx h1 h2 h3) h1 h2 h3,fun x hx hxs hn=>(k.low x hx (aw hxs h.bel.size) fun L hL=>hn L ((h.low x hx hxs hn).symm.trans hL)).trans (h.low x hx hxs hn)⟩
theorem ev.gi {B B2:Nat} {w w':World} (h:ev B2 w w') (hB:B <= B2):dj B B2 w w':=⟨h.bel.mono hB,fun x L t hx h1 h2 _=>h.blk x L t hx h1 h2,fun x hx _ _=>h.bel.block x hx⟩
theorem cK.gi {B B2:Nat} {w w':World} (h:cK B w w'):dj B B2 w w':=⟨h.bel,fun x L t hx _ _ h3=>h.blk x L t hx h3,fun x _ hxs hn=>h.same x hxs hn⟩
theorem dj.own {B B2:Nat} {w w':World} (h:dj B B2 w w') {base:Nat} {e:TypeId} {k n:Nat} {v:Value} {xs:List Value} (ho:w.ownsRow base e k v n xs) (h1:e≠111) (h2:e≠35) (h3:e≠108):w'.ownsRow base e k v n xs:=by
 refine⟨ho.1,?_⟩;rcases ho.2 with h0 | ⟨g,cap,cur,hv,hb,hg,hr⟩
 ·exact .inl h0
 ·refine .inr ⟨g,cap,cur,hv,hb,?_,hr⟩;have:=h.blk g cur.toList e hg h1 h2 h3;unfold Blk at this;simpa using this
theorem dj.ownLow {B B2:Nat} {w w':World} (h:dj B B2 w w') {base:Nat} {e:TypeId} {k n:Nat} {v:Value} {xs:List Value} (ho:w.ownsRow base e k v n xs) (hlt:∀ b,v.ownBlock=some b -> b < B2) (h3:e≠108):w'.ownsRow base e k v n xs:=by
 refine⟨ho.1,?_⟩;rcases ho.2 with h0 | ⟨g,cap,cur,hv,hb,hg,hr⟩
 ·exact .inl h0
 ·refine .inr ⟨g,cap,cur,hv,hb,?_,hr⟩;rw[h.low g (hlt g (by rw[hv];rfl)) (lt_of_block hg) fun L hL=>?_]
  ·exact hg
  ·unfold Blk at hL;rw[hg] at hL;simp at hL;exact h3 hL.2
theorem i8 (x:RIt) (rest:List Value):∀ (cl:List RIt) (i:Nat),i < cl.length ->
 ((((cl.flatMap aZ ++ rest).set (i * 4) (.string ⟨x.key.toArray⟩)).set (i * 4+1) (.int .i64 x.dev)).set (i * 4+2) (.int .i64 x.seq)).set (i * 4+3) (.int .i64 x.val)=(cl.set i x).flatMap aZ ++ rest
 | [],i,h=>by simp at h
 | y :: cl,0,_=>rfl
 | y :: cl,i+1,h=>by
   have:=i8 x rest cl i (by simpa using h);rw[List.set_cons_succ,List.flatMap_cons,List.flatMap_cons,az,az,<- this]
   have e:∀ (M:List Value) (j:Nat) (u:Value),(aZ y ++ M).set ((i+1) * 4+j) u=aZ y ++ M.set (i * 4+j) u:=fun M j u=>by
    rw[List.set_append_right _ _ (by show 4 <= _;omega)]
    congr 2
    show (i+1) * 4+j - 4=_;omega
   have e0:∀ (M:List Value) (u:Value),(aZ y ++ M).set ((i+1) * 4) u=aZ y ++ M.set (i * 4) u:=fun M u=>e M 0 u
   rw[e0,e,e,e]
def pV (pd:RIt -> Bool) (l:List RIt) (St:List RIt -> World -> Prop) (e:Ending) (w':World):Prop:=
 (∃ k x,l[k]?=some x /\ e=.returned (.int .i64 ((k:Nat):Int)) /\ pd x=true /\ (∀ y ∈ l.take k,pd y=false) /\ St (l.take (k+1)) w') \/ (e=.returned (.int .i64 (-1)) /\ (∀ x ∈ l,pd x=false) /\ St l w')
theorem nP (pd:RIt -> Bool) (l:List RIt) (k:Nat) (h:∀ j (h:j < l.length),j < k -> pd l[j]=false):∀ y ∈ l.take k,pd y=false:=fun y hy=>by
 obtain⟨j,hj,rfl⟩:=List.getElem_of_mem hy;rw[List.getElem_take];exact h j (by simp at hj;omega) (by simp at hj;omega)
set_option maxRecDepth 100000 in
set_option maxHeartbeats 2000000 in
theorem lh (bl bg:Nat) (St:List RIt -> World -> Prop) (pd:RIt -> Bool) (B:Nat)
 (hrun:∀ pre x w,St pre w -> B <= w.heap.size -> pre.length <= 1000000 -> Calls aC 109 #[itV x,.pointer (some ⟨bl,0,none⟩),.pointer (some ⟨bg,0,none⟩)] w fun e w'=>e=.returned (.bool (pd x)) /\ St (pre ++ [x]) w' /\ ev B w w')
 (w:World) (g cap:Nat) (l:List RIt) (rest:List Value) (hg:Blk w g (l.flatMap aZ ++ rest) 108) (hl:l.length <= 1000000) (hB:B <= w.heap.size) (h0:St [] w):
 Calls aC 168 #[.slice (some ⟨g,0,none⟩) l.length cap,.func (.func 109) #[] #[.pointer (some ⟨bl,0,none⟩),.pointer (some ⟨bg,0,none⟩)]] w fun e w'=>pV pd l St e w' /\ ev B w w':=by
 obtain⟨n,hn⟩:∃ n,l.length=n:=⟨_,rfl⟩
 have Hn:=ae hn;have Hg:=ae hg;have HR:=ae hrun;have H0:=ae h0;rw[hn] at hl ⊢;clear hn hg hrun h0
 go_enter Tryz.func168,Tryz.ntmps168
 go_wp2_with fail
 go_loopw [8] (fun i wr=>∃ k:Nat,k <= n /\ i=.int .i64 (k:Int) /\ (∀ j (h:j < l.length),j < k -> pd l[j]=false) /\ St (l.take k) wr /\ ev B w wr) (fun i _=>n - (intOf i).toNat)
 case atStart=>exact⟨0,by omega,rfl,fun j _ hj=>by omega,H0.out,⟨Below.refl _ _,fun _ _ _ h _ _=>h⟩⟩
 case round=>
  obtain⟨k,hk,rfl,hall,hst,hkg⟩:=hrel;have Hall:=ae hall;have Hst:=ae hst;have Hkg:=ae hkg;clear hall hst hkg
  by_cases hkn:k < n
  ·have hkI:(k:Int) < (n:Int):=by omega
   have hkl:k < l.length:=by rw[Hn.out];exact hkn
   have hgr:=Hkg.out.blk _ _ _ Hg.out (by decide) (by decide)
   obtain⟨x,hx⟩:∃ x,l[k]=x:=⟨_,rfl⟩
   have hc:∀ j,j < 4 -> wr.cell? ⟨g,k * 4+j,none⟩=(aZ x)[j]?:=fun j hj=>by
    rw[hgr.cell,List.getElem?_append_left (by rw[bI aZ 4 br];omega),dt aZ 4 br l k j hkl hj,hx]
   have x0:wr.cell? ⟨g,k * 4,none⟩=some (.string ⟨x.key.toArray⟩):=hc 0 (by omega);have x1:wr.cell? ⟨g,k * 4+1,none⟩=some (.int .i64 x.dev):=hc 1 (by omega);have x2:wr.cell? ⟨g,k * 4+2,none⟩=some (.int .i64 x.seq):=hc 2 (by omega);have x3:wr.cell? ⟨g,k * 4+3,none⟩=some (.int .i64 x.val):=hc 3 (by omega);have hC:=HR.out (l.take k) x wr Hst.out (au hB Hkg.out.bel.size) (by simp;omega);unfold itV at hC;have HC:=ae hC;have Htk:=ae (show l.take k ++ [x]=l.take (k+1) by rw[List.take_succ_eq_append_getElem hkl,hx]);have Hx:=ae hx;generalize hpd:pd x=b at HC;clear hC hgr hc hx;have Hpd:=ae hpd;clear hpd;go_wp2_with fail;refine HC.out.mono ?_;rintro e w2 ⟨rfl,hst2,hkg2⟩;rw[Htk.out] at hst2;have Hst2:=ae hst2;have Hkg2:=ae (Hkg.out.trans hkg2);clear HC hst2 hkg2 x0 x1 x2 x3;cases b with
   | true=>
     go_wp2_with fail
     go_ret
     exact⟨.inl ⟨k,x,by rw[List.getElem?_eq_getElem hkl,Hx.out],rfl,Hpd.out,nP pd l k Hall.out,Hst2.out⟩,Hkg2.out⟩
   | false=>
     go_wp2_with fail
     go_roundw
     case rel=>exact⟨k+1,by omega,by go_num,fun j hj hjk=>by
      rcases Nat.lt_succ_iff_lt_or_eq.1 hjk with h | h
      ·exact Hall.out j hj h
      ·subst h;rw[Hx.out];exact Hpd.out,Hst2.out,Hkg2.out⟩
     case measure=>simp[intOf];omega
  ·have hkI:¬ (k:Int) < (n:Int):=by omega
   obtain rfl:k=n:=by omega
   have Hfin:=ae (show (∀ x ∈ l,pd x=false) /\ St l wr from ⟨fun x hx=>by
    obtain⟨j,hj,rfl⟩:=List.getElem_of_mem hx;exact Hall.out j hj (by rw[Hn.out] at hj;exact hj),by
    have:=Hst.out;rw[<- Hn.out,List.take_length] at this
    exact this⟩)
   go_wp2_with fail
   go_ret
   exact⟨.inr ⟨rfl,Hfin.out.1,Hfin.out.2⟩,Hkg.out⟩
theorem iM {B g:Nat} (hB:B <= g):∀ (vs:List Value) (o:Nat) (w:World) (L:List Value),Blk w g L 108 -> ∃ L',Blk (w.setCells g o vs) g L' 108 /\ L'.length=L.length /\ (∀ p,p <= o -> L'.take p=L.take p) /\ cK B w (w.setCells g o vs)
 | [],o,w,L,h=>⟨L,h,rfl,fun _ _=>rfl,cK.refl _ _⟩
 | v :: vs,o,w,L,h=>by
   obtain⟨L',h1,h2,h3,h4⟩:=iM hB vs (o+1) (w.setCell ⟨g,o,none⟩ v) (L.set o v) (h.set o v);refine⟨L',h1,by simpa using h2,fun p hp=>?_,(cK.set h hB v).trans h4⟩;rw[h3 p (by omega),List.take_set_of_le hp]
theorem ej {B:Nat} (w:World) (ty:TypeId) (g o n c:Nat) (L:List Value) (h:Blk w g L 108) (hB:B <= g) (ho:o+n * 4 <= L.length):
 ∃ w' L',(Builtin.clear_ #[34] ty #[.slice (some ⟨g,o,none⟩) n c]).run aC w=.ok (.tuple #[]) w' /\ Blk w' g L' 108 /\ L'.length=L.length /\ (∀ p,p <= o \/ n=0 -> L'.take p=L.take p) /\ cK B w w':=by
 cases n with
 | zero=>
   refine⟨w,L,?_,h,rfl,fun _ _=>rfl,cK.refl _ _⟩;simp[Builtin.clear_,run_underlying Tryz.underlying34]
 | succ m=>
   obtain⟨zs,hzs⟩:∃ zs,(Builtin.zeroCells (Value.agg #[.string ⟨#[]⟩,.int .i64 0,.int .i64 0,.int .i64 0]).cells (m+1)).toList=zs:=⟨_,rfl⟩
   have hzl:zs.length=(m+1) * 4:=by rw[<- hzs];simp[Builtin.zeroCells,Value.cells]
   have hone:∀ v ∈ zs,v.oneCell'=true:=by
    intro v hv;rw[<- hzs] at hv;simp only[Builtin.zeroCells,Value.cells,Array.toList_map,List.mem_map] at hv;obtain⟨k,-,rfl⟩:=hv;have:k % 4=0 \/ k % 4=1 \/ k % 4=2 \/ k % 4=3:=by omega
    rcases this with e | e | e | e <;> simp[e,Value.oneCell']
   have hst:=run_storeCells_cells (P:=aC) g o zs 0 w (fun j hj=>by
    rw[Nat.add_zero,h.cell,List.getElem?_eq_getElem (by omega)];rfl) (fun j _=>h.free _) hone
   obtain⟨L',h1,h2,h3,h4⟩:=iM hB zs (o+0) w L h;exact⟨_,L',by simp[Builtin.clear_,run_underlying Tryz.underlying34,hzs,hst],h1,h2,fun p hp=>h3 p (by omega),h4⟩
theorem fJ:∀ (cl:List RIt) (i:Nat),(cl.flatMap aZ).take (i * 4)=(cl.take i).flatMap aZ
 | [],i=>by simp
 | y :: cl,0=>rfl
 | y :: cl,i+1=>by
   rw[List.take_succ_cons,List.flatMap_cons,List.flatMap_cons,<- fJ cl i,show (i+1) * 4=(aZ y).length+i * 4 from by rw[br];omega,List.take_length_add_append]
theorem fx {α:Type} (p:α -> Bool) (l:List α) (k:Nat) (h:k < l.length):(l.take (k+1)).filter p=(l.take k).filter p ++ (if p l[k] then [l[k]] else []):=by
 rw[List.take_succ_eq_append_getElem h,List.filter_append]
 congr 1
 by_cases hp:p l[k]=true
 ·rw[if_pos hp,List.filter_cons,if_pos hp];rfl
 ·rw[if_neg hp,List.filter_cons,if_neg hp];rfl
structure jy (St:List RIt -> World -> Prop) (pd:RIt -> Bool) (B B2 g:Nat) (w wr:World) (l:List RIt) (rest:List Value) (cl:List RIt) (i j:Nat):Prop where
 blk:Blk wr g (cl.flatMap aZ ++ rest) 108
 len:cl.length=l.length
 drop:cl.drop j=l.drop j
 take:cl.take i=(l.take j).filter fun x=>!pd x
 ile:i <= j
 ilen:i=((l.take j).filter fun x=>!pd x).length
 st:St (l.take j) wr
 keep:dj B B2 w wr
def gW (g:Nat) (m:Nat) (kl:List RIt) (w':World):Prop:=∃ L',Blk w' g L' 108 /\ L'.length=m /\ L'.take (kl.length * 4)=kl.flatMap aZ
set_option maxRecDepth 100000 in
set_option maxHeartbeats 4000000 in
theorem li (bl bg:Nat) (St:List RIt -> World -> Prop) (pd:RIt -> Bool) (B B2:Nat) (hBB:B <= B2)
 (hrun:∀ pre x w,St pre w -> B2 <= w.heap.size -> pre.length <= 1000000 -> Calls aC 109 #[itV x,.pointer (some ⟨bl,0,none⟩),.pointer (some ⟨bg,0,none⟩)] w fun e w'=>e=.returned (.bool (pd x)) /\ St (pre ++ [x]) w' /\ ev B2 w w')
 (hkeep:∀ pre w w',St pre w -> cK B w w' -> St pre w')
 (w:World) (g cap m:Nat) (l:List RIt) (rest:List Value) (hg:Blk w g (l.flatMap aZ ++ rest) 108) (hm:(l.flatMap aZ ++ rest).length=m) (hgB:B <= g) (hl:l.length <= 1000000) (hcap:l.length <= cap) (hB2:B2 <= w.heap.size) (h0:St [] w):
 Calls aC 108 #[.slice (some ⟨g,0,none⟩) l.length cap,.func (.func 109) #[] #[.pointer (some ⟨bl,0,none⟩),.pointer (some ⟨bg,0,none⟩)]] w fun e w'=>
  (e=.returned (.slice (some ⟨g,0,none⟩) (l.filter fun x=>!pd x).length cap) /\ gW g m (l.filter fun x=>!pd x) w' /\ St l w') /\ dj B B2 w w':=by
 have HI:=ae (lh bl bg St pd B2 hrun w g cap l rest hg hl hB2 h0)
 obtain⟨n,hn⟩:∃ n,l.length=n:=⟨_,rfl⟩
 have Hn:=ae hn;have Hg:=ae hg;have HR:=ae hrun;have HK:=ae hkeep;have Hm:=ae hm;rw[hn] at hl hcap HI ⊢;clear hn hg hrun h0 hkeep hm
 go_enter Tryz.func108,Tryz.ntmps108
 go_wp2_with fail;refine HI.out.mono ?_;rintro e w1 ⟨hpost,hkg⟩;have Hkg:=ae hkg;clear HI hkg;rcases hpost with ⟨k,x,hkx,rfl,hpx,hall,hst⟩ | ⟨rfl,hall,hst⟩
 ·have hkl:k < l.length:=(List.getElem?_eq_some_iff.1 hkx).1;have hlx:l[k]=x:=(List.getElem?_eq_some_iff.1 hkx).2;have hf0:(l.take k).filter (fun x=>!pd x)=l.take k:=List.filter_eq_self.2 fun y hy=>by rw[hall y hy];rfl
  have hf1:(l.take (k+1)).filter (fun x=>!pd x)=l.take k:=by rw[fx _ l k hkl,hf0,hlx,hpx];simp
  have hkn:k < n:=by rw[<- Hn.out];exact hkl
  have H0:=ae (show jy St pd B B2 g w w1 l rest l k (k+1) from ⟨Hkg.out.blk _ _ _ Hg.out (by decide) (by decide),rfl,rfl,hf1.symm,by omega,by rw[hf1];simp;omega,hst,(Hkg.out.gi hBB)⟩);have hk1:((k:Int) == -1)=false:=by simp
  have hk2:¬ (k:Int) = -1:=by omega
  clear hall hst hpx hlx hf0 hf1 hkx hkl Hkg;go_wp2_with fail
  go_loopw [5,6] (fun si sj wr=>∃ i j cl,j <= n /\ si=.int .i64 ((i:Nat):Int) /\ sj=.int .i64 ((j:Nat):Int) /\ jy St pd B B2 g w wr l rest cl i j) (fun _ sj _=>n - (intOf sj).toNat)
  case atStart=>exact⟨k,k+1,l,by omega,rfl,by go_num,H0.out⟩
  case round=>
   obtain⟨i,j,cl,hj,rfl,rfl,st⟩:=hrel;have St0:=ae st;clear st H0
   by_cases hjn:j < n
   ·have hjI:(j:Int) < (n:Int):=by omega
    have hjl:j < l.length:=by rw[Hn.out];exact hjn
    have hjc:j < cl.length:=by rw[St0.out.len];exact hjl
    obtain⟨x,hx⟩:∃ x,l[j]=x:=⟨_,rfl⟩
    have hcx:cl[j]=x:=by
     have h1:=congrArg (fun z:List RIt=>z[0]?) St0.out.drop;simp only[List.getElem?_drop,Nat.add_zero,List.getElem?_eq_getElem hjc,List.getElem?_eq_getElem hjl] at h1;rw[<- hx];exact Option.some.inj h1
    have hc:∀ q,q < 4 -> wr.cell? ⟨g,j * 4+q,none⟩=(aZ x)[q]?:=fun q hq=>by
     rw[St0.out.blk.cell,List.getElem?_append_left (by rw[bI aZ 4 br];omega),dt aZ 4 br cl j q hjc hq,hcx]
    have x0:wr.cell? ⟨g,j * 4,none⟩=some (.string ⟨x.key.toArray⟩):=hc 0 (by omega);have x1:wr.cell? ⟨g,j * 4+1,none⟩=some (.int .i64 x.dev):=hc 1 (by omega);have x2:wr.cell? ⟨g,j * 4+2,none⟩=some (.int .i64 x.seq):=hc 2 (by omega);have x3:wr.cell? ⟨g,j * 4+3,none⟩=some (.int .i64 x.val):=hc 3 (by omega)
    obtain⟨wX,hwX⟩:∃ wX,wX=wr.alloc (.cells #[.string ⟨x.key.toArray⟩,.int .i64 x.dev,.int .i64 x.seq,.int .i64 x.val] 108):=⟨_,rfl⟩
    have hBr2:B2 <= wr.heap.size:=au hB2 St0.out.keep.bel.size;have hBr:B <= wr.heap.size:=au hBB hBr2;have kiX:cK B wr wX:=by rw[hwX];exact cK.alloc hBr _
    have kX:Blk wX wr.heap.size [.string ⟨x.key.toArray⟩,.int .i64 x.dev,.int .i64 x.seq,.int .i64 x.val] 108:=by rw[hwX];exact Blk.new _ _ _
    have kg:Blk wX g (cl.flatMap aZ ++ rest) 108:=by rw[hwX];exact St0.out.blk.alloc _
    have hC:=HR.out (l.take j) x wX (HK.out _ _ _ St0.out.st kiX) (au hBr2 kiX.bel.size) (by simp;omega);unfold itV at hC;have Htk:=ae (show l.take j ++ [x]=l.take (j+1) by rw[List.take_succ_eq_append_getElem hjl,hx]);generalize hpd:pd x=b at hC;have HC:=ae hC;have Hpd:=ae hpd;have HwX:=ae hwX;have KiX:=ae kiX;have KX:=ae kX;have Kg:=ae kg;have Hx:=ae hx;obtain⟨q0,q1,q2,q3⟩:=cell4 kX;rw[hwX] at q0 q1 q2 q3;clear hC hpd hwX kiX kX kg hc hx hcx;go_wp2_with fail;rw[<- HwX.out];refine HC.out.mono ?_;rintro e w2 ⟨rfl,hst2,hkg2⟩;rw[Htk.out] at hst2;have hx2:=hkg2.blk _ _ _ KX.out (by decide) (by decide);have hg2:=hkg2.blk _ _ _ Kg.out (by decide) (by decide);have hki2:dj B B2 w w2:=St0.out.keep.trans (KiX.out.gi.trans (hkg2.gi hBB));have hile:=St0.out.ile
    have hdj:cl.drop (j+1)=l.drop (j+1):=by
     have:=congrArg (List.drop 1) St0.out.drop;simpa[List.drop_drop,Nat.add_comm] using this
    have hfj:=fx (fun x=>!pd x) l j hjl;rw[Hx.out,Hpd.out] at hfj;clear x0 x1 x2 x3 q0 q1 q2 q3 HC;cases b with
    | true=>
      have Hst:=ae (show jy St pd B B2 g w w2 l rest cl i (j+1) from by
       have hf:(l.take (j+1)).filter (fun x=>!pd x)=(l.take j).filter fun x=>!pd x:=by rw[hfj];simp
       exact⟨hg2,St0.out.len,hdj,by rw[hf];exact St0.out.take,by omega,by rw[hf];exact St0.out.ilen,hst2,hki2⟩)
      clear hx2 hg2 hki2 hdj hfj hst2 hkg2;go_wp2_with fail
      go_roundw
      case rel=>exact⟨i,j+1,cl,by omega,rfl,by go_num,Hst.out⟩
      case measure=>simp[intOf];omega
    | false=>
      obtain⟨q0,q1,q2,q3⟩:=cell4 hx2;have hic:i < cl.length:=by omega
      have hLl:(cl.flatMap aZ ++ rest).length=cl.length * 4+rest.length:=by rw[ax,bI aZ 4 br]
      obtain⟨z0,y0⟩:∃ z,w2.cell? ⟨g,i * 4,none⟩=some z:=⟨_,(hg2.cell (i * 4)).trans (List.getElem?_eq_getElem (by omega))⟩
      obtain⟨z1,y1⟩:∃ z,w2.cell? ⟨g,i * 4+1,none⟩=some z:=⟨_,(hg2.cell (i * 4+1)).trans (List.getElem?_eq_getElem (by omega))⟩
      obtain⟨z2,y2⟩:∃ z,w2.cell? ⟨g,i * 4+2,none⟩=some z:=⟨_,(hg2.cell (i * 4+2)).trans (List.getElem?_eq_getElem (by omega))⟩
      obtain⟨z3,y3⟩:∃ z,w2.cell? ⟨g,i * 4+3,none⟩=some z:=⟨_,(hg2.cell (i * 4+3)).trans (List.getElem?_eq_getElem (by omega))⟩
      have f0:=hg2.free (i * 4);have f1:=hg2.free (i * 4+1);have f2:=hg2.free (i * 4+2);have f3:=hg2.free (i * 4+3)
      obtain⟨w3,hw3⟩:∃ w3,w3=(((w2.setCell ⟨g,i * 4,none⟩ (.string ⟨x.key.toArray⟩)).setCell ⟨g,i * 4+1,none⟩ (.int .i64 x.dev)).setCell ⟨g,i * 4+2,none⟩ (.int .i64 x.seq)).setCell ⟨g,i * 4+3,none⟩ (.int .i64 x.val):=⟨_,rfl⟩
      have s1:=hg2.set (i * 4) (.string ⟨x.key.toArray⟩);have s2:=s1.set (i * 4+1) (.int .i64 x.dev);have s3:=s2.set (i * 4+2) (.int .i64 x.seq);have s4:=s3.set (i * 4+3) (.int .i64 x.val);rw[i8 x rest cl i hic,<- hw3] at s4
      have ki3:cK B w2 w3:=by
       rw[hw3];exact(((cK.set hg2 hgB _).trans (cK.set s1 hgB _)).trans (cK.set s2 hgB _)).trans (cK.set s3 hgB _)
      have Hst:=ae (show jy St pd B B2 g w w3 l rest (cl.set i x) (i+1) (j+1) from by
       have hf:(l.take (j+1)).filter (fun x=>!pd x)=((l.take j).filter fun x=>!pd x) ++ [x]:=by rw[hfj];rfl
       refine⟨s4,by rw[List.length_set];exact St0.out.len,by rw[List.drop_set_of_lt (by omega)];exact hdj,?_,by omega,by rw[hf,ax,<- St0.out.ilen];rfl,HK.out _ _ _ hst2 ki3,hki2.trans ki3.gi⟩;rw[hf,<- St0.out.take,List.take_succ_eq_append_getElem (by simpa using hic)]
       simp[List.take_set_of_le (aq i)])
      have Hw3:=ae hw3;clear hx2 hg2 hki2 hdj hfj hst2 hkg2 hw3 s1 s2 s3 s4 ki3 hLl;go_wp2_with fail;rw[<- Hw3.out];clear q0 q1 q2 q3 y0 y1 y2 y3 f0 f1 f2 f3
      go_roundw
      case rel=>exact⟨i+1,j+1,cl.set i x,by omega,by go_num,by go_num,Hst.out⟩
      case measure=>simp[intOf];omega
   ·have hjI:¬ (j:Int) < (n:Int):=by omega
    obtain rfl:j=n:=by omega
    have hfin:l.take j=l:=by rw[<- Hn.out,List.take_length]
    have ht:=St0.out.take;have hi:=St0.out.ilen;have hst:=St0.out.st;rw[hfin] at ht hi hst;have hile:=St0.out.ile;have Hst:=ae hst;have Ht:=ae ht;have Hi:=ae hi;clear hfin ht hi hst;have hLl:(cl.flatMap aZ ++ rest).length=cl.length * 4+rest.length:=by rw[ax,bI aZ 4 br]
    have hcl:=St0.out.len;rw[Hn.out] at hcl
    by_cases hci:cap=i
    ·obtain⟨wf,L',hrc,hb',hl',ht',hk'⟩:=ej wr 0 g 0 (j - i) 0 _ St0.out.blk hgB (by omega)
     have Hfin:=ae (show gW g m (l.filter fun x=>!pd x) wf /\ St l wf /\ dj B B2 w wf from by
      refine⟨⟨L',hb',?_,?_⟩,HK.out _ _ _ Hst.out hk',St0.out.keep.trans hk'.gi⟩
      ·rw[hl',hLl,<- Hm.out,ax,bI aZ 4 br,St0.out.len]
      ·rw[<- Hi.out,ht' (i * 4) (.inr (by omega)),<- Ht.out,List.take_append_of_le_length (by rw[bI aZ 4 br];omega)]
       exact fJ cl i)
     have Hrc:=ae hrc;clear hb' hl' ht' hk' hLl hcl;go_wp2_with fail
     go_ret
     exact⟨⟨by rw[<- Hi.out];rfl,Hfin.out.1,Hfin.out.2.1⟩,Hfin.out.2.2⟩
    ·obtain⟨wf,L',hrc,hb',hl',ht',hk'⟩:=ej wr 0 g (i * 4) (j - i) (cap - i) _ St0.out.blk hgB (by omega)
     have Hfin:=ae (show gW g m (l.filter fun x=>!pd x) wf /\ St l wf /\ dj B B2 w wf from by
      refine⟨⟨L',hb',?_,?_⟩,HK.out _ _ _ Hst.out hk',St0.out.keep.trans hk'.gi⟩
      ·rw[hl',hLl,<- Hm.out,ax,bI aZ 4 br,St0.out.len]
      ·rw[<- Hi.out,ht' (i * 4) (.inl (aq _)),<- Ht.out,List.take_append_of_le_length (by rw[bI aZ 4 br];omega)]
       exact fJ cl i)
     have Hrc:=ae hrc;clear hb' hl' ht' hk' hLl hcl;go_wp2_with fail
     go_ret
     exact⟨⟨by rw[<- Hi.out];rfl,Hfin.out.1,Hfin.out.2.1⟩,Hfin.out.2.2⟩
 ·have hf:l.filter (fun x=>!pd x)=l:=List.filter_eq_self.2 fun y hy=>by rw[hall y hy];rfl
  have Hf:=ae hf;have Hst:=ae hst;clear hf hall hst;go_wp2_with fail
  go_ret
  refine⟨⟨?_,⟨_,Hkg.out.blk _ _ _ Hg.out (by decide) (by decide),Hm.out,by rw[Hf.out,List.take_append_of_le_length (by rw[bI aZ 4 br];exact aq _),List.take_of_length_le (by rw[bI aZ 4 br];exact aq _)]⟩,Hst.out⟩,(Hkg.out.gi hBB)⟩;rw[Hf.out,Hn.out];rfl
theorem o9 {m:RMap} (f:Formed m) {d:Int} {l:List RKey} (ha:Allowed d l):Bnd (forgetM m d l) /\ (∀ x ∈ (forgetM m d l).items,x.key.length <= 400) /\ ∀ x ∈ (forgetM m d l).gone,x.key.length <= 400:=by
 have b:=bnd_formed f;have ki:∀ x ∈ m.items,x.key.length <= 400:=fun x hx=>keyOk_len (known_key (f.iknown x hx))
 have kg:∀ x ∈ m.gone,x.key.length <= 400:=fun x hx=>keyOk_len (known_key (f.gknown x hx))
 have hi:∀ x ∈ (forgetM m d l).items,x ∈ m.items:=fun x hx=>(List.mem_filter.1 hx).1
 have hg:∀ g ∈ (forgetM m d l).gone,g.key.length <= 400 /\ cw g.dev /\ cw g.seq:=fun g hg=>by
  rcases forget_gmem f hg with ⟨x,hx,-,rfl⟩ | hg
  ·exact⟨ki x hx,(b.itemsB x hx).2.1,(b.itemsB x hx).2.2.1⟩
  ·exact⟨kg g hg,(b.goneB g hg).2⟩
 exact⟨⟨fun n hn=>by have:=up_bnd f ha.lo ha.hi n hn;exact i64ok_of (by omega),fun x hx=>b.itemsB x (hi x hx),fun g hh=>⟨by have:=(hg g hh).1;omega,(hg g hh).2⟩⟩,fun x hx=>ki x (hi x hx),fun g hh=>(hg g hh).1⟩
end Go.Proofs.YtobjdpngnfbicaaGreatDoor
