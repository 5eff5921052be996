/-
  UTorn UKT RInt
-/
import Derived.Test.YtobjdpngnfbicaaGreatDoorZK18
import Derived.Test.YtobjdpngnfbicaaGreatDoorZK08
import Derived.Test.YtobjdpngnfbicaaGreatDoorZK19
import Derived.Test.YtobjdpngnfbicaaGreatDoorZK40
import Derived.Test.YtobjdpngnfbicaaGreatDoorZK42
import Derived.Test.YtobjdpngnfbicaaGreatDoorZK25
import Derived.Test.YtobjdpngnfbicaaGreatDoorZK23
open Go.Lib renaming hid->ae
open Go.IntWalk renaming i64_in->af,u8_in->ap
open Nat renaming le_refl->aq,le_trans->au,lt_of_lt_of_le->aw
open Go.Proofs.Tryz renaming prog->aC
namespace Go.Proofs.YtobjdpngnfbicaaGreatDoor
open Go.RowKit
set_option linter.unusedVariables false
set_option maxRecDepth 20000
section
attribute [local go_sem ↓] fl
attribute [local go_sem] opC upC
def jF (c:UInt8):List UInt8:=(List.range 64).map fun i=>c+UInt8.ofNat i
def ia (c:UInt8) (k:Nat):List Value:=(List.range 64).map fun i=>if i < k then B (c+UInt8.ofNat i) else B 0
theorem pJ (c:UInt8):ia c 0=List.replicate 64 (B 0):=by
 unfold ia;apply List.ext_getElem
 ·simp
 ·intro i h1 h2;simp only[List.getElem_map,List.getElem_range,List.getElem_replicate];rw[if_neg (by omega)]
theorem qX (c:UInt8) (k:Nat) (h:k < 64):(ia c k).set k (B (c+UInt8.ofNat k))=ia c (k+1):=by
 unfold ia;apply List.ext_getElem
 ·simp
 ·intro i h1 h2;rw[List.getElem_set];simp only[List.getElem_map,List.getElem_range]
  by_cases hki:k=i
  ·subst hki;rw[if_pos rfl,if_pos (by omega)]
  ·rw[if_neg hki]
   by_cases hlt:i < k
   ·rw[if_pos hlt,if_pos (by omega)]
   ·rw[if_neg hlt,if_neg (by omega)]
theorem pK (c:UInt8):ia c 64=(jF c).map B:=by
 unfold ia jF;apply List.ext_getElem
 ·simp
 ·intro i h1 h2;simp only[List.getElem_map,List.getElem_range];simp at h1;rw[if_pos h1]
theorem tb (c:UInt8) (k:Nat):B (c+UInt8.ofNat k)=.int .u8 (IntKind.u8.wrap ((c.toNat:Int)+(k:Int))):=by
 have e:c+UInt8.ofNat k=UInt8.ofNat (c.toNat+k):=by
  apply UInt8.toNat_inj.1;simp
 rw[e,iD]
 congr 1
theorem jh (c:UInt8):(jF c).length=64:=by simp[jF]
theorem lV (w:World) (c:UInt8):
 Calls aC 14 #[.int .u8 (c.toNat:Int)] w fun e w'=>∃ g,e=.returned (.slice (some ⟨g,0,none⟩) 64 64) /\ w.heap.size <= g /\ Blk w' g ((jF c).map B) 5 /\ Below w.heap.size w w':=by
 obtain⟨w1,hmk,hb1,hk1⟩:=j9 w 64 (by omega);rw[show ((64:Nat):Int)=64 from rfl] at hmk;have Hb1:=ae hb1;have Hk1:=ae hk1;clear hb1 hk1
 go_enter Tryz.func14,Tryz.ntmps14
 go_wp2_with fail;clear hmk
 go_loopw [4] (fun i wr=>∃ k:Nat,k <= 64 /\ i=.int .i64 (k:Int) /\ Blk wr w.heap.size (ia c k) 5 /\ Below w.heap.size w wr) (fun i _=>64 - (intOf i).toNat)
 case atStart=>exact⟨0,by omega,rfl,by rw[pJ];exact Hb1.out,Hk1.out⟩
 case round=>
  obtain⟨k,hk,rfl,hbk,hbw⟩:=hrel
  by_cases hkl:k < 64
  ·have hklI:(k:Int) < 64:=by omega
   have cc:∃ x,wr.cell? ⟨w.heap.size,k,none⟩=some x:=by
    have:=hbk.cell k;have hl:k < (ia c k).length:=by simp[ia];exact hkl
    rw[List.getElem?_eq_getElem hl] at this;exact⟨_,this⟩
   obtain⟨x,cc⟩:=cc;have cf:=hbk.free k;have hset:=hbk.set k (B (c+UInt8.ofNat k));rw[qX c k hkl,tb] at hset;have hwk:IntKind.u8.wrap (k:Int)=(k:Int):=ap _ (by omega);have Hset:=ae hset;clear hset hbk;go_wp2_with fail
   go_roundw
   case rel=>exact⟨k+1,by omega,by go_num,Hset.out,hbw.setCell (aq _) _⟩
   case measure=>simp[intOf];omega
  ·obtain rfl:k=64:=by omega
   rw[pK] at hbk;have Hbk:=ae hbk;clear hbk;go_wp2_with fail
   go_ret
   exact⟨_,rfl,aq _,Hbk.out,hbw⟩
theorem lW {w:World} {g:Nat} {l:List UInt8} {F:aV} (h:Blk w g (l.map B) 5) (hF:F g) (hl:l.length=64):Bytes F w (.slice (some ⟨g,0,none⟩) 64 64) l:=by
 refine⟨some ⟨g,0,none⟩,64,by rw[hl],by omega,by unfold maxLen;omega,nofun,.inr ⟨g,0,_,_,_,rfl,hF,h,by simp,fun i hi=>by simp[hi]⟩⟩
end
section
open Go.Lib
theorem Rows.both {F G:aV} {w:World} {k n:Nat} {v:Value} {X:List Value} (h:Rows F w k v n X) (h':Rows G w k v n X):Rows (fun q=>F q /\ G q) w k v n X:=by
 obtain⟨a,cap,rfl,q1,q2,q3,q4,q5⟩:=h;obtain⟨a',cap',e,-,-,-,-,r5⟩:=h';refine⟨a,cap,rfl,q1,q2,q3,q4,?_⟩;rcases q5 with h0 | ⟨b,off,L,t,fz,rfl,hb,hg,hle,hr⟩
 ·exact .inl h0
 ·rcases r5 with h0 | ⟨b',off',L',t',fz',rfl,hb',-⟩
  ·exact .inl h0
  ·have e2:b=b':=by simp at e;exact e.1.1
   subst e2;exact .inr ⟨b,off,L,t,fz,rfl,⟨hb,hb'⟩,hg,hle,hr⟩
theorem bJ.both {F G:aV} {w:World} {s1 s2 s3:Value} {m:RMap} (h:bJ F w s1 s2 s3 m) (h':bJ G w s1 s2 s3 m):bJ (fun q=>F q /\ G q) w s1 s2 s3 m:=
 ⟨h.seen.both h'.seen,h.items.both h'.items,h.gone.both h'.gone,h.seenB,h.itemsB,h.goneB⟩
def Kp (w w':World):Prop:=∀ (q:Nat) (L:Array Value) (t:TypeId) (fz:Nat × Nat),w.heap[q]?=some (Obj.cells L t fz) -> ¬ TJ t -> t≠93 -> w'.heap[q]?=w.heap[q]?
theorem Kp.of_below {w w':World} (h:Below w.heap.size w w'):Kp w w':=fun q L t fz hq _ _=>h.block q (lt_of_block hq)
theorem Kp.trans {a b c:World} (h:Kp a b) (k:Kp b c):Kp a c:=fun q L t fz hq h1 h2=>(k q L t fz ((h q L t fz hq h1 h2).trans hq) h1 h2).trans (h q L t fz hq h1 h2)
theorem Kp.box {w w':World} (h:Kp w w') {q:Nat} {L:List Value} (hb:Blk w q L 37):Blk w' q L 37:=hb.keep (h q _ _ _ hb o8 (by decide))
theorem Kp.nj {w w':World} (h:Kp w w') {q:Nat} (hq:NJ w q):w'.heap[q]?=w.heap[q]?:=by
 obtain⟨L,t,fz,h1,h2,h3,-⟩:=hq;exact h q L t fz h1 h2 h3
theorem Kp.rows {w w':World} (h:Kp w w') {s1 s2 s3:Value} {m:RMap} (hm:bJ (NJ w) w s1 s2 s3 m):bJ (NJ w') w' s1 s2 s3 m:=
 (hm.keep (w':=w') fun q hq _=>h.nj hq).mono fun q hq _=>dz hq (h.nj hq)
theorem qd {w w':World} {jk:JK} {u:Nat} {M:MD} {U:MU} (hU:UAt w jk u M U) (ho:aK (fun q=>jk.all q \/ q=u) w w'):Kp w w':=fun q L t fz hq h1 h2=>ho.block q (lt_of_block hq) fun hh=>by
 rcases hh with hh | rfl
 ·obtain⟨L',t',fz',k1,k2⟩:=hU.typ q hh;rw[hq] at k1;injection k1 with k1
  injection k1 with _ k1
  subst k1;exact h1 k2
 ·obtain⟨b1,c1,b2,c2,b3,c3,hb,-⟩:=hU.box;unfold Blk at hb;rw[hq] at hb;injection hb with hb
  injection hb with _ hb
  exact h2 hb
theorem tc (w:World) (hL:dF w) (lo d u:Nat) (M:MD) (U:MU) (h:UX w lo d u M U) (hd:U.dev < 8) (hv:validR U.m=true) (F:aV) (kv:Value) (l:List RKey) (hl:Rows F w 1 kv l.length (l.map Go.Proofs.encStr)) (hln:l.length <= 1000) (hkl:∀ k ∈ l,k.length <= 1000) (hw:M.writes+200000 < 4611686018427387904):
 Calls aC 23 #[.pointer (some ⟨u,0,none⟩),kv] w fun e w'=>e=.returned (.int .i64 (cq M U l).2.2) /\ UX w' lo d u (cq M U l).1 (cq M U l).2.1 /\ Below lo w w' /\ Kp w w':=by
 obtain⟨jk,h1,h2,h3,h4,h5,h6⟩:=h;refine(jc w hL.2.1 hL.2.2 hL.1 jk u M U h6 hd hv F kv l hl hln hkl hw).mono ?_;intro e w' hp;obtain⟨k1,k2,k3⟩:=hp.ux h1 h2 h3 h4 h5;obtain⟨-,jk',-,-,-,-,ho⟩:=hp;exact⟨k1,k2,k3,qd h6 ho⟩
theorem tW (w:World) (lo d u:Nat) (M:MD) (U:MU) (h:UX w lo d u M U):
 Calls aC 25 #[.pointer (some ⟨d,0,none⟩)] w fun e w'=>e=.returned (.tuple #[]) /\ DX4 w' lo d { M with down:=false } /\ Below lo w w' /\ Kp w w':=by
 obtain⟨jk,rfl,h2,h3,h4,h5,h6⟩:=h;refine(tk w jk.K M h6.jat.disk).mono ?_;rintro e w' ⟨rfl,hd',ho,hz⟩;have hb:Below lo w w':=ho.below (fun b hb=>h4 b (.inr (.inl hb))) h3;exact⟨rfl,⟨jk.K,rfl,h2,au h3 hb.size,fun b hb=>h4 b (.inr (.inl hb)),hd'⟩,hb,qd h6 (ho.mono fun b hb=>.inl (.inr (.inl hb)))⟩
def tT (w:World) (lo d u:Nat) (M:MD) (U:MU) (e:Ending) (w':World):Prop:=∃ (r:Int) (M2:MD),e=.returned (.int .i64 r) /\ UX w' lo d u M2 U /\ ei M2 U /\ M2.down=M.down /\ M2.writes=M.writes /\ Below lo w w'
theorem sx (w:World) (lo d u:Nat) (M:MD) (U:MU) (h:UX w lo d u M U) (hI:ei M U) (n:Int) (hn:cw n) (g:Nat) (l:List UInt8) (hv:Blk w g (l.map B) 5) (hl:l.length=64) (ht:cd l=false):
 Calls aC 15 #[.pointer (some ⟨d,0,none⟩),.int .i64 n,.slice (some ⟨g,0,none⟩) 64 64] w (tT w lo d u M U):=by
 by_cases h0:n < 0
 ·obtain⟨jk,rfl,h2,h3,h4,h5,h6⟩:=id h;refine(rj w jk.K n (some ⟨g,0,none⟩) 64 64 (by omega) (.inl h0)).mono ?_;rintro e w' ⟨rfl,rfl⟩;exact⟨_,M,rfl,h,hI,rfl,rfl,Below.refl _ _⟩
 ·refine(s6 w lo d u M U h n (by omega) (by have:=hn.2;omega) (fun _=>True) _ l (lW hv trivial hl) hl).mono ?_;rintro e w' ⟨rfl,hU,hb⟩;exact⟨_,_,rfl,hU,hI.fail _ _ ht,rfl,rfl,hb⟩
theorem pL {M:MD} {U:MU} (l:List RKey) (h:U.J.dead=true):cq M U l=(M,U,8):=by
 unfold cq cT;rw[if_pos h]
end
end Go.Proofs.YtobjdpngnfbicaaGreatDoor
namespace Go.Proofs.YtobjdpngnfbicaaGreatDoor
open Go.RowKit
set_option linter.unusedVariables false
set_option maxRecDepth 20000
def bit1 (r:BitVec 32):BitVec 32:=(r >>> 1) ^^^ (if r.getLsbD 0 then 0xEDB88320#32 else 0#32)
theorem bit1_xor (a b:BitVec 32):bit1 (a ^^^ b)=bit1 a ^^^ bit1 b:=by
 unfold bit1;rw[BitVec.getLsbD_xor];have h:(a ^^^ b) >>> 1=(a >>> 1) ^^^ (b >>> 1):=BitVec.ushiftRight_xor_distrib a b 1;rw[h];generalize a >>> 1=p;generalize b >>> 1=q;generalize (0xEDB88320#32)=c;cases a.getLsbD 0 <;> cases b.getLsbD 0
 ·simp
 ·simp[BitVec.xor_assoc]
 ·simp only[Bool.xor_false,if_true,Bool.false_eq_true,if_false,BitVec.xor_zero];rw[BitVec.xor_assoc,BitVec.xor_comm q c,<- BitVec.xor_assoc]
 ·simp only[Bool.xor_self,if_true,Bool.false_eq_true,if_false,BitVec.xor_zero];rw[BitVec.xor_assoc,BitVec.xor_comm q c,<- BitVec.xor_assoc c c q,BitVec.xor_self,BitVec.zero_xor]
theorem bit1_even (q:BitVec 32) (h:q.getLsbD 0=false):bit1 q=q >>> 1:=by
 unfold bit1;rw[h];simp
def bit4 (r:BitVec 32):BitVec 32:=bit1 (bit1 (bit1 (bit1 r)))
theorem bit4_xor (a b:BitVec 32):bit4 (a ^^^ b)=bit4 a ^^^ bit4 b:=by
 unfold bit4;rw[bit1_xor,bit1_xor,bit1_xor,bit1_xor]
theorem shr_bit (q:BitVec 32) (n:Nat):(q >>> n).getLsbD 0=q.getLsbD n:=by
 rw[BitVec.getLsbD_ushiftRight];simp
theorem bit4_high (r:BitVec 32):bit4 ((r >>> 4) <<< 4)=r >>> 4:=by
 have hb:∀ i,i < 4 -> ((r >>> 4) <<< 4).getLsbD i=false:=fun i hi=>by
  rw[BitVec.getLsbD_shiftLeft];simp[hi]
 unfold bit4;rw[bit1_even _ (hb 0 (by omega))];rw[bit1_even ((r >>> 4) <<< 4 >>> 1) (by rw[shr_bit];exact hb 1 (by omega))];rw[bit1_even ((r >>> 4) <<< 4 >>> 1 >>> 1) (by rw[<- BitVec.shiftRight_add,shr_bit];exact hb 2 (by omega))];rw[bit1_even ((r >>> 4) <<< 4 >>> 1 >>> 1 >>> 1) (by rw[<- BitVec.shiftRight_add,<- BitVec.shiftRight_add,shr_bit];exact hb 3 (by omega))];rw[<- BitVec.shiftRight_add,<- BitVec.shiftRight_add,<- BitVec.shiftRight_add];apply BitVec.eq_of_getLsbD_eq;intro i hi;rw[BitVec.getLsbD_ushiftRight,BitVec.getLsbD_shiftLeft]
 by_cases h:4+i < 32
 ·simp[h]
 ·have:(r >>> 4).getLsbD i=false:=by rw[BitVec.getLsbD_ushiftRight];exact BitVec.getLsbD_of_ge _ _ (by omega)
  rw[this];simp[h]
theorem split4 (r:BitVec 32):r=((r >>> 4) <<< 4) ^^^ (r &&& 15#32):=by
 apply BitVec.eq_of_getLsbD_eq;intro i hi;rw[BitVec.getLsbD_xor,BitVec.getLsbD_shiftLeft,BitVec.getLsbD_and]
 by_cases h:i < 4
 ·have:(15#32).getLsbD i=true:=by
   have:i=0 \/ i=1 \/ i=2 \/ i=3:=by omega
   rcases this with rfl | rfl | rfl | rfl <;> decide
  simp[h,this]
 ·have h15:(15#32).getLsbD i=false:=by
   rw[BitVec.getLsbD_ofNat];have:Nat.testBit 15 i=false:=Nat.testBit_lt_two_pow (aw (by decide:15 < 2 ^ 4) (Nat.pow_le_pow_right (by omega) (by omega)));simp[this]
  rw[h15,BitVec.getLsbD_ushiftRight];simp[h,hi]
  congr 1
  omega
theorem bit4_nib (r:BitVec 32):bit4 r=nib r:=by
 have hlow:∀ m:Nat,m < 16 -> bit4 (BitVec.ofNat 32 m)=fc.getD m 0#32:=by decide
 have hm:(r &&& 15#32).toNat < 16:=by
  rw[BitVec.toNat_and];exact Nat.lt_of_le_of_lt Nat.and_le_right (by decide)
 have h1:=hlow _ hm;rw[BitVec.ofNat_toNat,BitVec.setWidth_eq] at h1;have h2:bit4 r=bit4 ((r >>> 4) <<< 4) ^^^ bit4 (r &&& 15#32):=by rw[<- bit4_xor,<- split4]
 rw[h2,bit4_high,h1];rfl
def bitN:Nat -> BitVec 32 -> BitVec 32
 | 0,r=>r
 | n+1,r=>bit1 (bitN n r)
theorem bitN_eight (r:BitVec 32):bitN 8 r=nib (nib r):=by
 rw[<- bit4_nib,<- bit4_nib];rfl
theorem bit1_walk (x:BitVec 32):((x.toNat:Int) % 2=1 -> Go.bits .xor .u32 ((x.toNat:Int) / 2) 3988292384=((bit1 x).toNat:Int)) /\ (¬ (x.toNat:Int) % 2=1 -> (x.toNat:Int) / 2=((bit1 x).toNat:Int)):=by
 have hl:x.getLsbD 0=decide (x.toNat % 2=1):=by
  rw[BitVec.getLsbD,Nat.testBit_zero]
 have hs:(x >>> 1).toNat=x.toNat / 2:=by
  rw[BitVec.toNat_ushiftRight,Nat.shiftRight_eq_div_pow]
 constructor
 ·intro h;have h':x.toNat % 2=1:=by omega
  have hx:=fF (x >>> 1) 0xEDB88320#32;rw[hs] at hx;have e:(((0xEDB88320#32).toNat:Nat):Int)=3988292384:=by decide
  rw[e] at hx;unfold bit1;rw[hl,h'];simp only[decide_true,if_true];rw[<- hx]
  congr 1
 ·intro h;have h':¬ x.toNat % 2=1:=by omega
  unfold bit1;rw[hl];simp only[h',decide_false];simp only[Bool.false_eq_true,if_false,BitVec.xor_zero,hs];omega
theorem step_any (w:World) (x:BitVec 32):
 Calls aC 152 #[.int .u32 (x.toNat:Int)] w fun e w'=>e=.returned (.int .u32 ((nib (nib x)).toNat:Int)) /\ w=w':=by
 rw[<- bitN_eight]
 go_enter Tryz.func152,Tryz.ntmps152
 go_wp2_with fail
 go_loop [0,3] (fun r i=>∃ k:Nat,k <= 8 /\ i=.int .i64 (k:Int) /\ r=.int .u32 ((bitN k x).toNat:Int)) (fun _ i=>8 - (intOf i).toNat)
 case atStart=>exact⟨0,by omega,rfl,rfl⟩
 case round=>
  obtain⟨k,hk,rfl,rfl⟩:=hrel
  by_cases hkl:k < 8
  ·have hkI:(k:Int) < 8:=by omega
   obtain⟨h1,h2⟩:=bit1_walk (bitN k x);have hs:bitN (k+1) x=bit1 (bitN k x):=rfl;have hlt:((bitN k x).toNat:Int) <= 4294967295:=by have:=(bitN k x).isLt;omega
   have Hs:=ae hs;generalize bitN k x=r at *
   obtain⟨z,hz⟩:∃ z:Int,(r.toNat:Int)=z:=⟨_,rfl⟩
   have hz0:0 <= z:=by omega
   rw[hz] at h1 h2 hlt ⊢;have htd:z.tdiv 2 % 4294967296=z / 2:=by rw[Int.tdiv_eq_ediv_of_nonneg hz0];omega
   have Hlt:=ae hlt;have Htd:=ae htd;clear hs hz hlt htd
   by_cases hm:z % 2=1
   ·have hm':(z % 2 == 1)=true:=by simp[hm]
    have e:=h1 hm;have Hm:=ae hm;clear h1 h2 hm;go_wp2_with fail
    go_round
    case rel=>exact⟨k+1,by omega,by go_num,by rw[Htd.out,e,Hs.out]⟩
    case measure=>simp[intOf];omega
   ·have hm':(z % 2 == 1)=false:=by simp[hm]
    have e:=h2 hm;have Hm:=ae hm;clear h1 h2 hm;go_wp2_with fail
    go_round
    case rel=>exact⟨k+1,by omega,by go_num,by rw[Htd.out,e,Hs.out]⟩
    case measure=>simp[intOf];omega
  ·obtain rfl:k=8:=by omega
   go_wp2_with fail
   go_ret
   exact⟨rfl,rfl⟩
theorem invert_any (w:World) (x:BitVec 32):
 Calls aC 151 #[.int .u32 (x.toNat:Int)] w fun e w'=>e=.returned (.int .u32 ((~~~ x).toNat:Int)) /\ w=w':=by
 have e:Go.bits .xor .u32 (x.toNat:Int) 4294967295=((~~~ x).toNat:Int):=by
  have h:=fF x (~~~ (0#32));have:(((~~~ (0#32)).toNat:Nat):Int)=4294967295:=by decide
  rw[this] at h;rw[h]
  congr 2
  rw[show ~~~ (0#32)=BitVec.allOnes 32 from by decide,BitVec.xor_allOnes]
 generalize ~~~ x=y at *
 go_enter Tryz.func151,Tryz.ntmps151
 go_wp2_with fail
 go_ret
 exact⟨rfl,rfl⟩
theorem refAdd_any (w:World) (F:aV) (v:Value) (l:List UInt8) (hv:Bytes F w v l):
 Calls aC 93 #[.int .u32 0,v] w fun e w'=>e=.returned (.int .u32 (crc l:Int)) /\ w=w':=by
 obtain⟨a,cap,rfl,hc,hm,hz,hx⟩:=hv;have hm':cap <= 9223372036854775807:=by unfold maxLen at hm;omega
 have hi:=invert_any w 0#32;rw[show (((0#32).toNat:Nat):Int)=0 from rfl] at hi
 obtain⟨s',hs'⟩:∃ s':BitVec 32,s' = ~~~ 0#32:=⟨_,rfl⟩
 rw[<- hs'] at hi
 obtain⟨y,hy⟩:∃ y:BitVec 32,y = ~~~ (jG s' l):=⟨_,rfl⟩
 have hcr:crc l=y.toNat:=by rw[hy,hs'];rfl
 rw[hcr];have HI:=ae hi;have Hy:=ae hy;clear hs' hcr hi hy
 go_enter Tryz.func93,Tryz.ntmps93
 go_wp2_with fail;refine HI.out.mono ?_;rintro e w' ⟨rfl,rfl⟩;clear HI;go_wp2_with fail
 go_loop [5,6] (fun r i=>∃ k:Nat,k <= l.length /\ i=.int .i64 (k:Int) /\ r=.int .u32 ((jG s' (l.take k)).toNat:Int)) (fun _ i=>l.length - (intOf i).toNat)
 case atStart=>exact⟨0,by omega,rfl,rfl⟩
 case round=>
  obtain⟨k,hk,rfl,rfl⟩:=hrel
  by_cases hkl:k < l.length
  ·obtain⟨b,off,L,t,fz,rfl,hF,hg,hle,hr⟩:=hx.resolve_left (by rintro rfl;simp at hkl);have cc:w.cell? ⟨b,off+k,none⟩=some (B l[k]):=by rw[cell_of_row w b _ L t fz hg];exact hr k hkl
   unfold B at cc;have hsn:=lE s' l k hkl;generalize hrr:jG s' (l.take k)=r at *;generalize l[k]=c at *;clear hr hx hg hrr;have e1:=nD r c;unfold sH at hsn;have HS:=ae (step_any w (r ^^^ BitVec.ofNat 32 c.toNat));generalize r ^^^ BitVec.ofNat 32 c.toNat=x at *;have Hsn:=ae hsn;clear hsn;have hkI:(k:Int) < (l.length:Int):=by omega
   go_wp2_with fail;refine HS.out.mono ?_;rintro e w' ⟨rfl,rfl⟩;go_wp2_with fail
   go_round
   case rel=>exact⟨k+1,by omega,by go_num,by rw[Hsn.out]⟩
   case measure=>simp[intOf];omega
  ·have hkI:¬ (k:Int) < (l.length:Int):=by omega
   obtain rfl:k=l.length:=by omega
   rw[List.take_of_length_le (aq _)];have hi:=invert_any w (jG s' l);rw[<- Hy.out] at hi;have HI:=ae hi;clear hi;go_wp2_with fail;refine HI.out.mono ?_;rintro e w' ⟨rfl,rfl⟩;go_wp2_with fail
   go_ret
   exact⟨rfl,rfl⟩
theorem refSum_any (w:World) (F:aV) (v:Value) (l:List UInt8) (hv:Bytes F w v l):
 Calls aC 47 #[v] w fun e w'=>e=.returned (.int .u32 (crc l:Int)) /\ w=w':=by
 have H:=refAdd_any w F v l hv;obtain⟨a,cap,rfl,-⟩:=hv;generalize crc l=c at *;have HH:=ae H;clear H
 go_enter Tryz.func47,Tryz.ntmps47
 go_wp2_with fail;refine HH.out.mono ?_;rintro e w' ⟨rfl,rfl⟩;go_wp2_with fail
 go_ret
 exact⟨rfl,rfl⟩
end Go.Proofs.YtobjdpngnfbicaaGreatDoor
/- The reference journal: numbers, check sums, halves, places. -/
namespace Go.Proofs.YtobjdpngnfbicaaGreatDoor
open Go.RowKit
set_option linter.unusedVariables false
set_option maxRecDepth 20000
attribute [local go_sem] opC upC
theorem rread_any (w:World) (F:aV) (v:Value) (l:List UInt8) (hv:Bytes F w v l) (at_:Nat) (hat:at_+4 <= l.length) (h16:at_ <= 1000):
 Calls aC 46 #[v,.int .i64 (at_:Int)] w fun e w'=>e=.returned (.int .i64 (bp l at_:Int)) /\ ∃ n,w.drewN n=w':=by
 obtain⟨a,cap,rfl,hc,hm,hz,hx⟩:=hv;obtain⟨b,off,L,t,fz,rfl,hF,hg,hle,hr⟩:=hx.resolve_left (by rintro rfl;simp at hat)
 have hcell:∀ i,i < 4 -> ∀ w',aI w.drew w' -> w'.cell? ⟨b,off+(at_+i),none⟩=some (.int .u8 ((l.getD (at_+i) 0).toNat:Int)):=fun i hi w' hl=>by
  have h1:w.cell? ⟨b,off+(at_+i),none⟩=some (B l[at_+i]):=by rw[cell_of_row w b _ L t fz hg];exact hr (at_+i) (by omega)
  have h2:=gE h1 hl;rw[h2,List.getD_eq_getElem?_getD,List.getElem?_eq_getElem (show at_+i < l.length by omega)];rfl
 have q0:=hcell 0 (by omega);have q1:=hcell 1 (by omega);have q2:=hcell 2 (by omega);have q3:=hcell 3 (by omega)
 have hrd:(bp l at_:Int)=((l.getD at_ 0).toNat:Int)+256 * ((l.getD (at_+1) 0).toNat:Int)+65536 * ((l.getD (at_+2) 0).toNat:Int)+16777216 * ((l.getD (at_+3) 0).toNat:Int):=by
  unfold bp;omega
 have b0:=(l.getD at_ 0).toNat_lt;have b1:=(l.getD (at_+1) 0).toNat_lt;have b2:=(l.getD (at_+2) 0).toNat_lt;have b3:=(l.getD (at_+3) 0).toNat_lt;simp only[Nat.add_zero] at q0
 obtain⟨z0,hz0⟩:∃ z:Int,((l.getD at_ 0).toNat:Int)=z:=⟨_,rfl⟩
 obtain⟨z1,hz1⟩:∃ z:Int,((l.getD (at_+1) 0).toNat:Int)=z:=⟨_,rfl⟩
 obtain⟨z2,hz2⟩:∃ z:Int,((l.getD (at_+2) 0).toNat:Int)=z:=⟨_,rfl⟩
 obtain⟨z3,hz3⟩:∃ z:Int,((l.getD (at_+3) 0).toNat:Int)=z:=⟨_,rfl⟩
 simp only[hz0,hz1,hz2,hz3] at q0 q1 q2 q3 hrd;have g0:0 <= z0 /\ z0 <= 255:=by omega
 have g1:0 <= z1 /\ z1 <= 255:=by omega
 have g2:0 <= z2 /\ z2 <= 255:=by omega
 have g3:0 <= z3 /\ z3 <= 255:=by omega
 rw[hrd];have hatI:(at_:Int)+3 < (l.length:Int):=by omega
 have hat0:(at_:Int) < (l.length:Int):=by omega
 have hat1:(at_:Int)+1 < (l.length:Int):=by omega
 have hat2:(at_:Int)+2 < (l.length:Int):=by omega
 have n1:0 <= (at_:Int)+1:=by omega
 have n2:0 <= (at_:Int)+2:=by omega
 have n3:0 <= (at_:Int)+3:=by omega
 have wr1:=af ((at_:Int)+1) (by omega);have wr2:=af ((at_:Int)+2) (by omega);have wr3:=af ((at_:Int)+3) (by omega);have hat16:(at_:Int) <= 1000:=by omega
 have e1:((at_:Int)+1).toNat=at_+1:=by omega
 have e2:((at_:Int)+2).toNat=at_+2:=by omega
 have e3:((at_:Int)+3).toNat=at_+3:=by omega
 clear hrd hz0 hz1 hz2 hz3 b0 b1 b2 b3 hcell hr hg hle hat
 go_enter Tryz.func46,Tryz.ntmps46
 go_wp2_with fail;refine aJ aI [(0,true),(1,true),(2,true),(3,true),(4,true),(5,true),(6,true),(7,true),(8,true),(9,true),(10,true),(11,true),(12,true),(13,true),(14,true),(15,true),(16,true),(17,true),(18,true),(19,true),(20,true),(21,true),(22,true),(23,true),(24,true),(25,true),(26,true),(27,true),(28,true),(29,true)] (by kernel_rfl) (by kernel_rfl) aH aG ?_
 repeat (refine aF (v:=?_) rfl (aD rfl) (fun w' hC=>?_) (fun K hK=>?_);rotate_left;(focus (go_simp;(try simp(disch:=omega) only[af]);first | done | exact rfl));go_simp;(try simp(disch:=omega) only[af]);refine hK _ ?_;clear hK K)
 refine aW ?_;go_wp2_with fail
 go_ret
 exact⟨rfl,1,rfl⟩
end Go.Proofs.YtobjdpngnfbicaaGreatDoor
/- The reference journal: check sums, halves, places, pieces' numbers. -/
namespace Go.Proofs.YtobjdpngnfbicaaGreatDoor
open Go.RowKit
set_option linter.unusedVariables false
set_option maxRecDepth 20000
attribute [local go_sem] opC upC
theorem drew_drewN (w:World) (n:Nat):w.drewN (n+1)=w.drew.drewN n:=by
 unfold World.drewN World.drew
 congr 1
 show w.drawn+(n+1)=w.drawn+1+n;omega
theorem rintact_any (w:World) (F:aV) (v:Value) (l:List UInt8) (hv:Bytes F w v l) (hl:l.length=64):
 Calls aC 13 #[v] w fun e w'=>e=.returned (.bool (cd l)) /\ ∃ n,w.drewN n=w':=by
 have hv1:Bytes F w.drew v l:=hv.keep fun _ _ _=>rfl
 have hrd:=rread_any w.drew F v l hv1 60 (by omega) (by omega);rw[show ((60:Nat):Int)=60 from rfl] at hrd;obtain⟨a,cap,rfl,hc,hm,-⟩:=id hv;have h60:=hv.take 60 (by omega);have hsum:∀ n,Calls aC 47 #[.slice a 60 cap] (w.drew.drewN n) fun e w'=>e=.returned (.int .u32 (crc (l.take 60):Int)) /\ w.drew.drewN n=w':=fun n=>refSum_any _ F _ _ (h60.keep fun _ _ _=>rfl)
 have hi:cd l=(bp l 60 == crc (l.take 60)):=rfl
 have hii:(((bp l 60:Nat):Int) == ((crc (l.take 60):Nat):Int))=cd l:=by
  rw[hi]
  by_cases he:bp l 60=crc (l.take 60)
  ·rw[beq_iff_eq.2 he,beq_iff_eq.2 (by omega)]
  ·rw[beq_eq_false_iff_ne.2 he,beq_eq_false_iff_ne.2 (by omega)]
 have hclt:=oF (l.take 60);rw[hl] at hrd;have Hrd:=ae hrd;have Hsum:=ae hsum;have hcI:(60:Int) <= (cap:Int):=by omega
 rw[hl];clear hrd hsum hi h60 hv1 hv hc hl;generalize crc (l.take 60)=c at *;generalize bp l 60=r at *;have hwr:=af ((c:Int)) (by omega);have Hclt:=ae hclt;clear hclt
 go_enter Tryz.func13,Tryz.ntmps13
 go_wp2_with fail;refine aJ aI [(0,true),(2,true),(3,true),(1,false),(4,false),(5,true),(6,true),(7,true)] (by kernel_rfl) (by kernel_rfl) aH aG ?_
 repeat (refine aF (v:=?_) rfl (aD rfl) (fun w' hC=>?_) (fun K hK=>?_);rotate_left;(focus (go_simp;first | done | exact rfl));go_simp;refine hK _ ?_;clear hK K)
 refine aQ rfl rfl (fun KK hK=>?_);go_simp;refine Hrd.out.mono ?_;rintro e w1 ⟨rfl,n1,hn1⟩;refine⟨_,rfl,by rw[<- hn1];exact Below.drewN' (Below.refl _ _) n1,hK _ _ ?_⟩;clear hK KK Hrd;go_simp;refine aQ rfl rfl (fun KK hK=>?_);go_simp;rw[<- hn1];refine(Hsum.out n1).mono ?_;rintro e w2 ⟨rfl,hw2⟩;refine⟨_,rfl,by rw[<- hw2];exact aH _,hK _ _ ?_⟩;clear hK KK Hsum hn1;go_simp
 repeat (refine aF (v:=?_) rfl (aD rfl) (fun w' hC=>?_) (fun K hK=>?_);rotate_left;(focus (go_simp;(try simp(disch:=omega) only[af]);first | done | exact rfl));go_simp;(try simp(disch:=omega) only[af]);refine hK _ ?_;clear hK K)
 refine aW ?_;go_wp2_with fail
 go_ret
 exact⟨rfl,n1+1,by rw[<- hw2];exact drew_drewN w n1⟩
end Go.Proofs.YtobjdpngnfbicaaGreatDoor
