/-
  Crc Sec Sec2
-/
import Derived.Test.YtobjdpngnfbicaaGreatDoorZK08
import Derived.Test.YtobjdpngnfbicaaGreatDoorZK18
import Derived.Test.YtobjdpngnfbicaaGreatDoorZK05
open Go.Lib renaming hid->ae
open Go.IntWalk renaming i64_in->af
open Nat renaming le_refl->aq
open Go.Proofs.Tryz renaming prog->aC
namespace Go.Proofs.YtobjdpngnfbicaaGreatDoor
open Go.RowKit
set_option linter.unusedVariables false
set_option maxRecDepth 20000
def eL:List Value:=fc.map fun q=>.int .u32 (q.toNat:Int)
def bQ (w:World):Prop:=∃ t fz,w.heap[0]?=some (.cells eL.toArray t fz)
theorem bQ.keep {w w':World} (h:bQ w) (he:w'.heap[0]?=w.heap[0]?):bQ w':=by
 obtain⟨t,fz,h⟩:=h;exact⟨t,fz,he.trans h⟩
theorem bQ.cell {w:World} (h:bQ w) (i:Nat) (hi:i < 16):w.cell? ⟨0,i,none⟩=some (.int .u32 ((fc.getD i 0#32).toNat:Int)):=by
 obtain⟨t,fz,h⟩:=h;rw[cell_of_row w 0 i _ t fz h];have:eL.length=16:=rfl;simp only[List.getElem?_toArray,eL,List.getElem?_map];rw[List.getD_eq_getElem?_getD,List.getElem?_eq_getElem (show i < fc.length from hi)];rfl
theorem fF (a b:BitVec 32):Go.bits .xor .u32 (a.toNat:Int) (b.toNat:Int)=((a ^^^ b).toNat:Int):=by
 have h:=(a ^^^ b).isLt;have e:∀ x:BitVec 32,BitVec.ofInt 32 (x.toNat:Int)=x:=fun x=>by simp
 show IntKind.u32.wrap ((BitVec.ofInt 32 (a.toNat:Int) ^^^ BitVec.ofInt 32 (b.toNat:Int)).toNat:Int)=_;rw[e a,e b];show ((a ^^^ b).toNat:Int) % 4294967296=_;omega
theorem oQ (a b:BitVec 32):Go.bits .and .u32 (a.toNat:Int) (b.toNat:Int)=((a &&& b).toNat:Int):=by
 have h:=(a &&& b).isLt;have e:∀ x:BitVec 32,BitVec.ofInt 32 (x.toNat:Int)=x:=fun x=>by simp
 show IntKind.u32.wrap ((BitVec.ofInt 32 (a.toNat:Int) &&& BitVec.ofInt 32 (b.toNat:Int)).toNat:Int)=_;rw[e a,e b];show ((a &&& b).toNat:Int) % 4294967296=_;omega
theorem nD (r:BitVec 32) (c:UInt8):Go.bits .xor .u32 (r.toNat:Int) ((c.toNat:Int) % 4294967296)=((r ^^^ BitVec.ofNat 32 c.toNat).toNat:Int):=by
 have hc:=c.toNat_lt;rw[<- fF]
 congr 1
theorem nE (x:BitVec 32):∃ i:Nat,i < 16 /\ Go.bits .and .u32 (x.toNat:Int) 15=(i:Int) /\ Go.bits .xor .u32 ((x.toNat:Int) / 16) ((fc.getD i 0#32).toNat:Int)=((nib x).toNat:Int):=by
 refine⟨(x &&& 15#32).toNat,?_,?_,?_⟩
 ·have:(x &&& 15#32).toNat <= 15:=by rw[BitVec.toNat_and];exact Nat.and_le_right
  omega
 ·exact oQ x 15#32
 ·have e:((x.toNat:Int) / (16:Int))=((x >>> 4).toNat:Int):=by
   rw[BitVec.toNat_ushiftRight,Nat.shiftRight_eq_div_pow];omega
  rw[e,fF];rfl
theorem nF (x:BitVec 32):Go.bits .xor .u32 IntKind.u32.max (x.toNat:Int)=((~~~ x).toNat:Int):=by
 have:IntKind.u32.max=((~~~ (0#32)).toNat:Int):=by decide
 rw[this,fF]
 congr 2
theorem lE (r:BitVec 32) (l:List UInt8) (k:Nat) (h:k < l.length):jG r (l.take (k+1))=sH (jG r (l.take k)) l[k]:=by
 unfold jG;rw[List.take_succ_eq_append_getElem h,List.foldl_append];rfl
theorem oR (w:World) (hq:bQ w) (F:aV) (v:Value) (l:List UInt8) (hv:Bytes F w v l) (s:BitVec 32):
 Calls aC 198 #[.int .u32 (s.toNat:Int),v] w fun e w'=>e=.returned (.int .u32 ((~~~ (jG (~~~ s) l)).toNat:Int)) /\ w=w':=by
 obtain⟨a,cap,rfl,hc,hm,hz,hx⟩:=hv;have hm':cap <= 9223372036854775807:=by unfold maxLen at hm;omega
 have hs0:=nF s
 obtain⟨s',hs'⟩:∃ s':BitVec 32,s' = ~~~ s:=⟨_,rfl⟩
 rw[<- hs'] at hs0 ⊢;clear hs'
 go_enter Tryz.func198,Tryz.ntmps198
 go_wp2_with fail;clear hs0
 go_loop [5,12] (fun r i=>∃ k:Nat,k <= l.length /\ i=.int .i64 (k:Int) /\ r=.int .u32 ((jG s' (l.take k)).toNat:Int)) (fun _ i=>l.length - (intOf i).toNat)
 case atStart=>exact⟨0,by omega,rfl,rfl⟩
 case round=>
  obtain⟨k,hk,rfl,rfl⟩:=hrel
  by_cases hkl:k < l.length
  ·obtain⟨b,off,L,t,fz,rfl,hF,hg,hle,hr⟩:=hx.resolve_left (by rintro rfl;simp at hkl);have cc:w.cell? ⟨b,off+k,none⟩=some (B l[k]):=by rw[cell_of_row w b _ L t fz hg];exact hr k hkl
   unfold B at cc;have hsn:=lE s' l k hkl;generalize hrr:jG s' (l.take k)=r at *;generalize l[k]=c at *;clear hr hx hg hrr;have e1:=nD r c;unfold sH at hsn;generalize r ^^^ BitVec.ofNat 32 c.toNat=x at *;obtain⟨i,hi,e2,e3⟩:=nE x;have c1:=hq.cell i hi;generalize nib x=y at *;obtain⟨j,hj,e4,e5⟩:=nE y;have c2:=hq.cell j hj;generalize nib y=z at *;generalize fc.getD i 0#32=q1 at *;generalize fc.getD j 0#32=q2 at *;have Hsn:=ae hsn;clear hsn;have hkI:(k:Int) < (l.length:Int):=by omega
   have hiI:(i:Int) < 16:=by omega
   have hjI:(j:Int) < 16:=by omega
   go_wp2_with fail
   go_round
   case rel=>exact⟨k+1,by omega,by go_num,by rw[Hsn.out]⟩
   case measure=>simp[intOf];omega
  ·have hkI:¬ (k:Int) < (l.length:Int):=by omega
   obtain rfl:k=l.length:=by omega
   rw[List.take_of_length_le (aq _)];have e1:=nF (jG s' l);go_wp2_with fail
   go_ret
   exact⟨rfl,rfl⟩
theorem kc (w:World) (hq:bQ w) (F:aV) (v:Value) (l:List UInt8) (hv:Bytes F w v l):
 Calls aC 154 #[v] w fun e w'=>e=.returned (.int .u32 (crc l:Int)) /\ w=w':=by
 have h:=oR w hq F v l hv 0#32;have H:Calls aC 198 #[.int .u32 0,v] w fun e w'=>e=.returned (.int .u32 (crc l:Int)) /\ w=w':=h
 obtain⟨a,cap,rfl,-⟩:=hv;generalize crc l=c at *;clear h;have HH:=ae H;clear H
 go_enter Tryz.func154,Tryz.ntmps154
 go_wp2_with fail;refine HH.out.mono ?_;rintro e w' ⟨rfl,rfl⟩;go_wp2_with fail
 go_ret
 exact⟨rfl,rfl⟩
section
attribute [local go_sem] opC upC
def SecAt (w:World) (b:Nat) (l:List UInt8):Prop:=Blk w b (l.map B) 137 /\ l.length=64
def ch (l:List UInt8) (at_:Nat) (x:List UInt8):List UInt8:=l.take at_ ++ x ++ l.drop (at_+x.length)
theorem fP (l:List UInt8) (at_:Nat) (x:List UInt8) (h:at_+x.length <= l.length):(ch l at_ x).length=l.length:=by simp[ch];omega
theorem qz (l:List UInt8) (at_:Nat) (x:List UInt8) (c:UInt8) (h:at_+x.length < l.length):(ch l at_ x).set (at_+x.length) c=ch l at_ (x ++ [c]):=by
 unfold ch;have hlen:(l.take at_ ++ x).length=at_+x.length:=by simp;omega
 rw[List.set_append_right _ _ (by omega),hlen,Nat.sub_self];have:l.drop (at_+x.length)=l[at_+x.length] :: l.drop (at_+x.length+1):=List.drop_eq_getElem_cons h;rw[this,List.set_cons_zero];simp[Nat.add_assoc]
theorem iD (n:Nat):B (UInt8.ofNat n)=.int .u8 ((n:Int) % 256):=by
 unfold B
 congr 1
theorem iE {w wr:World} {sb:Nat} {l:List UInt8} (hl:l.length=64) (at_ n:Nat) (hat:at_+4 <= 64) (k:Nat) (hk:k < 4) (z:Int) (hz:B ((bL n)[k]'(by rw[dl];exact hk))=.int .u8 z)
 (hb:Blk wr sb ((ch l at_ ((bL n).take k)).map B) 137) (ho:aK (fun b=>b=sb) w wr) (hs:wr.heap.size=w.heap.size):
 ∃ u,wr.cell? ⟨sb,at_+k,none⟩=some u /\ wr.frozen? ⟨sb,at_+k,none⟩=false /\
   Hid (Blk (wr.setCell ⟨sb,at_+k,none⟩ (.int .u8 z)) sb ((ch l at_ ((bL n).take (k+1))).map B) 137 /\ aK (fun b=>b=sb) w (wr.setCell ⟨sb,at_+k,none⟩ (.int .u8 z)) /\ (wr.setCell ⟨sb,at_+k,none⟩ (.int .u8 z)).heap.size=w.heap.size):=by
 have hx:((bL n).take k).length=k:=by rw[List.length_take,dl];omega
 have hset:=qz l at_ ((bL n).take k) ((bL n)[k]'(by rw[dl];exact hk)) (by rw[hx];omega);rw[hx,<- List.take_succ_eq_append_getElem] at hset;have hpl:(ch l at_ ((bL n).take k)).length=64:=by rw[fP _ _ _ (by rw[hx];omega),hl]
 have cc:=hb.cell (at_+k);rw[List.getElem?_eq_getElem (by simp;omega)] at cc;have hb2:=hb.set (at_+k) (B ((bL n)[k]'(by rw[dl];exact hk)));rw[<- List.map_set,hset,hz] at hb2;exact⟨_,cc,hb.free _,ae ⟨hb2,ho.setCell (.inl rfl) _,by simpa[World.setCell] using hs⟩⟩
theorem gj (w:World) (sb:Nat) (l:List UInt8) (h:SecAt w sb l) (at_ n:Nat) (hat:at_+4 <= 64) (hn:n < 4294967296):
 Calls aC 145 #[.pointer (some ⟨sb,0,none⟩),.int .i64 (at_:Int),.int .u32 (n:Int)] w fun e w'=>e=.returned (.tuple #[]) /\ SecAt w' sb (ch l at_ (bL n)) /\ aK (fun b=>b=sb) w w' /\ w'.heap.size=w.heap.size:=by
 obtain⟨hb,hl⟩:=h;have hnI:(n:Int) < 4294967296:=by omega
 go_enter Tryz.func145,Tryz.ntmps145
 go_wp2_with fail
 go_loopw [7] (fun i wr=>∃ k:Nat,k <= 4 /\ i=.int .i64 (k:Int) /\ Blk wr sb ((ch l at_ ((bL n).take k)).map B) 137 /\ aK (fun b=>b=sb) w wr /\ wr.heap.size=w.heap.size) (fun i _=>4 - (intOf i).toNat)
 case atStart=>exact⟨0,by omega,rfl,by simpa[ch] using hb,aK.refl _ _,rfl⟩
 case round=>
  obtain⟨k,hk,rfl,hbk,ho,hsz⟩:=hrel;have k4:k=0 \/ k=1 \/ k=2 \/ k=3 \/ k=4:=by omega
  rcases k4 with rfl | rfl | rfl | rfl | rfl
  ·
   obtain⟨u,cc,cf,Hst⟩:=iE (w:=w) hl at_ n hat 0 (by omega) ((n:Int) % 256) (iD n) hbk.drew ho.drew hsz;clear hbk ho hb;have hw1:=af (at_:Int) (by omega);have hw2:=af 0 (by omega);have hw3:0 <= (at_:Int):=by omega
   have hw4:(at_:Int) < 64:=by omega
   have hw5:IntKind.u8.wrap (n:Int)=((n:Int) % 256):=IntKind.wrap_u8 _;have hw6:((at_:Int)).toNat=at_+0:=by omega
   try simp only[Nat.add_zero] at cc cf Hst hw6
   go_wp2_with fail;refine bh aI 11 [(0,true),(1,true),(2,true),(3,true),(4,true),(5,true),(6,true),(7,true),(8,true),(9,true),(10,true),(11,false)] (by kernel_rfl) (by kernel_rfl) (by kernel_rfl) aH aG ?_
   repeat (refine aX (v:=?_) rfl (aD rfl) (fun w' hC=>?_) (fun K hK=>?_);rotate_left;(focus (go_simp;first | done | exact rfl));go_simp;refine hK _ ?_;clear hK K)
   refine bK rfl rfl rfl (fun KK hK=>?_);go_simp;refine hK _ _ ?_;clear hK KK;go_simp;refine bR ?_;go_wp2_with fail
   go_roundw
   case rel=>exact⟨0+1,by omega,by go_num,Hst.out.1,Hst.out.2.1,Hst.out.2.2⟩
   case measure=>simp[intOf]
  ·
   obtain⟨u,cc,cf,Hst⟩:=iE (w:=w) hl at_ n hat 1 (by omega) ((n:Int) / 256 % 256) (iD (n / 256)) hbk.drew ho.drew hsz;clear hbk ho hb;have hw1:=af ((at_:Int)+1) (by omega);have hw2:=af 8 (by omega);have hw3:0 <= ((at_:Int)+1):=by omega
   have hw4:((at_:Int)+1) < 64:=by omega
   have hw5:IntKind.u8.wrap ((n:Int) / 256)=((n:Int) / 256 % 256):=IntKind.wrap_u8 _;have hw6:(((at_:Int)+1)).toNat=at_+1:=by omega
   try simp only[Nat.add_zero] at cc cf Hst hw6
   go_wp2_with fail;refine bh aI 11 [(0,true),(1,true),(2,true),(3,true),(4,true),(5,true),(6,true),(7,true),(8,true),(9,true),(10,true),(11,false)] (by kernel_rfl) (by kernel_rfl) (by kernel_rfl) aH aG ?_
   repeat (refine aX (v:=?_) rfl (aD rfl) (fun w' hC=>?_) (fun K hK=>?_);rotate_left;(focus (go_simp;first | done | exact rfl));go_simp;refine hK _ ?_;clear hK K)
   refine bK rfl rfl rfl (fun KK hK=>?_);go_simp;refine hK _ _ ?_;clear hK KK;go_simp;refine bR ?_;go_wp2_with fail
   go_roundw
   case rel=>exact⟨1+1,by omega,by go_num,Hst.out.1,Hst.out.2.1,Hst.out.2.2⟩
   case measure=>simp[intOf]
  ·
   obtain⟨u,cc,cf,Hst⟩:=iE (w:=w) hl at_ n hat 2 (by omega) ((n:Int) / 65536 % 256) (iD (n / 65536)) hbk.drew ho.drew hsz;clear hbk ho hb;have hw1:=af ((at_:Int)+2) (by omega);have hw2:=af 16 (by omega);have hw3:0 <= ((at_:Int)+2):=by omega
   have hw4:((at_:Int)+2) < 64:=by omega
   have hw5:IntKind.u8.wrap ((n:Int) / 65536)=((n:Int) / 65536 % 256):=IntKind.wrap_u8 _;have hw6:(((at_:Int)+2)).toNat=at_+2:=by omega
   try simp only[Nat.add_zero] at cc cf Hst hw6
   go_wp2_with fail;refine bh aI 11 [(0,true),(1,true),(2,true),(3,true),(4,true),(5,true),(6,true),(7,true),(8,true),(9,true),(10,true),(11,false)] (by kernel_rfl) (by kernel_rfl) (by kernel_rfl) aH aG ?_
   repeat (refine aX (v:=?_) rfl (aD rfl) (fun w' hC=>?_) (fun K hK=>?_);rotate_left;(focus (go_simp;first | done | exact rfl));go_simp;refine hK _ ?_;clear hK K)
   refine bK rfl rfl rfl (fun KK hK=>?_);go_simp;refine hK _ _ ?_;clear hK KK;go_simp;refine bR ?_;go_wp2_with fail
   go_roundw
   case rel=>exact⟨2+1,by omega,by go_num,Hst.out.1,Hst.out.2.1,Hst.out.2.2⟩
   case measure=>simp[intOf]
  ·
   obtain⟨u,cc,cf,Hst⟩:=iE (w:=w) hl at_ n hat 3 (by omega) ((n:Int) / 16777216 % 256) (iD (n / 16777216)) hbk.drew ho.drew hsz;clear hbk ho hb;have hw1:=af ((at_:Int)+3) (by omega);have hw2:=af 24 (by omega);have hw3:0 <= ((at_:Int)+3):=by omega
   have hw4:((at_:Int)+3) < 64:=by omega
   have hw5:IntKind.u8.wrap ((n:Int) / 16777216)=((n:Int) / 16777216 % 256):=IntKind.wrap_u8 _;have hw6:(((at_:Int)+3)).toNat=at_+3:=by omega
   try simp only[Nat.add_zero] at cc cf Hst hw6
   go_wp2_with fail;refine bh aI 11 [(0,true),(1,true),(2,true),(3,true),(4,true),(5,true),(6,true),(7,true),(8,true),(9,true),(10,true),(11,false)] (by kernel_rfl) (by kernel_rfl) (by kernel_rfl) aH aG ?_
   repeat (refine aX (v:=?_) rfl (aD rfl) (fun w' hC=>?_) (fun K hK=>?_);rotate_left;(focus (go_simp;first | done | exact rfl));go_simp;refine hK _ ?_;clear hK K)
   refine bK rfl rfl rfl (fun KK hK=>?_);go_simp;refine hK _ _ ?_;clear hK KK;go_simp;refine bR ?_;go_wp2_with fail
   go_roundw
   case rel=>exact⟨3+1,by omega,by go_num,Hst.out.1,Hst.out.2.1,Hst.out.2.2⟩
   case measure=>simp[intOf]
  ·go_wp2_with fail
   go_end0
   refine⟨rfl,⟨?_,?_⟩,ho,hsz⟩
   ·rw[List.take_of_length_le (by rw[dl];omega)] at hbk;exact hbk
   ·rw[fP _ _ _ (by rw[dl];omega)];exact hl
end
section
attribute [local go_sem] opC upC
theorem qA (a b:BitVec 32):Go.bits .or .u32 (a.toNat:Int) (b.toNat:Int)=((a ||| b).toNat:Int):=by
 have h:=(a ||| b).isLt;have e:∀ x:BitVec 32,BitVec.ofInt 32 (x.toNat:Int)=x:=fun x=>by simp
 show IntKind.u32.wrap ((BitVec.ofInt 32 (a.toNat:Int) ||| BitVec.ofInt 32 (b.toNat:Int)).toNat:Int)=_;rw[e a,e b];show ((a ||| b).toNat:Int) % 4294967296=_;omega
theorem tn (p c s:Nat) (hp:p < 2 ^ s) (hs:c * 2 ^ s < 4294967296) (hp2:p < 4294967296):Go.bits .or .u32 (p:Int) ((c * 2 ^ s:Nat):Int)=((p+c * 2 ^ s:Nat):Int):=by
 have h:=qA (BitVec.ofNat 32 p) (BitVec.ofNat 32 (c * 2 ^ s));rw[BitVec.toNat_or] at h;simp only[BitVec.toNat_ofNat] at h;rw[Nat.mod_eq_of_lt hp2,Nat.mod_eq_of_lt hs] at h;rw[h]
 congr 1
 have:=Nat.shiftLeft_add_eq_or_of_lt hp c;rw[Nat.shiftLeft_eq] at this;rw[Nat.or_comm,<- this];omega
def et (l:List UInt8) (a:Nat):Nat -> Nat
 | 0=>0
 | k+1=>et l a k+(l.getD (a+k) 0).toNat * 2 ^ (8 * k)
theorem sS (l:List UInt8) (a:Nat):et l a 4=bp l a:=by
 simp only[et,bp,Nat.add_zero];omega
theorem ke (l:List UInt8) (a:Nat):∀ k,et l a k < 2 ^ (8 * k)
 | 0=>by simp[et]
 | k+1=>by
   have:=ke l a k;have hc:=(l.getD (a+k) 0).toNat_lt;simp only[et];have e:2 ^ (8 * (k+1))=256 * 2 ^ (8 * k):=by rw[Nat.mul_add,Nat.pow_add];omega
   rw[e];have:(l.getD (a+k) 0).toNat * 2 ^ (8 * k) <= 255 * 2 ^ (8 * k):=Nat.mul_le_mul_right _ (by omega);omega
theorem iF (l:List UInt8) (a k:Nat) (c:UInt8) (hc:l.getD (a+k) 0=c) (hk:k < 4) (m:Int) (hm:m=2 ^ (8 * k)):Go.bits .or .u32 (et l a k:Int) ((c.toNat:Int) % 4294967296 * m % 4294967296)=(et l a (k+1):Int):=by
 have hlt:=ke l a k;have hcl:=c.toNat_lt;have k4:k=0 \/ k=1 \/ k=2 \/ k=3:=by omega
 have hs:c.toNat * 2 ^ (8 * k) < 4294967296:=by rcases k4 with rfl | rfl | rfl | rfl <;> simp <;> omega
 have hp:et l a k < 4294967296:=by
  have:2 ^ (8 * k) <= 2 ^ 24:=Nat.pow_le_pow_right (by omega) (by omega);omega
 have e:=tn (et l a k) c.toNat (8 * k) hlt hs hp
 have e2:((c.toNat:Int) % 4294967296 * m % 4294967296)=((c.toNat * 2 ^ (8 * k):Nat):Int):=by
  subst hm;rcases k4 with rfl | rfl | rfl | rfl <;> simp <;> omega
 rw[e2,e];simp only[et,hc]
theorem dp (w:World) (sb:Nat) (l:List UInt8) (h:SecAt w sb l) (at_:Nat) (hat:at_+4 <= 64):
 Calls aC 95 #[.pointer (some ⟨sb,0,none⟩),.int .i64 (at_:Int)] w fun e w'=>e=.returned (.int .u32 (bp l at_:Int)) /\ w=w':=by
 obtain⟨hb,hl⟩:=h;rw[<- sS];have p0:=ke l at_ 0
 go_enter Tryz.func95,Tryz.ntmps95
 go_wp2_with fail;clear p0
 go_loop [5,7] (fun n i=>∃ k:Nat,k <= 4 /\ i=.int .i64 (k:Int) /\ n=.int .u32 (et l at_ k:Int)) (fun _ i=>4 - (intOf i).toNat)
 case atStart=>exact⟨0,by omega,rfl,rfl⟩
 case round=>
  obtain⟨k,hk,rfl,rfl⟩:=hrel;have k4:k=0 \/ k=1 \/ k=2 \/ k=3 \/ k=4:=by omega
  rcases k4 with rfl | rfl | rfl | rfl | rfl
  ·have cc:=hb.cell at_;rw[List.getElem?_eq_getElem (by simp;omega),List.getElem_map] at cc;unfold B at cc;have hgc:l.getD (at_+0) 0=l[at_]'(by omega):=by rw[List.getD_eq_getElem?_getD,Nat.add_zero,List.getElem?_eq_getElem (show at_ < l.length by omega)];rfl
   have hst:=iF l at_ 0 _ hgc (by omega) 1 (by simp);rw[Int.mul_one] at hst;generalize hq:et l at_ (0+1)=q at *;have Hq:=ae hq;clear hq;generalize l[at_]'(by omega)=c at *;have e1:((c.toNat:Int) % 4294967296 % 4294967296)=(c.toNat:Int) % 4294967296:=by omega
   rw[e1] at hst;have hst2:Go.bits .or .u32 0 ((c.toNat:Int) % 4294967296)=(q:Int):=hst;clear e1 hgc hst;have hz:((et l at_ 0:Nat):Int)=0:=rfl;rw[hz];clear hz;go_wp2_with fail
   go_round
   case rel=>exact⟨1,by omega,rfl,by rw[<- Hq.out]⟩
   case measure=>simp[intOf]
  ·
   have cc:=hb.cell (at_+1);rw[List.getElem?_eq_getElem (by simp;omega),List.getElem_map] at cc;unfold B at cc;have hgc:l.getD (at_+1) 0=l[at_+1]'(by omega):=by rw[List.getD_eq_getElem?_getD,List.getElem?_eq_getElem (show at_+1 < l.length by omega)];rfl
   have hst:=iF l at_ 1 _ hgc (by omega) 256 (by simp);generalize hq:et l at_ (1+1)=q at *;have Hq:=ae hq;clear hq hgc;generalize l[at_+1]'(by omega)=c at *;generalize hp:et l at_ 1=p at *;clear hp;go_wp2_with fail
   go_round
   case rel=>exact⟨1+1,by omega,rfl,by rw[<- Hq.out]⟩
   case measure=>simp[intOf]
  ·
   have cc:=hb.cell (at_+2);rw[List.getElem?_eq_getElem (by simp;omega),List.getElem_map] at cc;unfold B at cc;have hgc:l.getD (at_+2) 0=l[at_+2]'(by omega):=by rw[List.getD_eq_getElem?_getD,List.getElem?_eq_getElem (show at_+2 < l.length by omega)];rfl
   have hst:=iF l at_ 2 _ hgc (by omega) 65536 (by simp);generalize hq:et l at_ (2+1)=q at *;have Hq:=ae hq;clear hq hgc;generalize l[at_+2]'(by omega)=c at *;generalize hp:et l at_ 2=p at *;clear hp;go_wp2_with fail
   go_round
   case rel=>exact⟨2+1,by omega,rfl,by rw[<- Hq.out]⟩
   case measure=>simp[intOf]
  ·
   have cc:=hb.cell (at_+3);rw[List.getElem?_eq_getElem (by simp;omega),List.getElem_map] at cc;unfold B at cc;have hgc:l.getD (at_+3) 0=l[at_+3]'(by omega):=by rw[List.getD_eq_getElem?_getD,List.getElem?_eq_getElem (show at_+3 < l.length by omega)];rfl
   have hst:=iF l at_ 3 _ hgc (by omega) 16777216 (by simp);generalize hq:et l at_ (3+1)=q at *;have Hq:=ae hq;clear hq hgc;generalize l[at_+3]'(by omega)=c at *;generalize hp:et l at_ 3=p at *;clear hp;go_wp2_with fail
   go_round
   case rel=>exact⟨3+1,by omega,rfl,by rw[<- Hq.out]⟩
   case measure=>simp[intOf]
  ·go_wp2_with fail
   go_ret
   exact⟨rfl,rfl⟩
theorem SecAt.bytes60 {w:World} {sb:Nat} {l:List UInt8} (h:SecAt w sb l):Bytes (fun b=>b=sb) w (.slice (some ⟨sb,0,none⟩) 60 64) (l.take 60):=by
 obtain⟨hb,hl⟩:=h;have h60:(l.take 60).length=60:=by simp;omega
 refine⟨some ⟨sb,0,none⟩,64,by rw[h60],by omega,by unfold maxLen;omega,nofun,.inr ⟨sb,0,(l.map B).toArray,_,_,rfl,rfl,hb,by simp;omega,fun i hi=>?_⟩⟩;simp at hi;simp[List.getElem?_eq_getElem (show i < l.length by omega)]
theorem SecAt.bytes {w:World} {sb:Nat} {l:List UInt8} (h:SecAt w sb l):Bytes (fun b=>b=sb) w (.slice (some ⟨sb,0,none⟩) 64 64) l:=by
 obtain⟨hb,hl⟩:=h;refine⟨some ⟨sb,0,none⟩,64,by rw[hl],by omega,by unfold maxLen;omega,nofun,.inr ⟨sb,0,(l.map B).toArray,_,_,rfl,rfl,hb,by simp,fun i hi=>?_⟩⟩;simp[List.getElem?_eq_getElem hi]
theorem rE (l:List UInt8) (hl:l.length=64):ch l 60 (bL (crc (l.take 60)))=ek (l.take 60):=by
 unfold ch ek;rw[dl,List.drop_of_length_le (by omega),List.append_nil]
theorem nG (w:World) (hq:bQ w) (sb:Nat) (l:List UInt8) (h:SecAt w sb l):
 Calls aC 146 #[.pointer (some ⟨sb,0,none⟩)] w fun e w'=>e=.returned (.tuple #[]) /\ SecAt w' sb (ek (l.take 60)) /\ aK (fun b=>b=sb) w w' /\ w'.heap.size=w.heap.size:=by
 have hs:=kc w hq _ _ _ h.bytes60;have hc:=oF (l.take 60);have hp:=rE l h.2;have hput:=gj w sb l h 60 (crc (l.take 60)) (by omega) hc;rw[hp] at hput;have Hs:=ae hs;have Hput:=ae hput;clear hs hput hp;generalize crc (l.take 60)=c at *
 go_enter Tryz.func146,Tryz.ntmps146
 go_wp2_with fail;refine Hs.out.mono ?_;rintro e w' ⟨rfl,rfl⟩;go_wp2_with fail;refine Hput.out.mono ?_;rintro e w' ⟨rfl,hsec,ho,hz⟩;go_wp2_with fail
 go_end0
 exact⟨rfl,hsec,ho,hz⟩
theorem di (w:World) (hq:bQ w) (sb:Nat) (l:List UInt8) (h:SecAt w sb l):
 Calls aC 96 #[.pointer (some ⟨sb,0,none⟩)] w fun e w'=>e=.returned (.bool (cd l)) /\ ∃ n,w.drewN n=w':=by
 have hs:=kc w.drew (hq.keep rfl) _ _ _ (SecAt.bytes60 (w:=w.drew) ⟨h.1.drew,h.2⟩);have hg:=dp w.drew sb l ⟨h.1.drew,h.2⟩ 60 (by omega);have hi:cd l=(bp l 60 == crc (l.take 60)):=rfl
 have hii:(((bp l 60:Nat):Int) == ((crc (l.take 60):Nat):Int))=cd l:=by
  rw[hi]
  by_cases he:bp l 60=crc (l.take 60)
  ·rw[beq_iff_eq.2 he,beq_iff_eq.2 (by omega)]
  ·rw[beq_eq_false_iff_ne.2 he,beq_eq_false_iff_ne.2 (by omega)]
 have Hs:=ae hs;have Hg:=ae hg;clear hs hg hi;generalize crc (l.take 60)=c at *;generalize bp l 60=r at *
 go_enter Tryz.func96,Tryz.ntmps96
 go_wp2_with fail;refine aJ aI [(0,true),(2,true),(3,true),(4,true),(1,false),(5,false),(6,true),(7,true)] (by kernel_rfl) (by kernel_rfl) aH aG ?_
 repeat (refine aF (v:=?_) rfl (aD rfl) (fun w' hC=>?_) (fun K hK=>?_);rotate_left;(focus (go_simp;first | done | exact rfl));go_simp;refine hK _ ?_;clear hK K)
 refine aQ rfl rfl (fun KK hK=>?_);go_simp;refine Hg.out.mono ?_;rintro e w' ⟨rfl,rfl⟩;refine⟨_,rfl,aH _,hK _ _ ?_⟩;clear hK KK;go_simp
 repeat (refine aF (v:=?_) rfl (aD rfl) (fun w' hC=>?_) (fun K hK=>?_);rotate_left;(focus (go_simp;first | done | exact rfl));go_simp;refine hK _ ?_;clear hK K)
 refine aQ rfl rfl (fun KK hK=>?_);go_simp;refine Hs.out.mono ?_;rintro e w' ⟨rfl,rfl⟩;refine⟨_,rfl,aH _,hK _ _ ?_⟩;clear hK KK;go_simp
 repeat (refine aF (v:=?_) rfl (aD rfl) (fun w' hC=>?_) (fun K hK=>?_);rotate_left;(focus (go_simp;first | done | exact rfl));go_simp;refine hK _ ?_;clear hK K)
 refine aW ?_;go_wp2_with fail
 go_ret
 exact⟨rfl,1,rfl⟩
end
end Go.Proofs.YtobjdpngnfbicaaGreatDoor
