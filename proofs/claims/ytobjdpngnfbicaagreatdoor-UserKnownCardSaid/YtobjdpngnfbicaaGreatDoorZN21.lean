/-
  Sec Sec2
-/
import Derived.Test.YtobjdpngnfbicaaGreatDoorZN20
import Derived.Test.YtobjdpngnfbicaaGreatDoorZN06
namespace Go.Proofs.YtobjdpngnfbicaaGreatDoor
open Go.RowKit
set_option linter.unusedVariables false
set_option maxRecDepth 20000
attribute [local go_sem] opC upC
def SecAt (w:World) (b:Nat) (l:List UInt8):Prop:=Blk w b (l.map B) 137∧l.length=64
def j_putL (l:List UInt8) (at_:Nat) (x:List UInt8):List UInt8:=l.take at_ ++ x ++ l.drop (at_+x.length)
theorem putL_length (l:List UInt8) (at_:Nat) (x:List UInt8) (h:at_+x.length≤l.length):(j_putL l at_ x).length=l.length:=by simp [j_putL];omega
theorem putL_snoc (l:List UInt8) (at_:Nat) (x:List UInt8) (c:UInt8) (h:at_+x.length < l.length):(j_putL l at_ x).set (at_+x.length) c=j_putL l at_ (x ++ [c]):=by
 unfold j_putL
 have hlen:(l.take at_ ++ x).length=at_+x.length:=by simp;omega
 rw [List.set_append_right _ _ (by omega),hlen,Nat.sub_self]
 have:l.drop (at_+x.length)=l[at_+x.length] :: l.drop (at_+x.length+1):=List.drop_eq_getElem_cons h
 rw [this,List.set_cons_zero]
 simp [Nat.add_assoc]
theorem B_ofNat (n:Nat):B (UInt8.ofNat n)=.int .u8 ((n:Int) % 256):=by
 unfold B
 congr 1
theorem put_step {w wr:World} {sb:Nat} {l:List UInt8} (hl:l.length=64) (at_ n:Nat) (hat:at_+4≤64) (k:Nat) (hk:k < 4) (z:Int) (hz:B ((num4 n)[k]'(by rw [num4_length];exact hk))=.int .u8 z)
 (hb:Blk wr sb ((j_putL l at_ ((num4 n).take k)).map B) 137) (ho:Only (fun b=>b=sb) w wr) (hs:wr.heap.size=w.heap.size):
 ∃ u,wr.cell? ⟨sb,at_+k,none⟩=some u∧wr.frozen? ⟨sb,at_+k,none⟩=false ∧
   Hid (Blk (wr.setCell ⟨sb,at_+k,none⟩ (.int .u8 z)) sb ((j_putL l at_ ((num4 n).take (k+1))).map B) 137∧Only (fun b=>b=sb) w (wr.setCell ⟨sb,at_+k,none⟩ (.int .u8 z))∧(wr.setCell ⟨sb,at_+k,none⟩ (.int .u8 z)).heap.size=w.heap.size):=by
 have hx:((num4 n).take k).length=k:=by rw [List.length_take,num4_length];omega
 have hset:=putL_snoc l at_ ((num4 n).take k) ((num4 n)[k]'(by rw [num4_length];exact hk)) (by rw [hx];omega)
 rw [hx,←List.take_succ_eq_append_getElem] at hset
 have hpl:(j_putL l at_ ((num4 n).take k)).length=64:=by rw [putL_length _ _ _ (by rw [hx];omega),hl]
 have cc:=hb.cell (at_+k)
 rw [List.getElem?_eq_getElem (by simp;omega)] at cc
 have hb2:=hb.set (at_+k) (B ((num4 n)[k]'(by rw [num4_length];exact hk)))
 rw [←List.map_set,hset,hz] at hb2
 exact ⟨_,cc,hb.free _,Lib.hid ⟨hb2,ho.setCell (.inl rfl) _,by simpa [World.setCell] using hs⟩⟩
theorem j_put_any (w:World) (sb:Nat) (l:List UInt8) (h:SecAt w sb l) (at_ n:Nat) (hat:at_+4≤64) (hn:n < 4294967296):
 Calls Tryz.prog 145 #[.pointer (some ⟨sb,0,none⟩),.int .i64 (at_:Int),.int .u32 (n:Int)] w fun e w'=>e=.returned (.tuple #[])∧SecAt w' sb (j_putL l at_ (num4 n))∧Only (fun b=>b=sb) w w'∧w'.heap.size=w.heap.size:=by
 obtain ⟨hb,hl⟩:=h
 have hnI:(n:Int) < 4294967296:=by omega
 go_enter Tryz.func145,Tryz.ntmps145
 go_wp2_with fail
 go_loopw [7] (fun i wr=>∃ k:Nat,k≤4∧i=.int .i64 (k:Int)∧Blk wr sb ((j_putL l at_ ((num4 n).take k)).map B) 137∧Only (fun b=>b=sb) w wr∧wr.heap.size=w.heap.size) (fun i _=>4 - (intOf i).toNat)
 case atStart=>exact ⟨0,by omega,rfl,by simpa [j_putL] using hb,Only.refl _ _,rfl⟩
 case round=>
  obtain ⟨k,hk,rfl,hbk,ho,hsz⟩:=hrel
  have k4:k=0∨k=1∨k=2∨k=3∨k=4:=by omega
  rcases k4 with rfl | rfl | rfl | rfl | rfl
  ·
   obtain ⟨u,cc,cf,Hst⟩:=put_step (w:=w) hl at_ n hat 0 (by omega) ((n:Int) % 256) (B_ofNat n) hbk.drew ho.drew hsz
   clear hbk ho hb
   have hw1:=IntWalk.i64_in (at_:Int) (by omega)
   have hw2:=IntWalk.i64_in 0 (by omega)
   have hw3:0≤(at_:Int):=by omega
   have hw4:(at_:Int) < 64:=by omega
   have hw5:IntKind.u8.wrap (n:Int)=((n:Int) % 256):=IntKind.wrap_u8 _
   have hw6:((at_:Int)).toNat=at_+0:=by omega
   try simp only [Nat.add_zero] at cc cf Hst hw6
   go_wp2_with fail
   refine wp_region_canL Later 11 [(0,true),(1,true),(2,true),(3,true),(4,true),(5,true),(6,true),(7,true),(8,true),(9,true),(10,true),(11,false)] (by kernel_rfl) (by kernel_rfl) (by kernel_rfl) later_refl later_trans ?_
   repeat (refine canL_yes (v:=?_) rfl (wanted_none rfl) (fun w' hC=>?_) (fun K hK=>?_);rotate_left;(focus (go_simp;first | done | exact rfl));go_simp;refine hK _ ?_;clear hK K)
   refine canL_last rfl rfl rfl (fun KK hK=>?_)
   go_simp
   refine hK _ _ ?_
   clear hK KK
   go_simp
   refine canL_nil ?_
   go_wp2_with fail
   go_roundw
   case rel=>exact ⟨0+1,by omega,by go_num,Hst.out.1,Hst.out.2.1,Hst.out.2.2⟩
   case measure=>simp [intOf]
  ·
   obtain ⟨u,cc,cf,Hst⟩:=put_step (w:=w) hl at_ n hat 1 (by omega) ((n:Int) / 256 % 256) (B_ofNat (n / 256)) hbk.drew ho.drew hsz
   clear hbk ho hb
   have hw1:=IntWalk.i64_in ((at_:Int)+1) (by omega)
   have hw2:=IntWalk.i64_in 8 (by omega)
   have hw3:0≤((at_:Int)+1):=by omega
   have hw4:((at_:Int)+1) < 64:=by omega
   have hw5:IntKind.u8.wrap ((n:Int) / 256)=((n:Int) / 256 % 256):=IntKind.wrap_u8 _
   have hw6:(((at_:Int)+1)).toNat=at_+1:=by omega
   try simp only [Nat.add_zero] at cc cf Hst hw6
   go_wp2_with fail
   refine wp_region_canL Later 11 [(0,true),(1,true),(2,true),(3,true),(4,true),(5,true),(6,true),(7,true),(8,true),(9,true),(10,true),(11,false)] (by kernel_rfl) (by kernel_rfl) (by kernel_rfl) later_refl later_trans ?_
   repeat (refine canL_yes (v:=?_) rfl (wanted_none rfl) (fun w' hC=>?_) (fun K hK=>?_);rotate_left;(focus (go_simp;first | done | exact rfl));go_simp;refine hK _ ?_;clear hK K)
   refine canL_last rfl rfl rfl (fun KK hK=>?_)
   go_simp
   refine hK _ _ ?_
   clear hK KK
   go_simp
   refine canL_nil ?_
   go_wp2_with fail
   go_roundw
   case rel=>exact ⟨1+1,by omega,by go_num,Hst.out.1,Hst.out.2.1,Hst.out.2.2⟩
   case measure=>simp [intOf]
  ·
   obtain ⟨u,cc,cf,Hst⟩:=put_step (w:=w) hl at_ n hat 2 (by omega) ((n:Int) / 65536 % 256) (B_ofNat (n / 65536)) hbk.drew ho.drew hsz
   clear hbk ho hb
   have hw1:=IntWalk.i64_in ((at_:Int)+2) (by omega)
   have hw2:=IntWalk.i64_in 16 (by omega)
   have hw3:0≤((at_:Int)+2):=by omega
   have hw4:((at_:Int)+2) < 64:=by omega
   have hw5:IntKind.u8.wrap ((n:Int) / 65536)=((n:Int) / 65536 % 256):=IntKind.wrap_u8 _
   have hw6:(((at_:Int)+2)).toNat=at_+2:=by omega
   try simp only [Nat.add_zero] at cc cf Hst hw6
   go_wp2_with fail
   refine wp_region_canL Later 11 [(0,true),(1,true),(2,true),(3,true),(4,true),(5,true),(6,true),(7,true),(8,true),(9,true),(10,true),(11,false)] (by kernel_rfl) (by kernel_rfl) (by kernel_rfl) later_refl later_trans ?_
   repeat (refine canL_yes (v:=?_) rfl (wanted_none rfl) (fun w' hC=>?_) (fun K hK=>?_);rotate_left;(focus (go_simp;first | done | exact rfl));go_simp;refine hK _ ?_;clear hK K)
   refine canL_last rfl rfl rfl (fun KK hK=>?_)
   go_simp
   refine hK _ _ ?_
   clear hK KK
   go_simp
   refine canL_nil ?_
   go_wp2_with fail
   go_roundw
   case rel=>exact ⟨2+1,by omega,by go_num,Hst.out.1,Hst.out.2.1,Hst.out.2.2⟩
   case measure=>simp [intOf]
  ·
   obtain ⟨u,cc,cf,Hst⟩:=put_step (w:=w) hl at_ n hat 3 (by omega) ((n:Int) / 16777216 % 256) (B_ofNat (n / 16777216)) hbk.drew ho.drew hsz
   clear hbk ho hb
   have hw1:=IntWalk.i64_in ((at_:Int)+3) (by omega)
   have hw2:=IntWalk.i64_in 24 (by omega)
   have hw3:0≤((at_:Int)+3):=by omega
   have hw4:((at_:Int)+3) < 64:=by omega
   have hw5:IntKind.u8.wrap ((n:Int) / 16777216)=((n:Int) / 16777216 % 256):=IntKind.wrap_u8 _
   have hw6:(((at_:Int)+3)).toNat=at_+3:=by omega
   try simp only [Nat.add_zero] at cc cf Hst hw6
   go_wp2_with fail
   refine wp_region_canL Later 11 [(0,true),(1,true),(2,true),(3,true),(4,true),(5,true),(6,true),(7,true),(8,true),(9,true),(10,true),(11,false)] (by kernel_rfl) (by kernel_rfl) (by kernel_rfl) later_refl later_trans ?_
   repeat (refine canL_yes (v:=?_) rfl (wanted_none rfl) (fun w' hC=>?_) (fun K hK=>?_);rotate_left;(focus (go_simp;first | done | exact rfl));go_simp;refine hK _ ?_;clear hK K)
   refine canL_last rfl rfl rfl (fun KK hK=>?_)
   go_simp
   refine hK _ _ ?_
   clear hK KK
   go_simp
   refine canL_nil ?_
   go_wp2_with fail
   go_roundw
   case rel=>exact ⟨3+1,by omega,by go_num,Hst.out.1,Hst.out.2.1,Hst.out.2.2⟩
   case measure=>simp [intOf]
  · go_wp2_with fail
    go_end0
    refine ⟨rfl,⟨?_,?_⟩,ho,hsz⟩
    · rw [List.take_of_length_le (by rw [num4_length];omega)] at hbk;exact hbk
    · rw [putL_length _ _ _ (by rw [num4_length];omega)];exact hl
end Go.Proofs.YtobjdpngnfbicaaGreatDoor

namespace Go.Proofs.YtobjdpngnfbicaaGreatDoor
open Go.RowKit
set_option linter.unusedVariables false
set_option maxRecDepth 20000
attribute [local go_sem] opC upC
theorem bits_or32 (a b:BitVec 32):Go.bits .or .u32 (a.toNat:Int) (b.toNat:Int)=((a ||| b).toNat:Int):=by
 have h:=(a ||| b).isLt
 have e:∀ x:BitVec 32,BitVec.ofInt 32 (x.toNat:Int)=x:=fun x=>by simp
 show IntKind.u32.wrap ((BitVec.ofInt 32 (a.toNat:Int) ||| BitVec.ofInt 32 (b.toNat:Int)).toNat:Int)=_
 rw [e a,e b]
 show ((a ||| b).toNat:Int) % 4294967296=_
 omega
theorem or_add (p c s:Nat) (hp:p < 2 ^ s) (hs:c * 2 ^ s < 4294967296) (hp2:p < 4294967296):Go.bits .or .u32 (p:Int) ((c * 2 ^ s:Nat):Int)=((p+c * 2 ^ s:Nat):Int):=by
 have h:=bits_or32 (BitVec.ofNat 32 p) (BitVec.ofNat 32 (c * 2 ^ s))
 rw [BitVec.toNat_or] at h
 simp only [BitVec.toNat_ofNat] at h
 rw [Nat.mod_eq_of_lt hp2,Nat.mod_eq_of_lt hs] at h
 rw [h]
 congr 1
 have:=Nat.shiftLeft_add_eq_or_of_lt hp c
 rw [Nat.shiftLeft_eq] at this
 rw [Nat.or_comm,←this]
 omega
def part4 (l:List UInt8) (a:Nat):Nat→Nat
 | 0=>0
 | k+1=>part4 l a k+(l.getD (a+k) 0).toNat * 2 ^ (8 * k)
theorem part4_4 (l:List UInt8) (a:Nat):part4 l a 4=read4 l a:=by
 simp only [part4,read4,Nat.add_zero]
 omega
theorem part4_lt (l:List UInt8) (a:Nat):∀ k,part4 l a k < 2 ^ (8 * k)
 | 0=>by simp [part4]
 | k+1=>by
   have:=part4_lt l a k
   have hc:=(l.getD (a+k) 0).toNat_lt
   simp only [part4]
   have e:2 ^ (8 * (k+1))=256 * 2 ^ (8 * k):=by rw [Nat.mul_add,Nat.pow_add];omega
   rw [e]
   have:(l.getD (a+k) 0).toNat * 2 ^ (8 * k)≤255 * 2 ^ (8 * k):=Nat.mul_le_mul_right _ (by omega)
   omega
theorem get_step (l:List UInt8) (a k:Nat) (c:UInt8) (hc:l.getD (a+k) 0=c) (hk:k < 4) (m:Int) (hm:m=2 ^ (8 * k)):Go.bits .or .u32 (part4 l a k:Int) ((c.toNat:Int) % 4294967296 * m % 4294967296)=(part4 l a (k+1):Int):=by
 have hlt:=part4_lt l a k
 have hcl:=c.toNat_lt
 have k4:k=0∨k=1∨k=2∨k=3:=by omega
 have hs:c.toNat * 2 ^ (8 * k) < 4294967296:=by rcases k4 with rfl | rfl | rfl | rfl <;> simp <;> omega
 have hp:part4 l a k < 4294967296:=by
  have:2 ^ (8 * k)≤2 ^ 24:=Nat.pow_le_pow_right (by omega) (by omega)
  omega
 have e:=or_add (part4 l a k) c.toNat (8 * k) hlt hs hp
 have e2:((c.toNat:Int) % 4294967296 * m % 4294967296)=((c.toNat * 2 ^ (8 * k):Nat):Int):=by
  subst hm
  rcases k4 with rfl | rfl | rfl | rfl <;> simp <;> omega
 rw [e2,e]
 simp only [part4,hc]
theorem get_any (w:World) (sb:Nat) (l:List UInt8) (h:SecAt w sb l) (at_:Nat) (hat:at_+4≤64):
 Calls Tryz.prog 95 #[.pointer (some ⟨sb,0,none⟩),.int .i64 (at_:Int)] w fun e w'=>e=.returned (.int .u32 (read4 l at_:Int))∧w=w':=by
 obtain ⟨hb,hl⟩:=h
 rw [←part4_4]
 have p0:=part4_lt l at_ 0
 go_enter Tryz.func95,Tryz.ntmps95
 go_wp2_with fail
 clear p0
 go_loop [5,7] (fun n i=>∃ k:Nat,k≤4∧i=.int .i64 (k:Int)∧n=.int .u32 (part4 l at_ k:Int)) (fun _ i=>4 - (intOf i).toNat)
 case atStart=>exact ⟨0,by omega,rfl,rfl⟩
 case round=>
  obtain ⟨k,hk,rfl,rfl⟩:=hrel
  have k4:k=0∨k=1∨k=2∨k=3∨k=4:=by omega
  rcases k4 with rfl | rfl | rfl | rfl | rfl
  · have cc:=hb.cell at_
    rw [List.getElem?_eq_getElem (by simp;omega),List.getElem_map] at cc
    unfold B at cc
    have hgc:l.getD (at_+0) 0=l[at_]'(by omega):=by rw [List.getD_eq_getElem?_getD,Nat.add_zero,List.getElem?_eq_getElem (show at_ < l.length by omega)];rfl
    have hst:=get_step l at_ 0 _ hgc (by omega) 1 (by simp)
    rw [Int.mul_one] at hst
    generalize hq:part4 l at_ (0+1)=q at *
    have Hq:=Lib.hid hq;clear hq
    generalize l[at_]'(by omega)=c at *
    have e1:((c.toNat:Int) % 4294967296 % 4294967296)=(c.toNat:Int) % 4294967296:=by omega
    rw [e1] at hst
    have hst2:Go.bits .or .u32 0 ((c.toNat:Int) % 4294967296)=(q:Int):=hst
    clear e1 hgc hst
    have hz:((part4 l at_ 0:Nat):Int)=0:=rfl
    rw [hz]
    clear hz
    go_wp2_with fail
    go_round
    case rel=>exact ⟨1,by omega,rfl,by rw [←Hq.out]⟩
    case measure=>simp [intOf]
  ·
   have cc:=hb.cell (at_+1)
   rw [List.getElem?_eq_getElem (by simp;omega),List.getElem_map] at cc
   unfold B at cc
   have hgc:l.getD (at_+1) 0=l[at_+1]'(by omega):=by rw [List.getD_eq_getElem?_getD,List.getElem?_eq_getElem (show at_+1 < l.length by omega)];rfl
   have hst:=get_step l at_ 1 _ hgc (by omega) 256 (by simp)
   generalize hq:part4 l at_ (1+1)=q at *
   have Hq:=Lib.hid hq;clear hq hgc
   generalize l[at_+1]'(by omega)=c at *
   generalize hp:part4 l at_ 1=p at *
   clear hp
   go_wp2_with fail
   go_round
   case rel=>exact ⟨1+1,by omega,rfl,by rw [←Hq.out]⟩
   case measure=>simp [intOf]
  ·
   have cc:=hb.cell (at_+2)
   rw [List.getElem?_eq_getElem (by simp;omega),List.getElem_map] at cc
   unfold B at cc
   have hgc:l.getD (at_+2) 0=l[at_+2]'(by omega):=by rw [List.getD_eq_getElem?_getD,List.getElem?_eq_getElem (show at_+2 < l.length by omega)];rfl
   have hst:=get_step l at_ 2 _ hgc (by omega) 65536 (by simp)
   generalize hq:part4 l at_ (2+1)=q at *
   have Hq:=Lib.hid hq;clear hq hgc
   generalize l[at_+2]'(by omega)=c at *
   generalize hp:part4 l at_ 2=p at *
   clear hp
   go_wp2_with fail
   go_round
   case rel=>exact ⟨2+1,by omega,rfl,by rw [←Hq.out]⟩
   case measure=>simp [intOf]
  ·
   have cc:=hb.cell (at_+3)
   rw [List.getElem?_eq_getElem (by simp;omega),List.getElem_map] at cc
   unfold B at cc
   have hgc:l.getD (at_+3) 0=l[at_+3]'(by omega):=by rw [List.getD_eq_getElem?_getD,List.getElem?_eq_getElem (show at_+3 < l.length by omega)];rfl
   have hst:=get_step l at_ 3 _ hgc (by omega) 16777216 (by simp)
   generalize hq:part4 l at_ (3+1)=q at *
   have Hq:=Lib.hid hq;clear hq hgc
   generalize l[at_+3]'(by omega)=c at *
   generalize hp:part4 l at_ 3=p at *
   clear hp
   go_wp2_with fail
   go_round
   case rel=>exact ⟨3+1,by omega,rfl,by rw [←Hq.out]⟩
   case measure=>simp [intOf]
  · go_wp2_with fail
    go_ret
    exact ⟨rfl,rfl⟩
theorem SecAt.bytes60 {w:World} {sb:Nat} {l:List UInt8} (h:SecAt w sb l):Bytes (fun b=>b=sb) w (.slice (some ⟨sb,0,none⟩) 60 64) (l.take 60):=by
 obtain ⟨hb,hl⟩:=h
 have h60:(l.take 60).length=60:=by simp;omega
 refine ⟨some ⟨sb,0,none⟩,64,by rw [h60],by omega,by unfold maxLen;omega,nofun,.inr ⟨sb,0,(l.map B).toArray,_,_,rfl,rfl,hb,by simp;omega,fun i hi=>?_⟩⟩
 simp at hi
 simp [List.getElem?_eq_getElem (show i < l.length by omega)]
theorem SecAt.bytes {w:World} {sb:Nat} {l:List UInt8} (h:SecAt w sb l):Bytes (fun b=>b=sb) w (.slice (some ⟨sb,0,none⟩) 64 64) l:=by
 obtain ⟨hb,hl⟩:=h
 refine ⟨some ⟨sb,0,none⟩,64,by rw [hl],by omega,by unfold maxLen;omega,nofun,.inr ⟨sb,0,(l.map B).toArray,_,_,rfl,rfl,hb,by simp,fun i hi=>?_⟩⟩
 simp [List.getElem?_eq_getElem hi]
theorem seal_put (l:List UInt8) (hl:l.length=64):j_putL l 60 (num4 (crc (l.take 60)))=sealed (l.take 60):=by
 unfold j_putL sealed
 rw [num4_length,List.drop_of_length_le (by omega),List.append_nil]
theorem seal_any (w:World) (hq:Quarter w) (sb:Nat) (l:List UInt8) (h:SecAt w sb l):
 Calls Tryz.prog 146 #[.pointer (some ⟨sb,0,none⟩)] w fun e w'=>e=.returned (.tuple #[])∧SecAt w' sb (sealed (l.take 60))∧Only (fun b=>b=sb) w w'∧w'.heap.size=w.heap.size:=by
 have hs:=crcSum_any w hq _ _ _ h.bytes60
 have hc:=crc_lt (l.take 60)
 have hp:=seal_put l h.2
 have hput:=j_put_any w sb l h 60 (crc (l.take 60)) (by omega) hc
 rw [hp] at hput
 have Hs:=Lib.hid hs;have Hput:=Lib.hid hput
 clear hs hput hp
 generalize crc (l.take 60)=c at *
 go_enter Tryz.func146,Tryz.ntmps146
 go_wp2_with fail
 refine Hs.out.mono ?_
 rintro e w' ⟨rfl,rfl⟩
 go_wp2_with fail
 refine Hput.out.mono ?_
 rintro e w' ⟨rfl,hsec,ho,hz⟩
 go_wp2_with fail
 go_end0
 exact ⟨rfl,hsec,ho,hz⟩
theorem intact_any (w:World) (hq:Quarter w) (sb:Nat) (l:List UInt8) (h:SecAt w sb l):
 Calls Tryz.prog 96 #[.pointer (some ⟨sb,0,none⟩)] w fun e w'=>e=.returned (.bool (intact l))∧∃ n,w.drewN n=w':=by
 have hs:=crcSum_any w.drew (hq.keep rfl) _ _ _ (SecAt.bytes60 (w:=w.drew) ⟨h.1.drew,h.2⟩)
 have hg:=get_any w.drew sb l ⟨h.1.drew,h.2⟩ 60 (by omega)
 have hi:intact l=(read4 l 60 == crc (l.take 60)):=rfl
 have hii:(((read4 l 60:Nat):Int) == ((crc (l.take 60):Nat):Int))=intact l:=by
  rw [hi]
  by_cases he:read4 l 60=crc (l.take 60)
  · rw [beq_iff_eq.2 he,beq_iff_eq.2 (by omega)]
  · rw [beq_eq_false_iff_ne.2 he,beq_eq_false_iff_ne.2 (by omega)]
 have Hs:=Lib.hid hs;have Hg:=Lib.hid hg
 clear hs hg hi
 generalize crc (l.take 60)=c at *
 generalize read4 l 60=r at *
 go_enter Tryz.func96,Tryz.ntmps96
 go_wp2_with fail
 refine wp_region_can Later [(0,true),(2,true),(3,true),(4,true),(1,false),(5,false),(6,true),(7,true)] (by kernel_rfl) (by kernel_rfl) later_refl later_trans ?_
 repeat (refine can_yes (v:=?_) rfl (wanted_none rfl) (fun w' hC=>?_) (fun K hK=>?_);rotate_left;(focus (go_simp;first | done | exact rfl));go_simp;refine hK _ ?_;clear hK K)
 refine can_go rfl rfl (fun KK hK=>?_)
 go_simp
 refine Hg.out.mono ?_
 rintro e w' ⟨rfl,rfl⟩
 refine ⟨_,rfl,later_refl _,hK _ _ ?_⟩
 clear hK KK
 go_simp
 repeat (refine can_yes (v:=?_) rfl (wanted_none rfl) (fun w' hC=>?_) (fun K hK=>?_);rotate_left;(focus (go_simp;first | done | exact rfl));go_simp;refine hK _ ?_;clear hK K)
 refine can_go rfl rfl (fun KK hK=>?_)
 go_simp
 refine Hs.out.mono ?_
 rintro e w' ⟨rfl,rfl⟩
 refine ⟨_,rfl,later_refl _,hK _ _ ?_⟩
 clear hK KK
 go_simp
 repeat (refine can_yes (v:=?_) rfl (wanted_none rfl) (fun w' hC=>?_) (fun K hK=>?_);rotate_left;(focus (go_simp;first | done | exact rfl));go_simp;refine hK _ ?_;clear hK K)
 refine can_nil ?_
 go_wp2_with fail
 go_ret
 exact ⟨rfl,1,rfl⟩
end Go.Proofs.YtobjdpngnfbicaaGreatDoor
