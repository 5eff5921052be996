/-
  Str RCod RCod2 Disk Disk2 Disk3 Disk4
-/
import Derived.Test.YtobjdpngnfbicaaGreatDoorChecked
import Derived.Test.YtobjdpngnfbicaaGreatDoorZK03
import Derived.WalkSpells
import Derived.Test.YtobjdpngnfbicaaGreatDoorZK04
import Derived.Test.YtobjdpngnfbicaaGreatDoorZK05
import Derived.Test.YtobjdpngnfbicaaGreatDoorZK06
import Derived.Laws.BitsAllLaws
import Derived.Laws.Shifts
import Derived.Defers
import Derived.Recover
import Derived.WalkLawsBesides
import Derived.StillTailTactics
open Go.Lib renaming hid->ae
open Go.IntWalk renaming i64_in->af
open Nat renaming le_refl->aq,le_trans->au,lt_of_lt_of_le->aw
open List renaming length_append->ax,getElem_mem->aA,length_cons->aB
open Go.Proofs.Tryz renaming prog->aC
namespace Go.Proofs.YtobjdpngnfbicaaGreatDoor
open Go.RowKit
set_option linter.unusedVariables false
set_option maxRecDepth 20000
theorem jR {F:aV} {w:World} {v:Value} {l:List UInt8} (h:Bytes F w v l):(convert 41 9 v).run aC w=.ok (.string ⟨l.toArray⟩) w:=by
 obtain⟨a,cap,rfl,hc,hm,hz,hx⟩:=h;cases a with
 | none=>
   have hl:l = []:=by
    rcases hx with h | ⟨b,off,L,t,fz,h,_⟩
    ·exact h
    ·cases h
   subst hl;rw[run_convert_bytes_string w 41 9 5 none _ cap Tryz.underlying41 Tryz.underlying5 Tryz.underlying9];rfl
 | some ad=>
   refine run_convert_bytes_back w 41 9 5 ad cap l Tryz.underlying41 Tryz.underlying5 Tryz.underlying9 (fun j hj=>?_);rcases hx with rfl | ⟨b,off,L,t,fz,hb,hF,hg,hL,hr⟩
   ·simp at hj
   ·simp at hb;subst hb;rw[Addr.add_lit,cell_of_row w b (off+j) L t fz hg];exact hr j hj
section
attribute [local go_sem] opC upC
def g7:List PanicEntry:=[{ v:=.iface 245 (.agg #[]),recovered:=false }]
def tV (w:World) (R:Nat) (sl:Value) (bl:Nat) (o:Option (Nat × List UInt8)) (e:Ending) (w':World):Prop:=
 (match o with
  | some (n,r)=>e=.returned (.int .u64 (n:Int)) /\ ∃ at':Nat,at'+r.length=bl /\ Blk w' R [sl,.int .i64 (at':Int)] 247
  | none=>e=.panicked g7) /\ aK (fun q=>q=R) w w'
theorem oB (f:Nat) (hf:f <= 9):2 ^ (7 * (9 - f))=128 ^ (9 - f):=by rw[Nat.pow_mul]
theorem qi (b:List UInt8) (k:Nat) (h:k < b.length):b.drop k=b[k] :: b.drop (k+1):=List.drop_eq_getElem_cons h
theorem sD (q sh:Nat) (hq:q < 128) (hs:sh <= 63) (h1:sh=63 -> q <= 1) (h2:sh=63 \/ sh <= 56):IntKind.u64.wrap ((q:Int) * 2 ^ min sh 64)=((q * 2 ^ sh:Nat):Int) /\ q * 2 ^ sh < 18446744073709551616:=by
 have hb:q * 2 ^ sh < 18446744073709551616:=by
  rcases h2 with rfl | h2
  ·have:=h1 rfl;have h3:(2:Nat) ^ 63=9223372036854775808:=by decide
   rw[h3];omega
  ·have h3:(2:Nat) ^ sh <= 2 ^ 56:=Nat.pow_le_pow_right (by omega) h2;have h4:(2:Nat) ^ 56=72057594037927936:=by decide
   have h5:q * 2 ^ sh <= 127 * 2 ^ 56:=Nat.mul_le_mul (by omega) h3;omega
 refine⟨?_,hb⟩
 have e:(q:Int) * 2 ^ min sh 64=((q * 2 ^ sh:Nat):Int):=by
  rw[show min sh 64=sh by omega]
  push_cast
  rfl
 rw[e];exact IntWalk.u64_in _ (by omega)
set_option maxRecDepth 100000 in
set_option maxHeartbeats 2000000 in
theorem jS (w:World) (R:Nat) (F:aV) (av:Option Addr) (cap:Nat) (b:List UInt8) (k0:Nat) (hR:Blk w R [.slice av b.length cap,.int .i64 (k0:Int)] 247) (hB:Bytes F w (.slice av b.length cap) b) (hF:∀ q,F q -> q≠R) (hk:k0 <= b.length):
 Calls aC 156 #[.pointer (some ⟨R,0,none⟩)] w (tV w R (.slice av b.length cap) b.length (rdF (b.drop k0) 9)):=by
 obtain⟨o,ho⟩:∃ o,rdF (b.drop k0) 9=o:=⟨_,rfl⟩
 rw[ho];have Ho:=ae ho;have hbl:b.length <= 9223372036854775807:=by obtain⟨-,h1,h2,-⟩:=hB.cells;unfold maxLen at h2;omega
 have HB:=ae (show ∀ W,aK (fun q=>q=R) w W -> Bytes F W (.slice av b.length cap) b from fun W hW=>hB.only hW fun q hq e=>hF q hq e)
 obtain⟨n,hn⟩:∃ n,b.length=n:=⟨_,rfl⟩
 rw[hn] at hR hbl hk ⊢;have Hn:=ae hn;have HRr:=ae hR;clear hB hn ho hR
 go_enter Tryz.func156,Tryz.ntmps156
 go_wp2_with fail
 go_loopw [3,4] (fun sv ss wr=>∃ (f k v:Nat),f <= 9 /\ k <= n /\ ss=.int .i64 ((7 * (9 - f):Nat):Int) /\ sv=.int .u64 (v:Int) /\ v < 128 ^ (9 - f) /\ Blk wr R [.slice av n cap,.int .i64 (k:Int)] 247 /\ rdF (b.drop k0) 9=(rdF (b.drop k) f).map (fun p=>(v+128 ^ (9 - f) * p.1,p.2)) /\ aK (fun q=>q=R) w wr) (fun _ ss _=>64 - (intOf ss).toNat)
 case atStart=>exact⟨9,k0,0,by omega,hk,rfl,rfl,by simp,HRr.out,by cases rdF (b.drop k0) 9 <;> simp,aK.refl _ _⟩
 case round=>
  obtain⟨f,k,v,hf,hkn0,rfl,rfl,hv,hb,hrd,ho⟩:=hrel;have Hrd:=ae hrd;have Hv:=ae hv;have Hbk:=ae hb;have HOn:=ae ho
  obtain⟨sh,hsh⟩:∃ sh,7 * (9 - f)=sh:=⟨_,rfl⟩
  rw[hsh];have Hsh:=ae hsh
  obtain⟨c0,c1⟩:wr.cell? ⟨R,0,none⟩=some (.slice av n cap) /\ wr.cell? ⟨R,1,none⟩=some (.int .i64 (k:Int)):=⟨by simpa using hb.cell 0,by simpa using hb.cell 1⟩
  have fr1:=hb.free 1;have d0:∀ w',aI wr.drew w' -> w'.cell? _=_:=fun w' hh=>laterC c0 hh
  have d1:∀ w',aI wr.drew w' -> w'.cell? _=_:=fun w' hh=>laterC c1 hh
  clear hrd hv hb ho hsh
  by_cases hkn:k < n
  ·have hkI:¬ (n:Int) <= (k:Int):=by omega
   have hkI2:(k:Int) < (n:Int):=by omega
   have hkl:k < b.length:=by rw[Hn.out];exact hkn
   obtain⟨-,-,-,hbc⟩:=(HB.out wr HOn.out).cells;obtain⟨bb,ob,rfl,hFb,hblt,hcc⟩:=hbc.resolve_left (by intro e;rw[e] at hkl;simp at hkl)
   obtain⟨c,hc⟩:∃ c,b[k]=c:=⟨_,rfl⟩
   have c2:=hcc k hkl;rw[hc] at c2;unfold B at c2;have d2:∀ w',aI wr.drew w' -> w'.cell? _=_:=fun w' hh=>laterC c2 hh
   have hdr:=qi b k hkl;rw[hc] at hdr
   obtain⟨m,hm⟩:∃ m,c.toNat=m:=⟨_,rfl⟩
   have hm256:m < 256:=by have:=c.toNat_lt;omega
   rw[hm] at d2 c2;have Hdr:=ae hdr;have Hm:=ae hm;clear hcc hc hdr hm hbc;go_wp2_with fail;refine aJ aI [(0,true),(1,true),(2,true),(3,true),(4,true),(5,true),(6,true),(7,true),(8,true),(9,true)] (by kernel_rfl) (by kernel_rfl) aH aG ?_
   repeat (refine aF (v:=?_) rfl (aD rfl) (fun w' hC=>?_) (fun K hK=>?_);rotate_left;(focus (go_simp;(try simp(disch:=omega) only[af]);first | done | exact rfl));go_simp;(try simp(disch:=omega) only[af]);refine hK _ ?_;clear hK K)
   refine aW ?_;clear d0 d1 d2
   obtain⟨w8,hw8⟩:∃ w8,w8=wr.drew:=⟨_,rfl⟩
   have d0:∀ w',aI w8.drew w' -> w'.cell? _=_:=fun w' hh=>laterC (w:=w8) (by rw[hw8];exact c0) hh
   have d1:∀ w',aI w8.drew w' -> w'.cell? _=_:=fun w' hh=>laterC (w:=w8) (by rw[hw8];exact c1) hh
   have d2:∀ w',aI w8.drew w' -> w'.cell? _=_:=fun w' hh=>laterC (w:=w8) (by rw[hw8];exact c2) hh
   rw[<- hw8];have HO8:=ae (show aK (fun q=>q=R) w w8 by rw[hw8];exact⟨HOn.out.os,HOn.out.tape,HOn.out.output,HOn.out.size,HOn.out.block⟩);have Hb8:=ae (show Blk w8 R [.slice (some ⟨bb,ob,none⟩) n cap,.int .i64 (k:Int)] 247 by rw[hw8];exact Hbk.out.keep rfl);clear hw8 c0 c1 c2 fr1;go_wp2_with fail;refine aJ aI [(0,true),(1,true),(2,true),(3,true),(4,true),(5,true),(6,true),(7,true),(8,true),(9,true),(10,true)] (by kernel_rfl) (by kernel_rfl) aH aG ?_
   repeat (refine aF (v:=?_) rfl (aD rfl) (fun w' hC=>?_) (fun K hK=>?_);rotate_left;(focus (go_simp;(try simp(disch:=omega) only[af]);first | done | exact rfl));go_simp;(try simp(disch:=omega) only[af]);refine hK _ ?_;clear hK K)
   refine aW ?_;clear d0 d1 d2
   obtain⟨w9,hw9⟩:∃ w9,w9=w8.drew:=⟨_,rfl⟩
   rw[<- hw9];have HO9:=ae (show aK (fun q=>q=R) w w9 by rw[hw9];exact⟨HO8.out.os,HO8.out.tape,HO8.out.output,HO8.out.size,HO8.out.block⟩);have hb9:Blk w9 R [.slice (some ⟨bb,ob,none⟩) n cap,.int .i64 (k:Int)] 247:=by rw[hw9];exact Hb8.out.keep rfl
   obtain⟨c0,c1⟩:w9.cell? ⟨R,0,none⟩=some (.slice (some ⟨bb,ob,none⟩) n cap) /\ w9.cell? ⟨R,1,none⟩=some (.int .i64 (k:Int)):=⟨by simpa using hb9.cell 0,by simpa using hb9.cell 1⟩
   have fr1:=hb9.free 1;have Hb9:=ae hb9;have hshv:sh=7 * (9 - f):=Hsh.out.symm;clear hw9 hb9
   by_cases hA:(f=0 /\ 1 < m) \/ (f < 9 /\ m=0)
   ·obtain rfl:o=none:=by
     rw[<- Ho.out,Hrd.out,Hdr.out,pN (by rw[Hm.out];exact hA)];rfl
    rcases hA with ⟨hA1,hA2⟩ | ⟨hA1,hA2⟩
    ·have e1:((sh:Int) == 63)=true:=by simp;omega
     have e1':(sh:Int)=63:=by omega
     have e2:(1:Int) < (m:Int):=by omega
     go_wp2_with fail;exact⟨rfl,rfl,HO9.out⟩
    ·have e2:¬ (1:Int) < (m:Int):=by omega
     have e3:(0:Int) < (sh:Int):=by omega
     have e4:((m:Int) == 0)=true:=by simp;omega
     have e4':(m:Int)=0:=by omega
     by_cases e0:sh=63
     ·have e1:((sh:Int) == 63)=true:=by simp;omega
      have e1':(sh:Int)=63:=by omega
      go_wp2_with fail;exact⟨rfl,rfl,HO9.out⟩
     ·have e1:((sh:Int) == 63)=false:=by simp;omega
      have e1':¬ (sh:Int)=63:=by omega
      go_wp2_with fail;exact⟨rfl,rfl,HO9.out⟩
   ·have hA1:f=0 -> m <= 1:=fun h=>by omega
    have hA2:f < 9 -> m≠0:=fun h h0=>hA (.inr ⟨h,h0⟩)
    obtain⟨q,hq⟩:∃ q,m % 128=q:=⟨_,rfl⟩
    have hband:bits .and .u8 (m:Int) 127=(q:Int):=by
     rw[<- hq,<- nat_mask7];exact u8_and_nat m 127 hm256 (by omega)
    have Hq:=ae hq;clear hq;have hw0:IntKind.u64.wrap (q:Int)=(q:Int):=IntWalk.u64_in _ (by have:=Hq.out;omega)
    obtain⟨nv,hnv⟩:∃ nv,v+q * 2 ^ sh=nv:=⟨_,rfl⟩
    have hq63:sh=63 -> q <= 1:=fun h=>by have:=hA1 (by omega);have:=Hq.out;omega
    have hv2:v < 2 ^ sh:=by have:=Hv.out;rw[<- oB f hf,Hsh.out] at this;exact this
    obtain⟨hsl,hsb⟩:=sD q sh (by have:=Hq.out;omega) (by omega) (fun h=>hq63 h) (by omega)
    have hor:bits .or .u64 (v:Int) (IntKind.u64.wrap ((q:Int) * 2 ^ min sh 64))=(nv:Int):=by
     rw[hsl,<- hnv];have h1:v < 18446744073709551616:=aw hv2 (au (Nat.pow_le_pow_right (by omega) (show sh <= 63 by omega)) (by decide));rw[u64_or_nat v (q * 2 ^ sh) h1 hsb,Nat.or_comm,nat_join sh (q * 2 ^ sh) v (by simp) hv2,Nat.add_comm]
    have hor2:bits .or .u64 (v:Int) (IntKind.u64.wrap ((q:Int) * 2 ^ sh))=(nv:Int):=by
     have h:=hor;rw[show min sh 64=sh by omega] at h;exact h
    have HNv:=ae hnv;clear hnv hsl hsb hv2
    obtain⟨w10,hw10⟩:∃ w10,w10=w9.setCell ⟨R,1,none⟩ (.int .i64 ((k:Int)+1)):=⟨_,rfl⟩
    have Hb10:=ae (show Blk w10 R [.slice (some ⟨bb,ob,none⟩) n cap,.int .i64 (((k+1:Nat)):Int)] 247 by rw[hw10];exact Hb9.out.set 1 _);have HO10:=ae (show aK (fun q=>q=R) w w10 by rw[hw10];exact HO9.out.setCell (.inl rfl) _);have Hw10:=ae hw10;clear hw10
    by_cases h128:m < 128
    ·have h128I:(m:Int) < 128:=by omega
     have Hfin:=ae (show o=some (nv,b.drop (k+1)) by
      rw[<- Ho.out,Hrd.out,Hdr.out,pO (by rw[Hm.out];exact hA) (by rw[Hm.out];exact h128),Hm.out,Option.map_some]
      congr 2
      rw[<- HNv.out,<- Hsh.out,oB f hf,<- Hq.out,Nat.mod_eq_of_lt h128,Nat.mul_comm])
     by_cases e0:sh=63
     ·have e1:((sh:Int) == 63)=true:=by simp;omega
      have e2:¬ (1:Int) < (m:Int):=by have:=hA1 (by omega);omega
      have e3I:(0:Int) < (sh:Int):=by omega
      have e4:((m:Int) == 0)=false:=by have:=hA2 (by omega);simp;omega
      have e4':¬ (m:Int)=0:=by have:=hA2 (by omega);omega
      clear hshv hA hA1 hA2 e0 hq63;go_wp2_with fail;rw[<- Hw10.out]
      go_ret
      rw[Hfin.out];exact⟨⟨rfl,k+1,by simp[Hn.out];omega,Hb10.out⟩,HO10.out⟩
     ·have e1:((sh:Int) == 63)=false:=by simp;omega
      have e1':¬ (sh:Int)=63:=by omega
      by_cases e3:0 < sh
      ·have e3I:(0:Int) < (sh:Int):=by omega
       have e4:((m:Int) == 0)=false:=by have:=hA2 (by omega);simp;omega
       have e4':¬ (m:Int)=0:=by have:=hA2 (by omega);omega
       clear hshv hA hA1 hA2 e0 hq63;go_wp2_with fail;rw[<- Hw10.out]
       go_ret
       rw[Hfin.out];exact⟨⟨rfl,k+1,by simp[Hn.out];omega,Hb10.out⟩,HO10.out⟩
      ·have e3I:¬ (0:Int) < (sh:Int):=by omega
       clear hshv hA hA1 hA2 e0 hq63;go_wp2_with fail;rw[<- Hw10.out]
       go_ret
       rw[Hfin.out];exact⟨⟨rfl,k+1,by simp[Hn.out];omega,Hb10.out⟩,HO10.out⟩
    ·have h128I:¬ (m:Int) < 128:=by omega
     have hf0:f≠0:=fun h=>by have:=hA1 h;omega
     have e1:((sh:Int) == 63)=false:=by simp;omega
     have e1':¬ (sh:Int)=63:=by omega
     have e4:((m:Int) == 0)=false:=by simp;omega
     have e4':¬ (m:Int)=0:=by omega
     have hsh7:((7 * (9 - (f - 1)):Nat):Int)=(sh:Int)+7:=by omega
     have Hrel:=ae (show nv < 128 ^ (9 - (f - 1)) /\ rdF (b.drop k0) 9=(rdF (b.drop (k+1)) (f - 1)).map (fun p=>(nv+128 ^ (9 - (f - 1)) * p.1,p.2)) from by
      have hp:(128:Nat) ^ (9 - (f - 1))=128 ^ (9 - f) * 128:=by rw[<- Nat.pow_succ];congr 1;omega
      have h2:=oB f hf;rw[Hsh.out] at h2;have h3:=Hv.out;have h4:=HNv.out;have h5:=Hq.out;rw[h2] at h4;constructor
      ·rw[hp,<- h4];have:q * 128 ^ (9 - f) <= 127 * 128 ^ (9 - f):=Nat.mul_le_mul_right _ (by omega);omega
      ·rw[Hrd.out,Hdr.out,qZ (by rw[Hm.out];exact hA) (by rw[Hm.out];exact h128),Option.map_map,Hm.out,h5]
       congr 1
       funext p
       simp only[Function.comp];rw[hp,<- h4,Nat.mul_add,Nat.mul_assoc,Nat.mul_comm q]
       congr 1
       omega)
     have Hsh7:=ae hsh7;have hsh56:sh <= 56:=by omega
     clear hsh7 hA hA1 hA2 hq63
     by_cases e3:0 < sh
     ·have e3I:(0:Int) < (sh:Int):=by omega
      clear hshv;go_wp2_with fail;rw[<- Hw10.out]
      go_roundw
      case rel=>exact⟨f - 1,k+1,nv,by omega,by omega,by rw[Hsh7.out],rfl,Hrel.out.1,Hb10.out,Hrel.out.2,HO10.out⟩
      case measure=>simp[intOf];omega
     ·have e3I:¬ (0:Int) < (sh:Int):=by omega
      clear hshv;go_wp2_with fail;rw[<- Hw10.out]
      go_roundw
      case rel=>exact⟨f - 1,k+1,nv,by omega,by omega,by rw[Hsh7.out],rfl,Hrel.out.1,Hb10.out,Hrel.out.2,HO10.out⟩
      case measure=>simp[intOf];omega
  ·have hkI:(n:Int) <= (k:Int):=by omega
   go_wp2_with fail;refine aJ aI [(0,true),(1,true),(2,true),(3,true),(4,true),(5,true),(6,true),(7,true),(8,true),(9,true)] (by kernel_rfl) (by kernel_rfl) aH aG ?_
   repeat (refine aF (v:=?_) rfl (aD rfl) (fun w' hC=>?_) (fun K hK=>?_);rotate_left;(focus (go_simp;(try simp(disch:=omega) only[af]);first | done | exact rfl));go_simp;(try simp(disch:=omega) only[af]);refine hK _ ?_;clear hK K)
   refine aW ?_
   obtain rfl:o=none:=by
    rw[<- Ho.out,Hrd.out,List.drop_eq_nil_of_le (by rw[Hn.out];omega),pM];rfl
   have HO9:=ae (show aK (fun q=>q=R) w wr.drew from ⟨HOn.out.os,HOn.out.tape,HOn.out.output,HOn.out.size,HOn.out.block⟩);go_wp2_with fail;exact⟨rfl,rfl,HO9.out⟩
end
section
attribute [local go_sem] opC upC
theorem Bytes.cut {F:aV} {w:World} {bb ob cap:Nat} {l:List UInt8} (h:Bytes F w (.slice (some ⟨bb,ob,none⟩) l.length cap) l) (k m:Nat) (hk:k+m <= l.length):Bytes F w (.slice (some ⟨bb,ob+k,none⟩) m (cap - k)) ((l.drop k).take m):=by
 obtain⟨a,c,hv,hc,hm,hz,h⟩:=h;simp at hv;obtain⟨rfl,rfl⟩:=hv;have hlen:((l.drop k).take m).length=m:=by simp;omega
 refine⟨some ⟨bb,ob+k,none⟩,cap - k,by rw[hlen],by rw[hlen];omega,by unfold maxLen at *;omega,nofun,?_⟩;rcases h with h | ⟨b,off,L,t,fz,e,hF,hb,hl,hr⟩
 ·left;rw[h];simp
 ·simp at e;obtain⟨rfl,rfl⟩:=e;refine .inr ⟨bb,ob+k,L,t,fz,rfl,hF,hb,by rw[hlen];omega,fun i hi=>?_⟩;rw[hlen] at hi;have:=hr (k+i) (by omega);rw[Nat.add_assoc,this];simp[List.getElem_take,List.getElem_drop]
theorem Bytes.cutI {F:aV} {w:World} {bb ob cap:Nat} {l:List UInt8} (h:Bytes F w (.slice (some ⟨bb,ob,none⟩) l.length cap) l) (k m:Nat) (hk:k+m <= l.length):Bytes F w (.slice (if cap=k then some ⟨bb,ob,none⟩ else some ⟨bb,ob+k,none⟩) m (cap - k)) ((l.drop k).take m):=by
 have h2:=h.cut k m hk
 by_cases e:cap=k
 ·rw[if_pos e];obtain⟨-,hc,hm,-⟩:=h.cells;have hm0:m=0:=by omega
  subst hm0;exact⟨some ⟨bb,ob,none⟩,cap - k,by simp,by simp,by unfold maxLen at *;omega,nofun,.inl (by simp)⟩
 ·rw[if_neg e];exact h2
def tH (w:World) (R:Nat) (sl:Value) (bl:Nat) (o:Option (RKey × List UInt8)) (e:Ending) (w':World):Prop:=
 (match o with
  | some (k,r)=>e=.returned (.string ⟨k.toArray⟩) /\ ∃ at':Nat,at'+r.length=bl /\ Blk w' R [sl,.int .i64 (at':Int)] 247
  | none=>e=.panicked g7) /\ aK (fun q=>q=R) w w'
set_option maxRecDepth 100000 in
set_option maxHeartbeats 2000000 in
theorem lu (w:World) (R:Nat) (F:aV) (av:Option Addr) (cap:Nat) (b:List UInt8) (k0:Nat) (hR:Blk w R [.slice av b.length cap,.int .i64 (k0:Int)] 247) (hB:Bytes F w (.slice av b.length cap) b) (hF:∀ q,F q -> q≠R) (hk:k0 <= b.length):
 Calls aC 218 #[.pointer (some ⟨R,0,none⟩)] w (tH w R (.slice av b.length cap) b.length (rdT (b.drop k0))):=by
 have hN:=jS w R F av cap b k0 hR hB hF hk;have hbl:b.length <= 9223372036854775807:=by obtain⟨-,h1,h2,-⟩:=hB.cells;unfold maxLen at h2;omega
 have HB:=ae (show ∀ W,aK (fun q=>q=R) w W -> Bytes F W (.slice av b.length cap) b from fun W hW=>hB.only hW fun q hq e=>hF q hq e)
 obtain⟨o,ho⟩:∃ o,rdF (b.drop k0) 9=o:=⟨_,rfl⟩
 obtain⟨n,hn⟩:∃ n,b.length=n:=⟨_,rfl⟩
 obtain⟨ot,hot⟩:∃ ot,rdT (b.drop k0)=ot:=⟨_,rfl⟩
 rw[ho,hn] at hN;rw[hot];rw[hn] at hbl hk ⊢;unfold rdT at hot;rw[ho] at hot;have HN:=ae hN;have Ho:=ae ho;have Hn:=ae hn;have Hot:=ae hot;clear hN hB ho hn hot hR
 go_enter Tryz.func218,Tryz.ntmps218
 go_wp2_with fail;refine HN.out.mono ?_;rintro e w1 hC;clear HN;cases o with
 | none=>
   obtain⟨rfl,hO⟩:=hC;obtain rfl:ot=none:=Hot.out.symm;have HO:=ae hO;clear hO;go_wp2_with fail;exact⟨rfl,rfl,HO.out⟩
 | some p=>
   obtain⟨m,r⟩:=p;obtain⟨⟨rfl,k1,hk1,hb1⟩,hO⟩:=hC;have hlen:=iQ Ho.out
   obtain⟨rl,hrl⟩:∃ rl,r.length=rl:=⟨_,rfl⟩
   have hdl:(b.drop k0).length=n - k0:=by rw[List.length_drop,Hn.out]
   rw[hdl,hrl] at hlen;rw[hrl] at hk1;have hm64:m < 18446744073709551616:=hlen.2.2
   have hr1:r=b.drop k1:=by
    have h1:=(fk.1 Ho.out).2;have h2:r=(b.drop k0).drop (uvar m).length:=by rw[h1];simp
    have h3:=congrArg List.length h1;rw[hdl,ax,hrl] at h3;rw[h2,List.drop_drop]
    congr 1
    omega
   have hkn1:k1 <= n:=by omega
   have hkpos:0 < n:=by omega
   obtain⟨bb,ob,rfl⟩:∃ bb ob,av=some ⟨bb,ob,none⟩:=by
    obtain⟨-,-,-,hbc⟩:=(HB.out w1 hO).cells;obtain⟨bb,ob,e,-⟩:=hbc.resolve_left (by intro e;rw[e] at Hn;have:=Hn.out;simp at this;omega);exact⟨bb,ob,e⟩
   have hbc:=(HB.out w1 hO).cells
   have hcap:n <= cap /\ cap <= maxLen:=⟨by rw[<- Hn.out];exact hbc.2.1,hbc.2.2.1⟩
   unfold maxLen at hcap;have hncap:=hcap.1;have hcapm:=hcap.2
   have hsub:IntKind.u64.wrap ((n:Int) - (k1:Int))=(rl:Int):=by
    rw[show (n:Int) - (k1:Int)=(rl:Int) by omega];exact IntWalk.u64_in _ (by omega)
   have hsub2:IntKind.u64.wrap (rl:Int)=(rl:Int):=IntWalk.u64_in _ (by omega)
   have hsub3:IntKind.i64.wrap ((n:Int) - (k1:Int))=(rl:Int):=by
    rw[show (n:Int) - (k1:Int)=(rl:Int) by omega];exact af _ (by omega)
   have Hb1:=ae hb1;have HO:=ae hO;have Hrl:=ae hrl;have Hr1:=ae hr1;have Hk1:=ae hk1;clear hb1 hO hrl hr1 hlen hdl hbc hcap;have d0:∀ w',aI w1.drew w' -> w'.cell? ⟨R,0,none⟩=some (.slice (some ⟨bb,ob,none⟩) n cap):=fun w' hh=>laterC (w:=w1) (by simpa using Hb1.out.cell 0) hh
   have d1:∀ w',aI w1.drew w' -> w'.cell? ⟨R,1,none⟩=some (.int .i64 (k1:Int)):=fun w' hh=>laterC (w:=w1) (by simpa using Hb1.out.cell 1) hh
   by_cases hmr:m <= rl
   ·have hmI:¬ (rl:Int) < (m:Int):=by omega
    have hm63:IntKind.i64.wrap (m:Int)=(m:Int):=af _ (by have:=Hk1.out;omega);have hsum:IntKind.i64.wrap ((k1:Int)+(m:Int))=(k1:Int)+(m:Int):=af _ (by have:=Hk1.out;omega)
    have Hfin:=ae (show ot=some (r.take m,r.drop m) by
     rw[<- Hot.out];show (if m <= r.length then some (r.take m,r.drop m) else none)=_
     rw[Hrl.out,if_pos hmr])
    have hkm:k1+m <= n:=by have:=Hk1.out;omega
    go_wp2_with fail;refine aJ aI [(0,true),(1,true),(2,true),(3,true),(4,true),(5,true),(6,true),(7,true),(8,true),(9,true),(10,true),(11,true),(12,true)] (by kernel_rfl) (by kernel_rfl) aH aG ?_
    repeat (refine aF (v:=?_) rfl (aD rfl) (fun w' hC=>?_) (fun K hK=>?_);rotate_left;(focus (go_simp;(try simp(disch:=omega) only[af]);first | done | exact rfl));go_simp;(try simp(disch:=omega) only[af]);refine hK _ ?_;clear hK K)
    refine aW ?_;clear d0 d1 hsub hsub2 hsub3
    obtain⟨w8,hw8⟩:∃ w8,w8=w1.drew:=⟨_,rfl⟩
    rw[<- hw8];have HO8:=ae (show aK (fun q=>q=R) w w8 by rw[hw8];exact⟨HO.out.os,HO.out.tape,HO.out.output,HO.out.size,HO.out.block⟩);have Hb8:=ae (show Blk w8 R [.slice (some ⟨bb,ob,none⟩) n cap,.int .i64 (k1:Int)] 247 by rw[hw8];exact Hb1.out.keep rfl);clear hw8;have d0:∀ w',aI w8.drew w' -> w'.cell? ⟨R,0,none⟩=some (.slice (some ⟨bb,ob,none⟩) n cap):=fun w' hh=>laterC (w:=w8) (by simpa using Hb8.out.cell 0) hh
    have d1:∀ w',aI w8.drew w' -> w'.cell? ⟨R,1,none⟩=some (.int .i64 (k1:Int)):=fun w' hh=>laterC (w:=w8) (by simpa using Hb8.out.cell 1) hh
    have hcut:=(show Bytes F w8 (.slice (some ⟨bb,ob,none⟩) b.length cap) b from HB.out w8 HO8.out).cutI k1 m (by rw[Hn.out];exact hkm)
    obtain⟨ad,had⟩:∃ ad:Option Addr,(if cap=k1 then some ⟨bb,ob,none⟩ else some ⟨bb,ob+k1,none⟩)=ad:=⟨_,rfl⟩
    rw[had] at hcut
    have d2:∀ w',aI w8.drew w' -> (convert 41 9 (.slice ad m (cap - k1))).run aC w'=.ok (.string ⟨(r.take m).toArray⟩) w':=fun w' hh=>by
     rw[Hr1.out]
     exact jR (hcut.keep (w':=w') fun q _ hlt=>by
      have:=hh.block q hlt
      exact this)
    have hb1':(k1:Int) <= (k1:Int)+(m:Int):=by omega
    have hb2':(k1:Int)+(m:Int) <= (cap:Int):=by omega
    have htn:((k1:Int)+(m:Int)).toNat - k1=m:=by omega
    clear hcut;go_wp2_with fail;refine aJ aI [(0,true),(1,true),(2,true),(3,true),(4,true),(5,true),(6,true),(7,true),(8,true),(9,true),(10,true),(11,true),(12,true),(13,true),(14,true),(15,true),(16,true),(17,true)] (by kernel_rfl) (by kernel_rfl) aH aG ?_
    repeat (refine aF (v:=?_) rfl (aD rfl) (fun w' hC=>?_) (fun K hK=>?_);rotate_left;(focus (go_simp;(try simp(disch:=omega) only[af]);first | done | exact rfl));go_simp;(try simp(disch:=omega) only[af]);refine hK _ ?_;clear hK K)
    refine aW ?_;clear d0 d1 d2 had
    obtain⟨w9,hw9⟩:∃ w9,w9=w8.drew:=⟨_,rfl⟩
    rw[<- hw9];have HO9:=ae (show aK (fun q=>q=R) w w9 by rw[hw9];exact⟨HO8.out.os,HO8.out.tape,HO8.out.output,HO8.out.size,HO8.out.block⟩);have hb9:Blk w9 R [.slice (some ⟨bb,ob,none⟩) n cap,.int .i64 (k1:Int)] 247:=by rw[hw9];exact Hb8.out.keep rfl
    obtain⟨c0,c1⟩:w9.cell? ⟨R,0,none⟩=some (.slice (some ⟨bb,ob,none⟩) n cap) /\ w9.cell? ⟨R,1,none⟩=some (.int .i64 (k1:Int)):=⟨by simpa using hb9.cell 0,by simpa using hb9.cell 1⟩
    have fr1:=hb9.free 1
    obtain⟨w10,hw10⟩:∃ w10,w10=w9.setCell ⟨R,1,none⟩ (.int .i64 ((k1:Int)+(m:Int))):=⟨_,rfl⟩
    have Hb10:=ae (show Blk w10 R [.slice (some ⟨bb,ob,none⟩) n cap,.int .i64 (((k1+m:Nat)):Int)] 247 by rw[hw10];exact hb9.set 1 _);have HO10:=ae (show aK (fun q=>q=R) w w10 by rw[hw10];exact HO9.out.setCell (.inl rfl) _);have Hw10:=ae hw10;clear hw9 hb9 hw10;go_wp2_with fail;rw[<- Hw10.out]
    go_ret
    rw[Hfin.out];exact⟨⟨rfl,k1+m,by rw[List.length_drop,Hrl.out];have:=Hk1.out;omega,Hb10.out⟩,HO10.out⟩
   ·have hmI:(rl:Int) < (m:Int):=by omega
    obtain rfl:ot=none:=by
     rw[<- Hot.out];show (if m <= r.length then some (r.take m,r.drop m) else none)=_;rw[Hrl.out,if_neg hmr]
    go_wp2_with fail;refine aJ aI [(0,true),(1,true),(2,true),(3,true),(4,true),(5,true),(6,true),(7,true),(8,true),(9,true),(10,true),(11,true),(12,true)] (by kernel_rfl) (by kernel_rfl) aH aG ?_
    repeat (refine aF (v:=?_) rfl (aD rfl) (fun w' hC=>?_) (fun K hK=>?_);rotate_left;(focus (go_simp;(try simp(disch:=omega) only[af]);first | done | exact rfl));go_simp;(try simp(disch:=omega) only[af]);refine hK _ ?_;clear hK K)
    refine aW ?_;have HO9:=ae (show aK (fun q=>q=R) w w1.drew from ⟨HO.out.os,HO.out.tape,HO.out.output,HO.out.size,HO.out.block⟩);go_wp2_with fail;exact⟨rfl,rfl,HO9.out⟩
end
structure MD where
 S:List (List UInt8)
 down:Bool
 fault:Option (Nat × List UInt8)
 writes:Nat
structure DK where
 d:Nat
 bs:Nat
 bf:Nat
def DK.foot (K:DK):aV:=fun k=>k=K.d \/ k=K.bs \/ k=K.bf
def fu (L:List Value) (S:List (List UInt8)):Prop:=
 S.length * 64 <= L.length /\ (∀ i (h:i < S.length),(L.drop (i * 64)).take 64=S[i].map B) /\ ∀ s ∈ S,s.length=64
structure bj (w:World) (K:DK) (M:MD):Prop where
 pos:0 < M.S.length
 le:M.S.length <= 65536
 main:∃ cap,M.S.length <= cap /\ cap <= maxLen /\ Blk w K.d [.slice (some ⟨K.bs,0,none⟩) M.S.length cap,.bool M.down,.pointer (M.fault.map fun _=>⟨K.bf,0,none⟩),.int .i64 (M.writes:Int)] 88
 secs:∃ L,Blk w K.bs L 99 /\ fu L M.S
 none_:M.fault=none -> K.bf=K.d
 some_:∀ k t,M.fault=some (k,t) -> t.length=64 /\ k <= 9223372036854775807 /\ Blk w K.bf (.int .i64 (k:Int) :: t.map B) 101
theorem bj.keep {w w':World} {K:DK} {M:MD} (h:bj w K M) (hk:∀ b,K.foot b -> w'.heap[b]?=w.heap[b]?):bj w' K M:=by
 obtain⟨h1,h2,⟨cap,hc,hcm,h3⟩,⟨L,h4,h5⟩,h6,h7⟩:=h;exact⟨h1,h2,⟨cap,hc,hcm,h3.keep (hk _ (.inl rfl))⟩,⟨L,h4.keep (hk _ (.inr (.inl rfl))),h5⟩,h6,fun k t ht=>⟨(h7 k t ht).1,(h7 k t ht).2.1,(h7 k t ht).2.2.keep (hk _ (.inr (.inr rfl)))⟩⟩
theorem bj.lt {w:World} {K:DK} {M:MD} (h:bj w K M):∀ b,K.foot b -> b < w.heap.size:=by
 obtain⟨h1,h2,⟨cap,hc,hcm,h3⟩,⟨L,h4,h5⟩,h6,h7⟩:=h;rintro b (rfl | rfl | rfl)
 ·exact h3.lt
 ·exact h4.lt
 ·cases hf:M.fault with
  | none=>rw[h6 hf];exact h3.lt
  | some p=>exact(h7 p.1 p.2 (by rw[hf])).2.2.lt
theorem bj.only {w w':World} {K:DK} {M:MD} {F:aV} (h:bj w K M) (ho:aK F w w') (hd:∀ b,K.foot b -> ¬ F b):bj w' K M:=
 h.keep fun b hb=>ho.block b (h.lt b hb) (hd b hb)
def MD.chk (M:MD) (i:Int):Int:=if M.down then 341 else if 0 <= i /\ i < M.S.length then 0 else 6
theorem e9 (w:World) (K:DK) (M:MD) (i:Int) (h:bj w K M):
 Calls aC 76 #[.pointer (some ⟨K.d,0,none⟩),.int .i64 i] w fun e w'=>e=.returned (.int .i64 (M.chk i)) /\ w=w':=by
 obtain⟨h1,h2,⟨cap,hc,hcm,h3⟩,_,_,_⟩:=h;have c0:=h3.cell 0;have c1:=h3.cell 1;simp at c0 c1;have hn:M.S.length <= 9223372036854775807:=by omega
 unfold MD.chk;generalize M.down=dn at *;generalize M.S.length=n at *;cases dn
 ·by_cases hi:i < 0
  ·go_enter Tryz.func76,Tryz.ntmps76
   go_wp2_with fail
   go_ret
   exact⟨eY (by simp <;> omega),rfl⟩
  ·by_cases hi2:(n:Int) <= i
   all_goals
    go_enter Tryz.func76,Tryz.ntmps76
    go_wp2_with fail
    go_ret
    exact⟨eY (by simp <;> omega),rfl⟩
 ·go_enter Tryz.func76,Tryz.ntmps76
  go_wp2_with fail
  go_ret
  exact⟨eY (by simp),rfl⟩
section
attribute [local go_sem ↓] bq
theorem oC {L:List Value} {S:List (List UInt8)} (h:fu L S) (i:Nat) (hi:i < S.length) (j:Nat) (hj:j < (S[i]).length):L[i * 64+j]?=some (B (S[i])[j]):=by
 obtain⟨h1,h2,h3⟩:=h;have hl:(S[i]).length=64:=h3 _ (aA hi);have:=h2 i hi;have e:((L.drop (i * 64)).take 64)[j]?=(S[i].map B)[j]?:=by rw[this]
 rw[List.getElem?_take,if_pos (by omega),List.getElem?_drop] at e;simpa[List.getElem?_eq_getElem hj] using e
theorem lY {w:World} {K:DK} {M:MD} (h:bj w K M) (i:Nat) (hi:i < M.S.length):Bytes K.foot w (.slice (some ⟨K.bs,i * 64,none⟩) 64 64) M.S[i]:=by
 obtain⟨L,hL,hs⟩:=h.secs;have hl:(M.S[i]).length=64:=hs.2.2 _ (aA hi);have h1:=hs.1;refine⟨some ⟨K.bs,i * 64,none⟩,64,by rw[hl],by omega,by unfold maxLen;omega,nofun,.inr ⟨K.bs,i * 64,L.toArray,_,_,rfl,.inr (.inl rfl),hL,by simp;omega,fun j hj=>?_⟩⟩;simpa using oC hs i hi j hj
theorem sE (w:World) (K:DK) (M:MD) (i:Nat) (h:bj w K M) (hi:i < M.S.length) (hdn:M.down=false):
 Calls aC 153 #[.pointer (some ⟨K.d,0,none⟩),.int .i64 (i:Int)] w fun e w'=>∃ r,e=.returned (.tuple #[r,.int .i64 0]) /\
  w'.ownsRow w.heap.size 5 1 r 64 (M.S[i].map B) /\ Below w.heap.size w w':=by
 have hsb:=lY h i hi;have hl:(M.S[i]).length=64:=by obtain⟨L,hL,hs⟩:=h.secs;exact hs.2.2 _ (aA hi)
 have hc:M.chk (i:Int)=0:=by unfold MD.chk;rw[hdn,if_neg (by simp),if_pos (by omega)]
 have Hc:=ae hc;clear hc;obtain⟨cap,hcap,hcm,h3⟩:=h.main;have c0:=h3.cell 0;simp at c0;have hle:=h.le;have hn0:(i:Int) < (M.S.length:Int):=by omega
 have HL:=ae hl;clear hl
 go_enter Tryz.func153,Tryz.ntmps153
 go_wp2_with fail;refine(e9 w K M i h).mono ?_;rintro e w' ⟨rfl,rfl⟩;rw[Hc.out];go_wp2_with fail;refine(gS w K.foot _ _ hsb (by rw[HL.out];omega)).mono ?_;rintro e w' ⟨r,rfl,ho,hb⟩;go_wp2_with fail;go_ret2;exact⟨r,rfl,by rw[HL.out] at ho;exact ho,hb⟩
theorem mZ (w:World) (K:DK) (M:MD) (h:bj w K M):
 Calls aC 21 #[.pointer (some ⟨K.d,0,none⟩)] w fun e w'=>e=.returned (.bool M.down) /\ w=w':=by
 obtain⟨cap,hcap,hcm,h3⟩:=h.main;have c0:=h3.cell 1;simp at c0
 go_enter Tryz.func21,Tryz.ntmps21
 go_wp2_with fail
 go_ret
 exact⟨rfl,rfl⟩
theorem jT (w:World) (K:DK) (M:MD) (h:bj w K M):
 Calls aC 86 #[.pointer (some ⟨K.d,0,none⟩)] w fun e w'=>e=.returned (.int .i64 (M.S.length:Int)) /\ w=w':=by
 obtain⟨cap,hcap,hcm,h3⟩:=h.main;have c0:=h3.cell 0;simp at c0
 go_enter Tryz.func86,Tryz.ntmps86
 go_wp2_with fail
 go_ret
 exact⟨rfl,rfl⟩
theorem oD (w:World) (K:DK) (M:MD) (h:bj w K M):
 Calls aC 37 #[.pointer (some ⟨K.d,0,none⟩)] w fun e w'=>e=.returned (.int .i64 (M.writes:Int)) /\ w=w':=by
 obtain⟨cap,hcap,hcm,h3⟩:=h.main;have c0:=h3.cell 3;simp at c0
 go_enter Tryz.func37,Tryz.ntmps37
 go_wp2_with fail
 go_ret
 exact⟨rfl,rfl⟩
theorem bj.ne {w:World} {K:DK} {M:MD} (h:bj w K M):K.d≠K.bs /\ K.bs≠K.bf:=by
 obtain⟨cap,hcap,hcm,h3⟩:=h.main;obtain⟨L,hL,hs⟩:=h.secs;have h1:K.d≠K.bs:=h3.ne hL (by decide);refine⟨h1,?_⟩;cases hf:M.fault with
 | none=>rw[h.none_ hf];exact h1.symm
 | some p=>exact hL.ne (h.some_ p.1 p.2 (by rw[hf])).2.2 (by decide)
theorem bj.ne2 {w:World} {K:DK} {M:MD} (h:bj w K M) (hf:M.fault≠none):K.d≠K.bf:=by
 obtain⟨cap,hcap,hcm,h3⟩:=h.main;cases hf':M.fault with
 | none=>exact absurd hf' hf
 | some p=>exact h3.ne (h.some_ p.1 p.2 (by rw[hf'])).2.2 (by decide)
theorem tk (w:World) (K:DK) (M:MD) (h:bj w K M):
 Calls aC 25 #[.pointer (some ⟨K.d,0,none⟩)] w fun e w'=>e=.returned (.tuple #[]) /\ bj w' K { M with down:=false } /\ aK K.foot w w' /\ w'.heap.size=w.heap.size:=by
 obtain⟨h1,h2,⟨cap,hcap,hcm,h3⟩,⟨L,h4,h5⟩,h6,h7⟩:=h;have hne:=h3.ne h4 (by decide);have c0:=h3.cell 1;have f0:=h3.free 1;simp at c0;have Hst:Hid (∀ k t,M.fault=some (k,t) -> K.d≠K.bf):=fun k t ht=>h3.ne (h7 k t ht).2.2 (by decide)
 have H6:=ae h6;have H7:=ae h7;clear h6 h7
 go_enter Tryz.func25,Tryz.ntmps25
 go_wp2_with fail
 go_end0
 refine⟨rfl,⟨h1,h2,⟨cap,hcap,hcm,by simpa using h3.set 1 (.bool false)⟩,⟨L,h4.set_other _ hne.symm,h5⟩,H6.out,fun k t ht=>⟨(H7.out k t ht).1,(H7.out k t ht).2.1,(H7.out k t ht).2.2.set_other _ (Hst.out k t ht).symm⟩⟩,(aK.refl _ _).setCell (.inl (.inl rfl)) _,by simp[World.setCell]⟩
end
theorem qj (off:Nat):∀ (V:List Value) (i:Nat) (cs:Array Value),off+i+V.length <= cs.size ->
 (V.zipIdx i).foldl (fun (cs:Array Value) (x:Value × Nat)=>cs.setIfInBounds (off+x.2) x.1) cs=(cs.toList.take (off+i) ++ V ++ cs.toList.drop (off+i+V.length)).toArray:=by
 intro V
 induction V with
 | nil=>intro i cs h;simp
 | cons v V ih=>
   intro i cs h;simp only[aB] at h;rw[List.zipIdx_cons,List.foldl_cons,ih (i+1) _ (by simp;omega)]
   congr 1
   simp only[Array.toList_setIfInBounds];apply List.ext_getElem?;intro j;simp only[List.getElem?_append,ax,List.length_take,List.length_set,Array.length_toList,List.getElem?_take,List.getElem?_drop,List.getElem?_set,aB]
   by_cases h1:j < off+i
   ·have e1:j < min (off+(i+1)) cs.size:=by omega
    have e2:j < min (off+i) cs.size:=by omega
    rw[if_pos (by omega),if_pos e1,if_pos (by omega),if_neg (by omega),if_pos (by omega),if_pos e2,if_pos h1]
   ·by_cases h2:j=off+i
    ·subst h2;have e1:off+i < min (off+(i+1)) cs.size:=by omega
     rw[if_pos (by omega),if_pos e1,if_pos (by omega),if_pos rfl,if_pos (by omega),if_pos (by omega),if_neg (by omega)];simp[show off+i - min (off+i) cs.size=0 from by omega]
    ·by_cases h3:j < off+i+(V.length+1)
     ·rw[if_pos (by omega),if_neg (by omega),if_pos (by omega),if_neg (by omega)];rw[show j - min (off+i) cs.size=(j - min (off+(i+1)) cs.size)+1 from by omega];simp
     ·rw[if_neg (by omega),if_neg (by omega),if_neg (by omega)]
      congr 1
      omega
def BD (t:TypeId) (parts:Array (Nat × Value)):Sem Value:=Instr.build t parts
theorem df (parts:Array (Nat × Value)):Instr.build 101 parts=BD 101 parts:=rfl
theorem dg (a:Addr):loadVar 99 a=LV 99 a:=rfl
theorem dk (a:Addr):loadVar 101 a=LV 101 a:=rfl
theorem cP (a:Addr) (v:Value):storeVar 99 a v=SV 99 a v:=rfl
theorem dh (a:Addr) (v:Value):storeVar 101 a v=SV 101 a v:=rfl
theorem qk:(aC.info? 101).map (fun i=>i.zero.map (fun z=>z.cells.size))=some (some 65):=by kernel_rfl
theorem ql {P:Program} {t:TypeId} {n:Nat} (h:(P.info? t).map (fun i=>i.zero.map (fun z=>z.cells.size))=some (some n)):∃ i z,P.info? t=some i /\ i.zero=some z /\ z.cells.size=n:=by
 obtain⟨i,hi,h1⟩:=Option.map_eq_some_iff.1 h;obtain⟨z,hz,h2⟩:=Option.map_eq_some_iff.1 h1;exact⟨i,z,hi,hz,h2⟩
theorem eQ:(aC.info? 99).map (·.size)=some 64:=by kernel_rfl
theorem sF:(aC.info? 3).map (·.size)=some 1:=by kernel_rfl
theorem lZ (w:World) (k:Int) (V:List Value) (hV:V.length=64):
 (BD 101 #[(0,.int .i64 k),(1,.agg V.toArray)]).run aC w=.ok (.agg (.int .i64 k :: V).toArray) w:=by
 obtain⟨i,zv,hi,hz,hs⟩:=ql qk;obtain⟨i1,h1,s1⟩:=Option.map_eq_some_iff.1 sF;obtain⟨i2,h2,s2⟩:=Option.map_eq_some_iff.1 eQ;generalize hzc:zv.cells=z at *;have hne:¬ z=#[]:=by intro h;rw[h] at hs;simp at hs
 have hf:=qj 1 V 0 (z.setIfInBounds 0 (.int .i64 k)) (by simp;omega);have c1:∀ (q:IntKind) (n:Int),(Value.int q n).cells=#[.int q n]:=fun _ _=>rfl
 have c2:∀ (cs:Array Value),(Value.agg cs).cells=cs:=fun _=>rfl
 have fin:(List.take 1 (z.toList.set 0 (.int .i64 k)) ++ V ++ List.drop (1+V.length) (z.toList.set 0 (.int .i64 k)))=.int .i64 k :: V:=by
  have:z.toList.length=65:=by simpa using hs
  generalize z.toList=zl at *
  obtain⟨a,zl,rfl⟩:∃ a l,zl=a :: l:=by cases zl with
   | nil=>simp at this
   | cons a l=>exact⟨a,l,rfl⟩
  simp at this;simp[hV,this]
 simp only[Nat.add_zero,Array.toList_setIfInBounds,fin] at hf;simp only[BD,Instr.build,zeroValue,typeInfo,sizeOf];simp[hi,hz,h1,h2,run_underlying Tryz.underlying101,Instr.fill,c1,c2,s1,s2,hV,hs,hzc,hne,hf]
section
attribute [local go_sem ↓] bq df dg dk cP dh
theorem Bytes.load {F:aV} {w:World} {a:Option Addr} {n cap:Nat} {l:List UInt8} (h:Bytes F w (.slice a n cap) l) (hl:l.length=64):
 ∃ b off,a=some ⟨b,off,none⟩ /\ F b /\ ∀ w':World,w'.heap[b]?=w.heap[b]? -> (LV 99 ⟨b,off,none⟩).run aC w'=.ok (.agg (l.map B).toArray) w':=by
 obtain⟨a',cap',hv,hc,hm,hz,h⟩:=h;simp at hv;obtain⟨rfl,rfl,rfl⟩:=hv;rcases h with h | ⟨b,off,L,t,fz,rfl,hF,hb,hle,hr⟩
 ·rw[h] at hl;simp at hl
 ·refine⟨b,off,rfl,hF,fun w' hw'=>?_⟩;have hb':w'.heap[b]?=some (.cells L.toList.toArray t fz):=by rw[hw',hb]
  rw[rf Tryz.underlying99 rfl eQ hb' (by simp;omega)]
  congr 4
  apply List.ext_getElem?;intro j;rw[List.getElem?_take,List.getElem?_drop,List.getElem?_map]
  by_cases hj:j < 64
  ·rw[if_pos hj];have:=hr j (by omega);simp[List.getElem?_eq_getElem (show j < l.length by omega),<- this]
  ·rw[if_neg hj,List.getElem?_eq_none (by omega)];rfl
theorem gN (w:World) (a:Option Addr) (n cap:Nat) (h:64 <= n):(Instr.arrayAt 99 (.slice a n cap)).run aC w=.ok (.pointer a) w:=by
 simp[Instr.arrayAt,run_underlying Tryz.underlying99,Nat.not_lt.2 h]
theorem rj (w:World) (K:DK) (n:Int) (a:Option Addr) (len cap:Nat) (hlen:len <= 9223372036854775807) (hc:n < 0 \/ len≠64):
 Calls aC 15 #[.pointer (some ⟨K.d,0,none⟩),.int .i64 n,.slice a len cap] w fun e w'=>e=.returned (.int .i64 (if n < 0 then 6 else 1)) /\ w=w':=by
 by_cases hn:n < 0
 ·go_enter Tryz.func15,Tryz.ntmps15
  go_wp2_with fail
  go_ret
  exact⟨rfl,rfl⟩
 ·have hc':len≠64:=by omega
  have hb:((len:Int) != 64)=true:=bne_iff_ne.2 (by omega);have hb2:(len != 64)=true:=bne_iff_ne.2 (by omega)
  go_enter Tryz.func15,Tryz.ntmps15
  go_wp2_with fail
  go_ret
  exact⟨rfl,rfl⟩
theorem sG (w:World) (K:DK) (M:MD) (h:bj w K M) (n:Nat) (hn:n <= 9223372036854775807) (F:aV) (v:Value) (l:List UInt8) (hv:Bytes F w v l) (hl:l.length=64):
 Calls aC 15 #[.pointer (some ⟨K.d,0,none⟩),.int .i64 (n:Int),v] w fun e w'=>e=.returned (.int .i64 0) /\
  bj w' ⟨K.d,K.bs,w.heap.size⟩ { M with fault:=some (n,l) } /\ aK K.foot w w':=by
 have hv0:=hv;obtain⟨a,cap,rfl,hc,hm,hz,hx⟩:=hv;obtain⟨b,off,rfl,hF,hld⟩:=hv0.load hl;have hld0:=hld w rfl;have har:=fun W:World=>gN W (some ⟨b,off,none⟩) 64 cap (aq _)
 have hbd:=lZ w n (l.map B) (by simpa using hl);clear hld hx hz;obtain⟨h1,h2,⟨cap',hcap,hcm,h3⟩,⟨L,h4,h5⟩,h6,h7⟩:=h;have hne:=h3.ne h4 (by decide);have hlt:=h3.lt;have c0:=h3.cell 2;have f0:=h3.free 2;simp at c0;have H6:=ae h6;have H7:=ae h7;clear h6 h7;generalize hl2:l.length=ln at *;obtain rfl:ln=64:=hl;have HL:=ae hl2;clear hl2;have hlt2:=h4.lt
 go_enter Tryz.func15,Tryz.ntmps15
 go_wp2_with fail
 go_ret
 refine⟨rfl,⟨h1,h2,⟨cap',hcap,hcm,by simpa using (h3.set 2 (.pointer (some ⟨w.heap.size,0,none⟩))).alloc _⟩,⟨L,(h4.set_other _ hne.symm).alloc _,h5⟩,nofun,fun k t ht=>?_⟩,((aK.refl _ _).setCell (.inl (.inl rfl)) _).alloc _⟩;simp at ht;obtain⟨rfl,rfl⟩:=ht;exact⟨HL.out,hn,by simpa[World.setCell] using Blk.new (w.setCell ⟨K.d,2,none⟩ (.pointer (some ⟨w.heap.size,0,none⟩))) (.int .i64 (n:Int) :: l.map B).toArray 101⟩
end
end Go.Proofs.YtobjdpngnfbicaaGreatDoor
