/-
  UListC Disk6 Disk7 Disk8 Disk9 Mk Use Crc
-/
import Derived.Test.YtobjdpngnfbicaaGreatDoorZN19
import Derived.Test.YtobjdpngnfbicaaGreatDoorZN08
import Derived.Test.YtobjdpngnfbicaaGreatDoorZN06
namespace Go.Proofs.YtobjdpngnfbicaaGreatDoor
open Go.RowKit
set_option linter.unusedVariables false
set_option maxRecDepth 20000
attribute [local go_sem] opC upC
theorem list_any (w:World) (F:Blks) (av:Option Addr) (cap:Nat) (b:List UInt8) (k0:Nat) (hB:Bytes F w (.slice av b.length cap) b) (hF:∀ q,F q→q < w.heap.size) (hk:k0≤b.length) (hl:b.length≤400000):
 Calls Tryz.prog 159 #[.slice av b.length cap,.int .i64 (k0:Int)] w (LPostO w b.length (rdL (b.drop k0))):=by
 have hR:=readL_any w F av cap b k0 hB hF hk hl
 obtain ⟨o,ho⟩:∃ o,rdL (b.drop k0)=o:=⟨_,rfl⟩
 rw [ho] at hR ⊢
 have HR:=Lib.hid hR
 clear hB hF ho hR
 go_enter Tryz.func159,Tryz.ntmps159
 go_wp2_with fail
 refine HR.out.mono ?_
 rintro e w1 hC
 clear HR
 cases o with
 | none=>
   obtain ⟨hb,rfl⟩:=hC
   go_wp2_with fail
   go_ret3
   exact ⟨hb,rfl⟩
 | some p=>
   obtain ⟨l,r⟩:=p
   obtain ⟨hb,a,c,rfl,ho⟩:=hC
   have Ho:=Lib.hid ho
   clear ho
   go_wp2_with fail
   go_ret3
   exact ⟨hb,a,c,rfl,Ho.out⟩
end Go.Proofs.YtobjdpngnfbicaaGreatDoor

namespace Go.Proofs.YtobjdpngnfbicaaGreatDoor
open Go.RowKit
set_option linter.unusedVariables false
set_option maxRecDepth 20000
attribute [local go_sem ↓] seal_append seal_build_fault seal_load_sector seal_load_fault seal_store_sector seal_store_fault
theorem write_zero (w:World) (K:DK) (M:MD) (h:DiskAt w K M) (t:List UInt8) (hft:M.fault=some (0,t)) (i:Nat) (hi:i < M.S.length) (hdn:M.down=false) (F:Blks) (v:Value) (l:List UInt8) (hv:Bytes F w v l) (hl:l.length=64):
 Calls Tryz.prog 33 #[.pointer (some ⟨K.d,0,none⟩),.int .i64 (i:Int),v] w fun e w'=>e=.returned (.int .i64 341) ∧
  DiskAt w' { K with bf:=K.d } { M with S:=M.S.set i t,fault:=none,down:=true }∧Only K.foot w w'∧w'.heap.size=w.heap.size:=by
 have hc:M.chk (i:Int)=0:=by unfold MD.chk;rw [hdn,if_neg (by simp),if_pos (by omega)]
 have Hc:=Lib.hid hc;clear hc
 obtain ⟨a,cap,rfl,hcp,hm,hz,hx⟩:=hv
 clear hx hz
 have h0:=h
 have hnf:=h.ne2 (by rw [hft];simp)
 obtain ⟨h1,h2,⟨cap',hcap,hcm,h3⟩,⟨L,h4,h5⟩,h6,h7⟩:=h
 obtain ⟨ht,hk,h7⟩:=h7 0 t hft
 rw [hft] at h3
 have hne:=h3.ne h4 (by decide)
 have hlt:=h3.lt
 have c0:=h3.cell 0
 have c2:=h3.cell 2
 have k0:=h7.cell 0
 simp at c0 c2 k0
 have hsl:=h5.1
 have hld0:=run_LV (P:=Tryz.prog) (w:=w.drew) Tryz.underlying99 rfl sizeSector (off:=1) h7 (by simp;omega)
 rw [List.drop_one,List.tail_cons,List.take_of_length_le (by simp;omega)] at hld0
 have hst:=run_SV (P:=Tryz.prog) (w:=w.drew) sizeSector (off:=i * 64) h4 (V:=t.map B) (by simpa using ht) (by omega) (oneCell_B t)
 have H6:=Lib.hid h6;have Hft:=Lib.hid hft;clear h6 hft
 have HS:=Lib.hid (h5.put i hi t ht)
 obtain ⟨w3,hw3⟩:∃ w3,w3=w.drew.setRow K.bs (L.take (i * 64) ++ t.map B ++ L.drop (i * 64+64)).toArray:=⟨_,rfl⟩
 rw [←hw3] at hst
 have h3b:=h3.drew.row_other (L.take (i * 64) ++ t.map B ++ L.drop (i * 64+64)).toArray hne
 have h4b:=h4.drew.row (L.take (i * 64) ++ t.map B ++ L.drop (i * 64+64))
 rw [←hw3] at h3b h4b
 have hon:Only K.foot w w3:=by rw [hw3];exact (Only.refl _ _).drew.setRow (.inl (.inr (.inl rfl))) _
 have hsz:w3.heap.size=w.heap.size:=by rw [hw3];simp
 have c2b:=h3b.cell 2
 have f2b:=h3b.free 2
 have c1b:=h3b.cell 1
 have f1b:=h3b.free 1
 simp at c1b c2b
 have Hsz:=Lib.hid hsz;clear hsz
 clear hw3
 generalize hl2:l.length=ln at *
 obtain rfl:ln=64:=hl
 have HL:=Lib.hid hl2;clear hl2
 have Ht:=Lib.hid ht;clear ht
 have hn0:(i:Int) < (M.S.length:Int):=by omega
 go_enter Tryz.func33,Tryz.ntmps33
 go_wp2_with fail
 refine (j_check_any w K M i h0).mono ?_
 rintro e w' ⟨rfl,rfl⟩
 rw [Hc.out]
 go_wp2_with fail
 go_still_tail 13,(by kernel_rfl)
 change wpList _ _ _ _ _ w.drew
 go_wp2_with fail
 go_ret
 refine ⟨rfl,⟨by simpa using h1,by simpa using h2,⟨cap',by simpa using hcap,hcm,?_⟩,⟨_,(h4b.set_other _ hne.symm).set_other _ hne.symm,HS.out⟩,fun _=>rfl,nofun⟩,(hon.setCell (.inl (.inl rfl)) _).setCell (.inl (.inl rfl)) _,?_⟩
 · simpa using (h3b.set 2 (.pointer none)).set 1 (.bool true)
 · simp [World.setCell];exact Hsz.out
theorem write_succ (w:World) (K:DK) (M:MD) (h:DiskAt w K M) (n:Nat) (t:List UInt8) (hft:M.fault=some (n+1,t)) (i:Nat) (hi:i < M.S.length) (hdn:M.down=false) (hw:M.writes < 4611686018427387904) (F:Blks) (v:Value) (l:List UInt8) (hv:Bytes F w v l) (hl:l.length=64)
 (hF:∀ b,F b→¬ K.foot b):
 Calls Tryz.prog 33 #[.pointer (some ⟨K.d,0,none⟩),.int .i64 (i:Int),v] w fun e w'=>e=.returned (.int .i64 0) ∧
  DiskAt w' K { M with S:=M.S.set i l,fault:=some (n,t),writes:=M.writes+1 }∧Only K.foot w w'∧w'.heap.size=w.heap.size:=by
 have hc:M.chk (i:Int)=0:=by unfold MD.chk;rw [hdn,if_neg (by simp),if_pos (by omega)]
 have Hc:=Lib.hid hc;clear hc
 have hv0:=hv
 obtain ⟨a,cap,rfl,hcp,hm,hz,hx⟩:=hv
 obtain ⟨b,off,rfl,hFb,hld⟩:=hv0.load hl
 have har:=fun W:World=>run_arrayAt W (some ⟨b,off,none⟩) 64 cap (Nat.le_refl _)
 clear hx hz
 have h0:=h
 have hnf:=h.ne2 (by rw [hft];simp)
 have hnf2:=h.ne.2
 obtain ⟨h1,h2,⟨cap',hcap,hcm,h3⟩,⟨L,h4,h5⟩,h6,h7⟩:=h
 obtain ⟨ht,hk,h7⟩:=h7 (n+1) t hft
 rw [hft] at h3
 have hne:=h3.ne h4 (by decide)
 have hlt:=h3.lt
 have c0:=h3.cell 0
 have c2:=h3.cell 2
 have c3:=h3.cell 3
 have k0:=h7.cell 0
 have kf0:=h7.free 0
 simp at c0 c2 c3 k0
 have hsl:=h5.1
  -- behind the fault's count
 have h3a:=h3.set_other (a:=⟨K.bf,0,none⟩) (.int .i64 (n:Int)) hnf
 have h4a:=h4.set_other (a:=⟨K.bf,0,none⟩) (.int .i64 (n:Int)) hnf2
 have h7a:=h7.set 0 (.int .i64 (n:Int))
 have hon:Only K.foot w (w.setCell ⟨K.bf,0,none⟩ (.int .i64 (n:Int))):=(Only.refl _ _).setCell (.inl (.inr (.inr rfl))) _
 have hld0:=hld ((w.setCell ⟨K.bf,0,none⟩ (.int .i64 (n:Int))).drew) (by
  have hb:=hF b hFb
  exact Below.heap_setCell w ⟨K.bf,0,none⟩ _ b (fun e=>hb (.inr (.inr e))))
 clear hld
 have hsz:(w.setCell ⟨K.bf,0,none⟩ (.int .i64 (n:Int))).heap.size=w.heap.size:=by simp [World.setCell]
 generalize hw2:w.setCell ⟨K.bf,0,none⟩ (.int .i64 (n:Int))=w2 at *
 have Hw2:=Lib.hid hw2;clear hw2
 have c0a:=h3a.cell 0
 simp at c0a
 have hst:=run_SV (P:=Tryz.prog) (w:=w2.drew) sizeSector (off:=i * 64) h4a (V:=l.map B) (by simpa using hl) (by omega) (oneCell_B l)
 have H6:=Lib.hid h6;have Hft:=Lib.hid hft;clear h6 hft
 have HS:=Lib.hid (h5.put i hi l hl)
 obtain ⟨w3,hw3⟩:∃ w3,w3=w2.drew.setRow K.bs (L.take (i * 64) ++ l.map B ++ L.drop (i * 64+64)).toArray:=⟨_,rfl⟩
 rw [←hw3] at hst
 have h3b:=h3a.drew.row_other (L.take (i * 64) ++ l.map B ++ L.drop (i * 64+64)).toArray hne
 have h4b:=h4a.drew.row (L.take (i * 64) ++ l.map B ++ L.drop (i * 64+64))
 have h7b:=h7a.drew.row_other (L.take (i * 64) ++ l.map B ++ L.drop (i * 64+64)).toArray hnf2.symm
 rw [←hw3] at h3b h4b h7b
 have hon3:Only K.foot w w3:=by rw [hw3];exact hon.drew.setRow (.inl (.inr (.inl rfl))) _
 have hsz3:w3.heap.size=w.heap.size:=by rw [hw3];simpa using hsz
 have c3b:=h3b.cell 3
 have f3b:=h3b.free 3
 simp at c3b
 have Hsz3:=Lib.hid hsz3;clear hsz hsz3
 clear hw3
 generalize hl2:l.length=ln at *
 obtain rfl:ln=64:=hl
 have HL:=Lib.hid hl2;clear hl2
 have Ht:=Lib.hid ht;clear ht
 have hn0:(i:Int) < (M.S.length:Int):=by omega
 have hbf:((n:Int)+1 == 0)=false:=beq_eq_false_iff_ne.2 (by omega)
 go_enter Tryz.func33,Tryz.ntmps33
 go_wp2_with fail
 refine (j_check_any w K M i h0).mono ?_
 rintro e w' ⟨rfl,rfl⟩
 rw [Hc.out]
 go_wp2_with fail
 rw [Hw2.out]
 go_still_tail 9,(by kernel_rfl)
 change wpList _ _ _ _ _ w2.drew
 go_wp2_with fail
 go_ret
 refine ⟨rfl,⟨by simpa using h1,by simpa using h2,⟨cap',by simpa using hcap,hcm,?_⟩,⟨_,h4b.set_other _ hne.symm,HS.out⟩,nofun,fun k t' ht'=>?_⟩,hon3.setCell (.inl (.inl rfl)) _,?_⟩
 · simpa using h3b.set 3 (.int .i64 ((M.writes:Int)+1))
 · simp at ht'
   obtain ⟨rfl,rfl⟩:=ht'
   exact ⟨Ht.out,by omega,by simpa using h7b.set_other _ hnf.symm⟩
 · simp [World.setCell];exact Hsz3.out
theorem write_ok (w:World) (K:DK) (M:MD) (h:DiskAt w K M) (i:Nat) (hi:i < M.S.length) (hdn:M.down=false) (hw:M.writes < 4611686018427387904) (F:Blks) (v:Value) (l:List UInt8) (hv:Bytes F w v l) (hl:l.length=64)
 (hF:∀ b,F b→¬ K.foot b):
 Calls Tryz.prog 33 #[.pointer (some ⟨K.d,0,none⟩),.int .i64 (i:Int),v] w fun e w'=>e=.returned (.int .i64 (M.write i l).2) ∧
  (∃ K',K'.d=K.d∧(∀ b,K'.foot b→K.foot b)∧DiskAt w' K' (M.write i l).1)∧Only K.foot w w'∧w'.heap.size=w.heap.size:=by
 cases hft:M.fault with
 | none=>
   refine (write_none w K M h hft i hi hdn hw F v l hv hl).mono ?_
   rintro e w' ⟨rfl,hd,ho,hs⟩
   have e1:M.write i l=({ M with S:=M.S.set i l,writes:=M.writes+1 },0):=by simp [MD.write,hft]
   rw [e1]
   exact ⟨rfl,⟨K,rfl,fun _ hb=>hb,hd⟩,ho,hs⟩
 | some p=>
   obtain ⟨n,t⟩:=p
   cases n with
   | zero=>
     refine (write_zero w K M h t hft i hi hdn F v l hv hl).mono ?_
     rintro e w' ⟨rfl,hd,ho,hs⟩
     have e1:M.write i l=({ M with S:=M.S.set i t,fault:=none,down:=true },341):=by simp [MD.write,hft]
     rw [e1]
     refine ⟨rfl,⟨{ K with bf:=K.d },rfl,?_,hd⟩,ho,hs⟩
     rintro b (rfl | rfl | rfl)
     · exact .inl rfl
     · exact .inr (.inl rfl)
     · exact .inl rfl
   | succ n=>
     refine (write_succ w K M h n t hft i hi hdn hw F v l hv hl hF).mono ?_
     rintro e w' ⟨rfl,hd,ho,hs⟩
     have e1:M.write i l=({ M with S:=M.S.set i l,fault:=some (n,t),writes:=M.writes+1 },0):=by simp [MD.write,hft]
     rw [e1]
     exact ⟨rfl,⟨K,rfl,fun _ hb=>hb,hd⟩,ho,hs⟩
end Go.Proofs.YtobjdpngnfbicaaGreatDoor

namespace Go.Proofs.YtobjdpngnfbicaaGreatDoor
open Go.RowKit
set_option linter.unusedVariables false
set_option maxRecDepth 20000
attribute [local go_sem ↓] seal_append seal_build_fault seal_load_sector seal_load_fault seal_store_sector seal_store_fault
theorem seal_make_sectors (l c:Value):Instr.makeSlice 85 l c=MK 85 l c:=rfl
attribute [local go_sem ↓] seal_make_sectors
theorem infoSector:(Tryz.prog.info? 99).map (fun i=>(i.zero,i.size,i.bytes))=some (some (.agg (Array.replicate 64 (.int .u8 0))),64,64):=by kernel_rfl
theorem madeCells_replicate (u:Value) (k n:Nat) (hk:0 < k):madeCells (Array.replicate k u) n=Array.replicate n u:=by
 apply Array.ext
 · simp [madeCells]
 · intro i h1 h2
   simp only [madeCells,Array.getElem_map,Array.getElem_range,Array.size_replicate,Array.getElem_replicate]
   rw [getElem!_pos (Array.replicate k u) (i % k) (by simpa using Nat.mod_lt i hk)]
   simp
def MD.fresh (n:Nat):MD:={ S:=List.replicate n (List.replicate 64 0),down:=false,fault:=none,writes:=0 }
theorem sectors_fresh (n m:Nat) (h:n * 64≤m):Sectors (List.replicate m (.int .u8 0)) (List.replicate n (List.replicate 64 0)):=by
 refine ⟨by simpa using h,fun i hi=>?_,fun s hs=>?_⟩
 · simp only [List.length_replicate] at hi
   simp only [List.drop_replicate,List.take_replicate,List.getElem_replicate,List.map_replicate]
   rw [show min 64 (m - i * 64)=64 from by omega]
   rfl
 · rw [List.eq_of_mem_replicate hs];simp
theorem new_ok (w:World) (n:Nat) (h1:0 < n) (h2:n≤65536):
 Calls Tryz.prog 11 #[.int .i64 (n:Int)] w fun e w'=>∃ K:DK,e=.returned (.tuple #[.pointer (some ⟨K.d,0,none⟩),.int .i64 0])∧DiskAt w' K (MD.fresh n)∧Below w.heap.size w w'∧(∀ b,K.foot b→w.heap.size≤b):=by
 obtain ⟨i0,hi,hz0,hz1,hz2⟩:=info_parts infoSector
 obtain ⟨w2,hr,hown,hgb⟩:=run_make_full (P:=Tryz.prog) w w.heap.size 85 99 i0 _ 64 Tryz.underlying85 hi hz0 hz1 .i64 .i64 n (by rw [hz2];omega) (by unfold maxLen;omega) (Nat.le_refl _)
 have hr':(MK 85 (.int .i64 (n:Int)) (.int .i64 (n:Int))).run Tryz.prog w=.ok (.slice (some ⟨w.heap.size,0,none⟩) n n) w2:=hr
 obtain ⟨g,cap,cur,hv,hg1,hg2,hg3,hg4,hg5,hg6⟩:=hown.2.resolve_left (by rintro ⟨h,_⟩;cases h)
 simp at hv
 obtain ⟨rfl,rfl⟩:=hv
 have hblk:Blk w2 w.heap.size cur.toList 99:=by unfold Blk;simpa using hg2
 have hcur:cur.toList=List.replicate (n * 64) (.int .u8 0):=by
  rw [List.take_of_length_le (by simp;omega)] at hg6
  rw [hg6]
  simp only [Value.cells]
  rw [madeCells_replicate _ _ _ (by decide)]
  simp
 rw [hcur] at hblk
 have hlt:=hblk.lt
 have hkb:Below w.heap.size w w2:=(Below.refl _ _).grown hgb (Nat.le_refl _) (by simp)
 have Hkb:=Lib.hid hkb
 clear hr hown hgb hg1 hg2 hg3 hg4 hg5 hg6 hcur hkb
 have Hb:=Lib.hid hblk;clear hblk
 go_enter Tryz.func11,Tryz.ntmps11
 go_wp2_with fail
 go_ret2
 refine ⟨⟨w2.heap.size,w.heap.size,w2.heap.size⟩,rfl,⟨by simpa [MD.fresh] using h1,by simpa [MD.fresh] using h2,⟨n,by simp [MD.fresh],by unfold maxLen;omega,?_⟩,⟨_,Hb.out.alloc _,?_⟩,fun _=>rfl,nofun⟩,Hkb.out.alloc (by omega) _,?_⟩
 · simpa [MD.fresh] using Blk.new w2 #[.slice (some ⟨w.heap.size,0,none⟩) n n,.bool false,.pointer none,.int .i64 0] 88
 · exact sectors_fresh n (n * 64) (Nat.le_refl _)
 · rintro b (rfl | rfl | rfl)
   · exact Nat.le_of_lt hlt
   · exact Nat.le_refl _
   · exact Nat.le_of_lt hlt
end Go.Proofs.YtobjdpngnfbicaaGreatDoor

namespace Go.Proofs.YtobjdpngnfbicaaGreatDoor
open Go.RowKit
set_option linter.unusedVariables false
set_option maxRecDepth 20000
attribute [local go_sem ↓] seal_append seal_build_fault seal_load_sector seal_load_fault seal_store_sector seal_store_fault
def AL (t:TypeId) (h:Bool) (old:Value):Sem Value:=Instr.alloc t h old
theorem seal_alloc_fault (h:Bool) (old:Value):Instr.alloc 101 h old=AL 101 h old:=rfl
attribute [local go_sem ↓] seal_alloc_fault
theorem Sectors.cut {L M:List Value} {S:List (List UInt8)} (h:Sectors L S) (hM:S.length * 64≤M.length) (he:M.take (S.length * 64)=L.take (S.length * 64)):Sectors M S:=by
 refine ⟨hM,fun i hi=>?_,h.2.2⟩
 rw [←h.2.1 i hi]
 apply List.ext_getElem?
 intro k
 simp only [List.getElem?_take,List.getElem?_drop]
 by_cases hk:k < 64
 · rw [if_pos hk,if_pos hk]
   have:(M.take (S.length * 64))[i * 64+k]?=(L.take (S.length * 64))[i * 64+k]?:=by rw [he]
   rw [List.getElem?_take,List.getElem?_take,if_pos (by omega),if_pos (by omega)] at this
   exact this
 · rw [if_neg hk,if_neg hk]
end Go.Proofs.YtobjdpngnfbicaaGreatDoor

namespace Go.Proofs.YtobjdpngnfbicaaGreatDoor
open Go.RowKit
set_option linter.unusedVariables false
set_option maxRecDepth 20000
attribute [local go_sem ↓] seal_append seal_build_fault seal_load_sector seal_load_fault seal_store_sector seal_store_fault seal_alloc_fault
end Go.Proofs.YtobjdpngnfbicaaGreatDoor

namespace Go.Proofs.YtobjdpngnfbicaaGreatDoor
open Go.RowKit
set_option linter.unusedVariables false
set_option maxRecDepth 20000
theorem seal_make_bytes (l c:Value):Instr.makeSlice 41 l c=MK 41 l c:=rfl
attribute [local go_sem ↓] seal_append seal_make_bytes
theorem bytes_of_blk {w:World} {g:Nat} {l:List UInt8} {t:TypeId} (h:Blk w g (l.map B) t) (hl:l.length≤maxLen) (F:Blks) (hF:F g):Bytes F w (.slice (some ⟨g,0,none⟩) l.length l.length) l:=
 ⟨_,_,rfl,Nat.le_refl _,hl,nofun,.inr ⟨g,0,_,t,(0,0),rfl,hF,h,by simp,fun i hi=>by simp [List.getElem?_eq_getElem hi]⟩⟩
theorem bytes_of_sector {w:World} {g:Nat} {c:UInt8} {t:TypeId} (h:Blk w g (List.replicate 64 (B c)) t) (F:Blks) (hF:F g):Bytes F w (.slice (some ⟨g,0,none⟩) 64 64) (List.replicate 64 c):=by
 have:=bytes_of_blk (l:=List.replicate 64 c) (t:=t) (w:=w) (g:=g) (by simpa using h) (by simp [maxLen]) F hF
 simpa using this
end Go.Proofs.YtobjdpngnfbicaaGreatDoor

namespace Go.Proofs.YtobjdpngnfbicaaGreatDoor
open Go.RowKit
set_option linter.unusedVariables false
set_option maxRecDepth 20000
theorem DiskAt.kept {w w':World} {K:DK} {M:MD} (h:DiskAt w K M) (hb:Below w.heap.size w w'):DiskAt w' K M:=
 h.keep fun b hf=>hb.block b (h.lt b hf)
theorem run_str {F:Blks} {w:World} {v:Value} {l:List UInt8} (h:Bytes F w v l):(convert 41 9 v).run Tryz.prog w=.ok (.string ⟨l.toArray⟩) w:=by
 obtain ⟨a,cap,rfl,hc,hm,hz,hx⟩:=h
 cases a with
 | none=>
   have hl:l = []:=by
    rcases hx with h | ⟨b,off,L,t,fz,h,_⟩
    · exact h
    · cases h
   subst hl
   rw [run_convert_bytes_string w 41 9 5 none _ cap Tryz.underlying41 Tryz.underlying5 Tryz.underlying9]
   rfl
 | some ad=>
   refine run_convert_bytes_back w 41 9 5 ad cap l Tryz.underlying41 Tryz.underlying5 Tryz.underlying9 (fun j hj=>?_)
   rcases hx with rfl | ⟨b,off,L,t,fz,hb,hF,hg,hL,hr⟩
   · simp at hj
   · simp at hb
     subst hb
     rw [Addr.add_lit,cell_of_row w b (off+j) L t fz hg]
     exact hr j hj
/-! the same with the disk's address by itself -/
end Go.Proofs.YtobjdpngnfbicaaGreatDoor

namespace Go.Proofs.YtobjdpngnfbicaaGreatDoor
open Go.RowKit
set_option linter.unusedVariables false
set_option maxRecDepth 20000
def quarterCells:List Value:=quarterT.map fun q=>.int .u32 (q.toNat:Int)
def Quarter (w:World):Prop:=∃ t fz,w.heap[0]?=some (.cells quarterCells.toArray t fz)
theorem Quarter.keep {w w':World} (h:Quarter w) (he:w'.heap[0]?=w.heap[0]?):Quarter w':=by
 obtain ⟨t,fz,h⟩:=h
 exact ⟨t,fz,he.trans h⟩
theorem Quarter.cell {w:World} (h:Quarter w) (i:Nat) (hi:i < 16):w.cell? ⟨0,i,none⟩=some (.int .u32 ((quarterT.getD i 0#32).toNat:Int)):=by
 obtain ⟨t,fz,h⟩:=h
 rw [cell_of_row w 0 i _ t fz h]
 have:quarterCells.length=16:=rfl
 simp only [List.getElem?_toArray,quarterCells,List.getElem?_map]
 rw [List.getD_eq_getElem?_getD,List.getElem?_eq_getElem (show i < quarterT.length from hi)]
 rfl
theorem bits_xor32 (a b:BitVec 32):Go.bits .xor .u32 (a.toNat:Int) (b.toNat:Int)=((a ^^^ b).toNat:Int):=by
 have h:=(a ^^^ b).isLt
 have e:∀ x:BitVec 32,BitVec.ofInt 32 (x.toNat:Int)=x:=fun x=>by simp
 show IntKind.u32.wrap ((BitVec.ofInt 32 (a.toNat:Int) ^^^ BitVec.ofInt 32 (b.toNat:Int)).toNat:Int)=_
 rw [e a,e b]
 show ((a ^^^ b).toNat:Int) % 4294967296=_
 omega
theorem bits_and32 (a b:BitVec 32):Go.bits .and .u32 (a.toNat:Int) (b.toNat:Int)=((a &&& b).toNat:Int):=by
 have h:=(a &&& b).isLt
 have e:∀ x:BitVec 32,BitVec.ofInt 32 (x.toNat:Int)=x:=fun x=>by simp
 show IntKind.u32.wrap ((BitVec.ofInt 32 (a.toNat:Int) &&& BitVec.ofInt 32 (b.toNat:Int)).toNat:Int)=_
 rw [e a,e b]
 show ((a &&& b).toNat:Int) % 4294967296=_
 omega
theorem xor_byte (r:BitVec 32) (c:UInt8):Go.bits .xor .u32 (r.toNat:Int) ((c.toNat:Int) % 4294967296)=((r ^^^ BitVec.ofNat 32 c.toNat).toNat:Int):=by
 have hc:=c.toNat_lt
 rw [←bits_xor32]
 congr 1
theorem nib_walk (x:BitVec 32):∃ i:Nat,i < 16∧Go.bits .and .u32 (x.toNat:Int) 15=(i:Int)∧Go.bits .xor .u32 ((x.toNat:Int) / 16) ((quarterT.getD i 0#32).toNat:Int)=((nib x).toNat:Int):=by
 refine ⟨(x &&& 15#32).toNat,?_,?_,?_⟩
 · have:(x &&& 15#32).toNat≤15:=by rw [BitVec.toNat_and];exact Nat.and_le_right
   omega
 · exact bits_and32 x 15#32
 · have e:((x.toNat:Int) / (16:Int))=((x >>> 4).toNat:Int):=by
    rw [BitVec.toNat_ushiftRight,Nat.shiftRight_eq_div_pow]
    omega
   rw [e,bits_xor32]
   rfl
theorem not_walk (x:BitVec 32):Go.bits .xor .u32 IntKind.u32.max (x.toNat:Int)=((~~~ x).toNat:Int):=by
 have:IntKind.u32.max=((~~~ (0#32)).toNat:Int):=by decide
 rw [this,bits_xor32]
 congr 2
theorem crcF_snoc (r:BitVec 32) (l:List UInt8) (k:Nat) (h:k < l.length):crcF r (l.take (k+1))=crcB (crcF r (l.take k)) l[k]:=by
 unfold crcF
 rw [List.take_succ_eq_append_getElem h,List.foldl_append]
 rfl
theorem crcAdd_any (w:World) (hq:Quarter w) (F:Blks) (v:Value) (l:List UInt8) (hv:Bytes F w v l) (s:BitVec 32):
 Calls Tryz.prog 198 #[.int .u32 (s.toNat:Int),v] w fun e w'=>e=.returned (.int .u32 ((~~~ (crcF (~~~ s) l)).toNat:Int))∧w=w':=by
 obtain ⟨a,cap,rfl,hc,hm,hz,hx⟩:=hv
 have hm':cap≤9223372036854775807:=by unfold maxLen at hm;omega
 have hs0:=not_walk s
 obtain ⟨s',hs'⟩:∃ s':BitVec 32,s' = ~~~ s:=⟨_,rfl⟩
 rw [←hs'] at hs0 ⊢
 clear hs'
 go_enter Tryz.func198,Tryz.ntmps198
 go_wp2_with fail
 clear hs0
 go_loop [5,12] (fun r i=>∃ k:Nat,k≤l.length∧i=.int .i64 (k:Int)∧r=.int .u32 ((crcF s' (l.take k)).toNat:Int)) (fun _ i=>l.length - (intOf i).toNat)
 case atStart=>exact ⟨0,by omega,rfl,rfl⟩
 case round=>
  obtain ⟨k,hk,rfl,rfl⟩:=hrel
  by_cases hkl:k < l.length
  · obtain ⟨b,off,L,t,fz,rfl,hF,hg,hle,hr⟩:=hx.resolve_left (by rintro rfl;simp at hkl)
    have cc:w.cell? ⟨b,off+k,none⟩=some (B l[k]):=by rw [cell_of_row w b _ L t fz hg];exact hr k hkl
    unfold B at cc
    have hsn:=crcF_snoc s' l k hkl
    generalize hrr:crcF s' (l.take k)=r at *
    generalize l[k]=c at *
    clear hr hx hg hrr
    have e1:=xor_byte r c
    unfold crcB at hsn
    generalize r ^^^ BitVec.ofNat 32 c.toNat=x at *
    obtain ⟨i,hi,e2,e3⟩:=nib_walk x
    have c1:=hq.cell i hi
    generalize nib x=y at *
    obtain ⟨j,hj,e4,e5⟩:=nib_walk y
    have c2:=hq.cell j hj
    generalize nib y=z at *
    generalize quarterT.getD i 0#32=q1 at *
    generalize quarterT.getD j 0#32=q2 at *
    have Hsn:=Lib.hid hsn;clear hsn
    have hkI:(k:Int) < (l.length:Int):=by omega
    have hiI:(i:Int) < 16:=by omega
    have hjI:(j:Int) < 16:=by omega
    go_wp2_with fail
    go_round
    case rel=>exact ⟨k+1,by omega,by go_num,by rw [Hsn.out]⟩
    case measure=>simp [intOf];omega
  · have hkI:¬ (k:Int) < (l.length:Int):=by omega
    obtain rfl:k=l.length:=by omega
    rw [List.take_of_length_le (Nat.le_refl _)]
    have e1:=not_walk (crcF s' l)
    go_wp2_with fail
    go_ret
    exact ⟨rfl,rfl⟩
theorem crcSum_any (w:World) (hq:Quarter w) (F:Blks) (v:Value) (l:List UInt8) (hv:Bytes F w v l):
 Calls Tryz.prog 154 #[v] w fun e w'=>e=.returned (.int .u32 (crc l:Int))∧w=w':=by
 have h:=crcAdd_any w hq F v l hv 0#32
 have H:Calls Tryz.prog 198 #[.int .u32 0,v] w fun e w'=>e=.returned (.int .u32 (crc l:Int))∧w=w':=h
 obtain ⟨a,cap,rfl,-⟩:=hv
 generalize crc l=c at *
 clear h
 have HH:=Lib.hid H;clear H
 go_enter Tryz.func154,Tryz.ntmps154
 go_wp2_with fail
 refine HH.out.mono ?_
 rintro e w' ⟨rfl,rfl⟩
 go_wp2_with fail
 go_ret
 exact ⟨rfl,rfl⟩
end Go.Proofs.YtobjdpngnfbicaaGreatDoor
