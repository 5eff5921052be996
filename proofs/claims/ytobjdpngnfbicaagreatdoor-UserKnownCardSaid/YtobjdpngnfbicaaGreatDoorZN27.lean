/-
  UCat REncP RHas J10
-/
import Derived.Test.YtobjdpngnfbicaaGreatDoorZN05
import Derived.Test.YtobjdpngnfbicaaGreatDoorZN26
import Derived.Test.YtobjdpngnfbicaaGreatDoorZN08
import Derived.Lib.AppendZerosOnto
import Derived.Test.YtobjdpngnfbicaaGreatDoorZN16
import Derived.Test.YtobjdpngnfbicaaGreatDoorZN06
namespace Go.Proofs.YtobjdpngnfbicaaGreatDoor
open Go.RowKit
set_option linter.unusedVariables false
set_option maxRecDepth 20000
attribute [local go_sem ↓] seal_append
attribute [local go_sem] opC upC
theorem grow_nil_any (w:World) (n:Nat) (hn:n≤1000000000000):
 Calls Tryz.prog 193 #[.slice none 0 0,.int .i64 (n:Int)] w fun e w'=>(∃ v,e=.returned v∧w'.ownsRow w.heap.size 5 1 v 0 [])∧Below w.heap.size w w':=by
 have hnn:¬ (n:Int) < 0:=by omega
 have hw:IntKind.i64.wrap (n:Int)=n:=IntWalk.i64_in _ (by omega)
 by_cases h0:n=0
 · subst h0
   go_enter Tryz.func193,Tryz.ntmps193
   go_wp2_with fail
   go_ret
   exact ⟨⟨_,rfl,World.ownsRow_nil _ _ _ _⟩,Below.refl _ _⟩
 · obtain ⟨i0,hi,hz0,hz1,hz2⟩:=info_parts infoU8
   have hr:=Lib.run_append_grow_zeros (P:=Tryz.prog) w 41 3 41 5 i0 _ .i64 .i64 Tryz.underlying41 Tryz.underlying3 hi hz0 none 0 0 [] (by rw [hz1];rfl) n (by omega) (by omega) (by omega) (by omega) (by rw [hz2];omega) (by rw [hz2];exact growslice_fits (by omega) (by omega))
   have hge:=grownCap_ge w (0+n) 0 5
   have hle:=grownCap_le_maxLen w (0+n) 0 5 (by unfold maxLen;omega)
   obtain ⟨cp,hcp⟩:∃ cp,grownCap w (0+n) 0 5=cp:=⟨_,rfl⟩
   rw [hcp] at hr hge hle
   obtain ⟨w2,hw2⟩:∃ w2,w2=w.drew.alloc (.cells ((([]:List Value).toArray ++ Builtin.zeroCells (Value.int .u8 0).cells n ++ Builtin.zeroCells (Value.int .u8 0).cells (cp - (0+n)))) 5):=⟨_,rfl⟩
   rw [←hw2] at hr
   have hr':(AP #[41,3] 41 #[.slice none 0 0,.int .i64 (n:Int)]).run Tryz.prog w=.ok (.slice (some ⟨w.heap.size,0,none⟩) (0+n) cp) w2:=hr
   rw [Nat.zero_add] at hr' hge
   have Ho:=Lib.hid (show w2.ownsRow w.heap.size 5 1 (.slice (some ⟨w.heap.size,0,none⟩) 0 cp) 0 [] from ⟨rfl,.inr ⟨w.heap.size,cp,_,rfl,Nat.le_refl _,by rw [hw2];exact heap_alloc_new w.drew _,Nat.zero_le _,hle,by simp [size_zeroCells,Value.cells];omega,by simp⟩⟩)
   have Hb:=Lib.hid (show Below w.heap.size w w2 by rw [hw2];exact ⟨rfl,rfl,rfl,by simp,fun k hk=>Go.heap_alloc_old w.drew _ hk⟩)
   have hnI:(0:Int) < (n:Int):=by omega
   have hpos:0 < n:=by omega
   clear hr hw2 hcp hi hz0 hz1 hz2
   go_enter Tryz.func193,Tryz.ntmps193
   go_wp2_with fail
   go_ret
   exact ⟨⟨_,rfl,Ho.out⟩,Hb.out⟩
theorem bytes_rows {F:Blks} {w:World} {v:Value} {l:List UInt8} (h:Bytes F w v l):Rows F w 1 v l.length (l.map B):=by
 obtain ⟨a,cap,rfl,h1,h2,h3,h4⟩:=h
 refine ⟨a,cap,rfl,h1,h2,h3,by simp,?_⟩
 rcases h4 with rfl | ⟨b,off,L,t,fz,rfl,hF,hg,hle,hr⟩
 · exact .inl rfl
 · refine .inr ⟨b,off,L,t,fz,rfl,hF,hg,by omega,fun i hi=>?_⟩
   have hi':i < l.length:=by omega
   rw [hr i hi',List.getElem?_map,List.getElem?_eq_getElem hi']
   rfl
theorem one_B (l:List UInt8):∀ u ∈ l.map B,u.oneCell'=true:=fun u hu=>by
 obtain ⟨c,_,rfl⟩:=List.mem_map.1 hu
 simp [Value.oneCell',B]
def catB (S:List (List UInt8)):List UInt8:=S.flatten
theorem catB_two (k:UInt8) (l:List UInt8):catB [[k],l]=k :: l:=by unfold catB;simp
theorem take_flatten {α:Type} (S:List (List α)) (k:Nat) (h:k < S.length):(S.take (k+1)).flatten=(S.take k).flatten ++ S[k]:=by
 rw [List.take_succ_eq_append_getElem h,List.flatten_append];simp
theorem take_flatten_le {α:Type} (S:List (List α)) (k:Nat):(S.take k).flatten.length≤S.flatten.length:=by
 have h:(S.take k).flatten ++ (S.drop k).flatten=S.flatten:=by rw [←List.flatten_append,List.take_append_drop]
 rw [←h,List.length_append];omega
set_option maxHeartbeats 2000000 in
theorem concat_any (w:World) (R:Blks) (v:Value) (S:List (List UInt8)) (h:RowsAt R w v S) (hl:(catB S).length≤1000000000) (hn:S.length≤1000000):
 Calls Tryz.prog 138 #[v] w fun e w'=>(∃ r,e=.returned r∧w'.ownsRow w.heap.size 5 1 r (catB S).length ((catB S).map B))∧Below w.heap.size w w':=by
 obtain ⟨n,hnn⟩:∃ n,S.length=n:=⟨_,rfl⟩
 have Hn:=Lib.hid hnn
 obtain ⟨a,cap,rfl,hx⟩:=h
 have hx':∀ k,k < n→∃ g,a=some ⟨g,0,none⟩∧g < w.heap.size∧∃ ba ca,w.cell? ⟨g,k,none⟩=some (.slice ba (S.getD k []).length ca)∧Bytes R w (.slice ba (S.getD k []).length ca) (S.getD k []):=fun k hk=>by
  rcases hx with h0 | ⟨g,ha,hg,hc⟩
  · rw [h0] at hnn;simp at hnn;omega
  · obtain ⟨x,h1,h2⟩:=hc k (by omega)
    have e:S.getD k []=S[k]'(by omega):=by rw [List.getD_eq_getElem?_getD,List.getElem?_eq_getElem (by omega)];rfl
    obtain ⟨ba,ca,rfl,-⟩:=id h2
    exact ⟨g,ha,hg,ba,ca,by rw [e];exact h1,by rw [e];exact h2⟩
 have HX:=Lib.hid hx'
 have Hl:=Lib.hid hl
 rw [hnn] at hn ⊢
 clear hx hx' hnn hl
 go_enter Tryz.func138,Tryz.ntmps138
 go_wp2_with fail
 go_loopw [3,11] (fun z i wr=>∃ k:Nat,k≤n∧i=.int .i64 (k:Int)∧z=.int .i64 (((catB (S.take k)).length:Nat):Int)∧w=wr) (fun _ i _=>n - (intOf i).toNat)
 case atStart=>exact ⟨0,by omega,rfl,rfl,rfl⟩
 case round=>
  obtain ⟨k,hk,rfl,rfl,rfl⟩:=hrel
  by_cases hkn:k < n
  · have hkI:(k:Int) < (n:Int):=by omega
    obtain ⟨g,rfl,hg,ba,ca,c0,hB⟩:=HX.out k hkn
    obtain ⟨m,hm⟩:∃ m,(S.getD k []).length=m:=⟨_,rfl⟩
    obtain ⟨z,hz⟩:∃ z,(catB (S.take k)).length=z:=⟨_,rfl⟩
    have hs:(catB (S.take (k+1))).length=z+m:=by
     have hkl:k < S.length:=by rw [Hn.out];exact hkn
     rw [show catB (S.take (k+1))=catB (S.take k) ++ S[k] from take_flatten S k hkl,List.length_append,hz,←hm,List.getD_eq_getElem?_getD,List.getElem?_eq_getElem hkl];rfl
    have hle:=(show (catB (S.take (k+1))).length≤(catB S).length from take_flatten_le S (k+1))
    rw [hs] at hle
    have hle':z+m≤1000000000:=Nat.le_trans hle Hl.out
    have hw:IntKind.i64.wrap ((z:Int)+(m:Int))=(z:Int)+(m:Int):=IntWalk.i64_in _ (by omega)
    have hnn:¬ (z:Int)+(m:Int) < 0:=by omega
    rw [hm] at c0
    have Hs:=Lib.hid hs
    clear hB hm hle hs
    rw [hz]
    clear hz
    go_wp2_with fail
    go_roundw
    case rel=>exact ⟨k+1,by omega,by go_num,by rw [Hs.out];simp,by first | rfl | trivial⟩
    case measure=>simp [intOf];omega
  · have hkI:¬ (k:Int) < (n:Int):=by omega
    have hke:(catB (S.take k))=(catB S):=by rw [List.take_of_length_le (by have:=Hn.out;omega)]
    rw [hke]
    obtain ⟨z,hz⟩:∃ z,(catB S).length=z:=⟨_,rfl⟩
    have HG:=Lib.hid (grow_nil_any w z (by have:=Hl.out;omega))
    have Hz:=Lib.hid hz
    rw [hz]
    clear hke hz
    go_wp2_with fail
    refine HG.out.mono ?_
    rintro e w1 ⟨⟨v1,rfl,ho1⟩,hb1⟩
    have Ho1:=Lib.hid ho1;have Hb1:=Lib.hid hb1
    clear HG ho1 hb1 hkI hk
    go_wp2_with fail
    go_loopw [6,27] (fun r i wr=>∃ (k:Nat),k≤n∧i=.int .i64 (k:Int)∧wr.ownsRow w.heap.size 5 1 r (catB (S.take k)).length ((catB (S.take k)).map B)∧Below w.heap.size w wr) (fun _ i _=>n - (intOf i).toNat)
    case atStart=>exact ⟨0,by omega,rfl,Ho1.out,Hb1.out⟩
    case round=>
     rename World=>wr
     obtain ⟨q,hq,rfl,ho,hb⟩:=hrel
     by_cases hqn:q < n
     · have hqI:(q:Int) < (n:Int):=by omega
       obtain ⟨g,rfl,hg,ba,ca,c0,hB⟩:=HX.out q hqn
       have hql:q < S.length:=by rw [Hn.out];exact hqn
       have hs:catB (S.take (q+1))=catB (S.take q) ++ S[q]:=take_flatten S q hql
       have e:S.getD q []=S[q]:=by rw [List.getD_eq_getElem?_getD,List.getElem?_eq_getElem hql];rfl
       have hle:=(show (catB (S.take (q+1))).length≤(catB S).length from take_flatten_le S (q+1))
       rw [hs,List.length_append] at hle
       rw [e] at c0 hB
       obtain ⟨i0,hi,hz0,hz1,hz2⟩:=info_parts infoU8
       have hlt:=Hl.out
       obtain ⟨v2,w2,hr,ho2,hg2⟩:=run_append_rows (P:=Tryz.prog) wr w.heap.size 41 5 Tryz.underlying41 hi hz0 hz1 hz2 rfl (by decide) _ _ _ ho R _ _ _ (bytes_rows (hB.keep (w':=wr) fun b hb' hlt'=>hb.block b hlt')) (one_B _) (by unfold maxLen;omega) (by omega) hb.size
       have hb2:Below w.heap.size w w2:=hb.trans (Below.grownOwn ho hg2 hb.size (Nat.le_refl _))
       have c1:wr.cell? ⟨g,q,none⟩=some (.slice ba S[q].length ca):=(hb.cell (p:=⟨g,q,none⟩) hg).trans c0
       have Ho2:=Lib.hid (show w2.ownsRow w.heap.size 5 1 v2 (catB (S.take (q+1))).length ((catB (S.take (q+1))).map B) by rw [hs,List.length_append,List.map_append];exact ho2)
       have Hb2:=Lib.hid hb2
       obtain ⟨m,hm⟩:∃ m,S[q].length=m:=⟨_,rfl⟩
       rw [hm] at hr c1
       obtain ⟨z,hz⟩:∃ z,(catB (S.take q)).length=z:=⟨_,rfl⟩
       obtain ⟨ar,cr,rfl⟩:=own_shape ho
       rw [hz] at hr ⊢
       clear ho ho2 hg2 hb2 hs hle hlt e c0 hB hi hz0 hz1 hz2 hb hm hz hql
       go_wp2_with fail
       go_roundw
       case rel=>exact ⟨q+1,by omega,by go_num,Ho2.out,Hb2.out⟩
       case measure=>simp [intOf];omega
     · have hqI:¬ (q:Int) < (n:Int):=by omega
       have hqe:(catB (S.take q))=(catB S):=by rw [List.take_of_length_le (by have:=Hn.out;omega)]
       rw [hqe] at ho
       have Ho:=Lib.hid ho;have Hb:=Lib.hid hb
       obtain ⟨ar,cr,rfl⟩:=own_shape ho
       clear ho hb hqe
       go_wp2_with fail
       go_ret
       exact ⟨⟨_,rfl,Ho.out⟩,Hb.out⟩
theorem Bytes.insideU {F:Blks} {w:World} {v:Value} {l:List UInt8} (h:Bytes F w v l):Bytes (fun q=>q < w.heap.size) w v l:=by
 obtain ⟨a,cap,rfl,h1,h2,h3,h4⟩:=h
 refine ⟨a,cap,rfl,h1,h2,h3,?_⟩
 rcases h4 with rfl | ⟨b,off,L,t,fz,rfl,hF,hg,hle,hr⟩
 · exact .inl rfl
 · exact .inr ⟨b,off,L,t,fz,rfl,lt_of_block hg,hg,hle,hr⟩
set_option maxHeartbeats 2000000 in
theorem record_any (w:World) (R:Blks) (k:UInt8) (v:Value) (S:List (List UInt8)) (h:RowsAt R w v S) (hl:(catB S).length≤100000000) (hn:S.length≤1000):
 Calls Tryz.prog 81 #[B k,v] w fun e w'=>(∃ r,e=.returned r∧w'.ownsRow w.heap.size 5 1 r (k :: (catB S)).length ((k :: (catB S)).map B))∧Below w.heap.size w w':=by
 obtain ⟨w1,hw1⟩:∃ w1,w1=w.alloc (.cells #[B k] 5):=⟨_,rfl⟩
 have hb1:Below w.heap.size w w1:=by rw [hw1];exact kept_alloc _ _
 have HC:=Lib.hid (concat_any w1 R v S (h.kept hb1) (by omega) (by omega))
 have hB1:Bytes (fun b=>w.heap.size≤b) w1 (.slice (some ⟨w.heap.size,0,none⟩) 1 1) [k]:=by
  refine ⟨_,1,rfl,by simp,by unfold maxLen;omega,nofun,.inr ⟨w.heap.size,0,_,_,_,rfl,Nat.le_refl _,by rw [hw1];exact heap_alloc_new w _,by simp,fun i hi=>?_⟩⟩
  have:i=0:=by simpa using hi
  subst this
  simp
 have HB1:=Lib.hid hB1;have Hb1:=Lib.hid hb1;have Hw1:=Lib.hid hw1;have Hl:=Lib.hid hl
 obtain ⟨a,cap,rfl,-⟩:=h
 obtain ⟨n,hnn⟩:∃ n,S.length=n:=⟨_,rfl⟩
 rw [hnn] at HC ⊢
 clear hw1 hb1 hB1 hl hn hnn
 obtain ⟨bk,hbk⟩:∃ bk,B k=bk:=⟨_,rfl⟩
 rw [hbk] at Hw1 ⊢
 have Hbk:=Lib.hid hbk
 have hbk':bk=.int .u8 (k.toNat:Int):=by rw [←hbk];rfl
 subst hbk'
 clear hbk
 go_enter Tryz.func81,Tryz.ntmps81
 go_wp2_with fail
 rw [←Hw1.out]
 refine HC.out.mono ?_
 rintro e w2 ⟨⟨r2,rfl,ho2⟩,hb2⟩
 have h0:=(HB1.out.keep (w':=w2) fun b _ hlt=>hb2.block b hlt).insideU
 have h2:Bytes (fun b=>w1.heap.size≤b∧b < w2.heap.size) w2 r2 (catB S):=Bytes.of_owns ho2 _ fun b h1 h2=>⟨h1,h2⟩
 obtain ⟨a2,c2,rfl⟩:=own_shape ho2
 have hr:=rowsAt_two h0 h2.insideU (fun b hb=>hb)
 obtain ⟨w3,hw3⟩:∃ w3,w3=w2.alloc (.cells #[.slice (some ⟨w.heap.size,0,none⟩) 1 1,.slice a2 (catB S).length c2] 41):=⟨_,rfl⟩
 have hb3:Below w.heap.size w w3:=by rw [hw3];exact (Hb1.out.trans (hb2.mono Hb1.out.size)).alloc (Nat.le_trans Hb1.out.size hb2.size) _
 rw [←hw3] at hr
 have hC:=concat_any w3 _ _ _ hr (by rw [catB_two];have:=Hl.out;rw [List.length_cons];omega) (by simp)
 rw [catB_two] at hC
 have HC2:=Lib.hid hC;have Hb3:=Lib.hid hb3;have Hw3:=Lib.hid hw3
 clear HC hC hr hw3 hb3 h0 h2 ho2 hb2
 go_wp2_with fail
 rw [←Hw3.out]
 refine HC2.out.mono ?_
 rintro e w4 ⟨⟨r4,rfl,ho4⟩,hb4⟩
 have Ho4:=Lib.hid (own_base ho4 Hb3.out.size);have Hb4:=Lib.hid (Hb3.out.trans (hb4.mono Hb3.out.size))
 clear HC2 ho4 hb4
 go_wp2_with fail
 go_ret
 exact ⟨⟨_,rfl,Ho4.out⟩,Hb4.out⟩
set_option maxHeartbeats 2000000 in
theorem putList_any (w:World) (F:Blks) (v:Value) (l:List RKey) (h:Rows F w 1 v l.length (l.map Go.Proofs.encStr)) (hl:l.length≤1000000) (hk:∀ k ∈ l,k.length≤100000):
 Calls Tryz.prog 118 #[.slice none 0 0,v] w fun e w'=>(∃ r,e=.returned r∧w'.ownsRow w.heap.size 5 1 r (listB l).length ((listB l).map B))∧Below w.heap.size w w':=by
 have HP:=Lib.hid (putUint_any w none_ (.slice none 0 0) [] (bytes_empty none_ w none) l.length (by omega) (by simp))
 have hw:IntKind.u64.wrap (l.length:Int)=(l.length:Int):=IntWalk.u64_in _ (by omega)
 replace h:=h.mono (G:=fun b=>b < w.heap.size) fun b _ hlt=>hlt
 have H:=Lib.hid h
 obtain ⟨a,cap,rfl,-⟩:=h
 obtain ⟨n,hn⟩:∃ n,l.length=n:=⟨_,rfl⟩
 have Hn:=Lib.hid hn;have Hk:=Lib.hid hk
 rw [hn] at HP hw hl H ⊢
 clear hn hk
 go_enter Tryz.func118,Tryz.ntmps118
 go_wp2_with fail
 refine HP.out.mono ?_
 rintro e w1 ⟨⟨r1,rfl,ho1⟩,hb1⟩
 rw [List.nil_append] at ho1
 have Ho1:=Lib.hid ho1;have Hb1:=Lib.hid hb1
 clear HP ho1 hb1
 go_wp2_with fail
 go_loopw [0,14] (fun r i wr=>∃ (k:Nat),k≤n∧i=.int .i64 (k:Int)∧wr.ownsRow w.heap.size 5 1 r (uvar n ++ (l.take k).flatMap codeText).length ((uvar n ++ (l.take k).flatMap codeText).map B)∧Below w.heap.size w wr) (fun _ i _=>n - (intOf i).toNat)
 case atStart=>exact ⟨0,by omega,rfl,by simpa using Ho1.out,Hb1.out⟩
 case round=>
  obtain ⟨k,hkn,rfl,ho,hb⟩:=hrel
  by_cases hk':k < n
  · have hkI:(k:Int) < (n:Int):=by omega
    have hkl:k < l.length:=by rw [Hn.out];exact hk'
    have hv:=H.out.keep (w':=wr) fun b hq _=>hb.block b hq
    rw [←Hn.out] at hv
    obtain ⟨b,off,rfl,-,-,hc⟩:=str_cell hv (by omega)
    have c0:=hc k hkl
    have hB:Bytes (fun q=>q < wr.heap.size) wr _ _:=(Bytes.of_owns ho (fun _=>True) fun _ _ _=>trivial).insideU
    have hle:((l.take k).flatMap codeText).length≤k * 200000:=by
     have hq:∀ (q:List RKey),(∀ x ∈ q,x.length≤100000)→(q.flatMap codeText).length≤q.length * 200000:=fun q=>by
      induction q with
      | nil=>intro _;simp
      | cons x q ih=>
        intro hx
        have h1:=ih fun y hy=>hx y (List.mem_cons_of_mem _ hy)
        have h2:=hx x List.mem_cons_self
        have h3:=uvar_len x.length
        have h4:(codeText x).length=(uvar x.length).length+x.length:=by unfold codeText;rw [List.length_append]
        rw [List.flatMap_cons,List.length_append,List.length_cons,h4]
        omega
     have:=hq (l.take k) fun x hx=>Hk.out x (List.mem_of_mem_take hx)
     rw [List.length_take,Nat.min_eq_left (by omega)] at this
     exact this
    have hul:=uvar_len n
    have hP:=putText_any wr _ _ _ hB l[k] (by have:=Hk.out _ (List.getElem_mem hkl);omega) (by rw [List.length_append];omega)
    obtain ⟨y,hy⟩:∃ y,l[k]=y:=⟨_,rfl⟩
    have hst:uvar n ++ (l.take (k+1)).flatMap codeText=(uvar n ++ (l.take k).flatMap codeText) ++ codeText y:=by
     rw [List.take_succ_eq_append_getElem hkl,List.flatMap_append,hy,List.append_assoc];simp
    rw [hy] at hP c0
    have HP:=Lib.hid hP;have Hst:=Lib.hid hst;have Hb:=Lib.hid hb
    obtain ⟨ar,cr,rfl⟩:=own_shape ho
    obtain ⟨z,hz⟩:∃ z,(uvar n ++ (l.take k).flatMap codeText).length=z:=⟨_,rfl⟩
    rw [hz] at HP ⊢
    clear hP hst hb ho hB hle hul hy hc hv hkl hz
    go_wp2_with fail
    refine HP.out.mono ?_
    rintro e w2 ⟨⟨r2,rfl,ho2⟩,hb2⟩
    rw [←Hst.out] at ho2
    have Ho2:=Lib.hid (own_base ho2 Hb.out.size);have Hb2:=Lib.hid (Hb.out.trans (hb2.mono Hb.out.size))
    clear HP ho2 hb2 c0
    go_wp2_with fail
    go_roundw
    case rel=>exact ⟨k+1,by omega,by go_num,Ho2.out,Hb2.out⟩
    case measure=>simp [intOf];omega
  · have hkI:¬ (k:Int) < (n:Int):=by omega
    have hke:l.take k=l:=List.take_of_length_le (by rw [Hn.out];omega)
    rw [hke] at ho
    have Ho:=Lib.hid ho;have Hb:=Lib.hid hb
    clear ho hb hke
    go_wp2_with fail
    go_ret
    exact ⟨⟨_,rfl,by have h:=Ho.out;unfold listB;rw [Hn.out];exact h⟩,Hb.out⟩
end Go.Proofs.YtobjdpngnfbicaaGreatDoor

namespace Go.Proofs.YtobjdpngnfbicaaGreatDoor
open Go.RowKit Go.Lib
set_option linter.unusedVariables false
set_option maxRecDepth 20000
attribute [local go_sem ↓] seal_append
attribute [local go_sem] opC upC
def encR (m:RMap):List UInt8 × Int:=if validR m then (codeR m,0) else ([],5)
def EncPost (w:World) (r:List UInt8 × Int) (e:Ending) (w':World):Prop:=(∃ v,e=.returned (.tuple #[v,.int .i64 r.2])∧Bytes (fun _=>True) w' v r.1)∧Below w.heap.size w w'
theorem bytes_nil (F:Blks) (w:World):Bytes F w (.slice none 0 0) []:=⟨none,0,rfl,by simp,by unfold maxLen;omega,fun _=>rfl,.inl rfl⟩
theorem valid_codable {m:RMap} (h:validR m=true):Codable m:=codable_of_formed (valid_formed h) (valid_lens h).2.1 (valid_lens h).2.2.1
set_option maxRecDepth 100000 in
set_option maxHeartbeats 1500000 in
theorem pencode_any (w:World) (hT:Tabs w) (h3:4≤w.heap.size) (F:Blks) (v:Value) (m:RMap) (h:MapV F w v m) (hki:∀ x ∈ m.items,x.key.length≤1000000) (hkg:∀ x ∈ m.gone,x.key.length≤1000000):
 Calls Tryz.prog 79 #[v] w (EncPost w (encR m)):=by
 replace h:=h.mono (G:=fun b=>b < w.heap.size) fun b _ hlt=>hlt
 obtain ⟨s1,s2,s3,rfl,h⟩:=h
 obtain ⟨a1,p1,rfl,-⟩:=h.seen.shape
 obtain ⟨a2,p2,rfl,-⟩:=h.items.shape
 obtain ⟨a3,p3,rfl,-⟩:=h.gone.shape
 have l1:=h.seen.len
 have l2:=h.items.len
 have l3:=h.gone.len
 unfold maxLen at l1 l2 l3
 obtain ⟨n1,hn1⟩:∃ n,m.seen.length=n:=⟨_,rfl⟩
 obtain ⟨n2,hn2⟩:∃ n,m.items.length=n:=⟨_,rfl⟩
 obtain ⟨n3,hn3⟩:∃ n,m.gone.length=n:=⟨_,rfl⟩
 rw [hn1,hn2,hn3] at h
 rw [hn1] at l1 ⊢
 rw [hn2] at l2 ⊢
 rw [hn3] at l3 ⊢
 obtain ⟨wx,hwx⟩:∃ wx,wx=w.alloc (.cells #[.slice a1 n1 p1,.slice a2 n2 p2,.slice a3 n3 p3] 37):=⟨_,rfl⟩
 have hbx:Below w.heap.size w wx:=by rw [hwx];exact kept_alloc _ _
 have hzx:wx.heap.size=w.heap.size+1:=by rw [hwx];simp
 have hx:=h.keep (w':=wx) fun b _ hlt=>hbx.block b hlt
 have hnx:Blk wx w.heap.size [.slice a1 n1 p1,.slice a2 n2 p2,.slice a3 n3 p3] 37:=by rw [hwx];exact Blk.new _ _ _
 have Hx:=Lib.hid hx;have Hn1:=Lib.hid hn1;have Hn2:=Lib.hid hn2;have Hn3:=Lib.hid hn3
 have Hwx:=Lib.hid hwx;have Hbx:=Lib.hid hbx;have Hzx:=Lib.hid hzx
 have c0:=hnx.cell 0
 have c1:=hnx.cell 1
 have c2:=hnx.cell 2
 simp at c0 c1 c2
 have Hnx:=Lib.hid hnx
 clear hx hn1 hn2 hn3 hwx hbx hnx hzx
 clear h
 have HC:=Lib.hid (check_any wx (tabs_below hT h3 Hbx.out) (by rw [Hzx.out];omega) _ (.agg #[.slice a1 n1 p1,.slice a2 n2 p2,.slice a3 n3 p3]) m ⟨_,_,_,rfl,Hx.out⟩ hki hkg)
 obtain ⟨ok,hok⟩:∃ ok,validR m=ok:=⟨_,rfl⟩
 rw [hok] at HC
 have Hok:=Lib.hid hok
 clear hok hT hki hkg c0 c1 c2
 go_enter Tryz.func79,Tryz.ntmps79
 go_wp2_with fail
 rw [←Hwx.out]
 refine HC.out.mono ?_
 rintro e w3 ⟨rfl,hb3⟩
 have Hb3:=Lib.hid (Hbx.out.trans (hb3.mono Hbx.out.size))
 obtain ⟨d0,d1,d2⟩:=cell3 (Hnx.out.keep (hb3.block _ Hnx.out.lt))
 have Hx3:=Lib.hid (Hx.out.keep (w':=w3) fun b _ hlt=>hb3.block b hlt)
 clear HC hb3
 cases ok with
 | false=>
   have He:=Lib.hid (show encR m=([],5) by unfold encR;rw [Hok.out];rfl)
   go_wp2_with fail
   exact bodyPost_ret (v:=.tuple #[.slice none 0 0,.int .i64 5]) (by simp [results,Tryz.results79,go_sem]) rfl ⟨⟨_,by rw [He.out],by rw [He.out];exact bytes_nil _ _⟩,Hb3.out⟩
 | true=>
   have He:=Lib.hid (show encR m=(codeR m,0) by unfold encR;rw [Hok.out];rfl)
   have HS:=Lib.hid (code_any w3 _ (.agg #[.slice a1 n1 p1,.slice a2 n2 p2,.slice a3 n3 p3]) m ⟨_,_,_,rfl,Hx3.out⟩ (valid_codable Hok.out))
   go_wp2_with fail
   refine HS.out.mono ?_
   rintro e w4 ⟨⟨r,rfl,hr⟩,hb4⟩
   have Hb4:=Lib.hid (Hb3.out.trans (hb4.mono Hb3.out.size));have Hr:=Lib.hid hr
   clear hb4 hr HS
   go_wp2_with fail
   exact bodyPost_ret (v:=.tuple #[r,.int .i64 0]) (by simp [results,Tryz.results79,go_sem]) rfl ⟨⟨_,by rw [He.out],by rw [He.out];exact Hr.out⟩,Hb4.out⟩
end Go.Proofs.YtobjdpngnfbicaaGreatDoor

namespace Go.Proofs.YtobjdpngnfbicaaGreatDoor
open Go.RowKit Go.Lib
set_option linter.unusedVariables false
set_option maxRecDepth 20000
def KeysM (m:RMap):Prop:=(∀ x ∈ m.items,x.key.length≤1000000)∧∀ x ∈ m.gone,x.key.length≤1000000
theorem valid_keys {m:RMap} (h:validR m=true):KeysM m:=by
 obtain ⟨-,h2,h3⟩:=valid_nums h
 exact ⟨fun x hx=>by have:=(h2 x hx).1;omega,fun x hx=>by have:=(h3 x hx).1;omega⟩
/-! maps of the program in variables -/
def MB (W:World) (O:Nat) (m:RMap):Prop:=∃ s1 e1 s2 e2 s3 e3,Blk W O [.slice s1 m.seen.length e1,.slice s2 m.items.length e2,.slice s3 m.gone.length e3] 37∧MapIn (fun q=>q < W.heap.size) W (.slice s1 m.seen.length e1) (.slice s2 m.items.length e2) (.slice s3 m.gone.length e3) m
theorem MB.keep {W W':World} {O:Nat} {m:RMap} (h:MB W O m) (hb:Below W.heap.size W W'):MB W' O m:=by
 obtain ⟨s1,e1,s2,e2,s3,e3,h1,h2⟩:=h
 exact ⟨s1,e1,s2,e2,s3,e3,h1.keep (hb.block _ h1.lt),(h2.keep (w':=W') fun q hq _=>hb.block q hq).mono fun q hq _=>Nat.lt_of_lt_of_le hq hb.size⟩
def Has (L:List (Nat × RMap)) (W:World):Prop:=∀ p ∈ L,MB W p.1 p.2
theorem Has.keep {L:List (Nat × RMap)} {W W':World} (h:Has L W) (hb:Below W.heap.size W W'):Has L W':=fun p hp=>(h p hp).keep hb
theorem Has.cons {L:List (Nat × RMap)} {W:World} (h:Has L W) {O:Nat} {m:RMap} (hm:MB W O m):Has ((O,m) :: L) W:=fun p hp=>by
 rcases List.mem_cons.1 hp with rfl | hp
 · exact hm
 · exact h p hp
theorem Has.nil (W:World):Has [] W:=nofun
end Go.Proofs.YtobjdpngnfbicaaGreatDoor

namespace Go.Proofs.YtobjdpngnfbicaaGreatDoor
open Go.RowKit
set_option linter.unusedVariables false
set_option maxRecDepth 20000
attribute [local go_sem ↓] seal_copy seal_build_sector
attribute [local go_sem] opC upC
theorem putL_all (l x:List UInt8) (h:l.length=x.length):j_putL l 0 x=x:=by
 unfold j_putL
 simp [h]
theorem jread_any (w:World) (jb kd g taken:Nat) (rv:Value) (dead:Bool) (K:DK) (M:MD) (hj:JBlk w jb kd g rv taken dead) (hd:DiskAt w K M) (hK:K.d=kd) (at_:Nat) (hi:at_ < M.S.length) (hdn:M.down=false):
 Calls Tryz.prog 94 #[.pointer (some ⟨jb,0,none⟩),.int .i64 (at_:Int)] w fun e w'=>∃ sb,e=.returned (.pointer (some ⟨sb,0,none⟩))∧w.heap.size≤sb∧SecAt w' sb (M.S.getD at_ [])∧Below w.heap.size w w':=by
 subst hK
 have hbd:=run_BD_sector w
 obtain ⟨w1,hw1⟩:∃ w1,w1=w.alloc (.cells (zero64.map B).toArray 137):=⟨_,rfl⟩
 have hs1:SecAt w1 w.heap.size zero64:=by rw [hw1];exact SecAt.new _ _ zero64_length
 have hk1:Below w.heap.size w w1:=by rw [hw1];exact kept_alloc _ _
 have hz1:w1.heap.size=w.heap.size+1:=by rw [hw1];simp
 have hd1:=hd.kept hk1
 have hj1:JBlk w1 jb K.d g rv taken dead:=Blk.keep hj (hk1.block jb (Blk.lt hj))
 have c0:=hj1.cell 0
 simp at c0
 have hrd:=read_ok w1 K M at_ hd1 hi hdn
 have h64:M.S[at_].length=64:=by
  obtain ⟨L,-,hL⟩:=hd.secs
  exact hL.2.2 _ (List.getElem_mem hi)
 have Hrd:=Lib.hid hrd
 clear hrd
 rw [hw1] at c0 Hrd
 have Hw1:=Lib.hid hw1
 clear hw1
 go_enter Tryz.func94,Tryz.ntmps94
 go_wp2_with fail
 refine Hrd.out.mono ?_
 rintro e w2 ⟨r,rfl,hr2,hb2⟩
 rw [←Hw1.out] at hr2 hb2
 have hr2:w2.ownsRow w1.heap.size 5 1 r (M.S[at_]).length ((M.S[at_]).map B):=by rw [h64];exact hr2
 have hs2:SecAt w2 w.heap.size zero64:=⟨hs1.1.keep (hb2.block _ (by omega)),hs1.2⟩
 have hk2:=hk1.trans (hb2.mono (by omega))
 have hby:=owns_bytes hr2
 obtain ⟨a,cap,rfl,-,-⟩:=id hby
 obtain ⟨w3,hcp,hs3,ho3,hz3⟩:=run_copy_sec hs2 0 64 64 hby 64 (by rw [h64];rfl) (by omega)
 rw [List.take_of_length_le (by omega),putL_all _ _ (by rw [zero64_length,h64])] at hs3
 rw [show ((64:Nat):Int)=64 from rfl,h64] at hcp
 have hk3:=below_only hk2 ho3 (fun b e=>by rw [e];exact Nat.le_refl _) (by have:=hb2.size;omega)
 have Hs3:=Lib.hid hs3;have Hk3:=Lib.hid hk3
 clear hs3 hk3 hby hr2 hs2 hk2 c0 hs1 hd1 hj1
 go_wp2_with fail
 go_ret
 refine ⟨_,rfl,Nat.le_refl _,?_,Hk3.out⟩
 rw [show M.S.getD at_ []=M.S[at_] from by rw [List.getD_eq_getElem?_getD,List.getElem?_eq_getElem hi];rfl]
 exact Hs3.out
theorem piecesOk_le (S:List (List UInt8)) (g k p n:Nat):∀ (i j:Nat),piecesOk S g k p n (i+j)=true→piecesOk S g k p n i=true
 | i,0,h=>h
 | i,j+1,h=>by
   refine piecesOk_le S g k p n i j ?_
   have:piecesOk S g k p n (i+j+1)=true:=h
   simp only [piecesOk,Bool.and_eq_true] at this
   exact this.1
theorem bodyM_length (S:List (List UInt8)) (hS:∀ s ∈ S,s.length=64) (g p:Nat):∀ i,(∀ j,j < i→placeN S.length g (p+j) < S.length)→(bodyM S g p i).length=48 * i
 | 0,_=>rfl
 | i+1,h=>by
   have h1:=bodyM_length S hS g p i (fun j hj=>h j (by omega))
   have h2:=h i (by omega)
   have h3:(secM S g (p+i)).length=64:=by
    unfold secM
    rw [List.getD_eq_getElem?_getD,List.getElem?_eq_getElem h2]
    exact hS _ (List.getElem_mem h2)
   simp only [bodyM,List.length_append,h1,List.length_take,List.length_drop,h3]
   omega
theorem placeN_lt (n g p:Nat) (hp:p < halfN n):placeN n g p < n:=by
 unfold placeN
 have h2:g % 2=0∨g % 2=1:=by omega
 unfold halfN at *
 rcases h2 with h | h <;> rw [h] <;> omega
end Go.Proofs.YtobjdpngnfbicaaGreatDoor
