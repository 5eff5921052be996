/-
  REv DecayAft
-/
import Derived.Test.YtobjdpngnfbicaaGreatDoorZK12
import Derived.Test.YtobjdpngnfbicaaGreatDoorZK13
import Derived.Laws.ByValue
import Derived.Test.YtobjdpngnfbicaaGreatDoorChecked
import Derived.Test.YtobjdpngnfbicaaGreatDoorZK01
import Derived.Test.YtobjdpngnfbicaaGreatDoorZK03
open Go.Lib renaming hid->ae
open Nat renaming le_refl->aq,le_trans->au
open List renaming getElem_mem->aA
open Go.Proofs.Tryz renaming prog->aC
namespace Go.Proofs.YtobjdpngnfbicaaGreatDoor
open Go.RowKit Go.Sort
set_option linter.unusedVariables false
set_option maxRecDepth 20000
attribute [local go_sem ↓] bq
set_option maxHeartbeats 1000000 in
theorem cloneS_any (w:World) (F:aV) (v:Value) (l:List RKey) (hv:Rows F w 1 v l.length (l.map eS)) (hlen:l.length <= 1000000):
 Calls aC 163 #[v] w fun e w'=>∃ r,e=.returned r /\ w'.ownsRow w.heap.size 9 1 r l.length (l.map eS) /\ Below w.heap.size w w':=by
 have hW:Rows F (w.alloc (.cells #[] 9)) 1 v l.length (l.map eS):=hv.keep fun b _ hb=>Below.heap_alloc _ _ _ hb
 obtain⟨i0,q1,q2,q3,q4⟩:=info_parts ry
 obtain⟨v',w',hr,hown,hgb⟩:=bw (P:=aC) (w.alloc (.cells #[] 9)) w.heap.size 32 9 Tryz.underlying32 q1 q2 q3 q4 rfl (by decide) (.slice (some ⟨w.heap.size,0,none⟩) 0 0) 0 []
  ⟨rfl,.inr ⟨w.heap.size,0,#[],rfl,aq _,by unfold World.alloc;simp,aq _,by unfold maxLen;omega,rfl,rfl⟩⟩ F v l.length (l.map eS) hW (tj l) (by unfold maxLen;omega) (by omega) (by simp)
 rw[Nat.zero_add,List.nil_append] at hown
 obtain⟨n,hn⟩:∃ n,l.length=n:=⟨_,rfl⟩
 obtain⟨a,cap,rfl,hc,hm,hz⟩:=hv.shape;rw[hn] at hown hr hc ⊢;obtain⟨a',c',rfl⟩:=own_shape hown;have Hown:=ae hown;have Hgb:=ae hgb;have Hn:=ae hn;clear hown hgb hn hW hv q1 q2 q3 q4;cases a with
 | none=>
   obtain rfl:=hz rfl;obtain rfl:n=0:=by omega
   obtain rfl:l = []:=List.length_eq_zero_iff.1 Hn.out;have hn:=fun (W:World)=>Lib.run_eql_slice_nil (P:=aC) W 32 9 none 0 0 0 0 Tryz.underlying32
   go_enter Tryz.func163,Tryz.ntmps163
   go_wp2_with fail
   go_ret
   exact⟨_,rfl,World.ownsRow_nil _ _ _ _,Below.refl _ _⟩
 | some ad=>
   have hn:=fun (W:World)=>Lib.run_eql_slice_nil (P:=aC) W 32 9 (some ad) n cap 0 0 Tryz.underlying32
   go_enter Tryz.func163,Tryz.ntmps163
   go_wp2_with fail
   go_ret
   exact⟨_,rfl,Hown.out,(aE _ _).grown Hgb.out (by simp) (fun k hk=>by simp[Value.ownBlock] at hk;omega)⟩
theorem compact_len_all (zs:List RKey) (h:zs.Pairwise fun a b=>a≠b):(Lib.compact zs).length=zs.length:=by
 rw[Lib.compact_all zs fun j hj=>?_];rcases Nat.eq_zero_or_pos j with rfl | h0
 ·exact Lib.keeps_lt_one _ 0 (by omega)
 ·refine Lib.keeps_pos fun e=>?_
  have h1:=List.pairwise_iff_getElem.1 h (j - 1) j (by omega) hj (by omega);rw[getElem!_pos zs.toArray j (by simpa using hj),getElem!_pos zs.toArray (j - 1) (by simp;omega)] at e;exact h1 (by simpa using e.symm)
theorem compact_len_lt (zs:List RKey) (j:Nat) (hj:j+1 < zs.length) (h:zs[j]=zs[j+1]):(Lib.compact zs).length < zs.length:=by
 unfold Lib.compact Lib.compactUpTo;rw[List.length_map]
 have hk:Lib.keeps zs.toArray (j+1)=false:=Lib.keeps_neg (by omega) (by
  rw[getElem!_pos zs.toArray (j+1) (by simpa using hj),getElem!_pos zs.toArray (j+1 - 1) (by simp;omega)]
  simpa using h.symm)
 have h1:=List.length_filter_lt_length_iff_exists (l:=List.range zs.length) (p:=Lib.keeps zs.toArray);simp only[List.length_range] at h1;exact h1.2 ⟨j+1,List.mem_range.2 hj,by simp[hk]⟩
theorem sorted_dup:∀ zs:List RKey,(zs.Pairwise fun a b=>a <= b) -> ¬ zs.Nodup -> ∃ (j:Nat) (h:j+1 < zs.length),zs[j]=zs[j+1]
 | [],_,h=>absurd List.nodup_nil h
 | [a],_,h=>absurd (by simp) h
 | a :: b :: l,hs,hn=>by
   by_cases hab:a=b
   ·exact⟨0,by simp,by simpa using hab⟩
   ·have ps:=List.pairwise_cons.1 hs
    by_cases hr:(b :: l).Nodup
    ·refine absurd (List.nodup_cons.2 ⟨fun hm=>?_,hr⟩) hn;rcases List.mem_cons.1 hm with h | h
     ·exact hab h
     ·have h1:=ps.1 b List.mem_cons_self;have h2:=(List.pairwise_cons.1 ps.2).1 a h;exact hab (List.le_antisymm h1 h2)
    ·obtain⟨j,hj,h⟩:=sorted_dup (b :: l) ps.2 hr;exact⟨j+1,by simpa using hj,by simpa using h⟩
theorem compact_nodup (l:List RKey):(Lib.compact (sortK l)).length=l.length↔l.Nodup:=by
 have hp:=sortK_perm l;constructor
 ·intro h;refine Classical.byContradiction fun hn=>?_
  obtain⟨j,hj,e⟩:=sorted_dup (sortK l) (sortK_sorted l) (fun hd=>hn (hp.nodup_iff.1 hd));have:=compact_len_lt _ j hj e;rw[hp.length_eq] at this;omega
 ·intro h;rw[compact_len_all _ (hp.nodup_iff.2 h),hp.length_eq]
set_option maxHeartbeats 1000000 in
theorem compact_any (w:World) (base:Nat) (v:Value) (zs:List RKey) (hv:w.ownsRow base 9 1 v zs.length (zs.map eS)) (hl:zs.length <= 1000000) (hb:w.heap.size <= base+w.heap.size) (lo:Nat) (hlo:lo <= base) (hlo2:lo <= w.heap.size):
 Calls aC 162 #[v] w fun e w'=>(∃ a c,e=.returned (.slice a (Lib.compact zs).length c)) /\ Below lo w w':=by
 rcases hv.2 with ⟨rfl,hz⟩ | ⟨gb,cap,cur,rfl,hbase,hgb,r1,r2,r3,r4⟩
 ·obtain rfl:zs = []:=List.length_eq_zero_iff.1 hz;refine(Any.slices_Compact_string_empty Tryz.laysCompact none 0 w).mono ?_;rintro e w' ⟨rfl,rfl⟩;exact⟨⟨none,0,rfl⟩,Below.refl _ _⟩
 ·have hH:Holds Go.Proofs.encStr w gb 0 zs.toArray:=holds_of_block hgb (by rw[Nat.mul_one] at r4;exact r4);refine(Any.slices_Compact_string Tryz.laysCompact gb 0 cap zs w hH (by omega) r1).mono ?_;rintro e w' ⟨rfl,q,rfl⟩;refine⟨⟨_,_,rfl⟩,?_⟩;have hg:=grownBy_sorted (w:=w) (g:=gb) (n:=q) (os:=#[]) (Lib.compact zs ++ List.replicate (zs.length - (Lib.compact zs).length) []).toArray;rw[grow_empty] at hg;exact(Below.refl lo w).grown hg hlo2 (fun j hj=>by cases hj;omega)
/-! is there a key that is none -/
set_option maxHeartbeats 1000000 in
theorem notKey_any (w:World) (hT:cL w) (h3:4 <= w.heap.size) (k:RKey) (hk:k.length <= 4611686018427387903):
 Calls aC 165 #[.string ⟨k.toArray⟩] w fun e w'=>e=.returned (.bool (!ec k)) /\ Below w.heap.size w w':=by
 have V:=ae (lz w hT h3 k (by omega))
 obtain⟨kk,hkk⟩:∃ kk,ec k=kk:=⟨_,rfl⟩
 rw[hkk] at V ⊢;clear hkk
 go_enter Tryz.func165,Tryz.ntmps165
 go_wp2_with fail;refine V.out.mono ?_;rintro e w' ⟨rfl,hb⟩;go_wp2_with fail
 go_ret
 exact⟨rfl,hb⟩
set_option maxHeartbeats 2000000 in
theorem indexBad_any (w:World) (hT:cL w) (h3:4 <= w.heap.size) (F:aV) (v:Value) (l:List RKey) (hv:Rows F w 1 v l.length (l.map eS)) (hl:l.length <= 1000000) (hk:∀ k ∈ l,k.length <= 4611686018427387903):
 Calls aC 206 #[v,.func (.func 165) #[] #[]] w fun e w'=>(∃ i:Int,e=.returned (.int .i64 i) /\ (0 <= i↔l.all ec=false) /\ -1 <= i) /\ Below w.heap.size w w':=by
 obtain⟨n,hn⟩:∃ n,l.length=n:=⟨_,rfl⟩
 obtain⟨a,cap,rfl,-⟩:=hv.shape;have Hv:=ae hv;rw[hn] at hl ⊢;have Hn:=ae hn;have Hk:=ae hk;have HT:=ae hT;have H0:=ae (show Below w.heap.size w w from Below.refl _ _);clear hv hn hk hT
 go_enter Tryz.func206,Tryz.ntmps206
 go_wp2_with fail
 go_loopw [8] (fun i wr=>∃ k:Nat,k <= n /\ i=.int .i64 (k:Int) /\ Below w.heap.size w wr /\ ∀ j (hj:j < l.length),j < k -> ec l[j]=true) (fun i _=>n - (intOf i).toNat)
 case atStart=>exact⟨0,by omega,rfl,H0.out,fun j _ hj=>by omega⟩
 case round=>
  obtain⟨k,hk,rfl,hbw,hall⟩:=hrel;have Hbw:=ae hbw;have Hall:=ae hall;clear hbw hall
  by_cases hkn:k < n
  ·have hkI:(k:Int) < (n:Int):=by omega
   have hkl:k < l.length:=by rw[Hn.out];exact hkn
   have hm:=Hv.out.keep (w':=wr) fun b _ hlt=>Hbw.out.block b hlt
   obtain⟨b,off,rfl,-,-,hc⟩:=fZ hm (by omega);have e0:=hc k hkl
   obtain⟨x,hx⟩:∃ x,l[k]=x:=⟨_,rfl⟩
   rw[hx] at e0;have V:=ae (notKey_any wr (bi HT.out h3 Hbw.out) (au h3 Hbw.out.size) x (Hk.out x (by rw[<- hx];exact aA hkl)));have Hx:=ae hx
   obtain⟨kk,hkk⟩:∃ kk,ec x=kk:=⟨_,rfl⟩
   rw[hkk] at V;have Hkk:=ae hkk;clear hc hx hm hkk;go_wp2_with fail;refine V.out.mono ?_;rintro e w1 ⟨rfl,hb1⟩;have Hb1:=ae (Hbw.out.trans (hb1.mono Hbw.out.size));clear V hb1 e0;cases kk with
   | true=>
     go_wp2_with fail
     go_roundw
     case rel=>exact⟨k+1,by omega,by go_num,Hb1.out,fun j hj hjk=>by
      rcases Nat.lt_succ_iff_lt_or_eq.1 hjk with h | h
      ·exact Hall.out j hj h
      ·subst h;rw[Hx.out];exact Hkk.out⟩
     case measure=>simp[intOf];omega
   | false=>
     go_wp2_with fail
     go_ret
     refine⟨⟨_,rfl,⟨fun _=>?_,fun _=>by omega⟩,by omega⟩,Hb1.out⟩;rw[List.all_eq_false];exact⟨l[k],aA hkl,by rw[Hx.out,Hkk.out];simp⟩
  ·have hkI:¬ (k:Int) < (n:Int):=by omega
   have hall:l.all ec=true:=by
    rw[List.all_eq_true];intro x hx;obtain⟨j,hj,rfl⟩:=List.mem_iff_getElem.1 hx;exact Hall.out j hj (by rw[Hn.out] at hj;omega)
   have Hal:=ae hall;clear hall;go_wp2_with fail
   go_ret
   exact⟨⟨-1,rfl,⟨fun h=>by omega,fun h=>by
    obtain⟨x,hx,hkx⟩:=h;rw[List.all_eq_true.1 Hal.out x hx] at hkx
    cases hkx⟩,by omega⟩,Hbw.out⟩
set_option maxHeartbeats 1000000 in
theorem containsBad_any (w:World) (hT:cL w) (h3:4 <= w.heap.size) (F:aV) (v:Value) (l:List RKey) (hv:Rows F w 1 v l.length (l.map eS)) (hl:l.length <= 1000000) (hk:∀ k ∈ l,k.length <= 4611686018427387903):
 Calls aC 164 #[v,.func (.func 165) #[] #[]] w fun e w'=>e=.returned (.bool (!l.all ec)) /\ Below w.heap.size w w':=by
 have HI:=ae (indexBad_any w hT h3 F v l hv hl hk);obtain⟨a,cap,rfl,-⟩:=hv.shape
 obtain⟨r,hr⟩:∃ r,l.all ec=r:=⟨_,rfl⟩
 rw[hr]
 obtain⟨n,hn⟩:∃ n,l.length=n:=⟨_,rfl⟩
 rw[hn] at HI ⊢;have Hr:=ae hr;clear hv hk hr hT hn
 go_enter Tryz.func164,Tryz.ntmps164
 go_wp2_with fail;refine HI.out.mono ?_;rintro e w1 ⟨⟨i,rfl,hi,-⟩,hb1⟩;rw[Hr.out] at hi;clear HI;cases r with
 | true=>
   have hI:¬ 0 <= i:=fun h=>by have:=hi.1 h;cases this
   clear hi;go_wp2_with fail
   go_ret
   exact⟨ix (by simpa using hI),hb1⟩
 | false=>
   have hI:0 <= i:=hi.2 rfl;clear hi;go_wp2_with fail
   go_ret
   exact⟨ix (by simp),hb1⟩
set_option maxRecDepth 100000 in
set_option maxHeartbeats 1500000 in
theorem limited_any (w:World) (hT:cL w) (h3:4 <= w.heap.size) (F:aV) (v:Value) (m:RMap) (h:cY F w v m) (hki:∀ x ∈ m.items,x.key.length <= 1000000) (hkg:∀ x ∈ m.gone,x.key.length <= 1000000):
 Calls aC 107 #[v] w fun e w'=>e=.returned (.tuple #[if validR m then v else .agg #[.slice none 0 0,.slice none 0 0,.slice none 0 0],.int .i64 (if validR m then 0 else 7)]) /\ Below w.heap.size w w':=by
 replace h:=h.mono (G:=fun b=>b < w.heap.size) fun b _ hlt=>hlt
 obtain⟨s1,s2,s3,rfl,h⟩:=h;obtain⟨a1,p1,rfl,-⟩:=h.seen.shape;obtain⟨a2,p2,rfl,-⟩:=h.items.shape;obtain⟨a3,p3,rfl,-⟩:=h.gone.shape;have l1:=h.seen.len;have l2:=h.items.len;have l3:=h.gone.len;unfold maxLen at l1 l2 l3
 obtain⟨n1,hn1⟩:∃ n,m.seen.length=n:=⟨_,rfl⟩
 obtain⟨n2,hn2⟩:∃ n,m.items.length=n:=⟨_,rfl⟩
 obtain⟨n3,hn3⟩:∃ n,m.gone.length=n:=⟨_,rfl⟩
 rw[hn1,hn2,hn3] at h;rw[hn1] at l1 ⊢;rw[hn2] at l2 ⊢;rw[hn3] at l3 ⊢
 obtain⟨wx,hwx⟩:∃ wx,wx=w.alloc (.cells #[.slice a1 n1 p1,.slice a2 n2 p2,.slice a3 n3 p3] 37):=⟨_,rfl⟩
 have hbx:Below w.heap.size w wx:=by rw[hwx];exact aE _ _
 have hzx:wx.heap.size=w.heap.size+1:=by rw[hwx];simp
 have hx:=h.keep (w':=wx) fun b _ hlt=>hbx.block b hlt
 have hnx:Blk wx w.heap.size [.slice a1 n1 p1,.slice a2 n2 p2,.slice a3 n3 p3] 37:=by rw[hwx];exact Blk.new _ _ _
 have Hx:=ae hx;have Hn1:=ae hn1;have Hn2:=ae hn2;have Hn3:=ae hn3;have Hwx:=ae hwx;have Hbx:=ae hbx;have Hzx:=ae hzx;have c0:=hnx.cell 0;have c1:=hnx.cell 1;have c2:=hnx.cell 2;simp at c0 c1 c2;have Hnx:=ae hnx;clear hx hn1 hn2 hn3 hwx hbx hnx hzx;clear h
 obtain⟨w2,hw2⟩:∃ w2,w2=wx.alloc (.cells #[.slice none 0 0,.slice none 0 0,.slice none 0 0] 37):=⟨_,rfl⟩
 have hb2:Below w.heap.size w w2:=by rw[hw2];exact Hbx.out.alloc Hbx.out.size _
 have hz2:w2.heap.size=w.heap.size+2:=by rw[hw2];simp[Hzx.out]
 have k1:Blk w2 w.heap.size [.slice a1 n1 p1,.slice a2 n2 p2,.slice a3 n3 p3] 37:=by rw[hw2];exact Hnx.out.alloc _
 have k2:Blk w2 (w.heap.size+1) [.slice none 0 0,.slice none 0 0,.slice none 0 0] 37:=by
  have:=Blk.new wx #[.slice none 0 0,.slice none 0 0,.slice none 0 0] 37;rw[hw2,<- Hzx.out];exact this
 have hm2:=Hx.out.keep (w':=w2) fun b _ hlt=>by rw[hw2];exact Below.heap_alloc _ _ _ hlt
 have HC:=ae (fA w2 (bi hT h3 hb2) (by omega) _ (.agg #[.slice a1 n1 p1,.slice a2 n2 p2,.slice a3 n3 p3]) m ⟨_,_,_,rfl,hm2⟩ hki hkg)
 obtain⟨ok,hok⟩:∃ ok,validR m=ok:=⟨_,rfl⟩
 rw[hok] at HC ⊢;have Hw2:=ae hw2;have Hb2:=ae hb2;have K1:=ae k1;have K2:=ae k2;have Hz2:=ae hz2;clear hw2 hb2 k1 k2 hm2 hz2 Hx Hnx hok hT hki hkg c0 c1 c2
 go_enter Tryz.func107,Tryz.ntmps107
 go_wp2_with fail;rw[<- Hwx.out,<- Hw2.out];refine HC.out.mono ?_;rintro e w3 ⟨rfl,hb3⟩;have kk:=K1.out.keep (hb3.block _ K1.out.lt);have kr:=K2.out.keep (hb3.block _ K2.out.lt);have d0:=kk.cell 0;have d1:=kk.cell 1;have d2:=kk.cell 2;simp at d0 d1 d2;have y0:=kr.cell 0;have y1:=kr.cell 1;have y2:=kr.cell 2;have z0:=kr.free 0;have z1:=kr.free 1;have z2:=kr.free 2;simp at y0 y1 y2;have hb3':Below w.heap.size w w3:=Hb2.out.trans (hb3.mono Hb2.out.size)
 have hfin:∀ s1 s2 s3:Value,∃ wf,wf=((w3.setCell ⟨w.heap.size+1,0,none⟩ s1).setCell ⟨w.heap.size+1,1,none⟩ s2).setCell ⟨w.heap.size+1,2,none⟩ s3 /\ Blk wf (w.heap.size+1) [s1,s2,s3] 37 /\ Below w.heap.size w wf:=fun s1 s2 s3=>
  ⟨_,rfl,rx _ kr rfl,((hb3'.setCell (p:=⟨w.heap.size+1,0,none⟩) (Nat.le_succ _) _).setCell (p:=⟨w.heap.size+1,1,none⟩) (Nat.le_succ _) _).setCell (p:=⟨w.heap.size+1,2,none⟩) (Nat.le_succ _) _⟩
 cases ok with
 | true=>
   obtain⟨wf,hwf,hblk,hbf⟩:=hfin (.slice a1 n1 p1) (.slice a2 n2 p2) (.slice a3 n3 p3);have Q0:=ae (hblk.cell 0);have Q1:=ae (hblk.cell 1);have Q2:=ae (hblk.cell 2);have Hbf:=ae hbf;have Hwf:=ae hwf;clear hfin hwf hblk hbf kk kr HC hb3 hb3';go_wp2_with fail;rw[<- Hwf.out];have q0:=Q0.out;have q1:=Q1.out;have q2:=Q2.out;simp at q0 q1 q2;refine bodyPost_ret (v:=.tuple #[.agg #[.slice a1 n1 p1,.slice a2 n2 p2,.slice a3 n3 p3],.int .i64 0]) (by simp[results,Tryz.results107,go_sem,q0,q1,q2]) rfl ⟨rfl,Hbf.out⟩
 | false=>
   obtain⟨wf,hwf,hblk,hbf⟩:=hfin (.slice none 0 0) (.slice none 0 0) (.slice none 0 0);have Q0:=ae (hblk.cell 0);have Q1:=ae (hblk.cell 1);have Q2:=ae (hblk.cell 2);have Hbf:=ae hbf;have Hwf:=ae hwf;clear hfin hwf hblk hbf kk kr HC hb3 hb3';go_wp2_with fail;rw[<- Hwf.out];have q0:=Q0.out;have q1:=Q1.out;have q2:=Q2.out;simp at q0 q1 q2;refine bodyPost_ret (v:=.tuple #[.agg #[.slice none 0 0,.slice none 0 0,.slice none 0 0],.int .i64 7]) (by simp[results,Tryz.results107,go_sem,q0,q1,q2]) rfl ⟨rfl,Hbf.out⟩
end Go.Proofs.YtobjdpngnfbicaaGreatDoor
/- event. -/
namespace Go.Proofs.YtobjdpngnfbicaaGreatDoor
open Go.RowKit Go.Sort
set_option linter.unusedVariables false
set_option maxRecDepth 20000
attribute [local go_sem ↓] bq
theorem fin3 {w W:World} {B b:Nat} {x y z:Value} {t:TypeId} (kr:Blk W b [x,y,z] t) (hb:Below B w W) (hB:B <= b) (s1 s2 s3:Value):
 ∃ wf,wf=((W.setCell ⟨b,0,none⟩ s1).setCell ⟨b,1,none⟩ s2).setCell ⟨b,2,none⟩ s3 /\ Blk wf b [s1,s2,s3] t /\ Below B w wf:=
 ⟨_,rfl,rx _ kr rfl,((hb.setCell (p:=⟨b,0,none⟩) hB _).setCell (p:=⟨b,1,none⟩) hB _).setCell (p:=⟨b,2,none⟩) hB _⟩
def nilV:Value:=.agg #[.slice none 0 0,.slice none 0 0,.slice none 0 0]
set_option maxHeartbeats 1000000 in
theorem values_any (w:World) (v:Value) (hv:∃ a n c,v=.slice a n c):
 Calls aC 161 #[v] w fun e w'=>e=.returned (.func (.func 205) #[] #[.pointer (some ⟨w.heap.size,0,none⟩)]) /\ w'=w.alloc (.cells #[v] 32):=by
 obtain⟨a,n,c,rfl⟩:=hv
 go_enter Tryz.func161,Tryz.ntmps161
 go_wp2_with fail
 go_ret
 exact⟨rfl,rfl⟩
def EvPost (w:World) (m:RMap) (d:Int) (l:List RKey) (e:Ending) (w':World):Prop:=
 ((validR m=false /\ e=.returned (.tuple #[nilV,.slice none 0 0,.int .i64 5])) \/ (validR m=true /\ allowedR d l=false /\ e=.returned (.tuple #[nilV,.slice none 0 0,.int .i64 1])) \/
  (validR m=true /\ allowedR d l=true /\ ∃ r s,e=.returned (.tuple #[r,s,.int .i64 0]) /\ iU w' w.heap.size r ⟨seenUp m d,m.items,m.gone⟩ /\ w'.ownsRow w.heap.size 9 1 s l.length ((sortK l).map eS))) /\ Below w.heap.size w w'
set_option maxRecDepth 100000 in
set_option maxHeartbeats 4000000 in
theorem event_any (w:World) (hT:cL w) (h3:4 <= w.heap.size) (F:aV) (v:Value) (m:RMap) (h:cY F w v m) (hki:∀ x ∈ m.items,x.key.length <= 1000000) (hkg:∀ x ∈ m.gone,x.key.length <= 1000000)
 (hl2:m.items.length <= 1000000) (hl3:m.gone.length <= 1000000) (d:Int) (G:aV) (lv:Value) (l:List RKey) (hlv:Rows G w 1 lv l.length (l.map eS)) (hl:l.length <= 1000000) (hk:∀ k ∈ l,k.length <= 4611686018427387903):
 Calls aC 102 #[v,.int .i64 d,lv] w (EvPost w m d l):=by
 replace h:=h.mono (G:=fun b=>b < w.heap.size) fun b _ hlt=>hlt
 replace hlv:=hlv.mono (G:=fun b=>b < w.heap.size) fun b _ hlt=>hlt
 obtain⟨s1,s2,s3,rfl,h⟩:=h;obtain⟨a1,p1,rfl,-⟩:=h.seen.shape;obtain⟨a2,p2,rfl,-⟩:=h.items.shape;obtain⟨a3,p3,rfl,-⟩:=h.gone.shape;have l1:=h.seen.len;have l2:=h.items.len;have l3:=h.gone.len;unfold maxLen at l1 l2 l3
 obtain⟨n1,hn1⟩:∃ n,m.seen.length=n:=⟨_,rfl⟩
 obtain⟨n2,hn2⟩:∃ n,m.items.length=n:=⟨_,rfl⟩
 obtain⟨n3,hn3⟩:∃ n,m.gone.length=n:=⟨_,rfl⟩
 rw[hn1,hn2,hn3] at h;rw[hn1] at l1 ⊢;rw[hn2] at l2 ⊢;rw[hn3] at l3 ⊢
 obtain⟨wx,hwx⟩:∃ wx,wx=w.alloc (.cells #[.slice a1 n1 p1,.slice a2 n2 p2,.slice a3 n3 p3] 37):=⟨_,rfl⟩
 have hbx:Below w.heap.size w wx:=by rw[hwx];exact aE _ _
 have hzx:wx.heap.size=w.heap.size+1:=by rw[hwx];simp
 have hx:=h.keep (w':=wx) fun b _ hlt=>hbx.block b hlt
 have hnx:Blk wx w.heap.size [.slice a1 n1 p1,.slice a2 n2 p2,.slice a3 n3 p3] 37:=by rw[hwx];exact Blk.new _ _ _
 have Hx:=ae hx;have Hn1:=ae hn1;have Hn2:=ae hn2;have Hn3:=ae hn3;have Hwx:=ae hwx;have Hbx:=ae hbx;have Hzx:=ae hzx;have c0:=hnx.cell 0;have c1:=hnx.cell 1;have c2:=hnx.cell 2;simp at c0 c1 c2;have Hnx:=ae hnx;clear hx hn1 hn2 hn3 hwx hbx hnx hzx;clear h;rw[Hn2.out] at hl2;rw[Hn3.out] at hl3
 obtain⟨nl,hnl⟩:∃ nl,l.length=nl:=⟨_,rfl⟩
 obtain⟨al,cl,rfl,-⟩:=hlv.shape;have Hlv:=ae hlv;rw[hnl] at hl ⊢;have Hnl:=ae hnl
 obtain⟨w2,hw2⟩:∃ w2,w2=wx.alloc (.cells #[.slice none 0 0,.slice none 0 0,.slice none 0 0] 37):=⟨_,rfl⟩
 have hb2:Below w.heap.size w w2:=by rw[hw2];exact Hbx.out.alloc Hbx.out.size _
 have hz2:w2.heap.size=w.heap.size+2:=by rw[hw2];simp[Hzx.out]
 have HK:=ae (show ∀ W,Below w2.heap.size w2 W -> Below w.heap.size w W /\ Blk W w.heap.size [.slice a1 n1 p1,.slice a2 n2 p2,.slice a3 n3 p3] 37 /\ Blk W (w.heap.size+1) [.slice none 0 0,.slice none 0 0,.slice none 0 0] 37 /\ bJ (fun b=>b < w.heap.size) W (.slice a1 n1 p1) (.slice a2 n2 p2) (.slice a3 n3 p3) m /\ Rows (fun b=>b < w.heap.size) W 1 (.slice al l.length cl) l.length (l.map eS) from fun W hl=>by
  have k1:Blk w2 w.heap.size [.slice a1 n1 p1,.slice a2 n2 p2,.slice a3 n3 p3] 37:=by rw[hw2];exact Hnx.out.alloc _
  have k2:Blk w2 (w.heap.size+1) [.slice none 0 0,.slice none 0 0,.slice none 0 0] 37:=by
   have:=Blk.new wx #[.slice none 0 0,.slice none 0 0,.slice none 0 0] 37;rw[hw2,<- Hzx.out];exact this
  have hbW:=hb2.trans (hl.mono (by omega))
  exact⟨hbW,k1.keep (hl.block _ k1.lt),k2.keep (hl.block _ k2.lt),(Hx.out.keep (w':=w2) fun b _ hlt=>by rw[hw2];exact Below.heap_alloc _ _ _ hlt).keep fun b hb hlt=>hl.block b (by omega),Hlv.out.keep fun b _ hlt=>hbW.block b hlt⟩)
 have HT:=ae (show ∀ W,Below w2.heap.size w2 W -> cL W /\ 4 <= W.heap.size from fun W hl=>⟨bi hT h3 (HK.out W hl).1,au h3 (HK.out W hl).1.size⟩);have HC:=ae (fA w2 (HT.out w2 (Below.refl _ _)).1 (by omega) _ (.agg #[.slice a1 n1 p1,.slice a2 n2 p2,.slice a3 n3 p3]) m ⟨_,_,_,rfl,(HK.out w2 (Below.refl _ _)).2.2.2.1⟩ hki hkg)
 obtain⟨ok,hok⟩:∃ ok,validR m=ok:=⟨_,rfl⟩
 rw[hok] at HC;have Hok:=ae hok;have Hk:=ae hk;have Hw2:=ae hw2;have Hz2:=ae hz2;clear hw2 hb2 hz2 Hx Hnx hok hT hki hkg c0 c1 c2 hlv hnl hk Hlv
 go_enter Tryz.func102,Tryz.ntmps102
 go_wp2_with fail;rw[<- Hwx.out,<- Hw2.out];refine HC.out.mono ?_;rintro e w3 ⟨rfl,hb3⟩;have HL3:=ae hb3;clear HC hb3;cases ok with
 | false=>
   have kr:=(HK.out w3 HL3.out).2.2.1;obtain⟨wf,hwf,hblk,hbf⟩:=fin3 kr (HK.out w3 HL3.out).1 (Nat.le_succ _) (.slice none 0 0) (.slice none 0 0) (.slice none 0 0);have y0:=kr.cell 0;have y1:=kr.cell 1;have y2:=kr.cell 2;have z0:=kr.free 0;have z1:=kr.free 1;have z2:=kr.free 2;simp at y0 y1 y2;have Q0:=ae (hblk.cell 0);have Q1:=ae (hblk.cell 1);have Q2:=ae (hblk.cell 2);have Hbf:=ae hbf;have Hwf:=ae hwf;clear hwf hblk hbf;go_wp2_with fail;rw[<- Hwf.out];have q0:=Q0.out;have q1:=Q1.out;have q2:=Q2.out;simp at q0 q1 q2;refine bodyPost_ret (v:=.tuple #[nilV,.slice none 0 0,.int .i64 5]) (by simp[results,Tryz.results102,go_sem,q0,q1,q2,nilV]) rfl ⟨.inl ⟨Hok.out,rfl⟩,Hbf.out⟩
 | true=>
   have HV:=ae (values_any w3 (.slice al nl cl) ⟨_,_,_,rfl⟩)
   obtain⟨w4,hw4⟩:∃ w4,w4=w3.alloc (.cells #[.slice al nl cl] 32):=⟨_,rfl⟩
   have hbl4:Below w2.heap.size w2 w4:=by rw[hw4];exact HL3.out.alloc HL3.out.size _
   have hbx4:Blk w4 w3.heap.size [.slice al nl cl] 32:=by rw[hw4];exact Blk.new _ _ _
   have HS:=ae (oK w4 _ (.slice al nl cl) l w3.heap.size (by have:=(HK.out w4 hbl4).2.2.2.2;rw[Hnl.out] at this ⊢;exact this) (fun b hb=>by have:=(HK.out w4 hbl4).1.size;omega) hbx4 (by rw[Hnl.out];exact hl));have HL4:=ae hbl4;have Hw4:=ae hw4;clear hw4 hbl4 hbx4;go_wp2_with fail;refine HV.out.mono ?_;rintro e w' ⟨rfl,rfl⟩;rw[<- Hw4.out];clear HV;go_wp2_with fail;refine HS.out.mono ?_;rintro e w5 ⟨s,rfl,hos,hb5⟩;have hsl:(sortK l).length=nl:=by rw[(sortK_perm l).length_eq];exact Hnl.out
   obtain⟨sa,cs,rfl⟩:=own_shape hos;rw[hsl] at hos ⊢;have hL5:Below w2.heap.size w2 w5:=HL4.out.trans (hb5.mono HL4.out.size);have HL5:=ae hL5;have Hos:=ae hos;have Hsl:=ae hsl;have kr:=(HK.out w5 hL5).2.2.1;have hbel:=(HK.out w5 hL5).1;clear HS hb5 hL5 hos hsl
   by_cases hd0:d < 0
   ·have Hal:=ae (show allowedR d l=false by unfold allowedR;simp;omega);obtain⟨wf,hwf,hblk,hbf⟩:=fin3 kr hbel (Nat.le_succ _) (.slice none 0 0) (.slice none 0 0) (.slice none 0 0);have y0:=kr.cell 0;have y1:=kr.cell 1;have y2:=kr.cell 2;have z0:=kr.free 0;have z1:=kr.free 1;have z2:=kr.free 2;simp at y0 y1 y2;have Q0:=ae (hblk.cell 0);have Q1:=ae (hblk.cell 1);have Q2:=ae (hblk.cell 2);have Hbf:=ae hbf;have Hwf:=ae hwf;clear hwf hblk hbf;go_wp2_with fail;rw[<- Hwf.out];have q0:=Q0.out;have q1:=Q1.out;have q2:=Q2.out;simp at q0 q1 q2;refine bodyPost_ret (v:=.tuple #[nilV,.slice none 0 0,.int .i64 1]) (by simp[results,Tryz.results102,go_sem,q0,q1,q2,nilV]) rfl ⟨.inr (.inl ⟨Hok.out,Hal.out,rfl⟩),Hbf.out⟩
   by_cases hd8:d ≥ 8
   ·have Hal:=ae (show allowedR d l=false by unfold allowedR;simp;omega);obtain⟨wf,hwf,hblk,hbf⟩:=fin3 kr hbel (Nat.le_succ _) (.slice none 0 0) (.slice none 0 0) (.slice none 0 0);have y0:=kr.cell 0;have y1:=kr.cell 1;have y2:=kr.cell 2;have z0:=kr.free 0;have z1:=kr.free 1;have z2:=kr.free 2;simp at y0 y1 y2;have Q0:=ae (hblk.cell 0);have Q1:=ae (hblk.cell 1);have Q2:=ae (hblk.cell 2);have Hbf:=ae hbf;have Hwf:=ae hwf;clear hwf hblk hbf;go_wp2_with fail;rw[<- Hwf.out];have q0:=Q0.out;have q1:=Q1.out;have q2:=Q2.out;simp at q0 q1 q2;refine bodyPost_ret (v:=.tuple #[nilV,.slice none 0 0,.int .i64 1]) (by simp[results,Tryz.results102,go_sem,q0,q1,q2,nilV]) rfl ⟨.inr (.inl ⟨Hok.out,Hal.out,rfl⟩),Hbf.out⟩
   have hd8':¬ d ≥ 8:=hd8;have HCl:=ae (cloneS_any w5 _ (.slice sa nl cs) (sortK l) (by rw[Hsl.out];exact Rows.of_owns Hos.out) (by rw[Hsl.out];exact hl));clear kr hbel;go_wp2_with fail;refine HCl.out.mono ?_;rintro e w6 ⟨c6,rfl,ho6,hb6⟩;have hL6:Below w2.heap.size w2 w6:=HL5.out.trans (hb6.mono HL5.out.size);have HL6:=ae hL6;have Hos6:=ae (bc Hos.out hb6);have hcmp:=compact_any w6 w5.heap.size c6 (sortK l) ho6 (by rw[Hsl.out];exact hl) (by omega) w5.heap.size (aq _) hb6.size;obtain⟨a6,d6,rfl⟩:=own_shape ho6;rw[Hsl.out] at hcmp ⊢
   obtain⟨nc,hnc⟩:∃ nc,(Lib.compact (sortK l)).length=nc:=⟨_,rfl⟩
   rw[hnc] at hcmp;have HCm:=ae hcmp;have Hnc:=ae hnc;have Hb6:=ae hb6;clear HCl hL6 hb6 ho6 hcmp hnc;go_wp2_with fail;refine HCm.out.mono ?_;rintro e w7 ⟨⟨a7,c7,rfl⟩,hb7⟩;have hL7:Below w2.heap.size w2 w7:=HL6.out.trans (hb7.mono HL5.out.size);have HL7:=ae hL7;have kr:=(HK.out w7 hL7).2.2.1;have hbel:=(HK.out w7 hL7).1
   have hcn:nc=nl↔l.Nodup:=by
    have:=compact_nodup l;rw[Hnc.out,Hnl.out] at this;exact this
   have Hos7:=ae (show w7.ownsRow w4.heap.size 9 1 (.slice sa nl cs) nl ((sortK l).map eS) from bc Hos.out (Hb6.out.trans hb7));clear HCm Hos
   by_cases hnn:nc=nl
   case neg=>
    have hI:¬ (nc:Int)=(nl:Int):=by omega
    have hI2:((nc:Int) != (nl:Int))=true:=by simp;omega
    have Hal:=ae (show allowedR d l=false by
     unfold allowedR;rw[decide_eq_false (p:=l.Nodup) (fun h=>hnn (hcn.2 h))]
     simp)
    clear hcn hnn;obtain⟨wf,hwf,hblk,hbf⟩:=fin3 kr hbel (Nat.le_succ _) (.slice none 0 0) (.slice none 0 0) (.slice none 0 0);have y0:=kr.cell 0;have y1:=kr.cell 1;have y2:=kr.cell 2;have z0:=kr.free 0;have z1:=kr.free 1;have z2:=kr.free 2;simp at y0 y1 y2;have Q0:=ae (hblk.cell 0);have Q1:=ae (hblk.cell 1);have Q2:=ae (hblk.cell 2);have Hbf:=ae hbf;have Hwf:=ae hwf;clear hwf hblk hbf;go_wp2_with fail;rw[<- Hwf.out];have q0:=Q0.out;have q1:=Q1.out;have q2:=Q2.out;simp at q0 q1 q2;refine bodyPost_ret (v:=.tuple #[nilV,.slice none 0 0,.int .i64 1]) (by simp[results,Tryz.results102,go_sem,q0,q1,q2,nilV]) rfl ⟨.inr (.inl ⟨Hok.out,Hal.out,rfl⟩),Hbf.out⟩
   have Hnd:=ae (hcn.1 hnn);subst hnn;clear hcn hb7
   obtain⟨kk,hkk⟩:∃ kk,(sortK l).all ec=kk:=⟨_,rfl⟩
   have Hkk:=ae (show l.all ec=kk by
    rw[<- hkk,Bool.eq_iff_iff,List.all_eq_true,List.all_eq_true]
    exact⟨fun h x hx=>h x ((sortK_perm l).mem_iff.1 hx),fun h x hx=>h x ((sortK_perm l).mem_iff.2 hx)⟩)
   have hcb:=containsBad_any w7 (HT.out w7 hL7).1 (HT.out w7 hL7).2 _ (.slice sa nc cs) (sortK l) (by rw[Hsl.out];exact Rows.of_owns Hos7.out) (by rw[Hsl.out];exact hl) (fun k hk=>Hk.out k ((sortK_perm l).mem_iff.1 hk));rw[hkk] at hcb;have HCb:=ae hcb;clear hcb hkk kr hbel;go_wp2_with fail;refine HCb.out.mono ?_;rintro e w8 ⟨rfl,hb8⟩;have hL8:Below w2.heap.size w2 w8:=HL7.out.trans (hb8.mono HL7.out.size);have HL8:=ae hL8;have kr:=(HK.out w8 hL8).2.2.1;have hbel:=(HK.out w8 hL8).1;have Hos8:=ae (bc Hos7.out hb8);clear HCb hb8;cases kk with
   | false=>
     have Hal:=ae (show allowedR d l=false by unfold allowedR;rw[Hkk.out];simp);obtain⟨wf,hwf,hblk,hbf⟩:=fin3 kr hbel (Nat.le_succ _) (.slice none 0 0) (.slice none 0 0) (.slice none 0 0);have y0:=kr.cell 0;have y1:=kr.cell 1;have y2:=kr.cell 2;have z0:=kr.free 0;have z1:=kr.free 1;have z2:=kr.free 2;simp at y0 y1 y2;have Q0:=ae (hblk.cell 0);have Q1:=ae (hblk.cell 1);have Q2:=ae (hblk.cell 2);have Hbf:=ae hbf;have Hwf:=ae hwf;clear hwf hblk hbf;go_wp2_with fail;rw[<- Hwf.out];have q0:=Q0.out;have q1:=Q1.out;have q2:=Q2.out;simp at q0 q1 q2;refine bodyPost_ret (v:=.tuple #[nilV,.slice none 0 0,.int .i64 1]) (by simp[results,Tryz.results102,go_sem,q0,q1,q2,nilV]) rfl ⟨.inr (.inl ⟨Hok.out,Hal.out,rfl⟩),Hbf.out⟩
   | true=>
     have Hal:=ae (show allowedR d l=true by
      unfold allowedR;rw[Hkk.out,decide_eq_true Hnd.out];simp
      omega)
     have km:=(HK.out w8 hL8).2.1;have d0:=km.cell 0;have d1:=km.cell 1;have d2:=km.cell 2;simp at d0 d1 d2;have f:=valid_formed Hok.out;have HCo:=ae (j5 w8 _ (.agg #[.slice a1 n1 p1,.slice a2 n2 p2,.slice a3 n3 p3]) m ⟨_,_,_,rfl,(HK.out w8 hL8).2.2.2.1⟩ (by rw[f.len];omega) (by rw[Hn2.out];exact hl2) (by rw[Hn3.out];exact hl3));have Hf:=ae f;clear f hL8 km hbel kr;go_wp2_with fail;refine HCo.out.mono ?_;rintro e w9 ⟨⟨r9,rfl,s1,s2,s3,rfl,ho9⟩,hb9⟩;have hL9:Below w2.heap.size w2 w9:=HL8.out.trans (hb9.mono HL8.out.size);obtain⟨b1,c1,hs1⟩:=own_shape ho9.seen;obtain⟨b2,c2,hs2⟩:=own_shape ho9.items;obtain⟨b3,c3,hs3⟩:=own_shape ho9.gone;rw[Hn1.out] at hs1;rw[Hn2.out] at hs2;rw[Hn3.out] at hs3;subst hs1 hs2 hs3;have Hos9:=ae (bc Hos8.out hb9)
     obtain⟨g,rfl⟩:∃ g,b1=some ⟨g,0,none⟩:=by
      rcases ho9.seen.2 with ⟨_,h0⟩ | ⟨g,cap,cur,hv,_⟩
      ·have:=Hf.out.len;omega
      ·simp at hv;exact⟨g,hv.1⟩
     obtain⟨q,rfl⟩:=Int.eq_ofNat_of_zero_le (show 0 <= d by omega);have hq:q < m.seen.length:=by have:=Hf.out.len;omega
     obtain⟨x,hx⟩:∃ x,m.seen[q]=x:=⟨_,rfl⟩
     obtain⟨hx0,hx1⟩:=Hf.out.seen x (by rw[<- hx];exact aA hq);have ho1:=ho9.seen;rw[Hn1.out] at ho1
     have e0:w9.cell? ⟨g,q,none⟩=some (.int .i64 x):=by
      rw[ho1.cellAt q (by rw[<- Hn1.out];omega)];simp[hq,hx]
     have f0:=ho1.frozenAt q;have hqI:(q:Int) < (n1:Int):=by rw[<- Hn1.out];omega
     obtain⟨hst,hgr⟩:=ho1.stored q (.int .i64 (x+1))
     have hglt:w8.heap.size <= g /\ g < w9.heap.size:=by
      rcases ho1.2 with ⟨hh,_⟩ | ⟨g',cap,cur,hv,hb,hg,_⟩
      ·simp at hh
      ·simp at hv;obtain⟨rfl,-⟩:=hv;exact⟨hb,lt_of_block hg⟩
     obtain⟨hg1,hg2⟩:=hglt;have kr:=(HK.out w9 hL9).2.2.1;have y0:=kr.cell 0;have y1:=kr.cell 1;have y2:=kr.cell 2;have z0:=kr.free 0;have z1:=kr.free 1;have z2:=kr.free 2;simp at y0 y1 y2;have hw8:=(HK.out w8 HL8.out).1.size;have hz8:=HL8.out.size;have hz2':=Hz2.out;have hne1:g≠w.heap.size+1:=by omega
     have hne2:g≠w9.heap.size:=by omega
     have hlt9:w.heap.size+1 < w9.heap.size:=by omega
     have Hst:=ae hst;have Hgr:=ae hgr;have Ho9:=ae ho9;have HL9:=ae hL9;have Hx:=ae hx;have Hkr:=ae kr;clear hst hgr ho9 ho1 hL9 hx kr hb9 HCo hw8 hz8 hz2';go_wp2_with fail
     obtain⟨w10,hw10⟩:∃ w10,w10=w9.setCell ⟨g,q,none⟩ (.int .i64 (x+1)):=⟨_,rfl⟩
     rw[<- hw10]
     have hb10:Below w.heap.size w w10:=by
      rw[hw10];exact(HK.out w9 HL9.out).1.setCell (by have:=(HK.out w8 HL8.out).1.size;show w.heap.size <= g;omega) _
     have kr10:Blk w10 (w.heap.size+1) [.slice none 0 0,.slice none 0 0,.slice none 0 0] 37:=by
      rw[hw10];exact Hkr.out.set_other _ (by show w.heap.size+1≠g;omega)
     obtain⟨wf,hwf,hblk,hbf⟩:=fin3 kr10 hb10 (Nat.le_succ _) (.slice (some ⟨g,0,none⟩) n1 c1) (.slice b2 n2 c2) (.slice b3 n3 c3);have hsz8:w.heap.size <= w8.heap.size:=(HK.out w8 HL8.out).1.size;have hsz4:w.heap.size <= w4.heap.size:=(HK.out w4 HL4.out).1.size;have hgr10:w9.grownBy w10 (some g):=by rw[hw10];exact Hgr.out
     have hown10:cD w10 w.heap.size (.slice (some ⟨g,0,none⟩) n1 c1) (.slice b2 n2 c2) (.slice b3 n3 c3) ⟨seenUp m q,m.items,m.gone⟩:=by
      refine⟨?_,own_base (cN Ho9.out.items Ho9.out.seen (by decide) hgr10) hsz8,own_base (cN Ho9.out.gone Ho9.out.seen (by decide) hgr10) hsz8⟩;have h1:=own_base Hst.out hsz8;rw[<- hw10] at h1;have h2:(seenUp m q).length=n1:=by unfold seenUp;simp;exact Hn1.out
      have h3:(seenUp m q).map eI=(m.seen.map eI).set q (.int .i64 (x+1)):=by
       unfold seenUp;rw[List.map_set,Int.toNat_natCast,List.getD_eq_getElem?_getD,List.getElem?_eq_getElem hq,Hx.out];rfl
      show w10.ownsRow w.heap.size 3 1 _ (seenUp m q).length ((seenUp m q).map eI);rw[h2,h3];exact h1
     have hos10:w10.ownsRow w.heap.size 9 1 (.slice sa nc cs) nc ((sortK l).map eS):=own_base (cN Hos9.out Ho9.out.seen (by decide) hgr10) hsz4
     have hownf:cD wf w.heap.size (.slice (some ⟨g,0,none⟩) n1 c1) (.slice b2 n2 c2) (.slice b3 n3 c3) ⟨seenUp m q,m.items,m.gone⟩:=by
      rw[hwf];exact((hown10.setCell kr10 _).setCell (kr10.set 0 _) _).setCell ((kr10.set 0 _).set 1 _) _
     have hosf:wf.ownsRow w.heap.size 9 1 (.slice sa nc cs) nc ((sortK l).map eS):=by
      rw[hwf];exact aS (aS (aS hos10 kr10 (by decide) _) (kr10.set 0 _) (by decide) _) ((kr10.set 0 _).set 1 _) (by decide) _
     rw[<- hwf];have hbA:=aE wf (.cells #[.slice (some ⟨g,0,none⟩) n1 c1,.slice b2 n2 c2,.slice b3 n3 c3] 37);have hkA:=hblk.keep (hbA.block _ hblk.lt);have q0:=hkA.cell 0;have q1:=hkA.cell 1;have q2:=hkA.cell 2;simp at q0 q1 q2
     refine bodyPost_ret (v:=.tuple #[.agg #[.slice (some ⟨g,0,none⟩) n1 c1,.slice b2 n2 c2,.slice b3 n3 c3],.slice sa nc cs,.int .i64 0]) (by simp[results,Tryz.results102,go_sem,q0,q1,q2]) rfl
      ⟨.inr (.inr ⟨Hok.out,Hal.out,_,_,rfl,⟨_,_,_,rfl,hownf.below hbA⟩,by rw[Hnl.out];exact bc hosf hbA⟩),hbf.trans (hbA.mono hbf.size)⟩
end Go.Proofs.YtobjdpngnfbicaaGreatDoor
namespace Go.Proofs.YtobjdpngnfbicaaGreatDoor
open Go.RowKit
set_option linter.unusedVariables false
set_option maxRecDepth 20000
theorem jr (v:Int) (w:World):
 Calls aC 194 #[.int .i64 v] w fun e w'=>e=.returned (.int .i64 (DM.bnd v)) /\ w=w':=by
 go_enter Tryz.func194,Tryz.ntmps194
 go_wp2
 all_goals (go_ret;refine⟨eY ?_,rfl⟩;unfold DM.bnd;(try split at *) <;> omega)
theorem j6 (v l n:Int) (bl bn:Nat) (w:World) (hl:cX w bl (.int .i64 l) 3) (hn:cX w bn (.int .i64 n) 3) (hne:bl≠bn) (hn1:1 <= n) (hn2:n <= 9223372036854775807):
 Calls aC 196 #[.int .i64 v,.pointer (some ⟨bl,0,none⟩),.pointer (some ⟨bn,0,none⟩)] w fun e w'=>
  e=.returned (.bool (decide (1 < n))) /\ w'=(w.setCell ⟨bl,0,none⟩ (.int .i64 v)).setCell ⟨bn,0,none⟩ (.int .i64 (n - 1)):=by
 have c1:=hl.cell;have c2:=hn.cell;have f1:=hl.free;have f2:=hn.free
 go_enter Tryz.func196,Tryz.ntmps196
 go_wp2
 go_ret
 exact⟨rfl,rfl⟩
def sL (w0:World) (bl bn:Nat) (v:Int) (n:Int) (u:Value) (wr:World):Prop:=
 ∃ k:Nat,(k:Int) < n /\ u=.int .i64 (DM.aft k v) /\ cX wr bl (.int .i64 (DM.aft k v)) 3 /\ cX wr bn (.int .i64 (n - k)) 3 /\ (∀ B,B <= bl -> B <= bn -> Below B w0 wr)
theorem oL (v n:Int) (bl bn:Nat) (w:World) (hl:cX w bl (.int .i64 v) 3) (hn:cX w bn (.int .i64 n) 3) (hne:bl≠bn) (hn1:1 <= n) (hn2:n <= 9223372036854775807)
 (hv1:0 <= v) (hv2:v <= 1099511627776):
 Calls aC 195 #[.int .i64 v,.func (.func 196) #[] #[.pointer (some ⟨bl,0,none⟩),.pointer (some ⟨bn,0,none⟩)]] w fun e w'=>
  e=.returned (.tuple #[]) /\ cX w' bl (.int .i64 (DM.aft n.toNat v)) 3 /\ (∀ B,B <= bl -> B <= bn -> Below B w w'):=by
 go_enter Tryz.func195,Tryz.ntmps195
 go_wp2_with fail
 go_loopw [0] (fun u wr=>sL w bl bn v n u wr) (fun u _=>(intOf u).toNat)
 case atStart=>exact⟨0,by omega,rfl,hl,by simpa using hn,fun B _ _=>Below.refl _ _⟩
 case round=>
  obtain⟨k,hk,rfl,hl',hn',hb⟩:=hrel;have h0:=DM.aft_nonneg k v hv1;have h1:=DM.aft_le k v hv1;generalize hx:DM.aft k v=x at *;have Hx:=ae hx;clear hx
  by_cases hp:0 < x
  ·have hs:=DM.stp_lt x hp;have hs0:=DM.stp_nonneg x h0;have ha:DM.aft (k+1) v=DM.stp x:=by rw[DM.aft_succ',Hx.out,if_pos hp]
   have Ha:=ae ha;clear ha;have hst:x - (x+255) / 256=DM.stp x:=rfl
   by_cases hlast:1 < n - k
   ·have hd:decide (1 < n - (k:Int))=true:=by simpa using hlast
    go_wp2_with (go_at_call 196;refine(j6 _ x (n - k) bl bn wr hl' hn' hne (by omega) (by omega)).mono ?_;rintro e w' ⟨rfl,rfl⟩)
    go_roundw
    case rel=>exact⟨k+1,by omega,by rw[Ha.out],by rw[Ha.out];exact(hl'.set).other _ hne,by rw[show n - ((k+1:Nat):Int)=n - k - 1 from by omega];exact(hn'.other _ hne.symm).set,fun B h1 h2=>((hb B h1 h2).setCell h1 _).setCell h2 _⟩
    case measure=>simp[intOf];omega
   ·have hd:decide (1 < n - (k:Int))=false:=by simpa using hlast
    go_wp2_with (go_at_call 196;refine(j6 _ x (n - k) bl bn wr hl' hn' hne (by omega) (by omega)).mono ?_;rintro e w' ⟨rfl,rfl⟩);refine bodyPost_ret (results_none rfl _ _ _) rfl ?_;refine⟨rfl,?_,fun B h1 h2=>((hb B h1 h2).setCell h1 _).setCell h2 _⟩;rw[show n.toNat=k+1 from by omega,Ha.out];exact(hl'.set).other _ hne
  ·have hz:DM.aft n.toNat v=x:=by
    obtain⟨j,hj⟩:∃ j,n.toNat=k+j:=⟨n.toNat - k,by omega⟩
    rw[hj,<- DM.aft_add,Hx.out,DM.aft_zero_of _ _ hp]
   have Hz:=ae hz;clear hz
   go_wp2
   go_end0
   exact⟨rfl,by rw[Hz.out];exact hl',hb⟩
theorem lA (v n:Int) (w:World) (hn2:n <= 9223372036854775807):
 Calls aC 144 #[.int .i64 v,.int .i64 n] w fun e w'=>e=.returned (.int .i64 (DM.aft n.toNat (DM.bnd v))) /\ Below w.heap.size w w':=by
 have b0:=DM.bnd_nonneg v;have b1:=DM.bnd_le v
 by_cases hn:n <= 0
 ·go_enter Tryz.func144,Tryz.ntmps144
  go_wp2_with (go_at_call 194;refine(jr _ _).mono ?_;rintro e w' ⟨rfl,rfl⟩)
  go_ret
  exact⟨eY (by rw[show n.toNat=0 from by omega];rfl),(Below.refl _ _).alloc (aq _) _⟩
 ·generalize hx:DM.bnd v=x at *;have Hx:=ae hx;clear hx
  go_enter Tryz.func144,Tryz.ntmps144
  go_wp2_with fail;refine(jr _ _).mono ?_;rintro e w' ⟨rfl,rfl⟩;rw[Hx.out];go_wp2_with fail;refine(oL x n (w.heap.size+1) w.heap.size _ (by simpa using cX.new (w.alloc (.cells #[.int .i64 n] 3)) (.int .i64 x) 3) ((cX.new w _ _).alloc _) (by omega) (by omega) hn2 b0 b1).mono ?_;rintro e w' ⟨rfl,hl,hb⟩;have hb':=hb w.heap.size (by omega) (by omega);have c1:=hl.cell;have f1:=hl.free;go_wp2_with fail
  go_ret
  exact⟨rfl,(((Below.refl _ _).alloc (aq _) _).alloc (by simp) _).trans hb'⟩
theorem sM (v n:Int) (w:World) (hn2:n <= 9223372036854775807):
 Calls aC 106 #[.int .i64 v,.int .i64 n] w fun e w'=>e=.returned (.int .i64 (DM.aft n.toNat (DM.bnd v)+65536)) /\ Below w.heap.size w w':=by
 have b0:=DM.bnd_nonneg v;have b1:=DM.bnd_le v;have a0:=DM.aft_nonneg n.toNat (DM.bnd v) b0;have a1:=DM.aft_le n.toNat (DM.bnd v) b0;generalize hx:DM.aft n.toNat (DM.bnd v)=x at *;have Hx:=ae hx;clear hx
 go_enter Tryz.func106,Tryz.ntmps106
 go_wp2_with fail;refine(lA _ _ _ hn2).mono ?_;rintro e w' ⟨rfl,hb⟩;rw[Hx.out];go_wp2_with fail
 go_ret
 exact⟨rfl,hb⟩
end Go.Proofs.YtobjdpngnfbicaaGreatDoor
