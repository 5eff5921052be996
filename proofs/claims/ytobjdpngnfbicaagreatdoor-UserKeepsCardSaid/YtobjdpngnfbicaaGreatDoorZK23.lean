/-
  J8 J9 UMem JL1 JL2 JL3
-/
import Derived.Test.YtobjdpngnfbicaaGreatDoorZK22
import Derived.Test.YtobjdpngnfbicaaGreatDoorZK18
import Derived.Test.YtobjdpngnfbicaaGreatDoorZK08
import Derived.Test.YtobjdpngnfbicaaGreatDoorZK13
import Derived.Lib.SlBytesConst
open Go.Lib renaming hid->ae
open Nat renaming le_refl->aq,lt_of_lt_of_le->aw
open List renaming getElem_mem->aA
open Go.Proofs.Tryz renaming prog->aC
namespace Go.Proofs.YtobjdpngnfbicaaGreatDoor
open Go.RowKit
set_option linter.unusedVariables false
set_option maxRecDepth 20000
section
attribute [local go_sem ↓] bq
attribute [local go_sem] opC upC
theorem bX.elem {R:aV} {w:World} {lo:Nat} {v:Value} {S:List (List UInt8)} (h:bX R w lo v S) (i:Nat) (hi:i < S.length):
 ∃ g cap x,v=.slice (some ⟨g,0,none⟩) S.length cap /\ Bytes R w x S[i] /\ w.cell? ⟨g,i,none⟩=some x:=by
 obtain⟨vals,hown,hv,hR⟩:=h;obtain⟨x,hx,hb⟩:=hv i hi;rcases hown.2 with ⟨rfl,h0⟩ | ⟨g,cap,cur,rfl,hlo,hg,hc,hm,hs,ht⟩
 ·omega
 ·refine⟨g,cap,x,rfl,hb,?_⟩;have:(cur.toList.take (S.length * 1))[i]?=vals[i]?:=by rw[ht]
  rw[List.getElem?_take,if_pos (by omega),hx] at this;unfold World.cell?;simpa[hg] using this
set_option maxHeartbeats 1000000 in
theorem nK (w:World) (jb kd g taken:Nat) (rv:Value) (dead:Bool) (hj:cM w jb kd g rv taken dead) (R:aV) (L:List (List UInt8)) (hr:bX R w 0 rv L) (hL:L.length <= 65536) (hlens:∀ b ∈ L,b.length <= 65536):
 Calls aC 49 #[.pointer (some ⟨jb,0,none⟩)] w fun e w'=>∃ r R',e=.returned r /\ bX R' w' w.heap.size r L /\ (∀ b,R' b -> w.heap.size <= b /\ b < w'.heap.size) /\ Below w.heap.size w w':=by
 have c2:=hj.cell 2;simp at c2;obtain⟨aR,cR,rfl,hcR,hmR⟩:=hr.shape;have hLI:(L.length:Int) <= 65536:=by omega
 go_enter Tryz.func49,Tryz.ntmps49
 go_wp2_with fail
 go_loopw [3,13] (fun v i wr=>∃ k R',k <= L.length /\ i=.int .i64 (k:Int) /\ bX R' wr w.heap.size v (L.take k) /\ (∀ b,R' b -> w.heap.size <= b /\ b < wr.heap.size) /\ Below w.heap.size w wr) (fun _ i _=>L.length - (intOf i).toNat)
 case atStart=>exact⟨0,none_,by omega,rfl,by simpa using bX.nil w w.heap.size,fun b hb=>hb.elim,Below.refl _ _⟩
 case round=>
  obtain⟨k,R',hk,rfl,hrow,hR',hbw⟩:=hrel
  by_cases hkl:k < L.length
  ·have hklI:(k:Int) < (L.length:Int):=by omega
   have hrw:=hr.kept hbw;obtain⟨gg,cap,x,hv,hbx,hcell⟩:=hrw.elem k hkl;simp at hv;obtain⟨rfl,rfl⟩:=hv;have hlk:(L.take k).length=k:=by simp;omega
   obtain⟨a1,c1,rfl,hc1,hm1⟩:=hrow.shape;rw[hlk] at hc1 hrow;have hll:=hlens L[k] (aA hkl);rw[hlk];go_wp2_with fail;refine(gS wr R x L[k] hbx (by omega)).mono ?_;rintro e w1 ⟨r,rfl,hr1,hb1⟩;have hby:=il hr1
   obtain⟨a2,c2',rfl,-,-⟩:∃ a cap,r=.slice a L[k].length cap /\ L[k].length <= cap /\ cap <= maxLen:=by
    obtain⟨a,cap,h,h1,h2,-⟩:=hby;exact⟨a,cap,h,h1,h2⟩
   have hrow1:=hrow.kept hb1;obtain⟨a',c',w2,hap,hrows2,hg2⟩:=hrow1.append hby (fun b hb=>hb.2.2) (by simp;omega) (by have:=hb1.size;have:=hbw.size;omega);rw[hlk] at hap hrows2;have hb2:Below w.heap.size w w2:=(Below.alloc (hbw.trans (hb1.mono hbw.size)) (by have:=hb1.size;have:=hbw.size;omega) _).grown hg2 (by have:=hb1.size;have:=hbw.size;simp;omega) (fun q hq=>((hrow1.own hq).1));have hs2:=hg2.size;simp at hs2;have htk:L.take k ++ [L[k]]=L.take (k+1):=by rw[List.take_succ_eq_append_getElem hkl]
   rw[htk] at hrows2;have Hrows2:=ae hrows2;have Hb2:=ae hb2;have hbs:=hbw.size;have hb1s:=hb1.size;clear hrows2 hb2 hrow1 hrow hrw hby hr1 hg2 hcell hbx;go_wp2_with fail
   go_roundw
   case rel=>exact⟨k+1,_,by omega,by go_num,Hrows2.out,fun b hb=>by
    rcases hb with hb | hb
    ·have:=hR' b hb;omega
    ·have:=hb.1;have:=hb.2.1;omega,Hb2.out⟩
   case measure=>simp[intOf];omega
  ·have hklI:¬ (k:Int) < (L.length:Int):=by omega
   have hkl':k=L.length:=by omega
   subst hkl';rw[List.take_length] at hrow;go_wp2_with fail
   go_ret
   exact⟨_,rfl,R',hrow,hR',hbw⟩
theorem rJ (w:World) (jb kd g taken:Nat) (rv:Value) (dead:Bool) (K:DK) (M:MD) (hj:cM w jb kd g rv taken dead) (hd:bj w K M) (hK:K.d=kd) (h2:2 <= M.S.length) (ht:taken <= aT M.S.length):
 Calls aC 137 #[.pointer (some ⟨jb,0,none⟩)] w fun e w'=>e=.returned (.int .i64 (if aT M.S.length - taken < 1 then -1 else min (48 * ((aT M.S.length - taken:Nat):Int)) 65536)) /\ ∃ n,w.drewN n=w':=by
 have hle:=hd.le;have hh:aT M.S.length - taken <= 65536:=by unfold aT;omega
 have hfree:∀ n,Calls aC 89 #[.pointer (some ⟨jb,0,none⟩)] (w.drewN n) fun e w'=>e=.returned (.int .i64 ((aT M.S.length - taken:Nat):Int)) /\ ∃ m,(w.drewN n).drewN m=w':=fun n=>
  kj (w.drewN n) jb kd g rv taken dead K M (hj.keep rfl) (hd.keep fun _ _=>rfl) hK h2 ht
 have hfree0:Calls aC 89 #[.pointer (some ⟨jb,0,none⟩)] w fun e w'=>e=.returned (.int .i64 ((aT M.S.length - taken:Nat):Int)) /\ ∃ m,w.drewN m=w':=kj w jb kd g rv taken dead K M hj hd hK h2 ht
 generalize aT M.S.length - taken=f at *;have Hf:=ae hfree;have Hf0:=ae hfree0;clear hfree hfree0;have hfI:(f:Int) <= 65536:=by omega
 by_cases h1:f < 1
 ·have h1I:(f:Int) < 1:=by omega
  rw[if_pos h1]
  go_enter Tryz.func137,Tryz.ntmps137
  go_wp2_with fail;refine Hf0.out.mono ?_;rintro e w1 ⟨rfl,n,rfl⟩;go_wp2_with fail
  go_ret
  exact⟨rfl,n,rfl⟩
 ·have h1I:¬ (f:Int) < 1:=by omega
  rw[if_neg h1]
  go_enter Tryz.func137,Tryz.ntmps137
  go_wp2_with fail;refine Hf0.out.mono ?_;rintro e w1 ⟨rfl,n,rfl⟩;go_wp2_with fail;refine(Hf.out n).mono ?_;rintro e w1 ⟨rfl,m,rfl⟩;go_wp2_with fail
  all_goals
   go_ret
   exact⟨eY (by omega),n+m,by first | rfl | (simp[World.drewN];done) | (simp[World.drewN];omega)⟩
theorem rK (w:World) (jb kd g taken:Nat) (rv:Value) (dead:Bool) (hj:cM w jb kd g rv taken dead):
 Calls aC 60 #[.pointer (some ⟨jb,0,none⟩)] w fun e w'=>e=.returned (.bool dead) /\ w=w':=by
 have c4:=hj.cell 4;simp at c4
 go_enter Tryz.func60,Tryz.ntmps60
 go_wp2_with fail
 go_ret
 exact⟨rfl,rfl⟩
theorem rL (w:World) (v:Value) (n:Int):
 Calls aC 88 #[.pointer none,v,.int .i64 n] w fun e w'=>e=.returned (.int .i64 9) /\ w=w':=by
 go_enter Tryz.func88,Tryz.ntmps88
 go_wp2_with fail
 go_ret
 exact⟨rfl,rfl⟩
theorem append_nil (w:World) (v:Value):
 Calls aC 44 #[.pointer none,v] w fun e w'=>e=.returned (.int .i64 9) /\ w=w':=by
 have hf:=ae (rF w);have hc:=ae (rL w v 0)
 go_enter Tryz.func44,Tryz.ntmps44
 go_wp2_with fail;refine hf.out.mono ?_;rintro e w' ⟨rfl,rfl⟩;go_wp2_with fail;refine hc.out.mono ?_;rintro e w' ⟨rfl,rfl⟩;go_wp2_with fail
 go_ret
 exact⟨rfl,rfl⟩
end
section
attribute [local go_sem] opC upC
theorem iJ (h:Bool) (old:Value):Instr.alloc 137 h old=AL 137 h old:=rfl
attribute [local go_sem ↓] iJ
theorem ld (w:World):(AL 137 true (.tuple #[])).run aC w=.ok (.pointer (some ⟨w.heap.size,0,none⟩)) (w.alloc (.cells (dw.map B).toArray 137)):=by kernel_rfl
def dN (n:Nat):List (Nat × List UInt8):=(List.range n).map fun i=>(i,List.replicate 64 0)
theorem g9 (n:Nat):(dN n).length=n:=by simp[dN]
theorem nM (n i:Nat) (h:i < n):(dN n).take (i+1)=(dN n).take i ++ [(i,List.replicate 64 0)]:=by
 rw[List.take_succ_eq_append_getElem (by rw[g9];exact h)];simp[dN]
theorem ju (M:MD):cB M=aY M (dN M.S.length ++ [(0,bZ 0)]):=rfl
set_option maxHeartbeats 2000000 in
theorem o4 (w:World) (K:DK) (M:MD) (hd:bj w K M) (h8:8 <= M.S.length) (hq:bQ w) (h00:¬ K.foot 0) (hw:M.writes+65540 < 4611686018427387904):
 Calls aC 43 #[.pointer (some ⟨K.d,0,none⟩)] w fun e w'=>∃ K',K'.d=K.d /\ (∀ b,K'.foot b -> K.foot b) /\ aK K.foot w w' /\
  (((cB M).2=0 /\ ∃ jb,e=.returned (.tuple #[.pointer (some ⟨jb,0,none⟩),.int .i64 0]) /\ w.heap.size <= jb /\ JAt w' ⟨jb,K',none_⟩ (cB M).1 ⟨0,[],false⟩) \/
   ((cB M).2≠0 /\ e=.returned (.tuple #[.pointer none,.int .i64 (cB M).2]) /\ bj w' K' (cB M).1)):=by
 have hle:=hd.le;have hc:=kh w K M hd;rw[if_neg (by omega)] at hc;have hal:=ld w
 obtain⟨w1,hw1⟩:∃ w1,w1=w.alloc (.cells (dw.map B).toArray 137):=⟨_,rfl⟩
 have hs1:Blk w1 w.heap.size (List.replicate 64 (B 0)) 137:=by rw[hw1];have:=(SecAt.new w dw eh).1;simpa[dw] using this
 have hk1:Below w.heap.size w w1:=by rw[hw1];exact aE _ _
 have hz1:w1.heap.size=w.heap.size+1:=by rw[hw1];simp
 have hd1:=hd.kept hk1;have ho1:aK K.foot w w1:=aK.of_below hk1;rw[<- hw1] at hal;clear hw1;have hKlt:=hd.lt;have hsz:=jT w1 K M hd1;have hq0:∀ w',aK K.foot w w' -> bQ w':=fun w' ho=>hq.keep (ho.block 0 (by obtain⟨t,fz,hh⟩:=hq;exact lt_of_block hh) h00)
 have h0lt:0 < w.heap.size:=by obtain⟨t,fz,hh⟩:=hq;exact lt_of_block hh
 rw[ju]
 obtain⟨ws,hws⟩:∃ ws,ws=dN M.S.length:=⟨_,rfl⟩
 have hwsl:ws.length=M.S.length:=by rw[hws,g9]
 have hwst:∀ i,i < M.S.length -> ws.take (i+1)=ws.take i ++ [(i,List.replicate 64 0)]:=fun i hi=>by rw[hws];exact nM _ i hi
 rw[<- hws];clear hws;generalize hn:M.S.length=n at *;have hnI:(n:Int) <= 65536:=by omega
 have Hc:=ae hc;have Hsz:=ae hsz;have Hwst:=ae hwst;clear hc hsz hwst
 go_enter Tryz.func43,Tryz.ntmps43
 go_wp2_with fail;refine Hc.out.mono ?_;rintro e w' ⟨rfl,rfl⟩;go_wp2_with fail;refine Hsz.out.mono ?_;rintro e w' ⟨rfl,rfl⟩;go_wp2_with fail
 go_loopw [16] (fun i wr=>∃ k K' M',k <= n /\ i=.int .i64 (k:Int) /\ K'.d=K.d /\ (∀ b,K'.foot b -> K.foot b) /\ bj wr K' M' /\ aY M (ws.take k)=(M',0) /\ Blk wr w.heap.size (List.replicate 64 (B 0)) 137 /\ aK K.foot w wr /\ M'.S.length=n /\ M'.writes <= M.writes+k) (fun i _=>n - (intOf i).toNat)
 case atStart=>exact⟨0,K,M,by omega,rfl,rfl,fun _ h=>h,hd1,rfl,hs1,ho1,hn,by omega⟩
 case round=>
  obtain⟨k,K',M',hk,rfl,hKd,hKf,hdW,hwa,hblk,honly,hlen,hwr⟩:=hrel;clear hd1 hs1 ho1 hal hk1
  by_cases hkl:k < n
  ·have hklI:(k:Int) < (n:Int):=by omega
   have hby:Bytes (fun b=>b=w.heap.size) wr (.slice (some ⟨w.heap.size,0,none⟩) 64 64) (List.replicate 64 0):=jH hblk _ rfl;have hwrc:=oS wr K' M' hdW k (by omega) (by omega) _ _ _ hby (by simp) (fun b e h=>by have:=hKlt b (hKf b h);omega);rw[hKd] at hwrc;have hsn:=e7 M (ws.take k) k (List.replicate 64 0) (by rw[hwa]);rw[<- Hwst.out k hkl,hwa] at hsn;have hwl:=ml M' k (List.replicate 64 0);generalize M'.wr k (List.replicate 64 0)=mq at *;obtain⟨M2,r⟩:=mq;dsimp only at hwrc hwl;have Hwrc:=ae hwrc;have Hsn:=ae hsn;clear hwrc hsn;go_wp2_with fail;refine Hwrc.out.mono ?_;rintro e w2 ⟨rfl,⟨K2,hK2,hKf2,hd2⟩,ho2,hs2⟩;have hon2:=honly.trans ho2 fun i hi=>.inl (hKf i hi)
   have hblk2:=hblk.keep (ho2.block _ hblk.lt fun h=>by have:=hKlt _ (hKf _ h);omega)
   by_cases hr:r=0
   ·subst hr;have Hd2:=ae hd2;have Hon2:=ae hon2;have Hb2:=ae hblk2;clear hd2 hon2 hblk2 hblk honly hdW;go_wp2_with fail
    go_roundw
    case rel=>exact⟨k+1,K2,M2,by omega,by go_num,by rw[hK2],fun b hb=>hKf b (hKf2 b hb),Hd2.out,Hsn.out,Hb2.out,Hon2.out,by omega,by omega⟩
    case measure=>simp[intOf];omega
   ·have hrb:(r != 0)=true:=bne_iff_ne.2 hr
    have hfail:aY M (ws ++ [(0,bZ 0)])=(M2,r):=by
     refine g8 M M2 r _ (k+1) ?_ hr;rw[List.take_append_of_le_length (by omega)];exact Hsn.out
    have Hd2:=ae hd2;have Hon2:=ae hon2;have Hfail:=ae hfail;clear hd2 hon2 hblk2 hblk honly hdW hfail;go_wp2_with fail;go_ret2;rw[Hfail.out];exact⟨K2,by rw[hK2],fun b hb=>hKf b (hKf2 b hb),Hon2.out,.inr ⟨hr,rfl,Hd2.out⟩⟩
  ·have hklI:¬ (k:Int) < (n:Int):=by omega
   have hkn:k=n:=by omega
   subst hkn;rw[List.take_of_length_le (by omega)] at hwa;have hhead:=nH wr (hq0 wr honly) (by have:=honly.size;omega) 0 (by omega);have hsnoc:=e7 M ws 0 (bZ 0) (by rw[hwa]);rw[hwa] at hsnoc;have Hhead:=ae hhead;have Hsnoc:=ae hsnoc;clear hhead hsnoc hblk;go_wp2_with fail;refine Hhead.out.mono ?_;rintro e w4 ⟨sb,rfl,hsb,hsec,hb4⟩;have hd4:=hdW.kept hb4;have hon4:aK K.foot w w4:=honly.trans (aK.of_below (F:=none_) hb4) fun i hi=>hi.elim
   have hwrc:=oS w4 K' M' hd4 0 (by omega) (by omega) _ _ _ hsec.bytes hsec.2 (fun b e h=>by have:=hKlt b (hKf b h);have:=honly.size;omega);rw[hKd] at hwrc;have hsn:=Hsnoc.out;have hwl:=ml M' 0 (bZ 0)
   try dsimp only at hsn
   generalize M'.wr 0 (bZ 0)=mq at *;obtain⟨M2,r⟩:=mq;dsimp only at hwrc hwl;have Hwrc:=ae hwrc;have Hsn2:=ae hsn;clear hwrc hsn Hsnoc;go_wp2_with fail;refine Hwrc.out.mono ?_;rintro e w2 ⟨rfl,⟨K2,hK2,hKf2,hd2⟩,ho2,hs2⟩;have hon2:=hon4.trans ho2 fun i hi=>.inl (hKf i hi)
   have Hd2:=ae hd2;have Hon2:=ae hon2;clear hd2 hon2 honly hdW hd4 hon4
   by_cases hr:r=0
   ·subst hr;go_wp2_with fail;go_ret2;rw[Hsn2.out];refine⟨K2,by rw[hK2],fun b hb=>hKf b (hKf2 b hb),Hon2.out.alloc _,.inl ⟨rfl,_,rfl,by have:=Hon2.out.size;omega,?_⟩⟩;refine⟨Hd2.out.kept (aE _ _),⟨none,0,none_,?_,bX.nil _ 0,fun b hb=>by rcases hb with hb | hb;exact absurd hb (by simp[Value.ownBlock]);exact hb.elim⟩,⟨fun h=>by have h1:=hKlt _ (hKf _ (hKf2 _ h));have:=Hon2.out.size;dsimp only at h1;omega,fun b hb=>hb.elim⟩,by show 8 <= M2.S.length;omega,by simp[aL],by simp,fun b hb=>by simp at hb⟩;have:=Blk.new w2 #[.pointer (some ⟨K.d,0,none⟩),.int .u32 0,.slice none 0 0,.int .i64 0,.bool false] 141;rw[hs2] at this;simpa[cM,aL,hK2] using this
   ·have hrb:(r != 0)=true:=bne_iff_ne.2 hr;go_wp2_with fail;go_ret2;rw[Hsn2.out];exact⟨K2,by rw[hK2],fun b hb=>hKf b (hKf2 b hb),Hon2.out,.inr ⟨hr,rfl,Hd2.out⟩⟩
end
def TJ (t:TypeId):Prop:=t=141 \/ t=88 \/ t=99 \/ t=101 \/ t=41 \/ t=5
def NJ (w:World):aV:=fun q=>∃ L t fz,w.heap[q]?=some (.cells L t fz) /\ ¬ TJ t /\ t≠93 /\ t≠37
def JT (w:World) (jk:JK):Prop:=∀ b,jk.all b -> ∃ L t fz,w.heap[b]?=some (.cells L t fz) /\ TJ t
theorem iK {w:World} {jk:JK} (h:JT w jk) {q:Nat} (hq:NJ w q):¬ jk.all q:=fun ha=>by
 obtain⟨L,t,fz,h1,h2,-⟩:=hq;obtain⟨L',t',fz',k1,k2⟩:=h q ha;rw[h1] at k1;injection k1 with k1
 injection k1 with _ k1
 subst k1;exact h2 k2
theorem lI {w:World} {jk:JK} (h:JT w jk) {q:Nat} {L:List Value} {t:TypeId} (hb:Blk w q L t) (ht:¬ TJ t):¬ jk.all q:=fun ha=>by
 obtain⟨L',t',fz',k1,k2⟩:=h q ha;unfold Blk at hb;rw[hb] at k1;injection k1 with k1
 injection k1 with _ k1
 subst k1;exact ht k2
theorem dz {w w':World} {q:Nat} (hq:NJ w q) (h:w'.heap[q]?=w.heap[q]?):NJ w' q:=by
 obtain⟨L,t,fz,h1,h2⟩:=hq;exact⟨L,t,fz,h.trans h1,h2⟩
theorem JT.keep {w w':World} {jk:JK} (h:JT w jk) (hk:∀ b,jk.all b -> w'.heap[b]?=w.heap[b]?):JT w' jk:=fun b hb=>by
 obtain⟨L,t,fz,h1,h2⟩:=h b hb;exact⟨L,t,fz,(hk b hb).trans h1,h2⟩
theorem JAt.slim {w:World} {jk:JK} {M:MD} {J:MJ} (h:JAt w jk M J):∃ jk',jk'.j=jk.j /\ jk'.K=jk.K /\ JAt w jk' M J /\ (∀ b,jk'.all b -> jk.all b) /\ JT w jk':=by
 obtain⟨hd,⟨ra,rc,R,h1,h2,h3⟩,⟨h4,h5⟩,h6,h7,h8,h9⟩:=h;refine⟨⟨jk.j,jk.K,fun b=>(Value.slice ra J.L.length rc).ownBlock=some b \/ R b⟩,rfl,rfl,⟨hd,⟨ra,rc,R,h1,h2,fun b hb=>hb⟩,⟨h4,fun b hb=>h5 b (h3 b hb)⟩,h6,h7,h8,h9⟩,?_,?_⟩
 ·rintro b (hb | hb | hb)
  ·exact .inl hb
  ·exact .inr (.inl hb)
  ·exact .inr (.inr (h3 b hb))
 ·rintro b (rfl | hb | hb)
  ·exact⟨_,_,_,h1,.inl rfl⟩
  ·obtain⟨-,-,⟨cap,-,-,m1⟩,⟨L,m2,-⟩,m3,m4⟩:=hd;rcases hb with rfl | rfl | rfl
   ·exact⟨_,_,_,m1,.inr (.inl rfl)⟩
   ·exact⟨_,_,_,m2,.inr (.inr (.inl rfl))⟩
   ·cases hf:M.fault with
    | none=>rw[m3 hf];exact⟨_,_,_,m1,.inr (.inl rfl)⟩
    | some p=>exact⟨_,_,_,(m4 p.1 p.2 (by rw[hf])).2.2,.inr (.inr (.inr (.inl rfl)))⟩
  ·rcases hb with hb | hb
   ·obtain⟨vals,ho,-,-⟩:=h2;obtain⟨cs,hc⟩:=ep ho hb;exact⟨_,_,_,hc,.inr (.inr (.inr (.inr (.inl rfl))))⟩
   ·obtain⟨vals,-,-,hR⟩:=h2;obtain⟨L,fz,hL⟩:=hR b hb;exact⟨_,_,_,hL,.inr (.inr (.inr (.inr (.inr rfl))))⟩
theorem o5:¬ TJ 3:=by unfold TJ;decide
theorem pT:¬ TJ 108:=by unfold TJ;decide
theorem pU:¬ TJ 111:=by unfold TJ;decide
theorem sU:¬ TJ 93:=by unfold TJ;decide
theorem ms {w:World} {base:Nat} {e:TypeId} {k n:Nat} {v:Value} {xs:List Value} (h:w.ownsRow base e k v n xs) (he:¬ TJ e) (hu:e≠93) (hm:e≠37):Rows (NJ w) w k v n xs:=by
 obtain⟨a,cap,rfl,q1,q2,q3,q4,q5⟩:=Rows.of_owns h;refine⟨a,cap,rfl,q1,q2,q3,q4,?_⟩;rcases q5 with h0 | ⟨b,off,L,t,fz,rfl,hb,hg,hle,hr⟩
 ·exact .inl h0
 ·refine .inr ⟨b,off,L,t,fz,rfl,?_,hg,hle,hr⟩;rcases h.2 with ⟨h0,_⟩ | ⟨g,cap',cur,hv,_,hh,_⟩
  ·simp at h0
  ·simp at hv;obtain⟨⟨rfl,-⟩,-⟩:=hv;exact⟨_,_,_,hh,he,hu,hm⟩
theorem cD.nj {w:World} {base:Nat} {s1 s2 s3:Value} {m:RMap} (h:cD w base s1 s2 s3 m) (hb:Bnd m):bJ (NJ w) w s1 s2 s3 m:=
 ⟨ms h.seen o5 (by decide) (by decide),ms h.items pT (by decide) (by decide),ms h.gone pU (by decide) (by decide),(h.map hb).seenB,(h.map hb).itemsB,(h.map hb).goneB⟩
structure UAt (w:World) (jk:JK) (u:Nat) (M:MD) (U:MU):Prop where
 box:∃ a1 c1 a2 c2 a3 c3,Blk w u [.int .i64 (U.dev:Int),.slice a1 U.m.seen.length c1,.slice a2 U.m.items.length c2,.slice a3 U.m.gone.length c3,.pointer (some ⟨jk.j,0,none⟩)] 93 /\
  bJ (NJ w) w (.slice a1 U.m.seen.length c1) (.slice a2 U.m.items.length c2) (.slice a3 U.m.gone.length c3) U.m
 jat:JAt w jk M U.J
 typ:JT w jk
 low:∀ b,jk.all b -> 3 < b
theorem UAt.lt {w:World} {jk:JK} {u:Nat} {M:MD} {U:MU} (h:UAt w jk u M U):u < w.heap.size:=by
 obtain⟨a1,c1,a2,c2,a3,c3,h1,-⟩:=h.box;exact h1.lt
theorem UAt.keep {w w':World} {jk:JK} {u:Nat} {M:MD} {U:MU} (h:UAt w jk u M U) (hb:Below w.heap.size w w'):UAt w' jk u M U:=by
 obtain⟨a1,c1,a2,c2,a3,c3,h1,h2⟩:=h.box;have hj:=h.jat.lt
 exact⟨⟨a1,c1,a2,c2,a3,c3,h1.keep (hb.block _ h1.lt),(h2.keep fun q _ hlt=>hb.block q hlt).mono (fun q hq hlt=>dz hq (hb.block q (by
  obtain⟨L,t,fz,hh,_⟩:=hq
  exact lt_of_block hh)))⟩,h.jat.kept hb,h.typ.keep fun b ha=>hb.block b (hj b ha),h.low⟩
theorem UAt.apart {w:World} {jk:JK} {u:Nat} {M:MD} {U:MU} (h:UAt w jk u M U):¬ jk.all u:=fun ha=>by
 obtain⟨a1,c1,a2,c2,a3,c3,h1,-⟩:=h.box;obtain⟨L,t,fz,k1,k2⟩:=h.typ u ha;unfold Blk at h1;rw[h1] at k1;injection k1 with k1
 injection k1 with _ k1
 subst k1;exact sU k2
theorem UAt.moved {w w':World} {jk jk':JK} {u:Nat} {M M':MD} {U:MU} {J':MJ} (h:UAt w jk u M U) (ho:aK jk.all w w') (hj:JAt w' jk' M' J') (hjj:jk'.j=jk.j) (hall:∀ b,jk'.all b -> jk.all b \/ w.heap.size <= b) (h4:3 < w.heap.size):
 ∃ jk2,jk2.j=jk.j /\ jk2.K=jk'.K /\ (∀ b,jk2.all b -> jk.all b \/ w.heap.size <= b) /\ UAt w' jk2 u M' ⟨U.dev,U.m,J'⟩:=by
 obtain⟨a1,c1,a2,c2,a3,c3,h1,h2⟩:=h.box;obtain⟨jk2,e1,e2,e3,e4,e5⟩:=hj.slim
 refine⟨jk2,e1.trans hjj,e2,fun b hb=>hall b (e4 b hb),⟨a1,c1,a2,c2,a3,c3,?_,(h2.keep fun q hq hlt=>ho.block q hlt (iK h.typ hq)).mono fun q hq _=>dz hq (ho.block q (by
  obtain⟨L,t,fz,hh,_⟩:=hq
  exact lt_of_block hh) (iK h.typ hq))⟩,e3,e5,fun b hb=>?_⟩
 ·rw[e1,hjj];exact h1.keep (ho.block u h1.lt h.apart)
 ·rcases hall b (e4 b hb) with hb' | hb'
  ·exact h.low b hb'
  ·omega
section
attribute [local go_sem] opC upC
def fH (R:aV) (w:World) (v:Value) (S:List (List UInt8)):Prop:=
 ∃ a cap,v=.slice a S.length cap /\ (S = [] \/ ∃ g,a=some ⟨g,0,none⟩ /\ g < w.heap.size /\ ∀ i (h:i < S.length),∃ x,w.cell? ⟨g,i,none⟩=some x /\ Bytes R w x S[i])
theorem bX.at {R:aV} {w:World} {lo:Nat} {v:Value} {S:List (List UInt8)} (h:bX R w lo v S):fH R w v S:=by
 obtain⟨a,cap,rfl,-,-⟩:=id h.shape;refine⟨a,cap,rfl,?_⟩;cases S with
 | nil=>exact .inl rfl
 | cons x S=>
   right;obtain⟨g,cap',x',hv,hb,hc⟩:=h.elem 0 (by simp);simp at hv;obtain⟨rfl,rfl⟩:=hv;refine⟨g,rfl,gU hc,fun i hi=>?_⟩;obtain⟨g2,cap2,x2,hv2,hb2,hc2⟩:=h.elem i hi;simp at hv2;obtain⟨rfl,-⟩:=hv2;exact⟨x2,hc2,hb2⟩
theorem fH.drewN {R:aV} {w:World} {v:Value} {S:List (List UInt8)} (h:fH R w v S) (n:Nat):fH R (w.drewN n) v S:=h
theorem gE {w w':World} {a:Addr} {x:Value} (h:w.cell? a=some x) (hl:aI w.drew w'):w'.cell? a=some x:=by
 have hlt:=gU h;have hb:w'.heap[a.block]?=w.heap[a.block]?:=hl.block a.block hlt;unfold World.cell? at *;rw[hb];exact h
end
section
attribute [local go_sem] opC upC
def upM (S:List (List UInt8)) (k:Nat):MD:=⟨S,false,none,k⟩
def bY (S:List (List UInt8)) (ws:List (Nat × List UInt8)):List (List UInt8):=ws.foldl (fun S p=>S.set p.1 p.2) S
theorem e8 (ws:List (Nat × List UInt8)):∀ S,(bY S ws).length=S.length:=by
 induction ws with
 | nil=>intro S;rfl
 | cons x ws ih=>intro S;show (bY (S.set x.1 x.2) ws).length=_;rw[ih];simp
theorem tK (S:List (List UInt8)) (k a:Nat) (s:List UInt8):(upM S k).wr a s=(upM (S.set a s) (k+1),0):=rfl
theorem dO (ws:List (Nat × List UInt8)):∀ S k,aY (upM S k) ws=(upM (bY S ws) (k+ws.length),0):=by
 induction ws with
 | nil=>intro S k;rfl
 | cons x ws ih=>
   intro S k;obtain⟨a,s⟩:=x;show (if ((upM S k).wr a s).2=0 then aY ((upM S k).wr a s).1 ws else (upM S k).wr a s)=_;rw[tK];simp only[if_true];rw[ih]
   show (upM (bY (S.set a s) ws) (k+1+ws.length),(0:Int))=(upM (bY (S.set a s) ws) (k+(ws.length+1)),0)
   rw[Nat.add_assoc,Nat.add_comm 1]
end
section
attribute [local go_sem ↓] fl
theorem kq (w:World) (C:Array Value) (n c:Nat):(convert 41 41 (.slice (some ⟨w.heap.size,0,none⟩) n c)).run aC (w.alloc (.cells C 5))=.ok (.slice (some ⟨w.heap.size,0,none⟩) n c) (w.alloc (.cells C 5 (C.size,C.size+1))):=
 Lib.run_convert_bytes_const w _ _ C n c Tryz.underlying41 Tryz.underlying5
attribute [local go_sem] kq
theorem Below.drewN' {B0:Nat} {a w:World} (h:Below B0 a w) (n:Nat):Below B0 a (w.drewN n):=⟨h.os,h.tape,h.output,h.size,h.block⟩
theorem ks {R:aV} {w:World} {x0 x1:Value} {l0 l1:List UInt8} (h0:Bytes R w x0 l0) (h1:Bytes R w x1 l1) (hR:∀ b,R b -> b < w.heap.size):
 fH R (w.alloc (.cells #[x0,x1] 41)) (.slice (some ⟨w.heap.size,0,none⟩) 2 2) [l0,l1]:=by
 have hk:∀ b,R b -> b < w.heap.size -> (w.alloc (.cells #[x0,x1] 41)).heap[b]?=w.heap[b]?:=fun b _ hlt=>(aE w _).block b hlt
 refine⟨_,2,rfl,.inr ⟨w.heap.size,rfl,by simp,fun i hi=>?_⟩⟩;have hb:=Blk.new w #[x0,x1] 41;have:i=0 \/ i=1:=by simp at hi;omega
 rcases this with rfl | rfl
 ·exact⟨x0,by simp[hb.cell 0],h0.keep hk⟩
 ·exact⟨x1,by simp[hb.cell 1],h1.keep hk⟩
theorem ip {R:aV} {w:World} {x0:Value} {l0:List UInt8} (h0:Bytes R w x0 l0) (hR:∀ b,R b -> b < w.heap.size):
 fH R (w.alloc (.cells #[x0] 41)) (.slice (some ⟨w.heap.size,0,none⟩) 1 1) [l0]:=by
 have hk:∀ b,R b -> b < w.heap.size -> (w.alloc (.cells #[x0] 41)).heap[b]?=w.heap[b]?:=fun b _ hlt=>(aE w _).block b hlt
 refine⟨_,1,rfl,.inr ⟨w.heap.size,rfl,by simp,fun i hi=>?_⟩⟩;have hb:=Blk.new w #[x0] 41;have:i=0:=by simp at hi;omega
 subst this;exact⟨x0,by simp[hb.cell 0],h0.keep hk⟩
theorem jv (F:aV) (w:World) (a:Option Addr):Bytes F w (.slice a 0 0) []:=⟨a,0,rfl,aq _,by unfold maxLen;omega,fun _=>rfl,.inl rfl⟩
theorem fH.kept {R:aV} {w w':World} {v:Value} {S:List (List UInt8)} (h:fH R w v S) (hb:Below w.heap.size w w'):fH R w' v S:=by
 obtain⟨a,cap,rfl,h⟩:=h;refine⟨a,cap,rfl,?_⟩;rcases h with h | ⟨g,rfl,hg,h⟩
 ·exact .inl h
 ·refine .inr ⟨g,rfl,aw hg hb.size,fun i hi=>?_⟩;obtain⟨x,hx,hbx⟩:=h i hi;refine⟨x,?_,hbx.keep fun b _ hlt=>hb.block b hlt⟩;unfold World.cell? at *;rw[show w'.heap[(⟨g,i,none⟩:Addr).block]?=w.heap[(⟨g,i,none⟩:Addr).block]? from hb.block g hg];exact hx
end
end Go.Proofs.YtobjdpngnfbicaaGreatDoor
