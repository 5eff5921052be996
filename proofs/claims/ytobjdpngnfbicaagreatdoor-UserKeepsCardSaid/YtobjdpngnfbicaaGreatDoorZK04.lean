/-
  RCode
-/
import Derived.Test.YtobjdpngnfbicaaGreatDoorZK02
import Derived.Test.YtobjdpngnfbicaaGreatDoorZK03
import Derived.ArgAppend
import Derived.Lib.AppendStr
import Derived.Laws.BitsAllLaws
import Derived.Laws.Shifts
import Derived.Deep.LoopGhost
open Go.Lib renaming hid->ae
open Go.IntWalk renaming u8_in->ap
open Nat renaming le_refl->aq,le_trans->au
open List renaming length_append->ax,append_assoc->az,getElem_mem->aA
open Go.Proofs.Tryz renaming prog->aC
namespace Go.Proofs.YtobjdpngnfbicaaGreatDoor
open Go.RowKit
set_option linter.unusedVariables false
set_option maxRecDepth 20000
attribute [local go_sem ↓] bq
theorem own_base {W:World} {base base':Nat} {e:TypeId} {size:Nat} {v:Value} {k:Nat} {xs:List Value} (h:W.ownsRow base e size v k xs) (hb:base' <= base):W.ownsRow base' e size v k xs:=by
 refine⟨h.1,?_⟩;rcases h.2 with hn | ⟨g,cap,cur,hv,hbg,rest⟩
 ·exact .inl hn
 ·exact .inr ⟨g,cap,cur,hv,au hb hbg,rest⟩
theorem own_shape {w:World} {base:Nat} {e:TypeId} {k n:Nat} {v:Value} {xs:List Value} (h:w.ownsRow base e k v n xs):∃ a cap,v=.slice a n cap:=by
 rcases h.2 with ⟨rfl,h0⟩ | ⟨g,cap,cur,rfl,_⟩
 ·exact⟨none,0,by rw[h0]⟩
 ·exact⟨_,_,rfl⟩
def Apt (w:World) (base:Nat) (v:Value) (l:List UInt8):Prop:=
 w.ownsRow base 5 1 v l.length (l.map B) \/ ∃ g L t fz,v=.slice (some ⟨g,0,none⟩) l.length l.length /\ base <= g /\ w.heap[g]?=some (.cells L t fz) /\ l.length <= L.size /\ ∀ i,i < l.length -> L[i]?=(l.map B)[i]?
theorem Apt.clip {w:World} {base:Nat} {g:Nat} {n cap:Nat} {l:List UInt8} (h:w.ownsRow base 5 1 (.slice (some ⟨g,0,none⟩) n cap) l.length (l.map B)):Apt w base (.slice (some ⟨g,0,none⟩) n n) l:=by
 rcases h.2 with ⟨h,_⟩ | ⟨g',cap',cur,hv,hb,hg,hc,hm,hs,ht⟩
 ·cases h
 ·simp at hv;obtain⟨rfl,rfl,rfl⟩:=hv;refine .inr ⟨g,cur,_,_,rfl,hb,hg,by omega,fun i hi=>?_⟩;have:(cur.toList.take (l.length * 1))[i]?=(l.map B)[i]?:=by rw[ht]
  rw[List.getElem?_take,if_pos (by omega)] at this;simpa using this
theorem run_apt_one (W:World) (base:Nat) (v:Value) (l:List UInt8) (h:Apt W base v l) (c:UInt8) (hl:l.length+1 <= 140737488355328) (hbase:base <= W.heap.size):
 ∃ v' w',(AP #[41,41] 41 #[v,.slice (some ⟨W.heap.size,0,none⟩) 1 1]).run aC (W.alloc (.cells #[B c] 5))=.ok v' w' /\ w'.ownsRow base 5 1 v' (l ++ [c]).length ((l ++ [c]).map B) /\ Below base W w':=by
 obtain⟨i0,hi,hz0,hz1,hz2⟩:=info_parts ig;have hlen:(l ++ [c]).length=l.length+1:=by simp
 have hmap:(l ++ [c]).map B=l.map B ++ [B c]:=by simp
 rw[hlen,hmap];rcases h with h | ⟨g,L,t,fz,rfl,hb,hg,hL,hc⟩
 ·obtain⟨v',w',hr,h1,h2⟩:=bF (P:=aC) W base 41 5 Tryz.underlying41 hi hz0 hz1 hz2 rfl (by decide) v _ _ h #[B c] rfl (by simp[Value.oneCell',B]) (by unfold maxLen;omega) (by omega) hbase;exact⟨v',w',hr,h1,((aE _ _).mono hbase).trans (Below.grownOwn (h.alloc _) h2 (by simp;omega) (aq _))⟩
 ·have hg2:(W.alloc (.cells #[B c] 5)).heap[g]?=some (.cells L t fz):=(Below.heap_alloc W _ g (lt_of_block hg)).trans hg
  obtain⟨v',w',hr,h1,h2⟩:=run_append_arg_grows (P:=aC) (W.alloc (.cells #[B c] 5)) 41 41 5 i0 _ 1 1 Tryz.underlying41 hi hz0 hz1 hz2 rfl (by decide) ⟨g,0,none⟩ l.length l.length (l.map B) (by simp)
   (fun j u hj=>by
    have hjl:j < l.length:=by have:=(List.getElem?_eq_some_iff.1 hj).1;simpa using this
    rw[Addr.add_lit,cell_of_row _ g (0+j) L t fz hg2,Nat.zero_add,hc j hjl,hj])
   ⟨W.heap.size,0,none⟩ 1 1 [B c] rfl
   (fun j u hj=>by
    have h0:j=0:=by have:=(List.getElem?_eq_some_iff.1 hj).1;simp at this;omega
    subst h0;simp at hj;rw[Addr.add_lit];have h2:=(Blk.new W #[B c] 5).cell 0
    rw[<- hj];exact h2)
   (by omega) (by unfold maxLen;omega) (by omega)
  exact⟨v',w',hr,own_base h1 (by simp;omega),((aE _ _).mono hbase).trans ((Below.refl base _).grown h2 (by simp;omega) (fun q hq=>by cases hq))⟩
theorem Apt.kept {w w':World} {base:Nat} {v:Value} {l:List UInt8} (h:Apt w base v l) (hb:Below w.heap.size w w'):Apt w' base v l:=by
 rcases h with h | ⟨g,L,t,fz,hv,hg,hL,rest⟩
 ·exact .inl (bc h hb)
 ·exact .inr ⟨g,L,t,fz,hv,hg,(hb.block g (lt_of_block hL)).trans hL,rest⟩
theorem Apt.shape {w:World} {base:Nat} {v:Value} {l:List UInt8} (h:Apt w base v l):∃ a cap,v=.slice a l.length cap:=by
 rcases h with h | ⟨g,L,t,fz,hv,_⟩
 ·rcases h.2 with ⟨rfl,h0⟩ | ⟨g,cap,cur,rfl,_⟩
  ·exact⟨none,0,by rw[h0]⟩
  ·exact⟨_,_,rfl⟩
 ·exact⟨_,_,hv⟩
theorem or128 (n:Nat) (h:n < 256):n ||| 128=n % 128+128:=by
 have:∀ a:Fin 256,a.val ||| 128=a.val % 128+128:=by decide
 exact this ⟨n,h⟩
theorem clip_any (w:World) (base:Nat) (v:Value) (l:List UInt8) (h:w.ownsRow base 5 1 v l.length (l.map B)):
 Calls aC 150 #[v] w fun e w'=>(∃ r,e=.returned r /\ Apt w base r l) /\ w'=w:=by
 rcases h.2 with ⟨rfl,h0⟩ | ⟨g,cap,cur,rfl,hb,hg,hc,hm,hs,ht⟩
 ·have Ha:=ae (show Apt w base (.slice none 0 0) l from .inl h);clear h h0
  go_enter Tryz.func150,Tryz.ntmps150
  go_wp2_with fail
  go_ret
  exact⟨⟨_,rfl,Ha.out⟩,rfl⟩
 ·have Ha:=ae (Apt.clip h)
  obtain⟨n,hn⟩:∃ n,l.length=n:=⟨_,rfl⟩
  have Hn:=ae hn;rw[hn] at hc ⊢;have Ha2:=ae (show Apt w base (.slice (some ⟨g,0,none⟩) n n) l by rw[<- Hn.out];exact Ha.out);clear h hg hs ht hn Ha;unfold maxLen at hm
  go_enter Tryz.func150,Tryz.ntmps150
  go_wp2_with fail
  go_ret
  exact⟨⟨_,rfl,Ha2.out⟩,rfl⟩
set_option maxRecDepth 100000 in
set_option maxHeartbeats 1500000 in
theorem putUint_any (w:World) (F:aV) (v:Value) (l:List UInt8) (hv:Bytes F w v l) (n:Nat) (hn:n < 18446744073709551616) (hl:l.length <= 1000000000000):
 Calls aC 92 #[v,.int .u64 (n:Int)] w fun e w'=>(∃ r,e=.returned r /\ w'.ownsRow w.heap.size 5 1 r (l ++ uvar n).length ((l ++ uvar n).map B)) /\ Below w.heap.size w w':=by
 have HC:=ae (gS w F v l hv (by omega));obtain⟨a,cap,rfl,-⟩:=hv
 go_enter Tryz.func92,Tryz.ntmps92
 go_wp2_with fail;refine HC.out.mono ?_;rintro e w1 ⟨r1,rfl,ho1,hb1⟩;have HCl:=ae (clip_any w1 w.heap.size r1 l ho1);have Hb1:=ae hb1;clear HC ho1 hb1;go_wp2_with fail;refine HCl.out.mono ?_;rintro e w2 ⟨⟨r2,rfl,ha2⟩,rfl⟩;obtain⟨a2,c2,rfl⟩:=ha2.shape;have Ha2:=ae ha2;clear HCl ha2;go_wp2_with fail
 go_loopg [0,1] n (fun k s0 s1 wr=>∃ (m:Nat) (pre:List UInt8),s1=.int .u64 (m:Int) /\ m <= n /\ m <= k /\ Apt wr w.heap.size s0 (l ++ pre) /\ pre.length <= 10 /\ pre ++ uvar m=uvar n /\ Below w.heap.size w wr)
 case atStart=>exact⟨n,[],rfl,aq _,aq _,by simpa using Ha2.out,by simp,rfl,Hb1.out⟩
 case round=>
  obtain⟨m,pre,rfl,hmn,hmk,ha,hp,hu,hb⟩:=hrel;have hul:=uvar_len n;obtain⟨ar,cr,rfl⟩:=ha.shape
  obtain⟨N,hN⟩:∃ N,(l ++ pre).length=N:=⟨_,rfl⟩
  rw[hN] at ha ⊢;have HN:=ae hN;clear hN;have Hu:=ae hu;have Hb:=ae hb;clear hu hb
  by_cases hge:128 <= m
  ·have hgI:(128:Int) <= (m:Int):=by omega
   obtain⟨c8,hc8⟩:∃ c8,c8=m % 256:=⟨_,rfl⟩
   obtain⟨d8,hd8⟩:∃ d8,d8=m % 128+128:=⟨_,rfl⟩
   obtain⟨q,hq⟩:∃ q,q=m / 128:=⟨_,rfl⟩
   have hw8:IntKind.u8.wrap (m:Int)=(c8:Int):=by rw[hc8];simp[IntKind.wrap,IntKind.bits,IntKind.signed]
   have hor:bits .or .u8 (c8:Int) 128=(d8:Int):=by
    have h1:=u8_or_nat c8 128 (by omega) (by omega);rw[or128 c8 (by omega)] at h1;rw[show (d8:Nat)=c8 % 128+128 by omega];exact h1
   have hsh:(m:Int) / 128=(q:Int):=by omega
   have hby:(UInt8.ofNat d8).toNat=d8:=by
    rw[UInt8.toNat_ofNat'];omega
   obtain⟨v',w',hr,ho,hb2⟩:=run_apt_one wr w.heap.size _ _ ha (UInt8.ofNat d8) (by rw[HN.out,<- HN.out,ax];omega) Hb.out.size;unfold B at hr;rw[hby] at hr;obtain⟨av,cv,rfl⟩:=(show Apt w' w.heap.size v' ((l ++ pre) ++ [UInt8.ofNat d8]) from .inl ho).shape
   obtain⟨N1,hN1⟩:∃ N1,((l ++ pre) ++ [UInt8.ofNat d8]).length=N1:=⟨_,rfl⟩
   rw[hN1] at hr;have Ho:=ae (show w'.ownsRow w.heap.size 5 1 (.slice av N1 cv) ((l ++ pre) ++ [UInt8.ofNat d8]).length (((l ++ pre) ++ [UInt8.ofNat d8]).map B) by rw[<- hN1];exact ho);have Hb2:=ae hb2;have HN1:=ae hN1;have Hd8:=ae hd8;have Hq:=ae hq;clear ho hN1 hb2 hc8 hd8 hq hby ha;go_wp2_with fail
   go_roundg q
   case measure=>have:=Hq.out;omega
   case rel=>
    refine⟨q,pre ++ [UInt8.ofNat d8],rfl,by have:=Hq.out;omega,aq _,.inl (by rw[<- az];exact Ho.out),?_,?_,Hb.out.trans Hb2.out⟩
    ·have h1:=congrArg List.length Hu.out;have h2:=uvar_pos q;rw[uvar_step m (by omega) (by omega),<- Hq.out] at h1;simp at h1 ⊢;omega
    ·have h1:=Hu.out;rw[uvar_step m (by omega) (by omega),<- Hq.out,<- Hd8.out] at h1;simpa[az] using h1
  ·have hgI:¬ (128:Int) <= (m:Int):=by omega
   have hw8:IntKind.u8.wrap (m:Int)=(m:Int):=ap _ (by omega)
   have hby:(UInt8.ofNat m).toNat=m:=by
    rw[UInt8.toNat_ofNat'];omega
   obtain⟨v',w',hr,ho,hb2⟩:=run_apt_one wr w.heap.size _ _ ha (UInt8.ofNat m) (by rw[HN.out,<- HN.out,ax];omega) Hb.out.size;unfold B at hr;rw[hby] at hr;obtain⟨av,cv,rfl⟩:=(show Apt w' w.heap.size v' ((l ++ pre) ++ [UInt8.ofNat m]) from .inl ho).shape
   obtain⟨N1,hN1⟩:∃ N1,((l ++ pre) ++ [UInt8.ofNat m]).length=N1:=⟨_,rfl⟩
   rw[hN1] at hr;have Ho:=ae (show w'.ownsRow w.heap.size 5 1 (.slice av N1 cv) ((l ++ pre) ++ [UInt8.ofNat m]).length (((l ++ pre) ++ [UInt8.ofNat m]).map B) by rw[<- hN1];exact ho);have Hb2:=ae hb2;have HN1:=ae hN1;clear ho hN1 hb2 hby ha;go_wp2_with fail
   go_ret
   refine⟨⟨_,rfl,?_⟩,Hb.out.trans Hb2.out⟩;have h1:=Hu.out;rw[uvar_small m (by omega)] at h1;have h2:=Ho.out;rw[az,h1] at h2;simpa using h2
end Go.Proofs.YtobjdpngnfbicaaGreatDoor
/- coding.PutText; the closure that puts numbers. -/
namespace Go.Proofs.YtobjdpngnfbicaaGreatDoor
open Go.RowKit
set_option linter.unusedVariables false
set_option maxRecDepth 20000
attribute [local go_sem ↓] bq
theorem strCells_list (k:List UInt8):Lib.strCells ⟨k.toArray⟩=k.map B:=by simp[Lib.strCells,B]
set_option maxRecDepth 100000 in
set_option maxHeartbeats 1500000 in
theorem putText_any (w:World) (F:aV) (v:Value) (l:List UInt8) (hv:Bytes F w v l) (k:RKey) (hk:k.length <= 1000000000000) (hl:l.length <= 1000000000000):
 Calls aC 175 #[v,.string ⟨k.toArray⟩] w fun e w'=>(∃ r,e=.returned r /\ w'.ownsRow w.heap.size 5 1 r (l ++ codeText k).length ((l ++ codeText k).map B)) /\ Below w.heap.size w w':=by
 have HP:=ae (putUint_any w F v l hv k.length (by omega) hl);have hw:IntKind.u64.wrap (k.length:Int)=(k.length:Int):=IntWalk.u64_in _ (by omega)
 obtain⟨kn,hkn⟩:∃ kn,k.length=kn:=⟨_,rfl⟩
 obtain⟨a,cap,rfl,-⟩:=hv;have Hkn:=ae hkn;have hsz:(ByteArray.mk k.toArray).size=kn:=by rw[<- hkn];rfl
 rw[hkn] at HP hw hk;clear hkn
 go_enter Tryz.func175,Tryz.ntmps175
 go_wp2_with fail;refine HP.out.mono ?_;rintro e w1 ⟨⟨r1,rfl,ho1⟩,hb1⟩;obtain⟨i0,hi,hz0,hz1,hz2⟩:=info_parts ig;have hul:=uvar_len kn;obtain⟨v',w',hr,ho,hg,-⟩:=Lib.run_append_own_string (P:=aC) w1 w.heap.size 41 9 41 5 i0 Tryz.underlying41 Tryz.underlying9 hi hz0 hz1 hz2 r1 _ _ ho1 ⟨k.toArray⟩ (by rw[hsz,ax];unfold maxLen;omega) (by rw[hsz,ax];omega) hb1.size;have hr':(AP #[41,9] 41 #[r1,.string ⟨k.toArray⟩]).run aC w1=.ok v' w':=hr
 have Ho:=ae (show w'.ownsRow w.heap.size 5 1 v' (l ++ codeText k).length ((l ++ codeText k).map B) by
  rw[strCells_list,hsz] at ho;have e1:(l ++ codeText k).length=(l ++ uvar kn).length+kn:=by unfold codeText;rw[Hkn.out];simp[Hkn.out];omega
  have e2:(l ++ codeText k).map B=(l ++ uvar kn).map B ++ k.map B:=by unfold codeText;rw[Hkn.out];simp
  rw[e1,e2]
  exact ho)
 have Hb:=ae (hb1.trans (Below.grownOwn ho1 hg hb1.size (aq _)));clear hr ho hg HP ho1 hb1;go_wp2_with fail
 go_ret
 exact⟨⟨_,rfl,Ho.out⟩,Hb.out⟩
def PutAt (w:World) (bb:Nat) (l:List UInt8):Prop:=∃ v,Blk w bb [v] 41 /\ Bytes (fun b=>b≠bb) w v l
theorem PutAt.keep {w w':World} {bb:Nat} {l:List UInt8} (h:PutAt w bb l) (hb:Below w.heap.size w w'):PutAt w' bb l:=by
 obtain⟨v,h1,h2⟩:=h;exact⟨v,h1.keep (hb.block _ h1.lt),h2.keep fun b _ hlt=>hb.block b hlt⟩
theorem PutAt.stored {w w1:World} {bb:Nat} {l0 l:List UInt8} {v:Value} {base:Nat} (h:PutAt w bb l0) (hb:Below w.heap.size w w1) (ho:w1.ownsRow base 5 1 v l.length (l.map B)) (hbase:w.heap.size <= base):PutAt (w1.setCell ⟨bb,0,none⟩ v) bb l /\ aK (fun b=>b=bb) w (w1.setCell ⟨bb,0,none⟩ v):=by
 obtain⟨v0,h1,h2⟩:=h;have h3:=h1.keep (hb.block _ h1.lt);have hlt:=h1.lt;refine⟨⟨v,by simpa using h3.set 0 v,?_⟩,(aK.of_below (F:=fun b=>b=bb) hb).setCell (p:=⟨bb,0,none⟩) (.inl rfl) v⟩;have hby:Bytes (fun b=>b≠bb) w1 v l:=Bytes.of_owns ho _ (fun k hk _=>by omega);exact hby.keep fun b hne _=>Below.heap_setCell _ ⟨bb,0,none⟩ _ b hne
set_option maxRecDepth 100000 in
set_option maxHeartbeats 1500000 in
theorem put_any (w:World) (bb:Nat) (l:List UInt8) (hp:PutAt w bb l) (F:aV) (v:Value) (ns:List Int) (hv:Rows F w 1 v ns.length (ns.map eI)) (hF:∀ b,F b -> b≠bb) (hn:∀ n ∈ ns,0 <= n /\ n <= 9223372036854775807) (hns:ns.length <= 1000000) (hl:l.length <= 100000000000):
 Calls aC 192 #[v,.pointer (some ⟨bb,0,none⟩)] w fun e w'=>e=.returned (.tuple #[]) /\ PutAt w' bb (l ++ ns.flatMap fun n=>uvar n.toNat) /\ aK (fun b=>b=bb) w w':=by
 obtain⟨N,hN⟩:∃ N,ns.length=N:=⟨_,rfl⟩
 obtain⟨a,cap,rfl,-⟩:=hv.shape;rw[hN] at hv hns ⊢;have HN:=ae hN;have Hv:=ae hv;have Hp:=ae hp;clear hN hv hp
 go_enter Tryz.func192,Tryz.ntmps192
 go_wp2_with fail
 go_loopw [7] (fun i wr=>∃ k:Nat,k <= N /\ i=.int .i64 (k:Int) /\ PutAt wr bb (l ++ (ns.take k).flatMap fun n=>uvar n.toNat) /\ aK (fun b=>b=bb) w wr) (fun i _=>N - (intOf i).toNat)
 case atStart=>exact⟨0,by omega,rfl,by simpa using Hp.out,aK.refl _ _⟩
 case round=>
  obtain⟨k,hk,rfl,hpk,hok⟩:=hrel;have Hok:=ae hok
  by_cases hkn:k < N
  ·have hkI:(k:Int) < (N:Int):=by omega
   have hkl:k < ns.length:=by rw[HN.out];exact hkn
   have hm:=Hv.out.keep (w':=wr) fun b hFb hlt=>Hok.out.block b hlt (hF b hFb)
   obtain⟨b,off,rfl,-,-,hc⟩:=fY (by rw[HN.out];exact hm) (by omega);have e0:=hc k hkl
   obtain⟨x,hx⟩:∃ x,ns[k]=x:=⟨_,rfl⟩
   rw[hx] at e0;obtain⟨hx0,hx1⟩:=hn x (by rw[<- hx];exact aA hkl);obtain⟨m,rfl⟩:=Int.eq_ofNat_of_zero_le hx0;have hw:IntKind.u64.wrap (m:Int)=(m:Int):=IntWalk.u64_in _ (by omega)
   have hlen:(l ++ (ns.take k).flatMap fun n=>uvar n.toNat).length <= 1000000000000:=by
    have h1:=flat_len_le (fun n:Int=>uvar n.toNat) 10 (ns.take k) fun n _=>uvar_len _
    have h2:(ns.take k).length <= N:=by simp;omega
    simp only[ax];omega
   obtain⟨L0,hL0⟩:∃ L0,l ++ ((ns.take k).flatMap fun n=>uvar n.toNat)=L0:=⟨_,rfl⟩
   rw[hL0] at hpk hlen;have HL0:=ae hL0;obtain⟨v0,hb0,hby0⟩:=hpk;have c0:=hb0.cell 0;simp at c0;have f0:=hb0.free 0;have HP:=ae (putUint_any wr _ v0 _ hby0 m (by omega) hlen);have Hpk:=ae (show PutAt wr bb _ from ⟨v0,hb0,hby0⟩);have Hx:=ae hx;obtain⟨a0,cap0,rfl,-⟩:=hby0
   obtain⟨N0,hN0⟩:∃ N0,L0.length=N0:=⟨_,rfl⟩
   rw[hN0] at HP c0;clear hm hc hx hb0 hok hL0 hN0 hlen;go_wp2_with fail;refine HP.out.mono ?_;rintro e w1 ⟨⟨r1,rfl,ho1⟩,hb1⟩;obtain⟨hp1,ho2⟩:=Hpk.out.stored hb1 ho1 (aq _)
   obtain⟨v1,hbb⟩:∃ v1,Blk w1 bb [v1] 41:=by
    obtain⟨v1,h1,-⟩:=Hpk.out;exact⟨v1,h1.keep (hb1.block _ h1.lt)⟩
   have hfr:=hbb.free 0;have hce:=hbb.cell 0;simp at hce
   obtain⟨N2,hN2⟩:∃ N2,(L0 ++ uvar m).length=N2:=⟨_,rfl⟩
   obtain⟨a2,c2,hr2⟩:=own_shape ho1;rw[hN2] at hr2;subst hr2;clear hN2;have Hp1:=ae hp1;have Ho2:=ae (Hok.out.trans ho2 (fun i h=>.inl h));clear HP hp1 ho2 ho1 hb1 hbb c0 f0 e0;go_wp2_with fail
   go_roundw
   case rel=>exact⟨k+1,by omega,by go_num,by
    rw[flat_take _ _ _ hkl,Hx.out,<- az,HL0.out]
    exact Hp1.out,Ho2.out⟩
   case measure=>simp[intOf];omega
  ·have hkI:¬ (k:Int) < (N:Int):=by omega
   have hke:k=ns.length:=by rw[HN.out];omega
   have Hpk:=ae (show PutAt wr bb (l ++ ns.flatMap fun n=>uvar n.toNat) by rw[hke,List.take_length] at hpk;exact hpk);clear hpk hok;go_wp2_with fail
   go_end0
   exact⟨rfl,Hpk.out,Hok.out⟩
end Go.Proofs.YtobjdpngnfbicaaGreatDoor
/- The code of a map. -/
namespace Go.Proofs.YtobjdpngnfbicaaGreatDoor
open Go.RowKit
set_option linter.unusedVariables false
set_option maxRecDepth 20000
attribute [local go_sem ↓] bq
theorem rows_new (w:World) (cs:Array Value) (t:TypeId) (n:Nat) (hn:cs.size=n) (hle:n <= maxLen):Rows (fun b=>b=w.heap.size) (w.alloc (.cells cs t)) 1 (.slice (some ⟨w.heap.size,0,none⟩) n n) n cs.toList:=
 ⟨_,n,rfl,aq _,hle,nofun,by simp[hn],.inr ⟨w.heap.size,0,cs,t,(0,0),rfl,rfl,by unfold World.alloc;simp,by omega,fun i hi=>by simp⟩⟩
theorem PutAt.alloc {w:World} {bb:Nat} {l:List UInt8} (h:PutAt w bb l) (o:Obj):PutAt (w.alloc o) bb l:=h.keep (aE _ _)
theorem PutAt.lt {w:World} {bb:Nat} {l:List UInt8} (h:PutAt w bb l):bb < w.heap.size:=by obtain⟨v,h1,-⟩:=h;exact h1.lt
structure Codable (m:RMap):Prop where
 seen:∀ n ∈ m.seen,0 <= n /\ n <= 9223372036854775807
 items:∀ x ∈ m.items,x.key.length <= 400 /\ (0 <= x.dev /\ x.dev <= 9223372036854775807) /\ (0 <= x.seq /\ x.seq <= 9223372036854775807) /\ 0 <= x.val /\ x.val <= 9223372036854775807
 gone:∀ x ∈ m.gone,x.key.length <= 400 /\ (0 <= x.dev /\ x.dev <= 9223372036854775807) /\ 0 <= x.seq /\ x.seq <= 9223372036854775807
 l1:m.seen.length <= 1000
 l2:m.items.length <= 100000
 l3:m.gone.length <= 100000
theorem Codable.len {m:RMap} (h:Codable m):(codeR m).length <= 1000000000:=codeR_len m h.l1 h.l2 h.l3 (fun x hx=>(h.items x hx).1) (fun x hx=>(h.gone x hx).1)
set_option maxRecDepth 100000 in
set_option maxHeartbeats 3000000 in
theorem code_any (w:World) (F:aV) (v:Value) (m:RMap) (h:cY F w v m) (hC:Codable m):
 Calls aC 136 #[v] w fun e w'=>(∃ r,e=.returned r /\ Bytes (fun _=>True) w' r (codeR m)) /\ Below w.heap.size w w':=by
 replace h:=h.mono (G:=fun b=>b < w.heap.size) fun b _ hlt=>hlt
 have HC:=ae hC;obtain⟨s1,s2,s3,rfl,h⟩:=h;obtain⟨a1,p1,rfl,-⟩:=h.seen.shape;obtain⟨a2,p2,rfl,-⟩:=h.items.shape;obtain⟨a3,p3,rfl,-⟩:=h.gone.shape;have l1:=h.seen.len;have l2:=h.items.len;have l3:=h.gone.len;unfold maxLen at l1 l2 l3
 obtain⟨n1,hn1⟩:∃ n,m.seen.length=n:=⟨_,rfl⟩
 obtain⟨n2,hn2⟩:∃ n,m.items.length=n:=⟨_,rfl⟩
 obtain⟨n3,hn3⟩:∃ n,m.gone.length=n:=⟨_,rfl⟩
 rw[hn1,hn2,hn3] at h;rw[hn1] at l1 ⊢;rw[hn2] at l2 ⊢;rw[hn3] at l3 ⊢
 obtain⟨wx,hwx⟩:∃ wx,wx=w.alloc (.cells #[.slice a1 n1 p1,.slice a2 n2 p2,.slice a3 n3 p3] 37):=⟨_,rfl⟩
 have hbx:Below w.heap.size w wx:=by rw[hwx];exact aE _ _
 have hzx:wx.heap.size=w.heap.size+1:=by rw[hwx];simp
 have hx:=h.keep (w':=wx) fun b _ hlt=>hbx.block b hlt
 have hnx:Blk wx w.heap.size [.slice a1 n1 p1,.slice a2 n2 p2,.slice a3 n3 p3] 37:=by rw[hwx];exact Blk.new _ _ _
 have Hx:=ae hx;have Hn1:=ae hn1;have Hn2:=ae hn2;have Hn3:=ae hn3;have Hwx:=ae hwx;have Hbx:=ae hbx;have Hzx:=ae hzx;have c0:=hnx.cell 0;have c1:=hnx.cell 1;have c2:=hnx.cell 2;simp at c0 c1 c2;have Hnx:=ae hnx;clear hx hn1 hn2 hn3 hwx hbx hnx hzx;clear h hC
 obtain⟨w2,hw2⟩:∃ w2,w2=wx.alloc (.cells #[.slice none 0 0] 41):=⟨_,rfl⟩
 have hb2:Below w.heap.size w w2:=by rw[hw2];exact Hbx.out.alloc (by have:=Hzx.out;omega) _
 have hz2:w2.heap.size=w.heap.size+2:=by rw[hw2];have:=Hzx.out;simp;omega
 have hM2:Blk w2 w.heap.size [.slice a1 n1 p1,.slice a2 n2 p2,.slice a3 n3 p3] 37 /\ bJ (fun b=>b < w.heap.size) w2 (.slice a1 n1 p1) (.slice a2 n2 p2) (.slice a3 n3 p3) m:=by
  rw[hw2];exact⟨Hnx.out.alloc _,Hx.out.keep fun b _ hlt=>Below.heap_alloc _ _ _ hlt⟩
 have HM:=ae (show ∀ w',aK (fun b=>b=w.heap.size+1) w2 w' -> Blk w' w.heap.size [.slice a1 n1 p1,.slice a2 n2 p2,.slice a3 n3 p3] 37 /\ bJ (fun b=>b < w.heap.size) w' (.slice a1 n1 p1) (.slice a2 n2 p2) (.slice a3 n3 p3) m from fun w' ho=>
  ⟨hM2.1.only ho (by omega),hM2.2.keep fun b hb hlt=>ho.block b hlt (by omega)⟩)
 have hp2:PutAt w2 (w.heap.size+1) []:=by
  refine⟨.slice none 0 0,?_,⟨none,0,rfl,aq _,by unfold maxLen;omega,fun _=>rfl,.inl rfl⟩⟩;rw[hw2,<- Hzx.out];exact Blk.new _ _ _
 have HP:=ae (put_any w2 (w.heap.size+1) [] hp2 (fun b=>b < w.heap.size) (.slice a1 n1 p1) m.seen hM2.2.seen (fun b hb=>by omega) HC.out.seen (by have:=HC.out.l1;omega) (by simp));have Hw2:=ae hw2;have Hb2:=ae hb2;have Hz2:=ae hz2;clear hw2 hb2 hz2 hM2 hp2 Hx Hnx
 go_enter Tryz.func136,Tryz.ntmps136
 go_wp2_with fail;rw[<- Hwx.out,<- Hw2.out];refine HP.out.mono ?_;rintro e w3 ⟨rfl,hp3,ho3⟩;have c31:=(HM.out w3 ho3).1.cell 1;simp at c31
 have HP2:=ae (put_any (w3.alloc (.cells #[.int .i64 (n2:Int)] 3)) (w.heap.size+1) _ (hp3.alloc _) (fun b=>b=w3.heap.size) (.slice (some ⟨w3.heap.size,0,none⟩) 1 1) [(n2:Int)] (rows_new w3 #[.int .i64 (n2:Int)] 3 1 rfl (by unfold maxLen;omega)) (fun b hb=>by have:=hp3.lt;omega) (by
  intro n hn;simp at hn;subst hn
  omega) (by simp) (by
  have h1:=codeA_le m;unfold codeA at h1;have h2:=HC.out.len;simp at h1 ⊢
  omega))
 have Ho3:=ae ho3;clear HP hp3 ho3 c0 c1 c2;go_wp2_with fail;refine HP2.out.mono ?_;rintro e w4 ⟨rfl,hp4,ho4⟩
 have Hp4:=ae (show PutAt w4 (w.heap.size+1) (codeB m 0) by
  rw[codeB_zero];unfold codeA;rw[Hn2.out]
  simpa using hp4)
 have ho4':=(Ho3.out.trans (aK.of_below (F:=fun b=>b=w.heap.size+1) (aE w3 _)) (fun i h=>.inl h)).trans ho4 (fun i h=>.inl h);have Ho4:=ae ho4';have c41:=(HM.out w4 ho4').1.cell 1;simp at c41;clear HP2 hp4 ho4 ho4' c31 Ho3;go_wp2_with fail
 go_loopw [23] (fun i wr=>∃ k:Nat,k <= n2 /\ i=.int .i64 (k:Int) /\ PutAt wr (w.heap.size+1) (codeB m k) /\ aK (fun b=>b=w.heap.size+1) w2 wr) (fun i _=>n2 - (intOf i).toNat)
 case atStart=>exact⟨0,by omega,rfl,Hp4.out,Ho4.out⟩
 case round=>
  obtain⟨k,hk,rfl,hpk,hok⟩:=hrel;have Hok:=ae hok;clear hok Hp4 Ho4
  by_cases hkn:k < n2
  ·have hkI:(k:Int) < (n2:Int):=by omega
   have hkl:k < m.items.length:=by rw[Hn2.out];exact hkn
   obtain⟨-,hm⟩:=HM.out wr Hok.out;obtain⟨b,off,rfl,hFb,-,hc⟩:=eE hm.items (by omega);obtain⟨e0,e1,e2,e3⟩:=hc k hkl
   obtain⟨x,hx⟩:∃ x,m.items[k]=x:=⟨_,rfl⟩
   rw[hx] at e0 e1 e2 e3;have hxc:=HC.out.items x (by rw[<- hx];exact aA hkl);have hlb:(codeB m k).length <= 1000000000:=au (codeB_le m k) HC.out.len;have hsuc:=codeB_succ m k hkl;rw[hx] at hsuc
   have hlb1:(codeB m k ++ codeText x.key).length <= 2000000000:=by
    have:=codeText_len x.key hxc.1;rw[ax];omega
   obtain⟨L0,hL0⟩:∃ L0,codeB m k=L0:=⟨_,rfl⟩
   rw[hL0] at hpk hlb hsuc hlb1
   obtain⟨N0,hN0⟩:∃ N0,L0.length=N0:=⟨_,rfl⟩
   obtain⟨v0,hb0,hby0⟩:=hpk;have hbyA:=hby0.keep (w':=wr.alloc (.cells #[.string ⟨x.key.toArray⟩,.int .i64 x.dev,.int .i64 x.seq,.int .i64 x.val] 108)) fun b _ hlt=>Below.heap_alloc _ _ _ hlt
   have HP:=ae (putText_any _ _ v0 L0 hbyA x.key (by have:=hxc.1;omega) (by omega));have Hpk:=ae (show PutAt (wr.alloc (.cells #[.string ⟨x.key.toArray⟩,.int .i64 x.dev,.int .i64 x.seq,.int .i64 x.val] 108)) (w.heap.size+1) L0 from (show PutAt wr _ L0 from ⟨v0,hb0,hby0⟩).alloc _);obtain⟨a0,cap0,rfl,-⟩:=hby0;have q0:=hb0.cell 0;simp at q0;have f0:=hb0.free 0;have hbz:w.heap.size+1 < wr.heap.size:=hb0.lt;have hXB:=Blk.new wr #[.string ⟨x.key.toArray⟩,.int .i64 x.dev,.int .i64 x.seq,.int .i64 x.val] 108;have HXB:=ae hXB;rw[hN0] at q0 HP;have Hx:=ae hx;have Hsuc:=ae hsuc;have Hxc:=ae hxc;have Hlb1:=ae hlb1;clear hc hm hx hb0 hsuc hxc hL0 hN0 hbyA hlb hXB hlb1;go_wp2_with fail;refine HP.out.mono ?_;rintro e w5 ⟨⟨r5,rfl,ho5⟩,hb5⟩;obtain⟨hp5,ho6⟩:=Hpk.out.stored hb5 ho5 (aq _)
   obtain⟨v1,hbb⟩:∃ v1,Blk w5 (w.heap.size+1) [v1] 41:=by
    obtain⟨v1,h1,-⟩:=Hpk.out;exact⟨v1,h1.keep (hb5.block _ h1.lt)⟩
   obtain⟨N5,hN5⟩:∃ N5,(L0 ++ codeText x.key).length=N5:=⟨_,rfl⟩
   obtain⟨a5,c5,hr5⟩:=own_shape ho5;rw[hN5] at hr5;subst hr5;have q5:=hbb.cell 0;simp at q5;have f5:=hbb.free 0
   obtain⟨w6,hw6⟩:∃ w6,w6=w5.setCell ⟨w.heap.size+1,0,none⟩ (.slice a5 N5 c5):=⟨_,rfl⟩
   rw[<- hw6] at hp5 ho6
   have hX6:Blk w6 wr.heap.size [.string ⟨x.key.toArray⟩,.int .i64 x.dev,.int .i64 x.seq,.int .i64 x.val] 108:=by
    rw[hw6];exact(HXB.out.keep (hb5.block _ HXB.out.lt)).set_other _ (by simp;omega)
   have hX5:=HXB.out.keep (hb5.block _ HXB.out.lt);have x0:=hX5.cell 0;have x1:=hX5.cell 1;have x2:=hX5.cell 2;have x3:=hX5.cell 3;simp at x0 x1 x2 x3;have hne5:wr.heap.size≠w.heap.size+1:=by omega
   clear hbz;have hB6:aK (fun b=>b=w.heap.size+1) wr w6:=(aK.of_below (aE wr _)).trans ho6 (fun i hi=>.inl hi);have Hw6:=ae hw6;have hz6:w6.heap.size=w5.heap.size:=by rw[hw6];simp[World.setCell]
   have hP2:=(put_any _ _ _ (hp5.alloc (.cells #[.int .i64 x.dev,.int .i64 x.seq,.int .i64 x.val] 3)) (fun b=>b=w6.heap.size) (.slice (some ⟨w6.heap.size,0,none⟩) 3 3) [x.dev,x.seq,x.val] (rows_new w6 #[.int .i64 x.dev,.int .i64 x.seq,.int .i64 x.val] 3 3 rfl (by unfold maxLen;omega)) (fun b hb=>by have:=hp5.lt;omega) (by
    have h:=Hxc.out;intro n hn;simp at hn
    rcases hn with rfl | rfl | rfl <;> simp[h]) (by simp) (by have:=Hlb1.out;omega))
   rw[hz6] at hP2;have HP2:=ae hP2;have HB6:=ae (Hok.out.trans hB6 (fun i h=>.inl h));clear HP hN5 hbb hp5 ho6 ho5 hb5 hX5 hX6 hB6 hw6 q0 f0 Hpk hP2 hz6;go_wp2_with fail;rw[<- Hw6.out];refine HP2.out.mono ?_;rintro e w7 ⟨rfl,hp7,ho7⟩;rw[<- Hsuc.out] at hp7;have Hp7:=ae hp7;have Ho7:=ae ((HB6.out.trans (aK.of_below (F:=fun b=>b=w.heap.size+1) (aE w6 _)) (fun i h=>.inl h)).trans ho7 (fun i h=>.inl h));clear hp7 ho7 HP2;go_wp2_with fail
   go_roundw
   case rel=>exact⟨k+1,by omega,by go_num,Hp7.out,Ho7.out⟩
   case measure=>simp[intOf];omega
  ·have hkI:¬ (k:Int) < (n2:Int):=by omega
   have hke:k=m.items.length:=by rw[Hn2.out];omega
   have Hpk:=ae (show PutAt wr (w.heap.size+1) (codeB m m.items.length) by rw[hke] at hpk;exact hpk);clear hpk;have c51:=(HM.out wr Hok.out).1.cell 2;simp at c51
   have HP3:=ae (put_any (wr.alloc (.cells #[.int .i64 (n3:Int)] 3)) (w.heap.size+1) _ (Hpk.out.alloc _) (fun b=>b=wr.heap.size) (.slice (some ⟨wr.heap.size,0,none⟩) 1 1) [(n3:Int)] (rows_new wr #[.int .i64 (n3:Int)] 3 1 rfl (by unfold maxLen;omega)) (fun b hb=>by have:=Hpk.out.lt;omega) (by
    intro n hn;simp at hn;subst hn
    omega) (by simp) (by
    have h1:=codeB_le m m.items.length;have h2:=HC.out.len
    omega))
   clear Hpk;go_wp2_with fail;refine HP3.out.mono ?_;rintro e w8 ⟨rfl,hp8,ho8⟩
   have Hp8:=ae (show PutAt w8 (w.heap.size+1) (codeC m 0) by
    rw[codeC_zero,Hn3.out]
    simpa using hp8)
   have ho8':=(Hok.out.trans (aK.of_below (F:=fun b=>b=w.heap.size+1) (aE wr _)) (fun i h=>.inl h)).trans ho8 (fun i h=>.inl h);have Ho8:=ae ho8';have c81:=(HM.out w8 ho8').1.cell 2;simp at c81;clear HP3 hp8 ho8 ho8' c51 Hok hkI hke hkn hk;go_wp2_with fail
   go_loopw [50] (fun i wr=>∃ k:Nat,k <= n3 /\ i=.int .i64 (k:Int) /\ PutAt wr (w.heap.size+1) (codeC m k) /\ aK (fun b=>b=w.heap.size+1) w2 wr) (fun i _=>n3 - (intOf i).toNat)
   case atStart=>exact⟨0,by omega,rfl,Hp8.out,Ho8.out⟩
   case round=>
    obtain⟨k,hk,rfl,hpk,hok⟩:=hrel;have Hok:=ae hok;clear hok Hp8 Ho8
    by_cases hkn:k < n3
    ·have hkI:(k:Int) < (n3:Int):=by omega
     have hkl:k < m.gone.length:=by rw[Hn3.out];exact hkn
     obtain⟨-,hm⟩:=HM.out wr Hok.out;obtain⟨b,off,rfl,hFb,-,hc⟩:=eF hm.gone (by omega);obtain⟨e0,e1,e2⟩:=hc k hkl
     obtain⟨x,hx⟩:∃ x,m.gone[k]=x:=⟨_,rfl⟩
     rw[hx] at e0 e1 e2;have hxc:=HC.out.gone x (by rw[<- hx];exact aA hkl);have hlb:(codeC m k).length <= 1000000000:=au (codeC_le m k) HC.out.len;have hsuc:=codeC_succ m k hkl;rw[hx] at hsuc
     have hlb1:(codeC m k ++ codeText x.key).length <= 2000000000:=by
      have:=codeText_len x.key hxc.1;rw[ax];omega
     obtain⟨L0,hL0⟩:∃ L0,codeC m k=L0:=⟨_,rfl⟩
     rw[hL0] at hpk hlb hsuc hlb1
     obtain⟨N0,hN0⟩:∃ N0,L0.length=N0:=⟨_,rfl⟩
     obtain⟨v0,hb0,hby0⟩:=hpk;have hbyA:=hby0.keep (w':=wr.alloc (.cells #[.string ⟨x.key.toArray⟩,.int .i64 x.dev,.int .i64 x.seq] 111)) fun b _ hlt=>Below.heap_alloc _ _ _ hlt
     have HP:=ae (putText_any _ _ v0 L0 hbyA x.key (by have:=hxc.1;omega) (by omega));have Hpk:=ae (show PutAt (wr.alloc (.cells #[.string ⟨x.key.toArray⟩,.int .i64 x.dev,.int .i64 x.seq] 111)) (w.heap.size+1) L0 from (show PutAt wr _ L0 from ⟨v0,hb0,hby0⟩).alloc _);obtain⟨a0,cap0,rfl,-⟩:=hby0;have q0:=hb0.cell 0;simp at q0;have f0:=hb0.free 0;have hbz:w.heap.size+1 < wr.heap.size:=hb0.lt;have hXB:=Blk.new wr #[.string ⟨x.key.toArray⟩,.int .i64 x.dev,.int .i64 x.seq] 111;have HXB:=ae hXB;rw[hN0] at q0 HP;have Hx:=ae hx;have Hsuc:=ae hsuc;have Hxc:=ae hxc;have Hlb1:=ae hlb1;clear hc hm hx hb0 hsuc hxc hL0 hN0 hbyA hlb hXB hlb1;go_wp2_with fail;refine HP.out.mono ?_;rintro e w5 ⟨⟨r5,rfl,ho5⟩,hb5⟩;obtain⟨hp5,ho6⟩:=Hpk.out.stored hb5 ho5 (aq _)
     obtain⟨v1,hbb⟩:∃ v1,Blk w5 (w.heap.size+1) [v1] 41:=by
      obtain⟨v1,h1,-⟩:=Hpk.out;exact⟨v1,h1.keep (hb5.block _ h1.lt)⟩
     obtain⟨N5,hN5⟩:∃ N5,(L0 ++ codeText x.key).length=N5:=⟨_,rfl⟩
     obtain⟨a5,c5,hr5⟩:=own_shape ho5;rw[hN5] at hr5;subst hr5;have q5:=hbb.cell 0;simp at q5;have f5:=hbb.free 0
     obtain⟨w6,hw6⟩:∃ w6,w6=w5.setCell ⟨w.heap.size+1,0,none⟩ (.slice a5 N5 c5):=⟨_,rfl⟩
     rw[<- hw6] at hp5 ho6
     have hX6:Blk w6 wr.heap.size [.string ⟨x.key.toArray⟩,.int .i64 x.dev,.int .i64 x.seq] 111:=by
      rw[hw6];exact(HXB.out.keep (hb5.block _ HXB.out.lt)).set_other _ (by simp;omega)
     have hX5:=HXB.out.keep (hb5.block _ HXB.out.lt);have x0:=hX5.cell 0;have x1:=hX5.cell 1;have x2:=hX5.cell 2
     skip
     simp at x0 x1 x2;have hne5:wr.heap.size≠w.heap.size+1:=by omega
     clear hbz;have hB6:aK (fun b=>b=w.heap.size+1) wr w6:=(aK.of_below (aE wr _)).trans ho6 (fun i hi=>.inl hi);have Hw6:=ae hw6;have hz6:w6.heap.size=w5.heap.size:=by rw[hw6];simp[World.setCell]
     have hP2:=(put_any _ _ _ (hp5.alloc (.cells #[.int .i64 x.dev,.int .i64 x.seq] 3)) (fun b=>b=w6.heap.size) (.slice (some ⟨w6.heap.size,0,none⟩) 2 2) [x.dev,x.seq] (rows_new w6 #[.int .i64 x.dev,.int .i64 x.seq] 3 2 rfl (by unfold maxLen;omega)) (fun b hb=>by have:=hp5.lt;omega) (by
      have h:=Hxc.out;intro n hn;simp at hn
      rcases hn with rfl | rfl <;> simp[h]) (by simp) (by have:=Hlb1.out;omega))
     rw[hz6] at hP2;have HP2:=ae hP2;have HB6:=ae (Hok.out.trans hB6 (fun i h=>.inl h));clear HP hN5 hbb hp5 ho6 ho5 hb5 hX5 hX6 hB6 hw6 q0 f0 Hpk hP2 hz6;go_wp2_with fail;rw[<- Hw6.out];refine HP2.out.mono ?_;rintro e w7 ⟨rfl,hp7,ho7⟩;rw[<- Hsuc.out] at hp7;have Hp7:=ae hp7;have Ho7:=ae ((HB6.out.trans (aK.of_below (F:=fun b=>b=w.heap.size+1) (aE w6 _)) (fun i h=>.inl h)).trans ho7 (fun i h=>.inl h));clear hp7 ho7 HP2;go_wp2_with fail
     go_roundw
     case rel=>exact⟨k+1,by omega,by go_num,Hp7.out,Ho7.out⟩
     case measure=>simp[intOf];omega
    ·have hkI:¬ (k:Int) < (n3:Int):=by omega
     have hke:k=m.gone.length:=by rw[Hn3.out];omega
     have Hpk:=ae (show PutAt wr (w.heap.size+1) (codeC m m.gone.length) by rw[hke] at hpk;exact hpk);clear hpk;rw[codeC_all] at Hpk;obtain⟨v9,hb9,hby9⟩:=Hpk.out;have q9:=hb9.cell 0;simp at q9
     obtain⟨N9,hN9⟩:∃ N9,(codeR m).length=N9:=⟨_,rfl⟩
     obtain⟨a9,c9,hv9,rest⟩:=id hby9;rw[hN9] at hv9;subst hv9;have Hby9:=ae hby9;have HB9:=ae (Hb2.out.trans (Hok.out.below (B:=w.heap.size) (fun i hi=>by omega) (by have:=Hz2.out;omega)));clear hb9 hby9 rest hN9 Hpk;go_wp2_with fail
     go_ret
     exact⟨⟨_,rfl,Hby9.out.mono fun _ _=>trivial⟩,HB9.out⟩
end Go.Proofs.YtobjdpngnfbicaaGreatDoor
