/-
  ULight JL4 JA JV RWorks
-/
import Derived.Test.YtobjdpngnfbicaaGreatDoorZK39
import Derived.Test.YtobjdpngnfbicaaGreatDoorZK23
import Derived.Test.YtobjdpngnfbicaaGreatDoorZK38
import Derived.Test.YtobjdpngnfbicaaGreatDoorZK35
import Derived.Test.YtobjdpngnfbicaaGreatDoorZK15
import Derived.Maps.Own
import Derived.Maps.Views
import Derived.Test.YtobjdpngnfbicaaGreatDoorZK02
open Go.Lib renaming hid->ae
open Go.IntWalk renaming i64_in->af
open Nat renaming le_refl->aq,le_trans->au
open List renaming getElem_mem->aA,length_cons->aB
open Go.Proofs.Tryz renaming prog->aC
namespace Go.Proofs.YtobjdpngnfbicaaGreatDoor
open Go.RowKit
set_option linter.unusedVariables false
set_option maxRecDepth 20000
section
open Go.Lib
attribute [local go_sem] opC upC
def tF (A:List gL):Prop:=A.length <= 60 /\ ∀ a ∈ A,om a
def pH (w:World) (A:List gL) (e:Ending) (w':World):Prop:=w=w' /\ ∃ r:Bool,e=.returned (.bool r) /\ (r=true -> tF A)
set_option maxRecDepth 100000 in
set_option maxHeartbeats 4000000 in
theorem kU (w:World) (lo:Nat) (v:Value) (A:List gL) (h:iO w lo v A) (hlo:lo <= w.heap.size):
 Calls aC 9 #[v] w (pH w A):=by
 obtain⟨a,cap,rfl,h9,hx⟩:=h
 obtain⟨n,hn⟩:∃ n,A.length=n:=⟨_,rfl⟩
 rw[hn] at h9 ⊢;have Hx:=ae hx;have Hn:=ae hn;clear hx hn
 by_cases h60:n <= 60
 case neg=>
  have h60I:¬ (n:Int) <= 60:=by omega
  have h60J:(60:Int) < (n:Int):=by omega
  go_enter Tryz.func9,Tryz.ntmps9
  go_wp2_with fail
  go_ret
  exact⟨rfl,false,rfl,nofun⟩
 have h60I:(n:Int) <= 60:=by omega
 go_enter Tryz.func9,Tryz.ntmps9
 go_wp2_with fail
 go_loopw [3] (fun i wr=>∃ k:Nat,k <= n /\ i=.int .i64 (k:Int) /\ (∀ j (h:j < A.length),j < k -> om A[j]) /\ w=wr) (fun i _=>n - (intOf i).toNat)
 case atStart=>exact⟨0,by omega,rfl,fun j h hj=>by omega,rfl⟩
 case round=>
  rename World=>wo
  obtain⟨k,hk,rfl,hsh,rfl⟩:=hrel;have Hsh:=ae hsh;clear hsh
  by_cases hkn:k < n
  ·have hkI:(k:Int) < (n:Int):=by omega
   have hkA:k < A.length:=by rw[Hn.out];exact hkn
   obtain⟨b,off,rfl,hblt,hc⟩:=Hx.out.resolve_left (by intro e;rw[e] at hkA;simp at hkA);obtain⟨q1,q2,q3,xk,ck,x1,c1,x2,c2,x3,c3,d0,d1,d2,d3,d4,d5,d6,hR,hM⟩:=hc k hkA
   obtain⟨y,hy⟩:∃ y,A[k]=y:=⟨_,rfl⟩
   rw[hy] at q1 q2 q3 d0 d1 d2 d3 d4 d5 d6 hR hM
   obtain⟨nk,hnk⟩:∃ q,y.keys.length=q:=⟨_,rfl⟩
   obtain⟨ns,hns⟩:∃ q,y.m.seen.length=q:=⟨_,rfl⟩
   obtain⟨ni,hni⟩:∃ q,y.m.items.length=q:=⟨_,rfl⟩
   obtain⟨ng,hng⟩:∃ q,y.m.gone.length=q:=⟨_,rfl⟩
   rw[hnk] at d1;rw[hns] at d2;rw[hni] at d3;rw[hng] at d4;have Hy:=ae hy;have Hq:=ae (show (0 <= y.kind /\ y.kind <= 255) /\ cw y.n from ⟨q1,q2⟩);have HR:=ae hR;have Hnk:=ae hnk;have Hns:=ae hns;have Hni:=ae hni;have Hng:=ae hng;clear q1 q2 q3 d0 d5 d6 hR hM hc hy hnk hns hni hng
   by_cases b1:nk <= 20
   case neg=>
    have b1I:(20:Int) < (nk:Int):=by omega
    go_wp2_with fail
    go_ret
    exact⟨rfl,false,rfl,nofun⟩
   have b1I:¬ (20:Int) < (nk:Int):=by omega
   by_cases b2:ni <= 20
   case neg=>
    have b2I:(20:Int) < (ni:Int):=by omega
    go_wp2_with fail
    go_ret
    exact⟨rfl,false,rfl,nofun⟩
   have b2I:¬ (20:Int) < (ni:Int):=by omega
   by_cases b3:ng <= 20
   case neg=>
    have b3I:(20:Int) < (ng:Int):=by omega
    go_wp2_with fail
    go_ret
    exact⟨rfl,false,rfl,nofun⟩
   have b3I:¬ (20:Int) < (ng:Int):=by omega
   by_cases b4:ns <= 20
   case neg=>
    have b4I:(20:Int) < (ns:Int):=by omega
    go_wp2_with fail
    go_ret
    exact⟨rfl,false,rfl,nofun⟩
   have b4I:¬ (20:Int) < (ns:Int):=by omega
   go_wp2_with fail
   go_loopw [4] (fun i wr=>∃ q:Nat,q <= nk /\ i=.int .i64 (q:Int) /\ (∀ j (h:j < y.keys.length),j < q -> y.keys[j].length <= 60) /\ w=wr) (fun i _=>nk - (intOf i).toNat)
   case atStart=>exact⟨0,by omega,rfl,fun j h hj=>by omega,rfl⟩
   case round=>
    obtain⟨q,hqk,rfl,hks,rfl⟩:=hrel;have Hks:=ae hks;clear hks
    by_cases hqn:q < nk
    ·have hqI:(q:Int) < (nk:Int):=by omega
     have hql:q < y.keys.length:=by rw[Hnk.out];exact hqn
     have hv:=HR.out;rw[Hnk.out] at hv;rw[<- Hnk.out] at hv;obtain⟨bk,ofk,rfl,-,-,hcs⟩:=fZ hv (by omega);have e0:=hcs q hql
     obtain⟨z,hz⟩:∃ z,y.keys[q]=z:=⟨_,rfl⟩
     rw[hz] at e0;have Hz:=ae hz;clear hv hcs hz
     by_cases b5:z.length <= 60
     ·have b5I:¬ (60:Int) < (z.length:Int):=by omega
      go_wp2_with fail
      go_roundw
      case rel=>exact⟨q+1,by omega,by go_num,fun j hj hjk=>by
       by_cases e:j=q
       ·subst e;rw[Hz.out];exact b5
       ·exact Hks.out j hj (by omega),trivial⟩
      case measure=>simp[intOf];omega
     ·have b5I:(60:Int) < (z.length:Int):=by omega
      go_wp2_with fail
      go_ret
      exact⟨rfl,false,rfl,nofun⟩
    ·have hqI:¬ (q:Int) < (nk:Int):=by omega
     have hok:om y:=⟨Hq.out.1,Hq.out.2,by rw[Hnk.out];exact b1,fun x hx=>by
      obtain⟨i,hi,rfl⟩:=List.getElem_of_mem hx
      exact Hks.out i hi (by rw[Hnk.out] at hi;omega),by rw[Hni.out];exact b2,by rw[Hng.out];exact b3,by rw[Hns.out];exact b4⟩
     have Hok:=ae hok;clear hok;go_wp2_with fail
     exact⟨⟨k+1,by omega,by go_num,fun j hj hjk=>by
      by_cases e:j=k
      ·subst e;rw[Hy.out];exact Hok.out
      ·exact Hsh.out j hj (by omega),trivial⟩,by simp[intOf];omega⟩
  ·have hkI:¬ (k:Int) < (n:Int):=by omega
   obtain rfl:k=n:=by omega
   go_wp2_with fail
   go_ret
   refine⟨rfl,true,rfl,fun _=>⟨by rw[Hn.out];exact h60,fun a ha=>?_⟩⟩;obtain⟨i,hi,rfl⟩:=List.getElem_of_mem ha;exact Hsh.out i hi (by rw[<- Hn.out];exact hi)
end
section
open Go.ChangeShapes Go.WideShapes Go.ChangeAt
attribute [local go_sem] opC upC
end
section
open Go.ChangeShapes Go.WideShapes Go.ChangeAt
attribute [local go_sem] opC upC
end
section
open Go.ChangeShapes Go.WideShapes Go.ChangeAt
end
end Go.Proofs.YtobjdpngnfbicaaGreatDoor
namespace Go.Proofs.YtobjdpngnfbicaaGreatDoor
open Go.RowKit Go.Maps Go.WideMaps
set_option linter.unusedVariables false
set_option maxRecDepth 20000
attribute [local go_sem] opC upC
abbrev i64L (n:Int):DataW Unit:=.lit (.int .i64 n)
theorem lawS:Keyed aC 9:=string_keyed Tryz.underlying9
theorem zeroI (w:World):(zeroValue 3).run aC w=.ok (.int .i64 0) w:=by kernel_rfl
def vsum (m:RMap) (l:List RIt) (k:RKey):Int:=((l.filter fun x=>decide (x.key=k)).map (valIt m)).sum
theorem vsum_all (m:RMap) (k:RKey):vsum m m.items k=valueM m k:=rfl
theorem vsum_snoc (m:RMap) (l:List RIt) (x:RIt) (k:RKey):vsum m (l ++ [x]) k=vsum m l k+if x.key=k then valIt m x else 0:=by
 unfold vsum;rw[List.filter_append,List.map_append,List.sum_append]
 by_cases h:x.key=k <;> simp[h]
structure SumD (m:RMap) (k:Nat) (D:DataW Unit):Prop where
 isMap:IsMap D
 at_:∀ key:RKey,D.atKey (.string key) (i64L 0)=i64L (vsum m (m.items.take k) key)
 has_:∀ key:RKey,Maps.has D (.string key)=(m.items.take k).any fun x=>decide (x.key=key)
theorem SumD.start (m:RMap):SumD m 0 (.map []):=⟨isMap_empty,fun _=>rfl,fun _=>rfl⟩
theorem SumD.step {m:RMap} {k:Nat} {D:DataW Unit} (h:SumD m k D) (hk:k < m.items.length):SumD m (k+1) (D.put (.string m.items[k].key) (i64L (vsum m (m.items.take k) m.items[k].key+valIt m m.items[k]))):=by
 refine⟨h.isMap.put _ _,fun key=>?_,fun key=>?_⟩
 ·rw[List.take_succ_eq_append_getElem hk,vsum_snoc]
  by_cases e:m.items[k].key=key
  ·subst e;rw[atKey_put_same h.isMap (by trivial),if_pos rfl]
  ·rw[atKey_put_other (by simpa using fun h=>e h.symm),h.at_,if_neg e,Int.add_zero]
 ·rw[List.take_succ_eq_append_getElem hk,List.any_append]
  by_cases e:m.items[k].key=key
  ·subst e;rw[has_put_same h.isMap (by trivial)];simp
  ·rw[has_put_other (by simpa using fun h=>e h.symm),h.has_];simp[e]
theorem valIt_le {m:RMap} (f:Formed m) {x:RIt} (hx:x ∈ m.items):0 <= valIt m x /\ valIt m x <= 16777216:=by
 refine⟨valIt_nonneg m x,?_⟩;have hv:=f.val x hx;unfold valIt decAft;rw[DM.bnd_id x.val (by omega) (by omega)];have:=DM.aft_le (m.seen.getD x.dev.toNat 0 - x.seq).toNat x.val (by omega);omega
theorem vsum_le (m:RMap) (k:RKey):∀ l:List RIt,(∀ x ∈ l,0 <= valIt m x /\ valIt m x <= 16777216) -> 0 <= vsum m l k /\ vsum m l k <= 16777216 * l.length
 | [],_=>by simp[vsum]
 | x :: l,h=>by
   have h1:=h x List.mem_cons_self;have h2:=vsum_le m k l fun y hy=>h y (List.mem_cons_of_mem _ hy)
   unfold vsum at h2 ⊢;rw[List.filter_cons];split
   ·rw[List.map_cons,List.sum_cons,aB];omega
   ·rw[aB];omega
def SumsPost (w:World) (m:RMap) (e:Ending) (w':World):Prop:=
 (∃ B D,e=.returned (.map (some B)) /\ w.heap.size <= B /\ w'.ownsMap aC 9 (plainElem (H:=Unit) aC 3) B m.items.length D /\ SumD m m.items.length D) /\ Below w.heap.size w w'
set_option maxRecDepth 100000 in
set_option maxHeartbeats 3000000 in
theorem sums_any (w:World) (F:aV) (v:Value) (m:RMap) (h:cY F w v m) (f:Formed m) (hl:m.items.length <= 1000000):
 Calls aC 84 #[v] w (SumsPost w m):=by
 replace h:=h.mono (G:=fun b=>b < w.heap.size) fun b _ hlt=>hlt
 obtain⟨s1,s2,s3,rfl,h⟩:=h;obtain⟨a1,p1,rfl,-⟩:=h.seen.shape;obtain⟨a2,p2,rfl,-⟩:=h.items.shape;obtain⟨a3,p3,rfl,-⟩:=h.gone.shape;have l1:=h.seen.len;have l2:=h.items.len;have l3:=h.gone.len;unfold maxLen at l1 l2 l3
 obtain⟨n1,hn1⟩:∃ n,m.seen.length=n:=⟨_,rfl⟩
 obtain⟨n2,hn2⟩:∃ n,m.items.length=n:=⟨_,rfl⟩
 obtain⟨n3,hn3⟩:∃ n,m.gone.length=n:=⟨_,rfl⟩
 rw[hn1,hn2,hn3] at h;rw[hn1] at l1 ⊢;rw[hn2] at l2 ⊢;rw[hn3] at l3 ⊢
 obtain⟨wx,hwx⟩:∃ wx,wx=w.alloc (.cells #[.slice a1 n1 p1,.slice a2 n2 p2,.slice a3 n3 p3] 37):=⟨_,rfl⟩
 have hbx:Below w.heap.size w wx:=by rw[hwx];exact aE _ _
 have hzx:wx.heap.size=w.heap.size+1:=by rw[hwx];simp
 have hx:=h.keep (w':=wx) fun b _ hlt=>hbx.block b hlt
 have hnx:Blk wx w.heap.size [.slice a1 n1 p1,.slice a2 n2 p2,.slice a3 n3 p3] 37:=by rw[hwx];exact Blk.new _ _ _
 have Hx:=ae hx;have Hn1:=ae hn1;have Hn2:=ae hn2;have Hn3:=ae hn3;have Hwx:=ae hwx;have Hbx:=ae hbx;have Hzx:=ae hzx;have c0:=hnx.cell 0;have c1:=hnx.cell 1;have c2:=hnx.cell 2;simp at c0 c1 c2;have Hnx:=ae hnx;clear hx hn1 hn2 hn3 hwx hbx hnx hzx;rw[Hn2.out] at hl;clear h
 obtain⟨w2,hw2⟩:∃ w2,w2=wx.alloc (.map #[] 0):=⟨_,rfl⟩
 have hmm:=@run_makeMap aC;have hz2:w2.heap.size=w.heap.size+2:=by rw[hw2];simp[Hzx.out]
 have hb2:Below (w.heap.size+1) wx w2:=by rw[hw2];exact(Below.refl _ _).alloc (by rw[Hzx.out];exact aq _) _
 have hown2:w2.ownsMap aC 9 (plainElem (H:=Unit) aC 3) (w.heap.size+1) 0 (.map []):=by
  have:=World.ownsMap_made (H:=Unit) wx aC 9 (plainElem aC 3);rw[hw2,<- Hzx.out];exact this
 have HM:=ae (show ∀ W,Below (w.heap.size+1) wx W -> (W.cell? ⟨w.heap.size,0,none⟩=some (.slice a1 n1 p1) /\ W.cell? ⟨w.heap.size,1,none⟩=some (.slice a2 n2 p2) /\ W.cell? ⟨w.heap.size,2,none⟩=some (.slice a3 n3 p3)) /\ bJ (fun b=>b < w.heap.size) W (.slice a1 n1 p1) (.slice a2 n2 p2) (.slice a3 n3 p3) m from fun W hb=>
  ⟨cell3 (Hnx.out.keep (hb.block _ (by omega))),Hx.out.keep fun b hb' hlt=>hb.block b (by omega)⟩)
 have Hw2:=ae hw2;have Hb2:=ae hb2;have Hz2:=ae hz2;have Hown2:=ae hown2;have Hf:=ae f;clear hw2 hb2 hz2 hown2 f Hx Hnx
 go_enter Tryz.func84,Tryz.ntmps84
 go_wp2_with fail;rw[<- Hwx.out,<- Hw2.out];clear hmm
 go_loopw [10] (fun i wr=>∃ (k:Nat) (D:DataW Unit),k <= n2 /\ i=.int .i64 (k:Int) /\ Below (w.heap.size+1) wx wr /\ w.heap.size+2 <= wr.heap.size /\ wr.ownsMap aC 9 (plainElem aC 3) (w.heap.size+1) k D /\ SumD m k D) (fun i _=>n2 - (intOf i).toNat)
 case atStart=>exact⟨0,_,by omega,rfl,Hb2.out,by rw[Hz2.out];exact aq _,Hown2.out,SumD.start m⟩
 case round=>
  obtain⟨k,D,hk,rfl,hbw,hsz,hown,hD⟩:=hrel;have Hbw:=ae hbw;have Hown:=ae hown;have HD:=ae hD;have Hsz:=ae hsz;clear hbw hown hD hsz c0 c1 c2
  by_cases hkn:k < n2
  ·have hkI:(k:Int) < (n2:Int):=by omega
   have hkl:k < m.items.length:=by rw[Hn2.out];exact hkn
   obtain⟨⟨d0,d1,d2⟩,hmp⟩:=HM.out wr Hbw.out;obtain⟨b,off,rfl,-,-,hc⟩:=eE hmp.items (by omega);obtain⟨e0,e1,e2,e3⟩:=hc k hkl;have hst:=HD.out.step hkl
   obtain⟨x,hx⟩:∃ x,m.items[k]=x:=⟨_,rfl⟩
   rw[hx] at e0 e1 e2 e3 hst;have hxm:x ∈ m.items:=by rw[<- hx];exact aA hkl
   obtain⟨k1,k2,k3,k4⟩:=known_seq (Hf.out.iknown x hxm);obtain⟨q,hq⟩:=Int.eq_ofNat_of_zero_le k1;have hq':x.dev=(q:Int):=hq;have hqs:q < m.seen.length:=by rw[hq] at k2;omega
   have hq8:q < 8:=by have:=Hf.out.len;omega
   obtain⟨bs,os,rfl,-,-,hcs⟩:=fY hmp.seen (by omega);have g0:=hcs q hqs
   obtain⟨s,hs⟩:∃ s,m.seen[q]=s:=⟨_,rfl⟩
   rw[hs] at g0
   have hget:m.seen.getD x.dev.toNat 0=s:=by
    rw[hq',Int.toNat_natCast,List.getD_eq_getElem?_getD,List.getElem?_eq_getElem hqs,hs];rfl
   have hsle:=Hf.out.seen s (by rw[<- hs];exact aA hqs);have k4':x.seq <= s:=by rw[<- hget];exact k4
   have k3':1 <= x.seq:=k3;have hvx:=valIt_le Hf.out hxm;have hvd:valIt m x=DM.aft (s - x.seq).toNat (DM.bnd x.val):=by unfold valIt decAft;rw[hget]
   have hvs:=vsum_le m x.key (m.items.take k) (fun y hy=>valIt_le Hf.out (List.mem_of_mem_take hy));have htl:(m.items.take k).length=k:=by rw[List.length_take];omega
   rw[htl] at hvs;have hat:=HD.out.at_ x.key
   obtain⟨c,hcv⟩:∃ c,vsum m (m.items.take k) x.key=c:=⟨_,rfl⟩
   rw[hcv] at hat hvs hst
   obtain⟨u,hu⟩:∃ u,valIt m x=u:=⟨_,rfl⟩
   rw[hu] at hvx hvd hst;obtain⟨xk,xd,xs,xv⟩:=x;dsimp only at e0 e1 e2 e3 hq' hst hat hvd k4' k3';subst hq';have hkl':=(hmp.itemsB _ hxm).1;dsimp only at hkl';have hkey:keyOf aC 9 (.string ⟨xk.toArray⟩)=some (.string xk):=keyOf_string_mk Tryz.underlying9 (show xk.toArray.size <= maxLen by unfold maxLen;simpa using hkl')
   obtain⟨wb,hwb⟩:∃ wb,wb=wr.alloc (.cells #[.string ⟨xk.toArray⟩,.int .i64 (q:Int),.int .i64 xs,.int .i64 xv] 108):=⟨_,rfl⟩
   have hbb:Below wr.heap.size wr wb:=by rw[hwb];exact aE _ _
   have hXB:Blk wb wr.heap.size [.string ⟨xk.toArray⟩,.int .i64 (q:Int),.int .i64 xs,.int .i64 xv] 108:=by rw[hwb];exact Blk.new _ _ _
   have hz:w.heap.size+2 <= wr.heap.size:=Hsz.out
   have HLook:=ae (show ∀ w',aI wb.drew w' -> w'.ownsMap aC 9 (plainElem (H:=Unit) aC 3) (w.heap.size+1) k D from fun w' hh=>by
    have hb:Below wr.heap.size wr w':=hbb.trans (((Below.refl _ _).drew.trans hh).mono hbb.size)
    exact Hown.out.kept (row:=none) ⟨hb.os,hb.tape,hb.output,hb.size,fun i hi _=>hb.block i hi⟩ (by simp))
   have hlook:∀ w',aI wb.drew w' -> (Instr.lookup 134 (.map (some (w.heap.size+1))) (.string ⟨xk.toArray⟩) false).run aC w'=.ok (.int .i64 c) w':=fun w' hh=>by
    obtain⟨c',hrun,hat',-⟩:=(HLook.out w' hh).lookup_int lawS Tryz.underlying134 Tryz.underlying3 (zeroI w') hkey;rw[hat] at hat';injection hat' with hat'
    injection hat' with _ hat'
    rw[hrun,hat']
   obtain⟨x0,x1,x2,x3⟩:=cell4 hXB;have hlt0:∀ {a:Addr} {u:Value},wr.cell? a=some u -> wb.cell? a=some u:=fun {a u} h=>(hbb.cell (cellLt h)).trans h
   have px0:∀ w',aI wb.drew w' -> w'.cell? _=_:=fun w' hh=>laterC x0 hh
   have px1:∀ w',aI wb.drew w' -> w'.cell? _=_:=fun w' hh=>laterC x1 hh
   have px2:∀ w',aI wb.drew w' -> w'.cell? _=_:=fun w' hh=>laterC x2 hh
   have px3:∀ w',aI wb.drew w' -> w'.cell? _=_:=fun w' hh=>laterC x3 hh
   have pm0:∀ w',aI wb.drew w' -> w'.cell? _=_:=fun w' hh=>laterC (hlt0 d0) hh
   have pg0:∀ w',aI wb.drew w' -> w'.cell? _=_:=fun w' hh=>laterC (hlt0 g0) hh
   have hA:=lA xv (s - xs) wb.drew (by omega);rw[<- hvd] at hA;have HA:=ae hA;have hs1:IntKind.i64.wrap (s - xs)=s - xs:=af _ (by omega);have hs2:IntKind.i64.wrap (c+u)=c+u:=af _ (by omega);have hs0:IntKind.i64.wrap (q:Int)=(q:Int):=af _ (by omega);have hqI:(q:Int) < (n1:Int):=by have:=Hn1.out;omega
   have Hst:=ae hst;have Hwb:=ae hwb;have Hbb:=ae hbb;have Hkey:=ae hkey;have Hcu:=ae (show -9223372036854775808 <= c+u /\ c+u <= 9223372036854775807 by omega);clear hc hcs hx hs hget hsle k1 k2 k3 k4 k3' k4' hvx hvd hvs htl hat hcv hu hkl' hkey hwb hbb hXB hA hst x0 x1 x2 x3 g0 d0 d2 hlt0 hq hmp hxm;go_wp2_with fail;rw[<- Hwb.out];refine bh aI 17 [(0,true),(1,true),(2,true),(3,true),(4,true),(5,true),(6,true),(7,true),(8,true),(9,true),(10,true),(11,true),(12,true),(13,true),(14,true),(15,false),(16,true),(17,false)] (by kernel_rfl) (by kernel_rfl) (by kernel_rfl) aH aG ?_
   repeat (refine aX (v:=?_) rfl (aD rfl) (fun w' hC=>?_) (fun K hK=>?_);rotate_left;(focus (go_simp;(try simp(disch:=omega) only[af]);first | done | exact rfl));go_simp;(try simp(disch:=omega) only[af]);refine hK _ ?_;clear hK K)
   refine bS rfl rfl (fun KK hK=>?_);go_simp;refine HA.out.mono ?_;rintro e w4 ⟨rfl,hb4⟩;refine⟨_,rfl,hb4,hK _ _ ?_⟩;clear hK KK HA px0 px1 px2 px3 pm0 pg0 hlook;go_simp;obtain⟨w5,hrun,hown5,hgr⟩:=(HLook.out w4 hb4).update lawS Tryz.underlying134 (by unfold maxLen;omega) Hkey.out (plainElem_int Tryz.underlying3 (a:=c+u) (WalkArith.wf_i64 Hcu.out))
   have hz5:w.heap.size+2 <= w5.heap.size:=by
    have h1:=Hbb.out.size;have h2:wb.drew.heap.size <= w4.heap.size:=RowKit.Below.size hb4;have h2':wb.heap.size <= w4.heap.size:=h2;have h3:=hgr.size;omega
   have hb5:Below (w.heap.size+1) wx w5:=by
    have h1:Below (w.heap.size+1) wx w4:=Hbw.out.trans ((Hbb.out.mono (by omega)).trans (((Below.refl _ _).drew.trans hb4).mono (show w.heap.size+1 <= wb.heap.size by have:=Hbb.out.size;omega)));exact h1.grown hgr (au (by have:=Hbw.out.size;have:=Hzx.out;omega) h1.size) (fun j hj=>by cases hj;exact aq _)
   have Hown5:=ae hown5;have Hb5:=ae hb5;clear hown5 hb5 hgr hb4
   repeat (refine aX (v:=?_) rfl (aD rfl) (fun w' hC=>?_) (fun K hK=>?_);rotate_left;(focus (go_simp;(try simp(disch:=omega) only[af]);first | done | exact rfl));go_simp;(try simp(disch:=omega) only[af]);refine hK _ ?_;clear hK K)
   refine bK rfl rfl rfl (fun KK hK=>?_);go_simp;refine hK _ _ ?_;clear hK KK;go_simp;refine bR ?_;clear hrun;go_wp2_with fail
   go_roundw
   case rel=>exact⟨k+1,_,by omega,by go_num,Hb5.out,hz5,Hown5.out,Hst.out⟩
   case measure=>simp[intOf];omega
  ·have hkI:¬ (k:Int) < (n2:Int):=by omega
   have hkl:k=m.items.length:=by rw[Hn2.out];omega
   have Hfin:=ae (show wr.ownsMap aC 9 (plainElem aC 3) (w.heap.size+1) m.items.length D /\ SumD m m.items.length D from by rw[<- hkl];exact⟨Hown.out,HD.out⟩);have Hbel:=ae (Hbx.out.trans (Hbw.out.mono (Nat.le_succ _)));clear hkl;go_wp2_with fail
   go_ret
   exact⟨⟨_,D,rfl,Nat.le_succ _,Hfin.out.1,Hfin.out.2⟩,Hbel.out⟩
set_option maxRecDepth 100000 in
set_option maxHeartbeats 1500000 in
theorem pvalue_any (w:World) (hT:cL w) (h3:4 <= w.heap.size) (F:aV) (v:Value) (m:RMap) (h:cY F w v m) (hki:∀ x ∈ m.items,x.key.length <= 1000000) (hkg:∀ x ∈ m.gone,x.key.length <= 1000000) (key:RKey) (hk:key.length <= 9223372036854775807):
 Calls aC 42 #[v,.string ⟨key.toArray⟩] w fun e w'=>e=.returned (.int .i64 (valueR m key)) /\ Below w.heap.size w w':=by
 replace h:=h.mono (G:=fun b=>b < w.heap.size) fun b _ hlt=>hlt
 obtain⟨s1,s2,s3,rfl,h⟩:=h;obtain⟨a1,p1,rfl,-⟩:=h.seen.shape;obtain⟨a2,p2,rfl,-⟩:=h.items.shape;obtain⟨a3,p3,rfl,-⟩:=h.gone.shape;have l1:=h.seen.len;have l2:=h.items.len;have l3:=h.gone.len;unfold maxLen at l1 l2 l3
 obtain⟨n1,hn1⟩:∃ n,m.seen.length=n:=⟨_,rfl⟩
 obtain⟨n2,hn2⟩:∃ n,m.items.length=n:=⟨_,rfl⟩
 obtain⟨n3,hn3⟩:∃ n,m.gone.length=n:=⟨_,rfl⟩
 rw[hn1,hn2,hn3] at h;rw[hn1] at l1 ⊢;rw[hn2] at l2 ⊢;rw[hn3] at l3 ⊢
 obtain⟨wx,hwx⟩:∃ wx,wx=w.alloc (.cells #[.slice a1 n1 p1,.slice a2 n2 p2,.slice a3 n3 p3] 37):=⟨_,rfl⟩
 have hbx:Below w.heap.size w wx:=by rw[hwx];exact aE _ _
 have hzx:wx.heap.size=w.heap.size+1:=by rw[hwx];simp
 have hx:=h.keep (w':=wx) fun b _ hlt=>hbx.block b hlt
 have hnx:Blk wx w.heap.size [.slice a1 n1 p1,.slice a2 n2 p2,.slice a3 n3 p3] 37:=by rw[hwx];exact Blk.new _ _ _
 have Hx:=ae hx;have Hn1:=ae hn1;have Hn2:=ae hn2;have Hn3:=ae hn3;have Hwx:=ae hwx;have Hbx:=ae hbx;have Hzx:=ae hzx;have c0:=hnx.cell 0;have c1:=hnx.cell 1;have c2:=hnx.cell 2;simp at c0 c1 c2;have Hnx:=ae hnx;clear hx hn1 hn2 hn3 hwx hbx hnx hzx;clear h;have HC:=ae (fA wx (bi hT h3 Hbx.out) (by rw[Hzx.out];omega) _ (.agg #[.slice a1 n1 p1,.slice a2 n2 p2,.slice a3 n3 p3]) m ⟨_,_,_,rfl,Hx.out⟩ hki hkg)
 obtain⟨ok,hok⟩:∃ ok,validR m=ok:=⟨_,rfl⟩
 obtain⟨r,hr⟩:∃ r,valueR m key=r:=⟨_,rfl⟩
 rw[hok] at HC;rw[hr];have Hok:=ae hok;have Hr:=ae hr;have hkey:keyOf aC 9 (.string ⟨key.toArray⟩)=some (.string key):=keyOf_string_mk Tryz.underlying9 (show key.toArray.size <= maxLen by unfold maxLen;simpa using hk);have Hkey:=ae hkey;clear hok hr hT hki hkg c0 c1 c2 hkey
 go_enter Tryz.func42,Tryz.ntmps42
 go_wp2_with fail;rw[<- Hwx.out];refine HC.out.mono ?_;rintro e w3 ⟨rfl,hb3⟩;have Hb3:=ae (Hbx.out.trans (hb3.mono Hbx.out.size));obtain⟨d0,d1,d2⟩:=cell3 (Hnx.out.keep (hb3.block _ Hnx.out.lt));have Hx3:=ae (Hx.out.keep (w':=w3) fun b _ hlt=>hb3.block b hlt);clear HC hb3;cases ok with
 | false=>
   obtain rfl:r=0:=by rw[<- Hr.out];unfold valueR;rw[Hok.out];rfl
   go_wp2_with fail
   go_ret
   exact⟨rfl,Hb3.out⟩
 | true=>
   have f:=valid_formed Hok.out;have HS:=ae (sums_any w3 _ (.agg #[.slice a1 n1 p1,.slice a2 n2 p2,.slice a3 n3 p3]) m ⟨_,_,_,rfl,Hx3.out⟩ f (by have:=(valid_lens Hok.out).2.1;omega));clear f;go_wp2_with fail;refine HS.out.mono ?_;rintro e w4 ⟨⟨B,D,rfl,-,hown,hD⟩,hb4⟩;obtain⟨c,hrun,hat,-⟩:=hown.lookup_int lawS Tryz.underlying134 Tryz.underlying3 (zeroI w4) Hkey.out
   have hc:c=r:=by
    have h1:=hD.at_ key;rw[hat,List.take_length,vsum_all] at h1;injection h1 with h1
    injection h1 with _ h1
    rw[h1,<- Hr.out];unfold valueR;rw[Hok.out];rfl
   subst hc;have Hb4:=ae (Hb3.out.trans (hb4.mono Hb3.out.size));clear hown hat hD hb4 HS;go_wp2_with fail
   go_ret
   exact⟨rfl,Hb4.out⟩
end Go.Proofs.YtobjdpngnfbicaaGreatDoor
/- works: the chapter's first example. -/
namespace Go.Proofs.YtobjdpngnfbicaaGreatDoor
open Go.RowKit
set_option linter.unusedVariables false
set_option maxRecDepth 20000
abbrev exK:RKey:=[49,97,0,98]
theorem sortK_one (k:RKey):sortK [k] = [k]:=List.mergeSort_singleton k
end Go.Proofs.YtobjdpngnfbicaaGreatDoor
