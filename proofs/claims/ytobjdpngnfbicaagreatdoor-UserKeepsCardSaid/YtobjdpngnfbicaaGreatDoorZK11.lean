/-
  RSearch
-/
import Derived.Test.YtobjdpngnfbicaaGreatDoorZK06
import Derived.Test.YtobjdpngnfbicaaGreatDoorZK10
import Derived.Laws.Cover1
import Derived.Sort.Walk0
import Derived.Laws.Shifts
open Go.Lib renaming hid->ae
open Go.IntWalk renaming i64_in->af
open Nat renaming le_refl->aq,le_trans->au,lt_of_lt_of_le->aw
open List renaming getElem_mem->aA
open Go.Proofs.Tryz renaming prog->aC
namespace Go.Proofs.YtobjdpngnfbicaaGreatDoor
open Go.RowKit
set_option linter.unusedVariables false
set_option maxRecDepth 20000
attribute [local go_sem] opC upC
theorem isNaNS_any (w:World) (a:List UInt8):
 Calls aC 209 #[.string ⟨a.toArray⟩] w fun e w'=>e=.returned (.bool false) /\ w=w':=by
 go_enter Tryz.func209,Tryz.ntmps209
 go_wp2_with fail
 go_ret
 exact⟨rfl,rfl⟩
def kcmp (a b:RKey):Int:=if a < b then -1 else if b < a then 1 else 0
theorem cmpS_any (w:World) (a b:List UInt8):
 Calls aC 208 #[.string ⟨a.toArray⟩,.string ⟨b.toArray⟩] w fun e w'=>e=.returned (.int .i64 (kcmp a b)) /\ w=w':=by
 have NA:=ae (isNaNS_any w a);have NB:=ae (isNaNS_any w b);unfold kcmp
 by_cases h1:a < b
 ·rw[if_pos h1];have hb:Op.bytesLess a b=true:=by rw[Go.Proofs.bytesLess_eq];simpa using h1
  go_enter Tryz.func208,Tryz.ntmps208
  go_wp2_with fail;refine NA.out.mono ?_;rintro e w' ⟨rfl,rfl⟩;go_wp2_with fail
  first
  | (refine NB.out.mono ?_;rintro e w' ⟨rfl,rfl⟩)
  | (refine NA.out.mono ?_;rintro e w' ⟨rfl,rfl⟩)
  go_wp2_with fail
  go_ret
  exact⟨rfl,rfl⟩
 rw[if_neg h1];have hb:Op.bytesLess a b=false:=by rw[Go.Proofs.bytesLess_eq];simpa using h1
 by_cases h2:b < a
 ·rw[if_pos h2];have hne:(a == b)=false:=by simp;rintro rfl;exact klt_irrefl _ h2
  clear h1 h2
  go_enter Tryz.func208,Tryz.ntmps208
  go_wp2_with fail;refine NA.out.mono ?_;rintro e w' ⟨rfl,rfl⟩;go_wp2_with fail
  first
  | (refine NB.out.mono ?_;rintro e w' ⟨rfl,rfl⟩)
  | (refine NA.out.mono ?_;rintro e w' ⟨rfl,rfl⟩)
  go_wp2_with fail
  go_ret
  exact⟨rfl,rfl⟩
 ·rw[if_neg h2];obtain rfl:=klt_tri h1 h2;clear h1 h2
  go_enter Tryz.func208,Tryz.ntmps208
  go_wp2_with fail;refine NA.out.mono ?_;rintro e w' ⟨rfl,rfl⟩;go_wp2_with fail
  first
  | (refine NB.out.mono ?_;rintro e w' ⟨rfl,rfl⟩)
  | (refine NA.out.mono ?_;rintro e w' ⟨rfl,rfl⟩)
  go_wp2_with fail
  go_ret
  exact⟨rfl,rfl⟩
def plV (p:RPl):Value:=.agg #[.string ⟨p.1.toArray⟩,.int .i64 p.2]
theorem or2_any (w:World) (x y:Int) (cs:World) (hcs:cs=w.alloc (.cells #[.int .i64 x,.int .i64 y] 3)):
 Calls aC 171 #[.slice (some ⟨w.heap.size,0,none⟩) 2 2] cs fun e w'=>e=.returned (.int .i64 (if x=0 then y else x)) /\ cs=w':=by
 have c0:cs.cell? ⟨w.heap.size,0,none⟩=some (.int .i64 x):=by
  have:=(Blk.new w #[.int .i64 x,.int .i64 y] 3).cell 0;rw[hcs];simp
 have c1:cs.cell? ⟨w.heap.size,1,none⟩=some (.int .i64 y):=by
  have:=(Blk.new w #[.int .i64 x,.int .i64 y] 3).cell 1;rw[hcs];simp
 clear hcs
 obtain⟨g,hg⟩:∃ g,w.heap.size=g:=⟨_,rfl⟩
 rw[hg] at c0 c1 ⊢;clear hg
 by_cases h1:x=0
 ·subst h1;rw[if_pos rfl]
  go_enter Tryz.func171,Tryz.ntmps171
  go_wp2_with fail
  go_loop [8] (fun i=>i=.int .i64 0 \/ i=.int .i64 1 \/ (y=0 /\ i=.int .i64 2)) (fun i=>2 - (intOf i).toNat)
  case atStart=>exact .inl rfl
  case round=>
   rcases hrel with rfl | rfl | ⟨rfl,rfl⟩
   ·go_wp2_with fail;exact⟨.inr (.inl rfl),by simp[intOf]⟩
   ·by_cases hy:y=0
    ·subst hy;go_wp2_with fail;exact⟨by simp,by simp[intOf]⟩
    ·have hy':(y != 0)=true:=by simp[hy]
     clear hy;go_wp2_with fail
     go_ret
     exact⟨rfl,rfl⟩
   ·go_wp2_with fail
    go_ret
    exact⟨rfl,rfl⟩
 ·rw[if_neg h1];have hx':(x != 0)=true:=by simp[h1]
  clear h1
  go_enter Tryz.func171,Tryz.ntmps171
  go_wp2_with fail
  go_loop [8] (fun i=>i=.int .i64 0) (fun i=>2 - (intOf i).toNat)
  case atStart=>rfl
  case round=>
   subst hrel;go_wp2_with fail
   go_ret
   exact⟨rfl,rfl⟩
theorem pcmp_or (p q:RPl):pcmp p q=if kcmp p.1 q.1=0 then Lib.compareInt p.2 q.2 else kcmp p.1 q.1:=by
 unfold pcmp kcmp Lib.compareInt plt
 by_cases h1:p.1 < q.1
 ·simp[h1]
 ·by_cases h2:q.1 < p.1
  ·have hne:p.1≠q.1:=fun e=>klt_irrefl q.1 (by rw[e] at h2;exact h2)
   simp[h1,h2,hne]
  ·have e:=klt_tri h1 h2;have hi:=klt_irrefl q.1;simp[e,hi]
def treeCmp:jX:=.steady 0 (.steady 1 (.steady 2 (.steady 3 (.steady 5 (.steady 6 (.steady 7 (.steady 8 (.move 4 (.move 9 (.move 10 (.move 11 (.steady 12 .done))))))))))))
set_option maxRecDepth 100000 in
set_option maxHeartbeats 1500000 in
theorem compare_any (w:World) (p q:RPl):
 Calls aC 167 #[plV p,plV q] w fun e w'=>e=.returned (.int .i64 (pcmp p q)) /\ Below w.heap.size w w':=by
 obtain⟨w2,hw2⟩:∃ w2,w2=(w.alloc (.cells #[.string ⟨p.1.toArray⟩,.int .i64 p.2] 174)).alloc (.cells #[.string ⟨q.1.toArray⟩,.int .i64 q.2] 174):=⟨_,rfl⟩
 have hb2:Below w.heap.size w w2:=by rw[hw2];exact(aE _ _).alloc (by simp) _
 have hp:=(Blk.new w #[.string ⟨p.1.toArray⟩,.int .i64 p.2] 174).alloc (.cells #[.string ⟨q.1.toArray⟩,.int .i64 q.2] 174);have hq:=Blk.new (w.alloc (.cells #[.string ⟨p.1.toArray⟩,.int .i64 p.2] 174)) #[.string ⟨q.1.toArray⟩,.int .i64 q.2] 174;rw[<- hw2] at hp hq;have hz:(w.alloc (.cells #[.string ⟨p.1.toArray⟩,.int .i64 p.2] 174)).heap.size=w.heap.size+1:=by simp
 rw[hz] at hq;have p0:∀ w',aI w2.drew w' -> w'.cell? ⟨w.heap.size,0,none⟩=some (.string ⟨p.1.toArray⟩):=fun w' hh=>laterC (by simpa using hp.cell 0) hh
 have p1:∀ w',aI w2.drew w' -> w'.cell? ⟨w.heap.size,1,none⟩=some (.int .i64 p.2):=fun w' hh=>laterC (by simpa using hp.cell 1) hh
 have q0:∀ w',aI w2.drew w' -> w'.cell? ⟨w.heap.size+1,0,none⟩=some (.string ⟨q.1.toArray⟩):=fun w' hh=>laterC (by simpa using hq.cell 0) hh
 have q1:∀ w',aI w2.drew w' -> w'.cell? ⟨w.heap.size+1,1,none⟩=some (.int .i64 q.2):=fun w' hh=>laterC (by simpa using hq.cell 1) hh
 have Hw2:=ae hw2;have HS:=ae (cmpS_any w2.drew p.1 q.1);have HI:=ae (Tryz.cmp_Compare_int p.2 q.2 w2.drew);clear hp hq hz hw2;unfold plV
 go_enter Tryz.func167,Tryz.ntmps167
 go_wp2_with fail;rw[<- Hw2.out];refine jY aI treeCmp 13 (by kernel_rfl) (by kernel_rfl) aH aG _ (fun _ _ h=>h) ?_;unfold treeCmp;refine eK (v:=?_) rfl (aD rfl) (fun w' hC=>?_) (fun K hK=>?_);rotate_left;(focus (go_simp;first | done | exact rfl));go_simp;refine hK _ ?_;clear hK K;refine eK (v:=?_) rfl (aD rfl) (fun w' hC=>?_) (fun K hK=>?_);rotate_left;(focus (go_simp;first | done | exact rfl));go_simp;refine hK _ ?_;clear hK K;refine eK (v:=?_) rfl (aD rfl) (fun w' hC=>?_) (fun K hK=>?_);rotate_left;(focus (go_simp;first | done | exact rfl));go_simp;refine hK _ ?_;clear hK K;refine eK (v:=?_) rfl (aD rfl) (fun w' hC=>?_) (fun K hK=>?_);rotate_left;(focus (go_simp;first | done | exact rfl));go_simp;refine hK _ ?_;clear hK K;refine eK (v:=?_) rfl (aD rfl) (fun w' hC=>?_) (fun K hK=>?_);rotate_left;(focus (go_simp;first | done | exact rfl));go_simp;refine hK _ ?_;clear hK K;refine eK (v:=?_) rfl (aD rfl) (fun w' hC=>?_) (fun K hK=>?_);rotate_left;(focus (go_simp;first | done | exact rfl));go_simp;refine hK _ ?_;clear hK K;refine eK (v:=?_) rfl (aD rfl) (fun w' hC=>?_) (fun K hK=>?_);rotate_left;(focus (go_simp;first | done | exact rfl));go_simp;refine hK _ ?_;clear hK K;refine eK (v:=?_) rfl (aD rfl) (fun w' hC=>?_) (fun K hK=>?_);rotate_left;(focus (go_simp;first | done | exact rfl));go_simp;refine hK _ ?_;clear hK K;clear p0 p1 q0 q1;refine jL rfl rfl (fun KK hK=>?_);go_simp;refine HS.out.mono ?_;rintro e w' ⟨rfl,rfl⟩;refine⟨_,rfl,aH _,hK _ _ ?_⟩;clear hK KK;go_simp;refine jL rfl rfl (fun KK hK=>?_);go_simp;refine HI.out.mono ?_;rintro e w' ⟨rfl,rfl⟩;refine⟨_,rfl,aH _,hK _ _ ?_⟩;clear hK KK HS HI;go_simp;refine jL rfl rfl (fun KK hK=>?_);go_simp
 obtain⟨wz,hwz⟩:∃ wz,wz=w2.drew.alloc (.cells #[.int .i64 (kcmp p.1 q.1),.int .i64 (Lib.compareInt p.2 q.2)] 3):=⟨_,rfl⟩
 have kz:aI w2.drew wz:=by rw[hwz];exact aE _ _
 have ho:=or2_any w2.drew (kcmp p.1 q.1) (Lib.compareInt p.2 q.2) wz hwz;rw[<- pcmp_or] at ho;have HO:=ae ho;clear ho;rw[show (w2.alloc (.cells #[.int .i64 (kcmp p.1 q.1),.int .i64 (Lib.compareInt p.2 q.2)] 3)).drew=wz from hwz.symm];refine⟨kz,hK _ _ ?_⟩;clear hK KK hwz;go_simp;refine jL rfl rfl (fun KK hK=>?_);go_simp;refine HO.out.mono ?_;rintro e w' ⟨rfl,rfl⟩;refine⟨_,rfl,aH _,hK _ _ ?_⟩;clear hK KK HO;go_simp;refine eK (v:=?_) rfl (aD rfl) (fun w' hC=>?_) (fun K hK=>?_);rotate_left;(focus (go_simp;first | done | exact rfl));go_simp;refine hK _ ?_;clear hK K;refine rp ?_;go_wp2_with fail
 go_ret
 exact⟨rfl,hb2.drew.trans (RowKit.Below.mono kz hb2.size)⟩
def itV (x:RIt):Value:=.agg #[.string ⟨x.key.toArray⟩,.int .i64 x.dev,.int .i64 x.seq,.int .i64 x.val]
def goV (x:RGo):Value:=.agg #[.string ⟨x.key.toArray⟩,.int .i64 x.dev,.int .i64 x.seq]
set_option maxRecDepth 100000 in
set_option maxHeartbeats 1500000 in
theorem itPlace_any (w:World) (x:RIt):
 Calls aC 104 #[itV x] w fun e w'=>e=.returned (plV x.pl) /\ Below w.heap.size w w':=by
 obtain⟨wf,hwf⟩:∃ wf,wf=(w.alloc (.cells #[.string ⟨x.key.toArray⟩,.int .i64 x.dev,.int .i64 x.seq,.int .i64 x.val] 108)).alloc (.cells #[.string ⟨x.key.toArray⟩,.int .i64 x.dev] 174):=⟨_,rfl⟩
 have hbf:Below w.heap.size w wf:=by rw[hwf];exact(aE _ _).alloc (by simp) _
 have hq:=Blk.new (w.alloc (.cells #[.string ⟨x.key.toArray⟩,.int .i64 x.dev,.int .i64 x.seq,.int .i64 x.val] 108)) #[.string ⟨x.key.toArray⟩,.int .i64 x.dev] 174;rw[<- hwf] at hq;have hz:(w.alloc (.cells #[.string ⟨x.key.toArray⟩,.int .i64 x.dev,.int .i64 x.seq,.int .i64 x.val] 108)).heap.size=w.heap.size+1:=by simp
 rw[hz] at hq;have Q0:=ae (hq.cell 0);have Q1:=ae (hq.cell 1);have Hwf:=ae hwf;have Hbf:=ae hbf;clear hq hz hwf hbf;unfold itV
 go_enter Tryz.func104,Tryz.ntmps104
 go_wp2_with fail;rw[<- Hwf.out];have q0:=Q0.out;have q1:=Q1.out;simp at q0 q1;exact bodyPost_ret (v:=plV x.pl) (by simp[results,Tryz.results104,go_sem,q0,q1,plV,RIt.pl]) rfl ⟨rfl,Hbf.out⟩
set_option maxRecDepth 100000 in
set_option maxHeartbeats 1500000 in
theorem goPlace_any (w:World) (x:RGo):
 Calls aC 112 #[goV x] w fun e w'=>e=.returned (plV x.pl) /\ Below w.heap.size w w':=by
 obtain⟨wf,hwf⟩:∃ wf,wf=(w.alloc (.cells #[.string ⟨x.key.toArray⟩,.int .i64 x.dev,.int .i64 x.seq] 111)).alloc (.cells #[.string ⟨x.key.toArray⟩,.int .i64 x.dev] 174):=⟨_,rfl⟩
 have hbf:Below w.heap.size w wf:=by rw[hwf];exact(aE _ _).alloc (by simp) _
 have hq:=Blk.new (w.alloc (.cells #[.string ⟨x.key.toArray⟩,.int .i64 x.dev,.int .i64 x.seq] 111)) #[.string ⟨x.key.toArray⟩,.int .i64 x.dev] 174;rw[<- hwf] at hq;have hz:(w.alloc (.cells #[.string ⟨x.key.toArray⟩,.int .i64 x.dev,.int .i64 x.seq] 111)).heap.size=w.heap.size+1:=by simp
 rw[hz] at hq;have Q0:=ae (hq.cell 0);have Q1:=ae (hq.cell 1);have Hwf:=ae hwf;have Hbf:=ae hbf;clear hq hz hwf hbf;unfold goV
 go_enter Tryz.func112,Tryz.ntmps112
 go_wp2_with fail;rw[<- Hwf.out];have q0:=Q0.out;have q1:=Q1.out;simp at q0 q1;exact bodyPost_ret (v:=plV x.pl) (by simp[results,Tryz.results112,go_sem,q0,q1,plV,RGo.pl]) rfl ⟨rfl,Hbf.out⟩
end Go.Proofs.YtobjdpngnfbicaaGreatDoor
/- known. -/
namespace Go.Proofs.YtobjdpngnfbicaaGreatDoor
open Go.RowKit
set_option linter.unusedVariables false
set_option maxRecDepth 20000
set_option maxRecDepth 100000 in
set_option maxHeartbeats 1500000 in
theorem known_any (w:World) (hT:cL w) (h3:4 <= w.heap.size) (F:aV) (v:Value) (m:RMap) (h:cY F w v m) (p:RPl) (seq:Int) (hp:p.1.length <= 9223372036854775807) (hpd:cw p.2) (hsq:cw seq):
 Calls aC 143 #[v,plV p,.int .i64 seq] w fun e w'=>e=.returned (.bool (knownR m p seq)) /\ Below w.heap.size w w':=by
 obtain⟨s1,s2,s3,rfl,h⟩:=h;obtain⟨a1,p1,rfl,-⟩:=h.seen.shape;obtain⟨a2,p2,rfl,-⟩:=h.items.shape;obtain⟨a3,p3,rfl,-⟩:=h.gone.shape;have l1:=h.seen.len;have l2:=h.items.len;have l3:=h.gone.len;unfold maxLen at l1 l2 l3
 obtain⟨n1,hn1⟩:∃ n,m.seen.length=n:=⟨_,rfl⟩
 obtain⟨n2,hn2⟩:∃ n,m.items.length=n:=⟨_,rfl⟩
 obtain⟨n3,hn3⟩:∃ n,m.gone.length=n:=⟨_,rfl⟩
 rw[hn1,hn2,hn3] at h;rw[hn1] at l1 ⊢;rw[hn2] at l2 ⊢;rw[hn3] at l3 ⊢
 obtain⟨wx,hwx⟩:∃ wx,wx=w.alloc (.cells #[.slice a1 n1 p1,.slice a2 n2 p2,.slice a3 n3 p3] 37):=⟨_,rfl⟩
 have hbx:Below w.heap.size w wx:=by rw[hwx];exact aE _ _
 have hzx:wx.heap.size=w.heap.size+1:=by rw[hwx];simp
 have hx:=h.keep (w':=wx) fun b _ hlt=>hbx.block b hlt
 have hnx:Blk wx w.heap.size [.slice a1 n1 p1,.slice a2 n2 p2,.slice a3 n3 p3] 37:=by rw[hwx];exact Blk.new _ _ _
 have Hx:=ae hx;have Hn1:=ae hn1;have Hn2:=ae hn2;have Hn3:=ae hn3;have Hwx:=ae hwx;have Hbx:=ae hbx;have Hzx:=ae hzx;have c0:=hnx.cell 0;have c1:=hnx.cell 1;have c2:=hnx.cell 2;simp at c0 c1 c2;have Hnx:=ae hnx;clear hx hn1 hn2 hn3 hwx hbx hnx hzx;clear h;obtain⟨key,dev⟩:=p;dsimp only at hp hpd
 obtain⟨w2,hw2⟩:∃ w2,w2=wx.alloc (.cells #[.string ⟨key.toArray⟩,.int .i64 dev] 174):=⟨_,rfl⟩
 have hbx2:Below wx.heap.size wx w2:=by rw[hw2];exact aE _ _
 have hb2:Below w.heap.size w w2:=cA Hbx.out hbx2;have hq:=Blk.new wx #[.string ⟨key.toArray⟩,.int .i64 dev] 174;rw[<- hw2,Hzx.out] at hq;have q0:=hq.cell 0;simp at q0;have hT2:=bi hT h3 hb2;have hz2:4 <= w2.heap.size:=by have:=hb2.size;omega
 have V:=ae (lz w2 hT2 hz2 key hp)
 obtain⟨ok,hok⟩:∃ ok,knownR m (key,dev) seq=ok:=⟨_,rfl⟩
 rw[hok];have Hok:=ae hok;have Hq:=ae hq;have Hw2:=ae hw2;have Hbx2:=ae hbx2
 obtain⟨kk,hkk⟩:∃ kk,ec key=kk:=⟨_,rfl⟩
 rw[hkk] at V;have Hkk:=ae hkk;clear hok hq hw2 hbx2 hkk c0 c1 c2;unfold plV
 go_enter Tryz.func143,Tryz.ntmps143
 go_wp2_with fail;rw[<- Hwx.out,<- Hw2.out];refine V.out.mono ?_;rintro e w3 ⟨rfl,hb3⟩
 have r1:w3.cell? ⟨w.heap.size+1,1,none⟩=some (.int .i64 dev):=by
  have:=(Hq.out.keep (hb3.block _ Hq.out.lt)).cell 1;simpa using this
 have m0:w3.cell? ⟨w.heap.size,0,none⟩=some (.slice a1 n1 p1):=by
  have:=((Hnx.out.keep (Hbx2.out.block _ Hnx.out.lt)).keep (hb3.block _ (aw Hnx.out.lt Hbx2.out.size))).cell 0;simpa using this
 have hm3:=(Hx.out.keep (w':=w2) fun b _ hlt=>Hbx2.out.block b hlt).keep (w':=w3) fun b _ hlt=>hb3.block b hlt
 have Hm3:=ae hm3;clear hm3 q0;cases kk with
 | false=>
   have hk0:=Hkk.out;obtain rfl:ok=false:=by rw[<- Hok.out];simp[knownR,hk0]
   clear V;go_wp2_with fail
   go_ret
   exact⟨rfl,hb2.trans (hb3.mono hb2.size)⟩
 | true=>
   by_cases d0:0 <= dev
   ·by_cases d1:dev < (n1:Int)
    ·by_cases d2:1 <= seq
     ·obtain⟨k,rfl⟩:=Int.eq_ofNat_of_zero_le d0;have hk:k < m.seen.length:=by rw[Hn1.out];omega
      obtain⟨b,off,rfl,-,-,hc⟩:=fY Hm3.out.seen (by omega);have e0:=hc k hk
      obtain⟨s,hs⟩:∃ s,m.seen[k]=s:=⟨_,rfl⟩
      rw[hs] at e0;have Hs:=ae (show m.seen.getD k 0=s by rw[List.getD_eq_getElem?_getD,List.getElem?_eq_getElem hk,hs];rfl)
      have hok':=ae (show ok=decide (seq <= s) by
       rw[<- Hok.out];unfold knownR;rw[Hkk.out];have h1:((k:Int)).toNat=k:=by omega
       simp only[h1,Hs.out,Hn1.out];simp[d2]
       omega)
      clear hc hs V
      by_cases d3:seq <= s
      ·have hk1:ok=true:=by rw[hok'.out];simpa using d3
       subst hk1;go_wp2_with fail
       go_ret
       exact⟨rfl,hb2.trans (hb3.mono hb2.size)⟩
      ·have hk1:ok=false:=by rw[hok'.out];simpa using d3
       subst hk1;go_wp2_with fail
       go_ret
       exact⟨ix (by simpa using d3),hb2.trans (hb3.mono hb2.size)⟩
     ·
      obtain rfl:ok=false:=by rw[<- Hok.out];simp[knownR,d2]
      clear V;go_wp2_with fail
      go_ret
      exact⟨rfl,hb2.trans (hb3.mono hb2.size)⟩
    ·have d1':¬ dev < ((m.seen.length:Nat):Int):=by rw[Hn1.out];exact d1
     obtain rfl:ok=false:=by rw[<- Hok.out];simp[knownR,d1']
     clear V;go_wp2_with fail
     go_ret
     exact⟨rfl,hb2.trans (hb3.mono hb2.size)⟩
   ·
    obtain rfl:ok=false:=by rw[<- Hok.out];simp[knownR,d0]
    clear V;go_wp2_with fail
    go_ret
    exact⟨rfl,hb2.trans (hb3.mono hb2.size)⟩
end Go.Proofs.YtobjdpngnfbicaaGreatDoor
/- ascending. -/
namespace Go.Proofs.YtobjdpngnfbicaaGreatDoor
open Go.RowKit
set_option linter.unusedVariables false
set_option maxRecDepth 20000
attribute [local go_sem] opC upC
def AscRel {α:Type} (pl:α -> RPl) (l:List α) (w:World) (i:Value) (wr:World):Prop:=
 ∃ k:Nat,k <= l.length /\ i=.int .i64 ((k:Int)+1) /\ (∀ j (h:j+1 < l.length),j < k -> plt (pl l[j]) (pl l[j+1])) /\ Below w.heap.size w wr
set_option maxRecDepth 100000 in
set_option maxHeartbeats 1500000 in
theorem ascI_any (w:World) (F:aV) (v:Value) (l:List RIt) (h:Rows F w 4 v l.length (l.flatMap aZ)) (hl:l.length <= 1000000):
 Calls aC 141 #[v,.func (.func 104) #[] #[]] w fun e w'=>e=.returned (.bool (decide (Asc RIt.pl l))) /\ Below w.heap.size w w':=by
 obtain⟨ok,hok⟩:∃ ok,decide (Asc RIt.pl l)=ok:=⟨_,rfl⟩
 rw[hok];have Hok:=ae hok;have Hh:=ae h;obtain⟨a,cap,rfl,-⟩:=h.shape
 obtain⟨n,hn⟩:∃ n,l.length=n:=⟨_,rfl⟩
 have Hn:=ae hn;rw[hn] at hl ⊢;have Hs:=ae (show AscRel RIt.pl l w (.int .i64 1) w from ⟨0,by omega,rfl,fun j hj hk=>by omega,Below.refl _ _⟩);clear hok h hn
 go_enter Tryz.func141,Tryz.ntmps141
 go_wp2_with fail
 go_loopw [5] (fun i wr=>AscRel RIt.pl l w i wr) (fun i _=>n+1 - (intOf i).toNat)
 case atStart=>exact Hs.out
 case round=>
  obtain⟨k,hk,rfl,hall,hbw⟩:=hrel;have Hall:=ae hall;have Hbw:=ae hbw;clear hall hbw Hs
  by_cases hkn:k+1 < n
  ·have hkI:(k:Int)+1 < (n:Int):=by omega
   have hm:=Hh.out.keep (w':=wr) fun b _ hlt=>Hbw.out.block b hlt
   obtain⟨b,off,rfl,-,-,hc⟩:=eE hm (by rw[Hn.out];omega);have hk0:k < l.length:=by rw[Hn.out];omega
   have hk1:k+1 < l.length:=by rw[Hn.out];omega
   obtain⟨x0,x1,x2,x3⟩:=hc k hk0;obtain⟨y0,y1,y2,y3⟩:=hc (k+1) hk1
   obtain⟨x,hx⟩:∃ x,l[k]=x:=⟨_,rfl⟩
   obtain⟨y,hy⟩:∃ y,l[k+1]=y:=⟨_,rfl⟩
   rw[hx] at x0 x1 x2 x3;rw[hy] at y0 y1 y2 y3;have p0:∀ w',aI wr.drew w' -> w'.cell? _=_:=fun w' hh=>laterC x0 hh
   have p1:∀ w',aI wr.drew w' -> w'.cell? _=_:=fun w' hh=>laterC x1 hh
   have p2:∀ w',aI wr.drew w' -> w'.cell? _=_:=fun w' hh=>laterC x2 hh
   have p3:∀ w',aI wr.drew w' -> w'.cell? _=_:=fun w' hh=>laterC x3 hh
   have q0:∀ w',aI wr.drew w' -> w'.cell? _=_:=fun w' hh=>laterC y0 hh
   have q1:∀ w',aI wr.drew w' -> w'.cell? _=_:=fun w' hh=>laterC y1 hh
   have q2:∀ w',aI wr.drew w' -> w'.cell? _=_:=fun w' hh=>laterC y2 hh
   have q3:∀ w',aI wr.drew w' -> w'.cell? _=_:=fun w' hh=>laterC y3 hh
   have Hx:=ae hx;have Hy:=ae hy;have HPX:=ae (show Calls aC 104 #[.agg #[.string ⟨x.key.toArray⟩,.int .i64 x.dev,.int .i64 x.seq,.int .i64 x.val]] wr.drew _ from itPlace_any wr.drew x);have hs1:IntKind.i64.wrap ((k:Int)+1 - 1)=(k:Int):=by rw[af _ (by omega)];omega
   have hs0:IntKind.i64.wrap (k:Int)=(k:Int):=af _ (by omega);have hs2:((k:Int)+1).toNat=k+1:=by omega
   have hkI2:(k:Int) < (n:Int):=by omega
   clear hc hm x0 x1 x2 x3 y0 y1 y2 y3 hx hy;go_wp2_with fail;refine aJ aI [(0,true),(1,true),(2,true),(3,true),(4,true),(5,true),(7,true),(8,true),(9,true),(10,true),(11,true),(6,false),(12,false),(13,false),(14,true)] (by kernel_rfl) (by kernel_rfl) aH aG ?_
   repeat (refine aF (v:=?_) rfl (aD rfl) (fun w' hC=>?_) (fun K hK=>?_);rotate_left;(focus (go_simp;(try simp(disch:=omega) only[af]);first | done | exact rfl));go_simp;(try simp(disch:=omega) only[af]);refine hK _ ?_;clear hK K)
   refine aQ rfl rfl (fun KK hK=>?_);go_simp;refine HPX.out.mono ?_;rintro e w1 ⟨rfl,hb1⟩;refine⟨_,rfl,hb1,hK _ _ ?_⟩;clear hK KK HPX p0 p1 p2 p3;go_simp;have HPY:=ae (show Calls aC 104 #[.agg #[.string ⟨y.key.toArray⟩,.int .i64 y.dev,.int .i64 y.seq,.int .i64 y.val]] w1 _ from itPlace_any w1 y);have Hb1:=ae (show Below wr.heap.size wr w1 from (Below.refl _ _).drew.trans hb1);clear hb1
   repeat (refine aF (v:=?_) rfl (aD rfl) (fun w' hC=>?_) (fun K hK=>?_);rotate_left;(focus (go_simp;(try simp(disch:=omega) only[af]);first | done | exact rfl));go_simp;(try simp(disch:=omega) only[af]);refine hK _ ?_;clear hK K)
   refine aQ rfl rfl (fun KK hK=>?_);go_simp;refine HPY.out.mono ?_;rintro e w2 ⟨rfl,hb2⟩;refine⟨_,rfl,hb2,hK _ _ ?_⟩;clear hK KK HPY q0 q1 q2 q3;go_simp;have HC:=ae (compare_any w2 x.pl y.pl);have Hb2:=ae (cA Hb1.out hb2);clear hb2
   repeat (refine aF (v:=?_) rfl (aD rfl) (fun w' hC=>?_) (fun K hK=>?_);rotate_left;(focus (go_simp;(try simp(disch:=omega) only[af]);first | done | exact rfl));go_simp;(try simp(disch:=omega) only[af]);refine hK _ ?_;clear hK K)
   refine aQ rfl rfl (fun KK hK=>?_);go_simp;refine HC.out.mono ?_;rintro e w3 ⟨rfl,hb3⟩;refine⟨_,rfl,hb3,hK _ _ ?_⟩;clear hK KK HC;go_simp;have Hb3:=ae (Hbw.out.trans ((cA Hb2.out hb3).mono Hbw.out.size));clear hb3 hs1 hs2
   by_cases hlt:plt x.pl y.pl
   ·have hv:pcmp x.pl y.pl = -1:=by unfold pcmp;rw[if_pos hlt]
    rw[hv];have Hlt:=ae hlt;clear hv hlt
    repeat (refine aF (v:=?_) rfl (aD rfl) (fun w' hC=>?_) (fun K hK=>?_);rotate_left;(focus (go_simp;(try simp(disch:=omega) only[af]);first | done | exact rfl));go_simp;(try simp(disch:=omega) only[af]);refine hK _ ?_;clear hK K)
    refine aW ?_;go_wp2_with fail
    go_roundw
    case rel=>exact⟨k+1,by omega,by go_num,fun j hj hjk=>by
     rcases Nat.lt_succ_iff_lt_or_eq.1 hjk with h | h
     ·exact Hall.out j hj h
     ·subst h;rw[Hx.out,Hy.out];exact Hlt.out,Hb3.out⟩
    case measure=>simp[intOf];omega
   ·have hv:0 <= pcmp x.pl y.pl:=by unfold pcmp;rw[if_neg hlt];split <;> omega
    have Hf:=ae (show ok=false by
     rw[<- Hok.out];refine decide_eq_false fun ha=>hlt ?_
     have:=step_of_asc RIt.pl ha k hk1;rw[Hx.out,Hy.out] at this
     exact this)
    generalize pcmp x.pl y.pl=cv at *;clear hlt;have hv2:decide (cv ≥ 0)=true:=by simpa using hv
    repeat (refine aF (v:=?_) rfl (aD rfl) (fun w' hC=>?_) (fun K hK=>?_);rotate_left;(focus (go_simp;(try simp(disch:=omega) only[af]);first | done | exact rfl));go_simp;(try simp(disch:=omega) only[af]);refine hK _ ?_;clear hK K)
    refine aW ?_;go_wp2_with fail
    go_ret
    exact⟨by rw[Hf.out];rfl,Hb3.out⟩
  ·have hkI:¬ (k:Int)+1 < (n:Int):=by omega
   have Hokt:=ae (show ok=true by
    rw[<- Hok.out,decide_eq_true_iff,asc_iff_step];intro j hj
    exact Hall.out j hj (by rw[Hn.out] at hj;omega))
   go_wp2_with fail
   go_ret
   exact⟨by rw[Hokt.out];rfl,Hbw.out⟩
set_option maxRecDepth 100000 in
set_option maxHeartbeats 1500000 in
theorem ascG_any (w:World) (F:aV) (v:Value) (l:List RGo) (h:Rows F w 3 v l.length (l.flatMap cn)) (hl:l.length <= 1000000):
 Calls aC 142 #[v,.func (.func 112) #[] #[]] w fun e w'=>e=.returned (.bool (decide (Asc RGo.pl l))) /\ Below w.heap.size w w':=by
 obtain⟨ok,hok⟩:∃ ok,decide (Asc RGo.pl l)=ok:=⟨_,rfl⟩
 rw[hok];have Hok:=ae hok;have Hh:=ae h;obtain⟨a,cap,rfl,-⟩:=h.shape
 obtain⟨n,hn⟩:∃ n,l.length=n:=⟨_,rfl⟩
 have Hn:=ae hn;rw[hn] at hl ⊢;have Hs:=ae (show AscRel RGo.pl l w (.int .i64 1) w from ⟨0,by omega,rfl,fun j hj hk=>by omega,Below.refl _ _⟩);clear hok h hn
 go_enter Tryz.func142,Tryz.ntmps142
 go_wp2_with fail
 go_loopw [5] (fun i wr=>AscRel RGo.pl l w i wr) (fun i _=>n+1 - (intOf i).toNat)
 case atStart=>exact Hs.out
 case round=>
  obtain⟨k,hk,rfl,hall,hbw⟩:=hrel;have Hall:=ae hall;have Hbw:=ae hbw;clear hall hbw Hs
  by_cases hkn:k+1 < n
  ·have hkI:(k:Int)+1 < (n:Int):=by omega
   have hm:=Hh.out.keep (w':=wr) fun b _ hlt=>Hbw.out.block b hlt
   obtain⟨b,off,rfl,-,-,hc⟩:=eF hm (by rw[Hn.out];omega);have hk0:k < l.length:=by rw[Hn.out];omega
   have hk1:k+1 < l.length:=by rw[Hn.out];omega
   obtain⟨x0,x1,x2⟩:=hc k hk0;obtain⟨y0,y1,y2⟩:=hc (k+1) hk1
   obtain⟨x,hx⟩:∃ x,l[k]=x:=⟨_,rfl⟩
   obtain⟨y,hy⟩:∃ y,l[k+1]=y:=⟨_,rfl⟩
   rw[hx] at x0 x1 x2;rw[hy] at y0 y1 y2;have p0:∀ w',aI wr.drew w' -> w'.cell? _=_:=fun w' hh=>laterC x0 hh
   have p1:∀ w',aI wr.drew w' -> w'.cell? _=_:=fun w' hh=>laterC x1 hh
   have p2:∀ w',aI wr.drew w' -> w'.cell? _=_:=fun w' hh=>laterC x2 hh
   have q0:∀ w',aI wr.drew w' -> w'.cell? _=_:=fun w' hh=>laterC y0 hh
   have q1:∀ w',aI wr.drew w' -> w'.cell? _=_:=fun w' hh=>laterC y1 hh
   have q2:∀ w',aI wr.drew w' -> w'.cell? _=_:=fun w' hh=>laterC y2 hh
   have Hx:=ae hx;have Hy:=ae hy;have HPX:=ae (show Calls aC 112 #[.agg #[.string ⟨x.key.toArray⟩,.int .i64 x.dev,.int .i64 x.seq]] wr.drew _ from goPlace_any wr.drew x);have hs1:IntKind.i64.wrap ((k:Int)+1 - 1)=(k:Int):=by rw[af _ (by omega)];omega
   have hs0:IntKind.i64.wrap (k:Int)=(k:Int):=af _ (by omega);have hs2:((k:Int)+1).toNat=k+1:=by omega
   have hkI2:(k:Int) < (n:Int):=by omega
   clear hc hm x0 x1 x2 y0 y1 y2 hx hy;go_wp2_with fail;refine aJ aI [(0,true),(1,true),(2,true),(3,true),(4,true),(5,true),(7,true),(8,true),(9,true),(10,true),(11,true),(6,false),(12,false),(13,false),(14,true)] (by kernel_rfl) (by kernel_rfl) aH aG ?_
   repeat (refine aF (v:=?_) rfl (aD rfl) (fun w' hC=>?_) (fun K hK=>?_);rotate_left;(focus (go_simp;(try simp(disch:=omega) only[af]);first | done | exact rfl));go_simp;(try simp(disch:=omega) only[af]);refine hK _ ?_;clear hK K)
   refine aQ rfl rfl (fun KK hK=>?_);go_simp;refine HPX.out.mono ?_;rintro e w1 ⟨rfl,hb1⟩;refine⟨_,rfl,hb1,hK _ _ ?_⟩;clear hK KK HPX p0 p1 p2;go_simp;have HPY:=ae (show Calls aC 112 #[.agg #[.string ⟨y.key.toArray⟩,.int .i64 y.dev,.int .i64 y.seq]] w1 _ from goPlace_any w1 y);have Hb1:=ae (show Below wr.heap.size wr w1 from (Below.refl _ _).drew.trans hb1);clear hb1
   repeat (refine aF (v:=?_) rfl (aD rfl) (fun w' hC=>?_) (fun K hK=>?_);rotate_left;(focus (go_simp;(try simp(disch:=omega) only[af]);first | done | exact rfl));go_simp;(try simp(disch:=omega) only[af]);refine hK _ ?_;clear hK K)
   refine aQ rfl rfl (fun KK hK=>?_);go_simp;refine HPY.out.mono ?_;rintro e w2 ⟨rfl,hb2⟩;refine⟨_,rfl,hb2,hK _ _ ?_⟩;clear hK KK HPY q0 q1 q2;go_simp;have HC:=ae (compare_any w2 x.pl y.pl);have Hb2:=ae (cA Hb1.out hb2);clear hb2
   repeat (refine aF (v:=?_) rfl (aD rfl) (fun w' hC=>?_) (fun K hK=>?_);rotate_left;(focus (go_simp;(try simp(disch:=omega) only[af]);first | done | exact rfl));go_simp;(try simp(disch:=omega) only[af]);refine hK _ ?_;clear hK K)
   refine aQ rfl rfl (fun KK hK=>?_);go_simp;refine HC.out.mono ?_;rintro e w3 ⟨rfl,hb3⟩;refine⟨_,rfl,hb3,hK _ _ ?_⟩;clear hK KK HC;go_simp;have Hb3:=ae (Hbw.out.trans ((cA Hb2.out hb3).mono Hbw.out.size));clear hb3 hs1 hs2
   by_cases hlt:plt x.pl y.pl
   ·have hv:pcmp x.pl y.pl = -1:=by unfold pcmp;rw[if_pos hlt]
    rw[hv];have Hlt:=ae hlt;clear hv hlt
    repeat (refine aF (v:=?_) rfl (aD rfl) (fun w' hC=>?_) (fun K hK=>?_);rotate_left;(focus (go_simp;(try simp(disch:=omega) only[af]);first | done | exact rfl));go_simp;(try simp(disch:=omega) only[af]);refine hK _ ?_;clear hK K)
    refine aW ?_;go_wp2_with fail
    go_roundw
    case rel=>exact⟨k+1,by omega,by go_num,fun j hj hjk=>by
     rcases Nat.lt_succ_iff_lt_or_eq.1 hjk with h | h
     ·exact Hall.out j hj h
     ·subst h;rw[Hx.out,Hy.out];exact Hlt.out,Hb3.out⟩
    case measure=>simp[intOf];omega
   ·have hv:0 <= pcmp x.pl y.pl:=by unfold pcmp;rw[if_neg hlt];split <;> omega
    have Hf:=ae (show ok=false by
     rw[<- Hok.out];refine decide_eq_false fun ha=>hlt ?_
     have:=step_of_asc RGo.pl ha k hk1;rw[Hx.out,Hy.out] at this
     exact this)
    generalize pcmp x.pl y.pl=cv at *;clear hlt;have hv2:decide (cv ≥ 0)=true:=by simpa using hv
    repeat (refine aF (v:=?_) rfl (aD rfl) (fun w' hC=>?_) (fun K hK=>?_);rotate_left;(focus (go_simp;(try simp(disch:=omega) only[af]);first | done | exact rfl));go_simp;(try simp(disch:=omega) only[af]);refine hK _ ?_;clear hK K)
    refine aW ?_;go_wp2_with fail
    go_ret
    exact⟨by rw[Hf.out];rfl,Hb3.out⟩
  ·have hkI:¬ (k:Int)+1 < (n:Int):=by omega
   have Hokt:=ae (show ok=true by
    rw[<- Hok.out,decide_eq_true_iff,asc_iff_step];intro j hj
    exact Hall.out j hj (by rw[Hn.out] at hj;omega))
   go_wp2_with fail
   go_ret
   exact⟨by rw[Hokt.out];rfl,Hbw.out⟩
end Go.Proofs.YtobjdpngnfbicaaGreatDoor
/- buried. -/
namespace Go.Proofs.YtobjdpngnfbicaaGreatDoor
open Go.RowKit
set_option linter.unusedVariables false
set_option maxRecDepth 20000
attribute [local go_sem] opC upC
set_option maxRecDepth 100000 in
set_option maxHeartbeats 1500000 in
theorem burCmp_any (w:World) (x:RGo) (p:RPl):
 Calls aC 174 #[goV x,plV p] w fun e w'=>e=.returned (.int .i64 (pcmp x.pl p)) /\ Below w.heap.size w w':=by
 obtain⟨w2,hw2⟩:∃ w2,w2=(w.alloc (.cells #[.string ⟨x.key.toArray⟩,.int .i64 x.dev,.int .i64 x.seq] 111)).alloc (.cells #[.string ⟨p.1.toArray⟩,.int .i64 p.2] 174):=⟨_,rfl⟩
 have hb2:Below w.heap.size w w2:=by rw[hw2];exact(aE _ _).alloc (by simp) _
 have hp:=(Blk.new w #[.string ⟨x.key.toArray⟩,.int .i64 x.dev,.int .i64 x.seq] 111).alloc (.cells #[.string ⟨p.1.toArray⟩,.int .i64 p.2] 174);have hq:=Blk.new (w.alloc (.cells #[.string ⟨x.key.toArray⟩,.int .i64 x.dev,.int .i64 x.seq] 111)) #[.string ⟨p.1.toArray⟩,.int .i64 p.2] 174;rw[<- hw2] at hp hq;have hz:(w.alloc (.cells #[.string ⟨x.key.toArray⟩,.int .i64 x.dev,.int .i64 x.seq] 111)).heap.size=w.heap.size+1:=by simp
 rw[hz] at hq;have p0:∀ w',aI w2.drew w' -> w'.cell? ⟨w.heap.size,0,none⟩=some (.string ⟨x.key.toArray⟩):=fun w' hh=>laterC (by simpa using hp.cell 0) hh
 have p1:∀ w',aI w2.drew w' -> w'.cell? ⟨w.heap.size,1,none⟩=some (.int .i64 x.dev):=fun w' hh=>laterC (by simpa using hp.cell 1) hh
 have p2:∀ w',aI w2.drew w' -> w'.cell? ⟨w.heap.size,2,none⟩=some (.int .i64 x.seq):=fun w' hh=>laterC (by simpa using hp.cell 2) hh
 have q0:∀ w',aI w2.drew w' -> w'.cell? ⟨w.heap.size+1,0,none⟩=some (.string ⟨p.1.toArray⟩):=fun w' hh=>laterC (by simpa using hq.cell 0) hh
 have q1:∀ w',aI w2.drew w' -> w'.cell? ⟨w.heap.size+1,1,none⟩=some (.int .i64 p.2):=fun w' hh=>laterC (by simpa using hq.cell 1) hh
 have Hw2:=ae hw2;have HP:=ae (show Calls aC 112 #[.agg #[.string ⟨x.key.toArray⟩,.int .i64 x.dev,.int .i64 x.seq]] w2.drew _ from goPlace_any w2.drew x);clear hp hq hz hw2;unfold goV plV
 go_enter Tryz.func174,Tryz.ntmps174
 go_wp2_with fail;rw[<- Hw2.out];refine aJ aI [(0,true),(2,true),(1,false),(3,false),(4,true)] (by kernel_rfl) (by kernel_rfl) aH aG ?_
 repeat (refine aF (v:=?_) rfl (aD rfl) (fun w' hC=>?_) (fun K hK=>?_);rotate_left;(focus (go_simp;first | done | exact rfl));go_simp;refine hK _ ?_;clear hK K)
 refine aQ rfl rfl (fun KK hK=>?_);go_simp;refine HP.out.mono ?_;rintro e w3 ⟨rfl,hb3⟩;refine⟨_,rfl,hb3,hK _ _ ?_⟩;clear hK KK HP p0 p1 p2;go_simp;have HC:=ae (show Calls aC 167 #[plV x.pl,.agg #[.string ⟨p.1.toArray⟩,.int .i64 p.2]] w3 _ from compare_any w3 x.pl p);have Hb3:=ae (cA hb2 ((Below.refl _ _).drew.trans hb3));clear hb3
 repeat (refine aF (v:=?_) rfl (aD rfl) (fun w' hC=>?_) (fun K hK=>?_);rotate_left;(focus (go_simp;first | done | exact rfl));go_simp;refine hK _ ?_;clear hK K)
 refine aQ rfl rfl (fun KK hK=>?_);go_simp;refine HC.out.mono ?_;rintro e w4 ⟨rfl,hb4⟩;refine⟨_,rfl,hb4,hK _ _ ?_⟩;clear hK KK HC q0 q1;go_simp;have Hb4:=ae (cA Hb3.out hb4);clear hb4
 repeat (refine aF (v:=?_) rfl (aD rfl) (fun w' hC=>?_) (fun K hK=>?_);rotate_left;(focus (go_simp;first | done | exact rfl));go_simp;refine hK _ ?_;clear hK K)
 refine aW ?_;go_wp2_with fail
 go_ret
 exact⟨rfl,Hb4.out⟩
end Go.Proofs.YtobjdpngnfbicaaGreatDoor
/- slices.BinarySearchFunc at Gone. -/
namespace Go.Proofs.YtobjdpngnfbicaaGreatDoor
open Go.RowKit
set_option linter.unusedVariables false
set_option maxRecDepth 20000
attribute [local go_sem] opC upC
def Srch (l:List RGo) (p:RPl) (i j:Nat):Prop:=
 (∀ k (h:k < l.length),k < i -> plt l[k].pl p) /\ ∀ k (h:k < l.length),j <= k -> ¬ plt l[k].pl p
theorem srch_lo {l:List RGo} {p:RPl} {i j h:Nat} (ha:Asc RGo.pl l) (s:Srch l p i j) (hh:h < l.length) (hl:plt l[h].pl p):Srch l p (h+1) j:=
 ⟨fun k hk hlt=>by
  rcases Nat.lt_succ_iff_lt_or_eq.1 hlt with hx | hx
  ·exact plt_trans (List.pairwise_iff_getElem.1 ha k h hk hh hx) hl
  ·subst hx;exact hl,s.2⟩
theorem srch_hi {l:List RGo} {p:RPl} {i j h:Nat} (ha:Asc RGo.pl l) (s:Srch l p i j) (hh:h < l.length) (hl:¬ plt l[h].pl p):Srch l p i h:=
 ⟨s.1,fun k hk hle=>by
  rcases Nat.lt_or_ge h k with hx | hx
  ·exact fun hc=>hl (plt_trans (List.pairwise_iff_getElem.1 ha h k hh hk hx) hc)
  ·have:k=h:=by omega
   subst this;exact hl⟩
theorem srch_hit {l:List RGo} {p:RPl} {i:Nat} (ha:Asc RGo.pl l) (hi:i < l.length) (he:l[i].pl=p):look RGo.pl l p=some l[i]:=by
 rw[<- he];exact look_of_mem ha (aA hi)
theorem srch_miss {l:List RGo} {p:RPl} {i:Nat} (ha:Asc RGo.pl l) (s:Srch l p i i) (hn:∀ h:i < l.length,l[i].pl≠p):look RGo.pl l p=none:=by
 rw[look_none];intro x hx he;obtain⟨k,hk,rfl⟩:=List.mem_iff_getElem.1 hx;rcases Nat.lt_trichotomy k i with h | h | h
 ·exact plt_irrefl p (he ▸ s.1 k hk h)
 ·subst h;exact hn hk he
 ·have hi:i < l.length:=by omega
  have h1:plt l[i].pl p:=by
   have:=List.pairwise_iff_getElem.1 ha i k hi hk h;rw[he] at this;exact this
  exact s.2 i hi (aq _) h1
abbrev Found (l:List RGo) (p:RPl) (i:Nat) (ok:Bool):Prop:=
 (ok=true -> ∃ h:i < l.length,look RGo.pl l p=some l[i]) /\ (ok=false -> look RGo.pl l p=none)
set_option maxRecDepth 100000 in
set_option maxHeartbeats 3000000 in
theorem bsearch_any (w:World) (F:aV) (v:Value) (l:List RGo) (p:RPl) (h:Rows F w 3 v l.length (l.flatMap cn)) (hl:l.length <= 1000000) (ha:Asc RGo.pl l):
 Calls aC 173 #[v,plV p,.func (.func 174) #[] #[]] w fun e w'=>
  (∃ (i:Nat) (ok:Bool),e=.returned (.tuple #[.int .i64 i,.bool ok]) /\ Found l p i ok) /\ Below w.heap.size w w':=by
 have Hh:=ae h;obtain⟨a,cap,rfl,-⟩:=h.shape
 obtain⟨n,hn⟩:∃ n,l.length=n:=⟨_,rfl⟩
 have Hn:=ae hn;have Ha:=ae ha;rw[hn] at hl
 obtain⟨w1,hw1⟩:∃ w1,w1=w.alloc (.cells #[.string ⟨p.1.toArray⟩,.int .i64 p.2] 174):=⟨_,rfl⟩
 have hb1:Below w.heap.size w w1:=by rw[hw1];exact aE _ _
 have hp:=Blk.new w #[.string ⟨p.1.toArray⟩,.int .i64 p.2] 174;rw[<- hw1] at hp;have hz1:w1.heap.size=w.heap.size+1:=by rw[hw1];simp
 have Hp:=ae hp;have Hw1:=ae hw1;have Hz1:=ae hz1;have Hs0:=ae (show Below (w.heap.size+1) w1 w1 from Below.refl _ _);have Hb1:=ae hb1;clear h ha hp hw1 hz1 hb1;unfold plV;rw[Hn.out]
 go_enter Tryz.func173,Tryz.ntmps173
 go_wp2_with fail
 go_loopg [9,10] n (fun g s9 s10 wr=>∃ lo hi:Nat,s9=.int .i64 lo /\ s10=.int .i64 hi /\ lo <= hi /\ hi <= n /\ hi - lo <= g /\ Below (w.heap.size+1) w1 wr /\ Srch l p lo hi)
 case atStart=>
  exact⟨0,n,rfl,rfl,Nat.zero_le _,aq _,by omega,by
   have:=Hs0.out;rw[Hw1.out] at this ⊢
   exact this,fun k hk h0=>by omega,fun k hk h0=>by have:=Hn.out;omega⟩
 case round=>
  obtain⟨lo,hi,rfl,rfl,hlh,hin,hg,hbw,hs⟩:=hrel;have Hbw:=ae hbw;have Hs:=ae hs;have hmem:=Hh.out.keep (w':=wr) fun b _ hlt=>(Hbw.out.block b (by omega)).trans (Hb1.out.block b hlt)
  have q0:wr.cell? ⟨w.heap.size,0,none⟩=some (.string ⟨p.1.toArray⟩):=by
   simpa using (Hp.out.keep (Hbw.out.block w.heap.size (by omega))).cell 0
  have q1:wr.cell? ⟨w.heap.size,1,none⟩=some (.int .i64 p.2):=by
   simpa using (Hp.out.keep (Hbw.out.block w.heap.size (by omega))).cell 1
  clear hbw hs
  by_cases hlt:lo < hi
  ·obtain⟨m,hm⟩:∃ m,m=(lo+hi) / 2:=⟨_,rfl⟩
   obtain⟨b,off,rfl,-,-,hc⟩:=eF hmem (by rw[Hn.out];omega);have hmn:m < l.length:=by rw[Hn.out];omega
   obtain⟨x0,x1,x2⟩:=hc m hmn
   obtain⟨x,hx⟩:∃ x,l[m]=x:=⟨_,rfl⟩
   rw[hx] at x0 x1 x2;have Hx:=ae hx;have HC:=ae (show Calls aC 174 #[.agg #[.string ⟨x.key.toArray⟩,.int .i64 x.dev,.int .i64 x.seq],.agg #[.string ⟨p.1.toArray⟩,.int .i64 p.2]] wr.drew _ from burCmp_any wr.drew x p);have p0:∀ w',aI wr.drew w' -> w'.cell? _=_:=fun w' hh=>laterC x0 hh
   have p1:∀ w',aI wr.drew w' -> w'.cell? _=_:=fun w' hh=>laterC x1 hh
   have p2:∀ w',aI wr.drew w' -> w'.cell? _=_:=fun w' hh=>laterC x2 hh
   have r0:∀ w',aI wr.drew w' -> w'.cell? _=_:=fun w' hh=>laterC q0 hh
   have r1:∀ w',aI wr.drew w' -> w'.cell? _=_:=fun w' hh=>laterC q1 hh
   have hs0:IntKind.i64.wrap (m:Int)=(m:Int):=af _ (by omega);have hs1:IntKind.i64.wrap ((lo:Int)+hi)=(lo:Int)+hi:=af _ (by omega);have hs2:((lo:Int)+hi) / 2=(m:Int):=by omega
   have hmI:(m:Int) < (n:Int):=by have:=Hn.out;omega
   have Hm:=ae hm;clear hc hmem x0 x1 x2 q0 q1 hx hm;go_wp2_with fail;refine aJ aI [(0,true),(1,true),(2,true),(3,true),(4,true),(5,true),(6,false),(7,true)] (by kernel_rfl) (by kernel_rfl) aH aG ?_
   repeat (refine aF (v:=?_) rfl (aD rfl) (fun w' hC=>?_) (fun K hK=>?_);rotate_left;(focus (go_simp;(try simp(disch:=omega) only[af]);first | done | exact rfl));go_simp;(try simp(disch:=omega) only[af]);refine hK _ ?_;clear hK K)
   refine aQ rfl rfl (fun KK hK=>?_);go_simp;refine HC.out.mono ?_;rintro e w2 ⟨rfl,hb2⟩;refine⟨_,rfl,hb2,hK _ _ ?_⟩;clear hK KK HC p0 p1 p2 r0 r1;go_simp;have Hb2:=ae (Hbw.out.trans (((Below.refl _ _).drew.trans hb2).mono (au (Nat.le_of_eq Hz1.out.symm) Hbw.out.size)));clear hb2
   by_cases hl:plt x.pl p
   ·have hv:pcmp x.pl p = -1:=by unfold pcmp;rw[if_pos hl]
    rw[hv];have Hl:=ae hl;clear hv hl
    repeat (refine aF (v:=?_) rfl (aD rfl) (fun w' hC=>?_) (fun K hK=>?_);rotate_left;(focus (go_simp;(try simp(disch:=omega) only[af]);first | done | exact rfl));go_simp;(try simp(disch:=omega) only[af]);refine hK _ ?_;clear hK K)
    refine aW ?_;go_wp2_with fail
    go_roundg (hi - (m+1))
    case measure=>have:=Hm.out;omega
    case rel=>exact⟨m+1,hi,by go_num,rfl,by have:=Hm.out;omega,hin,aq _,Hb2.out,srch_lo Ha.out Hs.out hmn (by rw[Hx.out];exact Hl.out)⟩
   ·have hv:0 <= pcmp x.pl p:=by unfold pcmp;rw[if_neg hl];split <;> omega
    have Hl:=ae hl;generalize pcmp x.pl p=cv at *;clear hl;have hv2:¬ cv < 0:=by omega
    repeat (refine aF (v:=?_) rfl (aD rfl) (fun w' hC=>?_) (fun K hK=>?_);rotate_left;(focus (go_simp;(try simp(disch:=omega) only[af]);first | done | exact rfl));go_simp;(try simp(disch:=omega) only[af]);refine hK _ ?_;clear hK K)
    refine aW ?_;go_wp2_with fail
    go_roundg (m - lo)
    case measure=>have:=Hm.out;omega
    case rel=>exact⟨lo,m,rfl,rfl,by have:=Hm.out;omega,by have:=Hm.out;omega,aq _,Hb2.out,srch_hi Ha.out Hs.out hmn (by rw[Hx.out];exact Hl.out)⟩
  ·have he:hi=lo:=by omega
   subst he
   by_cases hin2:hi < n
   ·obtain⟨b,off,rfl,-,-,hc⟩:=eF hmem (by rw[Hn.out];omega);have hmn:hi < l.length:=by rw[Hn.out];omega
    obtain⟨x0,x1,x2⟩:=hc hi hmn
    obtain⟨x,hx⟩:∃ x,l[hi]=x:=⟨_,rfl⟩
    rw[hx] at x0 x1 x2;have Hx:=ae hx;have HC:=ae (show Calls aC 174 #[.agg #[.string ⟨x.key.toArray⟩,.int .i64 x.dev,.int .i64 x.seq],.agg #[.string ⟨p.1.toArray⟩,.int .i64 p.2]] wr.drew _ from burCmp_any wr.drew x p);have p0:∀ w',aI wr.drew w' -> w'.cell? _=_:=fun w' hh=>laterC x0 hh
    have p1:∀ w',aI wr.drew w' -> w'.cell? _=_:=fun w' hh=>laterC x1 hh
    have p2:∀ w',aI wr.drew w' -> w'.cell? _=_:=fun w' hh=>laterC x2 hh
    have r0:∀ w',aI wr.drew w' -> w'.cell? _=_:=fun w' hh=>laterC q0 hh
    have r1:∀ w',aI wr.drew w' -> w'.cell? _=_:=fun w' hh=>laterC q1 hh
    have hs0:IntKind.i64.wrap (hi:Int)=(hi:Int):=af _ (by omega);have hmI:(hi:Int) < (n:Int):=by omega
    clear hc hmem x0 x1 x2 q0 q1 hx;go_wp2_with fail;refine aJ aI [(0,true),(1,true),(2,true),(3,true),(4,true),(5,true),(6,true),(7,true),(8,true),(9,true),(10,true),(11,false),(12,true),(13,true),(14,true),(15,true)] (by kernel_rfl) (by kernel_rfl) aH aG ?_
    repeat (first
     | (refine aF (v:=?_) rfl (aD rfl) (fun w' hC=>?_) (fun K hK=>?_);rotate_left;(focus (go_simp;(try simp(disch:=omega) only[af]);first | done | exact rfl));go_simp;(try simp(disch:=omega) only[af]);refine hK _ ?_;clear hK K)
     | (refine aU rfl (fun A B hA hB=>?_);go_simp;first | (refine hA ⟨?_,fun w' hC=>?_,fun K hK=>?_⟩;rotate_left;(focus (go_simp;(try simp(disch:=omega) only[af]);first | done | exact rfl));go_simp;(try simp(disch:=omega) only[af]);refine hK _ ?_;clear hK K hA hB A B) | (refine hB (fun K hK=>?_);go_simp;(try simp(disch:=omega) only[af]);refine hK _ ?_;clear hK K hA hB A B))
     | (refine aM rfl (fun A B hA hB=>?_);go_simp;refine hB (fun K hK=>?_);go_simp;(try simp(disch:=omega) only[af]);refine hK _ ?_;clear hK K hA hB A B))
    refine aQ rfl rfl (fun KK hK=>?_);go_simp;refine HC.out.mono ?_;rintro e w2 ⟨rfl,hb2⟩;refine⟨_,rfl,hb2,hK _ _ ?_⟩;clear hK KK HC p0 p1 p2 r0 r1;go_simp;have Hb2:=ae (Hbw.out.trans (((Below.refl _ _).drew.trans hb2).mono (au (Nat.le_of_eq Hz1.out.symm) Hbw.out.size)));clear hb2
    by_cases he:x.pl=p
    ·have hv:pcmp x.pl p=0:=by unfold pcmp;rw[he,if_neg (plt_irrefl p),if_neg (plt_irrefl p)]
     rw[hv];have He:=ae he;clear hv he
     repeat (first
      | (refine aF (v:=?_) rfl (aD rfl) (fun w' hC=>?_) (fun K hK=>?_);rotate_left;(focus (go_simp;(try simp(disch:=omega) only[af]);first | done | exact rfl));go_simp;(try simp(disch:=omega) only[af]);refine hK _ ?_;clear hK K)
      | (refine aU rfl (fun A B hA hB=>?_);go_simp;first | (refine hA ⟨?_,fun w' hC=>?_,fun K hK=>?_⟩;rotate_left;(focus (go_simp;(try simp(disch:=omega) only[af]);first | done | exact rfl));go_simp;(try simp(disch:=omega) only[af]);refine hK _ ?_;clear hK K hA hB A B) | (refine hB (fun K hK=>?_);go_simp;(try simp(disch:=omega) only[af]);refine hK _ ?_;clear hK K hA hB A B))
      | (refine aM rfl (fun A B hA hB=>?_);go_simp;refine hB (fun K hK=>?_);go_simp;(try simp(disch:=omega) only[af]);refine hK _ ?_;clear hK K hA hB A B))
     refine aW ?_;go_wp2_with fail;go_ret2;exact⟨⟨hi,true,rfl,fun _=>⟨hmn,srch_hit Ha.out hmn (by rw[Hx.out];exact He.out)⟩,fun h=>by cases h⟩,Hb1.out.trans (Hb2.out.mono (Nat.le_succ _))⟩
    ·have hv:pcmp x.pl p≠0:=by
      unfold pcmp;intro h;split at h
      ·omega
      ·rename_i h1;split at h
       ·omega
       ·rename_i h2;exact he (plt_tri h1 h2)
     have He:=ae he;generalize pcmp x.pl p=cv at *;clear he;have hvb:(cv == 0)=false:=by simpa using hv
     repeat (first
      | (refine aF (v:=?_) rfl (aD rfl) (fun w' hC=>?_) (fun K hK=>?_);rotate_left;(focus (go_simp;(try simp(disch:=omega) only[af]);first | done | exact rfl));go_simp;(try simp(disch:=omega) only[af]);refine hK _ ?_;clear hK K)
      | (refine aU rfl (fun A B hA hB=>?_);go_simp;first | (refine hA ⟨?_,fun w' hC=>?_,fun K hK=>?_⟩;rotate_left;(focus (go_simp;(try simp(disch:=omega) only[af]);first | done | exact rfl));go_simp;(try simp(disch:=omega) only[af]);refine hK _ ?_;clear hK K hA hB A B) | (refine hB (fun K hK=>?_);go_simp;(try simp(disch:=omega) only[af]);refine hK _ ?_;clear hK K hA hB A B))
      | (refine aM rfl (fun A B hA hB=>?_);go_simp;refine hB (fun K hK=>?_);go_simp;(try simp(disch:=omega) only[af]);refine hK _ ?_;clear hK K hA hB A B))
     refine aW ?_;go_wp2_with fail;go_ret2;exact⟨⟨hi,false,rfl,⟨fun h=>by simp at h,fun _=>srch_miss Ha.out Hs.out (fun _=>by rw[Hx.out];exact He.out)⟩⟩,Hb1.out.trans (Hb2.out.mono (Nat.le_succ _))⟩
   ·have hmI:¬ (hi:Int) < (n:Int):=by omega
    have hnl:look RGo.pl l p=none:=srch_miss Ha.out Hs.out (fun h=>absurd (Hn.out ▸ h) hin2);have Hnl:=ae hnl;clear hnl hmem q0 q1;go_wp2_with fail;refine aJ aI [(0,true),(1,true),(2,true),(3,true),(4,true),(5,true),(6,true),(7,true),(8,true),(9,true),(10,true),(11,false),(12,true),(13,true),(14,true),(15,true)] (by kernel_rfl) (by kernel_rfl) aH aG ?_
    repeat (first
     | (refine aF (v:=?_) rfl (aD rfl) (fun w' hC=>?_) (fun K hK=>?_);rotate_left;(focus (go_simp;(try simp(disch:=omega) only[af]);first | done | exact rfl));go_simp;(try simp(disch:=omega) only[af]);refine hK _ ?_;clear hK K)
     | (refine aU rfl (fun A B hA hB=>?_);go_simp;first | (refine hA ⟨?_,fun w' hC=>?_,fun K hK=>?_⟩;rotate_left;(focus (go_simp;(try simp(disch:=omega) only[af]);first | done | exact rfl));go_simp;(try simp(disch:=omega) only[af]);refine hK _ ?_;clear hK K hA hB A B) | (refine hB (fun K hK=>?_);go_simp;(try simp(disch:=omega) only[af]);refine hK _ ?_;clear hK K hA hB A B))
     | (refine aM rfl (fun A B hA hB=>?_);go_simp;refine hB (fun K hK=>?_);go_simp;(try simp(disch:=omega) only[af]);refine hK _ ?_;clear hK K hA hB A B))
    refine aW ?_;go_wp2_with fail;go_ret2;exact⟨⟨hi,false,rfl,⟨fun h=>by simp at h,fun _=>Hnl.out⟩⟩,Hb1.out.trans (Hbw.out.drew.mono (Nat.le_succ _))⟩
end Go.Proofs.YtobjdpngnfbicaaGreatDoor
