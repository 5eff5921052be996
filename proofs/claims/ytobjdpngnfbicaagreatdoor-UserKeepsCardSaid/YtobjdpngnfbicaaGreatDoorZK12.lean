/-
  RCheck
-/
import Derived.Test.YtobjdpngnfbicaaGreatDoorZK11
import Derived.Test.YtobjdpngnfbicaaGreatDoorZK04
import Derived.Test.YtobjdpngnfbicaaGreatDoorZK02
open Go.Lib renaming hid->ae
open Go.IntWalk renaming i64_in->af
open Nat renaming le_refl->aq,le_trans->au
open List renaming getElem_mem->aA
open Go.Proofs.Tryz renaming prog->aC
namespace Go.Proofs.YtobjdpngnfbicaaGreatDoor
open Go.RowKit
set_option linter.unusedVariables false
set_option maxRecDepth 20000
section
attribute [local go_sem] opC upC
set_option maxRecDepth 100000 in
set_option maxHeartbeats 1500000 in
theorem j0 (w:World) (F:aV) (v:Value) (m:RMap) (h:cY F w v m) (p:RPl) (hl:m.gone.length <= 1000000) (ha:Asc RGo.pl m.gone):
 Calls aC 117 #[v,plV p] w fun e w'=>e=.returned (.int .i64 (m.buried p)) /\ Below w.heap.size w w':=by
 replace h:=h.mono (G:=fun b=>b < w.heap.size) fun b _ hlt=>hlt
 obtain⟨s1,s2,s3,rfl,h⟩:=h;obtain⟨a1,p1,rfl,-⟩:=h.seen.shape;obtain⟨a2,p2,rfl,-⟩:=h.items.shape;obtain⟨a3,p3,rfl,-⟩:=h.gone.shape;have l1:=h.seen.len;have l2:=h.items.len;have l3:=h.gone.len;unfold maxLen at l1 l2 l3
 obtain⟨n1,hn1⟩:∃ n,m.seen.length=n:=⟨_,rfl⟩
 obtain⟨n2,hn2⟩:∃ n,m.items.length=n:=⟨_,rfl⟩
 obtain⟨n3,hn3⟩:∃ n,m.gone.length=n:=⟨_,rfl⟩
 rw[hn1,hn2,hn3] at h;rw[hn1] at l1 ⊢;rw[hn2] at l2 ⊢;rw[hn3] at l3 ⊢
 obtain⟨wx,hwx⟩:∃ wx,wx=w.alloc (.cells #[.slice a1 n1 p1,.slice a2 n2 p2,.slice a3 n3 p3] 37):=⟨_,rfl⟩
 have hbx:Below w.heap.size w wx:=by rw[hwx];exact aE _ _
 have hzx:wx.heap.size=w.heap.size+1:=by rw[hwx];simp
 have hx:=h.keep (w':=wx) fun b _ hlt=>hbx.block b hlt
 have hnx:Blk wx w.heap.size [.slice a1 n1 p1,.slice a2 n2 p2,.slice a3 n3 p3] 37:=by rw[hwx];exact Blk.new _ _ _
 have Hx:=ae hx;have Hn1:=ae hn1;have Hn2:=ae hn2;have Hn3:=ae hn3;have Hwx:=ae hwx;have Hbx:=ae hbx;have Hzx:=ae hzx;have c0:=hnx.cell 0;have c1:=hnx.cell 1;have c2:=hnx.cell 2;simp at c0 c1 c2;have Hnx:=ae hnx;clear hx hn1 hn2 hn3 hwx hbx hnx hzx;clear h
 obtain⟨w2,hw2⟩:∃ w2,w2=wx.alloc (.cells #[.string ⟨p.1.toArray⟩,.int .i64 p.2] 174):=⟨_,rfl⟩
 have hbx2:Below wx.heap.size wx w2:=by rw[hw2];exact aE _ _
 have hM2:=Hnx.out.keep (hbx2.block _ Hnx.out.lt);have hm2:=Hx.out.keep (w':=w2) fun b _ hlt=>hbx2.block b hlt
 have HS:=ae (show Calls aC 173 #[.slice a3 n3 p3,.agg #[.string ⟨p.1.toArray⟩,.int .i64 p.2],.func (.func 174) #[] #[]] w2 _ from bsearch_any w2 _ (.slice a3 n3 p3) m.gone p hm2.gone hl ha);have Hw2:=ae hw2;have Hb2:=ae (cA Hbx.out hbx2);have HM2:=ae hM2;have Hm2:=ae hm2;clear hw2 hbx2 hM2 hm2 ha;unfold plV
 go_enter Tryz.func117,Tryz.ntmps117
 go_wp2_with fail;rw[<- Hwx.out,<- Hw2.out];refine HS.out.mono ?_;rintro e w3 ⟨⟨i,ok,rfl,hf1,hf2⟩,hb3⟩;have Hb3:=ae (Hb2.out.trans (hb3.mono Hb2.out.size));clear HS c0 c1 c2;cases ok with
 | false=>
   have Hz:=ae (show m.buried p=0 by unfold RMap.buried;rw[hf2 rfl]);clear hf1 hf2 hb3;go_wp2_with fail
   go_ret
   exact⟨eY Hz.out.symm,Hb3.out⟩
 | true=>
   obtain⟨hi,hlk⟩:=hf1 rfl;have hM3:=(HM2.out.keep (hb3.block _ HM2.out.lt)).cell 2;simp at hM3;have hm3:=Hm2.out.keep (w':=w3) fun b _ hlt=>hb3.block b hlt
   obtain⟨b,off,rfl,-,-,hc⟩:=eF hm3.gone (by omega);obtain⟨-,-,e2⟩:=hc i hi
   obtain⟨x,hx⟩:∃ x,m.gone[i]=x:=⟨_,rfl⟩
   rw[hx] at e2 hlk;have Hz:=ae (show m.buried p=x.seq by unfold RMap.buried;rw[hlk]);have hin:i < n3:=by rw[<- Hn3.out];exact hi
   have hiI:(i:Int) < (n3:Int):=by omega
   clear hc hm3 hx hlk hf1 hf2 hb3;go_wp2_with fail
   go_ret
   exact⟨eY Hz.out.symm,Hb3.out⟩
theorem ff {m:RMap} (h:validR m=true -> False):validR m=false:=by
 cases hv:validR m with
 | false=>rfl
 | true=>exact(h hv).elim
theorem fO {m:RMap} (f:Formed m) (hi:m.items.length <= 4096) (hg:m.gone.length <= 4096):Codable m:=by
 have sg:∀ i,m.seen.getD i 0 <= 1099511627776:=fun i=>by
  by_cases h:i < m.seen.length
  ·rw[List.getD_eq_getElem?_getD,List.getElem?_eq_getElem h];exact(f.seen _ (aA h)).2
  ·rw[List.getD_eq_getElem?_getD,List.getElem?_eq_none (by omega)]
   decide
 refine⟨fun n hn=>?_,fun x hx=>?_,fun x hx=>?_,by rw[f.len];omega,by omega,by omega⟩
 ·have:=f.seen n hn;omega
 ·obtain⟨h1,h2,h3,h4⟩:=known_seq (f.iknown x hx);have h5:=sg x.pl.2.toNat;have h6:=f.val x hx;rw[f.len] at h2;have h7:x.pl.2=x.dev:=rfl;exact⟨keyOk_len (known_key (f.iknown x hx)),by omega,by omega,by omega⟩
 ·obtain⟨h1,h2,h3,h4⟩:=known_seq (f.gknown x hx);have h5:=sg x.pl.2.toNat;rw[f.len] at h2;have h7:x.pl.2=x.dev:=rfl;exact⟨keyOk_len (known_key (f.gknown x hx)),by omega,by omega⟩
set_option maxRecDepth 100000 in
set_option maxHeartbeats 6000000 in
theorem iT (w:World) (hT:cL w) (h3:4 <= w.heap.size) (F:aV) (v:Value) (m:RMap) (h:cY F w v m):
 Calls aC 83 #[v] w fun e w'=>e=.returned (.int .i64 (if validR m then 0 else 5)) /\ Below w.heap.size w w':=by
 replace h:=h.mono (G:=fun b=>b < w.heap.size) fun b _ hlt=>hlt
 obtain⟨ok,hok⟩:∃ ok,validR m=ok:=⟨_,rfl⟩
 rw[hok];have Hok:=ae hok;obtain⟨s1,s2,s3,rfl,h⟩:=h;obtain⟨a1,p1,rfl,-⟩:=h.seen.shape;obtain⟨a2,p2,rfl,-⟩:=h.items.shape;obtain⟨a3,p3,rfl,-⟩:=h.gone.shape;have l1:=h.seen.len;have l2:=h.items.len;have l3:=h.gone.len;unfold maxLen at l1 l2 l3
 obtain⟨n1,hn1⟩:∃ n,m.seen.length=n:=⟨_,rfl⟩
 obtain⟨n2,hn2⟩:∃ n,m.items.length=n:=⟨_,rfl⟩
 obtain⟨n3,hn3⟩:∃ n,m.gone.length=n:=⟨_,rfl⟩
 rw[hn1,hn2,hn3] at h;rw[hn1] at l1 ⊢;rw[hn2] at l2 ⊢;rw[hn3] at l3 ⊢
 obtain⟨wx,hwx⟩:∃ wx,wx=w.alloc (.cells #[.slice a1 n1 p1,.slice a2 n2 p2,.slice a3 n3 p3] 37):=⟨_,rfl⟩
 have hbx:Below w.heap.size w wx:=by rw[hwx];exact aE _ _
 have hzx:wx.heap.size=w.heap.size+1:=by rw[hwx];simp
 have hx:=h.keep (w':=wx) fun b _ hlt=>hbx.block b hlt
 have hnx:Blk wx w.heap.size [.slice a1 n1 p1,.slice a2 n2 p2,.slice a3 n3 p3] 37:=by rw[hwx];exact Blk.new _ _ _
 have Hx:=ae hx;have Hn1:=ae hn1;have Hn2:=ae hn2;have Hn3:=ae hn3;have Hwx:=ae hwx;have Hbx:=ae hbx;have Hzx:=ae hzx;have c0:=hnx.cell 0;have c1:=hnx.cell 1;have c2:=hnx.cell 2;simp at c0 c1 c2;have Hnx:=ae hnx;clear hx hn1 hn2 hn3 hwx hbx hnx hzx;have HIB:=ae h.itemsB;have HGB:=ae h.goneB
 have HT:=ae (show ∀ w',Below (w.heap.size+1) wx w' -> cL w' /\ 4 <= w'.heap.size from fun w' hb=>by
  have hb':=Hbx.out.trans (hb.mono (Nat.le_succ _))
  exact⟨bi hT h3 hb',au h3 hb'.size⟩)
 have HM:=ae (show ∀ w',Below (w.heap.size+1) wx w' -> (w'.cell? ⟨w.heap.size,0,none⟩=some (.slice a1 n1 p1) /\ w'.cell? ⟨w.heap.size,1,none⟩=some (.slice a2 n2 p2) /\ w'.cell? ⟨w.heap.size,2,none⟩=some (.slice a3 n3 p3)) /\ bJ (fun b=>b < w.heap.size) w' (.slice a1 n1 p1) (.slice a2 n2 p2) (.slice a3 n3 p3) m from fun w' hb=>by
  have hk:=Hnx.out.keep (hb.block _ (by omega));have k0:=hk.cell 0;have k1:=hk.cell 1;have k2:=hk.cell 2;simp at k0 k1 k2
  exact⟨⟨k0,k1,k2⟩,Hx.out.keep fun b hb' hlt=>hb.block b (by omega)⟩)
 have H0:=ae (show Below (w.heap.size+1) wx wx from Below.refl _ _);have HE:=ae (show ∀ w',Below (w.heap.size+1) wx w' -> Below w.heap.size w w' from fun w' hb=>Hbx.out.trans (hb.mono (Nat.le_succ _)));have Hzs:=ae (show wx.heap.size=w.heap.size+1 from Hzx.out);clear h hok hT Hx Hnx c0 c1 c2 Hbx Hzx
 go_enter Tryz.func83,Tryz.ntmps83
 by_cases hl1:n1=8
 case neg=>
  have hI:¬ (n1:Int)=8:=by omega
  have hI2:((n1:Int) != 8)=true:=by simp[hI]
  obtain rfl:ok=false:=by
   rw[<- Hok.out];refine ff fun hv=>hl1 ?_
   rw[<- Hn1.out];exact(valid_formed hv).len
  go_wp2_with fail;rw[<- Hwx.out]
  go_ret
  exact⟨rfl,HE.out _ H0.out⟩
 subst hl1
 by_cases hl2:n2 <= 4096
 case neg=>
  have hI:(n2:Int) > 4096:=by omega
  obtain rfl:ok=false:=by
   rw[<- Hok.out];refine ff fun hv=>hl2 ?_
   rw[<- Hn2.out];exact(valid_lens hv).2.1
  go_wp2_with fail;rw[<- Hwx.out]
  go_ret
  exact⟨rfl,HE.out _ H0.out⟩
 have hI2:¬ (n2:Int) > 4096:=by omega
 by_cases hl3:n3 <= 4096
 case neg=>
  have hI:(n3:Int) > 4096:=by omega
  obtain rfl:ok=false:=by
   rw[<- Hok.out];refine ff fun hv=>hl3 ?_
   rw[<- Hn3.out];exact(valid_lens hv).2.2.1
  go_wp2_with fail;rw[<- Hwx.out]
  go_ret
  exact⟨rfl,HE.out _ H0.out⟩
 have hI3:¬ (n3:Int) > 4096:=by omega
 go_wp2_with fail;rw[<- Hwx.out];clear hI2 hI3
 go_loopw [28] (fun i wr=>∃ k:Nat,k <= 8 /\ i=.int .i64 (k:Int) /\ wr=wx /\ ∀ j (hj:j < m.seen.length),j < k -> seenOk m.seen[j]=true) (fun i _=>8 - (intOf i).toNat)
 case atStart=>exact⟨0,by omega,rfl,rfl,fun j _ hj=>by omega⟩
 case round=>
  obtain⟨k,hk,rfl,rfl,hall⟩:=hrel;have Hall:=ae hall;clear hall;obtain⟨⟨d0,d1,d2⟩,hmp⟩:=HM.out _ H0.out
  by_cases hkn:k < 8
  ·have hkI:(k:Int) < 8:=by omega
   have hkl:k < m.seen.length:=by rw[Hn1.out];exact hkn
   obtain⟨b,off,rfl,-,-,hc⟩:=fY hmp.seen (by omega);have e0:=hc k hkl
   obtain⟨x,hx⟩:∃ x,m.seen[k]=x:=⟨_,rfl⟩
   rw[hx] at e0;have Hx:=ae hx;clear hc hx hmp
   by_cases hs:0 <= x /\ x <= 1099511627776
   ·obtain⟨s1,s2⟩:=hs;have s1':¬ x < 0:=by omega
    have s2':¬ x > 1099511627776:=by omega
    have Hs:=ae (show seenOk x=true by unfold seenOk;exact decide_eq_true ⟨s1,s2⟩);clear s1 s2;go_wp2_with fail
    go_roundw
    case rel=>exact⟨k+1,by omega,by go_num,by trivial,fun j hj hjk=>by
     rcases Nat.lt_succ_iff_lt_or_eq.1 hjk with h | h
     ·exact Hall.out j hj h
     ·subst h;rw[Hx.out];exact Hs.out⟩
    case measure=>simp[intOf];omega
   ·obtain rfl:ok=false:=by
     rw[<- Hok.out];refine ff fun hv=>hs ?_
     exact(valid_formed hv).seen x (by rw[<- Hx.out];exact aA hkl)
    by_cases s1:x < 0
    ·go_wp2_with fail
     go_ret
     exact⟨rfl,HE.out _ H0.out⟩
    ·have s2:x > 1099511627776:=by omega
     go_wp2_with fail
     go_ret
     exact⟨rfl,HE.out _ H0.out⟩
  ·have hkI:¬ (k:Int) < 8:=by omega
   have Hseen:=ae (show m.seen.all seenOk=true by
    rw[List.all_eq_true];intro x hx;obtain⟨j,hj,rfl⟩:=List.mem_iff_getElem.1 hx
    exact Hall.out j hj (by rw[Hn1.out] at hj;omega))
   have HA:=ae (ascI_any wr _ _ m.items hmp.items (by rw[Hn2.out];omega));clear hmp Hall hkn hk;go_wp2_with fail;refine HA.out.mono ?_;rintro e w2 ⟨rfl,hb2⟩;have Hb2:=ae (show Below (w.heap.size+1) wr w2 from hb2.mono (by rw[Hzs.out];exact aq _));clear HA hb2
   by_cases hai:Asc RIt.pl m.items
   case neg=>
    rw[decide_eq_false hai];have hv:=ff (m:=m) fun hv=>hai (valid_formed hv).items
    obtain rfl:ok=false:=by rw[<- Hok.out];exact hv
    clear hv hai;go_wp2_with fail
    go_ret
    exact⟨rfl,HE.out _ Hb2.out⟩
   rw[decide_eq_true hai];have Hai:=ae hai;obtain⟨⟨f0,f1,f2⟩,hmp2⟩:=HM.out _ Hb2.out;have HA:=ae (ascG_any w2 _ _ m.gone hmp2.gone (by rw[Hn3.out];omega));clear hai hmp2 d0 d1 d2;go_wp2_with fail;refine HA.out.mono ?_;rintro e w3 ⟨rfl,hb3⟩;have Hb3:=ae (show Below (w.heap.size+1) wr w3 from Hb2.out.trans (hb3.mono (by have:=Hb2.out.size;rw[Hzs.out] at this;exact this)));clear HA hb3 f0 f1 f2
   by_cases hag:Asc RGo.pl m.gone
   case neg=>
    rw[decide_eq_false hag];have hv:=ff (m:=m) fun hv=>hag (valid_formed hv).gone
    obtain rfl:ok=false:=by rw[<- Hok.out];exact hv
    clear hv hag;go_wp2_with fail
    go_ret
    exact⟨rfl,HE.out _ Hb3.out⟩
   rw[decide_eq_true hag];have Hag:=ae hag;obtain⟨⟨d0,d1,d2⟩,-⟩:=HM.out _ Hb3.out;clear hag Hb2;go_wp2_with fail
   go_loopw [52] (fun i wq=>∃ k:Nat,k <= n3 /\ i=.int .i64 (k:Int) /\ Below (w.heap.size+1) wr wq /\ ∀ j (hj:j < m.gone.length),j < k -> goneOk m m.gone[j]=true) (fun i _=>n3 - (intOf i).toNat)
   case atStart=>exact⟨0,by omega,rfl,Hb3.out,fun j _ hj=>by omega⟩
   case round=>
    rename World=>wq
    obtain⟨k,hk,rfl,hbq,hall⟩:=hrel;have Hall:=ae hall;have Hbq:=ae hbq;clear hall hbq Hb3;obtain⟨⟨d0,d1,d2⟩,hmp⟩:=HM.out _ Hbq.out
    by_cases hkn:k < n3
    ·have hkI:(k:Int) < (n3:Int):=by omega
     have hkl:k < m.gone.length:=by rw[Hn3.out];exact hkn
     obtain⟨b,off,rfl,-,-,hc⟩:=eF hmp.gone (by omega);obtain⟨e0,e1,e2⟩:=hc k hkl
     obtain⟨x,hx⟩:∃ x,m.gone[k]=x:=⟨_,rfl⟩
     rw[hx] at e0 e1 e2;have Hx:=ae hx
     obtain⟨wb,hwb⟩:∃ wb,wb=wq.alloc (.cells #[.string ⟨x.key.toArray⟩,.int .i64 x.dev,.int .i64 x.seq] 111):=⟨_,rfl⟩
     have hbb:Below (w.heap.size+1) wr wb:=by rw[hwb];exact Hbq.out.alloc (by have:=Hbq.out.size;have:=Hzs.out;omega) _
     have hXB:Blk wb wq.heap.size [.string ⟨x.key.toArray⟩,.int .i64 x.dev,.int .i64 x.seq] 111:=by rw[hwb];exact Blk.new _ _ _
     have x0:=hXB.cell 0;have x1:=hXB.cell 1;have x2:=hXB.cell 2;simp at x0 x1 x2;obtain⟨⟨m0,m1,m2⟩,-⟩:=HM.out _ hbb;have px0:∀ w',aI wb.drew w' -> w'.cell? _=_:=fun w' hh=>laterC x0 hh
     have px1:∀ w',aI wb.drew w' -> w'.cell? _=_:=fun w' hh=>laterC x1 hh
     have px2:∀ w',aI wb.drew w' -> w'.cell? _=_:=fun w' hh=>laterC x2 hh
     have pm0:∀ w',aI wb.drew w' -> w'.cell? _=_:=fun w' hh=>laterC m0 hh
     have pm1:∀ w',aI wb.drew w' -> w'.cell? _=_:=fun w' hh=>laterC m1 hh
     have pm2:∀ w',aI wb.drew w' -> w'.cell? _=_:=fun w' hh=>laterC m2 hh
     have HPX:=ae (show Calls aC 112 #[.agg #[.string ⟨x.key.toArray⟩,.int .i64 x.dev,.int .i64 x.seq]] wb.drew _ from goPlace_any wb.drew x);have Hwb:=ae hwb;have Hbb:=ae hbb;have hzb:wq.heap.size < wb.heap.size:=hXB.lt;have Hzb:=ae hzb;clear hc hx hwb hbb hXB x0 x1 x2 m0 m1 m2 d1 hzb hmp;go_wp2_with fail;rw[<- Hwb.out];refine aJ aI [(0,true),(1,true),(3,true),(4,true),(2,false),(5,false),(6,true)] (by kernel_rfl) (by kernel_rfl) aH aG ?_
     repeat (refine aF (v:=?_) rfl (aD rfl) (fun w' hC=>?_) (fun K hK=>?_);rotate_left;(focus (go_simp;first | done | exact rfl));go_simp;refine hK _ ?_;clear hK K)
     refine aQ rfl rfl (fun KK hK=>?_);go_simp;refine HPX.out.mono ?_;rintro e w4 ⟨rfl,hb4⟩;refine⟨_,rfl,hb4,hK _ _ ?_⟩;clear hK KK HPX;go_simp;have hb4':Below (w.heap.size+1) wr w4:=Hbb.out.drew.trans (hb4.mono (by have:=Hbb.out.size;have:=Hzs.out;show _ <= wb.heap.size;omega));have hxg:x ∈ m.gone:=by rw[<- Hx.out];exact aA hkl
     have HKN:=ae (known_any w4 (HT.out _ hb4').1 (HT.out _ hb4').2 _ (.agg #[.slice a1 8 p1,.slice a2 n2 p2,.slice (some ⟨b,off,none⟩) n3 p3]) m ⟨_,_,_,rfl,(HM.out _ hb4').2⟩ x.pl x.seq (HGB.out x hxg).1 (HGB.out x hxg).2.1 (HGB.out x hxg).2.2);have Hb4:=ae hb4';clear hb4 hb4' hxg
     repeat (refine aF (v:=?_) rfl (aD rfl) (fun w' hC=>?_) (fun K hK=>?_);rotate_left;(focus (go_simp;first | done | exact rfl));go_simp;refine hK _ ?_;clear hK K)
     refine aQ rfl rfl (fun KK hK=>?_);go_simp;refine HKN.out.mono ?_;rintro e w5 ⟨rfl,hb5⟩;refine⟨_,rfl,hb5,hK _ _ ?_⟩;clear hK KK HKN px0 px1 px2 pm0 pm1 pm2;go_simp;have Hb5:=ae (Hb4.out.trans (hb5.mono (by have:=Hb4.out.size;have:=Hzs.out;omega)));clear hb5
     obtain⟨kn,hkn'⟩:∃ kn,knownR m x.pl x.seq=kn:=⟨_,rfl⟩
     rw[hkn'];have Hkn:=ae hkn';clear hkn'
     repeat (refine aF (v:=?_) rfl (aD rfl) (fun w' hC=>?_) (fun K hK=>?_);rotate_left;(focus (go_simp;first | done | exact rfl));go_simp;refine hK _ ?_;clear hK K)
     refine aW ?_;cases kn with
     | true=>
       go_wp2_with fail
       go_roundw
       case rel=>exact⟨k+1,by omega,by go_num,Hb5.out,fun j hj hjk=>by
        rcases Nat.lt_succ_iff_lt_or_eq.1 hjk with h | h
        ·exact Hall.out j hj h
        ·subst h;rw[Hx.out];exact Hkn.out⟩
       case measure=>simp[intOf];omega
     | false=>
       obtain rfl:ok=false:=by
        rw[<- Hok.out];refine ff fun hv=>?_
        have:=(valid_formed hv).gknown x (by rw[<- Hx.out];exact aA hkl);rw[Hkn.out] at this;cases this
       go_wp2_with fail
       go_ret
       exact⟨rfl,HE.out _ Hb5.out⟩
    ·have hkI:¬ (k:Int) < (n3:Int):=by omega
     have Hgone:=ae (show ∀ g ∈ m.gone,goneOk m g=true by
      intro x hx;obtain⟨j,hj,rfl⟩:=List.mem_iff_getElem.1 hx
      exact Hall.out j hj (by rw[Hn3.out] at hj;omega))
     clear hmp Hall hkn hk;go_wp2_with fail
     go_loopw [67] (fun i wu=>∃ k:Nat,k <= n2 /\ i=.int .i64 (k:Int) /\ Below (w.heap.size+1) wr wu /\ ∀ j (hj:j < m.items.length),j < k -> itemOk m m.items[j]=true) (fun i _=>n2 - (intOf i).toNat)
     case atStart=>exact⟨0,by omega,rfl,Hbq.out,fun j _ hj=>by omega⟩
     case round=>
      rename World=>wu
      obtain⟨k,hk,rfl,hbu,hall⟩:=hrel;have Hall:=ae hall;have Hbu:=ae hbu;clear hall hbu Hbq d0 d1 d2 hkI;obtain⟨⟨d0,d1,d2⟩,hmp⟩:=HM.out _ Hbu.out
      by_cases hkn:k < n2
      ·have hkI:(k:Int) < (n2:Int):=by omega
       have hkl:k < m.items.length:=by rw[Hn2.out];exact hkn
       obtain⟨b,off,rfl,-,-,hc⟩:=eE hmp.items (by omega);obtain⟨e0,e1,e2,e3⟩:=hc k hkl
       obtain⟨x,hx⟩:∃ x,m.items[k]=x:=⟨_,rfl⟩
       rw[hx] at e0 e1 e2 e3;have Hx:=ae hx
       obtain⟨wb,hwb⟩:∃ wb,wb=wu.alloc (.cells #[.string ⟨x.key.toArray⟩,.int .i64 x.dev,.int .i64 x.seq,.int .i64 x.val] 108):=⟨_,rfl⟩
       have hbb:Below (w.heap.size+1) wr wb:=by rw[hwb];exact Hbu.out.alloc (by have:=Hbu.out.size;have:=Hzs.out;omega) _
       have hXB:Blk wb wu.heap.size [.string ⟨x.key.toArray⟩,.int .i64 x.dev,.int .i64 x.seq,.int .i64 x.val] 108:=by rw[hwb];exact Blk.new _ _ _
       have x0:=hXB.cell 0;have x1:=hXB.cell 1;have x2:=hXB.cell 2;have x3:=hXB.cell 3;simp at x0 x1 x2 x3;obtain⟨⟨m0,m1,m2⟩,-⟩:=HM.out _ hbb;have px0:∀ w',aI wb.drew w' -> w'.cell? _=_:=fun w' hh=>laterC x0 hh
       have px1:∀ w',aI wb.drew w' -> w'.cell? _=_:=fun w' hh=>laterC x1 hh
       have px2:∀ w',aI wb.drew w' -> w'.cell? _=_:=fun w' hh=>laterC x2 hh
       have px3:∀ w',aI wb.drew w' -> w'.cell? _=_:=fun w' hh=>laterC x3 hh
       have pm0:∀ w',aI wb.drew w' -> w'.cell? _=_:=fun w' hh=>laterC m0 hh
       have pm1:∀ w',aI wb.drew w' -> w'.cell? _=_:=fun w' hh=>laterC m1 hh
       have pm2:∀ w',aI wb.drew w' -> w'.cell? _=_:=fun w' hh=>laterC m2 hh
       have HPX:=ae (show ∀ W,Calls aC 104 #[.agg #[.string ⟨x.key.toArray⟩,.int .i64 x.dev,.int .i64 x.seq,.int .i64 x.val]] W _ from fun W=>itPlace_any W x);have Hwb:=ae hwb;have Hbb:=ae hbb;clear hc hx hwb hbb hXB x0 x1 x2 x3 m0 m1 m2 d2 hmp;go_wp2_with fail;rw[<- Hwb.out];refine aJ aI [(0,true),(1,true),(3,true),(4,true),(2,false),(5,false),(6,true),(7,true),(8,true),(9,true),(10,true),(11,true),(12,true),(13,true),(14,true),(15,true),(16,true),(17,true),(18,true),(19,true),(20,true),(21,true),(22,false),(23,false),(24,true),(25,true)] (by kernel_rfl) (by kernel_rfl) aH aG ?_
       repeat (first
        | (refine aF (v:=?_) rfl (aD rfl) (fun w' hC=>?_) (fun K hK=>?_);rotate_left;(focus (go_simp;first | done | exact rfl));go_simp;refine hK _ ?_;clear hK K)
        | (refine aU rfl (fun A B hA hB=>?_);go_simp;first | (refine hA ⟨?_,fun w' hC=>?_,fun K hK=>?_⟩;rotate_left;(focus (go_simp;first | done | exact rfl));go_simp;refine hK _ ?_;clear hK K hA hB A B) | (refine hB (fun K hK=>?_);go_simp;refine hK _ ?_;clear hK K hA hB A B))
        | (refine aM rfl (fun A B hA hB=>?_);go_simp;refine hB (fun K hK=>?_);go_simp;refine hK _ ?_;clear hK K hA hB A B))
       refine aQ rfl rfl (fun KK hK=>?_);go_simp;refine(HPX.out _).mono ?_;rintro e w4 ⟨rfl,hb4⟩;refine⟨_,rfl,hb4,hK _ _ ?_⟩;clear hK KK;go_simp;have hb4':Below (w.heap.size+1) wr w4:=Hbb.out.drew.trans (hb4.mono (by have:=Hbb.out.size;have:=Hzs.out;show _ <= wb.heap.size;omega));have hxg:x ∈ m.items:=by rw[<- Hx.out];exact aA hkl
       have HKN:=ae (known_any w4 (HT.out _ hb4').1 (HT.out _ hb4').2 _ (.agg #[.slice a1 8 p1,.slice (some ⟨b,off,none⟩) n2 p2,.slice a3 n3 p3]) m ⟨_,_,_,rfl,(HM.out _ hb4').2⟩ x.pl x.seq (HIB.out x hxg).1 (HIB.out x hxg).2.1 (HIB.out x hxg).2.2.1);have Hb4:=ae hb4';have HL4:=ae (show aI wb.drew w4 from hb4);clear hb4 hb4' hxg
       repeat (first
        | (refine aF (v:=?_) rfl (aD rfl) (fun w' hC=>?_) (fun K hK=>?_);rotate_left;(focus (go_simp;first | done | exact rfl));go_simp;refine hK _ ?_;clear hK K)
        | (refine aU rfl (fun A B hA hB=>?_);go_simp;first | (refine hA ⟨?_,fun w' hC=>?_,fun K hK=>?_⟩;rotate_left;(focus (go_simp;first | done | exact rfl));go_simp;refine hK _ ?_;clear hK K hA hB A B) | (refine hB (fun K hK=>?_);go_simp;refine hK _ ?_;clear hK K hA hB A B))
        | (refine aM rfl (fun A B hA hB=>?_);go_simp;refine hB (fun K hK=>?_);go_simp;refine hK _ ?_;clear hK K hA hB A B))
       refine aQ rfl rfl (fun KK hK=>?_);go_simp;refine HKN.out.mono ?_;rintro e w5 ⟨rfl,hb5⟩;refine⟨_,rfl,hb5,hK _ _ ?_⟩;clear hK KK HKN;go_simp;have Hb5:=ae (Hb4.out.trans (hb5.mono (by have:=Hb4.out.size;have:=Hzs.out;omega)));have hl5:aI wb.drew w5:=aG _ _ _ HL4.out hb5;have qx0:∀ w',aI w5 w' -> w'.cell? _=_:=fun w' hh=>px0 w' (aG _ _ _ hl5 hh)
       have qx1:∀ w',aI w5 w' -> w'.cell? _=_:=fun w' hh=>px1 w' (aG _ _ _ hl5 hh)
       have qx2:∀ w',aI w5 w' -> w'.cell? _=_:=fun w' hh=>px2 w' (aG _ _ _ hl5 hh)
       have qx3:∀ w',aI w5 w' -> w'.cell? _=_:=fun w' hh=>px3 w' (aG _ _ _ hl5 hh)
       have qm0:∀ w',aI w5 w' -> w'.cell? _=_:=fun w' hh=>pm0 w' (aG _ _ _ hl5 hh)
       have qm1:∀ w',aI w5 w' -> w'.cell? _=_:=fun w' hh=>pm1 w' (aG _ _ _ hl5 hh)
       have qm2:∀ w',aI w5 w' -> w'.cell? _=_:=fun w' hh=>pm2 w' (aG _ _ _ hl5 hh)
       clear hb5 hl5 px0 px1 px2 px3 pm0 pm1 pm2
       obtain⟨kn,hkn'⟩:∃ kn,knownR m x.pl x.seq=kn:=⟨_,rfl⟩
       rw[hkn'];have Hkn:=ae hkn';clear hkn'
       have Hbad:=ae (show (kn=true -> 1 <= x.val -> x.val <= 16777216 -> ¬ m.buried x.pl < x.seq) -> ok=false from fun hno=>by
        rw[<- Hok.out];refine ff fun hv=>?_
        have hf:=valid_formed hv;have hxg:x ∈ m.items:=by rw[<- Hx.out];exact aA hkl
        have hkk:=hf.iknown x hxg;rw[Hkn.out] at hkk
        exact hno hkk (hf.val x hxg).1 (hf.val x hxg).2 (hf.above x hxg))
       cases kn with
       | false=>
         obtain rfl:ok=false:=Hbad.out fun h=>by cases h
         repeat (first
          | (refine aF (v:=?_) rfl (aD rfl) (fun w' hC=>?_) (fun K hK=>?_);rotate_left;(focus (go_simp;(try simp(disch:=omega) only[af]);first | done | exact rfl));go_simp;(try simp(disch:=omega) only[af]);refine hK _ ?_;clear hK K)
          | (refine aU rfl (fun A B hA hB=>?_);go_simp;first | (refine hA ⟨?_,fun w' hC=>?_,fun K hK=>?_⟩;rotate_left;(focus (go_simp;(try simp(disch:=omega) only[af]);first | done | exact rfl));go_simp;(try simp(disch:=omega) only[af]);refine hK _ ?_;clear hK K hA hB A B) | (refine hB (fun K hK=>?_);go_simp;(try simp(disch:=omega) only[af]);refine hK _ ?_;clear hK K hA hB A B))
          | (refine aM rfl (fun A B hA hB=>?_);go_simp;refine hB (fun K hK=>?_);go_simp;(try simp(disch:=omega) only[af]);refine hK _ ?_;clear hK K hA hB A B))
         refine aW ?_;go_wp2_with fail
         go_ret
         exact⟨rfl,HE.out _ Hb5.out⟩
       | true=>
         by_cases v1:x.val < 1
         ·obtain rfl:ok=false:=Hbad.out fun _ _ _ _=>by omega
          have v1d:decide (x.val < 1)=true:=by simpa using v1
          repeat (first
           | (refine aF (v:=?_) rfl (aD rfl) (fun w' hC=>?_) (fun K hK=>?_);rotate_left;(focus (go_simp;(try simp(disch:=omega) only[af]);first | done | exact rfl));go_simp;(try simp(disch:=omega) only[af]);refine hK _ ?_;clear hK K)
           | (refine aU rfl (fun A B hA hB=>?_);go_simp;first | (refine hA ⟨?_,fun w' hC=>?_,fun K hK=>?_⟩;rotate_left;(focus (go_simp;(try simp(disch:=omega) only[af]);first | done | exact rfl));go_simp;(try simp(disch:=omega) only[af]);refine hK _ ?_;clear hK K hA hB A B) | (refine hB (fun K hK=>?_);go_simp;(try simp(disch:=omega) only[af]);refine hK _ ?_;clear hK K hA hB A B))
           | (refine aM rfl (fun A B hA hB=>?_);go_simp;refine hB (fun K hK=>?_);go_simp;(try simp(disch:=omega) only[af]);refine hK _ ?_;clear hK K hA hB A B))
          refine aW ?_;go_wp2_with fail
          go_ret
          exact⟨rfl,HE.out _ Hb5.out⟩
         ·by_cases v2:x.val > 16777216
          ·obtain rfl:ok=false:=Hbad.out fun _ _ _ _=>by omega
           have v1d:decide (x.val < 1)=false:=by simpa using v1
           have v2d:decide (x.val > 16777216)=true:=by simpa using v2
           repeat (first
            | (refine aF (v:=?_) rfl (aD rfl) (fun w' hC=>?_) (fun K hK=>?_);rotate_left;(focus (go_simp;(try simp(disch:=omega) only[af]);first | done | exact rfl));go_simp;(try simp(disch:=omega) only[af]);refine hK _ ?_;clear hK K)
            | (refine aU rfl (fun A B hA hB=>?_);go_simp;first | (refine hA ⟨?_,fun w' hC=>?_,fun K hK=>?_⟩;rotate_left;(focus (go_simp;(try simp(disch:=omega) only[af]);first | done | exact rfl));go_simp;(try simp(disch:=omega) only[af]);refine hK _ ?_;clear hK K hA hB A B) | (refine hB (fun K hK=>?_);go_simp;(try simp(disch:=omega) only[af]);refine hK _ ?_;clear hK K hA hB A B))
            | (refine aM rfl (fun A B hA hB=>?_);go_simp;refine hB (fun K hK=>?_);go_simp;(try simp(disch:=omega) only[af]);refine hK _ ?_;clear hK K hA hB A B))
           refine aW ?_;go_wp2_with fail
           go_ret
           exact⟨rfl,HE.out _ Hb5.out⟩
          ·have v1d:decide (x.val < 1)=false:=by simpa using v1
           have v2d:decide (x.val > 16777216)=false:=by simpa using v2
           have Hv:=ae (show 1 <= x.val /\ x.val <= 16777216 by omega)
           repeat (first
            | (refine aF (v:=?_) rfl (aD rfl) (fun w' hC=>?_) (fun K hK=>?_);rotate_left;(focus (go_simp;(try simp(disch:=omega) only[af]);first | done | exact rfl));go_simp;(try simp(disch:=omega) only[af]);refine hK _ ?_;clear hK K)
            | (refine aU rfl (fun A B hA hB=>?_);go_simp;first | (refine hA ⟨?_,fun w' hC=>?_,fun K hK=>?_⟩;rotate_left;(focus (go_simp;(try simp(disch:=omega) only[af]);first | done | exact rfl));go_simp;(try simp(disch:=omega) only[af]);refine hK _ ?_;clear hK K hA hB A B) | (refine hB (fun K hK=>?_);go_simp;(try simp(disch:=omega) only[af]);refine hK _ ?_;clear hK K hA hB A B))
            | (refine aM rfl (fun A B hA hB=>?_);go_simp;refine hB (fun K hK=>?_);go_simp;(try simp(disch:=omega) only[af]);refine hK _ ?_;clear hK K hA hB A B))
           refine aQ rfl rfl (fun KK hK=>?_);go_simp;refine(HPX.out _).mono ?_;rintro e w6 ⟨rfl,hb6⟩;refine⟨_,rfl,hb6,hK _ _ ?_⟩;clear hK KK;go_simp;have hb6':Below (w.heap.size+1) wr w6:=Hb5.out.trans (hb6.mono (by have:=Hb5.out.size;have:=Hzs.out;omega));have HBU:=ae (j0 w6 _ (.agg #[.slice a1 8 p1,.slice (some ⟨b,off,none⟩) n2 p2,.slice a3 n3 p3]) m ⟨_,_,_,rfl,(HM.out _ hb6').2⟩ x.pl (by rw[Hn3.out];omega) Hag.out);have Hb6:=ae hb6';clear hb6 hb6' v1d v2d v1 v2
           repeat (first
            | (refine aF (v:=?_) rfl (aD rfl) (fun w' hC=>?_) (fun K hK=>?_);rotate_left;(focus (go_simp;(try simp(disch:=omega) only[af]);first | done | exact rfl));go_simp;(try simp(disch:=omega) only[af]);refine hK _ ?_;clear hK K)
            | (refine aU rfl (fun A B hA hB=>?_);go_simp;first | (refine hA ⟨?_,fun w' hC=>?_,fun K hK=>?_⟩;rotate_left;(focus (go_simp;(try simp(disch:=omega) only[af]);first | done | exact rfl));go_simp;(try simp(disch:=omega) only[af]);refine hK _ ?_;clear hK K hA hB A B) | (refine hB (fun K hK=>?_);go_simp;(try simp(disch:=omega) only[af]);refine hK _ ?_;clear hK K hA hB A B))
            | (refine aM rfl (fun A B hA hB=>?_);go_simp;refine hB (fun K hK=>?_);go_simp;(try simp(disch:=omega) only[af]);refine hK _ ?_;clear hK K hA hB A B))
           refine aQ rfl rfl (fun KK hK=>?_);go_simp;refine HBU.out.mono ?_;rintro e w7 ⟨rfl,hb7⟩;refine⟨_,rfl,hb7,hK _ _ ?_⟩;clear hK KK HBU qx0 qx1 qx2 qx3 qm0 qm1 qm2;go_simp;have Hb7:=ae (Hb6.out.trans (hb7.mono (by have:=Hb6.out.size;have:=Hzs.out;omega)));clear hb7
           obtain⟨bu,hbu'⟩:∃ bu,m.buried x.pl=bu:=⟨_,rfl⟩
           rw[hbu'] at Hbad ⊢;have Hbu':=ae hbu';clear hbu'
           by_cases v3:x.seq <= bu
           ·obtain rfl:ok=false:=Hbad.out fun _ _ _=>by omega
            have v3d:decide (x.seq <= bu)=true:=by simpa using v3
            repeat (first
             | (refine aF (v:=?_) rfl (aD rfl) (fun w' hC=>?_) (fun K hK=>?_);rotate_left;(focus (go_simp;first | done | exact rfl));go_simp;refine hK _ ?_;clear hK K)
             | (refine aU rfl (fun A B hA hB=>?_);go_simp;first | (refine hA ⟨?_,fun w' hC=>?_,fun K hK=>?_⟩;rotate_left;(focus (go_simp;first | done | exact rfl));go_simp;refine hK _ ?_;clear hK K hA hB A B) | (refine hB (fun K hK=>?_);go_simp;refine hK _ ?_;clear hK K hA hB A B))
             | (refine aM rfl (fun A B hA hB=>?_);go_simp;refine hB (fun K hK=>?_);go_simp;refine hK _ ?_;clear hK K hA hB A B))
            refine aW ?_;go_wp2_with fail
            go_ret
            exact⟨rfl,HE.out _ Hb7.out⟩
           ·have v3d:decide (x.seq <= bu)=false:=by simpa using v3
            have Hiok:=ae (show itemOk m x=true by
             unfold itemOk;rw[Hkn.out,Hbu'.out];have:=Hv.out;simp
             omega)
            clear v3
            repeat (first
             | (refine aF (v:=?_) rfl (aD rfl) (fun w' hC=>?_) (fun K hK=>?_);rotate_left;(focus (go_simp;first | done | exact rfl));go_simp;refine hK _ ?_;clear hK K)
             | (refine aU rfl (fun A B hA hB=>?_);go_simp;first | (refine hA ⟨?_,fun w' hC=>?_,fun K hK=>?_⟩;rotate_left;(focus (go_simp;first | done | exact rfl));go_simp;refine hK _ ?_;clear hK K hA hB A B) | (refine hB (fun K hK=>?_);go_simp;refine hK _ ?_;clear hK K hA hB A B))
             | (refine aM rfl (fun A B hA hB=>?_);go_simp;refine hB (fun K hK=>?_);go_simp;refine hK _ ?_;clear hK K hA hB A B))
            refine aW ?_;go_wp2_with fail
            go_roundw
            case rel=>exact⟨k+1,by omega,by go_num,Hb7.out,fun j hj hjk=>by
             rcases Nat.lt_succ_iff_lt_or_eq.1 hjk with h | h
             ·exact Hall.out j hj h
             ·subst h;rw[Hx.out];exact Hiok.out⟩
            case measure=>simp[intOf];omega
      ·have hkI:¬ (k:Int) < (n2:Int):=by omega
       have hfm:formedR m=true:=by
        unfold formedR;simp only[Bool.and_eq_true,decide_eq_true_eq];refine⟨⟨⟨⟨⟨Hn1.out,Hseen.out⟩,Hai.out⟩,Hag.out⟩,?_⟩,?_⟩
        ·rw[List.all_eq_true];exact Hgone.out
        ·rw[List.all_eq_true];intro x hx;obtain⟨j,hj,rfl⟩:=List.mem_iff_getElem.1 hx;exact Hall.out j hj (by rw[Hn2.out] at hj;omega)
       have Hfm:=ae hfm;have HCO:=ae (code_any wu _ (.agg #[.slice a1 8 p1,.slice a2 n2 p2,.slice a3 n3 p3]) m ⟨_,_,_,rfl,hmp⟩ (fO ((formed_iff m).1 hfm) (by rw[Hn2.out];exact hl2) (by rw[Hn3.out];exact hl3)));clear hmp Hall hkn hk hfm;go_wp2_with fail;refine HCO.out.mono ?_;rintro e w4 ⟨⟨r,rfl,hby⟩,hb4⟩;have Hb4:=ae (Hbu.out.trans (hb4.mono (by have:=Hbu.out.size;have:=Hzs.out;omega)))
       obtain⟨N,hN⟩:∃ N,(codeR m).length=N:=⟨_,rfl⟩
       obtain⟨aa,cc,rfl,-⟩:=hby;rw[hN]
       have Hend:=ae (show ok=decide (N <= 60000) by
        rw[<- Hok.out];unfold validR;rw[Hfm.out,Hn2.out,Hn3.out,hN]
        simp[hl2,hl3])
       clear hN HCO hb4
       by_cases hN6:(N:Int) > 60000
       ·have hN6d:decide ((N:Int) > 60000)=true:=by simpa using hN6
        obtain rfl:ok=false:=by rw[Hend.out];simp;omega
        go_wp2_with fail
        go_ret
        exact⟨rfl,HE.out _ Hb4.out⟩
       ·have hN6d:decide ((N:Int) > 60000)=false:=by simpa using hN6
        obtain rfl:ok=true:=by rw[Hend.out];simp;omega
        go_wp2_with fail
        go_ret
        exact⟨rfl,HE.out _ Hb4.out⟩
theorem fA (w:World) (hT:cL w) (h3:4 <= w.heap.size) (F:aV) (v:Value) (m:RMap) (h:cY F w v m) (hki:∀ x ∈ m.items,x.key.length <= 1000000) (hkg:∀ x ∈ m.gone,x.key.length <= 1000000):
 Calls aC 83 #[v] w fun e w'=>e=.returned (.int .i64 (if validR m then 0 else 5)) /\ Below w.heap.size w w':=iT w hT h3 F v m h
end
end Go.Proofs.YtobjdpngnfbicaaGreatDoor
