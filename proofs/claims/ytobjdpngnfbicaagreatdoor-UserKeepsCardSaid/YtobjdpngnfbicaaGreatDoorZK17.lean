/-
  RDecP
-/
import Derived.Test.YtobjdpngnfbicaaGreatDoorZK16
open Go.Lib renaming hid->ae
open Go.IntWalk renaming i64_in->af
open Nat renaming le_refl->aq,le_trans->au,lt_of_lt_of_le->aw
open List renaming length_append->ax,append_assoc->az,length_cons->aB
open Go.Proofs.Tryz renaming prog->aC
namespace Go.Proofs.YtobjdpngnfbicaaGreatDoor
open Go.RowKit
set_option linter.unusedVariables false
set_option maxRecDepth 20000
section
open Go.Lib
attribute [local go_sem ↓] bq
attribute [local go_sem] opC upC
theorem gD:∀ (n:Nat) (p:List Int × de),fC (n+1) p=((fC n p).1 ++ [(cu (fC n p).2).1],(cu (fC n p).2).2)
 | 0,p=>rfl
 | n+1,p=>by
   show fC (n+1) (p.1 ++ [(cu p.2).1],(cu p.2).2)=_;rw[gD n];rfl
structure DSt (w:World) (M:Nat) (av:Option Addr) (cap:Nat) (b:List UInt8) (W:World) (l:List Value) (its:List RIt) (gs:List RGo) (ai:Option Addr) (ci:Nat) (ag:Option Addr) (cg:Nat) (st:de):Prop where
 bel:Below w.heap.size w W
 res:Blk W w.heap.size [.slice none 0 0,.slice none 0 0,.slice none 0 0] 37
 rd:gK W (w.heap.size+1) av cap b st
 seen:Blk W (w.heap.size+1+1+1) l 3
 map:Blk W M [.slice (some ⟨w.heap.size+1+1+1,0,none⟩) 8 8,.slice ai its.length ci,.slice ag gs.length cg] 37
 hM:w.heap.size+1+1+1 < M
 items:W.ownsRow (M+1) 108 4 (.slice ai its.length ci) its.length (its.flatMap aZ)
 gone:W.ownsRow (M+1) 111 3 (.slice ag gs.length cg) gs.length (gs.flatMap cn)
section
variable {w:World} {M:Nat} {av:Option Addr} {cap:Nat} {b:List UInt8} {W W':World} {l:List Value} {its:List RIt} {gs:List RGo} {ai:Option Addr} {ci:Nat} {ag:Option Addr} {cg:Nat} {st:de}
theorem aK.cellB {F:aV} {w w':World} (h:aK F w w') {a:Addr} {x:Value} (hc:w.cell? a=some x) (ha:¬ F a.block):w'.cell? a=some x:=by
 have hb:=h.block a.block (cellLt hc) ha;unfold World.cell? at *;rw[hb];exact hc
theorem gK.blk {R:Nat} (h:gK W R av cap b st):∃ L,Blk W R L 207:=by
 obtain⟨k,bad,h1,-⟩:=h;exact⟨_,h1⟩
theorem j8 {F:aV} {base:Nat} {e:TypeId} {k n:Nat} {v:Value} {xs:List Value} (h:W.ownsRow base e k v n xs) (ho:aK F W W') (hF:∀ q,base <= q -> ¬ F q):W'.ownsRow base e k v n xs:=by
 refine⟨h.1,?_⟩;rcases h.2 with h0 | ⟨g,cap,cur,hv,hb,hg,hr⟩
 ·exact .inl h0
 ·exact .inr ⟨g,cap,cur,hv,hb,(ho.block g (lt_of_block hg) (hF g hb)).trans hg,hr⟩
theorem DSt.read (h:DSt w M av cap b W l its gs ai ci ag cg st) (ho:aK (fun q=>q=w.heap.size+1) W W') {st':de} (hr:gK W' (w.heap.size+1) av cap b st'):DSt w M av cap b W' l its gs ai ci ag cg st':=by
 have hM:=h.hM;refine⟨h.bel.trans (ho.below (fun q hq=>by have hq':q=w.heap.size+1:=hq;omega) h.bel.size),h.res.keep (ho.block _ h.res.lt (by show ¬ w.heap.size=w.heap.size+1;omega)),hr,h.seen.keep (ho.block _ h.seen.lt (by show ¬ w.heap.size+1+1+1=w.heap.size+1;omega)),h.map.keep (ho.block _ h.map.lt (by show ¬ M=w.heap.size+1;omega)),hM,j8 h.items ho (fun q hq=>by show ¬ q=w.heap.size+1;omega),j8 h.gone ho (fun q hq=>by show ¬ q=w.heap.size+1;omega)⟩
theorem DSt.kept (h:DSt w M av cap b W l its gs ai ci ag cg st) (hb:Below W.heap.size W W'):DSt w M av cap b W' l its gs ai ci ag cg st:=by
 have hR:w.heap.size+1 < W.heap.size:=h.rd.lt;exact⟨h.bel.trans (hb.mono h.bel.size),h.res.keep (hb.block _ h.res.lt),h.rd.keep (hb.block _ hR),h.seen.keep (hb.block _ h.seen.lt),h.map.keep (hb.block _ h.map.lt),h.hM,bc h.items hb,bc h.gone hb⟩
theorem DSt.put (h:DSt w M av cap b W l its gs ai ci ag cg st) (k:Nat) (x:Value):DSt w M av cap b (W.setCell ⟨w.heap.size+1+1+1,k,none⟩ x) (l.set k x) its gs ai ci ag cg st:=by
 have hM:=h.hM;obtain⟨L,hL⟩:=h.rd.blk;refine⟨h.bel.setCell (p:=⟨w.heap.size+1+1+1,k,none⟩) (by show w.heap.size <= w.heap.size+1+1+1;omega) _,h.res.set_other _ (by show w.heap.size≠w.heap.size+1+1+1;omega),h.rd.keep (Below.heap_setCell _ _ _ _ (by show w.heap.size+1≠w.heap.size+1+1+1;omega)),h.seen.set k x,h.map.set_other _ (by show M≠w.heap.size+1+1+1;omega),hM,aS h.items h.seen (by decide) _,aS h.gone h.seen (by decide) _⟩
theorem eR {w:World} {base X i:Nat} {e:TypeId} {k n:Nat} {v:Value} {xs:List Value} (h:w.ownsRow base e k v n xs) (hX:∀ q,v.ownBlock=some q -> q≠X) (u:Value):(w.setCell ⟨X,i,none⟩ u).ownsRow base e k v n xs:=by
 refine h.kept (row:=some X) ⟨rfl,rfl,rfl,by simp[World.setCell],fun q hq hqb=>Below.heap_setCell w ⟨X,i,none⟩ u q (fun e=>hqb (by rw[e]))⟩ ?_;cases ho:v.ownBlock with
 | none=>exact .inl rfl
 | some g=>exact .inr fun he=>hX g ho (by simpa using he)
theorem DSt.far (h:DSt w M av cap b W l its gs ai ci ag cg st) {X:Nat} (hX:M < X) (h1:∀ q,(Value.slice ai its.length ci).ownBlock=some q -> q≠X) (h2:∀ q,(Value.slice ag gs.length cg).ownBlock=some q -> q≠X) (i:Nat) (u:Value):DSt w M av cap b (W.setCell ⟨X,i,none⟩ u) l its gs ai ci ag cg st:=by
 have hM:=h.hM;exact⟨h.bel.setCell (p:=⟨X,i,none⟩) (by show w.heap.size <= X;omega) _,h.res.set_other _ (by show w.heap.size≠X;omega),h.rd.keep (Below.heap_setCell _ _ _ _ (by show w.heap.size+1≠X;omega)),h.seen.set_other _ (by show w.heap.size+1+1+1≠X;omega),h.map.set_other _ (by show M≠X;omega),hM,eR h.items h1 u,eR h.gone h2 u⟩
theorem DSt.item (h:DSt w M av cap b W l its gs ai ci ag cg st) {x:RIt} {a5:Option Addr} {c5:Nat} (hg:W.grownBy W' (Value.slice ai its.length ci).ownBlock)
 (ho:W'.ownsRow (M+1) 108 4 (.slice a5 (its.length+1) c5) (its.length+1) (its.flatMap aZ ++ aZ x)):DSt w M av cap b (W'.setCell ⟨M,1,none⟩ (.slice a5 (its.length+1) c5)) l (its ++ [x]) gs a5 c5 ag cg st:=by
 have hM:=h.hM;obtain⟨k,bad,hr,hk,hst⟩:=h.rd;have hm:=h.map.grownNe h.items (by decide) hg;have hb:Below w.heap.size w W':=h.bel.trans (Below.grownOwn h.items hg h.bel.size (by omega));have e1:(its ++ [x]).length=its.length+1:=by simp
 have e2:(its ++ [x]).flatMap aZ=its.flatMap aZ ++ aZ x:=by simp
 have hr':=(hr.grownNe h.items (by decide) hg).set_other (.slice a5 (its.length+1) c5) (a:=⟨M,1,none⟩) (by show w.heap.size+1≠M;omega);refine⟨hb.setCell (p:=⟨M,1,none⟩) (by show w.heap.size <= M;omega) _,(h.res.grownNe h.items (by decide) hg).set_other _ (by show w.heap.size≠M;omega),⟨k,bad,hr',hk,hst⟩,(h.seen.grownNe h.items (by decide) hg).set_other _ (by show w.heap.size+1+1+1≠M;omega),?_,hM,?_,aS (cN h.gone h.items (by decide) hg) hm (by decide) _⟩
 ·rw[e1];exact hm.set 1 _
 ·rw[e1,e2];exact aS ho hm (by decide) _
theorem DSt.gon (h:DSt w M av cap b W l its gs ai ci ag cg st) {x:RGo} {a5:Option Addr} {c5:Nat} (hg:W.grownBy W' (Value.slice ag gs.length cg).ownBlock)
 (ho:W'.ownsRow (M+1) 111 3 (.slice a5 (gs.length+1) c5) (gs.length+1) (gs.flatMap cn ++ cn x)):DSt w M av cap b (W'.setCell ⟨M,2,none⟩ (.slice a5 (gs.length+1) c5)) l its (gs ++ [x]) ai ci a5 c5 st:=by
 have hM:=h.hM;obtain⟨k,bad,hr,hk,hst⟩:=h.rd;have hm:=h.map.grownNe h.gone (by decide) hg;have hb:Below w.heap.size w W':=h.bel.trans (Below.grownOwn h.gone hg h.bel.size (by omega));have e1:(gs ++ [x]).length=gs.length+1:=by simp
 have e2:(gs ++ [x]).flatMap cn=gs.flatMap cn ++ cn x:=by simp
 have hr':=(hr.grownNe h.gone (by decide) hg).set_other (.slice a5 (gs.length+1) c5) (a:=⟨M,2,none⟩) (by show w.heap.size+1≠M;omega);refine⟨hb.setCell (p:=⟨M,2,none⟩) (by show w.heap.size <= M;omega) _,(h.res.grownNe h.gone (by decide) hg).set_other _ (by show w.heap.size≠M;omega),⟨k,bad,hr',hk,hst⟩,(h.seen.grownNe h.gone (by decide) hg).set_other _ (by show w.heap.size+1+1+1≠M;omega),?_,hM,aS (cN h.items h.gone (by decide) hg) hm (by decide) _,?_⟩
 ·rw[e1];exact hm.set 2 _
 ·rw[e1,e2];exact aS ho hm (by decide) _
end
theorem nz:∀ (n:Nat) (p:List Int × de),szS (fC n p).2 <= szS p.2
 | 0,p=>aq _
 | n+1,p=>by
   rw[gD];exact au (ft _).1 (nz n p)
theorem ItB.mono {n n':Nat} {x:RIt} (h:ItB n x) (hn:n <= n'):ItB n' x:=⟨au h.1 hn,h.2⟩
theorem GoB.mono {n n':Nat} {x:RGo} (h:GoB n x) (hn:n <= n'):GoB n' x:=⟨au h.1 hn,h.2⟩
def sP (w:World) (e:Ending) (w':World):Prop:=e=.returned (.agg #[.slice (some ⟨w.heap.size+1,0,none⟩) 8 8,.slice none 0 0,.slice none 0 0]) /\ Blk w' (w.heap.size+1) (List.replicate 8 (.int .i64 0)) 3 /\ Below w.heap.size w w'
section
attribute [local go_sem ↓] lq
set_option maxRecDepth 100000 in
set_option maxHeartbeats 1500000 in
theorem lC (w:World):Calls aC 39 #[] w (sP w):=by
 obtain⟨w1,hw1⟩:∃ w1,w1=w.alloc (.cells #[.slice none 0 0,.slice none 0 0,.slice none 0 0] 37):=⟨_,rfl⟩
 have hb1:Below w.heap.size w w1:=by rw[hw1];exact aE _ _
 have hz1:w1.heap.size=w.heap.size+1:=by rw[hw1];simp
 have hr1:Blk w1 w.heap.size [.slice none 0 0,.slice none 0 0,.slice none 0 0] 37:=by rw[hw1];exact Blk.new _ _ _
 obtain⟨i0,q1,q2,q3,q4⟩:=info_parts infoI;obtain⟨w2,hr,hown,hgb⟩:=run_make_full (P:=aC) w1 w.heap.size 33 3 i0 _ 1 Tryz.underlying33 q1 q2 q3 .i64 .i64 8 (by rw[q4];omega) (by unfold maxLen;omega) (by omega);have hr':(MK 33 (.int .i64 8) (.int .i64 8)).run aC w1=.ok (.slice (some ⟨w1.heap.size,0,none⟩) 8 8) w2:=hr;rw[made8] at hown;have hr2:Blk w2 w.heap.size _ _:=hr1.keep (hgb.block _ hr1.lt (by simp));have hb2:Below w.heap.size w w2:=hb1.trans ((Below.refl w.heap.size w1).grown hgb (by omega) (by simp));have y0:=hr2.cell 0;have y1:=hr2.cell 1;have y2:=hr2.cell 2;have z0:=hr2.free 0;have z1:=hr2.free 1;have z2:=hr2.free 2;simp at y0 y1 y2;rw[hz1] at hr' hown
 have hS:Blk w2 (w.heap.size+1) (List.replicate 8 (.int .i64 0)) 3:=by
  rcases hown.2 with ⟨h0,-⟩ | ⟨g,cap,cur,hv,hb,hg,hc,hm,hs,ht⟩
  ·simp at h0
  ·simp at hv;obtain⟨rfl,rfl⟩:=hv;unfold Blk;rw[hg];have hl:cur.toList.length=8:=by simpa using hs
   rw[List.take_of_length_le (by omega)] at ht
   have:cur=(List.replicate 8 (Value.int .i64 0)).toArray:=by
    apply Array.toList_inj.1;rw[ht];rfl
   rw[this]
 obtain⟨wf,hwf⟩:∃ wf,wf=((w2.setCell ⟨w.heap.size,0,none⟩ (.slice (some ⟨w.heap.size+1,0,none⟩) 8 8)).setCell ⟨w.heap.size,1,none⟩ (.slice none 0 0)).setCell ⟨w.heap.size,2,none⟩ (.slice none 0 0):=⟨_,rfl⟩
 have e1:=hr2.set 0 (.slice (some ⟨w.heap.size+1,0,none⟩) 8 8);have e2:=e1.set 1 (.slice none 0 0);have e3:=e2.set 2 (.slice none 0 0)
 have hSf:Blk wf (w.heap.size+1) (List.replicate 8 (.int .i64 0)) 3:=by
  rw[hwf];exact((hS.set_other _ (by show w.heap.size+1≠w.heap.size;omega)).set_other _ (by show w.heap.size+1≠w.heap.size;omega)).set_other _ (by show w.heap.size+1≠w.heap.size;omega)
 have hbf:Below w.heap.size w wf:=by
  rw[hwf];exact((hb2.setCell (p:=⟨w.heap.size,0,none⟩) (aq _) _).setCell (p:=⟨w.heap.size,1,none⟩) (aq _) _).setCell (p:=⟨w.heap.size,2,none⟩) (aq _) _
 rw[<- hwf] at e3;have q0:=e3.cell 0;have q1':=e3.cell 1;have q2':=e3.cell 2;simp at q0 q1' q2';rw[hw1] at hr';have Hwf:=ae hwf;have Hbf:=ae hbf;have HSf:=ae hSf;have Q0:=ae q0;have Q1:=ae q1';have Q2:=ae q2';clear hb1 hz1 hr1 hw1 hr hown hgb hr2 hb2 e1 e2 e3 hS hSf hbf hwf q0 q1' q2' q1 q2 q3 q4
 go_enter Tryz.func39,Tryz.ntmps39
 go_wp2_with fail;rw[<- Hwf.out];have q0:=Q0.out;have q1:=Q1.out;have q2:=Q2.out;exact bodyPost_ret (v:=.agg #[.slice (some ⟨w.heap.size+1,0,none⟩) 8 8,.slice none 0 0,.slice none 0 0]) (by simp[results,Tryz.results39,go_sem,q0,q1,q2]) rfl ⟨rfl,HSf.out,Hbf.out⟩
end
theorem oM (W:World) (av:Option Addr) (cap:Nat) (b:List UInt8):gK (W.alloc (.cells #[.slice av b.length cap,.int .i64 0,.bool false] 207)) W.heap.size av cap b (some b):=
 ⟨0,false,Blk.new W #[.slice av b.length cap,.int .i64 0,.bool false] _,Nat.zero_le _,by simp⟩
theorem DSt.start (w:World) (av:Option Addr) (cap:Nat) (b:List UInt8) (w3:World)
 (hS:Blk w3 (w.heap.size+1+1+1) (List.replicate 8 (.int .i64 0)) 3)
 (hb:Below (w.heap.size+1+1) ((w.alloc (.cells #[.slice none 0 0,.slice none 0 0,.slice none 0 0] 37)).alloc (.cells #[.slice av b.length cap,.int .i64 0,.bool false] 207)) w3):
 DSt w w3.heap.size av cap b (w3.alloc (.cells #[.slice (some ⟨w.heap.size+1+1+1,0,none⟩) 8 8,.slice none 0 0,.slice none 0 0] 37)) (List.replicate 8 (.int .i64 0)) [] [] none 0 none 0 (some b):=by
 have hk:=aE w3 (.cells #[.slice (some ⟨w.heap.size+1+1+1,0,none⟩) 8 8,.slice none 0 0,.slice none 0 0] 37);have r1:=(Blk.new w #[.slice none 0 0,.slice none 0 0,.slice none 0 0] 37).alloc (.cells #[.slice av b.length cap,.int .i64 0,.bool false] 207);have r2:=oM (w.alloc (.cells #[.slice none 0 0,.slice none 0 0,.slice none 0 0] 37)) av cap b;simp only[World.size_alloc] at r2;have r1':=r1.keep (hb.block _ (by omega));have r2':=r2.keep (hb.block _ (by omega));have h3:w.heap.size+1+1+1 < w3.heap.size:=hS.lt;refine⟨?_,r1'.keep (hk.block _ (by omega)),r2'.keep (hk.block _ (by omega)),hS.keep (hk.block _ h3),Blk.new _ _ _,h3,World.ownsRow_nil _ _ _ _,World.ownsRow_nil _ _ _ _⟩;have b1:Below w.heap.size w w3:=(((Below.refl w.heap.size w).alloc (aq _) _).alloc (by simp) _).trans (hb.mono (by omega));exact b1.trans (hk.mono b1.size)
def eqs (L:List Int):List Value:=L.map eI ++ List.replicate (8 - L.length) (.int .i64 0)
theorem sQ (L:List Int) (x:Int) (h:L.length < 8):(eqs L).set L.length (.int .i64 x)=eqs (L ++ [x]):=by
 unfold eqs;rw[List.set_append_right _ _ (by simp)]
 obtain⟨r,hr⟩:∃ r,8 - L.length=r+1:=⟨7 - L.length,by omega⟩
 rw[hr,List.length_map,Nat.sub_self,List.replicate_succ,List.set_cons_zero];simp only[List.map_append,List.map_cons,List.map_nil,az,ax,aB,List.length_nil];rw[show 8 - (L.length+(0+1))=r by omega];rfl
theorem sR (L:List Int) (h:L.length <= 8):(eqs L).length=8:=by
 unfold eqs;simp;omega
theorem iW:∀ (n:Nat) (p:List Int × de),(∀ x ∈ p.1,0 <= x /\ x <= 1099511627776) -> ∀ x ∈ (fC n p).1,0 <= x /\ x <= 1099511627776
 | 0,p,h=>h
 | n+1,p,h=>by
   rw[gD];intro x hx;rcases List.mem_append.1 hx with hx | hx
   ·exact iW n p h x hx
   ·rw[List.mem_singleton.1 hx];exact eD _
def MTy (W:World) (q:Nat):Prop:=∃ L t fz,W.heap[q]?=some (.cells L t fz) /\ (t=3 \/ t=108 \/ t=111)
theorem nA {W:World} {base:Nat} {e:TypeId} {k n:Nat} {v:Value} {xs:List Value} (h:W.ownsRow base e k v n xs) (he:e=3 \/ e=108 \/ e=111):Rows (fun q=>base <= q /\ MTy W q) W k v n xs:=by
 obtain⟨a,cap,rfl,q1,q2,q3,q4,q5⟩:=Rows.of_owns h;refine⟨a,cap,rfl,q1,q2,q3,q4,?_⟩;rcases q5 with h0 | ⟨b,off,L,t,fz,rfl,hb,hg,hle,hr⟩
 ·exact .inl h0
 ·refine .inr ⟨b,off,L,t,fz,rfl,?_,hg,hle,hr⟩;rcases h.2 with ⟨h0,_⟩ | ⟨g,cap',cur,hv,hgb,hh,_⟩
  ·simp at h0
  ·simp at hv;obtain⟨⟨rfl,-⟩,-⟩:=hv;exact⟨hgb,_,_,_,hh,he⟩
theorem fh (F:aV) (w:World):cY F w nilV .empty:=⟨_,_,_,rfl,Rows.nil F w 1,Rows.nil F w 4,Rows.nil F w 3,nofun,nofun,nofun⟩
theorem lD {B:Nat} {w w':World} {v:Value} {m:RMap} (h:cY (fun q=>B < q /\ MTy w q) w v m) (hb:Below w.heap.size w w'):cY (fun q=>B < q /\ MTy w' q) w' v m:=
 (h.later hb (aq _)).mono fun q hq _=>⟨hq.1,by
  obtain⟨L,t,fz,h1,h2⟩:=hq.2
  exact⟨L,t,fz,(hb.block q (lt_of_block h1)).trans h1,h2⟩⟩
theorem DSt.mapV {w:World} {M:Nat} {av:Option Addr} {cap:Nat} {b:List UInt8} {W:World} {its:List RIt} {gs:List RGo} {ai:Option Addr} {ci:Nat} {ag:Option Addr} {cg:Nat} {st:de} {L:List Int} {n:Nat} (h:DSt w M av cap b W (eqs L) its gs ai ci ag cg st) (hL:L.length=8) (h1:∀ x ∈ L,0 <= x /\ x <= 1099511627776) (h2:∀ x ∈ its,ItB n x) (h3:∀ x ∈ gs,GoB n x) (hn:n <= 1000000):
 cY (fun q=>w.heap.size < q /\ MTy W q) W (.agg #[.slice (some ⟨w.heap.size+1+1+1,0,none⟩) 8 8,.slice ai its.length ci,.slice ag gs.length cg]) ⟨L,its,gs⟩:=by
 have hM:=h.hM;refine⟨_,_,_,rfl,?_,(nA h.items (.inr (.inl rfl))).mono fun q hq _=>⟨by have:=hq.1;omega,hq.2⟩,(nA h.gone (.inr (.inr rfl))).mono fun q hq _=>⟨by have:=hq.1;omega,hq.2⟩,fun x hx=>?_,fun x hx=>?_,fun x hx=>?_⟩
 ·have hs:=h.seen;have e:eqs L=L.map eI:=by unfold eqs;rw[hL];simp
  rw[e] at hs;refine⟨some ⟨w.heap.size+1+1+1,0,none⟩,8,by rw[hL],by rw[hL];exact aq _,by unfold maxLen;omega,nofun,by simp,.inr ⟨w.heap.size+1+1+1,0,(L.map eI).toArray,3,(0,0),rfl,⟨by omega,_,_,_,hs,.inl rfl⟩,hs,by simp,fun i hi=>by simp⟩⟩
 ·have:=h1 x hx;unfold cw;omega
 ·obtain⟨k1,k2,k3,k4⟩:=h2 x hx;unfold cw;omega
 ·obtain⟨k1,k2,k3⟩:=h3 x hx;unfold cw;omega
theorem DSt.fin {w:World} {M:Nat} {av:Option Addr} {cap:Nat} {b:List UInt8} {W:World} {l:List Value} {its:List RIt} {gs:List RGo} {ai:Option Addr} {ci:Nat} {ag:Option Addr} {cg:Nat} {st:de} (h:DSt w M av cap b W l its gs ai ci ag cg st) (x y z:Value) {v:Value} {m:RMap} (hm:cY (fun q=>w.heap.size < q /\ MTy W q) W v m):
 cY (fun q=>w.heap.size <= q /\ MTy (((W.setCell ⟨w.heap.size,0,none⟩ x).setCell ⟨w.heap.size,1,none⟩ y).setCell ⟨w.heap.size,2,none⟩ z) q) (((W.setCell ⟨w.heap.size,0,none⟩ x).setCell ⟨w.heap.size,1,none⟩ y).setCell ⟨w.heap.size,2,none⟩ z) v m:=by
 have hk:∀ q,w.heap.size < q -> (((W.setCell ⟨w.heap.size,0,none⟩ x).setCell ⟨w.heap.size,1,none⟩ y).setCell ⟨w.heap.size,2,none⟩ z).heap[q]?=W.heap[q]?:=fun q hq=>by
  have hne:q≠w.heap.size:=by omega
  exact(Below.heap_setCell _ _ _ _ hne).trans ((Below.heap_setCell _ _ _ _ hne).trans (Below.heap_setCell _ _ _ _ hne))
 refine(hm.keep (w':=((W.setCell ⟨w.heap.size,0,none⟩ x).setCell ⟨w.heap.size,1,none⟩ y).setCell ⟨w.heap.size,2,none⟩ z) fun q hq _=>hk q hq.1).mono fun q hq _=>⟨Nat.le_of_lt hq.1,?_⟩
 obtain⟨L,t,fz,h1,h2⟩:=hq.2;exact⟨L,t,fz,(hk q hq.1).trans h1,h2⟩
def mc (w:World) (b:List UInt8) (e:Ending) (w':World):Prop:=∃ r,e=.returned (.tuple #[r,.int .i64 (dR b).2]) /\ cY (fun q=>w.heap.size <= q /\ MTy w' q) w' r (dR b).1 /\ Below w.heap.size w w'
set_option maxRecDepth 100000 in
set_option maxHeartbeats 8000000 in
theorem ik (w:World) (hT:cL w) (h3:4 <= w.heap.size) (F:aV) (av:Option Addr) (cap:Nat) (b:List UInt8) (hB:Bytes F w (.slice av b.length cap) b) (hF:∀ q,F q -> q < w.heap.size) (hl:b.length <= 400000):
 Calls aC 100 #[.slice av b.length cap] w (mc w b):=by
 have HTb:=ae (show ∀ w',Below w.heap.size w w' -> cL w' /\ 4 <= w'.heap.size from fun w' hb=>⟨bi hT h3 hb,au h3 hb.size⟩);have HB:=ae (show ∀ w',Below w.heap.size w w' -> Bytes F w' (.slice av b.length cap) b /\ ∀ q,F q -> q < w'.heap.size from fun w' hb=>⟨hB.keep (w':=w') fun q hq _=>hb.block q (hF q hq),fun q hq=>aw (hF q hq) hb.size⟩)
 obtain⟨w2,hw2⟩:∃ w2,w2=(w.alloc (.cells #[.slice none 0 0,.slice none 0 0,.slice none 0 0] 37)).alloc (.cells #[.slice av b.length cap,.int .i64 0,.bool false] 207):=⟨_,rfl⟩
 have hz2:w2.heap.size=w.heap.size+1+1:=by rw[hw2];simp
 have HN:=ae (lC w2);have Hw2:=ae hw2;have Hz2:=ae hz2;have Hl:=ae hl;clear hw2 hB hT hz2 hl hF
 go_enter Tryz.func100,Tryz.ntmps100
 go_wp2_with fail;rw[<- Hw2.out];refine HN.out.mono ?_;rintro e w3 ⟨rfl,hS,hb3⟩;rw[Hz2.out] at hS hb3;rw[Hz2.out];rw[Hw2.out] at hb3;have hD:=DSt.start w av cap b w3 hS hb3
 obtain⟨M,hM⟩:∃ M,w3.heap.size=M:=⟨_,rfl⟩
 obtain⟨w4,hw4⟩:∃ w4,w4=w3.alloc (.cells #[.slice (some ⟨w.heap.size+1+1+1,0,none⟩) 8 8,.slice none 0 0,.slice none 0 0] 37):=⟨_,rfl⟩
 rw[<- hw4,hM] at hD;obtain⟨c0,c1,c2⟩:=cell3 hD.map;rw[hw4] at c0 c1 c2;have Hw4:=ae hw4;have HD:=ae hD;clear hS hb3 hD HN hw4;go_wp2_with fail;rw[<- Hw4.out];clear c0 c1 c2 Hw4 hM
 go_loopw [18] (fun i wr=>∃ k:Nat,k <= 8 /\ i=.int .i64 (k:Int) /\ ∃ L st,fC k ([],some b)=(L,st) /\ L.length=k /\ DSt w M av cap b wr (eqs L) [] [] none 0 none 0 st) (fun i _=>8 - (intOf i).toNat)
 case atStart=>exact⟨0,by omega,rfl,[],some b,rfl,rfl,HD.out⟩
 case round=>
  obtain⟨k,hk,rfl,L,st,hsl,hL,hD⟩:=hrel
  by_cases hk8:k < 8
  ·have hkI:(k:Int) < 8:=by omega
   have pm:∀ w',aK (fun q=>q=w.heap.size+1 \/ q=w.heap.size+1+1+1) wr.drew w' -> w'.cell? ⟨M,0,none⟩=some (.slice (some ⟨w.heap.size+1+1+1,0,none⟩) 8 8):=fun w' hh=>aK.cellB hh (hD.map.cell 0) (by have:=hD.hM;show ¬ (M=w.heap.size+1 \/ M=w.heap.size+1+1+1);omega)
   have hDd:=hD.kept (W':=wr.drew) ((Below.refl wr.heap.size wr).drew);have HDd:=ae hDd;have HR:=ae (dK wr.drew (w.heap.size+1) F av cap b st hDd.rd (HB.out _ hDd.bel).1 (HB.out _ hDd.bel).2);clear hD hDd;go_wp2_with fail;refine aJ (aK (fun q=>q=w.heap.size+1 \/ q=w.heap.size+1+1+1)) [(0,true),(1,true),(2,true),(3,true),(4,false),(5,true),(6,false)] (by kernel_rfl) (by kernel_rfl) (aK.refl _) (fun a b c h k=>aK.trans h k fun i hi=>.inl hi) ?_
   repeat (refine aF (v:=?_) rfl (aD rfl) (fun w' hC=>?_) (fun K hK=>?_);rotate_left;(focus (go_simp;(try simp(disch:=omega) only[af]);first | done | exact rfl));go_simp;(try simp(disch:=omega) only[af]);refine hK _ ?_;clear hK K)
   refine aQ rfl rfl (fun KK hK=>?_);go_simp;refine HR.out.mono ?_;rintro e w8 ⟨rfl,hR8,ho8⟩;refine⟨_,rfl,aK.trans (aK.refl _ _) ho8 (fun i hi=>.inl (.inl hi)),hK _ _ ?_⟩;have hD8:=HDd.out.read ho8 hR8;clear hK KK HR ho8 hR8 pm HDd;go_simp
   repeat (refine aF (v:=?_) rfl (aD rfl) (fun w' hC=>?_) (fun K hK=>?_);rotate_left;(focus (go_simp;(try simp(disch:=omega) only[af]);first | done | exact rfl));go_simp;(try simp(disch:=omega) only[af]);refine hK _ ?_;clear hK K)
   have hlt:k < (eqs L).length:=by rw[sR L (by omega)];exact hk8
   have e0:w8.cell? ⟨w.heap.size+1+1+1,k,none⟩=some ((eqs L)[k]):=by rw[hD8.seen.cell k,List.getElem?_eq_getElem hlt]
   have f0:w8.frozen? ⟨w.heap.size+1+1+1,k,none⟩=false:=hD8.seen.free k;have hD9:=hD8.put k (.int .i64 (cu st).1);rw[<- hL,sQ L _ (by omega),hL] at hD9
   obtain⟨w9,hw9⟩:∃ w9,w9=w8.setCell ⟨w.heap.size+1+1+1,k,none⟩ (.int .i64 (cu st).1):=⟨_,rfl⟩
   have hon:aK (fun q=>q=w.heap.size+1 \/ q=w.heap.size+1+1+1) w8 w9:=by rw[hw9];exact(aK.refl _ _).setCell (p:=⟨w.heap.size+1+1+1,k,none⟩) (.inl (.inr rfl)) _
   rw[<- hw9] at hD9;have HD9:=ae hD9;have Hon:=ae hon;have Hw9:=ae hw9;clear hD8 hD9 hon hw9;refine aQ rfl rfl (fun KK hK=>?_);go_simp;rw[<- Hw9.out];refine⟨Hon.out,hK _ _ ?_⟩;clear hK KK e0 f0 Hw9;go_simp
   repeat (refine aF (v:=?_) rfl (aD rfl) (fun w' hC=>?_) (fun K hK=>?_);rotate_left;(focus (go_simp;(try simp(disch:=omega) only[af]);first | done | exact rfl));go_simp;(try simp(disch:=omega) only[af]);refine hK _ ?_;clear hK K)
   refine aW ?_;go_wp2_with fail
   go_roundw
   case rel=>exact⟨k+1,by omega,by go_num,L ++ [(cu st).1],(cu st).2,by rw[gD,hsl],by simp[hL],HD9.out⟩
   case measure=>simp[intOf];omega
  ·have hkI:¬ (k:Int) < 8:=by omega
   obtain rfl:k=8:=by omega
   have hd1:qg b=(L,st):=hsl;have hsz:=nz 8 ([],some b);rw[hsl] at hsz;have Hd1:=ae hd1;have HL:=ae hL;have HD1:=ae hD;have Hsz:=ae (show szS st <= b.length+1 from hsz);clear hD hsl hk hd1 hL hsz HD
   obtain⟨⟨n0,s0⟩,hn0⟩:∃ p,cu st=p:=⟨_,rfl⟩
   have hnb:=eD st;have hsz0:=(ft st).1;rw[hn0] at hnb hsz0;dsimp only at hnb hsz0;obtain⟨n1,rfl⟩:=Int.eq_ofNat_of_zero_le hnb.1;have Hsz0:=ae (au hsz0 Hsz.out);have Hdec2:=ae (show eC fW n1 ([],s0)=jN b by unfold jN;rw[Hd1.out];dsimp only;rw[hn0];rfl);have hn1b:n1 <= 1099511627776:=by omega
   have hr0:=dK wr (w.heap.size+1) F av cap b _ HD1.out.rd (HB.out _ HD1.out.bel).1 (HB.out _ HD1.out.bel).2;rw[hn0] at hr0;dsimp only at hr0;have HR:=ae hr0;clear hr0;go_wp2_with fail
   skip
   refine HR.out.mono ?_;rintro e w5 ⟨rfl,hR8,how5⟩;have Hw5:=ae (HD1.out.read how5 hR8);clear HR hR8;clear hnb hsz0 hn0 HD1 how5;go_wp2_with fail
   go_loopw [7] (fun i wq=>∃ (n':Nat) (its:List RIt) (ai:Option Addr) (ci:Nat) (sq:de),n' <= 1099511627776 /\ i=.int .i64 (n':Int) /\ eC fW n' (its,sq)=jN b /\ (∀ x ∈ its,ItB (b.length+1) x) /\ its.length+szS sq <= b.length+1 /\ DSt w M av cap b wq (eqs L) its [] ai ci none 0 sq) (fun i _=>(intOf i).toNat)
   case atStart=>exact⟨n1,[],none,0,s0,hn1b,rfl,Hdec2.out,nofun,by simpa using Hsz0.out,Hw5.out⟩
   case round=>
    obtain⟨n',its,ai,ci,sq,hnb,rfl,hmany,hIB,hsum,hD⟩:=hrel;obtain⟨kk,bad,hrd,hkk,hst⟩:=id hD.rd;obtain⟨z0,z1,z2⟩:=cell3 hrd;have Hmany:=ae hmany;have HIB:=ae hIB;have Hsum:=ae hsum;have HDq:=ae hD;have Hst:=ae hst;clear hmany hIB hsum hD hrd hkk hst
    by_cases hn:n'=0
    ·subst hn;have Hd2:=ae (show jN b=(its,sq) from Hmany.out.symm);clear Hmany hnb;go_wp2_with fail
     obtain⟨⟨n0g,s0g⟩,hn0⟩:∃ p,cu sq=p:=⟨_,rfl⟩
     have hnb:=eD sq;have hsz0:=(ft sq).1;rw[hn0] at hnb hsz0;dsimp only at hnb hsz0;obtain⟨n2,rfl⟩:=Int.eq_ofNat_of_zero_le hnb.1;have Hsz1:=ae (show szS s0g <= b.length+1 by have:=Hsum.out;omega);have Hdec3:=ae (show eC eo n2 ([],s0g)=gy b by unfold gy;rw[Hd2.out];dsimp only;rw[hn0];rfl);have hn2b:n2 <= 1099511627776:=by omega
     clear z0 z1 z2;have hr0:=dK wr (w.heap.size+1) F av cap b _ HDq.out.rd (HB.out _ HDq.out.bel).1 (HB.out _ HDq.out.bel).2;rw[hn0] at hr0;dsimp only at hr0;have HR:=ae hr0;clear hr0;go_wp2_with fail
     skip
     refine HR.out.mono ?_;rintro e y5 ⟨rfl,hR8,hoy5⟩;have Hy5:=ae (HDq.out.read hoy5 hR8);clear HR hR8;clear hnb hsz0 hn0 HDq hoy5;go_wp2_with fail
     go_loopw [9] (fun i wq=>∃ (n':Nat) (gs:List RGo) (ag:Option Addr) (cg:Nat) (sg:de),n' <= 1099511627776 /\ i=.int .i64 (n':Int) /\ eC eo n' (gs,sg)=gy b /\ (∀ x ∈ gs,GoB (b.length+1) x) /\ gs.length+szS sg <= b.length+1 /\ DSt w M av cap b wq (eqs L) its gs ai ci ag cg sg) (fun i _=>(intOf i).toNat)
     case atStart=>exact⟨n2,[],none,0,s0g,hn2b,rfl,Hdec3.out,nofun,by simpa using Hsz1.out,Hy5.out⟩
     case round=>
      obtain⟨n',gs,ag,cg,sg,hnb,rfl,hmany,hGB,hsumg,hD⟩:=hrel;obtain⟨kk,bad,hrd,hkk,hst⟩:=id hD.rd;obtain⟨z0,z1,z2⟩:=cell3 hrd;have Hmany:=ae hmany;have HGB:=ae hGB;have Hsumg:=ae hsumg;have HDq:=ae hD;have Hst:=ae hst;have Hkk:=ae hkk;clear hmany hGB hsumg hD hrd hkk hst
      by_cases hn:n'=0
      ·subst hn;have Hd3:=ae (show gy b=(gs,sg) from Hmany.out.symm);clear Hmany hnb;cases bad with
       | true=>
         obtain rfl:sg=none:=Hst.out;have Hdr:=ae (show dR b=(.empty,5) by unfold dR;rw[if_neg];rw[Hd3.out];exact fun h=>nomatch h.1);obtain⟨wf,hwf,hblk,hbf⟩:=fin3 HDq.out.res HDq.out.bel (aq _) (.slice none 0 0) (.slice none 0 0) (.slice none 0 0);obtain⟨y0,y1,y2⟩:=cell3 HDq.out.res;have f0:=HDq.out.res.free 0;have f1:=HDq.out.res.free 1;have f2:=HDq.out.res.free 2;have Q:=ae (cell3 hblk);have Hbf:=ae hbf;have Hwf:=ae hwf;clear hwf hblk hbf;go_wp2_with fail;rw[<- Hwf.out];obtain⟨q0,q1,q2⟩:=Q.out;exact bodyPost_ret (v:=.tuple #[nilV,.int .i64 5]) (by simp[results,Tryz.results100,go_sem,q0,q1,q2,nilV]) rfl ⟨_,by rw[Hdr.out],by rw[Hdr.out];exact fh _ _,Hbf.out⟩
       | false=>
         obtain rfl:sg=some (b.drop kk):=Hst.out
         by_cases hkb:kk=b.length
         case neg=>
          have hkbI:¬ (kk:Int)=(b.length:Int):=by omega
          have hkbB:((kk:Int) == (b.length:Int))=false:=beq_eq_false_iff_ne.2 hkbI;have hkbN:((kk:Int) != (b.length:Int))=true:=by simp[hkbI]
          have Hdr:=ae (show dR b=(.empty,5) by
           unfold dR;rw[if_neg];rw[Hd3.out];intro h;have h1:=congrArg List.length (Option.some.inj h.1);have:=Hkk.out;simp at h1
           omega)
          clear hkb;obtain⟨wf,hwf,hblk,hbf⟩:=fin3 HDq.out.res HDq.out.bel (aq _) (.slice none 0 0) (.slice none 0 0) (.slice none 0 0);obtain⟨y0,y1,y2⟩:=cell3 HDq.out.res;have f0:=HDq.out.res.free 0;have f1:=HDq.out.res.free 1;have f2:=HDq.out.res.free 2;have Q:=ae (cell3 hblk);have Hbf:=ae hbf;have Hwf:=ae hwf;clear hwf hblk hbf;go_wp2_with fail;rw[<- Hwf.out];obtain⟨q0,q1,q2⟩:=Q.out;exact bodyPost_ret (v:=.tuple #[nilV,.int .i64 5]) (by simp[results,Tryz.results100,go_sem,q0,q1,q2,nilV]) rfl ⟨_,by rw[Hdr.out],by rw[Hdr.out];exact fh _ _,Hbf.out⟩
         case pos=>
          subst hkb;have Hdm:=ae (show gI b=⟨L,its,gs⟩ by unfold gI;rw[Hd1.out,Hd2.out,Hd3.out]);have Hd0:=ae (show (gy b).2=some [] by rw[Hd3.out];simp)
          have hbnd:∀ x ∈ L,0 <= x /\ x <= 1099511627776:=fun x hx=>by
           have:=iW 8 ([],some b) nofun x;have e:fC 8 ([],some b)=(L,st):=Hd1.out;rw[e] at this;exact this hx
          have hmv:=HDq.out.mapV HL.out hbnd HIB.out HGB.out (by have:=Hl.out;omega);rw[<- Hdm.out] at hmv
          have hki:(∀ x ∈ (gI b).items,x.key.length <= 1000000) /\ (∀ x ∈ (gI b).gone,x.key.length <= 1000000):=by
           rw[Hdm.out];exact⟨fun x hx=>by have:=(HIB.out x hx).1;have:=Hl.out;omega,fun x hx=>by have:=(HGB.out x hx).1;have:=Hl.out;omega⟩
          obtain⟨ok,hok⟩:∃ ok,validR (gI b)=ok:=⟨_,rfl⟩
          have hC:=fA _ (HTb.out _ HDq.out.bel).1 (HTb.out _ HDq.out.bel).2 _ _ (gI b) hmv hki.1 hki.2;rw[hok] at hC;have HC:=ae hC;have Hmv:=ae hmv;have Hok:=ae hok;obtain⟨c0,c1,c2⟩:=cell3 HDq.out.map;clear hbnd hmv hki hok hC;go_wp2_with fail;refine HC.out.mono ?_;rintro e y6 ⟨rfl,hb6⟩;have HD6:=ae (HDq.out.kept hb6);have Hmv6:=ae (lD Hmv.out hb6);clear HC hb6 c0 c1 c2 z0 z1 z2;cases ok with
          | false=>
            have Hdr:=ae (show dR b=(.empty,5) by unfold dR;rw[if_neg];rw[Hok.out];exact fun h=>nomatch h.2);obtain⟨wf,hwf,hblk,hbf⟩:=fin3 HD6.out.res HD6.out.bel (aq _) (.slice none 0 0) (.slice none 0 0) (.slice none 0 0);obtain⟨y0,y1,y2⟩:=cell3 HD6.out.res;have f0:=HD6.out.res.free 0;have f1:=HD6.out.res.free 1;have f2:=HD6.out.res.free 2;have Q:=ae (cell3 hblk);have Hbf:=ae hbf;have Hwf:=ae hwf;clear hwf hblk hbf;go_wp2_with fail;rw[<- Hwf.out];obtain⟨q0,q1,q2⟩:=Q.out;exact bodyPost_ret (v:=.tuple #[nilV,.int .i64 5]) (by simp[results,Tryz.results100,go_sem,q0,q1,q2,nilV]) rfl ⟨_,by rw[Hdr.out],by rw[Hdr.out];exact fh _ _,Hbf.out⟩
          | true=>
            have Hdr:=ae (show dR b=(gI b,0) by unfold dR;rw[if_pos ⟨Hd0.out,Hok.out⟩]);obtain⟨wf,hwf,hblk,hbf⟩:=fin3 HD6.out.res HD6.out.bel (aq _) (.slice (some ⟨w.heap.size+1+1+1,0,none⟩) 8 8) (.slice ai its.length ci) (.slice ag gs.length cg);have hmf:=HD6.out.fin (.slice (some ⟨w.heap.size+1+1+1,0,none⟩) 8 8) (.slice ai its.length ci) (.slice ag gs.length cg) Hmv6.out;rw[<- hwf] at hmf;obtain⟨y0,y1,y2⟩:=cell3 HD6.out.res;have f0:=HD6.out.res.free 0;have f1:=HD6.out.res.free 1;have f2:=HD6.out.res.free 2;obtain⟨c0,c1,c2⟩:=cell3 HD6.out.map;have Q:=ae (cell3 hblk);have Hbf:=ae hbf;have Hwf:=ae hwf;have Hmf:=ae hmf;clear hwf hblk hbf hmf;go_wp2_with fail;rw[<- Hwf.out];obtain⟨q0,q1,q2⟩:=Q.out;exact bodyPost_ret (v:=.tuple #[.agg #[.slice (some ⟨w.heap.size+1+1+1,0,none⟩) 8 8,.slice ai its.length ci,.slice ag gs.length cg],.int .i64 0]) (by simp[results,Tryz.results100,go_sem,q0,q1,q2]) rfl ⟨_,by rw[Hdr.out],by rw[Hdr.out];exact Hmf.out,Hbf.out⟩
      obtain⟨n,rfl⟩:∃ n,n'=n+1:=⟨n' - 1,by omega⟩
      have hnI:(0:Int) < ((n+1:Nat):Int):=by omega
      cases bad with
      | true=>
        obtain rfl:sg=none:=Hst.out;have Hd3:=ae (show gy b=(gs,none) by rw[<- Hmany.out,ie]);clear Hmany hnb;have Hdr:=ae (show dR b=(.empty,5) by unfold dR;rw[if_neg];rw[Hd3.out];exact fun h=>nomatch h.1);obtain⟨wf,hwf,hblk,hbf⟩:=fin3 HDq.out.res HDq.out.bel (aq _) (.slice none 0 0) (.slice none 0 0) (.slice none 0 0);obtain⟨y0,y1,y2⟩:=cell3 HDq.out.res;have f0:=HDq.out.res.free 0;have f1:=HDq.out.res.free 1;have f2:=HDq.out.res.free 2;have Q:=ae (cell3 hblk);have Hbf:=ae hbf;have Hwf:=ae hwf;clear hwf hblk hbf;go_wp2_with fail;rw[<- Hwf.out];obtain⟨q0,q1,q2⟩:=Q.out;exact bodyPost_ret (v:=.tuple #[nilV,.int .i64 5]) (by simp[results,Tryz.results100,go_sem,q0,q1,q2,nilV]) rfl ⟨_,by rw[Hdr.out],by rw[Hdr.out];exact fh _ _,Hbf.out⟩
      | false=>
        obtain⟨bb,hbb⟩:∃ bb,b.drop kk=bb:=⟨_,rfl⟩
        obtain rfl:sg=some bb:=by rw[<- hbb];exact Hst.out
        have Hit:=ae (mV bb);have Hstep:=ae (show eC eo n (gs ++ [(eo (some bb)).1],(eo (some bb)).2)=gy b by rw[<- Hmany.out,gz])
        obtain⟨⟨t,s1⟩,ht⟩:∃ p,cz (some bb)=p:=⟨_,rfl⟩
        obtain⟨⟨x1,s2⟩,hx1⟩:∃ p,cu s1=p:=⟨_,rfl⟩
        obtain⟨⟨x2,s3⟩,hx2⟩:∃ p,cu s2=p:=⟨_,rfl⟩
        have hit:eo (some bb)=(⟨t,x1,x2⟩,s3):=by unfold eo;rw[ht];dsimp only;rw[hx1];dsimp only;rw[hx2]
        rw[hit] at Hit Hstep;have Ht:=ae ht;have Hx1:=ae hx1;have Hx2:=ae hx2;clear hbb ht hx1 hx2 hit Hst Hmany;have hr0:=iV wr (w.heap.size+1) F av cap b _ HDq.out.rd (HB.out _ HDq.out.bel).1 (HB.out _ HDq.out.bel).2;rw[Ht.out] at hr0;dsimp only at hr0;have HR:=ae hr0;clear hr0;go_wp2_with fail
        skip
        refine HR.out.mono ?_;rintro e v5 ⟨rfl,hR8,hov5⟩;have Hv5:=ae (HDq.out.read hov5 hR8);clear HR hR8
        obtain⟨v6,hv6⟩:∃ v6,v6=v5.alloc (.cells #[.string ⟨t.toArray⟩,.int .i64 0,.int .i64 0] 111):=⟨_,rfl⟩
        have hk6:Below v5.heap.size v5 v6:=by rw[hv6];exact aE _ _
        obtain⟨X,hX⟩:∃ X,v5.heap.size=X:=⟨_,rfl⟩
        have Hk6:=ae (show Blk v6 X [.string ⟨t.toArray⟩,.int .i64 0,.int .i64 0] 111 by rw[hv6,<- hX];exact Blk.new _ _ _);have HMX:=ae (show M < X by rw[<- hX];exact Hv5.out.map.lt);have HX:=ae hX;have Hv6:=ae (Hv5.out.kept hk6);have Hv6e:=ae hv6;have Hown:=ae (show ∀ q,(Value.slice ag gs.length cg).ownBlock=some q -> q≠X from fun q hq e=>by have:=(Hv5.out.gone.lt q hq).2;omega);have Hown2:=ae (show ∀ q,(Value.slice ai its.length ci).ownBlock=some q -> q≠X from fun q hq e=>by have:=(Hv5.out.items.lt q hq).2;omega);have hXR:¬ X=w.heap.size+1:=by have:=HMX.out;have:=Hv5.out.hM;omega
        have HXR:=ae hXR;clear hv6 hk6 z0 z1 z2 hov5 HDq hXR;have hr0:=dK v6 (w.heap.size+1) F av cap b _ Hv6.out.rd (HB.out _ Hv6.out.bel).1 (HB.out _ Hv6.out.bel).2;rw[Hx1.out] at hr0;dsimp only at hr0;have HR:=ae hr0;clear hr0;go_wp2_with fail;rw[<- Hv6e.out];refine HR.out.mono ?_;rintro e v7 ⟨rfl,hR8,hov7⟩;have Hv7:=ae (Hv6.out.read hov7 hR8);clear HR hR8;have Hk7:=ae (Hk6.out.keep (hov7.block _ Hk6.out.lt HXR.out));clear hX hov7 Hk6 Hv6 Hv6e;have hr0:=dK v7 (w.heap.size+1) F av cap b _ Hv7.out.rd (HB.out _ Hv7.out.bel).1 (HB.out _ Hv7.out.bel).2;rw[Hx2.out] at hr0;dsimp only at hr0;have HR:=ae hr0;clear hr0;go_wp2_with fail
        skip
        refine HR.out.mono ?_;rintro e v8 ⟨rfl,hR8,hov8⟩;have Hv8:=ae (Hv7.out.read hov8 hR8);clear HR hR8;have hk9:=Hk7.out.keep (hov8.block _ Hk7.out.lt HXR.out);have e1:v8.cell? ⟨X,1,none⟩=some (.int .i64 0):=hk9.cell 1;have e2:v8.cell? ⟨X,2,none⟩=some (.int .i64 0):=hk9.cell 2;have f1:=hk9.free 1;have f2:=hk9.free 2
        obtain⟨v10,hv10⟩:∃ v10,v10=(v8.setCell ⟨X,1,none⟩ (.int .i64 x1)).setCell ⟨X,2,none⟩ (.int .i64 x2):=⟨_,rfl⟩
        have hk10:Blk v10 X [.string ⟨t.toArray⟩,.int .i64 x1,.int .i64 x2] 111:=by rw[hv10];exact(hk9.set 1 _).set 2 _
        have h1:∀ q,(Value.slice ai its.length ci).ownBlock=some q -> q≠X:=Hown2.out
        have h2:∀ q,(Value.slice ag gs.length cg).ownBlock=some q -> q≠X:=Hown.out
        have hD10:DSt w M av cap b v10 (eqs L) its gs ai ci ag cg s3:=by
         rw[hv10];exact(Hv8.out.far HMX.out h1 h2 1 _).far HMX.out h1 h2 2 _
        obtain⟨i0,t1,t2,t3,t4⟩:=info_parts infoGoP;obtain⟨va,v11,hr,hown,hgr⟩:=bF (P:=aC) v10 (M+1) 35 111 Tryz.underlying35 t1 t2 t3 t4 rfl (by decide) (.slice ag gs.length cg) gs.length _ hD10.gone #[.string ⟨t.toArray⟩,.int .i64 x1,.int .i64 x2] rfl (by simp[Value.oneCell']) (by have:=Hsumg.out;have:=Hl.out;unfold maxLen;omega) (by have:=Hsumg.out;have:=Hl.out;omega) hD10.map.lt;obtain⟨a5,c5,rfl⟩:=own_shape hown;have hD11:=(hD10.kept (aE v10 (.cells #[.string ⟨t.toArray⟩,.int .i64 x1,.int .i64 x2] 111))).gon (x:=⟨t,x1,x2⟩) hgr hown;have hm11:Blk v11 M [.slice (some ⟨w.heap.size+1+1+1,0,none⟩) 8 8,.slice ai its.length ci,.slice ag gs.length cg] 37:=((hD10.kept (aE v10 (.cells #[.string ⟨t.toArray⟩,.int .i64 x1,.int .i64 x2] 111))).map).grownNe ((hD10.kept (aE v10 (.cells #[.string ⟨t.toArray⟩,.int .i64 x1,.int .i64 x2] 111))).gone) (by decide) hgr;have d1:v11.cell? ⟨M,2,none⟩=some (.slice ag gs.length cg):=hm11.cell 2;have g1:=hm11.free 2
        obtain⟨v12,hv12⟩:∃ v12,v12=v11.setCell ⟨M,2,none⟩ (.slice a5 (gs.length+1) c5):=⟨_,rfl⟩
        rw[<- hv12] at hD11;have m1:v10.cell? ⟨M,2,none⟩=some (.slice ag gs.length cg):=hD10.map.cell 2;obtain⟨k0,k1,k2⟩:=cell3 hk10;have hzs:v10.heap.size=v8.heap.size:=by rw[hv10];simp[World.setCell]
        rw[hzs] at hr;rw[hv10] at m1 k0 k1 k2 hr;have HD12:=ae hD11;have Hv12:=ae hv12;clear hov8 Hk7 Hv7 Hv8 hk9 hv10 hk10 hD10 h1 h2 HXR hown hgr hm11 hD11 hv12 t1 t2 t3 t4 hzs;go_wp2_with fail;rw[<- Hv12.out]
        go_roundw
        case rel=>exact⟨n,_,a5,c5,s3,by omega,by go_num,Hstep.out,fun x hx=>by
         rcases List.mem_append.1 hx with h | h
         ·exact HGB.out x h
         ·rw[List.mem_singleton.1 h];exact Hit.out.2.mono (by have:=Hsumg.out;omega),by have:=Hsumg.out;have:=Hit.out.1;rw[ax,List.length_singleton];omega,HD12.out⟩
        case measure=>first | (simp[intOf];done) | (simp[intOf];omega)
    obtain⟨n,rfl⟩:∃ n,n'=n+1:=⟨n' - 1,by omega⟩
    have hnI:(0:Int) < ((n+1:Nat):Int):=by omega
    cases bad with
    | true=>
      obtain rfl:sq=none:=Hst.out;have Hd2:=ae (show jN b=(its,none) by rw[<- Hmany.out,ie]);clear Hmany hnb;go_wp2_with fail
      obtain⟨⟨n0g,s0g⟩,hn0⟩:∃ p,cu (none:de)=p:=⟨_,rfl⟩
      have hnb:=eD (none:de);have hsz0:=(ft (none:de)).1;rw[hn0] at hnb hsz0;dsimp only at hnb hsz0;obtain⟨n2,rfl⟩:=Int.eq_ofNat_of_zero_le hnb.1;have Hsz1:=ae (show szS s0g <= b.length+1 by have:=Hsum.out;omega);have Hdec3:=ae (show eC eo n2 ([],s0g)=gy b by unfold gy;rw[Hd2.out];dsimp only;rw[hn0];rfl);have hn2b:n2 <= 1099511627776:=by omega
      clear z0 z1 z2;have hr0:=dK wr (w.heap.size+1) F av cap b _ HDq.out.rd (HB.out _ HDq.out.bel).1 (HB.out _ HDq.out.bel).2;rw[hn0] at hr0;dsimp only at hr0;have HR:=ae hr0;clear hr0;go_wp2_with fail
      skip
      refine HR.out.mono ?_;rintro e y5 ⟨rfl,hR8,hoy5⟩;have Hy5:=ae (HDq.out.read hoy5 hR8);clear HR hR8;clear hnb hsz0 hn0 HDq hoy5;go_wp2_with fail
      go_loopw [9] (fun i wq=>∃ (n':Nat) (gs:List RGo) (ag:Option Addr) (cg:Nat) (sg:de),n' <= 1099511627776 /\ i=.int .i64 (n':Int) /\ eC eo n' (gs,sg)=gy b /\ (∀ x ∈ gs,GoB (b.length+1) x) /\ gs.length+szS sg <= b.length+1 /\ DSt w M av cap b wq (eqs L) its gs ai ci ag cg sg) (fun i _=>(intOf i).toNat)
      case atStart=>exact⟨n2,[],none,0,s0g,hn2b,rfl,Hdec3.out,nofun,by simpa using Hsz1.out,Hy5.out⟩
      case round=>
       obtain⟨n',gs,ag,cg,sg,hnb,rfl,hmany,hGB,hsumg,hD⟩:=hrel;obtain⟨kk,bad,hrd,hkk,hst⟩:=id hD.rd;obtain⟨z0,z1,z2⟩:=cell3 hrd;have Hmany:=ae hmany;have HGB:=ae hGB;have Hsumg:=ae hsumg;have HDq:=ae hD;have Hst:=ae hst;have Hkk:=ae hkk;clear hmany hGB hsumg hD hrd hkk hst
       by_cases hn:n'=0
       ·subst hn;have Hd3:=ae (show gy b=(gs,sg) from Hmany.out.symm);clear Hmany hnb;cases bad with
        | true=>
          obtain rfl:sg=none:=Hst.out;have Hdr:=ae (show dR b=(.empty,5) by unfold dR;rw[if_neg];rw[Hd3.out];exact fun h=>nomatch h.1);obtain⟨wf,hwf,hblk,hbf⟩:=fin3 HDq.out.res HDq.out.bel (aq _) (.slice none 0 0) (.slice none 0 0) (.slice none 0 0);obtain⟨y0,y1,y2⟩:=cell3 HDq.out.res;have f0:=HDq.out.res.free 0;have f1:=HDq.out.res.free 1;have f2:=HDq.out.res.free 2;have Q:=ae (cell3 hblk);have Hbf:=ae hbf;have Hwf:=ae hwf;clear hwf hblk hbf;go_wp2_with fail;rw[<- Hwf.out];obtain⟨q0,q1,q2⟩:=Q.out;exact bodyPost_ret (v:=.tuple #[nilV,.int .i64 5]) (by simp[results,Tryz.results100,go_sem,q0,q1,q2,nilV]) rfl ⟨_,by rw[Hdr.out],by rw[Hdr.out];exact fh _ _,Hbf.out⟩
        | false=>
          obtain rfl:sg=some (b.drop kk):=Hst.out
          by_cases hkb:kk=b.length
          case neg=>
           have hkbI:¬ (kk:Int)=(b.length:Int):=by omega
           have hkbB:((kk:Int) == (b.length:Int))=false:=beq_eq_false_iff_ne.2 hkbI;have hkbN:((kk:Int) != (b.length:Int))=true:=by simp[hkbI]
           have Hdr:=ae (show dR b=(.empty,5) by
            unfold dR;rw[if_neg];rw[Hd3.out];intro h;have h1:=congrArg List.length (Option.some.inj h.1);have:=Hkk.out;simp at h1
            omega)
           clear hkb;obtain⟨wf,hwf,hblk,hbf⟩:=fin3 HDq.out.res HDq.out.bel (aq _) (.slice none 0 0) (.slice none 0 0) (.slice none 0 0);obtain⟨y0,y1,y2⟩:=cell3 HDq.out.res;have f0:=HDq.out.res.free 0;have f1:=HDq.out.res.free 1;have f2:=HDq.out.res.free 2;have Q:=ae (cell3 hblk);have Hbf:=ae hbf;have Hwf:=ae hwf;clear hwf hblk hbf;go_wp2_with fail;rw[<- Hwf.out];obtain⟨q0,q1,q2⟩:=Q.out;exact bodyPost_ret (v:=.tuple #[nilV,.int .i64 5]) (by simp[results,Tryz.results100,go_sem,q0,q1,q2,nilV]) rfl ⟨_,by rw[Hdr.out],by rw[Hdr.out];exact fh _ _,Hbf.out⟩
          case pos=>
           subst hkb;have Hdm:=ae (show gI b=⟨L,its,gs⟩ by unfold gI;rw[Hd1.out,Hd2.out,Hd3.out]);have Hd0:=ae (show (gy b).2=some [] by rw[Hd3.out];simp)
           have hbnd:∀ x ∈ L,0 <= x /\ x <= 1099511627776:=fun x hx=>by
            have:=iW 8 ([],some b) nofun x;have e:fC 8 ([],some b)=(L,st):=Hd1.out;rw[e] at this;exact this hx
           have hmv:=HDq.out.mapV HL.out hbnd HIB.out HGB.out (by have:=Hl.out;omega);rw[<- Hdm.out] at hmv
           have hki:(∀ x ∈ (gI b).items,x.key.length <= 1000000) /\ (∀ x ∈ (gI b).gone,x.key.length <= 1000000):=by
            rw[Hdm.out];exact⟨fun x hx=>by have:=(HIB.out x hx).1;have:=Hl.out;omega,fun x hx=>by have:=(HGB.out x hx).1;have:=Hl.out;omega⟩
           obtain⟨ok,hok⟩:∃ ok,validR (gI b)=ok:=⟨_,rfl⟩
           have hC:=fA _ (HTb.out _ HDq.out.bel).1 (HTb.out _ HDq.out.bel).2 _ _ (gI b) hmv hki.1 hki.2;rw[hok] at hC;have HC:=ae hC;have Hmv:=ae hmv;have Hok:=ae hok;obtain⟨c0,c1,c2⟩:=cell3 HDq.out.map;clear hbnd hmv hki hok hC;go_wp2_with fail;refine HC.out.mono ?_;rintro e y6 ⟨rfl,hb6⟩;have HD6:=ae (HDq.out.kept hb6);have Hmv6:=ae (lD Hmv.out hb6);clear HC hb6 c0 c1 c2 z0 z1 z2;cases ok with
           | false=>
             have Hdr:=ae (show dR b=(.empty,5) by unfold dR;rw[if_neg];rw[Hok.out];exact fun h=>nomatch h.2);obtain⟨wf,hwf,hblk,hbf⟩:=fin3 HD6.out.res HD6.out.bel (aq _) (.slice none 0 0) (.slice none 0 0) (.slice none 0 0);obtain⟨y0,y1,y2⟩:=cell3 HD6.out.res;have f0:=HD6.out.res.free 0;have f1:=HD6.out.res.free 1;have f2:=HD6.out.res.free 2;have Q:=ae (cell3 hblk);have Hbf:=ae hbf;have Hwf:=ae hwf;clear hwf hblk hbf;go_wp2_with fail;rw[<- Hwf.out];obtain⟨q0,q1,q2⟩:=Q.out;exact bodyPost_ret (v:=.tuple #[nilV,.int .i64 5]) (by simp[results,Tryz.results100,go_sem,q0,q1,q2,nilV]) rfl ⟨_,by rw[Hdr.out],by rw[Hdr.out];exact fh _ _,Hbf.out⟩
           | true=>
             have Hdr:=ae (show dR b=(gI b,0) by unfold dR;rw[if_pos ⟨Hd0.out,Hok.out⟩]);obtain⟨wf,hwf,hblk,hbf⟩:=fin3 HD6.out.res HD6.out.bel (aq _) (.slice (some ⟨w.heap.size+1+1+1,0,none⟩) 8 8) (.slice ai its.length ci) (.slice ag gs.length cg);have hmf:=HD6.out.fin (.slice (some ⟨w.heap.size+1+1+1,0,none⟩) 8 8) (.slice ai its.length ci) (.slice ag gs.length cg) Hmv6.out;rw[<- hwf] at hmf;obtain⟨y0,y1,y2⟩:=cell3 HD6.out.res;have f0:=HD6.out.res.free 0;have f1:=HD6.out.res.free 1;have f2:=HD6.out.res.free 2;obtain⟨c0,c1,c2⟩:=cell3 HD6.out.map;have Q:=ae (cell3 hblk);have Hbf:=ae hbf;have Hwf:=ae hwf;have Hmf:=ae hmf;clear hwf hblk hbf hmf;go_wp2_with fail;rw[<- Hwf.out];obtain⟨q0,q1,q2⟩:=Q.out;exact bodyPost_ret (v:=.tuple #[.agg #[.slice (some ⟨w.heap.size+1+1+1,0,none⟩) 8 8,.slice ai its.length ci,.slice ag gs.length cg],.int .i64 0]) (by simp[results,Tryz.results100,go_sem,q0,q1,q2]) rfl ⟨_,by rw[Hdr.out],by rw[Hdr.out];exact Hmf.out,Hbf.out⟩
       obtain⟨n,rfl⟩:∃ n,n'=n+1:=⟨n' - 1,by omega⟩
       have hnI:(0:Int) < ((n+1:Nat):Int):=by omega
       cases bad with
       | true=>
         obtain rfl:sg=none:=Hst.out;have Hd3:=ae (show gy b=(gs,none) by rw[<- Hmany.out,ie]);clear Hmany hnb;have Hdr:=ae (show dR b=(.empty,5) by unfold dR;rw[if_neg];rw[Hd3.out];exact fun h=>nomatch h.1);obtain⟨wf,hwf,hblk,hbf⟩:=fin3 HDq.out.res HDq.out.bel (aq _) (.slice none 0 0) (.slice none 0 0) (.slice none 0 0);obtain⟨y0,y1,y2⟩:=cell3 HDq.out.res;have f0:=HDq.out.res.free 0;have f1:=HDq.out.res.free 1;have f2:=HDq.out.res.free 2;have Q:=ae (cell3 hblk);have Hbf:=ae hbf;have Hwf:=ae hwf;clear hwf hblk hbf;go_wp2_with fail;rw[<- Hwf.out];obtain⟨q0,q1,q2⟩:=Q.out;exact bodyPost_ret (v:=.tuple #[nilV,.int .i64 5]) (by simp[results,Tryz.results100,go_sem,q0,q1,q2,nilV]) rfl ⟨_,by rw[Hdr.out],by rw[Hdr.out];exact fh _ _,Hbf.out⟩
       | false=>
         obtain⟨bb,hbb⟩:∃ bb,b.drop kk=bb:=⟨_,rfl⟩
         obtain rfl:sg=some bb:=by rw[<- hbb];exact Hst.out
         have Hit:=ae (mV bb);have Hstep:=ae (show eC eo n (gs ++ [(eo (some bb)).1],(eo (some bb)).2)=gy b by rw[<- Hmany.out,gz])
         obtain⟨⟨t,s1⟩,ht⟩:∃ p,cz (some bb)=p:=⟨_,rfl⟩
         obtain⟨⟨x1,s2⟩,hx1⟩:∃ p,cu s1=p:=⟨_,rfl⟩
         obtain⟨⟨x2,s3⟩,hx2⟩:∃ p,cu s2=p:=⟨_,rfl⟩
         have hit:eo (some bb)=(⟨t,x1,x2⟩,s3):=by unfold eo;rw[ht];dsimp only;rw[hx1];dsimp only;rw[hx2]
         rw[hit] at Hit Hstep;have Ht:=ae ht;have Hx1:=ae hx1;have Hx2:=ae hx2;clear hbb ht hx1 hx2 hit Hst Hmany;have hr0:=iV wr (w.heap.size+1) F av cap b _ HDq.out.rd (HB.out _ HDq.out.bel).1 (HB.out _ HDq.out.bel).2;rw[Ht.out] at hr0;dsimp only at hr0;have HR:=ae hr0;clear hr0;go_wp2_with fail
         skip
         refine HR.out.mono ?_;rintro e v5 ⟨rfl,hR8,hov5⟩;have Hv5:=ae (HDq.out.read hov5 hR8);clear HR hR8
         obtain⟨v6,hv6⟩:∃ v6,v6=v5.alloc (.cells #[.string ⟨t.toArray⟩,.int .i64 0,.int .i64 0] 111):=⟨_,rfl⟩
         have hk6:Below v5.heap.size v5 v6:=by rw[hv6];exact aE _ _
         obtain⟨X,hX⟩:∃ X,v5.heap.size=X:=⟨_,rfl⟩
         have Hk6:=ae (show Blk v6 X [.string ⟨t.toArray⟩,.int .i64 0,.int .i64 0] 111 by rw[hv6,<- hX];exact Blk.new _ _ _);have HMX:=ae (show M < X by rw[<- hX];exact Hv5.out.map.lt);have HX:=ae hX;have Hv6:=ae (Hv5.out.kept hk6);have Hv6e:=ae hv6;have Hown:=ae (show ∀ q,(Value.slice ag gs.length cg).ownBlock=some q -> q≠X from fun q hq e=>by have:=(Hv5.out.gone.lt q hq).2;omega);have Hown2:=ae (show ∀ q,(Value.slice ai its.length ci).ownBlock=some q -> q≠X from fun q hq e=>by have:=(Hv5.out.items.lt q hq).2;omega);have hXR:¬ X=w.heap.size+1:=by have:=HMX.out;have:=Hv5.out.hM;omega
         have HXR:=ae hXR;clear hv6 hk6 z0 z1 z2 hov5 HDq hXR;have hr0:=dK v6 (w.heap.size+1) F av cap b _ Hv6.out.rd (HB.out _ Hv6.out.bel).1 (HB.out _ Hv6.out.bel).2;rw[Hx1.out] at hr0;dsimp only at hr0;have HR:=ae hr0;clear hr0;go_wp2_with fail;rw[<- Hv6e.out];refine HR.out.mono ?_;rintro e v7 ⟨rfl,hR8,hov7⟩;have Hv7:=ae (Hv6.out.read hov7 hR8);clear HR hR8;have Hk7:=ae (Hk6.out.keep (hov7.block _ Hk6.out.lt HXR.out));clear hX hov7 Hk6 Hv6 Hv6e;have hr0:=dK v7 (w.heap.size+1) F av cap b _ Hv7.out.rd (HB.out _ Hv7.out.bel).1 (HB.out _ Hv7.out.bel).2;rw[Hx2.out] at hr0;dsimp only at hr0;have HR:=ae hr0;clear hr0;go_wp2_with fail
         skip
         refine HR.out.mono ?_;rintro e v8 ⟨rfl,hR8,hov8⟩;have Hv8:=ae (Hv7.out.read hov8 hR8);clear HR hR8;have hk9:=Hk7.out.keep (hov8.block _ Hk7.out.lt HXR.out);have e1:v8.cell? ⟨X,1,none⟩=some (.int .i64 0):=hk9.cell 1;have e2:v8.cell? ⟨X,2,none⟩=some (.int .i64 0):=hk9.cell 2;have f1:=hk9.free 1;have f2:=hk9.free 2
         obtain⟨v10,hv10⟩:∃ v10,v10=(v8.setCell ⟨X,1,none⟩ (.int .i64 x1)).setCell ⟨X,2,none⟩ (.int .i64 x2):=⟨_,rfl⟩
         have hk10:Blk v10 X [.string ⟨t.toArray⟩,.int .i64 x1,.int .i64 x2] 111:=by rw[hv10];exact(hk9.set 1 _).set 2 _
         have h1:∀ q,(Value.slice ai its.length ci).ownBlock=some q -> q≠X:=Hown2.out
         have h2:∀ q,(Value.slice ag gs.length cg).ownBlock=some q -> q≠X:=Hown.out
         have hD10:DSt w M av cap b v10 (eqs L) its gs ai ci ag cg s3:=by
          rw[hv10];exact(Hv8.out.far HMX.out h1 h2 1 _).far HMX.out h1 h2 2 _
         obtain⟨i0,t1,t2,t3,t4⟩:=info_parts infoGoP;obtain⟨va,v11,hr,hown,hgr⟩:=bF (P:=aC) v10 (M+1) 35 111 Tryz.underlying35 t1 t2 t3 t4 rfl (by decide) (.slice ag gs.length cg) gs.length _ hD10.gone #[.string ⟨t.toArray⟩,.int .i64 x1,.int .i64 x2] rfl (by simp[Value.oneCell']) (by have:=Hsumg.out;have:=Hl.out;unfold maxLen;omega) (by have:=Hsumg.out;have:=Hl.out;omega) hD10.map.lt;obtain⟨a5,c5,rfl⟩:=own_shape hown;have hD11:=(hD10.kept (aE v10 (.cells #[.string ⟨t.toArray⟩,.int .i64 x1,.int .i64 x2] 111))).gon (x:=⟨t,x1,x2⟩) hgr hown;have hm11:Blk v11 M [.slice (some ⟨w.heap.size+1+1+1,0,none⟩) 8 8,.slice ai its.length ci,.slice ag gs.length cg] 37:=((hD10.kept (aE v10 (.cells #[.string ⟨t.toArray⟩,.int .i64 x1,.int .i64 x2] 111))).map).grownNe ((hD10.kept (aE v10 (.cells #[.string ⟨t.toArray⟩,.int .i64 x1,.int .i64 x2] 111))).gone) (by decide) hgr;have d1:v11.cell? ⟨M,2,none⟩=some (.slice ag gs.length cg):=hm11.cell 2;have g1:=hm11.free 2
         obtain⟨v12,hv12⟩:∃ v12,v12=v11.setCell ⟨M,2,none⟩ (.slice a5 (gs.length+1) c5):=⟨_,rfl⟩
         rw[<- hv12] at hD11;have m1:v10.cell? ⟨M,2,none⟩=some (.slice ag gs.length cg):=hD10.map.cell 2;obtain⟨k0,k1,k2⟩:=cell3 hk10;have hzs:v10.heap.size=v8.heap.size:=by rw[hv10];simp[World.setCell]
         rw[hzs] at hr;rw[hv10] at m1 k0 k1 k2 hr;have HD12:=ae hD11;have Hv12:=ae hv12;clear hov8 Hk7 Hv7 Hv8 hk9 hv10 hk10 hD10 h1 h2 HXR hown hgr hm11 hD11 hv12 t1 t2 t3 t4 hzs;go_wp2_with fail;rw[<- Hv12.out]
         go_roundw
         case rel=>exact⟨n,_,a5,c5,s3,by omega,by go_num,Hstep.out,fun x hx=>by
          rcases List.mem_append.1 hx with h | h
          ·exact HGB.out x h
          ·rw[List.mem_singleton.1 h];exact Hit.out.2.mono (by have:=Hsumg.out;omega),by have:=Hsumg.out;have:=Hit.out.1;rw[ax,List.length_singleton];omega,HD12.out⟩
         case measure=>first | (simp[intOf];done) | (simp[intOf];omega)
    | false=>
      obtain⟨bb,hbb⟩:∃ bb,b.drop kk=bb:=⟨_,rfl⟩
      obtain rfl:sq=some bb:=by rw[<- hbb];exact Hst.out
      have Hit:=ae (q7 bb);have Hstep:=ae (show eC fW n (its ++ [(fW (some bb)).1],(fW (some bb)).2)=jN b by rw[<- Hmany.out,gz])
      obtain⟨⟨t,s1⟩,ht⟩:∃ p,cz (some bb)=p:=⟨_,rfl⟩
      obtain⟨⟨x1,s2⟩,hx1⟩:∃ p,cu s1=p:=⟨_,rfl⟩
      obtain⟨⟨x2,s3⟩,hx2⟩:∃ p,cu s2=p:=⟨_,rfl⟩
      obtain⟨⟨x3,s4⟩,hx3⟩:∃ p,cu s3=p:=⟨_,rfl⟩
      have hit:fW (some bb)=(⟨t,x1,x2,x3⟩,s4):=by unfold fW;rw[ht];dsimp only;rw[hx1];dsimp only;rw[hx2];dsimp only;rw[hx3]
      rw[hit] at Hit Hstep;have Ht:=ae ht;have Hx1:=ae hx1;have Hx2:=ae hx2;have Hx3:=ae hx3;clear hbb ht hx1 hx2 hx3 hit Hst Hmany;have hr0:=iV wr (w.heap.size+1) F av cap b _ HDq.out.rd (HB.out _ HDq.out.bel).1 (HB.out _ HDq.out.bel).2;rw[Ht.out] at hr0;dsimp only at hr0;have HR:=ae hr0;clear hr0;go_wp2_with fail
      skip
      refine HR.out.mono ?_;rintro e v5 ⟨rfl,hR8,hov5⟩;have Hv5:=ae (HDq.out.read hov5 hR8);clear HR hR8
      obtain⟨v6,hv6⟩:∃ v6,v6=v5.alloc (.cells #[.string ⟨t.toArray⟩,.int .i64 0,.int .i64 0,.int .i64 0] 108):=⟨_,rfl⟩
      have hk6:Below v5.heap.size v5 v6:=by rw[hv6];exact aE _ _
      obtain⟨X,hX⟩:∃ X,v5.heap.size=X:=⟨_,rfl⟩
      have Hk6:=ae (show Blk v6 X [.string ⟨t.toArray⟩,.int .i64 0,.int .i64 0,.int .i64 0] 108 by rw[hv6,<- hX];exact Blk.new _ _ _);have HMX:=ae (show M < X by rw[<- hX];exact Hv5.out.map.lt);have HX:=ae hX;have Hv6:=ae (Hv5.out.kept hk6);have Hv6e:=ae hv6;have Hown:=ae (show ∀ q,(Value.slice ai its.length ci).ownBlock=some q -> q≠X from fun q hq e=>by have:=(Hv5.out.items.lt q hq).2;omega);have hXR:¬ X=w.heap.size+1:=by have:=HMX.out;have:=Hv5.out.hM;omega
      have HXR:=ae hXR;clear hv6 hk6 z0 z1 z2 hov5 HDq hXR;have hr0:=dK v6 (w.heap.size+1) F av cap b _ Hv6.out.rd (HB.out _ Hv6.out.bel).1 (HB.out _ Hv6.out.bel).2;rw[Hx1.out] at hr0;dsimp only at hr0;have HR:=ae hr0;clear hr0;go_wp2_with fail;rw[<- Hv6e.out];refine HR.out.mono ?_;rintro e v7 ⟨rfl,hR8,hov7⟩;have Hv7:=ae (Hv6.out.read hov7 hR8);clear HR hR8;have Hk7:=ae (Hk6.out.keep (hov7.block _ Hk6.out.lt HXR.out));clear hX hov7 Hk6 Hv6 Hv6e;have hr0:=dK v7 (w.heap.size+1) F av cap b _ Hv7.out.rd (HB.out _ Hv7.out.bel).1 (HB.out _ Hv7.out.bel).2;rw[Hx2.out] at hr0;dsimp only at hr0;have HR:=ae hr0;clear hr0;go_wp2_with fail
      skip
      refine HR.out.mono ?_;rintro e v8 ⟨rfl,hR8,hov8⟩;have Hv8:=ae (Hv7.out.read hov8 hR8);clear HR hR8;have Hk8:=ae (Hk7.out.keep (hov8.block _ Hk7.out.lt HXR.out));clear hov8 Hk7 Hv7;have hr0:=dK v8 (w.heap.size+1) F av cap b _ Hv8.out.rd (HB.out _ Hv8.out.bel).1 (HB.out _ Hv8.out.bel).2;rw[Hx3.out] at hr0;dsimp only at hr0;have HR:=ae hr0;clear hr0;go_wp2_with fail
      skip
      refine HR.out.mono ?_;rintro e v9 ⟨rfl,hR8,hov9⟩;have Hv9:=ae (Hv8.out.read hov9 hR8);clear HR hR8;have hk9:=Hk8.out.keep (hov9.block _ Hk8.out.lt HXR.out);have e1:v9.cell? ⟨X,1,none⟩=some (.int .i64 0):=hk9.cell 1;have e2:v9.cell? ⟨X,2,none⟩=some (.int .i64 0):=hk9.cell 2;have e3:v9.cell? ⟨X,3,none⟩=some (.int .i64 0):=hk9.cell 3;have f1:=hk9.free 1;have f2:=hk9.free 2;have f3:=hk9.free 3
      obtain⟨v10,hv10⟩:∃ v10,v10=((v9.setCell ⟨X,1,none⟩ (.int .i64 x1)).setCell ⟨X,2,none⟩ (.int .i64 x2)).setCell ⟨X,3,none⟩ (.int .i64 x3):=⟨_,rfl⟩
      have hk10:Blk v10 X [.string ⟨t.toArray⟩,.int .i64 x1,.int .i64 x2,.int .i64 x3] 108:=by rw[hv10];exact((hk9.set 1 _).set 2 _).set 3 _
      have h1:∀ q,(Value.slice ai its.length ci).ownBlock=some q -> q≠X:=Hown.out
      have h2:∀ q,(Value.slice none 0 0).ownBlock=some q -> q≠X:=nofun
      have hD10:DSt w M av cap b v10 (eqs L) its [] ai ci none 0 s4:=by
       rw[hv10];exact((Hv9.out.far HMX.out h1 h2 1 _).far HMX.out h1 h2 2 _).far HMX.out h1 h2 3 _
      obtain⟨i0,t1,t2,t3,t4⟩:=info_parts infoItP;obtain⟨va,v11,hr,hown,hgr⟩:=bF (P:=aC) v10 (M+1) 34 108 Tryz.underlying34 t1 t2 t3 t4 rfl (by decide) (.slice ai its.length ci) its.length _ hD10.items #[.string ⟨t.toArray⟩,.int .i64 x1,.int .i64 x2,.int .i64 x3] rfl (by simp[Value.oneCell']) (by have:=Hsum.out;have:=Hl.out;unfold maxLen;omega) (by have:=Hsum.out;have:=Hl.out;omega) hD10.map.lt;obtain⟨a5,c5,rfl⟩:=own_shape hown;have hD11:=(hD10.kept (aE v10 (.cells #[.string ⟨t.toArray⟩,.int .i64 x1,.int .i64 x2,.int .i64 x3] 108))).item (x:=⟨t,x1,x2,x3⟩) hgr hown;have hm11:Blk v11 M [.slice (some ⟨w.heap.size+1+1+1,0,none⟩) 8 8,.slice ai its.length ci,.slice none ([]:List RGo).length 0] 37:=((hD10.kept (aE v10 (.cells #[.string ⟨t.toArray⟩,.int .i64 x1,.int .i64 x2,.int .i64 x3] 108))).map).grownNe ((hD10.kept (aE v10 (.cells #[.string ⟨t.toArray⟩,.int .i64 x1,.int .i64 x2,.int .i64 x3] 108))).items) (by decide) hgr;have d1:v11.cell? ⟨M,1,none⟩=some (.slice ai its.length ci):=hm11.cell 1;have g1:=hm11.free 1
      obtain⟨v12,hv12⟩:∃ v12,v12=v11.setCell ⟨M,1,none⟩ (.slice a5 (its.length+1) c5):=⟨_,rfl⟩
      rw[<- hv12] at hD11;have m1:v10.cell? ⟨M,1,none⟩=some (.slice ai its.length ci):=hD10.map.cell 1;obtain⟨k0,k1,k2,k3⟩:=cell4 hk10;have hzs:v10.heap.size=v9.heap.size:=by rw[hv10];simp[World.setCell]
      rw[hzs] at hr;rw[hv10] at m1 k0 k1 k2 k3 hr;have HD12:=ae hD11;have Hv12:=ae hv12;clear hov9 Hk8 Hv8 Hv9 hk9 hv10 hk10 hD10 h1 h2 HXR hown hgr hm11 hD11 hv12 t1 t2 t3 t4 hzs;go_wp2_with fail;rw[<- Hv12.out]
      go_roundw
      case rel=>exact⟨n,_,a5,c5,s4,by omega,by go_num,Hstep.out,fun x hx=>by
       rcases List.mem_append.1 hx with h | h
       ·exact HIB.out x h
       ·rw[List.mem_singleton.1 h];exact Hit.out.2.mono (by have:=Hsum.out;omega),by have:=Hsum.out;have:=Hit.out.1;rw[ax,List.length_singleton];omega,HD12.out⟩
      case measure=>first | (simp[intOf];done) | (simp[intOf];omega)
end
end Go.Proofs.YtobjdpngnfbicaaGreatDoor
