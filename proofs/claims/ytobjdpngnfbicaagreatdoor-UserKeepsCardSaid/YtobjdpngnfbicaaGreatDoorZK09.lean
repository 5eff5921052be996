/-
  RCod4
-/
import Derived.Test.YtobjdpngnfbicaaGreatDoorZK08
open Go.Lib renaming hid->ae
open Go.IntWalk renaming i64_in->af
open Nat renaming le_refl->aq
open Go.Proofs.Tryz renaming prog->aC
namespace Go.Proofs.YtobjdpngnfbicaaGreatDoor
open Go.RowKit
set_option linter.unusedVariables false
set_option maxRecDepth 20000
section
attribute [local go_sem] opC upC
def C3 (g:Nat) (v:Value) (a b:World):Prop:=aK (fun q=>g <= q /\ q <= g+2) a b /\ (a.cell? ⟨g,0,none⟩=some v -> b.cell? ⟨g,0,none⟩=some v)
theorem C3.refl (g:Nat) (v:Value) (a:World):C3 g v a a:=⟨aK.refl _ _,id⟩
theorem C3.trans (g:Nat) (v:Value) (a b c:World) (h:C3 g v a b) (k:C3 g v b c):C3 g v a c:=⟨h.1.trans k.1 fun _ hi=>.inl hi,fun hh=>k.2 (h.2 hh)⟩
theorem C3.cell {g:Nat} {v:Value} {a b:World} (h:C3 g v a b) {p:Addr} {x:Value} (hc:a.cell? p=some x) (hp:g+2 < p.block):b.cell? p=some x:=by
 have hb:=h.1.block p.block (cellLt hc) (by omega);unfold World.cell? at *;rw[hb];exact hc
def jW (bl:Nat):Option (Nat × List UInt8) -> Value
 | some (n,r)=>.tuple #[.int .u64 (n:Int),.int .i64 ((bl - r.length:Nat):Int),.bool true]
 | none=>.tuple #[.int .u64 0,.int .i64 0,.bool false]
def iA (b:List UInt8) (k:Nat):Value:=jW b.length (rdF (b.drop k) 9)
def oH (bl:Nat):Option (RKey × List UInt8) -> Value
 | some (n,r)=>.tuple #[.string ⟨n.toArray⟩,.int .i64 ((bl - r.length:Nat):Int),.bool true]
 | none=>.tuple #[.string ⟨#[]⟩,.int .i64 0,.bool false]
def jo (b:List UInt8) (k:Nat):Value:=oH b.length (rdT (b.drop k))
set_option maxRecDepth 100000 in
set_option maxHeartbeats 2000000 in
theorem qr (w:World) (F:aV) (av:Option Addr) (cap:Nat) (b:List UInt8) (k0:Nat) (hB:Bytes F w (.slice av b.length cap) b) (hF:∀ q,F q -> q < w.heap.size) (hk:k0 <= b.length):
 Calls aC 155 #[.slice av b.length cap,.int .i64 (k0:Int),.func (.func 156) #[] #[]] w fun e w'=>e=.returned (iA b k0) /\ Below w.heap.size w w':=by
 have hmf:∀ (fn:Fn) (first cap:Array Value) (w:World),(Instr.makeFunc fn first cap).run aC w=.ok (.func fn first cap) w:=fun _ _ _ _=>rfl
 obtain⟨g,hg⟩:∃ g,w.heap.size=g:=⟨_,rfl⟩
 obtain⟨w1,hw1⟩:∃ w1,w1=((w.alloc (.cells #[.int .u64 0] 146)).alloc (.cells #[.int .i64 0] 3)).alloc (.cells #[.bool false] 4):=⟨_,rfl⟩
 obtain⟨w2,hw2⟩:∃ w2,w2=w1.alloc (.cells #[.slice av b.length cap,.int .i64 (k0:Int)] 247):=⟨_,rfl⟩
 have hz1:w1.heap.size=g+3:=by rw[hw1,<- hg];simp
 have hb1:Below g w w1:=by
  rw[hw1,<- hg];exact(((Below.refl w.heap.size w).alloc (aq _) _).alloc (by simp) _).alloc (by simp;omega) _
 have hb2:Below g w w2:=hb1.trans (by rw[hw2];exact(aE _ _).mono (by omega))
 have k0':Blk w2 g [.int .u64 0] 146:=by
  have:=(((Blk.new w #[.int .u64 0] 146).alloc (.cells #[.int .i64 0] 3)).alloc (.cells #[.bool false] 4)).alloc (.cells #[.slice av b.length cap,.int .i64 (k0:Int)] 247);rw[hw2,hw1,<- hg];exact this
 have k1':Blk w2 (g+1) [.int .i64 0] 3:=by
  have:=((Blk.new (w.alloc (.cells #[.int .u64 0] 146)) #[.int .i64 0] 3).alloc (.cells #[.bool false] 4)).alloc (.cells #[.slice av b.length cap,.int .i64 (k0:Int)] 247);simp only[World.size_alloc,hg] at this;rw[hw2,hw1];exact this
 have k2':Blk w2 (g+2) [.bool false] 4:=by
  have:=(Blk.new ((w.alloc (.cells #[.int .u64 0] 146)).alloc (.cells #[.int .i64 0] 3)) #[.bool false] 4).alloc (.cells #[.slice av b.length cap,.int .i64 (k0:Int)] 247);simp only[World.size_alloc,hg] at this;rw[hw2,hw1];exact this
 have kR:Blk w2 (g+3) [.slice av b.length cap,.int .i64 (k0:Int)] 247:=by
  have:=Blk.new w1 #[.slice av b.length cap,.int .i64 (k0:Int)] 247;rw[<- hw2,hz1] at this;exact this
 have hN:=jS w2 (g+3) F av cap b k0 kR (hB.keep (w':=w2) fun q hq _=>hb2.block q (by rw[<- hg];exact hF q hq)) (fun q hq=>by have:=hF q hq;omega) hk
 obtain⟨o,ho⟩:∃ o,rdF (b.drop k0) 9=o:=⟨_,rfl⟩
 rw[ho] at hN;have hv:iA b k0=jW b.length o:=by unfold iA;rw[ho]
 have Hv:=ae hv;have HN:=ae hN;have Hb2:=ae hb2;have K0:=ae k0';have K1:=ae k1';have K2:=ae k2';have Hw2:=ae (show w2=(((w.alloc (.cells #[.int .u64 0] 146)).alloc (.cells #[.int .i64 0] 3)).alloc (.cells #[.bool false] 4)).alloc (.cells #[.slice av b.length cap,.int .i64 (k0:Int)] 247) by rw[hw2,hw1]);have Hg:=ae hg;have hneg:¬ (k0:Int) < 0:=by omega
 obtain⟨n,hn⟩:∃ n,b.length=n:=⟨_,rfl⟩
 clear hv hN hb1 hb2 k0' k1' k2' kR hw1 hw2 hz1 hB hF ho hg hn
 go_enter_defers Tryz.func155,Tryz.ntmps155
 go_wp2_with fail;rw[<- Hw2.out];rw[Hg.out];refine HN.out.mono ?_;rintro e w3 hC;clear HN;have hne:∀ q,q≠g+3 -> q < w2.heap.size -> aK (fun q=>q=g+3) w2 w3 -> w3.heap[q]?=w2.heap[q]?:=fun q h hlt hO=>hO.block q hlt h
 have Hne:=ae hne;clear hne;cases o with
 | none=>
   obtain⟨rfl,hO⟩:=hC;have h0:=K0.out.keep (Hne.out _ (by omega) K0.out.lt hO);have h1:=K1.out.keep (Hne.out _ (by omega) K1.out.lt hO);have h2:=K2.out.keep (Hne.out _ (by omega) K2.out.lt hO);have hb3:Below g w w3:=Hb2.out.trans (hO.below (fun q hq=>by have hq':q=g+3:=hq;omega) (by have:=Hb2.out.size;have:=Hg.out;omega));have H0:=ae h0;have H1:=ae h1;have H2:=ae h2;have Hb3:=ae hb3;clear hO h0 h1 h2 hb3 Hne;go_wp2_with fail;refine leaves_cons (f:=199) (args:=#[.pointer (some ⟨g,0,none⟩),.pointer (some ⟨g+1,0,none⟩),.pointer (some ⟨g+1+1,0,none⟩)]) (by simp) (by simp[go_sem]) ?_;refine(l7 g _ _ _ _ _ _ w3 H0.out H1.out H2.out).mono ?_;rintro e u' w4 ⟨rfl,rfl,q0,q1,q2,hb4⟩;have c0:w4.cell? ⟨g,0,none⟩=some _:=q0.cell 0;have c1:w4.cell? ⟨g+1,0,none⟩=some _:=q1.cell 0;have c2:w4.cell? ⟨g+1+1,0,none⟩=some _:=q2.cell 0;simp[Leaves,settle,results,Tryz.results155,go_sem,iz,c0,c1,c2];exact⟨by rw[Hv.out];rfl,by rw[Hg.out];exact Hb3.out.trans hb4⟩
 | some p=>
   obtain⟨n,r⟩:=p;obtain⟨⟨rfl,at1,hat,hR⟩,hO⟩:=hC;have h0:=K0.out.keep (Hne.out _ (by omega) K0.out.lt hO);have h1:=K1.out.keep (Hne.out _ (by omega) K1.out.lt hO);have h2:=K2.out.keep (Hne.out _ (by omega) K2.out.lt hO);have hb3:Below g w w3:=Hb2.out.trans (hO.below (fun q hq=>by have hq':q=g+3:=hq;omega) (by have:=Hb2.out.size;have:=Hg.out;omega))
   obtain⟨w4,hw4⟩:∃ w4,w4=w3.setCell ⟨g,0,none⟩ (.int .u64 (n:Int)):=⟨_,rfl⟩
   have q0:Blk w4 g [.int .u64 (n:Int)] 146:=by rw[hw4];exact h0.set 0 _
   have q1:Blk w4 (g+1) [.int .i64 0] 3:=by rw[hw4];exact h1.set_other _ (by show g+1≠g;omega)
   have q2:Blk w4 (g+1+1) [.bool false] 4:=by rw[hw4];exact h2.set_other _ (by show g+1+1≠g;omega)
   have qR:Blk w4 (g+1+1+1) [.slice av b.length cap,.int .i64 (at1:Int)] 247:=by rw[hw4];exact hR.set_other _ (by show g+1+1+1≠g;omega)
   have hb4:Below g w w4:=by rw[hw4];exact hb3.setCell (p:=⟨g,0,none⟩) (aq _) _
   have c0:w3.cell? ⟨g,0,none⟩=some _:=h0.cell 0;have z0:=h0.free 0;have Q0:=ae q0;have Q1:=ae q1;have Q2:=ae q2;have QR:=ae qR;have Hb4:=ae hb4;have Hw4:=ae hw4;have Hat:=ae hat;clear hO hR h0 h1 h2 hb3 Hne q0 q1 q2 qR hb4 hw4 hat;go_wp2_with fail;rw[<- Hw4.out];clear c0 z0 Hw4;have pg:∀ w',C3 g (.int .u64 (n:Int)) w4.drew w' -> w'.cell? ⟨g,0,none⟩=some (.int .u64 (n:Int)):=fun w' hh=>hh.2 (Q0.out.cell 0)
   have pr:∀ w',C3 g (.int .u64 (n:Int)) w4.drew w' -> w'.cell? ⟨g+1+1+1,1,none⟩=some (.int .i64 (at1:Int)):=fun w' hh=>C3.cell hh (a:=w4.drew) (QR.out.cell 1) (by show g+2 < g+1+1+1;omega)
   refine aJ (C3 g (.int .u64 (n:Int))) [(0,true),(1,true),(2,true),(3,true),(4,true),(5,false),(6,false),(7,false)] (by kernel_rfl) (by kernel_rfl) (C3.refl _ _) (C3.trans _ _) ?_
   repeat (refine aF (v:=?_) rfl (aD rfl) (fun w' hC=>?_) (fun K hK=>?_);rotate_left;(focus (go_simp;(try simp(disch:=omega) only[af]);first | done | exact rfl));go_simp;(try simp(disch:=omega) only[af]);refine hK _ ?_;clear hK K)
   refine aQ rfl rfl (fun KK hK=>?_);have a0:w4.drew.cell? ⟨g,0,none⟩=some _:=Q0.out.cell 0;have a1:w4.drew.frozen? ⟨g,0,none⟩=false:=Q0.out.free 0;go_simp
   obtain⟨w5,hnw⟩:∃ W,W=w4.setCell ⟨g,0,none⟩ (.int .u64 (n:Int)):=⟨_,rfl⟩
   have q0w5:Blk w5 g [.int .u64 (n:Int)] 146:=by rw[hnw];exact(Q0.out.set 0 _)
   have q1w5:Blk w5 (g+1) [.int .i64 0] 3:=by rw[hnw];exact(Q1.out.set_other _ (by show g+1≠g;omega))
   have q2w5:Blk w5 (g+1+1) [.bool false] 4:=by rw[hnw];exact(Q2.out.set_other _ (by show g+1+1≠g;omega))
   have hbw5:Below g w w5:=by rw[hnw];exact Hb4.out.setCell (p:=⟨g,0,none⟩) (by show g <= g;omega) _
   have hon:aK (fun q=>g <= q /\ q <= g+2) w4.drew w5.drew:=by rw[hnw];exact(aK.refl _ w4.drew).setCell (p:=⟨g,0,none⟩) (.inl (by show g <= g /\ g <= g+2;omega)) _
   rw[<- hnw];refine⟨⟨hon,fun _=>q0w5.cell 0⟩,hK _ _ ?_⟩;clear hK KK hnw hon a0 a1;go_simp;refine aQ rfl rfl (fun KK hK=>?_);have a0:w5.drew.cell? ⟨g+1,0,none⟩=some _:=q1w5.cell 0;have a1:w5.drew.frozen? ⟨g+1,0,none⟩=false:=q1w5.free 0;go_simp
   obtain⟨w6,hnw⟩:∃ W,W=w5.setCell ⟨g+1,0,none⟩ (.int .i64 (at1:Int)):=⟨_,rfl⟩
   have q0w6:Blk w6 g [.int .u64 (n:Int)] 146:=by rw[hnw];exact(q0w5.set_other _ (by show g≠g+1;omega))
   have q1w6:Blk w6 (g+1) [.int .i64 (at1:Int)] 3:=by rw[hnw];exact(q1w5.set 0 _)
   have q2w6:Blk w6 (g+1+1) [.bool false] 4:=by rw[hnw];exact(q2w5.set_other _ (by show g+1+1≠g+1;omega))
   have hbw6:Below g w w6:=by rw[hnw];exact hbw5.setCell (p:=⟨g+1,0,none⟩) (by show g <= g+1;omega) _
   have hon:aK (fun q=>g <= q /\ q <= g+2) w5.drew w6.drew:=by rw[hnw];exact(aK.refl _ w5.drew).setCell (p:=⟨g+1,0,none⟩) (.inl (by show g <= g+1 /\ g+1 <= g+2;omega)) _
   rw[<- hnw];refine⟨⟨hon,fun _=>q0w6.cell 0⟩,hK _ _ ?_⟩;clear hK KK hnw hon a0 a1;go_simp;refine aQ rfl rfl (fun KK hK=>?_);have a0:w6.drew.cell? ⟨g+1+1,0,none⟩=some _:=q2w6.cell 0;have a1:w6.drew.frozen? ⟨g+1+1,0,none⟩=false:=q2w6.free 0;go_simp
   obtain⟨w7,hnw⟩:∃ W,W=w6.setCell ⟨g+1+1,0,none⟩ (.bool true):=⟨_,rfl⟩
   have q0w7:Blk w7 g [.int .u64 (n:Int)] 146:=by rw[hnw];exact(q0w6.set_other _ (by show g≠g+1+1;omega))
   have q1w7:Blk w7 (g+1) [.int .i64 (at1:Int)] 3:=by rw[hnw];exact(q1w6.set_other _ (by show g+1≠g+1+1;omega))
   have q2w7:Blk w7 (g+1+1) [.bool true] 4:=by rw[hnw];exact(q2w6.set 0 _)
   have hbw7:Below g w w7:=by rw[hnw];exact hbw6.setCell (p:=⟨g+1+1,0,none⟩) (by show g <= g+1+1;omega) _
   have hon:aK (fun q=>g <= q /\ q <= g+2) w6.drew w7.drew:=by rw[hnw];exact(aK.refl _ w6.drew).setCell (p:=⟨g+1+1,0,none⟩) (.inl (by show g <= g+1+1 /\ g+1+1 <= g+2;omega)) _
   rw[<- hnw];refine⟨⟨hon,fun _=>q0w7.cell 0⟩,hK _ _ ?_⟩;clear hK KK hnw hon a0 a1;go_simp;refine aW ?_;clear pg pr;have Q0:=ae q0w7;have Q1:=ae q1w7;have Q2:=ae q2w7;have HB:=ae hbw7;clear q0w7 q1w7 q2w7 hbw7;go_wp2_with fail;refine leaves_cons (f:=199) (args:=#[.pointer (some ⟨g,0,none⟩),.pointer (some ⟨g+1,0,none⟩),.pointer (some ⟨g+1+1,0,none⟩)]) (by simp) (by simp[go_sem]) ?_;refine(m6 _ _ _ w7.drew).mono ?_;rintro e u' w8 ⟨rfl,rfl,hw8⟩;have c0:w8.cell? ⟨g,0,none⟩=some (.int .u64 (n:Int)):=by rw[hw8];exact Q0.out.cell 0
   have c1:w8.cell? ⟨g+1,0,none⟩=some (.int .i64 (at1:Int)):=by rw[hw8];exact Q1.out.cell 0
   have c2:w8.cell? ⟨g+1+1,0,none⟩=some (.bool true):=by rw[hw8];exact Q2.out.cell 0
   have Hw8:=ae hw8;clear hw8;simp[Leaves,settle,results,Tryz.results155,go_sem,c0,c1,c2];exact⟨by rw[Hv.out];show _=Value.tuple #[.int .u64 (n:Int),.int .i64 ((b.length - r.length:Nat):Int),.bool true];rw[show b.length - r.length=at1 by have:=Hat.out;omega],by rw[Hg.out,Hw8.out];exact HB.out.drew⟩
set_option maxRecDepth 100000 in
set_option maxHeartbeats 2000000 in
theorem qt (w:World) (F:aV) (av:Option Addr) (cap:Nat) (b:List UInt8) (k0:Nat) (hB:Bytes F w (.slice av b.length cap) b) (hF:∀ q,F q -> q < w.heap.size) (hk:k0 <= b.length):
 Calls aC 217 #[.slice av b.length cap,.int .i64 (k0:Int),.func (.func 218) #[] #[]] w fun e w'=>e=.returned (jo b k0) /\ Below w.heap.size w w':=by
 have hmf:∀ (fn:Fn) (first cap:Array Value) (w:World),(Instr.makeFunc fn first cap).run aC w=.ok (.func fn first cap) w:=fun _ _ _ _=>rfl
 obtain⟨g,hg⟩:∃ g,w.heap.size=g:=⟨_,rfl⟩
 obtain⟨w1,hw1⟩:∃ w1,w1=((w.alloc (.cells #[.string ⟨#[]⟩] 9)).alloc (.cells #[.int .i64 0] 3)).alloc (.cells #[.bool false] 4):=⟨_,rfl⟩
 obtain⟨w2,hw2⟩:∃ w2,w2=w1.alloc (.cells #[.slice av b.length cap,.int .i64 (k0:Int)] 247):=⟨_,rfl⟩
 have hz1:w1.heap.size=g+3:=by rw[hw1,<- hg];simp
 have hb1:Below g w w1:=by
  rw[hw1,<- hg];exact(((Below.refl w.heap.size w).alloc (aq _) _).alloc (by simp) _).alloc (by simp;omega) _
 have hb2:Below g w w2:=hb1.trans (by rw[hw2];exact(aE _ _).mono (by omega))
 have k0':Blk w2 g [.string ⟨#[]⟩] 9:=by
  have:=(((Blk.new w #[.string ⟨#[]⟩] 9).alloc (.cells #[.int .i64 0] 3)).alloc (.cells #[.bool false] 4)).alloc (.cells #[.slice av b.length cap,.int .i64 (k0:Int)] 247);rw[hw2,hw1,<- hg];exact this
 have k1':Blk w2 (g+1) [.int .i64 0] 3:=by
  have:=((Blk.new (w.alloc (.cells #[.string ⟨#[]⟩] 9)) #[.int .i64 0] 3).alloc (.cells #[.bool false] 4)).alloc (.cells #[.slice av b.length cap,.int .i64 (k0:Int)] 247);simp only[World.size_alloc,hg] at this;rw[hw2,hw1];exact this
 have k2':Blk w2 (g+2) [.bool false] 4:=by
  have:=(Blk.new ((w.alloc (.cells #[.string ⟨#[]⟩] 9)).alloc (.cells #[.int .i64 0] 3)) #[.bool false] 4).alloc (.cells #[.slice av b.length cap,.int .i64 (k0:Int)] 247);simp only[World.size_alloc,hg] at this;rw[hw2,hw1];exact this
 have kR:Blk w2 (g+3) [.slice av b.length cap,.int .i64 (k0:Int)] 247:=by
  have:=Blk.new w1 #[.slice av b.length cap,.int .i64 (k0:Int)] 247;rw[<- hw2,hz1] at this;exact this
 have hN:=lu w2 (g+3) F av cap b k0 kR (hB.keep (w':=w2) fun q hq _=>hb2.block q (by rw[<- hg];exact hF q hq)) (fun q hq=>by have:=hF q hq;omega) hk
 obtain⟨o,ho⟩:∃ o,rdT (b.drop k0) =o:=⟨_,rfl⟩
 rw[ho] at hN;have hv:jo b k0=oH b.length o:=by unfold jo;rw[ho]
 have Hv:=ae hv;have HN:=ae hN;have Hb2:=ae hb2;have K0:=ae k0';have K1:=ae k1';have K2:=ae k2';have Hw2:=ae (show w2=(((w.alloc (.cells #[.string ⟨#[]⟩] 9)).alloc (.cells #[.int .i64 0] 3)).alloc (.cells #[.bool false] 4)).alloc (.cells #[.slice av b.length cap,.int .i64 (k0:Int)] 247) by rw[hw2,hw1]);have Hg:=ae hg;have hneg:¬ (k0:Int) < 0:=by omega
 obtain⟨n,hn⟩:∃ n,b.length=n:=⟨_,rfl⟩
 clear hv hN hb1 hb2 k0' k1' k2' kR hw1 hw2 hz1 hB hF ho hg hn
 go_enter_defers Tryz.func217,Tryz.ntmps217
 go_wp2_with fail;rw[<- Hw2.out];rw[Hg.out];refine HN.out.mono ?_;rintro e w3 hC;clear HN;have hne:∀ q,q≠g+3 -> q < w2.heap.size -> aK (fun q=>q=g+3) w2 w3 -> w3.heap[q]?=w2.heap[q]?:=fun q h hlt hO=>hO.block q hlt h
 have Hne:=ae hne;clear hne;cases o with
 | none=>
   obtain⟨rfl,hO⟩:=hC;have h0:=K0.out.keep (Hne.out _ (by omega) K0.out.lt hO);have h1:=K1.out.keep (Hne.out _ (by omega) K1.out.lt hO);have h2:=K2.out.keep (Hne.out _ (by omega) K2.out.lt hO);have hb3:Below g w w3:=Hb2.out.trans (hO.below (fun q hq=>by have hq':q=g+3:=hq;omega) (by have:=Hb2.out.size;have:=Hg.out;omega));have H0:=ae h0;have H1:=ae h1;have H2:=ae h2;have Hb3:=ae hb3;clear hO h0 h1 h2 hb3 Hne;go_wp2_with fail;refine leaves_cons (f:=229) (args:=#[.pointer (some ⟨g,0,none⟩),.pointer (some ⟨g+1,0,none⟩),.pointer (some ⟨g+1+1,0,none⟩)]) (by simp) (by simp[go_sem]) ?_;refine(l8 g _ _ _ _ _ _ w3 H0.out H1.out H2.out).mono ?_;rintro e u' w4 ⟨rfl,rfl,q0,q1,q2,hb4⟩;have c0:w4.cell? ⟨g,0,none⟩=some _:=q0.cell 0;have c1:w4.cell? ⟨g+1,0,none⟩=some _:=q1.cell 0;have c2:w4.cell? ⟨g+1+1,0,none⟩=some _:=q2.cell 0;simp[Leaves,settle,results,Tryz.results217,go_sem,iz,c0,c1,c2];exact⟨by rw[Hv.out];rfl,by rw[Hg.out];exact Hb3.out.trans hb4⟩
 | some p=>
   obtain⟨n,r⟩:=p;obtain⟨⟨rfl,at1,hat,hR⟩,hO⟩:=hC;have h0:=K0.out.keep (Hne.out _ (by omega) K0.out.lt hO);have h1:=K1.out.keep (Hne.out _ (by omega) K1.out.lt hO);have h2:=K2.out.keep (Hne.out _ (by omega) K2.out.lt hO);have hb3:Below g w w3:=Hb2.out.trans (hO.below (fun q hq=>by have hq':q=g+3:=hq;omega) (by have:=Hb2.out.size;have:=Hg.out;omega))
   obtain⟨w4,hw4⟩:∃ w4,w4=w3.setCell ⟨g,0,none⟩ (.string ⟨n.toArray⟩):=⟨_,rfl⟩
   have q0:Blk w4 g [.string ⟨n.toArray⟩] 9:=by rw[hw4];exact h0.set 0 _
   have q1:Blk w4 (g+1) [.int .i64 0] 3:=by rw[hw4];exact h1.set_other _ (by show g+1≠g;omega)
   have q2:Blk w4 (g+1+1) [.bool false] 4:=by rw[hw4];exact h2.set_other _ (by show g+1+1≠g;omega)
   have qR:Blk w4 (g+1+1+1) [.slice av b.length cap,.int .i64 (at1:Int)] 247:=by rw[hw4];exact hR.set_other _ (by show g+1+1+1≠g;omega)
   have hb4:Below g w w4:=by rw[hw4];exact hb3.setCell (p:=⟨g,0,none⟩) (aq _) _
   have c0:w3.cell? ⟨g,0,none⟩=some _:=h0.cell 0;have z0:=h0.free 0;have Q0:=ae q0;have Q1:=ae q1;have Q2:=ae q2;have QR:=ae qR;have Hb4:=ae hb4;have Hw4:=ae hw4;have Hat:=ae hat;clear hO hR h0 h1 h2 hb3 Hne q0 q1 q2 qR hb4 hw4 hat;go_wp2_with fail;rw[<- Hw4.out];clear c0 z0 Hw4;have pg:∀ w',C3 g (.string ⟨n.toArray⟩) w4.drew w' -> w'.cell? ⟨g,0,none⟩=some (.string ⟨n.toArray⟩):=fun w' hh=>hh.2 (Q0.out.cell 0)
   have pr:∀ w',C3 g (.string ⟨n.toArray⟩) w4.drew w' -> w'.cell? ⟨g+1+1+1,1,none⟩=some (.int .i64 (at1:Int)):=fun w' hh=>C3.cell hh (a:=w4.drew) (QR.out.cell 1) (by show g+2 < g+1+1+1;omega)
   refine aJ (C3 g (.string ⟨n.toArray⟩)) [(0,true),(1,true),(2,true),(3,true),(4,true),(5,false),(6,false),(7,false)] (by kernel_rfl) (by kernel_rfl) (C3.refl _ _) (C3.trans _ _) ?_
   repeat (refine aF (v:=?_) rfl (aD rfl) (fun w' hC=>?_) (fun K hK=>?_);rotate_left;(focus (go_simp;(try simp(disch:=omega) only[af]);first | done | exact rfl));go_simp;(try simp(disch:=omega) only[af]);refine hK _ ?_;clear hK K)
   refine aQ rfl rfl (fun KK hK=>?_);have a0:w4.drew.cell? ⟨g,0,none⟩=some _:=Q0.out.cell 0;have a1:w4.drew.frozen? ⟨g,0,none⟩=false:=Q0.out.free 0;go_simp
   obtain⟨w5,hnw⟩:∃ W,W=w4.setCell ⟨g,0,none⟩ (.string ⟨n.toArray⟩):=⟨_,rfl⟩
   have q0w5:Blk w5 g [.string ⟨n.toArray⟩] 9:=by rw[hnw];exact(Q0.out.set 0 _)
   have q1w5:Blk w5 (g+1) [.int .i64 0] 3:=by rw[hnw];exact(Q1.out.set_other _ (by show g+1≠g;omega))
   have q2w5:Blk w5 (g+1+1) [.bool false] 4:=by rw[hnw];exact(Q2.out.set_other _ (by show g+1+1≠g;omega))
   have hbw5:Below g w w5:=by rw[hnw];exact Hb4.out.setCell (p:=⟨g,0,none⟩) (by show g <= g;omega) _
   have hon:aK (fun q=>g <= q /\ q <= g+2) w4.drew w5.drew:=by rw[hnw];exact(aK.refl _ w4.drew).setCell (p:=⟨g,0,none⟩) (.inl (by show g <= g /\ g <= g+2;omega)) _
   rw[<- hnw];refine⟨⟨hon,fun _=>q0w5.cell 0⟩,hK _ _ ?_⟩;clear hK KK hnw hon a0 a1;go_simp;refine aQ rfl rfl (fun KK hK=>?_);have a0:w5.drew.cell? ⟨g+1,0,none⟩=some _:=q1w5.cell 0;have a1:w5.drew.frozen? ⟨g+1,0,none⟩=false:=q1w5.free 0;go_simp
   obtain⟨w6,hnw⟩:∃ W,W=w5.setCell ⟨g+1,0,none⟩ (.int .i64 (at1:Int)):=⟨_,rfl⟩
   have q0w6:Blk w6 g [.string ⟨n.toArray⟩] 9:=by rw[hnw];exact(q0w5.set_other _ (by show g≠g+1;omega))
   have q1w6:Blk w6 (g+1) [.int .i64 (at1:Int)] 3:=by rw[hnw];exact(q1w5.set 0 _)
   have q2w6:Blk w6 (g+1+1) [.bool false] 4:=by rw[hnw];exact(q2w5.set_other _ (by show g+1+1≠g+1;omega))
   have hbw6:Below g w w6:=by rw[hnw];exact hbw5.setCell (p:=⟨g+1,0,none⟩) (by show g <= g+1;omega) _
   have hon:aK (fun q=>g <= q /\ q <= g+2) w5.drew w6.drew:=by rw[hnw];exact(aK.refl _ w5.drew).setCell (p:=⟨g+1,0,none⟩) (.inl (by show g <= g+1 /\ g+1 <= g+2;omega)) _
   rw[<- hnw];refine⟨⟨hon,fun _=>q0w6.cell 0⟩,hK _ _ ?_⟩;clear hK KK hnw hon a0 a1;go_simp;refine aQ rfl rfl (fun KK hK=>?_);have a0:w6.drew.cell? ⟨g+1+1,0,none⟩=some _:=q2w6.cell 0;have a1:w6.drew.frozen? ⟨g+1+1,0,none⟩=false:=q2w6.free 0;go_simp
   obtain⟨w7,hnw⟩:∃ W,W=w6.setCell ⟨g+1+1,0,none⟩ (.bool true):=⟨_,rfl⟩
   have q0w7:Blk w7 g [.string ⟨n.toArray⟩] 9:=by rw[hnw];exact(q0w6.set_other _ (by show g≠g+1+1;omega))
   have q1w7:Blk w7 (g+1) [.int .i64 (at1:Int)] 3:=by rw[hnw];exact(q1w6.set_other _ (by show g+1≠g+1+1;omega))
   have q2w7:Blk w7 (g+1+1) [.bool true] 4:=by rw[hnw];exact(q2w6.set 0 _)
   have hbw7:Below g w w7:=by rw[hnw];exact hbw6.setCell (p:=⟨g+1+1,0,none⟩) (by show g <= g+1+1;omega) _
   have hon:aK (fun q=>g <= q /\ q <= g+2) w6.drew w7.drew:=by rw[hnw];exact(aK.refl _ w6.drew).setCell (p:=⟨g+1+1,0,none⟩) (.inl (by show g <= g+1+1 /\ g+1+1 <= g+2;omega)) _
   rw[<- hnw];refine⟨⟨hon,fun _=>q0w7.cell 0⟩,hK _ _ ?_⟩;clear hK KK hnw hon a0 a1;go_simp;refine aW ?_;clear pg pr;have Q0:=ae q0w7;have Q1:=ae q1w7;have Q2:=ae q2w7;have HB:=ae hbw7;clear q0w7 q1w7 q2w7 hbw7;go_wp2_with fail;refine leaves_cons (f:=229) (args:=#[.pointer (some ⟨g,0,none⟩),.pointer (some ⟨g+1,0,none⟩),.pointer (some ⟨g+1+1,0,none⟩)]) (by simp) (by simp[go_sem]) ?_;refine(m7 _ _ _ w7.drew).mono ?_;rintro e u' w8 ⟨rfl,rfl,hw8⟩;have c0:w8.cell? ⟨g,0,none⟩=some (.string ⟨n.toArray⟩):=by rw[hw8];exact Q0.out.cell 0
   have c1:w8.cell? ⟨g+1,0,none⟩=some (.int .i64 (at1:Int)):=by rw[hw8];exact Q1.out.cell 0
   have c2:w8.cell? ⟨g+1+1,0,none⟩=some (.bool true):=by rw[hw8];exact Q2.out.cell 0
   have Hw8:=ae hw8;clear hw8;simp[Leaves,settle,results,Tryz.results217,go_sem,c0,c1,c2];exact⟨by rw[Hv.out];show _=Value.tuple #[.string ⟨n.toArray⟩,.int .i64 ((b.length - r.length:Nat):Int),.bool true];rw[show b.length - r.length=at1 by have:=Hat.out;omega],by rw[Hg.out,Hw8.out];exact HB.out.drew⟩
theorem m8 (b:List UInt8) (k:Nat):∃ x y z,iA b k=.tuple #[x,y,z]:=by
 unfold iA jW;split
 ·exact⟨_,_,_,rfl⟩
 ·exact⟨_,_,_,rfl⟩
theorem m9 (b:List UInt8) (k:Nat):∃ x y z,jo b k=.tuple #[x,y,z]:=by
 unfold jo oH;split
 ·exact⟨_,_,_,rfl⟩
 ·exact⟨_,_,_,rfl⟩
theorem nf (w:World) (F:aV) (av:Option Addr) (cap:Nat) (b:List UInt8) (k0:Nat) (hB:Bytes F w (.slice av b.length cap) b) (hF:∀ q,F q -> q < w.heap.size) (hk:k0 <= b.length):
 Calls aC 99 #[.slice av b.length cap,.int .i64 (k0:Int)] w fun e w'=>e=.returned (iA b k0) /\ Below w.heap.size w w':=by
 have HR:=ae (qr w F av cap b k0 hB hF hk);obtain⟨x,y,z,hx⟩:=m8 b k0;rw[hx] at HR;rw[hx];clear hx hB hF
 go_enter Tryz.func99,Tryz.ntmps99
 go_wp2_with fail;refine HR.out.mono ?_;rintro e w1 ⟨rfl,hb⟩;clear HR;go_wp2_with fail
 go_ret3
 exact⟨rfl,hb⟩
theorem ro (w:World) (F:aV) (av:Option Addr) (cap:Nat) (b:List UInt8) (k0:Nat) (hB:Bytes F w (.slice av b.length cap) b) (hF:∀ q,F q -> q < w.heap.size) (hk:k0 <= b.length):
 Calls aC 200 #[.slice av b.length cap,.int .i64 (k0:Int)] w fun e w'=>e=.returned (jo b k0) /\ Below w.heap.size w w':=by
 have HR:=ae (qt w F av cap b k0 hB hF hk);obtain⟨x,y,z,hx⟩:=m9 b k0;rw[hx] at HR;rw[hx];clear hx hB hF
 go_enter Tryz.func200,Tryz.ntmps200
 go_wp2_with fail;refine HR.out.mono ?_;rintro e w1 ⟨rfl,hb⟩;clear HR;go_wp2_with fail
 go_ret3
 exact⟨rfl,hb⟩
end
end Go.Proofs.YtobjdpngnfbicaaGreatDoor
