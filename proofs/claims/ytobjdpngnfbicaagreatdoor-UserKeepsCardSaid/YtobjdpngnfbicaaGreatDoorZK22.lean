/-
  J6 J7
-/
import Derived.Test.YtobjdpngnfbicaaGreatDoorZK21
open Go.Lib renaming hid->ae
open Go.IntWalk renaming i64_in->af,i64_quo->ah,u32_in->aj,rem_in->am,u8_in->ap
open Nat renaming le_refl->aq
open List renaming length_cons->aB
open Go.Proofs.Tryz renaming prog->aC
namespace Go.Proofs.YtobjdpngnfbicaaGreatDoor
open Go.RowKit
set_option linter.unusedVariables false
set_option maxRecDepth 20000
section
attribute [local go_sem] opC upC
theorem dW (ws:List (Nat × List UInt8)):∀ M:MD,(aY M ws).1.S.length=M.S.length /\ (aY M ws).1.writes <= M.writes+ws.length:=by
 induction ws with
 | nil=>intro M;exact⟨rfl,aq _⟩
 | cons x ws ih=>
   intro M;obtain⟨a,s⟩:=x;have h1:=ml M a s;unfold aY;split
   ·have h2:=ih (M.wr a s).1;simp only[aB];exact⟨h2.1.trans h1.1,by omega⟩
   ·simp only[aB];exact⟨h1.1,by omega⟩
def fG (dead:Bool) (n:Nat) (f:Int):Int:=if dead then 341 else if 65536 < n then 2 else if f < (takes n:Int) then 7 else 0
theorem gV {dead:Bool} {n:Nat} {f:Int} (h:fG dead n f=0):dead=false /\ n <= 65536 /\ (takes n:Int) <= f:=by
 unfold fG at h;cases dead
 ·by_cases h1:65536 < n
  ·simp[h1] at h
  ·by_cases h2:f < (takes n:Int)
   ·simp[h1,h2] at h
   ·exact⟨rfl,by omega,by omega⟩
 ·simp at h
theorem mn (w:World) (jb kd g taken:Nat) (rv:Value) (dead:Bool) (hj:cM w jb kd g rv taken dead) (F:aV) (v:Value) (l:List UInt8) (hv:Bytes F w v l) (f:Nat) (hf:f <= 65536):
 Calls aC 88 #[.pointer (some ⟨jb,0,none⟩),v,.int .i64 (f:Int)] w fun e w'=>e=.returned (.int .i64 (fG dead l.length (f:Int))) /\ w=w':=by
 obtain⟨a,cap,rfl,hc,hm,-,-⟩:=hv;have c4:=hj.cell 4;simp at c4;cases dead with
 | true=>
   go_enter Tryz.func88,Tryz.ntmps88
   go_wp2_with fail
   go_ret
   exact⟨by simp[fG],rfl⟩
 | false=>
   rcases Nat.lt_or_ge 65536 l.length with hl | hl
   ·have hI:(65536:Int) < (l.length:Int):=by omega
    have hm:fG false l.length (f:Int)=2:=by simp[fG,hl]
    rw[hm]
    go_enter Tryz.func88,Tryz.ntmps88
    go_wp2_with fail
    all_goals
     first
     | omega
     | (go_ret;exact⟨rfl,rfl⟩)
   ·have hI:(l.length:Int) <= 65536:=by omega
    have ht:=gl w l.length (by omega);have htb:takes l.length <= 65536:=by unfold takes;omega
    have hm:fG false l.length (f:Int)=if (f:Int) < (takes l.length:Int) then 7 else 0:=by simp[fG,show ¬ 65536 < l.length by omega]
    rw[hm];clear hm;generalize takes l.length=t at *;have Ht:=ae ht;clear ht
    go_enter Tryz.func88,Tryz.ntmps88
    go_wp2_with fail;refine Ht.out.mono ?_;rintro e w' ⟨rfl,rfl⟩;go_wp2_with fail
    all_goals
     go_ret
     exact⟨eY (by first | rfl | (split <;> omega)),rfl⟩
def dZ (F:aV) (jb:Nat) (w w':World):Prop:=aP F w w' /\ ∀ i,i < 4 -> w'.cell? ⟨jb,i,none⟩=w.cell? ⟨jb,i,none⟩
theorem js (F:aV) (jb:Nat) (w:World):dZ F jb w w:=⟨bH F w,fun _ _=>rfl⟩
theorem iI (F:aV) (jb:Nat) (a b c:World) (h:dZ F jb a b) (k:dZ F jb b c):dZ F jb a c:=⟨bG F a b c h.1 k.1,fun i hi=>(k.2 i hi).trans (h.2 i hi)⟩
theorem dZ.of {F:aV} {w w':World} {jb kd g taken:Nat} {rv:Value} {d d':Bool} (hj:cM w jb kd g rv taken d) (hj':cM w' jb kd g rv taken d') (ho:aP F w w'):dZ F jb w w':=by
 refine⟨ho,fun i hi=>?_⟩;have e1:=hj.cell i;have e2:=hj'.cell i;rw[e1,e2];have:i=0 \/ i=1 \/ i=2 \/ i=3:=by omega
 rcases this with rfl | rfl | rfl | rfl <;> rfl
theorem nI {M:MD} {J:MJ} {l:List UInt8} (ht:aL J.L <= aT M.S.length) (h:fG J.dead l.length ((aT M.S.length - aL J.L:Nat):Int)≠0):
 bt M J l=(M,J,fG J.dead l.length ((aT M.S.length - aL J.L:Nat):Int)):=by
 unfold fG at *;unfold bt
 by_cases h1:J.dead=true
 ·simp[h1]
 ·by_cases h2:65536 < l.length
  ·simp[h1,h2]
  ·by_cases h3:aT M.S.length - aL J.L < takes l.length
   ·simp only[h1,h2,h3];simp;omega
   ·exfalso;apply h;simp only[h1,h2];simp;omega
theorem oZ {M:MD} {J:MJ} {l:List UInt8} (ht:aL J.L <= aT M.S.length) (h:fG J.dead l.length ((aT M.S.length - aL J.L:Nat):Int)=0):
 bt M J l=if (aY M (aO M.S.length J.g J.L.length (aL J.L) l)).2=0 then ((aY M (aO M.S.length J.g J.L.length (aL J.L) l)).1,{ J with L:=J.L ++ [l] },0) else ((aY M (aO M.S.length J.g J.L.length (aL J.L) l)).1,{ J with dead:=true },(aY M (aO M.S.length J.g J.L.length (aL J.L) l)).2):=by
 obtain⟨h1,h2,h3⟩:=gV h;unfold bt;rw[if_neg (by simp[h1]),if_neg (by omega),if_neg (by omega)]
theorem io (w:World) (jk:JK) (M:MD) (J:MJ) (h:JAt w jk M J) (F:aV) (v:Value) (l:List UInt8) (hv:Bytes F w v l) (hF:∀ b,F b -> b < w.heap.size /\ ¬ jk.all b) (h00:¬ jk.all 0) (hq:bQ w) (hw:M.writes+65536 < 4611686018427387904):
 Calls aC 44 #[.pointer (some ⟨jk.j,0,none⟩),v] w fun e w'=>e=.returned (.int .i64 (bt M J l).2.2) /\
  ∃ jk',jk'.j=jk.j /\ jk'.K.d=jk.K.d /\ JAt w' jk' (bt M J l).1 (bt M J l).2.1 /\ (∀ b,jk'.all b -> jk.all b \/ w.heap.size <= b) /\ aK jk.all w w':=by
 obtain⟨jb,K,O⟩:=jk;obtain⟨g,L,dead⟩:=J;have hja:=h;obtain⟨hd,⟨ra,rc,R,hj,hr,hown⟩,⟨hap,hO⟩,h8,hroom,hgen,hlens⟩:=h;dsimp only at *;have hle:=hd.le;have hH:aT M.S.length <= 32768:=by unfold aT;omega
 have htp:=cH l.length;have hLT:=cU L;have hfree:=kj w jb K.d g (.slice ra L.length rc) (aL L) dead K M hj hd rfl (by omega) hroom;have hjlt:=hj.lt;have Hfree:=ae hfree;clear hfree
 by_cases hc:fG dead l.length ((aT M.S.length - aL L:Nat):Int)=0
 ·have hM:=oZ (M:=M) (J:=⟨g,L,dead⟩) hroom hc;obtain⟨hd0,hl0,hfit⟩:=gV hc;subst hd0;dsimp only at hM;have hlw:=dW (aO M.S.length g L.length (aL L) l) M;generalize hwa:aY M (aO M.S.length g L.length (aL L) l)=mw at *;obtain⟨M',r⟩:=mw;dsimp only at hM hlw;have HM:=ae hM;clear hM;have hfit':aL L+takes l.length <= aT M.S.length:=by omega
  have hfb:(aT M.S.length - aL L:Nat) <= 65536:=by omega
  have hLI:(L.length:Int) <= 65536:=by omega
  have Hc:=ae hc;clear hc hfit;generalize hf:(aT M.S.length - aL L:Nat)=f at *;have htI:aL L <= 65536:=by omega
  go_enter Tryz.func44,Tryz.ntmps44
  go_wp2_with fail;refine Hfree.out.mono ?_;rintro e w1 ⟨rfl,n,rfl⟩;have hj1:cM (w.drewN n) jb K.d g (.slice ra L.length rc) (aL L) false:=hj.keep rfl;have hv1:Bytes F (w.drewN n) v l:=hv.keep fun _ _ _=>rfl
  have hd1:bj (w.drewN n) K M:=hd.keep fun _ _=>rfl
  have ho1:aK (cZ K jb) w (w.drewN n):=(aK.refl _ _).drewN n;have hq1:bQ (w.drewN n):=hq;have hs1:(w.drewN n).heap.size=w.heap.size:=rfl;generalize w.drewN n=w1 at *;go_wp2_with fail;refine(mn w1 jb K.d g (aL L) _ false hj1 F v l hv1 f hfb).mono ?_;rintro e w' ⟨rfl,rfl⟩;rw[Hc.out];have hst:=lG w1.drew jb K.d g (aL L) _ K M g L.length (aL L) v l F (hv1.keep fun _ _ _=>rfl) (fun b hb=>⟨by have:=(hF b hb).1;show b < w1.heap.size;omega,fun h=>(hF b hb).2 (by rcases h with h | h;exact .inr (.inl h);exact .inl h)⟩) (fun h=>h00 (by rcases h with h | h;exact .inr (.inl h);exact .inl h)) (hj1.keep rfl) (hd1.keep fun _ _=>rfl) rfl hap hq1 hgen (by omega) hl0 (by omega) hfit' (by omega);rw[hwa] at hst;have Hst:=ae hst;clear hst;have q1:∀ w',dZ (cZ K jb) jb w1.drew w' -> w'.cell? ⟨jb,1,none⟩=some (.int .u32 (g:Int)):=fun w' hh=>(hh.2 1 (by omega)).trans (by simpa using hj1.drew.cell 1)
  have q2:∀ w',dZ (cZ K jb) jb w1.drew w' -> w'.cell? ⟨jb,2,none⟩=some (.slice ra L.length rc):=fun w' hh=>(hh.2 2 (by omega)).trans (by simpa using hj1.drew.cell 2)
  have q3:∀ w',dZ (cZ K jb) jb w1.drew w' -> w'.cell? ⟨jb,3,none⟩=some (.int .i64 (aL L:Int)):=fun w' hh=>(hh.2 3 (by omega)).trans (by simpa using hj1.drew.cell 3)
  have hj1':=hj1.drew;have Hj1':=ae hj1';go_wp2_with fail;clear hj1 hv1 hd1 hj1';refine aJ (dZ (cZ K jb) jb) [(0,true),(1,true),(2,true),(3,true),(4,true),(5,true),(6,true),(7,true),(8,true),(9,true),(10,true),(11,true),(12,true),(13,true),(14,true),(15,false),(16,true)] (by kernel_rfl) (by kernel_rfl) (js _ _) (iI _ _) ?_
  repeat (refine aF (v:=?_) rfl (aD rfl) (fun w' hC=>?_) (fun K hK=>?_);rotate_left;(focus (go_simp;first | done | exact rfl));go_simp;refine hK _ ?_;clear hK K)
  refine aQ rfl rfl (fun KK hK=>?_);go_simp;refine Hst.out.mono ?_;rintro e w3 ⟨rfl,⟨K',hK',hKf,hd3⟩,hj3,ho3⟩;refine⟨_,rfl,dZ.of Hj1'.out hj3 ho3,hK _ _ ?_⟩;clear hK KK q1 q2 q3;go_simp
  repeat (refine aF (v:=?_) rfl (aD rfl) (fun w' hC=>?_) (fun K hK=>?_);rotate_left;(focus (go_simp;first | done | exact rfl));go_simp;refine hK _ ?_;clear hK K)
  refine aW ?_
  have ho3a:aK (cZ K jb) w1 w3:=⟨ho3.os,ho3.tape,ho3.output,ho3.size,ho3.block⟩
  have ho3':aK (cZ K jb) w w3:=ho1.trans ho3a fun i hi=>.inl hi
  have hsz:=ho3'.size
  have hnf:∀ b,O b -> ¬ cZ K jb b:=fun b hb h=>by
   rcases h with h | h
   ·exact(hO b hb).2.1 h
   ·exact(hO b hb).1 h
  have hr3:=hr.only ho3' fun b hb=>hnf b (hown b hb)
  have honly:aK (fun b=>b=jb \/ K.foot b \/ O b) w w3:=ho3'.mono fun b hb=>by
   rcases hb with hb | hb
   ·exact .inr (.inl hb)
   ·exact .inl hb
  by_cases hr0:r=0
  ·subst hr0;have hM:=HM.out;rw[if_pos rfl] at hM;have hj3':cM w3 jb K.d g (.slice ra L.length rc) (aL L) false:=by simpa using hj3
   have hv3:Bytes F w3 v l:=hv.only ho3' fun b hb h=>(hF b hb).2 (by rcases h with h | h;exact .inr (.inl h);exact .inl h)
   have hadd:=mm w3 jb K.d g (aL L) _ false R L hj3' hr3 (fun b hb=>⟨(hO b (hown b hb)).1,by have:=(hO b (hown b hb)).2.2;omega⟩) F v l hv3 hl0 (by omega) htI;have Hadd:=ae hadd;have Hd3:=ae hd3;have Hon:=ae honly;clear hadd hd3 hj3 hj3' hr3 hv3 honly ho3';go_wp2_with fail;refine Hadd.out.mono ?_;rintro e w4 ⟨rfl,ra',rc',R',hj4,hr4,ho4,hown4⟩;go_wp2_with fail
   go_ret
   rw[hM];have hOlt:∀ b,(Value.slice ra L.length rc).ownBlock=some b \/ R b -> O b:=hown
   have hKlt:=hd.lt;refine⟨rfl,⟨jb,K',fun b=>(Value.slice ra' (L.length+1) rc').ownBlock=some b \/ R' b⟩,rfl,hK',?_,?_,?_⟩
   ·refine⟨?_,⟨ra',rc',R',?_,?_,fun b hb=>by simpa using hb⟩,⟨fun hh=>hap (hKf _ hh),fun b hb=>?_⟩,by rw[hlw.1];exact h8,?_,hgen,?_⟩
    ·exact Hd3.out.only ho4 fun b hb h=>by
      rcases h with h | h
      ·exact hap (h ▸ hKf b hb)
      ·exact(hO b (hown b (.inl h))).2.1 (hKf b hb)
    ·rw[dM];rw[hK'];simpa using hj4
    ·simpa using hr4
    ·obtain⟨h1,h2⟩:=hown4 b hb;rcases h1 with h1 | h1
     ·exact⟨(hO b (hown b h1)).1,fun h=>(hO b (hown b h1)).2.1 (hKf b h),h2⟩
     ·exact⟨by show b≠jb;omega,fun h=>by have:=hKlt b (hKf b h);omega,h2⟩
    ·show aL (L ++ [l]) <= aT M'.S.length;rw[dM,hlw.1];exact hfit'
    ·intro b hb;rcases List.mem_append.1 hb with hb | hb
     ·exact hlens b hb
     ·obtain rfl:=List.mem_singleton.1 hb;exact hl0
   ·rintro b (hb | hb | hb)
    ·exact .inl (.inl hb)
    ·exact .inl (.inr (.inl (hKf b hb)))
    ·rcases(hown4 b hb).1 with h1 | h1
     ·exact .inl (.inr (.inr (hown b h1)))
     ·exact .inr (by omega)
   ·exact Hon.out.trans ho4 fun i hi=>.inl (by
     rcases hi with hi | hi
     ·exact .inl hi
     ·exact .inr (.inr (hown i (.inl hi))))
  ·have hM:=HM.out;rw[if_neg hr0] at hM;have hrb:(r != 0)=true:=bne_iff_ne.2 hr0;have Hd3:=ae hd3;have Hj3:=ae hj3;have Hr3:=ae hr3;have Hon:=ae honly;clear hd3 hj3 hr3 honly ho3';go_wp2_with fail
   go_ret
   rw[hM];refine⟨rfl,⟨jb,K',O⟩,rfl,hK',⟨Hd3.out,⟨ra,rc,R,?_,Hr3.out,hown⟩,⟨fun hh=>hap (hKf _ hh),fun b hb=>⟨(hO b hb).1,fun h=>(hO b hb).2.1 (hKf b h),by have:=(hO b hb).2.2;omega⟩⟩,by rw[hlw.1];exact h8,by rw[hlw.1];exact hroom,hgen,hlens⟩,?_,Hon.out⟩
   ·rw[hK'];simpa[hr0] using Hj3.out
   ·rintro b (hb | hb | hb)
    ·exact .inl (.inl hb)
    ·exact .inl (.inr (.inl (hKf b hb)))
    ·exact .inl (.inr (.inr hb))
 ·have hM:=nI (M:=M) (J:=⟨g,L,dead⟩) hroom hc;have hfb:(aT M.S.length - aL L:Nat) <= 65536:=by omega
  dsimp only at hM;have HM:=ae hM;clear hM;generalize hf:(aT M.S.length - aL L:Nat)=f at *;generalize hcm:fG dead l.length (f:Int)=c at *;have hrb:(c != 0)=true:=bne_iff_ne.2 hc
  go_enter Tryz.func44,Tryz.ntmps44
  go_wp2_with fail;refine Hfree.out.mono ?_;rintro e w1 ⟨rfl,n,rfl⟩;go_wp2_with fail;have hcan:=mn (w.drewN n) jb K.d g (aL L) _ dead (hj.keep rfl) F v l (hv.keep fun _ _ _=>rfl) f hfb;rw[hcm] at hcan;refine hcan.mono ?_;rintro e w' ⟨rfl,rfl⟩;clear hcan;go_wp2_with fail
  go_ret
  rw[HM.out];exact⟨rfl,⟨jb,K,O⟩,rfl,rfl,hja.keep (fun _ _=>rfl) (aq _),fun b hb=>.inl hb,(aK.refl _ _).drewN n⟩
end
section
attribute [local go_sem] opC upC
def fQ (n g:Nat):Nat:=if g < 4294967295 then aT n else 0
theorem mp {M:MD} {J:MJ} {l:List UInt8} (h:fG J.dead l.length (fQ M.S.length J.g:Nat)≠0):
 bD M J l=(M,J,fG J.dead l.length (fQ M.S.length J.g:Nat)):=by
 unfold fG fQ at *;unfold bD;have htp:=cH l.length
 by_cases h1:J.dead=true
 ·simp[h1]
 ·by_cases h2:65536 < l.length
  ·simp[h1,h2]
  ·by_cases h3:aT M.S.length < takes l.length \/ 4294967295 <= J.g
   ·simp only[h1,h2,h3];simp
    by_cases hg:J.g < 4294967295
    ·rw[if_pos hg];omega
    ·rw[if_neg hg];omega
   ·exfalso;apply h;simp only[h1,h2];simp;split <;> omega
def bE (n g:Nat) (l:List UInt8):List (Nat × List UInt8):=aO n (g+1) 0 0 l ++ [((g+1) % 2,bZ (g+1))]
theorem nJ {M:MD} {J:MJ} {l:List UInt8} (h:fG J.dead l.length (fQ M.S.length J.g:Nat)=0):
 J.g < 4294967295 /\ takes l.length <= aT M.S.length /\ bD M J l=if (aY M (bE M.S.length J.g l)).2=0 then ((aY M (bE M.S.length J.g l)).1,⟨J.g+1,[l],false⟩,0) else ((aY M (bE M.S.length J.g l)).1,{ J with dead:=true },(aY M (bE M.S.length J.g l)).2):=by
 obtain⟨h1,h2,h3⟩:=gV h;have htp:=cH l.length;unfold fQ at h3
 have hg:J.g < 4294967295:=by
  by_cases hg:J.g < 4294967295
  ·exact hg
  ·rw[if_neg hg] at h3;omega
 rw[if_pos hg] at h3;refine⟨hg,by omega,?_⟩;unfold bD bE;rw[if_neg (by simp[h1]),if_neg (by omega),if_neg (by omega)]
set_option maxHeartbeats 1000000 in
theorem jt (w:World) (jk:JK) (M:MD) (J:MJ) (h:JAt w jk M J) (F:aV) (v:Value) (l:List UInt8) (hv:Bytes F w v l) (hF:∀ b,F b -> b < w.heap.size /\ ¬ jk.all b) (h00:¬ jk.all 0) (hq:bQ w) (hw:M.writes+65536 < 4611686018427387904):
 Calls aC 82 #[.pointer (some ⟨jk.j,0,none⟩),v] w fun e w'=>e=.returned (.int .i64 (bD M J l).2.2) /\
  ∃ jk',jk'.j=jk.j /\ jk'.K.d=jk.K.d /\ JAt w' jk' (bD M J l).1 (bD M J l).2.1 /\ (∀ b,jk'.all b -> jk.all b \/ w.heap.size <= b) /\ aK jk.all w w':=by
 obtain⟨jb,K,O⟩:=jk;obtain⟨g,L,dead⟩:=J;have hja:=h;obtain⟨hd,⟨ra,rc,R,hj,hr,hown⟩,⟨hap,hO⟩,h8,hroom,hgen,hlens⟩:=h;dsimp only at *;have hle:=hd.le;have hH:aT M.S.length <= 32768:=by unfold aT;omega
 have htp:=cH l.length;have hjlt:=hj.lt;have hhalf:=iG w jb K.d g (.slice ra L.length rc) (aL L) dead K M hj hd rfl (by omega);have Hhalf:=ae hhalf;clear hhalf;have c1:=hj.cell 1;simp at c1;have hroomE:∀ x:Int,x=(fQ M.S.length g:Nat) -> fG dead l.length x=fG dead l.length (fQ M.S.length g:Nat):=fun x hx=>by rw[hx]
 have hcan:∀ f:Nat,f=fQ M.S.length g -> Calls aC 88 #[.pointer (some ⟨jb,0,none⟩),v,.int .i64 (f:Int)] w fun e w'=>e=.returned (.int .i64 (fG dead l.length (fQ M.S.length g:Nat))) /\ w=w':=fun f hf=>by
  subst hf;exact mn w jb K.d g (aL L) _ dead hj F v l hv _ (by unfold fQ;split <;> omega)
 by_cases hc:fG dead l.length (fQ M.S.length g:Nat)=0
 ·obtain⟨hg1,hfit,hM⟩:=nJ (M:=M) (J:=⟨g,L,dead⟩) hc;obtain⟨hd0,hl0,-⟩:=gV hc;subst hd0;dsimp only at hM hg1;have hcan1:=hcan (aT M.S.length) (by unfold fQ;rw[if_pos hg1]);rw[hc] at hcan1;have Hcan:=ae hcan1;clear hcan1 hcan hroomE hc;have hgI:(g:Int) < 4294967295:=by omega
  have hlw:=dW (aO M.S.length (g+1) 0 0 l) M;have hwl0:=dW (bE M.S.length g l) M;have hsn:=fo M (aO M.S.length (g+1) 0 0 l) [((g+1) % 2,bZ (g+1))];change aY M (bE M.S.length g l)=_ at hsn;have hplen:(aO M.S.length (g+1) 0 0 l).length <= 32768:=by simp[aO];omega
  have hst:=lG w jb K.d g (aL L) _ K M (g+1) 0 0 v l F hv (fun b hb=>⟨(hF b hb).1,fun h=>(hF b hb).2 (by rcases h with h | h;exact .inr (.inl h);exact .inl h)⟩) (fun h=>h00 (by rcases h with h | h;exact .inr (.inl h);exact .inl h)) hj hd rfl hap hq (by omega) (by omega) hl0 (by omega) (by omega) (by omega);generalize aY M (bE M.S.length g l)=mr at *;generalize hwa:aY M (aO M.S.length (g+1) 0 0 l)=mw at *;obtain⟨M',r⟩:=mw;dsimp only at hlw hsn hst;rw[show ((g+1:Nat):Int)=(g:Int)+1 by omega] at hst;have Hst:=ae hst;have HM:=ae hM;have Hsn:=ae hsn;clear hst hM hsn hwa;generalize hHe:aT M.S.length=H at *;have hHI:(H:Int) <= 32768:=by omega
  have hw1:=aj ((g:Int)+1) (by omega);have hw2:=am ((g:Int)+1) 2 (by omega);have hw3:=aj (((g:Int)+1) % 2) (by omega);have hw4:=af (((g:Int)+1) % 2) (by omega)
  go_enter Tryz.func82,Tryz.ntmps82
  go_wp2_with fail;refine Hhalf.out.mono ?_;rintro e w' ⟨rfl,rfl⟩;go_wp2_with fail;refine Hcan.out.mono ?_;rintro e w' ⟨rfl,rfl⟩;go_wp2_with fail;refine Hst.out.mono ?_;rintro e w3 ⟨rfl,⟨K',hK',hKf,hd3⟩,hj3,ho3⟩;have hsz:=ho3.size
  have hnf:∀ b,O b -> ¬ cZ K jb b:=fun b hb h=>by
   rcases h with h | h
   ·exact(hO b hb).2.1 h
   ·exact(hO b hb).1 h
  have hr3:=hr.only ho3 fun b hb=>hnf b (hown b hb)
  have honly:aK (fun b=>b=jb \/ K.foot b \/ O b) w w3:=ho3.mono fun b hb=>by
   rcases hb with hb | hb
   ·exact .inr (.inl hb)
   ·exact .inl hb
  by_cases hr0:r=0
  ·subst hr0;have hM:=HM.out;have hsn:=Hsn.out;rw[if_pos rfl] at hsn;have hone:aY M' [((g+1) % 2,bZ (g+1))]=M'.wr ((g+1) % 2) (bZ (g+1)):=e7 M' [] _ _ rfl;rw[hone] at hsn;have hj3':cM w3 jb K.d g (.slice ra L.length rc) (aL L) false:=by simpa using hj3
   have hv3:Bytes F w3 v l:=hv.only ho3 fun b hb h=>(hF b hb).2 (by rcases h with h | h;exact .inr (.inl h);exact .inl h)
   have hq3:bQ w3:=hq.keep (ho3.block 0 (by obtain⟨t,fz,hh⟩:=hq;exact lt_of_block hh) fun h=>h00 (by rcases h with h | h;exact .inr (.inl h);exact .inl h));have h0lt:0 < w.heap.size:=by obtain⟨t,fz,hh⟩:=hq;exact lt_of_block hh
   have hhead:=nH w3.drew hq3 (by show 0 < w3.heap.size;omega) (g+1) (by omega);have hjd:=hj3'.drew;have hdd:bj w3.drew K' M':=hd3.keep fun _ _=>rfl
   have hvd:Bytes F w3.drew v l:=hv3.keep fun _ _ _=>rfl
   have hrd:bX R w3.drew 0 (.slice ra L.length rc) L:=hr3.keep fun _ _ _=>rfl
   have hod:aK (fun b=>b=jb \/ K.foot b \/ O b) w w3.drew:=honly.drew
   have hjf':∀ b,cZ K' jb b -> b < w3.heap.size:=fun b hb=>by
    rcases hb with hb | hb
    ·exact hd3.lt b hb
    ·rw[hb];exact hj3'.lt
   have hq1:∀ w',dZ (cZ K' jb) jb w3.drew w' -> w'.cell? ⟨jb,1,none⟩=some (.int .u32 (g:Int)):=fun w' hh=>(hh.2 1 (by omega)).trans (by simpa using hjd.cell 1)
   rw[show ((g+1:Nat):Int)=(g:Int)+1 by omega] at hhead;have Hhead:=ae hhead;have Hj3:=ae hjd;have Hd3:=ae hdd;have Hv3:=ae hvd;have Hr3:=ae hrd;have Hon:=ae hod;clear hhead hjd hdd hvd hrd hod hj3 hj3' hd3 hv3 hq3 hr3 honly c1;go_wp2_with fail;refine aJ (dZ (cZ K' jb) jb) [(0,true),(1,true),(2,true),(3,true),(4,true),(5,true),(6,true),(7,true),(8,true),(9,true),(10,true),(11,true),(12,true),(13,false),(14,false),(15,true)] (by kernel_rfl) (by kernel_rfl) (js _ _) (iI _ _) ?_
   repeat (refine aF (v:=?_) rfl (aD rfl) (fun w' hC=>?_) (fun K hK=>?_);rotate_left;(focus (go_simp;(try simp(disch:=omega) only[af]);(try simp(disch:=omega) only[aj]);(try simp(disch:=omega) only[ap]);(try simp(disch:=omega) only[ah]);(try simp(disch:=omega) only[am]);first | done | exact rfl));go_simp;(try simp(disch:=omega) only[af]);(try simp(disch:=omega) only[aj]);(try simp(disch:=omega) only[ap]);(try simp(disch:=omega) only[ah]);(try simp(disch:=omega) only[am]);refine hK _ ?_;clear hK K)
   refine aQ rfl rfl (fun KK hK=>?_);go_simp;refine Hhead.out.mono ?_;rintro e w4 ⟨sb,rfl,hsb,hsec,hb4⟩;have hj4:cM w4 jb K.d g (.slice ra L.length rc) (aL L) false:=Blk.keep Hj3.out (hb4.block jb (Blk.lt Hj3.out));refine⟨_,rfl,dZ.of Hj3.out hj4 (aP.of_below hb4),hK _ _ ?_⟩;clear hK KK;go_simp;have hd4:bj w4 K' M':=Hd3.out.kept hb4;have hwr:=ko w4 jb K.d g _ (aL L) false K' M' hj4 hd4 hK' (fun h=>hap (hKf _ h)) ((g+1) % 2) (by omega) (by omega) sb _ hsec (fun h=>by have:=hjf' sb (.inl h);have:w3.heap.size <= sb:=hsb;omega);rw[show (((g+1) % 2:Nat):Int)=((g:Int)+1) % 2 by omega] at hwr;generalize M'.wr ((g+1) % 2) (bZ (g+1))=mq at *;obtain⟨M5,r⟩:=mq;dsimp only at hwr;subst hsn;dsimp only at hM hwl0;have Hwr:=ae hwr;clear hwr
   repeat (refine aF (v:=?_) rfl (aD rfl) (fun w' hC=>?_) (fun K hK=>?_);rotate_left;(focus (go_simp;(try simp(disch:=omega) only[af]);(try simp(disch:=omega) only[aj]);(try simp(disch:=omega) only[ap]);(try simp(disch:=omega) only[ah]);(try simp(disch:=omega) only[am]);first | done | exact rfl));go_simp;(try simp(disch:=omega) only[af]);(try simp(disch:=omega) only[aj]);(try simp(disch:=omega) only[ap]);(try simp(disch:=omega) only[ah]);(try simp(disch:=omega) only[am]);refine hK _ ?_;clear hK K)
   refine aQ rfl rfl (fun KK hK=>?_);go_simp;refine Hwr.out.mono ?_;rintro e w5 ⟨rfl,⟨K5,hK5,hKf5,hd5⟩,hj5,ho5,hs5⟩;have h45:dZ (cZ K' jb) jb w4 w5:=dZ.of hj4 hj5 ho5;refine⟨_,rfl,h45,hK _ _ ?_⟩;clear hK KK hq1;go_simp
   repeat (refine aF (v:=?_) rfl (aD rfl) (fun w' hC=>?_) (fun K hK=>?_);rotate_left;(focus (go_simp;first | done | exact rfl));go_simp;refine hK _ ?_;clear hK K)
   refine aW ?_;have hv5:Bytes F w5 v l:=(Bytes.keep Hv3.out (w':=w4) (fun b hb _=>hb4.block b (by have:=(hF b hb).1;show b < w3.heap.size;omega))).only ho5 fun b hb h=>(hF b hb).2 (by rcases h with h | h;exact .inr (.inl (hKf b h));exact .inl h)
   have hr5:=(Hr3.out.kept hb4).only ho5 fun b hb h=>hnf b (hown b hb) (h.imp (hKf b) id)
   have hon5:aK (fun b=>b=jb \/ K.foot b \/ O b) w w5:=(Hon.out.trans (aK.of_below (F:=none_) hb4) (fun i hi=>hi.elim)).trans ho5 fun i hi=>.inl (by
    rcases hi with hi | hi
    ·exact .inr (.inl (hKf i hi))
    ·exact .inl hi)
   have hsz5:=hon5.size
   by_cases hr0:r=0
   ·subst hr0;rw[if_pos rfl] at hM;have HM2:=ae hM;clear hM;have hj5':cM w5 jb K.d g (.slice ra L.length rc) (aL L) false:=by simpa using hj5
    have c1:=hj5'.cell 1;have c2:=hj5'.cell 2;have c3:=hj5'.cell 3;have f1:=hj5'.free 1;have f2:=hj5'.free 2;have f3:=hj5'.free 3;simp at c1 c2 c3
    have hj6:cM (((w5.setCell ⟨jb,1,none⟩ (.int .u32 ((g:Int)+1))).setCell ⟨jb,2,none⟩ (.slice none 0 0)).setCell ⟨jb,3,none⟩ (.int .i64 0)) jb K.d (g+1) (.slice none 0 0) 0 false:=by
     have:=((hj5'.set 1 (.int .u32 ((g:Int)+1))).set 2 (.slice none 0 0)).set 3 (.int .i64 0);simpa[cM] using this
    have hone6:∀ {G:aV} {a:World},G jb -> aK G a w5 -> aK G a (((w5.setCell ⟨jb,1,none⟩ (.int .u32 ((g:Int)+1))).setCell ⟨jb,2,none⟩ (.slice none 0 0)).setCell ⟨jb,3,none⟩ (.int .i64 0)):=fun hG ho=>((ho.setCell (.inl hG) _).setCell (.inl hG) _).setCell (.inl hG) _
    have ho6:aK (fun b=>b=jb) w5 (((w5.setCell ⟨jb,1,none⟩ (.int .u32 ((g:Int)+1))).setCell ⟨jb,2,none⟩ (.slice none 0 0)).setCell ⟨jb,3,none⟩ (.int .i64 0)):=hone6 rfl (aK.refl _ _);have hon6:=hone6 (.inl rfl) hon5;have hd6:=hd5.only ho6 fun b hb e=>hap (e ▸ hKf b (hKf5 b hb))
    have hv6:=hv5.only ho6 fun b hb e=>(hF b hb).2 (.inl e)
    have hadd:=mm _ jb K.d (g+1) 0 _ false none_ [] hj6 (bX.nil _ 0) (fun b hb=>by rcases hb with hb | hb;exact absurd hb (by simp[Value.ownBlock]);exact hb.elim) F v l hv6 hl0 (by simp) (by omega);have Hadd:=ae hadd;have Hon6:=ae hon6;have Hd6:=ae hd6;have hs6:=hon6.size;clear hadd hon6 hd6 hone6 ho6 hv6 hj6 hon5 hr5 hv5 hd5 hj5 hj5' h45 ho5 hd4 hsec hb4 hj4 hgI hw2 hw3 hw4;go_wp2_with fail;refine Hadd.out.mono ?_;rintro e w7 ⟨rfl,ra',rc',R',hj7,hr7,ho7,hown7⟩;go_wp2_with fail
    go_ret
    rw[HM2.out];have hKlt:=hd.lt;refine⟨rfl,⟨jb,K5,fun b=>(Value.slice ra' (([]:List (List UInt8)).length+1) rc').ownBlock=some b \/ R' b⟩,rfl,hK5,?_,?_,?_⟩
    ·refine⟨?_,⟨ra',rc',R',?_,?_,fun b hb=>by simpa using hb⟩,⟨fun hh=>hap (hKf _ (hKf5 _ hh)),fun b hb=>?_⟩,by rw[hwl0.1];exact h8,?_,by show g+1 < _;omega,?_⟩
     ·exact Hd6.out.only ho7 fun b hb h=>by
       rcases h with h | h
       ·exact hap (h ▸ hKf b (hKf5 b hb))
       ·simp[Value.ownBlock] at h
     ·rw[hK5];simpa[aL] using hj7
     ·simpa using hr7
     ·obtain⟨h1,h2⟩:=hown7 b hb
      have h1':w.heap.size <= b:=by
       rcases h1 with h1 | h1
       ·rcases h1 with h1 | h1
        ·simp[Value.ownBlock] at h1
        ·exact h1.elim
       ·omega
      exact⟨by show b≠jb;omega,fun h=>by have:=hKlt b (hKf b (hKf5 b h));omega,h2⟩
     ·show aL [l] <= aT M5.S.length;rw[hwl0.1];simp[aL];omega
     ·intro b hb;obtain rfl:=List.mem_singleton.1 hb;exact hl0
    ·rintro b (hb | hb | hb)
     ·exact .inl (.inl hb)
     ·exact .inl (.inr (.inl (hKf b (hKf5 b hb))))
     ·rcases(hown7 b hb).1 with h1 | h1
      ·rcases h1 with h1 | h1
       ·simp[Value.ownBlock] at h1
       ·exact h1.elim
      ·exact .inr (by omega)
    ·exact Hon6.out.trans ho7 fun i hi=>.inl (by
      rcases hi with hi | hi
      ·exact .inl hi
      ·simp[Value.ownBlock] at hi)
   ·rw[if_neg hr0] at hM;have HM2:=ae hM;clear hM;have hrb:(r != 0)=true:=bne_iff_ne.2 hr0;have Hd5:=ae hd5;have Hj5:=ae hj5;have Hr5:=ae hr5;have Hon5:=ae hon5;clear hd5 hj5 hr5 hon5 hv5 h45 ho5 hd4 hsec hb4 hj4;go_wp2_with fail
    go_ret
    rw[HM2.out];refine⟨rfl,⟨jb,K5,O⟩,rfl,hK5,⟨Hd5.out,⟨ra,rc,R,?_,Hr5.out,hown⟩,⟨fun hh=>hap (hKf _ (hKf5 _ hh)),fun b hb=>⟨(hO b hb).1,fun h=>(hO b hb).2.1 (hKf b (hKf5 b h)),by have:=(hO b hb).2.2;omega⟩⟩,by rw[hwl0.1];exact h8,?_,hgen,hlens⟩,?_,Hon5.out⟩
    ·rw[hK5];simpa[hr0] using Hj5.out
    ·show aL L <= aT M5.S.length;rw[hwl0.1];omega
    ·rintro b (hb | hb | hb)
     ·exact .inl (.inl hb)
     ·exact .inl (.inr (.inl (hKf b (hKf5 b hb))))
     ·exact .inl (.inr (.inr hb))
  ·have hM:=HM.out;have hsn:=Hsn.out;rw[if_neg hr0] at hsn;subst hsn;dsimp only at hM;rw[if_neg hr0] at hM;have hrb:(r != 0)=true:=bne_iff_ne.2 hr0;have Hd3:=ae hd3;have Hj3:=ae hj3;have Hr3:=ae hr3;have Hon:=ae honly;clear hd3 hj3 hr3 honly c1;go_wp2_with fail
   go_ret
   rw[hM];refine⟨rfl,⟨jb,K',O⟩,rfl,hK',⟨Hd3.out,⟨ra,rc,R,?_,Hr3.out,hown⟩,⟨fun hh=>hap (hKf _ hh),fun b hb=>⟨(hO b hb).1,fun h=>(hO b hb).2.1 (hKf b h),by have:=(hO b hb).2.2;omega⟩⟩,by rw[hlw.1];exact h8,?_,hgen,hlens⟩,?_,Hon.out⟩
   ·rw[hK'];simpa[hr0] using Hj3.out
   ·show aL L <= aT M'.S.length;rw[hlw.1];omega
   ·rintro b (hb | hb | hb)
    ·exact .inl (.inl hb)
    ·exact .inl (.inr (.inl (hKf b hb)))
    ·exact .inl (.inr (.inr hb))
 ·have hM:=mp (M:=M) (J:=⟨g,L,dead⟩) hc;dsimp only at hM;have HM:=ae hM;clear hM;have hrn:fQ M.S.length g=if g < 4294967295 then aT M.S.length else 0:=rfl
  generalize hcm:fG dead l.length (fQ M.S.length g:Nat)=c at *;have hrb:(c != 0)=true:=bne_iff_ne.2 hc
  by_cases hg1:g < 4294967295
  ·have hcan1:=hcan (aT M.S.length) (by rw[hrn,if_pos hg1]);have Hcan:=ae hcan1;have hgI:(g:Int) < 4294967295:=by omega
   clear hcan1 hcan hrn;generalize aT M.S.length=H at *
   go_enter Tryz.func82,Tryz.ntmps82
   go_wp2_with fail;refine Hhalf.out.mono ?_;rintro e w' ⟨rfl,rfl⟩;go_wp2_with fail;refine Hcan.out.mono ?_;rintro e w' ⟨rfl,rfl⟩;go_wp2_with fail
   go_ret
   rw[HM.out];exact⟨rfl,⟨jb,K,O⟩,rfl,rfl,hja,fun b hb=>.inl hb,aK.refl _ _⟩
  ·have hcan1:=hcan 0 (by rw[hrn,if_neg hg1]);have Hcan:=ae hcan1;have hgI:¬ ((g:Int) < 4294967295):=by omega
   clear hcan1 hcan hrn
   go_enter Tryz.func82,Tryz.ntmps82
   go_wp2_with fail;refine Hcan.out.mono ?_;rintro e w' ⟨rfl,rfl⟩;go_wp2_with fail
   go_ret
   rw[HM.out];exact⟨rfl,⟨jb,K,O⟩,rfl,rfl,hja,fun b hb=>.inl hb,aK.refl _ _⟩
end
end Go.Proofs.YtobjdpngnfbicaaGreatDoor
