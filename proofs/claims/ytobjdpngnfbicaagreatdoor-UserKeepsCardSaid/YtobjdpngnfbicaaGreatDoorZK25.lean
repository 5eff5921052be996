/-
  J11
-/
import Derived.Test.YtobjdpngnfbicaaGreatDoorZK24
import Derived.Test.YtobjdpngnfbicaaGreatDoorZK23
open Go.Lib renaming hid->ae
open Go.IntWalk renaming i64_in->af,u32_in->aj
open Nat renaming le_refl->aq
open Go.Proofs.Tryz renaming prog->aC
namespace Go.Proofs.YtobjdpngnfbicaaGreatDoor
open Go.RowKit
set_option linter.unusedVariables false
set_option maxRecDepth 20000
attribute [local go_sem ↓] bq
attribute [local go_sem] opC upC
theorem SecAt.bytes12 {w:World} {sb:Nat} {l:List UInt8} (h:SecAt w sb l):Bytes (fun b=>b=sb) w (.slice (some ⟨sb,12,none⟩) 48 52) ((l.drop 12).take 48):=by
 obtain⟨hb,hl⟩:=h;have hlen:((l.drop 12).take 48).length=48:=by simp;omega
 refine⟨some ⟨sb,12,none⟩,52,by rw[hlen],by omega,by unfold maxLen;omega,nofun,.inr ⟨sb,12,(l.map B).toArray,137,(0,0),rfl,rfl,hb,by simp;omega,fun i hi=>?_⟩⟩;rw[hlen] at hi;simp[List.getElem?_eq_getElem (show 12+i < l.length by omega)]
def NextPost (w:World) (r:Option (List UInt8)) (e:Ending) (w':World):Prop:=
 (match r with
  | none=>e=.returned (.tuple #[.slice none 0 0,.bool false])
  | some b=>∃ v,e=.returned (.tuple #[v,.bool true]) /\ Bytes (fun q=>w.heap.size <= q /\ q < w'.heap.size) w' v b /\ b.length <= 65536) /\ Below w.heap.size w w'
theorem owns_kept {w w':World} {lo:Nat} {e:TypeId} {size n:Nat} {v:Value} {xs:List Value} (h:w.ownsRow lo e size v n xs) (hb:Below w.heap.size w w'):w'.ownsRow lo e size v n xs:=by
 refine lH h fun g hg=>hb.block g ?_
 rcases h.2 with ⟨rfl,_⟩ | ⟨g',cap,cur,rfl,_,hb',_⟩
 ·cases hg
 ·simp[Value.ownBlock] at hg;subst hg;exact lt_of_block hb'
theorem Bytes.take {F:aV} {w:World} {a:Option Addr} {cap:Nat} {l:List UInt8} (h:Bytes F w (.slice a l.length cap) l) (n:Nat) (hn:n <= l.length):Bytes F w (.slice a n cap) (l.take n):=by
 obtain⟨a',cap',he,hc,hm,hz,hx⟩:=h;simp at he;obtain⟨rfl,rfl⟩:=he;have hl:(l.take n).length=n:=by simp;omega
 refine⟨a,cap,by rw[hl],by omega,hm,hz,?_⟩;rcases hx with rfl | ⟨b,off,L,t,fz,rfl,hF,hg,hle,hr⟩
 ·exact .inl (by simp)
 ·refine .inr ⟨b,off,L,t,fz,rfl,hF,hg,by omega,fun i hi=>?_⟩;rw[hl] at hi;rw[List.getElem_take];exact hr i (by omega)
def NextRel (w:World) (S:List (List UInt8)) (g k p n T:Nat) (v i:Value) (wr:World):Prop:=
 ∃ m:Nat,m <= T /\ i=.int .i64 (m:Int) /\ cE S g k p n m=true /\ wr.ownsRow w.heap.size 5 1 v (dD S g p m).length ((dD S g p m).map B) /\ Below w.heap.size w wr
set_option maxHeartbeats 4000000 in
theorem next_any (w:World) (jb kd g taken k:Nat) (ra:Option Addr) (rc:Nat) (dead:Bool) (K:DK) (M:MD) (hj:cM w jb kd g (.slice ra k rc) taken dead) (hd:bj w K M) (hK:K.d=kd) (hq:bQ w) (hdn:M.down=false) (h8:8 <= M.S.length) (hg:g < 4294967296) (hk:k <= 65536) (ht:taken <= 65536) (h0:0 < w.heap.size):
 Calls aC 97 #[.pointer (some ⟨jb,0,none⟩)] w (NextPost w (cC M.S g k taken)):=by
 have hle:=hd.le;have hH:aT M.S.length <= 32768:=by unfold aT;omega
 have hjlt:=Blk.lt hj
 obtain⟨H,hHe⟩:∃ H,aT M.S.length=H:=⟨_,rfl⟩
 have hqq:∀ {w'},Below w.heap.size w w' -> bQ w':=fun hb=>hq.keep (hb.block 0 h0)
 have hjj:∀ {w'},Below w.heap.size w w' -> cM w' jb kd g (.slice ra k rc) taken dead:=fun hb=>Blk.keep hj (hb.block jb hjlt)
 have hdd:∀ {w'},Below w.heap.size w w' -> bj w' K M:=fun hb=>hd.kept hb
 have q1':∀ w0:World,Below w.heap.size w w0 -> ∀ w',aI w0.drew w' -> w'.cell? ⟨jb,1,none⟩=some (.int .u32 (g:Int)):=fun w0 hb w' hh=>gE (by simpa using (hjj hb).cell 1) hh
 have q2':∀ w0:World,Below w.heap.size w w0 -> ∀ w',aI w0.drew w' -> w'.cell? ⟨jb,2,none⟩=some (.slice ra k rc):=fun w0 hb w' hh=>gE (by simpa using (hjj hb).cell 2) hh
 have q3':∀ w0:World,Below w.heap.size w w0 -> ∀ w',aI w0.drew w' -> w'.cell? ⟨jb,3,none⟩=some (.int .i64 (taken:Int)):=fun w0 hb w' hh=>gE (by simpa using (hjj hb).cell 3) hh
 have HHe:=ae hHe;rw[hHe] at hH;have b0:Below w.heap.size w w.drew:=(Below.refl _ _).drew
 have Hhalf:∀ w0,Below w.heap.size w w0 -> RowKit.Hid (Calls aC 139 #[.pointer (some ⟨jb,0,none⟩)] w0 fun e w'=>e=.returned (.int .i64 (H:Int)) /\ w0=w'):=fun w0 hb=>by
  have:=iG w0 jb kd g _ taken dead K M (hjj hb) (hdd hb) hK (by omega);rw[hHe] at this;exact ae this
 have Hj:=ae hj;have Hd:=ae hd;have Q1:=ae q1';have Q2:=ae q2';have Q3:=ae q3';clear hHe hj hd q1' q2' q3';have hHI:(H:Int) <= 32768:=by omega
 have htI:(taken:Int) <= 65536:=by omega
 have hkI:(k:Int) <= 65536:=by omega
 go_enter Tryz.func97,Tryz.ntmps97
 go_wp2_with fail;have q3:=Q3.out w (Below.refl _ _);refine aJ aI [(0,true),(1,true),(2,true),(3,true),(4,true),(5,false),(6,true)] (by kernel_rfl) (by kernel_rfl) aH aG ?_
 repeat (refine aF (v:=?_) rfl (aD rfl) (fun w' hC=>?_) (fun K hK=>?_);rotate_left;(focus (go_simp;first | done | exact rfl));go_simp;refine hK _ ?_;clear hK K)
 refine aQ rfl rfl (fun KK hK=>?_);go_simp;refine(Hhalf w.drew b0).out.mono ?_;rintro e w' ⟨rfl,rfl⟩;refine⟨_,rfl,aH _,hK _ _ ?_⟩;clear hK KK;go_simp
 repeat (refine aF (v:=?_) rfl (aD rfl) (fun w' hC=>?_) (fun K hK=>?_);rotate_left;(focus (go_simp;first | done | exact rfl));go_simp;refine hK _ ?_;clear hK K)
 refine aW ?_;clear q3
 by_cases hT:H <= taken
 ·have hTI:(H:Int) <= (taken:Int):=by omega
  have hr:cC M.S g k taken=none:=by unfold cC;rw[HHe.out,if_pos hT]
  have Hr:=ae hr;clear hr;go_wp2_with fail;go_ret2;rw[Hr.out];exact⟨rfl,b0⟩
 ·have hTI:¬ (H:Int) <= (taken:Int):=by omega
  have hpl:bT M.S.length g taken < M.S.length:=eu _ _ _ (by rw[HHe.out];omega)
  obtain⟨wA,hwA⟩:∃ wA,wA=w.drew:=⟨_,rfl⟩
  rw[<- hwA] at b0 ⊢;clear hwA;have bA:Below w.heap.size w wA.drew:=b0.drew;have hplace:=iX wA.drew jb kd g _ taken dead K M (hjj bA) (hdd bA) hK (by omega) g taken ht;have hread:=i5 wA.drew jb kd g taken _ dead K M (hjj bA) (hdd bA) hK _ hpl hdn
  obtain⟨sl,hsl⟩:∃ sl,bU M.S g taken=sl:=⟨_,rfl⟩
  rw[show M.S.getD (bT M.S.length g taken) []=sl from hsl] at hread;have Hplace:=ae hplace;have Hread:=ae hread;have Hsl:=ae hsl;clear hplace hread hsl hpl;go_wp2_with fail;have q1:=Q1.out wA b0;have q3:=Q3.out wA b0;refine aJ aI [(0,true),(1,true),(2,true),(3,true),(4,true),(5,true),(6,true),(7,true),(8,true),(9,true),(10,false),(11,false),(12,false),(13,true)] (by kernel_rfl) (by kernel_rfl) aH aG ?_
  repeat (refine aF (v:=?_) rfl (aD rfl) (fun w' hC=>?_) (fun K hK=>?_);rotate_left;(focus (go_simp;first | done | exact rfl));go_simp;refine hK _ ?_;clear hK K)
  refine aQ rfl rfl (fun KK hK=>?_);go_simp;refine Hplace.out.mono ?_;rintro e w' ⟨rfl,rfl⟩;refine⟨_,rfl,aH _,hK _ _ ?_⟩;clear hK KK;go_simp
  repeat (refine aF (v:=?_) rfl (aD rfl) (fun w' hC=>?_) (fun K hK=>?_);rotate_left;(focus (go_simp;first | done | exact rfl));go_simp;refine hK _ ?_;clear hK K)
  refine aQ rfl rfl (fun KK hK=>?_);go_simp;refine Hread.out.mono ?_;rintro e w3 ⟨sb,rfl,hsb,hsec,hb3⟩;refine⟨_,rfl,hb3,hK _ _ ?_⟩;clear hK KK;go_simp
  repeat (refine aF (v:=?_) rfl (aD rfl) (fun w' hC=>?_) (fun K hK=>?_);rotate_left;(focus (go_simp;first | done | exact rfl));go_simp;refine hK _ ?_;clear hK K)
  refine aQ rfl rfl (fun KK hK=>?_);go_simp;refine(dp w3 sb _ hsec 8 (by omega)).mono ?_;rintro e w' ⟨rfl,rfl⟩;refine⟨_,rfl,aH _,hK _ _ ?_⟩;clear hK KK;go_simp
  repeat (refine aF (v:=?_) rfl (aD rfl) (fun w' hC=>?_) (fun K hK=>?_);rotate_left;(focus (go_simp;first | done | exact rfl));go_simp;refine hK _ ?_;clear hK K)
  refine aW ?_;clear q1 q3;have b3:Below w.heap.size w w3:=bA.trans (hb3.mono bA.size)
  have hrec:cC M.S g k taken=if 65536 < bp sl 8 \/ H < taken+takes (bp sl 8) then none else
   if cE M.S g k taken (bp sl 8) (takes (bp sl 8)) then some ((dD M.S g taken (takes (bp sl 8))).take (bp sl 8)) else none:=by
   unfold cC;rw[HHe.out,if_neg hT,Hsl.out]
  have hn32:bp sl 8 < 4294967296:=jU _ _;generalize bp sl 8=n at *;have Hrec:=ae hrec;clear hrec hsec hb3 hsb
  by_cases hn:65536 < n
  ·have hnI:(65536:Int) < (n:Int):=by omega
   have hnD:decide ((65536:Int) < (n:Int))=true:=decide_eq_true hnI;go_wp2_with fail;refine aJ aI [(0,true),(1,true),(2,true),(3,true),(4,true),(5,true),(6,true),(7,true),(8,true),(11,true),(9,false),(10,true),(12,false),(13,true),(14,true)] (by kernel_rfl) (by kernel_rfl) aH aG ?_
   repeat (first
    | (refine aF (v:=?_) rfl (aD rfl) (fun w' hC=>?_) (fun K hK=>?_);rotate_left;(focus (go_simp;first | done | exact rfl));go_simp;refine hK _ ?_;clear hK K)
    | (refine aU rfl (fun A B hA hB=>?_);go_simp;first | (refine hA ⟨?_,fun w' hC=>?_,fun K hK=>?_⟩;rotate_left;(focus (go_simp;first | done | exact rfl));go_simp;refine hK _ ?_;clear hK K hA hB A B) | (refine hB (fun K hK=>?_);go_simp;refine hK _ ?_;clear hK K hA hB A B))
    | (refine aM rfl (fun A B hA hB=>?_);go_simp;refine hB (fun K hK=>?_);go_simp;refine hK _ ?_;clear hK K hA hB A B))
   refine aW ?_;go_wp2_with fail;go_ret2;rw[Hrec.out,if_pos (.inl hn)];exact⟨rfl,b3.drew⟩
  ·have hnI:¬ (65536:Int) < (n:Int):=by omega
   have hnD:decide ((65536:Int) < (n:Int))=false:=decide_eq_false hnI;have hnI2:(n:Int) <= 65536:=by omega
   have hw1:=af (n:Int) (by omega);have htk:=cH n;have htk2:takes n <= 1366:=by unfold takes;omega
   have htakes:=fun w0=>gl w0 n (by omega)
   obtain⟨T,hTe⟩:∃ T,takes n=T:=⟨_,rfl⟩
   have HT:=ae hTe;rw[hTe] at htk htk2 htakes;have Htakes:=ae htakes;clear hTe htakes;have hw2:=af ((taken:Int)+(T:Int)) (by omega);have b3':Below w.heap.size w w3.drew:=b3.drew;go_wp2_with fail;have q3:=Q3.out w3 b3;refine aJ aI [(0,true),(1,true),(2,true),(3,true),(4,true),(5,true),(6,true),(7,true),(8,true),(11,true),(9,false),(10,true),(12,false),(13,true),(14,true)] (by kernel_rfl) (by kernel_rfl) aH aG ?_
   repeat (first
    | (refine aF (v:=?_) rfl (aD rfl) (fun w' hC=>?_) (fun K hK=>?_);rotate_left;(focus (go_simp;first | done | exact rfl));go_simp;refine hK _ ?_;clear hK K)
    | (refine aU rfl (fun A B hA hB=>?_);go_simp;first | (refine hA ⟨?_,fun w' hC=>?_,fun K hK=>?_⟩;rotate_left;(focus (go_simp;first | done | exact rfl));go_simp;refine hK _ ?_;clear hK K hA hB A B) | (refine hB (fun K hK=>?_);go_simp;refine hK _ ?_;clear hK K hA hB A B))
    | (refine aM rfl (fun A B hA hB=>?_);go_simp;refine hB (fun K hK=>?_);go_simp;refine hK _ ?_;clear hK K hA hB A B))
   refine aQ rfl rfl (fun KK hK=>?_);go_simp;refine(Htakes.out w3.drew).mono ?_;rintro e w' ⟨rfl,rfl⟩;refine⟨_,rfl,aH _,hK _ _ ?_⟩;clear hK KK;go_simp
   repeat (first
    | (refine aF (v:=?_) rfl (aD rfl) (fun w' hC=>?_) (fun K hK=>?_);rotate_left;(focus (go_simp;first | done | exact rfl));go_simp;refine hK _ ?_;clear hK K)
    | (refine aU rfl (fun A B hA hB=>?_);go_simp;first | (refine hA ⟨?_,fun w' hC=>?_,fun K hK=>?_⟩;rotate_left;(focus (go_simp;first | done | exact rfl));go_simp;refine hK _ ?_;clear hK K hA hB A B) | (refine hB (fun K hK=>?_);go_simp;refine hK _ ?_;clear hK K hA hB A B))
    | (refine aM rfl (fun A B hA hB=>?_);go_simp;refine hB (fun K hK=>?_);go_simp;refine hK _ ?_;clear hK K hA hB A B))
   refine aQ rfl rfl (fun KK hK=>?_);go_simp;refine(Hhalf w3.drew b3').out.mono ?_;rintro e w' ⟨rfl,rfl⟩;refine⟨_,rfl,aH _,hK _ _ ?_⟩;clear hK KK;go_simp
   repeat (first
    | (refine aF (v:=?_) rfl (aD rfl) (fun w' hC=>?_) (fun K hK=>?_);rotate_left;(focus (go_simp;first | done | exact rfl));go_simp;refine hK _ ?_;clear hK K)
    | (refine aU rfl (fun A B hA hB=>?_);go_simp;first | (refine hA ⟨?_,fun w' hC=>?_,fun K hK=>?_⟩;rotate_left;(focus (go_simp;first | done | exact rfl));go_simp;refine hK _ ?_;clear hK K hA hB A B) | (refine hB (fun K hK=>?_);go_simp;refine hK _ ?_;clear hK K hA hB A B))
    | (refine aM rfl (fun A B hA hB=>?_);go_simp;refine hB (fun K hK=>?_);go_simp;refine hK _ ?_;clear hK K hA hB A B))
   refine aW ?_;clear q3
   by_cases hfit:H < taken+T
   ·have hfI:(H:Int) < (taken:Int)+(T:Int):=by omega
    go_wp2_with fail;go_ret2;rw[Hrec.out,HT.out,if_pos (.inr hfit)];exact⟨rfl,b3'⟩
   ·have hfI:¬ (H:Int) < (taken:Int)+(T:Int):=by omega
    have hrec2:cC M.S g k taken=if cE M.S g k taken n T then some ((dD M.S g taken T).take n) else none:=by
     rw[Hrec.out,HT.out,if_neg (by omega)]
    have Hrec2:=ae hrec2;clear hrec2
    obtain⟨wB,hwB⟩:∃ wB,wB=w3.drew:=⟨_,rfl⟩
    rw[<- hwB] at b3' ⊢;clear hwB hw2;go_wp2_with fail;refine(Htakes.out wB).mono ?_;rintro e w' ⟨rfl,rfl⟩;go_wp2_with fail
    go_loopw [5,46] (fun v i wr=>NextRel w M.S g k taken n T v i wr) (fun _ i _=>T - (intOf i).toNat)
    case atStart=>exact⟨0,by omega,rfl,rfl,World.ownsRow_nil _ _ _ _,b3'⟩
    case round=>
     obtain⟨m,hm,rfl,hpo,hown,hbw⟩:=hrel
     by_cases hmt:m < T
     ·have hmI:(m:Int) < (T:Int):=by omega
      have hTT:takes n=max 1 ((n+47) / 48):=rfl;have h48:48 * m <= n:=by have:=HT.out;omega
      have hw2:=af ((taken:Int)+(m:Int)) (by omega);have hw3:=af (48 * (m:Int)) (by omega);have hw4:=aj (48 * (m:Int)) (by omega);have hw5:=aj ((n:Int) - 48 * (m:Int)) (by omega);have hw6:=aj (k:Int) (by omega);have hpl:bT M.S.length g (taken+m) < M.S.length:=eu _ _ _ (by rw[HHe.out];omega);have bW:Below w.heap.size w wr.drew:=hbw.drew;have hplace:=iX wr.drew jb kd g _ taken dead K M (hjj bW) (hdd bW) hK (by omega) g (taken+m) (by omega);have hread:=i5 wr.drew jb kd g taken _ dead K M (hjj bW) (hdd bW) hK _ hpl hdn
      obtain⟨sm,hsm⟩:∃ sm,bU M.S g (taken+m)=sm:=⟨_,rfl⟩
      rw[show M.S.getD (bT M.S.length g (taken+m)) []=sm from hsm] at hread;rw[show ((taken+m:Nat):Int)=(taken:Int)+(m:Int) by omega] at hplace
      have hstep:cE M.S g k taken n (m+1)=cj sm g k (n - 48 * m):=by
       simp only[cE,hpo,hsm,Bool.true_and]
      have hbad:cj sm g k (n - 48 * m)=false -> cC M.S g k taken=none:=fun hb=>by
       rw[Hrec2.out,if_neg];intro hh;have:=fS M.S g k taken n (m+1) (T - (m+1)) (by rw[show m+1+(T - (m+1))=T by omega];exact hh);rw[hstep,hb] at this;cases this
      have hbody:dD M.S g taken (m+1)=dD M.S g taken m ++ (sm.drop 12).take 48:=by
       simp only[dD,hsm]
      have Hplace:=ae hplace;have Hread:=ae hread;have Hstep:=ae hstep;have Hbad:=ae hbad;have Hbody:=ae hbody;have Hown:=ae hown;have Hpo:=ae hpo;clear hplace hread hstep hbad hbody hown hpo hsm hpl hTT;go_wp2_with fail;have q1:=Q1.out wr hbw;have q3:=Q3.out wr hbw;refine aJ aI [(0,true),(1,true),(2,true),(3,true),(4,true),(5,true),(6,true),(7,true),(8,true),(9,true),(10,true),(11,true),(12,false),(13,false),(14,true)] (by kernel_rfl) (by kernel_rfl) aH aG ?_
      repeat (refine aF (v:=?_) rfl (aD rfl) (fun w' hC=>?_) (fun K hK=>?_);rotate_left;(focus (go_simp;first | done | exact rfl));go_simp;refine hK _ ?_;clear hK K)
      refine aQ rfl rfl (fun KK hK=>?_);go_simp;refine Hplace.out.mono ?_;rintro e w' ⟨rfl,rfl⟩;refine⟨_,rfl,aH _,hK _ _ ?_⟩;clear hK KK;go_simp
      repeat (refine aF (v:=?_) rfl (aD rfl) (fun w' hC=>?_) (fun K hK=>?_);rotate_left;(focus (go_simp;first | done | exact rfl));go_simp;refine hK _ ?_;clear hK K)
      refine aQ rfl rfl (fun KK hK=>?_);go_simp;refine Hread.out.mono ?_;rintro e w5 ⟨sb,rfl,hsb,hsec,hb5⟩;refine⟨_,rfl,hb5,hK _ _ ?_⟩;clear hK KK;go_simp
      repeat (refine aF (v:=?_) rfl (aD rfl) (fun w' hC=>?_) (fun K hK=>?_);rotate_left;(focus (go_simp;first | done | exact rfl));go_simp;refine hK _ ?_;clear hK K)
      refine aW ?_;clear q1 q3;have b5:Below w.heap.size w w5:=bW.trans (hb5.mono bW.size);have hown5:=owns_kept (owns_kept Hown.out (Below.refl _ _).drew) hb5;have Hown5:=ae hown5;have hsec5:=ae hsec;clear hown5 hsec hb5 bW hw2
      obtain⟨sl,rfl⟩:∃ sl,sl=sm:=⟨_,rfl⟩
      cases hin:cd sl with
      | false=>
        have hb:cj sl g k (n - 48 * m)=false:=by simp[cj,hin]
        go_wp2_with fail;have q1:=Q1.out w5 b5;have q2:=Q2.out w5 b5;refine aJ aI [(0,true),(1,false),(2,true),(3,true),(4,true),(6,true),(7,true),(8,true),(9,true),(5,false),(10,true),(11,true),(12,true),(13,true),(15,true),(16,true),(17,true),(18,true),(19,true),(20,true),(14,false),(21,true),(22,true),(23,true),(24,true),(26,true),(27,true),(28,true),(29,true),(30,true),(25,false),(31,true),(32,true)] (by kernel_rfl) (by kernel_rfl) aH aG ?_
        repeat (first
         | (refine aF (v:=?_) rfl (aD rfl) (fun w' hC=>?_) (fun K hK=>?_);rotate_left;(focus (go_simp;first | done | exact rfl));go_simp;refine hK _ ?_;clear hK K)
         | (refine aU rfl (fun A B hA hB=>?_);go_simp;first | (refine hA ⟨?_,fun w' hC=>?_,fun K hK=>?_⟩;rotate_left;(focus (go_simp;first | done | exact rfl));go_simp;refine hK _ ?_;clear hK K hA hB A B) | (refine hB (fun K hK=>?_);go_simp;refine hK _ ?_;clear hK K hA hB A B))
         | (refine aM rfl (fun A B hA hB=>?_);go_simp;refine hB (fun K hK=>?_);go_simp;refine hK _ ?_;clear hK K hA hB A B))
        refine aQ rfl rfl (fun KK hK=>?_);go_simp;refine(di w5.drew (hqq b5.drew) sb sl hsec5.out).mono ?_;rintro e w6 ⟨rfl,q,hw6⟩;have l6:aI w5.drew w6:=by rw[<- hw6];exact⟨rfl,rfl,rfl,aq _,fun _ _=>rfl⟩
        have hsec6:SecAt w6 sb sl:=by rw[<- hw6];exact hsec5.out
        have b6:Below w.heap.size w w6:=b5.drew.trans (l6.mono b5.size);clear hw6;refine⟨_,rfl,l6,hK _ _ ?_⟩;clear hK KK q1 q2;have q1:∀ w',aI w6 w' -> w'.cell? ⟨jb,1,none⟩=some (.int .u32 (g:Int)):=fun w' hh=>Q1.out w5 b5 w' (aG _ _ _ l6 hh)
        have q2:∀ w',aI w6 w' -> w'.cell? ⟨jb,2,none⟩=some (.slice ra k rc):=fun w' hh=>Q2.out w5 b5 w' (aG _ _ _ l6 hh)
        rw[hin];go_simp
        repeat (first
         | (refine aF (v:=?_) rfl (aD rfl) (fun w' hC=>?_) (fun K hK=>?_);rotate_left;(focus (go_simp;first | done | exact rfl));go_simp;refine hK _ ?_;clear hK K)
         | (refine aU rfl (fun A B hA hB=>?_);go_simp;first | (refine hA ⟨?_,fun w' hC=>?_,fun K hK=>?_⟩;rotate_left;(focus (go_simp;first | done | exact rfl));go_simp;refine hK _ ?_;clear hK K hA hB A B) | (refine hB (fun K hK=>?_);go_simp;refine hK _ ?_;clear hK K hA hB A B))
         | (refine aM rfl (fun A B hA hB=>?_);go_simp;refine hB (fun K hK=>?_);go_simp;refine hK _ ?_;clear hK K hA hB A B))
        refine aW ?_;clear q1 q2;go_wp2_with fail;go_ret2;rw[Hbad.out hb];exact⟨rfl,b6⟩
      | true=>
      by_cases h0g:bp sl 0=g
      ·have n0:((bp sl 0:Int) != (g:Int))=false:=by simp[h0g]
       by_cases h4k:bp sl 4=k
       ·have n4:((bp sl 4:Int) != (k:Int))=false:=by simp[h4k]
        by_cases h8n:bp sl 8=n - 48 * m
        ·have n8:((bp sl 8:Int) != (n:Int) - 48 * (m:Int))=false:=by simp;omega
         have hok:cj sl g k (n - 48 * m)=true:=by simp[cj,hin,h0g,h4k,h8n]
         have Hok:=ae hok;have H0:=ae h0g;have H4:=ae h4k;have H8:=ae h8n;clear hok h0g h4k h8n;go_wp2_with fail;have q1:=Q1.out w5 b5;have q2:=Q2.out w5 b5;refine aJ aI [(0,true),(1,false),(2,true),(3,true),(4,true),(6,true),(7,true),(8,true),(9,true),(5,false),(10,true),(11,true),(12,true),(13,true),(15,true),(16,true),(17,true),(18,true),(19,true),(20,true),(14,false),(21,true),(22,true),(23,true),(24,true),(26,true),(27,true),(28,true),(29,true),(30,true),(25,false),(31,true),(32,true)] (by kernel_rfl) (by kernel_rfl) aH aG ?_
         repeat (first
          | (refine aF (v:=?_) rfl (aD rfl) (fun w' hC=>?_) (fun K hK=>?_);rotate_left;(focus (go_simp;first | done | exact rfl));go_simp;refine hK _ ?_;clear hK K)
          | (refine aU rfl (fun A B hA hB=>?_);go_simp;first | (refine hA ⟨?_,fun w' hC=>?_,fun K hK=>?_⟩;rotate_left;(focus (go_simp;first | done | exact rfl));go_simp;refine hK _ ?_;clear hK K hA hB A B) | (refine hB (fun K hK=>?_);go_simp;refine hK _ ?_;clear hK K hA hB A B))
          | (refine aM rfl (fun A B hA hB=>?_);go_simp;refine hB (fun K hK=>?_);go_simp;refine hK _ ?_;clear hK K hA hB A B))
         refine aQ rfl rfl (fun KK hK=>?_);go_simp;refine(di w5.drew (hqq b5.drew) sb sl hsec5.out).mono ?_;rintro e w6 ⟨rfl,q,hw6⟩;have l6:aI w5.drew w6:=by rw[<- hw6];exact⟨rfl,rfl,rfl,aq _,fun _ _=>rfl⟩
         have hsec6:SecAt w6 sb sl:=by rw[<- hw6];exact hsec5.out
         have b6:Below w.heap.size w w6:=b5.drew.trans (l6.mono b5.size);clear hw6;refine⟨_,rfl,l6,hK _ _ ?_⟩;clear hK KK q1 q2;have q1:∀ w',aI w6 w' -> w'.cell? ⟨jb,1,none⟩=some (.int .u32 (g:Int)):=fun w' hh=>Q1.out w5 b5 w' (aG _ _ _ l6 hh)
         have q2:∀ w',aI w6 w' -> w'.cell? ⟨jb,2,none⟩=some (.slice ra k rc):=fun w' hh=>Q2.out w5 b5 w' (aG _ _ _ l6 hh)
         rw[hin];go_simp
         repeat (first
          | (refine aF (v:=?_) rfl (aD rfl) (fun w' hC=>?_) (fun K hK=>?_);rotate_left;(focus (go_simp;first | done | exact rfl));go_simp;refine hK _ ?_;clear hK K)
          | (refine aU rfl (fun A B hA hB=>?_);go_simp;first | (refine hA ⟨?_,fun w' hC=>?_,fun K hK=>?_⟩;rotate_left;(focus (go_simp;first | done | exact rfl));go_simp;refine hK _ ?_;clear hK K hA hB A B) | (refine hB (fun K hK=>?_);go_simp;refine hK _ ?_;clear hK K hA hB A B))
          | (refine aM rfl (fun A B hA hB=>?_);go_simp;refine hB (fun K hK=>?_);go_simp;refine hK _ ?_;clear hK K hA hB A B))
         refine aQ rfl rfl (fun KK hK=>?_);go_simp;refine(dp w6 sb sl hsec6 0 (by omega)).mono ?_;rintro e w' ⟨rfl,rfl⟩;refine⟨_,rfl,aH _,hK _ _ ?_⟩;clear hK KK;go_simp
         repeat (first
          | (refine aF (v:=?_) rfl (aD rfl) (fun w' hC=>?_) (fun K hK=>?_);rotate_left;(focus (go_simp;first | done | exact rfl));go_simp;refine hK _ ?_;clear hK K)
          | (refine aU rfl (fun A B hA hB=>?_);go_simp;first | (refine hA ⟨?_,fun w' hC=>?_,fun K hK=>?_⟩;rotate_left;(focus (go_simp;first | done | exact rfl));go_simp;refine hK _ ?_;clear hK K hA hB A B) | (refine hB (fun K hK=>?_);go_simp;refine hK _ ?_;clear hK K hA hB A B))
          | (refine aM rfl (fun A B hA hB=>?_);go_simp;refine hB (fun K hK=>?_);go_simp;refine hK _ ?_;clear hK K hA hB A B))
         refine aQ rfl rfl (fun KK hK=>?_);go_simp;refine(dp w6 sb sl hsec6 4 (by omega)).mono ?_;rintro e w' ⟨rfl,rfl⟩;refine⟨_,rfl,aH _,hK _ _ ?_⟩;clear hK KK;go_simp
         repeat (first
          | (refine aF (v:=?_) rfl (aD rfl) (fun w' hC=>?_) (fun K hK=>?_);rotate_left;(focus (go_simp;first | done | exact rfl));go_simp;refine hK _ ?_;clear hK K)
          | (refine aU rfl (fun A B hA hB=>?_);go_simp;first | (refine hA ⟨?_,fun w' hC=>?_,fun K hK=>?_⟩;rotate_left;(focus (go_simp;first | done | exact rfl));go_simp;refine hK _ ?_;clear hK K hA hB A B) | (refine hB (fun K hK=>?_);go_simp;refine hK _ ?_;clear hK K hA hB A B))
          | (refine aM rfl (fun A B hA hB=>?_);go_simp;refine hB (fun K hK=>?_);go_simp;refine hK _ ?_;clear hK K hA hB A B))
         refine aQ rfl rfl (fun KK hK=>?_);go_simp;refine(dp w6 sb sl hsec6 8 (by omega)).mono ?_;rintro e w' ⟨rfl,rfl⟩;refine⟨_,rfl,aH _,hK _ _ ?_⟩;clear hK KK;go_simp
         repeat (first
          | (refine aF (v:=?_) rfl (aD rfl) (fun w' hC=>?_) (fun K hK=>?_);rotate_left;(focus (go_simp;first | done | exact rfl));go_simp;refine hK _ ?_;clear hK K)
          | (refine aU rfl (fun A B hA hB=>?_);go_simp;first | (refine hA ⟨?_,fun w' hC=>?_,fun K hK=>?_⟩;rotate_left;(focus (go_simp;first | done | exact rfl));go_simp;refine hK _ ?_;clear hK K hA hB A B) | (refine hB (fun K hK=>?_);go_simp;refine hK _ ?_;clear hK K hA hB A B))
          | (refine aM rfl (fun A B hA hB=>?_);go_simp;refine hB (fun K hK=>?_);go_simp;refine hK _ ?_;clear hK K hA hB A B))
         refine aW ?_;clear q1 q2;have hown6:=owns_kept (owns_kept Hown5.out (Below.refl _ _).drew) l6;have hlb:(dD M.S g taken m).length=48 * m:=fw _ (fun s hs=>by obtain⟨L,-,hL⟩:=Hd.out.secs;exact hL.2.2 s hs) _ _ _ (fun j hj=>eu _ _ _ (by rw[HHe.out];omega));obtain⟨v7,w7,hap,hown7,hg7⟩:=gd w6 w.heap.size _ _ hown6 _ _ _ hsec6.bytes12 (by rw[hlb];simp;omega) b6.size;rw[<- Hbody.out] at hown7
         have b7:Below w.heap.size w w7:=b6.grown hg7 b6.size (fun q hq=>by
          rcases hown6.2 with ⟨h,_⟩ | ⟨g',cap',cur,h,hlo,_⟩
          ·rw[h] at hq;cases hq
          ·rw[h] at hq;simp[Value.ownBlock] at hq;omega)
         have Hown7:=ae hown7;clear hown7 hown6 hg7 hlb hsec6;go_wp2_with fail
         go_roundw
         case rel=>exact⟨m+1,by omega,by go_num,by rw[Hstep.out];exact Hok.out,Hown7.out,b7⟩
         case measure=>simp[intOf];omega
        ·have n8:((bp sl 8:Int) != (n:Int) - 48 * (m:Int))=true:=by simp;omega
         have hb:cj sl g k (n - 48 * m)=false:=by simp[cj,h8n]
         clear h0g h4k h8n;go_wp2_with fail;have q1:=Q1.out w5 b5;have q2:=Q2.out w5 b5;refine aJ aI [(0,true),(1,false),(2,true),(3,true),(4,true),(6,true),(7,true),(8,true),(9,true),(5,false),(10,true),(11,true),(12,true),(13,true),(15,true),(16,true),(17,true),(18,true),(19,true),(20,true),(14,false),(21,true),(22,true),(23,true),(24,true),(26,true),(27,true),(28,true),(29,true),(30,true),(25,false),(31,true),(32,true)] (by kernel_rfl) (by kernel_rfl) aH aG ?_
         repeat (first
          | (refine aF (v:=?_) rfl (aD rfl) (fun w' hC=>?_) (fun K hK=>?_);rotate_left;(focus (go_simp;first | done | exact rfl));go_simp;refine hK _ ?_;clear hK K)
          | (refine aU rfl (fun A B hA hB=>?_);go_simp;first | (refine hA ⟨?_,fun w' hC=>?_,fun K hK=>?_⟩;rotate_left;(focus (go_simp;first | done | exact rfl));go_simp;refine hK _ ?_;clear hK K hA hB A B) | (refine hB (fun K hK=>?_);go_simp;refine hK _ ?_;clear hK K hA hB A B))
          | (refine aM rfl (fun A B hA hB=>?_);go_simp;refine hB (fun K hK=>?_);go_simp;refine hK _ ?_;clear hK K hA hB A B))
         refine aQ rfl rfl (fun KK hK=>?_);go_simp;refine(di w5.drew (hqq b5.drew) sb sl hsec5.out).mono ?_;rintro e w6 ⟨rfl,q,hw6⟩;have l6:aI w5.drew w6:=by rw[<- hw6];exact⟨rfl,rfl,rfl,aq _,fun _ _=>rfl⟩
         have hsec6:SecAt w6 sb sl:=by rw[<- hw6];exact hsec5.out
         have b6:Below w.heap.size w w6:=b5.drew.trans (l6.mono b5.size);clear hw6;refine⟨_,rfl,l6,hK _ _ ?_⟩;clear hK KK q1 q2;have q1:∀ w',aI w6 w' -> w'.cell? ⟨jb,1,none⟩=some (.int .u32 (g:Int)):=fun w' hh=>Q1.out w5 b5 w' (aG _ _ _ l6 hh)
         have q2:∀ w',aI w6 w' -> w'.cell? ⟨jb,2,none⟩=some (.slice ra k rc):=fun w' hh=>Q2.out w5 b5 w' (aG _ _ _ l6 hh)
         rw[hin];go_simp
         repeat (first
          | (refine aF (v:=?_) rfl (aD rfl) (fun w' hC=>?_) (fun K hK=>?_);rotate_left;(focus (go_simp;first | done | exact rfl));go_simp;refine hK _ ?_;clear hK K)
          | (refine aU rfl (fun A B hA hB=>?_);go_simp;first | (refine hA ⟨?_,fun w' hC=>?_,fun K hK=>?_⟩;rotate_left;(focus (go_simp;first | done | exact rfl));go_simp;refine hK _ ?_;clear hK K hA hB A B) | (refine hB (fun K hK=>?_);go_simp;refine hK _ ?_;clear hK K hA hB A B))
          | (refine aM rfl (fun A B hA hB=>?_);go_simp;refine hB (fun K hK=>?_);go_simp;refine hK _ ?_;clear hK K hA hB A B))
         refine aQ rfl rfl (fun KK hK=>?_);go_simp;refine(dp w6 sb sl hsec6 0 (by omega)).mono ?_;rintro e w' ⟨rfl,rfl⟩;refine⟨_,rfl,aH _,hK _ _ ?_⟩;clear hK KK;go_simp
         repeat (first
          | (refine aF (v:=?_) rfl (aD rfl) (fun w' hC=>?_) (fun K hK=>?_);rotate_left;(focus (go_simp;first | done | exact rfl));go_simp;refine hK _ ?_;clear hK K)
          | (refine aU rfl (fun A B hA hB=>?_);go_simp;first | (refine hA ⟨?_,fun w' hC=>?_,fun K hK=>?_⟩;rotate_left;(focus (go_simp;first | done | exact rfl));go_simp;refine hK _ ?_;clear hK K hA hB A B) | (refine hB (fun K hK=>?_);go_simp;refine hK _ ?_;clear hK K hA hB A B))
          | (refine aM rfl (fun A B hA hB=>?_);go_simp;refine hB (fun K hK=>?_);go_simp;refine hK _ ?_;clear hK K hA hB A B))
         refine aQ rfl rfl (fun KK hK=>?_);go_simp;refine(dp w6 sb sl hsec6 4 (by omega)).mono ?_;rintro e w' ⟨rfl,rfl⟩;refine⟨_,rfl,aH _,hK _ _ ?_⟩;clear hK KK;go_simp
         repeat (first
          | (refine aF (v:=?_) rfl (aD rfl) (fun w' hC=>?_) (fun K hK=>?_);rotate_left;(focus (go_simp;first | done | exact rfl));go_simp;refine hK _ ?_;clear hK K)
          | (refine aU rfl (fun A B hA hB=>?_);go_simp;first | (refine hA ⟨?_,fun w' hC=>?_,fun K hK=>?_⟩;rotate_left;(focus (go_simp;first | done | exact rfl));go_simp;refine hK _ ?_;clear hK K hA hB A B) | (refine hB (fun K hK=>?_);go_simp;refine hK _ ?_;clear hK K hA hB A B))
          | (refine aM rfl (fun A B hA hB=>?_);go_simp;refine hB (fun K hK=>?_);go_simp;refine hK _ ?_;clear hK K hA hB A B))
         refine aQ rfl rfl (fun KK hK=>?_);go_simp;refine(dp w6 sb sl hsec6 8 (by omega)).mono ?_;rintro e w' ⟨rfl,rfl⟩;refine⟨_,rfl,aH _,hK _ _ ?_⟩;clear hK KK;go_simp
         repeat (first
          | (refine aF (v:=?_) rfl (aD rfl) (fun w' hC=>?_) (fun K hK=>?_);rotate_left;(focus (go_simp;first | done | exact rfl));go_simp;refine hK _ ?_;clear hK K)
          | (refine aU rfl (fun A B hA hB=>?_);go_simp;first | (refine hA ⟨?_,fun w' hC=>?_,fun K hK=>?_⟩;rotate_left;(focus (go_simp;first | done | exact rfl));go_simp;refine hK _ ?_;clear hK K hA hB A B) | (refine hB (fun K hK=>?_);go_simp;refine hK _ ?_;clear hK K hA hB A B))
          | (refine aM rfl (fun A B hA hB=>?_);go_simp;refine hB (fun K hK=>?_);go_simp;refine hK _ ?_;clear hK K hA hB A B))
         refine aW ?_;clear q1 q2;go_wp2_with fail;go_ret2;rw[Hbad.out hb];exact⟨rfl,b6⟩
       ·have n4:((bp sl 4:Int) != (k:Int))=true:=by simp;omega
        have hb:cj sl g k (n - 48 * m)=false:=by simp[cj,h4k]
        clear h0g h4k;go_wp2_with fail;have q1:=Q1.out w5 b5;have q2:=Q2.out w5 b5;refine aJ aI [(0,true),(1,false),(2,true),(3,true),(4,true),(6,true),(7,true),(8,true),(9,true),(5,false),(10,true),(11,true),(12,true),(13,true),(15,true),(16,true),(17,true),(18,true),(19,true),(20,true),(14,false),(21,true),(22,true),(23,true),(24,true),(26,true),(27,true),(28,true),(29,true),(30,true),(25,false),(31,true),(32,true)] (by kernel_rfl) (by kernel_rfl) aH aG ?_
        repeat (first
         | (refine aF (v:=?_) rfl (aD rfl) (fun w' hC=>?_) (fun K hK=>?_);rotate_left;(focus (go_simp;first | done | exact rfl));go_simp;refine hK _ ?_;clear hK K)
         | (refine aU rfl (fun A B hA hB=>?_);go_simp;first | (refine hA ⟨?_,fun w' hC=>?_,fun K hK=>?_⟩;rotate_left;(focus (go_simp;first | done | exact rfl));go_simp;refine hK _ ?_;clear hK K hA hB A B) | (refine hB (fun K hK=>?_);go_simp;refine hK _ ?_;clear hK K hA hB A B))
         | (refine aM rfl (fun A B hA hB=>?_);go_simp;refine hB (fun K hK=>?_);go_simp;refine hK _ ?_;clear hK K hA hB A B))
        refine aQ rfl rfl (fun KK hK=>?_);go_simp;refine(di w5.drew (hqq b5.drew) sb sl hsec5.out).mono ?_;rintro e w6 ⟨rfl,q,hw6⟩;have l6:aI w5.drew w6:=by rw[<- hw6];exact⟨rfl,rfl,rfl,aq _,fun _ _=>rfl⟩
        have hsec6:SecAt w6 sb sl:=by rw[<- hw6];exact hsec5.out
        have b6:Below w.heap.size w w6:=b5.drew.trans (l6.mono b5.size);clear hw6;refine⟨_,rfl,l6,hK _ _ ?_⟩;clear hK KK q1 q2;have q1:∀ w',aI w6 w' -> w'.cell? ⟨jb,1,none⟩=some (.int .u32 (g:Int)):=fun w' hh=>Q1.out w5 b5 w' (aG _ _ _ l6 hh)
        have q2:∀ w',aI w6 w' -> w'.cell? ⟨jb,2,none⟩=some (.slice ra k rc):=fun w' hh=>Q2.out w5 b5 w' (aG _ _ _ l6 hh)
        rw[hin];go_simp
        repeat (first
         | (refine aF (v:=?_) rfl (aD rfl) (fun w' hC=>?_) (fun K hK=>?_);rotate_left;(focus (go_simp;first | done | exact rfl));go_simp;refine hK _ ?_;clear hK K)
         | (refine aU rfl (fun A B hA hB=>?_);go_simp;first | (refine hA ⟨?_,fun w' hC=>?_,fun K hK=>?_⟩;rotate_left;(focus (go_simp;first | done | exact rfl));go_simp;refine hK _ ?_;clear hK K hA hB A B) | (refine hB (fun K hK=>?_);go_simp;refine hK _ ?_;clear hK K hA hB A B))
         | (refine aM rfl (fun A B hA hB=>?_);go_simp;refine hB (fun K hK=>?_);go_simp;refine hK _ ?_;clear hK K hA hB A B))
        refine aQ rfl rfl (fun KK hK=>?_);go_simp;refine(dp w6 sb sl hsec6 0 (by omega)).mono ?_;rintro e w' ⟨rfl,rfl⟩;refine⟨_,rfl,aH _,hK _ _ ?_⟩;clear hK KK;go_simp
        repeat (first
         | (refine aF (v:=?_) rfl (aD rfl) (fun w' hC=>?_) (fun K hK=>?_);rotate_left;(focus (go_simp;first | done | exact rfl));go_simp;refine hK _ ?_;clear hK K)
         | (refine aU rfl (fun A B hA hB=>?_);go_simp;first | (refine hA ⟨?_,fun w' hC=>?_,fun K hK=>?_⟩;rotate_left;(focus (go_simp;first | done | exact rfl));go_simp;refine hK _ ?_;clear hK K hA hB A B) | (refine hB (fun K hK=>?_);go_simp;refine hK _ ?_;clear hK K hA hB A B))
         | (refine aM rfl (fun A B hA hB=>?_);go_simp;refine hB (fun K hK=>?_);go_simp;refine hK _ ?_;clear hK K hA hB A B))
        refine aQ rfl rfl (fun KK hK=>?_);go_simp;refine(dp w6 sb sl hsec6 4 (by omega)).mono ?_;rintro e w' ⟨rfl,rfl⟩;refine⟨_,rfl,aH _,hK _ _ ?_⟩;clear hK KK;go_simp
        repeat (first
         | (refine aF (v:=?_) rfl (aD rfl) (fun w' hC=>?_) (fun K hK=>?_);rotate_left;(focus (go_simp;first | done | exact rfl));go_simp;refine hK _ ?_;clear hK K)
         | (refine aU rfl (fun A B hA hB=>?_);go_simp;first | (refine hA ⟨?_,fun w' hC=>?_,fun K hK=>?_⟩;rotate_left;(focus (go_simp;first | done | exact rfl));go_simp;refine hK _ ?_;clear hK K hA hB A B) | (refine hB (fun K hK=>?_);go_simp;refine hK _ ?_;clear hK K hA hB A B))
         | (refine aM rfl (fun A B hA hB=>?_);go_simp;refine hB (fun K hK=>?_);go_simp;refine hK _ ?_;clear hK K hA hB A B))
        refine aW ?_;clear q1 q2;go_wp2_with fail;go_ret2;rw[Hbad.out hb];exact⟨rfl,b6⟩
      ·have n0:((bp sl 0:Int) != (g:Int))=true:=by simp;omega
       have hb:cj sl g k (n - 48 * m)=false:=by simp[cj,h0g]
       clear h0g;go_wp2_with fail;have q1:=Q1.out w5 b5;have q2:=Q2.out w5 b5;refine aJ aI [(0,true),(1,false),(2,true),(3,true),(4,true),(6,true),(7,true),(8,true),(9,true),(5,false),(10,true),(11,true),(12,true),(13,true),(15,true),(16,true),(17,true),(18,true),(19,true),(20,true),(14,false),(21,true),(22,true),(23,true),(24,true),(26,true),(27,true),(28,true),(29,true),(30,true),(25,false),(31,true),(32,true)] (by kernel_rfl) (by kernel_rfl) aH aG ?_
       repeat (first
        | (refine aF (v:=?_) rfl (aD rfl) (fun w' hC=>?_) (fun K hK=>?_);rotate_left;(focus (go_simp;first | done | exact rfl));go_simp;refine hK _ ?_;clear hK K)
        | (refine aU rfl (fun A B hA hB=>?_);go_simp;first | (refine hA ⟨?_,fun w' hC=>?_,fun K hK=>?_⟩;rotate_left;(focus (go_simp;first | done | exact rfl));go_simp;refine hK _ ?_;clear hK K hA hB A B) | (refine hB (fun K hK=>?_);go_simp;refine hK _ ?_;clear hK K hA hB A B))
        | (refine aM rfl (fun A B hA hB=>?_);go_simp;refine hB (fun K hK=>?_);go_simp;refine hK _ ?_;clear hK K hA hB A B))
       refine aQ rfl rfl (fun KK hK=>?_);go_simp;refine(di w5.drew (hqq b5.drew) sb sl hsec5.out).mono ?_;rintro e w6 ⟨rfl,q,hw6⟩;have l6:aI w5.drew w6:=by rw[<- hw6];exact⟨rfl,rfl,rfl,aq _,fun _ _=>rfl⟩
       have hsec6:SecAt w6 sb sl:=by rw[<- hw6];exact hsec5.out
       have b6:Below w.heap.size w w6:=b5.drew.trans (l6.mono b5.size);clear hw6;refine⟨_,rfl,l6,hK _ _ ?_⟩;clear hK KK q1 q2;have q1:∀ w',aI w6 w' -> w'.cell? ⟨jb,1,none⟩=some (.int .u32 (g:Int)):=fun w' hh=>Q1.out w5 b5 w' (aG _ _ _ l6 hh)
       have q2:∀ w',aI w6 w' -> w'.cell? ⟨jb,2,none⟩=some (.slice ra k rc):=fun w' hh=>Q2.out w5 b5 w' (aG _ _ _ l6 hh)
       rw[hin];go_simp
       repeat (first
        | (refine aF (v:=?_) rfl (aD rfl) (fun w' hC=>?_) (fun K hK=>?_);rotate_left;(focus (go_simp;first | done | exact rfl));go_simp;refine hK _ ?_;clear hK K)
        | (refine aU rfl (fun A B hA hB=>?_);go_simp;first | (refine hA ⟨?_,fun w' hC=>?_,fun K hK=>?_⟩;rotate_left;(focus (go_simp;first | done | exact rfl));go_simp;refine hK _ ?_;clear hK K hA hB A B) | (refine hB (fun K hK=>?_);go_simp;refine hK _ ?_;clear hK K hA hB A B))
        | (refine aM rfl (fun A B hA hB=>?_);go_simp;refine hB (fun K hK=>?_);go_simp;refine hK _ ?_;clear hK K hA hB A B))
       refine aQ rfl rfl (fun KK hK=>?_);go_simp;refine(dp w6 sb sl hsec6 0 (by omega)).mono ?_;rintro e w' ⟨rfl,rfl⟩;refine⟨_,rfl,aH _,hK _ _ ?_⟩;clear hK KK;go_simp
       repeat (first
        | (refine aF (v:=?_) rfl (aD rfl) (fun w' hC=>?_) (fun K hK=>?_);rotate_left;(focus (go_simp;first | done | exact rfl));go_simp;refine hK _ ?_;clear hK K)
        | (refine aU rfl (fun A B hA hB=>?_);go_simp;first | (refine hA ⟨?_,fun w' hC=>?_,fun K hK=>?_⟩;rotate_left;(focus (go_simp;first | done | exact rfl));go_simp;refine hK _ ?_;clear hK K hA hB A B) | (refine hB (fun K hK=>?_);go_simp;refine hK _ ?_;clear hK K hA hB A B))
        | (refine aM rfl (fun A B hA hB=>?_);go_simp;refine hB (fun K hK=>?_);go_simp;refine hK _ ?_;clear hK K hA hB A B))
       refine aW ?_;clear q1 q2;go_wp2_with fail;go_ret2;rw[Hbad.out hb];exact⟨rfl,b6⟩
     ·have hmI:¬ (m:Int) < (T:Int):=by omega
      obtain rfl:m=T:=by omega
      have hTT:takes n=max 1 ((n+47) / 48):=rfl;have h48:n <= 48 * m:=by have:=HT.out;omega
      have hlb:(dD M.S g taken m).length=48 * m:=fw _ (fun s hs=>by obtain⟨L,-,hL⟩:=Hd.out.secs;exact hL.2.2 s hs) _ _ _ (fun j hj=>eu _ _ _ (by rw[HHe.out];omega));have hbyt:=Bytes.of_owns hown (fun q=>w.heap.size <= q /\ q < wr.heap.size) (fun q h1 h2=>⟨h1,h2⟩);have hrr:cC M.S g k taken=some ((dD M.S g taken m).take n):=by rw[Hrec2.out,if_pos hpo]
      generalize dD M.S g taken m=bo at *;obtain⟨av,cv,rfl,hcv,hmv,-,-⟩:=id hbyt;have hby2:=hbyt.take n (by omega);have hbl:(bo.take n).length <= 65536:=by simp;omega
      have Hrr:=ae hrr;have Hby2:=ae hby2;have Hbl:=ae hbl;clear hrr hby2 hbl hbyt hown hpo hTT;rw[hlb] at hcv ⊢;clear hlb;have hcvI:(n:Int) <= (cv:Int):=by omega
      go_wp2_with fail;go_ret2;rw[Hrr.out];exact⟨⟨_,rfl,Hby2.out,Hbl.out⟩,hbw⟩
end Go.Proofs.YtobjdpngnfbicaaGreatDoor
/- Open. -/
namespace Go.Proofs.YtobjdpngnfbicaaGreatDoor
open Go.RowKit
set_option linter.unusedVariables false
set_option maxRecDepth 20000
attribute [local go_sem] opC upC
def genStep (S:List (List UInt8)) (st:Bool × Nat) (i:Nat):Bool × Nat:=
 if dH (S.getD i []) i && (!st.1 || decide (st.2 < bp (S.getD i []) 4)) then (true,bp (S.getD i []) 4) else st
def genS (S:List (List UInt8)):Nat -> Bool × Nat
 | 0=>(false,0)
 | m+1=>genStep S (genS S m) m
theorem gen_aux (x y:Bool) (p q:Nat):(if y && (!x || decide (p < q)) then some q else if x then some p else none) =
 (if (if y && (!(if x && (!false || decide (0 < p)) then (true,p) else (false,0)).1 || decide ((if x && (!false || decide (0 < p)) then (true,p) else (false,0)).2 < q)) then (true,q) else (if x && (!false || decide (0 < p)) then (true,p) else (false,0))).1 then
  some (if y && (!(if x && (!false || decide (0 < p)) then (true,p) else (false,0)).1 || decide ((if x && (!false || decide (0 < p)) then (true,p) else (false,0)).2 < q)) then (true,q) else (if x && (!false || decide (0 < p)) then (true,p) else (false,0))).2 else none):=by
 cases x <;> cases y <;> by_cases h:p < q <;> simp[h]
theorem genM_eq (S:List (List UInt8)):genM S=if (genS S 2).1 then some (genS S 2).2 else none:=gen_aux _ _ _ _
theorem genS_lt (S:List (List UInt8)):∀ m,(genS S m).2 < 4294967296
 | 0=>by simp[genS]
 | m+1=>by
   simp only[genS,genStep];split
   ·exact jU _ _
   ·exact genS_lt S m
theorem recordM_some {S:List (List UInt8)} {g k p:Nat} {b:List UInt8} (hS:∀ s ∈ S,s.length=64) (h:cC S g k p=some b):p+takes b.length <= aT S.length /\ b.length <= 65536:=by
 unfold cC at h;split at h
 ·cases h
 ·rename_i hp;dsimp only at h;generalize hn:bp (bU S g p) 8=n at h;split at h
  ·cases h
  ·rename_i hx;split at h
   ·rename_i hpo;have hT:takes n=max 1 ((n+47) / 48):=rfl;have hlb:=fw S hS g p (takes n) (fun j hj=>eu _ _ _ (by omega));have he:=Option.some.inj h;have hl:b.length=n:=by rw[<- he];simp;omega
    rw[hl];omega
   ·cases h
theorem recordsM_none {S:List (List UInt8)} {g k p:Nat} (h:cC S g k p=none) (f:Nat):dm S g f k p = []:=by
 cases f with
 | zero=>rfl
 | succ f=>simp[dm,h]
theorem recordsM_some {S:List (List UInt8)} {g k p:Nat} {b:List UInt8} (h:cC S g k p=some b) (f:Nat):dm S g (f+1) k p=b :: dm S g f (k+1) (p+takes b.length):=by
 simp[dm,h]
def GenRel (w:World) (jb kd:Nat) (S:List (List UInt8)) (f i:Value) (wr:World):Prop:=
 ∃ m:Nat,m <= 2 /\ i=.int .i64 (m:Int) /\ f=.bool (genS S m).1 /\ cM wr jb kd (genS S m).2 (.slice none 0 0) 0 false /\ Below w.heap.size w wr
def AddRel (w:World) (jb kd g:Nat) (S:List (List UInt8)) (v:Value) (wr:World):Prop:=
 ∃ (ra:Option Addr) (rc:Nat) (R:aV) (L:List (List UInt8)),v=v /\ cM wr jb kd g (.slice ra L.length rc) (aL L) false /\ bX R wr 0 (.slice ra L.length rc) L /\
   (∀ b,(Value.slice ra L.length rc).ownBlock=some b \/ R b -> w.heap.size <= b /\ b≠jb /\ b < wr.heap.size) /\ aL L <= aT S.length /\ (∀ b ∈ L,b.length <= 65536) /\
   dm S g (aT S.length+1) 0 0=L ++ dm S g (aT S.length+1 - L.length) L.length (aL L) /\ Below w.heap.size w wr
def takenOf (jb:Nat) (wr:World):Nat:=(intOf ((wr.cell? ⟨jb,3,none⟩).getD (.int .i64 0))).toNat
def OpenPost (w:World) (K:DK) (M:MD) (r:MJ ⊕ Int) (e:Ending) (w':World):Prop:=
 (match r with
  | .inr c=>e=.returned (.tuple #[.pointer none,.int .i64 c])
  | .inl J=>∃ jk,e=.returned (.tuple #[.pointer (some ⟨jk.j,0,none⟩),.int .i64 0]) /\ jk.K=K /\ JAt w' jk M J /\ ∀ b,jk.all b -> K.foot b \/ w.heap.size <= b) /\ Below w.heap.size w w'
set_option maxRecDepth 100000 in
set_option maxHeartbeats 1200000 in
theorem open_any (w:World) (K:DK) (M:MD) (hd:bj w K M) (hq:bQ w):
 Calls aC 48 #[.pointer (some ⟨K.d,0,none⟩)] w (OpenPost w K M (ge M)):=by
 have hc:=kh w K M hd;have h0:0 < w.heap.size:=by obtain⟨t,fz,hh⟩:=hq;exact lt_of_block hh
 have hle:=hd.le;have hdn:=mZ w K M hd;have Hc:=ae hc;have Hdn:=ae hdn;clear hc hdn
 by_cases h8:M.S.length < 8
 ·have Hr:=ae (show ge M=.inr 6 by unfold ge;rw[if_pos h8]);have Hc2:=Hc.out;rw[if_pos h8] at Hc2
  go_enter Tryz.func48,Tryz.ntmps48
  go_wp2_with fail;refine Hc2.mono ?_;rintro e w' ⟨rfl,rfl⟩;clear Hc2;go_wp2_with fail;go_ret2;rw[Hr.out];exact⟨rfl,Below.refl _ _⟩
 have Hc2:=Hc.out;rw[if_neg h8] at Hc2;have Hc3:=ae Hc2;clear Hc2 Hc
 by_cases hdown:M.down=true
 ·have Hr:=ae (show ge M=.inr 341 by unfold ge;rw[if_neg h8,if_pos hdown])
  go_enter Tryz.func48,Tryz.ntmps48
  go_wp2_with fail;refine Hc3.out.mono ?_;rintro e w' ⟨rfl,rfl⟩;go_wp2_with fail;refine Hdn.out.mono ?_;rintro e w' ⟨rfl,rfl⟩;rw[hdown];go_wp2_with fail;go_ret2;rw[Hr.out];exact⟨rfl,Below.refl _ _⟩
 have hdn:M.down=false:=by simpa using hdown
 have Hr:=ae (show ge M=match genM M.S with | none=>.inr 340 | some g=>.inl ⟨g,dm M.S g (aT M.S.length+1) 0 0,false⟩ by unfold ge;rw[if_neg h8,if_neg hdown];rfl);clear hdown
 go_enter Tryz.func48,Tryz.ntmps48
 go_wp2_with fail;refine Hc3.out.mono ?_;rintro e w' ⟨rfl,rfl⟩;go_wp2_with fail;refine Hdn.out.mono ?_;rintro e w' ⟨rfl,rfl⟩;rw[hdn];go_wp2_with fail
 obtain⟨jb,hjb⟩:∃ jb,jb=w.heap.size:=⟨_,rfl⟩
 have hj0:cM (w.alloc (.cells #[.pointer (some ⟨K.d,0,none⟩),.int .u32 0,.slice none 0 0,.int .i64 0,.bool false] 141)) jb K.d 0 (.slice none 0 0) 0 false:=by
  rw[hjb];exact Blk.new w #[.pointer (some ⟨K.d,0,none⟩),.int .u32 0,.slice none 0 0,.int .i64 0,.bool false] 141
 have hk0:=aE w (.cells #[.pointer (some ⟨K.d,0,none⟩),.int .u32 0,.slice none 0 0,.int .i64 0,.bool false] 141);have hqq:∀ {w'},Below w.heap.size w w' -> bQ w':=fun hb=>hq.keep (hb.block 0 h0)
 have hdd:∀ {w'},Below w.heap.size w w' -> bj w' K M:=fun hb=>hd.kept hb
 have hjl:w.heap.size <= jb:=by omega
 have hs0:(w.alloc (.cells #[.pointer (some ⟨K.d,0,none⟩),.int .u32 0,.slice none 0 0,.int .i64 0,.bool false] 141)).heap.size=w.heap.size+1:=by simp
 rw[<- hjb];have HJB:=ae hjb;clear hjb
 go_loopw [6,22] (fun f i wr=>GenRel w jb K.d M.S f i wr) (fun _ i _=>2 - (intOf i).toNat)
 case atStart=>exact⟨0,by omega,rfl,rfl,hj0,hk0⟩
 case round=>
  obtain⟨m,hm,rfl,rfl,hj,hbw⟩:=hrel;clear hj0 hk0
  by_cases hml:m < 2
  ·have hmI:(m:Int) < 2:=by omega
   have hread:=i5 wr jb K.d _ _ _ _ K M hj (hdd hbw) rfl m (by omega) hdn
   obtain⟨sl,hsl⟩:∃ sl,M.S.getD m []=sl:=⟨_,rfl⟩
   rw[hsl] at hread
   have hstep:genS M.S (m+1)=if dH sl m && (!(genS M.S m).1 || decide ((genS M.S m).2 < bp sl 4)) then (true,bp sl 4) else genS M.S m:=by
    simp only[genS,genStep,hsl]
   have hg32:=genS_lt M.S m
   obtain⟨st,hst⟩:∃ st,genS M.S m=st:=⟨_,rfl⟩
   rw[hst] at hstep hj hg32 ⊢;have Hread:=ae hread;have Hstep:=ae hstep;have h4:=jU sl 4;clear hread hstep hst hsl;obtain⟨fd,gg⟩:=st;dsimp only at hg32;cases hin:cd sl with
   | false=>
     have hs:genS M.S (m+1)=(fd,gg):=by rw[Hstep.out,if_neg (by simp[dH,hin])]
     go_wp2_with fail;refine Hread.out.mono ?_;rintro e w2 ⟨sb,rfl,hsb,hsec,hb2⟩;go_wp2_with fail;refine(dp w2 sb sl hsec 4 (by omega)).mono ?_;rintro e w' ⟨rfl,rfl⟩;go_wp2_with fail;refine(di w2 (hqq (hbw.trans (hb2.mono hbw.size))) sb sl hsec).mono ?_;rintro e w3 ⟨rfl,q,hw3⟩;have hb3:Below wr.heap.size wr w3:=by rw[<- hw3];exact⟨hb2.os,hb2.tape,hb2.output,hb2.size,hb2.block⟩
     have hsec3:SecAt w3 sb sl:=by rw[<- hw3];exact hsec
     have hbw3:Below w.heap.size w w3:=hbw.trans (hb3.mono hbw.size);have hj3:cM w3 jb K.d gg (.slice none 0 0) 0 false:=Blk.keep hj (hb3.block jb (Blk.lt hj));have hconv:=gT (Bytes.take (a:=some ⟨sb,0,none⟩) (cap:=64) (l:=sl) (by have:=hsec3.bytes;rw[hsec3.2];exact this) 4 (by rw[hsec3.2];omega));clear hw3 hb2 hsec hb3;rw[hin];have Hs:=ae hs;have Hj3:=ae hj3;have Hb3:=ae hbw3;have c1:=hj3.cell 1;simp at c1;clear hs hj3 hbw3 hsec3 hbw hj;go_wp2_with fail
     go_roundw
     case rel=>exact⟨m+1,by omega,by go_num,by rw[Hs.out],by rw[Hs.out];exact Hj3.out,Hb3.out⟩
     case measure=>simp[intOf];omega
   | true=>
     by_cases hmg:sl.take 4 = [72,78,75,74]
     ·by_cases hpar:(bp sl 4:Int) % 2=(m:Int)
      ·have hparN:bp sl 4 % 2=m:=by omega
       have hhead:dH sl m=true:=by simp[dH,hin,hmg,hparN,dy]
       cases fd with
       | false=>
         have hs:genS M.S (m+1)=(true,bp sl 4):=by rw[Hstep.out,if_pos (by simp[hhead])]
         clear hhead hparN;go_wp2_with fail;refine Hread.out.mono ?_;rintro e w2 ⟨sb,rfl,hsb,hsec,hb2⟩;go_wp2_with fail;refine(dp w2 sb sl hsec 4 (by omega)).mono ?_;rintro e w' ⟨rfl,rfl⟩;go_wp2_with fail;refine(di w2 (hqq (hbw.trans (hb2.mono hbw.size))) sb sl hsec).mono ?_;rintro e w3 ⟨rfl,q,hw3⟩;have hb3:Below wr.heap.size wr w3:=by rw[<- hw3];exact⟨hb2.os,hb2.tape,hb2.output,hb2.size,hb2.block⟩
         have hsec3:SecAt w3 sb sl:=by rw[<- hw3];exact hsec
         have hbw3:Below w.heap.size w w3:=hbw.trans (hb3.mono hbw.size);have hj3:cM w3 jb K.d gg (.slice none 0 0) 0 false:=Blk.keep hj (hb3.block jb (Blk.lt hj));have hconv:=gT (Bytes.take (a:=some ⟨sb,0,none⟩) (cap:=64) (l:=sl) (by have:=hsec3.bytes;rw[hsec3.2];exact this) 4 (by rw[hsec3.2];omega));clear hw3 hb2 hsec hb3;rw[hin];have Hs:=ae hs;have c1:=hj3.cell 1;have f1:=hj3.free 1;simp at c1
         have hj4:cM (w3.setCell ⟨jb,1,none⟩ (.int .u32 (bp sl 4:Int))) jb K.d (bp sl 4) (.slice none 0 0) 0 false:=by
          have:=hj3.set 1 (.int .u32 (bp sl 4:Int));simpa[cM] using this
         have hb4:Below w.heap.size w (w3.setCell ⟨jb,1,none⟩ (.int .u32 (bp sl 4:Int))):=hbw3.setCell hjl _;have Hj4:=ae hj4;have Hb4:=ae hb4;clear hs hj3 hbw3 hsec3 hbw hj hj4 hb4;go_wp2_with fail
         go_roundw
         case rel=>exact⟨m+1,by omega,by go_num,by rw[Hs.out],by rw[Hs.out];exact Hj4.out,Hb4.out⟩
         case measure=>simp[intOf];omega
       | true=>
         by_cases hgt:(gg:Int) < (bp sl 4:Int)
         ·have hs:genS M.S (m+1)=(true,bp sl 4):=by rw[Hstep.out,if_pos (by simp[hhead];omega)]
          clear hhead hparN;go_wp2_with fail;refine Hread.out.mono ?_;rintro e w2 ⟨sb,rfl,hsb,hsec,hb2⟩;go_wp2_with fail;refine(dp w2 sb sl hsec 4 (by omega)).mono ?_;rintro e w' ⟨rfl,rfl⟩;go_wp2_with fail;refine(di w2 (hqq (hbw.trans (hb2.mono hbw.size))) sb sl hsec).mono ?_;rintro e w3 ⟨rfl,q,hw3⟩;have hb3:Below wr.heap.size wr w3:=by rw[<- hw3];exact⟨hb2.os,hb2.tape,hb2.output,hb2.size,hb2.block⟩
          have hsec3:SecAt w3 sb sl:=by rw[<- hw3];exact hsec
          have hbw3:Below w.heap.size w w3:=hbw.trans (hb3.mono hbw.size);have hj3:cM w3 jb K.d gg (.slice none 0 0) 0 false:=Blk.keep hj (hb3.block jb (Blk.lt hj));have hconv:=gT (Bytes.take (a:=some ⟨sb,0,none⟩) (cap:=64) (l:=sl) (by have:=hsec3.bytes;rw[hsec3.2];exact this) 4 (by rw[hsec3.2];omega));clear hw3 hb2 hsec hb3;rw[hin];have Hs:=ae hs;have c1:=hj3.cell 1;have f1:=hj3.free 1;simp at c1
          have hj4:cM (w3.setCell ⟨jb,1,none⟩ (.int .u32 (bp sl 4:Int))) jb K.d (bp sl 4) (.slice none 0 0) 0 false:=by
           have:=hj3.set 1 (.int .u32 (bp sl 4:Int));simpa[cM] using this
          have hb4:Below w.heap.size w (w3.setCell ⟨jb,1,none⟩ (.int .u32 (bp sl 4:Int))):=hbw3.setCell hjl _;have Hj4:=ae hj4;have Hb4:=ae hb4;clear hs hj3 hbw3 hsec3 hbw hj hj4 hb4;go_wp2_with fail
          go_roundw
          case rel=>exact⟨m+1,by omega,by go_num,by rw[Hs.out],by rw[Hs.out];exact Hj4.out,Hb4.out⟩
          case measure=>simp[intOf];omega
         ·have hs:genS M.S (m+1)=(true,gg):=by rw[Hstep.out,if_neg (by simp;omega)]
          clear hhead hparN;go_wp2_with fail;refine Hread.out.mono ?_;rintro e w2 ⟨sb,rfl,hsb,hsec,hb2⟩;go_wp2_with fail;refine(dp w2 sb sl hsec 4 (by omega)).mono ?_;rintro e w' ⟨rfl,rfl⟩;go_wp2_with fail;refine(di w2 (hqq (hbw.trans (hb2.mono hbw.size))) sb sl hsec).mono ?_;rintro e w3 ⟨rfl,q,hw3⟩;have hb3:Below wr.heap.size wr w3:=by rw[<- hw3];exact⟨hb2.os,hb2.tape,hb2.output,hb2.size,hb2.block⟩
          have hsec3:SecAt w3 sb sl:=by rw[<- hw3];exact hsec
          have hbw3:Below w.heap.size w w3:=hbw.trans (hb3.mono hbw.size);have hj3:cM w3 jb K.d gg (.slice none 0 0) 0 false:=Blk.keep hj (hb3.block jb (Blk.lt hj));have hconv:=gT (Bytes.take (a:=some ⟨sb,0,none⟩) (cap:=64) (l:=sl) (by have:=hsec3.bytes;rw[hsec3.2];exact this) 4 (by rw[hsec3.2];omega));clear hw3 hb2 hsec hb3;rw[hin];have Hs:=ae hs;have Hj3:=ae hj3;have Hb3:=ae hbw3;have c1:=hj3.cell 1;simp at c1;clear hs hj3 hbw3 hsec3 hbw hj;go_wp2_with fail
          go_roundw
          case rel=>exact⟨m+1,by omega,by go_num,by rw[Hs.out],by rw[Hs.out];exact Hj3.out,Hb3.out⟩
          case measure=>simp[intOf];omega
      ·have hs:genS M.S (m+1)=(fd,gg):=by rw[Hstep.out,if_neg (by simp[dH];omega)]
       go_wp2_with fail;refine Hread.out.mono ?_;rintro e w2 ⟨sb,rfl,hsb,hsec,hb2⟩;go_wp2_with fail;refine(dp w2 sb sl hsec 4 (by omega)).mono ?_;rintro e w' ⟨rfl,rfl⟩;go_wp2_with fail;refine(di w2 (hqq (hbw.trans (hb2.mono hbw.size))) sb sl hsec).mono ?_;rintro e w3 ⟨rfl,q,hw3⟩;have hb3:Below wr.heap.size wr w3:=by rw[<- hw3];exact⟨hb2.os,hb2.tape,hb2.output,hb2.size,hb2.block⟩
       have hsec3:SecAt w3 sb sl:=by rw[<- hw3];exact hsec
       have hbw3:Below w.heap.size w w3:=hbw.trans (hb3.mono hbw.size);have hj3:cM w3 jb K.d gg (.slice none 0 0) 0 false:=Blk.keep hj (hb3.block jb (Blk.lt hj));have hconv:=gT (Bytes.take (a:=some ⟨sb,0,none⟩) (cap:=64) (l:=sl) (by have:=hsec3.bytes;rw[hsec3.2];exact this) 4 (by rw[hsec3.2];omega));clear hw3 hb2 hsec hb3;rw[hin];have Hs:=ae hs;have Hj3:=ae hj3;have Hb3:=ae hbw3;have c1:=hj3.cell 1;simp at c1;clear hs hj3 hbw3 hsec3 hbw hj;go_wp2_with fail
       go_roundw
       case rel=>exact⟨m+1,by omega,by go_num,by rw[Hs.out],by rw[Hs.out];exact Hj3.out,Hb3.out⟩
       case measure=>simp[intOf];omega
     ·have hs:genS M.S (m+1)=(fd,gg):=by rw[Hstep.out,if_neg (by simp[dH,dy,hmg])]
      go_wp2_with fail;refine Hread.out.mono ?_;rintro e w2 ⟨sb,rfl,hsb,hsec,hb2⟩;go_wp2_with fail;refine(dp w2 sb sl hsec 4 (by omega)).mono ?_;rintro e w' ⟨rfl,rfl⟩;go_wp2_with fail;refine(di w2 (hqq (hbw.trans (hb2.mono hbw.size))) sb sl hsec).mono ?_;rintro e w3 ⟨rfl,q,hw3⟩;have hb3:Below wr.heap.size wr w3:=by rw[<- hw3];exact⟨hb2.os,hb2.tape,hb2.output,hb2.size,hb2.block⟩
      have hsec3:SecAt w3 sb sl:=by rw[<- hw3];exact hsec
      have hbw3:Below w.heap.size w w3:=hbw.trans (hb3.mono hbw.size);have hj3:cM w3 jb K.d gg (.slice none 0 0) 0 false:=Blk.keep hj (hb3.block jb (Blk.lt hj));have hconv:=gT (Bytes.take (a:=some ⟨sb,0,none⟩) (cap:=64) (l:=sl) (by have:=hsec3.bytes;rw[hsec3.2];exact this) 4 (by rw[hsec3.2];omega));clear hw3 hb2 hsec hb3;rw[hin];have Hs:=ae hs;have Hj3:=ae hj3;have Hb3:=ae hbw3;have c1:=hj3.cell 1;simp at c1;clear hs hj3 hbw3 hsec3 hbw hj;go_wp2_with fail
      go_roundw
      case rel=>exact⟨m+1,by omega,by go_num,by rw[Hs.out],by rw[Hs.out];exact Hj3.out,Hb3.out⟩
      case measure=>simp[intOf];omega
  ·have hmI:¬ (m:Int) < 2:=by omega
   obtain rfl:m=2:=by omega
   have hgen:=genM_eq M.S;have hg32:=genS_lt M.S 2
   obtain⟨st,hst⟩:∃ st,genS M.S 2=st:=⟨_,rfl⟩
   rw[hst] at hj hgen hg32 ⊢;obtain⟨fd,g⟩:=st;dsimp only at hj hgen hg32 ⊢;cases fd with
   | false=>
     have hr:=Hr.out;rw[hgen] at hr;have Hr2:=ae hr;clear hr hgen hst;go_wp2_with fail;go_ret2;rw[Hr2.out];exact⟨rfl,hbw⟩
   | true=>
     have hr:=Hr.out;rw[hgen] at hr;have Hr2:=ae hr;clear hr hgen hst;have hS:∀ s ∈ M.S,s.length=64:=by obtain⟨L,-,hL⟩:=hd.secs;exact hL.2.2
     go_wp2_with fail
     go_loopw [10] (fun v wr=>AddRel w jb K.d g M.S v wr) (fun _ wr=>aT M.S.length+1 - takenOf jb wr)
     case atStart=>exact⟨none,0,none_,[],rfl,by simpa[aL] using hj,bX.nil _ 0,fun b hb=>by rcases hb with hb | hb;exact absurd hb (by simp[Value.ownBlock]);exact hb.elim,by simp[aL],by simp,by simp[aL],hbw⟩
     case round=>
      clear hj hbw;obtain⟨ra,rc,R,L,-,hj,hr,hown,htk,hlens,hrec,hbw⟩:=hrel;have hLT:=cU L;have hH:aT M.S.length <= 32768:=by unfold aT;omega
      have hsz:=hbw.size;have hnext:=next_any _ jb K.d g (aL L) L.length ra rc false K M hj (hdd hbw) rfl (hqq hbw) hdn (by omega) hg32 (by omega) (by omega) (by omega);have Hnext:=ae hnext;clear hnext;go_wp2_with fail;refine Hnext.out.mono ?_;rintro e w2 ⟨hm,hb2⟩;cases hrm:cC M.S g L.length (aL L) with
      | none=>
        rw[hrm] at hm;dsimp only at hm;subst hm;have hLL:dm M.S g (aT M.S.length+1) 0 0=L:=by rw[hrec,recordsM_none hrm,List.append_nil]
        have HLL:=ae hLL;clear hLL hrec hrm;go_wp2_with fail;go_ret2;rw[Hr2.out];simp only[if_true];rw[HLL.out];refine⟨⟨⟨jb,K,fun b=>(Value.slice ra L.length rc).ownBlock=some b \/ R b⟩,rfl,rfl,⟨hdd (hbw.trans (hb2.mono hsz)),⟨ra,rc,R,Blk.keep hj (hb2.block jb (Blk.lt hj)),hr.kept hb2,fun b hb=>hb⟩,⟨fun h=>by have h1:=hd.lt _ h;have:=HJB.out;dsimp only at h1;omega,fun b hb=>⟨(hown b hb).2.1,fun h=>by have h1:=hd.lt _ h;have:=(hown b hb).1;omega,by have:=(hown b hb).2.2;have:=hb2.size;omega⟩⟩,by show 8 <= M.S.length;omega,htk,hg32,hlens⟩,?_⟩,hbw.trans (hb2.mono hsz)⟩;rintro b (hb | hb | hb)
        ·exact .inr (by rw[hb];exact hjl)
        ·exact .inl hb
        ·exact .inr (hown b hb).1
      | some bb=>
        rw[hrm] at hm;dsimp only at hm;obtain⟨v,rfl,hbv,hbl⟩:=hm;obtain⟨hfit,-⟩:=recordM_some hS hrm
        have hrec2:dm M.S g (aT M.S.length+1) 0 0=(L ++ [bb]) ++ dm M.S g (aT M.S.length+1 - (L ++ [bb]).length) (L ++ [bb]).length (aL (L ++ [bb])):=by
         rw[hrec,show aT M.S.length+1 - L.length=(aT M.S.length - L.length)+1 by omega,recordsM_some hrm,dM];simp
        have hj2:cM w2 jb K.d g (.slice ra L.length rc) (aL L) false:=Blk.keep hj (hb2.block jb (Blk.lt hj));have hbw2:=hbw.trans (hb2.mono hsz);have hadd:=mm w2 jb K.d g (aL L) _ false R L hj2 (hr.kept hb2) (fun b hb=>⟨(hown b hb).2.1,by have:=(hown b hb).2.2;have:=hb2.size;omega⟩) _ v bb hbv hbl (by omega) (by omega);have Hadd:=ae hadd;have Hrec2:=ae hrec2;have ht0:=hj.cell 3;have hjz:=Blk.lt hj;have hz2:=hb2.size;simp at ht0;have Ht0:=ae ht0;have htp:=cH bb.length;clear hadd hrec2 hrec hrm hj2 hbv hr ht0;go_wp2_with fail;refine Hadd.out.mono ?_;rintro e w4 ⟨rfl,ra',rc',R',hj4,hr4,ho4,hown4⟩
        have hbw4:Below w.heap.size w w4:=hbw2.trans (ho4.below (fun b hb=>by
         rcases hb with hb | hb
         ·rw[hb];exact hjl
         ·exact(hown b (.inl hb)).1) hbw2.size)
        have ht4:=hj4.cell 3;simp at ht4;have Hj4:=ae hj4;have Hr4:=ae hr4;have Hb4:=ae hbw4;have Ht4:=ae ht4;clear hj4 hr4 hbw4 ht4 ho4;go_wp2_with fail
        go_roundw
        case rel=>
         refine⟨ra',rc',R',L ++ [bb],rfl,by rw[dM];simpa using Hj4.out,by simpa using Hr4.out,fun b hb=>?_,by rw[dM];exact hfit,fun b hb=>?_,Hrec2.out,Hb4.out⟩
         ·obtain⟨h1,h2⟩:=hown4 b (by simpa using hb);rcases h1 with h1 | h1
          ·exact⟨(hown b h1).1,(hown b h1).2.1,h2⟩
          ·exact⟨by omega,by omega,h2⟩
         ·rcases List.mem_append.1 hb with hb | hb
          ·exact hlens b hb
          ·obtain rfl:=List.mem_singleton.1 hb;exact hbl
        case measure=>
         have e4:takenOf jb w4=aL L+takes bb.length:=by unfold takenOf;rw[Ht4.out];simp[intOf];omega
         have e0:takenOf jb wr=aL L:=by unfold takenOf;rw[Ht0.out];simp[intOf]
         rw[e4,e0];omega
end Go.Proofs.YtobjdpngnfbicaaGreatDoor
