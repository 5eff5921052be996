/-
  UOpen
-/
import Derived.Test.YtobjdpngnfbicaaGreatDoorZK35
import Derived.Test.YtobjdpngnfbicaaGreatDoorZK36
import Derived.Test.YtobjdpngnfbicaaGreatDoorZK26
open Go.Lib renaming hid->ae
open Nat renaming le_trans->au,lt_of_lt_of_le->aw
open List renaming getElem_mem->aA,length_cons->aB
open Go.Proofs.Tryz renaming prog->aC
namespace Go.Proofs.YtobjdpngnfbicaaGreatDoor
open Go.RowKit
set_option linter.unusedVariables false
set_option maxRecDepth 20000
section
open Go.Lib
attribute [local go_sem] opC upC tr
theorem qK {b:List UInt8} {n:Nat} {x:RMap} (h:dY b=some (n,x)):n < 8 /\ validR x=true:=by
 cases b with
 | nil=>cases h
 | cons k r=>
   unfold dY at h;dsimp only at h;split at h
   ·split at h
    ·cases h
    ·split at h
     ·rename_i h8;split at h
      ·rename_i h0;obtain⟨rfl,rfl⟩:=Prod.mk.inj (Option.some.inj h);exact⟨h8,kF h0⟩
      ·cases h
     ·cases h
   ·cases h
theorem kM {p:RMap × Int} {x:RMap} (h:okR p=some x):p.2=0 /\ p.1=x:=by
 unfold okR at h;split at h
 ·rename_i h0;exact⟨h0,Option.some.inj h⟩
 ·cases h
theorem kN {d:Nat} {m:RMap} {b:List UInt8} {x:RMap} (h:cQ d m b=some x):validR x=true:=by
 cases b with
 | nil=>cases h
 | cons k r=>
   unfold cQ at h;dsimp only at h;split at h
   ·split at h
    ·obtain⟨h1,rfl⟩:=kM h;exact(kJ h1).2.2
    ·cases h
   ·split at h
    ·split at h
     ·obtain⟨h1,rfl⟩:=kM h;exact pv h1
     ·cases h
    ·split at h
     ·split at h
      ·obtain⟨h1,rfl⟩:=kM h;exact je h1
      ·cases h
     ·cases h
theorem qL {M:MD} {c:Int} (h:ge M=.inr c):c=6 \/ c=341 \/ c=340:=by
 unfold ge at h;split at h
 ·injection h with h;exact .inl h.symm
 ·split at h
  ·injection h with h;exact .inr (.inl h.symm)
  ·split at h
   ·injection h with h;exact .inr (.inr h.symm)
   ·cases h
def SA (t:TypeId) (x:Value) (lo hi mx:Option Value):Sem Value:=Instr.sliceAt t x lo hi mx
theorem pA (t:TypeId) (x lo:Value):Instr.sliceAt t x (some lo) none none=SA t x (some lo) none none:=rfl
theorem lO (w:World) (b off n c:Nat) (h1:1 <= n) (h2:n <= c) (h3:c <= 9223372036854775807):(SA 41 (.slice (some ⟨b,off,none⟩) n c) (some (.int .i64 1)) none none).run aC w=.ok (.slice (if c=1 then some ⟨b,off,none⟩ else some ⟨b,off+1,none⟩) (n - 1) (c - 1)) w:=by
 have h1I:(1:Int) <= (n:Int):=by omega
 unfold SA
 by_cases hc:c=1
 ·subst hc;obtain rfl:n=1:=by omega
  go_simp
 ·rw[if_neg hc];have hcI:¬ (c - 1=0):=by omega
  go_simp
theorem rY (w:World) (b n c:Nat) (h1:1 <= n) (h2:n <= c) (h3:c <= 9223372036854775807):(SA 64 (.slice (some ⟨b,0,none⟩) n c) (some (.int .i64 1)) none none).run aC w=.ok (.slice (if c=1 then some ⟨b,0,none⟩ else some ⟨b,1,none⟩) (n - 1) (c - 1)) w:=by
 have h1I:(1:Int) <= (n:Int):=by omega
 unfold SA
 by_cases hc:c=1
 ·subst hc;obtain rfl:n=1:=by omega
  go_simp
 ·rw[if_neg hc];have hcI:¬ (c - 1=0):=by omega
  go_simp
attribute [local go_sem ↓] pA
def eA (w:World) (K:DK) (M:MD) (r:MU ⊕ Int) (e:Ending) (w':World):Prop:=(match r with
 | .inr c=>e=.returned (.tuple #[.pointer none,.int .i64 c])
 | .inl U=>∃ u jk,e=.returned (.tuple #[.pointer (some ⟨u,0,none⟩),.int .i64 0]) /\ jk.K.d=K.d /\ UAt w' jk u M U /\ (∀ q,jk.all q -> K.foot q \/ w.heap.size <= q) /\ w.heap.size <= u) /\ Below w.heap.size w w'
theorem UAt.new {w:World} {jk:JK} {M:MD} {J:MJ} (hj:JAt w jk M J) (ht:JT w jk) (hl:∀ b,jk.all b -> 3 < b):
 UAt (w.alloc (.cells #[.int .i64 0,.slice none 0 0,.slice none 0 0,.slice none 0 0,.pointer (some ⟨jk.j,0,none⟩)] 93)) jk w.heap.size M ⟨0,.empty,J⟩:=by
 have hb:Below w.heap.size w (w.alloc (.cells #[.int .i64 0,.slice none 0 0,.slice none 0 0,.slice none 0 0,.pointer (some ⟨jk.j,0,none⟩)] 93)):=aE _ _;exact⟨⟨none,0,none,0,none,0,Blk.new _ _ _,Rows.nil _ _ _,Rows.nil _ _ _,Rows.nil _ _ _,nofun,nofun,nofun⟩,hj.kept hb,ht.keep fun b hb'=>hb.block b (hj.lt b hb'),hl⟩
set_option maxRecDepth 100000 in
set_option maxHeartbeats 8000000 in
theorem qM (w:World) (hT:cL w) (h3:4 <= w.heap.size) (hq:bQ w) (K:DK) (M:MD) (hd:bj w K M) (hlow:∀ b,K.foot b -> 3 < b):
 Calls aC 16 #[.pointer (some ⟨K.d,0,none⟩)] w (eA w K M (fe M)):=by
 have hO:=open_any w K M hd hq
 obtain⟨o,ho⟩:∃ o,ge M=o:=⟨_,rfl⟩
 rw[ho] at hO;have HO:=ae hO;have Hho:=ae ho;have HT:=ae hT;have Hlow:=ae hlow;clear hO ho hT hlow hd hq
 go_enter Tryz.func16,Tryz.ntmps16
 go_wp2_with fail;refine HO.out.mono ?_;rintro e w1 ⟨hm,hb1⟩;clear HO;cases o with
 | inr c=>
   obtain rfl:e=.returned (.tuple #[.pointer none,.int .i64 c]):=hm;have hc0:¬ c=0:=by rcases qL Hho.out with h | h | h <;> rw[h] <;> decide
   have Hfin:=ae (show eA w K M (fe M) (.returned (.tuple #[.pointer none,.int .i64 c])) w1 from by
    unfold fe;rw[Hho.out]
    exact⟨rfl,hb1⟩)
   clear hb1;go_wp2_with fail;go_ret2;exact Hfin.out
 | inl J=>
   obtain⟨jk0,rfl,hK,hj,hfoot⟩:=hm;obtain⟨jk,e1,e2,hj1,hall,hJT⟩:=hj.slim;rw[<- e1];have hfoot':∀ b,jk.all b -> K.foot b \/ w.heap.size <= b:=fun b hb=>hfoot b (hall b hb)
   have hlow1:∀ b,jk.all b -> 3 < b:=fun b hb=>by
    rcases hfoot' b hb with h | h
    ·exact Hlow.out b h
    ·omega
   have hR:=qC w1 jk M J hj1;have HR:=ae hR;have Hj1:=ae hj1;have HJT:=ae hJT;have Hfoot:=ae hfoot';have Hlow1:=ae hlow1;have Hb1:=ae hb1;have HKd:=ae (show jk.K.d=K.d by rw[e2,hK]);clear hR hj hj1 hJT hfoot hfoot' hlow1 hb1 hall e2 e1 hK jk0;go_wp2_with fail;refine HR.out.mono ?_;rintro e w2 ⟨r,R',rfl,hrows,hR',hb2⟩;obtain⟨a,cap,rfl,hc1,hc2⟩:=hrows.shape;have Hrows:=ae hrows;have HR':=ae hR';have Hb2:=ae hb2;have hB2:Below w.heap.size w w2:=Hb1.out.trans (Hb2.out.mono Hb1.out.size);have HB2:=ae hB2;clear HR hrows hR' hb2 hB2;obtain⟨g,L,dead⟩:=J;cases L with
   | nil=>
     have Hfin:=ae (show eA w K M (fe M) (.returned (.tuple #[.pointer none,.int .i64 340])) w2 from by
      unfold fe;rw[Hho.out];dsimp only;rw[if_pos rfl]
      exact⟨rfl,HB2.out⟩)
     dsimp only[List.length_nil];go_wp2_with fail;go_ret2;exact Hfin.out
   | cons b0 L=>
     have Hou:=ae (show fe M=match fp (b0 :: L) with
      | none=>.inr 5
      | some (d,m)=>.inl ⟨d,m,⟨g,b0 :: L,dead⟩⟩ from by
      unfold fe;rw[Hho.out];dsimp only;rw[if_neg (by simp)];cases fp (b0 :: L) with
      | none=>rfl
      | some p=>rfl)
     obtain⟨gb,cap',x0,hv,hB0,hcell0⟩:=Hrows.out.elem 0 (by simp);simp at hv;obtain⟨rfl,rfl⟩:=hv;have hb0l:b0.length <= 65536:=Hj1.out.lens b0 List.mem_cons_self;have hB0:Bytes R' w2 x0 b0:=hB0;have hgb:gb < w2.heap.size:=cellLt hcell0;have hw3:=UAt.new (Hj1.out.kept Hb2.out) (HJT.out.keep fun b hb=>Hb2.out.block b (Hj1.out.lt b hb)) Hlow1.out
     obtain⟨w3,ew3⟩:∃ w3,w3=w2.alloc (.cells #[.int .i64 0,.slice none 0 0,.slice none 0 0,.slice none 0 0,.pointer (some ⟨jk.j,0,none⟩)] 93):=⟨_,rfl⟩
     rw[<- ew3] at hw3;have hb3:Below w2.heap.size w2 w3:=by rw[ew3];exact aE _ _
     have HU3:=ae hw3;have Hw3:=ae ew3;have Hb3:=ae hb3;have HB0:=ae hB0;have HB3:=ae (show Below w.heap.size w w3 from HB2.out.trans (hb3.mono HB2.out.size))
     obtain⟨nL,hnL⟩:∃ n,(b0 :: L).length=n:=⟨_,rfl⟩
     have hn1:nL=L.length+1:=by rw[<- hnL];rfl
     have hn0I:¬ (nL:Int)=0:=by omega
     have hn1I:(1:Int) <= (nL:Int):=by omega
     have hn0I2:(0:Int) < (nL:Int):=by omega
     have hcn:nL <= cap:=by rw[<- hnL];exact hc1
     have HnL:=ae hnL;have Hn1:=ae hn1;have Hcn:=ae hcn;dsimp only at Hrows ⊢;rw[hnL] at Hrows ⊢;clear hw3 ew3 hb3 hnL hc1 hn1;cases b0 with
     | nil=>
       obtain⟨a0,c0,rfl,-⟩:=id hB0
       have Hfin:=ae (show eA w K M (fe M) (.returned (.tuple #[.pointer none,.int .i64 5])) w3 from by
        rw[Hou.out]
        exact⟨rfl,HB3.out⟩)
       dsimp only[List.length_nil] at *;clear hB0 HB0;go_wp2_with fail;rw[<- Hw3.out];go_ret2;exact Hfin.out
     | cons k r=>
       obtain⟨a0,c0,rfl,hq1,hq2,-,hq4⟩:=id hB0;obtain⟨bb,off,-,-,-,rfl,hbR,-,-,-⟩:=hq4.resolve_left (by simp);obtain⟨-,-,-,hq4⟩:=hB0.cells;obtain⟨bb',off',hq5,-,hbb,hcb⟩:=hq4.resolve_left (by simp);obtain⟨rfl,rfl⟩:bb=bb' /\ off=off':=by simpa using hq5
       have hcb0:=hcb 0 (by simp);rw[Nat.add_zero,List.getElem_cons_zero] at hcb0
       obtain⟨nb,hnb⟩:∃ n,(k :: r).length=n:=⟨_,rfl⟩
       rw[hnb] at hcell0 hq1;have hnr:nb - 1=r.length:=by rw[<- hnb];rfl
       have hnb1:1 <= nb:=by rw[<- hnb,aB];omega
       have hb0I:¬ (nb:Int)=0:=by omega
       have hbeq:((nb:Int) == 0)=false:=beq_eq_false_iff_ne.2 hb0I;have hb1I:(1:Int) <= (nb:Int):=by omega
       have hb0I2:(0:Int) < (nb:Int):=by omega
       have hc0m:c0 <= 9223372036854775807:=by unfold maxLen at hq2;omega
       have Hnb:=ae hnb;have Hnr:=ae hnr;have Hb0l:=ae hb0l;clear hnb hnr hb0l hq2 hq4 hq5 hcb
       by_cases hk0:k=0
       ·subst hk0;have hkz:B 0=.int .u8 0:=rfl;rw[hkz] at hcb0;have hcut:=fun W=>lO W bb off nb c0 hnb1 hq1 hc0m
        obtain⟨AV,hAV⟩:∃ x,(if c0=1 then some (⟨bb,off,none⟩:Addr) else some ⟨bb,off+1,none⟩)=x:=⟨_,rfl⟩
        rw[hAV] at hcut;have hd0:=HB0.out.drop 1 (by have:=Hnb.out;omega);have hd0':Bytes R' w2 (.slice AV r.length (c0 - 1)) r:=by rw[<- hAV];exact hd0
        rw[Hnr.out] at hcut;have hbs:=hd0'.keep (w':=w3) fun q _ hlt=>Hb3.out.block q hlt
        have hBG:=qG w3 (bi HT.out h3 HB3.out) (au h3 HB3.out.size) jk w2.heap.size M _ HU3.out R' AV (c0 - 1) r hbs (fun q hq=>aw (HR'.out q hq).2 Hb3.out.size) (by have:=Hb0l.out;rw[Hnb.out] at this;have:=Hnr.out;omega);unfold ez at hBG
        obtain⟨O,hO⟩:∃ O,dY (0 :: r)=O:=⟨_,rfl⟩
        rw[hO] at hBG;have HBG:=ae hBG;have HOb:=ae hO;clear hBG hO hbs hd0' hd0 hAV hkz;go_wp2_with fail;rw[<- Hw3.out];refine HBG.out.mono ?_;rintro e w4 hC;clear HBG hcut;cases O with
        | none=>
          obtain⟨rfl,ho4⟩:=hC
          have Hfin:=ae (show eA w K M (fe M) (.returned (.tuple #[.pointer none,.int .i64 5])) w4 from by
           rw[Hou.out]
           have e:fp ((0 :: r) :: L)=none:=by
            unfold fp;dsimp only;rw[HOb.out]
           rw[e]
           exact⟨rfl,HB3.out.trans (ho4.below (fun q hq=>by have:=HB2.out.size;omega) HB3.out.size)⟩)
          clear ho4;go_wp2_with fail;go_ret2;exact Hfin.out
        | some p=>
          obtain⟨rfl,hU4,ho4⟩:=hC;obtain⟨d0,m0⟩:=p;have hbo:=qK HOb.out
          have Hfo:=ae (show fp ((0 :: r) :: L)=(cJ d0 m0 L).map fun x=>(d0,x) by
           unfold fp;dsimp only
           rw[HOb.out])
          obtain⟨F1,hF1⟩:∃ f:Value,f=.func (.func 51) #[.pointer (some ⟨w2.heap.size,0,none⟩)] #[]:=⟨_,rfl⟩
          obtain⟨F2,hF2⟩:∃ f:Value,f=.func (.func 52) #[.pointer (some ⟨w2.heap.size,0,none⟩)] #[]:=⟨_,rfl⟩
          obtain⟨F3,hF3⟩:∃ f:Value,f=.func (.func 53) #[.pointer (some ⟨w2.heap.size,0,none⟩)] #[]:=⟨_,rfl⟩
          obtain⟨v1,v2,w5,g1,g2,g3,hb5,hkm⟩:=qH w4 F1 F2 F3;have HU5:=ae (hU4.keep hb5);have hu4:=hU4.lt;have Hkne:=ae (show w4.heap.size≠w2.heap.size by omega);have Hkm:=ae hkm;have Hklt:=ae (show w4.heap.size < w5.heap.size from lt_of_block hkm);have hO5:aK (fun q=>q=w2.heap.size) w3 w5:=ho4.trans (aK.of_below hb5) fun _ hi=>.inl hi
          have Hsz5:=ae (show w2.heap.size <= w5.heap.size from au Hb3.out.size hO5.size);have HB5:=ae (show Below w.heap.size w w5 from HB3.out.trans (hO5.below (fun q hq=>by have:=HB2.out.size;omega) HB3.out.size));have Hrow5:=ae (show ∀ b,b < w2.heap.size -> w5.heap[b]?=w2.heap[b]? from fun b hb=>(hO5.block b (by have:=Hb3.out.size;omega) (by omega)).trans (Hb3.out.block b hb));have HF1:=ae hF1;have HF2:=ae hF2;have HF3:=ae hF3;have Hbo:=ae hbo;have hcapm:cap <= 9223372036854775807:=by unfold maxLen at hc2;omega
          have hcutL:=fun W=>rY W gb nL cap (by have:=Hn1.out;omega) Hcn.out hcapm
          obtain⟨AL,hAL⟩:∃ x,(if cap=1 then some (⟨gb,0,none⟩:Addr) else some ⟨gb,1,none⟩)=x:=⟨_,rfl⟩
          obtain⟨n,hn⟩:∃ n,L.length=n:=⟨_,rfl⟩
          have hnm:n <= 9223372036854775806:=by have:=Hn1.out;have:=Hcn.out;omega
          rw[hAL,show nL - 1=n by have:=Hn1.out;omega] at hcutL;have HAL:=ae hAL;have Hn:=ae hn;rw[hF1] at g1;rw[hF2] at g2;rw[hF3] at g3;clear hAL hn hU4 ho4 hb5 hkm hO5 hF1 hF2 hF3 hbo hu4 hcell0 hcb0 hn0I hn1I hn0I2 hb0I hbeq hnb1 hb1I hb0I2 hcapm HB0 Hb0l Hnb Hnr
          have Hnone:=ae (show cJ d0 m0 L=none -> ∀ W,Below w.heap.size w W -> eA w K M (fe M) (.returned (.tuple #[.pointer none,.int .i64 5])) W from fun hn W hW=>by
           rw[Hou.out,Hfo.out,hn]
           exact⟨rfl,hW⟩)
          have Hdone:=ae (show ∀ m,cJ d0 m0 L=some m -> ∀ W,Below w.heap.size w W -> UAt W jk w2.heap.size M ⟨d0,m,⟨g,(0 :: r) :: L,dead⟩⟩ -> eA w K M (fe M) (.returned (.tuple #[.pointer (some ⟨w2.heap.size,0,none⟩),.int .i64 0])) W from fun m hn W hW hU=>by
           rw[Hou.out,Hfo.out,hn]
           exact⟨⟨_,jk,rfl,HKd.out,hU,Hfoot.out,HB2.out.size⟩,hW⟩)
          go_wp2_with fail;clear g1 g2 g3 hcutL
          go_loopw [62] (fun i wr=>∃ (k:Nat) (m:RMap),k <= n /\ i=.int .i64 (k:Int) /\ validR m=true /\ cJ d0 m0 L=cJ d0 m (L.drop k) /\ UAt wr jk w2.heap.size M ⟨d0,m,⟨g,(0 :: r) :: L,dead⟩⟩ /\ aK (fun q=>q=w2.heap.size) w5 wr) (fun i _=>n - (intOf i).toNat)
          case atStart=>exact⟨0,m0,by omega,rfl,Hbo.out.2,rfl,HU5.out,aK.refl _ _⟩
          case round=>
           obtain⟨k,m,hkn,rfl,hvm,hst,hU,ho⟩:=hrel;have hsu:w2.heap.size <= wr.heap.size:=au Hsz5.out ho.size;have hlow:∀ q,q=w2.heap.size -> w.heap.size <= q:=fun q hq=>by have:=HB2.out.size;omega
           have hBr:Below w.heap.size w wr:=HB5.out.trans (ho.below hlow HB5.out.size)
           by_cases hkl':k < n
           ·have hkI:(k:Int) < (n:Int):=by omega
            have hkl:k < L.length:=by rw[Hn.out];exact hkl'
            obtain⟨gb2,cap2,x,hv2,hBx,hcx⟩:=Hrows.out.elem (k+1) (by rw[aB];omega);have e1:gb2=gb:=by simp at hv2;omega
            subst e1;have hBx:Bytes R' w2 x L[k]:=hBx;have hyl:L[k].length <= 65536:=Hj1.out.lens _ (List.mem_cons_of_mem _ (aA hkl));have hdr:L.drop k=L[k] :: L.drop (k+1):=List.drop_eq_getElem_cons hkl
            obtain⟨y,hyy⟩:∃ y,L[k]=y:=⟨_,rfl⟩
            rw[hyy] at hBx hyl hdr;rw[hdr] at hst;have hAL':AL=some ⟨gb2,1,none⟩:=by rw[<- HAL.out];exact if_neg (by have:=Hcn.out;have:=Hn1.out;omega)
            subst hAL';have hkp:∀ q,q < w2.heap.size -> wr.heap[q]?=w2.heap[q]?:=fun q hq=>(ho.block q (by have:=Hsz5.out;omega) (by omega)).trans (Hrow5.out q hq)
            have hcx':wr.cell? ⟨gb2,1+k,none⟩=some x:=by
             rw[Nat.add_comm 1 k];unfold World.cell? at hcx ⊢;rw[hkp gb2 hgb];exact hcx
            have hkm:wr.heap[w4.heap.size]?=some (jd F1 F2 F3):=(ho.block _ Hklt.out Hkne.out).trans Hkm.out;have Hho':=ae ho;have HU:=ae hU;have Hst:=ae hst;have HBr:=ae hBr;have Hlo:=ae hlow;have Hvm:=ae hvm;have hBy:=hBx.keep (w':=wr) fun q _ hlt=>hkp q hlt
            have HBy:=ae hBy;have HRl:=ae (show ∀ q,R' q -> q < wr.heap.size from fun q hq=>aw (HR'.out q hq).2 hsu);clear hst hdr hyy hcx hv2 ho hU hBr hBx hkp hlow hvm;cases y with
            | nil=>
              obtain⟨ay,cy,rfl,-⟩:=id hBy;dsimp only[List.length_nil] at *;clear hBy HBy;go_wp2_with fail;go_ret2;exact Hnone.out Hst.out _ HBr.out
            | cons kk rr=>
              obtain⟨ay,cy,rfl,hz1,hz2,-,-⟩:=id hBy;obtain⟨-,-,-,hz4⟩:=hBy.cells;obtain⟨by_,oy,rfl,-,hbyl,hcy⟩:=hz4.resolve_left (by simp);have hcy0:=hcy 0 (by simp);rw[Nat.add_zero,List.getElem_cons_zero] at hcy0
              obtain⟨ny,hny⟩:∃ n,(kk :: rr).length=n:=⟨_,rfl⟩
              rw[hny] at hcx' hz1;have hnr:ny - 1=rr.length:=by rw[<- hny];rfl
              have hny1:1 <= ny:=by rw[<- hny,aB];omega
              have hy0I:¬ (ny:Int)=0:=by omega
              have hy0I2:(0:Int) < (ny:Int):=by omega
              have hcym:cy <= 9223372036854775807:=by unfold maxLen at hz2;omega
              have hcut:=fun W=>lO W by_ oy ny cy hny1 hz1 hcym
              obtain⟨AV2,hAV2⟩:∃ x,(if cy=1 then some (⟨by_,oy,none⟩:Addr) else some ⟨by_,oy+1,none⟩)=x:=⟨_,rfl⟩
              rw[hAV2,hnr] at hcut;have hdd:=hBy.drop 1 (by rw[hny];exact hny1);have hbs2:Bytes R' wr (.slice AV2 rr.length (cy - 1)) rr:=by rw[<- hAV2];exact hdd
              have Hrl:=ae (show rr.length <= 400000 by rw[aB] at hyl;omega);have hkz:B kk=.int .u8 (kk.toNat:Int):=rfl;rw[hkz] at hcy0;have Hbs2:=ae hbs2;clear hBy HBy hz4 hcy hny hdd hbs2 hAV2 hyl hkz hz2 hcym hnr
              by_cases h1:kk=1
              ·skip
               subst h1;have hcy0:wr.cell? ⟨by_,oy,none⟩=some (.int .u8 1):=hcy0;have hlk:=tt hkm;rw[HF1.out] at hlk;have hC:=rU wr (bi HT.out h3 HBr.out) (au h3 HBr.out.size) jk w2.heap.size M _ HU.out Hbo.out.1 Hvm.out R' AV2 (cy - 1) rr Hbs2.out HRl.out Hrl.out;dsimp only at hC
               obtain⟨o,hoo⟩:∃ o,cQ d0 m (1 :: rr)=o:=⟨_,rfl⟩
               rw[hoo] at hC;have HC:=ae hC;have Hoo:=ae hoo;clear hC hoo;go_wp2_with fail;refine HC.out.mono ?_;rintro e w6 hp;clear HC hlk hcut hcx' hcy0 hkm;cases o with
               | none=>
                 obtain⟨rfl,ho6⟩:=hp;have Hlast:=ae (Hnone.out (by rw[Hst.out];unfold cJ;rw[Hoo.out]) w6 (HBr.out.trans (ho6.below Hlo.out HBr.out.size)));clear ho6;go_wp2_with fail;go_ret2;exact Hlast.out
               | some x2=>
                 obtain⟨rfl,hU6,ho6⟩:=hp
                 have Hrel:=ae (show validR x2=true /\ cJ d0 m0 L=cJ d0 x2 (L.drop (k+1)) /\ UAt w6 jk w2.heap.size M ⟨d0,x2,⟨g,(0 :: r) :: L,dead⟩⟩ /\ aK (fun q=>q=w2.heap.size) w5 w6 from
                  ⟨kN Hoo.out,by rw[Hst.out];conv=>lhs;unfold cJ
                                 rw[Hoo.out],hU6,Hho'.out.trans ho6 fun _ hi=>.inl hi⟩)
                 clear hU6 ho6;go_wp2_with fail
                 go_roundw
                 case rel=>exact⟨k+1,x2,by omega,by go_num,Hrel.out⟩
                 case measure=>simp[intOf];omega
              ·by_cases h2:kk=2
               ·skip
                subst h2;have hcy0:wr.cell? ⟨by_,oy,none⟩=some (.int .u8 2):=hcy0;have hlk:=tu hkm;rw[HF2.out] at hlk;have hC:=nX wr (bi HT.out h3 HBr.out) (au h3 HBr.out.size) jk w2.heap.size M _ HU.out Hbo.out.1 Hvm.out R' AV2 (cy - 1) rr Hbs2.out HRl.out Hrl.out;dsimp only at hC
                obtain⟨o,hoo⟩:∃ o,cQ d0 m (2 :: rr)=o:=⟨_,rfl⟩
                rw[hoo] at hC;have HC:=ae hC;have Hoo:=ae hoo;clear hC hoo;go_wp2_with fail;refine HC.out.mono ?_;rintro e w6 hp;clear HC hlk hcut hcx' hcy0 hkm;cases o with
                | none=>
                  obtain⟨rfl,ho6⟩:=hp;have Hlast:=ae (Hnone.out (by rw[Hst.out];unfold cJ;rw[Hoo.out]) w6 (HBr.out.trans (ho6.below Hlo.out HBr.out.size)));clear ho6;go_wp2_with fail;go_ret2;exact Hlast.out
                | some x2=>
                  obtain⟨rfl,hU6,ho6⟩:=hp
                  have Hrel:=ae (show validR x2=true /\ cJ d0 m0 L=cJ d0 x2 (L.drop (k+1)) /\ UAt w6 jk w2.heap.size M ⟨d0,x2,⟨g,(0 :: r) :: L,dead⟩⟩ /\ aK (fun q=>q=w2.heap.size) w5 w6 from
                   ⟨kN Hoo.out,by rw[Hst.out];conv=>lhs;unfold cJ
                                  rw[Hoo.out],hU6,Hho'.out.trans ho6 fun _ hi=>.inl hi⟩)
                  clear hU6 ho6;go_wp2_with fail
                  go_roundw
                  case rel=>exact⟨k+1,x2,by omega,by go_num,Hrel.out⟩
                  case measure=>simp[intOf];omega
               ·by_cases h3':kk=3
                ·skip
                 subst h3';have hcy0:wr.cell? ⟨by_,oy,none⟩=some (.int .u8 3):=hcy0;have hlk:=tv hkm;rw[HF3.out] at hlk;have hC:=pu wr (bi HT.out h3 HBr.out) (au h3 HBr.out.size) jk w2.heap.size M _ HU.out  Hvm.out R' AV2 (cy - 1) rr Hbs2.out HRl.out Hrl.out;dsimp only at hC
                 obtain⟨o,hoo⟩:∃ o,cQ d0 m (3 :: rr)=o:=⟨_,rfl⟩
                 rw[hoo] at hC;have HC:=ae hC;have Hoo:=ae hoo;clear hC hoo;go_wp2_with fail;refine HC.out.mono ?_;rintro e w6 hp;clear HC hlk hcut hcx' hcy0 hkm;cases o with
                 | none=>
                   obtain⟨rfl,ho6⟩:=hp;have Hlast:=ae (Hnone.out (by rw[Hst.out];unfold cJ;rw[Hoo.out]) w6 (HBr.out.trans (ho6.below Hlo.out HBr.out.size)));clear ho6;go_wp2_with fail;go_ret2;exact Hlast.out
                 | some x2=>
                   obtain⟨rfl,hU6,ho6⟩:=hp
                   have Hrel:=ae (show validR x2=true /\ cJ d0 m0 L=cJ d0 x2 (L.drop (k+1)) /\ UAt w6 jk w2.heap.size M ⟨d0,x2,⟨g,(0 :: r) :: L,dead⟩⟩ /\ aK (fun q=>q=w2.heap.size) w5 w6 from
                    ⟨kN Hoo.out,by rw[Hst.out];conv=>lhs;unfold cJ
                                   rw[Hoo.out],hU6,Hho'.out.trans ho6 fun _ hi=>.inl hi⟩)
                   clear hU6 ho6;go_wp2_with fail
                   go_roundw
                   case rel=>exact⟨k+1,x2,by omega,by go_num,Hrel.out⟩
                   case measure=>simp[intOf];omega
                ·have hne:∀ j:Nat,j < 256 -> kk≠UInt8.ofNat j -> ¬ (kk.toNat:Int)=(j:Int):=fun j hj h e=>h (by
                  have e':kk.toNat=j:=by omega
                  rw[<- e']
                  simp)
                 obtain⟨z,hlk⟩:=tw hkm (kk.toNat:Int) (hne 1 (by decide) h1) (hne 2 (by decide) h2) (hne 3 (by decide) h3')
                 have Hnx:=ae (show cQ d0 m (kk :: rr)=none by
                  unfold cQ;dsimp only
                  rw[if_neg h3',if_neg h1,if_neg h2])
                 have HNst:=ae (show cJ d0 m0 L=none by
                  rw[Hst.out];unfold cJ
                  rw[Hnx.out])
                 clear h1 h2 h3' hne hcut;go_wp2_with fail;go_ret2;exact Hnone.out HNst.out _ HBr.out
           ·have hkI:¬ (k:Int) < (n:Int):=by omega
            have hke:L.drop k = []:=List.drop_eq_nil_of_le (by rw[Hn.out];omega);rw[hke] at hst;have Hlast:=ae (Hdone.out m hst wr hBr hU);clear hst hke hU ho hBr hkl' hlow hsu;go_wp2_with fail;go_ret2;exact Hlast.out
       ·have hk0I:¬ (k.toNat:Int)=0:=fun e=>hk0 (UInt8.toNat_inj.1 (by simpa using e))
        have hkz:B k=.int .u8 (k.toNat:Int):=rfl;rw[hkz] at hcb0
        have Hfin:=ae (show eA w K M (fe M) (.returned (.tuple #[.pointer none,.int .i64 5])) w3 from by
         rw[Hou.out]
         have e:fp ((k :: r) :: L)=none:=by
          unfold fp dY;dsimp only;rw[if_neg hk0]
         rw[e]
         exact⟨rfl,HB3.out⟩)
        clear hk0 hkz;go_wp2_with fail;rw[<- Hw3.out];go_ret2;exact Hfin.out
end
end Go.Proofs.YtobjdpngnfbicaaGreatDoor
