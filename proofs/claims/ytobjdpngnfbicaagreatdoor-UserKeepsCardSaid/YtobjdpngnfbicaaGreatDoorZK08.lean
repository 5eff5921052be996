/-
  Disk5 JMath UMath UMany RCod3
-/
import Derived.Test.YtobjdpngnfbicaaGreatDoorZK07
import Derived.Test.YtobjdpngnfbicaaGreatDoorZK03
open Go.Lib renaming hid->ae
open Go.IntWalk renaming i64_in->af,i64_quo->ah,u32_in->aj,rem_in->am,u8_in->ap
open Nat renaming le_refl->aq
open List renaming length_append->ax,append_assoc->az,length_cons->aB
open Go.Proofs.Tryz renaming prog->aC
namespace Go.Proofs.YtobjdpngnfbicaaGreatDoor
open Go.RowKit
set_option linter.unusedVariables false
set_option maxRecDepth 20000
section
attribute [local go_sem ↓] bq df dg dk cP dh
def MD.write (M:MD) (i:Nat) (l:List UInt8):MD × Int:=
 match M.fault with
 | none=>({ M with S:=M.S.set i l,writes:=M.writes+1 },0)
 | some (0,t)=>({ M with S:=M.S.set i t,fault:=none,down:=true },341)
 | some (k+1,t)=>({ M with S:=M.S.set i l,fault:=some (k,t),writes:=M.writes+1 },0)
theorem qm (w:World) (K:DK) (M:MD) (i:Int) (v:Value) (h:bj w K M) (hc:M.chk i≠0):
 Calls aC 33 #[.pointer (some ⟨K.d,0,none⟩),.int .i64 i,v] w fun e w'=>e=.returned (.int .i64 (M.chk i)) /\ w=w':=by
 have hb:(M.chk i == 0)=false:=beq_eq_false_iff_ne.2 hc;have hb2:(M.chk i != 0)=true:=bne_iff_ne.2 hc
 go_enter Tryz.func33,Tryz.ntmps33
 go_wp2_with fail;refine(e9 w K M i h).mono ?_;rintro e w' ⟨rfl,rfl⟩;go_wp2_with fail
 go_ret
 exact⟨rfl,rfl⟩
theorem fu.put {L:List Value} {S:List (List UInt8)} (h:fu L S) (i:Nat) (hi:i < S.length) (l:List UInt8) (hl:l.length=64):
 fu (L.take (i * 64) ++ l.map B ++ L.drop (i * 64+64)) (S.set i l):=by
 obtain⟨h1,h2,h3⟩:=h;have hlen:(L.take (i * 64) ++ l.map B ++ L.drop (i * 64+64)).length=L.length:=by simp;omega
 refine⟨by simp only[List.length_set];omega,fun j hj=>?_,fun s hs=>?_⟩
 ·simp only[List.length_set] at hj
  by_cases hji:j=i
  ·subst hji;rw[List.getElem_set_self]
   have e:(L.take (j * 64) ++ l.map B ++ L.drop (j * 64+64)).drop (j * 64)=l.map B ++ L.drop (j * 64+64):=by
    rw[az];have:(L.take (j * 64)).length=j * 64:=by simp;omega
    exact List.drop_left' this
   rw[e,List.take_append_of_le_length (by simp;omega),List.take_of_length_le (by simp;omega)]
  ·rw[List.getElem_set_ne (Ne.symm hji),<- h2 j hj];apply List.ext_getElem?;intro k;simp only[List.getElem?_take,List.getElem?_drop]
   by_cases hk:k < 64
   ·rw[if_pos hk,if_pos hk];simp only[List.getElem?_append,ax,List.length_take,List.length_map,List.getElem?_take,List.getElem?_drop,hl]
    by_cases hlt:j < i
    ·rw[if_pos (by omega),if_pos (by omega),if_pos (by omega)]
    ·rw[if_neg (by omega)]
     congr 1
     omega
   ·rw[if_neg hk,if_neg hk]
 ·rcases List.mem_or_eq_of_mem_set hs with h | rfl
  ·exact h3 _ h
  ·exact hl
theorem oE (w:World) (K:DK) (M:MD) (h:bj w K M) (hft:M.fault=none) (i:Nat) (hi:i < M.S.length) (hdn:M.down=false) (hw:M.writes < 4611686018427387904) (F:aV) (v:Value) (l:List UInt8) (hv:Bytes F w v l) (hl:l.length=64):
 Calls aC 33 #[.pointer (some ⟨K.d,0,none⟩),.int .i64 (i:Int),v] w fun e w'=>e=.returned (.int .i64 0) /\
  bj w' K { M with S:=M.S.set i l,writes:=M.writes+1 } /\ aK K.foot w w' /\ w'.heap.size=w.heap.size:=by
 have hc:M.chk (i:Int)=0:=by unfold MD.chk;rw[hdn,if_neg (by simp),if_pos (by omega)]
 have Hc:=ae hc;clear hc;have hv0:=hv;obtain⟨a,cap,rfl,hcp,hm,hz,hx⟩:=hv;obtain⟨b,off,rfl,hF,hld⟩:=hv0.load hl;have hld0:=hld w.drew rfl;have har:=fun W:World=>gN W (some ⟨b,off,none⟩) 64 cap (aq _)
 clear hld hx hz;have h0:=h;obtain⟨h1,h2,⟨cap',hcap,hcm,h3⟩,⟨L,h4,h5⟩,h6,h7⟩:=h;rw[hft] at h3;have hne:=h3.ne h4 (by decide);have hlt:=h3.lt;have c0:=h3.cell 0;have c2:=h3.cell 2;have c3:=h3.cell 3;have f3:=h3.free 3;simp at c0 c2 c3;have hsl:=h5.1;have hst:=oA (P:=aC) (w:=w.drew) eQ (off:=i * 64) h4 (V:=l.map B) (by simpa using hl) (by omega) (fy l);have H6:=ae h6;have H7:=ae h7;have Hft:=ae hft;clear h6 h7 hft;have HS:=ae (h5.put i hi l hl)
 obtain⟨w3,hw3⟩:∃ w3,w3=w.drew.setRow K.bs (L.take (i * 64) ++ l.map B ++ L.drop (i * 64+64)).toArray:=⟨_,rfl⟩
 rw[<- hw3] at hst;have h3b:=h3.drew.row_other (L.take (i * 64) ++ l.map B ++ L.drop (i * 64+64)).toArray hne;have h4b:=h4.drew.row (L.take (i * 64) ++ l.map B ++ L.drop (i * 64+64));rw[<- hw3] at h3b h4b;have hon:aK K.foot w w3:=by rw[hw3];exact(aK.refl _ _).drew.setRow (.inl (.inr (.inl rfl))) _
 have hsz:w3.heap.size=w.heap.size:=by rw[hw3];simp
 have c3b:=h3b.cell 3;have f3b:=h3b.free 3;simp at c3b;have Hsz:=ae hsz;clear hsz;clear hw3;generalize hl2:l.length=ln at *;obtain rfl:ln=64:=hl;have HL:=ae hl2;clear hl2;have hn0:(i:Int) < (M.S.length:Int):=by omega
 go_enter Tryz.func33,Tryz.ntmps33
 go_wp2_with fail;refine(e9 w K M i h0).mono ?_;rintro e w' ⟨rfl,rfl⟩;rw[Hc.out];go_wp2_with fail
 go_still_tail 9,(by kernel_rfl)
 change wpList _ _ _ _ _ w.drew;go_wp2_with fail
 go_ret
 refine⟨rfl,⟨by simpa using h1,by simpa using h2,⟨cap',by simpa using hcap,hcm,?_⟩,⟨_,h4b.set_other _ hne.symm,HS.out⟩,H6.out,fun k t ht=>?_⟩,hon.setCell (.inl (.inl rfl)) _,?_⟩
 ·rw[Hft.out];simpa using h3b.set 3 (.int .i64 ((M.writes:Int)+1))
 ·rw[Hft.out] at ht;cases ht
 ·simp[World.setCell];exact Hsz.out
end
/-! check sums -/
def fc:List (BitVec 32):=[0x00000000#32,0x1DB71064#32,0x3B6E20C8#32,0x26D930AC#32,0x76DC4190#32,0x6B6B51F4#32,0x4DB26158#32,0x5005713C#32,
 0xEDB88320#32,0xF00F9344#32,0xD6D6A3E8#32,0xCB61B38C#32,0x9B64C2B0#32,0x86D3D2D4#32,0xA00AE278#32,0xBDBDF21C#32]
def nib (r:BitVec 32):BitVec 32:=(r >>> 4) ^^^ fc.getD (r &&& 15#32).toNat 0#32
def sH (r:BitVec 32) (c:UInt8):BitVec 32:=nib (nib (r ^^^ BitVec.ofNat 32 c.toNat))
def jG (r:BitVec 32) (l:List UInt8):BitVec 32:=l.foldl sH r
def crc (l:List UInt8):Nat:=(~~~ (jG (~~~ 0#32) l)).toNat
theorem oF (l:List UInt8):crc l < 4294967296:=BitVec.isLt _
/-! numbers of four bytes, the lowest first -/
def bL (n:Nat):List UInt8:=[UInt8.ofNat n,UInt8.ofNat (n / 256),UInt8.ofNat (n / 65536),UInt8.ofNat (n / 16777216)]
def bp (b:List UInt8) (at_:Nat):Nat:=(b.getD at_ 0).toNat+256 * (b.getD (at_+1) 0).toNat+65536 * (b.getD (at_+2) 0).toNat+16777216 * (b.getD (at_+3) 0).toNat
theorem dl (n:Nat):(bL n).length=4:=rfl
theorem jU (b:List UInt8) (a:Nat):bp b a < 4294967296:=by
 unfold bp;have h1:=(b.getD a 0).toNat_lt;have h2:=(b.getD (a+1) 0).toNat_lt;have h3:=(b.getD (a+2) 0).toNat_lt;have h4:=(b.getD (a+3) 0).toNat_lt;omega
theorem fE (p:List UInt8) (n:Nat) (q:List UInt8) (hn:n < 4294967296) (a:Nat) (ha:a=p.length):bp (p ++ bL n ++ q) a=n:=by
 subst ha
 have e:∀ i,i < 4 -> (p ++ bL n ++ q).getD (p.length+i) 0=(bL n).getD i 0:=fun i hi=>by
  rw[List.getD_eq_getElem?_getD,az,List.getElem?_append_right (by omega),Nat.add_sub_cancel_left,List.getElem?_append_left (by rw[dl];exact hi),<- List.getD_eq_getElem?_getD]
 unfold bp;rw[show p.length=p.length+0 from rfl,e 0 (by omega),Nat.add_zero,e 1 (by omega),e 2 (by omega),e 3 (by omega)];simp[bL];omega
/-! sectors -/
def ek (b:List UInt8):List UInt8:=b ++ bL (crc b)
def cd (s:List UInt8):Bool:=bp s 60 == crc (s.take 60)
def dy:List UInt8:=[72,78,75,74]
def bZ (g:Nat):List UInt8:=ek (dy ++ bL g ++ List.replicate 52 0)
def ji (b:List UInt8):List UInt8:=b.take 48 ++ List.replicate (48 - b.length) 0
def cG (g k:Nat) (b:List UInt8) (i:Nat):List UInt8:=ek (bL g ++ bL k ++ bL (b.length - 48 * i) ++ ji (b.drop (48 * i)))
def takes (n:Nat):Nat:=max 1 ((n+47) / 48)
def aT (n:Nat):Nat:=(n - 2) / 2
def bT (n g p:Nat):Nat:=2+g % 2 * aT n+p
theorem dU (b:List UInt8):(ji b).length=48:=by simp[ji];omega
theorem cH (n:Nat):0 < takes n:=by unfold takes;omega
/-! the disk, written whole: with the check whether the power is on -/
def MD.wr (M:MD) (at_:Nat) (s:List UInt8):MD × Int:=if M.down then (M,341) else M.write at_ s
def aY (M:MD):List (Nat × List UInt8) -> MD × Int
 | []=>(M,0)
 | (a,s) :: r=>if (M.wr a s).2=0 then aY (M.wr a s).1 r else M.wr a s
/-! a journal -/
structure MJ where
 g:Nat
 L:List (List UInt8)
 dead:Bool
def aL (L:List (List UInt8)):Nat:=(L.map fun b=>takes b.length).sum
def aO (n g k p:Nat) (b:List UInt8):List (Nat × List UInt8):=(List.range (takes b.length)).map fun i=>(bT n g (p+i),cG g k b i)
def bt (M:MD) (J:MJ) (b:List UInt8):MD × MJ × Int:=
 if J.dead then (M,J,341) else if 65536 < b.length then (M,J,2) else if aT M.S.length - aL J.L < takes b.length then (M,J,7) else
  let r:=aY M (aO M.S.length J.g J.L.length (aL J.L) b)
  if r.2=0 then (r.1,{ J with L:=J.L ++ [b] },0) else (r.1,{ J with dead:=true },r.2)
def bD (M:MD) (J:MJ) (b:List UInt8):MD × MJ × Int:=
 if J.dead then (M,J,341) else if 65536 < b.length then (M,J,2) else if aT M.S.length < takes b.length \/ 4294967295 <= J.g then (M,J,7) else
  let r:=aY M (aO M.S.length (J.g+1) 0 0 b ++ [((J.g+1) % 2,bZ (J.g+1))])
  if r.2=0 then (r.1,{ g:=J.g+1,L:=[b],dead:=false },0) else (r.1,{ J with dead:=true },r.2)
def jV (M:MD) (J:MJ):Int:=if aT M.S.length - aL J.L < 1 then -1 else min (48 * ((aT M.S.length - aL J.L:Nat):Int)) 65536
def cB (M:MD):MD × Int:=aY M ((List.range M.S.length).map (fun i=>(i,List.replicate 64 0)) ++ [(0,bZ 0)])
def dH (s:List UInt8) (i:Nat):Bool:=cd s && (s.take 4 == dy) && (bp s 4 % 2 == i)
def genM (S:List (List UInt8)):Option Nat:=
 let a:=S.getD 0 []
 let b:=S.getD 1 []
 if dH b 1 && (!dH a 0 || decide (bp a 4 < bp b 4)) then some (bp b 4) else if dH a 0 then some (bp a 4) else none
def bU (S:List (List UInt8)) (g p:Nat):List UInt8:=S.getD (bT S.length g p) []
def cj (s:List UInt8) (g k n:Nat):Bool:=cd s && bp s 0 == g && bp s 4 == k && bp s 8 == n
def cE (S:List (List UInt8)) (g k p n:Nat):Nat -> Bool
 | 0=>true
 | i+1=>cE S g k p n i && cj (bU S g (p+i)) g k (n - 48 * i)
def dD (S:List (List UInt8)) (g p:Nat):Nat -> List UInt8
 | 0=>[]
 | i+1=>dD S g p i ++ ((bU S g (p+i)).drop 12).take 48
def cC (S:List (List UInt8)) (g k p:Nat):Option (List UInt8):=
 if aT S.length <= p then none else
  let n:=bp (bU S g p) 8
  if 65536 < n \/ aT S.length < p+takes n then none else
   if cE S g k p n (takes n) then some ((dD S g p (takes n)).take n) else none
def dm (S:List (List UInt8)) (g:Nat):Nat -> Nat -> Nat -> List (List UInt8)
 | 0,_,_=>[]
 | f+1,k,p=>match cC S g k p with
   | none=>[]
   | some b=>b :: dm S g f (k+1) (p+takes b.length)
def ge (M:MD):MJ ⊕ Int:=
 if M.S.length < 8 then .inr 6 else if M.down then .inr 341 else match genM M.S with
  | none=>.inr 340
  | some g=>.inl ⟨g,dm M.S g (aT M.S.length+1) 0 0,false⟩
end Go.Proofs.YtobjdpngnfbicaaGreatDoor
namespace Go.Proofs.YtobjdpngnfbicaaGreatDoor
set_option linter.unusedVariables false
set_option maxRecDepth 20000
/-! records -/
def dI (l:List RKey):List UInt8:=uvar l.length ++ l.flatMap codeText
def dq (d:Nat) (m:RMap):List UInt8:=0 :: (uvar d ++ codeR m)
def k6 (l:List RKey):List UInt8:=1 :: dI l
def eZ (l:List RKey):List UInt8:=2 :: dI l
def fU (m:RMap):List UInt8:=3 :: codeR m
def ij:Nat -> List UInt8 -> Option (List RKey × List UInt8)
 | 0,r=>some ([],r)
 | n+1,r=>match rdT r with
   | none=>none
   | some (k,t)=>(ij n t).map fun p=>(k :: p.1,p.2)
def rdL (b:List UInt8):Option (List RKey × List UInt8):=match rdF b 9 with
 | none=>none
 | some (n,r)=>if n <= r.length then ij n r else none
theorem tl (k:RKey) (r:List UInt8) (hk:k.length < 18446744073709551616):rdT (codeText k ++ r)=some (k,r):=by
 have h:rdF (codeText k ++ r) 9=some (k.length,k ++ r):=fk.2 ⟨hk,by unfold codeText;rw[az]⟩;unfold rdT;rw[h];dsimp only;rw[if_pos (by simp)];simp
theorem pQ:∀ (l:List RKey) (r:List UInt8),(∀ k ∈ l,k.length < 18446744073709551616) -> ij l.length (l.flatMap codeText ++ r)=some (l,r)
 | [],r,_=>rfl
 | k :: l,r,h=>by
   rw[aB,List.flatMap_cons,az];unfold ij;rw[tl k _ (h k List.mem_cons_self)];dsimp only;rw[pQ l r fun x hx=>h x (List.mem_cons_of_mem _ hx)];rfl
theorem l4 (k:RKey):0 < (codeText k).length:=by
 have:=uvar_pos k.length;unfold codeText;rw[ax];omega
theorem qn (l:List RKey):l.length <= (l.flatMap codeText).length:=by
 induction l with
 | nil=>exact aq _
 | cons k l ih=>
   have:=l4 k;rw[List.flatMap_cons,ax,aB];omega
theorem rk (l:List RKey) (hl:l.length < 18446744073709551616) (h:∀ k ∈ l,k.length < 18446744073709551616):rdL (dI l)=some (l,[]):=by
 have e:rdF (dI l) 9=some (l.length,l.flatMap codeText):=fk.2 ⟨hl,rfl⟩;unfold rdL;rw[e];dsimp only;rw[if_pos (qn l)];have:=pQ l [] h;rw[List.append_nil] at this;exact this
/-! the state of records -/
def okR (p:RMap × Int):Option RMap:=if p.2=0 then some p.1 else none
def cQ (d:Nat) (m:RMap):List UInt8 -> Option RMap
 | []=>none
 | k :: r=>if k=3 then (if (dR r).2=0 then okR (mergeR m (dR r).1) else none)
   else if k=1 then (match rdL r with | some (l,[])=>okR (useR m d l) | _=>none)
   else if k=2 then (match rdL r with | some (l,[])=>okR (forgetR m d l) | _=>none)
   else none
def cJ (d:Nat):RMap -> List (List UInt8) -> Option RMap
 | m,[]=>some m
 | m,b :: r=>match cQ d m b with
   | none=>none
   | some x=>cJ d x r
def dY:List UInt8 -> Option (Nat × RMap)
 | []=>none
 | k :: r=>if k=0 then (match rdF r 9 with
   | none=>none
   | some (n,t)=>if n < 8 then (if (dR t).2=0 then some (n,(dR t).1) else none) else none) else none
def fp:List (List UInt8) -> Option (Nat × RMap)
 | []=>none
 | b :: r=>match dY b with
   | none=>none
   | some (d,m)=>(cJ d m r).map fun x=>(d,x)
theorem jl (d:Nat):∀ (l:List (List UInt8)) (m x:RMap) (b:List UInt8),cJ d m l=some x -> cJ d m (l ++ [b])=cQ d x b
 | [],m,x,b,h=>by
   obtain rfl:=Option.some.inj h;show cJ d m [b]=_;unfold cJ;cases cQ d m b with
   | none=>rfl
   | some y=>rfl
 | a :: l,m,x,b,h=>by
   rw[List.cons_append];unfold cJ at h ⊢;cases e:cQ d m a with
   | none=>rw[e] at h;cases h
   | some y=>
     rw[e] at h;exact jl d l y x b h
theorem oG {L:List (List UInt8)} {d:Nat} {m x:RMap} {b:List UInt8} (h:fp L=some (d,m)) (hb:cQ d m b=some x):fp (L ++ [b])=some (d,x):=by
 cases L with
 | nil=>cases h
 | cons a l=>
   rw[List.cons_append];unfold fp at h ⊢;dsimp only at h ⊢;cases e:dY a with
   | none=>rw[e] at h;cases h
   | some p=>
     obtain⟨d',m'⟩:=p;rw[e] at h;dsimp only at h ⊢;cases e2:cJ d' m' l with
     | none=>rw[e2] at h;cases h
     | some y=>
       rw[e2] at h;obtain⟨rfl,rfl⟩:=Prod.mk.inj (Option.some.inj h);rw[jl _ l m' _ b e2,hb];rfl
theorem jm {d:Nat} {m:RMap} (hd:d < 8) (hm:validR m=true):fp [dq d m]=some (d,m):=by
 have e:rdF (uvar d ++ codeR m) 9=some (d,codeR m):=fk.2 ⟨by omega,rfl⟩;unfold fp dY dq;dsimp only;rw[if_pos rfl,e];dsimp only;rw[if_pos hd,jJ hm];rfl
theorem qo {d:Nat} {m:RMap} {l:List RKey} (hl:l.length < 18446744073709551616) (h:∀ k ∈ l,k.length < 18446744073709551616) (h0:(useR m d l).2=0):cQ d m (k6 l)=some (useR m d l).1:=by
 unfold cQ k6;dsimp only;rw[if_neg (by decide),if_pos rfl,rk l hl h];exact if_pos h0
theorem l5 {d:Nat} {m:RMap} {l:List RKey} (hl:l.length < 18446744073709551616) (h:∀ k ∈ l,k.length < 18446744073709551616) (h0:(forgetR m d l).2=0):cQ d m (eZ l)=some (forgetR m d l).1:=by
 unfold cQ eZ;dsimp only;rw[if_neg (by decide),if_neg (by decide),if_pos rfl,rk l hl h];exact if_pos h0
theorem m5 {d:Nat} {m x:RMap} (hx:validR x=true) (h0:(mergeR m x).2=0):cQ d m (fU x)=some (mergeR m x).1:=by
 unfold cQ fU;dsimp only;rw[if_pos rfl,jJ hx];exact(if_pos rfl).trans (if_pos h0)
/-! a user part: its device, its map, its journal; the disk stands beside it -/
structure MU where
 dev:Nat
 m:RMap
 J:MJ
def gJ (M:MD) (U:MU) (b:List UInt8) (x:RMap):MD × MU × Int:=
 if (bt M U.J b).2.2=0 then ((bt M U.J b).1,⟨U.dev,x,(bt M U.J b).2.1⟩,0) else ((bt M U.J b).1,⟨U.dev,U.m,(bt M U.J b).2.1⟩,(bt M U.J b).2.2)
def fv (M:MD) (U:MU):MD × MU × Int:=((bD M U.J (dq U.dev U.m)).1,⟨U.dev,U.m,(bD M U.J (dq U.dev U.m)).2.1⟩,(bD M U.J (dq U.dev U.m)).2.2)
def ce (M:MD) (U:MU) (b:List UInt8) (x:RMap):MD × MU × Int:=
 if jV M U.J < (b.length:Int) then
  (if (fv M U).2.2=0 then (if jV (fv M U).1 (fv M U).2.1.J < (b.length:Int) then ((fv M U).1,(fv M U).2.1,7) else gJ (fv M U).1 (fv M U).2.1 b x) else fv M U)
 else gJ M U b x
def cT (M:MD) (U:MU) (l:List RKey) (p:RMap × Int) (b:List UInt8):MD × MU × Int:=
 if U.J.dead then (M,U,8) else if l = [] then (M,U,0) else if p.2=0 then ce M U b p.1 else (M,U,p.2)
def cq (M:MD) (U:MU) (l:List RKey):MD × MU × Int:=cT M U l (useR U.m U.dev l) (k6 l)
def du (M:MD) (U:MU) (l:List RKey):MD × MU × Int:=cT M U l (forgetR U.m U.dev l) (eZ l)
def dJ (M:MD) (U:MU) (x:RMap):MD × MU × Int:=
 if U.J.dead then (M,U,8) else if (mergeR U.m x).2=0 then (if codeR U.m=codeR (mergeR U.m x).1 then (M,U,0) else ce M U (fU x) (mergeR U.m x).1) else (M,U,(mergeR U.m x).2)
def eJ (M:MD) (U:MU):MD × MU × Int:=if U.J.dead then (M,U,8) else fv M U
def ef (M:MD) (d:Nat):MD × MU × Int:=((bt (cB M).1 ⟨0,[],false⟩ (dq d .new)).1,⟨d,.new,(bt (cB M).1 ⟨0,[],false⟩ (dq d .new)).2.1⟩,(bt (cB M).1 ⟨0,[],false⟩ (dq d .new)).2.2)
def fe (M:MD):MU ⊕ Int:=match ge M with
 | .inr c=>.inr c
 | .inl J=>if J.L = [] then .inr 340 else match fp J.L with
   | none=>.inr 5
   | some (d,m)=>.inl ⟨d,m,J⟩
theorem qp {a b:RMap} (ha:validR a=true) (hb:validR b=true) (h:codeR a=codeR b):a=b:=by
 have h1:=jJ ha;rw[h,jJ hb] at h1;exact(Prod.mk.inj h1).1.symm
structure UOk (U:MU):Prop where
 dev:U.dev < 8
 valid:validR U.m=true
 fold:fp U.J.L=some (U.dev,U.m)
end Go.Proofs.YtobjdpngnfbicaaGreatDoor
namespace Go.Proofs.YtobjdpngnfbicaaGreatDoor
open Go.RowKit
set_option linter.unusedVariables false
set_option maxRecDepth 20000
section
attribute [local go_sem] opC upC
def jn (b:List UInt8):Option (Nat × List UInt8):=match rdF b 9 with
 | none=>none
 | some (n,r)=>if n <= r.length then some (n,r) else none
theorem rn (b:List UInt8):rdL b=match jn b with
 | none=>none
 | some (n,r)=>ij n r:=by
 unfold rdL jn;cases rdF b 9 with
 | none=>rfl
 | some p=>
   obtain⟨n,r⟩:=p;dsimp only
   by_cases h:n <= r.length
   ·rw[if_pos h,if_pos h]
   ·rw[if_neg h,if_neg h]
def tJ (w:World) (R:Nat) (sl:Value) (bl:Nat) (o:Option (Nat × List UInt8)) (e:Ending) (w':World):Prop:=
 (match o with
  | some (k,r)=>e=.returned (.int .i64 (k:Int)) /\ ∃ at':Nat,at'+r.length=bl /\ Blk w' R [sl,.int .i64 (at':Int)] 247
  | none=>e=.panicked g7) /\ aK (fun q=>q=R) w w'
set_option maxRecDepth 100000 in
set_option maxHeartbeats 2000000 in
theorem qq (w:World) (R:Nat) (F:aV) (av:Option Addr) (cap:Nat) (b:List UInt8) (k0:Nat) (hR:Blk w R [.slice av b.length cap,.int .i64 (k0:Int)] 247) (hB:Bytes F w (.slice av b.length cap) b) (hF:∀ q,F q -> q≠R) (hk:k0 <= b.length):
 Calls aC 220 #[.pointer (some ⟨R,0,none⟩)] w (tJ w R (.slice av b.length cap) b.length (jn (b.drop k0))):=by
 have hN:=jS w R F av cap b k0 hR hB hF hk;have hbl:b.length <= 9223372036854775807:=by obtain⟨-,h1,h2,-⟩:=hB.cells;unfold maxLen at h2;omega
 have HB:=ae (show ∀ W,aK (fun q=>q=R) w W -> Bytes F W (.slice av b.length cap) b from fun W hW=>hB.only hW fun q hq e=>hF q hq e)
 obtain⟨o,ho⟩:∃ o,rdF (b.drop k0) 9=o:=⟨_,rfl⟩
 obtain⟨n,hn⟩:∃ n,b.length=n:=⟨_,rfl⟩
 obtain⟨ot,hot⟩:∃ ot,jn (b.drop k0)=ot:=⟨_,rfl⟩
 rw[ho,hn] at hN;rw[hot];rw[hn] at hbl hk ⊢;unfold jn at hot;rw[ho] at hot;have HN:=ae hN;have Ho:=ae ho;have Hn:=ae hn;have Hot:=ae hot;clear hN hB ho hn hot hR
 go_enter Tryz.func220,Tryz.ntmps220
 go_wp2_with fail;refine HN.out.mono ?_;rintro e w1 hC;clear HN;cases o with
 | none=>
   obtain⟨rfl,hO⟩:=hC;obtain rfl:ot=none:=Hot.out.symm;have HO:=ae hO;clear hO;go_wp2_with fail;exact⟨rfl,rfl,HO.out⟩
 | some p=>
   obtain⟨m,r⟩:=p;obtain⟨⟨rfl,k1,hk1,hb1⟩,hO⟩:=hC;have hlen:=iQ Ho.out
   obtain⟨rl,hrl⟩:∃ rl,r.length=rl:=⟨_,rfl⟩
   have hdl:(b.drop k0).length=n - k0:=by rw[List.length_drop,Hn.out]
   rw[hdl,hrl] at hlen;rw[hrl] at hk1;have hm64:m < 18446744073709551616:=hlen.2.2
   have hr1:r=b.drop k1:=by
    have h1:=(fk.1 Ho.out).2;have h2:r=(b.drop k0).drop (uvar m).length:=by rw[h1];simp
    have h3:=congrArg List.length h1;rw[hdl,ax,hrl] at h3;rw[h2,List.drop_drop]
    congr 1
    omega
   have hkn1:k1 <= n:=by omega
   have hkpos:0 < n:=by omega
   obtain⟨bb,ob,rfl⟩:∃ bb ob,av=some ⟨bb,ob,none⟩:=by
    obtain⟨-,-,-,hbc⟩:=(HB.out w1 hO).cells;obtain⟨bb,ob,e,-⟩:=hbc.resolve_left (by intro e;rw[e] at Hn;have:=Hn.out;simp at this;omega);exact⟨bb,ob,e⟩
   have hbc:=(HB.out w1 hO).cells
   have hcap:n <= cap /\ cap <= maxLen:=⟨by rw[<- Hn.out];exact hbc.2.1,hbc.2.2.1⟩
   unfold maxLen at hcap;have hncap:=hcap.1;have hcapm:=hcap.2
   have hsub:IntKind.u64.wrap ((n:Int) - (k1:Int))=(rl:Int):=by
    rw[show (n:Int) - (k1:Int)=(rl:Int) by omega];exact IntWalk.u64_in _ (by omega)
   have hsub2:IntKind.u64.wrap (rl:Int)=(rl:Int):=IntWalk.u64_in _ (by omega)
   have hsub3:IntKind.i64.wrap ((n:Int) - (k1:Int))=(rl:Int):=by
    rw[show (n:Int) - (k1:Int)=(rl:Int) by omega];exact af _ (by omega)
   have Hb1:=ae hb1;have HO:=ae hO;have Hrl:=ae hrl;have Hr1:=ae hr1;have Hk1:=ae hk1;clear hb1 hO hrl hr1 hlen hdl hbc hcap;have d0:∀ w',aI w1.drew w' -> w'.cell? ⟨R,0,none⟩=some (.slice (some ⟨bb,ob,none⟩) n cap):=fun w' hh=>laterC (w:=w1) (by simpa using Hb1.out.cell 0) hh
   have d1:∀ w',aI w1.drew w' -> w'.cell? ⟨R,1,none⟩=some (.int .i64 (k1:Int)):=fun w' hh=>laterC (w:=w1) (by simpa using Hb1.out.cell 1) hh
   by_cases hmr:m <= rl
   ·have hmI:¬ (rl:Int) < (m:Int):=by omega
    have hm63:IntKind.i64.wrap (m:Int)=(m:Int):=af _ (by have:=Hk1.out;omega)
    have Hfin:=ae (show ot=some (m,r) by
     rw[<- Hot.out];show (if m <= r.length then some (m,r) else none)=_
     rw[Hrl.out,if_pos hmr])
    go_wp2_with fail;refine aJ aI [(0,true),(1,true),(2,true),(3,true),(4,true),(5,true),(6,true),(7,true),(8,true),(9,true),(10,true),(11,true),(12,true)] (by kernel_rfl) (by kernel_rfl) aH aG ?_
    repeat (refine aF (v:=?_) rfl (aD rfl) (fun w' hC=>?_) (fun K hK=>?_);rotate_left;(focus (go_simp;(try simp(disch:=omega) only[af]);(try simp(disch:=omega) only[aj]);(try simp(disch:=omega) only[ap]);(try simp(disch:=omega) only[ah]);(try simp(disch:=omega) only[am]);first | done | exact rfl));go_simp;(try simp(disch:=omega) only[af]);(try simp(disch:=omega) only[aj]);(try simp(disch:=omega) only[ap]);(try simp(disch:=omega) only[ah]);(try simp(disch:=omega) only[am]);refine hK _ ?_;clear hK K)
    refine aW ?_;clear d0 d1 hsub hsub2 hsub3
    obtain⟨w8,hw8⟩:∃ w8,w8=w1.drew:=⟨_,rfl⟩
    rw[<- hw8];have HO8:=ae (show aK (fun q=>q=R) w w8 by rw[hw8];exact⟨HO.out.os,HO.out.tape,HO.out.output,HO.out.size,HO.out.block⟩);have Hb8:=ae (show Blk w8 R [.slice (some ⟨bb,ob,none⟩) n cap,.int .i64 (k1:Int)] 247 by rw[hw8];exact Hb1.out.keep rfl);clear hw8;go_wp2_with fail
    go_ret
    rw[Hfin.out];exact⟨⟨rfl,k1,by rw[Hrl.out];have:=Hk1.out;omega,Hb8.out⟩,HO8.out⟩
   ·have hmI:(rl:Int) < (m:Int):=by omega
    obtain rfl:ot=none:=by
     rw[<- Hot.out];show (if m <= r.length then some (m,r) else none)=_;rw[Hrl.out,if_neg hmr]
    go_wp2_with fail;refine aJ aI [(0,true),(1,true),(2,true),(3,true),(4,true),(5,true),(6,true),(7,true),(8,true),(9,true),(10,true),(11,true),(12,true)] (by kernel_rfl) (by kernel_rfl) aH aG ?_
    repeat (refine aF (v:=?_) rfl (aD rfl) (fun w' hC=>?_) (fun K hK=>?_);rotate_left;(focus (go_simp;(try simp(disch:=omega) only[af]);(try simp(disch:=omega) only[aj]);(try simp(disch:=omega) only[ap]);(try simp(disch:=omega) only[ah]);(try simp(disch:=omega) only[am]);first | done | exact rfl));go_simp;(try simp(disch:=omega) only[af]);(try simp(disch:=omega) only[aj]);(try simp(disch:=omega) only[ap]);(try simp(disch:=omega) only[ah]);(try simp(disch:=omega) only[am]);refine hK _ ?_;clear hK K)
    refine aW ?_;have HO9:=ae (show aK (fun q=>q=R) w w1.drew from ⟨HO.out.os,HO.out.tape,HO.out.output,HO.out.size,HO.out.block⟩);go_wp2_with fail;exact⟨rfl,rfl,HO9.out⟩
end
section
attribute [local go_sem] opC upC
def iz:List PanicEntry:=[{ v:=.iface 245 (.agg #[]),recovered:=true }]
set_option maxRecDepth 100000 in
set_option maxHeartbeats 1000000 in
theorem l7 (g:Nat) (x0 x1 x2:Value) (t0 t1 t2:TypeId) (w:World) (h0:Blk w g [x0] t0) (h1:Blk w (g+1) [x1] t1) (h2:Blk w (g+2) [x2] t2):
 CallsD aC 199 #[.pointer (some ⟨g,0,none⟩),.pointer (some ⟨g+1,0,none⟩),.pointer (some ⟨g+2,0,none⟩)] (.panicking g7) w fun e u' w'=>
  e=.returned (.tuple #[]) /\ u'=.panicking iz /\ Blk w' g [.int .u64 0] t0 /\ Blk w' (g+1) [.int .i64 0] t1 /\ Blk w' (g+2) [.bool false] t2 /\ Below g w w':=by
 refine callsD_of_wpS Tryz.func199 rfl fun c₀ cs hu=>?_
 apply wpS_seq;apply wpS_region;simp[wpOpsS,go_sem,recoverD,hu,Tryz.ntmps199,Exit.thenS,g7];refine wpS_of_wp ?_;have hta:∀ w,(Instr.typeAssert (.iface 245 (.agg #[])) 20 245 true).run aC w=.ok (.tuple #[.agg #[],.bool true]) w:=fun _=>by kernel_rfl
 obtain⟨wf,hwf⟩:∃ wf,wf=w.alloc (.cells #[] 245):=⟨_,rfl⟩
 have k0:Blk wf g [x0] t0:=by rw[hwf];exact h0.alloc _
 have k1:Blk wf (g+1) [x1] t1:=by rw[hwf];exact h1.alloc _
 have k2:Blk wf (g+2) [x2] t2:=by rw[hwf];exact h2.alloc _
 have y0:wf.cell? ⟨g,0,none⟩=some x0:=by simpa using k0.cell 0
 have y1:wf.cell? ⟨g+1,0,none⟩=some x1:=by simpa using k1.cell 0
 have y2:wf.cell? ⟨g+2,0,none⟩=some x2:=by simpa using k2.cell 0
 have z0:=k0.free 0;have z1:=k1.free 0;have z2:=k2.free 0;rw[hwf] at y0 y1 y2 z0 z1 z2;go_wp2_with fail;rw[<- hwf];have hb:Below g w wf:=by rw[hwf];exact(Below.refl g w).alloc (Nat.le_of_lt h0.lt) _
 refine⟨rfl,.panicking iz,rfl,.tuple #[],by simp[results,Tryz.results199,go_sem],rfl,rfl,?_,?_,?_,?_⟩
 ·exact((k0.set 0 _).set_other _ (by show g≠g+1;omega)).set_other _ (by show g≠g+2;omega)
 ·exact((k1.set_other _ (by show g+1≠g;omega)).set 0 _).set_other _ (by show g+1≠g+2;omega)
 ·exact((k2.set_other _ (by show g+2≠g;omega)).set_other _ (by show g+2≠g+1;omega)).set 0 _
 ·exact((hb.setCell (p:=⟨g,0,none⟩) (aq _) _).setCell (p:=⟨g+1,0,none⟩) (Nat.le_succ _) _).setCell (p:=⟨g+2,0,none⟩) (by show g <= g+2;omega) _
set_option maxRecDepth 100000 in
set_option maxHeartbeats 1000000 in
theorem m6 (p0 p1 p2:Value) (w:World):
 CallsD aC 199 #[p0,p1,p2] .returning w fun e u' w'=>e=.returned (.tuple #[]) /\ u'=.returning /\ w'=w:=by
 refine callsD_of_wpS Tryz.func199 rfl fun c₀ cs hu=>?_
 apply wpS_seq;apply wpS_region;simp[wpOpsS,go_sem,recoverD,hu,Tryz.ntmps199,Exit.thenS];refine wpS_of_wp ?_;go_wp2_with fail;cases c₀
 simp_all [bodyPostS,results,Tryz.results199,go_sem]
set_option maxRecDepth 100000 in
set_option maxHeartbeats 1000000 in
theorem l8 (g:Nat) (x0 x1 x2:Value) (t0 t1 t2:TypeId) (w:World) (h0:Blk w g [x0] t0) (h1:Blk w (g+1) [x1] t1) (h2:Blk w (g+2) [x2] t2):
 CallsD aC 229 #[.pointer (some ⟨g,0,none⟩),.pointer (some ⟨g+1,0,none⟩),.pointer (some ⟨g+2,0,none⟩)] (.panicking g7) w fun e u' w'=>
  e=.returned (.tuple #[]) /\ u'=.panicking iz /\ Blk w' g [.string ⟨#[]⟩] t0 /\ Blk w' (g+1) [.int .i64 0] t1 /\ Blk w' (g+2) [.bool false] t2 /\ Below g w w':=by
 refine callsD_of_wpS Tryz.func229 rfl fun c₀ cs hu=>?_
 apply wpS_seq;apply wpS_region;simp[wpOpsS,go_sem,recoverD,hu,Tryz.ntmps229,Exit.thenS,g7];refine wpS_of_wp ?_;have hta:∀ w,(Instr.typeAssert (.iface 245 (.agg #[])) 20 245 true).run aC w=.ok (.tuple #[.agg #[],.bool true]) w:=fun _=>by kernel_rfl
 obtain⟨wf,hwf⟩:∃ wf,wf=w.alloc (.cells #[] 245):=⟨_,rfl⟩
 have k0:Blk wf g [x0] t0:=by rw[hwf];exact h0.alloc _
 have k1:Blk wf (g+1) [x1] t1:=by rw[hwf];exact h1.alloc _
 have k2:Blk wf (g+2) [x2] t2:=by rw[hwf];exact h2.alloc _
 have y0:wf.cell? ⟨g,0,none⟩=some x0:=by simpa using k0.cell 0
 have y1:wf.cell? ⟨g+1,0,none⟩=some x1:=by simpa using k1.cell 0
 have y2:wf.cell? ⟨g+2,0,none⟩=some x2:=by simpa using k2.cell 0
 have z0:=k0.free 0;have z1:=k1.free 0;have z2:=k2.free 0;rw[hwf] at y0 y1 y2 z0 z1 z2;go_wp2_with fail;rw[<- hwf];have hb:Below g w wf:=by rw[hwf];exact(Below.refl g w).alloc (Nat.le_of_lt h0.lt) _
 refine⟨rfl,.panicking iz,rfl,.tuple #[],by simp[results,Tryz.results229,go_sem],rfl,rfl,?_,?_,?_,?_⟩
 ·exact((k0.set 0 _).set_other _ (by show g≠g+1;omega)).set_other _ (by show g≠g+2;omega)
 ·exact((k1.set_other _ (by show g+1≠g;omega)).set 0 _).set_other _ (by show g+1≠g+2;omega)
 ·exact((k2.set_other _ (by show g+2≠g;omega)).set_other _ (by show g+2≠g+1;omega)).set 0 _
 ·exact((hb.setCell (p:=⟨g,0,none⟩) (aq _) _).setCell (p:=⟨g+1,0,none⟩) (Nat.le_succ _) _).setCell (p:=⟨g+2,0,none⟩) (by show g <= g+2;omega) _
set_option maxRecDepth 100000 in
set_option maxHeartbeats 1000000 in
theorem m7 (p0 p1 p2:Value) (w:World):
 CallsD aC 229 #[p0,p1,p2] .returning w fun e u' w'=>e=.returned (.tuple #[]) /\ u'=.returning /\ w'=w:=by
 refine callsD_of_wpS Tryz.func229 rfl fun c₀ cs hu=>?_
 apply wpS_seq;apply wpS_region;simp[wpOpsS,go_sem,recoverD,hu,Tryz.ntmps229,Exit.thenS];refine wpS_of_wp ?_;go_wp2_with fail;cases c₀
 simp_all [bodyPostS,results,Tryz.results229,go_sem]
end
end Go.Proofs.YtobjdpngnfbicaaGreatDoor
