/-
  UEx UCalm UWorks
-/
import Derived.Test.YtobjdpngnfbicaaGreatDoorZK36
import Derived.Test.YtobjdpngnfbicaaGreatDoorZK38
import Derived.Test.YtobjdpngnfbicaaGreatDoorZK41
import Derived.Test.YtobjdpngnfbicaaGreatDoorZK39
open Go.Lib renaming hid->ae
open List renaming length_cons->aB
open Go.Proofs.Tryz renaming prog->aC
namespace Go.Proofs.YtobjdpngnfbicaaGreatDoor
set_option linter.unusedVariables false
set_option maxRecDepth 20000
structure qS (M:MD) (U:MU) (n:Nat):Prop where
 fault:M.fault=none
 down:M.down=false
 dead:U.J.dead=false
 gen:U.J.g=0
 room:aL U.J.L+n <= aT M.S.length
theorem pI {M:MD} {U:MU} {n:Nat} {b:List UInt8} (h:qS M U n) (hb:b.length <= 48) (hn:1 <= n) (x:RMap):
 (gJ M U b x).2.2=0 /\ qS (gJ M U b x).1 (gJ M U b x).2.1 (n - 1):=by
 obtain⟨S,down,fault,k⟩:=M;obtain⟨d,m,⟨g,L,dead⟩⟩:=U;obtain⟨h1,h2,h3,h4,h5⟩:=h;dsimp only at h1 h2 h3 h4 h5;subst h1 h2 h3 h4;have ht:takes b.length=1:=by unfold takes;omega
 have hA:bt ⟨S,false,none,k⟩ ⟨0,L,false⟩ b=(upM (bY S (aO S.length 0 L.length (aL L) b)) (k+(aO S.length 0 L.length (aL L) b).length),⟨0,L ++ [b],false⟩,0):=by
  unfold bt;rw[if_neg (by simp),if_neg (by omega),if_neg (by show ¬ aT S.length - aL L < _;omega)];dsimp only;have hw:aY ⟨S,false,none,k⟩ (aO S.length 0 L.length (aL L) b)=(upM (bY S (aO S.length 0 L.length (aL L) b)) (k+(aO S.length 0 L.length (aL L) b).length),0):=dO _ _ _;rw[hw,if_pos rfl]
 unfold gJ;rw[hA,if_pos rfl];refine⟨rfl,rfl,rfl,rfl,rfl,?_⟩;show aL (L ++ [b])+(n - 1) <= aT (bY S _).length;rw[e8];have:aL (L ++ [b])=aL L+takes b.length:=by unfold aL;simp
 omega
theorem lR {M:MD} {U:MU} {n:Nat} {b:List UInt8} (h:qS M U n) (hb:b.length <= 48) (hn:1 <= n) (x:RMap):(ce M U b x).2.2=0 /\ qS (ce M U b x).1 (ce M U b x).2.1 (n - 1):=by
 have hr:=h.room
 have:¬ jV M U.J < (b.length:Int):=by
  unfold jV;rw[if_neg (by omega)];omega
 unfold ce;rw[if_neg this];exact pI h hb hn x
theorem kV (n d:Nat) (h8:8 <= n) (hn:n <= 65536) (hd:d < 8):(cB (MD.fresh n)).2=0 /\ (ef (MD.fresh n) d).2.2=0 /\ ei (ef (MD.fresh n) d).1 (ef (MD.fresh n) d).2.1 /\ qS (ef (MD.fresh n) d).1 (ef (MD.fresh n) d).2.1 (aT n - 1) /\
 (ef (MD.fresh n) d).2.1.m=.new /\ (ef (MD.fresh n) d).2.1.dev=d /\ (ef (MD.fresh n) d).1.S.length=n /\ (ef (MD.fresh n) d).1.writes <= 200000:=by
 have hM:cB (MD.fresh n)=(upM (bY (List.replicate n (List.replicate 64 0)) (dN n ++ [(0,bZ 0)])) (0+(dN n ++ [(0,bZ 0)]).length),0):=by
  rw[ju,show (MD.fresh n).S.length=n by simp[MD.fresh]];exact dO _ _ _
 have hzl:(dN n ++ [(0,bZ 0)]).length=n+1:=by simp[dN]
 have hI:=inv_fresh n h8 hn;have hS:(bY (List.replicate n (List.replicate 64 (0:UInt8))) (dN n ++ [(0,bZ 0)])).length=n:=by rw[e8];simp
 have hsb:(dq d .new).length <= 48:=by
  rcases(by omega:d=0 \/ d=1 \/ d=2 \/ d=3 \/ d=4 \/ d=5 \/ d=6 \/ d=7) with rfl | rfl | rfl | rfl | rfl | rfl | rfl | rfl <;> decide +kernel
 have ht:takes (dq d .new).length=1:=by unfold takes;omega
 have hh:3 <= aT n:=by unfold aT;omega
 obtain⟨b,hbb⟩:∃ b,dq d .new=b:=⟨_,rfl⟩
 unfold ef;rw[hM,hbb]
 obtain⟨S,hSS⟩:∃ S,bY (List.replicate n (List.replicate 64 (0:UInt8))) (dN n ++ [(0,bZ 0)])=S:=⟨_,rfl⟩
 obtain⟨k,hk⟩:∃ k,0+(dN n ++ [(0,bZ 0)]).length=k:=⟨_,rfl⟩
 rw[hSS] at hI hS ⊢;rw[hk];rw[hbb] at hsb ht
 have hA:bt (upM S k) ⟨0,[],false⟩ b=(upM (bY S (aO S.length 0 0 0 b)) (k+(aO S.length 0 0 0 b).length),⟨0,[b],false⟩,0):=by
  unfold bt;rw[if_neg (by simp),if_neg (by omega),if_neg (by show ¬ aT S.length - aL [] < _;rw[hS];show ¬ aT n - 0 < _;omega)];dsimp only;have hw:aY (upM S k) (aO S.length 0 0 0 b)=(upM (bY S (aO S.length 0 0 0 b)) (k+(aO S.length 0 0 0 b).length),0):=dO _ _ _;show (if (aY (upM S k) (aO S.length 0 0 0 b)).2=0 then _ else _)=_;rw[hw,if_pos rfl];show ((aY (upM S k) (aO S.length 0 0 0 b)).1,(⟨0,[b],false⟩:MJ),(0:Int))=_;rw[hw]
 dsimp only;rw[hA];have hI2:Inv (bY S (aO S.length 0 0 0 b)) 0 [b]:=inv_append_up (k:=k) (L:=[]) hI (by show 0+_ <= _;rw[hS];omega) (by omega);refine⟨rfl,rfl,⟨hI2,nofun,hd,gu,?_⟩,⟨rfl,rfl,rfl,rfl,?_⟩,rfl,rfl,?_,?_⟩
 ·show fp [b]=_;rw[<- hbb];exact jm hd gu
 ·show aL [b]+(aT n - 1) <= aT (bY S _).length;rw[e8,hS];have:aL [b]=takes b.length:=by unfold aL;simp
  omega
 ·show (bY S _).length=n;rw[e8,hS]
 ·show k+_ <= _;have:(aO S.length 0 0 0 b).length=takes b.length:=dV _ _ _ _ _;omega
def ll:RMap:=⟨[0,0,0,1,0,0,0,0],[⟨exK,3,1,65536⟩],[]⟩
def oo:RMap:=⟨[0,0,0,2,0,0,0,0],[],[⟨exK,3,1⟩]⟩
theorem dr:validR ll=true:=by decide +kernel
theorem fL:validR oo=true:=by decide +kernel
theorem lS:allowedR 3 [exK]=true:=by decide +kernel
theorem p9:useR .new 3 [exK]=(ll,0):=by
 have e:useM .new 3 [exK]=ll:=by
  unfold useM;rw[sortK_one];show RMap.mk _ (mergeL RIt.pl _ [] _) _=_;rw[mergeL_nil_l];rfl
 unfold useR;rw[if_pos gu,if_pos lS,e];exact if_pos dr
theorem kW:forgetR ll 3 [exK]=(oo,0):=by
 have e:forgetM ll 3 [exK]=oo:=by
  unfold forgetM;show RMap.mk _ _ (mergeL RGo.pl _ [] _)=_;rw[mergeL_nil_l];rfl
 unfold forgetR;rw[if_pos dr,if_pos lS,e];exact if_pos fL
theorem oq:valueR ll exK=65536:=by
 unfold valueR;rw[if_pos dr]
 decide +kernel
theorem sr:valueR oo exK=0:=by
 unfold valueR;rw[if_pos fL]
 decide +kernel
structure tR (M0:MD) (U0:MU) (M1:MD) (U1:MU) (M2:MD) (U2:MU):Prop where
 form:ef (MD.fresh 40) 3=(M0,U0,0)
 fmt:(cB (MD.fresh 40)).2=0
 learn:cq M0 U0 [exK]=(M1,U1,0)
 opened:fe M1=.inl ⟨U1.dev,U1.m,⟨U1.J.g,U1.J.L,false⟩⟩
 drop:du M1 ⟨U1.dev,U1.m,⟨U1.J.g,U1.J.L,false⟩⟩ [exK]=(M2,U2,0)
 dev0:U0.dev=3
 m0:U0.m=.new
 dev1:U1.dev=3
 m1:U1.m=ll
 m2:U2.m=oo
 w0:M0.writes <= 200000
 w1:M1.writes <= 400000
 n1:M1.S.length=40
theorem qT:(dI [exK]).length <= 40:=by decide +kernel
theorem tS:∃ M0 U0 M1 U1 M2 U2,tR M0 U0 M1 U1 M2 U2:=by
 obtain⟨a1,a2,a3,a4,a5,a6,a7,a8⟩:=kV 40 3 (by decide) (by decide) (by decide)
 obtain⟨⟨M0,U0,e0⟩,hf⟩:∃ r,ef (MD.fresh 40) 3=r:=⟨_,rfl⟩
 rw[hf] at a2 a3 a4 a5 a6 a7 a8;dsimp only at a2 a3 a4 a5 a6 a7 a8;have hh:aT 40 - 1=18:=by decide
 rw[hh] at a4;have hl:=qT;have hc1:=kL (l:=[exK]) a3 a4.dead a4.down (by rw[a4.gen];decide) (by decide) (fun k hk=>by rw[List.mem_singleton.1 hk];decide) (by omega)
 have hw:cq M0 U0 [exK]=ce M0 U0 (k6 [exK]) ll:=by
  unfold cq cT;rw[a5,a6,show ((3:Nat):Int)=3 from rfl,p9,if_neg (by rw[a4.dead];decide),if_neg (by simp)];rfl
 obtain⟨b1,b2⟩:=lR (b:=k6 [exK]) a4 (by unfold k6;rw[aB];omega) (by decide) ll
 obtain⟨⟨M1,U1,e1⟩,hg⟩:∃ r,cq M0 U0 [exK]=r:=⟨_,rfl⟩
 rw[<- hw,hg] at b1 b2;rw[hg] at hc1;dsimp only at b1 b2
 have hm1:U1.m=ll:=by
  rcases hc1.out with ⟨-,h,-⟩ | ⟨h,-⟩ | ⟨h,-⟩
  ·have h':U1.m=eV U0.m (useR U0.m U0.dev [exK]) [exK]:=h;rw[h',a5,a6,show ((3:Nat):Int)=3 from rfl,p9];exact if_pos ⟨rfl,by simp⟩
  ·exact absurd b1 h
  ·have h':e1=341:=h;rw[b1] at h';exact absurd h' (by decide)
 have hd1:U1.dev=3:=hc1.dev.trans a6;have hop:=hc1.inv.opened b2.down
 have hb3:qS M1 ⟨U1.dev,U1.m,⟨U1.J.g,U1.J.L,false⟩⟩ (18 - 1):=⟨b2.fault,b2.down,rfl,b2.gen,b2.room⟩
 have hI3:ei M1 ⟨U1.dev,U1.m,⟨U1.J.g,U1.J.L,false⟩⟩:=⟨hc1.inv.inv,hc1.inv.torn,hc1.inv.ok.dev,hc1.inv.ok.valid,hc1.inv.ok.fold⟩
 have hc2:=lN (l:=[exK]) hI3 rfl b2.down (by show U1.J.g+1 < _;rw[b2.gen];decide) (by decide) (fun k hk=>by rw[List.mem_singleton.1 hk];decide) (by omega)
 obtain⟨⟨M2,U2,e2⟩,hk⟩:∃ r,du M1 ⟨U1.dev,U1.m,⟨U1.J.g,U1.J.L,false⟩⟩ [exK]=r:=⟨_,rfl⟩
 have hw2:du M1 ⟨U1.dev,U1.m,⟨U1.J.g,U1.J.L,false⟩⟩ [exK]=ce M1 ⟨U1.dev,U1.m,⟨U1.J.g,U1.J.L,false⟩⟩ (eZ [exK]) oo:=by
  unfold du cT;dsimp only;rw[hm1,hd1,show ((3:Nat):Int)=3 from rfl,kW,if_neg (by decide),if_neg (by simp)];rfl
 obtain⟨b4,b5⟩:=lR (b:=eZ [exK]) hb3 (by unfold eZ;rw[aB];omega) (by decide) oo;rw[<- hw2,hk] at b4;rw[hk] at hc2;dsimp only at b4
 have hm2:U2.m=oo:=by
  rcases hc2.out with ⟨-,h,-⟩ | ⟨h,-⟩ | ⟨h,-⟩
  ·have h':U2.m=eV U1.m (forgetR U1.m U1.dev [exK]) [exK]:=h;rw[h',hm1,hd1,show ((3:Nat):Int)=3 from rfl,kW];exact if_pos ⟨rfl,by simp⟩
  ·exact absurd b4 h
  ·have h':e2=341:=h;rw[b4] at h';exact absurd h' (by decide)
 have hwr:=hc1.writes;have hsz:=hc1.size;dsimp only at hwr hsz;exact⟨M0,U0,M1,U1,M2,U2,by rw[hf,a2],a1,by rw[hg,b1],hop,by rw[hk,b4],a6,a5,hd1,hm1,hm2,a8,by omega,by omega⟩
end Go.Proofs.YtobjdpngnfbicaaGreatDoor
namespace Go.Proofs.YtobjdpngnfbicaaGreatDoor
set_option linter.unusedVariables false
set_option maxRecDepth 20000
def qU (r:MD × MU × Int):Prop:=r.1.fault=none /\ r.1.down=false /\ r.2.2≠341 /\ r.2.1.J.dead=false
theorem ou {M:MD} {J:MJ} {b:List UInt8} (hf:M.fault=none) (hdn:M.down=false) (hd:J.dead=false):(bt M J b).1.fault=none /\ (bt M J b).1.down=false /\ (bt M J b).2.2≠341 /\ (bt M J b).2.1.dead=false:=by
 obtain⟨S,down,fault,k⟩:=M;dsimp only at hf hdn;subst hf hdn;unfold bt;rw[if_neg (by rw[hd];decide)];split
 ·exact⟨rfl,rfl,show (2:Int)≠341 by decide,hd⟩
 ·split
  ·exact⟨rfl,rfl,show (7:Int)≠341 by decide,hd⟩
  ·dsimp only;have hw:aY ⟨S,false,none,k⟩ (aO S.length J.g J.L.length (aL J.L) b)=(upM (bY S (aO S.length J.g J.L.length (aL J.L) b)) (k+(aO S.length J.g J.L.length (aL J.L) b).length),0):=dO _ _ _;rw[hw,if_pos rfl];exact⟨rfl,rfl,show (0:Int)≠341 by decide,hd⟩
theorem mQ {M:MD} {J:MJ} {b:List UInt8} (hf:M.fault=none) (hdn:M.down=false) (hd:J.dead=false):(bD M J b).1.fault=none /\ (bD M J b).1.down=false /\ (bD M J b).2.2≠341 /\ (bD M J b).2.1.dead=false:=by
 obtain⟨S,down,fault,k⟩:=M;dsimp only at hf hdn;subst hf hdn;unfold bD;rw[if_neg (by rw[hd];decide)];split
 ·exact⟨rfl,rfl,show (2:Int)≠341 by decide,hd⟩
 ·split
  ·exact⟨rfl,rfl,show (7:Int)≠341 by decide,hd⟩
  ·dsimp only;have hw:aY ⟨S,false,none,k⟩ (aO S.length (J.g+1) 0 0 b ++ [((J.g+1) % 2,bZ (J.g+1))])=(upM (bY S (aO S.length (J.g+1) 0 0 b ++ [((J.g+1) % 2,bZ (J.g+1))])) (k+(aO S.length (J.g+1) 0 0 b ++ [((J.g+1) % 2,bZ (J.g+1))]).length),0):=dO _ _ _;rw[hw,if_pos rfl];exact⟨rfl,rfl,show (0:Int)≠341 by decide,rfl⟩
theorem ov {M:MD} {U:MU} {b:List UInt8} {x:RMap} (hf:M.fault=none) (hdn:M.down=false) (hd:U.J.dead=false):qU (gJ M U b x):=by
 have h:=ou (b:=b) hf hdn hd;unfold gJ;split
 ·exact⟨h.1,h.2.1,by show (0:Int)≠341;decide,h.2.2.2⟩
 ·exact h
theorem ow {M:MD} {U:MU} (hf:M.fault=none) (hdn:M.down=false) (hd:U.J.dead=false):qU (fv M U):=mQ hf hdn hd
theorem kY {M:MD} {U:MU} {b:List UInt8} {x:RMap} (hf:M.fault=none) (hdn:M.down=false) (hd:U.J.dead=false):qU (ce M U b x):=by
 have h:=ow (M:=M) (U:=U) hf hdn hd;unfold ce;split
 ·split
  ·split
   ·exact⟨h.1,h.2.1,by show (7:Int)≠341;decide,h.2.2.2⟩
   ·exact ov h.1 h.2.1 h.2.2.2
  ·exact h
 ·exact ov hf hdn hd
theorem em {M:MD} {U:MU} {e:Int} (hf:M.fault=none) (hdn:M.down=false) (hd:U.J.dead=false) (he:e≠341):qU (M,U,e):=⟨hf,hdn,he,hd⟩
theorem jE {M:MD} {U:MU} {l:List RKey} {p:RMap × Int} {b:List UInt8} (hf:M.fault=none) (hdn:M.down=false) (hd:U.J.dead=false) (he:p.2≠341):qU (cT M U l p b):=by
 unfold cT;split
 ·exact em hf hdn hd (by decide)
 ·split
  ·exact em hf hdn hd (by decide)
  ·split
   ·exact kY hf hdn hd
   ·exact em hf hdn hd he
theorem kZ {e:Int} (h:e=0 \/ e=7 \/ e=1 \/ e=5):e≠341:=by rcases h with h | h | h | h <;> rw[h] <;> decide
theorem su {M:MD} {U:MU} (A:gL) (hf:M.fault=none) (hdn:M.down=false) (hd:U.J.dead=false):qU (fM M U A):=by
 unfold fM;split
 ·exact jE hf hdn hd (kZ (oc _ _ _))
 ·split
  ·exact jE hf hdn hd (kZ (jz _ _ _))
  ·split
   ·unfold dJ;split
    ·exact em hf hdn hd (by decide)
    ·split
     ·split
      ·exact em hf hdn hd (by decide)
      ·exact kY hf hdn hd
     ·exact em hf hdn hd (kZ (kK _ _))
   ·unfold eJ;split
    ·exact em hf hdn hd (by decide)
    ·exact ow hf hdn hd
theorem gR {M:MD} {U:MU} {A:gL} (hA:om A) (h:ei M U) (hd:U.J.dead=false) (hdn:M.down=false) (hg:U.J.g+1 < 4294967295):od M U (eX U A) (fM M U A):=by
 have hk:∀ k ∈ A.keys,k.length < 18446744073709551616:=fun k hk=>by have:=hA.klen k hk;omega
 have hl:A.keys.length < 18446744073709551616:=by have:=hA.keys;omega
 have hb:(dI A.keys).length <= 65535:=by
  have:=kD A.keys (fun k hk=>by have:=hA.klen k hk;omega);have:=hA.keys;omega
 unfold fM eX
 by_cases h2:A.kind.tmod 8 <= 2
 ·rw[if_pos h2,if_pos h2];exact kL h hd hdn hg hl hk hb
 ·rw[if_neg h2,if_neg h2]
  by_cases h3:A.kind.tmod 8=3
  ·rw[if_pos h3,if_pos h3];exact lN h hd hdn hg hl hk hb
  ·rw[if_neg h3,if_neg h3]
   by_cases h4:A.kind.tmod 8=4
   ·rw[if_pos h4,if_pos h4];exact qJ h hd hdn hg
   ·rw[if_neg h4,if_neg h4];exact pw h hd hdn hg
theorem qc {m x:RMap} {d:Nat} (hm:m.seen.length=8) (hd:d < 8) (h:x.seen=seenUp m d):x≠m:=fun e=>by
 rw[e] at h;have h1:m.seen.getD d 0=(seenUp m d).getD d 0:=by rw[<- h]
 unfold seenUp at h1;rw[show ((d:Int).toNat)=d from rfl] at h1;rw[List.getD_eq_getElem?_getD,List.getD_eq_getElem?_getD,List.getElem?_set_self (by omega)] at h1;simp at h1;omega
theorem lT {m x:RMap} (h:fullR m=(x,0)):x=m:=by
 unfold fullR at h;split at h
 ·exact(Prod.mk.inj h).1.symm
 ·exact absurd (Prod.mk.inj h).2 (by decide)
theorem sw {m:RMap} {d:Nat} {l:List RKey} (h:(useR m d l).2=0):(useR m d l).1.seen=seenUp m d:=by
 unfold useR at h ⊢;split at h
 ·rename_i h1;rw[if_pos h1];split at h
  ·rename_i h2;rw[if_pos h2];have:=lT (m:=useM m d l) (x:=(fullR (useM m d l)).1) (by rw[<- h]);rw[this];rfl
  ·exact absurd h (show ¬ (1:Int)=0 by decide)
 ·exact absurd h (show ¬ (5:Int)=0 by decide)
theorem ox {m:RMap} {d:Nat} {l:List RKey} (h:(forgetR m d l).2=0):(forgetR m d l).1.seen=seenUp m d:=by
 unfold forgetR at h ⊢;split at h
 ·rename_i h1;rw[if_pos h1];split at h
  ·rename_i h2;rw[if_pos h2];have:=lT (m:=forgetM m d l) (x:=(fullR (forgetM m d l)).1) (by rw[<- h]);rw[this];rfl
  ·exact absurd h (show ¬ (1:Int)=0 by decide)
 ·exact absurd h (show ¬ (5:Int)=0 by decide)
theorem qV {M:MD} {U:MU} {A:gL} (hA:om A) (h:ei M U) (hd:U.J.dead=false) (hdn:M.down=false) (hg:U.J.g+1 < 4294967295)
 (hq:(fM M U A).2.2=1 \/ (fM M U A).2.2=5 \/ (U.m=eX U A /\ A.kind.tmod 8 < 5)):(fM M U A).1=M:=by
 rcases hq with hq | hq | ⟨hq,hk⟩
 ·exact(gR hA h hd hdn hg).quiet (.inl hq)
 ·exact(gR hA h hd hdn hg).quiet (.inr hq)
 have hs:U.m.seen.length=8:=(valid_lens h.ok.valid).1;have hkk:=hA.kind;have h0:0 <= A.kind.tmod 8:=by rw[Int.tmod_eq_emod_of_nonneg hkk.1];omega
 unfold fM;unfold eX at hq
 by_cases h2:A.kind.tmod 8 <= 2
 ·rw[if_pos h2] at hq ⊢;unfold cq cT;rw[if_neg (by rw[hd];decide)];unfold eV at hq
  by_cases hl:A.keys = []
  ·rw[if_pos hl]
  ·rw[if_neg hl]
   by_cases he:(useR U.m U.dev A.keys).2=0
   ·rw[if_pos ⟨he,hl⟩] at hq;exact absurd hq.symm (qc hs h.ok.dev (sw he))
   ·rw[if_neg he]
 ·rw[if_neg h2] at hq ⊢
  by_cases h3:A.kind.tmod 8=3
  ·rw[if_pos h3] at hq ⊢;unfold du cT;rw[if_neg (by rw[hd];decide)];unfold eV at hq
   by_cases hl:A.keys = []
   ·rw[if_pos hl]
   ·rw[if_neg hl]
    by_cases he:(forgetR U.m U.dev A.keys).2=0
    ·rw[if_pos ⟨he,hl⟩] at hq;exact absurd hq.symm (qc hs h.ok.dev (ox he))
    ·rw[if_neg he]
  ·rw[if_neg h3] at hq ⊢;have h4:A.kind.tmod 8=4:=by omega
   rw[if_pos h4] at hq ⊢;exact py hd hq.symm
theorem qW {M:MD} {U:MU} {A:gL} (hA:om A) (h:ei M U) (hd:U.J.dead=false) (hdn:M.down=false) (hg:U.J.g+1 < 4294967295) (hk:A.kind.tmod 8=5):(fM M U A).2.1.m=U.m:=by
 have hc:=(gR hA h hd hdn hg).out;have ha:eX U A=U.m:=by unfold eX;rw[hk];rfl
 rcases hc with ⟨-,h,-⟩ | ⟨-,-,h,-⟩ | ⟨-,h,-⟩
 ·rw[h,ha]
 ·exact h
 ·exact h
theorem lU {M:MD} {U:MU} {A:gL} (hA:om A) (h:ei M U) (hd:U.J.dead=false) (hdn:M.down=false) (hg:U.J.g+1 < 4294967295):validR (eX U A)=true:=by
 have v:=h.ok.valid;unfold eX eV iw;split
 ·split
  ·rename_i h1;exact pv h1.1
  ·exact v
 ·split
  ·split
   ·rename_i h1;exact je h1.1
   ·exact v
  ·split
   ·split
    ·rename_i h1;exact(kJ h1).2.2
    ·exact v
   ·exact v
end Go.Proofs.YtobjdpngnfbicaaGreatDoor
namespace Go.Proofs.YtobjdpngnfbicaaGreatDoor
open Go.RowKit
set_option linter.unusedVariables false
set_option maxRecDepth 20000
section
open Go.Lib
attribute [local go_sem] opC upC
theorem tf (w:World) (a b:List UInt8) (ha:a.length <= 100) (hb:b.length <= 100):
 Calls aC 24 #[.string ⟨a.toArray⟩,.string ⟨b.toArray⟩] w fun e w'=>e=.returned (.string ⟨(49 :: a ++ 0 :: b).toArray⟩) /\ w=w':=by
 go_enter Tryz.func24,Tryz.ntmps24
 go_wp2_with fail
 have e:(⟨#[49]⟩:ByteArray) ++ ⟨a.toArray⟩ ++ ⟨#[0]⟩ ++ ⟨b.toArray⟩=⟨(49 :: a ++ 0 :: b).toArray⟩:=by
  apply ByteArray.ext;simp
 rw[e]
 go_ret
 exact⟨rfl,rfl⟩
set_option maxRecDepth 100000 in
set_option maxHeartbeats 8000000 in
theorem en (w:World) (hL:dF w):
 Calls aC 10 #[] w fun e w'=>e=.returned (.bool true) /\ Below w.heap.size w w':=by
 have HL:=ae (show ∀ W,Below w.heap.size w W -> dF W from fun W hb=>hL.below hb);have HLw:=ae hL;have HN:=ae (r7 w hL.2.2 40 (by decide) (by decide));obtain⟨M0,U0,M1,U1,M2,U2,hP⟩:=tS;have HP:=ae hP;clear hL hP
 go_enter Tryz.func10,Tryz.ntmps10
 go_wp2_with fail;refine HN.out.mono ?_;rintro e w1 ⟨d,rfl,hd,hb1⟩;have hF:=pB w1 (HL.out w1 hb1) _ d (MD.fresh 40) hd (by simp[MD.fresh]) (by show 0+200000 < _;decide) 3 (by decide) HP.out.fmt (by rw[HP.out.form]);rw[HP.out.form] at hF;have HF:=ae hF;have Hb1:=ae hb1;clear hF hd hb1 HN;go_wp2_with fail;refine HF.out.mono ?_;rintro e w2 ⟨u,rfl,hU,hb2⟩;have hb2':Below w.heap.size w w2:=Hb1.out.trans hb2;have HU:=ae hU;have Hb2:=ae hb2';have HK:=ae (show ∀ W,Calls aC 24 #[.string ⟨#[97]⟩,.string ⟨#[98]⟩] W fun e w'=>e=.returned (.string ⟨exK.toArray⟩) /\ W=w' from fun W=>tf W [97] [98] (by decide) (by decide));clear hU hb2 hb2' HF;go_wp2_with fail;refine(HK.out _).mono ?_;rintro e wz3 ⟨rfl,rfl⟩
 obtain⟨w3,hw⟩:∃ q,q=w2.alloc (.cells #[.string ⟨exK.toArray⟩] 9):=⟨_,rfl⟩
 have hb3:Below w2.heap.size w2 w3:=by rw[hw];exact aE _ _
 have hr3:Rows (fun b=>b=w2.heap.size) w3 1 (.slice (some ⟨w2.heap.size,0,none⟩) 1 1) [exK].length ([exK].map Go.Proofs.encStr):=by
  rw[hw];exact rows_new w2 #[.string ⟨exK.toArray⟩] 9 1 rfl (by unfold maxLen;omega)
 have hB3:Below w.heap.size w w3:=Hb2.out.trans (hb3.mono Hb2.out.size);have hLe:=sZ w3 (HL.out w3 hB3) _ d u _ _ (HU.out.keep hb3) (by show _ < 8;rw[HP.out.dev0];decide) (by show validR _=true;rw[HP.out.m0];exact gu) _ _ [exK] hr3 (by decide) (fun k hk=>by rw[List.mem_singleton.1 hk];decide) (by have:=HP.out.w0;have:=HP.out.w1;omega);rw[HP.out.learn] at hLe;have HLe:=ae hLe;have Hw3:=ae hw;have HB3:=ae hB3;clear hLe hw hb3 hr3 hB3;go_wp2_with fail;rw[<- Hw3.out];refine HLe.out.mono ?_;rintro e w4 ⟨rfl,hU,hb⟩;have HU4:=ae hU;have HB4:=ae (show Below w.heap.size w w4 from HB3.out.trans hb);clear hU hb HLe
 have HD:=ae (show Calls aC 17 #[.pointer (some ⟨u,0,none⟩)] w4 fun e w'=>e=.returned (.int .i64 3) /\ w4=w' from by
  have h:=gP w4 _ d u M1 U1 HU4.out;rw[HP.out.dev1] at h
  exact h)
 go_wp2_with fail;refine HD.out.mono ?_;rintro e w4' ⟨rfl,rfl⟩;clear HD;have hM1:=fs w4 _ d u _ _ HU4.out (by show validR _=true;rw[HP.out.m1];exact dr)
 try dsimp only at hM1
 rw[HP.out.m1] at hM1;have HM:=ae hM1;clear hM1;go_wp2_with fail;refine HM.out.mono ?_;rintro e wa1 ⟨⟨r,rfl,ho,hbd⟩,hb⟩;have hmv:=ho.map hbd;obtain⟨t1,t2,t3,rfl,ho'⟩:=id ho;obtain⟨n11,m11,rfl⟩:=own_shape ho'.seen;obtain⟨n21,m21,rfl⟩:=own_shape ho'.items;obtain⟨n31,m31,rfl⟩:=own_shape ho'.gone;have HBa1:=ae (show Below w.heap.size w wa1 from HB4.out.trans (hb.mono HB4.out.size));have hV:=pvalue_any wa1 (HL.out _ HBa1.out).2.1 (HL.out _ HBa1.out).2.2 _ _ _ hmv (b9 dr).1 (b9 dr).2 exK (by decide);rw[oq] at hV;have HV:=ae hV;have HUa1:=ae (HU4.out.keep hb);clear hV hmv ho ho' hb hbd HM;go_wp2_with fail;refine(HK.out _).mono ?_;rintro e wk1 ⟨rfl,rfl⟩;go_wp2_with fail;refine HV.out.mono ?_;rintro e wb1 ⟨rfl,hb⟩;have HBb1:=ae (show Below w.heap.size w wb1 from HBa1.out.trans (hb.mono HBa1.out.size));have HUb1:=ae (HUa1.out.keep hb);clear hb HV;have hOp:=mI wb1 (HL.out _ HBb1.out) _ d M1 HUb1.out.disk;rw[HP.out.opened] at hOp;have HOp:=ae hOp;clear hOp;go_wp2_with fail;refine HOp.out.mono ?_;rintro e w5 ⟨⟨u2,rfl,hU5⟩,hb5⟩;have HU5:=ae hU5;have HB5:=ae (show Below w.heap.size w w5 from HBb1.out.trans (hb5.mono HBb1.out.size));clear hU5 hb5 HOp
 have HD:=ae (show Calls aC 17 #[.pointer (some ⟨u2,0,none⟩)] w5 fun e w'=>e=.returned (.int .i64 3) /\ w5=w' from by
  have h:=gP w5 _ d u2 M1 _ HU5.out
  try dsimp only at h
  rw[HP.out.dev1] at h
  exact h)
 go_wp2_with fail;refine HD.out.mono ?_;rintro e w5' ⟨rfl,rfl⟩;clear HD;have hM2:=fs w5 _ d u2 _ _ HU5.out (by show validR _=true;rw[HP.out.m1];exact dr)
 try dsimp only at hM2
 rw[HP.out.m1] at hM2;have HM:=ae hM2;clear hM2;go_wp2_with fail;refine HM.out.mono ?_;rintro e wa2 ⟨⟨r,rfl,ho,hbd⟩,hb⟩;have hmv:=ho.map hbd;obtain⟨t1,t2,t3,rfl,ho'⟩:=id ho;obtain⟨n12,m12,rfl⟩:=own_shape ho'.seen;obtain⟨n22,m22,rfl⟩:=own_shape ho'.items;obtain⟨n32,m32,rfl⟩:=own_shape ho'.gone;have HBa2:=ae (show Below w.heap.size w wa2 from HB5.out.trans (hb.mono HB5.out.size));have hV:=pvalue_any wa2 (HL.out _ HBa2.out).2.1 (HL.out _ HBa2.out).2.2 _ _ _ hmv (b9 dr).1 (b9 dr).2 exK (by decide);rw[oq] at hV;have HV:=ae hV;have HUa2:=ae (HU5.out.keep hb);clear hV hmv ho ho' hb hbd HM;go_wp2_with fail;refine(HK.out _).mono ?_;rintro e wk2 ⟨rfl,rfl⟩;go_wp2_with fail;refine HV.out.mono ?_;rintro e wb2 ⟨rfl,hb⟩;have HBb2:=ae (show Below w.heap.size w wb2 from HBa2.out.trans (hb.mono HBa2.out.size));have HUb2:=ae (HUa2.out.keep hb);clear hb HV;go_wp2_with fail;refine(HK.out _).mono ?_;rintro e wz6 ⟨rfl,rfl⟩
 obtain⟨w6,hw⟩:∃ q,q=wb2.alloc (.cells #[.string ⟨exK.toArray⟩] 9):=⟨_,rfl⟩
 have hb3:Below wb2.heap.size wb2 w6:=by rw[hw];exact aE _ _
 have hr3:Rows (fun b=>b=wb2.heap.size) w6 1 (.slice (some ⟨wb2.heap.size,0,none⟩) 1 1) [exK].length ([exK].map Go.Proofs.encStr):=by
  rw[hw];exact rows_new wb2 #[.string ⟨exK.toArray⟩] 9 1 rfl (by unfold maxLen;omega)
 have hB3:Below w.heap.size w w6:=HBb2.out.trans (hb3.mono HBb2.out.size);have hLe:=tC w6 (HL.out w6 hB3) _ d u2 _ _ (HUb2.out.keep hb3) (by show _ < 8;rw[HP.out.dev1];decide) (by show validR _=true;rw[HP.out.m1];exact dr) _ _ [exK] hr3 (by decide) (fun k hk=>by rw[List.mem_singleton.1 hk];decide) (by have:=HP.out.w0;have:=HP.out.w1;omega);rw[HP.out.drop] at hLe;have HLe:=ae hLe;have Hw6:=ae hw;have HB6:=ae hB3;clear hLe hw hb3 hr3 hB3;go_wp2_with fail;rw[<- Hw6.out];refine HLe.out.mono ?_;rintro e w7 ⟨rfl,hU,hb⟩;have HU7:=ae hU;have HB7:=ae (show Below w.heap.size w w7 from HB6.out.trans hb);clear hU hb HLe;have hM3:=fs w7 _ d u2 _ _ HU7.out (by show validR _=true;rw[HP.out.m2];exact fL)
 try dsimp only at hM3
 rw[HP.out.m2] at hM3;have HM:=ae hM3;clear hM3;go_wp2_with fail;refine HM.out.mono ?_;rintro e wa3 ⟨⟨r,rfl,ho,hbd⟩,hb⟩;have hmv:=ho.map hbd;obtain⟨t1,t2,t3,rfl,ho'⟩:=id ho;obtain⟨n13,m13,rfl⟩:=own_shape ho'.seen;obtain⟨n23,m23,rfl⟩:=own_shape ho'.items;obtain⟨n33,m33,rfl⟩:=own_shape ho'.gone;have HBa3:=ae (show Below w.heap.size w wa3 from HB7.out.trans (hb.mono HB7.out.size));have hV:=pvalue_any wa3 (HL.out _ HBa3.out).2.1 (HL.out _ HBa3.out).2.2 _ _ _ hmv (b9 fL).1 (b9 fL).2 exK (by decide);rw[sr] at hV;have HV:=ae hV;have HUa3:=ae (HU7.out.keep hb);clear hV hmv ho ho' hb hbd HM;go_wp2_with fail;refine(HK.out _).mono ?_;rintro e wk3 ⟨rfl,rfl⟩;go_wp2_with fail;refine HV.out.mono ?_;rintro e wb3 ⟨rfl,hb⟩;have HBb3:=ae (show Below w.heap.size w wb3 from HBa3.out.trans (hb.mono HBa3.out.size));have HUb3:=ae (HUa3.out.keep hb);clear hb HV;go_wp2_with fail
 go_ret
 exact⟨rfl,HBb3.out⟩
end
end Go.Proofs.YtobjdpngnfbicaaGreatDoor
