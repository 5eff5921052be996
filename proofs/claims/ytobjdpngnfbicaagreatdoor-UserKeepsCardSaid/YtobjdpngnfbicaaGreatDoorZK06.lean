/-
  RL4
-/
import Derived.Test.YtobjdpngnfbicaaGreatDoorChecked
import Derived.Test.YtobjdpngnfbicaaGreatDoorZK03
import Derived.WalkSpells
import Derived.Test.YtobjdpngnfbicaaGreatDoorZK05
open Go.Lib renaming hid->ae
open Go.Proofs.Tryz renaming prog->aC
namespace Go.Proofs.YtobjdpngnfbicaaGreatDoor
open Go.RowKit
set_option linter.unusedVariables false
set_option maxRecDepth 20000
attribute [local go_sem ↓] bq
end Go.Proofs.YtobjdpngnfbicaaGreatDoor
/- Two maps are compared: Same. -/
namespace Go.Proofs.YtobjdpngnfbicaaGreatDoor
open Go.RowKit
set_option linter.unusedVariables false
set_option maxRecDepth 20000
def SamePost (w:World) (a b:RMap) (e:Ending) (w':World):Prop:=∃ r,e=.returned (.bool r) /\ (r=true↔a=b) /\ Below w.heap.size w w'
theorem same_no {a b:RMap} (h:a≠b):(false=true↔a=b):=⟨nofun,fun e=>absurd e h⟩
set_option maxRecDepth 100000 in
set_option maxHeartbeats 1500000 in
theorem same_any0 (w:World) (F G:aV) (va vb:Value) (a b:RMap) (ha:cY F w va a) (hb:cY G w vb b):
 Calls aC 35 #[va,vb] w (SamePost w a b):=by
 obtain⟨s1a,s2a,s3a,rfl,ha⟩:=ha;obtain⟨a1a,p1a,rfl,-⟩:=ha.seen.shape;obtain⟨a2a,p2a,rfl,-⟩:=ha.items.shape;obtain⟨a3a,p3a,rfl,-⟩:=ha.gone.shape;have l1a:=ha.seen.len;have l2a:=ha.items.len;have l3a:=ha.gone.len;unfold maxLen at l1a l2a l3a
 obtain⟨n1a,hn1a⟩:∃ n,a.seen.length=n:=⟨_,rfl⟩
 obtain⟨n2a,hn2a⟩:∃ n,a.items.length=n:=⟨_,rfl⟩
 obtain⟨n3a,hn3a⟩:∃ n,a.gone.length=n:=⟨_,rfl⟩
 rw[hn1a,hn2a,hn3a] at ha;rw[hn1a] at l1a ⊢;rw[hn2a] at l2a ⊢;rw[hn3a] at l3a ⊢
 obtain⟨wxa,hwxa⟩:∃ wx,wx=w.alloc (.cells #[.slice a1a n1a p1a,.slice a2a n2a p2a,.slice a3a n3a p3a] 75):=⟨_,rfl⟩
 have hbxa:Below w.heap.size w wxa:=by rw[hwxa];exact aE _ _
 have hzxa:wxa.heap.size=w.heap.size+1:=by rw[hwxa];simp
 have hxa:=ha.keep (w':=wxa) fun b _ hlt=>hbxa.block b hlt
 have hnxa:Blk wxa w.heap.size [.slice a1a n1a p1a,.slice a2a n2a p2a,.slice a3a n3a p3a] 75:=by rw[hwxa];exact Blk.new _ _ _
 have Hxa:=ae hxa;have Hn1a:=ae hn1a;have Hn2a:=ae hn2a;have Hn3a:=ae hn3a;have Hwxa:=ae hwxa;have Hbxa:=ae hbxa;have Hzxa:=ae hzxa;have c0a:=hnxa.cell 0;have c1a:=hnxa.cell 1;have c2a:=hnxa.cell 2;simp at c0a c1a c2a;have Hnxa:=ae hnxa;clear hxa hn1a hn2a hn3a hwxa hbxa hnxa hzxa
 replace hb:=hb.keep (w':=wxa) fun b _ hlt=>Hbxa.out.block b hlt
 obtain⟨s1b,s2b,s3b,rfl,hb⟩:=hb;obtain⟨a1b,p1b,rfl,-⟩:=hb.seen.shape;obtain⟨a2b,p2b,rfl,-⟩:=hb.items.shape;obtain⟨a3b,p3b,rfl,-⟩:=hb.gone.shape;have l1b:=hb.seen.len;have l2b:=hb.items.len;have l3b:=hb.gone.len;unfold maxLen at l1b l2b l3b
 obtain⟨n1b,hn1b⟩:∃ n,b.seen.length=n:=⟨_,rfl⟩
 obtain⟨n2b,hn2b⟩:∃ n,b.items.length=n:=⟨_,rfl⟩
 obtain⟨n3b,hn3b⟩:∃ n,b.gone.length=n:=⟨_,rfl⟩
 rw[hn1b,hn2b,hn3b] at hb;rw[hn1b] at l1b ⊢;rw[hn2b] at l2b ⊢;rw[hn3b] at l3b ⊢
 obtain⟨wxb,hwxb⟩:∃ wx,wx=wxa.alloc (.cells #[.slice a1b n1b p1b,.slice a2b n2b p2b,.slice a3b n3b p3b] 75):=⟨_,rfl⟩
 have hbxb:Below wxa.heap.size wxa wxb:=by rw[hwxb];exact aE _ _
 have hzxb:wxb.heap.size=wxa.heap.size+1:=by rw[hwxb];simp
 have hxb:=hb.keep (w':=wxb) fun b _ hlt=>hbxb.block b hlt
 have hnxb:Blk wxb wxa.heap.size [.slice a1b n1b p1b,.slice a2b n2b p2b,.slice a3b n3b p3b] 75:=by rw[hwxb];exact Blk.new _ _ _
 have Hxb:=ae hxb;have Hn1b:=ae hn1b;have Hn2b:=ae hn2b;have Hn3b:=ae hn3b;have Hwxb:=ae hwxb;have Hbxb:=ae hbxb;have Hzxb:=ae hzxb;have c0b:=hnxb.cell 0;have c1b:=hnxb.cell 1;have c2b:=hnxb.cell 2;simp at c0b c1b c2b;have Hnxb:=ae hnxb;clear hxb hn1b hn2b hn3b hwxb hbxb hnxb hzxb;have Hxa:=ae (Hxa.out.keep (w':=wxb) fun b _ hlt=>Hbxb.out.block b hlt);have hnxa:=Hnxa.out.keep (Hbxb.out.block _ Hnxa.out.lt);have c0a:=hnxa.cell 0;have c1a:=hnxa.cell 1;have c2a:=hnxa.cell 2;simp at c0a c1a c2a;have Hnxa:=ae hnxa;rw[Hzxa.out] at c0b c1b c2b;have Hbx:=ae (cA Hbxa.out Hbxb.out);clear hnxa;clear ha hb
 go_enter Tryz.func35,Tryz.ntmps35
 by_cases h:n1a=n1b /\ n2a=n2b /\ n3a=n3b
 ·obtain⟨e1,e2,e3⟩:=h;subst e1 e2 e3;go_wp2_with fail;rw[<- Hwxa.out,<- Hwxb.out]
  go_loopw [5] (fun i wr=>∃ k d:Nat,k <= n1a /\ i=.int .i64 (k:Int) /\ wr=wxb.drewN d /\ ∀ j,j < k -> a.seen[j]?=b.seen[j]?) (fun i _=>n1a - (intOf i).toNat)
  case atStart=>exact⟨0,0,by omega,rfl,rfl,fun j hj=>by omega⟩
  case round=>
   obtain⟨k,d,hk,rfl,rfl,hall⟩:=hrel;have Hall:=ae hall;clear hall
   by_cases hkn:k < n1a
   ·have hkI:(k:Int) < (n1a:Int):=by omega
    have hka:k < a.seen.length:=by rw[Hn1a.out];exact hkn
    have hkb:k < b.seen.length:=by rw[Hn1b.out];exact hkn
    obtain⟨ba,offa,rfl,-,-,hca⟩:=fY Hxa.out.seen (by omega);obtain⟨bb,offb,rfl,-,-,hcb⟩:=fY Hxb.out.seen (by omega);have ea:=hca k hka;have eb:=hcb k hkb
    obtain⟨qa,hqa⟩:∃ q,a.seen[k]=q:=⟨_,rfl⟩
    obtain⟨qb,hqb⟩:∃ q,b.seen[k]=q:=⟨_,rfl⟩
    rw[hqa] at ea;rw[hqb] at eb;have Hqa:=ae hqa;have Hqb:=ae hqb;clear hca hcb hqa hqb
    by_cases he:qa=qb
    ·have d1:(qa != qb)=false:=by simp[he]
     go_wp2_with fail
     go_quiet (fail)
     go_wp2_with fail
     go_roundw
     case rel=>exact⟨k+1,_,by omega,by go_num,rfl,fun j hj=>by
      rcases Nat.lt_succ_iff_lt_or_eq.1 hj with h | h
      ·exact Hall.out j h
      ·subst h;rw[List.getElem?_eq_getElem hka,List.getElem?_eq_getElem hkb,Hqa.out,Hqb.out,he]⟩
     case measure=>simp[intOf];omega
    ·have d1:(qa != qb)=true:=by simp[he]
     have Hne:=ae (show a≠b from fun e=>he (by subst e;rw[<- Hqa.out,<- Hqb.out]));go_wp2_with fail
     go_quiet (fail)
     go_wp2_with fail
     go_ret
     exact⟨false,rfl,same_no Hne.out,bV (bV Hbx.out _) _⟩
   ·have hkI:¬ (k:Int) < (n1a:Int):=by omega
    have He1:=ae (show a.seen=b.seen from List.ext_getElem? fun j=>by
     by_cases hj:j < k
     ·exact Hall.out j hj
     ·rw[List.getElem?_eq_none (by rw[Hn1a.out];omega),List.getElem?_eq_none (by rw[Hn1b.out];omega)])
    go_wp2_with fail
    go_loopw [6] (fun i wr=>∃ k d:Nat,k <= n2a /\ i=.int .i64 (k:Int) /\ wr=wxb.drewN d /\ ∀ j,j < k -> a.items[j]?=b.items[j]?) (fun i _=>n2a - (intOf i).toNat)
    case atStart=>exact⟨0,_,by omega,rfl,rfl,fun j hj=>by omega⟩
    case round=>
     obtain⟨k,d,hk,rfl,rfl,hall⟩:=hrel;have Hall:=ae hall;clear hall
     by_cases hkn:k < n2a
     ·have hkI:(k:Int) < (n2a:Int):=by omega
      have hka:k < a.items.length:=by rw[Hn2a.out];exact hkn
      have hkb:k < b.items.length:=by rw[Hn2b.out];exact hkn
      obtain⟨ba,offa,rfl,-,-,hca⟩:=eE Hxa.out.items (by omega);obtain⟨bb,offb,rfl,-,-,hcb⟩:=eE Hxb.out.items (by omega);obtain⟨ea0,ea1,ea2,ea3⟩:=hca k hka;obtain⟨eb0,eb1,eb2,eb3⟩:=hcb k hkb
      obtain⟨qa,hqa⟩:∃ q,a.items[k]=q:=⟨_,rfl⟩
      obtain⟨qb,hqb⟩:∃ q,b.items[k]=q:=⟨_,rfl⟩
      rw[hqa] at ea0 ea1 ea2 ea3;rw[hqb] at eb0 eb1 eb2 eb3;have Hqa:=ae hqa;have Hqb:=ae hqb;clear hca hcb hqa hqb;obtain⟨ka,da,sa,va⟩:=qa;obtain⟨kb,db,sb,vb⟩:=qb;dsimp only at ea0 ea1 ea2 ea3 eb0 eb1 eb2 eb3
      by_cases h0:ka=kb
      ·have g0:(ka == kb)=true:=by simp[h0]
       by_cases h1:da=db
       ·have g1:(da == db)=true:=by simp[h1]
        by_cases h2:sa=sb
        ·have g2:(sa == sb)=true:=by simp[h2]
         by_cases h3:va=vb
         ·subst h0 h1 h2 h3;clear g0 g1 g2;go_wp2_with fail
          go_quiet (fail)
          go_wp2_with fail
          go_roundw
          case rel=>exact⟨k+1,_,by omega,by go_num,rfl,fun j hj=>by
           rcases Nat.lt_succ_iff_lt_or_eq.1 hj with h | h
           ·exact Hall.out j h
           ·subst h;rw[List.getElem?_eq_getElem hka,List.getElem?_eq_getElem hkb,Hqa.out,Hqb.out]⟩
          case measure=>simp[intOf];omega
         ·
          have gx:(va == vb)=false:=by simp[h3]
          have Hne:=ae (show a≠b from fun e=>by subst e;have q:=Hqa.out.symm.trans Hqb.out;simp at q;exact h3 (by simp[q]));go_wp2_with fail
          go_quiet (fail)
          go_wp2_with fail
          go_ret
          exact⟨false,rfl,same_no Hne.out,bV (bV Hbx.out _) _⟩
        ·
         have gx:(sa == sb)=false:=by simp[h2]
         have Hne:=ae (show a≠b from fun e=>by subst e;have q:=Hqa.out.symm.trans Hqb.out;simp at q;exact h2 (by simp[q]));go_wp2_with fail
         go_quiet (fail)
         go_wp2_with fail
         go_ret
         exact⟨false,rfl,same_no Hne.out,bV (bV Hbx.out _) _⟩
       ·
        have gx:(da == db)=false:=by simp[h1]
        have Hne:=ae (show a≠b from fun e=>by subst e;have q:=Hqa.out.symm.trans Hqb.out;simp at q;exact h1 (by simp[q]));go_wp2_with fail
        go_quiet (fail)
        go_wp2_with fail
        go_ret
        exact⟨false,rfl,same_no Hne.out,bV (bV Hbx.out _) _⟩
      ·
       have gx:(ka == kb)=false:=by simp[h0]
       have Hne:=ae (show a≠b from fun e=>by subst e;have q:=Hqa.out.symm.trans Hqb.out;simp at q;exact h0 (by simp[q]));go_wp2_with fail
       go_quiet (fail)
       go_wp2_with fail
       go_ret
       exact⟨false,rfl,same_no Hne.out,bV (bV Hbx.out _) _⟩
     ·have hkI:¬ (k:Int) < (n2a:Int):=by omega
      have He2:=ae (show a.items=b.items from List.ext_getElem? fun j=>by
       by_cases hj:j < k
       ·exact Hall.out j hj
       ·rw[List.getElem?_eq_none (by rw[Hn2a.out];omega),List.getElem?_eq_none (by rw[Hn2b.out];omega)])
      go_wp2_with fail
      go_loopw [7] (fun i wr=>∃ k d:Nat,k <= n3a /\ i=.int .i64 (k:Int) /\ wr=wxb.drewN d /\ ∀ j,j < k -> a.gone[j]?=b.gone[j]?) (fun i _=>n3a - (intOf i).toNat)
      case atStart=>exact⟨0,_,by omega,rfl,rfl,fun j hj=>by omega⟩
      case round=>
       obtain⟨k,d,hk,rfl,rfl,hall⟩:=hrel;have Hall:=ae hall;clear hall
       by_cases hkn:k < n3a
       ·have hkI:(k:Int) < (n3a:Int):=by omega
        have hka:k < a.gone.length:=by rw[Hn3a.out];exact hkn
        have hkb:k < b.gone.length:=by rw[Hn3b.out];exact hkn
        obtain⟨ba,offa,rfl,-,-,hca⟩:=eF Hxa.out.gone (by omega);obtain⟨bb,offb,rfl,-,-,hcb⟩:=eF Hxb.out.gone (by omega);obtain⟨ea0,ea1,ea2⟩:=hca k hka;obtain⟨eb0,eb1,eb2⟩:=hcb k hkb
        obtain⟨qa,hqa⟩:∃ q,a.gone[k]=q:=⟨_,rfl⟩
        obtain⟨qb,hqb⟩:∃ q,b.gone[k]=q:=⟨_,rfl⟩
        rw[hqa] at ea0 ea1 ea2;rw[hqb] at eb0 eb1 eb2;have Hqa:=ae hqa;have Hqb:=ae hqb;clear hca hcb hqa hqb;obtain⟨ka,da,sa⟩:=qa;obtain⟨kb,db,sb⟩:=qb;dsimp only at ea0 ea1 ea2 eb0 eb1 eb2
        by_cases h0:ka=kb
        ·have g0:(ka == kb)=true:=by simp[h0]
         by_cases h1:da=db
         ·have g1:(da == db)=true:=by simp[h1]
          by_cases h2:sa=sb
          ·subst h0 h1 h2;clear g0 g1;go_wp2_with fail
           go_quiet (fail)
           go_wp2_with fail
           go_roundw
           case rel=>exact⟨k+1,_,by omega,by go_num,rfl,fun j hj=>by
            rcases Nat.lt_succ_iff_lt_or_eq.1 hj with h | h
            ·exact Hall.out j h
            ·subst h;rw[List.getElem?_eq_getElem hka,List.getElem?_eq_getElem hkb,Hqa.out,Hqb.out]⟩
           case measure=>simp[intOf];omega
          ·
           have gx:(sa == sb)=false:=by simp[h2]
           have Hne:=ae (show a≠b from fun e=>by subst e;have q:=Hqa.out.symm.trans Hqb.out;simp at q;exact h2 (by simp[q]));go_wp2_with fail
           go_quiet (fail)
           go_wp2_with fail
           go_ret
           exact⟨false,rfl,same_no Hne.out,bV (bV Hbx.out _) _⟩
         ·
          have gx:(da == db)=false:=by simp[h1]
          have Hne:=ae (show a≠b from fun e=>by subst e;have q:=Hqa.out.symm.trans Hqb.out;simp at q;exact h1 (by simp[q]));go_wp2_with fail
          go_quiet (fail)
          go_wp2_with fail
          go_ret
          exact⟨false,rfl,same_no Hne.out,bV (bV Hbx.out _) _⟩
        ·
         have gx:(ka == kb)=false:=by simp[h0]
         have Hne:=ae (show a≠b from fun e=>by subst e;have q:=Hqa.out.symm.trans Hqb.out;simp at q;exact h0 (by simp[q]));go_wp2_with fail
         go_quiet (fail)
         go_wp2_with fail
         go_ret
         exact⟨false,rfl,same_no Hne.out,bV (bV Hbx.out _) _⟩
       ·have hkI:¬ (k:Int) < (n3a:Int):=by omega
        have He:=ae (show a=b by
         have e3:a.gone=b.gone:=List.ext_getElem? fun j=>by
          by_cases hj:j < k
          ·exact Hall.out j hj
          ·rw[List.getElem?_eq_none (by rw[Hn3a.out];omega),List.getElem?_eq_none (by rw[Hn3b.out];omega)]
         have e1:=He1.out;have e2:=He2.out;cases a;cases b
         simp_all)
        go_wp2_with fail
        go_ret
        exact⟨true,rfl,⟨fun _=>He.out,fun _=>rfl⟩,bV Hbx.out _⟩
 ·have Hne:=ae (show a≠b from fun e=>h (by subst e;exact⟨Hn1a.out.symm.trans Hn1b.out,Hn2a.out.symm.trans Hn2b.out,Hn3a.out.symm.trans Hn3b.out⟩))
  by_cases e1:n1a=n1b
  ·have g1:((n1a:Int) != (n1b:Int))=false:=by simp[e1]
   by_cases e2:n2a=n2b
   ·have g2:((n2a:Int) != (n2b:Int))=false:=by simp[e2]
    have e3:¬ n3a=n3b:=fun e3=>h ⟨e1,e2,e3⟩
    have g3:((n3a:Int) != (n3b:Int))=true:=by simp;omega
    have H1:=ae e1;have H2:=ae e2;clear h e1 e2 e3;go_wp2_with fail
    go_ret
    exact⟨false,rfl,same_no Hne.out,by have:=Hbx.out;rw[Hwxb.out,Hwxa.out] at this;exact this⟩
   ·have g2:((n2a:Int) != (n2b:Int))=true:=by simp;omega
    have H1:=ae e1;clear h e1 e2;go_wp2_with fail
    go_ret
    exact⟨false,rfl,same_no Hne.out,by have:=Hbx.out;rw[Hwxb.out,Hwxa.out] at this;exact this⟩
  ·have g1:((n1a:Int) != (n1b:Int))=true:=by simp;omega
   clear h e1;go_wp2_with fail
   go_ret
   exact⟨false,rfl,same_no Hne.out,by have:=Hbx.out;rw[Hwxb.out,Hwxa.out] at this;exact this⟩
end Go.Proofs.YtobjdpngnfbicaaGreatDoor
/- A map is copied: given, taken. -/
namespace Go.Proofs.YtobjdpngnfbicaaGreatDoor
open Go.RowKit
set_option linter.unusedVariables false
set_option maxRecDepth 20000
attribute [local go_sem ↓] bq
theorem infoI:(aC.info? 3).map (fun i=>(i.zero,i.size,i.bytes))=some (some (.int .i64 0),1,8):=by kernel_rfl
theorem infoItR:(aC.info? 129).map (fun i=>(i.zero,i.size,i.bytes))=some (some (.agg #[.string ⟨#[]⟩,.int .i64 0,.int .i64 0,.int .i64 0]),4,40):=by kernel_rfl
theorem infoItP:(aC.info? 108).map (fun i=>(i.zero,i.size,i.bytes))=some (some (.agg #[.string ⟨#[]⟩,.int .i64 0,.int .i64 0,.int .i64 0]),4,40):=by kernel_rfl
theorem infoGoR:(aC.info? 130).map (fun i=>(i.zero,i.size,i.bytes))=some (some (.agg #[.string ⟨#[]⟩,.int .i64 0,.int .i64 0]),3,32):=by kernel_rfl
theorem infoGoP:(aC.info? 111).map (fun i=>(i.zero,i.size,i.bytes))=some (some (.agg #[.string ⟨#[]⟩,.int .i64 0,.int .i64 0]),3,32):=by kernel_rfl
def RowsT (tI tIt tGo:TypeId) (w:World) (base:Nat) (v:Value) (m:RMap):Prop:=∃ s1 s2 s3,v=.agg #[s1,s2,s3] /\ w.ownsRow base tI 1 s1 m.seen.length (m.seen.map eI) /\ w.ownsRow base tIt 4 s2 m.items.length (m.items.flatMap aZ) /\ w.ownsRow base tGo 3 s3 m.gone.length (m.gone.flatMap cn)
def GivenPostT (tI tIt tGo:TypeId) (w:World) (m:RMap) (e:Ending) (w':World):Prop:=∃ v,e=.returned v /\ RowsT tI tIt tGo w' w.heap.size v m /\ cY (fun b=>w.heap.size <= b) w' v m /\ Below w.heap.size w w'
section
variable {tA tO tI tIt tGo:TypeId} {w wr:World} {m:RMap} {P:List Value} {v1 v2 v3:Value} {k2 k3:Nat}
theorem take_flat {α:Type} (enc:α -> List Value) (l:List α) (k:Nat) (h:k < l.length):(l.take (k+1)).flatMap enc=(l.take k).flatMap enc ++ enc l[k]:=by
 rw[List.take_succ_eq_append_getElem h,List.flatMap_append];simp
end
end Go.Proofs.YtobjdpngnfbicaaGreatDoor
/- same, equal, New. -/
namespace Go.Proofs.YtobjdpngnfbicaaGreatDoor
open Go.RowKit
set_option linter.unusedVariables false
set_option maxRecDepth 20000
attribute [local go_sem ↓] bq
attribute [local go_sem] opC upC
theorem cellLt {w:World} {a:Addr} {x:Value} (h:w.cell? a=some x):a.block < w.heap.size:=by
 rcases Nat.lt_or_ge a.block w.heap.size with hlt | hge
 ·exact hlt
 ·unfold World.cell? at h;rw[Array.getElem?_eq_none hge] at h;cases h
theorem laterC {w w':World} {a:Addr} {x:Value} (h:w.cell? a=some x) (hl:aI w.drew w'):w'.cell? a=some x:=by
 have hb:w'.heap[a.block]?=w.heap[a.block]?:=hl.block a.block (cellLt h);unfold World.cell? at *;rw[hb];exact h
/-! New -/
theorem made8:(madeCells (Value.int .i64 0).cells (8 * 1)).toList=(List.replicate 8 (0:Int)).map eI:=by
 have h:madeCells (Array.replicate 1 (Value.int .i64 0)) 8=Array.replicate 8 (Value.int .i64 0):=by
  apply Array.ext
  ·simp[madeCells]
  ·intro i h1 h2;simp only[madeCells,Array.getElem_map,Array.getElem_range,Array.size_replicate,Array.getElem_replicate];rw[getElem!_pos (Array.replicate 1 (Value.int .i64 0)) (i % 1) (by simpa using Nat.mod_lt i (show 0 < 1 by decide))];simp
 simp only[Value.cells];rw[show #[Value.int .i64 0]=Array.replicate 1 (Value.int .i64 0) from rfl,show 8 * 1=8 from rfl,h];simp
attribute [local go_sem ↓] lq
end Go.Proofs.YtobjdpngnfbicaaGreatDoor
