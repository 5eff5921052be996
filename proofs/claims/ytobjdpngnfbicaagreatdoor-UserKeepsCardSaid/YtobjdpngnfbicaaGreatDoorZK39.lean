/-
  UActs UXH AppNew UGiven USame
-/
import Derived.Test.YtobjdpngnfbicaaGreatDoorZK38
import Derived.Test.YtobjdpngnfbicaaGreatDoorZK04
import Derived.Test.YtobjdpngnfbicaaGreatDoorZK06
open Go.Lib renaming hid->ae
open Nat renaming le_refl->aq,le_trans->au
open Go.Proofs.Tryz renaming prog->aC
namespace Go.Proofs.YtobjdpngnfbicaaGreatDoor
open Go.RowKit
set_option linter.unusedVariables false
set_option maxRecDepth 20000
section
open Go.ChangeShapes Go.WideShapes Go.ChangeAt Go.Deep
section
variable {H:Type} {enc:TypeId × Value -> H} {w:World} {base:Nat} {held:Bool}
theorem jB:aC.cellsOf 108=4:=by kernel_rfl
theorem jC:aC.cellsOf 111=3:=by kernel_rfl
theorem mL:aC.cellsOf 34=1:=by kernel_rfl
theorem mM:aC.cellsOf 35=1:=by kernel_rfl
theorem oh:aC.cellsOf 32=1:=by kernel_rfl
theorem kP:aC.cellsOf 37=3:=by kernel_rfl
theorem qQ:aC.cellsOf 5=1:=by kernel_rfl
theorem kQ:aC.cellsOf 39=7:=by kernel_rfl
theorem sf {m:Nat} {cs:List Value} {y:DataW H × List MemPlace} (h:DataW.trod enc aC w base (fun _=>true) held m 108 cs=some y):tD cs:=by
 obtain⟨y0,y1,y2,y3,n,rfl,hl,h0,h1,h2,h3⟩:=Go.Joins.trod_struct4 Tryz.underlying108 h;rw[jB] at hl;simp only[jg,gZ] at h0 h1 h2 h3
 match cs,hl with
 | [c0,c1,c2,c3],_=>
   obtain⟨s,e0,ws⟩:=pD h0;obtain⟨a,e1,wa⟩:=jf h1;obtain⟨b,e2,wb⟩:=jf h2;obtain⟨c,e3,wc⟩:=jf h3;simp at e0 e1 e2 e3;subst e0 e1 e2 e3;exact⟨⟨s.data.toList,a,b,c⟩,by simp[aZ,eI,mJ],mK ws,wa,wb,wc⟩
theorem sk {m:Nat} {cs:List Value} {y:DataW H × List MemPlace} (h:DataW.trod enc aC w base (fun _=>true) held m 111 cs=some y):tE cs:=by
 obtain⟨y0,y1,y2,n,rfl,hl,h0,h1,h2⟩:=trod_struct3 Tryz.underlying111 h;rw[jC] at hl;simp only[jg,gZ] at h0 h1 h2
 match cs,hl with
 | [c0,c1,c2],_=>
   obtain⟨s,e0,ws⟩:=pD h0;obtain⟨a,e1,wa⟩:=jf h1;obtain⟨b,e2,wb⟩:=jf h2;simp at e0 e1 e2;subst e0 e1 e2;exact⟨⟨s.data.toList,a,b⟩,by simp[cn,eI,mJ],mK ws,wa,wb⟩
theorem s7 {m:Nat} {cs:List Value} {y:DataW H × List MemPlace} (h:DataW.trod enc aC w base (fun _=>true) true m 37 cs=some y):∃ c0 c1 c2 g,cs = [c0,c1,c2] /\ bJ (fun b=>b < w.heap.size) w c0 c1 c2 g:=by
 obtain⟨y0,y1,y2,n,rfl,hl,h0,h1,h2⟩:=trod_struct3 Tryz.underlying37 h;rw[kP] at hl;simp only[pE,mL,mM] at h0 h1 h2
 match cs,hl with
 | [c0,c1,c2],_=>
   simp at h0 h1 h2;obtain⟨n0,r0⟩:=gQ (by omega) Tryz.underlying33 gZ sd (fun m cs y hy=>jf hy) h0;obtain⟨n1,r1⟩:=gQ (by omega) Tryz.underlying34 jB tD (fun m cs y hy=>sf hy) h1;obtain⟨n2,r2⟩:=gQ (by omega) Tryz.underlying35 jC tE (fun m cs y hy=>sk hy) h2;obtain⟨l0,rfl,q0,R0⟩:=fT (fun n=>[eI n]) 1 (by omega) (fun _=>rfl) sd cw (fun cs ⟨n,e,hn⟩=>⟨n,e,hn⟩) r0;obtain⟨l1,rfl,q1,R1⟩:=fT aZ 4 (by omega) (fun _=>rfl) tD (fun x=>x.key.length <= 9223372036854775807 /\ cw x.dev /\ cw x.seq /\ cw x.val) (fun cs ⟨n,e,hn⟩=>⟨n,e,hn⟩) r1;obtain⟨l2,rfl,q2,R2⟩:=fT cn 3 (by omega) (fun _=>rfl) tE (fun x=>x.key.length <= 9223372036854775807 /\ cw x.dev /\ cw x.seq) (fun cs ⟨n,e,hn⟩=>⟨n,e,hn⟩) r2;rw[qO] at R0;exact⟨c0,c1,c2,⟨l0,l1,l2⟩,rfl,R0,R1,R2,q0,q1,q2⟩
end
structure gL where
 kind:Int
 keys:List (List UInt8)
 m:RMap
 n:Int
 b:UInt8
def pF (w:World) (lo:Nat) (cs:List Value) (A:gL):Prop:=
 (0 <= A.kind /\ A.kind <= 255) /\ cw A.n /\ ∃ xk ck x1 c1 x2 c2 x3 c3,cs = [.int .u8 A.kind,.slice xk A.keys.length ck,.slice x1 A.m.seen.length c1,.slice x2 A.m.items.length c2,.slice x3 A.m.gone.length c3,.int .i64 A.n,B A.b] /\
  Rows (fun q=>q < lo) w 1 (.slice xk A.keys.length ck) A.keys.length (A.keys.map Go.Proofs.encStr) /\ (∀ x ∈ A.keys,x.length <= 9223372036854775807) /\ bJ (fun q=>q < lo) w (.slice x1 A.m.seen.length c1) (.slice x2 A.m.items.length c2) (.slice x3 A.m.gone.length c3) A.m
theorem mN {H:Type} {enc:TypeId × Value -> H} {w:World} {base m:Nat} {cs:List Value} {y:DataW H × List MemPlace}
 (hy:DataW.trod enc aC w base (fun _=>true) true m 39 cs=some y):∃ A,pF w w.heap.size cs A:=by
 obtain⟨xs,n,_,_,hlen,hxl,hg⟩:=DataW.trod_struct Tryz.underlying39 hy;have g0:=hg 0 _ rfl;have g1:=hg 1 _ rfl;have g2:=hg 2 _ rfl;have g3:=hg 3 _ rfl;have g4:=hg 4 _ rfl;rw[kQ] at hlen
 match cs,hlen,xs,hxl with
 | [c0,c1,c2,c3,c4,c5,c6],_,[x0,x1,x2,x3,x4],_=>
   simp[qQ,oh,kP,gZ] at g0 g1 g2 g3 g4;obtain⟨z0,e0,_,wz0⟩:=DataW.trod_int Tryz.underlying5 g0;obtain⟨n1,r1⟩:=gQ (by omega) Tryz.underlying32 jg se (fun m cs y hy=>pD hy) g1;obtain⟨l,rfl,q,R⟩:=fT tQ 1 (by omega) (fun _=>rfl) se (fun x=>x.length <= 9223372036854775807) (fun cs ⟨s,e,hs⟩=>⟨s.data.toList,by rw[e,mJ];rfl,mK hs⟩) r1;rw[qP] at R;obtain⟨v1,v2,v3,gm,e2,hm⟩:=s7 g2;obtain⟨z3,e3,_,wz3⟩:=DataW.trod_int Tryz.underlying3 g3;obtain⟨z4,e4,_,wz4⟩:=DataW.trod_int Tryz.underlying5 g4;simp at e0 e2 e3 e4;obtain⟨rfl,rfl,rfl⟩:=e2;subst e0 e3 e4;have b4:=bounds_u8 wz4;obtain⟨xk,ck,rfl,-⟩:=id R;obtain⟨y1,d1,rfl,-⟩:=hm.seen.shape;obtain⟨y2,d2,rfl,-⟩:=hm.items.shape;obtain⟨y3,d3,rfl,-⟩:=hm.gone.shape
   have e4:Value.int .u8 z4=B (UInt8.ofNat z4.toNat):=by
    unfold B
    congr 1
    simp;omega
   exact⟨⟨z0,l,gm,z3,UInt8.ofNat z4.toNat⟩,bounds_u8 wz0,bounds_i64 wz3,xk,ck,y1,d1,y2,d2,y3,d3,by rw[e4],R,q,hm⟩
def IsUActs (w:World) (v:Value):Prop:=∃ n,lP 7 (fun cs=>∃ A,pF w w.heap.size cs A) w v n
theorem open_UActs {H:Type} {enc:TypeId × Value -> H} {w:World} {b0:Nat} {v:Value} {d:DataW H} {p:List MemPlace}
 (hv:Value.okWide aC w .any b0 22 v) (h:DataW.Trod enc aC w 0 (fun _=>true) true 22 v d p):IsUActs w v:=by
 obtain⟨a0,len0,cap0,rfl⟩:=okWide_slice Tryz.underlying22 hv;obtain⟨fuel,hf⟩:=h;exact gQ (by omega) Tryz.underlying22 kQ (fun cs=>∃ A,pF w w.heap.size cs A) (fun m cs y hy=>mN hy) hf
def iO (w:World) (lo:Nat) (v:Value) (A:List gL):Prop:=
 ∃ a cap,v=.slice a A.length cap /\ A.length <= 9223372036854775807 /\ (A = [] \/ ∃ b off,a=some ⟨b,off,none⟩ /\ b < lo /\ ∀ i (h:i < A.length),(0 <= A[i].kind /\ A[i].kind <= 255) /\ cw A[i].n /\ (∀ x ∈ A[i].keys,x.length <= 9223372036854775807) /\ ∃ xk ck x1 c1 x2 c2 x3 c3,
   w.cell? ⟨b,off+i * 7,none⟩=some (.int .u8 A[i].kind) /\ w.cell? ⟨b,off+i * 7+1,none⟩=some (.slice xk A[i].keys.length ck) /\ w.cell? ⟨b,off+i * 7+2,none⟩=some (.slice x1 A[i].m.seen.length c1) /\ w.cell? ⟨b,off+i * 7+3,none⟩=some (.slice x2 A[i].m.items.length c2) /\ w.cell? ⟨b,off+i * 7+4,none⟩=some (.slice x3 A[i].m.gone.length c3) /\ w.cell? ⟨b,off+i * 7+5,none⟩=some (.int .i64 A[i].n) /\ w.cell? ⟨b,off+i * 7+6,none⟩=some (B A[i].b) /\
   Rows (fun q=>q < lo) w 1 (.slice xk A[i].keys.length ck) A[i].keys.length (A[i].keys.map Go.Proofs.encStr) /\ bJ (fun q=>q < lo) w (.slice x1 A[i].m.seen.length c1) (.slice x2 A[i].m.items.length c2) (.slice x3 A[i].m.gone.length c3) A[i].m)
theorem ol {w:World} {v:Value} (h:IsUActs w v):∃ A,iO w w.heap.size v A:=by
 obtain⟨n,a,cap,rfl,h1,h2,h3,h4⟩:=h;have hn9:n <= 9223372036854775807:=by unfold maxLen at h2;omega
 rcases h4 with rfl | ⟨b,off,L,t,fz,rfl,hb,hg,hle,hE⟩
 ·exact⟨[],a,cap,rfl,by simp,.inl rfl⟩
 ·have hex:∀ i,i < n -> ∃ A:gL,(0 <= A.kind /\ A.kind <= 255) /\ cw A.n /\ (∀ x ∈ A.keys,x.length <= 9223372036854775807) /\ ∃ xk ck x1 c1 x2 c2 x3 c3,
   w.cell? ⟨b,off+i * 7,none⟩=some (.int .u8 A.kind) /\ w.cell? ⟨b,off+i * 7+1,none⟩=some (.slice xk A.keys.length ck) /\ w.cell? ⟨b,off+i * 7+2,none⟩=some (.slice x1 A.m.seen.length c1) /\ w.cell? ⟨b,off+i * 7+3,none⟩=some (.slice x2 A.m.items.length c2) /\ w.cell? ⟨b,off+i * 7+4,none⟩=some (.slice x3 A.m.gone.length c3) /\ w.cell? ⟨b,off+i * 7+5,none⟩=some (.int .i64 A.n) /\ w.cell? ⟨b,off+i * 7+6,none⟩=some (B A.b) /\
   Rows (fun q=>q < w.heap.size) w 1 (.slice xk A.keys.length ck) A.keys.length (A.keys.map Go.Proofs.encStr) /\ bJ (fun q=>q < w.heap.size) w (.slice x1 A.m.seen.length c1) (.slice x2 A.m.items.length c2) (.slice x3 A.m.gone.length c3) A.m:=by
   intro i hi;obtain⟨A,k1,k2,xk,ck,x1,c1,x2,c2,x3,c3,he,hR,hq,hM⟩:=hE i hi
   have hget:∀ j u,[Value.int .u8 A.kind,.slice xk A.keys.length ck,.slice x1 A.m.seen.length c1,.slice x2 A.m.items.length c2,.slice x3 A.m.gone.length c3,.int .i64 A.n,B A.b][j]?=some u -> j < 7 -> w.cell? ⟨b,off+i * 7+j,none⟩=some u:=fun j u hu hj=>by
    rw[<- he,List.getElem?_take,if_pos hj,List.getElem?_drop] at hu;rw[cell_of_row w b _ L t fz hg];simpa using hu
   exact⟨A,k1,k2,hq,xk,ck,x1,c1,x2,c2,x3,c3,hget 0 _ rfl (by omega),hget 1 _ rfl (by omega),hget 2 _ rfl (by omega),hget 3 _ rfl (by omega),hget 4 _ rfl (by omega),hget 5 _ rfl (by omega),hget 6 _ rfl (by omega),hR,hM⟩
  let f:Nat -> gL:=fun i=>if h:i < n then Classical.choose (hex i h) else ⟨0,[],.empty,0,0⟩
  have hfe:∀ i,(h:i < n) -> f i=Classical.choose (hex i h):=fun i h=>by simp only[f,dif_pos h]
  refine⟨(List.range n).map f,some ⟨b,off,none⟩,cap,by simp,by simpa using hn9,.inr ⟨b,off,rfl,hb,fun i hi=>?_⟩⟩;have hi':i < n:=by simpa using hi
  have e:((List.range n).map f)[i]=Classical.choose (hex i hi'):=by simp[hfe i hi']
  rw[e];exact Classical.choose_spec (hex i hi')
theorem iO.kept {w w':World} {lo:Nat} {v:Value} {A:List gL} (h:iO w lo v A) (hb:Below lo w w'):iO w' lo v A:=by
 obtain⟨a,cap,rfl,h9,h⟩:=h;refine⟨a,cap,rfl,h9,?_⟩;rcases h with h | ⟨b,off,rfl,hlt,h⟩
 ·exact .inl h
 ·refine .inr ⟨b,off,rfl,hlt,fun i hi=>?_⟩;obtain⟨h1,h2,h3,xk,ck,x1,c1,x2,c2,x3,c3,d0,d1,d2,d3,d4,d5,d6,hR,hM⟩:=h i hi;have hc:∀ j,w'.cell? ⟨b,j,none⟩=w.cell? ⟨b,j,none⟩:=fun j=>hb.cell (p:=⟨b,j,none⟩) hlt
  exact⟨h1,h2,h3,xk,ck,x1,c1,x2,c2,x3,c3,(hc _).trans d0,(hc _).trans d1,(hc _).trans d2,(hc _).trans d3,(hc _).trans d4,(hc _).trans d5,(hc _).trans d6,hR.keep (w':=w') fun q hq _=>hb.block q hq,hM.keep (w':=w') fun q hq _=>hb.block q hq⟩
end
section
open Go.Lib
def Mid (lo hi:Nat):aV:=fun q=>lo <= q /\ q < hi
def UXH (w:World) (lo hi d u:Nat) (M:MD) (U:MU):Prop:=∃ jk,jk.K.d=d /\ 3 < lo /\ lo <= hi /\ hi <= w.heap.size /\ (∀ q,jk.all q -> lo <= q /\ q < hi) /\ (lo <= u /\ u < hi) /\ UAt w jk u M U
theorem UX.at {w:World} {lo d u:Nat} {M:MD} {U:MU} (h:UX w lo d u M U):UXH w lo w.heap.size d u M U:=by
 obtain⟨jk,h1,h2,h3,h4,h5,h6⟩:=h;exact⟨jk,h1,h2,h3,aq _,fun q hq=>⟨h4 q hq,h6.jat.lt q hq⟩,⟨h5,h6.lt⟩,h6⟩
theorem UXH.ux {w:World} {lo hi d u:Nat} {M:MD} {U:MU} (h:UXH w lo hi d u M U):UX w lo d u M U:=by
 obtain⟨jk,h1,h2,h3,h3',h4,h5,h6⟩:=h;exact⟨jk,h1,h2,by omega,fun q hq=>(h4 q hq).1,h5.1,h6⟩
theorem UXH.keep {w w':World} {lo hi d u:Nat} {M:MD} {U:MU} (h:UXH w lo hi d u M U) (hb:Below w.heap.size w w'):UXH w' lo hi d u M U:=by
 obtain⟨jk,h1,h2,h3,h3',h4,h5,h6⟩:=h;exact⟨jk,h1,h2,h3,au h3' hb.size,h4,h5,h6.keep hb⟩
theorem ct.uxh {w w':World} {jk:JK} {lo hi d u:Nat} {r:MD × MU × Int} {e:Ending} (h:ct w jk u r e w') (h1:jk.K.d=d) (h2:3 < lo) (h3:lo <= hi) (h3':hi <= w.heap.size) (h4:∀ q,jk.all q -> lo <= q /\ q < hi) (h5:lo <= u /\ u < hi):
 e=.returned (.int .i64 r.2.2) /\ UX w' lo d u r.1 r.2.1 /\ aK (Mid lo hi) w w':=by
 obtain⟨k0,k1,k2⟩:=h.ux h1 h2 (au h3 h3') (fun q hq=>(h4 q hq).1) h5.1;obtain⟨-,jk',-,-,-,-,ho⟩:=h
 exact⟨k0,k1,ho.mono fun q hq=>by
  rcases hq with hq | rfl
  ·exact h4 q hq
  ·exact h5⟩
theorem mO (w:World) (hL:dF w) (lo hi d u:Nat) (M:MD) (U:MU) (h:UXH w lo hi d u M U) (hd:U.dev < 8) (hv:validR U.m=true) (F:aV) (kv:Value) (l:List RKey) (hl:Rows F w 1 kv l.length (l.map Go.Proofs.encStr)) (hln:l.length <= 1000) (hkl:∀ k ∈ l,k.length <= 1000) (hw:M.writes+200000 < 4611686018427387904):
 Calls aC 23 #[.pointer (some ⟨u,0,none⟩),kv] w fun e w'=>e=.returned (.int .i64 (cq M U l).2.2) /\ UX w' lo d u (cq M U l).1 (cq M U l).2.1 /\ aK (Mid lo hi) w w':=by
 obtain⟨jk,h1,h2,h3,h3',h4,h5,h6⟩:=h;refine(jc w hL.2.1 hL.2.2 hL.1 jk u M U h6 hd hv F kv l hl hln hkl hw).mono ?_;intro e w' hp;exact hp.uxh h1 h2 h3 h3' h4 h5
theorem pG (w:World) (hL:dF w) (lo hi d u:Nat) (M:MD) (U:MU) (h:UXH w lo hi d u M U) (hd:U.dev < 8) (hv:validR U.m=true) (F:aV) (kv:Value) (l:List RKey) (hl:Rows F w 1 kv l.length (l.map Go.Proofs.encStr)) (hln:l.length <= 1000) (hkl:∀ k ∈ l,k.length <= 1000) (hw:M.writes+200000 < 4611686018427387904):
 Calls aC 40 #[.pointer (some ⟨u,0,none⟩),kv] w fun e w'=>e=.returned (.int .i64 (du M U l).2.2) /\ UX w' lo d u (du M U l).1 (du M U l).2.1 /\ aK (Mid lo hi) w w':=by
 obtain⟨jk,h1,h2,h3,h3',h4,h5,h6⟩:=h;refine(nU w hL.2.1 hL.2.2 hL.1 jk u M U h6 hd hv F kv l hl hln hkl hw).mono ?_;intro e w' hp;exact hp.uxh h1 h2 h3 h3' h4 h5
theorem sn (w:World) (hL:dF w) (lo hi d u:Nat) (M:MD) (U:MU) (h:UXH w lo hi d u M U) (hd:U.dev < 8) (hv:validR U.m=true) (F:aV) (gv:Value) (g:RMap) (hg:cY F w gv g) (hw:M.writes+200000 < 4611686018427387904):
 Calls aC 38 #[.pointer (some ⟨u,0,none⟩),gv] w fun e w'=>e=.returned (.int .i64 (dJ M U g).2.2) /\ UX w' lo d u (dJ M U g).1 (dJ M U g).2.1 /\ aK (Mid lo hi) w w':=by
 obtain⟨jk,h1,h2,h3,h3',h4,h5,h6⟩:=h;refine(rS w hL.2.1 hL.2.2 hL.1 jk u M U h6 hd hv F gv g hg hw).mono ?_;intro e w' hp;exact hp.uxh h1 h2 h3 h3' h4 h5
theorem s8 (w:World) (hL:dF w) (lo hi d u:Nat) (M:MD) (U:MU) (h:UXH w lo hi d u M U) (hd:U.dev < 8) (hv:validR U.m=true) (hw:M.writes+200000 < 4611686018427387904):
 Calls aC 41 #[.pointer (some ⟨u,0,none⟩)] w fun e w'=>e=.returned (.int .i64 (eJ M U).2.2) /\ UX w' lo d u (eJ M U).1 (eJ M U).2.1 /\ aK (Mid lo hi) w w':=by
 obtain⟨jk,h1,h2,h3,h3',h4,h5,h6⟩:=h;refine(sW w hL.2.1 hL.2.2 hL.1 jk u M U h6 hd hv hw).mono ?_;intro e w' hp;exact hp.uxh h1 h2 h3 h3' h4 h5
/-! an act -/
def fM (M:MD) (U:MU) (A:gL):MD × MU × Int:=
 if A.kind.tmod 8 <= 2 then cq M U A.keys else if A.kind.tmod 8=3 then du M U A.keys else if A.kind.tmod 8=4 then dJ M U A.m else eJ M U
def eX (U:MU) (A:gL):RMap:=
 if A.kind.tmod 8 <= 2 then eV U.m (useR U.m U.dev A.keys) A.keys else if A.kind.tmod 8=3 then eV U.m (forgetR U.m U.dev A.keys) A.keys else if A.kind.tmod 8=4 then iw U.m (mergeR U.m A.m) else U.m
structure om (A:gL):Prop where
 kind:0 <= A.kind /\ A.kind <= 255
 num:cw A.n
 keys:A.keys.length <= 20
 klen:∀ k ∈ A.keys,k.length <= 60
 items:A.m.items.length <= 20
 gone:A.m.gone.length <= 20
 seen:A.m.seen.length <= 20
end
theorem ta {P:Program} (W:World) (base:Nat) (ts te:TypeId) {i0:TypeInfo} {z:Value} {k bz:Nat} (hu:P.underlying ts=some (.slice te)) (hi:P.info? te=some i0) (hz:i0.zero=some z) (hs:i0.size=k) (hbz:i0.bytes=bz) (hzk:z.cells.size=k) (hk:0 < k)
 (e0:Nat) (he:Blk W e0 [] te) (hb:base <= e0) (F:aV) (x:Value) (m:Nat) (X:List Value) (hx:Rows F W k x m X) (h1:∀ u ∈ X,u.oneCell'=true)
 (hlen:m <= maxLen) (hb47:m * bz <= 140737488355328) (hbase:base <= W.heap.size):
 ∃ v' w',(AP #[ts,ts] ts #[.slice (some ⟨e0,0,none⟩) 0 0,x]).run P W=.ok v' w' /\ w'.ownsRow base te k v' m X /\ Below W.heap.size W w':=by
 have hown:W.ownsRow base te k (.slice (some ⟨e0,0,none⟩) 0 0) 0 []:=⟨by simp,.inr ⟨e0,0,#[],rfl,hb,he,aq _,by unfold maxLen;omega,by simp,by simp⟩⟩
 obtain⟨v',w',hr,ho,-⟩:=bw (P:=P) W base ts te hu hi hz hs hbz hzk hk _ 0 [] hown F x m X hx h1 (by omega) (by simpa using hb47) hbase;rw[Nat.zero_add,List.nil_append] at ho;refine⟨v',w',hr,ho,?_⟩;obtain⟨a,cap,rfl,hc,hm,hzz,hX,hx⟩:=hx;cases a with
 | none=>
   have h2:=run_append_owned_none (P:=P) W base ts ts te i0 k hu hi _ _ _ hown;obtain rfl:=hzz rfl;obtain rfl:m=0:=by omega
   have hr':(Builtin.append_ #[ts,ts] ts #[.slice (some ⟨e0,0,none⟩) 0 0,.slice none 0 0]).run P W=.ok v' w':=hr;rw[h2] at hr';simp at hr';rw[<- hr'.2];exact Below.refl _ _
 | some ad=>
   have hnews:∀ j u,X[j]?=some u -> W.cell? (ad.add j)=some u:=fun j u hj=>by
    have hjl:j < m * k:=by rw[<- hX];exact(List.getElem?_eq_some_iff.1 hj).1
    rcases hx with rfl | ⟨b,off,L,t,fz,hb,hF,hg,hL,hrr⟩
    ·simp at hjl
    ·simp at hb;subst hb;rw[Addr.add_lit,cell_of_row W b (off+j) L t fz hg,hrr j hjl,hj]
   have hr':(Builtin.append_ #[ts,ts] ts #[.slice (some ⟨e0,0,none⟩) 0 0,.slice (some ad) m cap]).run P W=.ok v' w':=hr
   by_cases hm0:m=0
   ·subst hm0;obtain rfl:X = []:=List.length_eq_zero_iff.1 (by omega);have h2:=run_append_room (P:=P) W ts ts te i0 hu hi e0 0 0 #[] he ad 0 cap [] (by simp) hnews nofun (aq _) (by simp);rw[h2] at hr';simp at hr';rw[<- hr'.2];refine⟨rfl,rfl,rfl,by simp[World.setRow],fun b hb=>?_⟩
    by_cases hbe:b=e0
    ·subst hbe;rw[setRow_heap W b #[] _ te (0,0) he];exact he.symm
    ·exact setRow_other W e0 b _ hbe
   ·have h2:=run_append_grow (P:=P) W ts ts te i0 z hu hi hz ⟨e0,0,none⟩ 0 0 [] (by simp) (fun j u hj=>by simp at hj) ad m cap X (by rw[hX,hs]) hnews (by omega) (by unfold maxLen at hm;simp;omega) (growslice_fits (by omega) (by rw[hbz];simpa using hb47));rw[h2] at hr';simp only[Result.ok.injEq] at hr';rw[<- hr'.2];exact(Below.refl W.heap.size W).drew.alloc (aq _) _
section
open Go.Lib
attribute [local go_sem ↓] bq
structure iP (tA tO tI tIt tGo:TypeId) (bo:Nat) (w wr:World) (m:RMap) (P:List Value) (v1 v2 v3:Value) (k2 k3:Nat):Prop where
 lo:w.heap.size+1 < bo
 out:Blk wr bo [v1,v2,v3] tO
 par:Blk wr w.heap.size P tA
 res:Blk wr (w.heap.size+1) [.slice none 0 0,.slice none 0 0,.slice none 0 0] tO
 o1:wr.ownsRow w.heap.size tI 1 v1 m.seen.length (m.seen.map eI)
 o2:wr.ownsRow w.heap.size tIt 4 v2 k2 ((m.items.take k2).flatMap aZ)
 o3:wr.ownsRow w.heap.size tGo 3 v3 k3 ((m.gone.take k3).flatMap cn)
 below:Below w.heap.size w wr
section
variable {tA tO tI tIt tGo:TypeId} {bo:Nat} {w wr:World} {m:RMap} {P:List Value} {v1 v2 v3:Value} {k2 k3:Nat}
theorem iP.kept (st:iP tA tO tI tIt tGo bo w wr m P v1 v2 v3 k2 k3) {wt:World} (hb:Below wr.heap.size wr wt):iP tA tO tI tIt tGo bo w wt m P v1 v2 v3 k2 k3:=
 ⟨st.lo,st.out.keep (hb.block _ st.out.lt),st.par.keep (hb.block _ st.par.lt),st.res.keep (hb.block _ st.res.lt),bc st.o1 hb,bc st.o2 hb,bc st.o3 hb,st.below.trans (hb.mono st.below.size)⟩
theorem iP.stepIt (st:iP tA tO tI tIt tGo bo w wr m P v1 v2 v3 k2 k3) {w':World} {v2':Value} (hk:k2 < m.items.length) (own:w'.ownsRow w.heap.size tIt 4 v2' (k2+1) ((m.items.take k2).flatMap aZ ++ aZ m.items[k2])) (hg:wr.grownBy w' v2.ownBlock)
 (n1:tIt≠tO) (n2:tIt≠tA) (n3:tIt≠tI) (n4:tIt≠tGo) (n5:tI≠tO) (n6:tGo≠tO):iP tA tO tI tIt tGo bo w (w'.setCell ⟨bo,1,none⟩ v2') m P v1 v2' v3 (k2+1) k3:=by
 have hout:=st.out.grownNe st.o2 n1 hg;have hlt:=st.out.lt;have hlo:=st.lo;refine⟨hlo,hout.set 1 v2',(st.par.grownNe st.o2 n2 hg).set_other v2' (by show w.heap.size≠bo;omega),(st.res.grownNe st.o2 n1 hg).set_other v2' (by show w.heap.size+1≠bo;omega),aS (cN st.o1 st.o2 n3 hg) hout n5 _,?_,aS (cN st.o3 st.o2 n4 hg) hout n6 _,?_⟩
 ·rw[take_flat _ _ _ hk];exact aS own hout n1 _
 ·exact(st.below.trans (Below.grownOwn st.o2 hg st.below.size (aq _))).setCell (by show w.heap.size <= bo;omega) _
theorem iP.stepGo (st:iP tA tO tI tIt tGo bo w wr m P v1 v2 v3 k2 k3) {w':World} {v3':Value} (hk:k3 < m.gone.length) (own:w'.ownsRow w.heap.size tGo 3 v3' (k3+1) ((m.gone.take k3).flatMap cn ++ cn m.gone[k3])) (hg:wr.grownBy w' v3.ownBlock)
 (n1:tGo≠tO) (n2:tGo≠tA) (n3:tGo≠tI) (n4:tGo≠tIt) (n5:tI≠tO) (n6:tIt≠tO):iP tA tO tI tIt tGo bo w (w'.setCell ⟨bo,2,none⟩ v3') m P v1 v2 v3' k2 (k3+1):=by
 have hout:=st.out.grownNe st.o3 n1 hg;have hlo:=st.lo;refine⟨hlo,hout.set 2 v3',(st.par.grownNe st.o3 n2 hg).set_other v3' (by show w.heap.size≠bo;omega),(st.res.grownNe st.o3 n1 hg).set_other v3' (by show w.heap.size+1≠bo;omega),aS (cN st.o1 st.o3 n3 hg) hout n5 _,aS (cN st.o2 st.o3 n4 hg) hout n6 _,?_,?_⟩
 ·rw[take_flat _ _ _ hk];exact aS own hout n1 _
 ·exact(st.below.trans (Below.grownOwn st.o3 hg st.below.size (aq _))).setCell (by show w.heap.size <= bo;omega) _
theorem iP.done (st:iP tA tO tI tIt tGo bo w wr m P v1 v2 v3 k2 k3) (h2:k2=m.items.length) (h3:k3=m.gone.length) {F:aV} {w0:World} {s1 s2 s3:Value} (hm:bJ F w0 s1 s2 s3 m) (n1:tI≠tO) (n2:tIt≠tO) (n3:tGo≠tO) {wf:World}
 (hwf:wf=((wr.setCell ⟨w.heap.size+1,0,none⟩ v1).setCell ⟨w.heap.size+1,1,none⟩ v2).setCell ⟨w.heap.size+1,2,none⟩ v3):
 Blk wf (w.heap.size+1) [v1,v2,v3] tO /\ cY (fun b=>w.heap.size <= b) wf (.agg #[v1,v2,v3]) m /\ RowsT tI tIt tGo wf w.heap.size (.agg #[v1,v2,v3]) m /\ Below w.heap.size w wf:=by
 subst h2 h3 hwf;have r0:=st.res;have r1:=r0.set 0 v1;have r2:=r1.set 1 v2;have r3:=r2.set 2 v3;have e2:=st.o2;have e3:=st.o3;rw[List.take_length] at e2 e3;have o1:=aS (i:=2) (aS (i:=1) (aS (i:=0) st.o1 r0 n1 v1) r1 n1 v2) r2 n1 v3;have o2:=aS (i:=2) (aS (i:=1) (aS (i:=0) e2 r0 n2 v1) r1 n2 v2) r2 n2 v3;have o3:=aS (i:=2) (aS (i:=1) (aS (i:=0) e3 r0 n3 v1) r1 n3 v2) r2 n3 v3;have hb:Below w.heap.size w _:=((st.below.setCell (p:=⟨w.heap.size+1,0,none⟩) (by show w.heap.size <= w.heap.size+1;omega) v1).setCell (p:=⟨w.heap.size+1,1,none⟩) (by show w.heap.size <= w.heap.size+1;omega) v2).setCell (p:=⟨w.heap.size+1,2,none⟩) (by show w.heap.size <= w.heap.size+1;omega) v3;exact⟨r3,⟨v1,v2,v3,rfl,(Rows.of_owns o1).mono (fun b h _=>h.1),(Rows.of_owns o2).mono (fun b h _=>h.1),(Rows.of_owns o3).mono (fun b h _=>h.1),hm.seenB,hm.itemsB,hm.goneB⟩,⟨v1,v2,v3,rfl,o1,o2,o3⟩,hb⟩
end
set_option maxRecDepth 100000 in
set_option maxHeartbeats 2500000 in
theorem kS (w:World) (F:aV) (v:Value) (m:RMap) (h:cY F w v m) (hs:m.seen.length <= 1000000) (hi:m.items.length <= 1000000) (hg:m.gone.length <= 1000000):
 Calls aC 36 #[v] w (GivenPostT 3 129 130 w m):=by
 obtain⟨s1,s2,s3,rfl,h⟩:=h;obtain⟨a1,p1,rfl,-⟩:=h.seen.shape;obtain⟨a2,p2,rfl,-⟩:=h.items.shape;obtain⟨a3,p3,rfl,-⟩:=h.gone.shape;have l1:=h.seen.len;have l2:=h.items.len;have l3:=h.gone.len;unfold maxLen at l1 l2 l3
 obtain⟨n1,hn1⟩:∃ n,m.seen.length=n:=⟨_,rfl⟩
 obtain⟨n2,hn2⟩:∃ n,m.items.length=n:=⟨_,rfl⟩
 obtain⟨n3,hn3⟩:∃ n,m.gone.length=n:=⟨_,rfl⟩
 rw[hn1,hn2,hn3] at h;rw[hn1] at l1 ⊢;rw[hn2] at l2 ⊢;rw[hn3] at l3 ⊢
 obtain⟨wx,hwx⟩:∃ wx,wx=w.alloc (.cells #[.slice a1 n1 p1,.slice a2 n2 p2,.slice a3 n3 p3] 37):=⟨_,rfl⟩
 have hbx:Below w.heap.size w wx:=by rw[hwx];exact aE _ _
 have hzx:wx.heap.size=w.heap.size+1:=by rw[hwx];simp
 have hx:=h.keep (w':=wx) fun b _ hlt=>hbx.block b hlt
 have hnx:Blk wx w.heap.size [.slice a1 n1 p1,.slice a2 n2 p2,.slice a3 n3 p3] 37:=by rw[hwx];exact Blk.new _ _ _
 have Hx:=ae hx;have Hn1:=ae hn1;have Hn2:=ae hn2;have Hn3:=ae hn3;have Hwx:=ae hwx;have Hbx:=ae hbx;have Hzx:=ae hzx;have c0:=hnx.cell 0;have c1:=hnx.cell 1;have c2:=hnx.cell 2;simp at c0 c1 c2;have Hnx:=ae hnx;clear hx hn1 hn2 hn3 hwx hbx hnx hzx;rw[Hn1.out] at hs;rw[Hn2.out] at hi;rw[Hn3.out] at hg;have Hh:=ae h
 obtain⟨w2,hw2⟩:∃ w2,w2=(wx.alloc (.cells #[.slice none 0 0,.slice none 0 0,.slice none 0 0] 75)).alloc (.cells #[] 3):=⟨_,rfl⟩
 have hb2:Below w.heap.size w w2:=by rw[hw2];exact(Hbx.out.alloc Hbx.out.size _).alloc (by have:=Hbx.out.size;simp;omega) _
 have hz2:w2.heap.size=w.heap.size+3:=by rw[hw2];simp[Hzx.out]
 have hx2:bJ F w2 _ _ _ m:=h.keep fun b _ hlt=>hb2.block b hlt
 have he2:Blk w2 (w.heap.size+1+1) [] 3:=by
  have:=Blk.new (wx.alloc (.cells #[.slice none 0 0,.slice none 0 0,.slice none 0 0] 75)) #[] 3;rw[hw2];simpa[Hzx.out] using this
 have hr2:Blk w2 (w.heap.size+1) [.slice none 0 0,.slice none 0 0,.slice none 0 0] 75:=by
  have:=(Blk.new wx #[.slice none 0 0,.slice none 0 0,.slice none 0 0] 75).alloc (.cells #[] 3);rw[hw2];simpa[Hzx.out] using this
 have hp2:Blk w2 w.heap.size _ _:=Hnx.out.keep (by rw[hw2];exact((aE wx _).trans (aE _ _ |>.mono (by simp))).block _ Hnx.out.lt);obtain⟨i0,q1,q2,q3,q4⟩:=info_parts infoI;obtain⟨v1,w3,hr,hown3,hb3'⟩:=ta (P:=aC) w2 w.heap.size 33 3 Tryz.underlying33 q1 q2 q3 q4 rfl (by decide) (w.heap.size+1+1) he2 (by omega) F _ _ _ hx2.seen (rg _) (by rw[Hn1.out];unfold maxLen;omega) (by rw[Hn1.out];omega) (by omega);rw[Hn1.out] at hown3;obtain⟨b1,d1,rfl,-⟩:=(Rows.of_owns hown3).shape;have hb3:Below w.heap.size w w3:=hb2.trans (hb3'.mono (by omega));have hr3:=hr2.keep (hb3'.block _ hr2.lt);have hp3:=hp2.keep (hb3'.block _ hp2.lt);have hsz3:=hb3'.size
 obtain⟨w4,hw4⟩:∃ w4,w4=w3.alloc (.cells #[.slice b1 n1 d1,.slice none 0 0,.slice none 0 0] 75):=⟨_,rfl⟩
 have hb4:Below w3.heap.size w3 w4:=by rw[hw4];exact aE _ _
 obtain⟨bo,hbo⟩:∃ bo,bo=w3.heap.size:=⟨_,rfl⟩
 have st4:iP 37 75 3 129 130 bo w w4 m [.slice a1 n1 p1,.slice a2 n2 p2,.slice a3 n3 p3] (.slice b1 n1 d1) (.slice none 0 0) (.slice none 0 0) 0 0:=
  ⟨by omega,by rw[hw4,hbo];exact Blk.new _ _ _,hp3.keep (hb4.block _ hp3.lt),hr3.keep (hb4.block _ hr3.lt),by rw[Hn1.out];exact bc hown3 hb4,World.ownsRow_nil _ _ _ _,World.ownsRow_nil _ _ _ _,hb3.trans (hb4.mono hb3.size)⟩
 rw[hw2,Hwx.out] at hr;have Hst4:=ae st4;have Hw4:=ae hw4;have Hbo:=ae hbo;clear h hx2 he2 hp2 hr2 hown3 hb3' hp3 hr3 hb3 st4 hw4 hw2 hb2 hz2 q1 q2 q3 q4 hb4 hsz3 hbo
 go_enter Tryz.func36,Tryz.ntmps36
 go_wp2_with fail;rw[<- Hw4.out,<- Hbo.out];clear hr
 go_loopw [4] (fun i wr=>∃ (k:Nat) (v2:Value),k <= n2 /\ i=.int .i64 (k:Int) /\ iP 37 75 3 129 130 bo w wr m [.slice a1 n1 p1,.slice a2 n2 p2,.slice a3 n3 p3] (.slice b1 n1 d1) v2 (.slice none 0 0) k 0) (fun i _=>n2 - (intOf i).toNat)
 case atStart=>exact⟨0,_,by omega,rfl,Hst4.out⟩
 case round=>
  obtain⟨k,v2,hk,rfl,st⟩:=hrel;have r1:wr.cell? ⟨w.heap.size,1,none⟩=some (.slice a2 n2 p2):=by simpa using st.par.cell 1
  by_cases hkn:k < n2
  ·have hkI:(k:Int) < (n2:Int):=by omega
   have hkm:k < m.items.length:=by rw[Hn2.out];exact hkn
   have hm:=Hh.out.keep (w':=wr) fun b _ hlt=>st.below.block b hlt
   obtain⟨b,off,rfl,-,hblt,hc⟩:=eE hm.items (by omega);obtain⟨e0,e1,e2,e3⟩:=hc k hkm
   obtain⟨q,hq⟩:∃ q,m.items[k]=q:=⟨_,rfl⟩
   rw[hq] at e0 e1 e2 e3;obtain⟨ka,da,sa,va⟩:=q;dsimp only at e0 e1 e2 e3
   obtain⟨wt,hwt⟩:∃ wt,wt=wr.alloc (.cells #[.string ⟨ka.toArray⟩,.int .i64 da,.int .i64 sa,.int .i64 va] 108):=⟨_,rfl⟩
   have hbt:Below wr.heap.size wr wt:=by rw[hwt];exact aE _ _
   have stt:=st.kept hbt;obtain⟨i0,q1,q2,q3,q4⟩:=info_parts infoItR;obtain⟨v2',w5,hr,hown5,hg5⟩:=bF (P:=aC) wt w.heap.size 72 129 Tryz.underlying72 q1 q2 q3 q4 rfl (by decide) v2 k _ stt.o2 #[.string ⟨ka.toArray⟩,.int .i64 da,.int .i64 sa,.int .i64 va] rfl (by simp[Value.oneCell']) (by unfold maxLen;omega) (by omega) (by have:=stt.below.size;omega);obtain⟨b2,d2,rfl,-⟩:=(Rows.of_owns hown5).shape;have st5:=(stt.kept (aE wt (.cells #[.string ⟨ka.toArray⟩,.int .i64 da,.int .i64 sa,.int .i64 va] 129))).stepIt hkm (by rw[hq];exact hown5) hg5 (by decide) (by decide) (by decide) (by decide) (by decide) (by decide);have ho5:=(stt.kept (aE wt (.cells #[.string ⟨ka.toArray⟩,.int .i64 da,.int .i64 sa,.int .i64 va] 129))).out.grownNe (stt.kept (aE wt (.cells #[.string ⟨ka.toArray⟩,.int .i64 da,.int .i64 sa,.int .i64 va] 129))).o2 (by decide) hg5;have o1:=ho5.cell 1;have f1:=ho5.free 1;simp at o1;have ht1:wr.cell? ⟨bo,1,none⟩=some v2:=by simpa using st.out.cell 1
   have hlt1:=st.out.lt;have hlt0:=st.par.lt;have Hst5:=ae st5;have Hq:=ae hq;rw[show wt.heap.size=wr.heap.size+1 by rw[hwt];simp,hwt] at hr;clear hm hc hq hbt stt hown5 hg5 st5 ho5 st q1 q2 q3 q4 hwt;go_wp2_with fail
   go_roundw
   case rel=>exact⟨k+1,_,by omega,by go_num,Hst5.out⟩
   case measure=>simp[intOf];omega
  ·have hkI:¬ (k:Int) < (n2:Int):=by omega
   have hke:k=m.items.length:=by rw[Hn2.out];omega
   have Hst:=ae st;have Hke:=ae hke;clear st hke;go_wp2_with fail;clear r1
   go_loopw [6] (fun i wr=>∃ (k':Nat) (v3:Value),k' <= n3 /\ i=.int .i64 (k':Int) /\ iP 37 75 3 129 130 bo w wr m [.slice a1 n1 p1,.slice a2 n2 p2,.slice a3 n3 p3] (.slice b1 n1 d1) v2 v3 k k') (fun i _=>n3 - (intOf i).toNat)
   case atStart=>exact⟨0,_,by omega,rfl,Hst.out⟩
   case round=>
    obtain⟨k',v3,hk',rfl,st⟩:=hrel;clear Hst;have r1:wr.cell? ⟨w.heap.size,2,none⟩=some (.slice a3 n3 p3):=by simpa using st.par.cell 2
    by_cases hkn':k' < n3
    ·have hkI':(k':Int) < (n3:Int):=by omega
     have hkm:k' < m.gone.length:=by rw[Hn3.out];exact hkn'
     have hm:=Hh.out.keep (w':=wr) fun b _ hlt=>st.below.block b hlt
     obtain⟨b,off,rfl,-,hblt,hc⟩:=eF hm.gone (by omega);obtain⟨e0,e1,e2⟩:=hc k' hkm
     obtain⟨q,hq⟩:∃ q,m.gone[k']=q:=⟨_,rfl⟩
     rw[hq] at e0 e1 e2;obtain⟨ka,da,sa⟩:=q;dsimp only at e0 e1 e2
     obtain⟨wt,hwt⟩:∃ wt,wt=wr.alloc (.cells #[.string ⟨ka.toArray⟩,.int .i64 da,.int .i64 sa] 111):=⟨_,rfl⟩
     have hbt:Below wr.heap.size wr wt:=by rw[hwt];exact aE _ _
     have stt:=st.kept hbt;obtain⟨i0,q1,q2,q3,q4⟩:=info_parts infoGoR;obtain⟨v3',w5,hr,hown5,hg5⟩:=bF (P:=aC) wt w.heap.size 73 130 Tryz.underlying73 q1 q2 q3 q4 rfl (by decide) v3 k' _ stt.o3 #[.string ⟨ka.toArray⟩,.int .i64 da,.int .i64 sa] rfl (by simp[Value.oneCell']) (by unfold maxLen;omega) (by omega) (by have:=stt.below.size;omega);obtain⟨b3,d3,rfl,-⟩:=(Rows.of_owns hown5).shape;have st5:=(stt.kept (aE wt (.cells #[.string ⟨ka.toArray⟩,.int .i64 da,.int .i64 sa] 130))).stepGo hkm (by rw[hq];exact hown5) hg5 (by decide) (by decide) (by decide) (by decide) (by decide) (by decide);have ho5:=(stt.kept (aE wt (.cells #[.string ⟨ka.toArray⟩,.int .i64 da,.int .i64 sa] 130))).out.grownNe (stt.kept (aE wt (.cells #[.string ⟨ka.toArray⟩,.int .i64 da,.int .i64 sa] 130))).o3 (by decide) hg5;have o1:=ho5.cell 2;have f1:=ho5.free 2;simp at o1;have ht1:wr.cell? ⟨bo,2,none⟩=some v3:=by simpa using st.out.cell 2
     have hlt1:=st.out.lt;have hlt0:=st.par.lt;have Hst5:=ae st5;have Hq:=ae hq;rw[show wt.heap.size=wr.heap.size+1 by rw[hwt];simp,hwt] at hr;clear hm hc hq hbt stt hown5 hg5 st5 ho5 st q1 q2 q3 q4 hwt;go_wp2_with fail
     go_roundw
     case rel=>exact⟨k'+1,_,by omega,by go_num,Hst5.out⟩
     case measure=>simp[intOf];omega
    ·have hkI':¬ (k':Int) < (n3:Int):=by omega
     have hke':k'=m.gone.length:=by rw[Hn3.out];omega
     obtain⟨b2,d2,rfl,-⟩:=(Rows.of_owns st.o2).shape;obtain⟨b3,d3,rfl,-⟩:=(Rows.of_owns st.o3).shape;have x0:=st.out.cell 0;have x1:=st.out.cell 1;have x2:=st.out.cell 2;have y0:=st.res.cell 0;have y1:=st.res.cell 1;have y2:=st.res.cell 2;have z0:=st.res.free 0;have z1:=st.res.free 1;have z2:=st.res.free 2;simp at x0 x1 x2 y0 y1 y2
     obtain⟨wf,hwf⟩:∃ wf,wf=((wr.setCell ⟨w.heap.size+1,0,none⟩ (.slice b1 n1 d1)).setCell ⟨w.heap.size+1,1,none⟩ (.slice b2 k d2)).setCell ⟨w.heap.size+1,2,none⟩ (.slice b3 k' d3):=⟨_,rfl⟩
     obtain⟨hrf,hmf,hof,hbf⟩:=st.done Hke.out hke' Hh.out (by decide) (by decide) (by decide) hwf;have Hwf:=ae hwf;have Hmf:=ae hmf;have Hof:=ae hof;have Hbf:=ae hbf;have Hrf:=ae hrf;clear st hke' hwf hrf hmf hof hbf;go_wp2_with fail;rw[<- Hwf.out];have q0:=Hrf.out.cell 0;have q1:=Hrf.out.cell 1;have q2:=Hrf.out.cell 2;simp at q0 q1 q2;exact bodyPost_ret (v:=.agg #[.slice b1 n1 d1,.slice b2 k d2,.slice b3 k' d3]) (by simp[results,Tryz.results36,go_sem,q0,q1,q2]) rfl ⟨_,rfl,Hof.out,Hmf.out,Hbf.out⟩
end
section
open Go.Lib
attribute [local go_sem] opC upC
set_option maxRecDepth 100000 in
set_option maxHeartbeats 1500000 in
theorem eB (w:World) (F G:aV) (va vb:Value) (a b:RMap) (ha:cY F w va a) (hb:cY G w vb b) (hs:a.seen.length <= 1000000) (hi:a.items.length <= 1000000) (hg:a.gone.length <= 1000000) (hs2:b.seen.length <= 1000000) (hi2:b.items.length <= 1000000) (hg2:b.gone.length <= 1000000):
 Calls aC 18 #[va,vb] w (SamePost w a b):=by
 obtain⟨s1a,s2a,s3a,rfl,ha⟩:=ha;obtain⟨a1a,p1a,rfl,-⟩:=ha.seen.shape;obtain⟨a2a,p2a,rfl,-⟩:=ha.items.shape;obtain⟨a3a,p3a,rfl,-⟩:=ha.gone.shape;have l1a:=ha.seen.len;have l2a:=ha.items.len;have l3a:=ha.gone.len;unfold maxLen at l1a l2a l3a
 obtain⟨n1a,hn1a⟩:∃ n,a.seen.length=n:=⟨_,rfl⟩
 obtain⟨n2a,hn2a⟩:∃ n,a.items.length=n:=⟨_,rfl⟩
 obtain⟨n3a,hn3a⟩:∃ n,a.gone.length=n:=⟨_,rfl⟩
 rw[hn1a,hn2a,hn3a] at ha;rw[hn1a] at l1a ⊢;rw[hn2a] at l2a ⊢;rw[hn3a] at l3a ⊢
 obtain⟨wxa,hwxa⟩:∃ wx,wx=w.alloc (.cells #[.slice a1a n1a p1a,.slice a2a n2a p2a,.slice a3a n3a p3a] 37):=⟨_,rfl⟩
 have hbxa:Below w.heap.size w wxa:=by rw[hwxa];exact aE _ _
 have hzxa:wxa.heap.size=w.heap.size+1:=by rw[hwxa];simp
 have hxa:=ha.keep (w':=wxa) fun b _ hlt=>hbxa.block b hlt
 have hnxa:Blk wxa w.heap.size [.slice a1a n1a p1a,.slice a2a n2a p2a,.slice a3a n3a p3a] 37:=by rw[hwxa];exact Blk.new _ _ _
 have Hxa:=ae hxa;have Hn1a:=ae hn1a;have Hn2a:=ae hn2a;have Hn3a:=ae hn3a;have Hwxa:=ae hwxa;have Hbxa:=ae hbxa;have Hzxa:=ae hzxa;have c0a:=hnxa.cell 0;have c1a:=hnxa.cell 1;have c2a:=hnxa.cell 2;simp at c0a c1a c2a;have Hnxa:=ae hnxa;clear hxa hn1a hn2a hn3a hwxa hbxa hnxa hzxa
 replace hb:=hb.keep (w':=wxa) fun b _ hlt=>Hbxa.out.block b hlt
 obtain⟨s1b,s2b,s3b,rfl,hb⟩:=hb;obtain⟨a1b,p1b,rfl,-⟩:=hb.seen.shape;obtain⟨a2b,p2b,rfl,-⟩:=hb.items.shape;obtain⟨a3b,p3b,rfl,-⟩:=hb.gone.shape;have l1b:=hb.seen.len;have l2b:=hb.items.len;have l3b:=hb.gone.len;unfold maxLen at l1b l2b l3b
 obtain⟨n1b,hn1b⟩:∃ n,b.seen.length=n:=⟨_,rfl⟩
 obtain⟨n2b,hn2b⟩:∃ n,b.items.length=n:=⟨_,rfl⟩
 obtain⟨n3b,hn3b⟩:∃ n,b.gone.length=n:=⟨_,rfl⟩
 rw[hn1b,hn2b,hn3b] at hb;rw[hn1b] at l1b ⊢;rw[hn2b] at l2b ⊢;rw[hn3b] at l3b ⊢
 obtain⟨wxb,hwxb⟩:∃ wx,wx=wxa.alloc (.cells #[.slice a1b n1b p1b,.slice a2b n2b p2b,.slice a3b n3b p3b] 37):=⟨_,rfl⟩
 have hbxb:Below wxa.heap.size wxa wxb:=by rw[hwxb];exact aE _ _
 have hzxb:wxb.heap.size=wxa.heap.size+1:=by rw[hwxb];simp
 have hxb:=hb.keep (w':=wxb) fun b _ hlt=>hbxb.block b hlt
 have hnxb:Blk wxb wxa.heap.size [.slice a1b n1b p1b,.slice a2b n2b p2b,.slice a3b n3b p3b] 37:=by rw[hwxb];exact Blk.new _ _ _
 have Hxb:=ae hxb;have Hn1b:=ae hn1b;have Hn2b:=ae hn2b;have Hn3b:=ae hn3b;have Hwxb:=ae hwxb;have Hbxb:=ae hbxb;have Hzxb:=ae hzxb;have c0b:=hnxb.cell 0;have c1b:=hnxb.cell 1;have c2b:=hnxb.cell 2;simp at c0b c1b c2b;have Hnxb:=ae hnxb;clear hxb hn1b hn2b hn3b hwxb hbxb hnxb hzxb;have Hxa:=ae (Hxa.out.keep (w':=wxb) fun b _ hlt=>Hbxb.out.block b hlt);have hnxa:=Hnxa.out.keep (Hbxb.out.block _ Hnxa.out.lt);have c0a:=hnxa.cell 0;have c1a:=hnxa.cell 1;have c2a:=hnxa.cell 2;simp at c0a c1a c2a;have Hnxa:=ae hnxa;rw[Hzxa.out] at c0b c1b c2b;have Hbx:=ae (cA Hbxa.out Hbxb.out);clear hnxa;have kd:Below w.heap.size w wxb:=Hbx.out;have HT:=ae (kS wxb.drew F (.agg #[.slice a1a n1a p1a,.slice a2a n2a p2a,.slice a3a n3a p3a]) a (show cY F wxb.drew _ a from ⟨_,_,_,rfl,Hxa.out.keep (w':=wxb.drew) fun b _ _=>rfl⟩) hs hi hg);have r0:∀ w',aI wxb.drew w' -> w'.cell? ⟨w.heap.size,0,none⟩=some (.slice a1a n1a p1a):=fun w' hh=>laterC c0a hh
 have r1:∀ w',aI wxb.drew w' -> w'.cell? ⟨w.heap.size,1,none⟩=some (.slice a2a n2a p2a):=fun w' hh=>laterC c1a hh
 have r2:∀ w',aI wxb.drew w' -> w'.cell? ⟨w.heap.size,2,none⟩=some (.slice a3a n3a p3a):=fun w' hh=>laterC c2a hh
 have s0:∀ w',aI wxb.drew w' -> w'.cell? ⟨w.heap.size+1,0,none⟩=some (.slice a1b n1b p1b):=fun w' hh=>laterC c0b hh
 have s1:∀ w',aI wxb.drew w' -> w'.cell? ⟨w.heap.size+1,1,none⟩=some (.slice a2b n2b p2b):=fun w' hh=>laterC c1b hh
 have s2:∀ w',aI wxb.drew w' -> w'.cell? ⟨w.heap.size+1,2,none⟩=some (.slice a3b n3b p3b):=fun w' hh=>laterC c2b hh
 clear ha hb hs hi hg
 go_enter Tryz.func18,Tryz.ntmps18
 go_wp2_with fail;rw[<- Hwxa.out,<- Hwxb.out];refine aJ aI [(0,true),(2,true),(1,false),(3,false),(4,false),(5,true)] (by kernel_rfl) (by kernel_rfl) aH aG ?_;clear c0a c1a c2a c0b c1b c2b
 repeat (refine aF (v:=?_) rfl (aD rfl) (fun w' hC=>?_) (fun K hK=>?_);rotate_left;(focus (go_simp;first | done | exact rfl));go_simp;refine hK _ ?_;clear hK K)
 refine aQ rfl rfl (fun KK hK=>?_);go_simp;refine HT.out.mono ?_;rintro e w3 ⟨vt,rfl,-,hvt,hb3⟩;refine⟨_,rfl,hb3,hK _ _ ?_⟩;clear hK KK;go_simp;have HT2:=ae (kS w3 G (.agg #[.slice a1b n1b p1b,.slice a2b n2b p2b,.slice a3b n3b p3b]) b (show cY G w3 _ b from ⟨_,_,_,rfl,Hxb.out.keep (w':=w3) fun b _ hlt=>hb3.block b hlt⟩) hs2 hi2 hg2);obtain⟨t1,t2,t3,rfl,hvt⟩:=hvt;have Hvt:=ae hvt;have Hb3:=ae hb3;clear HT hvt hb3
 repeat (refine aF (v:=?_) rfl (aD rfl) (fun w' hC=>?_) (fun K hK=>?_);rotate_left;(focus (go_simp;first | done | exact rfl));go_simp;refine hK _ ?_;clear hK K)
 refine aQ rfl rfl (fun KK hK=>?_);go_simp;refine HT2.out.mono ?_;rintro e w4 ⟨vt2,rfl,-,hvt2,hb4⟩;refine⟨_,rfl,hb4,hK _ _ ?_⟩;clear hK KK;go_simp;have HS:=ae (same_any0 w4 _ _ (.agg #[t1,t2,t3]) vt2 a b ⟨_,_,_,rfl,Hvt.out.keep (w':=w4) fun b _ hlt=>hb4.block b hlt⟩ hvt2);have Hb4:=ae hb4;clear HT2 hvt2 hb4
 repeat (refine aF (v:=?_) rfl (aD rfl) (fun w' hC=>?_) (fun K hK=>?_);rotate_left;(focus (go_simp;first | done | exact rfl));go_simp;refine hK _ ?_;clear hK K)
 refine aQ rfl rfl (fun KK hK=>?_);go_simp;refine HS.out.mono ?_;rintro e w5 ⟨r,rfl,hr,hb5⟩;refine⟨_,rfl,hb5,hK _ _ ?_⟩;clear hK KK r0 r1 r2 s0 s1 s2 HS;go_simp
 repeat (refine aF (v:=?_) rfl (aD rfl) (fun w' hC=>?_) (fun K hK=>?_);rotate_left;(focus (go_simp;first | done | exact rfl));go_simp;refine hK _ ?_;clear hK K)
 refine aW ?_;have Hr:=ae hr;have Hb5:=ae hb5;clear hr hb5;go_wp2_with fail
 go_ret
 have hb3':Below w.heap.size w w3:=(kd.drew).trans (Hb3.out.mono kd.size);have hb4':=hb3'.trans (Hb4.out.mono hb3'.size);exact⟨r,rfl,Hr.out,hb4'.trans (Hb5.out.mono hb4'.size)⟩
end
end Go.Proofs.YtobjdpngnfbicaaGreatDoor
