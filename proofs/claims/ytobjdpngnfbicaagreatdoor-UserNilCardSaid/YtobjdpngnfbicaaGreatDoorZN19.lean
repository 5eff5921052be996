/-
  UList UReadL
-/
import Derived.Test.YtobjdpngnfbicaaGreatDoorZN08
import Derived.Test.YtobjdpngnfbicaaGreatDoorZN18
import Derived.Test.YtobjdpngnfbicaaGreatDoorZN09
namespace Go.Proofs.YtobjdpngnfbicaaGreatDoor
open Go.RowKit Go.Lib
set_option linter.unusedVariables false
set_option maxRecDepth 20000
attribute [local go_sem ↓] seal_append
attribute [local go_sem] opC upC
def CList (w:World) (R:Nat) (sl:Value) (bl:Nat) (o:Option (List RKey × List UInt8)) (e:Ending) (w':World):Prop:=
 (match o with
  | some (l,r)=>(∃ v,e=.returned v∧w'.ownsRow w.heap.size 9 1 v l.length (l.map eS))∧∃ at':Nat,at'+r.length=bl∧Blk w' R [sl,.int .i64 (at':Int)] 247
  | none=>e=.panicked failP)∧Only (fun q=>q=R) w w'
theorem Only.later {F:Blks} {w w1 w2:World} (h:Only F w w1) (hb:Below w.heap.size w1 w2):Only F w w2:=
 ⟨hb.os.trans h.os,hb.tape.trans h.tape,hb.output.trans h.output,Nat.le_trans h.size hb.size,fun q hq hn=>(hb.block q hq).trans (h.block q hq hn)⟩
theorem many_drop {b r:List UInt8} {k0 k1 n:Nat} (h:manyR (b.drop k0)=some (n,r)) (hk:k0≤b.length) (h1:k1+r.length=b.length):r=b.drop k1∧n≤r.length:=by
 unfold manyR at h
 cases ho:rdF (b.drop k0) 9 with
 | none=>rw [ho] at h;cases h
 | some p=>
   obtain ⟨m,q⟩:=p
   rw [ho] at h
   dsimp only at h
   split at h
   · rename_i hm
     obtain ⟨rfl,rfl⟩:=Prod.mk.inj (Option.some.inj h)
     obtain ⟨h2,h3⟩:=rdF_drop ho
     rw [List.length_drop] at h2 h3
     refine ⟨?_,hm⟩
     rw [List.drop_drop,show k0+(b.length - k0 - q.length)=k1 by omega] at h3
     exact h3
   · cases h
theorem rdT_drop {b r:List UInt8} {k:RKey} {kx k2:Nat} (h:rdT (b.drop kx)=some (k,r)) (hk:kx≤b.length) (h1:k2+r.length=b.length):r=b.drop k2:=by
 unfold rdT at h
 cases ho:rdF (b.drop kx) 9 with
 | none=>rw [ho] at h;cases h
 | some p=>
   obtain ⟨m,q⟩:=p
   rw [ho] at h
   dsimp only at h
   split at h
   · rename_i hm
     obtain ⟨rfl,rfl⟩:=Prod.mk.inj (Option.some.inj h)
     obtain ⟨h2,h3⟩:=rdF_drop ho
     rw [List.length_drop] at h2 h3
     rw [List.length_drop] at h1
     rw [List.drop_drop] at h3
     rw [h3,List.drop_drop]
     congr 1
     omega
   · cases h
set_option maxRecDepth 100000 in
set_option maxHeartbeats 2000000 in
theorem clist_any (w:World) (R:Nat) (F:Blks) (av:Option Addr) (cap:Nat) (b:List UInt8) (k0:Nat) (hR:Blk w R [.slice av b.length cap,.int .i64 (k0:Int)] 247) (hB:Bytes F w (.slice av b.length cap) b) (hF:∀ q,F q→q≠R) (hk:k0≤b.length) (hl:b.length≤400000):
 Calls Tryz.prog 202 #[.pointer (some ⟨R,0,none⟩)] w (CList w R (.slice av b.length cap) b.length (rdL (b.drop k0))):=by
 have hM:=cmany_any w R F av cap b k0 hR hB hF hk
 have HB:=Lib.hid (show ∀ W,Only (fun q=>q=R) w W→Bytes F W (.slice av b.length cap) b from fun W hW=>hB.only hW fun q hq e=>hF q hq e)
 have Hlt:=Lib.hid (show R < w.heap.size from hR.lt)
 rw [rdL_many]
 obtain ⟨o,ho⟩:∃ o,manyR (b.drop k0)=o:=⟨_,rfl⟩
 rw [ho] at hM ⊢
 have HM:=Lib.hid hM;have Ho:=Lib.hid ho;have Hl:=Lib.hid hl;have HF:=Lib.hid hF;have Hk:=Lib.hid hk
 clear hM hB ho hR hl hF hk
 go_enter Tryz.func202,Tryz.ntmps202
 go_wp2_with fail
 refine HM.out.mono ?_
 rintro e w1 hC
 clear HM
 cases o with
 | none=>
   obtain ⟨rfl,hO⟩:=hC
   have HO:=Lib.hid hO
   clear hO
   go_wp2_with fail
   exact ⟨rfl,rfl,HO.out⟩
 | some p=>
   obtain ⟨n,r⟩:=p
   obtain ⟨⟨rfl,k1,hk1,hb1⟩,hO⟩:=hC
   obtain ⟨hr1,hnr⟩:=many_drop Ho.out Hk.out hk1
   obtain ⟨RL,hRL⟩:∃ RL,rdTs n r=RL:=⟨_,rfl⟩
   have hnb:n≤400000:=by have:=Hl.out;omega
   have Hb1:=Lib.hid hb1;have HO:=Lib.hid hO;have Hr1:=Lib.hid hr1;have HRL:=Lib.hid hRL;have Hk1:=Lib.hid (show k1≤b.length by omega)
   clear hb1 hO hr1 hRL hk1
   go_wp2_with fail
   go_loopw [3,4] (fun v i wr=>∃ (m:Nat) (L:List RKey) (kx:Nat),i=.int .i64 (m:Int)∧L.length+m=n∧kx≤b.length∧(rdTs m (b.drop kx)).map (fun p=>(L ++ p.1,p.2))=RL∧wr.ownsRow w.heap.size 9 1 v L.length (L.map eS)∧Blk wr R [.slice av b.length cap,.int .i64 (kx:Int)] 247∧Only (fun q=>q=R) w wr) (fun _ i _=>(intOf i).toNat)
   case atStart=>exact ⟨n,[],k1,rfl,by simp,Hk1.out,by rw [←Hr1.out,HRL.out];cases RL <;> rfl,World.ownsRow_nil _ _ _ _,Hb1.out,HO.out⟩
   case round=>
    obtain ⟨m,L,kx,rfl,hLn,hkx,heq,hown,hbl,hon⟩:=hrel
    obtain ⟨ao,co,rfl⟩:=own_shape hown
    have hT:=ctext_any wr R F av cap b kx hbl (HB.out wr hon) HF.out hkx
    obtain ⟨ot,hot⟩:∃ ot,rdT (b.drop kx)=ot:=⟨_,rfl⟩
    rw [hot] at hT
    have HT:=Lib.hid hT;have Hot:=Lib.hid hot
    clear hT hot
    have Hown:=Lib.hid hown;have Heq:=Lib.hid heq;have Hon:=Lib.hid hon;have Hbl:=Lib.hid hbl;have Hkx:=Lib.hid hkx
    clear hown heq hon hbl hkx
    by_cases h0:0 < m
    · have h0I:(0:Int) < (m:Int):=by omega
      obtain ⟨m',rfl⟩:∃ m',m=m'+1:=⟨m - 1,by omega⟩
      go_wp2_with fail
      refine HT.out.mono ?_
      rintro e w2 hC2
      clear HT
      cases ot with
      | none=>
        obtain ⟨rfl,hO2⟩:=hC2
        have Hfin:=Lib.hid (show RL=none by
         rw [←Heq.out]
         unfold rdTs
         rw [Hot.out]
         rfl)
        have HO2:=Lib.hid (show Only (fun q=>q=R) w w2 from Hon.out.trans hO2 fun _ h=>.inl h)
        clear hO2
        go_wp2_with fail
        refine ⟨rfl,?_⟩
        show CList w R _ _ (rdTs n r) _ _
        rw [HRL.out,Hfin.out]
        exact ⟨rfl,HO2.out⟩
      | some p=>
        obtain ⟨k,t⟩:=p
        obtain ⟨⟨rfl,k2,hk2,hb2⟩,hO2⟩:=hC2
        have ht:=rdT_drop Hot.out Hkx.out hk2
        have hq:(rdTs m' (b.drop k2)).map (fun p=>((L ++ [k]) ++ p.1,p.2))=RL:=by
         rw [←Heq.out]
         conv=>rhs;unfold rdTs
         rw [Hot.out]
         dsimp only
         rw [ht,Option.map_map]
         congr 1
         funext p
         simp
        have hown:=own_only Hown.out hO2 (fun q hq e=>by have:=Hlt.out;have e':q=R:=e;omega)
        have hon2:Only (fun q=>q=R) w w2:=Hon.out.trans hO2 fun _ h=>.inl h
        have hsz:=hon2.size
        obtain ⟨i0,t1,t2,t3,t4⟩:=info_parts infoS
        obtain ⟨v5,w9,hr5,hown5,hg5⟩:=run_append_one (P:=Tryz.prog) w2 w.heap.size 32 9 Tryz.underlying32 t1 t2 t3 t4 rfl (by decide) (.slice ao L.length co) L.length _ hown #[.string ⟨k.toArray⟩] rfl (by simp [Value.oneCell']) (by unfold maxLen;omega) (by omega) hsz
        obtain ⟨a9,c9,rfl⟩:=own_shape hown5
        have hb9:Below w.heap.size w2 w9:=((Below.refl w.heap.size w2).alloc hsz _).trans (Below.grownOwn (own_below hown (kept_alloc _ _)) hg5 (by simp;omega) (Nat.le_refl _))
        have Hf:=Lib.hid (show w9.ownsRow w.heap.size 9 1 (.slice a9 (L.length+1) c9) (L ++ [k]).length ((L ++ [k]).map eS) by
         rw [List.length_append,List.map_append];exact hown5)
        have HB9:=Lib.hid (show Blk w9 R [.slice av b.length cap,.int .i64 (k2:Int)] 247 from hb2.keep (hb9.block R Hlt.out))
        have HO9:=Lib.hid (hon2.later hb9)
        have Hq:=Lib.hid hq;have Hk2:=Lib.hid (show k2≤b.length by omega)
        clear hq hown hon2 hsz hown5 hg5 hb9 t1 t2 t3 t4 ht hk2 hb2 hO2
        go_wp2_with fail
        clear hr5
        go_roundw
        case rel=>exact ⟨m',L ++ [k],k2,by go_num,by simp;omega,Hk2.out,Hq.out,by simpa using Hf.out,HB9.out,HO9.out⟩
        case measure=>simp [intOf]
    · obtain rfl:m=0:=by omega
      have Hfin:=Lib.hid (show RL=some (L,b.drop kx) by rw [←Heq.out];show some (L ++ [],_)=_;rw [List.append_nil])
      go_wp2_with fail
      go_ret
      show CList w R _ _ (rdTs n r) _ _
      rw [HRL.out,Hfin.out]
      exact ⟨⟨⟨_,rfl,Hown.out⟩,kx,by rw [List.length_drop];have:=Hkx.out;omega,Hbl.out⟩,Hon.out⟩
end Go.Proofs.YtobjdpngnfbicaaGreatDoor

namespace Go.Proofs.YtobjdpngnfbicaaGreatDoor
open Go.RowKit
set_option linter.unusedVariables false
set_option maxRecDepth 20000
attribute [local go_sem] opC upC
theorem own_ge {w:World} {base:Nat} {e:TypeId} {k n:Nat} {v:Value} {xs:List Value} (h:w.ownsRow base e k v n xs) {q:Nat} (hq:v.ownBlock=some q):base≤q:=by
 rcases h.2 with ⟨rfl,_⟩ | ⟨g,cap,cur,rfl,hb,_⟩
 · have hq':(none:Option Nat)=some q:=hq
   cases hq'
 · have hq':some g=some q:=hq
   obtain rfl:=Option.some.inj hq'
   exact hb
theorem own_mono {w:World} {base base':Nat} {e:TypeId} {k n:Nat} {v:Value} {xs:List Value} (h:w.ownsRow base e k v n xs) (hb:base'≤base):w.ownsRow base' e k v n xs:=by
 refine ⟨h.1,?_⟩
 rcases h.2 with h0 | ⟨g,cap,cur,hv,hg,hr⟩
 · exact .inl h0
 · exact .inr ⟨g,cap,cur,hv,Nat.le_trans hb hg,hr⟩
def LPostO (w:World) (bl:Nat) (o:Option (List RKey × List UInt8)) (e:Ending) (w':World):Prop:=Below w.heap.size w w'∧match o with
 | none=>e=.returned (.tuple #[.slice none 0 0,.int .i64 0,.bool false])
 | some (l,r)=>∃ a c,e=.returned (.tuple #[.slice a l.length c,.int .i64 ((bl - r.length:Nat):Int),.bool true])∧w'.ownsRow w.heap.size 9 1 (.slice a l.length c) l.length (l.map eS)
set_option maxRecDepth 100000 in
set_option maxHeartbeats 1000000 in
theorem catchL_fails (g:Nat) (x0 x1 x2:Value) (t0 t1 t2:TypeId) (w:World) (h0:Blk w g [x0] t0) (h1:Blk w (g+1) [x1] t1) (h2:Blk w (g+2) [x2] t2):
 CallsD Tryz.prog 219 #[.pointer (some ⟨g,0,none⟩),.pointer (some ⟨g+1,0,none⟩),.pointer (some ⟨g+2,0,none⟩)] (.panicking failP) w fun e u' w'=>
  e=.returned (.tuple #[])∧u'=.panicking doneP∧Blk w' g [.slice none 0 0] t0∧Blk w' (g+1) [.int .i64 0] t1∧Blk w' (g+2) [.bool false] t2∧Below g w w':=by
 refine callsD_of_wpS Tryz.func219 rfl fun c₀ cs hu=>?_
 apply wpS_seq
 apply wpS_region
 simp [wpOpsS,go_sem,recoverD,hu,Tryz.ntmps219,Exit.thenS,failP]
 refine wpS_of_wp ?_
 have hta:∀ w,(Instr.typeAssert (.iface 245 (.agg #[])) 20 245 true).run Tryz.prog w=.ok (.tuple #[.agg #[],.bool true]) w:=fun _=>by kernel_rfl
 obtain ⟨wf,hwf⟩:∃ wf,wf=w.alloc (.cells #[] 245):=⟨_,rfl⟩
 have k0:Blk wf g [x0] t0:=by rw [hwf];exact h0.alloc _
 have k1:Blk wf (g+1) [x1] t1:=by rw [hwf];exact h1.alloc _
 have k2:Blk wf (g+2) [x2] t2:=by rw [hwf];exact h2.alloc _
 have y0:wf.cell? ⟨g,0,none⟩=some x0:=by simpa using k0.cell 0
 have y1:wf.cell? ⟨g+1,0,none⟩=some x1:=by simpa using k1.cell 0
 have y2:wf.cell? ⟨g+2,0,none⟩=some x2:=by simpa using k2.cell 0
 have z0:=k0.free 0
 have z1:=k1.free 0
 have z2:=k2.free 0
 rw [hwf] at y0 y1 y2 z0 z1 z2
 go_wp2_with fail
 rw [←hwf]
 have hb:Below g w wf:=by rw [hwf];exact (Below.refl g w).alloc (Nat.le_of_lt h0.lt) _
 refine ⟨rfl,.panicking doneP,rfl,.tuple #[],by simp [results,Tryz.results219,go_sem],rfl,rfl,?_,?_,?_,?_⟩
 · exact ((k0.set 0 _).set_other _ (by show g≠g+1;omega)).set_other _ (by show g≠g+2;omega)
 · exact ((k1.set_other _ (by show g+1≠g;omega)).set 0 _).set_other _ (by show g+1≠g+2;omega)
 · exact ((k2.set_other _ (by show g+2≠g;omega)).set_other _ (by show g+2≠g+1;omega)).set 0 _
 · exact ((hb.setCell (p:=⟨g,0,none⟩) (Nat.le_refl _) _).setCell (p:=⟨g+1,0,none⟩) (Nat.le_succ _) _).setCell (p:=⟨g+2,0,none⟩) (by show g≤g+2;omega) _
set_option maxRecDepth 100000 in
set_option maxHeartbeats 1000000 in
theorem catchL_idle (p0 p1 p2:Value) (w:World):
 CallsD Tryz.prog 219 #[p0,p1,p2] .returning w fun e u' w'=>e=.returned (.tuple #[])∧u'=.returning∧w'=w:=by
 refine callsD_of_wpS Tryz.func219 rfl fun c₀ cs hu=>?_
 apply wpS_seq
 apply wpS_region
 simp [wpOpsS,go_sem,recoverD,hu,Tryz.ntmps219,Exit.thenS]
 refine wpS_of_wp ?_
 go_wp2_with fail
 cases c₀
 simp_all [bodyPostS,results,Tryz.results219,go_sem]
set_option maxRecDepth 100000 in
set_option maxHeartbeats 2000000 in
theorem readL_any (w:World) (F:Blks) (av:Option Addr) (cap:Nat) (b:List UInt8) (k0:Nat) (hB:Bytes F w (.slice av b.length cap) b) (hF:∀ q,F q→q < w.heap.size) (hk:k0≤b.length) (hl:b.length≤400000):
 Calls Tryz.prog 201 #[.slice av b.length cap,.int .i64 (k0:Int),.func (.func 202) #[] #[]] w (LPostO w b.length (rdL (b.drop k0))):=by
 have hmf:∀ (fn:Fn) (first cap:Array Value) (w:World),(Instr.makeFunc fn first cap).run Tryz.prog w=.ok (.func fn first cap) w:=fun _ _ _ _=>rfl
 obtain ⟨g,hg⟩:∃ g,w.heap.size=g:=⟨_,rfl⟩
 obtain ⟨w1,hw1⟩:∃ w1,w1=((w.alloc (.cells #[.slice none 0 0] 32)).alloc (.cells #[.int .i64 0] 3)).alloc (.cells #[.bool false] 4):=⟨_,rfl⟩
 obtain ⟨w2,hw2⟩:∃ w2,w2=w1.alloc (.cells #[.slice av b.length cap,.int .i64 (k0:Int)] 247):=⟨_,rfl⟩
 have hz1:w1.heap.size=g+3:=by rw [hw1,←hg];simp
 have hb1:Below g w w1:=by
  rw [hw1,←hg]
  exact (((Below.refl w.heap.size w).alloc (Nat.le_refl _) _).alloc (by simp) _).alloc (by simp;omega) _
 have hb2:Below g w w2:=hb1.trans (by rw [hw2];exact (kept_alloc _ _).mono (by omega))
 have k0':Blk w2 g [.slice none 0 0] 32:=by
  have:=(((Blk.new w #[.slice none 0 0] 32).alloc (.cells #[.int .i64 0] 3)).alloc (.cells #[.bool false] 4)).alloc (.cells #[.slice av b.length cap,.int .i64 (k0:Int)] 247)
  rw [hw2,hw1,←hg];exact this
 have k1':Blk w2 (g+1) [.int .i64 0] 3:=by
  have:=((Blk.new (w.alloc (.cells #[.slice none 0 0] 32)) #[.int .i64 0] 3).alloc (.cells #[.bool false] 4)).alloc (.cells #[.slice av b.length cap,.int .i64 (k0:Int)] 247)
  simp only [World.size_alloc,hg] at this
  rw [hw2,hw1];exact this
 have k2':Blk w2 (g+2) [.bool false] 4:=by
  have:=(Blk.new ((w.alloc (.cells #[.slice none 0 0] 32)).alloc (.cells #[.int .i64 0] 3)) #[.bool false] 4).alloc (.cells #[.slice av b.length cap,.int .i64 (k0:Int)] 247)
  simp only [World.size_alloc,hg] at this
  rw [hw2,hw1];exact this
 have kR:Blk w2 (g+3) [.slice av b.length cap,.int .i64 (k0:Int)] 247:=by
  have:=Blk.new w1 #[.slice av b.length cap,.int .i64 (k0:Int)] 247
  rw [←hw2,hz1] at this
  exact this
 have hN:=clist_any w2 (g+3) F av cap b k0 kR (hB.keep (w':=w2) fun q hq _=>hb2.block q (by rw [←hg];exact hF q hq)) (fun q hq=>by have:=hF q hq;omega) hk hl
 obtain ⟨o,ho⟩:∃ o,rdL (b.drop k0)=o:=⟨_,rfl⟩
 rw [ho] at hN
 rw [ho]
 have Hz2:=Lib.hid (show w2.heap.size=g+4 by rw [hw2];simp [hz1])
 have HN:=Lib.hid hN;have Hb2:=Lib.hid hb2;have K0:=Lib.hid k0';have K1:=Lib.hid k1';have K2:=Lib.hid k2';have Hw2:=Lib.hid (show w2=(((w.alloc (.cells #[.slice none 0 0] 32)).alloc (.cells #[.int .i64 0] 3)).alloc (.cells #[.bool false] 4)).alloc (.cells #[.slice av b.length cap,.int .i64 (k0:Int)] 247) by rw [hw2,hw1])
 have Hg:=Lib.hid hg
 have hneg:¬ (k0:Int) < 0:=by omega
 obtain ⟨n,hn⟩:∃ n,b.length=n:=⟨_,rfl⟩
 clear hN hb1 hb2 k0' k1' k2' kR hw1 hw2 hz1 hB hF ho hg hn
 go_enter_defers Tryz.func201,Tryz.ntmps201
 go_wp2_with fail
 rw [←Hw2.out]
 rw [Hg.out]
 refine HN.out.mono ?_
 rintro e w3 hC
 clear HN
 have hne:∀ q,q≠g+3→q < w2.heap.size→Only (fun q=>q=g+3) w2 w3→w3.heap[q]?=w2.heap[q]?:=fun q h hlt hO=>hO.block q hlt h
 have Hne:=Lib.hid hne
 clear hne
 cases o with
 | none=>
   obtain ⟨rfl,hO⟩:=hC
   have h0:=K0.out.keep (Hne.out _ (by omega) K0.out.lt hO)
   have h1:=K1.out.keep (Hne.out _ (by omega) K1.out.lt hO)
   have h2:=K2.out.keep (Hne.out _ (by omega) K2.out.lt hO)
   have hb3:Below g w w3:=Hb2.out.trans (hO.below (fun q hq=>by have hq':q=g+3:=hq;omega) (by have:=Hb2.out.size;have:=Hg.out;omega))
   have H0:=Lib.hid h0;have H1:=Lib.hid h1;have H2:=Lib.hid h2;have Hb3:=Lib.hid hb3
   clear hO h0 h1 h2 hb3 Hne
   go_wp2_with fail
   refine leaves_cons (f:=219) (args:=#[.pointer (some ⟨g,0,none⟩),.pointer (some ⟨g+1,0,none⟩),.pointer (some ⟨g+1+1,0,none⟩)]) (by simp) (by simp [go_sem]) ?_
   refine (catchL_fails g _ _ _ _ _ _ w3 H0.out H1.out H2.out).mono ?_
   rintro e u' w4 ⟨rfl,rfl,q0,q1,q2,hb4⟩
   have c0:w4.cell? ⟨g,0,none⟩=some _:=q0.cell 0
   have c1:w4.cell? ⟨g+1,0,none⟩=some _:=q1.cell 0
   have c2:w4.cell? ⟨g+1+1,0,none⟩=some _:=q2.cell 0
   simp [Leaves,settle,results,Tryz.results201,go_sem,doneP,c0,c1,c2]
   exact ⟨by rw [Hg.out];exact Hb3.out.trans hb4,rfl⟩
 | some p=>
   obtain ⟨l,r⟩:=p
   obtain ⟨⟨⟨v,rfl,hown⟩,at1,hat,hR⟩,hO⟩:=hC
   obtain ⟨al,cl,rfl⟩:=own_shape hown
   rw [Hz2.out] at hown
   have h0:=K0.out.keep (Hne.out _ (by omega) K0.out.lt hO)
   have h1:=K1.out.keep (Hne.out _ (by omega) K1.out.lt hO)
   have h2:=K2.out.keep (Hne.out _ (by omega) K2.out.lt hO)
   have hb3:Below g w w3:=Hb2.out.trans (hO.below (fun q hq=>by have hq':q=g+3:=hq;omega) (by have:=Hb2.out.size;have:=Hg.out;omega))
   obtain ⟨w4,hw4⟩:∃ w4,w4=w3.setCell ⟨g,0,none⟩ (.slice al l.length cl):=⟨_,rfl⟩
   have q0:Blk w4 g [.slice al l.length cl] 32:=by rw [hw4];exact h0.set 0 _
   have q1:Blk w4 (g+1) [.int .i64 0] 3:=by rw [hw4];exact h1.set_other _ (by show g+1≠g;omega)
   have q2:Blk w4 (g+1+1) [.bool false] 4:=by rw [hw4];exact h2.set_other _ (by show g+1+1≠g;omega)
   have qR:Blk w4 (g+1+1+1) [.slice av b.length cap,.int .i64 (at1:Int)] 247:=by rw [hw4];exact hR.set_other _ (by show g+1+1+1≠g;omega)
   have hb4:Below g w w4:=by rw [hw4];exact hb3.setCell (p:=⟨g,0,none⟩) (Nat.le_refl _) _
   have qow4:w4.ownsRow (g+4) 9 1 (.slice al l.length cl) l.length (l.map eS):=by rw [hw4];exact own_setFar hown (fun q hq e=>by have:=own_ge hown hq;omega) _
   have Qo:=Lib.hid qow4
   clear qow4 hown
   have c0:w3.cell? ⟨g,0,none⟩=some _:=h0.cell 0
   have z0:=h0.free 0
   have Q0:=Lib.hid q0;have Q1:=Lib.hid q1;have Q2:=Lib.hid q2;have QR:=Lib.hid qR;have Hb4:=Lib.hid hb4;have Hw4:=Lib.hid hw4;have Hat:=Lib.hid hat
   clear hO hR h0 h1 h2 hb3 Hne q0 q1 q2 qR hb4 hw4 hat
   go_wp2_with fail
   rw [←Hw4.out]
   clear c0 z0 Hw4
   have pg:∀ w',C3 g (.slice al l.length cl) w4.drew w'→w'.cell? ⟨g,0,none⟩=some (.slice al l.length cl):=fun w' hh=>hh.2 (Q0.out.cell 0)
   have pr:∀ w',C3 g (.slice al l.length cl) w4.drew w'→w'.cell? ⟨g+1+1+1,1,none⟩=some (.int .i64 (at1:Int)):=fun w' hh=>C3.cell hh (a:=w4.drew) (QR.out.cell 1) (by show g+2 < g+1+1+1;omega)
   refine wp_region_can (C3 g (.slice al l.length cl)) [(0,true),(1,true),(2,true),(3,true),(4,true),(5,false),(6,false),(7,false)] (by kernel_rfl) (by kernel_rfl) (C3.refl _ _) (C3.trans _ _) ?_
   repeat (refine can_yes (v:=?_) rfl (wanted_none rfl) (fun w' hC=>?_) (fun K hK=>?_);rotate_left;(focus (go_simp;(try simp (disch:=omega) only [IntWalk.i64_in]);(try simp (disch:=omega) only [IntWalk.u32_in]);(try simp (disch:=omega) only [IntWalk.u8_in]);(try simp (disch:=omega) only [IntWalk.i64_quo]);(try simp (disch:=omega) only [IntWalk.rem_in]);first | done | exact rfl));go_simp;(try simp (disch:=omega) only [IntWalk.i64_in]);(try simp (disch:=omega) only [IntWalk.u32_in]);(try simp (disch:=omega) only [IntWalk.u8_in]);(try simp (disch:=omega) only [IntWalk.i64_quo]);(try simp (disch:=omega) only [IntWalk.rem_in]);refine hK _ ?_;clear hK K)
   refine can_go rfl rfl (fun KK hK=>?_)
   have a0:w4.drew.cell? ⟨g,0,none⟩=some _:=Q0.out.cell 0
   have a1:w4.drew.frozen? ⟨g,0,none⟩=false:=Q0.out.free 0
   go_simp
   obtain ⟨w5,hnw⟩:∃ W,W=w4.setCell ⟨g,0,none⟩ (.slice al l.length cl):=⟨_,rfl⟩
   have q0w5:Blk w5 g [.slice al l.length cl] 32:=by rw [hnw];exact (Q0.out.set 0 _)
   have q1w5:Blk w5 (g+1) [.int .i64 0] 3:=by rw [hnw];exact (Q1.out.set_other _ (by show g+1≠g;omega))
   have q2w5:Blk w5 (g+1+1) [.bool false] 4:=by rw [hnw];exact (Q2.out.set_other _ (by show g+1+1≠g;omega))
   have hbw5:Below g w w5:=by rw [hnw];exact Hb4.out.setCell (p:=⟨g,0,none⟩) (by show g≤g;omega) _
   have qow5:w5.ownsRow (g+4) 9 1 (.slice al l.length cl) l.length (l.map eS):=by rw [hnw];exact own_setFar Qo.out (fun q hq e=>by have:=own_ge Qo.out hq;omega) _
   have hon:Only (fun q=>g≤q∧q≤g+2) w4.drew w5.drew:=by rw [hnw];exact (Only.refl _ w4.drew).setCell (p:=⟨g,0,none⟩) (.inl (by show g≤g∧g≤g+2;omega)) _
   rw [←hnw]
   refine ⟨⟨hon,fun _=>q0w5.cell 0⟩,hK _ _ ?_⟩
   clear hK KK hnw hon a0 a1
   go_simp
   refine can_go rfl rfl (fun KK hK=>?_)
   have a0:w5.drew.cell? ⟨g+1,0,none⟩=some _:=q1w5.cell 0
   have a1:w5.drew.frozen? ⟨g+1,0,none⟩=false:=q1w5.free 0
   go_simp
   obtain ⟨w6,hnw⟩:∃ W,W=w5.setCell ⟨g+1,0,none⟩ (.int .i64 (at1:Int)):=⟨_,rfl⟩
   have q0w6:Blk w6 g [.slice al l.length cl] 32:=by rw [hnw];exact (q0w5.set_other _ (by show g≠g+1;omega))
   have q1w6:Blk w6 (g+1) [.int .i64 (at1:Int)] 3:=by rw [hnw];exact (q1w5.set 0 _)
   have q2w6:Blk w6 (g+1+1) [.bool false] 4:=by rw [hnw];exact (q2w5.set_other _ (by show g+1+1≠g+1;omega))
   have hbw6:Below g w w6:=by rw [hnw];exact hbw5.setCell (p:=⟨g+1,0,none⟩) (by show g≤g+1;omega) _
   have qow6:w6.ownsRow (g+4) 9 1 (.slice al l.length cl) l.length (l.map eS):=by rw [hnw];exact own_setFar qow5 (fun q hq e=>by have:=own_ge qow5 hq;omega) _
   have hon:Only (fun q=>g≤q∧q≤g+2) w5.drew w6.drew:=by rw [hnw];exact (Only.refl _ w5.drew).setCell (p:=⟨g+1,0,none⟩) (.inl (by show g≤g+1∧g+1≤g+2;omega)) _
   rw [←hnw]
   refine ⟨⟨hon,fun _=>q0w6.cell 0⟩,hK _ _ ?_⟩
   clear hK KK hnw hon a0 a1
   go_simp
   refine can_go rfl rfl (fun KK hK=>?_)
   have a0:w6.drew.cell? ⟨g+1+1,0,none⟩=some _:=q2w6.cell 0
   have a1:w6.drew.frozen? ⟨g+1+1,0,none⟩=false:=q2w6.free 0
   go_simp
   obtain ⟨w7,hnw⟩:∃ W,W=w6.setCell ⟨g+1+1,0,none⟩ (.bool true):=⟨_,rfl⟩
   have q0w7:Blk w7 g [.slice al l.length cl] 32:=by rw [hnw];exact (q0w6.set_other _ (by show g≠g+1+1;omega))
   have q1w7:Blk w7 (g+1) [.int .i64 (at1:Int)] 3:=by rw [hnw];exact (q1w6.set_other _ (by show g+1≠g+1+1;omega))
   have q2w7:Blk w7 (g+1+1) [.bool true] 4:=by rw [hnw];exact (q2w6.set 0 _)
   have hbw7:Below g w w7:=by rw [hnw];exact hbw6.setCell (p:=⟨g+1+1,0,none⟩) (by show g≤g+1+1;omega) _
   have qow7:w7.ownsRow (g+4) 9 1 (.slice al l.length cl) l.length (l.map eS):=by rw [hnw];exact own_setFar qow6 (fun q hq e=>by have:=own_ge qow6 hq;omega) _
   have hon:Only (fun q=>g≤q∧q≤g+2) w6.drew w7.drew:=by rw [hnw];exact (Only.refl _ w6.drew).setCell (p:=⟨g+1+1,0,none⟩) (.inl (by show g≤g+1+1∧g+1+1≤g+2;omega)) _
   rw [←hnw]
   refine ⟨⟨hon,fun _=>q0w7.cell 0⟩,hK _ _ ?_⟩
   clear hK KK hnw hon a0 a1
   go_simp
   refine can_nil ?_
   clear pg pr
   have Q0:=Lib.hid q0w7;have Q1:=Lib.hid q1w7;have Q2:=Lib.hid q2w7;have HB:=Lib.hid hbw7;have Qf:=Lib.hid qow7
   clear qow5 qow6 qow7 q0w7 q1w7 q2w7 hbw7
   go_wp2_with fail
   refine leaves_cons (f:=219) (args:=#[.pointer (some ⟨g,0,none⟩),.pointer (some ⟨g+1,0,none⟩),.pointer (some ⟨g+1+1,0,none⟩)]) (by simp) (by simp [go_sem]) ?_
   refine (catchL_idle _ _ _ w7.drew).mono ?_
   rintro e u' w8 ⟨rfl,rfl,hw8⟩
   have c0:w8.cell? ⟨g,0,none⟩=some (.slice al l.length cl):=by rw [hw8];exact Q0.out.cell 0
   have c1:w8.cell? ⟨g+1,0,none⟩=some (.int .i64 (at1:Int)):=by rw [hw8];exact Q1.out.cell 0
   have c2:w8.cell? ⟨g+1+1,0,none⟩=some (.bool true):=by rw [hw8];exact Q2.out.cell 0
   have Hw8:=Lib.hid hw8
   clear hw8
   simp [Leaves,settle,results,Tryz.results201,go_sem,c0,c1,c2]
   exact ⟨by rw [Hg.out,Hw8.out];exact HB.out.drew,al,cl,by rw [show b.length - r.length=at1 by have:=Hat.out;omega],by rw [Hg.out,Hw8.out];exact own_mono Qf.out (by omega)⟩
end Go.Proofs.YtobjdpngnfbicaaGreatDoor
