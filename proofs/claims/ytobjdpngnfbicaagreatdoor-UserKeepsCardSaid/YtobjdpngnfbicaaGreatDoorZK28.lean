/-
  RForg2
-/
import Derived.Test.YtobjdpngnfbicaaGreatDoorZK27
open Go.Lib renaming hid->ae
open Nat renaming le_trans->au
open Go.Proofs.Tryz renaming prog->aC
namespace Go.Proofs.YtobjdpngnfbicaaGreatDoor
open Go.RowKit
set_option linter.unusedVariables false
set_option maxRecDepth 20000
section
open Go.Sort
set_option maxHeartbeats 1000000 in
theorem pc (w:World) (bl bg:Nat):
 Calls aC 108 #[.slice none 0 0,.func (.func 109) #[] #[.pointer (some ⟨bl,0,none⟩),.pointer (some ⟨bg,0,none⟩)]] w fun e w'=>e=.returned (.slice none 0 0) /\ w'=w:=by
 have hI:Calls aC 168 #[.slice none 0 0,.func (.func 109) #[] #[.pointer (some ⟨bl,0,none⟩),.pointer (some ⟨bg,0,none⟩)]] w fun e w'=>e=.returned (.int .i64 (-1)) /\ w'=w:=by
  go_enter Tryz.func168,Tryz.ntmps168
  go_wp2_with fail
  go_loop [8] (fun i=>i=.int .i64 0) (fun _=>0)
  case atStart=>rfl
  case round=>
   subst hrel;go_wp2_with fail
   go_ret
   exact⟨rfl,rfl⟩
 have HI:=ae hI;clear hI
 go_enter Tryz.func108,Tryz.ntmps108
 go_wp2_with fail;refine HI.out.mono ?_;rintro e w1 ⟨rfl,rfl⟩;go_wp2_with fail
 go_ret
 exact⟨rfl,rfl⟩
theorem fI.keepI {B B2 bl bg:Nat} {w w':World} {l:List RKey} {gs:List RGo} (h:fI B2 bl bg w l gs) (hk:cK B w w'):fI B2 bl bg w' l gs:=by
 obtain⟨⟨sv,h1,h2⟩,⟨gv,h3,h4⟩⟩:=h
 have own:∀ {base:Nat} {e:TypeId} {k n:Nat} {v:Value} {xs:List Value},w.ownsRow base e k v n xs -> e≠108 -> w'.ownsRow base e k v n xs:=fun ho hne=>by
  refine⟨ho.1,?_⟩;rcases ho.2 with h0 | ⟨g,cap,cur,hv,hb,hg,hr⟩
  ·exact .inl h0
  ·refine .inr ⟨g,cap,cur,hv,hb,?_,hr⟩;have:=hk.blk g cur.toList _ hg hne;unfold Blk at this;simpa using this
 exact⟨⟨sv,hk.blk _ _ _ h1 (by decide),own h2 (by decide)⟩,⟨gv,hk.blk _ _ _ h3 (by decide),own h4 (by decide)⟩⟩
theorem my (w:World) (B B2 bl bg:Nat) (hBB:B <= B2) (ls:List RKey) (v:Value) (l:List RIt) (ho:w.ownsRow B 108 4 v l.length (l.flatMap aZ)) (hl:l.length <= 1000000) (hB:B2 <= w.heap.size) (hbg:B2 <= bg) (hls:ls.length <= 1000000) (hs:ls.Pairwise fun a b=>a < b) (h0:fI B2 bl bg w ls []):
 Calls aC 108 #[v,.func (.func 109) #[] #[.pointer (some ⟨bl,0,none⟩),.pointer (some ⟨bg,0,none⟩)]] w fun e w'=>
  ∃ v',e=.returned v' /\ w'.ownsRow B 108 4 v' (l.filter fun x=>!decide (x.key ∈ ls)).length ((l.filter fun x=>!decide (x.key ∈ ls)).flatMap aZ) /\ fI B2 bl bg w' ls ((l.filter fun x=>decide (x.key ∈ ls)).map goneOf) /\ dj B B2 w w':=by
 rcases ho.2 with ⟨rfl,hz⟩ | ⟨g,cap,cur,rfl,hbase,hg,hc,hm,hsz,htk⟩
 ·obtain rfl:=List.length_eq_zero_iff.1 hz;refine(pc w bl bg).mono ?_;rintro e w' ⟨rfl,rfl⟩;exact⟨_,rfl,World.ownsRow_nil _ _ _ _,h0,dj.refl _ _ _⟩
 ·have hcur:cur.toList=l.flatMap aZ ++ cur.toList.drop (l.length * 4):=by
   rw[<- htk,List.take_append_drop]
  have hb:Blk w g (l.flatMap aZ ++ cur.toList.drop (l.length * 4)) 108:=by
   rw[<- hcur];exact hg
  have hrun:∀ pre x W,fI B2 bl bg W ls ((pre.filter fun x=>decide (x.key ∈ ls)).map goneOf) -> B2 <= W.heap.size -> pre.length <= 1000000 -> Calls aC 109 #[itV x,.pointer (some ⟨bl,0,none⟩),.pointer (some ⟨bg,0,none⟩)] W fun e w'=>e=.returned (.bool (decide (x.key ∈ ls))) /\ fI B2 bl bg w' ls (((pre ++ [x]).filter fun x=>decide (x.key ∈ ls)).map goneOf) /\ ev B2 W w':=fun pre x W hst hBW hpre=>by
   refine(nO W B2 bl bg ls _ x hst hls hs (by rw[List.length_map];exact au (List.length_filter_le _ _) hpre) hBW hbg).mono ?_;rintro e w' ⟨rfl,h1,h2⟩;refine⟨rfl,?_,h2⟩;rw[List.filter_append,List.map_append]
   by_cases hx:x.key ∈ ls
   ·rw[if_pos hx] at h1;rw[List.filter_cons,if_pos (by simpa using hx)];exact h1
   ·rw[if_neg hx] at h1;rw[List.filter_cons,if_neg (by simpa using hx)];simpa using h1
  refine(li bl bg (fun pre W=>fI B2 bl bg W ls ((pre.filter fun x=>decide (x.key ∈ ls)).map goneOf)) (fun x=>decide (x.key ∈ ls)) B B2 hBB hrun (fun pre W W' h hk=>h.keepI hk) w g cap _ l _ hb rfl hbase hl hc hB h0).mono ?_;rintro e w' ⟨⟨rfl,⟨L',hL1,hL2,hL3⟩,hst⟩,hkp⟩;refine⟨_,rfl,⟨by rw[bI aZ 4 br],.inr ⟨g,cap,L'.toArray,rfl,hbase,hL1,au (List.length_filter_le _ _) hc,hm,?_,hL3⟩⟩,hst,hkp⟩;rw[List.size_toArray,hL2,<- hcur];exact hsz
set_option maxRecDepth 100000 in
set_option maxHeartbeats 4000000 in
theorem gO (w:World) (hT:cL w) (h3:4 <= w.heap.size) (F:aV) (v:Value) (m:RMap) (h:cY F w v m) (hki:∀ x ∈ m.items,x.key.length <= 1000000) (hkg:∀ x ∈ m.gone,x.key.length <= 1000000)
 (hl2:m.items.length <= 1000000) (hl3:m.gone.length <= 1000000) (d:Int) (G:aV) (lv:Value) (l:List RKey) (hlv:Rows G w 1 lv l.length (l.map eS)) (hl:l.length <= 1000000) (hk:∀ k ∈ l,k.length <= 4611686018427387903):
 Calls aC 58 #[v,.int .i64 d,lv] w (UPost w (forgetR m d l)):=by
 obtain⟨s1,s2,s3,rfl,h⟩:=h;obtain⟨a1,p1,rfl,-⟩:=h.seen.shape;obtain⟨a2,p2,rfl,-⟩:=h.items.shape;obtain⟨a3,p3,rfl,-⟩:=h.gone.shape
 obtain⟨wx,hwx⟩:∃ wx,wx=w.alloc (.cells #[.slice a1 m.seen.length p1,.slice a2 m.items.length p2,.slice a3 m.gone.length p3] 37):=⟨_,rfl⟩
 have hbx:Below w.heap.size w wx:=by rw[hwx];exact aE _ _
 have hzx:wx.heap.size=w.heap.size+1:=by rw[hwx];simp
 have hx:=h.keep (w':=wx) fun b _ hlt=>hbx.block b hlt
 have hnx:Blk wx w.heap.size [.slice a1 m.seen.length p1,.slice a2 m.items.length p2,.slice a3 m.gone.length p3] 37:=by rw[hwx];exact Blk.new _ _ _
 have Hx:=ae hx;have Hwx:=ae hwx;have Hbx:=ae hbx;have Hzx:=ae hzx;have Hnx:=ae hnx;clear hx hwx hbx hnx hzx h;obtain⟨al,cl,rfl,-⟩:=hlv.shape
 obtain⟨wl,hwl⟩:∃ wl,wl=wx.alloc (.cells #[.slice al l.length cl] 32):=⟨_,rfl⟩
 obtain⟨w2,hw2⟩:∃ w2,w2=wl.alloc (.cells #[.slice none 0 0,.slice none 0 0,.slice none 0 0] 37):=⟨_,rfl⟩
 have hzl:wl.heap.size=w.heap.size+2:=by rw[hwl];simp[Hzx.out]
 have hz2:w2.heap.size=w.heap.size+3:=by rw[hw2];simp[hzl]
 have hbl:Below w.heap.size w wl:=by rw[hwl];exact Hbx.out.alloc Hbx.out.size _
 have hb2:Below w.heap.size w w2:=by rw[hw2];exact hbl.alloc hbl.size _
 have k1:Blk w2 (w.heap.size+1) [.slice al l.length cl] 32:=by
  have:=Blk.new wx #[.slice al l.length cl] 32;rw[<- hwl,Hzx.out] at this;rw[hw2];exact this.alloc _
 have k2:Blk w2 (w.heap.size+1+1) [.slice none 0 0,.slice none 0 0,.slice none 0 0] 37:=by
  have:=Blk.new wl #[.slice none 0 0,.slice none 0 0,.slice none 0 0] 37;rw[<- hw2,hzl] at this;exact this
 have HR:=ae (show ∀ W,Below w2.heap.size w2 W -> Below w.heap.size w W /\ Blk W (w.heap.size+1) [.slice al l.length cl] 32 /\ Blk W (w.heap.size+1+1) [.slice none 0 0,.slice none 0 0,.slice none 0 0] 37 from fun W hb=>⟨hb2.trans (hb.mono (by omega)),k1.keep (hb.block _ k1.lt),k2.keep (hb.block _ k2.lt)⟩);have HT:=ae (show ∀ W,Below w2.heap.size w2 W -> cL W /\ 4 <= W.heap.size from fun W hb=>⟨bi hT h3 (HR.out W hb).1,au h3 (HR.out W hb).1.size⟩);have HTb:=ae (show ∀ W,Below w.heap.size w W -> cL W /\ 4 <= W.heap.size from fun W hb=>⟨bi hT h3 hb,au h3 hb.size⟩)
 have HE:=ae (event_any w2 (bi hT h3 hb2) (by omega) _ (.agg #[.slice a1 m.seen.length p1,.slice a2 m.items.length p2,.slice a3 m.gone.length p3]) m ⟨_,_,_,rfl,Hx.out.keep (w':=w2) fun b _ hlt=>by
  rw[hw2,hwl,Below.heap_alloc _ _ _ (by simp;omega),Below.heap_alloc _ _ _ hlt]⟩ hki hkg hl2 hl3 d _ (.slice al l.length cl) l (hlv.keep (w':=w2) fun b _ hlt=>hb2.block b hlt) hl hk)
 have Hw2:=ae (show w2=(wx.alloc (.cells #[.slice al l.length cl] 32)).alloc (.cells #[.slice none 0 0,.slice none 0 0,.slice none 0 0] 37) by rw[hw2,hwl]);have Hz2:=ae hz2;have c2:=k1.cell 0;simp at c2;clear hw2 hwl hzl hz2 hbl hb2 k2 hT hlv hki hkg hk
 go_enter Tryz.func58,Tryz.ntmps58
 go_wp2_with fail;rw[<- Hwx.out,<- Hw2.out];refine HE.out.mono ?_;rintro e w3 ⟨(⟨hok,rfl⟩ | ⟨hok,hal,rfl⟩ | ⟨hok,hal,r,s,rfl,⟨s1,s2,s3,rfl,ho⟩,hos⟩),hb3⟩
 ·have Hu:=ae (show forgetR m d l=(.empty,5) by unfold forgetR;rw[hok];rfl);obtain⟨hw3,kl,kr⟩:=HR.out w3 hb3;have l0:=kl.cell 0;have l1:=kl.free 0;obtain⟨y0,y1,y2⟩:=cell3 kr;have z0:=kr.free 0;have z1:=kr.free 1;have z2:=kr.free 2;have hlt1:=kl.lt;have hlt2:=kr.lt;simp at l0
  obtain⟨w4,hw4⟩:∃ w4,w4=w3.setCell ⟨w.heap.size+1,0,none⟩ (.slice none 0 0):=⟨_,rfl⟩
  have kr4:Blk w4 (w.heap.size+1+1) [.slice none 0 0,.slice none 0 0,.slice none 0 0] 37:=by rw[hw4];exact kr.set_other _ (by show w.heap.size+1+1≠w.heap.size+1;omega)
  have hw34:Below w.heap.size w w4:=by rw[hw4];exact hw3.setCell (by show w.heap.size <= w.heap.size+1;omega) _
  obtain⟨wf,hwf,hblk,hbf⟩:=fin3 kr4 hw34 (by omega) (.slice none 0 0) (.slice none 0 0) (.slice none 0 0);have Hw4:=ae hw4;have Hwf:=ae hwf;have Hblk:=ae hblk;have Hbf:=ae hbf;clear HE hok hb3 k1 c2 hw4 hwf hblk hbf kr4 hw34 kl kr hw3;unfold nilV;go_wp2_with fail;rw[<- Hw4.out,<- Hwf.out];have hbA:=aE wf (.cells #[.slice none 0 0,.slice none 0 0,.slice none 0 0] 37);have hkA:=Hblk.out.keep (hbA.block _ Hblk.out.lt);obtain⟨q0,q1,q2⟩:=cell3 hkA;exact bodyPost_ret (v:=.tuple #[nilV,.int .i64 5]) (by simp[results,Tryz.results58,go_sem,q0,q1,q2,nilV]) rfl ⟨⟨_,by rw[Hu.out],by rw[Hu.out];exact own_nil _ _,by rw[Hu.out];exact bnd_empty⟩,Hbf.out.trans (hbA.mono Hbf.out.size)⟩
 ·have Hu:=ae (show forgetR m d l=(.empty,1) by unfold forgetR;rw[hok,hal];rfl);clear hal;obtain⟨hw3,kl,kr⟩:=HR.out w3 hb3;have l0:=kl.cell 0;have l1:=kl.free 0;obtain⟨y0,y1,y2⟩:=cell3 kr;have z0:=kr.free 0;have z1:=kr.free 1;have z2:=kr.free 2;have hlt1:=kl.lt;have hlt2:=kr.lt;simp at l0
  obtain⟨w4,hw4⟩:∃ w4,w4=w3.setCell ⟨w.heap.size+1,0,none⟩ (.slice none 0 0):=⟨_,rfl⟩
  have kr4:Blk w4 (w.heap.size+1+1) [.slice none 0 0,.slice none 0 0,.slice none 0 0] 37:=by rw[hw4];exact kr.set_other _ (by show w.heap.size+1+1≠w.heap.size+1;omega)
  have hw34:Below w.heap.size w w4:=by rw[hw4];exact hw3.setCell (by show w.heap.size <= w.heap.size+1;omega) _
  obtain⟨wf,hwf,hblk,hbf⟩:=fin3 kr4 hw34 (by omega) (.slice none 0 0) (.slice none 0 0) (.slice none 0 0);have Hw4:=ae hw4;have Hwf:=ae hwf;have Hblk:=ae hblk;have Hbf:=ae hbf;clear HE hok hb3 k1 c2 hw4 hwf hblk hbf kr4 hw34 kl kr hw3;unfold nilV;go_wp2_with fail;rw[<- Hw4.out,<- Hwf.out];have hbA:=aE wf (.cells #[.slice none 0 0,.slice none 0 0,.slice none 0 0] 37);have hkA:=Hblk.out.keep (hbA.block _ Hblk.out.lt);obtain⟨q0,q1,q2⟩:=cell3 hkA;exact bodyPost_ret (v:=.tuple #[nilV,.int .i64 1]) (by simp[results,Tryz.results58,go_sem,q0,q1,q2,nilV]) rfl ⟨⟨_,by rw[Hu.out],by rw[Hu.out];exact own_nil _ _,by rw[Hu.out];exact bnd_empty⟩,Hbf.out.trans (hbA.mono Hbf.out.size)⟩
 ·have ha:=(allowed_iff d l).1 hal;have f:=valid_formed hok;have hn1:(seenUp m d).length=m.seen.length:=up_len m d;have hsl:(sortK l).length=l.length:=(sortK_perm l).length_eq;obtain⟨b1,e1,hs1⟩:=own_shape ho.seen;obtain⟨b2,e2,hs2⟩:=own_shape ho.items;obtain⟨b3,e3,hs3⟩:=own_shape ho.gone;dsimp only at hs1 hs2 hs3;rw[hn1] at hs1;subst hs1 hs2 hs3;obtain⟨bs,cs,rfl⟩:=own_shape hos;obtain⟨hw3,kl,kr⟩:=HR.out w3 hb3;have l0:=kl.cell 0;have l1:=kl.free 0;have hlt1:=kl.lt;have hlt2:=kr.lt;simp at l0
  obtain⟨w4,hw4⟩:∃ w4,w4=w3.setCell ⟨w.heap.size+1,0,none⟩ (.slice bs l.length cs):=⟨_,rfl⟩
  have hz4:w4.heap.size=w3.heap.size:=by rw[hw4];simp[World.setCell]
  have kl4:Blk w4 (w.heap.size+1) [.slice bs l.length cs] 32:=by rw[hw4];exact kl.set 0 _
  have kr4:Blk w4 (w.heap.size+1+1) [.slice none 0 0,.slice none 0 0,.slice none 0 0] 37:=by rw[hw4];exact kr.set_other _ (by show w.heap.size+1+1≠w.heap.size+1;omega)
  have hw34:Below w.heap.size w w4:=by rw[hw4];exact hw3.setCell (by show w.heap.size <= w.heap.size+1;omega) _
  have ho4:cD w4 w2.heap.size (.slice b1 m.seen.length e1) (.slice b2 m.items.length e2) (.slice b3 m.gone.length e3) ⟨seenUp m d,m.items,m.gone⟩:=by
   rw[hw4];exact⟨aS ho.seen kl (by decide) _,aS ho.items kl (by decide) _,aS ho.gone kl (by decide) _⟩
  have hos4:w4.ownsRow w2.heap.size 9 1 (.slice bs l.length cs) l.length ((sortK l).map eS):=by rw[hw4];exact aS hos kl (by decide) _
  obtain⟨w5,hw5⟩:∃ w5,w5=w4.alloc (.cells #[.slice b1 m.seen.length e1,.slice b2 m.items.length e2,.slice b3 m.gone.length e3] 37):=⟨_,rfl⟩
  obtain⟨w6,hw6⟩:∃ w6,w6=w5.alloc (.cells #[.slice none 0 0] 35):=⟨_,rfl⟩
  have hz5:w5.heap.size=w3.heap.size+1:=by rw[hw5];simp[hz4]
  have hz6:w6.heap.size=w3.heap.size+2:=by rw[hw6];simp[hz5]
  have hb46:Below w4.heap.size w4 w6:=by rw[hw6,hw5];exact(aE _ _).alloc (by simp) _
  have kO6:Blk w6 w3.heap.size [.slice b1 m.seen.length e1,.slice b2 m.items.length e2,.slice b3 m.gone.length e3] 37:=by
   rw[hw6,hw5,<- hz4];exact(Blk.new _ _ _).alloc _
  have kG6:Blk w6 (w3.heap.size+1) [.slice none 0 0] 35:=by
   rw[hw6,<- hz5];exact Blk.new _ _ _
  have kl6:=kl4.keep (hb46.block _ kl4.lt);have kr6:=kr4.keep (hb46.block _ kr4.lt);have ho6:=ho4.below hb46;have hos6:=bc hos4 hb46;have hgl:∀ b,(Value.slice b3 m.gone.length e3).ownBlock=some b -> b < w3.heap.size:=fun b hb=>(ho.gone.lt b hb).2
  have hk1:m.items.filter (fun x=>!decide (x.key ∈ sortK l))=m.items.filter (fun x=>decide (x.key ∉ l)):=List.filter_congr fun x _=>by
   have:=(sortK_perm l).mem_iff (a:=x.key)
   by_cases h:x.key ∈ l <;> simp[this,h]
  have hk2:m.items.filter (fun x=>decide (x.key ∈ sortK l))=m.items.filter (fun x=>decide (x.key ∈ l)):=List.filter_congr fun x _=>by
   have:=(sortK_perm l).mem_iff (a:=x.key)
   by_cases h:x.key ∈ l <;> simp[this,h]
  have hD:=my w6 w2.heap.size w3.heap.size (w.heap.size+1) (w3.heap.size+1) hb3.size (sortK l) (.slice b2 m.items.length e2) m.items ho6.items hl2 (by omega) (by omega) (by rw[hsl];exact hl) (sortK_strict l ha.nodup) ⟨⟨_,kl6,by rw[hsl];exact own_base hos6 (Nat.zero_le _)⟩,⟨_,kG6,World.ownsRow_nil _ _ _ _⟩⟩;rw[hk1,hk2] at hD
  obtain⟨ki,hki⟩:∃ ki,m.items.filter (fun x=>decide (x.key ∉ l))=ki:=⟨_,rfl⟩
  obtain⟨gs,hgs⟩:∃ gs,(m.items.filter fun x=>decide (x.key ∈ l)).map goneOf=gs:=⟨_,rfl⟩
  have hgsl:gs.length <= 1000000:=by rw[<- hgs,List.length_map];exact au (List.length_filter_le _ _) hl2
  have hfm:forgetM m d l=⟨seenUp m d,ki,mergeL RGo.pl deeperR m.gone gs⟩:=by rw[<- hki,<- hgs];rfl
  rw[hki,hgs] at hD;have hw6b:Below w.heap.size w w6:=hw34.trans (hb46.mono hw34.size);have HD:=ae hD;have KO6:=ae kO6;have KR6:=ae kr6;have Ho6:=ae ho6;have Hgl:=ae hgl;have Hfm:=ae hfm;have Hw6:=ae (show w6=((w3.setCell ⟨w.heap.size+1,0,none⟩ (.slice bs l.length cs)).alloc (.cells #[.slice b1 m.seen.length e1,.slice b2 m.items.length e2,.slice b3 m.gone.length e3] 37)).alloc (.cells #[.slice none 0 0] 35) by rw[hw6,hw5,hw4]);have Hw6b:=ae hw6b;have Hn1:=ae hn1;have Hok:=ae hok;have Hal:=ae hal;have Ha:=ae ha;have Hf:=ae f;have Hb3:=ae hb3.size;have Hw2s:=ae (show w.heap.size <= w2.heap.size by have:=Hz2.out;omega);clear HE hok hal ha f hn1 hsl ho hos hw3 kl kr hz4 kl4 kr4 hw34 ho4 hos4 hw4 hw5 hw6 hz5 hz6 hb46 kO6 kG6 kl6 kr6 ho6 hos6 hgl hk1 hk2 hD hki hgs hfm hw6b hb3 k1 c2;go_wp2_with fail;rw[<- Hw6.out];refine HD.out.mono ?_;rintro e w7 ⟨v',rfl,hoi,hst,hkp⟩;obtain⟨a7,c7,rfl⟩:=own_shape hoi;have kO7:=hkp.blk _ _ _ KO6.out (by decide) (by decide) (by decide);have kr7:=hkp.blk _ _ _ KR6.out (by decide) (by decide) (by decide);obtain⟨-,⟨gv,kG7,hog⟩⟩:=hst;obtain⟨ag,cg,rfl⟩:=own_shape hog;have hse7:=hkp.own Ho6.out.seen (by decide) (by decide) (by decide);have hgo7:=hkp.ownLow Ho6.out.gone Hgl.out (by decide);have hw7:Below w.heap.size w w7:=Hw6b.out.trans (hkp.bel.mono Hw2s.out)
  obtain⟨w8,hw8⟩:∃ w8,w8=w7.setCell ⟨w3.heap.size,1,none⟩ (.slice a7 ki.length c7):=⟨_,rfl⟩
  have kO8:Blk w8 w3.heap.size [.slice b1 m.seen.length e1,.slice a7 ki.length c7,.slice b3 m.gone.length e3] 37:=by rw[hw8];exact kO7.set 1 _
  have kG8:Blk w8 (w3.heap.size+1) [.slice ag gs.length cg] 35:=by rw[hw8];exact kG7.set_other _ (by show w3.heap.size+1≠w3.heap.size;omega)
  have hs3:w2.heap.size <= w3.heap.size:=Hb3.out;have kr8:Blk w8 (w.heap.size+1+1) [.slice none 0 0,.slice none 0 0,.slice none 0 0] 37:=by rw[hw8];exact kr7.set_other _ (by show w.heap.size+1+1≠w3.heap.size;have:=Hz2.out;omega)
  have hw8b:Below w.heap.size w w8:=by rw[hw8];exact hw7.setCell (by show w.heap.size <= w3.heap.size;have:=Hz2.out;omega) _
  have hoi8:=aS (i:=1) hoi kO7 (by decide) (.slice a7 ki.length c7);have hse8:=aS (i:=1) hse7 kO7 (by decide) (.slice a7 ki.length c7);have hgo8:=aS (i:=1) hgo7 kO7 (by decide) (.slice a7 ki.length c7);have hog8:=aS (i:=1) hog kO7 (by decide) (.slice a7 ki.length c7);rw[<- hw8] at hoi8 hse8 hgo8 hog8;have hM:=mergeGo_deeper w8 _ _ (.slice b3 m.gone.length e3) (.slice ag gs.length cg) m.gone gs (Rows.of_owns hgo8) (Rows.of_owns hog8) hl3 hgsl (fun x _ y _ _ W _=>deeper_any W x y)
  obtain⟨mg,hmg⟩:∃ mg,mergeL RGo.pl deeperR m.gone gs=mg:=⟨_,rfl⟩
  rw[hmg] at hM;obtain⟨o0,o1,o2⟩:=cell3 kO7;have fo1:=kO7.free 1;obtain⟨p0,p1',p2'⟩:=cell3 kO8;have g0:w8.cell? ⟨w3.heap.size+1,0,none⟩=some (.slice ag gs.length cg):=by simpa using kG8.cell 0
  have g1:w7.cell? ⟨w3.heap.size+1,0,none⟩=some (.slice ag gs.length cg):=by simpa using kG7.cell 0
  have HM:=ae hM;have KO8:=ae kO8;have KR8:=ae kr8;have Hoi:=ae hoi8;have Hse:=ae hse8;have Hmg:=ae hmg;have Hw8b:=ae hw8b;have Hw8:=ae hw8;have Hs8:=ae (show w2.heap.size <= w8.heap.size by have h1:=kO8.lt;omega);clear hoi kO7 kr7 kG7 hog hse7 hgo7 hw7 hw8 kO8 kG8 kr8 hw8b hoi8 hse8 hgo8 hog8 hM hmg hkp HD hs3;go_wp2_with fail;rw[<- Hw8.out];refine HM.out.mono ?_;rintro e w9 ⟨r,rfl,hor,hb9⟩;obtain⟨a9,c9,rfl⟩:=own_shape hor;have kO9:=KO8.out.keep (hb9.block _ KO8.out.lt);have kr9:=KR8.out.keep (hb9.block _ KR8.out.lt)
  obtain⟨w10,hw10⟩:∃ w10,w10=w9.setCell ⟨w3.heap.size,2,none⟩ (.slice a9 mg.length c9):=⟨_,rfl⟩
  have hs3:w2.heap.size <= w3.heap.size:=Hb3.out;have hz2:=Hz2.out;have kO10:Blk w10 w3.heap.size [.slice b1 m.seen.length e1,.slice a7 ki.length c7,.slice a9 mg.length c9] 37:=by rw[hw10];exact kO9.set 2 _
  have kr10:Blk w10 (w.heap.size+1+1) [.slice none 0 0,.slice none 0 0,.slice none 0 0] 37:=by rw[hw10];exact kr9.set_other _ (by show w.heap.size+1+1≠w3.heap.size;omega)
  have hw10b:Below w.heap.size w w10:=by rw[hw10];exact(Hw8b.out.trans (hb9.mono Hw8b.out.size)).setCell (by show w.heap.size <= w3.heap.size;omega) _
  have ho10:cD w10 w.heap.size (.slice b1 m.seen.length e1) (.slice a7 ki.length c7) (.slice a9 mg.length c9) (forgetM m d l):=by
   rw[Hfm.out,Hmg.out,hw10];refine⟨?_,own_base (aS (bc Hoi.out hb9) kO9 (by decide) _) (by omega),own_base (aS hor kO9 (by decide) _) (by have:=Hs8.out;omega)⟩;have h1:=own_base (aS (i:=2) (bc Hse.out hb9) kO9 (by decide) (.slice a9 mg.length c9)) (show w.heap.size <= w2.heap.size by omega);dsimp only at h1 ⊢;exact h1
  obtain⟨hbnd,hki,hkg⟩:=o9 (d:=d) (l:=l) Hf.out Ha.out;have hLm:=limited_any w10 (HTb.out w10 hw10b).1 (HTb.out w10 hw10b).2 _ (.agg #[.slice b1 m.seen.length e1,.slice a7 ki.length c7,.slice a9 mg.length c9]) (forgetM m d l) ⟨_,_,_,rfl,ho10.map hbnd⟩ (fun x hx=>by have:=hki x hx;omega) (fun x hx=>by have:=hkg x hx;omega)
  obtain⟨ok,hok⟩:∃ ok,validR (forgetM m d l)=ok:=⟨_,rfl⟩
  rw[hok] at hLm
  have hu:forgetR m d l=if ok=true then (forgetM m d l,0) else (.empty,7):=by
   unfold forgetR fullR;rw[Hok.out,Hal.out,hok];cases ok <;> rfl
  obtain⟨r0,r1,r2⟩:=cell3 kO9;have fr2:=kO9.free 2;obtain⟨t0,t1,t2⟩:=cell3 kO10;have HLm:=ae hLm;have Ho10:=ae ho10;have KR10:=ae kr10;have Hw10b:=ae hw10b;have Hu:=ae hu;have Hbnd:=ae hbnd;have Hw10:=ae hw10;clear o0 o1 o2 fo1 p0 p1' p2' g0 g1 HM kO9 kr9 kO10 kr10 hw10b ho10 hbnd hki hkg hLm hok hu hw10 hor hb9 hs3 hz2;go_wp2_with fail;rw[<- Hw10.out];refine HLm.out.mono ?_;rintro e w11 ⟨rfl,hb11⟩;have kr:=KR10.out.keep (hb11.block _ KR10.out.lt);have hbel:=Hw10b.out.trans (hb11.mono Hw10b.out.size);have Ho11:=ae (Ho10.out.below hb11);clear HLm hb11 r0 r1 r2 fr2 t0 t1 t2;obtain⟨y0,y1,y2⟩:=cell3 kr;have z0:=kr.free 0;have z1:=kr.free 1;have z2:=kr.free 2;cases ok with
  | false=>
    have Hu0:=ae (show forgetR m d l=(.empty,7) from Hu.out.trans (if_neg Bool.false_ne_true));obtain⟨wf,hwf,hblk,hbf⟩:=fin3 kr hbel (by omega) (.slice none 0 0) (.slice none 0 0) (.slice none 0 0);have Q:=ae (cell3 hblk);have Hbf:=ae hbf;have Hwf:=ae hwf;clear hwf hblk hbf kr hbel;go_wp2_with fail;rw[<- Hwf.out];obtain⟨q0,q1,q2⟩:=Q.out;exact bodyPost_ret (v:=.tuple #[nilV,.int .i64 7]) (by simp[results,Tryz.results58,go_sem,q0,q1,q2,nilV]) rfl ⟨⟨_,by rw[Hu0.out],by rw[Hu0.out];exact own_nil _ _,by rw[Hu0.out];exact bnd_empty⟩,Hbf.out⟩
  | true=>
    have Hu0:=ae (show forgetR m d l=(forgetM m d l,0) from Hu.out.trans (if_pos rfl));obtain⟨wf,hwf,hblk,hbf⟩:=fin3 kr hbel (by omega) (.slice b1 m.seen.length e1) (.slice a7 ki.length c7) (.slice a9 mg.length c9);have Q:=ae (cell3 hblk)
    have Hof:=ae (show cD wf w.heap.size (.slice b1 m.seen.length e1) (.slice a7 ki.length c7) (.slice a9 mg.length c9) (forgetM m d l) by
     rw[hwf]
     exact((Ho11.out.setCell kr _).setCell (kr.set 0 _) _).setCell ((kr.set 0 _).set 1 _) _)
    have Hbf:=ae hbf;have Hwf:=ae hwf;clear hwf hblk hbf kr hbel;go_wp2_with fail;rw[<- Hwf.out];obtain⟨q0,q1,q2⟩:=Q.out;exact bodyPost_ret (v:=.tuple #[.agg #[.slice b1 m.seen.length e1,.slice a7 ki.length c7,.slice a9 mg.length c9],.int .i64 0]) (by simp[results,Tryz.results58,go_sem,q0,q1,q2]) rfl ⟨⟨_,by rw[Hu0.out],by rw[Hu0.out];exact⟨_,_,_,rfl,Hof.out⟩,by rw[Hu0.out];exact Hbnd.out⟩,Hbf.out⟩
end
end Go.Proofs.YtobjdpngnfbicaaGreatDoor
