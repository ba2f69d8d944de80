/- Two vaults under any calls answer alike. Part Part9: walks and lemmas of the proof. -/
import Derived.Test.YtcjmehononbadaaDoorPart8
import Derived.Test.YtcjmehononbadaaDoorSym6
namespace Go.Proofs.YtcjmehononbadaaDoor
open Go.Sym

theorem Fc.bsl115_1 : bslB Tryd.prog 115 1 = some (9,1,[.string .empty]):=by kernel_rfl
theorem Fc.el115 : elB Tryd.prog 115 = some (9,1,16):=by kernel_rfl
theorem Fc.el69 : elB Tryd.prog 69 = some (4,1,1):=by kernel_rfl
theorem Fc.fn62 : isFn Tryd.prog 62 = true:=by kernel_rfl
theorem Fc.fo77_2 : foff Tryd.prog 77 2 = some 2:=by kernel_rfl
theorem Fc.isSlice115 : isSlice Tryd.prog 115 = true:=by kernel_rfl
theorem Fc.ni115 : notInt Tryd.prog 115 = true:=by kernel_rfl
theorem Fc.slb115 : slB Tryd.prog 115 = some 1:=by kernel_rfl
set_option maxRecDepth 100000 in
set_option maxHeartbeats 16000000 in
theorem rKnows_c (b : Nat) (V : RB) (ts : List Tm) (hwf : Wf6 ts) (hpos : 0 < ts.length) (sv : Value) (ls : List (List UInt8)) (hll : ∀ l∈ls,l.length≤1099511627776) (hls2 : ls.length≤1048576) (hm : ts.length≤1000000000) (w0 : World) (hri : RI w0 b V ts) (hss : SlG Nobody w0 sv ls) : Calls Tryd.prog 61 #[.pointer (some ⟨b,0,none⟩),sv] w0 fun e w' => ∃ (K : List Bool) (kb : Nat),e = .returned (.slice (some ⟨kb,0,none⟩) ts.length ts.length)∧w0.heap.size≤kb∧w'.heap[kb]? = some (.cells (bools K).toArray 4 (0,0))∧Knows6 ts ls K∧Ext w0 w':=by
 refine enter Tryd.func61 rfl rfl rfl ?_
 intro a hS
 have hH:=Hp.start w0 (Nobody)
 replace hH:=hH.knowR hri (by intro p hp; simp at hp)
 obtain ⟨vs,p,cap,hsl0,hall⟩:=hss
 have hv9:=(hsl0 _ (Mod.refl _ _)).val
 subst hv9
 refine c_seq (reg_plain w0 (Nobody) ?_)
 refine r_assign hS hH.kp0 rfl rfl ?_; clear hS; intro a hS
 refine Sq.nil (then_n (c_seq (reg_plain w0 (Nobody) ?_)))
 refine r_move hS hH.kp0 rfl rfl (x_nilCheck hH.kp0 rfl rfl (x_fieldAddr hH.kp0 rfl Fc.fo80_0 rfl (x_load_sc hH (by repeat' constructor) rfl (by repeat' constructor) Fc.sc78 (by rfl) rfl (x_lenSl hH.kp0 rfl Fc.isSlice78 rfl ?_)))); clear hS; intro a hS
 refine r_makeSl (m:=ts.length) (v0:=.bool false) hS hH (by repeat' constructor) rfl rfl rfl rfl Fc.el69 Fc.zc4 (by omega) (by omega) rfl ?_
 clear hS hH; intro a w kb hkb hwkb hS hH
 rw [bools_rep] at hH
 refine r_assign hS hH.kp0 rfl rfl ?_; clear hS; intro a hS
 refine Sq.nil (then_n (c_seq (reg_plain w0 (Nobody) ?_)))
 refine r_move hS hH.kp0 rfl rfl (x_indexAddrS (j:=0) hH.kp0 rfl rfl Fc.slb69 rfl (by omega) rfl ?_); clear hS; intro a hS
 refine r_store1 hS hH rfl rfl rfl (by repeat' constructor) (by repeat' constructor) Fc.sz4 (by rw [bools_len,List.length_replicate]; omega) (.inr (by assumption)) ?_; clear hH; intro w hH
 rw [spl_bools (by rw [List.length_replicate]; omega)] at hH
 refine Sq.nil (then_n (c_seq (reg_plain w0 (Nobody) ?_)))
 refine r_assign hS hH.kp0 rfl rfl ?_; clear hS; intro a hS
 refine Sq.nil (then_n ?_)
 refine c_cut (fun a w => ∃ (tv : Value) (LT : Blocks),TXT w0 9 tv ls LT∧St 147 (lv [(0,.pointer (some ⟨b,0,none⟩)),(4,.slice none 0 0),(5,.slice (some ⟨kb,0,none⟩) ts.length ts.length),(6,tv)]) a∧Hp w0 Nobody ((kb,.cells (bools ((List.replicate ts.length false).set 0 true)).toArray 4 (0,0)) :: (b,.cells (V.top ts.length).toArray 80 (0,0)) :: (V.sb,.cells V.l.toArray 77 (0,0)) :: LT) w) ?_ ?_
 ·refine c_seq (reg_plain w0 (Nobody) ?_)
  refine r_assign hS hH.kp0 rfl rfl ?_; clear hS; intro a hS
  refine Sq.nil (then_n (wp_block ?_))
  refine c_loop (fun m a w => ∃ (i : Nat) (tv : Value) (LT : Blocks),m + i = ls.length∧TXT w0 9 tv (ls.take i) LT∧St 147 (lv [(0,.pointer (some ⟨b,0,none⟩)),(1,.slice p ls.length cap),(4,.slice none 0 0),(5,.slice (some ⟨kb,0,none⟩) ts.length ts.length),(6,tv),(7,.int .i64 (i : Int))]) a∧Hp w0 Nobody ((kb,.cells (bools ((List.replicate ts.length false).set 0 true)).toArray 4 (0,0)) :: (b,.cells (V.top ts.length).toArray 80 (0,0)) :: (V.sb,.cells V.l.toArray 77 (0,0)) :: LT) w) (ls.length) ?_ ?_
  ·exact ⟨0,_,[],by omega,.inl ⟨rfl,rfl,rfl⟩,hS.live ⟨rfl,rfl,rfl,rfl,rfl,rfl,trivial⟩,hH⟩
  clear hS hH; intro m a w hI; obtain ⟨i,tv,LT,hmi,hT,hS,hH⟩:=hI
  rcases hT with ⟨rfl,rfl,htl0⟩ | ⟨tb,tcap,row,rfl,rfl,htb,htl,htc,htt⟩
  ·refine c_seq (c_seq (reg_plain w0 (Nobody) ?_))
   refine r_move hS hH.kp0 rfl rfl (x_move hH.kp0 rfl rfl (x_lenSl hH.kp0 rfl Fc.isSlice31 rfl (x_lss hH.kp0 rfl rfl rfl ?_))); clear hS; intro a hS
   refine Sq.nil (then_n ?_)
   refine c_cond hS rfl (fun hc0 => ?_) (fun hc0 => ?_)
   ·have hlt : i < ls.length:=by have:=of_decide_eq_true hc0; omega
    have hsl:=hsl0 _ hH.mod
    obtain ⟨ba,bo_,hq⟩:=hsl.addr (by omega)
    subst hq
    obtain ⟨x,hx⟩ : ∃ x,vs[i]? = some x:=⟨_,List.getElem?_eq_getElem (by rw [hsl.len]; omega)⟩
    obtain ⟨l,hli,hbx⟩:=hall i x hx
    obtain ⟨bb,oo,hbo,hcell⟩:=hsl.cells i x hx
    cases hbo
    have htk1 : ls.take (i + 1) = ls.take i++[l]:=by rw [List.take_add_one,hli]; rfl
    have hlen9 : (ls.take i).length = i:=by rw [List.length_take]; omega
    refine wp_skip (then_n (c_seq (wp_block (reg_plain w0 (Nobody) ?_))))
    refine r_move hS hH.kp0 rfl rfl (x_move hH.kp0 rfl rfl (x_move hH.kp0 rfl rfl (x_indexAddrS (j:=i) hH.kp0 rfl rfl Fc.slb31 rfl (by omega) rfl ?_))); clear hS; intro a hS
    refine r_load_cell (v:=x) hS hH.kp0 rfl (by rw [Nat.mul_one]; exact hcell) Fc.sc22 rfl ?_; clear hS; intro a hS
    refine r_bytesStr (l:=l) hS hH.kp0 rfl (hbx _ hH.mod) Fc.u8s22 Fc.isStr9 rfl ?_; clear hS; intro a hS
    refine r_buildSlice (parts:=[(0,.tmp 33)]) hS hH (by repeat' constructor) rfl Fc.bsl115_1 (by rfl) rfl ?_
    clear hS hH; intro a w b34 hb34 hwb34 hS hH
    refine r_append_nil hS hH (by repeat' constructor) rfl rfl Fc.el115 Fc.ni115 (src_str (hH.get .here)) (by decide) (by decide) rfl ?_
    clear hS hH; intro a w ub ucap ul hub huw hul huc hut huE hS hH
    have hub0:=hub
    refine r_assign hS hH.kp0 rfl rfl ?_; clear hS; intro a hS
    refine Sq.nil (blk_n (then_n (reg_plain w0 (Nobody) ?_)))
    refine r_move hS hH.kp0 rfl rfl (x_add hH.kp0 rfl rfl rfl (by omega) (x_assign hH.kp0 rfl rfl ?_)); clear hS; intro a hS
    refine Sq.nil (then_n ?_)
    have hT9 : TXT w0 9 (.slice (some ⟨ub,0,none⟩) (1) ucap) (ls.take i++[l]) _:=TXT.blk hub0 (by rw [htl0]; rfl) hul huc (by have h9:=hut; rw [Nat.mul_one] at h9; rw [h9,htl0]; rfl)
    rw [←htk1] at hT9
    exact ⟨m - 1,by omega,i + 1,_,_,by omega,hT9,hS.live ⟨rfl,rfl,rfl,rfl,rfl,rfl,trivial⟩,(hH.less (List.Sublist.cons_cons _ (List.Sublist.cons _ (List.Sublist.refl _)))).rot⟩
   ·have hge : i = ls.length:=by have:=of_decide_eq_false hc0; omega
    subst hge
    have htkl : ls.take ls.length = ls:=List.take_length
    refine wp_exit (then_e (then_e (blk_hit (then_n ?_))))
    first
     | (rw [htkl] at htl0; exact ⟨_,[],.inl ⟨rfl,rfl,htl0⟩,hS.live ⟨rfl,rfl,rfl,rfl,trivial⟩,hH⟩)
     | (rw [htkl] at htc htt hS; exact ⟨_,_,.inr ⟨tb,tcap,row,rfl,rfl,htb,htl,htc,htt⟩,hS.live ⟨rfl,rfl,rfl,rfl,trivial⟩,hH⟩)
  ·refine c_seq (c_seq (reg_plain w0 (Nobody) ?_))
   refine r_move hS hH.kp0 rfl rfl (x_move hH.kp0 rfl rfl (x_lenSl hH.kp0 rfl Fc.isSlice31 rfl (x_lss hH.kp0 rfl rfl rfl ?_))); clear hS; intro a hS
   refine Sq.nil (then_n ?_)
   refine c_cond hS rfl (fun hc0 => ?_) (fun hc0 => ?_)
   ·have hlt : i < ls.length:=by have:=of_decide_eq_true hc0; omega
    have hsl:=hsl0 _ hH.mod
    obtain ⟨ba,bo_,hq⟩:=hsl.addr (by omega)
    subst hq
    obtain ⟨x,hx⟩ : ∃ x,vs[i]? = some x:=⟨_,List.getElem?_eq_getElem (by rw [hsl.len]; omega)⟩
    obtain ⟨l,hli,hbx⟩:=hall i x hx
    obtain ⟨bb,oo,hbo,hcell⟩:=hsl.cells i x hx
    cases hbo
    have htk1 : ls.take (i + 1) = ls.take i++[l]:=by rw [List.take_add_one,hli]; rfl
    have hlen9 : (ls.take i).length = i:=by rw [List.length_take]; omega
    refine wp_skip (then_n (c_seq (wp_block (reg_plain w0 (Nobody) ?_))))
    refine r_move hS hH.kp0 rfl rfl (x_move hH.kp0 rfl rfl (x_move hH.kp0 rfl rfl (x_indexAddrS (j:=i) hH.kp0 rfl rfl Fc.slb31 rfl (by omega) rfl ?_))); clear hS; intro a hS
    refine r_load_cell (v:=x) hS hH.kp0 rfl (by rw [Nat.mul_one]; exact hcell) Fc.sc22 rfl ?_; clear hS; intro a hS
    refine r_bytesStr (l:=l) hS hH.kp0 rfl (hbx _ hH.mod) Fc.u8s22 Fc.isStr9 rfl ?_; clear hS; intro a hS
    refine r_buildSlice (parts:=[(0,.tmp 33)]) hS hH (by repeat' constructor) rfl Fc.bsl115_1 (by rfl) rfl ?_
    clear hS hH; intro a w b34 hb34 hwb34 hS hH
    refine r_append_own hS hH rfl rfl (by repeat' constructor) (by repeat' constructor) Fc.el115 Fc.ni115 htl htc (src_str (hH.get .here)) (by omega) (.inr htb) rfl ?_
    clear hS hH; intro a w ub ucap ul hub hul huc hut hum hS hH
    have hub0:=hub.resolve_left (fun h => h)
    refine r_assign hS hH.kp0 rfl rfl ?_; clear hS; intro a hS
    refine Sq.nil (blk_n (then_n (reg_plain w0 (Nobody) ?_)))
    refine r_move hS hH.kp0 rfl rfl (x_add hH.kp0 rfl rfl rfl (by omega) (x_assign hH.kp0 rfl rfl ?_)); clear hS; intro a hS
    refine Sq.nil (then_n ?_)
    have hT9 : TXT w0 9 (.slice (some ⟨ub,0,none⟩) ((ls.take i).length + 1) ucap) (ls.take i++[l]) _:=TXT.blk hub0 (by rw [List.length_append]; rfl) hul huc (by have h9:=hut; rw [Nat.mul_one,Nat.mul_one,htt,strs_snoc] at h9; exact h9)
    rw [←htk1] at hT9
    exact ⟨m - 1,by omega,i + 1,_,_,by omega,hT9,hS.live ⟨rfl,rfl,rfl,rfl,rfl,rfl,trivial⟩,(hH.less (List.Sublist.cons_cons _ (List.Sublist.cons _ (List.Sublist.refl _)))).rot⟩
   ·have hge : i = ls.length:=by have:=of_decide_eq_false hc0; omega
    subst hge
    have htkl : ls.take ls.length = ls:=List.take_length
    refine wp_exit (then_e (then_e (blk_hit (then_n ?_))))
    first
     | (rw [htkl] at htl0; exact ⟨_,[],.inl ⟨rfl,rfl,htl0⟩,hS.live ⟨rfl,rfl,rfl,rfl,trivial⟩,hH⟩)
     | (rw [htkl] at htc htt hS; exact ⟨_,_,.inr ⟨tb,tcap,row,rfl,rfl,htb,htl,htc,htt⟩,hS.live ⟨rfl,rfl,rfl,rfl,trivial⟩,hH⟩)
 clear hS hH; intro a w hJ8; obtain ⟨tv,LT,hT,hS,hH⟩:=hJ8
 refine c_seq (reg_plain w0 (Nobody) ?_)
 refine r_move hS hH.kp0 rfl rfl (x_nilCheck hH.kp0 rfl rfl (x_fieldAddr hH.kp0 rfl Fc.fo80_0 rfl (x_load_sc hH (by repeat' constructor) rfl (by repeat' constructor) Fc.sc78 (by rfl) rfl (x_lenSl hH.kp0 rfl Fc.isSlice78 rfl ?_)))); clear hS; intro a hS
 refine r_makeSl (m:=ts.length) (v0:=.bool false) hS hH (by repeat' constructor) rfl rfl rfl rfl Fc.el69 Fc.zc4 (by omega) (by omega) rfl ?_
 clear hS hH; intro a w ob hob hwob hS hH
 rw [bools_rep] at hH
 refine r_assign hS hH.kp0 rfl rfl ?_; clear hS; intro a hS
 refine Sq.nil (then_n (c_seq (c_seq (reg_plain w0 (Nobody) ?_))))
 refine r_assign hS hH.kp0 rfl rfl ?_; clear hS; intro a hS
 refine Sq.nil (then_n (wp_block ?_))
 refine c_loop (fun m a w => ∃ (K O : List Bool) (TL : List (List UInt8)) (tv : Value) (LT : Blocks) (ag : Bool),m = 2 * (2 * ts.length - (cnt K + cnt O)) + (if ag = true then 1 else 0)∧KR ts ls K O TL∧(ag = false→Knows6 ts ls K)∧TXT w0 9 tv TL LT∧St 147 (lv [(0,.pointer (some ⟨b,0,none⟩)),(4,.slice none 0 0),(5,.slice (some ⟨kb,0,none⟩) ts.length ts.length),(6,tv),(8,.slice (some ⟨ob,0,none⟩) ts.length ts.length),(9,.bool ag)]) a∧Hp w0 Nobody ((ob,.cells (bools O).toArray 4 (0,0)) :: (kb,.cells (bools K).toArray 4 (0,0)) :: (b,.cells (V.top ts.length).toArray 80 (0,0)) :: (V.sb,.cells V.l.toArray 77 (0,0)) :: LT) w) (2 * (2 * ts.length - (cnt ((List.replicate ts.length false).set 0 true) + cnt (List.replicate ts.length false))) + 1) ?_ ?_
 ·exact ⟨_,_,ls,tv,LT,true,rfl,KR.start hpos hll,fun h => (by cases h),hT,hS.live ⟨rfl,rfl,rfl,rfl,rfl,rfl,trivial⟩,hH⟩
 clear hS hH hT; intro m1 a w hI; obtain ⟨K,O,TL,tv,LT,ag,hm1,hR,hkn,hT,hS,hH⟩:=hI
 rcases ag with _ | _
 ·refine c_seq (c_seq (reg_plain w0 (Nobody) ?_))
  refine r_move hS hH.kp0 rfl rfl ?_; clear hS; intro a hS
  refine Sq.nil (then_n (c_condF hS rfl rfl (wp_exit (then_e (then_e (blk_hit (then_n (c_seq (reg_plain w0 (Nobody) ?_)))))))))
  refine r_move hS hH.kp0 rfl rfl (x_assign hH.kp0 rfl rfl ?_); clear hS; intro a hS
  refine Sq.nil (then_n (wp_ret ?_))
  exact leave (.inl rfl) hS rfl (Res.tmp rfl Res.nil) ⟨K,kb,rfl,hkb,hH.get (b:=kb) (by repeat' constructor),hkn rfl,hH.mod⟩
 ·refine c_seq (c_seq (reg_plain w0 (Nobody) ?_))
  refine r_move hS hH.kp0 rfl rfl ?_; clear hS; intro a hS
  refine Sq.nil (then_n (c_condT hS rfl rfl (wp_skip (then_n (wp_block (c_seq (reg_plain w0 (Nobody) ?_)))))))
  refine r_assign hS hH.kp0 rfl rfl ?_; clear hS; intro a hS
  refine Sq.nil (then_n (c_seq (reg_plain w0 (Nobody) ?_)))
  refine r_assign hS hH.kp0 rfl rfl ?_; clear hS; intro a hS
  refine Sq.nil (then_n (wp_block ?_))
  refine c_loop (fun m a w => ∃ (i : Nat) (K1 O1 : List Bool) (TL1 : List (List UInt8)) (tv1 : Value) (LT : Blocks) (ag1 : Bool),m + i = ts.length∧KP ts ls K O TL K1 O1 TL1 ag1 i∧TXT w0 9 tv1 TL1 LT∧St 147 (lv [(0,.pointer (some ⟨b,0,none⟩)),(4,.slice none 0 0),(5,.slice (some ⟨kb,0,none⟩) ts.length ts.length),(6,tv1),(8,.slice (some ⟨ob,0,none⟩) ts.length ts.length),(9,.bool ag1),(10,.int .i64 (i : Int))]) a∧Hp w0 Nobody ((ob,.cells (bools O1).toArray 4 (0,0)) :: (kb,.cells (bools K1).toArray 4 (0,0)) :: (b,.cells (V.top ts.length).toArray 80 (0,0)) :: (V.sb,.cells V.l.toArray 77 (0,0)) :: LT) w) (ts.length) ?_ ?_
  ·exact ⟨0,K,O,TL,tv,LT,false,by omega,KP.start hR,hT,hS.live ⟨rfl,rfl,rfl,rfl,rfl,rfl,rfl,trivial⟩,hH⟩
  clear hS hH hT; intro m a w hI; obtain ⟨i,K1,O1,TL1,tv1,LT,ag1,hmi,hP,hT,hS,hH⟩:=hI
  rcases hT with ⟨rfl,rfl,htl0⟩ | ⟨tb,tcap,row,rfl,rfl,htb,htl,htc,htt⟩
  ·refine c_seq (c_seq (reg_plain w0 (Nobody) ?_))
   refine r_move hS hH.kp0 rfl rfl (x_move hH.kp0 rfl rfl (x_nilCheck hH.kp0 rfl rfl (x_fieldAddr hH.kp0 rfl Fc.fo80_0 rfl (x_load_sc hH (by repeat' constructor) rfl (by repeat' constructor) Fc.sc78 (by rfl) rfl (x_lenSl hH.kp0 rfl Fc.isSlice78 rfl (x_lss hH.kp0 rfl rfl rfl ?_)))))); clear hS; intro a hS
   refine Sq.nil (then_n ?_)
   refine c_cond hS rfl (fun hc2 => ?_) (fun hc2 => ?_)
   ·have hlt2 : i < ts.length:=by have:=of_decide_eq_true hc2; omega
    obtain ⟨t,ht⟩ : ∃ t,ts[i]? = some t:=⟨_,List.getElem?_eq_getElem hlt2⟩
    have hrow:=hri.ok.row ht
    obtain ⟨hwa1,hwa2⟩:=hwf.a i t ht
    obtain ⟨hwb1,hwb2⟩:=hwf.b i t ht
    obtain ⟨ia,hta⟩:=Int.eq_ofNat_of_zero_le hwa1
    obtain ⟨ib,htb_⟩:=Int.eq_ofNat_of_zero_le hwb1
    have hian : t.a.toNat = ia:=by omega
    have hibn : t.b.toNat = ib:=by omega
    have hK1l:=hP.r.len
    have hO1l:=hP.r.lenO
    have htl9:=hP.r.tll
    have hco9:=cnt_le O1
    obtain ⟨ka,hka⟩ : ∃ k,K1[ia]? = some k:=⟨_,List.getElem?_eq_getElem (by omega)⟩
    obtain ⟨kb_,hkb_⟩ : ∃ k,K1[ib]? = some k:=⟨_,List.getElem?_eq_getElem (by omega)⟩
    obtain ⟨ki,hki⟩ : ∃ k,K1[i]? = some k:=⟨_,List.getElem?_eq_getElem (by omega)⟩
    obtain ⟨oi,hoi⟩ : ∃ k,O1[i]? = some k:=⟨_,List.getElem?_eq_getElem (by omega)⟩
    have hKa : KT K1 t.a.toNat↔ka = true:=by rw [hian]; exact kt_some hka
    have hKb : KT K1 t.b.toNat↔kb_ = true:=by rw [hibn]; exact kt_some hkb_
    refine wp_skip (then_n (c_seq (wp_block (c_seq (reg_plain w0 (Nobody) ?_)))))
    refine r_move hS hH.kp0 rfl rfl (x_nilCheck hH.kp0 rfl rfl (x_fieldAddr hH.kp0 rfl Fc.fo80_0 rfl (x_load_sc hH (by repeat' constructor) rfl (by repeat' constructor) Fc.sc78 (by rfl) rfl (x_move hH.kp0 rfl rfl (x_indexAddrS (j:=i) hH.kp0 rfl rfl Fc.slb78 rfl (by omega) rfl ?_))))); clear hS; intro a hS
    refine r_load_at (vs:=rcells t) hS hH (by repeat' constructor) rfl (by repeat' constructor) Fc.ag77 (by rw [Nat.zero_add]; exact hrow.2) (by rw [Nat.zero_add]; exact hrow.1) rfl ?_; clear hS; intro a hS
    refine r_alloc hS hH (by repeat' constructor) Fc.zc77 rfl ?_
    clear hS hH; intro a w b11 hb11 hwb11 hS hH
    refine r_store_row (vs:=rcells t) hS hH rfl rfl (by repeat' constructor) (by repeat' constructor) Fc.sz77 (rcells_one t) (by rfl) (.inr (by assumption)) ?_; clear hH; intro w hH
    refine Sq.nil (then_n ?_)
    refine c_cut (fun a w => ∃ (K2 : List Bool) (ag2 : Bool),KP ts ls K O TL K2 O1 TL1 ag2 i∧(KT K2 i∨((∀ l∈TL1,¬ HasN l i)∧¬ Rch (KT K2) t))∧St 147 (lv [(0,.pointer (some ⟨b,0,none⟩)),(4,.slice none 0 0),(5,.slice (some ⟨kb,0,none⟩) ts.length ts.length),(6,.slice none 0 0),(8,.slice (some ⟨ob,0,none⟩) ts.length ts.length),(9,.bool ag2),(10,.int .i64 (i : Int)),(11,.pointer (some ⟨b11,0,none⟩))]) a∧Hp w0 Nobody ((b11,.cells (rcells t).toArray 77 (0,0)) :: (ob,.cells (bools O1).toArray 4 (0,0)) :: (kb,.cells (bools K2).toArray 4 (0,0)) :: (b,.cells (V.top ts.length).toArray 80 (0,0)) :: (V.sb,.cells V.l.toArray 77 (0,0)) :: []) w) ?_ ?_
    ·refine c_seq (reg_plain w0 (Nobody) ?_)
     refine r_move hS hH.kp0 rfl rfl (x_move hH.kp0 rfl rfl (x_indexAddrS (j:=i) hH.kp0 rfl rfl Fc.slb69 rfl (by omega) rfl ?_)); clear hS; intro a hS
     refine r_load_sc hS hH (by repeat' constructor) rfl (by repeat' constructor) Fc.sc4 (v:=.bool ki) (by rw [nthV_eq,Nat.zero_add,Nat.mul_one]; exact bools_get hki) rfl ?_; clear hS; intro a hS
     refine r_not hS hH.kp0 rfl rfl ?_; clear hS; intro a hS
     refine Sq.nil (then_n ?_)
     refine c_cond hS rfl (fun hc3 => ?_) (fun hc3 => ?_)
     ·have hkf : ki = false:=by cases ki; rfl; cases hc3
      subst hkf
      refine c_seq (reg_plain w0 (Nobody) ?_)
      refine r_assign hS hH.kp0 rfl rfl ?_; clear hS; intro a hS
      refine Sq.nil (then_n ?_)
      refine c_cut (fun a w => ∃ is : Bool,(is = true↔∃ l∈TL1,HasN l i)∧St 147 (lv [(0,.pointer (some ⟨b,0,none⟩)),(4,.slice none 0 0),(5,.slice (some ⟨kb,0,none⟩) ts.length ts.length),(6,.slice none 0 0),(8,.slice (some ⟨ob,0,none⟩) ts.length ts.length),(9,.bool ag1),(10,.int .i64 (i : Int)),(11,.pointer (some ⟨b11,0,none⟩)),(12,.bool is)]) a∧Hp w0 Nobody ((b11,.cells (rcells t).toArray 77 (0,0)) :: (ob,.cells (bools O1).toArray 4 (0,0)) :: (kb,.cells (bools K1).toArray 4 (0,0)) :: (b,.cells (V.top ts.length).toArray 80 (0,0)) :: (V.sb,.cells V.l.toArray 77 (0,0)) :: []) w) ?_ ?_
      ·refine c_seq (reg_plain w0 (Nobody) ?_)
       refine r_assign hS hH.kp0 rfl rfl ?_; clear hS; intro a hS
       refine Sq.nil (then_n (wp_block ?_))
       refine wp_loop_rounds 1 ?_
       refine rnd ?_
       refine c_seq (c_seq (reg_plain w0 (Nobody) ?_))
       refine r_move hS hH.kp0 rfl rfl (x_move hH.kp0 rfl rfl (x_lenSl hH.kp0 rfl Fc.isSlice115 rfl (x_lss hH.kp0 rfl rfl rfl ?_))); clear hS; intro a hS
       refine Sq.nil (then_n (c_condF hS rfl rfl (wp_exit (then_e (then_e (blk_hit (then_n ?_)))))))
       exact ⟨false,⟨fun h => (by cases h),fun ⟨l,hl,_⟩ => by rw [htl0] at hl; cases hl⟩,hS.live ⟨rfl,rfl,rfl,rfl,rfl,rfl,rfl,rfl,rfl,trivial⟩,hH⟩
      clear hS hH; intro a w hJ22; obtain ⟨is,his,hS,hH⟩:=hJ22
      refine c_cut (fun a w => ∃ is : Bool,(is = true↔(∃ l∈TL1,HasN l i)∨Rch (KT K1) t)∧St 147 (lv [(0,.pointer (some ⟨b,0,none⟩)),(4,.slice none 0 0),(5,.slice (some ⟨kb,0,none⟩) ts.length ts.length),(6,.slice none 0 0),(8,.slice (some ⟨ob,0,none⟩) ts.length ts.length),(9,.bool ag1),(10,.int .i64 (i : Int)),(11,.pointer (some ⟨b11,0,none⟩)),(12,.bool is)]) a∧Hp w0 Nobody ((b11,.cells (rcells t).toArray 77 (0,0)) :: (ob,.cells (bools O1).toArray 4 (0,0)) :: (kb,.cells (bools K1).toArray 4 (0,0)) :: (b,.cells (V.top ts.length).toArray 80 (0,0)) :: (V.sb,.cells V.l.toArray 77 (0,0)) :: []) w) ?_ ?_
      ·refine c_seq (reg_plain w0 (Nobody) ?_)
       refine r_fieldAddr hS hH.kp0 rfl Fc.fo77_0 rfl (x_load_sc hH (by repeat' constructor) rfl (by repeat' constructor) Fc.sc3 (by rfl) rfl ?_); clear hS; intro a hS
       refine Sq.nil (then_n (wp_block (c_seq (c_seq (reg_plain w0 (Nobody) ?_)))))
       rcases (by omega : t.kind = 2∨t.kind = 3∨t.kind = 5∨t.kind = 4∨(t.kind≠2∧t.kind≠3∧t.kind≠5∧t.kind≠4)) with hk | hk | hk | hk | hk
       ·refine r_eql hS hH.kp0 rfl rfl rfl (x_assign hH.kp0 rfl rfl ?_); clear hS; intro a hS
        refine Sq.nil (then_n ?_)
        refine c_condT hS rfl (beq_iff_eq.2 hk) ?_
        refine wp_skip (then_n ?_)
        refine c_condT hS rfl (beq_iff_eq.2 hk) ?_
        refine reg_plain w0 (Nobody) ?_
        refine r_move hS hH.kp0 rfl rfl (x_move hH.kp0 rfl rfl ?_); clear hS; intro a hS
        rcases is with _ | _
        ·refine Sq.guardYes hS rfl rfl rfl (r_move hS hH.kp0 rfl rfl (Sq.xguardYes rfl rfl rfl (x_fieldAddr hH.kp0 rfl Fc.fo77_1 rfl (Sq.xguardYes rfl rfl rfl (x_load_sc hH (by repeat' constructor) rfl (by repeat' constructor) Fc.sc3 (by rfl) rfl (Sq.xguardYes rfl rfl rfl (x_indexAddrS (j:=ia) hH.kp0 rfl rfl Fc.slb69 hta (by omega) rfl (Sq.xguardYes rfl rfl rfl ?_)))))))); clear hS; intro a hS
         refine r_load_sc hS hH (by repeat' constructor) rfl (by repeat' constructor) Fc.sc4 (v:=.bool ka) (by rw [nthV_eq,Nat.zero_add,Nat.mul_one]; exact bools_get hka) rfl ?_; clear hS; intro a hS
         refine r_pickF hS hH.kp0 rfl rfl rfl rfl (x_assign hH.kp0 rfl rfl ?_); clear hS; intro a hS
         refine Sq.nil (blk_n (then_n ?_))
         exact ⟨_,(rch_is his hKa hKb).1 (.inl hk),hS.live ⟨rfl,rfl,rfl,rfl,rfl,rfl,rfl,rfl,rfl,trivial⟩,hH⟩
        ·refine Sq.guardNo hS rfl rfl rfl hH.kp0 rfl (Sq.xguardNo rfl rfl rfl hH.kp0 rfl (Sq.xguardNo rfl rfl rfl hH.kp0 rfl (Sq.xguardNo rfl rfl rfl hH.kp0 rfl (Sq.xguardNo rfl rfl rfl hH.kp0 rfl (x_pickT hH.kp0 rfl rfl rfl rfl (x_assign hH.kp0 rfl rfl ?_)))))); clear hS; intro a hS
         refine Sq.nil (blk_n (then_n ?_))
         exact ⟨_,(rch_is his hKa hKb).1 (.inl hk),hS.live ⟨rfl,rfl,rfl,rfl,rfl,rfl,rfl,rfl,rfl,trivial⟩,hH⟩
       ·refine r_eql hS hH.kp0 rfl rfl rfl (x_assign hH.kp0 rfl rfl ?_); clear hS; intro a hS
        refine Sq.nil (then_n ?_)
        refine c_condF hS rfl (beq_false_of_ne (by omega)) ?_
        refine c_seq (reg_plain w0 (Nobody) ?_)
        refine r_eql hS hH.kp0 rfl rfl rfl (x_assign hH.kp0 rfl rfl ?_); clear hS; intro a hS
        refine Sq.nil (then_n ?_)
        refine c_condT hS rfl (beq_iff_eq.2 hk) ?_
        refine wp_skip (then_n ?_)
        refine c_condT hS rfl (beq_iff_eq.2 hk) ?_
        refine reg_plain w0 (Nobody) ?_
        refine r_move hS hH.kp0 rfl rfl (x_move hH.kp0 rfl rfl ?_); clear hS; intro a hS
        rcases is with _ | _
        ·refine Sq.guardYes hS rfl rfl rfl (r_move hS hH.kp0 rfl rfl (Sq.xguardYes rfl rfl rfl (x_fieldAddr hH.kp0 rfl Fc.fo77_1 rfl (Sq.xguardYes rfl rfl rfl (x_load_sc hH (by repeat' constructor) rfl (by repeat' constructor) Fc.sc3 (by rfl) rfl (Sq.xguardYes rfl rfl rfl (x_indexAddrS (j:=ia) hH.kp0 rfl rfl Fc.slb69 hta (by omega) rfl (Sq.xguardYes rfl rfl rfl ?_)))))))); clear hS; intro a hS
         refine r_load_sc hS hH (by repeat' constructor) rfl (by repeat' constructor) Fc.sc4 (v:=.bool ka) (by rw [nthV_eq,Nat.zero_add,Nat.mul_one]; exact bools_get hka) rfl ?_; clear hS; intro a hS
         refine r_pickF hS hH.kp0 rfl rfl rfl rfl (x_assign hH.kp0 rfl rfl ?_); clear hS; intro a hS
         refine Sq.nil (blk_n (then_n ?_))
         exact ⟨_,(rch_is his hKa hKb).1 (.inr (.inl hk)),hS.live ⟨rfl,rfl,rfl,rfl,rfl,rfl,rfl,rfl,rfl,trivial⟩,hH⟩
        ·refine Sq.guardNo hS rfl rfl rfl hH.kp0 rfl (Sq.xguardNo rfl rfl rfl hH.kp0 rfl (Sq.xguardNo rfl rfl rfl hH.kp0 rfl (Sq.xguardNo rfl rfl rfl hH.kp0 rfl (Sq.xguardNo rfl rfl rfl hH.kp0 rfl (x_pickT hH.kp0 rfl rfl rfl rfl (x_assign hH.kp0 rfl rfl ?_)))))); clear hS; intro a hS
         refine Sq.nil (blk_n (then_n ?_))
         exact ⟨_,(rch_is his hKa hKb).1 (.inr (.inl hk)),hS.live ⟨rfl,rfl,rfl,rfl,rfl,rfl,rfl,rfl,rfl,trivial⟩,hH⟩
       ·refine r_eql hS hH.kp0 rfl rfl rfl (x_assign hH.kp0 rfl rfl ?_); clear hS; intro a hS
        refine Sq.nil (then_n ?_)
        refine c_condF hS rfl (beq_false_of_ne (by omega)) ?_
        refine c_seq (reg_plain w0 (Nobody) ?_)
        refine r_eql hS hH.kp0 rfl rfl rfl (x_assign hH.kp0 rfl rfl ?_); clear hS; intro a hS
        refine Sq.nil (then_n ?_)
        refine c_condF hS rfl (beq_false_of_ne (by omega)) ?_
        refine reg_plain w0 (Nobody) ?_
        refine r_eql hS hH.kp0 rfl rfl rfl (x_assign hH.kp0 rfl rfl ?_); clear hS; intro a hS
        refine Sq.nil (then_n ?_)
        refine c_condT hS rfl (beq_iff_eq.2 hk) ?_
        refine reg_plain w0 (Nobody) ?_
        refine r_move hS hH.kp0 rfl rfl (x_move hH.kp0 rfl rfl ?_); clear hS; intro a hS
        rcases is with _ | _
        ·refine Sq.guardYes hS rfl rfl rfl (r_move hS hH.kp0 rfl rfl (Sq.xguardYes rfl rfl rfl (x_fieldAddr hH.kp0 rfl Fc.fo77_1 rfl (Sq.xguardYes rfl rfl rfl (x_load_sc hH (by repeat' constructor) rfl (by repeat' constructor) Fc.sc3 (by rfl) rfl (Sq.xguardYes rfl rfl rfl (x_indexAddrS (j:=ia) hH.kp0 rfl rfl Fc.slb69 hta (by omega) rfl (Sq.xguardYes rfl rfl rfl ?_)))))))); clear hS; intro a hS
         refine r_load_sc hS hH (by repeat' constructor) rfl (by repeat' constructor) Fc.sc4 (v:=.bool ka) (by rw [nthV_eq,Nat.zero_add,Nat.mul_one]; exact bools_get hka) rfl ?_; clear hS; intro a hS
         refine r_pickF hS hH.kp0 rfl rfl rfl rfl (x_assign hH.kp0 rfl rfl ?_); clear hS; intro a hS
         refine Sq.nil (blk_n (then_n ?_))
         exact ⟨_,(rch_is his hKa hKb).1 (.inr (.inr hk)),hS.live ⟨rfl,rfl,rfl,rfl,rfl,rfl,rfl,rfl,rfl,trivial⟩,hH⟩
        ·refine Sq.guardNo hS rfl rfl rfl hH.kp0 rfl (Sq.xguardNo rfl rfl rfl hH.kp0 rfl (Sq.xguardNo rfl rfl rfl hH.kp0 rfl (Sq.xguardNo rfl rfl rfl hH.kp0 rfl (Sq.xguardNo rfl rfl rfl hH.kp0 rfl (x_pickT hH.kp0 rfl rfl rfl rfl (x_assign hH.kp0 rfl rfl ?_)))))); clear hS; intro a hS
         refine Sq.nil (blk_n (then_n ?_))
         exact ⟨_,(rch_is his hKa hKb).1 (.inr (.inr hk)),hS.live ⟨rfl,rfl,rfl,rfl,rfl,rfl,rfl,rfl,rfl,trivial⟩,hH⟩
       ·refine r_eql hS hH.kp0 rfl rfl rfl (x_assign hH.kp0 rfl rfl ?_); clear hS; intro a hS
        refine Sq.nil (then_n ?_)
        refine c_condF hS rfl (beq_false_of_ne (by omega)) ?_
        refine c_seq (reg_plain w0 (Nobody) ?_)
        refine r_eql hS hH.kp0 rfl rfl rfl (x_assign hH.kp0 rfl rfl ?_); clear hS; intro a hS
        refine Sq.nil (then_n ?_)
        refine c_condF hS rfl (beq_false_of_ne (by omega)) ?_
        refine reg_plain w0 (Nobody) ?_
        refine r_eql hS hH.kp0 rfl rfl rfl (x_assign hH.kp0 rfl rfl ?_); clear hS; intro a hS
        refine Sq.nil (then_n ?_)
        refine c_condF hS rfl (beq_false_of_ne (by omega)) ?_
        refine c_seq (reg_plain w0 (Nobody) ?_)
        refine r_eql hS hH.kp0 rfl rfl rfl (x_assign hH.kp0 rfl rfl ?_); clear hS; intro a hS
        refine Sq.nil (then_n ?_)
        refine c_condT hS rfl (beq_iff_eq.2 hk) ?_
        refine reg_plain w0 (Nobody) ?_
        refine r_move hS hH.kp0 rfl rfl (x_move hH.kp0 rfl rfl ?_); clear hS; intro a hS
        rcases is with _ | _
        ·refine Sq.guardYes hS rfl rfl rfl (r_move hS hH.kp0 rfl rfl (Sq.xguardYes rfl rfl rfl (x_fieldAddr hH.kp0 rfl Fc.fo77_1 rfl (Sq.xguardYes rfl rfl rfl (x_load_sc hH (by repeat' constructor) rfl (by repeat' constructor) Fc.sc3 (by rfl) rfl (Sq.xguardYes rfl rfl rfl (x_indexAddrS (j:=ia) hH.kp0 rfl rfl Fc.slb69 hta (by omega) rfl (Sq.xguardYes rfl rfl rfl ?_)))))))); clear hS; intro a hS
         refine r_load_sc hS hH (by repeat' constructor) rfl (by repeat' constructor) Fc.sc4 (v:=.bool ka) (by rw [nthV_eq,Nat.zero_add,Nat.mul_one]; exact bools_get hka) rfl ?_; clear hS; intro a hS
         refine r_pickF hS hH.kp0 rfl rfl rfl rfl ?_; clear hS; intro a hS
         rcases ka with _ | _
         ·refine r_move hS hH.kp0 rfl rfl (Sq.xguardYes rfl rfl rfl (x_move hH.kp0 rfl rfl (Sq.xguardYes rfl rfl rfl (x_fieldAddr hH.kp0 rfl Fc.fo77_2 rfl (Sq.xguardYes rfl rfl rfl (x_load_sc hH (by repeat' constructor) rfl (by repeat' constructor) Fc.sc3 (by rfl) rfl (Sq.xguardYes rfl rfl rfl (x_indexAddrS (j:=ib) hH.kp0 rfl rfl Fc.slb69 htb_ (by omega) rfl (Sq.xguardYes rfl rfl rfl ?_))))))))); clear hS; intro a hS
          refine r_load_sc hS hH (by repeat' constructor) rfl (by repeat' constructor) Fc.sc4 (v:=.bool kb_) (by rw [nthV_eq,Nat.zero_add,Nat.mul_one]; exact bools_get hkb_) rfl ?_; clear hS; intro a hS
          refine r_pickF hS hH.kp0 rfl rfl rfl rfl (x_assign hH.kp0 rfl rfl ?_); clear hS; intro a hS
          refine Sq.nil (blk_n (then_n ?_))
          exact ⟨_,(rch_is his hKa hKb).2.1 hk,hS.live ⟨rfl,rfl,rfl,rfl,rfl,rfl,rfl,rfl,rfl,trivial⟩,hH⟩
         ·refine r_move hS hH.kp0 rfl rfl (Sq.xguardNo rfl rfl rfl hH.kp0 rfl (Sq.xguardNo rfl rfl rfl hH.kp0 rfl (Sq.xguardNo rfl rfl rfl hH.kp0 rfl (Sq.xguardNo rfl rfl rfl hH.kp0 rfl (Sq.xguardNo rfl rfl rfl hH.kp0 rfl (x_pickT hH.kp0 rfl rfl rfl rfl (x_assign hH.kp0 rfl rfl ?_))))))); clear hS; intro a hS
          refine Sq.nil (blk_n (then_n ?_))
          exact ⟨_,(rch_is his hKa hKb).2.1 hk,hS.live ⟨rfl,rfl,rfl,rfl,rfl,rfl,rfl,rfl,rfl,trivial⟩,hH⟩
        ·refine Sq.guardNo hS rfl rfl rfl hH.kp0 rfl (Sq.xguardNo rfl rfl rfl hH.kp0 rfl (Sq.xguardNo rfl rfl rfl hH.kp0 rfl (Sq.xguardNo rfl rfl rfl hH.kp0 rfl (Sq.xguardNo rfl rfl rfl hH.kp0 rfl (x_pickT hH.kp0 rfl rfl rfl rfl (x_move hH.kp0 rfl rfl (Sq.xguardNo rfl rfl rfl hH.kp0 rfl (Sq.xguardNo rfl rfl rfl hH.kp0 rfl (Sq.xguardNo rfl rfl rfl hH.kp0 rfl (Sq.xguardNo rfl rfl rfl hH.kp0 rfl (Sq.xguardNo rfl rfl rfl hH.kp0 rfl (x_pickT hH.kp0 rfl rfl rfl rfl (x_assign hH.kp0 rfl rfl ?_))))))))))))); clear hS; intro a hS
         refine Sq.nil (blk_n (then_n ?_))
         exact ⟨_,(rch_is his hKa hKb).2.1 hk,hS.live ⟨rfl,rfl,rfl,rfl,rfl,rfl,rfl,rfl,rfl,trivial⟩,hH⟩
       ·refine r_eql hS hH.kp0 rfl rfl rfl (x_assign hH.kp0 rfl rfl ?_); clear hS; intro a hS
        refine Sq.nil (then_n ?_)
        refine c_condF hS rfl (beq_false_of_ne (by omega)) ?_
        refine c_seq (reg_plain w0 (Nobody) ?_)
        refine r_eql hS hH.kp0 rfl rfl rfl (x_assign hH.kp0 rfl rfl ?_); clear hS; intro a hS
        refine Sq.nil (then_n ?_)
        refine c_condF hS rfl (beq_false_of_ne (by omega)) ?_
        refine reg_plain w0 (Nobody) ?_
        refine r_eql hS hH.kp0 rfl rfl rfl (x_assign hH.kp0 rfl rfl ?_); clear hS; intro a hS
        refine Sq.nil (then_n ?_)
        refine c_condF hS rfl (beq_false_of_ne (by omega)) ?_
        refine c_seq (reg_plain w0 (Nobody) ?_)
        refine r_eql hS hH.kp0 rfl rfl rfl (x_assign hH.kp0 rfl rfl ?_); clear hS; intro a hS
        refine Sq.nil (then_n ?_)
        refine c_condF hS rfl (beq_false_of_ne (by omega)) ?_
        refine wp_skip (blk_n (then_n ?_))
        exact ⟨_,(rch_is his hKa hKb).2.2 hk,hS.live ⟨rfl,rfl,rfl,rfl,rfl,rfl,rfl,rfl,rfl,trivial⟩,hH⟩
      clear hS hH his; intro a w hJ29; obtain ⟨is,his,hS,hH⟩:=hJ29
      refine c_seq (reg_plain w0 (Nobody) ?_)
      refine r_move hS hH.kp0 rfl rfl ?_; clear hS; intro a hS
      refine Sq.nil (then_n ?_)
      refine c_cond hS rfl (fun hc9 => ?_) (fun hc9 => ?_)
      ·subst hc9
       refine c_seq (reg_plain w0 (Nobody) ?_)
       refine r_move hS hH.kp0 rfl rfl (x_move hH.kp0 rfl rfl (x_indexAddrS (j:=i) hH.kp0 rfl rfl Fc.slb69 rfl (by omega) rfl ?_)); clear hS; intro a hS
       refine r_store1 hS hH rfl rfl rfl (by repeat' constructor) (by repeat' constructor) Fc.sz4 (by rw [bools_len]; omega) (.inr (by assumption)) ?_; clear hH; intro w hH
       rw [spl_bools (by omega)] at hH
       refine Sq.nil (then_n (reg_plain w0 (Nobody) ?_))
       refine r_assign hS hH.kp0 rfl rfl ?_; clear hS; intro a hS
       refine Sq.nil (then_n ?_)
       first
        | exact ⟨K1.set i true,true,hP.setK ht hki (his.1 rfl),.inl ((KT_set (by omega) i).2 (.inr rfl)),hS.live ⟨rfl,rfl,rfl,rfl,rfl,rfl,rfl,rfl,trivial⟩,hH⟩
        | exact ⟨K1,ag1,hP,.inl ((kt_some hki).2 rfl),hS.live ⟨rfl,rfl,rfl,rfl,rfl,rfl,rfl,rfl,trivial⟩,hH⟩
        | exact ⟨K1,ag1,hP,.inr ⟨fun l hl hn => absurd (his.2 (.inl ⟨l,hl,hn⟩)) (by decide),fun hr => absurd (his.2 (.inr hr)) (by decide)⟩,hS.live ⟨rfl,rfl,rfl,rfl,rfl,rfl,rfl,rfl,trivial⟩,hH⟩
      ·subst hc9
       refine wp_skip (then_n ?_)
       first
        | exact ⟨K1.set i true,true,hP.setK ht hki (his.1 rfl),.inl ((KT_set (by omega) i).2 (.inr rfl)),hS.live ⟨rfl,rfl,rfl,rfl,rfl,rfl,rfl,rfl,trivial⟩,hH⟩
        | exact ⟨K1,ag1,hP,.inl ((kt_some hki).2 rfl),hS.live ⟨rfl,rfl,rfl,rfl,rfl,rfl,rfl,rfl,trivial⟩,hH⟩
        | exact ⟨K1,ag1,hP,.inr ⟨fun l hl hn => absurd (his.2 (.inl ⟨l,hl,hn⟩)) (by decide),fun hr => absurd (his.2 (.inr hr)) (by decide)⟩,hS.live ⟨rfl,rfl,rfl,rfl,rfl,rfl,rfl,rfl,trivial⟩,hH⟩
     ·have hkf : ki = true:=by cases ki; cases hc3; rfl
      subst hkf
      refine wp_skip (then_n ?_)
      first
       | exact ⟨K1.set i true,true,hP.setK ht hki (his.1 rfl),.inl ((KT_set (by omega) i).2 (.inr rfl)),hS.live ⟨rfl,rfl,rfl,rfl,rfl,rfl,rfl,rfl,trivial⟩,hH⟩
       | exact ⟨K1,ag1,hP,.inl ((kt_some hki).2 rfl),hS.live ⟨rfl,rfl,rfl,rfl,rfl,rfl,rfl,rfl,trivial⟩,hH⟩
       | exact ⟨K1,ag1,hP,.inr ⟨fun l hl hn => absurd (his.2 (.inl ⟨l,hl,hn⟩)) (by decide),fun hr => absurd (his.2 (.inr hr)) (by decide)⟩,hS.live ⟨rfl,rfl,rfl,rfl,rfl,rfl,rfl,rfl,trivial⟩,hH⟩
    clear hS hH; intro a w hJ32; obtain ⟨K2,ag2,hP2,hJ,hS,hH⟩:=hJ32
    have hK2l:=hP2.r.len
    obtain ⟨ki2,hki2⟩ : ∃ k,K2[i]? = some k:=⟨_,List.getElem?_eq_getElem (by omega)⟩
    obtain ⟨ka2,hka2⟩ : ∃ k,K2[ia]? = some k:=⟨_,List.getElem?_eq_getElem (by omega)⟩
    refine c_seq (reg_plain w0 (Nobody) ?_)
    refine r_fieldAddr hS hH.kp0 rfl Fc.fo77_0 rfl (x_load_sc hH (by repeat' constructor) rfl (by repeat' constructor) Fc.sc3 (by rfl) rfl (x_eql hH.kp0 rfl rfl rfl ?_)); clear hS; intro a hS
    rcases hk6 : (t.kind == 6) with _ | _
    ·refine r_move hS hH.kp0 rfl rfl (Sq.xguardNo rfl rfl hk6 hH.kp0 rfl (Sq.xguardNo rfl rfl hk6 hH.kp0 rfl (Sq.xguardNo rfl rfl hk6 hH.kp0 rfl (Sq.xguardNo rfl rfl hk6 hH.kp0 rfl (x_pickF hH.kp0 rfl hk6 rfl rfl (x_move hH.kp0 rfl rfl (Sq.xguardNo rfl rfl rfl hH.kp0 rfl (Sq.xguardNo rfl rfl rfl hH.kp0 rfl (Sq.xguardNo rfl rfl rfl hH.kp0 rfl (Sq.xguardNo rfl rfl rfl hH.kp0 rfl (Sq.xguardNo rfl rfl rfl hH.kp0 rfl (x_pickF hH.kp0 rfl rfl rfl rfl (x_move hH.kp0 rfl rfl (Sq.xguardNo rfl rfl rfl hH.kp0 rfl (Sq.xguardNo rfl rfl rfl hH.kp0 rfl (Sq.xguardNo rfl rfl rfl hH.kp0 rfl (Sq.xguardNo rfl rfl rfl hH.kp0 rfl (Sq.xguardNo rfl rfl rfl hH.kp0 rfl (x_pickF hH.kp0 rfl rfl rfl rfl ?_))))))))))))))))))); clear hS; intro a hS
     refine Sq.nil (then_n (c_condF hS rfl rfl (wp_skip (blk_n (then_n (reg_plain w0 (Nobody) ?_))))))
     refine r_move hS hH.kp0 rfl rfl (x_add hH.kp0 rfl rfl rfl (by omega) (x_assign hH.kp0 rfl rfl ?_)); clear hS; intro a hS
     refine Sq.nil (then_n ?_)
     have hP3:=hP2.stay ht hJ (fun e6 ek ea => by first | exact absurd e6 (beq_eq_false_iff_ne.1 hk6) | exact absurd ((kt_some hki2).1 ek) (by decide) | exact absurd ((kt_some hka2).1 (by rw [hian] at ea; exact ea)) (by decide) | exact (kt_some hoi).2 rfl)
     exact ⟨m - 1,by omega,i + 1,K2,O1,TL1,_,_,ag2,by omega,hP3,(.inl ⟨rfl,rfl,htl0⟩),hS.live ⟨rfl,rfl,rfl,rfl,rfl,rfl,rfl,trivial⟩,(hH.less (List.Sublist.cons _ (List.Sublist.refl _)))⟩
    ·refine r_move hS hH.kp0 rfl rfl (Sq.xguardYes rfl rfl hk6 (x_move hH.kp0 rfl rfl (Sq.xguardYes rfl rfl hk6 (x_move hH.kp0 rfl rfl (Sq.xguardYes rfl rfl hk6 (x_indexAddrS (j:=i) hH.kp0 rfl rfl Fc.slb69 rfl (by omega) rfl (Sq.xguardYes rfl rfl hk6 ?_))))))); clear hS; intro a hS
     refine r_load_sc hS hH (by repeat' constructor) rfl (by repeat' constructor) Fc.sc4 (v:=.bool ki2) (by rw [nthV_eq,Nat.zero_add,Nat.mul_one]; exact bools_get hki2) rfl ?_; clear hS; intro a hS
     refine r_pickT hS hH.kp0 rfl hk6 rfl rfl ?_; clear hS; intro a hS
     rcases ki2 with _ | _
     ·refine r_move hS hH.kp0 rfl rfl (Sq.xguardNo rfl rfl rfl hH.kp0 rfl (Sq.xguardNo rfl rfl rfl hH.kp0 rfl (Sq.xguardNo rfl rfl rfl hH.kp0 rfl (Sq.xguardNo rfl rfl rfl hH.kp0 rfl (Sq.xguardNo rfl rfl rfl hH.kp0 rfl (x_pickF hH.kp0 rfl rfl rfl rfl (x_move hH.kp0 rfl rfl (Sq.xguardNo rfl rfl rfl hH.kp0 rfl (Sq.xguardNo rfl rfl rfl hH.kp0 rfl (Sq.xguardNo rfl rfl rfl hH.kp0 rfl (Sq.xguardNo rfl rfl rfl hH.kp0 rfl (Sq.xguardNo rfl rfl rfl hH.kp0 rfl (x_pickF hH.kp0 rfl rfl rfl rfl ?_))))))))))))); clear hS; intro a hS
      refine Sq.nil (then_n (c_condF hS rfl rfl (wp_skip (blk_n (then_n (reg_plain w0 (Nobody) ?_))))))
      refine r_move hS hH.kp0 rfl rfl (x_add hH.kp0 rfl rfl rfl (by omega) (x_assign hH.kp0 rfl rfl ?_)); clear hS; intro a hS
      refine Sq.nil (then_n ?_)
      have hP3:=hP2.stay ht hJ (fun e6 ek ea => by first | exact absurd e6 (beq_eq_false_iff_ne.1 hk6) | exact absurd ((kt_some hki2).1 ek) (by decide) | exact absurd ((kt_some hka2).1 (by rw [hian] at ea; exact ea)) (by decide) | exact (kt_some hoi).2 rfl)
      exact ⟨m - 1,by omega,i + 1,K2,O1,TL1,_,_,ag2,by omega,hP3,(.inl ⟨rfl,rfl,htl0⟩),hS.live ⟨rfl,rfl,rfl,rfl,rfl,rfl,rfl,trivial⟩,(hH.less (List.Sublist.cons _ (List.Sublist.refl _)))⟩
     ·refine r_move hS hH.kp0 rfl rfl (Sq.xguardYes rfl rfl rfl (x_move hH.kp0 rfl rfl (Sq.xguardYes rfl rfl rfl (x_fieldAddr hH.kp0 rfl Fc.fo77_1 rfl (Sq.xguardYes rfl rfl rfl (x_load_sc hH (by repeat' constructor) rfl (by repeat' constructor) Fc.sc3 (by rfl) rfl (Sq.xguardYes rfl rfl rfl (x_indexAddrS (j:=ia) hH.kp0 rfl rfl Fc.slb69 hta (by omega) rfl (Sq.xguardYes rfl rfl rfl ?_))))))))); clear hS; intro a hS
      refine r_load_sc hS hH (by repeat' constructor) rfl (by repeat' constructor) Fc.sc4 (v:=.bool ka2) (by rw [nthV_eq,Nat.zero_add,Nat.mul_one]; exact bools_get hka2) rfl ?_; clear hS; intro a hS
      refine r_pickT hS hH.kp0 rfl rfl rfl rfl ?_; clear hS; intro a hS
      rcases ka2 with _ | _
      ·refine r_move hS hH.kp0 rfl rfl (Sq.xguardNo rfl rfl rfl hH.kp0 rfl (Sq.xguardNo rfl rfl rfl hH.kp0 rfl (Sq.xguardNo rfl rfl rfl hH.kp0 rfl (Sq.xguardNo rfl rfl rfl hH.kp0 rfl (Sq.xguardNo rfl rfl rfl hH.kp0 rfl (x_pickF hH.kp0 rfl rfl rfl rfl ?_)))))); clear hS; intro a hS
       refine Sq.nil (then_n (c_condF hS rfl rfl (wp_skip (blk_n (then_n (reg_plain w0 (Nobody) ?_))))))
       refine r_move hS hH.kp0 rfl rfl (x_add hH.kp0 rfl rfl rfl (by omega) (x_assign hH.kp0 rfl rfl ?_)); clear hS; intro a hS
       refine Sq.nil (then_n ?_)
       have hP3:=hP2.stay ht hJ (fun e6 ek ea => by first | exact absurd e6 (beq_eq_false_iff_ne.1 hk6) | exact absurd ((kt_some hki2).1 ek) (by decide) | exact absurd ((kt_some hka2).1 (by rw [hian] at ea; exact ea)) (by decide) | exact (kt_some hoi).2 rfl)
       exact ⟨m - 1,by omega,i + 1,K2,O1,TL1,_,_,ag2,by omega,hP3,(.inl ⟨rfl,rfl,htl0⟩),hS.live ⟨rfl,rfl,rfl,rfl,rfl,rfl,rfl,trivial⟩,(hH.less (List.Sublist.cons _ (List.Sublist.refl _)))⟩
      ·refine r_move hS hH.kp0 rfl rfl (Sq.xguardYes rfl rfl rfl (x_move hH.kp0 rfl rfl (Sq.xguardYes rfl rfl rfl (x_move hH.kp0 rfl rfl (Sq.xguardYes rfl rfl rfl (x_indexAddrS (j:=i) hH.kp0 rfl rfl Fc.slb69 rfl (by omega) rfl (Sq.xguardYes rfl rfl rfl ?_))))))); clear hS; intro a hS
       refine r_load_sc hS hH (by repeat' constructor) rfl (by repeat' constructor) Fc.sc4 (v:=.bool oi) (by rw [nthV_eq,Nat.zero_add,Nat.mul_one]; exact bools_get hoi) rfl ?_; clear hS; intro a hS
       refine Sq.guardYes hS rfl rfl rfl (r_not hS hH.kp0 rfl rfl ?_); clear hS; intro a hS
       rcases oi with _ | _
       ·refine r_pickT hS hH.kp0 rfl rfl rfl rfl ?_; clear hS; intro a hS
        refine Sq.nil (then_n (c_condT hS rfl rfl (c_seq (reg_plain w0 (Nobody) ?_))))
        refine r_move hS hH.kp0 rfl rfl (x_move hH.kp0 rfl rfl (x_indexAddrS (j:=i) hH.kp0 rfl rfl Fc.slb69 rfl (by omega) rfl ?_)); clear hS; intro a hS
        refine r_store1 hS hH rfl rfl rfl (by repeat' constructor) (by repeat' constructor) Fc.sz4 (by rw [bools_len]; omega) (.inr (by assumption)) ?_; clear hH; intro w hH
        rw [spl_bools (by omega)] at hH
        refine Sq.nil (then_n (c_seq (reg_plain w0 (Nobody) ?_)))
        refine r_move hS hH.kp0 rfl rfl (x_fieldAddr hH.kp0 rfl Fc.fo77_6 rfl (x_load_sc hH (by repeat' constructor) rfl (by repeat' constructor) Fc.sc9 (by rfl) rfl ?_)); clear hS; intro a hS
        refine r_buildSlice (parts:=[(0,.tmp 143)]) hS hH (by repeat' constructor) rfl Fc.bsl115_1 (by rfl) rfl ?_
        clear hS hH; intro a w b144 hb144 hwb144 hS hH
        refine r_append_nil hS hH (by repeat' constructor) rfl rfl Fc.el115 Fc.ni115 (src_str (hH.get .here)) (by decide) (by decide) rfl ?_
        clear hS hH; intro a w ub ucap ul hub huw hul huc hut huE hS hH
        have hub0:=hub
        refine r_assign hS hH.kp0 rfl rfl ?_; clear hS; intro a hS
        refine Sq.nil (then_n (reg_plain w0 (Nobody) ?_))
        refine r_assign hS hH.kp0 rfl rfl ?_; clear hS; intro a hS
        refine Sq.nil (blk_n (then_n (reg_plain w0 (Nobody) ?_)))
        refine r_move hS hH.kp0 rfl rfl (x_add hH.kp0 rfl rfl rfl (by omega) (x_assign hH.kp0 rfl rfl ?_)); clear hS; intro a hS
        refine Sq.nil (then_n ?_)
        have hut2:=hut
        rw [←strOf_byt t] at hut2
        have hT9 : TXT w0 9 (.slice (some ⟨ub,0,none⟩) (1) ucap) (TL1++[byt t]) _:=TXT.blk hub0 (by rw [htl0]; rfl) hul huc (by have h9:=hut2; rw [Nat.mul_one] at h9; rw [h9,htl0]; rfl)
        have hP3:=hP2.setO ht (beq_iff_eq.1 hk6) ((kt_some hki2).2 rfl) (by rw [hian]; exact (kt_some hka2).2 rfl) hoi (by rw [byt_len]; exact hwf.sz i t ht)
        exact ⟨m - 1,by omega,i + 1,K2,O1.set i true,TL1++[byt t],_,_,true,by omega,hP3,hT9,hS.live ⟨rfl,rfl,rfl,rfl,rfl,rfl,rfl,trivial⟩,(hH.less (List.Sublist.cons_cons _ (List.Sublist.cons _ (List.Sublist.cons _ (List.Sublist.refl _))))).rot⟩
       ·refine r_pickT hS hH.kp0 rfl rfl rfl rfl ?_; clear hS; intro a hS
        refine Sq.nil (then_n (c_condF hS rfl rfl (wp_skip (blk_n (then_n (reg_plain w0 (Nobody) ?_))))))
        refine r_move hS hH.kp0 rfl rfl (x_add hH.kp0 rfl rfl rfl (by omega) (x_assign hH.kp0 rfl rfl ?_)); clear hS; intro a hS
        refine Sq.nil (then_n ?_)
        have hP3:=hP2.stay ht hJ (fun e6 ek ea => by first | exact absurd e6 (beq_eq_false_iff_ne.1 hk6) | exact absurd ((kt_some hki2).1 ek) (by decide) | exact absurd ((kt_some hka2).1 (by rw [hian] at ea; exact ea)) (by decide) | exact (kt_some hoi).2 rfl)
        exact ⟨m - 1,by omega,i + 1,K2,O1,TL1,_,_,ag2,by omega,hP3,(.inl ⟨rfl,rfl,htl0⟩),hS.live ⟨rfl,rfl,rfl,rfl,rfl,rfl,rfl,trivial⟩,(hH.less (List.Sublist.cons _ (List.Sublist.refl _)))⟩
   ·have hge2 : i = ts.length:=by have:=of_decide_eq_false hc2; omega
    subst hge2
    have hcl:=cnt2_le hP.r.len hP.r.lenO
    refine wp_exit (then_e (then_e (blk_hit (blk_n (then_n ?_)))))
    have hcl0:=cnt2_le hR.len hR.lenO
    refine ⟨2 * (2 * ts.length - (cnt K1 + cnt O1)) + (if ag1 = true then 1 else 0),?_,K1,O1,TL1,_,_,ag1,rfl,hP.r,fun e => by subst e; exact hP.knows,(by first | exact .inl ⟨rfl,rfl,htl0⟩ | exact .inr ⟨tb,tcap,row,rfl,rfl,htb,htl,htc,htt⟩),hS.live ⟨rfl,rfl,rfl,rfl,rfl,rfl,trivial⟩,hH⟩
    have hle9:=hP.le
    rcases ag1 with _ | _
    ·rw [hm1]; simp only [Bool.false_eq_true,if_false]; simp; omega
    ·have hy9:=hP.yes rfl; rw [hm1]; simp; omega
  ·refine c_seq (c_seq (reg_plain w0 (Nobody) ?_))
   refine r_move hS hH.kp0 rfl rfl (x_move hH.kp0 rfl rfl (x_nilCheck hH.kp0 rfl rfl (x_fieldAddr hH.kp0 rfl Fc.fo80_0 rfl (x_load_sc hH (by repeat' constructor) rfl (by repeat' constructor) Fc.sc78 (by rfl) rfl (x_lenSl hH.kp0 rfl Fc.isSlice78 rfl (x_lss hH.kp0 rfl rfl rfl ?_)))))); clear hS; intro a hS
   refine Sq.nil (then_n ?_)
   refine c_cond hS rfl (fun hc2 => ?_) (fun hc2 => ?_)
   ·have hlt2 : i < ts.length:=by have:=of_decide_eq_true hc2; omega
    obtain ⟨t,ht⟩ : ∃ t,ts[i]? = some t:=⟨_,List.getElem?_eq_getElem hlt2⟩
    have hrow:=hri.ok.row ht
    obtain ⟨hwa1,hwa2⟩:=hwf.a i t ht
    obtain ⟨hwb1,hwb2⟩:=hwf.b i t ht
    obtain ⟨ia,hta⟩:=Int.eq_ofNat_of_zero_le hwa1
    obtain ⟨ib,htb_⟩:=Int.eq_ofNat_of_zero_le hwb1
    have hian : t.a.toNat = ia:=by omega
    have hibn : t.b.toNat = ib:=by omega
    have hK1l:=hP.r.len
    have hO1l:=hP.r.lenO
    have htl9:=hP.r.tll
    have hco9:=cnt_le O1
    obtain ⟨ka,hka⟩ : ∃ k,K1[ia]? = some k:=⟨_,List.getElem?_eq_getElem (by omega)⟩
    obtain ⟨kb_,hkb_⟩ : ∃ k,K1[ib]? = some k:=⟨_,List.getElem?_eq_getElem (by omega)⟩
    obtain ⟨ki,hki⟩ : ∃ k,K1[i]? = some k:=⟨_,List.getElem?_eq_getElem (by omega)⟩
    obtain ⟨oi,hoi⟩ : ∃ k,O1[i]? = some k:=⟨_,List.getElem?_eq_getElem (by omega)⟩
    have hKa : KT K1 t.a.toNat↔ka = true:=by rw [hian]; exact kt_some hka
    have hKb : KT K1 t.b.toNat↔kb_ = true:=by rw [hibn]; exact kt_some hkb_
    refine wp_skip (then_n (c_seq (wp_block (c_seq (reg_plain w0 (Nobody) ?_)))))
    refine r_move hS hH.kp0 rfl rfl (x_nilCheck hH.kp0 rfl rfl (x_fieldAddr hH.kp0 rfl Fc.fo80_0 rfl (x_load_sc hH (by repeat' constructor) rfl (by repeat' constructor) Fc.sc78 (by rfl) rfl (x_move hH.kp0 rfl rfl (x_indexAddrS (j:=i) hH.kp0 rfl rfl Fc.slb78 rfl (by omega) rfl ?_))))); clear hS; intro a hS
    refine r_load_at (vs:=rcells t) hS hH (by repeat' constructor) rfl (by repeat' constructor) Fc.ag77 (by rw [Nat.zero_add]; exact hrow.2) (by rw [Nat.zero_add]; exact hrow.1) rfl ?_; clear hS; intro a hS
    refine r_alloc hS hH (by repeat' constructor) Fc.zc77 rfl ?_
    clear hS hH; intro a w b11 hb11 hwb11 hS hH
    refine r_store_row (vs:=rcells t) hS hH rfl rfl (by repeat' constructor) (by repeat' constructor) Fc.sz77 (rcells_one t) (by rfl) (.inr (by assumption)) ?_; clear hH; intro w hH
    refine Sq.nil (then_n ?_)
    refine c_cut (fun a w => ∃ (K2 : List Bool) (ag2 : Bool),KP ts ls K O TL K2 O1 TL1 ag2 i∧(KT K2 i∨((∀ l∈TL1,¬ HasN l i)∧¬ Rch (KT K2) t))∧St 147 (lv [(0,.pointer (some ⟨b,0,none⟩)),(4,.slice none 0 0),(5,.slice (some ⟨kb,0,none⟩) ts.length ts.length),(6,.slice (some ⟨tb,0,none⟩) TL1.length tcap),(8,.slice (some ⟨ob,0,none⟩) ts.length ts.length),(9,.bool ag2),(10,.int .i64 (i : Int)),(11,.pointer (some ⟨b11,0,none⟩))]) a∧Hp w0 Nobody ((b11,.cells (rcells t).toArray 77 (0,0)) :: (ob,.cells (bools O1).toArray 4 (0,0)) :: (kb,.cells (bools K2).toArray 4 (0,0)) :: (b,.cells (V.top ts.length).toArray 80 (0,0)) :: (V.sb,.cells V.l.toArray 77 (0,0)) :: [(tb,.cells row.toArray 9 (0,0))]) w) ?_ ?_
    ·refine c_seq (reg_plain w0 (Nobody) ?_)
     refine r_move hS hH.kp0 rfl rfl (x_move hH.kp0 rfl rfl (x_indexAddrS (j:=i) hH.kp0 rfl rfl Fc.slb69 rfl (by omega) rfl ?_)); clear hS; intro a hS
     refine r_load_sc hS hH (by repeat' constructor) rfl (by repeat' constructor) Fc.sc4 (v:=.bool ki) (by rw [nthV_eq,Nat.zero_add,Nat.mul_one]; exact bools_get hki) rfl ?_; clear hS; intro a hS
     refine r_not hS hH.kp0 rfl rfl ?_; clear hS; intro a hS
     refine Sq.nil (then_n ?_)
     refine c_cond hS rfl (fun hc3 => ?_) (fun hc3 => ?_)
     ·have hkf : ki = false:=by cases ki; rfl; cases hc3
      subst hkf
      refine c_seq (reg_plain w0 (Nobody) ?_)
      refine r_assign hS hH.kp0 rfl rfl ?_; clear hS; intro a hS
      refine Sq.nil (then_n ?_)
      refine c_cut (fun a w => ∃ is : Bool,(is = true↔∃ l∈TL1,HasN l i)∧St 147 (lv [(0,.pointer (some ⟨b,0,none⟩)),(4,.slice none 0 0),(5,.slice (some ⟨kb,0,none⟩) ts.length ts.length),(6,.slice (some ⟨tb,0,none⟩) TL1.length tcap),(8,.slice (some ⟨ob,0,none⟩) ts.length ts.length),(9,.bool ag1),(10,.int .i64 (i : Int)),(11,.pointer (some ⟨b11,0,none⟩)),(12,.bool is)]) a∧Hp w0 Nobody ((b11,.cells (rcells t).toArray 77 (0,0)) :: (ob,.cells (bools O1).toArray 4 (0,0)) :: (kb,.cells (bools K1).toArray 4 (0,0)) :: (b,.cells (V.top ts.length).toArray 80 (0,0)) :: (V.sb,.cells V.l.toArray 77 (0,0)) :: [(tb,.cells row.toArray 9 (0,0))]) w) ?_ ?_
      ·refine c_seq (reg_plain w0 (Nobody) ?_)
       refine r_assign hS hH.kp0 rfl rfl ?_; clear hS; intro a hS
       refine Sq.nil (then_n (wp_block ?_))
       refine c_loop (fun m3 a w => ∃ (q : Nat) (is : Bool),m3 + q = TL1.length∧(is = true↔∃ l∈TL1.take q,HasN l i)∧St 147 (lv [(0,.pointer (some ⟨b,0,none⟩)),(4,.slice none 0 0),(5,.slice (some ⟨kb,0,none⟩) ts.length ts.length),(6,.slice (some ⟨tb,0,none⟩) TL1.length tcap),(8,.slice (some ⟨ob,0,none⟩) ts.length ts.length),(9,.bool ag1),(10,.int .i64 (i : Int)),(11,.pointer (some ⟨b11,0,none⟩)),(12,.bool is),(13,.int .i64 (q : Int))]) a∧Hp w0 Nobody ((b11,.cells (rcells t).toArray 77 (0,0)) :: (ob,.cells (bools O1).toArray 4 (0,0)) :: (kb,.cells (bools K1).toArray 4 (0,0)) :: (b,.cells (V.top ts.length).toArray 80 (0,0)) :: (V.sb,.cells V.l.toArray 77 (0,0)) :: [(tb,.cells row.toArray 9 (0,0))]) w) (TL1.length) ?_ ?_
       ·exact ⟨0,false,rfl,⟨fun h => (by cases h),fun ⟨l,hl,_⟩ => by simp at hl⟩,hS.live ⟨rfl,rfl,rfl,rfl,rfl,rfl,rfl,rfl,rfl,rfl,trivial⟩,hH⟩
       clear hS hH; intro m3 a w hI; obtain ⟨q,is,hm3,his,hS,hH⟩:=hI
       refine c_seq (c_seq (reg_plain w0 (Nobody) ?_))
       refine r_move hS hH.kp0 rfl rfl (x_move hH.kp0 rfl rfl (x_lenSl hH.kp0 rfl Fc.isSlice115 rfl (x_lss hH.kp0 rfl rfl rfl ?_))); clear hS; intro a hS
       refine Sq.nil (then_n ?_)
       refine c_cond hS rfl (fun hc4 => ?_) (fun hc4 => ?_)
       ·have hlt3 : q < TL1.length:=by have:=of_decide_eq_true hc4; omega
        obtain ⟨l,hlq⟩ : ∃ l,TL1[q]? = some l:=⟨_,List.getElem?_eq_getElem hlt3⟩
        have hlbig:=hP.r.big l (List.mem_of_getElem? hlq)
        refine wp_skip (then_n (c_seq (wp_block ?_)))
        refine reg_draw [(true,0,[]),(true,1,[]),(true,2,[]),(true,4,[]),(true,5,[]),(true,6,[]),(true,7,[]),(false,3,[]),(false,8,[]),(true,9,[]),(true,10,[])] Fc.mixed (by kernel_rfl) (by kernel_rfl) (by kernel_rfl) (by kernel_rfl) (by kernel_rfl) (by repeat (first | with_reducible exact steady_body | with_reducible apply steady_block | with_reducible apply steady_then | with_reducible apply steady_scope | exact steady_body)) hH ?_
        replace hH:=hH.drew
        refine r_move hS trivial rfl rfl (x_move trivial rfl rfl ?_); clear hS; intro a hS
        rcases is with _ | _
        ·refine Sq.guardYes hS rfl rfl rfl (r_move hS trivial rfl rfl (Sq.xguardYes rfl rfl rfl (x_move trivial rfl rfl (Sq.xguardYes rfl rfl rfl (x_move trivial rfl rfl (Sq.xguardYes rfl rfl rfl (x_indexAddrS (j:=q) trivial rfl rfl Fc.slb115 rfl (by omega) rfl (Sq.xguardYes rfl rfl rfl (x_load_scS rfl (by repeat' constructor) Fc.sc9 (v:=.string (strOf l)) (strs_nth htt hlq) rfl (Sq.xguardYes rfl rfl rfl ?_)))))))))); clear hS; intro a hS
         refine r_call (l:=[.tmp 72]) hS rfl rfl Fc.fn20 rfl ?_
         refine Calls.mono (rname_c i (by omega) _) ?_
         rintro e w1 ⟨h,rfl,hqy,hE⟩
         obtain ⟨y0,y1,y2,y3,y4,y5,y6,y7,y8,y9,ya,yb,yc,yd,ye,yf,rfl⟩:=len16 (h:=h) (by rw [hqy]; rfl)
         replace hH:=hH.ext hE
         refine ⟨_,rfl,hH.kp (by repeat' constructor),?_⟩
         clear hS; intro a hS
         refine Sq.guardYes hS rfl rfl rfl ?_
         refine r_call (l:=[.tmp 73,.tmp 77]) hS rfl rfl Fc.fn62 rfl ?_
         refine Calls.mono (rin_c [y0,y1,y2,y3,y4,y5,y6,y7,y8,y9,ya,yb,yc,yd,ye,yf] rfl l hlbig _) ?_
         rintro e w1 ⟨rr,rfl,hrr,hE⟩
         replace hH:=hH.ext hE
         refine ⟨_,rfl,hH.kp (by repeat' constructor),?_⟩
         clear hS; intro a hS
         refine r_pickF hS trivial rfl rfl rfl rfl (x_assign trivial rfl rfl ?_); clear hS; intro a hS
         refine Sq.nil (blk_n (then_n (reg_plain w0 (Nobody) ?_)))
         refine r_move hS hH.kp0 rfl rfl (x_add hH.kp0 rfl rfl rfl (by omega) (x_assign hH.kp0 rfl rfl ?_)); clear hS; intro a hS
         refine Sq.nil (then_n ?_)
         have hrn : rr = true↔HasN l i:=by rw [hqy] at hrr; exact hrr
         refine ⟨m3 - 1,by omega,q + 1,rr,by omega,?_,hS.live ⟨rfl,rfl,rfl,rfl,rfl,rfl,rfl,rfl,rfl,rfl,trivial⟩,hH⟩
         rw [hasn_take hlq,hrn]
         exact ⟨.inr,fun h => h.elim (fun h9 => absurd (his.2 h9) (by decide)) id⟩
        ·refine Sq.guardNo hS rfl rfl rfl trivial rfl (Sq.xguardNo rfl rfl rfl trivial rfl (Sq.xguardNo rfl rfl rfl trivial rfl (Sq.xguardNo rfl rfl rfl trivial rfl (Sq.xguardNo rfl rfl rfl trivial rfl (Sq.xguardNo rfl rfl rfl (hH.kp (by repeat' constructor)) rfl (Sq.xguardNo rfl rfl rfl (hH.kp (by repeat' constructor)) rfl (x_pickT trivial rfl rfl rfl rfl (x_assign trivial rfl rfl ?_)))))))); clear hS; intro a hS
         refine Sq.nil (blk_n (then_n (reg_plain w0 (Nobody) ?_)))
         refine r_move hS hH.kp0 rfl rfl (x_add hH.kp0 rfl rfl rfl (by omega) (x_assign hH.kp0 rfl rfl ?_)); clear hS; intro a hS
         refine Sq.nil (then_n ?_)
         refine ⟨m3 - 1,by omega,q + 1,true,by omega,?_,hS.live ⟨rfl,rfl,rfl,rfl,rfl,rfl,rfl,rfl,rfl,rfl,trivial⟩,hH⟩
         rw [hasn_take hlq]
         exact ⟨fun _ => .inl (his.1 rfl),fun _ => rfl⟩
       ·have hge3 : q = TL1.length:=by have:=of_decide_eq_false hc4; omega
        subst hge3
        rw [List.take_length] at his
        refine wp_exit (then_e (then_e (blk_hit (then_n ?_))))
        exact ⟨is,his,hS.live ⟨rfl,rfl,rfl,rfl,rfl,rfl,rfl,rfl,rfl,trivial⟩,hH⟩
      clear hS hH; intro a w hJ22; obtain ⟨is,his,hS,hH⟩:=hJ22
      refine c_cut (fun a w => ∃ is : Bool,(is = true↔(∃ l∈TL1,HasN l i)∨Rch (KT K1) t)∧St 147 (lv [(0,.pointer (some ⟨b,0,none⟩)),(4,.slice none 0 0),(5,.slice (some ⟨kb,0,none⟩) ts.length ts.length),(6,.slice (some ⟨tb,0,none⟩) TL1.length tcap),(8,.slice (some ⟨ob,0,none⟩) ts.length ts.length),(9,.bool ag1),(10,.int .i64 (i : Int)),(11,.pointer (some ⟨b11,0,none⟩)),(12,.bool is)]) a∧Hp w0 Nobody ((b11,.cells (rcells t).toArray 77 (0,0)) :: (ob,.cells (bools O1).toArray 4 (0,0)) :: (kb,.cells (bools K1).toArray 4 (0,0)) :: (b,.cells (V.top ts.length).toArray 80 (0,0)) :: (V.sb,.cells V.l.toArray 77 (0,0)) :: [(tb,.cells row.toArray 9 (0,0))]) w) ?_ ?_
      ·refine c_seq (reg_plain w0 (Nobody) ?_)
       refine r_fieldAddr hS hH.kp0 rfl Fc.fo77_0 rfl (x_load_sc hH (by repeat' constructor) rfl (by repeat' constructor) Fc.sc3 (by rfl) rfl ?_); clear hS; intro a hS
       refine Sq.nil (then_n (wp_block (c_seq (c_seq (reg_plain w0 (Nobody) ?_)))))
       rcases (by omega : t.kind = 2∨t.kind = 3∨t.kind = 5∨t.kind = 4∨(t.kind≠2∧t.kind≠3∧t.kind≠5∧t.kind≠4)) with hk | hk | hk | hk | hk
       ·refine r_eql hS hH.kp0 rfl rfl rfl (x_assign hH.kp0 rfl rfl ?_); clear hS; intro a hS
        refine Sq.nil (then_n ?_)
        refine c_condT hS rfl (beq_iff_eq.2 hk) ?_
        refine wp_skip (then_n ?_)
        refine c_condT hS rfl (beq_iff_eq.2 hk) ?_
        refine reg_plain w0 (Nobody) ?_
        refine r_move hS hH.kp0 rfl rfl (x_move hH.kp0 rfl rfl ?_); clear hS; intro a hS
        rcases is with _ | _
        ·refine Sq.guardYes hS rfl rfl rfl (r_move hS hH.kp0 rfl rfl (Sq.xguardYes rfl rfl rfl (x_fieldAddr hH.kp0 rfl Fc.fo77_1 rfl (Sq.xguardYes rfl rfl rfl (x_load_sc hH (by repeat' constructor) rfl (by repeat' constructor) Fc.sc3 (by rfl) rfl (Sq.xguardYes rfl rfl rfl (x_indexAddrS (j:=ia) hH.kp0 rfl rfl Fc.slb69 hta (by omega) rfl (Sq.xguardYes rfl rfl rfl ?_)))))))); clear hS; intro a hS
         refine r_load_sc hS hH (by repeat' constructor) rfl (by repeat' constructor) Fc.sc4 (v:=.bool ka) (by rw [nthV_eq,Nat.zero_add,Nat.mul_one]; exact bools_get hka) rfl ?_; clear hS; intro a hS
         refine r_pickF hS hH.kp0 rfl rfl rfl rfl (x_assign hH.kp0 rfl rfl ?_); clear hS; intro a hS
         refine Sq.nil (blk_n (then_n ?_))
         exact ⟨_,(rch_is his hKa hKb).1 (.inl hk),hS.live ⟨rfl,rfl,rfl,rfl,rfl,rfl,rfl,rfl,rfl,trivial⟩,hH⟩
        ·refine Sq.guardNo hS rfl rfl rfl hH.kp0 rfl (Sq.xguardNo rfl rfl rfl hH.kp0 rfl (Sq.xguardNo rfl rfl rfl hH.kp0 rfl (Sq.xguardNo rfl rfl rfl hH.kp0 rfl (Sq.xguardNo rfl rfl rfl hH.kp0 rfl (x_pickT hH.kp0 rfl rfl rfl rfl (x_assign hH.kp0 rfl rfl ?_)))))); clear hS; intro a hS
         refine Sq.nil (blk_n (then_n ?_))
         exact ⟨_,(rch_is his hKa hKb).1 (.inl hk),hS.live ⟨rfl,rfl,rfl,rfl,rfl,rfl,rfl,rfl,rfl,trivial⟩,hH⟩
       ·refine r_eql hS hH.kp0 rfl rfl rfl (x_assign hH.kp0 rfl rfl ?_); clear hS; intro a hS
        refine Sq.nil (then_n ?_)
        refine c_condF hS rfl (beq_false_of_ne (by omega)) ?_
        refine c_seq (reg_plain w0 (Nobody) ?_)
        refine r_eql hS hH.kp0 rfl rfl rfl (x_assign hH.kp0 rfl rfl ?_); clear hS; intro a hS
        refine Sq.nil (then_n ?_)
        refine c_condT hS rfl (beq_iff_eq.2 hk) ?_
        refine wp_skip (then_n ?_)
        refine c_condT hS rfl (beq_iff_eq.2 hk) ?_
        refine reg_plain w0 (Nobody) ?_
        refine r_move hS hH.kp0 rfl rfl (x_move hH.kp0 rfl rfl ?_); clear hS; intro a hS
        rcases is with _ | _
        ·refine Sq.guardYes hS rfl rfl rfl (r_move hS hH.kp0 rfl rfl (Sq.xguardYes rfl rfl rfl (x_fieldAddr hH.kp0 rfl Fc.fo77_1 rfl (Sq.xguardYes rfl rfl rfl (x_load_sc hH (by repeat' constructor) rfl (by repeat' constructor) Fc.sc3 (by rfl) rfl (Sq.xguardYes rfl rfl rfl (x_indexAddrS (j:=ia) hH.kp0 rfl rfl Fc.slb69 hta (by omega) rfl (Sq.xguardYes rfl rfl rfl ?_)))))))); clear hS; intro a hS
         refine r_load_sc hS hH (by repeat' constructor) rfl (by repeat' constructor) Fc.sc4 (v:=.bool ka) (by rw [nthV_eq,Nat.zero_add,Nat.mul_one]; exact bools_get hka) rfl ?_; clear hS; intro a hS
         refine r_pickF hS hH.kp0 rfl rfl rfl rfl (x_assign hH.kp0 rfl rfl ?_); clear hS; intro a hS
         refine Sq.nil (blk_n (then_n ?_))
         exact ⟨_,(rch_is his hKa hKb).1 (.inr (.inl hk)),hS.live ⟨rfl,rfl,rfl,rfl,rfl,rfl,rfl,rfl,rfl,trivial⟩,hH⟩
        ·refine Sq.guardNo hS rfl rfl rfl hH.kp0 rfl (Sq.xguardNo rfl rfl rfl hH.kp0 rfl (Sq.xguardNo rfl rfl rfl hH.kp0 rfl (Sq.xguardNo rfl rfl rfl hH.kp0 rfl (Sq.xguardNo rfl rfl rfl hH.kp0 rfl (x_pickT hH.kp0 rfl rfl rfl rfl (x_assign hH.kp0 rfl rfl ?_)))))); clear hS; intro a hS
         refine Sq.nil (blk_n (then_n ?_))
         exact ⟨_,(rch_is his hKa hKb).1 (.inr (.inl hk)),hS.live ⟨rfl,rfl,rfl,rfl,rfl,rfl,rfl,rfl,rfl,trivial⟩,hH⟩
       ·refine r_eql hS hH.kp0 rfl rfl rfl (x_assign hH.kp0 rfl rfl ?_); clear hS; intro a hS
        refine Sq.nil (then_n ?_)
        refine c_condF hS rfl (beq_false_of_ne (by omega)) ?_
        refine c_seq (reg_plain w0 (Nobody) ?_)
        refine r_eql hS hH.kp0 rfl rfl rfl (x_assign hH.kp0 rfl rfl ?_); clear hS; intro a hS
        refine Sq.nil (then_n ?_)
        refine c_condF hS rfl (beq_false_of_ne (by omega)) ?_
        refine reg_plain w0 (Nobody) ?_
        refine r_eql hS hH.kp0 rfl rfl rfl (x_assign hH.kp0 rfl rfl ?_); clear hS; intro a hS
        refine Sq.nil (then_n ?_)
        refine c_condT hS rfl (beq_iff_eq.2 hk) ?_
        refine reg_plain w0 (Nobody) ?_
        refine r_move hS hH.kp0 rfl rfl (x_move hH.kp0 rfl rfl ?_); clear hS; intro a hS
        rcases is with _ | _
        ·refine Sq.guardYes hS rfl rfl rfl (r_move hS hH.kp0 rfl rfl (Sq.xguardYes rfl rfl rfl (x_fieldAddr hH.kp0 rfl Fc.fo77_1 rfl (Sq.xguardYes rfl rfl rfl (x_load_sc hH (by repeat' constructor) rfl (by repeat' constructor) Fc.sc3 (by rfl) rfl (Sq.xguardYes rfl rfl rfl (x_indexAddrS (j:=ia) hH.kp0 rfl rfl Fc.slb69 hta (by omega) rfl (Sq.xguardYes rfl rfl rfl ?_)))))))); clear hS; intro a hS
         refine r_load_sc hS hH (by repeat' constructor) rfl (by repeat' constructor) Fc.sc4 (v:=.bool ka) (by rw [nthV_eq,Nat.zero_add,Nat.mul_one]; exact bools_get hka) rfl ?_; clear hS; intro a hS
         refine r_pickF hS hH.kp0 rfl rfl rfl rfl (x_assign hH.kp0 rfl rfl ?_); clear hS; intro a hS
         refine Sq.nil (blk_n (then_n ?_))
         exact ⟨_,(rch_is his hKa hKb).1 (.inr (.inr hk)),hS.live ⟨rfl,rfl,rfl,rfl,rfl,rfl,rfl,rfl,rfl,trivial⟩,hH⟩
        ·refine Sq.guardNo hS rfl rfl rfl hH.kp0 rfl (Sq.xguardNo rfl rfl rfl hH.kp0 rfl (Sq.xguardNo rfl rfl rfl hH.kp0 rfl (Sq.xguardNo rfl rfl rfl hH.kp0 rfl (Sq.xguardNo rfl rfl rfl hH.kp0 rfl (x_pickT hH.kp0 rfl rfl rfl rfl (x_assign hH.kp0 rfl rfl ?_)))))); clear hS; intro a hS
         refine Sq.nil (blk_n (then_n ?_))
         exact ⟨_,(rch_is his hKa hKb).1 (.inr (.inr hk)),hS.live ⟨rfl,rfl,rfl,rfl,rfl,rfl,rfl,rfl,rfl,trivial⟩,hH⟩
       ·refine r_eql hS hH.kp0 rfl rfl rfl (x_assign hH.kp0 rfl rfl ?_); clear hS; intro a hS
        refine Sq.nil (then_n ?_)
        refine c_condF hS rfl (beq_false_of_ne (by omega)) ?_
        refine c_seq (reg_plain w0 (Nobody) ?_)
        refine r_eql hS hH.kp0 rfl rfl rfl (x_assign hH.kp0 rfl rfl ?_); clear hS; intro a hS
        refine Sq.nil (then_n ?_)
        refine c_condF hS rfl (beq_false_of_ne (by omega)) ?_
        refine reg_plain w0 (Nobody) ?_
        refine r_eql hS hH.kp0 rfl rfl rfl (x_assign hH.kp0 rfl rfl ?_); clear hS; intro a hS
        refine Sq.nil (then_n ?_)
        refine c_condF hS rfl (beq_false_of_ne (by omega)) ?_
        refine c_seq (reg_plain w0 (Nobody) ?_)
        refine r_eql hS hH.kp0 rfl rfl rfl (x_assign hH.kp0 rfl rfl ?_); clear hS; intro a hS
        refine Sq.nil (then_n ?_)
        refine c_condT hS rfl (beq_iff_eq.2 hk) ?_
        refine reg_plain w0 (Nobody) ?_
        refine r_move hS hH.kp0 rfl rfl (x_move hH.kp0 rfl rfl ?_); clear hS; intro a hS
        rcases is with _ | _
        ·refine Sq.guardYes hS rfl rfl rfl (r_move hS hH.kp0 rfl rfl (Sq.xguardYes rfl rfl rfl (x_fieldAddr hH.kp0 rfl Fc.fo77_1 rfl (Sq.xguardYes rfl rfl rfl (x_load_sc hH (by repeat' constructor) rfl (by repeat' constructor) Fc.sc3 (by rfl) rfl (Sq.xguardYes rfl rfl rfl (x_indexAddrS (j:=ia) hH.kp0 rfl rfl Fc.slb69 hta (by omega) rfl (Sq.xguardYes rfl rfl rfl ?_)))))))); clear hS; intro a hS
         refine r_load_sc hS hH (by repeat' constructor) rfl (by repeat' constructor) Fc.sc4 (v:=.bool ka) (by rw [nthV_eq,Nat.zero_add,Nat.mul_one]; exact bools_get hka) rfl ?_; clear hS; intro a hS
         refine r_pickF hS hH.kp0 rfl rfl rfl rfl ?_; clear hS; intro a hS
         rcases ka with _ | _
         ·refine r_move hS hH.kp0 rfl rfl (Sq.xguardYes rfl rfl rfl (x_move hH.kp0 rfl rfl (Sq.xguardYes rfl rfl rfl (x_fieldAddr hH.kp0 rfl Fc.fo77_2 rfl (Sq.xguardYes rfl rfl rfl (x_load_sc hH (by repeat' constructor) rfl (by repeat' constructor) Fc.sc3 (by rfl) rfl (Sq.xguardYes rfl rfl rfl (x_indexAddrS (j:=ib) hH.kp0 rfl rfl Fc.slb69 htb_ (by omega) rfl (Sq.xguardYes rfl rfl rfl ?_))))))))); clear hS; intro a hS
          refine r_load_sc hS hH (by repeat' constructor) rfl (by repeat' constructor) Fc.sc4 (v:=.bool kb_) (by rw [nthV_eq,Nat.zero_add,Nat.mul_one]; exact bools_get hkb_) rfl ?_; clear hS; intro a hS
          refine r_pickF hS hH.kp0 rfl rfl rfl rfl (x_assign hH.kp0 rfl rfl ?_); clear hS; intro a hS
          refine Sq.nil (blk_n (then_n ?_))
          exact ⟨_,(rch_is his hKa hKb).2.1 hk,hS.live ⟨rfl,rfl,rfl,rfl,rfl,rfl,rfl,rfl,rfl,trivial⟩,hH⟩
         ·refine r_move hS hH.kp0 rfl rfl (Sq.xguardNo rfl rfl rfl hH.kp0 rfl (Sq.xguardNo rfl rfl rfl hH.kp0 rfl (Sq.xguardNo rfl rfl rfl hH.kp0 rfl (Sq.xguardNo rfl rfl rfl hH.kp0 rfl (Sq.xguardNo rfl rfl rfl hH.kp0 rfl (x_pickT hH.kp0 rfl rfl rfl rfl (x_assign hH.kp0 rfl rfl ?_))))))); clear hS; intro a hS
          refine Sq.nil (blk_n (then_n ?_))
          exact ⟨_,(rch_is his hKa hKb).2.1 hk,hS.live ⟨rfl,rfl,rfl,rfl,rfl,rfl,rfl,rfl,rfl,trivial⟩,hH⟩
        ·refine Sq.guardNo hS rfl rfl rfl hH.kp0 rfl (Sq.xguardNo rfl rfl rfl hH.kp0 rfl (Sq.xguardNo rfl rfl rfl hH.kp0 rfl (Sq.xguardNo rfl rfl rfl hH.kp0 rfl (Sq.xguardNo rfl rfl rfl hH.kp0 rfl (x_pickT hH.kp0 rfl rfl rfl rfl (x_move hH.kp0 rfl rfl (Sq.xguardNo rfl rfl rfl hH.kp0 rfl (Sq.xguardNo rfl rfl rfl hH.kp0 rfl (Sq.xguardNo rfl rfl rfl hH.kp0 rfl (Sq.xguardNo rfl rfl rfl hH.kp0 rfl (Sq.xguardNo rfl rfl rfl hH.kp0 rfl (x_pickT hH.kp0 rfl rfl rfl rfl (x_assign hH.kp0 rfl rfl ?_))))))))))))); clear hS; intro a hS
         refine Sq.nil (blk_n (then_n ?_))
         exact ⟨_,(rch_is his hKa hKb).2.1 hk,hS.live ⟨rfl,rfl,rfl,rfl,rfl,rfl,rfl,rfl,rfl,trivial⟩,hH⟩
       ·refine r_eql hS hH.kp0 rfl rfl rfl (x_assign hH.kp0 rfl rfl ?_); clear hS; intro a hS
        refine Sq.nil (then_n ?_)
        refine c_condF hS rfl (beq_false_of_ne (by omega)) ?_
        refine c_seq (reg_plain w0 (Nobody) ?_)
        refine r_eql hS hH.kp0 rfl rfl rfl (x_assign hH.kp0 rfl rfl ?_); clear hS; intro a hS
        refine Sq.nil (then_n ?_)
        refine c_condF hS rfl (beq_false_of_ne (by omega)) ?_
        refine reg_plain w0 (Nobody) ?_
        refine r_eql hS hH.kp0 rfl rfl rfl (x_assign hH.kp0 rfl rfl ?_); clear hS; intro a hS
        refine Sq.nil (then_n ?_)
        refine c_condF hS rfl (beq_false_of_ne (by omega)) ?_
        refine c_seq (reg_plain w0 (Nobody) ?_)
        refine r_eql hS hH.kp0 rfl rfl rfl (x_assign hH.kp0 rfl rfl ?_); clear hS; intro a hS
        refine Sq.nil (then_n ?_)
        refine c_condF hS rfl (beq_false_of_ne (by omega)) ?_
        refine wp_skip (blk_n (then_n ?_))
        exact ⟨_,(rch_is his hKa hKb).2.2 hk,hS.live ⟨rfl,rfl,rfl,rfl,rfl,rfl,rfl,rfl,rfl,trivial⟩,hH⟩
      clear hS hH his; intro a w hJ29; obtain ⟨is,his,hS,hH⟩:=hJ29
      refine c_seq (reg_plain w0 (Nobody) ?_)
      refine r_move hS hH.kp0 rfl rfl ?_; clear hS; intro a hS
      refine Sq.nil (then_n ?_)
      refine c_cond hS rfl (fun hc9 => ?_) (fun hc9 => ?_)
      ·subst hc9
       refine c_seq (reg_plain w0 (Nobody) ?_)
       refine r_move hS hH.kp0 rfl rfl (x_move hH.kp0 rfl rfl (x_indexAddrS (j:=i) hH.kp0 rfl rfl Fc.slb69 rfl (by omega) rfl ?_)); clear hS; intro a hS
       refine r_store1 hS hH rfl rfl rfl (by repeat' constructor) (by repeat' constructor) Fc.sz4 (by rw [bools_len]; omega) (.inr (by assumption)) ?_; clear hH; intro w hH
       rw [spl_bools (by omega)] at hH
       refine Sq.nil (then_n (reg_plain w0 (Nobody) ?_))
       refine r_assign hS hH.kp0 rfl rfl ?_; clear hS; intro a hS
       refine Sq.nil (then_n ?_)
       first
        | exact ⟨K1.set i true,true,hP.setK ht hki (his.1 rfl),.inl ((KT_set (by omega) i).2 (.inr rfl)),hS.live ⟨rfl,rfl,rfl,rfl,rfl,rfl,rfl,rfl,trivial⟩,hH⟩
        | exact ⟨K1,ag1,hP,.inl ((kt_some hki).2 rfl),hS.live ⟨rfl,rfl,rfl,rfl,rfl,rfl,rfl,rfl,trivial⟩,hH⟩
        | exact ⟨K1,ag1,hP,.inr ⟨fun l hl hn => absurd (his.2 (.inl ⟨l,hl,hn⟩)) (by decide),fun hr => absurd (his.2 (.inr hr)) (by decide)⟩,hS.live ⟨rfl,rfl,rfl,rfl,rfl,rfl,rfl,rfl,trivial⟩,hH⟩
      ·subst hc9
       refine wp_skip (then_n ?_)
       first
        | exact ⟨K1.set i true,true,hP.setK ht hki (his.1 rfl),.inl ((KT_set (by omega) i).2 (.inr rfl)),hS.live ⟨rfl,rfl,rfl,rfl,rfl,rfl,rfl,rfl,trivial⟩,hH⟩
        | exact ⟨K1,ag1,hP,.inl ((kt_some hki).2 rfl),hS.live ⟨rfl,rfl,rfl,rfl,rfl,rfl,rfl,rfl,trivial⟩,hH⟩
        | exact ⟨K1,ag1,hP,.inr ⟨fun l hl hn => absurd (his.2 (.inl ⟨l,hl,hn⟩)) (by decide),fun hr => absurd (his.2 (.inr hr)) (by decide)⟩,hS.live ⟨rfl,rfl,rfl,rfl,rfl,rfl,rfl,rfl,trivial⟩,hH⟩
     ·have hkf : ki = true:=by cases ki; cases hc3; rfl
      subst hkf
      refine wp_skip (then_n ?_)
      first
       | exact ⟨K1.set i true,true,hP.setK ht hki (his.1 rfl),.inl ((KT_set (by omega) i).2 (.inr rfl)),hS.live ⟨rfl,rfl,rfl,rfl,rfl,rfl,rfl,rfl,trivial⟩,hH⟩
       | exact ⟨K1,ag1,hP,.inl ((kt_some hki).2 rfl),hS.live ⟨rfl,rfl,rfl,rfl,rfl,rfl,rfl,rfl,trivial⟩,hH⟩
       | exact ⟨K1,ag1,hP,.inr ⟨fun l hl hn => absurd (his.2 (.inl ⟨l,hl,hn⟩)) (by decide),fun hr => absurd (his.2 (.inr hr)) (by decide)⟩,hS.live ⟨rfl,rfl,rfl,rfl,rfl,rfl,rfl,rfl,trivial⟩,hH⟩
    clear hS hH; intro a w hJ32; obtain ⟨K2,ag2,hP2,hJ,hS,hH⟩:=hJ32
    have hK2l:=hP2.r.len
    obtain ⟨ki2,hki2⟩ : ∃ k,K2[i]? = some k:=⟨_,List.getElem?_eq_getElem (by omega)⟩
    obtain ⟨ka2,hka2⟩ : ∃ k,K2[ia]? = some k:=⟨_,List.getElem?_eq_getElem (by omega)⟩
    refine c_seq (reg_plain w0 (Nobody) ?_)
    refine r_fieldAddr hS hH.kp0 rfl Fc.fo77_0 rfl (x_load_sc hH (by repeat' constructor) rfl (by repeat' constructor) Fc.sc3 (by rfl) rfl (x_eql hH.kp0 rfl rfl rfl ?_)); clear hS; intro a hS
    rcases hk6 : (t.kind == 6) with _ | _
    ·refine r_move hS hH.kp0 rfl rfl (Sq.xguardNo rfl rfl hk6 hH.kp0 rfl (Sq.xguardNo rfl rfl hk6 hH.kp0 rfl (Sq.xguardNo rfl rfl hk6 hH.kp0 rfl (Sq.xguardNo rfl rfl hk6 hH.kp0 rfl (x_pickF hH.kp0 rfl hk6 rfl rfl (x_move hH.kp0 rfl rfl (Sq.xguardNo rfl rfl rfl hH.kp0 rfl (Sq.xguardNo rfl rfl rfl hH.kp0 rfl (Sq.xguardNo rfl rfl rfl hH.kp0 rfl (Sq.xguardNo rfl rfl rfl hH.kp0 rfl (Sq.xguardNo rfl rfl rfl hH.kp0 rfl (x_pickF hH.kp0 rfl rfl rfl rfl (x_move hH.kp0 rfl rfl (Sq.xguardNo rfl rfl rfl hH.kp0 rfl (Sq.xguardNo rfl rfl rfl hH.kp0 rfl (Sq.xguardNo rfl rfl rfl hH.kp0 rfl (Sq.xguardNo rfl rfl rfl hH.kp0 rfl (Sq.xguardNo rfl rfl rfl hH.kp0 rfl (x_pickF hH.kp0 rfl rfl rfl rfl ?_))))))))))))))))))); clear hS; intro a hS
     refine Sq.nil (then_n (c_condF hS rfl rfl (wp_skip (blk_n (then_n (reg_plain w0 (Nobody) ?_))))))
     refine r_move hS hH.kp0 rfl rfl (x_add hH.kp0 rfl rfl rfl (by omega) (x_assign hH.kp0 rfl rfl ?_)); clear hS; intro a hS
     refine Sq.nil (then_n ?_)
     have hP3:=hP2.stay ht hJ (fun e6 ek ea => by first | exact absurd e6 (beq_eq_false_iff_ne.1 hk6) | exact absurd ((kt_some hki2).1 ek) (by decide) | exact absurd ((kt_some hka2).1 (by rw [hian] at ea; exact ea)) (by decide) | exact (kt_some hoi).2 rfl)
     exact ⟨m - 1,by omega,i + 1,K2,O1,TL1,_,_,ag2,by omega,hP3,(.inr ⟨tb,tcap,row,rfl,rfl,htb,htl,htc,htt⟩),hS.live ⟨rfl,rfl,rfl,rfl,rfl,rfl,rfl,trivial⟩,(hH.less (List.Sublist.cons _ (List.Sublist.refl _)))⟩
    ·refine r_move hS hH.kp0 rfl rfl (Sq.xguardYes rfl rfl hk6 (x_move hH.kp0 rfl rfl (Sq.xguardYes rfl rfl hk6 (x_move hH.kp0 rfl rfl (Sq.xguardYes rfl rfl hk6 (x_indexAddrS (j:=i) hH.kp0 rfl rfl Fc.slb69 rfl (by omega) rfl (Sq.xguardYes rfl rfl hk6 ?_))))))); clear hS; intro a hS
     refine r_load_sc hS hH (by repeat' constructor) rfl (by repeat' constructor) Fc.sc4 (v:=.bool ki2) (by rw [nthV_eq,Nat.zero_add,Nat.mul_one]; exact bools_get hki2) rfl ?_; clear hS; intro a hS
     refine r_pickT hS hH.kp0 rfl hk6 rfl rfl ?_; clear hS; intro a hS
     rcases ki2 with _ | _
     ·refine r_move hS hH.kp0 rfl rfl (Sq.xguardNo rfl rfl rfl hH.kp0 rfl (Sq.xguardNo rfl rfl rfl hH.kp0 rfl (Sq.xguardNo rfl rfl rfl hH.kp0 rfl (Sq.xguardNo rfl rfl rfl hH.kp0 rfl (Sq.xguardNo rfl rfl rfl hH.kp0 rfl (x_pickF hH.kp0 rfl rfl rfl rfl (x_move hH.kp0 rfl rfl (Sq.xguardNo rfl rfl rfl hH.kp0 rfl (Sq.xguardNo rfl rfl rfl hH.kp0 rfl (Sq.xguardNo rfl rfl rfl hH.kp0 rfl (Sq.xguardNo rfl rfl rfl hH.kp0 rfl (Sq.xguardNo rfl rfl rfl hH.kp0 rfl (x_pickF hH.kp0 rfl rfl rfl rfl ?_))))))))))))); clear hS; intro a hS
      refine Sq.nil (then_n (c_condF hS rfl rfl (wp_skip (blk_n (then_n (reg_plain w0 (Nobody) ?_))))))
      refine r_move hS hH.kp0 rfl rfl (x_add hH.kp0 rfl rfl rfl (by omega) (x_assign hH.kp0 rfl rfl ?_)); clear hS; intro a hS
      refine Sq.nil (then_n ?_)
      have hP3:=hP2.stay ht hJ (fun e6 ek ea => by first | exact absurd e6 (beq_eq_false_iff_ne.1 hk6) | exact absurd ((kt_some hki2).1 ek) (by decide) | exact absurd ((kt_some hka2).1 (by rw [hian] at ea; exact ea)) (by decide) | exact (kt_some hoi).2 rfl)
      exact ⟨m - 1,by omega,i + 1,K2,O1,TL1,_,_,ag2,by omega,hP3,(.inr ⟨tb,tcap,row,rfl,rfl,htb,htl,htc,htt⟩),hS.live ⟨rfl,rfl,rfl,rfl,rfl,rfl,rfl,trivial⟩,(hH.less (List.Sublist.cons _ (List.Sublist.refl _)))⟩
     ·refine r_move hS hH.kp0 rfl rfl (Sq.xguardYes rfl rfl rfl (x_move hH.kp0 rfl rfl (Sq.xguardYes rfl rfl rfl (x_fieldAddr hH.kp0 rfl Fc.fo77_1 rfl (Sq.xguardYes rfl rfl rfl (x_load_sc hH (by repeat' constructor) rfl (by repeat' constructor) Fc.sc3 (by rfl) rfl (Sq.xguardYes rfl rfl rfl (x_indexAddrS (j:=ia) hH.kp0 rfl rfl Fc.slb69 hta (by omega) rfl (Sq.xguardYes rfl rfl rfl ?_))))))))); clear hS; intro a hS
      refine r_load_sc hS hH (by repeat' constructor) rfl (by repeat' constructor) Fc.sc4 (v:=.bool ka2) (by rw [nthV_eq,Nat.zero_add,Nat.mul_one]; exact bools_get hka2) rfl ?_; clear hS; intro a hS
      refine r_pickT hS hH.kp0 rfl rfl rfl rfl ?_; clear hS; intro a hS
      rcases ka2 with _ | _
      ·refine r_move hS hH.kp0 rfl rfl (Sq.xguardNo rfl rfl rfl hH.kp0 rfl (Sq.xguardNo rfl rfl rfl hH.kp0 rfl (Sq.xguardNo rfl rfl rfl hH.kp0 rfl (Sq.xguardNo rfl rfl rfl hH.kp0 rfl (Sq.xguardNo rfl rfl rfl hH.kp0 rfl (x_pickF hH.kp0 rfl rfl rfl rfl ?_)))))); clear hS; intro a hS
       refine Sq.nil (then_n (c_condF hS rfl rfl (wp_skip (blk_n (then_n (reg_plain w0 (Nobody) ?_))))))
       refine r_move hS hH.kp0 rfl rfl (x_add hH.kp0 rfl rfl rfl (by omega) (x_assign hH.kp0 rfl rfl ?_)); clear hS; intro a hS
       refine Sq.nil (then_n ?_)
       have hP3:=hP2.stay ht hJ (fun e6 ek ea => by first | exact absurd e6 (beq_eq_false_iff_ne.1 hk6) | exact absurd ((kt_some hki2).1 ek) (by decide) | exact absurd ((kt_some hka2).1 (by rw [hian] at ea; exact ea)) (by decide) | exact (kt_some hoi).2 rfl)
       exact ⟨m - 1,by omega,i + 1,K2,O1,TL1,_,_,ag2,by omega,hP3,(.inr ⟨tb,tcap,row,rfl,rfl,htb,htl,htc,htt⟩),hS.live ⟨rfl,rfl,rfl,rfl,rfl,rfl,rfl,trivial⟩,(hH.less (List.Sublist.cons _ (List.Sublist.refl _)))⟩
      ·refine r_move hS hH.kp0 rfl rfl (Sq.xguardYes rfl rfl rfl (x_move hH.kp0 rfl rfl (Sq.xguardYes rfl rfl rfl (x_move hH.kp0 rfl rfl (Sq.xguardYes rfl rfl rfl (x_indexAddrS (j:=i) hH.kp0 rfl rfl Fc.slb69 rfl (by omega) rfl (Sq.xguardYes rfl rfl rfl ?_))))))); clear hS; intro a hS
       refine r_load_sc hS hH (by repeat' constructor) rfl (by repeat' constructor) Fc.sc4 (v:=.bool oi) (by rw [nthV_eq,Nat.zero_add,Nat.mul_one]; exact bools_get hoi) rfl ?_; clear hS; intro a hS
       refine Sq.guardYes hS rfl rfl rfl (r_not hS hH.kp0 rfl rfl ?_); clear hS; intro a hS
       rcases oi with _ | _
       ·refine r_pickT hS hH.kp0 rfl rfl rfl rfl ?_; clear hS; intro a hS
        refine Sq.nil (then_n (c_condT hS rfl rfl (c_seq (reg_plain w0 (Nobody) ?_))))
        refine r_move hS hH.kp0 rfl rfl (x_move hH.kp0 rfl rfl (x_indexAddrS (j:=i) hH.kp0 rfl rfl Fc.slb69 rfl (by omega) rfl ?_)); clear hS; intro a hS
        refine r_store1 hS hH rfl rfl rfl (by repeat' constructor) (by repeat' constructor) Fc.sz4 (by rw [bools_len]; omega) (.inr (by assumption)) ?_; clear hH; intro w hH
        rw [spl_bools (by omega)] at hH
        refine Sq.nil (then_n (c_seq (reg_plain w0 (Nobody) ?_)))
        refine r_move hS hH.kp0 rfl rfl (x_fieldAddr hH.kp0 rfl Fc.fo77_6 rfl (x_load_sc hH (by repeat' constructor) rfl (by repeat' constructor) Fc.sc9 (by rfl) rfl ?_)); clear hS; intro a hS
        refine r_buildSlice (parts:=[(0,.tmp 143)]) hS hH (by repeat' constructor) rfl Fc.bsl115_1 (by rfl) rfl ?_
        clear hS hH; intro a w b144 hb144 hwb144 hS hH
        refine r_append_own hS hH rfl rfl (by repeat' constructor) (by repeat' constructor) Fc.el115 Fc.ni115 htl htc (src_str (hH.get .here)) (by omega) (.inr htb) rfl ?_
        clear hS hH; intro a w ub ucap ul hub hul huc hut hum hS hH
        have hub0:=hub.resolve_left (fun h => h)
        refine r_assign hS hH.kp0 rfl rfl ?_; clear hS; intro a hS
        refine Sq.nil (then_n (reg_plain w0 (Nobody) ?_))
        refine r_assign hS hH.kp0 rfl rfl ?_; clear hS; intro a hS
        refine Sq.nil (blk_n (then_n (reg_plain w0 (Nobody) ?_)))
        refine r_move hS hH.kp0 rfl rfl (x_add hH.kp0 rfl rfl rfl (by omega) (x_assign hH.kp0 rfl rfl ?_)); clear hS; intro a hS
        refine Sq.nil (then_n ?_)
        have hut2:=hut
        rw [←strOf_byt t] at hut2
        have hT9 : TXT w0 9 (.slice (some ⟨ub,0,none⟩) (TL1.length + 1) ucap) (TL1++[byt t]) _:=TXT.blk hub0 (by rw [List.length_append]; rfl) hul huc (by have h9:=hut2; rw [Nat.mul_one,Nat.mul_one,htt,strs_snoc] at h9; exact h9)
        have hP3:=hP2.setO ht (beq_iff_eq.1 hk6) ((kt_some hki2).2 rfl) (by rw [hian]; exact (kt_some hka2).2 rfl) hoi (by rw [byt_len]; exact hwf.sz i t ht)
        exact ⟨m - 1,by omega,i + 1,K2,O1.set i true,TL1++[byt t],_,_,true,by omega,hP3,hT9,hS.live ⟨rfl,rfl,rfl,rfl,rfl,rfl,rfl,trivial⟩,(hH.less (List.Sublist.cons_cons _ (List.Sublist.cons _ (List.Sublist.cons _ (List.Sublist.refl _))))).rot⟩
       ·refine r_pickT hS hH.kp0 rfl rfl rfl rfl ?_; clear hS; intro a hS
        refine Sq.nil (then_n (c_condF hS rfl rfl (wp_skip (blk_n (then_n (reg_plain w0 (Nobody) ?_))))))
        refine r_move hS hH.kp0 rfl rfl (x_add hH.kp0 rfl rfl rfl (by omega) (x_assign hH.kp0 rfl rfl ?_)); clear hS; intro a hS
        refine Sq.nil (then_n ?_)
        have hP3:=hP2.stay ht hJ (fun e6 ek ea => by first | exact absurd e6 (beq_eq_false_iff_ne.1 hk6) | exact absurd ((kt_some hki2).1 ek) (by decide) | exact absurd ((kt_some hka2).1 (by rw [hian] at ea; exact ea)) (by decide) | exact (kt_some hoi).2 rfl)
        exact ⟨m - 1,by omega,i + 1,K2,O1,TL1,_,_,ag2,by omega,hP3,(.inr ⟨tb,tcap,row,rfl,rfl,htb,htl,htc,htt⟩),hS.live ⟨rfl,rfl,rfl,rfl,rfl,rfl,rfl,trivial⟩,(hH.less (List.Sublist.cons _ (List.Sublist.refl _)))⟩
   ·have hge2 : i = ts.length:=by have:=of_decide_eq_false hc2; omega
    subst hge2
    have hcl:=cnt2_le hP.r.len hP.r.lenO
    refine wp_exit (then_e (then_e (blk_hit (blk_n (then_n ?_)))))
    have hcl0:=cnt2_le hR.len hR.lenO
    refine ⟨2 * (2 * ts.length - (cnt K1 + cnt O1)) + (if ag1 = true then 1 else 0),?_,K1,O1,TL1,_,_,ag1,rfl,hP.r,fun e => by subst e; exact hP.knows,(by first | exact .inl ⟨rfl,rfl,htl0⟩ | exact .inr ⟨tb,tcap,row,rfl,rfl,htb,htl,htc,htt⟩),hS.live ⟨rfl,rfl,rfl,rfl,rfl,rfl,trivial⟩,hH⟩
    have hle9:=hP.le
    rcases ag1 with _ | _
    ·rw [hm1]; simp only [Bool.false_eq_true,if_false]; simp; omega
    ·have hy9:=hP.yes rfl; rw [hm1]; simp; omega

end Go.Proofs.YtcjmehononbadaaDoor
