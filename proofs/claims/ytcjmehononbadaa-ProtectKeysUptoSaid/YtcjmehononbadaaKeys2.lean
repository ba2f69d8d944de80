/- ProtectKeys: of any identifier and secret the keys are the document's, and the next ones, too. Part Keys2: walks and lemmas of the proof. -/
import Derived.Test.YtcjmehononbadaaKeys1
namespace Go.Proofs.Ytcjmehononbadaa
open Go.Sym

theorem Fc.bsl22_1 : bslB Try.prog 22 1 = some (5, 1, [.int .u8 0]) := by kernel_rfl
theorem Fc.bsl60_3 : bslB Try.prog 60 3 = some (22, 1, [.slice none 0 0, .slice none 0 0, .slice none 0 0]) := by kernel_rfl
set_option maxRecDepth 100000 in
set_option maxHeartbeats 2000000 in
theorem Tag_v (b : Nat) (V : VB) (ts : List Tm) (hm : ts.length ≤ 999999900) (v v2 : Value) (l m : List UInt8) (hl : l.length ≤ 1048576) (hl2 : m.length ≤ 1048576) (w0 : World) (hvi : VI w0 b V ts) (hb : BsF (V.F b) w0 v l) (hb2 : BsF (V.F b) w0 v2 m) : Calls Try.prog 26 #[.pointer (some ⟨b, 0, none⟩), v, v2] w0 fun e w' => ∃ K x V' ts', e = .returned (.tuple #[hnd K, .int .i64 x]) ∧ K.length = 16 ∧ VI w' b V' ts' ∧ VStep w0 w' b V V' ∧ tagF ts l m = (K, x, ts') ∧ ts'.length ≤ ts.length + 1 := by
  refine enter Try.func26 rfl rfl rfl ?_
  intro a hS
  have hH := Hp.start w0 (V.F b)
  obtain ⟨q, qc, hsl⟩ := hb.bs
  have hv9 := hsl.val
  subst hv9
  obtain ⟨q2, qc2, hsl2⟩ := hb2.bs
  have hv8 := hsl2.val
  subst hv8
  replace hH := hH.knowV hvi (by intro p hp; simp at hp)
  have hVS := VS.start w0 b V
  have huq := hvi.ok.uq
  refine c_seq ?_
  refine reg_plain w0 (V.F b) ?_
  refine r_alloc hS hH (by repeat (first | exact Sub.nil | refine Sub.cons ?_ ?_ | exact In.here | refine In.there ?_)) Fc.zc26 rfl ?_
  clear hS hH; intro a w b6 hb6 hwb6 hS hH
  refine r_assign hS hH.kp0 rfl rfl ?_; clear hS; intro a hS
  refine Sq.nil ?_
  refine then_n ?_
  refine c_seq ?_
  refine wp_block ?_
  refine c_seq ?_
  refine reg_plain w0 (V.F b) ?_
  refine r_move hS hH.kp0 rfl rfl ?_; clear hS; intro a hS
  refine r_call (l := [.tmp 9]) hS rfl rfl Fc.fn51 rfl ?_
  refine Calls.mono (pnone_v b V ts _ (hH.vin hvi.ok hvi.n01 hvi.n23 (by repeat (first | exact In.here | refine In.there ?_)) (by repeat (first | exact In.here | refine In.there ?_)) (by repeat (first | exact In.here | refine In.there ?_)) (by repeat (first | exact In.here | refine In.there ?_)))) ?_
  rintro e w1 ⟨rfl, hE⟩
  replace hH := hH.ext hE
  refine ⟨_, rfl, hH.kp0, ?_⟩
  clear hS; intro a hS
  refine r_assign hS hH.kp0 rfl rfl ?_; clear hS; intro a hS
  refine Sq.nil ?_
  refine then_n ?_
  refine c_condF hS rfl rfl ?_
  refine c_seq ?_
  refine reg_plain w0 (V.F b) ?_
  refine r_move hS hH.kp0 rfl rfl ?_; clear hS; intro a hS
  refine r_lenSl hS hH.kp0 rfl Fc.isSlice22 rfl ?_; clear hS; intro a hS
  refine r_gtr hS hH.kp0 rfl rfl rfl ?_; clear hS; intro a hS
  refine r_assign hS hH.kp0 rfl rfl ?_; clear hS; intro a hS
  refine Sq.nil ?_
  refine then_n ?_
  refine c_cond hS rfl (fun hc1 => ?_) (fun hc1 => ?_)
  · have hlt := of_decide_eq_true hc1
    refine c_seq ?_
    refine reg_plain w0 (V.F b) ?_
    refine r_buildA (parts := []) hS hH.kp0 rfl rfl Fc.zc26 Fc.ar26 (by rfl) ?_; clear hS; intro a hS
    refine r_store_row hS hH rfl rfl (by first | exact .here | exact .there .here | exact .there (.there .here) | exact .there (.there (.there .here)) | exact .there (.there (.there (.there .here))) | exact .there (.there (.there (.there (.there .here)))) | exact .there (.there (.there (.there (.there (.there .here))))) | exact .there (.there (.there (.there (.there (.there (.there .here)))))) | exact .there (.there (.there (.there (.there (.there (.there (.there .here))))))) | exact .there (.there (.there (.there (.there (.there (.there (.there (.there .here)))))))) | exact .there (.there (.there (.there (.there (.there (.there (.there (.there (.there .here))))))))) | exact .there (.there (.there (.there (.there (.there (.there (.there (.there (.there (.there .here)))))))))) | exact .there (.there (.there (.there (.there (.there (.there (.there (.there (.there (.there (.there .here))))))))))) | exact .there (.there (.there (.there (.there (.there (.there (.there (.there (.there (.there (.there (.there .here)))))))))))) | exact .there (.there (.there (.there (.there (.there (.there (.there (.there (.there (.there (.there (.there (.there .here))))))))))))) | exact .there (.there (.there (.there (.there (.there (.there (.there (.there (.there (.there (.there (.there (.there (.there .here))))))))))))))) (by repeat (first | exact Sub.nil | refine Sub.cons ?_ ?_ | exact In.here | refine In.there ?_)) Fc.sz26 (by first | exact hcells_one _ | exact of_decide_eq_true rfl) (by rfl) (by first | exact .inr (by assumption) | exact .inl (by first | assumption | rfl)) ?_
    clear hH; intro w hH
    refine r_assign hS hH.kp0 rfl rfl ?_; clear hS; intro a hS
    refine Sq.nil ?_
    refine then_n ?_
    refine wp_ret ?_
    refine blk_r ?_
    refine then_r ?_
    exact leave (.inl rfl) hS rfl (Res.cell rfl (hH.get (by repeat (first | exact In.here | refine In.there ?_))) Fc.ag26 (by rfl) rfl (Res.tmp rfl Res.nil)) ⟨zH, 2, V, ts, rfl, rfl, (hH.vin hvi.ok hvi.n01 hvi.n23 (by repeat (first | exact In.here | refine In.there ?_)) (by repeat (first | exact In.here | refine In.there ?_)) (by repeat (first | exact In.here | refine In.there ?_)) (by repeat (first | exact In.here | refine In.there ?_))), ⟨hVS, hH.mod⟩, by unfold tagF; rw [if_pos (by omega)], by omega⟩
  · have hge := of_decide_eq_false hc1
    refine wp_skip ?_
    refine blk_n ?_
    refine then_n ?_
    refine c_seq ?_
    refine reg_plain w0 (V.F b) ?_
    refine r_move hS hH.kp0 rfl rfl ?_; clear hS; intro a hS
    refine r_move hS hH.kp0 rfl rfl ?_; clear hS; intro a hS
    refine r_call (l := [.tmp 18]) hS rfl rfl Fc.fn39 rfl ?_
    refine Calls.mono (Root_v b V ts _ (hH.vin hvi.ok hvi.n01 hvi.n23 (by repeat (first | exact In.here | refine In.there ?_)) (by repeat (first | exact In.here | refine In.there ?_)) (by repeat (first | exact In.here | refine In.there ?_)) (by repeat (first | exact In.here | refine In.there ?_)))) ?_
    rintro e w1 ⟨h, rfl, hqx, hE⟩
    obtain ⟨x0, x1, x2, x3, x4, x5, x6, x7, x8, x9, xa, xb, xc, xd, xe, xf, rfl⟩ := len16 (h := h) (by rw [hqx]; rfl)
    replace hH := hH.ext hE
    refine ⟨_, rfl, hH.kp0, ?_⟩
    clear hS; intro a hS
    refine r_move hS hH.kp0 rfl rfl ?_; clear hS; intro a hS
    refine r_lenSl hS hH.kp0 rfl Fc.isSlice22 rfl ?_; clear hS; intro a hS
    refine r_toU8 (q := l.length) (UInt8.ofNat l.length) hS hH.kp0 rfl Fc.ui5 Fc.us3 rfl rfl ?_; clear hS; intro a hS
    refine r_buildSlice (parts := [(0, .tmp 22)]) hS hH (by repeat (first | exact Sub.nil | refine Sub.cons ?_ ?_ | exact In.here | refine In.there ?_)) rfl Fc.bsl22_1 (by rfl) rfl ?_
    clear hS hH; intro a w b23 hb23 hwb23 hS hH
    refine r_move hS hH.kp0 rfl rfl ?_; clear hS; intro a hS
    refine r_move hS hH.kp0 rfl rfl ?_; clear hS; intro a hS
    refine r_buildSlice (parts := [(0, .tmp 23), (1, .tmp 24), (2, .tmp 25)]) hS hH (by repeat (first | exact Sub.nil | refine Sub.cons ?_ ?_ | exact In.here | refine In.there ?_)) rfl Fc.bsl60_3 (by rfl) rfl ?_
    clear hS hH; intro a w b26 hb26 hwb26 hS hH
    refine r_call (l := [.tmp 26]) hS rfl rfl Fc.fn54 rfl ?_
    refine Calls.mono (Concat_b _ [[UInt8.ofNat l.length], l, m] _ (SlB.three (hH.get (b := b26) .here) (Bs.byte (hH.get (b := b23) (.there .here))) (hb _ hH.mod) (hb2 _ hH.mod)) (by simp; omega) (by simp)) ?_
    rintro e w1 ⟨r, rfl, hr, hE⟩
    have hrF : BsF (V.F b) w1 r (UInt8.ofNat l.length :: l ++ m) := by
      have := hr.bsF (F := V.F b) (fun x hx => Nat.lt_of_lt_of_le (hvi.lt x hx) hH.mod.size)
      simpa using this
    replace hH := hH.ext hE
    refine ⟨_, rfl, hH.kp0, ?_⟩
    clear hS; intro a hS
    refine r_call (l := [.tmp 17, .tmp 19, .const (.string { data := #[114, 101, 116, 114, 121] }), .tmp 27]) hS rfl rfl Fc.fn52 rfl ?_
    refine Calls.mono (Derive_v b V ts [x0, x1, x2, x3, x4, x5, x6, x7, x8, x9, xa, xb, xc, xd, xe, xf] rfl lk_retry _ (UInt8.ofNat l.length :: l ++ m) (by decide) (by simp; omega) (by omega) _ (hH.vin hvi.ok hvi.n01 hvi.n23 (by repeat (first | exact In.here | refine In.there ?_)) (by repeat (first | exact In.here | refine In.there ?_)) (by repeat (first | exact In.here | refine In.there ?_)) (by repeat (first | exact In.here | refine In.there ?_))) hrF) ?_
    rintro e w1 ⟨h, xx1, V1, ts1, rfl, hvi1, hst, hof1⟩
    obtain ⟨y0, y1, y2, y3, y4, y5, y6, y7, y8, y9, ya, yb, yc, yd, ye, yf, rfl⟩ := len16 (h := h) hof1.len
    have hln1 := hof1.lens
    have hVS1 := hVS.step hst hH.mod.size
    replace hH := hH.vault hVS hst hvi1 (by first | exact .here | exact .there .here | exact .there (.there .here) | exact .there (.there (.there .here)) | exact .there (.there (.there (.there .here))) | exact .there (.there (.there (.there (.there .here)))) | exact .there (.there (.there (.there (.there (.there .here))))) | exact .there (.there (.there (.there (.there (.there (.there .here)))))) | exact .there (.there (.there (.there (.there (.there (.there (.there .here))))))) | exact .there (.there (.there (.there (.there (.there (.there (.there (.there .here)))))))) | exact .there (.there (.there (.there (.there (.there (.there (.there (.there (.there .here))))))))) | exact .there (.there (.there (.there (.there (.there (.there (.there (.there (.there (.there .here)))))))))) | exact .there (.there (.there (.there (.there (.there (.there (.there (.there (.there (.there (.there .here))))))))))) | exact .there (.there (.there (.there (.there (.there (.there (.there (.there (.there (.there (.there (.there .here)))))))))))) | exact .there (.there (.there (.there (.there (.there (.there (.there (.there (.there (.there (.there (.there (.there .here))))))))))))) | exact .there (.there (.there (.there (.there (.there (.there (.there (.there (.there (.there (.there (.there (.there (.there .here)))))))))))))))
    clear hst
    refine ⟨_, rfl, hH.kp0, ?_⟩
    clear hS; intro a hS
    refine r_extract hS hH.kp0 rfl rfl rfl ?_; clear hS; intro a hS
    refine r_extract hS hH.kp0 rfl rfl rfl ?_; clear hS; intro a hS
    refine r_store_row hS hH rfl rfl (by first | exact .here | exact .there .here | exact .there (.there .here) | exact .there (.there (.there .here)) | exact .there (.there (.there (.there .here))) | exact .there (.there (.there (.there (.there .here)))) | exact .there (.there (.there (.there (.there (.there .here))))) | exact .there (.there (.there (.there (.there (.there (.there .here)))))) | exact .there (.there (.there (.there (.there (.there (.there (.there .here))))))) | exact .there (.there (.there (.there (.there (.there (.there (.there (.there .here)))))))) | exact .there (.there (.there (.there (.there (.there (.there (.there (.there (.there .here))))))))) | exact .there (.there (.there (.there (.there (.there (.there (.there (.there (.there (.there .here)))))))))) | exact .there (.there (.there (.there (.there (.there (.there (.there (.there (.there (.there (.there .here))))))))))) | exact .there (.there (.there (.there (.there (.there (.there (.there (.there (.there (.there (.there (.there .here)))))))))))) | exact .there (.there (.there (.there (.there (.there (.there (.there (.there (.there (.there (.there (.there (.there .here))))))))))))) | exact .there (.there (.there (.there (.there (.there (.there (.there (.there (.there (.there (.there (.there (.there (.there .here))))))))))))))) (by repeat (first | exact Sub.nil | refine Sub.cons ?_ ?_ | exact In.here | refine In.there ?_)) Fc.sz26 (by first | exact hcells_one _ | exact of_decide_eq_true rfl) (by rfl) (by first | exact .inr (by assumption) | exact .inl (by first | assumption | rfl)) ?_
    clear hH; intro w hH
    refine r_assign hS hH.kp0 rfl rfl ?_; clear hS; intro a hS
    refine Sq.nil ?_
    refine then_n ?_
    refine wp_ret ?_
    refine leave (.inl rfl) hS rfl (Res.cell rfl (hH.get (by repeat (first | exact In.here | refine In.there ?_))) Fc.ag26 (by rfl) rfl (Res.tmp rfl Res.nil)) ⟨_, xx1, V1, ts1, rfl, rfl, (hH.vin hvi1.ok hvi1.n01 hvi1.n23 (by repeat (first | exact In.here | refine In.there ?_)) (by repeat (first | exact In.here | refine In.there ?_)) (by repeat (first | exact In.here | refine In.there ?_)) (by repeat (first | exact In.here | refine In.there ?_))), ⟨hVS1, hH.mod⟩, ?_, by omega⟩
    rw [hqx] at hof1
    unfold tagF
    rw [if_neg (by omega)]
    exact hof1.toF huq (by omega)

set_option maxRecDepth 100000 in
set_option maxHeartbeats 2000000 in
theorem rTag_c (b : Nat) (V : RB) (ts : List Tm) (hm : ts.length ≤ 999999900) (v v2 : Value) (l m : List UInt8) (hl : l.length ≤ 1048576) (hl2 : m.length ≤ 1048576) (huq : Uq ts) (w0 : World) (hri : RI w0 b V ts) (hb : BsF (V.F b) w0 v l) (hb2 : BsF (V.F b) w0 v2 m) : Calls Try.prog 27 #[.pointer (some ⟨b, 0, none⟩), v, v2] w0 fun e w' => ∃ K x V' ts', e = .returned (.tuple #[hnd K, .int .i64 x]) ∧ K.length = 16 ∧ RI w' b V' ts' ∧ RStep w0 w' b V V' ∧ tagF ts l m = (K, x, ts') ∧ ts'.length ≤ ts.length + 1 := by
  refine enter Try.func27 rfl rfl rfl ?_
  intro a hS
  have hH := Hp.start w0 (V.F b)
  obtain ⟨q, qc, hsl⟩ := hb.bs
  have hv9 := hsl.val
  subst hv9
  obtain ⟨q2, qc2, hsl2⟩ := hb2.bs
  have hv8 := hsl2.val
  subst hv8
  replace hH := hH.knowR hri (by intro p hp; simp at hp)
  have hRS := RS.start w0 b V
  refine c_seq ?_
  refine reg_plain w0 (V.F b) ?_
  refine r_alloc hS hH (by repeat (first | exact Sub.nil | refine Sub.cons ?_ ?_ | exact In.here | refine In.there ?_)) Fc.zc25 rfl ?_
  clear hS hH; intro a w b6 hb6 hwb6 hS hH
  refine r_assign hS hH.kp0 rfl rfl ?_; clear hS; intro a hS
  refine Sq.nil ?_
  refine then_n ?_
  refine c_seq ?_
  refine c_seq ?_
  refine reg_plain w0 (V.F b) ?_
  refine r_move hS hH.kp0 rfl rfl ?_; clear hS; intro a hS
  refine r_lenSl hS hH.kp0 rfl Fc.isSlice22 rfl ?_; clear hS; intro a hS
  refine r_gtr hS hH.kp0 rfl rfl rfl ?_; clear hS; intro a hS
  refine Sq.nil ?_
  refine then_n ?_
  refine c_cond hS rfl (fun hc0 => ?_) (fun hc0 => ?_)
  · have hlt := of_decide_eq_true hc0
    refine c_seq ?_
    refine reg_plain w0 (V.F b) ?_
    refine r_buildA (parts := []) hS hH.kp0 rfl rfl Fc.zc25 Fc.ar25 (by rfl) ?_; clear hS; intro a hS
    refine r_store_row hS hH rfl rfl (by first | exact .here | exact .there .here | exact .there (.there .here) | exact .there (.there (.there .here)) | exact .there (.there (.there (.there .here))) | exact .there (.there (.there (.there (.there .here)))) | exact .there (.there (.there (.there (.there (.there .here))))) | exact .there (.there (.there (.there (.there (.there (.there .here)))))) | exact .there (.there (.there (.there (.there (.there (.there (.there .here))))))) | exact .there (.there (.there (.there (.there (.there (.there (.there (.there .here)))))))) | exact .there (.there (.there (.there (.there (.there (.there (.there (.there (.there .here))))))))) | exact .there (.there (.there (.there (.there (.there (.there (.there (.there (.there (.there .here)))))))))) | exact .there (.there (.there (.there (.there (.there (.there (.there (.there (.there (.there (.there .here))))))))))) | exact .there (.there (.there (.there (.there (.there (.there (.there (.there (.there (.there (.there (.there .here)))))))))))) | exact .there (.there (.there (.there (.there (.there (.there (.there (.there (.there (.there (.there (.there (.there .here))))))))))))) | exact .there (.there (.there (.there (.there (.there (.there (.there (.there (.there (.there (.there (.there (.there (.there .here))))))))))))))) (by repeat (first | exact Sub.nil | refine Sub.cons ?_ ?_ | exact In.here | refine In.there ?_)) Fc.sz25 (by first | exact hcells_one _ | exact of_decide_eq_true rfl) (by rfl) (by first | exact .inr (by assumption) | exact .inl (by first | assumption | rfl)) ?_
    clear hH; intro w hH
    refine r_assign hS hH.kp0 rfl rfl ?_; clear hS; intro a hS
    refine Sq.nil ?_
    refine then_n ?_
    refine wp_ret ?_
    refine then_r ?_
    exact leave (.inl rfl) hS rfl (Res.cell rfl (hH.get (by repeat (first | exact In.here | refine In.there ?_))) Fc.ag25 (by rfl) rfl (Res.tmp rfl Res.nil)) ⟨zH, 2, V, ts, rfl, rfl, (hH.rin (TV := 116) (TT := 113) hri.ok rfl hri.n01 (by repeat (first | exact In.here | refine In.there ?_)) (by repeat (first | exact In.here | refine In.there ?_))), ⟨hRS, hH.mod⟩, by unfold tagF; rw [if_pos (by omega)], by omega⟩
  · have hge := of_decide_eq_false hc0
    refine wp_skip ?_
    refine then_n ?_
    refine c_seq ?_
    refine reg_plain w0 (V.F b) ?_
    refine r_move hS hH.kp0 rfl rfl ?_; clear hS; intro a hS
    refine r_lenSl hS hH.kp0 rfl Fc.isSlice22 rfl ?_; clear hS; intro a hS
    refine r_toU8 (q := l.length) (UInt8.ofNat l.length) hS hH.kp0 rfl Fc.ui5 Fc.us3 rfl rfl ?_; clear hS; intro a hS
    refine r_buildSlice (parts := [(0, .tmp 15)]) hS hH (by repeat (first | exact Sub.nil | refine Sub.cons ?_ ?_ | exact In.here | refine In.there ?_)) rfl Fc.bsl22_1 (by rfl) rfl ?_
    clear hS hH; intro a w b16 hb16 hwb16 hS hH
    refine r_move hS hH.kp0 rfl rfl ?_; clear hS; intro a hS
    refine r_append_own hS hH rfl rfl (by first | exact .here | exact .there .here | exact .there (.there .here) | exact .there (.there (.there .here)) | exact .there (.there (.there (.there .here))) | exact .there (.there (.there (.there (.there .here)))) | exact .there (.there (.there (.there (.there (.there .here))))) | exact .there (.there (.there (.there (.there (.there (.there .here)))))) | exact .there (.there (.there (.there (.there (.there (.there (.there .here))))))) | exact .there (.there (.there (.there (.there (.there (.there (.there (.there .here)))))))) | exact .there (.there (.there (.there (.there (.there (.there (.there (.there (.there .here))))))))) | exact .there (.there (.there (.there (.there (.there (.there (.there (.there (.there (.there .here)))))))))) | exact .there (.there (.there (.there (.there (.there (.there (.there (.there (.there (.there (.there .here))))))))))) | exact .there (.there (.there (.there (.there (.there (.there (.there (.there (.there (.there (.there (.there .here)))))))))))) | exact .there (.there (.there (.there (.there (.there (.there (.there (.there (.there (.there (.there (.there (.there .here))))))))))))) | exact .there (.there (.there (.there (.there (.there (.there (.there (.there (.there (.there (.there (.there (.there (.there .here))))))))))))))) (by repeat (first | exact Sub.nil | refine Sub.cons ?_ ?_ | exact In.here | refine In.there ?_)) Fc.el22 Fc.ni22 rfl (Nat.le_refl _) (hb _ hH.mod).src (by omega) (by first | exact .inr (by assumption) | exact .inl (by assumption)) rfl ?_
    clear hS hH; intro a w ob cap1 l1 hob hl1 hc1_ htk1 _ hS hH
    refine r_move hS hH.kp0 rfl rfl ?_; clear hS; intro a hS
    refine r_append_own hS hH rfl rfl (by first | exact .here | exact .there .here | exact .there (.there .here) | exact .there (.there (.there .here)) | exact .there (.there (.there (.there .here))) | exact .there (.there (.there (.there (.there .here)))) | exact .there (.there (.there (.there (.there (.there .here))))) | exact .there (.there (.there (.there (.there (.there (.there .here)))))) | exact .there (.there (.there (.there (.there (.there (.there (.there .here))))))) | exact .there (.there (.there (.there (.there (.there (.there (.there (.there .here)))))))) | exact .there (.there (.there (.there (.there (.there (.there (.there (.there (.there .here))))))))) | exact .there (.there (.there (.there (.there (.there (.there (.there (.there (.there (.there .here)))))))))) | exact .there (.there (.there (.there (.there (.there (.there (.there (.there (.there (.there (.there .here))))))))))) | exact .there (.there (.there (.there (.there (.there (.there (.there (.there (.there (.there (.there (.there .here)))))))))))) | exact .there (.there (.there (.there (.there (.there (.there (.there (.there (.there (.there (.there (.there (.there .here))))))))))))) | exact .there (.there (.there (.there (.there (.there (.there (.there (.there (.there (.there (.there (.there (.there (.there .here))))))))))))))) (by repeat (first | exact Sub.nil | refine Sub.cons ?_ ?_ | exact In.here | refine In.there ?_)) Fc.el22 Fc.ni22 hl1 hc1_ (hb2 _ hH.mod).src (by omega) hob rfl ?_
    clear hS hH; intro a w ob2 cap2 l2 hob2 hl2_ hc2_ htk2 _ hS hH
    refine r_assign hS hH.kp0 rfl rfl ?_; clear hS; intro a hS
    refine Sq.nil ?_
    refine then_n ?_
    refine c_seq ?_
    have hrF : ∀ w', Ext w w' → BsF (V.F b) w' (.slice (some ⟨ob2, 0, none⟩) (1 + l.length + m.length) cap2) (UInt8.ofNat l.length :: l ++ m) := by
      intro w' k
      have hob3 := k.heap_some (hH.get (b := ob2) .here)
      refine BsF.row hob3 ((hH.rin (TV := 116) (TT := 113) hri.ok rfl hri.n01 (by repeat (first | exact In.here | refine In.there ?_)) (by repeat (first | exact In.here | refine In.there ?_))).notF (hH.get (b := ob2) .here) (by decide) (by decide)) hl2_ hc2_ ?_ (by simp; omega)
      rw [htk2, htk1]; simp [byteV, Value.cells]
    refine reg_plain w0 (V.F b) ?_
    refine r_move hS hH.kp0 rfl rfl ?_; clear hS; intro a hS
    refine r_call (l := [.const (.int .i64 0)]) hS rfl rfl Fc.fn18 rfl ?_
    refine Calls.mono (rname_c 0 (by omega) _) ?_
    rintro e w1 ⟨h, rfl, hqx, hE⟩
    obtain ⟨x0, x1, x2, x3, x4, x5, x6, x7, x8, x9, xa, xb, xc, xd, xe, xf, rfl⟩ := len16 (h := h) (by rw [hqx]; rfl)
    replace hH := hH.ext hE
    refine ⟨_, rfl, hH.kp0, ?_⟩
    clear hS; intro a hS
    refine r_move hS hH.kp0 rfl rfl ?_; clear hS; intro a hS
    refine r_call (l := [.tmp 21, .tmp 22, .const (.string { data := #[114, 101, 116, 114, 121] }), .tmp 23]) hS rfl rfl Fc.fn53 rfl ?_
    refine Calls.mono (rDerive_c b V ts [x0, x1, x2, x3, x4, x5, x6, x7, x8, x9, xa, xb, xc, xd, xe, xf] rfl lk_retry _ (UInt8.ofNat l.length :: l ++ m) (by decide) (by simp; omega) (by omega) _ (hH.rin (TV := 116) (TT := 113) hri.ok rfl hri.n01 (by repeat (first | exact In.here | refine In.there ?_)) (by repeat (first | exact In.here | refine In.there ?_))) (hrF _ hE)) ?_
    rintro e w1 ⟨h, xx1, V1, ts1, rfl, hri1, hst, hof1⟩
    obtain ⟨y0, y1, y2, y3, y4, y5, y6, y7, y8, y9, ya, yb, yc, yd, ye, yf, rfl⟩ := len16 (h := h) hof1.len
    have hln1 := hof1.lens
    have hRS1 := hRS.step hst hH.mod.size
    replace hH := hH.rvault hRS hst hri1 (by first | exact .two | exact .there .two | exact .there (.there .two) | exact .there (.there (.there .two)) | exact .there (.there (.there (.there .two))) | exact .there (.there (.there (.there (.there .two)))) | exact .there (.there (.there (.there (.there (.there .two))))) | exact .there (.there (.there (.there (.there (.there (.there .two)))))) | exact .there (.there (.there (.there (.there (.there (.there (.there .two))))))) | exact .there (.there (.there (.there (.there (.there (.there (.there (.there .two)))))))) | exact .there (.there (.there (.there (.there (.there (.there (.there (.there (.there .two))))))))) | exact .there (.there (.there (.there (.there (.there (.there (.there (.there (.there (.there .two)))))))))) | exact .there (.there (.there (.there (.there (.there (.there (.there (.there (.there (.there (.there .two))))))))))) | exact .there (.there (.there (.there (.there (.there (.there (.there (.there (.there (.there (.there (.there .two)))))))))))) | exact .there (.there (.there (.there (.there (.there (.there (.there (.there (.there (.there (.there (.there (.there .two))))))))))))) | exact .there (.there (.there (.there (.there (.there (.there (.there (.there (.there (.there (.there (.there (.there (.there .two)))))))))))))))
    clear hst
    refine ⟨_, rfl, hH.kp0, ?_⟩
    clear hS; intro a hS
    refine r_extract hS hH.kp0 rfl rfl rfl ?_; clear hS; intro a hS
    refine r_extract hS hH.kp0 rfl rfl rfl ?_; clear hS; intro a hS
    refine r_store_row hS hH rfl rfl (by first | exact .here | exact .there .here | exact .there (.there .here) | exact .there (.there (.there .here)) | exact .there (.there (.there (.there .here))) | exact .there (.there (.there (.there (.there .here)))) | exact .there (.there (.there (.there (.there (.there .here))))) | exact .there (.there (.there (.there (.there (.there (.there .here)))))) | exact .there (.there (.there (.there (.there (.there (.there (.there .here))))))) | exact .there (.there (.there (.there (.there (.there (.there (.there (.there .here)))))))) | exact .there (.there (.there (.there (.there (.there (.there (.there (.there (.there .here))))))))) | exact .there (.there (.there (.there (.there (.there (.there (.there (.there (.there (.there .here)))))))))) | exact .there (.there (.there (.there (.there (.there (.there (.there (.there (.there (.there (.there .here))))))))))) | exact .there (.there (.there (.there (.there (.there (.there (.there (.there (.there (.there (.there (.there .here)))))))))))) | exact .there (.there (.there (.there (.there (.there (.there (.there (.there (.there (.there (.there (.there (.there .here))))))))))))) | exact .there (.there (.there (.there (.there (.there (.there (.there (.there (.there (.there (.there (.there (.there (.there .here))))))))))))))) (by repeat (first | exact Sub.nil | refine Sub.cons ?_ ?_ | exact In.here | refine In.there ?_)) Fc.sz25 (by first | exact hcells_one _ | exact of_decide_eq_true rfl) (by rfl) (by first | exact .inr (by assumption) | exact .inl (by first | assumption | rfl)) ?_
    clear hH; intro w hH
    refine r_assign hS hH.kp0 rfl rfl ?_; clear hS; intro a hS
    refine Sq.nil ?_
    refine then_n ?_
    refine wp_ret ?_
    refine leave (.inl rfl) hS rfl (Res.cell rfl (hH.get (by repeat (first | exact In.here | refine In.there ?_))) Fc.ag25 (by rfl) rfl (Res.tmp rfl Res.nil)) ⟨_, xx1, V1, ts1, rfl, rfl, (hH.rin (TV := 116) (TT := 113) hri1.ok rfl hri1.n01 (by repeat (first | exact In.here | refine In.there ?_)) (by repeat (first | exact In.here | refine In.there ?_))), ⟨hRS1, hH.mod⟩, ?_, by omega⟩
    rw [hqx] at hof1
    unfold tagF
    rw [if_neg (by omega)]
    exact hof1.toF huq (by omega)

theorem Next_k (b : Nat) (V : VB) (ts : List Tm) (hm : ts.length ≤ 999999900) (J : List UInt8) (hJ : J.length = 48) (w0 : World) (hvi : VI w0 b V ts) : Calls Try.prog 22 #[.pointer (some ⟨b, 0, none⟩), .agg (hcells J).toArray] w0 fun e w' => ∃ K x V' ts', e = .returned (.tuple #[.agg (hcells K).toArray, .int .i64 x]) ∧ K.length = 48 ∧ VI w' b V' ts' ∧ VStep w0 w' b V V' ∧ nextF ts (J.take 16) (J.drop 32) = (K, x, ts') ∧ ts'.length ≤ ts.length + 5 := by
  have e : J = J.take 16 ++ (J.drop 16).take 16 ++ J.drop 32 := by
    have : J.drop 32 = (J.drop 16).drop 16 := by rw [List.drop_drop]
    rw [this, List.append_assoc, List.take_append_drop, List.take_append_drop]
  have h := Next_v b V ts hm (J.take 16) ((J.drop 16).take 16) (J.drop 32) (by simp [hJ]) (by simp [hJ]) (by simp [hJ]) w0 hvi
  rw [← e] at h
  exact h

theorem rNext_k (b : Nat) (V : RB) (ts : List Tm) (hm : ts.length ≤ 999999900) (J : List UInt8) (hJ : J.length = 48) (huq : Uq ts) (w0 : World) (hri : RI w0 b V ts) : Calls Try.prog 23 #[.pointer (some ⟨b, 0, none⟩), .agg (hcells J).toArray] w0 fun e w' => ∃ K x V' ts', e = .returned (.tuple #[.agg (hcells K).toArray, .int .i64 x]) ∧ K.length = 48 ∧ RI w' b V' ts' ∧ RStep w0 w' b V V' ∧ nextF ts (J.take 16) (J.drop 32) = (K, x, ts') ∧ ts'.length ≤ ts.length + 5 := by
  have e : J = J.take 16 ++ (J.drop 16).take 16 ++ J.drop 32 := by
    have : J.drop 32 = (J.drop 16).drop 16 := by rw [List.drop_drop]
    rw [this, List.append_assoc, List.take_append_drop, List.take_append_drop]
  have h := rNext_c b V ts hm (J.take 16) ((J.drop 16).take 16) (J.drop 32) (by simp [hJ]) (by simp [hJ]) (by simp [hJ]) huq w0 hri
  rw [← e] at h
  exact h

end Go.Proofs.Ytcjmehononbadaa
