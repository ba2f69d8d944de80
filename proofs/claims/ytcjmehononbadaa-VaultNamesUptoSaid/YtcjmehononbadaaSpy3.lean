/- For every input of bulk at most 1048576 the law VaultNames returns true and the input reads as it did. Part Spy3: walks and lemmas of the proof. -/
import Derived.Test.YtcjmehononbadaaSpy2
namespace Go.Proofs.Ytcjmehononbadaa
open Go.Sym

theorem Fc.ar134 : arrB Try.prog 134 = some (2, 1) := by kernel_rfl
theorem Fc.fn55 : isFn Try.prog 55 = true := by kernel_rfl
theorem Fc.fn56 : isFn Try.prog 56 = true := by kernel_rfl
theorem Fc.fn78 : isFn Try.prog 78 = true := by kernel_rfl
theorem Fc.sc5 : scB Try.prog 5 = true := by kernel_rfl
theorem Fc.sc99 : scB Try.prog 99 = true := by kernel_rfl
theorem Fc.sz1_5 : (Try.prog.info? 5).map (·.size) = some 1 := by kernel_rfl
theorem Fc.sz99 : sizeB Try.prog 99 1 = true := by kernel_rfl
theorem Fc.uh26 : Try.prog.underlying 26 = some (.array 16 5) := by kernel_rfl
theorem Fc.us5 : (Try.prog.underlying 5).isSome = true := by kernel_rfl
theorem Fc.zc134 : zcB Try.prog 134 = some [.int .u64 0, .int .u64 0] := by kernel_rfl
set_option maxRecDepth 100000 in
set_option maxHeartbeats 400000 in
theorem unmix_u (x : Int) (w0 : World) : Calls Try.prog 78 #[.int .u64 x] w0 fun e w' => ∃ r : Int, e = .returned (.int .u64 r) ∧ Ext w0 w' := by
  refine enter Try.func78 rfl rfl rfl ?_
  intro a hS
  have hH := Hp.start w0 (Nobody)
  refine c_seq ?_
  refine reg_plain w0 (Nobody) ?_
  refine r_assign hS hH.kp0 rfl rfl ?_; clear hS; intro a hS
  refine Sq.nil ?_
  refine then_n ?_
  refine c_seq ?_
  refine reg_plain w0 (Nobody) ?_
  refine r_move hS hH.kp0 rfl rfl ?_; clear hS; intro a hS
  refine r_move hS hH.kp0 rfl rfl ?_; clear hS; intro a hS
  refine r_shr hS hH.kp0 rfl rfl rfl (by first | decide | omega) ?_; clear hS; intro a hS
  refine r_xor hS hH.kp0 rfl rfl rfl ?_; clear hS; intro a hS
  refine r_move hS hH.kp0 rfl rfl ?_; clear hS; intro a hS
  refine r_shr hS hH.kp0 rfl rfl rfl (by first | decide | omega) ?_; clear hS; intro a hS
  refine r_xor hS hH.kp0 rfl rfl rfl ?_; clear hS; intro a hS
  refine r_mulw hS hH.kp0 rfl rfl rfl ?_; clear hS; intro a hS
  refine r_assign hS hH.kp0 rfl rfl ?_; clear hS; intro a hS
  refine Sq.nil ?_
  refine then_n ?_
  refine c_seq ?_
  refine reg_plain w0 (Nobody) ?_
  refine r_move hS hH.kp0 rfl rfl ?_; clear hS; intro a hS
  refine r_move hS hH.kp0 rfl rfl ?_; clear hS; intro a hS
  refine r_shr hS hH.kp0 rfl rfl rfl (by first | decide | omega) ?_; clear hS; intro a hS
  refine r_xor hS hH.kp0 rfl rfl rfl ?_; clear hS; intro a hS
  refine r_move hS hH.kp0 rfl rfl ?_; clear hS; intro a hS
  refine r_shr hS hH.kp0 rfl rfl rfl (by first | decide | omega) ?_; clear hS; intro a hS
  refine r_xor hS hH.kp0 rfl rfl rfl ?_; clear hS; intro a hS
  refine r_mulw hS hH.kp0 rfl rfl rfl ?_; clear hS; intro a hS
  refine r_assign hS hH.kp0 rfl rfl ?_; clear hS; intro a hS
  refine Sq.nil ?_
  refine then_n ?_
  refine c_seq ?_
  refine reg_plain w0 (Nobody) ?_
  refine r_move hS hH.kp0 rfl rfl ?_; clear hS; intro a hS
  refine r_move hS hH.kp0 rfl rfl ?_; clear hS; intro a hS
  refine r_shr hS hH.kp0 rfl rfl rfl (by first | decide | omega) ?_; clear hS; intro a hS
  refine r_xor hS hH.kp0 rfl rfl rfl ?_; clear hS; intro a hS
  refine r_move hS hH.kp0 rfl rfl ?_; clear hS; intro a hS
  refine r_shr hS hH.kp0 rfl rfl rfl (by first | decide | omega) ?_; clear hS; intro a hS
  refine r_xor hS hH.kp0 rfl rfl rfl ?_; clear hS; intro a hS
  refine r_mulw hS hH.kp0 rfl rfl rfl ?_; clear hS; intro a hS
  refine r_subw hS hH.kp0 rfl rfl rfl ?_; clear hS; intro a hS
  refine r_assign hS hH.kp0 rfl rfl ?_; clear hS; intro a hS
  refine Sq.nil ?_
  refine then_n ?_
  refine wp_ret ?_
  exact leave (.inl rfl) hS rfl (Res.tmp rfl Res.nil) ⟨_, rfl, hH.mod⟩

set_option maxRecDepth 100000 in
set_option maxHeartbeats 400000 in
theorem mix_u (x : Int) (w0 : World) : Calls Try.prog 79 #[.int .u64 x] w0 fun e w' => ∃ r : Int, e = .returned (.int .u64 r) ∧ Ext w0 w' := by
  refine enter Try.func79 rfl rfl rfl ?_
  intro a hS
  have hH := Hp.start w0 (Nobody)
  refine c_seq ?_
  refine reg_plain w0 (Nobody) ?_
  refine r_assign hS hH.kp0 rfl rfl ?_; clear hS; intro a hS
  refine Sq.nil ?_
  refine then_n ?_
  refine c_seq ?_
  refine reg_plain w0 (Nobody) ?_
  refine r_move hS hH.kp0 rfl rfl ?_; clear hS; intro a hS
  refine r_addw hS hH.kp0 rfl rfl rfl ?_; clear hS; intro a hS
  refine r_mulw hS hH.kp0 rfl rfl rfl ?_; clear hS; intro a hS
  refine r_assign hS hH.kp0 rfl rfl ?_; clear hS; intro a hS
  refine Sq.nil ?_
  refine then_n ?_
  refine c_seq ?_
  refine reg_plain w0 (Nobody) ?_
  refine r_move hS hH.kp0 rfl rfl ?_; clear hS; intro a hS
  refine r_move hS hH.kp0 rfl rfl ?_; clear hS; intro a hS
  refine r_shr hS hH.kp0 rfl rfl rfl (by first | decide | omega) ?_; clear hS; intro a hS
  refine r_xor hS hH.kp0 rfl rfl rfl ?_; clear hS; intro a hS
  refine r_mulw hS hH.kp0 rfl rfl rfl ?_; clear hS; intro a hS
  refine r_assign hS hH.kp0 rfl rfl ?_; clear hS; intro a hS
  refine Sq.nil ?_
  refine then_n ?_
  refine c_seq ?_
  refine reg_plain w0 (Nobody) ?_
  refine r_move hS hH.kp0 rfl rfl ?_; clear hS; intro a hS
  refine r_move hS hH.kp0 rfl rfl ?_; clear hS; intro a hS
  refine r_shr hS hH.kp0 rfl rfl rfl (by first | decide | omega) ?_; clear hS; intro a hS
  refine r_xor hS hH.kp0 rfl rfl rfl ?_; clear hS; intro a hS
  refine r_mulw hS hH.kp0 rfl rfl rfl ?_; clear hS; intro a hS
  refine r_assign hS hH.kp0 rfl rfl ?_; clear hS; intro a hS
  refine Sq.nil ?_
  refine then_n ?_
  refine c_seq ?_
  refine reg_plain w0 (Nobody) ?_
  refine r_move hS hH.kp0 rfl rfl ?_; clear hS; intro a hS
  refine r_move hS hH.kp0 rfl rfl ?_; clear hS; intro a hS
  refine r_shr hS hH.kp0 rfl rfl rfl (by first | decide | omega) ?_; clear hS; intro a hS
  refine r_xor hS hH.kp0 rfl rfl rfl ?_; clear hS; intro a hS
  refine r_assign hS hH.kp0 rfl rfl ?_; clear hS; intro a hS
  refine Sq.nil ?_
  refine then_n ?_
  refine wp_ret ?_
  exact leave (.inl rfl) hS rfl (Res.tmp rfl Res.nil) ⟨_, rfl, hH.mod⟩

set_option maxRecDepth 100000 in
set_option maxHeartbeats 2000000 in
theorem isName_v (h : List UInt8) (hh : h.length = 16) (w0 : World) : Calls Try.prog 56 #[hnd h] w0 fun e w' => ∃ r, e = .returned (.bool r) ∧ Ext w0 w' := by
  refine enter Try.func56 rfl rfl rfl ?_
  intro a hS
  have hH := Hp.start w0 (Nobody)
  obtain ⟨x0, x1, x2, x3, x4, x5, x6, x7, x8, x9, xa, xb, xc, xd, xe, xf, rfl⟩ := len16 hh
  refine c_seq ?_
  refine reg_plain w0 (Nobody) ?_
  refine r_box hS hH (by repeat (first | exact Sub.nil | refine Sub.cons ?_ ?_ | exact In.here | refine In.there ?_)) rfl rfl rfl ?_
  clear hS hH; intro a w b1 hb1 hwb1 hS hH
  refine r_assign hS hH.kp0 rfl rfl ?_; clear hS; intro a hS
  refine Sq.nil ?_
  refine then_n ?_
  refine c_seq ?_
  refine reg_plain w0 (Nobody) ?_
  refine r_alloc hS hH (by repeat (first | exact Sub.nil | refine Sub.cons ?_ ?_ | exact In.here | refine In.there ?_)) Fc.zc134 rfl ?_
  clear hS hH; intro a w b3 hb3 hwb3 hS hH
  refine Sq.nil ?_
  refine then_n ?_
  refine c_seq ?_
  refine c_seq ?_
  refine reg_plain w0 (Nobody) ?_
  refine r_load_row hS hH (by repeat (first | exact Sub.nil | refine Sub.cons ?_ ?_ | exact In.here | refine In.there ?_)) rfl (by repeat (first | exact In.here | refine In.there ?_)) Fc.ag26 (by rfl) rfl ?_; clear hS; intro a hS
  refine r_move hS hH.kp0 rfl rfl ?_; clear hS; intro a hS
  refine Sq.nil ?_
  refine then_n ?_
  refine wp_block ?_
  refine c_loop (fun m a w => ∃ (i : Nat) (ii e0 e1 : Int), m + i = 16 ∧ ii = i ∧ St 38 (lv [(2, .bool false), (3, .pointer (some ⟨b3, 0, none⟩)), (7, .agg (hcells [x0, x1, x2, x3, x4, x5, x6, x7, x8, x9, xa, xb, xc, xd, xe, xf]).toArray), (8, .int .i64 ii)]) a ∧ Hp w0 Nobody [(b3, .cells [.int .u64 e0, .int .u64 e1].toArray 134 (0, 0))] w) (16) ?_ ?_
  · exact ⟨0, _, _, _, rfl, rfl, hS.live ⟨rfl, rfl, rfl, rfl, trivial⟩, hH.drop [1]⟩
  clear hS hH; intro m a w hI; obtain ⟨i, ii, e0, e1, hmi, hii, hS, hH⟩ := hI
  refine c_seq ?_
  refine reg_plain w0 (Nobody) ?_
  refine r_lss hS hH.kp0 rfl rfl rfl ?_; clear hS; intro a hS
  refine Sq.nil ?_
  refine then_n ?_
  refine c_seq ?_
  refine c_cond hS rfl (fun hc0 => ?_) (fun hc0 => ?_)
  · have hlt := of_decide_eq_true hc0
    obtain ⟨u, hu⟩ : ∃ u, ([x0, x1, x2, x3, x4, x5, x6, x7, x8, x9, xa, xb, xc, xd, xe, xf] : List UInt8)[i]? = some u := ⟨_, List.getElem?_eq_getElem (by show i < 16; omega)⟩
    have hj2 : i / 8 < 2 := by omega
    obtain ⟨ej, hej⟩ := two_get e0 e1 (i / 8) hj2
    have hjj : Int.tdiv ii 8 = ((i / 8 : Nat) : Int) := by subst hii; rfl
    have hwr : IntKind.i64.wrap (Int.tdiv ii 8) = ((i / 8 : Nat) : Int) := by rw [hjj]; exact wrap_i64 (by omega)
    refine wp_skip ?_
    refine then_n ?_
    refine c_seq ?_
    refine wp_block ?_
    refine c_seq ?_
    refine reg_plain w0 (Nobody) ?_
    refine r_move hS hH.kp0 rfl rfl ?_; clear hS; intro a hS
    refine r_indexB (h := [x0, x1, x2, x3, x4, x5, x6, x7, x8, x9, xa, xb, xc, xd, xe, xf]) (u := u) hS hH.kp0 rfl rfl Fc.uh26 Fc.sc5 Fc.sz1_5 hii (by omega) hu rfl ?_; clear hS; intro a hS
    refine r_assign hS hH.kp0 rfl rfl ?_; clear hS; intro a hS
    refine r_assign hS hH.kp0 rfl rfl ?_; clear hS; intro a hS
    refine Sq.nil ?_
    refine then_n ?_
    refine reg_plain w0 (Nobody) ?_
    refine r_move hS hH.kp0 rfl rfl ?_; clear hS; intro a hS
    refine r_quo hS hH.kp0 rfl rfl rfl (by first | decide | omega) ?_; clear hS; intro a hS
    refine r_move hS hH.kp0 rfl rfl ?_; clear hS; intro a hS
    refine r_quo hS hH.kp0 rfl rfl rfl (by first | decide | omega) ?_; clear hS; intro a hS
    refine r_indexAddrA (j := i / 8) hS hH.kp0 rfl rfl Fc.ar134 hwr hj2 rfl ?_; clear hS; intro a hS
    refine r_load_sc hS hH (by repeat (first | exact Sub.nil | refine Sub.cons ?_ ?_ | exact In.here | refine In.there ?_)) rfl (by repeat (first | exact In.here | refine In.there ?_)) Fc.sc99 (v := .int .u64 ej) (by rw [nthV_eq, Nat.zero_add, Nat.mul_one]; exact hej) rfl ?_; clear hS; intro a hS
    refine r_shl hS hH.kp0 rfl rfl rfl (by first | decide | omega) ?_; clear hS; intro a hS
    refine r_move hS hH.kp0 rfl rfl ?_; clear hS; intro a hS
    refine r_convInt hS hH.kp0 rfl Fc.ui99 Fc.us5 rfl ?_; clear hS; intro a hS
    refine r_orX hS hH.kp0 rfl rfl rfl ?_; clear hS; intro a ew hS
    refine r_indexAddrA (j := i / 8) hS hH.kp0 rfl rfl Fc.ar134 hwr hj2 rfl ?_; clear hS; intro a hS
    refine r_store1 hS hH rfl rfl rfl (by first | exact .here | exact .there .here | exact .there (.there .here) | exact .there (.there (.there .here)) | exact .there (.there (.there (.there .here))) | exact .there (.there (.there (.there (.there .here)))) | exact .there (.there (.there (.there (.there (.there .here))))) | exact .there (.there (.there (.there (.there (.there (.there .here)))))) | exact .there (.there (.there (.there (.there (.there (.there (.there .here))))))) | exact .there (.there (.there (.there (.there (.there (.there (.there (.there .here)))))))) | exact .there (.there (.there (.there (.there (.there (.there (.there (.there (.there .here))))))))) | exact .there (.there (.there (.there (.there (.there (.there (.there (.there (.there (.there .here)))))))))) | exact .there (.there (.there (.there (.there (.there (.there (.there (.there (.there (.there (.there .here))))))))))) | exact .there (.there (.there (.there (.there (.there (.there (.there (.there (.there (.there (.there (.there .here)))))))))))) | exact .there (.there (.there (.there (.there (.there (.there (.there (.there (.there (.there (.there (.there (.there .here))))))))))))) | exact .there (.there (.there (.there (.there (.there (.there (.there (.there (.there (.there (.there (.there (.there (.there .here))))))))))))))) (by repeat (first | exact Sub.nil | refine Sub.cons ?_ ?_ | exact In.here | refine In.there ?_)) Fc.sz99 (by show 0 + i / 8 * 1 < 2; omega) (.inr (by assumption)) ?_; clear hH; intro w hH
    obtain ⟨x0_, x1_, hx01⟩ := two_set e0 e1 ew (i / 8) hj2
    refine Sq.nil ?_
    refine blk_n ?_
    refine then_n ?_
    refine reg_plain w0 (Nobody) ?_
    first | refine r_add hS hH.kp0 rfl rfl rfl (by omega) ?_ | refine r_addw hS hH.kp0 rfl rfl rfl ?_
    clear hS; intro a hS
    refine r_move hS hH.kp0 rfl rfl ?_; clear hS; intro a hS
    refine Sq.nil ?_
    refine then_n ?_
    rw [hx01] at hH
    exact ⟨m - 1, by omega, i + 1, _, x0_, x1_, by omega, by omega, hS.live ⟨rfl, rfl, rfl, rfl, trivial⟩, hH⟩
  · refine wp_exit ?_
    refine then_e ?_
    refine then_e ?_
    refine blk_hit ?_
    refine then_n ?_
    refine c_seq ?_
    refine reg_plain w0 (Nobody) ?_
    refine r_indexAddrA hS hH.kp0 rfl rfl Fc.ar134 rfl (by decide) rfl ?_; clear hS; intro a hS
    refine r_load_sc hS hH (by repeat (first | exact Sub.nil | refine Sub.cons ?_ ?_ | exact In.here | refine In.there ?_)) rfl (by repeat (first | exact In.here | refine In.there ?_)) Fc.sc99 (by rfl) rfl ?_; clear hS; intro a hS
    refine r_call (l := [.tmp 25]) hS rfl rfl Fc.fn78 rfl ?_
    refine Calls.mono (unmix_u _ _) ?_
    rintro e w1 ⟨r, rfl, hE⟩
    replace hH := hH.ext hE
    refine ⟨_, rfl, hH.kp0, ?_⟩
    clear hS; intro a hS
    refine r_assign hS hH.kp0 rfl rfl ?_; clear hS; intro a hS
    refine Sq.nil ?_
    refine then_n ?_
    refine c_seq ?_
    refine reg_draw [(true, 0, []), (true, 1, []), (true, 2, []), (true, 3, []), (true, 4, []), (true, 5, []), (true, 7, []), (true, 8, []), (false, 6, []), (true, 9, []), (true, 10, []), (true, 11, [])] Fc.mixed (by kernel_rfl) (by kernel_rfl) (by kernel_rfl) (by kernel_rfl) (by kernel_rfl) (by repeat (first | with_reducible exact steady_body | with_reducible apply steady_block | with_reducible apply steady_then | exact steady_body)) hH ?_
    replace hH := hH.drew
    refine r_move hS trivial rfl rfl ?_; clear hS; intro a hS
    refine r_rem hS trivial rfl rfl rfl (by first | decide | omega) ?_; clear hS; intro a hS
    refine r_eql hS trivial rfl rfl rfl ?_; clear hS; intro a hS
    refine r_move hS trivial rfl rfl ?_; clear hS; intro a hS
    by_cases hb : (Int.tmod r 2 == 0) = true
    · refine Sq.guardYes hS rfl rfl hb ?_
      refine r_move hS trivial rfl rfl ?_; clear hS; intro a hS
      refine Sq.guardYes hS rfl rfl hb ?_
      refine r_addw hS trivial rfl rfl rfl ?_; clear hS; intro a hS
      refine Sq.guardYes hS rfl rfl hb ?_
      refine r_indexAddrA hS trivial rfl rfl Fc.ar134 rfl (by decide) rfl ?_; clear hS; intro a hS
      refine Sq.guardYes hS rfl rfl hb ?_
      refine r_load_scS hS rfl (by repeat (first | exact In.here | refine In.there ?_)) Fc.sc99 (by rfl) rfl ?_; clear hS; intro a hS
      refine Sq.guardYes hS rfl rfl hb ?_
      refine r_call (l := [.tmp 32]) hS rfl rfl Fc.fn79 rfl ?_
      refine Calls.mono (mix_u _ _) ?_
      rintro e w1 ⟨r2, rfl, hE⟩
      replace hH := hH.ext hE
      refine ⟨_, rfl, hH.kp (by repeat (first | exact Sub.nil | refine Sub.cons ?_ ?_ | exact In.here | refine In.there ?_)), ?_⟩
      clear hS; intro a hS
      refine Sq.guardYes hS rfl rfl hb ?_
      refine r_eql hS trivial rfl rfl rfl ?_; clear hS; intro a hS
      refine r_pickT hS trivial rfl hb rfl rfl ?_; clear hS; intro a hS
      refine r_assign hS trivial rfl rfl ?_; clear hS; intro a hS
      refine Sq.nil ?_
      refine then_n ?_
      refine wp_ret ?_
      exact leave (.inl rfl) hS rfl (Res.tmp rfl Res.nil) ⟨_, rfl, hH.mod⟩
    · refine Sq.guardNo hS rfl rfl (by simpa using hb) trivial rfl ?_; clear hS; intro a hS
      refine Sq.guardNo hS rfl rfl (by simpa using hb) trivial rfl ?_; clear hS; intro a hS
      refine Sq.guardNo hS rfl rfl (by simpa using hb) trivial rfl ?_; clear hS; intro a hS
      refine Sq.guardNo hS rfl rfl (by simpa using hb) trivial rfl ?_; clear hS; intro a hS
      refine Sq.guardNo hS rfl rfl (by simpa using hb) (hH.kp (by repeat (first | exact Sub.nil | refine Sub.cons ?_ ?_ | exact In.here | refine In.there ?_))) rfl ?_; clear hS; intro a hS
      refine Sq.guardNo hS rfl rfl (by simpa using hb) trivial rfl ?_; clear hS; intro a hS
      refine r_pickF hS trivial rfl (by simpa using hb) rfl rfl ?_; clear hS; intro a hS
      refine r_assign hS trivial rfl rfl ?_; clear hS; intro a hS
      refine Sq.nil ?_
      refine then_n ?_
      refine wp_ret ?_
      exact leave (.inl rfl) hS rfl (Res.tmp rfl Res.nil) ⟨_, rfl, hH.mod⟩


theorem knows_v (b : Nat) (V : VB) (ts : List Tm) (hm : ts.length ≤ 1000000000) (hwf : Wf ts) (hpos : 0 < ts.length) (sv : Value) (ls : List (List UInt8)) (hll : ∀ l ∈ ls, l.length ≤ 1099511627776) (hls2 : ls.length ≤ 1048576) (w0 : World) (hvi : VI w0 b V ts) (hs : SlG Nobody w0 sv ls) :
    Calls Try.prog 55 #[.pointer (some ⟨b, 0, none⟩), sv] w0 fun e w' => ∃ bs bk K, e = .returned (.pointer (some ⟨bs, 0, none⟩)) ∧ w'.heap[bs]? = some (.cells [.pointer (some ⟨b, 0, none⟩), .slice (some ⟨bk, 0, none⟩) ts.length ts.length, .slice none 0 0].toArray 110 (0, 0)) ∧ w'.heap[bk]? = some (.cells (bools K).toArray 4 (0, 0)) ∧ Knows ts ls K ∧ Ext w0 w' ∧ w0.heap.size ≤ bs ∧ w0.heap.size ≤ bk := by
  obtain ⟨xs, p, cap, h1, h2⟩ := hs
  have hv := (h1 _ (Mod.refl _ _)).val
  cases p with
  | none =>
    have hc := (h1 _ (Mod.refl _ _)).nil rfl
    have hle := (h1 _ (Mod.refl _ _)).le
    have hl : ls = [] := List.eq_nil_of_length_eq_zero (by omega)
    subst hl
    subst hc
    subst hv
    exact knows_nil b V ts hm hwf hpos w0 hvi
  | some q =>
    subst hv
    exact knows_sl b V ts hm hwf hpos q cap ls hll hls2 xs w0 hvi h1 h2

set_option maxRecDepth 100000 in
set_option maxHeartbeats 4000000 in
theorem Hidden_v (b : Nat) (V : VB) (ts : List Tm) (hm : ts.length ≤ 1000000000) (hwf : Wf ts) (hpos : 0 < ts.length) (v sv : Value) (l : List UInt8) (hl : l.length ≤ 1099511627776) (ls : List (List UInt8)) (hll : ∀ l ∈ ls, l.length ≤ 1099511627776) (hls2 : ls.length ≤ 1048576) (w0 : World) (hvi : VI w0 b V ts) (hb : Bs w0 v l) (hss : SlG Nobody w0 sv ls) : Calls Try.prog 28 #[.pointer (some ⟨b, 0, none⟩), v, sv] w0 fun e w' => ∃ r K, e = .returned (.bool r) ∧ Knows ts ls K ∧ HidR ts K l r ∧ Ext w0 w' := by
  refine enter Try.func28 rfl rfl rfl ?_
  intro a hS
  have hH := Hp.start w0 (Nobody)
  obtain ⟨q, qc, hsl⟩ := hb
  have hb : Bs w0 v l := ⟨q, qc, hsl⟩
  have hv9 := hsl.val
  subst hv9
  obtain ⟨g2, hm2, hf2⟩ := hvi.ok.names
  replace hH := hH.knowV hvi (by intro p hp; simp at hp)
  refine c_seq ?_
  refine reg_plain w0 (Nobody) ?_
  refine r_assign hS hH.kp0 rfl rfl ?_; clear hS; intro a hS
  refine Sq.nil ?_
  refine then_n ?_
  refine c_seq ?_
  refine c_seq ?_
  refine reg_plain w0 (Nobody) ?_
  refine r_move hS hH.kp0 rfl rfl ?_; clear hS; intro a hS
  refine r_call (l := [.tmp 12]) hS rfl rfl Fc.fn49 rfl ?_
  refine Calls.mono (none_v b V ts _ (hH.vin hvi.ok hvi.n01 hvi.n23 (by repeat (first | exact In.here | refine In.there ?_)) (by repeat (first | exact In.here | refine In.there ?_)) (by repeat (first | exact In.here | refine In.there ?_)) (by repeat (first | exact In.here | refine In.there ?_)))) ?_
  rintro e w1 ⟨rfl, hE⟩
  replace hH := hH.ext hE
  refine ⟨_, rfl, hH.kp0, ?_⟩
  clear hS; intro a hS
  refine Sq.nil ?_
  refine then_n ?_
  refine c_condF hS rfl rfl ?_
  refine wp_skip ?_
  refine then_n ?_
  refine c_seq ?_
  refine reg_plain w0 (Nobody) ?_
  refine r_move hS hH.kp0 rfl rfl ?_; clear hS; intro a hS
  refine r_move hS hH.kp0 rfl rfl ?_; clear hS; intro a hS
  refine r_call (l := [.tmp 14, .tmp 15]) hS rfl rfl Fc.fn55 rfl ?_
  refine Calls.mono (knows_v b V ts hm hwf hpos sv ls hll hls2 _ (hH.vin hvi.ok hvi.n01 hvi.n23 (by repeat (first | exact In.here | refine In.there ?_)) (by repeat (first | exact In.here | refine In.there ?_)) (by repeat (first | exact In.here | refine In.there ?_)) (by repeat (first | exact In.here | refine In.there ?_))) (hss.go hH.mod (fun _ h => h.elim))) ?_
  rintro e w1 ⟨bs, bk, K, rfl, hbs1, hbk1, hKN, hE, hbs, hbk⟩
  have hlt := fun (p : Nat × Obj) hp => lt_of_block (hH.blk p hp)
  have hsz := hH.mod.size
  have hbs0 := Nat.le_trans hsz hbs
  have hbk0 := Nat.le_trans hsz hbk
  have nbk : bs ≠ bk := by intro e; rw [e, hbk1] at hbs1; simp at hbs1
  replace hH := ((hH.ext hE).know hbk1 (fun p hp e => by have h1 := hlt p hp; omega)).know hbs1 (by intro p hp; rcases List.mem_cons.1 hp with rfl | hp; exact Ne.symm nbk; exact fun e => by have h1 := hlt p hp; omega)
  refine ⟨_, rfl, hH.kp0, ?_⟩
  clear hS; intro a hS
  refine r_assign hS hH.kp0 rfl rfl ?_; clear hS; intro a hS
  refine Sq.nil ?_
  refine then_n ?_
  refine c_seq ?_
  refine c_seq ?_
  refine reg_plain w0 (Nobody) ?_
  refine r_assign hS hH.kp0 rfl rfl ?_; clear hS; intro a hS
  refine Sq.nil ?_
  refine then_n ?_
  refine wp_block ?_
  refine c_loop (fun m a w => ∃ (i : Nat) (ii : Int), m + i = l.length ∧ ii = i ∧ Bare ts K l i ∧ St 59 (lv [(0, .pointer (some ⟨b, 0, none⟩)), (1, .slice q l.length qc), (7, .pointer (some ⟨bs, 0, none⟩)), (8, .int .i64 ii)]) a ∧ Hp w0 Nobody [(bs, .cells [.pointer (some ⟨b, 0, none⟩), .slice (some ⟨bk, 0, none⟩) ts.length ts.length, .slice none 0 0].toArray 110 (0, 0)), (bk, .cells (bools K).toArray 4 (0, 0)), (b, .cells (V.top ts.length).toArray 71 (0, 0)), (V.sb, .cells V.l.toArray 93 (0, 0)), (V.fb, .map V.es V.c), (V.nb, .map V.es' V.c')] w) (l.length) ?_ ?_
  · exact ⟨0, _, by omega, rfl, fun z hz => by omega, hS.live ⟨rfl, rfl, rfl, rfl, trivial⟩, hH⟩
  clear hS hH; intro m a w hI; obtain ⟨i, ii, hmi, hii, hB, hS, hH⟩ := hI
  refine c_seq ?_
  refine c_seq ?_
  refine reg_plain w0 (Nobody) ?_
  refine r_move hS hH.kp0 rfl rfl ?_; clear hS; intro a hS
  first | refine r_add hS hH.kp0 rfl rfl rfl (by omega) ?_ | refine r_addw hS hH.kp0 rfl rfl rfl ?_
  clear hS; intro a hS
  refine r_move hS hH.kp0 rfl rfl ?_; clear hS; intro a hS
  refine r_lenSl hS hH.kp0 rfl Fc.isSlice22 rfl ?_; clear hS; intro a hS
  refine r_leq hS hH.kp0 rfl rfl rfl ?_; clear hS; intro a hS
  refine Sq.nil ?_
  refine then_n ?_
  refine c_cond hS rfl (fun hc1 => ?_) (fun hc1 => ?_)
  · have hlt := of_decide_eq_true hc1
    obtain ⟨ba, bo, hq⟩ := hsl.addr (by omega)
    subst hq
    have hcl := fun w k => hb.f.cells16 i w k
    have hsle := hsl.le
    obtain ⟨g, hg⟩ : ∃ g, g = (l.drop i).take 16 := ⟨_, rfl⟩
    rw [← hg] at hcl
    have hg16 : g.length = 16 := by rw [hg]; simp; omega
    obtain ⟨g0, g1, g2, g3, g4, g5, g6, g7, g8, g9, ga, gb, gc, gd, ge, gf, rfl⟩ := len16 hg16
    obtain ⟨n0, th, e1, e2, hcase⟩ := hf2.look2 [g0, g1, g2, g3, g4, g5, g6, g7, g8, g9, ga, gb, gc, gd, ge, gf]
    refine wp_skip ?_
    refine then_n ?_
    refine c_seq ?_
    refine wp_block ?_
    refine c_seq ?_
    refine reg_plain w0 (Nobody) ?_
    refine r_move hS hH.kp0 rfl rfl ?_; clear hS; intro a hS
    refine r_move hS hH.kp0 rfl rfl ?_; clear hS; intro a hS
    refine r_move hS hH.kp0 rfl rfl ?_; clear hS; intro a hS
    first | refine r_add hS hH.kp0 rfl rfl rfl (by omega) ?_ | refine r_addw hS hH.kp0 rfl rfl rfl ?_
    clear hS; intro a hS
    refine r_slLoHi (ll := i) (hh := i + 16) hS hH.kp0 rfl rfl rfl Fc.slb22 hii (by omega) (by omega) (by omega) rfl ?_; clear hS; intro a hS
    rw [if_neg (show ¬ qc = i by omega)] at hS
    refine r_toArr hS hH.kp0 rfl Fc.ar26 (by omega) rfl ?_; clear hS; intro a hS
    refine r_load_cells (l := hcells [g0, g1, g2, g3, g4, g5, g6, g7, g8, g9, ga, gb, gc, gd, ge, gf]) hS hH.kp0 rfl Fc.ag26 rfl (hcl _ hH.mod) rfl ?_; clear hS; intro a hS
    refine r_alloc hS hH (by repeat (first | exact Sub.nil | refine Sub.cons ?_ ?_ | exact In.here | refine In.there ?_)) Fc.zc26 rfl ?_
    clear hS hH; intro a w b9 hb9 hwb9 hS hH
    refine r_store_row hS hH rfl rfl (by first | exact .here | exact .there .here | exact .there (.there .here) | exact .there (.there (.there .here)) | exact .there (.there (.there (.there .here))) | exact .there (.there (.there (.there (.there .here)))) | exact .there (.there (.there (.there (.there (.there .here))))) | exact .there (.there (.there (.there (.there (.there (.there .here)))))) | exact .there (.there (.there (.there (.there (.there (.there (.there .here))))))) | exact .there (.there (.there (.there (.there (.there (.there (.there (.there .here)))))))) | exact .there (.there (.there (.there (.there (.there (.there (.there (.there (.there .here))))))))) | exact .there (.there (.there (.there (.there (.there (.there (.there (.there (.there (.there .here)))))))))) | exact .there (.there (.there (.there (.there (.there (.there (.there (.there (.there (.there (.there .here))))))))))) | exact .there (.there (.there (.there (.there (.there (.there (.there (.there (.there (.there (.there (.there .here)))))))))))) | exact .there (.there (.there (.there (.there (.there (.there (.there (.there (.there (.there (.there (.there (.there .here))))))))))))) | exact .there (.there (.there (.there (.there (.there (.there (.there (.there (.there (.there (.there (.there (.there (.there .here))))))))))))))) (by repeat (first | exact Sub.nil | refine Sub.cons ?_ ?_ | exact In.here | refine In.there ?_)) Fc.sz26 (by first | exact hcells_one _ | exact of_decide_eq_true rfl) (by rfl) (by first | exact .inr (by assumption) | exact .inl (by first | assumption | rfl)) ?_
    clear hH; intro w hH
    refine Sq.nil ?_
    refine then_n ?_
    refine c_seq ?_
    refine reg_draw [(true, 0, []), (true, 1, []), (true, 2, []), (true, 3, []), (true, 4, []), (true, 5, []), (true, 6, []), (true, 7, []), (true, 8, []), (true, 9, []), (true, 10, [])] Fc.mixed (by kernel_rfl) (by kernel_rfl) (by kernel_rfl) (by kernel_rfl) (by kernel_rfl) (by repeat (first | with_reducible exact steady_body | with_reducible apply steady_block | with_reducible apply steady_then | exact steady_body)) hH ?_
    replace hH := hH.drew
    refine r_move hS trivial rfl rfl ?_; clear hS; intro a hS
    refine r_nilCheck hS trivial rfl rfl ?_; clear hS; intro a hS
    refine r_fieldAddr hS trivial rfl Fc.fo71_2 rfl ?_; clear hS; intro a hS
    refine r_load_scS hS rfl (by repeat (first | exact In.here | refine In.there ?_)) Fc.sc69 (by rfl) rfl ?_; clear hS; intro a hS
    refine r_load_rowS hS rfl (by repeat (first | exact In.here | refine In.there ?_)) Fc.ag26 (by rfl) rfl ?_; clear hS; intro a hS
    refine r_lookupS2 Fc.mtN hS rfl rfl (by repeat (first | exact In.here | refine In.there ?_)) hm2 (Fc.arrH.keyOf (h := [g0, g1, g2, g3, g4, g5, g6, g7, g8, g9, ga, gb, gc, gd, ge, gf]) rfl) e1 e2 rfl ?_; clear hS; intro a hS
    refine r_move hS trivial rfl rfl ?_; clear hS; intro a hS
    refine r_extract hS trivial rfl rfl rfl ?_; clear hS; intro a hS
    refine r_extract hS trivial rfl rfl rfl ?_; clear hS; intro a hS
    refine r_assign hS trivial rfl rfl ?_; clear hS; intro a hS
    refine r_assign hS trivial rfl rfl ?_; clear hS; intro a hS
    refine Sq.nil ?_
    refine then_n ?_
    refine c_seq ?_
    refine reg_plain w0 (Nobody) ?_
    refine r_move hS hH.kp0 rfl rfl ?_; clear hS; intro a hS
    rcases th with _ | _
    · rcases hcase with ⟨h, _⟩ | ⟨_, _, hno⟩
      · cases h
      have hnx : ∀ j, j < ts.length → (l.drop i).take 16 = nm j → KT K j := fun j hj e => absurd (hg.trans e) (hno j hj)
      refine r_move hS hH.kp0 rfl rfl ?_; clear hS; intro a hS
      refine Sq.guardNo hS rfl rfl rfl hH.kp0 rfl ?_; clear hS; intro a hS
      refine Sq.guardNo hS rfl rfl rfl hH.kp0 rfl ?_; clear hS; intro a hS
      refine Sq.guardNo hS rfl rfl rfl hH.kp0 rfl ?_; clear hS; intro a hS
      refine Sq.guardNo hS rfl rfl rfl hH.kp0 rfl ?_; clear hS; intro a hS
      refine Sq.guardNo hS rfl rfl rfl hH.kp0 rfl ?_; clear hS; intro a hS
      refine Sq.guardNo hS rfl rfl rfl hH.kp0 rfl ?_; clear hS; intro a hS
      refine Sq.guardNo hS rfl rfl rfl hH.kp0 rfl ?_; clear hS; intro a hS
      refine Sq.guardNo hS rfl rfl rfl hH.kp0 rfl ?_; clear hS; intro a hS
      refine r_pickF hS hH.kp0 rfl rfl rfl rfl ?_; clear hS; intro a hS
      refine r_move hS hH.kp0 rfl rfl ?_; clear hS; intro a hS
      refine Sq.guardYes hS rfl rfl rfl ?_
      refine r_move hS hH.kp0 rfl rfl ?_; clear hS; intro a hS
      refine Sq.guardYes hS rfl rfl rfl ?_
      refine r_not hS hH.kp0 rfl rfl ?_; clear hS; intro a hS
      refine Sq.guardYes hS rfl rfl rfl ?_
      refine r_move hS hH.kp0 rfl rfl ?_; clear hS; intro a hS
      refine Sq.guardYes hS rfl rfl rfl ?_
      refine r_load_row hS hH (by repeat (first | exact Sub.nil | refine Sub.cons ?_ ?_ | exact In.here | refine In.there ?_)) rfl (by repeat (first | exact In.here | refine In.there ?_)) Fc.ag26 (by rfl) rfl ?_; clear hS; intro a hS
      refine Sq.guardYes hS rfl rfl rfl ?_
      refine r_call (l := [.tmp 55]) hS rfl rfl Fc.fn56 rfl ?_
      refine Calls.mono (isName_v [g0, g1, g2, g3, g4, g5, g6, g7, g8, g9, ga, gb, gc, gd, ge, gf] rfl _) ?_
      rintro e w1 ⟨r0, rfl, hE⟩
      replace hH := hH.ext hE
      refine ⟨_, rfl, hH.kp0, ?_⟩
      clear hS; intro a hS
      refine Sq.guardYes hS rfl rfl rfl ?_
      refine r_pickT hS hH.kp0 rfl rfl rfl rfl ?_; clear hS; intro a hS
      refine r_pickF hS hH.kp0 rfl rfl rfl rfl ?_; clear hS; intro a hS
      refine Sq.nil ?_
      refine then_n ?_
      refine c_cond hS rfl (fun hc2 => ?_) (fun hc2 => ?_)
      · have hR : HidR ts K l true := HidR.mk1 (i := i) (by omega) (fun j hj e => absurd (hg.trans e) (hno j hj))
        refine c_seq ?_
        refine reg_plain w0 (Nobody) ?_
        refine r_assign hS hH.kp0 rfl rfl ?_; clear hS; intro a hS
        refine Sq.nil ?_
        refine then_n ?_
        refine wp_ret ?_
        refine blk_r ?_
        refine then_r ?_
        refine then_r ?_
        refine blk_r ?_
        refine then_r ?_
        refine leave (.inl rfl) hS rfl (Res.tmp rfl Res.nil) ⟨_, K, rfl, hKN, ?_, hH.mod⟩
        first | exact hR | exact HidR.mk0 hB (by omega)
      · refine wp_skip ?_
        refine blk_n ?_
        refine then_n ?_
        refine reg_plain w0 (Nobody) ?_
        refine r_move hS hH.kp0 rfl rfl ?_; clear hS; intro a hS
        first | refine r_add hS hH.kp0 rfl rfl rfl (by omega) ?_ | refine r_addw hS hH.kp0 rfl rfl rfl ?_
        clear hS; intro a hS
        refine r_assign hS hH.kp0 rfl rfl ?_; clear hS; intro a hS
        refine Sq.nil ?_
        refine then_n ?_
        refine ⟨m - 1, by omega, i + 1, _, by omega, by omega, hB.next ?_, hS.live ⟨rfl, rfl, rfl, rfl, trivial⟩, hH.drop [0]⟩
        exact hnx
    · rcases hcase.symm with ⟨h, _⟩ | ⟨_, j, hj, hn0, hgj⟩
      · cases h
      subst hn0
      obtain ⟨kj, hkj⟩ : ∃ k, K[j]? = some k := ⟨_, List.getElem?_eq_getElem (by rw [hKN.len]; exact hj)⟩
      refine r_move hS hH.kp0 rfl rfl ?_; clear hS; intro a hS
      refine Sq.guardYes hS rfl rfl rfl ?_
      refine r_move hS hH.kp0 rfl rfl ?_; clear hS; intro a hS
      refine Sq.guardYes hS rfl rfl rfl ?_
      refine r_nilCheck hS hH.kp0 rfl rfl ?_; clear hS; intro a hS
      refine Sq.guardYes hS rfl rfl rfl ?_
      refine r_fieldAddr hS hH.kp0 rfl Fc.fo110_1 rfl ?_; clear hS; intro a hS
      refine Sq.guardYes hS rfl rfl rfl ?_
      refine r_load_sc hS hH (by repeat (first | exact Sub.nil | refine Sub.cons ?_ ?_ | exact In.here | refine In.there ?_)) rfl (by repeat (first | exact In.here | refine In.there ?_)) Fc.sc41 (by rfl) rfl ?_; clear hS; intro a hS
      refine Sq.guardYes hS rfl rfl rfl ?_
      refine r_move hS hH.kp0 rfl rfl ?_; clear hS; intro a hS
      refine Sq.guardYes hS rfl rfl rfl ?_
      refine r_indexAddrS (j := j) hS hH.kp0 rfl rfl Fc.slb41 rfl hj rfl ?_; clear hS; intro a hS
      refine Sq.guardYes hS rfl rfl rfl ?_
      refine r_load_sc hS hH (by repeat (first | exact Sub.nil | refine Sub.cons ?_ ?_ | exact In.here | refine In.there ?_)) rfl (by repeat (first | exact In.here | refine In.there ?_)) Fc.sc4 (v := .bool kj) (by rw [nthV_eq, Nat.zero_add, Nat.mul_one]; exact bools_get hkj) rfl ?_; clear hS; intro a hS
      rcases kj with _ | _
      · have hR : HidR ts K l true := HidR.mk1 (i := i) (by omega) (fun j2 hj2 e => by have e3 : j2 = j := nm_inj (by omega) (by omega) ((hg.trans e).symm.trans hgj); subst e3; unfold KT; rw [hkj]; simp)
        refine Sq.guardYes hS rfl rfl rfl ?_
        refine r_not hS hH.kp0 rfl rfl ?_; clear hS; intro a hS
        refine r_pickT hS hH.kp0 rfl rfl rfl rfl ?_; clear hS; intro a hS
        refine r_move hS hH.kp0 rfl rfl ?_; clear hS; intro a hS
        refine Sq.guardNo hS rfl rfl rfl hH.kp0 rfl ?_; clear hS; intro a hS
        refine Sq.guardNo hS rfl rfl rfl hH.kp0 rfl ?_; clear hS; intro a hS
        refine Sq.guardNo hS rfl rfl rfl hH.kp0 rfl ?_; clear hS; intro a hS
        refine Sq.guardOff hS rfl rfl hH.kp0 rfl ?_; clear hS; intro a hS
        refine Sq.guardOff hS rfl rfl hH.kp0 rfl ?_; clear hS; intro a hS
        refine Sq.guardNo hS rfl rfl rfl hH.kp0 rfl ?_; clear hS; intro a hS
        refine r_pickT hS hH.kp0 rfl rfl rfl rfl ?_; clear hS; intro a hS
        refine Sq.nil ?_
        refine then_n ?_
        refine c_condT hS rfl rfl ?_
        refine c_seq ?_
        refine reg_plain w0 (Nobody) ?_
        refine r_assign hS hH.kp0 rfl rfl ?_; clear hS; intro a hS
        refine Sq.nil ?_
        refine then_n ?_
        refine wp_ret ?_
        refine blk_r ?_
        refine then_r ?_
        refine then_r ?_
        refine blk_r ?_
        refine then_r ?_
        refine leave (.inl rfl) hS rfl (Res.tmp rfl Res.nil) ⟨_, K, rfl, hKN, ?_, hH.mod⟩
        first | exact hR | exact HidR.mk0 hB (by omega)
      · have hnx : ∀ j, j < ts.length → (l.drop i).take 16 = nm j → KT K j := fun j2 hj2 e => by have e3 : j2 = j := nm_inj (by omega) (by omega) ((hg.trans e).symm.trans hgj); subst e3; exact hkj
        refine Sq.guardYes hS rfl rfl rfl ?_
        refine r_not hS hH.kp0 rfl rfl ?_; clear hS; intro a hS
        refine r_pickT hS hH.kp0 rfl rfl rfl rfl ?_; clear hS; intro a hS
        refine r_move hS hH.kp0 rfl rfl ?_; clear hS; intro a hS
        refine Sq.guardYes hS rfl rfl rfl ?_
        refine r_move hS hH.kp0 rfl rfl ?_; clear hS; intro a hS
        refine Sq.guardYes hS rfl rfl rfl ?_
        refine r_not hS hH.kp0 rfl rfl ?_; clear hS; intro a hS
        refine Sq.guardYes hS rfl rfl rfl ?_
        refine r_move hS hH.kp0 rfl rfl ?_; clear hS; intro a hS
        refine Sq.guardNo hS rfl rfl rfl hH.kp0 rfl ?_; clear hS; intro a hS
        refine Sq.guardNo hS rfl rfl rfl hH.kp0 rfl ?_; clear hS; intro a hS
        refine Sq.guardYes hS rfl rfl rfl ?_
        refine r_pickF hS hH.kp0 rfl rfl rfl rfl ?_; clear hS; intro a hS
        refine r_pickF hS hH.kp0 rfl rfl rfl rfl ?_; clear hS; intro a hS
        refine Sq.nil ?_
        refine then_n ?_
        refine c_condF hS rfl rfl ?_
        refine wp_skip ?_
        refine blk_n ?_
        refine then_n ?_
        refine reg_plain w0 (Nobody) ?_
        refine r_move hS hH.kp0 rfl rfl ?_; clear hS; intro a hS
        first | refine r_add hS hH.kp0 rfl rfl rfl (by omega) ?_ | refine r_addw hS hH.kp0 rfl rfl rfl ?_
        clear hS; intro a hS
        refine r_assign hS hH.kp0 rfl rfl ?_; clear hS; intro a hS
        refine Sq.nil ?_
        refine then_n ?_
        refine ⟨m - 1, by omega, i + 1, _, by omega, by omega, hB.next ?_, hS.live ⟨rfl, rfl, rfl, rfl, trivial⟩, hH.drop [0]⟩
        exact hnx
  · have hge := of_decide_eq_false hc1
    refine wp_exit ?_
    refine then_e ?_
    refine then_e ?_
    refine blk_hit ?_
    refine then_n ?_
    refine c_seq ?_
    refine reg_plain w0 (Nobody) ?_
    refine r_assign hS hH.kp0 rfl rfl ?_; clear hS; intro a hS
    refine Sq.nil ?_
    refine then_n ?_
    refine wp_ret ?_
    refine leave (.inl rfl) hS rfl (Res.tmp rfl Res.nil) ⟨_, K, rfl, hKN, ?_, hH.mod⟩
    first | exact hR | exact HidR.mk0 hB (by omega)

end Go.Proofs.Ytcjmehononbadaa
