/- HeaderBack: a header that is put is read again, with the place and the lowest bytes of the number. Conditions: those of the given row (arguments of at most 1048576 values and letters; the listed variables hold what the text lays). Part Puts2: walks and lemmas of the proof. -/
import Derived.Test.YtcenionnedgadaaDoorPuts1
import Derived.Test.YtcenionnedgadaaDoorSymStep
namespace Go.Proofs.YtcenionnedgadaaDoor
open Go.Sym

theorem Fp.bsl23_4 : bslB Tryd.prog 23 4 = some (3, 1, [.int .i64 0, .int .i64 0, .int .i64 0, .int .i64 0]) := by kernel_rfl
theorem Fp.fn27 : isFn Tryd.prog 27 = true := by kernel_rfl
theorem Fp.fn44 : isFn Tryd.prog 44 = true := by kernel_rfl
theorem Fp.fn45 : isFn Tryd.prog 45 = true := by kernel_rfl
theorem Fp.fn49 : isFn Tryd.prog 49 = true := by kernel_rfl
theorem Fp.i64_3 : isI64 Tryd.prog 3 = true := by kernel_rfl
theorem Fp.isSlice32 : isSlice Tryd.prog 32 = true := by kernel_rfl
theorem Fp.slb32 : slB Tryd.prog 32 = some 1 := by kernel_rfl
set_option maxRecDepth 100000 in
set_option maxHeartbeats 400000 in
theorem Grow_nil (i : Int) (m : Nat) (hi : i = m) (hm : m ≤ 1099511627776) (w0 : World) : Calls Tryd.prog 45 #[.slice none 0 0, .int .i64 i] w0 fun e w' => ∃ v, e = .returned v ∧ Own w0.heap.size 1 5 w' v 0 [] ∧ Ext w0 w' := by
  refine enter Tryd.func45 rfl rfl rfl ?_
  intro a hS
  have hH := Hp.start w0 (Nobody)
  refine c_seq ?_
  refine reg_plain w0 (Nobody) ?_
  refine r_assign hS hH.kp0 rfl rfl ?_; clear hS; intro a hS
  refine Sq.nil ?_
  refine then_n ?_
  refine c_seq ?_
  refine c_seq ?_
  refine reg_plain w0 (Nobody) ?_
  refine r_move hS hH.kp0 rfl rfl ?_; clear hS; intro a hS
  refine r_lss hS hH.kp0 rfl rfl rfl ?_; clear hS; intro a hS
  refine Sq.nil ?_
  refine then_n ?_
  refine c_condF hS rfl (DF (by omega)) ?_
  refine wp_skip ?_
  refine then_n ?_
  refine c_seq ?_
  refine c_seq ?_
  refine reg_plain w0 (Nobody) ?_
  refine r_move hS hH.kp0 rfl rfl ?_; clear hS; intro a hS
  refine r_move hS hH.kp0 rfl rfl ?_; clear hS; intro a hS
  refine r_capSl hS hH.kp0 rfl Fp.isSlice22 rfl ?_; clear hS; intro a hS
  refine r_move hS hH.kp0 rfl rfl ?_; clear hS; intro a hS
  refine r_lenSl hS hH.kp0 rfl Fp.isSlice22 rfl ?_; clear hS; intro a hS
  first | refine r_sub hS hH.kp0 rfl rfl rfl (by omega) ?_ | refine r_subw hS hH.kp0 rfl rfl rfl ?_
  clear hS; intro a hS
  first | refine r_sub hS hH.kp0 rfl rfl rfl (by omega) ?_ | refine r_subw hS hH.kp0 rfl rfl rfl ?_
  clear hS; intro a hS
  refine r_assign hS hH.kp0 rfl rfl ?_; clear hS; intro a hS
  refine Sq.nil ?_
  refine then_n ?_
  refine c_seq ?_
  refine reg_plain w0 (Nobody) ?_
  refine r_move hS hH.kp0 rfl rfl ?_; clear hS; intro a hS
  refine r_gtr hS hH.kp0 rfl rfl rfl ?_; clear hS; intro a hS
  refine Sq.nil ?_
  refine then_n ?_
  refine c_cond hS rfl (fun hc1 => ?_) (fun hc1 => ?_)
  · have hpos := of_decide_eq_true hc1
    refine reg_plain w0 (Nobody) ?_
    refine r_move hS hH.kp0 rfl rfl ?_; clear hS; intro a hS
    refine r_move hS hH.kp0 rfl rfl ?_; clear hS; intro a hS
    refine r_capSl hS hH.kp0 rfl Fp.isSlice22 rfl ?_; clear hS; intro a hS
    refine r_slHi (hh := 0) hS hH.kp0 rfl rfl Fp.slb22 rfl (Nat.le_refl _) (by intro q h; cases h) rfl ?_; clear hS; intro a hS
    refine r_move hS hH.kp0 rfl rfl ?_; clear hS; intro a hS
    refine r_appendZ (m := m) hS hH Sub.nil rfl rfl (by omega) (by omega) Fp.el22 Fp.i64_3 (by omega) (by omega) rfl ?_; clear hS hH; intro a w b c l hb hl hc hS hH
    refine r_move hS hH.kp0 rfl rfl ?_; clear hS; intro a hS
    refine r_lenSl hS hH.kp0 rfl Fp.isSlice22 rfl ?_; clear hS; intro a hS
    refine r_slHi (hh := 0) hS hH.kp0 rfl rfl Fp.slb22 rfl (Nat.zero_le _) (by intro q h; cases h; rfl) rfl ?_; clear hS; intro a hS
    refine r_assign hS hH.kp0 rfl rfl ?_; clear hS; intro a hS
    refine Sq.nil ?_
    refine then_n ?_
    refine c_seq ?_
    refine reg_plain w0 (Nobody) ?_
    refine r_move hS hH.kp0 rfl rfl ?_; clear hS; intro a hS
    refine r_assign hS hH.kp0 rfl rfl ?_; clear hS; intro a hS
    refine Sq.nil ?_
    refine then_n ?_
    refine wp_ret ?_
    exact leave (.inl rfl) hS rfl (Res.tmp rfl Res.nil) ⟨_, rfl, .inr ⟨_, _, _, rfl, hb, hH.get .here, hl, Nat.zero_le _, by simp⟩, hH.mod⟩
  · refine wp_skip ?_
    refine then_n ?_
    refine c_seq ?_
    refine reg_plain w0 (Nobody) ?_
    refine r_move hS hH.kp0 rfl rfl ?_; clear hS; intro a hS
    refine r_assign hS hH.kp0 rfl rfl ?_; clear hS; intro a hS
    refine Sq.nil ?_
    refine then_n ?_
    refine wp_ret ?_
    exact leave (.inl rfl) hS rfl (Res.tmp rfl Res.nil) ⟨_, rfl, Own.nil _ _ _ _, hH.mod⟩

set_option maxRecDepth 100000 in
set_option maxHeartbeats 1000000 in
theorem Concat_b (v : Value) (ls : List (List UInt8)) (w0 : World) (h : SlB w0 v ls) (hn : ls.flatten.length ≤ 1099511627776) (hn2 : ls.length ≤ 1099511627776) : Calls Tryd.prog 28 #[v] w0 fun e w' => ∃ r, e = .returned r ∧ Own w0.heap.size 1 5 w' r ls.flatten.length (ls.flatten.map byteV) ∧ Ext w0 w' := by
  refine enter Tryd.func28 rfl rfl rfl ?_
  intro a hS
  have hH := Hp.start w0 (Nobody)
  refine c_seq ?_
  refine reg_plain w0 (Nobody) ?_
  refine r_assign hS hH.kp0 rfl rfl ?_; clear hS; intro a hS
  refine Sq.nil ?_
  refine then_n ?_
  refine c_seq ?_
  refine reg_plain w0 (Nobody) ?_
  refine r_assign hS hH.kp0 rfl rfl ?_; clear hS; intro a hS
  refine Sq.nil ?_
  refine then_n ?_
  refine c_seq ?_
  refine c_seq ?_
  obtain ⟨vs, p, cap, hsl0, hall0⟩ := h
  have hv0 := hsl0.val
  subst hv0
  refine reg_plain w0 (Nobody) ?_
  refine r_move hS hH.kp0 rfl rfl ?_; clear hS; intro a hS
  refine r_lenSl hS hH.kp0 rfl Fp.isSlice32 rfl ?_; clear hS; intro a hS
  refine r_move hS hH.kp0 rfl rfl ?_; clear hS; intro a hS
  refine Sq.nil ?_
  refine then_n ?_
  refine wp_block ?_
  refine c_loop (fun m a w => ∃ (k : Nat) (i s : Int), m + k = ls.length ∧ i = k ∧ s = (ls.take k).flatten.length ∧ St 36 (lv [(0, .slice p ls.length cap), (3, .int .i64 s), (9, .slice p ls.length cap), (10, .int .i64 (ls.length : Int)), (11, .int .i64 i)]) a ∧ Hp w0 Nobody [] w) (ls.length) ?_ ?_
  · exact ⟨0, _, _, rfl, rfl, rfl, hS.live ⟨rfl, rfl, rfl, rfl, rfl, trivial⟩, hH⟩
  clear hS hH; intro m a w hI; obtain ⟨k, i, s, hmk, hi, hs, hS, hH⟩ := hI
  have hbd : ∀ j, (ls.take j).flatten.length ≤ 1099511627776 := fun j => Nat.le_trans (len_take_flatten ls j) hn
  refine c_seq ?_
  refine reg_plain w0 (Nobody) ?_
  refine r_lss hS hH.kp0 rfl rfl rfl ?_; clear hS; intro a hS
  refine Sq.nil ?_
  refine then_n ?_
  refine c_seq ?_
  refine c_cond hS rfl (fun hc0 => ?_) (fun hc0 => ?_)
  · have hlt := of_decide_eq_true hc0
    have hsl := hsl0.ext hH.mod
    obtain ⟨x, hx⟩ : ∃ x, vs[k]? = some x := ⟨_, List.getElem?_eq_getElem (by rw [hsl.len]; omega)⟩
    obtain ⟨l, hl, hbx⟩ := hall0 k x hx
    obtain ⟨b, o, hp, hcell⟩ := hsl.cells k x hx
    obtain ⟨q, c2, hxs⟩ := hbx
    subst hp
    have hx2 := hxs.val
    subst hx2
    refine wp_skip ?_
    refine then_n ?_
    refine c_seq ?_
    refine wp_block ?_
    refine c_seq ?_
    refine reg_plain w0 (Nobody) ?_
    refine r_indexAddrS (j := k) hS hH.kp0 rfl rfl Fp.slb32 hi (by omega) rfl ?_; clear hS; intro a hS
    refine r_load_cell hS hH.kp0 rfl (by rw [Nat.mul_one]; exact hcell) Fp.sc22 rfl ?_; clear hS; intro a hS
    refine r_assign hS hH.kp0 rfl rfl ?_; clear hS; intro a hS
    refine Sq.nil ?_
    refine then_n ?_
    refine c_seq ?_
    refine reg_plain w0 (Nobody) ?_
    refine r_move hS hH.kp0 rfl rfl ?_; clear hS; intro a hS
    refine r_move hS hH.kp0 rfl rfl ?_; clear hS; intro a hS
    refine r_lenSl hS hH.kp0 rfl Fp.isSlice22 rfl ?_; clear hS; intro a hS
    have hi2 : s + (l.length : Int) = ((ls.take (k + 1)).flatten.length : Int) := by have := take_succ_len hl; omega
    have := hbd (k + 1)
    refine r_add hS hH.kp0 rfl rfl rfl (by omega) ?_; clear hS; intro a hS
    refine r_assign hS hH.kp0 rfl rfl ?_; clear hS; intro a hS
    refine Sq.nil ?_
    refine then_n ?_
    refine c_seq ?_
    refine reg_plain w0 (Nobody) ?_
    refine r_move hS hH.kp0 rfl rfl ?_; clear hS; intro a hS
    refine r_lss hS hH.kp0 rfl rfl rfl ?_; clear hS; intro a hS
    refine Sq.nil ?_
    refine then_n ?_
    refine c_condF hS rfl (DF (by have := hbd k; have := take_succ_len hl; have := hbd (k + 1); omega)) ?_
    refine wp_skip ?_
    refine blk_n ?_
    refine then_n ?_
    refine reg_plain w0 (Nobody) ?_
    refine r_add hS hH.kp0 rfl rfl rfl (by omega) ?_; clear hS; intro a hS
    refine r_move hS hH.kp0 rfl rfl ?_; clear hS; intro a hS
    refine Sq.nil ?_
    refine then_n ?_
    refine ⟨m - 1, by omega, k + 1, _, _, by omega, ?_, ?_, hS.live ⟨rfl, rfl, rfl, rfl, rfl, trivial⟩, hH⟩
    · omega
    · exact hi2
  · have hge := of_decide_eq_false hc0
    have hk : k = ls.length := by omega
    subst hk
    refine wp_exit ?_
    refine then_e ?_
    refine then_e ?_
    refine blk_hit ?_
    refine then_n ?_
    refine c_seq ?_
    refine reg_plain w0 (Nobody) ?_
    refine r_move hS hH.kp0 rfl rfl ?_; clear hS; intro a hS
    refine r_call (l := [.const (.slice none 0 0), .tmp 23]) hS rfl rfl Fp.fn45 rfl ?_
    refine Calls.mono (Grow_nil _ ls.flatten.length (by rw [hs, List.take_of_length_le (Nat.le_refl _)]) hn _) ?_
    rintro e w1 ⟨u, rfl, hO, hE⟩
    have hO : Own w0.heap.size 1 5 w1 u 0 [] := Own.mono hO hH.mod.size
    replace hH := hH.ext hE
    refine ⟨_, rfl, hH.kp0, ?_⟩
    clear hS; intro a hS
    refine r_assign hS hH.kp0 rfl rfl ?_; clear hS; intro a hS
    refine Sq.nil ?_
    refine then_n ?_
    refine c_seq ?_
    refine c_seq ?_
    refine reg_plain w0 (Nobody) ?_
    refine r_move hS hH.kp0 rfl rfl ?_; clear hS; intro a hS
    refine r_lenSl hS hH.kp0 rfl Fp.isSlice32 rfl ?_; clear hS; intro a hS
    refine r_move hS hH.kp0 rfl rfl ?_; clear hS; intro a hS
    refine Sq.nil ?_
    refine then_n ?_
    refine wp_block ?_
    refine c_loop (fun m a w => ∃ (k : Nat) (i : Int) (u : Value), m + k = ls.length ∧ i = k ∧ Own w0.heap.size 1 5 w u (ls.take k).flatten.length ((ls.take k).flatten.map byteV) ∧ St 36 (lv [(0, .slice p ls.length cap), (6, u), (25, .slice p ls.length cap), (26, .int .i64 (ls.length : Int)), (27, .int .i64 i)]) a ∧ Hp w0 Nobody [] w) (ls.length) ?_ ?_
    · exact ⟨0, _, _, rfl, rfl, hO, hS.live ⟨rfl, rfl, rfl, rfl, rfl, trivial⟩, hH⟩
    clear hS hH hO; intro m a w hI; obtain ⟨k, i, u, hmk, hi, hO, hS, hH⟩ := hI
    refine c_seq ?_
    refine reg_plain w0 (Nobody) ?_
    refine r_lss hS hH.kp0 rfl rfl rfl ?_; clear hS; intro a hS
    refine Sq.nil ?_
    refine then_n ?_
    refine c_seq ?_
    refine c_cond hS rfl (fun hc2 => ?_) (fun hc2 => ?_)
    · have hlt := of_decide_eq_true hc2
      have hsl := hsl0.ext hH.mod
      obtain ⟨x, hx⟩ : ∃ x, vs[k]? = some x := ⟨_, List.getElem?_eq_getElem (by rw [hsl.len]; omega)⟩
      obtain ⟨l, hl, hbx⟩ := hall0 k x hx
      replace hbx := hbx.ext hH.mod
      obtain ⟨b, o, hp, hcell⟩ := hsl.cells k x hx
      subst hp
      refine wp_skip ?_
      refine then_n ?_
      refine c_seq ?_
      refine wp_block ?_
      refine c_seq ?_
      refine reg_plain w0 (Nobody) ?_
      refine r_indexAddrS (j := k) hS hH.kp0 rfl rfl Fp.slb32 hi (by omega) rfl ?_; clear hS; intro a hS
      refine r_load_cell hS hH.kp0 rfl (by rw [Nat.mul_one]; exact hcell) Fp.sc22 rfl ?_; clear hS; intro a hS
      refine r_assign hS hH.kp0 rfl rfl ?_; clear hS; intro a hS
      refine Sq.nil ?_
      refine then_n ?_
      refine reg_plain w0 (Nobody) ?_
      refine r_move hS hH.kp0 rfl rfl ?_; clear hS; intro a hS
      refine r_move hS hH.kp0 rfl rfl ?_; clear hS; intro a hS
      refine r_append_O hS hH rfl rfl hO Fp.el22 Fp.ni22 hbx.src (by have := take_succ_len hl; have := len_take_flatten ls (k + 1); omega) rfl ?_; clear hS hH hO; intro a w u2 hO hmw hS hH
      refine r_assign hS hH.kp0 rfl rfl ?_; clear hS; intro a hS
      refine Sq.nil ?_
      refine blk_n ?_
      refine then_n ?_
      refine reg_plain w0 (Nobody) ?_
      refine r_add hS hH.kp0 rfl rfl rfl (by omega) ?_; clear hS; intro a hS
      refine r_move hS hH.kp0 rfl rfl ?_; clear hS; intro a hS
      refine Sq.nil ?_
      refine then_n ?_
      refine ⟨m - 1, by omega, k + 1, _, _, by omega, ?_, ?_, hS.live ⟨rfl, rfl, rfl, rfl, rfl, trivial⟩, hH⟩
      · omega
      · rw [take_succ_flatten2 hl]; simpa using hO
    · have hge := of_decide_eq_false hc2
      have hk : k = ls.length := by omega
      subst hk
      refine wp_exit ?_
      refine then_e ?_
      refine then_e ?_
      refine blk_hit ?_
      refine then_n ?_
      refine c_seq ?_
      refine reg_plain w0 (Nobody) ?_
      refine r_move hS hH.kp0 rfl rfl ?_; clear hS; intro a hS
      refine r_assign hS hH.kp0 rfl rfl ?_; clear hS; intro a hS
      refine Sq.nil ?_
      refine then_n ?_
      refine wp_ret ?_
      exact leave (.inl rfl) hS rfl (Res.tmp rfl Res.nil) ⟨_, rfl, by rw [List.take_of_length_le (Nat.le_refl _)] at hO; exact hO, hH.mod⟩

set_option maxRecDepth 100000 in
set_option maxHeartbeats 400000 in
theorem layH_c (q : Addr) (qc : Nat) (u : List UInt8) (x n : Nat) (hl : u.length ≤ 1099511627700) (hx : x < 18446744073709551616) (hn1 : 1 ≤ n) (hn : n ≤ 8) (w0 : World) (hb : Bs w0 (.slice (some q) u.length qc) u) : Calls Tryd.prog 27 #[.slice (some q) u.length qc, .int .u64 (x : Int), .int .i64 (n : Int)] w0 fun e w' => ∃ r, e = .returned r ∧ NB w0.heap.size 5 w' r (u ++ beB x n) ∧ Ext w0 w' := by
  refine enter Tryd.func27 rfl rfl rfl ?_
  intro a hS
  have hH := Hp.start w0 (Nobody)
  refine c_seq ?_
  refine reg_plain w0 (Nobody) ?_
  refine r_assign hS hH.kp0 rfl rfl ?_; clear hS; intro a hS
  refine Sq.nil ?_
  refine then_n ?_
  refine c_seq ?_
  refine reg_plain w0 (Nobody) ?_
  refine r_move hS hH.kp0 rfl rfl ?_; clear hS; intro a hS
  refine r_move hS hH.kp0 rfl rfl ?_; clear hS; intro a hS
  refine r_move hS hH.kp0 rfl rfl ?_; clear hS; intro a hS
  refine r_call (l := [.tmp 10, .tmp 11, .tmp 12]) hS rfl rfl Fp.fn44 rfl ?_
  refine Calls.mono (Put_some q qc u x n hl hx hn1 hn _ (hb.ext hH.mod)) ?_
  rintro e w1 ⟨r, rfl, hN, hE⟩
  have hN := hN.mono hH.mod.size
  replace hH := hH.ext hE
  refine ⟨_, rfl, hH.kp0, ?_⟩
  clear hS; intro a hS
  refine r_move hS hH.kp0 rfl rfl ?_; clear hS; intro a hS
  refine r_extract hS hH.kp0 rfl rfl rfl ?_; clear hS; intro a hS
  refine r_extract hS hH.kp0 rfl rfl rfl ?_; clear hS; intro a hS
  refine r_assign hS hH.kp0 rfl rfl ?_; clear hS; intro a hS
  refine r_assign hS hH.kp0 rfl rfl ?_; clear hS; intro a hS
  refine Sq.nil ?_
  refine then_n ?_
  refine c_seq ?_
  refine reg_plain w0 (Nobody) ?_
  refine r_move hS hH.kp0 rfl rfl ?_; clear hS; intro a hS
  refine r_assign hS hH.kp0 rfl rfl ?_; clear hS; intro a hS
  refine Sq.nil ?_
  refine then_n ?_
  refine wp_ret ?_
  exact leave (.inl rfl) hS rfl (Res.tmp rfl Res.nil) ⟨_, rfl, hN, hH.mod⟩

set_option maxRecDepth 100000 in
set_option maxHeartbeats 400000 in
theorem PutWide_c (q : Addr) (qc : Nat) (u : List UInt8) (v : Nat) (hl : u.length ≤ 1099511627700) (hv : v < 16384) (w0 : World) (WT : TypeId) (WF : Nat × Nat) (hw0 : w0.heap[0]? = some (.cells [.int .i64 6, .int .i64 14, .int .i64 30, .int .i64 62].toArray WT WF)) (hb : Bs w0 (.slice (some q) u.length qc) u) : Calls Tryd.prog 30 #[.slice (some q) u.length qc, .int .i64 (v : Int), .int .i64 2] w0 fun e w' => ∃ r, e = .returned (.tuple #[r, .int .i64 0]) ∧ NB w0.heap.size 5 w' r (u ++ wideB v 1) ∧ Ext w0 w' := by
  refine enter Tryd.func30 rfl rfl rfl ?_
  intro a hS
  have hH := Hp.start w0 (Nobody)
  replace hH := hH.know hw0 (fun p hp => by simp at hp)
  have hfk : formK v ≤ 1 := by rcases Nat.lt_or_ge v 64 with h | h; (rw [show formK v = 0 from if_pos h]; omega); (rw [show formK v = 1 from by unfold formK; rw [if_neg (by omega), if_pos hv]]; omega)
  refine c_seq ?_
  refine reg_plain w0 (Nobody) ?_
  refine r_assign hS hH.kp0 rfl rfl ?_; clear hS; intro a hS
  refine r_assign hS hH.kp0 rfl rfl ?_; clear hS; intro a hS
  refine Sq.nil ?_
  refine then_n ?_
  refine c_seq ?_
  refine reg_plain w0 (Nobody) ?_
  refine r_buildSlice (parts := [(0, .const (.int .i64 1)), (1, .const (.int .i64 2)), (2, .const (.int .i64 4)), (3, .const (.int .i64 8))]) hS hH (by repeat (first | exact Sub.nil | refine Sub.cons ?_ ?_ | exact In.here | refine In.there ?_)) rfl Fp.bsl23_4 (by rfl) rfl ?_
  clear hS hH; intro a w b9 hb9 hwb9 hS hH
  refine r_move hS hH.kp0 rfl rfl ?_; clear hS; intro a hS
  refine r_call (l := [.tmp 9, .tmp 10]) hS rfl rfl Fp.fn49 rfl ?_
  refine Calls.mono (Index_2 b9 _ (hH.get (by repeat (first | exact In.here | refine In.there ?_)))) ?_
  rintro e w1 ⟨rfl, hE⟩
  replace hH := hH.ext hE
  refine ⟨_, rfl, hH.kp0, ?_⟩
  clear hS; intro a hS
  refine r_assign hS hH.kp0 rfl rfl ?_; clear hS; intro a hS
  refine Sq.nil ?_
  refine then_n ?_
  refine c_seq ?_
  refine wp_block ?_
  refine c_seq ?_
  refine reg_plain w0 (Nobody) ?_
  refine r_move hS hH.kp0 rfl rfl ?_; clear hS; intro a hS
  refine r_call (l := [.tmp 13]) hS rfl rfl Fp.fn46 rfl ?_
  refine Calls.mono (lies_c v hv _) ?_
  rintro e w1 ⟨rfl, hE⟩
  replace hH := hH.ext hE
  refine ⟨_, rfl, hH.kp0, ?_⟩
  clear hS; intro a hS
  refine r_not hS hH.kp0 rfl rfl ?_; clear hS; intro a hS
  refine r_move hS hH.kp0 rfl rfl ?_; clear hS; intro a hS
  refine Sq.guardYes hS rfl rfl rfl ?_; refine r_move hS hH.kp0 rfl rfl ?_; clear hS; intro a hS
  refine Sq.guardYes hS rfl rfl rfl ?_; refine r_lss hS hH.kp0 rfl rfl rfl ?_; clear hS; intro a hS
  refine r_pickF hS hH.kp0 rfl rfl rfl rfl ?_; clear hS; intro a hS
  refine r_assign hS hH.kp0 rfl rfl ?_; clear hS; intro a hS
  refine Sq.nil ?_
  refine then_n ?_
  refine c_condF hS rfl rfl ?_
  refine c_seq ?_
  refine reg_plain w0 (Nobody) ?_
  refine r_move hS hH.kp0 rfl rfl ?_; clear hS; intro a hS
  refine r_call (l := [.tmp 21]) hS rfl rfl Fp.fn48 rfl ?_
  refine Calls.mono (form_c v hv _ WT WF (hH.get (b := 0) (by repeat (first | exact In.here | refine In.there ?_)))) ?_
  rintro e w1 ⟨rfl, hE⟩
  replace hH := hH.ext hE
  refine ⟨_, rfl, hH.kp0, ?_⟩
  clear hS; intro a hS
  refine r_move hS hH.kp0 rfl rfl ?_; clear hS; intro a hS
  refine r_gtr hS hH.kp0 rfl rfl rfl ?_; clear hS; intro a hS
  refine r_assign hS hH.kp0 rfl rfl ?_; clear hS; intro a hS
  refine Sq.nil ?_
  refine then_n ?_
  refine c_condF hS rfl (DF (by omega)) ?_
  refine wp_skip ?_
  refine blk_n ?_
  refine then_n ?_
  refine c_seq ?_
  refine reg_plain w0 (Nobody) ?_
  refine r_move hS hH.kp0 rfl rfl ?_; clear hS; intro a hS
  refine r_move hS hH.kp0 rfl rfl ?_; clear hS; intro a hS
  refine r_move hS hH.kp0 rfl rfl ?_; clear hS; intro a hS
  refine r_call (l := [.tmp 25, .tmp 26, .tmp 27]) hS rfl rfl Fp.fn47 rfl ?_
  refine Calls.mono (wide_c q qc u v 1 hl (by decide) (show v < 16384 from hv) _ (hb.ext hH.mod)) ?_
  rintro e w1 ⟨r, rfl, hN, hE⟩
  have hN := hN.mono hH.mod.size
  replace hH := hH.ext hE
  refine ⟨_, rfl, hH.kp0, ?_⟩
  clear hS; intro a hS
  refine r_assign hS hH.kp0 rfl rfl ?_; clear hS; intro a hS
  refine r_assign hS hH.kp0 rfl rfl ?_; clear hS; intro a hS
  refine Sq.nil ?_
  refine then_n ?_
  refine wp_ret ?_
  exact leave (.inl rfl) hS rfl (Res.tmp rfl (Res.tmp rfl Res.nil)) ⟨_, rfl, hN, hH.mod⟩

set_option maxRecDepth 100000 in
set_option maxHeartbeats 2000000 in
theorem start_c (f v : Nat) (kd ve : Int) (q1 q2 q3 q4 : Option Addr) (c1 c2 c3 c4 : Nat) (dst src tok tag : List UInt8) (lst : List Int) (ln : Int) (ph : Bool) (htag : tag.length = 16) (w0 : World) (hv : v < 18446744073709551616) (hdl : dst.length ≤ 20) (hsl : src.length ≤ 20) (hd : Bs w0 (.slice q1 dst.length c1) dst) (hs : Bs w0 (.slice q2 src.length c2) src) : Calls Tryd.prog 26 #[.agg ([.int .i64 kd, .int .i64 ve, .slice q1 dst.length c1, .slice q2 src.length c2, .slice q3 tok.length c3, .int .i64 ln, .bool ph, .slice q4 lst.length c4] ++ hcells tag : List Value).toArray, byteV (UInt8.ofNat f), .int .u64 (v : Int)] w0 fun e w' => ∃ r, e = .returned r ∧ NB w0.heap.size 5 w' r (startB f v dst src) ∧ Ext w0 w' := by
  refine enter Tryd.func26 rfl rfl rfl ?_
  intro a hS
  have hH := Hp.start w0 (Nobody)
  obtain ⟨t0, t1, t2, t3, t4, t5, t6, t7, t8, t9, ta, tb, tc, td, te, tf, rfl⟩ := len16 htag
  refine c_seq ?_
  refine reg_plain w0 (Nobody) ?_
  refine r_box hS hH (by repeat (first | exact Sub.nil | refine Sub.cons ?_ ?_ | exact In.here | refine In.there ?_)) rfl rfl rfl ?_
  clear hS hH; intro a w b3 hb3 hwb3 hS hH
  refine r_assign hS hH.kp0 rfl rfl ?_; clear hS; intro a hS
  refine Sq.nil ?_
  refine then_n ?_
  refine c_seq ?_
  refine reg_plain w0 (Nobody) ?_
  refine r_move hS hH.kp0 rfl rfl ?_; clear hS; intro a hS
  refine r_buildSlice (parts := [(0, .tmp 8)]) hS hH (by repeat (first | exact Sub.nil | refine Sub.cons ?_ ?_ | exact In.here | refine In.there ?_)) rfl Fp.bsl22_1 (by rfl) rfl ?_
  clear hS hH; intro a w b9 hb9 hwb9 hS hH
  refine r_move hS hH.kp0 rfl rfl ?_; clear hS; intro a hS
  refine r_call (l := [.tmp 9, .tmp 10, .const (.int .i64 4)]) hS rfl rfl Fp.fn27 rfl ?_
  refine Calls.mono (layH_c ⟨b9, 0, none⟩ 1 (UInt8.ofNat f :: []) v 4 (by simp) hv (by decide) (by decide) _ ((BB.lit [UInt8.ofNat f] rfl rfl).bs (hH.get (b := b9) (by repeat (first | exact In.here | refine In.there ?_))))) ?_
  rintro e w1 ⟨rp, rfl, hN, hE⟩
  obtain ⟨bp, cp, kp, hvp, hrp, hrkp, hBp⟩ := hN
  subst hvp
  have hwp := Nat.le_trans hH.mod.size hrp
  replace hH := hH.knowN hE hrp hrkp
  refine ⟨_, rfl, hH.kp0, ?_⟩
  clear hS; intro a hS
  refine r_assign hS hH.kp0 rfl rfl ?_; clear hS; intro a hS
  refine Sq.nil ?_
  refine then_n ?_
  refine c_seq ?_
  refine reg_draw [(true, 0, [0]), (true, 1, [0]), (true, 2, [0]), (true, 3, [0]), (true, 7, [0]), (true, 8, [0]), (false, 4, []), (false, 5, []), (false, 6, [0]), (false, 9, [0]), (true, 10, [0])] Fc.mixed (by kernel_rfl) (by kernel_rfl) (by kernel_rfl) (by kernel_rfl) (by kernel_rfl) (by repeat (first | with_reducible exact steady_body | with_reducible apply steady_block | with_reducible apply steady_then | with_reducible apply steady_scope | exact steady_body)) hH ?_
  replace hH := hH.drew
  refine r_move hS trivial rfl rfl ?_; clear hS; intro a hS
  refine r_fieldAddr hS trivial rfl Fp.fo26_2 rfl ?_; clear hS; intro a hS
  refine r_load_scS hS rfl (by repeat (first | exact In.here | refine In.there ?_)) Fp.sc22 (by rfl) rfl ?_; clear hS; intro a hS
  refine r_lenSl hS trivial rfl Fp.isSlice22 rfl ?_; clear hS; intro a hS
  refine r_fieldAddr hS trivial rfl Fp.fo26_2 rfl ?_; clear hS; intro a hS
  refine r_load_scS hS rfl (by repeat (first | exact In.here | refine In.there ?_)) Fp.sc22 (by rfl) rfl ?_; clear hS; intro a hS
  refine r_toU8 (q := dst.length) (UInt8.ofNat (dst.length)) hS (hH.kp (by repeat (first | exact Sub.nil | refine Sub.cons ?_ ?_ | exact In.here | refine In.there ?_))) rfl Fp.ui5 Fp.us3 rfl rfl ?_; clear hS; intro a hS
  refine r_buildSlice (parts := [(0, .tmp 16)]) hS hH (by repeat (first | exact Sub.nil | refine Sub.cons ?_ ?_ | exact In.here | refine In.there ?_)) rfl Fp.bsl22_1 (by rfl) rfl ?_
  clear hS hH; intro a w b17 hb17 hwb17 hS hH
  refine r_appB (l := _) ((UInt8.ofNat f :: []) ++ beB v 4) ([UInt8.ofNat dst.length]) hS hH rfl rfl (by first | exact .here | exact .there .here | exact .there (.there .here) | exact .there (.there (.there .here)) | exact .there (.there (.there (.there .here))) | exact .there (.there (.there (.there (.there .here)))) | exact .there (.there (.there (.there (.there (.there .here))))) | exact .there (.there (.there (.there (.there (.there (.there .here)))))) | exact .there (.there (.there (.there (.there (.there (.there (.there .here))))))) | exact .there (.there (.there (.there (.there (.there (.there (.there (.there .here)))))))) | exact .there (.there (.there (.there (.there (.there (.there (.there (.there (.there .here))))))))) | exact .there (.there (.there (.there (.there (.there (.there (.there (.there (.there (.there .here)))))))))) | exact .there (.there (.there (.there (.there (.there (.there (.there (.there (.there (.there (.there .here))))))))))) | exact .there (.there (.there (.there (.there (.there (.there (.there (.there (.there (.there (.there (.there .here)))))))))))) | exact .there (.there (.there (.there (.there (.there (.there (.there (.there (.there (.there (.there (.there (.there .here))))))))))))) | exact .there (.there (.there (.there (.there (.there (.there (.there (.there (.there (.there (.there (.there (.there (.there .here))))))))))))))) (by repeat (first | exact Sub.nil | refine Sub.cons ?_ ?_ | exact In.here | refine In.there ?_)) Fp.el22 Fp.ni22 hBp ((BB.lit [UInt8.ofNat dst.length] rfl rfl).bs (hH.get (b := b17) (by repeat (first | exact In.here | refine In.there ?_)))) (by simp only [List.length_append, List.length_cons, List.length_nil, beB_len]; omega) (by assumption) rfl ?_
  clear hS hH; intro a w bq cq kq hwq hBq hS hH
  refine r_appB (l := _) (((UInt8.ofNat f :: []) ++ beB v 4) ++ [UInt8.ofNat dst.length]) (dst) hS hH rfl rfl (by first | exact .here | exact .there .here | exact .there (.there .here) | exact .there (.there (.there .here)) | exact .there (.there (.there (.there .here))) | exact .there (.there (.there (.there (.there .here)))) | exact .there (.there (.there (.there (.there (.there .here))))) | exact .there (.there (.there (.there (.there (.there (.there .here)))))) | exact .there (.there (.there (.there (.there (.there (.there (.there .here))))))) | exact .there (.there (.there (.there (.there (.there (.there (.there (.there .here)))))))) | exact .there (.there (.there (.there (.there (.there (.there (.there (.there (.there .here))))))))) | exact .there (.there (.there (.there (.there (.there (.there (.there (.there (.there (.there .here)))))))))) | exact .there (.there (.there (.there (.there (.there (.there (.there (.there (.there (.there (.there .here))))))))))) | exact .there (.there (.there (.there (.there (.there (.there (.there (.there (.there (.there (.there (.there .here)))))))))))) | exact .there (.there (.there (.there (.there (.there (.there (.there (.there (.there (.there (.there (.there (.there .here))))))))))))) | exact .there (.there (.there (.there (.there (.there (.there (.there (.there (.there (.there (.there (.there (.there (.there .here))))))))))))))) (by repeat (first | exact Sub.nil | refine Sub.cons ?_ ?_ | exact In.here | refine In.there ?_)) Fp.el22 Fp.ni22 hBq (hd.ext hH.mod) (by simp only [List.length_append, List.length_cons, List.length_nil, beB_len]; omega) (by assumption) rfl ?_
  clear hS hH; intro a w br cr kr hwr hBr hS hH
  refine r_assign hS trivial rfl rfl ?_; clear hS; intro a hS
  refine Sq.nil ?_
  refine then_n ?_
  refine c_seq ?_
  refine reg_draw [(true, 0, [0]), (true, 1, [0]), (true, 2, [0]), (true, 3, [0]), (true, 7, [0]), (true, 8, [0]), (false, 4, []), (false, 5, []), (false, 6, [0]), (false, 9, [0]), (true, 10, [0])] Fc.mixed (by kernel_rfl) (by kernel_rfl) (by kernel_rfl) (by kernel_rfl) (by kernel_rfl) (by repeat (first | with_reducible exact steady_body | with_reducible apply steady_block | with_reducible apply steady_then | with_reducible apply steady_scope | exact steady_body)) hH ?_
  replace hH := hH.drew
  refine r_move hS trivial rfl rfl ?_; clear hS; intro a hS
  refine r_fieldAddr hS trivial rfl Fp.fo26_3 rfl ?_; clear hS; intro a hS
  refine r_load_scS hS rfl (by repeat (first | exact In.here | refine In.there ?_)) Fp.sc22 (by rfl) rfl ?_; clear hS; intro a hS
  refine r_lenSl hS trivial rfl Fp.isSlice22 rfl ?_; clear hS; intro a hS
  refine r_fieldAddr hS trivial rfl Fp.fo26_3 rfl ?_; clear hS; intro a hS
  refine r_load_scS hS rfl (by repeat (first | exact In.here | refine In.there ?_)) Fp.sc22 (by rfl) rfl ?_; clear hS; intro a hS
  refine r_toU8 (q := src.length) (UInt8.ofNat (src.length)) hS (hH.kp (by repeat (first | exact Sub.nil | refine Sub.cons ?_ ?_ | exact In.here | refine In.there ?_))) rfl Fp.ui5 Fp.us3 rfl rfl ?_; clear hS; intro a hS
  refine r_buildSlice (parts := [(0, .tmp 26)]) hS hH (by repeat (first | exact Sub.nil | refine Sub.cons ?_ ?_ | exact In.here | refine In.there ?_)) rfl Fp.bsl22_1 (by rfl) rfl ?_
  clear hS hH; intro a w b27 hb27 hwb27 hS hH
  refine r_appB (l := _) ((((UInt8.ofNat f :: []) ++ beB v 4) ++ [UInt8.ofNat dst.length]) ++ dst) ([UInt8.ofNat src.length]) hS hH rfl rfl (by first | exact .here | exact .there .here | exact .there (.there .here) | exact .there (.there (.there .here)) | exact .there (.there (.there (.there .here))) | exact .there (.there (.there (.there (.there .here)))) | exact .there (.there (.there (.there (.there (.there .here))))) | exact .there (.there (.there (.there (.there (.there (.there .here)))))) | exact .there (.there (.there (.there (.there (.there (.there (.there .here))))))) | exact .there (.there (.there (.there (.there (.there (.there (.there (.there .here)))))))) | exact .there (.there (.there (.there (.there (.there (.there (.there (.there (.there .here))))))))) | exact .there (.there (.there (.there (.there (.there (.there (.there (.there (.there (.there .here)))))))))) | exact .there (.there (.there (.there (.there (.there (.there (.there (.there (.there (.there (.there .here))))))))))) | exact .there (.there (.there (.there (.there (.there (.there (.there (.there (.there (.there (.there (.there .here)))))))))))) | exact .there (.there (.there (.there (.there (.there (.there (.there (.there (.there (.there (.there (.there (.there .here))))))))))))) | exact .there (.there (.there (.there (.there (.there (.there (.there (.there (.there (.there (.there (.there (.there (.there .here))))))))))))))) (by repeat (first | exact Sub.nil | refine Sub.cons ?_ ?_ | exact In.here | refine In.there ?_)) Fp.el22 Fp.ni22 hBr ((BB.lit [UInt8.ofNat src.length] rfl rfl).bs (hH.get (b := b27) (by repeat (first | exact In.here | refine In.there ?_)))) (by simp only [List.length_append, List.length_cons, List.length_nil, beB_len]; omega) (by assumption) rfl ?_
  clear hS hH; intro a w bs cs ks hws hBs hS hH
  refine r_appB (l := _) (((((UInt8.ofNat f :: []) ++ beB v 4) ++ [UInt8.ofNat dst.length]) ++ dst) ++ [UInt8.ofNat src.length]) (src) hS hH rfl rfl (by first | exact .here | exact .there .here | exact .there (.there .here) | exact .there (.there (.there .here)) | exact .there (.there (.there (.there .here))) | exact .there (.there (.there (.there (.there .here)))) | exact .there (.there (.there (.there (.there (.there .here))))) | exact .there (.there (.there (.there (.there (.there (.there .here)))))) | exact .there (.there (.there (.there (.there (.there (.there (.there .here))))))) | exact .there (.there (.there (.there (.there (.there (.there (.there (.there .here)))))))) | exact .there (.there (.there (.there (.there (.there (.there (.there (.there (.there .here))))))))) | exact .there (.there (.there (.there (.there (.there (.there (.there (.there (.there (.there .here)))))))))) | exact .there (.there (.there (.there (.there (.there (.there (.there (.there (.there (.there (.there .here))))))))))) | exact .there (.there (.there (.there (.there (.there (.there (.there (.there (.there (.there (.there (.there .here)))))))))))) | exact .there (.there (.there (.there (.there (.there (.there (.there (.there (.there (.there (.there (.there (.there .here))))))))))))) | exact .there (.there (.there (.there (.there (.there (.there (.there (.there (.there (.there (.there (.there (.there (.there .here))))))))))))))) (by repeat (first | exact Sub.nil | refine Sub.cons ?_ ?_ | exact In.here | refine In.there ?_)) Fp.el22 Fp.ni22 hBs (hs.ext hH.mod) (by simp only [List.length_append, List.length_cons, List.length_nil, beB_len]; omega) (by assumption) rfl ?_
  clear hS hH; intro a w bt ct kt hwt hBt hS hH
  refine r_assign hS trivial rfl rfl ?_; clear hS; intro a hS
  refine Sq.nil ?_
  refine then_n ?_
  refine wp_ret ?_
  exact leave (.inl rfl) hS rfl (Res.tmp rfl Res.nil) ⟨_, rfl, ⟨bt, ct, kt, rfl, hwt, hH.get (b := bt) (by repeat (first | exact In.here | refine In.there ?_)), hBt⟩, hH.mod⟩

end Go.Proofs.YtcenionnedgadaaDoor

namespace Go.Proofs.YtcenionnedgadaaDoor
open Go.Sym

theorem Fp.ag26 : agB Tryd.prog 26 = some 24 := by kernel_rfl
theorem Fp.ar24 : arrB Tryd.prog 24 = some (16, 1) := by kernel_rfl
theorem Fp.bsl32_3 : bslB Tryd.prog 32 3 = some (22, 1, [.slice none 0 0, .slice none 0 0, .slice none 0 0]) := by kernel_rfl
theorem Fp.fn25 : isFn Tryd.prog 25 = true := by kernel_rfl
theorem Fp.fn26 : isFn Tryd.prog 26 = true := by kernel_rfl
theorem Fp.fn28 : isFn Tryd.prog 28 = true := by kernel_rfl
theorem Fp.fn29 : isFn Tryd.prog 29 = true := by kernel_rfl
theorem Fp.fn30 : isFn Tryd.prog 30 = true := by kernel_rfl
theorem Fp.fo26_6 : foff Tryd.prog 26 6 = some 6 := by kernel_rfl
theorem Fp.fo26_8 : foff Tryd.prog 26 8 = some 8 := by kernel_rfl
theorem Fp.sc4 : scB Tryd.prog 4 = true := by kernel_rfl
set_option maxRecDepth 100000 in
set_option maxHeartbeats 400000 in
theorem Put_bad (kd : Int) (ve : Int) (q1 q2 q3 q4 : Option Addr) (c1 c2 c3 c4 : Nat) (dst src tok tag : List UInt8) (lst : List Int) (ln : Int) (ph : Bool) (htag : tag.length = 16) (n : Int) (low : Nat) (w0 : World) (hll : lst.length ≤ 1099511627776) (hlst : IsA w0 q4 c4 lst) (hm : ¬ mayP kd dst.length src.length tok.length (ln : Int) (n : Int) lst.length (badN lst)) : Calls Tryd.prog 12 #[.agg ([.int .i64 kd, .int .i64 ve, .slice q1 dst.length c1, .slice q2 src.length c2, .slice q3 tok.length c3, .int .i64 (ln : Int), .bool ph, .slice q4 lst.length c4] ++ hcells tag : List Value).toArray, .int .u64 (low : Int), .int .i64 n] w0 fun e w' => e = .returned (.tuple #[.slice none 0 0, .int .i64 0, .int .i64 2]) ∧ Ext w0 w' := by
  refine enter Tryd.func12 rfl rfl rfl ?_
  intro a hS
  have hH := Hp.start w0 (Nobody)
  obtain ⟨t0, t1, t2, t3, t4, t5, t6, t7, t8, t9, ta, tb, tc, td, te, tf, rfl⟩ := len16 htag
  refine c_seq ?_
  refine reg_plain w0 (Nobody) ?_
  refine r_box hS hH (by repeat (first | exact Sub.nil | refine Sub.cons ?_ ?_ | exact In.here | refine In.there ?_)) rfl rfl rfl ?_
  clear hS hH; intro a w b3 hb3 hwb3 hS hH
  refine r_assign hS hH.kp0 rfl rfl ?_; clear hS; intro a hS
  refine r_assign hS hH.kp0 rfl rfl ?_; clear hS; intro a hS
  refine r_assign hS hH.kp0 rfl rfl ?_; clear hS; intro a hS
  refine Sq.nil ?_
  refine then_n ?_
  refine c_seq ?_
  refine c_seq ?_
  refine reg_plain w0 (Nobody) ?_
  refine r_load_row hS hH (by repeat (first | exact Sub.nil | refine Sub.cons ?_ ?_ | exact In.here | refine In.there ?_)) rfl (by repeat (first | exact In.here | refine In.there ?_)) Fp.ag26 (by rfl) rfl ?_; clear hS; intro a hS
  refine r_move hS hH.kp0 rfl rfl ?_; clear hS; intro a hS
  refine r_call (l := [.tmp 12, .tmp 13]) hS rfl rfl Fp.fn25 rfl ?_
  refine Calls.mono (right_c kd ve q1 q2 q3 q4 c1 c2 c3 c4 dst src tok _ lst (ln : Int) ph htag n _ hll (hlst.ext hH.mod)) ?_
  rintro e w1 ⟨rfl, hE⟩
  replace hH := hH.ext hE
  refine ⟨_, rfl, hH.kp0, ?_⟩
  clear hS; intro a hS
  refine r_not hS hH.kp0 rfl rfl ?_; clear hS; intro a hS
  refine Sq.nil ?_
  refine then_n ?_
  refine c_condT hS rfl (by rw [DF hm]; rfl) ?_
  refine c_seq ?_
  refine reg_plain w0 (Nobody) ?_
  refine r_assign hS hH.kp0 rfl rfl ?_; clear hS; intro a hS
  refine r_assign hS hH.kp0 rfl rfl ?_; clear hS; intro a hS
  refine r_assign hS hH.kp0 rfl rfl ?_; clear hS; intro a hS
  refine Sq.nil ?_
  refine then_n ?_
  refine wp_ret ?_
  refine then_r ?_
  exact leave (.inl rfl) hS rfl (Res.tmp rfl (Res.tmp rfl (Res.tmp rfl Res.nil))) ⟨rfl, hH.mod⟩

set_option maxRecDepth 100000 in
set_option maxHeartbeats 2000000 in
theorem Put_5t (ve : Int) (q1 q2 q3 q4 : Option Addr) (c1 c2 c3 c4 : Nat) (dst src tok tag : List UInt8) (lst : List Int) (ln : Int) (htag : tag.length = 16) (n : Nat) (low : Nat) (hlow : low < 18446744073709551616) (w0 : World) (WT : TypeId) (WF : Nat × Nat) (hw0 : w0.heap[0]? = some (.cells [.int .i64 6, .int .i64 14, .int .i64 30, .int .i64 62].toArray WT WF)) (hll : lst.length ≤ 1048576) (hlst : IsA w0 q4 c4 lst) (hd : Bs w0 (.slice q1 dst.length c1) dst) (hs : Bs w0 (.slice q2 src.length c2) src) (ht : Bs w0 (.slice q3 tok.length c3) tok) (hm : mayP 5 dst.length src.length tok.length (ln : Int) (n : Int) lst.length (badN lst)) : Calls Tryd.prog 12 #[.agg ([.int .i64 5, .int .i64 ve, .slice q1 dst.length c1, .slice q2 src.length c2, .slice q3 tok.length c3, .int .i64 (ln : Int), .bool true, .slice q4 lst.length c4] ++ hcells tag : List Value).toArray, .int .u64 (low : Int), .int .i64 (n : Int)] w0 fun e w' => ∃ r, e = .returned (.tuple #[r, .int .i64 ((headB 5 n dst src tok ln.toNat true lst tag).length : Int), .int .i64 0]) ∧ NB w0.heap.size 5 w' r (headB 5 n dst src tok ln.toNat true lst tag ++ beB low n) ∧ Ext w0 w' := by
  refine enter Tryd.func12 rfl rfl rfl ?_
  intro a hS
  have hH := Hp.start w0 (Nobody)
  have hm2 := hm
  unfold mayP at hm2
  obtain ⟨t0, t1, t2, t3, t4, t5, t6, t7, t8, t9, ta, tb, tc, td, te, tf, rfl⟩ := len16 htag
  replace hH := hH.know hw0 (fun p hp => by simp at hp)
  have hwl := wideB_le tok.length
  refine c_seq ?_
  refine reg_plain w0 (Nobody) ?_
  refine r_box hS hH (by repeat (first | exact Sub.nil | refine Sub.cons ?_ ?_ | exact In.here | refine In.there ?_)) rfl rfl rfl ?_
  clear hS hH; intro a w b3 hb3 hwb3 hS hH
  refine r_assign hS hH.kp0 rfl rfl ?_; clear hS; intro a hS
  refine r_assign hS hH.kp0 rfl rfl ?_; clear hS; intro a hS
  refine r_assign hS hH.kp0 rfl rfl ?_; clear hS; intro a hS
  refine Sq.nil ?_
  refine then_n ?_
  refine c_seq ?_
  refine c_seq ?_
  refine reg_plain w0 (Nobody) ?_
  refine r_load_row hS hH (by repeat (first | exact Sub.nil | refine Sub.cons ?_ ?_ | exact In.here | refine In.there ?_)) rfl (by repeat (first | exact In.here | refine In.there ?_)) Fp.ag26 (by rfl) rfl ?_; clear hS; intro a hS
  refine r_move hS hH.kp0 rfl rfl ?_; clear hS; intro a hS
  refine r_call (l := [.tmp 12, .tmp 13]) hS rfl rfl Fp.fn25 rfl ?_
  refine Calls.mono (right_c 5 ve q1 q2 q3 q4 c1 c2 c3 c4 dst src tok _ lst (ln : Int) true htag (n : Int) _ (by omega) (hlst.ext hH.mod)) ?_
  rintro e w1 ⟨rfl, hE⟩
  replace hH := hH.ext hE
  refine ⟨_, rfl, hH.kp0, ?_⟩
  clear hS; intro a hS
  refine r_not hS hH.kp0 rfl rfl ?_; clear hS; intro a hS
  refine Sq.nil ?_
  refine then_n ?_
  refine c_condF hS rfl (by rw [DT hm]; rfl) ?_
  refine wp_skip ?_
  refine then_n ?_
  refine c_seq ?_
  refine c_seq ?_
  refine reg_plain w0 (Nobody) ?_
  refine r_fieldAddr hS hH.kp0 rfl Fp.fo26_0 rfl ?_; clear hS; intro a hS
  refine r_load_sc hS hH (by repeat (first | exact Sub.nil | refine Sub.cons ?_ ?_ | exact In.here | refine In.there ?_)) rfl (by repeat (first | exact In.here | refine In.there ?_)) Fp.sc3 (by rfl) rfl ?_; clear hS; intro a hS
  refine Sq.nil ?_
  refine then_n ?_
  refine wp_block ?_
  refine c_seq ?_
  refine reg_plain w0 (Nobody) ?_
  refine r_eql hS hH.kp0 rfl rfl rfl ?_; clear hS; intro a hS
  refine r_assign hS hH.kp0 rfl rfl ?_; clear hS; intro a hS
  refine Sq.nil ?_
  refine then_n ?_
  refine c_condF hS rfl rfl ?_
  refine c_seq ?_
  refine reg_plain w0 (Nobody) ?_
  refine r_eql hS hH.kp0 rfl rfl rfl ?_; clear hS; intro a hS
  refine r_assign hS hH.kp0 rfl rfl ?_; clear hS; intro a hS
  refine Sq.nil ?_
  refine then_n ?_
  refine c_condF hS rfl rfl ?_
  refine c_seq ?_
  refine reg_plain w0 (Nobody) ?_
  refine r_eql hS hH.kp0 rfl rfl rfl ?_; clear hS; intro a hS
  refine r_assign hS hH.kp0 rfl rfl ?_; clear hS; intro a hS
  refine Sq.nil ?_
  refine then_n ?_
  refine c_condT hS rfl rfl ?_
  refine c_seq ?_
  refine reg_plain w0 (Nobody) ?_
  refine r_move hS hH.kp0 rfl rfl ?_; clear hS; intro a hS
  refine r_orI (64) (n) (64 + n) hS hH.kp0 rfl rfl rfl rfl rfl (by omega) (by omega) (or_small (by decide) (by omega)) ?_; clear hS; intro a hS
  first | refine r_sub hS hH.kp0 rfl rfl rfl (by omega) ?_ | refine r_subw hS hH.kp0 rfl rfl rfl ?_
  clear hS; intro a hS
  refine r_toU8' (63 + n) (UInt8.ofNat (63 + n)) hS hH.kp0 rfl Fp.ui5 Fp.us3 rfl (by omega) rfl ?_; clear hS; intro a hS
  refine r_assign hS hH.kp0 rfl rfl ?_; clear hS; intro a hS
  refine Sq.nil ?_
  refine then_n ?_
  refine c_seq ?_
  refine c_seq ?_
  refine reg_plain w0 (Nobody) ?_
  refine r_fieldAddr hS hH.kp0 rfl Fp.fo26_6 rfl ?_; clear hS; intro a hS
  refine r_load_sc hS hH (by repeat (first | exact Sub.nil | refine Sub.cons ?_ ?_ | exact In.here | refine In.there ?_)) rfl (by repeat (first | exact In.here | refine In.there ?_)) Fp.sc4 (by rfl) rfl ?_; clear hS; intro a hS
  refine Sq.nil ?_
  refine then_n ?_
  refine c_condT hS rfl rfl ?_
  refine reg_plain w0 (Nobody) ?_
  refine r_move hS hH.kp0 rfl rfl ?_; clear hS; intro a hS
  refine r_orB (UInt8.ofNat (63 + n)) 4 (UInt8.ofNat (63 + n + 4)) hS hH.kp0 rfl rfl rfl (phase_or (by omega) (by omega)) ?_; clear hS; intro a hS
  refine r_assign hS hH.kp0 rfl rfl ?_; clear hS; intro a hS
  refine Sq.nil ?_
  refine then_n ?_
  refine reg_plain w0 (Nobody) ?_
  refine r_move hS hH.kp0 rfl rfl ?_; clear hS; intro a hS
  refine r_buildSlice (parts := [(0, .tmp 77)]) hS hH (by repeat (first | exact Sub.nil | refine Sub.cons ?_ ?_ | exact In.here | refine In.there ?_)) rfl Fp.bsl22_1 (by rfl) rfl ?_
  clear hS hH; intro a w b78 hb78 hwb78 hS hH
  refine r_fieldAddr hS hH.kp0 rfl Fp.fo26_2 rfl ?_; clear hS; intro a hS
  refine r_load_sc hS hH (by repeat (first | exact Sub.nil | refine Sub.cons ?_ ?_ | exact In.here | refine In.there ?_)) rfl (by repeat (first | exact In.here | refine In.there ?_)) Fp.sc22 (by rfl) rfl ?_; clear hS; intro a hS
  refine r_appB (l := _) ([UInt8.ofNat (63 + n + 4)]) (dst) hS hH rfl rfl (by first | exact .here | exact .there .here | exact .there (.there .here) | exact .there (.there (.there .here)) | exact .there (.there (.there (.there .here))) | exact .there (.there (.there (.there (.there .here)))) | exact .there (.there (.there (.there (.there (.there .here))))) | exact .there (.there (.there (.there (.there (.there (.there .here)))))) | exact .there (.there (.there (.there (.there (.there (.there (.there .here))))))) | exact .there (.there (.there (.there (.there (.there (.there (.there (.there .here)))))))) | exact .there (.there (.there (.there (.there (.there (.there (.there (.there (.there .here))))))))) | exact .there (.there (.there (.there (.there (.there (.there (.there (.there (.there (.there .here)))))))))) | exact .there (.there (.there (.there (.there (.there (.there (.there (.there (.there (.there (.there .here))))))))))) | exact .there (.there (.there (.there (.there (.there (.there (.there (.there (.there (.there (.there (.there .here)))))))))))) | exact .there (.there (.there (.there (.there (.there (.there (.there (.there (.there (.there (.there (.there (.there .here))))))))))))) | exact .there (.there (.there (.there (.there (.there (.there (.there (.there (.there (.there (.there (.there (.there (.there .here))))))))))))))) (by repeat (first | exact Sub.nil | refine Sub.cons ?_ ?_ | exact In.here | refine In.there ?_)) Fp.el22 Fp.ni22 (BB.lit [UInt8.ofNat (63 + n + 4)] rfl rfl) (hd.ext hH.mod) (by simp only [List.length_cons, List.length_nil]; omega) (by assumption) rfl ?_
  clear hS hH; intro a w bq cq kq hwq hBq hS hH
  refine r_assign hS hH.kp0 rfl rfl ?_; clear hS; intro a hS
  refine Sq.nil ?_
  refine blk_n ?_
  refine then_n ?_
  refine c_seq ?_
  refine reg_plain w0 (Nobody) ?_
  refine r_move hS hH.kp0 rfl rfl ?_; clear hS; intro a hS
  refine r_move hS hH.kp0 rfl rfl ?_; clear hS; intro a hS
  refine r_move hS hH.kp0 rfl rfl ?_; clear hS; intro a hS
  refine r_call (l := [.tmp 109, .tmp 110, .tmp 111]) hS rfl rfl Fp.fn27 rfl ?_
  refine Calls.mono (layH_c ⟨bq, 0, none⟩ cq ([UInt8.ofNat (63 + n + 4)] ++ dst) low n (by simp only [List.length_append, List.length_cons, List.length_nil]; omega) hlow (by omega) (by omega) _ (hBq.bs (hH.get (b := bq) (by repeat (first | exact In.here | refine In.there ?_))))) ?_
  rintro e w1 ⟨rz, rfl, hN, hE⟩
  obtain ⟨bz, cz, kz, hvz, hrz, hrkz, hBz⟩ := hN
  subst hvz
  have hwz := Nat.le_trans hH.mod.size hrz
  replace hH := hH.knowN hE hrz hrkz
  refine ⟨_, rfl, hH.kp0, ?_⟩
  clear hS; intro a hS
  refine r_move hS hH.kp0 rfl rfl ?_; clear hS; intro a hS
  refine r_lenSl hS hH.kp0 rfl Fp.isSlice22 rfl ?_; clear hS; intro a hS
  refine r_assign hS hH.kp0 rfl rfl ?_; clear hS; intro a hS
  refine r_assign hS hH.kp0 rfl rfl ?_; clear hS; intro a hS
  refine r_assign hS hH.kp0 rfl rfl ?_; clear hS; intro a hS
  refine Sq.nil ?_
  refine then_n ?_
  refine wp_ret ?_
  exact leave (.inl rfl) hS rfl (Res.tmp rfl (Res.tmp rfl (Res.tmp rfl Res.nil))) ⟨_, rfl, ⟨bz, cz, kz, rfl, hwz, hH.get (b := bz) (by repeat (first | exact In.here | refine In.there ?_)), hBz⟩, hH.mod⟩

set_option maxRecDepth 100000 in
set_option maxHeartbeats 2000000 in
theorem Put_5f (ve : Int) (q1 q2 q3 q4 : Option Addr) (c1 c2 c3 c4 : Nat) (dst src tok tag : List UInt8) (lst : List Int) (ln : Int) (htag : tag.length = 16) (n : Nat) (low : Nat) (hlow : low < 18446744073709551616) (w0 : World) (WT : TypeId) (WF : Nat × Nat) (hw0 : w0.heap[0]? = some (.cells [.int .i64 6, .int .i64 14, .int .i64 30, .int .i64 62].toArray WT WF)) (hll : lst.length ≤ 1048576) (hlst : IsA w0 q4 c4 lst) (hd : Bs w0 (.slice q1 dst.length c1) dst) (hs : Bs w0 (.slice q2 src.length c2) src) (ht : Bs w0 (.slice q3 tok.length c3) tok) (hm : mayP 5 dst.length src.length tok.length (ln : Int) (n : Int) lst.length (badN lst)) : Calls Tryd.prog 12 #[.agg ([.int .i64 5, .int .i64 ve, .slice q1 dst.length c1, .slice q2 src.length c2, .slice q3 tok.length c3, .int .i64 (ln : Int), .bool false, .slice q4 lst.length c4] ++ hcells tag : List Value).toArray, .int .u64 (low : Int), .int .i64 (n : Int)] w0 fun e w' => ∃ r, e = .returned (.tuple #[r, .int .i64 ((headB 5 n dst src tok ln.toNat false lst tag).length : Int), .int .i64 0]) ∧ NB w0.heap.size 5 w' r (headB 5 n dst src tok ln.toNat false lst tag ++ beB low n) ∧ Ext w0 w' := by
  refine enter Tryd.func12 rfl rfl rfl ?_
  intro a hS
  have hH := Hp.start w0 (Nobody)
  have hm2 := hm
  unfold mayP at hm2
  obtain ⟨t0, t1, t2, t3, t4, t5, t6, t7, t8, t9, ta, tb, tc, td, te, tf, rfl⟩ := len16 htag
  replace hH := hH.know hw0 (fun p hp => by simp at hp)
  have hwl := wideB_le tok.length
  refine c_seq ?_
  refine reg_plain w0 (Nobody) ?_
  refine r_box hS hH (by repeat (first | exact Sub.nil | refine Sub.cons ?_ ?_ | exact In.here | refine In.there ?_)) rfl rfl rfl ?_
  clear hS hH; intro a w b3 hb3 hwb3 hS hH
  refine r_assign hS hH.kp0 rfl rfl ?_; clear hS; intro a hS
  refine r_assign hS hH.kp0 rfl rfl ?_; clear hS; intro a hS
  refine r_assign hS hH.kp0 rfl rfl ?_; clear hS; intro a hS
  refine Sq.nil ?_
  refine then_n ?_
  refine c_seq ?_
  refine c_seq ?_
  refine reg_plain w0 (Nobody) ?_
  refine r_load_row hS hH (by repeat (first | exact Sub.nil | refine Sub.cons ?_ ?_ | exact In.here | refine In.there ?_)) rfl (by repeat (first | exact In.here | refine In.there ?_)) Fp.ag26 (by rfl) rfl ?_; clear hS; intro a hS
  refine r_move hS hH.kp0 rfl rfl ?_; clear hS; intro a hS
  refine r_call (l := [.tmp 12, .tmp 13]) hS rfl rfl Fp.fn25 rfl ?_
  refine Calls.mono (right_c 5 ve q1 q2 q3 q4 c1 c2 c3 c4 dst src tok _ lst (ln : Int) false htag (n : Int) _ (by omega) (hlst.ext hH.mod)) ?_
  rintro e w1 ⟨rfl, hE⟩
  replace hH := hH.ext hE
  refine ⟨_, rfl, hH.kp0, ?_⟩
  clear hS; intro a hS
  refine r_not hS hH.kp0 rfl rfl ?_; clear hS; intro a hS
  refine Sq.nil ?_
  refine then_n ?_
  refine c_condF hS rfl (by rw [DT hm]; rfl) ?_
  refine wp_skip ?_
  refine then_n ?_
  refine c_seq ?_
  refine c_seq ?_
  refine reg_plain w0 (Nobody) ?_
  refine r_fieldAddr hS hH.kp0 rfl Fp.fo26_0 rfl ?_; clear hS; intro a hS
  refine r_load_sc hS hH (by repeat (first | exact Sub.nil | refine Sub.cons ?_ ?_ | exact In.here | refine In.there ?_)) rfl (by repeat (first | exact In.here | refine In.there ?_)) Fp.sc3 (by rfl) rfl ?_; clear hS; intro a hS
  refine Sq.nil ?_
  refine then_n ?_
  refine wp_block ?_
  refine c_seq ?_
  refine reg_plain w0 (Nobody) ?_
  refine r_eql hS hH.kp0 rfl rfl rfl ?_; clear hS; intro a hS
  refine r_assign hS hH.kp0 rfl rfl ?_; clear hS; intro a hS
  refine Sq.nil ?_
  refine then_n ?_
  refine c_condF hS rfl rfl ?_
  refine c_seq ?_
  refine reg_plain w0 (Nobody) ?_
  refine r_eql hS hH.kp0 rfl rfl rfl ?_; clear hS; intro a hS
  refine r_assign hS hH.kp0 rfl rfl ?_; clear hS; intro a hS
  refine Sq.nil ?_
  refine then_n ?_
  refine c_condF hS rfl rfl ?_
  refine c_seq ?_
  refine reg_plain w0 (Nobody) ?_
  refine r_eql hS hH.kp0 rfl rfl rfl ?_; clear hS; intro a hS
  refine r_assign hS hH.kp0 rfl rfl ?_; clear hS; intro a hS
  refine Sq.nil ?_
  refine then_n ?_
  refine c_condT hS rfl rfl ?_
  refine c_seq ?_
  refine reg_plain w0 (Nobody) ?_
  refine r_move hS hH.kp0 rfl rfl ?_; clear hS; intro a hS
  refine r_orI (64) (n) (64 + n) hS hH.kp0 rfl rfl rfl rfl rfl (by omega) (by omega) (or_small (by decide) (by omega)) ?_; clear hS; intro a hS
  first | refine r_sub hS hH.kp0 rfl rfl rfl (by omega) ?_ | refine r_subw hS hH.kp0 rfl rfl rfl ?_
  clear hS; intro a hS
  refine r_toU8' (63 + n) (UInt8.ofNat (63 + n)) hS hH.kp0 rfl Fp.ui5 Fp.us3 rfl (by omega) rfl ?_; clear hS; intro a hS
  refine r_assign hS hH.kp0 rfl rfl ?_; clear hS; intro a hS
  refine Sq.nil ?_
  refine then_n ?_
  refine c_seq ?_
  refine c_seq ?_
  refine reg_plain w0 (Nobody) ?_
  refine r_fieldAddr hS hH.kp0 rfl Fp.fo26_6 rfl ?_; clear hS; intro a hS
  refine r_load_sc hS hH (by repeat (first | exact Sub.nil | refine Sub.cons ?_ ?_ | exact In.here | refine In.there ?_)) rfl (by repeat (first | exact In.here | refine In.there ?_)) Fp.sc4 (by rfl) rfl ?_; clear hS; intro a hS
  refine Sq.nil ?_
  refine then_n ?_
  refine c_condF hS rfl rfl ?_
  refine wp_skip ?_
  refine then_n ?_
  refine reg_plain w0 (Nobody) ?_
  refine r_move hS hH.kp0 rfl rfl ?_; clear hS; intro a hS
  refine r_buildSlice (parts := [(0, .tmp 77)]) hS hH (by repeat (first | exact Sub.nil | refine Sub.cons ?_ ?_ | exact In.here | refine In.there ?_)) rfl Fp.bsl22_1 (by rfl) rfl ?_
  clear hS hH; intro a w b78 hb78 hwb78 hS hH
  refine r_fieldAddr hS hH.kp0 rfl Fp.fo26_2 rfl ?_; clear hS; intro a hS
  refine r_load_sc hS hH (by repeat (first | exact Sub.nil | refine Sub.cons ?_ ?_ | exact In.here | refine In.there ?_)) rfl (by repeat (first | exact In.here | refine In.there ?_)) Fp.sc22 (by rfl) rfl ?_; clear hS; intro a hS
  refine r_appB (l := _) ([UInt8.ofNat (63 + n)]) (dst) hS hH rfl rfl (by first | exact .here | exact .there .here | exact .there (.there .here) | exact .there (.there (.there .here)) | exact .there (.there (.there (.there .here))) | exact .there (.there (.there (.there (.there .here)))) | exact .there (.there (.there (.there (.there (.there .here))))) | exact .there (.there (.there (.there (.there (.there (.there .here)))))) | exact .there (.there (.there (.there (.there (.there (.there (.there .here))))))) | exact .there (.there (.there (.there (.there (.there (.there (.there (.there .here)))))))) | exact .there (.there (.there (.there (.there (.there (.there (.there (.there (.there .here))))))))) | exact .there (.there (.there (.there (.there (.there (.there (.there (.there (.there (.there .here)))))))))) | exact .there (.there (.there (.there (.there (.there (.there (.there (.there (.there (.there (.there .here))))))))))) | exact .there (.there (.there (.there (.there (.there (.there (.there (.there (.there (.there (.there (.there .here)))))))))))) | exact .there (.there (.there (.there (.there (.there (.there (.there (.there (.there (.there (.there (.there (.there .here))))))))))))) | exact .there (.there (.there (.there (.there (.there (.there (.there (.there (.there (.there (.there (.there (.there (.there .here))))))))))))))) (by repeat (first | exact Sub.nil | refine Sub.cons ?_ ?_ | exact In.here | refine In.there ?_)) Fp.el22 Fp.ni22 (BB.lit [UInt8.ofNat (63 + n)] rfl rfl) (hd.ext hH.mod) (by simp only [List.length_cons, List.length_nil]; omega) (by assumption) rfl ?_
  clear hS hH; intro a w bq cq kq hwq hBq hS hH
  refine r_assign hS hH.kp0 rfl rfl ?_; clear hS; intro a hS
  refine Sq.nil ?_
  refine blk_n ?_
  refine then_n ?_
  refine c_seq ?_
  refine reg_plain w0 (Nobody) ?_
  refine r_move hS hH.kp0 rfl rfl ?_; clear hS; intro a hS
  refine r_move hS hH.kp0 rfl rfl ?_; clear hS; intro a hS
  refine r_move hS hH.kp0 rfl rfl ?_; clear hS; intro a hS
  refine r_call (l := [.tmp 109, .tmp 110, .tmp 111]) hS rfl rfl Fp.fn27 rfl ?_
  refine Calls.mono (layH_c ⟨bq, 0, none⟩ cq ([UInt8.ofNat (63 + n)] ++ dst) low n (by simp only [List.length_append, List.length_cons, List.length_nil]; omega) hlow (by omega) (by omega) _ (hBq.bs (hH.get (b := bq) (by repeat (first | exact In.here | refine In.there ?_))))) ?_
  rintro e w1 ⟨rz, rfl, hN, hE⟩
  obtain ⟨bz, cz, kz, hvz, hrz, hrkz, hBz⟩ := hN
  subst hvz
  have hwz := Nat.le_trans hH.mod.size hrz
  replace hH := hH.knowN hE hrz hrkz
  refine ⟨_, rfl, hH.kp0, ?_⟩
  clear hS; intro a hS
  refine r_move hS hH.kp0 rfl rfl ?_; clear hS; intro a hS
  refine r_lenSl hS hH.kp0 rfl Fp.isSlice22 rfl ?_; clear hS; intro a hS
  refine r_assign hS hH.kp0 rfl rfl ?_; clear hS; intro a hS
  refine r_assign hS hH.kp0 rfl rfl ?_; clear hS; intro a hS
  refine r_assign hS hH.kp0 rfl rfl ?_; clear hS; intro a hS
  refine Sq.nil ?_
  refine then_n ?_
  refine wp_ret ?_
  exact leave (.inl rfl) hS rfl (Res.tmp rfl (Res.tmp rfl (Res.tmp rfl Res.nil))) ⟨_, rfl, ⟨bz, cz, kz, rfl, hwz, hH.get (b := bz) (by repeat (first | exact In.here | refine In.there ?_)), hBz⟩, hH.mod⟩

set_option maxRecDepth 100000 in
set_option maxHeartbeats 2000000 in
theorem Put_0 (ve : Int) (q1 q2 q3 q4 : Option Addr) (c1 c2 c3 c4 : Nat) (dst src tok tag : List UInt8) (lst : List Int) (ln : Nat) (ph : Bool) (htag : tag.length = 16) (n : Nat) (low : Nat) (hlow : low < 18446744073709551616) (w0 : World) (WT : TypeId) (WF : Nat × Nat) (hw0 : w0.heap[0]? = some (.cells [.int .i64 6, .int .i64 14, .int .i64 30, .int .i64 62].toArray WT WF)) (hll : lst.length ≤ 1048576) (hlst : IsA w0 q4 c4 lst) (hd : Bs w0 (.slice q1 dst.length c1) dst) (hs : Bs w0 (.slice q2 src.length c2) src) (ht : Bs w0 (.slice q3 tok.length c3) tok) (hm : mayP 0 dst.length src.length tok.length (ln : Int) (n : Int) lst.length (badN lst)) : Calls Tryd.prog 12 #[.agg ([.int .i64 0, .int .i64 ve, .slice q1 dst.length c1, .slice q2 src.length c2, .slice q3 tok.length c3, .int .i64 (ln : Int), .bool ph, .slice q4 lst.length c4] ++ hcells tag : List Value).toArray, .int .u64 (low : Int), .int .i64 (n : Int)] w0 fun e w' => ∃ r, e = .returned (.tuple #[r, .int .i64 ((headB 0 n dst src tok ln ph lst tag).length : Int), .int .i64 0]) ∧ NB w0.heap.size 5 w' r (headB 0 n dst src tok ln ph lst tag ++ beB low n) ∧ Ext w0 w' := by
  refine enter Tryd.func12 rfl rfl rfl ?_
  intro a hS
  have hH := Hp.start w0 (Nobody)
  have hm2 := hm
  unfold mayP at hm2
  obtain ⟨t0, t1, t2, t3, t4, t5, t6, t7, t8, t9, ta, tb, tc, td, te, tf, rfl⟩ := len16 htag
  replace hH := hH.know hw0 (fun p hp => by simp at hp)
  have hwl := wideB_le tok.length
  have hw2 : (wideB ln 1).length = 2 := wideB_len _ _
  refine c_seq ?_
  refine reg_plain w0 (Nobody) ?_
  refine r_box hS hH (by repeat (first | exact Sub.nil | refine Sub.cons ?_ ?_ | exact In.here | refine In.there ?_)) rfl rfl rfl ?_
  clear hS hH; intro a w b3 hb3 hwb3 hS hH
  refine r_assign hS hH.kp0 rfl rfl ?_; clear hS; intro a hS
  refine r_assign hS hH.kp0 rfl rfl ?_; clear hS; intro a hS
  refine r_assign hS hH.kp0 rfl rfl ?_; clear hS; intro a hS
  refine Sq.nil ?_
  refine then_n ?_
  refine c_seq ?_
  refine c_seq ?_
  refine reg_plain w0 (Nobody) ?_
  refine r_load_row hS hH (by repeat (first | exact Sub.nil | refine Sub.cons ?_ ?_ | exact In.here | refine In.there ?_)) rfl (by repeat (first | exact In.here | refine In.there ?_)) Fp.ag26 (by rfl) rfl ?_; clear hS; intro a hS
  refine r_move hS hH.kp0 rfl rfl ?_; clear hS; intro a hS
  refine r_call (l := [.tmp 12, .tmp 13]) hS rfl rfl Fp.fn25 rfl ?_
  refine Calls.mono (right_c 0 ve q1 q2 q3 q4 c1 c2 c3 c4 dst src tok _ lst (ln : Int) ph htag (n : Int) _ (by omega) (hlst.ext hH.mod)) ?_
  rintro e w1 ⟨rfl, hE⟩
  replace hH := hH.ext hE
  refine ⟨_, rfl, hH.kp0, ?_⟩
  clear hS; intro a hS
  refine r_not hS hH.kp0 rfl rfl ?_; clear hS; intro a hS
  refine Sq.nil ?_
  refine then_n ?_
  refine c_condF hS rfl (by rw [DT hm]; rfl) ?_
  refine wp_skip ?_
  refine then_n ?_
  refine c_seq ?_
  refine c_seq ?_
  refine reg_plain w0 (Nobody) ?_
  refine r_fieldAddr hS hH.kp0 rfl Fp.fo26_0 rfl ?_; clear hS; intro a hS
  refine r_load_sc hS hH (by repeat (first | exact Sub.nil | refine Sub.cons ?_ ?_ | exact In.here | refine In.there ?_)) rfl (by repeat (first | exact In.here | refine In.there ?_)) Fp.sc3 (by rfl) rfl ?_; clear hS; intro a hS
  refine Sq.nil ?_
  refine then_n ?_
  refine wp_block ?_
  refine c_seq ?_
  refine reg_plain w0 (Nobody) ?_
  refine r_eql hS hH.kp0 rfl rfl rfl ?_; clear hS; intro a hS
  refine r_assign hS hH.kp0 rfl rfl ?_; clear hS; intro a hS
  refine Sq.nil ?_
  refine then_n ?_
  refine c_condF hS rfl rfl ?_
  refine c_seq ?_
  refine reg_plain w0 (Nobody) ?_
  refine r_eql hS hH.kp0 rfl rfl rfl ?_; clear hS; intro a hS
  refine r_assign hS hH.kp0 rfl rfl ?_; clear hS; intro a hS
  refine Sq.nil ?_
  refine then_n ?_
  refine c_condF hS rfl rfl ?_
  refine c_seq ?_
  refine reg_plain w0 (Nobody) ?_
  refine r_eql hS hH.kp0 rfl rfl rfl ?_; clear hS; intro a hS
  refine r_assign hS hH.kp0 rfl rfl ?_; clear hS; intro a hS
  refine Sq.nil ?_
  refine then_n ?_
  refine c_condF hS rfl rfl ?_
  refine c_seq ?_
  refine reg_plain w0 (Nobody) ?_
  refine r_eql hS hH.kp0 rfl rfl rfl ?_; clear hS; intro a hS
  refine r_assign hS hH.kp0 rfl rfl ?_; clear hS; intro a hS
  refine Sq.nil ?_
  refine then_n ?_
  refine c_condT hS rfl rfl ?_
  refine c_seq ?_
  refine reg_plain w0 (Nobody) ?_
  refine r_load_row hS hH (by repeat (first | exact Sub.nil | refine Sub.cons ?_ ?_ | exact In.here | refine In.there ?_)) rfl (by repeat (first | exact In.here | refine In.there ?_)) Fp.ag26 (by rfl) rfl ?_; clear hS; intro a hS
  refine r_move hS hH.kp0 rfl rfl ?_; clear hS; intro a hS
  refine r_orI (192) (n) (192 + n) hS hH.kp0 rfl rfl rfl rfl rfl (by omega) (by omega) (or_small (by decide) (by omega)) ?_; clear hS; intro a hS
  first | refine r_sub hS hH.kp0 rfl rfl rfl (by omega) ?_ | refine r_subw hS hH.kp0 rfl rfl rfl ?_
  clear hS; intro a hS
  refine r_toU8' (191 + n) (UInt8.ofNat (191 + n)) hS hH.kp0 rfl Fp.ui5 Fp.us3 rfl (by omega) rfl ?_; clear hS; intro a hS
  refine r_call (l := [.tmp 84, .tmp 88, .const (.int .u64 1)]) hS rfl rfl Fp.fn26 rfl ?_
  refine Calls.mono (start_c (191 + n) 1 0 ve q1 q2 q3 q4 c1 c2 c3 c4 dst src tok _ lst (ln : Int) ph htag _ (by decide) (by omega) (by omega) (hd.ext hH.mod) (hs.ext hH.mod)) ?_
  rintro e w1 ⟨rp, rfl, hN, hE⟩
  obtain ⟨bp, cp, kp, hvp, hrp, hrkp, hBp⟩ := hN
  subst hvp
  have hwp := Nat.le_trans hH.mod.size hrp
  replace hH := hH.knowN hE hrp hrkp
  refine ⟨_, rfl, hH.kp0, ?_⟩
  clear hS; intro a hS
  refine r_assign hS hH.kp0 rfl rfl ?_; clear hS; intro a hS
  refine Sq.nil ?_
  refine then_n ?_
  refine c_seq ?_
  refine reg_plain w0 (Nobody) ?_
  refine r_move hS hH.kp0 rfl rfl ?_; clear hS; intro a hS
  refine r_fieldAddr hS hH.kp0 rfl Fp.fo26_4 rfl ?_; clear hS; intro a hS
  refine r_load_sc hS hH (by repeat (first | exact Sub.nil | refine Sub.cons ?_ ?_ | exact In.here | refine In.there ?_)) rfl (by repeat (first | exact In.here | refine In.there ?_)) Fp.sc22 (by rfl) rfl ?_; clear hS; intro a hS
  refine r_lenSl hS hH.kp0 rfl Fp.isSlice22 rfl ?_; clear hS; intro a hS
  refine r_call (l := [.tmp 91, .tmp 94]) hS rfl rfl Fp.fn29 rfl ?_
  refine Calls.mono (PutVar_c ⟨bp, 0, none⟩ cp (startB (191 + n) 1 dst src) tok.length (by simp only [startB_len]; omega) (by omega) _ WT WF (hH.get (b := 0) (by repeat (first | exact In.here | refine In.there ?_))) (hBp.bs (hH.get (b := bp) (by repeat (first | exact In.here | refine In.there ?_))))) ?_
  rintro e w1 ⟨rq, rfl, hN, hE⟩
  obtain ⟨bq, cq, kq, hvq, hrq, hrkq, hBq⟩ := hN
  subst hvq
  have hwq := Nat.le_trans hH.mod.size hrq
  replace hH := hH.knowN hE hrq hrkq
  refine ⟨_, rfl, hH.kp0, ?_⟩
  clear hS; intro a hS
  refine r_move hS hH.kp0 rfl rfl ?_; clear hS; intro a hS
  refine r_extract hS hH.kp0 rfl rfl rfl ?_; clear hS; intro a hS
  refine r_extract hS hH.kp0 rfl rfl rfl ?_; clear hS; intro a hS
  refine r_assign hS hH.kp0 rfl rfl ?_; clear hS; intro a hS
  refine Sq.nil ?_
  refine then_n ?_
  refine c_seq ?_
  refine reg_plain w0 (Nobody) ?_
  refine r_move hS hH.kp0 rfl rfl ?_; clear hS; intro a hS
  refine r_fieldAddr hS hH.kp0 rfl Fp.fo26_4 rfl ?_; clear hS; intro a hS
  refine r_load_sc hS hH (by repeat (first | exact Sub.nil | refine Sub.cons ?_ ?_ | exact In.here | refine In.there ?_)) rfl (by repeat (first | exact In.here | refine In.there ?_)) Fp.sc22 (by rfl) rfl ?_; clear hS; intro a hS
  refine r_appB (l := _) (startB (191 + n) 1 dst src ++ wideB tok.length (formK tok.length)) (tok) hS hH rfl rfl (by first | exact .here | exact .there .here | exact .there (.there .here) | exact .there (.there (.there .here)) | exact .there (.there (.there (.there .here))) | exact .there (.there (.there (.there (.there .here)))) | exact .there (.there (.there (.there (.there (.there .here))))) | exact .there (.there (.there (.there (.there (.there (.there .here)))))) | exact .there (.there (.there (.there (.there (.there (.there (.there .here))))))) | exact .there (.there (.there (.there (.there (.there (.there (.there (.there .here)))))))) | exact .there (.there (.there (.there (.there (.there (.there (.there (.there (.there .here))))))))) | exact .there (.there (.there (.there (.there (.there (.there (.there (.there (.there (.there .here)))))))))) | exact .there (.there (.there (.there (.there (.there (.there (.there (.there (.there (.there (.there .here))))))))))) | exact .there (.there (.there (.there (.there (.there (.there (.there (.there (.there (.there (.there (.there .here)))))))))))) | exact .there (.there (.there (.there (.there (.there (.there (.there (.there (.there (.there (.there (.there (.there .here))))))))))))) | exact .there (.there (.there (.there (.there (.there (.there (.there (.there (.there (.there (.there (.there (.there (.there .here))))))))))))))) (by repeat (first | exact Sub.nil | refine Sub.cons ?_ ?_ | exact In.here | refine In.there ?_)) Fp.el22 Fp.ni22 hBq (ht.ext hH.mod) (by simp only [List.length_append, startB_len]; omega) (by assumption) rfl ?_
  clear hS hH; intro a w br cr kr hwr hBr hS hH
  refine r_assign hS hH.kp0 rfl rfl ?_; clear hS; intro a hS
  refine Sq.nil ?_
  refine then_n ?_
  refine reg_plain w0 (Nobody) ?_
  refine r_move hS hH.kp0 rfl rfl ?_; clear hS; intro a hS
  refine r_fieldAddr hS hH.kp0 rfl Fp.fo26_5 rfl ?_; clear hS; intro a hS
  refine r_load_sc hS hH (by repeat (first | exact Sub.nil | refine Sub.cons ?_ ?_ | exact In.here | refine In.there ?_)) rfl (by repeat (first | exact In.here | refine In.there ?_)) Fp.sc3 (by rfl) rfl ?_; clear hS; intro a hS
  refine r_call (l := [.tmp 103, .tmp 105, .const (.int .i64 2)]) hS rfl rfl Fp.fn30 rfl ?_
  refine Calls.mono (PutWide_c ⟨br, 0, none⟩ cr (startB (191 + n) 1 dst src ++ wideB tok.length (formK tok.length) ++ tok) ln (by simp only [List.length_append, startB_len]; omega) (by omega) _ WT WF (hH.get (b := 0) (by repeat (first | exact In.here | refine In.there ?_))) (hBr.bs (hH.get (b := br) (by repeat (first | exact In.here | refine In.there ?_))))) ?_
  rintro e w1 ⟨rx, rfl, hN, hE⟩
  obtain ⟨bx, cx, kx, hvx, hrx, hrkx, hBx⟩ := hN
  subst hvx
  have hwx := Nat.le_trans hH.mod.size hrx
  replace hH := hH.knowN hE hrx hrkx
  refine ⟨_, rfl, hH.kp0, ?_⟩
  clear hS; intro a hS
  refine r_move hS hH.kp0 rfl rfl ?_; clear hS; intro a hS
  refine r_extract hS hH.kp0 rfl rfl rfl ?_; clear hS; intro a hS
  refine r_extract hS hH.kp0 rfl rfl rfl ?_; clear hS; intro a hS
  refine r_assign hS hH.kp0 rfl rfl ?_; clear hS; intro a hS
  refine Sq.nil ?_
  refine blk_n ?_
  refine then_n ?_
  refine c_seq ?_
  refine reg_plain w0 (Nobody) ?_
  refine r_move hS hH.kp0 rfl rfl ?_; clear hS; intro a hS
  refine r_move hS hH.kp0 rfl rfl ?_; clear hS; intro a hS
  refine r_move hS hH.kp0 rfl rfl ?_; clear hS; intro a hS
  refine r_call (l := [.tmp 109, .tmp 110, .tmp 111]) hS rfl rfl Fp.fn27 rfl ?_
  refine Calls.mono (layH_c ⟨bx, 0, none⟩ cx (startB (191 + n) 1 dst src ++ wideB tok.length (formK tok.length) ++ tok ++ wideB ln 1) low n (by simp only [List.length_append, startB_len]; omega) hlow (by omega) (by omega) _ (hBx.bs (hH.get (b := bx) (by repeat (first | exact In.here | refine In.there ?_))))) ?_
  rintro e w1 ⟨rz, rfl, hN, hE⟩
  obtain ⟨bz, cz, kz, hvz, hrz, hrkz, hBz⟩ := hN
  subst hvz
  have hwz := Nat.le_trans hH.mod.size hrz
  replace hH := hH.knowN hE hrz hrkz
  refine ⟨_, rfl, hH.kp0, ?_⟩
  clear hS; intro a hS
  refine r_move hS hH.kp0 rfl rfl ?_; clear hS; intro a hS
  refine r_lenSl hS hH.kp0 rfl Fp.isSlice22 rfl ?_; clear hS; intro a hS
  refine r_assign hS hH.kp0 rfl rfl ?_; clear hS; intro a hS
  refine r_assign hS hH.kp0 rfl rfl ?_; clear hS; intro a hS
  refine r_assign hS hH.kp0 rfl rfl ?_; clear hS; intro a hS
  refine Sq.nil ?_
  refine then_n ?_
  refine wp_ret ?_
  exact leave (.inl rfl) hS rfl (Res.tmp rfl (Res.tmp rfl (Res.tmp rfl Res.nil))) ⟨_, rfl, ⟨bz, cz, kz, rfl, hwz, hH.get (b := bz) (by repeat (first | exact In.here | refine In.there ?_)), hBz⟩, hH.mod⟩

set_option maxRecDepth 100000 in
set_option maxHeartbeats 2000000 in
theorem Put_1 (ve : Int) (q1 q2 q3 q4 : Option Addr) (c1 c2 c3 c4 : Nat) (dst src tok tag : List UInt8) (lst : List Int) (ln : Nat) (ph : Bool) (htag : tag.length = 16) (n : Nat) (low : Nat) (hlow : low < 18446744073709551616) (w0 : World) (WT : TypeId) (WF : Nat × Nat) (hw0 : w0.heap[0]? = some (.cells [.int .i64 6, .int .i64 14, .int .i64 30, .int .i64 62].toArray WT WF)) (hll : lst.length ≤ 1048576) (hlst : IsA w0 q4 c4 lst) (hd : Bs w0 (.slice q1 dst.length c1) dst) (hs : Bs w0 (.slice q2 src.length c2) src) (ht : Bs w0 (.slice q3 tok.length c3) tok) (hm : mayP 1 dst.length src.length tok.length (ln : Int) (n : Int) lst.length (badN lst)) : Calls Tryd.prog 12 #[.agg ([.int .i64 1, .int .i64 ve, .slice q1 dst.length c1, .slice q2 src.length c2, .slice q3 tok.length c3, .int .i64 (ln : Int), .bool ph, .slice q4 lst.length c4] ++ hcells tag : List Value).toArray, .int .u64 (low : Int), .int .i64 (n : Int)] w0 fun e w' => ∃ r, e = .returned (.tuple #[r, .int .i64 ((headB 1 n dst src tok ln ph lst tag).length : Int), .int .i64 0]) ∧ NB w0.heap.size 5 w' r (headB 1 n dst src tok ln ph lst tag ++ beB low n) ∧ Ext w0 w' := by
  refine enter Tryd.func12 rfl rfl rfl ?_
  intro a hS
  have hH := Hp.start w0 (Nobody)
  have hm2 := hm
  unfold mayP at hm2
  obtain ⟨t0, t1, t2, t3, t4, t5, t6, t7, t8, t9, ta, tb, tc, td, te, tf, rfl⟩ := len16 htag
  replace hH := hH.know hw0 (fun p hp => by simp at hp)
  have hwl := wideB_le tok.length
  have hw2 : (wideB ln 1).length = 2 := wideB_len _ _
  refine c_seq ?_
  refine reg_plain w0 (Nobody) ?_
  refine r_box hS hH (by repeat (first | exact Sub.nil | refine Sub.cons ?_ ?_ | exact In.here | refine In.there ?_)) rfl rfl rfl ?_
  clear hS hH; intro a w b3 hb3 hwb3 hS hH
  refine r_assign hS hH.kp0 rfl rfl ?_; clear hS; intro a hS
  refine r_assign hS hH.kp0 rfl rfl ?_; clear hS; intro a hS
  refine r_assign hS hH.kp0 rfl rfl ?_; clear hS; intro a hS
  refine Sq.nil ?_
  refine then_n ?_
  refine c_seq ?_
  refine c_seq ?_
  refine reg_plain w0 (Nobody) ?_
  refine r_load_row hS hH (by repeat (first | exact Sub.nil | refine Sub.cons ?_ ?_ | exact In.here | refine In.there ?_)) rfl (by repeat (first | exact In.here | refine In.there ?_)) Fp.ag26 (by rfl) rfl ?_; clear hS; intro a hS
  refine r_move hS hH.kp0 rfl rfl ?_; clear hS; intro a hS
  refine r_call (l := [.tmp 12, .tmp 13]) hS rfl rfl Fp.fn25 rfl ?_
  refine Calls.mono (right_c 1 ve q1 q2 q3 q4 c1 c2 c3 c4 dst src tok _ lst (ln : Int) ph htag (n : Int) _ (by omega) (hlst.ext hH.mod)) ?_
  rintro e w1 ⟨rfl, hE⟩
  replace hH := hH.ext hE
  refine ⟨_, rfl, hH.kp0, ?_⟩
  clear hS; intro a hS
  refine r_not hS hH.kp0 rfl rfl ?_; clear hS; intro a hS
  refine Sq.nil ?_
  refine then_n ?_
  refine c_condF hS rfl (by rw [DT hm]; rfl) ?_
  refine wp_skip ?_
  refine then_n ?_
  refine c_seq ?_
  refine c_seq ?_
  refine reg_plain w0 (Nobody) ?_
  refine r_fieldAddr hS hH.kp0 rfl Fp.fo26_0 rfl ?_; clear hS; intro a hS
  refine r_load_sc hS hH (by repeat (first | exact Sub.nil | refine Sub.cons ?_ ?_ | exact In.here | refine In.there ?_)) rfl (by repeat (first | exact In.here | refine In.there ?_)) Fp.sc3 (by rfl) rfl ?_; clear hS; intro a hS
  refine Sq.nil ?_
  refine then_n ?_
  refine wp_block ?_
  refine c_seq ?_
  refine reg_plain w0 (Nobody) ?_
  refine r_eql hS hH.kp0 rfl rfl rfl ?_; clear hS; intro a hS
  refine r_assign hS hH.kp0 rfl rfl ?_; clear hS; intro a hS
  refine Sq.nil ?_
  refine then_n ?_
  refine c_condF hS rfl rfl ?_
  refine c_seq ?_
  refine reg_plain w0 (Nobody) ?_
  refine r_eql hS hH.kp0 rfl rfl rfl ?_; clear hS; intro a hS
  refine r_assign hS hH.kp0 rfl rfl ?_; clear hS; intro a hS
  refine Sq.nil ?_
  refine then_n ?_
  refine c_condF hS rfl rfl ?_
  refine c_seq ?_
  refine reg_plain w0 (Nobody) ?_
  refine r_eql hS hH.kp0 rfl rfl rfl ?_; clear hS; intro a hS
  refine r_assign hS hH.kp0 rfl rfl ?_; clear hS; intro a hS
  refine Sq.nil ?_
  refine then_n ?_
  refine c_condF hS rfl rfl ?_
  refine c_seq ?_
  refine reg_plain w0 (Nobody) ?_
  refine r_eql hS hH.kp0 rfl rfl rfl ?_; clear hS; intro a hS
  refine r_assign hS hH.kp0 rfl rfl ?_; clear hS; intro a hS
  refine Sq.nil ?_
  refine then_n ?_
  refine c_condF hS rfl rfl ?_
  refine c_seq ?_
  refine reg_plain w0 (Nobody) ?_
  refine r_load_row hS hH (by repeat (first | exact Sub.nil | refine Sub.cons ?_ ?_ | exact In.here | refine In.there ?_)) rfl (by repeat (first | exact In.here | refine In.there ?_)) Fp.ag26 (by rfl) rfl ?_; clear hS; intro a hS
  refine r_fieldAddr hS hH.kp0 rfl Fp.fo26_0 rfl ?_; clear hS; intro a hS
  refine r_load_sc hS hH (by repeat (first | exact Sub.nil | refine Sub.cons ?_ ?_ | exact In.here | refine In.there ?_)) rfl (by repeat (first | exact In.here | refine In.there ?_)) Fp.sc3 (by rfl) rfl ?_; clear hS; intro a hS
  refine r_shl hS hH.kp0 rfl rfl rfl (by decide) ?_; clear hS; intro a hS
  refine r_orI (192) (16 * 1) (192 + 16 * 1) hS hH.kp0 rfl rfl rfl rfl (by decide) (by omega) (by omega) (by decide) ?_; clear hS; intro a hS
  refine r_move hS hH.kp0 rfl rfl ?_; clear hS; intro a hS
  refine r_orI (192 + 16 * 1) (n) (192 + 16 * 1 + n) hS hH.kp0 rfl rfl rfl rfl rfl (by omega) (by omega) (or_small (by decide) (by omega)) ?_; clear hS; intro a hS
  first | refine r_sub hS hH.kp0 rfl rfl rfl (by omega) ?_ | refine r_subw hS hH.kp0 rfl rfl rfl ?_
  clear hS; intro a hS
  refine r_toU8' (191 + 16 * 1 + n) (UInt8.ofNat (191 + 16 * 1 + n)) hS hH.kp0 rfl Fp.ui5 Fp.us3 rfl (by omega) rfl ?_; clear hS; intro a hS
  refine r_call (l := [.tmp 18, .tmp 26, .const (.int .u64 1)]) hS rfl rfl Fp.fn26 rfl ?_
  refine Calls.mono (start_c (191 + 16 * 1 + n) 1 1 ve q1 q2 q3 q4 c1 c2 c3 c4 dst src tok _ lst (ln : Int) ph htag _ (by decide) (by omega) (by omega) (hd.ext hH.mod) (hs.ext hH.mod)) ?_
  rintro e w1 ⟨rp, rfl, hN, hE⟩
  obtain ⟨bp, cp, kp, hvp, hrp, hrkp, hBp⟩ := hN
  subst hvp
  have hwp := Nat.le_trans hH.mod.size hrp
  replace hH := hH.knowN hE hrp hrkp
  refine ⟨_, rfl, hH.kp0, ?_⟩
  clear hS; intro a hS
  refine r_assign hS hH.kp0 rfl rfl ?_; clear hS; intro a hS
  refine Sq.nil ?_
  refine then_n ?_
  refine reg_plain w0 (Nobody) ?_
  refine r_move hS hH.kp0 rfl rfl ?_; clear hS; intro a hS
  refine r_fieldAddr hS hH.kp0 rfl Fp.fo26_5 rfl ?_; clear hS; intro a hS
  refine r_load_sc hS hH (by repeat (first | exact Sub.nil | refine Sub.cons ?_ ?_ | exact In.here | refine In.there ?_)) rfl (by repeat (first | exact In.here | refine In.there ?_)) Fp.sc3 (by rfl) rfl ?_; clear hS; intro a hS
  refine r_call (l := [.tmp 29, .tmp 31, .const (.int .i64 2)]) hS rfl rfl Fp.fn30 rfl ?_
  refine Calls.mono (PutWide_c ⟨bp, 0, none⟩ cp (startB (191 + 16 * 1 + n) 1 dst src) ln (by simp only [startB_len]; omega) (by omega) _ WT WF (hH.get (b := 0) (by repeat (first | exact In.here | refine In.there ?_))) (hBp.bs (hH.get (b := bp) (by repeat (first | exact In.here | refine In.there ?_))))) ?_
  rintro e w1 ⟨rx, rfl, hN, hE⟩
  obtain ⟨bx, cx, kx, hvx, hrx, hrkx, hBx⟩ := hN
  subst hvx
  have hwx := Nat.le_trans hH.mod.size hrx
  replace hH := hH.knowN hE hrx hrkx
  refine ⟨_, rfl, hH.kp0, ?_⟩
  clear hS; intro a hS
  refine r_move hS hH.kp0 rfl rfl ?_; clear hS; intro a hS
  refine r_extract hS hH.kp0 rfl rfl rfl ?_; clear hS; intro a hS
  refine r_extract hS hH.kp0 rfl rfl rfl ?_; clear hS; intro a hS
  refine r_assign hS hH.kp0 rfl rfl ?_; clear hS; intro a hS
  refine Sq.nil ?_
  refine blk_n ?_
  refine then_n ?_
  refine c_seq ?_
  refine reg_plain w0 (Nobody) ?_
  refine r_move hS hH.kp0 rfl rfl ?_; clear hS; intro a hS
  refine r_move hS hH.kp0 rfl rfl ?_; clear hS; intro a hS
  refine r_move hS hH.kp0 rfl rfl ?_; clear hS; intro a hS
  refine r_call (l := [.tmp 109, .tmp 110, .tmp 111]) hS rfl rfl Fp.fn27 rfl ?_
  refine Calls.mono (layH_c ⟨bx, 0, none⟩ cx (startB (191 + 16 * 1 + n) 1 dst src ++ wideB ln 1) low n (by simp only [List.length_append, startB_len]; omega) hlow (by omega) (by omega) _ (hBx.bs (hH.get (b := bx) (by repeat (first | exact In.here | refine In.there ?_))))) ?_
  rintro e w1 ⟨rz, rfl, hN, hE⟩
  obtain ⟨bz, cz, kz, hvz, hrz, hrkz, hBz⟩ := hN
  subst hvz
  have hwz := Nat.le_trans hH.mod.size hrz
  replace hH := hH.knowN hE hrz hrkz
  refine ⟨_, rfl, hH.kp0, ?_⟩
  clear hS; intro a hS
  refine r_move hS hH.kp0 rfl rfl ?_; clear hS; intro a hS
  refine r_lenSl hS hH.kp0 rfl Fp.isSlice22 rfl ?_; clear hS; intro a hS
  refine r_assign hS hH.kp0 rfl rfl ?_; clear hS; intro a hS
  refine r_assign hS hH.kp0 rfl rfl ?_; clear hS; intro a hS
  refine r_assign hS hH.kp0 rfl rfl ?_; clear hS; intro a hS
  refine Sq.nil ?_
  refine then_n ?_
  refine wp_ret ?_
  exact leave (.inl rfl) hS rfl (Res.tmp rfl (Res.tmp rfl (Res.tmp rfl Res.nil))) ⟨_, rfl, ⟨bz, cz, kz, rfl, hwz, hH.get (b := bz) (by repeat (first | exact In.here | refine In.there ?_)), hBz⟩, hH.mod⟩

set_option maxRecDepth 100000 in
set_option maxHeartbeats 2000000 in
theorem Put_2 (ve : Int) (q1 q2 q3 q4 : Option Addr) (c1 c2 c3 c4 : Nat) (dst src tok tag : List UInt8) (lst : List Int) (ln : Nat) (ph : Bool) (htag : tag.length = 16) (n : Nat) (low : Nat) (hlow : low < 18446744073709551616) (w0 : World) (WT : TypeId) (WF : Nat × Nat) (hw0 : w0.heap[0]? = some (.cells [.int .i64 6, .int .i64 14, .int .i64 30, .int .i64 62].toArray WT WF)) (hll : lst.length ≤ 1048576) (hlst : IsA w0 q4 c4 lst) (hd : Bs w0 (.slice q1 dst.length c1) dst) (hs : Bs w0 (.slice q2 src.length c2) src) (ht : Bs w0 (.slice q3 tok.length c3) tok) (hm : mayP 2 dst.length src.length tok.length (ln : Int) (n : Int) lst.length (badN lst)) : Calls Tryd.prog 12 #[.agg ([.int .i64 2, .int .i64 ve, .slice q1 dst.length c1, .slice q2 src.length c2, .slice q3 tok.length c3, .int .i64 (ln : Int), .bool ph, .slice q4 lst.length c4] ++ hcells tag : List Value).toArray, .int .u64 (low : Int), .int .i64 (n : Int)] w0 fun e w' => ∃ r, e = .returned (.tuple #[r, .int .i64 ((headB 2 n dst src tok ln ph lst tag).length : Int), .int .i64 0]) ∧ NB w0.heap.size 5 w' r (headB 2 n dst src tok ln ph lst tag ++ beB low n) ∧ Ext w0 w' := by
  refine enter Tryd.func12 rfl rfl rfl ?_
  intro a hS
  have hH := Hp.start w0 (Nobody)
  have hm2 := hm
  unfold mayP at hm2
  obtain ⟨t0, t1, t2, t3, t4, t5, t6, t7, t8, t9, ta, tb, tc, td, te, tf, rfl⟩ := len16 htag
  replace hH := hH.know hw0 (fun p hp => by simp at hp)
  have hwl := wideB_le tok.length
  have hw2 : (wideB ln 1).length = 2 := wideB_len _ _
  refine c_seq ?_
  refine reg_plain w0 (Nobody) ?_
  refine r_box hS hH (by repeat (first | exact Sub.nil | refine Sub.cons ?_ ?_ | exact In.here | refine In.there ?_)) rfl rfl rfl ?_
  clear hS hH; intro a w b3 hb3 hwb3 hS hH
  refine r_assign hS hH.kp0 rfl rfl ?_; clear hS; intro a hS
  refine r_assign hS hH.kp0 rfl rfl ?_; clear hS; intro a hS
  refine r_assign hS hH.kp0 rfl rfl ?_; clear hS; intro a hS
  refine Sq.nil ?_
  refine then_n ?_
  refine c_seq ?_
  refine c_seq ?_
  refine reg_plain w0 (Nobody) ?_
  refine r_load_row hS hH (by repeat (first | exact Sub.nil | refine Sub.cons ?_ ?_ | exact In.here | refine In.there ?_)) rfl (by repeat (first | exact In.here | refine In.there ?_)) Fp.ag26 (by rfl) rfl ?_; clear hS; intro a hS
  refine r_move hS hH.kp0 rfl rfl ?_; clear hS; intro a hS
  refine r_call (l := [.tmp 12, .tmp 13]) hS rfl rfl Fp.fn25 rfl ?_
  refine Calls.mono (right_c 2 ve q1 q2 q3 q4 c1 c2 c3 c4 dst src tok _ lst (ln : Int) ph htag (n : Int) _ (by omega) (hlst.ext hH.mod)) ?_
  rintro e w1 ⟨rfl, hE⟩
  replace hH := hH.ext hE
  refine ⟨_, rfl, hH.kp0, ?_⟩
  clear hS; intro a hS
  refine r_not hS hH.kp0 rfl rfl ?_; clear hS; intro a hS
  refine Sq.nil ?_
  refine then_n ?_
  refine c_condF hS rfl (by rw [DT hm]; rfl) ?_
  refine wp_skip ?_
  refine then_n ?_
  refine c_seq ?_
  refine c_seq ?_
  refine reg_plain w0 (Nobody) ?_
  refine r_fieldAddr hS hH.kp0 rfl Fp.fo26_0 rfl ?_; clear hS; intro a hS
  refine r_load_sc hS hH (by repeat (first | exact Sub.nil | refine Sub.cons ?_ ?_ | exact In.here | refine In.there ?_)) rfl (by repeat (first | exact In.here | refine In.there ?_)) Fp.sc3 (by rfl) rfl ?_; clear hS; intro a hS
  refine Sq.nil ?_
  refine then_n ?_
  refine wp_block ?_
  refine c_seq ?_
  refine reg_plain w0 (Nobody) ?_
  refine r_eql hS hH.kp0 rfl rfl rfl ?_; clear hS; intro a hS
  refine r_assign hS hH.kp0 rfl rfl ?_; clear hS; intro a hS
  refine Sq.nil ?_
  refine then_n ?_
  refine c_condF hS rfl rfl ?_
  refine c_seq ?_
  refine reg_plain w0 (Nobody) ?_
  refine r_eql hS hH.kp0 rfl rfl rfl ?_; clear hS; intro a hS
  refine r_assign hS hH.kp0 rfl rfl ?_; clear hS; intro a hS
  refine Sq.nil ?_
  refine then_n ?_
  refine c_condF hS rfl rfl ?_
  refine c_seq ?_
  refine reg_plain w0 (Nobody) ?_
  refine r_eql hS hH.kp0 rfl rfl rfl ?_; clear hS; intro a hS
  refine r_assign hS hH.kp0 rfl rfl ?_; clear hS; intro a hS
  refine Sq.nil ?_
  refine then_n ?_
  refine c_condF hS rfl rfl ?_
  refine c_seq ?_
  refine reg_plain w0 (Nobody) ?_
  refine r_eql hS hH.kp0 rfl rfl rfl ?_; clear hS; intro a hS
  refine r_assign hS hH.kp0 rfl rfl ?_; clear hS; intro a hS
  refine Sq.nil ?_
  refine then_n ?_
  refine c_condF hS rfl rfl ?_
  refine c_seq ?_
  refine reg_plain w0 (Nobody) ?_
  refine r_load_row hS hH (by repeat (first | exact Sub.nil | refine Sub.cons ?_ ?_ | exact In.here | refine In.there ?_)) rfl (by repeat (first | exact In.here | refine In.there ?_)) Fp.ag26 (by rfl) rfl ?_; clear hS; intro a hS
  refine r_fieldAddr hS hH.kp0 rfl Fp.fo26_0 rfl ?_; clear hS; intro a hS
  refine r_load_sc hS hH (by repeat (first | exact Sub.nil | refine Sub.cons ?_ ?_ | exact In.here | refine In.there ?_)) rfl (by repeat (first | exact In.here | refine In.there ?_)) Fp.sc3 (by rfl) rfl ?_; clear hS; intro a hS
  refine r_shl hS hH.kp0 rfl rfl rfl (by decide) ?_; clear hS; intro a hS
  refine r_orI (192) (16 * 2) (192 + 16 * 2) hS hH.kp0 rfl rfl rfl rfl (by decide) (by omega) (by omega) (by decide) ?_; clear hS; intro a hS
  refine r_move hS hH.kp0 rfl rfl ?_; clear hS; intro a hS
  refine r_orI (192 + 16 * 2) (n) (192 + 16 * 2 + n) hS hH.kp0 rfl rfl rfl rfl rfl (by omega) (by omega) (or_small (by decide) (by omega)) ?_; clear hS; intro a hS
  first | refine r_sub hS hH.kp0 rfl rfl rfl (by omega) ?_ | refine r_subw hS hH.kp0 rfl rfl rfl ?_
  clear hS; intro a hS
  refine r_toU8' (191 + 16 * 2 + n) (UInt8.ofNat (191 + 16 * 2 + n)) hS hH.kp0 rfl Fp.ui5 Fp.us3 rfl (by omega) rfl ?_; clear hS; intro a hS
  refine r_call (l := [.tmp 18, .tmp 26, .const (.int .u64 1)]) hS rfl rfl Fp.fn26 rfl ?_
  refine Calls.mono (start_c (191 + 16 * 2 + n) 1 2 ve q1 q2 q3 q4 c1 c2 c3 c4 dst src tok _ lst (ln : Int) ph htag _ (by decide) (by omega) (by omega) (hd.ext hH.mod) (hs.ext hH.mod)) ?_
  rintro e w1 ⟨rp, rfl, hN, hE⟩
  obtain ⟨bp, cp, kp, hvp, hrp, hrkp, hBp⟩ := hN
  subst hvp
  have hwp := Nat.le_trans hH.mod.size hrp
  replace hH := hH.knowN hE hrp hrkp
  refine ⟨_, rfl, hH.kp0, ?_⟩
  clear hS; intro a hS
  refine r_assign hS hH.kp0 rfl rfl ?_; clear hS; intro a hS
  refine Sq.nil ?_
  refine then_n ?_
  refine reg_plain w0 (Nobody) ?_
  refine r_move hS hH.kp0 rfl rfl ?_; clear hS; intro a hS
  refine r_fieldAddr hS hH.kp0 rfl Fp.fo26_5 rfl ?_; clear hS; intro a hS
  refine r_load_sc hS hH (by repeat (first | exact Sub.nil | refine Sub.cons ?_ ?_ | exact In.here | refine In.there ?_)) rfl (by repeat (first | exact In.here | refine In.there ?_)) Fp.sc3 (by rfl) rfl ?_; clear hS; intro a hS
  refine r_call (l := [.tmp 29, .tmp 31, .const (.int .i64 2)]) hS rfl rfl Fp.fn30 rfl ?_
  refine Calls.mono (PutWide_c ⟨bp, 0, none⟩ cp (startB (191 + 16 * 2 + n) 1 dst src) ln (by simp only [startB_len]; omega) (by omega) _ WT WF (hH.get (b := 0) (by repeat (first | exact In.here | refine In.there ?_))) (hBp.bs (hH.get (b := bp) (by repeat (first | exact In.here | refine In.there ?_))))) ?_
  rintro e w1 ⟨rx, rfl, hN, hE⟩
  obtain ⟨bx, cx, kx, hvx, hrx, hrkx, hBx⟩ := hN
  subst hvx
  have hwx := Nat.le_trans hH.mod.size hrx
  replace hH := hH.knowN hE hrx hrkx
  refine ⟨_, rfl, hH.kp0, ?_⟩
  clear hS; intro a hS
  refine r_move hS hH.kp0 rfl rfl ?_; clear hS; intro a hS
  refine r_extract hS hH.kp0 rfl rfl rfl ?_; clear hS; intro a hS
  refine r_extract hS hH.kp0 rfl rfl rfl ?_; clear hS; intro a hS
  refine r_assign hS hH.kp0 rfl rfl ?_; clear hS; intro a hS
  refine Sq.nil ?_
  refine blk_n ?_
  refine then_n ?_
  refine c_seq ?_
  refine reg_plain w0 (Nobody) ?_
  refine r_move hS hH.kp0 rfl rfl ?_; clear hS; intro a hS
  refine r_move hS hH.kp0 rfl rfl ?_; clear hS; intro a hS
  refine r_move hS hH.kp0 rfl rfl ?_; clear hS; intro a hS
  refine r_call (l := [.tmp 109, .tmp 110, .tmp 111]) hS rfl rfl Fp.fn27 rfl ?_
  refine Calls.mono (layH_c ⟨bx, 0, none⟩ cx (startB (191 + 16 * 2 + n) 1 dst src ++ wideB ln 1) low n (by simp only [List.length_append, startB_len]; omega) hlow (by omega) (by omega) _ (hBx.bs (hH.get (b := bx) (by repeat (first | exact In.here | refine In.there ?_))))) ?_
  rintro e w1 ⟨rz, rfl, hN, hE⟩
  obtain ⟨bz, cz, kz, hvz, hrz, hrkz, hBz⟩ := hN
  subst hvz
  have hwz := Nat.le_trans hH.mod.size hrz
  replace hH := hH.knowN hE hrz hrkz
  refine ⟨_, rfl, hH.kp0, ?_⟩
  clear hS; intro a hS
  refine r_move hS hH.kp0 rfl rfl ?_; clear hS; intro a hS
  refine r_lenSl hS hH.kp0 rfl Fp.isSlice22 rfl ?_; clear hS; intro a hS
  refine r_assign hS hH.kp0 rfl rfl ?_; clear hS; intro a hS
  refine r_assign hS hH.kp0 rfl rfl ?_; clear hS; intro a hS
  refine r_assign hS hH.kp0 rfl rfl ?_; clear hS; intro a hS
  refine Sq.nil ?_
  refine then_n ?_
  refine wp_ret ?_
  exact leave (.inl rfl) hS rfl (Res.tmp rfl (Res.tmp rfl (Res.tmp rfl Res.nil))) ⟨_, rfl, ⟨bz, cz, kz, rfl, hwz, hH.get (b := bz) (by repeat (first | exact In.here | refine In.there ?_)), hBz⟩, hH.mod⟩

set_option maxRecDepth 100000 in
set_option maxHeartbeats 2000000 in
theorem Put_3 (ve : Int) (q1 q2 q3 q4 : Option Addr) (c1 c2 c3 c4 : Nat) (dst src tok tag : List UInt8) (lst : List Int) (ln : Int) (ph : Bool) (htag : tag.length = 16) (n : Int) (low : Nat) (hlow : low < 18446744073709551616) (w0 : World) (WT : TypeId) (WF : Nat × Nat) (hw0 : w0.heap[0]? = some (.cells [.int .i64 6, .int .i64 14, .int .i64 30, .int .i64 62].toArray WT WF)) (hll : lst.length ≤ 1048576) (hlst : IsA w0 q4 c4 lst) (hd : Bs w0 (.slice q1 dst.length c1) dst) (hs : Bs w0 (.slice q2 src.length c2) src) (ht : Bs w0 (.slice q3 tok.length c3) tok) (hm : mayP 3 dst.length src.length tok.length (ln : Int) (n : Int) lst.length (badN lst)) : Calls Tryd.prog 12 #[.agg ([.int .i64 3, .int .i64 ve, .slice q1 dst.length c1, .slice q2 src.length c2, .slice q3 tok.length c3, .int .i64 (ln : Int), .bool ph, .slice q4 lst.length c4] ++ hcells tag : List Value).toArray, .int .u64 (low : Int), .int .i64 (n : Int)] w0 fun e w' => ∃ r, e = .returned (.tuple #[r, .int .i64 ((headB 3 n.toNat dst src tok ln.toNat ph lst tag).length : Int), .int .i64 0]) ∧ NB w0.heap.size 5 w' r (headB 3 n.toNat dst src tok ln.toNat ph lst tag ++ []) ∧ Ext w0 w' := by
  refine enter Tryd.func12 rfl rfl rfl ?_
  intro a hS
  have hH := Hp.start w0 (Nobody)
  have hm2 := hm
  unfold mayP at hm2
  obtain ⟨t0, t1, t2, t3, t4, t5, t6, t7, t8, t9, ta, tb, tc, td, te, tf, rfl⟩ := len16 htag
  replace hH := hH.know hw0 (fun p hp => by simp at hp)
  have hwl := wideB_le tok.length
  refine c_seq ?_
  refine reg_plain w0 (Nobody) ?_
  refine r_box hS hH (by repeat (first | exact Sub.nil | refine Sub.cons ?_ ?_ | exact In.here | refine In.there ?_)) rfl rfl rfl ?_
  clear hS hH; intro a w b3 hb3 hwb3 hS hH
  refine r_assign hS hH.kp0 rfl rfl ?_; clear hS; intro a hS
  refine r_assign hS hH.kp0 rfl rfl ?_; clear hS; intro a hS
  refine r_assign hS hH.kp0 rfl rfl ?_; clear hS; intro a hS
  refine Sq.nil ?_
  refine then_n ?_
  refine c_seq ?_
  refine c_seq ?_
  refine reg_plain w0 (Nobody) ?_
  refine r_load_row hS hH (by repeat (first | exact Sub.nil | refine Sub.cons ?_ ?_ | exact In.here | refine In.there ?_)) rfl (by repeat (first | exact In.here | refine In.there ?_)) Fp.ag26 (by rfl) rfl ?_; clear hS; intro a hS
  refine r_move hS hH.kp0 rfl rfl ?_; clear hS; intro a hS
  refine r_call (l := [.tmp 12, .tmp 13]) hS rfl rfl Fp.fn25 rfl ?_
  refine Calls.mono (right_c 3 ve q1 q2 q3 q4 c1 c2 c3 c4 dst src tok _ lst (ln : Int) ph htag (n : Int) _ (by omega) (hlst.ext hH.mod)) ?_
  rintro e w1 ⟨rfl, hE⟩
  replace hH := hH.ext hE
  refine ⟨_, rfl, hH.kp0, ?_⟩
  clear hS; intro a hS
  refine r_not hS hH.kp0 rfl rfl ?_; clear hS; intro a hS
  refine Sq.nil ?_
  refine then_n ?_
  refine c_condF hS rfl (by rw [DT hm]; rfl) ?_
  refine wp_skip ?_
  refine then_n ?_
  refine c_seq ?_
  refine c_seq ?_
  refine reg_plain w0 (Nobody) ?_
  refine r_fieldAddr hS hH.kp0 rfl Fp.fo26_0 rfl ?_; clear hS; intro a hS
  refine r_load_sc hS hH (by repeat (first | exact Sub.nil | refine Sub.cons ?_ ?_ | exact In.here | refine In.there ?_)) rfl (by repeat (first | exact In.here | refine In.there ?_)) Fp.sc3 (by rfl) rfl ?_; clear hS; intro a hS
  refine Sq.nil ?_
  refine then_n ?_
  refine wp_block ?_
  refine c_seq ?_
  refine reg_plain w0 (Nobody) ?_
  refine r_eql hS hH.kp0 rfl rfl rfl ?_; clear hS; intro a hS
  refine r_assign hS hH.kp0 rfl rfl ?_; clear hS; intro a hS
  refine Sq.nil ?_
  refine then_n ?_
  refine c_condF hS rfl rfl ?_
  refine c_seq ?_
  refine reg_plain w0 (Nobody) ?_
  refine r_eql hS hH.kp0 rfl rfl rfl ?_; clear hS; intro a hS
  refine r_assign hS hH.kp0 rfl rfl ?_; clear hS; intro a hS
  refine Sq.nil ?_
  refine then_n ?_
  refine c_condT hS rfl rfl ?_
  refine c_seq ?_
  refine reg_draw [(true, 0, []), (true, 2, []), (true, 3, []), (true, 4, []), (true, 5, []), (false, 1, []), (false, 6, []), (false, 7, []), (true, 8, [])] Fc.mixed (by kernel_rfl) (by kernel_rfl) (by kernel_rfl) (by kernel_rfl) (by kernel_rfl) (by repeat (first | with_reducible exact steady_body | with_reducible apply steady_block | with_reducible apply steady_then | with_reducible apply steady_scope | exact steady_body)) hH ?_
  replace hH := hH.drew
  refine r_load_rowS hS rfl (by repeat (first | exact In.here | refine In.there ?_)) Fp.ag26 (by rfl) rfl ?_; clear hS; intro a hS
  refine r_fieldAddr hS trivial rfl Fp.fo26_4 rfl ?_; clear hS; intro a hS
  refine r_load_scS hS rfl (by repeat (first | exact In.here | refine In.there ?_)) Fp.sc22 (by rfl) rfl ?_; clear hS; intro a hS
  refine r_fieldAddr hS trivial rfl Fp.fo26_8 rfl ?_; clear hS; intro a hS
  refine r_slArr hS trivial rfl Fp.ar24 rfl ?_; clear hS; intro a hS
  refine r_call (l := [.tmp 56, .const (.int .u8 240), .const (.int .u64 1)]) hS rfl rfl Fp.fn26 rfl ?_
  refine Calls.mono (start_c (240) 1 3 ve q1 q2 q3 q4 c1 c2 c3 c4 dst src tok _ lst (ln : Int) ph htag _ (by decide) (by omega) (by omega) (hd.ext hH.mod) (hs.ext hH.mod)) ?_
  rintro e w1 ⟨rp, rfl, hN, hE⟩
  obtain ⟨bp, cp, kp, hvp, hrp, hrkp, hBp⟩ := hN
  subst hvp
  have hwp := Nat.le_trans hH.mod.size hrp
  replace hH := hH.knowN hE hrp hrkp
  refine ⟨_, rfl, hH.kp (by repeat (first | exact Sub.nil | refine Sub.cons ?_ ?_ | exact In.here | refine In.there ?_)), ?_⟩
  clear hS; intro a hS
  refine r_buildSlice (parts := [(0, .tmp 57), (1, .tmp 59), (2, .tmp 61)]) hS hH (by repeat (first | exact Sub.nil | refine Sub.cons ?_ ?_ | exact In.here | refine In.there ?_)) rfl Fp.bsl32_3 (by rfl) rfl ?_
  clear hS hH; intro a w b62 hb62 hwb62 hS hH
  have hfl : ([startB 240 1 dst src, tok, [t0, t1, t2, t3, t4, t5, t6, t7, t8, t9, ta, tb, tc, td, te, tf]] : List (List UInt8)).flatten = startB 240 1 dst src ++ tok ++ [t0, t1, t2, t3, t4, t5, t6, t7, t8, t9, ta, tb, tc, td, te, tf] := by simp
  refine r_call (l := [.tmp 62]) hS rfl rfl Fp.fn28 rfl ?_
  refine Calls.mono (Concat_b _ [startB 240 1 dst src, tok, [t0, t1, t2, t3, t4, t5, t6, t7, t8, t9, ta, tb, tc, td, te, tf]] _ (SlB.three (hH.get (b := b62) (by repeat (first | exact In.here | refine In.there ?_))) (hBp.bs (hH.get (b := bp) (by repeat (first | exact In.here | refine In.there ?_)))) (ht.ext hH.mod) (Bs.row (o := 8) (hH.get (b := b3) (by repeat (first | exact In.here | refine In.there ?_))) rfl (Nat.le_refl _))) (by rw [hfl]; simp only [List.length_append, List.length_cons, List.length_nil, startB_len]; omega) (by simp)) ?_
  rintro e w1 ⟨rz, rfl, hO, hE⟩
  rw [hfl] at hO
  obtain ⟨bz, cz, kz, hvz, hrz, hrkz, hBz⟩ := Own.nb hO rfl (by simp only [List.length_append, List.length_cons, List.length_nil, startB_len]; omega)
  subst hvz
  have hwz := Nat.le_trans hH.mod.size hrz
  replace hH := hH.knowN hE hrz hrkz
  refine ⟨_, rfl, hH.kp (by repeat (first | exact Sub.nil | refine Sub.cons ?_ ?_ | exact In.here | refine In.there ?_)), ?_⟩
  clear hS; intro a hS
  refine r_assign hS trivial rfl rfl ?_; clear hS; intro a hS
  refine Sq.nil ?_
  refine then_n ?_
  refine c_seq ?_
  refine reg_plain w0 (Nobody) ?_
  refine r_move hS hH.kp0 rfl rfl ?_; clear hS; intro a hS
  refine r_move hS hH.kp0 rfl rfl ?_; clear hS; intro a hS
  refine r_lenSl hS hH.kp0 rfl Fp.isSlice22 rfl ?_; clear hS; intro a hS
  refine r_assign hS hH.kp0 rfl rfl ?_; clear hS; intro a hS
  refine r_assign hS hH.kp0 rfl rfl ?_; clear hS; intro a hS
  refine r_assign hS hH.kp0 rfl rfl ?_; clear hS; intro a hS
  refine Sq.nil ?_
  refine then_n ?_
  refine wp_ret ?_
  refine blk_r ?_
  refine then_r ?_
  exact leave (.inl rfl) hS rfl (Res.tmp rfl (Res.tmp rfl (Res.tmp rfl Res.nil))) ⟨_, rfl, ⟨bz, cz, kz, by rw [List.append_nil]; rfl, hwz, hH.get (b := bz) (by repeat (first | exact In.here | refine In.there ?_)), by rw [List.append_nil]; exact hBz⟩, hH.mod⟩

set_option maxRecDepth 100000 in
set_option maxHeartbeats 2000000 in
theorem Put_4 (ve : Int) (q1 q2 q3 q4 : Option Addr) (c1 c2 c3 c4 : Nat) (dst src tok tag : List UInt8) (lst : List Int) (ln : Int) (ph : Bool) (htag : tag.length = 16) (n : Int) (low : Nat) (hlow : low < 18446744073709551616) (w0 : World) (WT : TypeId) (WF : Nat × Nat) (hw0 : w0.heap[0]? = some (.cells [.int .i64 6, .int .i64 14, .int .i64 30, .int .i64 62].toArray WT WF)) (hll : lst.length ≤ 1048576) (hlst : IsA w0 q4 c4 lst) (hd : Bs w0 (.slice q1 dst.length c1) dst) (hs : Bs w0 (.slice q2 src.length c2) src) (ht : Bs w0 (.slice q3 tok.length c3) tok) (hm : mayP 4 dst.length src.length tok.length (ln : Int) (n : Int) lst.length (badN lst)) : Calls Tryd.prog 12 #[.agg ([.int .i64 4, .int .i64 ve, .slice q1 dst.length c1, .slice q2 src.length c2, .slice q3 tok.length c3, .int .i64 (ln : Int), .bool ph, .slice q4 lst.length c4] ++ hcells tag : List Value).toArray, .int .u64 (low : Int), .int .i64 (n : Int)] w0 fun e w' => ∃ r, e = .returned (.tuple #[r, .int .i64 ((headB 4 n.toNat dst src tok ln.toNat ph lst tag).length : Int), .int .i64 0]) ∧ NB w0.heap.size 5 w' r (headB 4 n.toNat dst src tok ln.toNat ph lst tag ++ []) ∧ Ext w0 w' := by
  refine enter Tryd.func12 rfl rfl rfl ?_
  intro a hS
  have hH := Hp.start w0 (Nobody)
  have hm2 := hm
  unfold mayP at hm2
  obtain ⟨t0, t1, t2, t3, t4, t5, t6, t7, t8, t9, ta, tb, tc, td, te, tf, rfl⟩ := len16 htag
  replace hH := hH.know hw0 (fun p hp => by simp at hp)
  have hwl := wideB_le tok.length
  refine c_seq ?_
  refine reg_plain w0 (Nobody) ?_
  refine r_box hS hH (by repeat (first | exact Sub.nil | refine Sub.cons ?_ ?_ | exact In.here | refine In.there ?_)) rfl rfl rfl ?_
  clear hS hH; intro a w b3 hb3 hwb3 hS hH
  refine r_assign hS hH.kp0 rfl rfl ?_; clear hS; intro a hS
  refine r_assign hS hH.kp0 rfl rfl ?_; clear hS; intro a hS
  refine r_assign hS hH.kp0 rfl rfl ?_; clear hS; intro a hS
  refine Sq.nil ?_
  refine then_n ?_
  refine c_seq ?_
  refine c_seq ?_
  refine reg_plain w0 (Nobody) ?_
  refine r_load_row hS hH (by repeat (first | exact Sub.nil | refine Sub.cons ?_ ?_ | exact In.here | refine In.there ?_)) rfl (by repeat (first | exact In.here | refine In.there ?_)) Fp.ag26 (by rfl) rfl ?_; clear hS; intro a hS
  refine r_move hS hH.kp0 rfl rfl ?_; clear hS; intro a hS
  refine r_call (l := [.tmp 12, .tmp 13]) hS rfl rfl Fp.fn25 rfl ?_
  refine Calls.mono (right_c 4 ve q1 q2 q3 q4 c1 c2 c3 c4 dst src tok _ lst (ln : Int) ph htag (n : Int) _ (by omega) (hlst.ext hH.mod)) ?_
  rintro e w1 ⟨rfl, hE⟩
  replace hH := hH.ext hE
  refine ⟨_, rfl, hH.kp0, ?_⟩
  clear hS; intro a hS
  refine r_not hS hH.kp0 rfl rfl ?_; clear hS; intro a hS
  refine Sq.nil ?_
  refine then_n ?_
  refine c_condF hS rfl (by rw [DT hm]; rfl) ?_
  refine wp_skip ?_
  refine then_n ?_
  refine c_seq ?_
  refine c_seq ?_
  refine reg_plain w0 (Nobody) ?_
  refine r_fieldAddr hS hH.kp0 rfl Fp.fo26_0 rfl ?_; clear hS; intro a hS
  refine r_load_sc hS hH (by repeat (first | exact Sub.nil | refine Sub.cons ?_ ?_ | exact In.here | refine In.there ?_)) rfl (by repeat (first | exact In.here | refine In.there ?_)) Fp.sc3 (by rfl) rfl ?_; clear hS; intro a hS
  refine Sq.nil ?_
  refine then_n ?_
  refine wp_block ?_
  refine c_seq ?_
  refine reg_plain w0 (Nobody) ?_
  refine r_eql hS hH.kp0 rfl rfl rfl ?_; clear hS; intro a hS
  refine r_assign hS hH.kp0 rfl rfl ?_; clear hS; intro a hS
  refine Sq.nil ?_
  refine then_n ?_
  refine c_condT hS rfl rfl ?_
  refine c_seq ?_
  refine reg_plain w0 (Nobody) ?_
  refine r_load_row hS hH (by repeat (first | exact Sub.nil | refine Sub.cons ?_ ?_ | exact In.here | refine In.there ?_)) rfl (by repeat (first | exact In.here | refine In.there ?_)) Fp.ag26 (by rfl) rfl ?_; clear hS; intro a hS
  refine r_call (l := [.tmp 37, .const (.int .u8 192), .const (.int .u64 0)]) hS rfl rfl Fp.fn26 rfl ?_
  refine Calls.mono (start_c (192) 0 4 ve q1 q2 q3 q4 c1 c2 c3 c4 dst src tok _ lst (ln : Int) ph htag _ (by decide) (by omega) (by omega) (hd.ext hH.mod) (hs.ext hH.mod)) ?_
  rintro e w1 ⟨rp, rfl, hN, hE⟩
  obtain ⟨bp, cp, kp, hvp, hrp, hrkp, hBp⟩ := hN
  subst hvp
  have hwp := Nat.le_trans hH.mod.size hrp
  replace hH := hH.knowN hE hrp hrkp
  refine ⟨_, rfl, hH.kp0, ?_⟩
  clear hS; intro a hS
  refine r_assign hS hH.kp0 rfl rfl ?_; clear hS; intro a hS
  refine Sq.nil ?_
  refine then_n ?_
  refine c_seq ?_
  refine c_seq ?_
  refine reg_plain w0 (Nobody) ?_
  refine r_fieldAddr hS hH.kp0 rfl Fp.fo26_7 rfl ?_; clear hS; intro a hS
  refine r_load_sc hS hH (by repeat (first | exact Sub.nil | refine Sub.cons ?_ ?_ | exact In.here | refine In.there ?_)) rfl (by repeat (first | exact In.here | refine In.there ?_)) Fp.sc23 (by rfl) rfl ?_; clear hS; intro a hS
  refine r_lenSl hS hH.kp0 rfl Fp.isSlice23 rfl ?_; clear hS; intro a hS
  refine r_move hS hH.kp0 rfl rfl ?_; clear hS; intro a hS
  refine Sq.nil ?_
  refine then_n ?_
  refine wp_block ?_
  refine c_loop (fun m a w => ∃ (k : Nat) (i : Int) (b cc : Nat) (kk : List Value), m + k = lst.length ∧ i = k ∧ w0.heap.size ≤ b ∧ BB cc kk (startB 192 0 dst src ++ listB (lst.take k)) ∧ St 115 (lv [(6, .slice (some ⟨b, 0, none⟩) (startB 192 0 dst src ++ listB (lst.take k)).length cc), (40, .slice q4 lst.length c4), (41, .int .i64 (lst.length : Int)), (42, .int .i64 i)]) a ∧ Hp w0 Nobody [(b, .cells kk.toArray 5 (0, 0))] w) (lst.length) ?_ ?_
  · rw [show (startB 192 0 dst src) = startB 192 0 dst src ++ listB (lst.take 0) from by simp [listB]] at hBp hS
    exact ⟨0, _, bp, cp, kp, by omega, rfl, hwp, hBp, hS.live ⟨rfl, rfl, rfl, rfl, trivial⟩, hH.sub (by repeat (first | exact Sub.nil | refine Sub.cons ?_ ?_ | exact In.here | refine In.there ?_)) (by simp)⟩
  clear hS hH; intro m a w hI; obtain ⟨k, i, b, cc, kk, hmk, hi, hwb, hB, hS, hH⟩ := hI
  refine c_seq ?_
  refine reg_plain w0 (Nobody) ?_
  refine r_lss hS hH.kp0 rfl rfl rfl ?_; clear hS; intro a hS
  refine Sq.nil ?_
  refine then_n ?_
  refine c_seq ?_
  refine c_cond hS rfl (fun hc2 => ?_) (fun hc2 => ?_)
  · have hk : k < lst.length := by have := of_decide_eq_true hc2; omega
    obtain ⟨ba, bo, hp, hcell⟩ := (hlst.ext hH.mod).cell hk
    subst hp
    have hbz := badN_zero hk (by omega)
    refine wp_skip ?_
    refine then_n ?_
    refine c_seq ?_
    refine wp_block ?_
    refine c_seq ?_
    refine reg_plain w0 (Nobody) ?_
    refine r_indexAddrS (j := k) hS hH.kp0 rfl rfl Fp.slb23 hi hk rfl ?_; clear hS; intro a hS
    refine r_load_cell hS hH.kp0 rfl hcell Fp.sc3 rfl ?_; clear hS; intro a hS
    refine r_assign hS hH.kp0 rfl rfl ?_; clear hS; intro a hS
    refine Sq.nil ?_
    refine then_n ?_
    refine reg_plain w0 (Nobody) ?_
    refine r_move hS hH.kp0 rfl rfl ?_; clear hS; intro a hS
    refine r_move hS hH.kp0 rfl rfl ?_; clear hS; intro a hS
    refine r_toU64 (lst[k].toNat) hS hH.kp0 rfl Fp.ui36 Fp.us3 rfl (by omega) (by omega) ?_; clear hS; intro a hS
    refine r_call (l := [.tmp 46, .tmp 48, .const (.int .i64 4)]) hS rfl rfl Fp.fn27 rfl ?_
    refine Calls.mono (layH_c ⟨b, 0, none⟩ cc (startB 192 0 dst src ++ listB (lst.take k)) lst[k].toNat 4 (by simp only [List.length_append, startB_len, listB_len, List.length_take]; omega) (by omega) (by decide) (by decide) _ (hB.bs (hH.get (b := b) (by repeat (first | exact In.here | refine In.there ?_))))) ?_
    rintro e w1 ⟨rz, rfl, hN, hE⟩
    obtain ⟨bz, cz, kz, hvz, hrz, hrkz, hBz⟩ := hN
    subst hvz
    have hwz := Nat.le_trans hH.mod.size hrz
    replace hH := hH.knowN hE hrz hrkz
    refine ⟨_, rfl, hH.kp0, ?_⟩
    clear hS; intro a hS
    refine r_assign hS hH.kp0 rfl rfl ?_; clear hS; intro a hS
    refine Sq.nil ?_
    refine blk_n ?_
    refine then_n ?_
    refine reg_plain w0 (Nobody) ?_
    first | refine r_add hS hH.kp0 rfl rfl rfl (by omega) ?_ | refine r_addw hS hH.kp0 rfl rfl rfl ?_
    clear hS; intro a hS
    refine r_move hS hH.kp0 rfl rfl ?_; clear hS; intro a hS
    refine Sq.nil ?_
    refine then_n ?_
    rw [List.append_assoc, ← listB_succ hk] at hBz hS
    refine ⟨m - 1, by omega, k + 1, _, bz, cz, kz, by omega, ?_, hwz, hBz, hS.live ⟨rfl, rfl, rfl, rfl, trivial⟩, hH.sub (by repeat (first | exact Sub.nil | refine Sub.cons ?_ ?_ | exact In.here | refine In.there ?_)) (by simp)⟩
    omega
  · have hke : k = lst.length := by have := of_decide_eq_false hc2; omega
    subst hke
    refine wp_exit ?_
    refine then_e ?_
    refine then_e ?_
    refine blk_hit ?_
    refine then_n ?_
    refine c_seq ?_
    refine reg_plain w0 (Nobody) ?_
    refine r_move hS hH.kp0 rfl rfl ?_; clear hS; intro a hS
    refine r_move hS hH.kp0 rfl rfl ?_; clear hS; intro a hS
    refine r_lenSl hS hH.kp0 rfl Fp.isSlice22 rfl ?_; clear hS; intro a hS
    refine r_assign hS hH.kp0 rfl rfl ?_; clear hS; intro a hS
    refine r_assign hS hH.kp0 rfl rfl ?_; clear hS; intro a hS
    refine r_assign hS hH.kp0 rfl rfl ?_; clear hS; intro a hS
    refine Sq.nil ?_
    refine then_n ?_
    refine wp_ret ?_
    refine blk_r ?_
    refine then_r ?_
    rw [List.take_of_length_le (Nat.le_refl _)] at hB hS
    exact leave (.inl rfl) hS rfl (Res.tmp rfl (Res.tmp rfl (Res.tmp rfl Res.nil))) ⟨_, rfl, ⟨b, cc, kk, by rw [List.append_nil]; rfl, hwb, hH.get (b := b) (by repeat (first | exact In.here | refine In.there ?_)), by rw [List.append_nil]; exact hB⟩, hH.mod⟩

end Go.Proofs.YtcenionnedgadaaDoor
