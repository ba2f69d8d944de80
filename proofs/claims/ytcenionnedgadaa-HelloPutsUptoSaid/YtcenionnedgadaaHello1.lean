/- For every input of bulk at most 1048576 the law HelloPuts returns true and the input reads as it did. Part Hello1: walks and lemmas of the proof. -/
import Derived.Test.YtcenionnedgadaaChecked
import Derived.Test.YtcenionnedgadaaSymWrite
import Derived.Test.YtcenionnedgadaaSymMsg
namespace Go.Proofs.Ytcenionnedgadaa
open Go.Sym
theorem Fc.laid : laidOutB Try.prog = true := by kernel_rfl
theorem Fc.mixed : Try.prog.follows .mixedOrders = true := by kernel_rfl

theorem Fc.bsl25_1 : bslB Try.prog 25 1 = some (5, 1, [.int .u8 0]) := by kernel_rfl
theorem Fc.el25 : elB Try.prog 25 = some (5, 1, 1) := by kernel_rfl
theorem Fc.fn21 : isFn Try.prog 21 = true := by kernel_rfl
theorem Fc.fn28 : isFn Try.prog 28 = true := by kernel_rfl
theorem Fc.fn30 : isFn Try.prog 30 = true := by kernel_rfl
theorem Fc.fo42_0 : foff Try.prog 42 0 = some 0 := by kernel_rfl
theorem Fc.inf5 : (Try.prog.info? 5).isSome = true := by kernel_rfl
theorem Fc.isSlice25 : isSlice Try.prog 25 = true := by kernel_rfl
theorem Fc.isStr9 : isStr Try.prog 9 = true := by kernel_rfl
theorem Fc.ni25 : notInt Try.prog 25 = true := by kernel_rfl
theorem Fc.sc25 : scB Try.prog 25 = true := by kernel_rfl
theorem Fc.slb25 : slB Try.prog 25 = some 1 := by kernel_rfl
theorem Fc.sz25 : sizeB Try.prog 25 1 = true := by kernel_rfl
theorem Fc.u8s25 : u8s Try.prog 25 = true := by kernel_rfl
theorem Fc.ui5 : Try.prog.underlying 5 = some (.int .u8) := by kernel_rfl
theorem Fc.ui53 : Try.prog.underlying 53 = some (.int .u64) := by kernel_rfl
theorem Fc.uls25 : Try.prog.underlying 25 = some (.slice 5) := by kernel_rfl
theorem Fc.us3 : (Try.prog.underlying 3).isSome = true := by kernel_rfl
theorem Fc.us53 : (Try.prog.underlying 53).isSome = true := by kernel_rfl
set_option maxRecDepth 100000 in
set_option maxHeartbeats 400000 in
theorem clone_c (q : Addr) (qc : Nat) (l : List UInt8) (hl : l.length ≤ 1099511627776) (w0 : World) (hb : Bs w0 (.slice (some q) l.length qc) l) : Calls Try.prog 30 #[.slice (some q) l.length qc] w0 fun e w' => ∃ (cb cap : Nat) (l2 : List Value), e = .returned (.slice (some ⟨cb, 0, none⟩) l.length cap) ∧ w0.heap.size ≤ cb ∧ w'.heap[cb]? = some (.cells l2.toArray 5 (0, 0)) ∧ l.length ≤ cap ∧ l2.length = cap ∧ l2.take l.length = l.map byteV ∧ Ext w0 w' := by
  refine enter Try.func30 rfl rfl rfl ?_
  intro a hS
  have hH := Hp.start w0 (Nobody)
  refine c_seq ?_
  refine reg_plain w0 (Nobody) ?_
  refine r_assign hS hH.kp0 rfl rfl ?_; clear hS; intro a hS
  refine Sq.nil ?_
  refine then_n ?_
  refine c_seq ?_
  refine c_seq ?_
  refine reg_plain w0 (Nobody) ?_
  refine r_move hS hH.kp0 rfl rfl ?_; clear hS; intro a hS
  refine r_slNil hS hH.kp0 rfl Fc.isSlice25 rfl ?_; clear hS; intro a hS
  refine Sq.nil ?_
  refine then_n ?_
  refine c_condF hS rfl rfl ?_
  refine wp_skip ?_
  refine then_n ?_
  refine c_seq ?_
  refine reg_plain w0 (Nobody) ?_
  refine r_buildSlice0 hS hH (by repeat (first | exact Sub.nil | refine Sub.cons ?_ ?_ | exact In.here | refine In.there ?_)) Fc.uls25 Fc.inf5 rfl ?_
  clear hS hH; intro a w b5 hb5 hwb5 hS hH
  refine r_move hS hH.kp0 rfl rfl ?_; clear hS; intro a hS
  refine r_append_own hS hH rfl rfl (by repeat (first | exact .here | apply In.there | apply Put.there | apply Del.there)) (by repeat (first | exact Sub.nil | refine Sub.cons ?_ ?_ | exact In.here | refine In.there ?_)) Fc.el25 Fc.ni25 rfl (Nat.le_refl _) (hb.ext hH.mod).src (by omega) (.inr hb5) rfl ?_
  clear hS hH; intro a w ob cap1 l1 hob hl1 hc1_ htk1 _ hS hH
  refine r_assign hS hH.kp0 rfl rfl ?_; clear hS; intro a hS
  refine Sq.nil ?_
  refine then_n ?_
  refine wp_ret ?_
  rw [Nat.zero_add] at hS hc1_ htk1
  refine leave (.inl rfl) hS rfl (Res.tmp rfl Res.nil) ⟨ob, cap1, l1, rfl, ?_, hH.get .here, hc1_, by omega, ?_, hH.mod⟩
  · rcases hob with h | h; exact h.elim; exact h
  · rw [Nat.mul_one] at htk1; rw [htk1]; simp

set_option maxRecDepth 100000 in
set_option maxHeartbeats 400000 in
theorem clone_nil (w0 : World) : Calls Try.prog 30 #[.slice none 0 0] w0 fun e w' => e = .returned (.slice none 0 0) ∧ Ext w0 w' := by
  refine enter Try.func30 rfl rfl rfl ?_
  intro a hS
  have hH := Hp.start w0 (Nobody)
  refine c_seq ?_
  refine reg_plain w0 (Nobody) ?_
  refine r_assign hS hH.kp0 rfl rfl ?_; clear hS; intro a hS
  refine Sq.nil ?_
  refine then_n ?_
  refine c_seq ?_
  refine c_seq ?_
  refine reg_plain w0 (Nobody) ?_
  refine r_move hS hH.kp0 rfl rfl ?_; clear hS; intro a hS
  refine r_slNil hS hH.kp0 rfl Fc.isSlice25 rfl ?_; clear hS; intro a hS
  refine Sq.nil ?_
  refine then_n ?_
  refine c_condT hS rfl rfl ?_
  refine c_seq ?_
  refine reg_plain w0 (Nobody) ?_
  refine r_assign hS hH.kp0 rfl rfl ?_; clear hS; intro a hS
  refine Sq.nil ?_
  refine then_n ?_
  refine wp_ret ?_
  refine then_r ?_
  exact leave (.inl rfl) hS rfl (Res.tmp rfl Res.nil) ⟨rfl, hH.mod⟩

set_option maxRecDepth 100000 in
set_option maxHeartbeats 1000000 in
theorem lay_some (q : Addr) (qc : Nat) (u : List UInt8) (x n : Nat) (hl : u.length ≤ 1099511627700) (hx : x < 18446744073709551616) (hn : n ≤ 8) (w0 : World) (hb : Bs w0 (.slice (some q) u.length qc) u) : Calls Try.prog 28 #[.slice (some q) u.length qc, .int .u64 (x : Int), .int .i64 (n : Int)] w0 fun e w' => ∃ v, e = .returned v ∧ NB w0.heap.size 5 w' v (u ++ beB x n) ∧ Ext w0 w' := by
  refine enter Try.func28 rfl rfl rfl ?_
  intro a hS
  have hH := Hp.start w0 (Nobody)
  refine c_seq ?_
  refine reg_plain w0 (Nobody) ?_
  refine r_assign hS hH.kp0 rfl rfl ?_; clear hS; intro a hS
  refine Sq.nil ?_
  refine then_n ?_
  refine c_seq ?_
  refine reg_plain w0 (Nobody) ?_
  refine r_move hS hH.kp0 rfl rfl ?_; clear hS; intro a hS
  refine r_call (l := [.tmp 9]) hS rfl rfl Fc.fn30 rfl ?_
  refine Calls.mono (clone_c q qc u (by omega) _ (hb.ext hH.mod)) ?_
  rintro e w1 ⟨cb, cap, l2, rfl, hcb, hcbk, hcap, hl2, htk2, hE⟩
  have hcb0 := Nat.le_trans hH.mod.size hcb
  replace hH := (hH.ext hE).know hcbk (fun p hp => by simp at hp)
  have hB0 : BB cap l2 (u ++ (beB x n).take 0) := by rw [List.take_zero, List.append_nil]; exact ⟨hl2, hcap, htk2⟩
  refine ⟨_, rfl, hH.kp0, ?_⟩
  clear hS; intro a hS
  refine r_assign hS hH.kp0 rfl rfl ?_; clear hS; intro a hS
  refine Sq.nil ?_
  refine then_n ?_
  refine c_seq ?_
  refine c_seq ?_
  refine reg_plain w0 (Nobody) ?_
  refine r_move hS hH.kp0 rfl rfl ?_; clear hS; intro a hS
  refine r_move hS hH.kp0 rfl rfl ?_; clear hS; intro a hS
  refine Sq.nil ?_
  refine then_n ?_
  refine wp_block ?_
  refine c_loop (fun m a w => ∃ (j : Nat) (i : Int) (b cc : Nat) (k : List Value), m + j = n ∧ i = j ∧ w0.heap.size ≤ b ∧ BB cc k (u ++ (beB x n).take j) ∧ St 28 (lv [(1, .int .u64 (x : Int)), (2, .int .i64 (n : Int)), (7, .slice (some ⟨b, 0, none⟩) (u ++ (beB x n).take j).length cc), (11, .int .i64 (n : Int)), (12, .int .i64 i)]) a ∧ Hp w0 Nobody [(b, .cells k.toArray 5 (0, 0))] w) (n) ?_ ?_
  · rw [show u.length = (u ++ (beB x n).take 0).length from by simp] at hS
    exact ⟨0, _, cb, cap, l2, by omega, rfl, hcb0, hB0, hS.live ⟨rfl, rfl, rfl, rfl, rfl, trivial⟩, hH⟩
  clear hS hH; intro m a w hI; obtain ⟨j, i, b, cc, k, hmj, hi, hb0, hB, hS, hH⟩ := hI
  refine c_seq ?_
  refine reg_plain w0 (Nobody) ?_
  refine r_lss hS hH.kp0 rfl rfl rfl ?_; clear hS; intro a hS
  refine Sq.nil ?_
  refine then_n ?_
  refine c_seq ?_
  refine c_cond hS rfl (fun hc0 => ?_) (fun hc0 => ?_)
  · have hjn : j < n := by have := of_decide_eq_true hc0; omega
    refine wp_skip ?_
    refine then_n ?_
    refine c_seq ?_
    refine wp_block ?_
    refine c_seq ?_
    refine reg_plain w0 (Nobody) ?_
    refine r_move hS hH.kp0 rfl rfl ?_; clear hS; intro a hS
    refine r_assign hS hH.kp0 rfl rfl ?_; clear hS; intro a hS
    refine Sq.nil ?_
    refine then_n ?_
    refine reg_plain w0 (Nobody) ?_
    refine r_move hS hH.kp0 rfl rfl ?_; clear hS; intro a hS
    refine r_move hS hH.kp0 rfl rfl ?_; clear hS; intro a hS
    refine r_move hS hH.kp0 rfl rfl ?_; clear hS; intro a hS
    (first | refine r_sub hS hH.kp0 rfl rfl rfl (by omega) ?_ | refine r_subw hS hH.kp0 rfl rfl rfl ?_)
    clear hS; intro a hS
    refine r_move hS hH.kp0 rfl rfl ?_; clear hS; intro a hS
    (first | refine r_sub hS hH.kp0 rfl rfl rfl (by omega) ?_ | refine r_subw hS hH.kp0 rfl rfl rfl ?_)
    clear hS; intro a hS
    (first | refine r_mul hS hH.kp0 rfl rfl rfl (by omega) ?_ | refine r_mulw hS hH.kp0 rfl rfl rfl ?_)
    clear hS; intro a hS
    refine r_shrN (m := x) (8 * (n - 1 - j)) (x / 256 ^ (n - 1 - j)) hS hH.kp0 rfl rfl rfl (by omega) (by omega) (shr_pow _ _) ?_; clear hS; intro a hS
    refine r_toU8 (q := x / 256 ^ (n - 1 - j)) (UInt8.ofNat (x / 256 ^ (n - 1 - j))) hS hH.kp0 rfl Fc.ui5 Fc.us53 rfl rfl ?_; clear hS; intro a hS
    refine r_buildSlice (parts := [(0, .tmp 23)]) hS hH (by repeat (first | exact Sub.nil | refine Sub.cons ?_ ?_ | exact In.here | refine In.there ?_)) rfl Fc.bsl25_1 (by rfl) rfl ?_
    clear hS hH; intro a w b24 hb24 hwb24 hS hH
    refine r_appB (l := k) (u ++ (beB x n).take j) ([UInt8.ofNat (x / 256 ^ (n - 1 - j))]) hS hH rfl rfl (by repeat (first | exact .here | apply In.there | apply Put.there | apply Del.there)) (by repeat (first | exact Sub.nil | refine Sub.cons ?_ ?_ | exact In.here | refine In.there ?_)) Fc.el25 Fc.ni25 hB ((BB.lit [UInt8.ofNat (x / 256 ^ (n - 1 - j))] rfl rfl).bs (hH.get (b := b24) .here)) (by first | omega | (simp only [List.length_append, List.length_nil, List.length_cons, List.length_take, List.length_drop, beB_len]; omega)) (by assumption) rfl ?_
    clear hS hH; intro a w b1 c1 k1 hw1 hB1 hS hH
    refine r_assign hS hH.kp0 rfl rfl ?_; clear hS; intro a hS
    refine Sq.nil ?_
    refine blk_n ?_
    refine then_n ?_
    refine reg_plain w0 (Nobody) ?_
    (first | refine r_add hS hH.kp0 rfl rfl rfl (by omega) ?_ | refine r_addw hS hH.kp0 rfl rfl rfl ?_)
    clear hS; intro a hS
    refine r_move hS hH.kp0 rfl rfl ?_; clear hS; intro a hS
    refine Sq.nil ?_
    refine then_n ?_
    rw [List.append_assoc, ← beB_take (by omega)] at hB1 hS
    refine ⟨m - 1, by omega, j + 1, _, b1, c1, k1, by omega, ?_, hw1, hB1, hS.live ⟨rfl, rfl, rfl, rfl, rfl, trivial⟩, hH.sub (by repeat (first | exact Sub.nil | refine Sub.cons ?_ ?_ | exact In.here | refine In.there ?_)) (by simp)⟩
    omega
  · have hje : j = n := by have := of_decide_eq_false hc0; omega
    subst hje
    refine wp_exit ?_
    refine then_e ?_
    refine then_e ?_
    refine blk_hit ?_
    refine then_n ?_
    refine c_seq ?_
    refine reg_plain w0 (Nobody) ?_
    refine r_move hS hH.kp0 rfl rfl ?_; clear hS; intro a hS
    refine r_assign hS hH.kp0 rfl rfl ?_; clear hS; intro a hS
    refine Sq.nil ?_
    refine then_n ?_
    refine wp_ret ?_
    rw [List.take_of_length_le (Nat.le_of_eq (beB_len x j))] at hB hS
    exact leave (.inl rfl) hS rfl (Res.tmp rfl Res.nil) ⟨_, rfl, ⟨b, cc, k, rfl, hb0, hH.get .here, hB⟩, hH.mod⟩

set_option maxRecDepth 100000 in
set_option maxHeartbeats 1000000 in
theorem lay_nil (x n : Nat) (hx : x < 18446744073709551616) (hn1 : 1 ≤ n) (hn : n ≤ 8) (w0 : World) : Calls Try.prog 28 #[.slice none 0 0, .int .u64 (x : Int), .int .i64 (n : Int)] w0 fun e w' => ∃ v, e = .returned v ∧ NB w0.heap.size 5 w' v (beB x n) ∧ Ext w0 w' := by
  refine enter Try.func28 rfl rfl rfl ?_
  intro a hS
  have hH := Hp.start w0 (Nobody)
  refine c_seq ?_
  refine reg_plain w0 (Nobody) ?_
  refine r_assign hS hH.kp0 rfl rfl ?_; clear hS; intro a hS
  refine Sq.nil ?_
  refine then_n ?_
  refine c_seq ?_
  refine reg_plain w0 (Nobody) ?_
  refine r_move hS hH.kp0 rfl rfl ?_; clear hS; intro a hS
  refine r_call (l := [.tmp 9]) hS rfl rfl Fc.fn30 rfl ?_
  refine Calls.mono (clone_nil _) ?_
  rintro e w1 ⟨rfl, hE⟩
  replace hH := hH.ext hE
  refine ⟨_, rfl, hH.kp0, ?_⟩
  clear hS; intro a hS
  refine r_assign hS hH.kp0 rfl rfl ?_; clear hS; intro a hS
  refine Sq.nil ?_
  refine then_n ?_
  refine c_seq ?_
  refine c_seq ?_
  refine reg_plain w0 (Nobody) ?_
  refine r_move hS hH.kp0 rfl rfl ?_; clear hS; intro a hS
  refine r_move hS hH.kp0 rfl rfl ?_; clear hS; intro a hS
  refine Sq.nil ?_
  refine then_n ?_
  refine wp_block ?_
  refine c_loop (fun m a w => ∃ (j : Nat) (i : Int) (gv : Value), m + j = n ∧ i = j ∧ ((gv = .slice none 0 0 ∧ j = 0) ∨ (0 < j ∧ NB w0.heap.size 5 w gv ((beB x n).take j))) ∧ St 28 (lv [(1, .int .u64 (x : Int)), (2, .int .i64 (n : Int)), (7, gv), (11, .int .i64 (n : Int)), (12, .int .i64 i)]) a ∧ Hp w0 Nobody [] w) (n) ?_ ?_
  · exact ⟨0, _, _, by omega, rfl, .inl ⟨rfl, rfl⟩, hS.live ⟨rfl, rfl, rfl, rfl, rfl, trivial⟩, hH⟩
  clear hS hH; intro m a w hI; obtain ⟨j, i, gv, hmj, hi, hO, hS, hH⟩ := hI
  refine c_seq ?_
  refine reg_plain w0 (Nobody) ?_
  refine r_lss hS hH.kp0 rfl rfl rfl ?_; clear hS; intro a hS
  refine Sq.nil ?_
  refine then_n ?_
  refine c_seq ?_
  refine c_cond hS rfl (fun hc0 => ?_) (fun hc0 => ?_)
  · have hjn : j < n := by have := of_decide_eq_true hc0; omega
    refine wp_skip ?_
    refine then_n ?_
    refine c_seq ?_
    refine wp_block ?_
    refine c_seq ?_
    refine reg_plain w0 (Nobody) ?_
    rcases hO with ⟨rfl, rfl⟩ | ⟨hj0, b, cc, k, rfl, hb0, hbk, hB⟩
    · refine r_move hS hH.kp0 rfl rfl ?_; clear hS; intro a hS
      refine r_assign hS hH.kp0 rfl rfl ?_; clear hS; intro a hS
      refine Sq.nil ?_
      refine then_n ?_
      refine reg_plain w0 (Nobody) ?_
      refine r_move hS hH.kp0 rfl rfl ?_; clear hS; intro a hS
      refine r_move hS hH.kp0 rfl rfl ?_; clear hS; intro a hS
      refine r_move hS hH.kp0 rfl rfl ?_; clear hS; intro a hS
      (first | refine r_sub hS hH.kp0 rfl rfl rfl (by omega) ?_ | refine r_subw hS hH.kp0 rfl rfl rfl ?_)
      clear hS; intro a hS
      refine r_move hS hH.kp0 rfl rfl ?_; clear hS; intro a hS
      (first | refine r_sub hS hH.kp0 rfl rfl rfl (by omega) ?_ | refine r_subw hS hH.kp0 rfl rfl rfl ?_)
      clear hS; intro a hS
      (first | refine r_mul hS hH.kp0 rfl rfl rfl (by omega) ?_ | refine r_mulw hS hH.kp0 rfl rfl rfl ?_)
      clear hS; intro a hS
      refine r_shrN (m := x) (8 * (n - 1 - 0)) (x / 256 ^ (n - 1 - 0)) hS hH.kp0 rfl rfl rfl (by omega) (by omega) (shr_pow _ _) ?_; clear hS; intro a hS
      refine r_toU8 (q := x / 256 ^ (n - 1 - 0)) (UInt8.ofNat (x / 256 ^ (n - 1 - 0))) hS hH.kp0 rfl Fc.ui5 Fc.us53 rfl rfl ?_; clear hS; intro a hS
      refine r_buildSlice (parts := [(0, .tmp 23)]) hS hH (by repeat (first | exact Sub.nil | refine Sub.cons ?_ ?_ | exact In.here | refine In.there ?_)) rfl Fc.bsl25_1 (by rfl) rfl ?_
      clear hS hH; intro a w b24 hb24 hwb24 hS hH
      refine r_append_nil hS hH (by repeat (first | exact Sub.nil | refine Sub.cons ?_ ?_ | exact In.here | refine In.there ?_)) rfl rfl Fc.el25 Fc.ni25 (((BB.lit [UInt8.ofNat (x / 256 ^ (n - 1 - 0))] rfl rfl).bs (hH.get (b := b24) .here))).src (by simp) (by first | omega | (simp only [List.length_append, List.length_nil, List.length_cons, List.length_take, List.length_drop, beB_len]; omega)) rfl ?_
      clear hS hH; intro a w b1 c1 k1 hw1 hww1 hl1 hm1 htk1 hEx1 hS hH
      have hB1 : BB c1 k1 ((beB x n).take 0 ++ [UInt8.ofNat (x / 256 ^ (n - 1 - 0))]) := ⟨by rw [hl1, Nat.mul_one], hm1, by rw [Nat.mul_one] at htk1; exact htk1⟩
      rw [show ([UInt8.ofNat (x / 256 ^ (n - 1 - 0))] : List UInt8).length = ((beB x n).take 0 ++ [UInt8.ofNat (x / 256 ^ (n - 1 - 0))]).length from by simp] at hS
      refine r_assign hS hH.kp0 rfl rfl ?_; clear hS; intro a hS
      refine Sq.nil ?_
      refine blk_n ?_
      refine then_n ?_
      refine reg_plain w0 (Nobody) ?_
      (first | refine r_add hS hH.kp0 rfl rfl rfl (by omega) ?_ | refine r_addw hS hH.kp0 rfl rfl rfl ?_)
      clear hS; intro a hS
      refine r_move hS hH.kp0 rfl rfl ?_; clear hS; intro a hS
      refine Sq.nil ?_
      refine then_n ?_
      rw [← beB_take (i := 0) (by omega)] at hB1 hS
      refine ⟨m - 1, by omega, 0 + 1, _, _, by omega, ?_, .inr ⟨by omega, b1, c1, k1, rfl, hw1, hH.get (b := b1) .here, hB1⟩, hS.live ⟨rfl, rfl, rfl, rfl, rfl, trivial⟩, hH.sub .nil (by simp)⟩
      omega
    · replace hH := hH.know hbk (fun p hp => by simp at hp)
      refine r_move hS hH.kp0 rfl rfl ?_; clear hS; intro a hS
      refine r_assign hS hH.kp0 rfl rfl ?_; clear hS; intro a hS
      refine Sq.nil ?_
      refine then_n ?_
      refine reg_plain w0 (Nobody) ?_
      refine r_move hS hH.kp0 rfl rfl ?_; clear hS; intro a hS
      refine r_move hS hH.kp0 rfl rfl ?_; clear hS; intro a hS
      refine r_move hS hH.kp0 rfl rfl ?_; clear hS; intro a hS
      (first | refine r_sub hS hH.kp0 rfl rfl rfl (by omega) ?_ | refine r_subw hS hH.kp0 rfl rfl rfl ?_)
      clear hS; intro a hS
      refine r_move hS hH.kp0 rfl rfl ?_; clear hS; intro a hS
      (first | refine r_sub hS hH.kp0 rfl rfl rfl (by omega) ?_ | refine r_subw hS hH.kp0 rfl rfl rfl ?_)
      clear hS; intro a hS
      (first | refine r_mul hS hH.kp0 rfl rfl rfl (by omega) ?_ | refine r_mulw hS hH.kp0 rfl rfl rfl ?_)
      clear hS; intro a hS
      refine r_shrN (m := x) (8 * (n - 1 - j)) (x / 256 ^ (n - 1 - j)) hS hH.kp0 rfl rfl rfl (by omega) (by omega) (shr_pow _ _) ?_; clear hS; intro a hS
      refine r_toU8 (q := x / 256 ^ (n - 1 - j)) (UInt8.ofNat (x / 256 ^ (n - 1 - j))) hS hH.kp0 rfl Fc.ui5 Fc.us53 rfl rfl ?_; clear hS; intro a hS
      refine r_buildSlice (parts := [(0, .tmp 23)]) hS hH (by repeat (first | exact Sub.nil | refine Sub.cons ?_ ?_ | exact In.here | refine In.there ?_)) rfl Fc.bsl25_1 (by rfl) rfl ?_
      clear hS hH; intro a w b24 hb24 hwb24 hS hH
      refine r_appB (l := k) ((beB x n).take j) ([UInt8.ofNat (x / 256 ^ (n - 1 - j))]) hS hH rfl rfl (by repeat (first | exact .here | apply In.there | apply Put.there | apply Del.there)) (by repeat (first | exact Sub.nil | refine Sub.cons ?_ ?_ | exact In.here | refine In.there ?_)) Fc.el25 Fc.ni25 hB ((BB.lit [UInt8.ofNat (x / 256 ^ (n - 1 - j))] rfl rfl).bs (hH.get (b := b24) .here)) (by first | omega | (simp only [List.length_append, List.length_nil, List.length_cons, List.length_take, List.length_drop, beB_len]; omega)) (by assumption) rfl ?_
      clear hS hH; intro a w b1 c1 k1 hw1 hB1 hS hH
      refine r_assign hS hH.kp0 rfl rfl ?_; clear hS; intro a hS
      refine Sq.nil ?_
      refine blk_n ?_
      refine then_n ?_
      refine reg_plain w0 (Nobody) ?_
      (first | refine r_add hS hH.kp0 rfl rfl rfl (by omega) ?_ | refine r_addw hS hH.kp0 rfl rfl rfl ?_)
      clear hS; intro a hS
      refine r_move hS hH.kp0 rfl rfl ?_; clear hS; intro a hS
      refine Sq.nil ?_
      refine then_n ?_
      rw [← beB_take (by omega)] at hB1 hS
      refine ⟨m - 1, by omega, j + 1, _, _, by omega, ?_, .inr ⟨by omega, b1, c1, k1, rfl, hw1, hH.get (b := b1) .here, hB1⟩, hS.live ⟨rfl, rfl, rfl, rfl, rfl, trivial⟩, hH.sub .nil (by simp)⟩
      omega
  · have hje : j = n := by have := of_decide_eq_false hc0; omega
    subst hje
    refine wp_exit ?_
    refine then_e ?_
    refine then_e ?_
    refine blk_hit ?_
    refine then_n ?_
    refine c_seq ?_
    refine reg_plain w0 (Nobody) ?_
    refine r_move hS hH.kp0 rfl rfl ?_; clear hS; intro a hS
    refine r_assign hS hH.kp0 rfl rfl ?_; clear hS; intro a hS
    refine Sq.nil ?_
    refine then_n ?_
    refine wp_ret ?_
    obtain ⟨_, hO⟩ := hO.resolve_left (fun h => by have := h.2; omega)
    rw [List.take_of_length_le (Nat.le_of_eq (beB_len x j))] at hO
    exact leave (.inl rfl) hS rfl (Res.tmp rfl Res.nil) ⟨_, rfl, hO, hH.mod⟩

set_option maxRecDepth 100000 in
set_option maxHeartbeats 400000 in
theorem Put_some (q : Addr) (qc : Nat) (u : List UInt8) (x n : Nat) (hl : u.length ≤ 1099511627700) (hx : x < 18446744073709551616) (hn1 : 1 ≤ n) (hn : n ≤ 8) (w0 : World) (hb : Bs w0 (.slice (some q) u.length qc) u) : Calls Try.prog 21 #[.slice (some q) u.length qc, .int .u64 (x : Int), .int .i64 (n : Int)] w0 fun e w' => ∃ v, e = .returned (.tuple #[v, .int .i64 0]) ∧ NB w0.heap.size 5 w' v (u ++ beB x n) ∧ Ext w0 w' := by
  refine enter Try.func21 rfl rfl rfl ?_
  intro a hS
  have hH := Hp.start w0 (Nobody)
  refine c_seq ?_
  refine reg_plain w0 (Nobody) ?_
  refine r_assign hS hH.kp0 rfl rfl ?_; clear hS; intro a hS
  refine r_assign hS hH.kp0 rfl rfl ?_; clear hS; intro a hS
  refine Sq.nil ?_
  refine then_n ?_
  refine c_seq ?_
  refine c_seq ?_
  refine reg_plain w0 (Nobody) ?_
  refine r_move hS hH.kp0 rfl rfl ?_; clear hS; intro a hS
  refine r_lss hS hH.kp0 rfl rfl rfl ?_; clear hS; intro a hS
  refine r_move hS hH.kp0 rfl rfl ?_; clear hS; intro a hS
  refine Sq.guardYes hS rfl rfl (DF (by omega)) ?_
  refine r_move hS hH.kp0 rfl rfl ?_; clear hS; intro a hS
  refine Sq.guardYes hS rfl rfl (DF (by omega)) ?_
  refine r_gtr hS hH.kp0 rfl rfl rfl ?_; clear hS; intro a hS
  refine r_pickF hS hH.kp0 rfl (DF (by omega)) rfl rfl ?_; clear hS; intro a hS
  refine Sq.nil ?_
  refine then_n ?_
  refine c_condF hS rfl (DF (by omega)) ?_
  refine wp_skip ?_
  refine then_n ?_
  refine c_seq ?_
  refine reg_plain w0 (Nobody) ?_
  refine r_move hS hH.kp0 rfl rfl ?_; clear hS; intro a hS
  refine r_move hS hH.kp0 rfl rfl ?_; clear hS; intro a hS
  refine r_move hS hH.kp0 rfl rfl ?_; clear hS; intro a hS
  refine r_call (l := [.tmp 14, .tmp 15, .tmp 16]) hS rfl rfl Fc.fn28 rfl ?_
  refine Calls.mono (lay_some q qc u x n hl hx hn _ (hb.ext hH.mod)) ?_
  rintro e w1 ⟨v, rfl, hN, hE⟩
  have hN := hN.mono hH.mod.size
  replace hH := hH.ext hE
  refine ⟨_, rfl, hH.kp0, ?_⟩
  clear hS; intro a hS
  refine r_assign hS hH.kp0 rfl rfl ?_; clear hS; intro a hS
  refine r_assign hS hH.kp0 rfl rfl ?_; clear hS; intro a hS
  refine Sq.nil ?_
  refine then_n ?_
  refine wp_ret ?_
  exact leave (.inl rfl) hS rfl (Res.tmp rfl (Res.tmp rfl Res.nil)) ⟨_, rfl, hN, hH.mod⟩

set_option maxRecDepth 100000 in
set_option maxHeartbeats 400000 in
theorem Put_nil (x n : Nat) (hx : x < 18446744073709551616) (hn1 : 1 ≤ n) (hn : n ≤ 8) (w0 : World) : Calls Try.prog 21 #[.slice none 0 0, .int .u64 (x : Int), .int .i64 (n : Int)] w0 fun e w' => ∃ v, e = .returned (.tuple #[v, .int .i64 0]) ∧ NB w0.heap.size 5 w' v (beB x n) ∧ Ext w0 w' := by
  refine enter Try.func21 rfl rfl rfl ?_
  intro a hS
  have hH := Hp.start w0 (Nobody)
  refine c_seq ?_
  refine reg_plain w0 (Nobody) ?_
  refine r_assign hS hH.kp0 rfl rfl ?_; clear hS; intro a hS
  refine r_assign hS hH.kp0 rfl rfl ?_; clear hS; intro a hS
  refine Sq.nil ?_
  refine then_n ?_
  refine c_seq ?_
  refine c_seq ?_
  refine reg_plain w0 (Nobody) ?_
  refine r_move hS hH.kp0 rfl rfl ?_; clear hS; intro a hS
  refine r_lss hS hH.kp0 rfl rfl rfl ?_; clear hS; intro a hS
  refine r_move hS hH.kp0 rfl rfl ?_; clear hS; intro a hS
  refine Sq.guardYes hS rfl rfl (DF (by omega)) ?_
  refine r_move hS hH.kp0 rfl rfl ?_; clear hS; intro a hS
  refine Sq.guardYes hS rfl rfl (DF (by omega)) ?_
  refine r_gtr hS hH.kp0 rfl rfl rfl ?_; clear hS; intro a hS
  refine r_pickF hS hH.kp0 rfl (DF (by omega)) rfl rfl ?_; clear hS; intro a hS
  refine Sq.nil ?_
  refine then_n ?_
  refine c_condF hS rfl (DF (by omega)) ?_
  refine wp_skip ?_
  refine then_n ?_
  refine c_seq ?_
  refine reg_plain w0 (Nobody) ?_
  refine r_move hS hH.kp0 rfl rfl ?_; clear hS; intro a hS
  refine r_move hS hH.kp0 rfl rfl ?_; clear hS; intro a hS
  refine r_move hS hH.kp0 rfl rfl ?_; clear hS; intro a hS
  refine r_call (l := [.tmp 14, .tmp 15, .tmp 16]) hS rfl rfl Fc.fn28 rfl ?_
  refine Calls.mono (lay_nil x n hx hn1 hn _) ?_
  rintro e w1 ⟨v, rfl, hN, hE⟩
  have hN := hN.mono hH.mod.size
  replace hH := hH.ext hE
  refine ⟨_, rfl, hH.kp0, ?_⟩
  clear hS; intro a hS
  refine r_assign hS hH.kp0 rfl rfl ?_; clear hS; intro a hS
  refine r_assign hS hH.kp0 rfl rfl ?_; clear hS; intro a hS
  refine Sq.nil ?_
  refine then_n ?_
  refine wp_ret ?_
  exact leave (.inl rfl) hS rfl (Res.tmp rfl (Res.tmp rfl Res.nil)) ⟨_, rfl, hN, hH.mod⟩

set_option maxRecDepth 100000 in
set_option maxHeartbeats 400000 in
theorem number_nil (bw : Nat) (v n : Nat) (hv : v < 18446744073709551616) (hn1 : 1 ≤ n) (hn : n ≤ 8) (w0 : World) (h1 : w0.heap[bw]? = some (.cells [Value.slice none 0 0].toArray 42 (0, 0))) : Calls Try.prog 13 #[.pointer (some ⟨bw, 0, none⟩), .int .i64 (v : Int), .int .i64 (n : Int)] w0 fun e w' => ∃ (b' c' : Nat) (k' : List Value), e = .returned (.tuple #[]) ∧ w0.heap.size ≤ b' ∧ w'.heap[bw]? = some (.cells [Value.slice (some ⟨b', 0, none⟩) (beB v n).length c'].toArray 42 (0, 0)) ∧ w'.heap[b']? = some (.cells k'.toArray 5 (0, 0)) ∧ BB c' k' (beB v n) ∧ Mod (fun x => x = bw) w0 w' := by
  refine enter Try.func13 rfl rfl rfl ?_
  intro a hS
  have hH := Hp.start w0 (fun x => x = bw)
  replace hH := hH.know h1 (fun p hp => by simp at hp)
  refine reg_plain w0 (fun x => x = bw) ?_
  refine r_move hS hH.kp0 rfl rfl ?_; clear hS; intro a hS
  refine r_move hS hH.kp0 rfl rfl ?_; clear hS; intro a hS
  refine r_nilCheck hS hH.kp0 rfl rfl ?_; clear hS; intro a hS
  refine r_fieldAddr hS hH.kp0 rfl Fc.fo42_0 rfl ?_; clear hS; intro a hS
  refine r_load_sc hS hH (by repeat (first | exact Sub.nil | refine Sub.cons ?_ ?_ | exact In.here | refine In.there ?_)) rfl (by repeat (first | exact In.here | refine In.there ?_)) Fc.sc25 (by rfl) rfl ?_; clear hS; intro a hS
  refine r_move hS hH.kp0 rfl rfl ?_; clear hS; intro a hS
  refine r_toU64 (v) hS hH.kp0 rfl Fc.ui53 Fc.us3 rfl rfl (by omega) ?_; clear hS; intro a hS
  refine r_move hS hH.kp0 rfl rfl ?_; clear hS; intro a hS
  refine r_call (l := [.tmp 11, .tmp 13, .tmp 14]) hS rfl rfl Fc.fn21 rfl ?_
  refine Calls.mono (Put_nil v n hv hn1 hn _) ?_
  rintro e w1 ⟨rz, rfl, hN, hE⟩
  obtain ⟨bz, cz, kz, hvz, hrz, hrkz, hBz⟩ := hN
  subst hvz
  have hwz := Nat.le_trans hH.mod.size hrz
  replace hH := hH.knowN hE hrz hrkz
  refine ⟨_, rfl, hH.kp0, ?_⟩
  clear hS; intro a hS
  refine r_move hS hH.kp0 rfl rfl ?_; clear hS; intro a hS
  refine r_extract hS hH.kp0 rfl rfl rfl ?_; clear hS; intro a hS
  refine r_extract hS hH.kp0 rfl rfl rfl ?_; clear hS; intro a hS
  refine r_nilCheck hS hH.kp0 rfl rfl ?_; clear hS; intro a hS
  refine r_fieldAddr hS hH.kp0 rfl Fc.fo42_0 rfl ?_; clear hS; intro a hS
  refine r_store1 hS hH rfl rfl rfl (by repeat (first | exact .here | apply In.there | apply Put.there | apply Del.there)) (by repeat (first | exact Sub.nil | refine Sub.cons ?_ ?_ | exact In.here | refine In.there ?_)) Fc.sz25 (by simp) (.inl rfl) ?_; clear hH; intro w hH
  refine Sq.nil ?_
  exact leave (.inr rfl) hS rfl Res.nil ⟨bz, cz, kz, rfl, hwz, hH.get (b := bw) (by repeat (first | exact In.here | refine In.there ?_)), hH.get (b := bz) (by repeat (first | exact In.here | refine In.there ?_)), hBz, hH.mod⟩

set_option maxRecDepth 100000 in
set_option maxHeartbeats 400000 in
theorem number_some (bw : Nat) (b cb : Nat) (k : List Value) (u : List UInt8) (v n : Nat) (hv : v < 18446744073709551616) (hn1 : 1 ≤ n) (hn : n ≤ 8) (hl : u.length ≤ 1099511627700) (w0 : World) (h1 : w0.heap[bw]? = some (.cells [Value.slice (some ⟨b, 0, none⟩) (u).length cb].toArray 42 (0, 0))) (h2 : w0.heap[b]? = some (.cells k.toArray 5 (0, 0))) (hB : BB cb k u) (hne : b ≠ bw) : Calls Try.prog 13 #[.pointer (some ⟨bw, 0, none⟩), .int .i64 (v : Int), .int .i64 (n : Int)] w0 fun e w' => ∃ (b' c' : Nat) (k' : List Value), e = .returned (.tuple #[]) ∧ w0.heap.size ≤ b' ∧ w'.heap[bw]? = some (.cells [Value.slice (some ⟨b', 0, none⟩) (u ++ beB v n).length c'].toArray 42 (0, 0)) ∧ w'.heap[b']? = some (.cells k'.toArray 5 (0, 0)) ∧ BB c' k' (u ++ beB v n) ∧ Mod (fun x => x = bw) w0 w' := by
  refine enter Try.func13 rfl rfl rfl ?_
  intro a hS
  have hH := Hp.start w0 (fun x => x = bw)
  replace hH := (hH.know h2 (fun p hp => by simp at hp)).know h1 (fun p hp => by simp at hp; subst hp; exact hne)
  refine reg_plain w0 (fun x => x = bw) ?_
  refine r_move hS hH.kp0 rfl rfl ?_; clear hS; intro a hS
  refine r_move hS hH.kp0 rfl rfl ?_; clear hS; intro a hS
  refine r_nilCheck hS hH.kp0 rfl rfl ?_; clear hS; intro a hS
  refine r_fieldAddr hS hH.kp0 rfl Fc.fo42_0 rfl ?_; clear hS; intro a hS
  refine r_load_sc hS hH (by repeat (first | exact Sub.nil | refine Sub.cons ?_ ?_ | exact In.here | refine In.there ?_)) rfl (by repeat (first | exact In.here | refine In.there ?_)) Fc.sc25 (by rfl) rfl ?_; clear hS; intro a hS
  refine r_move hS hH.kp0 rfl rfl ?_; clear hS; intro a hS
  refine r_toU64 (v) hS hH.kp0 rfl Fc.ui53 Fc.us3 rfl rfl (by omega) ?_; clear hS; intro a hS
  refine r_move hS hH.kp0 rfl rfl ?_; clear hS; intro a hS
  refine r_call (l := [.tmp 11, .tmp 13, .tmp 14]) hS rfl rfl Fc.fn21 rfl ?_
  refine Calls.mono (Put_some ⟨b, 0, none⟩ cb u v n hl hv hn1 hn _ (hB.bs (hH.get (b := b) (by repeat (first | exact In.here | refine In.there ?_))))) ?_
  rintro e w1 ⟨rz, rfl, hN, hE⟩
  obtain ⟨bz, cz, kz, hvz, hrz, hrkz, hBz⟩ := hN
  subst hvz
  have hwz := Nat.le_trans hH.mod.size hrz
  replace hH := hH.knowN hE hrz hrkz
  refine ⟨_, rfl, hH.kp0, ?_⟩
  clear hS; intro a hS
  refine r_move hS hH.kp0 rfl rfl ?_; clear hS; intro a hS
  refine r_extract hS hH.kp0 rfl rfl rfl ?_; clear hS; intro a hS
  refine r_extract hS hH.kp0 rfl rfl rfl ?_; clear hS; intro a hS
  refine r_nilCheck hS hH.kp0 rfl rfl ?_; clear hS; intro a hS
  refine r_fieldAddr hS hH.kp0 rfl Fc.fo42_0 rfl ?_; clear hS; intro a hS
  refine r_store1 hS hH rfl rfl rfl (by repeat (first | exact .here | apply In.there | apply Put.there | apply Del.there)) (by repeat (first | exact Sub.nil | refine Sub.cons ?_ ?_ | exact In.here | refine In.there ?_)) Fc.sz25 (by simp) (.inl rfl) ?_; clear hH; intro w hH
  refine Sq.nil ?_
  exact leave (.inr rfl) hS rfl Res.nil ⟨bz, cz, kz, rfl, hwz, hH.get (b := bw) (by repeat (first | exact In.here | refine In.there ?_)), hH.get (b := bz) (by repeat (first | exact In.here | refine In.there ?_)), hBz, hH.mod⟩

end Go.Proofs.Ytcenionnedgadaa

namespace Go.Proofs.Ytcenionnedgadaa
open Go.Sym

theorem Fc.ar23 : arrB Try.prog 23 = some (16, 1) := by kernel_rfl
theorem Fc.fn13 : isFn Try.prog 13 = true := by kernel_rfl
theorem Fc.ni9 : notInt Try.prog 9 = true := by kernel_rfl
set_option maxRecDepth 100000 in
set_option maxHeartbeats 400000 in
theorem text_nil (bw : Nat) (s : ByteArray) (n : Nat) (hv : s.size ≤ 1099511627776) (hn1 : 1 ≤ n) (hn : n ≤ 8) (w0 : World) (h1 : w0.heap[bw]? = some (.cells [Value.slice none 0 0].toArray 42 (0, 0))) : Calls Try.prog 14 #[.pointer (some ⟨bw, 0, none⟩), .string s, .int .i64 (n : Int)] w0 fun e w' => ∃ (b' c' : Nat) (k' : List Value), e = .returned (.tuple #[]) ∧ w0.heap.size ≤ b' ∧ w'.heap[bw]? = some (.cells [Value.slice (some ⟨b', 0, none⟩) ((beB s.size n) ++ s.data.toList).length c'].toArray 42 (0, 0)) ∧ w'.heap[b']? = some (.cells k'.toArray 5 (0, 0)) ∧ BB c' k' ((beB s.size n) ++ s.data.toList) ∧ Mod (fun x => x = bw) w0 w' := by
  refine enter Try.func14 rfl rfl rfl ?_
  intro a hS
  have hH := Hp.start w0 (fun x => x = bw)
  replace hH := hH.know h1 (fun p hp => by simp at hp)
  refine c_seq ?_
  refine reg_plain w0 (fun x => x = bw) ?_
  refine r_move hS hH.kp0 rfl rfl ?_; clear hS; intro a hS
  refine r_move hS hH.kp0 rfl rfl ?_; clear hS; intro a hS
  refine r_lenStr hS hH.kp0 rfl Fc.isStr9 rfl ?_; clear hS; intro a hS
  refine r_move hS hH.kp0 rfl rfl ?_; clear hS; intro a hS
  refine r_call (l := [.tmp 6, .tmp 8, .tmp 9]) hS rfl rfl Fc.fn13 rfl ?_
  refine Calls.mono ((number_nil bw s.size n (by omega) hn1 hn _ (hH.get (b := bw) (by repeat (first | exact In.here | refine In.there ?_)))).mono (fun e w1 hP => hP)) ?_
  rintro e w1 hP
  obtain ⟨bp, cp, kp, rfl, hrp, hpp, hkp, hBp, hmp⟩ := hP
  have hwp := Nat.le_trans hH.mod.size hrp
  replace hH := hH.modPutN hmp hpp (by repeat (first | exact .here | apply In.there | apply Put.there | apply Del.there)) (.inl rfl) hrp hkp
  refine ⟨_, rfl, hH.kp0, ?_⟩
  clear hS; intro a hS
  refine Sq.nil ?_
  refine then_n ?_
  refine reg_plain w0 (fun x => x = bw) ?_
  refine r_move hS hH.kp0 rfl rfl ?_; clear hS; intro a hS
  refine r_move hS hH.kp0 rfl rfl ?_; clear hS; intro a hS
  refine r_nilCheck hS hH.kp0 rfl rfl ?_; clear hS; intro a hS
  refine r_fieldAddr hS hH.kp0 rfl Fc.fo42_0 rfl ?_; clear hS; intro a hS
  refine r_load_sc hS hH (by repeat (first | exact Sub.nil | refine Sub.cons ?_ ?_ | exact In.here | refine In.there ?_)) rfl (by repeat (first | exact In.here | refine In.there ?_)) Fc.sc25 (by rfl) rfl ?_; clear hS; intro a hS
  refine r_move hS hH.kp0 rfl rfl ?_; clear hS; intro a hS
  refine r_appS (beB s.size n) hS hH rfl rfl (by repeat (first | exact .here | apply In.there | apply Put.there | apply Del.there)) (by repeat (first | exact Sub.nil | refine Sub.cons ?_ ?_ | exact In.here | refine In.there ?_)) Fc.el25 Fc.ni9 hBp (by simp only [List.length_append, beB_len]; omega) hwp rfl ?_
  clear hS hH; intro a w bz cz kz hwz hBz hS hH
  refine r_nilCheck hS hH.kp0 rfl rfl ?_; clear hS; intro a hS
  refine r_fieldAddr hS hH.kp0 rfl Fc.fo42_0 rfl ?_; clear hS; intro a hS
  refine r_store1 hS hH rfl rfl rfl (by repeat (first | exact .here | apply In.there | apply Put.there | apply Del.there)) (by repeat (first | exact Sub.nil | refine Sub.cons ?_ ?_ | exact In.here | refine In.there ?_)) Fc.sz25 (by simp) (.inl rfl) ?_; clear hH; intro w hH
  refine Sq.nil ?_
  exact leave (.inr rfl) hS rfl Res.nil ⟨bz, cz, kz, rfl, hwz, hH.get (b := bw) (by repeat (first | exact In.here | refine In.there ?_)), hH.get (b := bz) (by repeat (first | exact In.here | refine In.there ?_)), hBz, hH.mod⟩

set_option maxRecDepth 100000 in
set_option maxHeartbeats 400000 in
theorem text_some (bw : Nat) (b cb : Nat) (k : List Value) (u : List UInt8) (s : ByteArray) (n : Nat) (hv : s.size ≤ 1099511627776) (hn1 : 1 ≤ n) (hn : n ≤ 8) (hl : u.length ≤ 1099511627700) (w0 : World) (h1 : w0.heap[bw]? = some (.cells [Value.slice (some ⟨b, 0, none⟩) (u).length cb].toArray 42 (0, 0))) (h2 : w0.heap[b]? = some (.cells k.toArray 5 (0, 0))) (hB : BB cb k u) (hne : b ≠ bw) : Calls Try.prog 14 #[.pointer (some ⟨bw, 0, none⟩), .string s, .int .i64 (n : Int)] w0 fun e w' => ∃ (b' c' : Nat) (k' : List Value), e = .returned (.tuple #[]) ∧ w0.heap.size ≤ b' ∧ w'.heap[bw]? = some (.cells [Value.slice (some ⟨b', 0, none⟩) ((u ++ beB s.size n) ++ s.data.toList).length c'].toArray 42 (0, 0)) ∧ w'.heap[b']? = some (.cells k'.toArray 5 (0, 0)) ∧ BB c' k' ((u ++ beB s.size n) ++ s.data.toList) ∧ Mod (fun x => x = bw) w0 w' := by
  refine enter Try.func14 rfl rfl rfl ?_
  intro a hS
  have hH := Hp.start w0 (fun x => x = bw)
  replace hH := (hH.know h2 (fun p hp => by simp at hp)).know h1 (fun p hp => by simp at hp; subst hp; exact hne)
  refine c_seq ?_
  refine reg_plain w0 (fun x => x = bw) ?_
  refine r_move hS hH.kp0 rfl rfl ?_; clear hS; intro a hS
  refine r_move hS hH.kp0 rfl rfl ?_; clear hS; intro a hS
  refine r_lenStr hS hH.kp0 rfl Fc.isStr9 rfl ?_; clear hS; intro a hS
  refine r_move hS hH.kp0 rfl rfl ?_; clear hS; intro a hS
  refine r_call (l := [.tmp 6, .tmp 8, .tmp 9]) hS rfl rfl Fc.fn13 rfl ?_
  refine Calls.mono ((number_some bw b cb k u s.size n (by omega) hn1 hn hl _ (hH.get (b := bw) (by repeat (first | exact In.here | refine In.there ?_))) (hH.get (b := b) (by repeat (first | exact In.here | refine In.there ?_))) hB hne).mono (fun e w1 hP => hP)) ?_
  rintro e w1 hP
  obtain ⟨bp, cp, kp, rfl, hrp, hpp, hkp, hBp, hmp⟩ := hP
  have hwp := Nat.le_trans hH.mod.size hrp
  replace hH := hH.modPutN hmp hpp (by repeat (first | exact .here | apply In.there | apply Put.there | apply Del.there)) (.inl rfl) hrp hkp
  refine ⟨_, rfl, hH.kp0, ?_⟩
  clear hS; intro a hS
  refine Sq.nil ?_
  refine then_n ?_
  refine reg_plain w0 (fun x => x = bw) ?_
  refine r_move hS hH.kp0 rfl rfl ?_; clear hS; intro a hS
  refine r_move hS hH.kp0 rfl rfl ?_; clear hS; intro a hS
  refine r_nilCheck hS hH.kp0 rfl rfl ?_; clear hS; intro a hS
  refine r_fieldAddr hS hH.kp0 rfl Fc.fo42_0 rfl ?_; clear hS; intro a hS
  refine r_load_sc hS hH (by repeat (first | exact Sub.nil | refine Sub.cons ?_ ?_ | exact In.here | refine In.there ?_)) rfl (by repeat (first | exact In.here | refine In.there ?_)) Fc.sc25 (by rfl) rfl ?_; clear hS; intro a hS
  refine r_move hS hH.kp0 rfl rfl ?_; clear hS; intro a hS
  refine r_appS (u ++ beB s.size n) hS hH rfl rfl (by repeat (first | exact .here | apply In.there | apply Put.there | apply Del.there)) (by repeat (first | exact Sub.nil | refine Sub.cons ?_ ?_ | exact In.here | refine In.there ?_)) Fc.el25 Fc.ni9 hBp (by simp only [List.length_append, beB_len]; omega) hwp rfl ?_
  clear hS hH; intro a w bz cz kz hwz hBz hS hH
  refine r_nilCheck hS hH.kp0 rfl rfl ?_; clear hS; intro a hS
  refine r_fieldAddr hS hH.kp0 rfl Fc.fo42_0 rfl ?_; clear hS; intro a hS
  refine r_store1 hS hH rfl rfl rfl (by repeat (first | exact .here | apply In.there | apply Put.there | apply Del.there)) (by repeat (first | exact Sub.nil | refine Sub.cons ?_ ?_ | exact In.here | refine In.there ?_)) Fc.sz25 (by simp) (.inl rfl) ?_; clear hH; intro w hH
  refine Sq.nil ?_
  exact leave (.inr rfl) hS rfl Res.nil ⟨bz, cz, kz, rfl, hwz, hH.get (b := bw) (by repeat (first | exact In.here | refine In.there ?_)), hH.get (b := bz) (by repeat (first | exact In.here | refine In.there ?_)), hBz, hH.mod⟩

set_option maxRecDepth 100000 in
set_option maxHeartbeats 400000 in
theorem handle_nil (bw : Nat) (h : List UInt8) (hh : h.length = 16) (w0 : World) (h1 : w0.heap[bw]? = some (.cells [Value.slice none 0 0].toArray 42 (0, 0))) : Calls Try.prog 19 #[.pointer (some ⟨bw, 0, none⟩), .agg (hcells h).toArray] w0 fun e w' => ∃ (b' c' : Nat) (k' : List Value), e = .returned (.tuple #[]) ∧ w0.heap.size ≤ b' ∧ w'.heap[bw]? = some (.cells [Value.slice (some ⟨b', 0, none⟩) (h).length c'].toArray 42 (0, 0)) ∧ w'.heap[b']? = some (.cells k'.toArray 5 (0, 0)) ∧ BB c' k' (h) ∧ Mod (fun x => x = bw) w0 w' := by
  refine enter Try.func19 rfl rfl rfl ?_
  intro a hS
  have hH := Hp.start w0 (fun x => x = bw)
  obtain ⟨t0, t1, t2, t3, t4, t5, t6, t7, t8, t9, ta, tb, tc, td, te, tf, rfl⟩ := len16 hh
  replace hH := hH.know h1 (fun p hp => by simp at hp)
  refine c_seq ?_
  refine reg_plain w0 (fun x => x = bw) ?_
  refine r_box hS hH (by repeat (first | exact Sub.nil | refine Sub.cons ?_ ?_ | exact In.here | refine In.there ?_)) rfl rfl rfl ?_
  clear hS hH; intro a w b3 hb3 hwb3 hS hH
  refine Sq.nil ?_
  refine then_n ?_
  refine reg_draw [(true, 0, [1]), (true, 1, [1]), (true, 2, [1]), (true, 3, [1]), (true, 4, []), (true, 5, [1]), (false, 6, []), (true, 7, [1]), (true, 8, [1]), (false, 9, [1])] Fc.mixed (by kernel_rfl) (by kernel_rfl) (by kernel_rfl) (by kernel_rfl) (by kernel_rfl) (by repeat (first | with_reducible exact steady_body | with_reducible apply steady_block | with_reducible apply steady_then | with_reducible apply steady_scope | exact steady_body)) hH ?_
  replace hH := hH.drew
  refine r_move hS trivial rfl rfl ?_; clear hS; intro a hS
  refine r_move hS trivial rfl rfl ?_; clear hS; intro a hS
  refine r_nilCheck hS trivial rfl rfl ?_; clear hS; intro a hS
  refine r_fieldAddr hS trivial rfl Fc.fo42_0 rfl ?_; clear hS; intro a hS
  refine r_load_scS hS rfl (by repeat (first | exact In.here | refine In.there ?_)) Fc.sc25 (by rfl) rfl ?_; clear hS; intro a hS
  refine r_slArr hS trivial rfl Fc.ar23 rfl ?_; clear hS; intro a hS
  refine r_append_nil hS hH (by repeat (first | exact Sub.nil | refine Sub.cons ?_ ?_ | exact In.here | refine In.there ?_)) rfl rfl Fc.el25 Fc.ni25 ((Bs.handle (hH.get (b := b3) (by repeat (first | exact In.here | refine In.there ?_))) rfl)).src (by simp) (by simp) rfl ?_
  clear hS hH; intro a w bz cz kz hwz hwwz hlz hmz htkz hExz hS hH
  have hBz : BB cz kz ([t0, t1, t2, t3, t4, t5, t6, t7, t8, t9, ta, tb, tc, td, te, tf]) := ⟨by rw [hlz, Nat.mul_one], hmz, by rw [Nat.mul_one] at htkz; exact htkz⟩
  rw [show ([t0, t1, t2, t3, t4, t5, t6, t7, t8, t9, ta, tb, tc, td, te, tf] : List UInt8).length = ([t0, t1, t2, t3, t4, t5, t6, t7, t8, t9, ta, tb, tc, td, te, tf]).length from by simp] at hS
  refine r_nilCheck hS trivial rfl rfl ?_; clear hS; intro a hS
  refine r_fieldAddr hS trivial rfl Fc.fo42_0 rfl ?_; clear hS; intro a hS
  refine r_store1 hS hH rfl rfl rfl (by repeat (first | exact .here | apply In.there | apply Put.there | apply Del.there)) (by repeat (first | exact Sub.nil | refine Sub.cons ?_ ?_ | exact In.here | refine In.there ?_)) Fc.sz25 (by simp) (.inl rfl) ?_; clear hH; intro w hH
  refine Sq.nil ?_
  exact leave (.inr rfl) hS rfl Res.nil ⟨bz, cz, kz, rfl, hwz, hH.get (b := bw) (by repeat (first | exact In.here | refine In.there ?_)), hH.get (b := bz) (by repeat (first | exact In.here | refine In.there ?_)), hBz, hH.mod⟩

set_option maxRecDepth 100000 in
set_option maxHeartbeats 400000 in
theorem handle_some (bw b cb : Nat) (k : List Value) (u h : List UInt8) (hh : h.length = 16) (hl : u.length ≤ 1099511627700) (w0 : World) (h1 : w0.heap[bw]? = some (.cells [Value.slice (some ⟨b, 0, none⟩) (u).length cb].toArray 42 (0, 0))) (h2 : w0.heap[b]? = some (.cells k.toArray 5 (0, 0))) (hB : BB cb k u) (hne : b ≠ bw) : Calls Try.prog 19 #[.pointer (some ⟨bw, 0, none⟩), .agg (hcells h).toArray] w0 fun e w' => ∃ (b' c' : Nat) (k' : List Value), e = .returned (.tuple #[]) ∧ (b' = b ∨ w0.heap.size ≤ b') ∧ w'.heap[bw]? = some (.cells [Value.slice (some ⟨b', 0, none⟩) (u ++ h).length c'].toArray 42 (0, 0)) ∧ w'.heap[b']? = some (.cells k'.toArray 5 (0, 0)) ∧ BB c' k' (u ++ h) ∧ Mod (fun x => x = bw ∨ x = b) w0 w' := by
  refine enter Try.func19 rfl rfl rfl ?_
  intro a hS
  have hH := Hp.start w0 (fun x => x = bw ∨ x = b)
  obtain ⟨t0, t1, t2, t3, t4, t5, t6, t7, t8, t9, ta, tb, tc, td, te, tf, rfl⟩ := len16 hh
  replace hH := (hH.know h2 (fun p hp => by simp at hp)).know h1 (fun p hp => by simp at hp; subst hp; exact hne)
  refine c_seq ?_
  refine reg_plain w0 (fun x => x = bw ∨ x = b) ?_
  refine r_box hS hH (by repeat (first | exact Sub.nil | refine Sub.cons ?_ ?_ | exact In.here | refine In.there ?_)) rfl rfl rfl ?_
  clear hS hH; intro a w b3 hb3 hwb3 hS hH
  refine Sq.nil ?_
  refine then_n ?_
  refine reg_draw [(true, 0, [1, 2]), (true, 1, [1, 2]), (true, 2, [1, 2]), (true, 3, [1, 2]), (true, 4, [2]), (true, 5, [1, 2]), (false, 6, [2]), (true, 7, [1, 2]), (true, 8, [1, 2]), (false, 9, [1, 2])] Fc.mixed (by kernel_rfl) (by kernel_rfl) (by kernel_rfl) (by kernel_rfl) (by kernel_rfl) (by repeat (first | with_reducible exact steady_body | with_reducible apply steady_block | with_reducible apply steady_then | with_reducible apply steady_scope | exact steady_body)) hH ?_
  replace hH := hH.drew
  refine r_move hS trivial rfl rfl ?_; clear hS; intro a hS
  refine r_move hS trivial rfl rfl ?_; clear hS; intro a hS
  refine r_nilCheck hS trivial rfl rfl ?_; clear hS; intro a hS
  refine r_fieldAddr hS trivial rfl Fc.fo42_0 rfl ?_; clear hS; intro a hS
  refine r_load_scS hS rfl (by repeat (first | exact In.here | refine In.there ?_)) Fc.sc25 (by rfl) rfl ?_; clear hS; intro a hS
  refine r_slArr hS trivial rfl Fc.ar23 rfl ?_; clear hS; intro a hS
  refine r_append_own hS hH rfl rfl (by repeat (first | exact .here | apply In.there | apply Put.there | apply Del.there)) (by repeat (first | exact Sub.nil | refine Sub.cons ?_ ?_ | exact In.here | refine In.there ?_)) Fc.el25 Fc.ni25 (by rw [hB.len, Nat.mul_one]) hB.le (Bs.handle (hH.get (b := b3) (by repeat (first | exact In.here | refine In.there ?_))) rfl).src (by simp only [List.length_cons, List.length_nil]; omega) (.inl (.inr rfl)) rfl ?_
  clear hS hH; intro a w bz cz kz hobz hlz hcz htz hmz hS hH
  have hBz : BB cz kz (u ++ [t0, t1, t2, t3, t4, t5, t6, t7, t8, t9, ta, tb, tc, td, te, tf]) := ⟨by rw [hlz, Nat.mul_one], by simpa using hcz, by simpa [hB.take] using htz⟩
  rw [← List.length_append] at hS
  have hobz2 : bz = b ∨ w0.heap.size ≤ bz := by rcases hobz with (h | h) | h; (have nd := hH.nd; simp only [List.map_cons, List.map_nil, List.nodup_cons, List.mem_cons, List.not_mem_nil, or_false, not_or] at nd; exact absurd h nd.1.2); exact .inl h; exact .inr h
  refine r_nilCheck hS trivial rfl rfl ?_; clear hS; intro a hS
  refine r_fieldAddr hS trivial rfl Fc.fo42_0 rfl ?_; clear hS; intro a hS
  refine r_store1 hS hH rfl rfl rfl (by repeat (first | exact .here | apply In.there | apply Put.there | apply Del.there)) (by repeat (first | exact Sub.nil | refine Sub.cons ?_ ?_ | exact In.here | refine In.there ?_)) Fc.sz25 (by simp) (.inl (.inl rfl)) ?_; clear hH; intro w hH
  refine Sq.nil ?_
  exact leave (.inr rfl) hS rfl Res.nil ⟨bz, cz, kz, rfl, hobz2, hH.get (b := bw) (by repeat (first | exact In.here | refine In.there ?_)), hH.get (b := bz) (by repeat (first | exact In.here | refine In.there ?_)), hBz, hH.mod⟩

end Go.Proofs.Ytcenionnedgadaa

namespace Go.Proofs.Ytcenionnedgadaa
open Go.Sym

theorem Fc.isSlice60 : isSlice Try.prog 60 = true := by kernel_rfl
theorem Fc.sc4 : scB Try.prog 4 = true := by kernel_rfl
theorem Fc.slb60 : slB Try.prog 60 = some 1 := by kernel_rfl
set_option maxRecDepth 100000 in
set_option maxHeartbeats 400000 in
theorem flags_f (bw b cb bl : Nat) (k : List Value) (u : List UInt8) (hl : u.length ≤ 1099511627700) (w0 : World) (h1 : w0.heap[bw]? = some (.cells [Value.slice (some ⟨b, 0, none⟩) (u).length cb].toArray 42 (0, 0))) (h2 : w0.heap[b]? = some (.cells k.toArray 5 (0, 0))) (hB : BB cb k u) (hne : b ≠ bw) (h3 : w0.heap[bl]? = some (.cells [.bool false].toArray 4 (0, 0))) (n1 : bl ≠ bw) (n2 : bl ≠ b) : Calls Try.prog 20 #[.pointer (some ⟨bw, 0, none⟩), .slice (some ⟨bl, 0, none⟩) 1 1] w0 fun e w' => ∃ (b' c' : Nat) (k' : List Value), e = .returned (.tuple #[]) ∧ w0.heap.size ≤ b' ∧ w'.heap[bw]? = some (.cells [Value.slice (some ⟨b', 0, none⟩) (u ++ beB 0 1).length c'].toArray 42 (0, 0)) ∧ w'.heap[b']? = some (.cells k'.toArray 5 (0, 0)) ∧ BB c' k' (u ++ beB 0 1) ∧ Mod (fun x => x = bw) w0 w' := by
  refine enter Try.func20 rfl rfl rfl ?_
  intro a hS
  have hH := Hp.start w0 (fun x => x = bw)
  replace hH := ((hH.know h3 (fun p hp => by simp at hp)).know h2 (fun p hp => by simp at hp; subst hp; exact n2)).know h1 (fun p hp => by simp at hp; rcases hp with rfl | rfl; exact hne; exact n1)
  refine c_seq ?_
  refine reg_plain w0 (fun x => x = bw) ?_
  refine r_assign hS hH.kp0 rfl rfl ?_; clear hS; intro a hS
  refine Sq.nil ?_
  refine then_n ?_
  refine c_seq ?_
  refine c_seq ?_
  refine reg_plain w0 (fun x => x = bw) ?_
  refine r_move hS hH.kp0 rfl rfl ?_; clear hS; intro a hS
  refine r_lenSl hS hH.kp0 rfl Fc.isSlice60 rfl ?_; clear hS; intro a hS
  refine r_move hS hH.kp0 rfl rfl ?_; clear hS; intro a hS
  refine Sq.nil ?_
  refine then_n ?_
  refine wp_block ?_
  refine wp_loop_rounds 2 ?_
  refine rnd ?_
  refine c_seq ?_
  refine reg_plain w0 (fun x => x = bw) ?_
  refine r_lss hS hH.kp0 rfl rfl rfl ?_; clear hS; intro a hS
  refine Sq.nil ?_
  refine then_n ?_
  refine c_seq ?_
  refine c_condT hS rfl rfl ?_
  refine wp_skip ?_
  refine then_n ?_
  refine c_seq ?_
  refine wp_block ?_
  refine c_seq ?_
  refine reg_plain w0 (fun x => x = bw) ?_
  refine r_move hS hH.kp0 rfl rfl ?_; clear hS; intro a hS
  refine r_indexAddrS hS hH.kp0 rfl rfl Fc.slb60 rfl (by decide) rfl ?_; clear hS; intro a hS
  refine r_load_sc hS hH (by repeat (first | exact Sub.nil | refine Sub.cons ?_ ?_ | exact In.here | refine In.there ?_)) rfl (by repeat (first | exact In.here | refine In.there ?_)) Fc.sc4 (by rfl) rfl ?_; clear hS; intro a hS
  refine r_assign hS hH.kp0 rfl rfl ?_; clear hS; intro a hS
  refine r_assign hS hH.kp0 rfl rfl ?_; clear hS; intro a hS
  refine Sq.nil ?_
  refine then_n ?_
  refine c_seq ?_
  refine reg_plain w0 (fun x => x = bw) ?_
  refine r_move hS hH.kp0 rfl rfl ?_; clear hS; intro a hS
  refine Sq.nil ?_
  refine then_n ?_
  refine c_condF hS rfl rfl ?_
  refine wp_skip ?_
  refine blk_n ?_
  refine then_n ?_
  refine reg_plain w0 (fun x => x = bw) ?_
  (first | refine r_add hS hH.kp0 rfl rfl rfl (by omega) ?_ | refine r_addw hS hH.kp0 rfl rfl rfl ?_)
  clear hS; intro a hS
  refine r_move hS hH.kp0 rfl rfl ?_; clear hS; intro a hS
  refine Sq.nil ?_
  refine then_n ?_
  refine rnd ?_
  refine c_seq ?_
  refine reg_plain w0 (fun x => x = bw) ?_
  refine r_lss hS hH.kp0 rfl rfl rfl ?_; clear hS; intro a hS
  refine Sq.nil ?_
  refine then_n ?_
  refine c_seq ?_
  refine c_condF hS rfl rfl ?_
  refine wp_exit ?_
  refine then_e ?_
  refine then_e ?_
  refine blk_hit ?_
  refine then_n ?_
  refine reg_plain w0 (fun x => x = bw) ?_
  refine r_move hS hH.kp0 rfl rfl ?_; clear hS; intro a hS
  refine r_move hS hH.kp0 rfl rfl ?_; clear hS; intro a hS
  refine r_call (l := [.tmp 20, .tmp 21, .const (.int .i64 1)]) hS rfl rfl Fc.fn13 rfl ?_
  refine Calls.mono ((number_some bw b cb k u 0 1 (by decide) (by decide) (by decide) hl _ (hH.get (b := bw) (by repeat (first | exact In.here | refine In.there ?_))) (hH.get (b := b) (by repeat (first | exact In.here | refine In.there ?_))) hB hne).mono (fun e w1 hP => hP)) ?_
  rintro e w1 hP
  obtain ⟨bp, cp, kp, rfl, hrp, hpp, hkp, hBp, hmp⟩ := hP
  have hwp := Nat.le_trans hH.mod.size hrp
  replace hH := hH.modPutN hmp hpp (by repeat (first | exact .here | apply In.there | apply Put.there | apply Del.there)) (.inl rfl) hrp hkp
  refine ⟨_, rfl, hH.kp0, ?_⟩
  clear hS; intro a hS
  refine Sq.nil ?_
  exact leave (.inr rfl) hS rfl Res.nil ⟨bp, cp, kp, rfl, hwp, hH.get (b := bw) (by repeat (first | exact In.here | refine In.there ?_)), hH.get (b := bp) (by repeat (first | exact In.here | refine In.there ?_)), hBp, hH.mod⟩

set_option maxRecDepth 100000 in
set_option maxHeartbeats 400000 in
theorem flags_t (bw b cb bl : Nat) (k : List Value) (u : List UInt8) (hl : u.length ≤ 1099511627700) (w0 : World) (h1 : w0.heap[bw]? = some (.cells [Value.slice (some ⟨b, 0, none⟩) (u).length cb].toArray 42 (0, 0))) (h2 : w0.heap[b]? = some (.cells k.toArray 5 (0, 0))) (hB : BB cb k u) (hne : b ≠ bw) (h3 : w0.heap[bl]? = some (.cells [.bool true].toArray 4 (0, 0))) (n1 : bl ≠ bw) (n2 : bl ≠ b) : Calls Try.prog 20 #[.pointer (some ⟨bw, 0, none⟩), .slice (some ⟨bl, 0, none⟩) 1 1] w0 fun e w' => ∃ (b' c' : Nat) (k' : List Value), e = .returned (.tuple #[]) ∧ w0.heap.size ≤ b' ∧ w'.heap[bw]? = some (.cells [Value.slice (some ⟨b', 0, none⟩) (u ++ beB 1 1).length c'].toArray 42 (0, 0)) ∧ w'.heap[b']? = some (.cells k'.toArray 5 (0, 0)) ∧ BB c' k' (u ++ beB 1 1) ∧ Mod (fun x => x = bw) w0 w' := by
  refine enter Try.func20 rfl rfl rfl ?_
  intro a hS
  have hH := Hp.start w0 (fun x => x = bw)
  replace hH := ((hH.know h3 (fun p hp => by simp at hp)).know h2 (fun p hp => by simp at hp; subst hp; exact n2)).know h1 (fun p hp => by simp at hp; rcases hp with rfl | rfl; exact hne; exact n1)
  refine c_seq ?_
  refine reg_plain w0 (fun x => x = bw) ?_
  refine r_assign hS hH.kp0 rfl rfl ?_; clear hS; intro a hS
  refine Sq.nil ?_
  refine then_n ?_
  refine c_seq ?_
  refine c_seq ?_
  refine reg_plain w0 (fun x => x = bw) ?_
  refine r_move hS hH.kp0 rfl rfl ?_; clear hS; intro a hS
  refine r_lenSl hS hH.kp0 rfl Fc.isSlice60 rfl ?_; clear hS; intro a hS
  refine r_move hS hH.kp0 rfl rfl ?_; clear hS; intro a hS
  refine Sq.nil ?_
  refine then_n ?_
  refine wp_block ?_
  refine wp_loop_rounds 2 ?_
  refine rnd ?_
  refine c_seq ?_
  refine reg_plain w0 (fun x => x = bw) ?_
  refine r_lss hS hH.kp0 rfl rfl rfl ?_; clear hS; intro a hS
  refine Sq.nil ?_
  refine then_n ?_
  refine c_seq ?_
  refine c_condT hS rfl rfl ?_
  refine wp_skip ?_
  refine then_n ?_
  refine c_seq ?_
  refine wp_block ?_
  refine c_seq ?_
  refine reg_plain w0 (fun x => x = bw) ?_
  refine r_move hS hH.kp0 rfl rfl ?_; clear hS; intro a hS
  refine r_indexAddrS hS hH.kp0 rfl rfl Fc.slb60 rfl (by decide) rfl ?_; clear hS; intro a hS
  refine r_load_sc hS hH (by repeat (first | exact Sub.nil | refine Sub.cons ?_ ?_ | exact In.here | refine In.there ?_)) rfl (by repeat (first | exact In.here | refine In.there ?_)) Fc.sc4 (by rfl) rfl ?_; clear hS; intro a hS
  refine r_assign hS hH.kp0 rfl rfl ?_; clear hS; intro a hS
  refine r_assign hS hH.kp0 rfl rfl ?_; clear hS; intro a hS
  refine Sq.nil ?_
  refine then_n ?_
  refine c_seq ?_
  refine reg_plain w0 (fun x => x = bw) ?_
  refine r_move hS hH.kp0 rfl rfl ?_; clear hS; intro a hS
  refine Sq.nil ?_
  refine then_n ?_
  refine c_condT hS rfl rfl ?_
  refine reg_plain w0 (fun x => x = bw) ?_
  refine r_move hS hH.kp0 rfl rfl ?_; clear hS; intro a hS
  refine r_move hS hH.kp0 rfl rfl ?_; clear hS; intro a hS
  refine r_shlI 0 hS hH.kp0 rfl rfl rfl rfl (by decide) ?_; clear hS; intro a hS
  refine r_orI 0 1 1 hS hH.kp0 rfl rfl rfl rfl rfl (by decide) (by decide) (by decide) ?_; clear hS; intro a hS
  refine r_assign hS hH.kp0 rfl rfl ?_; clear hS; intro a hS
  refine Sq.nil ?_
  refine blk_n ?_
  refine then_n ?_
  refine reg_plain w0 (fun x => x = bw) ?_
  (first | refine r_add hS hH.kp0 rfl rfl rfl (by omega) ?_ | refine r_addw hS hH.kp0 rfl rfl rfl ?_)
  clear hS; intro a hS
  refine r_move hS hH.kp0 rfl rfl ?_; clear hS; intro a hS
  refine Sq.nil ?_
  refine then_n ?_
  refine rnd ?_
  refine c_seq ?_
  refine reg_plain w0 (fun x => x = bw) ?_
  refine r_lss hS hH.kp0 rfl rfl rfl ?_; clear hS; intro a hS
  refine Sq.nil ?_
  refine then_n ?_
  refine c_seq ?_
  refine c_condF hS rfl rfl ?_
  refine wp_exit ?_
  refine then_e ?_
  refine then_e ?_
  refine blk_hit ?_
  refine then_n ?_
  refine reg_plain w0 (fun x => x = bw) ?_
  refine r_move hS hH.kp0 rfl rfl ?_; clear hS; intro a hS
  refine r_move hS hH.kp0 rfl rfl ?_; clear hS; intro a hS
  refine r_call (l := [.tmp 20, .tmp 21, .const (.int .i64 1)]) hS rfl rfl Fc.fn13 rfl ?_
  refine Calls.mono ((number_some bw b cb k u 1 1 (by decide) (by decide) (by decide) hl _ (hH.get (b := bw) (by repeat (first | exact In.here | refine In.there ?_))) (hH.get (b := b) (by repeat (first | exact In.here | refine In.there ?_))) hB hne).mono (fun e w1 hP => hP)) ?_
  rintro e w1 hP
  obtain ⟨bp, cp, kp, rfl, hrp, hpp, hkp, hBp, hmp⟩ := hP
  have hwp := Nat.le_trans hH.mod.size hrp
  replace hH := hH.modPutN hmp hpp (by repeat (first | exact .here | apply In.there | apply Put.there | apply Del.there)) (.inl rfl) hrp hkp
  refine ⟨_, rfl, hH.kp0, ?_⟩
  clear hS; intro a hS
  refine Sq.nil ?_
  exact leave (.inr rfl) hS rfl Res.nil ⟨bp, cp, kp, rfl, hwp, hH.get (b := bw) (by repeat (first | exact In.here | refine In.there ?_)), hH.get (b := bp) (by repeat (first | exact In.here | refine In.there ?_)), hBp, hH.mod⟩

set_option maxRecDepth 100000 in
set_option maxHeartbeats 400000 in
theorem flags_ff (bw b cb bl : Nat) (k : List Value) (u : List UInt8) (hl : u.length ≤ 1099511627700) (w0 : World) (h1 : w0.heap[bw]? = some (.cells [Value.slice (some ⟨b, 0, none⟩) (u).length cb].toArray 42 (0, 0))) (h2 : w0.heap[b]? = some (.cells k.toArray 5 (0, 0))) (hB : BB cb k u) (hne : b ≠ bw) (h3 : w0.heap[bl]? = some (.cells [.bool false, .bool false].toArray 4 (0, 0))) (n1 : bl ≠ bw) (n2 : bl ≠ b) : Calls Try.prog 20 #[.pointer (some ⟨bw, 0, none⟩), .slice (some ⟨bl, 0, none⟩) 2 2] w0 fun e w' => ∃ (b' c' : Nat) (k' : List Value), e = .returned (.tuple #[]) ∧ w0.heap.size ≤ b' ∧ w'.heap[bw]? = some (.cells [Value.slice (some ⟨b', 0, none⟩) (u ++ beB 0 1).length c'].toArray 42 (0, 0)) ∧ w'.heap[b']? = some (.cells k'.toArray 5 (0, 0)) ∧ BB c' k' (u ++ beB 0 1) ∧ Mod (fun x => x = bw) w0 w' := by
  refine enter Try.func20 rfl rfl rfl ?_
  intro a hS
  have hH := Hp.start w0 (fun x => x = bw)
  replace hH := ((hH.know h3 (fun p hp => by simp at hp)).know h2 (fun p hp => by simp at hp; subst hp; exact n2)).know h1 (fun p hp => by simp at hp; rcases hp with rfl | rfl; exact hne; exact n1)
  refine c_seq ?_
  refine reg_plain w0 (fun x => x = bw) ?_
  refine r_assign hS hH.kp0 rfl rfl ?_; clear hS; intro a hS
  refine Sq.nil ?_
  refine then_n ?_
  refine c_seq ?_
  refine c_seq ?_
  refine reg_plain w0 (fun x => x = bw) ?_
  refine r_move hS hH.kp0 rfl rfl ?_; clear hS; intro a hS
  refine r_lenSl hS hH.kp0 rfl Fc.isSlice60 rfl ?_; clear hS; intro a hS
  refine r_move hS hH.kp0 rfl rfl ?_; clear hS; intro a hS
  refine Sq.nil ?_
  refine then_n ?_
  refine wp_block ?_
  refine wp_loop_rounds 3 ?_
  refine rnd ?_
  refine c_seq ?_
  refine reg_plain w0 (fun x => x = bw) ?_
  refine r_lss hS hH.kp0 rfl rfl rfl ?_; clear hS; intro a hS
  refine Sq.nil ?_
  refine then_n ?_
  refine c_seq ?_
  refine c_condT hS rfl rfl ?_
  refine wp_skip ?_
  refine then_n ?_
  refine c_seq ?_
  refine wp_block ?_
  refine c_seq ?_
  refine reg_plain w0 (fun x => x = bw) ?_
  refine r_move hS hH.kp0 rfl rfl ?_; clear hS; intro a hS
  refine r_indexAddrS hS hH.kp0 rfl rfl Fc.slb60 rfl (by decide) rfl ?_; clear hS; intro a hS
  refine r_load_sc hS hH (by repeat (first | exact Sub.nil | refine Sub.cons ?_ ?_ | exact In.here | refine In.there ?_)) rfl (by repeat (first | exact In.here | refine In.there ?_)) Fc.sc4 (by rfl) rfl ?_; clear hS; intro a hS
  refine r_assign hS hH.kp0 rfl rfl ?_; clear hS; intro a hS
  refine r_assign hS hH.kp0 rfl rfl ?_; clear hS; intro a hS
  refine Sq.nil ?_
  refine then_n ?_
  refine c_seq ?_
  refine reg_plain w0 (fun x => x = bw) ?_
  refine r_move hS hH.kp0 rfl rfl ?_; clear hS; intro a hS
  refine Sq.nil ?_
  refine then_n ?_
  refine c_condF hS rfl rfl ?_
  refine wp_skip ?_
  refine blk_n ?_
  refine then_n ?_
  refine reg_plain w0 (fun x => x = bw) ?_
  (first | refine r_add hS hH.kp0 rfl rfl rfl (by omega) ?_ | refine r_addw hS hH.kp0 rfl rfl rfl ?_)
  clear hS; intro a hS
  refine r_move hS hH.kp0 rfl rfl ?_; clear hS; intro a hS
  refine Sq.nil ?_
  refine then_n ?_
  refine rnd ?_
  refine c_seq ?_
  refine reg_plain w0 (fun x => x = bw) ?_
  refine r_lss hS hH.kp0 rfl rfl rfl ?_; clear hS; intro a hS
  refine Sq.nil ?_
  refine then_n ?_
  refine c_seq ?_
  refine c_condT hS rfl rfl ?_
  refine wp_skip ?_
  refine then_n ?_
  refine c_seq ?_
  refine wp_block ?_
  refine c_seq ?_
  refine reg_plain w0 (fun x => x = bw) ?_
  refine r_move hS hH.kp0 rfl rfl ?_; clear hS; intro a hS
  refine r_indexAddrS hS hH.kp0 rfl rfl Fc.slb60 rfl (by decide) rfl ?_; clear hS; intro a hS
  refine r_load_sc hS hH (by repeat (first | exact Sub.nil | refine Sub.cons ?_ ?_ | exact In.here | refine In.there ?_)) rfl (by repeat (first | exact In.here | refine In.there ?_)) Fc.sc4 (by rfl) rfl ?_; clear hS; intro a hS
  refine r_assign hS hH.kp0 rfl rfl ?_; clear hS; intro a hS
  refine r_assign hS hH.kp0 rfl rfl ?_; clear hS; intro a hS
  refine Sq.nil ?_
  refine then_n ?_
  refine c_seq ?_
  refine reg_plain w0 (fun x => x = bw) ?_
  refine r_move hS hH.kp0 rfl rfl ?_; clear hS; intro a hS
  refine Sq.nil ?_
  refine then_n ?_
  refine c_condF hS rfl rfl ?_
  refine wp_skip ?_
  refine blk_n ?_
  refine then_n ?_
  refine reg_plain w0 (fun x => x = bw) ?_
  (first | refine r_add hS hH.kp0 rfl rfl rfl (by omega) ?_ | refine r_addw hS hH.kp0 rfl rfl rfl ?_)
  clear hS; intro a hS
  refine r_move hS hH.kp0 rfl rfl ?_; clear hS; intro a hS
  refine Sq.nil ?_
  refine then_n ?_
  refine rnd ?_
  refine c_seq ?_
  refine reg_plain w0 (fun x => x = bw) ?_
  refine r_lss hS hH.kp0 rfl rfl rfl ?_; clear hS; intro a hS
  refine Sq.nil ?_
  refine then_n ?_
  refine c_seq ?_
  refine c_condF hS rfl rfl ?_
  refine wp_exit ?_
  refine then_e ?_
  refine then_e ?_
  refine blk_hit ?_
  refine then_n ?_
  refine reg_plain w0 (fun x => x = bw) ?_
  refine r_move hS hH.kp0 rfl rfl ?_; clear hS; intro a hS
  refine r_move hS hH.kp0 rfl rfl ?_; clear hS; intro a hS
  refine r_call (l := [.tmp 20, .tmp 21, .const (.int .i64 1)]) hS rfl rfl Fc.fn13 rfl ?_
  refine Calls.mono ((number_some bw b cb k u 0 1 (by decide) (by decide) (by decide) hl _ (hH.get (b := bw) (by repeat (first | exact In.here | refine In.there ?_))) (hH.get (b := b) (by repeat (first | exact In.here | refine In.there ?_))) hB hne).mono (fun e w1 hP => hP)) ?_
  rintro e w1 hP
  obtain ⟨bp, cp, kp, rfl, hrp, hpp, hkp, hBp, hmp⟩ := hP
  have hwp := Nat.le_trans hH.mod.size hrp
  replace hH := hH.modPutN hmp hpp (by repeat (first | exact .here | apply In.there | apply Put.there | apply Del.there)) (.inl rfl) hrp hkp
  refine ⟨_, rfl, hH.kp0, ?_⟩
  clear hS; intro a hS
  refine Sq.nil ?_
  exact leave (.inr rfl) hS rfl Res.nil ⟨bp, cp, kp, rfl, hwp, hH.get (b := bw) (by repeat (first | exact In.here | refine In.there ?_)), hH.get (b := bp) (by repeat (first | exact In.here | refine In.there ?_)), hBp, hH.mod⟩

set_option maxRecDepth 100000 in
set_option maxHeartbeats 400000 in
theorem flags_ft (bw b cb bl : Nat) (k : List Value) (u : List UInt8) (hl : u.length ≤ 1099511627700) (w0 : World) (h1 : w0.heap[bw]? = some (.cells [Value.slice (some ⟨b, 0, none⟩) (u).length cb].toArray 42 (0, 0))) (h2 : w0.heap[b]? = some (.cells k.toArray 5 (0, 0))) (hB : BB cb k u) (hne : b ≠ bw) (h3 : w0.heap[bl]? = some (.cells [.bool false, .bool true].toArray 4 (0, 0))) (n1 : bl ≠ bw) (n2 : bl ≠ b) : Calls Try.prog 20 #[.pointer (some ⟨bw, 0, none⟩), .slice (some ⟨bl, 0, none⟩) 2 2] w0 fun e w' => ∃ (b' c' : Nat) (k' : List Value), e = .returned (.tuple #[]) ∧ w0.heap.size ≤ b' ∧ w'.heap[bw]? = some (.cells [Value.slice (some ⟨b', 0, none⟩) (u ++ beB 2 1).length c'].toArray 42 (0, 0)) ∧ w'.heap[b']? = some (.cells k'.toArray 5 (0, 0)) ∧ BB c' k' (u ++ beB 2 1) ∧ Mod (fun x => x = bw) w0 w' := by
  refine enter Try.func20 rfl rfl rfl ?_
  intro a hS
  have hH := Hp.start w0 (fun x => x = bw)
  replace hH := ((hH.know h3 (fun p hp => by simp at hp)).know h2 (fun p hp => by simp at hp; subst hp; exact n2)).know h1 (fun p hp => by simp at hp; rcases hp with rfl | rfl; exact hne; exact n1)
  refine c_seq ?_
  refine reg_plain w0 (fun x => x = bw) ?_
  refine r_assign hS hH.kp0 rfl rfl ?_; clear hS; intro a hS
  refine Sq.nil ?_
  refine then_n ?_
  refine c_seq ?_
  refine c_seq ?_
  refine reg_plain w0 (fun x => x = bw) ?_
  refine r_move hS hH.kp0 rfl rfl ?_; clear hS; intro a hS
  refine r_lenSl hS hH.kp0 rfl Fc.isSlice60 rfl ?_; clear hS; intro a hS
  refine r_move hS hH.kp0 rfl rfl ?_; clear hS; intro a hS
  refine Sq.nil ?_
  refine then_n ?_
  refine wp_block ?_
  refine wp_loop_rounds 3 ?_
  refine rnd ?_
  refine c_seq ?_
  refine reg_plain w0 (fun x => x = bw) ?_
  refine r_lss hS hH.kp0 rfl rfl rfl ?_; clear hS; intro a hS
  refine Sq.nil ?_
  refine then_n ?_
  refine c_seq ?_
  refine c_condT hS rfl rfl ?_
  refine wp_skip ?_
  refine then_n ?_
  refine c_seq ?_
  refine wp_block ?_
  refine c_seq ?_
  refine reg_plain w0 (fun x => x = bw) ?_
  refine r_move hS hH.kp0 rfl rfl ?_; clear hS; intro a hS
  refine r_indexAddrS hS hH.kp0 rfl rfl Fc.slb60 rfl (by decide) rfl ?_; clear hS; intro a hS
  refine r_load_sc hS hH (by repeat (first | exact Sub.nil | refine Sub.cons ?_ ?_ | exact In.here | refine In.there ?_)) rfl (by repeat (first | exact In.here | refine In.there ?_)) Fc.sc4 (by rfl) rfl ?_; clear hS; intro a hS
  refine r_assign hS hH.kp0 rfl rfl ?_; clear hS; intro a hS
  refine r_assign hS hH.kp0 rfl rfl ?_; clear hS; intro a hS
  refine Sq.nil ?_
  refine then_n ?_
  refine c_seq ?_
  refine reg_plain w0 (fun x => x = bw) ?_
  refine r_move hS hH.kp0 rfl rfl ?_; clear hS; intro a hS
  refine Sq.nil ?_
  refine then_n ?_
  refine c_condF hS rfl rfl ?_
  refine wp_skip ?_
  refine blk_n ?_
  refine then_n ?_
  refine reg_plain w0 (fun x => x = bw) ?_
  (first | refine r_add hS hH.kp0 rfl rfl rfl (by omega) ?_ | refine r_addw hS hH.kp0 rfl rfl rfl ?_)
  clear hS; intro a hS
  refine r_move hS hH.kp0 rfl rfl ?_; clear hS; intro a hS
  refine Sq.nil ?_
  refine then_n ?_
  refine rnd ?_
  refine c_seq ?_
  refine reg_plain w0 (fun x => x = bw) ?_
  refine r_lss hS hH.kp0 rfl rfl rfl ?_; clear hS; intro a hS
  refine Sq.nil ?_
  refine then_n ?_
  refine c_seq ?_
  refine c_condT hS rfl rfl ?_
  refine wp_skip ?_
  refine then_n ?_
  refine c_seq ?_
  refine wp_block ?_
  refine c_seq ?_
  refine reg_plain w0 (fun x => x = bw) ?_
  refine r_move hS hH.kp0 rfl rfl ?_; clear hS; intro a hS
  refine r_indexAddrS hS hH.kp0 rfl rfl Fc.slb60 rfl (by decide) rfl ?_; clear hS; intro a hS
  refine r_load_sc hS hH (by repeat (first | exact Sub.nil | refine Sub.cons ?_ ?_ | exact In.here | refine In.there ?_)) rfl (by repeat (first | exact In.here | refine In.there ?_)) Fc.sc4 (by rfl) rfl ?_; clear hS; intro a hS
  refine r_assign hS hH.kp0 rfl rfl ?_; clear hS; intro a hS
  refine r_assign hS hH.kp0 rfl rfl ?_; clear hS; intro a hS
  refine Sq.nil ?_
  refine then_n ?_
  refine c_seq ?_
  refine reg_plain w0 (fun x => x = bw) ?_
  refine r_move hS hH.kp0 rfl rfl ?_; clear hS; intro a hS
  refine Sq.nil ?_
  refine then_n ?_
  refine c_condT hS rfl rfl ?_
  refine reg_plain w0 (fun x => x = bw) ?_
  refine r_move hS hH.kp0 rfl rfl ?_; clear hS; intro a hS
  refine r_move hS hH.kp0 rfl rfl ?_; clear hS; intro a hS
  refine r_shlI 1 hS hH.kp0 rfl rfl rfl rfl (by decide) ?_; clear hS; intro a hS
  refine r_orI 0 2 2 hS hH.kp0 rfl rfl rfl rfl rfl (by decide) (by decide) (by decide) ?_; clear hS; intro a hS
  refine r_assign hS hH.kp0 rfl rfl ?_; clear hS; intro a hS
  refine Sq.nil ?_
  refine blk_n ?_
  refine then_n ?_
  refine reg_plain w0 (fun x => x = bw) ?_
  (first | refine r_add hS hH.kp0 rfl rfl rfl (by omega) ?_ | refine r_addw hS hH.kp0 rfl rfl rfl ?_)
  clear hS; intro a hS
  refine r_move hS hH.kp0 rfl rfl ?_; clear hS; intro a hS
  refine Sq.nil ?_
  refine then_n ?_
  refine rnd ?_
  refine c_seq ?_
  refine reg_plain w0 (fun x => x = bw) ?_
  refine r_lss hS hH.kp0 rfl rfl rfl ?_; clear hS; intro a hS
  refine Sq.nil ?_
  refine then_n ?_
  refine c_seq ?_
  refine c_condF hS rfl rfl ?_
  refine wp_exit ?_
  refine then_e ?_
  refine then_e ?_
  refine blk_hit ?_
  refine then_n ?_
  refine reg_plain w0 (fun x => x = bw) ?_
  refine r_move hS hH.kp0 rfl rfl ?_; clear hS; intro a hS
  refine r_move hS hH.kp0 rfl rfl ?_; clear hS; intro a hS
  refine r_call (l := [.tmp 20, .tmp 21, .const (.int .i64 1)]) hS rfl rfl Fc.fn13 rfl ?_
  refine Calls.mono ((number_some bw b cb k u 2 1 (by decide) (by decide) (by decide) hl _ (hH.get (b := bw) (by repeat (first | exact In.here | refine In.there ?_))) (hH.get (b := b) (by repeat (first | exact In.here | refine In.there ?_))) hB hne).mono (fun e w1 hP => hP)) ?_
  rintro e w1 hP
  obtain ⟨bp, cp, kp, rfl, hrp, hpp, hkp, hBp, hmp⟩ := hP
  have hwp := Nat.le_trans hH.mod.size hrp
  replace hH := hH.modPutN hmp hpp (by repeat (first | exact .here | apply In.there | apply Put.there | apply Del.there)) (.inl rfl) hrp hkp
  refine ⟨_, rfl, hH.kp0, ?_⟩
  clear hS; intro a hS
  refine Sq.nil ?_
  exact leave (.inr rfl) hS rfl Res.nil ⟨bp, cp, kp, rfl, hwp, hH.get (b := bw) (by repeat (first | exact In.here | refine In.there ?_)), hH.get (b := bp) (by repeat (first | exact In.here | refine In.there ?_)), hBp, hH.mod⟩

set_option maxRecDepth 100000 in
set_option maxHeartbeats 400000 in
theorem flags_tf (bw b cb bl : Nat) (k : List Value) (u : List UInt8) (hl : u.length ≤ 1099511627700) (w0 : World) (h1 : w0.heap[bw]? = some (.cells [Value.slice (some ⟨b, 0, none⟩) (u).length cb].toArray 42 (0, 0))) (h2 : w0.heap[b]? = some (.cells k.toArray 5 (0, 0))) (hB : BB cb k u) (hne : b ≠ bw) (h3 : w0.heap[bl]? = some (.cells [.bool true, .bool false].toArray 4 (0, 0))) (n1 : bl ≠ bw) (n2 : bl ≠ b) : Calls Try.prog 20 #[.pointer (some ⟨bw, 0, none⟩), .slice (some ⟨bl, 0, none⟩) 2 2] w0 fun e w' => ∃ (b' c' : Nat) (k' : List Value), e = .returned (.tuple #[]) ∧ w0.heap.size ≤ b' ∧ w'.heap[bw]? = some (.cells [Value.slice (some ⟨b', 0, none⟩) (u ++ beB 1 1).length c'].toArray 42 (0, 0)) ∧ w'.heap[b']? = some (.cells k'.toArray 5 (0, 0)) ∧ BB c' k' (u ++ beB 1 1) ∧ Mod (fun x => x = bw) w0 w' := by
  refine enter Try.func20 rfl rfl rfl ?_
  intro a hS
  have hH := Hp.start w0 (fun x => x = bw)
  replace hH := ((hH.know h3 (fun p hp => by simp at hp)).know h2 (fun p hp => by simp at hp; subst hp; exact n2)).know h1 (fun p hp => by simp at hp; rcases hp with rfl | rfl; exact hne; exact n1)
  refine c_seq ?_
  refine reg_plain w0 (fun x => x = bw) ?_
  refine r_assign hS hH.kp0 rfl rfl ?_; clear hS; intro a hS
  refine Sq.nil ?_
  refine then_n ?_
  refine c_seq ?_
  refine c_seq ?_
  refine reg_plain w0 (fun x => x = bw) ?_
  refine r_move hS hH.kp0 rfl rfl ?_; clear hS; intro a hS
  refine r_lenSl hS hH.kp0 rfl Fc.isSlice60 rfl ?_; clear hS; intro a hS
  refine r_move hS hH.kp0 rfl rfl ?_; clear hS; intro a hS
  refine Sq.nil ?_
  refine then_n ?_
  refine wp_block ?_
  refine wp_loop_rounds 3 ?_
  refine rnd ?_
  refine c_seq ?_
  refine reg_plain w0 (fun x => x = bw) ?_
  refine r_lss hS hH.kp0 rfl rfl rfl ?_; clear hS; intro a hS
  refine Sq.nil ?_
  refine then_n ?_
  refine c_seq ?_
  refine c_condT hS rfl rfl ?_
  refine wp_skip ?_
  refine then_n ?_
  refine c_seq ?_
  refine wp_block ?_
  refine c_seq ?_
  refine reg_plain w0 (fun x => x = bw) ?_
  refine r_move hS hH.kp0 rfl rfl ?_; clear hS; intro a hS
  refine r_indexAddrS hS hH.kp0 rfl rfl Fc.slb60 rfl (by decide) rfl ?_; clear hS; intro a hS
  refine r_load_sc hS hH (by repeat (first | exact Sub.nil | refine Sub.cons ?_ ?_ | exact In.here | refine In.there ?_)) rfl (by repeat (first | exact In.here | refine In.there ?_)) Fc.sc4 (by rfl) rfl ?_; clear hS; intro a hS
  refine r_assign hS hH.kp0 rfl rfl ?_; clear hS; intro a hS
  refine r_assign hS hH.kp0 rfl rfl ?_; clear hS; intro a hS
  refine Sq.nil ?_
  refine then_n ?_
  refine c_seq ?_
  refine reg_plain w0 (fun x => x = bw) ?_
  refine r_move hS hH.kp0 rfl rfl ?_; clear hS; intro a hS
  refine Sq.nil ?_
  refine then_n ?_
  refine c_condT hS rfl rfl ?_
  refine reg_plain w0 (fun x => x = bw) ?_
  refine r_move hS hH.kp0 rfl rfl ?_; clear hS; intro a hS
  refine r_move hS hH.kp0 rfl rfl ?_; clear hS; intro a hS
  refine r_shlI 0 hS hH.kp0 rfl rfl rfl rfl (by decide) ?_; clear hS; intro a hS
  refine r_orI 0 1 1 hS hH.kp0 rfl rfl rfl rfl rfl (by decide) (by decide) (by decide) ?_; clear hS; intro a hS
  refine r_assign hS hH.kp0 rfl rfl ?_; clear hS; intro a hS
  refine Sq.nil ?_
  refine blk_n ?_
  refine then_n ?_
  refine reg_plain w0 (fun x => x = bw) ?_
  (first | refine r_add hS hH.kp0 rfl rfl rfl (by omega) ?_ | refine r_addw hS hH.kp0 rfl rfl rfl ?_)
  clear hS; intro a hS
  refine r_move hS hH.kp0 rfl rfl ?_; clear hS; intro a hS
  refine Sq.nil ?_
  refine then_n ?_
  refine rnd ?_
  refine c_seq ?_
  refine reg_plain w0 (fun x => x = bw) ?_
  refine r_lss hS hH.kp0 rfl rfl rfl ?_; clear hS; intro a hS
  refine Sq.nil ?_
  refine then_n ?_
  refine c_seq ?_
  refine c_condT hS rfl rfl ?_
  refine wp_skip ?_
  refine then_n ?_
  refine c_seq ?_
  refine wp_block ?_
  refine c_seq ?_
  refine reg_plain w0 (fun x => x = bw) ?_
  refine r_move hS hH.kp0 rfl rfl ?_; clear hS; intro a hS
  refine r_indexAddrS hS hH.kp0 rfl rfl Fc.slb60 rfl (by decide) rfl ?_; clear hS; intro a hS
  refine r_load_sc hS hH (by repeat (first | exact Sub.nil | refine Sub.cons ?_ ?_ | exact In.here | refine In.there ?_)) rfl (by repeat (first | exact In.here | refine In.there ?_)) Fc.sc4 (by rfl) rfl ?_; clear hS; intro a hS
  refine r_assign hS hH.kp0 rfl rfl ?_; clear hS; intro a hS
  refine r_assign hS hH.kp0 rfl rfl ?_; clear hS; intro a hS
  refine Sq.nil ?_
  refine then_n ?_
  refine c_seq ?_
  refine reg_plain w0 (fun x => x = bw) ?_
  refine r_move hS hH.kp0 rfl rfl ?_; clear hS; intro a hS
  refine Sq.nil ?_
  refine then_n ?_
  refine c_condF hS rfl rfl ?_
  refine wp_skip ?_
  refine blk_n ?_
  refine then_n ?_
  refine reg_plain w0 (fun x => x = bw) ?_
  (first | refine r_add hS hH.kp0 rfl rfl rfl (by omega) ?_ | refine r_addw hS hH.kp0 rfl rfl rfl ?_)
  clear hS; intro a hS
  refine r_move hS hH.kp0 rfl rfl ?_; clear hS; intro a hS
  refine Sq.nil ?_
  refine then_n ?_
  refine rnd ?_
  refine c_seq ?_
  refine reg_plain w0 (fun x => x = bw) ?_
  refine r_lss hS hH.kp0 rfl rfl rfl ?_; clear hS; intro a hS
  refine Sq.nil ?_
  refine then_n ?_
  refine c_seq ?_
  refine c_condF hS rfl rfl ?_
  refine wp_exit ?_
  refine then_e ?_
  refine then_e ?_
  refine blk_hit ?_
  refine then_n ?_
  refine reg_plain w0 (fun x => x = bw) ?_
  refine r_move hS hH.kp0 rfl rfl ?_; clear hS; intro a hS
  refine r_move hS hH.kp0 rfl rfl ?_; clear hS; intro a hS
  refine r_call (l := [.tmp 20, .tmp 21, .const (.int .i64 1)]) hS rfl rfl Fc.fn13 rfl ?_
  refine Calls.mono ((number_some bw b cb k u 1 1 (by decide) (by decide) (by decide) hl _ (hH.get (b := bw) (by repeat (first | exact In.here | refine In.there ?_))) (hH.get (b := b) (by repeat (first | exact In.here | refine In.there ?_))) hB hne).mono (fun e w1 hP => hP)) ?_
  rintro e w1 hP
  obtain ⟨bp, cp, kp, rfl, hrp, hpp, hkp, hBp, hmp⟩ := hP
  have hwp := Nat.le_trans hH.mod.size hrp
  replace hH := hH.modPutN hmp hpp (by repeat (first | exact .here | apply In.there | apply Put.there | apply Del.there)) (.inl rfl) hrp hkp
  refine ⟨_, rfl, hH.kp0, ?_⟩
  clear hS; intro a hS
  refine Sq.nil ?_
  exact leave (.inr rfl) hS rfl Res.nil ⟨bp, cp, kp, rfl, hwp, hH.get (b := bw) (by repeat (first | exact In.here | refine In.there ?_)), hH.get (b := bp) (by repeat (first | exact In.here | refine In.there ?_)), hBp, hH.mod⟩

set_option maxRecDepth 100000 in
set_option maxHeartbeats 400000 in
theorem flags_tt (bw b cb bl : Nat) (k : List Value) (u : List UInt8) (hl : u.length ≤ 1099511627700) (w0 : World) (h1 : w0.heap[bw]? = some (.cells [Value.slice (some ⟨b, 0, none⟩) (u).length cb].toArray 42 (0, 0))) (h2 : w0.heap[b]? = some (.cells k.toArray 5 (0, 0))) (hB : BB cb k u) (hne : b ≠ bw) (h3 : w0.heap[bl]? = some (.cells [.bool true, .bool true].toArray 4 (0, 0))) (n1 : bl ≠ bw) (n2 : bl ≠ b) : Calls Try.prog 20 #[.pointer (some ⟨bw, 0, none⟩), .slice (some ⟨bl, 0, none⟩) 2 2] w0 fun e w' => ∃ (b' c' : Nat) (k' : List Value), e = .returned (.tuple #[]) ∧ w0.heap.size ≤ b' ∧ w'.heap[bw]? = some (.cells [Value.slice (some ⟨b', 0, none⟩) (u ++ beB 3 1).length c'].toArray 42 (0, 0)) ∧ w'.heap[b']? = some (.cells k'.toArray 5 (0, 0)) ∧ BB c' k' (u ++ beB 3 1) ∧ Mod (fun x => x = bw) w0 w' := by
  refine enter Try.func20 rfl rfl rfl ?_
  intro a hS
  have hH := Hp.start w0 (fun x => x = bw)
  replace hH := ((hH.know h3 (fun p hp => by simp at hp)).know h2 (fun p hp => by simp at hp; subst hp; exact n2)).know h1 (fun p hp => by simp at hp; rcases hp with rfl | rfl; exact hne; exact n1)
  refine c_seq ?_
  refine reg_plain w0 (fun x => x = bw) ?_
  refine r_assign hS hH.kp0 rfl rfl ?_; clear hS; intro a hS
  refine Sq.nil ?_
  refine then_n ?_
  refine c_seq ?_
  refine c_seq ?_
  refine reg_plain w0 (fun x => x = bw) ?_
  refine r_move hS hH.kp0 rfl rfl ?_; clear hS; intro a hS
  refine r_lenSl hS hH.kp0 rfl Fc.isSlice60 rfl ?_; clear hS; intro a hS
  refine r_move hS hH.kp0 rfl rfl ?_; clear hS; intro a hS
  refine Sq.nil ?_
  refine then_n ?_
  refine wp_block ?_
  refine wp_loop_rounds 3 ?_
  refine rnd ?_
  refine c_seq ?_
  refine reg_plain w0 (fun x => x = bw) ?_
  refine r_lss hS hH.kp0 rfl rfl rfl ?_; clear hS; intro a hS
  refine Sq.nil ?_
  refine then_n ?_
  refine c_seq ?_
  refine c_condT hS rfl rfl ?_
  refine wp_skip ?_
  refine then_n ?_
  refine c_seq ?_
  refine wp_block ?_
  refine c_seq ?_
  refine reg_plain w0 (fun x => x = bw) ?_
  refine r_move hS hH.kp0 rfl rfl ?_; clear hS; intro a hS
  refine r_indexAddrS hS hH.kp0 rfl rfl Fc.slb60 rfl (by decide) rfl ?_; clear hS; intro a hS
  refine r_load_sc hS hH (by repeat (first | exact Sub.nil | refine Sub.cons ?_ ?_ | exact In.here | refine In.there ?_)) rfl (by repeat (first | exact In.here | refine In.there ?_)) Fc.sc4 (by rfl) rfl ?_; clear hS; intro a hS
  refine r_assign hS hH.kp0 rfl rfl ?_; clear hS; intro a hS
  refine r_assign hS hH.kp0 rfl rfl ?_; clear hS; intro a hS
  refine Sq.nil ?_
  refine then_n ?_
  refine c_seq ?_
  refine reg_plain w0 (fun x => x = bw) ?_
  refine r_move hS hH.kp0 rfl rfl ?_; clear hS; intro a hS
  refine Sq.nil ?_
  refine then_n ?_
  refine c_condT hS rfl rfl ?_
  refine reg_plain w0 (fun x => x = bw) ?_
  refine r_move hS hH.kp0 rfl rfl ?_; clear hS; intro a hS
  refine r_move hS hH.kp0 rfl rfl ?_; clear hS; intro a hS
  refine r_shlI 0 hS hH.kp0 rfl rfl rfl rfl (by decide) ?_; clear hS; intro a hS
  refine r_orI 0 1 1 hS hH.kp0 rfl rfl rfl rfl rfl (by decide) (by decide) (by decide) ?_; clear hS; intro a hS
  refine r_assign hS hH.kp0 rfl rfl ?_; clear hS; intro a hS
  refine Sq.nil ?_
  refine blk_n ?_
  refine then_n ?_
  refine reg_plain w0 (fun x => x = bw) ?_
  (first | refine r_add hS hH.kp0 rfl rfl rfl (by omega) ?_ | refine r_addw hS hH.kp0 rfl rfl rfl ?_)
  clear hS; intro a hS
  refine r_move hS hH.kp0 rfl rfl ?_; clear hS; intro a hS
  refine Sq.nil ?_
  refine then_n ?_
  refine rnd ?_
  refine c_seq ?_
  refine reg_plain w0 (fun x => x = bw) ?_
  refine r_lss hS hH.kp0 rfl rfl rfl ?_; clear hS; intro a hS
  refine Sq.nil ?_
  refine then_n ?_
  refine c_seq ?_
  refine c_condT hS rfl rfl ?_
  refine wp_skip ?_
  refine then_n ?_
  refine c_seq ?_
  refine wp_block ?_
  refine c_seq ?_
  refine reg_plain w0 (fun x => x = bw) ?_
  refine r_move hS hH.kp0 rfl rfl ?_; clear hS; intro a hS
  refine r_indexAddrS hS hH.kp0 rfl rfl Fc.slb60 rfl (by decide) rfl ?_; clear hS; intro a hS
  refine r_load_sc hS hH (by repeat (first | exact Sub.nil | refine Sub.cons ?_ ?_ | exact In.here | refine In.there ?_)) rfl (by repeat (first | exact In.here | refine In.there ?_)) Fc.sc4 (by rfl) rfl ?_; clear hS; intro a hS
  refine r_assign hS hH.kp0 rfl rfl ?_; clear hS; intro a hS
  refine r_assign hS hH.kp0 rfl rfl ?_; clear hS; intro a hS
  refine Sq.nil ?_
  refine then_n ?_
  refine c_seq ?_
  refine reg_plain w0 (fun x => x = bw) ?_
  refine r_move hS hH.kp0 rfl rfl ?_; clear hS; intro a hS
  refine Sq.nil ?_
  refine then_n ?_
  refine c_condT hS rfl rfl ?_
  refine reg_plain w0 (fun x => x = bw) ?_
  refine r_move hS hH.kp0 rfl rfl ?_; clear hS; intro a hS
  refine r_move hS hH.kp0 rfl rfl ?_; clear hS; intro a hS
  refine r_shlI 1 hS hH.kp0 rfl rfl rfl rfl (by decide) ?_; clear hS; intro a hS
  refine r_orI 1 2 3 hS hH.kp0 rfl rfl rfl rfl rfl (by decide) (by decide) (by decide) ?_; clear hS; intro a hS
  refine r_assign hS hH.kp0 rfl rfl ?_; clear hS; intro a hS
  refine Sq.nil ?_
  refine blk_n ?_
  refine then_n ?_
  refine reg_plain w0 (fun x => x = bw) ?_
  (first | refine r_add hS hH.kp0 rfl rfl rfl (by omega) ?_ | refine r_addw hS hH.kp0 rfl rfl rfl ?_)
  clear hS; intro a hS
  refine r_move hS hH.kp0 rfl rfl ?_; clear hS; intro a hS
  refine Sq.nil ?_
  refine then_n ?_
  refine rnd ?_
  refine c_seq ?_
  refine reg_plain w0 (fun x => x = bw) ?_
  refine r_lss hS hH.kp0 rfl rfl rfl ?_; clear hS; intro a hS
  refine Sq.nil ?_
  refine then_n ?_
  refine c_seq ?_
  refine c_condF hS rfl rfl ?_
  refine wp_exit ?_
  refine then_e ?_
  refine then_e ?_
  refine blk_hit ?_
  refine then_n ?_
  refine reg_plain w0 (fun x => x = bw) ?_
  refine r_move hS hH.kp0 rfl rfl ?_; clear hS; intro a hS
  refine r_move hS hH.kp0 rfl rfl ?_; clear hS; intro a hS
  refine r_call (l := [.tmp 20, .tmp 21, .const (.int .i64 1)]) hS rfl rfl Fc.fn13 rfl ?_
  refine Calls.mono ((number_some bw b cb k u 3 1 (by decide) (by decide) (by decide) hl _ (hH.get (b := bw) (by repeat (first | exact In.here | refine In.there ?_))) (hH.get (b := b) (by repeat (first | exact In.here | refine In.there ?_))) hB hne).mono (fun e w1 hP => hP)) ?_
  rintro e w1 hP
  obtain ⟨bp, cp, kp, rfl, hrp, hpp, hkp, hBp, hmp⟩ := hP
  have hwp := Nat.le_trans hH.mod.size hrp
  replace hH := hH.modPutN hmp hpp (by repeat (first | exact .here | apply In.there | apply Put.there | apply Del.there)) (.inl rfl) hrp hkp
  refine ⟨_, rfl, hH.kp0, ?_⟩
  clear hS; intro a hS
  refine Sq.nil ?_
  exact leave (.inr rfl) hS rfl Res.nil ⟨bp, cp, kp, rfl, hwp, hH.get (b := bw) (by repeat (first | exact In.here | refine In.there ?_)), hH.get (b := bp) (by repeat (first | exact In.here | refine In.there ?_)), hBp, hH.mod⟩

end Go.Proofs.Ytcenionnedgadaa

namespace Go.Proofs.Ytcenionnedgadaa
open Go.Sym

theorem Fc.fn26 : isFn Try.prog 26 = true := by kernel_rfl
theorem Fc.fn27 : isFn Try.prog 27 = true := by kernel_rfl
theorem Fc.fn29 : isFn Try.prog 29 = true := by kernel_rfl
theorem Fc.fo27_4 : foff Try.prog 27 4 = some 34 := by kernel_rfl
theorem Fc.fo27_5 : foff Try.prog 27 5 = some 35 := by kernel_rfl
theorem Fc.isSlice24 : isSlice Try.prog 24 = true := by kernel_rfl
theorem Fc.sc24 : scB Try.prog 24 = true := by kernel_rfl
theorem Fc.sc9 : scB Try.prog 9 = true := by kernel_rfl
theorem Fc.slb24 : slB Try.prog 24 = some 1 := by kernel_rfl
set_option maxRecDepth 100000 in
set_option maxHeartbeats 400000 in
theorem named1_c (s : ByteArray) (w0 : World) : Calls Try.prog 26 #[.string s] w0 fun e w' => e = .returned (.bool (odd1 s)) ∧ Ext w0 w' := by
  refine enter Try.func26 rfl rfl rfl ?_
  intro a hS
  have hH := Hp.start w0 (Nobody)
  refine c_seq ?_
  refine reg_plain w0 (Nobody) ?_
  refine r_assign hS hH.kp0 rfl rfl ?_; clear hS; intro a hS
  refine Sq.nil ?_
  refine then_n ?_
  refine c_seq ?_
  refine reg_plain w0 (Nobody) ?_
  refine r_move hS hH.kp0 rfl rfl ?_; clear hS; intro a hS
  rcases (by omega : s.size < 1 ∨ 1 ≤ s.size) with hv | hv
  · refine r_lenStr hS hH.kp0 rfl Fc.isStr9 rfl ?_; clear hS; intro a hS
    refine r_lss hS hH.kp0 rfl rfl rfl ?_; clear hS; intro a hS
    refine r_move hS hH.kp0 rfl rfl ?_; clear hS; intro a hS
    refine Sq.guardNo hS rfl rfl (DT (by omega)) hH.kp0 rfl ?_; clear hS; intro a hS
    refine Sq.guardNo hS rfl rfl (DT (by omega)) hH.kp0 rfl ?_; clear hS; intro a hS
    refine Sq.guardNo hS rfl rfl (DT (by omega)) hH.kp0 rfl ?_; clear hS; intro a hS
    refine r_pickT hS hH.kp0 rfl (DT (by omega)) rfl rfl ?_; clear hS; intro a hS
    refine r_assign hS hH.kp0 rfl rfl ?_; clear hS; intro a hS
    refine Sq.nil ?_
    refine then_n ?_
    refine wp_ret ?_
    refine leave (.inl rfl) hS rfl (Res.tmp rfl Res.nil) ⟨congrArg (fun z => Ending.returned (Value.bool z)) ?_, hH.mod⟩
    first | exact (DF (by omega)).symm | exact (DT (by omega)).symm | exact decide_eq_decide.2 (by omega)
  · refine r_lenStr hS hH.kp0 rfl Fc.isStr9 rfl ?_; clear hS; intro a hS
    refine r_lss hS hH.kp0 rfl rfl rfl ?_; clear hS; intro a hS
    refine r_move hS hH.kp0 rfl rfl ?_; clear hS; intro a hS
    refine Sq.guardYes hS rfl rfl (DF (by omega)) ?_; refine r_move hS hH.kp0 rfl rfl ?_; clear hS; intro a hS
    refine Sq.guardYes hS rfl rfl (DF (by omega)) ?_; refine r_lenStr hS hH.kp0 rfl Fc.isStr9 rfl ?_; clear hS; intro a hS
    refine Sq.guardYes hS rfl rfl (DF (by omega)) ?_; refine r_gtr hS hH.kp0 rfl rfl rfl ?_; clear hS; intro a hS
    refine r_pickF hS hH.kp0 rfl (DF (by omega)) rfl rfl ?_; clear hS; intro a hS
    refine r_assign hS hH.kp0 rfl rfl ?_; clear hS; intro a hS
    refine Sq.nil ?_
    refine then_n ?_
    refine wp_ret ?_
    refine leave (.inl rfl) hS rfl (Res.tmp rfl Res.nil) ⟨congrArg (fun z => Ending.returned (Value.bool z)) ?_, hH.mod⟩
    first | exact (DF (by omega)).symm | exact (DT (by omega)).symm | exact decide_eq_decide.2 (by omega)

set_option maxRecDepth 100000 in
set_option maxHeartbeats 400000 in
theorem IndexFunc_c (q : Option Addr) (qc : Nat) (l : List ByteArray) (hl : l.length ≤ 1099511627776) (w0 : World) (hb : SsA w0 q qc l) : Calls Try.prog 29 #[.slice q l.length qc, .func (.func 26) #[] #[]] w0 fun e w' => ∃ r : Int, e = .returned (.int .i64 r) ∧ (0 ≤ r ↔ 0 < oddN l) ∧ Ext w0 w' := by
  refine enter Try.func29 rfl rfl rfl ?_
  intro a hS
  have hH := Hp.start w0 (Nobody)
  refine c_seq ?_
  refine reg_plain w0 (Nobody) ?_
  refine r_assign hS hH.kp0 rfl rfl ?_; clear hS; intro a hS
  refine Sq.nil ?_
  refine then_n ?_
  refine c_seq ?_
  refine c_seq ?_
  refine reg_plain w0 (Nobody) ?_
  refine r_move hS hH.kp0 rfl rfl ?_; clear hS; intro a hS
  refine r_lenSl hS hH.kp0 rfl Fc.isSlice24 rfl ?_; clear hS; intro a hS
  refine r_move hS hH.kp0 rfl rfl ?_; clear hS; intro a hS
  refine Sq.nil ?_
  refine then_n ?_
  refine wp_block ?_
  refine c_loop (fun m a w => ∃ (k : Nat) (i : Int), m + k = l.length ∧ i = k ∧ oddN (l.take k) = 0 ∧ St 19 (lv [(0, .slice q l.length qc), (1, .func (.func 26) #[] #[]), (7, .int .i64 (l.length : Int)), (8, .int .i64 i)]) a ∧ Hp w0 Nobody [] w) (l.length) ?_ ?_
  · exact ⟨0, _, by omega, rfl, rfl, hS.live ⟨rfl, rfl, rfl, rfl, trivial⟩, hH⟩
  clear hS hH; intro m a w hI; obtain ⟨k, i, hmk, hi, h0, hS, hH⟩ := hI
  refine c_seq ?_
  refine reg_plain w0 (Nobody) ?_
  refine r_lss hS hH.kp0 rfl rfl rfl ?_; clear hS; intro a hS
  refine Sq.nil ?_
  refine then_n ?_
  refine c_seq ?_
  refine c_cond hS rfl (fun hc0 => ?_) (fun hc0 => ?_)
  · have hk : k < l.length := by have := of_decide_eq_true hc0; omega
    obtain ⟨ba, bo, hp, hcell⟩ := (hb.ext hH.mod).cell hk
    subst hp
    refine wp_skip ?_
    refine then_n ?_
    refine c_seq ?_
    refine wp_block ?_
    refine c_seq ?_
    refine reg_plain w0 (Nobody) ?_
    refine r_move hS hH.kp0 rfl rfl ?_; clear hS; intro a hS
    refine r_assign hS hH.kp0 rfl rfl ?_; clear hS; intro a hS
    refine Sq.nil ?_
    refine then_n ?_
    refine c_seq ?_
    refine reg_plain w0 (Nobody) ?_
    refine r_move hS hH.kp0 rfl rfl ?_; clear hS; intro a hS
    refine r_move hS hH.kp0 rfl rfl ?_; clear hS; intro a hS
    refine r_move hS hH.kp0 rfl rfl ?_; clear hS; intro a hS
    refine r_indexAddrS (j := k) hS hH.kp0 rfl rfl Fc.slb24 hi hk rfl ?_; clear hS; intro a hS
    refine r_load_cell hS hH.kp0 rfl hcell Fc.sc9 rfl ?_; clear hS; intro a hS
    refine r_call (l := [.tmp 15]) hS rfl rfl Fc.fn26 rfl ?_
    refine Calls.mono (named1_c _ _) ?_
    rintro e w1 ⟨rfl, hE⟩
    replace hH := hH.ext hE
    refine ⟨_, rfl, hH.kp0, ?_⟩
    clear hS; intro a hS
    refine Sq.nil ?_
    refine then_n ?_
    refine c_cond hS rfl (fun hc1 => ?_) (fun hc1 => ?_)
    · refine c_seq ?_
      refine reg_plain w0 (Nobody) ?_
      refine r_move hS hH.kp0 rfl rfl ?_; clear hS; intro a hS
      refine r_assign hS hH.kp0 rfl rfl ?_; clear hS; intro a hS
      refine Sq.nil ?_
      refine then_n ?_
      refine wp_ret ?_
      refine blk_r ?_
      refine then_r ?_
      refine then_r ?_
      refine blk_r ?_
      refine then_r ?_
      exact leave (.inl rfl) hS rfl (Res.tmp rfl Res.nil) ⟨_, rfl, ⟨fun _ => oddN_at hk hc1, fun _ => by omega⟩, hH.mod⟩
    · refine wp_skip ?_
      refine blk_n ?_
      refine then_n ?_
      refine reg_plain w0 (Nobody) ?_
      (first | refine r_add hS hH.kp0 rfl rfl rfl (by omega) ?_ | refine r_addw hS hH.kp0 rfl rfl rfl ?_)
      clear hS; intro a hS
      refine r_move hS hH.kp0 rfl rfl ?_; clear hS; intro a hS
      refine Sq.nil ?_
      refine then_n ?_
      refine ⟨m - 1, by omega, k + 1, _, by omega, ?_, oddN_succ hk (by simpa using hc1) h0, hS.live ⟨rfl, rfl, rfl, rfl, trivial⟩, hH⟩
      omega
  · have hke : k = l.length := by have := of_decide_eq_false hc0; omega
    subst hke
    refine wp_exit ?_
    refine then_e ?_
    refine then_e ?_
    refine blk_hit ?_
    refine then_n ?_
    refine c_seq ?_
    refine reg_plain w0 (Nobody) ?_
    refine r_assign hS hH.kp0 rfl rfl ?_; clear hS; intro a hS
    refine Sq.nil ?_
    refine then_n ?_
    refine wp_ret ?_
    rw [List.take_of_length_le (Nat.le_refl _)] at h0
    exact leave (.inl rfl) hS rfl (Res.tmp rfl Res.nil) ⟨_, rfl, ⟨fun h => by omega, fun h => by omega⟩, hH.mod⟩

set_option maxRecDepth 100000 in
set_option maxHeartbeats 400000 in
theorem ContainsFunc_c (q : Option Addr) (qc : Nat) (l : List ByteArray) (hl : l.length ≤ 1099511627776) (w0 : World) (hb : SsA w0 q qc l) : Calls Try.prog 27 #[.slice q l.length qc, .func (.func 26) #[] #[]] w0 fun e w' => e = .returned (.bool (decide (0 < oddN l))) ∧ Ext w0 w' := by
  refine enter Try.func27 rfl rfl rfl ?_
  intro a hS
  have hH := Hp.start w0 (Nobody)
  refine c_seq ?_
  refine reg_plain w0 (Nobody) ?_
  refine r_assign hS hH.kp0 rfl rfl ?_; clear hS; intro a hS
  refine Sq.nil ?_
  refine then_n ?_
  refine c_seq ?_
  refine reg_plain w0 (Nobody) ?_
  refine r_move hS hH.kp0 rfl rfl ?_; clear hS; intro a hS
  refine r_move hS hH.kp0 rfl rfl ?_; clear hS; intro a hS
  refine r_call (l := [.tmp 5, .tmp 6]) hS rfl rfl Fc.fn29 rfl ?_
  refine Calls.mono (IndexFunc_c q qc l hl _ (hb.ext hH.mod)) ?_
  rintro e w1 ⟨r, rfl, hr, hE⟩
  replace hH := hH.ext hE
  refine ⟨_, rfl, hH.kp0, ?_⟩
  clear hS; intro a hS
  refine r_geq hS hH.kp0 rfl rfl rfl ?_; clear hS; intro a hS
  refine r_assign hS hH.kp0 rfl rfl ?_; clear hS; intro a hS
  refine Sq.nil ?_
  refine then_n ?_
  refine wp_ret ?_
  refine leave (.inl rfl) hS rfl (Res.tmp rfl Res.nil) ⟨congrArg (fun z => Ending.returned (Value.bool z)) ?_, hH.mod⟩
  exact decide_eq_decide.2 hr

set_option maxRecDepth 100000 in
set_option maxHeartbeats 2000000 in
theorem named_c (kd : Int) (q1 q2 q3 : Option Addr) (c1 c2 c3 : Nat) (rnd shr bnd mrk : List UInt8) (name : ByteArray) (ptl : List ByteArray) (prm tck : List UInt8) (ea ag : Bool) (li : Int) (hrnd : rnd.length = 16) (hshr : shr.length = 16) (hbnd : bnd.length = 16) (hmrk : mrk.length = 16) (most : Nat) (w0 : World) (hpl : ptl.length ≤ 1048576) (hpt : SsA w0 q1 c1 ptl) : Calls Try.prog 18 #[.agg ([.int .i64 kd] ++ hcells rnd ++ hcells shr ++ [.string name, .slice q1 ptl.length c1, .slice q2 prm.length c2, .slice q3 tck.length c3] ++ hcells bnd ++ [.bool ea, .bool ag] ++ hcells mrk ++ [.int .i64 li] : List Value).toArray, .int .i64 (most : Int)] w0 fun e w' => e = .returned (.bool (decide (1 ≤ ptl.length ∧ ptl.length ≤ most ∧ oddN ptl = 0 ∧ prm.length ≤ 4096))) ∧ Ext w0 w' := by
  refine enter Try.func18 rfl rfl rfl ?_
  intro a hS
  have hH := Hp.start w0 (Nobody)
  obtain ⟨r0, r1, r2, r3, r4, r5, r6, r7, r8, r9, ra, rb, rc, rd, re, rf, rfl⟩ := len16 hrnd
  obtain ⟨s0, s1, s2, s3, s4, s5, s6, s7, s8, s9, sa, sb, sc, sd, se, sf, rfl⟩ := len16 hshr
  obtain ⟨n0, n1, n2, n3, n4, n5, n6, n7, n8, n9, na, nb, nc, nd, ne, nf, rfl⟩ := len16 hbnd
  obtain ⟨m0, m1, m2, m3, m4, m5, m6, m7, m8, m9, ma, mb, mc, md, me, mf, rfl⟩ := len16 hmrk
  refine c_seq ?_
  refine reg_plain w0 (Nobody) ?_
  refine r_box hS hH (by repeat (first | exact Sub.nil | refine Sub.cons ?_ ?_ | exact In.here | refine In.there ?_)) rfl rfl rfl ?_
  clear hS hH; intro a w b2 hb2 hwb2 hS hH
  refine r_assign hS hH.kp0 rfl rfl ?_; clear hS; intro a hS
  refine Sq.nil ?_
  refine then_n ?_
  refine c_seq ?_
  refine reg_plain w0 (Nobody) ?_
  refine r_assign hS hH.kp0 rfl rfl ?_; clear hS; intro a hS
  refine Sq.nil ?_
  refine then_n ?_
  refine c_seq ?_
  refine reg_plain w0 (Nobody) ?_
  refine r_fieldAddr hS hH.kp0 rfl Fc.fo27_4 rfl ?_; clear hS; intro a hS
  refine r_load_sc hS hH (by repeat (first | exact Sub.nil | refine Sub.cons ?_ ?_ | exact In.here | refine In.there ?_)) rfl (by repeat (first | exact In.here | refine In.there ?_)) Fc.sc24 (by rfl) rfl ?_; clear hS; intro a hS
  refine r_lenSl hS hH.kp0 rfl Fc.isSlice24 rfl ?_; clear hS; intro a hS
  refine r_geq hS hH.kp0 rfl rfl rfl ?_; clear hS; intro a hS
  rcases (by omega : ptl.length < 1 ∨ (1 ≤ ptl.length ∧ most < ptl.length) ∨ (1 ≤ ptl.length ∧ ptl.length ≤ most)) with hp | ⟨hp, hp2⟩ | ⟨hp, hp2⟩
  · refine r_move hS hH.kp0 rfl rfl ?_; clear hS; intro a hS
    refine Sq.guardNo hS rfl rfl (DF (by omega)) hH.kp0 rfl ?_; clear hS; intro a hS
    refine Sq.guardNo hS rfl rfl (DF (by omega)) hH.kp0 rfl ?_; clear hS; intro a hS
    refine Sq.guardNo hS rfl rfl (DF (by omega)) hH.kp0 rfl ?_; clear hS; intro a hS
    refine Sq.guardNo hS rfl rfl (DF (by omega)) hH.kp0 rfl ?_; clear hS; intro a hS
    refine Sq.guardNo hS rfl rfl (DF (by omega)) hH.kp0 rfl ?_; clear hS; intro a hS
    refine r_pickF hS hH.kp0 rfl (DF (by omega)) rfl rfl ?_; clear hS; intro a hS
    refine r_move hS hH.kp0 rfl rfl ?_; clear hS; intro a hS
    refine Sq.guardNo hS rfl rfl rfl hH.kp0 rfl ?_; clear hS; intro a hS
    refine Sq.guardNo hS rfl rfl rfl hH.kp0 rfl ?_; clear hS; intro a hS
    refine Sq.guardNo hS rfl rfl rfl hH.kp0 rfl ?_; clear hS; intro a hS
    refine Sq.guardNo hS rfl rfl rfl hH.kp0 rfl ?_; clear hS; intro a hS
    refine Sq.guardNo hS rfl rfl rfl hH.kp0 rfl ?_; clear hS; intro a hS
    refine r_pickF hS hH.kp0 rfl rfl rfl rfl ?_; clear hS; intro a hS
    refine r_move hS hH.kp0 rfl rfl ?_; clear hS; intro a hS
    refine Sq.guardNo hS rfl rfl rfl hH.kp0 rfl ?_; clear hS; intro a hS
    refine Sq.guardNo hS rfl rfl rfl hH.kp0 rfl ?_; clear hS; intro a hS
    refine Sq.guardNo hS rfl rfl rfl hH.kp0 rfl ?_; clear hS; intro a hS
    refine Sq.guardNo hS rfl rfl rfl hH.kp0 rfl ?_; clear hS; intro a hS
    refine r_pickF hS hH.kp0 rfl rfl rfl rfl ?_; clear hS; intro a hS
    refine r_assign hS hH.kp0 rfl rfl ?_; clear hS; intro a hS
    refine Sq.nil ?_
    refine then_n ?_
    refine wp_ret ?_
    refine leave (.inl rfl) hS rfl (Res.tmp rfl Res.nil) ⟨congrArg (fun z => Ending.returned (Value.bool z)) ?_, hH.mod⟩
    first | exact (DF (by omega)).symm | exact (DT (by omega)).symm | exact decide_eq_decide.2 (by omega)
  · refine r_move hS hH.kp0 rfl rfl ?_; clear hS; intro a hS
    refine Sq.guardYes hS rfl rfl (DT (by omega)) ?_; refine r_fieldAddr hS hH.kp0 rfl Fc.fo27_4 rfl ?_; clear hS; intro a hS
    refine Sq.guardYes hS rfl rfl (DT (by omega)) ?_; refine r_load_sc hS hH (by repeat (first | exact Sub.nil | refine Sub.cons ?_ ?_ | exact In.here | refine In.there ?_)) rfl (by repeat (first | exact In.here | refine In.there ?_)) Fc.sc24 (by rfl) rfl ?_; clear hS; intro a hS
    refine Sq.guardYes hS rfl rfl (DT (by omega)) ?_; refine r_lenSl hS hH.kp0 rfl Fc.isSlice24 rfl ?_; clear hS; intro a hS
    refine Sq.guardYes hS rfl rfl (DT (by omega)) ?_; refine r_move hS hH.kp0 rfl rfl ?_; clear hS; intro a hS
    refine Sq.guardYes hS rfl rfl (DT (by omega)) ?_; refine r_leq hS hH.kp0 rfl rfl rfl ?_; clear hS; intro a hS
    refine r_pickT hS hH.kp0 rfl (DT (by omega)) rfl rfl ?_; clear hS; intro a hS
    refine r_move hS hH.kp0 rfl rfl ?_; clear hS; intro a hS
    refine Sq.guardNo hS rfl rfl (DF (by omega)) hH.kp0 rfl ?_; clear hS; intro a hS
    refine Sq.guardNo hS rfl rfl (DF (by omega)) hH.kp0 rfl ?_; clear hS; intro a hS
    refine Sq.guardNo hS rfl rfl (DF (by omega)) hH.kp0 rfl ?_; clear hS; intro a hS
    refine Sq.guardNo hS rfl rfl (DF (by omega)) hH.kp0 rfl ?_; clear hS; intro a hS
    refine Sq.guardNo hS rfl rfl (DF (by omega)) hH.kp0 rfl ?_; clear hS; intro a hS
    refine r_pickF hS hH.kp0 rfl (DF (by omega)) rfl rfl ?_; clear hS; intro a hS
    refine r_move hS hH.kp0 rfl rfl ?_; clear hS; intro a hS
    refine Sq.guardNo hS rfl rfl rfl hH.kp0 rfl ?_; clear hS; intro a hS
    refine Sq.guardNo hS rfl rfl rfl hH.kp0 rfl ?_; clear hS; intro a hS
    refine Sq.guardNo hS rfl rfl rfl hH.kp0 rfl ?_; clear hS; intro a hS
    refine Sq.guardNo hS rfl rfl rfl hH.kp0 rfl ?_; clear hS; intro a hS
    refine r_pickF hS hH.kp0 rfl rfl rfl rfl ?_; clear hS; intro a hS
    refine r_assign hS hH.kp0 rfl rfl ?_; clear hS; intro a hS
    refine Sq.nil ?_
    refine then_n ?_
    refine wp_ret ?_
    refine leave (.inl rfl) hS rfl (Res.tmp rfl Res.nil) ⟨congrArg (fun z => Ending.returned (Value.bool z)) ?_, hH.mod⟩
    first | exact (DF (by omega)).symm | exact (DT (by omega)).symm | exact decide_eq_decide.2 (by omega)
  · refine r_move hS hH.kp0 rfl rfl ?_; clear hS; intro a hS
    refine Sq.guardYes hS rfl rfl (DT (by omega)) ?_; refine r_fieldAddr hS hH.kp0 rfl Fc.fo27_4 rfl ?_; clear hS; intro a hS
    refine Sq.guardYes hS rfl rfl (DT (by omega)) ?_; refine r_load_sc hS hH (by repeat (first | exact Sub.nil | refine Sub.cons ?_ ?_ | exact In.here | refine In.there ?_)) rfl (by repeat (first | exact In.here | refine In.there ?_)) Fc.sc24 (by rfl) rfl ?_; clear hS; intro a hS
    refine Sq.guardYes hS rfl rfl (DT (by omega)) ?_; refine r_lenSl hS hH.kp0 rfl Fc.isSlice24 rfl ?_; clear hS; intro a hS
    refine Sq.guardYes hS rfl rfl (DT (by omega)) ?_; refine r_move hS hH.kp0 rfl rfl ?_; clear hS; intro a hS
    refine Sq.guardYes hS rfl rfl (DT (by omega)) ?_; refine r_leq hS hH.kp0 rfl rfl rfl ?_; clear hS; intro a hS
    refine r_pickT hS hH.kp0 rfl (DT (by omega)) rfl rfl ?_; clear hS; intro a hS
    refine r_move hS hH.kp0 rfl rfl ?_; clear hS; intro a hS
    rcases (by omega : oddN ptl = 0 ∨ 0 < oddN ptl) with ho | ho
    · refine Sq.guardYes hS rfl rfl (DT (by omega)) ?_; refine r_fieldAddr hS hH.kp0 rfl Fc.fo27_4 rfl ?_; clear hS; intro a hS
      refine Sq.guardYes hS rfl rfl (DT (by omega)) ?_; refine r_load_sc hS hH (by repeat (first | exact Sub.nil | refine Sub.cons ?_ ?_ | exact In.here | refine In.there ?_)) rfl (by repeat (first | exact In.here | refine In.there ?_)) Fc.sc24 (by rfl) rfl ?_; clear hS; intro a hS
      refine Sq.guardYes hS rfl rfl (DT (by omega)) ?_; refine r_move hS hH.kp0 rfl rfl ?_; clear hS; intro a hS
      refine Sq.guardYes hS rfl rfl (DT (by omega)) ?_; refine r_call (l := [.tmp 19, .tmp 20]) hS rfl rfl Fc.fn27 rfl ?_; refine Calls.mono (ContainsFunc_c q1 c1 ptl (by omega) _ (hpt.ext hH.mod)) ?_; rintro e w1 ⟨rfl, hE⟩; replace hH := hH.ext hE; refine ⟨_, rfl, hH.kp0, ?_⟩; clear hS; intro a hS
      rw [show decide (0 < oddN ptl) = false from DF (by omega)] at hS
      refine Sq.guardYes hS rfl rfl (DT (by omega)) ?_; refine r_not hS hH.kp0 rfl rfl ?_; clear hS; intro a hS
      refine r_pickT hS hH.kp0 rfl (DT (by omega)) rfl rfl ?_; clear hS; intro a hS
      refine r_move hS hH.kp0 rfl rfl ?_; clear hS; intro a hS
      refine Sq.guardYes hS rfl rfl rfl ?_; refine r_fieldAddr hS hH.kp0 rfl Fc.fo27_5 rfl ?_; clear hS; intro a hS
      refine Sq.guardYes hS rfl rfl rfl ?_; refine r_load_sc hS hH (by repeat (first | exact Sub.nil | refine Sub.cons ?_ ?_ | exact In.here | refine In.there ?_)) rfl (by repeat (first | exact In.here | refine In.there ?_)) Fc.sc25 (by rfl) rfl ?_; clear hS; intro a hS
      refine Sq.guardYes hS rfl rfl rfl ?_; refine r_lenSl hS hH.kp0 rfl Fc.isSlice25 rfl ?_; clear hS; intro a hS
      refine Sq.guardYes hS rfl rfl rfl ?_; refine r_leq hS hH.kp0 rfl rfl rfl ?_; clear hS; intro a hS
      refine r_pickT hS hH.kp0 rfl rfl rfl rfl ?_; clear hS; intro a hS
      refine r_assign hS hH.kp0 rfl rfl ?_; clear hS; intro a hS
      refine Sq.nil ?_
      refine then_n ?_
      refine wp_ret ?_
      refine leave (.inl rfl) hS rfl (Res.tmp rfl Res.nil) ⟨congrArg (fun z => Ending.returned (Value.bool z)) ?_, hH.mod⟩
      first | exact (DF (by omega)).symm | exact (DT (by omega)).symm | exact decide_eq_decide.2 (by omega)
    · refine Sq.guardYes hS rfl rfl (DT (by omega)) ?_; refine r_fieldAddr hS hH.kp0 rfl Fc.fo27_4 rfl ?_; clear hS; intro a hS
      refine Sq.guardYes hS rfl rfl (DT (by omega)) ?_; refine r_load_sc hS hH (by repeat (first | exact Sub.nil | refine Sub.cons ?_ ?_ | exact In.here | refine In.there ?_)) rfl (by repeat (first | exact In.here | refine In.there ?_)) Fc.sc24 (by rfl) rfl ?_; clear hS; intro a hS
      refine Sq.guardYes hS rfl rfl (DT (by omega)) ?_; refine r_move hS hH.kp0 rfl rfl ?_; clear hS; intro a hS
      refine Sq.guardYes hS rfl rfl (DT (by omega)) ?_; refine r_call (l := [.tmp 19, .tmp 20]) hS rfl rfl Fc.fn27 rfl ?_; refine Calls.mono (ContainsFunc_c q1 c1 ptl (by omega) _ (hpt.ext hH.mod)) ?_; rintro e w1 ⟨rfl, hE⟩; replace hH := hH.ext hE; refine ⟨_, rfl, hH.kp0, ?_⟩; clear hS; intro a hS
      rw [show decide (0 < oddN ptl) = true from DT ho] at hS
      refine Sq.guardYes hS rfl rfl (DT (by omega)) ?_; refine r_not hS hH.kp0 rfl rfl ?_; clear hS; intro a hS
      refine r_pickT hS hH.kp0 rfl (DT (by omega)) rfl rfl ?_; clear hS; intro a hS
      refine r_move hS hH.kp0 rfl rfl ?_; clear hS; intro a hS
      refine Sq.guardNo hS rfl rfl rfl hH.kp0 rfl ?_; clear hS; intro a hS
      refine Sq.guardNo hS rfl rfl rfl hH.kp0 rfl ?_; clear hS; intro a hS
      refine Sq.guardNo hS rfl rfl rfl hH.kp0 rfl ?_; clear hS; intro a hS
      refine Sq.guardNo hS rfl rfl rfl hH.kp0 rfl ?_; clear hS; intro a hS
      refine r_pickF hS hH.kp0 rfl rfl rfl rfl ?_; clear hS; intro a hS
      refine r_assign hS hH.kp0 rfl rfl ?_; clear hS; intro a hS
      refine Sq.nil ?_
      refine then_n ?_
      refine wp_ret ?_
      refine leave (.inl rfl) hS rfl (Res.tmp rfl Res.nil) ⟨congrArg (fun z => Ending.returned (Value.bool z)) ?_, hH.mod⟩
      first | exact (DF (by omega)).symm | exact (DT (by omega)).symm | exact decide_eq_decide.2 (by omega)

end Go.Proofs.Ytcenionnedgadaa

namespace Go.Proofs.Ytcenionnedgadaa
open Go.Sym
theorem Fc.arrH : ByteArr Try.prog 23 16 := byteArr_mk Fc.laid (of_decide_eq_true (by kernel_rfl)) (by kernel_rfl) (by kernel_rfl) (by kernel_rfl) (by kernel_rfl) (by kernel_rfl)

theorem Fc.ag23 : agB Try.prog 23 = some 16 := by kernel_rfl
theorem Fc.ag27 : agB Try.prog 27 = some 72 := by kernel_rfl
theorem Fc.fn18 : isFn Try.prog 18 = true := by kernel_rfl
theorem Fc.fo27_0 : foff Try.prog 27 0 = some 0 := by kernel_rfl
theorem Fc.fo27_11 : foff Try.prog 27 11 = some 71 := by kernel_rfl
theorem Fc.fo27_3 : foff Try.prog 27 3 = some 33 := by kernel_rfl
theorem Fc.fo27_6 : foff Try.prog 27 6 = some 36 := by kernel_rfl
theorem Fc.fo27_7 : foff Try.prog 27 7 = some 37 := by kernel_rfl
theorem Fc.fo27_8 : foff Try.prog 27 8 = some 53 := by kernel_rfl
theorem Fc.sc3 : scB Try.prog 3 = true := by kernel_rfl
theorem Fc.zc23 : zcB Try.prog 23 = some [.int .u8 0, .int .u8 0, .int .u8 0, .int .u8 0, .int .u8 0, .int .u8 0, .int .u8 0, .int .u8 0, .int .u8 0, .int .u8 0, .int .u8 0, .int .u8 0, .int .u8 0, .int .u8 0, .int .u8 0, .int .u8 0] := by kernel_rfl
set_option maxRecDepth 100000 in
set_option maxHeartbeats 2000000 in
theorem right_1 (q1 q2 q3 : Option Addr) (c1 c2 c3 : Nat) (rnd shr bnd mrk : List UInt8) (name : ByteArray) (ptl : List ByteArray) (prm tck : List UInt8) (ea ag : Bool) (li : Int) (hrnd : rnd.length = 16) (hshr : shr.length = 16) (hbnd : bnd.length = 16) (hmrk : mrk.length = 16) (w0 : World) (hpl : ptl.length ≤ 1048576) (hpt : SsA w0 q1 c1 ptl) : Calls Try.prog 11 #[.agg ([.int .i64 1] ++ hcells rnd ++ hcells shr ++ [.string name, .slice q1 ptl.length c1, .slice q2 prm.length c2, .slice q3 tck.length c3] ++ hcells bnd ++ [.bool ea, .bool ag] ++ hcells mrk ++ [.int .i64 li] : List Value).toArray] w0 fun e w' => e = .returned (.bool (decide (mayM 1 name.size ptl.length prm.length tck.length (bzN ea bnd) (oddN ptl) li))) ∧ Ext w0 w' := by
  refine enter Try.func11 rfl rfl rfl ?_
  intro a hS
  have hH := Hp.start w0 (Nobody)
  obtain ⟨r0, r1, r2, r3, r4, r5, r6, r7, r8, r9, ra, rb, rc, rd, re, rf, rfl⟩ := len16 hrnd
  obtain ⟨s0, s1, s2, s3, s4, s5, s6, s7, s8, s9, sa, sb, sc, sd, se, sf, rfl⟩ := len16 hshr
  obtain ⟨n0, n1, n2, n3, n4, n5, n6, n7, n8, n9, na, nb, nc, nd, ne, nf, rfl⟩ := len16 hbnd
  obtain ⟨m0, m1, m2, m3, m4, m5, m6, m7, m8, m9, ma, mb, mc, md, me, mf, rfl⟩ := len16 hmrk
  refine c_seq ?_
  refine reg_plain w0 (Nobody) ?_
  refine r_box hS hH (by repeat (first | exact Sub.nil | refine Sub.cons ?_ ?_ | exact In.here | refine In.there ?_)) rfl rfl rfl ?_
  clear hS hH; intro a w b1 hb1 hwb1 hS hH
  refine r_assign hS hH.kp0 rfl rfl ?_; clear hS; intro a hS
  refine Sq.nil ?_
  refine then_n ?_
  refine c_seq ?_
  refine c_seq ?_
  refine reg_plain w0 (Nobody) ?_
  refine r_fieldAddr hS hH.kp0 rfl Fc.fo27_0 rfl ?_; clear hS; intro a hS
  refine r_load_sc hS hH (by repeat (first | exact Sub.nil | refine Sub.cons ?_ ?_ | exact In.here | refine In.there ?_)) rfl (by repeat (first | exact In.here | refine In.there ?_)) Fc.sc3 (by rfl) rfl ?_; clear hS; intro a hS
  refine Sq.nil ?_
  refine then_n ?_
  refine wp_block ?_
  refine c_seq ?_
  refine reg_plain w0 (Nobody) ?_
  refine r_eql hS hH.kp0 rfl rfl rfl ?_; clear hS; intro a hS
  refine r_assign hS hH.kp0 rfl rfl ?_; clear hS; intro a hS
  refine Sq.nil ?_
  refine then_n ?_
  refine c_condT hS rfl rfl ?_
  refine c_seq ?_
  refine c_seq ?_
  refine reg_plain w0 (Nobody) ?_
  refine r_fieldAddr hS hH.kp0 rfl Fc.fo27_6 rfl ?_; clear hS; intro a hS
  refine r_load_sc hS hH (by repeat (first | exact Sub.nil | refine Sub.cons ?_ ?_ | exact In.here | refine In.there ?_)) rfl (by repeat (first | exact In.here | refine In.there ?_)) Fc.sc25 (by rfl) rfl ?_; clear hS; intro a hS
  refine r_lenSl hS hH.kp0 rfl Fc.isSlice25 rfl ?_; clear hS; intro a hS
  refine r_eql hS hH.kp0 rfl rfl rfl ?_; clear hS; intro a hS
  rcases (by omega : 1 ≤ tck.length ∨ tck.length = 0) with ht | ht
  · refine r_move hS hH.kp0 rfl rfl ?_; clear hS; intro a hS
    refine Sq.guardNo hS rfl rfl (DF (by omega)) hH.kp0 rfl ?_; clear hS; intro a hS
    refine Sq.guardNo hS rfl rfl (DF (by omega)) hH.kp0 rfl ?_; clear hS; intro a hS
    refine Sq.guardNo hS rfl rfl (DF (by omega)) hH.kp0 rfl ?_; clear hS; intro a hS
    refine Sq.guardOff hS rfl rfl hH.kp0 rfl ?_; clear hS; intro a hS
    refine Sq.guardOff hS rfl rfl hH.kp0 rfl ?_; clear hS; intro a hS
    refine Sq.guardOff hS rfl rfl hH.kp0 rfl ?_; clear hS; intro a hS
    refine Sq.guardOff hS rfl rfl hH.kp0 rfl ?_; clear hS; intro a hS
    refine Sq.guardNo hS rfl rfl (DF (by omega)) hH.kp0 rfl ?_; clear hS; intro a hS
    refine r_pickF hS hH.kp0 rfl (DF (by omega)) rfl rfl ?_; clear hS; intro a hS
    refine Sq.nil ?_
    refine then_n ?_
    refine c_condF hS rfl rfl ?_
    refine wp_skip ?_
    refine then_n ?_
    refine c_seq ?_
    refine reg_plain w0 (Nobody) ?_
    refine r_load_row hS hH (by repeat (first | exact Sub.nil | refine Sub.cons ?_ ?_ | exact In.here | refine In.there ?_)) rfl (by repeat (first | exact In.here | refine In.there ?_)) Fc.ag27 (by rfl) rfl ?_; clear hS; intro a hS
    refine r_call (l := [.tmp 21, .const (.int .i64 8)]) hS rfl rfl Fc.fn18 rfl ?_
    refine Calls.mono (named_c (1) q1 q2 q3 c1 c2 c3 _ _ _ _ name ptl prm tck _ ag li hrnd hshr hbnd hmrk 8 _ hpl (hpt.ext hH.mod)) ?_
    rintro e w1 ⟨rfl, hE⟩
    replace hH := hH.ext hE
    refine ⟨_, rfl, hH.kp0, ?_⟩
    clear hS; intro a hS
    rcases (by omega : ¬ (1 ≤ ptl.length ∧ ptl.length ≤ 8 ∧ oddN ptl = 0 ∧ prm.length ≤ 4096) ∨ ((1 ≤ ptl.length ∧ ptl.length ≤ 8 ∧ oddN ptl = 0 ∧ prm.length ≤ 4096) ∧ 255 < name.size) ∨ ((1 ≤ ptl.length ∧ ptl.length ≤ 8 ∧ oddN ptl = 0 ∧ prm.length ≤ 4096) ∧ name.size ≤ 255)) with hN | ⟨hN, hn⟩ | ⟨hN, hn⟩
    · refine r_move hS hH.kp0 rfl rfl ?_; clear hS; intro a hS
      refine Sq.guardNo hS rfl rfl (DF (by omega)) hH.kp0 rfl ?_; clear hS; intro a hS
      refine Sq.guardNo hS rfl rfl (DF (by omega)) hH.kp0 rfl ?_; clear hS; intro a hS
      refine Sq.guardNo hS rfl rfl (DF (by omega)) hH.kp0 rfl ?_; clear hS; intro a hS
      refine Sq.guardNo hS rfl rfl (DF (by omega)) hH.kp0 rfl ?_; clear hS; intro a hS
      refine r_pickF hS hH.kp0 rfl (DF (by omega)) rfl rfl ?_; clear hS; intro a hS
      refine r_move hS hH.kp0 rfl rfl ?_; clear hS; intro a hS
      refine Sq.guardNo hS rfl rfl rfl hH.kp0 rfl ?_; clear hS; intro a hS
      refine Sq.guardNo hS rfl rfl rfl hH.kp0 rfl ?_; clear hS; intro a hS
      refine Sq.guardNo hS rfl rfl rfl hH.kp0 rfl ?_; clear hS; intro a hS
      refine Sq.guardNo hS rfl rfl rfl hH.kp0 rfl ?_; clear hS; intro a hS
      refine r_pickF hS hH.kp0 rfl rfl rfl rfl ?_; clear hS; intro a hS
      refine r_assign hS hH.kp0 rfl rfl ?_; clear hS; intro a hS
      refine Sq.nil ?_
      refine then_n ?_
      refine wp_ret ?_
      refine blk_r ?_
      refine then_r ?_
      refine leave (.inl rfl) hS rfl (Res.tmp rfl Res.nil) ⟨congrArg (fun z => Ending.returned (Value.bool z)) ?_, hH.mod⟩
      first | exact (DF (by unfold mayM; omega)).symm | exact (DT (by unfold mayM; omega)).symm | exact decide_eq_decide.2 (by unfold mayM; omega)
    · refine r_move hS hH.kp0 rfl rfl ?_; clear hS; intro a hS
      refine Sq.guardYes hS rfl rfl (DT (by omega)) ?_; refine r_fieldAddr hS hH.kp0 rfl Fc.fo27_3 rfl ?_; clear hS; intro a hS
      refine Sq.guardYes hS rfl rfl (DT (by omega)) ?_; refine r_load_sc hS hH (by repeat (first | exact Sub.nil | refine Sub.cons ?_ ?_ | exact In.here | refine In.there ?_)) rfl (by repeat (first | exact In.here | refine In.there ?_)) Fc.sc9 (by rfl) rfl ?_; clear hS; intro a hS
      refine Sq.guardYes hS rfl rfl (DT (by omega)) ?_; refine r_lenStr hS hH.kp0 rfl Fc.isStr9 rfl ?_; clear hS; intro a hS
      refine Sq.guardYes hS rfl rfl (DT (by omega)) ?_; refine r_leq hS hH.kp0 rfl rfl rfl ?_; clear hS; intro a hS
      refine r_pickT hS hH.kp0 rfl (DT (by omega)) rfl rfl ?_; clear hS; intro a hS
      refine r_move hS hH.kp0 rfl rfl ?_; clear hS; intro a hS
      refine Sq.guardNo hS rfl rfl (DF (by omega)) hH.kp0 rfl ?_; clear hS; intro a hS
      refine Sq.guardNo hS rfl rfl (DF (by omega)) hH.kp0 rfl ?_; clear hS; intro a hS
      refine Sq.guardNo hS rfl rfl (DF (by omega)) hH.kp0 rfl ?_; clear hS; intro a hS
      refine Sq.guardNo hS rfl rfl (DF (by omega)) hH.kp0 rfl ?_; clear hS; intro a hS
      refine r_pickF hS hH.kp0 rfl (DF (by omega)) rfl rfl ?_; clear hS; intro a hS
      refine r_assign hS hH.kp0 rfl rfl ?_; clear hS; intro a hS
      refine Sq.nil ?_
      refine then_n ?_
      refine wp_ret ?_
      refine blk_r ?_
      refine then_r ?_
      refine leave (.inl rfl) hS rfl (Res.tmp rfl Res.nil) ⟨congrArg (fun z => Ending.returned (Value.bool z)) ?_, hH.mod⟩
      first | exact (DF (by unfold mayM; omega)).symm | exact (DT (by unfold mayM; omega)).symm | exact decide_eq_decide.2 (by unfold mayM; omega)
    · refine r_move hS hH.kp0 rfl rfl ?_; clear hS; intro a hS
      refine Sq.guardYes hS rfl rfl (DT (by omega)) ?_; refine r_fieldAddr hS hH.kp0 rfl Fc.fo27_3 rfl ?_; clear hS; intro a hS
      refine Sq.guardYes hS rfl rfl (DT (by omega)) ?_; refine r_load_sc hS hH (by repeat (first | exact Sub.nil | refine Sub.cons ?_ ?_ | exact In.here | refine In.there ?_)) rfl (by repeat (first | exact In.here | refine In.there ?_)) Fc.sc9 (by rfl) rfl ?_; clear hS; intro a hS
      refine Sq.guardYes hS rfl rfl (DT (by omega)) ?_; refine r_lenStr hS hH.kp0 rfl Fc.isStr9 rfl ?_; clear hS; intro a hS
      refine Sq.guardYes hS rfl rfl (DT (by omega)) ?_; refine r_leq hS hH.kp0 rfl rfl rfl ?_; clear hS; intro a hS
      refine r_pickT hS hH.kp0 rfl (DT (by omega)) rfl rfl ?_; clear hS; intro a hS
      refine r_move hS hH.kp0 rfl rfl ?_; clear hS; intro a hS
      refine Sq.guardYes hS rfl rfl (DT (by omega)) ?_; refine r_fieldAddr hS hH.kp0 rfl Fc.fo27_6 rfl ?_; clear hS; intro a hS
      refine Sq.guardYes hS rfl rfl (DT (by omega)) ?_; refine r_load_sc hS hH (by repeat (first | exact Sub.nil | refine Sub.cons ?_ ?_ | exact In.here | refine In.there ?_)) rfl (by repeat (first | exact In.here | refine In.there ?_)) Fc.sc25 (by rfl) rfl ?_; clear hS; intro a hS
      refine Sq.guardYes hS rfl rfl (DT (by omega)) ?_; refine r_lenSl hS hH.kp0 rfl Fc.isSlice25 rfl ?_; clear hS; intro a hS
      refine Sq.guardYes hS rfl rfl (DT (by omega)) ?_; refine r_leq hS hH.kp0 rfl rfl rfl ?_; clear hS; intro a hS
      refine r_pickT hS hH.kp0 rfl (DT (by omega)) rfl rfl ?_; clear hS; intro a hS
      refine r_assign hS hH.kp0 rfl rfl ?_; clear hS; intro a hS
      refine Sq.nil ?_
      refine then_n ?_
      refine wp_ret ?_
      refine blk_r ?_
      refine then_r ?_
      refine leave (.inl rfl) hS rfl (Res.tmp rfl Res.nil) ⟨congrArg (fun z => Ending.returned (Value.bool z)) ?_, hH.mod⟩
      first | exact (DF (by unfold mayM; omega)).symm | exact (DT (by unfold mayM; omega)).symm | exact decide_eq_decide.2 (by unfold mayM; omega)
  · refine r_move hS hH.kp0 rfl rfl ?_; clear hS; intro a hS
    refine Sq.guardYes hS rfl rfl (DT (by omega)) ?_; refine r_fieldAddr hS hH.kp0 rfl Fc.fo27_8 rfl ?_; clear hS; intro a hS
    refine Sq.guardYes hS rfl rfl (DT (by omega)) ?_; refine r_load_sc hS hH (by repeat (first | exact Sub.nil | refine Sub.cons ?_ ?_ | exact In.here | refine In.there ?_)) rfl (by repeat (first | exact In.here | refine In.there ?_)) Fc.sc4 (by rfl) rfl ?_; clear hS; intro a hS
    cases ea
    · refine Sq.guardYes hS rfl rfl (DT (by omega)) ?_; refine r_move hS hH.kp0 rfl rfl ?_; clear hS; intro a hS
      refine Sq.guardYes hS rfl rfl rfl ?_; refine r_fieldAddr hS hH.kp0 rfl Fc.fo27_7 rfl ?_; clear hS; intro a hS
      refine Sq.guardYes hS rfl rfl rfl ?_; refine r_load_ag hS hH (by repeat (first | exact Sub.nil | refine Sub.cons ?_ ?_ | exact In.here | refine In.there ?_)) rfl (by repeat (first | exact In.here | refine In.there ?_)) Fc.ag23 (of_decide_eq_true rfl) rfl ?_; clear hS; intro a hS
      refine Sq.guardYes hS rfl rfl rfl ?_; refine r_buildA (parts := []) hS hH.kp0 rfl rfl Fc.zc23 Fc.ar23 (by rfl) ?_; clear hS; intro a hS
      refine Sq.guardYes hS rfl rfl rfl ?_; refine r_arrNeq (h := [n0, n1, n2, n3, n4, n5, n6, n7, n8, n9, na, nb, nc, nd, ne, nf]) (g := z16) Fc.arrH hS hH.kp0 rfl rfl rfl rfl rfl ?_; clear hS; intro a hS
      by_cases hbz : [n0, n1, n2, n3, n4, n5, n6, n7, n8, n9, na, nb, nc, nd, ne, nf] = z16
      · have hbq : bzN false [n0, n1, n2, n3, n4, n5, n6, n7, n8, n9, na, nb, nc, nd, ne, nf] = 0 := if_neg (by simp [hbz])
        rw [show decide ([n0, n1, n2, n3, n4, n5, n6, n7, n8, n9, na, nb, nc, nd, ne, nf] = z16) = true from DT hbz] at hS
        refine Sq.guardYes hS rfl rfl (DT (by omega)) ?_; refine r_pickF hS hH.kp0 rfl rfl rfl rfl ?_; clear hS; intro a hS
        refine r_pickT hS hH.kp0 rfl (DT (by omega)) rfl rfl ?_; clear hS; intro a hS
        refine Sq.nil ?_
        refine then_n ?_
        refine c_condF hS rfl rfl ?_
        refine wp_skip ?_
        refine then_n ?_
        refine c_seq ?_
        refine reg_plain w0 (Nobody) ?_
        refine r_load_row hS hH (by repeat (first | exact Sub.nil | refine Sub.cons ?_ ?_ | exact In.here | refine In.there ?_)) rfl (by repeat (first | exact In.here | refine In.there ?_)) Fc.ag27 (by rfl) rfl ?_; clear hS; intro a hS
        refine r_call (l := [.tmp 21, .const (.int .i64 8)]) hS rfl rfl Fc.fn18 rfl ?_
        refine Calls.mono (named_c (1) q1 q2 q3 c1 c2 c3 _ _ _ _ name ptl prm tck _ ag li hrnd hshr hbnd hmrk 8 _ hpl (hpt.ext hH.mod)) ?_
        rintro e w1 ⟨rfl, hE⟩
        replace hH := hH.ext hE
        refine ⟨_, rfl, hH.kp0, ?_⟩
        clear hS; intro a hS
        rcases (by omega : ¬ (1 ≤ ptl.length ∧ ptl.length ≤ 8 ∧ oddN ptl = 0 ∧ prm.length ≤ 4096) ∨ ((1 ≤ ptl.length ∧ ptl.length ≤ 8 ∧ oddN ptl = 0 ∧ prm.length ≤ 4096) ∧ 255 < name.size) ∨ ((1 ≤ ptl.length ∧ ptl.length ≤ 8 ∧ oddN ptl = 0 ∧ prm.length ≤ 4096) ∧ name.size ≤ 255)) with hN | ⟨hN, hn⟩ | ⟨hN, hn⟩
        · refine r_move hS hH.kp0 rfl rfl ?_; clear hS; intro a hS
          refine Sq.guardNo hS rfl rfl (DF (by omega)) hH.kp0 rfl ?_; clear hS; intro a hS
          refine Sq.guardNo hS rfl rfl (DF (by omega)) hH.kp0 rfl ?_; clear hS; intro a hS
          refine Sq.guardNo hS rfl rfl (DF (by omega)) hH.kp0 rfl ?_; clear hS; intro a hS
          refine Sq.guardNo hS rfl rfl (DF (by omega)) hH.kp0 rfl ?_; clear hS; intro a hS
          refine r_pickF hS hH.kp0 rfl (DF (by omega)) rfl rfl ?_; clear hS; intro a hS
          refine r_move hS hH.kp0 rfl rfl ?_; clear hS; intro a hS
          refine Sq.guardNo hS rfl rfl rfl hH.kp0 rfl ?_; clear hS; intro a hS
          refine Sq.guardNo hS rfl rfl rfl hH.kp0 rfl ?_; clear hS; intro a hS
          refine Sq.guardNo hS rfl rfl rfl hH.kp0 rfl ?_; clear hS; intro a hS
          refine Sq.guardNo hS rfl rfl rfl hH.kp0 rfl ?_; clear hS; intro a hS
          refine r_pickF hS hH.kp0 rfl rfl rfl rfl ?_; clear hS; intro a hS
          refine r_assign hS hH.kp0 rfl rfl ?_; clear hS; intro a hS
          refine Sq.nil ?_
          refine then_n ?_
          refine wp_ret ?_
          refine blk_r ?_
          refine then_r ?_
          refine leave (.inl rfl) hS rfl (Res.tmp rfl Res.nil) ⟨congrArg (fun z => Ending.returned (Value.bool z)) ?_, hH.mod⟩
          first | exact (DF (by unfold mayM; omega)).symm | exact (DT (by unfold mayM; omega)).symm | exact decide_eq_decide.2 (by unfold mayM; omega)
        · refine r_move hS hH.kp0 rfl rfl ?_; clear hS; intro a hS
          refine Sq.guardYes hS rfl rfl (DT (by omega)) ?_; refine r_fieldAddr hS hH.kp0 rfl Fc.fo27_3 rfl ?_; clear hS; intro a hS
          refine Sq.guardYes hS rfl rfl (DT (by omega)) ?_; refine r_load_sc hS hH (by repeat (first | exact Sub.nil | refine Sub.cons ?_ ?_ | exact In.here | refine In.there ?_)) rfl (by repeat (first | exact In.here | refine In.there ?_)) Fc.sc9 (by rfl) rfl ?_; clear hS; intro a hS
          refine Sq.guardYes hS rfl rfl (DT (by omega)) ?_; refine r_lenStr hS hH.kp0 rfl Fc.isStr9 rfl ?_; clear hS; intro a hS
          refine Sq.guardYes hS rfl rfl (DT (by omega)) ?_; refine r_leq hS hH.kp0 rfl rfl rfl ?_; clear hS; intro a hS
          refine r_pickT hS hH.kp0 rfl (DT (by omega)) rfl rfl ?_; clear hS; intro a hS
          refine r_move hS hH.kp0 rfl rfl ?_; clear hS; intro a hS
          refine Sq.guardNo hS rfl rfl (DF (by omega)) hH.kp0 rfl ?_; clear hS; intro a hS
          refine Sq.guardNo hS rfl rfl (DF (by omega)) hH.kp0 rfl ?_; clear hS; intro a hS
          refine Sq.guardNo hS rfl rfl (DF (by omega)) hH.kp0 rfl ?_; clear hS; intro a hS
          refine Sq.guardNo hS rfl rfl (DF (by omega)) hH.kp0 rfl ?_; clear hS; intro a hS
          refine r_pickF hS hH.kp0 rfl (DF (by omega)) rfl rfl ?_; clear hS; intro a hS
          refine r_assign hS hH.kp0 rfl rfl ?_; clear hS; intro a hS
          refine Sq.nil ?_
          refine then_n ?_
          refine wp_ret ?_
          refine blk_r ?_
          refine then_r ?_
          refine leave (.inl rfl) hS rfl (Res.tmp rfl Res.nil) ⟨congrArg (fun z => Ending.returned (Value.bool z)) ?_, hH.mod⟩
          first | exact (DF (by unfold mayM; omega)).symm | exact (DT (by unfold mayM; omega)).symm | exact decide_eq_decide.2 (by unfold mayM; omega)
        · refine r_move hS hH.kp0 rfl rfl ?_; clear hS; intro a hS
          refine Sq.guardYes hS rfl rfl (DT (by omega)) ?_; refine r_fieldAddr hS hH.kp0 rfl Fc.fo27_3 rfl ?_; clear hS; intro a hS
          refine Sq.guardYes hS rfl rfl (DT (by omega)) ?_; refine r_load_sc hS hH (by repeat (first | exact Sub.nil | refine Sub.cons ?_ ?_ | exact In.here | refine In.there ?_)) rfl (by repeat (first | exact In.here | refine In.there ?_)) Fc.sc9 (by rfl) rfl ?_; clear hS; intro a hS
          refine Sq.guardYes hS rfl rfl (DT (by omega)) ?_; refine r_lenStr hS hH.kp0 rfl Fc.isStr9 rfl ?_; clear hS; intro a hS
          refine Sq.guardYes hS rfl rfl (DT (by omega)) ?_; refine r_leq hS hH.kp0 rfl rfl rfl ?_; clear hS; intro a hS
          refine r_pickT hS hH.kp0 rfl (DT (by omega)) rfl rfl ?_; clear hS; intro a hS
          refine r_move hS hH.kp0 rfl rfl ?_; clear hS; intro a hS
          refine Sq.guardYes hS rfl rfl (DT (by omega)) ?_; refine r_fieldAddr hS hH.kp0 rfl Fc.fo27_6 rfl ?_; clear hS; intro a hS
          refine Sq.guardYes hS rfl rfl (DT (by omega)) ?_; refine r_load_sc hS hH (by repeat (first | exact Sub.nil | refine Sub.cons ?_ ?_ | exact In.here | refine In.there ?_)) rfl (by repeat (first | exact In.here | refine In.there ?_)) Fc.sc25 (by rfl) rfl ?_; clear hS; intro a hS
          refine Sq.guardYes hS rfl rfl (DT (by omega)) ?_; refine r_lenSl hS hH.kp0 rfl Fc.isSlice25 rfl ?_; clear hS; intro a hS
          refine Sq.guardYes hS rfl rfl (DT (by omega)) ?_; refine r_leq hS hH.kp0 rfl rfl rfl ?_; clear hS; intro a hS
          refine r_pickT hS hH.kp0 rfl (DT (by omega)) rfl rfl ?_; clear hS; intro a hS
          refine r_assign hS hH.kp0 rfl rfl ?_; clear hS; intro a hS
          refine Sq.nil ?_
          refine then_n ?_
          refine wp_ret ?_
          refine blk_r ?_
          refine then_r ?_
          refine leave (.inl rfl) hS rfl (Res.tmp rfl Res.nil) ⟨congrArg (fun z => Ending.returned (Value.bool z)) ?_, hH.mod⟩
          first | exact (DF (by unfold mayM; omega)).symm | exact (DT (by unfold mayM; omega)).symm | exact decide_eq_decide.2 (by unfold mayM; omega)
      · have hbq : bzN false [n0, n1, n2, n3, n4, n5, n6, n7, n8, n9, na, nb, nc, nd, ne, nf] = 1 := if_pos (.inr hbz)
        rw [show decide ([n0, n1, n2, n3, n4, n5, n6, n7, n8, n9, na, nb, nc, nd, ne, nf] = z16) = false from DF hbz] at hS
        refine Sq.guardYes hS rfl rfl (DT (by omega)) ?_; refine r_pickF hS hH.kp0 rfl rfl rfl rfl ?_; clear hS; intro a hS
        refine r_pickT hS hH.kp0 rfl (DT (by omega)) rfl rfl ?_; clear hS; intro a hS
        refine Sq.nil ?_
        refine then_n ?_
        refine c_condT hS rfl rfl ?_
        refine c_seq ?_
        refine reg_plain w0 (Nobody) ?_
        refine r_assign hS hH.kp0 rfl rfl ?_; clear hS; intro a hS
        refine Sq.nil ?_
        refine then_n ?_
        refine wp_ret ?_
        refine then_r ?_
        refine blk_r ?_
        refine then_r ?_
        refine leave (.inl rfl) hS rfl (Res.tmp rfl Res.nil) ⟨congrArg (fun z => Ending.returned (Value.bool z)) ?_, hH.mod⟩
        first | exact (DF (by unfold mayM; omega)).symm | exact (DT (by unfold mayM; omega)).symm | exact decide_eq_decide.2 (by unfold mayM; omega)
    · have hbq : bzN true [n0, n1, n2, n3, n4, n5, n6, n7, n8, n9, na, nb, nc, nd, ne, nf] = 1 := if_pos (.inl rfl)
      refine Sq.guardYes hS rfl rfl (DT (by omega)) ?_; refine r_move hS hH.kp0 rfl rfl ?_; clear hS; intro a hS
      refine Sq.guardNo hS rfl rfl rfl hH.kp0 rfl ?_; clear hS; intro a hS
      refine Sq.guardNo hS rfl rfl rfl hH.kp0 rfl ?_; clear hS; intro a hS
      refine Sq.guardNo hS rfl rfl rfl hH.kp0 rfl ?_; clear hS; intro a hS
      refine Sq.guardNo hS rfl rfl rfl hH.kp0 rfl ?_; clear hS; intro a hS
      refine Sq.guardYes hS rfl rfl (DT (by omega)) ?_; refine r_pickT hS hH.kp0 rfl rfl rfl rfl ?_; clear hS; intro a hS
      refine r_pickT hS hH.kp0 rfl (DT (by omega)) rfl rfl ?_; clear hS; intro a hS
      refine Sq.nil ?_
      refine then_n ?_
      refine c_condT hS rfl rfl ?_
      refine c_seq ?_
      refine reg_plain w0 (Nobody) ?_
      refine r_assign hS hH.kp0 rfl rfl ?_; clear hS; intro a hS
      refine Sq.nil ?_
      refine then_n ?_
      refine wp_ret ?_
      refine then_r ?_
      refine blk_r ?_
      refine then_r ?_
      refine leave (.inl rfl) hS rfl (Res.tmp rfl Res.nil) ⟨congrArg (fun z => Ending.returned (Value.bool z)) ?_, hH.mod⟩
      first | exact (DF (by unfold mayM; omega)).symm | exact (DT (by unfold mayM; omega)).symm | exact decide_eq_decide.2 (by unfold mayM; omega)

set_option maxRecDepth 100000 in
set_option maxHeartbeats 2000000 in
theorem right_4 (q1 q2 q3 : Option Addr) (c1 c2 c3 : Nat) (rnd shr bnd mrk : List UInt8) (name : ByteArray) (ptl : List ByteArray) (prm tck : List UInt8) (ea ag : Bool) (li : Int) (hrnd : rnd.length = 16) (hshr : shr.length = 16) (hbnd : bnd.length = 16) (hmrk : mrk.length = 16) (w0 : World) (hpl : ptl.length ≤ 1048576) (hpt : SsA w0 q1 c1 ptl) : Calls Try.prog 11 #[.agg ([.int .i64 4] ++ hcells rnd ++ hcells shr ++ [.string name, .slice q1 ptl.length c1, .slice q2 prm.length c2, .slice q3 tck.length c3] ++ hcells bnd ++ [.bool ea, .bool ag] ++ hcells mrk ++ [.int .i64 li] : List Value).toArray] w0 fun e w' => e = .returned (.bool (decide (mayM 4 name.size ptl.length prm.length tck.length (bzN ea bnd) (oddN ptl) li))) ∧ Ext w0 w' := by
  refine enter Try.func11 rfl rfl rfl ?_
  intro a hS
  have hH := Hp.start w0 (Nobody)
  obtain ⟨r0, r1, r2, r3, r4, r5, r6, r7, r8, r9, ra, rb, rc, rd, re, rf, rfl⟩ := len16 hrnd
  obtain ⟨s0, s1, s2, s3, s4, s5, s6, s7, s8, s9, sa, sb, sc, sd, se, sf, rfl⟩ := len16 hshr
  obtain ⟨n0, n1, n2, n3, n4, n5, n6, n7, n8, n9, na, nb, nc, nd, ne, nf, rfl⟩ := len16 hbnd
  obtain ⟨m0, m1, m2, m3, m4, m5, m6, m7, m8, m9, ma, mb, mc, md, me, mf, rfl⟩ := len16 hmrk
  refine c_seq ?_
  refine reg_plain w0 (Nobody) ?_
  refine r_box hS hH (by repeat (first | exact Sub.nil | refine Sub.cons ?_ ?_ | exact In.here | refine In.there ?_)) rfl rfl rfl ?_
  clear hS hH; intro a w b1 hb1 hwb1 hS hH
  refine r_assign hS hH.kp0 rfl rfl ?_; clear hS; intro a hS
  refine Sq.nil ?_
  refine then_n ?_
  refine c_seq ?_
  refine c_seq ?_
  refine reg_plain w0 (Nobody) ?_
  refine r_fieldAddr hS hH.kp0 rfl Fc.fo27_0 rfl ?_; clear hS; intro a hS
  refine r_load_sc hS hH (by repeat (first | exact Sub.nil | refine Sub.cons ?_ ?_ | exact In.here | refine In.there ?_)) rfl (by repeat (first | exact In.here | refine In.there ?_)) Fc.sc3 (by rfl) rfl ?_; clear hS; intro a hS
  refine Sq.nil ?_
  refine then_n ?_
  refine wp_block ?_
  refine c_seq ?_
  refine reg_plain w0 (Nobody) ?_
  refine r_eql hS hH.kp0 rfl rfl rfl ?_; clear hS; intro a hS
  refine r_assign hS hH.kp0 rfl rfl ?_; clear hS; intro a hS
  refine Sq.nil ?_
  refine then_n ?_
  refine c_condF hS rfl rfl ?_
  refine c_seq ?_
  refine reg_plain w0 (Nobody) ?_
  refine r_eql hS hH.kp0 rfl rfl rfl ?_; clear hS; intro a hS
  refine r_assign hS hH.kp0 rfl rfl ?_; clear hS; intro a hS
  refine Sq.nil ?_
  refine then_n ?_
  refine c_condT hS rfl rfl ?_
  refine c_seq ?_
  refine reg_plain w0 (Nobody) ?_
  refine r_fieldAddr hS hH.kp0 rfl Fc.fo27_11 rfl ?_; clear hS; intro a hS
  refine r_load_sc hS hH (by repeat (first | exact Sub.nil | refine Sub.cons ?_ ?_ | exact In.here | refine In.there ?_)) rfl (by repeat (first | exact In.here | refine In.there ?_)) Fc.sc3 (by rfl) rfl ?_; clear hS; intro a hS
  refine r_geq hS hH.kp0 rfl rfl rfl ?_; clear hS; intro a hS
  rcases (by omega : li < 0 ∨ (0 ≤ li ∧ 4294967295 < li) ∨ (0 ≤ li ∧ li ≤ 4294967295)) with hl | ⟨hl, hl2⟩ | ⟨hl, hl2⟩
  · refine r_move hS hH.kp0 rfl rfl ?_; clear hS; intro a hS
    refine Sq.guardNo hS rfl rfl (DF (by omega)) hH.kp0 rfl ?_; clear hS; intro a hS
    refine Sq.guardNo hS rfl rfl (DF (by omega)) hH.kp0 rfl ?_; clear hS; intro a hS
    refine Sq.guardNo hS rfl rfl (DF (by omega)) hH.kp0 rfl ?_; clear hS; intro a hS
    refine r_pickF hS hH.kp0 rfl (DF (by omega)) rfl rfl ?_; clear hS; intro a hS
    refine r_move hS hH.kp0 rfl rfl ?_; clear hS; intro a hS
    refine Sq.guardNo hS rfl rfl rfl hH.kp0 rfl ?_; clear hS; intro a hS
    refine Sq.guardNo hS rfl rfl rfl hH.kp0 rfl ?_; clear hS; intro a hS
    refine Sq.guardNo hS rfl rfl rfl hH.kp0 rfl ?_; clear hS; intro a hS
    refine Sq.guardNo hS rfl rfl rfl hH.kp0 rfl ?_; clear hS; intro a hS
    refine r_pickF hS hH.kp0 rfl rfl rfl rfl ?_; clear hS; intro a hS
    refine r_move hS hH.kp0 rfl rfl ?_; clear hS; intro a hS
    refine Sq.guardNo hS rfl rfl rfl hH.kp0 rfl ?_; clear hS; intro a hS
    refine Sq.guardNo hS rfl rfl rfl hH.kp0 rfl ?_; clear hS; intro a hS
    refine Sq.guardNo hS rfl rfl rfl hH.kp0 rfl ?_; clear hS; intro a hS
    refine Sq.guardNo hS rfl rfl rfl hH.kp0 rfl ?_; clear hS; intro a hS
    refine r_pickF hS hH.kp0 rfl rfl rfl rfl ?_; clear hS; intro a hS
    refine r_assign hS hH.kp0 rfl rfl ?_; clear hS; intro a hS
    refine Sq.nil ?_
    refine then_n ?_
    refine wp_ret ?_
    refine blk_r ?_
    refine then_r ?_
    refine leave (.inl rfl) hS rfl (Res.tmp rfl Res.nil) ⟨congrArg (fun z => Ending.returned (Value.bool z)) ?_, hH.mod⟩
    first | exact (DF (by unfold mayM; omega)).symm | exact (DT (by unfold mayM; omega)).symm | exact decide_eq_decide.2 (by unfold mayM; omega)
  · refine r_move hS hH.kp0 rfl rfl ?_; clear hS; intro a hS
    refine Sq.guardYes hS rfl rfl (DT (by omega)) ?_; refine r_fieldAddr hS hH.kp0 rfl Fc.fo27_11 rfl ?_; clear hS; intro a hS
    refine Sq.guardYes hS rfl rfl (DT (by omega)) ?_; refine r_load_sc hS hH (by repeat (first | exact Sub.nil | refine Sub.cons ?_ ?_ | exact In.here | refine In.there ?_)) rfl (by repeat (first | exact In.here | refine In.there ?_)) Fc.sc3 (by rfl) rfl ?_; clear hS; intro a hS
    refine Sq.guardYes hS rfl rfl (DT (by omega)) ?_; refine r_leq hS hH.kp0 rfl rfl rfl ?_; clear hS; intro a hS
    refine r_pickT hS hH.kp0 rfl (DT (by omega)) rfl rfl ?_; clear hS; intro a hS
    refine r_move hS hH.kp0 rfl rfl ?_; clear hS; intro a hS
    refine Sq.guardNo hS rfl rfl (DF (by omega)) hH.kp0 rfl ?_; clear hS; intro a hS
    refine Sq.guardNo hS rfl rfl (DF (by omega)) hH.kp0 rfl ?_; clear hS; intro a hS
    refine Sq.guardNo hS rfl rfl (DF (by omega)) hH.kp0 rfl ?_; clear hS; intro a hS
    refine Sq.guardNo hS rfl rfl (DF (by omega)) hH.kp0 rfl ?_; clear hS; intro a hS
    refine r_pickF hS hH.kp0 rfl (DF (by omega)) rfl rfl ?_; clear hS; intro a hS
    refine r_move hS hH.kp0 rfl rfl ?_; clear hS; intro a hS
    refine Sq.guardNo hS rfl rfl rfl hH.kp0 rfl ?_; clear hS; intro a hS
    refine Sq.guardNo hS rfl rfl rfl hH.kp0 rfl ?_; clear hS; intro a hS
    refine Sq.guardNo hS rfl rfl rfl hH.kp0 rfl ?_; clear hS; intro a hS
    refine Sq.guardNo hS rfl rfl rfl hH.kp0 rfl ?_; clear hS; intro a hS
    refine r_pickF hS hH.kp0 rfl rfl rfl rfl ?_; clear hS; intro a hS
    refine r_assign hS hH.kp0 rfl rfl ?_; clear hS; intro a hS
    refine Sq.nil ?_
    refine then_n ?_
    refine wp_ret ?_
    refine blk_r ?_
    refine then_r ?_
    refine leave (.inl rfl) hS rfl (Res.tmp rfl Res.nil) ⟨congrArg (fun z => Ending.returned (Value.bool z)) ?_, hH.mod⟩
    first | exact (DF (by unfold mayM; omega)).symm | exact (DT (by unfold mayM; omega)).symm | exact decide_eq_decide.2 (by unfold mayM; omega)
  · refine r_move hS hH.kp0 rfl rfl ?_; clear hS; intro a hS
    refine Sq.guardYes hS rfl rfl (DT (by omega)) ?_; refine r_fieldAddr hS hH.kp0 rfl Fc.fo27_11 rfl ?_; clear hS; intro a hS
    refine Sq.guardYes hS rfl rfl (DT (by omega)) ?_; refine r_load_sc hS hH (by repeat (first | exact Sub.nil | refine Sub.cons ?_ ?_ | exact In.here | refine In.there ?_)) rfl (by repeat (first | exact In.here | refine In.there ?_)) Fc.sc3 (by rfl) rfl ?_; clear hS; intro a hS
    refine Sq.guardYes hS rfl rfl (DT (by omega)) ?_; refine r_leq hS hH.kp0 rfl rfl rfl ?_; clear hS; intro a hS
    refine r_pickT hS hH.kp0 rfl (DT (by omega)) rfl rfl ?_; clear hS; intro a hS
    refine r_move hS hH.kp0 rfl rfl ?_; clear hS; intro a hS
    refine Sq.guardYes hS rfl rfl (DT (by omega)) ?_; refine r_fieldAddr hS hH.kp0 rfl Fc.fo27_6 rfl ?_; clear hS; intro a hS
    refine Sq.guardYes hS rfl rfl (DT (by omega)) ?_; refine r_load_sc hS hH (by repeat (first | exact Sub.nil | refine Sub.cons ?_ ?_ | exact In.here | refine In.there ?_)) rfl (by repeat (first | exact In.here | refine In.there ?_)) Fc.sc25 (by rfl) rfl ?_; clear hS; intro a hS
    refine Sq.guardYes hS rfl rfl (DT (by omega)) ?_; refine r_lenSl hS hH.kp0 rfl Fc.isSlice25 rfl ?_; clear hS; intro a hS
    refine Sq.guardYes hS rfl rfl (DT (by omega)) ?_; refine r_geq hS hH.kp0 rfl rfl rfl ?_; clear hS; intro a hS
    refine r_pickT hS hH.kp0 rfl (DT (by omega)) rfl rfl ?_; clear hS; intro a hS
    rcases (by omega : tck.length < 1 ∨ 1 ≤ tck.length) with ht | ht
    · refine r_move hS hH.kp0 rfl rfl ?_; clear hS; intro a hS
      refine Sq.guardNo hS rfl rfl (DF (by omega)) hH.kp0 rfl ?_; clear hS; intro a hS
      refine Sq.guardNo hS rfl rfl (DF (by omega)) hH.kp0 rfl ?_; clear hS; intro a hS
      refine Sq.guardNo hS rfl rfl (DF (by omega)) hH.kp0 rfl ?_; clear hS; intro a hS
      refine Sq.guardNo hS rfl rfl (DF (by omega)) hH.kp0 rfl ?_; clear hS; intro a hS
      refine r_pickF hS hH.kp0 rfl (DF (by omega)) rfl rfl ?_; clear hS; intro a hS
      refine r_assign hS hH.kp0 rfl rfl ?_; clear hS; intro a hS
      refine Sq.nil ?_
      refine then_n ?_
      refine wp_ret ?_
      refine blk_r ?_
      refine then_r ?_
      refine leave (.inl rfl) hS rfl (Res.tmp rfl Res.nil) ⟨congrArg (fun z => Ending.returned (Value.bool z)) ?_, hH.mod⟩
      first | exact (DF (by unfold mayM; omega)).symm | exact (DT (by unfold mayM; omega)).symm | exact decide_eq_decide.2 (by unfold mayM; omega)
    · refine r_move hS hH.kp0 rfl rfl ?_; clear hS; intro a hS
      refine Sq.guardYes hS rfl rfl (DT (by omega)) ?_; refine r_fieldAddr hS hH.kp0 rfl Fc.fo27_6 rfl ?_; clear hS; intro a hS
      refine Sq.guardYes hS rfl rfl (DT (by omega)) ?_; refine r_load_sc hS hH (by repeat (first | exact Sub.nil | refine Sub.cons ?_ ?_ | exact In.here | refine In.there ?_)) rfl (by repeat (first | exact In.here | refine In.there ?_)) Fc.sc25 (by rfl) rfl ?_; clear hS; intro a hS
      refine Sq.guardYes hS rfl rfl (DT (by omega)) ?_; refine r_lenSl hS hH.kp0 rfl Fc.isSlice25 rfl ?_; clear hS; intro a hS
      refine Sq.guardYes hS rfl rfl (DT (by omega)) ?_; refine r_leq hS hH.kp0 rfl rfl rfl ?_; clear hS; intro a hS
      refine r_pickT hS hH.kp0 rfl (DT (by omega)) rfl rfl ?_; clear hS; intro a hS
      refine r_assign hS hH.kp0 rfl rfl ?_; clear hS; intro a hS
      refine Sq.nil ?_
      refine then_n ?_
      refine wp_ret ?_
      refine blk_r ?_
      refine then_r ?_
      refine leave (.inl rfl) hS rfl (Res.tmp rfl Res.nil) ⟨congrArg (fun z => Ending.returned (Value.bool z)) ?_, hH.mod⟩
      first | exact (DF (by unfold mayM; omega)).symm | exact (DT (by unfold mayM; omega)).symm | exact decide_eq_decide.2 (by unfold mayM; omega)

set_option maxRecDepth 100000 in
set_option maxHeartbeats 2000000 in
theorem right_8 (q1 q2 q3 : Option Addr) (c1 c2 c3 : Nat) (rnd shr bnd mrk : List UInt8) (name : ByteArray) (ptl : List ByteArray) (prm tck : List UInt8) (ea ag : Bool) (li : Int) (hrnd : rnd.length = 16) (hshr : shr.length = 16) (hbnd : bnd.length = 16) (hmrk : mrk.length = 16) (w0 : World) (hpl : ptl.length ≤ 1048576) (hpt : SsA w0 q1 c1 ptl) : Calls Try.prog 11 #[.agg ([.int .i64 8] ++ hcells rnd ++ hcells shr ++ [.string name, .slice q1 ptl.length c1, .slice q2 prm.length c2, .slice q3 tck.length c3] ++ hcells bnd ++ [.bool ea, .bool ag] ++ hcells mrk ++ [.int .i64 li] : List Value).toArray] w0 fun e w' => e = .returned (.bool (decide (mayM 8 name.size ptl.length prm.length tck.length (bzN ea bnd) (oddN ptl) li))) ∧ Ext w0 w' := by
  refine enter Try.func11 rfl rfl rfl ?_
  intro a hS
  have hH := Hp.start w0 (Nobody)
  obtain ⟨r0, r1, r2, r3, r4, r5, r6, r7, r8, r9, ra, rb, rc, rd, re, rf, rfl⟩ := len16 hrnd
  obtain ⟨s0, s1, s2, s3, s4, s5, s6, s7, s8, s9, sa, sb, sc, sd, se, sf, rfl⟩ := len16 hshr
  obtain ⟨n0, n1, n2, n3, n4, n5, n6, n7, n8, n9, na, nb, nc, nd, ne, nf, rfl⟩ := len16 hbnd
  obtain ⟨m0, m1, m2, m3, m4, m5, m6, m7, m8, m9, ma, mb, mc, md, me, mf, rfl⟩ := len16 hmrk
  refine c_seq ?_
  refine reg_plain w0 (Nobody) ?_
  refine r_box hS hH (by repeat (first | exact Sub.nil | refine Sub.cons ?_ ?_ | exact In.here | refine In.there ?_)) rfl rfl rfl ?_
  clear hS hH; intro a w b1 hb1 hwb1 hS hH
  refine r_assign hS hH.kp0 rfl rfl ?_; clear hS; intro a hS
  refine Sq.nil ?_
  refine then_n ?_
  refine c_seq ?_
  refine c_seq ?_
  refine reg_plain w0 (Nobody) ?_
  refine r_fieldAddr hS hH.kp0 rfl Fc.fo27_0 rfl ?_; clear hS; intro a hS
  refine r_load_sc hS hH (by repeat (first | exact Sub.nil | refine Sub.cons ?_ ?_ | exact In.here | refine In.there ?_)) rfl (by repeat (first | exact In.here | refine In.there ?_)) Fc.sc3 (by rfl) rfl ?_; clear hS; intro a hS
  refine Sq.nil ?_
  refine then_n ?_
  refine wp_block ?_
  refine c_seq ?_
  refine reg_plain w0 (Nobody) ?_
  refine r_eql hS hH.kp0 rfl rfl rfl ?_; clear hS; intro a hS
  refine r_assign hS hH.kp0 rfl rfl ?_; clear hS; intro a hS
  refine Sq.nil ?_
  refine then_n ?_
  refine c_condF hS rfl rfl ?_
  refine c_seq ?_
  refine reg_plain w0 (Nobody) ?_
  refine r_eql hS hH.kp0 rfl rfl rfl ?_; clear hS; intro a hS
  refine r_assign hS hH.kp0 rfl rfl ?_; clear hS; intro a hS
  refine Sq.nil ?_
  refine then_n ?_
  refine c_condF hS rfl rfl ?_
  refine c_seq ?_
  refine reg_plain w0 (Nobody) ?_
  refine r_eql hS hH.kp0 rfl rfl rfl ?_; clear hS; intro a hS
  refine r_assign hS hH.kp0 rfl rfl ?_; clear hS; intro a hS
  refine Sq.nil ?_
  refine then_n ?_
  refine c_condT hS rfl rfl ?_
  refine c_seq ?_
  refine reg_plain w0 (Nobody) ?_
  refine r_load_row hS hH (by repeat (first | exact Sub.nil | refine Sub.cons ?_ ?_ | exact In.here | refine In.there ?_)) rfl (by repeat (first | exact In.here | refine In.there ?_)) Fc.ag27 (by rfl) rfl ?_; clear hS; intro a hS
  refine r_call (l := [.tmp 59, .const (.int .i64 1)]) hS rfl rfl Fc.fn18 rfl ?_
  refine Calls.mono (named_c (8) q1 q2 q3 c1 c2 c3 _ _ _ _ name ptl prm tck _ ag li hrnd hshr hbnd hmrk 1 _ hpl (hpt.ext hH.mod)) ?_
  rintro e w1 ⟨rfl, hE⟩
  replace hH := hH.ext hE
  refine ⟨_, rfl, hH.kp0, ?_⟩
  clear hS; intro a hS
  refine r_assign hS hH.kp0 rfl rfl ?_; clear hS; intro a hS
  refine Sq.nil ?_
  refine then_n ?_
  refine wp_ret ?_
  refine blk_r ?_
  refine then_r ?_
  refine leave (.inl rfl) hS rfl (Res.tmp rfl Res.nil) ⟨congrArg (fun z => Ending.returned (Value.bool z)) ?_, hH.mod⟩
  first | exact (DF (by unfold mayM; omega)).symm | exact (DT (by unfold mayM; omega)).symm | exact decide_eq_decide.2 (by unfold mayM; omega)

set_option maxRecDepth 100000 in
set_option maxHeartbeats 2000000 in
theorem right_11 (q1 q2 q3 : Option Addr) (c1 c2 c3 : Nat) (rnd shr bnd mrk : List UInt8) (name : ByteArray) (ptl : List ByteArray) (prm tck : List UInt8) (ea ag : Bool) (li : Int) (hrnd : rnd.length = 16) (hshr : shr.length = 16) (hbnd : bnd.length = 16) (hmrk : mrk.length = 16) (w0 : World) (hpl : ptl.length ≤ 1048576) (hpt : SsA w0 q1 c1 ptl) : Calls Try.prog 11 #[.agg ([.int .i64 11] ++ hcells rnd ++ hcells shr ++ [.string name, .slice q1 ptl.length c1, .slice q2 prm.length c2, .slice q3 tck.length c3] ++ hcells bnd ++ [.bool ea, .bool ag] ++ hcells mrk ++ [.int .i64 li] : List Value).toArray] w0 fun e w' => e = .returned (.bool (decide (mayM 11 name.size ptl.length prm.length tck.length (bzN ea bnd) (oddN ptl) li))) ∧ Ext w0 w' := by
  refine enter Try.func11 rfl rfl rfl ?_
  intro a hS
  have hH := Hp.start w0 (Nobody)
  obtain ⟨r0, r1, r2, r3, r4, r5, r6, r7, r8, r9, ra, rb, rc, rd, re, rf, rfl⟩ := len16 hrnd
  obtain ⟨s0, s1, s2, s3, s4, s5, s6, s7, s8, s9, sa, sb, sc, sd, se, sf, rfl⟩ := len16 hshr
  obtain ⟨n0, n1, n2, n3, n4, n5, n6, n7, n8, n9, na, nb, nc, nd, ne, nf, rfl⟩ := len16 hbnd
  obtain ⟨m0, m1, m2, m3, m4, m5, m6, m7, m8, m9, ma, mb, mc, md, me, mf, rfl⟩ := len16 hmrk
  refine c_seq ?_
  refine reg_plain w0 (Nobody) ?_
  refine r_box hS hH (by repeat (first | exact Sub.nil | refine Sub.cons ?_ ?_ | exact In.here | refine In.there ?_)) rfl rfl rfl ?_
  clear hS hH; intro a w b1 hb1 hwb1 hS hH
  refine r_assign hS hH.kp0 rfl rfl ?_; clear hS; intro a hS
  refine Sq.nil ?_
  refine then_n ?_
  refine c_seq ?_
  refine c_seq ?_
  refine reg_plain w0 (Nobody) ?_
  refine r_fieldAddr hS hH.kp0 rfl Fc.fo27_0 rfl ?_; clear hS; intro a hS
  refine r_load_sc hS hH (by repeat (first | exact Sub.nil | refine Sub.cons ?_ ?_ | exact In.here | refine In.there ?_)) rfl (by repeat (first | exact In.here | refine In.there ?_)) Fc.sc3 (by rfl) rfl ?_; clear hS; intro a hS
  refine Sq.nil ?_
  refine then_n ?_
  refine wp_block ?_
  refine c_seq ?_
  refine reg_plain w0 (Nobody) ?_
  refine r_eql hS hH.kp0 rfl rfl rfl ?_; clear hS; intro a hS
  refine r_assign hS hH.kp0 rfl rfl ?_; clear hS; intro a hS
  refine Sq.nil ?_
  refine then_n ?_
  refine c_condF hS rfl rfl ?_
  refine c_seq ?_
  refine reg_plain w0 (Nobody) ?_
  refine r_eql hS hH.kp0 rfl rfl rfl ?_; clear hS; intro a hS
  refine r_assign hS hH.kp0 rfl rfl ?_; clear hS; intro a hS
  refine Sq.nil ?_
  refine then_n ?_
  refine c_condF hS rfl rfl ?_
  refine c_seq ?_
  refine reg_plain w0 (Nobody) ?_
  refine r_eql hS hH.kp0 rfl rfl rfl ?_; clear hS; intro a hS
  refine r_assign hS hH.kp0 rfl rfl ?_; clear hS; intro a hS
  refine Sq.nil ?_
  refine then_n ?_
  refine c_condF hS rfl rfl ?_
  refine c_seq ?_
  refine reg_plain w0 (Nobody) ?_
  refine r_eql hS hH.kp0 rfl rfl rfl ?_; clear hS; intro a hS
  refine r_assign hS hH.kp0 rfl rfl ?_; clear hS; intro a hS
  refine Sq.nil ?_
  refine then_n ?_
  refine c_condT hS rfl rfl ?_
  refine c_seq ?_
  refine reg_plain w0 (Nobody) ?_
  refine r_fieldAddr hS hH.kp0 rfl Fc.fo27_3 rfl ?_; clear hS; intro a hS
  refine r_load_sc hS hH (by repeat (first | exact Sub.nil | refine Sub.cons ?_ ?_ | exact In.here | refine In.there ?_)) rfl (by repeat (first | exact In.here | refine In.there ?_)) Fc.sc9 (by rfl) rfl ?_; clear hS; intro a hS
  refine r_lenStr hS hH.kp0 rfl Fc.isStr9 rfl ?_; clear hS; intro a hS
  refine r_leq hS hH.kp0 rfl rfl rfl ?_; clear hS; intro a hS
  refine r_assign hS hH.kp0 rfl rfl ?_; clear hS; intro a hS
  refine Sq.nil ?_
  refine then_n ?_
  refine wp_ret ?_
  refine blk_r ?_
  refine then_r ?_
  refine leave (.inl rfl) hS rfl (Res.tmp rfl Res.nil) ⟨congrArg (fun z => Ending.returned (Value.bool z)) ?_, hH.mod⟩
  first | exact (DF (by unfold mayM; omega)).symm | exact (DT (by unfold mayM; omega)).symm | exact decide_eq_decide.2 (by unfold mayM; omega)

set_option maxRecDepth 100000 in
set_option maxHeartbeats 2000000 in
theorem right_x (kd : Int) (q1 q2 q3 : Option Addr) (c1 c2 c3 : Nat) (rnd shr bnd mrk : List UInt8) (name : ByteArray) (ptl : List ByteArray) (prm tck : List UInt8) (ea ag : Bool) (li : Int) (hrnd : rnd.length = 16) (hshr : shr.length = 16) (hbnd : bnd.length = 16) (hmrk : mrk.length = 16) (hk : kd ≠ 1 ∧ kd ≠ 4 ∧ kd ≠ 8 ∧ kd ≠ 11) (w0 : World) (hpl : ptl.length ≤ 1048576) (hpt : SsA w0 q1 c1 ptl) : Calls Try.prog 11 #[.agg ([.int .i64 kd] ++ hcells rnd ++ hcells shr ++ [.string name, .slice q1 ptl.length c1, .slice q2 prm.length c2, .slice q3 tck.length c3] ++ hcells bnd ++ [.bool ea, .bool ag] ++ hcells mrk ++ [.int .i64 li] : List Value).toArray] w0 fun e w' => e = .returned (.bool (decide (mayM kd name.size ptl.length prm.length tck.length (bzN ea bnd) (oddN ptl) li))) ∧ Ext w0 w' := by
  refine enter Try.func11 rfl rfl rfl ?_
  intro a hS
  have hH := Hp.start w0 (Nobody)
  obtain ⟨r0, r1, r2, r3, r4, r5, r6, r7, r8, r9, ra, rb, rc, rd, re, rf, rfl⟩ := len16 hrnd
  obtain ⟨s0, s1, s2, s3, s4, s5, s6, s7, s8, s9, sa, sb, sc, sd, se, sf, rfl⟩ := len16 hshr
  obtain ⟨n0, n1, n2, n3, n4, n5, n6, n7, n8, n9, na, nb, nc, nd, ne, nf, rfl⟩ := len16 hbnd
  obtain ⟨m0, m1, m2, m3, m4, m5, m6, m7, m8, m9, ma, mb, mc, md, me, mf, rfl⟩ := len16 hmrk
  refine c_seq ?_
  refine reg_plain w0 (Nobody) ?_
  refine r_box hS hH (by repeat (first | exact Sub.nil | refine Sub.cons ?_ ?_ | exact In.here | refine In.there ?_)) rfl rfl rfl ?_
  clear hS hH; intro a w b1 hb1 hwb1 hS hH
  refine r_assign hS hH.kp0 rfl rfl ?_; clear hS; intro a hS
  refine Sq.nil ?_
  refine then_n ?_
  refine c_seq ?_
  refine c_seq ?_
  refine reg_plain w0 (Nobody) ?_
  refine r_fieldAddr hS hH.kp0 rfl Fc.fo27_0 rfl ?_; clear hS; intro a hS
  refine r_load_sc hS hH (by repeat (first | exact Sub.nil | refine Sub.cons ?_ ?_ | exact In.here | refine In.there ?_)) rfl (by repeat (first | exact In.here | refine In.there ?_)) Fc.sc3 (by rfl) rfl ?_; clear hS; intro a hS
  refine Sq.nil ?_
  refine then_n ?_
  refine wp_block ?_
  refine c_seq ?_
  refine reg_plain w0 (Nobody) ?_
  refine r_eql hS hH.kp0 rfl rfl rfl ?_; clear hS; intro a hS
  refine r_assign hS hH.kp0 rfl rfl ?_; clear hS; intro a hS
  refine Sq.nil ?_
  refine then_n ?_
  refine c_condF hS rfl (DF (by omega)) ?_
  refine c_seq ?_
  refine reg_plain w0 (Nobody) ?_
  refine r_eql hS hH.kp0 rfl rfl rfl ?_; clear hS; intro a hS
  refine r_assign hS hH.kp0 rfl rfl ?_; clear hS; intro a hS
  refine Sq.nil ?_
  refine then_n ?_
  refine c_condF hS rfl (DF (by omega)) ?_
  refine c_seq ?_
  refine reg_plain w0 (Nobody) ?_
  refine r_eql hS hH.kp0 rfl rfl rfl ?_; clear hS; intro a hS
  refine r_assign hS hH.kp0 rfl rfl ?_; clear hS; intro a hS
  refine Sq.nil ?_
  refine then_n ?_
  refine c_condF hS rfl (DF (by omega)) ?_
  refine c_seq ?_
  refine reg_plain w0 (Nobody) ?_
  refine r_eql hS hH.kp0 rfl rfl rfl ?_; clear hS; intro a hS
  refine r_assign hS hH.kp0 rfl rfl ?_; clear hS; intro a hS
  refine Sq.nil ?_
  refine then_n ?_
  refine c_condF hS rfl (DF (by omega)) ?_
  refine wp_skip ?_
  refine blk_n ?_
  refine then_n ?_
  refine c_seq ?_
  refine reg_plain w0 (Nobody) ?_
  refine r_assign hS hH.kp0 rfl rfl ?_; clear hS; intro a hS
  refine Sq.nil ?_
  refine then_n ?_
  refine wp_ret ?_
  refine leave (.inl rfl) hS rfl (Res.tmp rfl Res.nil) ⟨congrArg (fun z => Ending.returned (Value.bool z)) ?_, hH.mod⟩
  first | exact (DF (by unfold mayM; omega)).symm | exact (DT (by unfold mayM; omega)).symm | exact decide_eq_decide.2 (by unfold mayM; omega)


theorem right_c (kd : Int) (q1 q2 q3 : Option Addr) (c1 c2 c3 : Nat) (rnd shr bnd mrk : List UInt8) (name : ByteArray) (ptl : List ByteArray) (prm tck : List UInt8) (ea ag : Bool) (li : Int) (hrnd : rnd.length = 16) (hshr : shr.length = 16) (hbnd : bnd.length = 16) (hmrk : mrk.length = 16) (w0 : World) (hpl : ptl.length ≤ 1048576) (hpt : SsA w0 q1 c1 ptl) : Calls Try.prog 11 #[.agg ([.int .i64 kd] ++ hcells rnd ++ hcells shr ++ [.string name, .slice q1 ptl.length c1, .slice q2 prm.length c2, .slice q3 tck.length c3] ++ hcells bnd ++ [.bool ea, .bool ag] ++ hcells mrk ++ [.int .i64 li] : List Value).toArray] w0 fun e w' => e = .returned (.bool (decide (mayM kd name.size ptl.length prm.length tck.length (bzN ea bnd) (oddN ptl) li))) ∧ Ext w0 w' := by
  rcases (by omega : kd = 1 ∨ kd = 4 ∨ kd = 8 ∨ kd = 11 ∨ (kd ≠ 1 ∧ kd ≠ 4 ∧ kd ≠ 8 ∧ kd ≠ 11)) with rfl | rfl | rfl | rfl | hk
  · exact right_1 q1 q2 q3 c1 c2 c3 rnd shr bnd mrk name ptl prm tck ea ag li hrnd hshr hbnd hmrk w0 hpl hpt
  · exact right_4 q1 q2 q3 c1 c2 c3 rnd shr bnd mrk name ptl prm tck ea ag li hrnd hshr hbnd hmrk w0 hpl hpt
  · exact right_8 q1 q2 q3 c1 c2 c3 rnd shr bnd mrk name ptl prm tck ea ag li hrnd hshr hbnd hmrk w0 hpl hpt
  · exact right_11 q1 q2 q3 c1 c2 c3 rnd shr bnd mrk name ptl prm tck ea ag li hrnd hshr hbnd hmrk w0 hpl hpt
  · exact right_x kd q1 q2 q3 c1 c2 c3 rnd shr bnd mrk name ptl prm tck ea ag li hrnd hshr hbnd hmrk hk w0 hpl hpt

end Go.Proofs.Ytcenionnedgadaa
