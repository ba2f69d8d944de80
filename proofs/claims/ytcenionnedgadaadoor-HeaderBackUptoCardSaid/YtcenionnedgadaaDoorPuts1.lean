/- HeaderBack: a header that is put is read again, with the place and the lowest bytes of the number. Conditions: those of the given row (arguments of at most 1048576 values and letters; the listed variables hold what the text lays). Part Puts1: walks and lemmas of the proof. -/
import Derived.Test.YtcenionnedgadaaDoorHeader1
import Derived.Test.YtcenionnedgadaaDoorSymPuts
import Derived.Test.YtcenionnedgadaaDoorSymStep
namespace Go.Proofs.YtcenionnedgadaaDoor
open Go.Sym

theorem Fp.bsl22_1 : bslB Tryd.prog 22 1 = some (5, 1, [.int .u8 0]) := by kernel_rfl
theorem Fp.el22 : elB Tryd.prog 22 = some (5, 1, 1) := by kernel_rfl
theorem Fp.fn23 : isFn Tryd.prog 23 = true := by kernel_rfl
theorem Fp.fn55 : isFn Tryd.prog 55 = true := by kernel_rfl
theorem Fp.inf5 : (Tryd.prog.info? 5).isSome = true := by kernel_rfl
theorem Fp.isSlice22 : isSlice Tryd.prog 22 = true := by kernel_rfl
theorem Fp.isStr9 : isStr Tryd.prog 9 = true := by kernel_rfl
theorem Fp.ni22 : notInt Tryd.prog 22 = true := by kernel_rfl
theorem Fp.sc5 : scB Tryd.prog 5 = true := by kernel_rfl
theorem Fp.slb22 : slB Tryd.prog 22 = some 1 := by kernel_rfl
theorem Fp.sz5 : sizeB Tryd.prog 5 1 = true := by kernel_rfl
theorem Fp.u8s22 : u8s Tryd.prog 22 = true := by kernel_rfl
theorem Fp.ui30 : Tryd.prog.underlying 30 = some (.int .u64) := by kernel_rfl
theorem Fp.ui5 : Tryd.prog.underlying 5 = some (.int .u8) := by kernel_rfl
theorem Fp.uls22 : Tryd.prog.underlying 22 = some (.slice 5) := by kernel_rfl
theorem Fp.us3 : (Tryd.prog.underlying 3).isSome = true := by kernel_rfl
theorem Fp.us36 : (Tryd.prog.underlying 36).isSome = true := by kernel_rfl
set_option maxRecDepth 100000 in
set_option maxHeartbeats 2000000 in
theorem spoilt_c (xb o cap : Nat) (l2 : List Value) (u : List UInt8) (v : Value) (hl : u.length ≤ 1099511627776) (hu : (l2.drop o).take u.length = u.map byteV) (hol : o + u.length ≤ l2.length) (hcap : u.length ≤ cap) (w0 : World) (h : w0.heap[xb]? = some (.cells l2.toArray 5 (0, 0))) (hz : Bs w0 v u) : Calls Tryd.prog 11 #[.slice (some ⟨xb, o, none⟩) u.length cap, v] w0 fun e w' => ∃ l3 : List Value, e = .returned (.bool true) ∧ w'.heap[xb]? = some (.cells l3.toArray 5 (0, 0)) ∧ l3.length = l2.length ∧ (∀ j, j < o ∨ o + u.length ≤ j → l3[j]? = l2[j]?) ∧ Mod (fun x => x = xb) w0 w' := by
  refine enter Tryd.func11 rfl rfl rfl ?_
  intro a hS
  have hH := Hp.start w0 (fun x => x = xb)
  replace hH := hH.know h (fun p hp => by simp at hp)
  have hx0 : Bs w0 (.slice (some ⟨xb, o, none⟩) u.length cap) u := Bs.row h hu hcap
  have hz0 := hz
  refine c_seq ?_
  refine reg_plain w0 (fun x => x = xb) ?_
  refine r_assign hS hH.kp0 rfl rfl ?_; clear hS; intro a hS
  refine Sq.nil ?_
  refine then_n ?_
  refine c_seq ?_
  refine c_seq ?_
  refine reg_plain w0 (fun x => x = xb) ?_
  refine r_move hS hH.kp0 rfl rfl ?_; clear hS; intro a hS
  refine r_bytesStr (l := u) hS hH.kp0 rfl hx0 Fp.u8s22 Fp.isStr9 rfl ?_; clear hS; intro a hS
  refine r_move hS hH.kp0 rfl rfl ?_; clear hS; intro a hS
  refine r_bytesStr (l := u) hS hH.kp0 rfl hz0 Fp.u8s22 Fp.isStr9 rfl ?_; clear hS; intro a hS
  refine r_strNeq hS hH.kp0 rfl rfl rfl ?_; clear hS; intro a hS
  refine Sq.nil ?_
  rw [show (!((strOf u).toList == (strOf u).toList)) = false from by simp] at hS
  refine then_n ?_
  refine c_condF hS rfl rfl ?_
  refine wp_skip ?_
  refine then_n ?_
  refine c_seq ?_
  refine c_seq ?_
  refine reg_plain w0 (fun x => x = xb) ?_
  refine r_assign hS hH.kp0 rfl rfl ?_; clear hS; intro a hS
  refine Sq.nil ?_
  refine then_n ?_
  refine wp_block ?_
  refine c_loop (fun m a w => ∃ (k : Nat) (i : Int) (l3 : List Value), m + k = u.length ∧ i = k ∧ l3.length = l2.length ∧ (∀ j, j < o ∨ o + k ≤ j → l3[j]? = l2[j]?) ∧ St 25 (lv [(0, .slice (some ⟨xb, o, none⟩) u.length cap), (5, .int .i64 i)]) a ∧ Hp w0 (fun x => x = xb) [(xb, .cells l3.toArray 5 (0, 0))] w) (u.length) ?_ ?_
  · exact ⟨0, _, l2, rfl, rfl, rfl, fun _ _ => rfl, hS.live ⟨rfl, rfl, trivial⟩, hH⟩
  clear hS hH; intro m a w hI; obtain ⟨k, i, l3, hmk, hi, hl3, hsame, hS, hH⟩ := hI
  refine c_seq ?_
  refine c_seq ?_
  refine reg_plain w0 (fun x => x = xb) ?_
  refine r_move hS hH.kp0 rfl rfl ?_; clear hS; intro a hS
  refine r_move hS hH.kp0 rfl rfl ?_; clear hS; intro a hS
  refine r_lenSl hS hH.kp0 rfl Fp.isSlice22 rfl ?_; clear hS; intro a hS
  refine r_lss hS hH.kp0 rfl rfl rfl ?_; clear hS; intro a hS
  refine Sq.nil ?_
  refine then_n ?_
  refine c_cond hS rfl (fun hc1 => ?_) (fun hc1 => ?_)
  · have hlt := of_decide_eq_true hc1
    have hk : k < u.length := by omega
    obtain ⟨y, hy⟩ : ∃ y, u[k]? = some y := ⟨_, List.getElem?_eq_getElem hk⟩
    have hcell : l3[o + k]? = some (byteV y) := by rw [hsame _ (.inr (Nat.le_refl _))]; exact get_part hu hy
    refine wp_skip ?_
    refine then_n ?_
    refine c_seq ?_
    refine wp_block ?_
    refine reg_plain w0 (fun x => x = xb) ?_
    refine r_move hS hH.kp0 rfl rfl ?_; clear hS; intro a hS
    refine r_move hS hH.kp0 rfl rfl ?_; clear hS; intro a hS
    refine r_move hS hH.kp0 rfl rfl ?_; clear hS; intro a hS
    refine r_move hS hH.kp0 rfl rfl ?_; clear hS; intro a hS
    refine r_indexAddrS (j := k) hS hH.kp0 rfl rfl Fp.slb22 hi (by omega) rfl ?_; clear hS; intro a hS
    refine r_load_sc (v := byteV y) hS hH (by repeat (first | exact Sub.nil | refine Sub.cons ?_ ?_ | exact In.here | refine In.there ?_)) rfl (by repeat (first | exact In.here | refine In.there ?_)) Fp.sc5 (by rw [Nat.mul_one, nthV_eq]; exact hcell) rfl ?_; clear hS; intro a hS
    refine r_addw hS hH.kp0 rfl rfl rfl ?_; clear hS; intro a hS
    refine r_indexAddrS (j := k) hS hH.kp0 rfl rfl Fp.slb22 hi (by omega) rfl ?_; clear hS; intro a hS
    refine r_store1 hS hH rfl rfl rfl (by first | exact .here | exact .there .here | exact .there (.there .here) | exact .there (.there (.there .here)) | exact .there (.there (.there (.there .here))) | exact .there (.there (.there (.there (.there .here)))) | exact .there (.there (.there (.there (.there (.there .here))))) | exact .there (.there (.there (.there (.there (.there (.there .here)))))) | exact .there (.there (.there (.there (.there (.there (.there (.there .here))))))) | exact .there (.there (.there (.there (.there (.there (.there (.there (.there .here)))))))) | exact .there (.there (.there (.there (.there (.there (.there (.there (.there (.there .here))))))))) | exact .there (.there (.there (.there (.there (.there (.there (.there (.there (.there (.there .here)))))))))) | exact .there (.there (.there (.there (.there (.there (.there (.there (.there (.there (.there (.there .here))))))))))) | exact .there (.there (.there (.there (.there (.there (.there (.there (.there (.there (.there (.there (.there .here)))))))))))) | exact .there (.there (.there (.there (.there (.there (.there (.there (.there (.there (.there (.there (.there (.there .here))))))))))))) | exact .there (.there (.there (.there (.there (.there (.there (.there (.there (.there (.there (.there (.there (.there (.there .here))))))))))))))) (by repeat (first | exact Sub.nil | refine Sub.cons ?_ ?_ | exact In.here | refine In.there ?_)) Fp.sz5 (by omega) (.inl rfl) ?_; clear hH; intro w hH
    refine Sq.nil ?_
    refine blk_n ?_
    refine then_n ?_
    refine reg_plain w0 (fun x => x = xb) ?_
    refine r_move hS hH.kp0 rfl rfl ?_; clear hS; intro a hS
    first | refine r_add hS hH.kp0 rfl rfl rfl (by omega) ?_ | refine r_addw hS hH.kp0 rfl rfl rfl ?_
    clear hS; intro a hS
    refine r_assign hS hH.kp0 rfl rfl ?_; clear hS; intro a hS
    refine Sq.nil ?_
    refine then_n ?_
    refine ⟨m - 1, by omega, k + 1, _, spl l3 (o + k * 1) [.int .u8 (IntKind.u8.wrap ((y.toNat : Int) + 1))], by omega, ?_, ?_, ?_, hS.live ⟨rfl, rfl, trivial⟩, hH⟩
    · omega
    · rw [spl1_len (by omega), hl3]
    · intro j hj; rw [spl1_get (by omega) (by omega)]; exact hsame j (by omega)
  · have hge := of_decide_eq_false hc1
    have hke : k = u.length := by omega
    subst hke
    refine wp_exit ?_
    refine then_e ?_
    refine then_e ?_
    refine blk_hit ?_
    refine then_n ?_
    refine c_seq ?_
    refine reg_plain w0 (fun x => x = xb) ?_
    refine r_assign hS hH.kp0 rfl rfl ?_; clear hS; intro a hS
    refine Sq.nil ?_
    refine then_n ?_
    refine wp_ret ?_
    exact leave (.inl rfl) hS rfl (Res.tmp rfl Res.nil) ⟨l3, rfl, hH.get (by repeat (first | exact In.here | refine In.there ?_)), hl3, hsame, hH.mod⟩

set_option maxRecDepth 100000 in
set_option maxHeartbeats 400000 in
theorem spoilt_nil (q : Option Addr) (qc : Nat) (v : Value) (w0 : World) (hx : Bs w0 (.slice q 0 qc) []) (hz : Bs w0 v []) : Calls Tryd.prog 11 #[.slice q 0 qc, v] w0 fun e w' => e = .returned (.bool true) ∧ Ext w0 w' := by
  refine enter Tryd.func11 rfl rfl rfl ?_
  intro a hS
  have hH := Hp.start w0 (Nobody)
  refine c_seq ?_
  refine reg_plain w0 (Nobody) ?_
  refine r_assign hS hH.kp0 rfl rfl ?_; clear hS; intro a hS
  refine Sq.nil ?_
  refine then_n ?_
  refine c_seq ?_
  refine c_seq ?_
  refine reg_plain w0 (Nobody) ?_
  refine r_move hS hH.kp0 rfl rfl ?_; clear hS; intro a hS
  refine r_bytesStr (l := []) hS hH.kp0 rfl (hx.ext hH.mod) Fp.u8s22 Fp.isStr9 rfl ?_; clear hS; intro a hS
  refine r_move hS hH.kp0 rfl rfl ?_; clear hS; intro a hS
  refine r_bytesStr (l := []) hS hH.kp0 rfl (hz.ext hH.mod) Fp.u8s22 Fp.isStr9 rfl ?_; clear hS; intro a hS
  refine r_strNeq hS hH.kp0 rfl rfl rfl ?_; clear hS; intro a hS
  refine Sq.nil ?_
  rw [show (!((strOf []).toList == (strOf []).toList)) = false from by simp] at hS
  refine then_n ?_
  refine c_condF hS rfl rfl ?_
  refine wp_skip ?_
  refine then_n ?_
  refine c_seq ?_
  refine c_seq ?_
  refine reg_plain w0 (Nobody) ?_
  refine r_assign hS hH.kp0 rfl rfl ?_; clear hS; intro a hS
  refine Sq.nil ?_
  refine then_n ?_
  refine wp_block ?_
  refine wp_loop_rounds 1 ?_
  refine rnd ?_
  refine c_seq ?_
  refine c_seq ?_
  refine reg_plain w0 (Nobody) ?_
  refine r_move hS hH.kp0 rfl rfl ?_; clear hS; intro a hS
  refine r_move hS hH.kp0 rfl rfl ?_; clear hS; intro a hS
  refine r_lenSl hS hH.kp0 rfl Fp.isSlice22 rfl ?_; clear hS; intro a hS
  refine r_lss hS hH.kp0 rfl rfl rfl ?_; clear hS; intro a hS
  refine Sq.nil ?_
  refine then_n ?_
  refine c_condF hS rfl rfl ?_
  refine wp_exit ?_
  refine then_e ?_
  refine then_e ?_
  refine blk_hit ?_
  refine then_n ?_
  refine c_seq ?_
  refine reg_plain w0 (Nobody) ?_
  refine r_assign hS hH.kp0 rfl rfl ?_; clear hS; intro a hS
  refine Sq.nil ?_
  refine then_n ?_
  refine wp_ret ?_
  exact leave (.inl rfl) hS rfl (Res.tmp rfl Res.nil) ⟨rfl, hH.mod⟩

set_option maxRecDepth 100000 in
set_option maxHeartbeats 1000000 in
theorem lay_some (q : Addr) (qc : Nat) (u : List UInt8) (x n : Nat) (hl : u.length ≤ 1099511627700) (hx : x < 18446744073709551616) (hn : n ≤ 8) (w0 : World) (hb : Bs w0 (.slice (some q) u.length qc) u) : Calls Tryd.prog 55 #[.slice (some q) u.length qc, .int .u64 (x : Int), .int .i64 (n : Int)] w0 fun e w' => ∃ v, e = .returned v ∧ NB w0.heap.size 5 w' v (u ++ beB x n) ∧ Ext w0 w' := by
  refine enter Tryd.func55 rfl rfl rfl ?_
  intro a hS
  have hH := Hp.start w0 (Nobody)
  refine c_seq ?_
  refine reg_plain w0 (Nobody) ?_
  refine r_assign hS hH.kp0 rfl rfl ?_; clear hS; intro a hS
  refine Sq.nil ?_
  refine then_n ?_
  refine c_seq ?_
  refine reg_plain w0 (Nobody) ?_
  refine r_move hS hH.kp0 rfl rfl ?_; clear hS; intro a hS
  refine r_call (l := [.tmp 9]) hS rfl rfl Fp.fn23 rfl ?_
  refine Calls.mono (clone_c q qc u (by omega) _ (hb.ext hH.mod)) ?_
  rintro e w1 ⟨cb, cap, l2, rfl, hcb, hcbk, hcap, hl2, htk2, hE⟩
  have hcb0 := Nat.le_trans hH.mod.size hcb
  replace hH := (hH.ext hE).know hcbk (fun p hp => by simp at hp)
  have hB0 : BB cap l2 (u ++ (beB x n).take 0) := by rw [List.take_zero, List.append_nil]; exact ⟨hl2, hcap, htk2⟩
  refine ⟨_, rfl, hH.kp0, ?_⟩
  clear hS; intro a hS
  refine r_assign hS hH.kp0 rfl rfl ?_; clear hS; intro a hS
  refine Sq.nil ?_
  refine then_n ?_
  refine c_seq ?_
  refine c_seq ?_
  refine reg_plain w0 (Nobody) ?_
  refine r_move hS hH.kp0 rfl rfl ?_; clear hS; intro a hS
  refine r_move hS hH.kp0 rfl rfl ?_; clear hS; intro a hS
  refine Sq.nil ?_
  refine then_n ?_
  refine wp_block ?_
  refine c_loop (fun m a w => ∃ (j : Nat) (i : Int) (b cc : Nat) (k : List Value), m + j = n ∧ i = j ∧ w0.heap.size ≤ b ∧ BB cc k (u ++ (beB x n).take j) ∧ St 28 (lv [(1, .int .u64 (x : Int)), (2, .int .i64 (n : Int)), (7, .slice (some ⟨b, 0, none⟩) (u ++ (beB x n).take j).length cc), (11, .int .i64 (n : Int)), (12, .int .i64 i)]) a ∧ Hp w0 Nobody [(b, .cells k.toArray 5 (0, 0))] w) (n) ?_ ?_
  · rw [show u.length = (u ++ (beB x n).take 0).length from by simp] at hS
    exact ⟨0, _, cb, cap, l2, by omega, rfl, hcb0, hB0, hS.live ⟨rfl, rfl, rfl, rfl, rfl, trivial⟩, hH⟩
  clear hS hH; intro m a w hI; obtain ⟨j, i, b, cc, k, hmj, hi, hb0, hB, hS, hH⟩ := hI
  refine c_seq ?_
  refine reg_plain w0 (Nobody) ?_
  refine r_lss hS hH.kp0 rfl rfl rfl ?_; clear hS; intro a hS
  refine Sq.nil ?_
  refine then_n ?_
  refine c_seq ?_
  refine c_cond hS rfl (fun hc0 => ?_) (fun hc0 => ?_)
  · have hjn : j < n := by have := of_decide_eq_true hc0; omega
    refine wp_skip ?_
    refine then_n ?_
    refine c_seq ?_
    refine wp_block ?_
    refine c_seq ?_
    refine reg_plain w0 (Nobody) ?_
    refine r_move hS hH.kp0 rfl rfl ?_; clear hS; intro a hS
    refine r_assign hS hH.kp0 rfl rfl ?_; clear hS; intro a hS
    refine Sq.nil ?_
    refine then_n ?_
    refine reg_plain w0 (Nobody) ?_
    refine r_move hS hH.kp0 rfl rfl ?_; clear hS; intro a hS
    refine r_move hS hH.kp0 rfl rfl ?_; clear hS; intro a hS
    refine r_move hS hH.kp0 rfl rfl ?_; clear hS; intro a hS
    first | refine r_sub hS hH.kp0 rfl rfl rfl (by omega) ?_ | refine r_subw hS hH.kp0 rfl rfl rfl ?_
    clear hS; intro a hS
    refine r_move hS hH.kp0 rfl rfl ?_; clear hS; intro a hS
    first | refine r_sub hS hH.kp0 rfl rfl rfl (by omega) ?_ | refine r_subw hS hH.kp0 rfl rfl rfl ?_
    clear hS; intro a hS
    first | refine r_mul hS hH.kp0 rfl rfl rfl (by omega) ?_ | refine r_mulw hS hH.kp0 rfl rfl rfl ?_
    clear hS; intro a hS
    refine r_shrN (m := x) (8 * (n - 1 - j)) (x / 256 ^ (n - 1 - j)) hS hH.kp0 rfl rfl rfl (by omega) (by omega) (shr_pow _ _) ?_; clear hS; intro a hS
    refine r_toU8 (q := x / 256 ^ (n - 1 - j)) (UInt8.ofNat (x / 256 ^ (n - 1 - j))) hS hH.kp0 rfl Fp.ui5 Fp.us36 rfl rfl ?_; clear hS; intro a hS
    refine r_buildSlice (parts := [(0, .tmp 23)]) hS hH (by repeat (first | exact Sub.nil | refine Sub.cons ?_ ?_ | exact In.here | refine In.there ?_)) rfl Fp.bsl22_1 (by rfl) rfl ?_
    clear hS hH; intro a w b24 hb24 hwb24 hS hH
    refine r_appB (l := k) (u ++ (beB x n).take j) ([UInt8.ofNat (x / 256 ^ (n - 1 - j))]) hS hH rfl rfl (by first | exact .here | exact .there .here | exact .there (.there .here) | exact .there (.there (.there .here)) | exact .there (.there (.there (.there .here))) | exact .there (.there (.there (.there (.there .here)))) | exact .there (.there (.there (.there (.there (.there .here))))) | exact .there (.there (.there (.there (.there (.there (.there .here)))))) | exact .there (.there (.there (.there (.there (.there (.there (.there .here))))))) | exact .there (.there (.there (.there (.there (.there (.there (.there (.there .here)))))))) | exact .there (.there (.there (.there (.there (.there (.there (.there (.there (.there .here))))))))) | exact .there (.there (.there (.there (.there (.there (.there (.there (.there (.there (.there .here)))))))))) | exact .there (.there (.there (.there (.there (.there (.there (.there (.there (.there (.there (.there .here))))))))))) | exact .there (.there (.there (.there (.there (.there (.there (.there (.there (.there (.there (.there (.there .here)))))))))))) | exact .there (.there (.there (.there (.there (.there (.there (.there (.there (.there (.there (.there (.there (.there .here))))))))))))) | exact .there (.there (.there (.there (.there (.there (.there (.there (.there (.there (.there (.there (.there (.there (.there .here))))))))))))))) (by repeat (first | exact Sub.nil | refine Sub.cons ?_ ?_ | exact In.here | refine In.there ?_)) Fp.el22 Fp.ni22 hB ((BB.lit [UInt8.ofNat (x / 256 ^ (n - 1 - j))] rfl rfl).bs (hH.get (b := b24) .here)) (by first | omega | (simp only [List.length_append, List.length_nil, List.length_cons, List.length_take, List.length_drop, beB_len]; omega)) (by assumption) rfl ?_
    clear hS hH; intro a w b1 c1 k1 hw1 hB1 hS hH
    refine r_assign hS hH.kp0 rfl rfl ?_; clear hS; intro a hS
    refine Sq.nil ?_
    refine blk_n ?_
    refine then_n ?_
    refine reg_plain w0 (Nobody) ?_
    first | refine r_add hS hH.kp0 rfl rfl rfl (by omega) ?_ | refine r_addw hS hH.kp0 rfl rfl rfl ?_
    clear hS; intro a hS
    refine r_move hS hH.kp0 rfl rfl ?_; clear hS; intro a hS
    refine Sq.nil ?_
    refine then_n ?_
    rw [List.append_assoc, ← beB_take (by omega)] at hB1 hS
    refine ⟨m - 1, by omega, j + 1, _, b1, c1, k1, by omega, ?_, hw1, hB1, hS.live ⟨rfl, rfl, rfl, rfl, rfl, trivial⟩, hH.sub (by repeat (first | exact Sub.nil | refine Sub.cons ?_ ?_ | exact In.here | refine In.there ?_)) (by simp)⟩
    omega
  · have hje : j = n := by have := of_decide_eq_false hc0; omega
    subst hje
    refine wp_exit ?_
    refine then_e ?_
    refine then_e ?_
    refine blk_hit ?_
    refine then_n ?_
    refine c_seq ?_
    refine reg_plain w0 (Nobody) ?_
    refine r_move hS hH.kp0 rfl rfl ?_; clear hS; intro a hS
    refine r_assign hS hH.kp0 rfl rfl ?_; clear hS; intro a hS
    refine Sq.nil ?_
    refine then_n ?_
    refine wp_ret ?_
    rw [List.take_of_length_le (Nat.le_of_eq (beB_len x j))] at hB hS
    exact leave (.inl rfl) hS rfl (Res.tmp rfl Res.nil) ⟨_, rfl, ⟨b, cc, k, rfl, hb0, hH.get .here, hB⟩, hH.mod⟩

set_option maxRecDepth 100000 in
set_option maxHeartbeats 400000 in
theorem Put_some (q : Addr) (qc : Nat) (u : List UInt8) (x n : Nat) (hl : u.length ≤ 1099511627700) (hx : x < 18446744073709551616) (hn1 : 1 ≤ n) (hn : n ≤ 8) (w0 : World) (hb : Bs w0 (.slice (some q) u.length qc) u) : Calls Tryd.prog 44 #[.slice (some q) u.length qc, .int .u64 (x : Int), .int .i64 (n : Int)] w0 fun e w' => ∃ v, e = .returned (.tuple #[v, .int .i64 0]) ∧ NB w0.heap.size 5 w' v (u ++ beB x n) ∧ Ext w0 w' := by
  refine enter Tryd.func44 rfl rfl rfl ?_
  intro a hS
  have hH := Hp.start w0 (Nobody)
  refine c_seq ?_
  refine reg_plain w0 (Nobody) ?_
  refine r_assign hS hH.kp0 rfl rfl ?_; clear hS; intro a hS
  refine r_assign hS hH.kp0 rfl rfl ?_; clear hS; intro a hS
  refine Sq.nil ?_
  refine then_n ?_
  refine c_seq ?_
  refine c_seq ?_
  refine reg_plain w0 (Nobody) ?_
  refine r_move hS hH.kp0 rfl rfl ?_; clear hS; intro a hS
  refine r_lss hS hH.kp0 rfl rfl rfl ?_; clear hS; intro a hS
  refine r_move hS hH.kp0 rfl rfl ?_; clear hS; intro a hS
  refine Sq.guardYes hS rfl rfl (DF (by omega)) ?_
  refine r_move hS hH.kp0 rfl rfl ?_; clear hS; intro a hS
  refine Sq.guardYes hS rfl rfl (DF (by omega)) ?_
  refine r_gtr hS hH.kp0 rfl rfl rfl ?_; clear hS; intro a hS
  refine r_pickF hS hH.kp0 rfl (DF (by omega)) rfl rfl ?_; clear hS; intro a hS
  refine Sq.nil ?_
  refine then_n ?_
  refine c_condF hS rfl (DF (by omega)) ?_
  refine wp_skip ?_
  refine then_n ?_
  refine c_seq ?_
  refine reg_plain w0 (Nobody) ?_
  refine r_move hS hH.kp0 rfl rfl ?_; clear hS; intro a hS
  refine r_move hS hH.kp0 rfl rfl ?_; clear hS; intro a hS
  refine r_move hS hH.kp0 rfl rfl ?_; clear hS; intro a hS
  refine r_call (l := [.tmp 14, .tmp 15, .tmp 16]) hS rfl rfl Fp.fn55 rfl ?_
  refine Calls.mono (lay_some q qc u x n hl hx hn _ (hb.ext hH.mod)) ?_
  rintro e w1 ⟨v, rfl, hN, hE⟩
  have hN := hN.mono hH.mod.size
  replace hH := hH.ext hE
  refine ⟨_, rfl, hH.kp0, ?_⟩
  clear hS; intro a hS
  refine r_assign hS hH.kp0 rfl rfl ?_; clear hS; intro a hS
  refine r_assign hS hH.kp0 rfl rfl ?_; clear hS; intro a hS
  refine Sq.nil ?_
  refine then_n ?_
  refine wp_ret ?_
  exact leave (.inl rfl) hS rfl (Res.tmp rfl (Res.tmp rfl Res.nil)) ⟨_, rfl, hN, hH.mod⟩

set_option maxRecDepth 100000 in
set_option maxHeartbeats 1000000 in
theorem Bytes_c (x n : Nat) (hx : x < 18446744073709551616) (hn1 : 1 ≤ n) (hn : n ≤ 8) (w0 : World) : Calls Tryd.prog 32 #[.int .u64 (x : Int), .int .i64 (n : Int)] w0 fun e w' => ∃ v, e = .returned v ∧ NB w0.heap.size 5 w' v (beB x n) ∧ Ext w0 w' := by
  refine enter Tryd.func32 rfl rfl rfl ?_
  intro a hS
  have hH := Hp.start w0 (Nobody)
  refine c_seq ?_
  refine reg_plain w0 (Nobody) ?_
  refine r_assign hS hH.kp0 rfl rfl ?_; clear hS; intro a hS
  refine Sq.nil ?_
  refine then_n ?_
  refine c_seq ?_
  refine reg_plain w0 (Nobody) ?_
  refine r_assign hS hH.kp0 rfl rfl ?_; clear hS; intro a hS
  refine Sq.nil ?_
  refine then_n ?_
  refine c_seq ?_
  refine c_seq ?_
  refine reg_plain w0 (Nobody) ?_
  refine r_move hS hH.kp0 rfl rfl ?_; clear hS; intro a hS
  first | refine r_sub hS hH.kp0 rfl rfl rfl (by omega) ?_ | refine r_subw hS hH.kp0 rfl rfl rfl ?_
  clear hS; intro a hS
  refine r_assign hS hH.kp0 rfl rfl ?_; clear hS; intro a hS
  refine Sq.nil ?_
  refine then_n ?_
  refine wp_block ?_
  refine c_loop (fun m a w => ∃ (j : Nat) (i : Int) (gv : Value), m + j = n ∧ i = (n : Int) - 1 - j ∧ ((gv = .slice none 0 0 ∧ j = 0) ∨ (0 < j ∧ NB w0.heap.size 5 w gv ((beB x n).take j))) ∧ St 23 (lv [(0, .int .u64 (x : Int)), (1, .int .i64 (n : Int)), (5, gv), (6, .int .i64 i)]) a ∧ Hp w0 Nobody [] w) (n) ?_ ?_
  · exact ⟨0, _, _, by omega, by omega, .inl ⟨rfl, rfl⟩, hS.live ⟨rfl, rfl, rfl, rfl, trivial⟩, hH⟩
  clear hS hH; intro m a w hI; obtain ⟨j, i, gv, hmj, hi, hO, hS, hH⟩ := hI
  refine c_seq ?_
  refine c_seq ?_
  refine reg_plain w0 (Nobody) ?_
  refine r_move hS hH.kp0 rfl rfl ?_; clear hS; intro a hS
  refine r_geq hS hH.kp0 rfl rfl rfl ?_; clear hS; intro a hS
  refine Sq.nil ?_
  refine then_n ?_
  refine c_cond hS rfl (fun hc0 => ?_) (fun hc0 => ?_)
  · have hjn : j < n := by have := of_decide_eq_true hc0; omega
    refine wp_skip ?_
    refine then_n ?_
    refine c_seq ?_
    refine wp_block ?_
    refine reg_plain w0 (Nobody) ?_
    rcases hO with ⟨rfl, rfl⟩ | ⟨hj0, b, cc, k, rfl, hb0, hbk, hB⟩
    · refine r_move hS hH.kp0 rfl rfl ?_; clear hS; intro a hS
      refine r_move hS hH.kp0 rfl rfl ?_; clear hS; intro a hS
      refine r_move hS hH.kp0 rfl rfl ?_; clear hS; intro a hS
      first | refine r_mul hS hH.kp0 rfl rfl rfl (by omega) ?_ | refine r_mulw hS hH.kp0 rfl rfl rfl ?_
      clear hS; intro a hS
      refine r_toU64 (8 * (n - 1 - 0)) hS hH.kp0 rfl Fp.ui30 Fp.us3 rfl (by omega) (by omega) ?_; clear hS; intro a hS
      refine r_shrN (m := x) (8 * (n - 1 - 0)) (x / 256 ^ (n - 1 - 0)) hS hH.kp0 rfl rfl rfl rfl (by omega) (shr_pow _ _) ?_; clear hS; intro a hS
      refine r_toU8 (q := x / 256 ^ (n - 1 - 0)) (UInt8.ofNat (x / 256 ^ (n - 1 - 0))) hS hH.kp0 rfl Fp.ui5 Fp.us36 rfl rfl ?_; clear hS; intro a hS
      refine r_buildSlice (parts := [(0, .tmp 19)]) hS hH (by repeat (first | exact Sub.nil | refine Sub.cons ?_ ?_ | exact In.here | refine In.there ?_)) rfl Fp.bsl22_1 (by rfl) rfl ?_
      clear hS hH; intro a w b20 hb20 hwb20 hS hH
      refine r_append_nil hS hH (by repeat (first | exact Sub.nil | refine Sub.cons ?_ ?_ | exact In.here | refine In.there ?_)) rfl rfl Fp.el22 Fp.ni22 (((BB.lit [UInt8.ofNat (x / 256 ^ (n - 1 - 0))] rfl rfl).bs (hH.get (b := b20) .here))).src (by simp) (by first | omega | (simp only [List.length_append, List.length_nil, List.length_cons, List.length_take, List.length_drop, beB_len]; omega)) rfl ?_
      clear hS hH; intro a w b1 c1 k1 hw1 hww1 hl1 hm1 htk1 hEx1 hS hH
      have hB1 : BB c1 k1 ((beB x n).take 0 ++ [UInt8.ofNat (x / 256 ^ (n - 1 - 0))]) := ⟨by rw [hl1, Nat.mul_one], hm1, by rw [Nat.mul_one] at htk1; exact htk1⟩
      rw [show ([UInt8.ofNat (x / 256 ^ (n - 1 - 0))] : List UInt8).length = ((beB x n).take 0 ++ [UInt8.ofNat (x / 256 ^ (n - 1 - 0))]).length from by simp] at hS
      refine r_assign hS hH.kp0 rfl rfl ?_; clear hS; intro a hS
      refine Sq.nil ?_
      refine blk_n ?_
      refine then_n ?_
      refine reg_plain w0 (Nobody) ?_
      refine r_move hS hH.kp0 rfl rfl ?_; clear hS; intro a hS
      first | refine r_sub hS hH.kp0 rfl rfl rfl (by omega) ?_ | refine r_subw hS hH.kp0 rfl rfl rfl ?_
      clear hS; intro a hS
      refine r_assign hS hH.kp0 rfl rfl ?_; clear hS; intro a hS
      refine Sq.nil ?_
      refine then_n ?_
      rw [← beB_take (i := 0) (by omega)] at hB1 hS
      refine ⟨m - 1, by omega, 0 + 1, _, _, by omega, ?_, .inr ⟨by omega, b1, c1, k1, rfl, hw1, hH.get (b := b1) .here, hB1⟩, hS.live ⟨rfl, rfl, rfl, rfl, trivial⟩, hH.sub .nil (by simp)⟩
      omega
    · replace hH := hH.know hbk (fun p hp => by simp at hp)
      refine r_move hS hH.kp0 rfl rfl ?_; clear hS; intro a hS
      refine r_move hS hH.kp0 rfl rfl ?_; clear hS; intro a hS
      refine r_move hS hH.kp0 rfl rfl ?_; clear hS; intro a hS
      first | refine r_mul hS hH.kp0 rfl rfl rfl (by omega) ?_ | refine r_mulw hS hH.kp0 rfl rfl rfl ?_
      clear hS; intro a hS
      refine r_toU64 (8 * (n - 1 - j)) hS hH.kp0 rfl Fp.ui30 Fp.us3 rfl (by omega) (by omega) ?_; clear hS; intro a hS
      refine r_shrN (m := x) (8 * (n - 1 - j)) (x / 256 ^ (n - 1 - j)) hS hH.kp0 rfl rfl rfl rfl (by omega) (shr_pow _ _) ?_; clear hS; intro a hS
      refine r_toU8 (q := x / 256 ^ (n - 1 - j)) (UInt8.ofNat (x / 256 ^ (n - 1 - j))) hS hH.kp0 rfl Fp.ui5 Fp.us36 rfl rfl ?_; clear hS; intro a hS
      refine r_buildSlice (parts := [(0, .tmp 19)]) hS hH (by repeat (first | exact Sub.nil | refine Sub.cons ?_ ?_ | exact In.here | refine In.there ?_)) rfl Fp.bsl22_1 (by rfl) rfl ?_
      clear hS hH; intro a w b20 hb20 hwb20 hS hH
      refine r_appB (l := k) ((beB x n).take j) ([UInt8.ofNat (x / 256 ^ (n - 1 - j))]) hS hH rfl rfl (by first | exact .here | exact .there .here | exact .there (.there .here) | exact .there (.there (.there .here)) | exact .there (.there (.there (.there .here))) | exact .there (.there (.there (.there (.there .here)))) | exact .there (.there (.there (.there (.there (.there .here))))) | exact .there (.there (.there (.there (.there (.there (.there .here)))))) | exact .there (.there (.there (.there (.there (.there (.there (.there .here))))))) | exact .there (.there (.there (.there (.there (.there (.there (.there (.there .here)))))))) | exact .there (.there (.there (.there (.there (.there (.there (.there (.there (.there .here))))))))) | exact .there (.there (.there (.there (.there (.there (.there (.there (.there (.there (.there .here)))))))))) | exact .there (.there (.there (.there (.there (.there (.there (.there (.there (.there (.there (.there .here))))))))))) | exact .there (.there (.there (.there (.there (.there (.there (.there (.there (.there (.there (.there (.there .here)))))))))))) | exact .there (.there (.there (.there (.there (.there (.there (.there (.there (.there (.there (.there (.there (.there .here))))))))))))) | exact .there (.there (.there (.there (.there (.there (.there (.there (.there (.there (.there (.there (.there (.there (.there .here))))))))))))))) (by repeat (first | exact Sub.nil | refine Sub.cons ?_ ?_ | exact In.here | refine In.there ?_)) Fp.el22 Fp.ni22 hB ((BB.lit [UInt8.ofNat (x / 256 ^ (n - 1 - j))] rfl rfl).bs (hH.get (b := b20) .here)) (by first | omega | (simp only [List.length_append, List.length_nil, List.length_cons, List.length_take, List.length_drop, beB_len]; omega)) (by assumption) rfl ?_
      clear hS hH; intro a w b1 c1 k1 hw1 hB1 hS hH
      refine r_assign hS hH.kp0 rfl rfl ?_; clear hS; intro a hS
      refine Sq.nil ?_
      refine blk_n ?_
      refine then_n ?_
      refine reg_plain w0 (Nobody) ?_
      refine r_move hS hH.kp0 rfl rfl ?_; clear hS; intro a hS
      first | refine r_sub hS hH.kp0 rfl rfl rfl (by omega) ?_ | refine r_subw hS hH.kp0 rfl rfl rfl ?_
      clear hS; intro a hS
      refine r_assign hS hH.kp0 rfl rfl ?_; clear hS; intro a hS
      refine Sq.nil ?_
      refine then_n ?_
      rw [← beB_take (by omega)] at hB1 hS
      refine ⟨m - 1, by omega, j + 1, _, _, by omega, ?_, .inr ⟨by omega, b1, c1, k1, rfl, hw1, hH.get (b := b1) .here, hB1⟩, hS.live ⟨rfl, rfl, rfl, rfl, trivial⟩, hH.sub .nil (by simp)⟩
      omega
  · have hje : j = n := by have := of_decide_eq_false hc0; omega
    subst hje
    refine wp_exit ?_
    refine then_e ?_
    refine then_e ?_
    refine blk_hit ?_
    refine then_n ?_
    refine c_seq ?_
    refine reg_plain w0 (Nobody) ?_
    refine r_move hS hH.kp0 rfl rfl ?_; clear hS; intro a hS
    refine r_assign hS hH.kp0 rfl rfl ?_; clear hS; intro a hS
    refine Sq.nil ?_
    refine then_n ?_
    refine wp_ret ?_
    obtain ⟨_, hO⟩ := hO.resolve_left (fun h => by have := h.2; omega)
    rw [List.take_of_length_le (Nat.le_of_eq (beB_len x j))] at hO
    exact leave (.inl rfl) hS rfl (Res.tmp rfl Res.nil) ⟨_, rfl, hO, hH.mod⟩

end Go.Proofs.YtcenionnedgadaaDoor

namespace Go.Proofs.YtcenionnedgadaaDoor
open Go.Sym

theorem Fp.ar92 : arrB Tryd.prog 92 = some (4, 1) := by kernel_rfl
theorem Fp.fn32 : isFn Tryd.prog 32 = true := by kernel_rfl
theorem Fp.fn34 : isFn Tryd.prog 34 = true := by kernel_rfl
theorem Fp.fn46 : isFn Tryd.prog 46 = true := by kernel_rfl
theorem Fp.fn47 : isFn Tryd.prog 47 = true := by kernel_rfl
theorem Fp.fn48 : isFn Tryd.prog 48 = true := by kernel_rfl
theorem Fp.fn50 : isFn Tryd.prog 50 = true := by kernel_rfl
theorem Fp.isSlice23 : isSlice Tryd.prog 23 = true := by kernel_rfl
theorem Fp.sc3 : scB Tryd.prog 3 = true := by kernel_rfl
theorem Fp.slb23 : slB Tryd.prog 23 = some 1 := by kernel_rfl
theorem Fp.ui36 : Tryd.prog.underlying 36 = some (.int .u64) := by kernel_rfl
set_option maxRecDepth 100000 in
set_option maxHeartbeats 400000 in
theorem wide_c (q : Addr) (qc : Nat) (u : List UInt8) (v k : Nat) (hl : u.length ≤ 1099511627700) (hk : k ≤ 3) (hv : v < 2 ^ (8 * 2 ^ k - 2)) (w0 : World) (hb : Bs w0 (.slice (some q) u.length qc) u) : Calls Tryd.prog 47 #[.slice (some q) u.length qc, .int .i64 (v : Int), .int .i64 (k : Int)] w0 fun e w' => ∃ r, e = .returned r ∧ NB w0.heap.size 5 w' r (u ++ wideB v k) ∧ Ext w0 w' := by
  refine enter Tryd.func47 rfl rfl rfl ?_
  intro a hS
  have hH := Hp.start w0 (Nobody)
  obtain ⟨hz8, hz1⟩ := pow3 hk
  have hbd := wide_bd hk hv
  refine c_seq ?_
  refine reg_plain w0 (Nobody) ?_
  refine r_assign hS hH.kp0 rfl rfl ?_; clear hS; intro a hS
  refine Sq.nil ?_
  refine then_n ?_
  refine c_seq ?_
  refine reg_plain w0 (Nobody) ?_
  refine r_move hS hH.kp0 rfl rfl ?_; clear hS; intro a hS
  refine r_shlI k hS hH.kp0 rfl rfl rfl rfl (by omega) ?_; clear hS; intro a hS
  refine r_assign hS hH.kp0 rfl rfl ?_; clear hS; intro a hS
  refine Sq.nil ?_
  refine then_n ?_
  refine c_seq ?_
  refine reg_plain w0 (Nobody) ?_
  refine r_move hS hH.kp0 rfl rfl ?_; clear hS; intro a hS
  refine r_move hS hH.kp0 rfl rfl ?_; clear hS; intro a hS
  refine r_toU64 (v) hS hH.kp0 rfl Fp.ui36 Fp.us3 rfl rfl (by omega) ?_; clear hS; intro a hS
  refine r_move hS hH.kp0 rfl rfl ?_; clear hS; intro a hS
  refine r_toU64 (k) hS hH.kp0 rfl Fp.ui36 Fp.us3 rfl rfl (by omega) ?_; clear hS; intro a hS
  refine r_move hS hH.kp0 rfl rfl ?_; clear hS; intro a hS
  refine r_mul hS hH.kp0 rfl rfl rfl (by omega) ?_; clear hS; intro a hS
  refine r_sub hS hH.kp0 rfl rfl rfl (by omega) ?_; clear hS; intro a hS
  refine r_shlN (m := k) (8 * 2 ^ k - 2) (k * 2 ^ (8 * 2 ^ k - 2)) hS hH.kp0 rfl rfl rfl (by omega) (by omega) (Nat.mod_eq_of_lt (by omega)) ?_; clear hS; intro a hS
  refine r_orN (m := v) (m' := k * 2 ^ (8 * 2 ^ k - 2)) (v + k * 2 ^ (8 * 2 ^ k - 2)) hS hH.kp0 rfl rfl rfl (by omega) (by omega) (wide_or hv) ?_; clear hS; intro a hS
  refine r_move hS hH.kp0 rfl rfl ?_; clear hS; intro a hS
  refine r_call (l := [.tmp 10, .tmp 19, .tmp 20]) hS rfl rfl Fp.fn55 rfl ?_
  refine Calls.mono (lay_some q qc u (v + k * 2 ^ (8 * 2 ^ k - 2)) (2 ^ k) hl hbd hz8 _ (hb.ext hH.mod)) ?_
  rintro e w1 ⟨r, rfl, hN, hE⟩
  have hN := hN.mono hH.mod.size
  replace hH := hH.ext hE
  refine ⟨_, rfl, hH.kp0, ?_⟩
  clear hS; intro a hS
  refine r_assign hS hH.kp0 rfl rfl ?_; clear hS; intro a hS
  refine Sq.nil ?_
  refine then_n ?_
  refine wp_ret ?_
  exact leave (.inl rfl) hS rfl (Res.tmp rfl Res.nil) ⟨_, rfl, hN, hH.mod⟩

set_option maxRecDepth 100000 in
set_option maxHeartbeats 400000 in
theorem form_0 (v : Nat) (hv : v < 64) (w0 : World) (WT : TypeId) (WF : Nat × Nat) (hw0 : w0.heap[0]? = some (.cells [.int .i64 6, .int .i64 14, .int .i64 30, .int .i64 62].toArray WT WF)) : Calls Tryd.prog 48 #[.int .i64 (v : Int)] w0 fun e w' => e = .returned (.int .i64 0) ∧ Ext w0 w' := by
  refine enter Tryd.func48 rfl rfl rfl ?_
  intro a hS
  have hH := Hp.start w0 (Nobody)
  replace hH := hH.know hw0 (fun p hp => by simp at hp)
  refine c_seq ?_
  refine reg_plain w0 (Nobody) ?_
  refine r_assign hS hH.kp0 rfl rfl ?_; clear hS; intro a hS
  refine Sq.nil ?_
  refine then_n ?_
  refine c_seq ?_
  refine c_seq ?_
  refine reg_plain w0 (Nobody) ?_
  refine r_move hS hH.kp0 rfl rfl ?_; clear hS; intro a hS
  refine Sq.nil ?_
  refine then_n ?_
  refine wp_block ?_
  refine wp_loop_rounds 4 ?_
  refine rnd ?_
  refine c_seq ?_
  refine reg_plain w0 (Nobody) ?_
  refine r_lss hS hH.kp0 rfl rfl rfl ?_; clear hS; intro a hS
  refine Sq.nil ?_
  refine then_n ?_
  refine c_seq ?_
  refine c_condT hS rfl rfl ?_
  refine wp_skip ?_
  refine then_n ?_
  refine c_seq ?_
  refine wp_block ?_
  refine c_seq ?_
  refine reg_plain w0 (Nobody) ?_
  refine r_move hS hH.kp0 rfl rfl ?_; clear hS; intro a hS
  refine r_assign hS hH.kp0 rfl rfl ?_; clear hS; intro a hS
  refine Sq.nil ?_
  refine then_n ?_
  refine c_seq ?_
  refine reg_plain w0 (Nobody) ?_
  refine r_move hS hH.kp0 rfl rfl ?_; clear hS; intro a hS
  refine r_move hS hH.kp0 rfl rfl ?_; clear hS; intro a hS
  refine r_indexAddrA hS hH.kp0 rfl rfl Fp.ar92 rfl (by decide) rfl ?_; clear hS; intro a hS
  refine r_load_sc hS hH (by repeat (first | exact Sub.nil | refine Sub.cons ?_ ?_ | exact In.here | refine In.there ?_)) rfl (by repeat (first | exact In.here | refine In.there ?_)) Fp.sc3 (by rfl) rfl ?_; clear hS; intro a hS
  refine r_shrI v 6 hS hH.kp0 rfl rfl rfl rfl (by decide) ?_; clear hS; intro a hS
  refine r_eql hS hH.kp0 rfl rfl rfl ?_; clear hS; intro a hS
  refine Sq.nil ?_
  refine then_n ?_
  refine c_condT hS rfl (beq_iff_eq.2 (by omega)) ?_
  refine c_seq ?_
  refine reg_plain w0 (Nobody) ?_
  refine r_move hS hH.kp0 rfl rfl ?_; clear hS; intro a hS
  refine r_assign hS hH.kp0 rfl rfl ?_; clear hS; intro a hS
  refine Sq.nil ?_
  refine then_n ?_
  refine wp_ret ?_
  refine blk_r ?_
  refine then_r ?_
  refine then_r ?_
  refine blk_r ?_
  refine then_r ?_
  exact leave (.inl rfl) hS rfl (Res.tmp rfl Res.nil) ⟨rfl, hH.mod⟩

set_option maxRecDepth 100000 in
set_option maxHeartbeats 400000 in
theorem form_1 (v : Nat) (hv : 64 ≤ v ∧ v < 16384) (w0 : World) (WT : TypeId) (WF : Nat × Nat) (hw0 : w0.heap[0]? = some (.cells [.int .i64 6, .int .i64 14, .int .i64 30, .int .i64 62].toArray WT WF)) : Calls Tryd.prog 48 #[.int .i64 (v : Int)] w0 fun e w' => e = .returned (.int .i64 1) ∧ Ext w0 w' := by
  refine enter Tryd.func48 rfl rfl rfl ?_
  intro a hS
  have hH := Hp.start w0 (Nobody)
  replace hH := hH.know hw0 (fun p hp => by simp at hp)
  refine c_seq ?_
  refine reg_plain w0 (Nobody) ?_
  refine r_assign hS hH.kp0 rfl rfl ?_; clear hS; intro a hS
  refine Sq.nil ?_
  refine then_n ?_
  refine c_seq ?_
  refine c_seq ?_
  refine reg_plain w0 (Nobody) ?_
  refine r_move hS hH.kp0 rfl rfl ?_; clear hS; intro a hS
  refine Sq.nil ?_
  refine then_n ?_
  refine wp_block ?_
  refine wp_loop_rounds 4 ?_
  refine rnd ?_
  refine c_seq ?_
  refine reg_plain w0 (Nobody) ?_
  refine r_lss hS hH.kp0 rfl rfl rfl ?_; clear hS; intro a hS
  refine Sq.nil ?_
  refine then_n ?_
  refine c_seq ?_
  refine c_condT hS rfl rfl ?_
  refine wp_skip ?_
  refine then_n ?_
  refine c_seq ?_
  refine wp_block ?_
  refine c_seq ?_
  refine reg_plain w0 (Nobody) ?_
  refine r_move hS hH.kp0 rfl rfl ?_; clear hS; intro a hS
  refine r_assign hS hH.kp0 rfl rfl ?_; clear hS; intro a hS
  refine Sq.nil ?_
  refine then_n ?_
  refine c_seq ?_
  refine reg_plain w0 (Nobody) ?_
  refine r_move hS hH.kp0 rfl rfl ?_; clear hS; intro a hS
  refine r_move hS hH.kp0 rfl rfl ?_; clear hS; intro a hS
  refine r_indexAddrA hS hH.kp0 rfl rfl Fp.ar92 rfl (by decide) rfl ?_; clear hS; intro a hS
  refine r_load_sc hS hH (by repeat (first | exact Sub.nil | refine Sub.cons ?_ ?_ | exact In.here | refine In.there ?_)) rfl (by repeat (first | exact In.here | refine In.there ?_)) Fp.sc3 (by rfl) rfl ?_; clear hS; intro a hS
  refine r_shrI v 6 hS hH.kp0 rfl rfl rfl rfl (by decide) ?_; clear hS; intro a hS
  refine r_eql hS hH.kp0 rfl rfl rfl ?_; clear hS; intro a hS
  refine Sq.nil ?_
  refine then_n ?_
  refine c_condF hS rfl (beq_false_of_ne (by omega)) ?_
  refine wp_skip ?_
  refine blk_n ?_
  refine then_n ?_
  refine reg_plain w0 (Nobody) ?_
  first | refine r_add hS hH.kp0 rfl rfl rfl (by omega) ?_ | refine r_addw hS hH.kp0 rfl rfl rfl ?_
  clear hS; intro a hS
  refine r_move hS hH.kp0 rfl rfl ?_; clear hS; intro a hS
  refine Sq.nil ?_
  refine then_n ?_
  refine rnd ?_
  refine c_seq ?_
  refine reg_plain w0 (Nobody) ?_
  refine r_lss hS hH.kp0 rfl rfl rfl ?_; clear hS; intro a hS
  refine Sq.nil ?_
  refine then_n ?_
  refine c_seq ?_
  refine c_condT hS rfl rfl ?_
  refine wp_skip ?_
  refine then_n ?_
  refine c_seq ?_
  refine wp_block ?_
  refine c_seq ?_
  refine reg_plain w0 (Nobody) ?_
  refine r_move hS hH.kp0 rfl rfl ?_; clear hS; intro a hS
  refine r_assign hS hH.kp0 rfl rfl ?_; clear hS; intro a hS
  refine Sq.nil ?_
  refine then_n ?_
  refine c_seq ?_
  refine reg_plain w0 (Nobody) ?_
  refine r_move hS hH.kp0 rfl rfl ?_; clear hS; intro a hS
  refine r_move hS hH.kp0 rfl rfl ?_; clear hS; intro a hS
  refine r_indexAddrA hS hH.kp0 rfl rfl Fp.ar92 rfl (by decide) rfl ?_; clear hS; intro a hS
  refine r_load_sc hS hH (by repeat (first | exact Sub.nil | refine Sub.cons ?_ ?_ | exact In.here | refine In.there ?_)) rfl (by repeat (first | exact In.here | refine In.there ?_)) Fp.sc3 (by rfl) rfl ?_; clear hS; intro a hS
  refine r_shrI v 14 hS hH.kp0 rfl rfl rfl rfl (by decide) ?_; clear hS; intro a hS
  refine r_eql hS hH.kp0 rfl rfl rfl ?_; clear hS; intro a hS
  refine Sq.nil ?_
  refine then_n ?_
  refine c_condT hS rfl (beq_iff_eq.2 (by omega)) ?_
  refine c_seq ?_
  refine reg_plain w0 (Nobody) ?_
  refine r_move hS hH.kp0 rfl rfl ?_; clear hS; intro a hS
  refine r_assign hS hH.kp0 rfl rfl ?_; clear hS; intro a hS
  refine Sq.nil ?_
  refine then_n ?_
  refine wp_ret ?_
  refine blk_r ?_
  refine then_r ?_
  refine then_r ?_
  refine blk_r ?_
  refine then_r ?_
  exact leave (.inl rfl) hS rfl (Res.tmp rfl Res.nil) ⟨rfl, hH.mod⟩


theorem form_c (v : Nat) (hv : v < 16384) (w0 : World) (WT : TypeId) (WF : Nat × Nat) (hw0 : w0.heap[0]? = some (.cells [.int .i64 6, .int .i64 14, .int .i64 30, .int .i64 62].toArray WT WF)) : Calls Tryd.prog 48 #[.int .i64 (v : Int)] w0 fun e w' => e = .returned (.int .i64 (formK v : Int)) ∧ Ext w0 w' := by
  by_cases h : v < 64
  · rw [show formK v = 0 from if_pos h]; exact form_0 v h w0 WT WF hw0
  · rw [show formK v = 1 from by unfold formK; rw [if_neg h, if_pos hv]]; exact form_1 v ⟨by omega, hv⟩ w0 WT WF hw0

set_option maxRecDepth 100000 in
set_option maxHeartbeats 400000 in
theorem lies_c (v : Nat) (hv : v < 16384) (w0 : World) : Calls Tryd.prog 46 #[.int .i64 (v : Int)] w0 fun e w' => e = .returned (.bool true) ∧ Ext w0 w' := by
  refine enter Tryd.func46 rfl rfl rfl ?_
  intro a hS
  have hH := Hp.start w0 (Nobody)
  refine c_seq ?_
  refine reg_plain w0 (Nobody) ?_
  refine r_assign hS hH.kp0 rfl rfl ?_; clear hS; intro a hS
  refine Sq.nil ?_
  refine then_n ?_
  refine c_seq ?_
  refine reg_plain w0 (Nobody) ?_
  refine r_move hS hH.kp0 rfl rfl ?_; clear hS; intro a hS
  refine r_geq hS hH.kp0 rfl rfl rfl ?_; clear hS; intro a hS
  refine r_move hS hH.kp0 rfl rfl ?_; clear hS; intro a hS
  refine Sq.guardYes hS rfl rfl (DT (by omega)) ?_
  refine r_move hS hH.kp0 rfl rfl ?_; clear hS; intro a hS
  refine Sq.guardYes hS rfl rfl (DT (by omega)) ?_
  refine r_leq hS hH.kp0 rfl rfl rfl ?_; clear hS; intro a hS
  refine r_pickT hS hH.kp0 rfl (DT (by omega)) rfl rfl ?_; clear hS; intro a hS
  refine r_assign hS hH.kp0 rfl rfl ?_; clear hS; intro a hS
  refine Sq.nil ?_
  refine then_n ?_
  refine wp_ret ?_
  rw [show decide ((v : Int) ≤ 4611686018427387903) = true from DT (by omega)] at hS
  exact leave (.inl rfl) hS rfl (Res.tmp rfl Res.nil) ⟨rfl, hH.mod⟩

set_option maxRecDepth 100000 in
set_option maxHeartbeats 400000 in
theorem PutVar_c (q : Addr) (qc : Nat) (u : List UInt8) (v : Nat) (hl : u.length ≤ 1099511627700) (hv : v < 16384) (w0 : World) (WT : TypeId) (WF : Nat × Nat) (hw0 : w0.heap[0]? = some (.cells [.int .i64 6, .int .i64 14, .int .i64 30, .int .i64 62].toArray WT WF)) (hb : Bs w0 (.slice (some q) u.length qc) u) : Calls Tryd.prog 29 #[.slice (some q) u.length qc, .int .i64 (v : Int)] w0 fun e w' => ∃ r, e = .returned (.tuple #[r, .int .i64 0]) ∧ NB w0.heap.size 5 w' r (u ++ wideB v (formK v)) ∧ Ext w0 w' := by
  refine enter Tryd.func29 rfl rfl rfl ?_
  intro a hS
  have hH := Hp.start w0 (Nobody)
  replace hH := hH.know hw0 (fun p hp => by simp at hp)
  refine c_seq ?_
  refine reg_plain w0 (Nobody) ?_
  refine r_assign hS hH.kp0 rfl rfl ?_; clear hS; intro a hS
  refine r_assign hS hH.kp0 rfl rfl ?_; clear hS; intro a hS
  refine Sq.nil ?_
  refine then_n ?_
  refine c_seq ?_
  refine c_seq ?_
  refine reg_plain w0 (Nobody) ?_
  refine r_move hS hH.kp0 rfl rfl ?_; clear hS; intro a hS
  refine r_call (l := [.tmp 6]) hS rfl rfl Fp.fn46 rfl ?_
  refine Calls.mono (lies_c v hv _) ?_
  rintro e w1 ⟨rfl, hE⟩
  replace hH := hH.ext hE
  refine ⟨_, rfl, hH.kp0, ?_⟩
  clear hS; intro a hS
  refine r_not hS hH.kp0 rfl rfl ?_; clear hS; intro a hS
  refine Sq.nil ?_
  refine then_n ?_
  refine c_condF hS rfl rfl ?_
  refine wp_skip ?_
  refine then_n ?_
  refine c_seq ?_
  refine reg_plain w0 (Nobody) ?_
  refine r_move hS hH.kp0 rfl rfl ?_; clear hS; intro a hS
  refine r_move hS hH.kp0 rfl rfl ?_; clear hS; intro a hS
  refine r_move hS hH.kp0 rfl rfl ?_; clear hS; intro a hS
  refine r_call (l := [.tmp 11]) hS rfl rfl Fp.fn48 rfl ?_
  refine Calls.mono (form_c v hv _ WT WF (hH.get (b := 0) (by repeat (first | exact In.here | refine In.there ?_)))) ?_
  rintro e w1 ⟨rfl, hE⟩
  replace hH := hH.ext hE
  refine ⟨_, rfl, hH.kp0, ?_⟩
  clear hS; intro a hS
  refine r_call (l := [.tmp 9, .tmp 10, .tmp 12]) hS rfl rfl Fp.fn47 rfl ?_
  refine Calls.mono (wide_c q qc u v (formK v) hl (formK_le v) (formK_fit (by omega)) _ (hb.ext hH.mod)) ?_
  rintro e w1 ⟨r, rfl, hN, hE⟩
  have hN := hN.mono hH.mod.size
  replace hH := hH.ext hE
  refine ⟨_, rfl, hH.kp0, ?_⟩
  clear hS; intro a hS
  refine r_assign hS hH.kp0 rfl rfl ?_; clear hS; intro a hS
  refine r_assign hS hH.kp0 rfl rfl ?_; clear hS; intro a hS
  refine Sq.nil ?_
  refine then_n ?_
  refine wp_ret ?_
  exact leave (.inl rfl) hS rfl (Res.tmp rfl (Res.tmp rfl Res.nil)) ⟨_, rfl, hN, hH.mod⟩

set_option maxRecDepth 100000 in
set_option maxHeartbeats 400000 in
theorem Index_2 (b : Nat) (w0 : World) (h : w0.heap[b]? = some (.cells [.int .i64 1, .int .i64 2, .int .i64 4, .int .i64 8].toArray 3 (0, 0))) : Calls Tryd.prog 49 #[.slice (some ⟨b, 0, none⟩) 4 4, .int .i64 2] w0 fun e w' => e = .returned (.int .i64 1) ∧ Ext w0 w' := by
  refine enter Tryd.func49 rfl rfl rfl ?_
  intro a hS
  have hH := Hp.start w0 (Nobody)
  replace hH := hH.know h (fun p hp => by simp at hp)
  refine c_seq ?_
  refine reg_plain w0 (Nobody) ?_
  refine r_assign hS hH.kp0 rfl rfl ?_; clear hS; intro a hS
  refine Sq.nil ?_
  refine then_n ?_
  refine c_seq ?_
  refine c_seq ?_
  refine reg_plain w0 (Nobody) ?_
  refine r_move hS hH.kp0 rfl rfl ?_; clear hS; intro a hS
  refine r_lenSl hS hH.kp0 rfl Fp.isSlice23 rfl ?_; clear hS; intro a hS
  refine r_move hS hH.kp0 rfl rfl ?_; clear hS; intro a hS
  refine Sq.nil ?_
  refine then_n ?_
  refine wp_block ?_
  refine wp_loop_rounds 3 ?_
  refine rnd ?_
  refine c_seq ?_
  refine reg_plain w0 (Nobody) ?_
  refine r_lss hS hH.kp0 rfl rfl rfl ?_; clear hS; intro a hS
  refine Sq.nil ?_
  refine then_n ?_
  refine c_seq ?_
  refine c_condT hS rfl rfl ?_
  refine wp_skip ?_
  refine then_n ?_
  refine c_seq ?_
  refine wp_block ?_
  refine c_seq ?_
  refine reg_plain w0 (Nobody) ?_
  refine r_move hS hH.kp0 rfl rfl ?_; clear hS; intro a hS
  refine r_assign hS hH.kp0 rfl rfl ?_; clear hS; intro a hS
  refine Sq.nil ?_
  refine then_n ?_
  refine c_seq ?_
  refine reg_plain w0 (Nobody) ?_
  refine r_move hS hH.kp0 rfl rfl ?_; clear hS; intro a hS
  refine r_move hS hH.kp0 rfl rfl ?_; clear hS; intro a hS
  refine r_move hS hH.kp0 rfl rfl ?_; clear hS; intro a hS
  refine r_indexAddrS hS hH.kp0 rfl rfl Fp.slb23 rfl (by decide) rfl ?_; clear hS; intro a hS
  refine r_load_sc hS hH (by repeat (first | exact Sub.nil | refine Sub.cons ?_ ?_ | exact In.here | refine In.there ?_)) rfl (by repeat (first | exact In.here | refine In.there ?_)) Fp.sc3 (by rfl) rfl ?_; clear hS; intro a hS
  refine r_eql hS hH.kp0 rfl rfl rfl ?_; clear hS; intro a hS
  refine Sq.nil ?_
  refine then_n ?_
  refine c_condF hS rfl rfl ?_
  refine wp_skip ?_
  refine blk_n ?_
  refine then_n ?_
  refine reg_plain w0 (Nobody) ?_
  first | refine r_add hS hH.kp0 rfl rfl rfl (by omega) ?_ | refine r_addw hS hH.kp0 rfl rfl rfl ?_
  clear hS; intro a hS
  refine r_move hS hH.kp0 rfl rfl ?_; clear hS; intro a hS
  refine Sq.nil ?_
  refine then_n ?_
  refine rnd ?_
  refine c_seq ?_
  refine reg_plain w0 (Nobody) ?_
  refine r_lss hS hH.kp0 rfl rfl rfl ?_; clear hS; intro a hS
  refine Sq.nil ?_
  refine then_n ?_
  refine c_seq ?_
  refine c_condT hS rfl rfl ?_
  refine wp_skip ?_
  refine then_n ?_
  refine c_seq ?_
  refine wp_block ?_
  refine c_seq ?_
  refine reg_plain w0 (Nobody) ?_
  refine r_move hS hH.kp0 rfl rfl ?_; clear hS; intro a hS
  refine r_assign hS hH.kp0 rfl rfl ?_; clear hS; intro a hS
  refine Sq.nil ?_
  refine then_n ?_
  refine c_seq ?_
  refine reg_plain w0 (Nobody) ?_
  refine r_move hS hH.kp0 rfl rfl ?_; clear hS; intro a hS
  refine r_move hS hH.kp0 rfl rfl ?_; clear hS; intro a hS
  refine r_move hS hH.kp0 rfl rfl ?_; clear hS; intro a hS
  refine r_indexAddrS hS hH.kp0 rfl rfl Fp.slb23 rfl (by decide) rfl ?_; clear hS; intro a hS
  refine r_load_sc hS hH (by repeat (first | exact Sub.nil | refine Sub.cons ?_ ?_ | exact In.here | refine In.there ?_)) rfl (by repeat (first | exact In.here | refine In.there ?_)) Fp.sc3 (by rfl) rfl ?_; clear hS; intro a hS
  refine r_eql hS hH.kp0 rfl rfl rfl ?_; clear hS; intro a hS
  refine Sq.nil ?_
  refine then_n ?_
  refine c_condT hS rfl rfl ?_
  refine c_seq ?_
  refine reg_plain w0 (Nobody) ?_
  refine r_move hS hH.kp0 rfl rfl ?_; clear hS; intro a hS
  refine r_assign hS hH.kp0 rfl rfl ?_; clear hS; intro a hS
  refine Sq.nil ?_
  refine then_n ?_
  refine wp_ret ?_
  refine blk_r ?_
  refine then_r ?_
  refine then_r ?_
  refine blk_r ?_
  refine then_r ?_
  exact leave (.inl rfl) hS rfl (Res.tmp rfl Res.nil) ⟨rfl, hH.mod⟩

set_option maxRecDepth 100000 in
set_option maxHeartbeats 400000 in
theorem Size_0 (v : Nat) (hv : v < 64) (w0 : World) : Calls Tryd.prog 50 #[.int .i64 (v : Int)] w0 fun e w' => e = .returned (.tuple #[.int .i64 1, .int .i64 0]) ∧ Ext w0 w' := by
  refine enter Tryd.func50 rfl rfl rfl ?_
  intro a hS
  have hH := Hp.start w0 (Nobody)
  refine c_seq ?_
  refine reg_plain w0 (Nobody) ?_
  refine r_assign hS hH.kp0 rfl rfl ?_; clear hS; intro a hS
  refine r_assign hS hH.kp0 rfl rfl ?_; clear hS; intro a hS
  refine Sq.nil ?_
  refine then_n ?_
  refine c_seq ?_
  refine c_seq ?_
  refine reg_plain w0 (Nobody) ?_
  refine r_move hS hH.kp0 rfl rfl ?_; clear hS; intro a hS
  refine r_lss hS hH.kp0 rfl rfl rfl ?_; clear hS; intro a hS
  refine r_move hS hH.kp0 rfl rfl ?_; clear hS; intro a hS
  refine Sq.guardYes hS rfl rfl (DF (by omega)) ?_
  refine r_move hS hH.kp0 rfl rfl ?_; clear hS; intro a hS
  refine Sq.guardYes hS rfl rfl (DF (by omega)) ?_
  refine r_gtr hS hH.kp0 rfl rfl rfl ?_; clear hS; intro a hS
  refine r_pickF hS hH.kp0 rfl (DF (by omega)) rfl rfl ?_; clear hS; intro a hS
  refine Sq.nil ?_
  refine then_n ?_
  refine c_condF hS rfl (DF (by omega)) ?_
  refine wp_skip ?_
  refine then_n ?_
  refine c_seq ?_
  refine reg_plain w0 (Nobody) ?_
  refine r_assign hS hH.kp0 rfl rfl ?_; clear hS; intro a hS
  refine Sq.nil ?_
  refine then_n ?_
  refine c_seq ?_
  refine wp_block ?_
  refine wp_loop_rounds 3 ?_
  refine rnd ?_
  refine c_seq ?_
  refine c_seq ?_
  refine reg_plain w0 (Nobody) ?_
  refine r_move hS hH.kp0 rfl rfl ?_; clear hS; intro a hS
  refine r_move hS hH.kp0 rfl rfl ?_; clear hS; intro a hS
  first | refine r_mul hS hH.kp0 rfl rfl rfl (by omega) ?_ | refine r_mulw hS hH.kp0 rfl rfl rfl ?_
  clear hS; intro a hS
  first | refine r_sub hS hH.kp0 rfl rfl rfl (by omega) ?_ | refine r_subw hS hH.kp0 rfl rfl rfl ?_
  clear hS; intro a hS
  refine r_toU64 6 hS hH.kp0 rfl Fp.ui30 Fp.us3 rfl (by decide) (by decide) ?_; clear hS; intro a hS
  refine r_shlI 6 hS hH.kp0 rfl rfl rfl rfl (by decide) ?_; clear hS; intro a hS
  refine r_geq hS hH.kp0 rfl rfl rfl ?_; clear hS; intro a hS
  refine Sq.nil ?_
  refine then_n ?_
  refine c_condF hS rfl (DF (by omega)) ?_
  refine wp_exit ?_
  refine then_e ?_
  refine then_e ?_
  refine blk_hit ?_
  refine then_n ?_
  refine c_seq ?_
  refine reg_plain w0 (Nobody) ?_
  refine r_move hS hH.kp0 rfl rfl ?_; clear hS; intro a hS
  refine r_assign hS hH.kp0 rfl rfl ?_; clear hS; intro a hS
  refine r_assign hS hH.kp0 rfl rfl ?_; clear hS; intro a hS
  refine Sq.nil ?_
  refine then_n ?_
  refine wp_ret ?_
  exact leave (.inl rfl) hS rfl (Res.tmp rfl (Res.tmp rfl Res.nil)) ⟨rfl, hH.mod⟩

set_option maxRecDepth 100000 in
set_option maxHeartbeats 400000 in
theorem Size_1 (v : Nat) (hv : 64 ≤ v ∧ v < 16384) (w0 : World) : Calls Tryd.prog 50 #[.int .i64 (v : Int)] w0 fun e w' => e = .returned (.tuple #[.int .i64 2, .int .i64 0]) ∧ Ext w0 w' := by
  refine enter Tryd.func50 rfl rfl rfl ?_
  intro a hS
  have hH := Hp.start w0 (Nobody)
  refine c_seq ?_
  refine reg_plain w0 (Nobody) ?_
  refine r_assign hS hH.kp0 rfl rfl ?_; clear hS; intro a hS
  refine r_assign hS hH.kp0 rfl rfl ?_; clear hS; intro a hS
  refine Sq.nil ?_
  refine then_n ?_
  refine c_seq ?_
  refine c_seq ?_
  refine reg_plain w0 (Nobody) ?_
  refine r_move hS hH.kp0 rfl rfl ?_; clear hS; intro a hS
  refine r_lss hS hH.kp0 rfl rfl rfl ?_; clear hS; intro a hS
  refine r_move hS hH.kp0 rfl rfl ?_; clear hS; intro a hS
  refine Sq.guardYes hS rfl rfl (DF (by omega)) ?_
  refine r_move hS hH.kp0 rfl rfl ?_; clear hS; intro a hS
  refine Sq.guardYes hS rfl rfl (DF (by omega)) ?_
  refine r_gtr hS hH.kp0 rfl rfl rfl ?_; clear hS; intro a hS
  refine r_pickF hS hH.kp0 rfl (DF (by omega)) rfl rfl ?_; clear hS; intro a hS
  refine Sq.nil ?_
  refine then_n ?_
  refine c_condF hS rfl (DF (by omega)) ?_
  refine wp_skip ?_
  refine then_n ?_
  refine c_seq ?_
  refine reg_plain w0 (Nobody) ?_
  refine r_assign hS hH.kp0 rfl rfl ?_; clear hS; intro a hS
  refine Sq.nil ?_
  refine then_n ?_
  refine c_seq ?_
  refine wp_block ?_
  refine wp_loop_rounds 3 ?_
  refine rnd ?_
  refine c_seq ?_
  refine c_seq ?_
  refine reg_plain w0 (Nobody) ?_
  refine r_move hS hH.kp0 rfl rfl ?_; clear hS; intro a hS
  refine r_move hS hH.kp0 rfl rfl ?_; clear hS; intro a hS
  first | refine r_mul hS hH.kp0 rfl rfl rfl (by omega) ?_ | refine r_mulw hS hH.kp0 rfl rfl rfl ?_
  clear hS; intro a hS
  first | refine r_sub hS hH.kp0 rfl rfl rfl (by omega) ?_ | refine r_subw hS hH.kp0 rfl rfl rfl ?_
  clear hS; intro a hS
  refine r_toU64 6 hS hH.kp0 rfl Fp.ui30 Fp.us3 rfl (by decide) (by decide) ?_; clear hS; intro a hS
  refine r_shlI 6 hS hH.kp0 rfl rfl rfl rfl (by decide) ?_; clear hS; intro a hS
  refine r_geq hS hH.kp0 rfl rfl rfl ?_; clear hS; intro a hS
  refine Sq.nil ?_
  refine then_n ?_
  refine c_condT hS rfl (DT (by omega)) ?_
  refine wp_skip ?_
  refine then_n ?_
  refine wp_block ?_
  refine reg_plain w0 (Nobody) ?_
  refine r_move hS hH.kp0 rfl rfl ?_; clear hS; intro a hS
  first | refine r_mul hS hH.kp0 rfl rfl rfl (by omega) ?_ | refine r_mulw hS hH.kp0 rfl rfl rfl ?_
  clear hS; intro a hS
  refine r_assign hS hH.kp0 rfl rfl ?_; clear hS; intro a hS
  refine Sq.nil ?_
  refine blk_n ?_
  refine then_n ?_
  refine rnd ?_
  refine c_seq ?_
  refine c_seq ?_
  refine reg_plain w0 (Nobody) ?_
  refine r_move hS hH.kp0 rfl rfl ?_; clear hS; intro a hS
  refine r_move hS hH.kp0 rfl rfl ?_; clear hS; intro a hS
  first | refine r_mul hS hH.kp0 rfl rfl rfl (by omega) ?_ | refine r_mulw hS hH.kp0 rfl rfl rfl ?_
  clear hS; intro a hS
  first | refine r_sub hS hH.kp0 rfl rfl rfl (by omega) ?_ | refine r_subw hS hH.kp0 rfl rfl rfl ?_
  clear hS; intro a hS
  refine r_toU64 14 hS hH.kp0 rfl Fp.ui30 Fp.us3 rfl (by decide) (by decide) ?_; clear hS; intro a hS
  refine r_shlI 14 hS hH.kp0 rfl rfl rfl rfl (by decide) ?_; clear hS; intro a hS
  refine r_geq hS hH.kp0 rfl rfl rfl ?_; clear hS; intro a hS
  refine Sq.nil ?_
  refine then_n ?_
  refine c_condF hS rfl (DF (by omega)) ?_
  refine wp_exit ?_
  refine then_e ?_
  refine then_e ?_
  refine blk_hit ?_
  refine then_n ?_
  refine c_seq ?_
  refine reg_plain w0 (Nobody) ?_
  refine r_move hS hH.kp0 rfl rfl ?_; clear hS; intro a hS
  refine r_assign hS hH.kp0 rfl rfl ?_; clear hS; intro a hS
  refine r_assign hS hH.kp0 rfl rfl ?_; clear hS; intro a hS
  refine Sq.nil ?_
  refine then_n ?_
  refine wp_ret ?_
  exact leave (.inl rfl) hS rfl (Res.tmp rfl (Res.tmp rfl Res.nil)) ⟨rfl, hH.mod⟩


theorem Size_c (v : Nat) (hv : v < 16384) (w0 : World) : Calls Tryd.prog 50 #[.int .i64 (v : Int)] w0 fun e w' => ∃ s : Nat, e = .returned (.tuple #[.int .i64 (s : Int), .int .i64 0]) ∧ s = 2 ^ formK v ∧ Ext w0 w' := by
  by_cases h : v < 64
  · exact (Size_0 v h w0).mono fun e w' ⟨h1, h2⟩ => ⟨1, h1, by rw [show formK v = 0 from if_pos h], h2⟩
  · exact (Size_1 v ⟨by omega, hv⟩ w0).mono fun e w' ⟨h1, h2⟩ => ⟨2, h1, by rw [show formK v = 1 from by unfold formK; rw [if_neg h, if_pos hv]], h2⟩

set_option maxRecDepth 100000 in
set_option maxHeartbeats 1000000 in
theorem Wide_0 (v : Nat) (hv : v < 64) (w0 : World) : Calls Tryd.prog 34 #[.int .i64 (v : Int), .int .i64 1] w0 fun e w' => ∃ r, e = .returned (.tuple #[r, .int .i64 0]) ∧ NB w0.heap.size 5 w' r (wideB v 0) ∧ Ext w0 w' := by
  refine enter Tryd.func34 rfl rfl rfl ?_
  intro a hS
  have hH := Hp.start w0 (Nobody)
  refine c_seq ?_
  refine reg_plain w0 (Nobody) ?_
  refine r_assign hS hH.kp0 rfl rfl ?_; clear hS; intro a hS
  refine r_assign hS hH.kp0 rfl rfl ?_; clear hS; intro a hS
  refine Sq.nil ?_
  refine then_n ?_
  refine c_seq ?_
  refine reg_plain w0 (Nobody) ?_
  refine r_move hS hH.kp0 rfl rfl ?_; clear hS; intro a hS
  refine r_call (l := [.tmp 12]) hS rfl rfl Fp.fn50 rfl ?_
  refine Calls.mono (Size_c v (by omega) _) ?_
  rintro e w1 ⟨s, rfl, _, hE⟩
  replace hH := hH.ext hE
  refine ⟨_, rfl, hH.kp0, ?_⟩
  clear hS; intro a hS
  refine r_move hS hH.kp0 rfl rfl ?_; clear hS; intro a hS
  refine r_extract hS hH.kp0 rfl rfl rfl ?_; clear hS; intro a hS
  refine r_extract hS hH.kp0 rfl rfl rfl ?_; clear hS; intro a hS
  refine r_assign hS hH.kp0 rfl rfl ?_; clear hS; intro a hS
  refine r_assign hS hH.kp0 rfl rfl ?_; clear hS; intro a hS
  refine Sq.nil ?_
  refine then_n ?_
  refine c_seq ?_
  refine c_seq ?_
  refine reg_plain w0 (Nobody) ?_
  refine r_move hS hH.kp0 rfl rfl ?_; clear hS; intro a hS
  refine r_neq hS hH.kp0 rfl rfl rfl ?_; clear hS; intro a hS
  refine r_move hS hH.kp0 rfl rfl ?_; clear hS; intro a hS
  refine Sq.guardYes hS rfl rfl rfl ?_
  refine r_move hS hH.kp0 rfl rfl ?_; clear hS; intro a hS
  refine Sq.guardYes hS rfl rfl rfl ?_
  refine r_neq hS hH.kp0 rfl rfl rfl ?_; clear hS; intro a hS
  refine Sq.guardYes hS rfl rfl rfl ?_
  refine r_move hS hH.kp0 rfl rfl ?_; clear hS; intro a hS
  refine Sq.guardNo hS rfl rfl rfl hH.kp0 rfl ?_; clear hS; intro a hS
  refine Sq.guardNo hS rfl rfl rfl hH.kp0 rfl ?_; clear hS; intro a hS
  refine Sq.guardYes hS rfl rfl rfl ?_
  refine r_pickF hS hH.kp0 rfl rfl rfl rfl ?_; clear hS; intro a hS
  refine Sq.guardYes hS rfl rfl rfl ?_
  refine r_move hS hH.kp0 rfl rfl ?_; clear hS; intro a hS
  refine Sq.guardNo hS rfl rfl rfl hH.kp0 rfl ?_; clear hS; intro a hS
  refine Sq.guardNo hS rfl rfl rfl hH.kp0 rfl ?_; clear hS; intro a hS
  refine Sq.guardYes hS rfl rfl rfl ?_
  refine r_pickF hS hH.kp0 rfl rfl rfl rfl ?_; clear hS; intro a hS
  refine Sq.guardYes hS rfl rfl rfl ?_
  refine r_move hS hH.kp0 rfl rfl ?_; clear hS; intro a hS
  refine Sq.guardNo hS rfl rfl rfl hH.kp0 rfl ?_; clear hS; intro a hS
  refine Sq.guardNo hS rfl rfl rfl hH.kp0 rfl ?_; clear hS; intro a hS
  refine Sq.guardYes hS rfl rfl rfl ?_
  refine r_pickF hS hH.kp0 rfl rfl rfl rfl ?_; clear hS; intro a hS
  refine r_pickF hS hH.kp0 rfl rfl rfl rfl ?_; clear hS; intro a hS
  refine Sq.nil ?_
  refine then_n ?_
  refine c_condF hS rfl rfl ?_
  refine wp_skip ?_
  refine then_n ?_
  refine c_seq ?_
  refine c_seq ?_
  refine reg_plain w0 (Nobody) ?_
  refine r_move hS hH.kp0 rfl rfl ?_; clear hS; intro a hS
  refine r_move hS hH.kp0 rfl rfl ?_; clear hS; intro a hS
  first | refine r_mul hS hH.kp0 rfl rfl rfl (by omega) ?_ | refine r_mulw hS hH.kp0 rfl rfl rfl ?_
  clear hS; intro a hS
  first | refine r_sub hS hH.kp0 rfl rfl rfl (by omega) ?_ | refine r_subw hS hH.kp0 rfl rfl rfl ?_
  clear hS; intro a hS
  refine r_toU64 6 hS hH.kp0 rfl Fp.ui30 Fp.us3 rfl (by decide) (by decide) ?_; clear hS; intro a hS
  refine r_shlI 6 hS hH.kp0 rfl rfl rfl rfl (by decide) ?_; clear hS; intro a hS
  refine r_geq hS hH.kp0 rfl rfl rfl ?_; clear hS; intro a hS
  refine Sq.nil ?_
  refine then_n ?_
  refine c_condF hS rfl (DF (by omega)) ?_
  refine wp_skip ?_
  refine then_n ?_
  refine c_seq ?_
  refine reg_plain w0 (Nobody) ?_
  refine r_assign hS hH.kp0 rfl rfl ?_; clear hS; intro a hS
  refine Sq.nil ?_
  refine then_n ?_
  refine c_seq ?_
  refine c_seq ?_
  refine reg_plain w0 (Nobody) ?_
  refine r_assign hS hH.kp0 rfl rfl ?_; clear hS; intro a hS
  refine Sq.nil ?_
  refine then_n ?_
  refine wp_block ?_
  refine wp_loop_rounds 1 ?_
  refine rnd ?_
  refine c_seq ?_
  refine c_seq ?_
  refine reg_plain w0 (Nobody) ?_
  refine r_move hS hH.kp0 rfl rfl ?_; clear hS; intro a hS
  refine r_move hS hH.kp0 rfl rfl ?_; clear hS; intro a hS
  refine r_lss hS hH.kp0 rfl rfl rfl ?_; clear hS; intro a hS
  refine Sq.nil ?_
  refine then_n ?_
  refine c_condF hS rfl rfl ?_
  refine wp_exit ?_
  refine then_e ?_
  refine then_e ?_
  refine blk_hit ?_
  refine then_n ?_
  refine c_seq ?_
  refine reg_plain w0 (Nobody) ?_
  refine r_move hS hH.kp0 rfl rfl ?_; clear hS; intro a hS
  refine r_toU64 (v) hS hH.kp0 rfl Fp.ui36 Fp.us3 rfl rfl (by omega) ?_; clear hS; intro a hS
  refine r_move hS hH.kp0 rfl rfl ?_; clear hS; intro a hS
  refine r_call (l := [.tmp 49, .tmp 50]) hS rfl rfl Fp.fn32 rfl ?_
  refine Calls.mono (Bytes_c v 1 (by omega) (by decide) (by decide) _) ?_
  rintro e w1 ⟨r, rfl, hN, hE⟩
  have hbe : beB v 1 = UInt8.ofNat v :: [] := by simp [beB]
  rw [hbe] at hN
  obtain ⟨rb, cap, l, hrv, hrb, hrk, hB⟩ := hN
  subst hrv
  have hrb0 := Nat.le_trans hH.mod.size hrb
  replace hH := (hH.ext hE).know hrk (fun p hp => by simp at hp)
  have hhd := hB.head
  refine ⟨_, rfl, hH.kp0, ?_⟩
  clear hS; intro a hS
  refine r_assign hS hH.kp0 rfl rfl ?_; clear hS; intro a hS
  refine Sq.nil ?_
  refine then_n ?_
  refine c_seq ?_
  refine reg_plain w0 (Nobody) ?_
  refine r_move hS hH.kp0 rfl rfl ?_; clear hS; intro a hS
  refine r_move hS hH.kp0 rfl rfl ?_; clear hS; intro a hS
  refine r_indexAddrS (j := 0) hS hH.kp0 rfl rfl Fp.slb22 rfl (by simp) rfl ?_; clear hS; intro a hS
  refine r_load_sc (v := byteV (UInt8.ofNat v)) hS hH (by repeat (first | exact Sub.nil | refine Sub.cons ?_ ?_ | exact In.here | refine In.there ?_)) rfl (by repeat (first | exact In.here | refine In.there ?_)) Fp.sc5 hhd.1 rfl ?_; clear hS; intro a hS
  refine r_move hS hH.kp0 rfl rfl ?_; clear hS; intro a hS
  first | refine r_mul hS hH.kp0 rfl rfl rfl (by omega) ?_ | refine r_mulw hS hH.kp0 rfl rfl rfl ?_
  clear hS; intro a hS
  refine r_toU8 (q := 0) (UInt8.ofNat 0) hS hH.kp0 rfl Fp.ui5 Fp.us3 rfl rfl ?_; clear hS; intro a hS
  refine r_addB (UInt8.ofNat v) (UInt8.ofNat 0) hS hH.kp0 rfl rfl rfl ?_; clear hS; intro a hS
  refine r_indexAddrS (j := 0) hS hH.kp0 rfl rfl Fp.slb22 rfl (by simp) rfl ?_; clear hS; intro a hS
  refine r_store1 (v := byteV (UInt8.ofNat v + UInt8.ofNat 0)) hS hH rfl rfl rfl (by first | exact .here | exact .there .here | exact .there (.there .here) | exact .there (.there (.there .here)) | exact .there (.there (.there (.there .here))) | exact .there (.there (.there (.there (.there .here)))) | exact .there (.there (.there (.there (.there (.there .here))))) | exact .there (.there (.there (.there (.there (.there (.there .here)))))) | exact .there (.there (.there (.there (.there (.there (.there (.there .here))))))) | exact .there (.there (.there (.there (.there (.there (.there (.there (.there .here)))))))) | exact .there (.there (.there (.there (.there (.there (.there (.there (.there (.there .here))))))))) | exact .there (.there (.there (.there (.there (.there (.there (.there (.there (.there (.there .here)))))))))) | exact .there (.there (.there (.there (.there (.there (.there (.there (.there (.there (.there (.there .here))))))))))) | exact .there (.there (.there (.there (.there (.there (.there (.there (.there (.there (.there (.there (.there .here)))))))))))) | exact .there (.there (.there (.there (.there (.there (.there (.there (.there (.there (.there (.there (.there (.there .here))))))))))))) | exact .there (.there (.there (.there (.there (.there (.there (.there (.there (.there (.there (.there (.there (.there (.there .here))))))))))))))) (by repeat (first | exact Sub.nil | refine Sub.cons ?_ ?_ | exact In.here | refine In.there ?_)) Fp.sz5 (by have := hhd.2; omega) (.inr hrb0) ?_; clear hH; intro w hH
  refine Sq.nil ?_
  refine then_n ?_
  refine c_seq ?_
  refine reg_plain w0 (Nobody) ?_
  refine r_move hS hH.kp0 rfl rfl ?_; clear hS; intro a hS
  refine r_assign hS hH.kp0 rfl rfl ?_; clear hS; intro a hS
  refine r_assign hS hH.kp0 rfl rfl ?_; clear hS; intro a hS
  refine Sq.nil ?_
  refine then_n ?_
  refine wp_ret ?_
  exact leave (.inl rfl) hS rfl (Res.tmp rfl (Res.tmp rfl Res.nil)) ⟨_, rfl, by rw [wideB_0]; exact ⟨rb, cap, _, rfl, hrb0, hH.get .here, hB.setHead⟩, hH.mod⟩

set_option maxRecDepth 100000 in
set_option maxHeartbeats 1000000 in
theorem Wide_1 (v : Nat) (hv : v < 16384) (w0 : World) : Calls Tryd.prog 34 #[.int .i64 (v : Int), .int .i64 2] w0 fun e w' => ∃ r, e = .returned (.tuple #[r, .int .i64 0]) ∧ NB w0.heap.size 5 w' r (wideB v 1) ∧ Ext w0 w' := by
  refine enter Tryd.func34 rfl rfl rfl ?_
  intro a hS
  have hH := Hp.start w0 (Nobody)
  refine c_seq ?_
  refine reg_plain w0 (Nobody) ?_
  refine r_assign hS hH.kp0 rfl rfl ?_; clear hS; intro a hS
  refine r_assign hS hH.kp0 rfl rfl ?_; clear hS; intro a hS
  refine Sq.nil ?_
  refine then_n ?_
  refine c_seq ?_
  refine reg_plain w0 (Nobody) ?_
  refine r_move hS hH.kp0 rfl rfl ?_; clear hS; intro a hS
  refine r_call (l := [.tmp 12]) hS rfl rfl Fp.fn50 rfl ?_
  refine Calls.mono (Size_c v (by omega) _) ?_
  rintro e w1 ⟨s, rfl, _, hE⟩
  replace hH := hH.ext hE
  refine ⟨_, rfl, hH.kp0, ?_⟩
  clear hS; intro a hS
  refine r_move hS hH.kp0 rfl rfl ?_; clear hS; intro a hS
  refine r_extract hS hH.kp0 rfl rfl rfl ?_; clear hS; intro a hS
  refine r_extract hS hH.kp0 rfl rfl rfl ?_; clear hS; intro a hS
  refine r_assign hS hH.kp0 rfl rfl ?_; clear hS; intro a hS
  refine r_assign hS hH.kp0 rfl rfl ?_; clear hS; intro a hS
  refine Sq.nil ?_
  refine then_n ?_
  refine c_seq ?_
  refine c_seq ?_
  refine reg_plain w0 (Nobody) ?_
  refine r_move hS hH.kp0 rfl rfl ?_; clear hS; intro a hS
  refine r_neq hS hH.kp0 rfl rfl rfl ?_; clear hS; intro a hS
  refine r_move hS hH.kp0 rfl rfl ?_; clear hS; intro a hS
  refine Sq.guardYes hS rfl rfl rfl ?_
  refine r_move hS hH.kp0 rfl rfl ?_; clear hS; intro a hS
  refine Sq.guardYes hS rfl rfl rfl ?_
  refine r_neq hS hH.kp0 rfl rfl rfl ?_; clear hS; intro a hS
  refine Sq.guardYes hS rfl rfl rfl ?_
  refine r_move hS hH.kp0 rfl rfl ?_; clear hS; intro a hS
  refine Sq.guardYes hS rfl rfl rfl ?_
  refine r_move hS hH.kp0 rfl rfl ?_; clear hS; intro a hS
  refine Sq.guardYes hS rfl rfl rfl ?_
  refine r_neq hS hH.kp0 rfl rfl rfl ?_; clear hS; intro a hS
  refine Sq.guardYes hS rfl rfl rfl ?_
  refine r_pickT hS hH.kp0 rfl rfl rfl rfl ?_; clear hS; intro a hS
  refine Sq.guardYes hS rfl rfl rfl ?_
  refine r_move hS hH.kp0 rfl rfl ?_; clear hS; intro a hS
  refine Sq.guardNo hS rfl rfl rfl hH.kp0 rfl ?_; clear hS; intro a hS
  refine Sq.guardNo hS rfl rfl rfl hH.kp0 rfl ?_; clear hS; intro a hS
  refine Sq.guardYes hS rfl rfl rfl ?_
  refine r_pickF hS hH.kp0 rfl rfl rfl rfl ?_; clear hS; intro a hS
  refine Sq.guardYes hS rfl rfl rfl ?_
  refine r_move hS hH.kp0 rfl rfl ?_; clear hS; intro a hS
  refine Sq.guardNo hS rfl rfl rfl hH.kp0 rfl ?_; clear hS; intro a hS
  refine Sq.guardNo hS rfl rfl rfl hH.kp0 rfl ?_; clear hS; intro a hS
  refine Sq.guardYes hS rfl rfl rfl ?_
  refine r_pickF hS hH.kp0 rfl rfl rfl rfl ?_; clear hS; intro a hS
  refine r_pickF hS hH.kp0 rfl rfl rfl rfl ?_; clear hS; intro a hS
  refine Sq.nil ?_
  refine then_n ?_
  refine c_condF hS rfl rfl ?_
  refine wp_skip ?_
  refine then_n ?_
  refine c_seq ?_
  refine c_seq ?_
  refine reg_plain w0 (Nobody) ?_
  refine r_move hS hH.kp0 rfl rfl ?_; clear hS; intro a hS
  refine r_move hS hH.kp0 rfl rfl ?_; clear hS; intro a hS
  first | refine r_mul hS hH.kp0 rfl rfl rfl (by omega) ?_ | refine r_mulw hS hH.kp0 rfl rfl rfl ?_
  clear hS; intro a hS
  first | refine r_sub hS hH.kp0 rfl rfl rfl (by omega) ?_ | refine r_subw hS hH.kp0 rfl rfl rfl ?_
  clear hS; intro a hS
  refine r_toU64 14 hS hH.kp0 rfl Fp.ui30 Fp.us3 rfl (by decide) (by decide) ?_; clear hS; intro a hS
  refine r_shlI 14 hS hH.kp0 rfl rfl rfl rfl (by decide) ?_; clear hS; intro a hS
  refine r_geq hS hH.kp0 rfl rfl rfl ?_; clear hS; intro a hS
  refine Sq.nil ?_
  refine then_n ?_
  refine c_condF hS rfl (DF (by omega)) ?_
  refine wp_skip ?_
  refine then_n ?_
  refine c_seq ?_
  refine reg_plain w0 (Nobody) ?_
  refine r_assign hS hH.kp0 rfl rfl ?_; clear hS; intro a hS
  refine Sq.nil ?_
  refine then_n ?_
  refine c_seq ?_
  refine c_seq ?_
  refine reg_plain w0 (Nobody) ?_
  refine r_assign hS hH.kp0 rfl rfl ?_; clear hS; intro a hS
  refine Sq.nil ?_
  refine then_n ?_
  refine wp_block ?_
  refine wp_loop_rounds 2 ?_
  refine rnd ?_
  refine c_seq ?_
  refine c_seq ?_
  refine reg_plain w0 (Nobody) ?_
  refine r_move hS hH.kp0 rfl rfl ?_; clear hS; intro a hS
  refine r_move hS hH.kp0 rfl rfl ?_; clear hS; intro a hS
  refine r_lss hS hH.kp0 rfl rfl rfl ?_; clear hS; intro a hS
  refine Sq.nil ?_
  refine then_n ?_
  refine c_condT hS rfl rfl ?_
  refine wp_skip ?_
  refine then_n ?_
  refine c_seq ?_
  refine wp_block ?_
  refine reg_plain w0 (Nobody) ?_
  refine r_move hS hH.kp0 rfl rfl ?_; clear hS; intro a hS
  first | refine r_add hS hH.kp0 rfl rfl rfl (by omega) ?_ | refine r_addw hS hH.kp0 rfl rfl rfl ?_
  clear hS; intro a hS
  refine r_assign hS hH.kp0 rfl rfl ?_; clear hS; intro a hS
  refine Sq.nil ?_
  refine blk_n ?_
  refine then_n ?_
  refine reg_plain w0 (Nobody) ?_
  refine r_move hS hH.kp0 rfl rfl ?_; clear hS; intro a hS
  first | refine r_mul hS hH.kp0 rfl rfl rfl (by omega) ?_ | refine r_mulw hS hH.kp0 rfl rfl rfl ?_
  clear hS; intro a hS
  refine r_assign hS hH.kp0 rfl rfl ?_; clear hS; intro a hS
  refine Sq.nil ?_
  refine then_n ?_
  refine rnd ?_
  refine c_seq ?_
  refine c_seq ?_
  refine reg_plain w0 (Nobody) ?_
  refine r_move hS hH.kp0 rfl rfl ?_; clear hS; intro a hS
  refine r_move hS hH.kp0 rfl rfl ?_; clear hS; intro a hS
  refine r_lss hS hH.kp0 rfl rfl rfl ?_; clear hS; intro a hS
  refine Sq.nil ?_
  refine then_n ?_
  refine c_condF hS rfl rfl ?_
  refine wp_exit ?_
  refine then_e ?_
  refine then_e ?_
  refine blk_hit ?_
  refine then_n ?_
  refine c_seq ?_
  refine reg_plain w0 (Nobody) ?_
  refine r_move hS hH.kp0 rfl rfl ?_; clear hS; intro a hS
  refine r_toU64 (v) hS hH.kp0 rfl Fp.ui36 Fp.us3 rfl rfl (by omega) ?_; clear hS; intro a hS
  refine r_move hS hH.kp0 rfl rfl ?_; clear hS; intro a hS
  refine r_call (l := [.tmp 49, .tmp 50]) hS rfl rfl Fp.fn32 rfl ?_
  refine Calls.mono (Bytes_c v 2 (by omega) (by decide) (by decide) _) ?_
  rintro e w1 ⟨r, rfl, hN, hE⟩
  have hbe : beB v 2 = UInt8.ofNat (v / 256) :: [UInt8.ofNat v] := by rw [beB_succ, beB_succ, Nat.pow_one, Nat.pow_zero, Nat.div_one]; rfl
  rw [hbe] at hN
  obtain ⟨rb, cap, l, hrv, hrb, hrk, hB⟩ := hN
  subst hrv
  have hrb0 := Nat.le_trans hH.mod.size hrb
  replace hH := (hH.ext hE).know hrk (fun p hp => by simp at hp)
  have hhd := hB.head
  refine ⟨_, rfl, hH.kp0, ?_⟩
  clear hS; intro a hS
  refine r_assign hS hH.kp0 rfl rfl ?_; clear hS; intro a hS
  refine Sq.nil ?_
  refine then_n ?_
  refine c_seq ?_
  refine reg_plain w0 (Nobody) ?_
  refine r_move hS hH.kp0 rfl rfl ?_; clear hS; intro a hS
  refine r_move hS hH.kp0 rfl rfl ?_; clear hS; intro a hS
  refine r_indexAddrS (j := 0) hS hH.kp0 rfl rfl Fp.slb22 rfl (by simp) rfl ?_; clear hS; intro a hS
  refine r_load_sc (v := byteV (UInt8.ofNat (v / 256))) hS hH (by repeat (first | exact Sub.nil | refine Sub.cons ?_ ?_ | exact In.here | refine In.there ?_)) rfl (by repeat (first | exact In.here | refine In.there ?_)) Fp.sc5 hhd.1 rfl ?_; clear hS; intro a hS
  refine r_move hS hH.kp0 rfl rfl ?_; clear hS; intro a hS
  first | refine r_mul hS hH.kp0 rfl rfl rfl (by omega) ?_ | refine r_mulw hS hH.kp0 rfl rfl rfl ?_
  clear hS; intro a hS
  refine r_toU8 (q := 64) (UInt8.ofNat 64) hS hH.kp0 rfl Fp.ui5 Fp.us3 rfl rfl ?_; clear hS; intro a hS
  refine r_addB (UInt8.ofNat (v / 256)) (UInt8.ofNat 64) hS hH.kp0 rfl rfl rfl ?_; clear hS; intro a hS
  refine r_indexAddrS (j := 0) hS hH.kp0 rfl rfl Fp.slb22 rfl (by simp) rfl ?_; clear hS; intro a hS
  refine r_store1 (v := byteV (UInt8.ofNat (v / 256) + UInt8.ofNat 64)) hS hH rfl rfl rfl (by first | exact .here | exact .there .here | exact .there (.there .here) | exact .there (.there (.there .here)) | exact .there (.there (.there (.there .here))) | exact .there (.there (.there (.there (.there .here)))) | exact .there (.there (.there (.there (.there (.there .here))))) | exact .there (.there (.there (.there (.there (.there (.there .here)))))) | exact .there (.there (.there (.there (.there (.there (.there (.there .here))))))) | exact .there (.there (.there (.there (.there (.there (.there (.there (.there .here)))))))) | exact .there (.there (.there (.there (.there (.there (.there (.there (.there (.there .here))))))))) | exact .there (.there (.there (.there (.there (.there (.there (.there (.there (.there (.there .here)))))))))) | exact .there (.there (.there (.there (.there (.there (.there (.there (.there (.there (.there (.there .here))))))))))) | exact .there (.there (.there (.there (.there (.there (.there (.there (.there (.there (.there (.there (.there .here)))))))))))) | exact .there (.there (.there (.there (.there (.there (.there (.there (.there (.there (.there (.there (.there (.there .here))))))))))))) | exact .there (.there (.there (.there (.there (.there (.there (.there (.there (.there (.there (.there (.there (.there (.there .here))))))))))))))) (by repeat (first | exact Sub.nil | refine Sub.cons ?_ ?_ | exact In.here | refine In.there ?_)) Fp.sz5 (by have := hhd.2; omega) (.inr hrb0) ?_; clear hH; intro w hH
  refine Sq.nil ?_
  refine then_n ?_
  refine c_seq ?_
  refine reg_plain w0 (Nobody) ?_
  refine r_move hS hH.kp0 rfl rfl ?_; clear hS; intro a hS
  refine r_assign hS hH.kp0 rfl rfl ?_; clear hS; intro a hS
  refine r_assign hS hH.kp0 rfl rfl ?_; clear hS; intro a hS
  refine Sq.nil ?_
  refine then_n ?_
  refine wp_ret ?_
  exact leave (.inl rfl) hS rfl (Res.tmp rfl (Res.tmp rfl Res.nil)) ⟨_, rfl, by rw [wideB_1]; exact ⟨rb, cap, _, rfl, hrb0, hH.get .here, hB.setHead⟩, hH.mod⟩


theorem Wide_s (v s : Nat) (hs : s = 2 ^ formK v) (hv : v < 16384) (w0 : World) : Calls Tryd.prog 34 #[.int .i64 (v : Int), .int .i64 (s : Int)] w0 fun e w' => ∃ r, e = .returned (.tuple #[r, .int .i64 0]) ∧ NB w0.heap.size 5 w' r (wideB v (formK v)) ∧ Ext w0 w' := by
  subst hs
  by_cases h : v < 64
  · rw [show formK v = 0 from if_pos h]; exact Wide_0 v h w0
  · rw [show formK v = 1 from by unfold formK; rw [if_neg h, if_pos hv]]; exact Wide_1 v hv w0

set_option maxRecDepth 100000 in
set_option maxHeartbeats 400000 in
theorem Var_r (v : Nat) (hv : v < 16384) (w0 : World) : Calls Tryd.prog 33 #[.int .i64 (v : Int)] w0 fun e w' => ∃ r, e = .returned (.tuple #[r, .int .i64 0]) ∧ NB w0.heap.size 5 w' r (wideB v (formK v)) ∧ Ext w0 w' := by
  refine enter Tryd.func33 rfl rfl rfl ?_
  intro a hS
  have hH := Hp.start w0 (Nobody)
  refine c_seq ?_
  refine reg_plain w0 (Nobody) ?_
  refine r_assign hS hH.kp0 rfl rfl ?_; clear hS; intro a hS
  refine r_assign hS hH.kp0 rfl rfl ?_; clear hS; intro a hS
  refine Sq.nil ?_
  refine then_n ?_
  refine c_seq ?_
  refine reg_plain w0 (Nobody) ?_
  refine r_move hS hH.kp0 rfl rfl ?_; clear hS; intro a hS
  refine r_call (l := [.tmp 7]) hS rfl rfl Fp.fn50 rfl ?_
  refine Calls.mono (Size_c v hv _) ?_
  rintro e w1 ⟨s, rfl, hs, hE⟩
  replace hH := hH.ext hE
  refine ⟨_, rfl, hH.kp0, ?_⟩
  clear hS; intro a hS
  refine r_move hS hH.kp0 rfl rfl ?_; clear hS; intro a hS
  refine r_extract hS hH.kp0 rfl rfl rfl ?_; clear hS; intro a hS
  refine r_extract hS hH.kp0 rfl rfl rfl ?_; clear hS; intro a hS
  refine r_assign hS hH.kp0 rfl rfl ?_; clear hS; intro a hS
  refine r_assign hS hH.kp0 rfl rfl ?_; clear hS; intro a hS
  refine Sq.nil ?_
  refine then_n ?_
  refine c_seq ?_
  refine c_seq ?_
  refine reg_plain w0 (Nobody) ?_
  refine r_move hS hH.kp0 rfl rfl ?_; clear hS; intro a hS
  refine r_neq hS hH.kp0 rfl rfl rfl ?_; clear hS; intro a hS
  refine Sq.nil ?_
  refine then_n ?_
  refine c_condF hS rfl rfl ?_
  refine wp_skip ?_
  refine then_n ?_
  refine c_seq ?_
  refine reg_plain w0 (Nobody) ?_
  refine r_move hS hH.kp0 rfl rfl ?_; clear hS; intro a hS
  refine r_move hS hH.kp0 rfl rfl ?_; clear hS; intro a hS
  refine r_call (l := [.tmp 14, .tmp 15]) hS rfl rfl Fp.fn34 rfl ?_
  refine Calls.mono (Wide_s v s hs hv _) ?_
  rintro e w1 ⟨r, rfl, hN, hE⟩
  have hN := hN.mono hH.mod.size
  replace hH := hH.ext hE
  refine ⟨_, rfl, hH.kp0, ?_⟩
  clear hS; intro a hS
  refine r_extract hS hH.kp0 rfl rfl rfl ?_; clear hS; intro a hS
  refine r_extract hS hH.kp0 rfl rfl rfl ?_; clear hS; intro a hS
  refine r_assign hS hH.kp0 rfl rfl ?_; clear hS; intro a hS
  refine r_assign hS hH.kp0 rfl rfl ?_; clear hS; intro a hS
  refine Sq.nil ?_
  refine then_n ?_
  refine wp_ret ?_
  exact leave (.inl rfl) hS rfl (Res.tmp rfl (Res.tmp rfl Res.nil)) ⟨_, rfl, hN, hH.mod⟩

end Go.Proofs.YtcenionnedgadaaDoor

namespace Go.Proofs.YtcenionnedgadaaDoor
open Go.Sym

theorem Fp.fn42 : isFn Tryd.prog 42 = true := by kernel_rfl
theorem Fp.fn43 : isFn Tryd.prog 43 = true := by kernel_rfl
theorem Fp.fn54 : isFn Tryd.prog 54 = true := by kernel_rfl
theorem Fp.fo26_0 : foff Tryd.prog 26 0 = some 0 := by kernel_rfl
theorem Fp.fo26_2 : foff Tryd.prog 26 2 = some 2 := by kernel_rfl
theorem Fp.fo26_3 : foff Tryd.prog 26 3 = some 3 := by kernel_rfl
theorem Fp.fo26_4 : foff Tryd.prog 26 4 = some 4 := by kernel_rfl
theorem Fp.fo26_5 : foff Tryd.prog 26 5 = some 5 := by kernel_rfl
theorem Fp.fo26_7 : foff Tryd.prog 26 7 = some 7 := by kernel_rfl
theorem Fp.sc22 : scB Tryd.prog 22 = true := by kernel_rfl
theorem Fp.sc23 : scB Tryd.prog 23 = true := by kernel_rfl
set_option maxRecDepth 100000 in
set_option maxHeartbeats 400000 in
theorem right1_c (v : Int) (w0 : World) : Calls Tryd.prog 43 #[.int .i64 v] w0 fun e w' => e = .returned (.bool (bad1 v)) ∧ Ext w0 w' := by
  refine enter Tryd.func43 rfl rfl rfl ?_
  intro a hS
  have hH := Hp.start w0 (Nobody)
  refine c_seq ?_
  refine reg_plain w0 (Nobody) ?_
  refine r_assign hS hH.kp0 rfl rfl ?_; clear hS; intro a hS
  refine Sq.nil ?_
  refine then_n ?_
  refine c_seq ?_
  refine reg_plain w0 (Nobody) ?_
  refine r_move hS hH.kp0 rfl rfl ?_; clear hS; intro a hS
  rcases (by omega : v < 1 ∨ 1 ≤ v) with hv | hv
  · refine r_lss hS hH.kp0 rfl rfl rfl ?_; clear hS; intro a hS
    refine r_move hS hH.kp0 rfl rfl ?_; clear hS; intro a hS
    refine Sq.guardNo hS rfl rfl (DT (by omega)) hH.kp0 rfl ?_; clear hS; intro a hS
    refine Sq.guardNo hS rfl rfl (DT (by omega)) hH.kp0 rfl ?_; clear hS; intro a hS
    refine r_pickT hS hH.kp0 rfl (DT (by omega)) rfl rfl ?_; clear hS; intro a hS
    refine r_assign hS hH.kp0 rfl rfl ?_; clear hS; intro a hS
    refine Sq.nil ?_
    refine then_n ?_
    refine wp_ret ?_
    refine leave (.inl rfl) hS rfl (Res.tmp rfl Res.nil) ⟨congrArg (fun z => Ending.returned (Value.bool z)) ?_, hH.mod⟩
    first | exact (DT (by omega)).symm | exact decide_eq_decide.2 (by omega)
  · refine r_lss hS hH.kp0 rfl rfl rfl ?_; clear hS; intro a hS
    refine r_move hS hH.kp0 rfl rfl ?_; clear hS; intro a hS
    refine Sq.guardYes hS rfl rfl (DF (by omega)) ?_; refine r_move hS hH.kp0 rfl rfl ?_; clear hS; intro a hS
    refine Sq.guardYes hS rfl rfl (DF (by omega)) ?_; refine r_gtr hS hH.kp0 rfl rfl rfl ?_; clear hS; intro a hS
    refine r_pickF hS hH.kp0 rfl (DF (by omega)) rfl rfl ?_; clear hS; intro a hS
    refine r_assign hS hH.kp0 rfl rfl ?_; clear hS; intro a hS
    refine Sq.nil ?_
    refine then_n ?_
    refine wp_ret ?_
    refine leave (.inl rfl) hS rfl (Res.tmp rfl Res.nil) ⟨congrArg (fun z => Ending.returned (Value.bool z)) ?_, hH.mod⟩
    first | exact (DT (by omega)).symm | exact decide_eq_decide.2 (by omega)

set_option maxRecDepth 100000 in
set_option maxHeartbeats 400000 in
theorem IndexFunc_c (q : Option Addr) (qc : Nat) (l : List Int) (hl : l.length ≤ 1099511627776) (w0 : World) (hb : IsA w0 q qc l) : Calls Tryd.prog 54 #[.slice q l.length qc, .func (.func 43) #[] #[]] w0 fun e w' => ∃ r : Int, e = .returned (.int .i64 r) ∧ (0 ≤ r ↔ 0 < badN l) ∧ Ext w0 w' := by
  refine enter Tryd.func54 rfl rfl rfl ?_
  intro a hS
  have hH := Hp.start w0 (Nobody)
  refine c_seq ?_
  refine reg_plain w0 (Nobody) ?_
  refine r_assign hS hH.kp0 rfl rfl ?_; clear hS; intro a hS
  refine Sq.nil ?_
  refine then_n ?_
  refine c_seq ?_
  refine c_seq ?_
  refine reg_plain w0 (Nobody) ?_
  refine r_move hS hH.kp0 rfl rfl ?_; clear hS; intro a hS
  refine r_lenSl hS hH.kp0 rfl Fp.isSlice23 rfl ?_; clear hS; intro a hS
  refine r_move hS hH.kp0 rfl rfl ?_; clear hS; intro a hS
  refine Sq.nil ?_
  refine then_n ?_
  refine wp_block ?_
  refine c_loop (fun m a w => ∃ (k : Nat) (i : Int), m + k = l.length ∧ i = k ∧ badN (l.take k) = 0 ∧ St 19 (lv [(0, .slice q l.length qc), (1, .func (.func 43) #[] #[]), (7, .int .i64 (l.length : Int)), (8, .int .i64 i)]) a ∧ Hp w0 Nobody [] w) (l.length) ?_ ?_
  · exact ⟨0, _, by omega, rfl, rfl, hS.live ⟨rfl, rfl, rfl, rfl, trivial⟩, hH⟩
  clear hS hH; intro m a w hI; obtain ⟨k, i, hmk, hi, h0, hS, hH⟩ := hI
  refine c_seq ?_
  refine reg_plain w0 (Nobody) ?_
  refine r_lss hS hH.kp0 rfl rfl rfl ?_; clear hS; intro a hS
  refine Sq.nil ?_
  refine then_n ?_
  refine c_seq ?_
  refine c_cond hS rfl (fun hc0 => ?_) (fun hc0 => ?_)
  · have hk : k < l.length := by have := of_decide_eq_true hc0; omega
    obtain ⟨ba, bo, hp, hcell⟩ := (hb.ext hH.mod).cell hk
    subst hp
    refine wp_skip ?_
    refine then_n ?_
    refine c_seq ?_
    refine wp_block ?_
    refine c_seq ?_
    refine reg_plain w0 (Nobody) ?_
    refine r_move hS hH.kp0 rfl rfl ?_; clear hS; intro a hS
    refine r_assign hS hH.kp0 rfl rfl ?_; clear hS; intro a hS
    refine Sq.nil ?_
    refine then_n ?_
    refine c_seq ?_
    refine reg_plain w0 (Nobody) ?_
    refine r_move hS hH.kp0 rfl rfl ?_; clear hS; intro a hS
    refine r_move hS hH.kp0 rfl rfl ?_; clear hS; intro a hS
    refine r_move hS hH.kp0 rfl rfl ?_; clear hS; intro a hS
    refine r_indexAddrS (j := k) hS hH.kp0 rfl rfl Fp.slb23 hi hk rfl ?_; clear hS; intro a hS
    refine r_load_cell hS hH.kp0 rfl hcell Fp.sc3 rfl ?_; clear hS; intro a hS
    refine r_call (l := [.tmp 15]) hS rfl rfl Fp.fn43 rfl ?_
    refine Calls.mono (right1_c _ _) ?_
    rintro e w1 ⟨rfl, hE⟩
    replace hH := hH.ext hE
    refine ⟨_, rfl, hH.kp0, ?_⟩
    clear hS; intro a hS
    refine Sq.nil ?_
    refine then_n ?_
    refine c_cond hS rfl (fun hc1 => ?_) (fun hc1 => ?_)
    · refine c_seq ?_
      refine reg_plain w0 (Nobody) ?_
      refine r_move hS hH.kp0 rfl rfl ?_; clear hS; intro a hS
      refine r_assign hS hH.kp0 rfl rfl ?_; clear hS; intro a hS
      refine Sq.nil ?_
      refine then_n ?_
      refine wp_ret ?_
      refine blk_r ?_
      refine then_r ?_
      refine then_r ?_
      refine blk_r ?_
      refine then_r ?_
      exact leave (.inl rfl) hS rfl (Res.tmp rfl Res.nil) ⟨_, rfl, ⟨fun _ => badN_at hk hc1, fun _ => by omega⟩, hH.mod⟩
    · refine wp_skip ?_
      refine blk_n ?_
      refine then_n ?_
      refine reg_plain w0 (Nobody) ?_
      first | refine r_add hS hH.kp0 rfl rfl rfl (by omega) ?_ | refine r_addw hS hH.kp0 rfl rfl rfl ?_
      clear hS; intro a hS
      refine r_move hS hH.kp0 rfl rfl ?_; clear hS; intro a hS
      refine Sq.nil ?_
      refine then_n ?_
      refine ⟨m - 1, by omega, k + 1, _, by omega, ?_, badN_succ hk (by simpa using hc1) h0, hS.live ⟨rfl, rfl, rfl, rfl, trivial⟩, hH⟩
      omega
  · have hke : k = l.length := by have := of_decide_eq_false hc0; omega
    subst hke
    refine wp_exit ?_
    refine then_e ?_
    refine then_e ?_
    refine blk_hit ?_
    refine then_n ?_
    refine c_seq ?_
    refine reg_plain w0 (Nobody) ?_
    refine r_assign hS hH.kp0 rfl rfl ?_; clear hS; intro a hS
    refine Sq.nil ?_
    refine then_n ?_
    refine wp_ret ?_
    rw [List.take_of_length_le (Nat.le_refl _)] at h0
    exact leave (.inl rfl) hS rfl (Res.tmp rfl Res.nil) ⟨_, rfl, ⟨fun h => by omega, fun h => by omega⟩, hH.mod⟩

set_option maxRecDepth 100000 in
set_option maxHeartbeats 400000 in
theorem ContainsFunc_c (q : Option Addr) (qc : Nat) (l : List Int) (hl : l.length ≤ 1099511627776) (w0 : World) (hb : IsA w0 q qc l) : Calls Tryd.prog 42 #[.slice q l.length qc, .func (.func 43) #[] #[]] w0 fun e w' => e = .returned (.bool (decide (0 < badN l))) ∧ Ext w0 w' := by
  refine enter Tryd.func42 rfl rfl rfl ?_
  intro a hS
  have hH := Hp.start w0 (Nobody)
  refine c_seq ?_
  refine reg_plain w0 (Nobody) ?_
  refine r_assign hS hH.kp0 rfl rfl ?_; clear hS; intro a hS
  refine Sq.nil ?_
  refine then_n ?_
  refine c_seq ?_
  refine reg_plain w0 (Nobody) ?_
  refine r_move hS hH.kp0 rfl rfl ?_; clear hS; intro a hS
  refine r_move hS hH.kp0 rfl rfl ?_; clear hS; intro a hS
  refine r_call (l := [.tmp 5, .tmp 6]) hS rfl rfl Fp.fn54 rfl ?_
  refine Calls.mono (IndexFunc_c q qc l hl _ (hb.ext hH.mod)) ?_
  rintro e w1 ⟨r, rfl, hr, hE⟩
  replace hH := hH.ext hE
  refine ⟨_, rfl, hH.kp0, ?_⟩
  clear hS; intro a hS
  refine r_geq hS hH.kp0 rfl rfl rfl ?_; clear hS; intro a hS
  refine r_assign hS hH.kp0 rfl rfl ?_; clear hS; intro a hS
  refine Sq.nil ?_
  refine then_n ?_
  refine wp_ret ?_
  refine leave (.inl rfl) hS rfl (Res.tmp rfl Res.nil) ⟨congrArg (fun z => Ending.returned (Value.bool z)) ?_, hH.mod⟩
  exact decide_eq_decide.2 hr

set_option maxRecDepth 100000 in
set_option maxHeartbeats 2000000 in
theorem right_0 (ve : Int) (q1 q2 q3 q4 : Option Addr) (c1 c2 c3 c4 : Nat) (dst src tok tag : List UInt8) (lst : List Int) (ln : Int) (ph : Bool) (htag : tag.length = 16) (n : Int) (w0 : World) : Calls Tryd.prog 25 #[.agg ([.int .i64 0, .int .i64 ve, .slice q1 dst.length c1, .slice q2 src.length c2, .slice q3 tok.length c3, .int .i64 ln, .bool ph, .slice q4 lst.length c4] ++ hcells tag : List Value).toArray, .int .i64 n] w0 fun e w' => e = .returned (.bool (decide (mayP 0 dst.length src.length tok.length ln n lst.length (badN lst)))) ∧ Ext w0 w' := by
  refine enter Tryd.func25 rfl rfl rfl ?_
  intro a hS
  have hH := Hp.start w0 (Nobody)
  obtain ⟨t0, t1, t2, t3, t4, t5, t6, t7, t8, t9, ta, tb, tc, td, te, tf, rfl⟩ := len16 htag
  refine c_seq ?_
  refine reg_plain w0 (Nobody) ?_
  refine r_box hS hH (by repeat (first | exact Sub.nil | refine Sub.cons ?_ ?_ | exact In.here | refine In.there ?_)) rfl rfl rfl ?_
  clear hS hH; intro a w b2 hb2 hwb2 hS hH
  refine r_assign hS hH.kp0 rfl rfl ?_; clear hS; intro a hS
  refine Sq.nil ?_
  refine then_n ?_
  refine c_seq ?_
  refine c_seq ?_
  refine reg_plain w0 (Nobody) ?_
  rcases (by omega : 20 < dst.length ∨ (dst.length ≤ 20 ∧ 20 < src.length) ∨ (dst.length ≤ 20 ∧ src.length ≤ 20)) with hd | ⟨hd, hs⟩ | ⟨hd, hs⟩
  · refine r_fieldAddr hS hH.kp0 rfl Fp.fo26_2 rfl ?_; clear hS; intro a hS
    refine r_load_sc hS hH (by repeat (first | exact Sub.nil | refine Sub.cons ?_ ?_ | exact In.here | refine In.there ?_)) rfl (by repeat (first | exact In.here | refine In.there ?_)) Fp.sc22 (by rfl) rfl ?_; clear hS; intro a hS
    refine r_lenSl hS hH.kp0 rfl Fp.isSlice22 rfl ?_; clear hS; intro a hS
    refine r_gtr hS hH.kp0 rfl rfl rfl ?_; clear hS; intro a hS
    refine r_move hS hH.kp0 rfl rfl ?_; clear hS; intro a hS
    refine Sq.guardNo hS rfl rfl (DT (by omega)) hH.kp0 rfl ?_; clear hS; intro a hS
    refine Sq.guardNo hS rfl rfl (DT (by omega)) hH.kp0 rfl ?_; clear hS; intro a hS
    refine Sq.guardNo hS rfl rfl (DT (by omega)) hH.kp0 rfl ?_; clear hS; intro a hS
    refine Sq.guardNo hS rfl rfl (DT (by omega)) hH.kp0 rfl ?_; clear hS; intro a hS
    refine Sq.guardOff hS rfl rfl hH.kp0 rfl ?_; clear hS; intro a hS
    refine Sq.guardOff hS rfl rfl hH.kp0 rfl ?_; clear hS; intro a hS
    refine Sq.guardOff hS rfl rfl hH.kp0 rfl ?_; clear hS; intro a hS
    refine Sq.guardOff hS rfl rfl hH.kp0 rfl ?_; clear hS; intro a hS
    refine Sq.guardNo hS rfl rfl (DT (by omega)) hH.kp0 rfl ?_; clear hS; intro a hS
    refine r_pickT hS hH.kp0 rfl (DT (by omega)) rfl rfl ?_; clear hS; intro a hS
    refine Sq.nil ?_
    refine then_n ?_
    refine c_condT hS rfl rfl ?_
    refine c_seq ?_
    refine reg_plain w0 (Nobody) ?_
    refine r_assign hS hH.kp0 rfl rfl ?_; clear hS; intro a hS
    refine Sq.nil ?_
    refine then_n ?_
    refine wp_ret ?_
    refine then_r ?_
    refine leave (.inl rfl) hS rfl (Res.tmp rfl Res.nil) ⟨congrArg (fun z => Ending.returned (Value.bool z)) ?_, hH.mod⟩
    first | exact (DF (by unfold mayP; omega)).symm | exact (DT (by unfold mayP; omega)).symm | exact decide_eq_decide.2 (by unfold mayP; omega)
  · refine r_fieldAddr hS hH.kp0 rfl Fp.fo26_2 rfl ?_; clear hS; intro a hS
    refine r_load_sc hS hH (by repeat (first | exact Sub.nil | refine Sub.cons ?_ ?_ | exact In.here | refine In.there ?_)) rfl (by repeat (first | exact In.here | refine In.there ?_)) Fp.sc22 (by rfl) rfl ?_; clear hS; intro a hS
    refine r_lenSl hS hH.kp0 rfl Fp.isSlice22 rfl ?_; clear hS; intro a hS
    refine r_gtr hS hH.kp0 rfl rfl rfl ?_; clear hS; intro a hS
    refine r_move hS hH.kp0 rfl rfl ?_; clear hS; intro a hS
    refine Sq.guardYes hS rfl rfl (DF (by omega)) ?_; refine r_fieldAddr hS hH.kp0 rfl Fp.fo26_0 rfl ?_; clear hS; intro a hS
    refine Sq.guardYes hS rfl rfl (DF (by omega)) ?_; refine r_load_sc hS hH (by repeat (first | exact Sub.nil | refine Sub.cons ?_ ?_ | exact In.here | refine In.there ?_)) rfl (by repeat (first | exact In.here | refine In.there ?_)) Fp.sc3 (by rfl) rfl ?_; clear hS; intro a hS
    refine Sq.guardYes hS rfl rfl (DF (by omega)) ?_; refine r_neq hS hH.kp0 rfl rfl rfl ?_; clear hS; intro a hS
    refine Sq.guardYes hS rfl rfl (DF (by omega)) ?_; refine r_move hS hH.kp0 rfl rfl ?_; clear hS; intro a hS
    refine Sq.guardYes hS rfl rfl rfl ?_; refine r_fieldAddr hS hH.kp0 rfl Fp.fo26_3 rfl ?_; clear hS; intro a hS
    refine Sq.guardYes hS rfl rfl rfl ?_; refine r_load_sc hS hH (by repeat (first | exact Sub.nil | refine Sub.cons ?_ ?_ | exact In.here | refine In.there ?_)) rfl (by repeat (first | exact In.here | refine In.there ?_)) Fp.sc22 (by rfl) rfl ?_; clear hS; intro a hS
    refine Sq.guardYes hS rfl rfl rfl ?_; refine r_lenSl hS hH.kp0 rfl Fp.isSlice22 rfl ?_; clear hS; intro a hS
    refine Sq.guardYes hS rfl rfl rfl ?_; refine r_gtr hS hH.kp0 rfl rfl rfl ?_; clear hS; intro a hS
    refine Sq.guardYes hS rfl rfl (DF (by omega)) ?_; refine r_pickT hS hH.kp0 rfl rfl rfl rfl ?_; clear hS; intro a hS
    refine r_pickF hS hH.kp0 rfl (DF (by omega)) rfl rfl ?_; clear hS; intro a hS
    refine Sq.nil ?_
    refine then_n ?_
    refine c_condT hS rfl (DT (by omega)) ?_
    refine c_seq ?_
    refine reg_plain w0 (Nobody) ?_
    refine r_assign hS hH.kp0 rfl rfl ?_; clear hS; intro a hS
    refine Sq.nil ?_
    refine then_n ?_
    refine wp_ret ?_
    refine then_r ?_
    refine leave (.inl rfl) hS rfl (Res.tmp rfl Res.nil) ⟨congrArg (fun z => Ending.returned (Value.bool z)) ?_, hH.mod⟩
    first | exact (DF (by unfold mayP; omega)).symm | exact (DT (by unfold mayP; omega)).symm | exact decide_eq_decide.2 (by unfold mayP; omega)
  · refine r_fieldAddr hS hH.kp0 rfl Fp.fo26_2 rfl ?_; clear hS; intro a hS
    refine r_load_sc hS hH (by repeat (first | exact Sub.nil | refine Sub.cons ?_ ?_ | exact In.here | refine In.there ?_)) rfl (by repeat (first | exact In.here | refine In.there ?_)) Fp.sc22 (by rfl) rfl ?_; clear hS; intro a hS
    refine r_lenSl hS hH.kp0 rfl Fp.isSlice22 rfl ?_; clear hS; intro a hS
    refine r_gtr hS hH.kp0 rfl rfl rfl ?_; clear hS; intro a hS
    refine r_move hS hH.kp0 rfl rfl ?_; clear hS; intro a hS
    refine Sq.guardYes hS rfl rfl (DF (by omega)) ?_; refine r_fieldAddr hS hH.kp0 rfl Fp.fo26_0 rfl ?_; clear hS; intro a hS
    refine Sq.guardYes hS rfl rfl (DF (by omega)) ?_; refine r_load_sc hS hH (by repeat (first | exact Sub.nil | refine Sub.cons ?_ ?_ | exact In.here | refine In.there ?_)) rfl (by repeat (first | exact In.here | refine In.there ?_)) Fp.sc3 (by rfl) rfl ?_; clear hS; intro a hS
    refine Sq.guardYes hS rfl rfl (DF (by omega)) ?_; refine r_neq hS hH.kp0 rfl rfl rfl ?_; clear hS; intro a hS
    refine Sq.guardYes hS rfl rfl (DF (by omega)) ?_; refine r_move hS hH.kp0 rfl rfl ?_; clear hS; intro a hS
    refine Sq.guardYes hS rfl rfl rfl ?_; refine r_fieldAddr hS hH.kp0 rfl Fp.fo26_3 rfl ?_; clear hS; intro a hS
    refine Sq.guardYes hS rfl rfl rfl ?_; refine r_load_sc hS hH (by repeat (first | exact Sub.nil | refine Sub.cons ?_ ?_ | exact In.here | refine In.there ?_)) rfl (by repeat (first | exact In.here | refine In.there ?_)) Fp.sc22 (by rfl) rfl ?_; clear hS; intro a hS
    refine Sq.guardYes hS rfl rfl rfl ?_; refine r_lenSl hS hH.kp0 rfl Fp.isSlice22 rfl ?_; clear hS; intro a hS
    refine Sq.guardYes hS rfl rfl rfl ?_; refine r_gtr hS hH.kp0 rfl rfl rfl ?_; clear hS; intro a hS
    refine Sq.guardYes hS rfl rfl (DF (by omega)) ?_; refine r_pickT hS hH.kp0 rfl rfl rfl rfl ?_; clear hS; intro a hS
    refine r_pickF hS hH.kp0 rfl (DF (by omega)) rfl rfl ?_; clear hS; intro a hS
    refine Sq.nil ?_
    refine then_n ?_
    refine c_condF hS rfl (DF (by omega)) ?_
    refine wp_skip ?_
    refine then_n ?_
    refine c_seq ?_
    refine reg_plain w0 (Nobody) ?_
    rcases (by omega : n < 1 ∨ (1 ≤ n ∧ 4 < n) ∨ (1 ≤ n ∧ n ≤ 4)) with hn | ⟨hn, hn4⟩ | ⟨hn, hn4⟩
    · refine r_move hS hH.kp0 rfl rfl ?_; clear hS; intro a hS
      refine r_geq hS hH.kp0 rfl rfl rfl ?_; clear hS; intro a hS
      refine r_move hS hH.kp0 rfl rfl ?_; clear hS; intro a hS
      refine Sq.guardNo hS rfl rfl (DF (by omega)) hH.kp0 rfl ?_; clear hS; intro a hS
      refine Sq.guardNo hS rfl rfl (DF (by omega)) hH.kp0 rfl ?_; clear hS; intro a hS
      refine r_pickF hS hH.kp0 rfl (DF (by omega)) rfl rfl ?_; clear hS; intro a hS
      refine r_assign hS hH.kp0 rfl rfl ?_; clear hS; intro a hS
      refine Sq.nil ?_
      refine then_n ?_
      refine c_seq ?_
      refine c_seq ?_
      refine reg_plain w0 (Nobody) ?_
      refine r_fieldAddr hS hH.kp0 rfl Fp.fo26_0 rfl ?_; clear hS; intro a hS
      refine r_load_sc hS hH (by repeat (first | exact Sub.nil | refine Sub.cons ?_ ?_ | exact In.here | refine In.there ?_)) rfl (by repeat (first | exact In.here | refine In.there ?_)) Fp.sc3 (by rfl) rfl ?_; clear hS; intro a hS
      refine Sq.nil ?_
      refine then_n ?_
      refine wp_block ?_
      refine c_seq ?_
      refine wp_block ?_
      refine c_seq ?_
      refine wp_block ?_
      refine c_seq ?_
      refine wp_block ?_
      refine c_seq ?_
      refine wp_block ?_
      refine c_seq ?_
      refine wp_block ?_
      refine c_seq ?_
      refine c_seq ?_
      refine c_seq ?_
      refine reg_plain w0 (Nobody) ?_
      refine r_eql hS hH.kp0 rfl rfl rfl ?_; clear hS; intro a hS
      refine r_assign hS hH.kp0 rfl rfl ?_; clear hS; intro a hS
      refine Sq.nil ?_
      refine then_n ?_
      refine c_condT hS rfl rfl ?_
      refine wp_exit ?_
      refine then_e ?_
      refine then_e ?_
      refine blk_hit ?_
      refine then_n ?_
      refine c_seq ?_
      refine reg_plain w0 (Nobody) ?_
      refine r_fieldAddr hS hH.kp0 rfl Fp.fo26_4 rfl ?_; clear hS; intro a hS
      refine r_load_sc hS hH (by repeat (first | exact Sub.nil | refine Sub.cons ?_ ?_ | exact In.here | refine In.there ?_)) rfl (by repeat (first | exact In.here | refine In.there ?_)) Fp.sc22 (by rfl) rfl ?_; clear hS; intro a hS
      refine r_lenSl hS hH.kp0 rfl Fp.isSlice22 rfl ?_; clear hS; intro a hS
      refine r_gtr hS hH.kp0 rfl rfl rfl ?_; clear hS; intro a hS
      refine Sq.nil ?_
      refine then_n ?_
      refine c_cond hS rfl (fun hc7 => ?_) (fun hc7 => ?_)
      · have htk := of_decide_eq_true hc7
        refine c_seq ?_
        refine reg_plain w0 (Nobody) ?_
        refine r_assign hS hH.kp0 rfl rfl ?_; clear hS; intro a hS
        refine Sq.nil ?_
        refine then_n ?_
        refine wp_ret ?_
        refine blk_r ?_
        refine then_r ?_
        refine blk_r ?_
        refine then_r ?_
        refine blk_r ?_
        refine then_r ?_
        refine blk_r ?_
        refine then_r ?_
        refine blk_r ?_
        refine then_r ?_
        refine leave (.inl rfl) hS rfl (Res.tmp rfl Res.nil) ⟨congrArg (fun z => Ending.returned (Value.bool z)) ?_, hH.mod⟩
        first | exact (DF (by unfold mayP; omega)).symm | exact (DT (by unfold mayP; omega)).symm | exact decide_eq_decide.2 (by unfold mayP; omega)
      · have htk := of_decide_eq_false hc7
        refine wp_skip ?_
        refine blk_n ?_
        refine then_n ?_
        refine c_seq ?_
        refine c_seq ?_
        refine reg_plain w0 (Nobody) ?_
        refine r_move hS hH.kp0 rfl rfl ?_; clear hS; intro a hS
        refine r_move hS hH.kp0 rfl rfl ?_; clear hS; intro a hS
        refine Sq.guardNo hS rfl rfl rfl hH.kp0 rfl ?_; clear hS; intro a hS
        refine Sq.guardNo hS rfl rfl rfl hH.kp0 rfl ?_; clear hS; intro a hS
        refine Sq.guardNo hS rfl rfl rfl hH.kp0 rfl ?_; clear hS; intro a hS
        refine Sq.guardNo hS rfl rfl rfl hH.kp0 rfl ?_; clear hS; intro a hS
        refine r_pickF hS hH.kp0 rfl rfl rfl rfl ?_; clear hS; intro a hS
        refine r_move hS hH.kp0 rfl rfl ?_; clear hS; intro a hS
        refine Sq.guardNo hS rfl rfl rfl hH.kp0 rfl ?_; clear hS; intro a hS
        refine Sq.guardNo hS rfl rfl rfl hH.kp0 rfl ?_; clear hS; intro a hS
        refine Sq.guardNo hS rfl rfl rfl hH.kp0 rfl ?_; clear hS; intro a hS
        refine r_pickF hS hH.kp0 rfl rfl rfl rfl ?_; clear hS; intro a hS
        refine r_assign hS hH.kp0 rfl rfl ?_; clear hS; intro a hS
        refine Sq.nil ?_
        refine then_n ?_
        refine wp_ret ?_
        refine then_r ?_
        refine blk_r ?_
        refine then_r ?_
        refine blk_r ?_
        refine then_r ?_
        refine blk_r ?_
        refine then_r ?_
        refine blk_r ?_
        refine then_r ?_
        refine leave (.inl rfl) hS rfl (Res.tmp rfl Res.nil) ⟨congrArg (fun z => Ending.returned (Value.bool z)) ?_, hH.mod⟩
        first | exact (DF (by unfold mayP; omega)).symm | exact (DT (by unfold mayP; omega)).symm | exact decide_eq_decide.2 (by unfold mayP; omega)
    · refine r_move hS hH.kp0 rfl rfl ?_; clear hS; intro a hS
      refine r_geq hS hH.kp0 rfl rfl rfl ?_; clear hS; intro a hS
      refine r_move hS hH.kp0 rfl rfl ?_; clear hS; intro a hS
      refine Sq.guardYes hS rfl rfl (DT (by omega)) ?_; refine r_move hS hH.kp0 rfl rfl ?_; clear hS; intro a hS
      refine Sq.guardYes hS rfl rfl (DT (by omega)) ?_; refine r_leq hS hH.kp0 rfl rfl rfl ?_; clear hS; intro a hS
      refine r_pickT hS hH.kp0 rfl (DT (by omega)) rfl rfl ?_; clear hS; intro a hS
      refine r_assign hS hH.kp0 rfl rfl ?_; clear hS; intro a hS
      refine Sq.nil ?_
      refine then_n ?_
      refine c_seq ?_
      refine c_seq ?_
      refine reg_plain w0 (Nobody) ?_
      refine r_fieldAddr hS hH.kp0 rfl Fp.fo26_0 rfl ?_; clear hS; intro a hS
      refine r_load_sc hS hH (by repeat (first | exact Sub.nil | refine Sub.cons ?_ ?_ | exact In.here | refine In.there ?_)) rfl (by repeat (first | exact In.here | refine In.there ?_)) Fp.sc3 (by rfl) rfl ?_; clear hS; intro a hS
      refine Sq.nil ?_
      refine then_n ?_
      refine wp_block ?_
      refine c_seq ?_
      refine wp_block ?_
      refine c_seq ?_
      refine wp_block ?_
      refine c_seq ?_
      refine wp_block ?_
      refine c_seq ?_
      refine wp_block ?_
      refine c_seq ?_
      refine wp_block ?_
      refine c_seq ?_
      refine c_seq ?_
      refine c_seq ?_
      refine reg_plain w0 (Nobody) ?_
      refine r_eql hS hH.kp0 rfl rfl rfl ?_; clear hS; intro a hS
      refine r_assign hS hH.kp0 rfl rfl ?_; clear hS; intro a hS
      refine Sq.nil ?_
      refine then_n ?_
      refine c_condT hS rfl rfl ?_
      refine wp_exit ?_
      refine then_e ?_
      refine then_e ?_
      refine blk_hit ?_
      refine then_n ?_
      refine c_seq ?_
      refine reg_plain w0 (Nobody) ?_
      refine r_fieldAddr hS hH.kp0 rfl Fp.fo26_4 rfl ?_; clear hS; intro a hS
      refine r_load_sc hS hH (by repeat (first | exact Sub.nil | refine Sub.cons ?_ ?_ | exact In.here | refine In.there ?_)) rfl (by repeat (first | exact In.here | refine In.there ?_)) Fp.sc22 (by rfl) rfl ?_; clear hS; intro a hS
      refine r_lenSl hS hH.kp0 rfl Fp.isSlice22 rfl ?_; clear hS; intro a hS
      refine r_gtr hS hH.kp0 rfl rfl rfl ?_; clear hS; intro a hS
      refine Sq.nil ?_
      refine then_n ?_
      refine c_cond hS rfl (fun hc7 => ?_) (fun hc7 => ?_)
      · have htk := of_decide_eq_true hc7
        refine c_seq ?_
        refine reg_plain w0 (Nobody) ?_
        refine r_assign hS hH.kp0 rfl rfl ?_; clear hS; intro a hS
        refine Sq.nil ?_
        refine then_n ?_
        refine wp_ret ?_
        refine blk_r ?_
        refine then_r ?_
        refine blk_r ?_
        refine then_r ?_
        refine blk_r ?_
        refine then_r ?_
        refine blk_r ?_
        refine then_r ?_
        refine blk_r ?_
        refine then_r ?_
        refine leave (.inl rfl) hS rfl (Res.tmp rfl Res.nil) ⟨congrArg (fun z => Ending.returned (Value.bool z)) ?_, hH.mod⟩
        first | exact (DF (by unfold mayP; omega)).symm | exact (DT (by unfold mayP; omega)).symm | exact decide_eq_decide.2 (by unfold mayP; omega)
      · have htk := of_decide_eq_false hc7
        refine wp_skip ?_
        refine blk_n ?_
        refine then_n ?_
        refine c_seq ?_
        refine c_seq ?_
        refine reg_plain w0 (Nobody) ?_
        refine r_move hS hH.kp0 rfl rfl ?_; clear hS; intro a hS
        refine r_move hS hH.kp0 rfl rfl ?_; clear hS; intro a hS
        refine Sq.guardNo hS rfl rfl (DF (by omega)) hH.kp0 rfl ?_; clear hS; intro a hS
        refine Sq.guardNo hS rfl rfl (DF (by omega)) hH.kp0 rfl ?_; clear hS; intro a hS
        refine Sq.guardNo hS rfl rfl (DF (by omega)) hH.kp0 rfl ?_; clear hS; intro a hS
        refine Sq.guardNo hS rfl rfl (DF (by omega)) hH.kp0 rfl ?_; clear hS; intro a hS
        refine r_pickF hS hH.kp0 rfl (DF (by omega)) rfl rfl ?_; clear hS; intro a hS
        refine r_move hS hH.kp0 rfl rfl ?_; clear hS; intro a hS
        refine Sq.guardNo hS rfl rfl rfl hH.kp0 rfl ?_; clear hS; intro a hS
        refine Sq.guardNo hS rfl rfl rfl hH.kp0 rfl ?_; clear hS; intro a hS
        refine Sq.guardNo hS rfl rfl rfl hH.kp0 rfl ?_; clear hS; intro a hS
        refine r_pickF hS hH.kp0 rfl rfl rfl rfl ?_; clear hS; intro a hS
        refine r_assign hS hH.kp0 rfl rfl ?_; clear hS; intro a hS
        refine Sq.nil ?_
        refine then_n ?_
        refine wp_ret ?_
        refine then_r ?_
        refine blk_r ?_
        refine then_r ?_
        refine blk_r ?_
        refine then_r ?_
        refine blk_r ?_
        refine then_r ?_
        refine blk_r ?_
        refine then_r ?_
        refine leave (.inl rfl) hS rfl (Res.tmp rfl Res.nil) ⟨congrArg (fun z => Ending.returned (Value.bool z)) ?_, hH.mod⟩
        first | exact (DF (by unfold mayP; omega)).symm | exact (DT (by unfold mayP; omega)).symm | exact decide_eq_decide.2 (by unfold mayP; omega)
    · refine r_move hS hH.kp0 rfl rfl ?_; clear hS; intro a hS
      refine r_geq hS hH.kp0 rfl rfl rfl ?_; clear hS; intro a hS
      refine r_move hS hH.kp0 rfl rfl ?_; clear hS; intro a hS
      refine Sq.guardYes hS rfl rfl (DT (by omega)) ?_; refine r_move hS hH.kp0 rfl rfl ?_; clear hS; intro a hS
      refine Sq.guardYes hS rfl rfl (DT (by omega)) ?_; refine r_leq hS hH.kp0 rfl rfl rfl ?_; clear hS; intro a hS
      refine r_pickT hS hH.kp0 rfl (DT (by omega)) rfl rfl ?_; clear hS; intro a hS
      refine r_assign hS hH.kp0 rfl rfl ?_; clear hS; intro a hS
      refine Sq.nil ?_
      refine then_n ?_
      refine c_seq ?_
      refine c_seq ?_
      refine reg_plain w0 (Nobody) ?_
      refine r_fieldAddr hS hH.kp0 rfl Fp.fo26_0 rfl ?_; clear hS; intro a hS
      refine r_load_sc hS hH (by repeat (first | exact Sub.nil | refine Sub.cons ?_ ?_ | exact In.here | refine In.there ?_)) rfl (by repeat (first | exact In.here | refine In.there ?_)) Fp.sc3 (by rfl) rfl ?_; clear hS; intro a hS
      refine Sq.nil ?_
      refine then_n ?_
      refine wp_block ?_
      refine c_seq ?_
      refine wp_block ?_
      refine c_seq ?_
      refine wp_block ?_
      refine c_seq ?_
      refine wp_block ?_
      refine c_seq ?_
      refine wp_block ?_
      refine c_seq ?_
      refine wp_block ?_
      refine c_seq ?_
      refine c_seq ?_
      refine c_seq ?_
      refine reg_plain w0 (Nobody) ?_
      refine r_eql hS hH.kp0 rfl rfl rfl ?_; clear hS; intro a hS
      refine r_assign hS hH.kp0 rfl rfl ?_; clear hS; intro a hS
      refine Sq.nil ?_
      refine then_n ?_
      refine c_condT hS rfl rfl ?_
      refine wp_exit ?_
      refine then_e ?_
      refine then_e ?_
      refine blk_hit ?_
      refine then_n ?_
      refine c_seq ?_
      refine reg_plain w0 (Nobody) ?_
      refine r_fieldAddr hS hH.kp0 rfl Fp.fo26_4 rfl ?_; clear hS; intro a hS
      refine r_load_sc hS hH (by repeat (first | exact Sub.nil | refine Sub.cons ?_ ?_ | exact In.here | refine In.there ?_)) rfl (by repeat (first | exact In.here | refine In.there ?_)) Fp.sc22 (by rfl) rfl ?_; clear hS; intro a hS
      refine r_lenSl hS hH.kp0 rfl Fp.isSlice22 rfl ?_; clear hS; intro a hS
      refine r_gtr hS hH.kp0 rfl rfl rfl ?_; clear hS; intro a hS
      refine Sq.nil ?_
      refine then_n ?_
      refine c_cond hS rfl (fun hc7 => ?_) (fun hc7 => ?_)
      · have htk := of_decide_eq_true hc7
        refine c_seq ?_
        refine reg_plain w0 (Nobody) ?_
        refine r_assign hS hH.kp0 rfl rfl ?_; clear hS; intro a hS
        refine Sq.nil ?_
        refine then_n ?_
        refine wp_ret ?_
        refine blk_r ?_
        refine then_r ?_
        refine blk_r ?_
        refine then_r ?_
        refine blk_r ?_
        refine then_r ?_
        refine blk_r ?_
        refine then_r ?_
        refine blk_r ?_
        refine then_r ?_
        refine leave (.inl rfl) hS rfl (Res.tmp rfl Res.nil) ⟨congrArg (fun z => Ending.returned (Value.bool z)) ?_, hH.mod⟩
        first | exact (DF (by unfold mayP; omega)).symm | exact (DT (by unfold mayP; omega)).symm | exact decide_eq_decide.2 (by unfold mayP; omega)
      · have htk := of_decide_eq_false hc7
        refine wp_skip ?_
        refine blk_n ?_
        refine then_n ?_
        refine c_seq ?_
        refine c_seq ?_
        refine reg_plain w0 (Nobody) ?_
        rcases (by omega : ln < n ∨ n ≤ ln) with hl | hl
        · refine r_move hS hH.kp0 rfl rfl ?_; clear hS; intro a hS
          refine r_move hS hH.kp0 rfl rfl ?_; clear hS; intro a hS
          refine Sq.guardYes hS rfl rfl (DT (by omega)) ?_; refine r_fieldAddr hS hH.kp0 rfl Fp.fo26_5 rfl ?_; clear hS; intro a hS
          refine Sq.guardYes hS rfl rfl (DT (by omega)) ?_; refine r_load_sc hS hH (by repeat (first | exact Sub.nil | refine Sub.cons ?_ ?_ | exact In.here | refine In.there ?_)) rfl (by repeat (first | exact In.here | refine In.there ?_)) Fp.sc3 (by rfl) rfl ?_; clear hS; intro a hS
          refine Sq.guardYes hS rfl rfl (DT (by omega)) ?_; refine r_move hS hH.kp0 rfl rfl ?_; clear hS; intro a hS
          refine Sq.guardYes hS rfl rfl (DT (by omega)) ?_; refine r_geq hS hH.kp0 rfl rfl rfl ?_; clear hS; intro a hS
          refine r_pickT hS hH.kp0 rfl (DT (by omega)) rfl rfl ?_; clear hS; intro a hS
          refine r_move hS hH.kp0 rfl rfl ?_; clear hS; intro a hS
          refine Sq.guardNo hS rfl rfl (DF (by omega)) hH.kp0 rfl ?_; clear hS; intro a hS
          refine Sq.guardNo hS rfl rfl (DF (by omega)) hH.kp0 rfl ?_; clear hS; intro a hS
          refine Sq.guardNo hS rfl rfl (DF (by omega)) hH.kp0 rfl ?_; clear hS; intro a hS
          refine r_pickF hS hH.kp0 rfl (DF (by omega)) rfl rfl ?_; clear hS; intro a hS
          refine r_assign hS hH.kp0 rfl rfl ?_; clear hS; intro a hS
          refine Sq.nil ?_
          refine then_n ?_
          refine wp_ret ?_
          refine then_r ?_
          refine blk_r ?_
          refine then_r ?_
          refine blk_r ?_
          refine then_r ?_
          refine blk_r ?_
          refine then_r ?_
          refine blk_r ?_
          refine then_r ?_
          refine leave (.inl rfl) hS rfl (Res.tmp rfl Res.nil) ⟨congrArg (fun z => Ending.returned (Value.bool z)) ?_, hH.mod⟩
          first | exact (DF (by unfold mayP; omega)).symm | exact (DT (by unfold mayP; omega)).symm | exact decide_eq_decide.2 (by unfold mayP; omega)
        · refine r_move hS hH.kp0 rfl rfl ?_; clear hS; intro a hS
          refine r_move hS hH.kp0 rfl rfl ?_; clear hS; intro a hS
          refine Sq.guardYes hS rfl rfl (DT (by omega)) ?_; refine r_fieldAddr hS hH.kp0 rfl Fp.fo26_5 rfl ?_; clear hS; intro a hS
          refine Sq.guardYes hS rfl rfl (DT (by omega)) ?_; refine r_load_sc hS hH (by repeat (first | exact Sub.nil | refine Sub.cons ?_ ?_ | exact In.here | refine In.there ?_)) rfl (by repeat (first | exact In.here | refine In.there ?_)) Fp.sc3 (by rfl) rfl ?_; clear hS; intro a hS
          refine Sq.guardYes hS rfl rfl (DT (by omega)) ?_; refine r_move hS hH.kp0 rfl rfl ?_; clear hS; intro a hS
          refine Sq.guardYes hS rfl rfl (DT (by omega)) ?_; refine r_geq hS hH.kp0 rfl rfl rfl ?_; clear hS; intro a hS
          refine r_pickT hS hH.kp0 rfl (DT (by omega)) rfl rfl ?_; clear hS; intro a hS
          refine r_move hS hH.kp0 rfl rfl ?_; clear hS; intro a hS
          refine Sq.guardYes hS rfl rfl (DT (by omega)) ?_; refine r_fieldAddr hS hH.kp0 rfl Fp.fo26_5 rfl ?_; clear hS; intro a hS
          refine Sq.guardYes hS rfl rfl (DT (by omega)) ?_; refine r_load_sc hS hH (by repeat (first | exact Sub.nil | refine Sub.cons ?_ ?_ | exact In.here | refine In.there ?_)) rfl (by repeat (first | exact In.here | refine In.there ?_)) Fp.sc3 (by rfl) rfl ?_; clear hS; intro a hS
          refine Sq.guardYes hS rfl rfl (DT (by omega)) ?_; refine r_leq hS hH.kp0 rfl rfl rfl ?_; clear hS; intro a hS
          refine r_pickT hS hH.kp0 rfl (DT (by omega)) rfl rfl ?_; clear hS; intro a hS
          refine r_assign hS hH.kp0 rfl rfl ?_; clear hS; intro a hS
          refine Sq.nil ?_
          refine then_n ?_
          refine wp_ret ?_
          refine then_r ?_
          refine blk_r ?_
          refine then_r ?_
          refine blk_r ?_
          refine then_r ?_
          refine blk_r ?_
          refine then_r ?_
          refine blk_r ?_
          refine then_r ?_
          refine leave (.inl rfl) hS rfl (Res.tmp rfl Res.nil) ⟨congrArg (fun z => Ending.returned (Value.bool z)) ?_, hH.mod⟩
          first | exact (DF (by unfold mayP; omega)).symm | exact (DT (by unfold mayP; omega)).symm | exact decide_eq_decide.2 (by unfold mayP; omega)

set_option maxRecDepth 100000 in
set_option maxHeartbeats 2000000 in
theorem right_1 (ve : Int) (q1 q2 q3 q4 : Option Addr) (c1 c2 c3 c4 : Nat) (dst src tok tag : List UInt8) (lst : List Int) (ln : Int) (ph : Bool) (htag : tag.length = 16) (n : Int) (w0 : World) : Calls Tryd.prog 25 #[.agg ([.int .i64 1, .int .i64 ve, .slice q1 dst.length c1, .slice q2 src.length c2, .slice q3 tok.length c3, .int .i64 ln, .bool ph, .slice q4 lst.length c4] ++ hcells tag : List Value).toArray, .int .i64 n] w0 fun e w' => e = .returned (.bool (decide (mayP 1 dst.length src.length tok.length ln n lst.length (badN lst)))) ∧ Ext w0 w' := by
  refine enter Tryd.func25 rfl rfl rfl ?_
  intro a hS
  have hH := Hp.start w0 (Nobody)
  obtain ⟨t0, t1, t2, t3, t4, t5, t6, t7, t8, t9, ta, tb, tc, td, te, tf, rfl⟩ := len16 htag
  refine c_seq ?_
  refine reg_plain w0 (Nobody) ?_
  refine r_box hS hH (by repeat (first | exact Sub.nil | refine Sub.cons ?_ ?_ | exact In.here | refine In.there ?_)) rfl rfl rfl ?_
  clear hS hH; intro a w b2 hb2 hwb2 hS hH
  refine r_assign hS hH.kp0 rfl rfl ?_; clear hS; intro a hS
  refine Sq.nil ?_
  refine then_n ?_
  refine c_seq ?_
  refine c_seq ?_
  refine reg_plain w0 (Nobody) ?_
  rcases (by omega : 20 < dst.length ∨ (dst.length ≤ 20 ∧ 20 < src.length) ∨ (dst.length ≤ 20 ∧ src.length ≤ 20)) with hd | ⟨hd, hs⟩ | ⟨hd, hs⟩
  · refine r_fieldAddr hS hH.kp0 rfl Fp.fo26_2 rfl ?_; clear hS; intro a hS
    refine r_load_sc hS hH (by repeat (first | exact Sub.nil | refine Sub.cons ?_ ?_ | exact In.here | refine In.there ?_)) rfl (by repeat (first | exact In.here | refine In.there ?_)) Fp.sc22 (by rfl) rfl ?_; clear hS; intro a hS
    refine r_lenSl hS hH.kp0 rfl Fp.isSlice22 rfl ?_; clear hS; intro a hS
    refine r_gtr hS hH.kp0 rfl rfl rfl ?_; clear hS; intro a hS
    refine r_move hS hH.kp0 rfl rfl ?_; clear hS; intro a hS
    refine Sq.guardNo hS rfl rfl (DT (by omega)) hH.kp0 rfl ?_; clear hS; intro a hS
    refine Sq.guardNo hS rfl rfl (DT (by omega)) hH.kp0 rfl ?_; clear hS; intro a hS
    refine Sq.guardNo hS rfl rfl (DT (by omega)) hH.kp0 rfl ?_; clear hS; intro a hS
    refine Sq.guardNo hS rfl rfl (DT (by omega)) hH.kp0 rfl ?_; clear hS; intro a hS
    refine Sq.guardOff hS rfl rfl hH.kp0 rfl ?_; clear hS; intro a hS
    refine Sq.guardOff hS rfl rfl hH.kp0 rfl ?_; clear hS; intro a hS
    refine Sq.guardOff hS rfl rfl hH.kp0 rfl ?_; clear hS; intro a hS
    refine Sq.guardOff hS rfl rfl hH.kp0 rfl ?_; clear hS; intro a hS
    refine Sq.guardNo hS rfl rfl (DT (by omega)) hH.kp0 rfl ?_; clear hS; intro a hS
    refine r_pickT hS hH.kp0 rfl (DT (by omega)) rfl rfl ?_; clear hS; intro a hS
    refine Sq.nil ?_
    refine then_n ?_
    refine c_condT hS rfl rfl ?_
    refine c_seq ?_
    refine reg_plain w0 (Nobody) ?_
    refine r_assign hS hH.kp0 rfl rfl ?_; clear hS; intro a hS
    refine Sq.nil ?_
    refine then_n ?_
    refine wp_ret ?_
    refine then_r ?_
    refine leave (.inl rfl) hS rfl (Res.tmp rfl Res.nil) ⟨congrArg (fun z => Ending.returned (Value.bool z)) ?_, hH.mod⟩
    first | exact (DF (by unfold mayP; omega)).symm | exact (DT (by unfold mayP; omega)).symm | exact decide_eq_decide.2 (by unfold mayP; omega)
  · refine r_fieldAddr hS hH.kp0 rfl Fp.fo26_2 rfl ?_; clear hS; intro a hS
    refine r_load_sc hS hH (by repeat (first | exact Sub.nil | refine Sub.cons ?_ ?_ | exact In.here | refine In.there ?_)) rfl (by repeat (first | exact In.here | refine In.there ?_)) Fp.sc22 (by rfl) rfl ?_; clear hS; intro a hS
    refine r_lenSl hS hH.kp0 rfl Fp.isSlice22 rfl ?_; clear hS; intro a hS
    refine r_gtr hS hH.kp0 rfl rfl rfl ?_; clear hS; intro a hS
    refine r_move hS hH.kp0 rfl rfl ?_; clear hS; intro a hS
    refine Sq.guardYes hS rfl rfl (DF (by omega)) ?_; refine r_fieldAddr hS hH.kp0 rfl Fp.fo26_0 rfl ?_; clear hS; intro a hS
    refine Sq.guardYes hS rfl rfl (DF (by omega)) ?_; refine r_load_sc hS hH (by repeat (first | exact Sub.nil | refine Sub.cons ?_ ?_ | exact In.here | refine In.there ?_)) rfl (by repeat (first | exact In.here | refine In.there ?_)) Fp.sc3 (by rfl) rfl ?_; clear hS; intro a hS
    refine Sq.guardYes hS rfl rfl (DF (by omega)) ?_; refine r_neq hS hH.kp0 rfl rfl rfl ?_; clear hS; intro a hS
    refine Sq.guardYes hS rfl rfl (DF (by omega)) ?_; refine r_move hS hH.kp0 rfl rfl ?_; clear hS; intro a hS
    refine Sq.guardYes hS rfl rfl rfl ?_; refine r_fieldAddr hS hH.kp0 rfl Fp.fo26_3 rfl ?_; clear hS; intro a hS
    refine Sq.guardYes hS rfl rfl rfl ?_; refine r_load_sc hS hH (by repeat (first | exact Sub.nil | refine Sub.cons ?_ ?_ | exact In.here | refine In.there ?_)) rfl (by repeat (first | exact In.here | refine In.there ?_)) Fp.sc22 (by rfl) rfl ?_; clear hS; intro a hS
    refine Sq.guardYes hS rfl rfl rfl ?_; refine r_lenSl hS hH.kp0 rfl Fp.isSlice22 rfl ?_; clear hS; intro a hS
    refine Sq.guardYes hS rfl rfl rfl ?_; refine r_gtr hS hH.kp0 rfl rfl rfl ?_; clear hS; intro a hS
    refine Sq.guardYes hS rfl rfl (DF (by omega)) ?_; refine r_pickT hS hH.kp0 rfl rfl rfl rfl ?_; clear hS; intro a hS
    refine r_pickF hS hH.kp0 rfl (DF (by omega)) rfl rfl ?_; clear hS; intro a hS
    refine Sq.nil ?_
    refine then_n ?_
    refine c_condT hS rfl (DT (by omega)) ?_
    refine c_seq ?_
    refine reg_plain w0 (Nobody) ?_
    refine r_assign hS hH.kp0 rfl rfl ?_; clear hS; intro a hS
    refine Sq.nil ?_
    refine then_n ?_
    refine wp_ret ?_
    refine then_r ?_
    refine leave (.inl rfl) hS rfl (Res.tmp rfl Res.nil) ⟨congrArg (fun z => Ending.returned (Value.bool z)) ?_, hH.mod⟩
    first | exact (DF (by unfold mayP; omega)).symm | exact (DT (by unfold mayP; omega)).symm | exact decide_eq_decide.2 (by unfold mayP; omega)
  · refine r_fieldAddr hS hH.kp0 rfl Fp.fo26_2 rfl ?_; clear hS; intro a hS
    refine r_load_sc hS hH (by repeat (first | exact Sub.nil | refine Sub.cons ?_ ?_ | exact In.here | refine In.there ?_)) rfl (by repeat (first | exact In.here | refine In.there ?_)) Fp.sc22 (by rfl) rfl ?_; clear hS; intro a hS
    refine r_lenSl hS hH.kp0 rfl Fp.isSlice22 rfl ?_; clear hS; intro a hS
    refine r_gtr hS hH.kp0 rfl rfl rfl ?_; clear hS; intro a hS
    refine r_move hS hH.kp0 rfl rfl ?_; clear hS; intro a hS
    refine Sq.guardYes hS rfl rfl (DF (by omega)) ?_; refine r_fieldAddr hS hH.kp0 rfl Fp.fo26_0 rfl ?_; clear hS; intro a hS
    refine Sq.guardYes hS rfl rfl (DF (by omega)) ?_; refine r_load_sc hS hH (by repeat (first | exact Sub.nil | refine Sub.cons ?_ ?_ | exact In.here | refine In.there ?_)) rfl (by repeat (first | exact In.here | refine In.there ?_)) Fp.sc3 (by rfl) rfl ?_; clear hS; intro a hS
    refine Sq.guardYes hS rfl rfl (DF (by omega)) ?_; refine r_neq hS hH.kp0 rfl rfl rfl ?_; clear hS; intro a hS
    refine Sq.guardYes hS rfl rfl (DF (by omega)) ?_; refine r_move hS hH.kp0 rfl rfl ?_; clear hS; intro a hS
    refine Sq.guardYes hS rfl rfl rfl ?_; refine r_fieldAddr hS hH.kp0 rfl Fp.fo26_3 rfl ?_; clear hS; intro a hS
    refine Sq.guardYes hS rfl rfl rfl ?_; refine r_load_sc hS hH (by repeat (first | exact Sub.nil | refine Sub.cons ?_ ?_ | exact In.here | refine In.there ?_)) rfl (by repeat (first | exact In.here | refine In.there ?_)) Fp.sc22 (by rfl) rfl ?_; clear hS; intro a hS
    refine Sq.guardYes hS rfl rfl rfl ?_; refine r_lenSl hS hH.kp0 rfl Fp.isSlice22 rfl ?_; clear hS; intro a hS
    refine Sq.guardYes hS rfl rfl rfl ?_; refine r_gtr hS hH.kp0 rfl rfl rfl ?_; clear hS; intro a hS
    refine Sq.guardYes hS rfl rfl (DF (by omega)) ?_; refine r_pickT hS hH.kp0 rfl rfl rfl rfl ?_; clear hS; intro a hS
    refine r_pickF hS hH.kp0 rfl (DF (by omega)) rfl rfl ?_; clear hS; intro a hS
    refine Sq.nil ?_
    refine then_n ?_
    refine c_condF hS rfl (DF (by omega)) ?_
    refine wp_skip ?_
    refine then_n ?_
    refine c_seq ?_
    refine reg_plain w0 (Nobody) ?_
    rcases (by omega : n < 1 ∨ (1 ≤ n ∧ 4 < n) ∨ (1 ≤ n ∧ n ≤ 4)) with hn | ⟨hn, hn4⟩ | ⟨hn, hn4⟩
    · refine r_move hS hH.kp0 rfl rfl ?_; clear hS; intro a hS
      refine r_geq hS hH.kp0 rfl rfl rfl ?_; clear hS; intro a hS
      refine r_move hS hH.kp0 rfl rfl ?_; clear hS; intro a hS
      refine Sq.guardNo hS rfl rfl (DF (by omega)) hH.kp0 rfl ?_; clear hS; intro a hS
      refine Sq.guardNo hS rfl rfl (DF (by omega)) hH.kp0 rfl ?_; clear hS; intro a hS
      refine r_pickF hS hH.kp0 rfl (DF (by omega)) rfl rfl ?_; clear hS; intro a hS
      refine r_assign hS hH.kp0 rfl rfl ?_; clear hS; intro a hS
      refine Sq.nil ?_
      refine then_n ?_
      refine c_seq ?_
      refine c_seq ?_
      refine reg_plain w0 (Nobody) ?_
      refine r_fieldAddr hS hH.kp0 rfl Fp.fo26_0 rfl ?_; clear hS; intro a hS
      refine r_load_sc hS hH (by repeat (first | exact Sub.nil | refine Sub.cons ?_ ?_ | exact In.here | refine In.there ?_)) rfl (by repeat (first | exact In.here | refine In.there ?_)) Fp.sc3 (by rfl) rfl ?_; clear hS; intro a hS
      refine Sq.nil ?_
      refine then_n ?_
      refine wp_block ?_
      refine c_seq ?_
      refine wp_block ?_
      refine c_seq ?_
      refine wp_block ?_
      refine c_seq ?_
      refine wp_block ?_
      refine c_seq ?_
      refine wp_block ?_
      refine c_seq ?_
      refine wp_block ?_
      refine c_seq ?_
      refine c_seq ?_
      refine c_seq ?_
      refine reg_plain w0 (Nobody) ?_
      refine r_eql hS hH.kp0 rfl rfl rfl ?_; clear hS; intro a hS
      refine r_assign hS hH.kp0 rfl rfl ?_; clear hS; intro a hS
      refine Sq.nil ?_
      refine then_n ?_
      refine c_condF hS rfl rfl ?_
      refine wp_skip ?_
      refine then_n ?_
      refine c_seq ?_
      refine c_seq ?_
      refine c_seq ?_
      refine reg_plain w0 (Nobody) ?_
      refine r_eql hS hH.kp0 rfl rfl rfl ?_; clear hS; intro a hS
      refine r_assign hS hH.kp0 rfl rfl ?_; clear hS; intro a hS
      refine Sq.nil ?_
      refine then_n ?_
      refine c_condT hS rfl rfl ?_
      refine wp_skip ?_
      refine then_n ?_
      refine c_condT hS rfl rfl ?_
      refine wp_exit ?_
      refine then_e ?_
      refine then_e ?_
      refine blk_e rfl ?_
      refine then_e ?_
      refine blk_hit ?_
      refine then_n ?_
      refine c_seq ?_
      refine c_seq ?_
      refine reg_plain w0 (Nobody) ?_
      refine r_move hS hH.kp0 rfl rfl ?_; clear hS; intro a hS
      refine r_move hS hH.kp0 rfl rfl ?_; clear hS; intro a hS
      refine Sq.guardNo hS rfl rfl rfl hH.kp0 rfl ?_; clear hS; intro a hS
      refine Sq.guardNo hS rfl rfl rfl hH.kp0 rfl ?_; clear hS; intro a hS
      refine Sq.guardNo hS rfl rfl rfl hH.kp0 rfl ?_; clear hS; intro a hS
      refine Sq.guardNo hS rfl rfl rfl hH.kp0 rfl ?_; clear hS; intro a hS
      refine r_pickF hS hH.kp0 rfl rfl rfl rfl ?_; clear hS; intro a hS
      refine r_move hS hH.kp0 rfl rfl ?_; clear hS; intro a hS
      refine Sq.guardNo hS rfl rfl rfl hH.kp0 rfl ?_; clear hS; intro a hS
      refine Sq.guardNo hS rfl rfl rfl hH.kp0 rfl ?_; clear hS; intro a hS
      refine Sq.guardNo hS rfl rfl rfl hH.kp0 rfl ?_; clear hS; intro a hS
      refine r_pickF hS hH.kp0 rfl rfl rfl rfl ?_; clear hS; intro a hS
      refine r_assign hS hH.kp0 rfl rfl ?_; clear hS; intro a hS
      refine Sq.nil ?_
      refine then_n ?_
      refine wp_ret ?_
      refine then_r ?_
      refine blk_r ?_
      refine then_r ?_
      refine blk_r ?_
      refine then_r ?_
      refine blk_r ?_
      refine then_r ?_
      refine blk_r ?_
      refine then_r ?_
      refine leave (.inl rfl) hS rfl (Res.tmp rfl Res.nil) ⟨congrArg (fun z => Ending.returned (Value.bool z)) ?_, hH.mod⟩
      first | exact (DF (by unfold mayP; omega)).symm | exact (DT (by unfold mayP; omega)).symm | exact decide_eq_decide.2 (by unfold mayP; omega)
    · refine r_move hS hH.kp0 rfl rfl ?_; clear hS; intro a hS
      refine r_geq hS hH.kp0 rfl rfl rfl ?_; clear hS; intro a hS
      refine r_move hS hH.kp0 rfl rfl ?_; clear hS; intro a hS
      refine Sq.guardYes hS rfl rfl (DT (by omega)) ?_; refine r_move hS hH.kp0 rfl rfl ?_; clear hS; intro a hS
      refine Sq.guardYes hS rfl rfl (DT (by omega)) ?_; refine r_leq hS hH.kp0 rfl rfl rfl ?_; clear hS; intro a hS
      refine r_pickT hS hH.kp0 rfl (DT (by omega)) rfl rfl ?_; clear hS; intro a hS
      refine r_assign hS hH.kp0 rfl rfl ?_; clear hS; intro a hS
      refine Sq.nil ?_
      refine then_n ?_
      refine c_seq ?_
      refine c_seq ?_
      refine reg_plain w0 (Nobody) ?_
      refine r_fieldAddr hS hH.kp0 rfl Fp.fo26_0 rfl ?_; clear hS; intro a hS
      refine r_load_sc hS hH (by repeat (first | exact Sub.nil | refine Sub.cons ?_ ?_ | exact In.here | refine In.there ?_)) rfl (by repeat (first | exact In.here | refine In.there ?_)) Fp.sc3 (by rfl) rfl ?_; clear hS; intro a hS
      refine Sq.nil ?_
      refine then_n ?_
      refine wp_block ?_
      refine c_seq ?_
      refine wp_block ?_
      refine c_seq ?_
      refine wp_block ?_
      refine c_seq ?_
      refine wp_block ?_
      refine c_seq ?_
      refine wp_block ?_
      refine c_seq ?_
      refine wp_block ?_
      refine c_seq ?_
      refine c_seq ?_
      refine c_seq ?_
      refine reg_plain w0 (Nobody) ?_
      refine r_eql hS hH.kp0 rfl rfl rfl ?_; clear hS; intro a hS
      refine r_assign hS hH.kp0 rfl rfl ?_; clear hS; intro a hS
      refine Sq.nil ?_
      refine then_n ?_
      refine c_condF hS rfl rfl ?_
      refine wp_skip ?_
      refine then_n ?_
      refine c_seq ?_
      refine c_seq ?_
      refine c_seq ?_
      refine reg_plain w0 (Nobody) ?_
      refine r_eql hS hH.kp0 rfl rfl rfl ?_; clear hS; intro a hS
      refine r_assign hS hH.kp0 rfl rfl ?_; clear hS; intro a hS
      refine Sq.nil ?_
      refine then_n ?_
      refine c_condT hS rfl rfl ?_
      refine wp_skip ?_
      refine then_n ?_
      refine c_condT hS rfl rfl ?_
      refine wp_exit ?_
      refine then_e ?_
      refine then_e ?_
      refine blk_e rfl ?_
      refine then_e ?_
      refine blk_hit ?_
      refine then_n ?_
      refine c_seq ?_
      refine c_seq ?_
      refine reg_plain w0 (Nobody) ?_
      refine r_move hS hH.kp0 rfl rfl ?_; clear hS; intro a hS
      refine r_move hS hH.kp0 rfl rfl ?_; clear hS; intro a hS
      refine Sq.guardNo hS rfl rfl (DF (by omega)) hH.kp0 rfl ?_; clear hS; intro a hS
      refine Sq.guardNo hS rfl rfl (DF (by omega)) hH.kp0 rfl ?_; clear hS; intro a hS
      refine Sq.guardNo hS rfl rfl (DF (by omega)) hH.kp0 rfl ?_; clear hS; intro a hS
      refine Sq.guardNo hS rfl rfl (DF (by omega)) hH.kp0 rfl ?_; clear hS; intro a hS
      refine r_pickF hS hH.kp0 rfl (DF (by omega)) rfl rfl ?_; clear hS; intro a hS
      refine r_move hS hH.kp0 rfl rfl ?_; clear hS; intro a hS
      refine Sq.guardNo hS rfl rfl rfl hH.kp0 rfl ?_; clear hS; intro a hS
      refine Sq.guardNo hS rfl rfl rfl hH.kp0 rfl ?_; clear hS; intro a hS
      refine Sq.guardNo hS rfl rfl rfl hH.kp0 rfl ?_; clear hS; intro a hS
      refine r_pickF hS hH.kp0 rfl rfl rfl rfl ?_; clear hS; intro a hS
      refine r_assign hS hH.kp0 rfl rfl ?_; clear hS; intro a hS
      refine Sq.nil ?_
      refine then_n ?_
      refine wp_ret ?_
      refine then_r ?_
      refine blk_r ?_
      refine then_r ?_
      refine blk_r ?_
      refine then_r ?_
      refine blk_r ?_
      refine then_r ?_
      refine blk_r ?_
      refine then_r ?_
      refine leave (.inl rfl) hS rfl (Res.tmp rfl Res.nil) ⟨congrArg (fun z => Ending.returned (Value.bool z)) ?_, hH.mod⟩
      first | exact (DF (by unfold mayP; omega)).symm | exact (DT (by unfold mayP; omega)).symm | exact decide_eq_decide.2 (by unfold mayP; omega)
    · refine r_move hS hH.kp0 rfl rfl ?_; clear hS; intro a hS
      refine r_geq hS hH.kp0 rfl rfl rfl ?_; clear hS; intro a hS
      refine r_move hS hH.kp0 rfl rfl ?_; clear hS; intro a hS
      refine Sq.guardYes hS rfl rfl (DT (by omega)) ?_; refine r_move hS hH.kp0 rfl rfl ?_; clear hS; intro a hS
      refine Sq.guardYes hS rfl rfl (DT (by omega)) ?_; refine r_leq hS hH.kp0 rfl rfl rfl ?_; clear hS; intro a hS
      refine r_pickT hS hH.kp0 rfl (DT (by omega)) rfl rfl ?_; clear hS; intro a hS
      refine r_assign hS hH.kp0 rfl rfl ?_; clear hS; intro a hS
      refine Sq.nil ?_
      refine then_n ?_
      refine c_seq ?_
      refine c_seq ?_
      refine reg_plain w0 (Nobody) ?_
      refine r_fieldAddr hS hH.kp0 rfl Fp.fo26_0 rfl ?_; clear hS; intro a hS
      refine r_load_sc hS hH (by repeat (first | exact Sub.nil | refine Sub.cons ?_ ?_ | exact In.here | refine In.there ?_)) rfl (by repeat (first | exact In.here | refine In.there ?_)) Fp.sc3 (by rfl) rfl ?_; clear hS; intro a hS
      refine Sq.nil ?_
      refine then_n ?_
      refine wp_block ?_
      refine c_seq ?_
      refine wp_block ?_
      refine c_seq ?_
      refine wp_block ?_
      refine c_seq ?_
      refine wp_block ?_
      refine c_seq ?_
      refine wp_block ?_
      refine c_seq ?_
      refine wp_block ?_
      refine c_seq ?_
      refine c_seq ?_
      refine c_seq ?_
      refine reg_plain w0 (Nobody) ?_
      refine r_eql hS hH.kp0 rfl rfl rfl ?_; clear hS; intro a hS
      refine r_assign hS hH.kp0 rfl rfl ?_; clear hS; intro a hS
      refine Sq.nil ?_
      refine then_n ?_
      refine c_condF hS rfl rfl ?_
      refine wp_skip ?_
      refine then_n ?_
      refine c_seq ?_
      refine c_seq ?_
      refine c_seq ?_
      refine reg_plain w0 (Nobody) ?_
      refine r_eql hS hH.kp0 rfl rfl rfl ?_; clear hS; intro a hS
      refine r_assign hS hH.kp0 rfl rfl ?_; clear hS; intro a hS
      refine Sq.nil ?_
      refine then_n ?_
      refine c_condT hS rfl rfl ?_
      refine wp_skip ?_
      refine then_n ?_
      refine c_condT hS rfl rfl ?_
      refine wp_exit ?_
      refine then_e ?_
      refine then_e ?_
      refine blk_e rfl ?_
      refine then_e ?_
      refine blk_hit ?_
      refine then_n ?_
      refine c_seq ?_
      refine c_seq ?_
      refine reg_plain w0 (Nobody) ?_
      rcases (by omega : ln < n ∨ n ≤ ln) with hl | hl
      · refine r_move hS hH.kp0 rfl rfl ?_; clear hS; intro a hS
        refine r_move hS hH.kp0 rfl rfl ?_; clear hS; intro a hS
        refine Sq.guardYes hS rfl rfl (DT (by omega)) ?_; refine r_fieldAddr hS hH.kp0 rfl Fp.fo26_5 rfl ?_; clear hS; intro a hS
        refine Sq.guardYes hS rfl rfl (DT (by omega)) ?_; refine r_load_sc hS hH (by repeat (first | exact Sub.nil | refine Sub.cons ?_ ?_ | exact In.here | refine In.there ?_)) rfl (by repeat (first | exact In.here | refine In.there ?_)) Fp.sc3 (by rfl) rfl ?_; clear hS; intro a hS
        refine Sq.guardYes hS rfl rfl (DT (by omega)) ?_; refine r_move hS hH.kp0 rfl rfl ?_; clear hS; intro a hS
        refine Sq.guardYes hS rfl rfl (DT (by omega)) ?_; refine r_geq hS hH.kp0 rfl rfl rfl ?_; clear hS; intro a hS
        refine r_pickT hS hH.kp0 rfl (DT (by omega)) rfl rfl ?_; clear hS; intro a hS
        refine r_move hS hH.kp0 rfl rfl ?_; clear hS; intro a hS
        refine Sq.guardNo hS rfl rfl (DF (by omega)) hH.kp0 rfl ?_; clear hS; intro a hS
        refine Sq.guardNo hS rfl rfl (DF (by omega)) hH.kp0 rfl ?_; clear hS; intro a hS
        refine Sq.guardNo hS rfl rfl (DF (by omega)) hH.kp0 rfl ?_; clear hS; intro a hS
        refine r_pickF hS hH.kp0 rfl (DF (by omega)) rfl rfl ?_; clear hS; intro a hS
        refine r_assign hS hH.kp0 rfl rfl ?_; clear hS; intro a hS
        refine Sq.nil ?_
        refine then_n ?_
        refine wp_ret ?_
        refine then_r ?_
        refine blk_r ?_
        refine then_r ?_
        refine blk_r ?_
        refine then_r ?_
        refine blk_r ?_
        refine then_r ?_
        refine blk_r ?_
        refine then_r ?_
        refine leave (.inl rfl) hS rfl (Res.tmp rfl Res.nil) ⟨congrArg (fun z => Ending.returned (Value.bool z)) ?_, hH.mod⟩
        first | exact (DF (by unfold mayP; omega)).symm | exact (DT (by unfold mayP; omega)).symm | exact decide_eq_decide.2 (by unfold mayP; omega)
      · refine r_move hS hH.kp0 rfl rfl ?_; clear hS; intro a hS
        refine r_move hS hH.kp0 rfl rfl ?_; clear hS; intro a hS
        refine Sq.guardYes hS rfl rfl (DT (by omega)) ?_; refine r_fieldAddr hS hH.kp0 rfl Fp.fo26_5 rfl ?_; clear hS; intro a hS
        refine Sq.guardYes hS rfl rfl (DT (by omega)) ?_; refine r_load_sc hS hH (by repeat (first | exact Sub.nil | refine Sub.cons ?_ ?_ | exact In.here | refine In.there ?_)) rfl (by repeat (first | exact In.here | refine In.there ?_)) Fp.sc3 (by rfl) rfl ?_; clear hS; intro a hS
        refine Sq.guardYes hS rfl rfl (DT (by omega)) ?_; refine r_move hS hH.kp0 rfl rfl ?_; clear hS; intro a hS
        refine Sq.guardYes hS rfl rfl (DT (by omega)) ?_; refine r_geq hS hH.kp0 rfl rfl rfl ?_; clear hS; intro a hS
        refine r_pickT hS hH.kp0 rfl (DT (by omega)) rfl rfl ?_; clear hS; intro a hS
        refine r_move hS hH.kp0 rfl rfl ?_; clear hS; intro a hS
        refine Sq.guardYes hS rfl rfl (DT (by omega)) ?_; refine r_fieldAddr hS hH.kp0 rfl Fp.fo26_5 rfl ?_; clear hS; intro a hS
        refine Sq.guardYes hS rfl rfl (DT (by omega)) ?_; refine r_load_sc hS hH (by repeat (first | exact Sub.nil | refine Sub.cons ?_ ?_ | exact In.here | refine In.there ?_)) rfl (by repeat (first | exact In.here | refine In.there ?_)) Fp.sc3 (by rfl) rfl ?_; clear hS; intro a hS
        refine Sq.guardYes hS rfl rfl (DT (by omega)) ?_; refine r_leq hS hH.kp0 rfl rfl rfl ?_; clear hS; intro a hS
        refine r_pickT hS hH.kp0 rfl (DT (by omega)) rfl rfl ?_; clear hS; intro a hS
        refine r_assign hS hH.kp0 rfl rfl ?_; clear hS; intro a hS
        refine Sq.nil ?_
        refine then_n ?_
        refine wp_ret ?_
        refine then_r ?_
        refine blk_r ?_
        refine then_r ?_
        refine blk_r ?_
        refine then_r ?_
        refine blk_r ?_
        refine then_r ?_
        refine blk_r ?_
        refine then_r ?_
        refine leave (.inl rfl) hS rfl (Res.tmp rfl Res.nil) ⟨congrArg (fun z => Ending.returned (Value.bool z)) ?_, hH.mod⟩
        first | exact (DF (by unfold mayP; omega)).symm | exact (DT (by unfold mayP; omega)).symm | exact decide_eq_decide.2 (by unfold mayP; omega)

set_option maxRecDepth 100000 in
set_option maxHeartbeats 2000000 in
theorem right_2 (ve : Int) (q1 q2 q3 q4 : Option Addr) (c1 c2 c3 c4 : Nat) (dst src tok tag : List UInt8) (lst : List Int) (ln : Int) (ph : Bool) (htag : tag.length = 16) (n : Int) (w0 : World) : Calls Tryd.prog 25 #[.agg ([.int .i64 2, .int .i64 ve, .slice q1 dst.length c1, .slice q2 src.length c2, .slice q3 tok.length c3, .int .i64 ln, .bool ph, .slice q4 lst.length c4] ++ hcells tag : List Value).toArray, .int .i64 n] w0 fun e w' => e = .returned (.bool (decide (mayP 2 dst.length src.length tok.length ln n lst.length (badN lst)))) ∧ Ext w0 w' := by
  refine enter Tryd.func25 rfl rfl rfl ?_
  intro a hS
  have hH := Hp.start w0 (Nobody)
  obtain ⟨t0, t1, t2, t3, t4, t5, t6, t7, t8, t9, ta, tb, tc, td, te, tf, rfl⟩ := len16 htag
  refine c_seq ?_
  refine reg_plain w0 (Nobody) ?_
  refine r_box hS hH (by repeat (first | exact Sub.nil | refine Sub.cons ?_ ?_ | exact In.here | refine In.there ?_)) rfl rfl rfl ?_
  clear hS hH; intro a w b2 hb2 hwb2 hS hH
  refine r_assign hS hH.kp0 rfl rfl ?_; clear hS; intro a hS
  refine Sq.nil ?_
  refine then_n ?_
  refine c_seq ?_
  refine c_seq ?_
  refine reg_plain w0 (Nobody) ?_
  rcases (by omega : 20 < dst.length ∨ (dst.length ≤ 20 ∧ 20 < src.length) ∨ (dst.length ≤ 20 ∧ src.length ≤ 20)) with hd | ⟨hd, hs⟩ | ⟨hd, hs⟩
  · refine r_fieldAddr hS hH.kp0 rfl Fp.fo26_2 rfl ?_; clear hS; intro a hS
    refine r_load_sc hS hH (by repeat (first | exact Sub.nil | refine Sub.cons ?_ ?_ | exact In.here | refine In.there ?_)) rfl (by repeat (first | exact In.here | refine In.there ?_)) Fp.sc22 (by rfl) rfl ?_; clear hS; intro a hS
    refine r_lenSl hS hH.kp0 rfl Fp.isSlice22 rfl ?_; clear hS; intro a hS
    refine r_gtr hS hH.kp0 rfl rfl rfl ?_; clear hS; intro a hS
    refine r_move hS hH.kp0 rfl rfl ?_; clear hS; intro a hS
    refine Sq.guardNo hS rfl rfl (DT (by omega)) hH.kp0 rfl ?_; clear hS; intro a hS
    refine Sq.guardNo hS rfl rfl (DT (by omega)) hH.kp0 rfl ?_; clear hS; intro a hS
    refine Sq.guardNo hS rfl rfl (DT (by omega)) hH.kp0 rfl ?_; clear hS; intro a hS
    refine Sq.guardNo hS rfl rfl (DT (by omega)) hH.kp0 rfl ?_; clear hS; intro a hS
    refine Sq.guardOff hS rfl rfl hH.kp0 rfl ?_; clear hS; intro a hS
    refine Sq.guardOff hS rfl rfl hH.kp0 rfl ?_; clear hS; intro a hS
    refine Sq.guardOff hS rfl rfl hH.kp0 rfl ?_; clear hS; intro a hS
    refine Sq.guardOff hS rfl rfl hH.kp0 rfl ?_; clear hS; intro a hS
    refine Sq.guardNo hS rfl rfl (DT (by omega)) hH.kp0 rfl ?_; clear hS; intro a hS
    refine r_pickT hS hH.kp0 rfl (DT (by omega)) rfl rfl ?_; clear hS; intro a hS
    refine Sq.nil ?_
    refine then_n ?_
    refine c_condT hS rfl rfl ?_
    refine c_seq ?_
    refine reg_plain w0 (Nobody) ?_
    refine r_assign hS hH.kp0 rfl rfl ?_; clear hS; intro a hS
    refine Sq.nil ?_
    refine then_n ?_
    refine wp_ret ?_
    refine then_r ?_
    refine leave (.inl rfl) hS rfl (Res.tmp rfl Res.nil) ⟨congrArg (fun z => Ending.returned (Value.bool z)) ?_, hH.mod⟩
    first | exact (DF (by unfold mayP; omega)).symm | exact (DT (by unfold mayP; omega)).symm | exact decide_eq_decide.2 (by unfold mayP; omega)
  · refine r_fieldAddr hS hH.kp0 rfl Fp.fo26_2 rfl ?_; clear hS; intro a hS
    refine r_load_sc hS hH (by repeat (first | exact Sub.nil | refine Sub.cons ?_ ?_ | exact In.here | refine In.there ?_)) rfl (by repeat (first | exact In.here | refine In.there ?_)) Fp.sc22 (by rfl) rfl ?_; clear hS; intro a hS
    refine r_lenSl hS hH.kp0 rfl Fp.isSlice22 rfl ?_; clear hS; intro a hS
    refine r_gtr hS hH.kp0 rfl rfl rfl ?_; clear hS; intro a hS
    refine r_move hS hH.kp0 rfl rfl ?_; clear hS; intro a hS
    refine Sq.guardYes hS rfl rfl (DF (by omega)) ?_; refine r_fieldAddr hS hH.kp0 rfl Fp.fo26_0 rfl ?_; clear hS; intro a hS
    refine Sq.guardYes hS rfl rfl (DF (by omega)) ?_; refine r_load_sc hS hH (by repeat (first | exact Sub.nil | refine Sub.cons ?_ ?_ | exact In.here | refine In.there ?_)) rfl (by repeat (first | exact In.here | refine In.there ?_)) Fp.sc3 (by rfl) rfl ?_; clear hS; intro a hS
    refine Sq.guardYes hS rfl rfl (DF (by omega)) ?_; refine r_neq hS hH.kp0 rfl rfl rfl ?_; clear hS; intro a hS
    refine Sq.guardYes hS rfl rfl (DF (by omega)) ?_; refine r_move hS hH.kp0 rfl rfl ?_; clear hS; intro a hS
    refine Sq.guardYes hS rfl rfl rfl ?_; refine r_fieldAddr hS hH.kp0 rfl Fp.fo26_3 rfl ?_; clear hS; intro a hS
    refine Sq.guardYes hS rfl rfl rfl ?_; refine r_load_sc hS hH (by repeat (first | exact Sub.nil | refine Sub.cons ?_ ?_ | exact In.here | refine In.there ?_)) rfl (by repeat (first | exact In.here | refine In.there ?_)) Fp.sc22 (by rfl) rfl ?_; clear hS; intro a hS
    refine Sq.guardYes hS rfl rfl rfl ?_; refine r_lenSl hS hH.kp0 rfl Fp.isSlice22 rfl ?_; clear hS; intro a hS
    refine Sq.guardYes hS rfl rfl rfl ?_; refine r_gtr hS hH.kp0 rfl rfl rfl ?_; clear hS; intro a hS
    refine Sq.guardYes hS rfl rfl (DF (by omega)) ?_; refine r_pickT hS hH.kp0 rfl rfl rfl rfl ?_; clear hS; intro a hS
    refine r_pickF hS hH.kp0 rfl (DF (by omega)) rfl rfl ?_; clear hS; intro a hS
    refine Sq.nil ?_
    refine then_n ?_
    refine c_condT hS rfl (DT (by omega)) ?_
    refine c_seq ?_
    refine reg_plain w0 (Nobody) ?_
    refine r_assign hS hH.kp0 rfl rfl ?_; clear hS; intro a hS
    refine Sq.nil ?_
    refine then_n ?_
    refine wp_ret ?_
    refine then_r ?_
    refine leave (.inl rfl) hS rfl (Res.tmp rfl Res.nil) ⟨congrArg (fun z => Ending.returned (Value.bool z)) ?_, hH.mod⟩
    first | exact (DF (by unfold mayP; omega)).symm | exact (DT (by unfold mayP; omega)).symm | exact decide_eq_decide.2 (by unfold mayP; omega)
  · refine r_fieldAddr hS hH.kp0 rfl Fp.fo26_2 rfl ?_; clear hS; intro a hS
    refine r_load_sc hS hH (by repeat (first | exact Sub.nil | refine Sub.cons ?_ ?_ | exact In.here | refine In.there ?_)) rfl (by repeat (first | exact In.here | refine In.there ?_)) Fp.sc22 (by rfl) rfl ?_; clear hS; intro a hS
    refine r_lenSl hS hH.kp0 rfl Fp.isSlice22 rfl ?_; clear hS; intro a hS
    refine r_gtr hS hH.kp0 rfl rfl rfl ?_; clear hS; intro a hS
    refine r_move hS hH.kp0 rfl rfl ?_; clear hS; intro a hS
    refine Sq.guardYes hS rfl rfl (DF (by omega)) ?_; refine r_fieldAddr hS hH.kp0 rfl Fp.fo26_0 rfl ?_; clear hS; intro a hS
    refine Sq.guardYes hS rfl rfl (DF (by omega)) ?_; refine r_load_sc hS hH (by repeat (first | exact Sub.nil | refine Sub.cons ?_ ?_ | exact In.here | refine In.there ?_)) rfl (by repeat (first | exact In.here | refine In.there ?_)) Fp.sc3 (by rfl) rfl ?_; clear hS; intro a hS
    refine Sq.guardYes hS rfl rfl (DF (by omega)) ?_; refine r_neq hS hH.kp0 rfl rfl rfl ?_; clear hS; intro a hS
    refine Sq.guardYes hS rfl rfl (DF (by omega)) ?_; refine r_move hS hH.kp0 rfl rfl ?_; clear hS; intro a hS
    refine Sq.guardYes hS rfl rfl rfl ?_; refine r_fieldAddr hS hH.kp0 rfl Fp.fo26_3 rfl ?_; clear hS; intro a hS
    refine Sq.guardYes hS rfl rfl rfl ?_; refine r_load_sc hS hH (by repeat (first | exact Sub.nil | refine Sub.cons ?_ ?_ | exact In.here | refine In.there ?_)) rfl (by repeat (first | exact In.here | refine In.there ?_)) Fp.sc22 (by rfl) rfl ?_; clear hS; intro a hS
    refine Sq.guardYes hS rfl rfl rfl ?_; refine r_lenSl hS hH.kp0 rfl Fp.isSlice22 rfl ?_; clear hS; intro a hS
    refine Sq.guardYes hS rfl rfl rfl ?_; refine r_gtr hS hH.kp0 rfl rfl rfl ?_; clear hS; intro a hS
    refine Sq.guardYes hS rfl rfl (DF (by omega)) ?_; refine r_pickT hS hH.kp0 rfl rfl rfl rfl ?_; clear hS; intro a hS
    refine r_pickF hS hH.kp0 rfl (DF (by omega)) rfl rfl ?_; clear hS; intro a hS
    refine Sq.nil ?_
    refine then_n ?_
    refine c_condF hS rfl (DF (by omega)) ?_
    refine wp_skip ?_
    refine then_n ?_
    refine c_seq ?_
    refine reg_plain w0 (Nobody) ?_
    rcases (by omega : n < 1 ∨ (1 ≤ n ∧ 4 < n) ∨ (1 ≤ n ∧ n ≤ 4)) with hn | ⟨hn, hn4⟩ | ⟨hn, hn4⟩
    · refine r_move hS hH.kp0 rfl rfl ?_; clear hS; intro a hS
      refine r_geq hS hH.kp0 rfl rfl rfl ?_; clear hS; intro a hS
      refine r_move hS hH.kp0 rfl rfl ?_; clear hS; intro a hS
      refine Sq.guardNo hS rfl rfl (DF (by omega)) hH.kp0 rfl ?_; clear hS; intro a hS
      refine Sq.guardNo hS rfl rfl (DF (by omega)) hH.kp0 rfl ?_; clear hS; intro a hS
      refine r_pickF hS hH.kp0 rfl (DF (by omega)) rfl rfl ?_; clear hS; intro a hS
      refine r_assign hS hH.kp0 rfl rfl ?_; clear hS; intro a hS
      refine Sq.nil ?_
      refine then_n ?_
      refine c_seq ?_
      refine c_seq ?_
      refine reg_plain w0 (Nobody) ?_
      refine r_fieldAddr hS hH.kp0 rfl Fp.fo26_0 rfl ?_; clear hS; intro a hS
      refine r_load_sc hS hH (by repeat (first | exact Sub.nil | refine Sub.cons ?_ ?_ | exact In.here | refine In.there ?_)) rfl (by repeat (first | exact In.here | refine In.there ?_)) Fp.sc3 (by rfl) rfl ?_; clear hS; intro a hS
      refine Sq.nil ?_
      refine then_n ?_
      refine wp_block ?_
      refine c_seq ?_
      refine wp_block ?_
      refine c_seq ?_
      refine wp_block ?_
      refine c_seq ?_
      refine wp_block ?_
      refine c_seq ?_
      refine wp_block ?_
      refine c_seq ?_
      refine wp_block ?_
      refine c_seq ?_
      refine c_seq ?_
      refine c_seq ?_
      refine reg_plain w0 (Nobody) ?_
      refine r_eql hS hH.kp0 rfl rfl rfl ?_; clear hS; intro a hS
      refine r_assign hS hH.kp0 rfl rfl ?_; clear hS; intro a hS
      refine Sq.nil ?_
      refine then_n ?_
      refine c_condF hS rfl rfl ?_
      refine wp_skip ?_
      refine then_n ?_
      refine c_seq ?_
      refine c_seq ?_
      refine c_seq ?_
      refine reg_plain w0 (Nobody) ?_
      refine r_eql hS hH.kp0 rfl rfl rfl ?_; clear hS; intro a hS
      refine r_assign hS hH.kp0 rfl rfl ?_; clear hS; intro a hS
      refine Sq.nil ?_
      refine then_n ?_
      refine c_condF hS rfl rfl ?_
      refine reg_plain w0 (Nobody) ?_
      refine r_eql hS hH.kp0 rfl rfl rfl ?_; clear hS; intro a hS
      refine r_assign hS hH.kp0 rfl rfl ?_; clear hS; intro a hS
      refine Sq.nil ?_
      refine then_n ?_
      refine c_condT hS rfl rfl ?_
      refine wp_exit ?_
      refine then_e ?_
      refine then_e ?_
      refine blk_e rfl ?_
      refine then_e ?_
      refine blk_hit ?_
      refine then_n ?_
      refine c_seq ?_
      refine c_seq ?_
      refine reg_plain w0 (Nobody) ?_
      refine r_move hS hH.kp0 rfl rfl ?_; clear hS; intro a hS
      refine r_move hS hH.kp0 rfl rfl ?_; clear hS; intro a hS
      refine Sq.guardNo hS rfl rfl rfl hH.kp0 rfl ?_; clear hS; intro a hS
      refine Sq.guardNo hS rfl rfl rfl hH.kp0 rfl ?_; clear hS; intro a hS
      refine Sq.guardNo hS rfl rfl rfl hH.kp0 rfl ?_; clear hS; intro a hS
      refine Sq.guardNo hS rfl rfl rfl hH.kp0 rfl ?_; clear hS; intro a hS
      refine r_pickF hS hH.kp0 rfl rfl rfl rfl ?_; clear hS; intro a hS
      refine r_move hS hH.kp0 rfl rfl ?_; clear hS; intro a hS
      refine Sq.guardNo hS rfl rfl rfl hH.kp0 rfl ?_; clear hS; intro a hS
      refine Sq.guardNo hS rfl rfl rfl hH.kp0 rfl ?_; clear hS; intro a hS
      refine Sq.guardNo hS rfl rfl rfl hH.kp0 rfl ?_; clear hS; intro a hS
      refine r_pickF hS hH.kp0 rfl rfl rfl rfl ?_; clear hS; intro a hS
      refine r_assign hS hH.kp0 rfl rfl ?_; clear hS; intro a hS
      refine Sq.nil ?_
      refine then_n ?_
      refine wp_ret ?_
      refine then_r ?_
      refine blk_r ?_
      refine then_r ?_
      refine blk_r ?_
      refine then_r ?_
      refine blk_r ?_
      refine then_r ?_
      refine blk_r ?_
      refine then_r ?_
      refine leave (.inl rfl) hS rfl (Res.tmp rfl Res.nil) ⟨congrArg (fun z => Ending.returned (Value.bool z)) ?_, hH.mod⟩
      first | exact (DF (by unfold mayP; omega)).symm | exact (DT (by unfold mayP; omega)).symm | exact decide_eq_decide.2 (by unfold mayP; omega)
    · refine r_move hS hH.kp0 rfl rfl ?_; clear hS; intro a hS
      refine r_geq hS hH.kp0 rfl rfl rfl ?_; clear hS; intro a hS
      refine r_move hS hH.kp0 rfl rfl ?_; clear hS; intro a hS
      refine Sq.guardYes hS rfl rfl (DT (by omega)) ?_; refine r_move hS hH.kp0 rfl rfl ?_; clear hS; intro a hS
      refine Sq.guardYes hS rfl rfl (DT (by omega)) ?_; refine r_leq hS hH.kp0 rfl rfl rfl ?_; clear hS; intro a hS
      refine r_pickT hS hH.kp0 rfl (DT (by omega)) rfl rfl ?_; clear hS; intro a hS
      refine r_assign hS hH.kp0 rfl rfl ?_; clear hS; intro a hS
      refine Sq.nil ?_
      refine then_n ?_
      refine c_seq ?_
      refine c_seq ?_
      refine reg_plain w0 (Nobody) ?_
      refine r_fieldAddr hS hH.kp0 rfl Fp.fo26_0 rfl ?_; clear hS; intro a hS
      refine r_load_sc hS hH (by repeat (first | exact Sub.nil | refine Sub.cons ?_ ?_ | exact In.here | refine In.there ?_)) rfl (by repeat (first | exact In.here | refine In.there ?_)) Fp.sc3 (by rfl) rfl ?_; clear hS; intro a hS
      refine Sq.nil ?_
      refine then_n ?_
      refine wp_block ?_
      refine c_seq ?_
      refine wp_block ?_
      refine c_seq ?_
      refine wp_block ?_
      refine c_seq ?_
      refine wp_block ?_
      refine c_seq ?_
      refine wp_block ?_
      refine c_seq ?_
      refine wp_block ?_
      refine c_seq ?_
      refine c_seq ?_
      refine c_seq ?_
      refine reg_plain w0 (Nobody) ?_
      refine r_eql hS hH.kp0 rfl rfl rfl ?_; clear hS; intro a hS
      refine r_assign hS hH.kp0 rfl rfl ?_; clear hS; intro a hS
      refine Sq.nil ?_
      refine then_n ?_
      refine c_condF hS rfl rfl ?_
      refine wp_skip ?_
      refine then_n ?_
      refine c_seq ?_
      refine c_seq ?_
      refine c_seq ?_
      refine reg_plain w0 (Nobody) ?_
      refine r_eql hS hH.kp0 rfl rfl rfl ?_; clear hS; intro a hS
      refine r_assign hS hH.kp0 rfl rfl ?_; clear hS; intro a hS
      refine Sq.nil ?_
      refine then_n ?_
      refine c_condF hS rfl rfl ?_
      refine reg_plain w0 (Nobody) ?_
      refine r_eql hS hH.kp0 rfl rfl rfl ?_; clear hS; intro a hS
      refine r_assign hS hH.kp0 rfl rfl ?_; clear hS; intro a hS
      refine Sq.nil ?_
      refine then_n ?_
      refine c_condT hS rfl rfl ?_
      refine wp_exit ?_
      refine then_e ?_
      refine then_e ?_
      refine blk_e rfl ?_
      refine then_e ?_
      refine blk_hit ?_
      refine then_n ?_
      refine c_seq ?_
      refine c_seq ?_
      refine reg_plain w0 (Nobody) ?_
      refine r_move hS hH.kp0 rfl rfl ?_; clear hS; intro a hS
      refine r_move hS hH.kp0 rfl rfl ?_; clear hS; intro a hS
      refine Sq.guardNo hS rfl rfl (DF (by omega)) hH.kp0 rfl ?_; clear hS; intro a hS
      refine Sq.guardNo hS rfl rfl (DF (by omega)) hH.kp0 rfl ?_; clear hS; intro a hS
      refine Sq.guardNo hS rfl rfl (DF (by omega)) hH.kp0 rfl ?_; clear hS; intro a hS
      refine Sq.guardNo hS rfl rfl (DF (by omega)) hH.kp0 rfl ?_; clear hS; intro a hS
      refine r_pickF hS hH.kp0 rfl (DF (by omega)) rfl rfl ?_; clear hS; intro a hS
      refine r_move hS hH.kp0 rfl rfl ?_; clear hS; intro a hS
      refine Sq.guardNo hS rfl rfl rfl hH.kp0 rfl ?_; clear hS; intro a hS
      refine Sq.guardNo hS rfl rfl rfl hH.kp0 rfl ?_; clear hS; intro a hS
      refine Sq.guardNo hS rfl rfl rfl hH.kp0 rfl ?_; clear hS; intro a hS
      refine r_pickF hS hH.kp0 rfl rfl rfl rfl ?_; clear hS; intro a hS
      refine r_assign hS hH.kp0 rfl rfl ?_; clear hS; intro a hS
      refine Sq.nil ?_
      refine then_n ?_
      refine wp_ret ?_
      refine then_r ?_
      refine blk_r ?_
      refine then_r ?_
      refine blk_r ?_
      refine then_r ?_
      refine blk_r ?_
      refine then_r ?_
      refine blk_r ?_
      refine then_r ?_
      refine leave (.inl rfl) hS rfl (Res.tmp rfl Res.nil) ⟨congrArg (fun z => Ending.returned (Value.bool z)) ?_, hH.mod⟩
      first | exact (DF (by unfold mayP; omega)).symm | exact (DT (by unfold mayP; omega)).symm | exact decide_eq_decide.2 (by unfold mayP; omega)
    · refine r_move hS hH.kp0 rfl rfl ?_; clear hS; intro a hS
      refine r_geq hS hH.kp0 rfl rfl rfl ?_; clear hS; intro a hS
      refine r_move hS hH.kp0 rfl rfl ?_; clear hS; intro a hS
      refine Sq.guardYes hS rfl rfl (DT (by omega)) ?_; refine r_move hS hH.kp0 rfl rfl ?_; clear hS; intro a hS
      refine Sq.guardYes hS rfl rfl (DT (by omega)) ?_; refine r_leq hS hH.kp0 rfl rfl rfl ?_; clear hS; intro a hS
      refine r_pickT hS hH.kp0 rfl (DT (by omega)) rfl rfl ?_; clear hS; intro a hS
      refine r_assign hS hH.kp0 rfl rfl ?_; clear hS; intro a hS
      refine Sq.nil ?_
      refine then_n ?_
      refine c_seq ?_
      refine c_seq ?_
      refine reg_plain w0 (Nobody) ?_
      refine r_fieldAddr hS hH.kp0 rfl Fp.fo26_0 rfl ?_; clear hS; intro a hS
      refine r_load_sc hS hH (by repeat (first | exact Sub.nil | refine Sub.cons ?_ ?_ | exact In.here | refine In.there ?_)) rfl (by repeat (first | exact In.here | refine In.there ?_)) Fp.sc3 (by rfl) rfl ?_; clear hS; intro a hS
      refine Sq.nil ?_
      refine then_n ?_
      refine wp_block ?_
      refine c_seq ?_
      refine wp_block ?_
      refine c_seq ?_
      refine wp_block ?_
      refine c_seq ?_
      refine wp_block ?_
      refine c_seq ?_
      refine wp_block ?_
      refine c_seq ?_
      refine wp_block ?_
      refine c_seq ?_
      refine c_seq ?_
      refine c_seq ?_
      refine reg_plain w0 (Nobody) ?_
      refine r_eql hS hH.kp0 rfl rfl rfl ?_; clear hS; intro a hS
      refine r_assign hS hH.kp0 rfl rfl ?_; clear hS; intro a hS
      refine Sq.nil ?_
      refine then_n ?_
      refine c_condF hS rfl rfl ?_
      refine wp_skip ?_
      refine then_n ?_
      refine c_seq ?_
      refine c_seq ?_
      refine c_seq ?_
      refine reg_plain w0 (Nobody) ?_
      refine r_eql hS hH.kp0 rfl rfl rfl ?_; clear hS; intro a hS
      refine r_assign hS hH.kp0 rfl rfl ?_; clear hS; intro a hS
      refine Sq.nil ?_
      refine then_n ?_
      refine c_condF hS rfl rfl ?_
      refine reg_plain w0 (Nobody) ?_
      refine r_eql hS hH.kp0 rfl rfl rfl ?_; clear hS; intro a hS
      refine r_assign hS hH.kp0 rfl rfl ?_; clear hS; intro a hS
      refine Sq.nil ?_
      refine then_n ?_
      refine c_condT hS rfl rfl ?_
      refine wp_exit ?_
      refine then_e ?_
      refine then_e ?_
      refine blk_e rfl ?_
      refine then_e ?_
      refine blk_hit ?_
      refine then_n ?_
      refine c_seq ?_
      refine c_seq ?_
      refine reg_plain w0 (Nobody) ?_
      rcases (by omega : ln < n ∨ n ≤ ln) with hl | hl
      · refine r_move hS hH.kp0 rfl rfl ?_; clear hS; intro a hS
        refine r_move hS hH.kp0 rfl rfl ?_; clear hS; intro a hS
        refine Sq.guardYes hS rfl rfl (DT (by omega)) ?_; refine r_fieldAddr hS hH.kp0 rfl Fp.fo26_5 rfl ?_; clear hS; intro a hS
        refine Sq.guardYes hS rfl rfl (DT (by omega)) ?_; refine r_load_sc hS hH (by repeat (first | exact Sub.nil | refine Sub.cons ?_ ?_ | exact In.here | refine In.there ?_)) rfl (by repeat (first | exact In.here | refine In.there ?_)) Fp.sc3 (by rfl) rfl ?_; clear hS; intro a hS
        refine Sq.guardYes hS rfl rfl (DT (by omega)) ?_; refine r_move hS hH.kp0 rfl rfl ?_; clear hS; intro a hS
        refine Sq.guardYes hS rfl rfl (DT (by omega)) ?_; refine r_geq hS hH.kp0 rfl rfl rfl ?_; clear hS; intro a hS
        refine r_pickT hS hH.kp0 rfl (DT (by omega)) rfl rfl ?_; clear hS; intro a hS
        refine r_move hS hH.kp0 rfl rfl ?_; clear hS; intro a hS
        refine Sq.guardNo hS rfl rfl (DF (by omega)) hH.kp0 rfl ?_; clear hS; intro a hS
        refine Sq.guardNo hS rfl rfl (DF (by omega)) hH.kp0 rfl ?_; clear hS; intro a hS
        refine Sq.guardNo hS rfl rfl (DF (by omega)) hH.kp0 rfl ?_; clear hS; intro a hS
        refine r_pickF hS hH.kp0 rfl (DF (by omega)) rfl rfl ?_; clear hS; intro a hS
        refine r_assign hS hH.kp0 rfl rfl ?_; clear hS; intro a hS
        refine Sq.nil ?_
        refine then_n ?_
        refine wp_ret ?_
        refine then_r ?_
        refine blk_r ?_
        refine then_r ?_
        refine blk_r ?_
        refine then_r ?_
        refine blk_r ?_
        refine then_r ?_
        refine blk_r ?_
        refine then_r ?_
        refine leave (.inl rfl) hS rfl (Res.tmp rfl Res.nil) ⟨congrArg (fun z => Ending.returned (Value.bool z)) ?_, hH.mod⟩
        first | exact (DF (by unfold mayP; omega)).symm | exact (DT (by unfold mayP; omega)).symm | exact decide_eq_decide.2 (by unfold mayP; omega)
      · refine r_move hS hH.kp0 rfl rfl ?_; clear hS; intro a hS
        refine r_move hS hH.kp0 rfl rfl ?_; clear hS; intro a hS
        refine Sq.guardYes hS rfl rfl (DT (by omega)) ?_; refine r_fieldAddr hS hH.kp0 rfl Fp.fo26_5 rfl ?_; clear hS; intro a hS
        refine Sq.guardYes hS rfl rfl (DT (by omega)) ?_; refine r_load_sc hS hH (by repeat (first | exact Sub.nil | refine Sub.cons ?_ ?_ | exact In.here | refine In.there ?_)) rfl (by repeat (first | exact In.here | refine In.there ?_)) Fp.sc3 (by rfl) rfl ?_; clear hS; intro a hS
        refine Sq.guardYes hS rfl rfl (DT (by omega)) ?_; refine r_move hS hH.kp0 rfl rfl ?_; clear hS; intro a hS
        refine Sq.guardYes hS rfl rfl (DT (by omega)) ?_; refine r_geq hS hH.kp0 rfl rfl rfl ?_; clear hS; intro a hS
        refine r_pickT hS hH.kp0 rfl (DT (by omega)) rfl rfl ?_; clear hS; intro a hS
        refine r_move hS hH.kp0 rfl rfl ?_; clear hS; intro a hS
        refine Sq.guardYes hS rfl rfl (DT (by omega)) ?_; refine r_fieldAddr hS hH.kp0 rfl Fp.fo26_5 rfl ?_; clear hS; intro a hS
        refine Sq.guardYes hS rfl rfl (DT (by omega)) ?_; refine r_load_sc hS hH (by repeat (first | exact Sub.nil | refine Sub.cons ?_ ?_ | exact In.here | refine In.there ?_)) rfl (by repeat (first | exact In.here | refine In.there ?_)) Fp.sc3 (by rfl) rfl ?_; clear hS; intro a hS
        refine Sq.guardYes hS rfl rfl (DT (by omega)) ?_; refine r_leq hS hH.kp0 rfl rfl rfl ?_; clear hS; intro a hS
        refine r_pickT hS hH.kp0 rfl (DT (by omega)) rfl rfl ?_; clear hS; intro a hS
        refine r_assign hS hH.kp0 rfl rfl ?_; clear hS; intro a hS
        refine Sq.nil ?_
        refine then_n ?_
        refine wp_ret ?_
        refine then_r ?_
        refine blk_r ?_
        refine then_r ?_
        refine blk_r ?_
        refine then_r ?_
        refine blk_r ?_
        refine then_r ?_
        refine blk_r ?_
        refine then_r ?_
        refine leave (.inl rfl) hS rfl (Res.tmp rfl Res.nil) ⟨congrArg (fun z => Ending.returned (Value.bool z)) ?_, hH.mod⟩
        first | exact (DF (by unfold mayP; omega)).symm | exact (DT (by unfold mayP; omega)).symm | exact decide_eq_decide.2 (by unfold mayP; omega)

set_option maxRecDepth 100000 in
set_option maxHeartbeats 2000000 in
theorem right_3 (ve : Int) (q1 q2 q3 q4 : Option Addr) (c1 c2 c3 c4 : Nat) (dst src tok tag : List UInt8) (lst : List Int) (ln : Int) (ph : Bool) (htag : tag.length = 16) (n : Int) (w0 : World) : Calls Tryd.prog 25 #[.agg ([.int .i64 3, .int .i64 ve, .slice q1 dst.length c1, .slice q2 src.length c2, .slice q3 tok.length c3, .int .i64 ln, .bool ph, .slice q4 lst.length c4] ++ hcells tag : List Value).toArray, .int .i64 n] w0 fun e w' => e = .returned (.bool (decide (mayP 3 dst.length src.length tok.length ln n lst.length (badN lst)))) ∧ Ext w0 w' := by
  refine enter Tryd.func25 rfl rfl rfl ?_
  intro a hS
  have hH := Hp.start w0 (Nobody)
  obtain ⟨t0, t1, t2, t3, t4, t5, t6, t7, t8, t9, ta, tb, tc, td, te, tf, rfl⟩ := len16 htag
  refine c_seq ?_
  refine reg_plain w0 (Nobody) ?_
  refine r_box hS hH (by repeat (first | exact Sub.nil | refine Sub.cons ?_ ?_ | exact In.here | refine In.there ?_)) rfl rfl rfl ?_
  clear hS hH; intro a w b2 hb2 hwb2 hS hH
  refine r_assign hS hH.kp0 rfl rfl ?_; clear hS; intro a hS
  refine Sq.nil ?_
  refine then_n ?_
  refine c_seq ?_
  refine c_seq ?_
  refine reg_plain w0 (Nobody) ?_
  rcases (by omega : 20 < dst.length ∨ (dst.length ≤ 20 ∧ 20 < src.length) ∨ (dst.length ≤ 20 ∧ src.length ≤ 20)) with hd | ⟨hd, hs⟩ | ⟨hd, hs⟩
  · refine r_fieldAddr hS hH.kp0 rfl Fp.fo26_2 rfl ?_; clear hS; intro a hS
    refine r_load_sc hS hH (by repeat (first | exact Sub.nil | refine Sub.cons ?_ ?_ | exact In.here | refine In.there ?_)) rfl (by repeat (first | exact In.here | refine In.there ?_)) Fp.sc22 (by rfl) rfl ?_; clear hS; intro a hS
    refine r_lenSl hS hH.kp0 rfl Fp.isSlice22 rfl ?_; clear hS; intro a hS
    refine r_gtr hS hH.kp0 rfl rfl rfl ?_; clear hS; intro a hS
    refine r_move hS hH.kp0 rfl rfl ?_; clear hS; intro a hS
    refine Sq.guardNo hS rfl rfl (DT (by omega)) hH.kp0 rfl ?_; clear hS; intro a hS
    refine Sq.guardNo hS rfl rfl (DT (by omega)) hH.kp0 rfl ?_; clear hS; intro a hS
    refine Sq.guardNo hS rfl rfl (DT (by omega)) hH.kp0 rfl ?_; clear hS; intro a hS
    refine Sq.guardNo hS rfl rfl (DT (by omega)) hH.kp0 rfl ?_; clear hS; intro a hS
    refine Sq.guardOff hS rfl rfl hH.kp0 rfl ?_; clear hS; intro a hS
    refine Sq.guardOff hS rfl rfl hH.kp0 rfl ?_; clear hS; intro a hS
    refine Sq.guardOff hS rfl rfl hH.kp0 rfl ?_; clear hS; intro a hS
    refine Sq.guardOff hS rfl rfl hH.kp0 rfl ?_; clear hS; intro a hS
    refine Sq.guardNo hS rfl rfl (DT (by omega)) hH.kp0 rfl ?_; clear hS; intro a hS
    refine r_pickT hS hH.kp0 rfl (DT (by omega)) rfl rfl ?_; clear hS; intro a hS
    refine Sq.nil ?_
    refine then_n ?_
    refine c_condT hS rfl rfl ?_
    refine c_seq ?_
    refine reg_plain w0 (Nobody) ?_
    refine r_assign hS hH.kp0 rfl rfl ?_; clear hS; intro a hS
    refine Sq.nil ?_
    refine then_n ?_
    refine wp_ret ?_
    refine then_r ?_
    refine leave (.inl rfl) hS rfl (Res.tmp rfl Res.nil) ⟨congrArg (fun z => Ending.returned (Value.bool z)) ?_, hH.mod⟩
    first | exact (DF (by unfold mayP; omega)).symm | exact (DT (by unfold mayP; omega)).symm | exact decide_eq_decide.2 (by unfold mayP; omega)
  · refine r_fieldAddr hS hH.kp0 rfl Fp.fo26_2 rfl ?_; clear hS; intro a hS
    refine r_load_sc hS hH (by repeat (first | exact Sub.nil | refine Sub.cons ?_ ?_ | exact In.here | refine In.there ?_)) rfl (by repeat (first | exact In.here | refine In.there ?_)) Fp.sc22 (by rfl) rfl ?_; clear hS; intro a hS
    refine r_lenSl hS hH.kp0 rfl Fp.isSlice22 rfl ?_; clear hS; intro a hS
    refine r_gtr hS hH.kp0 rfl rfl rfl ?_; clear hS; intro a hS
    refine r_move hS hH.kp0 rfl rfl ?_; clear hS; intro a hS
    refine Sq.guardYes hS rfl rfl (DF (by omega)) ?_; refine r_fieldAddr hS hH.kp0 rfl Fp.fo26_0 rfl ?_; clear hS; intro a hS
    refine Sq.guardYes hS rfl rfl (DF (by omega)) ?_; refine r_load_sc hS hH (by repeat (first | exact Sub.nil | refine Sub.cons ?_ ?_ | exact In.here | refine In.there ?_)) rfl (by repeat (first | exact In.here | refine In.there ?_)) Fp.sc3 (by rfl) rfl ?_; clear hS; intro a hS
    refine Sq.guardYes hS rfl rfl (DF (by omega)) ?_; refine r_neq hS hH.kp0 rfl rfl rfl ?_; clear hS; intro a hS
    refine Sq.guardYes hS rfl rfl (DF (by omega)) ?_; refine r_move hS hH.kp0 rfl rfl ?_; clear hS; intro a hS
    refine Sq.guardYes hS rfl rfl rfl ?_; refine r_fieldAddr hS hH.kp0 rfl Fp.fo26_3 rfl ?_; clear hS; intro a hS
    refine Sq.guardYes hS rfl rfl rfl ?_; refine r_load_sc hS hH (by repeat (first | exact Sub.nil | refine Sub.cons ?_ ?_ | exact In.here | refine In.there ?_)) rfl (by repeat (first | exact In.here | refine In.there ?_)) Fp.sc22 (by rfl) rfl ?_; clear hS; intro a hS
    refine Sq.guardYes hS rfl rfl rfl ?_; refine r_lenSl hS hH.kp0 rfl Fp.isSlice22 rfl ?_; clear hS; intro a hS
    refine Sq.guardYes hS rfl rfl rfl ?_; refine r_gtr hS hH.kp0 rfl rfl rfl ?_; clear hS; intro a hS
    refine Sq.guardYes hS rfl rfl (DF (by omega)) ?_; refine r_pickT hS hH.kp0 rfl rfl rfl rfl ?_; clear hS; intro a hS
    refine r_pickF hS hH.kp0 rfl (DF (by omega)) rfl rfl ?_; clear hS; intro a hS
    refine Sq.nil ?_
    refine then_n ?_
    refine c_condT hS rfl (DT (by omega)) ?_
    refine c_seq ?_
    refine reg_plain w0 (Nobody) ?_
    refine r_assign hS hH.kp0 rfl rfl ?_; clear hS; intro a hS
    refine Sq.nil ?_
    refine then_n ?_
    refine wp_ret ?_
    refine then_r ?_
    refine leave (.inl rfl) hS rfl (Res.tmp rfl Res.nil) ⟨congrArg (fun z => Ending.returned (Value.bool z)) ?_, hH.mod⟩
    first | exact (DF (by unfold mayP; omega)).symm | exact (DT (by unfold mayP; omega)).symm | exact decide_eq_decide.2 (by unfold mayP; omega)
  · refine r_fieldAddr hS hH.kp0 rfl Fp.fo26_2 rfl ?_; clear hS; intro a hS
    refine r_load_sc hS hH (by repeat (first | exact Sub.nil | refine Sub.cons ?_ ?_ | exact In.here | refine In.there ?_)) rfl (by repeat (first | exact In.here | refine In.there ?_)) Fp.sc22 (by rfl) rfl ?_; clear hS; intro a hS
    refine r_lenSl hS hH.kp0 rfl Fp.isSlice22 rfl ?_; clear hS; intro a hS
    refine r_gtr hS hH.kp0 rfl rfl rfl ?_; clear hS; intro a hS
    refine r_move hS hH.kp0 rfl rfl ?_; clear hS; intro a hS
    refine Sq.guardYes hS rfl rfl (DF (by omega)) ?_; refine r_fieldAddr hS hH.kp0 rfl Fp.fo26_0 rfl ?_; clear hS; intro a hS
    refine Sq.guardYes hS rfl rfl (DF (by omega)) ?_; refine r_load_sc hS hH (by repeat (first | exact Sub.nil | refine Sub.cons ?_ ?_ | exact In.here | refine In.there ?_)) rfl (by repeat (first | exact In.here | refine In.there ?_)) Fp.sc3 (by rfl) rfl ?_; clear hS; intro a hS
    refine Sq.guardYes hS rfl rfl (DF (by omega)) ?_; refine r_neq hS hH.kp0 rfl rfl rfl ?_; clear hS; intro a hS
    refine Sq.guardYes hS rfl rfl (DF (by omega)) ?_; refine r_move hS hH.kp0 rfl rfl ?_; clear hS; intro a hS
    refine Sq.guardYes hS rfl rfl rfl ?_; refine r_fieldAddr hS hH.kp0 rfl Fp.fo26_3 rfl ?_; clear hS; intro a hS
    refine Sq.guardYes hS rfl rfl rfl ?_; refine r_load_sc hS hH (by repeat (first | exact Sub.nil | refine Sub.cons ?_ ?_ | exact In.here | refine In.there ?_)) rfl (by repeat (first | exact In.here | refine In.there ?_)) Fp.sc22 (by rfl) rfl ?_; clear hS; intro a hS
    refine Sq.guardYes hS rfl rfl rfl ?_; refine r_lenSl hS hH.kp0 rfl Fp.isSlice22 rfl ?_; clear hS; intro a hS
    refine Sq.guardYes hS rfl rfl rfl ?_; refine r_gtr hS hH.kp0 rfl rfl rfl ?_; clear hS; intro a hS
    refine Sq.guardYes hS rfl rfl (DF (by omega)) ?_; refine r_pickT hS hH.kp0 rfl rfl rfl rfl ?_; clear hS; intro a hS
    refine r_pickF hS hH.kp0 rfl (DF (by omega)) rfl rfl ?_; clear hS; intro a hS
    refine Sq.nil ?_
    refine then_n ?_
    refine c_condF hS rfl (DF (by omega)) ?_
    refine wp_skip ?_
    refine then_n ?_
    refine c_seq ?_
    refine reg_plain w0 (Nobody) ?_
    rcases (by omega : n < 1 ∨ (1 ≤ n ∧ 4 < n) ∨ (1 ≤ n ∧ n ≤ 4)) with hn | ⟨hn, hn4⟩ | ⟨hn, hn4⟩
    · refine r_move hS hH.kp0 rfl rfl ?_; clear hS; intro a hS
      refine r_geq hS hH.kp0 rfl rfl rfl ?_; clear hS; intro a hS
      refine r_move hS hH.kp0 rfl rfl ?_; clear hS; intro a hS
      refine Sq.guardNo hS rfl rfl (DF (by omega)) hH.kp0 rfl ?_; clear hS; intro a hS
      refine Sq.guardNo hS rfl rfl (DF (by omega)) hH.kp0 rfl ?_; clear hS; intro a hS
      refine r_pickF hS hH.kp0 rfl (DF (by omega)) rfl rfl ?_; clear hS; intro a hS
      refine r_assign hS hH.kp0 rfl rfl ?_; clear hS; intro a hS
      refine Sq.nil ?_
      refine then_n ?_
      refine c_seq ?_
      refine c_seq ?_
      refine reg_plain w0 (Nobody) ?_
      refine r_fieldAddr hS hH.kp0 rfl Fp.fo26_0 rfl ?_; clear hS; intro a hS
      refine r_load_sc hS hH (by repeat (first | exact Sub.nil | refine Sub.cons ?_ ?_ | exact In.here | refine In.there ?_)) rfl (by repeat (first | exact In.here | refine In.there ?_)) Fp.sc3 (by rfl) rfl ?_; clear hS; intro a hS
      refine Sq.nil ?_
      refine then_n ?_
      refine wp_block ?_
      refine c_seq ?_
      refine wp_block ?_
      refine c_seq ?_
      refine wp_block ?_
      refine c_seq ?_
      refine wp_block ?_
      refine c_seq ?_
      refine wp_block ?_
      refine c_seq ?_
      refine wp_block ?_
      refine c_seq ?_
      refine c_seq ?_
      refine c_seq ?_
      refine reg_plain w0 (Nobody) ?_
      refine r_eql hS hH.kp0 rfl rfl rfl ?_; clear hS; intro a hS
      refine r_assign hS hH.kp0 rfl rfl ?_; clear hS; intro a hS
      refine Sq.nil ?_
      refine then_n ?_
      refine c_condF hS rfl rfl ?_
      refine wp_skip ?_
      refine then_n ?_
      refine c_seq ?_
      refine c_seq ?_
      refine c_seq ?_
      refine reg_plain w0 (Nobody) ?_
      refine r_eql hS hH.kp0 rfl rfl rfl ?_; clear hS; intro a hS
      refine r_assign hS hH.kp0 rfl rfl ?_; clear hS; intro a hS
      refine Sq.nil ?_
      refine then_n ?_
      refine c_condF hS rfl rfl ?_
      refine reg_plain w0 (Nobody) ?_
      refine r_eql hS hH.kp0 rfl rfl rfl ?_; clear hS; intro a hS
      refine r_assign hS hH.kp0 rfl rfl ?_; clear hS; intro a hS
      refine Sq.nil ?_
      refine then_n ?_
      refine c_condF hS rfl rfl ?_
      refine wp_skip ?_
      refine then_n ?_
      refine c_seq ?_
      refine c_seq ?_
      refine reg_plain w0 (Nobody) ?_
      refine r_eql hS hH.kp0 rfl rfl rfl ?_; clear hS; intro a hS
      refine r_assign hS hH.kp0 rfl rfl ?_; clear hS; intro a hS
      refine Sq.nil ?_
      refine then_n ?_
      refine c_condF hS rfl rfl ?_
      refine wp_skip ?_
      refine then_n ?_
      refine c_seq ?_
      refine c_seq ?_
      refine reg_plain w0 (Nobody) ?_
      refine r_eql hS hH.kp0 rfl rfl rfl ?_; clear hS; intro a hS
      refine r_assign hS hH.kp0 rfl rfl ?_; clear hS; intro a hS
      refine Sq.nil ?_
      refine then_n ?_
      refine c_condT hS rfl rfl ?_
      refine wp_exit ?_
      refine then_e ?_
      refine then_e ?_
      refine blk_e rfl ?_
      refine then_e ?_
      refine blk_e rfl ?_
      refine then_e ?_
      refine blk_e rfl ?_
      refine then_e ?_
      refine blk_hit ?_
      refine then_n ?_
      refine c_seq ?_
      refine c_seq ?_
      refine reg_plain w0 (Nobody) ?_
      rcases (by omega : tok.length = 0 ∨ 0 < tok.length) with hz | hz
      · refine r_fieldAddr hS hH.kp0 rfl Fp.fo26_4 rfl ?_; clear hS; intro a hS
        refine r_load_sc hS hH (by repeat (first | exact Sub.nil | refine Sub.cons ?_ ?_ | exact In.here | refine In.there ?_)) rfl (by repeat (first | exact In.here | refine In.there ?_)) Fp.sc22 (by rfl) rfl ?_; clear hS; intro a hS
        refine r_lenSl hS hH.kp0 rfl Fp.isSlice22 rfl ?_; clear hS; intro a hS
        refine r_gtr hS hH.kp0 rfl rfl rfl ?_; clear hS; intro a hS
        refine r_move hS hH.kp0 rfl rfl ?_; clear hS; intro a hS
        refine Sq.guardNo hS rfl rfl (DF (by omega)) hH.kp0 rfl ?_; clear hS; intro a hS
        refine Sq.guardNo hS rfl rfl (DF (by omega)) hH.kp0 rfl ?_; clear hS; intro a hS
        refine Sq.guardNo hS rfl rfl (DF (by omega)) hH.kp0 rfl ?_; clear hS; intro a hS
        refine Sq.guardNo hS rfl rfl (DF (by omega)) hH.kp0 rfl ?_; clear hS; intro a hS
        refine r_pickF hS hH.kp0 rfl (DF (by omega)) rfl rfl ?_; clear hS; intro a hS
        refine r_assign hS hH.kp0 rfl rfl ?_; clear hS; intro a hS
        refine Sq.nil ?_
        refine then_n ?_
        refine wp_ret ?_
        refine then_r ?_
        refine blk_r ?_
        refine then_r ?_
        refine blk_r ?_
        refine then_r ?_
        refine leave (.inl rfl) hS rfl (Res.tmp rfl Res.nil) ⟨congrArg (fun z => Ending.returned (Value.bool z)) ?_, hH.mod⟩
        first | exact (DF (by unfold mayP; omega)).symm | exact (DT (by unfold mayP; omega)).symm | exact decide_eq_decide.2 (by unfold mayP; omega)
      · refine r_fieldAddr hS hH.kp0 rfl Fp.fo26_4 rfl ?_; clear hS; intro a hS
        refine r_load_sc hS hH (by repeat (first | exact Sub.nil | refine Sub.cons ?_ ?_ | exact In.here | refine In.there ?_)) rfl (by repeat (first | exact In.here | refine In.there ?_)) Fp.sc22 (by rfl) rfl ?_; clear hS; intro a hS
        refine r_lenSl hS hH.kp0 rfl Fp.isSlice22 rfl ?_; clear hS; intro a hS
        refine r_gtr hS hH.kp0 rfl rfl rfl ?_; clear hS; intro a hS
        refine r_move hS hH.kp0 rfl rfl ?_; clear hS; intro a hS
        refine Sq.guardYes hS rfl rfl (DT (by omega)) ?_; refine r_fieldAddr hS hH.kp0 rfl Fp.fo26_4 rfl ?_; clear hS; intro a hS
        refine Sq.guardYes hS rfl rfl (DT (by omega)) ?_; refine r_load_sc hS hH (by repeat (first | exact Sub.nil | refine Sub.cons ?_ ?_ | exact In.here | refine In.there ?_)) rfl (by repeat (first | exact In.here | refine In.there ?_)) Fp.sc22 (by rfl) rfl ?_; clear hS; intro a hS
        refine Sq.guardYes hS rfl rfl (DT (by omega)) ?_; refine r_lenSl hS hH.kp0 rfl Fp.isSlice22 rfl ?_; clear hS; intro a hS
        refine Sq.guardYes hS rfl rfl (DT (by omega)) ?_; refine r_leq hS hH.kp0 rfl rfl rfl ?_; clear hS; intro a hS
        refine r_pickT hS hH.kp0 rfl (DT (by omega)) rfl rfl ?_; clear hS; intro a hS
        refine r_assign hS hH.kp0 rfl rfl ?_; clear hS; intro a hS
        refine Sq.nil ?_
        refine then_n ?_
        refine wp_ret ?_
        refine then_r ?_
        refine blk_r ?_
        refine then_r ?_
        refine blk_r ?_
        refine then_r ?_
        refine leave (.inl rfl) hS rfl (Res.tmp rfl Res.nil) ⟨congrArg (fun z => Ending.returned (Value.bool z)) ?_, hH.mod⟩
        first | exact (DF (by unfold mayP; omega)).symm | exact (DT (by unfold mayP; omega)).symm | exact decide_eq_decide.2 (by unfold mayP; omega)
    · refine r_move hS hH.kp0 rfl rfl ?_; clear hS; intro a hS
      refine r_geq hS hH.kp0 rfl rfl rfl ?_; clear hS; intro a hS
      refine r_move hS hH.kp0 rfl rfl ?_; clear hS; intro a hS
      refine Sq.guardYes hS rfl rfl (DT (by omega)) ?_; refine r_move hS hH.kp0 rfl rfl ?_; clear hS; intro a hS
      refine Sq.guardYes hS rfl rfl (DT (by omega)) ?_; refine r_leq hS hH.kp0 rfl rfl rfl ?_; clear hS; intro a hS
      refine r_pickT hS hH.kp0 rfl (DT (by omega)) rfl rfl ?_; clear hS; intro a hS
      refine r_assign hS hH.kp0 rfl rfl ?_; clear hS; intro a hS
      refine Sq.nil ?_
      refine then_n ?_
      refine c_seq ?_
      refine c_seq ?_
      refine reg_plain w0 (Nobody) ?_
      refine r_fieldAddr hS hH.kp0 rfl Fp.fo26_0 rfl ?_; clear hS; intro a hS
      refine r_load_sc hS hH (by repeat (first | exact Sub.nil | refine Sub.cons ?_ ?_ | exact In.here | refine In.there ?_)) rfl (by repeat (first | exact In.here | refine In.there ?_)) Fp.sc3 (by rfl) rfl ?_; clear hS; intro a hS
      refine Sq.nil ?_
      refine then_n ?_
      refine wp_block ?_
      refine c_seq ?_
      refine wp_block ?_
      refine c_seq ?_
      refine wp_block ?_
      refine c_seq ?_
      refine wp_block ?_
      refine c_seq ?_
      refine wp_block ?_
      refine c_seq ?_
      refine wp_block ?_
      refine c_seq ?_
      refine c_seq ?_
      refine c_seq ?_
      refine reg_plain w0 (Nobody) ?_
      refine r_eql hS hH.kp0 rfl rfl rfl ?_; clear hS; intro a hS
      refine r_assign hS hH.kp0 rfl rfl ?_; clear hS; intro a hS
      refine Sq.nil ?_
      refine then_n ?_
      refine c_condF hS rfl rfl ?_
      refine wp_skip ?_
      refine then_n ?_
      refine c_seq ?_
      refine c_seq ?_
      refine c_seq ?_
      refine reg_plain w0 (Nobody) ?_
      refine r_eql hS hH.kp0 rfl rfl rfl ?_; clear hS; intro a hS
      refine r_assign hS hH.kp0 rfl rfl ?_; clear hS; intro a hS
      refine Sq.nil ?_
      refine then_n ?_
      refine c_condF hS rfl rfl ?_
      refine reg_plain w0 (Nobody) ?_
      refine r_eql hS hH.kp0 rfl rfl rfl ?_; clear hS; intro a hS
      refine r_assign hS hH.kp0 rfl rfl ?_; clear hS; intro a hS
      refine Sq.nil ?_
      refine then_n ?_
      refine c_condF hS rfl rfl ?_
      refine wp_skip ?_
      refine then_n ?_
      refine c_seq ?_
      refine c_seq ?_
      refine reg_plain w0 (Nobody) ?_
      refine r_eql hS hH.kp0 rfl rfl rfl ?_; clear hS; intro a hS
      refine r_assign hS hH.kp0 rfl rfl ?_; clear hS; intro a hS
      refine Sq.nil ?_
      refine then_n ?_
      refine c_condF hS rfl rfl ?_
      refine wp_skip ?_
      refine then_n ?_
      refine c_seq ?_
      refine c_seq ?_
      refine reg_plain w0 (Nobody) ?_
      refine r_eql hS hH.kp0 rfl rfl rfl ?_; clear hS; intro a hS
      refine r_assign hS hH.kp0 rfl rfl ?_; clear hS; intro a hS
      refine Sq.nil ?_
      refine then_n ?_
      refine c_condT hS rfl rfl ?_
      refine wp_exit ?_
      refine then_e ?_
      refine then_e ?_
      refine blk_e rfl ?_
      refine then_e ?_
      refine blk_e rfl ?_
      refine then_e ?_
      refine blk_e rfl ?_
      refine then_e ?_
      refine blk_hit ?_
      refine then_n ?_
      refine c_seq ?_
      refine c_seq ?_
      refine reg_plain w0 (Nobody) ?_
      rcases (by omega : tok.length = 0 ∨ 0 < tok.length) with hz | hz
      · refine r_fieldAddr hS hH.kp0 rfl Fp.fo26_4 rfl ?_; clear hS; intro a hS
        refine r_load_sc hS hH (by repeat (first | exact Sub.nil | refine Sub.cons ?_ ?_ | exact In.here | refine In.there ?_)) rfl (by repeat (first | exact In.here | refine In.there ?_)) Fp.sc22 (by rfl) rfl ?_; clear hS; intro a hS
        refine r_lenSl hS hH.kp0 rfl Fp.isSlice22 rfl ?_; clear hS; intro a hS
        refine r_gtr hS hH.kp0 rfl rfl rfl ?_; clear hS; intro a hS
        refine r_move hS hH.kp0 rfl rfl ?_; clear hS; intro a hS
        refine Sq.guardNo hS rfl rfl (DF (by omega)) hH.kp0 rfl ?_; clear hS; intro a hS
        refine Sq.guardNo hS rfl rfl (DF (by omega)) hH.kp0 rfl ?_; clear hS; intro a hS
        refine Sq.guardNo hS rfl rfl (DF (by omega)) hH.kp0 rfl ?_; clear hS; intro a hS
        refine Sq.guardNo hS rfl rfl (DF (by omega)) hH.kp0 rfl ?_; clear hS; intro a hS
        refine r_pickF hS hH.kp0 rfl (DF (by omega)) rfl rfl ?_; clear hS; intro a hS
        refine r_assign hS hH.kp0 rfl rfl ?_; clear hS; intro a hS
        refine Sq.nil ?_
        refine then_n ?_
        refine wp_ret ?_
        refine then_r ?_
        refine blk_r ?_
        refine then_r ?_
        refine blk_r ?_
        refine then_r ?_
        refine leave (.inl rfl) hS rfl (Res.tmp rfl Res.nil) ⟨congrArg (fun z => Ending.returned (Value.bool z)) ?_, hH.mod⟩
        first | exact (DF (by unfold mayP; omega)).symm | exact (DT (by unfold mayP; omega)).symm | exact decide_eq_decide.2 (by unfold mayP; omega)
      · refine r_fieldAddr hS hH.kp0 rfl Fp.fo26_4 rfl ?_; clear hS; intro a hS
        refine r_load_sc hS hH (by repeat (first | exact Sub.nil | refine Sub.cons ?_ ?_ | exact In.here | refine In.there ?_)) rfl (by repeat (first | exact In.here | refine In.there ?_)) Fp.sc22 (by rfl) rfl ?_; clear hS; intro a hS
        refine r_lenSl hS hH.kp0 rfl Fp.isSlice22 rfl ?_; clear hS; intro a hS
        refine r_gtr hS hH.kp0 rfl rfl rfl ?_; clear hS; intro a hS
        refine r_move hS hH.kp0 rfl rfl ?_; clear hS; intro a hS
        refine Sq.guardYes hS rfl rfl (DT (by omega)) ?_; refine r_fieldAddr hS hH.kp0 rfl Fp.fo26_4 rfl ?_; clear hS; intro a hS
        refine Sq.guardYes hS rfl rfl (DT (by omega)) ?_; refine r_load_sc hS hH (by repeat (first | exact Sub.nil | refine Sub.cons ?_ ?_ | exact In.here | refine In.there ?_)) rfl (by repeat (first | exact In.here | refine In.there ?_)) Fp.sc22 (by rfl) rfl ?_; clear hS; intro a hS
        refine Sq.guardYes hS rfl rfl (DT (by omega)) ?_; refine r_lenSl hS hH.kp0 rfl Fp.isSlice22 rfl ?_; clear hS; intro a hS
        refine Sq.guardYes hS rfl rfl (DT (by omega)) ?_; refine r_leq hS hH.kp0 rfl rfl rfl ?_; clear hS; intro a hS
        refine r_pickT hS hH.kp0 rfl (DT (by omega)) rfl rfl ?_; clear hS; intro a hS
        refine r_assign hS hH.kp0 rfl rfl ?_; clear hS; intro a hS
        refine Sq.nil ?_
        refine then_n ?_
        refine wp_ret ?_
        refine then_r ?_
        refine blk_r ?_
        refine then_r ?_
        refine blk_r ?_
        refine then_r ?_
        refine leave (.inl rfl) hS rfl (Res.tmp rfl Res.nil) ⟨congrArg (fun z => Ending.returned (Value.bool z)) ?_, hH.mod⟩
        first | exact (DF (by unfold mayP; omega)).symm | exact (DT (by unfold mayP; omega)).symm | exact decide_eq_decide.2 (by unfold mayP; omega)
    · refine r_move hS hH.kp0 rfl rfl ?_; clear hS; intro a hS
      refine r_geq hS hH.kp0 rfl rfl rfl ?_; clear hS; intro a hS
      refine r_move hS hH.kp0 rfl rfl ?_; clear hS; intro a hS
      refine Sq.guardYes hS rfl rfl (DT (by omega)) ?_; refine r_move hS hH.kp0 rfl rfl ?_; clear hS; intro a hS
      refine Sq.guardYes hS rfl rfl (DT (by omega)) ?_; refine r_leq hS hH.kp0 rfl rfl rfl ?_; clear hS; intro a hS
      refine r_pickT hS hH.kp0 rfl (DT (by omega)) rfl rfl ?_; clear hS; intro a hS
      refine r_assign hS hH.kp0 rfl rfl ?_; clear hS; intro a hS
      refine Sq.nil ?_
      refine then_n ?_
      refine c_seq ?_
      refine c_seq ?_
      refine reg_plain w0 (Nobody) ?_
      refine r_fieldAddr hS hH.kp0 rfl Fp.fo26_0 rfl ?_; clear hS; intro a hS
      refine r_load_sc hS hH (by repeat (first | exact Sub.nil | refine Sub.cons ?_ ?_ | exact In.here | refine In.there ?_)) rfl (by repeat (first | exact In.here | refine In.there ?_)) Fp.sc3 (by rfl) rfl ?_; clear hS; intro a hS
      refine Sq.nil ?_
      refine then_n ?_
      refine wp_block ?_
      refine c_seq ?_
      refine wp_block ?_
      refine c_seq ?_
      refine wp_block ?_
      refine c_seq ?_
      refine wp_block ?_
      refine c_seq ?_
      refine wp_block ?_
      refine c_seq ?_
      refine wp_block ?_
      refine c_seq ?_
      refine c_seq ?_
      refine c_seq ?_
      refine reg_plain w0 (Nobody) ?_
      refine r_eql hS hH.kp0 rfl rfl rfl ?_; clear hS; intro a hS
      refine r_assign hS hH.kp0 rfl rfl ?_; clear hS; intro a hS
      refine Sq.nil ?_
      refine then_n ?_
      refine c_condF hS rfl rfl ?_
      refine wp_skip ?_
      refine then_n ?_
      refine c_seq ?_
      refine c_seq ?_
      refine c_seq ?_
      refine reg_plain w0 (Nobody) ?_
      refine r_eql hS hH.kp0 rfl rfl rfl ?_; clear hS; intro a hS
      refine r_assign hS hH.kp0 rfl rfl ?_; clear hS; intro a hS
      refine Sq.nil ?_
      refine then_n ?_
      refine c_condF hS rfl rfl ?_
      refine reg_plain w0 (Nobody) ?_
      refine r_eql hS hH.kp0 rfl rfl rfl ?_; clear hS; intro a hS
      refine r_assign hS hH.kp0 rfl rfl ?_; clear hS; intro a hS
      refine Sq.nil ?_
      refine then_n ?_
      refine c_condF hS rfl rfl ?_
      refine wp_skip ?_
      refine then_n ?_
      refine c_seq ?_
      refine c_seq ?_
      refine reg_plain w0 (Nobody) ?_
      refine r_eql hS hH.kp0 rfl rfl rfl ?_; clear hS; intro a hS
      refine r_assign hS hH.kp0 rfl rfl ?_; clear hS; intro a hS
      refine Sq.nil ?_
      refine then_n ?_
      refine c_condF hS rfl rfl ?_
      refine wp_skip ?_
      refine then_n ?_
      refine c_seq ?_
      refine c_seq ?_
      refine reg_plain w0 (Nobody) ?_
      refine r_eql hS hH.kp0 rfl rfl rfl ?_; clear hS; intro a hS
      refine r_assign hS hH.kp0 rfl rfl ?_; clear hS; intro a hS
      refine Sq.nil ?_
      refine then_n ?_
      refine c_condT hS rfl rfl ?_
      refine wp_exit ?_
      refine then_e ?_
      refine then_e ?_
      refine blk_e rfl ?_
      refine then_e ?_
      refine blk_e rfl ?_
      refine then_e ?_
      refine blk_e rfl ?_
      refine then_e ?_
      refine blk_hit ?_
      refine then_n ?_
      refine c_seq ?_
      refine c_seq ?_
      refine reg_plain w0 (Nobody) ?_
      rcases (by omega : tok.length = 0 ∨ 0 < tok.length) with hz | hz
      · refine r_fieldAddr hS hH.kp0 rfl Fp.fo26_4 rfl ?_; clear hS; intro a hS
        refine r_load_sc hS hH (by repeat (first | exact Sub.nil | refine Sub.cons ?_ ?_ | exact In.here | refine In.there ?_)) rfl (by repeat (first | exact In.here | refine In.there ?_)) Fp.sc22 (by rfl) rfl ?_; clear hS; intro a hS
        refine r_lenSl hS hH.kp0 rfl Fp.isSlice22 rfl ?_; clear hS; intro a hS
        refine r_gtr hS hH.kp0 rfl rfl rfl ?_; clear hS; intro a hS
        refine r_move hS hH.kp0 rfl rfl ?_; clear hS; intro a hS
        refine Sq.guardNo hS rfl rfl (DF (by omega)) hH.kp0 rfl ?_; clear hS; intro a hS
        refine Sq.guardNo hS rfl rfl (DF (by omega)) hH.kp0 rfl ?_; clear hS; intro a hS
        refine Sq.guardNo hS rfl rfl (DF (by omega)) hH.kp0 rfl ?_; clear hS; intro a hS
        refine Sq.guardNo hS rfl rfl (DF (by omega)) hH.kp0 rfl ?_; clear hS; intro a hS
        refine r_pickF hS hH.kp0 rfl (DF (by omega)) rfl rfl ?_; clear hS; intro a hS
        refine r_assign hS hH.kp0 rfl rfl ?_; clear hS; intro a hS
        refine Sq.nil ?_
        refine then_n ?_
        refine wp_ret ?_
        refine then_r ?_
        refine blk_r ?_
        refine then_r ?_
        refine blk_r ?_
        refine then_r ?_
        refine leave (.inl rfl) hS rfl (Res.tmp rfl Res.nil) ⟨congrArg (fun z => Ending.returned (Value.bool z)) ?_, hH.mod⟩
        first | exact (DF (by unfold mayP; omega)).symm | exact (DT (by unfold mayP; omega)).symm | exact decide_eq_decide.2 (by unfold mayP; omega)
      · refine r_fieldAddr hS hH.kp0 rfl Fp.fo26_4 rfl ?_; clear hS; intro a hS
        refine r_load_sc hS hH (by repeat (first | exact Sub.nil | refine Sub.cons ?_ ?_ | exact In.here | refine In.there ?_)) rfl (by repeat (first | exact In.here | refine In.there ?_)) Fp.sc22 (by rfl) rfl ?_; clear hS; intro a hS
        refine r_lenSl hS hH.kp0 rfl Fp.isSlice22 rfl ?_; clear hS; intro a hS
        refine r_gtr hS hH.kp0 rfl rfl rfl ?_; clear hS; intro a hS
        refine r_move hS hH.kp0 rfl rfl ?_; clear hS; intro a hS
        refine Sq.guardYes hS rfl rfl (DT (by omega)) ?_; refine r_fieldAddr hS hH.kp0 rfl Fp.fo26_4 rfl ?_; clear hS; intro a hS
        refine Sq.guardYes hS rfl rfl (DT (by omega)) ?_; refine r_load_sc hS hH (by repeat (first | exact Sub.nil | refine Sub.cons ?_ ?_ | exact In.here | refine In.there ?_)) rfl (by repeat (first | exact In.here | refine In.there ?_)) Fp.sc22 (by rfl) rfl ?_; clear hS; intro a hS
        refine Sq.guardYes hS rfl rfl (DT (by omega)) ?_; refine r_lenSl hS hH.kp0 rfl Fp.isSlice22 rfl ?_; clear hS; intro a hS
        refine Sq.guardYes hS rfl rfl (DT (by omega)) ?_; refine r_leq hS hH.kp0 rfl rfl rfl ?_; clear hS; intro a hS
        refine r_pickT hS hH.kp0 rfl (DT (by omega)) rfl rfl ?_; clear hS; intro a hS
        refine r_assign hS hH.kp0 rfl rfl ?_; clear hS; intro a hS
        refine Sq.nil ?_
        refine then_n ?_
        refine wp_ret ?_
        refine then_r ?_
        refine blk_r ?_
        refine then_r ?_
        refine blk_r ?_
        refine then_r ?_
        refine leave (.inl rfl) hS rfl (Res.tmp rfl Res.nil) ⟨congrArg (fun z => Ending.returned (Value.bool z)) ?_, hH.mod⟩
        first | exact (DF (by unfold mayP; omega)).symm | exact (DT (by unfold mayP; omega)).symm | exact decide_eq_decide.2 (by unfold mayP; omega)

set_option maxRecDepth 100000 in
set_option maxHeartbeats 2000000 in
theorem right_4 (ve : Int) (q1 q2 q3 q4 : Option Addr) (c1 c2 c3 c4 : Nat) (dst src tok tag : List UInt8) (lst : List Int) (ln : Int) (ph : Bool) (htag : tag.length = 16) (n : Int) (w0 : World) (hll : lst.length ≤ 1099511627776) (hlst : IsA w0 q4 c4 lst) : Calls Tryd.prog 25 #[.agg ([.int .i64 4, .int .i64 ve, .slice q1 dst.length c1, .slice q2 src.length c2, .slice q3 tok.length c3, .int .i64 ln, .bool ph, .slice q4 lst.length c4] ++ hcells tag : List Value).toArray, .int .i64 n] w0 fun e w' => e = .returned (.bool (decide (mayP 4 dst.length src.length tok.length ln n lst.length (badN lst)))) ∧ Ext w0 w' := by
  refine enter Tryd.func25 rfl rfl rfl ?_
  intro a hS
  have hH := Hp.start w0 (Nobody)
  obtain ⟨t0, t1, t2, t3, t4, t5, t6, t7, t8, t9, ta, tb, tc, td, te, tf, rfl⟩ := len16 htag
  refine c_seq ?_
  refine reg_plain w0 (Nobody) ?_
  refine r_box hS hH (by repeat (first | exact Sub.nil | refine Sub.cons ?_ ?_ | exact In.here | refine In.there ?_)) rfl rfl rfl ?_
  clear hS hH; intro a w b2 hb2 hwb2 hS hH
  refine r_assign hS hH.kp0 rfl rfl ?_; clear hS; intro a hS
  refine Sq.nil ?_
  refine then_n ?_
  refine c_seq ?_
  refine c_seq ?_
  refine reg_plain w0 (Nobody) ?_
  rcases (by omega : 20 < dst.length ∨ (dst.length ≤ 20 ∧ 20 < src.length) ∨ (dst.length ≤ 20 ∧ src.length ≤ 20)) with hd | ⟨hd, hs⟩ | ⟨hd, hs⟩
  · refine r_fieldAddr hS hH.kp0 rfl Fp.fo26_2 rfl ?_; clear hS; intro a hS
    refine r_load_sc hS hH (by repeat (first | exact Sub.nil | refine Sub.cons ?_ ?_ | exact In.here | refine In.there ?_)) rfl (by repeat (first | exact In.here | refine In.there ?_)) Fp.sc22 (by rfl) rfl ?_; clear hS; intro a hS
    refine r_lenSl hS hH.kp0 rfl Fp.isSlice22 rfl ?_; clear hS; intro a hS
    refine r_gtr hS hH.kp0 rfl rfl rfl ?_; clear hS; intro a hS
    refine r_move hS hH.kp0 rfl rfl ?_; clear hS; intro a hS
    refine Sq.guardNo hS rfl rfl (DT (by omega)) hH.kp0 rfl ?_; clear hS; intro a hS
    refine Sq.guardNo hS rfl rfl (DT (by omega)) hH.kp0 rfl ?_; clear hS; intro a hS
    refine Sq.guardNo hS rfl rfl (DT (by omega)) hH.kp0 rfl ?_; clear hS; intro a hS
    refine Sq.guardNo hS rfl rfl (DT (by omega)) hH.kp0 rfl ?_; clear hS; intro a hS
    refine Sq.guardOff hS rfl rfl hH.kp0 rfl ?_; clear hS; intro a hS
    refine Sq.guardOff hS rfl rfl hH.kp0 rfl ?_; clear hS; intro a hS
    refine Sq.guardOff hS rfl rfl hH.kp0 rfl ?_; clear hS; intro a hS
    refine Sq.guardOff hS rfl rfl hH.kp0 rfl ?_; clear hS; intro a hS
    refine Sq.guardNo hS rfl rfl (DT (by omega)) hH.kp0 rfl ?_; clear hS; intro a hS
    refine r_pickT hS hH.kp0 rfl (DT (by omega)) rfl rfl ?_; clear hS; intro a hS
    refine Sq.nil ?_
    refine then_n ?_
    refine c_condT hS rfl rfl ?_
    refine c_seq ?_
    refine reg_plain w0 (Nobody) ?_
    refine r_assign hS hH.kp0 rfl rfl ?_; clear hS; intro a hS
    refine Sq.nil ?_
    refine then_n ?_
    refine wp_ret ?_
    refine then_r ?_
    refine leave (.inl rfl) hS rfl (Res.tmp rfl Res.nil) ⟨congrArg (fun z => Ending.returned (Value.bool z)) ?_, hH.mod⟩
    first | exact (DF (by unfold mayP; omega)).symm | exact (DT (by unfold mayP; omega)).symm | exact decide_eq_decide.2 (by unfold mayP; omega)
  · refine r_fieldAddr hS hH.kp0 rfl Fp.fo26_2 rfl ?_; clear hS; intro a hS
    refine r_load_sc hS hH (by repeat (first | exact Sub.nil | refine Sub.cons ?_ ?_ | exact In.here | refine In.there ?_)) rfl (by repeat (first | exact In.here | refine In.there ?_)) Fp.sc22 (by rfl) rfl ?_; clear hS; intro a hS
    refine r_lenSl hS hH.kp0 rfl Fp.isSlice22 rfl ?_; clear hS; intro a hS
    refine r_gtr hS hH.kp0 rfl rfl rfl ?_; clear hS; intro a hS
    refine r_move hS hH.kp0 rfl rfl ?_; clear hS; intro a hS
    refine Sq.guardYes hS rfl rfl (DF (by omega)) ?_; refine r_fieldAddr hS hH.kp0 rfl Fp.fo26_0 rfl ?_; clear hS; intro a hS
    refine Sq.guardYes hS rfl rfl (DF (by omega)) ?_; refine r_load_sc hS hH (by repeat (first | exact Sub.nil | refine Sub.cons ?_ ?_ | exact In.here | refine In.there ?_)) rfl (by repeat (first | exact In.here | refine In.there ?_)) Fp.sc3 (by rfl) rfl ?_; clear hS; intro a hS
    refine Sq.guardYes hS rfl rfl (DF (by omega)) ?_; refine r_neq hS hH.kp0 rfl rfl rfl ?_; clear hS; intro a hS
    refine Sq.guardYes hS rfl rfl (DF (by omega)) ?_; refine r_move hS hH.kp0 rfl rfl ?_; clear hS; intro a hS
    refine Sq.guardYes hS rfl rfl rfl ?_; refine r_fieldAddr hS hH.kp0 rfl Fp.fo26_3 rfl ?_; clear hS; intro a hS
    refine Sq.guardYes hS rfl rfl rfl ?_; refine r_load_sc hS hH (by repeat (first | exact Sub.nil | refine Sub.cons ?_ ?_ | exact In.here | refine In.there ?_)) rfl (by repeat (first | exact In.here | refine In.there ?_)) Fp.sc22 (by rfl) rfl ?_; clear hS; intro a hS
    refine Sq.guardYes hS rfl rfl rfl ?_; refine r_lenSl hS hH.kp0 rfl Fp.isSlice22 rfl ?_; clear hS; intro a hS
    refine Sq.guardYes hS rfl rfl rfl ?_; refine r_gtr hS hH.kp0 rfl rfl rfl ?_; clear hS; intro a hS
    refine Sq.guardYes hS rfl rfl (DF (by omega)) ?_; refine r_pickT hS hH.kp0 rfl rfl rfl rfl ?_; clear hS; intro a hS
    refine r_pickF hS hH.kp0 rfl (DF (by omega)) rfl rfl ?_; clear hS; intro a hS
    refine Sq.nil ?_
    refine then_n ?_
    refine c_condT hS rfl (DT (by omega)) ?_
    refine c_seq ?_
    refine reg_plain w0 (Nobody) ?_
    refine r_assign hS hH.kp0 rfl rfl ?_; clear hS; intro a hS
    refine Sq.nil ?_
    refine then_n ?_
    refine wp_ret ?_
    refine then_r ?_
    refine leave (.inl rfl) hS rfl (Res.tmp rfl Res.nil) ⟨congrArg (fun z => Ending.returned (Value.bool z)) ?_, hH.mod⟩
    first | exact (DF (by unfold mayP; omega)).symm | exact (DT (by unfold mayP; omega)).symm | exact decide_eq_decide.2 (by unfold mayP; omega)
  · refine r_fieldAddr hS hH.kp0 rfl Fp.fo26_2 rfl ?_; clear hS; intro a hS
    refine r_load_sc hS hH (by repeat (first | exact Sub.nil | refine Sub.cons ?_ ?_ | exact In.here | refine In.there ?_)) rfl (by repeat (first | exact In.here | refine In.there ?_)) Fp.sc22 (by rfl) rfl ?_; clear hS; intro a hS
    refine r_lenSl hS hH.kp0 rfl Fp.isSlice22 rfl ?_; clear hS; intro a hS
    refine r_gtr hS hH.kp0 rfl rfl rfl ?_; clear hS; intro a hS
    refine r_move hS hH.kp0 rfl rfl ?_; clear hS; intro a hS
    refine Sq.guardYes hS rfl rfl (DF (by omega)) ?_; refine r_fieldAddr hS hH.kp0 rfl Fp.fo26_0 rfl ?_; clear hS; intro a hS
    refine Sq.guardYes hS rfl rfl (DF (by omega)) ?_; refine r_load_sc hS hH (by repeat (first | exact Sub.nil | refine Sub.cons ?_ ?_ | exact In.here | refine In.there ?_)) rfl (by repeat (first | exact In.here | refine In.there ?_)) Fp.sc3 (by rfl) rfl ?_; clear hS; intro a hS
    refine Sq.guardYes hS rfl rfl (DF (by omega)) ?_; refine r_neq hS hH.kp0 rfl rfl rfl ?_; clear hS; intro a hS
    refine Sq.guardYes hS rfl rfl (DF (by omega)) ?_; refine r_move hS hH.kp0 rfl rfl ?_; clear hS; intro a hS
    refine Sq.guardYes hS rfl rfl rfl ?_; refine r_fieldAddr hS hH.kp0 rfl Fp.fo26_3 rfl ?_; clear hS; intro a hS
    refine Sq.guardYes hS rfl rfl rfl ?_; refine r_load_sc hS hH (by repeat (first | exact Sub.nil | refine Sub.cons ?_ ?_ | exact In.here | refine In.there ?_)) rfl (by repeat (first | exact In.here | refine In.there ?_)) Fp.sc22 (by rfl) rfl ?_; clear hS; intro a hS
    refine Sq.guardYes hS rfl rfl rfl ?_; refine r_lenSl hS hH.kp0 rfl Fp.isSlice22 rfl ?_; clear hS; intro a hS
    refine Sq.guardYes hS rfl rfl rfl ?_; refine r_gtr hS hH.kp0 rfl rfl rfl ?_; clear hS; intro a hS
    refine Sq.guardYes hS rfl rfl (DF (by omega)) ?_; refine r_pickT hS hH.kp0 rfl rfl rfl rfl ?_; clear hS; intro a hS
    refine r_pickF hS hH.kp0 rfl (DF (by omega)) rfl rfl ?_; clear hS; intro a hS
    refine Sq.nil ?_
    refine then_n ?_
    refine c_condF hS rfl (DF (by omega)) ?_
    refine wp_skip ?_
    refine then_n ?_
    refine c_seq ?_
    refine reg_plain w0 (Nobody) ?_
    rcases (by omega : n < 1 ∨ (1 ≤ n ∧ 4 < n) ∨ (1 ≤ n ∧ n ≤ 4)) with hn | ⟨hn, hn4⟩ | ⟨hn, hn4⟩
    · refine r_move hS hH.kp0 rfl rfl ?_; clear hS; intro a hS
      refine r_geq hS hH.kp0 rfl rfl rfl ?_; clear hS; intro a hS
      refine r_move hS hH.kp0 rfl rfl ?_; clear hS; intro a hS
      refine Sq.guardNo hS rfl rfl (DF (by omega)) hH.kp0 rfl ?_; clear hS; intro a hS
      refine Sq.guardNo hS rfl rfl (DF (by omega)) hH.kp0 rfl ?_; clear hS; intro a hS
      refine r_pickF hS hH.kp0 rfl (DF (by omega)) rfl rfl ?_; clear hS; intro a hS
      refine r_assign hS hH.kp0 rfl rfl ?_; clear hS; intro a hS
      refine Sq.nil ?_
      refine then_n ?_
      refine c_seq ?_
      refine c_seq ?_
      refine reg_plain w0 (Nobody) ?_
      refine r_fieldAddr hS hH.kp0 rfl Fp.fo26_0 rfl ?_; clear hS; intro a hS
      refine r_load_sc hS hH (by repeat (first | exact Sub.nil | refine Sub.cons ?_ ?_ | exact In.here | refine In.there ?_)) rfl (by repeat (first | exact In.here | refine In.there ?_)) Fp.sc3 (by rfl) rfl ?_; clear hS; intro a hS
      refine Sq.nil ?_
      refine then_n ?_
      refine wp_block ?_
      refine c_seq ?_
      refine wp_block ?_
      refine c_seq ?_
      refine wp_block ?_
      refine c_seq ?_
      refine wp_block ?_
      refine c_seq ?_
      refine wp_block ?_
      refine c_seq ?_
      refine wp_block ?_
      refine c_seq ?_
      refine c_seq ?_
      refine c_seq ?_
      refine reg_plain w0 (Nobody) ?_
      refine r_eql hS hH.kp0 rfl rfl rfl ?_; clear hS; intro a hS
      refine r_assign hS hH.kp0 rfl rfl ?_; clear hS; intro a hS
      refine Sq.nil ?_
      refine then_n ?_
      refine c_condF hS rfl rfl ?_
      refine wp_skip ?_
      refine then_n ?_
      refine c_seq ?_
      refine c_seq ?_
      refine c_seq ?_
      refine reg_plain w0 (Nobody) ?_
      refine r_eql hS hH.kp0 rfl rfl rfl ?_; clear hS; intro a hS
      refine r_assign hS hH.kp0 rfl rfl ?_; clear hS; intro a hS
      refine Sq.nil ?_
      refine then_n ?_
      refine c_condF hS rfl rfl ?_
      refine reg_plain w0 (Nobody) ?_
      refine r_eql hS hH.kp0 rfl rfl rfl ?_; clear hS; intro a hS
      refine r_assign hS hH.kp0 rfl rfl ?_; clear hS; intro a hS
      refine Sq.nil ?_
      refine then_n ?_
      refine c_condF hS rfl rfl ?_
      refine wp_skip ?_
      refine then_n ?_
      refine c_seq ?_
      refine c_seq ?_
      refine reg_plain w0 (Nobody) ?_
      refine r_eql hS hH.kp0 rfl rfl rfl ?_; clear hS; intro a hS
      refine r_assign hS hH.kp0 rfl rfl ?_; clear hS; intro a hS
      refine Sq.nil ?_
      refine then_n ?_
      refine c_condF hS rfl rfl ?_
      refine wp_skip ?_
      refine then_n ?_
      refine c_seq ?_
      refine c_seq ?_
      refine reg_plain w0 (Nobody) ?_
      refine r_eql hS hH.kp0 rfl rfl rfl ?_; clear hS; intro a hS
      refine r_assign hS hH.kp0 rfl rfl ?_; clear hS; intro a hS
      refine Sq.nil ?_
      refine then_n ?_
      refine c_condF hS rfl rfl ?_
      refine wp_skip ?_
      refine then_n ?_
      refine c_seq ?_
      refine reg_plain w0 (Nobody) ?_
      refine r_eql hS hH.kp0 rfl rfl rfl ?_; clear hS; intro a hS
      refine r_assign hS hH.kp0 rfl rfl ?_; clear hS; intro a hS
      refine Sq.nil ?_
      refine then_n ?_
      refine c_condT hS rfl rfl ?_
      refine wp_exit ?_
      refine then_e ?_
      refine blk_e rfl ?_
      refine then_e ?_
      refine blk_e rfl ?_
      refine then_e ?_
      refine blk_e rfl ?_
      refine then_e ?_
      refine blk_e rfl ?_
      refine then_e ?_
      refine blk_hit ?_
      refine then_n ?_
      refine c_seq ?_
      refine c_seq ?_
      refine reg_plain w0 (Nobody) ?_
      rcases (by omega : lst.length = 0 ∨ 0 < lst.length) with hz | hz
      · refine r_fieldAddr hS hH.kp0 rfl Fp.fo26_7 rfl ?_; clear hS; intro a hS
        refine r_load_sc hS hH (by repeat (first | exact Sub.nil | refine Sub.cons ?_ ?_ | exact In.here | refine In.there ?_)) rfl (by repeat (first | exact In.here | refine In.there ?_)) Fp.sc23 (by rfl) rfl ?_; clear hS; intro a hS
        refine r_lenSl hS hH.kp0 rfl Fp.isSlice23 rfl ?_; clear hS; intro a hS
        refine r_gtr hS hH.kp0 rfl rfl rfl ?_; clear hS; intro a hS
        refine r_move hS hH.kp0 rfl rfl ?_; clear hS; intro a hS
        refine Sq.guardNo hS rfl rfl (DF (by omega)) hH.kp0 rfl ?_; clear hS; intro a hS
        refine Sq.guardNo hS rfl rfl (DF (by omega)) hH.kp0 rfl ?_; clear hS; intro a hS
        refine Sq.guardNo hS rfl rfl (DF (by omega)) hH.kp0 rfl ?_; clear hS; intro a hS
        refine Sq.guardNo hS rfl rfl (DF (by omega)) hH.kp0 rfl ?_; clear hS; intro a hS
        refine r_pickF hS hH.kp0 rfl (DF (by omega)) rfl rfl ?_; clear hS; intro a hS
        refine r_assign hS hH.kp0 rfl rfl ?_; clear hS; intro a hS
        refine Sq.nil ?_
        refine then_n ?_
        refine wp_ret ?_
        refine then_r ?_
        refine blk_r ?_
        refine then_r ?_
        refine leave (.inl rfl) hS rfl (Res.tmp rfl Res.nil) ⟨congrArg (fun z => Ending.returned (Value.bool z)) ?_, hH.mod⟩
        first | exact (DF (by unfold mayP; omega)).symm | exact (DT (by unfold mayP; omega)).symm | exact decide_eq_decide.2 (by unfold mayP; omega)
      · refine r_fieldAddr hS hH.kp0 rfl Fp.fo26_7 rfl ?_; clear hS; intro a hS
        refine r_load_sc hS hH (by repeat (first | exact Sub.nil | refine Sub.cons ?_ ?_ | exact In.here | refine In.there ?_)) rfl (by repeat (first | exact In.here | refine In.there ?_)) Fp.sc23 (by rfl) rfl ?_; clear hS; intro a hS
        refine r_lenSl hS hH.kp0 rfl Fp.isSlice23 rfl ?_; clear hS; intro a hS
        refine r_gtr hS hH.kp0 rfl rfl rfl ?_; clear hS; intro a hS
        rcases (by omega : badN lst = 0 ∨ 0 < badN lst) with hbn | hbn
        · refine r_move hS hH.kp0 rfl rfl ?_; clear hS; intro a hS
          refine Sq.guardYes hS rfl rfl (DT (by omega)) ?_; refine r_fieldAddr hS hH.kp0 rfl Fp.fo26_7 rfl ?_; clear hS; intro a hS
          refine Sq.guardYes hS rfl rfl (DT (by omega)) ?_; refine r_load_sc hS hH (by repeat (first | exact Sub.nil | refine Sub.cons ?_ ?_ | exact In.here | refine In.there ?_)) rfl (by repeat (first | exact In.here | refine In.there ?_)) Fp.sc23 (by rfl) rfl ?_; clear hS; intro a hS
          refine Sq.guardYes hS rfl rfl (DT (by omega)) ?_; refine r_call (l := [.tmp 73, .func 43]) hS rfl rfl Fp.fn42 rfl ?_; refine Calls.mono (ContainsFunc_c q4 c4 lst hll _ (hlst.ext hH.mod)) ?_; rintro e w1 ⟨rfl, hE⟩; replace hH := hH.ext hE; refine ⟨_, rfl, hH.kp0, ?_⟩; clear hS; intro a hS
          refine Sq.guardYes hS rfl rfl (DT (by omega)) ?_; refine r_not hS hH.kp0 rfl rfl ?_; clear hS; intro a hS
          refine r_pickT hS hH.kp0 rfl (DT (by omega)) rfl rfl ?_; clear hS; intro a hS
          refine r_assign hS hH.kp0 rfl rfl ?_; clear hS; intro a hS
          refine Sq.nil ?_
          refine then_n ?_
          refine wp_ret ?_
          refine then_r ?_
          refine blk_r ?_
          refine then_r ?_
          refine leave (.inl rfl) hS rfl (Res.tmp rfl Res.nil) ⟨congrArg (fun z => Ending.returned (Value.bool z)) ?_, hH.mod⟩
          rw [show decide (0 < badN lst) = false from DF (by omega)]
          first | exact (DF (by unfold mayP; omega)).symm | exact (DT (by unfold mayP; omega)).symm | exact decide_eq_decide.2 (by unfold mayP; omega)
        · refine r_move hS hH.kp0 rfl rfl ?_; clear hS; intro a hS
          refine Sq.guardYes hS rfl rfl (DT (by omega)) ?_; refine r_fieldAddr hS hH.kp0 rfl Fp.fo26_7 rfl ?_; clear hS; intro a hS
          refine Sq.guardYes hS rfl rfl (DT (by omega)) ?_; refine r_load_sc hS hH (by repeat (first | exact Sub.nil | refine Sub.cons ?_ ?_ | exact In.here | refine In.there ?_)) rfl (by repeat (first | exact In.here | refine In.there ?_)) Fp.sc23 (by rfl) rfl ?_; clear hS; intro a hS
          refine Sq.guardYes hS rfl rfl (DT (by omega)) ?_; refine r_call (l := [.tmp 73, .func 43]) hS rfl rfl Fp.fn42 rfl ?_; refine Calls.mono (ContainsFunc_c q4 c4 lst hll _ (hlst.ext hH.mod)) ?_; rintro e w1 ⟨rfl, hE⟩; replace hH := hH.ext hE; refine ⟨_, rfl, hH.kp0, ?_⟩; clear hS; intro a hS
          refine Sq.guardYes hS rfl rfl (DT (by omega)) ?_; refine r_not hS hH.kp0 rfl rfl ?_; clear hS; intro a hS
          refine r_pickT hS hH.kp0 rfl (DT (by omega)) rfl rfl ?_; clear hS; intro a hS
          refine r_assign hS hH.kp0 rfl rfl ?_; clear hS; intro a hS
          refine Sq.nil ?_
          refine then_n ?_
          refine wp_ret ?_
          refine then_r ?_
          refine blk_r ?_
          refine then_r ?_
          refine leave (.inl rfl) hS rfl (Res.tmp rfl Res.nil) ⟨congrArg (fun z => Ending.returned (Value.bool z)) ?_, hH.mod⟩
          rw [show decide (0 < badN lst) = true from DT hbn]
          first | exact (DF (by unfold mayP; omega)).symm | exact (DT (by unfold mayP; omega)).symm | exact decide_eq_decide.2 (by unfold mayP; omega)
    · refine r_move hS hH.kp0 rfl rfl ?_; clear hS; intro a hS
      refine r_geq hS hH.kp0 rfl rfl rfl ?_; clear hS; intro a hS
      refine r_move hS hH.kp0 rfl rfl ?_; clear hS; intro a hS
      refine Sq.guardYes hS rfl rfl (DT (by omega)) ?_; refine r_move hS hH.kp0 rfl rfl ?_; clear hS; intro a hS
      refine Sq.guardYes hS rfl rfl (DT (by omega)) ?_; refine r_leq hS hH.kp0 rfl rfl rfl ?_; clear hS; intro a hS
      refine r_pickT hS hH.kp0 rfl (DT (by omega)) rfl rfl ?_; clear hS; intro a hS
      refine r_assign hS hH.kp0 rfl rfl ?_; clear hS; intro a hS
      refine Sq.nil ?_
      refine then_n ?_
      refine c_seq ?_
      refine c_seq ?_
      refine reg_plain w0 (Nobody) ?_
      refine r_fieldAddr hS hH.kp0 rfl Fp.fo26_0 rfl ?_; clear hS; intro a hS
      refine r_load_sc hS hH (by repeat (first | exact Sub.nil | refine Sub.cons ?_ ?_ | exact In.here | refine In.there ?_)) rfl (by repeat (first | exact In.here | refine In.there ?_)) Fp.sc3 (by rfl) rfl ?_; clear hS; intro a hS
      refine Sq.nil ?_
      refine then_n ?_
      refine wp_block ?_
      refine c_seq ?_
      refine wp_block ?_
      refine c_seq ?_
      refine wp_block ?_
      refine c_seq ?_
      refine wp_block ?_
      refine c_seq ?_
      refine wp_block ?_
      refine c_seq ?_
      refine wp_block ?_
      refine c_seq ?_
      refine c_seq ?_
      refine c_seq ?_
      refine reg_plain w0 (Nobody) ?_
      refine r_eql hS hH.kp0 rfl rfl rfl ?_; clear hS; intro a hS
      refine r_assign hS hH.kp0 rfl rfl ?_; clear hS; intro a hS
      refine Sq.nil ?_
      refine then_n ?_
      refine c_condF hS rfl rfl ?_
      refine wp_skip ?_
      refine then_n ?_
      refine c_seq ?_
      refine c_seq ?_
      refine c_seq ?_
      refine reg_plain w0 (Nobody) ?_
      refine r_eql hS hH.kp0 rfl rfl rfl ?_; clear hS; intro a hS
      refine r_assign hS hH.kp0 rfl rfl ?_; clear hS; intro a hS
      refine Sq.nil ?_
      refine then_n ?_
      refine c_condF hS rfl rfl ?_
      refine reg_plain w0 (Nobody) ?_
      refine r_eql hS hH.kp0 rfl rfl rfl ?_; clear hS; intro a hS
      refine r_assign hS hH.kp0 rfl rfl ?_; clear hS; intro a hS
      refine Sq.nil ?_
      refine then_n ?_
      refine c_condF hS rfl rfl ?_
      refine wp_skip ?_
      refine then_n ?_
      refine c_seq ?_
      refine c_seq ?_
      refine reg_plain w0 (Nobody) ?_
      refine r_eql hS hH.kp0 rfl rfl rfl ?_; clear hS; intro a hS
      refine r_assign hS hH.kp0 rfl rfl ?_; clear hS; intro a hS
      refine Sq.nil ?_
      refine then_n ?_
      refine c_condF hS rfl rfl ?_
      refine wp_skip ?_
      refine then_n ?_
      refine c_seq ?_
      refine c_seq ?_
      refine reg_plain w0 (Nobody) ?_
      refine r_eql hS hH.kp0 rfl rfl rfl ?_; clear hS; intro a hS
      refine r_assign hS hH.kp0 rfl rfl ?_; clear hS; intro a hS
      refine Sq.nil ?_
      refine then_n ?_
      refine c_condF hS rfl rfl ?_
      refine wp_skip ?_
      refine then_n ?_
      refine c_seq ?_
      refine reg_plain w0 (Nobody) ?_
      refine r_eql hS hH.kp0 rfl rfl rfl ?_; clear hS; intro a hS
      refine r_assign hS hH.kp0 rfl rfl ?_; clear hS; intro a hS
      refine Sq.nil ?_
      refine then_n ?_
      refine c_condT hS rfl rfl ?_
      refine wp_exit ?_
      refine then_e ?_
      refine blk_e rfl ?_
      refine then_e ?_
      refine blk_e rfl ?_
      refine then_e ?_
      refine blk_e rfl ?_
      refine then_e ?_
      refine blk_e rfl ?_
      refine then_e ?_
      refine blk_hit ?_
      refine then_n ?_
      refine c_seq ?_
      refine c_seq ?_
      refine reg_plain w0 (Nobody) ?_
      rcases (by omega : lst.length = 0 ∨ 0 < lst.length) with hz | hz
      · refine r_fieldAddr hS hH.kp0 rfl Fp.fo26_7 rfl ?_; clear hS; intro a hS
        refine r_load_sc hS hH (by repeat (first | exact Sub.nil | refine Sub.cons ?_ ?_ | exact In.here | refine In.there ?_)) rfl (by repeat (first | exact In.here | refine In.there ?_)) Fp.sc23 (by rfl) rfl ?_; clear hS; intro a hS
        refine r_lenSl hS hH.kp0 rfl Fp.isSlice23 rfl ?_; clear hS; intro a hS
        refine r_gtr hS hH.kp0 rfl rfl rfl ?_; clear hS; intro a hS
        refine r_move hS hH.kp0 rfl rfl ?_; clear hS; intro a hS
        refine Sq.guardNo hS rfl rfl (DF (by omega)) hH.kp0 rfl ?_; clear hS; intro a hS
        refine Sq.guardNo hS rfl rfl (DF (by omega)) hH.kp0 rfl ?_; clear hS; intro a hS
        refine Sq.guardNo hS rfl rfl (DF (by omega)) hH.kp0 rfl ?_; clear hS; intro a hS
        refine Sq.guardNo hS rfl rfl (DF (by omega)) hH.kp0 rfl ?_; clear hS; intro a hS
        refine r_pickF hS hH.kp0 rfl (DF (by omega)) rfl rfl ?_; clear hS; intro a hS
        refine r_assign hS hH.kp0 rfl rfl ?_; clear hS; intro a hS
        refine Sq.nil ?_
        refine then_n ?_
        refine wp_ret ?_
        refine then_r ?_
        refine blk_r ?_
        refine then_r ?_
        refine leave (.inl rfl) hS rfl (Res.tmp rfl Res.nil) ⟨congrArg (fun z => Ending.returned (Value.bool z)) ?_, hH.mod⟩
        first | exact (DF (by unfold mayP; omega)).symm | exact (DT (by unfold mayP; omega)).symm | exact decide_eq_decide.2 (by unfold mayP; omega)
      · refine r_fieldAddr hS hH.kp0 rfl Fp.fo26_7 rfl ?_; clear hS; intro a hS
        refine r_load_sc hS hH (by repeat (first | exact Sub.nil | refine Sub.cons ?_ ?_ | exact In.here | refine In.there ?_)) rfl (by repeat (first | exact In.here | refine In.there ?_)) Fp.sc23 (by rfl) rfl ?_; clear hS; intro a hS
        refine r_lenSl hS hH.kp0 rfl Fp.isSlice23 rfl ?_; clear hS; intro a hS
        refine r_gtr hS hH.kp0 rfl rfl rfl ?_; clear hS; intro a hS
        rcases (by omega : badN lst = 0 ∨ 0 < badN lst) with hbn | hbn
        · refine r_move hS hH.kp0 rfl rfl ?_; clear hS; intro a hS
          refine Sq.guardYes hS rfl rfl (DT (by omega)) ?_; refine r_fieldAddr hS hH.kp0 rfl Fp.fo26_7 rfl ?_; clear hS; intro a hS
          refine Sq.guardYes hS rfl rfl (DT (by omega)) ?_; refine r_load_sc hS hH (by repeat (first | exact Sub.nil | refine Sub.cons ?_ ?_ | exact In.here | refine In.there ?_)) rfl (by repeat (first | exact In.here | refine In.there ?_)) Fp.sc23 (by rfl) rfl ?_; clear hS; intro a hS
          refine Sq.guardYes hS rfl rfl (DT (by omega)) ?_; refine r_call (l := [.tmp 73, .func 43]) hS rfl rfl Fp.fn42 rfl ?_; refine Calls.mono (ContainsFunc_c q4 c4 lst hll _ (hlst.ext hH.mod)) ?_; rintro e w1 ⟨rfl, hE⟩; replace hH := hH.ext hE; refine ⟨_, rfl, hH.kp0, ?_⟩; clear hS; intro a hS
          refine Sq.guardYes hS rfl rfl (DT (by omega)) ?_; refine r_not hS hH.kp0 rfl rfl ?_; clear hS; intro a hS
          refine r_pickT hS hH.kp0 rfl (DT (by omega)) rfl rfl ?_; clear hS; intro a hS
          refine r_assign hS hH.kp0 rfl rfl ?_; clear hS; intro a hS
          refine Sq.nil ?_
          refine then_n ?_
          refine wp_ret ?_
          refine then_r ?_
          refine blk_r ?_
          refine then_r ?_
          refine leave (.inl rfl) hS rfl (Res.tmp rfl Res.nil) ⟨congrArg (fun z => Ending.returned (Value.bool z)) ?_, hH.mod⟩
          rw [show decide (0 < badN lst) = false from DF (by omega)]
          first | exact (DF (by unfold mayP; omega)).symm | exact (DT (by unfold mayP; omega)).symm | exact decide_eq_decide.2 (by unfold mayP; omega)
        · refine r_move hS hH.kp0 rfl rfl ?_; clear hS; intro a hS
          refine Sq.guardYes hS rfl rfl (DT (by omega)) ?_; refine r_fieldAddr hS hH.kp0 rfl Fp.fo26_7 rfl ?_; clear hS; intro a hS
          refine Sq.guardYes hS rfl rfl (DT (by omega)) ?_; refine r_load_sc hS hH (by repeat (first | exact Sub.nil | refine Sub.cons ?_ ?_ | exact In.here | refine In.there ?_)) rfl (by repeat (first | exact In.here | refine In.there ?_)) Fp.sc23 (by rfl) rfl ?_; clear hS; intro a hS
          refine Sq.guardYes hS rfl rfl (DT (by omega)) ?_; refine r_call (l := [.tmp 73, .func 43]) hS rfl rfl Fp.fn42 rfl ?_; refine Calls.mono (ContainsFunc_c q4 c4 lst hll _ (hlst.ext hH.mod)) ?_; rintro e w1 ⟨rfl, hE⟩; replace hH := hH.ext hE; refine ⟨_, rfl, hH.kp0, ?_⟩; clear hS; intro a hS
          refine Sq.guardYes hS rfl rfl (DT (by omega)) ?_; refine r_not hS hH.kp0 rfl rfl ?_; clear hS; intro a hS
          refine r_pickT hS hH.kp0 rfl (DT (by omega)) rfl rfl ?_; clear hS; intro a hS
          refine r_assign hS hH.kp0 rfl rfl ?_; clear hS; intro a hS
          refine Sq.nil ?_
          refine then_n ?_
          refine wp_ret ?_
          refine then_r ?_
          refine blk_r ?_
          refine then_r ?_
          refine leave (.inl rfl) hS rfl (Res.tmp rfl Res.nil) ⟨congrArg (fun z => Ending.returned (Value.bool z)) ?_, hH.mod⟩
          rw [show decide (0 < badN lst) = true from DT hbn]
          first | exact (DF (by unfold mayP; omega)).symm | exact (DT (by unfold mayP; omega)).symm | exact decide_eq_decide.2 (by unfold mayP; omega)
    · refine r_move hS hH.kp0 rfl rfl ?_; clear hS; intro a hS
      refine r_geq hS hH.kp0 rfl rfl rfl ?_; clear hS; intro a hS
      refine r_move hS hH.kp0 rfl rfl ?_; clear hS; intro a hS
      refine Sq.guardYes hS rfl rfl (DT (by omega)) ?_; refine r_move hS hH.kp0 rfl rfl ?_; clear hS; intro a hS
      refine Sq.guardYes hS rfl rfl (DT (by omega)) ?_; refine r_leq hS hH.kp0 rfl rfl rfl ?_; clear hS; intro a hS
      refine r_pickT hS hH.kp0 rfl (DT (by omega)) rfl rfl ?_; clear hS; intro a hS
      refine r_assign hS hH.kp0 rfl rfl ?_; clear hS; intro a hS
      refine Sq.nil ?_
      refine then_n ?_
      refine c_seq ?_
      refine c_seq ?_
      refine reg_plain w0 (Nobody) ?_
      refine r_fieldAddr hS hH.kp0 rfl Fp.fo26_0 rfl ?_; clear hS; intro a hS
      refine r_load_sc hS hH (by repeat (first | exact Sub.nil | refine Sub.cons ?_ ?_ | exact In.here | refine In.there ?_)) rfl (by repeat (first | exact In.here | refine In.there ?_)) Fp.sc3 (by rfl) rfl ?_; clear hS; intro a hS
      refine Sq.nil ?_
      refine then_n ?_
      refine wp_block ?_
      refine c_seq ?_
      refine wp_block ?_
      refine c_seq ?_
      refine wp_block ?_
      refine c_seq ?_
      refine wp_block ?_
      refine c_seq ?_
      refine wp_block ?_
      refine c_seq ?_
      refine wp_block ?_
      refine c_seq ?_
      refine c_seq ?_
      refine c_seq ?_
      refine reg_plain w0 (Nobody) ?_
      refine r_eql hS hH.kp0 rfl rfl rfl ?_; clear hS; intro a hS
      refine r_assign hS hH.kp0 rfl rfl ?_; clear hS; intro a hS
      refine Sq.nil ?_
      refine then_n ?_
      refine c_condF hS rfl rfl ?_
      refine wp_skip ?_
      refine then_n ?_
      refine c_seq ?_
      refine c_seq ?_
      refine c_seq ?_
      refine reg_plain w0 (Nobody) ?_
      refine r_eql hS hH.kp0 rfl rfl rfl ?_; clear hS; intro a hS
      refine r_assign hS hH.kp0 rfl rfl ?_; clear hS; intro a hS
      refine Sq.nil ?_
      refine then_n ?_
      refine c_condF hS rfl rfl ?_
      refine reg_plain w0 (Nobody) ?_
      refine r_eql hS hH.kp0 rfl rfl rfl ?_; clear hS; intro a hS
      refine r_assign hS hH.kp0 rfl rfl ?_; clear hS; intro a hS
      refine Sq.nil ?_
      refine then_n ?_
      refine c_condF hS rfl rfl ?_
      refine wp_skip ?_
      refine then_n ?_
      refine c_seq ?_
      refine c_seq ?_
      refine reg_plain w0 (Nobody) ?_
      refine r_eql hS hH.kp0 rfl rfl rfl ?_; clear hS; intro a hS
      refine r_assign hS hH.kp0 rfl rfl ?_; clear hS; intro a hS
      refine Sq.nil ?_
      refine then_n ?_
      refine c_condF hS rfl rfl ?_
      refine wp_skip ?_
      refine then_n ?_
      refine c_seq ?_
      refine c_seq ?_
      refine reg_plain w0 (Nobody) ?_
      refine r_eql hS hH.kp0 rfl rfl rfl ?_; clear hS; intro a hS
      refine r_assign hS hH.kp0 rfl rfl ?_; clear hS; intro a hS
      refine Sq.nil ?_
      refine then_n ?_
      refine c_condF hS rfl rfl ?_
      refine wp_skip ?_
      refine then_n ?_
      refine c_seq ?_
      refine reg_plain w0 (Nobody) ?_
      refine r_eql hS hH.kp0 rfl rfl rfl ?_; clear hS; intro a hS
      refine r_assign hS hH.kp0 rfl rfl ?_; clear hS; intro a hS
      refine Sq.nil ?_
      refine then_n ?_
      refine c_condT hS rfl rfl ?_
      refine wp_exit ?_
      refine then_e ?_
      refine blk_e rfl ?_
      refine then_e ?_
      refine blk_e rfl ?_
      refine then_e ?_
      refine blk_e rfl ?_
      refine then_e ?_
      refine blk_e rfl ?_
      refine then_e ?_
      refine blk_hit ?_
      refine then_n ?_
      refine c_seq ?_
      refine c_seq ?_
      refine reg_plain w0 (Nobody) ?_
      rcases (by omega : lst.length = 0 ∨ 0 < lst.length) with hz | hz
      · refine r_fieldAddr hS hH.kp0 rfl Fp.fo26_7 rfl ?_; clear hS; intro a hS
        refine r_load_sc hS hH (by repeat (first | exact Sub.nil | refine Sub.cons ?_ ?_ | exact In.here | refine In.there ?_)) rfl (by repeat (first | exact In.here | refine In.there ?_)) Fp.sc23 (by rfl) rfl ?_; clear hS; intro a hS
        refine r_lenSl hS hH.kp0 rfl Fp.isSlice23 rfl ?_; clear hS; intro a hS
        refine r_gtr hS hH.kp0 rfl rfl rfl ?_; clear hS; intro a hS
        refine r_move hS hH.kp0 rfl rfl ?_; clear hS; intro a hS
        refine Sq.guardNo hS rfl rfl (DF (by omega)) hH.kp0 rfl ?_; clear hS; intro a hS
        refine Sq.guardNo hS rfl rfl (DF (by omega)) hH.kp0 rfl ?_; clear hS; intro a hS
        refine Sq.guardNo hS rfl rfl (DF (by omega)) hH.kp0 rfl ?_; clear hS; intro a hS
        refine Sq.guardNo hS rfl rfl (DF (by omega)) hH.kp0 rfl ?_; clear hS; intro a hS
        refine r_pickF hS hH.kp0 rfl (DF (by omega)) rfl rfl ?_; clear hS; intro a hS
        refine r_assign hS hH.kp0 rfl rfl ?_; clear hS; intro a hS
        refine Sq.nil ?_
        refine then_n ?_
        refine wp_ret ?_
        refine then_r ?_
        refine blk_r ?_
        refine then_r ?_
        refine leave (.inl rfl) hS rfl (Res.tmp rfl Res.nil) ⟨congrArg (fun z => Ending.returned (Value.bool z)) ?_, hH.mod⟩
        first | exact (DF (by unfold mayP; omega)).symm | exact (DT (by unfold mayP; omega)).symm | exact decide_eq_decide.2 (by unfold mayP; omega)
      · refine r_fieldAddr hS hH.kp0 rfl Fp.fo26_7 rfl ?_; clear hS; intro a hS
        refine r_load_sc hS hH (by repeat (first | exact Sub.nil | refine Sub.cons ?_ ?_ | exact In.here | refine In.there ?_)) rfl (by repeat (first | exact In.here | refine In.there ?_)) Fp.sc23 (by rfl) rfl ?_; clear hS; intro a hS
        refine r_lenSl hS hH.kp0 rfl Fp.isSlice23 rfl ?_; clear hS; intro a hS
        refine r_gtr hS hH.kp0 rfl rfl rfl ?_; clear hS; intro a hS
        rcases (by omega : badN lst = 0 ∨ 0 < badN lst) with hbn | hbn
        · refine r_move hS hH.kp0 rfl rfl ?_; clear hS; intro a hS
          refine Sq.guardYes hS rfl rfl (DT (by omega)) ?_; refine r_fieldAddr hS hH.kp0 rfl Fp.fo26_7 rfl ?_; clear hS; intro a hS
          refine Sq.guardYes hS rfl rfl (DT (by omega)) ?_; refine r_load_sc hS hH (by repeat (first | exact Sub.nil | refine Sub.cons ?_ ?_ | exact In.here | refine In.there ?_)) rfl (by repeat (first | exact In.here | refine In.there ?_)) Fp.sc23 (by rfl) rfl ?_; clear hS; intro a hS
          refine Sq.guardYes hS rfl rfl (DT (by omega)) ?_; refine r_call (l := [.tmp 73, .func 43]) hS rfl rfl Fp.fn42 rfl ?_; refine Calls.mono (ContainsFunc_c q4 c4 lst hll _ (hlst.ext hH.mod)) ?_; rintro e w1 ⟨rfl, hE⟩; replace hH := hH.ext hE; refine ⟨_, rfl, hH.kp0, ?_⟩; clear hS; intro a hS
          refine Sq.guardYes hS rfl rfl (DT (by omega)) ?_; refine r_not hS hH.kp0 rfl rfl ?_; clear hS; intro a hS
          refine r_pickT hS hH.kp0 rfl (DT (by omega)) rfl rfl ?_; clear hS; intro a hS
          refine r_assign hS hH.kp0 rfl rfl ?_; clear hS; intro a hS
          refine Sq.nil ?_
          refine then_n ?_
          refine wp_ret ?_
          refine then_r ?_
          refine blk_r ?_
          refine then_r ?_
          refine leave (.inl rfl) hS rfl (Res.tmp rfl Res.nil) ⟨congrArg (fun z => Ending.returned (Value.bool z)) ?_, hH.mod⟩
          rw [show decide (0 < badN lst) = false from DF (by omega)]
          first | exact (DF (by unfold mayP; omega)).symm | exact (DT (by unfold mayP; omega)).symm | exact decide_eq_decide.2 (by unfold mayP; omega)
        · refine r_move hS hH.kp0 rfl rfl ?_; clear hS; intro a hS
          refine Sq.guardYes hS rfl rfl (DT (by omega)) ?_; refine r_fieldAddr hS hH.kp0 rfl Fp.fo26_7 rfl ?_; clear hS; intro a hS
          refine Sq.guardYes hS rfl rfl (DT (by omega)) ?_; refine r_load_sc hS hH (by repeat (first | exact Sub.nil | refine Sub.cons ?_ ?_ | exact In.here | refine In.there ?_)) rfl (by repeat (first | exact In.here | refine In.there ?_)) Fp.sc23 (by rfl) rfl ?_; clear hS; intro a hS
          refine Sq.guardYes hS rfl rfl (DT (by omega)) ?_; refine r_call (l := [.tmp 73, .func 43]) hS rfl rfl Fp.fn42 rfl ?_; refine Calls.mono (ContainsFunc_c q4 c4 lst hll _ (hlst.ext hH.mod)) ?_; rintro e w1 ⟨rfl, hE⟩; replace hH := hH.ext hE; refine ⟨_, rfl, hH.kp0, ?_⟩; clear hS; intro a hS
          refine Sq.guardYes hS rfl rfl (DT (by omega)) ?_; refine r_not hS hH.kp0 rfl rfl ?_; clear hS; intro a hS
          refine r_pickT hS hH.kp0 rfl (DT (by omega)) rfl rfl ?_; clear hS; intro a hS
          refine r_assign hS hH.kp0 rfl rfl ?_; clear hS; intro a hS
          refine Sq.nil ?_
          refine then_n ?_
          refine wp_ret ?_
          refine then_r ?_
          refine blk_r ?_
          refine then_r ?_
          refine leave (.inl rfl) hS rfl (Res.tmp rfl Res.nil) ⟨congrArg (fun z => Ending.returned (Value.bool z)) ?_, hH.mod⟩
          rw [show decide (0 < badN lst) = true from DT hbn]
          first | exact (DF (by unfold mayP; omega)).symm | exact (DT (by unfold mayP; omega)).symm | exact decide_eq_decide.2 (by unfold mayP; omega)

set_option maxRecDepth 100000 in
set_option maxHeartbeats 2000000 in
theorem right_5 (ve : Int) (q1 q2 q3 q4 : Option Addr) (c1 c2 c3 c4 : Nat) (dst src tok tag : List UInt8) (lst : List Int) (ln : Int) (ph : Bool) (htag : tag.length = 16) (n : Int) (w0 : World) : Calls Tryd.prog 25 #[.agg ([.int .i64 5, .int .i64 ve, .slice q1 dst.length c1, .slice q2 src.length c2, .slice q3 tok.length c3, .int .i64 ln, .bool ph, .slice q4 lst.length c4] ++ hcells tag : List Value).toArray, .int .i64 n] w0 fun e w' => e = .returned (.bool (decide (mayP 5 dst.length src.length tok.length ln n lst.length (badN lst)))) ∧ Ext w0 w' := by
  refine enter Tryd.func25 rfl rfl rfl ?_
  intro a hS
  have hH := Hp.start w0 (Nobody)
  obtain ⟨t0, t1, t2, t3, t4, t5, t6, t7, t8, t9, ta, tb, tc, td, te, tf, rfl⟩ := len16 htag
  refine c_seq ?_
  refine reg_plain w0 (Nobody) ?_
  refine r_box hS hH (by repeat (first | exact Sub.nil | refine Sub.cons ?_ ?_ | exact In.here | refine In.there ?_)) rfl rfl rfl ?_
  clear hS hH; intro a w b2 hb2 hwb2 hS hH
  refine r_assign hS hH.kp0 rfl rfl ?_; clear hS; intro a hS
  refine Sq.nil ?_
  refine then_n ?_
  refine c_seq ?_
  refine c_seq ?_
  refine reg_plain w0 (Nobody) ?_
  rcases (by omega : 20 < dst.length ∨ dst.length ≤ 20) with hd | hd
  · refine r_fieldAddr hS hH.kp0 rfl Fp.fo26_2 rfl ?_; clear hS; intro a hS
    refine r_load_sc hS hH (by repeat (first | exact Sub.nil | refine Sub.cons ?_ ?_ | exact In.here | refine In.there ?_)) rfl (by repeat (first | exact In.here | refine In.there ?_)) Fp.sc22 (by rfl) rfl ?_; clear hS; intro a hS
    refine r_lenSl hS hH.kp0 rfl Fp.isSlice22 rfl ?_; clear hS; intro a hS
    refine r_gtr hS hH.kp0 rfl rfl rfl ?_; clear hS; intro a hS
    refine r_move hS hH.kp0 rfl rfl ?_; clear hS; intro a hS
    refine Sq.guardNo hS rfl rfl (DT (by omega)) hH.kp0 rfl ?_; clear hS; intro a hS
    refine Sq.guardNo hS rfl rfl (DT (by omega)) hH.kp0 rfl ?_; clear hS; intro a hS
    refine Sq.guardNo hS rfl rfl (DT (by omega)) hH.kp0 rfl ?_; clear hS; intro a hS
    refine Sq.guardNo hS rfl rfl (DT (by omega)) hH.kp0 rfl ?_; clear hS; intro a hS
    refine Sq.guardOff hS rfl rfl hH.kp0 rfl ?_; clear hS; intro a hS
    refine Sq.guardOff hS rfl rfl hH.kp0 rfl ?_; clear hS; intro a hS
    refine Sq.guardOff hS rfl rfl hH.kp0 rfl ?_; clear hS; intro a hS
    refine Sq.guardOff hS rfl rfl hH.kp0 rfl ?_; clear hS; intro a hS
    refine Sq.guardNo hS rfl rfl (DT (by omega)) hH.kp0 rfl ?_; clear hS; intro a hS
    refine r_pickT hS hH.kp0 rfl (DT (by omega)) rfl rfl ?_; clear hS; intro a hS
    refine Sq.nil ?_
    refine then_n ?_
    refine c_condT hS rfl rfl ?_
    refine c_seq ?_
    refine reg_plain w0 (Nobody) ?_
    refine r_assign hS hH.kp0 rfl rfl ?_; clear hS; intro a hS
    refine Sq.nil ?_
    refine then_n ?_
    refine wp_ret ?_
    refine then_r ?_
    refine leave (.inl rfl) hS rfl (Res.tmp rfl Res.nil) ⟨congrArg (fun z => Ending.returned (Value.bool z)) ?_, hH.mod⟩
    first | exact (DF (by unfold mayP; omega)).symm | exact (DT (by unfold mayP; omega)).symm | exact decide_eq_decide.2 (by unfold mayP; omega)
  · refine r_fieldAddr hS hH.kp0 rfl Fp.fo26_2 rfl ?_; clear hS; intro a hS
    refine r_load_sc hS hH (by repeat (first | exact Sub.nil | refine Sub.cons ?_ ?_ | exact In.here | refine In.there ?_)) rfl (by repeat (first | exact In.here | refine In.there ?_)) Fp.sc22 (by rfl) rfl ?_; clear hS; intro a hS
    refine r_lenSl hS hH.kp0 rfl Fp.isSlice22 rfl ?_; clear hS; intro a hS
    refine r_gtr hS hH.kp0 rfl rfl rfl ?_; clear hS; intro a hS
    refine r_move hS hH.kp0 rfl rfl ?_; clear hS; intro a hS
    refine Sq.guardYes hS rfl rfl (DF (by omega)) ?_; refine r_fieldAddr hS hH.kp0 rfl Fp.fo26_0 rfl ?_; clear hS; intro a hS
    refine Sq.guardYes hS rfl rfl (DF (by omega)) ?_; refine r_load_sc hS hH (by repeat (first | exact Sub.nil | refine Sub.cons ?_ ?_ | exact In.here | refine In.there ?_)) rfl (by repeat (first | exact In.here | refine In.there ?_)) Fp.sc3 (by rfl) rfl ?_; clear hS; intro a hS
    refine Sq.guardYes hS rfl rfl (DF (by omega)) ?_; refine r_neq hS hH.kp0 rfl rfl rfl ?_; clear hS; intro a hS
    refine Sq.guardYes hS rfl rfl (DF (by omega)) ?_; refine r_move hS hH.kp0 rfl rfl ?_; clear hS; intro a hS
    refine Sq.guardNo hS rfl rfl rfl hH.kp0 rfl ?_; clear hS; intro a hS
    refine Sq.guardNo hS rfl rfl rfl hH.kp0 rfl ?_; clear hS; intro a hS
    refine Sq.guardNo hS rfl rfl rfl hH.kp0 rfl ?_; clear hS; intro a hS
    refine Sq.guardNo hS rfl rfl rfl hH.kp0 rfl ?_; clear hS; intro a hS
    refine Sq.guardYes hS rfl rfl (DF (by omega)) ?_; refine r_pickF hS hH.kp0 rfl rfl rfl rfl ?_; clear hS; intro a hS
    refine r_pickF hS hH.kp0 rfl (DF (by omega)) rfl rfl ?_; clear hS; intro a hS
    refine Sq.nil ?_
    refine then_n ?_
    refine c_condF hS rfl rfl ?_
    refine wp_skip ?_
    refine then_n ?_
    refine c_seq ?_
    refine reg_plain w0 (Nobody) ?_
    rcases (by omega : n < 1 ∨ (1 ≤ n ∧ 4 < n) ∨ (1 ≤ n ∧ n ≤ 4)) with hn | ⟨hn, hn4⟩ | ⟨hn, hn4⟩
    · refine r_move hS hH.kp0 rfl rfl ?_; clear hS; intro a hS
      refine r_geq hS hH.kp0 rfl rfl rfl ?_; clear hS; intro a hS
      refine r_move hS hH.kp0 rfl rfl ?_; clear hS; intro a hS
      refine Sq.guardNo hS rfl rfl (DF (by omega)) hH.kp0 rfl ?_; clear hS; intro a hS
      refine Sq.guardNo hS rfl rfl (DF (by omega)) hH.kp0 rfl ?_; clear hS; intro a hS
      refine r_pickF hS hH.kp0 rfl (DF (by omega)) rfl rfl ?_; clear hS; intro a hS
      refine r_assign hS hH.kp0 rfl rfl ?_; clear hS; intro a hS
      refine Sq.nil ?_
      refine then_n ?_
      refine c_seq ?_
      refine c_seq ?_
      refine reg_plain w0 (Nobody) ?_
      refine r_fieldAddr hS hH.kp0 rfl Fp.fo26_0 rfl ?_; clear hS; intro a hS
      refine r_load_sc hS hH (by repeat (first | exact Sub.nil | refine Sub.cons ?_ ?_ | exact In.here | refine In.there ?_)) rfl (by repeat (first | exact In.here | refine In.there ?_)) Fp.sc3 (by rfl) rfl ?_; clear hS; intro a hS
      refine Sq.nil ?_
      refine then_n ?_
      refine wp_block ?_
      refine c_seq ?_
      refine wp_block ?_
      refine c_seq ?_
      refine wp_block ?_
      refine c_seq ?_
      refine wp_block ?_
      refine c_seq ?_
      refine wp_block ?_
      refine c_seq ?_
      refine wp_block ?_
      refine c_seq ?_
      refine c_seq ?_
      refine c_seq ?_
      refine reg_plain w0 (Nobody) ?_
      refine r_eql hS hH.kp0 rfl rfl rfl ?_; clear hS; intro a hS
      refine r_assign hS hH.kp0 rfl rfl ?_; clear hS; intro a hS
      refine Sq.nil ?_
      refine then_n ?_
      refine c_condF hS rfl rfl ?_
      refine wp_skip ?_
      refine then_n ?_
      refine c_seq ?_
      refine c_seq ?_
      refine c_seq ?_
      refine reg_plain w0 (Nobody) ?_
      refine r_eql hS hH.kp0 rfl rfl rfl ?_; clear hS; intro a hS
      refine r_assign hS hH.kp0 rfl rfl ?_; clear hS; intro a hS
      refine Sq.nil ?_
      refine then_n ?_
      refine c_condF hS rfl rfl ?_
      refine reg_plain w0 (Nobody) ?_
      refine r_eql hS hH.kp0 rfl rfl rfl ?_; clear hS; intro a hS
      refine r_assign hS hH.kp0 rfl rfl ?_; clear hS; intro a hS
      refine Sq.nil ?_
      refine then_n ?_
      refine c_condF hS rfl rfl ?_
      refine wp_skip ?_
      refine then_n ?_
      refine c_seq ?_
      refine c_seq ?_
      refine reg_plain w0 (Nobody) ?_
      refine r_eql hS hH.kp0 rfl rfl rfl ?_; clear hS; intro a hS
      refine r_assign hS hH.kp0 rfl rfl ?_; clear hS; intro a hS
      refine Sq.nil ?_
      refine then_n ?_
      refine c_condT hS rfl rfl ?_
      refine wp_exit ?_
      refine then_e ?_
      refine then_e ?_
      refine blk_e rfl ?_
      refine then_e ?_
      refine blk_e rfl ?_
      refine then_e ?_
      refine blk_hit ?_
      refine then_n ?_
      refine c_seq ?_
      refine c_seq ?_
      refine reg_plain w0 (Nobody) ?_
      refine r_move hS hH.kp0 rfl rfl ?_; clear hS; intro a hS
      refine r_assign hS hH.kp0 rfl rfl ?_; clear hS; intro a hS
      refine Sq.nil ?_
      refine then_n ?_
      refine wp_ret ?_
      refine then_r ?_
      refine blk_r ?_
      refine then_r ?_
      refine blk_r ?_
      refine then_r ?_
      refine blk_r ?_
      refine then_r ?_
      refine leave (.inl rfl) hS rfl (Res.tmp rfl Res.nil) ⟨congrArg (fun z => Ending.returned (Value.bool z)) ?_, hH.mod⟩
      first | exact (DF (by unfold mayP; omega)).symm | exact (DT (by unfold mayP; omega)).symm | exact decide_eq_decide.2 (by unfold mayP; omega)
    · refine r_move hS hH.kp0 rfl rfl ?_; clear hS; intro a hS
      refine r_geq hS hH.kp0 rfl rfl rfl ?_; clear hS; intro a hS
      refine r_move hS hH.kp0 rfl rfl ?_; clear hS; intro a hS
      refine Sq.guardYes hS rfl rfl (DT (by omega)) ?_; refine r_move hS hH.kp0 rfl rfl ?_; clear hS; intro a hS
      refine Sq.guardYes hS rfl rfl (DT (by omega)) ?_; refine r_leq hS hH.kp0 rfl rfl rfl ?_; clear hS; intro a hS
      refine r_pickT hS hH.kp0 rfl (DT (by omega)) rfl rfl ?_; clear hS; intro a hS
      refine r_assign hS hH.kp0 rfl rfl ?_; clear hS; intro a hS
      refine Sq.nil ?_
      refine then_n ?_
      refine c_seq ?_
      refine c_seq ?_
      refine reg_plain w0 (Nobody) ?_
      refine r_fieldAddr hS hH.kp0 rfl Fp.fo26_0 rfl ?_; clear hS; intro a hS
      refine r_load_sc hS hH (by repeat (first | exact Sub.nil | refine Sub.cons ?_ ?_ | exact In.here | refine In.there ?_)) rfl (by repeat (first | exact In.here | refine In.there ?_)) Fp.sc3 (by rfl) rfl ?_; clear hS; intro a hS
      refine Sq.nil ?_
      refine then_n ?_
      refine wp_block ?_
      refine c_seq ?_
      refine wp_block ?_
      refine c_seq ?_
      refine wp_block ?_
      refine c_seq ?_
      refine wp_block ?_
      refine c_seq ?_
      refine wp_block ?_
      refine c_seq ?_
      refine wp_block ?_
      refine c_seq ?_
      refine c_seq ?_
      refine c_seq ?_
      refine reg_plain w0 (Nobody) ?_
      refine r_eql hS hH.kp0 rfl rfl rfl ?_; clear hS; intro a hS
      refine r_assign hS hH.kp0 rfl rfl ?_; clear hS; intro a hS
      refine Sq.nil ?_
      refine then_n ?_
      refine c_condF hS rfl rfl ?_
      refine wp_skip ?_
      refine then_n ?_
      refine c_seq ?_
      refine c_seq ?_
      refine c_seq ?_
      refine reg_plain w0 (Nobody) ?_
      refine r_eql hS hH.kp0 rfl rfl rfl ?_; clear hS; intro a hS
      refine r_assign hS hH.kp0 rfl rfl ?_; clear hS; intro a hS
      refine Sq.nil ?_
      refine then_n ?_
      refine c_condF hS rfl rfl ?_
      refine reg_plain w0 (Nobody) ?_
      refine r_eql hS hH.kp0 rfl rfl rfl ?_; clear hS; intro a hS
      refine r_assign hS hH.kp0 rfl rfl ?_; clear hS; intro a hS
      refine Sq.nil ?_
      refine then_n ?_
      refine c_condF hS rfl rfl ?_
      refine wp_skip ?_
      refine then_n ?_
      refine c_seq ?_
      refine c_seq ?_
      refine reg_plain w0 (Nobody) ?_
      refine r_eql hS hH.kp0 rfl rfl rfl ?_; clear hS; intro a hS
      refine r_assign hS hH.kp0 rfl rfl ?_; clear hS; intro a hS
      refine Sq.nil ?_
      refine then_n ?_
      refine c_condT hS rfl rfl ?_
      refine wp_exit ?_
      refine then_e ?_
      refine then_e ?_
      refine blk_e rfl ?_
      refine then_e ?_
      refine blk_e rfl ?_
      refine then_e ?_
      refine blk_hit ?_
      refine then_n ?_
      refine c_seq ?_
      refine c_seq ?_
      refine reg_plain w0 (Nobody) ?_
      refine r_move hS hH.kp0 rfl rfl ?_; clear hS; intro a hS
      refine r_assign hS hH.kp0 rfl rfl ?_; clear hS; intro a hS
      refine Sq.nil ?_
      refine then_n ?_
      refine wp_ret ?_
      refine then_r ?_
      refine blk_r ?_
      refine then_r ?_
      refine blk_r ?_
      refine then_r ?_
      refine blk_r ?_
      refine then_r ?_
      refine leave (.inl rfl) hS rfl (Res.tmp rfl Res.nil) ⟨congrArg (fun z => Ending.returned (Value.bool z)) ?_, hH.mod⟩
      first | exact (DF (by unfold mayP; omega)).symm | exact (DT (by unfold mayP; omega)).symm | exact decide_eq_decide.2 (by unfold mayP; omega)
    · refine r_move hS hH.kp0 rfl rfl ?_; clear hS; intro a hS
      refine r_geq hS hH.kp0 rfl rfl rfl ?_; clear hS; intro a hS
      refine r_move hS hH.kp0 rfl rfl ?_; clear hS; intro a hS
      refine Sq.guardYes hS rfl rfl (DT (by omega)) ?_; refine r_move hS hH.kp0 rfl rfl ?_; clear hS; intro a hS
      refine Sq.guardYes hS rfl rfl (DT (by omega)) ?_; refine r_leq hS hH.kp0 rfl rfl rfl ?_; clear hS; intro a hS
      refine r_pickT hS hH.kp0 rfl (DT (by omega)) rfl rfl ?_; clear hS; intro a hS
      refine r_assign hS hH.kp0 rfl rfl ?_; clear hS; intro a hS
      refine Sq.nil ?_
      refine then_n ?_
      refine c_seq ?_
      refine c_seq ?_
      refine reg_plain w0 (Nobody) ?_
      refine r_fieldAddr hS hH.kp0 rfl Fp.fo26_0 rfl ?_; clear hS; intro a hS
      refine r_load_sc hS hH (by repeat (first | exact Sub.nil | refine Sub.cons ?_ ?_ | exact In.here | refine In.there ?_)) rfl (by repeat (first | exact In.here | refine In.there ?_)) Fp.sc3 (by rfl) rfl ?_; clear hS; intro a hS
      refine Sq.nil ?_
      refine then_n ?_
      refine wp_block ?_
      refine c_seq ?_
      refine wp_block ?_
      refine c_seq ?_
      refine wp_block ?_
      refine c_seq ?_
      refine wp_block ?_
      refine c_seq ?_
      refine wp_block ?_
      refine c_seq ?_
      refine wp_block ?_
      refine c_seq ?_
      refine c_seq ?_
      refine c_seq ?_
      refine reg_plain w0 (Nobody) ?_
      refine r_eql hS hH.kp0 rfl rfl rfl ?_; clear hS; intro a hS
      refine r_assign hS hH.kp0 rfl rfl ?_; clear hS; intro a hS
      refine Sq.nil ?_
      refine then_n ?_
      refine c_condF hS rfl rfl ?_
      refine wp_skip ?_
      refine then_n ?_
      refine c_seq ?_
      refine c_seq ?_
      refine c_seq ?_
      refine reg_plain w0 (Nobody) ?_
      refine r_eql hS hH.kp0 rfl rfl rfl ?_; clear hS; intro a hS
      refine r_assign hS hH.kp0 rfl rfl ?_; clear hS; intro a hS
      refine Sq.nil ?_
      refine then_n ?_
      refine c_condF hS rfl rfl ?_
      refine reg_plain w0 (Nobody) ?_
      refine r_eql hS hH.kp0 rfl rfl rfl ?_; clear hS; intro a hS
      refine r_assign hS hH.kp0 rfl rfl ?_; clear hS; intro a hS
      refine Sq.nil ?_
      refine then_n ?_
      refine c_condF hS rfl rfl ?_
      refine wp_skip ?_
      refine then_n ?_
      refine c_seq ?_
      refine c_seq ?_
      refine reg_plain w0 (Nobody) ?_
      refine r_eql hS hH.kp0 rfl rfl rfl ?_; clear hS; intro a hS
      refine r_assign hS hH.kp0 rfl rfl ?_; clear hS; intro a hS
      refine Sq.nil ?_
      refine then_n ?_
      refine c_condT hS rfl rfl ?_
      refine wp_exit ?_
      refine then_e ?_
      refine then_e ?_
      refine blk_e rfl ?_
      refine then_e ?_
      refine blk_e rfl ?_
      refine then_e ?_
      refine blk_hit ?_
      refine then_n ?_
      refine c_seq ?_
      refine c_seq ?_
      refine reg_plain w0 (Nobody) ?_
      refine r_move hS hH.kp0 rfl rfl ?_; clear hS; intro a hS
      refine r_assign hS hH.kp0 rfl rfl ?_; clear hS; intro a hS
      refine Sq.nil ?_
      refine then_n ?_
      refine wp_ret ?_
      refine then_r ?_
      refine blk_r ?_
      refine then_r ?_
      refine blk_r ?_
      refine then_r ?_
      refine blk_r ?_
      refine then_r ?_
      refine leave (.inl rfl) hS rfl (Res.tmp rfl Res.nil) ⟨congrArg (fun z => Ending.returned (Value.bool z)) ?_, hH.mod⟩
      first | exact (DF (by unfold mayP; omega)).symm | exact (DT (by unfold mayP; omega)).symm | exact decide_eq_decide.2 (by unfold mayP; omega)

set_option maxRecDepth 100000 in
set_option maxHeartbeats 2000000 in
theorem right_x (kd ve : Int) (q1 q2 q3 q4 : Option Addr) (c1 c2 c3 c4 : Nat) (dst src tok tag : List UInt8) (lst : List Int) (ln : Int) (ph : Bool) (htag : tag.length = 16) (hk : kd < 0 ∨ 5 < kd) (n : Int) (w0 : World) : Calls Tryd.prog 25 #[.agg ([.int .i64 kd, .int .i64 ve, .slice q1 dst.length c1, .slice q2 src.length c2, .slice q3 tok.length c3, .int .i64 ln, .bool ph, .slice q4 lst.length c4] ++ hcells tag : List Value).toArray, .int .i64 n] w0 fun e w' => e = .returned (.bool (decide (mayP kd dst.length src.length tok.length ln n lst.length (badN lst)))) ∧ Ext w0 w' := by
  refine enter Tryd.func25 rfl rfl rfl ?_
  intro a hS
  have hH := Hp.start w0 (Nobody)
  obtain ⟨t0, t1, t2, t3, t4, t5, t6, t7, t8, t9, ta, tb, tc, td, te, tf, rfl⟩ := len16 htag
  refine c_seq ?_
  refine reg_plain w0 (Nobody) ?_
  refine r_box hS hH (by repeat (first | exact Sub.nil | refine Sub.cons ?_ ?_ | exact In.here | refine In.there ?_)) rfl rfl rfl ?_
  clear hS hH; intro a w b2 hb2 hwb2 hS hH
  refine r_assign hS hH.kp0 rfl rfl ?_; clear hS; intro a hS
  refine Sq.nil ?_
  refine then_n ?_
  refine c_seq ?_
  refine c_seq ?_
  refine reg_plain w0 (Nobody) ?_
  rcases (by omega : 20 < dst.length ∨ (dst.length ≤ 20 ∧ 20 < src.length) ∨ (dst.length ≤ 20 ∧ src.length ≤ 20)) with hd | ⟨hd, hs⟩ | ⟨hd, hs⟩
  · refine r_fieldAddr hS hH.kp0 rfl Fp.fo26_2 rfl ?_; clear hS; intro a hS
    refine r_load_sc hS hH (by repeat (first | exact Sub.nil | refine Sub.cons ?_ ?_ | exact In.here | refine In.there ?_)) rfl (by repeat (first | exact In.here | refine In.there ?_)) Fp.sc22 (by rfl) rfl ?_; clear hS; intro a hS
    refine r_lenSl hS hH.kp0 rfl Fp.isSlice22 rfl ?_; clear hS; intro a hS
    refine r_gtr hS hH.kp0 rfl rfl rfl ?_; clear hS; intro a hS
    refine r_move hS hH.kp0 rfl rfl ?_; clear hS; intro a hS
    refine Sq.guardNo hS rfl rfl (DT (by omega)) hH.kp0 rfl ?_; clear hS; intro a hS
    refine Sq.guardNo hS rfl rfl (DT (by omega)) hH.kp0 rfl ?_; clear hS; intro a hS
    refine Sq.guardNo hS rfl rfl (DT (by omega)) hH.kp0 rfl ?_; clear hS; intro a hS
    refine Sq.guardNo hS rfl rfl (DT (by omega)) hH.kp0 rfl ?_; clear hS; intro a hS
    refine Sq.guardOff hS rfl rfl hH.kp0 rfl ?_; clear hS; intro a hS
    refine Sq.guardOff hS rfl rfl hH.kp0 rfl ?_; clear hS; intro a hS
    refine Sq.guardOff hS rfl rfl hH.kp0 rfl ?_; clear hS; intro a hS
    refine Sq.guardOff hS rfl rfl hH.kp0 rfl ?_; clear hS; intro a hS
    refine Sq.guardNo hS rfl rfl (DT (by omega)) hH.kp0 rfl ?_; clear hS; intro a hS
    refine r_pickT hS hH.kp0 rfl (DT (by omega)) rfl rfl ?_; clear hS; intro a hS
    refine Sq.nil ?_
    refine then_n ?_
    refine c_condT hS rfl rfl ?_
    refine c_seq ?_
    refine reg_plain w0 (Nobody) ?_
    refine r_assign hS hH.kp0 rfl rfl ?_; clear hS; intro a hS
    refine Sq.nil ?_
    refine then_n ?_
    refine wp_ret ?_
    refine then_r ?_
    refine leave (.inl rfl) hS rfl (Res.tmp rfl Res.nil) ⟨congrArg (fun z => Ending.returned (Value.bool z)) ?_, hH.mod⟩
    first | exact (DF (by unfold mayP; omega)).symm | exact (DT (by unfold mayP; omega)).symm | exact decide_eq_decide.2 (by unfold mayP; omega)
  · refine r_fieldAddr hS hH.kp0 rfl Fp.fo26_2 rfl ?_; clear hS; intro a hS
    refine r_load_sc hS hH (by repeat (first | exact Sub.nil | refine Sub.cons ?_ ?_ | exact In.here | refine In.there ?_)) rfl (by repeat (first | exact In.here | refine In.there ?_)) Fp.sc22 (by rfl) rfl ?_; clear hS; intro a hS
    refine r_lenSl hS hH.kp0 rfl Fp.isSlice22 rfl ?_; clear hS; intro a hS
    refine r_gtr hS hH.kp0 rfl rfl rfl ?_; clear hS; intro a hS
    refine r_move hS hH.kp0 rfl rfl ?_; clear hS; intro a hS
    refine Sq.guardYes hS rfl rfl (DF (by omega)) ?_; refine r_fieldAddr hS hH.kp0 rfl Fp.fo26_0 rfl ?_; clear hS; intro a hS
    refine Sq.guardYes hS rfl rfl (DF (by omega)) ?_; refine r_load_sc hS hH (by repeat (first | exact Sub.nil | refine Sub.cons ?_ ?_ | exact In.here | refine In.there ?_)) rfl (by repeat (first | exact In.here | refine In.there ?_)) Fp.sc3 (by rfl) rfl ?_; clear hS; intro a hS
    refine Sq.guardYes hS rfl rfl (DF (by omega)) ?_; refine r_neq hS hH.kp0 rfl rfl rfl ?_; clear hS; intro a hS
    refine Sq.guardYes hS rfl rfl (DF (by omega)) ?_; refine r_move hS hH.kp0 rfl rfl ?_; clear hS; intro a hS
    refine Sq.guardYes hS rfl rfl (bne_iff_ne.2 (by omega)) ?_; refine r_fieldAddr hS hH.kp0 rfl Fp.fo26_3 rfl ?_; clear hS; intro a hS
    refine Sq.guardYes hS rfl rfl (bne_iff_ne.2 (by omega)) ?_; refine r_load_sc hS hH (by repeat (first | exact Sub.nil | refine Sub.cons ?_ ?_ | exact In.here | refine In.there ?_)) rfl (by repeat (first | exact In.here | refine In.there ?_)) Fp.sc22 (by rfl) rfl ?_; clear hS; intro a hS
    refine Sq.guardYes hS rfl rfl (bne_iff_ne.2 (by omega)) ?_; refine r_lenSl hS hH.kp0 rfl Fp.isSlice22 rfl ?_; clear hS; intro a hS
    refine Sq.guardYes hS rfl rfl (bne_iff_ne.2 (by omega)) ?_; refine r_gtr hS hH.kp0 rfl rfl rfl ?_; clear hS; intro a hS
    refine Sq.guardYes hS rfl rfl (DF (by omega)) ?_; refine r_pickT hS hH.kp0 rfl (bne_iff_ne.2 (by omega)) rfl rfl ?_; clear hS; intro a hS
    refine r_pickF hS hH.kp0 rfl (DF (by omega)) rfl rfl ?_; clear hS; intro a hS
    refine Sq.nil ?_
    refine then_n ?_
    refine c_condT hS rfl (DT (by omega)) ?_
    refine c_seq ?_
    refine reg_plain w0 (Nobody) ?_
    refine r_assign hS hH.kp0 rfl rfl ?_; clear hS; intro a hS
    refine Sq.nil ?_
    refine then_n ?_
    refine wp_ret ?_
    refine then_r ?_
    refine leave (.inl rfl) hS rfl (Res.tmp rfl Res.nil) ⟨congrArg (fun z => Ending.returned (Value.bool z)) ?_, hH.mod⟩
    first | exact (DF (by unfold mayP; omega)).symm | exact (DT (by unfold mayP; omega)).symm | exact decide_eq_decide.2 (by unfold mayP; omega)
  · refine r_fieldAddr hS hH.kp0 rfl Fp.fo26_2 rfl ?_; clear hS; intro a hS
    refine r_load_sc hS hH (by repeat (first | exact Sub.nil | refine Sub.cons ?_ ?_ | exact In.here | refine In.there ?_)) rfl (by repeat (first | exact In.here | refine In.there ?_)) Fp.sc22 (by rfl) rfl ?_; clear hS; intro a hS
    refine r_lenSl hS hH.kp0 rfl Fp.isSlice22 rfl ?_; clear hS; intro a hS
    refine r_gtr hS hH.kp0 rfl rfl rfl ?_; clear hS; intro a hS
    refine r_move hS hH.kp0 rfl rfl ?_; clear hS; intro a hS
    refine Sq.guardYes hS rfl rfl (DF (by omega)) ?_; refine r_fieldAddr hS hH.kp0 rfl Fp.fo26_0 rfl ?_; clear hS; intro a hS
    refine Sq.guardYes hS rfl rfl (DF (by omega)) ?_; refine r_load_sc hS hH (by repeat (first | exact Sub.nil | refine Sub.cons ?_ ?_ | exact In.here | refine In.there ?_)) rfl (by repeat (first | exact In.here | refine In.there ?_)) Fp.sc3 (by rfl) rfl ?_; clear hS; intro a hS
    refine Sq.guardYes hS rfl rfl (DF (by omega)) ?_; refine r_neq hS hH.kp0 rfl rfl rfl ?_; clear hS; intro a hS
    refine Sq.guardYes hS rfl rfl (DF (by omega)) ?_; refine r_move hS hH.kp0 rfl rfl ?_; clear hS; intro a hS
    refine Sq.guardYes hS rfl rfl (bne_iff_ne.2 (by omega)) ?_; refine r_fieldAddr hS hH.kp0 rfl Fp.fo26_3 rfl ?_; clear hS; intro a hS
    refine Sq.guardYes hS rfl rfl (bne_iff_ne.2 (by omega)) ?_; refine r_load_sc hS hH (by repeat (first | exact Sub.nil | refine Sub.cons ?_ ?_ | exact In.here | refine In.there ?_)) rfl (by repeat (first | exact In.here | refine In.there ?_)) Fp.sc22 (by rfl) rfl ?_; clear hS; intro a hS
    refine Sq.guardYes hS rfl rfl (bne_iff_ne.2 (by omega)) ?_; refine r_lenSl hS hH.kp0 rfl Fp.isSlice22 rfl ?_; clear hS; intro a hS
    refine Sq.guardYes hS rfl rfl (bne_iff_ne.2 (by omega)) ?_; refine r_gtr hS hH.kp0 rfl rfl rfl ?_; clear hS; intro a hS
    refine Sq.guardYes hS rfl rfl (DF (by omega)) ?_; refine r_pickT hS hH.kp0 rfl (bne_iff_ne.2 (by omega)) rfl rfl ?_; clear hS; intro a hS
    refine r_pickF hS hH.kp0 rfl (DF (by omega)) rfl rfl ?_; clear hS; intro a hS
    refine Sq.nil ?_
    refine then_n ?_
    refine c_condF hS rfl (DF (by omega)) ?_
    refine wp_skip ?_
    refine then_n ?_
    refine c_seq ?_
    refine reg_plain w0 (Nobody) ?_
    rcases (by omega : n < 1 ∨ (1 ≤ n ∧ 4 < n) ∨ (1 ≤ n ∧ n ≤ 4)) with hn | ⟨hn, hn4⟩ | ⟨hn, hn4⟩
    · refine r_move hS hH.kp0 rfl rfl ?_; clear hS; intro a hS
      refine r_geq hS hH.kp0 rfl rfl rfl ?_; clear hS; intro a hS
      refine r_move hS hH.kp0 rfl rfl ?_; clear hS; intro a hS
      refine Sq.guardNo hS rfl rfl (DF (by omega)) hH.kp0 rfl ?_; clear hS; intro a hS
      refine Sq.guardNo hS rfl rfl (DF (by omega)) hH.kp0 rfl ?_; clear hS; intro a hS
      refine r_pickF hS hH.kp0 rfl (DF (by omega)) rfl rfl ?_; clear hS; intro a hS
      refine r_assign hS hH.kp0 rfl rfl ?_; clear hS; intro a hS
      refine Sq.nil ?_
      refine then_n ?_
      refine c_seq ?_
      refine c_seq ?_
      refine reg_plain w0 (Nobody) ?_
      refine r_fieldAddr hS hH.kp0 rfl Fp.fo26_0 rfl ?_; clear hS; intro a hS
      refine r_load_sc hS hH (by repeat (first | exact Sub.nil | refine Sub.cons ?_ ?_ | exact In.here | refine In.there ?_)) rfl (by repeat (first | exact In.here | refine In.there ?_)) Fp.sc3 (by rfl) rfl ?_; clear hS; intro a hS
      refine Sq.nil ?_
      refine then_n ?_
      refine wp_block ?_
      refine c_seq ?_
      refine wp_block ?_
      refine c_seq ?_
      refine wp_block ?_
      refine c_seq ?_
      refine wp_block ?_
      refine c_seq ?_
      refine wp_block ?_
      refine c_seq ?_
      refine wp_block ?_
      refine c_seq ?_
      refine c_seq ?_
      refine c_seq ?_
      refine reg_plain w0 (Nobody) ?_
      refine r_eql hS hH.kp0 rfl rfl rfl ?_; clear hS; intro a hS
      refine r_assign hS hH.kp0 rfl rfl ?_; clear hS; intro a hS
      refine Sq.nil ?_
      refine then_n ?_
      refine c_condF hS rfl (DF (by omega)) ?_
      refine wp_skip ?_
      refine then_n ?_
      refine c_seq ?_
      refine c_seq ?_
      refine c_seq ?_
      refine reg_plain w0 (Nobody) ?_
      refine r_eql hS hH.kp0 rfl rfl rfl ?_; clear hS; intro a hS
      refine r_assign hS hH.kp0 rfl rfl ?_; clear hS; intro a hS
      refine Sq.nil ?_
      refine then_n ?_
      refine c_condF hS rfl (DF (by omega)) ?_
      refine reg_plain w0 (Nobody) ?_
      refine r_eql hS hH.kp0 rfl rfl rfl ?_; clear hS; intro a hS
      refine r_assign hS hH.kp0 rfl rfl ?_; clear hS; intro a hS
      refine Sq.nil ?_
      refine then_n ?_
      refine c_condF hS rfl (DF (by omega)) ?_
      refine wp_skip ?_
      refine then_n ?_
      refine c_seq ?_
      refine c_seq ?_
      refine reg_plain w0 (Nobody) ?_
      refine r_eql hS hH.kp0 rfl rfl rfl ?_; clear hS; intro a hS
      refine r_assign hS hH.kp0 rfl rfl ?_; clear hS; intro a hS
      refine Sq.nil ?_
      refine then_n ?_
      refine c_condF hS rfl (DF (by omega)) ?_
      refine wp_skip ?_
      refine then_n ?_
      refine c_seq ?_
      refine c_seq ?_
      refine reg_plain w0 (Nobody) ?_
      refine r_eql hS hH.kp0 rfl rfl rfl ?_; clear hS; intro a hS
      refine r_assign hS hH.kp0 rfl rfl ?_; clear hS; intro a hS
      refine Sq.nil ?_
      refine then_n ?_
      refine c_condF hS rfl (DF (by omega)) ?_
      refine wp_skip ?_
      refine then_n ?_
      refine c_seq ?_
      refine reg_plain w0 (Nobody) ?_
      refine r_eql hS hH.kp0 rfl rfl rfl ?_; clear hS; intro a hS
      refine r_assign hS hH.kp0 rfl rfl ?_; clear hS; intro a hS
      refine Sq.nil ?_
      refine then_n ?_
      refine c_condF hS rfl (DF (by omega)) ?_
      refine wp_skip ?_
      refine then_n ?_
      refine wp_exit ?_
      refine blk_e rfl ?_
      refine then_e ?_
      refine blk_e rfl ?_
      refine then_e ?_
      refine blk_e rfl ?_
      refine then_e ?_
      refine blk_e rfl ?_
      refine then_e ?_
      refine blk_e rfl ?_
      refine then_e ?_
      refine blk_hit ?_
      refine then_n ?_
      refine c_seq ?_
      refine reg_plain w0 (Nobody) ?_
      refine r_assign hS hH.kp0 rfl rfl ?_; clear hS; intro a hS
      refine Sq.nil ?_
      refine then_n ?_
      refine wp_ret ?_
      refine leave (.inl rfl) hS rfl (Res.tmp rfl Res.nil) ⟨congrArg (fun z => Ending.returned (Value.bool z)) ?_, hH.mod⟩
      first | exact (DF (by unfold mayP; omega)).symm | exact (DT (by unfold mayP; omega)).symm | exact decide_eq_decide.2 (by unfold mayP; omega)
    · refine r_move hS hH.kp0 rfl rfl ?_; clear hS; intro a hS
      refine r_geq hS hH.kp0 rfl rfl rfl ?_; clear hS; intro a hS
      refine r_move hS hH.kp0 rfl rfl ?_; clear hS; intro a hS
      refine Sq.guardYes hS rfl rfl (DT (by omega)) ?_; refine r_move hS hH.kp0 rfl rfl ?_; clear hS; intro a hS
      refine Sq.guardYes hS rfl rfl (DT (by omega)) ?_; refine r_leq hS hH.kp0 rfl rfl rfl ?_; clear hS; intro a hS
      refine r_pickT hS hH.kp0 rfl (DT (by omega)) rfl rfl ?_; clear hS; intro a hS
      refine r_assign hS hH.kp0 rfl rfl ?_; clear hS; intro a hS
      refine Sq.nil ?_
      refine then_n ?_
      refine c_seq ?_
      refine c_seq ?_
      refine reg_plain w0 (Nobody) ?_
      refine r_fieldAddr hS hH.kp0 rfl Fp.fo26_0 rfl ?_; clear hS; intro a hS
      refine r_load_sc hS hH (by repeat (first | exact Sub.nil | refine Sub.cons ?_ ?_ | exact In.here | refine In.there ?_)) rfl (by repeat (first | exact In.here | refine In.there ?_)) Fp.sc3 (by rfl) rfl ?_; clear hS; intro a hS
      refine Sq.nil ?_
      refine then_n ?_
      refine wp_block ?_
      refine c_seq ?_
      refine wp_block ?_
      refine c_seq ?_
      refine wp_block ?_
      refine c_seq ?_
      refine wp_block ?_
      refine c_seq ?_
      refine wp_block ?_
      refine c_seq ?_
      refine wp_block ?_
      refine c_seq ?_
      refine c_seq ?_
      refine c_seq ?_
      refine reg_plain w0 (Nobody) ?_
      refine r_eql hS hH.kp0 rfl rfl rfl ?_; clear hS; intro a hS
      refine r_assign hS hH.kp0 rfl rfl ?_; clear hS; intro a hS
      refine Sq.nil ?_
      refine then_n ?_
      refine c_condF hS rfl (DF (by omega)) ?_
      refine wp_skip ?_
      refine then_n ?_
      refine c_seq ?_
      refine c_seq ?_
      refine c_seq ?_
      refine reg_plain w0 (Nobody) ?_
      refine r_eql hS hH.kp0 rfl rfl rfl ?_; clear hS; intro a hS
      refine r_assign hS hH.kp0 rfl rfl ?_; clear hS; intro a hS
      refine Sq.nil ?_
      refine then_n ?_
      refine c_condF hS rfl (DF (by omega)) ?_
      refine reg_plain w0 (Nobody) ?_
      refine r_eql hS hH.kp0 rfl rfl rfl ?_; clear hS; intro a hS
      refine r_assign hS hH.kp0 rfl rfl ?_; clear hS; intro a hS
      refine Sq.nil ?_
      refine then_n ?_
      refine c_condF hS rfl (DF (by omega)) ?_
      refine wp_skip ?_
      refine then_n ?_
      refine c_seq ?_
      refine c_seq ?_
      refine reg_plain w0 (Nobody) ?_
      refine r_eql hS hH.kp0 rfl rfl rfl ?_; clear hS; intro a hS
      refine r_assign hS hH.kp0 rfl rfl ?_; clear hS; intro a hS
      refine Sq.nil ?_
      refine then_n ?_
      refine c_condF hS rfl (DF (by omega)) ?_
      refine wp_skip ?_
      refine then_n ?_
      refine c_seq ?_
      refine c_seq ?_
      refine reg_plain w0 (Nobody) ?_
      refine r_eql hS hH.kp0 rfl rfl rfl ?_; clear hS; intro a hS
      refine r_assign hS hH.kp0 rfl rfl ?_; clear hS; intro a hS
      refine Sq.nil ?_
      refine then_n ?_
      refine c_condF hS rfl (DF (by omega)) ?_
      refine wp_skip ?_
      refine then_n ?_
      refine c_seq ?_
      refine reg_plain w0 (Nobody) ?_
      refine r_eql hS hH.kp0 rfl rfl rfl ?_; clear hS; intro a hS
      refine r_assign hS hH.kp0 rfl rfl ?_; clear hS; intro a hS
      refine Sq.nil ?_
      refine then_n ?_
      refine c_condF hS rfl (DF (by omega)) ?_
      refine wp_skip ?_
      refine then_n ?_
      refine wp_exit ?_
      refine blk_e rfl ?_
      refine then_e ?_
      refine blk_e rfl ?_
      refine then_e ?_
      refine blk_e rfl ?_
      refine then_e ?_
      refine blk_e rfl ?_
      refine then_e ?_
      refine blk_e rfl ?_
      refine then_e ?_
      refine blk_hit ?_
      refine then_n ?_
      refine c_seq ?_
      refine reg_plain w0 (Nobody) ?_
      refine r_assign hS hH.kp0 rfl rfl ?_; clear hS; intro a hS
      refine Sq.nil ?_
      refine then_n ?_
      refine wp_ret ?_
      refine leave (.inl rfl) hS rfl (Res.tmp rfl Res.nil) ⟨congrArg (fun z => Ending.returned (Value.bool z)) ?_, hH.mod⟩
      first | exact (DF (by unfold mayP; omega)).symm | exact (DT (by unfold mayP; omega)).symm | exact decide_eq_decide.2 (by unfold mayP; omega)
    · refine r_move hS hH.kp0 rfl rfl ?_; clear hS; intro a hS
      refine r_geq hS hH.kp0 rfl rfl rfl ?_; clear hS; intro a hS
      refine r_move hS hH.kp0 rfl rfl ?_; clear hS; intro a hS
      refine Sq.guardYes hS rfl rfl (DT (by omega)) ?_; refine r_move hS hH.kp0 rfl rfl ?_; clear hS; intro a hS
      refine Sq.guardYes hS rfl rfl (DT (by omega)) ?_; refine r_leq hS hH.kp0 rfl rfl rfl ?_; clear hS; intro a hS
      refine r_pickT hS hH.kp0 rfl (DT (by omega)) rfl rfl ?_; clear hS; intro a hS
      refine r_assign hS hH.kp0 rfl rfl ?_; clear hS; intro a hS
      refine Sq.nil ?_
      refine then_n ?_
      refine c_seq ?_
      refine c_seq ?_
      refine reg_plain w0 (Nobody) ?_
      refine r_fieldAddr hS hH.kp0 rfl Fp.fo26_0 rfl ?_; clear hS; intro a hS
      refine r_load_sc hS hH (by repeat (first | exact Sub.nil | refine Sub.cons ?_ ?_ | exact In.here | refine In.there ?_)) rfl (by repeat (first | exact In.here | refine In.there ?_)) Fp.sc3 (by rfl) rfl ?_; clear hS; intro a hS
      refine Sq.nil ?_
      refine then_n ?_
      refine wp_block ?_
      refine c_seq ?_
      refine wp_block ?_
      refine c_seq ?_
      refine wp_block ?_
      refine c_seq ?_
      refine wp_block ?_
      refine c_seq ?_
      refine wp_block ?_
      refine c_seq ?_
      refine wp_block ?_
      refine c_seq ?_
      refine c_seq ?_
      refine c_seq ?_
      refine reg_plain w0 (Nobody) ?_
      refine r_eql hS hH.kp0 rfl rfl rfl ?_; clear hS; intro a hS
      refine r_assign hS hH.kp0 rfl rfl ?_; clear hS; intro a hS
      refine Sq.nil ?_
      refine then_n ?_
      refine c_condF hS rfl (DF (by omega)) ?_
      refine wp_skip ?_
      refine then_n ?_
      refine c_seq ?_
      refine c_seq ?_
      refine c_seq ?_
      refine reg_plain w0 (Nobody) ?_
      refine r_eql hS hH.kp0 rfl rfl rfl ?_; clear hS; intro a hS
      refine r_assign hS hH.kp0 rfl rfl ?_; clear hS; intro a hS
      refine Sq.nil ?_
      refine then_n ?_
      refine c_condF hS rfl (DF (by omega)) ?_
      refine reg_plain w0 (Nobody) ?_
      refine r_eql hS hH.kp0 rfl rfl rfl ?_; clear hS; intro a hS
      refine r_assign hS hH.kp0 rfl rfl ?_; clear hS; intro a hS
      refine Sq.nil ?_
      refine then_n ?_
      refine c_condF hS rfl (DF (by omega)) ?_
      refine wp_skip ?_
      refine then_n ?_
      refine c_seq ?_
      refine c_seq ?_
      refine reg_plain w0 (Nobody) ?_
      refine r_eql hS hH.kp0 rfl rfl rfl ?_; clear hS; intro a hS
      refine r_assign hS hH.kp0 rfl rfl ?_; clear hS; intro a hS
      refine Sq.nil ?_
      refine then_n ?_
      refine c_condF hS rfl (DF (by omega)) ?_
      refine wp_skip ?_
      refine then_n ?_
      refine c_seq ?_
      refine c_seq ?_
      refine reg_plain w0 (Nobody) ?_
      refine r_eql hS hH.kp0 rfl rfl rfl ?_; clear hS; intro a hS
      refine r_assign hS hH.kp0 rfl rfl ?_; clear hS; intro a hS
      refine Sq.nil ?_
      refine then_n ?_
      refine c_condF hS rfl (DF (by omega)) ?_
      refine wp_skip ?_
      refine then_n ?_
      refine c_seq ?_
      refine reg_plain w0 (Nobody) ?_
      refine r_eql hS hH.kp0 rfl rfl rfl ?_; clear hS; intro a hS
      refine r_assign hS hH.kp0 rfl rfl ?_; clear hS; intro a hS
      refine Sq.nil ?_
      refine then_n ?_
      refine c_condF hS rfl (DF (by omega)) ?_
      refine wp_skip ?_
      refine then_n ?_
      refine wp_exit ?_
      refine blk_e rfl ?_
      refine then_e ?_
      refine blk_e rfl ?_
      refine then_e ?_
      refine blk_e rfl ?_
      refine then_e ?_
      refine blk_e rfl ?_
      refine then_e ?_
      refine blk_e rfl ?_
      refine then_e ?_
      refine blk_hit ?_
      refine then_n ?_
      refine c_seq ?_
      refine reg_plain w0 (Nobody) ?_
      refine r_assign hS hH.kp0 rfl rfl ?_; clear hS; intro a hS
      refine Sq.nil ?_
      refine then_n ?_
      refine wp_ret ?_
      refine leave (.inl rfl) hS rfl (Res.tmp rfl Res.nil) ⟨congrArg (fun z => Ending.returned (Value.bool z)) ?_, hH.mod⟩
      first | exact (DF (by unfold mayP; omega)).symm | exact (DT (by unfold mayP; omega)).symm | exact decide_eq_decide.2 (by unfold mayP; omega)


theorem right_c (kd ve : Int) (q1 q2 q3 q4 : Option Addr) (c1 c2 c3 c4 : Nat) (dst src tok tag : List UInt8) (lst : List Int) (ln : Int) (ph : Bool) (htag : tag.length = 16) (n : Int) (w0 : World) (hll : lst.length ≤ 1099511627776) (hlst : IsA w0 q4 c4 lst) : Calls Tryd.prog 25 #[.agg ([.int .i64 kd, .int .i64 ve, .slice q1 dst.length c1, .slice q2 src.length c2, .slice q3 tok.length c3, .int .i64 ln, .bool ph, .slice q4 lst.length c4] ++ hcells tag : List Value).toArray, .int .i64 n] w0 fun e w' => e = .returned (.bool (decide (mayP kd dst.length src.length tok.length ln n lst.length (badN lst)))) ∧ Ext w0 w' := by
  by_cases hx : kd < 0 ∨ 5 < kd
  · exact right_x kd ve q1 q2 q3 q4 c1 c2 c3 c4 dst src tok tag lst ln ph htag hx n w0
  · rcases (by omega : kd = 0 ∨ kd = 1 ∨ kd = 2 ∨ kd = 3 ∨ kd = 4 ∨ kd = 5) with rfl | rfl | rfl | rfl | rfl | rfl
    · exact right_0 ve q1 q2 q3 q4 c1 c2 c3 c4 dst src tok tag lst ln ph htag n w0
    · exact right_1 ve q1 q2 q3 q4 c1 c2 c3 c4 dst src tok tag lst ln ph htag n w0
    · exact right_2 ve q1 q2 q3 q4 c1 c2 c3 c4 dst src tok tag lst ln ph htag n w0
    · exact right_3 ve q1 q2 q3 q4 c1 c2 c3 c4 dst src tok tag lst ln ph htag n w0
    · exact right_4 ve q1 q2 q3 q4 c1 c2 c3 c4 dst src tok tag lst ln ph htag n w0 hll hlst
    · exact right_5 ve q1 q2 q3 q4 c1 c2 c3 c4 dst src tok tag lst ln ph htag n w0

end Go.Proofs.YtcenionnedgadaaDoor
