/- What is sealed is opened by its key, number and further bytes alone; who does not know the key does not come to know it (for inputs up to the size bound). Part Vault1: walks and lemmas of the proof. -/
import Derived.Test.YtcjmehononbadaaDoorChecked
import Derived.Test.YtcjmehononbadaaDoorSymVault
namespace Go.Proofs.YtcjmehononbadaaDoor
open Go.Sym
theorem Fc.laid : laidOutB Tryd.prog = true := by kernel_rfl
theorem Fc.mixed : Tryd.prog.follows .mixedOrders = true := by kernel_rfl
theorem Fc.arrH : ByteArr Tryd.prog 26 16 := byteArr_mk Fc.laid (of_decide_eq_true (by kernel_rfl)) (by kernel_rfl) (by kernel_rfl) (by kernel_rfl) (by kernel_rfl) (by kernel_rfl)
theorem Fc.tm : TmTy Tryd.prog 64 := tmTy_mk Fc.laid (of_decide_eq_true (by kernel_rfl)) (by kernel_rfl) (by kernel_rfl) (by kernel_rfl) (by kernel_rfl) (by kernel_rfl)
theorem Fc.mtF : MapTy Tryd.prog 38 64 3 (.int .i64 0) := mapTy_mk (by kernel_rfl) (by kernel_rfl) Fc.tm.law
theorem Fc.mtN : MapTy Tryd.prog 39 26 3 (.int .i64 0) := mapTy_mk (by kernel_rfl) (by kernel_rfl) Fc.arrH.law
abbrev VI (w : World) (b : Nat) (V : VB) (ts : List Tm) : Prop := VIn Tryd.prog 41 64 26 w b V ts
theorem Fc.ag26 : agB Tryd.prog 26 = some 16 := by kernel_rfl
theorem Fc.ar26 : arrB Tryd.prog 26 = some (16, 1) := by kernel_rfl
theorem Fc.fn59 : isFn Tryd.prog 59 = true := by kernel_rfl
theorem Fc.sz26 : sizeB Tryd.prog 26 16 = true := by kernel_rfl
theorem Fc.sz5 : sizeB Tryd.prog 5 1 = true := by kernel_rfl
theorem Fc.ui5 : Tryd.prog.underlying 5 = some (.int .u8) := by kernel_rfl
theorem Fc.ui81 : Tryd.prog.underlying 81 = some (.int .u64) := by kernel_rfl
theorem Fc.us3 : (Tryd.prog.underlying 3).isSome = true := by kernel_rfl
theorem Fc.us81 : (Tryd.prog.underlying 81).isSome = true := by kernel_rfl
theorem Fc.zc26 : zcB Tryd.prog 26 = some [.int .u8 0, .int .u8 0, .int .u8 0, .int .u8 0, .int .u8 0, .int .u8 0, .int .u8 0, .int .u8 0, .int .u8 0, .int .u8 0, .int .u8 0, .int .u8 0, .int .u8 0, .int .u8 0, .int .u8 0, .int .u8 0] := by kernel_rfl
set_option maxRecDepth 100000 in
set_option maxHeartbeats 400000 in
theorem mix_c (x : Nat) (w0 : World) : Calls Tryd.prog 59 #[.int .u64 (x : Int)] w0 fun e w' => e = .returned (.int .u64 (mixN x : Int)) ∧ Ext w0 w' := by
  refine enter Tryd.func59 rfl rfl rfl ?_
  intro a hS
  have hH := Hp.start w0 (Nobody)
  refine c_seq ?_
  refine reg_plain w0 (Nobody) ?_
  refine r_assign hS hH.kp0 rfl rfl ?_; clear hS; intro a hS
  refine Sq.nil ?_
  refine then_n ?_
  refine c_seq ?_
  refine reg_plain w0 (Nobody) ?_
  refine r_move hS hH.kp0 rfl rfl ?_; clear hS; intro a hS
  refine r_addN (m := x) (m' := 1) ((x + 1) % 18446744073709551616) hS hH.kp0 rfl rfl rfl rfl ?_; clear hS; intro a hS
  obtain ⟨z1, hz1⟩ : ∃ z, ((x + 1) % 18446744073709551616 * 11400714819323198485) % 18446744073709551616 = z := ⟨_, rfl⟩
  refine r_mulN (m := (x + 1) % 18446744073709551616) (m' := 11400714819323198485) z1 hS hH.kp0 rfl rfl rfl hz1 ?_; clear hS; intro a hS
  refine r_assign hS hH.kp0 rfl rfl ?_; clear hS; intro a hS
  refine Sq.nil ?_
  refine then_n ?_
  refine c_seq ?_
  refine reg_plain w0 (Nobody) ?_
  refine r_move hS hH.kp0 rfl rfl ?_; clear hS; intro a hS
  refine r_move hS hH.kp0 rfl rfl ?_; clear hS; intro a hS
  refine r_shrN (m := z1) 30 (z1 >>> 30) hS hH.kp0 rfl rfl rfl rfl (by decide) rfl ?_; clear hS; intro a hS
  refine r_xorN (m := z1) (m' := z1 >>> 30) (z1 ^^^ z1 >>> 30) hS hH.kp0 rfl rfl rfl (by subst hz1; exact Nat.mod_lt _ (by decide)) (Nat.lt_of_le_of_lt (Nat.shiftRight_le _ _) (by subst hz1; exact Nat.mod_lt _ (by decide))) rfl ?_; clear hS; intro a hS
  obtain ⟨z2, hz2⟩ : ∃ z, ((z1 ^^^ z1 >>> 30) * 13787848793156543929) % 18446744073709551616 = z := ⟨_, rfl⟩
  refine r_mulN (m := z1 ^^^ z1 >>> 30) (m' := 13787848793156543929) z2 hS hH.kp0 rfl rfl rfl hz2 ?_; clear hS; intro a hS
  refine r_assign hS hH.kp0 rfl rfl ?_; clear hS; intro a hS
  refine Sq.nil ?_
  refine then_n ?_
  refine c_seq ?_
  refine reg_plain w0 (Nobody) ?_
  refine r_move hS hH.kp0 rfl rfl ?_; clear hS; intro a hS
  refine r_move hS hH.kp0 rfl rfl ?_; clear hS; intro a hS
  refine r_shrN (m := z2) 27 (z2 >>> 27) hS hH.kp0 rfl rfl rfl rfl (by decide) rfl ?_; clear hS; intro a hS
  refine r_xorN (m := z2) (m' := z2 >>> 27) (z2 ^^^ z2 >>> 27) hS hH.kp0 rfl rfl rfl (by subst hz2; exact Nat.mod_lt _ (by decide)) (Nat.lt_of_le_of_lt (Nat.shiftRight_le _ _) (by subst hz2; exact Nat.mod_lt _ (by decide))) rfl ?_; clear hS; intro a hS
  obtain ⟨z3, hz3⟩ : ∃ z, ((z2 ^^^ z2 >>> 27) * 10723151780598845931) % 18446744073709551616 = z := ⟨_, rfl⟩
  refine r_mulN (m := z2 ^^^ z2 >>> 27) (m' := 10723151780598845931) z3 hS hH.kp0 rfl rfl rfl hz3 ?_; clear hS; intro a hS
  refine r_assign hS hH.kp0 rfl rfl ?_; clear hS; intro a hS
  refine Sq.nil ?_
  refine then_n ?_
  refine c_seq ?_
  refine reg_plain w0 (Nobody) ?_
  refine r_move hS hH.kp0 rfl rfl ?_; clear hS; intro a hS
  refine r_move hS hH.kp0 rfl rfl ?_; clear hS; intro a hS
  refine r_shrN (m := z3) 31 (z3 >>> 31) hS hH.kp0 rfl rfl rfl rfl (by decide) rfl ?_; clear hS; intro a hS
  refine r_xorN (m := z3) (m' := z3 >>> 31) (z3 ^^^ z3 >>> 31) hS hH.kp0 rfl rfl rfl (by subst hz3; exact Nat.mod_lt _ (by decide)) (Nat.lt_of_le_of_lt (Nat.shiftRight_le _ _) (by subst hz3; exact Nat.mod_lt _ (by decide))) rfl ?_; clear hS; intro a hS
  refine r_assign hS hH.kp0 rfl rfl ?_; clear hS; intro a hS
  refine Sq.nil ?_
  refine then_n ?_
  refine wp_ret ?_
  subst hz3 hz2 hz1
  exact leave (.inl rfl) hS rfl (Res.tmp rfl Res.nil) ⟨rfl, hH.mod⟩

set_option maxRecDepth 100000 in
set_option maxHeartbeats 2000000 in
theorem name_c (n : Nat) (hn : n ≤ 1000000000000) (w0 : World) : Calls Tryd.prog 30 #[.int .i64 (n : Int)] w0 fun e w' => ∃ h, e = .returned (hnd h) ∧ h = nm n ∧ Ext w0 w' := by
  refine enter Tryd.func30 rfl rfl rfl ?_
  intro a hS
  have hH := Hp.start w0 (Nobody)
  refine c_seq ?_
  refine reg_plain w0 (Nobody) ?_
  refine r_alloc hS hH (by repeat (first | exact Sub.nil | refine Sub.cons ?_ ?_ | exact In.here | refine In.there ?_)) Fc.zc26 rfl ?_
  clear hS hH; intro a w b2 hb2 hwb2 hS hH
  refine Sq.nil ?_
  refine then_n ?_
  refine c_seq ?_
  refine c_seq ?_
  refine reg_plain w0 (Nobody) ?_
  refine r_move hS hH.kp0 rfl rfl ?_; clear hS; intro a hS
  refine Sq.nil ?_
  refine then_n ?_
  refine wp_block ?_
  refine wp_loop_rounds 3 ?_
  refine rnd ?_
  refine c_seq ?_
  refine reg_plain w0 (Nobody) ?_
  refine r_lss hS hH.kp0 rfl rfl rfl ?_; clear hS; intro a hS
  refine Sq.nil ?_
  refine then_n ?_
  refine c_seq ?_
  refine c_condT hS rfl rfl ?_
  refine wp_skip ?_
  refine then_n ?_
  refine c_seq ?_
  refine wp_block ?_
  refine c_seq ?_
  refine reg_plain w0 (Nobody) ?_
  refine r_move hS hH.kp0 rfl rfl ?_; clear hS; intro a hS
  refine r_assign hS hH.kp0 rfl rfl ?_; clear hS; intro a hS
  refine Sq.nil ?_
  refine then_n ?_
  refine c_seq ?_
  refine reg_plain w0 (Nobody) ?_
  refine r_move hS hH.kp0 rfl rfl ?_; clear hS; intro a hS
  (first | refine r_mul hS hH.kp0 rfl rfl rfl (by omega) ?_ | refine r_mulw hS hH.kp0 rfl rfl rfl ?_)
  clear hS; intro a hS
  refine r_move hS hH.kp0 rfl rfl ?_; clear hS; intro a hS
  (first | refine r_add hS hH.kp0 rfl rfl rfl (by omega) ?_ | refine r_addw hS hH.kp0 rfl rfl rfl ?_)
  clear hS; intro a hS
  refine r_toU64 (2 * n + 0) hS hH.kp0 rfl Fc.ui81 Fc.us3 rfl (by omega) (by omega) ?_; clear hS; intro a hS
  refine r_call (l := [.tmp 13]) hS rfl rfl Fc.fn59 rfl ?_
  refine Calls.mono (mix_c _ _) ?_
  rintro e w1 ⟨rfl, hE⟩
  replace hH := hH.ext hE
  refine ⟨_, rfl, hH.kp0, ?_⟩
  clear hS; intro a hS
  refine r_assign hS hH.kp0 rfl rfl ?_; clear hS; intro a hS
  refine Sq.nil ?_
  refine then_n ?_
  refine c_seq ?_
  refine reg_plain w0 (Nobody) ?_
  refine r_move hS hH.kp0 rfl rfl ?_; clear hS; intro a hS
  refine Sq.nil ?_
  refine then_n ?_
  refine wp_block ?_
  refine wp_loop_rounds 9 ?_
  refine rnd ?_
  refine c_seq ?_
  refine reg_plain w0 (Nobody) ?_
  refine r_lss hS hH.kp0 rfl rfl rfl ?_; clear hS; intro a hS
  refine Sq.nil ?_
  refine then_n ?_
  refine c_seq ?_
  refine c_condT hS rfl rfl ?_
  refine wp_skip ?_
  refine then_n ?_
  refine c_seq ?_
  refine wp_block ?_
  refine c_seq ?_
  refine reg_plain w0 (Nobody) ?_
  refine r_move hS hH.kp0 rfl rfl ?_; clear hS; intro a hS
  refine r_assign hS hH.kp0 rfl rfl ?_; clear hS; intro a hS
  refine Sq.nil ?_
  refine then_n ?_
  refine reg_plain w0 (Nobody) ?_
  refine r_move hS hH.kp0 rfl rfl ?_; clear hS; intro a hS
  (first | refine r_mul hS hH.kp0 rfl rfl rfl (by omega) ?_ | refine r_mulw hS hH.kp0 rfl rfl rfl ?_)
  clear hS; intro a hS
  refine r_move hS hH.kp0 rfl rfl ?_; clear hS; intro a hS
  (first | refine r_add hS hH.kp0 rfl rfl rfl (by omega) ?_ | refine r_addw hS hH.kp0 rfl rfl rfl ?_)
  clear hS; intro a hS
  refine r_move hS hH.kp0 rfl rfl ?_; clear hS; intro a hS
  refine r_move hS hH.kp0 rfl rfl ?_; clear hS; intro a hS
  (first | refine r_mul hS hH.kp0 rfl rfl rfl (by omega) ?_ | refine r_mulw hS hH.kp0 rfl rfl rfl ?_)
  clear hS; intro a hS
  (first | refine r_sub hS hH.kp0 rfl rfl rfl (by omega) ?_ | refine r_subw hS hH.kp0 rfl rfl rfl ?_)
  clear hS; intro a hS
  refine r_shrN (m := mixN (2 * n + 0)) 56 (mixN (2 * n + 0) >>> 56) hS hH.kp0 rfl rfl rfl (by omega) (by decide) rfl ?_; clear hS; intro a hS
  refine r_toU8 (q := mixN (2 * n + 0) >>> 56) (nmB n 0) hS hH.kp0 rfl Fc.ui5 Fc.us81 rfl rfl ?_; clear hS; intro a hS
  refine r_indexAddrA (j := 0) hS hH.kp0 rfl rfl Fc.ar26 (by omega) (by decide) rfl ?_; clear hS; intro a hS
  refine r_store1 hS hH rfl rfl rfl (by repeat (first | exact .here | apply In.there | apply Put.there | apply Del.there)) (by repeat (first | exact Sub.nil | refine Sub.cons ?_ ?_ | exact In.here | refine In.there ?_)) Fc.sz5 (of_decide_eq_true rfl) (.inr hb2) ?_
  clear hH; intro w hH
  replace hH : Hp w0 Nobody [(b2, .cells ([byteV (nmB n 0), .int .u8 0, .int .u8 0, .int .u8 0, .int .u8 0, .int .u8 0, .int .u8 0, .int .u8 0, .int .u8 0, .int .u8 0, .int .u8 0, .int .u8 0, .int .u8 0, .int .u8 0, .int .u8 0, .int .u8 0] : List Value).toArray 26 (0, 0))] w := hH
  refine Sq.nil ?_
  refine blk_n ?_
  refine then_n ?_
  refine reg_plain w0 (Nobody) ?_
  (first | refine r_add hS hH.kp0 rfl rfl rfl (by omega) ?_ | refine r_addw hS hH.kp0 rfl rfl rfl ?_)
  clear hS; intro a hS
  refine r_move hS hH.kp0 rfl rfl ?_; clear hS; intro a hS
  refine Sq.nil ?_
  refine then_n ?_
  refine rnd ?_
  refine c_seq ?_
  refine reg_plain w0 (Nobody) ?_
  refine r_lss hS hH.kp0 rfl rfl rfl ?_; clear hS; intro a hS
  refine Sq.nil ?_
  refine then_n ?_
  refine c_seq ?_
  refine c_condT hS rfl rfl ?_
  refine wp_skip ?_
  refine then_n ?_
  refine c_seq ?_
  refine wp_block ?_
  refine c_seq ?_
  refine reg_plain w0 (Nobody) ?_
  refine r_move hS hH.kp0 rfl rfl ?_; clear hS; intro a hS
  refine r_assign hS hH.kp0 rfl rfl ?_; clear hS; intro a hS
  refine Sq.nil ?_
  refine then_n ?_
  refine reg_plain w0 (Nobody) ?_
  refine r_move hS hH.kp0 rfl rfl ?_; clear hS; intro a hS
  (first | refine r_mul hS hH.kp0 rfl rfl rfl (by omega) ?_ | refine r_mulw hS hH.kp0 rfl rfl rfl ?_)
  clear hS; intro a hS
  refine r_move hS hH.kp0 rfl rfl ?_; clear hS; intro a hS
  (first | refine r_add hS hH.kp0 rfl rfl rfl (by omega) ?_ | refine r_addw hS hH.kp0 rfl rfl rfl ?_)
  clear hS; intro a hS
  refine r_move hS hH.kp0 rfl rfl ?_; clear hS; intro a hS
  refine r_move hS hH.kp0 rfl rfl ?_; clear hS; intro a hS
  (first | refine r_mul hS hH.kp0 rfl rfl rfl (by omega) ?_ | refine r_mulw hS hH.kp0 rfl rfl rfl ?_)
  clear hS; intro a hS
  (first | refine r_sub hS hH.kp0 rfl rfl rfl (by omega) ?_ | refine r_subw hS hH.kp0 rfl rfl rfl ?_)
  clear hS; intro a hS
  refine r_shrN (m := mixN (2 * n + 0)) 48 (mixN (2 * n + 0) >>> 48) hS hH.kp0 rfl rfl rfl (by omega) (by decide) rfl ?_; clear hS; intro a hS
  refine r_toU8 (q := mixN (2 * n + 0) >>> 48) (nmB n 1) hS hH.kp0 rfl Fc.ui5 Fc.us81 rfl rfl ?_; clear hS; intro a hS
  refine r_indexAddrA (j := 1) hS hH.kp0 rfl rfl Fc.ar26 (by omega) (by decide) rfl ?_; clear hS; intro a hS
  refine r_store1 hS hH rfl rfl rfl (by repeat (first | exact .here | apply In.there | apply Put.there | apply Del.there)) (by repeat (first | exact Sub.nil | refine Sub.cons ?_ ?_ | exact In.here | refine In.there ?_)) Fc.sz5 (of_decide_eq_true rfl) (.inr hb2) ?_
  clear hH; intro w hH
  replace hH : Hp w0 Nobody [(b2, .cells ([byteV (nmB n 0), byteV (nmB n 1), .int .u8 0, .int .u8 0, .int .u8 0, .int .u8 0, .int .u8 0, .int .u8 0, .int .u8 0, .int .u8 0, .int .u8 0, .int .u8 0, .int .u8 0, .int .u8 0, .int .u8 0, .int .u8 0] : List Value).toArray 26 (0, 0))] w := hH
  refine Sq.nil ?_
  refine blk_n ?_
  refine then_n ?_
  refine reg_plain w0 (Nobody) ?_
  (first | refine r_add hS hH.kp0 rfl rfl rfl (by omega) ?_ | refine r_addw hS hH.kp0 rfl rfl rfl ?_)
  clear hS; intro a hS
  refine r_move hS hH.kp0 rfl rfl ?_; clear hS; intro a hS
  refine Sq.nil ?_
  refine then_n ?_
  refine rnd ?_
  refine c_seq ?_
  refine reg_plain w0 (Nobody) ?_
  refine r_lss hS hH.kp0 rfl rfl rfl ?_; clear hS; intro a hS
  refine Sq.nil ?_
  refine then_n ?_
  refine c_seq ?_
  refine c_condT hS rfl rfl ?_
  refine wp_skip ?_
  refine then_n ?_
  refine c_seq ?_
  refine wp_block ?_
  refine c_seq ?_
  refine reg_plain w0 (Nobody) ?_
  refine r_move hS hH.kp0 rfl rfl ?_; clear hS; intro a hS
  refine r_assign hS hH.kp0 rfl rfl ?_; clear hS; intro a hS
  refine Sq.nil ?_
  refine then_n ?_
  refine reg_plain w0 (Nobody) ?_
  refine r_move hS hH.kp0 rfl rfl ?_; clear hS; intro a hS
  (first | refine r_mul hS hH.kp0 rfl rfl rfl (by omega) ?_ | refine r_mulw hS hH.kp0 rfl rfl rfl ?_)
  clear hS; intro a hS
  refine r_move hS hH.kp0 rfl rfl ?_; clear hS; intro a hS
  (first | refine r_add hS hH.kp0 rfl rfl rfl (by omega) ?_ | refine r_addw hS hH.kp0 rfl rfl rfl ?_)
  clear hS; intro a hS
  refine r_move hS hH.kp0 rfl rfl ?_; clear hS; intro a hS
  refine r_move hS hH.kp0 rfl rfl ?_; clear hS; intro a hS
  (first | refine r_mul hS hH.kp0 rfl rfl rfl (by omega) ?_ | refine r_mulw hS hH.kp0 rfl rfl rfl ?_)
  clear hS; intro a hS
  (first | refine r_sub hS hH.kp0 rfl rfl rfl (by omega) ?_ | refine r_subw hS hH.kp0 rfl rfl rfl ?_)
  clear hS; intro a hS
  refine r_shrN (m := mixN (2 * n + 0)) 40 (mixN (2 * n + 0) >>> 40) hS hH.kp0 rfl rfl rfl (by omega) (by decide) rfl ?_; clear hS; intro a hS
  refine r_toU8 (q := mixN (2 * n + 0) >>> 40) (nmB n 2) hS hH.kp0 rfl Fc.ui5 Fc.us81 rfl rfl ?_; clear hS; intro a hS
  refine r_indexAddrA (j := 2) hS hH.kp0 rfl rfl Fc.ar26 (by omega) (by decide) rfl ?_; clear hS; intro a hS
  refine r_store1 hS hH rfl rfl rfl (by repeat (first | exact .here | apply In.there | apply Put.there | apply Del.there)) (by repeat (first | exact Sub.nil | refine Sub.cons ?_ ?_ | exact In.here | refine In.there ?_)) Fc.sz5 (of_decide_eq_true rfl) (.inr hb2) ?_
  clear hH; intro w hH
  replace hH : Hp w0 Nobody [(b2, .cells ([byteV (nmB n 0), byteV (nmB n 1), byteV (nmB n 2), .int .u8 0, .int .u8 0, .int .u8 0, .int .u8 0, .int .u8 0, .int .u8 0, .int .u8 0, .int .u8 0, .int .u8 0, .int .u8 0, .int .u8 0, .int .u8 0, .int .u8 0] : List Value).toArray 26 (0, 0))] w := hH
  refine Sq.nil ?_
  refine blk_n ?_
  refine then_n ?_
  refine reg_plain w0 (Nobody) ?_
  (first | refine r_add hS hH.kp0 rfl rfl rfl (by omega) ?_ | refine r_addw hS hH.kp0 rfl rfl rfl ?_)
  clear hS; intro a hS
  refine r_move hS hH.kp0 rfl rfl ?_; clear hS; intro a hS
  refine Sq.nil ?_
  refine then_n ?_
  refine rnd ?_
  refine c_seq ?_
  refine reg_plain w0 (Nobody) ?_
  refine r_lss hS hH.kp0 rfl rfl rfl ?_; clear hS; intro a hS
  refine Sq.nil ?_
  refine then_n ?_
  refine c_seq ?_
  refine c_condT hS rfl rfl ?_
  refine wp_skip ?_
  refine then_n ?_
  refine c_seq ?_
  refine wp_block ?_
  refine c_seq ?_
  refine reg_plain w0 (Nobody) ?_
  refine r_move hS hH.kp0 rfl rfl ?_; clear hS; intro a hS
  refine r_assign hS hH.kp0 rfl rfl ?_; clear hS; intro a hS
  refine Sq.nil ?_
  refine then_n ?_
  refine reg_plain w0 (Nobody) ?_
  refine r_move hS hH.kp0 rfl rfl ?_; clear hS; intro a hS
  (first | refine r_mul hS hH.kp0 rfl rfl rfl (by omega) ?_ | refine r_mulw hS hH.kp0 rfl rfl rfl ?_)
  clear hS; intro a hS
  refine r_move hS hH.kp0 rfl rfl ?_; clear hS; intro a hS
  (first | refine r_add hS hH.kp0 rfl rfl rfl (by omega) ?_ | refine r_addw hS hH.kp0 rfl rfl rfl ?_)
  clear hS; intro a hS
  refine r_move hS hH.kp0 rfl rfl ?_; clear hS; intro a hS
  refine r_move hS hH.kp0 rfl rfl ?_; clear hS; intro a hS
  (first | refine r_mul hS hH.kp0 rfl rfl rfl (by omega) ?_ | refine r_mulw hS hH.kp0 rfl rfl rfl ?_)
  clear hS; intro a hS
  (first | refine r_sub hS hH.kp0 rfl rfl rfl (by omega) ?_ | refine r_subw hS hH.kp0 rfl rfl rfl ?_)
  clear hS; intro a hS
  refine r_shrN (m := mixN (2 * n + 0)) 32 (mixN (2 * n + 0) >>> 32) hS hH.kp0 rfl rfl rfl (by omega) (by decide) rfl ?_; clear hS; intro a hS
  refine r_toU8 (q := mixN (2 * n + 0) >>> 32) (nmB n 3) hS hH.kp0 rfl Fc.ui5 Fc.us81 rfl rfl ?_; clear hS; intro a hS
  refine r_indexAddrA (j := 3) hS hH.kp0 rfl rfl Fc.ar26 (by omega) (by decide) rfl ?_; clear hS; intro a hS
  refine r_store1 hS hH rfl rfl rfl (by repeat (first | exact .here | apply In.there | apply Put.there | apply Del.there)) (by repeat (first | exact Sub.nil | refine Sub.cons ?_ ?_ | exact In.here | refine In.there ?_)) Fc.sz5 (of_decide_eq_true rfl) (.inr hb2) ?_
  clear hH; intro w hH
  replace hH : Hp w0 Nobody [(b2, .cells ([byteV (nmB n 0), byteV (nmB n 1), byteV (nmB n 2), byteV (nmB n 3), .int .u8 0, .int .u8 0, .int .u8 0, .int .u8 0, .int .u8 0, .int .u8 0, .int .u8 0, .int .u8 0, .int .u8 0, .int .u8 0, .int .u8 0, .int .u8 0] : List Value).toArray 26 (0, 0))] w := hH
  refine Sq.nil ?_
  refine blk_n ?_
  refine then_n ?_
  refine reg_plain w0 (Nobody) ?_
  (first | refine r_add hS hH.kp0 rfl rfl rfl (by omega) ?_ | refine r_addw hS hH.kp0 rfl rfl rfl ?_)
  clear hS; intro a hS
  refine r_move hS hH.kp0 rfl rfl ?_; clear hS; intro a hS
  refine Sq.nil ?_
  refine then_n ?_
  refine rnd ?_
  refine c_seq ?_
  refine reg_plain w0 (Nobody) ?_
  refine r_lss hS hH.kp0 rfl rfl rfl ?_; clear hS; intro a hS
  refine Sq.nil ?_
  refine then_n ?_
  refine c_seq ?_
  refine c_condT hS rfl rfl ?_
  refine wp_skip ?_
  refine then_n ?_
  refine c_seq ?_
  refine wp_block ?_
  refine c_seq ?_
  refine reg_plain w0 (Nobody) ?_
  refine r_move hS hH.kp0 rfl rfl ?_; clear hS; intro a hS
  refine r_assign hS hH.kp0 rfl rfl ?_; clear hS; intro a hS
  refine Sq.nil ?_
  refine then_n ?_
  refine reg_plain w0 (Nobody) ?_
  refine r_move hS hH.kp0 rfl rfl ?_; clear hS; intro a hS
  (first | refine r_mul hS hH.kp0 rfl rfl rfl (by omega) ?_ | refine r_mulw hS hH.kp0 rfl rfl rfl ?_)
  clear hS; intro a hS
  refine r_move hS hH.kp0 rfl rfl ?_; clear hS; intro a hS
  (first | refine r_add hS hH.kp0 rfl rfl rfl (by omega) ?_ | refine r_addw hS hH.kp0 rfl rfl rfl ?_)
  clear hS; intro a hS
  refine r_move hS hH.kp0 rfl rfl ?_; clear hS; intro a hS
  refine r_move hS hH.kp0 rfl rfl ?_; clear hS; intro a hS
  (first | refine r_mul hS hH.kp0 rfl rfl rfl (by omega) ?_ | refine r_mulw hS hH.kp0 rfl rfl rfl ?_)
  clear hS; intro a hS
  (first | refine r_sub hS hH.kp0 rfl rfl rfl (by omega) ?_ | refine r_subw hS hH.kp0 rfl rfl rfl ?_)
  clear hS; intro a hS
  refine r_shrN (m := mixN (2 * n + 0)) 24 (mixN (2 * n + 0) >>> 24) hS hH.kp0 rfl rfl rfl (by omega) (by decide) rfl ?_; clear hS; intro a hS
  refine r_toU8 (q := mixN (2 * n + 0) >>> 24) (nmB n 4) hS hH.kp0 rfl Fc.ui5 Fc.us81 rfl rfl ?_; clear hS; intro a hS
  refine r_indexAddrA (j := 4) hS hH.kp0 rfl rfl Fc.ar26 (by omega) (by decide) rfl ?_; clear hS; intro a hS
  refine r_store1 hS hH rfl rfl rfl (by repeat (first | exact .here | apply In.there | apply Put.there | apply Del.there)) (by repeat (first | exact Sub.nil | refine Sub.cons ?_ ?_ | exact In.here | refine In.there ?_)) Fc.sz5 (of_decide_eq_true rfl) (.inr hb2) ?_
  clear hH; intro w hH
  replace hH : Hp w0 Nobody [(b2, .cells ([byteV (nmB n 0), byteV (nmB n 1), byteV (nmB n 2), byteV (nmB n 3), byteV (nmB n 4), .int .u8 0, .int .u8 0, .int .u8 0, .int .u8 0, .int .u8 0, .int .u8 0, .int .u8 0, .int .u8 0, .int .u8 0, .int .u8 0, .int .u8 0] : List Value).toArray 26 (0, 0))] w := hH
  refine Sq.nil ?_
  refine blk_n ?_
  refine then_n ?_
  refine reg_plain w0 (Nobody) ?_
  (first | refine r_add hS hH.kp0 rfl rfl rfl (by omega) ?_ | refine r_addw hS hH.kp0 rfl rfl rfl ?_)
  clear hS; intro a hS
  refine r_move hS hH.kp0 rfl rfl ?_; clear hS; intro a hS
  refine Sq.nil ?_
  refine then_n ?_
  refine rnd ?_
  refine c_seq ?_
  refine reg_plain w0 (Nobody) ?_
  refine r_lss hS hH.kp0 rfl rfl rfl ?_; clear hS; intro a hS
  refine Sq.nil ?_
  refine then_n ?_
  refine c_seq ?_
  refine c_condT hS rfl rfl ?_
  refine wp_skip ?_
  refine then_n ?_
  refine c_seq ?_
  refine wp_block ?_
  refine c_seq ?_
  refine reg_plain w0 (Nobody) ?_
  refine r_move hS hH.kp0 rfl rfl ?_; clear hS; intro a hS
  refine r_assign hS hH.kp0 rfl rfl ?_; clear hS; intro a hS
  refine Sq.nil ?_
  refine then_n ?_
  refine reg_plain w0 (Nobody) ?_
  refine r_move hS hH.kp0 rfl rfl ?_; clear hS; intro a hS
  (first | refine r_mul hS hH.kp0 rfl rfl rfl (by omega) ?_ | refine r_mulw hS hH.kp0 rfl rfl rfl ?_)
  clear hS; intro a hS
  refine r_move hS hH.kp0 rfl rfl ?_; clear hS; intro a hS
  (first | refine r_add hS hH.kp0 rfl rfl rfl (by omega) ?_ | refine r_addw hS hH.kp0 rfl rfl rfl ?_)
  clear hS; intro a hS
  refine r_move hS hH.kp0 rfl rfl ?_; clear hS; intro a hS
  refine r_move hS hH.kp0 rfl rfl ?_; clear hS; intro a hS
  (first | refine r_mul hS hH.kp0 rfl rfl rfl (by omega) ?_ | refine r_mulw hS hH.kp0 rfl rfl rfl ?_)
  clear hS; intro a hS
  (first | refine r_sub hS hH.kp0 rfl rfl rfl (by omega) ?_ | refine r_subw hS hH.kp0 rfl rfl rfl ?_)
  clear hS; intro a hS
  refine r_shrN (m := mixN (2 * n + 0)) 16 (mixN (2 * n + 0) >>> 16) hS hH.kp0 rfl rfl rfl (by omega) (by decide) rfl ?_; clear hS; intro a hS
  refine r_toU8 (q := mixN (2 * n + 0) >>> 16) (nmB n 5) hS hH.kp0 rfl Fc.ui5 Fc.us81 rfl rfl ?_; clear hS; intro a hS
  refine r_indexAddrA (j := 5) hS hH.kp0 rfl rfl Fc.ar26 (by omega) (by decide) rfl ?_; clear hS; intro a hS
  refine r_store1 hS hH rfl rfl rfl (by repeat (first | exact .here | apply In.there | apply Put.there | apply Del.there)) (by repeat (first | exact Sub.nil | refine Sub.cons ?_ ?_ | exact In.here | refine In.there ?_)) Fc.sz5 (of_decide_eq_true rfl) (.inr hb2) ?_
  clear hH; intro w hH
  replace hH : Hp w0 Nobody [(b2, .cells ([byteV (nmB n 0), byteV (nmB n 1), byteV (nmB n 2), byteV (nmB n 3), byteV (nmB n 4), byteV (nmB n 5), .int .u8 0, .int .u8 0, .int .u8 0, .int .u8 0, .int .u8 0, .int .u8 0, .int .u8 0, .int .u8 0, .int .u8 0, .int .u8 0] : List Value).toArray 26 (0, 0))] w := hH
  refine Sq.nil ?_
  refine blk_n ?_
  refine then_n ?_
  refine reg_plain w0 (Nobody) ?_
  (first | refine r_add hS hH.kp0 rfl rfl rfl (by omega) ?_ | refine r_addw hS hH.kp0 rfl rfl rfl ?_)
  clear hS; intro a hS
  refine r_move hS hH.kp0 rfl rfl ?_; clear hS; intro a hS
  refine Sq.nil ?_
  refine then_n ?_
  refine rnd ?_
  refine c_seq ?_
  refine reg_plain w0 (Nobody) ?_
  refine r_lss hS hH.kp0 rfl rfl rfl ?_; clear hS; intro a hS
  refine Sq.nil ?_
  refine then_n ?_
  refine c_seq ?_
  refine c_condT hS rfl rfl ?_
  refine wp_skip ?_
  refine then_n ?_
  refine c_seq ?_
  refine wp_block ?_
  refine c_seq ?_
  refine reg_plain w0 (Nobody) ?_
  refine r_move hS hH.kp0 rfl rfl ?_; clear hS; intro a hS
  refine r_assign hS hH.kp0 rfl rfl ?_; clear hS; intro a hS
  refine Sq.nil ?_
  refine then_n ?_
  refine reg_plain w0 (Nobody) ?_
  refine r_move hS hH.kp0 rfl rfl ?_; clear hS; intro a hS
  (first | refine r_mul hS hH.kp0 rfl rfl rfl (by omega) ?_ | refine r_mulw hS hH.kp0 rfl rfl rfl ?_)
  clear hS; intro a hS
  refine r_move hS hH.kp0 rfl rfl ?_; clear hS; intro a hS
  (first | refine r_add hS hH.kp0 rfl rfl rfl (by omega) ?_ | refine r_addw hS hH.kp0 rfl rfl rfl ?_)
  clear hS; intro a hS
  refine r_move hS hH.kp0 rfl rfl ?_; clear hS; intro a hS
  refine r_move hS hH.kp0 rfl rfl ?_; clear hS; intro a hS
  (first | refine r_mul hS hH.kp0 rfl rfl rfl (by omega) ?_ | refine r_mulw hS hH.kp0 rfl rfl rfl ?_)
  clear hS; intro a hS
  (first | refine r_sub hS hH.kp0 rfl rfl rfl (by omega) ?_ | refine r_subw hS hH.kp0 rfl rfl rfl ?_)
  clear hS; intro a hS
  refine r_shrN (m := mixN (2 * n + 0)) 8 (mixN (2 * n + 0) >>> 8) hS hH.kp0 rfl rfl rfl (by omega) (by decide) rfl ?_; clear hS; intro a hS
  refine r_toU8 (q := mixN (2 * n + 0) >>> 8) (nmB n 6) hS hH.kp0 rfl Fc.ui5 Fc.us81 rfl rfl ?_; clear hS; intro a hS
  refine r_indexAddrA (j := 6) hS hH.kp0 rfl rfl Fc.ar26 (by omega) (by decide) rfl ?_; clear hS; intro a hS
  refine r_store1 hS hH rfl rfl rfl (by repeat (first | exact .here | apply In.there | apply Put.there | apply Del.there)) (by repeat (first | exact Sub.nil | refine Sub.cons ?_ ?_ | exact In.here | refine In.there ?_)) Fc.sz5 (of_decide_eq_true rfl) (.inr hb2) ?_
  clear hH; intro w hH
  replace hH : Hp w0 Nobody [(b2, .cells ([byteV (nmB n 0), byteV (nmB n 1), byteV (nmB n 2), byteV (nmB n 3), byteV (nmB n 4), byteV (nmB n 5), byteV (nmB n 6), .int .u8 0, .int .u8 0, .int .u8 0, .int .u8 0, .int .u8 0, .int .u8 0, .int .u8 0, .int .u8 0, .int .u8 0] : List Value).toArray 26 (0, 0))] w := hH
  refine Sq.nil ?_
  refine blk_n ?_
  refine then_n ?_
  refine reg_plain w0 (Nobody) ?_
  (first | refine r_add hS hH.kp0 rfl rfl rfl (by omega) ?_ | refine r_addw hS hH.kp0 rfl rfl rfl ?_)
  clear hS; intro a hS
  refine r_move hS hH.kp0 rfl rfl ?_; clear hS; intro a hS
  refine Sq.nil ?_
  refine then_n ?_
  refine rnd ?_
  refine c_seq ?_
  refine reg_plain w0 (Nobody) ?_
  refine r_lss hS hH.kp0 rfl rfl rfl ?_; clear hS; intro a hS
  refine Sq.nil ?_
  refine then_n ?_
  refine c_seq ?_
  refine c_condT hS rfl rfl ?_
  refine wp_skip ?_
  refine then_n ?_
  refine c_seq ?_
  refine wp_block ?_
  refine c_seq ?_
  refine reg_plain w0 (Nobody) ?_
  refine r_move hS hH.kp0 rfl rfl ?_; clear hS; intro a hS
  refine r_assign hS hH.kp0 rfl rfl ?_; clear hS; intro a hS
  refine Sq.nil ?_
  refine then_n ?_
  refine reg_plain w0 (Nobody) ?_
  refine r_move hS hH.kp0 rfl rfl ?_; clear hS; intro a hS
  (first | refine r_mul hS hH.kp0 rfl rfl rfl (by omega) ?_ | refine r_mulw hS hH.kp0 rfl rfl rfl ?_)
  clear hS; intro a hS
  refine r_move hS hH.kp0 rfl rfl ?_; clear hS; intro a hS
  (first | refine r_add hS hH.kp0 rfl rfl rfl (by omega) ?_ | refine r_addw hS hH.kp0 rfl rfl rfl ?_)
  clear hS; intro a hS
  refine r_move hS hH.kp0 rfl rfl ?_; clear hS; intro a hS
  refine r_move hS hH.kp0 rfl rfl ?_; clear hS; intro a hS
  (first | refine r_mul hS hH.kp0 rfl rfl rfl (by omega) ?_ | refine r_mulw hS hH.kp0 rfl rfl rfl ?_)
  clear hS; intro a hS
  (first | refine r_sub hS hH.kp0 rfl rfl rfl (by omega) ?_ | refine r_subw hS hH.kp0 rfl rfl rfl ?_)
  clear hS; intro a hS
  refine r_shrN (m := mixN (2 * n + 0)) 0 (mixN (2 * n + 0) >>> 0) hS hH.kp0 rfl rfl rfl (by omega) (by decide) rfl ?_; clear hS; intro a hS
  refine r_toU8 (q := mixN (2 * n + 0) >>> 0) (nmB n 7) hS hH.kp0 rfl Fc.ui5 Fc.us81 rfl rfl ?_; clear hS; intro a hS
  refine r_indexAddrA (j := 7) hS hH.kp0 rfl rfl Fc.ar26 (by omega) (by decide) rfl ?_; clear hS; intro a hS
  refine r_store1 hS hH rfl rfl rfl (by repeat (first | exact .here | apply In.there | apply Put.there | apply Del.there)) (by repeat (first | exact Sub.nil | refine Sub.cons ?_ ?_ | exact In.here | refine In.there ?_)) Fc.sz5 (of_decide_eq_true rfl) (.inr hb2) ?_
  clear hH; intro w hH
  replace hH : Hp w0 Nobody [(b2, .cells ([byteV (nmB n 0), byteV (nmB n 1), byteV (nmB n 2), byteV (nmB n 3), byteV (nmB n 4), byteV (nmB n 5), byteV (nmB n 6), byteV (nmB n 7), .int .u8 0, .int .u8 0, .int .u8 0, .int .u8 0, .int .u8 0, .int .u8 0, .int .u8 0, .int .u8 0] : List Value).toArray 26 (0, 0))] w := hH
  refine Sq.nil ?_
  refine blk_n ?_
  refine then_n ?_
  refine reg_plain w0 (Nobody) ?_
  (first | refine r_add hS hH.kp0 rfl rfl rfl (by omega) ?_ | refine r_addw hS hH.kp0 rfl rfl rfl ?_)
  clear hS; intro a hS
  refine r_move hS hH.kp0 rfl rfl ?_; clear hS; intro a hS
  refine Sq.nil ?_
  refine then_n ?_
  refine rnd ?_
  refine c_seq ?_
  refine reg_plain w0 (Nobody) ?_
  refine r_lss hS hH.kp0 rfl rfl rfl ?_; clear hS; intro a hS
  refine Sq.nil ?_
  refine then_n ?_
  refine c_seq ?_
  refine c_condF hS rfl rfl ?_
  refine wp_exit ?_
  refine then_e ?_
  refine then_e ?_
  refine blk_hit ?_
  refine blk_n ?_
  refine then_n ?_
  refine reg_plain w0 (Nobody) ?_
  (first | refine r_add hS hH.kp0 rfl rfl rfl (by omega) ?_ | refine r_addw hS hH.kp0 rfl rfl rfl ?_)
  clear hS; intro a hS
  refine r_move hS hH.kp0 rfl rfl ?_; clear hS; intro a hS
  refine Sq.nil ?_
  refine then_n ?_
  refine rnd ?_
  refine c_seq ?_
  refine reg_plain w0 (Nobody) ?_
  refine r_lss hS hH.kp0 rfl rfl rfl ?_; clear hS; intro a hS
  refine Sq.nil ?_
  refine then_n ?_
  refine c_seq ?_
  refine c_condT hS rfl rfl ?_
  refine wp_skip ?_
  refine then_n ?_
  refine c_seq ?_
  refine wp_block ?_
  refine c_seq ?_
  refine reg_plain w0 (Nobody) ?_
  refine r_move hS hH.kp0 rfl rfl ?_; clear hS; intro a hS
  refine r_assign hS hH.kp0 rfl rfl ?_; clear hS; intro a hS
  refine Sq.nil ?_
  refine then_n ?_
  refine c_seq ?_
  refine reg_plain w0 (Nobody) ?_
  refine r_move hS hH.kp0 rfl rfl ?_; clear hS; intro a hS
  (first | refine r_mul hS hH.kp0 rfl rfl rfl (by omega) ?_ | refine r_mulw hS hH.kp0 rfl rfl rfl ?_)
  clear hS; intro a hS
  refine r_move hS hH.kp0 rfl rfl ?_; clear hS; intro a hS
  (first | refine r_add hS hH.kp0 rfl rfl rfl (by omega) ?_ | refine r_addw hS hH.kp0 rfl rfl rfl ?_)
  clear hS; intro a hS
  refine r_toU64 (2 * n + 1) hS hH.kp0 rfl Fc.ui81 Fc.us3 rfl (by omega) (by omega) ?_; clear hS; intro a hS
  refine r_call (l := [.tmp 13]) hS rfl rfl Fc.fn59 rfl ?_
  refine Calls.mono (mix_c _ _) ?_
  rintro e w1 ⟨rfl, hE⟩
  replace hH := hH.ext hE
  refine ⟨_, rfl, hH.kp0, ?_⟩
  clear hS; intro a hS
  refine r_assign hS hH.kp0 rfl rfl ?_; clear hS; intro a hS
  refine Sq.nil ?_
  refine then_n ?_
  refine c_seq ?_
  refine reg_plain w0 (Nobody) ?_
  refine r_move hS hH.kp0 rfl rfl ?_; clear hS; intro a hS
  refine Sq.nil ?_
  refine then_n ?_
  refine wp_block ?_
  refine wp_loop_rounds 9 ?_
  refine rnd ?_
  refine c_seq ?_
  refine reg_plain w0 (Nobody) ?_
  refine r_lss hS hH.kp0 rfl rfl rfl ?_; clear hS; intro a hS
  refine Sq.nil ?_
  refine then_n ?_
  refine c_seq ?_
  refine c_condT hS rfl rfl ?_
  refine wp_skip ?_
  refine then_n ?_
  refine c_seq ?_
  refine wp_block ?_
  refine c_seq ?_
  refine reg_plain w0 (Nobody) ?_
  refine r_move hS hH.kp0 rfl rfl ?_; clear hS; intro a hS
  refine r_assign hS hH.kp0 rfl rfl ?_; clear hS; intro a hS
  refine Sq.nil ?_
  refine then_n ?_
  refine reg_plain w0 (Nobody) ?_
  refine r_move hS hH.kp0 rfl rfl ?_; clear hS; intro a hS
  (first | refine r_mul hS hH.kp0 rfl rfl rfl (by omega) ?_ | refine r_mulw hS hH.kp0 rfl rfl rfl ?_)
  clear hS; intro a hS
  refine r_move hS hH.kp0 rfl rfl ?_; clear hS; intro a hS
  (first | refine r_add hS hH.kp0 rfl rfl rfl (by omega) ?_ | refine r_addw hS hH.kp0 rfl rfl rfl ?_)
  clear hS; intro a hS
  refine r_move hS hH.kp0 rfl rfl ?_; clear hS; intro a hS
  refine r_move hS hH.kp0 rfl rfl ?_; clear hS; intro a hS
  (first | refine r_mul hS hH.kp0 rfl rfl rfl (by omega) ?_ | refine r_mulw hS hH.kp0 rfl rfl rfl ?_)
  clear hS; intro a hS
  (first | refine r_sub hS hH.kp0 rfl rfl rfl (by omega) ?_ | refine r_subw hS hH.kp0 rfl rfl rfl ?_)
  clear hS; intro a hS
  refine r_shrN (m := mixN (2 * n + 1)) 56 (mixN (2 * n + 1) >>> 56) hS hH.kp0 rfl rfl rfl (by omega) (by decide) rfl ?_; clear hS; intro a hS
  refine r_toU8 (q := mixN (2 * n + 1) >>> 56) (nmB n 8) hS hH.kp0 rfl Fc.ui5 Fc.us81 rfl rfl ?_; clear hS; intro a hS
  refine r_indexAddrA (j := 8) hS hH.kp0 rfl rfl Fc.ar26 (by omega) (by decide) rfl ?_; clear hS; intro a hS
  refine r_store1 hS hH rfl rfl rfl (by repeat (first | exact .here | apply In.there | apply Put.there | apply Del.there)) (by repeat (first | exact Sub.nil | refine Sub.cons ?_ ?_ | exact In.here | refine In.there ?_)) Fc.sz5 (of_decide_eq_true rfl) (.inr hb2) ?_
  clear hH; intro w hH
  replace hH : Hp w0 Nobody [(b2, .cells ([byteV (nmB n 0), byteV (nmB n 1), byteV (nmB n 2), byteV (nmB n 3), byteV (nmB n 4), byteV (nmB n 5), byteV (nmB n 6), byteV (nmB n 7), byteV (nmB n 8), .int .u8 0, .int .u8 0, .int .u8 0, .int .u8 0, .int .u8 0, .int .u8 0, .int .u8 0] : List Value).toArray 26 (0, 0))] w := hH
  refine Sq.nil ?_
  refine blk_n ?_
  refine then_n ?_
  refine reg_plain w0 (Nobody) ?_
  (first | refine r_add hS hH.kp0 rfl rfl rfl (by omega) ?_ | refine r_addw hS hH.kp0 rfl rfl rfl ?_)
  clear hS; intro a hS
  refine r_move hS hH.kp0 rfl rfl ?_; clear hS; intro a hS
  refine Sq.nil ?_
  refine then_n ?_
  refine rnd ?_
  refine c_seq ?_
  refine reg_plain w0 (Nobody) ?_
  refine r_lss hS hH.kp0 rfl rfl rfl ?_; clear hS; intro a hS
  refine Sq.nil ?_
  refine then_n ?_
  refine c_seq ?_
  refine c_condT hS rfl rfl ?_
  refine wp_skip ?_
  refine then_n ?_
  refine c_seq ?_
  refine wp_block ?_
  refine c_seq ?_
  refine reg_plain w0 (Nobody) ?_
  refine r_move hS hH.kp0 rfl rfl ?_; clear hS; intro a hS
  refine r_assign hS hH.kp0 rfl rfl ?_; clear hS; intro a hS
  refine Sq.nil ?_
  refine then_n ?_
  refine reg_plain w0 (Nobody) ?_
  refine r_move hS hH.kp0 rfl rfl ?_; clear hS; intro a hS
  (first | refine r_mul hS hH.kp0 rfl rfl rfl (by omega) ?_ | refine r_mulw hS hH.kp0 rfl rfl rfl ?_)
  clear hS; intro a hS
  refine r_move hS hH.kp0 rfl rfl ?_; clear hS; intro a hS
  (first | refine r_add hS hH.kp0 rfl rfl rfl (by omega) ?_ | refine r_addw hS hH.kp0 rfl rfl rfl ?_)
  clear hS; intro a hS
  refine r_move hS hH.kp0 rfl rfl ?_; clear hS; intro a hS
  refine r_move hS hH.kp0 rfl rfl ?_; clear hS; intro a hS
  (first | refine r_mul hS hH.kp0 rfl rfl rfl (by omega) ?_ | refine r_mulw hS hH.kp0 rfl rfl rfl ?_)
  clear hS; intro a hS
  (first | refine r_sub hS hH.kp0 rfl rfl rfl (by omega) ?_ | refine r_subw hS hH.kp0 rfl rfl rfl ?_)
  clear hS; intro a hS
  refine r_shrN (m := mixN (2 * n + 1)) 48 (mixN (2 * n + 1) >>> 48) hS hH.kp0 rfl rfl rfl (by omega) (by decide) rfl ?_; clear hS; intro a hS
  refine r_toU8 (q := mixN (2 * n + 1) >>> 48) (nmB n 9) hS hH.kp0 rfl Fc.ui5 Fc.us81 rfl rfl ?_; clear hS; intro a hS
  refine r_indexAddrA (j := 9) hS hH.kp0 rfl rfl Fc.ar26 (by omega) (by decide) rfl ?_; clear hS; intro a hS
  refine r_store1 hS hH rfl rfl rfl (by repeat (first | exact .here | apply In.there | apply Put.there | apply Del.there)) (by repeat (first | exact Sub.nil | refine Sub.cons ?_ ?_ | exact In.here | refine In.there ?_)) Fc.sz5 (of_decide_eq_true rfl) (.inr hb2) ?_
  clear hH; intro w hH
  replace hH : Hp w0 Nobody [(b2, .cells ([byteV (nmB n 0), byteV (nmB n 1), byteV (nmB n 2), byteV (nmB n 3), byteV (nmB n 4), byteV (nmB n 5), byteV (nmB n 6), byteV (nmB n 7), byteV (nmB n 8), byteV (nmB n 9), .int .u8 0, .int .u8 0, .int .u8 0, .int .u8 0, .int .u8 0, .int .u8 0] : List Value).toArray 26 (0, 0))] w := hH
  refine Sq.nil ?_
  refine blk_n ?_
  refine then_n ?_
  refine reg_plain w0 (Nobody) ?_
  (first | refine r_add hS hH.kp0 rfl rfl rfl (by omega) ?_ | refine r_addw hS hH.kp0 rfl rfl rfl ?_)
  clear hS; intro a hS
  refine r_move hS hH.kp0 rfl rfl ?_; clear hS; intro a hS
  refine Sq.nil ?_
  refine then_n ?_
  refine rnd ?_
  refine c_seq ?_
  refine reg_plain w0 (Nobody) ?_
  refine r_lss hS hH.kp0 rfl rfl rfl ?_; clear hS; intro a hS
  refine Sq.nil ?_
  refine then_n ?_
  refine c_seq ?_
  refine c_condT hS rfl rfl ?_
  refine wp_skip ?_
  refine then_n ?_
  refine c_seq ?_
  refine wp_block ?_
  refine c_seq ?_
  refine reg_plain w0 (Nobody) ?_
  refine r_move hS hH.kp0 rfl rfl ?_; clear hS; intro a hS
  refine r_assign hS hH.kp0 rfl rfl ?_; clear hS; intro a hS
  refine Sq.nil ?_
  refine then_n ?_
  refine reg_plain w0 (Nobody) ?_
  refine r_move hS hH.kp0 rfl rfl ?_; clear hS; intro a hS
  (first | refine r_mul hS hH.kp0 rfl rfl rfl (by omega) ?_ | refine r_mulw hS hH.kp0 rfl rfl rfl ?_)
  clear hS; intro a hS
  refine r_move hS hH.kp0 rfl rfl ?_; clear hS; intro a hS
  (first | refine r_add hS hH.kp0 rfl rfl rfl (by omega) ?_ | refine r_addw hS hH.kp0 rfl rfl rfl ?_)
  clear hS; intro a hS
  refine r_move hS hH.kp0 rfl rfl ?_; clear hS; intro a hS
  refine r_move hS hH.kp0 rfl rfl ?_; clear hS; intro a hS
  (first | refine r_mul hS hH.kp0 rfl rfl rfl (by omega) ?_ | refine r_mulw hS hH.kp0 rfl rfl rfl ?_)
  clear hS; intro a hS
  (first | refine r_sub hS hH.kp0 rfl rfl rfl (by omega) ?_ | refine r_subw hS hH.kp0 rfl rfl rfl ?_)
  clear hS; intro a hS
  refine r_shrN (m := mixN (2 * n + 1)) 40 (mixN (2 * n + 1) >>> 40) hS hH.kp0 rfl rfl rfl (by omega) (by decide) rfl ?_; clear hS; intro a hS
  refine r_toU8 (q := mixN (2 * n + 1) >>> 40) (nmB n 10) hS hH.kp0 rfl Fc.ui5 Fc.us81 rfl rfl ?_; clear hS; intro a hS
  refine r_indexAddrA (j := 10) hS hH.kp0 rfl rfl Fc.ar26 (by omega) (by decide) rfl ?_; clear hS; intro a hS
  refine r_store1 hS hH rfl rfl rfl (by repeat (first | exact .here | apply In.there | apply Put.there | apply Del.there)) (by repeat (first | exact Sub.nil | refine Sub.cons ?_ ?_ | exact In.here | refine In.there ?_)) Fc.sz5 (of_decide_eq_true rfl) (.inr hb2) ?_
  clear hH; intro w hH
  replace hH : Hp w0 Nobody [(b2, .cells ([byteV (nmB n 0), byteV (nmB n 1), byteV (nmB n 2), byteV (nmB n 3), byteV (nmB n 4), byteV (nmB n 5), byteV (nmB n 6), byteV (nmB n 7), byteV (nmB n 8), byteV (nmB n 9), byteV (nmB n 10), .int .u8 0, .int .u8 0, .int .u8 0, .int .u8 0, .int .u8 0] : List Value).toArray 26 (0, 0))] w := hH
  refine Sq.nil ?_
  refine blk_n ?_
  refine then_n ?_
  refine reg_plain w0 (Nobody) ?_
  (first | refine r_add hS hH.kp0 rfl rfl rfl (by omega) ?_ | refine r_addw hS hH.kp0 rfl rfl rfl ?_)
  clear hS; intro a hS
  refine r_move hS hH.kp0 rfl rfl ?_; clear hS; intro a hS
  refine Sq.nil ?_
  refine then_n ?_
  refine rnd ?_
  refine c_seq ?_
  refine reg_plain w0 (Nobody) ?_
  refine r_lss hS hH.kp0 rfl rfl rfl ?_; clear hS; intro a hS
  refine Sq.nil ?_
  refine then_n ?_
  refine c_seq ?_
  refine c_condT hS rfl rfl ?_
  refine wp_skip ?_
  refine then_n ?_
  refine c_seq ?_
  refine wp_block ?_
  refine c_seq ?_
  refine reg_plain w0 (Nobody) ?_
  refine r_move hS hH.kp0 rfl rfl ?_; clear hS; intro a hS
  refine r_assign hS hH.kp0 rfl rfl ?_; clear hS; intro a hS
  refine Sq.nil ?_
  refine then_n ?_
  refine reg_plain w0 (Nobody) ?_
  refine r_move hS hH.kp0 rfl rfl ?_; clear hS; intro a hS
  (first | refine r_mul hS hH.kp0 rfl rfl rfl (by omega) ?_ | refine r_mulw hS hH.kp0 rfl rfl rfl ?_)
  clear hS; intro a hS
  refine r_move hS hH.kp0 rfl rfl ?_; clear hS; intro a hS
  (first | refine r_add hS hH.kp0 rfl rfl rfl (by omega) ?_ | refine r_addw hS hH.kp0 rfl rfl rfl ?_)
  clear hS; intro a hS
  refine r_move hS hH.kp0 rfl rfl ?_; clear hS; intro a hS
  refine r_move hS hH.kp0 rfl rfl ?_; clear hS; intro a hS
  (first | refine r_mul hS hH.kp0 rfl rfl rfl (by omega) ?_ | refine r_mulw hS hH.kp0 rfl rfl rfl ?_)
  clear hS; intro a hS
  (first | refine r_sub hS hH.kp0 rfl rfl rfl (by omega) ?_ | refine r_subw hS hH.kp0 rfl rfl rfl ?_)
  clear hS; intro a hS
  refine r_shrN (m := mixN (2 * n + 1)) 32 (mixN (2 * n + 1) >>> 32) hS hH.kp0 rfl rfl rfl (by omega) (by decide) rfl ?_; clear hS; intro a hS
  refine r_toU8 (q := mixN (2 * n + 1) >>> 32) (nmB n 11) hS hH.kp0 rfl Fc.ui5 Fc.us81 rfl rfl ?_; clear hS; intro a hS
  refine r_indexAddrA (j := 11) hS hH.kp0 rfl rfl Fc.ar26 (by omega) (by decide) rfl ?_; clear hS; intro a hS
  refine r_store1 hS hH rfl rfl rfl (by repeat (first | exact .here | apply In.there | apply Put.there | apply Del.there)) (by repeat (first | exact Sub.nil | refine Sub.cons ?_ ?_ | exact In.here | refine In.there ?_)) Fc.sz5 (of_decide_eq_true rfl) (.inr hb2) ?_
  clear hH; intro w hH
  replace hH : Hp w0 Nobody [(b2, .cells ([byteV (nmB n 0), byteV (nmB n 1), byteV (nmB n 2), byteV (nmB n 3), byteV (nmB n 4), byteV (nmB n 5), byteV (nmB n 6), byteV (nmB n 7), byteV (nmB n 8), byteV (nmB n 9), byteV (nmB n 10), byteV (nmB n 11), .int .u8 0, .int .u8 0, .int .u8 0, .int .u8 0] : List Value).toArray 26 (0, 0))] w := hH
  refine Sq.nil ?_
  refine blk_n ?_
  refine then_n ?_
  refine reg_plain w0 (Nobody) ?_
  (first | refine r_add hS hH.kp0 rfl rfl rfl (by omega) ?_ | refine r_addw hS hH.kp0 rfl rfl rfl ?_)
  clear hS; intro a hS
  refine r_move hS hH.kp0 rfl rfl ?_; clear hS; intro a hS
  refine Sq.nil ?_
  refine then_n ?_
  refine rnd ?_
  refine c_seq ?_
  refine reg_plain w0 (Nobody) ?_
  refine r_lss hS hH.kp0 rfl rfl rfl ?_; clear hS; intro a hS
  refine Sq.nil ?_
  refine then_n ?_
  refine c_seq ?_
  refine c_condT hS rfl rfl ?_
  refine wp_skip ?_
  refine then_n ?_
  refine c_seq ?_
  refine wp_block ?_
  refine c_seq ?_
  refine reg_plain w0 (Nobody) ?_
  refine r_move hS hH.kp0 rfl rfl ?_; clear hS; intro a hS
  refine r_assign hS hH.kp0 rfl rfl ?_; clear hS; intro a hS
  refine Sq.nil ?_
  refine then_n ?_
  refine reg_plain w0 (Nobody) ?_
  refine r_move hS hH.kp0 rfl rfl ?_; clear hS; intro a hS
  (first | refine r_mul hS hH.kp0 rfl rfl rfl (by omega) ?_ | refine r_mulw hS hH.kp0 rfl rfl rfl ?_)
  clear hS; intro a hS
  refine r_move hS hH.kp0 rfl rfl ?_; clear hS; intro a hS
  (first | refine r_add hS hH.kp0 rfl rfl rfl (by omega) ?_ | refine r_addw hS hH.kp0 rfl rfl rfl ?_)
  clear hS; intro a hS
  refine r_move hS hH.kp0 rfl rfl ?_; clear hS; intro a hS
  refine r_move hS hH.kp0 rfl rfl ?_; clear hS; intro a hS
  (first | refine r_mul hS hH.kp0 rfl rfl rfl (by omega) ?_ | refine r_mulw hS hH.kp0 rfl rfl rfl ?_)
  clear hS; intro a hS
  (first | refine r_sub hS hH.kp0 rfl rfl rfl (by omega) ?_ | refine r_subw hS hH.kp0 rfl rfl rfl ?_)
  clear hS; intro a hS
  refine r_shrN (m := mixN (2 * n + 1)) 24 (mixN (2 * n + 1) >>> 24) hS hH.kp0 rfl rfl rfl (by omega) (by decide) rfl ?_; clear hS; intro a hS
  refine r_toU8 (q := mixN (2 * n + 1) >>> 24) (nmB n 12) hS hH.kp0 rfl Fc.ui5 Fc.us81 rfl rfl ?_; clear hS; intro a hS
  refine r_indexAddrA (j := 12) hS hH.kp0 rfl rfl Fc.ar26 (by omega) (by decide) rfl ?_; clear hS; intro a hS
  refine r_store1 hS hH rfl rfl rfl (by repeat (first | exact .here | apply In.there | apply Put.there | apply Del.there)) (by repeat (first | exact Sub.nil | refine Sub.cons ?_ ?_ | exact In.here | refine In.there ?_)) Fc.sz5 (of_decide_eq_true rfl) (.inr hb2) ?_
  clear hH; intro w hH
  replace hH : Hp w0 Nobody [(b2, .cells ([byteV (nmB n 0), byteV (nmB n 1), byteV (nmB n 2), byteV (nmB n 3), byteV (nmB n 4), byteV (nmB n 5), byteV (nmB n 6), byteV (nmB n 7), byteV (nmB n 8), byteV (nmB n 9), byteV (nmB n 10), byteV (nmB n 11), byteV (nmB n 12), .int .u8 0, .int .u8 0, .int .u8 0] : List Value).toArray 26 (0, 0))] w := hH
  refine Sq.nil ?_
  refine blk_n ?_
  refine then_n ?_
  refine reg_plain w0 (Nobody) ?_
  (first | refine r_add hS hH.kp0 rfl rfl rfl (by omega) ?_ | refine r_addw hS hH.kp0 rfl rfl rfl ?_)
  clear hS; intro a hS
  refine r_move hS hH.kp0 rfl rfl ?_; clear hS; intro a hS
  refine Sq.nil ?_
  refine then_n ?_
  refine rnd ?_
  refine c_seq ?_
  refine reg_plain w0 (Nobody) ?_
  refine r_lss hS hH.kp0 rfl rfl rfl ?_; clear hS; intro a hS
  refine Sq.nil ?_
  refine then_n ?_
  refine c_seq ?_
  refine c_condT hS rfl rfl ?_
  refine wp_skip ?_
  refine then_n ?_
  refine c_seq ?_
  refine wp_block ?_
  refine c_seq ?_
  refine reg_plain w0 (Nobody) ?_
  refine r_move hS hH.kp0 rfl rfl ?_; clear hS; intro a hS
  refine r_assign hS hH.kp0 rfl rfl ?_; clear hS; intro a hS
  refine Sq.nil ?_
  refine then_n ?_
  refine reg_plain w0 (Nobody) ?_
  refine r_move hS hH.kp0 rfl rfl ?_; clear hS; intro a hS
  (first | refine r_mul hS hH.kp0 rfl rfl rfl (by omega) ?_ | refine r_mulw hS hH.kp0 rfl rfl rfl ?_)
  clear hS; intro a hS
  refine r_move hS hH.kp0 rfl rfl ?_; clear hS; intro a hS
  (first | refine r_add hS hH.kp0 rfl rfl rfl (by omega) ?_ | refine r_addw hS hH.kp0 rfl rfl rfl ?_)
  clear hS; intro a hS
  refine r_move hS hH.kp0 rfl rfl ?_; clear hS; intro a hS
  refine r_move hS hH.kp0 rfl rfl ?_; clear hS; intro a hS
  (first | refine r_mul hS hH.kp0 rfl rfl rfl (by omega) ?_ | refine r_mulw hS hH.kp0 rfl rfl rfl ?_)
  clear hS; intro a hS
  (first | refine r_sub hS hH.kp0 rfl rfl rfl (by omega) ?_ | refine r_subw hS hH.kp0 rfl rfl rfl ?_)
  clear hS; intro a hS
  refine r_shrN (m := mixN (2 * n + 1)) 16 (mixN (2 * n + 1) >>> 16) hS hH.kp0 rfl rfl rfl (by omega) (by decide) rfl ?_; clear hS; intro a hS
  refine r_toU8 (q := mixN (2 * n + 1) >>> 16) (nmB n 13) hS hH.kp0 rfl Fc.ui5 Fc.us81 rfl rfl ?_; clear hS; intro a hS
  refine r_indexAddrA (j := 13) hS hH.kp0 rfl rfl Fc.ar26 (by omega) (by decide) rfl ?_; clear hS; intro a hS
  refine r_store1 hS hH rfl rfl rfl (by repeat (first | exact .here | apply In.there | apply Put.there | apply Del.there)) (by repeat (first | exact Sub.nil | refine Sub.cons ?_ ?_ | exact In.here | refine In.there ?_)) Fc.sz5 (of_decide_eq_true rfl) (.inr hb2) ?_
  clear hH; intro w hH
  replace hH : Hp w0 Nobody [(b2, .cells ([byteV (nmB n 0), byteV (nmB n 1), byteV (nmB n 2), byteV (nmB n 3), byteV (nmB n 4), byteV (nmB n 5), byteV (nmB n 6), byteV (nmB n 7), byteV (nmB n 8), byteV (nmB n 9), byteV (nmB n 10), byteV (nmB n 11), byteV (nmB n 12), byteV (nmB n 13), .int .u8 0, .int .u8 0] : List Value).toArray 26 (0, 0))] w := hH
  refine Sq.nil ?_
  refine blk_n ?_
  refine then_n ?_
  refine reg_plain w0 (Nobody) ?_
  (first | refine r_add hS hH.kp0 rfl rfl rfl (by omega) ?_ | refine r_addw hS hH.kp0 rfl rfl rfl ?_)
  clear hS; intro a hS
  refine r_move hS hH.kp0 rfl rfl ?_; clear hS; intro a hS
  refine Sq.nil ?_
  refine then_n ?_
  refine rnd ?_
  refine c_seq ?_
  refine reg_plain w0 (Nobody) ?_
  refine r_lss hS hH.kp0 rfl rfl rfl ?_; clear hS; intro a hS
  refine Sq.nil ?_
  refine then_n ?_
  refine c_seq ?_
  refine c_condT hS rfl rfl ?_
  refine wp_skip ?_
  refine then_n ?_
  refine c_seq ?_
  refine wp_block ?_
  refine c_seq ?_
  refine reg_plain w0 (Nobody) ?_
  refine r_move hS hH.kp0 rfl rfl ?_; clear hS; intro a hS
  refine r_assign hS hH.kp0 rfl rfl ?_; clear hS; intro a hS
  refine Sq.nil ?_
  refine then_n ?_
  refine reg_plain w0 (Nobody) ?_
  refine r_move hS hH.kp0 rfl rfl ?_; clear hS; intro a hS
  (first | refine r_mul hS hH.kp0 rfl rfl rfl (by omega) ?_ | refine r_mulw hS hH.kp0 rfl rfl rfl ?_)
  clear hS; intro a hS
  refine r_move hS hH.kp0 rfl rfl ?_; clear hS; intro a hS
  (first | refine r_add hS hH.kp0 rfl rfl rfl (by omega) ?_ | refine r_addw hS hH.kp0 rfl rfl rfl ?_)
  clear hS; intro a hS
  refine r_move hS hH.kp0 rfl rfl ?_; clear hS; intro a hS
  refine r_move hS hH.kp0 rfl rfl ?_; clear hS; intro a hS
  (first | refine r_mul hS hH.kp0 rfl rfl rfl (by omega) ?_ | refine r_mulw hS hH.kp0 rfl rfl rfl ?_)
  clear hS; intro a hS
  (first | refine r_sub hS hH.kp0 rfl rfl rfl (by omega) ?_ | refine r_subw hS hH.kp0 rfl rfl rfl ?_)
  clear hS; intro a hS
  refine r_shrN (m := mixN (2 * n + 1)) 8 (mixN (2 * n + 1) >>> 8) hS hH.kp0 rfl rfl rfl (by omega) (by decide) rfl ?_; clear hS; intro a hS
  refine r_toU8 (q := mixN (2 * n + 1) >>> 8) (nmB n 14) hS hH.kp0 rfl Fc.ui5 Fc.us81 rfl rfl ?_; clear hS; intro a hS
  refine r_indexAddrA (j := 14) hS hH.kp0 rfl rfl Fc.ar26 (by omega) (by decide) rfl ?_; clear hS; intro a hS
  refine r_store1 hS hH rfl rfl rfl (by repeat (first | exact .here | apply In.there | apply Put.there | apply Del.there)) (by repeat (first | exact Sub.nil | refine Sub.cons ?_ ?_ | exact In.here | refine In.there ?_)) Fc.sz5 (of_decide_eq_true rfl) (.inr hb2) ?_
  clear hH; intro w hH
  replace hH : Hp w0 Nobody [(b2, .cells ([byteV (nmB n 0), byteV (nmB n 1), byteV (nmB n 2), byteV (nmB n 3), byteV (nmB n 4), byteV (nmB n 5), byteV (nmB n 6), byteV (nmB n 7), byteV (nmB n 8), byteV (nmB n 9), byteV (nmB n 10), byteV (nmB n 11), byteV (nmB n 12), byteV (nmB n 13), byteV (nmB n 14), .int .u8 0] : List Value).toArray 26 (0, 0))] w := hH
  refine Sq.nil ?_
  refine blk_n ?_
  refine then_n ?_
  refine reg_plain w0 (Nobody) ?_
  (first | refine r_add hS hH.kp0 rfl rfl rfl (by omega) ?_ | refine r_addw hS hH.kp0 rfl rfl rfl ?_)
  clear hS; intro a hS
  refine r_move hS hH.kp0 rfl rfl ?_; clear hS; intro a hS
  refine Sq.nil ?_
  refine then_n ?_
  refine rnd ?_
  refine c_seq ?_
  refine reg_plain w0 (Nobody) ?_
  refine r_lss hS hH.kp0 rfl rfl rfl ?_; clear hS; intro a hS
  refine Sq.nil ?_
  refine then_n ?_
  refine c_seq ?_
  refine c_condT hS rfl rfl ?_
  refine wp_skip ?_
  refine then_n ?_
  refine c_seq ?_
  refine wp_block ?_
  refine c_seq ?_
  refine reg_plain w0 (Nobody) ?_
  refine r_move hS hH.kp0 rfl rfl ?_; clear hS; intro a hS
  refine r_assign hS hH.kp0 rfl rfl ?_; clear hS; intro a hS
  refine Sq.nil ?_
  refine then_n ?_
  refine reg_plain w0 (Nobody) ?_
  refine r_move hS hH.kp0 rfl rfl ?_; clear hS; intro a hS
  (first | refine r_mul hS hH.kp0 rfl rfl rfl (by omega) ?_ | refine r_mulw hS hH.kp0 rfl rfl rfl ?_)
  clear hS; intro a hS
  refine r_move hS hH.kp0 rfl rfl ?_; clear hS; intro a hS
  (first | refine r_add hS hH.kp0 rfl rfl rfl (by omega) ?_ | refine r_addw hS hH.kp0 rfl rfl rfl ?_)
  clear hS; intro a hS
  refine r_move hS hH.kp0 rfl rfl ?_; clear hS; intro a hS
  refine r_move hS hH.kp0 rfl rfl ?_; clear hS; intro a hS
  (first | refine r_mul hS hH.kp0 rfl rfl rfl (by omega) ?_ | refine r_mulw hS hH.kp0 rfl rfl rfl ?_)
  clear hS; intro a hS
  (first | refine r_sub hS hH.kp0 rfl rfl rfl (by omega) ?_ | refine r_subw hS hH.kp0 rfl rfl rfl ?_)
  clear hS; intro a hS
  refine r_shrN (m := mixN (2 * n + 1)) 0 (mixN (2 * n + 1) >>> 0) hS hH.kp0 rfl rfl rfl (by omega) (by decide) rfl ?_; clear hS; intro a hS
  refine r_toU8 (q := mixN (2 * n + 1) >>> 0) (nmB n 15) hS hH.kp0 rfl Fc.ui5 Fc.us81 rfl rfl ?_; clear hS; intro a hS
  refine r_indexAddrA (j := 15) hS hH.kp0 rfl rfl Fc.ar26 (by omega) (by decide) rfl ?_; clear hS; intro a hS
  refine r_store1 hS hH rfl rfl rfl (by repeat (first | exact .here | apply In.there | apply Put.there | apply Del.there)) (by repeat (first | exact Sub.nil | refine Sub.cons ?_ ?_ | exact In.here | refine In.there ?_)) Fc.sz5 (of_decide_eq_true rfl) (.inr hb2) ?_
  clear hH; intro w hH
  replace hH : Hp w0 Nobody [(b2, .cells ([byteV (nmB n 0), byteV (nmB n 1), byteV (nmB n 2), byteV (nmB n 3), byteV (nmB n 4), byteV (nmB n 5), byteV (nmB n 6), byteV (nmB n 7), byteV (nmB n 8), byteV (nmB n 9), byteV (nmB n 10), byteV (nmB n 11), byteV (nmB n 12), byteV (nmB n 13), byteV (nmB n 14), byteV (nmB n 15)] : List Value).toArray 26 (0, 0))] w := hH
  refine Sq.nil ?_
  refine blk_n ?_
  refine then_n ?_
  refine reg_plain w0 (Nobody) ?_
  (first | refine r_add hS hH.kp0 rfl rfl rfl (by omega) ?_ | refine r_addw hS hH.kp0 rfl rfl rfl ?_)
  clear hS; intro a hS
  refine r_move hS hH.kp0 rfl rfl ?_; clear hS; intro a hS
  refine Sq.nil ?_
  refine then_n ?_
  refine rnd ?_
  refine c_seq ?_
  refine reg_plain w0 (Nobody) ?_
  refine r_lss hS hH.kp0 rfl rfl rfl ?_; clear hS; intro a hS
  refine Sq.nil ?_
  refine then_n ?_
  refine c_seq ?_
  refine c_condF hS rfl rfl ?_
  refine wp_exit ?_
  refine then_e ?_
  refine then_e ?_
  refine blk_hit ?_
  refine blk_n ?_
  refine then_n ?_
  refine reg_plain w0 (Nobody) ?_
  (first | refine r_add hS hH.kp0 rfl rfl rfl (by omega) ?_ | refine r_addw hS hH.kp0 rfl rfl rfl ?_)
  clear hS; intro a hS
  refine r_move hS hH.kp0 rfl rfl ?_; clear hS; intro a hS
  refine Sq.nil ?_
  refine then_n ?_
  refine rnd ?_
  refine c_seq ?_
  refine reg_plain w0 (Nobody) ?_
  refine r_lss hS hH.kp0 rfl rfl rfl ?_; clear hS; intro a hS
  refine Sq.nil ?_
  refine then_n ?_
  refine c_seq ?_
  refine c_condF hS rfl rfl ?_
  refine wp_exit ?_
  refine then_e ?_
  refine then_e ?_
  refine blk_hit ?_
  refine then_n ?_
  refine c_seq ?_
  refine reg_plain w0 (Nobody) ?_
  refine r_load_row hS hH (by repeat (first | exact Sub.nil | refine Sub.cons ?_ ?_ | exact In.here | refine In.there ?_)) rfl (by repeat (first | exact In.here | refine In.there ?_)) Fc.ag26 (by rfl) rfl ?_; clear hS; intro a hS
  refine r_store_row hS hH rfl rfl (by repeat (first | exact .here | apply In.there | apply Put.there | apply Del.there)) (by repeat (first | exact Sub.nil | refine Sub.cons ?_ ?_ | exact In.here | refine In.there ?_)) Fc.sz26 (by first | exact hcells_one _ | exact of_decide_eq_true rfl) (by rfl) (by first | exact .inr (by assumption) | exact .inl (by first | assumption | rfl)) ?_
  clear hH; intro w hH
  refine Sq.nil ?_
  refine then_n ?_
  refine wp_ret ?_
  exact leave (.inl rfl) hS rfl (Res.cell rfl (hH.get (by repeat (first | exact In.here | refine In.there ?_))) Fc.ag26 (by rfl) rfl Res.nil) ⟨nm n, rfl, rfl, hH.mod⟩

end Go.Proofs.YtcjmehononbadaaDoor

namespace Go.Proofs.YtcjmehononbadaaDoor
open Go.Sym

theorem Fc.ag64 : agB Tryd.prog 64 = some 7 := by kernel_rfl
theorem Fc.bsl37_1 : bslB Tryd.prog 37 1 = some (64, 7, [.int .i64 0, .int .i64 0, .int .i64 0, .int .i64 0, .string .empty, .string .empty, .string .empty]) := by kernel_rfl
theorem Fc.elT : elB Tryd.prog 37 = some (64, 7, 80) := by kernel_rfl
theorem Fc.fn30 : isFn Tryd.prog 30 = true := by kernel_rfl
theorem Fc.fo41_0 : foff Tryd.prog 41 0 = some 0 := by kernel_rfl
theorem Fc.fo41_1 : foff Tryd.prog 41 1 = some 1 := by kernel_rfl
theorem Fc.fo41_2 : foff Tryd.prog 41 2 = some 2 := by kernel_rfl
theorem Fc.fo64_0 : foff Tryd.prog 64 0 = some 0 := by kernel_rfl
theorem Fc.isSlice37 : isSlice Tryd.prog 37 = true := by kernel_rfl
theorem Fc.niT : notInt Tryd.prog 37 = true := by kernel_rfl
theorem Fc.sc3 : scB Tryd.prog 3 = true := by kernel_rfl
theorem Fc.sc37 : scB Tryd.prog 37 = true := by kernel_rfl
theorem Fc.sc38 : scB Tryd.prog 38 = true := by kernel_rfl
theorem Fc.sc39 : scB Tryd.prog 39 = true := by kernel_rfl
theorem Fc.sz37 : sizeB Tryd.prog 37 1 = true := by kernel_rfl
set_option maxRecDepth 100000 in
set_option maxHeartbeats 400000 in
theorem make_old (b : Nat) (V : VB) (ts : List Tm) (t : Tm) (ht : t.ok) (hk : t.kind ≠ 1) (i : Nat) (hi : ts[i]? = some t) (hm : ts.length ≤ 1000000000) (w0 : World) (hvi : VI w0 b V ts) :
    Calls Tryd.prog 23 #[.pointer (some ⟨b, 0, none⟩), tv t] w0 fun e w' => ∃ h, e = .returned (hnd h) ∧ h = nm i ∧ Ext w0 w' := by
  refine enter Tryd.func23 rfl rfl rfl ?_
  intro a hS
  have hH := Hp.start w0 (Nobody)
  obtain ⟨sb, fb, nb, cap, l, es, c, es2, c2⟩ := V
  replace hH : Hp w0 Nobody [(b, .cells [.slice (some ⟨sb, 0, none⟩) ts.length cap, .map (some fb), .map (some nb)].toArray 41 (0, 0)), (sb, .cells l.toArray 64 (0, 0)), (fb, .map es c), (nb, .map es2 c2)] w0 := hH.knowV hvi (by intro p hp; simp at hp)
  obtain ⟨g1, hm1, hf1⟩ := hvi.ok.found
  obtain ⟨lx, hkt⟩ := Fc.tm.keyOf ht
  have hg := hf1.none_ t i hi hk
  have e1 : orZ (g1 (tv t)) (.int .i64 0) = .int .i64 (i : Int) := by rw [hg]; rfl
  have e2 : (g1 (tv t)).isSome = true := by rw [hg]; rfl
  have hil := (List.getElem?_eq_some_iff.1 hi).1
  refine c_seq ?_
  refine reg_plain w0 (Nobody) ?_
  refine r_box hS hH (by repeat (first | exact Sub.nil | refine Sub.cons ?_ ?_ | exact In.here | refine In.there ?_)) rfl rfl rfl ?_
  clear hS hH; intro a w b3 hb3 hwb3 hS hH
  refine r_alloc hS hH (by repeat (first | exact Sub.nil | refine Sub.cons ?_ ?_ | exact In.here | refine In.there ?_)) Fc.zc26 rfl ?_
  clear hS hH; intro a w b4 hb4 hwb4 hS hH
  refine Sq.nil ?_
  refine then_n ?_
  refine c_seq ?_
  refine c_seq ?_
  refine reg_draw [(true, 0, []), (true, 1, []), (true, 2, []), (true, 3, []), (true, 4, []), (true, 5, []), (true, 6, []), (true, 7, []), (true, 8, []), (true, 9, []), (true, 10, [])] Fc.mixed (by kernel_rfl) (by kernel_rfl) (by kernel_rfl) (by kernel_rfl) (by kernel_rfl) (by repeat (first | with_reducible exact steady_body | with_reducible apply steady_block | with_reducible apply steady_then | exact steady_body)) hH ?_
  replace hH := hH.drew
  refine r_move hS trivial rfl rfl ?_; clear hS; intro a hS
  refine r_nilCheck hS trivial rfl rfl ?_; clear hS; intro a hS
  refine r_fieldAddr hS trivial rfl Fc.fo41_1 rfl ?_; clear hS; intro a hS
  refine r_load_scS hS rfl (by repeat (first | exact In.here | refine In.there ?_)) Fc.sc38 (by rfl) rfl ?_; clear hS; intro a hS
  refine r_load_rowS hS rfl (by repeat (first | exact In.here | refine In.there ?_)) Fc.ag64 (by rfl) rfl ?_; clear hS; intro a hS
  refine r_lookupS2 Fc.mtF hS rfl rfl (by repeat (first | exact In.here | refine In.there ?_)) hm1 hkt e1 e2 rfl ?_; clear hS; intro a hS
  refine r_move hS trivial rfl rfl ?_; clear hS; intro a hS
  refine r_extract hS trivial rfl rfl rfl ?_; clear hS; intro a hS
  refine r_extract hS trivial rfl rfl rfl ?_; clear hS; intro a hS
  refine r_assign hS trivial rfl rfl ?_; clear hS; intro a hS
  refine r_assign hS trivial rfl rfl ?_; clear hS; intro a hS
  refine Sq.nil ?_
  refine then_n ?_
  refine c_seq ?_
  refine reg_plain w0 (Nobody) ?_
  refine r_move hS hH.kp0 rfl rfl ?_; clear hS; intro a hS
  refine r_move hS hH.kp0 rfl rfl ?_; clear hS; intro a hS
  refine Sq.guardYes hS rfl rfl rfl ?_
  refine r_fieldAddr hS hH.kp0 rfl Fc.fo64_0 rfl ?_; clear hS; intro a hS
  refine Sq.guardYes hS rfl rfl rfl ?_
  refine r_load_sc hS hH (by repeat (first | exact Sub.nil | refine Sub.cons ?_ ?_ | exact In.here | refine In.there ?_)) rfl (by repeat (first | exact In.here | refine In.there ?_)) Fc.sc3 (by rfl) rfl ?_; clear hS; intro a hS
  refine Sq.guardYes hS rfl rfl rfl ?_
  refine r_neq hS hH.kp0 rfl rfl rfl ?_; clear hS; intro a hS
  refine r_pickT hS hH.kp0 rfl rfl rfl rfl ?_; clear hS; intro a hS
  refine Sq.nil ?_
  refine then_n ?_
  refine c_condT hS rfl (by simpa using hk) ?_
  refine c_seq ?_
  refine reg_plain w0 (Nobody) ?_
  refine r_move hS hH.kp0 rfl rfl ?_; clear hS; intro a hS
  refine r_call (l := [.tmp 23]) hS rfl rfl Fc.fn30 rfl ?_
  refine Calls.mono (name_c i (by omega) _) ?_
  rintro e w1 ⟨h, rfl, hqx, hE⟩
  obtain ⟨x0, x1, x2, x3, x4, x5, x6, x7, x8, x9, xa, xb, xc, xd, xe, xf, rfl⟩ := len16 (h := h) (by rw [hqx]; rfl)
  replace hH := hH.ext hE
  refine ⟨_, rfl, hH.kp0, ?_⟩
  clear hS; intro a hS
  refine r_store_row hS hH rfl rfl (by repeat (first | exact .here | apply In.there | apply Put.there | apply Del.there)) (by repeat (first | exact Sub.nil | refine Sub.cons ?_ ?_ | exact In.here | refine In.there ?_)) Fc.sz26 (by first | exact hcells_one _ | exact of_decide_eq_true rfl) (by rfl) (by first | exact .inr (by assumption) | exact .inl (by first | assumption | rfl)) ?_
  clear hH; intro w hH
  refine Sq.nil ?_
  refine then_n ?_
  refine wp_ret ?_
  refine then_r ?_
  exact leave (.inl rfl) hS rfl (Res.cell rfl (hH.get (by repeat (first | exact In.here | refine In.there ?_))) Fc.ag26 (by rfl) rfl Res.nil) ⟨_, rfl, hqx, hH.mod⟩

set_option maxRecDepth 100000 in
set_option maxHeartbeats 1000000 in
theorem make_no (b : Nat) (V : VB) (ts : List Tm) (t : Tm) (ht : t.ok) (hn : t.kind = 1 ∨ t ∉ ts) (e1 : ∀ g, MapOk Tryd.prog 64 V.es g → Fnd ts g → orZ (g (tv t)) (.int .i64 0) = .int .i64 0) (e2 : ∀ g, MapOk Tryd.prog 64 V.es g → Fnd ts g → (g (tv t)).isSome = false) (hm : ts.length ≤ 1000000000) (w0 : World) (hvi : VI w0 b V ts) :
    Calls Tryd.prog 23 #[.pointer (some ⟨b, 0, none⟩), tv t] w0 fun e w' => ∃ h V', e = .returned (hnd h) ∧ h = nm ts.length ∧ VI w' b V' (ts ++ [t]) ∧ VStep w0 w' b V V' := by
  refine enter Tryd.func23 rfl rfl rfl ?_
  intro a hS
  have hH := Hp.start w0 (V.F b)
  obtain ⟨sb, fb, nb, cap, l, es, c, es2, c2⟩ := V
  replace hH : Hp w0 (VB.F b ⟨sb, fb, nb, cap, l, es, c, es2, c2⟩) [(b, .cells [.slice (some ⟨sb, 0, none⟩) ts.length cap, .map (some fb), .map (some nb)].toArray 41 (0, 0)), (sb, .cells l.toArray 64 (0, 0)), (fb, .map es c), (nb, .map es2 c2)] w0 := hH.knowV hvi (by intro p hp; simp at hp)
  obtain ⟨g1, hm1, hf1⟩ := hvi.ok.found
  obtain ⟨g2, hm2, hf2⟩ := hvi.ok.names
  obtain ⟨lx, hkt⟩ := Fc.tm.keyOf ht
  obtain ⟨g1', hs1⟩ := exists_set g1 (tv t) (.int .i64 (ts.length : Int))
  obtain ⟨g2', hs2⟩ := exists_set g2 (hnd (nm ts.length)) (.int .i64 (ts.length : Int))
  refine c_seq ?_
  refine reg_plain w0 (VB.F b ⟨sb, fb, nb, cap, l, es, c, es2, c2⟩) ?_
  refine r_box hS hH (by repeat (first | exact Sub.nil | refine Sub.cons ?_ ?_ | exact In.here | refine In.there ?_)) rfl rfl rfl ?_
  clear hS hH; intro a w b3 hb3 hwb3 hS hH
  refine r_alloc hS hH (by repeat (first | exact Sub.nil | refine Sub.cons ?_ ?_ | exact In.here | refine In.there ?_)) Fc.zc26 rfl ?_
  clear hS hH; intro a w b4 hb4 hwb4 hS hH
  refine Sq.nil ?_
  refine then_n ?_
  refine c_seq ?_
  refine c_seq ?_
  refine reg_draw [(true, 0, []), (true, 1, []), (true, 2, []), (true, 3, []), (true, 4, []), (true, 5, []), (true, 6, []), (true, 7, []), (true, 8, []), (true, 9, []), (true, 10, [])] Fc.mixed (by kernel_rfl) (by kernel_rfl) (by kernel_rfl) (by kernel_rfl) (by kernel_rfl) (by repeat (first | with_reducible exact steady_body | with_reducible apply steady_block | with_reducible apply steady_then | exact steady_body)) hH ?_
  replace hH := hH.drew
  refine r_move hS trivial rfl rfl ?_; clear hS; intro a hS
  refine r_nilCheck hS trivial rfl rfl ?_; clear hS; intro a hS
  refine r_fieldAddr hS trivial rfl Fc.fo41_1 rfl ?_; clear hS; intro a hS
  refine r_load_scS hS rfl (by repeat (first | exact In.here | refine In.there ?_)) Fc.sc38 (by rfl) rfl ?_; clear hS; intro a hS
  refine r_load_rowS hS rfl (by repeat (first | exact In.here | refine In.there ?_)) Fc.ag64 (by rfl) rfl ?_; clear hS; intro a hS
  refine r_lookupS2 Fc.mtF hS rfl rfl (by repeat (first | exact In.here | refine In.there ?_)) hm1 hkt (e1 g1 hm1 hf1) (e2 g1 hm1 hf1) rfl ?_; clear hS; intro a hS
  refine r_move hS trivial rfl rfl ?_; clear hS; intro a hS
  refine r_extract hS trivial rfl rfl rfl ?_; clear hS; intro a hS
  refine r_extract hS trivial rfl rfl rfl ?_; clear hS; intro a hS
  refine r_assign hS trivial rfl rfl ?_; clear hS; intro a hS
  refine r_assign hS trivial rfl rfl ?_; clear hS; intro a hS
  refine Sq.nil ?_
  refine then_n ?_
  refine c_seq ?_
  refine reg_plain w0 (VB.F b ⟨sb, fb, nb, cap, l, es, c, es2, c2⟩) ?_
  refine r_move hS hH.kp0 rfl rfl ?_; clear hS; intro a hS
  refine r_move hS hH.kp0 rfl rfl ?_; clear hS; intro a hS
  refine Sq.guardNo hS rfl rfl rfl hH.kp0 rfl ?_; clear hS; intro a hS
  refine Sq.guardNo hS rfl rfl rfl hH.kp0 rfl ?_; clear hS; intro a hS
  refine Sq.guardNo hS rfl rfl rfl hH.kp0 rfl ?_; clear hS; intro a hS
  refine r_pickF hS hH.kp0 rfl rfl rfl rfl ?_; clear hS; intro a hS
  refine Sq.nil ?_
  refine then_n ?_
  refine c_condF hS rfl rfl ?_
  refine wp_skip ?_
  refine then_n ?_
  refine c_seq ?_
  refine reg_plain w0 (VB.F b ⟨sb, fb, nb, cap, l, es, c, es2, c2⟩) ?_
  refine r_move hS hH.kp0 rfl rfl ?_; clear hS; intro a hS
  refine r_nilCheck hS hH.kp0 rfl rfl ?_; clear hS; intro a hS
  refine r_fieldAddr hS hH.kp0 rfl Fc.fo41_0 rfl ?_; clear hS; intro a hS
  refine r_load_sc hS hH (by repeat (first | exact Sub.nil | refine Sub.cons ?_ ?_ | exact In.here | refine In.there ?_)) rfl (by repeat (first | exact In.here | refine In.there ?_)) Fc.sc37 (by rfl) rfl ?_; clear hS; intro a hS
  refine r_lenSl hS hH.kp0 rfl Fc.isSlice37 rfl ?_; clear hS; intro a hS
  refine r_assign hS hH.kp0 rfl rfl ?_; clear hS; intro a hS
  refine Sq.nil ?_
  refine then_n ?_
  refine c_seq ?_
  refine reg_draw [(true, 0, [2, 3]), (true, 1, [2, 3]), (true, 2, [2, 3]), (true, 3, [2, 3]), (true, 4, [3]), (true, 5, [2, 3]), (false, 6, []), (false, 7, [3]), (true, 8, [2, 3]), (true, 9, [2, 3]), (false, 10, [2, 3])] Fc.mixed (by kernel_rfl) (by kernel_rfl) (by kernel_rfl) (by kernel_rfl) (by kernel_rfl) (by repeat (first | with_reducible exact steady_body | with_reducible apply steady_block | with_reducible apply steady_then | exact steady_body)) hH ?_
  replace hH := hH.drew
  refine r_move hS trivial rfl rfl ?_; clear hS; intro a hS
  refine r_move hS trivial rfl rfl ?_; clear hS; intro a hS
  refine r_nilCheck hS trivial rfl rfl ?_; clear hS; intro a hS
  refine r_fieldAddr hS trivial rfl Fc.fo41_0 rfl ?_; clear hS; intro a hS
  refine r_load_scS hS rfl (by repeat (first | exact In.here | refine In.there ?_)) Fc.sc37 (by rfl) rfl ?_; clear hS; intro a hS
  refine r_load_rowS hS rfl (by repeat (first | exact In.here | refine In.there ?_)) Fc.ag64 (by rfl) rfl ?_; clear hS; intro a hS
  refine r_buildSlice (parts := [(0, .tmp 35)]) hS hH (by repeat (first | exact Sub.nil | refine Sub.cons ?_ ?_ | exact In.here | refine In.there ?_)) rfl Fc.bsl37_1 (by rfl) rfl ?_
  clear hS hH; intro a w b36 hb36 hwb36 hS hH
  refine r_append_own hS hH rfl rfl (by first | exact .here | exact .there .here | exact .there (.there .here) | exact .there (.there (.there .here)) | exact .there (.there (.there (.there .here))) | exact .there (.there (.there (.there (.there .here)))) | exact .there (.there (.there (.there (.there (.there .here))))) | exact .there (.there (.there (.there (.there (.there (.there .here)))))) | exact .there (.there (.there (.there (.there (.there (.there (.there .here))))))) | exact .there (.there (.there (.there (.there (.there (.there (.there (.there .here)))))))) | exact .there (.there (.there (.there (.there (.there (.there (.there (.there (.there .here))))))))) | exact .there (.there (.there (.there (.there (.there (.there (.there (.there (.there (.there .here)))))))))) | exact .there (.there (.there (.there (.there (.there (.there (.there (.there (.there (.there (.there .here))))))))))) | exact .there (.there (.there (.there (.there (.there (.there (.there (.there (.there (.there (.there (.there .here)))))))))))) | exact .there (.there (.there (.there (.there (.there (.there (.there (.there (.there (.there (.there (.there (.there .here))))))))))))) | exact .there (.there (.there (.there (.there (.there (.there (.there (.there (.there (.there (.there (.there (.there (.there .here))))))))))))))) (by repeat (first | exact Sub.nil | refine Sub.cons ?_ ?_ | exact In.here | refine In.there ?_)) Fc.elT Fc.niT hvi.ok.len hvi.ok.cap (Src.terms (hH.get .here)) (by omega) (.inl (.inr (.inl rfl))) rfl ?_
  clear hS hH; intro a w sb' cap' l2 hsb' hl2 hc2 htk _ hS hH
  refine r_nilCheck hS trivial rfl rfl ?_; clear hS; intro a hS
  refine r_fieldAddr hS trivial rfl Fc.fo41_0 rfl ?_; clear hS; intro a hS
  refine r_store1 hS hH rfl rfl rfl (by repeat (first | exact .here | apply In.there | apply Put.there | apply Del.there)) (by repeat (first | exact Sub.nil | refine Sub.cons ?_ ?_ | exact In.here | refine In.there ?_)) Fc.sz37 (of_decide_eq_true rfl) (.inl (.inl rfl)) ?_
  clear hH; intro w hH
  refine Sq.nil ?_
  refine then_n ?_
  refine c_seq ?_
  refine reg_draw [(true, 0, [5]), (true, 1, [5]), (true, 2, [5]), (true, 3, [5]), (true, 4, [5]), (true, 5, [5]), (false, 6, [5])] Fc.mixed (by kernel_rfl) (by kernel_rfl) (by kernel_rfl) (by kernel_rfl) (by kernel_rfl) (by repeat (first | with_reducible exact steady_body | with_reducible apply steady_block | with_reducible apply steady_then | exact steady_body)) hH ?_
  replace hH := hH.drew
  refine r_move hS trivial rfl rfl ?_; clear hS; intro a hS
  refine r_nilCheck hS trivial rfl rfl ?_; clear hS; intro a hS
  refine r_fieldAddr hS trivial rfl Fc.fo41_1 rfl ?_; clear hS; intro a hS
  refine r_load_scS hS rfl (by repeat (first | exact In.here | refine In.there ?_)) Fc.sc38 (by rfl) rfl ?_; clear hS; intro a hS
  refine r_load_rowS hS rfl (by repeat (first | exact In.here | refine In.there ?_)) Fc.ag64 (by rfl) rfl ?_; clear hS; intro a hS
  refine r_move hS trivial rfl rfl ?_; clear hS; intro a hS
  refine r_mapUpdate2 Fc.mtF hS hH rfl rfl rfl (fun es' clock' => (by first | exact .here | exact .there .here | exact .there (.there .here) | exact .there (.there (.there .here)) | exact .there (.there (.there (.there .here))) | exact .there (.there (.there (.there (.there .here)))) | exact .there (.there (.there (.there (.there (.there .here))))) | exact .there (.there (.there (.there (.there (.there (.there .here)))))) | exact .there (.there (.there (.there (.there (.there (.there (.there .here))))))) | exact .there (.there (.there (.there (.there (.there (.there (.there (.there .here)))))))) | exact .there (.there (.there (.there (.there (.there (.there (.there (.there (.there .here))))))))) | exact .there (.there (.there (.there (.there (.there (.there (.there (.there (.there (.there .here)))))))))) | exact .there (.there (.there (.there (.there (.there (.there (.there (.there (.there (.there (.there .here))))))))))) | exact .there (.there (.there (.there (.there (.there (.there (.there (.there (.there (.there (.there (.there .here)))))))))))) | exact .there (.there (.there (.there (.there (.there (.there (.there (.there (.there (.there (.there (.there (.there .here))))))))))))) | exact .there (.there (.there (.there (.there (.there (.there (.there (.there (.there (.there (.there (.there (.there (.there .here)))))))))))))))) (fun es' clock' => (by repeat (first | exact Sub.nil | refine Sub.cons ?_ ?_ | exact In.here | refine In.there ?_))) hm1 hkt hs1 (.inl (.inr (.inr (.inl rfl)))) ?_
  clear hH; intro w es' c' hm1' hH
  refine Sq.nil ?_
  refine then_n ?_
  refine c_seq ?_
  refine reg_draw [(true, 0, [6]), (true, 1, [6]), (true, 2, [6]), (true, 3, [6]), (true, 4, [6]), (true, 6, [6]), (false, 5, []), (false, 7, [6])] Fc.mixed (by kernel_rfl) (by kernel_rfl) (by kernel_rfl) (by kernel_rfl) (by kernel_rfl) (by repeat (first | with_reducible exact steady_body | with_reducible apply steady_block | with_reducible apply steady_then | exact steady_body)) hH ?_
  replace hH := hH.drew
  refine r_move hS trivial rfl rfl ?_; clear hS; intro a hS
  refine r_nilCheck hS trivial rfl rfl ?_; clear hS; intro a hS
  refine r_fieldAddr hS trivial rfl Fc.fo41_2 rfl ?_; clear hS; intro a hS
  refine r_load_scS hS rfl (by repeat (first | exact In.here | refine In.there ?_)) Fc.sc39 (by rfl) rfl ?_; clear hS; intro a hS
  refine r_move hS trivial rfl rfl ?_; clear hS; intro a hS
  refine r_move hS trivial rfl rfl ?_; clear hS; intro a hS
  refine r_call (l := [.tmp 50]) hS rfl rfl Fc.fn30 rfl ?_
  refine Calls.mono (name_c ts.length (by omega) _) ?_
  rintro e w1 ⟨h, rfl, hqx, hE⟩
  obtain ⟨x0, x1, x2, x3, x4, x5, x6, x7, x8, x9, xa, xb, xc, xd, xe, xf, rfl⟩ := len16 (h := h) (by rw [hqx]; rfl)
  replace hH := hH.ext hE
  refine ⟨_, rfl, hH.kp (by repeat (first | exact Sub.nil | refine Sub.cons ?_ ?_ | exact In.here | refine In.there ?_)), ?_⟩
  clear hS; intro a hS
  refine r_mapUpdate2 Fc.mtN hS hH rfl rfl rfl (fun es' clock' => (by first | exact .here | exact .there .here | exact .there (.there .here) | exact .there (.there (.there .here)) | exact .there (.there (.there (.there .here))) | exact .there (.there (.there (.there (.there .here)))) | exact .there (.there (.there (.there (.there (.there .here))))) | exact .there (.there (.there (.there (.there (.there (.there .here)))))) | exact .there (.there (.there (.there (.there (.there (.there (.there .here))))))) | exact .there (.there (.there (.there (.there (.there (.there (.there (.there .here)))))))) | exact .there (.there (.there (.there (.there (.there (.there (.there (.there (.there .here))))))))) | exact .there (.there (.there (.there (.there (.there (.there (.there (.there (.there (.there .here)))))))))) | exact .there (.there (.there (.there (.there (.there (.there (.there (.there (.there (.there (.there .here))))))))))) | exact .there (.there (.there (.there (.there (.there (.there (.there (.there (.there (.there (.there (.there .here)))))))))))) | exact .there (.there (.there (.there (.there (.there (.there (.there (.there (.there (.there (.there (.there (.there .here))))))))))))) | exact .there (.there (.there (.there (.there (.there (.there (.there (.there (.there (.there (.there (.there (.there (.there .here)))))))))))))))) (fun es' clock' => (by repeat (first | exact Sub.nil | refine Sub.cons ?_ ?_ | exact In.here | refine In.there ?_))) hm2 (Fc.arrH.keyOf (h := [x0, x1, x2, x3, x4, x5, x6, x7, x8, x9, xa, xb, xc, xd, xe, xf]) rfl) (by rw [← hqx] at hs2; exact hs2) (.inl (.inr (.inr (.inr rfl)))) ?_
  clear hH; intro w es2' c2' hm2' hH
  refine Sq.nil ?_
  refine then_n ?_
  refine c_seq ?_
  refine reg_plain w0 (VB.F b ⟨sb, fb, nb, cap, l, es, c, es2, c2⟩) ?_
  refine r_move hS hH.kp0 rfl rfl ?_; clear hS; intro a hS
  refine r_call (l := [.tmp 53]) hS rfl rfl Fc.fn30 rfl ?_
  refine Calls.mono (name_c ts.length (by omega) _) ?_
  rintro e w1 ⟨h, rfl, hqy, hE⟩
  obtain ⟨y0, y1, y2, y3, y4, y5, y6, y7, y8, y9, ya, yb, yc, yd, ye, yf, rfl⟩ := len16 (h := h) (by rw [hqy]; rfl)
  replace hH := hH.ext hE
  refine ⟨_, rfl, hH.kp0, ?_⟩
  clear hS; intro a hS
  refine r_store_row hS hH rfl rfl (by repeat (first | exact .here | apply In.there | apply Put.there | apply Del.there)) (by repeat (first | exact Sub.nil | refine Sub.cons ?_ ?_ | exact In.here | refine In.there ?_)) Fc.sz26 (by first | exact hcells_one _ | exact of_decide_eq_true rfl) (by rfl) (by first | exact .inr (by assumption) | exact .inl (by first | assumption | rfl)) ?_
  clear hH; intro w hH
  refine Sq.nil ?_
  refine then_n ?_
  refine wp_ret ?_
  refine leave (.inl rfl) hS rfl (Res.cell rfl (hH.get (by repeat (first | exact In.here | refine In.there ?_))) Fc.ag26 (by rfl) rfl Res.nil) ?_
  refine ⟨_, ⟨sb', fb, nb, cap', l2, es', c', es2', c2'⟩, rfl, hqy, ?_, ⟨?_, hH.mod⟩⟩
  · refine hH.vin2 (m := ts.length + 1) (hvi.ok.push ht hn (by omega) hm1' hf1 hs1 hm2' hf2 hs2 hl2 hc2 htk) (by simp) ?_ hvi.n23 (by repeat (first | exact In.here | refine In.there ?_)) (by repeat (first | exact In.here | refine In.there ?_)) (by repeat (first | exact In.here | refine In.there ?_)) (by repeat (first | exact In.here | refine In.there ?_))
    intro e; have nd := hH.nd; rw [e] at nd; simp at nd
  · intro x hx
    rcases hx with e | e | e | e
    · exact .inl (.inl e)
    · subst e; exact hsb'
    · exact .inl (.inr (.inr (.inl e)))
    · exact .inl (.inr (.inr (.inr e)))

set_option maxRecDepth 100000 in
set_option maxHeartbeats 1000000 in
theorem make_again (b : Nat) (V : VB) (ts : List Tm) (t : Tm) (ht : t.ok) (hk : t.kind = 1) (i : Nat) (e1 : ∀ g, MapOk Tryd.prog 64 V.es g → Fnd ts g → orZ (g (tv t)) (.int .i64 0) = .int .i64 (i : Int)) (e2 : ∀ g, MapOk Tryd.prog 64 V.es g → Fnd ts g → (g (tv t)).isSome = true) (hm : ts.length ≤ 1000000000) (w0 : World) (hvi : VI w0 b V ts) :
    Calls Tryd.prog 23 #[.pointer (some ⟨b, 0, none⟩), tv t] w0 fun e w' => ∃ h V', e = .returned (hnd h) ∧ h = nm ts.length ∧ VI w' b V' (ts ++ [t]) ∧ VStep w0 w' b V V' := by
  refine enter Tryd.func23 rfl rfl rfl ?_
  intro a hS
  have hH := Hp.start w0 (V.F b)
  obtain ⟨sb, fb, nb, cap, l, es, c, es2, c2⟩ := V
  replace hH : Hp w0 (VB.F b ⟨sb, fb, nb, cap, l, es, c, es2, c2⟩) [(b, .cells [.slice (some ⟨sb, 0, none⟩) ts.length cap, .map (some fb), .map (some nb)].toArray 41 (0, 0)), (sb, .cells l.toArray 64 (0, 0)), (fb, .map es c), (nb, .map es2 c2)] w0 := hH.knowV hvi (by intro p hp; simp at hp)
  obtain ⟨g1, hm1, hf1⟩ := hvi.ok.found
  obtain ⟨g2, hm2, hf2⟩ := hvi.ok.names
  obtain ⟨lx, hkt⟩ := Fc.tm.keyOf ht
  have hn : t.kind = 1 ∨ t ∉ ts := .inl hk
  obtain ⟨g1', hs1⟩ := exists_set g1 (tv t) (.int .i64 (ts.length : Int))
  obtain ⟨g2', hs2⟩ := exists_set g2 (hnd (nm ts.length)) (.int .i64 (ts.length : Int))
  refine c_seq ?_
  refine reg_plain w0 (VB.F b ⟨sb, fb, nb, cap, l, es, c, es2, c2⟩) ?_
  refine r_box hS hH (by repeat (first | exact Sub.nil | refine Sub.cons ?_ ?_ | exact In.here | refine In.there ?_)) rfl rfl rfl ?_
  clear hS hH; intro a w b3 hb3 hwb3 hS hH
  refine r_alloc hS hH (by repeat (first | exact Sub.nil | refine Sub.cons ?_ ?_ | exact In.here | refine In.there ?_)) Fc.zc26 rfl ?_
  clear hS hH; intro a w b4 hb4 hwb4 hS hH
  refine Sq.nil ?_
  refine then_n ?_
  refine c_seq ?_
  refine c_seq ?_
  refine reg_draw [(true, 0, []), (true, 1, []), (true, 2, []), (true, 3, []), (true, 4, []), (true, 5, []), (true, 6, []), (true, 7, []), (true, 8, []), (true, 9, []), (true, 10, [])] Fc.mixed (by kernel_rfl) (by kernel_rfl) (by kernel_rfl) (by kernel_rfl) (by kernel_rfl) (by repeat (first | with_reducible exact steady_body | with_reducible apply steady_block | with_reducible apply steady_then | exact steady_body)) hH ?_
  replace hH := hH.drew
  refine r_move hS trivial rfl rfl ?_; clear hS; intro a hS
  refine r_nilCheck hS trivial rfl rfl ?_; clear hS; intro a hS
  refine r_fieldAddr hS trivial rfl Fc.fo41_1 rfl ?_; clear hS; intro a hS
  refine r_load_scS hS rfl (by repeat (first | exact In.here | refine In.there ?_)) Fc.sc38 (by rfl) rfl ?_; clear hS; intro a hS
  refine r_load_rowS hS rfl (by repeat (first | exact In.here | refine In.there ?_)) Fc.ag64 (by rfl) rfl ?_; clear hS; intro a hS
  refine r_lookupS2 Fc.mtF hS rfl rfl (by repeat (first | exact In.here | refine In.there ?_)) hm1 hkt (e1 g1 hm1 hf1) (e2 g1 hm1 hf1) rfl ?_; clear hS; intro a hS
  refine r_move hS trivial rfl rfl ?_; clear hS; intro a hS
  refine r_extract hS trivial rfl rfl rfl ?_; clear hS; intro a hS
  refine r_extract hS trivial rfl rfl rfl ?_; clear hS; intro a hS
  refine r_assign hS trivial rfl rfl ?_; clear hS; intro a hS
  refine r_assign hS trivial rfl rfl ?_; clear hS; intro a hS
  refine Sq.nil ?_
  refine then_n ?_
  refine c_seq ?_
  refine reg_plain w0 (VB.F b ⟨sb, fb, nb, cap, l, es, c, es2, c2⟩) ?_
  refine r_move hS hH.kp0 rfl rfl ?_; clear hS; intro a hS
  refine r_move hS hH.kp0 rfl rfl ?_; clear hS; intro a hS
  refine Sq.guardYes hS rfl rfl rfl ?_
  refine r_fieldAddr hS hH.kp0 rfl Fc.fo64_0 rfl ?_; clear hS; intro a hS
  refine Sq.guardYes hS rfl rfl rfl ?_
  refine r_load_sc hS hH (by repeat (first | exact Sub.nil | refine Sub.cons ?_ ?_ | exact In.here | refine In.there ?_)) rfl (by repeat (first | exact In.here | refine In.there ?_)) Fc.sc3 (by rfl) rfl ?_; clear hS; intro a hS
  refine Sq.guardYes hS rfl rfl rfl ?_
  refine r_neq hS hH.kp0 rfl rfl rfl ?_; clear hS; intro a hS
  refine r_pickT hS hH.kp0 rfl rfl rfl rfl ?_; clear hS; intro a hS
  refine Sq.nil ?_
  refine then_n ?_
  refine c_condF hS rfl (by simp [hk]) ?_
  refine wp_skip ?_
  refine then_n ?_
  refine c_seq ?_
  refine reg_plain w0 (VB.F b ⟨sb, fb, nb, cap, l, es, c, es2, c2⟩) ?_
  refine r_move hS hH.kp0 rfl rfl ?_; clear hS; intro a hS
  refine r_nilCheck hS hH.kp0 rfl rfl ?_; clear hS; intro a hS
  refine r_fieldAddr hS hH.kp0 rfl Fc.fo41_0 rfl ?_; clear hS; intro a hS
  refine r_load_sc hS hH (by repeat (first | exact Sub.nil | refine Sub.cons ?_ ?_ | exact In.here | refine In.there ?_)) rfl (by repeat (first | exact In.here | refine In.there ?_)) Fc.sc37 (by rfl) rfl ?_; clear hS; intro a hS
  refine r_lenSl hS hH.kp0 rfl Fc.isSlice37 rfl ?_; clear hS; intro a hS
  refine r_assign hS hH.kp0 rfl rfl ?_; clear hS; intro a hS
  refine Sq.nil ?_
  refine then_n ?_
  refine c_seq ?_
  refine reg_draw [(true, 0, [2, 3]), (true, 1, [2, 3]), (true, 2, [2, 3]), (true, 3, [2, 3]), (true, 4, [3]), (true, 5, [2, 3]), (false, 6, []), (false, 7, [3]), (true, 8, [2, 3]), (true, 9, [2, 3]), (false, 10, [2, 3])] Fc.mixed (by kernel_rfl) (by kernel_rfl) (by kernel_rfl) (by kernel_rfl) (by kernel_rfl) (by repeat (first | with_reducible exact steady_body | with_reducible apply steady_block | with_reducible apply steady_then | exact steady_body)) hH ?_
  replace hH := hH.drew
  refine r_move hS trivial rfl rfl ?_; clear hS; intro a hS
  refine r_move hS trivial rfl rfl ?_; clear hS; intro a hS
  refine r_nilCheck hS trivial rfl rfl ?_; clear hS; intro a hS
  refine r_fieldAddr hS trivial rfl Fc.fo41_0 rfl ?_; clear hS; intro a hS
  refine r_load_scS hS rfl (by repeat (first | exact In.here | refine In.there ?_)) Fc.sc37 (by rfl) rfl ?_; clear hS; intro a hS
  refine r_load_rowS hS rfl (by repeat (first | exact In.here | refine In.there ?_)) Fc.ag64 (by rfl) rfl ?_; clear hS; intro a hS
  refine r_buildSlice (parts := [(0, .tmp 35)]) hS hH (by repeat (first | exact Sub.nil | refine Sub.cons ?_ ?_ | exact In.here | refine In.there ?_)) rfl Fc.bsl37_1 (by rfl) rfl ?_
  clear hS hH; intro a w b36 hb36 hwb36 hS hH
  refine r_append_own hS hH rfl rfl (by first | exact .here | exact .there .here | exact .there (.there .here) | exact .there (.there (.there .here)) | exact .there (.there (.there (.there .here))) | exact .there (.there (.there (.there (.there .here)))) | exact .there (.there (.there (.there (.there (.there .here))))) | exact .there (.there (.there (.there (.there (.there (.there .here)))))) | exact .there (.there (.there (.there (.there (.there (.there (.there .here))))))) | exact .there (.there (.there (.there (.there (.there (.there (.there (.there .here)))))))) | exact .there (.there (.there (.there (.there (.there (.there (.there (.there (.there .here))))))))) | exact .there (.there (.there (.there (.there (.there (.there (.there (.there (.there (.there .here)))))))))) | exact .there (.there (.there (.there (.there (.there (.there (.there (.there (.there (.there (.there .here))))))))))) | exact .there (.there (.there (.there (.there (.there (.there (.there (.there (.there (.there (.there (.there .here)))))))))))) | exact .there (.there (.there (.there (.there (.there (.there (.there (.there (.there (.there (.there (.there (.there .here))))))))))))) | exact .there (.there (.there (.there (.there (.there (.there (.there (.there (.there (.there (.there (.there (.there (.there .here))))))))))))))) (by repeat (first | exact Sub.nil | refine Sub.cons ?_ ?_ | exact In.here | refine In.there ?_)) Fc.elT Fc.niT hvi.ok.len hvi.ok.cap (Src.terms (hH.get .here)) (by omega) (.inl (.inr (.inl rfl))) rfl ?_
  clear hS hH; intro a w sb' cap' l2 hsb' hl2 hc2 htk _ hS hH
  refine r_nilCheck hS trivial rfl rfl ?_; clear hS; intro a hS
  refine r_fieldAddr hS trivial rfl Fc.fo41_0 rfl ?_; clear hS; intro a hS
  refine r_store1 hS hH rfl rfl rfl (by repeat (first | exact .here | apply In.there | apply Put.there | apply Del.there)) (by repeat (first | exact Sub.nil | refine Sub.cons ?_ ?_ | exact In.here | refine In.there ?_)) Fc.sz37 (of_decide_eq_true rfl) (.inl (.inl rfl)) ?_
  clear hH; intro w hH
  refine Sq.nil ?_
  refine then_n ?_
  refine c_seq ?_
  refine reg_draw [(true, 0, [5]), (true, 1, [5]), (true, 2, [5]), (true, 3, [5]), (true, 4, [5]), (true, 5, [5]), (false, 6, [5])] Fc.mixed (by kernel_rfl) (by kernel_rfl) (by kernel_rfl) (by kernel_rfl) (by kernel_rfl) (by repeat (first | with_reducible exact steady_body | with_reducible apply steady_block | with_reducible apply steady_then | exact steady_body)) hH ?_
  replace hH := hH.drew
  refine r_move hS trivial rfl rfl ?_; clear hS; intro a hS
  refine r_nilCheck hS trivial rfl rfl ?_; clear hS; intro a hS
  refine r_fieldAddr hS trivial rfl Fc.fo41_1 rfl ?_; clear hS; intro a hS
  refine r_load_scS hS rfl (by repeat (first | exact In.here | refine In.there ?_)) Fc.sc38 (by rfl) rfl ?_; clear hS; intro a hS
  refine r_load_rowS hS rfl (by repeat (first | exact In.here | refine In.there ?_)) Fc.ag64 (by rfl) rfl ?_; clear hS; intro a hS
  refine r_move hS trivial rfl rfl ?_; clear hS; intro a hS
  refine r_mapUpdate2 Fc.mtF hS hH rfl rfl rfl (fun es' clock' => (by first | exact .here | exact .there .here | exact .there (.there .here) | exact .there (.there (.there .here)) | exact .there (.there (.there (.there .here))) | exact .there (.there (.there (.there (.there .here)))) | exact .there (.there (.there (.there (.there (.there .here))))) | exact .there (.there (.there (.there (.there (.there (.there .here)))))) | exact .there (.there (.there (.there (.there (.there (.there (.there .here))))))) | exact .there (.there (.there (.there (.there (.there (.there (.there (.there .here)))))))) | exact .there (.there (.there (.there (.there (.there (.there (.there (.there (.there .here))))))))) | exact .there (.there (.there (.there (.there (.there (.there (.there (.there (.there (.there .here)))))))))) | exact .there (.there (.there (.there (.there (.there (.there (.there (.there (.there (.there (.there .here))))))))))) | exact .there (.there (.there (.there (.there (.there (.there (.there (.there (.there (.there (.there (.there .here)))))))))))) | exact .there (.there (.there (.there (.there (.there (.there (.there (.there (.there (.there (.there (.there (.there .here))))))))))))) | exact .there (.there (.there (.there (.there (.there (.there (.there (.there (.there (.there (.there (.there (.there (.there .here)))))))))))))))) (fun es' clock' => (by repeat (first | exact Sub.nil | refine Sub.cons ?_ ?_ | exact In.here | refine In.there ?_))) hm1 hkt hs1 (.inl (.inr (.inr (.inl rfl)))) ?_
  clear hH; intro w es' c' hm1' hH
  refine Sq.nil ?_
  refine then_n ?_
  refine c_seq ?_
  refine reg_draw [(true, 0, [6]), (true, 1, [6]), (true, 2, [6]), (true, 3, [6]), (true, 4, [6]), (true, 6, [6]), (false, 5, []), (false, 7, [6])] Fc.mixed (by kernel_rfl) (by kernel_rfl) (by kernel_rfl) (by kernel_rfl) (by kernel_rfl) (by repeat (first | with_reducible exact steady_body | with_reducible apply steady_block | with_reducible apply steady_then | exact steady_body)) hH ?_
  replace hH := hH.drew
  refine r_move hS trivial rfl rfl ?_; clear hS; intro a hS
  refine r_nilCheck hS trivial rfl rfl ?_; clear hS; intro a hS
  refine r_fieldAddr hS trivial rfl Fc.fo41_2 rfl ?_; clear hS; intro a hS
  refine r_load_scS hS rfl (by repeat (first | exact In.here | refine In.there ?_)) Fc.sc39 (by rfl) rfl ?_; clear hS; intro a hS
  refine r_move hS trivial rfl rfl ?_; clear hS; intro a hS
  refine r_move hS trivial rfl rfl ?_; clear hS; intro a hS
  refine r_call (l := [.tmp 50]) hS rfl rfl Fc.fn30 rfl ?_
  refine Calls.mono (name_c ts.length (by omega) _) ?_
  rintro e w1 ⟨h, rfl, hqx, hE⟩
  obtain ⟨x0, x1, x2, x3, x4, x5, x6, x7, x8, x9, xa, xb, xc, xd, xe, xf, rfl⟩ := len16 (h := h) (by rw [hqx]; rfl)
  replace hH := hH.ext hE
  refine ⟨_, rfl, hH.kp (by repeat (first | exact Sub.nil | refine Sub.cons ?_ ?_ | exact In.here | refine In.there ?_)), ?_⟩
  clear hS; intro a hS
  refine r_mapUpdate2 Fc.mtN hS hH rfl rfl rfl (fun es' clock' => (by first | exact .here | exact .there .here | exact .there (.there .here) | exact .there (.there (.there .here)) | exact .there (.there (.there (.there .here))) | exact .there (.there (.there (.there (.there .here)))) | exact .there (.there (.there (.there (.there (.there .here))))) | exact .there (.there (.there (.there (.there (.there (.there .here)))))) | exact .there (.there (.there (.there (.there (.there (.there (.there .here))))))) | exact .there (.there (.there (.there (.there (.there (.there (.there (.there .here)))))))) | exact .there (.there (.there (.there (.there (.there (.there (.there (.there (.there .here))))))))) | exact .there (.there (.there (.there (.there (.there (.there (.there (.there (.there (.there .here)))))))))) | exact .there (.there (.there (.there (.there (.there (.there (.there (.there (.there (.there (.there .here))))))))))) | exact .there (.there (.there (.there (.there (.there (.there (.there (.there (.there (.there (.there (.there .here)))))))))))) | exact .there (.there (.there (.there (.there (.there (.there (.there (.there (.there (.there (.there (.there (.there .here))))))))))))) | exact .there (.there (.there (.there (.there (.there (.there (.there (.there (.there (.there (.there (.there (.there (.there .here)))))))))))))))) (fun es' clock' => (by repeat (first | exact Sub.nil | refine Sub.cons ?_ ?_ | exact In.here | refine In.there ?_))) hm2 (Fc.arrH.keyOf (h := [x0, x1, x2, x3, x4, x5, x6, x7, x8, x9, xa, xb, xc, xd, xe, xf]) rfl) (by rw [← hqx] at hs2; exact hs2) (.inl (.inr (.inr (.inr rfl)))) ?_
  clear hH; intro w es2' c2' hm2' hH
  refine Sq.nil ?_
  refine then_n ?_
  refine c_seq ?_
  refine reg_plain w0 (VB.F b ⟨sb, fb, nb, cap, l, es, c, es2, c2⟩) ?_
  refine r_move hS hH.kp0 rfl rfl ?_; clear hS; intro a hS
  refine r_call (l := [.tmp 53]) hS rfl rfl Fc.fn30 rfl ?_
  refine Calls.mono (name_c ts.length (by omega) _) ?_
  rintro e w1 ⟨h, rfl, hqy, hE⟩
  obtain ⟨y0, y1, y2, y3, y4, y5, y6, y7, y8, y9, ya, yb, yc, yd, ye, yf, rfl⟩ := len16 (h := h) (by rw [hqy]; rfl)
  replace hH := hH.ext hE
  refine ⟨_, rfl, hH.kp0, ?_⟩
  clear hS; intro a hS
  refine r_store_row hS hH rfl rfl (by repeat (first | exact .here | apply In.there | apply Put.there | apply Del.there)) (by repeat (first | exact Sub.nil | refine Sub.cons ?_ ?_ | exact In.here | refine In.there ?_)) Fc.sz26 (by first | exact hcells_one _ | exact of_decide_eq_true rfl) (by rfl) (by first | exact .inr (by assumption) | exact .inl (by first | assumption | rfl)) ?_
  clear hH; intro w hH
  refine Sq.nil ?_
  refine then_n ?_
  refine wp_ret ?_
  refine leave (.inl rfl) hS rfl (Res.cell rfl (hH.get (by repeat (first | exact In.here | refine In.there ?_))) Fc.ag26 (by rfl) rfl Res.nil) ?_
  refine ⟨_, ⟨sb', fb, nb, cap', l2, es', c', es2', c2'⟩, rfl, hqy, ?_, ⟨?_, hH.mod⟩⟩
  · refine hH.vin2 (m := ts.length + 1) (hvi.ok.push ht hn (by omega) hm1' hf1 hs1 hm2' hf2 hs2 hl2 hc2 htk) (by simp) ?_ hvi.n23 (by repeat (first | exact In.here | refine In.there ?_)) (by repeat (first | exact In.here | refine In.there ?_)) (by repeat (first | exact In.here | refine In.there ?_)) (by repeat (first | exact In.here | refine In.there ?_))
    intro e; have nd := hH.nd; rw [e] at nd; simp at nd
  · intro x hx
    rcases hx with e | e | e | e
    · exact .inl (.inl e)
    · subst e; exact hsb'
    · exact .inl (.inr (.inr (.inl e)))
    · exact .inl (.inr (.inr (.inr e)))

end Go.Proofs.YtcjmehononbadaaDoor

namespace Go.Proofs.YtcjmehononbadaaDoor
open Go.Sym

theorem Fc.fn23 : isFn Tryd.prog 23 = true := by kernel_rfl
theorem Fc.fn24 : isFn Tryd.prog 24 = true := by kernel_rfl
theorem Fc.isMap38 : isMap Tryd.prog 38 = true := by kernel_rfl
theorem Fc.isMap39 : isMap Tryd.prog 39 = true := by kernel_rfl
theorem Fc.isPtr23 : isPtr Tryd.prog 23 = true := by kernel_rfl
theorem Fc.pl41 : placesB Tryd.prog 41 = some [(0, 1), (1, 1), (2, 1)] := by kernel_rfl
theorem Fc.pl64 : placesB Tryd.prog 64 = some [(0, 1), (1, 1), (2, 1), (3, 1), (4, 1), (5, 1), (6, 1)] := by kernel_rfl
theorem Fc.zc41 : zcB Tryd.prog 41 = some [.slice none 0 0, .map none, .map none] := by kernel_rfl
theorem Fc.zc64 : zcB Tryd.prog 64 = some [.int .i64 0, .int .i64 0, .int .i64 0, .int .i64 0, .string .empty, .string .empty, .string .empty] := by kernel_rfl

theorem make_c (b : Nat) (V : VB) (ts : List Tm) (t : Tm) (ht : t.ok) (hm : ts.length ≤ 1000000000) (w0 : World) (hvi : VI w0 b V ts) :
    Calls Tryd.prog 23 #[.pointer (some ⟨b, 0, none⟩), tv t] w0 fun e w' => ∃ h i V' ts', e = .returned (hnd h) ∧ h = nm i ∧ VI w' b V' ts' ∧ VStep w0 w' b V V' ∧ Made ts t i ts' := by
  obtain ⟨g, hg, hf⟩ := hvi.ok.found
  rcases hf.look t with ⟨i, h1, h2, h3⟩ | ⟨h1, h2, h3⟩
  · by_cases hk : t.kind = 1
    · refine (make_again b V ts t ht hk i (fun g' hg' _ => by rw [mapOk_same hg' hg]; exact h1) (fun g' hg' _ => by rw [mapOk_same hg' hg]; exact h2) hm w0 hvi).mono fun e w' ⟨h, V', k1, k2, k3, k4⟩ => ?_
      exact ⟨h, _, V', _, k1, k2, k3, k4, .inr ⟨.inl hk, rfl, rfl⟩⟩
    · refine (make_old b V ts t ht hk i h3 hm w0 hvi).mono fun e w' ⟨h, k1, k2, k3⟩ => ?_
      exact ⟨h, i, V, ts, k1, k2, hvi.ext k3, VStep.of_ext b V k3, .inl ⟨hk, h3, rfl⟩⟩
  · refine (make_no b V ts t ht h3 (fun g' hg' _ => by rw [mapOk_same hg' hg]; exact h1) (fun g' hg' _ => by rw [mapOk_same hg' hg]; exact h2) hm w0 hvi).mono fun e w' ⟨h, V', k1, k2, k3, k4⟩ => ?_
    exact ⟨h, _, V', _, k1, k2, k3, k4, .inr ⟨h3, rfl, rfl⟩⟩

set_option maxRecDepth 100000 in
set_option maxHeartbeats 1000000 in
theorem make_nil (b fb nb : Nat) (c c2 : Nat) (t : Tm) (ht : t.ok) (n1 : b ≠ fb) (n2 : b ≠ nb) (n3 : fb ≠ nb) (w0 : World) (k1 : w0.heap[b]? = some (.cells [Value.slice none 0 0, .map (some fb), .map (some nb)].toArray 41 (0, 0))) (k2 : w0.heap[fb]? = some (.map #[] c)) (k3 : w0.heap[nb]? = some (.map #[] c2)) :
    Calls Tryd.prog 23 #[.pointer (some ⟨b, 0, none⟩), tv t] w0 fun e w' => ∃ h V', e = .returned (hnd h) ∧ h = nm 0 ∧ VI w' b V' [t] ∧ Mod (fun x => x = b ∨ x = fb ∨ x = nb) w0 w' ∧ V'.fb = fb ∧ V'.nb = nb ∧ w0.heap.size ≤ V'.sb := by
  refine enter Tryd.func23 rfl rfl rfl ?_
  intro a hS
  have hH := Hp.start w0 (fun x => x = b ∨ x = fb ∨ x = nb)
  replace hH := ((hH.know k3 (fun p hp => by simp at hp)).know k2 (fun p hp => by simp at hp; subst hp; exact Ne.symm n3)).know k1 (fun p hp => by simp at hp; rcases hp with rfl | rfl; exact Ne.symm n1; exact Ne.symm n2)
  obtain ⟨lx, hkt⟩ := Fc.tm.keyOf ht
  obtain ⟨g1', hs1⟩ := exists_set (fun _ => none) (tv t) (.int .i64 ((0 : Nat) : Int))
  obtain ⟨g2', hs2⟩ := exists_set (fun _ => none) (hnd (nm 0)) (.int .i64 ((0 : Nat) : Int))
  refine c_seq ?_
  refine reg_plain w0 (fun x => x = b ∨ x = fb ∨ x = nb) ?_
  refine r_box hS hH (by repeat (first | exact Sub.nil | refine Sub.cons ?_ ?_ | exact In.here | refine In.there ?_)) rfl rfl rfl ?_
  clear hS hH; intro a w b3 hb3 hwb3 hS hH
  refine r_alloc hS hH (by repeat (first | exact Sub.nil | refine Sub.cons ?_ ?_ | exact In.here | refine In.there ?_)) Fc.zc26 rfl ?_
  clear hS hH; intro a w b4 hb4 hwb4 hS hH
  refine Sq.nil ?_
  refine then_n ?_
  refine c_seq ?_
  refine c_seq ?_
  refine reg_draw [(true, 0, []), (true, 1, []), (true, 2, []), (true, 3, []), (true, 4, []), (true, 5, []), (true, 6, []), (true, 7, []), (true, 8, []), (true, 9, []), (true, 10, [])] Fc.mixed (by kernel_rfl) (by kernel_rfl) (by kernel_rfl) (by kernel_rfl) (by kernel_rfl) (by repeat (first | with_reducible exact steady_body | with_reducible apply steady_block | with_reducible apply steady_then | exact steady_body)) hH ?_
  replace hH := hH.drew
  refine r_move hS trivial rfl rfl ?_; clear hS; intro a hS
  refine r_nilCheck hS trivial rfl rfl ?_; clear hS; intro a hS
  refine r_fieldAddr hS trivial rfl Fc.fo41_1 rfl ?_; clear hS; intro a hS
  refine r_load_scS hS rfl (by repeat (first | exact In.here | refine In.there ?_)) Fc.sc38 (by rfl) rfl ?_; clear hS; intro a hS
  refine r_load_rowS hS rfl (by repeat (first | exact In.here | refine In.there ?_)) Fc.ag64 (by rfl) rfl ?_; clear hS; intro a hS
  refine r_lookupS2 Fc.mtF hS rfl rfl (by repeat (first | exact In.here | refine In.there ?_)) MapOk.empty hkt rfl rfl rfl ?_; clear hS; intro a hS
  refine r_move hS trivial rfl rfl ?_; clear hS; intro a hS
  refine r_extract hS trivial rfl rfl rfl ?_; clear hS; intro a hS
  refine r_extract hS trivial rfl rfl rfl ?_; clear hS; intro a hS
  refine r_assign hS trivial rfl rfl ?_; clear hS; intro a hS
  refine r_assign hS trivial rfl rfl ?_; clear hS; intro a hS
  refine Sq.nil ?_
  refine then_n ?_
  refine c_seq ?_
  refine reg_plain w0 (fun x => x = b ∨ x = fb ∨ x = nb) ?_
  refine r_move hS hH.kp0 rfl rfl ?_; clear hS; intro a hS
  refine r_move hS hH.kp0 rfl rfl ?_; clear hS; intro a hS
  refine Sq.guardNo hS rfl rfl rfl hH.kp0 rfl ?_; clear hS; intro a hS
  refine Sq.guardNo hS rfl rfl rfl hH.kp0 rfl ?_; clear hS; intro a hS
  refine Sq.guardNo hS rfl rfl rfl hH.kp0 rfl ?_; clear hS; intro a hS
  refine r_pickF hS hH.kp0 rfl rfl rfl rfl ?_; clear hS; intro a hS
  refine Sq.nil ?_
  refine then_n ?_
  refine c_condF hS rfl rfl ?_
  refine wp_skip ?_
  refine then_n ?_
  refine c_seq ?_
  refine reg_plain w0 (fun x => x = b ∨ x = fb ∨ x = nb) ?_
  refine r_move hS hH.kp0 rfl rfl ?_; clear hS; intro a hS
  refine r_nilCheck hS hH.kp0 rfl rfl ?_; clear hS; intro a hS
  refine r_fieldAddr hS hH.kp0 rfl Fc.fo41_0 rfl ?_; clear hS; intro a hS
  refine r_load_sc hS hH (by repeat (first | exact Sub.nil | refine Sub.cons ?_ ?_ | exact In.here | refine In.there ?_)) rfl (by repeat (first | exact In.here | refine In.there ?_)) Fc.sc37 (by rfl) rfl ?_; clear hS; intro a hS
  refine r_lenSl hS hH.kp0 rfl Fc.isSlice37 rfl ?_; clear hS; intro a hS
  refine r_assign hS hH.kp0 rfl rfl ?_; clear hS; intro a hS
  refine Sq.nil ?_
  refine then_n ?_
  refine c_seq ?_
  refine reg_draw [(true, 0, [2]), (true, 1, [2]), (true, 2, [2]), (true, 3, [2]), (true, 4, []), (true, 5, [2]), (false, 6, []), (false, 7, []), (true, 8, [2]), (true, 9, [2]), (false, 10, [2])] Fc.mixed (by kernel_rfl) (by kernel_rfl) (by kernel_rfl) (by kernel_rfl) (by kernel_rfl) (by repeat (first | with_reducible exact steady_body | with_reducible apply steady_block | with_reducible apply steady_then | exact steady_body)) hH ?_
  replace hH := hH.drew
  refine r_move hS trivial rfl rfl ?_; clear hS; intro a hS
  refine r_move hS trivial rfl rfl ?_; clear hS; intro a hS
  refine r_nilCheck hS trivial rfl rfl ?_; clear hS; intro a hS
  refine r_fieldAddr hS trivial rfl Fc.fo41_0 rfl ?_; clear hS; intro a hS
  refine r_load_scS hS rfl (by repeat (first | exact In.here | refine In.there ?_)) Fc.sc37 (by rfl) rfl ?_; clear hS; intro a hS
  refine r_load_rowS hS rfl (by repeat (first | exact In.here | refine In.there ?_)) Fc.ag64 (by rfl) rfl ?_; clear hS; intro a hS
  refine r_buildSlice (parts := [(0, .tmp 35)]) hS hH (by repeat (first | exact Sub.nil | refine Sub.cons ?_ ?_ | exact In.here | refine In.there ?_)) rfl Fc.bsl37_1 (by rfl) rfl ?_
  clear hS hH; intro a w b36 hb36 hwb36 hS hH
  refine r_append_nil hS hH (by repeat (first | exact Sub.nil | refine Sub.cons ?_ ?_ | exact In.here | refine In.there ?_)) rfl rfl Fc.elT Fc.niT (Src.terms (hH.get .here)) (by decide) (by decide) rfl ?_
  clear hS hH; intro a w sb' cap' l2 hsb' _ hl2 hc2 htk _ hS hH
  refine r_nilCheck hS trivial rfl rfl ?_; clear hS; intro a hS
  refine r_fieldAddr hS trivial rfl Fc.fo41_0 rfl ?_; clear hS; intro a hS
  refine r_store1 hS hH rfl rfl rfl (by repeat (first | exact .here | apply In.there | apply Put.there | apply Del.there)) (by repeat (first | exact Sub.nil | refine Sub.cons ?_ ?_ | exact In.here | refine In.there ?_)) Fc.sz37 (of_decide_eq_true rfl) (.inl (.inl rfl)) ?_
  clear hH; intro w hH
  refine Sq.nil ?_
  refine then_n ?_
  refine c_seq ?_
  refine reg_draw [(true, 0, [5]), (true, 1, [5]), (true, 2, [5]), (true, 3, [5]), (true, 4, [5]), (true, 5, [5]), (false, 6, [5])] Fc.mixed (by kernel_rfl) (by kernel_rfl) (by kernel_rfl) (by kernel_rfl) (by kernel_rfl) (by repeat (first | with_reducible exact steady_body | with_reducible apply steady_block | with_reducible apply steady_then | exact steady_body)) hH ?_
  replace hH := hH.drew
  refine r_move hS trivial rfl rfl ?_; clear hS; intro a hS
  refine r_nilCheck hS trivial rfl rfl ?_; clear hS; intro a hS
  refine r_fieldAddr hS trivial rfl Fc.fo41_1 rfl ?_; clear hS; intro a hS
  refine r_load_scS hS rfl (by repeat (first | exact In.here | refine In.there ?_)) Fc.sc38 (by rfl) rfl ?_; clear hS; intro a hS
  refine r_load_rowS hS rfl (by repeat (first | exact In.here | refine In.there ?_)) Fc.ag64 (by rfl) rfl ?_; clear hS; intro a hS
  refine r_move hS trivial rfl rfl ?_; clear hS; intro a hS
  refine r_mapUpdate2 Fc.mtF hS hH rfl rfl rfl (fun es' clock' => (by first | exact .here | exact .there .here | exact .there (.there .here) | exact .there (.there (.there .here)) | exact .there (.there (.there (.there .here))) | exact .there (.there (.there (.there (.there .here)))) | exact .there (.there (.there (.there (.there (.there .here))))) | exact .there (.there (.there (.there (.there (.there (.there .here)))))) | exact .there (.there (.there (.there (.there (.there (.there (.there .here))))))) | exact .there (.there (.there (.there (.there (.there (.there (.there (.there .here)))))))) | exact .there (.there (.there (.there (.there (.there (.there (.there (.there (.there .here))))))))) | exact .there (.there (.there (.there (.there (.there (.there (.there (.there (.there (.there .here)))))))))) | exact .there (.there (.there (.there (.there (.there (.there (.there (.there (.there (.there (.there .here))))))))))) | exact .there (.there (.there (.there (.there (.there (.there (.there (.there (.there (.there (.there (.there .here)))))))))))) | exact .there (.there (.there (.there (.there (.there (.there (.there (.there (.there (.there (.there (.there (.there .here))))))))))))) | exact .there (.there (.there (.there (.there (.there (.there (.there (.there (.there (.there (.there (.there (.there (.there .here)))))))))))))))) (fun es' clock' => (by repeat (first | exact Sub.nil | refine Sub.cons ?_ ?_ | exact In.here | refine In.there ?_))) MapOk.empty hkt hs1 (.inl (.inr (.inl rfl))) ?_
  clear hH; intro w es' c' hm1' hH
  refine Sq.nil ?_
  refine then_n ?_
  refine c_seq ?_
  refine reg_draw [(true, 0, [6]), (true, 1, [6]), (true, 2, [6]), (true, 3, [6]), (true, 4, [6]), (true, 6, [6]), (false, 5, []), (false, 7, [6])] Fc.mixed (by kernel_rfl) (by kernel_rfl) (by kernel_rfl) (by kernel_rfl) (by kernel_rfl) (by repeat (first | with_reducible exact steady_body | with_reducible apply steady_block | with_reducible apply steady_then | exact steady_body)) hH ?_
  replace hH := hH.drew
  refine r_move hS trivial rfl rfl ?_; clear hS; intro a hS
  refine r_nilCheck hS trivial rfl rfl ?_; clear hS; intro a hS
  refine r_fieldAddr hS trivial rfl Fc.fo41_2 rfl ?_; clear hS; intro a hS
  refine r_load_scS hS rfl (by repeat (first | exact In.here | refine In.there ?_)) Fc.sc39 (by rfl) rfl ?_; clear hS; intro a hS
  refine r_move hS trivial rfl rfl ?_; clear hS; intro a hS
  refine r_move hS trivial rfl rfl ?_; clear hS; intro a hS
  refine r_call (l := [.tmp 50]) hS rfl rfl Fc.fn30 rfl ?_
  refine Calls.mono (name_c 0 (by omega) _) ?_
  rintro e w1 ⟨h, rfl, hqx, hE⟩
  obtain ⟨x0, x1, x2, x3, x4, x5, x6, x7, x8, x9, xa, xb, xc, xd, xe, xf, rfl⟩ := len16 (h := h) (by rw [hqx]; rfl)
  replace hH := hH.ext hE
  refine ⟨_, rfl, hH.kp (by repeat (first | exact Sub.nil | refine Sub.cons ?_ ?_ | exact In.here | refine In.there ?_)), ?_⟩
  clear hS; intro a hS
  refine r_mapUpdate2 Fc.mtN hS hH rfl rfl rfl (fun es' clock' => (by first | exact .here | exact .there .here | exact .there (.there .here) | exact .there (.there (.there .here)) | exact .there (.there (.there (.there .here))) | exact .there (.there (.there (.there (.there .here)))) | exact .there (.there (.there (.there (.there (.there .here))))) | exact .there (.there (.there (.there (.there (.there (.there .here)))))) | exact .there (.there (.there (.there (.there (.there (.there (.there .here))))))) | exact .there (.there (.there (.there (.there (.there (.there (.there (.there .here)))))))) | exact .there (.there (.there (.there (.there (.there (.there (.there (.there (.there .here))))))))) | exact .there (.there (.there (.there (.there (.there (.there (.there (.there (.there (.there .here)))))))))) | exact .there (.there (.there (.there (.there (.there (.there (.there (.there (.there (.there (.there .here))))))))))) | exact .there (.there (.there (.there (.there (.there (.there (.there (.there (.there (.there (.there (.there .here)))))))))))) | exact .there (.there (.there (.there (.there (.there (.there (.there (.there (.there (.there (.there (.there (.there .here))))))))))))) | exact .there (.there (.there (.there (.there (.there (.there (.there (.there (.there (.there (.there (.there (.there (.there .here)))))))))))))))) (fun es' clock' => (by repeat (first | exact Sub.nil | refine Sub.cons ?_ ?_ | exact In.here | refine In.there ?_))) MapOk.empty (Fc.arrH.keyOf (h := [x0, x1, x2, x3, x4, x5, x6, x7, x8, x9, xa, xb, xc, xd, xe, xf]) rfl) (by rw [← hqx] at hs2; exact hs2) (.inl (.inr (.inr rfl))) ?_
  clear hH; intro w es2' c2' hm2' hH
  refine Sq.nil ?_
  refine then_n ?_
  refine c_seq ?_
  refine reg_plain w0 (fun x => x = b ∨ x = fb ∨ x = nb) ?_
  refine r_move hS hH.kp0 rfl rfl ?_; clear hS; intro a hS
  refine r_call (l := [.tmp 53]) hS rfl rfl Fc.fn30 rfl ?_
  refine Calls.mono (name_c 0 (by omega) _) ?_
  rintro e w1 ⟨h, rfl, hqy, hE⟩
  obtain ⟨y0, y1, y2, y3, y4, y5, y6, y7, y8, y9, ya, yb, yc, yd, ye, yf, rfl⟩ := len16 (h := h) (by rw [hqy]; rfl)
  replace hH := hH.ext hE
  refine ⟨_, rfl, hH.kp0, ?_⟩
  clear hS; intro a hS
  refine r_store_row hS hH rfl rfl (by repeat (first | exact .here | apply In.there | apply Put.there | apply Del.there)) (by repeat (first | exact Sub.nil | refine Sub.cons ?_ ?_ | exact In.here | refine In.there ?_)) Fc.sz26 (by first | exact hcells_one _ | exact of_decide_eq_true rfl) (by rfl) (by first | exact .inr (by assumption) | exact .inl (by first | assumption | rfl)) ?_
  clear hH; intro w hH
  refine Sq.nil ?_
  refine then_n ?_
  refine wp_ret ?_
  refine leave (.inl rfl) hS rfl (Res.cell rfl (hH.get (by repeat (first | exact In.here | refine In.there ?_))) Fc.ag26 (by rfl) rfl Res.nil) ?_
  refine ⟨_, ⟨sb', fb, nb, cap', l2, es', c', es2', c2'⟩, rfl, hqy, ?_, hH.mod, rfl, rfl, hsb'⟩
  refine hH.vin2 (m := 1) ⟨hl2, hc2, by rw [show ([t] : List Tm).length * 7 = 1 * 7 from rfl, htk]; simp, by intro u hu; rw [List.mem_singleton.1 hu]; exact ht, ⟨g1', hm1', Fnd.push (ts := []) ⟨fun u v h => by simp at h, fun u i h => by simp at h⟩ (.inr (by simp)) hs1⟩, ⟨g2', hm2', Nms.push (m := 0) (fun u v => by simp) (by decide) hs2⟩⟩ rfl ?_ n3 (by repeat (first | exact In.here | refine In.there ?_)) (by repeat (first | exact In.here | refine In.there ?_)) (by repeat (first | exact In.here | refine In.there ?_)) (by repeat (first | exact In.here | refine In.there ?_))
  intro e; have nd := hH.nd; rw [e] at nd; simp at nd

set_option maxRecDepth 100000 in
set_option maxHeartbeats 400000 in
theorem New_c (w0 : World) : Calls Tryd.prog 6 #[] w0 fun e w' => ∃ b V, e = .returned (.pointer (some ⟨b, 0, none⟩)) ∧ VI w' b V [rootT] ∧ Ext w0 w' ∧ ∀ x, V.F b x → w0.heap.size ≤ x := by
  refine enter Tryd.func6 rfl rfl rfl ?_
  intro a hS
  have hH := Hp.start w0 (Nobody)
  refine c_seq ?_
  refine reg_plain w0 (Nobody) ?_
  refine r_assign hS hH.kp0 rfl rfl ?_; clear hS; intro a hS
  refine Sq.nil ?_
  refine then_n ?_
  refine c_seq ?_
  refine reg_plain w0 (Nobody) ?_
  refine r_makeMap hS hH (by repeat (first | exact Sub.nil | refine Sub.cons ?_ ?_ | exact In.here | refine In.there ?_)) Fc.isMap38 rfl ?_
  clear hS hH; intro a w b2 hb2 hwb2 hS hH
  refine r_makeMap hS hH (by repeat (first | exact Sub.nil | refine Sub.cons ?_ ?_ | exact In.here | refine In.there ?_)) Fc.isMap39 rfl ?_
  clear hS hH; intro a w b3 hb3 hwb3 hS hH
  refine r_buildS (parts := [(1, .tmp 2), (2, .tmp 3)]) hS hH.kp0 rfl rfl Fc.zc41 Fc.pl41 (by rfl) ?_; clear hS; intro a hS
  refine r_box hS hH (by repeat (first | exact Sub.nil | refine Sub.cons ?_ ?_ | exact In.here | refine In.there ?_)) rfl rfl rfl ?_
  clear hS hH; intro a w b5 hb5 hwb5 hS hH
  refine r_assign hS hH.kp0 rfl rfl ?_; clear hS; intro a hS
  refine Sq.nil ?_
  refine then_n ?_
  refine c_seq ?_
  refine reg_plain w0 (Nobody) ?_
  refine r_move hS hH.kp0 rfl rfl ?_; clear hS; intro a hS
  refine r_buildS (parts := [(0, .const (.int .i64 0))]) hS hH.kp0 rfl rfl Fc.zc64 Fc.pl64 (by rfl) ?_; clear hS; intro a hS
  refine r_call (l := [.tmp 6, .tmp 7]) hS rfl rfl Fc.fn23 rfl ?_
  have nd := hH.nd
  simp only [List.map_cons, List.map_nil, List.nodup_cons, List.mem_cons, not_or] at nd
  refine Calls.mono (make_nil b5 b2 b3 0 0 rootT rootT_ok nd.1.2.1 nd.1.1 (Ne.symm nd.2.1.1) _ (hH.get (by repeat (first | exact In.here | refine In.there ?_))) (hH.get (by repeat (first | exact In.here | refine In.there ?_))) (hH.get (by repeat (first | exact In.here | refine In.there ?_)))) ?_
  rintro e w1 ⟨h, V, rfl, hqx, hvi, hM, e1, e2, hsb⟩
  have hsz := hH.mod.size
  replace hH : Hp w0 Nobody [] w1 := ⟨fun p hp => by simp at hp, by simp, hH.mod.trans hM (fun c hc hh => by rcases hh with rfl | rfl | rfl <;> omega)⟩
  refine ⟨_, rfl, hH.kp0, ?_⟩
  clear hS; intro a hS
  refine Sq.nil ?_
  refine then_n ?_
  refine c_seq ?_
  refine reg_plain w0 (Nobody) ?_
  refine r_move hS hH.kp0 rfl rfl ?_; clear hS; intro a hS
  refine r_assign hS hH.kp0 rfl rfl ?_; clear hS; intro a hS
  refine Sq.nil ?_
  refine then_n ?_
  refine wp_ret ?_
  refine leave (.inl rfl) hS rfl (Res.tmp rfl Res.nil) ⟨_, V, rfl, hvi, hH.mod, ?_⟩
  intro x hx
  rcases hx with rfl | rfl | rfl | rfl
  · exact hb5
  · exact Nat.le_trans hsz hsb
  · rw [e1]; exact hb2
  · rw [e2]; exact hb3

set_option maxRecDepth 100000 in
set_option maxHeartbeats 400000 in
theorem none_v (b : Nat) (V : VB) (ts : List Tm) (w0 : World) (hvi : VI w0 b V ts) : Calls Tryd.prog 24 #[.pointer (some ⟨b, 0, none⟩)] w0 fun e w' => e = .returned (.bool false) ∧ Ext w0 w' := by
  refine enter Tryd.func24 rfl rfl rfl ?_
  intro a hS
  have hH := Hp.start w0 (Nobody)
  replace hH := hH.knowV hvi (by intro p hp; simp at hp)
  refine c_seq ?_
  refine reg_plain w0 (Nobody) ?_
  refine r_assign hS hH.kp0 rfl rfl ?_; clear hS; intro a hS
  refine Sq.nil ?_
  refine then_n ?_
  refine c_seq ?_
  refine reg_plain w0 (Nobody) ?_
  refine r_move hS hH.kp0 rfl rfl ?_; clear hS; intro a hS
  refine r_ptrNil hS hH.kp0 rfl Fc.isPtr23 rfl ?_; clear hS; intro a hS
  refine r_move hS hH.kp0 rfl rfl ?_; clear hS; intro a hS
  refine Sq.guardYes hS rfl rfl rfl ?_
  refine r_move hS hH.kp0 rfl rfl ?_; clear hS; intro a hS
  refine Sq.guardYes hS rfl rfl rfl ?_
  refine r_nilCheck hS hH.kp0 rfl rfl ?_; clear hS; intro a hS
  refine Sq.guardYes hS rfl rfl rfl ?_
  refine r_fieldAddr hS hH.kp0 rfl Fc.fo41_2 rfl ?_; clear hS; intro a hS
  refine Sq.guardYes hS rfl rfl rfl ?_
  refine r_load_sc hS hH (by repeat (first | exact Sub.nil | refine Sub.cons ?_ ?_ | exact In.here | refine In.there ?_)) rfl (by repeat (first | exact In.here | refine In.there ?_)) Fc.sc39 (by rfl) rfl ?_; clear hS; intro a hS
  refine Sq.guardYes hS rfl rfl rfl ?_
  refine r_mapNil hS hH.kp0 rfl Fc.isMap39 rfl ?_; clear hS; intro a hS
  refine r_pickF hS hH.kp0 rfl rfl rfl rfl ?_; clear hS; intro a hS
  refine r_assign hS hH.kp0 rfl rfl ?_; clear hS; intro a hS
  refine Sq.nil ?_
  refine then_n ?_
  refine wp_ret ?_
  exact leave (.inl rfl) hS rfl (Res.tmp rfl Res.nil) ⟨rfl, hH.mod⟩

set_option maxRecDepth 100000 in
set_option maxHeartbeats 400000 in
theorem Root_v (b : Nat) (V : VB) (ts : List Tm) (w0 : World) (hvi : VI w0 b V ts) : Calls Tryd.prog 16 #[.pointer (some ⟨b, 0, none⟩)] w0 fun e w' => ∃ h, e = .returned (hnd h) ∧ h = nm 0 ∧ Ext w0 w' := by
  refine enter Tryd.func16 rfl rfl rfl ?_
  intro a hS
  have hH := Hp.start w0 (Nobody)
  refine c_seq ?_
  refine reg_plain w0 (Nobody) ?_
  refine r_alloc hS hH (by repeat (first | exact Sub.nil | refine Sub.cons ?_ ?_ | exact In.here | refine In.there ?_)) Fc.zc26 rfl ?_
  clear hS hH; intro a w b2 hb2 hwb2 hS hH
  refine Sq.nil ?_
  refine then_n ?_
  refine c_seq ?_
  refine c_seq ?_
  refine reg_plain w0 (Nobody) ?_
  refine r_move hS hH.kp0 rfl rfl ?_; clear hS; intro a hS
  refine r_call (l := [.tmp 3]) hS rfl rfl Fc.fn24 rfl ?_
  refine Calls.mono (none_v b V ts _ (hvi.ext hH.mod)) ?_
  rintro e w1 ⟨rfl, hE⟩
  replace hH := hH.ext hE
  refine ⟨_, rfl, hH.kp0, ?_⟩
  clear hS; intro a hS
  refine Sq.nil ?_
  refine then_n ?_
  refine c_condF hS rfl rfl ?_
  refine wp_skip ?_
  refine then_n ?_
  refine c_seq ?_
  refine reg_plain w0 (Nobody) ?_
  refine r_call (l := [.const (.int .i64 0)]) hS rfl rfl Fc.fn30 rfl ?_
  refine Calls.mono (name_c 0 (by omega) _) ?_
  rintro e w1 ⟨h, rfl, hqx, hE⟩
  obtain ⟨x0, x1, x2, x3, x4, x5, x6, x7, x8, x9, xa, xb, xc, xd, xe, xf, rfl⟩ := len16 (h := h) (by rw [hqx]; rfl)
  replace hH := hH.ext hE
  refine ⟨_, rfl, hH.kp0, ?_⟩
  clear hS; intro a hS
  refine r_store_row hS hH rfl rfl (by repeat (first | exact .here | apply In.there | apply Put.there | apply Del.there)) (by repeat (first | exact Sub.nil | refine Sub.cons ?_ ?_ | exact In.here | refine In.there ?_)) Fc.sz26 (by first | exact hcells_one _ | exact of_decide_eq_true rfl) (by rfl) (by first | exact .inr (by assumption) | exact .inl (by first | assumption | rfl)) ?_
  clear hH; intro w hH
  refine Sq.nil ?_
  refine then_n ?_
  refine wp_ret ?_
  exact leave (.inl rfl) hS rfl (Res.cell rfl (hH.get (by repeat (first | exact In.here | refine In.there ?_))) Fc.ag26 (by rfl) rfl Res.nil) ⟨_, rfl, hqx, hH.mod⟩

set_option maxRecDepth 100000 in
set_option maxHeartbeats 400000 in
theorem Fresh_v (b : Nat) (V : VB) (ts : List Tm) (hm : ts.length ≤ 1000000000) (w0 : World) (hvi : VI w0 b V ts) : Calls Tryd.prog 7 #[.pointer (some ⟨b, 0, none⟩)] w0 fun e w' => ∃ h V' , e = .returned (hnd h) ∧ h = nm ts.length ∧ VI w' b V' (ts ++ [freshT]) ∧ VStep w0 w' b V V' := by
  refine enter Tryd.func7 rfl rfl rfl ?_
  intro a hS
  have hH := Hp.start w0 (V.F b)
  replace hH := hH.knowV hvi (by intro p hp; simp at hp)
  have hVS := VS.start w0 b V
  refine c_seq ?_
  refine reg_plain w0 (V.F b) ?_
  refine r_alloc hS hH (by repeat (first | exact Sub.nil | refine Sub.cons ?_ ?_ | exact In.here | refine In.there ?_)) Fc.zc26 rfl ?_
  clear hS hH; intro a w b2 hb2 hwb2 hS hH
  refine Sq.nil ?_
  refine then_n ?_
  refine c_seq ?_
  refine c_seq ?_
  refine reg_plain w0 (V.F b) ?_
  refine r_move hS hH.kp0 rfl rfl ?_; clear hS; intro a hS
  refine r_call (l := [.tmp 3]) hS rfl rfl Fc.fn24 rfl ?_
  refine Calls.mono (none_v b V ts _ (hH.vin hvi.ok hvi.n01 hvi.n23 (by repeat (first | exact In.here | refine In.there ?_)) (by repeat (first | exact In.here | refine In.there ?_)) (by repeat (first | exact In.here | refine In.there ?_)) (by repeat (first | exact In.here | refine In.there ?_)))) ?_
  rintro e w1 ⟨rfl, hE⟩
  replace hH := hH.ext hE
  refine ⟨_, rfl, hH.kp0, ?_⟩
  clear hS; intro a hS
  refine Sq.nil ?_
  refine then_n ?_
  refine c_condF hS rfl rfl ?_
  refine wp_skip ?_
  refine then_n ?_
  refine c_seq ?_
  refine reg_plain w0 (V.F b) ?_
  refine r_move hS hH.kp0 rfl rfl ?_; clear hS; intro a hS
  refine r_buildS (parts := [(0, .const (.int .i64 1))]) hS hH.kp0 rfl rfl Fc.zc64 Fc.pl64 (by rfl) ?_; clear hS; intro a hS
  refine r_call (l := [.tmp 6, .tmp 7]) hS rfl rfl Fc.fn23 rfl ?_
  refine Calls.mono (make_c b V ts freshT freshT_ok hm _ (hH.vin hvi.ok hvi.n01 hvi.n23 (by repeat (first | exact In.here | refine In.there ?_)) (by repeat (first | exact In.here | refine In.there ?_)) (by repeat (first | exact In.here | refine In.there ?_)) (by repeat (first | exact In.here | refine In.there ?_)))) ?_
  rintro e w1 ⟨h, i, V1, ts1, rfl, hqx, hvi1, hst, hmd⟩
  obtain ⟨x0, x1, x2, x3, x4, x5, x6, x7, x8, x9, xa, xb, xc, xd, xe, xf, rfl⟩ := len16 (h := h) (by rw [hqx]; rfl)
  have hVS1 := hVS.step hst hH.mod.size
  replace hH := hH.vault hVS hst hvi1 (by first | exact .here | exact .there .here | exact .there (.there .here) | exact .there (.there (.there .here)) | exact .there (.there (.there (.there .here))) | exact .there (.there (.there (.there (.there .here)))) | exact .there (.there (.there (.there (.there (.there .here))))) | exact .there (.there (.there (.there (.there (.there (.there .here)))))) | exact .there (.there (.there (.there (.there (.there (.there (.there .here))))))) | exact .there (.there (.there (.there (.there (.there (.there (.there (.there .here)))))))) | exact .there (.there (.there (.there (.there (.there (.there (.there (.there (.there .here))))))))) | exact .there (.there (.there (.there (.there (.there (.there (.there (.there (.there (.there .here)))))))))) | exact .there (.there (.there (.there (.there (.there (.there (.there (.there (.there (.there (.there .here))))))))))) | exact .there (.there (.there (.there (.there (.there (.there (.there (.there (.there (.there (.there (.there .here)))))))))))) | exact .there (.there (.there (.there (.there (.there (.there (.there (.there (.there (.there (.there (.there (.there .here))))))))))))) | exact .there (.there (.there (.there (.there (.there (.there (.there (.there (.there (.there (.there (.there (.there (.there .here)))))))))))))))
  refine ⟨_, rfl, hH.kp0, ?_⟩
  clear hS; intro a hS
  refine r_store_row hS hH rfl rfl (by repeat (first | exact .here | apply In.there | apply Put.there | apply Del.there)) (by repeat (first | exact Sub.nil | refine Sub.cons ?_ ?_ | exact In.here | refine In.there ?_)) Fc.sz26 (by first | exact hcells_one _ | exact of_decide_eq_true rfl) (by rfl) (by first | exact .inr (by assumption) | exact .inl (by first | assumption | rfl)) ?_
  clear hH; intro w hH
  refine Sq.nil ?_
  refine then_n ?_
  refine wp_ret ?_
  refine leave (.inl rfl) hS rfl (Res.cell rfl (hH.get (by repeat (first | exact In.here | refine In.there ?_))) Fc.ag26 (by rfl) rfl Res.nil) ?_
  rcases hmd with ⟨h, _⟩ | ⟨_, rfl, rfl⟩
  · exact absurd rfl h
  · exact ⟨_, V1, rfl, hqx, (hH.vin hvi1.ok hvi1.n01 hvi1.n23 (by repeat (first | exact In.here | refine In.there ?_)) (by repeat (first | exact In.here | refine In.there ?_)) (by repeat (first | exact In.here | refine In.there ?_)) (by repeat (first | exact In.here | refine In.there ?_))), ⟨hVS1, hH.mod⟩⟩

end Go.Proofs.YtcjmehononbadaaDoor
