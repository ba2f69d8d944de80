/- SecretsMake: any steps make the document's terms, or are refused. Part Ref1: walks and lemmas of the proof. -/
import Derived.Test.YtcjmehononbadaaVault5
import Derived.Test.YtcjmehononbadaaSymRef
namespace Go.Proofs.Ytcjmehononbadaa
open Go.Sym
theorem Fc.arrR : ByteArr Try.prog 25 16 := byteArr_mk Fc.laid (of_decide_eq_true (by kernel_rfl)) (by kernel_rfl) (by kernel_rfl) (by kernel_rfl) (by kernel_rfl) (by kernel_rfl)
theorem Fc.rfl7 : FlTy Try.prog 113 rbs := flTy_mk Fc.laid (of_decide_eq_true (by kernel_rfl)) (by kernel_rfl) (by kernel_rfl) (by kernel_rfl) (by kernel_rfl) (by kernel_rfl)
abbrev RI (w : World) (b : Nat) (V : RB) (ts : List Tm) : Prop := RIn 116 113 w b V ts
theorem Fc.ag113 : agB Try.prog 113 = some 7 := by kernel_rfl
theorem Fc.ag25 : agB Try.prog 25 = some 16 := by kernel_rfl
theorem Fc.ar25 : arrB Try.prog 25 = some (16, 1) := by kernel_rfl
theorem Fc.bsl114_1 : bslB Try.prog 114 1 = some (113, 7, [.int .i64 0, .int .i64 0, .int .i64 0, .string .empty, .int .i64 0, .string .empty, .string .empty]) := by kernel_rfl
theorem Fc.elR : elB Try.prog 114 = some (113, 7, 80) := by kernel_rfl
theorem Fc.fn18 : isFn Try.prog 18 = true := by kernel_rfl
theorem Fc.fn50 : isFn Try.prog 50 = true := by kernel_rfl
theorem Fc.fo113_0 : foff Try.prog 113 0 = some 0 := by kernel_rfl
theorem Fc.fo116_0 : foff Try.prog 116 0 = some 0 := by kernel_rfl
theorem Fc.isSlice114 : isSlice Try.prog 114 = true := by kernel_rfl
theorem Fc.niR : notInt Try.prog 114 = true := by kernel_rfl
theorem Fc.pl113 : placesB Try.prog 113 = some [(0, 1), (1, 1), (2, 1), (3, 1), (4, 1), (5, 1), (6, 1)] := by kernel_rfl
theorem Fc.pl116 : placesB Try.prog 116 = some [(0, 1)] := by kernel_rfl
theorem Fc.sc114 : scB Try.prog 114 = true := by kernel_rfl
theorem Fc.slb114 : slB Try.prog 114 = some 7 := by kernel_rfl
theorem Fc.sz114 : sizeB Try.prog 114 1 = true := by kernel_rfl
theorem Fc.sz25 : sizeB Try.prog 25 16 = true := by kernel_rfl
theorem Fc.ui101 : Try.prog.underlying 101 = some (.int .u64) := by kernel_rfl
theorem Fc.zc113 : zcB Try.prog 113 = some [.int .i64 0, .int .i64 0, .int .i64 0, .string .empty, .int .i64 0, .string .empty, .string .empty] := by kernel_rfl
theorem Fc.zc116 : zcB Try.prog 116 = some [.slice none 0 0] := by kernel_rfl
theorem Fc.zc25 : zcB Try.prog 25 = some [.int .u8 0, .int .u8 0, .int .u8 0, .int .u8 0, .int .u8 0, .int .u8 0, .int .u8 0, .int .u8 0, .int .u8 0, .int .u8 0, .int .u8 0, .int .u8 0, .int .u8 0, .int .u8 0, .int .u8 0, .int .u8 0] := by kernel_rfl
set_option maxRecDepth 100000 in
set_option maxHeartbeats 400000 in
theorem rmix_c (x : Nat) (w0 : World) : Calls Try.prog 50 #[.int .u64 (x : Int)] w0 fun e w' => e = .returned (.int .u64 (mixN x : Int)) ∧ Ext w0 w' := by
  refine enter Try.func50 rfl rfl rfl ?_
  intro a hS
  have hH := Hp.start w0 (Nobody)
  refine c_seq ?_
  refine reg_plain w0 (Nobody) ?_
  refine r_assign hS hH.kp0 rfl rfl ?_; clear hS; intro a hS
  refine Sq.nil ?_
  refine then_n ?_
  refine c_seq ?_
  refine reg_plain w0 (Nobody) ?_
  refine r_move hS hH.kp0 rfl rfl ?_; clear hS; intro a hS
  refine r_addN (m := x) (m' := 1) ((x + 1) % 18446744073709551616) hS hH.kp0 rfl rfl rfl rfl ?_; clear hS; intro a hS
  obtain ⟨z1, hz1⟩ : ∃ z, ((x + 1) % 18446744073709551616 * 11400714819323198485) % 18446744073709551616 = z := ⟨_, rfl⟩
  refine r_mulN (m := (x + 1) % 18446744073709551616) (m' := 11400714819323198485) z1 hS hH.kp0 rfl rfl rfl hz1 ?_; clear hS; intro a hS
  refine r_assign hS hH.kp0 rfl rfl ?_; clear hS; intro a hS
  refine Sq.nil ?_
  refine then_n ?_
  refine c_seq ?_
  refine reg_plain w0 (Nobody) ?_
  refine r_move hS hH.kp0 rfl rfl ?_; clear hS; intro a hS
  refine r_move hS hH.kp0 rfl rfl ?_; clear hS; intro a hS
  refine r_shrN (m := z1) 30 (z1 >>> 30) hS hH.kp0 rfl rfl rfl rfl (by decide) rfl ?_; clear hS; intro a hS
  refine r_xorN (m := z1) (m' := z1 >>> 30) (z1 ^^^ z1 >>> 30) hS hH.kp0 rfl rfl rfl (by subst hz1; exact Nat.mod_lt _ (by decide)) (Nat.lt_of_le_of_lt (Nat.shiftRight_le _ _) (by subst hz1; exact Nat.mod_lt _ (by decide))) rfl ?_; clear hS; intro a hS
  obtain ⟨z2, hz2⟩ : ∃ z, ((z1 ^^^ z1 >>> 30) * 13787848793156543929) % 18446744073709551616 = z := ⟨_, rfl⟩
  refine r_mulN (m := z1 ^^^ z1 >>> 30) (m' := 13787848793156543929) z2 hS hH.kp0 rfl rfl rfl hz2 ?_; clear hS; intro a hS
  refine r_assign hS hH.kp0 rfl rfl ?_; clear hS; intro a hS
  refine Sq.nil ?_
  refine then_n ?_
  refine c_seq ?_
  refine reg_plain w0 (Nobody) ?_
  refine r_move hS hH.kp0 rfl rfl ?_; clear hS; intro a hS
  refine r_move hS hH.kp0 rfl rfl ?_; clear hS; intro a hS
  refine r_shrN (m := z2) 27 (z2 >>> 27) hS hH.kp0 rfl rfl rfl rfl (by decide) rfl ?_; clear hS; intro a hS
  refine r_xorN (m := z2) (m' := z2 >>> 27) (z2 ^^^ z2 >>> 27) hS hH.kp0 rfl rfl rfl (by subst hz2; exact Nat.mod_lt _ (by decide)) (Nat.lt_of_le_of_lt (Nat.shiftRight_le _ _) (by subst hz2; exact Nat.mod_lt _ (by decide))) rfl ?_; clear hS; intro a hS
  obtain ⟨z3, hz3⟩ : ∃ z, ((z2 ^^^ z2 >>> 27) * 10723151780598845931) % 18446744073709551616 = z := ⟨_, rfl⟩
  refine r_mulN (m := z2 ^^^ z2 >>> 27) (m' := 10723151780598845931) z3 hS hH.kp0 rfl rfl rfl hz3 ?_; clear hS; intro a hS
  refine r_assign hS hH.kp0 rfl rfl ?_; clear hS; intro a hS
  refine Sq.nil ?_
  refine then_n ?_
  refine c_seq ?_
  refine reg_plain w0 (Nobody) ?_
  refine r_move hS hH.kp0 rfl rfl ?_; clear hS; intro a hS
  refine r_move hS hH.kp0 rfl rfl ?_; clear hS; intro a hS
  refine r_shrN (m := z3) 31 (z3 >>> 31) hS hH.kp0 rfl rfl rfl rfl (by decide) rfl ?_; clear hS; intro a hS
  refine r_xorN (m := z3) (m' := z3 >>> 31) (z3 ^^^ z3 >>> 31) hS hH.kp0 rfl rfl rfl (by subst hz3; exact Nat.mod_lt _ (by decide)) (Nat.lt_of_le_of_lt (Nat.shiftRight_le _ _) (by subst hz3; exact Nat.mod_lt _ (by decide))) rfl ?_; clear hS; intro a hS
  refine r_assign hS hH.kp0 rfl rfl ?_; clear hS; intro a hS
  refine Sq.nil ?_
  refine then_n ?_
  refine wp_ret ?_
  subst hz3 hz2 hz1
  exact leave (.inl rfl) hS rfl (Res.tmp rfl Res.nil) ⟨rfl, hH.mod⟩

set_option maxRecDepth 100000 in
set_option maxHeartbeats 2000000 in
theorem rname_c (n : Nat) (hn : n ≤ 1000000000000) (w0 : World) : Calls Try.prog 18 #[.int .i64 (n : Int)] w0 fun e w' => ∃ h, e = .returned (hnd h) ∧ h = nm n ∧ Ext w0 w' := by
  refine enter Try.func18 rfl rfl rfl ?_
  intro a hS
  have hH := Hp.start w0 (Nobody)
  refine c_seq ?_
  refine reg_plain w0 (Nobody) ?_
  refine r_alloc hS hH (by repeat (first | exact Sub.nil | refine Sub.cons ?_ ?_ | exact In.here | refine In.there ?_)) Fc.zc25 rfl ?_
  clear hS hH; intro a w b2 hb2 hwb2 hS hH
  refine Sq.nil ?_
  refine then_n ?_
  refine c_seq ?_
  refine reg_plain w0 (Nobody) ?_
  refine r_alloc hS hH (by repeat (first | exact Sub.nil | refine Sub.cons ?_ ?_ | exact In.here | refine In.there ?_)) Fc.zc25 rfl ?_
  clear hS hH; intro a w b3 hb3 hwb3 hS hH
  refine Sq.nil ?_
  refine then_n ?_
  refine c_seq ?_
  refine reg_plain w0 (Nobody) ?_
  refine r_move hS hH.kp0 rfl rfl ?_; clear hS; intro a hS
  refine r_toU64 n hS hH.kp0 rfl Fc.ui99 Fc.us3 rfl rfl (by omega) ?_; clear hS; intro a hS
  refine r_mulN (m := 2) (m' := n) (2 * n) hS hH.kp0 rfl rfl rfl (Nat.mod_eq_of_lt (by omega)) ?_; clear hS; intro a hS
  refine r_call (l := [.tmp 9]) hS rfl rfl Fc.fn50 rfl ?_
  refine Calls.mono (rmix_c _ _) ?_
  rintro e w1 ⟨rfl, hE⟩
  replace hH := hH.ext hE
  refine ⟨_, rfl, hH.kp0, ?_⟩
  clear hS; intro a hS
  refine r_assign hS hH.kp0 rfl rfl ?_; clear hS; intro a hS
  refine Sq.nil ?_
  refine then_n ?_
  refine c_seq ?_
  refine reg_plain w0 (Nobody) ?_
  refine r_move hS hH.kp0 rfl rfl ?_; clear hS; intro a hS
  refine r_toU64 n hS hH.kp0 rfl Fc.ui99 Fc.us3 rfl rfl (by omega) ?_; clear hS; intro a hS
  refine r_mulN (m := 2) (m' := n) (2 * n) hS hH.kp0 rfl rfl rfl (Nat.mod_eq_of_lt (by omega)) ?_; clear hS; intro a hS
  refine r_addN (m := 2 * n) (m' := 1) (2 * n + 1) hS hH.kp0 rfl rfl rfl (Nat.mod_eq_of_lt (by omega)) ?_; clear hS; intro a hS
  refine r_call (l := [.tmp 14]) hS rfl rfl Fc.fn50 rfl ?_
  refine Calls.mono (rmix_c _ _) ?_
  rintro e w1 ⟨rfl, hE⟩
  replace hH := hH.ext hE
  refine ⟨_, rfl, hH.kp0, ?_⟩
  clear hS; intro a hS
  refine r_assign hS hH.kp0 rfl rfl ?_; clear hS; intro a hS
  refine Sq.nil ?_
  refine then_n ?_
  refine c_seq ?_
  refine c_seq ?_
  refine reg_plain w0 (Nobody) ?_
  refine r_assign hS hH.kp0 rfl rfl ?_; clear hS; intro a hS
  refine Sq.nil ?_
  refine then_n ?_
  refine wp_block ?_
  refine wp_loop_rounds 9 ?_
  refine rnd ?_
  refine c_seq ?_
  refine c_seq ?_
  refine reg_plain w0 (Nobody) ?_
  refine r_move hS hH.kp0 rfl rfl ?_; clear hS; intro a hS
  refine r_lss hS hH.kp0 rfl rfl rfl ?_; clear hS; intro a hS
  refine Sq.nil ?_
  refine then_n ?_
  refine c_condT hS rfl rfl ?_
  refine wp_skip ?_
  refine then_n ?_
  refine c_seq ?_
  refine wp_block ?_
  refine c_seq ?_
  refine reg_plain w0 (Nobody) ?_
  refine r_move hS hH.kp0 rfl rfl ?_; clear hS; intro a hS
  refine r_move hS hH.kp0 rfl rfl ?_; clear hS; intro a hS
  refine r_move hS hH.kp0 rfl rfl ?_; clear hS; intro a hS
  first | refine r_mul hS hH.kp0 rfl rfl rfl (by omega) ?_ | refine r_mulw hS hH.kp0 rfl rfl rfl ?_
  clear hS; intro a hS
  first | refine r_sub hS hH.kp0 rfl rfl rfl (by omega) ?_ | refine r_subw hS hH.kp0 rfl rfl rfl ?_
  clear hS; intro a hS
  refine r_convInt hS hH.kp0 rfl Fc.ui101 Fc.us3 rfl ?_; clear hS; intro a hS
  refine r_shrN (m := mixN (2 * n)) 56 (mixN (2 * n) >>> 56) hS hH.kp0 rfl rfl rfl (by decide) (by decide) rfl ?_; clear hS; intro a hS
  refine r_toU8 (q := mixN (2 * n) >>> 56) (nmB n 0) hS hH.kp0 rfl Fc.ui5 Fc.us99 rfl (by simp [nmB]) ?_; clear hS; intro a hS
  refine r_indexAddrA (j := 0) hS hH.kp0 rfl rfl Fc.ar25 (by omega) (by decide) rfl ?_; clear hS; intro a hS
  refine r_store1 hS hH rfl rfl rfl (by first | exact .here | exact .there .here | exact .there (.there .here) | exact .there (.there (.there .here)) | exact .there (.there (.there (.there .here))) | exact .there (.there (.there (.there (.there .here)))) | exact .there (.there (.there (.there (.there (.there .here))))) | exact .there (.there (.there (.there (.there (.there (.there .here)))))) | exact .there (.there (.there (.there (.there (.there (.there (.there .here))))))) | exact .there (.there (.there (.there (.there (.there (.there (.there (.there .here)))))))) | exact .there (.there (.there (.there (.there (.there (.there (.there (.there (.there .here))))))))) | exact .there (.there (.there (.there (.there (.there (.there (.there (.there (.there (.there .here)))))))))) | exact .there (.there (.there (.there (.there (.there (.there (.there (.there (.there (.there (.there .here))))))))))) | exact .there (.there (.there (.there (.there (.there (.there (.there (.there (.there (.there (.there (.there .here)))))))))))) | exact .there (.there (.there (.there (.there (.there (.there (.there (.there (.there (.there (.there (.there (.there .here))))))))))))) | exact .there (.there (.there (.there (.there (.there (.there (.there (.there (.there (.there (.there (.there (.there (.there .here))))))))))))))) (by repeat (first | exact Sub.nil | refine Sub.cons ?_ ?_ | exact In.here | refine In.there ?_)) Fc.sz5 (of_decide_eq_true rfl) (.inr hb3) ?_
  clear hH; intro w hH
  replace hH : Hp w0 Nobody [(b3, .cells ([byteV (nmB n 0), .int .u8 0, .int .u8 0, .int .u8 0, .int .u8 0, .int .u8 0, .int .u8 0, .int .u8 0, .int .u8 0, .int .u8 0, .int .u8 0, .int .u8 0, .int .u8 0, .int .u8 0, .int .u8 0, .int .u8 0] : List Value).toArray 25 (0, 0)), (b2, .cells ([.int .u8 0, .int .u8 0, .int .u8 0, .int .u8 0, .int .u8 0, .int .u8 0, .int .u8 0, .int .u8 0, .int .u8 0, .int .u8 0, .int .u8 0, .int .u8 0, .int .u8 0, .int .u8 0, .int .u8 0, .int .u8 0] : List Value).toArray 25 (0, 0))] w := hH
  refine Sq.nil ?_
  refine then_n ?_
  refine reg_plain w0 (Nobody) ?_
  refine r_move hS hH.kp0 rfl rfl ?_; clear hS; intro a hS
  first | refine r_add hS hH.kp0 rfl rfl rfl (by omega) ?_ | refine r_addw hS hH.kp0 rfl rfl rfl ?_
  clear hS; intro a hS
  refine r_move hS hH.kp0 rfl rfl ?_; clear hS; intro a hS
  refine r_move hS hH.kp0 rfl rfl ?_; clear hS; intro a hS
  first | refine r_mul hS hH.kp0 rfl rfl rfl (by omega) ?_ | refine r_mulw hS hH.kp0 rfl rfl rfl ?_
  clear hS; intro a hS
  first | refine r_sub hS hH.kp0 rfl rfl rfl (by omega) ?_ | refine r_subw hS hH.kp0 rfl rfl rfl ?_
  clear hS; intro a hS
  refine r_convInt hS hH.kp0 rfl Fc.ui101 Fc.us3 rfl ?_; clear hS; intro a hS
  refine r_shrN (m := mixN (2 * n + 1)) 56 (mixN (2 * n + 1) >>> 56) hS hH.kp0 rfl rfl rfl (by decide) (by decide) rfl ?_; clear hS; intro a hS
  refine r_toU8 (q := mixN (2 * n + 1) >>> 56) (nmB n 8) hS hH.kp0 rfl Fc.ui5 Fc.us99 rfl (by simp [nmB]) ?_; clear hS; intro a hS
  refine r_indexAddrA (j := 8) hS hH.kp0 rfl rfl Fc.ar25 (by omega) (by decide) rfl ?_; clear hS; intro a hS
  refine r_store1 hS hH rfl rfl rfl (by first | exact .here | exact .there .here | exact .there (.there .here) | exact .there (.there (.there .here)) | exact .there (.there (.there (.there .here))) | exact .there (.there (.there (.there (.there .here)))) | exact .there (.there (.there (.there (.there (.there .here))))) | exact .there (.there (.there (.there (.there (.there (.there .here)))))) | exact .there (.there (.there (.there (.there (.there (.there (.there .here))))))) | exact .there (.there (.there (.there (.there (.there (.there (.there (.there .here)))))))) | exact .there (.there (.there (.there (.there (.there (.there (.there (.there (.there .here))))))))) | exact .there (.there (.there (.there (.there (.there (.there (.there (.there (.there (.there .here)))))))))) | exact .there (.there (.there (.there (.there (.there (.there (.there (.there (.there (.there (.there .here))))))))))) | exact .there (.there (.there (.there (.there (.there (.there (.there (.there (.there (.there (.there (.there .here)))))))))))) | exact .there (.there (.there (.there (.there (.there (.there (.there (.there (.there (.there (.there (.there (.there .here))))))))))))) | exact .there (.there (.there (.there (.there (.there (.there (.there (.there (.there (.there (.there (.there (.there (.there .here))))))))))))))) (by repeat (first | exact Sub.nil | refine Sub.cons ?_ ?_ | exact In.here | refine In.there ?_)) Fc.sz5 (of_decide_eq_true rfl) (.inr hb3) ?_
  clear hH; intro w hH
  replace hH : Hp w0 Nobody [(b3, .cells ([byteV (nmB n 0), .int .u8 0, .int .u8 0, .int .u8 0, .int .u8 0, .int .u8 0, .int .u8 0, .int .u8 0, byteV (nmB n 8), .int .u8 0, .int .u8 0, .int .u8 0, .int .u8 0, .int .u8 0, .int .u8 0, .int .u8 0] : List Value).toArray 25 (0, 0)), (b2, .cells ([.int .u8 0, .int .u8 0, .int .u8 0, .int .u8 0, .int .u8 0, .int .u8 0, .int .u8 0, .int .u8 0, .int .u8 0, .int .u8 0, .int .u8 0, .int .u8 0, .int .u8 0, .int .u8 0, .int .u8 0, .int .u8 0] : List Value).toArray 25 (0, 0))] w := hH
  refine Sq.nil ?_
  refine blk_n ?_
  refine then_n ?_
  refine reg_plain w0 (Nobody) ?_
  refine r_move hS hH.kp0 rfl rfl ?_; clear hS; intro a hS
  first | refine r_add hS hH.kp0 rfl rfl rfl (by omega) ?_ | refine r_addw hS hH.kp0 rfl rfl rfl ?_
  clear hS; intro a hS
  refine r_assign hS hH.kp0 rfl rfl ?_; clear hS; intro a hS
  refine Sq.nil ?_
  refine then_n ?_
  refine rnd ?_
  refine c_seq ?_
  refine c_seq ?_
  refine reg_plain w0 (Nobody) ?_
  refine r_move hS hH.kp0 rfl rfl ?_; clear hS; intro a hS
  refine r_lss hS hH.kp0 rfl rfl rfl ?_; clear hS; intro a hS
  refine Sq.nil ?_
  refine then_n ?_
  refine c_condT hS rfl rfl ?_
  refine wp_skip ?_
  refine then_n ?_
  refine c_seq ?_
  refine wp_block ?_
  refine c_seq ?_
  refine reg_plain w0 (Nobody) ?_
  refine r_move hS hH.kp0 rfl rfl ?_; clear hS; intro a hS
  refine r_move hS hH.kp0 rfl rfl ?_; clear hS; intro a hS
  refine r_move hS hH.kp0 rfl rfl ?_; clear hS; intro a hS
  first | refine r_mul hS hH.kp0 rfl rfl rfl (by omega) ?_ | refine r_mulw hS hH.kp0 rfl rfl rfl ?_
  clear hS; intro a hS
  first | refine r_sub hS hH.kp0 rfl rfl rfl (by omega) ?_ | refine r_subw hS hH.kp0 rfl rfl rfl ?_
  clear hS; intro a hS
  refine r_convInt hS hH.kp0 rfl Fc.ui101 Fc.us3 rfl ?_; clear hS; intro a hS
  refine r_shrN (m := mixN (2 * n)) 48 (mixN (2 * n) >>> 48) hS hH.kp0 rfl rfl rfl (by decide) (by decide) rfl ?_; clear hS; intro a hS
  refine r_toU8 (q := mixN (2 * n) >>> 48) (nmB n 1) hS hH.kp0 rfl Fc.ui5 Fc.us99 rfl (by simp [nmB]) ?_; clear hS; intro a hS
  refine r_indexAddrA (j := 1) hS hH.kp0 rfl rfl Fc.ar25 (by omega) (by decide) rfl ?_; clear hS; intro a hS
  refine r_store1 hS hH rfl rfl rfl (by first | exact .here | exact .there .here | exact .there (.there .here) | exact .there (.there (.there .here)) | exact .there (.there (.there (.there .here))) | exact .there (.there (.there (.there (.there .here)))) | exact .there (.there (.there (.there (.there (.there .here))))) | exact .there (.there (.there (.there (.there (.there (.there .here)))))) | exact .there (.there (.there (.there (.there (.there (.there (.there .here))))))) | exact .there (.there (.there (.there (.there (.there (.there (.there (.there .here)))))))) | exact .there (.there (.there (.there (.there (.there (.there (.there (.there (.there .here))))))))) | exact .there (.there (.there (.there (.there (.there (.there (.there (.there (.there (.there .here)))))))))) | exact .there (.there (.there (.there (.there (.there (.there (.there (.there (.there (.there (.there .here))))))))))) | exact .there (.there (.there (.there (.there (.there (.there (.there (.there (.there (.there (.there (.there .here)))))))))))) | exact .there (.there (.there (.there (.there (.there (.there (.there (.there (.there (.there (.there (.there (.there .here))))))))))))) | exact .there (.there (.there (.there (.there (.there (.there (.there (.there (.there (.there (.there (.there (.there (.there .here))))))))))))))) (by repeat (first | exact Sub.nil | refine Sub.cons ?_ ?_ | exact In.here | refine In.there ?_)) Fc.sz5 (of_decide_eq_true rfl) (.inr hb3) ?_
  clear hH; intro w hH
  replace hH : Hp w0 Nobody [(b3, .cells ([byteV (nmB n 0), byteV (nmB n 1), .int .u8 0, .int .u8 0, .int .u8 0, .int .u8 0, .int .u8 0, .int .u8 0, byteV (nmB n 8), .int .u8 0, .int .u8 0, .int .u8 0, .int .u8 0, .int .u8 0, .int .u8 0, .int .u8 0] : List Value).toArray 25 (0, 0)), (b2, .cells ([.int .u8 0, .int .u8 0, .int .u8 0, .int .u8 0, .int .u8 0, .int .u8 0, .int .u8 0, .int .u8 0, .int .u8 0, .int .u8 0, .int .u8 0, .int .u8 0, .int .u8 0, .int .u8 0, .int .u8 0, .int .u8 0] : List Value).toArray 25 (0, 0))] w := hH
  refine Sq.nil ?_
  refine then_n ?_
  refine reg_plain w0 (Nobody) ?_
  refine r_move hS hH.kp0 rfl rfl ?_; clear hS; intro a hS
  first | refine r_add hS hH.kp0 rfl rfl rfl (by omega) ?_ | refine r_addw hS hH.kp0 rfl rfl rfl ?_
  clear hS; intro a hS
  refine r_move hS hH.kp0 rfl rfl ?_; clear hS; intro a hS
  refine r_move hS hH.kp0 rfl rfl ?_; clear hS; intro a hS
  first | refine r_mul hS hH.kp0 rfl rfl rfl (by omega) ?_ | refine r_mulw hS hH.kp0 rfl rfl rfl ?_
  clear hS; intro a hS
  first | refine r_sub hS hH.kp0 rfl rfl rfl (by omega) ?_ | refine r_subw hS hH.kp0 rfl rfl rfl ?_
  clear hS; intro a hS
  refine r_convInt hS hH.kp0 rfl Fc.ui101 Fc.us3 rfl ?_; clear hS; intro a hS
  refine r_shrN (m := mixN (2 * n + 1)) 48 (mixN (2 * n + 1) >>> 48) hS hH.kp0 rfl rfl rfl (by decide) (by decide) rfl ?_; clear hS; intro a hS
  refine r_toU8 (q := mixN (2 * n + 1) >>> 48) (nmB n 9) hS hH.kp0 rfl Fc.ui5 Fc.us99 rfl (by simp [nmB]) ?_; clear hS; intro a hS
  refine r_indexAddrA (j := 9) hS hH.kp0 rfl rfl Fc.ar25 (by omega) (by decide) rfl ?_; clear hS; intro a hS
  refine r_store1 hS hH rfl rfl rfl (by first | exact .here | exact .there .here | exact .there (.there .here) | exact .there (.there (.there .here)) | exact .there (.there (.there (.there .here))) | exact .there (.there (.there (.there (.there .here)))) | exact .there (.there (.there (.there (.there (.there .here))))) | exact .there (.there (.there (.there (.there (.there (.there .here)))))) | exact .there (.there (.there (.there (.there (.there (.there (.there .here))))))) | exact .there (.there (.there (.there (.there (.there (.there (.there (.there .here)))))))) | exact .there (.there (.there (.there (.there (.there (.there (.there (.there (.there .here))))))))) | exact .there (.there (.there (.there (.there (.there (.there (.there (.there (.there (.there .here)))))))))) | exact .there (.there (.there (.there (.there (.there (.there (.there (.there (.there (.there (.there .here))))))))))) | exact .there (.there (.there (.there (.there (.there (.there (.there (.there (.there (.there (.there (.there .here)))))))))))) | exact .there (.there (.there (.there (.there (.there (.there (.there (.there (.there (.there (.there (.there (.there .here))))))))))))) | exact .there (.there (.there (.there (.there (.there (.there (.there (.there (.there (.there (.there (.there (.there (.there .here))))))))))))))) (by repeat (first | exact Sub.nil | refine Sub.cons ?_ ?_ | exact In.here | refine In.there ?_)) Fc.sz5 (of_decide_eq_true rfl) (.inr hb3) ?_
  clear hH; intro w hH
  replace hH : Hp w0 Nobody [(b3, .cells ([byteV (nmB n 0), byteV (nmB n 1), .int .u8 0, .int .u8 0, .int .u8 0, .int .u8 0, .int .u8 0, .int .u8 0, byteV (nmB n 8), byteV (nmB n 9), .int .u8 0, .int .u8 0, .int .u8 0, .int .u8 0, .int .u8 0, .int .u8 0] : List Value).toArray 25 (0, 0)), (b2, .cells ([.int .u8 0, .int .u8 0, .int .u8 0, .int .u8 0, .int .u8 0, .int .u8 0, .int .u8 0, .int .u8 0, .int .u8 0, .int .u8 0, .int .u8 0, .int .u8 0, .int .u8 0, .int .u8 0, .int .u8 0, .int .u8 0] : List Value).toArray 25 (0, 0))] w := hH
  refine Sq.nil ?_
  refine blk_n ?_
  refine then_n ?_
  refine reg_plain w0 (Nobody) ?_
  refine r_move hS hH.kp0 rfl rfl ?_; clear hS; intro a hS
  first | refine r_add hS hH.kp0 rfl rfl rfl (by omega) ?_ | refine r_addw hS hH.kp0 rfl rfl rfl ?_
  clear hS; intro a hS
  refine r_assign hS hH.kp0 rfl rfl ?_; clear hS; intro a hS
  refine Sq.nil ?_
  refine then_n ?_
  refine rnd ?_
  refine c_seq ?_
  refine c_seq ?_
  refine reg_plain w0 (Nobody) ?_
  refine r_move hS hH.kp0 rfl rfl ?_; clear hS; intro a hS
  refine r_lss hS hH.kp0 rfl rfl rfl ?_; clear hS; intro a hS
  refine Sq.nil ?_
  refine then_n ?_
  refine c_condT hS rfl rfl ?_
  refine wp_skip ?_
  refine then_n ?_
  refine c_seq ?_
  refine wp_block ?_
  refine c_seq ?_
  refine reg_plain w0 (Nobody) ?_
  refine r_move hS hH.kp0 rfl rfl ?_; clear hS; intro a hS
  refine r_move hS hH.kp0 rfl rfl ?_; clear hS; intro a hS
  refine r_move hS hH.kp0 rfl rfl ?_; clear hS; intro a hS
  first | refine r_mul hS hH.kp0 rfl rfl rfl (by omega) ?_ | refine r_mulw hS hH.kp0 rfl rfl rfl ?_
  clear hS; intro a hS
  first | refine r_sub hS hH.kp0 rfl rfl rfl (by omega) ?_ | refine r_subw hS hH.kp0 rfl rfl rfl ?_
  clear hS; intro a hS
  refine r_convInt hS hH.kp0 rfl Fc.ui101 Fc.us3 rfl ?_; clear hS; intro a hS
  refine r_shrN (m := mixN (2 * n)) 40 (mixN (2 * n) >>> 40) hS hH.kp0 rfl rfl rfl (by decide) (by decide) rfl ?_; clear hS; intro a hS
  refine r_toU8 (q := mixN (2 * n) >>> 40) (nmB n 2) hS hH.kp0 rfl Fc.ui5 Fc.us99 rfl (by simp [nmB]) ?_; clear hS; intro a hS
  refine r_indexAddrA (j := 2) hS hH.kp0 rfl rfl Fc.ar25 (by omega) (by decide) rfl ?_; clear hS; intro a hS
  refine r_store1 hS hH rfl rfl rfl (by first | exact .here | exact .there .here | exact .there (.there .here) | exact .there (.there (.there .here)) | exact .there (.there (.there (.there .here))) | exact .there (.there (.there (.there (.there .here)))) | exact .there (.there (.there (.there (.there (.there .here))))) | exact .there (.there (.there (.there (.there (.there (.there .here)))))) | exact .there (.there (.there (.there (.there (.there (.there (.there .here))))))) | exact .there (.there (.there (.there (.there (.there (.there (.there (.there .here)))))))) | exact .there (.there (.there (.there (.there (.there (.there (.there (.there (.there .here))))))))) | exact .there (.there (.there (.there (.there (.there (.there (.there (.there (.there (.there .here)))))))))) | exact .there (.there (.there (.there (.there (.there (.there (.there (.there (.there (.there (.there .here))))))))))) | exact .there (.there (.there (.there (.there (.there (.there (.there (.there (.there (.there (.there (.there .here)))))))))))) | exact .there (.there (.there (.there (.there (.there (.there (.there (.there (.there (.there (.there (.there (.there .here))))))))))))) | exact .there (.there (.there (.there (.there (.there (.there (.there (.there (.there (.there (.there (.there (.there (.there .here))))))))))))))) (by repeat (first | exact Sub.nil | refine Sub.cons ?_ ?_ | exact In.here | refine In.there ?_)) Fc.sz5 (of_decide_eq_true rfl) (.inr hb3) ?_
  clear hH; intro w hH
  replace hH : Hp w0 Nobody [(b3, .cells ([byteV (nmB n 0), byteV (nmB n 1), byteV (nmB n 2), .int .u8 0, .int .u8 0, .int .u8 0, .int .u8 0, .int .u8 0, byteV (nmB n 8), byteV (nmB n 9), .int .u8 0, .int .u8 0, .int .u8 0, .int .u8 0, .int .u8 0, .int .u8 0] : List Value).toArray 25 (0, 0)), (b2, .cells ([.int .u8 0, .int .u8 0, .int .u8 0, .int .u8 0, .int .u8 0, .int .u8 0, .int .u8 0, .int .u8 0, .int .u8 0, .int .u8 0, .int .u8 0, .int .u8 0, .int .u8 0, .int .u8 0, .int .u8 0, .int .u8 0] : List Value).toArray 25 (0, 0))] w := hH
  refine Sq.nil ?_
  refine then_n ?_
  refine reg_plain w0 (Nobody) ?_
  refine r_move hS hH.kp0 rfl rfl ?_; clear hS; intro a hS
  first | refine r_add hS hH.kp0 rfl rfl rfl (by omega) ?_ | refine r_addw hS hH.kp0 rfl rfl rfl ?_
  clear hS; intro a hS
  refine r_move hS hH.kp0 rfl rfl ?_; clear hS; intro a hS
  refine r_move hS hH.kp0 rfl rfl ?_; clear hS; intro a hS
  first | refine r_mul hS hH.kp0 rfl rfl rfl (by omega) ?_ | refine r_mulw hS hH.kp0 rfl rfl rfl ?_
  clear hS; intro a hS
  first | refine r_sub hS hH.kp0 rfl rfl rfl (by omega) ?_ | refine r_subw hS hH.kp0 rfl rfl rfl ?_
  clear hS; intro a hS
  refine r_convInt hS hH.kp0 rfl Fc.ui101 Fc.us3 rfl ?_; clear hS; intro a hS
  refine r_shrN (m := mixN (2 * n + 1)) 40 (mixN (2 * n + 1) >>> 40) hS hH.kp0 rfl rfl rfl (by decide) (by decide) rfl ?_; clear hS; intro a hS
  refine r_toU8 (q := mixN (2 * n + 1) >>> 40) (nmB n 10) hS hH.kp0 rfl Fc.ui5 Fc.us99 rfl (by simp [nmB]) ?_; clear hS; intro a hS
  refine r_indexAddrA (j := 10) hS hH.kp0 rfl rfl Fc.ar25 (by omega) (by decide) rfl ?_; clear hS; intro a hS
  refine r_store1 hS hH rfl rfl rfl (by first | exact .here | exact .there .here | exact .there (.there .here) | exact .there (.there (.there .here)) | exact .there (.there (.there (.there .here))) | exact .there (.there (.there (.there (.there .here)))) | exact .there (.there (.there (.there (.there (.there .here))))) | exact .there (.there (.there (.there (.there (.there (.there .here)))))) | exact .there (.there (.there (.there (.there (.there (.there (.there .here))))))) | exact .there (.there (.there (.there (.there (.there (.there (.there (.there .here)))))))) | exact .there (.there (.there (.there (.there (.there (.there (.there (.there (.there .here))))))))) | exact .there (.there (.there (.there (.there (.there (.there (.there (.there (.there (.there .here)))))))))) | exact .there (.there (.there (.there (.there (.there (.there (.there (.there (.there (.there (.there .here))))))))))) | exact .there (.there (.there (.there (.there (.there (.there (.there (.there (.there (.there (.there (.there .here)))))))))))) | exact .there (.there (.there (.there (.there (.there (.there (.there (.there (.there (.there (.there (.there (.there .here))))))))))))) | exact .there (.there (.there (.there (.there (.there (.there (.there (.there (.there (.there (.there (.there (.there (.there .here))))))))))))))) (by repeat (first | exact Sub.nil | refine Sub.cons ?_ ?_ | exact In.here | refine In.there ?_)) Fc.sz5 (of_decide_eq_true rfl) (.inr hb3) ?_
  clear hH; intro w hH
  replace hH : Hp w0 Nobody [(b3, .cells ([byteV (nmB n 0), byteV (nmB n 1), byteV (nmB n 2), .int .u8 0, .int .u8 0, .int .u8 0, .int .u8 0, .int .u8 0, byteV (nmB n 8), byteV (nmB n 9), byteV (nmB n 10), .int .u8 0, .int .u8 0, .int .u8 0, .int .u8 0, .int .u8 0] : List Value).toArray 25 (0, 0)), (b2, .cells ([.int .u8 0, .int .u8 0, .int .u8 0, .int .u8 0, .int .u8 0, .int .u8 0, .int .u8 0, .int .u8 0, .int .u8 0, .int .u8 0, .int .u8 0, .int .u8 0, .int .u8 0, .int .u8 0, .int .u8 0, .int .u8 0] : List Value).toArray 25 (0, 0))] w := hH
  refine Sq.nil ?_
  refine blk_n ?_
  refine then_n ?_
  refine reg_plain w0 (Nobody) ?_
  refine r_move hS hH.kp0 rfl rfl ?_; clear hS; intro a hS
  first | refine r_add hS hH.kp0 rfl rfl rfl (by omega) ?_ | refine r_addw hS hH.kp0 rfl rfl rfl ?_
  clear hS; intro a hS
  refine r_assign hS hH.kp0 rfl rfl ?_; clear hS; intro a hS
  refine Sq.nil ?_
  refine then_n ?_
  refine rnd ?_
  refine c_seq ?_
  refine c_seq ?_
  refine reg_plain w0 (Nobody) ?_
  refine r_move hS hH.kp0 rfl rfl ?_; clear hS; intro a hS
  refine r_lss hS hH.kp0 rfl rfl rfl ?_; clear hS; intro a hS
  refine Sq.nil ?_
  refine then_n ?_
  refine c_condT hS rfl rfl ?_
  refine wp_skip ?_
  refine then_n ?_
  refine c_seq ?_
  refine wp_block ?_
  refine c_seq ?_
  refine reg_plain w0 (Nobody) ?_
  refine r_move hS hH.kp0 rfl rfl ?_; clear hS; intro a hS
  refine r_move hS hH.kp0 rfl rfl ?_; clear hS; intro a hS
  refine r_move hS hH.kp0 rfl rfl ?_; clear hS; intro a hS
  first | refine r_mul hS hH.kp0 rfl rfl rfl (by omega) ?_ | refine r_mulw hS hH.kp0 rfl rfl rfl ?_
  clear hS; intro a hS
  first | refine r_sub hS hH.kp0 rfl rfl rfl (by omega) ?_ | refine r_subw hS hH.kp0 rfl rfl rfl ?_
  clear hS; intro a hS
  refine r_convInt hS hH.kp0 rfl Fc.ui101 Fc.us3 rfl ?_; clear hS; intro a hS
  refine r_shrN (m := mixN (2 * n)) 32 (mixN (2 * n) >>> 32) hS hH.kp0 rfl rfl rfl (by decide) (by decide) rfl ?_; clear hS; intro a hS
  refine r_toU8 (q := mixN (2 * n) >>> 32) (nmB n 3) hS hH.kp0 rfl Fc.ui5 Fc.us99 rfl (by simp [nmB]) ?_; clear hS; intro a hS
  refine r_indexAddrA (j := 3) hS hH.kp0 rfl rfl Fc.ar25 (by omega) (by decide) rfl ?_; clear hS; intro a hS
  refine r_store1 hS hH rfl rfl rfl (by first | exact .here | exact .there .here | exact .there (.there .here) | exact .there (.there (.there .here)) | exact .there (.there (.there (.there .here))) | exact .there (.there (.there (.there (.there .here)))) | exact .there (.there (.there (.there (.there (.there .here))))) | exact .there (.there (.there (.there (.there (.there (.there .here)))))) | exact .there (.there (.there (.there (.there (.there (.there (.there .here))))))) | exact .there (.there (.there (.there (.there (.there (.there (.there (.there .here)))))))) | exact .there (.there (.there (.there (.there (.there (.there (.there (.there (.there .here))))))))) | exact .there (.there (.there (.there (.there (.there (.there (.there (.there (.there (.there .here)))))))))) | exact .there (.there (.there (.there (.there (.there (.there (.there (.there (.there (.there (.there .here))))))))))) | exact .there (.there (.there (.there (.there (.there (.there (.there (.there (.there (.there (.there (.there .here)))))))))))) | exact .there (.there (.there (.there (.there (.there (.there (.there (.there (.there (.there (.there (.there (.there .here))))))))))))) | exact .there (.there (.there (.there (.there (.there (.there (.there (.there (.there (.there (.there (.there (.there (.there .here))))))))))))))) (by repeat (first | exact Sub.nil | refine Sub.cons ?_ ?_ | exact In.here | refine In.there ?_)) Fc.sz5 (of_decide_eq_true rfl) (.inr hb3) ?_
  clear hH; intro w hH
  replace hH : Hp w0 Nobody [(b3, .cells ([byteV (nmB n 0), byteV (nmB n 1), byteV (nmB n 2), byteV (nmB n 3), .int .u8 0, .int .u8 0, .int .u8 0, .int .u8 0, byteV (nmB n 8), byteV (nmB n 9), byteV (nmB n 10), .int .u8 0, .int .u8 0, .int .u8 0, .int .u8 0, .int .u8 0] : List Value).toArray 25 (0, 0)), (b2, .cells ([.int .u8 0, .int .u8 0, .int .u8 0, .int .u8 0, .int .u8 0, .int .u8 0, .int .u8 0, .int .u8 0, .int .u8 0, .int .u8 0, .int .u8 0, .int .u8 0, .int .u8 0, .int .u8 0, .int .u8 0, .int .u8 0] : List Value).toArray 25 (0, 0))] w := hH
  refine Sq.nil ?_
  refine then_n ?_
  refine reg_plain w0 (Nobody) ?_
  refine r_move hS hH.kp0 rfl rfl ?_; clear hS; intro a hS
  first | refine r_add hS hH.kp0 rfl rfl rfl (by omega) ?_ | refine r_addw hS hH.kp0 rfl rfl rfl ?_
  clear hS; intro a hS
  refine r_move hS hH.kp0 rfl rfl ?_; clear hS; intro a hS
  refine r_move hS hH.kp0 rfl rfl ?_; clear hS; intro a hS
  first | refine r_mul hS hH.kp0 rfl rfl rfl (by omega) ?_ | refine r_mulw hS hH.kp0 rfl rfl rfl ?_
  clear hS; intro a hS
  first | refine r_sub hS hH.kp0 rfl rfl rfl (by omega) ?_ | refine r_subw hS hH.kp0 rfl rfl rfl ?_
  clear hS; intro a hS
  refine r_convInt hS hH.kp0 rfl Fc.ui101 Fc.us3 rfl ?_; clear hS; intro a hS
  refine r_shrN (m := mixN (2 * n + 1)) 32 (mixN (2 * n + 1) >>> 32) hS hH.kp0 rfl rfl rfl (by decide) (by decide) rfl ?_; clear hS; intro a hS
  refine r_toU8 (q := mixN (2 * n + 1) >>> 32) (nmB n 11) hS hH.kp0 rfl Fc.ui5 Fc.us99 rfl (by simp [nmB]) ?_; clear hS; intro a hS
  refine r_indexAddrA (j := 11) hS hH.kp0 rfl rfl Fc.ar25 (by omega) (by decide) rfl ?_; clear hS; intro a hS
  refine r_store1 hS hH rfl rfl rfl (by first | exact .here | exact .there .here | exact .there (.there .here) | exact .there (.there (.there .here)) | exact .there (.there (.there (.there .here))) | exact .there (.there (.there (.there (.there .here)))) | exact .there (.there (.there (.there (.there (.there .here))))) | exact .there (.there (.there (.there (.there (.there (.there .here)))))) | exact .there (.there (.there (.there (.there (.there (.there (.there .here))))))) | exact .there (.there (.there (.there (.there (.there (.there (.there (.there .here)))))))) | exact .there (.there (.there (.there (.there (.there (.there (.there (.there (.there .here))))))))) | exact .there (.there (.there (.there (.there (.there (.there (.there (.there (.there (.there .here)))))))))) | exact .there (.there (.there (.there (.there (.there (.there (.there (.there (.there (.there (.there .here))))))))))) | exact .there (.there (.there (.there (.there (.there (.there (.there (.there (.there (.there (.there (.there .here)))))))))))) | exact .there (.there (.there (.there (.there (.there (.there (.there (.there (.there (.there (.there (.there (.there .here))))))))))))) | exact .there (.there (.there (.there (.there (.there (.there (.there (.there (.there (.there (.there (.there (.there (.there .here))))))))))))))) (by repeat (first | exact Sub.nil | refine Sub.cons ?_ ?_ | exact In.here | refine In.there ?_)) Fc.sz5 (of_decide_eq_true rfl) (.inr hb3) ?_
  clear hH; intro w hH
  replace hH : Hp w0 Nobody [(b3, .cells ([byteV (nmB n 0), byteV (nmB n 1), byteV (nmB n 2), byteV (nmB n 3), .int .u8 0, .int .u8 0, .int .u8 0, .int .u8 0, byteV (nmB n 8), byteV (nmB n 9), byteV (nmB n 10), byteV (nmB n 11), .int .u8 0, .int .u8 0, .int .u8 0, .int .u8 0] : List Value).toArray 25 (0, 0)), (b2, .cells ([.int .u8 0, .int .u8 0, .int .u8 0, .int .u8 0, .int .u8 0, .int .u8 0, .int .u8 0, .int .u8 0, .int .u8 0, .int .u8 0, .int .u8 0, .int .u8 0, .int .u8 0, .int .u8 0, .int .u8 0, .int .u8 0] : List Value).toArray 25 (0, 0))] w := hH
  refine Sq.nil ?_
  refine blk_n ?_
  refine then_n ?_
  refine reg_plain w0 (Nobody) ?_
  refine r_move hS hH.kp0 rfl rfl ?_; clear hS; intro a hS
  first | refine r_add hS hH.kp0 rfl rfl rfl (by omega) ?_ | refine r_addw hS hH.kp0 rfl rfl rfl ?_
  clear hS; intro a hS
  refine r_assign hS hH.kp0 rfl rfl ?_; clear hS; intro a hS
  refine Sq.nil ?_
  refine then_n ?_
  refine rnd ?_
  refine c_seq ?_
  refine c_seq ?_
  refine reg_plain w0 (Nobody) ?_
  refine r_move hS hH.kp0 rfl rfl ?_; clear hS; intro a hS
  refine r_lss hS hH.kp0 rfl rfl rfl ?_; clear hS; intro a hS
  refine Sq.nil ?_
  refine then_n ?_
  refine c_condT hS rfl rfl ?_
  refine wp_skip ?_
  refine then_n ?_
  refine c_seq ?_
  refine wp_block ?_
  refine c_seq ?_
  refine reg_plain w0 (Nobody) ?_
  refine r_move hS hH.kp0 rfl rfl ?_; clear hS; intro a hS
  refine r_move hS hH.kp0 rfl rfl ?_; clear hS; intro a hS
  refine r_move hS hH.kp0 rfl rfl ?_; clear hS; intro a hS
  first | refine r_mul hS hH.kp0 rfl rfl rfl (by omega) ?_ | refine r_mulw hS hH.kp0 rfl rfl rfl ?_
  clear hS; intro a hS
  first | refine r_sub hS hH.kp0 rfl rfl rfl (by omega) ?_ | refine r_subw hS hH.kp0 rfl rfl rfl ?_
  clear hS; intro a hS
  refine r_convInt hS hH.kp0 rfl Fc.ui101 Fc.us3 rfl ?_; clear hS; intro a hS
  refine r_shrN (m := mixN (2 * n)) 24 (mixN (2 * n) >>> 24) hS hH.kp0 rfl rfl rfl (by decide) (by decide) rfl ?_; clear hS; intro a hS
  refine r_toU8 (q := mixN (2 * n) >>> 24) (nmB n 4) hS hH.kp0 rfl Fc.ui5 Fc.us99 rfl (by simp [nmB]) ?_; clear hS; intro a hS
  refine r_indexAddrA (j := 4) hS hH.kp0 rfl rfl Fc.ar25 (by omega) (by decide) rfl ?_; clear hS; intro a hS
  refine r_store1 hS hH rfl rfl rfl (by first | exact .here | exact .there .here | exact .there (.there .here) | exact .there (.there (.there .here)) | exact .there (.there (.there (.there .here))) | exact .there (.there (.there (.there (.there .here)))) | exact .there (.there (.there (.there (.there (.there .here))))) | exact .there (.there (.there (.there (.there (.there (.there .here)))))) | exact .there (.there (.there (.there (.there (.there (.there (.there .here))))))) | exact .there (.there (.there (.there (.there (.there (.there (.there (.there .here)))))))) | exact .there (.there (.there (.there (.there (.there (.there (.there (.there (.there .here))))))))) | exact .there (.there (.there (.there (.there (.there (.there (.there (.there (.there (.there .here)))))))))) | exact .there (.there (.there (.there (.there (.there (.there (.there (.there (.there (.there (.there .here))))))))))) | exact .there (.there (.there (.there (.there (.there (.there (.there (.there (.there (.there (.there (.there .here)))))))))))) | exact .there (.there (.there (.there (.there (.there (.there (.there (.there (.there (.there (.there (.there (.there .here))))))))))))) | exact .there (.there (.there (.there (.there (.there (.there (.there (.there (.there (.there (.there (.there (.there (.there .here))))))))))))))) (by repeat (first | exact Sub.nil | refine Sub.cons ?_ ?_ | exact In.here | refine In.there ?_)) Fc.sz5 (of_decide_eq_true rfl) (.inr hb3) ?_
  clear hH; intro w hH
  replace hH : Hp w0 Nobody [(b3, .cells ([byteV (nmB n 0), byteV (nmB n 1), byteV (nmB n 2), byteV (nmB n 3), byteV (nmB n 4), .int .u8 0, .int .u8 0, .int .u8 0, byteV (nmB n 8), byteV (nmB n 9), byteV (nmB n 10), byteV (nmB n 11), .int .u8 0, .int .u8 0, .int .u8 0, .int .u8 0] : List Value).toArray 25 (0, 0)), (b2, .cells ([.int .u8 0, .int .u8 0, .int .u8 0, .int .u8 0, .int .u8 0, .int .u8 0, .int .u8 0, .int .u8 0, .int .u8 0, .int .u8 0, .int .u8 0, .int .u8 0, .int .u8 0, .int .u8 0, .int .u8 0, .int .u8 0] : List Value).toArray 25 (0, 0))] w := hH
  refine Sq.nil ?_
  refine then_n ?_
  refine reg_plain w0 (Nobody) ?_
  refine r_move hS hH.kp0 rfl rfl ?_; clear hS; intro a hS
  first | refine r_add hS hH.kp0 rfl rfl rfl (by omega) ?_ | refine r_addw hS hH.kp0 rfl rfl rfl ?_
  clear hS; intro a hS
  refine r_move hS hH.kp0 rfl rfl ?_; clear hS; intro a hS
  refine r_move hS hH.kp0 rfl rfl ?_; clear hS; intro a hS
  first | refine r_mul hS hH.kp0 rfl rfl rfl (by omega) ?_ | refine r_mulw hS hH.kp0 rfl rfl rfl ?_
  clear hS; intro a hS
  first | refine r_sub hS hH.kp0 rfl rfl rfl (by omega) ?_ | refine r_subw hS hH.kp0 rfl rfl rfl ?_
  clear hS; intro a hS
  refine r_convInt hS hH.kp0 rfl Fc.ui101 Fc.us3 rfl ?_; clear hS; intro a hS
  refine r_shrN (m := mixN (2 * n + 1)) 24 (mixN (2 * n + 1) >>> 24) hS hH.kp0 rfl rfl rfl (by decide) (by decide) rfl ?_; clear hS; intro a hS
  refine r_toU8 (q := mixN (2 * n + 1) >>> 24) (nmB n 12) hS hH.kp0 rfl Fc.ui5 Fc.us99 rfl (by simp [nmB]) ?_; clear hS; intro a hS
  refine r_indexAddrA (j := 12) hS hH.kp0 rfl rfl Fc.ar25 (by omega) (by decide) rfl ?_; clear hS; intro a hS
  refine r_store1 hS hH rfl rfl rfl (by first | exact .here | exact .there .here | exact .there (.there .here) | exact .there (.there (.there .here)) | exact .there (.there (.there (.there .here))) | exact .there (.there (.there (.there (.there .here)))) | exact .there (.there (.there (.there (.there (.there .here))))) | exact .there (.there (.there (.there (.there (.there (.there .here)))))) | exact .there (.there (.there (.there (.there (.there (.there (.there .here))))))) | exact .there (.there (.there (.there (.there (.there (.there (.there (.there .here)))))))) | exact .there (.there (.there (.there (.there (.there (.there (.there (.there (.there .here))))))))) | exact .there (.there (.there (.there (.there (.there (.there (.there (.there (.there (.there .here)))))))))) | exact .there (.there (.there (.there (.there (.there (.there (.there (.there (.there (.there (.there .here))))))))))) | exact .there (.there (.there (.there (.there (.there (.there (.there (.there (.there (.there (.there (.there .here)))))))))))) | exact .there (.there (.there (.there (.there (.there (.there (.there (.there (.there (.there (.there (.there (.there .here))))))))))))) | exact .there (.there (.there (.there (.there (.there (.there (.there (.there (.there (.there (.there (.there (.there (.there .here))))))))))))))) (by repeat (first | exact Sub.nil | refine Sub.cons ?_ ?_ | exact In.here | refine In.there ?_)) Fc.sz5 (of_decide_eq_true rfl) (.inr hb3) ?_
  clear hH; intro w hH
  replace hH : Hp w0 Nobody [(b3, .cells ([byteV (nmB n 0), byteV (nmB n 1), byteV (nmB n 2), byteV (nmB n 3), byteV (nmB n 4), .int .u8 0, .int .u8 0, .int .u8 0, byteV (nmB n 8), byteV (nmB n 9), byteV (nmB n 10), byteV (nmB n 11), byteV (nmB n 12), .int .u8 0, .int .u8 0, .int .u8 0] : List Value).toArray 25 (0, 0)), (b2, .cells ([.int .u8 0, .int .u8 0, .int .u8 0, .int .u8 0, .int .u8 0, .int .u8 0, .int .u8 0, .int .u8 0, .int .u8 0, .int .u8 0, .int .u8 0, .int .u8 0, .int .u8 0, .int .u8 0, .int .u8 0, .int .u8 0] : List Value).toArray 25 (0, 0))] w := hH
  refine Sq.nil ?_
  refine blk_n ?_
  refine then_n ?_
  refine reg_plain w0 (Nobody) ?_
  refine r_move hS hH.kp0 rfl rfl ?_; clear hS; intro a hS
  first | refine r_add hS hH.kp0 rfl rfl rfl (by omega) ?_ | refine r_addw hS hH.kp0 rfl rfl rfl ?_
  clear hS; intro a hS
  refine r_assign hS hH.kp0 rfl rfl ?_; clear hS; intro a hS
  refine Sq.nil ?_
  refine then_n ?_
  refine rnd ?_
  refine c_seq ?_
  refine c_seq ?_
  refine reg_plain w0 (Nobody) ?_
  refine r_move hS hH.kp0 rfl rfl ?_; clear hS; intro a hS
  refine r_lss hS hH.kp0 rfl rfl rfl ?_; clear hS; intro a hS
  refine Sq.nil ?_
  refine then_n ?_
  refine c_condT hS rfl rfl ?_
  refine wp_skip ?_
  refine then_n ?_
  refine c_seq ?_
  refine wp_block ?_
  refine c_seq ?_
  refine reg_plain w0 (Nobody) ?_
  refine r_move hS hH.kp0 rfl rfl ?_; clear hS; intro a hS
  refine r_move hS hH.kp0 rfl rfl ?_; clear hS; intro a hS
  refine r_move hS hH.kp0 rfl rfl ?_; clear hS; intro a hS
  first | refine r_mul hS hH.kp0 rfl rfl rfl (by omega) ?_ | refine r_mulw hS hH.kp0 rfl rfl rfl ?_
  clear hS; intro a hS
  first | refine r_sub hS hH.kp0 rfl rfl rfl (by omega) ?_ | refine r_subw hS hH.kp0 rfl rfl rfl ?_
  clear hS; intro a hS
  refine r_convInt hS hH.kp0 rfl Fc.ui101 Fc.us3 rfl ?_; clear hS; intro a hS
  refine r_shrN (m := mixN (2 * n)) 16 (mixN (2 * n) >>> 16) hS hH.kp0 rfl rfl rfl (by decide) (by decide) rfl ?_; clear hS; intro a hS
  refine r_toU8 (q := mixN (2 * n) >>> 16) (nmB n 5) hS hH.kp0 rfl Fc.ui5 Fc.us99 rfl (by simp [nmB]) ?_; clear hS; intro a hS
  refine r_indexAddrA (j := 5) hS hH.kp0 rfl rfl Fc.ar25 (by omega) (by decide) rfl ?_; clear hS; intro a hS
  refine r_store1 hS hH rfl rfl rfl (by first | exact .here | exact .there .here | exact .there (.there .here) | exact .there (.there (.there .here)) | exact .there (.there (.there (.there .here))) | exact .there (.there (.there (.there (.there .here)))) | exact .there (.there (.there (.there (.there (.there .here))))) | exact .there (.there (.there (.there (.there (.there (.there .here)))))) | exact .there (.there (.there (.there (.there (.there (.there (.there .here))))))) | exact .there (.there (.there (.there (.there (.there (.there (.there (.there .here)))))))) | exact .there (.there (.there (.there (.there (.there (.there (.there (.there (.there .here))))))))) | exact .there (.there (.there (.there (.there (.there (.there (.there (.there (.there (.there .here)))))))))) | exact .there (.there (.there (.there (.there (.there (.there (.there (.there (.there (.there (.there .here))))))))))) | exact .there (.there (.there (.there (.there (.there (.there (.there (.there (.there (.there (.there (.there .here)))))))))))) | exact .there (.there (.there (.there (.there (.there (.there (.there (.there (.there (.there (.there (.there (.there .here))))))))))))) | exact .there (.there (.there (.there (.there (.there (.there (.there (.there (.there (.there (.there (.there (.there (.there .here))))))))))))))) (by repeat (first | exact Sub.nil | refine Sub.cons ?_ ?_ | exact In.here | refine In.there ?_)) Fc.sz5 (of_decide_eq_true rfl) (.inr hb3) ?_
  clear hH; intro w hH
  replace hH : Hp w0 Nobody [(b3, .cells ([byteV (nmB n 0), byteV (nmB n 1), byteV (nmB n 2), byteV (nmB n 3), byteV (nmB n 4), byteV (nmB n 5), .int .u8 0, .int .u8 0, byteV (nmB n 8), byteV (nmB n 9), byteV (nmB n 10), byteV (nmB n 11), byteV (nmB n 12), .int .u8 0, .int .u8 0, .int .u8 0] : List Value).toArray 25 (0, 0)), (b2, .cells ([.int .u8 0, .int .u8 0, .int .u8 0, .int .u8 0, .int .u8 0, .int .u8 0, .int .u8 0, .int .u8 0, .int .u8 0, .int .u8 0, .int .u8 0, .int .u8 0, .int .u8 0, .int .u8 0, .int .u8 0, .int .u8 0] : List Value).toArray 25 (0, 0))] w := hH
  refine Sq.nil ?_
  refine then_n ?_
  refine reg_plain w0 (Nobody) ?_
  refine r_move hS hH.kp0 rfl rfl ?_; clear hS; intro a hS
  first | refine r_add hS hH.kp0 rfl rfl rfl (by omega) ?_ | refine r_addw hS hH.kp0 rfl rfl rfl ?_
  clear hS; intro a hS
  refine r_move hS hH.kp0 rfl rfl ?_; clear hS; intro a hS
  refine r_move hS hH.kp0 rfl rfl ?_; clear hS; intro a hS
  first | refine r_mul hS hH.kp0 rfl rfl rfl (by omega) ?_ | refine r_mulw hS hH.kp0 rfl rfl rfl ?_
  clear hS; intro a hS
  first | refine r_sub hS hH.kp0 rfl rfl rfl (by omega) ?_ | refine r_subw hS hH.kp0 rfl rfl rfl ?_
  clear hS; intro a hS
  refine r_convInt hS hH.kp0 rfl Fc.ui101 Fc.us3 rfl ?_; clear hS; intro a hS
  refine r_shrN (m := mixN (2 * n + 1)) 16 (mixN (2 * n + 1) >>> 16) hS hH.kp0 rfl rfl rfl (by decide) (by decide) rfl ?_; clear hS; intro a hS
  refine r_toU8 (q := mixN (2 * n + 1) >>> 16) (nmB n 13) hS hH.kp0 rfl Fc.ui5 Fc.us99 rfl (by simp [nmB]) ?_; clear hS; intro a hS
  refine r_indexAddrA (j := 13) hS hH.kp0 rfl rfl Fc.ar25 (by omega) (by decide) rfl ?_; clear hS; intro a hS
  refine r_store1 hS hH rfl rfl rfl (by first | exact .here | exact .there .here | exact .there (.there .here) | exact .there (.there (.there .here)) | exact .there (.there (.there (.there .here))) | exact .there (.there (.there (.there (.there .here)))) | exact .there (.there (.there (.there (.there (.there .here))))) | exact .there (.there (.there (.there (.there (.there (.there .here)))))) | exact .there (.there (.there (.there (.there (.there (.there (.there .here))))))) | exact .there (.there (.there (.there (.there (.there (.there (.there (.there .here)))))))) | exact .there (.there (.there (.there (.there (.there (.there (.there (.there (.there .here))))))))) | exact .there (.there (.there (.there (.there (.there (.there (.there (.there (.there (.there .here)))))))))) | exact .there (.there (.there (.there (.there (.there (.there (.there (.there (.there (.there (.there .here))))))))))) | exact .there (.there (.there (.there (.there (.there (.there (.there (.there (.there (.there (.there (.there .here)))))))))))) | exact .there (.there (.there (.there (.there (.there (.there (.there (.there (.there (.there (.there (.there (.there .here))))))))))))) | exact .there (.there (.there (.there (.there (.there (.there (.there (.there (.there (.there (.there (.there (.there (.there .here))))))))))))))) (by repeat (first | exact Sub.nil | refine Sub.cons ?_ ?_ | exact In.here | refine In.there ?_)) Fc.sz5 (of_decide_eq_true rfl) (.inr hb3) ?_
  clear hH; intro w hH
  replace hH : Hp w0 Nobody [(b3, .cells ([byteV (nmB n 0), byteV (nmB n 1), byteV (nmB n 2), byteV (nmB n 3), byteV (nmB n 4), byteV (nmB n 5), .int .u8 0, .int .u8 0, byteV (nmB n 8), byteV (nmB n 9), byteV (nmB n 10), byteV (nmB n 11), byteV (nmB n 12), byteV (nmB n 13), .int .u8 0, .int .u8 0] : List Value).toArray 25 (0, 0)), (b2, .cells ([.int .u8 0, .int .u8 0, .int .u8 0, .int .u8 0, .int .u8 0, .int .u8 0, .int .u8 0, .int .u8 0, .int .u8 0, .int .u8 0, .int .u8 0, .int .u8 0, .int .u8 0, .int .u8 0, .int .u8 0, .int .u8 0] : List Value).toArray 25 (0, 0))] w := hH
  refine Sq.nil ?_
  refine blk_n ?_
  refine then_n ?_
  refine reg_plain w0 (Nobody) ?_
  refine r_move hS hH.kp0 rfl rfl ?_; clear hS; intro a hS
  first | refine r_add hS hH.kp0 rfl rfl rfl (by omega) ?_ | refine r_addw hS hH.kp0 rfl rfl rfl ?_
  clear hS; intro a hS
  refine r_assign hS hH.kp0 rfl rfl ?_; clear hS; intro a hS
  refine Sq.nil ?_
  refine then_n ?_
  refine rnd ?_
  refine c_seq ?_
  refine c_seq ?_
  refine reg_plain w0 (Nobody) ?_
  refine r_move hS hH.kp0 rfl rfl ?_; clear hS; intro a hS
  refine r_lss hS hH.kp0 rfl rfl rfl ?_; clear hS; intro a hS
  refine Sq.nil ?_
  refine then_n ?_
  refine c_condT hS rfl rfl ?_
  refine wp_skip ?_
  refine then_n ?_
  refine c_seq ?_
  refine wp_block ?_
  refine c_seq ?_
  refine reg_plain w0 (Nobody) ?_
  refine r_move hS hH.kp0 rfl rfl ?_; clear hS; intro a hS
  refine r_move hS hH.kp0 rfl rfl ?_; clear hS; intro a hS
  refine r_move hS hH.kp0 rfl rfl ?_; clear hS; intro a hS
  first | refine r_mul hS hH.kp0 rfl rfl rfl (by omega) ?_ | refine r_mulw hS hH.kp0 rfl rfl rfl ?_
  clear hS; intro a hS
  first | refine r_sub hS hH.kp0 rfl rfl rfl (by omega) ?_ | refine r_subw hS hH.kp0 rfl rfl rfl ?_
  clear hS; intro a hS
  refine r_convInt hS hH.kp0 rfl Fc.ui101 Fc.us3 rfl ?_; clear hS; intro a hS
  refine r_shrN (m := mixN (2 * n)) 8 (mixN (2 * n) >>> 8) hS hH.kp0 rfl rfl rfl (by decide) (by decide) rfl ?_; clear hS; intro a hS
  refine r_toU8 (q := mixN (2 * n) >>> 8) (nmB n 6) hS hH.kp0 rfl Fc.ui5 Fc.us99 rfl (by simp [nmB]) ?_; clear hS; intro a hS
  refine r_indexAddrA (j := 6) hS hH.kp0 rfl rfl Fc.ar25 (by omega) (by decide) rfl ?_; clear hS; intro a hS
  refine r_store1 hS hH rfl rfl rfl (by first | exact .here | exact .there .here | exact .there (.there .here) | exact .there (.there (.there .here)) | exact .there (.there (.there (.there .here))) | exact .there (.there (.there (.there (.there .here)))) | exact .there (.there (.there (.there (.there (.there .here))))) | exact .there (.there (.there (.there (.there (.there (.there .here)))))) | exact .there (.there (.there (.there (.there (.there (.there (.there .here))))))) | exact .there (.there (.there (.there (.there (.there (.there (.there (.there .here)))))))) | exact .there (.there (.there (.there (.there (.there (.there (.there (.there (.there .here))))))))) | exact .there (.there (.there (.there (.there (.there (.there (.there (.there (.there (.there .here)))))))))) | exact .there (.there (.there (.there (.there (.there (.there (.there (.there (.there (.there (.there .here))))))))))) | exact .there (.there (.there (.there (.there (.there (.there (.there (.there (.there (.there (.there (.there .here)))))))))))) | exact .there (.there (.there (.there (.there (.there (.there (.there (.there (.there (.there (.there (.there (.there .here))))))))))))) | exact .there (.there (.there (.there (.there (.there (.there (.there (.there (.there (.there (.there (.there (.there (.there .here))))))))))))))) (by repeat (first | exact Sub.nil | refine Sub.cons ?_ ?_ | exact In.here | refine In.there ?_)) Fc.sz5 (of_decide_eq_true rfl) (.inr hb3) ?_
  clear hH; intro w hH
  replace hH : Hp w0 Nobody [(b3, .cells ([byteV (nmB n 0), byteV (nmB n 1), byteV (nmB n 2), byteV (nmB n 3), byteV (nmB n 4), byteV (nmB n 5), byteV (nmB n 6), .int .u8 0, byteV (nmB n 8), byteV (nmB n 9), byteV (nmB n 10), byteV (nmB n 11), byteV (nmB n 12), byteV (nmB n 13), .int .u8 0, .int .u8 0] : List Value).toArray 25 (0, 0)), (b2, .cells ([.int .u8 0, .int .u8 0, .int .u8 0, .int .u8 0, .int .u8 0, .int .u8 0, .int .u8 0, .int .u8 0, .int .u8 0, .int .u8 0, .int .u8 0, .int .u8 0, .int .u8 0, .int .u8 0, .int .u8 0, .int .u8 0] : List Value).toArray 25 (0, 0))] w := hH
  refine Sq.nil ?_
  refine then_n ?_
  refine reg_plain w0 (Nobody) ?_
  refine r_move hS hH.kp0 rfl rfl ?_; clear hS; intro a hS
  first | refine r_add hS hH.kp0 rfl rfl rfl (by omega) ?_ | refine r_addw hS hH.kp0 rfl rfl rfl ?_
  clear hS; intro a hS
  refine r_move hS hH.kp0 rfl rfl ?_; clear hS; intro a hS
  refine r_move hS hH.kp0 rfl rfl ?_; clear hS; intro a hS
  first | refine r_mul hS hH.kp0 rfl rfl rfl (by omega) ?_ | refine r_mulw hS hH.kp0 rfl rfl rfl ?_
  clear hS; intro a hS
  first | refine r_sub hS hH.kp0 rfl rfl rfl (by omega) ?_ | refine r_subw hS hH.kp0 rfl rfl rfl ?_
  clear hS; intro a hS
  refine r_convInt hS hH.kp0 rfl Fc.ui101 Fc.us3 rfl ?_; clear hS; intro a hS
  refine r_shrN (m := mixN (2 * n + 1)) 8 (mixN (2 * n + 1) >>> 8) hS hH.kp0 rfl rfl rfl (by decide) (by decide) rfl ?_; clear hS; intro a hS
  refine r_toU8 (q := mixN (2 * n + 1) >>> 8) (nmB n 14) hS hH.kp0 rfl Fc.ui5 Fc.us99 rfl (by simp [nmB]) ?_; clear hS; intro a hS
  refine r_indexAddrA (j := 14) hS hH.kp0 rfl rfl Fc.ar25 (by omega) (by decide) rfl ?_; clear hS; intro a hS
  refine r_store1 hS hH rfl rfl rfl (by first | exact .here | exact .there .here | exact .there (.there .here) | exact .there (.there (.there .here)) | exact .there (.there (.there (.there .here))) | exact .there (.there (.there (.there (.there .here)))) | exact .there (.there (.there (.there (.there (.there .here))))) | exact .there (.there (.there (.there (.there (.there (.there .here)))))) | exact .there (.there (.there (.there (.there (.there (.there (.there .here))))))) | exact .there (.there (.there (.there (.there (.there (.there (.there (.there .here)))))))) | exact .there (.there (.there (.there (.there (.there (.there (.there (.there (.there .here))))))))) | exact .there (.there (.there (.there (.there (.there (.there (.there (.there (.there (.there .here)))))))))) | exact .there (.there (.there (.there (.there (.there (.there (.there (.there (.there (.there (.there .here))))))))))) | exact .there (.there (.there (.there (.there (.there (.there (.there (.there (.there (.there (.there (.there .here)))))))))))) | exact .there (.there (.there (.there (.there (.there (.there (.there (.there (.there (.there (.there (.there (.there .here))))))))))))) | exact .there (.there (.there (.there (.there (.there (.there (.there (.there (.there (.there (.there (.there (.there (.there .here))))))))))))))) (by repeat (first | exact Sub.nil | refine Sub.cons ?_ ?_ | exact In.here | refine In.there ?_)) Fc.sz5 (of_decide_eq_true rfl) (.inr hb3) ?_
  clear hH; intro w hH
  replace hH : Hp w0 Nobody [(b3, .cells ([byteV (nmB n 0), byteV (nmB n 1), byteV (nmB n 2), byteV (nmB n 3), byteV (nmB n 4), byteV (nmB n 5), byteV (nmB n 6), .int .u8 0, byteV (nmB n 8), byteV (nmB n 9), byteV (nmB n 10), byteV (nmB n 11), byteV (nmB n 12), byteV (nmB n 13), byteV (nmB n 14), .int .u8 0] : List Value).toArray 25 (0, 0)), (b2, .cells ([.int .u8 0, .int .u8 0, .int .u8 0, .int .u8 0, .int .u8 0, .int .u8 0, .int .u8 0, .int .u8 0, .int .u8 0, .int .u8 0, .int .u8 0, .int .u8 0, .int .u8 0, .int .u8 0, .int .u8 0, .int .u8 0] : List Value).toArray 25 (0, 0))] w := hH
  refine Sq.nil ?_
  refine blk_n ?_
  refine then_n ?_
  refine reg_plain w0 (Nobody) ?_
  refine r_move hS hH.kp0 rfl rfl ?_; clear hS; intro a hS
  first | refine r_add hS hH.kp0 rfl rfl rfl (by omega) ?_ | refine r_addw hS hH.kp0 rfl rfl rfl ?_
  clear hS; intro a hS
  refine r_assign hS hH.kp0 rfl rfl ?_; clear hS; intro a hS
  refine Sq.nil ?_
  refine then_n ?_
  refine rnd ?_
  refine c_seq ?_
  refine c_seq ?_
  refine reg_plain w0 (Nobody) ?_
  refine r_move hS hH.kp0 rfl rfl ?_; clear hS; intro a hS
  refine r_lss hS hH.kp0 rfl rfl rfl ?_; clear hS; intro a hS
  refine Sq.nil ?_
  refine then_n ?_
  refine c_condT hS rfl rfl ?_
  refine wp_skip ?_
  refine then_n ?_
  refine c_seq ?_
  refine wp_block ?_
  refine c_seq ?_
  refine reg_plain w0 (Nobody) ?_
  refine r_move hS hH.kp0 rfl rfl ?_; clear hS; intro a hS
  refine r_move hS hH.kp0 rfl rfl ?_; clear hS; intro a hS
  refine r_move hS hH.kp0 rfl rfl ?_; clear hS; intro a hS
  first | refine r_mul hS hH.kp0 rfl rfl rfl (by omega) ?_ | refine r_mulw hS hH.kp0 rfl rfl rfl ?_
  clear hS; intro a hS
  first | refine r_sub hS hH.kp0 rfl rfl rfl (by omega) ?_ | refine r_subw hS hH.kp0 rfl rfl rfl ?_
  clear hS; intro a hS
  refine r_convInt hS hH.kp0 rfl Fc.ui101 Fc.us3 rfl ?_; clear hS; intro a hS
  refine r_shrN (m := mixN (2 * n)) 0 (mixN (2 * n) >>> 0) hS hH.kp0 rfl rfl rfl (by decide) (by decide) rfl ?_; clear hS; intro a hS
  refine r_toU8 (q := mixN (2 * n) >>> 0) (nmB n 7) hS hH.kp0 rfl Fc.ui5 Fc.us99 rfl (by simp [nmB]) ?_; clear hS; intro a hS
  refine r_indexAddrA (j := 7) hS hH.kp0 rfl rfl Fc.ar25 (by omega) (by decide) rfl ?_; clear hS; intro a hS
  refine r_store1 hS hH rfl rfl rfl (by first | exact .here | exact .there .here | exact .there (.there .here) | exact .there (.there (.there .here)) | exact .there (.there (.there (.there .here))) | exact .there (.there (.there (.there (.there .here)))) | exact .there (.there (.there (.there (.there (.there .here))))) | exact .there (.there (.there (.there (.there (.there (.there .here)))))) | exact .there (.there (.there (.there (.there (.there (.there (.there .here))))))) | exact .there (.there (.there (.there (.there (.there (.there (.there (.there .here)))))))) | exact .there (.there (.there (.there (.there (.there (.there (.there (.there (.there .here))))))))) | exact .there (.there (.there (.there (.there (.there (.there (.there (.there (.there (.there .here)))))))))) | exact .there (.there (.there (.there (.there (.there (.there (.there (.there (.there (.there (.there .here))))))))))) | exact .there (.there (.there (.there (.there (.there (.there (.there (.there (.there (.there (.there (.there .here)))))))))))) | exact .there (.there (.there (.there (.there (.there (.there (.there (.there (.there (.there (.there (.there (.there .here))))))))))))) | exact .there (.there (.there (.there (.there (.there (.there (.there (.there (.there (.there (.there (.there (.there (.there .here))))))))))))))) (by repeat (first | exact Sub.nil | refine Sub.cons ?_ ?_ | exact In.here | refine In.there ?_)) Fc.sz5 (of_decide_eq_true rfl) (.inr hb3) ?_
  clear hH; intro w hH
  replace hH : Hp w0 Nobody [(b3, .cells ([byteV (nmB n 0), byteV (nmB n 1), byteV (nmB n 2), byteV (nmB n 3), byteV (nmB n 4), byteV (nmB n 5), byteV (nmB n 6), byteV (nmB n 7), byteV (nmB n 8), byteV (nmB n 9), byteV (nmB n 10), byteV (nmB n 11), byteV (nmB n 12), byteV (nmB n 13), byteV (nmB n 14), .int .u8 0] : List Value).toArray 25 (0, 0)), (b2, .cells ([.int .u8 0, .int .u8 0, .int .u8 0, .int .u8 0, .int .u8 0, .int .u8 0, .int .u8 0, .int .u8 0, .int .u8 0, .int .u8 0, .int .u8 0, .int .u8 0, .int .u8 0, .int .u8 0, .int .u8 0, .int .u8 0] : List Value).toArray 25 (0, 0))] w := hH
  refine Sq.nil ?_
  refine then_n ?_
  refine reg_plain w0 (Nobody) ?_
  refine r_move hS hH.kp0 rfl rfl ?_; clear hS; intro a hS
  first | refine r_add hS hH.kp0 rfl rfl rfl (by omega) ?_ | refine r_addw hS hH.kp0 rfl rfl rfl ?_
  clear hS; intro a hS
  refine r_move hS hH.kp0 rfl rfl ?_; clear hS; intro a hS
  refine r_move hS hH.kp0 rfl rfl ?_; clear hS; intro a hS
  first | refine r_mul hS hH.kp0 rfl rfl rfl (by omega) ?_ | refine r_mulw hS hH.kp0 rfl rfl rfl ?_
  clear hS; intro a hS
  first | refine r_sub hS hH.kp0 rfl rfl rfl (by omega) ?_ | refine r_subw hS hH.kp0 rfl rfl rfl ?_
  clear hS; intro a hS
  refine r_convInt hS hH.kp0 rfl Fc.ui101 Fc.us3 rfl ?_; clear hS; intro a hS
  refine r_shrN (m := mixN (2 * n + 1)) 0 (mixN (2 * n + 1) >>> 0) hS hH.kp0 rfl rfl rfl (by decide) (by decide) rfl ?_; clear hS; intro a hS
  refine r_toU8 (q := mixN (2 * n + 1) >>> 0) (nmB n 15) hS hH.kp0 rfl Fc.ui5 Fc.us99 rfl (by simp [nmB]) ?_; clear hS; intro a hS
  refine r_indexAddrA (j := 15) hS hH.kp0 rfl rfl Fc.ar25 (by omega) (by decide) rfl ?_; clear hS; intro a hS
  refine r_store1 hS hH rfl rfl rfl (by first | exact .here | exact .there .here | exact .there (.there .here) | exact .there (.there (.there .here)) | exact .there (.there (.there (.there .here))) | exact .there (.there (.there (.there (.there .here)))) | exact .there (.there (.there (.there (.there (.there .here))))) | exact .there (.there (.there (.there (.there (.there (.there .here)))))) | exact .there (.there (.there (.there (.there (.there (.there (.there .here))))))) | exact .there (.there (.there (.there (.there (.there (.there (.there (.there .here)))))))) | exact .there (.there (.there (.there (.there (.there (.there (.there (.there (.there .here))))))))) | exact .there (.there (.there (.there (.there (.there (.there (.there (.there (.there (.there .here)))))))))) | exact .there (.there (.there (.there (.there (.there (.there (.there (.there (.there (.there (.there .here))))))))))) | exact .there (.there (.there (.there (.there (.there (.there (.there (.there (.there (.there (.there (.there .here)))))))))))) | exact .there (.there (.there (.there (.there (.there (.there (.there (.there (.there (.there (.there (.there (.there .here))))))))))))) | exact .there (.there (.there (.there (.there (.there (.there (.there (.there (.there (.there (.there (.there (.there (.there .here))))))))))))))) (by repeat (first | exact Sub.nil | refine Sub.cons ?_ ?_ | exact In.here | refine In.there ?_)) Fc.sz5 (of_decide_eq_true rfl) (.inr hb3) ?_
  clear hH; intro w hH
  replace hH : Hp w0 Nobody [(b3, .cells ([byteV (nmB n 0), byteV (nmB n 1), byteV (nmB n 2), byteV (nmB n 3), byteV (nmB n 4), byteV (nmB n 5), byteV (nmB n 6), byteV (nmB n 7), byteV (nmB n 8), byteV (nmB n 9), byteV (nmB n 10), byteV (nmB n 11), byteV (nmB n 12), byteV (nmB n 13), byteV (nmB n 14), byteV (nmB n 15)] : List Value).toArray 25 (0, 0)), (b2, .cells ([.int .u8 0, .int .u8 0, .int .u8 0, .int .u8 0, .int .u8 0, .int .u8 0, .int .u8 0, .int .u8 0, .int .u8 0, .int .u8 0, .int .u8 0, .int .u8 0, .int .u8 0, .int .u8 0, .int .u8 0, .int .u8 0] : List Value).toArray 25 (0, 0))] w := hH
  refine Sq.nil ?_
  refine blk_n ?_
  refine then_n ?_
  refine reg_plain w0 (Nobody) ?_
  refine r_move hS hH.kp0 rfl rfl ?_; clear hS; intro a hS
  first | refine r_add hS hH.kp0 rfl rfl rfl (by omega) ?_ | refine r_addw hS hH.kp0 rfl rfl rfl ?_
  clear hS; intro a hS
  refine r_assign hS hH.kp0 rfl rfl ?_; clear hS; intro a hS
  refine Sq.nil ?_
  refine then_n ?_
  refine rnd ?_
  refine c_seq ?_
  refine c_seq ?_
  refine reg_plain w0 (Nobody) ?_
  refine r_move hS hH.kp0 rfl rfl ?_; clear hS; intro a hS
  refine r_lss hS hH.kp0 rfl rfl rfl ?_; clear hS; intro a hS
  refine Sq.nil ?_
  refine then_n ?_
  refine c_condF hS rfl rfl ?_
  refine wp_exit ?_
  refine then_e ?_
  refine then_e ?_
  refine blk_hit ?_
  refine then_n ?_
  refine c_seq ?_
  refine reg_plain w0 (Nobody) ?_
  refine r_load_row hS hH (by repeat (first | exact Sub.nil | refine Sub.cons ?_ ?_ | exact In.here | refine In.there ?_)) rfl (by repeat (first | exact In.here | refine In.there ?_)) Fc.ag25 (by rfl) rfl ?_; clear hS; intro a hS
  refine r_store_row hS hH rfl rfl (by first | exact .here | exact .there .here | exact .there (.there .here) | exact .there (.there (.there .here)) | exact .there (.there (.there (.there .here))) | exact .there (.there (.there (.there (.there .here)))) | exact .there (.there (.there (.there (.there (.there .here))))) | exact .there (.there (.there (.there (.there (.there (.there .here)))))) | exact .there (.there (.there (.there (.there (.there (.there (.there .here))))))) | exact .there (.there (.there (.there (.there (.there (.there (.there (.there .here)))))))) | exact .there (.there (.there (.there (.there (.there (.there (.there (.there (.there .here))))))))) | exact .there (.there (.there (.there (.there (.there (.there (.there (.there (.there (.there .here)))))))))) | exact .there (.there (.there (.there (.there (.there (.there (.there (.there (.there (.there (.there .here))))))))))) | exact .there (.there (.there (.there (.there (.there (.there (.there (.there (.there (.there (.there (.there .here)))))))))))) | exact .there (.there (.there (.there (.there (.there (.there (.there (.there (.there (.there (.there (.there (.there .here))))))))))))) | exact .there (.there (.there (.there (.there (.there (.there (.there (.there (.there (.there (.there (.there (.there (.there .here))))))))))))))) (by repeat (first | exact Sub.nil | refine Sub.cons ?_ ?_ | exact In.here | refine In.there ?_)) Fc.sz25 (by first | exact hcells_one _ | exact of_decide_eq_true rfl) (by simp only [List.length_cons, List.length_nil]) (.inr hb2) ?_
  clear hH; intro w hH
  refine Sq.nil ?_
  refine then_n ?_
  refine wp_ret ?_
  exact leave (.inl rfl) hS rfl (Res.cell rfl (hH.get (by repeat (first | exact In.here | refine In.there ?_))) Fc.ag25 (by rfl) rfl Res.nil) ⟨nm n, rfl, rfl, hH.mod⟩

set_option maxRecDepth 100000 in
set_option maxHeartbeats 2000000 in
theorem rmake_c (b : Nat) (V : RB) (ts : List Tm) (t : Tm) (ht : t.ok) (hm : ts.length ≤ 1000000000) (w0 : World) (hri : RI w0 b V ts) :
    Calls Try.prog 59 #[.pointer (some ⟨b, 0, none⟩), rv t] w0 fun e w' => ∃ h i V' ts', e = .returned (hnd h) ∧ h = nm i ∧ RI w' b V' ts' ∧ RStep w0 w' b V V' ∧ Made ts t i ts' := by
  refine enter Try.func59 rfl rfl rfl ?_
  intro a hS
  have hH := Hp.start w0 (V.F b)
  replace hH := hH.knowR hri (by intro p hp; simp at hp)
  refine c_seq ?_
  refine reg_plain w0 (V.F b) ?_
  refine r_box hS hH (by repeat (first | exact Sub.nil | refine Sub.cons ?_ ?_ | exact In.here | refine In.there ?_)) rfl rfl rfl ?_
  clear hS hH; intro a w b3 hb3 hwb3 hS hH
  refine r_alloc hS hH (by repeat (first | exact Sub.nil | refine Sub.cons ?_ ?_ | exact In.here | refine In.there ?_)) Fc.zc25 rfl ?_
  clear hS hH; intro a w b4 hb4 hwb4 hS hH
  refine Sq.nil ?_
  refine then_n ?_
  refine c_seq ?_
  refine c_seq ?_
  refine reg_plain w0 (V.F b) ?_
  refine r_assign hS hH.kp0 rfl rfl ?_; clear hS; intro a hS
  refine Sq.nil ?_
  refine then_n ?_
  refine wp_block ?_
  refine c_loop (fun m a w => ∃ (i : Nat) (ii : Int), m + i = ts.length ∧ ii = i ∧ (∀ q, q < i → ts[q]? = some t → t.kind = 1) ∧ St 48 (lv [(0, .pointer (some ⟨b, 0, none⟩)), (3, .pointer (some ⟨b3, 0, none⟩)), (4, .pointer (some ⟨b4, 0, none⟩)), (5, .int .i64 ii)]) a ∧ Hp w0 (V.F b) [(b4, .cells [.int .u8 0, .int .u8 0, .int .u8 0, .int .u8 0, .int .u8 0, .int .u8 0, .int .u8 0, .int .u8 0, .int .u8 0, .int .u8 0, .int .u8 0, .int .u8 0, .int .u8 0, .int .u8 0, .int .u8 0, .int .u8 0].toArray 25 (0, 0)), (b3, .cells (rcells t).toArray 113 (0, 0)), (b, .cells (V.top ts.length).toArray 116 (0, 0)), (V.sb, .cells V.l.toArray 113 (0, 0))] w) (ts.length) ?_ ?_
  · exact ⟨0, _, by omega, rfl, fun q h => by omega, hS.live ⟨rfl, rfl, rfl, rfl, trivial⟩, hH⟩
  clear hS hH; intro m a w hI; obtain ⟨i, ii, hmi, hii, hno, hS, hH⟩ := hI
  subst hii
  refine c_seq ?_
  refine c_seq ?_
  refine reg_plain w0 (V.F b) ?_
  refine r_move hS hH.kp0 rfl rfl ?_; clear hS; intro a hS
  refine r_move hS hH.kp0 rfl rfl ?_; clear hS; intro a hS
  refine r_nilCheck hS hH.kp0 rfl rfl ?_; clear hS; intro a hS
  refine r_fieldAddr hS hH.kp0 rfl Fc.fo116_0 rfl ?_; clear hS; intro a hS
  refine r_load_sc hS hH (by repeat (first | exact Sub.nil | refine Sub.cons ?_ ?_ | exact In.here | refine In.there ?_)) rfl (by repeat (first | exact In.here | refine In.there ?_)) Fc.sc114 (by rfl) rfl ?_; clear hS; intro a hS
  refine r_lenSl hS hH.kp0 rfl Fc.isSlice114 rfl ?_; clear hS; intro a hS
  refine r_lss hS hH.kp0 rfl rfl rfl ?_; clear hS; intro a hS
  refine Sq.nil ?_
  refine then_n ?_
  refine c_cond hS rfl (fun hc0 => ?_) (fun hc0 => ?_)
  · have hlt := of_decide_eq_true hc0
    obtain ⟨u, hu⟩ : ∃ u, ts[i]? = some u := ⟨_, List.getElem?_eq_getElem (by omega)⟩
    have hrow := hri.ok.row hu
    have huo := hri.ok.rng u (List.mem_of_getElem? hu)
    refine wp_skip ?_
    refine then_n ?_
    refine c_seq ?_
    refine wp_block ?_
    refine c_seq ?_
    refine reg_draw [(true, 0, []), (true, 1, []), (true, 2, []), (true, 3, []), (true, 4, []), (true, 5, []), (true, 6, []), (true, 7, []), (true, 8, []), (true, 9, []), (true, 10, []), (true, 11, []), (true, 12, []), (true, 13, [])] Fc.mixed (by kernel_rfl) (by kernel_rfl) (by kernel_rfl) (by kernel_rfl) (by kernel_rfl) (by repeat (first | with_reducible exact steady_body | with_reducible apply steady_block | with_reducible apply steady_then | exact steady_body)) hH ?_
    replace hH := hH.drew
    refine r_move hS trivial rfl rfl ?_; clear hS; intro a hS
    refine r_nilCheck hS trivial rfl rfl ?_; clear hS; intro a hS
    refine r_fieldAddr hS trivial rfl Fc.fo116_0 rfl ?_; clear hS; intro a hS
    refine r_load_scS hS rfl (by repeat (first | exact In.here | refine In.there ?_)) Fc.sc114 (by rfl) rfl ?_; clear hS; intro a hS
    refine r_move hS trivial rfl rfl ?_; clear hS; intro a hS
    refine r_indexAddrS (j := i) hS trivial rfl rfl Fc.slb114 rfl (by omega) rfl ?_; clear hS; intro a hS
    refine r_load_atS (vs := rcells u) hS rfl (by repeat (first | exact In.here | refine In.there ?_)) Fc.ag113 (by rw [Nat.zero_add]; exact hrow.2) (by rw [Nat.zero_add]; exact hrow.1) rfl ?_; clear hS; intro a hS
    refine r_load_rowS hS rfl (by repeat (first | exact In.here | refine In.there ?_)) Fc.ag113 (by rfl) rfl ?_; clear hS; intro a hS
    refine r_flEql Fc.rfl7 hS trivial rfl rfl (rcells_ok huo) (rcells_ok ht) rfl ?_; clear hS; intro a r8 hr8 hS
    rcases r8 with _ | _
    · refine r_move hS trivial rfl rfl ?_; clear hS; intro a hS
      refine Sq.guardNo hS rfl rfl rfl trivial rfl ?_; clear hS; intro a hS
      refine Sq.guardNo hS rfl rfl rfl trivial rfl ?_; clear hS; intro a hS
      refine Sq.guardNo hS rfl rfl rfl trivial rfl ?_; clear hS; intro a hS
      refine r_pickF hS trivial rfl rfl rfl rfl ?_; clear hS; intro a hS
      refine Sq.nil ?_
      refine then_n ?_
      refine c_condF hS rfl rfl ?_
      refine wp_skip ?_
      refine blk_n ?_
      refine then_n ?_
      refine reg_plain w0 (V.F b) ?_
      refine r_move hS hH.kp0 rfl rfl ?_; clear hS; intro a hS
      first | refine r_add hS hH.kp0 rfl rfl rfl (by omega) ?_ | refine r_addw hS hH.kp0 rfl rfl rfl ?_
      clear hS; intro a hS
      refine r_assign hS hH.kp0 rfl rfl ?_; clear hS; intro a hS
      refine Sq.nil ?_
      refine then_n ?_
      refine ⟨m - 1, by omega, i + 1, _, by omega, ?_, ?_, hS.live ⟨rfl, rfl, rfl, rfl, trivial⟩, hH⟩
      · omega
      · intro q hq he
        by_cases e : q < i
        · exact hno q e he
        · have e2 : q = i := by omega
          subst e2
          rw [he] at hu; exact absurd (hr8.2 (by rw [Option.some.inj hu])) (by decide)
    · have hut : u = t := rcells_inj (hr8.1 rfl)
      refine r_move hS trivial rfl rfl ?_; clear hS; intro a hS
      refine Sq.guardYes hS rfl rfl rfl ?_
      refine r_fieldAddr hS trivial rfl Fc.fo113_0 rfl ?_; clear hS; intro a hS
      refine Sq.guardYes hS rfl rfl rfl ?_
      refine r_load_scS hS rfl (by repeat (first | exact In.here | refine In.there ?_)) Fc.sc3 (by rfl) rfl ?_; clear hS; intro a hS
      refine Sq.guardYes hS rfl rfl rfl ?_
      refine r_neq hS trivial rfl rfl rfl ?_; clear hS; intro a hS
      refine r_pickT hS trivial rfl rfl rfl rfl ?_; clear hS; intro a hS
      refine Sq.nil ?_
      refine then_n ?_
      refine c_cond hS rfl (fun hc1 => ?_) (fun hc1 => ?_)
      · have hkn : t.kind ≠ 1 := by simpa using hc1
        refine c_seq ?_
        refine reg_plain w0 (V.F b) ?_
        refine r_move hS hH.kp0 rfl rfl ?_; clear hS; intro a hS
        refine r_call (l := [.tmp 29]) hS rfl rfl Fc.fn18 rfl ?_
        refine Calls.mono (rname_c i (by omega) _) ?_
        rintro e w1 ⟨h, rfl, hqx, hE⟩
        obtain ⟨x0, x1, x2, x3, x4, x5, x6, x7, x8, x9, xa, xb, xc, xd, xe, xf, rfl⟩ := len16 (h := h) (by rw [hqx]; rfl)
        replace hH := hH.ext hE
        refine ⟨_, rfl, hH.kp0, ?_⟩
        clear hS; intro a hS
        refine r_store_row hS hH rfl rfl (by first | exact .here | exact .there .here | exact .there (.there .here) | exact .there (.there (.there .here)) | exact .there (.there (.there (.there .here))) | exact .there (.there (.there (.there (.there .here)))) | exact .there (.there (.there (.there (.there (.there .here))))) | exact .there (.there (.there (.there (.there (.there (.there .here)))))) | exact .there (.there (.there (.there (.there (.there (.there (.there .here))))))) | exact .there (.there (.there (.there (.there (.there (.there (.there (.there .here)))))))) | exact .there (.there (.there (.there (.there (.there (.there (.there (.there (.there .here))))))))) | exact .there (.there (.there (.there (.there (.there (.there (.there (.there (.there (.there .here)))))))))) | exact .there (.there (.there (.there (.there (.there (.there (.there (.there (.there (.there (.there .here))))))))))) | exact .there (.there (.there (.there (.there (.there (.there (.there (.there (.there (.there (.there (.there .here)))))))))))) | exact .there (.there (.there (.there (.there (.there (.there (.there (.there (.there (.there (.there (.there (.there .here))))))))))))) | exact .there (.there (.there (.there (.there (.there (.there (.there (.there (.there (.there (.there (.there (.there (.there .here))))))))))))))) (by repeat (first | exact Sub.nil | refine Sub.cons ?_ ?_ | exact In.here | refine In.there ?_)) Fc.sz25 (by first | exact hcells_one _ | exact of_decide_eq_true rfl) (by rfl) (by first | exact .inr (by assumption) | exact .inl (by first | assumption | rfl)) ?_
        clear hH; intro w hH
        refine Sq.nil ?_
        refine then_n ?_
        refine wp_ret ?_
        refine blk_r ?_
        refine then_r ?_
        refine then_r ?_
        refine blk_r ?_
        refine then_r ?_
        exact leave (.inl rfl) hS rfl (Res.cell rfl (hH.get (by repeat (first | exact In.here | refine In.there ?_))) Fc.ag25 (by rfl) rfl Res.nil) ⟨_, i, V, ts, rfl, hqx, (hH.rin (TV := 116) (TT := 113) hri.ok rfl hri.n01 (by repeat (first | exact In.here | refine In.there ?_)) (by repeat (first | exact In.here | refine In.there ?_))), ⟨fun _ h => .inl h, hH.mod⟩, .inl ⟨hkn, by rw [hu, hut], rfl⟩⟩
      · have hk1 : t.kind = 1 := by simpa using hc1
        refine wp_skip ?_
        refine blk_n ?_
        refine then_n ?_
        refine reg_plain w0 (V.F b) ?_
        refine r_move hS hH.kp0 rfl rfl ?_; clear hS; intro a hS
        first | refine r_add hS hH.kp0 rfl rfl rfl (by omega) ?_ | refine r_addw hS hH.kp0 rfl rfl rfl ?_
        clear hS; intro a hS
        refine r_assign hS hH.kp0 rfl rfl ?_; clear hS; intro a hS
        refine Sq.nil ?_
        refine then_n ?_
        refine ⟨m - 1, by omega, i + 1, _, by omega, ?_, ?_, hS.live ⟨rfl, rfl, rfl, rfl, trivial⟩, hH⟩
        · omega
        · intro q hq he
          by_cases e : q < i
          · exact hno q e he
          · have e2 : q = i := by omega
            subst e2
            exact hk1
  · have hge := of_decide_eq_false hc0
    have hnew : t.kind = 1 ∨ t ∉ ts := by
      by_cases hk : t.kind = 1
      · exact .inl hk
      · exact .inr (fun hm => by obtain ⟨q, hq⟩ := List.getElem?_of_mem hm; exact hk (hno q (by have := (List.getElem?_eq_some_iff.1 hq).1; omega) hq))
    refine wp_exit ?_
    refine then_e ?_
    refine then_e ?_
    refine blk_hit ?_
    refine then_n ?_
    refine c_seq ?_
    refine reg_draw [(true, 0, [2, 3]), (true, 1, [2, 3]), (true, 2, [2, 3]), (true, 3, [2, 3]), (true, 4, [3]), (true, 5, [2, 3]), (false, 6, []), (false, 7, [3]), (true, 8, [2, 3]), (true, 9, [2, 3]), (false, 10, [2, 3])] Fc.mixed (by kernel_rfl) (by kernel_rfl) (by kernel_rfl) (by kernel_rfl) (by kernel_rfl) (by repeat (first | with_reducible exact steady_body | with_reducible apply steady_block | with_reducible apply steady_then | exact steady_body)) hH ?_
    replace hH := hH.drew
    refine r_move hS trivial rfl rfl ?_; clear hS; intro a hS
    refine r_move hS trivial rfl rfl ?_; clear hS; intro a hS
    refine r_nilCheck hS trivial rfl rfl ?_; clear hS; intro a hS
    refine r_fieldAddr hS trivial rfl Fc.fo116_0 rfl ?_; clear hS; intro a hS
    refine r_load_scS hS rfl (by repeat (first | exact In.here | refine In.there ?_)) Fc.sc114 (by rfl) rfl ?_; clear hS; intro a hS
    refine r_load_rowS hS rfl (by repeat (first | exact In.here | refine In.there ?_)) Fc.ag113 (by rfl) rfl ?_; clear hS; intro a hS
    refine r_buildSlice (parts := [(0, .tmp 36)]) hS hH (by repeat (first | exact Sub.nil | refine Sub.cons ?_ ?_ | exact In.here | refine In.there ?_)) rfl Fc.bsl114_1 (by rfl) rfl ?_
    clear hS hH; intro a w b37 hb37 hwb37 hS hH
    refine r_append_own hS hH rfl rfl (by first | exact .here | exact .there .here | exact .there (.there .here) | exact .there (.there (.there .here)) | exact .there (.there (.there (.there .here))) | exact .there (.there (.there (.there (.there .here)))) | exact .there (.there (.there (.there (.there (.there .here))))) | exact .there (.there (.there (.there (.there (.there (.there .here)))))) | exact .there (.there (.there (.there (.there (.there (.there (.there .here))))))) | exact .there (.there (.there (.there (.there (.there (.there (.there (.there .here)))))))) | exact .there (.there (.there (.there (.there (.there (.there (.there (.there (.there .here))))))))) | exact .there (.there (.there (.there (.there (.there (.there (.there (.there (.there (.there .here)))))))))) | exact .there (.there (.there (.there (.there (.there (.there (.there (.there (.there (.there (.there .here))))))))))) | exact .there (.there (.there (.there (.there (.there (.there (.there (.there (.there (.there (.there (.there .here)))))))))))) | exact .there (.there (.there (.there (.there (.there (.there (.there (.there (.there (.there (.there (.there (.there .here))))))))))))) | exact .there (.there (.there (.there (.there (.there (.there (.there (.there (.there (.there (.there (.there (.there (.there .here))))))))))))))) (by repeat (first | exact Sub.nil | refine Sub.cons ?_ ?_ | exact In.here | refine In.there ?_)) Fc.elR Fc.niR hri.ok.len hri.ok.cap (Src.rterms (hH.get .here)) (by omega) (.inl (.inr rfl)) rfl ?_
    clear hS hH; intro a w sb' cap' l2 hsb' hl2 hc2 htk _ hS hH
    refine r_nilCheck hS trivial rfl rfl ?_; clear hS; intro a hS
    refine r_fieldAddr hS trivial rfl Fc.fo116_0 rfl ?_; clear hS; intro a hS
    refine r_store1 hS hH rfl rfl rfl (by first | exact .here | exact .there .here | exact .there (.there .here) | exact .there (.there (.there .here)) | exact .there (.there (.there (.there .here))) | exact .there (.there (.there (.there (.there .here)))) | exact .there (.there (.there (.there (.there (.there .here))))) | exact .there (.there (.there (.there (.there (.there (.there .here)))))) | exact .there (.there (.there (.there (.there (.there (.there (.there .here))))))) | exact .there (.there (.there (.there (.there (.there (.there (.there (.there .here)))))))) | exact .there (.there (.there (.there (.there (.there (.there (.there (.there (.there .here))))))))) | exact .there (.there (.there (.there (.there (.there (.there (.there (.there (.there (.there .here)))))))))) | exact .there (.there (.there (.there (.there (.there (.there (.there (.there (.there (.there (.there .here))))))))))) | exact .there (.there (.there (.there (.there (.there (.there (.there (.there (.there (.there (.there (.there .here)))))))))))) | exact .there (.there (.there (.there (.there (.there (.there (.there (.there (.there (.there (.there (.there (.there .here))))))))))))) | exact .there (.there (.there (.there (.there (.there (.there (.there (.there (.there (.there (.there (.there (.there (.there .here))))))))))))))) (by repeat (first | exact Sub.nil | refine Sub.cons ?_ ?_ | exact In.here | refine In.there ?_)) Fc.sz114 (of_decide_eq_true rfl) (.inl (.inl rfl)) ?_
    clear hH; intro w hH
    refine Sq.nil ?_
    refine then_n ?_
    refine c_seq ?_
    refine reg_plain w0 (V.F b) ?_
    refine r_move hS hH.kp0 rfl rfl ?_; clear hS; intro a hS
    refine r_nilCheck hS hH.kp0 rfl rfl ?_; clear hS; intro a hS
    refine r_fieldAddr hS hH.kp0 rfl Fc.fo116_0 rfl ?_; clear hS; intro a hS
    refine r_load_sc hS hH (by repeat (first | exact Sub.nil | refine Sub.cons ?_ ?_ | exact In.here | refine In.there ?_)) rfl (by repeat (first | exact In.here | refine In.there ?_)) Fc.sc114 (by rfl) rfl ?_; clear hS; intro a hS
    refine r_lenSl hS hH.kp0 rfl Fc.isSlice114 rfl ?_; clear hS; intro a hS
    refine r_subE (ts.length : Int) hS hH.kp0 rfl rfl rfl (by omega) (by omega) ?_; clear hS; intro a hS
    refine r_call (l := [.tmp 46]) hS rfl rfl Fc.fn18 rfl ?_
    refine Calls.mono (rname_c ts.length (by omega) _) ?_
    rintro e w1 ⟨h, rfl, hqx, hE⟩
    obtain ⟨x0, x1, x2, x3, x4, x5, x6, x7, x8, x9, xa, xb, xc, xd, xe, xf, rfl⟩ := len16 (h := h) (by rw [hqx]; rfl)
    replace hH := hH.ext hE
    refine ⟨_, rfl, hH.kp0, ?_⟩
    clear hS; intro a hS
    refine r_store_row hS hH rfl rfl (by first | exact .here | exact .there .here | exact .there (.there .here) | exact .there (.there (.there .here)) | exact .there (.there (.there (.there .here))) | exact .there (.there (.there (.there (.there .here)))) | exact .there (.there (.there (.there (.there (.there .here))))) | exact .there (.there (.there (.there (.there (.there (.there .here)))))) | exact .there (.there (.there (.there (.there (.there (.there (.there .here))))))) | exact .there (.there (.there (.there (.there (.there (.there (.there (.there .here)))))))) | exact .there (.there (.there (.there (.there (.there (.there (.there (.there (.there .here))))))))) | exact .there (.there (.there (.there (.there (.there (.there (.there (.there (.there (.there .here)))))))))) | exact .there (.there (.there (.there (.there (.there (.there (.there (.there (.there (.there (.there .here))))))))))) | exact .there (.there (.there (.there (.there (.there (.there (.there (.there (.there (.there (.there (.there .here)))))))))))) | exact .there (.there (.there (.there (.there (.there (.there (.there (.there (.there (.there (.there (.there (.there .here))))))))))))) | exact .there (.there (.there (.there (.there (.there (.there (.there (.there (.there (.there (.there (.there (.there (.there .here))))))))))))))) (by repeat (first | exact Sub.nil | refine Sub.cons ?_ ?_ | exact In.here | refine In.there ?_)) Fc.sz25 (by first | exact hcells_one _ | exact of_decide_eq_true rfl) (by rfl) (by first | exact .inr (by assumption) | exact .inl (by first | assumption | rfl)) ?_
    clear hH; intro w hH
    refine Sq.nil ?_
    refine then_n ?_
    refine wp_ret ?_
    refine leave (.inl rfl) hS rfl (Res.cell rfl (hH.get (by repeat (first | exact In.here | refine In.there ?_))) Fc.ag25 (by rfl) rfl Res.nil) ?_
    refine ⟨_, _, ⟨sb', cap', l2⟩, ts ++ [t], rfl, hqx, ?_, ⟨?_, hH.mod⟩, .inr ⟨hnew, rfl, rfl⟩⟩
    · refine hH.rin (m := ts.length + 1) (hri.ok.push ht hl2 hc2 htk) (by simp) ?_ (by repeat (first | exact In.here | refine In.there ?_)) (by repeat (first | exact In.here | refine In.there ?_))
      intro e; have nd := hH.nd; rw [e] at nd; simp at nd
    · intro x hx
      rcases hx with e | e
      · exact .inl (.inl e)
      · subst e; rcases hsb' with h | h; exact .inl h; exact .inr h

set_option maxRecDepth 100000 in
set_option maxHeartbeats 400000 in
theorem rNew_c (w0 : World) : Calls Try.prog 37 #[] w0 fun e w' => ∃ b V, e = .returned (.pointer (some ⟨b, 0, none⟩)) ∧ RI w' b V [rootT] ∧ Ext w0 w' ∧ ∀ x, V.F b x → w0.heap.size ≤ x := by
  refine enter Try.func37 rfl rfl rfl ?_
  intro a hS
  have hH := Hp.start w0 (Nobody)
  refine c_seq ?_
  refine reg_plain w0 (Nobody) ?_
  refine r_assign hS hH.kp0 rfl rfl ?_; clear hS; intro a hS
  refine Sq.nil ?_
  refine then_n ?_
  refine c_seq ?_
  refine reg_plain w0 (Nobody) ?_
  refine r_buildS (parts := [(0, .const (.int .i64 0))]) hS hH.kp0 rfl rfl Fc.zc113 Fc.pl113 (by rfl) ?_; clear hS; intro a hS
  refine r_buildSlice (parts := [(0, .tmp 1)]) hS hH (by repeat (first | exact Sub.nil | refine Sub.cons ?_ ?_ | exact In.here | refine In.there ?_)) rfl Fc.bsl114_1 (by rfl) rfl ?_
  clear hS hH; intro a w b2 hb2 hwb2 hS hH
  refine r_buildS (parts := [(0, .tmp 2)]) hS hH.kp0 rfl rfl Fc.zc116 Fc.pl116 (by rfl) ?_; clear hS; intro a hS
  refine r_box hS hH (by repeat (first | exact Sub.nil | refine Sub.cons ?_ ?_ | exact In.here | refine In.there ?_)) rfl rfl rfl ?_
  clear hS hH; intro a w b4 hb4 hwb4 hS hH
  refine r_assign hS hH.kp0 rfl rfl ?_; clear hS; intro a hS
  refine Sq.nil ?_
  refine then_n ?_
  refine wp_ret ?_
  refine leave (.inl rfl) hS rfl (Res.tmp rfl Res.nil) ⟨b4, ⟨b2, 1, rcells rootT⟩, rfl, ?_, hH.mod, ?_⟩
  · refine hH.rin (m := 1) ⟨rfl, Nat.le_refl 1, rfl, by intro u hu; rw [List.mem_singleton.1 hu]; exact rootT_ok⟩ rfl ?_ (by repeat (first | exact In.here | refine In.there ?_)) (by repeat (first | exact In.here | refine In.there ?_))
    have nd := hH.nd; intro e; rw [e] at nd; simp at nd
  · intro x hx; rcases hx with rfl | rfl; exact hb4; exact hb2

end Go.Proofs.Ytcjmehononbadaa
