/- What is sealed is opened by its key, number and further bytes alone; who does not know the key does not come to know it (for inputs up to the size bound). Part Open2: walks and lemmas of the proof. -/
import Derived.Test.YtcjmehononbadaaDoorOpen1
import Derived.Test.YtcjmehononbadaaDoorSymIsName
namespace Go.Proofs.YtcjmehononbadaaDoor
open Go.Sym


set_option maxRecDepth 100000 in
set_option maxHeartbeats 400000 in
theorem unmix_c (x : Nat) (hx : x < 18446744073709551616) (w0 : World) : Calls Tryd.prog 58 #[.int .u64 (x : Int)] w0 fun e w' => e = .returned (.int .u64 (unmixN x : Int)) ∧ Ext w0 w' := by
  refine enter Tryd.func58 rfl rfl rfl ?_
  intro a hS
  have hH := Hp.start w0 (Nobody)
  refine c_seq ?_
  refine reg_plain w0 (Nobody) ?_
  refine r_assign hS hH.kp0 rfl rfl ?_; clear hS; intro a hS
  refine Sq.nil ?_
  refine then_n ?_
  refine c_seq ?_
  refine reg_plain w0 (Nobody) ?_
  refine r_move hS hH.kp0 rfl rfl ?_; clear hS; intro a hS
  refine r_move hS hH.kp0 rfl rfl ?_; clear hS; intro a hS
  refine r_shrN (m := x) 31 (x >>> 31) hS hH.kp0 rfl rfl rfl rfl (by decide) rfl ?_; clear hS; intro a hS
  refine r_xorN (m := x) (m' := x >>> 31) (x ^^^ x >>> 31) hS hH.kp0 rfl rfl rfl hx (shr_lt hx) rfl ?_; clear hS; intro a hS
  refine r_move hS hH.kp0 rfl rfl ?_; clear hS; intro a hS
  refine r_shrN (m := x) 62 (x >>> 62) hS hH.kp0 rfl rfl rfl rfl (by decide) rfl ?_; clear hS; intro a hS
  refine r_xorN (m := x ^^^ x >>> 31) (m' := x >>> 62) ((x ^^^ x >>> 31) ^^^ x >>> 62) hS hH.kp0 rfl rfl rfl (xs_lt hx) (shr_lt hx) rfl ?_; clear hS; intro a hS
  obtain ⟨z1, hz1⟩ : ∃ z, ((x ^^^ x >>> 31) ^^^ x >>> 62) * 3573116690164977347 % 18446744073709551616 = z := ⟨_, rfl⟩
  refine r_mulN (m := (x ^^^ x >>> 31) ^^^ x >>> 62) (m' := 3573116690164977347) z1 hS hH.kp0 rfl rfl rfl hz1 ?_; clear hS; intro a hS
  refine r_assign hS hH.kp0 rfl rfl ?_; clear hS; intro a hS
  refine Sq.nil ?_
  refine then_n ?_
  refine c_seq ?_
  refine reg_plain w0 (Nobody) ?_
  refine r_move hS hH.kp0 rfl rfl ?_; clear hS; intro a hS
  refine r_move hS hH.kp0 rfl rfl ?_; clear hS; intro a hS
  refine r_shrN (m := z1) 27 (z1 >>> 27) hS hH.kp0 rfl rfl rfl rfl (by decide) rfl ?_; clear hS; intro a hS
  refine r_xorN (m := z1) (m' := z1 >>> 27) (z1 ^^^ z1 >>> 27) hS hH.kp0 rfl rfl rfl (by rw [← hz1]; exact Nat.mod_lt _ (by decide)) (shr_lt (by rw [← hz1]; exact Nat.mod_lt _ (by decide))) rfl ?_; clear hS; intro a hS
  refine r_move hS hH.kp0 rfl rfl ?_; clear hS; intro a hS
  refine r_shrN (m := z1) 54 (z1 >>> 54) hS hH.kp0 rfl rfl rfl rfl (by decide) rfl ?_; clear hS; intro a hS
  refine r_xorN (m := z1 ^^^ z1 >>> 27) (m' := z1 >>> 54) ((z1 ^^^ z1 >>> 27) ^^^ z1 >>> 54) hS hH.kp0 rfl rfl rfl (xs_lt (by rw [← hz1]; exact Nat.mod_lt _ (by decide))) (shr_lt (by rw [← hz1]; exact Nat.mod_lt _ (by decide))) rfl ?_; clear hS; intro a hS
  obtain ⟨z2, hz2⟩ : ∃ z, ((z1 ^^^ z1 >>> 27) ^^^ z1 >>> 54) * 10871156337175269513 % 18446744073709551616 = z := ⟨_, rfl⟩
  refine r_mulN (m := (z1 ^^^ z1 >>> 27) ^^^ z1 >>> 54) (m' := 10871156337175269513) z2 hS hH.kp0 rfl rfl rfl hz2 ?_; clear hS; intro a hS
  refine r_assign hS hH.kp0 rfl rfl ?_; clear hS; intro a hS
  refine Sq.nil ?_
  refine then_n ?_
  refine c_seq ?_
  refine reg_plain w0 (Nobody) ?_
  refine r_move hS hH.kp0 rfl rfl ?_; clear hS; intro a hS
  refine r_move hS hH.kp0 rfl rfl ?_; clear hS; intro a hS
  refine r_shrN (m := z2) 30 (z2 >>> 30) hS hH.kp0 rfl rfl rfl rfl (by decide) rfl ?_; clear hS; intro a hS
  refine r_xorN (m := z2) (m' := z2 >>> 30) (z2 ^^^ z2 >>> 30) hS hH.kp0 rfl rfl rfl (by rw [← hz2]; exact Nat.mod_lt _ (by decide)) (shr_lt (by rw [← hz2]; exact Nat.mod_lt _ (by decide))) rfl ?_; clear hS; intro a hS
  refine r_move hS hH.kp0 rfl rfl ?_; clear hS; intro a hS
  refine r_shrN (m := z2) 60 (z2 >>> 60) hS hH.kp0 rfl rfl rfl rfl (by decide) rfl ?_; clear hS; intro a hS
  refine r_xorN (m := z2 ^^^ z2 >>> 30) (m' := z2 >>> 60) ((z2 ^^^ z2 >>> 30) ^^^ z2 >>> 60) hS hH.kp0 rfl rfl rfl (xs_lt (by rw [← hz2]; exact Nat.mod_lt _ (by decide))) (shr_lt (by rw [← hz2]; exact Nat.mod_lt _ (by decide))) rfl ?_; clear hS; intro a hS
  obtain ⟨z3, hz3⟩ : ∃ z, ((z2 ^^^ z2 >>> 30) ^^^ z2 >>> 60) * 17428512612931826493 % 18446744073709551616 = z := ⟨_, rfl⟩
  refine r_mulN (m := (z2 ^^^ z2 >>> 30) ^^^ z2 >>> 60) (m' := 17428512612931826493) z3 hS hH.kp0 rfl rfl rfl hz3 ?_; clear hS; intro a hS
  refine r_subN (m := z3) (m' := 1) ((z3 + (18446744073709551616 - 1)) % 18446744073709551616) hS hH.kp0 rfl rfl rfl (by decide) rfl ?_; clear hS; intro a hS
  refine r_assign hS hH.kp0 rfl rfl ?_; clear hS; intro a hS
  refine Sq.nil ?_
  refine then_n ?_
  refine wp_ret ?_
  subst hz3 hz2 hz1
  exact leave (.inl rfl) hS rfl (Res.tmp rfl Res.nil) ⟨rfl, hH.mod⟩

set_option maxRecDepth 100000 in
set_option maxHeartbeats 8000000 in
theorem isName_c (h : List UInt8) (hh : h.length = 16) (w0 : World) : Calls Tryd.prog 27 #[hnd h] w0 fun e w' => ∃ r, e = .returned (.bool r) ∧ r = isNameF h ∧ Ext w0 w' := by
  refine enter Tryd.func27 rfl rfl rfl ?_
  intro a hS
  have hH := Hp.start w0 (Nobody)
  obtain ⟨x0, x1, x2, x3, x4, x5, x6, x7, x8, x9, xa, xb, xc, xd, xe, xf, rfl⟩ := len16 hh
  refine c_seq ?_
  refine reg_plain w0 (Nobody) ?_
  refine r_box hS hH (by repeat (first | exact Sub.nil | refine Sub.cons ?_ ?_ | exact In.here | refine In.there ?_)) rfl rfl rfl ?_
  clear hS hH; intro a w b1 hb1 hwb1 hS hH
  refine r_assign hS hH.kp0 rfl rfl ?_; clear hS; intro a hS
  refine Sq.nil ?_
  refine then_n ?_
  refine c_seq ?_
  refine reg_plain w0 (Nobody) ?_
  refine r_alloc hS hH (by repeat (first | exact Sub.nil | refine Sub.cons ?_ ?_ | exact In.here | refine In.there ?_)) Fc.zc106 rfl ?_
  clear hS hH; intro a w b3 hb3 hwb3 hS hH
  refine Sq.nil ?_
  refine then_n ?_
  refine c_seq ?_
  refine c_seq ?_
  refine reg_plain w0 (Nobody) ?_
  refine r_load_row hS hH (by repeat (first | exact Sub.nil | refine Sub.cons ?_ ?_ | exact In.here | refine In.there ?_)) rfl (by repeat (first | exact In.here | refine In.there ?_)) Fc.ag26 (by rfl) rfl ?_; clear hS; intro a hS
  refine r_move hS hH.kp0 rfl rfl ?_; clear hS; intro a hS
  refine Sq.nil ?_
  refine then_n ?_
  refine wp_block ?_
  refine wp_loop_rounds 17 ?_
  refine rnd ?_
  refine c_seq ?_
  refine reg_plain w0 (Nobody) ?_
  refine r_lss hS hH.kp0 rfl rfl rfl ?_; clear hS; intro a hS
  refine Sq.nil ?_
  refine then_n ?_
  refine c_seq ?_
  refine c_condT hS rfl rfl ?_
  refine wp_skip ?_
  refine then_n ?_
  refine c_seq ?_
  refine wp_block ?_
  refine c_seq ?_
  refine reg_plain w0 (Nobody) ?_
  refine r_move hS hH.kp0 rfl rfl ?_; clear hS; intro a hS
  refine r_indexB (h := [x0, x1, x2, x3, x4, x5, x6, x7, x8, x9, xa, xb, xc, xd, xe, xf]) (u := x0) (i := 0) hS hH.kp0 rfl rfl Fc.uh26 Fc.sc5 Fc.sz1_5 rfl (by decide) rfl rfl ?_; clear hS; intro a hS
  refine r_assign hS hH.kp0 rfl rfl ?_; clear hS; intro a hS
  refine r_assign hS hH.kp0 rfl rfl ?_; clear hS; intro a hS
  refine Sq.nil ?_
  refine then_n ?_
  refine reg_plain w0 (Nobody) ?_
  refine r_move hS hH.kp0 rfl rfl ?_; clear hS; intro a hS
  refine r_quo hS hH.kp0 rfl rfl rfl (by decide) ?_; clear hS; intro a hS
  refine r_move hS hH.kp0 rfl rfl ?_; clear hS; intro a hS
  refine r_quo hS hH.kp0 rfl rfl rfl (by decide) ?_; clear hS; intro a hS
  refine r_indexAddrA (j := 0) hS hH.kp0 rfl rfl Fc.ar106 (by rfl) (by decide) rfl ?_; clear hS; intro a hS
  refine r_load_sc hS hH (by repeat (first | exact Sub.nil | refine Sub.cons ?_ ?_ | exact In.here | refine In.there ?_)) rfl (by repeat (first | exact In.here | refine In.there ?_)) Fc.sc81 (v := .int .u64 0) rfl rfl ?_; clear hS; intro a hS
  obtain ⟨q0_, hq0_⟩ : ∃ z, 0 * 2 ^ 8 % 18446744073709551616 = z := ⟨_, rfl⟩
  refine r_shlN (m := 0) 8 q0_ hS hH.kp0 rfl rfl rfl rfl (by decide) hq0_ ?_; clear hS; intro a hS
  refine r_move hS hH.kp0 rfl rfl ?_; clear hS; intro a hS
  refine r_toU64 x0.toNat hS hH.kp0 rfl Fc.ui81 Fc.us5 rfl rfl (by have := x0.toNat_lt; omega) ?_; clear hS; intro a hS
  obtain ⟨E1, hE1⟩ : ∃ z, q0_ ||| x0.toNat = z := ⟨_, rfl⟩
  refine r_orN (m := q0_) (m' := x0.toNat) E1 hS hH.kp0 rfl rfl rfl (by rw [← hq0_]; exact Nat.mod_lt _ (by decide)) (by have := x0.toNat_lt; omega) hE1 ?_; clear hS; intro a hS
  have hsE1 : E1 = stp 0 x0 := by rw [← hE1, ← hq0_]; rfl
  refine r_indexAddrA (j := 0) hS hH.kp0 rfl rfl Fc.ar106 (by rfl) (by decide) rfl ?_; clear hS; intro a hS
  refine r_store1 hS hH rfl rfl rfl (by repeat (first | exact .here | apply In.there | apply Put.there | apply Del.there)) (by repeat (first | exact Sub.nil | refine Sub.cons ?_ ?_ | exact In.here | refine In.there ?_)) Fc.sz81 (of_decide_eq_true rfl) (.inr (by assumption)) ?_; clear hH; intro w hH
  refine Sq.nil ?_
  refine blk_n ?_
  refine then_n ?_
  refine reg_plain w0 (Nobody) ?_
  (first | refine r_add hS hH.kp0 rfl rfl rfl (by omega) ?_ | refine r_addw hS hH.kp0 rfl rfl rfl ?_)
  clear hS; intro a hS
  refine r_move hS hH.kp0 rfl rfl ?_; clear hS; intro a hS
  refine Sq.nil ?_
  refine then_n ?_
  refine rnd ?_
  refine c_seq ?_
  refine reg_plain w0 (Nobody) ?_
  refine r_lss hS hH.kp0 rfl rfl rfl ?_; clear hS; intro a hS
  refine Sq.nil ?_
  refine then_n ?_
  refine c_seq ?_
  refine c_condT hS rfl rfl ?_
  refine wp_skip ?_
  refine then_n ?_
  refine c_seq ?_
  refine wp_block ?_
  refine c_seq ?_
  refine reg_plain w0 (Nobody) ?_
  refine r_move hS hH.kp0 rfl rfl ?_; clear hS; intro a hS
  refine r_indexB (h := [x0, x1, x2, x3, x4, x5, x6, x7, x8, x9, xa, xb, xc, xd, xe, xf]) (u := x1) (i := 1) hS hH.kp0 rfl rfl Fc.uh26 Fc.sc5 Fc.sz1_5 rfl (by decide) rfl rfl ?_; clear hS; intro a hS
  refine r_assign hS hH.kp0 rfl rfl ?_; clear hS; intro a hS
  refine r_assign hS hH.kp0 rfl rfl ?_; clear hS; intro a hS
  refine Sq.nil ?_
  refine then_n ?_
  refine reg_plain w0 (Nobody) ?_
  refine r_move hS hH.kp0 rfl rfl ?_; clear hS; intro a hS
  refine r_quo hS hH.kp0 rfl rfl rfl (by decide) ?_; clear hS; intro a hS
  refine r_move hS hH.kp0 rfl rfl ?_; clear hS; intro a hS
  refine r_quo hS hH.kp0 rfl rfl rfl (by decide) ?_; clear hS; intro a hS
  refine r_indexAddrA (j := 0) hS hH.kp0 rfl rfl Fc.ar106 (by rfl) (by decide) rfl ?_; clear hS; intro a hS
  refine r_load_sc hS hH (by repeat (first | exact Sub.nil | refine Sub.cons ?_ ?_ | exact In.here | refine In.there ?_)) rfl (by repeat (first | exact In.here | refine In.there ?_)) Fc.sc81 (v := .int .u64 ((E1 : Nat) : Int)) rfl rfl ?_; clear hS; intro a hS
  obtain ⟨q1_, hq1_⟩ : ∃ z, E1 * 2 ^ 8 % 18446744073709551616 = z := ⟨_, rfl⟩
  refine r_shlN (m := E1) 8 q1_ hS hH.kp0 rfl rfl rfl rfl (by decide) hq1_ ?_; clear hS; intro a hS
  refine r_move hS hH.kp0 rfl rfl ?_; clear hS; intro a hS
  refine r_toU64 x1.toNat hS hH.kp0 rfl Fc.ui81 Fc.us5 rfl rfl (by have := x1.toNat_lt; omega) ?_; clear hS; intro a hS
  obtain ⟨E2, hE2⟩ : ∃ z, q1_ ||| x1.toNat = z := ⟨_, rfl⟩
  refine r_orN (m := q1_) (m' := x1.toNat) E2 hS hH.kp0 rfl rfl rfl (by rw [← hq1_]; exact Nat.mod_lt _ (by decide)) (by have := x1.toNat_lt; omega) hE2 ?_; clear hS; intro a hS
  have hsE2 : E2 = stp E1 x1 := by rw [← hE2, ← hq1_]; rfl
  refine r_indexAddrA (j := 0) hS hH.kp0 rfl rfl Fc.ar106 (by rfl) (by decide) rfl ?_; clear hS; intro a hS
  refine r_store1 hS hH rfl rfl rfl (by repeat (first | exact .here | apply In.there | apply Put.there | apply Del.there)) (by repeat (first | exact Sub.nil | refine Sub.cons ?_ ?_ | exact In.here | refine In.there ?_)) Fc.sz81 (of_decide_eq_true rfl) (.inr (by assumption)) ?_; clear hH; intro w hH
  refine Sq.nil ?_
  refine blk_n ?_
  refine then_n ?_
  refine reg_plain w0 (Nobody) ?_
  (first | refine r_add hS hH.kp0 rfl rfl rfl (by omega) ?_ | refine r_addw hS hH.kp0 rfl rfl rfl ?_)
  clear hS; intro a hS
  refine r_move hS hH.kp0 rfl rfl ?_; clear hS; intro a hS
  refine Sq.nil ?_
  refine then_n ?_
  refine rnd ?_
  refine c_seq ?_
  refine reg_plain w0 (Nobody) ?_
  refine r_lss hS hH.kp0 rfl rfl rfl ?_; clear hS; intro a hS
  refine Sq.nil ?_
  refine then_n ?_
  refine c_seq ?_
  refine c_condT hS rfl rfl ?_
  refine wp_skip ?_
  refine then_n ?_
  refine c_seq ?_
  refine wp_block ?_
  refine c_seq ?_
  refine reg_plain w0 (Nobody) ?_
  refine r_move hS hH.kp0 rfl rfl ?_; clear hS; intro a hS
  refine r_indexB (h := [x0, x1, x2, x3, x4, x5, x6, x7, x8, x9, xa, xb, xc, xd, xe, xf]) (u := x2) (i := 2) hS hH.kp0 rfl rfl Fc.uh26 Fc.sc5 Fc.sz1_5 rfl (by decide) rfl rfl ?_; clear hS; intro a hS
  refine r_assign hS hH.kp0 rfl rfl ?_; clear hS; intro a hS
  refine r_assign hS hH.kp0 rfl rfl ?_; clear hS; intro a hS
  refine Sq.nil ?_
  refine then_n ?_
  refine reg_plain w0 (Nobody) ?_
  refine r_move hS hH.kp0 rfl rfl ?_; clear hS; intro a hS
  refine r_quo hS hH.kp0 rfl rfl rfl (by decide) ?_; clear hS; intro a hS
  refine r_move hS hH.kp0 rfl rfl ?_; clear hS; intro a hS
  refine r_quo hS hH.kp0 rfl rfl rfl (by decide) ?_; clear hS; intro a hS
  refine r_indexAddrA (j := 0) hS hH.kp0 rfl rfl Fc.ar106 (by rfl) (by decide) rfl ?_; clear hS; intro a hS
  refine r_load_sc hS hH (by repeat (first | exact Sub.nil | refine Sub.cons ?_ ?_ | exact In.here | refine In.there ?_)) rfl (by repeat (first | exact In.here | refine In.there ?_)) Fc.sc81 (v := .int .u64 ((E2 : Nat) : Int)) rfl rfl ?_; clear hS; intro a hS
  obtain ⟨q2_, hq2_⟩ : ∃ z, E2 * 2 ^ 8 % 18446744073709551616 = z := ⟨_, rfl⟩
  refine r_shlN (m := E2) 8 q2_ hS hH.kp0 rfl rfl rfl rfl (by decide) hq2_ ?_; clear hS; intro a hS
  refine r_move hS hH.kp0 rfl rfl ?_; clear hS; intro a hS
  refine r_toU64 x2.toNat hS hH.kp0 rfl Fc.ui81 Fc.us5 rfl rfl (by have := x2.toNat_lt; omega) ?_; clear hS; intro a hS
  obtain ⟨E3, hE3⟩ : ∃ z, q2_ ||| x2.toNat = z := ⟨_, rfl⟩
  refine r_orN (m := q2_) (m' := x2.toNat) E3 hS hH.kp0 rfl rfl rfl (by rw [← hq2_]; exact Nat.mod_lt _ (by decide)) (by have := x2.toNat_lt; omega) hE3 ?_; clear hS; intro a hS
  have hsE3 : E3 = stp E2 x2 := by rw [← hE3, ← hq2_]; rfl
  refine r_indexAddrA (j := 0) hS hH.kp0 rfl rfl Fc.ar106 (by rfl) (by decide) rfl ?_; clear hS; intro a hS
  refine r_store1 hS hH rfl rfl rfl (by repeat (first | exact .here | apply In.there | apply Put.there | apply Del.there)) (by repeat (first | exact Sub.nil | refine Sub.cons ?_ ?_ | exact In.here | refine In.there ?_)) Fc.sz81 (of_decide_eq_true rfl) (.inr (by assumption)) ?_; clear hH; intro w hH
  refine Sq.nil ?_
  refine blk_n ?_
  refine then_n ?_
  refine reg_plain w0 (Nobody) ?_
  (first | refine r_add hS hH.kp0 rfl rfl rfl (by omega) ?_ | refine r_addw hS hH.kp0 rfl rfl rfl ?_)
  clear hS; intro a hS
  refine r_move hS hH.kp0 rfl rfl ?_; clear hS; intro a hS
  refine Sq.nil ?_
  refine then_n ?_
  refine rnd ?_
  refine c_seq ?_
  refine reg_plain w0 (Nobody) ?_
  refine r_lss hS hH.kp0 rfl rfl rfl ?_; clear hS; intro a hS
  refine Sq.nil ?_
  refine then_n ?_
  refine c_seq ?_
  refine c_condT hS rfl rfl ?_
  refine wp_skip ?_
  refine then_n ?_
  refine c_seq ?_
  refine wp_block ?_
  refine c_seq ?_
  refine reg_plain w0 (Nobody) ?_
  refine r_move hS hH.kp0 rfl rfl ?_; clear hS; intro a hS
  refine r_indexB (h := [x0, x1, x2, x3, x4, x5, x6, x7, x8, x9, xa, xb, xc, xd, xe, xf]) (u := x3) (i := 3) hS hH.kp0 rfl rfl Fc.uh26 Fc.sc5 Fc.sz1_5 rfl (by decide) rfl rfl ?_; clear hS; intro a hS
  refine r_assign hS hH.kp0 rfl rfl ?_; clear hS; intro a hS
  refine r_assign hS hH.kp0 rfl rfl ?_; clear hS; intro a hS
  refine Sq.nil ?_
  refine then_n ?_
  refine reg_plain w0 (Nobody) ?_
  refine r_move hS hH.kp0 rfl rfl ?_; clear hS; intro a hS
  refine r_quo hS hH.kp0 rfl rfl rfl (by decide) ?_; clear hS; intro a hS
  refine r_move hS hH.kp0 rfl rfl ?_; clear hS; intro a hS
  refine r_quo hS hH.kp0 rfl rfl rfl (by decide) ?_; clear hS; intro a hS
  refine r_indexAddrA (j := 0) hS hH.kp0 rfl rfl Fc.ar106 (by rfl) (by decide) rfl ?_; clear hS; intro a hS
  refine r_load_sc hS hH (by repeat (first | exact Sub.nil | refine Sub.cons ?_ ?_ | exact In.here | refine In.there ?_)) rfl (by repeat (first | exact In.here | refine In.there ?_)) Fc.sc81 (v := .int .u64 ((E3 : Nat) : Int)) rfl rfl ?_; clear hS; intro a hS
  obtain ⟨q3_, hq3_⟩ : ∃ z, E3 * 2 ^ 8 % 18446744073709551616 = z := ⟨_, rfl⟩
  refine r_shlN (m := E3) 8 q3_ hS hH.kp0 rfl rfl rfl rfl (by decide) hq3_ ?_; clear hS; intro a hS
  refine r_move hS hH.kp0 rfl rfl ?_; clear hS; intro a hS
  refine r_toU64 x3.toNat hS hH.kp0 rfl Fc.ui81 Fc.us5 rfl rfl (by have := x3.toNat_lt; omega) ?_; clear hS; intro a hS
  obtain ⟨E4, hE4⟩ : ∃ z, q3_ ||| x3.toNat = z := ⟨_, rfl⟩
  refine r_orN (m := q3_) (m' := x3.toNat) E4 hS hH.kp0 rfl rfl rfl (by rw [← hq3_]; exact Nat.mod_lt _ (by decide)) (by have := x3.toNat_lt; omega) hE4 ?_; clear hS; intro a hS
  have hsE4 : E4 = stp E3 x3 := by rw [← hE4, ← hq3_]; rfl
  refine r_indexAddrA (j := 0) hS hH.kp0 rfl rfl Fc.ar106 (by rfl) (by decide) rfl ?_; clear hS; intro a hS
  refine r_store1 hS hH rfl rfl rfl (by repeat (first | exact .here | apply In.there | apply Put.there | apply Del.there)) (by repeat (first | exact Sub.nil | refine Sub.cons ?_ ?_ | exact In.here | refine In.there ?_)) Fc.sz81 (of_decide_eq_true rfl) (.inr (by assumption)) ?_; clear hH; intro w hH
  refine Sq.nil ?_
  refine blk_n ?_
  refine then_n ?_
  refine reg_plain w0 (Nobody) ?_
  (first | refine r_add hS hH.kp0 rfl rfl rfl (by omega) ?_ | refine r_addw hS hH.kp0 rfl rfl rfl ?_)
  clear hS; intro a hS
  refine r_move hS hH.kp0 rfl rfl ?_; clear hS; intro a hS
  refine Sq.nil ?_
  refine then_n ?_
  refine rnd ?_
  refine c_seq ?_
  refine reg_plain w0 (Nobody) ?_
  refine r_lss hS hH.kp0 rfl rfl rfl ?_; clear hS; intro a hS
  refine Sq.nil ?_
  refine then_n ?_
  refine c_seq ?_
  refine c_condT hS rfl rfl ?_
  refine wp_skip ?_
  refine then_n ?_
  refine c_seq ?_
  refine wp_block ?_
  refine c_seq ?_
  refine reg_plain w0 (Nobody) ?_
  refine r_move hS hH.kp0 rfl rfl ?_; clear hS; intro a hS
  refine r_indexB (h := [x0, x1, x2, x3, x4, x5, x6, x7, x8, x9, xa, xb, xc, xd, xe, xf]) (u := x4) (i := 4) hS hH.kp0 rfl rfl Fc.uh26 Fc.sc5 Fc.sz1_5 rfl (by decide) rfl rfl ?_; clear hS; intro a hS
  refine r_assign hS hH.kp0 rfl rfl ?_; clear hS; intro a hS
  refine r_assign hS hH.kp0 rfl rfl ?_; clear hS; intro a hS
  refine Sq.nil ?_
  refine then_n ?_
  refine reg_plain w0 (Nobody) ?_
  refine r_move hS hH.kp0 rfl rfl ?_; clear hS; intro a hS
  refine r_quo hS hH.kp0 rfl rfl rfl (by decide) ?_; clear hS; intro a hS
  refine r_move hS hH.kp0 rfl rfl ?_; clear hS; intro a hS
  refine r_quo hS hH.kp0 rfl rfl rfl (by decide) ?_; clear hS; intro a hS
  refine r_indexAddrA (j := 0) hS hH.kp0 rfl rfl Fc.ar106 (by rfl) (by decide) rfl ?_; clear hS; intro a hS
  refine r_load_sc hS hH (by repeat (first | exact Sub.nil | refine Sub.cons ?_ ?_ | exact In.here | refine In.there ?_)) rfl (by repeat (first | exact In.here | refine In.there ?_)) Fc.sc81 (v := .int .u64 ((E4 : Nat) : Int)) rfl rfl ?_; clear hS; intro a hS
  obtain ⟨q4_, hq4_⟩ : ∃ z, E4 * 2 ^ 8 % 18446744073709551616 = z := ⟨_, rfl⟩
  refine r_shlN (m := E4) 8 q4_ hS hH.kp0 rfl rfl rfl rfl (by decide) hq4_ ?_; clear hS; intro a hS
  refine r_move hS hH.kp0 rfl rfl ?_; clear hS; intro a hS
  refine r_toU64 x4.toNat hS hH.kp0 rfl Fc.ui81 Fc.us5 rfl rfl (by have := x4.toNat_lt; omega) ?_; clear hS; intro a hS
  obtain ⟨E5, hE5⟩ : ∃ z, q4_ ||| x4.toNat = z := ⟨_, rfl⟩
  refine r_orN (m := q4_) (m' := x4.toNat) E5 hS hH.kp0 rfl rfl rfl (by rw [← hq4_]; exact Nat.mod_lt _ (by decide)) (by have := x4.toNat_lt; omega) hE5 ?_; clear hS; intro a hS
  have hsE5 : E5 = stp E4 x4 := by rw [← hE5, ← hq4_]; rfl
  refine r_indexAddrA (j := 0) hS hH.kp0 rfl rfl Fc.ar106 (by rfl) (by decide) rfl ?_; clear hS; intro a hS
  refine r_store1 hS hH rfl rfl rfl (by repeat (first | exact .here | apply In.there | apply Put.there | apply Del.there)) (by repeat (first | exact Sub.nil | refine Sub.cons ?_ ?_ | exact In.here | refine In.there ?_)) Fc.sz81 (of_decide_eq_true rfl) (.inr (by assumption)) ?_; clear hH; intro w hH
  refine Sq.nil ?_
  refine blk_n ?_
  refine then_n ?_
  refine reg_plain w0 (Nobody) ?_
  (first | refine r_add hS hH.kp0 rfl rfl rfl (by omega) ?_ | refine r_addw hS hH.kp0 rfl rfl rfl ?_)
  clear hS; intro a hS
  refine r_move hS hH.kp0 rfl rfl ?_; clear hS; intro a hS
  refine Sq.nil ?_
  refine then_n ?_
  refine rnd ?_
  refine c_seq ?_
  refine reg_plain w0 (Nobody) ?_
  refine r_lss hS hH.kp0 rfl rfl rfl ?_; clear hS; intro a hS
  refine Sq.nil ?_
  refine then_n ?_
  refine c_seq ?_
  refine c_condT hS rfl rfl ?_
  refine wp_skip ?_
  refine then_n ?_
  refine c_seq ?_
  refine wp_block ?_
  refine c_seq ?_
  refine reg_plain w0 (Nobody) ?_
  refine r_move hS hH.kp0 rfl rfl ?_; clear hS; intro a hS
  refine r_indexB (h := [x0, x1, x2, x3, x4, x5, x6, x7, x8, x9, xa, xb, xc, xd, xe, xf]) (u := x5) (i := 5) hS hH.kp0 rfl rfl Fc.uh26 Fc.sc5 Fc.sz1_5 rfl (by decide) rfl rfl ?_; clear hS; intro a hS
  refine r_assign hS hH.kp0 rfl rfl ?_; clear hS; intro a hS
  refine r_assign hS hH.kp0 rfl rfl ?_; clear hS; intro a hS
  refine Sq.nil ?_
  refine then_n ?_
  refine reg_plain w0 (Nobody) ?_
  refine r_move hS hH.kp0 rfl rfl ?_; clear hS; intro a hS
  refine r_quo hS hH.kp0 rfl rfl rfl (by decide) ?_; clear hS; intro a hS
  refine r_move hS hH.kp0 rfl rfl ?_; clear hS; intro a hS
  refine r_quo hS hH.kp0 rfl rfl rfl (by decide) ?_; clear hS; intro a hS
  refine r_indexAddrA (j := 0) hS hH.kp0 rfl rfl Fc.ar106 (by rfl) (by decide) rfl ?_; clear hS; intro a hS
  refine r_load_sc hS hH (by repeat (first | exact Sub.nil | refine Sub.cons ?_ ?_ | exact In.here | refine In.there ?_)) rfl (by repeat (first | exact In.here | refine In.there ?_)) Fc.sc81 (v := .int .u64 ((E5 : Nat) : Int)) rfl rfl ?_; clear hS; intro a hS
  obtain ⟨q5_, hq5_⟩ : ∃ z, E5 * 2 ^ 8 % 18446744073709551616 = z := ⟨_, rfl⟩
  refine r_shlN (m := E5) 8 q5_ hS hH.kp0 rfl rfl rfl rfl (by decide) hq5_ ?_; clear hS; intro a hS
  refine r_move hS hH.kp0 rfl rfl ?_; clear hS; intro a hS
  refine r_toU64 x5.toNat hS hH.kp0 rfl Fc.ui81 Fc.us5 rfl rfl (by have := x5.toNat_lt; omega) ?_; clear hS; intro a hS
  obtain ⟨E6, hE6⟩ : ∃ z, q5_ ||| x5.toNat = z := ⟨_, rfl⟩
  refine r_orN (m := q5_) (m' := x5.toNat) E6 hS hH.kp0 rfl rfl rfl (by rw [← hq5_]; exact Nat.mod_lt _ (by decide)) (by have := x5.toNat_lt; omega) hE6 ?_; clear hS; intro a hS
  have hsE6 : E6 = stp E5 x5 := by rw [← hE6, ← hq5_]; rfl
  refine r_indexAddrA (j := 0) hS hH.kp0 rfl rfl Fc.ar106 (by rfl) (by decide) rfl ?_; clear hS; intro a hS
  refine r_store1 hS hH rfl rfl rfl (by repeat (first | exact .here | apply In.there | apply Put.there | apply Del.there)) (by repeat (first | exact Sub.nil | refine Sub.cons ?_ ?_ | exact In.here | refine In.there ?_)) Fc.sz81 (of_decide_eq_true rfl) (.inr (by assumption)) ?_; clear hH; intro w hH
  refine Sq.nil ?_
  refine blk_n ?_
  refine then_n ?_
  refine reg_plain w0 (Nobody) ?_
  (first | refine r_add hS hH.kp0 rfl rfl rfl (by omega) ?_ | refine r_addw hS hH.kp0 rfl rfl rfl ?_)
  clear hS; intro a hS
  refine r_move hS hH.kp0 rfl rfl ?_; clear hS; intro a hS
  refine Sq.nil ?_
  refine then_n ?_
  refine rnd ?_
  refine c_seq ?_
  refine reg_plain w0 (Nobody) ?_
  refine r_lss hS hH.kp0 rfl rfl rfl ?_; clear hS; intro a hS
  refine Sq.nil ?_
  refine then_n ?_
  refine c_seq ?_
  refine c_condT hS rfl rfl ?_
  refine wp_skip ?_
  refine then_n ?_
  refine c_seq ?_
  refine wp_block ?_
  refine c_seq ?_
  refine reg_plain w0 (Nobody) ?_
  refine r_move hS hH.kp0 rfl rfl ?_; clear hS; intro a hS
  refine r_indexB (h := [x0, x1, x2, x3, x4, x5, x6, x7, x8, x9, xa, xb, xc, xd, xe, xf]) (u := x6) (i := 6) hS hH.kp0 rfl rfl Fc.uh26 Fc.sc5 Fc.sz1_5 rfl (by decide) rfl rfl ?_; clear hS; intro a hS
  refine r_assign hS hH.kp0 rfl rfl ?_; clear hS; intro a hS
  refine r_assign hS hH.kp0 rfl rfl ?_; clear hS; intro a hS
  refine Sq.nil ?_
  refine then_n ?_
  refine reg_plain w0 (Nobody) ?_
  refine r_move hS hH.kp0 rfl rfl ?_; clear hS; intro a hS
  refine r_quo hS hH.kp0 rfl rfl rfl (by decide) ?_; clear hS; intro a hS
  refine r_move hS hH.kp0 rfl rfl ?_; clear hS; intro a hS
  refine r_quo hS hH.kp0 rfl rfl rfl (by decide) ?_; clear hS; intro a hS
  refine r_indexAddrA (j := 0) hS hH.kp0 rfl rfl Fc.ar106 (by rfl) (by decide) rfl ?_; clear hS; intro a hS
  refine r_load_sc hS hH (by repeat (first | exact Sub.nil | refine Sub.cons ?_ ?_ | exact In.here | refine In.there ?_)) rfl (by repeat (first | exact In.here | refine In.there ?_)) Fc.sc81 (v := .int .u64 ((E6 : Nat) : Int)) rfl rfl ?_; clear hS; intro a hS
  obtain ⟨q6_, hq6_⟩ : ∃ z, E6 * 2 ^ 8 % 18446744073709551616 = z := ⟨_, rfl⟩
  refine r_shlN (m := E6) 8 q6_ hS hH.kp0 rfl rfl rfl rfl (by decide) hq6_ ?_; clear hS; intro a hS
  refine r_move hS hH.kp0 rfl rfl ?_; clear hS; intro a hS
  refine r_toU64 x6.toNat hS hH.kp0 rfl Fc.ui81 Fc.us5 rfl rfl (by have := x6.toNat_lt; omega) ?_; clear hS; intro a hS
  obtain ⟨E7, hE7⟩ : ∃ z, q6_ ||| x6.toNat = z := ⟨_, rfl⟩
  refine r_orN (m := q6_) (m' := x6.toNat) E7 hS hH.kp0 rfl rfl rfl (by rw [← hq6_]; exact Nat.mod_lt _ (by decide)) (by have := x6.toNat_lt; omega) hE7 ?_; clear hS; intro a hS
  have hsE7 : E7 = stp E6 x6 := by rw [← hE7, ← hq6_]; rfl
  refine r_indexAddrA (j := 0) hS hH.kp0 rfl rfl Fc.ar106 (by rfl) (by decide) rfl ?_; clear hS; intro a hS
  refine r_store1 hS hH rfl rfl rfl (by repeat (first | exact .here | apply In.there | apply Put.there | apply Del.there)) (by repeat (first | exact Sub.nil | refine Sub.cons ?_ ?_ | exact In.here | refine In.there ?_)) Fc.sz81 (of_decide_eq_true rfl) (.inr (by assumption)) ?_; clear hH; intro w hH
  refine Sq.nil ?_
  refine blk_n ?_
  refine then_n ?_
  refine reg_plain w0 (Nobody) ?_
  (first | refine r_add hS hH.kp0 rfl rfl rfl (by omega) ?_ | refine r_addw hS hH.kp0 rfl rfl rfl ?_)
  clear hS; intro a hS
  refine r_move hS hH.kp0 rfl rfl ?_; clear hS; intro a hS
  refine Sq.nil ?_
  refine then_n ?_
  refine rnd ?_
  refine c_seq ?_
  refine reg_plain w0 (Nobody) ?_
  refine r_lss hS hH.kp0 rfl rfl rfl ?_; clear hS; intro a hS
  refine Sq.nil ?_
  refine then_n ?_
  refine c_seq ?_
  refine c_condT hS rfl rfl ?_
  refine wp_skip ?_
  refine then_n ?_
  refine c_seq ?_
  refine wp_block ?_
  refine c_seq ?_
  refine reg_plain w0 (Nobody) ?_
  refine r_move hS hH.kp0 rfl rfl ?_; clear hS; intro a hS
  refine r_indexB (h := [x0, x1, x2, x3, x4, x5, x6, x7, x8, x9, xa, xb, xc, xd, xe, xf]) (u := x7) (i := 7) hS hH.kp0 rfl rfl Fc.uh26 Fc.sc5 Fc.sz1_5 rfl (by decide) rfl rfl ?_; clear hS; intro a hS
  refine r_assign hS hH.kp0 rfl rfl ?_; clear hS; intro a hS
  refine r_assign hS hH.kp0 rfl rfl ?_; clear hS; intro a hS
  refine Sq.nil ?_
  refine then_n ?_
  refine reg_plain w0 (Nobody) ?_
  refine r_move hS hH.kp0 rfl rfl ?_; clear hS; intro a hS
  refine r_quo hS hH.kp0 rfl rfl rfl (by decide) ?_; clear hS; intro a hS
  refine r_move hS hH.kp0 rfl rfl ?_; clear hS; intro a hS
  refine r_quo hS hH.kp0 rfl rfl rfl (by decide) ?_; clear hS; intro a hS
  refine r_indexAddrA (j := 0) hS hH.kp0 rfl rfl Fc.ar106 (by rfl) (by decide) rfl ?_; clear hS; intro a hS
  refine r_load_sc hS hH (by repeat (first | exact Sub.nil | refine Sub.cons ?_ ?_ | exact In.here | refine In.there ?_)) rfl (by repeat (first | exact In.here | refine In.there ?_)) Fc.sc81 (v := .int .u64 ((E7 : Nat) : Int)) rfl rfl ?_; clear hS; intro a hS
  obtain ⟨q7_, hq7_⟩ : ∃ z, E7 * 2 ^ 8 % 18446744073709551616 = z := ⟨_, rfl⟩
  refine r_shlN (m := E7) 8 q7_ hS hH.kp0 rfl rfl rfl rfl (by decide) hq7_ ?_; clear hS; intro a hS
  refine r_move hS hH.kp0 rfl rfl ?_; clear hS; intro a hS
  refine r_toU64 x7.toNat hS hH.kp0 rfl Fc.ui81 Fc.us5 rfl rfl (by have := x7.toNat_lt; omega) ?_; clear hS; intro a hS
  obtain ⟨E8, hE8⟩ : ∃ z, q7_ ||| x7.toNat = z := ⟨_, rfl⟩
  refine r_orN (m := q7_) (m' := x7.toNat) E8 hS hH.kp0 rfl rfl rfl (by rw [← hq7_]; exact Nat.mod_lt _ (by decide)) (by have := x7.toNat_lt; omega) hE8 ?_; clear hS; intro a hS
  have hsE8 : E8 = stp E7 x7 := by rw [← hE8, ← hq7_]; rfl
  refine r_indexAddrA (j := 0) hS hH.kp0 rfl rfl Fc.ar106 (by rfl) (by decide) rfl ?_; clear hS; intro a hS
  refine r_store1 hS hH rfl rfl rfl (by repeat (first | exact .here | apply In.there | apply Put.there | apply Del.there)) (by repeat (first | exact Sub.nil | refine Sub.cons ?_ ?_ | exact In.here | refine In.there ?_)) Fc.sz81 (of_decide_eq_true rfl) (.inr (by assumption)) ?_; clear hH; intro w hH
  refine Sq.nil ?_
  refine blk_n ?_
  refine then_n ?_
  refine reg_plain w0 (Nobody) ?_
  (first | refine r_add hS hH.kp0 rfl rfl rfl (by omega) ?_ | refine r_addw hS hH.kp0 rfl rfl rfl ?_)
  clear hS; intro a hS
  refine r_move hS hH.kp0 rfl rfl ?_; clear hS; intro a hS
  refine Sq.nil ?_
  refine then_n ?_
  refine rnd ?_
  refine c_seq ?_
  refine reg_plain w0 (Nobody) ?_
  refine r_lss hS hH.kp0 rfl rfl rfl ?_; clear hS; intro a hS
  refine Sq.nil ?_
  refine then_n ?_
  refine c_seq ?_
  refine c_condT hS rfl rfl ?_
  refine wp_skip ?_
  refine then_n ?_
  refine c_seq ?_
  refine wp_block ?_
  refine c_seq ?_
  refine reg_plain w0 (Nobody) ?_
  refine r_move hS hH.kp0 rfl rfl ?_; clear hS; intro a hS
  refine r_indexB (h := [x0, x1, x2, x3, x4, x5, x6, x7, x8, x9, xa, xb, xc, xd, xe, xf]) (u := x8) (i := 8) hS hH.kp0 rfl rfl Fc.uh26 Fc.sc5 Fc.sz1_5 rfl (by decide) rfl rfl ?_; clear hS; intro a hS
  refine r_assign hS hH.kp0 rfl rfl ?_; clear hS; intro a hS
  refine r_assign hS hH.kp0 rfl rfl ?_; clear hS; intro a hS
  refine Sq.nil ?_
  refine then_n ?_
  refine reg_plain w0 (Nobody) ?_
  refine r_move hS hH.kp0 rfl rfl ?_; clear hS; intro a hS
  refine r_quo hS hH.kp0 rfl rfl rfl (by decide) ?_; clear hS; intro a hS
  refine r_move hS hH.kp0 rfl rfl ?_; clear hS; intro a hS
  refine r_quo hS hH.kp0 rfl rfl rfl (by decide) ?_; clear hS; intro a hS
  refine r_indexAddrA (j := 1) hS hH.kp0 rfl rfl Fc.ar106 (by rfl) (by decide) rfl ?_; clear hS; intro a hS
  refine r_load_sc hS hH (by repeat (first | exact Sub.nil | refine Sub.cons ?_ ?_ | exact In.here | refine In.there ?_)) rfl (by repeat (first | exact In.here | refine In.there ?_)) Fc.sc81 (v := .int .u64 0) rfl rfl ?_; clear hS; intro a hS
  obtain ⟨q8_, hq8_⟩ : ∃ z, 0 * 2 ^ 8 % 18446744073709551616 = z := ⟨_, rfl⟩
  refine r_shlN (m := 0) 8 q8_ hS hH.kp0 rfl rfl rfl rfl (by decide) hq8_ ?_; clear hS; intro a hS
  refine r_move hS hH.kp0 rfl rfl ?_; clear hS; intro a hS
  refine r_toU64 x8.toNat hS hH.kp0 rfl Fc.ui81 Fc.us5 rfl rfl (by have := x8.toNat_lt; omega) ?_; clear hS; intro a hS
  obtain ⟨F1, hF1⟩ : ∃ z, q8_ ||| x8.toNat = z := ⟨_, rfl⟩
  refine r_orN (m := q8_) (m' := x8.toNat) F1 hS hH.kp0 rfl rfl rfl (by rw [← hq8_]; exact Nat.mod_lt _ (by decide)) (by have := x8.toNat_lt; omega) hF1 ?_; clear hS; intro a hS
  have hsF1 : F1 = stp 0 x8 := by rw [← hF1, ← hq8_]; rfl
  refine r_indexAddrA (j := 1) hS hH.kp0 rfl rfl Fc.ar106 (by rfl) (by decide) rfl ?_; clear hS; intro a hS
  refine r_store1 hS hH rfl rfl rfl (by repeat (first | exact .here | apply In.there | apply Put.there | apply Del.there)) (by repeat (first | exact Sub.nil | refine Sub.cons ?_ ?_ | exact In.here | refine In.there ?_)) Fc.sz81 (of_decide_eq_true rfl) (.inr (by assumption)) ?_; clear hH; intro w hH
  refine Sq.nil ?_
  refine blk_n ?_
  refine then_n ?_
  refine reg_plain w0 (Nobody) ?_
  (first | refine r_add hS hH.kp0 rfl rfl rfl (by omega) ?_ | refine r_addw hS hH.kp0 rfl rfl rfl ?_)
  clear hS; intro a hS
  refine r_move hS hH.kp0 rfl rfl ?_; clear hS; intro a hS
  refine Sq.nil ?_
  refine then_n ?_
  refine rnd ?_
  refine c_seq ?_
  refine reg_plain w0 (Nobody) ?_
  refine r_lss hS hH.kp0 rfl rfl rfl ?_; clear hS; intro a hS
  refine Sq.nil ?_
  refine then_n ?_
  refine c_seq ?_
  refine c_condT hS rfl rfl ?_
  refine wp_skip ?_
  refine then_n ?_
  refine c_seq ?_
  refine wp_block ?_
  refine c_seq ?_
  refine reg_plain w0 (Nobody) ?_
  refine r_move hS hH.kp0 rfl rfl ?_; clear hS; intro a hS
  refine r_indexB (h := [x0, x1, x2, x3, x4, x5, x6, x7, x8, x9, xa, xb, xc, xd, xe, xf]) (u := x9) (i := 9) hS hH.kp0 rfl rfl Fc.uh26 Fc.sc5 Fc.sz1_5 rfl (by decide) rfl rfl ?_; clear hS; intro a hS
  refine r_assign hS hH.kp0 rfl rfl ?_; clear hS; intro a hS
  refine r_assign hS hH.kp0 rfl rfl ?_; clear hS; intro a hS
  refine Sq.nil ?_
  refine then_n ?_
  refine reg_plain w0 (Nobody) ?_
  refine r_move hS hH.kp0 rfl rfl ?_; clear hS; intro a hS
  refine r_quo hS hH.kp0 rfl rfl rfl (by decide) ?_; clear hS; intro a hS
  refine r_move hS hH.kp0 rfl rfl ?_; clear hS; intro a hS
  refine r_quo hS hH.kp0 rfl rfl rfl (by decide) ?_; clear hS; intro a hS
  refine r_indexAddrA (j := 1) hS hH.kp0 rfl rfl Fc.ar106 (by rfl) (by decide) rfl ?_; clear hS; intro a hS
  refine r_load_sc hS hH (by repeat (first | exact Sub.nil | refine Sub.cons ?_ ?_ | exact In.here | refine In.there ?_)) rfl (by repeat (first | exact In.here | refine In.there ?_)) Fc.sc81 (v := .int .u64 ((F1 : Nat) : Int)) rfl rfl ?_; clear hS; intro a hS
  obtain ⟨q9_, hq9_⟩ : ∃ z, F1 * 2 ^ 8 % 18446744073709551616 = z := ⟨_, rfl⟩
  refine r_shlN (m := F1) 8 q9_ hS hH.kp0 rfl rfl rfl rfl (by decide) hq9_ ?_; clear hS; intro a hS
  refine r_move hS hH.kp0 rfl rfl ?_; clear hS; intro a hS
  refine r_toU64 x9.toNat hS hH.kp0 rfl Fc.ui81 Fc.us5 rfl rfl (by have := x9.toNat_lt; omega) ?_; clear hS; intro a hS
  obtain ⟨F2, hF2⟩ : ∃ z, q9_ ||| x9.toNat = z := ⟨_, rfl⟩
  refine r_orN (m := q9_) (m' := x9.toNat) F2 hS hH.kp0 rfl rfl rfl (by rw [← hq9_]; exact Nat.mod_lt _ (by decide)) (by have := x9.toNat_lt; omega) hF2 ?_; clear hS; intro a hS
  have hsF2 : F2 = stp F1 x9 := by rw [← hF2, ← hq9_]; rfl
  refine r_indexAddrA (j := 1) hS hH.kp0 rfl rfl Fc.ar106 (by rfl) (by decide) rfl ?_; clear hS; intro a hS
  refine r_store1 hS hH rfl rfl rfl (by repeat (first | exact .here | apply In.there | apply Put.there | apply Del.there)) (by repeat (first | exact Sub.nil | refine Sub.cons ?_ ?_ | exact In.here | refine In.there ?_)) Fc.sz81 (of_decide_eq_true rfl) (.inr (by assumption)) ?_; clear hH; intro w hH
  refine Sq.nil ?_
  refine blk_n ?_
  refine then_n ?_
  refine reg_plain w0 (Nobody) ?_
  (first | refine r_add hS hH.kp0 rfl rfl rfl (by omega) ?_ | refine r_addw hS hH.kp0 rfl rfl rfl ?_)
  clear hS; intro a hS
  refine r_move hS hH.kp0 rfl rfl ?_; clear hS; intro a hS
  refine Sq.nil ?_
  refine then_n ?_
  refine rnd ?_
  refine c_seq ?_
  refine reg_plain w0 (Nobody) ?_
  refine r_lss hS hH.kp0 rfl rfl rfl ?_; clear hS; intro a hS
  refine Sq.nil ?_
  refine then_n ?_
  refine c_seq ?_
  refine c_condT hS rfl rfl ?_
  refine wp_skip ?_
  refine then_n ?_
  refine c_seq ?_
  refine wp_block ?_
  refine c_seq ?_
  refine reg_plain w0 (Nobody) ?_
  refine r_move hS hH.kp0 rfl rfl ?_; clear hS; intro a hS
  refine r_indexB (h := [x0, x1, x2, x3, x4, x5, x6, x7, x8, x9, xa, xb, xc, xd, xe, xf]) (u := xa) (i := 10) hS hH.kp0 rfl rfl Fc.uh26 Fc.sc5 Fc.sz1_5 rfl (by decide) rfl rfl ?_; clear hS; intro a hS
  refine r_assign hS hH.kp0 rfl rfl ?_; clear hS; intro a hS
  refine r_assign hS hH.kp0 rfl rfl ?_; clear hS; intro a hS
  refine Sq.nil ?_
  refine then_n ?_
  refine reg_plain w0 (Nobody) ?_
  refine r_move hS hH.kp0 rfl rfl ?_; clear hS; intro a hS
  refine r_quo hS hH.kp0 rfl rfl rfl (by decide) ?_; clear hS; intro a hS
  refine r_move hS hH.kp0 rfl rfl ?_; clear hS; intro a hS
  refine r_quo hS hH.kp0 rfl rfl rfl (by decide) ?_; clear hS; intro a hS
  refine r_indexAddrA (j := 1) hS hH.kp0 rfl rfl Fc.ar106 (by rfl) (by decide) rfl ?_; clear hS; intro a hS
  refine r_load_sc hS hH (by repeat (first | exact Sub.nil | refine Sub.cons ?_ ?_ | exact In.here | refine In.there ?_)) rfl (by repeat (first | exact In.here | refine In.there ?_)) Fc.sc81 (v := .int .u64 ((F2 : Nat) : Int)) rfl rfl ?_; clear hS; intro a hS
  obtain ⟨q10_, hq10_⟩ : ∃ z, F2 * 2 ^ 8 % 18446744073709551616 = z := ⟨_, rfl⟩
  refine r_shlN (m := F2) 8 q10_ hS hH.kp0 rfl rfl rfl rfl (by decide) hq10_ ?_; clear hS; intro a hS
  refine r_move hS hH.kp0 rfl rfl ?_; clear hS; intro a hS
  refine r_toU64 xa.toNat hS hH.kp0 rfl Fc.ui81 Fc.us5 rfl rfl (by have := xa.toNat_lt; omega) ?_; clear hS; intro a hS
  obtain ⟨F3, hF3⟩ : ∃ z, q10_ ||| xa.toNat = z := ⟨_, rfl⟩
  refine r_orN (m := q10_) (m' := xa.toNat) F3 hS hH.kp0 rfl rfl rfl (by rw [← hq10_]; exact Nat.mod_lt _ (by decide)) (by have := xa.toNat_lt; omega) hF3 ?_; clear hS; intro a hS
  have hsF3 : F3 = stp F2 xa := by rw [← hF3, ← hq10_]; rfl
  refine r_indexAddrA (j := 1) hS hH.kp0 rfl rfl Fc.ar106 (by rfl) (by decide) rfl ?_; clear hS; intro a hS
  refine r_store1 hS hH rfl rfl rfl (by repeat (first | exact .here | apply In.there | apply Put.there | apply Del.there)) (by repeat (first | exact Sub.nil | refine Sub.cons ?_ ?_ | exact In.here | refine In.there ?_)) Fc.sz81 (of_decide_eq_true rfl) (.inr (by assumption)) ?_; clear hH; intro w hH
  refine Sq.nil ?_
  refine blk_n ?_
  refine then_n ?_
  refine reg_plain w0 (Nobody) ?_
  (first | refine r_add hS hH.kp0 rfl rfl rfl (by omega) ?_ | refine r_addw hS hH.kp0 rfl rfl rfl ?_)
  clear hS; intro a hS
  refine r_move hS hH.kp0 rfl rfl ?_; clear hS; intro a hS
  refine Sq.nil ?_
  refine then_n ?_
  refine rnd ?_
  refine c_seq ?_
  refine reg_plain w0 (Nobody) ?_
  refine r_lss hS hH.kp0 rfl rfl rfl ?_; clear hS; intro a hS
  refine Sq.nil ?_
  refine then_n ?_
  refine c_seq ?_
  refine c_condT hS rfl rfl ?_
  refine wp_skip ?_
  refine then_n ?_
  refine c_seq ?_
  refine wp_block ?_
  refine c_seq ?_
  refine reg_plain w0 (Nobody) ?_
  refine r_move hS hH.kp0 rfl rfl ?_; clear hS; intro a hS
  refine r_indexB (h := [x0, x1, x2, x3, x4, x5, x6, x7, x8, x9, xa, xb, xc, xd, xe, xf]) (u := xb) (i := 11) hS hH.kp0 rfl rfl Fc.uh26 Fc.sc5 Fc.sz1_5 rfl (by decide) rfl rfl ?_; clear hS; intro a hS
  refine r_assign hS hH.kp0 rfl rfl ?_; clear hS; intro a hS
  refine r_assign hS hH.kp0 rfl rfl ?_; clear hS; intro a hS
  refine Sq.nil ?_
  refine then_n ?_
  refine reg_plain w0 (Nobody) ?_
  refine r_move hS hH.kp0 rfl rfl ?_; clear hS; intro a hS
  refine r_quo hS hH.kp0 rfl rfl rfl (by decide) ?_; clear hS; intro a hS
  refine r_move hS hH.kp0 rfl rfl ?_; clear hS; intro a hS
  refine r_quo hS hH.kp0 rfl rfl rfl (by decide) ?_; clear hS; intro a hS
  refine r_indexAddrA (j := 1) hS hH.kp0 rfl rfl Fc.ar106 (by rfl) (by decide) rfl ?_; clear hS; intro a hS
  refine r_load_sc hS hH (by repeat (first | exact Sub.nil | refine Sub.cons ?_ ?_ | exact In.here | refine In.there ?_)) rfl (by repeat (first | exact In.here | refine In.there ?_)) Fc.sc81 (v := .int .u64 ((F3 : Nat) : Int)) rfl rfl ?_; clear hS; intro a hS
  obtain ⟨q11_, hq11_⟩ : ∃ z, F3 * 2 ^ 8 % 18446744073709551616 = z := ⟨_, rfl⟩
  refine r_shlN (m := F3) 8 q11_ hS hH.kp0 rfl rfl rfl rfl (by decide) hq11_ ?_; clear hS; intro a hS
  refine r_move hS hH.kp0 rfl rfl ?_; clear hS; intro a hS
  refine r_toU64 xb.toNat hS hH.kp0 rfl Fc.ui81 Fc.us5 rfl rfl (by have := xb.toNat_lt; omega) ?_; clear hS; intro a hS
  obtain ⟨F4, hF4⟩ : ∃ z, q11_ ||| xb.toNat = z := ⟨_, rfl⟩
  refine r_orN (m := q11_) (m' := xb.toNat) F4 hS hH.kp0 rfl rfl rfl (by rw [← hq11_]; exact Nat.mod_lt _ (by decide)) (by have := xb.toNat_lt; omega) hF4 ?_; clear hS; intro a hS
  have hsF4 : F4 = stp F3 xb := by rw [← hF4, ← hq11_]; rfl
  refine r_indexAddrA (j := 1) hS hH.kp0 rfl rfl Fc.ar106 (by rfl) (by decide) rfl ?_; clear hS; intro a hS
  refine r_store1 hS hH rfl rfl rfl (by repeat (first | exact .here | apply In.there | apply Put.there | apply Del.there)) (by repeat (first | exact Sub.nil | refine Sub.cons ?_ ?_ | exact In.here | refine In.there ?_)) Fc.sz81 (of_decide_eq_true rfl) (.inr (by assumption)) ?_; clear hH; intro w hH
  refine Sq.nil ?_
  refine blk_n ?_
  refine then_n ?_
  refine reg_plain w0 (Nobody) ?_
  (first | refine r_add hS hH.kp0 rfl rfl rfl (by omega) ?_ | refine r_addw hS hH.kp0 rfl rfl rfl ?_)
  clear hS; intro a hS
  refine r_move hS hH.kp0 rfl rfl ?_; clear hS; intro a hS
  refine Sq.nil ?_
  refine then_n ?_
  refine rnd ?_
  refine c_seq ?_
  refine reg_plain w0 (Nobody) ?_
  refine r_lss hS hH.kp0 rfl rfl rfl ?_; clear hS; intro a hS
  refine Sq.nil ?_
  refine then_n ?_
  refine c_seq ?_
  refine c_condT hS rfl rfl ?_
  refine wp_skip ?_
  refine then_n ?_
  refine c_seq ?_
  refine wp_block ?_
  refine c_seq ?_
  refine reg_plain w0 (Nobody) ?_
  refine r_move hS hH.kp0 rfl rfl ?_; clear hS; intro a hS
  refine r_indexB (h := [x0, x1, x2, x3, x4, x5, x6, x7, x8, x9, xa, xb, xc, xd, xe, xf]) (u := xc) (i := 12) hS hH.kp0 rfl rfl Fc.uh26 Fc.sc5 Fc.sz1_5 rfl (by decide) rfl rfl ?_; clear hS; intro a hS
  refine r_assign hS hH.kp0 rfl rfl ?_; clear hS; intro a hS
  refine r_assign hS hH.kp0 rfl rfl ?_; clear hS; intro a hS
  refine Sq.nil ?_
  refine then_n ?_
  refine reg_plain w0 (Nobody) ?_
  refine r_move hS hH.kp0 rfl rfl ?_; clear hS; intro a hS
  refine r_quo hS hH.kp0 rfl rfl rfl (by decide) ?_; clear hS; intro a hS
  refine r_move hS hH.kp0 rfl rfl ?_; clear hS; intro a hS
  refine r_quo hS hH.kp0 rfl rfl rfl (by decide) ?_; clear hS; intro a hS
  refine r_indexAddrA (j := 1) hS hH.kp0 rfl rfl Fc.ar106 (by rfl) (by decide) rfl ?_; clear hS; intro a hS
  refine r_load_sc hS hH (by repeat (first | exact Sub.nil | refine Sub.cons ?_ ?_ | exact In.here | refine In.there ?_)) rfl (by repeat (first | exact In.here | refine In.there ?_)) Fc.sc81 (v := .int .u64 ((F4 : Nat) : Int)) rfl rfl ?_; clear hS; intro a hS
  obtain ⟨q12_, hq12_⟩ : ∃ z, F4 * 2 ^ 8 % 18446744073709551616 = z := ⟨_, rfl⟩
  refine r_shlN (m := F4) 8 q12_ hS hH.kp0 rfl rfl rfl rfl (by decide) hq12_ ?_; clear hS; intro a hS
  refine r_move hS hH.kp0 rfl rfl ?_; clear hS; intro a hS
  refine r_toU64 xc.toNat hS hH.kp0 rfl Fc.ui81 Fc.us5 rfl rfl (by have := xc.toNat_lt; omega) ?_; clear hS; intro a hS
  obtain ⟨F5, hF5⟩ : ∃ z, q12_ ||| xc.toNat = z := ⟨_, rfl⟩
  refine r_orN (m := q12_) (m' := xc.toNat) F5 hS hH.kp0 rfl rfl rfl (by rw [← hq12_]; exact Nat.mod_lt _ (by decide)) (by have := xc.toNat_lt; omega) hF5 ?_; clear hS; intro a hS
  have hsF5 : F5 = stp F4 xc := by rw [← hF5, ← hq12_]; rfl
  refine r_indexAddrA (j := 1) hS hH.kp0 rfl rfl Fc.ar106 (by rfl) (by decide) rfl ?_; clear hS; intro a hS
  refine r_store1 hS hH rfl rfl rfl (by repeat (first | exact .here | apply In.there | apply Put.there | apply Del.there)) (by repeat (first | exact Sub.nil | refine Sub.cons ?_ ?_ | exact In.here | refine In.there ?_)) Fc.sz81 (of_decide_eq_true rfl) (.inr (by assumption)) ?_; clear hH; intro w hH
  refine Sq.nil ?_
  refine blk_n ?_
  refine then_n ?_
  refine reg_plain w0 (Nobody) ?_
  (first | refine r_add hS hH.kp0 rfl rfl rfl (by omega) ?_ | refine r_addw hS hH.kp0 rfl rfl rfl ?_)
  clear hS; intro a hS
  refine r_move hS hH.kp0 rfl rfl ?_; clear hS; intro a hS
  refine Sq.nil ?_
  refine then_n ?_
  refine rnd ?_
  refine c_seq ?_
  refine reg_plain w0 (Nobody) ?_
  refine r_lss hS hH.kp0 rfl rfl rfl ?_; clear hS; intro a hS
  refine Sq.nil ?_
  refine then_n ?_
  refine c_seq ?_
  refine c_condT hS rfl rfl ?_
  refine wp_skip ?_
  refine then_n ?_
  refine c_seq ?_
  refine wp_block ?_
  refine c_seq ?_
  refine reg_plain w0 (Nobody) ?_
  refine r_move hS hH.kp0 rfl rfl ?_; clear hS; intro a hS
  refine r_indexB (h := [x0, x1, x2, x3, x4, x5, x6, x7, x8, x9, xa, xb, xc, xd, xe, xf]) (u := xd) (i := 13) hS hH.kp0 rfl rfl Fc.uh26 Fc.sc5 Fc.sz1_5 rfl (by decide) rfl rfl ?_; clear hS; intro a hS
  refine r_assign hS hH.kp0 rfl rfl ?_; clear hS; intro a hS
  refine r_assign hS hH.kp0 rfl rfl ?_; clear hS; intro a hS
  refine Sq.nil ?_
  refine then_n ?_
  refine reg_plain w0 (Nobody) ?_
  refine r_move hS hH.kp0 rfl rfl ?_; clear hS; intro a hS
  refine r_quo hS hH.kp0 rfl rfl rfl (by decide) ?_; clear hS; intro a hS
  refine r_move hS hH.kp0 rfl rfl ?_; clear hS; intro a hS
  refine r_quo hS hH.kp0 rfl rfl rfl (by decide) ?_; clear hS; intro a hS
  refine r_indexAddrA (j := 1) hS hH.kp0 rfl rfl Fc.ar106 (by rfl) (by decide) rfl ?_; clear hS; intro a hS
  refine r_load_sc hS hH (by repeat (first | exact Sub.nil | refine Sub.cons ?_ ?_ | exact In.here | refine In.there ?_)) rfl (by repeat (first | exact In.here | refine In.there ?_)) Fc.sc81 (v := .int .u64 ((F5 : Nat) : Int)) rfl rfl ?_; clear hS; intro a hS
  obtain ⟨q13_, hq13_⟩ : ∃ z, F5 * 2 ^ 8 % 18446744073709551616 = z := ⟨_, rfl⟩
  refine r_shlN (m := F5) 8 q13_ hS hH.kp0 rfl rfl rfl rfl (by decide) hq13_ ?_; clear hS; intro a hS
  refine r_move hS hH.kp0 rfl rfl ?_; clear hS; intro a hS
  refine r_toU64 xd.toNat hS hH.kp0 rfl Fc.ui81 Fc.us5 rfl rfl (by have := xd.toNat_lt; omega) ?_; clear hS; intro a hS
  obtain ⟨F6, hF6⟩ : ∃ z, q13_ ||| xd.toNat = z := ⟨_, rfl⟩
  refine r_orN (m := q13_) (m' := xd.toNat) F6 hS hH.kp0 rfl rfl rfl (by rw [← hq13_]; exact Nat.mod_lt _ (by decide)) (by have := xd.toNat_lt; omega) hF6 ?_; clear hS; intro a hS
  have hsF6 : F6 = stp F5 xd := by rw [← hF6, ← hq13_]; rfl
  refine r_indexAddrA (j := 1) hS hH.kp0 rfl rfl Fc.ar106 (by rfl) (by decide) rfl ?_; clear hS; intro a hS
  refine r_store1 hS hH rfl rfl rfl (by repeat (first | exact .here | apply In.there | apply Put.there | apply Del.there)) (by repeat (first | exact Sub.nil | refine Sub.cons ?_ ?_ | exact In.here | refine In.there ?_)) Fc.sz81 (of_decide_eq_true rfl) (.inr (by assumption)) ?_; clear hH; intro w hH
  refine Sq.nil ?_
  refine blk_n ?_
  refine then_n ?_
  refine reg_plain w0 (Nobody) ?_
  (first | refine r_add hS hH.kp0 rfl rfl rfl (by omega) ?_ | refine r_addw hS hH.kp0 rfl rfl rfl ?_)
  clear hS; intro a hS
  refine r_move hS hH.kp0 rfl rfl ?_; clear hS; intro a hS
  refine Sq.nil ?_
  refine then_n ?_
  refine rnd ?_
  refine c_seq ?_
  refine reg_plain w0 (Nobody) ?_
  refine r_lss hS hH.kp0 rfl rfl rfl ?_; clear hS; intro a hS
  refine Sq.nil ?_
  refine then_n ?_
  refine c_seq ?_
  refine c_condT hS rfl rfl ?_
  refine wp_skip ?_
  refine then_n ?_
  refine c_seq ?_
  refine wp_block ?_
  refine c_seq ?_
  refine reg_plain w0 (Nobody) ?_
  refine r_move hS hH.kp0 rfl rfl ?_; clear hS; intro a hS
  refine r_indexB (h := [x0, x1, x2, x3, x4, x5, x6, x7, x8, x9, xa, xb, xc, xd, xe, xf]) (u := xe) (i := 14) hS hH.kp0 rfl rfl Fc.uh26 Fc.sc5 Fc.sz1_5 rfl (by decide) rfl rfl ?_; clear hS; intro a hS
  refine r_assign hS hH.kp0 rfl rfl ?_; clear hS; intro a hS
  refine r_assign hS hH.kp0 rfl rfl ?_; clear hS; intro a hS
  refine Sq.nil ?_
  refine then_n ?_
  refine reg_plain w0 (Nobody) ?_
  refine r_move hS hH.kp0 rfl rfl ?_; clear hS; intro a hS
  refine r_quo hS hH.kp0 rfl rfl rfl (by decide) ?_; clear hS; intro a hS
  refine r_move hS hH.kp0 rfl rfl ?_; clear hS; intro a hS
  refine r_quo hS hH.kp0 rfl rfl rfl (by decide) ?_; clear hS; intro a hS
  refine r_indexAddrA (j := 1) hS hH.kp0 rfl rfl Fc.ar106 (by rfl) (by decide) rfl ?_; clear hS; intro a hS
  refine r_load_sc hS hH (by repeat (first | exact Sub.nil | refine Sub.cons ?_ ?_ | exact In.here | refine In.there ?_)) rfl (by repeat (first | exact In.here | refine In.there ?_)) Fc.sc81 (v := .int .u64 ((F6 : Nat) : Int)) rfl rfl ?_; clear hS; intro a hS
  obtain ⟨q14_, hq14_⟩ : ∃ z, F6 * 2 ^ 8 % 18446744073709551616 = z := ⟨_, rfl⟩
  refine r_shlN (m := F6) 8 q14_ hS hH.kp0 rfl rfl rfl rfl (by decide) hq14_ ?_; clear hS; intro a hS
  refine r_move hS hH.kp0 rfl rfl ?_; clear hS; intro a hS
  refine r_toU64 xe.toNat hS hH.kp0 rfl Fc.ui81 Fc.us5 rfl rfl (by have := xe.toNat_lt; omega) ?_; clear hS; intro a hS
  obtain ⟨F7, hF7⟩ : ∃ z, q14_ ||| xe.toNat = z := ⟨_, rfl⟩
  refine r_orN (m := q14_) (m' := xe.toNat) F7 hS hH.kp0 rfl rfl rfl (by rw [← hq14_]; exact Nat.mod_lt _ (by decide)) (by have := xe.toNat_lt; omega) hF7 ?_; clear hS; intro a hS
  have hsF7 : F7 = stp F6 xe := by rw [← hF7, ← hq14_]; rfl
  refine r_indexAddrA (j := 1) hS hH.kp0 rfl rfl Fc.ar106 (by rfl) (by decide) rfl ?_; clear hS; intro a hS
  refine r_store1 hS hH rfl rfl rfl (by repeat (first | exact .here | apply In.there | apply Put.there | apply Del.there)) (by repeat (first | exact Sub.nil | refine Sub.cons ?_ ?_ | exact In.here | refine In.there ?_)) Fc.sz81 (of_decide_eq_true rfl) (.inr (by assumption)) ?_; clear hH; intro w hH
  refine Sq.nil ?_
  refine blk_n ?_
  refine then_n ?_
  refine reg_plain w0 (Nobody) ?_
  (first | refine r_add hS hH.kp0 rfl rfl rfl (by omega) ?_ | refine r_addw hS hH.kp0 rfl rfl rfl ?_)
  clear hS; intro a hS
  refine r_move hS hH.kp0 rfl rfl ?_; clear hS; intro a hS
  refine Sq.nil ?_
  refine then_n ?_
  refine rnd ?_
  refine c_seq ?_
  refine reg_plain w0 (Nobody) ?_
  refine r_lss hS hH.kp0 rfl rfl rfl ?_; clear hS; intro a hS
  refine Sq.nil ?_
  refine then_n ?_
  refine c_seq ?_
  refine c_condT hS rfl rfl ?_
  refine wp_skip ?_
  refine then_n ?_
  refine c_seq ?_
  refine wp_block ?_
  refine c_seq ?_
  refine reg_plain w0 (Nobody) ?_
  refine r_move hS hH.kp0 rfl rfl ?_; clear hS; intro a hS
  refine r_indexB (h := [x0, x1, x2, x3, x4, x5, x6, x7, x8, x9, xa, xb, xc, xd, xe, xf]) (u := xf) (i := 15) hS hH.kp0 rfl rfl Fc.uh26 Fc.sc5 Fc.sz1_5 rfl (by decide) rfl rfl ?_; clear hS; intro a hS
  refine r_assign hS hH.kp0 rfl rfl ?_; clear hS; intro a hS
  refine r_assign hS hH.kp0 rfl rfl ?_; clear hS; intro a hS
  refine Sq.nil ?_
  refine then_n ?_
  refine reg_plain w0 (Nobody) ?_
  refine r_move hS hH.kp0 rfl rfl ?_; clear hS; intro a hS
  refine r_quo hS hH.kp0 rfl rfl rfl (by decide) ?_; clear hS; intro a hS
  refine r_move hS hH.kp0 rfl rfl ?_; clear hS; intro a hS
  refine r_quo hS hH.kp0 rfl rfl rfl (by decide) ?_; clear hS; intro a hS
  refine r_indexAddrA (j := 1) hS hH.kp0 rfl rfl Fc.ar106 (by rfl) (by decide) rfl ?_; clear hS; intro a hS
  refine r_load_sc hS hH (by repeat (first | exact Sub.nil | refine Sub.cons ?_ ?_ | exact In.here | refine In.there ?_)) rfl (by repeat (first | exact In.here | refine In.there ?_)) Fc.sc81 (v := .int .u64 ((F7 : Nat) : Int)) rfl rfl ?_; clear hS; intro a hS
  obtain ⟨q15_, hq15_⟩ : ∃ z, F7 * 2 ^ 8 % 18446744073709551616 = z := ⟨_, rfl⟩
  refine r_shlN (m := F7) 8 q15_ hS hH.kp0 rfl rfl rfl rfl (by decide) hq15_ ?_; clear hS; intro a hS
  refine r_move hS hH.kp0 rfl rfl ?_; clear hS; intro a hS
  refine r_toU64 xf.toNat hS hH.kp0 rfl Fc.ui81 Fc.us5 rfl rfl (by have := xf.toNat_lt; omega) ?_; clear hS; intro a hS
  obtain ⟨F8, hF8⟩ : ∃ z, q15_ ||| xf.toNat = z := ⟨_, rfl⟩
  refine r_orN (m := q15_) (m' := xf.toNat) F8 hS hH.kp0 rfl rfl rfl (by rw [← hq15_]; exact Nat.mod_lt _ (by decide)) (by have := xf.toNat_lt; omega) hF8 ?_; clear hS; intro a hS
  have hsF8 : F8 = stp F7 xf := by rw [← hF8, ← hq15_]; rfl
  refine r_indexAddrA (j := 1) hS hH.kp0 rfl rfl Fc.ar106 (by rfl) (by decide) rfl ?_; clear hS; intro a hS
  refine r_store1 hS hH rfl rfl rfl (by repeat (first | exact .here | apply In.there | apply Put.there | apply Del.there)) (by repeat (first | exact Sub.nil | refine Sub.cons ?_ ?_ | exact In.here | refine In.there ?_)) Fc.sz81 (of_decide_eq_true rfl) (.inr (by assumption)) ?_; clear hH; intro w hH
  refine Sq.nil ?_
  refine blk_n ?_
  refine then_n ?_
  refine reg_plain w0 (Nobody) ?_
  (first | refine r_add hS hH.kp0 rfl rfl rfl (by omega) ?_ | refine r_addw hS hH.kp0 rfl rfl rfl ?_)
  clear hS; intro a hS
  refine r_move hS hH.kp0 rfl rfl ?_; clear hS; intro a hS
  refine Sq.nil ?_
  refine then_n ?_
  refine rnd ?_
  refine c_seq ?_
  refine reg_plain w0 (Nobody) ?_
  refine r_lss hS hH.kp0 rfl rfl rfl ?_; clear hS; intro a hS
  refine Sq.nil ?_
  refine then_n ?_
  refine c_seq ?_
  refine c_condF hS rfl rfl ?_
  refine wp_exit ?_
  refine then_e ?_
  refine then_e ?_
  refine blk_hit ?_
  refine then_n ?_
  refine c_seq ?_
  refine reg_plain w0 (Nobody) ?_
  refine r_indexAddrA hS hH.kp0 rfl rfl Fc.ar106 rfl (by decide) rfl ?_; clear hS; intro a hS
  refine r_load_sc hS hH (by repeat (first | exact Sub.nil | refine Sub.cons ?_ ?_ | exact In.here | refine In.there ?_)) rfl (by repeat (first | exact In.here | refine In.there ?_)) Fc.sc81 (v := .int .u64 ((E8 : Nat) : Int)) rfl rfl ?_; clear hS; intro a hS
  refine r_call (l := [.tmp 25]) hS rfl rfl Fc.fn58 rfl ?_
  refine Calls.mono (unmix_c E8 (by rw [hsE8]; exact stp_lt _ _) _) ?_
  rintro e w1 ⟨rfl, hE⟩
  obtain ⟨U, hU⟩ : ∃ z, z = unmixN E8 := ⟨_, rfl⟩
  rw [← hU]
  replace hH := hH.ext hE
  refine ⟨_, rfl, hH.kp0, ?_⟩
  clear hS; intro a hS
  refine r_assign hS hH.kp0 rfl rfl ?_; clear hS; intro a hS
  refine Sq.nil ?_
  refine then_n ?_
  refine c_seq ?_
  refine reg_draw [(true, 0, []), (true, 1, []), (true, 2, []), (true, 3, []), (true, 4, []), (true, 5, []), (true, 7, []), (true, 8, []), (false, 6, []), (true, 9, []), (true, 10, []), (true, 11, [])] Fc.mixed (by kernel_rfl) (by kernel_rfl) (by kernel_rfl) (by kernel_rfl) (by kernel_rfl) (by repeat (first | with_reducible exact steady_body | with_reducible apply steady_block | with_reducible apply steady_then | exact steady_body)) hH ?_
  replace hH := hH.drew
  refine r_move hS trivial rfl rfl ?_; clear hS; intro a hS
  refine r_rem hS trivial rfl rfl rfl (by first | decide | omega) ?_; clear hS; intro a hS
  refine r_eql hS trivial rfl rfl rfl ?_; clear hS; intro a hS
  rcases hb : (U % 2 == 0) with _ | _
  · have hb2 : (Int.tmod ((U : Nat) : Int) 2 == 0) = false := by rw [show Int.tmod ((U : Nat) : Int) 2 = ((U % 2 : Nat) : Int) from rfl]; exact (int_beq _ 0).trans hb
    refine r_move hS trivial rfl rfl ?_; clear hS; intro a hS
    refine Sq.guardNo hS rfl rfl hb2 trivial rfl ?_; clear hS; intro a hS
    refine Sq.guardNo hS rfl rfl hb2 trivial rfl ?_; clear hS; intro a hS
    refine Sq.guardNo hS rfl rfl hb2 trivial rfl ?_; clear hS; intro a hS
    refine Sq.guardNo hS rfl rfl hb2 trivial rfl ?_; clear hS; intro a hS
    refine Sq.guardNo hS rfl rfl hb2 (hH.kp (by repeat (first | exact Sub.nil | refine Sub.cons ?_ ?_ | exact In.here | refine In.there ?_))) rfl ?_; clear hS; intro a hS
    refine Sq.guardNo hS rfl rfl hb2 trivial rfl ?_; clear hS; intro a hS
    refine r_pickF hS trivial rfl hb2 rfl rfl ?_; clear hS; intro a hS
    refine r_assign hS trivial rfl rfl ?_; clear hS; intro a hS
    refine Sq.nil ?_
    refine then_n ?_
    refine wp_ret ?_
    have hf0 : hv ([x0, x1, x2, x3, x4, x5, x6, x7, x8, x9, xa, xb, xc, xd, xe, xf].take 8) = E8 := by rw [hsE8, hsE7, hsE6, hsE5, hsE4, hsE3, hsE2, hsE1]; rfl
    have hf1 : hv ([x0, x1, x2, x3, x4, x5, x6, x7, x8, x9, xa, xb, xc, xd, xe, xf].drop 8) = F8 := by rw [hsF8, hsF7, hsF6, hsF5, hsF4, hsF3, hsF2, hsF1]; rfl
    exact leave (.inl rfl) hS rfl (Res.tmp rfl Res.nil) ⟨_, rfl, by unfold isNameF; rw [hf0, hf1, ← hU, hb]; rfl, hH.mod⟩
  · have hb2 : (Int.tmod ((U : Nat) : Int) 2 == 0) = true := by rw [show Int.tmod ((U : Nat) : Int) 2 = ((U % 2 : Nat) : Int) from rfl]; exact (int_beq _ 0).trans hb
    refine r_move hS trivial rfl rfl ?_; clear hS; intro a hS
    refine Sq.guardYes hS rfl rfl hb2 ?_
    refine r_move hS trivial rfl rfl ?_; clear hS; intro a hS
    refine Sq.guardYes hS rfl rfl hb2 ?_
    obtain ⟨U1, hU1⟩ : ∃ z, (U + 1) % 18446744073709551616 = z := ⟨_, rfl⟩
    refine r_addN (m := U) (m' := 1) U1 hS trivial rfl rfl rfl hU1 ?_; clear hS; intro a hS
    refine Sq.guardYes hS rfl rfl hb2 ?_
    refine r_indexAddrA hS trivial rfl rfl Fc.ar106 rfl (by decide) rfl ?_; clear hS; intro a hS
    refine Sq.guardYes hS rfl rfl hb2 ?_
    refine r_load_scS hS rfl (by repeat (first | exact In.here | refine In.there ?_)) Fc.sc81 (v := .int .u64 ((F8 : Nat) : Int)) rfl rfl ?_; clear hS; intro a hS
    refine Sq.guardYes hS rfl rfl hb2 ?_
    refine r_call (l := [.tmp 32]) hS rfl rfl Fc.fn59 rfl ?_
    refine Calls.mono (mix_c U1 _) ?_
    rintro e w1 ⟨rfl, hE⟩
    obtain ⟨Wm, hWm⟩ : ∃ z, z = mixN U1 := ⟨_, rfl⟩
    rw [← hWm]
    replace hH := hH.ext hE
    refine ⟨_, rfl, hH.kp (by repeat (first | exact Sub.nil | refine Sub.cons ?_ ?_ | exact In.here | refine In.there ?_)), ?_⟩
    clear hS; intro a hS
    refine Sq.guardYes hS rfl rfl hb2 ?_
    refine r_eql hS trivial rfl rfl rfl ?_; clear hS; intro a hS
    refine r_pickT hS trivial rfl hb2 rfl rfl ?_; clear hS; intro a hS
    refine r_assign hS trivial rfl rfl ?_; clear hS; intro a hS
    refine Sq.nil ?_
    refine then_n ?_
    refine wp_ret ?_
    have hf0 : hv ([x0, x1, x2, x3, x4, x5, x6, x7, x8, x9, xa, xb, xc, xd, xe, xf].take 8) = E8 := by rw [hsE8, hsE7, hsE6, hsE5, hsE4, hsE3, hsE2, hsE1]; rfl
    have hf1 : hv ([x0, x1, x2, x3, x4, x5, x6, x7, x8, x9, xa, xb, xc, xd, xe, xf].drop 8) = F8 := by rw [hsF8, hsF7, hsF6, hsF5, hsF4, hsF3, hsF2, hsF1]; rfl
    exact leave (.inl rfl) hS rfl (Res.tmp rfl Res.nil) ⟨_, rfl, by unfold isNameF; rw [hf0, hf1, ← hU, hb, hU1, ← hWm]; exact int_beq _ _, hH.mod⟩

end Go.Proofs.YtcjmehononbadaaDoor

namespace Go.Proofs.YtcjmehononbadaaDoor
open Go.Sym


set_option maxRecDepth 100000 in
set_option maxHeartbeats 4000000 in
theorem Hidden7_v (b : Nat) (V : VB) (ts : List Tm) (hm : ts.length ≤ 1000000000) (hwf : Wf6 ts) (hpos : 0 < ts.length) (v sv : Value) (l : List UInt8) (hl : l.length ≤ 1099511627776) (ls : List (List UInt8)) (hll : ∀ l ∈ ls, l.length ≤ 1099511627776) (hls2 : ls.length ≤ 1048576) (w0 : World) (hvi : VI w0 b V ts) (hb : Bs w0 v l) (hss : SlG Nobody w0 sv ls) : Calls Tryd.prog 11 #[.pointer (some ⟨b, 0, none⟩), v, sv] w0 fun e w' => ∃ r K, e = .returned (.bool r) ∧ Knows6 ts ls K ∧ HidR7 ts K l r ∧ Ext w0 w' := by
  refine enter Tryd.func11 rfl rfl rfl ?_
  intro a hS
  have hH := Hp.start w0 (Nobody)
  obtain ⟨q, qc, hsl⟩ := hb
  have hb : Bs w0 v l := ⟨q, qc, hsl⟩
  have hv9 := hsl.val
  subst hv9
  obtain ⟨g2, hm2, hf2⟩ := hvi.ok.names
  replace hH := hH.knowV hvi (by intro p hp; simp at hp)
  refine c_seq ?_
  refine reg_plain w0 (Nobody) ?_
  refine r_assign hS hH.kp0 rfl rfl ?_; clear hS; intro a hS
  refine Sq.nil ?_
  refine then_n ?_
  refine c_seq ?_
  refine c_seq ?_
  refine reg_plain w0 (Nobody) ?_
  refine r_move hS hH.kp0 rfl rfl ?_; clear hS; intro a hS
  refine r_call (l := [.tmp 12]) hS rfl rfl Fc.fn24 rfl ?_
  refine Calls.mono (none_v b V ts _ (hH.vin hvi.ok hvi.n01 hvi.n23 (by repeat (first | exact In.here | refine In.there ?_)) (by repeat (first | exact In.here | refine In.there ?_)) (by repeat (first | exact In.here | refine In.there ?_)) (by repeat (first | exact In.here | refine In.there ?_)))) ?_
  rintro e w1 ⟨rfl, hE⟩
  replace hH := hH.ext hE
  refine ⟨_, rfl, hH.kp0, ?_⟩
  clear hS; intro a hS
  refine Sq.nil ?_
  refine then_n ?_
  refine c_condF hS rfl rfl ?_
  refine wp_skip ?_
  refine then_n ?_
  refine c_seq ?_
  refine reg_plain w0 (Nobody) ?_
  refine r_move hS hH.kp0 rfl rfl ?_; clear hS; intro a hS
  refine r_move hS hH.kp0 rfl rfl ?_; clear hS; intro a hS
  refine r_call (l := [.tmp 14, .tmp 15]) hS rfl rfl Fc.fn26 rfl ?_
  refine Calls.mono (knows6_v b V ts hm hwf hpos sv ls hll hls2 _ (hH.vin hvi.ok hvi.n01 hvi.n23 (by repeat (first | exact In.here | refine In.there ?_)) (by repeat (first | exact In.here | refine In.there ?_)) (by repeat (first | exact In.here | refine In.there ?_)) (by repeat (first | exact In.here | refine In.there ?_))) (hss.go hH.mod (fun _ h => h.elim))) ?_
  rintro e w1 ⟨bs, bk, K, tdv, rfl, hbs1, hbk1, hKN, hE, hbs, hbk⟩
  have hlt := fun (p : Nat × Obj) hp => lt_of_block (hH.blk p hp)
  have hsz := hH.mod.size
  have hbs0 := Nat.le_trans hsz hbs
  have hbk0 := Nat.le_trans hsz hbk
  have nbk : bs ≠ bk := by intro e; rw [e, hbk1] at hbs1; simp at hbs1
  replace hH := ((hH.ext hE).know hbk1 (fun p hp e => by have h1 := hlt p hp; omega)).know hbs1 (by intro p hp; rcases List.mem_cons.1 hp with rfl | hp; exact Ne.symm nbk; exact fun e => by have h1 := hlt p hp; omega)
  refine ⟨_, rfl, hH.kp0, ?_⟩
  clear hS; intro a hS
  refine r_assign hS hH.kp0 rfl rfl ?_; clear hS; intro a hS
  refine Sq.nil ?_
  refine then_n ?_
  refine c_seq ?_
  refine c_seq ?_
  refine reg_plain w0 (Nobody) ?_
  refine r_assign hS hH.kp0 rfl rfl ?_; clear hS; intro a hS
  refine Sq.nil ?_
  refine then_n ?_
  refine wp_block ?_
  refine c_loop (fun m a w => ∃ (i : Nat) (ii : Int), m + i = l.length ∧ ii = i ∧ Bare7 ts K l i ∧ St 59 (lv [(0, .pointer (some ⟨b, 0, none⟩)), (1, .slice q l.length qc), (7, .pointer (some ⟨bs, 0, none⟩)), (8, .int .i64 ii)]) a ∧ Hp w0 Nobody [(bs, .cells [.pointer (some ⟨b, 0, none⟩), .slice (some ⟨bk, 0, none⟩) ts.length ts.length, tdv].toArray 71 (0, 0)), (bk, .cells (bools K).toArray 4 (0, 0)), (b, .cells (V.top ts.length).toArray 41 (0, 0)), (V.sb, .cells V.l.toArray 64 (0, 0)), (V.fb, .map V.es V.c), (V.nb, .map V.es' V.c')] w) (l.length) ?_ ?_
  · exact ⟨0, _, by omega, rfl, fun z hz => by omega, hS.live ⟨rfl, rfl, rfl, rfl, trivial⟩, hH⟩
  clear hS hH; intro m a w hI; obtain ⟨i, ii, hmi, hii, hB, hS, hH⟩ := hI
  refine c_seq ?_
  refine c_seq ?_
  refine reg_plain w0 (Nobody) ?_
  refine r_move hS hH.kp0 rfl rfl ?_; clear hS; intro a hS
  (first | refine r_add hS hH.kp0 rfl rfl rfl (by omega) ?_ | refine r_addw hS hH.kp0 rfl rfl rfl ?_)
  clear hS; intro a hS
  refine r_move hS hH.kp0 rfl rfl ?_; clear hS; intro a hS
  refine r_lenSl hS hH.kp0 rfl Fc.isSlice22 rfl ?_; clear hS; intro a hS
  refine r_leq hS hH.kp0 rfl rfl rfl ?_; clear hS; intro a hS
  refine Sq.nil ?_
  refine then_n ?_
  refine c_cond hS rfl (fun hc1 => ?_) (fun hc1 => ?_)
  · have hlt := of_decide_eq_true hc1
    obtain ⟨ba, bo, hq⟩ := hsl.addr (by omega)
    subst hq
    have hcl := fun w k => hb.f.cells16 i w k
    have hsle := hsl.le
    obtain ⟨g, hg⟩ : ∃ g, g = (l.drop i).take 16 := ⟨_, rfl⟩
    rw [← hg] at hcl
    have hg16 : g.length = 16 := by rw [hg]; simp; omega
    obtain ⟨g0, g1, g2, g3, g4, g5, g6, g7, g8, g9, ga, gb, gc, gd, ge, gf, rfl⟩ := len16 hg16
    obtain ⟨n0, th, e1, e2, hcase⟩ := hf2.look2 [g0, g1, g2, g3, g4, g5, g6, g7, g8, g9, ga, gb, gc, gd, ge, gf]
    refine wp_skip ?_
    refine then_n ?_
    refine c_seq ?_
    refine wp_block ?_
    refine c_seq ?_
    refine reg_plain w0 (Nobody) ?_
    refine r_move hS hH.kp0 rfl rfl ?_; clear hS; intro a hS
    refine r_move hS hH.kp0 rfl rfl ?_; clear hS; intro a hS
    refine r_move hS hH.kp0 rfl rfl ?_; clear hS; intro a hS
    (first | refine r_add hS hH.kp0 rfl rfl rfl (by omega) ?_ | refine r_addw hS hH.kp0 rfl rfl rfl ?_)
    clear hS; intro a hS
    refine r_slLoHi (ll := i) (hh := i + 16) hS hH.kp0 rfl rfl rfl Fc.slb22 hii (by omega) (by omega) (by omega) rfl ?_; clear hS; intro a hS
    rw [if_neg (show ¬ qc = i by omega)] at hS
    refine r_toArr hS hH.kp0 rfl Fc.ar26 (by omega) rfl ?_; clear hS; intro a hS
    refine r_load_cells (l := hcells [g0, g1, g2, g3, g4, g5, g6, g7, g8, g9, ga, gb, gc, gd, ge, gf]) hS hH.kp0 rfl Fc.ag26 rfl (hcl _ hH.mod) rfl ?_; clear hS; intro a hS
    refine r_alloc hS hH (by repeat (first | exact Sub.nil | refine Sub.cons ?_ ?_ | exact In.here | refine In.there ?_)) Fc.zc26 rfl ?_
    clear hS hH; intro a w b9 hb9 hwb9 hS hH
    refine r_store_row hS hH rfl rfl (by repeat (first | exact .here | apply In.there | apply Put.there | apply Del.there)) (by repeat (first | exact Sub.nil | refine Sub.cons ?_ ?_ | exact In.here | refine In.there ?_)) Fc.sz26 (by first | exact hcells_one _ | exact of_decide_eq_true rfl) (by rfl) (by first | exact .inr (by assumption) | exact .inl (by first | assumption | rfl)) ?_
    clear hH; intro w hH
    refine Sq.nil ?_
    refine then_n ?_
    refine c_seq ?_
    refine reg_draw [(true, 0, []), (true, 1, []), (true, 2, []), (true, 3, []), (true, 4, []), (true, 5, []), (true, 6, []), (true, 7, []), (true, 8, []), (true, 9, []), (true, 10, [])] Fc.mixed (by kernel_rfl) (by kernel_rfl) (by kernel_rfl) (by kernel_rfl) (by kernel_rfl) (by repeat (first | with_reducible exact steady_body | with_reducible apply steady_block | with_reducible apply steady_then | exact steady_body)) hH ?_
    replace hH := hH.drew
    refine r_move hS trivial rfl rfl ?_; clear hS; intro a hS
    refine r_nilCheck hS trivial rfl rfl ?_; clear hS; intro a hS
    refine r_fieldAddr hS trivial rfl Fc.fo41_2 rfl ?_; clear hS; intro a hS
    refine r_load_scS hS rfl (by repeat (first | exact In.here | refine In.there ?_)) Fc.sc39 (by rfl) rfl ?_; clear hS; intro a hS
    refine r_load_rowS hS rfl (by repeat (first | exact In.here | refine In.there ?_)) Fc.ag26 (by rfl) rfl ?_; clear hS; intro a hS
    refine r_lookupS2 Fc.mtN hS rfl rfl (by repeat (first | exact In.here | refine In.there ?_)) hm2 (Fc.arrH.keyOf (h := [g0, g1, g2, g3, g4, g5, g6, g7, g8, g9, ga, gb, gc, gd, ge, gf]) rfl) e1 e2 rfl ?_; clear hS; intro a hS
    refine r_move hS trivial rfl rfl ?_; clear hS; intro a hS
    refine r_extract hS trivial rfl rfl rfl ?_; clear hS; intro a hS
    refine r_extract hS trivial rfl rfl rfl ?_; clear hS; intro a hS
    refine r_assign hS trivial rfl rfl ?_; clear hS; intro a hS
    refine r_assign hS trivial rfl rfl ?_; clear hS; intro a hS
    refine Sq.nil ?_
    refine then_n ?_
    refine c_seq ?_
    refine reg_plain w0 (Nobody) ?_
    refine r_move hS hH.kp0 rfl rfl ?_; clear hS; intro a hS
    rcases th with _ | _
    · rcases hcase with ⟨h, _⟩ | ⟨_, _, hno⟩
      · cases h
      refine r_move hS hH.kp0 rfl rfl ?_; clear hS; intro a hS
      refine Sq.guardNo hS rfl rfl rfl hH.kp0 rfl ?_; clear hS; intro a hS
      refine Sq.guardNo hS rfl rfl rfl hH.kp0 rfl ?_; clear hS; intro a hS
      refine Sq.guardNo hS rfl rfl rfl hH.kp0 rfl ?_; clear hS; intro a hS
      refine Sq.guardNo hS rfl rfl rfl hH.kp0 rfl ?_; clear hS; intro a hS
      refine Sq.guardNo hS rfl rfl rfl hH.kp0 rfl ?_; clear hS; intro a hS
      refine Sq.guardNo hS rfl rfl rfl hH.kp0 rfl ?_; clear hS; intro a hS
      refine Sq.guardNo hS rfl rfl rfl hH.kp0 rfl ?_; clear hS; intro a hS
      refine Sq.guardNo hS rfl rfl rfl hH.kp0 rfl ?_; clear hS; intro a hS
      refine r_pickF hS hH.kp0 rfl rfl rfl rfl ?_; clear hS; intro a hS
      refine r_move hS hH.kp0 rfl rfl ?_; clear hS; intro a hS
      refine Sq.guardYes hS rfl rfl rfl ?_
      refine r_move hS hH.kp0 rfl rfl ?_; clear hS; intro a hS
      refine Sq.guardYes hS rfl rfl rfl ?_
      refine r_not hS hH.kp0 rfl rfl ?_; clear hS; intro a hS
      refine Sq.guardYes hS rfl rfl rfl ?_
      refine r_move hS hH.kp0 rfl rfl ?_; clear hS; intro a hS
      refine Sq.guardYes hS rfl rfl rfl ?_
      refine r_load_row hS hH (by repeat (first | exact Sub.nil | refine Sub.cons ?_ ?_ | exact In.here | refine In.there ?_)) rfl (by repeat (first | exact In.here | refine In.there ?_)) Fc.ag26 (by rfl) rfl ?_; clear hS; intro a hS
      refine Sq.guardYes hS rfl rfl rfl ?_
      refine r_call (l := [.tmp 55]) hS rfl rfl Fc.fn27 rfl ?_
      refine Calls.mono (isName_c [g0, g1, g2, g3, g4, g5, g6, g7, g8, g9, ga, gb, gc, gd, ge, gf] rfl _) ?_
      rintro e w1 ⟨r0, rfl, hr0, hE⟩
      replace hH := hH.ext hE
      refine ⟨_, rfl, hH.kp0, ?_⟩
      clear hS; intro a hS
      refine Sq.guardYes hS rfl rfl rfl ?_
      refine r_pickT hS hH.kp0 rfl rfl rfl rfl ?_; clear hS; intro a hS
      refine r_pickF hS hH.kp0 rfl rfl rfl rfl ?_; clear hS; intro a hS
      refine Sq.nil ?_
      refine then_n ?_
      refine c_cond hS rfl (fun hc2 => ?_) (fun hc2 => ?_)
      · have hR : HidR7 ts K l true := HidR7.mk1 (i := i) (by omega) (fun h => by rcases h with ⟨j, hj, e, _⟩ | ⟨_, e⟩; exact hno j hj (hg.trans e); rw [← hg, ← hr0, hc2] at e; cases e)
        refine c_seq ?_
        refine reg_plain w0 (Nobody) ?_
        refine r_assign hS hH.kp0 rfl rfl ?_; clear hS; intro a hS
        refine Sq.nil ?_
        refine then_n ?_
        refine wp_ret ?_
        refine blk_r ?_
        refine then_r ?_
        refine then_r ?_
        refine blk_r ?_
        refine then_r ?_
        refine leave (.inl rfl) hS rfl (Res.tmp rfl Res.nil) ⟨_, K, rfl, hKN, ?_, hH.mod⟩
        first | exact hR | exact HidR7.mk0 hB (by omega)
      · have hnx : Good7 ts K ((l.drop i).take 16) := .inr ⟨fun j hj e => hno j hj (hg.trans e), by rw [← hg, ← hr0]; exact hc2⟩
        refine wp_skip ?_
        refine blk_n ?_
        refine then_n ?_
        refine reg_plain w0 (Nobody) ?_
        refine r_move hS hH.kp0 rfl rfl ?_; clear hS; intro a hS
        (first | refine r_add hS hH.kp0 rfl rfl rfl (by omega) ?_ | refine r_addw hS hH.kp0 rfl rfl rfl ?_)
        clear hS; intro a hS
        refine r_assign hS hH.kp0 rfl rfl ?_; clear hS; intro a hS
        refine Sq.nil ?_
        refine then_n ?_
        refine ⟨m - 1, by omega, i + 1, _, by omega, by omega, hB.next ?_, hS.live ⟨rfl, rfl, rfl, rfl, trivial⟩, hH.drop [0]⟩
        exact hnx
    · rcases hcase.symm with ⟨h, _⟩ | ⟨_, j, hj, hn0, hgj⟩
      · cases h
      subst hn0
      obtain ⟨kj, hkj⟩ : ∃ k, K[j]? = some k := ⟨_, List.getElem?_eq_getElem (by rw [hKN.len]; exact hj)⟩
      refine r_move hS hH.kp0 rfl rfl ?_; clear hS; intro a hS
      refine Sq.guardYes hS rfl rfl rfl ?_
      refine r_move hS hH.kp0 rfl rfl ?_; clear hS; intro a hS
      refine Sq.guardYes hS rfl rfl rfl ?_
      refine r_nilCheck hS hH.kp0 rfl rfl ?_; clear hS; intro a hS
      refine Sq.guardYes hS rfl rfl rfl ?_
      refine r_fieldAddr hS hH.kp0 rfl Fc.fo71_1 rfl ?_; clear hS; intro a hS
      refine Sq.guardYes hS rfl rfl rfl ?_
      refine r_load_sc hS hH (by repeat (first | exact Sub.nil | refine Sub.cons ?_ ?_ | exact In.here | refine In.there ?_)) rfl (by repeat (first | exact In.here | refine In.there ?_)) Fc.sc69 (by rfl) rfl ?_; clear hS; intro a hS
      refine Sq.guardYes hS rfl rfl rfl ?_
      refine r_move hS hH.kp0 rfl rfl ?_; clear hS; intro a hS
      refine Sq.guardYes hS rfl rfl rfl ?_
      refine r_indexAddrS (j := j) hS hH.kp0 rfl rfl Fc.slb69 rfl hj rfl ?_; clear hS; intro a hS
      refine Sq.guardYes hS rfl rfl rfl ?_
      refine r_load_sc hS hH (by repeat (first | exact Sub.nil | refine Sub.cons ?_ ?_ | exact In.here | refine In.there ?_)) rfl (by repeat (first | exact In.here | refine In.there ?_)) Fc.sc4 (v := .bool kj) (by rw [nthV_eq, Nat.zero_add, Nat.mul_one]; exact bools_get hkj) rfl ?_; clear hS; intro a hS
      rcases kj with _ | _
      · have hR : HidR7 ts K l true := HidR7.mk1 (i := i) (by omega) (fun h => by rcases h with ⟨j2, hj2, e, hk2⟩ | ⟨hn2, _⟩; (have e3 : j2 = j := nm_inj (by omega) (by omega) ((hg.trans e).symm.trans hgj); subst e3; unfold KT at hk2; rw [hkj] at hk2; cases hk2); exact hn2 j hj (hg.symm.trans hgj))
        refine Sq.guardYes hS rfl rfl rfl ?_
        refine r_not hS hH.kp0 rfl rfl ?_; clear hS; intro a hS
        refine r_pickT hS hH.kp0 rfl rfl rfl rfl ?_; clear hS; intro a hS
        refine r_move hS hH.kp0 rfl rfl ?_; clear hS; intro a hS
        refine Sq.guardNo hS rfl rfl rfl hH.kp0 rfl ?_; clear hS; intro a hS
        refine Sq.guardNo hS rfl rfl rfl hH.kp0 rfl ?_; clear hS; intro a hS
        refine Sq.guardNo hS rfl rfl rfl hH.kp0 rfl ?_; clear hS; intro a hS
        refine Sq.guardOff hS rfl rfl hH.kp0 rfl ?_; clear hS; intro a hS
        refine Sq.guardOff hS rfl rfl hH.kp0 rfl ?_; clear hS; intro a hS
        refine Sq.guardNo hS rfl rfl rfl hH.kp0 rfl ?_; clear hS; intro a hS
        refine r_pickT hS hH.kp0 rfl rfl rfl rfl ?_; clear hS; intro a hS
        refine Sq.nil ?_
        refine then_n ?_
        refine c_condT hS rfl rfl ?_
        refine c_seq ?_
        refine reg_plain w0 (Nobody) ?_
        refine r_assign hS hH.kp0 rfl rfl ?_; clear hS; intro a hS
        refine Sq.nil ?_
        refine then_n ?_
        refine wp_ret ?_
        refine blk_r ?_
        refine then_r ?_
        refine then_r ?_
        refine blk_r ?_
        refine then_r ?_
        refine leave (.inl rfl) hS rfl (Res.tmp rfl Res.nil) ⟨_, K, rfl, hKN, ?_, hH.mod⟩
        first | exact hR | exact HidR7.mk0 hB (by omega)
      · have hnx : Good7 ts K ((l.drop i).take 16) := .inl ⟨j, hj, hg.symm.trans hgj, hkj⟩
        refine Sq.guardYes hS rfl rfl rfl ?_
        refine r_not hS hH.kp0 rfl rfl ?_; clear hS; intro a hS
        refine r_pickT hS hH.kp0 rfl rfl rfl rfl ?_; clear hS; intro a hS
        refine r_move hS hH.kp0 rfl rfl ?_; clear hS; intro a hS
        refine Sq.guardYes hS rfl rfl rfl ?_
        refine r_move hS hH.kp0 rfl rfl ?_; clear hS; intro a hS
        refine Sq.guardYes hS rfl rfl rfl ?_
        refine r_not hS hH.kp0 rfl rfl ?_; clear hS; intro a hS
        refine Sq.guardYes hS rfl rfl rfl ?_
        refine r_move hS hH.kp0 rfl rfl ?_; clear hS; intro a hS
        refine Sq.guardNo hS rfl rfl rfl hH.kp0 rfl ?_; clear hS; intro a hS
        refine Sq.guardNo hS rfl rfl rfl hH.kp0 rfl ?_; clear hS; intro a hS
        refine Sq.guardYes hS rfl rfl rfl ?_
        refine r_pickF hS hH.kp0 rfl rfl rfl rfl ?_; clear hS; intro a hS
        refine r_pickF hS hH.kp0 rfl rfl rfl rfl ?_; clear hS; intro a hS
        refine Sq.nil ?_
        refine then_n ?_
        refine c_condF hS rfl rfl ?_
        refine wp_skip ?_
        refine blk_n ?_
        refine then_n ?_
        refine reg_plain w0 (Nobody) ?_
        refine r_move hS hH.kp0 rfl rfl ?_; clear hS; intro a hS
        (first | refine r_add hS hH.kp0 rfl rfl rfl (by omega) ?_ | refine r_addw hS hH.kp0 rfl rfl rfl ?_)
        clear hS; intro a hS
        refine r_assign hS hH.kp0 rfl rfl ?_; clear hS; intro a hS
        refine Sq.nil ?_
        refine then_n ?_
        refine ⟨m - 1, by omega, i + 1, _, by omega, by omega, hB.next ?_, hS.live ⟨rfl, rfl, rfl, rfl, trivial⟩, hH.drop [0]⟩
        exact hnx
  · have hge := of_decide_eq_false hc1
    refine wp_exit ?_
    refine then_e ?_
    refine then_e ?_
    refine blk_hit ?_
    refine then_n ?_
    refine c_seq ?_
    refine reg_plain w0 (Nobody) ?_
    refine r_assign hS hH.kp0 rfl rfl ?_; clear hS; intro a hS
    refine Sq.nil ?_
    refine then_n ?_
    refine wp_ret ?_
    refine leave (.inl rfl) hS rfl (Res.tmp rfl Res.nil) ⟨_, K, rfl, hKN, ?_, hH.mod⟩
    first | exact hR | exact HidR7.mk0 hB (by omega)

end Go.Proofs.YtcjmehononbadaaDoor
