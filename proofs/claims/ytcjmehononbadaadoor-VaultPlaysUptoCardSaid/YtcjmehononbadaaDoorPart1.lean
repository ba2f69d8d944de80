/- Two vaults under any calls answer alike. Part Part1: walks and lemmas of the proof. -/
import Derived.Test.YtcjmehononbadaaDoorChecked
import Derived.Test.YtcjmehononbadaaDoorSym3
import Derived.Test.YtcjmehononbadaaDoorSym4
namespace Go.Proofs.YtcjmehononbadaaDoor
open Go.Sym
theorem Fc.laid : laidOutB Tryd.prog = true:=by kernel_rfl
theorem Fc.mixed : Tryd.prog.follows .mixedOrders = true:=by kernel_rfl
theorem Fc.arrH : ByteArr Tryd.prog 26 16:=byteArr_mk Fc.laid (of_decide_eq_true (by kernel_rfl)) (by kernel_rfl) (by kernel_rfl) (by kernel_rfl) (by kernel_rfl) (by kernel_rfl)
theorem Fc.tm : TmTy Tryd.prog 64:=tmTy_mk Fc.laid (of_decide_eq_true (by kernel_rfl)) (by kernel_rfl) (by kernel_rfl) (by kernel_rfl) (by kernel_rfl) (by kernel_rfl)
theorem Fc.mtF : MapTy Tryd.prog 38 64 3 (.int .i64 0):=mapTy_mk (by kernel_rfl) (by kernel_rfl) Fc.tm.law
theorem Fc.mtN : MapTy Tryd.prog 39 26 3 (.int .i64 0):=mapTy_mk (by kernel_rfl) (by kernel_rfl) Fc.arrH.law
abbrev VI (w : World) (b : Nat) (V : VB) (ts : List Tm) : Prop:=VIn Tryd.prog 41 64 26 w b V ts
theorem Fc.ag26 : agB Tryd.prog 26 = some 16:=by kernel_rfl
theorem Fc.ar26 : arrB Tryd.prog 26 = some (16,1):=by kernel_rfl
theorem Fc.fn59 : isFn Tryd.prog 59 = true:=by kernel_rfl
theorem Fc.sz26 : sizeB Tryd.prog 26 16 = true:=by kernel_rfl
theorem Fc.sz5 : sizeB Tryd.prog 5 1 = true:=by kernel_rfl
theorem Fc.ui5 : Tryd.prog.underlying 5 = some (.int .u8):=by kernel_rfl
theorem Fc.ui81 : Tryd.prog.underlying 81 = some (.int .u64):=by kernel_rfl
theorem Fc.us3 : (Tryd.prog.underlying 3).isSome = true:=by kernel_rfl
theorem Fc.us81 : (Tryd.prog.underlying 81).isSome = true:=by kernel_rfl
theorem Fc.zc26 : zcB Tryd.prog 26 = some [.int .u8 0,.int .u8 0,.int .u8 0,.int .u8 0,.int .u8 0,.int .u8 0,.int .u8 0,.int .u8 0,.int .u8 0,.int .u8 0,.int .u8 0,.int .u8 0,.int .u8 0,.int .u8 0,.int .u8 0,.int .u8 0]:=by kernel_rfl
set_option maxRecDepth 100000 in
set_option maxHeartbeats 400000 in
theorem mix_c (x : Nat) (w0 : World) : Calls Tryd.prog 59 #[.int .u64 (x : Int)] w0 fun e w' => e = .returned (.int .u64 (mixN x : Int))∧Ext w0 w':=by
  refine enter Tryd.func59 rfl rfl rfl ?_
  intro a hS
  have hH:=Hp.start w0 (Nobody)
  refine c_seq (reg_plain w0 (Nobody) ?_)
  refine r_assign hS hH.kp0 rfl rfl ?_; clear hS; intro a hS
  refine Sq.nil (then_n (c_seq (reg_plain w0 (Nobody) ?_)))
  refine r_move hS hH.kp0 rfl rfl (x_addN (m:=x) (m':=1) ((x + 1) % 18446744073709551616) hH.kp0 rfl rfl rfl rfl ?_); clear hS; intro a hS
  obtain ⟨z1,hz1⟩ : ∃ z,((x + 1) % 18446744073709551616 * 11400714819323198485) % 18446744073709551616 = z:=⟨_,rfl⟩
  refine r_mulN (m:=(x + 1) % 18446744073709551616) (m':=11400714819323198485) z1 hS hH.kp0 rfl rfl rfl hz1 (x_assign hH.kp0 rfl rfl ?_); clear hS; intro a hS
  refine Sq.nil (then_n (c_seq (reg_plain w0 (Nobody) ?_)))
  refine r_move hS hH.kp0 rfl rfl (x_move hH.kp0 rfl rfl (x_shrN (m:=z1) 30 (z1 >>> 30) hH.kp0 rfl rfl rfl rfl (by decide) rfl ?_)); clear hS; intro a hS
  refine r_xorN (m:=z1) (m':=z1 >>> 30) (z1 ^^^ z1 >>> 30) hS hH.kp0 rfl rfl rfl (by subst hz1; exact Nat.mod_lt _ (by decide)) (Nat.lt_of_le_of_lt (Nat.shiftRight_le _ _) (by subst hz1; exact Nat.mod_lt _ (by decide))) rfl ?_; clear hS; intro a hS
  obtain ⟨z2,hz2⟩ : ∃ z,((z1 ^^^ z1 >>> 30) * 13787848793156543929) % 18446744073709551616 = z:=⟨_,rfl⟩
  refine r_mulN (m:=z1 ^^^ z1 >>> 30) (m':=13787848793156543929) z2 hS hH.kp0 rfl rfl rfl hz2 (x_assign hH.kp0 rfl rfl ?_); clear hS; intro a hS
  refine Sq.nil (then_n (c_seq (reg_plain w0 (Nobody) ?_)))
  refine r_move hS hH.kp0 rfl rfl (x_move hH.kp0 rfl rfl (x_shrN (m:=z2) 27 (z2 >>> 27) hH.kp0 rfl rfl rfl rfl (by decide) rfl ?_)); clear hS; intro a hS
  refine r_xorN (m:=z2) (m':=z2 >>> 27) (z2 ^^^ z2 >>> 27) hS hH.kp0 rfl rfl rfl (by subst hz2; exact Nat.mod_lt _ (by decide)) (Nat.lt_of_le_of_lt (Nat.shiftRight_le _ _) (by subst hz2; exact Nat.mod_lt _ (by decide))) rfl ?_; clear hS; intro a hS
  obtain ⟨z3,hz3⟩ : ∃ z,((z2 ^^^ z2 >>> 27) * 10723151780598845931) % 18446744073709551616 = z:=⟨_,rfl⟩
  refine r_mulN (m:=z2 ^^^ z2 >>> 27) (m':=10723151780598845931) z3 hS hH.kp0 rfl rfl rfl hz3 (x_assign hH.kp0 rfl rfl ?_); clear hS; intro a hS
  refine Sq.nil (then_n (c_seq (reg_plain w0 (Nobody) ?_)))
  refine r_move hS hH.kp0 rfl rfl (x_move hH.kp0 rfl rfl (x_shrN (m:=z3) 31 (z3 >>> 31) hH.kp0 rfl rfl rfl rfl (by decide) rfl ?_)); clear hS; intro a hS
  refine r_xorN (m:=z3) (m':=z3 >>> 31) (z3 ^^^ z3 >>> 31) hS hH.kp0 rfl rfl rfl (by subst hz3; exact Nat.mod_lt _ (by decide)) (Nat.lt_of_le_of_lt (Nat.shiftRight_le _ _) (by subst hz3; exact Nat.mod_lt _ (by decide))) rfl ?_; clear hS; intro a hS
  refine r_assign hS hH.kp0 rfl rfl ?_; clear hS; intro a hS
  refine Sq.nil (then_n (wp_ret ?_))
  subst hz3 hz2 hz1
  exact leave (.inl rfl) hS rfl (Res.tmp rfl Res.nil) ⟨rfl,hH.mod⟩

set_option maxRecDepth 100000 in
set_option maxHeartbeats 2000000 in
theorem name_c (n : Nat) (hn : n≤1000000000000) (w0 : World) : Calls Tryd.prog 30 #[.int .i64 (n : Int)] w0 fun e w' => ∃ h,e = .returned (hnd h)∧h = nm n∧Ext w0 w':=by
  refine enter Tryd.func30 rfl rfl rfl ?_
  intro a hS
  have hH:=Hp.start w0 (Nobody)
  refine c_seq (reg_plain w0 (Nobody) ?_)
  refine r_alloc hS hH (by repeat' constructor) Fc.zc26 rfl ?_
  clear hS hH; intro a w b2 hb2 hwb2 hS hH
  refine Sq.nil (then_n (c_seq (c_seq (reg_plain w0 (Nobody) ?_))))
  refine r_move hS hH.kp0 rfl rfl ?_; clear hS; intro a hS
  refine Sq.nil (then_n (wp_block ?_))
  refine wp_loop_rounds 3 ?_
  refine rnd ?_
  refine c_seq (reg_plain w0 (Nobody) ?_)
  refine r_lss hS hH.kp0 rfl rfl rfl ?_; clear hS; intro a hS
  refine Sq.nil (then_n (c_seq (c_condT hS rfl rfl (wp_skip (then_n (c_seq (wp_block (c_seq (reg_plain w0 (Nobody) ?_)))))))))
  refine r_move hS hH.kp0 rfl rfl (x_assign hH.kp0 rfl rfl ?_); clear hS; intro a hS
  refine Sq.nil (then_n (c_seq (reg_plain w0 (Nobody) ?_)))
  refine r_move hS hH.kp0 rfl rfl (x_mul hH.kp0 rfl rfl rfl (by omega) (x_move hH.kp0 rfl rfl (x_add hH.kp0 rfl rfl rfl (by omega) (x_toU64 (2 * n + 0) hH.kp0 rfl Fc.ui81 Fc.us3 rfl (by omega) (by omega) ?_)))); clear hS; intro a hS
  refine r_call (l:=[.tmp 13]) hS rfl rfl Fc.fn59 rfl ?_
  refine Calls.mono (mix_c _ _) ?_
  rintro e w1 ⟨rfl,hE⟩
  replace hH:=hH.ext hE
  refine ⟨_,rfl,hH.kp0,?_⟩
  clear hS; intro a hS
  refine r_assign hS hH.kp0 rfl rfl ?_; clear hS; intro a hS
  refine Sq.nil (then_n (c_seq (reg_plain w0 (Nobody) ?_)))
  refine r_move hS hH.kp0 rfl rfl ?_; clear hS; intro a hS
  refine Sq.nil (then_n (wp_block ?_))
  refine wp_loop_rounds 9 ?_
  refine rnd ?_
  refine c_seq (reg_plain w0 (Nobody) ?_)
  refine r_lss hS hH.kp0 rfl rfl rfl ?_; clear hS; intro a hS
  refine Sq.nil (then_n (c_seq (c_condT hS rfl rfl (wp_skip (then_n (c_seq (wp_block (c_seq (reg_plain w0 (Nobody) ?_)))))))))
  refine r_move hS hH.kp0 rfl rfl (x_assign hH.kp0 rfl rfl ?_); clear hS; intro a hS
  refine Sq.nil (then_n (reg_plain w0 (Nobody) ?_))
  refine r_move hS hH.kp0 rfl rfl (x_mul hH.kp0 rfl rfl rfl (by omega) (x_move hH.kp0 rfl rfl (x_add hH.kp0 rfl rfl rfl (by omega) (x_move hH.kp0 rfl rfl (x_move hH.kp0 rfl rfl (x_mul hH.kp0 rfl rfl rfl (by omega) (x_sub hH.kp0 rfl rfl rfl (by omega) (x_shrN (m:=mixN (2 * n + 0)) 56 (mixN (2 * n + 0) >>> 56) hH.kp0 rfl rfl rfl (by omega) (by decide) rfl (x_toU8 (q:=mixN (2 * n + 0) >>> 56) (nmB n 0) hH.kp0 rfl Fc.ui5 Fc.us81 rfl rfl (x_indexAddrA (j:=0) hH.kp0 rfl rfl Fc.ar26 (by omega) (by decide) rfl ?_)))))))))); clear hS; intro a hS
  refine r_store1 hS hH rfl rfl rfl (by repeat' constructor) (by repeat' constructor) Fc.sz5 (of_decide_eq_true rfl) (.inr hb2) ?_
  clear hH; intro w hH
  replace hH : Hp w0 Nobody [(b2,.cells ([byteV (nmB n 0),.int .u8 0,.int .u8 0,.int .u8 0,.int .u8 0,.int .u8 0,.int .u8 0,.int .u8 0,.int .u8 0,.int .u8 0,.int .u8 0,.int .u8 0,.int .u8 0,.int .u8 0,.int .u8 0,.int .u8 0] : List Value).toArray 26 (0,0))] w:=hH
  refine Sq.nil (blk_n (then_n (reg_plain w0 (Nobody) ?_)))
  refine r_add hS hH.kp0 rfl rfl rfl (by omega) (x_move hH.kp0 rfl rfl ?_); clear hS; intro a hS
  refine Sq.nil (then_n ?_)
  refine rnd ?_
  refine c_seq (reg_plain w0 (Nobody) ?_)
  refine r_lss hS hH.kp0 rfl rfl rfl ?_; clear hS; intro a hS
  refine Sq.nil (then_n (c_seq (c_condT hS rfl rfl (wp_skip (then_n (c_seq (wp_block (c_seq (reg_plain w0 (Nobody) ?_)))))))))
  refine r_move hS hH.kp0 rfl rfl (x_assign hH.kp0 rfl rfl ?_); clear hS; intro a hS
  refine Sq.nil (then_n (reg_plain w0 (Nobody) ?_))
  refine r_move hS hH.kp0 rfl rfl (x_mul hH.kp0 rfl rfl rfl (by omega) (x_move hH.kp0 rfl rfl (x_add hH.kp0 rfl rfl rfl (by omega) (x_move hH.kp0 rfl rfl (x_move hH.kp0 rfl rfl (x_mul hH.kp0 rfl rfl rfl (by omega) (x_sub hH.kp0 rfl rfl rfl (by omega) (x_shrN (m:=mixN (2 * n + 0)) 48 (mixN (2 * n + 0) >>> 48) hH.kp0 rfl rfl rfl (by omega) (by decide) rfl (x_toU8 (q:=mixN (2 * n + 0) >>> 48) (nmB n 1) hH.kp0 rfl Fc.ui5 Fc.us81 rfl rfl (x_indexAddrA (j:=1) hH.kp0 rfl rfl Fc.ar26 (by omega) (by decide) rfl ?_)))))))))); clear hS; intro a hS
  refine r_store1 hS hH rfl rfl rfl (by repeat' constructor) (by repeat' constructor) Fc.sz5 (of_decide_eq_true rfl) (.inr hb2) ?_
  clear hH; intro w hH
  replace hH : Hp w0 Nobody [(b2,.cells ([byteV (nmB n 0),byteV (nmB n 1),.int .u8 0,.int .u8 0,.int .u8 0,.int .u8 0,.int .u8 0,.int .u8 0,.int .u8 0,.int .u8 0,.int .u8 0,.int .u8 0,.int .u8 0,.int .u8 0,.int .u8 0,.int .u8 0] : List Value).toArray 26 (0,0))] w:=hH
  refine Sq.nil (blk_n (then_n (reg_plain w0 (Nobody) ?_)))
  refine r_add hS hH.kp0 rfl rfl rfl (by omega) (x_move hH.kp0 rfl rfl ?_); clear hS; intro a hS
  refine Sq.nil (then_n ?_)
  refine rnd ?_
  refine c_seq (reg_plain w0 (Nobody) ?_)
  refine r_lss hS hH.kp0 rfl rfl rfl ?_; clear hS; intro a hS
  refine Sq.nil (then_n (c_seq (c_condT hS rfl rfl (wp_skip (then_n (c_seq (wp_block (c_seq (reg_plain w0 (Nobody) ?_)))))))))
  refine r_move hS hH.kp0 rfl rfl (x_assign hH.kp0 rfl rfl ?_); clear hS; intro a hS
  refine Sq.nil (then_n (reg_plain w0 (Nobody) ?_))
  refine r_move hS hH.kp0 rfl rfl (x_mul hH.kp0 rfl rfl rfl (by omega) (x_move hH.kp0 rfl rfl (x_add hH.kp0 rfl rfl rfl (by omega) (x_move hH.kp0 rfl rfl (x_move hH.kp0 rfl rfl (x_mul hH.kp0 rfl rfl rfl (by omega) (x_sub hH.kp0 rfl rfl rfl (by omega) (x_shrN (m:=mixN (2 * n + 0)) 40 (mixN (2 * n + 0) >>> 40) hH.kp0 rfl rfl rfl (by omega) (by decide) rfl (x_toU8 (q:=mixN (2 * n + 0) >>> 40) (nmB n 2) hH.kp0 rfl Fc.ui5 Fc.us81 rfl rfl (x_indexAddrA (j:=2) hH.kp0 rfl rfl Fc.ar26 (by omega) (by decide) rfl ?_)))))))))); clear hS; intro a hS
  refine r_store1 hS hH rfl rfl rfl (by repeat' constructor) (by repeat' constructor) Fc.sz5 (of_decide_eq_true rfl) (.inr hb2) ?_
  clear hH; intro w hH
  replace hH : Hp w0 Nobody [(b2,.cells ([byteV (nmB n 0),byteV (nmB n 1),byteV (nmB n 2),.int .u8 0,.int .u8 0,.int .u8 0,.int .u8 0,.int .u8 0,.int .u8 0,.int .u8 0,.int .u8 0,.int .u8 0,.int .u8 0,.int .u8 0,.int .u8 0,.int .u8 0] : List Value).toArray 26 (0,0))] w:=hH
  refine Sq.nil (blk_n (then_n (reg_plain w0 (Nobody) ?_)))
  refine r_add hS hH.kp0 rfl rfl rfl (by omega) (x_move hH.kp0 rfl rfl ?_); clear hS; intro a hS
  refine Sq.nil (then_n ?_)
  refine rnd ?_
  refine c_seq (reg_plain w0 (Nobody) ?_)
  refine r_lss hS hH.kp0 rfl rfl rfl ?_; clear hS; intro a hS
  refine Sq.nil (then_n (c_seq (c_condT hS rfl rfl (wp_skip (then_n (c_seq (wp_block (c_seq (reg_plain w0 (Nobody) ?_)))))))))
  refine r_move hS hH.kp0 rfl rfl (x_assign hH.kp0 rfl rfl ?_); clear hS; intro a hS
  refine Sq.nil (then_n (reg_plain w0 (Nobody) ?_))
  refine r_move hS hH.kp0 rfl rfl (x_mul hH.kp0 rfl rfl rfl (by omega) (x_move hH.kp0 rfl rfl (x_add hH.kp0 rfl rfl rfl (by omega) (x_move hH.kp0 rfl rfl (x_move hH.kp0 rfl rfl (x_mul hH.kp0 rfl rfl rfl (by omega) (x_sub hH.kp0 rfl rfl rfl (by omega) (x_shrN (m:=mixN (2 * n + 0)) 32 (mixN (2 * n + 0) >>> 32) hH.kp0 rfl rfl rfl (by omega) (by decide) rfl (x_toU8 (q:=mixN (2 * n + 0) >>> 32) (nmB n 3) hH.kp0 rfl Fc.ui5 Fc.us81 rfl rfl (x_indexAddrA (j:=3) hH.kp0 rfl rfl Fc.ar26 (by omega) (by decide) rfl ?_)))))))))); clear hS; intro a hS
  refine r_store1 hS hH rfl rfl rfl (by repeat' constructor) (by repeat' constructor) Fc.sz5 (of_decide_eq_true rfl) (.inr hb2) ?_
  clear hH; intro w hH
  replace hH : Hp w0 Nobody [(b2,.cells ([byteV (nmB n 0),byteV (nmB n 1),byteV (nmB n 2),byteV (nmB n 3),.int .u8 0,.int .u8 0,.int .u8 0,.int .u8 0,.int .u8 0,.int .u8 0,.int .u8 0,.int .u8 0,.int .u8 0,.int .u8 0,.int .u8 0,.int .u8 0] : List Value).toArray 26 (0,0))] w:=hH
  refine Sq.nil (blk_n (then_n (reg_plain w0 (Nobody) ?_)))
  refine r_add hS hH.kp0 rfl rfl rfl (by omega) (x_move hH.kp0 rfl rfl ?_); clear hS; intro a hS
  refine Sq.nil (then_n ?_)
  refine rnd ?_
  refine c_seq (reg_plain w0 (Nobody) ?_)
  refine r_lss hS hH.kp0 rfl rfl rfl ?_; clear hS; intro a hS
  refine Sq.nil (then_n (c_seq (c_condT hS rfl rfl (wp_skip (then_n (c_seq (wp_block (c_seq (reg_plain w0 (Nobody) ?_)))))))))
  refine r_move hS hH.kp0 rfl rfl (x_assign hH.kp0 rfl rfl ?_); clear hS; intro a hS
  refine Sq.nil (then_n (reg_plain w0 (Nobody) ?_))
  refine r_move hS hH.kp0 rfl rfl (x_mul hH.kp0 rfl rfl rfl (by omega) (x_move hH.kp0 rfl rfl (x_add hH.kp0 rfl rfl rfl (by omega) (x_move hH.kp0 rfl rfl (x_move hH.kp0 rfl rfl (x_mul hH.kp0 rfl rfl rfl (by omega) (x_sub hH.kp0 rfl rfl rfl (by omega) (x_shrN (m:=mixN (2 * n + 0)) 24 (mixN (2 * n + 0) >>> 24) hH.kp0 rfl rfl rfl (by omega) (by decide) rfl (x_toU8 (q:=mixN (2 * n + 0) >>> 24) (nmB n 4) hH.kp0 rfl Fc.ui5 Fc.us81 rfl rfl (x_indexAddrA (j:=4) hH.kp0 rfl rfl Fc.ar26 (by omega) (by decide) rfl ?_)))))))))); clear hS; intro a hS
  refine r_store1 hS hH rfl rfl rfl (by repeat' constructor) (by repeat' constructor) Fc.sz5 (of_decide_eq_true rfl) (.inr hb2) ?_
  clear hH; intro w hH
  replace hH : Hp w0 Nobody [(b2,.cells ([byteV (nmB n 0),byteV (nmB n 1),byteV (nmB n 2),byteV (nmB n 3),byteV (nmB n 4),.int .u8 0,.int .u8 0,.int .u8 0,.int .u8 0,.int .u8 0,.int .u8 0,.int .u8 0,.int .u8 0,.int .u8 0,.int .u8 0,.int .u8 0] : List Value).toArray 26 (0,0))] w:=hH
  refine Sq.nil (blk_n (then_n (reg_plain w0 (Nobody) ?_)))
  refine r_add hS hH.kp0 rfl rfl rfl (by omega) (x_move hH.kp0 rfl rfl ?_); clear hS; intro a hS
  refine Sq.nil (then_n ?_)
  refine rnd ?_
  refine c_seq (reg_plain w0 (Nobody) ?_)
  refine r_lss hS hH.kp0 rfl rfl rfl ?_; clear hS; intro a hS
  refine Sq.nil (then_n (c_seq (c_condT hS rfl rfl (wp_skip (then_n (c_seq (wp_block (c_seq (reg_plain w0 (Nobody) ?_)))))))))
  refine r_move hS hH.kp0 rfl rfl (x_assign hH.kp0 rfl rfl ?_); clear hS; intro a hS
  refine Sq.nil (then_n (reg_plain w0 (Nobody) ?_))
  refine r_move hS hH.kp0 rfl rfl (x_mul hH.kp0 rfl rfl rfl (by omega) (x_move hH.kp0 rfl rfl (x_add hH.kp0 rfl rfl rfl (by omega) (x_move hH.kp0 rfl rfl (x_move hH.kp0 rfl rfl (x_mul hH.kp0 rfl rfl rfl (by omega) (x_sub hH.kp0 rfl rfl rfl (by omega) (x_shrN (m:=mixN (2 * n + 0)) 16 (mixN (2 * n + 0) >>> 16) hH.kp0 rfl rfl rfl (by omega) (by decide) rfl (x_toU8 (q:=mixN (2 * n + 0) >>> 16) (nmB n 5) hH.kp0 rfl Fc.ui5 Fc.us81 rfl rfl (x_indexAddrA (j:=5) hH.kp0 rfl rfl Fc.ar26 (by omega) (by decide) rfl ?_)))))))))); clear hS; intro a hS
  refine r_store1 hS hH rfl rfl rfl (by repeat' constructor) (by repeat' constructor) Fc.sz5 (of_decide_eq_true rfl) (.inr hb2) ?_
  clear hH; intro w hH
  replace hH : Hp w0 Nobody [(b2,.cells ([byteV (nmB n 0),byteV (nmB n 1),byteV (nmB n 2),byteV (nmB n 3),byteV (nmB n 4),byteV (nmB n 5),.int .u8 0,.int .u8 0,.int .u8 0,.int .u8 0,.int .u8 0,.int .u8 0,.int .u8 0,.int .u8 0,.int .u8 0,.int .u8 0] : List Value).toArray 26 (0,0))] w:=hH
  refine Sq.nil (blk_n (then_n (reg_plain w0 (Nobody) ?_)))
  refine r_add hS hH.kp0 rfl rfl rfl (by omega) (x_move hH.kp0 rfl rfl ?_); clear hS; intro a hS
  refine Sq.nil (then_n ?_)
  refine rnd ?_
  refine c_seq (reg_plain w0 (Nobody) ?_)
  refine r_lss hS hH.kp0 rfl rfl rfl ?_; clear hS; intro a hS
  refine Sq.nil (then_n (c_seq (c_condT hS rfl rfl (wp_skip (then_n (c_seq (wp_block (c_seq (reg_plain w0 (Nobody) ?_)))))))))
  refine r_move hS hH.kp0 rfl rfl (x_assign hH.kp0 rfl rfl ?_); clear hS; intro a hS
  refine Sq.nil (then_n (reg_plain w0 (Nobody) ?_))
  refine r_move hS hH.kp0 rfl rfl (x_mul hH.kp0 rfl rfl rfl (by omega) (x_move hH.kp0 rfl rfl (x_add hH.kp0 rfl rfl rfl (by omega) (x_move hH.kp0 rfl rfl (x_move hH.kp0 rfl rfl (x_mul hH.kp0 rfl rfl rfl (by omega) (x_sub hH.kp0 rfl rfl rfl (by omega) (x_shrN (m:=mixN (2 * n + 0)) 8 (mixN (2 * n + 0) >>> 8) hH.kp0 rfl rfl rfl (by omega) (by decide) rfl (x_toU8 (q:=mixN (2 * n + 0) >>> 8) (nmB n 6) hH.kp0 rfl Fc.ui5 Fc.us81 rfl rfl (x_indexAddrA (j:=6) hH.kp0 rfl rfl Fc.ar26 (by omega) (by decide) rfl ?_)))))))))); clear hS; intro a hS
  refine r_store1 hS hH rfl rfl rfl (by repeat' constructor) (by repeat' constructor) Fc.sz5 (of_decide_eq_true rfl) (.inr hb2) ?_
  clear hH; intro w hH
  replace hH : Hp w0 Nobody [(b2,.cells ([byteV (nmB n 0),byteV (nmB n 1),byteV (nmB n 2),byteV (nmB n 3),byteV (nmB n 4),byteV (nmB n 5),byteV (nmB n 6),.int .u8 0,.int .u8 0,.int .u8 0,.int .u8 0,.int .u8 0,.int .u8 0,.int .u8 0,.int .u8 0,.int .u8 0] : List Value).toArray 26 (0,0))] w:=hH
  refine Sq.nil (blk_n (then_n (reg_plain w0 (Nobody) ?_)))
  refine r_add hS hH.kp0 rfl rfl rfl (by omega) (x_move hH.kp0 rfl rfl ?_); clear hS; intro a hS
  refine Sq.nil (then_n ?_)
  refine rnd ?_
  refine c_seq (reg_plain w0 (Nobody) ?_)
  refine r_lss hS hH.kp0 rfl rfl rfl ?_; clear hS; intro a hS
  refine Sq.nil (then_n (c_seq (c_condT hS rfl rfl (wp_skip (then_n (c_seq (wp_block (c_seq (reg_plain w0 (Nobody) ?_)))))))))
  refine r_move hS hH.kp0 rfl rfl (x_assign hH.kp0 rfl rfl ?_); clear hS; intro a hS
  refine Sq.nil (then_n (reg_plain w0 (Nobody) ?_))
  refine r_move hS hH.kp0 rfl rfl (x_mul hH.kp0 rfl rfl rfl (by omega) (x_move hH.kp0 rfl rfl (x_add hH.kp0 rfl rfl rfl (by omega) (x_move hH.kp0 rfl rfl (x_move hH.kp0 rfl rfl (x_mul hH.kp0 rfl rfl rfl (by omega) (x_sub hH.kp0 rfl rfl rfl (by omega) (x_shrN (m:=mixN (2 * n + 0)) 0 (mixN (2 * n + 0) >>> 0) hH.kp0 rfl rfl rfl (by omega) (by decide) rfl (x_toU8 (q:=mixN (2 * n + 0) >>> 0) (nmB n 7) hH.kp0 rfl Fc.ui5 Fc.us81 rfl rfl (x_indexAddrA (j:=7) hH.kp0 rfl rfl Fc.ar26 (by omega) (by decide) rfl ?_)))))))))); clear hS; intro a hS
  refine r_store1 hS hH rfl rfl rfl (by repeat' constructor) (by repeat' constructor) Fc.sz5 (of_decide_eq_true rfl) (.inr hb2) ?_
  clear hH; intro w hH
  replace hH : Hp w0 Nobody [(b2,.cells ([byteV (nmB n 0),byteV (nmB n 1),byteV (nmB n 2),byteV (nmB n 3),byteV (nmB n 4),byteV (nmB n 5),byteV (nmB n 6),byteV (nmB n 7),.int .u8 0,.int .u8 0,.int .u8 0,.int .u8 0,.int .u8 0,.int .u8 0,.int .u8 0,.int .u8 0] : List Value).toArray 26 (0,0))] w:=hH
  refine Sq.nil (blk_n (then_n (reg_plain w0 (Nobody) ?_)))
  refine r_add hS hH.kp0 rfl rfl rfl (by omega) (x_move hH.kp0 rfl rfl ?_); clear hS; intro a hS
  refine Sq.nil (then_n ?_)
  refine rnd ?_
  refine c_seq (reg_plain w0 (Nobody) ?_)
  refine r_lss hS hH.kp0 rfl rfl rfl ?_; clear hS; intro a hS
  refine Sq.nil (then_n (c_seq (c_condF hS rfl rfl (wp_exit (then_e (then_e (blk_hit (blk_n (then_n (reg_plain w0 (Nobody) ?_))))))))))
  refine r_add hS hH.kp0 rfl rfl rfl (by omega) (x_move hH.kp0 rfl rfl ?_); clear hS; intro a hS
  refine Sq.nil (then_n ?_)
  refine rnd ?_
  refine c_seq (reg_plain w0 (Nobody) ?_)
  refine r_lss hS hH.kp0 rfl rfl rfl ?_; clear hS; intro a hS
  refine Sq.nil (then_n (c_seq (c_condT hS rfl rfl (wp_skip (then_n (c_seq (wp_block (c_seq (reg_plain w0 (Nobody) ?_)))))))))
  refine r_move hS hH.kp0 rfl rfl (x_assign hH.kp0 rfl rfl ?_); clear hS; intro a hS
  refine Sq.nil (then_n (c_seq (reg_plain w0 (Nobody) ?_)))
  refine r_move hS hH.kp0 rfl rfl (x_mul hH.kp0 rfl rfl rfl (by omega) (x_move hH.kp0 rfl rfl (x_add hH.kp0 rfl rfl rfl (by omega) (x_toU64 (2 * n + 1) hH.kp0 rfl Fc.ui81 Fc.us3 rfl (by omega) (by omega) ?_)))); clear hS; intro a hS
  refine r_call (l:=[.tmp 13]) hS rfl rfl Fc.fn59 rfl ?_
  refine Calls.mono (mix_c _ _) ?_
  rintro e w1 ⟨rfl,hE⟩
  replace hH:=hH.ext hE
  refine ⟨_,rfl,hH.kp0,?_⟩
  clear hS; intro a hS
  refine r_assign hS hH.kp0 rfl rfl ?_; clear hS; intro a hS
  refine Sq.nil (then_n (c_seq (reg_plain w0 (Nobody) ?_)))
  refine r_move hS hH.kp0 rfl rfl ?_; clear hS; intro a hS
  refine Sq.nil (then_n (wp_block ?_))
  refine wp_loop_rounds 9 ?_
  refine rnd ?_
  refine c_seq (reg_plain w0 (Nobody) ?_)
  refine r_lss hS hH.kp0 rfl rfl rfl ?_; clear hS; intro a hS
  refine Sq.nil (then_n (c_seq (c_condT hS rfl rfl (wp_skip (then_n (c_seq (wp_block (c_seq (reg_plain w0 (Nobody) ?_)))))))))
  refine r_move hS hH.kp0 rfl rfl (x_assign hH.kp0 rfl rfl ?_); clear hS; intro a hS
  refine Sq.nil (then_n (reg_plain w0 (Nobody) ?_))
  refine r_move hS hH.kp0 rfl rfl (x_mul hH.kp0 rfl rfl rfl (by omega) (x_move hH.kp0 rfl rfl (x_add hH.kp0 rfl rfl rfl (by omega) (x_move hH.kp0 rfl rfl (x_move hH.kp0 rfl rfl (x_mul hH.kp0 rfl rfl rfl (by omega) (x_sub hH.kp0 rfl rfl rfl (by omega) (x_shrN (m:=mixN (2 * n + 1)) 56 (mixN (2 * n + 1) >>> 56) hH.kp0 rfl rfl rfl (by omega) (by decide) rfl (x_toU8 (q:=mixN (2 * n + 1) >>> 56) (nmB n 8) hH.kp0 rfl Fc.ui5 Fc.us81 rfl rfl (x_indexAddrA (j:=8) hH.kp0 rfl rfl Fc.ar26 (by omega) (by decide) rfl ?_)))))))))); clear hS; intro a hS
  refine r_store1 hS hH rfl rfl rfl (by repeat' constructor) (by repeat' constructor) Fc.sz5 (of_decide_eq_true rfl) (.inr hb2) ?_
  clear hH; intro w hH
  replace hH : Hp w0 Nobody [(b2,.cells ([byteV (nmB n 0),byteV (nmB n 1),byteV (nmB n 2),byteV (nmB n 3),byteV (nmB n 4),byteV (nmB n 5),byteV (nmB n 6),byteV (nmB n 7),byteV (nmB n 8),.int .u8 0,.int .u8 0,.int .u8 0,.int .u8 0,.int .u8 0,.int .u8 0,.int .u8 0] : List Value).toArray 26 (0,0))] w:=hH
  refine Sq.nil (blk_n (then_n (reg_plain w0 (Nobody) ?_)))
  refine r_add hS hH.kp0 rfl rfl rfl (by omega) (x_move hH.kp0 rfl rfl ?_); clear hS; intro a hS
  refine Sq.nil (then_n ?_)
  refine rnd ?_
  refine c_seq (reg_plain w0 (Nobody) ?_)
  refine r_lss hS hH.kp0 rfl rfl rfl ?_; clear hS; intro a hS
  refine Sq.nil (then_n (c_seq (c_condT hS rfl rfl (wp_skip (then_n (c_seq (wp_block (c_seq (reg_plain w0 (Nobody) ?_)))))))))
  refine r_move hS hH.kp0 rfl rfl (x_assign hH.kp0 rfl rfl ?_); clear hS; intro a hS
  refine Sq.nil (then_n (reg_plain w0 (Nobody) ?_))
  refine r_move hS hH.kp0 rfl rfl (x_mul hH.kp0 rfl rfl rfl (by omega) (x_move hH.kp0 rfl rfl (x_add hH.kp0 rfl rfl rfl (by omega) (x_move hH.kp0 rfl rfl (x_move hH.kp0 rfl rfl (x_mul hH.kp0 rfl rfl rfl (by omega) (x_sub hH.kp0 rfl rfl rfl (by omega) (x_shrN (m:=mixN (2 * n + 1)) 48 (mixN (2 * n + 1) >>> 48) hH.kp0 rfl rfl rfl (by omega) (by decide) rfl (x_toU8 (q:=mixN (2 * n + 1) >>> 48) (nmB n 9) hH.kp0 rfl Fc.ui5 Fc.us81 rfl rfl (x_indexAddrA (j:=9) hH.kp0 rfl rfl Fc.ar26 (by omega) (by decide) rfl ?_)))))))))); clear hS; intro a hS
  refine r_store1 hS hH rfl rfl rfl (by repeat' constructor) (by repeat' constructor) Fc.sz5 (of_decide_eq_true rfl) (.inr hb2) ?_
  clear hH; intro w hH
  replace hH : Hp w0 Nobody [(b2,.cells ([byteV (nmB n 0),byteV (nmB n 1),byteV (nmB n 2),byteV (nmB n 3),byteV (nmB n 4),byteV (nmB n 5),byteV (nmB n 6),byteV (nmB n 7),byteV (nmB n 8),byteV (nmB n 9),.int .u8 0,.int .u8 0,.int .u8 0,.int .u8 0,.int .u8 0,.int .u8 0] : List Value).toArray 26 (0,0))] w:=hH
  refine Sq.nil (blk_n (then_n (reg_plain w0 (Nobody) ?_)))
  refine r_add hS hH.kp0 rfl rfl rfl (by omega) (x_move hH.kp0 rfl rfl ?_); clear hS; intro a hS
  refine Sq.nil (then_n ?_)
  refine rnd ?_
  refine c_seq (reg_plain w0 (Nobody) ?_)
  refine r_lss hS hH.kp0 rfl rfl rfl ?_; clear hS; intro a hS
  refine Sq.nil (then_n (c_seq (c_condT hS rfl rfl (wp_skip (then_n (c_seq (wp_block (c_seq (reg_plain w0 (Nobody) ?_)))))))))
  refine r_move hS hH.kp0 rfl rfl (x_assign hH.kp0 rfl rfl ?_); clear hS; intro a hS
  refine Sq.nil (then_n (reg_plain w0 (Nobody) ?_))
  refine r_move hS hH.kp0 rfl rfl (x_mul hH.kp0 rfl rfl rfl (by omega) (x_move hH.kp0 rfl rfl (x_add hH.kp0 rfl rfl rfl (by omega) (x_move hH.kp0 rfl rfl (x_move hH.kp0 rfl rfl (x_mul hH.kp0 rfl rfl rfl (by omega) (x_sub hH.kp0 rfl rfl rfl (by omega) (x_shrN (m:=mixN (2 * n + 1)) 40 (mixN (2 * n + 1) >>> 40) hH.kp0 rfl rfl rfl (by omega) (by decide) rfl (x_toU8 (q:=mixN (2 * n + 1) >>> 40) (nmB n 10) hH.kp0 rfl Fc.ui5 Fc.us81 rfl rfl (x_indexAddrA (j:=10) hH.kp0 rfl rfl Fc.ar26 (by omega) (by decide) rfl ?_)))))))))); clear hS; intro a hS
  refine r_store1 hS hH rfl rfl rfl (by repeat' constructor) (by repeat' constructor) Fc.sz5 (of_decide_eq_true rfl) (.inr hb2) ?_
  clear hH; intro w hH
  replace hH : Hp w0 Nobody [(b2,.cells ([byteV (nmB n 0),byteV (nmB n 1),byteV (nmB n 2),byteV (nmB n 3),byteV (nmB n 4),byteV (nmB n 5),byteV (nmB n 6),byteV (nmB n 7),byteV (nmB n 8),byteV (nmB n 9),byteV (nmB n 10),.int .u8 0,.int .u8 0,.int .u8 0,.int .u8 0,.int .u8 0] : List Value).toArray 26 (0,0))] w:=hH
  refine Sq.nil (blk_n (then_n (reg_plain w0 (Nobody) ?_)))
  refine r_add hS hH.kp0 rfl rfl rfl (by omega) (x_move hH.kp0 rfl rfl ?_); clear hS; intro a hS
  refine Sq.nil (then_n ?_)
  refine rnd ?_
  refine c_seq (reg_plain w0 (Nobody) ?_)
  refine r_lss hS hH.kp0 rfl rfl rfl ?_; clear hS; intro a hS
  refine Sq.nil (then_n (c_seq (c_condT hS rfl rfl (wp_skip (then_n (c_seq (wp_block (c_seq (reg_plain w0 (Nobody) ?_)))))))))
  refine r_move hS hH.kp0 rfl rfl (x_assign hH.kp0 rfl rfl ?_); clear hS; intro a hS
  refine Sq.nil (then_n (reg_plain w0 (Nobody) ?_))
  refine r_move hS hH.kp0 rfl rfl (x_mul hH.kp0 rfl rfl rfl (by omega) (x_move hH.kp0 rfl rfl (x_add hH.kp0 rfl rfl rfl (by omega) (x_move hH.kp0 rfl rfl (x_move hH.kp0 rfl rfl (x_mul hH.kp0 rfl rfl rfl (by omega) (x_sub hH.kp0 rfl rfl rfl (by omega) (x_shrN (m:=mixN (2 * n + 1)) 32 (mixN (2 * n + 1) >>> 32) hH.kp0 rfl rfl rfl (by omega) (by decide) rfl (x_toU8 (q:=mixN (2 * n + 1) >>> 32) (nmB n 11) hH.kp0 rfl Fc.ui5 Fc.us81 rfl rfl (x_indexAddrA (j:=11) hH.kp0 rfl rfl Fc.ar26 (by omega) (by decide) rfl ?_)))))))))); clear hS; intro a hS
  refine r_store1 hS hH rfl rfl rfl (by repeat' constructor) (by repeat' constructor) Fc.sz5 (of_decide_eq_true rfl) (.inr hb2) ?_
  clear hH; intro w hH
  replace hH : Hp w0 Nobody [(b2,.cells ([byteV (nmB n 0),byteV (nmB n 1),byteV (nmB n 2),byteV (nmB n 3),byteV (nmB n 4),byteV (nmB n 5),byteV (nmB n 6),byteV (nmB n 7),byteV (nmB n 8),byteV (nmB n 9),byteV (nmB n 10),byteV (nmB n 11),.int .u8 0,.int .u8 0,.int .u8 0,.int .u8 0] : List Value).toArray 26 (0,0))] w:=hH
  refine Sq.nil (blk_n (then_n (reg_plain w0 (Nobody) ?_)))
  refine r_add hS hH.kp0 rfl rfl rfl (by omega) (x_move hH.kp0 rfl rfl ?_); clear hS; intro a hS
  refine Sq.nil (then_n ?_)
  refine rnd ?_
  refine c_seq (reg_plain w0 (Nobody) ?_)
  refine r_lss hS hH.kp0 rfl rfl rfl ?_; clear hS; intro a hS
  refine Sq.nil (then_n (c_seq (c_condT hS rfl rfl (wp_skip (then_n (c_seq (wp_block (c_seq (reg_plain w0 (Nobody) ?_)))))))))
  refine r_move hS hH.kp0 rfl rfl (x_assign hH.kp0 rfl rfl ?_); clear hS; intro a hS
  refine Sq.nil (then_n (reg_plain w0 (Nobody) ?_))
  refine r_move hS hH.kp0 rfl rfl (x_mul hH.kp0 rfl rfl rfl (by omega) (x_move hH.kp0 rfl rfl (x_add hH.kp0 rfl rfl rfl (by omega) (x_move hH.kp0 rfl rfl (x_move hH.kp0 rfl rfl (x_mul hH.kp0 rfl rfl rfl (by omega) (x_sub hH.kp0 rfl rfl rfl (by omega) (x_shrN (m:=mixN (2 * n + 1)) 24 (mixN (2 * n + 1) >>> 24) hH.kp0 rfl rfl rfl (by omega) (by decide) rfl (x_toU8 (q:=mixN (2 * n + 1) >>> 24) (nmB n 12) hH.kp0 rfl Fc.ui5 Fc.us81 rfl rfl (x_indexAddrA (j:=12) hH.kp0 rfl rfl Fc.ar26 (by omega) (by decide) rfl ?_)))))))))); clear hS; intro a hS
  refine r_store1 hS hH rfl rfl rfl (by repeat' constructor) (by repeat' constructor) Fc.sz5 (of_decide_eq_true rfl) (.inr hb2) ?_
  clear hH; intro w hH
  replace hH : Hp w0 Nobody [(b2,.cells ([byteV (nmB n 0),byteV (nmB n 1),byteV (nmB n 2),byteV (nmB n 3),byteV (nmB n 4),byteV (nmB n 5),byteV (nmB n 6),byteV (nmB n 7),byteV (nmB n 8),byteV (nmB n 9),byteV (nmB n 10),byteV (nmB n 11),byteV (nmB n 12),.int .u8 0,.int .u8 0,.int .u8 0] : List Value).toArray 26 (0,0))] w:=hH
  refine Sq.nil (blk_n (then_n (reg_plain w0 (Nobody) ?_)))
  refine r_add hS hH.kp0 rfl rfl rfl (by omega) (x_move hH.kp0 rfl rfl ?_); clear hS; intro a hS
  refine Sq.nil (then_n ?_)
  refine rnd ?_
  refine c_seq (reg_plain w0 (Nobody) ?_)
  refine r_lss hS hH.kp0 rfl rfl rfl ?_; clear hS; intro a hS
  refine Sq.nil (then_n (c_seq (c_condT hS rfl rfl (wp_skip (then_n (c_seq (wp_block (c_seq (reg_plain w0 (Nobody) ?_)))))))))
  refine r_move hS hH.kp0 rfl rfl (x_assign hH.kp0 rfl rfl ?_); clear hS; intro a hS
  refine Sq.nil (then_n (reg_plain w0 (Nobody) ?_))
  refine r_move hS hH.kp0 rfl rfl (x_mul hH.kp0 rfl rfl rfl (by omega) (x_move hH.kp0 rfl rfl (x_add hH.kp0 rfl rfl rfl (by omega) (x_move hH.kp0 rfl rfl (x_move hH.kp0 rfl rfl (x_mul hH.kp0 rfl rfl rfl (by omega) (x_sub hH.kp0 rfl rfl rfl (by omega) (x_shrN (m:=mixN (2 * n + 1)) 16 (mixN (2 * n + 1) >>> 16) hH.kp0 rfl rfl rfl (by omega) (by decide) rfl (x_toU8 (q:=mixN (2 * n + 1) >>> 16) (nmB n 13) hH.kp0 rfl Fc.ui5 Fc.us81 rfl rfl (x_indexAddrA (j:=13) hH.kp0 rfl rfl Fc.ar26 (by omega) (by decide) rfl ?_)))))))))); clear hS; intro a hS
  refine r_store1 hS hH rfl rfl rfl (by repeat' constructor) (by repeat' constructor) Fc.sz5 (of_decide_eq_true rfl) (.inr hb2) ?_
  clear hH; intro w hH
  replace hH : Hp w0 Nobody [(b2,.cells ([byteV (nmB n 0),byteV (nmB n 1),byteV (nmB n 2),byteV (nmB n 3),byteV (nmB n 4),byteV (nmB n 5),byteV (nmB n 6),byteV (nmB n 7),byteV (nmB n 8),byteV (nmB n 9),byteV (nmB n 10),byteV (nmB n 11),byteV (nmB n 12),byteV (nmB n 13),.int .u8 0,.int .u8 0] : List Value).toArray 26 (0,0))] w:=hH
  refine Sq.nil (blk_n (then_n (reg_plain w0 (Nobody) ?_)))
  refine r_add hS hH.kp0 rfl rfl rfl (by omega) (x_move hH.kp0 rfl rfl ?_); clear hS; intro a hS
  refine Sq.nil (then_n ?_)
  refine rnd ?_
  refine c_seq (reg_plain w0 (Nobody) ?_)
  refine r_lss hS hH.kp0 rfl rfl rfl ?_; clear hS; intro a hS
  refine Sq.nil (then_n (c_seq (c_condT hS rfl rfl (wp_skip (then_n (c_seq (wp_block (c_seq (reg_plain w0 (Nobody) ?_)))))))))
  refine r_move hS hH.kp0 rfl rfl (x_assign hH.kp0 rfl rfl ?_); clear hS; intro a hS
  refine Sq.nil (then_n (reg_plain w0 (Nobody) ?_))
  refine r_move hS hH.kp0 rfl rfl (x_mul hH.kp0 rfl rfl rfl (by omega) (x_move hH.kp0 rfl rfl (x_add hH.kp0 rfl rfl rfl (by omega) (x_move hH.kp0 rfl rfl (x_move hH.kp0 rfl rfl (x_mul hH.kp0 rfl rfl rfl (by omega) (x_sub hH.kp0 rfl rfl rfl (by omega) (x_shrN (m:=mixN (2 * n + 1)) 8 (mixN (2 * n + 1) >>> 8) hH.kp0 rfl rfl rfl (by omega) (by decide) rfl (x_toU8 (q:=mixN (2 * n + 1) >>> 8) (nmB n 14) hH.kp0 rfl Fc.ui5 Fc.us81 rfl rfl (x_indexAddrA (j:=14) hH.kp0 rfl rfl Fc.ar26 (by omega) (by decide) rfl ?_)))))))))); clear hS; intro a hS
  refine r_store1 hS hH rfl rfl rfl (by repeat' constructor) (by repeat' constructor) Fc.sz5 (of_decide_eq_true rfl) (.inr hb2) ?_
  clear hH; intro w hH
  replace hH : Hp w0 Nobody [(b2,.cells ([byteV (nmB n 0),byteV (nmB n 1),byteV (nmB n 2),byteV (nmB n 3),byteV (nmB n 4),byteV (nmB n 5),byteV (nmB n 6),byteV (nmB n 7),byteV (nmB n 8),byteV (nmB n 9),byteV (nmB n 10),byteV (nmB n 11),byteV (nmB n 12),byteV (nmB n 13),byteV (nmB n 14),.int .u8 0] : List Value).toArray 26 (0,0))] w:=hH
  refine Sq.nil (blk_n (then_n (reg_plain w0 (Nobody) ?_)))
  refine r_add hS hH.kp0 rfl rfl rfl (by omega) (x_move hH.kp0 rfl rfl ?_); clear hS; intro a hS
  refine Sq.nil (then_n ?_)
  refine rnd ?_
  refine c_seq (reg_plain w0 (Nobody) ?_)
  refine r_lss hS hH.kp0 rfl rfl rfl ?_; clear hS; intro a hS
  refine Sq.nil (then_n (c_seq (c_condT hS rfl rfl (wp_skip (then_n (c_seq (wp_block (c_seq (reg_plain w0 (Nobody) ?_)))))))))
  refine r_move hS hH.kp0 rfl rfl (x_assign hH.kp0 rfl rfl ?_); clear hS; intro a hS
  refine Sq.nil (then_n (reg_plain w0 (Nobody) ?_))
  refine r_move hS hH.kp0 rfl rfl (x_mul hH.kp0 rfl rfl rfl (by omega) (x_move hH.kp0 rfl rfl (x_add hH.kp0 rfl rfl rfl (by omega) (x_move hH.kp0 rfl rfl (x_move hH.kp0 rfl rfl (x_mul hH.kp0 rfl rfl rfl (by omega) (x_sub hH.kp0 rfl rfl rfl (by omega) (x_shrN (m:=mixN (2 * n + 1)) 0 (mixN (2 * n + 1) >>> 0) hH.kp0 rfl rfl rfl (by omega) (by decide) rfl (x_toU8 (q:=mixN (2 * n + 1) >>> 0) (nmB n 15) hH.kp0 rfl Fc.ui5 Fc.us81 rfl rfl (x_indexAddrA (j:=15) hH.kp0 rfl rfl Fc.ar26 (by omega) (by decide) rfl ?_)))))))))); clear hS; intro a hS
  refine r_store1 hS hH rfl rfl rfl (by repeat' constructor) (by repeat' constructor) Fc.sz5 (of_decide_eq_true rfl) (.inr hb2) ?_
  clear hH; intro w hH
  replace hH : Hp w0 Nobody [(b2,.cells ([byteV (nmB n 0),byteV (nmB n 1),byteV (nmB n 2),byteV (nmB n 3),byteV (nmB n 4),byteV (nmB n 5),byteV (nmB n 6),byteV (nmB n 7),byteV (nmB n 8),byteV (nmB n 9),byteV (nmB n 10),byteV (nmB n 11),byteV (nmB n 12),byteV (nmB n 13),byteV (nmB n 14),byteV (nmB n 15)] : List Value).toArray 26 (0,0))] w:=hH
  refine Sq.nil (blk_n (then_n (reg_plain w0 (Nobody) ?_)))
  refine r_add hS hH.kp0 rfl rfl rfl (by omega) (x_move hH.kp0 rfl rfl ?_); clear hS; intro a hS
  refine Sq.nil (then_n ?_)
  refine rnd ?_
  refine c_seq (reg_plain w0 (Nobody) ?_)
  refine r_lss hS hH.kp0 rfl rfl rfl ?_; clear hS; intro a hS
  refine Sq.nil (then_n (c_seq (c_condF hS rfl rfl (wp_exit (then_e (then_e (blk_hit (blk_n (then_n (reg_plain w0 (Nobody) ?_))))))))))
  refine r_add hS hH.kp0 rfl rfl rfl (by omega) (x_move hH.kp0 rfl rfl ?_); clear hS; intro a hS
  refine Sq.nil (then_n ?_)
  refine rnd ?_
  refine c_seq (reg_plain w0 (Nobody) ?_)
  refine r_lss hS hH.kp0 rfl rfl rfl ?_; clear hS; intro a hS
  refine Sq.nil (then_n (c_seq (c_condF hS rfl rfl (wp_exit (then_e (then_e (blk_hit (then_n (c_seq (reg_plain w0 (Nobody) ?_))))))))))
  refine r_load_row hS hH (by repeat' constructor) rfl (by repeat' constructor) Fc.ag26 (by rfl) rfl ?_; clear hS; intro a hS
  refine r_store_row hS hH rfl rfl (by repeat' constructor) (by repeat' constructor) Fc.sz26 (by first | exact hcells_one _ | exact of_decide_eq_true rfl) (by rfl) (by first | exact .inr (by assumption) | exact .inl (by first | assumption | rfl)) ?_
  clear hH; intro w hH
  refine Sq.nil (then_n (wp_ret ?_))
  exact leave (.inl rfl) hS rfl (Res.cell rfl (hH.get (by repeat' constructor)) Fc.ag26 (by rfl) rfl Res.nil) ⟨nm n,rfl,rfl,hH.mod⟩

end Go.Proofs.YtcjmehononbadaaDoor
namespace Go.Proofs.YtcjmehononbadaaDoor
open Go.Sym

theorem Fc.ag64 : agB Tryd.prog 64 = some 7:=by kernel_rfl
theorem Fc.bsl37_1 : bslB Tryd.prog 37 1 = some (64,7,[.int .i64 0,.int .i64 0,.int .i64 0,.int .i64 0,.string .empty,.string .empty,.string .empty]):=by kernel_rfl
theorem Fc.elT : elB Tryd.prog 37 = some (64,7,80):=by kernel_rfl
theorem Fc.fn30 : isFn Tryd.prog 30 = true:=by kernel_rfl
theorem Fc.fo41_0 : foff Tryd.prog 41 0 = some 0:=by kernel_rfl
theorem Fc.fo41_1 : foff Tryd.prog 41 1 = some 1:=by kernel_rfl
theorem Fc.fo41_2 : foff Tryd.prog 41 2 = some 2:=by kernel_rfl
theorem Fc.fo64_0 : foff Tryd.prog 64 0 = some 0:=by kernel_rfl
theorem Fc.isSlice37 : isSlice Tryd.prog 37 = true:=by kernel_rfl
theorem Fc.niT : notInt Tryd.prog 37 = true:=by kernel_rfl
theorem Fc.sc3 : scB Tryd.prog 3 = true:=by kernel_rfl
theorem Fc.sc37 : scB Tryd.prog 37 = true:=by kernel_rfl
theorem Fc.sc38 : scB Tryd.prog 38 = true:=by kernel_rfl
theorem Fc.sc39 : scB Tryd.prog 39 = true:=by kernel_rfl
theorem Fc.sz37 : sizeB Tryd.prog 37 1 = true:=by kernel_rfl
set_option maxRecDepth 100000 in
set_option maxHeartbeats 400000 in
theorem make_old (b : Nat) (V : VB) (ts : List Tm) (t : Tm) (ht : t.ok) (hk : t.kind≠1) (i : Nat) (hi : ts[i]? = some t) (hm : ts.length≤1000000000) (w0 : World) (hvi : VI w0 b V ts) :
    Calls Tryd.prog 23 #[.pointer (some ⟨b,0,none⟩),tv t] w0 fun e w' => ∃ h,e = .returned (hnd h)∧h = nm i∧Ext w0 w':=by
  refine enter Tryd.func23 rfl rfl rfl ?_
  intro a hS
  have hH:=Hp.start w0 (Nobody)
  obtain ⟨sb,fb,nb,cap,l,es,c,es2,c2⟩:=V
  replace hH : Hp w0 Nobody [(b,.cells [.slice (some ⟨sb,0,none⟩) ts.length cap,.map (some fb),.map (some nb)].toArray 41 (0,0)),(sb,.cells l.toArray 64 (0,0)),(fb,.map es c),(nb,.map es2 c2)] w0:=hH.knowV hvi (by intro p hp; simp at hp)
  obtain ⟨g1,hm1,hf1⟩:=hvi.ok.found
  obtain ⟨lx,hkt⟩:=Fc.tm.keyOf ht
  have hg:=hf1.none_ t i hi hk
  have e1 : orZ (g1 (tv t)) (.int .i64 0) = .int .i64 (i : Int):=by rw [hg]; rfl
  have e2 : (g1 (tv t)).isSome = true:=by rw [hg]; rfl
  have hil:=(List.getElem?_eq_some_iff.1 hi).1
  refine c_seq (reg_plain w0 (Nobody) ?_)
  refine r_box hS hH (by repeat' constructor) rfl rfl rfl ?_
  clear hS hH; intro a w b3 hb3 hwb3 hS hH
  refine r_alloc hS hH (by repeat' constructor) Fc.zc26 rfl ?_
  clear hS hH; intro a w b4 hb4 hwb4 hS hH
  refine Sq.nil (then_n (c_seq (c_seq ?_)))
  refine reg_draw [(true,0,[]),(true,1,[]),(true,2,[]),(true,3,[]),(true,4,[]),(true,5,[]),(true,6,[]),(true,7,[]),(true,8,[]),(true,9,[]),(true,10,[])] Fc.mixed (by kernel_rfl) (by kernel_rfl) (by kernel_rfl) (by kernel_rfl) (by kernel_rfl) (by repeat (first | with_reducible exact steady_body | with_reducible apply steady_block | with_reducible apply steady_then | exact steady_body)) hH ?_
  replace hH:=hH.drew
  refine r_move hS trivial rfl rfl (x_nilCheck trivial rfl rfl (x_fieldAddr trivial rfl Fc.fo41_1 rfl (x_load_scS rfl (by repeat' constructor) Fc.sc38 (by rfl) rfl (x_load_rowS rfl (by repeat' constructor) Fc.ag64 (by rfl) rfl (x_lookupS2 Fc.mtF rfl rfl (by repeat' constructor) hm1 hkt e1 e2 rfl (x_move trivial rfl rfl (x_extract trivial rfl rfl rfl (x_extract trivial rfl rfl rfl (x_assign trivial rfl rfl (x_assign trivial rfl rfl ?_)))))))))); clear hS; intro a hS
  refine Sq.nil (then_n (c_seq (reg_plain w0 (Nobody) ?_)))
  refine r_move hS hH.kp0 rfl rfl (x_move hH.kp0 rfl rfl (Sq.xguardYes rfl rfl rfl (x_fieldAddr hH.kp0 rfl Fc.fo64_0 rfl (Sq.xguardYes rfl rfl rfl (x_load_sc hH (by repeat' constructor) rfl (by repeat' constructor) Fc.sc3 (by rfl) rfl (Sq.xguardYes rfl rfl rfl (x_neq hH.kp0 rfl rfl rfl (x_pickT hH.kp0 rfl rfl rfl rfl ?_)))))))); clear hS; intro a hS
  refine Sq.nil (then_n ?_)
  refine c_condT hS rfl (by simpa using hk) ?_
  refine c_seq (reg_plain w0 (Nobody) ?_)
  refine r_move hS hH.kp0 rfl rfl ?_; clear hS; intro a hS
  refine r_call (l:=[.tmp 23]) hS rfl rfl Fc.fn30 rfl ?_
  refine Calls.mono (name_c i (by omega) _) ?_
  rintro e w1 ⟨h,rfl,hqx,hE⟩
  obtain ⟨x0,x1,x2,x3,x4,x5,x6,x7,x8,x9,xa,xb,xc,xd,xe,xf,rfl⟩:=len16 (h:=h) (by rw [hqx]; rfl)
  replace hH:=hH.ext hE
  refine ⟨_,rfl,hH.kp0,?_⟩
  clear hS; intro a hS
  refine r_store_row hS hH rfl rfl (by repeat' constructor) (by repeat' constructor) Fc.sz26 (by first | exact hcells_one _ | exact of_decide_eq_true rfl) (by rfl) (by first | exact .inr (by assumption) | exact .inl (by first | assumption | rfl)) ?_
  clear hH; intro w hH
  refine Sq.nil (then_n (wp_ret (then_r ?_)))
  exact leave (.inl rfl) hS rfl (Res.cell rfl (hH.get (by repeat' constructor)) Fc.ag26 (by rfl) rfl Res.nil) ⟨_,rfl,hqx,hH.mod⟩

set_option maxRecDepth 100000 in
set_option maxHeartbeats 1000000 in
theorem make_no (b : Nat) (V : VB) (ts : List Tm) (t : Tm) (ht : t.ok) (hn : t.kind = 1∨t ∉ ts) (e1 : ∀ g,MapOk Tryd.prog 64 V.es g→Fnd ts g→orZ (g (tv t)) (.int .i64 0) = .int .i64 0) (e2 : ∀ g,MapOk Tryd.prog 64 V.es g→Fnd ts g→(g (tv t)).isSome = false) (hm : ts.length≤1000000000) (w0 : World) (hvi : VI w0 b V ts) :
  Calls Tryd.prog 23 #[.pointer (some ⟨b,0,none⟩),tv t] w0 fun e w' => ∃ h V',e = .returned (hnd h)∧h = nm ts.length∧VI w' b V' (ts++[t])∧VStep w0 w' b V V':=by
 refine enter Tryd.func23 rfl rfl rfl ?_
 intro a hS
 have hH:=Hp.start w0 (V.F b)
 obtain ⟨sb,fb,nb,cap,l,es,c,es2,c2⟩:=V
 replace hH : Hp w0 (VB.F b ⟨sb,fb,nb,cap,l,es,c,es2,c2⟩) [(b,.cells [.slice (some ⟨sb,0,none⟩) ts.length cap,.map (some fb),.map (some nb)].toArray 41 (0,0)),(sb,.cells l.toArray 64 (0,0)),(fb,.map es c),(nb,.map es2 c2)] w0:=hH.knowV hvi (by intro p hp; simp at hp)
 obtain ⟨g1,hm1,hf1⟩:=hvi.ok.found
 obtain ⟨g2,hm2,hf2⟩:=hvi.ok.names
 obtain ⟨lx,hkt⟩:=Fc.tm.keyOf ht
 obtain ⟨g1',hs1⟩:=exists_set g1 (tv t) (.int .i64 (ts.length : Int))
 obtain ⟨g2',hs2⟩:=exists_set g2 (hnd (nm ts.length)) (.int .i64 (ts.length : Int))
 refine c_seq (reg_plain w0 (VB.F b ⟨sb,fb,nb,cap,l,es,c,es2,c2⟩) ?_)
 refine r_box hS hH (by repeat' constructor) rfl rfl rfl ?_
 clear hS hH; intro a w b3 hb3 hwb3 hS hH
 refine r_alloc hS hH (by repeat' constructor) Fc.zc26 rfl ?_
 clear hS hH; intro a w b4 hb4 hwb4 hS hH
 refine Sq.nil (then_n (c_seq (c_seq ?_)))
 refine reg_draw [(true,0,[]),(true,1,[]),(true,2,[]),(true,3,[]),(true,4,[]),(true,5,[]),(true,6,[]),(true,7,[]),(true,8,[]),(true,9,[]),(true,10,[])] Fc.mixed (by kernel_rfl) (by kernel_rfl) (by kernel_rfl) (by kernel_rfl) (by kernel_rfl) (by repeat (first | with_reducible exact steady_body | with_reducible apply steady_block | with_reducible apply steady_then | exact steady_body)) hH ?_
 replace hH:=hH.drew
 refine r_move hS trivial rfl rfl (x_nilCheck trivial rfl rfl (x_fieldAddr trivial rfl Fc.fo41_1 rfl (x_load_scS rfl (by repeat' constructor) Fc.sc38 (by rfl) rfl (x_load_rowS rfl (by repeat' constructor) Fc.ag64 (by rfl) rfl (x_lookupS2 Fc.mtF rfl rfl (by repeat' constructor) hm1 hkt (e1 g1 hm1 hf1) (e2 g1 hm1 hf1) rfl (x_move trivial rfl rfl (x_extract trivial rfl rfl rfl (x_extract trivial rfl rfl rfl (x_assign trivial rfl rfl (x_assign trivial rfl rfl ?_)))))))))); clear hS; intro a hS
 refine Sq.nil (then_n (c_seq (reg_plain w0 (VB.F b ⟨sb,fb,nb,cap,l,es,c,es2,c2⟩) ?_)))
 refine r_move hS hH.kp0 rfl rfl (x_move hH.kp0 rfl rfl (Sq.xguardNo rfl rfl rfl hH.kp0 rfl (Sq.xguardNo rfl rfl rfl hH.kp0 rfl (Sq.xguardNo rfl rfl rfl hH.kp0 rfl (x_pickF hH.kp0 rfl rfl rfl rfl ?_))))); clear hS; intro a hS
 refine Sq.nil (then_n (c_condF hS rfl rfl (wp_skip (then_n (c_seq (reg_plain w0 (VB.F b ⟨sb,fb,nb,cap,l,es,c,es2,c2⟩) ?_))))))
 refine r_move hS hH.kp0 rfl rfl (x_nilCheck hH.kp0 rfl rfl (x_fieldAddr hH.kp0 rfl Fc.fo41_0 rfl (x_load_sc hH (by repeat' constructor) rfl (by repeat' constructor) Fc.sc37 (by rfl) rfl (x_lenSl hH.kp0 rfl Fc.isSlice37 rfl (x_assign hH.kp0 rfl rfl ?_))))); clear hS; intro a hS
 refine Sq.nil (then_n (c_seq ?_))
 refine reg_draw [(true,0,[2,3]),(true,1,[2,3]),(true,2,[2,3]),(true,3,[2,3]),(true,4,[3]),(true,5,[2,3]),(false,6,[]),(false,7,[3]),(true,8,[2,3]),(true,9,[2,3]),(false,10,[2,3])] Fc.mixed (by kernel_rfl) (by kernel_rfl) (by kernel_rfl) (by kernel_rfl) (by kernel_rfl) (by repeat (first | with_reducible exact steady_body | with_reducible apply steady_block | with_reducible apply steady_then | exact steady_body)) hH ?_
 replace hH:=hH.drew
 refine r_move hS trivial rfl rfl (x_move trivial rfl rfl (x_nilCheck trivial rfl rfl (x_fieldAddr trivial rfl Fc.fo41_0 rfl (x_load_scS rfl (by repeat' constructor) Fc.sc37 (by rfl) rfl (x_load_rowS rfl (by repeat' constructor) Fc.ag64 (by rfl) rfl ?_))))); clear hS; intro a hS
 refine r_buildSlice (parts:=[(0,.tmp 35)]) hS hH (by repeat' constructor) rfl Fc.bsl37_1 (by rfl) rfl ?_
 clear hS hH; intro a w b36 hb36 hwb36 hS hH
 refine r_append_own hS hH rfl rfl (by repeat' constructor) (by repeat' constructor) Fc.elT Fc.niT hvi.ok.len hvi.ok.cap (Src.terms (hH.get .here)) (by omega) (.inl (.inr (.inl rfl))) rfl ?_
 clear hS hH; intro a w sb' cap' l2 hsb' hl2 hc2 htk _ hS hH
 refine r_nilCheck hS trivial rfl rfl (x_fieldAddr trivial rfl Fc.fo41_0 rfl ?_); clear hS; intro a hS
 refine r_store1 hS hH rfl rfl rfl (by repeat' constructor) (by repeat' constructor) Fc.sz37 (of_decide_eq_true rfl) (.inl (.inl rfl)) ?_
 clear hH; intro w hH
 refine Sq.nil (then_n (c_seq ?_))
 refine reg_draw [(true,0,[5]),(true,1,[5]),(true,2,[5]),(true,3,[5]),(true,4,[5]),(true,5,[5]),(false,6,[5])] Fc.mixed (by kernel_rfl) (by kernel_rfl) (by kernel_rfl) (by kernel_rfl) (by kernel_rfl) (by repeat (first | with_reducible exact steady_body | with_reducible apply steady_block | with_reducible apply steady_then | exact steady_body)) hH ?_
 replace hH:=hH.drew
 refine r_move hS trivial rfl rfl (x_nilCheck trivial rfl rfl (x_fieldAddr trivial rfl Fc.fo41_1 rfl (x_load_scS rfl (by repeat' constructor) Fc.sc38 (by rfl) rfl (x_load_rowS rfl (by repeat' constructor) Fc.ag64 (by rfl) rfl (x_move trivial rfl rfl ?_))))); clear hS; intro a hS
 refine r_mapUpdate2 Fc.mtF hS hH rfl rfl rfl (fun es' clock' => (by repeat' constructor)) (fun es' clock' => (by repeat' constructor)) hm1 hkt hs1 (.inl (.inr (.inr (.inl rfl)))) ?_
 clear hH; intro w es' c' hm1' hH
 refine Sq.nil (then_n (c_seq ?_))
 refine reg_draw [(true,0,[6]),(true,1,[6]),(true,2,[6]),(true,3,[6]),(true,4,[6]),(true,6,[6]),(false,5,[]),(false,7,[6])] Fc.mixed (by kernel_rfl) (by kernel_rfl) (by kernel_rfl) (by kernel_rfl) (by kernel_rfl) (by repeat (first | with_reducible exact steady_body | with_reducible apply steady_block | with_reducible apply steady_then | exact steady_body)) hH ?_
 replace hH:=hH.drew
 refine r_move hS trivial rfl rfl (x_nilCheck trivial rfl rfl (x_fieldAddr trivial rfl Fc.fo41_2 rfl (x_load_scS rfl (by repeat' constructor) Fc.sc39 (by rfl) rfl (x_move trivial rfl rfl (x_move trivial rfl rfl ?_))))); clear hS; intro a hS
 refine r_call (l:=[.tmp 50]) hS rfl rfl Fc.fn30 rfl ?_
 refine Calls.mono (name_c ts.length (by omega) _) ?_
 rintro e w1 ⟨h,rfl,hqx,hE⟩
 obtain ⟨x0,x1,x2,x3,x4,x5,x6,x7,x8,x9,xa,xb,xc,xd,xe,xf,rfl⟩:=len16 (h:=h) (by rw [hqx]; rfl)
 replace hH:=hH.ext hE
 refine ⟨_,rfl,hH.kp (by repeat' constructor),?_⟩
 clear hS; intro a hS
 refine r_mapUpdate2 Fc.mtN hS hH rfl rfl rfl (fun es' clock' => (by repeat' constructor)) (fun es' clock' => (by repeat' constructor)) hm2 (Fc.arrH.keyOf (h:=[x0,x1,x2,x3,x4,x5,x6,x7,x8,x9,xa,xb,xc,xd,xe,xf]) rfl) (by rw [←hqx] at hs2; exact hs2) (.inl (.inr (.inr (.inr rfl)))) ?_
 clear hH; intro w es2' c2' hm2' hH
 refine Sq.nil (then_n (c_seq (reg_plain w0 (VB.F b ⟨sb,fb,nb,cap,l,es,c,es2,c2⟩) ?_)))
 refine r_move hS hH.kp0 rfl rfl ?_; clear hS; intro a hS
 refine r_call (l:=[.tmp 53]) hS rfl rfl Fc.fn30 rfl ?_
 refine Calls.mono (name_c ts.length (by omega) _) ?_
 rintro e w1 ⟨h,rfl,hqy,hE⟩
 obtain ⟨y0,y1,y2,y3,y4,y5,y6,y7,y8,y9,ya,yb,yc,yd,ye,yf,rfl⟩:=len16 (h:=h) (by rw [hqy]; rfl)
 replace hH:=hH.ext hE
 refine ⟨_,rfl,hH.kp0,?_⟩
 clear hS; intro a hS
 refine r_store_row hS hH rfl rfl (by repeat' constructor) (by repeat' constructor) Fc.sz26 (by first | exact hcells_one _ | exact of_decide_eq_true rfl) (by rfl) (by first | exact .inr (by assumption) | exact .inl (by first | assumption | rfl)) ?_
 clear hH; intro w hH
 refine Sq.nil (then_n (wp_ret ?_))
 refine leave (.inl rfl) hS rfl (Res.cell rfl (hH.get (by repeat' constructor)) Fc.ag26 (by rfl) rfl Res.nil) ?_
 refine ⟨_,⟨sb',fb,nb,cap',l2,es',c',es2',c2'⟩,rfl,hqy,?_,⟨?_,hH.mod⟩⟩
 ·refine hH.vin2 (m:=ts.length + 1) (hvi.ok.push ht hn (by omega) hm1' hf1 hs1 hm2' hf2 hs2 hl2 hc2 htk) (by simp) ?_ hvi.n23 (by repeat' constructor) (by repeat' constructor) (by repeat' constructor) (by repeat' constructor)
  intro e; have nd:=hH.nd; rw [e] at nd; simp at nd
 ·intro x hx
  rcases hx with e | e | e | e
  ·exact .inl (.inl e)
  ·subst e; exact hsb'
  ·exact .inl (.inr (.inr (.inl e)))
  ·exact .inl (.inr (.inr (.inr e)))

set_option maxRecDepth 100000 in
set_option maxHeartbeats 1000000 in
theorem make_again (b : Nat) (V : VB) (ts : List Tm) (t : Tm) (ht : t.ok) (hk : t.kind = 1) (i : Nat) (e1 : ∀ g,MapOk Tryd.prog 64 V.es g→Fnd ts g→orZ (g (tv t)) (.int .i64 0) = .int .i64 (i : Int)) (e2 : ∀ g,MapOk Tryd.prog 64 V.es g→Fnd ts g→(g (tv t)).isSome = true) (hm : ts.length≤1000000000) (w0 : World) (hvi : VI w0 b V ts) :
  Calls Tryd.prog 23 #[.pointer (some ⟨b,0,none⟩),tv t] w0 fun e w' => ∃ h V',e = .returned (hnd h)∧h = nm ts.length∧VI w' b V' (ts++[t])∧VStep w0 w' b V V':=by
 refine enter Tryd.func23 rfl rfl rfl ?_
 intro a hS
 have hH:=Hp.start w0 (V.F b)
 obtain ⟨sb,fb,nb,cap,l,es,c,es2,c2⟩:=V
 replace hH : Hp w0 (VB.F b ⟨sb,fb,nb,cap,l,es,c,es2,c2⟩) [(b,.cells [.slice (some ⟨sb,0,none⟩) ts.length cap,.map (some fb),.map (some nb)].toArray 41 (0,0)),(sb,.cells l.toArray 64 (0,0)),(fb,.map es c),(nb,.map es2 c2)] w0:=hH.knowV hvi (by intro p hp; simp at hp)
 obtain ⟨g1,hm1,hf1⟩:=hvi.ok.found
 obtain ⟨g2,hm2,hf2⟩:=hvi.ok.names
 obtain ⟨lx,hkt⟩:=Fc.tm.keyOf ht
 have hn : t.kind = 1∨t ∉ ts:=.inl hk
 obtain ⟨g1',hs1⟩:=exists_set g1 (tv t) (.int .i64 (ts.length : Int))
 obtain ⟨g2',hs2⟩:=exists_set g2 (hnd (nm ts.length)) (.int .i64 (ts.length : Int))
 refine c_seq (reg_plain w0 (VB.F b ⟨sb,fb,nb,cap,l,es,c,es2,c2⟩) ?_)
 refine r_box hS hH (by repeat' constructor) rfl rfl rfl ?_
 clear hS hH; intro a w b3 hb3 hwb3 hS hH
 refine r_alloc hS hH (by repeat' constructor) Fc.zc26 rfl ?_
 clear hS hH; intro a w b4 hb4 hwb4 hS hH
 refine Sq.nil (then_n (c_seq (c_seq ?_)))
 refine reg_draw [(true,0,[]),(true,1,[]),(true,2,[]),(true,3,[]),(true,4,[]),(true,5,[]),(true,6,[]),(true,7,[]),(true,8,[]),(true,9,[]),(true,10,[])] Fc.mixed (by kernel_rfl) (by kernel_rfl) (by kernel_rfl) (by kernel_rfl) (by kernel_rfl) (by repeat (first | with_reducible exact steady_body | with_reducible apply steady_block | with_reducible apply steady_then | exact steady_body)) hH ?_
 replace hH:=hH.drew
 refine r_move hS trivial rfl rfl (x_nilCheck trivial rfl rfl (x_fieldAddr trivial rfl Fc.fo41_1 rfl (x_load_scS rfl (by repeat' constructor) Fc.sc38 (by rfl) rfl (x_load_rowS rfl (by repeat' constructor) Fc.ag64 (by rfl) rfl (x_lookupS2 Fc.mtF rfl rfl (by repeat' constructor) hm1 hkt (e1 g1 hm1 hf1) (e2 g1 hm1 hf1) rfl (x_move trivial rfl rfl (x_extract trivial rfl rfl rfl (x_extract trivial rfl rfl rfl (x_assign trivial rfl rfl (x_assign trivial rfl rfl ?_)))))))))); clear hS; intro a hS
 refine Sq.nil (then_n (c_seq (reg_plain w0 (VB.F b ⟨sb,fb,nb,cap,l,es,c,es2,c2⟩) ?_)))
 refine r_move hS hH.kp0 rfl rfl (x_move hH.kp0 rfl rfl (Sq.xguardYes rfl rfl rfl (x_fieldAddr hH.kp0 rfl Fc.fo64_0 rfl (Sq.xguardYes rfl rfl rfl (x_load_sc hH (by repeat' constructor) rfl (by repeat' constructor) Fc.sc3 (by rfl) rfl (Sq.xguardYes rfl rfl rfl (x_neq hH.kp0 rfl rfl rfl (x_pickT hH.kp0 rfl rfl rfl rfl ?_)))))))); clear hS; intro a hS
 refine Sq.nil (then_n ?_)
 refine c_condF hS rfl (by simp [hk]) ?_
 refine wp_skip (then_n (c_seq (reg_plain w0 (VB.F b ⟨sb,fb,nb,cap,l,es,c,es2,c2⟩) ?_)))
 refine r_move hS hH.kp0 rfl rfl (x_nilCheck hH.kp0 rfl rfl (x_fieldAddr hH.kp0 rfl Fc.fo41_0 rfl (x_load_sc hH (by repeat' constructor) rfl (by repeat' constructor) Fc.sc37 (by rfl) rfl (x_lenSl hH.kp0 rfl Fc.isSlice37 rfl (x_assign hH.kp0 rfl rfl ?_))))); clear hS; intro a hS
 refine Sq.nil (then_n (c_seq ?_))
 refine reg_draw [(true,0,[2,3]),(true,1,[2,3]),(true,2,[2,3]),(true,3,[2,3]),(true,4,[3]),(true,5,[2,3]),(false,6,[]),(false,7,[3]),(true,8,[2,3]),(true,9,[2,3]),(false,10,[2,3])] Fc.mixed (by kernel_rfl) (by kernel_rfl) (by kernel_rfl) (by kernel_rfl) (by kernel_rfl) (by repeat (first | with_reducible exact steady_body | with_reducible apply steady_block | with_reducible apply steady_then | exact steady_body)) hH ?_
 replace hH:=hH.drew
 refine r_move hS trivial rfl rfl (x_move trivial rfl rfl (x_nilCheck trivial rfl rfl (x_fieldAddr trivial rfl Fc.fo41_0 rfl (x_load_scS rfl (by repeat' constructor) Fc.sc37 (by rfl) rfl (x_load_rowS rfl (by repeat' constructor) Fc.ag64 (by rfl) rfl ?_))))); clear hS; intro a hS
 refine r_buildSlice (parts:=[(0,.tmp 35)]) hS hH (by repeat' constructor) rfl Fc.bsl37_1 (by rfl) rfl ?_
 clear hS hH; intro a w b36 hb36 hwb36 hS hH
 refine r_append_own hS hH rfl rfl (by repeat' constructor) (by repeat' constructor) Fc.elT Fc.niT hvi.ok.len hvi.ok.cap (Src.terms (hH.get .here)) (by omega) (.inl (.inr (.inl rfl))) rfl ?_
 clear hS hH; intro a w sb' cap' l2 hsb' hl2 hc2 htk _ hS hH
 refine r_nilCheck hS trivial rfl rfl (x_fieldAddr trivial rfl Fc.fo41_0 rfl ?_); clear hS; intro a hS
 refine r_store1 hS hH rfl rfl rfl (by repeat' constructor) (by repeat' constructor) Fc.sz37 (of_decide_eq_true rfl) (.inl (.inl rfl)) ?_
 clear hH; intro w hH
 refine Sq.nil (then_n (c_seq ?_))
 refine reg_draw [(true,0,[5]),(true,1,[5]),(true,2,[5]),(true,3,[5]),(true,4,[5]),(true,5,[5]),(false,6,[5])] Fc.mixed (by kernel_rfl) (by kernel_rfl) (by kernel_rfl) (by kernel_rfl) (by kernel_rfl) (by repeat (first | with_reducible exact steady_body | with_reducible apply steady_block | with_reducible apply steady_then | exact steady_body)) hH ?_
 replace hH:=hH.drew
 refine r_move hS trivial rfl rfl (x_nilCheck trivial rfl rfl (x_fieldAddr trivial rfl Fc.fo41_1 rfl (x_load_scS rfl (by repeat' constructor) Fc.sc38 (by rfl) rfl (x_load_rowS rfl (by repeat' constructor) Fc.ag64 (by rfl) rfl (x_move trivial rfl rfl ?_))))); clear hS; intro a hS
 refine r_mapUpdate2 Fc.mtF hS hH rfl rfl rfl (fun es' clock' => (by repeat' constructor)) (fun es' clock' => (by repeat' constructor)) hm1 hkt hs1 (.inl (.inr (.inr (.inl rfl)))) ?_
 clear hH; intro w es' c' hm1' hH
 refine Sq.nil (then_n (c_seq ?_))
 refine reg_draw [(true,0,[6]),(true,1,[6]),(true,2,[6]),(true,3,[6]),(true,4,[6]),(true,6,[6]),(false,5,[]),(false,7,[6])] Fc.mixed (by kernel_rfl) (by kernel_rfl) (by kernel_rfl) (by kernel_rfl) (by kernel_rfl) (by repeat (first | with_reducible exact steady_body | with_reducible apply steady_block | with_reducible apply steady_then | exact steady_body)) hH ?_
 replace hH:=hH.drew
 refine r_move hS trivial rfl rfl (x_nilCheck trivial rfl rfl (x_fieldAddr trivial rfl Fc.fo41_2 rfl (x_load_scS rfl (by repeat' constructor) Fc.sc39 (by rfl) rfl (x_move trivial rfl rfl (x_move trivial rfl rfl ?_))))); clear hS; intro a hS
 refine r_call (l:=[.tmp 50]) hS rfl rfl Fc.fn30 rfl ?_
 refine Calls.mono (name_c ts.length (by omega) _) ?_
 rintro e w1 ⟨h,rfl,hqx,hE⟩
 obtain ⟨x0,x1,x2,x3,x4,x5,x6,x7,x8,x9,xa,xb,xc,xd,xe,xf,rfl⟩:=len16 (h:=h) (by rw [hqx]; rfl)
 replace hH:=hH.ext hE
 refine ⟨_,rfl,hH.kp (by repeat' constructor),?_⟩
 clear hS; intro a hS
 refine r_mapUpdate2 Fc.mtN hS hH rfl rfl rfl (fun es' clock' => (by repeat' constructor)) (fun es' clock' => (by repeat' constructor)) hm2 (Fc.arrH.keyOf (h:=[x0,x1,x2,x3,x4,x5,x6,x7,x8,x9,xa,xb,xc,xd,xe,xf]) rfl) (by rw [←hqx] at hs2; exact hs2) (.inl (.inr (.inr (.inr rfl)))) ?_
 clear hH; intro w es2' c2' hm2' hH
 refine Sq.nil (then_n (c_seq (reg_plain w0 (VB.F b ⟨sb,fb,nb,cap,l,es,c,es2,c2⟩) ?_)))
 refine r_move hS hH.kp0 rfl rfl ?_; clear hS; intro a hS
 refine r_call (l:=[.tmp 53]) hS rfl rfl Fc.fn30 rfl ?_
 refine Calls.mono (name_c ts.length (by omega) _) ?_
 rintro e w1 ⟨h,rfl,hqy,hE⟩
 obtain ⟨y0,y1,y2,y3,y4,y5,y6,y7,y8,y9,ya,yb,yc,yd,ye,yf,rfl⟩:=len16 (h:=h) (by rw [hqy]; rfl)
 replace hH:=hH.ext hE
 refine ⟨_,rfl,hH.kp0,?_⟩
 clear hS; intro a hS
 refine r_store_row hS hH rfl rfl (by repeat' constructor) (by repeat' constructor) Fc.sz26 (by first | exact hcells_one _ | exact of_decide_eq_true rfl) (by rfl) (by first | exact .inr (by assumption) | exact .inl (by first | assumption | rfl)) ?_
 clear hH; intro w hH
 refine Sq.nil (then_n (wp_ret ?_))
 refine leave (.inl rfl) hS rfl (Res.cell rfl (hH.get (by repeat' constructor)) Fc.ag26 (by rfl) rfl Res.nil) ?_
 refine ⟨_,⟨sb',fb,nb,cap',l2,es',c',es2',c2'⟩,rfl,hqy,?_,⟨?_,hH.mod⟩⟩
 ·refine hH.vin2 (m:=ts.length + 1) (hvi.ok.push ht hn (by omega) hm1' hf1 hs1 hm2' hf2 hs2 hl2 hc2 htk) (by simp) ?_ hvi.n23 (by repeat' constructor) (by repeat' constructor) (by repeat' constructor) (by repeat' constructor)
  intro e; have nd:=hH.nd; rw [e] at nd; simp at nd
 ·intro x hx
  rcases hx with e | e | e | e
  ·exact .inl (.inl e)
  ·subst e; exact hsb'
  ·exact .inl (.inr (.inr (.inl e)))
  ·exact .inl (.inr (.inr (.inr e)))

end Go.Proofs.YtcjmehononbadaaDoor
namespace Go.Proofs.YtcjmehononbadaaDoor
open Go.Sym

theorem Fc.fn23 : isFn Tryd.prog 23 = true:=by kernel_rfl
theorem Fc.fn24 : isFn Tryd.prog 24 = true:=by kernel_rfl
theorem Fc.isMap38 : isMap Tryd.prog 38 = true:=by kernel_rfl
theorem Fc.isMap39 : isMap Tryd.prog 39 = true:=by kernel_rfl
theorem Fc.isPtr23 : isPtr Tryd.prog 23 = true:=by kernel_rfl
theorem Fc.pl41 : placesB Tryd.prog 41 = some [(0,1),(1,1),(2,1)]:=by kernel_rfl
theorem Fc.pl64 : placesB Tryd.prog 64 = some [(0,1),(1,1),(2,1),(3,1),(4,1),(5,1),(6,1)]:=by kernel_rfl
theorem Fc.zc41 : zcB Tryd.prog 41 = some [.slice none 0 0,.map none,.map none]:=by kernel_rfl
theorem Fc.zc64 : zcB Tryd.prog 64 = some [.int .i64 0,.int .i64 0,.int .i64 0,.int .i64 0,.string .empty,.string .empty,.string .empty]:=by kernel_rfl

theorem make_c (b : Nat) (V : VB) (ts : List Tm) (t : Tm) (ht : t.ok) (hm : ts.length≤1000000000) (w0 : World) (hvi : VI w0 b V ts) :
  Calls Tryd.prog 23 #[.pointer (some ⟨b,0,none⟩),tv t] w0 fun e w' => ∃ h i V' ts',e = .returned (hnd h)∧h = nm i∧VI w' b V' ts'∧VStep w0 w' b V V'∧Made ts t i ts':=by
 obtain ⟨g,hg,hf⟩:=hvi.ok.found
 rcases hf.look t with ⟨i,h1,h2,h3⟩ | ⟨h1,h2,h3⟩
 ·by_cases hk : t.kind = 1
  ·refine (make_again b V ts t ht hk i (fun g' hg' _ => by rw [mapOk_same hg' hg]; exact h1) (fun g' hg' _ => by rw [mapOk_same hg' hg]; exact h2) hm w0 hvi).mono fun e w' ⟨h,V',k1,k2,k3,k4⟩ => ?_
   exact ⟨h,_,V',_,k1,k2,k3,k4,.inr ⟨.inl hk,rfl,rfl⟩⟩
  ·refine (make_old b V ts t ht hk i h3 hm w0 hvi).mono fun e w' ⟨h,k1,k2,k3⟩ => ?_
   exact ⟨h,i,V,ts,k1,k2,hvi.ext k3,VStep.of_ext b V k3,.inl ⟨hk,h3,rfl⟩⟩
 ·refine (make_no b V ts t ht h3 (fun g' hg' _ => by rw [mapOk_same hg' hg]; exact h1) (fun g' hg' _ => by rw [mapOk_same hg' hg]; exact h2) hm w0 hvi).mono fun e w' ⟨h,V',k1,k2,k3,k4⟩ => ?_
  exact ⟨h,_,V',_,k1,k2,k3,k4,.inr ⟨h3,rfl,rfl⟩⟩

set_option maxRecDepth 100000 in
set_option maxHeartbeats 1000000 in
theorem make_nil (b fb nb : Nat) (c c2 : Nat) (t : Tm) (ht : t.ok) (n1 : b≠fb) (n2 : b≠nb) (n3 : fb≠nb) (w0 : World) (k1 : w0.heap[b]? = some (.cells [Value.slice none 0 0,.map (some fb),.map (some nb)].toArray 41 (0,0))) (k2 : w0.heap[fb]? = some (.map #[] c)) (k3 : w0.heap[nb]? = some (.map #[] c2)) :
    Calls Tryd.prog 23 #[.pointer (some ⟨b,0,none⟩),tv t] w0 fun e w' => ∃ h V',e = .returned (hnd h)∧h = nm 0∧VI w' b V' [t]∧Mod (fun x => x = b∨x = fb∨x = nb) w0 w'∧V'.fb = fb∧V'.nb = nb∧w0.heap.size≤V'.sb:=by
  refine enter Tryd.func23 rfl rfl rfl ?_
  intro a hS
  have hH:=Hp.start w0 (fun x => x = b∨x = fb∨x = nb)
  replace hH:=((hH.know k3 (fun p hp => by simp at hp)).know k2 (fun p hp => by simp at hp; subst hp; exact Ne.symm n3)).know k1 (fun p hp => by simp at hp; rcases hp with rfl | rfl; exact Ne.symm n1; exact Ne.symm n2)
  obtain ⟨lx,hkt⟩:=Fc.tm.keyOf ht
  obtain ⟨g1',hs1⟩:=exists_set (fun _ => none) (tv t) (.int .i64 ((0 : Nat) : Int))
  obtain ⟨g2',hs2⟩:=exists_set (fun _ => none) (hnd (nm 0)) (.int .i64 ((0 : Nat) : Int))
  refine c_seq (reg_plain w0 (fun x => x = b∨x = fb∨x = nb) ?_)
  refine r_box hS hH (by repeat' constructor) rfl rfl rfl ?_
  clear hS hH; intro a w b3 hb3 hwb3 hS hH
  refine r_alloc hS hH (by repeat' constructor) Fc.zc26 rfl ?_
  clear hS hH; intro a w b4 hb4 hwb4 hS hH
  refine Sq.nil (then_n (c_seq (c_seq ?_)))
  refine reg_draw [(true,0,[]),(true,1,[]),(true,2,[]),(true,3,[]),(true,4,[]),(true,5,[]),(true,6,[]),(true,7,[]),(true,8,[]),(true,9,[]),(true,10,[])] Fc.mixed (by kernel_rfl) (by kernel_rfl) (by kernel_rfl) (by kernel_rfl) (by kernel_rfl) (by repeat (first | with_reducible exact steady_body | with_reducible apply steady_block | with_reducible apply steady_then | exact steady_body)) hH ?_
  replace hH:=hH.drew
  refine r_move hS trivial rfl rfl (x_nilCheck trivial rfl rfl (x_fieldAddr trivial rfl Fc.fo41_1 rfl (x_load_scS rfl (by repeat' constructor) Fc.sc38 (by rfl) rfl (x_load_rowS rfl (by repeat' constructor) Fc.ag64 (by rfl) rfl (x_lookupS2 Fc.mtF rfl rfl (by repeat' constructor) MapOk.empty hkt rfl rfl rfl (x_move trivial rfl rfl (x_extract trivial rfl rfl rfl (x_extract trivial rfl rfl rfl (x_assign trivial rfl rfl (x_assign trivial rfl rfl ?_)))))))))); clear hS; intro a hS
  refine Sq.nil (then_n (c_seq (reg_plain w0 (fun x => x = b∨x = fb∨x = nb) ?_)))
  refine r_move hS hH.kp0 rfl rfl (x_move hH.kp0 rfl rfl (Sq.xguardNo rfl rfl rfl hH.kp0 rfl (Sq.xguardNo rfl rfl rfl hH.kp0 rfl (Sq.xguardNo rfl rfl rfl hH.kp0 rfl (x_pickF hH.kp0 rfl rfl rfl rfl ?_))))); clear hS; intro a hS
  refine Sq.nil (then_n (c_condF hS rfl rfl (wp_skip (then_n (c_seq (reg_plain w0 (fun x => x = b∨x = fb∨x = nb) ?_))))))
  refine r_move hS hH.kp0 rfl rfl (x_nilCheck hH.kp0 rfl rfl (x_fieldAddr hH.kp0 rfl Fc.fo41_0 rfl (x_load_sc hH (by repeat' constructor) rfl (by repeat' constructor) Fc.sc37 (by rfl) rfl (x_lenSl hH.kp0 rfl Fc.isSlice37 rfl (x_assign hH.kp0 rfl rfl ?_))))); clear hS; intro a hS
  refine Sq.nil (then_n (c_seq ?_))
  refine reg_draw [(true,0,[2]),(true,1,[2]),(true,2,[2]),(true,3,[2]),(true,4,[]),(true,5,[2]),(false,6,[]),(false,7,[]),(true,8,[2]),(true,9,[2]),(false,10,[2])] Fc.mixed (by kernel_rfl) (by kernel_rfl) (by kernel_rfl) (by kernel_rfl) (by kernel_rfl) (by repeat (first | with_reducible exact steady_body | with_reducible apply steady_block | with_reducible apply steady_then | exact steady_body)) hH ?_
  replace hH:=hH.drew
  refine r_move hS trivial rfl rfl (x_move trivial rfl rfl (x_nilCheck trivial rfl rfl (x_fieldAddr trivial rfl Fc.fo41_0 rfl (x_load_scS rfl (by repeat' constructor) Fc.sc37 (by rfl) rfl (x_load_rowS rfl (by repeat' constructor) Fc.ag64 (by rfl) rfl ?_))))); clear hS; intro a hS
  refine r_buildSlice (parts:=[(0,.tmp 35)]) hS hH (by repeat' constructor) rfl Fc.bsl37_1 (by rfl) rfl ?_
  clear hS hH; intro a w b36 hb36 hwb36 hS hH
  refine r_append_nil hS hH (by repeat' constructor) rfl rfl Fc.elT Fc.niT (Src.terms (hH.get .here)) (by decide) (by decide) rfl ?_
  clear hS hH; intro a w sb' cap' l2 hsb' _ hl2 hc2 htk _ hS hH
  refine r_nilCheck hS trivial rfl rfl (x_fieldAddr trivial rfl Fc.fo41_0 rfl ?_); clear hS; intro a hS
  refine r_store1 hS hH rfl rfl rfl (by repeat' constructor) (by repeat' constructor) Fc.sz37 (of_decide_eq_true rfl) (.inl (.inl rfl)) ?_
  clear hH; intro w hH
  refine Sq.nil (then_n (c_seq ?_))
  refine reg_draw [(true,0,[5]),(true,1,[5]),(true,2,[5]),(true,3,[5]),(true,4,[5]),(true,5,[5]),(false,6,[5])] Fc.mixed (by kernel_rfl) (by kernel_rfl) (by kernel_rfl) (by kernel_rfl) (by kernel_rfl) (by repeat (first | with_reducible exact steady_body | with_reducible apply steady_block | with_reducible apply steady_then | exact steady_body)) hH ?_
  replace hH:=hH.drew
  refine r_move hS trivial rfl rfl (x_nilCheck trivial rfl rfl (x_fieldAddr trivial rfl Fc.fo41_1 rfl (x_load_scS rfl (by repeat' constructor) Fc.sc38 (by rfl) rfl (x_load_rowS rfl (by repeat' constructor) Fc.ag64 (by rfl) rfl (x_move trivial rfl rfl ?_))))); clear hS; intro a hS
  refine r_mapUpdate2 Fc.mtF hS hH rfl rfl rfl (fun es' clock' => (by repeat' constructor)) (fun es' clock' => (by repeat' constructor)) MapOk.empty hkt hs1 (.inl (.inr (.inl rfl))) ?_
  clear hH; intro w es' c' hm1' hH
  refine Sq.nil (then_n (c_seq ?_))
  refine reg_draw [(true,0,[6]),(true,1,[6]),(true,2,[6]),(true,3,[6]),(true,4,[6]),(true,6,[6]),(false,5,[]),(false,7,[6])] Fc.mixed (by kernel_rfl) (by kernel_rfl) (by kernel_rfl) (by kernel_rfl) (by kernel_rfl) (by repeat (first | with_reducible exact steady_body | with_reducible apply steady_block | with_reducible apply steady_then | exact steady_body)) hH ?_
  replace hH:=hH.drew
  refine r_move hS trivial rfl rfl (x_nilCheck trivial rfl rfl (x_fieldAddr trivial rfl Fc.fo41_2 rfl (x_load_scS rfl (by repeat' constructor) Fc.sc39 (by rfl) rfl (x_move trivial rfl rfl (x_move trivial rfl rfl ?_))))); clear hS; intro a hS
  refine r_call (l:=[.tmp 50]) hS rfl rfl Fc.fn30 rfl ?_
  refine Calls.mono (name_c 0 (by omega) _) ?_
  rintro e w1 ⟨h,rfl,hqx,hE⟩
  obtain ⟨x0,x1,x2,x3,x4,x5,x6,x7,x8,x9,xa,xb,xc,xd,xe,xf,rfl⟩:=len16 (h:=h) (by rw [hqx]; rfl)
  replace hH:=hH.ext hE
  refine ⟨_,rfl,hH.kp (by repeat' constructor),?_⟩
  clear hS; intro a hS
  refine r_mapUpdate2 Fc.mtN hS hH rfl rfl rfl (fun es' clock' => (by repeat' constructor)) (fun es' clock' => (by repeat' constructor)) MapOk.empty (Fc.arrH.keyOf (h:=[x0,x1,x2,x3,x4,x5,x6,x7,x8,x9,xa,xb,xc,xd,xe,xf]) rfl) (by rw [←hqx] at hs2; exact hs2) (.inl (.inr (.inr rfl))) ?_
  clear hH; intro w es2' c2' hm2' hH
  refine Sq.nil (then_n (c_seq (reg_plain w0 (fun x => x = b∨x = fb∨x = nb) ?_)))
  refine r_move hS hH.kp0 rfl rfl ?_; clear hS; intro a hS
  refine r_call (l:=[.tmp 53]) hS rfl rfl Fc.fn30 rfl ?_
  refine Calls.mono (name_c 0 (by omega) _) ?_
  rintro e w1 ⟨h,rfl,hqy,hE⟩
  obtain ⟨y0,y1,y2,y3,y4,y5,y6,y7,y8,y9,ya,yb,yc,yd,ye,yf,rfl⟩:=len16 (h:=h) (by rw [hqy]; rfl)
  replace hH:=hH.ext hE
  refine ⟨_,rfl,hH.kp0,?_⟩
  clear hS; intro a hS
  refine r_store_row hS hH rfl rfl (by repeat' constructor) (by repeat' constructor) Fc.sz26 (by first | exact hcells_one _ | exact of_decide_eq_true rfl) (by rfl) (by first | exact .inr (by assumption) | exact .inl (by first | assumption | rfl)) ?_
  clear hH; intro w hH
  refine Sq.nil (then_n (wp_ret ?_))
  refine leave (.inl rfl) hS rfl (Res.cell rfl (hH.get (by repeat' constructor)) Fc.ag26 (by rfl) rfl Res.nil) ?_
  refine ⟨_,⟨sb',fb,nb,cap',l2,es',c',es2',c2'⟩,rfl,hqy,?_,hH.mod,rfl,rfl,hsb'⟩
  refine hH.vin2 (m:=1) ⟨hl2,hc2,by rw [show ([t] : List Tm).length * 7 = 1 * 7 from rfl,htk]; simp,by intro u hu; rw [List.mem_singleton.1 hu]; exact ht,⟨g1',hm1',Fnd.push (ts:=[]) ⟨fun u v h => by simp at h,fun u i h => by simp at h⟩ (.inr (by simp)) hs1⟩,⟨g2',hm2',Nms.push (m:=0) (fun u v => by simp) (by decide) hs2⟩⟩ rfl ?_ n3 (by repeat' constructor) (by repeat' constructor) (by repeat' constructor) (by repeat' constructor)
  intro e; have nd:=hH.nd; rw [e] at nd; simp at nd

set_option maxRecDepth 100000 in
set_option maxHeartbeats 400000 in
theorem New_c (w0 : World) : Calls Tryd.prog 6 #[] w0 fun e w' => ∃ b V,e = .returned (.pointer (some ⟨b,0,none⟩))∧VI w' b V [rootT]∧Ext w0 w'∧∀ x,V.F b x→w0.heap.size≤x:=by
 refine enter Tryd.func6 rfl rfl rfl ?_
 intro a hS
 have hH:=Hp.start w0 (Nobody)
 refine c_seq (reg_plain w0 (Nobody) ?_)
 refine r_assign hS hH.kp0 rfl rfl ?_; clear hS; intro a hS
 refine Sq.nil (then_n (c_seq (reg_plain w0 (Nobody) ?_)))
 refine r_makeMap hS hH (by repeat' constructor) Fc.isMap38 rfl ?_
 clear hS hH; intro a w b2 hb2 hwb2 hS hH
 refine r_makeMap hS hH (by repeat' constructor) Fc.isMap39 rfl ?_
 clear hS hH; intro a w b3 hb3 hwb3 hS hH
 refine r_buildS (parts:=[(1,.tmp 2),(2,.tmp 3)]) hS hH.kp0 rfl rfl Fc.zc41 Fc.pl41 (by rfl) ?_; clear hS; intro a hS
 refine r_box hS hH (by repeat' constructor) rfl rfl rfl ?_
 clear hS hH; intro a w b5 hb5 hwb5 hS hH
 refine r_assign hS hH.kp0 rfl rfl ?_; clear hS; intro a hS
 refine Sq.nil (then_n (c_seq (reg_plain w0 (Nobody) ?_)))
 refine r_move hS hH.kp0 rfl rfl (x_buildS (parts:=[(0,.const (.int .i64 0))]) hH.kp0 rfl rfl Fc.zc64 Fc.pl64 (by rfl) ?_); clear hS; intro a hS
 refine r_call (l:=[.tmp 6,.tmp 7]) hS rfl rfl Fc.fn23 rfl ?_
 have nd:=hH.nd
 simp only [List.map_cons,List.map_nil,List.nodup_cons,List.mem_cons,not_or] at nd
 refine Calls.mono (make_nil b5 b2 b3 0 0 rootT rootT_ok nd.1.2.1 nd.1.1 (Ne.symm nd.2.1.1) _ (hH.get (by repeat' constructor)) (hH.get (by repeat' constructor)) (hH.get (by repeat' constructor))) ?_
 rintro e w1 ⟨h,V,rfl,hqx,hvi,hM,e1,e2,hsb⟩
 have hsz:=hH.mod.size
 replace hH : Hp w0 Nobody [] w1:=⟨fun p hp => by simp at hp,by simp,hH.mod.trans hM (fun c hc hh => by rcases hh with rfl | rfl | rfl <;> omega)⟩
 refine ⟨_,rfl,hH.kp0,?_⟩
 clear hS; intro a hS
 refine Sq.nil (then_n (c_seq (reg_plain w0 (Nobody) ?_)))
 refine r_move hS hH.kp0 rfl rfl (x_assign hH.kp0 rfl rfl ?_); clear hS; intro a hS
 refine Sq.nil (then_n (wp_ret ?_))
 refine leave (.inl rfl) hS rfl (Res.tmp rfl Res.nil) ⟨_,V,rfl,hvi,hH.mod,?_⟩
 intro x hx
 rcases hx with rfl | rfl | rfl | rfl
 ·exact hb5
 ·exact Nat.le_trans hsz hsb
 ·rw [e1]; exact hb2
 ·rw [e2]; exact hb3

set_option maxRecDepth 100000 in
set_option maxHeartbeats 400000 in
theorem none_v (b : Nat) (V : VB) (ts : List Tm) (w0 : World) (hvi : VI w0 b V ts) : Calls Tryd.prog 24 #[.pointer (some ⟨b,0,none⟩)] w0 fun e w' => e = .returned (.bool false)∧Ext w0 w':=by
  refine enter Tryd.func24 rfl rfl rfl ?_
  intro a hS
  have hH:=Hp.start w0 (Nobody)
  replace hH:=hH.knowV hvi (by intro p hp; simp at hp)
  refine c_seq (reg_plain w0 (Nobody) ?_)
  refine r_assign hS hH.kp0 rfl rfl ?_; clear hS; intro a hS
  refine Sq.nil (then_n (c_seq (reg_plain w0 (Nobody) ?_)))
  refine r_move hS hH.kp0 rfl rfl (x_ptrNil hH.kp0 rfl Fc.isPtr23 rfl (x_move hH.kp0 rfl rfl (Sq.xguardYes rfl rfl rfl (x_move hH.kp0 rfl rfl (Sq.xguardYes rfl rfl rfl (x_nilCheck hH.kp0 rfl rfl (Sq.xguardYes rfl rfl rfl (x_fieldAddr hH.kp0 rfl Fc.fo41_2 rfl (Sq.xguardYes rfl rfl rfl (x_load_sc hH (by repeat' constructor) rfl (by repeat' constructor) Fc.sc39 (by rfl) rfl (Sq.xguardYes rfl rfl rfl (x_mapNil hH.kp0 rfl Fc.isMap39 rfl (x_pickF hH.kp0 rfl rfl rfl rfl (x_assign hH.kp0 rfl rfl ?_)))))))))))))); clear hS; intro a hS
  refine Sq.nil (then_n (wp_ret ?_))
  exact leave (.inl rfl) hS rfl (Res.tmp rfl Res.nil) ⟨rfl,hH.mod⟩

set_option maxRecDepth 100000 in
set_option maxHeartbeats 400000 in
theorem Root_v (b : Nat) (V : VB) (ts : List Tm) (w0 : World) (hvi : VI w0 b V ts) : Calls Tryd.prog 16 #[.pointer (some ⟨b,0,none⟩)] w0 fun e w' => ∃ h,e = .returned (hnd h)∧h = nm 0∧Ext w0 w':=by
  refine enter Tryd.func16 rfl rfl rfl ?_
  intro a hS
  have hH:=Hp.start w0 (Nobody)
  refine c_seq (reg_plain w0 (Nobody) ?_)
  refine r_alloc hS hH (by repeat' constructor) Fc.zc26 rfl ?_
  clear hS hH; intro a w b2 hb2 hwb2 hS hH
  refine Sq.nil (then_n (c_seq (c_seq (reg_plain w0 (Nobody) ?_))))
  refine r_move hS hH.kp0 rfl rfl ?_; clear hS; intro a hS
  refine r_call (l:=[.tmp 3]) hS rfl rfl Fc.fn24 rfl ?_
  refine Calls.mono (none_v b V ts _ (hvi.ext hH.mod)) ?_
  rintro e w1 ⟨rfl,hE⟩
  replace hH:=hH.ext hE
  refine ⟨_,rfl,hH.kp0,?_⟩
  clear hS; intro a hS
  refine Sq.nil (then_n (c_condF hS rfl rfl (wp_skip (then_n (c_seq (reg_plain w0 (Nobody) ?_))))))
  refine r_call (l:=[.const (.int .i64 0)]) hS rfl rfl Fc.fn30 rfl ?_
  refine Calls.mono (name_c 0 (by omega) _) ?_
  rintro e w1 ⟨h,rfl,hqx,hE⟩
  obtain ⟨x0,x1,x2,x3,x4,x5,x6,x7,x8,x9,xa,xb,xc,xd,xe,xf,rfl⟩:=len16 (h:=h) (by rw [hqx]; rfl)
  replace hH:=hH.ext hE
  refine ⟨_,rfl,hH.kp0,?_⟩
  clear hS; intro a hS
  refine r_store_row hS hH rfl rfl (by repeat' constructor) (by repeat' constructor) Fc.sz26 (by first | exact hcells_one _ | exact of_decide_eq_true rfl) (by rfl) (by first | exact .inr (by assumption) | exact .inl (by first | assumption | rfl)) ?_
  clear hH; intro w hH
  refine Sq.nil (then_n (wp_ret ?_))
  exact leave (.inl rfl) hS rfl (Res.cell rfl (hH.get (by repeat' constructor)) Fc.ag26 (by rfl) rfl Res.nil) ⟨_,rfl,hqx,hH.mod⟩

set_option maxRecDepth 100000 in
set_option maxHeartbeats 400000 in
theorem Fresh_v (b : Nat) (V : VB) (ts : List Tm) (hm : ts.length≤1000000000) (w0 : World) (hvi : VI w0 b V ts) : Calls Tryd.prog 7 #[.pointer (some ⟨b,0,none⟩)] w0 fun e w' => ∃ h V' , e = .returned (hnd h)∧h = nm ts.length∧VI w' b V' (ts++[freshT])∧VStep w0 w' b V V':=by
 refine enter Tryd.func7 rfl rfl rfl ?_
 intro a hS
 have hH:=Hp.start w0 (V.F b)
 replace hH:=hH.knowV hvi (by intro p hp; simp at hp)
 have hVS:=VS.start w0 b V
 refine c_seq (reg_plain w0 (V.F b) ?_)
 refine r_alloc hS hH (by repeat' constructor) Fc.zc26 rfl ?_
 clear hS hH; intro a w b2 hb2 hwb2 hS hH
 refine Sq.nil (then_n (c_seq (c_seq (reg_plain w0 (V.F b) ?_))))
 refine r_move hS hH.kp0 rfl rfl ?_; clear hS; intro a hS
 refine r_call (l:=[.tmp 3]) hS rfl rfl Fc.fn24 rfl ?_
 refine Calls.mono (none_v b V ts _ (hH.vin hvi.ok hvi.n01 hvi.n23 (by repeat' constructor) (by repeat' constructor) (by repeat' constructor) (by repeat' constructor))) ?_
 rintro e w1 ⟨rfl,hE⟩
 replace hH:=hH.ext hE
 refine ⟨_,rfl,hH.kp0,?_⟩
 clear hS; intro a hS
 refine Sq.nil (then_n (c_condF hS rfl rfl (wp_skip (then_n (c_seq (reg_plain w0 (V.F b) ?_))))))
 refine r_move hS hH.kp0 rfl rfl (x_buildS (parts:=[(0,.const (.int .i64 1))]) hH.kp0 rfl rfl Fc.zc64 Fc.pl64 (by rfl) ?_); clear hS; intro a hS
 refine r_call (l:=[.tmp 6,.tmp 7]) hS rfl rfl Fc.fn23 rfl ?_
 refine Calls.mono (make_c b V ts freshT freshT_ok hm _ (hH.vin hvi.ok hvi.n01 hvi.n23 (by repeat' constructor) (by repeat' constructor) (by repeat' constructor) (by repeat' constructor))) ?_
 rintro e w1 ⟨h,i,V1,ts1,rfl,hqx,hvi1,hst,hmd⟩
 obtain ⟨x0,x1,x2,x3,x4,x5,x6,x7,x8,x9,xa,xb,xc,xd,xe,xf,rfl⟩:=len16 (h:=h) (by rw [hqx]; rfl)
 have hVS1:=hVS.step hst hH.mod.size
 replace hH:=hH.vault hVS hst hvi1 (by repeat' constructor)
 refine ⟨_,rfl,hH.kp0,?_⟩
 clear hS; intro a hS
 refine r_store_row hS hH rfl rfl (by repeat' constructor) (by repeat' constructor) Fc.sz26 (by first | exact hcells_one _ | exact of_decide_eq_true rfl) (by rfl) (by first | exact .inr (by assumption) | exact .inl (by first | assumption | rfl)) ?_
 clear hH; intro w hH
 refine Sq.nil (then_n (wp_ret ?_))
 refine leave (.inl rfl) hS rfl (Res.cell rfl (hH.get (by repeat' constructor)) Fc.ag26 (by rfl) rfl Res.nil) ?_
 rcases hmd with ⟨h,_⟩ | ⟨_,rfl,rfl⟩
 ·exact absurd rfl h
 ·exact ⟨_,V1,rfl,hqx,(hH.vin hvi1.ok hvi1.n01 hvi1.n23 (by repeat' constructor) (by repeat' constructor) (by repeat' constructor) (by repeat' constructor)),⟨hVS1,hH.mod⟩⟩

end Go.Proofs.YtcjmehononbadaaDoor
namespace Go.Proofs.YtcjmehononbadaaDoor
open Go.Sym

theorem Fc.el31 : elB Tryd.prog 31 = some (22,1,24):=by kernel_rfl
theorem Fc.fo64_1 : foff Tryd.prog 64 1 = some 1:=by kernel_rfl
theorem Fc.fo64_2 : foff Tryd.prog 64 2 = some 2:=by kernel_rfl
theorem Fc.fo71_0 : foff Tryd.prog 71 0 = some 0:=by kernel_rfl
theorem Fc.fo71_1 : foff Tryd.prog 71 1 = some 1:=by kernel_rfl
theorem Fc.inf22 : (Tryd.prog.info? 22).isSome = true:=by kernel_rfl
theorem Fc.isSlice22 : isSlice Tryd.prog 22 = true:=by kernel_rfl
theorem Fc.isSlice31 : isSlice Tryd.prog 31 = true:=by kernel_rfl
theorem Fc.isStr9 : isStr Tryd.prog 9 = true:=by kernel_rfl
theorem Fc.ni31 : notInt Tryd.prog 31 = true:=by kernel_rfl
theorem Fc.sc23 : scB Tryd.prog 23 = true:=by kernel_rfl
theorem Fc.sc4 : scB Tryd.prog 4 = true:=by kernel_rfl
theorem Fc.sc69 : scB Tryd.prog 69 = true:=by kernel_rfl
theorem Fc.slb22 : slB Tryd.prog 22 = some 1:=by kernel_rfl
theorem Fc.slb69 : slB Tryd.prog 69 = some 1:=by kernel_rfl
theorem Fc.sz4 : sizeB Tryd.prog 4 1 = true:=by kernel_rfl
theorem Fc.u8s22 : u8s Tryd.prog 22 = true:=by kernel_rfl
theorem Fc.uls31 : Tryd.prog.underlying 31 = some (.slice 22):=by kernel_rfl
set_option maxRecDepth 100000 in
set_option maxHeartbeats 2000000 in
theorem read_v (b : Nat) (V : VB) (ts : List Tm) (hm : ts.length≤1000000000) (bs bk : Nat) (tdv : Value) (K : List Bool) (hK : K.length = ts.length) (v : Value) (l : List UInt8) (hl : l.length≤1099511627776) (w0 : World) (hvi : VI w0 b V ts) (h1 : w0.heap[bs]? = some (.cells [.pointer (some ⟨b,0,none⟩),.slice (some ⟨bk,0,none⟩) ts.length ts.length,tdv].toArray 71 (0,0))) (h2 : w0.heap[bk]? = some (.cells (bools K).toArray 4 (0,0))) (hb : BsF (fun x => x = bk) w0 v l) :
  Calls Tryd.prog 56 #[.pointer (some ⟨bs,0,none⟩),v] w0 fun e w' => ∃ u K',e = .returned u∧K'.length = ts.length∧w'.heap[bk]? = some (.cells (bools K').toArray 4 (0,0))∧(∀ j,KT K' j↔KT K j∨(j < ts.length∧HasN l j))∧Mod (fun x => x = bk) w0 w':=by
 refine enter Tryd.func56 rfl rfl rfl ?_
 intro a hS
 have hH:=Hp.start w0 (fun x => x = bk)
 obtain ⟨q,qc,hsl⟩:=hb.bs
 have hv9:=hsl.val
 subst hv9
 have nbk : bs≠bk:=by intro e; rw [e,h2] at h1; simp at h1
 replace hH:=((hH.knowV hvi (by intro p hp; simp at hp)).know h2 (hvi.ne4 h2 (by decide) (by decide))).know h1 (by intro p hp; rcases List.mem_cons.1 hp with rfl | hp; exact Ne.symm nbk; exact hvi.ne4 h1 (by decide) (by decide) p hp)
 obtain ⟨g2,hm2,hf2⟩:=hvi.ok.names
 refine c_seq (reg_plain w0 (fun x => x = bk) ?_)
 refine r_assign hS hH.kp0 rfl rfl ?_; clear hS; intro a hS
 refine Sq.nil (then_n (wp_block ?_))
 refine c_loop (fun m a w => ∃ (i : Nat) (ii : Int) (K1 : List Bool),m + i = l.length∧ii = i∧K1.length = ts.length∧(∀ j,KT K1 j↔KT K j∨(j < ts.length∧∃ z,z < i∧z + 16≤l.length∧(l.drop z).take 16 = nm j))∧St 39 (lv [(0,.pointer (some ⟨bs,0,none⟩)),(1,.slice q l.length qc),(4,.int .i64 ii)]) a∧Hp w0 (fun x => x = bk) [(bs,.cells [.pointer (some ⟨b,0,none⟩),.slice (some ⟨bk,0,none⟩) ts.length ts.length,tdv].toArray 71 (0,0)),(bk,.cells (bools K1).toArray 4 (0,0)),(b,.cells (V.top ts.length).toArray 41 (0,0)),(V.sb,.cells V.l.toArray 64 (0,0)),(V.fb,.map V.es V.c),(V.nb,.map V.es' V.c')] w) (l.length) ?_ ?_
 ·exact ⟨0,_,K,by omega,rfl,hK,fun j => by simp,hS.live ⟨rfl,rfl,rfl,trivial⟩,hH⟩
 clear hS hH; intro m a w hI; obtain ⟨i,ii,K1,hmi,hii,hK1,hR,hS,hH⟩:=hI
 refine c_seq (c_seq (reg_plain w0 (fun x => x = bk) ?_))
 refine r_move hS hH.kp0 rfl rfl (x_add hH.kp0 rfl rfl rfl (by omega) (x_move hH.kp0 rfl rfl (x_lenSl hH.kp0 rfl Fc.isSlice22 rfl (x_leq hH.kp0 rfl rfl rfl ?_)))); clear hS; intro a hS
 refine Sq.nil (then_n ?_)
 refine c_cond hS rfl (fun hc0 => ?_) (fun hc0 => ?_)
 ·have hlt:=of_decide_eq_true hc0
  obtain ⟨ba,bo,hq⟩:=hsl.addr (by omega)
  subst hq
  have hcl:=fun w k => hb.cells16 i w k
  have hsle:=hsl.le
  obtain ⟨g,hg⟩ : ∃ g,g = (l.drop i).take 16:=⟨_,rfl⟩
  rw [←hg] at hcl
  have hg16 : g.length = 16:=by rw [hg]; simp; omega
  obtain ⟨g0,g1,g2,g3,g4,g5,g6,g7,g8,g9,ga,gb,gc,gd,ge,gf,rfl⟩:=len16 hg16
  obtain ⟨n0,th,e1,e2,hcase⟩:=hf2.look2 [g0,g1,g2,g3,g4,g5,g6,g7,g8,g9,ga,gb,gc,gd,ge,gf]
  refine wp_skip (then_n (c_seq (wp_block (c_seq ?_))))
  refine reg_draw [(true,0,[]),(true,1,[]),(true,2,[]),(true,3,[]),(true,4,[]),(true,5,[]),(true,6,[]),(true,7,[]),(true,8,[]),(true,9,[]),(true,10,[]),(true,11,[]),(true,12,[]),(true,13,[]),(true,14,[]),(true,15,[]),(true,16,[]),(true,17,[]),(true,18,[]),(true,19,[])] Fc.mixed (by kernel_rfl) (by kernel_rfl) (by kernel_rfl) (by kernel_rfl) (by kernel_rfl) (by repeat (first | with_reducible exact steady_body | with_reducible apply steady_block | with_reducible apply steady_then | exact steady_body)) hH ?_
  replace hH:=hH.drew
  refine r_move hS trivial rfl rfl (x_nilCheck trivial rfl rfl (x_fieldAddr trivial rfl Fc.fo71_0 rfl (x_load_scS rfl (by repeat' constructor) Fc.sc23 (by rfl) rfl (x_nilCheck trivial rfl rfl (x_fieldAddr trivial rfl Fc.fo41_2 rfl (x_load_scS rfl (by repeat' constructor) Fc.sc39 (by rfl) rfl (x_move trivial rfl rfl (x_move trivial rfl rfl (x_move trivial rfl rfl (x_add trivial rfl rfl rfl (by omega) (x_slLoHi (ll:=i) (hh:=i + 16) trivial rfl rfl rfl Fc.slb22 hii (by omega) (by omega) (by omega) rfl ?_))))))))))); clear hS; intro a hS
  rw [if_neg (show ¬ qc = i by omega)] at hS
  refine r_toArr hS trivial rfl Fc.ar26 (by omega) rfl (x_load_cellsS (l:=hcells [g0,g1,g2,g3,g4,g5,g6,g7,g8,g9,ga,gb,gc,gd,ge,gf]) rfl Fc.ag26 rfl (fun w hw => hcl w hw.2) rfl (x_lookupS2 Fc.mtN rfl rfl (by repeat' constructor) hm2 (Fc.arrH.keyOf (h:=[g0,g1,g2,g3,g4,g5,g6,g7,g8,g9,ga,gb,gc,gd,ge,gf]) rfl) e1 e2 rfl (x_move trivial rfl rfl (x_extract trivial rfl rfl rfl (x_extract trivial rfl rfl rfl (x_assign trivial rfl rfl (x_assign trivial rfl rfl ?_))))))); clear hS; intro a hS
  refine Sq.nil (then_n (c_seq (reg_plain w0 (fun x => x = bk) ?_)))
  refine r_move hS hH.kp0 rfl rfl ?_; clear hS; intro a hS
  refine Sq.nil (then_n ?_)
  refine c_cond hS rfl (fun hc1 => ?_) (fun hc1 => ?_)
  ·rcases hcase.symm with ⟨h,_⟩ | ⟨_,j,hj,hn0,hgj⟩
   ·rw [h] at hc1; cases hc1
   subst hn0
   refine reg_plain w0 (fun x => x = bk) ?_
   refine r_move hS hH.kp0 rfl rfl (x_nilCheck hH.kp0 rfl rfl (x_fieldAddr hH.kp0 rfl Fc.fo71_1 rfl (x_load_sc hH (by repeat' constructor) rfl (by repeat' constructor) Fc.sc69 (by rfl) rfl (x_move hH.kp0 rfl rfl (x_indexAddrS (j:=j) hH.kp0 rfl rfl Fc.slb69 rfl hj rfl ?_))))); clear hS; intro a hS
   refine r_store1 hS hH rfl rfl rfl (by repeat' constructor) (by repeat' constructor) Fc.sz4 (by rw [bools_len]; omega) (.inl rfl) ?_; clear hH; intro w hH
   rw [spl_bools (by omega)] at hH
   refine Sq.nil ?_
   obtain ⟨K2,hK2e⟩ : ∃ z,z = K1.set j true:=⟨_,rfl⟩
   rw [←hK2e] at hH
   have hK2 : K2.length = ts.length:=by rw [hK2e]; simp [hK1]
   have hR2 : ∀ x,KT K2 x↔KT K1 x∨(x < ts.length∧[g0,g1,g2,g3,g4,g5,g6,g7,g8,g9,ga,gb,gc,gd,ge,gf] = nm x):=by
    intro x; rw [hK2e,KT_set (by omega) x]
    constructor
    ·rintro (h | rfl)
     ·exact .inl h
     ·exact .inr ⟨hj,hgj⟩
    ·rintro (h | ⟨h1,h2⟩)
     ·exact .inl h
     ·exact .inr (nm_inj (by omega) (by omega) (h2.symm.trans hgj))
   refine blk_n (then_n (reg_plain w0 (fun x => x = bk) ?_))
   refine r_move hS hH.kp0 rfl rfl (x_add hH.kp0 rfl rfl rfl (by omega) (x_assign hH.kp0 rfl rfl ?_)); clear hS; intro a hS
   refine Sq.nil (then_n ?_)
   refine ⟨m - 1,by omega,i + 1,_,K2,by omega,?_,hK2,?_,hS.live ⟨rfl,rfl,rfl,trivial⟩,hH⟩
   ·omega
   ·intro x; rw [hR2 x,hR x]; exact marks (by omega) hg
  ·rcases hcase with ⟨h,_⟩ | ⟨_,_,hno⟩
   ·rw [h] at hc1; cases hc1
   obtain ⟨K2,hK2e⟩ : ∃ z,z = K1:=⟨_,rfl⟩
   rw [←hK2e] at hH
   have hK2 : K2.length = ts.length:=by rw [hK2e]; exact hK1
   have hR2 : ∀ x,KT K2 x↔KT K1 x∨(x < ts.length∧[g0,g1,g2,g3,g4,g5,g6,g7,g8,g9,ga,gb,gc,gd,ge,gf] = nm x):=by intro x; rw [hK2e]; exact ⟨.inl,fun h => h.elim id (fun h => absurd h.2 (hno x h.1))⟩
   refine wp_skip (blk_n (then_n (reg_plain w0 (fun x => x = bk) ?_)))
   refine r_move hS hH.kp0 rfl rfl (x_add hH.kp0 rfl rfl rfl (by omega) (x_assign hH.kp0 rfl rfl ?_)); clear hS; intro a hS
   refine Sq.nil (then_n ?_)
   refine ⟨m - 1,by omega,i + 1,_,K2,by omega,?_,hK2,?_,hS.live ⟨rfl,rfl,rfl,trivial⟩,hH⟩
   ·omega
   ·intro x; rw [hR2 x,hR x]; exact marks (by omega) hg
 ·have hge:=of_decide_eq_false hc0
  refine wp_exit (then_e (then_e (blk_hit ?_)))
  exact leave (.inr rfl) hS rfl Res.nil ⟨_,K1,rfl,hK1,hH.get (.there .here),fun j => (hR j).trans (marks_end (by omega)),hH.mod⟩

set_option maxRecDepth 100000 in
set_option maxHeartbeats 1000000 in
theorem reaches_v (b : Nat) (bs bk n : Nat) (tdv : Value) (K : List Bool) (t : Tm) (ia ib : Nat) (ka kb : Bool) (hta : t.a = ia) (htb : t.b = ib) (hia : ia < n) (hib : ib < n) (hka : K[ia]? = some ka) (hkb : K[ib]? = some kb) (w0 : World) (h1 : w0.heap[bs]? = some (.cells [.pointer (some ⟨b,0,none⟩),.slice (some ⟨bk,0,none⟩) n n,tdv].toArray 71 (0,0))) (h2 : w0.heap[bk]? = some (.cells (bools K).toArray 4 (0,0))) :
  Calls Tryd.prog 57 #[.pointer (some ⟨bs,0,none⟩),tv t] w0 fun e w' => ∃ r,e = .returned (.bool r)∧(r = true↔Rch (KT K) t)∧Ext w0 w':=by
 refine enter Tryd.func57 rfl rfl rfl ?_
 intro a hS
 have hH:=Hp.start w0 (Nobody)
 have nbk : bs≠bk:=by intro e; rw [e,h2] at h1; simp at h1
 replace hH:=(hH.know h2 (by intro p hp; simp at hp)).know h1 (by intro p hp; rcases List.mem_cons.1 hp with rfl | hp; exact Ne.symm nbk; simp at hp)
 refine c_seq (reg_plain w0 (Nobody) ?_)
 refine r_box hS hH (by repeat' constructor) rfl rfl rfl ?_
 clear hS hH; intro a w b3 hb3 hwb3 hS hH
 refine r_assign hS hH.kp0 rfl rfl ?_; clear hS; intro a hS
 refine Sq.nil (then_n (c_seq (c_seq (reg_plain w0 (Nobody) ?_))))
 refine r_fieldAddr hS hH.kp0 rfl Fc.fo64_0 rfl (x_load_sc hH (by repeat' constructor) rfl (by repeat' constructor) Fc.sc3 (by rfl) rfl ?_); clear hS; intro a hS
 refine Sq.nil (then_n (wp_block (c_seq (c_seq (reg_plain w0 (Nobody) ?_)))))
 refine r_eql hS hH.kp0 rfl rfl rfl (x_assign hH.kp0 rfl rfl ?_); clear hS; intro a hS
 refine Sq.nil (then_n ?_)
 refine c_cond hS rfl (fun hc0 => ?_) (fun hc0 => ?_)
 ·have q0 : t.kind = 2:=by simpa using hc0
  refine wp_skip (then_n ?_)
  refine c_condT hS rfl hc0 ?_
  refine c_seq ?_
  refine reg_draw [(true,0,[]),(true,1,[]),(true,2,[]),(true,3,[]),(true,4,[]),(true,5,[]),(true,6,[]),(true,7,[]),(true,8,[])] Fc.mixed (by kernel_rfl) (by kernel_rfl) (by kernel_rfl) (by kernel_rfl) (by kernel_rfl) (by repeat (first | with_reducible exact steady_body | with_reducible apply steady_block | with_reducible apply steady_then | exact steady_body)) hH ?_
  replace hH:=hH.drew
  refine r_move hS trivial rfl rfl (x_nilCheck trivial rfl rfl (x_fieldAddr trivial rfl Fc.fo71_1 rfl (x_load_scS rfl (by repeat' constructor) Fc.sc69 (by rfl) rfl (x_fieldAddr trivial rfl Fc.fo64_1 rfl (x_load_scS rfl (by repeat' constructor) Fc.sc3 (by rfl) rfl (x_indexAddrS (j:=ia) trivial rfl rfl Fc.slb69 hta (by omega) rfl ?_)))))); clear hS; intro a hS
  refine r_load_scS hS rfl (by repeat' constructor) Fc.sc4 (v:=.bool ka) (by rw [nthV_eq,Nat.zero_add,Nat.mul_one]; exact bools_get hka) rfl ?_; clear hS; intro a hS
  refine r_assign hS trivial rfl rfl ?_; clear hS; intro a hS
  refine Sq.nil (then_n (wp_ret (blk_r (then_r ?_))))
  refine leave (.inl rfl) hS rfl (Res.tmp rfl Res.nil) ⟨_,rfl,?_,hH.mod⟩
  rw [reach_iff hta htb hka hkb]
  simp_all
 ·have q0 : t.kind≠2:=by simpa using hc0
  refine c_seq (reg_plain w0 (Nobody) ?_)
  refine r_eql hS hH.kp0 rfl rfl rfl (x_assign hH.kp0 rfl rfl ?_); clear hS; intro a hS
  refine Sq.nil (then_n ?_)
  refine c_cond hS rfl (fun hc1 => ?_) (fun hc1 => ?_)
  ·have q1 : t.kind = 3:=by simpa using hc1
   refine wp_skip (then_n ?_)
   refine c_condT hS rfl hc1 ?_
   refine c_seq ?_
   refine reg_draw [(true,0,[]),(true,1,[]),(true,2,[]),(true,3,[]),(true,4,[]),(true,5,[]),(true,6,[]),(true,7,[]),(true,8,[])] Fc.mixed (by kernel_rfl) (by kernel_rfl) (by kernel_rfl) (by kernel_rfl) (by kernel_rfl) (by repeat (first | with_reducible exact steady_body | with_reducible apply steady_block | with_reducible apply steady_then | exact steady_body)) hH ?_
   replace hH:=hH.drew
   refine r_move hS trivial rfl rfl (x_nilCheck trivial rfl rfl (x_fieldAddr trivial rfl Fc.fo71_1 rfl (x_load_scS rfl (by repeat' constructor) Fc.sc69 (by rfl) rfl (x_fieldAddr trivial rfl Fc.fo64_1 rfl (x_load_scS rfl (by repeat' constructor) Fc.sc3 (by rfl) rfl (x_indexAddrS (j:=ia) trivial rfl rfl Fc.slb69 hta (by omega) rfl ?_)))))); clear hS; intro a hS
   refine r_load_scS hS rfl (by repeat' constructor) Fc.sc4 (v:=.bool ka) (by rw [nthV_eq,Nat.zero_add,Nat.mul_one]; exact bools_get hka) rfl ?_; clear hS; intro a hS
   refine r_assign hS trivial rfl rfl ?_; clear hS; intro a hS
   refine Sq.nil (then_n (wp_ret (blk_r (then_r ?_))))
   refine leave (.inl rfl) hS rfl (Res.tmp rfl Res.nil) ⟨_,rfl,?_,hH.mod⟩
   rw [reach_iff hta htb hka hkb]
   simp_all
  ·have q1 : t.kind≠3:=by simpa using hc1
   refine reg_plain w0 (Nobody) ?_
   refine r_eql hS hH.kp0 rfl rfl rfl (x_assign hH.kp0 rfl rfl ?_); clear hS; intro a hS
   refine Sq.nil (then_n ?_)
   refine c_cond hS rfl (fun hc2 => ?_) (fun hc2 => ?_)
   ·have q2 : t.kind = 5:=by simpa using hc2
    refine c_seq ?_
    refine reg_draw [(true,0,[]),(true,1,[]),(true,2,[]),(true,3,[]),(true,4,[]),(true,5,[]),(true,6,[]),(true,7,[]),(true,8,[])] Fc.mixed (by kernel_rfl) (by kernel_rfl) (by kernel_rfl) (by kernel_rfl) (by kernel_rfl) (by repeat (first | with_reducible exact steady_body | with_reducible apply steady_block | with_reducible apply steady_then | exact steady_body)) hH ?_
    replace hH:=hH.drew
    refine r_move hS trivial rfl rfl (x_nilCheck trivial rfl rfl (x_fieldAddr trivial rfl Fc.fo71_1 rfl (x_load_scS rfl (by repeat' constructor) Fc.sc69 (by rfl) rfl (x_fieldAddr trivial rfl Fc.fo64_1 rfl (x_load_scS rfl (by repeat' constructor) Fc.sc3 (by rfl) rfl (x_indexAddrS (j:=ia) trivial rfl rfl Fc.slb69 hta (by omega) rfl ?_)))))); clear hS; intro a hS
    refine r_load_scS hS rfl (by repeat' constructor) Fc.sc4 (v:=.bool ka) (by rw [nthV_eq,Nat.zero_add,Nat.mul_one]; exact bools_get hka) rfl ?_; clear hS; intro a hS
    refine r_assign hS trivial rfl rfl ?_; clear hS; intro a hS
    refine Sq.nil (then_n (wp_ret (blk_r (then_r ?_))))
    refine leave (.inl rfl) hS rfl (Res.tmp rfl Res.nil) ⟨_,rfl,?_,hH.mod⟩
    rw [reach_iff hta htb hka hkb]
    simp_all
   ·have q2 : t.kind≠5:=by simpa using hc2
    refine c_seq (reg_plain w0 (Nobody) ?_)
    refine r_eql hS hH.kp0 rfl rfl rfl (x_assign hH.kp0 rfl rfl ?_); clear hS; intro a hS
    refine Sq.nil (then_n ?_)
    refine c_cond hS rfl (fun hc3 => ?_) (fun hc3 => ?_)
    ·have q3 : t.kind = 4:=by simpa using hc3
     refine c_seq ?_
     refine reg_draw [(true,0,[]),(true,1,[]),(true,2,[]),(true,3,[]),(true,4,[]),(true,5,[]),(true,6,[]),(true,7,[]),(true,8,[]),(true,9,[]),(true,10,[]),(true,11,[]),(true,12,[]),(true,13,[]),(true,14,[]),(true,15,[]),(true,16,[]),(true,17,[]),(true,18,[])] Fc.mixed (by kernel_rfl) (by kernel_rfl) (by kernel_rfl) (by kernel_rfl) (by kernel_rfl) (by repeat (first | with_reducible exact steady_body | with_reducible apply steady_block | with_reducible apply steady_then | exact steady_body)) hH ?_
     replace hH:=hH.drew
     refine r_move hS trivial rfl rfl (x_nilCheck trivial rfl rfl (x_fieldAddr trivial rfl Fc.fo71_1 rfl (x_load_scS rfl (by repeat' constructor) Fc.sc69 (by rfl) rfl (x_fieldAddr trivial rfl Fc.fo64_1 rfl (x_load_scS rfl (by repeat' constructor) Fc.sc3 (by rfl) rfl (x_indexAddrS (j:=ia) trivial rfl rfl Fc.slb69 hta (by omega) rfl ?_)))))); clear hS; intro a hS
     refine r_load_scS hS rfl (by repeat' constructor) Fc.sc4 (v:=.bool ka) (by rw [nthV_eq,Nat.zero_add,Nat.mul_one]; exact bools_get hka) rfl ?_; clear hS; intro a hS
     rcases ka with _ | _
     ·refine r_move hS trivial rfl rfl (Sq.xguardYes rfl rfl rfl (x_move trivial rfl rfl (Sq.xguardYes rfl rfl rfl (x_nilCheck trivial rfl rfl (Sq.xguardYes rfl rfl rfl (x_fieldAddr trivial rfl Fc.fo71_1 rfl (Sq.xguardYes rfl rfl rfl (x_load_scS rfl (by repeat' constructor) Fc.sc69 (by rfl) rfl (Sq.xguardYes rfl rfl rfl (x_fieldAddr trivial rfl Fc.fo64_2 rfl (Sq.xguardYes rfl rfl rfl (x_load_scS rfl (by repeat' constructor) Fc.sc3 (by rfl) rfl (Sq.xguardYes rfl rfl rfl (x_indexAddrS (j:=ib) trivial rfl rfl Fc.slb69 htb (by omega) rfl (Sq.xguardYes rfl rfl rfl ?_))))))))))))))); clear hS; intro a hS
      refine r_load_scS hS rfl (by repeat' constructor) Fc.sc4 (v:=.bool kb) (by rw [nthV_eq,Nat.zero_add,Nat.mul_one]; exact bools_get hkb) rfl ?_; clear hS; intro a hS
      refine r_pickF hS trivial rfl rfl rfl rfl (x_assign trivial rfl rfl ?_); clear hS; intro a hS
      refine Sq.nil (then_n (wp_ret (blk_r (then_r ?_))))
      refine leave (.inl rfl) hS rfl (Res.tmp rfl Res.nil) ⟨_,rfl,?_,hH.mod⟩
      rw [reach_iff hta htb hka hkb]
      simp_all
     ·refine r_move hS trivial rfl rfl (Sq.xguardNo rfl rfl rfl trivial rfl (Sq.xguardNo rfl rfl rfl trivial rfl (Sq.xguardNo rfl rfl rfl trivial rfl (Sq.xguardNo rfl rfl rfl trivial rfl (Sq.xguardNo rfl rfl rfl trivial rfl (Sq.xguardNo rfl rfl rfl trivial rfl (Sq.xguardNo rfl rfl rfl trivial rfl (Sq.xguardNo rfl rfl rfl trivial rfl (x_pickT trivial rfl rfl rfl rfl (x_assign trivial rfl rfl ?_)))))))))); clear hS; intro a hS
      refine Sq.nil (then_n (wp_ret (blk_r (then_r ?_))))
      refine leave (.inl rfl) hS rfl (Res.tmp rfl Res.nil) ⟨_,rfl,?_,hH.mod⟩
      rw [reach_iff hta htb hka hkb]
      simp_all
    ·have q3 : t.kind≠4:=by simpa using hc3
     refine wp_skip (blk_n (then_n (c_seq (reg_plain w0 (Nobody) ?_))))
     refine r_assign hS hH.kp0 rfl rfl ?_; clear hS; intro a hS
     refine Sq.nil (then_n (wp_ret ?_))
     refine leave (.inl rfl) hS rfl (Res.tmp rfl Res.nil) ⟨_,rfl,?_,hH.mod⟩
     rw [reach_iff hta htb hka hkb]
     simp_all

set_option maxRecDepth 100000 in
set_option maxHeartbeats 400000 in
theorem clone_nil (w0 : World) : Calls Tryd.prog 54 #[.slice none 0 0] w0 fun e w' => e = .returned (.slice none 0 0)∧Ext w0 w':=by
  refine enter Tryd.func54 rfl rfl rfl ?_
  intro a hS
  have hH:=Hp.start w0 (Nobody)
  refine c_seq (reg_plain w0 (Nobody) ?_)
  refine r_assign hS hH.kp0 rfl rfl ?_; clear hS; intro a hS
  refine Sq.nil (then_n (c_seq (c_seq (reg_plain w0 (Nobody) ?_))))
  refine r_move hS hH.kp0 rfl rfl (x_slNil hH.kp0 rfl Fc.isSlice31 rfl ?_); clear hS; intro a hS
  refine Sq.nil (then_n (c_condT hS rfl rfl (c_seq (reg_plain w0 (Nobody) ?_))))
  refine r_assign hS hH.kp0 rfl rfl ?_; clear hS; intro a hS
  refine Sq.nil (then_n (wp_ret (then_r ?_)))
  exact leave (.inl rfl) hS rfl (Res.tmp rfl Res.nil) ⟨rfl,hH.mod⟩

set_option maxRecDepth 100000 in
set_option maxHeartbeats 400000 in
theorem clone_sl (q : Addr) (xs : List Value) (m qc : Nat) (w0 : World) (hs : Sl 1 w0 (.slice (some q) m qc) xs m (some q) qc) (h1 : ∀ u∈xs,u.oneCell' = true) (hm : m≤1048576) : Calls Tryd.prog 54 #[.slice (some q) m qc] w0 fun e w' => ∃ (cb cap : Nat) (l2 : List Value),e = .returned (.slice (some ⟨cb,0,none⟩) m cap)∧w0.heap.size≤cb∧w'.heap[cb]? = some (.cells l2.toArray 22 (0,0))∧m≤cap∧l2.length = cap∧l2.take m = xs∧Ext w0 w':=by
 refine enter Tryd.func54 rfl rfl rfl ?_
 intro a hS
 have hH:=Hp.start w0 (Nobody)
 refine c_seq (reg_plain w0 (Nobody) ?_)
 refine r_assign hS hH.kp0 rfl rfl ?_; clear hS; intro a hS
 refine Sq.nil (then_n (c_seq (c_seq (reg_plain w0 (Nobody) ?_))))
 refine r_move hS hH.kp0 rfl rfl (x_slNil hH.kp0 rfl Fc.isSlice31 rfl ?_); clear hS; intro a hS
 refine Sq.nil (then_n (c_condF hS rfl rfl (wp_skip (then_n (c_seq (reg_plain w0 (Nobody) ?_))))))
 refine r_buildSlice0 hS hH (by repeat' constructor) Fc.uls31 Fc.inf22 rfl ?_
 clear hS hH; intro a w b5 hb5 hwb5 hS hH
 refine r_move hS hH.kp0 rfl rfl ?_; clear hS; intro a hS
 refine r_append_own hS hH rfl rfl (by repeat' constructor) (by repeat' constructor) Fc.el31 Fc.ni31 rfl (Nat.le_refl _) ((hs.ext hH.mod).src h1) (by omega) (.inr hb5) rfl ?_
 clear hS hH; intro a w ob cap1 l1 hob hl1 hc1_ htk1 _ hS hH
 refine r_assign hS hH.kp0 rfl rfl ?_; clear hS; intro a hS
 refine Sq.nil (then_n (wp_ret ?_))
 rw [Nat.zero_add] at hS hc1_ htk1
 refine leave (.inl rfl) hS rfl (Res.tmp rfl Res.nil) ⟨ob,cap1,l1,rfl,?_,hH.get .here,hc1_,by omega,?_,hH.mod⟩
 ·rcases hob with h | h; exact h.elim; exact h
 ·rw [Nat.mul_one] at htk1; rw [htk1]; simp

end Go.Proofs.YtcjmehononbadaaDoor
