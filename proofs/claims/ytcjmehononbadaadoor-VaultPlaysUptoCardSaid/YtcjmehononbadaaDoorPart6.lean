/- Two vaults under any calls answer alike. Part Part6: walks and lemmas of the proof. -/
import Derived.Test.YtcjmehononbadaaDoorPart5
namespace Go.Proofs.YtcjmehononbadaaDoor
open Go.Sym
theorem Fc.arrR : ByteArr Tryd.prog 25 16:=byteArr_mk Fc.laid (of_decide_eq_true (by kernel_rfl)) (by kernel_rfl) (by kernel_rfl) (by kernel_rfl) (by kernel_rfl) (by kernel_rfl)
theorem Fc.rfl7 : FlTy Tryd.prog 77 rbs:=flTy_mk Fc.laid (of_decide_eq_true (by kernel_rfl)) (by kernel_rfl) (by kernel_rfl) (by kernel_rfl) (by kernel_rfl) (by kernel_rfl)
abbrev RI (w : World) (b : Nat) (V : RB) (ts : List Tm) : Prop:=RIn 80 77 w b V ts
theorem Fc.ag25 : agB Tryd.prog 25 = some 16:=by kernel_rfl
theorem Fc.ag77 : agB Tryd.prog 77 = some 7:=by kernel_rfl
theorem Fc.ar25 : arrB Tryd.prog 25 = some (16,1):=by kernel_rfl
theorem Fc.bsl78_1 : bslB Tryd.prog 78 1 = some (77,7,[.int .i64 0,.int .i64 0,.int .i64 0,.string .empty,.int .i64 0,.string .empty,.string .empty]):=by kernel_rfl
theorem Fc.elR : elB Tryd.prog 78 = some (77,7,80):=by kernel_rfl
theorem Fc.fn20 : isFn Tryd.prog 20 = true:=by kernel_rfl
theorem Fc.fn31 : isFn Tryd.prog 31 = true:=by kernel_rfl
theorem Fc.fn46 : isFn Tryd.prog 46 = true:=by kernel_rfl
theorem Fc.fn60 : isFn Tryd.prog 60 = true:=by kernel_rfl
theorem Fc.fo77_0 : foff Tryd.prog 77 0 = some 0:=by kernel_rfl
theorem Fc.fo80_0 : foff Tryd.prog 80 0 = some 0:=by kernel_rfl
theorem Fc.isSlice78 : isSlice Tryd.prog 78 = true:=by kernel_rfl
theorem Fc.niR : notInt Tryd.prog 78 = true:=by kernel_rfl
theorem Fc.pl77 : placesB Tryd.prog 77 = some [(0,1),(1,1),(2,1),(3,1),(4,1),(5,1),(6,1)]:=by kernel_rfl
theorem Fc.pl80 : placesB Tryd.prog 80 = some [(0,1)]:=by kernel_rfl
theorem Fc.sc78 : scB Tryd.prog 78 = true:=by kernel_rfl
theorem Fc.slb78 : slB Tryd.prog 78 = some 7:=by kernel_rfl
theorem Fc.sz25 : sizeB Tryd.prog 25 16 = true:=by kernel_rfl
theorem Fc.sz78 : sizeB Tryd.prog 78 1 = true:=by kernel_rfl
theorem Fc.ui83 : Tryd.prog.underlying 83 = some (.int .u64):=by kernel_rfl
theorem Fc.zc25 : zcB Tryd.prog 25 = some [.int .u8 0,.int .u8 0,.int .u8 0,.int .u8 0,.int .u8 0,.int .u8 0,.int .u8 0,.int .u8 0,.int .u8 0,.int .u8 0,.int .u8 0,.int .u8 0,.int .u8 0,.int .u8 0,.int .u8 0,.int .u8 0]:=by kernel_rfl
theorem Fc.zc77 : zcB Tryd.prog 77 = some [.int .i64 0,.int .i64 0,.int .i64 0,.string .empty,.int .i64 0,.string .empty,.string .empty]:=by kernel_rfl
theorem Fc.zc80 : zcB Tryd.prog 80 = some [.slice none 0 0]:=by kernel_rfl
set_option maxRecDepth 100000 in
set_option maxHeartbeats 400000 in
theorem rmix_c (x : Nat) (w0 : World) : Calls Tryd.prog 31 #[.int .u64 (x : Int)] w0 fun e w' => e = .returned (.int .u64 (mixN x : Int))∧Ext w0 w':=by
  refine enter Tryd.func31 rfl rfl rfl ?_
  intro a hS
  have hH:=Hp.start w0 (Nobody)
  refine c_seq (reg_plain w0 (Nobody) ?_)
  refine r_assign hS hH.kp0 rfl rfl ?_; clear hS; intro a hS
  refine Sq.nil (then_n (c_seq (reg_plain w0 (Nobody) ?_)))
  refine r_move hS hH.kp0 rfl rfl (x_addN (m:=x) (m':=1) ((x + 1) % 18446744073709551616) hH.kp0 rfl rfl rfl rfl ?_); clear hS; intro a hS
  obtain ⟨z1,hz1⟩ : ∃ z,((x + 1) % 18446744073709551616 * 11400714819323198485) % 18446744073709551616 = z:=⟨_,rfl⟩
  refine r_mulN (m:=(x + 1) % 18446744073709551616) (m':=11400714819323198485) z1 hS hH.kp0 rfl rfl rfl hz1 (x_assign hH.kp0 rfl rfl ?_); clear hS; intro a hS
  refine Sq.nil (then_n (c_seq (reg_plain w0 (Nobody) ?_)))
  refine r_move hS hH.kp0 rfl rfl (x_move hH.kp0 rfl rfl (x_shrN (m:=z1) 30 (z1 >>> 30) hH.kp0 rfl rfl rfl rfl (by decide) rfl ?_)); clear hS; intro a hS
  refine r_xorN (m:=z1) (m':=z1 >>> 30) (z1 ^^^ z1 >>> 30) hS hH.kp0 rfl rfl rfl (by subst hz1; exact Nat.mod_lt _ (by decide)) (Nat.lt_of_le_of_lt (Nat.shiftRight_le _ _) (by subst hz1; exact Nat.mod_lt _ (by decide))) rfl ?_; clear hS; intro a hS
  obtain ⟨z2,hz2⟩ : ∃ z,((z1 ^^^ z1 >>> 30) * 13787848793156543929) % 18446744073709551616 = z:=⟨_,rfl⟩
  refine r_mulN (m:=z1 ^^^ z1 >>> 30) (m':=13787848793156543929) z2 hS hH.kp0 rfl rfl rfl hz2 (x_assign hH.kp0 rfl rfl ?_); clear hS; intro a hS
  refine Sq.nil (then_n (c_seq (reg_plain w0 (Nobody) ?_)))
  refine r_move hS hH.kp0 rfl rfl (x_move hH.kp0 rfl rfl (x_shrN (m:=z2) 27 (z2 >>> 27) hH.kp0 rfl rfl rfl rfl (by decide) rfl ?_)); clear hS; intro a hS
  refine r_xorN (m:=z2) (m':=z2 >>> 27) (z2 ^^^ z2 >>> 27) hS hH.kp0 rfl rfl rfl (by subst hz2; exact Nat.mod_lt _ (by decide)) (Nat.lt_of_le_of_lt (Nat.shiftRight_le _ _) (by subst hz2; exact Nat.mod_lt _ (by decide))) rfl ?_; clear hS; intro a hS
  obtain ⟨z3,hz3⟩ : ∃ z,((z2 ^^^ z2 >>> 27) * 10723151780598845931) % 18446744073709551616 = z:=⟨_,rfl⟩
  refine r_mulN (m:=z2 ^^^ z2 >>> 27) (m':=10723151780598845931) z3 hS hH.kp0 rfl rfl rfl hz3 (x_assign hH.kp0 rfl rfl ?_); clear hS; intro a hS
  refine Sq.nil (then_n (c_seq (reg_plain w0 (Nobody) ?_)))
  refine r_move hS hH.kp0 rfl rfl (x_move hH.kp0 rfl rfl (x_shrN (m:=z3) 31 (z3 >>> 31) hH.kp0 rfl rfl rfl rfl (by decide) rfl ?_)); clear hS; intro a hS
  refine r_xorN (m:=z3) (m':=z3 >>> 31) (z3 ^^^ z3 >>> 31) hS hH.kp0 rfl rfl rfl (by subst hz3; exact Nat.mod_lt _ (by decide)) (Nat.lt_of_le_of_lt (Nat.shiftRight_le _ _) (by subst hz3; exact Nat.mod_lt _ (by decide))) rfl ?_; clear hS; intro a hS
  refine r_assign hS hH.kp0 rfl rfl ?_; clear hS; intro a hS
  refine Sq.nil (then_n (wp_ret ?_))
  subst hz3 hz2 hz1
  exact leave (.inl rfl) hS rfl (Res.tmp rfl Res.nil) ⟨rfl,hH.mod⟩

set_option maxRecDepth 100000 in
set_option maxHeartbeats 2000000 in
theorem rname_c (n : Nat) (hn : n≤1000000000000) (w0 : World) : Calls Tryd.prog 20 #[.int .i64 (n : Int)] w0 fun e w' => ∃ h,e = .returned (hnd h)∧h = nm n∧Ext w0 w':=by
  refine enter Tryd.func20 rfl rfl rfl ?_
  intro a hS
  have hH:=Hp.start w0 (Nobody)
  refine c_seq (reg_plain w0 (Nobody) ?_)
  refine r_alloc hS hH (by repeat' constructor) Fc.zc25 rfl ?_
  clear hS hH; intro a w b2 hb2 hwb2 hS hH
  refine Sq.nil (then_n (c_seq (reg_plain w0 (Nobody) ?_)))
  refine r_alloc hS hH (by repeat' constructor) Fc.zc25 rfl ?_
  clear hS hH; intro a w b3 hb3 hwb3 hS hH
  refine Sq.nil (then_n (c_seq (reg_plain w0 (Nobody) ?_)))
  refine r_move hS hH.kp0 rfl rfl (x_toU64 n hH.kp0 rfl Fc.ui81 Fc.us3 rfl rfl (by omega) (x_mulN (m:=2) (m':=n) (2 * n) hH.kp0 rfl rfl rfl (Nat.mod_eq_of_lt (by omega)) ?_)); clear hS; intro a hS
  refine r_call (l:=[.tmp 9]) hS rfl rfl Fc.fn31 rfl ?_
  refine Calls.mono (rmix_c _ _) ?_
  rintro e w1 ⟨rfl,hE⟩
  replace hH:=hH.ext hE
  refine ⟨_,rfl,hH.kp0,?_⟩
  clear hS; intro a hS
  refine r_assign hS hH.kp0 rfl rfl ?_; clear hS; intro a hS
  refine Sq.nil (then_n (c_seq (reg_plain w0 (Nobody) ?_)))
  refine r_move hS hH.kp0 rfl rfl (x_toU64 n hH.kp0 rfl Fc.ui81 Fc.us3 rfl rfl (by omega) (x_mulN (m:=2) (m':=n) (2 * n) hH.kp0 rfl rfl rfl (Nat.mod_eq_of_lt (by omega)) (x_addN (m:=2 * n) (m':=1) (2 * n + 1) hH.kp0 rfl rfl rfl (Nat.mod_eq_of_lt (by omega)) ?_))); clear hS; intro a hS
  refine r_call (l:=[.tmp 14]) hS rfl rfl Fc.fn31 rfl ?_
  refine Calls.mono (rmix_c _ _) ?_
  rintro e w1 ⟨rfl,hE⟩
  replace hH:=hH.ext hE
  refine ⟨_,rfl,hH.kp0,?_⟩
  clear hS; intro a hS
  refine r_assign hS hH.kp0 rfl rfl ?_; clear hS; intro a hS
  refine Sq.nil (then_n (c_seq (c_seq (reg_plain w0 (Nobody) ?_))))
  refine r_assign hS hH.kp0 rfl rfl ?_; clear hS; intro a hS
  refine Sq.nil (then_n (wp_block ?_))
  refine wp_loop_rounds 9 ?_
  refine rnd ?_
  refine c_seq (c_seq (reg_plain w0 (Nobody) ?_))
  refine r_move hS hH.kp0 rfl rfl (x_lss hH.kp0 rfl rfl rfl ?_); clear hS; intro a hS
  refine Sq.nil (then_n (c_condT hS rfl rfl (wp_skip (then_n (c_seq (wp_block (c_seq (reg_plain w0 (Nobody) ?_))))))))
  refine r_move hS hH.kp0 rfl rfl (x_move hH.kp0 rfl rfl (x_move hH.kp0 rfl rfl (x_mul hH.kp0 rfl rfl rfl (by omega) (x_sub hH.kp0 rfl rfl rfl (by omega) (x_convInt hH.kp0 rfl Fc.ui83 Fc.us3 rfl (x_shrN (m:=mixN (2 * n)) 56 (mixN (2 * n) >>> 56) hH.kp0 rfl rfl rfl (by decide) (by decide) rfl (x_toU8 (q:=mixN (2 * n) >>> 56) (nmB n 0) hH.kp0 rfl Fc.ui5 Fc.us81 rfl (by simp [nmB]) (x_indexAddrA (j:=0) hH.kp0 rfl rfl Fc.ar25 (by omega) (by decide) rfl ?_)))))))); clear hS; intro a hS
  refine r_store1 hS hH rfl rfl rfl (by repeat' constructor) (by repeat' constructor) Fc.sz5 (of_decide_eq_true rfl) (.inr hb3) ?_
  clear hH; intro w hH
  replace hH : Hp w0 Nobody [(b3,.cells ([byteV (nmB n 0),.int .u8 0,.int .u8 0,.int .u8 0,.int .u8 0,.int .u8 0,.int .u8 0,.int .u8 0,.int .u8 0,.int .u8 0,.int .u8 0,.int .u8 0,.int .u8 0,.int .u8 0,.int .u8 0,.int .u8 0] : List Value).toArray 25 (0,0)),(b2,.cells ([.int .u8 0,.int .u8 0,.int .u8 0,.int .u8 0,.int .u8 0,.int .u8 0,.int .u8 0,.int .u8 0,.int .u8 0,.int .u8 0,.int .u8 0,.int .u8 0,.int .u8 0,.int .u8 0,.int .u8 0,.int .u8 0] : List Value).toArray 25 (0,0))] w:=hH
  refine Sq.nil (then_n (reg_plain w0 (Nobody) ?_))
  refine r_move hS hH.kp0 rfl rfl (x_add hH.kp0 rfl rfl rfl (by omega) (x_move hH.kp0 rfl rfl (x_move hH.kp0 rfl rfl (x_mul hH.kp0 rfl rfl rfl (by omega) (x_sub hH.kp0 rfl rfl rfl (by omega) (x_convInt hH.kp0 rfl Fc.ui83 Fc.us3 rfl (x_shrN (m:=mixN (2 * n + 1)) 56 (mixN (2 * n + 1) >>> 56) hH.kp0 rfl rfl rfl (by decide) (by decide) rfl (x_toU8 (q:=mixN (2 * n + 1) >>> 56) (nmB n 8) hH.kp0 rfl Fc.ui5 Fc.us81 rfl (by simp [nmB]) (x_indexAddrA (j:=8) hH.kp0 rfl rfl Fc.ar25 (by omega) (by decide) rfl ?_))))))))); clear hS; intro a hS
  refine r_store1 hS hH rfl rfl rfl (by repeat' constructor) (by repeat' constructor) Fc.sz5 (of_decide_eq_true rfl) (.inr hb3) ?_
  clear hH; intro w hH
  replace hH : Hp w0 Nobody [(b3,.cells ([byteV (nmB n 0),.int .u8 0,.int .u8 0,.int .u8 0,.int .u8 0,.int .u8 0,.int .u8 0,.int .u8 0,byteV (nmB n 8),.int .u8 0,.int .u8 0,.int .u8 0,.int .u8 0,.int .u8 0,.int .u8 0,.int .u8 0] : List Value).toArray 25 (0,0)),(b2,.cells ([.int .u8 0,.int .u8 0,.int .u8 0,.int .u8 0,.int .u8 0,.int .u8 0,.int .u8 0,.int .u8 0,.int .u8 0,.int .u8 0,.int .u8 0,.int .u8 0,.int .u8 0,.int .u8 0,.int .u8 0,.int .u8 0] : List Value).toArray 25 (0,0))] w:=hH
  refine Sq.nil (blk_n (then_n (reg_plain w0 (Nobody) ?_)))
  refine r_move hS hH.kp0 rfl rfl (x_add hH.kp0 rfl rfl rfl (by omega) (x_assign hH.kp0 rfl rfl ?_)); clear hS; intro a hS
  refine Sq.nil (then_n ?_)
  refine rnd ?_
  refine c_seq (c_seq (reg_plain w0 (Nobody) ?_))
  refine r_move hS hH.kp0 rfl rfl (x_lss hH.kp0 rfl rfl rfl ?_); clear hS; intro a hS
  refine Sq.nil (then_n (c_condT hS rfl rfl (wp_skip (then_n (c_seq (wp_block (c_seq (reg_plain w0 (Nobody) ?_))))))))
  refine r_move hS hH.kp0 rfl rfl (x_move hH.kp0 rfl rfl (x_move hH.kp0 rfl rfl (x_mul hH.kp0 rfl rfl rfl (by omega) (x_sub hH.kp0 rfl rfl rfl (by omega) (x_convInt hH.kp0 rfl Fc.ui83 Fc.us3 rfl (x_shrN (m:=mixN (2 * n)) 48 (mixN (2 * n) >>> 48) hH.kp0 rfl rfl rfl (by decide) (by decide) rfl (x_toU8 (q:=mixN (2 * n) >>> 48) (nmB n 1) hH.kp0 rfl Fc.ui5 Fc.us81 rfl (by simp [nmB]) (x_indexAddrA (j:=1) hH.kp0 rfl rfl Fc.ar25 (by omega) (by decide) rfl ?_)))))))); clear hS; intro a hS
  refine r_store1 hS hH rfl rfl rfl (by repeat' constructor) (by repeat' constructor) Fc.sz5 (of_decide_eq_true rfl) (.inr hb3) ?_
  clear hH; intro w hH
  replace hH : Hp w0 Nobody [(b3,.cells ([byteV (nmB n 0),byteV (nmB n 1),.int .u8 0,.int .u8 0,.int .u8 0,.int .u8 0,.int .u8 0,.int .u8 0,byteV (nmB n 8),.int .u8 0,.int .u8 0,.int .u8 0,.int .u8 0,.int .u8 0,.int .u8 0,.int .u8 0] : List Value).toArray 25 (0,0)),(b2,.cells ([.int .u8 0,.int .u8 0,.int .u8 0,.int .u8 0,.int .u8 0,.int .u8 0,.int .u8 0,.int .u8 0,.int .u8 0,.int .u8 0,.int .u8 0,.int .u8 0,.int .u8 0,.int .u8 0,.int .u8 0,.int .u8 0] : List Value).toArray 25 (0,0))] w:=hH
  refine Sq.nil (then_n (reg_plain w0 (Nobody) ?_))
  refine r_move hS hH.kp0 rfl rfl (x_add hH.kp0 rfl rfl rfl (by omega) (x_move hH.kp0 rfl rfl (x_move hH.kp0 rfl rfl (x_mul hH.kp0 rfl rfl rfl (by omega) (x_sub hH.kp0 rfl rfl rfl (by omega) (x_convInt hH.kp0 rfl Fc.ui83 Fc.us3 rfl (x_shrN (m:=mixN (2 * n + 1)) 48 (mixN (2 * n + 1) >>> 48) hH.kp0 rfl rfl rfl (by decide) (by decide) rfl (x_toU8 (q:=mixN (2 * n + 1) >>> 48) (nmB n 9) hH.kp0 rfl Fc.ui5 Fc.us81 rfl (by simp [nmB]) (x_indexAddrA (j:=9) hH.kp0 rfl rfl Fc.ar25 (by omega) (by decide) rfl ?_))))))))); clear hS; intro a hS
  refine r_store1 hS hH rfl rfl rfl (by repeat' constructor) (by repeat' constructor) Fc.sz5 (of_decide_eq_true rfl) (.inr hb3) ?_
  clear hH; intro w hH
  replace hH : Hp w0 Nobody [(b3,.cells ([byteV (nmB n 0),byteV (nmB n 1),.int .u8 0,.int .u8 0,.int .u8 0,.int .u8 0,.int .u8 0,.int .u8 0,byteV (nmB n 8),byteV (nmB n 9),.int .u8 0,.int .u8 0,.int .u8 0,.int .u8 0,.int .u8 0,.int .u8 0] : List Value).toArray 25 (0,0)),(b2,.cells ([.int .u8 0,.int .u8 0,.int .u8 0,.int .u8 0,.int .u8 0,.int .u8 0,.int .u8 0,.int .u8 0,.int .u8 0,.int .u8 0,.int .u8 0,.int .u8 0,.int .u8 0,.int .u8 0,.int .u8 0,.int .u8 0] : List Value).toArray 25 (0,0))] w:=hH
  refine Sq.nil (blk_n (then_n (reg_plain w0 (Nobody) ?_)))
  refine r_move hS hH.kp0 rfl rfl (x_add hH.kp0 rfl rfl rfl (by omega) (x_assign hH.kp0 rfl rfl ?_)); clear hS; intro a hS
  refine Sq.nil (then_n ?_)
  refine rnd ?_
  refine c_seq (c_seq (reg_plain w0 (Nobody) ?_))
  refine r_move hS hH.kp0 rfl rfl (x_lss hH.kp0 rfl rfl rfl ?_); clear hS; intro a hS
  refine Sq.nil (then_n (c_condT hS rfl rfl (wp_skip (then_n (c_seq (wp_block (c_seq (reg_plain w0 (Nobody) ?_))))))))
  refine r_move hS hH.kp0 rfl rfl (x_move hH.kp0 rfl rfl (x_move hH.kp0 rfl rfl (x_mul hH.kp0 rfl rfl rfl (by omega) (x_sub hH.kp0 rfl rfl rfl (by omega) (x_convInt hH.kp0 rfl Fc.ui83 Fc.us3 rfl (x_shrN (m:=mixN (2 * n)) 40 (mixN (2 * n) >>> 40) hH.kp0 rfl rfl rfl (by decide) (by decide) rfl (x_toU8 (q:=mixN (2 * n) >>> 40) (nmB n 2) hH.kp0 rfl Fc.ui5 Fc.us81 rfl (by simp [nmB]) (x_indexAddrA (j:=2) hH.kp0 rfl rfl Fc.ar25 (by omega) (by decide) rfl ?_)))))))); clear hS; intro a hS
  refine r_store1 hS hH rfl rfl rfl (by repeat' constructor) (by repeat' constructor) Fc.sz5 (of_decide_eq_true rfl) (.inr hb3) ?_
  clear hH; intro w hH
  replace hH : Hp w0 Nobody [(b3,.cells ([byteV (nmB n 0),byteV (nmB n 1),byteV (nmB n 2),.int .u8 0,.int .u8 0,.int .u8 0,.int .u8 0,.int .u8 0,byteV (nmB n 8),byteV (nmB n 9),.int .u8 0,.int .u8 0,.int .u8 0,.int .u8 0,.int .u8 0,.int .u8 0] : List Value).toArray 25 (0,0)),(b2,.cells ([.int .u8 0,.int .u8 0,.int .u8 0,.int .u8 0,.int .u8 0,.int .u8 0,.int .u8 0,.int .u8 0,.int .u8 0,.int .u8 0,.int .u8 0,.int .u8 0,.int .u8 0,.int .u8 0,.int .u8 0,.int .u8 0] : List Value).toArray 25 (0,0))] w:=hH
  refine Sq.nil (then_n (reg_plain w0 (Nobody) ?_))
  refine r_move hS hH.kp0 rfl rfl (x_add hH.kp0 rfl rfl rfl (by omega) (x_move hH.kp0 rfl rfl (x_move hH.kp0 rfl rfl (x_mul hH.kp0 rfl rfl rfl (by omega) (x_sub hH.kp0 rfl rfl rfl (by omega) (x_convInt hH.kp0 rfl Fc.ui83 Fc.us3 rfl (x_shrN (m:=mixN (2 * n + 1)) 40 (mixN (2 * n + 1) >>> 40) hH.kp0 rfl rfl rfl (by decide) (by decide) rfl (x_toU8 (q:=mixN (2 * n + 1) >>> 40) (nmB n 10) hH.kp0 rfl Fc.ui5 Fc.us81 rfl (by simp [nmB]) (x_indexAddrA (j:=10) hH.kp0 rfl rfl Fc.ar25 (by omega) (by decide) rfl ?_))))))))); clear hS; intro a hS
  refine r_store1 hS hH rfl rfl rfl (by repeat' constructor) (by repeat' constructor) Fc.sz5 (of_decide_eq_true rfl) (.inr hb3) ?_
  clear hH; intro w hH
  replace hH : Hp w0 Nobody [(b3,.cells ([byteV (nmB n 0),byteV (nmB n 1),byteV (nmB n 2),.int .u8 0,.int .u8 0,.int .u8 0,.int .u8 0,.int .u8 0,byteV (nmB n 8),byteV (nmB n 9),byteV (nmB n 10),.int .u8 0,.int .u8 0,.int .u8 0,.int .u8 0,.int .u8 0] : List Value).toArray 25 (0,0)),(b2,.cells ([.int .u8 0,.int .u8 0,.int .u8 0,.int .u8 0,.int .u8 0,.int .u8 0,.int .u8 0,.int .u8 0,.int .u8 0,.int .u8 0,.int .u8 0,.int .u8 0,.int .u8 0,.int .u8 0,.int .u8 0,.int .u8 0] : List Value).toArray 25 (0,0))] w:=hH
  refine Sq.nil (blk_n (then_n (reg_plain w0 (Nobody) ?_)))
  refine r_move hS hH.kp0 rfl rfl (x_add hH.kp0 rfl rfl rfl (by omega) (x_assign hH.kp0 rfl rfl ?_)); clear hS; intro a hS
  refine Sq.nil (then_n ?_)
  refine rnd ?_
  refine c_seq (c_seq (reg_plain w0 (Nobody) ?_))
  refine r_move hS hH.kp0 rfl rfl (x_lss hH.kp0 rfl rfl rfl ?_); clear hS; intro a hS
  refine Sq.nil (then_n (c_condT hS rfl rfl (wp_skip (then_n (c_seq (wp_block (c_seq (reg_plain w0 (Nobody) ?_))))))))
  refine r_move hS hH.kp0 rfl rfl (x_move hH.kp0 rfl rfl (x_move hH.kp0 rfl rfl (x_mul hH.kp0 rfl rfl rfl (by omega) (x_sub hH.kp0 rfl rfl rfl (by omega) (x_convInt hH.kp0 rfl Fc.ui83 Fc.us3 rfl (x_shrN (m:=mixN (2 * n)) 32 (mixN (2 * n) >>> 32) hH.kp0 rfl rfl rfl (by decide) (by decide) rfl (x_toU8 (q:=mixN (2 * n) >>> 32) (nmB n 3) hH.kp0 rfl Fc.ui5 Fc.us81 rfl (by simp [nmB]) (x_indexAddrA (j:=3) hH.kp0 rfl rfl Fc.ar25 (by omega) (by decide) rfl ?_)))))))); clear hS; intro a hS
  refine r_store1 hS hH rfl rfl rfl (by repeat' constructor) (by repeat' constructor) Fc.sz5 (of_decide_eq_true rfl) (.inr hb3) ?_
  clear hH; intro w hH
  replace hH : Hp w0 Nobody [(b3,.cells ([byteV (nmB n 0),byteV (nmB n 1),byteV (nmB n 2),byteV (nmB n 3),.int .u8 0,.int .u8 0,.int .u8 0,.int .u8 0,byteV (nmB n 8),byteV (nmB n 9),byteV (nmB n 10),.int .u8 0,.int .u8 0,.int .u8 0,.int .u8 0,.int .u8 0] : List Value).toArray 25 (0,0)),(b2,.cells ([.int .u8 0,.int .u8 0,.int .u8 0,.int .u8 0,.int .u8 0,.int .u8 0,.int .u8 0,.int .u8 0,.int .u8 0,.int .u8 0,.int .u8 0,.int .u8 0,.int .u8 0,.int .u8 0,.int .u8 0,.int .u8 0] : List Value).toArray 25 (0,0))] w:=hH
  refine Sq.nil (then_n (reg_plain w0 (Nobody) ?_))
  refine r_move hS hH.kp0 rfl rfl (x_add hH.kp0 rfl rfl rfl (by omega) (x_move hH.kp0 rfl rfl (x_move hH.kp0 rfl rfl (x_mul hH.kp0 rfl rfl rfl (by omega) (x_sub hH.kp0 rfl rfl rfl (by omega) (x_convInt hH.kp0 rfl Fc.ui83 Fc.us3 rfl (x_shrN (m:=mixN (2 * n + 1)) 32 (mixN (2 * n + 1) >>> 32) hH.kp0 rfl rfl rfl (by decide) (by decide) rfl (x_toU8 (q:=mixN (2 * n + 1) >>> 32) (nmB n 11) hH.kp0 rfl Fc.ui5 Fc.us81 rfl (by simp [nmB]) (x_indexAddrA (j:=11) hH.kp0 rfl rfl Fc.ar25 (by omega) (by decide) rfl ?_))))))))); clear hS; intro a hS
  refine r_store1 hS hH rfl rfl rfl (by repeat' constructor) (by repeat' constructor) Fc.sz5 (of_decide_eq_true rfl) (.inr hb3) ?_
  clear hH; intro w hH
  replace hH : Hp w0 Nobody [(b3,.cells ([byteV (nmB n 0),byteV (nmB n 1),byteV (nmB n 2),byteV (nmB n 3),.int .u8 0,.int .u8 0,.int .u8 0,.int .u8 0,byteV (nmB n 8),byteV (nmB n 9),byteV (nmB n 10),byteV (nmB n 11),.int .u8 0,.int .u8 0,.int .u8 0,.int .u8 0] : List Value).toArray 25 (0,0)),(b2,.cells ([.int .u8 0,.int .u8 0,.int .u8 0,.int .u8 0,.int .u8 0,.int .u8 0,.int .u8 0,.int .u8 0,.int .u8 0,.int .u8 0,.int .u8 0,.int .u8 0,.int .u8 0,.int .u8 0,.int .u8 0,.int .u8 0] : List Value).toArray 25 (0,0))] w:=hH
  refine Sq.nil (blk_n (then_n (reg_plain w0 (Nobody) ?_)))
  refine r_move hS hH.kp0 rfl rfl (x_add hH.kp0 rfl rfl rfl (by omega) (x_assign hH.kp0 rfl rfl ?_)); clear hS; intro a hS
  refine Sq.nil (then_n ?_)
  refine rnd ?_
  refine c_seq (c_seq (reg_plain w0 (Nobody) ?_))
  refine r_move hS hH.kp0 rfl rfl (x_lss hH.kp0 rfl rfl rfl ?_); clear hS; intro a hS
  refine Sq.nil (then_n (c_condT hS rfl rfl (wp_skip (then_n (c_seq (wp_block (c_seq (reg_plain w0 (Nobody) ?_))))))))
  refine r_move hS hH.kp0 rfl rfl (x_move hH.kp0 rfl rfl (x_move hH.kp0 rfl rfl (x_mul hH.kp0 rfl rfl rfl (by omega) (x_sub hH.kp0 rfl rfl rfl (by omega) (x_convInt hH.kp0 rfl Fc.ui83 Fc.us3 rfl (x_shrN (m:=mixN (2 * n)) 24 (mixN (2 * n) >>> 24) hH.kp0 rfl rfl rfl (by decide) (by decide) rfl (x_toU8 (q:=mixN (2 * n) >>> 24) (nmB n 4) hH.kp0 rfl Fc.ui5 Fc.us81 rfl (by simp [nmB]) (x_indexAddrA (j:=4) hH.kp0 rfl rfl Fc.ar25 (by omega) (by decide) rfl ?_)))))))); clear hS; intro a hS
  refine r_store1 hS hH rfl rfl rfl (by repeat' constructor) (by repeat' constructor) Fc.sz5 (of_decide_eq_true rfl) (.inr hb3) ?_
  clear hH; intro w hH
  replace hH : Hp w0 Nobody [(b3,.cells ([byteV (nmB n 0),byteV (nmB n 1),byteV (nmB n 2),byteV (nmB n 3),byteV (nmB n 4),.int .u8 0,.int .u8 0,.int .u8 0,byteV (nmB n 8),byteV (nmB n 9),byteV (nmB n 10),byteV (nmB n 11),.int .u8 0,.int .u8 0,.int .u8 0,.int .u8 0] : List Value).toArray 25 (0,0)),(b2,.cells ([.int .u8 0,.int .u8 0,.int .u8 0,.int .u8 0,.int .u8 0,.int .u8 0,.int .u8 0,.int .u8 0,.int .u8 0,.int .u8 0,.int .u8 0,.int .u8 0,.int .u8 0,.int .u8 0,.int .u8 0,.int .u8 0] : List Value).toArray 25 (0,0))] w:=hH
  refine Sq.nil (then_n (reg_plain w0 (Nobody) ?_))
  refine r_move hS hH.kp0 rfl rfl (x_add hH.kp0 rfl rfl rfl (by omega) (x_move hH.kp0 rfl rfl (x_move hH.kp0 rfl rfl (x_mul hH.kp0 rfl rfl rfl (by omega) (x_sub hH.kp0 rfl rfl rfl (by omega) (x_convInt hH.kp0 rfl Fc.ui83 Fc.us3 rfl (x_shrN (m:=mixN (2 * n + 1)) 24 (mixN (2 * n + 1) >>> 24) hH.kp0 rfl rfl rfl (by decide) (by decide) rfl (x_toU8 (q:=mixN (2 * n + 1) >>> 24) (nmB n 12) hH.kp0 rfl Fc.ui5 Fc.us81 rfl (by simp [nmB]) (x_indexAddrA (j:=12) hH.kp0 rfl rfl Fc.ar25 (by omega) (by decide) rfl ?_))))))))); clear hS; intro a hS
  refine r_store1 hS hH rfl rfl rfl (by repeat' constructor) (by repeat' constructor) Fc.sz5 (of_decide_eq_true rfl) (.inr hb3) ?_
  clear hH; intro w hH
  replace hH : Hp w0 Nobody [(b3,.cells ([byteV (nmB n 0),byteV (nmB n 1),byteV (nmB n 2),byteV (nmB n 3),byteV (nmB n 4),.int .u8 0,.int .u8 0,.int .u8 0,byteV (nmB n 8),byteV (nmB n 9),byteV (nmB n 10),byteV (nmB n 11),byteV (nmB n 12),.int .u8 0,.int .u8 0,.int .u8 0] : List Value).toArray 25 (0,0)),(b2,.cells ([.int .u8 0,.int .u8 0,.int .u8 0,.int .u8 0,.int .u8 0,.int .u8 0,.int .u8 0,.int .u8 0,.int .u8 0,.int .u8 0,.int .u8 0,.int .u8 0,.int .u8 0,.int .u8 0,.int .u8 0,.int .u8 0] : List Value).toArray 25 (0,0))] w:=hH
  refine Sq.nil (blk_n (then_n (reg_plain w0 (Nobody) ?_)))
  refine r_move hS hH.kp0 rfl rfl (x_add hH.kp0 rfl rfl rfl (by omega) (x_assign hH.kp0 rfl rfl ?_)); clear hS; intro a hS
  refine Sq.nil (then_n ?_)
  refine rnd ?_
  refine c_seq (c_seq (reg_plain w0 (Nobody) ?_))
  refine r_move hS hH.kp0 rfl rfl (x_lss hH.kp0 rfl rfl rfl ?_); clear hS; intro a hS
  refine Sq.nil (then_n (c_condT hS rfl rfl (wp_skip (then_n (c_seq (wp_block (c_seq (reg_plain w0 (Nobody) ?_))))))))
  refine r_move hS hH.kp0 rfl rfl (x_move hH.kp0 rfl rfl (x_move hH.kp0 rfl rfl (x_mul hH.kp0 rfl rfl rfl (by omega) (x_sub hH.kp0 rfl rfl rfl (by omega) (x_convInt hH.kp0 rfl Fc.ui83 Fc.us3 rfl (x_shrN (m:=mixN (2 * n)) 16 (mixN (2 * n) >>> 16) hH.kp0 rfl rfl rfl (by decide) (by decide) rfl (x_toU8 (q:=mixN (2 * n) >>> 16) (nmB n 5) hH.kp0 rfl Fc.ui5 Fc.us81 rfl (by simp [nmB]) (x_indexAddrA (j:=5) hH.kp0 rfl rfl Fc.ar25 (by omega) (by decide) rfl ?_)))))))); clear hS; intro a hS
  refine r_store1 hS hH rfl rfl rfl (by repeat' constructor) (by repeat' constructor) Fc.sz5 (of_decide_eq_true rfl) (.inr hb3) ?_
  clear hH; intro w hH
  replace hH : Hp w0 Nobody [(b3,.cells ([byteV (nmB n 0),byteV (nmB n 1),byteV (nmB n 2),byteV (nmB n 3),byteV (nmB n 4),byteV (nmB n 5),.int .u8 0,.int .u8 0,byteV (nmB n 8),byteV (nmB n 9),byteV (nmB n 10),byteV (nmB n 11),byteV (nmB n 12),.int .u8 0,.int .u8 0,.int .u8 0] : List Value).toArray 25 (0,0)),(b2,.cells ([.int .u8 0,.int .u8 0,.int .u8 0,.int .u8 0,.int .u8 0,.int .u8 0,.int .u8 0,.int .u8 0,.int .u8 0,.int .u8 0,.int .u8 0,.int .u8 0,.int .u8 0,.int .u8 0,.int .u8 0,.int .u8 0] : List Value).toArray 25 (0,0))] w:=hH
  refine Sq.nil (then_n (reg_plain w0 (Nobody) ?_))
  refine r_move hS hH.kp0 rfl rfl (x_add hH.kp0 rfl rfl rfl (by omega) (x_move hH.kp0 rfl rfl (x_move hH.kp0 rfl rfl (x_mul hH.kp0 rfl rfl rfl (by omega) (x_sub hH.kp0 rfl rfl rfl (by omega) (x_convInt hH.kp0 rfl Fc.ui83 Fc.us3 rfl (x_shrN (m:=mixN (2 * n + 1)) 16 (mixN (2 * n + 1) >>> 16) hH.kp0 rfl rfl rfl (by decide) (by decide) rfl (x_toU8 (q:=mixN (2 * n + 1) >>> 16) (nmB n 13) hH.kp0 rfl Fc.ui5 Fc.us81 rfl (by simp [nmB]) (x_indexAddrA (j:=13) hH.kp0 rfl rfl Fc.ar25 (by omega) (by decide) rfl ?_))))))))); clear hS; intro a hS
  refine r_store1 hS hH rfl rfl rfl (by repeat' constructor) (by repeat' constructor) Fc.sz5 (of_decide_eq_true rfl) (.inr hb3) ?_
  clear hH; intro w hH
  replace hH : Hp w0 Nobody [(b3,.cells ([byteV (nmB n 0),byteV (nmB n 1),byteV (nmB n 2),byteV (nmB n 3),byteV (nmB n 4),byteV (nmB n 5),.int .u8 0,.int .u8 0,byteV (nmB n 8),byteV (nmB n 9),byteV (nmB n 10),byteV (nmB n 11),byteV (nmB n 12),byteV (nmB n 13),.int .u8 0,.int .u8 0] : List Value).toArray 25 (0,0)),(b2,.cells ([.int .u8 0,.int .u8 0,.int .u8 0,.int .u8 0,.int .u8 0,.int .u8 0,.int .u8 0,.int .u8 0,.int .u8 0,.int .u8 0,.int .u8 0,.int .u8 0,.int .u8 0,.int .u8 0,.int .u8 0,.int .u8 0] : List Value).toArray 25 (0,0))] w:=hH
  refine Sq.nil (blk_n (then_n (reg_plain w0 (Nobody) ?_)))
  refine r_move hS hH.kp0 rfl rfl (x_add hH.kp0 rfl rfl rfl (by omega) (x_assign hH.kp0 rfl rfl ?_)); clear hS; intro a hS
  refine Sq.nil (then_n ?_)
  refine rnd ?_
  refine c_seq (c_seq (reg_plain w0 (Nobody) ?_))
  refine r_move hS hH.kp0 rfl rfl (x_lss hH.kp0 rfl rfl rfl ?_); clear hS; intro a hS
  refine Sq.nil (then_n (c_condT hS rfl rfl (wp_skip (then_n (c_seq (wp_block (c_seq (reg_plain w0 (Nobody) ?_))))))))
  refine r_move hS hH.kp0 rfl rfl (x_move hH.kp0 rfl rfl (x_move hH.kp0 rfl rfl (x_mul hH.kp0 rfl rfl rfl (by omega) (x_sub hH.kp0 rfl rfl rfl (by omega) (x_convInt hH.kp0 rfl Fc.ui83 Fc.us3 rfl (x_shrN (m:=mixN (2 * n)) 8 (mixN (2 * n) >>> 8) hH.kp0 rfl rfl rfl (by decide) (by decide) rfl (x_toU8 (q:=mixN (2 * n) >>> 8) (nmB n 6) hH.kp0 rfl Fc.ui5 Fc.us81 rfl (by simp [nmB]) (x_indexAddrA (j:=6) hH.kp0 rfl rfl Fc.ar25 (by omega) (by decide) rfl ?_)))))))); clear hS; intro a hS
  refine r_store1 hS hH rfl rfl rfl (by repeat' constructor) (by repeat' constructor) Fc.sz5 (of_decide_eq_true rfl) (.inr hb3) ?_
  clear hH; intro w hH
  replace hH : Hp w0 Nobody [(b3,.cells ([byteV (nmB n 0),byteV (nmB n 1),byteV (nmB n 2),byteV (nmB n 3),byteV (nmB n 4),byteV (nmB n 5),byteV (nmB n 6),.int .u8 0,byteV (nmB n 8),byteV (nmB n 9),byteV (nmB n 10),byteV (nmB n 11),byteV (nmB n 12),byteV (nmB n 13),.int .u8 0,.int .u8 0] : List Value).toArray 25 (0,0)),(b2,.cells ([.int .u8 0,.int .u8 0,.int .u8 0,.int .u8 0,.int .u8 0,.int .u8 0,.int .u8 0,.int .u8 0,.int .u8 0,.int .u8 0,.int .u8 0,.int .u8 0,.int .u8 0,.int .u8 0,.int .u8 0,.int .u8 0] : List Value).toArray 25 (0,0))] w:=hH
  refine Sq.nil (then_n (reg_plain w0 (Nobody) ?_))
  refine r_move hS hH.kp0 rfl rfl (x_add hH.kp0 rfl rfl rfl (by omega) (x_move hH.kp0 rfl rfl (x_move hH.kp0 rfl rfl (x_mul hH.kp0 rfl rfl rfl (by omega) (x_sub hH.kp0 rfl rfl rfl (by omega) (x_convInt hH.kp0 rfl Fc.ui83 Fc.us3 rfl (x_shrN (m:=mixN (2 * n + 1)) 8 (mixN (2 * n + 1) >>> 8) hH.kp0 rfl rfl rfl (by decide) (by decide) rfl (x_toU8 (q:=mixN (2 * n + 1) >>> 8) (nmB n 14) hH.kp0 rfl Fc.ui5 Fc.us81 rfl (by simp [nmB]) (x_indexAddrA (j:=14) hH.kp0 rfl rfl Fc.ar25 (by omega) (by decide) rfl ?_))))))))); clear hS; intro a hS
  refine r_store1 hS hH rfl rfl rfl (by repeat' constructor) (by repeat' constructor) Fc.sz5 (of_decide_eq_true rfl) (.inr hb3) ?_
  clear hH; intro w hH
  replace hH : Hp w0 Nobody [(b3,.cells ([byteV (nmB n 0),byteV (nmB n 1),byteV (nmB n 2),byteV (nmB n 3),byteV (nmB n 4),byteV (nmB n 5),byteV (nmB n 6),.int .u8 0,byteV (nmB n 8),byteV (nmB n 9),byteV (nmB n 10),byteV (nmB n 11),byteV (nmB n 12),byteV (nmB n 13),byteV (nmB n 14),.int .u8 0] : List Value).toArray 25 (0,0)),(b2,.cells ([.int .u8 0,.int .u8 0,.int .u8 0,.int .u8 0,.int .u8 0,.int .u8 0,.int .u8 0,.int .u8 0,.int .u8 0,.int .u8 0,.int .u8 0,.int .u8 0,.int .u8 0,.int .u8 0,.int .u8 0,.int .u8 0] : List Value).toArray 25 (0,0))] w:=hH
  refine Sq.nil (blk_n (then_n (reg_plain w0 (Nobody) ?_)))
  refine r_move hS hH.kp0 rfl rfl (x_add hH.kp0 rfl rfl rfl (by omega) (x_assign hH.kp0 rfl rfl ?_)); clear hS; intro a hS
  refine Sq.nil (then_n ?_)
  refine rnd ?_
  refine c_seq (c_seq (reg_plain w0 (Nobody) ?_))
  refine r_move hS hH.kp0 rfl rfl (x_lss hH.kp0 rfl rfl rfl ?_); clear hS; intro a hS
  refine Sq.nil (then_n (c_condT hS rfl rfl (wp_skip (then_n (c_seq (wp_block (c_seq (reg_plain w0 (Nobody) ?_))))))))
  refine r_move hS hH.kp0 rfl rfl (x_move hH.kp0 rfl rfl (x_move hH.kp0 rfl rfl (x_mul hH.kp0 rfl rfl rfl (by omega) (x_sub hH.kp0 rfl rfl rfl (by omega) (x_convInt hH.kp0 rfl Fc.ui83 Fc.us3 rfl (x_shrN (m:=mixN (2 * n)) 0 (mixN (2 * n) >>> 0) hH.kp0 rfl rfl rfl (by decide) (by decide) rfl (x_toU8 (q:=mixN (2 * n) >>> 0) (nmB n 7) hH.kp0 rfl Fc.ui5 Fc.us81 rfl (by simp [nmB]) (x_indexAddrA (j:=7) hH.kp0 rfl rfl Fc.ar25 (by omega) (by decide) rfl ?_)))))))); clear hS; intro a hS
  refine r_store1 hS hH rfl rfl rfl (by repeat' constructor) (by repeat' constructor) Fc.sz5 (of_decide_eq_true rfl) (.inr hb3) ?_
  clear hH; intro w hH
  replace hH : Hp w0 Nobody [(b3,.cells ([byteV (nmB n 0),byteV (nmB n 1),byteV (nmB n 2),byteV (nmB n 3),byteV (nmB n 4),byteV (nmB n 5),byteV (nmB n 6),byteV (nmB n 7),byteV (nmB n 8),byteV (nmB n 9),byteV (nmB n 10),byteV (nmB n 11),byteV (nmB n 12),byteV (nmB n 13),byteV (nmB n 14),.int .u8 0] : List Value).toArray 25 (0,0)),(b2,.cells ([.int .u8 0,.int .u8 0,.int .u8 0,.int .u8 0,.int .u8 0,.int .u8 0,.int .u8 0,.int .u8 0,.int .u8 0,.int .u8 0,.int .u8 0,.int .u8 0,.int .u8 0,.int .u8 0,.int .u8 0,.int .u8 0] : List Value).toArray 25 (0,0))] w:=hH
  refine Sq.nil (then_n (reg_plain w0 (Nobody) ?_))
  refine r_move hS hH.kp0 rfl rfl (x_add hH.kp0 rfl rfl rfl (by omega) (x_move hH.kp0 rfl rfl (x_move hH.kp0 rfl rfl (x_mul hH.kp0 rfl rfl rfl (by omega) (x_sub hH.kp0 rfl rfl rfl (by omega) (x_convInt hH.kp0 rfl Fc.ui83 Fc.us3 rfl (x_shrN (m:=mixN (2 * n + 1)) 0 (mixN (2 * n + 1) >>> 0) hH.kp0 rfl rfl rfl (by decide) (by decide) rfl (x_toU8 (q:=mixN (2 * n + 1) >>> 0) (nmB n 15) hH.kp0 rfl Fc.ui5 Fc.us81 rfl (by simp [nmB]) (x_indexAddrA (j:=15) hH.kp0 rfl rfl Fc.ar25 (by omega) (by decide) rfl ?_))))))))); clear hS; intro a hS
  refine r_store1 hS hH rfl rfl rfl (by repeat' constructor) (by repeat' constructor) Fc.sz5 (of_decide_eq_true rfl) (.inr hb3) ?_
  clear hH; intro w hH
  replace hH : Hp w0 Nobody [(b3,.cells ([byteV (nmB n 0),byteV (nmB n 1),byteV (nmB n 2),byteV (nmB n 3),byteV (nmB n 4),byteV (nmB n 5),byteV (nmB n 6),byteV (nmB n 7),byteV (nmB n 8),byteV (nmB n 9),byteV (nmB n 10),byteV (nmB n 11),byteV (nmB n 12),byteV (nmB n 13),byteV (nmB n 14),byteV (nmB n 15)] : List Value).toArray 25 (0,0)),(b2,.cells ([.int .u8 0,.int .u8 0,.int .u8 0,.int .u8 0,.int .u8 0,.int .u8 0,.int .u8 0,.int .u8 0,.int .u8 0,.int .u8 0,.int .u8 0,.int .u8 0,.int .u8 0,.int .u8 0,.int .u8 0,.int .u8 0] : List Value).toArray 25 (0,0))] w:=hH
  refine Sq.nil (blk_n (then_n (reg_plain w0 (Nobody) ?_)))
  refine r_move hS hH.kp0 rfl rfl (x_add hH.kp0 rfl rfl rfl (by omega) (x_assign hH.kp0 rfl rfl ?_)); clear hS; intro a hS
  refine Sq.nil (then_n ?_)
  refine rnd ?_
  refine c_seq (c_seq (reg_plain w0 (Nobody) ?_))
  refine r_move hS hH.kp0 rfl rfl (x_lss hH.kp0 rfl rfl rfl ?_); clear hS; intro a hS
  refine Sq.nil (then_n (c_condF hS rfl rfl (wp_exit (then_e (then_e (blk_hit (then_n (c_seq (reg_plain w0 (Nobody) ?_)))))))))
  refine r_load_row hS hH (by repeat' constructor) rfl (by repeat' constructor) Fc.ag25 (by rfl) rfl ?_; clear hS; intro a hS
  refine r_store_row hS hH rfl rfl (by repeat' constructor) (by repeat' constructor) Fc.sz25 (by first | exact hcells_one _ | exact of_decide_eq_true rfl) (by simp only [List.length_cons,List.length_nil]) (.inr hb2) ?_
  clear hH; intro w hH
  refine Sq.nil (then_n (wp_ret ?_))
  exact leave (.inl rfl) hS rfl (Res.cell rfl (hH.get (by repeat' constructor)) Fc.ag25 (by rfl) rfl Res.nil) ⟨nm n,rfl,rfl,hH.mod⟩

set_option maxRecDepth 100000 in
set_option maxHeartbeats 2000000 in
theorem rmake_c (b : Nat) (V : RB) (ts : List Tm) (t : Tm) (ht : t.ok) (hm : ts.length≤1000000000) (w0 : World) (hri : RI w0 b V ts) :
  Calls Tryd.prog 60 #[.pointer (some ⟨b,0,none⟩),rv t] w0 fun e w' => ∃ h i V' ts',e = .returned (hnd h)∧h = nm i∧RI w' b V' ts'∧RStep w0 w' b V V'∧Made ts t i ts':=by
 refine enter Tryd.func60 rfl rfl rfl ?_
 intro a hS
 have hH:=Hp.start w0 (V.F b)
 replace hH:=hH.knowR hri (by intro p hp; simp at hp)
 refine c_seq (reg_plain w0 (V.F b) ?_)
 refine r_box hS hH (by repeat' constructor) rfl rfl rfl ?_
 clear hS hH; intro a w b3 hb3 hwb3 hS hH
 refine r_alloc hS hH (by repeat' constructor) Fc.zc25 rfl ?_
 clear hS hH; intro a w b4 hb4 hwb4 hS hH
 refine Sq.nil (then_n (c_seq (c_seq (reg_plain w0 (V.F b) ?_))))
 refine r_assign hS hH.kp0 rfl rfl ?_; clear hS; intro a hS
 refine Sq.nil (then_n (wp_block ?_))
 refine c_loop (fun m a w => ∃ (i : Nat) (ii : Int),m + i = ts.length∧ii = i∧(∀ q,q < i→ts[q]? = some t→t.kind = 1)∧St 48 (lv [(0,.pointer (some ⟨b,0,none⟩)),(3,.pointer (some ⟨b3,0,none⟩)),(4,.pointer (some ⟨b4,0,none⟩)),(5,.int .i64 ii)]) a∧Hp w0 (V.F b) [(b4,.cells [.int .u8 0,.int .u8 0,.int .u8 0,.int .u8 0,.int .u8 0,.int .u8 0,.int .u8 0,.int .u8 0,.int .u8 0,.int .u8 0,.int .u8 0,.int .u8 0,.int .u8 0,.int .u8 0,.int .u8 0,.int .u8 0].toArray 25 (0,0)),(b3,.cells (rcells t).toArray 77 (0,0)),(b,.cells (V.top ts.length).toArray 80 (0,0)),(V.sb,.cells V.l.toArray 77 (0,0))] w) (ts.length) ?_ ?_
 ·exact ⟨0,_,by omega,rfl,fun q h => by omega,hS.live ⟨rfl,rfl,rfl,rfl,trivial⟩,hH⟩
 clear hS hH; intro m a w hI; obtain ⟨i,ii,hmi,hii,hno,hS,hH⟩:=hI
 subst hii
 refine c_seq (c_seq (reg_plain w0 (V.F b) ?_))
 refine r_move hS hH.kp0 rfl rfl (x_move hH.kp0 rfl rfl (x_nilCheck hH.kp0 rfl rfl (x_fieldAddr hH.kp0 rfl Fc.fo80_0 rfl (x_load_sc hH (by repeat' constructor) rfl (by repeat' constructor) Fc.sc78 (by rfl) rfl (x_lenSl hH.kp0 rfl Fc.isSlice78 rfl (x_lss hH.kp0 rfl rfl rfl ?_)))))); clear hS; intro a hS
 refine Sq.nil (then_n ?_)
 refine c_cond hS rfl (fun hc0 => ?_) (fun hc0 => ?_)
 ·have hlt:=of_decide_eq_true hc0
  obtain ⟨u,hu⟩ : ∃ u,ts[i]? = some u:=⟨_,List.getElem?_eq_getElem (by omega)⟩
  have hrow:=hri.ok.row hu
  have huo:=hri.ok.rng u (List.mem_of_getElem? hu)
  refine wp_skip (then_n (c_seq (wp_block (c_seq ?_))))
  refine reg_draw [(true,0,[]),(true,1,[]),(true,2,[]),(true,3,[]),(true,4,[]),(true,5,[]),(true,6,[]),(true,7,[]),(true,8,[]),(true,9,[]),(true,10,[]),(true,11,[]),(true,12,[]),(true,13,[])] Fc.mixed (by kernel_rfl) (by kernel_rfl) (by kernel_rfl) (by kernel_rfl) (by kernel_rfl) (by repeat (first | with_reducible exact steady_body | with_reducible apply steady_block | with_reducible apply steady_then | with_reducible apply steady_scope | exact steady_body)) hH ?_
  replace hH:=hH.drew
  refine r_move hS trivial rfl rfl (x_nilCheck trivial rfl rfl (x_fieldAddr trivial rfl Fc.fo80_0 rfl (x_load_scS rfl (by repeat' constructor) Fc.sc78 (by rfl) rfl (x_move trivial rfl rfl (x_indexAddrS (j:=i) trivial rfl rfl Fc.slb78 rfl (by omega) rfl ?_))))); clear hS; intro a hS
  refine r_load_atS (vs:=rcells u) hS rfl (by repeat' constructor) Fc.ag77 (by rw [Nat.zero_add]; exact hrow.2) (by rw [Nat.zero_add]; exact hrow.1) rfl ?_; clear hS; intro a hS
  refine r_load_rowS hS rfl (by repeat' constructor) Fc.ag77 (by rfl) rfl ?_; clear hS; intro a hS
  refine r_flEql Fc.rfl7 hS trivial rfl rfl (rcells_ok huo) (rcells_ok ht) rfl ?_; clear hS; intro a r8 hr8 hS
  rcases r8 with _ | _
  ·refine r_move hS trivial rfl rfl (Sq.xguardNo rfl rfl rfl trivial rfl (Sq.xguardNo rfl rfl rfl trivial rfl (Sq.xguardNo rfl rfl rfl trivial rfl (x_pickF trivial rfl rfl rfl rfl ?_)))); clear hS; intro a hS
   refine Sq.nil (then_n (c_condF hS rfl rfl (wp_skip (blk_n (then_n (reg_plain w0 (V.F b) ?_))))))
   refine r_move hS hH.kp0 rfl rfl (x_add hH.kp0 rfl rfl rfl (by omega) (x_assign hH.kp0 rfl rfl ?_)); clear hS; intro a hS
   refine Sq.nil (then_n ?_)
   refine ⟨m - 1,by omega,i + 1,_,by omega,?_,?_,hS.live ⟨rfl,rfl,rfl,rfl,trivial⟩,hH⟩
   ·omega
   ·intro q hq he
    by_cases e : q < i
    ·exact hno q e he
    ·have e2 : q = i:=by omega
     subst e2
     rw [he] at hu; exact absurd (hr8.2 (by rw [Option.some.inj hu])) (by decide)
  ·have hut : u = t:=rcells_inj (hr8.1 rfl)
   refine r_move hS trivial rfl rfl (Sq.xguardYes rfl rfl rfl (x_fieldAddr trivial rfl Fc.fo77_0 rfl (Sq.xguardYes rfl rfl rfl (x_load_scS rfl (by repeat' constructor) Fc.sc3 (by rfl) rfl (Sq.xguardYes rfl rfl rfl (x_neq trivial rfl rfl rfl (x_pickT trivial rfl rfl rfl rfl ?_))))))); clear hS; intro a hS
   refine Sq.nil (then_n ?_)
   refine c_cond hS rfl (fun hc1 => ?_) (fun hc1 => ?_)
   ·have hkn : t.kind≠1:=by simpa using hc1
    refine c_seq (reg_plain w0 (V.F b) ?_)
    refine r_move hS hH.kp0 rfl rfl ?_; clear hS; intro a hS
    refine r_call (l:=[.tmp 29]) hS rfl rfl Fc.fn20 rfl ?_
    refine Calls.mono (rname_c i (by omega) _) ?_
    rintro e w1 ⟨h,rfl,hqx,hE⟩
    obtain ⟨x0,x1,x2,x3,x4,x5,x6,x7,x8,x9,xa,xb,xc,xd,xe,xf,rfl⟩:=len16 (h:=h) (by rw [hqx]; rfl)
    replace hH:=hH.ext hE
    refine ⟨_,rfl,hH.kp0,?_⟩
    clear hS; intro a hS
    refine r_store_row hS hH rfl rfl (by repeat' constructor) (by repeat' constructor) Fc.sz25 (by first | exact hcells_one _ | exact of_decide_eq_true rfl) (by rfl) (by first | exact .inr (by assumption) | exact .inl (by first | assumption | rfl)) ?_
    clear hH; intro w hH
    refine Sq.nil (then_n (wp_ret (blk_r (then_r (then_r (blk_r (then_r ?_)))))))
    exact leave (.inl rfl) hS rfl (Res.cell rfl (hH.get (by repeat' constructor)) Fc.ag25 (by rfl) rfl Res.nil) ⟨_,i,V,ts,rfl,hqx,(hH.rin (TV:=80) (TT:=77) hri.ok rfl hri.n01 (by repeat' constructor) (by repeat' constructor)),⟨fun _ h => .inl h,hH.mod⟩,.inl ⟨hkn,by rw [hu,hut],rfl⟩⟩
   ·have hk1 : t.kind = 1:=by simpa using hc1
    refine wp_skip (blk_n (then_n (reg_plain w0 (V.F b) ?_)))
    refine r_move hS hH.kp0 rfl rfl (x_add hH.kp0 rfl rfl rfl (by omega) (x_assign hH.kp0 rfl rfl ?_)); clear hS; intro a hS
    refine Sq.nil (then_n ?_)
    refine ⟨m - 1,by omega,i + 1,_,by omega,?_,?_,hS.live ⟨rfl,rfl,rfl,rfl,trivial⟩,hH⟩
    ·omega
    ·intro q hq he
     by_cases e : q < i
     ·exact hno q e he
     ·have e2 : q = i:=by omega
      subst e2
      exact hk1
 ·have hge:=of_decide_eq_false hc0
  have hnew : t.kind = 1∨t ∉ ts:=by
   by_cases hk : t.kind = 1
   ·exact .inl hk
   ·exact .inr (fun hm => by obtain ⟨q,hq⟩:=List.getElem?_of_mem hm; exact hk (hno q (by have:=(List.getElem?_eq_some_iff.1 hq).1; omega) hq))
  refine wp_exit (then_e (then_e (blk_hit (then_n (c_seq ?_)))))
  refine reg_draw [(true,0,[2,3]),(true,1,[2,3]),(true,2,[2,3]),(true,3,[2,3]),(true,4,[3]),(true,5,[2,3]),(false,6,[]),(false,7,[3]),(true,8,[2,3]),(true,9,[2,3]),(false,10,[2,3])] Fc.mixed (by kernel_rfl) (by kernel_rfl) (by kernel_rfl) (by kernel_rfl) (by kernel_rfl) (by repeat (first | with_reducible exact steady_body | with_reducible apply steady_block | with_reducible apply steady_then | with_reducible apply steady_scope | exact steady_body)) hH ?_
  replace hH:=hH.drew
  refine r_move hS trivial rfl rfl (x_move trivial rfl rfl (x_nilCheck trivial rfl rfl (x_fieldAddr trivial rfl Fc.fo80_0 rfl (x_load_scS rfl (by repeat' constructor) Fc.sc78 (by rfl) rfl (x_load_rowS rfl (by repeat' constructor) Fc.ag77 (by rfl) rfl ?_))))); clear hS; intro a hS
  refine r_buildSlice (parts:=[(0,.tmp 36)]) hS hH (by repeat' constructor) rfl Fc.bsl78_1 (by rfl) rfl ?_
  clear hS hH; intro a w b37 hb37 hwb37 hS hH
  refine r_append_own hS hH rfl rfl (by repeat' constructor) (by repeat' constructor) Fc.elR Fc.niR hri.ok.len hri.ok.cap (Src.rterms (hH.get .here)) (by omega) (.inl (.inr rfl)) rfl ?_
  clear hS hH; intro a w sb' cap' l2 hsb' hl2 hc2 htk _ hS hH
  refine r_nilCheck hS trivial rfl rfl (x_fieldAddr trivial rfl Fc.fo80_0 rfl ?_); clear hS; intro a hS
  refine r_store1 hS hH rfl rfl rfl (by repeat' constructor) (by repeat' constructor) Fc.sz78 (of_decide_eq_true rfl) (.inl (.inl rfl)) ?_
  clear hH; intro w hH
  refine Sq.nil (then_n (c_seq (reg_plain w0 (V.F b) ?_)))
  refine r_move hS hH.kp0 rfl rfl (x_nilCheck hH.kp0 rfl rfl (x_fieldAddr hH.kp0 rfl Fc.fo80_0 rfl (x_load_sc hH (by repeat' constructor) rfl (by repeat' constructor) Fc.sc78 (by rfl) rfl (x_lenSl hH.kp0 rfl Fc.isSlice78 rfl (x_subE (ts.length : Int) hH.kp0 rfl rfl rfl (by omega) (by omega) ?_))))); clear hS; intro a hS
  refine r_call (l:=[.tmp 46]) hS rfl rfl Fc.fn20 rfl ?_
  refine Calls.mono (rname_c ts.length (by omega) _) ?_
  rintro e w1 ⟨h,rfl,hqx,hE⟩
  obtain ⟨x0,x1,x2,x3,x4,x5,x6,x7,x8,x9,xa,xb,xc,xd,xe,xf,rfl⟩:=len16 (h:=h) (by rw [hqx]; rfl)
  replace hH:=hH.ext hE
  refine ⟨_,rfl,hH.kp0,?_⟩
  clear hS; intro a hS
  refine r_store_row hS hH rfl rfl (by repeat' constructor) (by repeat' constructor) Fc.sz25 (by first | exact hcells_one _ | exact of_decide_eq_true rfl) (by rfl) (by first | exact .inr (by assumption) | exact .inl (by first | assumption | rfl)) ?_
  clear hH; intro w hH
  refine Sq.nil (then_n (wp_ret ?_))
  refine leave (.inl rfl) hS rfl (Res.cell rfl (hH.get (by repeat' constructor)) Fc.ag25 (by rfl) rfl Res.nil) ?_
  refine ⟨_,_,⟨sb',cap',l2⟩,ts++[t],rfl,hqx,?_,⟨?_,hH.mod⟩,.inr ⟨hnew,rfl,rfl⟩⟩
  ·refine hH.rin (m:=ts.length + 1) (hri.ok.push ht hl2 hc2 htk) (by simp) ?_ (by repeat' constructor) (by repeat' constructor)
   intro e; have nd:=hH.nd; rw [e] at nd; simp at nd
  ·intro x hx
   rcases hx with e | e
   ·exact .inl (.inl e)
   ·subst e; rcases hsb' with h | h; exact .inl h; exact .inr h

set_option maxRecDepth 100000 in
set_option maxHeartbeats 400000 in
theorem rNew_c (w0 : World) : Calls Tryd.prog 19 #[] w0 fun e w' => ∃ b V,e = .returned (.pointer (some ⟨b,0,none⟩))∧RI w' b V [rootT]∧Ext w0 w'∧∀ x,V.F b x→w0.heap.size≤x:=by
 refine enter Tryd.func19 rfl rfl rfl ?_
 intro a hS
 have hH:=Hp.start w0 (Nobody)
 refine c_seq (reg_plain w0 (Nobody) ?_)
 refine r_assign hS hH.kp0 rfl rfl ?_; clear hS; intro a hS
 refine Sq.nil (then_n (c_seq (reg_plain w0 (Nobody) ?_)))
 refine r_buildS (parts:=[(0,.const (.int .i64 0))]) hS hH.kp0 rfl rfl Fc.zc77 Fc.pl77 (by rfl) ?_; clear hS; intro a hS
 refine r_buildSlice (parts:=[(0,.tmp 1)]) hS hH (by repeat' constructor) rfl Fc.bsl78_1 (by rfl) rfl ?_
 clear hS hH; intro a w b2 hb2 hwb2 hS hH
 refine r_buildS (parts:=[(0,.tmp 2)]) hS hH.kp0 rfl rfl Fc.zc80 Fc.pl80 (by rfl) ?_; clear hS; intro a hS
 refine r_box hS hH (by repeat' constructor) rfl rfl rfl ?_
 clear hS hH; intro a w b4 hb4 hwb4 hS hH
 refine r_assign hS hH.kp0 rfl rfl ?_; clear hS; intro a hS
 refine Sq.nil (then_n (wp_ret ?_))
 refine leave (.inl rfl) hS rfl (Res.tmp rfl Res.nil) ⟨b4,⟨b2,1,rcells rootT⟩,rfl,?_,hH.mod,?_⟩
 ·refine hH.rin (m:=1) ⟨rfl,Nat.le_refl 1,rfl,by intro u hu; rw [List.mem_singleton.1 hu]; exact rootT_ok⟩ rfl ?_ (by repeat' constructor) (by repeat' constructor)
  have nd:=hH.nd; intro e; rw [e] at nd; simp at nd
 ·intro x hx; rcases hx with rfl | rfl; exact hb4; exact hb2

set_option maxRecDepth 100000 in
set_option maxHeartbeats 1000000 in
theorem rOf_c (b : Nat) (V : RB) (ts : List Tm) (h : List UInt8) (hh : h.length = 16) (hm : ts.length≤1000000000) (w0 : World) (hri : RI w0 b V ts) :
  Calls Tryd.prog 46 #[.pointer (some ⟨b,0,none⟩),hnd h] w0 fun e w' => ∃ x : Int,e = .returned (.int .i64 x)∧((∃ i : Nat,i < ts.length∧h = nm i∧x = i)∨((∀ i : Nat,i < ts.length→h≠nm i)∧x = -1))∧Ext w0 w':=by
 refine enter Tryd.func46 rfl rfl rfl ?_
 intro a hS
 have hH:=Hp.start w0 (Nobody)
 obtain ⟨x0,x1,x2,x3,x4,x5,x6,x7,x8,x9,xa,xb,xc,xd,xe,xf,rfl⟩:=len16 hh
 replace hH:=hH.knowR hri (by intro p hp; simp at hp)
 refine c_seq (reg_plain w0 (Nobody) ?_)
 refine r_box hS hH (by repeat' constructor) rfl rfl rfl ?_
 clear hS hH; intro a w b3 hb3 hwb3 hS hH
 refine r_assign hS hH.kp0 rfl rfl ?_; clear hS; intro a hS
 refine Sq.nil (then_n (c_seq (c_seq (reg_plain w0 (Nobody) ?_))))
 refine r_assign hS hH.kp0 rfl rfl ?_; clear hS; intro a hS
 refine Sq.nil (then_n (wp_block ?_))
 refine c_loop (fun m a w => ∃ (i : Nat) (ii : Int),m + i = ts.length∧ii = i∧(∀ q,q < i→[x0,x1,x2,x3,x4,x5,x6,x7,x8,x9,xa,xb,xc,xd,xe,xf]≠nm q)∧St 20 (lv [(0,.pointer (some ⟨b,0,none⟩)),(3,.pointer (some ⟨b3,0,none⟩)),(4,.int .i64 0),(5,.int .i64 ii)]) a∧Hp w0 Nobody [(b3,.cells (hcells [x0,x1,x2,x3,x4,x5,x6,x7,x8,x9,xa,xb,xc,xd,xe,xf]).toArray 25 (0,0)),(b,.cells (V.top ts.length).toArray 80 (0,0)),(V.sb,.cells V.l.toArray 77 (0,0))] w) (ts.length) ?_ ?_
 ·exact ⟨0,_,by omega,rfl,fun q h => by omega,hS.live ⟨rfl,rfl,rfl,rfl,trivial⟩,hH⟩
 clear hS hH; intro m a w hI; obtain ⟨i,ii,hmi,hii,hno,hS,hH⟩:=hI
 subst hii
 refine c_seq (c_seq (reg_plain w0 (Nobody) ?_))
 refine r_move hS hH.kp0 rfl rfl (x_move hH.kp0 rfl rfl (x_nilCheck hH.kp0 rfl rfl (x_fieldAddr hH.kp0 rfl Fc.fo80_0 rfl (x_load_sc hH (by repeat' constructor) rfl (by repeat' constructor) Fc.sc78 (by rfl) rfl (x_lenSl hH.kp0 rfl Fc.isSlice78 rfl (x_lss hH.kp0 rfl rfl rfl ?_)))))); clear hS; intro a hS
 refine Sq.nil (then_n ?_)
 refine c_cond hS rfl (fun hc0 => ?_) (fun hc0 => ?_)
 ·have hlt:=of_decide_eq_true hc0
  refine wp_skip (then_n (c_seq (wp_block (c_seq ?_))))
  refine reg_draw [(true,0,[]),(true,2,[]),(false,1,[]),(true,3,[])] Fc.mixed (by kernel_rfl) (by kernel_rfl) (by kernel_rfl) (by kernel_rfl) (by kernel_rfl) (by repeat (first | with_reducible exact steady_body | with_reducible apply steady_block | with_reducible apply steady_then | with_reducible apply steady_scope | exact steady_body)) hH ?_
  replace hH:=hH.drew
  refine r_move hS trivial rfl rfl (x_load_rowS rfl (by repeat' constructor) Fc.ag25 (by rfl) rfl ?_); clear hS; intro a hS
  refine r_call (l:=[.tmp 15]) hS rfl rfl Fc.fn20 rfl ?_
  refine Calls.mono (rname_c i (by omega) _) ?_
  rintro e w1 ⟨h,rfl,hqy,hE⟩
  obtain ⟨y0,y1,y2,y3,y4,y5,y6,y7,y8,y9,ya,yb,yc,yd,ye,yf,rfl⟩:=len16 (h:=h) (by rw [hqy]; rfl)
  replace hH:=hH.ext hE
  refine ⟨_,rfl,hH.kp (by repeat' constructor),?_⟩
  clear hS; intro a hS
  refine r_arrEql (h:=[y0,y1,y2,y3,y4,y5,y6,y7,y8,y9,ya,yb,yc,yd,ye,yf]) (g:=[x0,x1,x2,x3,x4,x5,x6,x7,x8,x9,xa,xb,xc,xd,xe,xf]) Fc.arrR hS trivial rfl rfl rfl rfl rfl ?_; clear hS; intro a hS
  refine Sq.nil (then_n ?_)
  refine c_cond hS rfl (fun hc1 => ?_) (fun hc1 => ?_)
  ·have he1:=of_decide_eq_true hc1
   refine c_seq (reg_plain w0 (Nobody) ?_)
   refine r_move hS hH.kp0 rfl rfl (x_assign hH.kp0 rfl rfl ?_); clear hS; intro a hS
   refine Sq.nil (then_n (wp_ret (blk_r (then_r (then_r (blk_r (then_r ?_)))))))
   exact leave (.inl rfl) hS rfl (Res.tmp rfl Res.nil) ⟨_,rfl,.inl ⟨i,by omega,by rw [←he1]; exact hqy,rfl⟩,hH.mod⟩
  ·refine wp_skip (blk_n (then_n (reg_plain w0 (Nobody) ?_)))
   refine r_move hS hH.kp0 rfl rfl (x_add hH.kp0 rfl rfl rfl (by omega) (x_assign hH.kp0 rfl rfl ?_)); clear hS; intro a hS
   refine Sq.nil (then_n ?_)
   refine ⟨m - 1,by omega,i + 1,_,by omega,?_,?_,hS.live ⟨rfl,rfl,rfl,rfl,trivial⟩,hH⟩
   ·omega
   ·intro q hq
    by_cases e : q < i
    ·exact hno q e
    ·have e2 : q = i:=by omega
     subst e2
     rw [←hqy]; exact fun e => absurd e.symm (of_decide_eq_false hc1)
 ·have hge:=of_decide_eq_false hc0
  refine wp_exit (then_e (then_e (blk_hit (then_n (c_seq (reg_plain w0 (Nobody) ?_))))))
  refine r_assign hS hH.kp0 rfl rfl ?_; clear hS; intro a hS
  refine Sq.nil (then_n (wp_ret ?_))
  exact leave (.inl rfl) hS rfl (Res.tmp rfl Res.nil) ⟨_,rfl,.inr ⟨fun i hi => hno i (by omega),rfl⟩,hH.mod⟩

set_option maxRecDepth 100000 in
set_option maxHeartbeats 400000 in
theorem rFresh_c (b : Nat) (V : RB) (ts : List Tm) (hm : ts.length≤1000000000) (w0 : World) (hri : RI w0 b V ts) : Calls Tryd.prog 33 #[.pointer (some ⟨b,0,none⟩)] w0 fun e w' => ∃ h V' , e = .returned (hnd h)∧h = nm ts.length∧RI w' b V' (ts++[freshT])∧RStep w0 w' b V V':=by
 refine enter Tryd.func33 rfl rfl rfl ?_
 intro a hS
 have hH:=Hp.start w0 (V.F b)
 replace hH:=hH.knowR hri (by intro p hp; simp at hp)
 have hRS:=RS.start w0 b V
 refine c_seq (reg_plain w0 (V.F b) ?_)
 refine r_alloc hS hH (by repeat' constructor) Fc.zc25 rfl ?_
 clear hS hH; intro a w b2 hb2 hwb2 hS hH
 refine Sq.nil (then_n (c_seq (reg_plain w0 (V.F b) ?_)))
 refine r_move hS hH.kp0 rfl rfl (x_buildS (parts:=[(0,.const (.int .i64 1))]) hH.kp0 rfl rfl Fc.zc77 Fc.pl77 (by rfl) ?_); clear hS; intro a hS
 refine r_call (l:=[.tmp 3,.tmp 4]) hS rfl rfl Fc.fn60 rfl ?_
 refine Calls.mono (rmake_c b V ts freshT freshT_ok hm _ (hH.rin (TV:=80) (TT:=77) hri.ok rfl hri.n01 (by repeat' constructor) (by repeat' constructor))) ?_
 rintro e w1 ⟨h,j,V1,ts1,rfl,hqx,hri1,hst,hmd⟩
 obtain ⟨x0,x1,x2,x3,x4,x5,x6,x7,x8,x9,xa,xb,xc,xd,xe,xf,rfl⟩:=len16 (h:=h) (by rw [hqx]; rfl)
 have hRS1:=hRS.step hst hH.mod.size
 replace hH:=hH.rvault hRS hst hri1 (by first | exact .two | exact .there .two | exact .there (.there .two) | exact .there (.there (.there .two)) | exact .there (.there (.there (.there .two))) | exact .there (.there (.there (.there (.there .two)))) | exact .there (.there (.there (.there (.there (.there .two))))) | exact .there (.there (.there (.there (.there (.there (.there .two)))))) | exact .there (.there (.there (.there (.there (.there (.there (.there .two))))))) | exact .there (.there (.there (.there (.there (.there (.there (.there (.there .two)))))))) | exact .there (.there (.there (.there (.there (.there (.there (.there (.there (.there .two))))))))) | exact .there (.there (.there (.there (.there (.there (.there (.there (.there (.there (.there .two)))))))))) | exact .there (.there (.there (.there (.there (.there (.there (.there (.there (.there (.there (.there .two))))))))))) | exact .there (.there (.there (.there (.there (.there (.there (.there (.there (.there (.there (.there (.there .two)))))))))))) | exact .there (.there (.there (.there (.there (.there (.there (.there (.there (.there (.there (.there (.there (.there .two))))))))))))) | exact .there (.there (.there (.there (.there (.there (.there (.there (.there (.there (.there (.there (.there (.there (.there .two)))))))))))))))
 refine ⟨_,rfl,hH.kp0,?_⟩
 clear hS; intro a hS
 refine r_store_row hS hH rfl rfl (by repeat' constructor) (by repeat' constructor) Fc.sz25 (by first | exact hcells_one _ | exact of_decide_eq_true rfl) (by rfl) (by first | exact .inr (by assumption) | exact .inl (by first | assumption | rfl)) ?_
 clear hH; intro w hH
 refine Sq.nil (then_n (wp_ret ?_))
 refine leave (.inl rfl) hS rfl (Res.cell rfl (hH.get (by repeat' constructor)) Fc.ag25 (by rfl) rfl Res.nil) ?_
 rcases hmd with ⟨h,_⟩ | ⟨_,rfl,rfl⟩
 ·exact absurd rfl h
 ·exact ⟨_,V1,rfl,hqx,(hH.rin (TV:=80) (TT:=77) hri1.ok rfl hri1.n01 (by repeat' constructor) (by repeat' constructor)),⟨hRS1,hH.mod⟩⟩

set_option maxRecDepth 100000 in
set_option maxHeartbeats 1000000 in
theorem rDerive_c (b : Nat) (V : RB) (ts : List Tm) (h : List UInt8) (hh : h.length = 16) (s : ByteArray) (v : Value) (l : List UInt8) (hs : s.size≤9223372036854775807) (hl : l.length≤9223372036854775807) (hm : ts.length≤1000000000) (w0 : World) (hri : RI w0 b V ts) (hb : BsF (V.F b) w0 v l) : Calls Tryd.prog 34 #[.pointer (some ⟨b,0,none⟩),hnd h,.string s,v] w0 fun e w' => ∃ h' x V' ts',e = .returned (.tuple #[hnd h',.int .i64 x])∧RI w' b V' ts'∧RStep w0 w' b V V'∧OfT ts h (drv s (strOf l)) h' x ts':=by
 refine enter Tryd.func34 rfl rfl rfl ?_
 intro a hS
 have hH:=Hp.start w0 (V.F b)
 obtain ⟨x0,x1,x2,x3,x4,x5,x6,x7,x8,x9,xa,xb,xc,xd,xe,xf,rfl⟩:=len16 hh
 replace hH:=hH.knowR hri (by intro p hp; simp at hp)
 have hRS:=RS.start w0 b V
 refine c_seq (reg_plain w0 (V.F b) ?_)
 refine r_box hS hH (by repeat' constructor) rfl rfl rfl ?_
 clear hS hH; intro a w b5 hb5 hwb5 hS hH
 refine r_alloc hS hH (by repeat' constructor) Fc.zc25 rfl ?_
 clear hS hH; intro a w b8 hb8 hwb8 hS hH
 refine r_assign hS hH.kp0 rfl rfl ?_; clear hS; intro a hS
 refine Sq.nil (then_n (c_seq (reg_plain w0 (V.F b) ?_)))
 refine r_move hS hH.kp0 rfl rfl (x_load_row hH (by repeat' constructor) rfl (by repeat' constructor) Fc.ag25 (by rfl) rfl ?_); clear hS; intro a hS
 refine r_call (l:=[.tmp 11,.tmp 12]) hS rfl rfl Fc.fn46 rfl ?_
 refine Calls.mono (rOf_c b V ts [x0,x1,x2,x3,x4,x5,x6,x7,x8,x9,xa,xb,xc,xd,xe,xf] rfl hm _ (hH.rin (TV:=80) (TT:=77) hri.ok rfl hri.n01 (by repeat' constructor) (by repeat' constructor))) ?_
 rintro e w1 ⟨k,rfl,hcase,hE⟩
 replace hH:=hH.ext hE
 refine ⟨_,rfl,hH.kp0,?_⟩
 clear hS; intro a hS
 refine r_assign hS hH.kp0 rfl rfl ?_; clear hS; intro a hS
 refine Sq.nil (then_n (c_seq (c_seq (reg_plain w0 (V.F b) ?_))))
 refine r_move hS hH.kp0 rfl rfl (x_lss hH.kp0 rfl rfl rfl ?_); clear hS; intro a hS
 refine Sq.nil (then_n ?_)
 refine c_cond hS rfl (fun hc0 => ?_) (fun hc0 => ?_)
 ·have hlt:=of_decide_eq_true hc0
  rcases hcase with ⟨i,hi,hn,hk⟩ | ⟨hno,hk⟩
  ·omega
  refine c_seq (reg_plain w0 (V.F b) ?_)
  refine r_buildA (parts:=[]) hS hH.kp0 rfl rfl Fc.zc25 Fc.ar25 (by rfl) ?_; clear hS; intro a hS
  refine r_store_row hS hH rfl rfl (by repeat' constructor) (by repeat' constructor) Fc.sz25 (by first | exact hcells_one _ | exact of_decide_eq_true rfl) (by rfl) (by first | exact .inr (by assumption) | exact .inl (by first | assumption | rfl)) ?_
  clear hH; intro w hH
  refine r_assign hS hH.kp0 rfl rfl ?_; clear hS; intro a hS
  refine Sq.nil (then_n (wp_ret (then_r ?_)))
  exact leave (.inl rfl) hS rfl (Res.cell rfl (hH.get (by repeat' constructor)) Fc.ag25 (by rfl) rfl (Res.tmp rfl Res.nil)) ⟨zH,_,V,ts,rfl,(hH.rin (TV:=80) (TT:=77) hri.ok rfl hri.n01 (by repeat' constructor) (by repeat' constructor)),⟨hRS,hH.mod⟩,.inr ⟨hno,rfl,rfl,rfl⟩⟩
 ·have hge:=of_decide_eq_false hc0
  rcases hcase.symm with ⟨hno,hk⟩ | ⟨i,hi,hn,hk⟩
  ·omega
  subst hk
  refine wp_skip (then_n (c_seq (reg_plain w0 (V.F b) ?_)))
  refine r_move hS hH.kp0 rfl rfl (x_move hH.kp0 rfl rfl (x_move hH.kp0 rfl rfl (x_move hH.kp0 rfl rfl (x_bytesStr hH.kp0 rfl (hb _ hH.mod) Fc.u8s22 Fc.isStr9 rfl (x_buildS (parts:=[(0,.const (.int .i64 2)),(1,.tmp 18),(3,.tmp 19),(6,.tmp 21)]) hH.kp0 rfl rfl Fc.zc77 Fc.pl77 (by rfl) ?_))))); clear hS; intro a hS
  refine r_call (l:=[.tmp 17,.tmp 22]) hS rfl rfl Fc.fn60 rfl ?_
  refine Calls.mono (rmake_c b V ts { drv s (strOf l) with a:=(i : Int) } (ok_a (show (drv s (strOf l)).ok from drv_ok hs hl) (by omega)) hm _ (hH.rin (TV:=80) (TT:=77) hri.ok rfl hri.n01 (by repeat' constructor) (by repeat' constructor))) ?_
  rintro e w1 ⟨h,j,V1,ts1,rfl,hqy,hri1,hst,hmd⟩
  obtain ⟨y0,y1,y2,y3,y4,y5,y6,y7,y8,y9,ya,yb,yc,yd,ye,yf,rfl⟩:=len16 (h:=h) (by rw [hqy]; rfl)
  have hRS1:=hRS.step hst hH.mod.size
  replace hH:=hH.rvault hRS hst hri1 (by first | exact .two | exact .there .two | exact .there (.there .two) | exact .there (.there (.there .two)) | exact .there (.there (.there (.there .two))) | exact .there (.there (.there (.there (.there .two)))) | exact .there (.there (.there (.there (.there (.there .two))))) | exact .there (.there (.there (.there (.there (.there (.there .two)))))) | exact .there (.there (.there (.there (.there (.there (.there (.there .two))))))) | exact .there (.there (.there (.there (.there (.there (.there (.there (.there .two)))))))) | exact .there (.there (.there (.there (.there (.there (.there (.there (.there (.there .two))))))))) | exact .there (.there (.there (.there (.there (.there (.there (.there (.there (.there (.there .two)))))))))) | exact .there (.there (.there (.there (.there (.there (.there (.there (.there (.there (.there (.there .two))))))))))) | exact .there (.there (.there (.there (.there (.there (.there (.there (.there (.there (.there (.there (.there .two)))))))))))) | exact .there (.there (.there (.there (.there (.there (.there (.there (.there (.there (.there (.there (.there (.there .two))))))))))))) | exact .there (.there (.there (.there (.there (.there (.there (.there (.there (.there (.there (.there (.there (.there (.there .two)))))))))))))))
  refine ⟨_,rfl,hH.kp0,?_⟩
  clear hS; intro a hS
  refine r_store_row hS hH rfl rfl (by repeat' constructor) (by repeat' constructor) Fc.sz25 (by first | exact hcells_one _ | exact of_decide_eq_true rfl) (by rfl) (by first | exact .inr (by assumption) | exact .inl (by first | assumption | rfl)) ?_
  clear hH; intro w hH
  refine r_assign hS hH.kp0 rfl rfl ?_; clear hS; intro a hS
  refine Sq.nil (then_n (wp_ret ?_))
  exact leave (.inl rfl) hS rfl (Res.cell rfl (hH.get (by repeat' constructor)) Fc.ag25 (by rfl) rfl (Res.tmp rfl Res.nil)) ⟨_,_,V1,ts1,rfl,(hH.rin (TV:=80) (TT:=77) hri1.ok rfl hri1.n01 (by repeat' constructor) (by repeat' constructor)),⟨hRS1,hH.mod⟩,.inl ⟨i,j,hi,hn,rfl,hqy,hmd⟩⟩

end Go.Proofs.YtcjmehononbadaaDoor
