/- HeaderPuts: any header has the bytes that the document says, or is refused. Conditions: those of the given row (arguments of at most 1048576 values and letters; the listed variables hold what the text lays). Part Puts3: walks and lemmas of the proof. -/
import Derived.Test.YtcenionnedgadaaDoorPuts2
import Derived.Test.YtcenionnedgadaaDoorSymStep
namespace Go.Proofs.YtcenionnedgadaaDoor
open Go.Sym

theorem Fp.ag41 : agB Tryd.prog 41 = some 24 := by kernel_rfl
theorem Fp.fn31 : isFn Tryd.prog 31 = true := by kernel_rfl
theorem Fp.fn33 : isFn Tryd.prog 33 = true := by kernel_rfl
theorem Fp.fo41_6 : foff Tryd.prog 41 6 = some 6 := by kernel_rfl
theorem Fp.fo41_8 : foff Tryd.prog 41 8 = some 8 := by kernel_rfl
set_option maxRecDepth 100000 in
set_option maxHeartbeats 400000 in
theorem RPut_bad (kd : Int) (ve : Int) (q1 q2 q3 q4 : Option Addr) (c1 c2 c3 c4 : Nat) (dst src tok tag : List UInt8) (lst : List Int) (ln : Int) (ph : Bool) (htag : tag.length = 16) (n : Int) (low : Nat) (w0 : World) (hll : lst.length ≤ 1099511627776) (hlst : IsA w0 q4 c4 lst) (hm : ¬ mayP kd dst.length src.length tok.length (ln : Int) (n : Int) lst.length (badN lst)) : Calls Tryd.prog 13 #[.agg ([.int .i64 kd, .int .i64 ve, .slice q1 dst.length c1, .slice q2 src.length c2, .slice q3 tok.length c3, .int .i64 (ln : Int), .bool ph, .slice q4 lst.length c4] ++ hcells tag : List Value).toArray, .int .u64 (low : Int), .int .i64 n] w0 fun e w' => e = .returned (.tuple #[.slice none 0 0, .int .i64 0, .int .i64 2]) ∧ Ext w0 w' := by
  refine enter Tryd.func13 rfl rfl rfl ?_
  intro a hS
  have hH := Hp.start w0 (Nobody)
  obtain ⟨t0, t1, t2, t3, t4, t5, t6, t7, t8, t9, ta, tb, tc, td, te, tf, rfl⟩ := len16 htag
  refine c_seq ?_
  refine reg_plain w0 (Nobody) ?_
  refine r_box hS hH (by repeat (first | exact Sub.nil | refine Sub.cons ?_ ?_ | exact In.here | refine In.there ?_)) rfl rfl rfl ?_
  clear hS hH; intro a w b3 hb3 hwb3 hS hH
  refine r_assign hS hH.kp0 rfl rfl ?_; clear hS; intro a hS
  refine r_assign hS hH.kp0 rfl rfl ?_; clear hS; intro a hS
  refine r_assign hS hH.kp0 rfl rfl ?_; clear hS; intro a hS
  refine Sq.nil ?_
  refine then_n ?_
  refine c_seq ?_
  refine c_seq ?_
  refine reg_plain w0 (Nobody) ?_
  refine r_load_row hS hH (by repeat (first | exact Sub.nil | refine Sub.cons ?_ ?_ | exact In.here | refine In.there ?_)) rfl (by repeat (first | exact In.here | refine In.there ?_)) Fp.ag41 (by rfl) rfl ?_; clear hS; intro a hS
  refine r_move hS hH.kp0 rfl rfl ?_; clear hS; intro a hS
  refine r_call (l := [.tmp 19, .tmp 20]) hS rfl rfl Fp.fn31 rfl ?_
  refine Calls.mono (may_c kd ve q1 q2 q3 q4 c1 c2 c3 c4 dst src tok _ lst (ln : Int) ph htag n _ hll (hlst.ext hH.mod)) ?_
  rintro e w1 ⟨rfl, hE⟩
  replace hH := hH.ext hE
  refine ⟨_, rfl, hH.kp0, ?_⟩
  clear hS; intro a hS
  refine r_not hS hH.kp0 rfl rfl ?_; clear hS; intro a hS
  refine Sq.nil ?_
  refine then_n ?_
  refine c_condT hS rfl (by rw [DF hm]; rfl) ?_
  refine c_seq ?_
  refine reg_plain w0 (Nobody) ?_
  refine r_assign hS hH.kp0 rfl rfl ?_; clear hS; intro a hS
  refine r_assign hS hH.kp0 rfl rfl ?_; clear hS; intro a hS
  refine r_assign hS hH.kp0 rfl rfl ?_; clear hS; intro a hS
  refine Sq.nil ?_
  refine then_n ?_
  refine wp_ret ?_
  refine then_r ?_
  exact leave (.inl rfl) hS rfl (Res.tmp rfl (Res.tmp rfl (Res.tmp rfl Res.nil))) ⟨rfl, hH.mod⟩

set_option maxRecDepth 100000 in
set_option maxHeartbeats 2000000 in
theorem RPut_5t (ve : Int) (q1 q2 q3 q4 : Option Addr) (c1 c2 c3 c4 : Nat) (dst src tok tag : List UInt8) (lst : List Int) (ln : Int) (htag : tag.length = 16) (n : Nat) (low : Nat) (hlow : low < 18446744073709551616) (w0 : World) (hll : lst.length ≤ 1048576) (hlst : IsA w0 q4 c4 lst) (hd : Bs w0 (.slice q1 dst.length c1) dst) (hs : Bs w0 (.slice q2 src.length c2) src) (ht : Bs w0 (.slice q3 tok.length c3) tok) (hm : mayP 5 dst.length src.length tok.length (ln : Int) (n : Int) lst.length (badN lst)) : Calls Tryd.prog 13 #[.agg ([.int .i64 5, .int .i64 ve, .slice q1 dst.length c1, .slice q2 src.length c2, .slice q3 tok.length c3, .int .i64 (ln : Int), .bool true, .slice q4 lst.length c4] ++ hcells tag : List Value).toArray, .int .u64 (low : Int), .int .i64 (n : Int)] w0 fun e w' => ∃ r, e = .returned (.tuple #[r, .int .i64 ((headB 5 n dst src tok ln.toNat true lst tag).length : Int), .int .i64 0]) ∧ NB w0.heap.size 5 w' r (headB 5 n dst src tok ln.toNat true lst tag ++ beB low n) ∧ Ext w0 w' := by
  refine enter Tryd.func13 rfl rfl rfl ?_
  intro a hS
  have hH := Hp.start w0 (Nobody)
  have hm2 := hm
  unfold mayP at hm2
  obtain ⟨t0, t1, t2, t3, t4, t5, t6, t7, t8, t9, ta, tb, tc, td, te, tf, rfl⟩ := len16 htag
  have hwl := wideB_le tok.length
  refine c_seq ?_
  refine reg_plain w0 (Nobody) ?_
  refine r_box hS hH (by repeat (first | exact Sub.nil | refine Sub.cons ?_ ?_ | exact In.here | refine In.there ?_)) rfl rfl rfl ?_
  clear hS hH; intro a w b3 hb3 hwb3 hS hH
  refine r_assign hS hH.kp0 rfl rfl ?_; clear hS; intro a hS
  refine r_assign hS hH.kp0 rfl rfl ?_; clear hS; intro a hS
  refine r_assign hS hH.kp0 rfl rfl ?_; clear hS; intro a hS
  refine Sq.nil ?_
  refine then_n ?_
  refine c_seq ?_
  refine c_seq ?_
  refine reg_plain w0 (Nobody) ?_
  refine r_load_row hS hH (by repeat (first | exact Sub.nil | refine Sub.cons ?_ ?_ | exact In.here | refine In.there ?_)) rfl (by repeat (first | exact In.here | refine In.there ?_)) Fp.ag41 (by rfl) rfl ?_; clear hS; intro a hS
  refine r_move hS hH.kp0 rfl rfl ?_; clear hS; intro a hS
  refine r_call (l := [.tmp 19, .tmp 20]) hS rfl rfl Fp.fn31 rfl ?_
  refine Calls.mono (may_c 5 ve q1 q2 q3 q4 c1 c2 c3 c4 dst src tok _ lst (ln : Int) true htag (n : Int) _ (by omega) (hlst.ext hH.mod)) ?_
  rintro e w1 ⟨rfl, hE⟩
  replace hH := hH.ext hE
  refine ⟨_, rfl, hH.kp0, ?_⟩
  clear hS; intro a hS
  refine r_not hS hH.kp0 rfl rfl ?_; clear hS; intro a hS
  refine Sq.nil ?_
  refine then_n ?_
  refine c_condF hS rfl (by rw [DT hm]; rfl) ?_
  refine wp_skip ?_
  refine then_n ?_
  refine c_seq ?_
  refine c_seq ?_
  refine reg_plain w0 (Nobody) ?_
  refine r_fieldAddr hS hH.kp0 rfl Fp.fo41_0 rfl ?_; clear hS; intro a hS
  refine r_load_sc hS hH (by repeat (first | exact Sub.nil | refine Sub.cons ?_ ?_ | exact In.here | refine In.there ?_)) rfl (by repeat (first | exact In.here | refine In.there ?_)) Fp.sc3 (by rfl) rfl ?_; clear hS; intro a hS
  refine r_eql hS hH.kp0 rfl rfl rfl ?_; clear hS; intro a hS
  refine Sq.nil ?_
  refine then_n ?_
  refine c_condT hS rfl rfl ?_
  refine c_seq ?_
  refine reg_plain w0 (Nobody) ?_
  refine r_move hS hH.kp0 rfl rfl ?_; clear hS; intro a hS
  first | refine r_add hS hH.kp0 rfl rfl rfl (by omega) ?_ | refine r_addw hS hH.kp0 rfl rfl rfl ?_
  clear hS; intro a hS
  first | refine r_sub hS hH.kp0 rfl rfl rfl (by omega) ?_ | refine r_subw hS hH.kp0 rfl rfl rfl ?_
  clear hS; intro a hS
  refine r_assign hS hH.kp0 rfl rfl ?_; clear hS; intro a hS
  refine Sq.nil ?_
  refine then_n ?_
  refine c_seq ?_
  refine c_seq ?_
  refine reg_plain w0 (Nobody) ?_
  refine r_fieldAddr hS hH.kp0 rfl Fp.fo41_6 rfl ?_; clear hS; intro a hS
  refine r_load_sc hS hH (by repeat (first | exact Sub.nil | refine Sub.cons ?_ ?_ | exact In.here | refine In.there ?_)) rfl (by repeat (first | exact In.here | refine In.there ?_)) Fp.sc4 (by rfl) rfl ?_; clear hS; intro a hS
  refine Sq.nil ?_
  refine then_n ?_
  refine c_condT hS rfl rfl ?_
  refine reg_plain w0 (Nobody) ?_
  refine r_move hS hH.kp0 rfl rfl ?_; clear hS; intro a hS
  first | refine r_add hS hH.kp0 rfl rfl rfl (by omega) ?_ | refine r_addw hS hH.kp0 rfl rfl rfl ?_
  clear hS; intro a hS
  refine r_assign hS hH.kp0 rfl rfl ?_; clear hS; intro a hS
  refine Sq.nil ?_
  refine then_n ?_
  refine c_seq ?_
  refine reg_plain w0 (Nobody) ?_
  refine r_move hS hH.kp0 rfl rfl ?_; clear hS; intro a hS
  refine r_toU8' (63 + n + 4) (UInt8.ofNat (63 + n + 4)) hS hH.kp0 rfl Fp.ui5 Fp.us3 rfl (by omega) rfl ?_; clear hS; intro a hS
  refine r_buildSlice (parts := [(0, .tmp 34)]) hS hH (by repeat (first | exact Sub.nil | refine Sub.cons ?_ ?_ | exact In.here | refine In.there ?_)) rfl Fp.bsl22_1 (by rfl) rfl ?_
  clear hS hH; intro a w b35 hb35 hwb35 hS hH
  refine r_fieldAddr hS hH.kp0 rfl Fp.fo41_2 rfl ?_; clear hS; intro a hS
  refine r_load_sc hS hH (by repeat (first | exact Sub.nil | refine Sub.cons ?_ ?_ | exact In.here | refine In.there ?_)) rfl (by repeat (first | exact In.here | refine In.there ?_)) Fp.sc22 (by rfl) rfl ?_; clear hS; intro a hS
  refine r_appB (l := _) ([UInt8.ofNat (63 + n + 4)]) (dst) hS hH rfl rfl (by first | exact .here | exact .there .here | exact .there (.there .here) | exact .there (.there (.there .here)) | exact .there (.there (.there (.there .here))) | exact .there (.there (.there (.there (.there .here)))) | exact .there (.there (.there (.there (.there (.there .here))))) | exact .there (.there (.there (.there (.there (.there (.there .here)))))) | exact .there (.there (.there (.there (.there (.there (.there (.there .here))))))) | exact .there (.there (.there (.there (.there (.there (.there (.there (.there .here)))))))) | exact .there (.there (.there (.there (.there (.there (.there (.there (.there (.there .here))))))))) | exact .there (.there (.there (.there (.there (.there (.there (.there (.there (.there (.there .here)))))))))) | exact .there (.there (.there (.there (.there (.there (.there (.there (.there (.there (.there (.there .here))))))))))) | exact .there (.there (.there (.there (.there (.there (.there (.there (.there (.there (.there (.there (.there .here)))))))))))) | exact .there (.there (.there (.there (.there (.there (.there (.there (.there (.there (.there (.there (.there (.there .here))))))))))))) | exact .there (.there (.there (.there (.there (.there (.there (.there (.there (.there (.there (.there (.there (.there (.there .here))))))))))))))) (by repeat (first | exact Sub.nil | refine Sub.cons ?_ ?_ | exact In.here | refine In.there ?_)) Fp.el22 Fp.ni22 (BB.lit [UInt8.ofNat (63 + n + 4)] rfl rfl) (hd.ext hH.mod) (by simp only [List.length_cons, List.length_nil]; omega) (by assumption) rfl ?_
  clear hS hH; intro a w bq cq kq hwq hBq hS hH
  refine r_assign hS hH.kp0 rfl rfl ?_; clear hS; intro a hS
  refine Sq.nil ?_
  refine then_n ?_
  refine c_seq ?_
  refine reg_plain w0 (Nobody) ?_
  refine r_move hS hH.kp0 rfl rfl ?_; clear hS; intro a hS
  refine r_move hS hH.kp0 rfl rfl ?_; clear hS; intro a hS
  refine r_move hS hH.kp0 rfl rfl ?_; clear hS; intro a hS
  refine r_call (l := [.tmp 40, .tmp 41]) hS rfl rfl Fp.fn32 rfl ?_
  refine Calls.mono (Bytes_c low n hlow (by omega) (by omega) _) ?_
  rintro e w1 ⟨ry_, rfl, hN, hE⟩
  obtain ⟨by_, cy_, ky_, hvy_, hry_, hrky_, hBy_⟩ := hN
  subst hvy_
  have hwy_ := Nat.le_trans hH.mod.size hry_
  replace hH := hH.knowN hE hry_ hrky_
  refine ⟨_, rfl, hH.kp0, ?_⟩
  clear hS; intro a hS
  refine r_appB (l := _) ([UInt8.ofNat (63 + n + 4)] ++ dst) (beB low n) hS hH rfl rfl (by first | exact .here | exact .there .here | exact .there (.there .here) | exact .there (.there (.there .here)) | exact .there (.there (.there (.there .here))) | exact .there (.there (.there (.there (.there .here)))) | exact .there (.there (.there (.there (.there (.there .here))))) | exact .there (.there (.there (.there (.there (.there (.there .here)))))) | exact .there (.there (.there (.there (.there (.there (.there (.there .here))))))) | exact .there (.there (.there (.there (.there (.there (.there (.there (.there .here)))))))) | exact .there (.there (.there (.there (.there (.there (.there (.there (.there (.there .here))))))))) | exact .there (.there (.there (.there (.there (.there (.there (.there (.there (.there (.there .here)))))))))) | exact .there (.there (.there (.there (.there (.there (.there (.there (.there (.there (.there (.there .here))))))))))) | exact .there (.there (.there (.there (.there (.there (.there (.there (.there (.there (.there (.there (.there .here)))))))))))) | exact .there (.there (.there (.there (.there (.there (.there (.there (.there (.there (.there (.there (.there (.there .here))))))))))))) | exact .there (.there (.there (.there (.there (.there (.there (.there (.there (.there (.there (.there (.there (.there (.there .here))))))))))))))) (by repeat (first | exact Sub.nil | refine Sub.cons ?_ ?_ | exact In.here | refine In.there ?_)) Fp.el22 Fp.ni22 hBq (hBy_.bs (hH.get (b := by_) (by repeat (first | exact In.here | refine In.there ?_)))) (by simp only [List.length_append, List.length_cons, List.length_nil, beB_len]; omega) (by assumption) rfl ?_
  clear hS hH; intro a w bz cz kz hwz hBz hS hH
  refine r_move hS hH.kp0 rfl rfl ?_; clear hS; intro a hS
  refine r_lenSl hS hH.kp0 rfl Fp.isSlice22 rfl ?_; clear hS; intro a hS
  refine r_assign hS hH.kp0 rfl rfl ?_; clear hS; intro a hS
  refine r_assign hS hH.kp0 rfl rfl ?_; clear hS; intro a hS
  refine r_assign hS hH.kp0 rfl rfl ?_; clear hS; intro a hS
  refine Sq.nil ?_
  refine then_n ?_
  refine wp_ret ?_
  refine then_r ?_
  exact leave (.inl rfl) hS rfl (Res.tmp rfl (Res.tmp rfl (Res.tmp rfl Res.nil))) ⟨_, rfl, ⟨bz, cz, kz, rfl, hwz, hH.get (b := bz) (by repeat (first | exact In.here | refine In.there ?_)), hBz⟩, hH.mod⟩

set_option maxRecDepth 100000 in
set_option maxHeartbeats 2000000 in
theorem RPut_5f (ve : Int) (q1 q2 q3 q4 : Option Addr) (c1 c2 c3 c4 : Nat) (dst src tok tag : List UInt8) (lst : List Int) (ln : Int) (htag : tag.length = 16) (n : Nat) (low : Nat) (hlow : low < 18446744073709551616) (w0 : World) (hll : lst.length ≤ 1048576) (hlst : IsA w0 q4 c4 lst) (hd : Bs w0 (.slice q1 dst.length c1) dst) (hs : Bs w0 (.slice q2 src.length c2) src) (ht : Bs w0 (.slice q3 tok.length c3) tok) (hm : mayP 5 dst.length src.length tok.length (ln : Int) (n : Int) lst.length (badN lst)) : Calls Tryd.prog 13 #[.agg ([.int .i64 5, .int .i64 ve, .slice q1 dst.length c1, .slice q2 src.length c2, .slice q3 tok.length c3, .int .i64 (ln : Int), .bool false, .slice q4 lst.length c4] ++ hcells tag : List Value).toArray, .int .u64 (low : Int), .int .i64 (n : Int)] w0 fun e w' => ∃ r, e = .returned (.tuple #[r, .int .i64 ((headB 5 n dst src tok ln.toNat false lst tag).length : Int), .int .i64 0]) ∧ NB w0.heap.size 5 w' r (headB 5 n dst src tok ln.toNat false lst tag ++ beB low n) ∧ Ext w0 w' := by
  refine enter Tryd.func13 rfl rfl rfl ?_
  intro a hS
  have hH := Hp.start w0 (Nobody)
  have hm2 := hm
  unfold mayP at hm2
  obtain ⟨t0, t1, t2, t3, t4, t5, t6, t7, t8, t9, ta, tb, tc, td, te, tf, rfl⟩ := len16 htag
  have hwl := wideB_le tok.length
  refine c_seq ?_
  refine reg_plain w0 (Nobody) ?_
  refine r_box hS hH (by repeat (first | exact Sub.nil | refine Sub.cons ?_ ?_ | exact In.here | refine In.there ?_)) rfl rfl rfl ?_
  clear hS hH; intro a w b3 hb3 hwb3 hS hH
  refine r_assign hS hH.kp0 rfl rfl ?_; clear hS; intro a hS
  refine r_assign hS hH.kp0 rfl rfl ?_; clear hS; intro a hS
  refine r_assign hS hH.kp0 rfl rfl ?_; clear hS; intro a hS
  refine Sq.nil ?_
  refine then_n ?_
  refine c_seq ?_
  refine c_seq ?_
  refine reg_plain w0 (Nobody) ?_
  refine r_load_row hS hH (by repeat (first | exact Sub.nil | refine Sub.cons ?_ ?_ | exact In.here | refine In.there ?_)) rfl (by repeat (first | exact In.here | refine In.there ?_)) Fp.ag41 (by rfl) rfl ?_; clear hS; intro a hS
  refine r_move hS hH.kp0 rfl rfl ?_; clear hS; intro a hS
  refine r_call (l := [.tmp 19, .tmp 20]) hS rfl rfl Fp.fn31 rfl ?_
  refine Calls.mono (may_c 5 ve q1 q2 q3 q4 c1 c2 c3 c4 dst src tok _ lst (ln : Int) false htag (n : Int) _ (by omega) (hlst.ext hH.mod)) ?_
  rintro e w1 ⟨rfl, hE⟩
  replace hH := hH.ext hE
  refine ⟨_, rfl, hH.kp0, ?_⟩
  clear hS; intro a hS
  refine r_not hS hH.kp0 rfl rfl ?_; clear hS; intro a hS
  refine Sq.nil ?_
  refine then_n ?_
  refine c_condF hS rfl (by rw [DT hm]; rfl) ?_
  refine wp_skip ?_
  refine then_n ?_
  refine c_seq ?_
  refine c_seq ?_
  refine reg_plain w0 (Nobody) ?_
  refine r_fieldAddr hS hH.kp0 rfl Fp.fo41_0 rfl ?_; clear hS; intro a hS
  refine r_load_sc hS hH (by repeat (first | exact Sub.nil | refine Sub.cons ?_ ?_ | exact In.here | refine In.there ?_)) rfl (by repeat (first | exact In.here | refine In.there ?_)) Fp.sc3 (by rfl) rfl ?_; clear hS; intro a hS
  refine r_eql hS hH.kp0 rfl rfl rfl ?_; clear hS; intro a hS
  refine Sq.nil ?_
  refine then_n ?_
  refine c_condT hS rfl rfl ?_
  refine c_seq ?_
  refine reg_plain w0 (Nobody) ?_
  refine r_move hS hH.kp0 rfl rfl ?_; clear hS; intro a hS
  first | refine r_add hS hH.kp0 rfl rfl rfl (by omega) ?_ | refine r_addw hS hH.kp0 rfl rfl rfl ?_
  clear hS; intro a hS
  first | refine r_sub hS hH.kp0 rfl rfl rfl (by omega) ?_ | refine r_subw hS hH.kp0 rfl rfl rfl ?_
  clear hS; intro a hS
  refine r_assign hS hH.kp0 rfl rfl ?_; clear hS; intro a hS
  refine Sq.nil ?_
  refine then_n ?_
  refine c_seq ?_
  refine c_seq ?_
  refine reg_plain w0 (Nobody) ?_
  refine r_fieldAddr hS hH.kp0 rfl Fp.fo41_6 rfl ?_; clear hS; intro a hS
  refine r_load_sc hS hH (by repeat (first | exact Sub.nil | refine Sub.cons ?_ ?_ | exact In.here | refine In.there ?_)) rfl (by repeat (first | exact In.here | refine In.there ?_)) Fp.sc4 (by rfl) rfl ?_; clear hS; intro a hS
  refine Sq.nil ?_
  refine then_n ?_
  refine c_condF hS rfl rfl ?_
  refine wp_skip ?_
  refine then_n ?_
  refine c_seq ?_
  refine reg_plain w0 (Nobody) ?_
  refine r_move hS hH.kp0 rfl rfl ?_; clear hS; intro a hS
  refine r_toU8' (63 + n) (UInt8.ofNat (63 + n)) hS hH.kp0 rfl Fp.ui5 Fp.us3 rfl (by omega) rfl ?_; clear hS; intro a hS
  refine r_buildSlice (parts := [(0, .tmp 34)]) hS hH (by repeat (first | exact Sub.nil | refine Sub.cons ?_ ?_ | exact In.here | refine In.there ?_)) rfl Fp.bsl22_1 (by rfl) rfl ?_
  clear hS hH; intro a w b35 hb35 hwb35 hS hH
  refine r_fieldAddr hS hH.kp0 rfl Fp.fo41_2 rfl ?_; clear hS; intro a hS
  refine r_load_sc hS hH (by repeat (first | exact Sub.nil | refine Sub.cons ?_ ?_ | exact In.here | refine In.there ?_)) rfl (by repeat (first | exact In.here | refine In.there ?_)) Fp.sc22 (by rfl) rfl ?_; clear hS; intro a hS
  refine r_appB (l := _) ([UInt8.ofNat (63 + n)]) (dst) hS hH rfl rfl (by first | exact .here | exact .there .here | exact .there (.there .here) | exact .there (.there (.there .here)) | exact .there (.there (.there (.there .here))) | exact .there (.there (.there (.there (.there .here)))) | exact .there (.there (.there (.there (.there (.there .here))))) | exact .there (.there (.there (.there (.there (.there (.there .here)))))) | exact .there (.there (.there (.there (.there (.there (.there (.there .here))))))) | exact .there (.there (.there (.there (.there (.there (.there (.there (.there .here)))))))) | exact .there (.there (.there (.there (.there (.there (.there (.there (.there (.there .here))))))))) | exact .there (.there (.there (.there (.there (.there (.there (.there (.there (.there (.there .here)))))))))) | exact .there (.there (.there (.there (.there (.there (.there (.there (.there (.there (.there (.there .here))))))))))) | exact .there (.there (.there (.there (.there (.there (.there (.there (.there (.there (.there (.there (.there .here)))))))))))) | exact .there (.there (.there (.there (.there (.there (.there (.there (.there (.there (.there (.there (.there (.there .here))))))))))))) | exact .there (.there (.there (.there (.there (.there (.there (.there (.there (.there (.there (.there (.there (.there (.there .here))))))))))))))) (by repeat (first | exact Sub.nil | refine Sub.cons ?_ ?_ | exact In.here | refine In.there ?_)) Fp.el22 Fp.ni22 (BB.lit [UInt8.ofNat (63 + n)] rfl rfl) (hd.ext hH.mod) (by simp only [List.length_cons, List.length_nil]; omega) (by assumption) rfl ?_
  clear hS hH; intro a w bq cq kq hwq hBq hS hH
  refine r_assign hS hH.kp0 rfl rfl ?_; clear hS; intro a hS
  refine Sq.nil ?_
  refine then_n ?_
  refine c_seq ?_
  refine reg_plain w0 (Nobody) ?_
  refine r_move hS hH.kp0 rfl rfl ?_; clear hS; intro a hS
  refine r_move hS hH.kp0 rfl rfl ?_; clear hS; intro a hS
  refine r_move hS hH.kp0 rfl rfl ?_; clear hS; intro a hS
  refine r_call (l := [.tmp 40, .tmp 41]) hS rfl rfl Fp.fn32 rfl ?_
  refine Calls.mono (Bytes_c low n hlow (by omega) (by omega) _) ?_
  rintro e w1 ⟨ry_, rfl, hN, hE⟩
  obtain ⟨by_, cy_, ky_, hvy_, hry_, hrky_, hBy_⟩ := hN
  subst hvy_
  have hwy_ := Nat.le_trans hH.mod.size hry_
  replace hH := hH.knowN hE hry_ hrky_
  refine ⟨_, rfl, hH.kp0, ?_⟩
  clear hS; intro a hS
  refine r_appB (l := _) ([UInt8.ofNat (63 + n)] ++ dst) (beB low n) hS hH rfl rfl (by first | exact .here | exact .there .here | exact .there (.there .here) | exact .there (.there (.there .here)) | exact .there (.there (.there (.there .here))) | exact .there (.there (.there (.there (.there .here)))) | exact .there (.there (.there (.there (.there (.there .here))))) | exact .there (.there (.there (.there (.there (.there (.there .here)))))) | exact .there (.there (.there (.there (.there (.there (.there (.there .here))))))) | exact .there (.there (.there (.there (.there (.there (.there (.there (.there .here)))))))) | exact .there (.there (.there (.there (.there (.there (.there (.there (.there (.there .here))))))))) | exact .there (.there (.there (.there (.there (.there (.there (.there (.there (.there (.there .here)))))))))) | exact .there (.there (.there (.there (.there (.there (.there (.there (.there (.there (.there (.there .here))))))))))) | exact .there (.there (.there (.there (.there (.there (.there (.there (.there (.there (.there (.there (.there .here)))))))))))) | exact .there (.there (.there (.there (.there (.there (.there (.there (.there (.there (.there (.there (.there (.there .here))))))))))))) | exact .there (.there (.there (.there (.there (.there (.there (.there (.there (.there (.there (.there (.there (.there (.there .here))))))))))))))) (by repeat (first | exact Sub.nil | refine Sub.cons ?_ ?_ | exact In.here | refine In.there ?_)) Fp.el22 Fp.ni22 hBq (hBy_.bs (hH.get (b := by_) (by repeat (first | exact In.here | refine In.there ?_)))) (by simp only [List.length_append, List.length_cons, List.length_nil, beB_len]; omega) (by assumption) rfl ?_
  clear hS hH; intro a w bz cz kz hwz hBz hS hH
  refine r_move hS hH.kp0 rfl rfl ?_; clear hS; intro a hS
  refine r_lenSl hS hH.kp0 rfl Fp.isSlice22 rfl ?_; clear hS; intro a hS
  refine r_assign hS hH.kp0 rfl rfl ?_; clear hS; intro a hS
  refine r_assign hS hH.kp0 rfl rfl ?_; clear hS; intro a hS
  refine r_assign hS hH.kp0 rfl rfl ?_; clear hS; intro a hS
  refine Sq.nil ?_
  refine then_n ?_
  refine wp_ret ?_
  refine then_r ?_
  exact leave (.inl rfl) hS rfl (Res.tmp rfl (Res.tmp rfl (Res.tmp rfl Res.nil))) ⟨_, rfl, ⟨bz, cz, kz, rfl, hwz, hH.get (b := bz) (by repeat (first | exact In.here | refine In.there ?_)), hBz⟩, hH.mod⟩

set_option maxRecDepth 100000 in
set_option maxHeartbeats 2000000 in
theorem RPut_0 (ve : Int) (q1 q2 q3 q4 : Option Addr) (c1 c2 c3 c4 : Nat) (dst src tok tag : List UInt8) (lst : List Int) (ln : Nat) (ph : Bool) (htag : tag.length = 16) (n : Nat) (low : Nat) (hlow : low < 18446744073709551616) (w0 : World) (hll : lst.length ≤ 1048576) (hlst : IsA w0 q4 c4 lst) (hd : Bs w0 (.slice q1 dst.length c1) dst) (hs : Bs w0 (.slice q2 src.length c2) src) (ht : Bs w0 (.slice q3 tok.length c3) tok) (hm : mayP 0 dst.length src.length tok.length (ln : Int) (n : Int) lst.length (badN lst)) : Calls Tryd.prog 13 #[.agg ([.int .i64 0, .int .i64 ve, .slice q1 dst.length c1, .slice q2 src.length c2, .slice q3 tok.length c3, .int .i64 (ln : Int), .bool ph, .slice q4 lst.length c4] ++ hcells tag : List Value).toArray, .int .u64 (low : Int), .int .i64 (n : Int)] w0 fun e w' => ∃ r, e = .returned (.tuple #[r, .int .i64 ((headB 0 n dst src tok ln ph lst tag).length : Int), .int .i64 0]) ∧ NB w0.heap.size 5 w' r (headB 0 n dst src tok ln ph lst tag ++ beB low n) ∧ Ext w0 w' := by
  refine enter Tryd.func13 rfl rfl rfl ?_
  intro a hS
  have hH := Hp.start w0 (Nobody)
  have hm2 := hm
  unfold mayP at hm2
  obtain ⟨t0, t1, t2, t3, t4, t5, t6, t7, t8, t9, ta, tb, tc, td, te, tf, rfl⟩ := len16 htag
  have hwl := wideB_le tok.length
  have hw2 : (wideB ln 1).length = 2 := wideB_len _ _
  refine c_seq ?_
  refine reg_plain w0 (Nobody) ?_
  refine r_box hS hH (by repeat (first | exact Sub.nil | refine Sub.cons ?_ ?_ | exact In.here | refine In.there ?_)) rfl rfl rfl ?_
  clear hS hH; intro a w b3 hb3 hwb3 hS hH
  refine r_assign hS hH.kp0 rfl rfl ?_; clear hS; intro a hS
  refine r_assign hS hH.kp0 rfl rfl ?_; clear hS; intro a hS
  refine r_assign hS hH.kp0 rfl rfl ?_; clear hS; intro a hS
  refine Sq.nil ?_
  refine then_n ?_
  refine c_seq ?_
  refine c_seq ?_
  refine reg_plain w0 (Nobody) ?_
  refine r_load_row hS hH (by repeat (first | exact Sub.nil | refine Sub.cons ?_ ?_ | exact In.here | refine In.there ?_)) rfl (by repeat (first | exact In.here | refine In.there ?_)) Fp.ag41 (by rfl) rfl ?_; clear hS; intro a hS
  refine r_move hS hH.kp0 rfl rfl ?_; clear hS; intro a hS
  refine r_call (l := [.tmp 19, .tmp 20]) hS rfl rfl Fp.fn31 rfl ?_
  refine Calls.mono (may_c 0 ve q1 q2 q3 q4 c1 c2 c3 c4 dst src tok _ lst (ln : Int) ph htag (n : Int) _ (by omega) (hlst.ext hH.mod)) ?_
  rintro e w1 ⟨rfl, hE⟩
  replace hH := hH.ext hE
  refine ⟨_, rfl, hH.kp0, ?_⟩
  clear hS; intro a hS
  refine r_not hS hH.kp0 rfl rfl ?_; clear hS; intro a hS
  refine Sq.nil ?_
  refine then_n ?_
  refine c_condF hS rfl (by rw [DT hm]; rfl) ?_
  refine wp_skip ?_
  refine then_n ?_
  refine c_seq ?_
  refine c_seq ?_
  refine reg_plain w0 (Nobody) ?_
  refine r_fieldAddr hS hH.kp0 rfl Fp.fo41_0 rfl ?_; clear hS; intro a hS
  refine r_load_sc hS hH (by repeat (first | exact Sub.nil | refine Sub.cons ?_ ?_ | exact In.here | refine In.there ?_)) rfl (by repeat (first | exact In.here | refine In.there ?_)) Fp.sc3 (by rfl) rfl ?_; clear hS; intro a hS
  refine r_eql hS hH.kp0 rfl rfl rfl ?_; clear hS; intro a hS
  refine Sq.nil ?_
  refine then_n ?_
  refine c_condF hS rfl rfl ?_
  refine wp_skip ?_
  refine then_n ?_
  refine c_seq ?_
  refine reg_plain w0 (Nobody) ?_
  refine r_assign hS hH.kp0 rfl rfl ?_; clear hS; intro a hS
  refine Sq.nil ?_
  refine then_n ?_
  refine c_seq ?_
  refine reg_plain w0 (Nobody) ?_
  refine r_assign hS hH.kp0 rfl rfl ?_; clear hS; intro a hS
  refine Sq.nil ?_
  refine then_n ?_
  refine c_seq ?_
  refine c_seq ?_
  refine reg_plain w0 (Nobody) ?_
  refine r_fieldAddr hS hH.kp0 rfl Fp.fo41_0 rfl ?_; clear hS; intro a hS
  refine r_load_sc hS hH (by repeat (first | exact Sub.nil | refine Sub.cons ?_ ?_ | exact In.here | refine In.there ?_)) rfl (by repeat (first | exact In.here | refine In.there ?_)) Fp.sc3 (by rfl) rfl ?_; clear hS; intro a hS
  refine Sq.nil ?_
  refine then_n ?_
  refine wp_block ?_
  refine c_seq ?_
  refine c_seq ?_
  refine reg_plain w0 (Nobody) ?_
  refine r_eql hS hH.kp0 rfl rfl rfl ?_; clear hS; intro a hS
  refine r_assign hS hH.kp0 rfl rfl ?_; clear hS; intro a hS
  refine Sq.nil ?_
  refine then_n ?_
  refine c_condT hS rfl rfl ?_
  refine wp_skip ?_
  refine then_n ?_
  refine c_condT hS rfl rfl ?_
  refine reg_plain w0 (Nobody) ?_
  refine r_fieldAddr hS hH.kp0 rfl Fp.fo41_0 rfl ?_; clear hS; intro a hS
  refine r_load_sc hS hH (by repeat (first | exact Sub.nil | refine Sub.cons ?_ ?_ | exact In.here | refine In.there ?_)) rfl (by repeat (first | exact In.here | refine In.there ?_)) Fp.sc3 (by rfl) rfl ?_; clear hS; intro a hS
  first | refine r_mul hS hH.kp0 rfl rfl rfl (by omega) ?_ | refine r_mulw hS hH.kp0 rfl rfl rfl ?_
  clear hS; intro a hS
  first | refine r_add hS hH.kp0 rfl rfl rfl (by omega) ?_ | refine r_addw hS hH.kp0 rfl rfl rfl ?_
  clear hS; intro a hS
  refine r_move hS hH.kp0 rfl rfl ?_; clear hS; intro a hS
  first | refine r_add hS hH.kp0 rfl rfl rfl (by omega) ?_ | refine r_addw hS hH.kp0 rfl rfl rfl ?_
  clear hS; intro a hS
  first | refine r_sub hS hH.kp0 rfl rfl rfl (by omega) ?_ | refine r_subw hS hH.kp0 rfl rfl rfl ?_
  clear hS; intro a hS
  refine r_assign hS hH.kp0 rfl rfl ?_; clear hS; intro a hS
  refine Sq.nil ?_
  refine blk_n ?_
  refine then_n ?_
  refine c_seq ?_
  refine reg_plain w0 (Nobody) ?_
  refine r_move hS hH.kp0 rfl rfl ?_; clear hS; intro a hS
  refine r_toU8' (191 + n) (UInt8.ofNat (191 + n)) hS hH.kp0 rfl Fp.ui5 Fp.us3 rfl (by omega) rfl ?_; clear hS; intro a hS
  refine r_buildSlice (parts := [(0, .tmp 64)]) hS hH (by repeat (first | exact Sub.nil | refine Sub.cons ?_ ?_ | exact In.here | refine In.there ?_)) rfl Fp.bsl22_1 (by rfl) rfl ?_
  clear hS hH; intro a w b65 hb65 hwb65 hS hH
  refine r_move hS hH.kp0 rfl rfl ?_; clear hS; intro a hS
  refine r_toU64 (1) hS hH.kp0 rfl Fp.ui36 Fp.us3 rfl rfl (by omega) ?_; clear hS; intro a hS
  refine r_call (l := [.tmp 67, .const (.int .i64 4)]) hS rfl rfl Fp.fn32 rfl ?_
  refine Calls.mono (Bytes_c 1 4 (by decide) (by decide) (by decide) _) ?_
  rintro e w1 ⟨rp, rfl, hN, hE⟩
  obtain ⟨bp, cp, kp, hvp, hrp, hrkp, hBp⟩ := hN
  subst hvp
  have hwp := Nat.le_trans hH.mod.size hrp
  replace hH := hH.knowN hE hrp hrkp
  refine ⟨_, rfl, hH.kp0, ?_⟩
  clear hS; intro a hS
  refine r_appB (l := _) ((UInt8.ofNat (191 + n) :: [])) (beB 1 4) hS hH rfl rfl (by first | exact .here | exact .there .here | exact .there (.there .here) | exact .there (.there (.there .here)) | exact .there (.there (.there (.there .here))) | exact .there (.there (.there (.there (.there .here)))) | exact .there (.there (.there (.there (.there (.there .here))))) | exact .there (.there (.there (.there (.there (.there (.there .here)))))) | exact .there (.there (.there (.there (.there (.there (.there (.there .here))))))) | exact .there (.there (.there (.there (.there (.there (.there (.there (.there .here)))))))) | exact .there (.there (.there (.there (.there (.there (.there (.there (.there (.there .here))))))))) | exact .there (.there (.there (.there (.there (.there (.there (.there (.there (.there (.there .here)))))))))) | exact .there (.there (.there (.there (.there (.there (.there (.there (.there (.there (.there (.there .here))))))))))) | exact .there (.there (.there (.there (.there (.there (.there (.there (.there (.there (.there (.there (.there .here)))))))))))) | exact .there (.there (.there (.there (.there (.there (.there (.there (.there (.there (.there (.there (.there (.there .here))))))))))))) | exact .there (.there (.there (.there (.there (.there (.there (.there (.there (.there (.there (.there (.there (.there (.there .here))))))))))))))) (by repeat (first | exact Sub.nil | refine Sub.cons ?_ ?_ | exact In.here | refine In.there ?_)) Fp.el22 Fp.ni22 (BB.lit [UInt8.ofNat (191 + n)] rfl rfl) (hBp.bs (hH.get (b := bp) (by repeat (first | exact In.here | refine In.there ?_)))) (by simp only [List.length_cons, List.length_nil, beB_len]; omega) (by assumption) rfl ?_
  clear hS hH; intro a w bq cq kq hwq hBq hS hH
  refine r_assign hS hH.kp0 rfl rfl ?_; clear hS; intro a hS
  refine Sq.nil ?_
  refine then_n ?_
  refine c_seq ?_
  refine reg_draw [(true, 0, [0]), (true, 1, [0]), (true, 2, [0]), (true, 3, [0]), (true, 7, [0]), (true, 8, [0]), (false, 4, []), (false, 5, []), (false, 6, [0]), (false, 9, [0]), (true, 10, [0])] Fc.mixed (by kernel_rfl) (by kernel_rfl) (by kernel_rfl) (by kernel_rfl) (by kernel_rfl) (by repeat (first | with_reducible exact steady_body | with_reducible apply steady_block | with_reducible apply steady_then | with_reducible apply steady_scope | exact steady_body)) hH ?_
  replace hH := hH.drew
  refine r_move hS trivial rfl rfl ?_; clear hS; intro a hS
  refine r_fieldAddr hS trivial rfl Fp.fo41_2 rfl ?_; clear hS; intro a hS
  refine r_load_scS hS rfl (by repeat (first | exact In.here | refine In.there ?_)) Fp.sc22 (by rfl) rfl ?_; clear hS; intro a hS
  refine r_lenSl hS trivial rfl Fp.isSlice22 rfl ?_; clear hS; intro a hS
  refine r_fieldAddr hS trivial rfl Fp.fo41_2 rfl ?_; clear hS; intro a hS
  refine r_load_scS hS rfl (by repeat (first | exact In.here | refine In.there ?_)) Fp.sc22 (by rfl) rfl ?_; clear hS; intro a hS
  refine r_toU8 (q := dst.length) (UInt8.ofNat (dst.length)) hS (hH.kp (by repeat (first | exact Sub.nil | refine Sub.cons ?_ ?_ | exact In.here | refine In.there ?_))) rfl Fp.ui5 Fp.us3 rfl rfl ?_; clear hS; intro a hS
  refine r_buildSlice (parts := [(0, .tmp 74)]) hS hH (by repeat (first | exact Sub.nil | refine Sub.cons ?_ ?_ | exact In.here | refine In.there ?_)) rfl Fp.bsl22_1 (by rfl) rfl ?_
  clear hS hH; intro a w b75 hb75 hwb75 hS hH
  refine r_appB (l := _) ((UInt8.ofNat (191 + n) :: []) ++ beB 1 4) ([UInt8.ofNat dst.length]) hS hH rfl rfl (by first | exact .here | exact .there .here | exact .there (.there .here) | exact .there (.there (.there .here)) | exact .there (.there (.there (.there .here))) | exact .there (.there (.there (.there (.there .here)))) | exact .there (.there (.there (.there (.there (.there .here))))) | exact .there (.there (.there (.there (.there (.there (.there .here)))))) | exact .there (.there (.there (.there (.there (.there (.there (.there .here))))))) | exact .there (.there (.there (.there (.there (.there (.there (.there (.there .here)))))))) | exact .there (.there (.there (.there (.there (.there (.there (.there (.there (.there .here))))))))) | exact .there (.there (.there (.there (.there (.there (.there (.there (.there (.there (.there .here)))))))))) | exact .there (.there (.there (.there (.there (.there (.there (.there (.there (.there (.there (.there .here))))))))))) | exact .there (.there (.there (.there (.there (.there (.there (.there (.there (.there (.there (.there (.there .here)))))))))))) | exact .there (.there (.there (.there (.there (.there (.there (.there (.there (.there (.there (.there (.there (.there .here))))))))))))) | exact .there (.there (.there (.there (.there (.there (.there (.there (.there (.there (.there (.there (.there (.there (.there .here))))))))))))))) (by repeat (first | exact Sub.nil | refine Sub.cons ?_ ?_ | exact In.here | refine In.there ?_)) Fp.el22 Fp.ni22 hBq ((BB.lit [UInt8.ofNat dst.length] rfl rfl).bs (hH.get (b := b75) (by repeat (first | exact In.here | refine In.there ?_)))) (by simp only [List.length_append, List.length_cons, List.length_nil, beB_len]; omega) (by assumption) rfl ?_
  clear hS hH; intro a w br cr kr hwr hBr hS hH
  refine r_appB (l := _) (((UInt8.ofNat (191 + n) :: []) ++ beB 1 4) ++ [UInt8.ofNat dst.length]) (dst) hS hH rfl rfl (by first | exact .here | exact .there .here | exact .there (.there .here) | exact .there (.there (.there .here)) | exact .there (.there (.there (.there .here))) | exact .there (.there (.there (.there (.there .here)))) | exact .there (.there (.there (.there (.there (.there .here))))) | exact .there (.there (.there (.there (.there (.there (.there .here)))))) | exact .there (.there (.there (.there (.there (.there (.there (.there .here))))))) | exact .there (.there (.there (.there (.there (.there (.there (.there (.there .here)))))))) | exact .there (.there (.there (.there (.there (.there (.there (.there (.there (.there .here))))))))) | exact .there (.there (.there (.there (.there (.there (.there (.there (.there (.there (.there .here)))))))))) | exact .there (.there (.there (.there (.there (.there (.there (.there (.there (.there (.there (.there .here))))))))))) | exact .there (.there (.there (.there (.there (.there (.there (.there (.there (.there (.there (.there (.there .here)))))))))))) | exact .there (.there (.there (.there (.there (.there (.there (.there (.there (.there (.there (.there (.there (.there .here))))))))))))) | exact .there (.there (.there (.there (.there (.there (.there (.there (.there (.there (.there (.there (.there (.there (.there .here))))))))))))))) (by repeat (first | exact Sub.nil | refine Sub.cons ?_ ?_ | exact In.here | refine In.there ?_)) Fp.el22 Fp.ni22 hBr (hd.ext hH.mod) (by simp only [List.length_append, List.length_cons, List.length_nil, beB_len]; omega) (by assumption) rfl ?_
  clear hS hH; intro a w bs cs ks hws hBs hS hH
  refine r_assign hS trivial rfl rfl ?_; clear hS; intro a hS
  refine Sq.nil ?_
  refine then_n ?_
  refine c_seq ?_
  refine reg_draw [(true, 0, [0]), (true, 1, [0]), (true, 2, [0]), (true, 3, [0]), (true, 7, [0]), (true, 8, [0]), (false, 4, []), (false, 5, []), (false, 6, [0]), (false, 9, [0]), (true, 10, [0])] Fc.mixed (by kernel_rfl) (by kernel_rfl) (by kernel_rfl) (by kernel_rfl) (by kernel_rfl) (by repeat (first | with_reducible exact steady_body | with_reducible apply steady_block | with_reducible apply steady_then | with_reducible apply steady_scope | exact steady_body)) hH ?_
  replace hH := hH.drew
  refine r_move hS trivial rfl rfl ?_; clear hS; intro a hS
  refine r_fieldAddr hS trivial rfl Fp.fo41_3 rfl ?_; clear hS; intro a hS
  refine r_load_scS hS rfl (by repeat (first | exact In.here | refine In.there ?_)) Fp.sc22 (by rfl) rfl ?_; clear hS; intro a hS
  refine r_lenSl hS trivial rfl Fp.isSlice22 rfl ?_; clear hS; intro a hS
  refine r_fieldAddr hS trivial rfl Fp.fo41_3 rfl ?_; clear hS; intro a hS
  refine r_load_scS hS rfl (by repeat (first | exact In.here | refine In.there ?_)) Fp.sc22 (by rfl) rfl ?_; clear hS; intro a hS
  refine r_toU8 (q := src.length) (UInt8.ofNat (src.length)) hS (hH.kp (by repeat (first | exact Sub.nil | refine Sub.cons ?_ ?_ | exact In.here | refine In.there ?_))) rfl Fp.ui5 Fp.us3 rfl rfl ?_; clear hS; intro a hS
  refine r_buildSlice (parts := [(0, .tmp 84)]) hS hH (by repeat (first | exact Sub.nil | refine Sub.cons ?_ ?_ | exact In.here | refine In.there ?_)) rfl Fp.bsl22_1 (by rfl) rfl ?_
  clear hS hH; intro a w b85 hb85 hwb85 hS hH
  refine r_appB (l := _) ((((UInt8.ofNat (191 + n) :: []) ++ beB 1 4) ++ [UInt8.ofNat dst.length]) ++ dst) ([UInt8.ofNat src.length]) hS hH rfl rfl (by first | exact .here | exact .there .here | exact .there (.there .here) | exact .there (.there (.there .here)) | exact .there (.there (.there (.there .here))) | exact .there (.there (.there (.there (.there .here)))) | exact .there (.there (.there (.there (.there (.there .here))))) | exact .there (.there (.there (.there (.there (.there (.there .here)))))) | exact .there (.there (.there (.there (.there (.there (.there (.there .here))))))) | exact .there (.there (.there (.there (.there (.there (.there (.there (.there .here)))))))) | exact .there (.there (.there (.there (.there (.there (.there (.there (.there (.there .here))))))))) | exact .there (.there (.there (.there (.there (.there (.there (.there (.there (.there (.there .here)))))))))) | exact .there (.there (.there (.there (.there (.there (.there (.there (.there (.there (.there (.there .here))))))))))) | exact .there (.there (.there (.there (.there (.there (.there (.there (.there (.there (.there (.there (.there .here)))))))))))) | exact .there (.there (.there (.there (.there (.there (.there (.there (.there (.there (.there (.there (.there (.there .here))))))))))))) | exact .there (.there (.there (.there (.there (.there (.there (.there (.there (.there (.there (.there (.there (.there (.there .here))))))))))))))) (by repeat (first | exact Sub.nil | refine Sub.cons ?_ ?_ | exact In.here | refine In.there ?_)) Fp.el22 Fp.ni22 hBs ((BB.lit [UInt8.ofNat src.length] rfl rfl).bs (hH.get (b := b85) (by repeat (first | exact In.here | refine In.there ?_)))) (by simp only [List.length_append, List.length_cons, List.length_nil, beB_len]; omega) (by assumption) rfl ?_
  clear hS hH; intro a w bt ct kt hwt hBt hS hH
  refine r_appB (l := _) (((((UInt8.ofNat (191 + n) :: []) ++ beB 1 4) ++ [UInt8.ofNat dst.length]) ++ dst) ++ [UInt8.ofNat src.length]) (src) hS hH rfl rfl (by first | exact .here | exact .there .here | exact .there (.there .here) | exact .there (.there (.there .here)) | exact .there (.there (.there (.there .here))) | exact .there (.there (.there (.there (.there .here)))) | exact .there (.there (.there (.there (.there (.there .here))))) | exact .there (.there (.there (.there (.there (.there (.there .here)))))) | exact .there (.there (.there (.there (.there (.there (.there (.there .here))))))) | exact .there (.there (.there (.there (.there (.there (.there (.there (.there .here)))))))) | exact .there (.there (.there (.there (.there (.there (.there (.there (.there (.there .here))))))))) | exact .there (.there (.there (.there (.there (.there (.there (.there (.there (.there (.there .here)))))))))) | exact .there (.there (.there (.there (.there (.there (.there (.there (.there (.there (.there (.there .here))))))))))) | exact .there (.there (.there (.there (.there (.there (.there (.there (.there (.there (.there (.there (.there .here)))))))))))) | exact .there (.there (.there (.there (.there (.there (.there (.there (.there (.there (.there (.there (.there (.there .here))))))))))))) | exact .there (.there (.there (.there (.there (.there (.there (.there (.there (.there (.there (.there (.there (.there (.there .here))))))))))))))) (by repeat (first | exact Sub.nil | refine Sub.cons ?_ ?_ | exact In.here | refine In.there ?_)) Fp.el22 Fp.ni22 hBt (hs.ext hH.mod) (by simp only [List.length_append, List.length_cons, List.length_nil, beB_len]; omega) (by assumption) rfl ?_
  clear hS hH; intro a w bu cu ku hwu hBu hS hH
  refine r_assign hS trivial rfl rfl ?_; clear hS; intro a hS
  refine Sq.nil ?_
  refine then_n ?_
  refine c_seq ?_
  refine c_seq ?_
  refine reg_plain w0 (Nobody) ?_
  have hBu : BB cu ku (startB (191 + n) 1 dst src) := hBu
  refine r_fieldAddr hS hH.kp0 rfl Fp.fo41_0 rfl ?_; clear hS; intro a hS
  refine r_load_sc hS hH (by repeat (first | exact Sub.nil | refine Sub.cons ?_ ?_ | exact In.here | refine In.there ?_)) rfl (by repeat (first | exact In.here | refine In.there ?_)) Fp.sc3 (by rfl) rfl ?_; clear hS; intro a hS
  refine Sq.nil ?_
  refine then_n ?_
  refine wp_block ?_
  refine c_seq ?_
  refine reg_plain w0 (Nobody) ?_
  refine r_eql hS hH.kp0 rfl rfl rfl ?_; clear hS; intro a hS
  refine r_assign hS hH.kp0 rfl rfl ?_; clear hS; intro a hS
  refine Sq.nil ?_
  refine then_n ?_
  refine c_condF hS rfl rfl ?_
  refine c_seq ?_
  refine reg_plain w0 (Nobody) ?_
  refine r_eql hS hH.kp0 rfl rfl rfl ?_; clear hS; intro a hS
  refine r_assign hS hH.kp0 rfl rfl ?_; clear hS; intro a hS
  refine Sq.nil ?_
  refine then_n ?_
  refine c_condF hS rfl rfl ?_
  refine wp_skip ?_
  refine blk_n ?_
  refine then_n ?_
  refine c_seq ?_
  refine c_seq ?_
  refine reg_plain w0 (Nobody) ?_
  refine r_fieldAddr hS hH.kp0 rfl Fp.fo41_0 rfl ?_; clear hS; intro a hS
  refine r_load_sc hS hH (by repeat (first | exact Sub.nil | refine Sub.cons ?_ ?_ | exact In.here | refine In.there ?_)) rfl (by repeat (first | exact In.here | refine In.there ?_)) Fp.sc3 (by rfl) rfl ?_; clear hS; intro a hS
  refine r_eql hS hH.kp0 rfl rfl rfl ?_; clear hS; intro a hS
  refine Sq.nil ?_
  refine then_n ?_
  refine c_condT hS rfl rfl ?_
  refine c_seq ?_
  refine reg_plain w0 (Nobody) ?_
  refine r_fieldAddr hS hH.kp0 rfl Fp.fo41_4 rfl ?_; clear hS; intro a hS
  refine r_load_sc hS hH (by repeat (first | exact Sub.nil | refine Sub.cons ?_ ?_ | exact In.here | refine In.there ?_)) rfl (by repeat (first | exact In.here | refine In.there ?_)) Fp.sc22 (by rfl) rfl ?_; clear hS; intro a hS
  refine r_lenSl hS hH.kp0 rfl Fp.isSlice22 rfl ?_; clear hS; intro a hS
  refine r_call (l := [.tmp 131]) hS rfl rfl Fp.fn33 rfl ?_
  refine Calls.mono (Var_r tok.length (by omega) _) ?_
  rintro e w1 ⟨rv, rfl, hN, hE⟩
  obtain ⟨bv, cv, kv, hvv, hrv, hrkv, hBv⟩ := hN
  subst hvv
  have hwv := Nat.le_trans hH.mod.size hrv
  replace hH := hH.knowN hE hrv hrkv
  refine ⟨_, rfl, hH.kp0, ?_⟩
  clear hS; intro a hS
  refine r_move hS hH.kp0 rfl rfl ?_; clear hS; intro a hS
  refine r_extract hS hH.kp0 rfl rfl rfl ?_; clear hS; intro a hS
  refine r_extract hS hH.kp0 rfl rfl rfl ?_; clear hS; intro a hS
  refine r_assign hS hH.kp0 rfl rfl ?_; clear hS; intro a hS
  refine r_assign hS hH.kp0 rfl rfl ?_; clear hS; intro a hS
  refine Sq.nil ?_
  refine then_n ?_
  refine reg_draw [(true, 0, [1]), (true, 1, [1]), (true, 3, [1]), (true, 4, [1]), (false, 2, [1]), (false, 5, [1]), (true, 6, [1])] Fc.mixed (by kernel_rfl) (by kernel_rfl) (by kernel_rfl) (by kernel_rfl) (by kernel_rfl) (by repeat (first | with_reducible exact steady_body | with_reducible apply steady_block | with_reducible apply steady_then | with_reducible apply steady_scope | exact steady_body)) hH ?_
  replace hH := hH.drew
  refine r_move hS trivial rfl rfl ?_; clear hS; intro a hS
  refine r_move hS trivial rfl rfl ?_; clear hS; intro a hS
  refine r_fieldAddr hS trivial rfl Fp.fo41_4 rfl ?_; clear hS; intro a hS
  refine r_load_scS hS rfl (by repeat (first | exact In.here | refine In.there ?_)) Fp.sc22 (by rfl) rfl ?_; clear hS; intro a hS
  refine r_appB (l := _) (startB (191 + n) 1 dst src) (wideB tok.length (formK tok.length)) hS hH rfl rfl (by first | exact .here | exact .there .here | exact .there (.there .here) | exact .there (.there (.there .here)) | exact .there (.there (.there (.there .here))) | exact .there (.there (.there (.there (.there .here)))) | exact .there (.there (.there (.there (.there (.there .here))))) | exact .there (.there (.there (.there (.there (.there (.there .here)))))) | exact .there (.there (.there (.there (.there (.there (.there (.there .here))))))) | exact .there (.there (.there (.there (.there (.there (.there (.there (.there .here)))))))) | exact .there (.there (.there (.there (.there (.there (.there (.there (.there (.there .here))))))))) | exact .there (.there (.there (.there (.there (.there (.there (.there (.there (.there (.there .here)))))))))) | exact .there (.there (.there (.there (.there (.there (.there (.there (.there (.there (.there (.there .here))))))))))) | exact .there (.there (.there (.there (.there (.there (.there (.there (.there (.there (.there (.there (.there .here)))))))))))) | exact .there (.there (.there (.there (.there (.there (.there (.there (.there (.there (.there (.there (.there (.there .here))))))))))))) | exact .there (.there (.there (.there (.there (.there (.there (.there (.there (.there (.there (.there (.there (.there (.there .here))))))))))))))) (by repeat (first | exact Sub.nil | refine Sub.cons ?_ ?_ | exact In.here | refine In.there ?_)) Fp.el22 Fp.ni22 hBu (hBv.bs (hH.get (b := bv) (by repeat (first | exact In.here | refine In.there ?_)))) (by simp only [startB_len]; omega) (by assumption) rfl ?_
  clear hS hH; intro a w bl cl kl hwl hBl hS hH
  refine r_appB (l := _) (startB (191 + n) 1 dst src ++ wideB tok.length (formK tok.length)) (tok) hS hH rfl rfl (by first | exact .here | exact .there .here | exact .there (.there .here) | exact .there (.there (.there .here)) | exact .there (.there (.there (.there .here))) | exact .there (.there (.there (.there (.there .here)))) | exact .there (.there (.there (.there (.there (.there .here))))) | exact .there (.there (.there (.there (.there (.there (.there .here)))))) | exact .there (.there (.there (.there (.there (.there (.there (.there .here))))))) | exact .there (.there (.there (.there (.there (.there (.there (.there (.there .here)))))))) | exact .there (.there (.there (.there (.there (.there (.there (.there (.there (.there .here))))))))) | exact .there (.there (.there (.there (.there (.there (.there (.there (.there (.there (.there .here)))))))))) | exact .there (.there (.there (.there (.there (.there (.there (.there (.there (.there (.there (.there .here))))))))))) | exact .there (.there (.there (.there (.there (.there (.there (.there (.there (.there (.there (.there (.there .here)))))))))))) | exact .there (.there (.there (.there (.there (.there (.there (.there (.there (.there (.there (.there (.there (.there .here))))))))))))) | exact .there (.there (.there (.there (.there (.there (.there (.there (.there (.there (.there (.there (.there (.there (.there .here))))))))))))))) (by repeat (first | exact Sub.nil | refine Sub.cons ?_ ?_ | exact In.here | refine In.there ?_)) Fp.el22 Fp.ni22 hBl (ht.ext hH.mod) (by simp only [List.length_append, startB_len]; omega) (by assumption) rfl ?_
  clear hS hH; intro a w bx cx kx hwx hBx hS hH
  refine r_assign hS trivial rfl rfl ?_; clear hS; intro a hS
  refine Sq.nil ?_
  refine then_n ?_
  refine c_seq ?_
  refine reg_plain w0 (Nobody) ?_
  refine r_fieldAddr hS hH.kp0 rfl Fp.fo41_5 rfl ?_; clear hS; intro a hS
  refine r_load_sc hS hH (by repeat (first | exact Sub.nil | refine Sub.cons ?_ ?_ | exact In.here | refine In.there ?_)) rfl (by repeat (first | exact In.here | refine In.there ?_)) Fp.sc3 (by rfl) rfl ?_; clear hS; intro a hS
  refine r_call (l := [.tmp 143, .const (.int .i64 2)]) hS rfl rfl Fp.fn34 rfl ?_
  refine Calls.mono (Wide_1 ln (by omega) _) ?_
  rintro e w1 ⟨rm, rfl, hN, hE⟩
  obtain ⟨bm, cm, km, hvm, hrm, hrkm, hBm⟩ := hN
  subst hvm
  have hwm := Nat.le_trans hH.mod.size hrm
  replace hH := hH.knowN hE hrm hrkm
  refine ⟨_, rfl, hH.kp0, ?_⟩
  clear hS; intro a hS
  refine r_move hS hH.kp0 rfl rfl ?_; clear hS; intro a hS
  refine r_extract hS hH.kp0 rfl rfl rfl ?_; clear hS; intro a hS
  refine r_extract hS hH.kp0 rfl rfl rfl ?_; clear hS; intro a hS
  refine r_assign hS hH.kp0 rfl rfl ?_; clear hS; intro a hS
  refine r_assign hS hH.kp0 rfl rfl ?_; clear hS; intro a hS
  refine Sq.nil ?_
  refine then_n ?_
  refine c_seq ?_
  refine reg_plain w0 (Nobody) ?_
  refine r_move hS hH.kp0 rfl rfl ?_; clear hS; intro a hS
  refine r_move hS hH.kp0 rfl rfl ?_; clear hS; intro a hS
  refine r_appB (l := _) (startB (191 + n) 1 dst src ++ wideB tok.length (formK tok.length) ++ tok) (wideB ln 1) hS hH rfl rfl (by first | exact .here | exact .there .here | exact .there (.there .here) | exact .there (.there (.there .here)) | exact .there (.there (.there (.there .here))) | exact .there (.there (.there (.there (.there .here)))) | exact .there (.there (.there (.there (.there (.there .here))))) | exact .there (.there (.there (.there (.there (.there (.there .here)))))) | exact .there (.there (.there (.there (.there (.there (.there (.there .here))))))) | exact .there (.there (.there (.there (.there (.there (.there (.there (.there .here)))))))) | exact .there (.there (.there (.there (.there (.there (.there (.there (.there (.there .here))))))))) | exact .there (.there (.there (.there (.there (.there (.there (.there (.there (.there (.there .here)))))))))) | exact .there (.there (.there (.there (.there (.there (.there (.there (.there (.there (.there (.there .here))))))))))) | exact .there (.there (.there (.there (.there (.there (.there (.there (.there (.there (.there (.there (.there .here)))))))))))) | exact .there (.there (.there (.there (.there (.there (.there (.there (.there (.there (.there (.there (.there (.there .here))))))))))))) | exact .there (.there (.there (.there (.there (.there (.there (.there (.there (.there (.there (.there (.there (.there (.there .here))))))))))))))) (by repeat (first | exact Sub.nil | refine Sub.cons ?_ ?_ | exact In.here | refine In.there ?_)) Fp.el22 Fp.ni22 hBx (hBm.bs (hH.get (b := bm) (by repeat (first | exact In.here | refine In.there ?_)))) (by simp only [List.length_append, startB_len]; omega) (by assumption) rfl ?_
  clear hS hH; intro a w bo co ko hwo hBo hS hH
  refine r_assign hS hH.kp0 rfl rfl ?_; clear hS; intro a hS
  refine Sq.nil ?_
  refine then_n ?_
  refine c_seq ?_
  refine reg_plain w0 (Nobody) ?_
  refine r_move hS hH.kp0 rfl rfl ?_; clear hS; intro a hS
  refine r_move hS hH.kp0 rfl rfl ?_; clear hS; intro a hS
  refine r_move hS hH.kp0 rfl rfl ?_; clear hS; intro a hS
  refine r_call (l := [.tmp 151, .tmp 152]) hS rfl rfl Fp.fn32 rfl ?_
  refine Calls.mono (Bytes_c low n hlow (by omega) (by omega) _) ?_
  rintro e w1 ⟨ry_, rfl, hN, hE⟩
  obtain ⟨by_, cy_, ky_, hvy_, hry_, hrky_, hBy_⟩ := hN
  subst hvy_
  have hwy_ := Nat.le_trans hH.mod.size hry_
  replace hH := hH.knowN hE hry_ hrky_
  refine ⟨_, rfl, hH.kp0, ?_⟩
  clear hS; intro a hS
  refine r_appB (l := _) (startB (191 + n) 1 dst src ++ wideB tok.length (formK tok.length) ++ tok ++ wideB ln 1) (beB low n) hS hH rfl rfl (by first | exact .here | exact .there .here | exact .there (.there .here) | exact .there (.there (.there .here)) | exact .there (.there (.there (.there .here))) | exact .there (.there (.there (.there (.there .here)))) | exact .there (.there (.there (.there (.there (.there .here))))) | exact .there (.there (.there (.there (.there (.there (.there .here)))))) | exact .there (.there (.there (.there (.there (.there (.there (.there .here))))))) | exact .there (.there (.there (.there (.there (.there (.there (.there (.there .here)))))))) | exact .there (.there (.there (.there (.there (.there (.there (.there (.there (.there .here))))))))) | exact .there (.there (.there (.there (.there (.there (.there (.there (.there (.there (.there .here)))))))))) | exact .there (.there (.there (.there (.there (.there (.there (.there (.there (.there (.there (.there .here))))))))))) | exact .there (.there (.there (.there (.there (.there (.there (.there (.there (.there (.there (.there (.there .here)))))))))))) | exact .there (.there (.there (.there (.there (.there (.there (.there (.there (.there (.there (.there (.there (.there .here))))))))))))) | exact .there (.there (.there (.there (.there (.there (.there (.there (.there (.there (.there (.there (.there (.there (.there .here))))))))))))))) (by repeat (first | exact Sub.nil | refine Sub.cons ?_ ?_ | exact In.here | refine In.there ?_)) Fp.el22 Fp.ni22 hBo (hBy_.bs (hH.get (b := by_) (by repeat (first | exact In.here | refine In.there ?_)))) (by simp only [List.length_append, beB_len, startB_len]; omega) (by assumption) rfl ?_
  clear hS hH; intro a w bz cz kz hwz hBz hS hH
  refine r_move hS hH.kp0 rfl rfl ?_; clear hS; intro a hS
  refine r_lenSl hS hH.kp0 rfl Fp.isSlice22 rfl ?_; clear hS; intro a hS
  refine r_assign hS hH.kp0 rfl rfl ?_; clear hS; intro a hS
  refine r_assign hS hH.kp0 rfl rfl ?_; clear hS; intro a hS
  refine r_assign hS hH.kp0 rfl rfl ?_; clear hS; intro a hS
  refine Sq.nil ?_
  refine then_n ?_
  refine wp_ret ?_
  exact leave (.inl rfl) hS rfl (Res.tmp rfl (Res.tmp rfl (Res.tmp rfl Res.nil))) ⟨_, rfl, ⟨bz, cz, kz, rfl, hwz, hH.get (b := bz) (by repeat (first | exact In.here | refine In.there ?_)), hBz⟩, hH.mod⟩

set_option maxRecDepth 100000 in
set_option maxHeartbeats 2000000 in
theorem RPut_1 (ve : Int) (q1 q2 q3 q4 : Option Addr) (c1 c2 c3 c4 : Nat) (dst src tok tag : List UInt8) (lst : List Int) (ln : Nat) (ph : Bool) (htag : tag.length = 16) (n : Nat) (low : Nat) (hlow : low < 18446744073709551616) (w0 : World) (hll : lst.length ≤ 1048576) (hlst : IsA w0 q4 c4 lst) (hd : Bs w0 (.slice q1 dst.length c1) dst) (hs : Bs w0 (.slice q2 src.length c2) src) (ht : Bs w0 (.slice q3 tok.length c3) tok) (hm : mayP 1 dst.length src.length tok.length (ln : Int) (n : Int) lst.length (badN lst)) : Calls Tryd.prog 13 #[.agg ([.int .i64 1, .int .i64 ve, .slice q1 dst.length c1, .slice q2 src.length c2, .slice q3 tok.length c3, .int .i64 (ln : Int), .bool ph, .slice q4 lst.length c4] ++ hcells tag : List Value).toArray, .int .u64 (low : Int), .int .i64 (n : Int)] w0 fun e w' => ∃ r, e = .returned (.tuple #[r, .int .i64 ((headB 1 n dst src tok ln ph lst tag).length : Int), .int .i64 0]) ∧ NB w0.heap.size 5 w' r (headB 1 n dst src tok ln ph lst tag ++ beB low n) ∧ Ext w0 w' := by
  refine enter Tryd.func13 rfl rfl rfl ?_
  intro a hS
  have hH := Hp.start w0 (Nobody)
  have hm2 := hm
  unfold mayP at hm2
  obtain ⟨t0, t1, t2, t3, t4, t5, t6, t7, t8, t9, ta, tb, tc, td, te, tf, rfl⟩ := len16 htag
  have hwl := wideB_le tok.length
  have hw2 : (wideB ln 1).length = 2 := wideB_len _ _
  refine c_seq ?_
  refine reg_plain w0 (Nobody) ?_
  refine r_box hS hH (by repeat (first | exact Sub.nil | refine Sub.cons ?_ ?_ | exact In.here | refine In.there ?_)) rfl rfl rfl ?_
  clear hS hH; intro a w b3 hb3 hwb3 hS hH
  refine r_assign hS hH.kp0 rfl rfl ?_; clear hS; intro a hS
  refine r_assign hS hH.kp0 rfl rfl ?_; clear hS; intro a hS
  refine r_assign hS hH.kp0 rfl rfl ?_; clear hS; intro a hS
  refine Sq.nil ?_
  refine then_n ?_
  refine c_seq ?_
  refine c_seq ?_
  refine reg_plain w0 (Nobody) ?_
  refine r_load_row hS hH (by repeat (first | exact Sub.nil | refine Sub.cons ?_ ?_ | exact In.here | refine In.there ?_)) rfl (by repeat (first | exact In.here | refine In.there ?_)) Fp.ag41 (by rfl) rfl ?_; clear hS; intro a hS
  refine r_move hS hH.kp0 rfl rfl ?_; clear hS; intro a hS
  refine r_call (l := [.tmp 19, .tmp 20]) hS rfl rfl Fp.fn31 rfl ?_
  refine Calls.mono (may_c 1 ve q1 q2 q3 q4 c1 c2 c3 c4 dst src tok _ lst (ln : Int) ph htag (n : Int) _ (by omega) (hlst.ext hH.mod)) ?_
  rintro e w1 ⟨rfl, hE⟩
  replace hH := hH.ext hE
  refine ⟨_, rfl, hH.kp0, ?_⟩
  clear hS; intro a hS
  refine r_not hS hH.kp0 rfl rfl ?_; clear hS; intro a hS
  refine Sq.nil ?_
  refine then_n ?_
  refine c_condF hS rfl (by rw [DT hm]; rfl) ?_
  refine wp_skip ?_
  refine then_n ?_
  refine c_seq ?_
  refine c_seq ?_
  refine reg_plain w0 (Nobody) ?_
  refine r_fieldAddr hS hH.kp0 rfl Fp.fo41_0 rfl ?_; clear hS; intro a hS
  refine r_load_sc hS hH (by repeat (first | exact Sub.nil | refine Sub.cons ?_ ?_ | exact In.here | refine In.there ?_)) rfl (by repeat (first | exact In.here | refine In.there ?_)) Fp.sc3 (by rfl) rfl ?_; clear hS; intro a hS
  refine r_eql hS hH.kp0 rfl rfl rfl ?_; clear hS; intro a hS
  refine Sq.nil ?_
  refine then_n ?_
  refine c_condF hS rfl rfl ?_
  refine wp_skip ?_
  refine then_n ?_
  refine c_seq ?_
  refine reg_plain w0 (Nobody) ?_
  refine r_assign hS hH.kp0 rfl rfl ?_; clear hS; intro a hS
  refine Sq.nil ?_
  refine then_n ?_
  refine c_seq ?_
  refine reg_plain w0 (Nobody) ?_
  refine r_assign hS hH.kp0 rfl rfl ?_; clear hS; intro a hS
  refine Sq.nil ?_
  refine then_n ?_
  refine c_seq ?_
  refine c_seq ?_
  refine reg_plain w0 (Nobody) ?_
  refine r_fieldAddr hS hH.kp0 rfl Fp.fo41_0 rfl ?_; clear hS; intro a hS
  refine r_load_sc hS hH (by repeat (first | exact Sub.nil | refine Sub.cons ?_ ?_ | exact In.here | refine In.there ?_)) rfl (by repeat (first | exact In.here | refine In.there ?_)) Fp.sc3 (by rfl) rfl ?_; clear hS; intro a hS
  refine Sq.nil ?_
  refine then_n ?_
  refine wp_block ?_
  refine c_seq ?_
  refine c_seq ?_
  refine reg_plain w0 (Nobody) ?_
  refine r_eql hS hH.kp0 rfl rfl rfl ?_; clear hS; intro a hS
  refine r_assign hS hH.kp0 rfl rfl ?_; clear hS; intro a hS
  refine Sq.nil ?_
  refine then_n ?_
  refine c_condF hS rfl rfl ?_
  refine c_seq ?_
  refine reg_plain w0 (Nobody) ?_
  refine r_eql hS hH.kp0 rfl rfl rfl ?_; clear hS; intro a hS
  refine r_assign hS hH.kp0 rfl rfl ?_; clear hS; intro a hS
  refine Sq.nil ?_
  refine then_n ?_
  refine c_condT hS rfl rfl ?_
  refine wp_skip ?_
  refine then_n ?_
  refine c_condT hS rfl rfl ?_
  refine reg_plain w0 (Nobody) ?_
  refine r_fieldAddr hS hH.kp0 rfl Fp.fo41_0 rfl ?_; clear hS; intro a hS
  refine r_load_sc hS hH (by repeat (first | exact Sub.nil | refine Sub.cons ?_ ?_ | exact In.here | refine In.there ?_)) rfl (by repeat (first | exact In.here | refine In.there ?_)) Fp.sc3 (by rfl) rfl ?_; clear hS; intro a hS
  first | refine r_mul hS hH.kp0 rfl rfl rfl (by omega) ?_ | refine r_mulw hS hH.kp0 rfl rfl rfl ?_
  clear hS; intro a hS
  first | refine r_add hS hH.kp0 rfl rfl rfl (by omega) ?_ | refine r_addw hS hH.kp0 rfl rfl rfl ?_
  clear hS; intro a hS
  refine r_move hS hH.kp0 rfl rfl ?_; clear hS; intro a hS
  first | refine r_add hS hH.kp0 rfl rfl rfl (by omega) ?_ | refine r_addw hS hH.kp0 rfl rfl rfl ?_
  clear hS; intro a hS
  first | refine r_sub hS hH.kp0 rfl rfl rfl (by omega) ?_ | refine r_subw hS hH.kp0 rfl rfl rfl ?_
  clear hS; intro a hS
  refine r_assign hS hH.kp0 rfl rfl ?_; clear hS; intro a hS
  refine Sq.nil ?_
  refine blk_n ?_
  refine then_n ?_
  refine c_seq ?_
  refine reg_plain w0 (Nobody) ?_
  refine r_move hS hH.kp0 rfl rfl ?_; clear hS; intro a hS
  refine r_toU8' (191 + 16 * 1 + n) (UInt8.ofNat (191 + 16 * 1 + n)) hS hH.kp0 rfl Fp.ui5 Fp.us3 rfl (by omega) rfl ?_; clear hS; intro a hS
  refine r_buildSlice (parts := [(0, .tmp 64)]) hS hH (by repeat (first | exact Sub.nil | refine Sub.cons ?_ ?_ | exact In.here | refine In.there ?_)) rfl Fp.bsl22_1 (by rfl) rfl ?_
  clear hS hH; intro a w b65 hb65 hwb65 hS hH
  refine r_move hS hH.kp0 rfl rfl ?_; clear hS; intro a hS
  refine r_toU64 (1) hS hH.kp0 rfl Fp.ui36 Fp.us3 rfl rfl (by omega) ?_; clear hS; intro a hS
  refine r_call (l := [.tmp 67, .const (.int .i64 4)]) hS rfl rfl Fp.fn32 rfl ?_
  refine Calls.mono (Bytes_c 1 4 (by decide) (by decide) (by decide) _) ?_
  rintro e w1 ⟨rp, rfl, hN, hE⟩
  obtain ⟨bp, cp, kp, hvp, hrp, hrkp, hBp⟩ := hN
  subst hvp
  have hwp := Nat.le_trans hH.mod.size hrp
  replace hH := hH.knowN hE hrp hrkp
  refine ⟨_, rfl, hH.kp0, ?_⟩
  clear hS; intro a hS
  refine r_appB (l := _) ((UInt8.ofNat (191 + 16 * 1 + n) :: [])) (beB 1 4) hS hH rfl rfl (by first | exact .here | exact .there .here | exact .there (.there .here) | exact .there (.there (.there .here)) | exact .there (.there (.there (.there .here))) | exact .there (.there (.there (.there (.there .here)))) | exact .there (.there (.there (.there (.there (.there .here))))) | exact .there (.there (.there (.there (.there (.there (.there .here)))))) | exact .there (.there (.there (.there (.there (.there (.there (.there .here))))))) | exact .there (.there (.there (.there (.there (.there (.there (.there (.there .here)))))))) | exact .there (.there (.there (.there (.there (.there (.there (.there (.there (.there .here))))))))) | exact .there (.there (.there (.there (.there (.there (.there (.there (.there (.there (.there .here)))))))))) | exact .there (.there (.there (.there (.there (.there (.there (.there (.there (.there (.there (.there .here))))))))))) | exact .there (.there (.there (.there (.there (.there (.there (.there (.there (.there (.there (.there (.there .here)))))))))))) | exact .there (.there (.there (.there (.there (.there (.there (.there (.there (.there (.there (.there (.there (.there .here))))))))))))) | exact .there (.there (.there (.there (.there (.there (.there (.there (.there (.there (.there (.there (.there (.there (.there .here))))))))))))))) (by repeat (first | exact Sub.nil | refine Sub.cons ?_ ?_ | exact In.here | refine In.there ?_)) Fp.el22 Fp.ni22 (BB.lit [UInt8.ofNat (191 + 16 * 1 + n)] rfl rfl) (hBp.bs (hH.get (b := bp) (by repeat (first | exact In.here | refine In.there ?_)))) (by simp only [List.length_cons, List.length_nil, beB_len]; omega) (by assumption) rfl ?_
  clear hS hH; intro a w bq cq kq hwq hBq hS hH
  refine r_assign hS hH.kp0 rfl rfl ?_; clear hS; intro a hS
  refine Sq.nil ?_
  refine then_n ?_
  refine c_seq ?_
  refine reg_draw [(true, 0, [0]), (true, 1, [0]), (true, 2, [0]), (true, 3, [0]), (true, 7, [0]), (true, 8, [0]), (false, 4, []), (false, 5, []), (false, 6, [0]), (false, 9, [0]), (true, 10, [0])] Fc.mixed (by kernel_rfl) (by kernel_rfl) (by kernel_rfl) (by kernel_rfl) (by kernel_rfl) (by repeat (first | with_reducible exact steady_body | with_reducible apply steady_block | with_reducible apply steady_then | with_reducible apply steady_scope | exact steady_body)) hH ?_
  replace hH := hH.drew
  refine r_move hS trivial rfl rfl ?_; clear hS; intro a hS
  refine r_fieldAddr hS trivial rfl Fp.fo41_2 rfl ?_; clear hS; intro a hS
  refine r_load_scS hS rfl (by repeat (first | exact In.here | refine In.there ?_)) Fp.sc22 (by rfl) rfl ?_; clear hS; intro a hS
  refine r_lenSl hS trivial rfl Fp.isSlice22 rfl ?_; clear hS; intro a hS
  refine r_fieldAddr hS trivial rfl Fp.fo41_2 rfl ?_; clear hS; intro a hS
  refine r_load_scS hS rfl (by repeat (first | exact In.here | refine In.there ?_)) Fp.sc22 (by rfl) rfl ?_; clear hS; intro a hS
  refine r_toU8 (q := dst.length) (UInt8.ofNat (dst.length)) hS (hH.kp (by repeat (first | exact Sub.nil | refine Sub.cons ?_ ?_ | exact In.here | refine In.there ?_))) rfl Fp.ui5 Fp.us3 rfl rfl ?_; clear hS; intro a hS
  refine r_buildSlice (parts := [(0, .tmp 74)]) hS hH (by repeat (first | exact Sub.nil | refine Sub.cons ?_ ?_ | exact In.here | refine In.there ?_)) rfl Fp.bsl22_1 (by rfl) rfl ?_
  clear hS hH; intro a w b75 hb75 hwb75 hS hH
  refine r_appB (l := _) ((UInt8.ofNat (191 + 16 * 1 + n) :: []) ++ beB 1 4) ([UInt8.ofNat dst.length]) hS hH rfl rfl (by first | exact .here | exact .there .here | exact .there (.there .here) | exact .there (.there (.there .here)) | exact .there (.there (.there (.there .here))) | exact .there (.there (.there (.there (.there .here)))) | exact .there (.there (.there (.there (.there (.there .here))))) | exact .there (.there (.there (.there (.there (.there (.there .here)))))) | exact .there (.there (.there (.there (.there (.there (.there (.there .here))))))) | exact .there (.there (.there (.there (.there (.there (.there (.there (.there .here)))))))) | exact .there (.there (.there (.there (.there (.there (.there (.there (.there (.there .here))))))))) | exact .there (.there (.there (.there (.there (.there (.there (.there (.there (.there (.there .here)))))))))) | exact .there (.there (.there (.there (.there (.there (.there (.there (.there (.there (.there (.there .here))))))))))) | exact .there (.there (.there (.there (.there (.there (.there (.there (.there (.there (.there (.there (.there .here)))))))))))) | exact .there (.there (.there (.there (.there (.there (.there (.there (.there (.there (.there (.there (.there (.there .here))))))))))))) | exact .there (.there (.there (.there (.there (.there (.there (.there (.there (.there (.there (.there (.there (.there (.there .here))))))))))))))) (by repeat (first | exact Sub.nil | refine Sub.cons ?_ ?_ | exact In.here | refine In.there ?_)) Fp.el22 Fp.ni22 hBq ((BB.lit [UInt8.ofNat dst.length] rfl rfl).bs (hH.get (b := b75) (by repeat (first | exact In.here | refine In.there ?_)))) (by simp only [List.length_append, List.length_cons, List.length_nil, beB_len]; omega) (by assumption) rfl ?_
  clear hS hH; intro a w br cr kr hwr hBr hS hH
  refine r_appB (l := _) (((UInt8.ofNat (191 + 16 * 1 + n) :: []) ++ beB 1 4) ++ [UInt8.ofNat dst.length]) (dst) hS hH rfl rfl (by first | exact .here | exact .there .here | exact .there (.there .here) | exact .there (.there (.there .here)) | exact .there (.there (.there (.there .here))) | exact .there (.there (.there (.there (.there .here)))) | exact .there (.there (.there (.there (.there (.there .here))))) | exact .there (.there (.there (.there (.there (.there (.there .here)))))) | exact .there (.there (.there (.there (.there (.there (.there (.there .here))))))) | exact .there (.there (.there (.there (.there (.there (.there (.there (.there .here)))))))) | exact .there (.there (.there (.there (.there (.there (.there (.there (.there (.there .here))))))))) | exact .there (.there (.there (.there (.there (.there (.there (.there (.there (.there (.there .here)))))))))) | exact .there (.there (.there (.there (.there (.there (.there (.there (.there (.there (.there (.there .here))))))))))) | exact .there (.there (.there (.there (.there (.there (.there (.there (.there (.there (.there (.there (.there .here)))))))))))) | exact .there (.there (.there (.there (.there (.there (.there (.there (.there (.there (.there (.there (.there (.there .here))))))))))))) | exact .there (.there (.there (.there (.there (.there (.there (.there (.there (.there (.there (.there (.there (.there (.there .here))))))))))))))) (by repeat (first | exact Sub.nil | refine Sub.cons ?_ ?_ | exact In.here | refine In.there ?_)) Fp.el22 Fp.ni22 hBr (hd.ext hH.mod) (by simp only [List.length_append, List.length_cons, List.length_nil, beB_len]; omega) (by assumption) rfl ?_
  clear hS hH; intro a w bs cs ks hws hBs hS hH
  refine r_assign hS trivial rfl rfl ?_; clear hS; intro a hS
  refine Sq.nil ?_
  refine then_n ?_
  refine c_seq ?_
  refine reg_draw [(true, 0, [0]), (true, 1, [0]), (true, 2, [0]), (true, 3, [0]), (true, 7, [0]), (true, 8, [0]), (false, 4, []), (false, 5, []), (false, 6, [0]), (false, 9, [0]), (true, 10, [0])] Fc.mixed (by kernel_rfl) (by kernel_rfl) (by kernel_rfl) (by kernel_rfl) (by kernel_rfl) (by repeat (first | with_reducible exact steady_body | with_reducible apply steady_block | with_reducible apply steady_then | with_reducible apply steady_scope | exact steady_body)) hH ?_
  replace hH := hH.drew
  refine r_move hS trivial rfl rfl ?_; clear hS; intro a hS
  refine r_fieldAddr hS trivial rfl Fp.fo41_3 rfl ?_; clear hS; intro a hS
  refine r_load_scS hS rfl (by repeat (first | exact In.here | refine In.there ?_)) Fp.sc22 (by rfl) rfl ?_; clear hS; intro a hS
  refine r_lenSl hS trivial rfl Fp.isSlice22 rfl ?_; clear hS; intro a hS
  refine r_fieldAddr hS trivial rfl Fp.fo41_3 rfl ?_; clear hS; intro a hS
  refine r_load_scS hS rfl (by repeat (first | exact In.here | refine In.there ?_)) Fp.sc22 (by rfl) rfl ?_; clear hS; intro a hS
  refine r_toU8 (q := src.length) (UInt8.ofNat (src.length)) hS (hH.kp (by repeat (first | exact Sub.nil | refine Sub.cons ?_ ?_ | exact In.here | refine In.there ?_))) rfl Fp.ui5 Fp.us3 rfl rfl ?_; clear hS; intro a hS
  refine r_buildSlice (parts := [(0, .tmp 84)]) hS hH (by repeat (first | exact Sub.nil | refine Sub.cons ?_ ?_ | exact In.here | refine In.there ?_)) rfl Fp.bsl22_1 (by rfl) rfl ?_
  clear hS hH; intro a w b85 hb85 hwb85 hS hH
  refine r_appB (l := _) ((((UInt8.ofNat (191 + 16 * 1 + n) :: []) ++ beB 1 4) ++ [UInt8.ofNat dst.length]) ++ dst) ([UInt8.ofNat src.length]) hS hH rfl rfl (by first | exact .here | exact .there .here | exact .there (.there .here) | exact .there (.there (.there .here)) | exact .there (.there (.there (.there .here))) | exact .there (.there (.there (.there (.there .here)))) | exact .there (.there (.there (.there (.there (.there .here))))) | exact .there (.there (.there (.there (.there (.there (.there .here)))))) | exact .there (.there (.there (.there (.there (.there (.there (.there .here))))))) | exact .there (.there (.there (.there (.there (.there (.there (.there (.there .here)))))))) | exact .there (.there (.there (.there (.there (.there (.there (.there (.there (.there .here))))))))) | exact .there (.there (.there (.there (.there (.there (.there (.there (.there (.there (.there .here)))))))))) | exact .there (.there (.there (.there (.there (.there (.there (.there (.there (.there (.there (.there .here))))))))))) | exact .there (.there (.there (.there (.there (.there (.there (.there (.there (.there (.there (.there (.there .here)))))))))))) | exact .there (.there (.there (.there (.there (.there (.there (.there (.there (.there (.there (.there (.there (.there .here))))))))))))) | exact .there (.there (.there (.there (.there (.there (.there (.there (.there (.there (.there (.there (.there (.there (.there .here))))))))))))))) (by repeat (first | exact Sub.nil | refine Sub.cons ?_ ?_ | exact In.here | refine In.there ?_)) Fp.el22 Fp.ni22 hBs ((BB.lit [UInt8.ofNat src.length] rfl rfl).bs (hH.get (b := b85) (by repeat (first | exact In.here | refine In.there ?_)))) (by simp only [List.length_append, List.length_cons, List.length_nil, beB_len]; omega) (by assumption) rfl ?_
  clear hS hH; intro a w bt ct kt hwt hBt hS hH
  refine r_appB (l := _) (((((UInt8.ofNat (191 + 16 * 1 + n) :: []) ++ beB 1 4) ++ [UInt8.ofNat dst.length]) ++ dst) ++ [UInt8.ofNat src.length]) (src) hS hH rfl rfl (by first | exact .here | exact .there .here | exact .there (.there .here) | exact .there (.there (.there .here)) | exact .there (.there (.there (.there .here))) | exact .there (.there (.there (.there (.there .here)))) | exact .there (.there (.there (.there (.there (.there .here))))) | exact .there (.there (.there (.there (.there (.there (.there .here)))))) | exact .there (.there (.there (.there (.there (.there (.there (.there .here))))))) | exact .there (.there (.there (.there (.there (.there (.there (.there (.there .here)))))))) | exact .there (.there (.there (.there (.there (.there (.there (.there (.there (.there .here))))))))) | exact .there (.there (.there (.there (.there (.there (.there (.there (.there (.there (.there .here)))))))))) | exact .there (.there (.there (.there (.there (.there (.there (.there (.there (.there (.there (.there .here))))))))))) | exact .there (.there (.there (.there (.there (.there (.there (.there (.there (.there (.there (.there (.there .here)))))))))))) | exact .there (.there (.there (.there (.there (.there (.there (.there (.there (.there (.there (.there (.there (.there .here))))))))))))) | exact .there (.there (.there (.there (.there (.there (.there (.there (.there (.there (.there (.there (.there (.there (.there .here))))))))))))))) (by repeat (first | exact Sub.nil | refine Sub.cons ?_ ?_ | exact In.here | refine In.there ?_)) Fp.el22 Fp.ni22 hBt (hs.ext hH.mod) (by simp only [List.length_append, List.length_cons, List.length_nil, beB_len]; omega) (by assumption) rfl ?_
  clear hS hH; intro a w bu cu ku hwu hBu hS hH
  refine r_assign hS trivial rfl rfl ?_; clear hS; intro a hS
  refine Sq.nil ?_
  refine then_n ?_
  refine c_seq ?_
  refine c_seq ?_
  refine reg_plain w0 (Nobody) ?_
  have hBu : BB cu ku (startB (191 + 16 * 1 + n) 1 dst src) := hBu
  refine r_fieldAddr hS hH.kp0 rfl Fp.fo41_0 rfl ?_; clear hS; intro a hS
  refine r_load_sc hS hH (by repeat (first | exact Sub.nil | refine Sub.cons ?_ ?_ | exact In.here | refine In.there ?_)) rfl (by repeat (first | exact In.here | refine In.there ?_)) Fp.sc3 (by rfl) rfl ?_; clear hS; intro a hS
  refine Sq.nil ?_
  refine then_n ?_
  refine wp_block ?_
  refine c_seq ?_
  refine reg_plain w0 (Nobody) ?_
  refine r_eql hS hH.kp0 rfl rfl rfl ?_; clear hS; intro a hS
  refine r_assign hS hH.kp0 rfl rfl ?_; clear hS; intro a hS
  refine Sq.nil ?_
  refine then_n ?_
  refine c_condF hS rfl rfl ?_
  refine c_seq ?_
  refine reg_plain w0 (Nobody) ?_
  refine r_eql hS hH.kp0 rfl rfl rfl ?_; clear hS; intro a hS
  refine r_assign hS hH.kp0 rfl rfl ?_; clear hS; intro a hS
  refine Sq.nil ?_
  refine then_n ?_
  refine c_condF hS rfl rfl ?_
  refine wp_skip ?_
  refine blk_n ?_
  refine then_n ?_
  refine c_seq ?_
  refine c_seq ?_
  refine reg_plain w0 (Nobody) ?_
  refine r_fieldAddr hS hH.kp0 rfl Fp.fo41_0 rfl ?_; clear hS; intro a hS
  refine r_load_sc hS hH (by repeat (first | exact Sub.nil | refine Sub.cons ?_ ?_ | exact In.here | refine In.there ?_)) rfl (by repeat (first | exact In.here | refine In.there ?_)) Fp.sc3 (by rfl) rfl ?_; clear hS; intro a hS
  refine r_eql hS hH.kp0 rfl rfl rfl ?_; clear hS; intro a hS
  refine Sq.nil ?_
  refine then_n ?_
  refine c_condF hS rfl rfl ?_
  refine wp_skip ?_
  refine then_n ?_
  refine c_seq ?_
  refine reg_plain w0 (Nobody) ?_
  refine r_fieldAddr hS hH.kp0 rfl Fp.fo41_5 rfl ?_; clear hS; intro a hS
  refine r_load_sc hS hH (by repeat (first | exact Sub.nil | refine Sub.cons ?_ ?_ | exact In.here | refine In.there ?_)) rfl (by repeat (first | exact In.here | refine In.there ?_)) Fp.sc3 (by rfl) rfl ?_; clear hS; intro a hS
  refine r_call (l := [.tmp 143, .const (.int .i64 2)]) hS rfl rfl Fp.fn34 rfl ?_
  refine Calls.mono (Wide_1 ln (by omega) _) ?_
  rintro e w1 ⟨rm, rfl, hN, hE⟩
  obtain ⟨bm, cm, km, hvm, hrm, hrkm, hBm⟩ := hN
  subst hvm
  have hwm := Nat.le_trans hH.mod.size hrm
  replace hH := hH.knowN hE hrm hrkm
  refine ⟨_, rfl, hH.kp0, ?_⟩
  clear hS; intro a hS
  refine r_move hS hH.kp0 rfl rfl ?_; clear hS; intro a hS
  refine r_extract hS hH.kp0 rfl rfl rfl ?_; clear hS; intro a hS
  refine r_extract hS hH.kp0 rfl rfl rfl ?_; clear hS; intro a hS
  refine r_assign hS hH.kp0 rfl rfl ?_; clear hS; intro a hS
  refine r_assign hS hH.kp0 rfl rfl ?_; clear hS; intro a hS
  refine Sq.nil ?_
  refine then_n ?_
  refine c_seq ?_
  refine reg_plain w0 (Nobody) ?_
  refine r_move hS hH.kp0 rfl rfl ?_; clear hS; intro a hS
  refine r_move hS hH.kp0 rfl rfl ?_; clear hS; intro a hS
  refine r_appB (l := _) (startB (191 + 16 * 1 + n) 1 dst src) (wideB ln 1) hS hH rfl rfl (by first | exact .here | exact .there .here | exact .there (.there .here) | exact .there (.there (.there .here)) | exact .there (.there (.there (.there .here))) | exact .there (.there (.there (.there (.there .here)))) | exact .there (.there (.there (.there (.there (.there .here))))) | exact .there (.there (.there (.there (.there (.there (.there .here)))))) | exact .there (.there (.there (.there (.there (.there (.there (.there .here))))))) | exact .there (.there (.there (.there (.there (.there (.there (.there (.there .here)))))))) | exact .there (.there (.there (.there (.there (.there (.there (.there (.there (.there .here))))))))) | exact .there (.there (.there (.there (.there (.there (.there (.there (.there (.there (.there .here)))))))))) | exact .there (.there (.there (.there (.there (.there (.there (.there (.there (.there (.there (.there .here))))))))))) | exact .there (.there (.there (.there (.there (.there (.there (.there (.there (.there (.there (.there (.there .here)))))))))))) | exact .there (.there (.there (.there (.there (.there (.there (.there (.there (.there (.there (.there (.there (.there .here))))))))))))) | exact .there (.there (.there (.there (.there (.there (.there (.there (.there (.there (.there (.there (.there (.there (.there .here))))))))))))))) (by repeat (first | exact Sub.nil | refine Sub.cons ?_ ?_ | exact In.here | refine In.there ?_)) Fp.el22 Fp.ni22 hBu (hBm.bs (hH.get (b := bm) (by repeat (first | exact In.here | refine In.there ?_)))) (by simp only [startB_len]; omega) (by assumption) rfl ?_
  clear hS hH; intro a w bo co ko hwo hBo hS hH
  refine r_assign hS hH.kp0 rfl rfl ?_; clear hS; intro a hS
  refine Sq.nil ?_
  refine then_n ?_
  refine c_seq ?_
  refine reg_plain w0 (Nobody) ?_
  refine r_move hS hH.kp0 rfl rfl ?_; clear hS; intro a hS
  refine r_move hS hH.kp0 rfl rfl ?_; clear hS; intro a hS
  refine r_move hS hH.kp0 rfl rfl ?_; clear hS; intro a hS
  refine r_call (l := [.tmp 151, .tmp 152]) hS rfl rfl Fp.fn32 rfl ?_
  refine Calls.mono (Bytes_c low n hlow (by omega) (by omega) _) ?_
  rintro e w1 ⟨ry_, rfl, hN, hE⟩
  obtain ⟨by_, cy_, ky_, hvy_, hry_, hrky_, hBy_⟩ := hN
  subst hvy_
  have hwy_ := Nat.le_trans hH.mod.size hry_
  replace hH := hH.knowN hE hry_ hrky_
  refine ⟨_, rfl, hH.kp0, ?_⟩
  clear hS; intro a hS
  refine r_appB (l := _) (startB (191 + 16 * 1 + n) 1 dst src ++ wideB ln 1) (beB low n) hS hH rfl rfl (by first | exact .here | exact .there .here | exact .there (.there .here) | exact .there (.there (.there .here)) | exact .there (.there (.there (.there .here))) | exact .there (.there (.there (.there (.there .here)))) | exact .there (.there (.there (.there (.there (.there .here))))) | exact .there (.there (.there (.there (.there (.there (.there .here)))))) | exact .there (.there (.there (.there (.there (.there (.there (.there .here))))))) | exact .there (.there (.there (.there (.there (.there (.there (.there (.there .here)))))))) | exact .there (.there (.there (.there (.there (.there (.there (.there (.there (.there .here))))))))) | exact .there (.there (.there (.there (.there (.there (.there (.there (.there (.there (.there .here)))))))))) | exact .there (.there (.there (.there (.there (.there (.there (.there (.there (.there (.there (.there .here))))))))))) | exact .there (.there (.there (.there (.there (.there (.there (.there (.there (.there (.there (.there (.there .here)))))))))))) | exact .there (.there (.there (.there (.there (.there (.there (.there (.there (.there (.there (.there (.there (.there .here))))))))))))) | exact .there (.there (.there (.there (.there (.there (.there (.there (.there (.there (.there (.there (.there (.there (.there .here))))))))))))))) (by repeat (first | exact Sub.nil | refine Sub.cons ?_ ?_ | exact In.here | refine In.there ?_)) Fp.el22 Fp.ni22 hBo (hBy_.bs (hH.get (b := by_) (by repeat (first | exact In.here | refine In.there ?_)))) (by simp only [List.length_append, beB_len, startB_len]; omega) (by assumption) rfl ?_
  clear hS hH; intro a w bz cz kz hwz hBz hS hH
  refine r_move hS hH.kp0 rfl rfl ?_; clear hS; intro a hS
  refine r_lenSl hS hH.kp0 rfl Fp.isSlice22 rfl ?_; clear hS; intro a hS
  refine r_assign hS hH.kp0 rfl rfl ?_; clear hS; intro a hS
  refine r_assign hS hH.kp0 rfl rfl ?_; clear hS; intro a hS
  refine r_assign hS hH.kp0 rfl rfl ?_; clear hS; intro a hS
  refine Sq.nil ?_
  refine then_n ?_
  refine wp_ret ?_
  exact leave (.inl rfl) hS rfl (Res.tmp rfl (Res.tmp rfl (Res.tmp rfl Res.nil))) ⟨_, rfl, ⟨bz, cz, kz, rfl, hwz, hH.get (b := bz) (by repeat (first | exact In.here | refine In.there ?_)), hBz⟩, hH.mod⟩

set_option maxRecDepth 100000 in
set_option maxHeartbeats 2000000 in
theorem RPut_2 (ve : Int) (q1 q2 q3 q4 : Option Addr) (c1 c2 c3 c4 : Nat) (dst src tok tag : List UInt8) (lst : List Int) (ln : Nat) (ph : Bool) (htag : tag.length = 16) (n : Nat) (low : Nat) (hlow : low < 18446744073709551616) (w0 : World) (hll : lst.length ≤ 1048576) (hlst : IsA w0 q4 c4 lst) (hd : Bs w0 (.slice q1 dst.length c1) dst) (hs : Bs w0 (.slice q2 src.length c2) src) (ht : Bs w0 (.slice q3 tok.length c3) tok) (hm : mayP 2 dst.length src.length tok.length (ln : Int) (n : Int) lst.length (badN lst)) : Calls Tryd.prog 13 #[.agg ([.int .i64 2, .int .i64 ve, .slice q1 dst.length c1, .slice q2 src.length c2, .slice q3 tok.length c3, .int .i64 (ln : Int), .bool ph, .slice q4 lst.length c4] ++ hcells tag : List Value).toArray, .int .u64 (low : Int), .int .i64 (n : Int)] w0 fun e w' => ∃ r, e = .returned (.tuple #[r, .int .i64 ((headB 2 n dst src tok ln ph lst tag).length : Int), .int .i64 0]) ∧ NB w0.heap.size 5 w' r (headB 2 n dst src tok ln ph lst tag ++ beB low n) ∧ Ext w0 w' := by
  refine enter Tryd.func13 rfl rfl rfl ?_
  intro a hS
  have hH := Hp.start w0 (Nobody)
  have hm2 := hm
  unfold mayP at hm2
  obtain ⟨t0, t1, t2, t3, t4, t5, t6, t7, t8, t9, ta, tb, tc, td, te, tf, rfl⟩ := len16 htag
  have hwl := wideB_le tok.length
  have hw2 : (wideB ln 1).length = 2 := wideB_len _ _
  refine c_seq ?_
  refine reg_plain w0 (Nobody) ?_
  refine r_box hS hH (by repeat (first | exact Sub.nil | refine Sub.cons ?_ ?_ | exact In.here | refine In.there ?_)) rfl rfl rfl ?_
  clear hS hH; intro a w b3 hb3 hwb3 hS hH
  refine r_assign hS hH.kp0 rfl rfl ?_; clear hS; intro a hS
  refine r_assign hS hH.kp0 rfl rfl ?_; clear hS; intro a hS
  refine r_assign hS hH.kp0 rfl rfl ?_; clear hS; intro a hS
  refine Sq.nil ?_
  refine then_n ?_
  refine c_seq ?_
  refine c_seq ?_
  refine reg_plain w0 (Nobody) ?_
  refine r_load_row hS hH (by repeat (first | exact Sub.nil | refine Sub.cons ?_ ?_ | exact In.here | refine In.there ?_)) rfl (by repeat (first | exact In.here | refine In.there ?_)) Fp.ag41 (by rfl) rfl ?_; clear hS; intro a hS
  refine r_move hS hH.kp0 rfl rfl ?_; clear hS; intro a hS
  refine r_call (l := [.tmp 19, .tmp 20]) hS rfl rfl Fp.fn31 rfl ?_
  refine Calls.mono (may_c 2 ve q1 q2 q3 q4 c1 c2 c3 c4 dst src tok _ lst (ln : Int) ph htag (n : Int) _ (by omega) (hlst.ext hH.mod)) ?_
  rintro e w1 ⟨rfl, hE⟩
  replace hH := hH.ext hE
  refine ⟨_, rfl, hH.kp0, ?_⟩
  clear hS; intro a hS
  refine r_not hS hH.kp0 rfl rfl ?_; clear hS; intro a hS
  refine Sq.nil ?_
  refine then_n ?_
  refine c_condF hS rfl (by rw [DT hm]; rfl) ?_
  refine wp_skip ?_
  refine then_n ?_
  refine c_seq ?_
  refine c_seq ?_
  refine reg_plain w0 (Nobody) ?_
  refine r_fieldAddr hS hH.kp0 rfl Fp.fo41_0 rfl ?_; clear hS; intro a hS
  refine r_load_sc hS hH (by repeat (first | exact Sub.nil | refine Sub.cons ?_ ?_ | exact In.here | refine In.there ?_)) rfl (by repeat (first | exact In.here | refine In.there ?_)) Fp.sc3 (by rfl) rfl ?_; clear hS; intro a hS
  refine r_eql hS hH.kp0 rfl rfl rfl ?_; clear hS; intro a hS
  refine Sq.nil ?_
  refine then_n ?_
  refine c_condF hS rfl rfl ?_
  refine wp_skip ?_
  refine then_n ?_
  refine c_seq ?_
  refine reg_plain w0 (Nobody) ?_
  refine r_assign hS hH.kp0 rfl rfl ?_; clear hS; intro a hS
  refine Sq.nil ?_
  refine then_n ?_
  refine c_seq ?_
  refine reg_plain w0 (Nobody) ?_
  refine r_assign hS hH.kp0 rfl rfl ?_; clear hS; intro a hS
  refine Sq.nil ?_
  refine then_n ?_
  refine c_seq ?_
  refine c_seq ?_
  refine reg_plain w0 (Nobody) ?_
  refine r_fieldAddr hS hH.kp0 rfl Fp.fo41_0 rfl ?_; clear hS; intro a hS
  refine r_load_sc hS hH (by repeat (first | exact Sub.nil | refine Sub.cons ?_ ?_ | exact In.here | refine In.there ?_)) rfl (by repeat (first | exact In.here | refine In.there ?_)) Fp.sc3 (by rfl) rfl ?_; clear hS; intro a hS
  refine Sq.nil ?_
  refine then_n ?_
  refine wp_block ?_
  refine c_seq ?_
  refine c_seq ?_
  refine reg_plain w0 (Nobody) ?_
  refine r_eql hS hH.kp0 rfl rfl rfl ?_; clear hS; intro a hS
  refine r_assign hS hH.kp0 rfl rfl ?_; clear hS; intro a hS
  refine Sq.nil ?_
  refine then_n ?_
  refine c_condF hS rfl rfl ?_
  refine c_seq ?_
  refine reg_plain w0 (Nobody) ?_
  refine r_eql hS hH.kp0 rfl rfl rfl ?_; clear hS; intro a hS
  refine r_assign hS hH.kp0 rfl rfl ?_; clear hS; intro a hS
  refine Sq.nil ?_
  refine then_n ?_
  refine c_condF hS rfl rfl ?_
  refine reg_plain w0 (Nobody) ?_
  refine r_eql hS hH.kp0 rfl rfl rfl ?_; clear hS; intro a hS
  refine r_assign hS hH.kp0 rfl rfl ?_; clear hS; intro a hS
  refine Sq.nil ?_
  refine then_n ?_
  refine c_condT hS rfl rfl ?_
  refine reg_plain w0 (Nobody) ?_
  refine r_fieldAddr hS hH.kp0 rfl Fp.fo41_0 rfl ?_; clear hS; intro a hS
  refine r_load_sc hS hH (by repeat (first | exact Sub.nil | refine Sub.cons ?_ ?_ | exact In.here | refine In.there ?_)) rfl (by repeat (first | exact In.here | refine In.there ?_)) Fp.sc3 (by rfl) rfl ?_; clear hS; intro a hS
  first | refine r_mul hS hH.kp0 rfl rfl rfl (by omega) ?_ | refine r_mulw hS hH.kp0 rfl rfl rfl ?_
  clear hS; intro a hS
  first | refine r_add hS hH.kp0 rfl rfl rfl (by omega) ?_ | refine r_addw hS hH.kp0 rfl rfl rfl ?_
  clear hS; intro a hS
  refine r_move hS hH.kp0 rfl rfl ?_; clear hS; intro a hS
  first | refine r_add hS hH.kp0 rfl rfl rfl (by omega) ?_ | refine r_addw hS hH.kp0 rfl rfl rfl ?_
  clear hS; intro a hS
  first | refine r_sub hS hH.kp0 rfl rfl rfl (by omega) ?_ | refine r_subw hS hH.kp0 rfl rfl rfl ?_
  clear hS; intro a hS
  refine r_assign hS hH.kp0 rfl rfl ?_; clear hS; intro a hS
  refine Sq.nil ?_
  refine blk_n ?_
  refine then_n ?_
  refine c_seq ?_
  refine reg_plain w0 (Nobody) ?_
  refine r_move hS hH.kp0 rfl rfl ?_; clear hS; intro a hS
  refine r_toU8' (191 + 16 * 2 + n) (UInt8.ofNat (191 + 16 * 2 + n)) hS hH.kp0 rfl Fp.ui5 Fp.us3 rfl (by omega) rfl ?_; clear hS; intro a hS
  refine r_buildSlice (parts := [(0, .tmp 64)]) hS hH (by repeat (first | exact Sub.nil | refine Sub.cons ?_ ?_ | exact In.here | refine In.there ?_)) rfl Fp.bsl22_1 (by rfl) rfl ?_
  clear hS hH; intro a w b65 hb65 hwb65 hS hH
  refine r_move hS hH.kp0 rfl rfl ?_; clear hS; intro a hS
  refine r_toU64 (1) hS hH.kp0 rfl Fp.ui36 Fp.us3 rfl rfl (by omega) ?_; clear hS; intro a hS
  refine r_call (l := [.tmp 67, .const (.int .i64 4)]) hS rfl rfl Fp.fn32 rfl ?_
  refine Calls.mono (Bytes_c 1 4 (by decide) (by decide) (by decide) _) ?_
  rintro e w1 ⟨rp, rfl, hN, hE⟩
  obtain ⟨bp, cp, kp, hvp, hrp, hrkp, hBp⟩ := hN
  subst hvp
  have hwp := Nat.le_trans hH.mod.size hrp
  replace hH := hH.knowN hE hrp hrkp
  refine ⟨_, rfl, hH.kp0, ?_⟩
  clear hS; intro a hS
  refine r_appB (l := _) ((UInt8.ofNat (191 + 16 * 2 + n) :: [])) (beB 1 4) hS hH rfl rfl (by first | exact .here | exact .there .here | exact .there (.there .here) | exact .there (.there (.there .here)) | exact .there (.there (.there (.there .here))) | exact .there (.there (.there (.there (.there .here)))) | exact .there (.there (.there (.there (.there (.there .here))))) | exact .there (.there (.there (.there (.there (.there (.there .here)))))) | exact .there (.there (.there (.there (.there (.there (.there (.there .here))))))) | exact .there (.there (.there (.there (.there (.there (.there (.there (.there .here)))))))) | exact .there (.there (.there (.there (.there (.there (.there (.there (.there (.there .here))))))))) | exact .there (.there (.there (.there (.there (.there (.there (.there (.there (.there (.there .here)))))))))) | exact .there (.there (.there (.there (.there (.there (.there (.there (.there (.there (.there (.there .here))))))))))) | exact .there (.there (.there (.there (.there (.there (.there (.there (.there (.there (.there (.there (.there .here)))))))))))) | exact .there (.there (.there (.there (.there (.there (.there (.there (.there (.there (.there (.there (.there (.there .here))))))))))))) | exact .there (.there (.there (.there (.there (.there (.there (.there (.there (.there (.there (.there (.there (.there (.there .here))))))))))))))) (by repeat (first | exact Sub.nil | refine Sub.cons ?_ ?_ | exact In.here | refine In.there ?_)) Fp.el22 Fp.ni22 (BB.lit [UInt8.ofNat (191 + 16 * 2 + n)] rfl rfl) (hBp.bs (hH.get (b := bp) (by repeat (first | exact In.here | refine In.there ?_)))) (by simp only [List.length_cons, List.length_nil, beB_len]; omega) (by assumption) rfl ?_
  clear hS hH; intro a w bq cq kq hwq hBq hS hH
  refine r_assign hS hH.kp0 rfl rfl ?_; clear hS; intro a hS
  refine Sq.nil ?_
  refine then_n ?_
  refine c_seq ?_
  refine reg_draw [(true, 0, [0]), (true, 1, [0]), (true, 2, [0]), (true, 3, [0]), (true, 7, [0]), (true, 8, [0]), (false, 4, []), (false, 5, []), (false, 6, [0]), (false, 9, [0]), (true, 10, [0])] Fc.mixed (by kernel_rfl) (by kernel_rfl) (by kernel_rfl) (by kernel_rfl) (by kernel_rfl) (by repeat (first | with_reducible exact steady_body | with_reducible apply steady_block | with_reducible apply steady_then | with_reducible apply steady_scope | exact steady_body)) hH ?_
  replace hH := hH.drew
  refine r_move hS trivial rfl rfl ?_; clear hS; intro a hS
  refine r_fieldAddr hS trivial rfl Fp.fo41_2 rfl ?_; clear hS; intro a hS
  refine r_load_scS hS rfl (by repeat (first | exact In.here | refine In.there ?_)) Fp.sc22 (by rfl) rfl ?_; clear hS; intro a hS
  refine r_lenSl hS trivial rfl Fp.isSlice22 rfl ?_; clear hS; intro a hS
  refine r_fieldAddr hS trivial rfl Fp.fo41_2 rfl ?_; clear hS; intro a hS
  refine r_load_scS hS rfl (by repeat (first | exact In.here | refine In.there ?_)) Fp.sc22 (by rfl) rfl ?_; clear hS; intro a hS
  refine r_toU8 (q := dst.length) (UInt8.ofNat (dst.length)) hS (hH.kp (by repeat (first | exact Sub.nil | refine Sub.cons ?_ ?_ | exact In.here | refine In.there ?_))) rfl Fp.ui5 Fp.us3 rfl rfl ?_; clear hS; intro a hS
  refine r_buildSlice (parts := [(0, .tmp 74)]) hS hH (by repeat (first | exact Sub.nil | refine Sub.cons ?_ ?_ | exact In.here | refine In.there ?_)) rfl Fp.bsl22_1 (by rfl) rfl ?_
  clear hS hH; intro a w b75 hb75 hwb75 hS hH
  refine r_appB (l := _) ((UInt8.ofNat (191 + 16 * 2 + n) :: []) ++ beB 1 4) ([UInt8.ofNat dst.length]) hS hH rfl rfl (by first | exact .here | exact .there .here | exact .there (.there .here) | exact .there (.there (.there .here)) | exact .there (.there (.there (.there .here))) | exact .there (.there (.there (.there (.there .here)))) | exact .there (.there (.there (.there (.there (.there .here))))) | exact .there (.there (.there (.there (.there (.there (.there .here)))))) | exact .there (.there (.there (.there (.there (.there (.there (.there .here))))))) | exact .there (.there (.there (.there (.there (.there (.there (.there (.there .here)))))))) | exact .there (.there (.there (.there (.there (.there (.there (.there (.there (.there .here))))))))) | exact .there (.there (.there (.there (.there (.there (.there (.there (.there (.there (.there .here)))))))))) | exact .there (.there (.there (.there (.there (.there (.there (.there (.there (.there (.there (.there .here))))))))))) | exact .there (.there (.there (.there (.there (.there (.there (.there (.there (.there (.there (.there (.there .here)))))))))))) | exact .there (.there (.there (.there (.there (.there (.there (.there (.there (.there (.there (.there (.there (.there .here))))))))))))) | exact .there (.there (.there (.there (.there (.there (.there (.there (.there (.there (.there (.there (.there (.there (.there .here))))))))))))))) (by repeat (first | exact Sub.nil | refine Sub.cons ?_ ?_ | exact In.here | refine In.there ?_)) Fp.el22 Fp.ni22 hBq ((BB.lit [UInt8.ofNat dst.length] rfl rfl).bs (hH.get (b := b75) (by repeat (first | exact In.here | refine In.there ?_)))) (by simp only [List.length_append, List.length_cons, List.length_nil, beB_len]; omega) (by assumption) rfl ?_
  clear hS hH; intro a w br cr kr hwr hBr hS hH
  refine r_appB (l := _) (((UInt8.ofNat (191 + 16 * 2 + n) :: []) ++ beB 1 4) ++ [UInt8.ofNat dst.length]) (dst) hS hH rfl rfl (by first | exact .here | exact .there .here | exact .there (.there .here) | exact .there (.there (.there .here)) | exact .there (.there (.there (.there .here))) | exact .there (.there (.there (.there (.there .here)))) | exact .there (.there (.there (.there (.there (.there .here))))) | exact .there (.there (.there (.there (.there (.there (.there .here)))))) | exact .there (.there (.there (.there (.there (.there (.there (.there .here))))))) | exact .there (.there (.there (.there (.there (.there (.there (.there (.there .here)))))))) | exact .there (.there (.there (.there (.there (.there (.there (.there (.there (.there .here))))))))) | exact .there (.there (.there (.there (.there (.there (.there (.there (.there (.there (.there .here)))))))))) | exact .there (.there (.there (.there (.there (.there (.there (.there (.there (.there (.there (.there .here))))))))))) | exact .there (.there (.there (.there (.there (.there (.there (.there (.there (.there (.there (.there (.there .here)))))))))))) | exact .there (.there (.there (.there (.there (.there (.there (.there (.there (.there (.there (.there (.there (.there .here))))))))))))) | exact .there (.there (.there (.there (.there (.there (.there (.there (.there (.there (.there (.there (.there (.there (.there .here))))))))))))))) (by repeat (first | exact Sub.nil | refine Sub.cons ?_ ?_ | exact In.here | refine In.there ?_)) Fp.el22 Fp.ni22 hBr (hd.ext hH.mod) (by simp only [List.length_append, List.length_cons, List.length_nil, beB_len]; omega) (by assumption) rfl ?_
  clear hS hH; intro a w bs cs ks hws hBs hS hH
  refine r_assign hS trivial rfl rfl ?_; clear hS; intro a hS
  refine Sq.nil ?_
  refine then_n ?_
  refine c_seq ?_
  refine reg_draw [(true, 0, [0]), (true, 1, [0]), (true, 2, [0]), (true, 3, [0]), (true, 7, [0]), (true, 8, [0]), (false, 4, []), (false, 5, []), (false, 6, [0]), (false, 9, [0]), (true, 10, [0])] Fc.mixed (by kernel_rfl) (by kernel_rfl) (by kernel_rfl) (by kernel_rfl) (by kernel_rfl) (by repeat (first | with_reducible exact steady_body | with_reducible apply steady_block | with_reducible apply steady_then | with_reducible apply steady_scope | exact steady_body)) hH ?_
  replace hH := hH.drew
  refine r_move hS trivial rfl rfl ?_; clear hS; intro a hS
  refine r_fieldAddr hS trivial rfl Fp.fo41_3 rfl ?_; clear hS; intro a hS
  refine r_load_scS hS rfl (by repeat (first | exact In.here | refine In.there ?_)) Fp.sc22 (by rfl) rfl ?_; clear hS; intro a hS
  refine r_lenSl hS trivial rfl Fp.isSlice22 rfl ?_; clear hS; intro a hS
  refine r_fieldAddr hS trivial rfl Fp.fo41_3 rfl ?_; clear hS; intro a hS
  refine r_load_scS hS rfl (by repeat (first | exact In.here | refine In.there ?_)) Fp.sc22 (by rfl) rfl ?_; clear hS; intro a hS
  refine r_toU8 (q := src.length) (UInt8.ofNat (src.length)) hS (hH.kp (by repeat (first | exact Sub.nil | refine Sub.cons ?_ ?_ | exact In.here | refine In.there ?_))) rfl Fp.ui5 Fp.us3 rfl rfl ?_; clear hS; intro a hS
  refine r_buildSlice (parts := [(0, .tmp 84)]) hS hH (by repeat (first | exact Sub.nil | refine Sub.cons ?_ ?_ | exact In.here | refine In.there ?_)) rfl Fp.bsl22_1 (by rfl) rfl ?_
  clear hS hH; intro a w b85 hb85 hwb85 hS hH
  refine r_appB (l := _) ((((UInt8.ofNat (191 + 16 * 2 + n) :: []) ++ beB 1 4) ++ [UInt8.ofNat dst.length]) ++ dst) ([UInt8.ofNat src.length]) hS hH rfl rfl (by first | exact .here | exact .there .here | exact .there (.there .here) | exact .there (.there (.there .here)) | exact .there (.there (.there (.there .here))) | exact .there (.there (.there (.there (.there .here)))) | exact .there (.there (.there (.there (.there (.there .here))))) | exact .there (.there (.there (.there (.there (.there (.there .here)))))) | exact .there (.there (.there (.there (.there (.there (.there (.there .here))))))) | exact .there (.there (.there (.there (.there (.there (.there (.there (.there .here)))))))) | exact .there (.there (.there (.there (.there (.there (.there (.there (.there (.there .here))))))))) | exact .there (.there (.there (.there (.there (.there (.there (.there (.there (.there (.there .here)))))))))) | exact .there (.there (.there (.there (.there (.there (.there (.there (.there (.there (.there (.there .here))))))))))) | exact .there (.there (.there (.there (.there (.there (.there (.there (.there (.there (.there (.there (.there .here)))))))))))) | exact .there (.there (.there (.there (.there (.there (.there (.there (.there (.there (.there (.there (.there (.there .here))))))))))))) | exact .there (.there (.there (.there (.there (.there (.there (.there (.there (.there (.there (.there (.there (.there (.there .here))))))))))))))) (by repeat (first | exact Sub.nil | refine Sub.cons ?_ ?_ | exact In.here | refine In.there ?_)) Fp.el22 Fp.ni22 hBs ((BB.lit [UInt8.ofNat src.length] rfl rfl).bs (hH.get (b := b85) (by repeat (first | exact In.here | refine In.there ?_)))) (by simp only [List.length_append, List.length_cons, List.length_nil, beB_len]; omega) (by assumption) rfl ?_
  clear hS hH; intro a w bt ct kt hwt hBt hS hH
  refine r_appB (l := _) (((((UInt8.ofNat (191 + 16 * 2 + n) :: []) ++ beB 1 4) ++ [UInt8.ofNat dst.length]) ++ dst) ++ [UInt8.ofNat src.length]) (src) hS hH rfl rfl (by first | exact .here | exact .there .here | exact .there (.there .here) | exact .there (.there (.there .here)) | exact .there (.there (.there (.there .here))) | exact .there (.there (.there (.there (.there .here)))) | exact .there (.there (.there (.there (.there (.there .here))))) | exact .there (.there (.there (.there (.there (.there (.there .here)))))) | exact .there (.there (.there (.there (.there (.there (.there (.there .here))))))) | exact .there (.there (.there (.there (.there (.there (.there (.there (.there .here)))))))) | exact .there (.there (.there (.there (.there (.there (.there (.there (.there (.there .here))))))))) | exact .there (.there (.there (.there (.there (.there (.there (.there (.there (.there (.there .here)))))))))) | exact .there (.there (.there (.there (.there (.there (.there (.there (.there (.there (.there (.there .here))))))))))) | exact .there (.there (.there (.there (.there (.there (.there (.there (.there (.there (.there (.there (.there .here)))))))))))) | exact .there (.there (.there (.there (.there (.there (.there (.there (.there (.there (.there (.there (.there (.there .here))))))))))))) | exact .there (.there (.there (.there (.there (.there (.there (.there (.there (.there (.there (.there (.there (.there (.there .here))))))))))))))) (by repeat (first | exact Sub.nil | refine Sub.cons ?_ ?_ | exact In.here | refine In.there ?_)) Fp.el22 Fp.ni22 hBt (hs.ext hH.mod) (by simp only [List.length_append, List.length_cons, List.length_nil, beB_len]; omega) (by assumption) rfl ?_
  clear hS hH; intro a w bu cu ku hwu hBu hS hH
  refine r_assign hS trivial rfl rfl ?_; clear hS; intro a hS
  refine Sq.nil ?_
  refine then_n ?_
  refine c_seq ?_
  refine c_seq ?_
  refine reg_plain w0 (Nobody) ?_
  have hBu : BB cu ku (startB (191 + 16 * 2 + n) 1 dst src) := hBu
  refine r_fieldAddr hS hH.kp0 rfl Fp.fo41_0 rfl ?_; clear hS; intro a hS
  refine r_load_sc hS hH (by repeat (first | exact Sub.nil | refine Sub.cons ?_ ?_ | exact In.here | refine In.there ?_)) rfl (by repeat (first | exact In.here | refine In.there ?_)) Fp.sc3 (by rfl) rfl ?_; clear hS; intro a hS
  refine Sq.nil ?_
  refine then_n ?_
  refine wp_block ?_
  refine c_seq ?_
  refine reg_plain w0 (Nobody) ?_
  refine r_eql hS hH.kp0 rfl rfl rfl ?_; clear hS; intro a hS
  refine r_assign hS hH.kp0 rfl rfl ?_; clear hS; intro a hS
  refine Sq.nil ?_
  refine then_n ?_
  refine c_condF hS rfl rfl ?_
  refine c_seq ?_
  refine reg_plain w0 (Nobody) ?_
  refine r_eql hS hH.kp0 rfl rfl rfl ?_; clear hS; intro a hS
  refine r_assign hS hH.kp0 rfl rfl ?_; clear hS; intro a hS
  refine Sq.nil ?_
  refine then_n ?_
  refine c_condF hS rfl rfl ?_
  refine wp_skip ?_
  refine blk_n ?_
  refine then_n ?_
  refine c_seq ?_
  refine c_seq ?_
  refine reg_plain w0 (Nobody) ?_
  refine r_fieldAddr hS hH.kp0 rfl Fp.fo41_0 rfl ?_; clear hS; intro a hS
  refine r_load_sc hS hH (by repeat (first | exact Sub.nil | refine Sub.cons ?_ ?_ | exact In.here | refine In.there ?_)) rfl (by repeat (first | exact In.here | refine In.there ?_)) Fp.sc3 (by rfl) rfl ?_; clear hS; intro a hS
  refine r_eql hS hH.kp0 rfl rfl rfl ?_; clear hS; intro a hS
  refine Sq.nil ?_
  refine then_n ?_
  refine c_condF hS rfl rfl ?_
  refine wp_skip ?_
  refine then_n ?_
  refine c_seq ?_
  refine reg_plain w0 (Nobody) ?_
  refine r_fieldAddr hS hH.kp0 rfl Fp.fo41_5 rfl ?_; clear hS; intro a hS
  refine r_load_sc hS hH (by repeat (first | exact Sub.nil | refine Sub.cons ?_ ?_ | exact In.here | refine In.there ?_)) rfl (by repeat (first | exact In.here | refine In.there ?_)) Fp.sc3 (by rfl) rfl ?_; clear hS; intro a hS
  refine r_call (l := [.tmp 143, .const (.int .i64 2)]) hS rfl rfl Fp.fn34 rfl ?_
  refine Calls.mono (Wide_1 ln (by omega) _) ?_
  rintro e w1 ⟨rm, rfl, hN, hE⟩
  obtain ⟨bm, cm, km, hvm, hrm, hrkm, hBm⟩ := hN
  subst hvm
  have hwm := Nat.le_trans hH.mod.size hrm
  replace hH := hH.knowN hE hrm hrkm
  refine ⟨_, rfl, hH.kp0, ?_⟩
  clear hS; intro a hS
  refine r_move hS hH.kp0 rfl rfl ?_; clear hS; intro a hS
  refine r_extract hS hH.kp0 rfl rfl rfl ?_; clear hS; intro a hS
  refine r_extract hS hH.kp0 rfl rfl rfl ?_; clear hS; intro a hS
  refine r_assign hS hH.kp0 rfl rfl ?_; clear hS; intro a hS
  refine r_assign hS hH.kp0 rfl rfl ?_; clear hS; intro a hS
  refine Sq.nil ?_
  refine then_n ?_
  refine c_seq ?_
  refine reg_plain w0 (Nobody) ?_
  refine r_move hS hH.kp0 rfl rfl ?_; clear hS; intro a hS
  refine r_move hS hH.kp0 rfl rfl ?_; clear hS; intro a hS
  refine r_appB (l := _) (startB (191 + 16 * 2 + n) 1 dst src) (wideB ln 1) hS hH rfl rfl (by first | exact .here | exact .there .here | exact .there (.there .here) | exact .there (.there (.there .here)) | exact .there (.there (.there (.there .here))) | exact .there (.there (.there (.there (.there .here)))) | exact .there (.there (.there (.there (.there (.there .here))))) | exact .there (.there (.there (.there (.there (.there (.there .here)))))) | exact .there (.there (.there (.there (.there (.there (.there (.there .here))))))) | exact .there (.there (.there (.there (.there (.there (.there (.there (.there .here)))))))) | exact .there (.there (.there (.there (.there (.there (.there (.there (.there (.there .here))))))))) | exact .there (.there (.there (.there (.there (.there (.there (.there (.there (.there (.there .here)))))))))) | exact .there (.there (.there (.there (.there (.there (.there (.there (.there (.there (.there (.there .here))))))))))) | exact .there (.there (.there (.there (.there (.there (.there (.there (.there (.there (.there (.there (.there .here)))))))))))) | exact .there (.there (.there (.there (.there (.there (.there (.there (.there (.there (.there (.there (.there (.there .here))))))))))))) | exact .there (.there (.there (.there (.there (.there (.there (.there (.there (.there (.there (.there (.there (.there (.there .here))))))))))))))) (by repeat (first | exact Sub.nil | refine Sub.cons ?_ ?_ | exact In.here | refine In.there ?_)) Fp.el22 Fp.ni22 hBu (hBm.bs (hH.get (b := bm) (by repeat (first | exact In.here | refine In.there ?_)))) (by simp only [startB_len]; omega) (by assumption) rfl ?_
  clear hS hH; intro a w bo co ko hwo hBo hS hH
  refine r_assign hS hH.kp0 rfl rfl ?_; clear hS; intro a hS
  refine Sq.nil ?_
  refine then_n ?_
  refine c_seq ?_
  refine reg_plain w0 (Nobody) ?_
  refine r_move hS hH.kp0 rfl rfl ?_; clear hS; intro a hS
  refine r_move hS hH.kp0 rfl rfl ?_; clear hS; intro a hS
  refine r_move hS hH.kp0 rfl rfl ?_; clear hS; intro a hS
  refine r_call (l := [.tmp 151, .tmp 152]) hS rfl rfl Fp.fn32 rfl ?_
  refine Calls.mono (Bytes_c low n hlow (by omega) (by omega) _) ?_
  rintro e w1 ⟨ry_, rfl, hN, hE⟩
  obtain ⟨by_, cy_, ky_, hvy_, hry_, hrky_, hBy_⟩ := hN
  subst hvy_
  have hwy_ := Nat.le_trans hH.mod.size hry_
  replace hH := hH.knowN hE hry_ hrky_
  refine ⟨_, rfl, hH.kp0, ?_⟩
  clear hS; intro a hS
  refine r_appB (l := _) (startB (191 + 16 * 2 + n) 1 dst src ++ wideB ln 1) (beB low n) hS hH rfl rfl (by first | exact .here | exact .there .here | exact .there (.there .here) | exact .there (.there (.there .here)) | exact .there (.there (.there (.there .here))) | exact .there (.there (.there (.there (.there .here)))) | exact .there (.there (.there (.there (.there (.there .here))))) | exact .there (.there (.there (.there (.there (.there (.there .here)))))) | exact .there (.there (.there (.there (.there (.there (.there (.there .here))))))) | exact .there (.there (.there (.there (.there (.there (.there (.there (.there .here)))))))) | exact .there (.there (.there (.there (.there (.there (.there (.there (.there (.there .here))))))))) | exact .there (.there (.there (.there (.there (.there (.there (.there (.there (.there (.there .here)))))))))) | exact .there (.there (.there (.there (.there (.there (.there (.there (.there (.there (.there (.there .here))))))))))) | exact .there (.there (.there (.there (.there (.there (.there (.there (.there (.there (.there (.there (.there .here)))))))))))) | exact .there (.there (.there (.there (.there (.there (.there (.there (.there (.there (.there (.there (.there (.there .here))))))))))))) | exact .there (.there (.there (.there (.there (.there (.there (.there (.there (.there (.there (.there (.there (.there (.there .here))))))))))))))) (by repeat (first | exact Sub.nil | refine Sub.cons ?_ ?_ | exact In.here | refine In.there ?_)) Fp.el22 Fp.ni22 hBo (hBy_.bs (hH.get (b := by_) (by repeat (first | exact In.here | refine In.there ?_)))) (by simp only [List.length_append, beB_len, startB_len]; omega) (by assumption) rfl ?_
  clear hS hH; intro a w bz cz kz hwz hBz hS hH
  refine r_move hS hH.kp0 rfl rfl ?_; clear hS; intro a hS
  refine r_lenSl hS hH.kp0 rfl Fp.isSlice22 rfl ?_; clear hS; intro a hS
  refine r_assign hS hH.kp0 rfl rfl ?_; clear hS; intro a hS
  refine r_assign hS hH.kp0 rfl rfl ?_; clear hS; intro a hS
  refine r_assign hS hH.kp0 rfl rfl ?_; clear hS; intro a hS
  refine Sq.nil ?_
  refine then_n ?_
  refine wp_ret ?_
  exact leave (.inl rfl) hS rfl (Res.tmp rfl (Res.tmp rfl (Res.tmp rfl Res.nil))) ⟨_, rfl, ⟨bz, cz, kz, rfl, hwz, hH.get (b := bz) (by repeat (first | exact In.here | refine In.there ?_)), hBz⟩, hH.mod⟩

set_option maxRecDepth 100000 in
set_option maxHeartbeats 2000000 in
theorem RPut_3 (ve : Int) (q1 q2 q3 q4 : Option Addr) (c1 c2 c3 c4 : Nat) (dst src tok tag : List UInt8) (lst : List Int) (ln : Int) (ph : Bool) (htag : tag.length = 16) (n : Int) (low : Nat) (hlow : low < 18446744073709551616) (w0 : World) (hll : lst.length ≤ 1048576) (hlst : IsA w0 q4 c4 lst) (hd : Bs w0 (.slice q1 dst.length c1) dst) (hs : Bs w0 (.slice q2 src.length c2) src) (ht : Bs w0 (.slice q3 tok.length c3) tok) (hm : mayP 3 dst.length src.length tok.length (ln : Int) (n : Int) lst.length (badN lst)) : Calls Tryd.prog 13 #[.agg ([.int .i64 3, .int .i64 ve, .slice q1 dst.length c1, .slice q2 src.length c2, .slice q3 tok.length c3, .int .i64 (ln : Int), .bool ph, .slice q4 lst.length c4] ++ hcells tag : List Value).toArray, .int .u64 (low : Int), .int .i64 (n : Int)] w0 fun e w' => ∃ r, e = .returned (.tuple #[r, .int .i64 ((headB 3 n.toNat dst src tok ln.toNat ph lst tag).length : Int), .int .i64 0]) ∧ NB w0.heap.size 5 w' r (headB 3 n.toNat dst src tok ln.toNat ph lst tag ++ []) ∧ Ext w0 w' := by
  refine enter Tryd.func13 rfl rfl rfl ?_
  intro a hS
  have hH := Hp.start w0 (Nobody)
  have hm2 := hm
  unfold mayP at hm2
  obtain ⟨t0, t1, t2, t3, t4, t5, t6, t7, t8, t9, ta, tb, tc, td, te, tf, rfl⟩ := len16 htag
  have hwl := wideB_le tok.length
  refine c_seq ?_
  refine reg_plain w0 (Nobody) ?_
  refine r_box hS hH (by repeat (first | exact Sub.nil | refine Sub.cons ?_ ?_ | exact In.here | refine In.there ?_)) rfl rfl rfl ?_
  clear hS hH; intro a w b3 hb3 hwb3 hS hH
  refine r_assign hS hH.kp0 rfl rfl ?_; clear hS; intro a hS
  refine r_assign hS hH.kp0 rfl rfl ?_; clear hS; intro a hS
  refine r_assign hS hH.kp0 rfl rfl ?_; clear hS; intro a hS
  refine Sq.nil ?_
  refine then_n ?_
  refine c_seq ?_
  refine c_seq ?_
  refine reg_plain w0 (Nobody) ?_
  refine r_load_row hS hH (by repeat (first | exact Sub.nil | refine Sub.cons ?_ ?_ | exact In.here | refine In.there ?_)) rfl (by repeat (first | exact In.here | refine In.there ?_)) Fp.ag41 (by rfl) rfl ?_; clear hS; intro a hS
  refine r_move hS hH.kp0 rfl rfl ?_; clear hS; intro a hS
  refine r_call (l := [.tmp 19, .tmp 20]) hS rfl rfl Fp.fn31 rfl ?_
  refine Calls.mono (may_c 3 ve q1 q2 q3 q4 c1 c2 c3 c4 dst src tok _ lst (ln : Int) ph htag (n : Int) _ (by omega) (hlst.ext hH.mod)) ?_
  rintro e w1 ⟨rfl, hE⟩
  replace hH := hH.ext hE
  refine ⟨_, rfl, hH.kp0, ?_⟩
  clear hS; intro a hS
  refine r_not hS hH.kp0 rfl rfl ?_; clear hS; intro a hS
  refine Sq.nil ?_
  refine then_n ?_
  refine c_condF hS rfl (by rw [DT hm]; rfl) ?_
  refine wp_skip ?_
  refine then_n ?_
  refine c_seq ?_
  refine c_seq ?_
  refine reg_plain w0 (Nobody) ?_
  refine r_fieldAddr hS hH.kp0 rfl Fp.fo41_0 rfl ?_; clear hS; intro a hS
  refine r_load_sc hS hH (by repeat (first | exact Sub.nil | refine Sub.cons ?_ ?_ | exact In.here | refine In.there ?_)) rfl (by repeat (first | exact In.here | refine In.there ?_)) Fp.sc3 (by rfl) rfl ?_; clear hS; intro a hS
  refine r_eql hS hH.kp0 rfl rfl rfl ?_; clear hS; intro a hS
  refine Sq.nil ?_
  refine then_n ?_
  refine c_condF hS rfl rfl ?_
  refine wp_skip ?_
  refine then_n ?_
  refine c_seq ?_
  refine reg_plain w0 (Nobody) ?_
  refine r_assign hS hH.kp0 rfl rfl ?_; clear hS; intro a hS
  refine Sq.nil ?_
  refine then_n ?_
  refine c_seq ?_
  refine reg_plain w0 (Nobody) ?_
  refine r_assign hS hH.kp0 rfl rfl ?_; clear hS; intro a hS
  refine Sq.nil ?_
  refine then_n ?_
  refine c_seq ?_
  refine c_seq ?_
  refine reg_plain w0 (Nobody) ?_
  refine r_fieldAddr hS hH.kp0 rfl Fp.fo41_0 rfl ?_; clear hS; intro a hS
  refine r_load_sc hS hH (by repeat (first | exact Sub.nil | refine Sub.cons ?_ ?_ | exact In.here | refine In.there ?_)) rfl (by repeat (first | exact In.here | refine In.there ?_)) Fp.sc3 (by rfl) rfl ?_; clear hS; intro a hS
  refine Sq.nil ?_
  refine then_n ?_
  refine wp_block ?_
  refine c_seq ?_
  refine c_seq ?_
  refine reg_plain w0 (Nobody) ?_
  refine r_eql hS hH.kp0 rfl rfl rfl ?_; clear hS; intro a hS
  refine r_assign hS hH.kp0 rfl rfl ?_; clear hS; intro a hS
  refine Sq.nil ?_
  refine then_n ?_
  refine c_condF hS rfl rfl ?_
  refine c_seq ?_
  refine reg_plain w0 (Nobody) ?_
  refine r_eql hS hH.kp0 rfl rfl rfl ?_; clear hS; intro a hS
  refine r_assign hS hH.kp0 rfl rfl ?_; clear hS; intro a hS
  refine Sq.nil ?_
  refine then_n ?_
  refine c_condF hS rfl rfl ?_
  refine reg_plain w0 (Nobody) ?_
  refine r_eql hS hH.kp0 rfl rfl rfl ?_; clear hS; intro a hS
  refine r_assign hS hH.kp0 rfl rfl ?_; clear hS; intro a hS
  refine Sq.nil ?_
  refine then_n ?_
  refine c_condF hS rfl rfl ?_
  refine c_seq ?_
  refine reg_plain w0 (Nobody) ?_
  refine r_eql hS hH.kp0 rfl rfl rfl ?_; clear hS; intro a hS
  refine r_assign hS hH.kp0 rfl rfl ?_; clear hS; intro a hS
  refine Sq.nil ?_
  refine then_n ?_
  refine c_condT hS rfl rfl ?_
  refine reg_plain w0 (Nobody) ?_
  refine r_assign hS hH.kp0 rfl rfl ?_; clear hS; intro a hS
  refine Sq.nil ?_
  refine blk_n ?_
  refine then_n ?_
  refine c_seq ?_
  refine reg_plain w0 (Nobody) ?_
  refine r_move hS hH.kp0 rfl rfl ?_; clear hS; intro a hS
  refine r_toU8' (240) (UInt8.ofNat (240)) hS hH.kp0 rfl Fp.ui5 Fp.us3 rfl (by omega) rfl ?_; clear hS; intro a hS
  refine r_buildSlice (parts := [(0, .tmp 64)]) hS hH (by repeat (first | exact Sub.nil | refine Sub.cons ?_ ?_ | exact In.here | refine In.there ?_)) rfl Fp.bsl22_1 (by rfl) rfl ?_
  clear hS hH; intro a w b65 hb65 hwb65 hS hH
  refine r_move hS hH.kp0 rfl rfl ?_; clear hS; intro a hS
  refine r_toU64 (1) hS hH.kp0 rfl Fp.ui36 Fp.us3 rfl rfl (by omega) ?_; clear hS; intro a hS
  refine r_call (l := [.tmp 67, .const (.int .i64 4)]) hS rfl rfl Fp.fn32 rfl ?_
  refine Calls.mono (Bytes_c 1 4 (by decide) (by decide) (by decide) _) ?_
  rintro e w1 ⟨rp, rfl, hN, hE⟩
  obtain ⟨bp, cp, kp, hvp, hrp, hrkp, hBp⟩ := hN
  subst hvp
  have hwp := Nat.le_trans hH.mod.size hrp
  replace hH := hH.knowN hE hrp hrkp
  refine ⟨_, rfl, hH.kp0, ?_⟩
  clear hS; intro a hS
  refine r_appB (l := _) ((UInt8.ofNat (240) :: [])) (beB 1 4) hS hH rfl rfl (by first | exact .here | exact .there .here | exact .there (.there .here) | exact .there (.there (.there .here)) | exact .there (.there (.there (.there .here))) | exact .there (.there (.there (.there (.there .here)))) | exact .there (.there (.there (.there (.there (.there .here))))) | exact .there (.there (.there (.there (.there (.there (.there .here)))))) | exact .there (.there (.there (.there (.there (.there (.there (.there .here))))))) | exact .there (.there (.there (.there (.there (.there (.there (.there (.there .here)))))))) | exact .there (.there (.there (.there (.there (.there (.there (.there (.there (.there .here))))))))) | exact .there (.there (.there (.there (.there (.there (.there (.there (.there (.there (.there .here)))))))))) | exact .there (.there (.there (.there (.there (.there (.there (.there (.there (.there (.there (.there .here))))))))))) | exact .there (.there (.there (.there (.there (.there (.there (.there (.there (.there (.there (.there (.there .here)))))))))))) | exact .there (.there (.there (.there (.there (.there (.there (.there (.there (.there (.there (.there (.there (.there .here))))))))))))) | exact .there (.there (.there (.there (.there (.there (.there (.there (.there (.there (.there (.there (.there (.there (.there .here))))))))))))))) (by repeat (first | exact Sub.nil | refine Sub.cons ?_ ?_ | exact In.here | refine In.there ?_)) Fp.el22 Fp.ni22 (BB.lit [UInt8.ofNat (240)] rfl rfl) (hBp.bs (hH.get (b := bp) (by repeat (first | exact In.here | refine In.there ?_)))) (by simp only [List.length_cons, List.length_nil, beB_len]; omega) (by assumption) rfl ?_
  clear hS hH; intro a w bq cq kq hwq hBq hS hH
  refine r_assign hS hH.kp0 rfl rfl ?_; clear hS; intro a hS
  refine Sq.nil ?_
  refine then_n ?_
  refine c_seq ?_
  refine reg_draw [(true, 0, [0]), (true, 1, [0]), (true, 2, [0]), (true, 3, [0]), (true, 7, [0]), (true, 8, [0]), (false, 4, []), (false, 5, []), (false, 6, [0]), (false, 9, [0]), (true, 10, [0])] Fc.mixed (by kernel_rfl) (by kernel_rfl) (by kernel_rfl) (by kernel_rfl) (by kernel_rfl) (by repeat (first | with_reducible exact steady_body | with_reducible apply steady_block | with_reducible apply steady_then | with_reducible apply steady_scope | exact steady_body)) hH ?_
  replace hH := hH.drew
  refine r_move hS trivial rfl rfl ?_; clear hS; intro a hS
  refine r_fieldAddr hS trivial rfl Fp.fo41_2 rfl ?_; clear hS; intro a hS
  refine r_load_scS hS rfl (by repeat (first | exact In.here | refine In.there ?_)) Fp.sc22 (by rfl) rfl ?_; clear hS; intro a hS
  refine r_lenSl hS trivial rfl Fp.isSlice22 rfl ?_; clear hS; intro a hS
  refine r_fieldAddr hS trivial rfl Fp.fo41_2 rfl ?_; clear hS; intro a hS
  refine r_load_scS hS rfl (by repeat (first | exact In.here | refine In.there ?_)) Fp.sc22 (by rfl) rfl ?_; clear hS; intro a hS
  refine r_toU8 (q := dst.length) (UInt8.ofNat (dst.length)) hS (hH.kp (by repeat (first | exact Sub.nil | refine Sub.cons ?_ ?_ | exact In.here | refine In.there ?_))) rfl Fp.ui5 Fp.us3 rfl rfl ?_; clear hS; intro a hS
  refine r_buildSlice (parts := [(0, .tmp 74)]) hS hH (by repeat (first | exact Sub.nil | refine Sub.cons ?_ ?_ | exact In.here | refine In.there ?_)) rfl Fp.bsl22_1 (by rfl) rfl ?_
  clear hS hH; intro a w b75 hb75 hwb75 hS hH
  refine r_appB (l := _) ((UInt8.ofNat (240) :: []) ++ beB 1 4) ([UInt8.ofNat dst.length]) hS hH rfl rfl (by first | exact .here | exact .there .here | exact .there (.there .here) | exact .there (.there (.there .here)) | exact .there (.there (.there (.there .here))) | exact .there (.there (.there (.there (.there .here)))) | exact .there (.there (.there (.there (.there (.there .here))))) | exact .there (.there (.there (.there (.there (.there (.there .here)))))) | exact .there (.there (.there (.there (.there (.there (.there (.there .here))))))) | exact .there (.there (.there (.there (.there (.there (.there (.there (.there .here)))))))) | exact .there (.there (.there (.there (.there (.there (.there (.there (.there (.there .here))))))))) | exact .there (.there (.there (.there (.there (.there (.there (.there (.there (.there (.there .here)))))))))) | exact .there (.there (.there (.there (.there (.there (.there (.there (.there (.there (.there (.there .here))))))))))) | exact .there (.there (.there (.there (.there (.there (.there (.there (.there (.there (.there (.there (.there .here)))))))))))) | exact .there (.there (.there (.there (.there (.there (.there (.there (.there (.there (.there (.there (.there (.there .here))))))))))))) | exact .there (.there (.there (.there (.there (.there (.there (.there (.there (.there (.there (.there (.there (.there (.there .here))))))))))))))) (by repeat (first | exact Sub.nil | refine Sub.cons ?_ ?_ | exact In.here | refine In.there ?_)) Fp.el22 Fp.ni22 hBq ((BB.lit [UInt8.ofNat dst.length] rfl rfl).bs (hH.get (b := b75) (by repeat (first | exact In.here | refine In.there ?_)))) (by simp only [List.length_append, List.length_cons, List.length_nil, beB_len]; omega) (by assumption) rfl ?_
  clear hS hH; intro a w br cr kr hwr hBr hS hH
  refine r_appB (l := _) (((UInt8.ofNat (240) :: []) ++ beB 1 4) ++ [UInt8.ofNat dst.length]) (dst) hS hH rfl rfl (by first | exact .here | exact .there .here | exact .there (.there .here) | exact .there (.there (.there .here)) | exact .there (.there (.there (.there .here))) | exact .there (.there (.there (.there (.there .here)))) | exact .there (.there (.there (.there (.there (.there .here))))) | exact .there (.there (.there (.there (.there (.there (.there .here)))))) | exact .there (.there (.there (.there (.there (.there (.there (.there .here))))))) | exact .there (.there (.there (.there (.there (.there (.there (.there (.there .here)))))))) | exact .there (.there (.there (.there (.there (.there (.there (.there (.there (.there .here))))))))) | exact .there (.there (.there (.there (.there (.there (.there (.there (.there (.there (.there .here)))))))))) | exact .there (.there (.there (.there (.there (.there (.there (.there (.there (.there (.there (.there .here))))))))))) | exact .there (.there (.there (.there (.there (.there (.there (.there (.there (.there (.there (.there (.there .here)))))))))))) | exact .there (.there (.there (.there (.there (.there (.there (.there (.there (.there (.there (.there (.there (.there .here))))))))))))) | exact .there (.there (.there (.there (.there (.there (.there (.there (.there (.there (.there (.there (.there (.there (.there .here))))))))))))))) (by repeat (first | exact Sub.nil | refine Sub.cons ?_ ?_ | exact In.here | refine In.there ?_)) Fp.el22 Fp.ni22 hBr (hd.ext hH.mod) (by simp only [List.length_append, List.length_cons, List.length_nil, beB_len]; omega) (by assumption) rfl ?_
  clear hS hH; intro a w bs cs ks hws hBs hS hH
  refine r_assign hS trivial rfl rfl ?_; clear hS; intro a hS
  refine Sq.nil ?_
  refine then_n ?_
  refine c_seq ?_
  refine reg_draw [(true, 0, [0]), (true, 1, [0]), (true, 2, [0]), (true, 3, [0]), (true, 7, [0]), (true, 8, [0]), (false, 4, []), (false, 5, []), (false, 6, [0]), (false, 9, [0]), (true, 10, [0])] Fc.mixed (by kernel_rfl) (by kernel_rfl) (by kernel_rfl) (by kernel_rfl) (by kernel_rfl) (by repeat (first | with_reducible exact steady_body | with_reducible apply steady_block | with_reducible apply steady_then | with_reducible apply steady_scope | exact steady_body)) hH ?_
  replace hH := hH.drew
  refine r_move hS trivial rfl rfl ?_; clear hS; intro a hS
  refine r_fieldAddr hS trivial rfl Fp.fo41_3 rfl ?_; clear hS; intro a hS
  refine r_load_scS hS rfl (by repeat (first | exact In.here | refine In.there ?_)) Fp.sc22 (by rfl) rfl ?_; clear hS; intro a hS
  refine r_lenSl hS trivial rfl Fp.isSlice22 rfl ?_; clear hS; intro a hS
  refine r_fieldAddr hS trivial rfl Fp.fo41_3 rfl ?_; clear hS; intro a hS
  refine r_load_scS hS rfl (by repeat (first | exact In.here | refine In.there ?_)) Fp.sc22 (by rfl) rfl ?_; clear hS; intro a hS
  refine r_toU8 (q := src.length) (UInt8.ofNat (src.length)) hS (hH.kp (by repeat (first | exact Sub.nil | refine Sub.cons ?_ ?_ | exact In.here | refine In.there ?_))) rfl Fp.ui5 Fp.us3 rfl rfl ?_; clear hS; intro a hS
  refine r_buildSlice (parts := [(0, .tmp 84)]) hS hH (by repeat (first | exact Sub.nil | refine Sub.cons ?_ ?_ | exact In.here | refine In.there ?_)) rfl Fp.bsl22_1 (by rfl) rfl ?_
  clear hS hH; intro a w b85 hb85 hwb85 hS hH
  refine r_appB (l := _) ((((UInt8.ofNat (240) :: []) ++ beB 1 4) ++ [UInt8.ofNat dst.length]) ++ dst) ([UInt8.ofNat src.length]) hS hH rfl rfl (by first | exact .here | exact .there .here | exact .there (.there .here) | exact .there (.there (.there .here)) | exact .there (.there (.there (.there .here))) | exact .there (.there (.there (.there (.there .here)))) | exact .there (.there (.there (.there (.there (.there .here))))) | exact .there (.there (.there (.there (.there (.there (.there .here)))))) | exact .there (.there (.there (.there (.there (.there (.there (.there .here))))))) | exact .there (.there (.there (.there (.there (.there (.there (.there (.there .here)))))))) | exact .there (.there (.there (.there (.there (.there (.there (.there (.there (.there .here))))))))) | exact .there (.there (.there (.there (.there (.there (.there (.there (.there (.there (.there .here)))))))))) | exact .there (.there (.there (.there (.there (.there (.there (.there (.there (.there (.there (.there .here))))))))))) | exact .there (.there (.there (.there (.there (.there (.there (.there (.there (.there (.there (.there (.there .here)))))))))))) | exact .there (.there (.there (.there (.there (.there (.there (.there (.there (.there (.there (.there (.there (.there .here))))))))))))) | exact .there (.there (.there (.there (.there (.there (.there (.there (.there (.there (.there (.there (.there (.there (.there .here))))))))))))))) (by repeat (first | exact Sub.nil | refine Sub.cons ?_ ?_ | exact In.here | refine In.there ?_)) Fp.el22 Fp.ni22 hBs ((BB.lit [UInt8.ofNat src.length] rfl rfl).bs (hH.get (b := b85) (by repeat (first | exact In.here | refine In.there ?_)))) (by simp only [List.length_append, List.length_cons, List.length_nil, beB_len]; omega) (by assumption) rfl ?_
  clear hS hH; intro a w bt ct kt hwt hBt hS hH
  refine r_appB (l := _) (((((UInt8.ofNat (240) :: []) ++ beB 1 4) ++ [UInt8.ofNat dst.length]) ++ dst) ++ [UInt8.ofNat src.length]) (src) hS hH rfl rfl (by first | exact .here | exact .there .here | exact .there (.there .here) | exact .there (.there (.there .here)) | exact .there (.there (.there (.there .here))) | exact .there (.there (.there (.there (.there .here)))) | exact .there (.there (.there (.there (.there (.there .here))))) | exact .there (.there (.there (.there (.there (.there (.there .here)))))) | exact .there (.there (.there (.there (.there (.there (.there (.there .here))))))) | exact .there (.there (.there (.there (.there (.there (.there (.there (.there .here)))))))) | exact .there (.there (.there (.there (.there (.there (.there (.there (.there (.there .here))))))))) | exact .there (.there (.there (.there (.there (.there (.there (.there (.there (.there (.there .here)))))))))) | exact .there (.there (.there (.there (.there (.there (.there (.there (.there (.there (.there (.there .here))))))))))) | exact .there (.there (.there (.there (.there (.there (.there (.there (.there (.there (.there (.there (.there .here)))))))))))) | exact .there (.there (.there (.there (.there (.there (.there (.there (.there (.there (.there (.there (.there (.there .here))))))))))))) | exact .there (.there (.there (.there (.there (.there (.there (.there (.there (.there (.there (.there (.there (.there (.there .here))))))))))))))) (by repeat (first | exact Sub.nil | refine Sub.cons ?_ ?_ | exact In.here | refine In.there ?_)) Fp.el22 Fp.ni22 hBt (hs.ext hH.mod) (by simp only [List.length_append, List.length_cons, List.length_nil, beB_len]; omega) (by assumption) rfl ?_
  clear hS hH; intro a w bu cu ku hwu hBu hS hH
  refine r_assign hS trivial rfl rfl ?_; clear hS; intro a hS
  refine Sq.nil ?_
  refine then_n ?_
  refine c_seq ?_
  refine c_seq ?_
  refine reg_plain w0 (Nobody) ?_
  have hBu : BB cu ku (startB (240) 1 dst src) := hBu
  refine r_fieldAddr hS hH.kp0 rfl Fp.fo41_0 rfl ?_; clear hS; intro a hS
  refine r_load_sc hS hH (by repeat (first | exact Sub.nil | refine Sub.cons ?_ ?_ | exact In.here | refine In.there ?_)) rfl (by repeat (first | exact In.here | refine In.there ?_)) Fp.sc3 (by rfl) rfl ?_; clear hS; intro a hS
  refine Sq.nil ?_
  refine then_n ?_
  refine wp_block ?_
  refine c_seq ?_
  refine reg_plain w0 (Nobody) ?_
  refine r_eql hS hH.kp0 rfl rfl rfl ?_; clear hS; intro a hS
  refine r_assign hS hH.kp0 rfl rfl ?_; clear hS; intro a hS
  refine Sq.nil ?_
  refine then_n ?_
  refine c_condT hS rfl rfl ?_
  refine c_seq ?_
  refine reg_draw [(true, 0, [0]), (true, 1, [0]), (true, 2, [0]), (true, 4, [0]), (true, 5, [0]), (false, 3, [0]), (false, 6, [0]), (true, 7, [0])] Fc.mixed (by kernel_rfl) (by kernel_rfl) (by kernel_rfl) (by kernel_rfl) (by kernel_rfl) (by repeat (first | with_reducible exact steady_body | with_reducible apply steady_block | with_reducible apply steady_then | with_reducible apply steady_scope | exact steady_body)) hH ?_
  replace hH := hH.drew
  refine r_move hS trivial rfl rfl ?_; clear hS; intro a hS
  refine r_fieldAddr hS trivial rfl Fp.fo41_4 rfl ?_; clear hS; intro a hS
  refine r_load_scS hS rfl (by repeat (first | exact In.here | refine In.there ?_)) Fp.sc22 (by rfl) rfl ?_; clear hS; intro a hS
  refine r_fieldAddr hS trivial rfl Fp.fo41_8 rfl ?_; clear hS; intro a hS
  refine r_slArr hS trivial rfl Fp.ar24 rfl ?_; clear hS; intro a hS
  refine r_appB (l := _) (startB (240) 1 dst src) (tok) hS hH rfl rfl (by first | exact .here | exact .there .here | exact .there (.there .here) | exact .there (.there (.there .here)) | exact .there (.there (.there (.there .here))) | exact .there (.there (.there (.there (.there .here)))) | exact .there (.there (.there (.there (.there (.there .here))))) | exact .there (.there (.there (.there (.there (.there (.there .here)))))) | exact .there (.there (.there (.there (.there (.there (.there (.there .here))))))) | exact .there (.there (.there (.there (.there (.there (.there (.there (.there .here)))))))) | exact .there (.there (.there (.there (.there (.there (.there (.there (.there (.there .here))))))))) | exact .there (.there (.there (.there (.there (.there (.there (.there (.there (.there (.there .here)))))))))) | exact .there (.there (.there (.there (.there (.there (.there (.there (.there (.there (.there (.there .here))))))))))) | exact .there (.there (.there (.there (.there (.there (.there (.there (.there (.there (.there (.there (.there .here)))))))))))) | exact .there (.there (.there (.there (.there (.there (.there (.there (.there (.there (.there (.there (.there (.there .here))))))))))))) | exact .there (.there (.there (.there (.there (.there (.there (.there (.there (.there (.there (.there (.there (.there (.there .here))))))))))))))) (by repeat (first | exact Sub.nil | refine Sub.cons ?_ ?_ | exact In.here | refine In.there ?_)) Fp.el22 Fp.ni22 hBu (ht.ext hH.mod) (by simp only [startB_len]; omega) (by assumption) rfl ?_
  clear hS hH; intro a w bx cx kx hwx hBx hS hH
  refine r_appB (l := _) (startB (240) 1 dst src ++ tok) ([t0, t1, t2, t3, t4, t5, t6, t7, t8, t9, ta, tb, tc, td, te, tf]) hS hH rfl rfl (by first | exact .here | exact .there .here | exact .there (.there .here) | exact .there (.there (.there .here)) | exact .there (.there (.there (.there .here))) | exact .there (.there (.there (.there (.there .here)))) | exact .there (.there (.there (.there (.there (.there .here))))) | exact .there (.there (.there (.there (.there (.there (.there .here)))))) | exact .there (.there (.there (.there (.there (.there (.there (.there .here))))))) | exact .there (.there (.there (.there (.there (.there (.there (.there (.there .here)))))))) | exact .there (.there (.there (.there (.there (.there (.there (.there (.there (.there .here))))))))) | exact .there (.there (.there (.there (.there (.there (.there (.there (.there (.there (.there .here)))))))))) | exact .there (.there (.there (.there (.there (.there (.there (.there (.there (.there (.there (.there .here))))))))))) | exact .there (.there (.there (.there (.there (.there (.there (.there (.there (.there (.there (.there (.there .here)))))))))))) | exact .there (.there (.there (.there (.there (.there (.there (.there (.there (.there (.there (.there (.there (.there .here))))))))))))) | exact .there (.there (.there (.there (.there (.there (.there (.there (.there (.there (.there (.there (.there (.there (.there .here))))))))))))))) (by repeat (first | exact Sub.nil | refine Sub.cons ?_ ?_ | exact In.here | refine In.there ?_)) Fp.el22 Fp.ni22 hBx (Bs.row (o := 0 + 8) (u := [t0, t1, t2, t3, t4, t5, t6, t7, t8, t9, ta, tb, tc, td, te, tf]) (cap := 16) (hH.get (b := b3) (by repeat (first | exact In.here | refine In.there ?_))) rfl (Nat.le_refl _)) (by simp only [List.length_append, List.length_cons, List.length_nil, startB_len]; omega) (by assumption) rfl ?_
  clear hS hH; intro a w bz cz kz hwz hBz hS hH
  refine r_assign hS trivial rfl rfl ?_; clear hS; intro a hS
  refine Sq.nil ?_
  refine then_n ?_
  refine c_seq ?_
  refine reg_plain w0 (Nobody) ?_
  refine r_move hS hH.kp0 rfl rfl ?_; clear hS; intro a hS
  refine r_move hS hH.kp0 rfl rfl ?_; clear hS; intro a hS
  refine r_lenSl hS hH.kp0 rfl Fp.isSlice22 rfl ?_; clear hS; intro a hS
  refine r_assign hS hH.kp0 rfl rfl ?_; clear hS; intro a hS
  refine r_assign hS hH.kp0 rfl rfl ?_; clear hS; intro a hS
  refine r_assign hS hH.kp0 rfl rfl ?_; clear hS; intro a hS
  refine Sq.nil ?_
  refine then_n ?_
  refine wp_ret ?_
  refine blk_r ?_
  refine then_r ?_
  exact leave (.inl rfl) hS rfl (Res.tmp rfl (Res.tmp rfl (Res.tmp rfl Res.nil))) ⟨_, rfl, ⟨bz, cz, kz, by rw [List.append_nil]; rfl, hwz, hH.get (b := bz) (by repeat (first | exact In.here | refine In.there ?_)), by rw [List.append_nil]; exact hBz⟩, hH.mod⟩

set_option maxRecDepth 100000 in
set_option maxHeartbeats 2000000 in
theorem RPut_4 (ve : Int) (q1 q2 q3 q4 : Option Addr) (c1 c2 c3 c4 : Nat) (dst src tok tag : List UInt8) (lst : List Int) (ln : Int) (ph : Bool) (htag : tag.length = 16) (n : Int) (low : Nat) (hlow : low < 18446744073709551616) (w0 : World) (hll : lst.length ≤ 1048576) (hlst : IsA w0 q4 c4 lst) (hd : Bs w0 (.slice q1 dst.length c1) dst) (hs : Bs w0 (.slice q2 src.length c2) src) (ht : Bs w0 (.slice q3 tok.length c3) tok) (hm : mayP 4 dst.length src.length tok.length (ln : Int) (n : Int) lst.length (badN lst)) : Calls Tryd.prog 13 #[.agg ([.int .i64 4, .int .i64 ve, .slice q1 dst.length c1, .slice q2 src.length c2, .slice q3 tok.length c3, .int .i64 (ln : Int), .bool ph, .slice q4 lst.length c4] ++ hcells tag : List Value).toArray, .int .u64 (low : Int), .int .i64 (n : Int)] w0 fun e w' => ∃ r, e = .returned (.tuple #[r, .int .i64 ((headB 4 n.toNat dst src tok ln.toNat ph lst tag).length : Int), .int .i64 0]) ∧ NB w0.heap.size 5 w' r (headB 4 n.toNat dst src tok ln.toNat ph lst tag ++ []) ∧ Ext w0 w' := by
  refine enter Tryd.func13 rfl rfl rfl ?_
  intro a hS
  have hH := Hp.start w0 (Nobody)
  have hm2 := hm
  unfold mayP at hm2
  obtain ⟨t0, t1, t2, t3, t4, t5, t6, t7, t8, t9, ta, tb, tc, td, te, tf, rfl⟩ := len16 htag
  have hwl := wideB_le tok.length
  refine c_seq ?_
  refine reg_plain w0 (Nobody) ?_
  refine r_box hS hH (by repeat (first | exact Sub.nil | refine Sub.cons ?_ ?_ | exact In.here | refine In.there ?_)) rfl rfl rfl ?_
  clear hS hH; intro a w b3 hb3 hwb3 hS hH
  refine r_assign hS hH.kp0 rfl rfl ?_; clear hS; intro a hS
  refine r_assign hS hH.kp0 rfl rfl ?_; clear hS; intro a hS
  refine r_assign hS hH.kp0 rfl rfl ?_; clear hS; intro a hS
  refine Sq.nil ?_
  refine then_n ?_
  refine c_seq ?_
  refine c_seq ?_
  refine reg_plain w0 (Nobody) ?_
  refine r_load_row hS hH (by repeat (first | exact Sub.nil | refine Sub.cons ?_ ?_ | exact In.here | refine In.there ?_)) rfl (by repeat (first | exact In.here | refine In.there ?_)) Fp.ag41 (by rfl) rfl ?_; clear hS; intro a hS
  refine r_move hS hH.kp0 rfl rfl ?_; clear hS; intro a hS
  refine r_call (l := [.tmp 19, .tmp 20]) hS rfl rfl Fp.fn31 rfl ?_
  refine Calls.mono (may_c 4 ve q1 q2 q3 q4 c1 c2 c3 c4 dst src tok _ lst (ln : Int) ph htag (n : Int) _ (by omega) (hlst.ext hH.mod)) ?_
  rintro e w1 ⟨rfl, hE⟩
  replace hH := hH.ext hE
  refine ⟨_, rfl, hH.kp0, ?_⟩
  clear hS; intro a hS
  refine r_not hS hH.kp0 rfl rfl ?_; clear hS; intro a hS
  refine Sq.nil ?_
  refine then_n ?_
  refine c_condF hS rfl (by rw [DT hm]; rfl) ?_
  refine wp_skip ?_
  refine then_n ?_
  refine c_seq ?_
  refine c_seq ?_
  refine reg_plain w0 (Nobody) ?_
  refine r_fieldAddr hS hH.kp0 rfl Fp.fo41_0 rfl ?_; clear hS; intro a hS
  refine r_load_sc hS hH (by repeat (first | exact Sub.nil | refine Sub.cons ?_ ?_ | exact In.here | refine In.there ?_)) rfl (by repeat (first | exact In.here | refine In.there ?_)) Fp.sc3 (by rfl) rfl ?_; clear hS; intro a hS
  refine r_eql hS hH.kp0 rfl rfl rfl ?_; clear hS; intro a hS
  refine Sq.nil ?_
  refine then_n ?_
  refine c_condF hS rfl rfl ?_
  refine wp_skip ?_
  refine then_n ?_
  refine c_seq ?_
  refine reg_plain w0 (Nobody) ?_
  refine r_assign hS hH.kp0 rfl rfl ?_; clear hS; intro a hS
  refine Sq.nil ?_
  refine then_n ?_
  refine c_seq ?_
  refine reg_plain w0 (Nobody) ?_
  refine r_assign hS hH.kp0 rfl rfl ?_; clear hS; intro a hS
  refine Sq.nil ?_
  refine then_n ?_
  refine c_seq ?_
  refine c_seq ?_
  refine reg_plain w0 (Nobody) ?_
  refine r_fieldAddr hS hH.kp0 rfl Fp.fo41_0 rfl ?_; clear hS; intro a hS
  refine r_load_sc hS hH (by repeat (first | exact Sub.nil | refine Sub.cons ?_ ?_ | exact In.here | refine In.there ?_)) rfl (by repeat (first | exact In.here | refine In.there ?_)) Fp.sc3 (by rfl) rfl ?_; clear hS; intro a hS
  refine Sq.nil ?_
  refine then_n ?_
  refine wp_block ?_
  refine c_seq ?_
  refine c_seq ?_
  refine reg_plain w0 (Nobody) ?_
  refine r_eql hS hH.kp0 rfl rfl rfl ?_; clear hS; intro a hS
  refine r_assign hS hH.kp0 rfl rfl ?_; clear hS; intro a hS
  refine Sq.nil ?_
  refine then_n ?_
  refine c_condF hS rfl rfl ?_
  refine c_seq ?_
  refine reg_plain w0 (Nobody) ?_
  refine r_eql hS hH.kp0 rfl rfl rfl ?_; clear hS; intro a hS
  refine r_assign hS hH.kp0 rfl rfl ?_; clear hS; intro a hS
  refine Sq.nil ?_
  refine then_n ?_
  refine c_condF hS rfl rfl ?_
  refine reg_plain w0 (Nobody) ?_
  refine r_eql hS hH.kp0 rfl rfl rfl ?_; clear hS; intro a hS
  refine r_assign hS hH.kp0 rfl rfl ?_; clear hS; intro a hS
  refine Sq.nil ?_
  refine then_n ?_
  refine c_condF hS rfl rfl ?_
  refine c_seq ?_
  refine reg_plain w0 (Nobody) ?_
  refine r_eql hS hH.kp0 rfl rfl rfl ?_; clear hS; intro a hS
  refine r_assign hS hH.kp0 rfl rfl ?_; clear hS; intro a hS
  refine Sq.nil ?_
  refine then_n ?_
  refine c_condF hS rfl rfl ?_
  refine c_seq ?_
  refine reg_plain w0 (Nobody) ?_
  refine r_eql hS hH.kp0 rfl rfl rfl ?_; clear hS; intro a hS
  refine r_assign hS hH.kp0 rfl rfl ?_; clear hS; intro a hS
  refine Sq.nil ?_
  refine then_n ?_
  refine c_condT hS rfl rfl ?_
  refine reg_plain w0 (Nobody) ?_
  refine r_assign hS hH.kp0 rfl rfl ?_; clear hS; intro a hS
  refine Sq.nil ?_
  refine blk_n ?_
  refine then_n ?_
  refine c_seq ?_
  refine reg_plain w0 (Nobody) ?_
  refine r_move hS hH.kp0 rfl rfl ?_; clear hS; intro a hS
  refine r_toU8' (192) (UInt8.ofNat (192)) hS hH.kp0 rfl Fp.ui5 Fp.us3 rfl (by omega) rfl ?_; clear hS; intro a hS
  refine r_buildSlice (parts := [(0, .tmp 64)]) hS hH (by repeat (first | exact Sub.nil | refine Sub.cons ?_ ?_ | exact In.here | refine In.there ?_)) rfl Fp.bsl22_1 (by rfl) rfl ?_
  clear hS hH; intro a w b65 hb65 hwb65 hS hH
  refine r_move hS hH.kp0 rfl rfl ?_; clear hS; intro a hS
  refine r_toU64 (0) hS hH.kp0 rfl Fp.ui36 Fp.us3 rfl rfl (by omega) ?_; clear hS; intro a hS
  refine r_call (l := [.tmp 67, .const (.int .i64 4)]) hS rfl rfl Fp.fn32 rfl ?_
  refine Calls.mono (Bytes_c 0 4 (by decide) (by decide) (by decide) _) ?_
  rintro e w1 ⟨rp, rfl, hN, hE⟩
  obtain ⟨bp, cp, kp, hvp, hrp, hrkp, hBp⟩ := hN
  subst hvp
  have hwp := Nat.le_trans hH.mod.size hrp
  replace hH := hH.knowN hE hrp hrkp
  refine ⟨_, rfl, hH.kp0, ?_⟩
  clear hS; intro a hS
  refine r_appB (l := _) ((UInt8.ofNat (192) :: [])) (beB 0 4) hS hH rfl rfl (by first | exact .here | exact .there .here | exact .there (.there .here) | exact .there (.there (.there .here)) | exact .there (.there (.there (.there .here))) | exact .there (.there (.there (.there (.there .here)))) | exact .there (.there (.there (.there (.there (.there .here))))) | exact .there (.there (.there (.there (.there (.there (.there .here)))))) | exact .there (.there (.there (.there (.there (.there (.there (.there .here))))))) | exact .there (.there (.there (.there (.there (.there (.there (.there (.there .here)))))))) | exact .there (.there (.there (.there (.there (.there (.there (.there (.there (.there .here))))))))) | exact .there (.there (.there (.there (.there (.there (.there (.there (.there (.there (.there .here)))))))))) | exact .there (.there (.there (.there (.there (.there (.there (.there (.there (.there (.there (.there .here))))))))))) | exact .there (.there (.there (.there (.there (.there (.there (.there (.there (.there (.there (.there (.there .here)))))))))))) | exact .there (.there (.there (.there (.there (.there (.there (.there (.there (.there (.there (.there (.there (.there .here))))))))))))) | exact .there (.there (.there (.there (.there (.there (.there (.there (.there (.there (.there (.there (.there (.there (.there .here))))))))))))))) (by repeat (first | exact Sub.nil | refine Sub.cons ?_ ?_ | exact In.here | refine In.there ?_)) Fp.el22 Fp.ni22 (BB.lit [UInt8.ofNat (192)] rfl rfl) (hBp.bs (hH.get (b := bp) (by repeat (first | exact In.here | refine In.there ?_)))) (by simp only [List.length_cons, List.length_nil, beB_len]; omega) (by assumption) rfl ?_
  clear hS hH; intro a w bq cq kq hwq hBq hS hH
  refine r_assign hS hH.kp0 rfl rfl ?_; clear hS; intro a hS
  refine Sq.nil ?_
  refine then_n ?_
  refine c_seq ?_
  refine reg_draw [(true, 0, [0]), (true, 1, [0]), (true, 2, [0]), (true, 3, [0]), (true, 7, [0]), (true, 8, [0]), (false, 4, []), (false, 5, []), (false, 6, [0]), (false, 9, [0]), (true, 10, [0])] Fc.mixed (by kernel_rfl) (by kernel_rfl) (by kernel_rfl) (by kernel_rfl) (by kernel_rfl) (by repeat (first | with_reducible exact steady_body | with_reducible apply steady_block | with_reducible apply steady_then | with_reducible apply steady_scope | exact steady_body)) hH ?_
  replace hH := hH.drew
  refine r_move hS trivial rfl rfl ?_; clear hS; intro a hS
  refine r_fieldAddr hS trivial rfl Fp.fo41_2 rfl ?_; clear hS; intro a hS
  refine r_load_scS hS rfl (by repeat (first | exact In.here | refine In.there ?_)) Fp.sc22 (by rfl) rfl ?_; clear hS; intro a hS
  refine r_lenSl hS trivial rfl Fp.isSlice22 rfl ?_; clear hS; intro a hS
  refine r_fieldAddr hS trivial rfl Fp.fo41_2 rfl ?_; clear hS; intro a hS
  refine r_load_scS hS rfl (by repeat (first | exact In.here | refine In.there ?_)) Fp.sc22 (by rfl) rfl ?_; clear hS; intro a hS
  refine r_toU8 (q := dst.length) (UInt8.ofNat (dst.length)) hS (hH.kp (by repeat (first | exact Sub.nil | refine Sub.cons ?_ ?_ | exact In.here | refine In.there ?_))) rfl Fp.ui5 Fp.us3 rfl rfl ?_; clear hS; intro a hS
  refine r_buildSlice (parts := [(0, .tmp 74)]) hS hH (by repeat (first | exact Sub.nil | refine Sub.cons ?_ ?_ | exact In.here | refine In.there ?_)) rfl Fp.bsl22_1 (by rfl) rfl ?_
  clear hS hH; intro a w b75 hb75 hwb75 hS hH
  refine r_appB (l := _) ((UInt8.ofNat (192) :: []) ++ beB 0 4) ([UInt8.ofNat dst.length]) hS hH rfl rfl (by first | exact .here | exact .there .here | exact .there (.there .here) | exact .there (.there (.there .here)) | exact .there (.there (.there (.there .here))) | exact .there (.there (.there (.there (.there .here)))) | exact .there (.there (.there (.there (.there (.there .here))))) | exact .there (.there (.there (.there (.there (.there (.there .here)))))) | exact .there (.there (.there (.there (.there (.there (.there (.there .here))))))) | exact .there (.there (.there (.there (.there (.there (.there (.there (.there .here)))))))) | exact .there (.there (.there (.there (.there (.there (.there (.there (.there (.there .here))))))))) | exact .there (.there (.there (.there (.there (.there (.there (.there (.there (.there (.there .here)))))))))) | exact .there (.there (.there (.there (.there (.there (.there (.there (.there (.there (.there (.there .here))))))))))) | exact .there (.there (.there (.there (.there (.there (.there (.there (.there (.there (.there (.there (.there .here)))))))))))) | exact .there (.there (.there (.there (.there (.there (.there (.there (.there (.there (.there (.there (.there (.there .here))))))))))))) | exact .there (.there (.there (.there (.there (.there (.there (.there (.there (.there (.there (.there (.there (.there (.there .here))))))))))))))) (by repeat (first | exact Sub.nil | refine Sub.cons ?_ ?_ | exact In.here | refine In.there ?_)) Fp.el22 Fp.ni22 hBq ((BB.lit [UInt8.ofNat dst.length] rfl rfl).bs (hH.get (b := b75) (by repeat (first | exact In.here | refine In.there ?_)))) (by simp only [List.length_append, List.length_cons, List.length_nil, beB_len]; omega) (by assumption) rfl ?_
  clear hS hH; intro a w br cr kr hwr hBr hS hH
  refine r_appB (l := _) (((UInt8.ofNat (192) :: []) ++ beB 0 4) ++ [UInt8.ofNat dst.length]) (dst) hS hH rfl rfl (by first | exact .here | exact .there .here | exact .there (.there .here) | exact .there (.there (.there .here)) | exact .there (.there (.there (.there .here))) | exact .there (.there (.there (.there (.there .here)))) | exact .there (.there (.there (.there (.there (.there .here))))) | exact .there (.there (.there (.there (.there (.there (.there .here)))))) | exact .there (.there (.there (.there (.there (.there (.there (.there .here))))))) | exact .there (.there (.there (.there (.there (.there (.there (.there (.there .here)))))))) | exact .there (.there (.there (.there (.there (.there (.there (.there (.there (.there .here))))))))) | exact .there (.there (.there (.there (.there (.there (.there (.there (.there (.there (.there .here)))))))))) | exact .there (.there (.there (.there (.there (.there (.there (.there (.there (.there (.there (.there .here))))))))))) | exact .there (.there (.there (.there (.there (.there (.there (.there (.there (.there (.there (.there (.there .here)))))))))))) | exact .there (.there (.there (.there (.there (.there (.there (.there (.there (.there (.there (.there (.there (.there .here))))))))))))) | exact .there (.there (.there (.there (.there (.there (.there (.there (.there (.there (.there (.there (.there (.there (.there .here))))))))))))))) (by repeat (first | exact Sub.nil | refine Sub.cons ?_ ?_ | exact In.here | refine In.there ?_)) Fp.el22 Fp.ni22 hBr (hd.ext hH.mod) (by simp only [List.length_append, List.length_cons, List.length_nil, beB_len]; omega) (by assumption) rfl ?_
  clear hS hH; intro a w bs cs ks hws hBs hS hH
  refine r_assign hS trivial rfl rfl ?_; clear hS; intro a hS
  refine Sq.nil ?_
  refine then_n ?_
  refine c_seq ?_
  refine reg_draw [(true, 0, [0]), (true, 1, [0]), (true, 2, [0]), (true, 3, [0]), (true, 7, [0]), (true, 8, [0]), (false, 4, []), (false, 5, []), (false, 6, [0]), (false, 9, [0]), (true, 10, [0])] Fc.mixed (by kernel_rfl) (by kernel_rfl) (by kernel_rfl) (by kernel_rfl) (by kernel_rfl) (by repeat (first | with_reducible exact steady_body | with_reducible apply steady_block | with_reducible apply steady_then | with_reducible apply steady_scope | exact steady_body)) hH ?_
  replace hH := hH.drew
  refine r_move hS trivial rfl rfl ?_; clear hS; intro a hS
  refine r_fieldAddr hS trivial rfl Fp.fo41_3 rfl ?_; clear hS; intro a hS
  refine r_load_scS hS rfl (by repeat (first | exact In.here | refine In.there ?_)) Fp.sc22 (by rfl) rfl ?_; clear hS; intro a hS
  refine r_lenSl hS trivial rfl Fp.isSlice22 rfl ?_; clear hS; intro a hS
  refine r_fieldAddr hS trivial rfl Fp.fo41_3 rfl ?_; clear hS; intro a hS
  refine r_load_scS hS rfl (by repeat (first | exact In.here | refine In.there ?_)) Fp.sc22 (by rfl) rfl ?_; clear hS; intro a hS
  refine r_toU8 (q := src.length) (UInt8.ofNat (src.length)) hS (hH.kp (by repeat (first | exact Sub.nil | refine Sub.cons ?_ ?_ | exact In.here | refine In.there ?_))) rfl Fp.ui5 Fp.us3 rfl rfl ?_; clear hS; intro a hS
  refine r_buildSlice (parts := [(0, .tmp 84)]) hS hH (by repeat (first | exact Sub.nil | refine Sub.cons ?_ ?_ | exact In.here | refine In.there ?_)) rfl Fp.bsl22_1 (by rfl) rfl ?_
  clear hS hH; intro a w b85 hb85 hwb85 hS hH
  refine r_appB (l := _) ((((UInt8.ofNat (192) :: []) ++ beB 0 4) ++ [UInt8.ofNat dst.length]) ++ dst) ([UInt8.ofNat src.length]) hS hH rfl rfl (by first | exact .here | exact .there .here | exact .there (.there .here) | exact .there (.there (.there .here)) | exact .there (.there (.there (.there .here))) | exact .there (.there (.there (.there (.there .here)))) | exact .there (.there (.there (.there (.there (.there .here))))) | exact .there (.there (.there (.there (.there (.there (.there .here)))))) | exact .there (.there (.there (.there (.there (.there (.there (.there .here))))))) | exact .there (.there (.there (.there (.there (.there (.there (.there (.there .here)))))))) | exact .there (.there (.there (.there (.there (.there (.there (.there (.there (.there .here))))))))) | exact .there (.there (.there (.there (.there (.there (.there (.there (.there (.there (.there .here)))))))))) | exact .there (.there (.there (.there (.there (.there (.there (.there (.there (.there (.there (.there .here))))))))))) | exact .there (.there (.there (.there (.there (.there (.there (.there (.there (.there (.there (.there (.there .here)))))))))))) | exact .there (.there (.there (.there (.there (.there (.there (.there (.there (.there (.there (.there (.there (.there .here))))))))))))) | exact .there (.there (.there (.there (.there (.there (.there (.there (.there (.there (.there (.there (.there (.there (.there .here))))))))))))))) (by repeat (first | exact Sub.nil | refine Sub.cons ?_ ?_ | exact In.here | refine In.there ?_)) Fp.el22 Fp.ni22 hBs ((BB.lit [UInt8.ofNat src.length] rfl rfl).bs (hH.get (b := b85) (by repeat (first | exact In.here | refine In.there ?_)))) (by simp only [List.length_append, List.length_cons, List.length_nil, beB_len]; omega) (by assumption) rfl ?_
  clear hS hH; intro a w bt ct kt hwt hBt hS hH
  refine r_appB (l := _) (((((UInt8.ofNat (192) :: []) ++ beB 0 4) ++ [UInt8.ofNat dst.length]) ++ dst) ++ [UInt8.ofNat src.length]) (src) hS hH rfl rfl (by first | exact .here | exact .there .here | exact .there (.there .here) | exact .there (.there (.there .here)) | exact .there (.there (.there (.there .here))) | exact .there (.there (.there (.there (.there .here)))) | exact .there (.there (.there (.there (.there (.there .here))))) | exact .there (.there (.there (.there (.there (.there (.there .here)))))) | exact .there (.there (.there (.there (.there (.there (.there (.there .here))))))) | exact .there (.there (.there (.there (.there (.there (.there (.there (.there .here)))))))) | exact .there (.there (.there (.there (.there (.there (.there (.there (.there (.there .here))))))))) | exact .there (.there (.there (.there (.there (.there (.there (.there (.there (.there (.there .here)))))))))) | exact .there (.there (.there (.there (.there (.there (.there (.there (.there (.there (.there (.there .here))))))))))) | exact .there (.there (.there (.there (.there (.there (.there (.there (.there (.there (.there (.there (.there .here)))))))))))) | exact .there (.there (.there (.there (.there (.there (.there (.there (.there (.there (.there (.there (.there (.there .here))))))))))))) | exact .there (.there (.there (.there (.there (.there (.there (.there (.there (.there (.there (.there (.there (.there (.there .here))))))))))))))) (by repeat (first | exact Sub.nil | refine Sub.cons ?_ ?_ | exact In.here | refine In.there ?_)) Fp.el22 Fp.ni22 hBt (hs.ext hH.mod) (by simp only [List.length_append, List.length_cons, List.length_nil, beB_len]; omega) (by assumption) rfl ?_
  clear hS hH; intro a w bu cu ku hwu hBu hS hH
  refine r_assign hS trivial rfl rfl ?_; clear hS; intro a hS
  refine Sq.nil ?_
  refine then_n ?_
  refine c_seq ?_
  refine c_seq ?_
  refine reg_plain w0 (Nobody) ?_
  have hBu : BB cu ku (startB (192) 0 dst src) := hBu
  refine r_fieldAddr hS hH.kp0 rfl Fp.fo41_0 rfl ?_; clear hS; intro a hS
  refine r_load_sc hS hH (by repeat (first | exact Sub.nil | refine Sub.cons ?_ ?_ | exact In.here | refine In.there ?_)) rfl (by repeat (first | exact In.here | refine In.there ?_)) Fp.sc3 (by rfl) rfl ?_; clear hS; intro a hS
  refine Sq.nil ?_
  refine then_n ?_
  refine wp_block ?_
  refine c_seq ?_
  refine reg_plain w0 (Nobody) ?_
  refine r_eql hS hH.kp0 rfl rfl rfl ?_; clear hS; intro a hS
  refine r_assign hS hH.kp0 rfl rfl ?_; clear hS; intro a hS
  refine Sq.nil ?_
  refine then_n ?_
  refine c_condF hS rfl rfl ?_
  refine c_seq ?_
  refine reg_plain w0 (Nobody) ?_
  refine r_eql hS hH.kp0 rfl rfl rfl ?_; clear hS; intro a hS
  refine r_assign hS hH.kp0 rfl rfl ?_; clear hS; intro a hS
  refine Sq.nil ?_
  refine then_n ?_
  refine c_condT hS rfl rfl ?_
  refine c_seq ?_
  refine c_seq ?_
  refine reg_plain w0 (Nobody) ?_
  refine r_assign hS hH.kp0 rfl rfl ?_; clear hS; intro a hS
  refine Sq.nil ?_
  refine then_n ?_
  refine wp_block ?_
  refine c_loop (fun m a w => ∃ (k : Nat) (i : Int) (b cc : Nat) (kk : List Value), m + k = lst.length ∧ i = k ∧ w0.heap.size ≤ b ∧ BB cc kk (startB (192) 0 dst src ++ listB (lst.take k)) ∧ St 157 (lv [(3, .pointer (some ⟨b3, 0, none⟩)), (13, .slice (some ⟨b, 0, none⟩) (startB (192) 0 dst src ++ listB (lst.take k)).length cc), (14, .int .i64 i)]) a ∧ Hp w0 Nobody [(b, .cells kk.toArray 5 (0, 0)), (b3, .cells ([.int .i64 4, .int .i64 ve, .slice q1 dst.length c1, .slice q2 src.length c2, .slice q3 tok.length c3, .int .i64 ln, .bool ph, .slice q4 lst.length c4] ++ hcells [t0, t1, t2, t3, t4, t5, t6, t7, t8, t9, ta, tb, tc, td, te, tf] : List Value).toArray 41 (0, 0))] w) (lst.length) ?_ ?_
  · rw [show (startB (192) 0 dst src) = startB (192) 0 dst src ++ listB (lst.take 0) from by simp [listB]] at hBu
    have hS2 : St 157 _ a := hS
    have hln : ((((((UInt8.ofNat (192) :: []) ++ beB 0 4) ++ [UInt8.ofNat dst.length]) ++ dst) ++ [UInt8.ofNat src.length]) ++ src).length = (startB (192) 0 dst src ++ listB (lst.take 0)).length := by simp [listB, startB]
    rw [hln] at hS
    exact ⟨0, _, bu, cu, ku, by omega, rfl, hwu, hBu, hS.live ⟨rfl, rfl, rfl, trivial⟩, hH.sub (by repeat (first | exact Sub.nil | refine Sub.cons ?_ ?_ | exact In.here | refine In.there ?_)) (by have nd := hH.nd; simp only [List.map_cons, List.map_nil, List.nodup_cons, List.mem_cons, List.not_mem_nil, or_false] at nd ⊢; simp_all)⟩
  clear hS hH; intro m a w hI; obtain ⟨k, i, b, cc, kk, hmk, hi, hwb, hB, hS, hH⟩ := hI
  refine c_seq ?_
  refine c_seq ?_
  refine reg_plain w0 (Nobody) ?_
  refine r_move hS hH.kp0 rfl rfl ?_; clear hS; intro a hS
  refine r_fieldAddr hS hH.kp0 rfl Fp.fo41_7 rfl ?_; clear hS; intro a hS
  refine r_load_sc hS hH (by repeat (first | exact Sub.nil | refine Sub.cons ?_ ?_ | exact In.here | refine In.there ?_)) rfl (by repeat (first | exact In.here | refine In.there ?_)) Fp.sc23 (by rfl) rfl ?_; clear hS; intro a hS
  refine r_lenSl hS hH.kp0 rfl Fp.isSlice23 rfl ?_; clear hS; intro a hS
  refine r_lss hS hH.kp0 rfl rfl rfl ?_; clear hS; intro a hS
  refine Sq.nil ?_
  refine then_n ?_
  refine c_cond hS rfl (fun hc10 => ?_) (fun hc10 => ?_)
  · have hk : k < lst.length := by have := of_decide_eq_true hc10; omega
    obtain ⟨ba, bo, hp, hcell⟩ := (hlst.ext hH.mod).cell hk
    subst hp
    have hbz := badN_zero hk (by omega)
    refine wp_skip ?_
    refine then_n ?_
    refine c_seq ?_
    refine wp_block ?_
    refine reg_plain w0 (Nobody) ?_
    refine r_move hS hH.kp0 rfl rfl ?_; clear hS; intro a hS
    refine r_fieldAddr hS hH.kp0 rfl Fp.fo41_7 rfl ?_; clear hS; intro a hS
    refine r_load_sc hS hH (by repeat (first | exact Sub.nil | refine Sub.cons ?_ ?_ | exact In.here | refine In.there ?_)) rfl (by repeat (first | exact In.here | refine In.there ?_)) Fp.sc23 (by rfl) rfl ?_; clear hS; intro a hS
    refine r_move hS hH.kp0 rfl rfl ?_; clear hS; intro a hS
    refine r_indexAddrS (j := k) hS hH.kp0 rfl rfl Fp.slb23 hi hk rfl ?_; clear hS; intro a hS
    refine r_load_cell hS hH.kp0 rfl hcell Fp.sc3 rfl ?_; clear hS; intro a hS
    refine r_toU64 (lst[k].toNat) hS hH.kp0 rfl Fp.ui36 Fp.us3 rfl (by omega) (by omega) ?_; clear hS; intro a hS
    refine r_call (l := [.tmp 119, .const (.int .i64 4)]) hS rfl rfl Fp.fn32 rfl ?_
    refine Calls.mono (Bytes_c lst[k].toNat 4 (by omega) (by decide) (by decide) _) ?_
    rintro e w1 ⟨rx, rfl, hN, hE⟩
    obtain ⟨bx, cx, kx, hvx, hrx, hrkx, hBx⟩ := hN
    subst hvx
    have hwx := Nat.le_trans hH.mod.size hrx
    replace hH := hH.knowN hE hrx hrkx
    refine ⟨_, rfl, hH.kp0, ?_⟩
    clear hS; intro a hS
    refine r_appB (l := _) (startB (192) 0 dst src ++ listB (lst.take k)) (beB lst[k].toNat 4) hS hH rfl rfl (by first | exact .here | exact .there .here | exact .there (.there .here) | exact .there (.there (.there .here)) | exact .there (.there (.there (.there .here))) | exact .there (.there (.there (.there (.there .here)))) | exact .there (.there (.there (.there (.there (.there .here))))) | exact .there (.there (.there (.there (.there (.there (.there .here)))))) | exact .there (.there (.there (.there (.there (.there (.there (.there .here))))))) | exact .there (.there (.there (.there (.there (.there (.there (.there (.there .here)))))))) | exact .there (.there (.there (.there (.there (.there (.there (.there (.there (.there .here))))))))) | exact .there (.there (.there (.there (.there (.there (.there (.there (.there (.there (.there .here)))))))))) | exact .there (.there (.there (.there (.there (.there (.there (.there (.there (.there (.there (.there .here))))))))))) | exact .there (.there (.there (.there (.there (.there (.there (.there (.there (.there (.there (.there (.there .here)))))))))))) | exact .there (.there (.there (.there (.there (.there (.there (.there (.there (.there (.there (.there (.there (.there .here))))))))))))) | exact .there (.there (.there (.there (.there (.there (.there (.there (.there (.there (.there (.there (.there (.there (.there .here))))))))))))))) (by repeat (first | exact Sub.nil | refine Sub.cons ?_ ?_ | exact In.here | refine In.there ?_)) Fp.el22 Fp.ni22 hB (hBx.bs (hH.get (b := bx) (by repeat (first | exact In.here | refine In.there ?_)))) (by simp only [List.length_append, startB_len, listB_len, List.length_take, beB_len]; omega) (by assumption) rfl ?_
    clear hS hH; intro a w bz cz kz hwz hBz hS hH
    refine r_assign hS hH.kp0 rfl rfl ?_; clear hS; intro a hS
    refine Sq.nil ?_
    refine blk_n ?_
    refine then_n ?_
    refine reg_plain w0 (Nobody) ?_
    refine r_move hS hH.kp0 rfl rfl ?_; clear hS; intro a hS
    first | refine r_add hS hH.kp0 rfl rfl rfl (by omega) ?_ | refine r_addw hS hH.kp0 rfl rfl rfl ?_
    clear hS; intro a hS
    refine r_assign hS hH.kp0 rfl rfl ?_; clear hS; intro a hS
    refine Sq.nil ?_
    refine then_n ?_
    rw [List.append_assoc, ← listB_succ hk] at hBz hS
    refine ⟨m - 1, by omega, k + 1, _, bz, cz, kz, by omega, ?_, hwz, hBz, hS.live ⟨rfl, rfl, rfl, trivial⟩, hH.sub (by repeat (first | exact Sub.nil | refine Sub.cons ?_ ?_ | exact In.here | refine In.there ?_)) (by have nd := hH.nd; simp only [List.map_cons, List.map_nil, List.nodup_cons, List.mem_cons, List.not_mem_nil, or_false] at nd ⊢; simp_all)⟩
    omega
  · have hke : k = lst.length := by have := of_decide_eq_false hc10; omega
    subst hke
    refine wp_exit ?_
    refine then_e ?_
    refine then_e ?_
    refine blk_hit ?_
    refine then_n ?_
    refine c_seq ?_
    refine reg_plain w0 (Nobody) ?_
    refine r_move hS hH.kp0 rfl rfl ?_; clear hS; intro a hS
    refine r_move hS hH.kp0 rfl rfl ?_; clear hS; intro a hS
    refine r_lenSl hS hH.kp0 rfl Fp.isSlice22 rfl ?_; clear hS; intro a hS
    refine r_assign hS hH.kp0 rfl rfl ?_; clear hS; intro a hS
    refine r_assign hS hH.kp0 rfl rfl ?_; clear hS; intro a hS
    refine r_assign hS hH.kp0 rfl rfl ?_; clear hS; intro a hS
    refine Sq.nil ?_
    refine then_n ?_
    refine wp_ret ?_
    refine blk_r ?_
    refine then_r ?_
    rw [List.take_of_length_le (Nat.le_refl _)] at hB hS
    exact leave (.inl rfl) hS rfl (Res.tmp rfl (Res.tmp rfl (Res.tmp rfl Res.nil))) ⟨_, rfl, ⟨b, cc, kk, by rw [List.append_nil]; rfl, hwb, hH.get (b := b) (by repeat (first | exact In.here | refine In.there ?_)), by rw [List.append_nil]; exact hB⟩, hH.mod⟩

end Go.Proofs.YtcenionnedgadaaDoor

namespace Go.Proofs.YtcenionnedgadaaDoor
open Go.Sym
theorem Fc.arrT : ByteArr Tryd.prog 24 16 := byteArr_mk Fc.laid (of_decide_eq_true (by kernel_rfl)) (by kernel_rfl) (by kernel_rfl) (by kernel_rfl) (by kernel_rfl) (by kernel_rfl)

theorem Fp.ag24 : agB Tryd.prog 24 = some 16 := by kernel_rfl
theorem Fp.fo26_1 : foff Tryd.prog 26 1 = some 1 := by kernel_rfl
theorem Fp.fo41_1 : foff Tryd.prog 41 1 = some 1 := by kernel_rfl
theorem Fp.isBool4 : isBool Tryd.prog 4 = true := by kernel_rfl
theorem Fp.pl41 : placesB Tryd.prog 41 = some [(0, 1), (1, 1), (2, 1), (3, 1), (4, 1), (5, 1), (6, 1), (7, 1), (8, 16)] := by kernel_rfl
theorem Fp.sz41 : sizeB Tryd.prog 41 24 = true := by kernel_rfl
theorem Fp.zc41 : zcB Tryd.prog 41 = some [.int .i64 0, .int .i64 0, .slice none 0 0, .slice none 0 0, .slice none 0 0, .int .i64 0, .bool false, .slice none 0 0, .int .u8 0, .int .u8 0, .int .u8 0, .int .u8 0, .int .u8 0, .int .u8 0, .int .u8 0, .int .u8 0, .int .u8 0, .int .u8 0, .int .u8 0, .int .u8 0, .int .u8 0, .int .u8 0, .int .u8 0, .int .u8 0] := by kernel_rfl

theorem Put_c (kd ve : Int) (q1 q2 q3 q4 : Option Addr) (c1 c2 c3 c4 : Nat) (dst src tok tag : List UInt8) (lst : List Int) (ln : Int) (ph : Bool) (htag : tag.length = 16) (n : Int) (low : Nat) (hlow : low < 18446744073709551616) (w0 : World) (WT : TypeId) (WF : Nat × Nat) (hw0 : w0.heap[0]? = some (.cells [.int .i64 6, .int .i64 14, .int .i64 30, .int .i64 62].toArray WT WF)) (hll : lst.length ≤ 1048576) (hlst : IsA w0 q4 c4 lst) (hd : Bs w0 (.slice q1 dst.length c1) dst) (hs : Bs w0 (.slice q2 src.length c2) src) (ht : Bs w0 (.slice q3 tok.length c3) tok) (hm : mayP kd dst.length src.length tok.length ln n lst.length (badN lst)) : Calls Tryd.prog 12 #[.agg ([.int .i64 kd, .int .i64 ve, .slice q1 dst.length c1, .slice q2 src.length c2, .slice q3 tok.length c3, .int .i64 ln, .bool ph, .slice q4 lst.length c4] ++ hcells tag : List Value).toArray, .int .u64 (low : Int), .int .i64 n] w0 fun e w' => ∃ r, e = .returned (.tuple #[r, .int .i64 ((hdB kd n dst src tok ln ph lst tag).length : Int), .int .i64 0]) ∧ NB w0.heap.size 5 w' r (hdB kd n dst src tok ln ph lst tag ++ tlB kd n low) ∧ Ext w0 w' := by
  have hm2 := hm
  unfold mayP at hm2
  rcases (by omega : kd = 0 ∨ kd = 1 ∨ kd = 2 ∨ kd = 3 ∨ kd = 4 ∨ kd = 5) with rfl | rfl | rfl | rfl | rfl | rfl
  · obtain ⟨n', rfl⟩ := Int.eq_ofNat_of_zero_le (show 0 ≤ n by omega)
    obtain ⟨ln', rfl⟩ := Int.eq_ofNat_of_zero_le (show 0 ≤ ln by omega)
    exact Put_0 ve q1 q2 q3 q4 c1 c2 c3 c4 dst src tok tag lst ln' ph htag n' low hlow w0 WT WF hw0 hll hlst hd hs ht hm
  · obtain ⟨n', rfl⟩ := Int.eq_ofNat_of_zero_le (show 0 ≤ n by omega)
    obtain ⟨ln', rfl⟩ := Int.eq_ofNat_of_zero_le (show 0 ≤ ln by omega)
    exact Put_1 ve q1 q2 q3 q4 c1 c2 c3 c4 dst src tok tag lst ln' ph htag n' low hlow w0 WT WF hw0 hll hlst hd hs ht hm
  · obtain ⟨n', rfl⟩ := Int.eq_ofNat_of_zero_le (show 0 ≤ n by omega)
    obtain ⟨ln', rfl⟩ := Int.eq_ofNat_of_zero_le (show 0 ≤ ln by omega)
    exact Put_2 ve q1 q2 q3 q4 c1 c2 c3 c4 dst src tok tag lst ln' ph htag n' low hlow w0 WT WF hw0 hll hlst hd hs ht hm
  · exact Put_3 ve q1 q2 q3 q4 c1 c2 c3 c4 dst src tok tag lst ln ph htag n low hlow w0 WT WF hw0 hll hlst hd hs ht hm
  · exact Put_4 ve q1 q2 q3 q4 c1 c2 c3 c4 dst src tok tag lst ln ph htag n low hlow w0 WT WF hw0 hll hlst hd hs ht hm
  · obtain ⟨n', rfl⟩ := Int.eq_ofNat_of_zero_le (show 0 ≤ n by omega)
    cases ph
    · exact Put_5f ve q1 q2 q3 q4 c1 c2 c3 c4 dst src tok tag lst ln htag n' low hlow w0 WT WF hw0 hll hlst hd hs ht hm
    · exact Put_5t ve q1 q2 q3 q4 c1 c2 c3 c4 dst src tok tag lst ln htag n' low hlow w0 WT WF hw0 hll hlst hd hs ht hm


theorem RPut_c (kd ve : Int) (q1 q2 q3 q4 : Option Addr) (c1 c2 c3 c4 : Nat) (dst src tok tag : List UInt8) (lst : List Int) (ln : Int) (ph : Bool) (htag : tag.length = 16) (n : Int) (low : Nat) (hlow : low < 18446744073709551616) (w0 : World)  (hll : lst.length ≤ 1048576) (hlst : IsA w0 q4 c4 lst) (hd : Bs w0 (.slice q1 dst.length c1) dst) (hs : Bs w0 (.slice q2 src.length c2) src) (ht : Bs w0 (.slice q3 tok.length c3) tok) (hm : mayP kd dst.length src.length tok.length ln n lst.length (badN lst)) : Calls Tryd.prog 13 #[.agg ([.int .i64 kd, .int .i64 ve, .slice q1 dst.length c1, .slice q2 src.length c2, .slice q3 tok.length c3, .int .i64 ln, .bool ph, .slice q4 lst.length c4] ++ hcells tag : List Value).toArray, .int .u64 (low : Int), .int .i64 n] w0 fun e w' => ∃ r, e = .returned (.tuple #[r, .int .i64 ((hdB kd n dst src tok ln ph lst tag).length : Int), .int .i64 0]) ∧ NB w0.heap.size 5 w' r (hdB kd n dst src tok ln ph lst tag ++ tlB kd n low) ∧ Ext w0 w' := by
  have hm2 := hm
  unfold mayP at hm2
  rcases (by omega : kd = 0 ∨ kd = 1 ∨ kd = 2 ∨ kd = 3 ∨ kd = 4 ∨ kd = 5) with rfl | rfl | rfl | rfl | rfl | rfl
  · obtain ⟨n', rfl⟩ := Int.eq_ofNat_of_zero_le (show 0 ≤ n by omega)
    obtain ⟨ln', rfl⟩ := Int.eq_ofNat_of_zero_le (show 0 ≤ ln by omega)
    exact RPut_0 ve q1 q2 q3 q4 c1 c2 c3 c4 dst src tok tag lst ln' ph htag n' low hlow w0 hll hlst hd hs ht hm
  · obtain ⟨n', rfl⟩ := Int.eq_ofNat_of_zero_le (show 0 ≤ n by omega)
    obtain ⟨ln', rfl⟩ := Int.eq_ofNat_of_zero_le (show 0 ≤ ln by omega)
    exact RPut_1 ve q1 q2 q3 q4 c1 c2 c3 c4 dst src tok tag lst ln' ph htag n' low hlow w0 hll hlst hd hs ht hm
  · obtain ⟨n', rfl⟩ := Int.eq_ofNat_of_zero_le (show 0 ≤ n by omega)
    obtain ⟨ln', rfl⟩ := Int.eq_ofNat_of_zero_le (show 0 ≤ ln by omega)
    exact RPut_2 ve q1 q2 q3 q4 c1 c2 c3 c4 dst src tok tag lst ln' ph htag n' low hlow w0 hll hlst hd hs ht hm
  · exact RPut_3 ve q1 q2 q3 q4 c1 c2 c3 c4 dst src tok tag lst ln ph htag n low hlow w0 hll hlst hd hs ht hm
  · exact RPut_4 ve q1 q2 q3 q4 c1 c2 c3 c4 dst src tok tag lst ln ph htag n low hlow w0 hll hlst hd hs ht hm
  · obtain ⟨n', rfl⟩ := Int.eq_ofNat_of_zero_le (show 0 ≤ n by omega)
    cases ph
    · exact RPut_5f ve q1 q2 q3 q4 c1 c2 c3 c4 dst src tok tag lst ln htag n' low hlow w0 hll hlst hd hs ht hm
    · exact RPut_5t ve q1 q2 q3 q4 c1 c2 c3 c4 dst src tok tag lst ln htag n' low hlow w0 hll hlst hd hs ht hm

set_option maxRecDepth 100000 in
set_option maxHeartbeats 2000000 in
theorem refs_c (kd ve : Int) (q1 q2 q3 q4 : Option Addr) (c1 c2 c3 c4 : Nat) (dst src tok tag : List UInt8) (lst : List Int) (ln : Int) (ph : Bool) (htag : tag.length = 16) (w0 : World) : Calls Tryd.prog 14 #[.agg ([.int .i64 kd, .int .i64 ve, .slice q1 dst.length c1, .slice q2 src.length c2, .slice q3 tok.length c3, .int .i64 ln, .bool ph, .slice q4 lst.length c4] ++ hcells tag : List Value).toArray] w0 fun e w' => e = .returned (.agg ([.int .i64 kd, .int .i64 ve, .slice q1 dst.length c1, .slice q2 src.length c2, .slice q3 tok.length c3, .int .i64 ln, .bool ph, .slice q4 lst.length c4] ++ hcells tag : List Value).toArray) ∧ Ext w0 w' := by
  refine enter Tryd.func14 rfl rfl rfl ?_
  intro a hS
  have hH := Hp.start w0 (Nobody)
  obtain ⟨t0, t1, t2, t3, t4, t5, t6, t7, t8, t9, ta, tb, tc, td, te, tf, rfl⟩ := len16 htag
  refine c_seq ?_
  refine reg_plain w0 (Nobody) ?_
  refine r_box hS hH (by repeat (first | exact Sub.nil | refine Sub.cons ?_ ?_ | exact In.here | refine In.there ?_)) rfl rfl rfl ?_
  clear hS hH; intro a w b1 hb1 hwb1 hS hH
  refine r_alloc hS hH (by repeat (first | exact Sub.nil | refine Sub.cons ?_ ?_ | exact In.here | refine In.there ?_)) Fp.zc41 rfl ?_
  clear hS hH; intro a w b2 hb2 hwb2 hS hH
  refine Sq.nil ?_
  refine then_n ?_
  refine c_seq ?_
  refine reg_plain w0 (Nobody) ?_
  refine r_fieldAddr hS hH.kp0 rfl Fp.fo26_0 rfl ?_; clear hS; intro a hS
  refine r_load_sc hS hH (by repeat (first | exact Sub.nil | refine Sub.cons ?_ ?_ | exact In.here | refine In.there ?_)) rfl (by repeat (first | exact In.here | refine In.there ?_)) Fp.sc3 (by rfl) rfl ?_; clear hS; intro a hS
  refine r_fieldAddr hS hH.kp0 rfl Fp.fo26_1 rfl ?_; clear hS; intro a hS
  refine r_load_sc hS hH (by repeat (first | exact Sub.nil | refine Sub.cons ?_ ?_ | exact In.here | refine In.there ?_)) rfl (by repeat (first | exact In.here | refine In.there ?_)) Fp.sc3 (by rfl) rfl ?_; clear hS; intro a hS
  refine r_fieldAddr hS hH.kp0 rfl Fp.fo26_2 rfl ?_; clear hS; intro a hS
  refine r_load_sc hS hH (by repeat (first | exact Sub.nil | refine Sub.cons ?_ ?_ | exact In.here | refine In.there ?_)) rfl (by repeat (first | exact In.here | refine In.there ?_)) Fp.sc22 (by rfl) rfl ?_; clear hS; intro a hS
  refine r_fieldAddr hS hH.kp0 rfl Fp.fo26_3 rfl ?_; clear hS; intro a hS
  refine r_load_sc hS hH (by repeat (first | exact Sub.nil | refine Sub.cons ?_ ?_ | exact In.here | refine In.there ?_)) rfl (by repeat (first | exact In.here | refine In.there ?_)) Fp.sc22 (by rfl) rfl ?_; clear hS; intro a hS
  refine r_fieldAddr hS hH.kp0 rfl Fp.fo26_4 rfl ?_; clear hS; intro a hS
  refine r_load_sc hS hH (by repeat (first | exact Sub.nil | refine Sub.cons ?_ ?_ | exact In.here | refine In.there ?_)) rfl (by repeat (first | exact In.here | refine In.there ?_)) Fp.sc22 (by rfl) rfl ?_; clear hS; intro a hS
  refine r_fieldAddr hS hH.kp0 rfl Fp.fo26_5 rfl ?_; clear hS; intro a hS
  refine r_load_sc hS hH (by repeat (first | exact Sub.nil | refine Sub.cons ?_ ?_ | exact In.here | refine In.there ?_)) rfl (by repeat (first | exact In.here | refine In.there ?_)) Fp.sc3 (by rfl) rfl ?_; clear hS; intro a hS
  refine r_fieldAddr hS hH.kp0 rfl Fp.fo26_6 rfl ?_; clear hS; intro a hS
  refine r_load_sc hS hH (by repeat (first | exact Sub.nil | refine Sub.cons ?_ ?_ | exact In.here | refine In.there ?_)) rfl (by repeat (first | exact In.here | refine In.there ?_)) Fp.sc4 (by rfl) rfl ?_; clear hS; intro a hS
  refine r_fieldAddr hS hH.kp0 rfl Fp.fo26_7 rfl ?_; clear hS; intro a hS
  refine r_load_sc hS hH (by repeat (first | exact Sub.nil | refine Sub.cons ?_ ?_ | exact In.here | refine In.there ?_)) rfl (by repeat (first | exact In.here | refine In.there ?_)) Fp.sc23 (by rfl) rfl ?_; clear hS; intro a hS
  refine r_fieldAddr hS hH.kp0 rfl Fp.fo26_8 rfl ?_; clear hS; intro a hS
  refine r_load_ag hS hH (by repeat (first | exact Sub.nil | refine Sub.cons ?_ ?_ | exact In.here | refine In.there ?_)) rfl (by repeat (first | exact In.here | refine In.there ?_)) Fp.ag24 (of_decide_eq_true rfl) rfl ?_; clear hS; intro a hS
  refine r_buildS (parts := [(0, .tmp 4), (1, .tmp 6), (2, .tmp 8), (3, .tmp 10), (4, .tmp 12), (5, .tmp 14), (6, .tmp 16), (7, .tmp 18), (8, .tmp 20)]) hS hH.kp0 rfl rfl Fp.zc41 Fp.pl41 (by rfl) ?_; clear hS; intro a hS
  refine r_store_row hS hH rfl rfl (by first | exact .here | exact .there .here | exact .there (.there .here) | exact .there (.there (.there .here)) | exact .there (.there (.there (.there .here))) | exact .there (.there (.there (.there (.there .here)))) | exact .there (.there (.there (.there (.there (.there .here))))) | exact .there (.there (.there (.there (.there (.there (.there .here)))))) | exact .there (.there (.there (.there (.there (.there (.there (.there .here))))))) | exact .there (.there (.there (.there (.there (.there (.there (.there (.there .here)))))))) | exact .there (.there (.there (.there (.there (.there (.there (.there (.there (.there .here))))))))) | exact .there (.there (.there (.there (.there (.there (.there (.there (.there (.there (.there .here)))))))))) | exact .there (.there (.there (.there (.there (.there (.there (.there (.there (.there (.there (.there .here))))))))))) | exact .there (.there (.there (.there (.there (.there (.there (.there (.there (.there (.there (.there (.there .here)))))))))))) | exact .there (.there (.there (.there (.there (.there (.there (.there (.there (.there (.there (.there (.there (.there .here))))))))))))) | exact .there (.there (.there (.there (.there (.there (.there (.there (.there (.there (.there (.there (.there (.there (.there .here))))))))))))))) (by repeat (first | exact Sub.nil | refine Sub.cons ?_ ?_ | exact In.here | refine In.there ?_)) Fp.sz41 (by first | exact hcells_one _ | exact of_decide_eq_true rfl) (by rfl) (by first | exact .inr (by assumption) | exact .inl (by first | assumption | rfl)) ?_
  clear hH; intro w hH
  refine Sq.nil ?_
  refine then_n ?_
  refine wp_ret ?_
  exact leave (.inl rfl) hS rfl (Res.cell rfl (hH.get (by repeat (first | exact In.here | refine In.there ?_))) Fp.ag41 (by rfl) rfl Res.nil) ⟨rfl, hH.mod⟩

set_option maxRecDepth 100000 in
set_option maxHeartbeats 400000 in
theorem names_c (w0 : World) : Calls Tryd.prog 16 #[] w0 fun e w' => e = .returned (.bool true) ∧ Ext w0 w' := by
  refine enter Tryd.func16 rfl rfl rfl ?_
  intro a hS
  have hH := Hp.start w0 (Nobody)
  refine c_seq ?_
  refine reg_plain w0 (Nobody) ?_
  refine r_assign hS hH.kp0 rfl rfl ?_; clear hS; intro a hS
  refine Sq.nil ?_
  refine then_n ?_
  refine c_seq ?_
  refine reg_plain w0 (Nobody) ?_
  refine r_assign hS hH.kp0 rfl rfl ?_; clear hS; intro a hS
  refine Sq.nil ?_
  refine then_n ?_
  refine wp_ret ?_
  exact leave (.inl rfl) hS rfl (Res.tmp rfl Res.nil) ⟨rfl, hH.mod⟩

set_option maxRecDepth 100000 in
set_option maxHeartbeats 4000000 in
theorem same_c (kd ve : Int) (p1 p2 p3 q1 q2 q3 q4 : Option Addr) (d1 d2 d3 c1 c2 c3 c4 : Nat) (dst src tok tag : List UInt8) (lst : List Int) (ln : Int) (ph : Bool) (htag : tag.length = 16) (w0 : World) (hll : lst.length ≤ 1048576) (hlst : IsA w0 q4 c4 lst) (hd : Bs w0 (.slice p1 dst.length d1) dst) (hd2 : Bs w0 (.slice q1 dst.length c1) dst) (hs : Bs w0 (.slice p2 src.length d2) src) (hs2 : Bs w0 (.slice q2 src.length c2) src) (ht : Bs w0 (.slice p3 tok.length d3) tok) (ht2 : Bs w0 (.slice q3 tok.length c3) tok) : Calls Tryd.prog 15 #[.agg ([.int .i64 kd, .int .i64 ve, .slice p1 dst.length d1, .slice p2 src.length d2, .slice p3 tok.length d3, .int .i64 ln, .bool ph, .slice q4 lst.length c4] ++ hcells tag : List Value).toArray, .agg ([.int .i64 kd, .int .i64 ve, .slice q1 dst.length c1, .slice q2 src.length c2, .slice q3 tok.length c3, .int .i64 ln, .bool ph, .slice q4 lst.length c4] ++ hcells tag : List Value).toArray] w0 fun e w' => e = .returned (.bool true) ∧ Ext w0 w' := by
  refine enter Tryd.func15 rfl rfl rfl ?_
  intro a hS
  have hH := Hp.start w0 (Nobody)
  obtain ⟨t0, t1, t2, t3, t4, t5, t6, t7, t8, t9, ta, tb, tc, td, te, tf, rfl⟩ := len16 htag
  refine c_seq ?_
  refine reg_plain w0 (Nobody) ?_
  refine r_box hS hH (by repeat (first | exact Sub.nil | refine Sub.cons ?_ ?_ | exact In.here | refine In.there ?_)) rfl rfl rfl ?_
  clear hS hH; intro a w b2 hb2 hwb2 hS hH
  refine r_box hS hH (by repeat (first | exact Sub.nil | refine Sub.cons ?_ ?_ | exact In.here | refine In.there ?_)) rfl rfl rfl ?_
  clear hS hH; intro a w b3 hb3 hwb3 hS hH
  refine r_assign hS hH.kp0 rfl rfl ?_; clear hS; intro a hS
  refine Sq.nil ?_
  refine then_n ?_
  refine c_seq ?_
  refine c_seq ?_
  refine reg_plain w0 (Nobody) ?_
  refine r_fieldAddr hS hH.kp0 rfl Fp.fo26_0 rfl ?_; clear hS; intro a hS
  refine r_load_sc hS hH (by repeat (first | exact Sub.nil | refine Sub.cons ?_ ?_ | exact In.here | refine In.there ?_)) rfl (by repeat (first | exact In.here | refine In.there ?_)) Fp.sc3 (by rfl) rfl ?_; clear hS; intro a hS
  refine r_fieldAddr hS hH.kp0 rfl Fp.fo41_0 rfl ?_; clear hS; intro a hS
  refine r_load_sc hS hH (by repeat (first | exact Sub.nil | refine Sub.cons ?_ ?_ | exact In.here | refine In.there ?_)) rfl (by repeat (first | exact In.here | refine In.there ?_)) Fp.sc3 (by rfl) rfl ?_; clear hS; intro a hS
  refine r_neq hS hH.kp0 rfl rfl rfl ?_; clear hS; intro a hS
  refine r_move hS hH.kp0 rfl rfl ?_; clear hS; intro a hS
  refine Sq.guardYes hS rfl rfl (by first | exact bne_eq_false_iff_eq.2 rfl | (simp; done)) ?_
  refine r_fieldAddr hS hH.kp0 rfl Fp.fo26_1 rfl ?_; clear hS; intro a hS
  refine Sq.guardYes hS rfl rfl (by first | exact bne_eq_false_iff_eq.2 rfl | (simp; done)) ?_
  refine r_load_sc hS hH (by repeat (first | exact Sub.nil | refine Sub.cons ?_ ?_ | exact In.here | refine In.there ?_)) rfl (by repeat (first | exact In.here | refine In.there ?_)) Fp.sc3 (by rfl) rfl ?_; clear hS; intro a hS
  refine Sq.guardYes hS rfl rfl (by first | exact bne_eq_false_iff_eq.2 rfl | (simp; done)) ?_
  refine r_fieldAddr hS hH.kp0 rfl Fp.fo41_1 rfl ?_; clear hS; intro a hS
  refine Sq.guardYes hS rfl rfl (by first | exact bne_eq_false_iff_eq.2 rfl | (simp; done)) ?_
  refine r_load_sc hS hH (by repeat (first | exact Sub.nil | refine Sub.cons ?_ ?_ | exact In.here | refine In.there ?_)) rfl (by repeat (first | exact In.here | refine In.there ?_)) Fp.sc3 (by rfl) rfl ?_; clear hS; intro a hS
  refine Sq.guardYes hS rfl rfl (by first | exact bne_eq_false_iff_eq.2 rfl | (simp; done)) ?_
  refine r_neq hS hH.kp0 rfl rfl rfl ?_; clear hS; intro a hS
  refine r_pickF hS hH.kp0 rfl (by first | exact bne_eq_false_iff_eq.2 rfl | (simp; done)) rfl rfl ?_; clear hS; intro a hS
  refine r_move hS hH.kp0 rfl rfl ?_; clear hS; intro a hS
  refine Sq.guardYes hS rfl rfl (by first | exact bne_eq_false_iff_eq.2 rfl | (simp; done)) ?_
  refine r_fieldAddr hS hH.kp0 rfl Fp.fo26_2 rfl ?_; clear hS; intro a hS
  refine Sq.guardYes hS rfl rfl (by first | exact bne_eq_false_iff_eq.2 rfl | (simp; done)) ?_
  refine r_load_sc hS hH (by repeat (first | exact Sub.nil | refine Sub.cons ?_ ?_ | exact In.here | refine In.there ?_)) rfl (by repeat (first | exact In.here | refine In.there ?_)) Fp.sc22 (by rfl) rfl ?_; clear hS; intro a hS
  refine Sq.guardYes hS rfl rfl (by first | exact bne_eq_false_iff_eq.2 rfl | (simp; done)) ?_
  refine r_bytesStr (l := dst) hS hH.kp0 rfl (hd.ext hH.mod) Fp.u8s22 Fp.isStr9 rfl ?_; clear hS; intro a hS
  refine Sq.guardYes hS rfl rfl (by first | exact bne_eq_false_iff_eq.2 rfl | (simp; done)) ?_
  refine r_fieldAddr hS hH.kp0 rfl Fp.fo41_2 rfl ?_; clear hS; intro a hS
  refine Sq.guardYes hS rfl rfl (by first | exact bne_eq_false_iff_eq.2 rfl | (simp; done)) ?_
  refine r_load_sc hS hH (by repeat (first | exact Sub.nil | refine Sub.cons ?_ ?_ | exact In.here | refine In.there ?_)) rfl (by repeat (first | exact In.here | refine In.there ?_)) Fp.sc22 (by rfl) rfl ?_; clear hS; intro a hS
  refine Sq.guardYes hS rfl rfl (by first | exact bne_eq_false_iff_eq.2 rfl | (simp; done)) ?_
  refine r_bytesStr (l := dst) hS hH.kp0 rfl (hd2.ext hH.mod) Fp.u8s22 Fp.isStr9 rfl ?_; clear hS; intro a hS
  refine Sq.guardYes hS rfl rfl (by first | exact bne_eq_false_iff_eq.2 rfl | (simp; done)) ?_
  refine r_strNeq hS hH.kp0 rfl rfl rfl ?_; clear hS; intro a hS
  refine r_pickF hS hH.kp0 rfl (by first | exact bne_eq_false_iff_eq.2 rfl | (simp; done)) rfl rfl ?_; clear hS; intro a hS
  refine r_move hS hH.kp0 rfl rfl ?_; clear hS; intro a hS
  refine Sq.guardYes hS rfl rfl (by first | exact bne_eq_false_iff_eq.2 rfl | (simp; done)) ?_
  refine r_fieldAddr hS hH.kp0 rfl Fp.fo26_3 rfl ?_; clear hS; intro a hS
  refine Sq.guardYes hS rfl rfl (by first | exact bne_eq_false_iff_eq.2 rfl | (simp; done)) ?_
  refine r_load_sc hS hH (by repeat (first | exact Sub.nil | refine Sub.cons ?_ ?_ | exact In.here | refine In.there ?_)) rfl (by repeat (first | exact In.here | refine In.there ?_)) Fp.sc22 (by rfl) rfl ?_; clear hS; intro a hS
  refine Sq.guardYes hS rfl rfl (by first | exact bne_eq_false_iff_eq.2 rfl | (simp; done)) ?_
  refine r_bytesStr (l := src) hS hH.kp0 rfl (hs.ext hH.mod) Fp.u8s22 Fp.isStr9 rfl ?_; clear hS; intro a hS
  refine Sq.guardYes hS rfl rfl (by first | exact bne_eq_false_iff_eq.2 rfl | (simp; done)) ?_
  refine r_fieldAddr hS hH.kp0 rfl Fp.fo41_3 rfl ?_; clear hS; intro a hS
  refine Sq.guardYes hS rfl rfl (by first | exact bne_eq_false_iff_eq.2 rfl | (simp; done)) ?_
  refine r_load_sc hS hH (by repeat (first | exact Sub.nil | refine Sub.cons ?_ ?_ | exact In.here | refine In.there ?_)) rfl (by repeat (first | exact In.here | refine In.there ?_)) Fp.sc22 (by rfl) rfl ?_; clear hS; intro a hS
  refine Sq.guardYes hS rfl rfl (by first | exact bne_eq_false_iff_eq.2 rfl | (simp; done)) ?_
  refine r_bytesStr (l := src) hS hH.kp0 rfl (hs2.ext hH.mod) Fp.u8s22 Fp.isStr9 rfl ?_; clear hS; intro a hS
  refine Sq.guardYes hS rfl rfl (by first | exact bne_eq_false_iff_eq.2 rfl | (simp; done)) ?_
  refine r_strNeq hS hH.kp0 rfl rfl rfl ?_; clear hS; intro a hS
  refine r_pickF hS hH.kp0 rfl (by first | exact bne_eq_false_iff_eq.2 rfl | (simp; done)) rfl rfl ?_; clear hS; intro a hS
  refine r_move hS hH.kp0 rfl rfl ?_; clear hS; intro a hS
  refine Sq.guardYes hS rfl rfl (by first | exact bne_eq_false_iff_eq.2 rfl | (simp; done)) ?_
  refine r_fieldAddr hS hH.kp0 rfl Fp.fo26_4 rfl ?_; clear hS; intro a hS
  refine Sq.guardYes hS rfl rfl (by first | exact bne_eq_false_iff_eq.2 rfl | (simp; done)) ?_
  refine r_load_sc hS hH (by repeat (first | exact Sub.nil | refine Sub.cons ?_ ?_ | exact In.here | refine In.there ?_)) rfl (by repeat (first | exact In.here | refine In.there ?_)) Fp.sc22 (by rfl) rfl ?_; clear hS; intro a hS
  refine Sq.guardYes hS rfl rfl (by first | exact bne_eq_false_iff_eq.2 rfl | (simp; done)) ?_
  refine r_bytesStr (l := tok) hS hH.kp0 rfl (ht.ext hH.mod) Fp.u8s22 Fp.isStr9 rfl ?_; clear hS; intro a hS
  refine Sq.guardYes hS rfl rfl (by first | exact bne_eq_false_iff_eq.2 rfl | (simp; done)) ?_
  refine r_fieldAddr hS hH.kp0 rfl Fp.fo41_4 rfl ?_; clear hS; intro a hS
  refine Sq.guardYes hS rfl rfl (by first | exact bne_eq_false_iff_eq.2 rfl | (simp; done)) ?_
  refine r_load_sc hS hH (by repeat (first | exact Sub.nil | refine Sub.cons ?_ ?_ | exact In.here | refine In.there ?_)) rfl (by repeat (first | exact In.here | refine In.there ?_)) Fp.sc22 (by rfl) rfl ?_; clear hS; intro a hS
  refine Sq.guardYes hS rfl rfl (by first | exact bne_eq_false_iff_eq.2 rfl | (simp; done)) ?_
  refine r_bytesStr (l := tok) hS hH.kp0 rfl (ht2.ext hH.mod) Fp.u8s22 Fp.isStr9 rfl ?_; clear hS; intro a hS
  refine Sq.guardYes hS rfl rfl (by first | exact bne_eq_false_iff_eq.2 rfl | (simp; done)) ?_
  refine r_strNeq hS hH.kp0 rfl rfl rfl ?_; clear hS; intro a hS
  refine r_pickF hS hH.kp0 rfl (by first | exact bne_eq_false_iff_eq.2 rfl | (simp; done)) rfl rfl ?_; clear hS; intro a hS
  refine r_move hS hH.kp0 rfl rfl ?_; clear hS; intro a hS
  refine Sq.guardYes hS rfl rfl (by first | exact bne_eq_false_iff_eq.2 rfl | (simp; done)) ?_
  refine r_fieldAddr hS hH.kp0 rfl Fp.fo26_5 rfl ?_; clear hS; intro a hS
  refine Sq.guardYes hS rfl rfl (by first | exact bne_eq_false_iff_eq.2 rfl | (simp; done)) ?_
  refine r_load_sc hS hH (by repeat (first | exact Sub.nil | refine Sub.cons ?_ ?_ | exact In.here | refine In.there ?_)) rfl (by repeat (first | exact In.here | refine In.there ?_)) Fp.sc3 (by rfl) rfl ?_; clear hS; intro a hS
  refine Sq.guardYes hS rfl rfl (by first | exact bne_eq_false_iff_eq.2 rfl | (simp; done)) ?_
  refine r_fieldAddr hS hH.kp0 rfl Fp.fo41_5 rfl ?_; clear hS; intro a hS
  refine Sq.guardYes hS rfl rfl (by first | exact bne_eq_false_iff_eq.2 rfl | (simp; done)) ?_
  refine r_load_sc hS hH (by repeat (first | exact Sub.nil | refine Sub.cons ?_ ?_ | exact In.here | refine In.there ?_)) rfl (by repeat (first | exact In.here | refine In.there ?_)) Fp.sc3 (by rfl) rfl ?_; clear hS; intro a hS
  refine Sq.guardYes hS rfl rfl (by first | exact bne_eq_false_iff_eq.2 rfl | (simp; done)) ?_
  refine r_neq hS hH.kp0 rfl rfl rfl ?_; clear hS; intro a hS
  refine r_pickF hS hH.kp0 rfl (by first | exact bne_eq_false_iff_eq.2 rfl | (simp; done)) rfl rfl ?_; clear hS; intro a hS
  refine r_move hS hH.kp0 rfl rfl ?_; clear hS; intro a hS
  refine Sq.guardYes hS rfl rfl (by first | exact bne_eq_false_iff_eq.2 rfl | (simp; done)) ?_
  refine r_fieldAddr hS hH.kp0 rfl Fp.fo26_6 rfl ?_; clear hS; intro a hS
  refine Sq.guardYes hS rfl rfl (by first | exact bne_eq_false_iff_eq.2 rfl | (simp; done)) ?_
  refine r_load_sc hS hH (by repeat (first | exact Sub.nil | refine Sub.cons ?_ ?_ | exact In.here | refine In.there ?_)) rfl (by repeat (first | exact In.here | refine In.there ?_)) Fp.sc4 (by rfl) rfl ?_; clear hS; intro a hS
  refine Sq.guardYes hS rfl rfl (by first | exact bne_eq_false_iff_eq.2 rfl | (simp; done)) ?_
  refine r_fieldAddr hS hH.kp0 rfl Fp.fo41_6 rfl ?_; clear hS; intro a hS
  refine Sq.guardYes hS rfl rfl (by first | exact bne_eq_false_iff_eq.2 rfl | (simp; done)) ?_
  refine r_load_sc hS hH (by repeat (first | exact Sub.nil | refine Sub.cons ?_ ?_ | exact In.here | refine In.there ?_)) rfl (by repeat (first | exact In.here | refine In.there ?_)) Fp.sc4 (by rfl) rfl ?_; clear hS; intro a hS
  refine Sq.guardYes hS rfl rfl (by first | exact bne_eq_false_iff_eq.2 rfl | (simp; done)) ?_
  refine r_boolNeq hS hH.kp0 rfl rfl Fp.isBool4 rfl ?_; clear hS; intro a hS
  refine r_pickF hS hH.kp0 rfl (by first | exact bne_eq_false_iff_eq.2 rfl | (simp; done)) rfl rfl ?_; clear hS; intro a hS
  refine r_move hS hH.kp0 rfl rfl ?_; clear hS; intro a hS
  refine Sq.guardYes hS rfl rfl (by first | exact bne_eq_false_iff_eq.2 rfl | (simp; done)) ?_
  refine r_fieldAddr hS hH.kp0 rfl Fp.fo26_7 rfl ?_; clear hS; intro a hS
  refine Sq.guardYes hS rfl rfl (by first | exact bne_eq_false_iff_eq.2 rfl | (simp; done)) ?_
  refine r_load_sc hS hH (by repeat (first | exact Sub.nil | refine Sub.cons ?_ ?_ | exact In.here | refine In.there ?_)) rfl (by repeat (first | exact In.here | refine In.there ?_)) Fp.sc23 (by rfl) rfl ?_; clear hS; intro a hS
  refine Sq.guardYes hS rfl rfl (by first | exact bne_eq_false_iff_eq.2 rfl | (simp; done)) ?_
  refine r_lenSl hS hH.kp0 rfl Fp.isSlice23 rfl ?_; clear hS; intro a hS
  refine Sq.guardYes hS rfl rfl (by first | exact bne_eq_false_iff_eq.2 rfl | (simp; done)) ?_
  refine r_fieldAddr hS hH.kp0 rfl Fp.fo41_7 rfl ?_; clear hS; intro a hS
  refine Sq.guardYes hS rfl rfl (by first | exact bne_eq_false_iff_eq.2 rfl | (simp; done)) ?_
  refine r_load_sc hS hH (by repeat (first | exact Sub.nil | refine Sub.cons ?_ ?_ | exact In.here | refine In.there ?_)) rfl (by repeat (first | exact In.here | refine In.there ?_)) Fp.sc23 (by rfl) rfl ?_; clear hS; intro a hS
  refine Sq.guardYes hS rfl rfl (by first | exact bne_eq_false_iff_eq.2 rfl | (simp; done)) ?_
  refine r_lenSl hS hH.kp0 rfl Fp.isSlice23 rfl ?_; clear hS; intro a hS
  refine Sq.guardYes hS rfl rfl (by first | exact bne_eq_false_iff_eq.2 rfl | (simp; done)) ?_
  refine r_neq hS hH.kp0 rfl rfl rfl ?_; clear hS; intro a hS
  refine r_pickF hS hH.kp0 rfl (by first | exact bne_eq_false_iff_eq.2 rfl | (simp; done)) rfl rfl ?_; clear hS; intro a hS
  refine r_move hS hH.kp0 rfl rfl ?_; clear hS; intro a hS
  refine Sq.guardYes hS rfl rfl (by first | exact bne_eq_false_iff_eq.2 rfl | (simp; done)) ?_
  refine r_fieldAddr hS hH.kp0 rfl Fp.fo26_8 rfl ?_; clear hS; intro a hS
  refine Sq.guardYes hS rfl rfl (by first | exact bne_eq_false_iff_eq.2 rfl | (simp; done)) ?_
  refine r_load_ag hS hH (by repeat (first | exact Sub.nil | refine Sub.cons ?_ ?_ | exact In.here | refine In.there ?_)) rfl (by repeat (first | exact In.here | refine In.there ?_)) Fp.ag24 (of_decide_eq_true rfl) rfl ?_; clear hS; intro a hS
  refine Sq.guardYes hS rfl rfl (by first | exact bne_eq_false_iff_eq.2 rfl | (simp; done)) ?_
  refine r_fieldAddr hS hH.kp0 rfl Fp.fo41_8 rfl ?_; clear hS; intro a hS
  refine Sq.guardYes hS rfl rfl (by first | exact bne_eq_false_iff_eq.2 rfl | (simp; done)) ?_
  refine r_load_ag hS hH (by repeat (first | exact Sub.nil | refine Sub.cons ?_ ?_ | exact In.here | refine In.there ?_)) rfl (by repeat (first | exact In.here | refine In.there ?_)) Fp.ag24 (of_decide_eq_true rfl) rfl ?_; clear hS; intro a hS
  refine Sq.guardYes hS rfl rfl (by first | exact bne_eq_false_iff_eq.2 rfl | (simp; done)) ?_
  refine r_arrNeq (h := [t0, t1, t2, t3, t4, t5, t6, t7, t8, t9, ta, tb, tc, td, te, tf]) (g := [t0, t1, t2, t3, t4, t5, t6, t7, t8, t9, ta, tb, tc, td, te, tf]) Fc.arrT hS hH.kp0 rfl rfl rfl rfl rfl ?_; clear hS; intro a hS
  refine r_pickF hS hH.kp0 rfl (by first | exact bne_eq_false_iff_eq.2 rfl | (simp; done)) rfl rfl ?_; clear hS; intro a hS
  refine Sq.nil ?_
  refine then_n ?_
  refine c_condF hS rfl (by first | exact bne_eq_false_iff_eq.2 rfl | (simp; done)) ?_
  refine wp_skip ?_
  refine then_n ?_
  refine c_seq ?_
  refine c_seq ?_
  refine reg_plain w0 (Nobody) ?_
  refine r_assign hS hH.kp0 rfl rfl ?_; clear hS; intro a hS
  refine Sq.nil ?_
  refine then_n ?_
  refine wp_block ?_
  refine c_loop (fun m a w => ∃ (k : Nat) (i : Int), m + k = lst.length ∧ i = k ∧ St 93 (lv [(2, .pointer (some ⟨b2, 0, none⟩)), (3, .pointer (some ⟨b3, 0, none⟩)), (5, .int .i64 i)]) a ∧ Hp w0 Nobody [(b3, .cells ([.int .i64 kd, .int .i64 ve, .slice q1 dst.length c1, .slice q2 src.length c2, .slice q3 tok.length c3, .int .i64 ln, .bool ph, .slice q4 lst.length c4] ++ hcells [t0, t1, t2, t3, t4, t5, t6, t7, t8, t9, ta, tb, tc, td, te, tf] : List Value).toArray 41 (0, 0)), (b2, .cells ([.int .i64 kd, .int .i64 ve, .slice p1 dst.length d1, .slice p2 src.length d2, .slice p3 tok.length d3, .int .i64 ln, .bool ph, .slice q4 lst.length c4] ++ hcells [t0, t1, t2, t3, t4, t5, t6, t7, t8, t9, ta, tb, tc, td, te, tf] : List Value).toArray 26 (0, 0))] w) (lst.length) ?_ ?_
  · exact ⟨0, _, by omega, rfl, hS.live ⟨rfl, rfl, rfl, trivial⟩, hH⟩
  clear hS hH; intro m a w hI; obtain ⟨k, i, hmk, hi, hS, hH⟩ := hI
  refine c_seq ?_
  refine c_seq ?_
  refine reg_plain w0 (Nobody) ?_
  refine r_move hS hH.kp0 rfl rfl ?_; clear hS; intro a hS
  refine r_fieldAddr hS hH.kp0 rfl Fp.fo26_7 rfl ?_; clear hS; intro a hS
  refine r_load_sc hS hH (by repeat (first | exact Sub.nil | refine Sub.cons ?_ ?_ | exact In.here | refine In.there ?_)) rfl (by repeat (first | exact In.here | refine In.there ?_)) Fp.sc23 (by rfl) rfl ?_; clear hS; intro a hS
  refine r_lenSl hS hH.kp0 rfl Fp.isSlice23 rfl ?_; clear hS; intro a hS
  refine r_lss hS hH.kp0 rfl rfl rfl ?_; clear hS; intro a hS
  refine Sq.nil ?_
  refine then_n ?_
  refine c_cond hS rfl (fun hc1 => ?_) (fun hc1 => ?_)
  · have hk : k < lst.length := by have := of_decide_eq_true hc1; omega
    obtain ⟨ba, bo, hp, hcell⟩ := (hlst.ext hH.mod).cell hk
    subst hp
    refine wp_skip ?_
    refine then_n ?_
    refine c_seq ?_
    refine wp_block ?_
    refine c_seq ?_
    refine reg_draw [(true, 0, []), (true, 1, []), (true, 2, []), (true, 3, []), (true, 4, []), (true, 5, []), (true, 6, []), (true, 7, []), (true, 8, []), (true, 9, []), (true, 10, [])] Fc.mixed (by kernel_rfl) (by kernel_rfl) (by kernel_rfl) (by kernel_rfl) (by kernel_rfl) (by repeat (first | with_reducible exact steady_body | with_reducible apply steady_block | with_reducible apply steady_then | with_reducible apply steady_scope | exact steady_body)) hH ?_
    replace hH := hH.drew
    refine r_fieldAddr hS trivial rfl Fp.fo26_7 rfl ?_; clear hS; intro a hS
    refine r_load_scS hS rfl (by repeat (first | exact In.here | refine In.there ?_)) Fp.sc23 (by rfl) rfl ?_; clear hS; intro a hS
    refine r_move hS trivial rfl rfl ?_; clear hS; intro a hS
    refine r_indexAddrS (j := k) hS trivial rfl rfl Fp.slb23 hi hk rfl ?_; clear hS; intro a hS
    refine r_load_cellS hS rfl (fun w1 hk1 => by obtain ⟨b', o', h1, h2⟩ := (hlst.ext hk1.2).cell hk; cases h1; exact h2) Fp.sc3 rfl ?_; clear hS; intro a hS
    refine r_fieldAddr hS trivial rfl Fp.fo41_7 rfl ?_; clear hS; intro a hS
    refine r_load_scS hS rfl (by repeat (first | exact In.here | refine In.there ?_)) Fp.sc23 (by rfl) rfl ?_; clear hS; intro a hS
    refine r_move hS trivial rfl rfl ?_; clear hS; intro a hS
    refine r_indexAddrS (j := k) hS trivial rfl rfl Fp.slb23 hi hk rfl ?_; clear hS; intro a hS
    refine r_load_cellS hS rfl (fun w1 hk1 => by obtain ⟨b', o', h1, h2⟩ := (hlst.ext hk1.2).cell hk; cases h1; exact h2) Fp.sc3 rfl ?_; clear hS; intro a hS
    refine r_neq hS trivial rfl rfl rfl ?_; clear hS; intro a hS
    refine Sq.nil ?_
    refine then_n ?_
    refine c_condF hS rfl (by first | exact bne_eq_false_iff_eq.2 rfl | (simp; done)) ?_
    refine wp_skip ?_
    refine blk_n ?_
    refine then_n ?_
    refine reg_plain w0 (Nobody) ?_
    refine r_move hS hH.kp0 rfl rfl ?_; clear hS; intro a hS
    first | refine r_add hS hH.kp0 rfl rfl rfl (by omega) ?_ | refine r_addw hS hH.kp0 rfl rfl rfl ?_
    clear hS; intro a hS
    refine r_assign hS hH.kp0 rfl rfl ?_; clear hS; intro a hS
    refine Sq.nil ?_
    refine then_n ?_
    refine ⟨m - 1, by omega, k + 1, _, by omega, ?_, hS.live ⟨rfl, rfl, rfl, trivial⟩, hH⟩
    omega
  · have hke : k = lst.length := by have := of_decide_eq_false hc1; omega
    refine wp_exit ?_
    refine then_e ?_
    refine then_e ?_
    refine blk_hit ?_
    refine then_n ?_
    refine c_seq ?_
    refine reg_plain w0 (Nobody) ?_
    refine r_assign hS hH.kp0 rfl rfl ?_; clear hS; intro a hS
    refine Sq.nil ?_
    refine then_n ?_
    refine wp_ret ?_
    exact leave (.inl rfl) hS rfl (Res.tmp rfl Res.nil) ⟨rfl, hH.mod⟩

end Go.Proofs.YtcenionnedgadaaDoor
