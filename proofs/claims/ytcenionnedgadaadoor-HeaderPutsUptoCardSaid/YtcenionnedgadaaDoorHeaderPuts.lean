/- HeaderPuts: any header has the bytes that the document says, or is refused. Conditions: those of the given row (arguments of at most 1048576 values and letters; the listed variables hold what the text lays). Part HeaderPuts: walks and lemmas of the proof. -/
import Derived.Test.YtcenionnedgadaaDoorPuts3
import Derived.Test.YtcenionnedgadaaDoorSymRow3
namespace Go.Proofs.YtcenionnedgadaaDoor
open Go.Sym

theorem Fp.fn11 : isFn Tryd.prog 11 = true := by kernel_rfl
theorem Fp.fn12 : isFn Tryd.prog 12 = true := by kernel_rfl
theorem Fp.fn13 : isFn Tryd.prog 13 = true := by kernel_rfl
theorem Fp.fn14 : isFn Tryd.prog 14 = true := by kernel_rfl
theorem Fp.fn15 : isFn Tryd.prog 15 = true := by kernel_rfl
theorem Fp.fn16 : isFn Tryd.prog 16 = true := by kernel_rfl
theorem Fp.sz22 : sizeB Tryd.prog 22 1 = true := by kernel_rfl
theorem Fp.sz26 : sizeB Tryd.prog 26 24 = true := by kernel_rfl
theorem Fp.zc26 : zcB Tryd.prog 26 = some [.int .i64 0, .int .i64 0, .slice none 0 0, .slice none 0 0, .slice none 0 0, .int .i64 0, .bool false, .slice none 0 0, .int .u8 0, .int .u8 0, .int .u8 0, .int .u8 0, .int .u8 0, .int .u8 0, .int .u8 0, .int .u8 0, .int .u8 0, .int .u8 0, .int .u8 0, .int .u8 0, .int .u8 0, .int .u8 0, .int .u8 0, .int .u8 0] := by kernel_rfl
set_option maxRecDepth 100000 in
set_option maxHeartbeats 6000000 in
theorem puts_ok (kd ve : Int) (q1 q2 q3 q4 : Option Addr) (c1 c2 c3 c4 : Nat) (dst src tok tag : List UInt8) (lst : List Int) (ln : Int) (ph : Bool) (htag : tag.length = 16) (n : Int) (low : Nat) (hlow : low < 18446744073709551616) (w0 : World) (WT : TypeId) (WF : Nat × Nat) (hw0 : w0.heap[0]? = some (.cells [.int .i64 6, .int .i64 14, .int .i64 30, .int .i64 62].toArray WT WF)) (hll : lst.length ≤ 1048576) (hbd : dst.length ≤ 1048576 ∧ src.length ≤ 1048576 ∧ tok.length ≤ 1048576) (hlst : IsA w0 q4 c4 lst) (hd : Bs w0 (.slice q1 dst.length c1) dst) (hs : Bs w0 (.slice q2 src.length c2) src) (ht : Bs w0 (.slice q3 tok.length c3) tok) (hm : mayP kd dst.length src.length tok.length ln n lst.length (badN lst)) : Calls Tryd.prog 6 #[.agg ([.int .i64 kd, .int .i64 ve, .slice q1 dst.length c1, .slice q2 src.length c2, .slice q3 tok.length c3, .int .i64 ln, .bool ph, .slice q4 lst.length c4] ++ hcells tag : List Value).toArray, .int .u64 (low : Int), .int .i64 n] w0 fun e w' => e = .returned (.bool true) ∧ Ext w0 w' := by
  refine enter Tryd.func6 rfl rfl rfl ?_
  intro a hS
  have hH := Hp.start w0 (Nobody)
  obtain ⟨t0, t1, t2, t3, t4, t5, t6, t7, t8, t9, ta, tb, tc, td, te, tf, rfl⟩ := len16 htag
  replace hH := hH.know hw0 (fun p hp => by simp at hp)
  have hxl := hdB_len (low := low) (ph := ph) hm hll htag
  refine c_seq ?_
  refine reg_plain w0 (Nobody) ?_
  refine r_box hS hH (by repeat (first | exact Sub.nil | refine Sub.cons ?_ ?_ | exact In.here | refine In.there ?_)) rfl rfl rfl ?_
  clear hS hH; intro a w b3 hb3 hwb3 hS hH
  refine r_assign hS hH.kp0 rfl rfl ?_; clear hS; intro a hS
  refine Sq.nil ?_
  refine then_n ?_
  refine c_seq ?_
  refine reg_plain w0 (Nobody) ?_
  refine r_load_row hS hH (by repeat (first | exact Sub.nil | refine Sub.cons ?_ ?_ | exact In.here | refine In.there ?_)) rfl (by repeat (first | exact In.here | refine In.there ?_)) Fp.ag26 (by rfl) rfl ?_; clear hS; intro a hS
  refine r_alloc hS hH (by repeat (first | exact Sub.nil | refine Sub.cons ?_ ?_ | exact In.here | refine In.there ?_)) Fp.zc26 rfl ?_
  clear hS hH; intro a w b7 hb7 hwb7 hS hH
  refine r_store_row hS hH rfl rfl (by first | exact .here | exact .there .here | exact .there (.there .here) | exact .there (.there (.there .here)) | exact .there (.there (.there (.there .here))) | exact .there (.there (.there (.there (.there .here)))) | exact .there (.there (.there (.there (.there (.there .here))))) | exact .there (.there (.there (.there (.there (.there (.there .here)))))) | exact .there (.there (.there (.there (.there (.there (.there (.there .here))))))) | exact .there (.there (.there (.there (.there (.there (.there (.there (.there .here)))))))) | exact .there (.there (.there (.there (.there (.there (.there (.there (.there (.there .here))))))))) | exact .there (.there (.there (.there (.there (.there (.there (.there (.there (.there (.there .here)))))))))) | exact .there (.there (.there (.there (.there (.there (.there (.there (.there (.there (.there (.there .here))))))))))) | exact .there (.there (.there (.there (.there (.there (.there (.there (.there (.there (.there (.there (.there .here)))))))))))) | exact .there (.there (.there (.there (.there (.there (.there (.there (.there (.there (.there (.there (.there (.there .here))))))))))))) | exact .there (.there (.there (.there (.there (.there (.there (.there (.there (.there (.there (.there (.there (.there (.there .here))))))))))))))) (by repeat (first | exact Sub.nil | refine Sub.cons ?_ ?_ | exact In.here | refine In.there ?_)) Fp.sz26 (by first | exact hcells_one _ | exact of_decide_eq_true rfl) (by rfl) (by first | exact .inr (by assumption) | exact .inl (by first | assumption | rfl)) ?_
  clear hH; intro w hH
  refine Sq.nil ?_
  refine then_n ?_
  refine c_seq ?_
  refine reg_plain w0 (Nobody) ?_
  replace hH : Hp w0 Nobody [(b7, .cells ([.int .i64 kd, .int .i64 ve, .slice q1 dst.length c1, .slice q2 src.length c2, .slice q3 tok.length c3, .int .i64 ln, .bool ph, .slice q4 lst.length c4] ++ hcells [t0, t1, t2, t3, t4, t5, t6, t7, t8, t9, ta, tb, tc, td, te, tf] : List Value).toArray 26 (0, 0)), (b3, .cells ([.int .i64 kd, .int .i64 ve, .slice q1 dst.length c1, .slice q2 src.length c2, .slice q3 tok.length c3, .int .i64 ln, .bool ph, .slice q4 lst.length c4] ++ hcells [t0, t1, t2, t3, t4, t5, t6, t7, t8, t9, ta, tb, tc, td, te, tf] : List Value).toArray 26 (0, 0)), (0, .cells [.int .i64 6, .int .i64 14, .int .i64 30, .int .i64 62].toArray WT WF)] w := hH
  refine r_buildSlice0 hS hH (by repeat (first | exact Sub.nil | refine Sub.cons ?_ ?_ | exact In.here | refine In.there ?_)) Fp.uls22 Fp.inf5 rfl ?_
  clear hS hH; intro a w bz1 hbz1 hwbz1 hS hH
  refine r_fieldAddr hS hH.kp0 rfl Fp.fo26_2 rfl ?_; clear hS; intro a hS
  refine r_load_sc hS hH (by repeat (first | exact Sub.nil | refine Sub.cons ?_ ?_ | exact In.here | refine In.there ?_)) rfl (by repeat (first | exact In.here | refine In.there ?_)) Fp.sc22 (by rfl) rfl ?_; clear hS; intro a hS
  refine r_appB (l := []) ([]) (dst) hS hH rfl rfl (by first | exact .here | exact .there .here | exact .there (.there .here) | exact .there (.there (.there .here)) | exact .there (.there (.there (.there .here))) | exact .there (.there (.there (.there (.there .here)))) | exact .there (.there (.there (.there (.there (.there .here))))) | exact .there (.there (.there (.there (.there (.there (.there .here)))))) | exact .there (.there (.there (.there (.there (.there (.there (.there .here))))))) | exact .there (.there (.there (.there (.there (.there (.there (.there (.there .here)))))))) | exact .there (.there (.there (.there (.there (.there (.there (.there (.there (.there .here))))))))) | exact .there (.there (.there (.there (.there (.there (.there (.there (.there (.there (.there .here)))))))))) | exact .there (.there (.there (.there (.there (.there (.there (.there (.there (.there (.there (.there .here))))))))))) | exact .there (.there (.there (.there (.there (.there (.there (.there (.there (.there (.there (.there (.there .here)))))))))))) | exact .there (.there (.there (.there (.there (.there (.there (.there (.there (.there (.there (.there (.there (.there .here))))))))))))) | exact .there (.there (.there (.there (.there (.there (.there (.there (.there (.there (.there (.there (.there (.there (.there .here))))))))))))))) (by repeat (first | exact Sub.nil | refine Sub.cons ?_ ?_ | exact In.here | refine In.there ?_)) Fp.el22 Fp.ni22 BB.nil (hd.ext hH.mod) (by simp only [List.length_nil]; omega) (by assumption) rfl ?_
  clear hS hH; intro a w bda cda kda hwda hBda hS hH
  rw [List.nil_append] at hBda hS
  refine r_fieldAddr hS hH.kp0 rfl Fp.fo26_2 rfl ?_; clear hS; intro a hS
  refine r_store1 hS hH rfl rfl rfl (by first | exact .here | exact .there .here | exact .there (.there .here) | exact .there (.there (.there .here)) | exact .there (.there (.there (.there .here))) | exact .there (.there (.there (.there (.there .here)))) | exact .there (.there (.there (.there (.there (.there .here))))) | exact .there (.there (.there (.there (.there (.there (.there .here)))))) | exact .there (.there (.there (.there (.there (.there (.there (.there .here))))))) | exact .there (.there (.there (.there (.there (.there (.there (.there (.there .here)))))))) | exact .there (.there (.there (.there (.there (.there (.there (.there (.there (.there .here))))))))) | exact .there (.there (.there (.there (.there (.there (.there (.there (.there (.there (.there .here)))))))))) | exact .there (.there (.there (.there (.there (.there (.there (.there (.there (.there (.there (.there .here))))))))))) | exact .there (.there (.there (.there (.there (.there (.there (.there (.there (.there (.there (.there (.there .here)))))))))))) | exact .there (.there (.there (.there (.there (.there (.there (.there (.there (.there (.there (.there (.there (.there .here))))))))))))) | exact .there (.there (.there (.there (.there (.there (.there (.there (.there (.there (.there (.there (.there (.there (.there .here))))))))))))))) (by repeat (first | exact Sub.nil | refine Sub.cons ?_ ?_ | exact In.here | refine In.there ?_)) Fp.sz22 (of_decide_eq_true rfl) (by first | exact .inr (by assumption) | exact .inl (by first | assumption | rfl)) ?_
  clear hH; intro w hH
  refine Sq.nil ?_
  refine then_n ?_
  refine c_seq ?_
  refine reg_plain w0 (Nobody) ?_
  replace hH : Hp w0 Nobody [(bda, .cells kda.toArray 5 (0, 0)), (b7, .cells ([.int .i64 kd, .int .i64 ve, .slice (some ⟨bda, 0, none⟩) dst.length cda, .slice q2 src.length c2, .slice q3 tok.length c3, .int .i64 ln, .bool ph, .slice q4 lst.length c4] ++ hcells [t0, t1, t2, t3, t4, t5, t6, t7, t8, t9, ta, tb, tc, td, te, tf] : List Value).toArray 26 (0, 0)), (b3, .cells ([.int .i64 kd, .int .i64 ve, .slice q1 dst.length c1, .slice q2 src.length c2, .slice q3 tok.length c3, .int .i64 ln, .bool ph, .slice q4 lst.length c4] ++ hcells [t0, t1, t2, t3, t4, t5, t6, t7, t8, t9, ta, tb, tc, td, te, tf] : List Value).toArray 26 (0, 0)), (0, .cells [.int .i64 6, .int .i64 14, .int .i64 30, .int .i64 62].toArray WT WF)] w := hH
  refine r_buildSlice0 hS hH (by repeat (first | exact Sub.nil | refine Sub.cons ?_ ?_ | exact In.here | refine In.there ?_)) Fp.uls22 Fp.inf5 rfl ?_
  clear hS hH; intro a w bz2 hbz2 hwbz2 hS hH
  refine r_fieldAddr hS hH.kp0 rfl Fp.fo26_3 rfl ?_; clear hS; intro a hS
  refine r_load_sc hS hH (by repeat (first | exact Sub.nil | refine Sub.cons ?_ ?_ | exact In.here | refine In.there ?_)) rfl (by repeat (first | exact In.here | refine In.there ?_)) Fp.sc22 (by rfl) rfl ?_; clear hS; intro a hS
  refine r_appB (l := []) ([]) (src) hS hH rfl rfl (by first | exact .here | exact .there .here | exact .there (.there .here) | exact .there (.there (.there .here)) | exact .there (.there (.there (.there .here))) | exact .there (.there (.there (.there (.there .here)))) | exact .there (.there (.there (.there (.there (.there .here))))) | exact .there (.there (.there (.there (.there (.there (.there .here)))))) | exact .there (.there (.there (.there (.there (.there (.there (.there .here))))))) | exact .there (.there (.there (.there (.there (.there (.there (.there (.there .here)))))))) | exact .there (.there (.there (.there (.there (.there (.there (.there (.there (.there .here))))))))) | exact .there (.there (.there (.there (.there (.there (.there (.there (.there (.there (.there .here)))))))))) | exact .there (.there (.there (.there (.there (.there (.there (.there (.there (.there (.there (.there .here))))))))))) | exact .there (.there (.there (.there (.there (.there (.there (.there (.there (.there (.there (.there (.there .here)))))))))))) | exact .there (.there (.there (.there (.there (.there (.there (.there (.there (.there (.there (.there (.there (.there .here))))))))))))) | exact .there (.there (.there (.there (.there (.there (.there (.there (.there (.there (.there (.there (.there (.there (.there .here))))))))))))))) (by repeat (first | exact Sub.nil | refine Sub.cons ?_ ?_ | exact In.here | refine In.there ?_)) Fp.el22 Fp.ni22 BB.nil (hs.ext hH.mod) (by simp only [List.length_nil]; omega) (by assumption) rfl ?_
  clear hS hH; intro a w bsa csa ksa hwsa hBsa hS hH
  rw [List.nil_append] at hBsa hS
  refine r_fieldAddr hS hH.kp0 rfl Fp.fo26_3 rfl ?_; clear hS; intro a hS
  refine r_store1 hS hH rfl rfl rfl (by first | exact .here | exact .there .here | exact .there (.there .here) | exact .there (.there (.there .here)) | exact .there (.there (.there (.there .here))) | exact .there (.there (.there (.there (.there .here)))) | exact .there (.there (.there (.there (.there (.there .here))))) | exact .there (.there (.there (.there (.there (.there (.there .here)))))) | exact .there (.there (.there (.there (.there (.there (.there (.there .here))))))) | exact .there (.there (.there (.there (.there (.there (.there (.there (.there .here)))))))) | exact .there (.there (.there (.there (.there (.there (.there (.there (.there (.there .here))))))))) | exact .there (.there (.there (.there (.there (.there (.there (.there (.there (.there (.there .here)))))))))) | exact .there (.there (.there (.there (.there (.there (.there (.there (.there (.there (.there (.there .here))))))))))) | exact .there (.there (.there (.there (.there (.there (.there (.there (.there (.there (.there (.there (.there .here)))))))))))) | exact .there (.there (.there (.there (.there (.there (.there (.there (.there (.there (.there (.there (.there (.there .here))))))))))))) | exact .there (.there (.there (.there (.there (.there (.there (.there (.there (.there (.there (.there (.there (.there (.there .here))))))))))))))) (by repeat (first | exact Sub.nil | refine Sub.cons ?_ ?_ | exact In.here | refine In.there ?_)) Fp.sz22 (of_decide_eq_true rfl) (by first | exact .inr (by assumption) | exact .inl (by first | assumption | rfl)) ?_
  clear hH; intro w hH
  refine Sq.nil ?_
  refine then_n ?_
  refine c_seq ?_
  refine reg_plain w0 (Nobody) ?_
  replace hH : Hp w0 Nobody [(bsa, .cells ksa.toArray 5 (0, 0)), (bda, .cells kda.toArray 5 (0, 0)), (b7, .cells ([.int .i64 kd, .int .i64 ve, .slice (some ⟨bda, 0, none⟩) dst.length cda, .slice (some ⟨bsa, 0, none⟩) src.length csa, .slice q3 tok.length c3, .int .i64 ln, .bool ph, .slice q4 lst.length c4] ++ hcells [t0, t1, t2, t3, t4, t5, t6, t7, t8, t9, ta, tb, tc, td, te, tf] : List Value).toArray 26 (0, 0)), (b3, .cells ([.int .i64 kd, .int .i64 ve, .slice q1 dst.length c1, .slice q2 src.length c2, .slice q3 tok.length c3, .int .i64 ln, .bool ph, .slice q4 lst.length c4] ++ hcells [t0, t1, t2, t3, t4, t5, t6, t7, t8, t9, ta, tb, tc, td, te, tf] : List Value).toArray 26 (0, 0)), (0, .cells [.int .i64 6, .int .i64 14, .int .i64 30, .int .i64 62].toArray WT WF)] w := hH
  refine r_buildSlice0 hS hH (by repeat (first | exact Sub.nil | refine Sub.cons ?_ ?_ | exact In.here | refine In.there ?_)) Fp.uls22 Fp.inf5 rfl ?_
  clear hS hH; intro a w bz3 hbz3 hwbz3 hS hH
  refine r_fieldAddr hS hH.kp0 rfl Fp.fo26_4 rfl ?_; clear hS; intro a hS
  refine r_load_sc hS hH (by repeat (first | exact Sub.nil | refine Sub.cons ?_ ?_ | exact In.here | refine In.there ?_)) rfl (by repeat (first | exact In.here | refine In.there ?_)) Fp.sc22 (by rfl) rfl ?_; clear hS; intro a hS
  refine r_appB (l := []) ([]) (tok) hS hH rfl rfl (by first | exact .here | exact .there .here | exact .there (.there .here) | exact .there (.there (.there .here)) | exact .there (.there (.there (.there .here))) | exact .there (.there (.there (.there (.there .here)))) | exact .there (.there (.there (.there (.there (.there .here))))) | exact .there (.there (.there (.there (.there (.there (.there .here)))))) | exact .there (.there (.there (.there (.there (.there (.there (.there .here))))))) | exact .there (.there (.there (.there (.there (.there (.there (.there (.there .here)))))))) | exact .there (.there (.there (.there (.there (.there (.there (.there (.there (.there .here))))))))) | exact .there (.there (.there (.there (.there (.there (.there (.there (.there (.there (.there .here)))))))))) | exact .there (.there (.there (.there (.there (.there (.there (.there (.there (.there (.there (.there .here))))))))))) | exact .there (.there (.there (.there (.there (.there (.there (.there (.there (.there (.there (.there (.there .here)))))))))))) | exact .there (.there (.there (.there (.there (.there (.there (.there (.there (.there (.there (.there (.there (.there .here))))))))))))) | exact .there (.there (.there (.there (.there (.there (.there (.there (.there (.there (.there (.there (.there (.there (.there .here))))))))))))))) (by repeat (first | exact Sub.nil | refine Sub.cons ?_ ?_ | exact In.here | refine In.there ?_)) Fp.el22 Fp.ni22 BB.nil (ht.ext hH.mod) (by simp only [List.length_nil]; omega) (by assumption) rfl ?_
  clear hS hH; intro a w bta cta kta hwta hBta hS hH
  rw [List.nil_append] at hBta hS
  refine r_fieldAddr hS hH.kp0 rfl Fp.fo26_4 rfl ?_; clear hS; intro a hS
  refine r_store1 hS hH rfl rfl rfl (by first | exact .here | exact .there .here | exact .there (.there .here) | exact .there (.there (.there .here)) | exact .there (.there (.there (.there .here))) | exact .there (.there (.there (.there (.there .here)))) | exact .there (.there (.there (.there (.there (.there .here))))) | exact .there (.there (.there (.there (.there (.there (.there .here)))))) | exact .there (.there (.there (.there (.there (.there (.there (.there .here))))))) | exact .there (.there (.there (.there (.there (.there (.there (.there (.there .here)))))))) | exact .there (.there (.there (.there (.there (.there (.there (.there (.there (.there .here))))))))) | exact .there (.there (.there (.there (.there (.there (.there (.there (.there (.there (.there .here)))))))))) | exact .there (.there (.there (.there (.there (.there (.there (.there (.there (.there (.there (.there .here))))))))))) | exact .there (.there (.there (.there (.there (.there (.there (.there (.there (.there (.there (.there (.there .here)))))))))))) | exact .there (.there (.there (.there (.there (.there (.there (.there (.there (.there (.there (.there (.there (.there .here))))))))))))) | exact .there (.there (.there (.there (.there (.there (.there (.there (.there (.there (.there (.there (.there (.there (.there .here))))))))))))))) (by repeat (first | exact Sub.nil | refine Sub.cons ?_ ?_ | exact In.here | refine In.there ?_)) Fp.sz22 (of_decide_eq_true rfl) (by first | exact .inr (by assumption) | exact .inl (by first | assumption | rfl)) ?_
  clear hH; intro w hH
  refine Sq.nil ?_
  refine then_n ?_
  refine c_seq ?_
  refine reg_plain w0 (Nobody) ?_
  replace hH : Hp w0 Nobody [(bta, .cells kta.toArray 5 (0, 0)), (bsa, .cells ksa.toArray 5 (0, 0)), (bda, .cells kda.toArray 5 (0, 0)), (b7, .cells ([.int .i64 kd, .int .i64 ve, .slice (some ⟨bda, 0, none⟩) dst.length cda, .slice (some ⟨bsa, 0, none⟩) src.length csa, .slice (some ⟨bta, 0, none⟩) tok.length cta, .int .i64 ln, .bool ph, .slice q4 lst.length c4] ++ hcells [t0, t1, t2, t3, t4, t5, t6, t7, t8, t9, ta, tb, tc, td, te, tf] : List Value).toArray 26 (0, 0)), (b3, .cells ([.int .i64 kd, .int .i64 ve, .slice q1 dst.length c1, .slice q2 src.length c2, .slice q3 tok.length c3, .int .i64 ln, .bool ph, .slice q4 lst.length c4] ++ hcells [t0, t1, t2, t3, t4, t5, t6, t7, t8, t9, ta, tb, tc, td, te, tf] : List Value).toArray 26 (0, 0)), (0, .cells [.int .i64 6, .int .i64 14, .int .i64 30, .int .i64 62].toArray WT WF)] w := hH
  refine r_load_row hS hH (by repeat (first | exact Sub.nil | refine Sub.cons ?_ ?_ | exact In.here | refine In.there ?_)) rfl (by repeat (first | exact In.here | refine In.there ?_)) Fp.ag26 (by rfl) rfl ?_; clear hS; intro a hS
  refine r_move hS hH.kp0 rfl rfl ?_; clear hS; intro a hS
  refine r_move hS hH.kp0 rfl rfl ?_; clear hS; intro a hS
  refine r_call (l := [.tmp 34, .tmp 35, .tmp 36]) hS rfl rfl Fp.fn12 rfl ?_
  refine Calls.mono (Put_c kd ve _ _ _ q4 _ _ _ c4 dst src tok _ lst ln ph htag n low hlow _ WT WF (hH.get (b := 0) (by repeat (first | exact In.here | refine In.there ?_))) hll (hlst.ext hH.mod) (hBda.bs (hH.get (b := bda) (by repeat (first | exact In.here | refine In.there ?_)))) (hBsa.bs (hH.get (b := bsa) (by repeat (first | exact In.here | refine In.there ?_)))) (hBta.bs (hH.get (b := bta) (by repeat (first | exact In.here | refine In.there ?_)))) hm) ?_
  rintro e w1 ⟨rx, rfl, hN, hE⟩
  obtain ⟨bx, cx, kx, hvx, hrx, hrkx, hBx⟩ := hN
  subst hvx
  have hwx := Nat.le_trans hH.mod.size hrx
  replace hH := hH.knowN hE hrx hrkx
  refine ⟨_, rfl, hH.kp0, ?_⟩
  clear hS; intro a hS
  refine r_move hS hH.kp0 rfl rfl ?_; clear hS; intro a hS
  refine r_extract hS hH.kp0 rfl rfl rfl ?_; clear hS; intro a hS
  refine r_extract hS hH.kp0 rfl rfl rfl ?_; clear hS; intro a hS
  refine r_extract hS hH.kp0 rfl rfl rfl ?_; clear hS; intro a hS
  refine r_assign hS hH.kp0 rfl rfl ?_; clear hS; intro a hS
  refine r_assign hS hH.kp0 rfl rfl ?_; clear hS; intro a hS
  refine r_assign hS hH.kp0 rfl rfl ?_; clear hS; intro a hS
  refine Sq.nil ?_
  refine then_n ?_
  refine c_seq ?_
  refine reg_plain w0 (Nobody) ?_
  refine r_load_row hS hH (by repeat (first | exact Sub.nil | refine Sub.cons ?_ ?_ | exact In.here | refine In.there ?_)) rfl (by repeat (first | exact In.here | refine In.there ?_)) Fp.ag26 (by rfl) rfl ?_; clear hS; intro a hS
  refine r_move hS hH.kp0 rfl rfl ?_; clear hS; intro a hS
  refine r_move hS hH.kp0 rfl rfl ?_; clear hS; intro a hS
  refine r_call (l := [.tmp 42, .tmp 43, .tmp 44]) hS rfl rfl Fp.fn12 rfl ?_
  refine Calls.mono (Put_c kd ve _ _ _ q4 _ _ _ c4 dst src tok _ lst ln ph htag n low hlow _ WT WF (hH.get (b := 0) (by repeat (first | exact In.here | refine In.there ?_))) hll (hlst.ext hH.mod) (hBda.bs (hH.get (b := bda) (by repeat (first | exact In.here | refine In.there ?_)))) (hBsa.bs (hH.get (b := bsa) (by repeat (first | exact In.here | refine In.there ?_)))) (hBta.bs (hH.get (b := bta) (by repeat (first | exact In.here | refine In.there ?_)))) hm) ?_
  rintro e w1 ⟨ry_, rfl, hN, hE⟩
  obtain ⟨by_, cy_, ky_, hvy_, hry_, hrky_, hBy_⟩ := hN
  subst hvy_
  have hwy_ := Nat.le_trans hH.mod.size hry_
  replace hH := hH.knowN hE hry_ hrky_
  refine ⟨_, rfl, hH.kp0, ?_⟩
  clear hS; intro a hS
  refine r_move hS hH.kp0 rfl rfl ?_; clear hS; intro a hS
  refine r_extract hS hH.kp0 rfl rfl rfl ?_; clear hS; intro a hS
  refine r_extract hS hH.kp0 rfl rfl rfl ?_; clear hS; intro a hS
  refine r_extract hS hH.kp0 rfl rfl rfl ?_; clear hS; intro a hS
  refine r_assign hS hH.kp0 rfl rfl ?_; clear hS; intro a hS
  refine r_assign hS hH.kp0 rfl rfl ?_; clear hS; intro a hS
  refine r_assign hS hH.kp0 rfl rfl ?_; clear hS; intro a hS
  refine Sq.nil ?_
  refine then_n ?_
  refine c_seq ?_
  refine reg_plain w0 (Nobody) ?_
  refine r_load_row hS hH (by repeat (first | exact Sub.nil | refine Sub.cons ?_ ?_ | exact In.here | refine In.there ?_)) rfl (by repeat (first | exact In.here | refine In.there ?_)) Fp.ag26 (by rfl) rfl ?_; clear hS; intro a hS
  refine r_call (l := [.tmp 50]) hS rfl rfl Fp.fn14 rfl ?_
  refine Calls.mono (refs_c kd ve q1 q2 q3 q4 c1 c2 c3 c4 dst src tok _ lst ln ph htag _) ?_
  rintro e w1 ⟨rfl, hE⟩
  replace hH := hH.ext hE
  refine ⟨_, rfl, hH.kp0, ?_⟩
  clear hS; intro a hS
  refine r_move hS hH.kp0 rfl rfl ?_; clear hS; intro a hS
  refine r_move hS hH.kp0 rfl rfl ?_; clear hS; intro a hS
  refine r_call (l := [.tmp 51, .tmp 52, .tmp 53]) hS rfl rfl Fp.fn13 rfl ?_
  refine Calls.mono (RPut_c kd ve q1 q2 q3 q4 c1 c2 c3 c4 dst src tok _ lst ln ph htag n low hlow _ hll (hlst.ext hH.mod) (hd.ext hH.mod) (hs.ext hH.mod) (ht.ext hH.mod) hm) ?_
  rintro e w1 ⟨rw_, rfl, hN, hE⟩
  obtain ⟨bw_, cw_, kw_, hvw_, hrw_, hrkw_, hBw_⟩ := hN
  subst hvw_
  have hww_ := Nat.le_trans hH.mod.size hrw_
  replace hH := hH.knowN hE hrw_ hrkw_
  refine ⟨_, rfl, hH.kp0, ?_⟩
  clear hS; intro a hS
  refine r_move hS hH.kp0 rfl rfl ?_; clear hS; intro a hS
  refine r_extract hS hH.kp0 rfl rfl rfl ?_; clear hS; intro a hS
  refine r_extract hS hH.kp0 rfl rfl rfl ?_; clear hS; intro a hS
  refine r_extract hS hH.kp0 rfl rfl rfl ?_; clear hS; intro a hS
  refine r_assign hS hH.kp0 rfl rfl ?_; clear hS; intro a hS
  refine r_assign hS hH.kp0 rfl rfl ?_; clear hS; intro a hS
  refine r_assign hS hH.kp0 rfl rfl ?_; clear hS; intro a hS
  refine Sq.nil ?_
  refine then_n ?_
  refine c_seq ?_
  refine reg_draw [(true, 0, [1, 2]), (true, 1, [1, 2]), (false, 2, [2]), (true, 3, [1, 2]), (true, 4, [1, 2]), (true, 5, [1, 2]), (false, 6, [1, 2]), (true, 7, [1, 2]), (true, 8, [1, 2]), (true, 9, [1, 2]), (true, 10, [1, 2]), (true, 11, [1, 2]), (true, 12, [1, 2]), (true, 13, [1, 2]), (true, 14, [1, 2]), (true, 15, [1, 2]), (true, 16, [1, 2]), (true, 17, [1, 2]), (true, 18, [1, 2]), (true, 19, [1, 2]), (true, 20, [1, 2]), (false, 21, [1, 2]), (false, 22, [1, 2]), (true, 23, [1, 2]), (true, 24, [1, 2]), (false, 25, [1, 2]), (true, 26, [1, 2]), (true, 27, [1, 2])] Fc.mixed (by kernel_rfl) (by kernel_rfl) (by kernel_rfl) (keepOk2_ok (by kernel_rfl)) (by kernel_rfl) (by repeat (first | with_reducible exact steady_body | with_reducible apply steady_block | with_reducible apply steady_then | with_reducible apply steady_scope | exact steady_body)) hH ?_
  replace hH := hH.drew
  refine r_move hS trivial rfl rfl ?_; clear hS; intro a hS
  refine r_move hS trivial rfl rfl ?_; clear hS; intro a hS
  refine r_call (l := [.tmp 58, .tmp 59]) hS rfl rfl Fp.fn11 rfl ?_
  refine Calls.mono (spoilt_c bx 0 cx kx (hdB kd n dst src tok ln ph lst [t0, t1, t2, t3, t4, t5, t6, t7, t8, t9, ta, tb, tc, td, te, tf] ++ tlB kd n low) _ (by omega) hBx.pre0 (by have := hBx.len; have := hBx.le; omega) hBx.le _ (hH.get (b := bx) (by repeat (first | exact In.here | refine In.there ?_))) (hBw_.bs (hH.get (b := bw_) (by repeat (first | exact In.here | refine In.there ?_))))) ?_
  rintro e w1 ⟨lx, rfl, hlx, _, _, hmx⟩
  replace hH := hH.modPut hmx hlx (by first | exact .here | exact .there .here | exact .there (.there .here) | exact .there (.there (.there .here)) | exact .there (.there (.there (.there .here))) | exact .there (.there (.there (.there (.there .here)))) | exact .there (.there (.there (.there (.there (.there .here))))) | exact .there (.there (.there (.there (.there (.there (.there .here)))))) | exact .there (.there (.there (.there (.there (.there (.there (.there .here))))))) | exact .there (.there (.there (.there (.there (.there (.there (.there (.there .here)))))))) | exact .there (.there (.there (.there (.there (.there (.there (.there (.there (.there .here))))))))) | exact .there (.there (.there (.there (.there (.there (.there (.there (.there (.there (.there .here)))))))))) | exact .there (.there (.there (.there (.there (.there (.there (.there (.there (.there (.there (.there .here))))))))))) | exact .there (.there (.there (.there (.there (.there (.there (.there (.there (.there (.there (.there (.there .here)))))))))))) | exact .there (.there (.there (.there (.there (.there (.there (.there (.there (.there (.there (.there (.there (.there .here))))))))))))) | exact .there (.there (.there (.there (.there (.there (.there (.there (.there (.there (.there (.there (.there (.there (.there .here))))))))))))))) (.inr hwx)
  refine ⟨_, rfl, hH.kp (by repeat (first | exact Sub.nil | refine Sub.cons ?_ ?_ | exact In.here | refine In.there ?_)), ?_⟩
  clear hS; intro a hS
  refine r_move hS trivial rfl rfl ?_; clear hS; intro a hS
  refine Sq.guardYes hS rfl rfl rfl ?_
  refine r_move hS trivial rfl rfl ?_; clear hS; intro a hS
  refine Sq.guardYes hS rfl rfl rfl ?_
  refine r_move hS trivial rfl rfl ?_; clear hS; intro a hS
  refine Sq.guardYes hS rfl rfl rfl ?_
  refine r_call (l := [.tmp 62, .tmp 63]) hS rfl rfl Fp.fn11 rfl ?_
  refine Calls.mono (spoilt_c by_ 0 cy_ ky_ (hdB kd n dst src tok ln ph lst [t0, t1, t2, t3, t4, t5, t6, t7, t8, t9, ta, tb, tc, td, te, tf] ++ tlB kd n low) _ (by omega) hBy_.pre0 (by have := hBy_.len; have := hBy_.le; omega) hBy_.le _ (hH.get (b := by_) (by repeat (first | exact In.here | refine In.there ?_))) (hBw_.bs (hH.get (b := bw_) (by repeat (first | exact In.here | refine In.there ?_))))) ?_
  rintro e w1 ⟨ly_, rfl, hly_, _, _, hmy_⟩
  replace hH := hH.modPut hmy_ hly_ (by first | exact .here | exact .there .here | exact .there (.there .here) | exact .there (.there (.there .here)) | exact .there (.there (.there (.there .here))) | exact .there (.there (.there (.there (.there .here)))) | exact .there (.there (.there (.there (.there (.there .here))))) | exact .there (.there (.there (.there (.there (.there (.there .here)))))) | exact .there (.there (.there (.there (.there (.there (.there (.there .here))))))) | exact .there (.there (.there (.there (.there (.there (.there (.there (.there .here)))))))) | exact .there (.there (.there (.there (.there (.there (.there (.there (.there (.there .here))))))))) | exact .there (.there (.there (.there (.there (.there (.there (.there (.there (.there (.there .here)))))))))) | exact .there (.there (.there (.there (.there (.there (.there (.there (.there (.there (.there (.there .here))))))))))) | exact .there (.there (.there (.there (.there (.there (.there (.there (.there (.there (.there (.there (.there .here)))))))))))) | exact .there (.there (.there (.there (.there (.there (.there (.there (.there (.there (.there (.there (.there (.there .here))))))))))))) | exact .there (.there (.there (.there (.there (.there (.there (.there (.there (.there (.there (.there (.there (.there (.there .here))))))))))))))) (.inr hwy_)
  refine ⟨_, rfl, hH.kp (by repeat (first | exact Sub.nil | refine Sub.cons ?_ ?_ | exact In.here | refine In.there ?_)), ?_⟩
  clear hS; intro a hS
  refine r_pickT hS trivial rfl rfl rfl rfl ?_; clear hS; intro a hS
  refine r_move hS trivial rfl rfl ?_; clear hS; intro a hS
  refine Sq.guardYes hS rfl rfl rfl ?_
  refine r_move hS trivial rfl rfl ?_; clear hS; intro a hS
  refine Sq.guardYes hS rfl rfl rfl ?_
  refine r_move hS trivial rfl rfl ?_; clear hS; intro a hS
  refine Sq.guardYes hS rfl rfl rfl ?_
  refine r_eql hS trivial rfl rfl rfl ?_; clear hS; intro a hS
  refine r_pickT hS trivial rfl rfl rfl rfl ?_; clear hS; intro a hS
  refine r_move hS trivial rfl rfl ?_; clear hS; intro a hS
  refine Sq.guardYes hS rfl rfl (beq_self_eq_true _) ?_
  refine r_move hS trivial rfl rfl ?_; clear hS; intro a hS
  refine Sq.guardYes hS rfl rfl (beq_self_eq_true _) ?_
  refine r_move hS trivial rfl rfl ?_; clear hS; intro a hS
  refine Sq.guardYes hS rfl rfl (beq_self_eq_true _) ?_
  refine r_eql hS trivial rfl rfl rfl ?_; clear hS; intro a hS
  refine r_pickT hS trivial rfl (beq_self_eq_true _) rfl rfl ?_; clear hS; intro a hS
  refine r_move hS trivial rfl rfl ?_; clear hS; intro a hS
  refine Sq.guardYes hS rfl rfl rfl ?_
  refine r_load_rowS hS rfl (by repeat (first | exact In.here | refine In.there ?_)) Fp.ag26 (by rfl) rfl ?_; clear hS; intro a hS
  refine Sq.guardYes hS rfl rfl rfl ?_
  refine r_load_rowS hS rfl (by repeat (first | exact In.here | refine In.there ?_)) Fp.ag26 (by rfl) rfl ?_; clear hS; intro a hS
  refine Sq.guardYes hS rfl rfl rfl ?_
  refine r_call (l := [.tmp 78]) hS rfl rfl Fp.fn14 rfl ?_
  refine Calls.mono (refs_c kd ve q1 q2 q3 q4 c1 c2 c3 c4 dst src tok _ lst ln ph htag _) ?_
  rintro e w1 ⟨rfl, hE⟩
  replace hH := hH.ext hE
  refine ⟨_, rfl, hH.kp (by repeat (first | exact Sub.nil | refine Sub.cons ?_ ?_ | exact In.here | refine In.there ?_)), ?_⟩
  clear hS; intro a hS
  refine Sq.guardYes hS rfl rfl rfl ?_
  refine r_call (l := [.tmp 77, .tmp 79]) hS rfl rfl Fp.fn15 rfl ?_
  refine Calls.mono (same_c kd ve _ _ _ q1 q2 q3 q4 _ _ _ c1 c2 c3 c4 dst src tok _ lst ln ph htag _ hll (hlst.ext hH.mod) (hBda.bs (hH.get (b := bda) (by repeat (first | exact In.here | refine In.there ?_)))) (hd.ext hH.mod) (hBsa.bs (hH.get (b := bsa) (by repeat (first | exact In.here | refine In.there ?_)))) (hs.ext hH.mod) (hBta.bs (hH.get (b := bta) (by repeat (first | exact In.here | refine In.there ?_)))) (ht.ext hH.mod)) ?_
  rintro e w1 ⟨rfl, hE⟩
  replace hH := hH.ext hE
  refine ⟨_, rfl, hH.kp (by repeat (first | exact Sub.nil | refine Sub.cons ?_ ?_ | exact In.here | refine In.there ?_)), ?_⟩
  clear hS; intro a hS
  refine r_pickT hS trivial rfl rfl rfl rfl ?_; clear hS; intro a hS
  refine r_move hS trivial rfl rfl ?_; clear hS; intro a hS
  refine Sq.guardYes hS rfl rfl rfl ?_
  refine r_call (l := []) hS rfl rfl Fp.fn16 rfl ?_
  refine Calls.mono (names_c _) ?_
  rintro e w1 ⟨rfl, hE⟩
  replace hH := hH.ext hE
  refine ⟨_, rfl, hH.kp (by repeat (first | exact Sub.nil | refine Sub.cons ?_ ?_ | exact In.here | refine In.there ?_)), ?_⟩
  clear hS; intro a hS
  refine r_pickT hS trivial rfl rfl rfl rfl ?_; clear hS; intro a hS
  refine r_assign hS trivial rfl rfl ?_; clear hS; intro a hS
  refine Sq.nil ?_
  refine then_n ?_
  refine wp_ret ?_
  exact leave (.inl rfl) hS rfl (Res.tmp rfl Res.nil) ⟨rfl, hH.mod⟩

set_option maxRecDepth 100000 in
set_option maxHeartbeats 6000000 in
theorem puts_bad (kd ve : Int) (q1 q2 q3 q4 : Option Addr) (c1 c2 c3 c4 : Nat) (dst src tok tag : List UInt8) (lst : List Int) (ln : Int) (ph : Bool) (htag : tag.length = 16) (n : Int) (low : Nat) (hlow : low < 18446744073709551616) (w0 : World) (WT : TypeId) (WF : Nat × Nat) (hw0 : w0.heap[0]? = some (.cells [.int .i64 6, .int .i64 14, .int .i64 30, .int .i64 62].toArray WT WF)) (hll : lst.length ≤ 1048576) (hbd : dst.length ≤ 1048576 ∧ src.length ≤ 1048576 ∧ tok.length ≤ 1048576) (hlst : IsA w0 q4 c4 lst) (hd : Bs w0 (.slice q1 dst.length c1) dst) (hs : Bs w0 (.slice q2 src.length c2) src) (ht : Bs w0 (.slice q3 tok.length c3) tok) (hm : ¬ mayP kd dst.length src.length tok.length ln n lst.length (badN lst)) : Calls Tryd.prog 6 #[.agg ([.int .i64 kd, .int .i64 ve, .slice q1 dst.length c1, .slice q2 src.length c2, .slice q3 tok.length c3, .int .i64 ln, .bool ph, .slice q4 lst.length c4] ++ hcells tag : List Value).toArray, .int .u64 (low : Int), .int .i64 n] w0 fun e w' => e = .returned (.bool true) ∧ Ext w0 w' := by
  refine enter Tryd.func6 rfl rfl rfl ?_
  intro a hS
  have hH := Hp.start w0 (Nobody)
  obtain ⟨t0, t1, t2, t3, t4, t5, t6, t7, t8, t9, ta, tb, tc, td, te, tf, rfl⟩ := len16 htag
  replace hH := hH.know hw0 (fun p hp => by simp at hp)
  refine c_seq ?_
  refine reg_plain w0 (Nobody) ?_
  refine r_box hS hH (by repeat (first | exact Sub.nil | refine Sub.cons ?_ ?_ | exact In.here | refine In.there ?_)) rfl rfl rfl ?_
  clear hS hH; intro a w b3 hb3 hwb3 hS hH
  refine r_assign hS hH.kp0 rfl rfl ?_; clear hS; intro a hS
  refine Sq.nil ?_
  refine then_n ?_
  refine c_seq ?_
  refine reg_plain w0 (Nobody) ?_
  refine r_load_row hS hH (by repeat (first | exact Sub.nil | refine Sub.cons ?_ ?_ | exact In.here | refine In.there ?_)) rfl (by repeat (first | exact In.here | refine In.there ?_)) Fp.ag26 (by rfl) rfl ?_; clear hS; intro a hS
  refine r_alloc hS hH (by repeat (first | exact Sub.nil | refine Sub.cons ?_ ?_ | exact In.here | refine In.there ?_)) Fp.zc26 rfl ?_
  clear hS hH; intro a w b7 hb7 hwb7 hS hH
  refine r_store_row hS hH rfl rfl (by first | exact .here | exact .there .here | exact .there (.there .here) | exact .there (.there (.there .here)) | exact .there (.there (.there (.there .here))) | exact .there (.there (.there (.there (.there .here)))) | exact .there (.there (.there (.there (.there (.there .here))))) | exact .there (.there (.there (.there (.there (.there (.there .here)))))) | exact .there (.there (.there (.there (.there (.there (.there (.there .here))))))) | exact .there (.there (.there (.there (.there (.there (.there (.there (.there .here)))))))) | exact .there (.there (.there (.there (.there (.there (.there (.there (.there (.there .here))))))))) | exact .there (.there (.there (.there (.there (.there (.there (.there (.there (.there (.there .here)))))))))) | exact .there (.there (.there (.there (.there (.there (.there (.there (.there (.there (.there (.there .here))))))))))) | exact .there (.there (.there (.there (.there (.there (.there (.there (.there (.there (.there (.there (.there .here)))))))))))) | exact .there (.there (.there (.there (.there (.there (.there (.there (.there (.there (.there (.there (.there (.there .here))))))))))))) | exact .there (.there (.there (.there (.there (.there (.there (.there (.there (.there (.there (.there (.there (.there (.there .here))))))))))))))) (by repeat (first | exact Sub.nil | refine Sub.cons ?_ ?_ | exact In.here | refine In.there ?_)) Fp.sz26 (by first | exact hcells_one _ | exact of_decide_eq_true rfl) (by rfl) (by first | exact .inr (by assumption) | exact .inl (by first | assumption | rfl)) ?_
  clear hH; intro w hH
  refine Sq.nil ?_
  refine then_n ?_
  refine c_seq ?_
  refine reg_plain w0 (Nobody) ?_
  replace hH : Hp w0 Nobody [(b7, .cells ([.int .i64 kd, .int .i64 ve, .slice q1 dst.length c1, .slice q2 src.length c2, .slice q3 tok.length c3, .int .i64 ln, .bool ph, .slice q4 lst.length c4] ++ hcells [t0, t1, t2, t3, t4, t5, t6, t7, t8, t9, ta, tb, tc, td, te, tf] : List Value).toArray 26 (0, 0)), (b3, .cells ([.int .i64 kd, .int .i64 ve, .slice q1 dst.length c1, .slice q2 src.length c2, .slice q3 tok.length c3, .int .i64 ln, .bool ph, .slice q4 lst.length c4] ++ hcells [t0, t1, t2, t3, t4, t5, t6, t7, t8, t9, ta, tb, tc, td, te, tf] : List Value).toArray 26 (0, 0)), (0, .cells [.int .i64 6, .int .i64 14, .int .i64 30, .int .i64 62].toArray WT WF)] w := hH
  refine r_buildSlice0 hS hH (by repeat (first | exact Sub.nil | refine Sub.cons ?_ ?_ | exact In.here | refine In.there ?_)) Fp.uls22 Fp.inf5 rfl ?_
  clear hS hH; intro a w bz1 hbz1 hwbz1 hS hH
  refine r_fieldAddr hS hH.kp0 rfl Fp.fo26_2 rfl ?_; clear hS; intro a hS
  refine r_load_sc hS hH (by repeat (first | exact Sub.nil | refine Sub.cons ?_ ?_ | exact In.here | refine In.there ?_)) rfl (by repeat (first | exact In.here | refine In.there ?_)) Fp.sc22 (by rfl) rfl ?_; clear hS; intro a hS
  refine r_appB (l := []) ([]) (dst) hS hH rfl rfl (by first | exact .here | exact .there .here | exact .there (.there .here) | exact .there (.there (.there .here)) | exact .there (.there (.there (.there .here))) | exact .there (.there (.there (.there (.there .here)))) | exact .there (.there (.there (.there (.there (.there .here))))) | exact .there (.there (.there (.there (.there (.there (.there .here)))))) | exact .there (.there (.there (.there (.there (.there (.there (.there .here))))))) | exact .there (.there (.there (.there (.there (.there (.there (.there (.there .here)))))))) | exact .there (.there (.there (.there (.there (.there (.there (.there (.there (.there .here))))))))) | exact .there (.there (.there (.there (.there (.there (.there (.there (.there (.there (.there .here)))))))))) | exact .there (.there (.there (.there (.there (.there (.there (.there (.there (.there (.there (.there .here))))))))))) | exact .there (.there (.there (.there (.there (.there (.there (.there (.there (.there (.there (.there (.there .here)))))))))))) | exact .there (.there (.there (.there (.there (.there (.there (.there (.there (.there (.there (.there (.there (.there .here))))))))))))) | exact .there (.there (.there (.there (.there (.there (.there (.there (.there (.there (.there (.there (.there (.there (.there .here))))))))))))))) (by repeat (first | exact Sub.nil | refine Sub.cons ?_ ?_ | exact In.here | refine In.there ?_)) Fp.el22 Fp.ni22 BB.nil (hd.ext hH.mod) (by simp only [List.length_nil]; omega) (by assumption) rfl ?_
  clear hS hH; intro a w bda cda kda hwda hBda hS hH
  rw [List.nil_append] at hBda hS
  refine r_fieldAddr hS hH.kp0 rfl Fp.fo26_2 rfl ?_; clear hS; intro a hS
  refine r_store1 hS hH rfl rfl rfl (by first | exact .here | exact .there .here | exact .there (.there .here) | exact .there (.there (.there .here)) | exact .there (.there (.there (.there .here))) | exact .there (.there (.there (.there (.there .here)))) | exact .there (.there (.there (.there (.there (.there .here))))) | exact .there (.there (.there (.there (.there (.there (.there .here)))))) | exact .there (.there (.there (.there (.there (.there (.there (.there .here))))))) | exact .there (.there (.there (.there (.there (.there (.there (.there (.there .here)))))))) | exact .there (.there (.there (.there (.there (.there (.there (.there (.there (.there .here))))))))) | exact .there (.there (.there (.there (.there (.there (.there (.there (.there (.there (.there .here)))))))))) | exact .there (.there (.there (.there (.there (.there (.there (.there (.there (.there (.there (.there .here))))))))))) | exact .there (.there (.there (.there (.there (.there (.there (.there (.there (.there (.there (.there (.there .here)))))))))))) | exact .there (.there (.there (.there (.there (.there (.there (.there (.there (.there (.there (.there (.there (.there .here))))))))))))) | exact .there (.there (.there (.there (.there (.there (.there (.there (.there (.there (.there (.there (.there (.there (.there .here))))))))))))))) (by repeat (first | exact Sub.nil | refine Sub.cons ?_ ?_ | exact In.here | refine In.there ?_)) Fp.sz22 (of_decide_eq_true rfl) (by first | exact .inr (by assumption) | exact .inl (by first | assumption | rfl)) ?_
  clear hH; intro w hH
  refine Sq.nil ?_
  refine then_n ?_
  refine c_seq ?_
  refine reg_plain w0 (Nobody) ?_
  replace hH : Hp w0 Nobody [(bda, .cells kda.toArray 5 (0, 0)), (b7, .cells ([.int .i64 kd, .int .i64 ve, .slice (some ⟨bda, 0, none⟩) dst.length cda, .slice q2 src.length c2, .slice q3 tok.length c3, .int .i64 ln, .bool ph, .slice q4 lst.length c4] ++ hcells [t0, t1, t2, t3, t4, t5, t6, t7, t8, t9, ta, tb, tc, td, te, tf] : List Value).toArray 26 (0, 0)), (b3, .cells ([.int .i64 kd, .int .i64 ve, .slice q1 dst.length c1, .slice q2 src.length c2, .slice q3 tok.length c3, .int .i64 ln, .bool ph, .slice q4 lst.length c4] ++ hcells [t0, t1, t2, t3, t4, t5, t6, t7, t8, t9, ta, tb, tc, td, te, tf] : List Value).toArray 26 (0, 0)), (0, .cells [.int .i64 6, .int .i64 14, .int .i64 30, .int .i64 62].toArray WT WF)] w := hH
  refine r_buildSlice0 hS hH (by repeat (first | exact Sub.nil | refine Sub.cons ?_ ?_ | exact In.here | refine In.there ?_)) Fp.uls22 Fp.inf5 rfl ?_
  clear hS hH; intro a w bz2 hbz2 hwbz2 hS hH
  refine r_fieldAddr hS hH.kp0 rfl Fp.fo26_3 rfl ?_; clear hS; intro a hS
  refine r_load_sc hS hH (by repeat (first | exact Sub.nil | refine Sub.cons ?_ ?_ | exact In.here | refine In.there ?_)) rfl (by repeat (first | exact In.here | refine In.there ?_)) Fp.sc22 (by rfl) rfl ?_; clear hS; intro a hS
  refine r_appB (l := []) ([]) (src) hS hH rfl rfl (by first | exact .here | exact .there .here | exact .there (.there .here) | exact .there (.there (.there .here)) | exact .there (.there (.there (.there .here))) | exact .there (.there (.there (.there (.there .here)))) | exact .there (.there (.there (.there (.there (.there .here))))) | exact .there (.there (.there (.there (.there (.there (.there .here)))))) | exact .there (.there (.there (.there (.there (.there (.there (.there .here))))))) | exact .there (.there (.there (.there (.there (.there (.there (.there (.there .here)))))))) | exact .there (.there (.there (.there (.there (.there (.there (.there (.there (.there .here))))))))) | exact .there (.there (.there (.there (.there (.there (.there (.there (.there (.there (.there .here)))))))))) | exact .there (.there (.there (.there (.there (.there (.there (.there (.there (.there (.there (.there .here))))))))))) | exact .there (.there (.there (.there (.there (.there (.there (.there (.there (.there (.there (.there (.there .here)))))))))))) | exact .there (.there (.there (.there (.there (.there (.there (.there (.there (.there (.there (.there (.there (.there .here))))))))))))) | exact .there (.there (.there (.there (.there (.there (.there (.there (.there (.there (.there (.there (.there (.there (.there .here))))))))))))))) (by repeat (first | exact Sub.nil | refine Sub.cons ?_ ?_ | exact In.here | refine In.there ?_)) Fp.el22 Fp.ni22 BB.nil (hs.ext hH.mod) (by simp only [List.length_nil]; omega) (by assumption) rfl ?_
  clear hS hH; intro a w bsa csa ksa hwsa hBsa hS hH
  rw [List.nil_append] at hBsa hS
  refine r_fieldAddr hS hH.kp0 rfl Fp.fo26_3 rfl ?_; clear hS; intro a hS
  refine r_store1 hS hH rfl rfl rfl (by first | exact .here | exact .there .here | exact .there (.there .here) | exact .there (.there (.there .here)) | exact .there (.there (.there (.there .here))) | exact .there (.there (.there (.there (.there .here)))) | exact .there (.there (.there (.there (.there (.there .here))))) | exact .there (.there (.there (.there (.there (.there (.there .here)))))) | exact .there (.there (.there (.there (.there (.there (.there (.there .here))))))) | exact .there (.there (.there (.there (.there (.there (.there (.there (.there .here)))))))) | exact .there (.there (.there (.there (.there (.there (.there (.there (.there (.there .here))))))))) | exact .there (.there (.there (.there (.there (.there (.there (.there (.there (.there (.there .here)))))))))) | exact .there (.there (.there (.there (.there (.there (.there (.there (.there (.there (.there (.there .here))))))))))) | exact .there (.there (.there (.there (.there (.there (.there (.there (.there (.there (.there (.there (.there .here)))))))))))) | exact .there (.there (.there (.there (.there (.there (.there (.there (.there (.there (.there (.there (.there (.there .here))))))))))))) | exact .there (.there (.there (.there (.there (.there (.there (.there (.there (.there (.there (.there (.there (.there (.there .here))))))))))))))) (by repeat (first | exact Sub.nil | refine Sub.cons ?_ ?_ | exact In.here | refine In.there ?_)) Fp.sz22 (of_decide_eq_true rfl) (by first | exact .inr (by assumption) | exact .inl (by first | assumption | rfl)) ?_
  clear hH; intro w hH
  refine Sq.nil ?_
  refine then_n ?_
  refine c_seq ?_
  refine reg_plain w0 (Nobody) ?_
  replace hH : Hp w0 Nobody [(bsa, .cells ksa.toArray 5 (0, 0)), (bda, .cells kda.toArray 5 (0, 0)), (b7, .cells ([.int .i64 kd, .int .i64 ve, .slice (some ⟨bda, 0, none⟩) dst.length cda, .slice (some ⟨bsa, 0, none⟩) src.length csa, .slice q3 tok.length c3, .int .i64 ln, .bool ph, .slice q4 lst.length c4] ++ hcells [t0, t1, t2, t3, t4, t5, t6, t7, t8, t9, ta, tb, tc, td, te, tf] : List Value).toArray 26 (0, 0)), (b3, .cells ([.int .i64 kd, .int .i64 ve, .slice q1 dst.length c1, .slice q2 src.length c2, .slice q3 tok.length c3, .int .i64 ln, .bool ph, .slice q4 lst.length c4] ++ hcells [t0, t1, t2, t3, t4, t5, t6, t7, t8, t9, ta, tb, tc, td, te, tf] : List Value).toArray 26 (0, 0)), (0, .cells [.int .i64 6, .int .i64 14, .int .i64 30, .int .i64 62].toArray WT WF)] w := hH
  refine r_buildSlice0 hS hH (by repeat (first | exact Sub.nil | refine Sub.cons ?_ ?_ | exact In.here | refine In.there ?_)) Fp.uls22 Fp.inf5 rfl ?_
  clear hS hH; intro a w bz3 hbz3 hwbz3 hS hH
  refine r_fieldAddr hS hH.kp0 rfl Fp.fo26_4 rfl ?_; clear hS; intro a hS
  refine r_load_sc hS hH (by repeat (first | exact Sub.nil | refine Sub.cons ?_ ?_ | exact In.here | refine In.there ?_)) rfl (by repeat (first | exact In.here | refine In.there ?_)) Fp.sc22 (by rfl) rfl ?_; clear hS; intro a hS
  refine r_appB (l := []) ([]) (tok) hS hH rfl rfl (by first | exact .here | exact .there .here | exact .there (.there .here) | exact .there (.there (.there .here)) | exact .there (.there (.there (.there .here))) | exact .there (.there (.there (.there (.there .here)))) | exact .there (.there (.there (.there (.there (.there .here))))) | exact .there (.there (.there (.there (.there (.there (.there .here)))))) | exact .there (.there (.there (.there (.there (.there (.there (.there .here))))))) | exact .there (.there (.there (.there (.there (.there (.there (.there (.there .here)))))))) | exact .there (.there (.there (.there (.there (.there (.there (.there (.there (.there .here))))))))) | exact .there (.there (.there (.there (.there (.there (.there (.there (.there (.there (.there .here)))))))))) | exact .there (.there (.there (.there (.there (.there (.there (.there (.there (.there (.there (.there .here))))))))))) | exact .there (.there (.there (.there (.there (.there (.there (.there (.there (.there (.there (.there (.there .here)))))))))))) | exact .there (.there (.there (.there (.there (.there (.there (.there (.there (.there (.there (.there (.there (.there .here))))))))))))) | exact .there (.there (.there (.there (.there (.there (.there (.there (.there (.there (.there (.there (.there (.there (.there .here))))))))))))))) (by repeat (first | exact Sub.nil | refine Sub.cons ?_ ?_ | exact In.here | refine In.there ?_)) Fp.el22 Fp.ni22 BB.nil (ht.ext hH.mod) (by simp only [List.length_nil]; omega) (by assumption) rfl ?_
  clear hS hH; intro a w bta cta kta hwta hBta hS hH
  rw [List.nil_append] at hBta hS
  refine r_fieldAddr hS hH.kp0 rfl Fp.fo26_4 rfl ?_; clear hS; intro a hS
  refine r_store1 hS hH rfl rfl rfl (by first | exact .here | exact .there .here | exact .there (.there .here) | exact .there (.there (.there .here)) | exact .there (.there (.there (.there .here))) | exact .there (.there (.there (.there (.there .here)))) | exact .there (.there (.there (.there (.there (.there .here))))) | exact .there (.there (.there (.there (.there (.there (.there .here)))))) | exact .there (.there (.there (.there (.there (.there (.there (.there .here))))))) | exact .there (.there (.there (.there (.there (.there (.there (.there (.there .here)))))))) | exact .there (.there (.there (.there (.there (.there (.there (.there (.there (.there .here))))))))) | exact .there (.there (.there (.there (.there (.there (.there (.there (.there (.there (.there .here)))))))))) | exact .there (.there (.there (.there (.there (.there (.there (.there (.there (.there (.there (.there .here))))))))))) | exact .there (.there (.there (.there (.there (.there (.there (.there (.there (.there (.there (.there (.there .here)))))))))))) | exact .there (.there (.there (.there (.there (.there (.there (.there (.there (.there (.there (.there (.there (.there .here))))))))))))) | exact .there (.there (.there (.there (.there (.there (.there (.there (.there (.there (.there (.there (.there (.there (.there .here))))))))))))))) (by repeat (first | exact Sub.nil | refine Sub.cons ?_ ?_ | exact In.here | refine In.there ?_)) Fp.sz22 (of_decide_eq_true rfl) (by first | exact .inr (by assumption) | exact .inl (by first | assumption | rfl)) ?_
  clear hH; intro w hH
  refine Sq.nil ?_
  refine then_n ?_
  refine c_seq ?_
  refine reg_plain w0 (Nobody) ?_
  replace hH : Hp w0 Nobody [(bta, .cells kta.toArray 5 (0, 0)), (bsa, .cells ksa.toArray 5 (0, 0)), (bda, .cells kda.toArray 5 (0, 0)), (b7, .cells ([.int .i64 kd, .int .i64 ve, .slice (some ⟨bda, 0, none⟩) dst.length cda, .slice (some ⟨bsa, 0, none⟩) src.length csa, .slice (some ⟨bta, 0, none⟩) tok.length cta, .int .i64 ln, .bool ph, .slice q4 lst.length c4] ++ hcells [t0, t1, t2, t3, t4, t5, t6, t7, t8, t9, ta, tb, tc, td, te, tf] : List Value).toArray 26 (0, 0)), (b3, .cells ([.int .i64 kd, .int .i64 ve, .slice q1 dst.length c1, .slice q2 src.length c2, .slice q3 tok.length c3, .int .i64 ln, .bool ph, .slice q4 lst.length c4] ++ hcells [t0, t1, t2, t3, t4, t5, t6, t7, t8, t9, ta, tb, tc, td, te, tf] : List Value).toArray 26 (0, 0)), (0, .cells [.int .i64 6, .int .i64 14, .int .i64 30, .int .i64 62].toArray WT WF)] w := hH
  refine r_load_row hS hH (by repeat (first | exact Sub.nil | refine Sub.cons ?_ ?_ | exact In.here | refine In.there ?_)) rfl (by repeat (first | exact In.here | refine In.there ?_)) Fp.ag26 (by rfl) rfl ?_; clear hS; intro a hS
  refine r_move hS hH.kp0 rfl rfl ?_; clear hS; intro a hS
  refine r_move hS hH.kp0 rfl rfl ?_; clear hS; intro a hS
  refine r_call (l := [.tmp 34, .tmp 35, .tmp 36]) hS rfl rfl Fp.fn12 rfl ?_
  refine Calls.mono (Put_bad kd ve _ _ _ q4 _ _ _ c4 dst src tok _ lst ln ph htag n low _ (by omega) (hlst.ext hH.mod) hm) ?_
  rintro e w1 ⟨rfl, hE⟩
  replace hH := hH.ext hE
  refine ⟨_, rfl, hH.kp0, ?_⟩
  clear hS; intro a hS
  refine r_move hS hH.kp0 rfl rfl ?_; clear hS; intro a hS
  refine r_extract hS hH.kp0 rfl rfl rfl ?_; clear hS; intro a hS
  refine r_extract hS hH.kp0 rfl rfl rfl ?_; clear hS; intro a hS
  refine r_extract hS hH.kp0 rfl rfl rfl ?_; clear hS; intro a hS
  refine r_assign hS hH.kp0 rfl rfl ?_; clear hS; intro a hS
  refine r_assign hS hH.kp0 rfl rfl ?_; clear hS; intro a hS
  refine r_assign hS hH.kp0 rfl rfl ?_; clear hS; intro a hS
  refine Sq.nil ?_
  refine then_n ?_
  refine c_seq ?_
  refine reg_plain w0 (Nobody) ?_
  refine r_load_row hS hH (by repeat (first | exact Sub.nil | refine Sub.cons ?_ ?_ | exact In.here | refine In.there ?_)) rfl (by repeat (first | exact In.here | refine In.there ?_)) Fp.ag26 (by rfl) rfl ?_; clear hS; intro a hS
  refine r_move hS hH.kp0 rfl rfl ?_; clear hS; intro a hS
  refine r_move hS hH.kp0 rfl rfl ?_; clear hS; intro a hS
  refine r_call (l := [.tmp 42, .tmp 43, .tmp 44]) hS rfl rfl Fp.fn12 rfl ?_
  refine Calls.mono (Put_bad kd ve _ _ _ q4 _ _ _ c4 dst src tok _ lst ln ph htag n low _ (by omega) (hlst.ext hH.mod) hm) ?_
  rintro e w1 ⟨rfl, hE⟩
  replace hH := hH.ext hE
  refine ⟨_, rfl, hH.kp0, ?_⟩
  clear hS; intro a hS
  refine r_move hS hH.kp0 rfl rfl ?_; clear hS; intro a hS
  refine r_extract hS hH.kp0 rfl rfl rfl ?_; clear hS; intro a hS
  refine r_extract hS hH.kp0 rfl rfl rfl ?_; clear hS; intro a hS
  refine r_extract hS hH.kp0 rfl rfl rfl ?_; clear hS; intro a hS
  refine r_assign hS hH.kp0 rfl rfl ?_; clear hS; intro a hS
  refine r_assign hS hH.kp0 rfl rfl ?_; clear hS; intro a hS
  refine r_assign hS hH.kp0 rfl rfl ?_; clear hS; intro a hS
  refine Sq.nil ?_
  refine then_n ?_
  refine c_seq ?_
  refine reg_plain w0 (Nobody) ?_
  refine r_load_row hS hH (by repeat (first | exact Sub.nil | refine Sub.cons ?_ ?_ | exact In.here | refine In.there ?_)) rfl (by repeat (first | exact In.here | refine In.there ?_)) Fp.ag26 (by rfl) rfl ?_; clear hS; intro a hS
  refine r_call (l := [.tmp 50]) hS rfl rfl Fp.fn14 rfl ?_
  refine Calls.mono (refs_c kd ve q1 q2 q3 q4 c1 c2 c3 c4 dst src tok _ lst ln ph htag _) ?_
  rintro e w1 ⟨rfl, hE⟩
  replace hH := hH.ext hE
  refine ⟨_, rfl, hH.kp0, ?_⟩
  clear hS; intro a hS
  refine r_move hS hH.kp0 rfl rfl ?_; clear hS; intro a hS
  refine r_move hS hH.kp0 rfl rfl ?_; clear hS; intro a hS
  refine r_call (l := [.tmp 51, .tmp 52, .tmp 53]) hS rfl rfl Fp.fn13 rfl ?_
  refine Calls.mono (RPut_bad kd ve q1 q2 q3 q4 c1 c2 c3 c4 dst src tok _ lst ln ph htag n low _ (by omega) (hlst.ext hH.mod) hm) ?_
  rintro e w1 ⟨rfl, hE⟩
  replace hH := hH.ext hE
  refine ⟨_, rfl, hH.kp0, ?_⟩
  clear hS; intro a hS
  refine r_move hS hH.kp0 rfl rfl ?_; clear hS; intro a hS
  refine r_extract hS hH.kp0 rfl rfl rfl ?_; clear hS; intro a hS
  refine r_extract hS hH.kp0 rfl rfl rfl ?_; clear hS; intro a hS
  refine r_extract hS hH.kp0 rfl rfl rfl ?_; clear hS; intro a hS
  refine r_assign hS hH.kp0 rfl rfl ?_; clear hS; intro a hS
  refine r_assign hS hH.kp0 rfl rfl ?_; clear hS; intro a hS
  refine r_assign hS hH.kp0 rfl rfl ?_; clear hS; intro a hS
  refine Sq.nil ?_
  refine then_n ?_
  refine c_seq ?_
  refine reg_draw [(true, 0, []), (true, 1, []), (false, 2, []), (true, 3, []), (true, 4, []), (true, 5, []), (false, 6, []), (true, 7, []), (true, 8, []), (true, 9, []), (true, 10, []), (true, 11, []), (true, 12, []), (true, 13, []), (true, 14, []), (true, 15, []), (true, 16, []), (true, 17, []), (true, 18, []), (true, 19, []), (true, 20, []), (false, 21, []), (false, 22, []), (true, 23, []), (true, 24, []), (false, 25, []), (true, 26, []), (true, 27, [])] Fc.mixed (by kernel_rfl) (by kernel_rfl) (by kernel_rfl) (keepOk2_ok (by kernel_rfl)) (by kernel_rfl) (by repeat (first | with_reducible exact steady_body | with_reducible apply steady_block | with_reducible apply steady_then | with_reducible apply steady_scope | exact steady_body)) hH ?_
  replace hH := hH.drew
  refine r_move hS trivial rfl rfl ?_; clear hS; intro a hS
  refine r_move hS trivial rfl rfl ?_; clear hS; intro a hS
  refine r_call (l := [.tmp 58, .tmp 59]) hS rfl rfl Fp.fn11 rfl ?_
  refine Calls.mono (spoilt_nil none 0 _ _ (Bs.nil _) (Bs.nil _)) ?_
  rintro e w1 ⟨rfl, hE⟩
  replace hH := hH.ext hE
  refine ⟨_, rfl, hH.kp (by repeat (first | exact Sub.nil | refine Sub.cons ?_ ?_ | exact In.here | refine In.there ?_)), ?_⟩
  clear hS; intro a hS
  refine r_move hS trivial rfl rfl ?_; clear hS; intro a hS
  refine Sq.guardYes hS rfl rfl rfl ?_
  refine r_move hS trivial rfl rfl ?_; clear hS; intro a hS
  refine Sq.guardYes hS rfl rfl rfl ?_
  refine r_move hS trivial rfl rfl ?_; clear hS; intro a hS
  refine Sq.guardYes hS rfl rfl rfl ?_
  refine r_call (l := [.tmp 62, .tmp 63]) hS rfl rfl Fp.fn11 rfl ?_
  refine Calls.mono (spoilt_nil none 0 _ _ (Bs.nil _) (Bs.nil _)) ?_
  rintro e w1 ⟨rfl, hE⟩
  replace hH := hH.ext hE
  refine ⟨_, rfl, hH.kp (by repeat (first | exact Sub.nil | refine Sub.cons ?_ ?_ | exact In.here | refine In.there ?_)), ?_⟩
  clear hS; intro a hS
  refine r_pickT hS trivial rfl rfl rfl rfl ?_; clear hS; intro a hS
  refine r_move hS trivial rfl rfl ?_; clear hS; intro a hS
  refine Sq.guardYes hS rfl rfl rfl ?_
  refine r_move hS trivial rfl rfl ?_; clear hS; intro a hS
  refine Sq.guardYes hS rfl rfl rfl ?_
  refine r_move hS trivial rfl rfl ?_; clear hS; intro a hS
  refine Sq.guardYes hS rfl rfl rfl ?_
  refine r_eql hS trivial rfl rfl rfl ?_; clear hS; intro a hS
  refine r_pickT hS trivial rfl rfl rfl rfl ?_; clear hS; intro a hS
  refine r_move hS trivial rfl rfl ?_; clear hS; intro a hS
  refine Sq.guardYes hS rfl rfl (beq_self_eq_true _) ?_
  refine r_move hS trivial rfl rfl ?_; clear hS; intro a hS
  refine Sq.guardYes hS rfl rfl (beq_self_eq_true _) ?_
  refine r_move hS trivial rfl rfl ?_; clear hS; intro a hS
  refine Sq.guardYes hS rfl rfl (beq_self_eq_true _) ?_
  refine r_eql hS trivial rfl rfl rfl ?_; clear hS; intro a hS
  refine r_pickT hS trivial rfl (beq_self_eq_true _) rfl rfl ?_; clear hS; intro a hS
  refine r_move hS trivial rfl rfl ?_; clear hS; intro a hS
  refine Sq.guardYes hS rfl rfl rfl ?_
  refine r_load_rowS hS rfl (by repeat (first | exact In.here | refine In.there ?_)) Fp.ag26 (by rfl) rfl ?_; clear hS; intro a hS
  refine Sq.guardYes hS rfl rfl rfl ?_
  refine r_load_rowS hS rfl (by repeat (first | exact In.here | refine In.there ?_)) Fp.ag26 (by rfl) rfl ?_; clear hS; intro a hS
  refine Sq.guardYes hS rfl rfl rfl ?_
  refine r_call (l := [.tmp 78]) hS rfl rfl Fp.fn14 rfl ?_
  refine Calls.mono (refs_c kd ve q1 q2 q3 q4 c1 c2 c3 c4 dst src tok _ lst ln ph htag _) ?_
  rintro e w1 ⟨rfl, hE⟩
  replace hH := hH.ext hE
  refine ⟨_, rfl, hH.kp (by repeat (first | exact Sub.nil | refine Sub.cons ?_ ?_ | exact In.here | refine In.there ?_)), ?_⟩
  clear hS; intro a hS
  refine Sq.guardYes hS rfl rfl rfl ?_
  refine r_call (l := [.tmp 77, .tmp 79]) hS rfl rfl Fp.fn15 rfl ?_
  refine Calls.mono (same_c kd ve _ _ _ q1 q2 q3 q4 _ _ _ c1 c2 c3 c4 dst src tok _ lst ln ph htag _ hll (hlst.ext hH.mod) (hBda.bs (hH.get (b := bda) (by repeat (first | exact In.here | refine In.there ?_)))) (hd.ext hH.mod) (hBsa.bs (hH.get (b := bsa) (by repeat (first | exact In.here | refine In.there ?_)))) (hs.ext hH.mod) (hBta.bs (hH.get (b := bta) (by repeat (first | exact In.here | refine In.there ?_)))) (ht.ext hH.mod)) ?_
  rintro e w1 ⟨rfl, hE⟩
  replace hH := hH.ext hE
  refine ⟨_, rfl, hH.kp (by repeat (first | exact Sub.nil | refine Sub.cons ?_ ?_ | exact In.here | refine In.there ?_)), ?_⟩
  clear hS; intro a hS
  refine r_pickT hS trivial rfl rfl rfl rfl ?_; clear hS; intro a hS
  refine r_move hS trivial rfl rfl ?_; clear hS; intro a hS
  refine Sq.guardYes hS rfl rfl rfl ?_
  refine r_call (l := []) hS rfl rfl Fp.fn16 rfl ?_
  refine Calls.mono (names_c _) ?_
  rintro e w1 ⟨rfl, hE⟩
  replace hH := hH.ext hE
  refine ⟨_, rfl, hH.kp (by repeat (first | exact Sub.nil | refine Sub.cons ?_ ?_ | exact In.here | refine In.there ?_)), ?_⟩
  clear hS; intro a hS
  refine r_pickT hS trivial rfl rfl rfl rfl ?_; clear hS; intro a hS
  refine r_assign hS trivial rfl rfl ?_; clear hS; intro a hS
  refine Sq.nil ?_
  refine then_n ?_
  refine wp_ret ?_
  exact leave (.inl rfl) hS rfl (Res.tmp rfl Res.nil) ⟨rfl, hH.mod⟩


theorem puts_law (kd ve : Int) (q1 q2 q3 q4 : Option Addr) (c1 c2 c3 c4 : Nat) (dst src tok tag : List UInt8) (lst : List Int) (ln : Int) (ph : Bool) (htag : tag.length = 16) (n : Int) (low : Nat) (hlow : low < 18446744073709551616) (w0 : World) (WT : TypeId) (WF : Nat × Nat) (hw0 : w0.heap[0]? = some (.cells [.int .i64 6, .int .i64 14, .int .i64 30, .int .i64 62].toArray WT WF)) (hll : lst.length ≤ 1048576) (hbd : dst.length ≤ 1048576 ∧ src.length ≤ 1048576 ∧ tok.length ≤ 1048576) (hlst : IsA w0 q4 c4 lst) (hd : Bs w0 (.slice q1 dst.length c1) dst) (hs : Bs w0 (.slice q2 src.length c2) src) (ht : Bs w0 (.slice q3 tok.length c3) tok) : Calls Tryd.prog 6 #[.agg ([.int .i64 kd, .int .i64 ve, .slice q1 dst.length c1, .slice q2 src.length c2, .slice q3 tok.length c3, .int .i64 ln, .bool ph, .slice q4 lst.length c4] ++ hcells tag : List Value).toArray, .int .u64 (low : Int), .int .i64 n] w0 fun e w' => e = .returned (.bool true) ∧ Ext w0 w' := by
  by_cases hm : mayP kd dst.length src.length tok.length ln n lst.length (badN lst)
  · exact puts_ok kd ve q1 q2 q3 q4 c1 c2 c3 c4 dst src tok tag lst ln ph htag n low hlow w0 WT WF hw0 hll hbd hlst hd hs ht hm
  · exact puts_bad kd ve q1 q2 q3 q4 c1 c2 c3 c4 dst src tok tag lst ln ph htag n low hlow w0 WT WF hw0 hll hbd hlst hd hs ht hm

end Go.Proofs.YtcenionnedgadaaDoor
