/- StreamsNobody holds of every input up to the given bulk: tables that no call made have no streams, and limits that may not be make none. Part Streams5: walks and lemmas of the proof. -/
import Derived.Test.YtmbidmlinaafnaaGreatDoorStreams3
import Derived.Test.YtmbidmlinaafnaaGreatDoorStreams4
namespace Go.Proofs.YtmbidmlinaafnaaGreatDoor
open Go.Sym

theorem Fc.bsl71_2 : bslB Tryz.prog 71 2 = some (60, 1, [.pointer none, .pointer none]) := by kernel_rfl
theorem Fc.fn13 : isFn Tryz.prog 13 = true := by kernel_rfl
theorem Fc.fn14 : isFn Tryz.prog 14 = true := by kernel_rfl
theorem Fc.fn15 : isFn Tryz.prog 15 = true := by kernel_rfl
theorem Fc.fn16 : isFn Tryz.prog 16 = true := by kernel_rfl
theorem Fc.fn17 : isFn Tryz.prog 17 = true := by kernel_rfl
theorem Fc.fn18 : isFn Tryz.prog 18 = true := by kernel_rfl
theorem Fc.fn19 : isFn Tryz.prog 19 = true := by kernel_rfl
theorem Fc.fn20 : isFn Tryz.prog 20 = true := by kernel_rfl
theorem Fc.fn21 : isFn Tryz.prog 21 = true := by kernel_rfl
theorem Fc.fn22 : isFn Tryz.prog 22 = true := by kernel_rfl
theorem Fc.fn23 : isFn Tryz.prog 23 = true := by kernel_rfl
theorem Fc.fn24 : isFn Tryz.prog 24 = true := by kernel_rfl
theorem Fc.fn25 : isFn Tryz.prog 25 = true := by kernel_rfl
theorem Fc.fn26 : isFn Tryz.prog 26 = true := by kernel_rfl
theorem Fc.fn27 : isFn Tryz.prog 27 = true := by kernel_rfl
theorem Fc.fn28 : isFn Tryz.prog 28 = true := by kernel_rfl
theorem Fc.fo84_0 : foff Tryz.prog 84 0 = some 0 := by kernel_rfl
theorem Fc.isBool4 : isBool Tryz.prog 4 = true := by kernel_rfl
theorem Fc.isSlice22 : isSlice Tryz.prog 22 = true := by kernel_rfl
theorem Fc.isSlice23 : isSlice Tryz.prog 23 = true := by kernel_rfl
theorem Fc.isSlice71 : isSlice Tryz.prog 71 = true := by kernel_rfl
theorem Fc.sc60 : scB Tryz.prog 60 = true := by kernel_rfl
theorem Fc.slb71 : slB Tryz.prog 71 = some 1 := by kernel_rfl
theorem may_cases (a0 a1 a2 a3 a4 a5 : Int) : (¬ (0 ≤ a0)) ∨ ((0 ≤ a0) ∧ ¬ (a0 ≤ 1073741824)) ∨ ((0 ≤ a0) ∧ (a0 ≤ 1073741824) ∧ ¬ (0 ≤ a1)) ∨ ((0 ≤ a0) ∧ (a0 ≤ 1073741824) ∧ (0 ≤ a1) ∧ ¬ (a1 ≤ 1048576)) ∨ ((0 ≤ a0) ∧ (a0 ≤ 1073741824) ∧ (0 ≤ a1) ∧ (a1 ≤ 1048576) ∧ ¬ (0 ≤ a2)) ∨ ((0 ≤ a0) ∧ (a0 ≤ 1073741824) ∧ (0 ≤ a1) ∧ (a1 ≤ 1048576) ∧ (0 ≤ a2) ∧ ¬ (a2 ≤ 1048576)) ∨ ((0 ≤ a0) ∧ (a0 ≤ 1073741824) ∧ (0 ≤ a1) ∧ (a1 ≤ 1048576) ∧ (0 ≤ a2) ∧ (a2 ≤ 1048576) ∧ ¬ (0 ≤ a3)) ∨ ((0 ≤ a0) ∧ (a0 ≤ 1073741824) ∧ (0 ≤ a1) ∧ (a1 ≤ 1048576) ∧ (0 ≤ a2) ∧ (a2 ≤ 1048576) ∧ (0 ≤ a3) ∧ ¬ (a3 ≤ 1048576)) ∨ ((0 ≤ a0) ∧ (a0 ≤ 1073741824) ∧ (0 ≤ a1) ∧ (a1 ≤ 1048576) ∧ (0 ≤ a2) ∧ (a2 ≤ 1048576) ∧ (0 ≤ a3) ∧ (a3 ≤ 1048576) ∧ ¬ (0 ≤ a4)) ∨ ((0 ≤ a0) ∧ (a0 ≤ 1073741824) ∧ (0 ≤ a1) ∧ (a1 ≤ 1048576) ∧ (0 ≤ a2) ∧ (a2 ≤ 1048576) ∧ (0 ≤ a3) ∧ (a3 ≤ 1048576) ∧ (0 ≤ a4) ∧ ¬ (a4 ≤ 1024)) ∨ ((0 ≤ a0) ∧ (a0 ≤ 1073741824) ∧ (0 ≤ a1) ∧ (a1 ≤ 1048576) ∧ (0 ≤ a2) ∧ (a2 ≤ 1048576) ∧ (0 ≤ a3) ∧ (a3 ≤ 1048576) ∧ (0 ≤ a4) ∧ (a4 ≤ 1024) ∧ ¬ (0 ≤ a5)) ∨ ((0 ≤ a0) ∧ (a0 ≤ 1073741824) ∧ (0 ≤ a1) ∧ (a1 ≤ 1048576) ∧ (0 ≤ a2) ∧ (a2 ≤ 1048576) ∧ (0 ≤ a3) ∧ (a3 ≤ 1048576) ∧ (0 ≤ a4) ∧ (a4 ≤ 1024) ∧ (0 ≤ a5) ∧ ¬ (a5 ≤ 1024)) ∨ ((0 ≤ a0) ∧ (a0 ≤ 1073741824) ∧ (0 ≤ a1) ∧ (a1 ≤ 1048576) ∧ (0 ≤ a2) ∧ (a2 ≤ 1048576) ∧ (0 ≤ a3) ∧ (a3 ≤ 1048576) ∧ (0 ≤ a4) ∧ (a4 ≤ 1024) ∧ (0 ≤ a5) ∧ (a5 ≤ 1024)) := by
  by_cases g0 : 0 ≤ a0
  case neg => exact .inl g0
  by_cases g1 : a0 ≤ 1073741824
  case neg => exact .inr (.inl ⟨g0, g1⟩)
  by_cases g2 : 0 ≤ a1
  case neg => exact .inr (.inr (.inl ⟨g0, g1, g2⟩))
  by_cases g3 : a1 ≤ 1048576
  case neg => exact .inr (.inr (.inr (.inl ⟨g0, g1, g2, g3⟩)))
  by_cases g4 : 0 ≤ a2
  case neg => exact .inr (.inr (.inr (.inr (.inl ⟨g0, g1, g2, g3, g4⟩))))
  by_cases g5 : a2 ≤ 1048576
  case neg => exact .inr (.inr (.inr (.inr (.inr (.inl ⟨g0, g1, g2, g3, g4, g5⟩)))))
  by_cases g6 : 0 ≤ a3
  case neg => exact .inr (.inr (.inr (.inr (.inr (.inr (.inl ⟨g0, g1, g2, g3, g4, g5, g6⟩))))))
  by_cases g7 : a3 ≤ 1048576
  case neg => exact .inr (.inr (.inr (.inr (.inr (.inr (.inr (.inl ⟨g0, g1, g2, g3, g4, g5, g6, g7⟩)))))))
  by_cases g8 : 0 ≤ a4
  case neg => exact .inr (.inr (.inr (.inr (.inr (.inr (.inr (.inr (.inl ⟨g0, g1, g2, g3, g4, g5, g6, g7, g8⟩))))))))
  by_cases g9 : a4 ≤ 1024
  case neg => exact .inr (.inr (.inr (.inr (.inr (.inr (.inr (.inr (.inr (.inl ⟨g0, g1, g2, g3, g4, g5, g6, g7, g8, g9⟩)))))))))
  by_cases g10 : 0 ≤ a5
  case neg => exact .inr (.inr (.inr (.inr (.inr (.inr (.inr (.inr (.inr (.inr (.inl ⟨g0, g1, g2, g3, g4, g5, g6, g7, g8, g9, g10⟩))))))))))
  by_cases g11 : a5 ≤ 1024
  case neg => exact .inr (.inr (.inr (.inr (.inr (.inr (.inr (.inr (.inr (.inr (.inr (.inl ⟨g0, g1, g2, g3, g4, g5, g6, g7, g8, g9, g10, g11⟩)))))))))))
  exact .inr (.inr (.inr (.inr (.inr (.inr (.inr (.inr (.inr (.inr (.inr (.inr (⟨g0, g1, g2, g3, g4, g5, g6, g7, g8, g9, g10, g11⟩))))))))))))

set_option maxRecDepth 100000 in
set_option maxHeartbeats 8000000 in
theorem nobody_law (a0 a1 a2 a3 a4 a5 idn : Int) (v : Value) (w0 : World) : Calls Tryz.prog 4 #[.agg #[.int .i64 a0, .int .i64 a1, .int .i64 a2, .int .i64 a3, .int .i64 a4, .int .i64 a5], .int .i64 idn, v] w0 fun e w' => e = .returned (.bool true) ∧ Ext w0 w' := by
  refine enter Tryz.func4 rfl rfl rfl ?_
  intro a hS
  have hH := Hp.start w0 (Nobody)
  refine c_seq ?_
  refine reg_plain w0 (Nobody) ?_
  refine r_box hS hH (by repeat (first | exact Sub.nil | refine Sub.cons ?_ ?_ | exact In.here | refine In.there ?_)) rfl rfl rfl ?_
  clear hS hH; intro a w b3 hb3 hwb3 hS hH
  refine r_assign hS hH.kp0 rfl rfl ?_; clear hS; intro a hS
  refine Sq.nil ?_
  refine then_n ?_
  refine c_seq ?_
  refine c_seq ?_
  refine reg_plain w0 (Nobody) ?_
  refine r_buildS (parts := []) hS hH.kp0 rfl rfl Fc.zc70 Fc.pl70 (by rfl) ?_; clear hS; intro a hS
  refine r_box hS hH (by repeat (first | exact Sub.nil | refine Sub.cons ?_ ?_ | exact In.here | refine In.there ?_)) rfl rfl rfl ?_
  clear hS hH; intro a w b30 hb30 hwb30 hS hH
  refine r_buildSlice (parts := [(0, .const (.pointer none)), (1, .tmp 30)]) hS hH (by repeat (first | exact Sub.nil | refine Sub.cons ?_ ?_ | exact In.here | refine In.there ?_)) rfl Fc.bsl71_2 (by rfl) rfl ?_
  clear hS hH; intro a w b31 hb31 hwb31 hS hH
  refine r_lenSl hS hH.kp0 rfl Fc.isSlice71 rfl ?_; clear hS; intro a hS
  refine r_move hS hH.kp0 rfl rfl ?_; clear hS; intro a hS
  refine Sq.nil ?_
  refine then_n ?_
  refine wp_block ?_
  refine wp_loop_rounds 3 ?_
  refine rnd ?_
  refine c_seq ?_
  refine reg_plain w0 (Nobody) ?_
  refine r_lss hS hH.kp0 rfl rfl rfl ?_; clear hS; intro a hS
  refine Sq.nil ?_
  refine then_n ?_
  refine c_seq ?_
  refine c_condT hS rfl rfl ?_
  refine wp_skip ?_
  refine then_n ?_
  refine c_seq ?_
  refine wp_block ?_
  refine c_seq ?_
  refine reg_plain w0 (Nobody) ?_
  refine r_indexAddrS hS hH.kp0 rfl rfl Fc.slb71 rfl (by decide) rfl ?_; clear hS; intro a hS
  refine r_load_sc hS hH (by repeat (first | exact Sub.nil | refine Sub.cons ?_ ?_ | exact In.here | refine In.there ?_)) rfl (by repeat (first | exact In.here | refine In.there ?_)) Fc.sc60 (by rfl) rfl ?_; clear hS; intro a hS
  refine r_assign hS hH.kp0 rfl rfl ?_; clear hS; intro a hS
  refine Sq.nil ?_
  refine then_n ?_
  refine c_seq ?_
  refine reg_plain w0 (Nobody) ?_
  refine r_move hS hH.kp0 rfl rfl ?_; clear hS; intro a hS
  refine r_call (l := [.tmp 38, .const (.bool true)]) hS rfl rfl Fc.fn13 rfl ?_
  refine Calls.mono (Open_no _ _ _ (by first | exact .inl rfl | exact .inr ⟨_, _, _, rfl, hH.get (by repeat (first | exact In.here | refine In.there ?_))⟩)) ?_
  rintro e w1 ⟨rfl, hE⟩
  replace hH := hH.ext hE
  refine ⟨_, rfl, hH.kp0, ?_⟩
  clear hS; intro a hS
  refine r_move hS hH.kp0 rfl rfl ?_; clear hS; intro a hS
  refine r_extract hS hH.kp0 rfl rfl rfl ?_; clear hS; intro a hS
  refine r_extract hS hH.kp0 rfl rfl rfl ?_; clear hS; intro a hS
  refine r_assign hS hH.kp0 rfl rfl ?_; clear hS; intro a hS
  refine r_assign hS hH.kp0 rfl rfl ?_; clear hS; intro a hS
  refine Sq.nil ?_
  refine then_n ?_
  refine c_seq ?_
  refine reg_plain w0 (Nobody) ?_
  refine r_move hS hH.kp0 rfl rfl ?_; clear hS; intro a hS
  refine r_call (l := [.tmp 43]) hS rfl rfl Fc.fn14 rfl ?_
  refine Calls.mono (Accept_no _ _ (by first | exact .inl rfl | exact .inr ⟨_, _, _, rfl, hH.get (by repeat (first | exact In.here | refine In.there ?_))⟩)) ?_
  rintro e w1 ⟨rfl, hE⟩
  replace hH := hH.ext hE
  refine ⟨_, rfl, hH.kp0, ?_⟩
  clear hS; intro a hS
  refine r_move hS hH.kp0 rfl rfl ?_; clear hS; intro a hS
  refine r_extract hS hH.kp0 rfl rfl rfl ?_; clear hS; intro a hS
  refine r_extract hS hH.kp0 rfl rfl rfl ?_; clear hS; intro a hS
  refine r_assign hS hH.kp0 rfl rfl ?_; clear hS; intro a hS
  refine r_assign hS hH.kp0 rfl rfl ?_; clear hS; intro a hS
  refine Sq.nil ?_
  refine then_n ?_
  refine c_seq ?_
  refine reg_plain w0 (Nobody) ?_
  refine r_move hS hH.kp0 rfl rfl ?_; clear hS; intro a hS
  refine r_move hS hH.kp0 rfl rfl ?_; clear hS; intro a hS
  refine r_move hS hH.kp0 rfl rfl ?_; clear hS; intro a hS
  refine r_call (l := [.tmp 48, .tmp 49, .tmp 50]) hS rfl rfl Fc.fn15 rfl ?_
  refine Calls.mono (Write_no _ _ _ _ (by first | exact .inl rfl | exact .inr ⟨_, _, _, rfl, hH.get (by repeat (first | exact In.here | refine In.there ?_))⟩)) ?_
  rintro e w1 ⟨rfl, hE⟩
  replace hH := hH.ext hE
  refine ⟨_, rfl, hH.kp0, ?_⟩
  clear hS; intro a hS
  refine r_move hS hH.kp0 rfl rfl ?_; clear hS; intro a hS
  refine r_extract hS hH.kp0 rfl rfl rfl ?_; clear hS; intro a hS
  refine r_extract hS hH.kp0 rfl rfl rfl ?_; clear hS; intro a hS
  refine r_assign hS hH.kp0 rfl rfl ?_; clear hS; intro a hS
  refine r_assign hS hH.kp0 rfl rfl ?_; clear hS; intro a hS
  refine Sq.nil ?_
  refine then_n ?_
  refine c_seq ?_
  refine reg_plain w0 (Nobody) ?_
  refine r_move hS hH.kp0 rfl rfl ?_; clear hS; intro a hS
  refine r_move hS hH.kp0 rfl rfl ?_; clear hS; intro a hS
  refine r_call (l := [.tmp 55, .tmp 56, .const (.int .i64 9)]) hS rfl rfl Fc.fn16 rfl ?_
  refine Calls.mono (Read_no _ _ _ _ (by first | exact .inl rfl | exact .inr ⟨_, _, _, rfl, hH.get (by repeat (first | exact In.here | refine In.there ?_))⟩)) ?_
  rintro e w1 ⟨rfl, hE⟩
  replace hH := hH.ext hE
  refine ⟨_, rfl, hH.kp0, ?_⟩
  clear hS; intro a hS
  refine r_move hS hH.kp0 rfl rfl ?_; clear hS; intro a hS
  refine r_extract hS hH.kp0 rfl rfl rfl ?_; clear hS; intro a hS
  refine r_extract hS hH.kp0 rfl rfl rfl ?_; clear hS; intro a hS
  refine r_extract hS hH.kp0 rfl rfl rfl ?_; clear hS; intro a hS
  refine r_assign hS hH.kp0 rfl rfl ?_; clear hS; intro a hS
  refine r_assign hS hH.kp0 rfl rfl ?_; clear hS; intro a hS
  refine r_assign hS hH.kp0 rfl rfl ?_; clear hS; intro a hS
  refine Sq.nil ?_
  refine then_n ?_
  refine c_seq ?_
  refine reg_plain w0 (Nobody) ?_
  refine r_move hS hH.kp0 rfl rfl ?_; clear hS; intro a hS
  refine r_move hS hH.kp0 rfl rfl ?_; clear hS; intro a hS
  refine r_call (l := [.tmp 62, .tmp 63]) hS rfl rfl Fc.fn17 rfl ?_
  refine Calls.mono (Code_no _ _ _ (by first | exact .inl rfl | exact .inr ⟨_, _, _, rfl, hH.get (by repeat (first | exact In.here | refine In.there ?_))⟩)) ?_
  rintro e w1 ⟨rfl, hE⟩
  replace hH := hH.ext hE
  refine ⟨_, rfl, hH.kp0, ?_⟩
  clear hS; intro a hS
  refine r_move hS hH.kp0 rfl rfl ?_; clear hS; intro a hS
  refine r_extract hS hH.kp0 rfl rfl rfl ?_; clear hS; intro a hS
  refine r_extract hS hH.kp0 rfl rfl rfl ?_; clear hS; intro a hS
  refine r_assign hS hH.kp0 rfl rfl ?_; clear hS; intro a hS
  refine r_assign hS hH.kp0 rfl rfl ?_; clear hS; intro a hS
  refine Sq.nil ?_
  refine then_n ?_
  refine c_seq ?_
  refine reg_plain w0 (Nobody) ?_
  refine r_move hS hH.kp0 rfl rfl ?_; clear hS; intro a hS
  refine r_call (l := [.tmp 68, .const (.int .i64 1000)]) hS rfl rfl Fc.fn18 rfl ?_
  refine Calls.mono (Next_no _ _ _ (by first | exact .inl rfl | exact .inr ⟨_, _, _, rfl, hH.get (by repeat (first | exact In.here | refine In.there ?_))⟩)) ?_
  rintro e w1 ⟨rfl, hE⟩
  replace hH := hH.ext hE
  refine ⟨_, rfl, hH.kp0, ?_⟩
  clear hS; intro a hS
  refine r_move hS hH.kp0 rfl rfl ?_; clear hS; intro a hS
  refine r_extract hS hH.kp0 rfl rfl rfl ?_; clear hS; intro a hS
  refine r_extract hS hH.kp0 rfl rfl rfl ?_; clear hS; intro a hS
  refine r_alloc hS hH (by repeat (first | exact Sub.nil | refine Sub.cons ?_ ?_ | exact In.here | refine In.there ?_)) Fc.zc84 rfl ?_
  clear hS hH; intro a w b20 hb20 hwb20 hS hH
  refine r_store_row hS hH rfl rfl (by first | exact .here | exact .there .here | exact .there (.there .here) | exact .there (.there (.there .here)) | exact .there (.there (.there (.there .here))) | exact .there (.there (.there (.there (.there .here)))) | exact .there (.there (.there (.there (.there (.there .here))))) | exact .there (.there (.there (.there (.there (.there (.there .here)))))) | exact .there (.there (.there (.there (.there (.there (.there (.there .here))))))) | exact .there (.there (.there (.there (.there (.there (.there (.there (.there .here)))))))) | exact .there (.there (.there (.there (.there (.there (.there (.there (.there (.there .here))))))))) | exact .there (.there (.there (.there (.there (.there (.there (.there (.there (.there (.there .here)))))))))) | exact .there (.there (.there (.there (.there (.there (.there (.there (.there (.there (.there (.there .here))))))))))) | exact .there (.there (.there (.there (.there (.there (.there (.there (.there (.there (.there (.there (.there .here)))))))))))) | exact .there (.there (.there (.there (.there (.there (.there (.there (.there (.there (.there (.there (.there (.there .here))))))))))))) | exact .there (.there (.there (.there (.there (.there (.there (.there (.there (.there (.there (.there (.there (.there (.there .here))))))))))))))) (by repeat (first | exact Sub.nil | refine Sub.cons ?_ ?_ | exact In.here | refine In.there ?_)) Fc.sz84 (by first | exact hcells_one _ | exact of_decide_eq_true rfl) (by rfl) (by first | exact .inr (by assumption) | exact .inl (by first | assumption | rfl)) ?_
  clear hH; intro w hH
  refine r_assign hS hH.kp0 rfl rfl ?_; clear hS; intro a hS
  refine Sq.nil ?_
  refine then_n ?_
  refine c_seq ?_
  refine reg_plain w0 (Nobody) ?_
  refine r_move hS hH.kp0 rfl rfl ?_; clear hS; intro a hS
  refine r_move hS hH.kp0 rfl rfl ?_; clear hS; intro a hS
  refine r_buildS (parts := [(0, .const (.int .i64 8)), (1, .tmp 73)]) hS hH.kp0 rfl rfl Fc.zc84 Fc.pl84 (by rfl) ?_; clear hS; intro a hS
  refine r_call (l := [.tmp 72, .tmp 74]) hS rfl rfl Fc.fn19 rfl ?_
  refine Calls.mono (Acked_no _ _ _ (by first | exact .inl rfl | exact .inr ⟨_, _, _, rfl, hH.get (by repeat (first | exact In.here | refine In.there ?_))⟩)) ?_
  rintro e w1 ⟨rfl, hE⟩
  replace hH := hH.ext hE
  refine ⟨_, rfl, hH.kp0, ?_⟩
  clear hS; intro a hS
  refine Sq.nil ?_
  refine then_n ?_
  refine c_seq ?_
  refine reg_plain w0 (Nobody) ?_
  refine r_move hS hH.kp0 rfl rfl ?_; clear hS; intro a hS
  refine r_move hS hH.kp0 rfl rfl ?_; clear hS; intro a hS
  refine r_buildS (parts := [(0, .const (.int .i64 8)), (1, .tmp 77)]) hS hH.kp0 rfl rfl Fc.zc84 Fc.pl84 (by rfl) ?_; clear hS; intro a hS
  refine r_call (l := [.tmp 76, .tmp 78]) hS rfl rfl Fc.fn20 rfl ?_
  refine Calls.mono (Lost_no _ _ _ (by first | exact .inl rfl | exact .inr ⟨_, _, _, rfl, hH.get (by repeat (first | exact In.here | refine In.there ?_))⟩)) ?_
  rintro e w1 ⟨rfl, hE⟩
  replace hH := hH.ext hE
  refine ⟨_, rfl, hH.kp0, ?_⟩
  clear hS; intro a hS
  refine Sq.nil ?_
  refine then_n ?_
  refine c_seq ?_
  refine reg_plain w0 (Nobody) ?_
  refine r_move hS hH.kp0 rfl rfl ?_; clear hS; intro a hS
  refine r_call (l := [.tmp 81]) hS rfl rfl Fc.fn21 rfl ?_
  refine Calls.mono (Told_no _ _ (by first | exact .inl rfl | exact .inr ⟨_, _, _, rfl, hH.get (by repeat (first | exact In.here | refine In.there ?_))⟩)) ?_
  rintro e w1 ⟨rfl, hE⟩
  replace hH := hH.ext hE
  refine ⟨_, rfl, hH.kp0, ?_⟩
  clear hS; intro a hS
  refine r_move hS hH.kp0 rfl rfl ?_; clear hS; intro a hS
  refine r_extract hS hH.kp0 rfl rfl rfl ?_; clear hS; intro a hS
  refine r_extract hS hH.kp0 rfl rfl rfl ?_; clear hS; intro a hS
  refine r_extract hS hH.kp0 rfl rfl rfl ?_; clear hS; intro a hS
  refine r_extract hS hH.kp0 rfl rfl rfl ?_; clear hS; intro a hS
  refine r_assign hS hH.kp0 rfl rfl ?_; clear hS; intro a hS
  refine r_assign hS hH.kp0 rfl rfl ?_; clear hS; intro a hS
  refine r_assign hS hH.kp0 rfl rfl ?_; clear hS; intro a hS
  refine r_assign hS hH.kp0 rfl rfl ?_; clear hS; intro a hS
  refine Sq.nil ?_
  refine then_n ?_
  refine c_seq ?_
  refine reg_plain w0 (Nobody) ?_
  refine r_move hS hH.kp0 rfl rfl ?_; clear hS; intro a hS
  refine r_neq hS hH.kp0 rfl rfl rfl ?_; clear hS; intro a hS
  refine r_move hS hH.kp0 rfl rfl ?_; clear hS; intro a hS
  refine Sq.guardYes hS rfl rfl rfl ?_
  refine r_move hS hH.kp0 rfl rfl ?_; clear hS; intro a hS
  refine Sq.guardYes hS rfl rfl rfl ?_
  refine r_neq hS hH.kp0 rfl rfl rfl ?_; clear hS; intro a hS
  refine r_pickF hS hH.kp0 rfl rfl rfl rfl ?_; clear hS; intro a hS
  refine r_move hS hH.kp0 rfl rfl ?_; clear hS; intro a hS
  refine Sq.guardYes hS rfl rfl rfl ?_
  refine r_move hS hH.kp0 rfl rfl ?_; clear hS; intro a hS
  refine Sq.guardYes hS rfl rfl rfl ?_
  refine r_neq hS hH.kp0 rfl rfl rfl ?_; clear hS; intro a hS
  refine r_pickF hS hH.kp0 rfl rfl rfl rfl ?_; clear hS; intro a hS
  refine r_move hS hH.kp0 rfl rfl ?_; clear hS; intro a hS
  refine Sq.guardYes hS rfl rfl rfl ?_
  refine r_move hS hH.kp0 rfl rfl ?_; clear hS; intro a hS
  refine r_pickF hS hH.kp0 rfl rfl rfl rfl ?_; clear hS; intro a hS
  refine r_move hS hH.kp0 rfl rfl ?_; clear hS; intro a hS
  refine Sq.guardYes hS rfl rfl rfl ?_
  refine r_move hS hH.kp0 rfl rfl ?_; clear hS; intro a hS
  refine Sq.guardYes hS rfl rfl rfl ?_
  refine r_neq hS hH.kp0 rfl rfl rfl ?_; clear hS; intro a hS
  refine r_pickF hS hH.kp0 rfl rfl rfl rfl ?_; clear hS; intro a hS
  refine r_move hS hH.kp0 rfl rfl ?_; clear hS; intro a hS
  refine Sq.guardYes hS rfl rfl rfl ?_
  refine r_move hS hH.kp0 rfl rfl ?_; clear hS; intro a hS
  refine Sq.guardYes hS rfl rfl rfl ?_
  refine r_neq hS hH.kp0 rfl rfl rfl ?_; clear hS; intro a hS
  refine r_pickF hS hH.kp0 rfl rfl rfl rfl ?_; clear hS; intro a hS
  refine r_move hS hH.kp0 rfl rfl ?_; clear hS; intro a hS
  refine Sq.guardYes hS rfl rfl rfl ?_
  refine r_move hS hH.kp0 rfl rfl ?_; clear hS; intro a hS
  refine Sq.guardYes hS rfl rfl rfl ?_
  refine r_move hS hH.kp0 rfl rfl ?_; clear hS; intro a hS
  refine Sq.guardYes hS rfl rfl rfl ?_
  refine r_call (l := [.tmp 109, .tmp 110]) hS rfl rfl Fc.fn22 rfl ?_
  refine Calls.mono (Finish_no _ _ _ (by first | exact .inl rfl | exact .inr ⟨_, _, _, rfl, hH.get (by repeat (first | exact In.here | refine In.there ?_))⟩)) ?_
  rintro e w1 ⟨rfl, hE⟩
  replace hH := hH.ext hE
  refine ⟨_, rfl, hH.kp0, ?_⟩
  clear hS; intro a hS
  refine Sq.guardYes hS rfl rfl rfl ?_
  refine r_neq hS hH.kp0 rfl rfl rfl ?_; clear hS; intro a hS
  refine r_pickF hS hH.kp0 rfl rfl rfl rfl ?_; clear hS; intro a hS
  refine r_move hS hH.kp0 rfl rfl ?_; clear hS; intro a hS
  refine Sq.guardYes hS rfl rfl rfl ?_
  refine r_move hS hH.kp0 rfl rfl ?_; clear hS; intro a hS
  refine Sq.guardYes hS rfl rfl rfl ?_
  refine r_move hS hH.kp0 rfl rfl ?_; clear hS; intro a hS
  refine Sq.guardYes hS rfl rfl rfl ?_
  refine r_call (l := [.tmp 115, .tmp 116, .const (.int .i64 0)]) hS rfl rfl Fc.fn23 rfl ?_
  refine Calls.mono (Reset_no _ _ _ _ (by first | exact .inl rfl | exact .inr ⟨_, _, _, rfl, hH.get (by repeat (first | exact In.here | refine In.there ?_))⟩)) ?_
  rintro e w1 ⟨rfl, hE⟩
  replace hH := hH.ext hE
  refine ⟨_, rfl, hH.kp0, ?_⟩
  clear hS; intro a hS
  refine Sq.guardYes hS rfl rfl rfl ?_
  refine r_neq hS hH.kp0 rfl rfl rfl ?_; clear hS; intro a hS
  refine r_pickF hS hH.kp0 rfl rfl rfl rfl ?_; clear hS; intro a hS
  refine r_move hS hH.kp0 rfl rfl ?_; clear hS; intro a hS
  refine Sq.guardYes hS rfl rfl rfl ?_
  refine r_move hS hH.kp0 rfl rfl ?_; clear hS; intro a hS
  refine Sq.guardYes hS rfl rfl rfl ?_
  refine r_move hS hH.kp0 rfl rfl ?_; clear hS; intro a hS
  refine Sq.guardYes hS rfl rfl rfl ?_
  refine r_call (l := [.tmp 121, .tmp 122, .const (.int .i64 0)]) hS rfl rfl Fc.fn24 rfl ?_
  refine Calls.mono (Stop_no _ _ _ _ (by first | exact .inl rfl | exact .inr ⟨_, _, _, rfl, hH.get (by repeat (first | exact In.here | refine In.there ?_))⟩)) ?_
  rintro e w1 ⟨rfl, hE⟩
  replace hH := hH.ext hE
  refine ⟨_, rfl, hH.kp0, ?_⟩
  clear hS; intro a hS
  refine Sq.guardYes hS rfl rfl rfl ?_
  refine r_neq hS hH.kp0 rfl rfl rfl ?_; clear hS; intro a hS
  refine r_pickF hS hH.kp0 rfl rfl rfl rfl ?_; clear hS; intro a hS
  refine r_move hS hH.kp0 rfl rfl ?_; clear hS; intro a hS
  refine Sq.guardYes hS rfl rfl rfl ?_
  refine r_move hS hH.kp0 rfl rfl ?_; clear hS; intro a hS
  refine Sq.guardYes hS rfl rfl rfl ?_
  refine r_lenSl hS hH.kp0 rfl Fc.isSlice22 rfl ?_; clear hS; intro a hS
  refine Sq.guardYes hS rfl rfl rfl ?_
  refine r_neq hS hH.kp0 rfl rfl rfl ?_; clear hS; intro a hS
  refine r_pickF hS hH.kp0 rfl rfl rfl rfl ?_; clear hS; intro a hS
  refine r_move hS hH.kp0 rfl rfl ?_; clear hS; intro a hS
  refine Sq.guardYes hS rfl rfl rfl ?_
  refine r_move hS hH.kp0 rfl rfl ?_; clear hS; intro a hS
  refine r_pickF hS hH.kp0 rfl rfl rfl rfl ?_; clear hS; intro a hS
  refine r_move hS hH.kp0 rfl rfl ?_; clear hS; intro a hS
  refine Sq.guardYes hS rfl rfl rfl ?_
  refine r_move hS hH.kp0 rfl rfl ?_; clear hS; intro a hS
  refine Sq.guardYes hS rfl rfl rfl ?_
  refine r_neq hS hH.kp0 rfl rfl rfl ?_; clear hS; intro a hS
  refine r_pickF hS hH.kp0 rfl rfl rfl rfl ?_; clear hS; intro a hS
  refine r_move hS hH.kp0 rfl rfl ?_; clear hS; intro a hS
  refine Sq.guardYes hS rfl rfl rfl ?_
  refine r_move hS hH.kp0 rfl rfl ?_; clear hS; intro a hS
  refine Sq.guardYes hS rfl rfl rfl ?_
  refine r_neq hS hH.kp0 rfl rfl rfl ?_; clear hS; intro a hS
  refine r_pickF hS hH.kp0 rfl rfl rfl rfl ?_; clear hS; intro a hS
  refine r_move hS hH.kp0 rfl rfl ?_; clear hS; intro a hS
  refine Sq.guardYes hS rfl rfl rfl ?_
  refine r_move hS hH.kp0 rfl rfl ?_; clear hS; intro a hS
  refine r_pickF hS hH.kp0 rfl rfl rfl rfl ?_; clear hS; intro a hS
  refine r_move hS hH.kp0 rfl rfl ?_; clear hS; intro a hS
  refine Sq.guardYes hS rfl rfl rfl ?_
  refine r_move hS hH.kp0 rfl rfl ?_; clear hS; intro a hS
  refine Sq.guardYes hS rfl rfl rfl ?_
  refine r_call (l := [.tmp 146]) hS rfl rfl Fc.fn25 rfl ?_
  refine Calls.mono (Readable_no _ _ (by first | exact .inl rfl | exact .inr ⟨_, _, _, rfl, hH.get (by repeat (first | exact In.here | refine In.there ?_))⟩)) ?_
  rintro e w1 ⟨rfl, hE⟩
  replace hH := hH.ext hE
  refine ⟨_, rfl, hH.kp0, ?_⟩
  clear hS; intro a hS
  refine Sq.guardYes hS rfl rfl rfl ?_
  refine r_lenSl hS hH.kp0 rfl Fc.isSlice23 rfl ?_; clear hS; intro a hS
  refine Sq.guardYes hS rfl rfl rfl ?_
  refine r_neq hS hH.kp0 rfl rfl rfl ?_; clear hS; intro a hS
  refine r_pickF hS hH.kp0 rfl rfl rfl rfl ?_; clear hS; intro a hS
  refine r_move hS hH.kp0 rfl rfl ?_; clear hS; intro a hS
  refine Sq.guardYes hS rfl rfl rfl ?_
  refine r_move hS hH.kp0 rfl rfl ?_; clear hS; intro a hS
  refine Sq.guardYes hS rfl rfl rfl ?_
  refine r_buildS (parts := [(0, .const (.int .i64 1))]) hS hH.kp0 rfl rfl Fc.zc84 Fc.pl84 (by rfl) ?_; clear hS; intro a hS
  refine Sq.guardYes hS rfl rfl rfl ?_
  refine r_call (l := [.tmp 152, .tmp 153]) hS rfl rfl Fc.fn27 rfl ?_
  refine Calls.mono (Take_no _ _ _ (by first | exact .inl rfl | exact .inr ⟨_, _, _, rfl, hH.get (by repeat (first | exact In.here | refine In.there ?_))⟩)) ?_
  rintro e w1 ⟨rfl, hE⟩
  replace hH := hH.ext hE
  refine ⟨_, rfl, hH.kp0, ?_⟩
  clear hS; intro a hS
  refine Sq.guardYes hS rfl rfl rfl ?_
  refine r_makeIface hS hH.kp0 rfl Fc.cc41 rfl ?_; clear hS; intro a hS
  refine Sq.guardYes hS rfl rfl rfl ?_
  refine r_call (l := [.tmp 154, .tmp 155]) hS rfl rfl Fc.fn26 rfl ?_
  refine Calls.mono (errIs_c _) ?_
  rintro e w1 ⟨rfl, hE⟩
  replace hH := hH.ext hE
  refine ⟨_, rfl, hH.kp0, ?_⟩
  clear hS; intro a hS
  refine Sq.guardYes hS rfl rfl rfl ?_
  refine r_not hS hH.kp0 rfl rfl ?_; clear hS; intro a hS
  refine r_pickF hS hH.kp0 rfl rfl rfl rfl ?_; clear hS; intro a hS
  refine r_move hS hH.kp0 rfl rfl ?_; clear hS; intro a hS
  refine Sq.guardYes hS rfl rfl rfl ?_
  refine r_move hS hH.kp0 rfl rfl ?_; clear hS; intro a hS
  refine r_pickF hS hH.kp0 rfl rfl rfl rfl ?_; clear hS; intro a hS
  refine r_move hS hH.kp0 rfl rfl ?_; clear hS; intro a hS
  refine Sq.guardYes hS rfl rfl rfl ?_
  refine r_fieldAddr hS hH.kp0 rfl Fc.fo84_0 rfl ?_; clear hS; intro a hS
  refine Sq.guardYes hS rfl rfl rfl ?_
  refine r_load_sc hS hH (by repeat (first | exact Sub.nil | refine Sub.cons ?_ ?_ | exact In.here | refine In.there ?_)) rfl (by repeat (first | exact In.here | refine In.there ?_)) Fc.sc3 (by rfl) rfl ?_; clear hS; intro a hS
  refine Sq.guardYes hS rfl rfl rfl ?_
  refine r_neq hS hH.kp0 rfl rfl rfl ?_; clear hS; intro a hS
  refine r_pickF hS hH.kp0 rfl rfl rfl rfl ?_; clear hS; intro a hS
  refine r_move hS hH.kp0 rfl rfl ?_; clear hS; intro a hS
  refine Sq.guardYes hS rfl rfl rfl ?_
  refine r_move hS hH.kp0 rfl rfl ?_; clear hS; intro a hS
  refine Sq.guardYes hS rfl rfl rfl ?_
  refine r_neq hS hH.kp0 rfl rfl rfl ?_; clear hS; intro a hS
  refine r_pickF hS hH.kp0 rfl rfl rfl rfl ?_; clear hS; intro a hS
  refine r_move hS hH.kp0 rfl rfl ?_; clear hS; intro a hS
  refine Sq.guardYes hS rfl rfl rfl ?_
  refine r_move hS hH.kp0 rfl rfl ?_; clear hS; intro a hS
  refine Sq.guardYes hS rfl rfl rfl ?_
  refine r_neq hS hH.kp0 rfl rfl rfl ?_; clear hS; intro a hS
  refine r_pickF hS hH.kp0 rfl rfl rfl rfl ?_; clear hS; intro a hS
  refine r_move hS hH.kp0 rfl rfl ?_; clear hS; intro a hS
  refine Sq.guardYes hS rfl rfl rfl ?_
  refine r_move hS hH.kp0 rfl rfl ?_; clear hS; intro a hS
  refine Sq.guardYes hS rfl rfl rfl ?_
  refine r_neq hS hH.kp0 rfl rfl rfl ?_; clear hS; intro a hS
  refine r_pickF hS hH.kp0 rfl rfl rfl rfl ?_; clear hS; intro a hS
  refine r_move hS hH.kp0 rfl rfl ?_; clear hS; intro a hS
  refine Sq.guardYes hS rfl rfl rfl ?_
  refine r_move hS hH.kp0 rfl rfl ?_; clear hS; intro a hS
  refine Sq.guardYes hS rfl rfl rfl ?_
  refine r_neq hS hH.kp0 rfl rfl rfl ?_; clear hS; intro a hS
  refine r_pickF hS hH.kp0 rfl rfl rfl rfl ?_; clear hS; intro a hS
  refine Sq.nil ?_
  refine then_n ?_
  refine c_condF hS rfl rfl ?_
  refine wp_skip ?_
  refine blk_n ?_
  refine then_n ?_
  refine reg_plain w0 (Nobody) ?_
  first | refine r_add hS hH.kp0 rfl rfl rfl (by omega) ?_ | refine r_addw hS hH.kp0 rfl rfl rfl ?_
  clear hS; intro a hS
  refine r_move hS hH.kp0 rfl rfl ?_; clear hS; intro a hS
  refine Sq.nil ?_
  refine then_n ?_
  refine rnd ?_
  refine c_seq ?_
  refine reg_plain w0 (Nobody) ?_
  refine r_lss hS hH.kp0 rfl rfl rfl ?_; clear hS; intro a hS
  refine Sq.nil ?_
  refine then_n ?_
  refine c_seq ?_
  refine c_condT hS rfl rfl ?_
  refine wp_skip ?_
  refine then_n ?_
  refine c_seq ?_
  refine wp_block ?_
  refine c_seq ?_
  refine reg_plain w0 (Nobody) ?_
  refine r_indexAddrS hS hH.kp0 rfl rfl Fc.slb71 rfl (by decide) rfl ?_; clear hS; intro a hS
  refine r_load_sc hS hH (by repeat (first | exact Sub.nil | refine Sub.cons ?_ ?_ | exact In.here | refine In.there ?_)) rfl (by repeat (first | exact In.here | refine In.there ?_)) Fc.sc60 (by rfl) rfl ?_; clear hS; intro a hS
  refine r_assign hS hH.kp0 rfl rfl ?_; clear hS; intro a hS
  refine Sq.nil ?_
  refine then_n ?_
  refine c_seq ?_
  refine reg_plain w0 (Nobody) ?_
  refine r_move hS hH.kp0 rfl rfl ?_; clear hS; intro a hS
  refine r_call (l := [.tmp 38, .const (.bool true)]) hS rfl rfl Fc.fn13 rfl ?_
  refine Calls.mono (Open_no _ _ _ (by first | exact .inl rfl | exact .inr ⟨_, _, _, rfl, hH.get (by repeat (first | exact In.here | refine In.there ?_))⟩)) ?_
  rintro e w1 ⟨rfl, hE⟩
  replace hH := hH.ext hE
  refine ⟨_, rfl, hH.kp0, ?_⟩
  clear hS; intro a hS
  refine r_move hS hH.kp0 rfl rfl ?_; clear hS; intro a hS
  refine r_extract hS hH.kp0 rfl rfl rfl ?_; clear hS; intro a hS
  refine r_extract hS hH.kp0 rfl rfl rfl ?_; clear hS; intro a hS
  refine r_assign hS hH.kp0 rfl rfl ?_; clear hS; intro a hS
  refine r_assign hS hH.kp0 rfl rfl ?_; clear hS; intro a hS
  refine Sq.nil ?_
  refine then_n ?_
  refine c_seq ?_
  refine reg_plain w0 (Nobody) ?_
  refine r_move hS hH.kp0 rfl rfl ?_; clear hS; intro a hS
  refine r_call (l := [.tmp 43]) hS rfl rfl Fc.fn14 rfl ?_
  refine Calls.mono (Accept_no _ _ (by first | exact .inl rfl | exact .inr ⟨_, _, _, rfl, hH.get (by repeat (first | exact In.here | refine In.there ?_))⟩)) ?_
  rintro e w1 ⟨rfl, hE⟩
  replace hH := hH.ext hE
  refine ⟨_, rfl, hH.kp0, ?_⟩
  clear hS; intro a hS
  refine r_move hS hH.kp0 rfl rfl ?_; clear hS; intro a hS
  refine r_extract hS hH.kp0 rfl rfl rfl ?_; clear hS; intro a hS
  refine r_extract hS hH.kp0 rfl rfl rfl ?_; clear hS; intro a hS
  refine r_assign hS hH.kp0 rfl rfl ?_; clear hS; intro a hS
  refine r_assign hS hH.kp0 rfl rfl ?_; clear hS; intro a hS
  refine Sq.nil ?_
  refine then_n ?_
  refine c_seq ?_
  refine reg_plain w0 (Nobody) ?_
  refine r_move hS hH.kp0 rfl rfl ?_; clear hS; intro a hS
  refine r_move hS hH.kp0 rfl rfl ?_; clear hS; intro a hS
  refine r_move hS hH.kp0 rfl rfl ?_; clear hS; intro a hS
  refine r_call (l := [.tmp 48, .tmp 49, .tmp 50]) hS rfl rfl Fc.fn15 rfl ?_
  refine Calls.mono (Write_no _ _ _ _ (by first | exact .inl rfl | exact .inr ⟨_, _, _, rfl, hH.get (by repeat (first | exact In.here | refine In.there ?_))⟩)) ?_
  rintro e w1 ⟨rfl, hE⟩
  replace hH := hH.ext hE
  refine ⟨_, rfl, hH.kp0, ?_⟩
  clear hS; intro a hS
  refine r_move hS hH.kp0 rfl rfl ?_; clear hS; intro a hS
  refine r_extract hS hH.kp0 rfl rfl rfl ?_; clear hS; intro a hS
  refine r_extract hS hH.kp0 rfl rfl rfl ?_; clear hS; intro a hS
  refine r_assign hS hH.kp0 rfl rfl ?_; clear hS; intro a hS
  refine r_assign hS hH.kp0 rfl rfl ?_; clear hS; intro a hS
  refine Sq.nil ?_
  refine then_n ?_
  refine c_seq ?_
  refine reg_plain w0 (Nobody) ?_
  refine r_move hS hH.kp0 rfl rfl ?_; clear hS; intro a hS
  refine r_move hS hH.kp0 rfl rfl ?_; clear hS; intro a hS
  refine r_call (l := [.tmp 55, .tmp 56, .const (.int .i64 9)]) hS rfl rfl Fc.fn16 rfl ?_
  refine Calls.mono (Read_no _ _ _ _ (by first | exact .inl rfl | exact .inr ⟨_, _, _, rfl, hH.get (by repeat (first | exact In.here | refine In.there ?_))⟩)) ?_
  rintro e w1 ⟨rfl, hE⟩
  replace hH := hH.ext hE
  refine ⟨_, rfl, hH.kp0, ?_⟩
  clear hS; intro a hS
  refine r_move hS hH.kp0 rfl rfl ?_; clear hS; intro a hS
  refine r_extract hS hH.kp0 rfl rfl rfl ?_; clear hS; intro a hS
  refine r_extract hS hH.kp0 rfl rfl rfl ?_; clear hS; intro a hS
  refine r_extract hS hH.kp0 rfl rfl rfl ?_; clear hS; intro a hS
  refine r_assign hS hH.kp0 rfl rfl ?_; clear hS; intro a hS
  refine r_assign hS hH.kp0 rfl rfl ?_; clear hS; intro a hS
  refine r_assign hS hH.kp0 rfl rfl ?_; clear hS; intro a hS
  refine Sq.nil ?_
  refine then_n ?_
  refine c_seq ?_
  refine reg_plain w0 (Nobody) ?_
  refine r_move hS hH.kp0 rfl rfl ?_; clear hS; intro a hS
  refine r_move hS hH.kp0 rfl rfl ?_; clear hS; intro a hS
  refine r_call (l := [.tmp 62, .tmp 63]) hS rfl rfl Fc.fn17 rfl ?_
  refine Calls.mono (Code_no _ _ _ (by first | exact .inl rfl | exact .inr ⟨_, _, _, rfl, hH.get (by repeat (first | exact In.here | refine In.there ?_))⟩)) ?_
  rintro e w1 ⟨rfl, hE⟩
  replace hH := hH.ext hE
  refine ⟨_, rfl, hH.kp0, ?_⟩
  clear hS; intro a hS
  refine r_move hS hH.kp0 rfl rfl ?_; clear hS; intro a hS
  refine r_extract hS hH.kp0 rfl rfl rfl ?_; clear hS; intro a hS
  refine r_extract hS hH.kp0 rfl rfl rfl ?_; clear hS; intro a hS
  refine r_assign hS hH.kp0 rfl rfl ?_; clear hS; intro a hS
  refine r_assign hS hH.kp0 rfl rfl ?_; clear hS; intro a hS
  refine Sq.nil ?_
  refine then_n ?_
  refine c_seq ?_
  refine reg_plain w0 (Nobody) ?_
  refine r_move hS hH.kp0 rfl rfl ?_; clear hS; intro a hS
  refine r_call (l := [.tmp 68, .const (.int .i64 1000)]) hS rfl rfl Fc.fn18 rfl ?_
  refine Calls.mono (Next_no _ _ _ (by first | exact .inl rfl | exact .inr ⟨_, _, _, rfl, hH.get (by repeat (first | exact In.here | refine In.there ?_))⟩)) ?_
  rintro e w1 ⟨rfl, hE⟩
  replace hH := hH.ext hE
  refine ⟨_, rfl, hH.kp0, ?_⟩
  clear hS; intro a hS
  refine r_move hS hH.kp0 rfl rfl ?_; clear hS; intro a hS
  refine r_extract hS hH.kp0 rfl rfl rfl ?_; clear hS; intro a hS
  refine r_extract hS hH.kp0 rfl rfl rfl ?_; clear hS; intro a hS
  refine r_alloc hS hH (by repeat (first | exact Sub.nil | refine Sub.cons ?_ ?_ | exact In.here | refine In.there ?_)) Fc.zc84 rfl ?_
  clear hS hH; intro a w b20 hb20 hwb20 hS hH
  refine r_store_row hS hH rfl rfl (by first | exact .here | exact .there .here | exact .there (.there .here) | exact .there (.there (.there .here)) | exact .there (.there (.there (.there .here))) | exact .there (.there (.there (.there (.there .here)))) | exact .there (.there (.there (.there (.there (.there .here))))) | exact .there (.there (.there (.there (.there (.there (.there .here)))))) | exact .there (.there (.there (.there (.there (.there (.there (.there .here))))))) | exact .there (.there (.there (.there (.there (.there (.there (.there (.there .here)))))))) | exact .there (.there (.there (.there (.there (.there (.there (.there (.there (.there .here))))))))) | exact .there (.there (.there (.there (.there (.there (.there (.there (.there (.there (.there .here)))))))))) | exact .there (.there (.there (.there (.there (.there (.there (.there (.there (.there (.there (.there .here))))))))))) | exact .there (.there (.there (.there (.there (.there (.there (.there (.there (.there (.there (.there (.there .here)))))))))))) | exact .there (.there (.there (.there (.there (.there (.there (.there (.there (.there (.there (.there (.there (.there .here))))))))))))) | exact .there (.there (.there (.there (.there (.there (.there (.there (.there (.there (.there (.there (.there (.there (.there .here))))))))))))))) (by repeat (first | exact Sub.nil | refine Sub.cons ?_ ?_ | exact In.here | refine In.there ?_)) Fc.sz84 (by first | exact hcells_one _ | exact of_decide_eq_true rfl) (by rfl) (by first | exact .inr (by assumption) | exact .inl (by first | assumption | rfl)) ?_
  clear hH; intro w hH
  refine r_assign hS hH.kp0 rfl rfl ?_; clear hS; intro a hS
  refine Sq.nil ?_
  refine then_n ?_
  refine c_seq ?_
  refine reg_plain w0 (Nobody) ?_
  refine r_move hS hH.kp0 rfl rfl ?_; clear hS; intro a hS
  refine r_move hS hH.kp0 rfl rfl ?_; clear hS; intro a hS
  refine r_buildS (parts := [(0, .const (.int .i64 8)), (1, .tmp 73)]) hS hH.kp0 rfl rfl Fc.zc84 Fc.pl84 (by rfl) ?_; clear hS; intro a hS
  refine r_call (l := [.tmp 72, .tmp 74]) hS rfl rfl Fc.fn19 rfl ?_
  refine Calls.mono (Acked_no _ _ _ (by first | exact .inl rfl | exact .inr ⟨_, _, _, rfl, hH.get (by repeat (first | exact In.here | refine In.there ?_))⟩)) ?_
  rintro e w1 ⟨rfl, hE⟩
  replace hH := hH.ext hE
  refine ⟨_, rfl, hH.kp0, ?_⟩
  clear hS; intro a hS
  refine Sq.nil ?_
  refine then_n ?_
  refine c_seq ?_
  refine reg_plain w0 (Nobody) ?_
  refine r_move hS hH.kp0 rfl rfl ?_; clear hS; intro a hS
  refine r_move hS hH.kp0 rfl rfl ?_; clear hS; intro a hS
  refine r_buildS (parts := [(0, .const (.int .i64 8)), (1, .tmp 77)]) hS hH.kp0 rfl rfl Fc.zc84 Fc.pl84 (by rfl) ?_; clear hS; intro a hS
  refine r_call (l := [.tmp 76, .tmp 78]) hS rfl rfl Fc.fn20 rfl ?_
  refine Calls.mono (Lost_no _ _ _ (by first | exact .inl rfl | exact .inr ⟨_, _, _, rfl, hH.get (by repeat (first | exact In.here | refine In.there ?_))⟩)) ?_
  rintro e w1 ⟨rfl, hE⟩
  replace hH := hH.ext hE
  refine ⟨_, rfl, hH.kp0, ?_⟩
  clear hS; intro a hS
  refine Sq.nil ?_
  refine then_n ?_
  refine c_seq ?_
  refine reg_plain w0 (Nobody) ?_
  refine r_move hS hH.kp0 rfl rfl ?_; clear hS; intro a hS
  refine r_call (l := [.tmp 81]) hS rfl rfl Fc.fn21 rfl ?_
  refine Calls.mono (Told_no _ _ (by first | exact .inl rfl | exact .inr ⟨_, _, _, rfl, hH.get (by repeat (first | exact In.here | refine In.there ?_))⟩)) ?_
  rintro e w1 ⟨rfl, hE⟩
  replace hH := hH.ext hE
  refine ⟨_, rfl, hH.kp0, ?_⟩
  clear hS; intro a hS
  refine r_move hS hH.kp0 rfl rfl ?_; clear hS; intro a hS
  refine r_extract hS hH.kp0 rfl rfl rfl ?_; clear hS; intro a hS
  refine r_extract hS hH.kp0 rfl rfl rfl ?_; clear hS; intro a hS
  refine r_extract hS hH.kp0 rfl rfl rfl ?_; clear hS; intro a hS
  refine r_extract hS hH.kp0 rfl rfl rfl ?_; clear hS; intro a hS
  refine r_assign hS hH.kp0 rfl rfl ?_; clear hS; intro a hS
  refine r_assign hS hH.kp0 rfl rfl ?_; clear hS; intro a hS
  refine r_assign hS hH.kp0 rfl rfl ?_; clear hS; intro a hS
  refine r_assign hS hH.kp0 rfl rfl ?_; clear hS; intro a hS
  refine Sq.nil ?_
  refine then_n ?_
  refine c_seq ?_
  refine reg_plain w0 (Nobody) ?_
  refine r_move hS hH.kp0 rfl rfl ?_; clear hS; intro a hS
  refine r_neq hS hH.kp0 rfl rfl rfl ?_; clear hS; intro a hS
  refine r_move hS hH.kp0 rfl rfl ?_; clear hS; intro a hS
  refine Sq.guardYes hS rfl rfl rfl ?_
  refine r_move hS hH.kp0 rfl rfl ?_; clear hS; intro a hS
  refine Sq.guardYes hS rfl rfl rfl ?_
  refine r_neq hS hH.kp0 rfl rfl rfl ?_; clear hS; intro a hS
  refine r_pickF hS hH.kp0 rfl rfl rfl rfl ?_; clear hS; intro a hS
  refine r_move hS hH.kp0 rfl rfl ?_; clear hS; intro a hS
  refine Sq.guardYes hS rfl rfl rfl ?_
  refine r_move hS hH.kp0 rfl rfl ?_; clear hS; intro a hS
  refine Sq.guardYes hS rfl rfl rfl ?_
  refine r_neq hS hH.kp0 rfl rfl rfl ?_; clear hS; intro a hS
  refine r_pickF hS hH.kp0 rfl rfl rfl rfl ?_; clear hS; intro a hS
  refine r_move hS hH.kp0 rfl rfl ?_; clear hS; intro a hS
  refine Sq.guardYes hS rfl rfl rfl ?_
  refine r_move hS hH.kp0 rfl rfl ?_; clear hS; intro a hS
  refine r_pickF hS hH.kp0 rfl rfl rfl rfl ?_; clear hS; intro a hS
  refine r_move hS hH.kp0 rfl rfl ?_; clear hS; intro a hS
  refine Sq.guardYes hS rfl rfl rfl ?_
  refine r_move hS hH.kp0 rfl rfl ?_; clear hS; intro a hS
  refine Sq.guardYes hS rfl rfl rfl ?_
  refine r_neq hS hH.kp0 rfl rfl rfl ?_; clear hS; intro a hS
  refine r_pickF hS hH.kp0 rfl rfl rfl rfl ?_; clear hS; intro a hS
  refine r_move hS hH.kp0 rfl rfl ?_; clear hS; intro a hS
  refine Sq.guardYes hS rfl rfl rfl ?_
  refine r_move hS hH.kp0 rfl rfl ?_; clear hS; intro a hS
  refine Sq.guardYes hS rfl rfl rfl ?_
  refine r_neq hS hH.kp0 rfl rfl rfl ?_; clear hS; intro a hS
  refine r_pickF hS hH.kp0 rfl rfl rfl rfl ?_; clear hS; intro a hS
  refine r_move hS hH.kp0 rfl rfl ?_; clear hS; intro a hS
  refine Sq.guardYes hS rfl rfl rfl ?_
  refine r_move hS hH.kp0 rfl rfl ?_; clear hS; intro a hS
  refine Sq.guardYes hS rfl rfl rfl ?_
  refine r_move hS hH.kp0 rfl rfl ?_; clear hS; intro a hS
  refine Sq.guardYes hS rfl rfl rfl ?_
  refine r_call (l := [.tmp 109, .tmp 110]) hS rfl rfl Fc.fn22 rfl ?_
  refine Calls.mono (Finish_no _ _ _ (by first | exact .inl rfl | exact .inr ⟨_, _, _, rfl, hH.get (by repeat (first | exact In.here | refine In.there ?_))⟩)) ?_
  rintro e w1 ⟨rfl, hE⟩
  replace hH := hH.ext hE
  refine ⟨_, rfl, hH.kp0, ?_⟩
  clear hS; intro a hS
  refine Sq.guardYes hS rfl rfl rfl ?_
  refine r_neq hS hH.kp0 rfl rfl rfl ?_; clear hS; intro a hS
  refine r_pickF hS hH.kp0 rfl rfl rfl rfl ?_; clear hS; intro a hS
  refine r_move hS hH.kp0 rfl rfl ?_; clear hS; intro a hS
  refine Sq.guardYes hS rfl rfl rfl ?_
  refine r_move hS hH.kp0 rfl rfl ?_; clear hS; intro a hS
  refine Sq.guardYes hS rfl rfl rfl ?_
  refine r_move hS hH.kp0 rfl rfl ?_; clear hS; intro a hS
  refine Sq.guardYes hS rfl rfl rfl ?_
  refine r_call (l := [.tmp 115, .tmp 116, .const (.int .i64 0)]) hS rfl rfl Fc.fn23 rfl ?_
  refine Calls.mono (Reset_no _ _ _ _ (by first | exact .inl rfl | exact .inr ⟨_, _, _, rfl, hH.get (by repeat (first | exact In.here | refine In.there ?_))⟩)) ?_
  rintro e w1 ⟨rfl, hE⟩
  replace hH := hH.ext hE
  refine ⟨_, rfl, hH.kp0, ?_⟩
  clear hS; intro a hS
  refine Sq.guardYes hS rfl rfl rfl ?_
  refine r_neq hS hH.kp0 rfl rfl rfl ?_; clear hS; intro a hS
  refine r_pickF hS hH.kp0 rfl rfl rfl rfl ?_; clear hS; intro a hS
  refine r_move hS hH.kp0 rfl rfl ?_; clear hS; intro a hS
  refine Sq.guardYes hS rfl rfl rfl ?_
  refine r_move hS hH.kp0 rfl rfl ?_; clear hS; intro a hS
  refine Sq.guardYes hS rfl rfl rfl ?_
  refine r_move hS hH.kp0 rfl rfl ?_; clear hS; intro a hS
  refine Sq.guardYes hS rfl rfl rfl ?_
  refine r_call (l := [.tmp 121, .tmp 122, .const (.int .i64 0)]) hS rfl rfl Fc.fn24 rfl ?_
  refine Calls.mono (Stop_no _ _ _ _ (by first | exact .inl rfl | exact .inr ⟨_, _, _, rfl, hH.get (by repeat (first | exact In.here | refine In.there ?_))⟩)) ?_
  rintro e w1 ⟨rfl, hE⟩
  replace hH := hH.ext hE
  refine ⟨_, rfl, hH.kp0, ?_⟩
  clear hS; intro a hS
  refine Sq.guardYes hS rfl rfl rfl ?_
  refine r_neq hS hH.kp0 rfl rfl rfl ?_; clear hS; intro a hS
  refine r_pickF hS hH.kp0 rfl rfl rfl rfl ?_; clear hS; intro a hS
  refine r_move hS hH.kp0 rfl rfl ?_; clear hS; intro a hS
  refine Sq.guardYes hS rfl rfl rfl ?_
  refine r_move hS hH.kp0 rfl rfl ?_; clear hS; intro a hS
  refine Sq.guardYes hS rfl rfl rfl ?_
  refine r_lenSl hS hH.kp0 rfl Fc.isSlice22 rfl ?_; clear hS; intro a hS
  refine Sq.guardYes hS rfl rfl rfl ?_
  refine r_neq hS hH.kp0 rfl rfl rfl ?_; clear hS; intro a hS
  refine r_pickF hS hH.kp0 rfl rfl rfl rfl ?_; clear hS; intro a hS
  refine r_move hS hH.kp0 rfl rfl ?_; clear hS; intro a hS
  refine Sq.guardYes hS rfl rfl rfl ?_
  refine r_move hS hH.kp0 rfl rfl ?_; clear hS; intro a hS
  refine r_pickF hS hH.kp0 rfl rfl rfl rfl ?_; clear hS; intro a hS
  refine r_move hS hH.kp0 rfl rfl ?_; clear hS; intro a hS
  refine Sq.guardYes hS rfl rfl rfl ?_
  refine r_move hS hH.kp0 rfl rfl ?_; clear hS; intro a hS
  refine Sq.guardYes hS rfl rfl rfl ?_
  refine r_neq hS hH.kp0 rfl rfl rfl ?_; clear hS; intro a hS
  refine r_pickF hS hH.kp0 rfl rfl rfl rfl ?_; clear hS; intro a hS
  refine r_move hS hH.kp0 rfl rfl ?_; clear hS; intro a hS
  refine Sq.guardYes hS rfl rfl rfl ?_
  refine r_move hS hH.kp0 rfl rfl ?_; clear hS; intro a hS
  refine Sq.guardYes hS rfl rfl rfl ?_
  refine r_neq hS hH.kp0 rfl rfl rfl ?_; clear hS; intro a hS
  refine r_pickF hS hH.kp0 rfl rfl rfl rfl ?_; clear hS; intro a hS
  refine r_move hS hH.kp0 rfl rfl ?_; clear hS; intro a hS
  refine Sq.guardYes hS rfl rfl rfl ?_
  refine r_move hS hH.kp0 rfl rfl ?_; clear hS; intro a hS
  refine r_pickF hS hH.kp0 rfl rfl rfl rfl ?_; clear hS; intro a hS
  refine r_move hS hH.kp0 rfl rfl ?_; clear hS; intro a hS
  refine Sq.guardYes hS rfl rfl rfl ?_
  refine r_move hS hH.kp0 rfl rfl ?_; clear hS; intro a hS
  refine Sq.guardYes hS rfl rfl rfl ?_
  refine r_call (l := [.tmp 146]) hS rfl rfl Fc.fn25 rfl ?_
  refine Calls.mono (Readable_no _ _ (by first | exact .inl rfl | exact .inr ⟨_, _, _, rfl, hH.get (by repeat (first | exact In.here | refine In.there ?_))⟩)) ?_
  rintro e w1 ⟨rfl, hE⟩
  replace hH := hH.ext hE
  refine ⟨_, rfl, hH.kp0, ?_⟩
  clear hS; intro a hS
  refine Sq.guardYes hS rfl rfl rfl ?_
  refine r_lenSl hS hH.kp0 rfl Fc.isSlice23 rfl ?_; clear hS; intro a hS
  refine Sq.guardYes hS rfl rfl rfl ?_
  refine r_neq hS hH.kp0 rfl rfl rfl ?_; clear hS; intro a hS
  refine r_pickF hS hH.kp0 rfl rfl rfl rfl ?_; clear hS; intro a hS
  refine r_move hS hH.kp0 rfl rfl ?_; clear hS; intro a hS
  refine Sq.guardYes hS rfl rfl rfl ?_
  refine r_move hS hH.kp0 rfl rfl ?_; clear hS; intro a hS
  refine Sq.guardYes hS rfl rfl rfl ?_
  refine r_buildS (parts := [(0, .const (.int .i64 1))]) hS hH.kp0 rfl rfl Fc.zc84 Fc.pl84 (by rfl) ?_; clear hS; intro a hS
  refine Sq.guardYes hS rfl rfl rfl ?_
  refine r_call (l := [.tmp 152, .tmp 153]) hS rfl rfl Fc.fn27 rfl ?_
  refine Calls.mono (Take_no _ _ _ (by first | exact .inl rfl | exact .inr ⟨_, _, _, rfl, hH.get (by repeat (first | exact In.here | refine In.there ?_))⟩)) ?_
  rintro e w1 ⟨rfl, hE⟩
  replace hH := hH.ext hE
  refine ⟨_, rfl, hH.kp0, ?_⟩
  clear hS; intro a hS
  refine Sq.guardYes hS rfl rfl rfl ?_
  refine r_makeIface hS hH.kp0 rfl Fc.cc41 rfl ?_; clear hS; intro a hS
  refine Sq.guardYes hS rfl rfl rfl ?_
  refine r_call (l := [.tmp 154, .tmp 155]) hS rfl rfl Fc.fn26 rfl ?_
  refine Calls.mono (errIs_c _) ?_
  rintro e w1 ⟨rfl, hE⟩
  replace hH := hH.ext hE
  refine ⟨_, rfl, hH.kp0, ?_⟩
  clear hS; intro a hS
  refine Sq.guardYes hS rfl rfl rfl ?_
  refine r_not hS hH.kp0 rfl rfl ?_; clear hS; intro a hS
  refine r_pickF hS hH.kp0 rfl rfl rfl rfl ?_; clear hS; intro a hS
  refine r_move hS hH.kp0 rfl rfl ?_; clear hS; intro a hS
  refine Sq.guardYes hS rfl rfl rfl ?_
  refine r_move hS hH.kp0 rfl rfl ?_; clear hS; intro a hS
  refine r_pickF hS hH.kp0 rfl rfl rfl rfl ?_; clear hS; intro a hS
  refine r_move hS hH.kp0 rfl rfl ?_; clear hS; intro a hS
  refine Sq.guardYes hS rfl rfl rfl ?_
  refine r_fieldAddr hS hH.kp0 rfl Fc.fo84_0 rfl ?_; clear hS; intro a hS
  refine Sq.guardYes hS rfl rfl rfl ?_
  refine r_load_sc hS hH (by repeat (first | exact Sub.nil | refine Sub.cons ?_ ?_ | exact In.here | refine In.there ?_)) rfl (by repeat (first | exact In.here | refine In.there ?_)) Fc.sc3 (by rfl) rfl ?_; clear hS; intro a hS
  refine Sq.guardYes hS rfl rfl rfl ?_
  refine r_neq hS hH.kp0 rfl rfl rfl ?_; clear hS; intro a hS
  refine r_pickF hS hH.kp0 rfl rfl rfl rfl ?_; clear hS; intro a hS
  refine r_move hS hH.kp0 rfl rfl ?_; clear hS; intro a hS
  refine Sq.guardYes hS rfl rfl rfl ?_
  refine r_move hS hH.kp0 rfl rfl ?_; clear hS; intro a hS
  refine Sq.guardYes hS rfl rfl rfl ?_
  refine r_neq hS hH.kp0 rfl rfl rfl ?_; clear hS; intro a hS
  refine r_pickF hS hH.kp0 rfl rfl rfl rfl ?_; clear hS; intro a hS
  refine r_move hS hH.kp0 rfl rfl ?_; clear hS; intro a hS
  refine Sq.guardYes hS rfl rfl rfl ?_
  refine r_move hS hH.kp0 rfl rfl ?_; clear hS; intro a hS
  refine Sq.guardYes hS rfl rfl rfl ?_
  refine r_neq hS hH.kp0 rfl rfl rfl ?_; clear hS; intro a hS
  refine r_pickF hS hH.kp0 rfl rfl rfl rfl ?_; clear hS; intro a hS
  refine r_move hS hH.kp0 rfl rfl ?_; clear hS; intro a hS
  refine Sq.guardYes hS rfl rfl rfl ?_
  refine r_move hS hH.kp0 rfl rfl ?_; clear hS; intro a hS
  refine Sq.guardYes hS rfl rfl rfl ?_
  refine r_neq hS hH.kp0 rfl rfl rfl ?_; clear hS; intro a hS
  refine r_pickF hS hH.kp0 rfl rfl rfl rfl ?_; clear hS; intro a hS
  refine r_move hS hH.kp0 rfl rfl ?_; clear hS; intro a hS
  refine Sq.guardYes hS rfl rfl rfl ?_
  refine r_move hS hH.kp0 rfl rfl ?_; clear hS; intro a hS
  refine Sq.guardYes hS rfl rfl rfl ?_
  refine r_neq hS hH.kp0 rfl rfl rfl ?_; clear hS; intro a hS
  refine r_pickF hS hH.kp0 rfl rfl rfl rfl ?_; clear hS; intro a hS
  refine Sq.nil ?_
  refine then_n ?_
  refine c_condF hS rfl rfl ?_
  refine wp_skip ?_
  refine blk_n ?_
  refine then_n ?_
  refine reg_plain w0 (Nobody) ?_
  first | refine r_add hS hH.kp0 rfl rfl rfl (by omega) ?_ | refine r_addw hS hH.kp0 rfl rfl rfl ?_
  clear hS; intro a hS
  refine r_move hS hH.kp0 rfl rfl ?_; clear hS; intro a hS
  refine Sq.nil ?_
  refine then_n ?_
  refine rnd ?_
  refine c_seq ?_
  refine reg_plain w0 (Nobody) ?_
  refine r_lss hS hH.kp0 rfl rfl rfl ?_; clear hS; intro a hS
  refine Sq.nil ?_
  refine then_n ?_
  refine c_seq ?_
  refine c_condF hS rfl rfl ?_
  refine wp_exit ?_
  refine then_e ?_
  refine then_e ?_
  refine blk_hit ?_
  refine then_n ?_
  refine c_seq ?_
  refine reg_plain w0 (Nobody) ?_
  rcases may_cases a0 a1 a2 a3 a4 a5 with hm | hm | hm | hm | hm | hm | hm | hm | hm | hm | hm | hm | hm
  · refine r_load_row hS hH (by repeat (first | exact Sub.nil | refine Sub.cons ?_ ?_ | exact In.here | refine In.there ?_)) rfl (by repeat (first | exact In.here | refine In.there ?_)) Fc.ag59 (by rfl) rfl ?_; clear hS; intro a hS
    refine r_buildS (parts := []) hS hH.kp0 rfl rfl Fc.zc59 Fc.pl59 (by rfl) ?_; clear hS; intro a hS
    refine r_call (l := [.const (.bool true), .tmp 185, .tmp 186]) hS rfl rfl Fc.fn28 rfl ?_
    refine Calls.mono (New_bad a0 a1 a2 a3 a4 a5 (by omega) _) ?_
    rintro e w1 ⟨rfl, hE⟩
    replace hH := hH.ext hE
    refine ⟨_, rfl, hH.kp0, ?_⟩
    clear hS; intro a hS
    refine r_move hS hH.kp0 rfl rfl ?_; clear hS; intro a hS
    refine r_extract hS hH.kp0 rfl rfl rfl ?_; clear hS; intro a hS
    refine r_extract hS hH.kp0 rfl rfl rfl ?_; clear hS; intro a hS
    refine r_assign hS hH.kp0 rfl rfl ?_; clear hS; intro a hS
    refine r_assign hS hH.kp0 rfl rfl ?_; clear hS; intro a hS
    refine Sq.nil ?_
    refine then_n ?_
    refine c_seq ?_
    refine reg_plain w0 (Nobody) ?_
    refine r_fieldAddr hS hH.kp0 rfl Fc.fo59_0 rfl ?_; clear hS; intro a hS
    refine r_load_sc hS hH (by repeat (first | exact Sub.nil | refine Sub.cons ?_ ?_ | exact In.here | refine In.there ?_)) rfl (by repeat (first | exact In.here | refine In.there ?_)) Fc.sc3 (by rfl) rfl ?_; clear hS; intro a hS
    refine r_geq hS hH.kp0 rfl rfl rfl ?_; clear hS; intro a hS
    refine r_move hS hH.kp0 rfl rfl ?_; clear hS; intro a hS
    refine Sq.guardNo hS rfl rfl (DF (by omega)) hH.kp0 rfl ?_; clear hS; intro a hS
    refine Sq.guardNo hS rfl rfl (DF (by omega)) hH.kp0 rfl ?_; clear hS; intro a hS
    refine Sq.guardNo hS rfl rfl (DF (by omega)) hH.kp0 rfl ?_; clear hS; intro a hS
    refine r_pickF hS hH.kp0 rfl (DF (by omega)) rfl rfl ?_; clear hS; intro a hS
    refine r_move hS hH.kp0 rfl rfl ?_; clear hS; intro a hS
    refine Sq.guardNo hS rfl rfl rfl hH.kp0 rfl ?_; clear hS; intro a hS
    refine Sq.guardNo hS rfl rfl rfl hH.kp0 rfl ?_; clear hS; intro a hS
    refine Sq.guardNo hS rfl rfl rfl hH.kp0 rfl ?_; clear hS; intro a hS
    refine r_pickF hS hH.kp0 rfl rfl rfl rfl ?_; clear hS; intro a hS
    refine r_move hS hH.kp0 rfl rfl ?_; clear hS; intro a hS
    refine Sq.guardNo hS rfl rfl rfl hH.kp0 rfl ?_; clear hS; intro a hS
    refine Sq.guardNo hS rfl rfl rfl hH.kp0 rfl ?_; clear hS; intro a hS
    refine Sq.guardNo hS rfl rfl rfl hH.kp0 rfl ?_; clear hS; intro a hS
    refine r_pickF hS hH.kp0 rfl rfl rfl rfl ?_; clear hS; intro a hS
    refine r_move hS hH.kp0 rfl rfl ?_; clear hS; intro a hS
    refine Sq.guardNo hS rfl rfl rfl hH.kp0 rfl ?_; clear hS; intro a hS
    refine Sq.guardNo hS rfl rfl rfl hH.kp0 rfl ?_; clear hS; intro a hS
    refine Sq.guardNo hS rfl rfl rfl hH.kp0 rfl ?_; clear hS; intro a hS
    refine r_pickF hS hH.kp0 rfl rfl rfl rfl ?_; clear hS; intro a hS
    refine r_move hS hH.kp0 rfl rfl ?_; clear hS; intro a hS
    refine Sq.guardNo hS rfl rfl rfl hH.kp0 rfl ?_; clear hS; intro a hS
    refine Sq.guardNo hS rfl rfl rfl hH.kp0 rfl ?_; clear hS; intro a hS
    refine Sq.guardNo hS rfl rfl rfl hH.kp0 rfl ?_; clear hS; intro a hS
    refine r_pickF hS hH.kp0 rfl rfl rfl rfl ?_; clear hS; intro a hS
    refine r_move hS hH.kp0 rfl rfl ?_; clear hS; intro a hS
    refine Sq.guardNo hS rfl rfl rfl hH.kp0 rfl ?_; clear hS; intro a hS
    refine Sq.guardNo hS rfl rfl rfl hH.kp0 rfl ?_; clear hS; intro a hS
    refine Sq.guardNo hS rfl rfl rfl hH.kp0 rfl ?_; clear hS; intro a hS
    refine r_pickF hS hH.kp0 rfl rfl rfl rfl ?_; clear hS; intro a hS
    refine r_move hS hH.kp0 rfl rfl ?_; clear hS; intro a hS
    refine Sq.guardNo hS rfl rfl rfl hH.kp0 rfl ?_; clear hS; intro a hS
    refine Sq.guardNo hS rfl rfl rfl hH.kp0 rfl ?_; clear hS; intro a hS
    refine Sq.guardNo hS rfl rfl rfl hH.kp0 rfl ?_; clear hS; intro a hS
    refine r_pickF hS hH.kp0 rfl rfl rfl rfl ?_; clear hS; intro a hS
    refine r_move hS hH.kp0 rfl rfl ?_; clear hS; intro a hS
    refine Sq.guardNo hS rfl rfl rfl hH.kp0 rfl ?_; clear hS; intro a hS
    refine Sq.guardNo hS rfl rfl rfl hH.kp0 rfl ?_; clear hS; intro a hS
    refine Sq.guardNo hS rfl rfl rfl hH.kp0 rfl ?_; clear hS; intro a hS
    refine r_pickF hS hH.kp0 rfl rfl rfl rfl ?_; clear hS; intro a hS
    refine r_move hS hH.kp0 rfl rfl ?_; clear hS; intro a hS
    refine Sq.guardNo hS rfl rfl rfl hH.kp0 rfl ?_; clear hS; intro a hS
    refine Sq.guardNo hS rfl rfl rfl hH.kp0 rfl ?_; clear hS; intro a hS
    refine Sq.guardNo hS rfl rfl rfl hH.kp0 rfl ?_; clear hS; intro a hS
    refine r_pickF hS hH.kp0 rfl rfl rfl rfl ?_; clear hS; intro a hS
    refine r_move hS hH.kp0 rfl rfl ?_; clear hS; intro a hS
    refine Sq.guardNo hS rfl rfl rfl hH.kp0 rfl ?_; clear hS; intro a hS
    refine Sq.guardNo hS rfl rfl rfl hH.kp0 rfl ?_; clear hS; intro a hS
    refine Sq.guardNo hS rfl rfl rfl hH.kp0 rfl ?_; clear hS; intro a hS
    refine r_pickF hS hH.kp0 rfl rfl rfl rfl ?_; clear hS; intro a hS
    refine r_move hS hH.kp0 rfl rfl ?_; clear hS; intro a hS
    refine Sq.guardNo hS rfl rfl rfl hH.kp0 rfl ?_; clear hS; intro a hS
    refine Sq.guardNo hS rfl rfl rfl hH.kp0 rfl ?_; clear hS; intro a hS
    refine Sq.guardNo hS rfl rfl rfl hH.kp0 rfl ?_; clear hS; intro a hS
    refine r_pickF hS hH.kp0 rfl rfl rfl rfl ?_; clear hS; intro a hS
    refine r_assign hS hH.kp0 rfl rfl ?_; clear hS; intro a hS
    refine Sq.nil ?_
    refine then_n ?_
    refine c_seq ?_
    refine reg_plain w0 (Nobody) ?_
    refine r_move hS hH.kp0 rfl rfl ?_; clear hS; intro a hS
    refine r_ptrNotNil hS hH.kp0 rfl Fc.isPtr60 rfl ?_; clear hS; intro a hS
    refine r_move hS hH.kp0 rfl rfl ?_; clear hS; intro a hS
    refine r_boolEql hS hH.kp0 rfl rfl Fc.isBool4 rfl ?_; clear hS; intro a hS
    refine r_move hS hH.kp0 rfl rfl ?_; clear hS; intro a hS
    refine Sq.guardYes hS rfl rfl rfl ?_
    refine r_move hS hH.kp0 rfl rfl ?_; clear hS; intro a hS
    refine Sq.guardYes hS rfl rfl rfl ?_
    refine r_eql hS hH.kp0 rfl rfl rfl ?_; clear hS; intro a hS
    refine Sq.guardYes hS rfl rfl rfl ?_
    refine r_move hS hH.kp0 rfl rfl ?_; clear hS; intro a hS
    refine Sq.guardYes hS rfl rfl rfl ?_
    refine r_boolEql hS hH.kp0 rfl rfl Fc.isBool4 rfl ?_; clear hS; intro a hS
    refine r_pickT hS hH.kp0 rfl rfl rfl rfl ?_; clear hS; intro a hS
    refine r_move hS hH.kp0 rfl rfl ?_; clear hS; intro a hS
    refine Sq.guardYes hS rfl rfl rfl ?_
    refine r_move hS hH.kp0 rfl rfl ?_; clear hS; intro a hS
    refine Sq.guardYes hS rfl rfl rfl ?_
    refine r_move hS hH.kp0 rfl rfl ?_; clear hS; intro a hS
    refine Sq.guardYes hS rfl rfl rfl ?_
    refine r_move hS hH.kp0 rfl rfl ?_; clear hS; intro a hS
    refine Sq.guardYes hS rfl rfl rfl ?_
    refine r_eql hS hH.kp0 rfl rfl rfl ?_; clear hS; intro a hS
    refine Sq.guardYes hS rfl rfl rfl ?_
    refine r_pickF hS hH.kp0 rfl rfl rfl rfl ?_; clear hS; intro a hS
    refine r_pickT hS hH.kp0 rfl rfl rfl rfl ?_; clear hS; intro a hS
    refine r_assign hS hH.kp0 rfl rfl ?_; clear hS; intro a hS
    refine Sq.nil ?_
    refine then_n ?_
    refine wp_ret ?_
    exact leave (.inl rfl) hS rfl (Res.tmp rfl Res.nil) ⟨rfl, hH.mod⟩
  · refine r_load_row hS hH (by repeat (first | exact Sub.nil | refine Sub.cons ?_ ?_ | exact In.here | refine In.there ?_)) rfl (by repeat (first | exact In.here | refine In.there ?_)) Fc.ag59 (by rfl) rfl ?_; clear hS; intro a hS
    refine r_buildS (parts := []) hS hH.kp0 rfl rfl Fc.zc59 Fc.pl59 (by rfl) ?_; clear hS; intro a hS
    refine r_call (l := [.const (.bool true), .tmp 185, .tmp 186]) hS rfl rfl Fc.fn28 rfl ?_
    refine Calls.mono (New_bad a0 a1 a2 a3 a4 a5 (by omega) _) ?_
    rintro e w1 ⟨rfl, hE⟩
    replace hH := hH.ext hE
    refine ⟨_, rfl, hH.kp0, ?_⟩
    clear hS; intro a hS
    refine r_move hS hH.kp0 rfl rfl ?_; clear hS; intro a hS
    refine r_extract hS hH.kp0 rfl rfl rfl ?_; clear hS; intro a hS
    refine r_extract hS hH.kp0 rfl rfl rfl ?_; clear hS; intro a hS
    refine r_assign hS hH.kp0 rfl rfl ?_; clear hS; intro a hS
    refine r_assign hS hH.kp0 rfl rfl ?_; clear hS; intro a hS
    refine Sq.nil ?_
    refine then_n ?_
    refine c_seq ?_
    refine reg_plain w0 (Nobody) ?_
    refine r_fieldAddr hS hH.kp0 rfl Fc.fo59_0 rfl ?_; clear hS; intro a hS
    refine r_load_sc hS hH (by repeat (first | exact Sub.nil | refine Sub.cons ?_ ?_ | exact In.here | refine In.there ?_)) rfl (by repeat (first | exact In.here | refine In.there ?_)) Fc.sc3 (by rfl) rfl ?_; clear hS; intro a hS
    refine r_geq hS hH.kp0 rfl rfl rfl ?_; clear hS; intro a hS
    refine r_move hS hH.kp0 rfl rfl ?_; clear hS; intro a hS
    refine Sq.guardYes hS rfl rfl (DT (by omega)) ?_
    refine r_fieldAddr hS hH.kp0 rfl Fc.fo59_0 rfl ?_; clear hS; intro a hS
    refine Sq.guardYes hS rfl rfl (DT (by omega)) ?_
    refine r_load_sc hS hH (by repeat (first | exact Sub.nil | refine Sub.cons ?_ ?_ | exact In.here | refine In.there ?_)) rfl (by repeat (first | exact In.here | refine In.there ?_)) Fc.sc3 (by rfl) rfl ?_; clear hS; intro a hS
    refine Sq.guardYes hS rfl rfl (DT (by omega)) ?_
    refine r_leq hS hH.kp0 rfl rfl rfl ?_; clear hS; intro a hS
    refine r_pickT hS hH.kp0 rfl (DT (by omega)) rfl rfl ?_; clear hS; intro a hS
    refine r_move hS hH.kp0 rfl rfl ?_; clear hS; intro a hS
    refine Sq.guardNo hS rfl rfl (DF (by omega)) hH.kp0 rfl ?_; clear hS; intro a hS
    refine Sq.guardNo hS rfl rfl (DF (by omega)) hH.kp0 rfl ?_; clear hS; intro a hS
    refine Sq.guardNo hS rfl rfl (DF (by omega)) hH.kp0 rfl ?_; clear hS; intro a hS
    refine r_pickF hS hH.kp0 rfl (DF (by omega)) rfl rfl ?_; clear hS; intro a hS
    refine r_move hS hH.kp0 rfl rfl ?_; clear hS; intro a hS
    refine Sq.guardNo hS rfl rfl rfl hH.kp0 rfl ?_; clear hS; intro a hS
    refine Sq.guardNo hS rfl rfl rfl hH.kp0 rfl ?_; clear hS; intro a hS
    refine Sq.guardNo hS rfl rfl rfl hH.kp0 rfl ?_; clear hS; intro a hS
    refine r_pickF hS hH.kp0 rfl rfl rfl rfl ?_; clear hS; intro a hS
    refine r_move hS hH.kp0 rfl rfl ?_; clear hS; intro a hS
    refine Sq.guardNo hS rfl rfl rfl hH.kp0 rfl ?_; clear hS; intro a hS
    refine Sq.guardNo hS rfl rfl rfl hH.kp0 rfl ?_; clear hS; intro a hS
    refine Sq.guardNo hS rfl rfl rfl hH.kp0 rfl ?_; clear hS; intro a hS
    refine r_pickF hS hH.kp0 rfl rfl rfl rfl ?_; clear hS; intro a hS
    refine r_move hS hH.kp0 rfl rfl ?_; clear hS; intro a hS
    refine Sq.guardNo hS rfl rfl rfl hH.kp0 rfl ?_; clear hS; intro a hS
    refine Sq.guardNo hS rfl rfl rfl hH.kp0 rfl ?_; clear hS; intro a hS
    refine Sq.guardNo hS rfl rfl rfl hH.kp0 rfl ?_; clear hS; intro a hS
    refine r_pickF hS hH.kp0 rfl rfl rfl rfl ?_; clear hS; intro a hS
    refine r_move hS hH.kp0 rfl rfl ?_; clear hS; intro a hS
    refine Sq.guardNo hS rfl rfl rfl hH.kp0 rfl ?_; clear hS; intro a hS
    refine Sq.guardNo hS rfl rfl rfl hH.kp0 rfl ?_; clear hS; intro a hS
    refine Sq.guardNo hS rfl rfl rfl hH.kp0 rfl ?_; clear hS; intro a hS
    refine r_pickF hS hH.kp0 rfl rfl rfl rfl ?_; clear hS; intro a hS
    refine r_move hS hH.kp0 rfl rfl ?_; clear hS; intro a hS
    refine Sq.guardNo hS rfl rfl rfl hH.kp0 rfl ?_; clear hS; intro a hS
    refine Sq.guardNo hS rfl rfl rfl hH.kp0 rfl ?_; clear hS; intro a hS
    refine Sq.guardNo hS rfl rfl rfl hH.kp0 rfl ?_; clear hS; intro a hS
    refine r_pickF hS hH.kp0 rfl rfl rfl rfl ?_; clear hS; intro a hS
    refine r_move hS hH.kp0 rfl rfl ?_; clear hS; intro a hS
    refine Sq.guardNo hS rfl rfl rfl hH.kp0 rfl ?_; clear hS; intro a hS
    refine Sq.guardNo hS rfl rfl rfl hH.kp0 rfl ?_; clear hS; intro a hS
    refine Sq.guardNo hS rfl rfl rfl hH.kp0 rfl ?_; clear hS; intro a hS
    refine r_pickF hS hH.kp0 rfl rfl rfl rfl ?_; clear hS; intro a hS
    refine r_move hS hH.kp0 rfl rfl ?_; clear hS; intro a hS
    refine Sq.guardNo hS rfl rfl rfl hH.kp0 rfl ?_; clear hS; intro a hS
    refine Sq.guardNo hS rfl rfl rfl hH.kp0 rfl ?_; clear hS; intro a hS
    refine Sq.guardNo hS rfl rfl rfl hH.kp0 rfl ?_; clear hS; intro a hS
    refine r_pickF hS hH.kp0 rfl rfl rfl rfl ?_; clear hS; intro a hS
    refine r_move hS hH.kp0 rfl rfl ?_; clear hS; intro a hS
    refine Sq.guardNo hS rfl rfl rfl hH.kp0 rfl ?_; clear hS; intro a hS
    refine Sq.guardNo hS rfl rfl rfl hH.kp0 rfl ?_; clear hS; intro a hS
    refine Sq.guardNo hS rfl rfl rfl hH.kp0 rfl ?_; clear hS; intro a hS
    refine r_pickF hS hH.kp0 rfl rfl rfl rfl ?_; clear hS; intro a hS
    refine r_move hS hH.kp0 rfl rfl ?_; clear hS; intro a hS
    refine Sq.guardNo hS rfl rfl rfl hH.kp0 rfl ?_; clear hS; intro a hS
    refine Sq.guardNo hS rfl rfl rfl hH.kp0 rfl ?_; clear hS; intro a hS
    refine Sq.guardNo hS rfl rfl rfl hH.kp0 rfl ?_; clear hS; intro a hS
    refine r_pickF hS hH.kp0 rfl rfl rfl rfl ?_; clear hS; intro a hS
    refine r_assign hS hH.kp0 rfl rfl ?_; clear hS; intro a hS
    refine Sq.nil ?_
    refine then_n ?_
    refine c_seq ?_
    refine reg_plain w0 (Nobody) ?_
    refine r_move hS hH.kp0 rfl rfl ?_; clear hS; intro a hS
    refine r_ptrNotNil hS hH.kp0 rfl Fc.isPtr60 rfl ?_; clear hS; intro a hS
    refine r_move hS hH.kp0 rfl rfl ?_; clear hS; intro a hS
    refine r_boolEql hS hH.kp0 rfl rfl Fc.isBool4 rfl ?_; clear hS; intro a hS
    refine r_move hS hH.kp0 rfl rfl ?_; clear hS; intro a hS
    refine Sq.guardYes hS rfl rfl rfl ?_
    refine r_move hS hH.kp0 rfl rfl ?_; clear hS; intro a hS
    refine Sq.guardYes hS rfl rfl rfl ?_
    refine r_eql hS hH.kp0 rfl rfl rfl ?_; clear hS; intro a hS
    refine Sq.guardYes hS rfl rfl rfl ?_
    refine r_move hS hH.kp0 rfl rfl ?_; clear hS; intro a hS
    refine Sq.guardYes hS rfl rfl rfl ?_
    refine r_boolEql hS hH.kp0 rfl rfl Fc.isBool4 rfl ?_; clear hS; intro a hS
    refine r_pickT hS hH.kp0 rfl rfl rfl rfl ?_; clear hS; intro a hS
    refine r_move hS hH.kp0 rfl rfl ?_; clear hS; intro a hS
    refine Sq.guardYes hS rfl rfl rfl ?_
    refine r_move hS hH.kp0 rfl rfl ?_; clear hS; intro a hS
    refine Sq.guardYes hS rfl rfl rfl ?_
    refine r_move hS hH.kp0 rfl rfl ?_; clear hS; intro a hS
    refine Sq.guardYes hS rfl rfl rfl ?_
    refine r_move hS hH.kp0 rfl rfl ?_; clear hS; intro a hS
    refine Sq.guardYes hS rfl rfl rfl ?_
    refine r_eql hS hH.kp0 rfl rfl rfl ?_; clear hS; intro a hS
    refine Sq.guardYes hS rfl rfl rfl ?_
    refine r_pickF hS hH.kp0 rfl rfl rfl rfl ?_; clear hS; intro a hS
    refine r_pickT hS hH.kp0 rfl rfl rfl rfl ?_; clear hS; intro a hS
    refine r_assign hS hH.kp0 rfl rfl ?_; clear hS; intro a hS
    refine Sq.nil ?_
    refine then_n ?_
    refine wp_ret ?_
    exact leave (.inl rfl) hS rfl (Res.tmp rfl Res.nil) ⟨rfl, hH.mod⟩
  · refine r_load_row hS hH (by repeat (first | exact Sub.nil | refine Sub.cons ?_ ?_ | exact In.here | refine In.there ?_)) rfl (by repeat (first | exact In.here | refine In.there ?_)) Fc.ag59 (by rfl) rfl ?_; clear hS; intro a hS
    refine r_buildS (parts := []) hS hH.kp0 rfl rfl Fc.zc59 Fc.pl59 (by rfl) ?_; clear hS; intro a hS
    refine r_call (l := [.const (.bool true), .tmp 185, .tmp 186]) hS rfl rfl Fc.fn28 rfl ?_
    refine Calls.mono (New_bad a0 a1 a2 a3 a4 a5 (by omega) _) ?_
    rintro e w1 ⟨rfl, hE⟩
    replace hH := hH.ext hE
    refine ⟨_, rfl, hH.kp0, ?_⟩
    clear hS; intro a hS
    refine r_move hS hH.kp0 rfl rfl ?_; clear hS; intro a hS
    refine r_extract hS hH.kp0 rfl rfl rfl ?_; clear hS; intro a hS
    refine r_extract hS hH.kp0 rfl rfl rfl ?_; clear hS; intro a hS
    refine r_assign hS hH.kp0 rfl rfl ?_; clear hS; intro a hS
    refine r_assign hS hH.kp0 rfl rfl ?_; clear hS; intro a hS
    refine Sq.nil ?_
    refine then_n ?_
    refine c_seq ?_
    refine reg_plain w0 (Nobody) ?_
    refine r_fieldAddr hS hH.kp0 rfl Fc.fo59_0 rfl ?_; clear hS; intro a hS
    refine r_load_sc hS hH (by repeat (first | exact Sub.nil | refine Sub.cons ?_ ?_ | exact In.here | refine In.there ?_)) rfl (by repeat (first | exact In.here | refine In.there ?_)) Fc.sc3 (by rfl) rfl ?_; clear hS; intro a hS
    refine r_geq hS hH.kp0 rfl rfl rfl ?_; clear hS; intro a hS
    refine r_move hS hH.kp0 rfl rfl ?_; clear hS; intro a hS
    refine Sq.guardYes hS rfl rfl (DT (by omega)) ?_
    refine r_fieldAddr hS hH.kp0 rfl Fc.fo59_0 rfl ?_; clear hS; intro a hS
    refine Sq.guardYes hS rfl rfl (DT (by omega)) ?_
    refine r_load_sc hS hH (by repeat (first | exact Sub.nil | refine Sub.cons ?_ ?_ | exact In.here | refine In.there ?_)) rfl (by repeat (first | exact In.here | refine In.there ?_)) Fc.sc3 (by rfl) rfl ?_; clear hS; intro a hS
    refine Sq.guardYes hS rfl rfl (DT (by omega)) ?_
    refine r_leq hS hH.kp0 rfl rfl rfl ?_; clear hS; intro a hS
    refine r_pickT hS hH.kp0 rfl (DT (by omega)) rfl rfl ?_; clear hS; intro a hS
    refine r_move hS hH.kp0 rfl rfl ?_; clear hS; intro a hS
    refine Sq.guardYes hS rfl rfl (DT (by omega)) ?_
    refine r_fieldAddr hS hH.kp0 rfl Fc.fo59_1 rfl ?_; clear hS; intro a hS
    refine Sq.guardYes hS rfl rfl (DT (by omega)) ?_
    refine r_load_sc hS hH (by repeat (first | exact Sub.nil | refine Sub.cons ?_ ?_ | exact In.here | refine In.there ?_)) rfl (by repeat (first | exact In.here | refine In.there ?_)) Fc.sc3 (by rfl) rfl ?_; clear hS; intro a hS
    refine Sq.guardYes hS rfl rfl (DT (by omega)) ?_
    refine r_geq hS hH.kp0 rfl rfl rfl ?_; clear hS; intro a hS
    refine r_pickT hS hH.kp0 rfl (DT (by omega)) rfl rfl ?_; clear hS; intro a hS
    refine r_move hS hH.kp0 rfl rfl ?_; clear hS; intro a hS
    refine Sq.guardNo hS rfl rfl (DF (by omega)) hH.kp0 rfl ?_; clear hS; intro a hS
    refine Sq.guardNo hS rfl rfl (DF (by omega)) hH.kp0 rfl ?_; clear hS; intro a hS
    refine Sq.guardNo hS rfl rfl (DF (by omega)) hH.kp0 rfl ?_; clear hS; intro a hS
    refine r_pickF hS hH.kp0 rfl (DF (by omega)) rfl rfl ?_; clear hS; intro a hS
    refine r_move hS hH.kp0 rfl rfl ?_; clear hS; intro a hS
    refine Sq.guardNo hS rfl rfl rfl hH.kp0 rfl ?_; clear hS; intro a hS
    refine Sq.guardNo hS rfl rfl rfl hH.kp0 rfl ?_; clear hS; intro a hS
    refine Sq.guardNo hS rfl rfl rfl hH.kp0 rfl ?_; clear hS; intro a hS
    refine r_pickF hS hH.kp0 rfl rfl rfl rfl ?_; clear hS; intro a hS
    refine r_move hS hH.kp0 rfl rfl ?_; clear hS; intro a hS
    refine Sq.guardNo hS rfl rfl rfl hH.kp0 rfl ?_; clear hS; intro a hS
    refine Sq.guardNo hS rfl rfl rfl hH.kp0 rfl ?_; clear hS; intro a hS
    refine Sq.guardNo hS rfl rfl rfl hH.kp0 rfl ?_; clear hS; intro a hS
    refine r_pickF hS hH.kp0 rfl rfl rfl rfl ?_; clear hS; intro a hS
    refine r_move hS hH.kp0 rfl rfl ?_; clear hS; intro a hS
    refine Sq.guardNo hS rfl rfl rfl hH.kp0 rfl ?_; clear hS; intro a hS
    refine Sq.guardNo hS rfl rfl rfl hH.kp0 rfl ?_; clear hS; intro a hS
    refine Sq.guardNo hS rfl rfl rfl hH.kp0 rfl ?_; clear hS; intro a hS
    refine r_pickF hS hH.kp0 rfl rfl rfl rfl ?_; clear hS; intro a hS
    refine r_move hS hH.kp0 rfl rfl ?_; clear hS; intro a hS
    refine Sq.guardNo hS rfl rfl rfl hH.kp0 rfl ?_; clear hS; intro a hS
    refine Sq.guardNo hS rfl rfl rfl hH.kp0 rfl ?_; clear hS; intro a hS
    refine Sq.guardNo hS rfl rfl rfl hH.kp0 rfl ?_; clear hS; intro a hS
    refine r_pickF hS hH.kp0 rfl rfl rfl rfl ?_; clear hS; intro a hS
    refine r_move hS hH.kp0 rfl rfl ?_; clear hS; intro a hS
    refine Sq.guardNo hS rfl rfl rfl hH.kp0 rfl ?_; clear hS; intro a hS
    refine Sq.guardNo hS rfl rfl rfl hH.kp0 rfl ?_; clear hS; intro a hS
    refine Sq.guardNo hS rfl rfl rfl hH.kp0 rfl ?_; clear hS; intro a hS
    refine r_pickF hS hH.kp0 rfl rfl rfl rfl ?_; clear hS; intro a hS
    refine r_move hS hH.kp0 rfl rfl ?_; clear hS; intro a hS
    refine Sq.guardNo hS rfl rfl rfl hH.kp0 rfl ?_; clear hS; intro a hS
    refine Sq.guardNo hS rfl rfl rfl hH.kp0 rfl ?_; clear hS; intro a hS
    refine Sq.guardNo hS rfl rfl rfl hH.kp0 rfl ?_; clear hS; intro a hS
    refine r_pickF hS hH.kp0 rfl rfl rfl rfl ?_; clear hS; intro a hS
    refine r_move hS hH.kp0 rfl rfl ?_; clear hS; intro a hS
    refine Sq.guardNo hS rfl rfl rfl hH.kp0 rfl ?_; clear hS; intro a hS
    refine Sq.guardNo hS rfl rfl rfl hH.kp0 rfl ?_; clear hS; intro a hS
    refine Sq.guardNo hS rfl rfl rfl hH.kp0 rfl ?_; clear hS; intro a hS
    refine r_pickF hS hH.kp0 rfl rfl rfl rfl ?_; clear hS; intro a hS
    refine r_move hS hH.kp0 rfl rfl ?_; clear hS; intro a hS
    refine Sq.guardNo hS rfl rfl rfl hH.kp0 rfl ?_; clear hS; intro a hS
    refine Sq.guardNo hS rfl rfl rfl hH.kp0 rfl ?_; clear hS; intro a hS
    refine Sq.guardNo hS rfl rfl rfl hH.kp0 rfl ?_; clear hS; intro a hS
    refine r_pickF hS hH.kp0 rfl rfl rfl rfl ?_; clear hS; intro a hS
    refine r_assign hS hH.kp0 rfl rfl ?_; clear hS; intro a hS
    refine Sq.nil ?_
    refine then_n ?_
    refine c_seq ?_
    refine reg_plain w0 (Nobody) ?_
    refine r_move hS hH.kp0 rfl rfl ?_; clear hS; intro a hS
    refine r_ptrNotNil hS hH.kp0 rfl Fc.isPtr60 rfl ?_; clear hS; intro a hS
    refine r_move hS hH.kp0 rfl rfl ?_; clear hS; intro a hS
    refine r_boolEql hS hH.kp0 rfl rfl Fc.isBool4 rfl ?_; clear hS; intro a hS
    refine r_move hS hH.kp0 rfl rfl ?_; clear hS; intro a hS
    refine Sq.guardYes hS rfl rfl rfl ?_
    refine r_move hS hH.kp0 rfl rfl ?_; clear hS; intro a hS
    refine Sq.guardYes hS rfl rfl rfl ?_
    refine r_eql hS hH.kp0 rfl rfl rfl ?_; clear hS; intro a hS
    refine Sq.guardYes hS rfl rfl rfl ?_
    refine r_move hS hH.kp0 rfl rfl ?_; clear hS; intro a hS
    refine Sq.guardYes hS rfl rfl rfl ?_
    refine r_boolEql hS hH.kp0 rfl rfl Fc.isBool4 rfl ?_; clear hS; intro a hS
    refine r_pickT hS hH.kp0 rfl rfl rfl rfl ?_; clear hS; intro a hS
    refine r_move hS hH.kp0 rfl rfl ?_; clear hS; intro a hS
    refine Sq.guardYes hS rfl rfl rfl ?_
    refine r_move hS hH.kp0 rfl rfl ?_; clear hS; intro a hS
    refine Sq.guardYes hS rfl rfl rfl ?_
    refine r_move hS hH.kp0 rfl rfl ?_; clear hS; intro a hS
    refine Sq.guardYes hS rfl rfl rfl ?_
    refine r_move hS hH.kp0 rfl rfl ?_; clear hS; intro a hS
    refine Sq.guardYes hS rfl rfl rfl ?_
    refine r_eql hS hH.kp0 rfl rfl rfl ?_; clear hS; intro a hS
    refine Sq.guardYes hS rfl rfl rfl ?_
    refine r_pickF hS hH.kp0 rfl rfl rfl rfl ?_; clear hS; intro a hS
    refine r_pickT hS hH.kp0 rfl rfl rfl rfl ?_; clear hS; intro a hS
    refine r_assign hS hH.kp0 rfl rfl ?_; clear hS; intro a hS
    refine Sq.nil ?_
    refine then_n ?_
    refine wp_ret ?_
    exact leave (.inl rfl) hS rfl (Res.tmp rfl Res.nil) ⟨rfl, hH.mod⟩
  · refine r_load_row hS hH (by repeat (first | exact Sub.nil | refine Sub.cons ?_ ?_ | exact In.here | refine In.there ?_)) rfl (by repeat (first | exact In.here | refine In.there ?_)) Fc.ag59 (by rfl) rfl ?_; clear hS; intro a hS
    refine r_buildS (parts := []) hS hH.kp0 rfl rfl Fc.zc59 Fc.pl59 (by rfl) ?_; clear hS; intro a hS
    refine r_call (l := [.const (.bool true), .tmp 185, .tmp 186]) hS rfl rfl Fc.fn28 rfl ?_
    refine Calls.mono (New_bad a0 a1 a2 a3 a4 a5 (by omega) _) ?_
    rintro e w1 ⟨rfl, hE⟩
    replace hH := hH.ext hE
    refine ⟨_, rfl, hH.kp0, ?_⟩
    clear hS; intro a hS
    refine r_move hS hH.kp0 rfl rfl ?_; clear hS; intro a hS
    refine r_extract hS hH.kp0 rfl rfl rfl ?_; clear hS; intro a hS
    refine r_extract hS hH.kp0 rfl rfl rfl ?_; clear hS; intro a hS
    refine r_assign hS hH.kp0 rfl rfl ?_; clear hS; intro a hS
    refine r_assign hS hH.kp0 rfl rfl ?_; clear hS; intro a hS
    refine Sq.nil ?_
    refine then_n ?_
    refine c_seq ?_
    refine reg_plain w0 (Nobody) ?_
    refine r_fieldAddr hS hH.kp0 rfl Fc.fo59_0 rfl ?_; clear hS; intro a hS
    refine r_load_sc hS hH (by repeat (first | exact Sub.nil | refine Sub.cons ?_ ?_ | exact In.here | refine In.there ?_)) rfl (by repeat (first | exact In.here | refine In.there ?_)) Fc.sc3 (by rfl) rfl ?_; clear hS; intro a hS
    refine r_geq hS hH.kp0 rfl rfl rfl ?_; clear hS; intro a hS
    refine r_move hS hH.kp0 rfl rfl ?_; clear hS; intro a hS
    refine Sq.guardYes hS rfl rfl (DT (by omega)) ?_
    refine r_fieldAddr hS hH.kp0 rfl Fc.fo59_0 rfl ?_; clear hS; intro a hS
    refine Sq.guardYes hS rfl rfl (DT (by omega)) ?_
    refine r_load_sc hS hH (by repeat (first | exact Sub.nil | refine Sub.cons ?_ ?_ | exact In.here | refine In.there ?_)) rfl (by repeat (first | exact In.here | refine In.there ?_)) Fc.sc3 (by rfl) rfl ?_; clear hS; intro a hS
    refine Sq.guardYes hS rfl rfl (DT (by omega)) ?_
    refine r_leq hS hH.kp0 rfl rfl rfl ?_; clear hS; intro a hS
    refine r_pickT hS hH.kp0 rfl (DT (by omega)) rfl rfl ?_; clear hS; intro a hS
    refine r_move hS hH.kp0 rfl rfl ?_; clear hS; intro a hS
    refine Sq.guardYes hS rfl rfl (DT (by omega)) ?_
    refine r_fieldAddr hS hH.kp0 rfl Fc.fo59_1 rfl ?_; clear hS; intro a hS
    refine Sq.guardYes hS rfl rfl (DT (by omega)) ?_
    refine r_load_sc hS hH (by repeat (first | exact Sub.nil | refine Sub.cons ?_ ?_ | exact In.here | refine In.there ?_)) rfl (by repeat (first | exact In.here | refine In.there ?_)) Fc.sc3 (by rfl) rfl ?_; clear hS; intro a hS
    refine Sq.guardYes hS rfl rfl (DT (by omega)) ?_
    refine r_geq hS hH.kp0 rfl rfl rfl ?_; clear hS; intro a hS
    refine r_pickT hS hH.kp0 rfl (DT (by omega)) rfl rfl ?_; clear hS; intro a hS
    refine r_move hS hH.kp0 rfl rfl ?_; clear hS; intro a hS
    refine Sq.guardYes hS rfl rfl (DT (by omega)) ?_
    refine r_fieldAddr hS hH.kp0 rfl Fc.fo59_1 rfl ?_; clear hS; intro a hS
    refine Sq.guardYes hS rfl rfl (DT (by omega)) ?_
    refine r_load_sc hS hH (by repeat (first | exact Sub.nil | refine Sub.cons ?_ ?_ | exact In.here | refine In.there ?_)) rfl (by repeat (first | exact In.here | refine In.there ?_)) Fc.sc3 (by rfl) rfl ?_; clear hS; intro a hS
    refine Sq.guardYes hS rfl rfl (DT (by omega)) ?_
    refine r_leq hS hH.kp0 rfl rfl rfl ?_; clear hS; intro a hS
    refine r_pickT hS hH.kp0 rfl (DT (by omega)) rfl rfl ?_; clear hS; intro a hS
    refine r_move hS hH.kp0 rfl rfl ?_; clear hS; intro a hS
    refine Sq.guardNo hS rfl rfl (DF (by omega)) hH.kp0 rfl ?_; clear hS; intro a hS
    refine Sq.guardNo hS rfl rfl (DF (by omega)) hH.kp0 rfl ?_; clear hS; intro a hS
    refine Sq.guardNo hS rfl rfl (DF (by omega)) hH.kp0 rfl ?_; clear hS; intro a hS
    refine r_pickF hS hH.kp0 rfl (DF (by omega)) rfl rfl ?_; clear hS; intro a hS
    refine r_move hS hH.kp0 rfl rfl ?_; clear hS; intro a hS
    refine Sq.guardNo hS rfl rfl rfl hH.kp0 rfl ?_; clear hS; intro a hS
    refine Sq.guardNo hS rfl rfl rfl hH.kp0 rfl ?_; clear hS; intro a hS
    refine Sq.guardNo hS rfl rfl rfl hH.kp0 rfl ?_; clear hS; intro a hS
    refine r_pickF hS hH.kp0 rfl rfl rfl rfl ?_; clear hS; intro a hS
    refine r_move hS hH.kp0 rfl rfl ?_; clear hS; intro a hS
    refine Sq.guardNo hS rfl rfl rfl hH.kp0 rfl ?_; clear hS; intro a hS
    refine Sq.guardNo hS rfl rfl rfl hH.kp0 rfl ?_; clear hS; intro a hS
    refine Sq.guardNo hS rfl rfl rfl hH.kp0 rfl ?_; clear hS; intro a hS
    refine r_pickF hS hH.kp0 rfl rfl rfl rfl ?_; clear hS; intro a hS
    refine r_move hS hH.kp0 rfl rfl ?_; clear hS; intro a hS
    refine Sq.guardNo hS rfl rfl rfl hH.kp0 rfl ?_; clear hS; intro a hS
    refine Sq.guardNo hS rfl rfl rfl hH.kp0 rfl ?_; clear hS; intro a hS
    refine Sq.guardNo hS rfl rfl rfl hH.kp0 rfl ?_; clear hS; intro a hS
    refine r_pickF hS hH.kp0 rfl rfl rfl rfl ?_; clear hS; intro a hS
    refine r_move hS hH.kp0 rfl rfl ?_; clear hS; intro a hS
    refine Sq.guardNo hS rfl rfl rfl hH.kp0 rfl ?_; clear hS; intro a hS
    refine Sq.guardNo hS rfl rfl rfl hH.kp0 rfl ?_; clear hS; intro a hS
    refine Sq.guardNo hS rfl rfl rfl hH.kp0 rfl ?_; clear hS; intro a hS
    refine r_pickF hS hH.kp0 rfl rfl rfl rfl ?_; clear hS; intro a hS
    refine r_move hS hH.kp0 rfl rfl ?_; clear hS; intro a hS
    refine Sq.guardNo hS rfl rfl rfl hH.kp0 rfl ?_; clear hS; intro a hS
    refine Sq.guardNo hS rfl rfl rfl hH.kp0 rfl ?_; clear hS; intro a hS
    refine Sq.guardNo hS rfl rfl rfl hH.kp0 rfl ?_; clear hS; intro a hS
    refine r_pickF hS hH.kp0 rfl rfl rfl rfl ?_; clear hS; intro a hS
    refine r_move hS hH.kp0 rfl rfl ?_; clear hS; intro a hS
    refine Sq.guardNo hS rfl rfl rfl hH.kp0 rfl ?_; clear hS; intro a hS
    refine Sq.guardNo hS rfl rfl rfl hH.kp0 rfl ?_; clear hS; intro a hS
    refine Sq.guardNo hS rfl rfl rfl hH.kp0 rfl ?_; clear hS; intro a hS
    refine r_pickF hS hH.kp0 rfl rfl rfl rfl ?_; clear hS; intro a hS
    refine r_move hS hH.kp0 rfl rfl ?_; clear hS; intro a hS
    refine Sq.guardNo hS rfl rfl rfl hH.kp0 rfl ?_; clear hS; intro a hS
    refine Sq.guardNo hS rfl rfl rfl hH.kp0 rfl ?_; clear hS; intro a hS
    refine Sq.guardNo hS rfl rfl rfl hH.kp0 rfl ?_; clear hS; intro a hS
    refine r_pickF hS hH.kp0 rfl rfl rfl rfl ?_; clear hS; intro a hS
    refine r_assign hS hH.kp0 rfl rfl ?_; clear hS; intro a hS
    refine Sq.nil ?_
    refine then_n ?_
    refine c_seq ?_
    refine reg_plain w0 (Nobody) ?_
    refine r_move hS hH.kp0 rfl rfl ?_; clear hS; intro a hS
    refine r_ptrNotNil hS hH.kp0 rfl Fc.isPtr60 rfl ?_; clear hS; intro a hS
    refine r_move hS hH.kp0 rfl rfl ?_; clear hS; intro a hS
    refine r_boolEql hS hH.kp0 rfl rfl Fc.isBool4 rfl ?_; clear hS; intro a hS
    refine r_move hS hH.kp0 rfl rfl ?_; clear hS; intro a hS
    refine Sq.guardYes hS rfl rfl rfl ?_
    refine r_move hS hH.kp0 rfl rfl ?_; clear hS; intro a hS
    refine Sq.guardYes hS rfl rfl rfl ?_
    refine r_eql hS hH.kp0 rfl rfl rfl ?_; clear hS; intro a hS
    refine Sq.guardYes hS rfl rfl rfl ?_
    refine r_move hS hH.kp0 rfl rfl ?_; clear hS; intro a hS
    refine Sq.guardYes hS rfl rfl rfl ?_
    refine r_boolEql hS hH.kp0 rfl rfl Fc.isBool4 rfl ?_; clear hS; intro a hS
    refine r_pickT hS hH.kp0 rfl rfl rfl rfl ?_; clear hS; intro a hS
    refine r_move hS hH.kp0 rfl rfl ?_; clear hS; intro a hS
    refine Sq.guardYes hS rfl rfl rfl ?_
    refine r_move hS hH.kp0 rfl rfl ?_; clear hS; intro a hS
    refine Sq.guardYes hS rfl rfl rfl ?_
    refine r_move hS hH.kp0 rfl rfl ?_; clear hS; intro a hS
    refine Sq.guardYes hS rfl rfl rfl ?_
    refine r_move hS hH.kp0 rfl rfl ?_; clear hS; intro a hS
    refine Sq.guardYes hS rfl rfl rfl ?_
    refine r_eql hS hH.kp0 rfl rfl rfl ?_; clear hS; intro a hS
    refine Sq.guardYes hS rfl rfl rfl ?_
    refine r_pickF hS hH.kp0 rfl rfl rfl rfl ?_; clear hS; intro a hS
    refine r_pickT hS hH.kp0 rfl rfl rfl rfl ?_; clear hS; intro a hS
    refine r_assign hS hH.kp0 rfl rfl ?_; clear hS; intro a hS
    refine Sq.nil ?_
    refine then_n ?_
    refine wp_ret ?_
    exact leave (.inl rfl) hS rfl (Res.tmp rfl Res.nil) ⟨rfl, hH.mod⟩
  · refine r_load_row hS hH (by repeat (first | exact Sub.nil | refine Sub.cons ?_ ?_ | exact In.here | refine In.there ?_)) rfl (by repeat (first | exact In.here | refine In.there ?_)) Fc.ag59 (by rfl) rfl ?_; clear hS; intro a hS
    refine r_buildS (parts := []) hS hH.kp0 rfl rfl Fc.zc59 Fc.pl59 (by rfl) ?_; clear hS; intro a hS
    refine r_call (l := [.const (.bool true), .tmp 185, .tmp 186]) hS rfl rfl Fc.fn28 rfl ?_
    refine Calls.mono (New_bad a0 a1 a2 a3 a4 a5 (by omega) _) ?_
    rintro e w1 ⟨rfl, hE⟩
    replace hH := hH.ext hE
    refine ⟨_, rfl, hH.kp0, ?_⟩
    clear hS; intro a hS
    refine r_move hS hH.kp0 rfl rfl ?_; clear hS; intro a hS
    refine r_extract hS hH.kp0 rfl rfl rfl ?_; clear hS; intro a hS
    refine r_extract hS hH.kp0 rfl rfl rfl ?_; clear hS; intro a hS
    refine r_assign hS hH.kp0 rfl rfl ?_; clear hS; intro a hS
    refine r_assign hS hH.kp0 rfl rfl ?_; clear hS; intro a hS
    refine Sq.nil ?_
    refine then_n ?_
    refine c_seq ?_
    refine reg_plain w0 (Nobody) ?_
    refine r_fieldAddr hS hH.kp0 rfl Fc.fo59_0 rfl ?_; clear hS; intro a hS
    refine r_load_sc hS hH (by repeat (first | exact Sub.nil | refine Sub.cons ?_ ?_ | exact In.here | refine In.there ?_)) rfl (by repeat (first | exact In.here | refine In.there ?_)) Fc.sc3 (by rfl) rfl ?_; clear hS; intro a hS
    refine r_geq hS hH.kp0 rfl rfl rfl ?_; clear hS; intro a hS
    refine r_move hS hH.kp0 rfl rfl ?_; clear hS; intro a hS
    refine Sq.guardYes hS rfl rfl (DT (by omega)) ?_
    refine r_fieldAddr hS hH.kp0 rfl Fc.fo59_0 rfl ?_; clear hS; intro a hS
    refine Sq.guardYes hS rfl rfl (DT (by omega)) ?_
    refine r_load_sc hS hH (by repeat (first | exact Sub.nil | refine Sub.cons ?_ ?_ | exact In.here | refine In.there ?_)) rfl (by repeat (first | exact In.here | refine In.there ?_)) Fc.sc3 (by rfl) rfl ?_; clear hS; intro a hS
    refine Sq.guardYes hS rfl rfl (DT (by omega)) ?_
    refine r_leq hS hH.kp0 rfl rfl rfl ?_; clear hS; intro a hS
    refine r_pickT hS hH.kp0 rfl (DT (by omega)) rfl rfl ?_; clear hS; intro a hS
    refine r_move hS hH.kp0 rfl rfl ?_; clear hS; intro a hS
    refine Sq.guardYes hS rfl rfl (DT (by omega)) ?_
    refine r_fieldAddr hS hH.kp0 rfl Fc.fo59_1 rfl ?_; clear hS; intro a hS
    refine Sq.guardYes hS rfl rfl (DT (by omega)) ?_
    refine r_load_sc hS hH (by repeat (first | exact Sub.nil | refine Sub.cons ?_ ?_ | exact In.here | refine In.there ?_)) rfl (by repeat (first | exact In.here | refine In.there ?_)) Fc.sc3 (by rfl) rfl ?_; clear hS; intro a hS
    refine Sq.guardYes hS rfl rfl (DT (by omega)) ?_
    refine r_geq hS hH.kp0 rfl rfl rfl ?_; clear hS; intro a hS
    refine r_pickT hS hH.kp0 rfl (DT (by omega)) rfl rfl ?_; clear hS; intro a hS
    refine r_move hS hH.kp0 rfl rfl ?_; clear hS; intro a hS
    refine Sq.guardYes hS rfl rfl (DT (by omega)) ?_
    refine r_fieldAddr hS hH.kp0 rfl Fc.fo59_1 rfl ?_; clear hS; intro a hS
    refine Sq.guardYes hS rfl rfl (DT (by omega)) ?_
    refine r_load_sc hS hH (by repeat (first | exact Sub.nil | refine Sub.cons ?_ ?_ | exact In.here | refine In.there ?_)) rfl (by repeat (first | exact In.here | refine In.there ?_)) Fc.sc3 (by rfl) rfl ?_; clear hS; intro a hS
    refine Sq.guardYes hS rfl rfl (DT (by omega)) ?_
    refine r_leq hS hH.kp0 rfl rfl rfl ?_; clear hS; intro a hS
    refine r_pickT hS hH.kp0 rfl (DT (by omega)) rfl rfl ?_; clear hS; intro a hS
    refine r_move hS hH.kp0 rfl rfl ?_; clear hS; intro a hS
    refine Sq.guardYes hS rfl rfl (DT (by omega)) ?_
    refine r_fieldAddr hS hH.kp0 rfl Fc.fo59_2 rfl ?_; clear hS; intro a hS
    refine Sq.guardYes hS rfl rfl (DT (by omega)) ?_
    refine r_load_sc hS hH (by repeat (first | exact Sub.nil | refine Sub.cons ?_ ?_ | exact In.here | refine In.there ?_)) rfl (by repeat (first | exact In.here | refine In.there ?_)) Fc.sc3 (by rfl) rfl ?_; clear hS; intro a hS
    refine Sq.guardYes hS rfl rfl (DT (by omega)) ?_
    refine r_geq hS hH.kp0 rfl rfl rfl ?_; clear hS; intro a hS
    refine r_pickT hS hH.kp0 rfl (DT (by omega)) rfl rfl ?_; clear hS; intro a hS
    refine r_move hS hH.kp0 rfl rfl ?_; clear hS; intro a hS
    refine Sq.guardNo hS rfl rfl (DF (by omega)) hH.kp0 rfl ?_; clear hS; intro a hS
    refine Sq.guardNo hS rfl rfl (DF (by omega)) hH.kp0 rfl ?_; clear hS; intro a hS
    refine Sq.guardNo hS rfl rfl (DF (by omega)) hH.kp0 rfl ?_; clear hS; intro a hS
    refine r_pickF hS hH.kp0 rfl (DF (by omega)) rfl rfl ?_; clear hS; intro a hS
    refine r_move hS hH.kp0 rfl rfl ?_; clear hS; intro a hS
    refine Sq.guardNo hS rfl rfl rfl hH.kp0 rfl ?_; clear hS; intro a hS
    refine Sq.guardNo hS rfl rfl rfl hH.kp0 rfl ?_; clear hS; intro a hS
    refine Sq.guardNo hS rfl rfl rfl hH.kp0 rfl ?_; clear hS; intro a hS
    refine r_pickF hS hH.kp0 rfl rfl rfl rfl ?_; clear hS; intro a hS
    refine r_move hS hH.kp0 rfl rfl ?_; clear hS; intro a hS
    refine Sq.guardNo hS rfl rfl rfl hH.kp0 rfl ?_; clear hS; intro a hS
    refine Sq.guardNo hS rfl rfl rfl hH.kp0 rfl ?_; clear hS; intro a hS
    refine Sq.guardNo hS rfl rfl rfl hH.kp0 rfl ?_; clear hS; intro a hS
    refine r_pickF hS hH.kp0 rfl rfl rfl rfl ?_; clear hS; intro a hS
    refine r_move hS hH.kp0 rfl rfl ?_; clear hS; intro a hS
    refine Sq.guardNo hS rfl rfl rfl hH.kp0 rfl ?_; clear hS; intro a hS
    refine Sq.guardNo hS rfl rfl rfl hH.kp0 rfl ?_; clear hS; intro a hS
    refine Sq.guardNo hS rfl rfl rfl hH.kp0 rfl ?_; clear hS; intro a hS
    refine r_pickF hS hH.kp0 rfl rfl rfl rfl ?_; clear hS; intro a hS
    refine r_move hS hH.kp0 rfl rfl ?_; clear hS; intro a hS
    refine Sq.guardNo hS rfl rfl rfl hH.kp0 rfl ?_; clear hS; intro a hS
    refine Sq.guardNo hS rfl rfl rfl hH.kp0 rfl ?_; clear hS; intro a hS
    refine Sq.guardNo hS rfl rfl rfl hH.kp0 rfl ?_; clear hS; intro a hS
    refine r_pickF hS hH.kp0 rfl rfl rfl rfl ?_; clear hS; intro a hS
    refine r_move hS hH.kp0 rfl rfl ?_; clear hS; intro a hS
    refine Sq.guardNo hS rfl rfl rfl hH.kp0 rfl ?_; clear hS; intro a hS
    refine Sq.guardNo hS rfl rfl rfl hH.kp0 rfl ?_; clear hS; intro a hS
    refine Sq.guardNo hS rfl rfl rfl hH.kp0 rfl ?_; clear hS; intro a hS
    refine r_pickF hS hH.kp0 rfl rfl rfl rfl ?_; clear hS; intro a hS
    refine r_move hS hH.kp0 rfl rfl ?_; clear hS; intro a hS
    refine Sq.guardNo hS rfl rfl rfl hH.kp0 rfl ?_; clear hS; intro a hS
    refine Sq.guardNo hS rfl rfl rfl hH.kp0 rfl ?_; clear hS; intro a hS
    refine Sq.guardNo hS rfl rfl rfl hH.kp0 rfl ?_; clear hS; intro a hS
    refine r_pickF hS hH.kp0 rfl rfl rfl rfl ?_; clear hS; intro a hS
    refine r_assign hS hH.kp0 rfl rfl ?_; clear hS; intro a hS
    refine Sq.nil ?_
    refine then_n ?_
    refine c_seq ?_
    refine reg_plain w0 (Nobody) ?_
    refine r_move hS hH.kp0 rfl rfl ?_; clear hS; intro a hS
    refine r_ptrNotNil hS hH.kp0 rfl Fc.isPtr60 rfl ?_; clear hS; intro a hS
    refine r_move hS hH.kp0 rfl rfl ?_; clear hS; intro a hS
    refine r_boolEql hS hH.kp0 rfl rfl Fc.isBool4 rfl ?_; clear hS; intro a hS
    refine r_move hS hH.kp0 rfl rfl ?_; clear hS; intro a hS
    refine Sq.guardYes hS rfl rfl rfl ?_
    refine r_move hS hH.kp0 rfl rfl ?_; clear hS; intro a hS
    refine Sq.guardYes hS rfl rfl rfl ?_
    refine r_eql hS hH.kp0 rfl rfl rfl ?_; clear hS; intro a hS
    refine Sq.guardYes hS rfl rfl rfl ?_
    refine r_move hS hH.kp0 rfl rfl ?_; clear hS; intro a hS
    refine Sq.guardYes hS rfl rfl rfl ?_
    refine r_boolEql hS hH.kp0 rfl rfl Fc.isBool4 rfl ?_; clear hS; intro a hS
    refine r_pickT hS hH.kp0 rfl rfl rfl rfl ?_; clear hS; intro a hS
    refine r_move hS hH.kp0 rfl rfl ?_; clear hS; intro a hS
    refine Sq.guardYes hS rfl rfl rfl ?_
    refine r_move hS hH.kp0 rfl rfl ?_; clear hS; intro a hS
    refine Sq.guardYes hS rfl rfl rfl ?_
    refine r_move hS hH.kp0 rfl rfl ?_; clear hS; intro a hS
    refine Sq.guardYes hS rfl rfl rfl ?_
    refine r_move hS hH.kp0 rfl rfl ?_; clear hS; intro a hS
    refine Sq.guardYes hS rfl rfl rfl ?_
    refine r_eql hS hH.kp0 rfl rfl rfl ?_; clear hS; intro a hS
    refine Sq.guardYes hS rfl rfl rfl ?_
    refine r_pickF hS hH.kp0 rfl rfl rfl rfl ?_; clear hS; intro a hS
    refine r_pickT hS hH.kp0 rfl rfl rfl rfl ?_; clear hS; intro a hS
    refine r_assign hS hH.kp0 rfl rfl ?_; clear hS; intro a hS
    refine Sq.nil ?_
    refine then_n ?_
    refine wp_ret ?_
    exact leave (.inl rfl) hS rfl (Res.tmp rfl Res.nil) ⟨rfl, hH.mod⟩
  · refine r_load_row hS hH (by repeat (first | exact Sub.nil | refine Sub.cons ?_ ?_ | exact In.here | refine In.there ?_)) rfl (by repeat (first | exact In.here | refine In.there ?_)) Fc.ag59 (by rfl) rfl ?_; clear hS; intro a hS
    refine r_buildS (parts := []) hS hH.kp0 rfl rfl Fc.zc59 Fc.pl59 (by rfl) ?_; clear hS; intro a hS
    refine r_call (l := [.const (.bool true), .tmp 185, .tmp 186]) hS rfl rfl Fc.fn28 rfl ?_
    refine Calls.mono (New_bad a0 a1 a2 a3 a4 a5 (by omega) _) ?_
    rintro e w1 ⟨rfl, hE⟩
    replace hH := hH.ext hE
    refine ⟨_, rfl, hH.kp0, ?_⟩
    clear hS; intro a hS
    refine r_move hS hH.kp0 rfl rfl ?_; clear hS; intro a hS
    refine r_extract hS hH.kp0 rfl rfl rfl ?_; clear hS; intro a hS
    refine r_extract hS hH.kp0 rfl rfl rfl ?_; clear hS; intro a hS
    refine r_assign hS hH.kp0 rfl rfl ?_; clear hS; intro a hS
    refine r_assign hS hH.kp0 rfl rfl ?_; clear hS; intro a hS
    refine Sq.nil ?_
    refine then_n ?_
    refine c_seq ?_
    refine reg_plain w0 (Nobody) ?_
    refine r_fieldAddr hS hH.kp0 rfl Fc.fo59_0 rfl ?_; clear hS; intro a hS
    refine r_load_sc hS hH (by repeat (first | exact Sub.nil | refine Sub.cons ?_ ?_ | exact In.here | refine In.there ?_)) rfl (by repeat (first | exact In.here | refine In.there ?_)) Fc.sc3 (by rfl) rfl ?_; clear hS; intro a hS
    refine r_geq hS hH.kp0 rfl rfl rfl ?_; clear hS; intro a hS
    refine r_move hS hH.kp0 rfl rfl ?_; clear hS; intro a hS
    refine Sq.guardYes hS rfl rfl (DT (by omega)) ?_
    refine r_fieldAddr hS hH.kp0 rfl Fc.fo59_0 rfl ?_; clear hS; intro a hS
    refine Sq.guardYes hS rfl rfl (DT (by omega)) ?_
    refine r_load_sc hS hH (by repeat (first | exact Sub.nil | refine Sub.cons ?_ ?_ | exact In.here | refine In.there ?_)) rfl (by repeat (first | exact In.here | refine In.there ?_)) Fc.sc3 (by rfl) rfl ?_; clear hS; intro a hS
    refine Sq.guardYes hS rfl rfl (DT (by omega)) ?_
    refine r_leq hS hH.kp0 rfl rfl rfl ?_; clear hS; intro a hS
    refine r_pickT hS hH.kp0 rfl (DT (by omega)) rfl rfl ?_; clear hS; intro a hS
    refine r_move hS hH.kp0 rfl rfl ?_; clear hS; intro a hS
    refine Sq.guardYes hS rfl rfl (DT (by omega)) ?_
    refine r_fieldAddr hS hH.kp0 rfl Fc.fo59_1 rfl ?_; clear hS; intro a hS
    refine Sq.guardYes hS rfl rfl (DT (by omega)) ?_
    refine r_load_sc hS hH (by repeat (first | exact Sub.nil | refine Sub.cons ?_ ?_ | exact In.here | refine In.there ?_)) rfl (by repeat (first | exact In.here | refine In.there ?_)) Fc.sc3 (by rfl) rfl ?_; clear hS; intro a hS
    refine Sq.guardYes hS rfl rfl (DT (by omega)) ?_
    refine r_geq hS hH.kp0 rfl rfl rfl ?_; clear hS; intro a hS
    refine r_pickT hS hH.kp0 rfl (DT (by omega)) rfl rfl ?_; clear hS; intro a hS
    refine r_move hS hH.kp0 rfl rfl ?_; clear hS; intro a hS
    refine Sq.guardYes hS rfl rfl (DT (by omega)) ?_
    refine r_fieldAddr hS hH.kp0 rfl Fc.fo59_1 rfl ?_; clear hS; intro a hS
    refine Sq.guardYes hS rfl rfl (DT (by omega)) ?_
    refine r_load_sc hS hH (by repeat (first | exact Sub.nil | refine Sub.cons ?_ ?_ | exact In.here | refine In.there ?_)) rfl (by repeat (first | exact In.here | refine In.there ?_)) Fc.sc3 (by rfl) rfl ?_; clear hS; intro a hS
    refine Sq.guardYes hS rfl rfl (DT (by omega)) ?_
    refine r_leq hS hH.kp0 rfl rfl rfl ?_; clear hS; intro a hS
    refine r_pickT hS hH.kp0 rfl (DT (by omega)) rfl rfl ?_; clear hS; intro a hS
    refine r_move hS hH.kp0 rfl rfl ?_; clear hS; intro a hS
    refine Sq.guardYes hS rfl rfl (DT (by omega)) ?_
    refine r_fieldAddr hS hH.kp0 rfl Fc.fo59_2 rfl ?_; clear hS; intro a hS
    refine Sq.guardYes hS rfl rfl (DT (by omega)) ?_
    refine r_load_sc hS hH (by repeat (first | exact Sub.nil | refine Sub.cons ?_ ?_ | exact In.here | refine In.there ?_)) rfl (by repeat (first | exact In.here | refine In.there ?_)) Fc.sc3 (by rfl) rfl ?_; clear hS; intro a hS
    refine Sq.guardYes hS rfl rfl (DT (by omega)) ?_
    refine r_geq hS hH.kp0 rfl rfl rfl ?_; clear hS; intro a hS
    refine r_pickT hS hH.kp0 rfl (DT (by omega)) rfl rfl ?_; clear hS; intro a hS
    refine r_move hS hH.kp0 rfl rfl ?_; clear hS; intro a hS
    refine Sq.guardYes hS rfl rfl (DT (by omega)) ?_
    refine r_fieldAddr hS hH.kp0 rfl Fc.fo59_2 rfl ?_; clear hS; intro a hS
    refine Sq.guardYes hS rfl rfl (DT (by omega)) ?_
    refine r_load_sc hS hH (by repeat (first | exact Sub.nil | refine Sub.cons ?_ ?_ | exact In.here | refine In.there ?_)) rfl (by repeat (first | exact In.here | refine In.there ?_)) Fc.sc3 (by rfl) rfl ?_; clear hS; intro a hS
    refine Sq.guardYes hS rfl rfl (DT (by omega)) ?_
    refine r_leq hS hH.kp0 rfl rfl rfl ?_; clear hS; intro a hS
    refine r_pickT hS hH.kp0 rfl (DT (by omega)) rfl rfl ?_; clear hS; intro a hS
    refine r_move hS hH.kp0 rfl rfl ?_; clear hS; intro a hS
    refine Sq.guardNo hS rfl rfl (DF (by omega)) hH.kp0 rfl ?_; clear hS; intro a hS
    refine Sq.guardNo hS rfl rfl (DF (by omega)) hH.kp0 rfl ?_; clear hS; intro a hS
    refine Sq.guardNo hS rfl rfl (DF (by omega)) hH.kp0 rfl ?_; clear hS; intro a hS
    refine r_pickF hS hH.kp0 rfl (DF (by omega)) rfl rfl ?_; clear hS; intro a hS
    refine r_move hS hH.kp0 rfl rfl ?_; clear hS; intro a hS
    refine Sq.guardNo hS rfl rfl rfl hH.kp0 rfl ?_; clear hS; intro a hS
    refine Sq.guardNo hS rfl rfl rfl hH.kp0 rfl ?_; clear hS; intro a hS
    refine Sq.guardNo hS rfl rfl rfl hH.kp0 rfl ?_; clear hS; intro a hS
    refine r_pickF hS hH.kp0 rfl rfl rfl rfl ?_; clear hS; intro a hS
    refine r_move hS hH.kp0 rfl rfl ?_; clear hS; intro a hS
    refine Sq.guardNo hS rfl rfl rfl hH.kp0 rfl ?_; clear hS; intro a hS
    refine Sq.guardNo hS rfl rfl rfl hH.kp0 rfl ?_; clear hS; intro a hS
    refine Sq.guardNo hS rfl rfl rfl hH.kp0 rfl ?_; clear hS; intro a hS
    refine r_pickF hS hH.kp0 rfl rfl rfl rfl ?_; clear hS; intro a hS
    refine r_move hS hH.kp0 rfl rfl ?_; clear hS; intro a hS
    refine Sq.guardNo hS rfl rfl rfl hH.kp0 rfl ?_; clear hS; intro a hS
    refine Sq.guardNo hS rfl rfl rfl hH.kp0 rfl ?_; clear hS; intro a hS
    refine Sq.guardNo hS rfl rfl rfl hH.kp0 rfl ?_; clear hS; intro a hS
    refine r_pickF hS hH.kp0 rfl rfl rfl rfl ?_; clear hS; intro a hS
    refine r_move hS hH.kp0 rfl rfl ?_; clear hS; intro a hS
    refine Sq.guardNo hS rfl rfl rfl hH.kp0 rfl ?_; clear hS; intro a hS
    refine Sq.guardNo hS rfl rfl rfl hH.kp0 rfl ?_; clear hS; intro a hS
    refine Sq.guardNo hS rfl rfl rfl hH.kp0 rfl ?_; clear hS; intro a hS
    refine r_pickF hS hH.kp0 rfl rfl rfl rfl ?_; clear hS; intro a hS
    refine r_move hS hH.kp0 rfl rfl ?_; clear hS; intro a hS
    refine Sq.guardNo hS rfl rfl rfl hH.kp0 rfl ?_; clear hS; intro a hS
    refine Sq.guardNo hS rfl rfl rfl hH.kp0 rfl ?_; clear hS; intro a hS
    refine Sq.guardNo hS rfl rfl rfl hH.kp0 rfl ?_; clear hS; intro a hS
    refine r_pickF hS hH.kp0 rfl rfl rfl rfl ?_; clear hS; intro a hS
    refine r_assign hS hH.kp0 rfl rfl ?_; clear hS; intro a hS
    refine Sq.nil ?_
    refine then_n ?_
    refine c_seq ?_
    refine reg_plain w0 (Nobody) ?_
    refine r_move hS hH.kp0 rfl rfl ?_; clear hS; intro a hS
    refine r_ptrNotNil hS hH.kp0 rfl Fc.isPtr60 rfl ?_; clear hS; intro a hS
    refine r_move hS hH.kp0 rfl rfl ?_; clear hS; intro a hS
    refine r_boolEql hS hH.kp0 rfl rfl Fc.isBool4 rfl ?_; clear hS; intro a hS
    refine r_move hS hH.kp0 rfl rfl ?_; clear hS; intro a hS
    refine Sq.guardYes hS rfl rfl rfl ?_
    refine r_move hS hH.kp0 rfl rfl ?_; clear hS; intro a hS
    refine Sq.guardYes hS rfl rfl rfl ?_
    refine r_eql hS hH.kp0 rfl rfl rfl ?_; clear hS; intro a hS
    refine Sq.guardYes hS rfl rfl rfl ?_
    refine r_move hS hH.kp0 rfl rfl ?_; clear hS; intro a hS
    refine Sq.guardYes hS rfl rfl rfl ?_
    refine r_boolEql hS hH.kp0 rfl rfl Fc.isBool4 rfl ?_; clear hS; intro a hS
    refine r_pickT hS hH.kp0 rfl rfl rfl rfl ?_; clear hS; intro a hS
    refine r_move hS hH.kp0 rfl rfl ?_; clear hS; intro a hS
    refine Sq.guardYes hS rfl rfl rfl ?_
    refine r_move hS hH.kp0 rfl rfl ?_; clear hS; intro a hS
    refine Sq.guardYes hS rfl rfl rfl ?_
    refine r_move hS hH.kp0 rfl rfl ?_; clear hS; intro a hS
    refine Sq.guardYes hS rfl rfl rfl ?_
    refine r_move hS hH.kp0 rfl rfl ?_; clear hS; intro a hS
    refine Sq.guardYes hS rfl rfl rfl ?_
    refine r_eql hS hH.kp0 rfl rfl rfl ?_; clear hS; intro a hS
    refine Sq.guardYes hS rfl rfl rfl ?_
    refine r_pickF hS hH.kp0 rfl rfl rfl rfl ?_; clear hS; intro a hS
    refine r_pickT hS hH.kp0 rfl rfl rfl rfl ?_; clear hS; intro a hS
    refine r_assign hS hH.kp0 rfl rfl ?_; clear hS; intro a hS
    refine Sq.nil ?_
    refine then_n ?_
    refine wp_ret ?_
    exact leave (.inl rfl) hS rfl (Res.tmp rfl Res.nil) ⟨rfl, hH.mod⟩
  · refine r_load_row hS hH (by repeat (first | exact Sub.nil | refine Sub.cons ?_ ?_ | exact In.here | refine In.there ?_)) rfl (by repeat (first | exact In.here | refine In.there ?_)) Fc.ag59 (by rfl) rfl ?_; clear hS; intro a hS
    refine r_buildS (parts := []) hS hH.kp0 rfl rfl Fc.zc59 Fc.pl59 (by rfl) ?_; clear hS; intro a hS
    refine r_call (l := [.const (.bool true), .tmp 185, .tmp 186]) hS rfl rfl Fc.fn28 rfl ?_
    refine Calls.mono (New_bad a0 a1 a2 a3 a4 a5 (by omega) _) ?_
    rintro e w1 ⟨rfl, hE⟩
    replace hH := hH.ext hE
    refine ⟨_, rfl, hH.kp0, ?_⟩
    clear hS; intro a hS
    refine r_move hS hH.kp0 rfl rfl ?_; clear hS; intro a hS
    refine r_extract hS hH.kp0 rfl rfl rfl ?_; clear hS; intro a hS
    refine r_extract hS hH.kp0 rfl rfl rfl ?_; clear hS; intro a hS
    refine r_assign hS hH.kp0 rfl rfl ?_; clear hS; intro a hS
    refine r_assign hS hH.kp0 rfl rfl ?_; clear hS; intro a hS
    refine Sq.nil ?_
    refine then_n ?_
    refine c_seq ?_
    refine reg_plain w0 (Nobody) ?_
    refine r_fieldAddr hS hH.kp0 rfl Fc.fo59_0 rfl ?_; clear hS; intro a hS
    refine r_load_sc hS hH (by repeat (first | exact Sub.nil | refine Sub.cons ?_ ?_ | exact In.here | refine In.there ?_)) rfl (by repeat (first | exact In.here | refine In.there ?_)) Fc.sc3 (by rfl) rfl ?_; clear hS; intro a hS
    refine r_geq hS hH.kp0 rfl rfl rfl ?_; clear hS; intro a hS
    refine r_move hS hH.kp0 rfl rfl ?_; clear hS; intro a hS
    refine Sq.guardYes hS rfl rfl (DT (by omega)) ?_
    refine r_fieldAddr hS hH.kp0 rfl Fc.fo59_0 rfl ?_; clear hS; intro a hS
    refine Sq.guardYes hS rfl rfl (DT (by omega)) ?_
    refine r_load_sc hS hH (by repeat (first | exact Sub.nil | refine Sub.cons ?_ ?_ | exact In.here | refine In.there ?_)) rfl (by repeat (first | exact In.here | refine In.there ?_)) Fc.sc3 (by rfl) rfl ?_; clear hS; intro a hS
    refine Sq.guardYes hS rfl rfl (DT (by omega)) ?_
    refine r_leq hS hH.kp0 rfl rfl rfl ?_; clear hS; intro a hS
    refine r_pickT hS hH.kp0 rfl (DT (by omega)) rfl rfl ?_; clear hS; intro a hS
    refine r_move hS hH.kp0 rfl rfl ?_; clear hS; intro a hS
    refine Sq.guardYes hS rfl rfl (DT (by omega)) ?_
    refine r_fieldAddr hS hH.kp0 rfl Fc.fo59_1 rfl ?_; clear hS; intro a hS
    refine Sq.guardYes hS rfl rfl (DT (by omega)) ?_
    refine r_load_sc hS hH (by repeat (first | exact Sub.nil | refine Sub.cons ?_ ?_ | exact In.here | refine In.there ?_)) rfl (by repeat (first | exact In.here | refine In.there ?_)) Fc.sc3 (by rfl) rfl ?_; clear hS; intro a hS
    refine Sq.guardYes hS rfl rfl (DT (by omega)) ?_
    refine r_geq hS hH.kp0 rfl rfl rfl ?_; clear hS; intro a hS
    refine r_pickT hS hH.kp0 rfl (DT (by omega)) rfl rfl ?_; clear hS; intro a hS
    refine r_move hS hH.kp0 rfl rfl ?_; clear hS; intro a hS
    refine Sq.guardYes hS rfl rfl (DT (by omega)) ?_
    refine r_fieldAddr hS hH.kp0 rfl Fc.fo59_1 rfl ?_; clear hS; intro a hS
    refine Sq.guardYes hS rfl rfl (DT (by omega)) ?_
    refine r_load_sc hS hH (by repeat (first | exact Sub.nil | refine Sub.cons ?_ ?_ | exact In.here | refine In.there ?_)) rfl (by repeat (first | exact In.here | refine In.there ?_)) Fc.sc3 (by rfl) rfl ?_; clear hS; intro a hS
    refine Sq.guardYes hS rfl rfl (DT (by omega)) ?_
    refine r_leq hS hH.kp0 rfl rfl rfl ?_; clear hS; intro a hS
    refine r_pickT hS hH.kp0 rfl (DT (by omega)) rfl rfl ?_; clear hS; intro a hS
    refine r_move hS hH.kp0 rfl rfl ?_; clear hS; intro a hS
    refine Sq.guardYes hS rfl rfl (DT (by omega)) ?_
    refine r_fieldAddr hS hH.kp0 rfl Fc.fo59_2 rfl ?_; clear hS; intro a hS
    refine Sq.guardYes hS rfl rfl (DT (by omega)) ?_
    refine r_load_sc hS hH (by repeat (first | exact Sub.nil | refine Sub.cons ?_ ?_ | exact In.here | refine In.there ?_)) rfl (by repeat (first | exact In.here | refine In.there ?_)) Fc.sc3 (by rfl) rfl ?_; clear hS; intro a hS
    refine Sq.guardYes hS rfl rfl (DT (by omega)) ?_
    refine r_geq hS hH.kp0 rfl rfl rfl ?_; clear hS; intro a hS
    refine r_pickT hS hH.kp0 rfl (DT (by omega)) rfl rfl ?_; clear hS; intro a hS
    refine r_move hS hH.kp0 rfl rfl ?_; clear hS; intro a hS
    refine Sq.guardYes hS rfl rfl (DT (by omega)) ?_
    refine r_fieldAddr hS hH.kp0 rfl Fc.fo59_2 rfl ?_; clear hS; intro a hS
    refine Sq.guardYes hS rfl rfl (DT (by omega)) ?_
    refine r_load_sc hS hH (by repeat (first | exact Sub.nil | refine Sub.cons ?_ ?_ | exact In.here | refine In.there ?_)) rfl (by repeat (first | exact In.here | refine In.there ?_)) Fc.sc3 (by rfl) rfl ?_; clear hS; intro a hS
    refine Sq.guardYes hS rfl rfl (DT (by omega)) ?_
    refine r_leq hS hH.kp0 rfl rfl rfl ?_; clear hS; intro a hS
    refine r_pickT hS hH.kp0 rfl (DT (by omega)) rfl rfl ?_; clear hS; intro a hS
    refine r_move hS hH.kp0 rfl rfl ?_; clear hS; intro a hS
    refine Sq.guardYes hS rfl rfl (DT (by omega)) ?_
    refine r_fieldAddr hS hH.kp0 rfl Fc.fo59_3 rfl ?_; clear hS; intro a hS
    refine Sq.guardYes hS rfl rfl (DT (by omega)) ?_
    refine r_load_sc hS hH (by repeat (first | exact Sub.nil | refine Sub.cons ?_ ?_ | exact In.here | refine In.there ?_)) rfl (by repeat (first | exact In.here | refine In.there ?_)) Fc.sc3 (by rfl) rfl ?_; clear hS; intro a hS
    refine Sq.guardYes hS rfl rfl (DT (by omega)) ?_
    refine r_geq hS hH.kp0 rfl rfl rfl ?_; clear hS; intro a hS
    refine r_pickT hS hH.kp0 rfl (DT (by omega)) rfl rfl ?_; clear hS; intro a hS
    refine r_move hS hH.kp0 rfl rfl ?_; clear hS; intro a hS
    refine Sq.guardNo hS rfl rfl (DF (by omega)) hH.kp0 rfl ?_; clear hS; intro a hS
    refine Sq.guardNo hS rfl rfl (DF (by omega)) hH.kp0 rfl ?_; clear hS; intro a hS
    refine Sq.guardNo hS rfl rfl (DF (by omega)) hH.kp0 rfl ?_; clear hS; intro a hS
    refine r_pickF hS hH.kp0 rfl (DF (by omega)) rfl rfl ?_; clear hS; intro a hS
    refine r_move hS hH.kp0 rfl rfl ?_; clear hS; intro a hS
    refine Sq.guardNo hS rfl rfl rfl hH.kp0 rfl ?_; clear hS; intro a hS
    refine Sq.guardNo hS rfl rfl rfl hH.kp0 rfl ?_; clear hS; intro a hS
    refine Sq.guardNo hS rfl rfl rfl hH.kp0 rfl ?_; clear hS; intro a hS
    refine r_pickF hS hH.kp0 rfl rfl rfl rfl ?_; clear hS; intro a hS
    refine r_move hS hH.kp0 rfl rfl ?_; clear hS; intro a hS
    refine Sq.guardNo hS rfl rfl rfl hH.kp0 rfl ?_; clear hS; intro a hS
    refine Sq.guardNo hS rfl rfl rfl hH.kp0 rfl ?_; clear hS; intro a hS
    refine Sq.guardNo hS rfl rfl rfl hH.kp0 rfl ?_; clear hS; intro a hS
    refine r_pickF hS hH.kp0 rfl rfl rfl rfl ?_; clear hS; intro a hS
    refine r_move hS hH.kp0 rfl rfl ?_; clear hS; intro a hS
    refine Sq.guardNo hS rfl rfl rfl hH.kp0 rfl ?_; clear hS; intro a hS
    refine Sq.guardNo hS rfl rfl rfl hH.kp0 rfl ?_; clear hS; intro a hS
    refine Sq.guardNo hS rfl rfl rfl hH.kp0 rfl ?_; clear hS; intro a hS
    refine r_pickF hS hH.kp0 rfl rfl rfl rfl ?_; clear hS; intro a hS
    refine r_move hS hH.kp0 rfl rfl ?_; clear hS; intro a hS
    refine Sq.guardNo hS rfl rfl rfl hH.kp0 rfl ?_; clear hS; intro a hS
    refine Sq.guardNo hS rfl rfl rfl hH.kp0 rfl ?_; clear hS; intro a hS
    refine Sq.guardNo hS rfl rfl rfl hH.kp0 rfl ?_; clear hS; intro a hS
    refine r_pickF hS hH.kp0 rfl rfl rfl rfl ?_; clear hS; intro a hS
    refine r_assign hS hH.kp0 rfl rfl ?_; clear hS; intro a hS
    refine Sq.nil ?_
    refine then_n ?_
    refine c_seq ?_
    refine reg_plain w0 (Nobody) ?_
    refine r_move hS hH.kp0 rfl rfl ?_; clear hS; intro a hS
    refine r_ptrNotNil hS hH.kp0 rfl Fc.isPtr60 rfl ?_; clear hS; intro a hS
    refine r_move hS hH.kp0 rfl rfl ?_; clear hS; intro a hS
    refine r_boolEql hS hH.kp0 rfl rfl Fc.isBool4 rfl ?_; clear hS; intro a hS
    refine r_move hS hH.kp0 rfl rfl ?_; clear hS; intro a hS
    refine Sq.guardYes hS rfl rfl rfl ?_
    refine r_move hS hH.kp0 rfl rfl ?_; clear hS; intro a hS
    refine Sq.guardYes hS rfl rfl rfl ?_
    refine r_eql hS hH.kp0 rfl rfl rfl ?_; clear hS; intro a hS
    refine Sq.guardYes hS rfl rfl rfl ?_
    refine r_move hS hH.kp0 rfl rfl ?_; clear hS; intro a hS
    refine Sq.guardYes hS rfl rfl rfl ?_
    refine r_boolEql hS hH.kp0 rfl rfl Fc.isBool4 rfl ?_; clear hS; intro a hS
    refine r_pickT hS hH.kp0 rfl rfl rfl rfl ?_; clear hS; intro a hS
    refine r_move hS hH.kp0 rfl rfl ?_; clear hS; intro a hS
    refine Sq.guardYes hS rfl rfl rfl ?_
    refine r_move hS hH.kp0 rfl rfl ?_; clear hS; intro a hS
    refine Sq.guardYes hS rfl rfl rfl ?_
    refine r_move hS hH.kp0 rfl rfl ?_; clear hS; intro a hS
    refine Sq.guardYes hS rfl rfl rfl ?_
    refine r_move hS hH.kp0 rfl rfl ?_; clear hS; intro a hS
    refine Sq.guardYes hS rfl rfl rfl ?_
    refine r_eql hS hH.kp0 rfl rfl rfl ?_; clear hS; intro a hS
    refine Sq.guardYes hS rfl rfl rfl ?_
    refine r_pickF hS hH.kp0 rfl rfl rfl rfl ?_; clear hS; intro a hS
    refine r_pickT hS hH.kp0 rfl rfl rfl rfl ?_; clear hS; intro a hS
    refine r_assign hS hH.kp0 rfl rfl ?_; clear hS; intro a hS
    refine Sq.nil ?_
    refine then_n ?_
    refine wp_ret ?_
    exact leave (.inl rfl) hS rfl (Res.tmp rfl Res.nil) ⟨rfl, hH.mod⟩
  · refine r_load_row hS hH (by repeat (first | exact Sub.nil | refine Sub.cons ?_ ?_ | exact In.here | refine In.there ?_)) rfl (by repeat (first | exact In.here | refine In.there ?_)) Fc.ag59 (by rfl) rfl ?_; clear hS; intro a hS
    refine r_buildS (parts := []) hS hH.kp0 rfl rfl Fc.zc59 Fc.pl59 (by rfl) ?_; clear hS; intro a hS
    refine r_call (l := [.const (.bool true), .tmp 185, .tmp 186]) hS rfl rfl Fc.fn28 rfl ?_
    refine Calls.mono (New_bad a0 a1 a2 a3 a4 a5 (by omega) _) ?_
    rintro e w1 ⟨rfl, hE⟩
    replace hH := hH.ext hE
    refine ⟨_, rfl, hH.kp0, ?_⟩
    clear hS; intro a hS
    refine r_move hS hH.kp0 rfl rfl ?_; clear hS; intro a hS
    refine r_extract hS hH.kp0 rfl rfl rfl ?_; clear hS; intro a hS
    refine r_extract hS hH.kp0 rfl rfl rfl ?_; clear hS; intro a hS
    refine r_assign hS hH.kp0 rfl rfl ?_; clear hS; intro a hS
    refine r_assign hS hH.kp0 rfl rfl ?_; clear hS; intro a hS
    refine Sq.nil ?_
    refine then_n ?_
    refine c_seq ?_
    refine reg_plain w0 (Nobody) ?_
    refine r_fieldAddr hS hH.kp0 rfl Fc.fo59_0 rfl ?_; clear hS; intro a hS
    refine r_load_sc hS hH (by repeat (first | exact Sub.nil | refine Sub.cons ?_ ?_ | exact In.here | refine In.there ?_)) rfl (by repeat (first | exact In.here | refine In.there ?_)) Fc.sc3 (by rfl) rfl ?_; clear hS; intro a hS
    refine r_geq hS hH.kp0 rfl rfl rfl ?_; clear hS; intro a hS
    refine r_move hS hH.kp0 rfl rfl ?_; clear hS; intro a hS
    refine Sq.guardYes hS rfl rfl (DT (by omega)) ?_
    refine r_fieldAddr hS hH.kp0 rfl Fc.fo59_0 rfl ?_; clear hS; intro a hS
    refine Sq.guardYes hS rfl rfl (DT (by omega)) ?_
    refine r_load_sc hS hH (by repeat (first | exact Sub.nil | refine Sub.cons ?_ ?_ | exact In.here | refine In.there ?_)) rfl (by repeat (first | exact In.here | refine In.there ?_)) Fc.sc3 (by rfl) rfl ?_; clear hS; intro a hS
    refine Sq.guardYes hS rfl rfl (DT (by omega)) ?_
    refine r_leq hS hH.kp0 rfl rfl rfl ?_; clear hS; intro a hS
    refine r_pickT hS hH.kp0 rfl (DT (by omega)) rfl rfl ?_; clear hS; intro a hS
    refine r_move hS hH.kp0 rfl rfl ?_; clear hS; intro a hS
    refine Sq.guardYes hS rfl rfl (DT (by omega)) ?_
    refine r_fieldAddr hS hH.kp0 rfl Fc.fo59_1 rfl ?_; clear hS; intro a hS
    refine Sq.guardYes hS rfl rfl (DT (by omega)) ?_
    refine r_load_sc hS hH (by repeat (first | exact Sub.nil | refine Sub.cons ?_ ?_ | exact In.here | refine In.there ?_)) rfl (by repeat (first | exact In.here | refine In.there ?_)) Fc.sc3 (by rfl) rfl ?_; clear hS; intro a hS
    refine Sq.guardYes hS rfl rfl (DT (by omega)) ?_
    refine r_geq hS hH.kp0 rfl rfl rfl ?_; clear hS; intro a hS
    refine r_pickT hS hH.kp0 rfl (DT (by omega)) rfl rfl ?_; clear hS; intro a hS
    refine r_move hS hH.kp0 rfl rfl ?_; clear hS; intro a hS
    refine Sq.guardYes hS rfl rfl (DT (by omega)) ?_
    refine r_fieldAddr hS hH.kp0 rfl Fc.fo59_1 rfl ?_; clear hS; intro a hS
    refine Sq.guardYes hS rfl rfl (DT (by omega)) ?_
    refine r_load_sc hS hH (by repeat (first | exact Sub.nil | refine Sub.cons ?_ ?_ | exact In.here | refine In.there ?_)) rfl (by repeat (first | exact In.here | refine In.there ?_)) Fc.sc3 (by rfl) rfl ?_; clear hS; intro a hS
    refine Sq.guardYes hS rfl rfl (DT (by omega)) ?_
    refine r_leq hS hH.kp0 rfl rfl rfl ?_; clear hS; intro a hS
    refine r_pickT hS hH.kp0 rfl (DT (by omega)) rfl rfl ?_; clear hS; intro a hS
    refine r_move hS hH.kp0 rfl rfl ?_; clear hS; intro a hS
    refine Sq.guardYes hS rfl rfl (DT (by omega)) ?_
    refine r_fieldAddr hS hH.kp0 rfl Fc.fo59_2 rfl ?_; clear hS; intro a hS
    refine Sq.guardYes hS rfl rfl (DT (by omega)) ?_
    refine r_load_sc hS hH (by repeat (first | exact Sub.nil | refine Sub.cons ?_ ?_ | exact In.here | refine In.there ?_)) rfl (by repeat (first | exact In.here | refine In.there ?_)) Fc.sc3 (by rfl) rfl ?_; clear hS; intro a hS
    refine Sq.guardYes hS rfl rfl (DT (by omega)) ?_
    refine r_geq hS hH.kp0 rfl rfl rfl ?_; clear hS; intro a hS
    refine r_pickT hS hH.kp0 rfl (DT (by omega)) rfl rfl ?_; clear hS; intro a hS
    refine r_move hS hH.kp0 rfl rfl ?_; clear hS; intro a hS
    refine Sq.guardYes hS rfl rfl (DT (by omega)) ?_
    refine r_fieldAddr hS hH.kp0 rfl Fc.fo59_2 rfl ?_; clear hS; intro a hS
    refine Sq.guardYes hS rfl rfl (DT (by omega)) ?_
    refine r_load_sc hS hH (by repeat (first | exact Sub.nil | refine Sub.cons ?_ ?_ | exact In.here | refine In.there ?_)) rfl (by repeat (first | exact In.here | refine In.there ?_)) Fc.sc3 (by rfl) rfl ?_; clear hS; intro a hS
    refine Sq.guardYes hS rfl rfl (DT (by omega)) ?_
    refine r_leq hS hH.kp0 rfl rfl rfl ?_; clear hS; intro a hS
    refine r_pickT hS hH.kp0 rfl (DT (by omega)) rfl rfl ?_; clear hS; intro a hS
    refine r_move hS hH.kp0 rfl rfl ?_; clear hS; intro a hS
    refine Sq.guardYes hS rfl rfl (DT (by omega)) ?_
    refine r_fieldAddr hS hH.kp0 rfl Fc.fo59_3 rfl ?_; clear hS; intro a hS
    refine Sq.guardYes hS rfl rfl (DT (by omega)) ?_
    refine r_load_sc hS hH (by repeat (first | exact Sub.nil | refine Sub.cons ?_ ?_ | exact In.here | refine In.there ?_)) rfl (by repeat (first | exact In.here | refine In.there ?_)) Fc.sc3 (by rfl) rfl ?_; clear hS; intro a hS
    refine Sq.guardYes hS rfl rfl (DT (by omega)) ?_
    refine r_geq hS hH.kp0 rfl rfl rfl ?_; clear hS; intro a hS
    refine r_pickT hS hH.kp0 rfl (DT (by omega)) rfl rfl ?_; clear hS; intro a hS
    refine r_move hS hH.kp0 rfl rfl ?_; clear hS; intro a hS
    refine Sq.guardYes hS rfl rfl (DT (by omega)) ?_
    refine r_fieldAddr hS hH.kp0 rfl Fc.fo59_3 rfl ?_; clear hS; intro a hS
    refine Sq.guardYes hS rfl rfl (DT (by omega)) ?_
    refine r_load_sc hS hH (by repeat (first | exact Sub.nil | refine Sub.cons ?_ ?_ | exact In.here | refine In.there ?_)) rfl (by repeat (first | exact In.here | refine In.there ?_)) Fc.sc3 (by rfl) rfl ?_; clear hS; intro a hS
    refine Sq.guardYes hS rfl rfl (DT (by omega)) ?_
    refine r_leq hS hH.kp0 rfl rfl rfl ?_; clear hS; intro a hS
    refine r_pickT hS hH.kp0 rfl (DT (by omega)) rfl rfl ?_; clear hS; intro a hS
    refine r_move hS hH.kp0 rfl rfl ?_; clear hS; intro a hS
    refine Sq.guardNo hS rfl rfl (DF (by omega)) hH.kp0 rfl ?_; clear hS; intro a hS
    refine Sq.guardNo hS rfl rfl (DF (by omega)) hH.kp0 rfl ?_; clear hS; intro a hS
    refine Sq.guardNo hS rfl rfl (DF (by omega)) hH.kp0 rfl ?_; clear hS; intro a hS
    refine r_pickF hS hH.kp0 rfl (DF (by omega)) rfl rfl ?_; clear hS; intro a hS
    refine r_move hS hH.kp0 rfl rfl ?_; clear hS; intro a hS
    refine Sq.guardNo hS rfl rfl rfl hH.kp0 rfl ?_; clear hS; intro a hS
    refine Sq.guardNo hS rfl rfl rfl hH.kp0 rfl ?_; clear hS; intro a hS
    refine Sq.guardNo hS rfl rfl rfl hH.kp0 rfl ?_; clear hS; intro a hS
    refine r_pickF hS hH.kp0 rfl rfl rfl rfl ?_; clear hS; intro a hS
    refine r_move hS hH.kp0 rfl rfl ?_; clear hS; intro a hS
    refine Sq.guardNo hS rfl rfl rfl hH.kp0 rfl ?_; clear hS; intro a hS
    refine Sq.guardNo hS rfl rfl rfl hH.kp0 rfl ?_; clear hS; intro a hS
    refine Sq.guardNo hS rfl rfl rfl hH.kp0 rfl ?_; clear hS; intro a hS
    refine r_pickF hS hH.kp0 rfl rfl rfl rfl ?_; clear hS; intro a hS
    refine r_move hS hH.kp0 rfl rfl ?_; clear hS; intro a hS
    refine Sq.guardNo hS rfl rfl rfl hH.kp0 rfl ?_; clear hS; intro a hS
    refine Sq.guardNo hS rfl rfl rfl hH.kp0 rfl ?_; clear hS; intro a hS
    refine Sq.guardNo hS rfl rfl rfl hH.kp0 rfl ?_; clear hS; intro a hS
    refine r_pickF hS hH.kp0 rfl rfl rfl rfl ?_; clear hS; intro a hS
    refine r_assign hS hH.kp0 rfl rfl ?_; clear hS; intro a hS
    refine Sq.nil ?_
    refine then_n ?_
    refine c_seq ?_
    refine reg_plain w0 (Nobody) ?_
    refine r_move hS hH.kp0 rfl rfl ?_; clear hS; intro a hS
    refine r_ptrNotNil hS hH.kp0 rfl Fc.isPtr60 rfl ?_; clear hS; intro a hS
    refine r_move hS hH.kp0 rfl rfl ?_; clear hS; intro a hS
    refine r_boolEql hS hH.kp0 rfl rfl Fc.isBool4 rfl ?_; clear hS; intro a hS
    refine r_move hS hH.kp0 rfl rfl ?_; clear hS; intro a hS
    refine Sq.guardYes hS rfl rfl rfl ?_
    refine r_move hS hH.kp0 rfl rfl ?_; clear hS; intro a hS
    refine Sq.guardYes hS rfl rfl rfl ?_
    refine r_eql hS hH.kp0 rfl rfl rfl ?_; clear hS; intro a hS
    refine Sq.guardYes hS rfl rfl rfl ?_
    refine r_move hS hH.kp0 rfl rfl ?_; clear hS; intro a hS
    refine Sq.guardYes hS rfl rfl rfl ?_
    refine r_boolEql hS hH.kp0 rfl rfl Fc.isBool4 rfl ?_; clear hS; intro a hS
    refine r_pickT hS hH.kp0 rfl rfl rfl rfl ?_; clear hS; intro a hS
    refine r_move hS hH.kp0 rfl rfl ?_; clear hS; intro a hS
    refine Sq.guardYes hS rfl rfl rfl ?_
    refine r_move hS hH.kp0 rfl rfl ?_; clear hS; intro a hS
    refine Sq.guardYes hS rfl rfl rfl ?_
    refine r_move hS hH.kp0 rfl rfl ?_; clear hS; intro a hS
    refine Sq.guardYes hS rfl rfl rfl ?_
    refine r_move hS hH.kp0 rfl rfl ?_; clear hS; intro a hS
    refine Sq.guardYes hS rfl rfl rfl ?_
    refine r_eql hS hH.kp0 rfl rfl rfl ?_; clear hS; intro a hS
    refine Sq.guardYes hS rfl rfl rfl ?_
    refine r_pickF hS hH.kp0 rfl rfl rfl rfl ?_; clear hS; intro a hS
    refine r_pickT hS hH.kp0 rfl rfl rfl rfl ?_; clear hS; intro a hS
    refine r_assign hS hH.kp0 rfl rfl ?_; clear hS; intro a hS
    refine Sq.nil ?_
    refine then_n ?_
    refine wp_ret ?_
    exact leave (.inl rfl) hS rfl (Res.tmp rfl Res.nil) ⟨rfl, hH.mod⟩
  · refine r_load_row hS hH (by repeat (first | exact Sub.nil | refine Sub.cons ?_ ?_ | exact In.here | refine In.there ?_)) rfl (by repeat (first | exact In.here | refine In.there ?_)) Fc.ag59 (by rfl) rfl ?_; clear hS; intro a hS
    refine r_buildS (parts := []) hS hH.kp0 rfl rfl Fc.zc59 Fc.pl59 (by rfl) ?_; clear hS; intro a hS
    refine r_call (l := [.const (.bool true), .tmp 185, .tmp 186]) hS rfl rfl Fc.fn28 rfl ?_
    refine Calls.mono (New_bad a0 a1 a2 a3 a4 a5 (by omega) _) ?_
    rintro e w1 ⟨rfl, hE⟩
    replace hH := hH.ext hE
    refine ⟨_, rfl, hH.kp0, ?_⟩
    clear hS; intro a hS
    refine r_move hS hH.kp0 rfl rfl ?_; clear hS; intro a hS
    refine r_extract hS hH.kp0 rfl rfl rfl ?_; clear hS; intro a hS
    refine r_extract hS hH.kp0 rfl rfl rfl ?_; clear hS; intro a hS
    refine r_assign hS hH.kp0 rfl rfl ?_; clear hS; intro a hS
    refine r_assign hS hH.kp0 rfl rfl ?_; clear hS; intro a hS
    refine Sq.nil ?_
    refine then_n ?_
    refine c_seq ?_
    refine reg_plain w0 (Nobody) ?_
    refine r_fieldAddr hS hH.kp0 rfl Fc.fo59_0 rfl ?_; clear hS; intro a hS
    refine r_load_sc hS hH (by repeat (first | exact Sub.nil | refine Sub.cons ?_ ?_ | exact In.here | refine In.there ?_)) rfl (by repeat (first | exact In.here | refine In.there ?_)) Fc.sc3 (by rfl) rfl ?_; clear hS; intro a hS
    refine r_geq hS hH.kp0 rfl rfl rfl ?_; clear hS; intro a hS
    refine r_move hS hH.kp0 rfl rfl ?_; clear hS; intro a hS
    refine Sq.guardYes hS rfl rfl (DT (by omega)) ?_
    refine r_fieldAddr hS hH.kp0 rfl Fc.fo59_0 rfl ?_; clear hS; intro a hS
    refine Sq.guardYes hS rfl rfl (DT (by omega)) ?_
    refine r_load_sc hS hH (by repeat (first | exact Sub.nil | refine Sub.cons ?_ ?_ | exact In.here | refine In.there ?_)) rfl (by repeat (first | exact In.here | refine In.there ?_)) Fc.sc3 (by rfl) rfl ?_; clear hS; intro a hS
    refine Sq.guardYes hS rfl rfl (DT (by omega)) ?_
    refine r_leq hS hH.kp0 rfl rfl rfl ?_; clear hS; intro a hS
    refine r_pickT hS hH.kp0 rfl (DT (by omega)) rfl rfl ?_; clear hS; intro a hS
    refine r_move hS hH.kp0 rfl rfl ?_; clear hS; intro a hS
    refine Sq.guardYes hS rfl rfl (DT (by omega)) ?_
    refine r_fieldAddr hS hH.kp0 rfl Fc.fo59_1 rfl ?_; clear hS; intro a hS
    refine Sq.guardYes hS rfl rfl (DT (by omega)) ?_
    refine r_load_sc hS hH (by repeat (first | exact Sub.nil | refine Sub.cons ?_ ?_ | exact In.here | refine In.there ?_)) rfl (by repeat (first | exact In.here | refine In.there ?_)) Fc.sc3 (by rfl) rfl ?_; clear hS; intro a hS
    refine Sq.guardYes hS rfl rfl (DT (by omega)) ?_
    refine r_geq hS hH.kp0 rfl rfl rfl ?_; clear hS; intro a hS
    refine r_pickT hS hH.kp0 rfl (DT (by omega)) rfl rfl ?_; clear hS; intro a hS
    refine r_move hS hH.kp0 rfl rfl ?_; clear hS; intro a hS
    refine Sq.guardYes hS rfl rfl (DT (by omega)) ?_
    refine r_fieldAddr hS hH.kp0 rfl Fc.fo59_1 rfl ?_; clear hS; intro a hS
    refine Sq.guardYes hS rfl rfl (DT (by omega)) ?_
    refine r_load_sc hS hH (by repeat (first | exact Sub.nil | refine Sub.cons ?_ ?_ | exact In.here | refine In.there ?_)) rfl (by repeat (first | exact In.here | refine In.there ?_)) Fc.sc3 (by rfl) rfl ?_; clear hS; intro a hS
    refine Sq.guardYes hS rfl rfl (DT (by omega)) ?_
    refine r_leq hS hH.kp0 rfl rfl rfl ?_; clear hS; intro a hS
    refine r_pickT hS hH.kp0 rfl (DT (by omega)) rfl rfl ?_; clear hS; intro a hS
    refine r_move hS hH.kp0 rfl rfl ?_; clear hS; intro a hS
    refine Sq.guardYes hS rfl rfl (DT (by omega)) ?_
    refine r_fieldAddr hS hH.kp0 rfl Fc.fo59_2 rfl ?_; clear hS; intro a hS
    refine Sq.guardYes hS rfl rfl (DT (by omega)) ?_
    refine r_load_sc hS hH (by repeat (first | exact Sub.nil | refine Sub.cons ?_ ?_ | exact In.here | refine In.there ?_)) rfl (by repeat (first | exact In.here | refine In.there ?_)) Fc.sc3 (by rfl) rfl ?_; clear hS; intro a hS
    refine Sq.guardYes hS rfl rfl (DT (by omega)) ?_
    refine r_geq hS hH.kp0 rfl rfl rfl ?_; clear hS; intro a hS
    refine r_pickT hS hH.kp0 rfl (DT (by omega)) rfl rfl ?_; clear hS; intro a hS
    refine r_move hS hH.kp0 rfl rfl ?_; clear hS; intro a hS
    refine Sq.guardYes hS rfl rfl (DT (by omega)) ?_
    refine r_fieldAddr hS hH.kp0 rfl Fc.fo59_2 rfl ?_; clear hS; intro a hS
    refine Sq.guardYes hS rfl rfl (DT (by omega)) ?_
    refine r_load_sc hS hH (by repeat (first | exact Sub.nil | refine Sub.cons ?_ ?_ | exact In.here | refine In.there ?_)) rfl (by repeat (first | exact In.here | refine In.there ?_)) Fc.sc3 (by rfl) rfl ?_; clear hS; intro a hS
    refine Sq.guardYes hS rfl rfl (DT (by omega)) ?_
    refine r_leq hS hH.kp0 rfl rfl rfl ?_; clear hS; intro a hS
    refine r_pickT hS hH.kp0 rfl (DT (by omega)) rfl rfl ?_; clear hS; intro a hS
    refine r_move hS hH.kp0 rfl rfl ?_; clear hS; intro a hS
    refine Sq.guardYes hS rfl rfl (DT (by omega)) ?_
    refine r_fieldAddr hS hH.kp0 rfl Fc.fo59_3 rfl ?_; clear hS; intro a hS
    refine Sq.guardYes hS rfl rfl (DT (by omega)) ?_
    refine r_load_sc hS hH (by repeat (first | exact Sub.nil | refine Sub.cons ?_ ?_ | exact In.here | refine In.there ?_)) rfl (by repeat (first | exact In.here | refine In.there ?_)) Fc.sc3 (by rfl) rfl ?_; clear hS; intro a hS
    refine Sq.guardYes hS rfl rfl (DT (by omega)) ?_
    refine r_geq hS hH.kp0 rfl rfl rfl ?_; clear hS; intro a hS
    refine r_pickT hS hH.kp0 rfl (DT (by omega)) rfl rfl ?_; clear hS; intro a hS
    refine r_move hS hH.kp0 rfl rfl ?_; clear hS; intro a hS
    refine Sq.guardYes hS rfl rfl (DT (by omega)) ?_
    refine r_fieldAddr hS hH.kp0 rfl Fc.fo59_3 rfl ?_; clear hS; intro a hS
    refine Sq.guardYes hS rfl rfl (DT (by omega)) ?_
    refine r_load_sc hS hH (by repeat (first | exact Sub.nil | refine Sub.cons ?_ ?_ | exact In.here | refine In.there ?_)) rfl (by repeat (first | exact In.here | refine In.there ?_)) Fc.sc3 (by rfl) rfl ?_; clear hS; intro a hS
    refine Sq.guardYes hS rfl rfl (DT (by omega)) ?_
    refine r_leq hS hH.kp0 rfl rfl rfl ?_; clear hS; intro a hS
    refine r_pickT hS hH.kp0 rfl (DT (by omega)) rfl rfl ?_; clear hS; intro a hS
    refine r_move hS hH.kp0 rfl rfl ?_; clear hS; intro a hS
    refine Sq.guardYes hS rfl rfl (DT (by omega)) ?_
    refine r_fieldAddr hS hH.kp0 rfl Fc.fo59_4 rfl ?_; clear hS; intro a hS
    refine Sq.guardYes hS rfl rfl (DT (by omega)) ?_
    refine r_load_sc hS hH (by repeat (first | exact Sub.nil | refine Sub.cons ?_ ?_ | exact In.here | refine In.there ?_)) rfl (by repeat (first | exact In.here | refine In.there ?_)) Fc.sc3 (by rfl) rfl ?_; clear hS; intro a hS
    refine Sq.guardYes hS rfl rfl (DT (by omega)) ?_
    refine r_geq hS hH.kp0 rfl rfl rfl ?_; clear hS; intro a hS
    refine r_pickT hS hH.kp0 rfl (DT (by omega)) rfl rfl ?_; clear hS; intro a hS
    refine r_move hS hH.kp0 rfl rfl ?_; clear hS; intro a hS
    refine Sq.guardNo hS rfl rfl (DF (by omega)) hH.kp0 rfl ?_; clear hS; intro a hS
    refine Sq.guardNo hS rfl rfl (DF (by omega)) hH.kp0 rfl ?_; clear hS; intro a hS
    refine Sq.guardNo hS rfl rfl (DF (by omega)) hH.kp0 rfl ?_; clear hS; intro a hS
    refine r_pickF hS hH.kp0 rfl (DF (by omega)) rfl rfl ?_; clear hS; intro a hS
    refine r_move hS hH.kp0 rfl rfl ?_; clear hS; intro a hS
    refine Sq.guardNo hS rfl rfl rfl hH.kp0 rfl ?_; clear hS; intro a hS
    refine Sq.guardNo hS rfl rfl rfl hH.kp0 rfl ?_; clear hS; intro a hS
    refine Sq.guardNo hS rfl rfl rfl hH.kp0 rfl ?_; clear hS; intro a hS
    refine r_pickF hS hH.kp0 rfl rfl rfl rfl ?_; clear hS; intro a hS
    refine r_move hS hH.kp0 rfl rfl ?_; clear hS; intro a hS
    refine Sq.guardNo hS rfl rfl rfl hH.kp0 rfl ?_; clear hS; intro a hS
    refine Sq.guardNo hS rfl rfl rfl hH.kp0 rfl ?_; clear hS; intro a hS
    refine Sq.guardNo hS rfl rfl rfl hH.kp0 rfl ?_; clear hS; intro a hS
    refine r_pickF hS hH.kp0 rfl rfl rfl rfl ?_; clear hS; intro a hS
    refine r_assign hS hH.kp0 rfl rfl ?_; clear hS; intro a hS
    refine Sq.nil ?_
    refine then_n ?_
    refine c_seq ?_
    refine reg_plain w0 (Nobody) ?_
    refine r_move hS hH.kp0 rfl rfl ?_; clear hS; intro a hS
    refine r_ptrNotNil hS hH.kp0 rfl Fc.isPtr60 rfl ?_; clear hS; intro a hS
    refine r_move hS hH.kp0 rfl rfl ?_; clear hS; intro a hS
    refine r_boolEql hS hH.kp0 rfl rfl Fc.isBool4 rfl ?_; clear hS; intro a hS
    refine r_move hS hH.kp0 rfl rfl ?_; clear hS; intro a hS
    refine Sq.guardYes hS rfl rfl rfl ?_
    refine r_move hS hH.kp0 rfl rfl ?_; clear hS; intro a hS
    refine Sq.guardYes hS rfl rfl rfl ?_
    refine r_eql hS hH.kp0 rfl rfl rfl ?_; clear hS; intro a hS
    refine Sq.guardYes hS rfl rfl rfl ?_
    refine r_move hS hH.kp0 rfl rfl ?_; clear hS; intro a hS
    refine Sq.guardYes hS rfl rfl rfl ?_
    refine r_boolEql hS hH.kp0 rfl rfl Fc.isBool4 rfl ?_; clear hS; intro a hS
    refine r_pickT hS hH.kp0 rfl rfl rfl rfl ?_; clear hS; intro a hS
    refine r_move hS hH.kp0 rfl rfl ?_; clear hS; intro a hS
    refine Sq.guardYes hS rfl rfl rfl ?_
    refine r_move hS hH.kp0 rfl rfl ?_; clear hS; intro a hS
    refine Sq.guardYes hS rfl rfl rfl ?_
    refine r_move hS hH.kp0 rfl rfl ?_; clear hS; intro a hS
    refine Sq.guardYes hS rfl rfl rfl ?_
    refine r_move hS hH.kp0 rfl rfl ?_; clear hS; intro a hS
    refine Sq.guardYes hS rfl rfl rfl ?_
    refine r_eql hS hH.kp0 rfl rfl rfl ?_; clear hS; intro a hS
    refine Sq.guardYes hS rfl rfl rfl ?_
    refine r_pickF hS hH.kp0 rfl rfl rfl rfl ?_; clear hS; intro a hS
    refine r_pickT hS hH.kp0 rfl rfl rfl rfl ?_; clear hS; intro a hS
    refine r_assign hS hH.kp0 rfl rfl ?_; clear hS; intro a hS
    refine Sq.nil ?_
    refine then_n ?_
    refine wp_ret ?_
    exact leave (.inl rfl) hS rfl (Res.tmp rfl Res.nil) ⟨rfl, hH.mod⟩
  · refine r_load_row hS hH (by repeat (first | exact Sub.nil | refine Sub.cons ?_ ?_ | exact In.here | refine In.there ?_)) rfl (by repeat (first | exact In.here | refine In.there ?_)) Fc.ag59 (by rfl) rfl ?_; clear hS; intro a hS
    refine r_buildS (parts := []) hS hH.kp0 rfl rfl Fc.zc59 Fc.pl59 (by rfl) ?_; clear hS; intro a hS
    refine r_call (l := [.const (.bool true), .tmp 185, .tmp 186]) hS rfl rfl Fc.fn28 rfl ?_
    refine Calls.mono (New_bad a0 a1 a2 a3 a4 a5 (by omega) _) ?_
    rintro e w1 ⟨rfl, hE⟩
    replace hH := hH.ext hE
    refine ⟨_, rfl, hH.kp0, ?_⟩
    clear hS; intro a hS
    refine r_move hS hH.kp0 rfl rfl ?_; clear hS; intro a hS
    refine r_extract hS hH.kp0 rfl rfl rfl ?_; clear hS; intro a hS
    refine r_extract hS hH.kp0 rfl rfl rfl ?_; clear hS; intro a hS
    refine r_assign hS hH.kp0 rfl rfl ?_; clear hS; intro a hS
    refine r_assign hS hH.kp0 rfl rfl ?_; clear hS; intro a hS
    refine Sq.nil ?_
    refine then_n ?_
    refine c_seq ?_
    refine reg_plain w0 (Nobody) ?_
    refine r_fieldAddr hS hH.kp0 rfl Fc.fo59_0 rfl ?_; clear hS; intro a hS
    refine r_load_sc hS hH (by repeat (first | exact Sub.nil | refine Sub.cons ?_ ?_ | exact In.here | refine In.there ?_)) rfl (by repeat (first | exact In.here | refine In.there ?_)) Fc.sc3 (by rfl) rfl ?_; clear hS; intro a hS
    refine r_geq hS hH.kp0 rfl rfl rfl ?_; clear hS; intro a hS
    refine r_move hS hH.kp0 rfl rfl ?_; clear hS; intro a hS
    refine Sq.guardYes hS rfl rfl (DT (by omega)) ?_
    refine r_fieldAddr hS hH.kp0 rfl Fc.fo59_0 rfl ?_; clear hS; intro a hS
    refine Sq.guardYes hS rfl rfl (DT (by omega)) ?_
    refine r_load_sc hS hH (by repeat (first | exact Sub.nil | refine Sub.cons ?_ ?_ | exact In.here | refine In.there ?_)) rfl (by repeat (first | exact In.here | refine In.there ?_)) Fc.sc3 (by rfl) rfl ?_; clear hS; intro a hS
    refine Sq.guardYes hS rfl rfl (DT (by omega)) ?_
    refine r_leq hS hH.kp0 rfl rfl rfl ?_; clear hS; intro a hS
    refine r_pickT hS hH.kp0 rfl (DT (by omega)) rfl rfl ?_; clear hS; intro a hS
    refine r_move hS hH.kp0 rfl rfl ?_; clear hS; intro a hS
    refine Sq.guardYes hS rfl rfl (DT (by omega)) ?_
    refine r_fieldAddr hS hH.kp0 rfl Fc.fo59_1 rfl ?_; clear hS; intro a hS
    refine Sq.guardYes hS rfl rfl (DT (by omega)) ?_
    refine r_load_sc hS hH (by repeat (first | exact Sub.nil | refine Sub.cons ?_ ?_ | exact In.here | refine In.there ?_)) rfl (by repeat (first | exact In.here | refine In.there ?_)) Fc.sc3 (by rfl) rfl ?_; clear hS; intro a hS
    refine Sq.guardYes hS rfl rfl (DT (by omega)) ?_
    refine r_geq hS hH.kp0 rfl rfl rfl ?_; clear hS; intro a hS
    refine r_pickT hS hH.kp0 rfl (DT (by omega)) rfl rfl ?_; clear hS; intro a hS
    refine r_move hS hH.kp0 rfl rfl ?_; clear hS; intro a hS
    refine Sq.guardYes hS rfl rfl (DT (by omega)) ?_
    refine r_fieldAddr hS hH.kp0 rfl Fc.fo59_1 rfl ?_; clear hS; intro a hS
    refine Sq.guardYes hS rfl rfl (DT (by omega)) ?_
    refine r_load_sc hS hH (by repeat (first | exact Sub.nil | refine Sub.cons ?_ ?_ | exact In.here | refine In.there ?_)) rfl (by repeat (first | exact In.here | refine In.there ?_)) Fc.sc3 (by rfl) rfl ?_; clear hS; intro a hS
    refine Sq.guardYes hS rfl rfl (DT (by omega)) ?_
    refine r_leq hS hH.kp0 rfl rfl rfl ?_; clear hS; intro a hS
    refine r_pickT hS hH.kp0 rfl (DT (by omega)) rfl rfl ?_; clear hS; intro a hS
    refine r_move hS hH.kp0 rfl rfl ?_; clear hS; intro a hS
    refine Sq.guardYes hS rfl rfl (DT (by omega)) ?_
    refine r_fieldAddr hS hH.kp0 rfl Fc.fo59_2 rfl ?_; clear hS; intro a hS
    refine Sq.guardYes hS rfl rfl (DT (by omega)) ?_
    refine r_load_sc hS hH (by repeat (first | exact Sub.nil | refine Sub.cons ?_ ?_ | exact In.here | refine In.there ?_)) rfl (by repeat (first | exact In.here | refine In.there ?_)) Fc.sc3 (by rfl) rfl ?_; clear hS; intro a hS
    refine Sq.guardYes hS rfl rfl (DT (by omega)) ?_
    refine r_geq hS hH.kp0 rfl rfl rfl ?_; clear hS; intro a hS
    refine r_pickT hS hH.kp0 rfl (DT (by omega)) rfl rfl ?_; clear hS; intro a hS
    refine r_move hS hH.kp0 rfl rfl ?_; clear hS; intro a hS
    refine Sq.guardYes hS rfl rfl (DT (by omega)) ?_
    refine r_fieldAddr hS hH.kp0 rfl Fc.fo59_2 rfl ?_; clear hS; intro a hS
    refine Sq.guardYes hS rfl rfl (DT (by omega)) ?_
    refine r_load_sc hS hH (by repeat (first | exact Sub.nil | refine Sub.cons ?_ ?_ | exact In.here | refine In.there ?_)) rfl (by repeat (first | exact In.here | refine In.there ?_)) Fc.sc3 (by rfl) rfl ?_; clear hS; intro a hS
    refine Sq.guardYes hS rfl rfl (DT (by omega)) ?_
    refine r_leq hS hH.kp0 rfl rfl rfl ?_; clear hS; intro a hS
    refine r_pickT hS hH.kp0 rfl (DT (by omega)) rfl rfl ?_; clear hS; intro a hS
    refine r_move hS hH.kp0 rfl rfl ?_; clear hS; intro a hS
    refine Sq.guardYes hS rfl rfl (DT (by omega)) ?_
    refine r_fieldAddr hS hH.kp0 rfl Fc.fo59_3 rfl ?_; clear hS; intro a hS
    refine Sq.guardYes hS rfl rfl (DT (by omega)) ?_
    refine r_load_sc hS hH (by repeat (first | exact Sub.nil | refine Sub.cons ?_ ?_ | exact In.here | refine In.there ?_)) rfl (by repeat (first | exact In.here | refine In.there ?_)) Fc.sc3 (by rfl) rfl ?_; clear hS; intro a hS
    refine Sq.guardYes hS rfl rfl (DT (by omega)) ?_
    refine r_geq hS hH.kp0 rfl rfl rfl ?_; clear hS; intro a hS
    refine r_pickT hS hH.kp0 rfl (DT (by omega)) rfl rfl ?_; clear hS; intro a hS
    refine r_move hS hH.kp0 rfl rfl ?_; clear hS; intro a hS
    refine Sq.guardYes hS rfl rfl (DT (by omega)) ?_
    refine r_fieldAddr hS hH.kp0 rfl Fc.fo59_3 rfl ?_; clear hS; intro a hS
    refine Sq.guardYes hS rfl rfl (DT (by omega)) ?_
    refine r_load_sc hS hH (by repeat (first | exact Sub.nil | refine Sub.cons ?_ ?_ | exact In.here | refine In.there ?_)) rfl (by repeat (first | exact In.here | refine In.there ?_)) Fc.sc3 (by rfl) rfl ?_; clear hS; intro a hS
    refine Sq.guardYes hS rfl rfl (DT (by omega)) ?_
    refine r_leq hS hH.kp0 rfl rfl rfl ?_; clear hS; intro a hS
    refine r_pickT hS hH.kp0 rfl (DT (by omega)) rfl rfl ?_; clear hS; intro a hS
    refine r_move hS hH.kp0 rfl rfl ?_; clear hS; intro a hS
    refine Sq.guardYes hS rfl rfl (DT (by omega)) ?_
    refine r_fieldAddr hS hH.kp0 rfl Fc.fo59_4 rfl ?_; clear hS; intro a hS
    refine Sq.guardYes hS rfl rfl (DT (by omega)) ?_
    refine r_load_sc hS hH (by repeat (first | exact Sub.nil | refine Sub.cons ?_ ?_ | exact In.here | refine In.there ?_)) rfl (by repeat (first | exact In.here | refine In.there ?_)) Fc.sc3 (by rfl) rfl ?_; clear hS; intro a hS
    refine Sq.guardYes hS rfl rfl (DT (by omega)) ?_
    refine r_geq hS hH.kp0 rfl rfl rfl ?_; clear hS; intro a hS
    refine r_pickT hS hH.kp0 rfl (DT (by omega)) rfl rfl ?_; clear hS; intro a hS
    refine r_move hS hH.kp0 rfl rfl ?_; clear hS; intro a hS
    refine Sq.guardYes hS rfl rfl (DT (by omega)) ?_
    refine r_fieldAddr hS hH.kp0 rfl Fc.fo59_4 rfl ?_; clear hS; intro a hS
    refine Sq.guardYes hS rfl rfl (DT (by omega)) ?_
    refine r_load_sc hS hH (by repeat (first | exact Sub.nil | refine Sub.cons ?_ ?_ | exact In.here | refine In.there ?_)) rfl (by repeat (first | exact In.here | refine In.there ?_)) Fc.sc3 (by rfl) rfl ?_; clear hS; intro a hS
    refine Sq.guardYes hS rfl rfl (DT (by omega)) ?_
    refine r_leq hS hH.kp0 rfl rfl rfl ?_; clear hS; intro a hS
    refine r_pickT hS hH.kp0 rfl (DT (by omega)) rfl rfl ?_; clear hS; intro a hS
    refine r_move hS hH.kp0 rfl rfl ?_; clear hS; intro a hS
    refine Sq.guardNo hS rfl rfl (DF (by omega)) hH.kp0 rfl ?_; clear hS; intro a hS
    refine Sq.guardNo hS rfl rfl (DF (by omega)) hH.kp0 rfl ?_; clear hS; intro a hS
    refine Sq.guardNo hS rfl rfl (DF (by omega)) hH.kp0 rfl ?_; clear hS; intro a hS
    refine r_pickF hS hH.kp0 rfl (DF (by omega)) rfl rfl ?_; clear hS; intro a hS
    refine r_move hS hH.kp0 rfl rfl ?_; clear hS; intro a hS
    refine Sq.guardNo hS rfl rfl rfl hH.kp0 rfl ?_; clear hS; intro a hS
    refine Sq.guardNo hS rfl rfl rfl hH.kp0 rfl ?_; clear hS; intro a hS
    refine Sq.guardNo hS rfl rfl rfl hH.kp0 rfl ?_; clear hS; intro a hS
    refine r_pickF hS hH.kp0 rfl rfl rfl rfl ?_; clear hS; intro a hS
    refine r_assign hS hH.kp0 rfl rfl ?_; clear hS; intro a hS
    refine Sq.nil ?_
    refine then_n ?_
    refine c_seq ?_
    refine reg_plain w0 (Nobody) ?_
    refine r_move hS hH.kp0 rfl rfl ?_; clear hS; intro a hS
    refine r_ptrNotNil hS hH.kp0 rfl Fc.isPtr60 rfl ?_; clear hS; intro a hS
    refine r_move hS hH.kp0 rfl rfl ?_; clear hS; intro a hS
    refine r_boolEql hS hH.kp0 rfl rfl Fc.isBool4 rfl ?_; clear hS; intro a hS
    refine r_move hS hH.kp0 rfl rfl ?_; clear hS; intro a hS
    refine Sq.guardYes hS rfl rfl rfl ?_
    refine r_move hS hH.kp0 rfl rfl ?_; clear hS; intro a hS
    refine Sq.guardYes hS rfl rfl rfl ?_
    refine r_eql hS hH.kp0 rfl rfl rfl ?_; clear hS; intro a hS
    refine Sq.guardYes hS rfl rfl rfl ?_
    refine r_move hS hH.kp0 rfl rfl ?_; clear hS; intro a hS
    refine Sq.guardYes hS rfl rfl rfl ?_
    refine r_boolEql hS hH.kp0 rfl rfl Fc.isBool4 rfl ?_; clear hS; intro a hS
    refine r_pickT hS hH.kp0 rfl rfl rfl rfl ?_; clear hS; intro a hS
    refine r_move hS hH.kp0 rfl rfl ?_; clear hS; intro a hS
    refine Sq.guardYes hS rfl rfl rfl ?_
    refine r_move hS hH.kp0 rfl rfl ?_; clear hS; intro a hS
    refine Sq.guardYes hS rfl rfl rfl ?_
    refine r_move hS hH.kp0 rfl rfl ?_; clear hS; intro a hS
    refine Sq.guardYes hS rfl rfl rfl ?_
    refine r_move hS hH.kp0 rfl rfl ?_; clear hS; intro a hS
    refine Sq.guardYes hS rfl rfl rfl ?_
    refine r_eql hS hH.kp0 rfl rfl rfl ?_; clear hS; intro a hS
    refine Sq.guardYes hS rfl rfl rfl ?_
    refine r_pickF hS hH.kp0 rfl rfl rfl rfl ?_; clear hS; intro a hS
    refine r_pickT hS hH.kp0 rfl rfl rfl rfl ?_; clear hS; intro a hS
    refine r_assign hS hH.kp0 rfl rfl ?_; clear hS; intro a hS
    refine Sq.nil ?_
    refine then_n ?_
    refine wp_ret ?_
    exact leave (.inl rfl) hS rfl (Res.tmp rfl Res.nil) ⟨rfl, hH.mod⟩
  · refine r_load_row hS hH (by repeat (first | exact Sub.nil | refine Sub.cons ?_ ?_ | exact In.here | refine In.there ?_)) rfl (by repeat (first | exact In.here | refine In.there ?_)) Fc.ag59 (by rfl) rfl ?_; clear hS; intro a hS
    refine r_buildS (parts := []) hS hH.kp0 rfl rfl Fc.zc59 Fc.pl59 (by rfl) ?_; clear hS; intro a hS
    refine r_call (l := [.const (.bool true), .tmp 185, .tmp 186]) hS rfl rfl Fc.fn28 rfl ?_
    refine Calls.mono (New_bad a0 a1 a2 a3 a4 a5 (by omega) _) ?_
    rintro e w1 ⟨rfl, hE⟩
    replace hH := hH.ext hE
    refine ⟨_, rfl, hH.kp0, ?_⟩
    clear hS; intro a hS
    refine r_move hS hH.kp0 rfl rfl ?_; clear hS; intro a hS
    refine r_extract hS hH.kp0 rfl rfl rfl ?_; clear hS; intro a hS
    refine r_extract hS hH.kp0 rfl rfl rfl ?_; clear hS; intro a hS
    refine r_assign hS hH.kp0 rfl rfl ?_; clear hS; intro a hS
    refine r_assign hS hH.kp0 rfl rfl ?_; clear hS; intro a hS
    refine Sq.nil ?_
    refine then_n ?_
    refine c_seq ?_
    refine reg_plain w0 (Nobody) ?_
    refine r_fieldAddr hS hH.kp0 rfl Fc.fo59_0 rfl ?_; clear hS; intro a hS
    refine r_load_sc hS hH (by repeat (first | exact Sub.nil | refine Sub.cons ?_ ?_ | exact In.here | refine In.there ?_)) rfl (by repeat (first | exact In.here | refine In.there ?_)) Fc.sc3 (by rfl) rfl ?_; clear hS; intro a hS
    refine r_geq hS hH.kp0 rfl rfl rfl ?_; clear hS; intro a hS
    refine r_move hS hH.kp0 rfl rfl ?_; clear hS; intro a hS
    refine Sq.guardYes hS rfl rfl (DT (by omega)) ?_
    refine r_fieldAddr hS hH.kp0 rfl Fc.fo59_0 rfl ?_; clear hS; intro a hS
    refine Sq.guardYes hS rfl rfl (DT (by omega)) ?_
    refine r_load_sc hS hH (by repeat (first | exact Sub.nil | refine Sub.cons ?_ ?_ | exact In.here | refine In.there ?_)) rfl (by repeat (first | exact In.here | refine In.there ?_)) Fc.sc3 (by rfl) rfl ?_; clear hS; intro a hS
    refine Sq.guardYes hS rfl rfl (DT (by omega)) ?_
    refine r_leq hS hH.kp0 rfl rfl rfl ?_; clear hS; intro a hS
    refine r_pickT hS hH.kp0 rfl (DT (by omega)) rfl rfl ?_; clear hS; intro a hS
    refine r_move hS hH.kp0 rfl rfl ?_; clear hS; intro a hS
    refine Sq.guardYes hS rfl rfl (DT (by omega)) ?_
    refine r_fieldAddr hS hH.kp0 rfl Fc.fo59_1 rfl ?_; clear hS; intro a hS
    refine Sq.guardYes hS rfl rfl (DT (by omega)) ?_
    refine r_load_sc hS hH (by repeat (first | exact Sub.nil | refine Sub.cons ?_ ?_ | exact In.here | refine In.there ?_)) rfl (by repeat (first | exact In.here | refine In.there ?_)) Fc.sc3 (by rfl) rfl ?_; clear hS; intro a hS
    refine Sq.guardYes hS rfl rfl (DT (by omega)) ?_
    refine r_geq hS hH.kp0 rfl rfl rfl ?_; clear hS; intro a hS
    refine r_pickT hS hH.kp0 rfl (DT (by omega)) rfl rfl ?_; clear hS; intro a hS
    refine r_move hS hH.kp0 rfl rfl ?_; clear hS; intro a hS
    refine Sq.guardYes hS rfl rfl (DT (by omega)) ?_
    refine r_fieldAddr hS hH.kp0 rfl Fc.fo59_1 rfl ?_; clear hS; intro a hS
    refine Sq.guardYes hS rfl rfl (DT (by omega)) ?_
    refine r_load_sc hS hH (by repeat (first | exact Sub.nil | refine Sub.cons ?_ ?_ | exact In.here | refine In.there ?_)) rfl (by repeat (first | exact In.here | refine In.there ?_)) Fc.sc3 (by rfl) rfl ?_; clear hS; intro a hS
    refine Sq.guardYes hS rfl rfl (DT (by omega)) ?_
    refine r_leq hS hH.kp0 rfl rfl rfl ?_; clear hS; intro a hS
    refine r_pickT hS hH.kp0 rfl (DT (by omega)) rfl rfl ?_; clear hS; intro a hS
    refine r_move hS hH.kp0 rfl rfl ?_; clear hS; intro a hS
    refine Sq.guardYes hS rfl rfl (DT (by omega)) ?_
    refine r_fieldAddr hS hH.kp0 rfl Fc.fo59_2 rfl ?_; clear hS; intro a hS
    refine Sq.guardYes hS rfl rfl (DT (by omega)) ?_
    refine r_load_sc hS hH (by repeat (first | exact Sub.nil | refine Sub.cons ?_ ?_ | exact In.here | refine In.there ?_)) rfl (by repeat (first | exact In.here | refine In.there ?_)) Fc.sc3 (by rfl) rfl ?_; clear hS; intro a hS
    refine Sq.guardYes hS rfl rfl (DT (by omega)) ?_
    refine r_geq hS hH.kp0 rfl rfl rfl ?_; clear hS; intro a hS
    refine r_pickT hS hH.kp0 rfl (DT (by omega)) rfl rfl ?_; clear hS; intro a hS
    refine r_move hS hH.kp0 rfl rfl ?_; clear hS; intro a hS
    refine Sq.guardYes hS rfl rfl (DT (by omega)) ?_
    refine r_fieldAddr hS hH.kp0 rfl Fc.fo59_2 rfl ?_; clear hS; intro a hS
    refine Sq.guardYes hS rfl rfl (DT (by omega)) ?_
    refine r_load_sc hS hH (by repeat (first | exact Sub.nil | refine Sub.cons ?_ ?_ | exact In.here | refine In.there ?_)) rfl (by repeat (first | exact In.here | refine In.there ?_)) Fc.sc3 (by rfl) rfl ?_; clear hS; intro a hS
    refine Sq.guardYes hS rfl rfl (DT (by omega)) ?_
    refine r_leq hS hH.kp0 rfl rfl rfl ?_; clear hS; intro a hS
    refine r_pickT hS hH.kp0 rfl (DT (by omega)) rfl rfl ?_; clear hS; intro a hS
    refine r_move hS hH.kp0 rfl rfl ?_; clear hS; intro a hS
    refine Sq.guardYes hS rfl rfl (DT (by omega)) ?_
    refine r_fieldAddr hS hH.kp0 rfl Fc.fo59_3 rfl ?_; clear hS; intro a hS
    refine Sq.guardYes hS rfl rfl (DT (by omega)) ?_
    refine r_load_sc hS hH (by repeat (first | exact Sub.nil | refine Sub.cons ?_ ?_ | exact In.here | refine In.there ?_)) rfl (by repeat (first | exact In.here | refine In.there ?_)) Fc.sc3 (by rfl) rfl ?_; clear hS; intro a hS
    refine Sq.guardYes hS rfl rfl (DT (by omega)) ?_
    refine r_geq hS hH.kp0 rfl rfl rfl ?_; clear hS; intro a hS
    refine r_pickT hS hH.kp0 rfl (DT (by omega)) rfl rfl ?_; clear hS; intro a hS
    refine r_move hS hH.kp0 rfl rfl ?_; clear hS; intro a hS
    refine Sq.guardYes hS rfl rfl (DT (by omega)) ?_
    refine r_fieldAddr hS hH.kp0 rfl Fc.fo59_3 rfl ?_; clear hS; intro a hS
    refine Sq.guardYes hS rfl rfl (DT (by omega)) ?_
    refine r_load_sc hS hH (by repeat (first | exact Sub.nil | refine Sub.cons ?_ ?_ | exact In.here | refine In.there ?_)) rfl (by repeat (first | exact In.here | refine In.there ?_)) Fc.sc3 (by rfl) rfl ?_; clear hS; intro a hS
    refine Sq.guardYes hS rfl rfl (DT (by omega)) ?_
    refine r_leq hS hH.kp0 rfl rfl rfl ?_; clear hS; intro a hS
    refine r_pickT hS hH.kp0 rfl (DT (by omega)) rfl rfl ?_; clear hS; intro a hS
    refine r_move hS hH.kp0 rfl rfl ?_; clear hS; intro a hS
    refine Sq.guardYes hS rfl rfl (DT (by omega)) ?_
    refine r_fieldAddr hS hH.kp0 rfl Fc.fo59_4 rfl ?_; clear hS; intro a hS
    refine Sq.guardYes hS rfl rfl (DT (by omega)) ?_
    refine r_load_sc hS hH (by repeat (first | exact Sub.nil | refine Sub.cons ?_ ?_ | exact In.here | refine In.there ?_)) rfl (by repeat (first | exact In.here | refine In.there ?_)) Fc.sc3 (by rfl) rfl ?_; clear hS; intro a hS
    refine Sq.guardYes hS rfl rfl (DT (by omega)) ?_
    refine r_geq hS hH.kp0 rfl rfl rfl ?_; clear hS; intro a hS
    refine r_pickT hS hH.kp0 rfl (DT (by omega)) rfl rfl ?_; clear hS; intro a hS
    refine r_move hS hH.kp0 rfl rfl ?_; clear hS; intro a hS
    refine Sq.guardYes hS rfl rfl (DT (by omega)) ?_
    refine r_fieldAddr hS hH.kp0 rfl Fc.fo59_4 rfl ?_; clear hS; intro a hS
    refine Sq.guardYes hS rfl rfl (DT (by omega)) ?_
    refine r_load_sc hS hH (by repeat (first | exact Sub.nil | refine Sub.cons ?_ ?_ | exact In.here | refine In.there ?_)) rfl (by repeat (first | exact In.here | refine In.there ?_)) Fc.sc3 (by rfl) rfl ?_; clear hS; intro a hS
    refine Sq.guardYes hS rfl rfl (DT (by omega)) ?_
    refine r_leq hS hH.kp0 rfl rfl rfl ?_; clear hS; intro a hS
    refine r_pickT hS hH.kp0 rfl (DT (by omega)) rfl rfl ?_; clear hS; intro a hS
    refine r_move hS hH.kp0 rfl rfl ?_; clear hS; intro a hS
    refine Sq.guardYes hS rfl rfl (DT (by omega)) ?_
    refine r_fieldAddr hS hH.kp0 rfl Fc.fo59_5 rfl ?_; clear hS; intro a hS
    refine Sq.guardYes hS rfl rfl (DT (by omega)) ?_
    refine r_load_sc hS hH (by repeat (first | exact Sub.nil | refine Sub.cons ?_ ?_ | exact In.here | refine In.there ?_)) rfl (by repeat (first | exact In.here | refine In.there ?_)) Fc.sc3 (by rfl) rfl ?_; clear hS; intro a hS
    refine Sq.guardYes hS rfl rfl (DT (by omega)) ?_
    refine r_geq hS hH.kp0 rfl rfl rfl ?_; clear hS; intro a hS
    refine r_pickT hS hH.kp0 rfl (DT (by omega)) rfl rfl ?_; clear hS; intro a hS
    refine r_move hS hH.kp0 rfl rfl ?_; clear hS; intro a hS
    refine Sq.guardNo hS rfl rfl (DF (by omega)) hH.kp0 rfl ?_; clear hS; intro a hS
    refine Sq.guardNo hS rfl rfl (DF (by omega)) hH.kp0 rfl ?_; clear hS; intro a hS
    refine Sq.guardNo hS rfl rfl (DF (by omega)) hH.kp0 rfl ?_; clear hS; intro a hS
    refine r_pickF hS hH.kp0 rfl (DF (by omega)) rfl rfl ?_; clear hS; intro a hS
    refine r_assign hS hH.kp0 rfl rfl ?_; clear hS; intro a hS
    refine Sq.nil ?_
    refine then_n ?_
    refine c_seq ?_
    refine reg_plain w0 (Nobody) ?_
    refine r_move hS hH.kp0 rfl rfl ?_; clear hS; intro a hS
    refine r_ptrNotNil hS hH.kp0 rfl Fc.isPtr60 rfl ?_; clear hS; intro a hS
    refine r_move hS hH.kp0 rfl rfl ?_; clear hS; intro a hS
    refine r_boolEql hS hH.kp0 rfl rfl Fc.isBool4 rfl ?_; clear hS; intro a hS
    refine r_move hS hH.kp0 rfl rfl ?_; clear hS; intro a hS
    refine Sq.guardYes hS rfl rfl rfl ?_
    refine r_move hS hH.kp0 rfl rfl ?_; clear hS; intro a hS
    refine Sq.guardYes hS rfl rfl rfl ?_
    refine r_eql hS hH.kp0 rfl rfl rfl ?_; clear hS; intro a hS
    refine Sq.guardYes hS rfl rfl rfl ?_
    refine r_move hS hH.kp0 rfl rfl ?_; clear hS; intro a hS
    refine Sq.guardYes hS rfl rfl rfl ?_
    refine r_boolEql hS hH.kp0 rfl rfl Fc.isBool4 rfl ?_; clear hS; intro a hS
    refine r_pickT hS hH.kp0 rfl rfl rfl rfl ?_; clear hS; intro a hS
    refine r_move hS hH.kp0 rfl rfl ?_; clear hS; intro a hS
    refine Sq.guardYes hS rfl rfl rfl ?_
    refine r_move hS hH.kp0 rfl rfl ?_; clear hS; intro a hS
    refine Sq.guardYes hS rfl rfl rfl ?_
    refine r_move hS hH.kp0 rfl rfl ?_; clear hS; intro a hS
    refine Sq.guardYes hS rfl rfl rfl ?_
    refine r_move hS hH.kp0 rfl rfl ?_; clear hS; intro a hS
    refine Sq.guardYes hS rfl rfl rfl ?_
    refine r_eql hS hH.kp0 rfl rfl rfl ?_; clear hS; intro a hS
    refine Sq.guardYes hS rfl rfl rfl ?_
    refine r_pickF hS hH.kp0 rfl rfl rfl rfl ?_; clear hS; intro a hS
    refine r_pickT hS hH.kp0 rfl rfl rfl rfl ?_; clear hS; intro a hS
    refine r_assign hS hH.kp0 rfl rfl ?_; clear hS; intro a hS
    refine Sq.nil ?_
    refine then_n ?_
    refine wp_ret ?_
    exact leave (.inl rfl) hS rfl (Res.tmp rfl Res.nil) ⟨rfl, hH.mod⟩
  · refine r_load_row hS hH (by repeat (first | exact Sub.nil | refine Sub.cons ?_ ?_ | exact In.here | refine In.there ?_)) rfl (by repeat (first | exact In.here | refine In.there ?_)) Fc.ag59 (by rfl) rfl ?_; clear hS; intro a hS
    refine r_buildS (parts := []) hS hH.kp0 rfl rfl Fc.zc59 Fc.pl59 (by rfl) ?_; clear hS; intro a hS
    refine r_call (l := [.const (.bool true), .tmp 185, .tmp 186]) hS rfl rfl Fc.fn28 rfl ?_
    refine Calls.mono (New_bad a0 a1 a2 a3 a4 a5 (by omega) _) ?_
    rintro e w1 ⟨rfl, hE⟩
    replace hH := hH.ext hE
    refine ⟨_, rfl, hH.kp0, ?_⟩
    clear hS; intro a hS
    refine r_move hS hH.kp0 rfl rfl ?_; clear hS; intro a hS
    refine r_extract hS hH.kp0 rfl rfl rfl ?_; clear hS; intro a hS
    refine r_extract hS hH.kp0 rfl rfl rfl ?_; clear hS; intro a hS
    refine r_assign hS hH.kp0 rfl rfl ?_; clear hS; intro a hS
    refine r_assign hS hH.kp0 rfl rfl ?_; clear hS; intro a hS
    refine Sq.nil ?_
    refine then_n ?_
    refine c_seq ?_
    refine reg_plain w0 (Nobody) ?_
    refine r_fieldAddr hS hH.kp0 rfl Fc.fo59_0 rfl ?_; clear hS; intro a hS
    refine r_load_sc hS hH (by repeat (first | exact Sub.nil | refine Sub.cons ?_ ?_ | exact In.here | refine In.there ?_)) rfl (by repeat (first | exact In.here | refine In.there ?_)) Fc.sc3 (by rfl) rfl ?_; clear hS; intro a hS
    refine r_geq hS hH.kp0 rfl rfl rfl ?_; clear hS; intro a hS
    refine r_move hS hH.kp0 rfl rfl ?_; clear hS; intro a hS
    refine Sq.guardYes hS rfl rfl (DT (by omega)) ?_
    refine r_fieldAddr hS hH.kp0 rfl Fc.fo59_0 rfl ?_; clear hS; intro a hS
    refine Sq.guardYes hS rfl rfl (DT (by omega)) ?_
    refine r_load_sc hS hH (by repeat (first | exact Sub.nil | refine Sub.cons ?_ ?_ | exact In.here | refine In.there ?_)) rfl (by repeat (first | exact In.here | refine In.there ?_)) Fc.sc3 (by rfl) rfl ?_; clear hS; intro a hS
    refine Sq.guardYes hS rfl rfl (DT (by omega)) ?_
    refine r_leq hS hH.kp0 rfl rfl rfl ?_; clear hS; intro a hS
    refine r_pickT hS hH.kp0 rfl (DT (by omega)) rfl rfl ?_; clear hS; intro a hS
    refine r_move hS hH.kp0 rfl rfl ?_; clear hS; intro a hS
    refine Sq.guardYes hS rfl rfl (DT (by omega)) ?_
    refine r_fieldAddr hS hH.kp0 rfl Fc.fo59_1 rfl ?_; clear hS; intro a hS
    refine Sq.guardYes hS rfl rfl (DT (by omega)) ?_
    refine r_load_sc hS hH (by repeat (first | exact Sub.nil | refine Sub.cons ?_ ?_ | exact In.here | refine In.there ?_)) rfl (by repeat (first | exact In.here | refine In.there ?_)) Fc.sc3 (by rfl) rfl ?_; clear hS; intro a hS
    refine Sq.guardYes hS rfl rfl (DT (by omega)) ?_
    refine r_geq hS hH.kp0 rfl rfl rfl ?_; clear hS; intro a hS
    refine r_pickT hS hH.kp0 rfl (DT (by omega)) rfl rfl ?_; clear hS; intro a hS
    refine r_move hS hH.kp0 rfl rfl ?_; clear hS; intro a hS
    refine Sq.guardYes hS rfl rfl (DT (by omega)) ?_
    refine r_fieldAddr hS hH.kp0 rfl Fc.fo59_1 rfl ?_; clear hS; intro a hS
    refine Sq.guardYes hS rfl rfl (DT (by omega)) ?_
    refine r_load_sc hS hH (by repeat (first | exact Sub.nil | refine Sub.cons ?_ ?_ | exact In.here | refine In.there ?_)) rfl (by repeat (first | exact In.here | refine In.there ?_)) Fc.sc3 (by rfl) rfl ?_; clear hS; intro a hS
    refine Sq.guardYes hS rfl rfl (DT (by omega)) ?_
    refine r_leq hS hH.kp0 rfl rfl rfl ?_; clear hS; intro a hS
    refine r_pickT hS hH.kp0 rfl (DT (by omega)) rfl rfl ?_; clear hS; intro a hS
    refine r_move hS hH.kp0 rfl rfl ?_; clear hS; intro a hS
    refine Sq.guardYes hS rfl rfl (DT (by omega)) ?_
    refine r_fieldAddr hS hH.kp0 rfl Fc.fo59_2 rfl ?_; clear hS; intro a hS
    refine Sq.guardYes hS rfl rfl (DT (by omega)) ?_
    refine r_load_sc hS hH (by repeat (first | exact Sub.nil | refine Sub.cons ?_ ?_ | exact In.here | refine In.there ?_)) rfl (by repeat (first | exact In.here | refine In.there ?_)) Fc.sc3 (by rfl) rfl ?_; clear hS; intro a hS
    refine Sq.guardYes hS rfl rfl (DT (by omega)) ?_
    refine r_geq hS hH.kp0 rfl rfl rfl ?_; clear hS; intro a hS
    refine r_pickT hS hH.kp0 rfl (DT (by omega)) rfl rfl ?_; clear hS; intro a hS
    refine r_move hS hH.kp0 rfl rfl ?_; clear hS; intro a hS
    refine Sq.guardYes hS rfl rfl (DT (by omega)) ?_
    refine r_fieldAddr hS hH.kp0 rfl Fc.fo59_2 rfl ?_; clear hS; intro a hS
    refine Sq.guardYes hS rfl rfl (DT (by omega)) ?_
    refine r_load_sc hS hH (by repeat (first | exact Sub.nil | refine Sub.cons ?_ ?_ | exact In.here | refine In.there ?_)) rfl (by repeat (first | exact In.here | refine In.there ?_)) Fc.sc3 (by rfl) rfl ?_; clear hS; intro a hS
    refine Sq.guardYes hS rfl rfl (DT (by omega)) ?_
    refine r_leq hS hH.kp0 rfl rfl rfl ?_; clear hS; intro a hS
    refine r_pickT hS hH.kp0 rfl (DT (by omega)) rfl rfl ?_; clear hS; intro a hS
    refine r_move hS hH.kp0 rfl rfl ?_; clear hS; intro a hS
    refine Sq.guardYes hS rfl rfl (DT (by omega)) ?_
    refine r_fieldAddr hS hH.kp0 rfl Fc.fo59_3 rfl ?_; clear hS; intro a hS
    refine Sq.guardYes hS rfl rfl (DT (by omega)) ?_
    refine r_load_sc hS hH (by repeat (first | exact Sub.nil | refine Sub.cons ?_ ?_ | exact In.here | refine In.there ?_)) rfl (by repeat (first | exact In.here | refine In.there ?_)) Fc.sc3 (by rfl) rfl ?_; clear hS; intro a hS
    refine Sq.guardYes hS rfl rfl (DT (by omega)) ?_
    refine r_geq hS hH.kp0 rfl rfl rfl ?_; clear hS; intro a hS
    refine r_pickT hS hH.kp0 rfl (DT (by omega)) rfl rfl ?_; clear hS; intro a hS
    refine r_move hS hH.kp0 rfl rfl ?_; clear hS; intro a hS
    refine Sq.guardYes hS rfl rfl (DT (by omega)) ?_
    refine r_fieldAddr hS hH.kp0 rfl Fc.fo59_3 rfl ?_; clear hS; intro a hS
    refine Sq.guardYes hS rfl rfl (DT (by omega)) ?_
    refine r_load_sc hS hH (by repeat (first | exact Sub.nil | refine Sub.cons ?_ ?_ | exact In.here | refine In.there ?_)) rfl (by repeat (first | exact In.here | refine In.there ?_)) Fc.sc3 (by rfl) rfl ?_; clear hS; intro a hS
    refine Sq.guardYes hS rfl rfl (DT (by omega)) ?_
    refine r_leq hS hH.kp0 rfl rfl rfl ?_; clear hS; intro a hS
    refine r_pickT hS hH.kp0 rfl (DT (by omega)) rfl rfl ?_; clear hS; intro a hS
    refine r_move hS hH.kp0 rfl rfl ?_; clear hS; intro a hS
    refine Sq.guardYes hS rfl rfl (DT (by omega)) ?_
    refine r_fieldAddr hS hH.kp0 rfl Fc.fo59_4 rfl ?_; clear hS; intro a hS
    refine Sq.guardYes hS rfl rfl (DT (by omega)) ?_
    refine r_load_sc hS hH (by repeat (first | exact Sub.nil | refine Sub.cons ?_ ?_ | exact In.here | refine In.there ?_)) rfl (by repeat (first | exact In.here | refine In.there ?_)) Fc.sc3 (by rfl) rfl ?_; clear hS; intro a hS
    refine Sq.guardYes hS rfl rfl (DT (by omega)) ?_
    refine r_geq hS hH.kp0 rfl rfl rfl ?_; clear hS; intro a hS
    refine r_pickT hS hH.kp0 rfl (DT (by omega)) rfl rfl ?_; clear hS; intro a hS
    refine r_move hS hH.kp0 rfl rfl ?_; clear hS; intro a hS
    refine Sq.guardYes hS rfl rfl (DT (by omega)) ?_
    refine r_fieldAddr hS hH.kp0 rfl Fc.fo59_4 rfl ?_; clear hS; intro a hS
    refine Sq.guardYes hS rfl rfl (DT (by omega)) ?_
    refine r_load_sc hS hH (by repeat (first | exact Sub.nil | refine Sub.cons ?_ ?_ | exact In.here | refine In.there ?_)) rfl (by repeat (first | exact In.here | refine In.there ?_)) Fc.sc3 (by rfl) rfl ?_; clear hS; intro a hS
    refine Sq.guardYes hS rfl rfl (DT (by omega)) ?_
    refine r_leq hS hH.kp0 rfl rfl rfl ?_; clear hS; intro a hS
    refine r_pickT hS hH.kp0 rfl (DT (by omega)) rfl rfl ?_; clear hS; intro a hS
    refine r_move hS hH.kp0 rfl rfl ?_; clear hS; intro a hS
    refine Sq.guardYes hS rfl rfl (DT (by omega)) ?_
    refine r_fieldAddr hS hH.kp0 rfl Fc.fo59_5 rfl ?_; clear hS; intro a hS
    refine Sq.guardYes hS rfl rfl (DT (by omega)) ?_
    refine r_load_sc hS hH (by repeat (first | exact Sub.nil | refine Sub.cons ?_ ?_ | exact In.here | refine In.there ?_)) rfl (by repeat (first | exact In.here | refine In.there ?_)) Fc.sc3 (by rfl) rfl ?_; clear hS; intro a hS
    refine Sq.guardYes hS rfl rfl (DT (by omega)) ?_
    refine r_geq hS hH.kp0 rfl rfl rfl ?_; clear hS; intro a hS
    refine r_pickT hS hH.kp0 rfl (DT (by omega)) rfl rfl ?_; clear hS; intro a hS
    refine r_move hS hH.kp0 rfl rfl ?_; clear hS; intro a hS
    refine Sq.guardYes hS rfl rfl (DT (by omega)) ?_
    refine r_fieldAddr hS hH.kp0 rfl Fc.fo59_5 rfl ?_; clear hS; intro a hS
    refine Sq.guardYes hS rfl rfl (DT (by omega)) ?_
    refine r_load_sc hS hH (by repeat (first | exact Sub.nil | refine Sub.cons ?_ ?_ | exact In.here | refine In.there ?_)) rfl (by repeat (first | exact In.here | refine In.there ?_)) Fc.sc3 (by rfl) rfl ?_; clear hS; intro a hS
    refine Sq.guardYes hS rfl rfl (DT (by omega)) ?_
    refine r_leq hS hH.kp0 rfl rfl rfl ?_; clear hS; intro a hS
    refine r_pickT hS hH.kp0 rfl (DT (by omega)) rfl rfl ?_; clear hS; intro a hS
    refine r_assign hS hH.kp0 rfl rfl ?_; clear hS; intro a hS
    refine Sq.nil ?_
    refine then_n ?_
    refine c_seq ?_
    refine reg_plain w0 (Nobody) ?_
    rw [DF (show ¬ (a5 ≤ 1024) from by omega)] at hS
    refine r_move hS hH.kp0 rfl rfl ?_; clear hS; intro a hS
    refine r_ptrNotNil hS hH.kp0 rfl Fc.isPtr60 rfl ?_; clear hS; intro a hS
    refine r_move hS hH.kp0 rfl rfl ?_; clear hS; intro a hS
    refine r_boolEql hS hH.kp0 rfl rfl Fc.isBool4 rfl ?_; clear hS; intro a hS
    refine r_move hS hH.kp0 rfl rfl ?_; clear hS; intro a hS
    refine Sq.guardYes hS rfl rfl rfl ?_
    refine r_move hS hH.kp0 rfl rfl ?_; clear hS; intro a hS
    refine Sq.guardYes hS rfl rfl rfl ?_
    refine r_eql hS hH.kp0 rfl rfl rfl ?_; clear hS; intro a hS
    refine Sq.guardYes hS rfl rfl rfl ?_
    refine r_move hS hH.kp0 rfl rfl ?_; clear hS; intro a hS
    refine Sq.guardYes hS rfl rfl rfl ?_
    refine r_boolEql hS hH.kp0 rfl rfl Fc.isBool4 rfl ?_; clear hS; intro a hS
    refine r_pickT hS hH.kp0 rfl rfl rfl rfl ?_; clear hS; intro a hS
    refine r_move hS hH.kp0 rfl rfl ?_; clear hS; intro a hS
    refine Sq.guardYes hS rfl rfl rfl ?_
    refine r_move hS hH.kp0 rfl rfl ?_; clear hS; intro a hS
    refine Sq.guardYes hS rfl rfl rfl ?_
    refine r_move hS hH.kp0 rfl rfl ?_; clear hS; intro a hS
    refine Sq.guardYes hS rfl rfl rfl ?_
    refine r_move hS hH.kp0 rfl rfl ?_; clear hS; intro a hS
    refine Sq.guardYes hS rfl rfl rfl ?_
    refine r_eql hS hH.kp0 rfl rfl rfl ?_; clear hS; intro a hS
    refine Sq.guardYes hS rfl rfl rfl ?_
    refine r_pickF hS hH.kp0 rfl rfl rfl rfl ?_; clear hS; intro a hS
    refine r_pickT hS hH.kp0 rfl rfl rfl rfl ?_; clear hS; intro a hS
    refine r_assign hS hH.kp0 rfl rfl ?_; clear hS; intro a hS
    refine Sq.nil ?_
    refine then_n ?_
    refine wp_ret ?_
    exact leave (.inl rfl) hS rfl (Res.tmp rfl Res.nil) ⟨rfl, hH.mod⟩
  · refine r_load_row hS hH (by repeat (first | exact Sub.nil | refine Sub.cons ?_ ?_ | exact In.here | refine In.there ?_)) rfl (by repeat (first | exact In.here | refine In.there ?_)) Fc.ag59 (by rfl) rfl ?_; clear hS; intro a hS
    refine r_buildS (parts := []) hS hH.kp0 rfl rfl Fc.zc59 Fc.pl59 (by rfl) ?_; clear hS; intro a hS
    refine r_call (l := [.const (.bool true), .tmp 185, .tmp 186]) hS rfl rfl Fc.fn28 rfl ?_
    refine Calls.mono (New_ok a0 a1 a2 a3 a4 a5 ⟨⟨by omega, by omega⟩, ⟨by omega, by omega⟩, ⟨by omega, by omega⟩, ⟨by omega, by omega⟩, ⟨by omega, by omega⟩, ⟨by omega, by omega⟩⟩ _) ?_
    rintro e w1 ⟨nb, rfl, hE⟩
    replace hH := hH.ext hE
    refine ⟨_, rfl, hH.kp0, ?_⟩
    clear hS; intro a hS
    refine r_move hS hH.kp0 rfl rfl ?_; clear hS; intro a hS
    refine r_extract hS hH.kp0 rfl rfl rfl ?_; clear hS; intro a hS
    refine r_extract hS hH.kp0 rfl rfl rfl ?_; clear hS; intro a hS
    refine r_assign hS hH.kp0 rfl rfl ?_; clear hS; intro a hS
    refine r_assign hS hH.kp0 rfl rfl ?_; clear hS; intro a hS
    refine Sq.nil ?_
    refine then_n ?_
    refine c_seq ?_
    refine reg_plain w0 (Nobody) ?_
    refine r_fieldAddr hS hH.kp0 rfl Fc.fo59_0 rfl ?_; clear hS; intro a hS
    refine r_load_sc hS hH (by repeat (first | exact Sub.nil | refine Sub.cons ?_ ?_ | exact In.here | refine In.there ?_)) rfl (by repeat (first | exact In.here | refine In.there ?_)) Fc.sc3 (by rfl) rfl ?_; clear hS; intro a hS
    refine r_geq hS hH.kp0 rfl rfl rfl ?_; clear hS; intro a hS
    refine r_move hS hH.kp0 rfl rfl ?_; clear hS; intro a hS
    refine Sq.guardYes hS rfl rfl (DT (by omega)) ?_
    refine r_fieldAddr hS hH.kp0 rfl Fc.fo59_0 rfl ?_; clear hS; intro a hS
    refine Sq.guardYes hS rfl rfl (DT (by omega)) ?_
    refine r_load_sc hS hH (by repeat (first | exact Sub.nil | refine Sub.cons ?_ ?_ | exact In.here | refine In.there ?_)) rfl (by repeat (first | exact In.here | refine In.there ?_)) Fc.sc3 (by rfl) rfl ?_; clear hS; intro a hS
    refine Sq.guardYes hS rfl rfl (DT (by omega)) ?_
    refine r_leq hS hH.kp0 rfl rfl rfl ?_; clear hS; intro a hS
    refine r_pickT hS hH.kp0 rfl (DT (by omega)) rfl rfl ?_; clear hS; intro a hS
    refine r_move hS hH.kp0 rfl rfl ?_; clear hS; intro a hS
    refine Sq.guardYes hS rfl rfl (DT (by omega)) ?_
    refine r_fieldAddr hS hH.kp0 rfl Fc.fo59_1 rfl ?_; clear hS; intro a hS
    refine Sq.guardYes hS rfl rfl (DT (by omega)) ?_
    refine r_load_sc hS hH (by repeat (first | exact Sub.nil | refine Sub.cons ?_ ?_ | exact In.here | refine In.there ?_)) rfl (by repeat (first | exact In.here | refine In.there ?_)) Fc.sc3 (by rfl) rfl ?_; clear hS; intro a hS
    refine Sq.guardYes hS rfl rfl (DT (by omega)) ?_
    refine r_geq hS hH.kp0 rfl rfl rfl ?_; clear hS; intro a hS
    refine r_pickT hS hH.kp0 rfl (DT (by omega)) rfl rfl ?_; clear hS; intro a hS
    refine r_move hS hH.kp0 rfl rfl ?_; clear hS; intro a hS
    refine Sq.guardYes hS rfl rfl (DT (by omega)) ?_
    refine r_fieldAddr hS hH.kp0 rfl Fc.fo59_1 rfl ?_; clear hS; intro a hS
    refine Sq.guardYes hS rfl rfl (DT (by omega)) ?_
    refine r_load_sc hS hH (by repeat (first | exact Sub.nil | refine Sub.cons ?_ ?_ | exact In.here | refine In.there ?_)) rfl (by repeat (first | exact In.here | refine In.there ?_)) Fc.sc3 (by rfl) rfl ?_; clear hS; intro a hS
    refine Sq.guardYes hS rfl rfl (DT (by omega)) ?_
    refine r_leq hS hH.kp0 rfl rfl rfl ?_; clear hS; intro a hS
    refine r_pickT hS hH.kp0 rfl (DT (by omega)) rfl rfl ?_; clear hS; intro a hS
    refine r_move hS hH.kp0 rfl rfl ?_; clear hS; intro a hS
    refine Sq.guardYes hS rfl rfl (DT (by omega)) ?_
    refine r_fieldAddr hS hH.kp0 rfl Fc.fo59_2 rfl ?_; clear hS; intro a hS
    refine Sq.guardYes hS rfl rfl (DT (by omega)) ?_
    refine r_load_sc hS hH (by repeat (first | exact Sub.nil | refine Sub.cons ?_ ?_ | exact In.here | refine In.there ?_)) rfl (by repeat (first | exact In.here | refine In.there ?_)) Fc.sc3 (by rfl) rfl ?_; clear hS; intro a hS
    refine Sq.guardYes hS rfl rfl (DT (by omega)) ?_
    refine r_geq hS hH.kp0 rfl rfl rfl ?_; clear hS; intro a hS
    refine r_pickT hS hH.kp0 rfl (DT (by omega)) rfl rfl ?_; clear hS; intro a hS
    refine r_move hS hH.kp0 rfl rfl ?_; clear hS; intro a hS
    refine Sq.guardYes hS rfl rfl (DT (by omega)) ?_
    refine r_fieldAddr hS hH.kp0 rfl Fc.fo59_2 rfl ?_; clear hS; intro a hS
    refine Sq.guardYes hS rfl rfl (DT (by omega)) ?_
    refine r_load_sc hS hH (by repeat (first | exact Sub.nil | refine Sub.cons ?_ ?_ | exact In.here | refine In.there ?_)) rfl (by repeat (first | exact In.here | refine In.there ?_)) Fc.sc3 (by rfl) rfl ?_; clear hS; intro a hS
    refine Sq.guardYes hS rfl rfl (DT (by omega)) ?_
    refine r_leq hS hH.kp0 rfl rfl rfl ?_; clear hS; intro a hS
    refine r_pickT hS hH.kp0 rfl (DT (by omega)) rfl rfl ?_; clear hS; intro a hS
    refine r_move hS hH.kp0 rfl rfl ?_; clear hS; intro a hS
    refine Sq.guardYes hS rfl rfl (DT (by omega)) ?_
    refine r_fieldAddr hS hH.kp0 rfl Fc.fo59_3 rfl ?_; clear hS; intro a hS
    refine Sq.guardYes hS rfl rfl (DT (by omega)) ?_
    refine r_load_sc hS hH (by repeat (first | exact Sub.nil | refine Sub.cons ?_ ?_ | exact In.here | refine In.there ?_)) rfl (by repeat (first | exact In.here | refine In.there ?_)) Fc.sc3 (by rfl) rfl ?_; clear hS; intro a hS
    refine Sq.guardYes hS rfl rfl (DT (by omega)) ?_
    refine r_geq hS hH.kp0 rfl rfl rfl ?_; clear hS; intro a hS
    refine r_pickT hS hH.kp0 rfl (DT (by omega)) rfl rfl ?_; clear hS; intro a hS
    refine r_move hS hH.kp0 rfl rfl ?_; clear hS; intro a hS
    refine Sq.guardYes hS rfl rfl (DT (by omega)) ?_
    refine r_fieldAddr hS hH.kp0 rfl Fc.fo59_3 rfl ?_; clear hS; intro a hS
    refine Sq.guardYes hS rfl rfl (DT (by omega)) ?_
    refine r_load_sc hS hH (by repeat (first | exact Sub.nil | refine Sub.cons ?_ ?_ | exact In.here | refine In.there ?_)) rfl (by repeat (first | exact In.here | refine In.there ?_)) Fc.sc3 (by rfl) rfl ?_; clear hS; intro a hS
    refine Sq.guardYes hS rfl rfl (DT (by omega)) ?_
    refine r_leq hS hH.kp0 rfl rfl rfl ?_; clear hS; intro a hS
    refine r_pickT hS hH.kp0 rfl (DT (by omega)) rfl rfl ?_; clear hS; intro a hS
    refine r_move hS hH.kp0 rfl rfl ?_; clear hS; intro a hS
    refine Sq.guardYes hS rfl rfl (DT (by omega)) ?_
    refine r_fieldAddr hS hH.kp0 rfl Fc.fo59_4 rfl ?_; clear hS; intro a hS
    refine Sq.guardYes hS rfl rfl (DT (by omega)) ?_
    refine r_load_sc hS hH (by repeat (first | exact Sub.nil | refine Sub.cons ?_ ?_ | exact In.here | refine In.there ?_)) rfl (by repeat (first | exact In.here | refine In.there ?_)) Fc.sc3 (by rfl) rfl ?_; clear hS; intro a hS
    refine Sq.guardYes hS rfl rfl (DT (by omega)) ?_
    refine r_geq hS hH.kp0 rfl rfl rfl ?_; clear hS; intro a hS
    refine r_pickT hS hH.kp0 rfl (DT (by omega)) rfl rfl ?_; clear hS; intro a hS
    refine r_move hS hH.kp0 rfl rfl ?_; clear hS; intro a hS
    refine Sq.guardYes hS rfl rfl (DT (by omega)) ?_
    refine r_fieldAddr hS hH.kp0 rfl Fc.fo59_4 rfl ?_; clear hS; intro a hS
    refine Sq.guardYes hS rfl rfl (DT (by omega)) ?_
    refine r_load_sc hS hH (by repeat (first | exact Sub.nil | refine Sub.cons ?_ ?_ | exact In.here | refine In.there ?_)) rfl (by repeat (first | exact In.here | refine In.there ?_)) Fc.sc3 (by rfl) rfl ?_; clear hS; intro a hS
    refine Sq.guardYes hS rfl rfl (DT (by omega)) ?_
    refine r_leq hS hH.kp0 rfl rfl rfl ?_; clear hS; intro a hS
    refine r_pickT hS hH.kp0 rfl (DT (by omega)) rfl rfl ?_; clear hS; intro a hS
    refine r_move hS hH.kp0 rfl rfl ?_; clear hS; intro a hS
    refine Sq.guardYes hS rfl rfl (DT (by omega)) ?_
    refine r_fieldAddr hS hH.kp0 rfl Fc.fo59_5 rfl ?_; clear hS; intro a hS
    refine Sq.guardYes hS rfl rfl (DT (by omega)) ?_
    refine r_load_sc hS hH (by repeat (first | exact Sub.nil | refine Sub.cons ?_ ?_ | exact In.here | refine In.there ?_)) rfl (by repeat (first | exact In.here | refine In.there ?_)) Fc.sc3 (by rfl) rfl ?_; clear hS; intro a hS
    refine Sq.guardYes hS rfl rfl (DT (by omega)) ?_
    refine r_geq hS hH.kp0 rfl rfl rfl ?_; clear hS; intro a hS
    refine r_pickT hS hH.kp0 rfl (DT (by omega)) rfl rfl ?_; clear hS; intro a hS
    refine r_move hS hH.kp0 rfl rfl ?_; clear hS; intro a hS
    refine Sq.guardYes hS rfl rfl (DT (by omega)) ?_
    refine r_fieldAddr hS hH.kp0 rfl Fc.fo59_5 rfl ?_; clear hS; intro a hS
    refine Sq.guardYes hS rfl rfl (DT (by omega)) ?_
    refine r_load_sc hS hH (by repeat (first | exact Sub.nil | refine Sub.cons ?_ ?_ | exact In.here | refine In.there ?_)) rfl (by repeat (first | exact In.here | refine In.there ?_)) Fc.sc3 (by rfl) rfl ?_; clear hS; intro a hS
    refine Sq.guardYes hS rfl rfl (DT (by omega)) ?_
    refine r_leq hS hH.kp0 rfl rfl rfl ?_; clear hS; intro a hS
    refine r_pickT hS hH.kp0 rfl (DT (by omega)) rfl rfl ?_; clear hS; intro a hS
    refine r_assign hS hH.kp0 rfl rfl ?_; clear hS; intro a hS
    refine Sq.nil ?_
    refine then_n ?_
    refine c_seq ?_
    refine reg_plain w0 (Nobody) ?_
    rw [DT (show a5 ≤ 1024 from by omega)] at hS
    refine r_move hS hH.kp0 rfl rfl ?_; clear hS; intro a hS
    refine r_ptrNotNil hS hH.kp0 rfl Fc.isPtr60 rfl ?_; clear hS; intro a hS
    refine r_move hS hH.kp0 rfl rfl ?_; clear hS; intro a hS
    refine r_boolEql hS hH.kp0 rfl rfl Fc.isBool4 rfl ?_; clear hS; intro a hS
    refine r_move hS hH.kp0 rfl rfl ?_; clear hS; intro a hS
    refine Sq.guardYes hS rfl rfl rfl ?_
    refine r_move hS hH.kp0 rfl rfl ?_; clear hS; intro a hS
    refine Sq.guardYes hS rfl rfl rfl ?_
    refine r_eql hS hH.kp0 rfl rfl rfl ?_; clear hS; intro a hS
    refine Sq.guardYes hS rfl rfl rfl ?_
    refine r_move hS hH.kp0 rfl rfl ?_; clear hS; intro a hS
    refine Sq.guardYes hS rfl rfl rfl ?_
    refine r_boolEql hS hH.kp0 rfl rfl Fc.isBool4 rfl ?_; clear hS; intro a hS
    refine r_pickT hS hH.kp0 rfl rfl rfl rfl ?_; clear hS; intro a hS
    refine r_move hS hH.kp0 rfl rfl ?_; clear hS; intro a hS
    refine Sq.guardYes hS rfl rfl rfl ?_
    refine r_move hS hH.kp0 rfl rfl ?_; clear hS; intro a hS
    refine Sq.guardYes hS rfl rfl rfl ?_
    refine r_move hS hH.kp0 rfl rfl ?_; clear hS; intro a hS
    refine Sq.guardNo hS rfl rfl rfl hH.kp0 rfl ?_; clear hS; intro a hS
    refine Sq.guardNo hS rfl rfl rfl hH.kp0 rfl ?_; clear hS; intro a hS
    refine Sq.guardYes hS rfl rfl rfl ?_
    refine r_pickT hS hH.kp0 rfl rfl rfl rfl ?_; clear hS; intro a hS
    refine r_pickT hS hH.kp0 rfl rfl rfl rfl ?_; clear hS; intro a hS
    refine r_assign hS hH.kp0 rfl rfl ?_; clear hS; intro a hS
    refine Sq.nil ?_
    refine then_n ?_
    refine wp_ret ?_
    exact leave (.inl rfl) hS rfl (Res.tmp rfl Res.nil) ⟨rfl, hH.mod⟩

end Go.Proofs.YtmbidmlinaafnaaGreatDoor
