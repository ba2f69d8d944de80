/- StreamsNobody holds of every input up to the given bulk: tables that no call made have no streams, and limits that may not be make none. Part Streams3: walks and lemmas of the proof. -/
import Derived.Test.YtmbidmlinaafnaaGreatDoorStreams2
namespace Go.Proofs.YtmbidmlinaafnaaGreatDoor
open Go.Sym

theorem Fc.ar63 : arrB Tryz.prog 63 = some (4, 1) := by kernel_rfl
theorem Fc.ar64 : arrB Tryz.prog 64 = some (4, 1) := by kernel_rfl
theorem Fc.fn149 : isFn Tryz.prog 149 = true := by kernel_rfl
theorem Fc.fn85 : isFn Tryz.prog 85 = true := by kernel_rfl
theorem Fc.fn86 : isFn Tryz.prog 86 = true := by kernel_rfl
theorem Fc.fn87 : isFn Tryz.prog 87 = true := by kernel_rfl
theorem Fc.fo70_1 : foff Tryz.prog 70 1 = some 1 := by kernel_rfl
theorem Fc.fo70_4 : foff Tryz.prog 70 4 = some 14 := by kernel_rfl
theorem Fc.fo70_5 : foff Tryz.prog 70 5 = some 15 := by kernel_rfl
theorem Fc.fo70_6 : foff Tryz.prog 70 6 = some 16 := by kernel_rfl
theorem Fc.fo70_7 : foff Tryz.prog 70 7 = some 20 := by kernel_rfl
theorem Fc.isMap65 : isMap Tryz.prog 65 = true := by kernel_rfl
theorem Fc.isMap67 : isMap Tryz.prog 67 = true := by kernel_rfl
theorem Fc.isMap68 : isMap Tryz.prog 68 = true := by kernel_rfl
theorem Fc.pl202 : placesB Tryz.prog 202 = some [(0, 1), (1, 1), (2, 1), (3, 1)] := by kernel_rfl
theorem Fc.pl214 : placesB Tryz.prog 214 = some [(0, 1), (1, 1), (2, 1), (3, 1), (4, 1)] := by kernel_rfl
theorem Fc.pl70 : placesB Tryz.prog 70 = some [(0, 1), (1, 1), (2, 6), (8, 6), (14, 1), (15, 1), (16, 4), (20, 4), (24, 1), (25, 4), (29, 1), (30, 1), (31, 1), (32, 1)] := by kernel_rfl
theorem Fc.sz3 : sizeB Tryz.prog 3 1 = true := by kernel_rfl
theorem Fc.sz61 : sizeB Tryz.prog 61 1 = true := by kernel_rfl
theorem Fc.sz62 : sizeB Tryz.prog 62 1 = true := by kernel_rfl
theorem Fc.zc202 : zcB Tryz.prog 202 = some [.bool false, .int .i64 0, .int .i64 0, .int .i64 0] := by kernel_rfl
theorem Fc.zc214 : zcB Tryz.prog 214 = some [.bool false, .int .i64 0, .int .i64 0, .int .i64 0, .int .i64 0] := by kernel_rfl
theorem Fc.zc70 : zcB Tryz.prog 70 = some [.bool false, .int .i64 0, .int .i64 0, .int .i64 0, .int .i64 0, .int .i64 0, .int .i64 0, .int .i64 0, .int .i64 0, .int .i64 0, .int .i64 0, .int .i64 0, .int .i64 0, .int .i64 0, .pointer none, .pointer none, .pointer none, .pointer none, .pointer none, .pointer none, .pointer none, .pointer none, .pointer none, .pointer none, .map none, .int .i64 0, .int .i64 0, .int .i64 0, .int .i64 0, .slice none 0 0, .map none, .int .i64 0, .map none] := by kernel_rfl
set_option maxRecDepth 100000 in
set_option maxHeartbeats 400000 in
theorem lies_any (x : Int) (w0 : World) : Calls Tryz.prog 149 #[.int .i64 x] w0 fun e w' => ∃ r : Bool, e = .returned (.bool r) ∧ Ext w0 w' := by
  refine enter Tryz.func149 rfl rfl rfl ?_
  intro a hS
  have hH := Hp.start w0 (Nobody)
  refine c_seq ?_
  refine reg_plain w0 (Nobody) ?_
  refine r_assign hS hH.kp0 rfl rfl ?_; clear hS; intro a hS
  refine Sq.nil ?_
  refine then_n ?_
  refine c_seq ?_
  refine reg_plain w0 (Nobody) ?_
  refine r_move hS hH.kp0 rfl rfl ?_; clear hS; intro a hS
  refine r_geq hS hH.kp0 rfl rfl rfl ?_; clear hS; intro a hS
  by_cases hx : x ≥ 0
  · refine r_move hS hH.kp0 rfl rfl ?_; clear hS; intro a hS
    refine Sq.guardYes hS rfl rfl (DT hx) ?_
    refine r_move hS hH.kp0 rfl rfl ?_; clear hS; intro a hS
    refine Sq.guardYes hS rfl rfl (DT hx) ?_
    refine r_leq hS hH.kp0 rfl rfl rfl ?_; clear hS; intro a hS
    refine r_pickT hS hH.kp0 rfl (DT hx) rfl rfl ?_; clear hS; intro a hS
    refine r_assign hS hH.kp0 rfl rfl ?_; clear hS; intro a hS
    refine Sq.nil ?_
    refine then_n ?_
    refine wp_ret ?_
    exact leave (.inl rfl) hS rfl (Res.tmp rfl Res.nil) ⟨_, rfl, hH.mod⟩
  · refine r_move hS hH.kp0 rfl rfl ?_; clear hS; intro a hS
    refine Sq.guardNo hS rfl rfl (DF hx) hH.kp0 rfl ?_; clear hS; intro a hS
    refine Sq.guardNo hS rfl rfl (DF hx) hH.kp0 rfl ?_; clear hS; intro a hS
    refine r_pickF hS hH.kp0 rfl (DF hx) rfl rfl ?_; clear hS; intro a hS
    refine r_assign hS hH.kp0 rfl rfl ?_; clear hS; intro a hS
    refine Sq.nil ?_
    refine then_n ?_
    refine wp_ret ?_
    exact leave (.inl rfl) hS rfl (Res.tmp rfl Res.nil) ⟨_, rfl, hH.mod⟩

set_option maxRecDepth 100000 in
set_option maxHeartbeats 400000 in
theorem NewGive_any (x : Int) (w0 : World) : Calls Tryz.prog 86 #[.int .i64 x] w0 fun e w' => ∃ q e', e = .returned (.tuple #[.pointer q, .int .i64 e']) ∧ Ext w0 w' := by
  refine enter Tryz.func86 rfl rfl rfl ?_
  intro a hS
  have hH := Hp.start w0 (Nobody)
  refine c_seq ?_
  refine reg_plain w0 (Nobody) ?_
  refine r_assign hS hH.kp0 rfl rfl ?_; clear hS; intro a hS
  refine r_assign hS hH.kp0 rfl rfl ?_; clear hS; intro a hS
  refine Sq.nil ?_
  refine then_n ?_
  refine c_seq ?_
  refine c_seq ?_
  refine reg_plain w0 (Nobody) ?_
  refine r_move hS hH.kp0 rfl rfl ?_; clear hS; intro a hS
  refine r_call (l := [.tmp 4]) hS rfl rfl Fc.fn149 rfl ?_
  refine Calls.mono (lies_any _ _) ?_
  rintro e w1 ⟨r, rfl, hE⟩
  replace hH := hH.ext hE
  refine ⟨_, rfl, hH.kp0, ?_⟩
  clear hS; intro a hS
  refine r_not hS hH.kp0 rfl rfl ?_; clear hS; intro a hS
  refine Sq.nil ?_
  refine then_n ?_
  refine c_cond hS rfl (fun hc0 => ?_) (fun hc0 => ?_)
  · refine c_seq ?_
    refine reg_plain w0 (Nobody) ?_
    refine r_assign hS hH.kp0 rfl rfl ?_; clear hS; intro a hS
    refine r_assign hS hH.kp0 rfl rfl ?_; clear hS; intro a hS
    refine Sq.nil ?_
    refine then_n ?_
    refine wp_ret ?_
    refine then_r ?_
    exact leave (.inl rfl) hS rfl (Res.tmp rfl (Res.tmp rfl Res.nil)) ⟨_, _, rfl, hH.mod⟩
  · refine wp_skip ?_
    refine then_n ?_
    refine c_seq ?_
    refine reg_plain w0 (Nobody) ?_
    refine r_move hS hH.kp0 rfl rfl ?_; clear hS; intro a hS
    refine r_buildS (parts := [(0, .const (.bool true)), (1, .tmp 7)]) hS hH.kp0 rfl rfl Fc.zc202 Fc.pl202 (by rfl) ?_; clear hS; intro a hS
    refine r_box hS hH (by repeat (first | exact Sub.nil | refine Sub.cons ?_ ?_ | exact In.here | refine In.there ?_)) rfl rfl rfl ?_
    clear hS hH; intro a w b9 hb9 hwb9 hS hH
    refine r_assign hS hH.kp0 rfl rfl ?_; clear hS; intro a hS
    refine r_assign hS hH.kp0 rfl rfl ?_; clear hS; intro a hS
    refine Sq.nil ?_
    refine then_n ?_
    refine wp_ret ?_
    exact leave (.inl rfl) hS rfl (Res.tmp rfl (Res.tmp rfl Res.nil)) ⟨_, _, rfl, hH.mod⟩

set_option maxRecDepth 100000 in
set_option maxHeartbeats 400000 in
theorem NewGet_any (x : Int) (w0 : World) : Calls Tryz.prog 87 #[.int .i64 x] w0 fun e w' => ∃ q e', e = .returned (.tuple #[.pointer q, .int .i64 e']) ∧ Ext w0 w' := by
  refine enter Tryz.func87 rfl rfl rfl ?_
  intro a hS
  have hH := Hp.start w0 (Nobody)
  refine c_seq ?_
  refine reg_plain w0 (Nobody) ?_
  refine r_assign hS hH.kp0 rfl rfl ?_; clear hS; intro a hS
  refine r_assign hS hH.kp0 rfl rfl ?_; clear hS; intro a hS
  refine Sq.nil ?_
  refine then_n ?_
  refine c_seq ?_
  refine c_seq ?_
  refine reg_plain w0 (Nobody) ?_
  refine r_move hS hH.kp0 rfl rfl ?_; clear hS; intro a hS
  refine r_lss hS hH.kp0 rfl rfl rfl ?_; clear hS; intro a hS
  by_cases hx : x < 0
  · refine r_move hS hH.kp0 rfl rfl ?_; clear hS; intro a hS
    refine Sq.guardNo hS rfl rfl (DT hx) hH.kp0 rfl ?_; clear hS; intro a hS
    refine Sq.guardNo hS rfl rfl (DT hx) hH.kp0 rfl ?_; clear hS; intro a hS
    refine r_pickT hS hH.kp0 rfl (DT hx) rfl rfl ?_; clear hS; intro a hS
    refine Sq.nil ?_
    refine then_n ?_
    refine c_cond hS rfl (fun hc0 => ?_) (fun hc0 => ?_)
    · refine c_seq ?_
      refine reg_plain w0 (Nobody) ?_
      refine r_assign hS hH.kp0 rfl rfl ?_; clear hS; intro a hS
      refine r_assign hS hH.kp0 rfl rfl ?_; clear hS; intro a hS
      refine Sq.nil ?_
      refine then_n ?_
      refine wp_ret ?_
      refine then_r ?_
      exact leave (.inl rfl) hS rfl (Res.tmp rfl (Res.tmp rfl Res.nil)) ⟨_, _, rfl, hH.mod⟩
    · refine wp_skip ?_
      refine then_n ?_
      refine c_seq ?_
      refine reg_plain w0 (Nobody) ?_
      refine r_move hS hH.kp0 rfl rfl ?_; clear hS; intro a hS
      refine r_move hS hH.kp0 rfl rfl ?_; clear hS; intro a hS
      refine r_buildS (parts := [(0, .const (.bool true)), (1, .tmp 10), (2, .tmp 11)]) hS hH.kp0 rfl rfl Fc.zc214 Fc.pl214 (by rfl) ?_; clear hS; intro a hS
      refine r_box hS hH (by repeat (first | exact Sub.nil | refine Sub.cons ?_ ?_ | exact In.here | refine In.there ?_)) rfl rfl rfl ?_
      clear hS hH; intro a w b13 hb13 hwb13 hS hH
      refine r_assign hS hH.kp0 rfl rfl ?_; clear hS; intro a hS
      refine r_assign hS hH.kp0 rfl rfl ?_; clear hS; intro a hS
      refine Sq.nil ?_
      refine then_n ?_
      refine wp_ret ?_
      exact leave (.inl rfl) hS rfl (Res.tmp rfl (Res.tmp rfl Res.nil)) ⟨_, _, rfl, hH.mod⟩
  · refine r_move hS hH.kp0 rfl rfl ?_; clear hS; intro a hS
    refine Sq.guardYes hS rfl rfl (DF hx) ?_
    refine r_move hS hH.kp0 rfl rfl ?_; clear hS; intro a hS
    refine Sq.guardYes hS rfl rfl (DF hx) ?_
    refine r_gtr hS hH.kp0 rfl rfl rfl ?_; clear hS; intro a hS
    refine r_pickF hS hH.kp0 rfl (DF hx) rfl rfl ?_; clear hS; intro a hS
    refine Sq.nil ?_
    refine then_n ?_
    refine c_cond hS rfl (fun hc0 => ?_) (fun hc0 => ?_)
    · refine c_seq ?_
      refine reg_plain w0 (Nobody) ?_
      refine r_assign hS hH.kp0 rfl rfl ?_; clear hS; intro a hS
      refine r_assign hS hH.kp0 rfl rfl ?_; clear hS; intro a hS
      refine Sq.nil ?_
      refine then_n ?_
      refine wp_ret ?_
      refine then_r ?_
      exact leave (.inl rfl) hS rfl (Res.tmp rfl (Res.tmp rfl Res.nil)) ⟨_, _, rfl, hH.mod⟩
    · refine wp_skip ?_
      refine then_n ?_
      refine c_seq ?_
      refine reg_plain w0 (Nobody) ?_
      refine r_move hS hH.kp0 rfl rfl ?_; clear hS; intro a hS
      refine r_move hS hH.kp0 rfl rfl ?_; clear hS; intro a hS
      refine r_buildS (parts := [(0, .const (.bool true)), (1, .tmp 10), (2, .tmp 11)]) hS hH.kp0 rfl rfl Fc.zc214 Fc.pl214 (by rfl) ?_; clear hS; intro a hS
      refine r_box hS hH (by repeat (first | exact Sub.nil | refine Sub.cons ?_ ?_ | exact In.here | refine In.there ?_)) rfl rfl rfl ?_
      clear hS hH; intro a w b13 hb13 hwb13 hS hH
      refine r_assign hS hH.kp0 rfl rfl ?_; clear hS; intro a hS
      refine r_assign hS hH.kp0 rfl rfl ?_; clear hS; intro a hS
      refine Sq.nil ?_
      refine then_n ?_
      refine wp_ret ?_
      exact leave (.inl rfl) hS rfl (Res.tmp rfl (Res.tmp rfl Res.nil)) ⟨_, _, rfl, hH.mod⟩

set_option maxRecDepth 100000 in
set_option maxHeartbeats 4000000 in
theorem New_bad (a0 a1 a2 a3 a4 a5 : Int) (h : ¬ ((0 ≤ a0 ∧ a0 ≤ 1073741824) ∧ (0 ≤ a1 ∧ a1 ≤ 1048576) ∧ (0 ≤ a2 ∧ a2 ≤ 1048576) ∧ (0 ≤ a3 ∧ a3 ≤ 1048576) ∧ (0 ≤ a4 ∧ a4 ≤ 1024) ∧ (0 ≤ a5 ∧ a5 ≤ 1024))) (w0 : World) : Calls Tryz.prog 28 #[.bool true, .agg #[.int .i64 a0, .int .i64 a1, .int .i64 a2, .int .i64 a3, .int .i64 a4, .int .i64 a5], .agg #[.int .i64 0, .int .i64 0, .int .i64 0, .int .i64 0, .int .i64 0, .int .i64 0]] w0 fun e w' => e = .returned (.tuple #[.pointer none, .int .i64 2]) ∧ Ext w0 w' := by
  refine enter Tryz.func28 rfl rfl rfl ?_
  intro a hS
  have hH := Hp.start w0 (Nobody)
  refine c_seq ?_
  refine reg_plain w0 (Nobody) ?_
  refine r_box hS hH (by repeat (first | exact Sub.nil | refine Sub.cons ?_ ?_ | exact In.here | refine In.there ?_)) rfl rfl rfl ?_
  clear hS hH; intro a w b4 hb4 hwb4 hS hH
  refine r_box hS hH (by repeat (first | exact Sub.nil | refine Sub.cons ?_ ?_ | exact In.here | refine In.there ?_)) rfl rfl rfl ?_
  clear hS hH; intro a w b5 hb5 hwb5 hS hH
  refine r_assign hS hH.kp0 rfl rfl ?_; clear hS; intro a hS
  refine r_assign hS hH.kp0 rfl rfl ?_; clear hS; intro a hS
  refine Sq.nil ?_
  refine then_n ?_
  refine c_seq ?_
  refine c_seq ?_
  refine reg_plain w0 (Nobody) ?_
  refine r_load_row hS hH (by repeat (first | exact Sub.nil | refine Sub.cons ?_ ?_ | exact In.here | refine In.there ?_)) rfl (by repeat (first | exact In.here | refine In.there ?_)) Fc.ag59 (by rfl) rfl ?_; clear hS; intro a hS
  refine r_call (l := [.tmp 12, .const (.bool true)]) hS rfl rfl Fc.fn85 rfl ?_
  refine Calls.mono (fits_own a0 a1 a2 a3 a4 a5 _) ?_
  rintro e w1 ⟨r, rfl, hr, hE⟩
  obtain rfl : r = false := by cases r; rfl; exact absurd (hr.1 rfl) h
  replace hH := hH.ext hE
  refine ⟨_, rfl, hH.kp0, ?_⟩
  clear hS; intro a hS
  refine r_not hS hH.kp0 rfl rfl ?_; clear hS; intro a hS
  refine r_move hS hH.kp0 rfl rfl ?_; clear hS; intro a hS
  refine Sq.guardNo hS rfl rfl rfl hH.kp0 rfl ?_; clear hS; intro a hS
  refine Sq.guardNo hS rfl rfl rfl hH.kp0 rfl ?_; clear hS; intro a hS
  refine Sq.guardNo hS rfl rfl rfl hH.kp0 rfl ?_; clear hS; intro a hS
  refine r_pickT hS hH.kp0 rfl rfl rfl rfl ?_; clear hS; intro a hS
  refine Sq.nil ?_
  refine then_n ?_
  refine c_condT hS rfl rfl ?_
  refine c_seq ?_
  refine reg_plain w0 (Nobody) ?_
  refine r_assign hS hH.kp0 rfl rfl ?_; clear hS; intro a hS
  refine r_assign hS hH.kp0 rfl rfl ?_; clear hS; intro a hS
  refine Sq.nil ?_
  refine then_n ?_
  refine wp_ret ?_
  refine then_r ?_
  exact leave (.inl rfl) hS rfl (Res.tmp rfl (Res.tmp rfl Res.nil)) ⟨rfl, hH.mod⟩

set_option maxRecDepth 100000 in
set_option maxHeartbeats 4000000 in
theorem New_ok (a0 a1 a2 a3 a4 a5 : Int) (h : ((0 ≤ a0 ∧ a0 ≤ 1073741824) ∧ (0 ≤ a1 ∧ a1 ≤ 1048576) ∧ (0 ≤ a2 ∧ a2 ≤ 1048576) ∧ (0 ≤ a3 ∧ a3 ≤ 1048576) ∧ (0 ≤ a4 ∧ a4 ≤ 1024) ∧ (0 ≤ a5 ∧ a5 ≤ 1024))) (w0 : World) : Calls Tryz.prog 28 #[.bool true, .agg #[.int .i64 a0, .int .i64 a1, .int .i64 a2, .int .i64 a3, .int .i64 a4, .int .i64 a5], .agg #[.int .i64 0, .int .i64 0, .int .i64 0, .int .i64 0, .int .i64 0, .int .i64 0]] w0 fun e w' => ∃ b, e = .returned (.tuple #[.pointer (some ⟨b, 0, none⟩), .int .i64 0]) ∧ Ext w0 w' := by
  refine enter Tryz.func28 rfl rfl rfl ?_
  intro a hS
  have hH := Hp.start w0 (Nobody)
  refine c_seq ?_
  refine reg_plain w0 (Nobody) ?_
  refine r_box hS hH (by repeat (first | exact Sub.nil | refine Sub.cons ?_ ?_ | exact In.here | refine In.there ?_)) rfl rfl rfl ?_
  clear hS hH; intro a w b4 hb4 hwb4 hS hH
  refine r_box hS hH (by repeat (first | exact Sub.nil | refine Sub.cons ?_ ?_ | exact In.here | refine In.there ?_)) rfl rfl rfl ?_
  clear hS hH; intro a w b5 hb5 hwb5 hS hH
  refine r_assign hS hH.kp0 rfl rfl ?_; clear hS; intro a hS
  refine r_assign hS hH.kp0 rfl rfl ?_; clear hS; intro a hS
  refine Sq.nil ?_
  refine then_n ?_
  refine c_seq ?_
  refine c_seq ?_
  refine reg_plain w0 (Nobody) ?_
  refine r_load_row hS hH (by repeat (first | exact Sub.nil | refine Sub.cons ?_ ?_ | exact In.here | refine In.there ?_)) rfl (by repeat (first | exact In.here | refine In.there ?_)) Fc.ag59 (by rfl) rfl ?_; clear hS; intro a hS
  refine r_call (l := [.tmp 12, .const (.bool true)]) hS rfl rfl Fc.fn85 rfl ?_
  refine Calls.mono (fits_own a0 a1 a2 a3 a4 a5 _) ?_
  rintro e w1 ⟨r, rfl, hr, hE⟩
  obtain rfl : r = true := hr.2 h
  replace hH := hH.ext hE
  refine ⟨_, rfl, hH.kp0, ?_⟩
  clear hS; intro a hS
  refine r_not hS hH.kp0 rfl rfl ?_; clear hS; intro a hS
  refine r_move hS hH.kp0 rfl rfl ?_; clear hS; intro a hS
  refine Sq.guardYes hS rfl rfl rfl ?_
  refine r_load_row hS hH (by repeat (first | exact Sub.nil | refine Sub.cons ?_ ?_ | exact In.here | refine In.there ?_)) rfl (by repeat (first | exact In.here | refine In.there ?_)) Fc.ag59 (by rfl) rfl ?_; clear hS; intro a hS
  refine Sq.guardYes hS rfl rfl rfl ?_
  refine r_call (l := [.tmp 16, .const (.bool false)]) hS rfl rfl Fc.fn85 rfl ?_
  refine Calls.mono (fits_peer 0 0 0 0 0 0 _) ?_
  rintro e w1 ⟨r, rfl, hr, hE⟩
  obtain rfl : r = true := hr.2 (by decide)
  replace hH := hH.ext hE
  refine ⟨_, rfl, hH.kp0, ?_⟩
  clear hS; intro a hS
  refine Sq.guardYes hS rfl rfl rfl ?_
  refine r_not hS hH.kp0 rfl rfl ?_; clear hS; intro a hS
  refine r_pickF hS hH.kp0 rfl rfl rfl rfl ?_; clear hS; intro a hS
  refine Sq.nil ?_
  refine then_n ?_
  refine c_condF hS rfl rfl ?_
  refine wp_skip ?_
  refine then_n ?_
  refine c_seq ?_
  refine reg_plain w0 (Nobody) ?_
  refine r_load_row hS hH (by repeat (first | exact Sub.nil | refine Sub.cons ?_ ?_ | exact In.here | refine In.there ?_)) rfl (by repeat (first | exact In.here | refine In.there ?_)) Fc.ag59 (by rfl) rfl ?_; clear hS; intro a hS
  refine r_load_row hS hH (by repeat (first | exact Sub.nil | refine Sub.cons ?_ ?_ | exact In.here | refine In.there ?_)) rfl (by repeat (first | exact In.here | refine In.there ?_)) Fc.ag59 (by rfl) rfl ?_; clear hS; intro a hS
  refine r_makeMap hS hH (by repeat (first | exact Sub.nil | refine Sub.cons ?_ ?_ | exact In.here | refine In.there ?_)) Fc.isMap65 rfl ?_
  clear hS hH; intro a w b22 hb22 hwb22 hS hH
  refine r_makeMap hS hH (by repeat (first | exact Sub.nil | refine Sub.cons ?_ ?_ | exact In.here | refine In.there ?_)) Fc.isMap67 rfl ?_
  clear hS hH; intro a w b23 hb23 hwb23 hS hH
  refine r_makeMap hS hH (by repeat (first | exact Sub.nil | refine Sub.cons ?_ ?_ | exact In.here | refine In.there ?_)) Fc.isMap68 rfl ?_
  clear hS hH; intro a w b24 hb24 hwb24 hS hH
  refine r_buildS (parts := [(0, .const (.bool true)), (2, .tmp 20), (3, .tmp 21), (8, .tmp 22), (11, .tmp 23), (12, .const (.int .i64 (-1))), (13, .tmp 24)]) hS hH.kp0 rfl rfl Fc.zc70 Fc.pl70 (by rfl) ?_; clear hS; intro a hS
  refine r_box hS hH (by repeat (first | exact Sub.nil | refine Sub.cons ?_ ?_ | exact In.here | refine In.there ?_)) rfl rfl rfl ?_
  clear hS hH; intro a w nb hnb hwnb hS hH
  refine r_assign hS hH.kp0 rfl rfl ?_; clear hS; intro a hS
  refine Sq.nil ?_
  refine then_n ?_
  refine c_seq ?_
  refine c_seq ?_
  refine reg_plain w0 (Nobody) ?_
  refine r_move hS hH.kp0 rfl rfl ?_; clear hS; intro a hS
  refine Sq.nil ?_
  refine then_n ?_
  refine c_condT hS rfl rfl ?_
  refine reg_plain w0 (Nobody) ?_
  refine r_move hS hH.kp0 rfl rfl ?_; clear hS; intro a hS
  refine r_nilCheck hS hH.kp0 rfl rfl ?_; clear hS; intro a hS
  refine r_fieldAddr hS hH.kp0 rfl Fc.fo70_1 rfl ?_; clear hS; intro a hS
  refine r_store1 hS hH rfl rfl rfl (by first | exact .here | exact .there .here | exact .there (.there .here) | exact .there (.there (.there .here)) | exact .there (.there (.there (.there .here))) | exact .there (.there (.there (.there (.there .here)))) | exact .there (.there (.there (.there (.there (.there .here))))) | exact .there (.there (.there (.there (.there (.there (.there .here)))))) | exact .there (.there (.there (.there (.there (.there (.there (.there .here))))))) | exact .there (.there (.there (.there (.there (.there (.there (.there (.there .here)))))))) | exact .there (.there (.there (.there (.there (.there (.there (.there (.there (.there .here))))))))) | exact .there (.there (.there (.there (.there (.there (.there (.there (.there (.there (.there .here)))))))))) | exact .there (.there (.there (.there (.there (.there (.there (.there (.there (.there (.there (.there .here))))))))))) | exact .there (.there (.there (.there (.there (.there (.there (.there (.there (.there (.there (.there (.there .here)))))))))))) | exact .there (.there (.there (.there (.there (.there (.there (.there (.there (.there (.there (.there (.there (.there .here))))))))))))) | exact .there (.there (.there (.there (.there (.there (.there (.there (.there (.there (.there (.there (.there (.there (.there .here))))))))))))))) (by repeat (first | exact Sub.nil | refine Sub.cons ?_ ?_ | exact In.here | refine In.there ?_)) Fc.sz3 (of_decide_eq_true rfl) (by first | exact .inr (by assumption) | exact .inl (by first | assumption | rfl)) ?_
  clear hH; intro w hH
  refine Sq.nil ?_
  refine then_n ?_
  refine c_seq ?_
  refine reg_plain w0 (Nobody) ?_
  refine r_move hS hH.kp0 rfl rfl ?_; clear hS; intro a hS
  refine r_fieldAddr hS hH.kp0 rfl Fc.fo59_0 rfl ?_; clear hS; intro a hS
  refine r_load_sc hS hH (by repeat (first | exact Sub.nil | refine Sub.cons ?_ ?_ | exact In.here | refine In.there ?_)) rfl (by repeat (first | exact In.here | refine In.there ?_)) Fc.sc3 (by rfl) rfl ?_; clear hS; intro a hS
  refine r_call (l := [.tmp 34]) hS rfl rfl Fc.fn86 rfl ?_
  refine Calls.mono (NewGive_any _ _) ?_
  rintro e w1 ⟨q, x, rfl, hE⟩
  replace hH := hH.ext hE
  refine ⟨_, rfl, hH.kp0, ?_⟩
  clear hS; intro a hS
  refine r_move hS hH.kp0 rfl rfl ?_; clear hS; intro a hS
  refine r_extract hS hH.kp0 rfl rfl rfl ?_; clear hS; intro a hS
  refine r_extract hS hH.kp0 rfl rfl rfl ?_; clear hS; intro a hS
  refine r_nilCheck hS hH.kp0 rfl rfl ?_; clear hS; intro a hS
  refine r_fieldAddr hS hH.kp0 rfl Fc.fo70_4 rfl ?_; clear hS; intro a hS
  refine r_store1 hS hH rfl rfl rfl (by first | exact .here | exact .there .here | exact .there (.there .here) | exact .there (.there (.there .here)) | exact .there (.there (.there (.there .here))) | exact .there (.there (.there (.there (.there .here)))) | exact .there (.there (.there (.there (.there (.there .here))))) | exact .there (.there (.there (.there (.there (.there (.there .here)))))) | exact .there (.there (.there (.there (.there (.there (.there (.there .here))))))) | exact .there (.there (.there (.there (.there (.there (.there (.there (.there .here)))))))) | exact .there (.there (.there (.there (.there (.there (.there (.there (.there (.there .here))))))))) | exact .there (.there (.there (.there (.there (.there (.there (.there (.there (.there (.there .here)))))))))) | exact .there (.there (.there (.there (.there (.there (.there (.there (.there (.there (.there (.there .here))))))))))) | exact .there (.there (.there (.there (.there (.there (.there (.there (.there (.there (.there (.there (.there .here)))))))))))) | exact .there (.there (.there (.there (.there (.there (.there (.there (.there (.there (.there (.there (.there (.there .here))))))))))))) | exact .there (.there (.there (.there (.there (.there (.there (.there (.there (.there (.there (.there (.there (.there (.there .here))))))))))))))) (by repeat (first | exact Sub.nil | refine Sub.cons ?_ ?_ | exact In.here | refine In.there ?_)) Fc.sz61 (of_decide_eq_true rfl) (by first | exact .inr (by assumption) | exact .inl (by first | assumption | rfl)) ?_
  clear hH; intro w hH
  refine Sq.nil ?_
  refine then_n ?_
  refine c_seq ?_
  refine reg_plain w0 (Nobody) ?_
  refine r_move hS hH.kp0 rfl rfl ?_; clear hS; intro a hS
  refine r_fieldAddr hS hH.kp0 rfl Fc.fo59_0 rfl ?_; clear hS; intro a hS
  refine r_load_sc hS hH (by repeat (first | exact Sub.nil | refine Sub.cons ?_ ?_ | exact In.here | refine In.there ?_)) rfl (by repeat (first | exact In.here | refine In.there ?_)) Fc.sc3 (by rfl) rfl ?_; clear hS; intro a hS
  refine r_call (l := [.tmp 43]) hS rfl rfl Fc.fn87 rfl ?_
  refine Calls.mono (NewGet_any _ _) ?_
  rintro e w1 ⟨q, x, rfl, hE⟩
  replace hH := hH.ext hE
  refine ⟨_, rfl, hH.kp0, ?_⟩
  clear hS; intro a hS
  refine r_move hS hH.kp0 rfl rfl ?_; clear hS; intro a hS
  refine r_extract hS hH.kp0 rfl rfl rfl ?_; clear hS; intro a hS
  refine r_extract hS hH.kp0 rfl rfl rfl ?_; clear hS; intro a hS
  refine r_nilCheck hS hH.kp0 rfl rfl ?_; clear hS; intro a hS
  refine r_fieldAddr hS hH.kp0 rfl Fc.fo70_5 rfl ?_; clear hS; intro a hS
  refine r_store1 hS hH rfl rfl rfl (by first | exact .here | exact .there .here | exact .there (.there .here) | exact .there (.there (.there .here)) | exact .there (.there (.there (.there .here))) | exact .there (.there (.there (.there (.there .here)))) | exact .there (.there (.there (.there (.there (.there .here))))) | exact .there (.there (.there (.there (.there (.there (.there .here)))))) | exact .there (.there (.there (.there (.there (.there (.there (.there .here))))))) | exact .there (.there (.there (.there (.there (.there (.there (.there (.there .here)))))))) | exact .there (.there (.there (.there (.there (.there (.there (.there (.there (.there .here))))))))) | exact .there (.there (.there (.there (.there (.there (.there (.there (.there (.there (.there .here)))))))))) | exact .there (.there (.there (.there (.there (.there (.there (.there (.there (.there (.there (.there .here))))))))))) | exact .there (.there (.there (.there (.there (.there (.there (.there (.there (.there (.there (.there (.there .here)))))))))))) | exact .there (.there (.there (.there (.there (.there (.there (.there (.there (.there (.there (.there (.there (.there .here))))))))))))) | exact .there (.there (.there (.there (.there (.there (.there (.there (.there (.there (.there (.there (.there (.there (.there .here))))))))))))))) (by repeat (first | exact Sub.nil | refine Sub.cons ?_ ?_ | exact In.here | refine In.there ?_)) Fc.sz62 (of_decide_eq_true rfl) (by first | exact .inr (by assumption) | exact .inl (by first | assumption | rfl)) ?_
  clear hH; intro w hH
  refine Sq.nil ?_
  refine then_n ?_
  refine c_seq ?_
  refine c_seq ?_
  refine reg_plain w0 (Nobody) ?_
  refine r_move hS hH.kp0 rfl rfl ?_; clear hS; intro a hS
  refine Sq.nil ?_
  refine then_n ?_
  refine wp_block ?_
  refine c_loop (fun m a w => ∃ (k : Nat) (i : Int) (l : List Value), m + k = 4 ∧ i = k ∧ l.length = 33 ∧ St 85 (lv [(4, .pointer (some ⟨b4, 0, none⟩)), (5, .pointer (some ⟨b5, 0, none⟩)), (8, .pointer (some ⟨nb, 0, none⟩)), (49, .int .i64 i)]) a ∧ Hp w0 Nobody [(nb, .cells l.toArray 70 (0, 0)), (b5, .cells [.int .i64 0, .int .i64 0, .int .i64 0, .int .i64 0, .int .i64 0, .int .i64 0].toArray 59 (0, 0)), (b4, .cells [.int .i64 a0, .int .i64 a1, .int .i64 a2, .int .i64 a3, .int .i64 a4, .int .i64 a5].toArray 59 (0, 0))] w) (4) ?_ ?_
  · have hH2 := (((hH.front (b := b4) (by first | exact .here | exact .there .here | exact .there (.there .here) | exact .there (.there (.there .here)) | exact .there (.there (.there (.there .here))) | exact .there (.there (.there (.there (.there .here)))) | exact .there (.there (.there (.there (.there (.there .here))))) | exact .there (.there (.there (.there (.there (.there (.there .here)))))) | exact .there (.there (.there (.there (.there (.there (.there (.there .here))))))) | exact .there (.there (.there (.there (.there (.there (.there (.there (.there .here)))))))) | exact .there (.there (.there (.there (.there (.there (.there (.there (.there (.there .here))))))))) | exact .there (.there (.there (.there (.there (.there (.there (.there (.there (.there (.there .here)))))))))) | exact .there (.there (.there (.there (.there (.there (.there (.there (.there (.there (.there (.there .here))))))))))) | exact .there (.there (.there (.there (.there (.there (.there (.there (.there (.there (.there (.there (.there .here)))))))))))) | exact .there (.there (.there (.there (.there (.there (.there (.there (.there (.there (.there (.there (.there (.there .here))))))))))))) | exact .there (.there (.there (.there (.there (.there (.there (.there (.there (.there (.there (.there (.there (.there (.there .here)))))))))))))))).front (b := b5) (by first | exact .here | exact .there .here | exact .there (.there .here) | exact .there (.there (.there .here)) | exact .there (.there (.there (.there .here))) | exact .there (.there (.there (.there (.there .here)))) | exact .there (.there (.there (.there (.there (.there .here))))) | exact .there (.there (.there (.there (.there (.there (.there .here)))))) | exact .there (.there (.there (.there (.there (.there (.there (.there .here))))))) | exact .there (.there (.there (.there (.there (.there (.there (.there (.there .here)))))))) | exact .there (.there (.there (.there (.there (.there (.there (.there (.there (.there .here))))))))) | exact .there (.there (.there (.there (.there (.there (.there (.there (.there (.there (.there .here)))))))))) | exact .there (.there (.there (.there (.there (.there (.there (.there (.there (.there (.there (.there .here))))))))))) | exact .there (.there (.there (.there (.there (.there (.there (.there (.there (.there (.there (.there (.there .here)))))))))))) | exact .there (.there (.there (.there (.there (.there (.there (.there (.there (.there (.there (.there (.there (.there .here))))))))))))) | exact .there (.there (.there (.there (.there (.there (.there (.there (.there (.there (.there (.there (.there (.there (.there .here)))))))))))))))).front (b := nb) (by first | exact .here | exact .there .here | exact .there (.there .here) | exact .there (.there (.there .here)) | exact .there (.there (.there (.there .here))) | exact .there (.there (.there (.there (.there .here)))) | exact .there (.there (.there (.there (.there (.there .here))))) | exact .there (.there (.there (.there (.there (.there (.there .here)))))) | exact .there (.there (.there (.there (.there (.there (.there (.there .here))))))) | exact .there (.there (.there (.there (.there (.there (.there (.there (.there .here)))))))) | exact .there (.there (.there (.there (.there (.there (.there (.there (.there (.there .here))))))))) | exact .there (.there (.there (.there (.there (.there (.there (.there (.there (.there (.there .here)))))))))) | exact .there (.there (.there (.there (.there (.there (.there (.there (.there (.there (.there (.there .here))))))))))) | exact .there (.there (.there (.there (.there (.there (.there (.there (.there (.there (.there (.there (.there .here)))))))))))) | exact .there (.there (.there (.there (.there (.there (.there (.there (.there (.there (.there (.there (.there (.there .here))))))))))))) | exact .there (.there (.there (.there (.there (.there (.there (.there (.there (.there (.there (.there (.there (.there (.there .here))))))))))))))))
    have hH3 := hH2.drop [3, 4, 5]
    exact ⟨0, _, _, rfl, rfl, rfl, hS.live ⟨rfl, rfl, rfl, rfl, trivial⟩, hH3⟩
  clear hS hH; intro m a w hI; obtain ⟨k, i, l, hmk, hi, hl, hS, hH⟩ := hI
  refine c_seq ?_
  refine reg_plain w0 (Nobody) ?_
  refine r_lss hS hH.kp0 rfl rfl rfl ?_; clear hS; intro a hS
  refine Sq.nil ?_
  refine then_n ?_
  refine c_seq ?_
  refine c_cond hS rfl (fun hc2 => ?_) (fun hc2 => ?_)
  · have hk4 : k < 4 := by have := of_decide_eq_true hc2; omega
    refine wp_skip ?_
    refine then_n ?_
    refine c_seq ?_
    refine wp_block ?_
    refine c_seq ?_
    refine reg_plain w0 (Nobody) ?_
    refine r_move hS hH.kp0 rfl rfl ?_; clear hS; intro a hS
    refine r_assign hS hH.kp0 rfl rfl ?_; clear hS; intro a hS
    refine Sq.nil ?_
    refine then_n ?_
    refine c_seq ?_
    refine reg_draw [(true, 0, []), (true, 1, []), (true, 2, []), (true, 3, []), (true, 4, []), (true, 5, [])] Fc.mixed (by kernel_rfl) (by kernel_rfl) (by kernel_rfl) (by kernel_rfl) (by kernel_rfl) (by repeat (first | with_reducible exact steady_body | with_reducible apply steady_block | with_reducible apply steady_then | exact steady_body)) hH ?_
    replace hH := hH.drew
    refine r_fieldAddr hS trivial rfl Fc.fo59_4 rfl ?_; clear hS; intro a hS
    refine r_load_scS hS rfl (by repeat (first | exact In.here | refine In.there ?_)) Fc.sc3 (by rfl) rfl ?_; clear hS; intro a hS
    refine r_fieldAddr hS trivial rfl Fc.fo59_4 rfl ?_; clear hS; intro a hS
    refine r_load_scS hS rfl (by repeat (first | exact In.here | refine In.there ?_)) Fc.sc3 (by rfl) rfl ?_; clear hS; intro a hS
    refine r_assign hS trivial rfl rfl ?_; clear hS; intro a hS
    refine r_assign hS trivial rfl rfl ?_; clear hS; intro a hS
    refine Sq.nil ?_
    refine then_n ?_
    refine c_seq ?_
    refine c_seq ?_
    refine reg_plain w0 (Nobody) ?_
    refine r_move hS hH.kp0 rfl rfl ?_; clear hS; intro a hS
    refine r_and hS hH.kp0 rfl rfl rfl ?_; clear hS; intro a hS
    refine r_neq hS hH.kp0 rfl rfl rfl ?_; clear hS; intro a hS
    refine Sq.nil ?_
    refine then_n ?_
    refine c_cond hS rfl (fun hc3 => ?_) (fun hc3 => ?_)
    · refine reg_draw [(true, 0, []), (true, 1, []), (true, 2, []), (true, 3, []), (true, 4, []), (true, 5, [])] Fc.mixed (by kernel_rfl) (by kernel_rfl) (by kernel_rfl) (by kernel_rfl) (by kernel_rfl) (by repeat (first | with_reducible exact steady_body | with_reducible apply steady_block | with_reducible apply steady_then | exact steady_body)) hH ?_
      replace hH := hH.drew
      refine r_fieldAddr hS trivial rfl Fc.fo59_5 rfl ?_; clear hS; intro a hS
      refine r_load_scS hS rfl (by repeat (first | exact In.here | refine In.there ?_)) Fc.sc3 (by rfl) rfl ?_; clear hS; intro a hS
      refine r_fieldAddr hS trivial rfl Fc.fo59_5 rfl ?_; clear hS; intro a hS
      refine r_load_scS hS rfl (by repeat (first | exact In.here | refine In.there ?_)) Fc.sc3 (by rfl) rfl ?_; clear hS; intro a hS
      refine r_assign hS trivial rfl rfl ?_; clear hS; intro a hS
      refine r_assign hS trivial rfl rfl ?_; clear hS; intro a hS
      refine Sq.nil ?_
      refine then_n ?_
      refine c_seq ?_
      refine reg_draw [(true, 0, [0]), (true, 1, [0]), (true, 2, [0]), (true, 7, [0]), (true, 8, [0]), (false, 3, []), (true, 4, [0]), (true, 5, [0]), (true, 6, [0]), (true, 9, [0]), (false, 10, [0])] Fc.mixed (by kernel_rfl) (by kernel_rfl) (by kernel_rfl) (by kernel_rfl) (by kernel_rfl) (by repeat (first | with_reducible exact steady_body | with_reducible apply steady_block | with_reducible apply steady_then | exact steady_body)) hH ?_
      replace hH := hH.drew
      refine r_move hS trivial rfl rfl ?_; clear hS; intro a hS
      refine r_move hS trivial rfl rfl ?_; clear hS; intro a hS
      refine r_move hS trivial rfl rfl ?_; clear hS; intro a hS
      refine r_nilCheck hS trivial rfl rfl ?_; clear hS; intro a hS
      refine r_fieldAddr hS trivial rfl Fc.fo70_6 rfl ?_; clear hS; intro a hS
      refine r_call (l := [.tmp 66]) hS rfl rfl Fc.fn86 rfl ?_
      refine Calls.mono (NewGive_any _ _) ?_
      rintro e w1 ⟨q, x, rfl, hE⟩
      replace hH := hH.ext hE
      refine ⟨_, rfl, hH.kp (by repeat (first | exact Sub.nil | refine Sub.cons ?_ ?_ | exact In.here | refine In.there ?_)), ?_⟩
      clear hS; intro a hS
      refine r_move hS trivial rfl rfl ?_; clear hS; intro a hS
      refine r_extract hS trivial rfl rfl rfl ?_; clear hS; intro a hS
      refine r_extract hS trivial rfl rfl rfl ?_; clear hS; intro a hS
      refine r_indexAddrA (j := k) hS trivial rfl rfl Fc.ar63 hi hk4 rfl ?_; clear hS; intro a hS
      refine r_store1 hS hH rfl rfl rfl (by first | exact .here | exact .there .here | exact .there (.there .here) | exact .there (.there (.there .here)) | exact .there (.there (.there (.there .here))) | exact .there (.there (.there (.there (.there .here)))) | exact .there (.there (.there (.there (.there (.there .here))))) | exact .there (.there (.there (.there (.there (.there (.there .here)))))) | exact .there (.there (.there (.there (.there (.there (.there (.there .here))))))) | exact .there (.there (.there (.there (.there (.there (.there (.there (.there .here)))))))) | exact .there (.there (.there (.there (.there (.there (.there (.there (.there (.there .here))))))))) | exact .there (.there (.there (.there (.there (.there (.there (.there (.there (.there (.there .here)))))))))) | exact .there (.there (.there (.there (.there (.there (.there (.there (.there (.there (.there (.there .here))))))))))) | exact .there (.there (.there (.there (.there (.there (.there (.there (.there (.there (.there (.there (.there .here)))))))))))) | exact .there (.there (.there (.there (.there (.there (.there (.there (.there (.there (.there (.there (.there (.there .here))))))))))))) | exact .there (.there (.there (.there (.there (.there (.there (.there (.there (.there (.there (.there (.there (.there (.there .here))))))))))))))) (by repeat (first | exact Sub.nil | refine Sub.cons ?_ ?_ | exact In.here | refine In.there ?_)) Fc.sz61 (by rw [hl]; omega) (.inr hnb) ?_; clear hH; intro w hH
      generalize hsl : spl l _ _ = l2 at hH
      replace hl : l2.length = 33 := by rw [← hsl, spl_len1 (by omega)]; exact hl
      clear hsl
      skip
      revert hl hH; generalize l2 = l; intro hH hl
      refine Sq.nil ?_
      refine then_n ?_
      refine reg_draw [(true, 0, [0]), (true, 1, [0]), (true, 2, [0]), (true, 7, [0]), (true, 8, [0]), (false, 3, []), (true, 4, [0]), (true, 5, [0]), (true, 6, [0]), (true, 9, [0]), (false, 10, [0])] Fc.mixed (by kernel_rfl) (by kernel_rfl) (by kernel_rfl) (by kernel_rfl) (by kernel_rfl) (by repeat (first | with_reducible exact steady_body | with_reducible apply steady_block | with_reducible apply steady_then | exact steady_body)) hH ?_
      replace hH := hH.drew
      refine r_move hS trivial rfl rfl ?_; clear hS; intro a hS
      refine r_move hS trivial rfl rfl ?_; clear hS; intro a hS
      refine r_move hS trivial rfl rfl ?_; clear hS; intro a hS
      refine r_nilCheck hS trivial rfl rfl ?_; clear hS; intro a hS
      refine r_fieldAddr hS trivial rfl Fc.fo70_7 rfl ?_; clear hS; intro a hS
      refine r_call (l := [.tmp 76]) hS rfl rfl Fc.fn87 rfl ?_
      refine Calls.mono (NewGet_any _ _) ?_
      rintro e w1 ⟨q, x, rfl, hE⟩
      replace hH := hH.ext hE
      refine ⟨_, rfl, hH.kp (by repeat (first | exact Sub.nil | refine Sub.cons ?_ ?_ | exact In.here | refine In.there ?_)), ?_⟩
      clear hS; intro a hS
      refine r_move hS trivial rfl rfl ?_; clear hS; intro a hS
      refine r_extract hS trivial rfl rfl rfl ?_; clear hS; intro a hS
      refine r_extract hS trivial rfl rfl rfl ?_; clear hS; intro a hS
      refine r_indexAddrA (j := k) hS trivial rfl rfl Fc.ar64 hi hk4 rfl ?_; clear hS; intro a hS
      refine r_store1 hS hH rfl rfl rfl (by first | exact .here | exact .there .here | exact .there (.there .here) | exact .there (.there (.there .here)) | exact .there (.there (.there (.there .here))) | exact .there (.there (.there (.there (.there .here)))) | exact .there (.there (.there (.there (.there (.there .here))))) | exact .there (.there (.there (.there (.there (.there (.there .here)))))) | exact .there (.there (.there (.there (.there (.there (.there (.there .here))))))) | exact .there (.there (.there (.there (.there (.there (.there (.there (.there .here)))))))) | exact .there (.there (.there (.there (.there (.there (.there (.there (.there (.there .here))))))))) | exact .there (.there (.there (.there (.there (.there (.there (.there (.there (.there (.there .here)))))))))) | exact .there (.there (.there (.there (.there (.there (.there (.there (.there (.there (.there (.there .here))))))))))) | exact .there (.there (.there (.there (.there (.there (.there (.there (.there (.there (.there (.there (.there .here)))))))))))) | exact .there (.there (.there (.there (.there (.there (.there (.there (.there (.there (.there (.there (.there (.there .here))))))))))))) | exact .there (.there (.there (.there (.there (.there (.there (.there (.there (.there (.there (.there (.there (.there (.there .here))))))))))))))) (by repeat (first | exact Sub.nil | refine Sub.cons ?_ ?_ | exact In.here | refine In.there ?_)) Fc.sz62 (by rw [hl]; omega) (.inr hnb) ?_; clear hH; intro w hH
      generalize hsl : spl l _ _ = l2 at hH
      replace hl : l2.length = 33 := by rw [← hsl, spl_len1 (by omega)]; exact hl
      clear hsl
      skip
      revert hl hH; generalize l2 = l; intro hH hl
      refine Sq.nil ?_
      refine blk_n ?_
      refine then_n ?_
      refine reg_plain w0 (Nobody) ?_
      first | refine r_add hS hH.kp0 rfl rfl rfl (by omega) ?_ | refine r_addw hS hH.kp0 rfl rfl rfl ?_
      clear hS; intro a hS
      refine r_move hS hH.kp0 rfl rfl ?_; clear hS; intro a hS
      refine Sq.nil ?_
      refine then_n ?_
      exact ⟨m - 1, by omega, k + 1, _, l, by omega, by omega, hl, hS.live ⟨rfl, rfl, rfl, rfl, trivial⟩, hH⟩
    · refine wp_skip ?_
      refine then_n ?_
      refine c_seq ?_
      refine reg_draw [(true, 0, [0]), (true, 1, [0]), (true, 2, [0]), (true, 7, [0]), (true, 8, [0]), (false, 3, []), (true, 4, [0]), (true, 5, [0]), (true, 6, [0]), (true, 9, [0]), (false, 10, [0])] Fc.mixed (by kernel_rfl) (by kernel_rfl) (by kernel_rfl) (by kernel_rfl) (by kernel_rfl) (by repeat (first | with_reducible exact steady_body | with_reducible apply steady_block | with_reducible apply steady_then | exact steady_body)) hH ?_
      replace hH := hH.drew
      refine r_move hS trivial rfl rfl ?_; clear hS; intro a hS
      refine r_move hS trivial rfl rfl ?_; clear hS; intro a hS
      refine r_move hS trivial rfl rfl ?_; clear hS; intro a hS
      refine r_nilCheck hS trivial rfl rfl ?_; clear hS; intro a hS
      refine r_fieldAddr hS trivial rfl Fc.fo70_6 rfl ?_; clear hS; intro a hS
      refine r_call (l := [.tmp 66]) hS rfl rfl Fc.fn86 rfl ?_
      refine Calls.mono (NewGive_any _ _) ?_
      rintro e w1 ⟨q, x, rfl, hE⟩
      replace hH := hH.ext hE
      refine ⟨_, rfl, hH.kp (by repeat (first | exact Sub.nil | refine Sub.cons ?_ ?_ | exact In.here | refine In.there ?_)), ?_⟩
      clear hS; intro a hS
      refine r_move hS trivial rfl rfl ?_; clear hS; intro a hS
      refine r_extract hS trivial rfl rfl rfl ?_; clear hS; intro a hS
      refine r_extract hS trivial rfl rfl rfl ?_; clear hS; intro a hS
      refine r_indexAddrA (j := k) hS trivial rfl rfl Fc.ar63 hi hk4 rfl ?_; clear hS; intro a hS
      refine r_store1 hS hH rfl rfl rfl (by first | exact .here | exact .there .here | exact .there (.there .here) | exact .there (.there (.there .here)) | exact .there (.there (.there (.there .here))) | exact .there (.there (.there (.there (.there .here)))) | exact .there (.there (.there (.there (.there (.there .here))))) | exact .there (.there (.there (.there (.there (.there (.there .here)))))) | exact .there (.there (.there (.there (.there (.there (.there (.there .here))))))) | exact .there (.there (.there (.there (.there (.there (.there (.there (.there .here)))))))) | exact .there (.there (.there (.there (.there (.there (.there (.there (.there (.there .here))))))))) | exact .there (.there (.there (.there (.there (.there (.there (.there (.there (.there (.there .here)))))))))) | exact .there (.there (.there (.there (.there (.there (.there (.there (.there (.there (.there (.there .here))))))))))) | exact .there (.there (.there (.there (.there (.there (.there (.there (.there (.there (.there (.there (.there .here)))))))))))) | exact .there (.there (.there (.there (.there (.there (.there (.there (.there (.there (.there (.there (.there (.there .here))))))))))))) | exact .there (.there (.there (.there (.there (.there (.there (.there (.there (.there (.there (.there (.there (.there (.there .here))))))))))))))) (by repeat (first | exact Sub.nil | refine Sub.cons ?_ ?_ | exact In.here | refine In.there ?_)) Fc.sz61 (by rw [hl]; omega) (.inr hnb) ?_; clear hH; intro w hH
      generalize hsl : spl l _ _ = l2 at hH
      replace hl : l2.length = 33 := by rw [← hsl, spl_len1 (by omega)]; exact hl
      clear hsl
      skip
      revert hl hH; generalize l2 = l; intro hH hl
      refine Sq.nil ?_
      refine then_n ?_
      refine reg_draw [(true, 0, [0]), (true, 1, [0]), (true, 2, [0]), (true, 7, [0]), (true, 8, [0]), (false, 3, []), (true, 4, [0]), (true, 5, [0]), (true, 6, [0]), (true, 9, [0]), (false, 10, [0])] Fc.mixed (by kernel_rfl) (by kernel_rfl) (by kernel_rfl) (by kernel_rfl) (by kernel_rfl) (by repeat (first | with_reducible exact steady_body | with_reducible apply steady_block | with_reducible apply steady_then | exact steady_body)) hH ?_
      replace hH := hH.drew
      refine r_move hS trivial rfl rfl ?_; clear hS; intro a hS
      refine r_move hS trivial rfl rfl ?_; clear hS; intro a hS
      refine r_move hS trivial rfl rfl ?_; clear hS; intro a hS
      refine r_nilCheck hS trivial rfl rfl ?_; clear hS; intro a hS
      refine r_fieldAddr hS trivial rfl Fc.fo70_7 rfl ?_; clear hS; intro a hS
      refine r_call (l := [.tmp 76]) hS rfl rfl Fc.fn87 rfl ?_
      refine Calls.mono (NewGet_any _ _) ?_
      rintro e w1 ⟨q, x, rfl, hE⟩
      replace hH := hH.ext hE
      refine ⟨_, rfl, hH.kp (by repeat (first | exact Sub.nil | refine Sub.cons ?_ ?_ | exact In.here | refine In.there ?_)), ?_⟩
      clear hS; intro a hS
      refine r_move hS trivial rfl rfl ?_; clear hS; intro a hS
      refine r_extract hS trivial rfl rfl rfl ?_; clear hS; intro a hS
      refine r_extract hS trivial rfl rfl rfl ?_; clear hS; intro a hS
      refine r_indexAddrA (j := k) hS trivial rfl rfl Fc.ar64 hi hk4 rfl ?_; clear hS; intro a hS
      refine r_store1 hS hH rfl rfl rfl (by first | exact .here | exact .there .here | exact .there (.there .here) | exact .there (.there (.there .here)) | exact .there (.there (.there (.there .here))) | exact .there (.there (.there (.there (.there .here)))) | exact .there (.there (.there (.there (.there (.there .here))))) | exact .there (.there (.there (.there (.there (.there (.there .here)))))) | exact .there (.there (.there (.there (.there (.there (.there (.there .here))))))) | exact .there (.there (.there (.there (.there (.there (.there (.there (.there .here)))))))) | exact .there (.there (.there (.there (.there (.there (.there (.there (.there (.there .here))))))))) | exact .there (.there (.there (.there (.there (.there (.there (.there (.there (.there (.there .here)))))))))) | exact .there (.there (.there (.there (.there (.there (.there (.there (.there (.there (.there (.there .here))))))))))) | exact .there (.there (.there (.there (.there (.there (.there (.there (.there (.there (.there (.there (.there .here)))))))))))) | exact .there (.there (.there (.there (.there (.there (.there (.there (.there (.there (.there (.there (.there (.there .here))))))))))))) | exact .there (.there (.there (.there (.there (.there (.there (.there (.there (.there (.there (.there (.there (.there (.there .here))))))))))))))) (by repeat (first | exact Sub.nil | refine Sub.cons ?_ ?_ | exact In.here | refine In.there ?_)) Fc.sz62 (by rw [hl]; omega) (.inr hnb) ?_; clear hH; intro w hH
      generalize hsl : spl l _ _ = l2 at hH
      replace hl : l2.length = 33 := by rw [← hsl, spl_len1 (by omega)]; exact hl
      clear hsl
      skip
      revert hl hH; generalize l2 = l; intro hH hl
      refine Sq.nil ?_
      refine blk_n ?_
      refine then_n ?_
      refine reg_plain w0 (Nobody) ?_
      first | refine r_add hS hH.kp0 rfl rfl rfl (by omega) ?_ | refine r_addw hS hH.kp0 rfl rfl rfl ?_
      clear hS; intro a hS
      refine r_move hS hH.kp0 rfl rfl ?_; clear hS; intro a hS
      refine Sq.nil ?_
      refine then_n ?_
      exact ⟨m - 1, by omega, k + 1, _, l, by omega, by omega, hl, hS.live ⟨rfl, rfl, rfl, rfl, trivial⟩, hH⟩
  · refine wp_exit ?_
    refine then_e ?_
    refine then_e ?_
    refine blk_hit ?_
    refine then_n ?_
    refine c_seq ?_
    refine reg_plain w0 (Nobody) ?_
    refine r_move hS hH.kp0 rfl rfl ?_; clear hS; intro a hS
    refine r_assign hS hH.kp0 rfl rfl ?_; clear hS; intro a hS
    refine r_assign hS hH.kp0 rfl rfl ?_; clear hS; intro a hS
    refine Sq.nil ?_
    refine then_n ?_
    refine wp_ret ?_
    exact leave (.inl rfl) hS rfl (Res.tmp rfl (Res.tmp rfl Res.nil)) ⟨_, rfl, hH.mod⟩

end Go.Proofs.YtmbidmlinaafnaaGreatDoor
