/- ProtectNobody: without a vault nothing is sealed or opened. Conditions: those of the given row (arguments of at most 1048576 values and letters; the listed variables hold what the text lays). Part ProtectNone: walks and lemmas of the proof. -/
import Derived.Test.YtmbidmlinaafnaaGreatDoorChecked
import Derived.Test.YtmbidmlinaafnaaGreatDoorSymIface
import Derived.Test.YtmbidmlinaafnaaGreatDoorSymDet
namespace Go.Proofs.YtmbidmlinaafnaaGreatDoor
open Go.Sym
theorem Fc.laid : laidOutB Tryz.prog = true := by kernel_rfl
theorem Fc.mixed : Tryz.prog.follows .mixedOrders = true := by kernel_rfl
theorem Fc.arrH : ByteArr Tryz.prog 38 16 := byteArr_mk Fc.laid (of_decide_eq_true (by kernel_rfl)) (by kernel_rfl) (by kernel_rfl) (by kernel_rfl) (by kernel_rfl) (by kernel_rfl)
def z48 : List UInt8 := List.replicate 48 0
def zPk : List Value := [.int .i64 0, .int .i64 0, .slice none 0 0, .slice none 0 0, .slice none 0 0, .int .i64 0, .bool false, .slice none 0 0, .int .u8 0, .int .u8 0, .int .u8 0, .int .u8 0, .int .u8 0, .int .u8 0, .int .u8 0, .int .u8 0, .int .u8 0, .int .u8 0, .int .u8 0, .int .u8 0, .int .u8 0, .int .u8 0, .int .u8 0, .int .u8 0, .int .i64 0, .slice none 0 0, .int .i64 0]

theorem Fc.ag28 : agB Tryz.prog 28 = some 27 := by kernel_rfl
theorem Fc.ag38 : agB Tryz.prog 38 = some 16 := by kernel_rfl
theorem Fc.ag40 : agB Tryz.prog 40 = some 48 := by kernel_rfl
theorem Fc.ar38 : arrB Tryz.prog 38 = some (16, 1) := by kernel_rfl
theorem Fc.cc41 : concB Tryz.prog 41 = true := by kernel_rfl
theorem Fc.fn29 : isFn Tryz.prog 29 = true := by kernel_rfl
theorem Fc.fn30 : isFn Tryz.prog 30 = true := by kernel_rfl
theorem Fc.fn31 : isFn Tryz.prog 31 = true := by kernel_rfl
theorem Fc.fn88 : isFn Tryz.prog 88 = true := by kernel_rfl
theorem Fc.fn89 : isFn Tryz.prog 89 = true := by kernel_rfl
theorem Fc.fo36_2 : foff Tryz.prog 36 2 = some 2 := by kernel_rfl
theorem Fc.fo40_0 : foff Tryz.prog 40 0 = some 0 := by kernel_rfl
theorem Fc.isMap34 : isMap Tryz.prog 34 = true := by kernel_rfl
theorem Fc.isPtr31 : isPtr Tryz.prog 31 = true := by kernel_rfl
theorem Fc.isStr9 : isStr Tryz.prog 9 = true := by kernel_rfl
theorem Fc.pl169 : placesB Tryz.prog 169 = some [(0, 1), (1, 1), (2, 1), (3, 1), (4, 1), (5, 1), (6, 1)] := by kernel_rfl
theorem Fc.pl28 : placesB Tryz.prog 28 = some [(0, 24), (24, 1), (25, 1), (26, 1)] := by kernel_rfl
theorem Fc.pl40 : placesB Tryz.prog 40 = some [(0, 16), (16, 16), (32, 16)] := by kernel_rfl
theorem Fc.sc34 : scB Tryz.prog 34 = true := by kernel_rfl
theorem Fc.sz28 : sizeB Tryz.prog 28 27 = true := by kernel_rfl
theorem Fc.sz38 : sizeB Tryz.prog 38 16 = true := by kernel_rfl
theorem Fc.sz40 : sizeB Tryz.prog 40 48 = true := by kernel_rfl
theorem Fc.u8s22 : u8s Tryz.prog 22 = true := by kernel_rfl
theorem Fc.zc169 : zcB Tryz.prog 169 = some [.int .i64 0, .int .i64 0, .int .i64 0, .int .i64 0, .string .empty, .string .empty, .string .empty] := by kernel_rfl
theorem Fc.zc28 : zcB Tryz.prog 28 = some [.int .i64 0, .int .i64 0, .slice none 0 0, .slice none 0 0, .slice none 0 0, .int .i64 0, .bool false, .slice none 0 0, .int .u8 0, .int .u8 0, .int .u8 0, .int .u8 0, .int .u8 0, .int .u8 0, .int .u8 0, .int .u8 0, .int .u8 0, .int .u8 0, .int .u8 0, .int .u8 0, .int .u8 0, .int .u8 0, .int .u8 0, .int .u8 0, .int .i64 0, .slice none 0 0, .int .i64 0] := by kernel_rfl
theorem Fc.zc38 : zcB Tryz.prog 38 = some [.int .u8 0, .int .u8 0, .int .u8 0, .int .u8 0, .int .u8 0, .int .u8 0, .int .u8 0, .int .u8 0, .int .u8 0, .int .u8 0, .int .u8 0, .int .u8 0, .int .u8 0, .int .u8 0, .int .u8 0, .int .u8 0] := by kernel_rfl
theorem Fc.zc40 : zcB Tryz.prog 40 = some [.int .u8 0, .int .u8 0, .int .u8 0, .int .u8 0, .int .u8 0, .int .u8 0, .int .u8 0, .int .u8 0, .int .u8 0, .int .u8 0, .int .u8 0, .int .u8 0, .int .u8 0, .int .u8 0, .int .u8 0, .int .u8 0, .int .u8 0, .int .u8 0, .int .u8 0, .int .u8 0, .int .u8 0, .int .u8 0, .int .u8 0, .int .u8 0, .int .u8 0, .int .u8 0, .int .u8 0, .int .u8 0, .int .u8 0, .int .u8 0, .int .u8 0, .int .u8 0, .int .u8 0, .int .u8 0, .int .u8 0, .int .u8 0, .int .u8 0, .int .u8 0, .int .u8 0, .int .u8 0, .int .u8 0, .int .u8 0, .int .u8 0, .int .u8 0, .int .u8 0, .int .u8 0, .int .u8 0, .int .u8 0] := by kernel_rfl
set_option maxRecDepth 100000 in
set_option maxHeartbeats 400000 in
theorem none_nil (w0 : World) : Calls Tryz.prog 89 #[.pointer none] w0 fun e w' => e = .returned (.bool true) ∧ Ext w0 w' := by
  refine enter Tryz.func89 rfl rfl rfl ?_
  intro a hS
  have hH := Hp.start w0 (Nobody)
  refine c_seq ?_
  refine reg_plain w0 (Nobody) ?_
  refine r_assign hS hH.kp0 rfl rfl ?_; clear hS; intro a hS
  refine Sq.nil ?_
  refine then_n ?_
  refine c_seq ?_
  refine reg_plain w0 (Nobody) ?_
  refine r_move hS hH.kp0 rfl rfl ?_; clear hS; intro a hS
  refine r_ptrNil hS hH.kp0 rfl Fc.isPtr31 rfl ?_; clear hS; intro a hS
  refine r_move hS hH.kp0 rfl rfl ?_; clear hS; intro a hS
  refine Sq.guardNo hS rfl rfl rfl hH.kp0 rfl ?_; clear hS; intro a hS
  refine Sq.guardNo hS rfl rfl rfl hH.kp0 rfl ?_; clear hS; intro a hS
  refine Sq.guardNo hS rfl rfl rfl hH.kp0 rfl ?_; clear hS; intro a hS
  refine Sq.guardNo hS rfl rfl rfl hH.kp0 rfl ?_; clear hS; intro a hS
  refine Sq.guardNo hS rfl rfl rfl hH.kp0 rfl ?_; clear hS; intro a hS
  refine r_pickT hS hH.kp0 rfl rfl rfl rfl ?_; clear hS; intro a hS
  refine r_assign hS hH.kp0 rfl rfl ?_; clear hS; intro a hS
  refine Sq.nil ?_
  refine then_n ?_
  refine wp_ret ?_
  exact leave (.inl rfl) hS rfl (Res.tmp rfl Res.nil) ⟨rfl, hH.mod⟩

set_option maxRecDepth 100000 in
set_option maxHeartbeats 400000 in
theorem none_zero (w0 : World) (b : Nat) (T : TypeId) (fz : Nat × Nat) (hb : w0.heap[b]? = some (.cells [Value.slice none 0 0, .map none, .map none].toArray T fz)) : Calls Tryz.prog 89 #[.pointer (some ⟨b, 0, none⟩)] w0 fun e w' => e = .returned (.bool true) ∧ Ext w0 w' := by
  refine enter Tryz.func89 rfl rfl rfl ?_
  intro a hS
  have hH := Hp.start w0 (Nobody)
  replace hH := hH.know hb (fun p hp => by simp at hp)
  refine c_seq ?_
  refine reg_plain w0 (Nobody) ?_
  refine r_assign hS hH.kp0 rfl rfl ?_; clear hS; intro a hS
  refine Sq.nil ?_
  refine then_n ?_
  refine c_seq ?_
  refine reg_plain w0 (Nobody) ?_
  refine r_move hS hH.kp0 rfl rfl ?_; clear hS; intro a hS
  refine r_ptrNil hS hH.kp0 rfl Fc.isPtr31 rfl ?_; clear hS; intro a hS
  refine r_move hS hH.kp0 rfl rfl ?_; clear hS; intro a hS
  refine Sq.guardYes hS rfl rfl rfl ?_
  refine r_move hS hH.kp0 rfl rfl ?_; clear hS; intro a hS
  refine Sq.guardYes hS rfl rfl rfl ?_
  refine r_nilCheck hS hH.kp0 rfl rfl ?_; clear hS; intro a hS
  refine Sq.guardYes hS rfl rfl rfl ?_
  refine r_fieldAddr hS hH.kp0 rfl Fc.fo36_2 rfl ?_; clear hS; intro a hS
  refine Sq.guardYes hS rfl rfl rfl ?_
  refine r_load_sc hS hH (by repeat (first | exact Sub.nil | refine Sub.cons ?_ ?_ | exact In.here | refine In.there ?_)) rfl (by repeat (first | exact In.here | refine In.there ?_)) Fc.sc34 (by rfl) rfl ?_; clear hS; intro a hS
  refine Sq.guardYes hS rfl rfl rfl ?_
  refine r_mapNil hS hH.kp0 rfl Fc.isMap34 rfl ?_; clear hS; intro a hS
  refine r_pickF hS hH.kp0 rfl rfl rfl rfl ?_; clear hS; intro a hS
  refine r_assign hS hH.kp0 rfl rfl ?_; clear hS; intro a hS
  refine Sq.nil ?_
  refine then_n ?_
  refine wp_ret ?_
  exact leave (.inl rfl) hS rfl (Res.tmp rfl Res.nil) ⟨rfl, hH.mod⟩


/-- a vault that no call made -/
def NoV (w : World) (p : Option Addr) : Prop := p = none ∨ ∃ b T fz, p = some ⟨b, 0, none⟩ ∧ w.heap[b]? = some (.cells [Value.slice none 0 0, .map none, .map none].toArray T fz)
theorem NoV.ext {w w' : World} {p : Option Addr} (h : NoV w p) (k : Ext w w') : NoV w' p := by
  rcases h with h | ⟨b, T, fz, h1, h2⟩
  · exact .inl h
  · exact .inr ⟨b, T, fz, h1, k.heap_some h2⟩
def zB : List UInt8 := [0, 0, 0, 0, 0, 0, 0, 0, 0, 0, 0, 0, 0, 0, 0, 0]
theorem none_no (p : Option Addr) (w0 : World) (h : NoV w0 p) : Calls Tryz.prog 89 #[.pointer p] w0 fun e w' => e = .returned (.bool true) ∧ Ext w0 w' := by
  rcases h with rfl | ⟨b, T, fz, rfl, h2⟩
  · exact none_nil w0
  · exact none_zero w0 b T fz h2

set_option maxRecDepth 100000 in
set_option maxHeartbeats 400000 in
theorem Root_no (p : Option Addr) (w0 : World) (hv : NoV w0 p) : Calls Tryz.prog 31 #[.pointer p] w0 fun e w' => e = .returned (.agg (hcells zB).toArray) ∧ Ext w0 w' := by
  refine enter Tryz.func31 rfl rfl rfl ?_
  intro a hS
  have hH := Hp.start w0 (Nobody)
  refine c_seq ?_
  refine reg_plain w0 (Nobody) ?_
  refine r_alloc hS hH (by repeat (first | exact Sub.nil | refine Sub.cons ?_ ?_ | exact In.here | refine In.there ?_)) Fc.zc38 rfl ?_
  clear hS hH; intro a w b2 hb2 hwb2 hS hH
  refine Sq.nil ?_
  refine then_n ?_
  refine c_seq ?_
  refine c_seq ?_
  refine reg_plain w0 (Nobody) ?_
  refine r_move hS hH.kp0 rfl rfl ?_; clear hS; intro a hS
  refine r_call (l := [.tmp 3]) hS rfl rfl Fc.fn89 rfl ?_
  refine Calls.mono (none_no _ _ (hv.ext hH.mod)) ?_
  rintro e w1 ⟨rfl, hE⟩
  replace hH := hH.ext hE
  refine ⟨_, rfl, hH.kp0, ?_⟩
  clear hS; intro a hS
  refine Sq.nil ?_
  refine then_n ?_
  refine c_condT hS rfl rfl ?_
  refine c_seq ?_
  refine reg_plain w0 (Nobody) ?_
  refine r_buildA (parts := []) hS hH.kp0 rfl rfl Fc.zc38 Fc.ar38 (by rfl) ?_; clear hS; intro a hS
  refine r_store_row hS hH rfl rfl (by first | exact .here | exact .there .here | exact .there (.there .here) | exact .there (.there (.there .here)) | exact .there (.there (.there (.there .here))) | exact .there (.there (.there (.there (.there .here)))) | exact .there (.there (.there (.there (.there (.there .here))))) | exact .there (.there (.there (.there (.there (.there (.there .here)))))) | exact .there (.there (.there (.there (.there (.there (.there (.there .here))))))) | exact .there (.there (.there (.there (.there (.there (.there (.there (.there .here)))))))) | exact .there (.there (.there (.there (.there (.there (.there (.there (.there (.there .here))))))))) | exact .there (.there (.there (.there (.there (.there (.there (.there (.there (.there (.there .here)))))))))) | exact .there (.there (.there (.there (.there (.there (.there (.there (.there (.there (.there (.there .here))))))))))) | exact .there (.there (.there (.there (.there (.there (.there (.there (.there (.there (.there (.there (.there .here)))))))))))) | exact .there (.there (.there (.there (.there (.there (.there (.there (.there (.there (.there (.there (.there (.there .here))))))))))))) | exact .there (.there (.there (.there (.there (.there (.there (.there (.there (.there (.there (.there (.there (.there (.there .here))))))))))))))) (by repeat (first | exact Sub.nil | refine Sub.cons ?_ ?_ | exact In.here | refine In.there ?_)) Fc.sz38 (by first | exact hcells_one _ | exact of_decide_eq_true rfl) (by rfl) (by first | exact .inr (by assumption) | exact .inl (by first | assumption | rfl)) ?_
  clear hH; intro w hH
  refine Sq.nil ?_
  refine then_n ?_
  refine wp_ret ?_
  refine then_r ?_
  exact leave (.inl rfl) hS rfl (Res.cell rfl (hH.get (by repeat (first | exact In.here | refine In.there ?_))) Fc.ag38 (by rfl) rfl Res.nil) ⟨rfl, hH.mod⟩

set_option maxRecDepth 100000 in
set_option maxHeartbeats 400000 in
theorem of_no (p : Option Addr) (hl tl : List Value) (w0 : World) (hv : NoV w0 p) : Calls Tryz.prog 88 #[.pointer p, .agg hl.toArray, .agg tl.toArray] w0 fun e w' => e = .returned (.tuple #[.agg (hcells zB).toArray, .int .i64 1]) ∧ Ext w0 w' := by
  refine enter Tryz.func88 rfl rfl rfl ?_
  intro a hS
  have hH := Hp.start w0 (Nobody)
  refine c_seq ?_
  refine reg_plain w0 (Nobody) ?_
  refine r_box hS hH (by repeat (first | exact Sub.nil | refine Sub.cons ?_ ?_ | exact In.here | refine In.there ?_)) rfl rfl rfl ?_
  clear hS hH; intro a w b4 hb4 hwb4 hS hH
  refine r_box hS hH (by repeat (first | exact Sub.nil | refine Sub.cons ?_ ?_ | exact In.here | refine In.there ?_)) rfl rfl rfl ?_
  clear hS hH; intro a w b5 hb5 hwb5 hS hH
  refine r_alloc hS hH (by repeat (first | exact Sub.nil | refine Sub.cons ?_ ?_ | exact In.here | refine In.there ?_)) Fc.zc38 rfl ?_
  clear hS hH; intro a w b6 hb6 hwb6 hS hH
  refine r_assign hS hH.kp0 rfl rfl ?_; clear hS; intro a hS
  refine Sq.nil ?_
  refine then_n ?_
  refine c_seq ?_
  refine c_seq ?_
  refine reg_plain w0 (Nobody) ?_
  refine r_move hS hH.kp0 rfl rfl ?_; clear hS; intro a hS
  refine r_call (l := [.tmp 10]) hS rfl rfl Fc.fn89 rfl ?_
  refine Calls.mono (none_no _ _ (hv.ext hH.mod)) ?_
  rintro e w1 ⟨rfl, hE⟩
  replace hH := hH.ext hE
  refine ⟨_, rfl, hH.kp0, ?_⟩
  clear hS; intro a hS
  refine Sq.nil ?_
  refine then_n ?_
  refine c_condT hS rfl rfl ?_
  refine c_seq ?_
  refine reg_plain w0 (Nobody) ?_
  refine r_buildA (parts := []) hS hH.kp0 rfl rfl Fc.zc38 Fc.ar38 (by rfl) ?_; clear hS; intro a hS
  refine r_store_row hS hH rfl rfl (by first | exact .here | exact .there .here | exact .there (.there .here) | exact .there (.there (.there .here)) | exact .there (.there (.there (.there .here))) | exact .there (.there (.there (.there (.there .here)))) | exact .there (.there (.there (.there (.there (.there .here))))) | exact .there (.there (.there (.there (.there (.there (.there .here)))))) | exact .there (.there (.there (.there (.there (.there (.there (.there .here))))))) | exact .there (.there (.there (.there (.there (.there (.there (.there (.there .here)))))))) | exact .there (.there (.there (.there (.there (.there (.there (.there (.there (.there .here))))))))) | exact .there (.there (.there (.there (.there (.there (.there (.there (.there (.there (.there .here)))))))))) | exact .there (.there (.there (.there (.there (.there (.there (.there (.there (.there (.there (.there .here))))))))))) | exact .there (.there (.there (.there (.there (.there (.there (.there (.there (.there (.there (.there (.there .here)))))))))))) | exact .there (.there (.there (.there (.there (.there (.there (.there (.there (.there (.there (.there (.there (.there .here))))))))))))) | exact .there (.there (.there (.there (.there (.there (.there (.there (.there (.there (.there (.there (.there (.there (.there .here))))))))))))))) (by repeat (first | exact Sub.nil | refine Sub.cons ?_ ?_ | exact In.here | refine In.there ?_)) Fc.sz38 (by first | exact hcells_one _ | exact of_decide_eq_true rfl) (by rfl) (by first | exact .inr (by assumption) | exact .inl (by first | assumption | rfl)) ?_
  clear hH; intro w hH
  refine r_assign hS hH.kp0 rfl rfl ?_; clear hS; intro a hS
  refine Sq.nil ?_
  refine then_n ?_
  refine wp_ret ?_
  refine then_r ?_
  exact leave (.inl rfl) hS rfl (Res.cell rfl (hH.get (by repeat (first | exact In.here | refine In.there ?_))) Fc.ag38 (by rfl) rfl (Res.tmp rfl Res.nil)) ⟨rfl, hH.mod⟩

set_option maxRecDepth 100000 in
set_option maxHeartbeats 400000 in
theorem Derive_no (p : Option Addr) (h : List UInt8) (hh : h.length = 16) (s : ByteArray) (v : Value) (l : List UInt8) (w0 : World) (hv : NoV w0 p) (hb : Bs w0 v l) : Calls Tryz.prog 29 #[.pointer p, .agg (hcells h).toArray, .string s, v] w0 fun e w' => e = .returned (.tuple #[.agg (hcells zB).toArray, .int .i64 1]) ∧ Ext w0 w' := by
  refine enter Tryz.func29 rfl rfl rfl ?_
  intro a hS
  have hH := Hp.start w0 (Nobody)
  obtain ⟨x0, x1, x2, x3, x4, x5, x6, x7, x8, x9, xa, xb, xc, xd, xe, xf, rfl⟩ := len16 hh
  refine c_seq ?_
  refine reg_plain w0 (Nobody) ?_
  refine r_box hS hH (by repeat (first | exact Sub.nil | refine Sub.cons ?_ ?_ | exact In.here | refine In.there ?_)) rfl rfl rfl ?_
  clear hS hH; intro a w b5 hb5 hwb5 hS hH
  refine r_alloc hS hH (by repeat (first | exact Sub.nil | refine Sub.cons ?_ ?_ | exact In.here | refine In.there ?_)) Fc.zc38 rfl ?_
  clear hS hH; intro a w b8 hb8 hwb8 hS hH
  refine r_assign hS hH.kp0 rfl rfl ?_; clear hS; intro a hS
  refine Sq.nil ?_
  refine then_n ?_
  refine c_seq ?_
  refine reg_plain w0 (Nobody) ?_
  refine r_move hS hH.kp0 rfl rfl ?_; clear hS; intro a hS
  refine r_load_row hS hH (by repeat (first | exact Sub.nil | refine Sub.cons ?_ ?_ | exact In.here | refine In.there ?_)) rfl (by repeat (first | exact In.here | refine In.there ?_)) Fc.ag38 (by rfl) rfl ?_; clear hS; intro a hS
  refine r_move hS hH.kp0 rfl rfl ?_; clear hS; intro a hS
  refine r_move hS hH.kp0 rfl rfl ?_; clear hS; intro a hS
  refine r_bytesStr hS hH.kp0 rfl (hb.ext hH.mod) Fc.u8s22 Fc.isStr9 rfl ?_; clear hS; intro a hS
  refine r_buildS (parts := [(0, .const (.int .i64 2)), (4, .tmp 12), (6, .tmp 14)]) hS hH.kp0 rfl rfl Fc.zc169 Fc.pl169 (by rfl) ?_; clear hS; intro a hS
  refine r_call (l := [.tmp 10, .tmp 11, .tmp 15]) hS rfl rfl Fc.fn88 rfl ?_
  refine Calls.mono (of_no _ _ _ _ (hv.ext hH.mod)) ?_
  rintro e w1 ⟨rfl, hE⟩
  replace hH := hH.ext hE
  refine ⟨_, rfl, hH.kp0, ?_⟩
  clear hS; intro a hS
  refine r_extract hS hH.kp0 rfl rfl rfl ?_; clear hS; intro a hS
  refine r_extract hS hH.kp0 rfl rfl rfl ?_; clear hS; intro a hS
  refine r_store_row hS hH rfl rfl (by first | exact .here | exact .there .here | exact .there (.there .here) | exact .there (.there (.there .here)) | exact .there (.there (.there (.there .here))) | exact .there (.there (.there (.there (.there .here)))) | exact .there (.there (.there (.there (.there (.there .here))))) | exact .there (.there (.there (.there (.there (.there (.there .here)))))) | exact .there (.there (.there (.there (.there (.there (.there (.there .here))))))) | exact .there (.there (.there (.there (.there (.there (.there (.there (.there .here)))))))) | exact .there (.there (.there (.there (.there (.there (.there (.there (.there (.there .here))))))))) | exact .there (.there (.there (.there (.there (.there (.there (.there (.there (.there (.there .here)))))))))) | exact .there (.there (.there (.there (.there (.there (.there (.there (.there (.there (.there (.there .here))))))))))) | exact .there (.there (.there (.there (.there (.there (.there (.there (.there (.there (.there (.there (.there .here)))))))))))) | exact .there (.there (.there (.there (.there (.there (.there (.there (.there (.there (.there (.there (.there (.there .here))))))))))))) | exact .there (.there (.there (.there (.there (.there (.there (.there (.there (.there (.there (.there (.there (.there (.there .here))))))))))))))) (by repeat (first | exact Sub.nil | refine Sub.cons ?_ ?_ | exact In.here | refine In.there ?_)) Fc.sz38 (by first | exact hcells_one _ | exact of_decide_eq_true rfl) (by rfl) (by first | exact .inr (by assumption) | exact .inl (by first | assumption | rfl)) ?_
  clear hH; intro w hH
  refine r_assign hS hH.kp0 rfl rfl ?_; clear hS; intro a hS
  refine Sq.nil ?_
  refine then_n ?_
  refine wp_ret ?_
  exact leave (.inl rfl) hS rfl (Res.cell rfl (hH.get (by repeat (first | exact In.here | refine In.there ?_))) Fc.ag38 (by rfl) rfl (Res.tmp rfl Res.nil)) ⟨rfl, hH.mod⟩

set_option maxRecDepth 100000 in
set_option maxHeartbeats 400000 in
theorem pnone_no (p : Option Addr) (w0 : World) (hv : NoV w0 p) : Calls Tryz.prog 30 #[.pointer p] w0 fun e w' => e = .returned (.bool true) ∧ Ext w0 w' := by
  refine enter Tryz.func30 rfl rfl rfl ?_
  intro a hS
  have hH := Hp.start w0 (Nobody)
  refine c_seq ?_
  refine reg_plain w0 (Nobody) ?_
  refine r_assign hS hH.kp0 rfl rfl ?_; clear hS; intro a hS
  refine Sq.nil ?_
  refine then_n ?_
  refine c_seq ?_
  refine reg_plain w0 (Nobody) ?_
  refine r_move hS hH.kp0 rfl rfl ?_; clear hS; intro a hS
  refine r_call (l := [.tmp 3]) hS rfl rfl Fc.fn31 rfl ?_
  refine Calls.mono (Root_no _ _ (hv.ext hH.mod)) ?_
  rintro e w1 ⟨rfl, hE⟩
  replace hH := hH.ext hE
  refine ⟨_, rfl, hH.kp0, ?_⟩
  clear hS; intro a hS
  refine r_buildA (parts := []) hS hH.kp0 rfl rfl Fc.zc38 Fc.ar38 (by rfl) ?_; clear hS; intro a hS
  refine r_arrEql (h := zB) (g := zB) Fc.arrH hS hH.kp0 rfl rfl rfl rfl rfl ?_; clear hS; intro a hS
  refine r_assign hS hH.kp0 rfl rfl ?_; clear hS; intro a hS
  refine Sq.nil ?_
  refine then_n ?_
  refine wp_ret ?_
  exact leave (.inl rfl) hS rfl (Res.tmp rfl Res.nil) ⟨rfl, hH.mod⟩

set_option maxRecDepth 100000 in
set_option maxHeartbeats 1000000 in
theorem Make_no (p : Option Addr) (h : List UInt8) (hh : h.length = 16) (w0 : World) (hv : NoV w0 p) : Calls Tryz.prog 5 #[.pointer p, .agg (hcells h).toArray] w0 fun e w' => e = .returned (.tuple #[.agg (hcells z48).toArray, .int .i64 1]) ∧ Ext w0 w' := by
  refine enter Tryz.func5 rfl rfl rfl ?_
  intro a hS
  have hH := Hp.start w0 (Nobody)
  obtain ⟨x0, x1, x2, x3, x4, x5, x6, x7, x8, x9, xa, xb, xc, xd, xe, xf, rfl⟩ := len16 hh
  refine c_seq ?_
  refine reg_plain w0 (Nobody) ?_
  refine r_box hS hH (by repeat (first | exact Sub.nil | refine Sub.cons ?_ ?_ | exact In.here | refine In.there ?_)) rfl rfl rfl ?_
  clear hS hH; intro a w b3 hb3 hwb3 hS hH
  refine r_alloc hS hH (by repeat (first | exact Sub.nil | refine Sub.cons ?_ ?_ | exact In.here | refine In.there ?_)) Fc.zc40 rfl ?_
  clear hS hH; intro a w b4 hb4 hwb4 hS hH
  refine r_assign hS hH.kp0 rfl rfl ?_; clear hS; intro a hS
  refine Sq.nil ?_
  refine then_n ?_
  refine c_seq ?_
  refine reg_plain w0 (Nobody) ?_
  refine r_move hS hH.kp0 rfl rfl ?_; clear hS; intro a hS
  refine r_load_row hS hH (by repeat (first | exact Sub.nil | refine Sub.cons ?_ ?_ | exact In.here | refine In.there ?_)) rfl (by repeat (first | exact In.here | refine In.there ?_)) Fc.ag38 (by rfl) rfl ?_; clear hS; intro a hS
  refine r_call (l := [.tmp 11, .tmp 12, .const (.string { data := #[107, 101, 121] }), .const (.slice none 0 0)]) hS rfl rfl Fc.fn29 rfl ?_
  refine Calls.mono (Derive_no _ [x0, x1, x2, x3, x4, x5, x6, x7, x8, x9, xa, xb, xc, xd, xe, xf] rfl _ _ [] _ (hv.ext hH.mod) (Bs.nil _)) ?_
  rintro e w1 ⟨rfl, hE⟩
  replace hH := hH.ext hE
  refine ⟨_, rfl, hH.kp0, ?_⟩
  clear hS; intro a hS
  refine r_move hS hH.kp0 rfl rfl ?_; clear hS; intro a hS
  refine r_extract hS hH.kp0 rfl rfl rfl ?_; clear hS; intro a hS
  refine r_extract hS hH.kp0 rfl rfl rfl ?_; clear hS; intro a hS
  refine r_alloc hS hH (by repeat (first | exact Sub.nil | refine Sub.cons ?_ ?_ | exact In.here | refine In.there ?_)) Fc.zc38 rfl ?_
  clear hS hH; intro a w b6 hb6 hwb6 hS hH
  refine r_store_row hS hH rfl rfl (by first | exact .here | exact .there .here | exact .there (.there .here) | exact .there (.there (.there .here)) | exact .there (.there (.there (.there .here))) | exact .there (.there (.there (.there (.there .here)))) | exact .there (.there (.there (.there (.there (.there .here))))) | exact .there (.there (.there (.there (.there (.there (.there .here)))))) | exact .there (.there (.there (.there (.there (.there (.there (.there .here))))))) | exact .there (.there (.there (.there (.there (.there (.there (.there (.there .here)))))))) | exact .there (.there (.there (.there (.there (.there (.there (.there (.there (.there .here))))))))) | exact .there (.there (.there (.there (.there (.there (.there (.there (.there (.there (.there .here)))))))))) | exact .there (.there (.there (.there (.there (.there (.there (.there (.there (.there (.there (.there .here))))))))))) | exact .there (.there (.there (.there (.there (.there (.there (.there (.there (.there (.there (.there (.there .here)))))))))))) | exact .there (.there (.there (.there (.there (.there (.there (.there (.there (.there (.there (.there (.there (.there .here))))))))))))) | exact .there (.there (.there (.there (.there (.there (.there (.there (.there (.there (.there (.there (.there (.there (.there .here))))))))))))))) (by repeat (first | exact Sub.nil | refine Sub.cons ?_ ?_ | exact In.here | refine In.there ?_)) Fc.sz38 (by first | exact hcells_one _ | exact of_decide_eq_true rfl) (by rfl) (by first | exact .inr (by assumption) | exact .inl (by first | assumption | rfl)) ?_
  clear hH; intro w hH
  refine r_assign hS hH.kp0 rfl rfl ?_; clear hS; intro a hS
  refine Sq.nil ?_
  refine then_n ?_
  refine c_seq ?_
  refine reg_plain w0 (Nobody) ?_
  refine r_move hS hH.kp0 rfl rfl ?_; clear hS; intro a hS
  refine r_load_row hS hH (by repeat (first | exact Sub.nil | refine Sub.cons ?_ ?_ | exact In.here | refine In.there ?_)) rfl (by repeat (first | exact In.here | refine In.there ?_)) Fc.ag38 (by rfl) rfl ?_; clear hS; intro a hS
  refine r_call (l := [.tmp 17, .tmp 18, .const (.string { data := #[109, 97, 115, 107] }), .const (.slice none 0 0)]) hS rfl rfl Fc.fn29 rfl ?_
  refine Calls.mono (Derive_no _ [x0, x1, x2, x3, x4, x5, x6, x7, x8, x9, xa, xb, xc, xd, xe, xf] rfl _ _ [] _ (hv.ext hH.mod) (Bs.nil _)) ?_
  rintro e w1 ⟨rfl, hE⟩
  replace hH := hH.ext hE
  refine ⟨_, rfl, hH.kp0, ?_⟩
  clear hS; intro a hS
  refine r_move hS hH.kp0 rfl rfl ?_; clear hS; intro a hS
  refine r_extract hS hH.kp0 rfl rfl rfl ?_; clear hS; intro a hS
  refine r_extract hS hH.kp0 rfl rfl rfl ?_; clear hS; intro a hS
  refine r_alloc hS hH (by repeat (first | exact Sub.nil | refine Sub.cons ?_ ?_ | exact In.here | refine In.there ?_)) Fc.zc38 rfl ?_
  clear hS hH; intro a w b8 hb8 hwb8 hS hH
  refine r_store_row hS hH rfl rfl (by first | exact .here | exact .there .here | exact .there (.there .here) | exact .there (.there (.there .here)) | exact .there (.there (.there (.there .here))) | exact .there (.there (.there (.there (.there .here)))) | exact .there (.there (.there (.there (.there (.there .here))))) | exact .there (.there (.there (.there (.there (.there (.there .here)))))) | exact .there (.there (.there (.there (.there (.there (.there (.there .here))))))) | exact .there (.there (.there (.there (.there (.there (.there (.there (.there .here)))))))) | exact .there (.there (.there (.there (.there (.there (.there (.there (.there (.there .here))))))))) | exact .there (.there (.there (.there (.there (.there (.there (.there (.there (.there (.there .here)))))))))) | exact .there (.there (.there (.there (.there (.there (.there (.there (.there (.there (.there (.there .here))))))))))) | exact .there (.there (.there (.there (.there (.there (.there (.there (.there (.there (.there (.there (.there .here)))))))))))) | exact .there (.there (.there (.there (.there (.there (.there (.there (.there (.there (.there (.there (.there (.there .here))))))))))))) | exact .there (.there (.there (.there (.there (.there (.there (.there (.there (.there (.there (.there (.there (.there (.there .here))))))))))))))) (by repeat (first | exact Sub.nil | refine Sub.cons ?_ ?_ | exact In.here | refine In.there ?_)) Fc.sz38 (by first | exact hcells_one _ | exact of_decide_eq_true rfl) (by rfl) (by first | exact .inr (by assumption) | exact .inl (by first | assumption | rfl)) ?_
  clear hH; intro w hH
  refine r_assign hS hH.kp0 rfl rfl ?_; clear hS; intro a hS
  refine Sq.nil ?_
  refine then_n ?_
  refine c_seq ?_
  refine c_seq ?_
  refine reg_plain w0 (Nobody) ?_
  refine r_move hS hH.kp0 rfl rfl ?_; clear hS; intro a hS
  refine r_neq hS hH.kp0 rfl rfl rfl ?_; clear hS; intro a hS
  refine r_move hS hH.kp0 rfl rfl ?_; clear hS; intro a hS
  refine Sq.guardNo hS rfl rfl rfl hH.kp0 rfl ?_; clear hS; intro a hS
  refine Sq.guardNo hS rfl rfl rfl hH.kp0 rfl ?_; clear hS; intro a hS
  refine r_pickT hS hH.kp0 rfl rfl rfl rfl ?_; clear hS; intro a hS
  refine Sq.nil ?_
  refine then_n ?_
  refine c_condT hS rfl rfl ?_
  refine c_seq ?_
  refine reg_plain w0 (Nobody) ?_
  refine r_buildS (parts := []) hS hH.kp0 rfl rfl Fc.zc40 Fc.pl40 (by rfl) ?_; clear hS; intro a hS
  refine r_move hS hH.kp0 rfl rfl ?_; clear hS; intro a hS
  refine r_store_row hS hH rfl rfl (by first | exact .here | exact .there .here | exact .there (.there .here) | exact .there (.there (.there .here)) | exact .there (.there (.there (.there .here))) | exact .there (.there (.there (.there (.there .here)))) | exact .there (.there (.there (.there (.there (.there .here))))) | exact .there (.there (.there (.there (.there (.there (.there .here)))))) | exact .there (.there (.there (.there (.there (.there (.there (.there .here))))))) | exact .there (.there (.there (.there (.there (.there (.there (.there (.there .here)))))))) | exact .there (.there (.there (.there (.there (.there (.there (.there (.there (.there .here))))))))) | exact .there (.there (.there (.there (.there (.there (.there (.there (.there (.there (.there .here)))))))))) | exact .there (.there (.there (.there (.there (.there (.there (.there (.there (.there (.there (.there .here))))))))))) | exact .there (.there (.there (.there (.there (.there (.there (.there (.there (.there (.there (.there (.there .here)))))))))))) | exact .there (.there (.there (.there (.there (.there (.there (.there (.there (.there (.there (.there (.there (.there .here))))))))))))) | exact .there (.there (.there (.there (.there (.there (.there (.there (.there (.there (.there (.there (.there (.there (.there .here))))))))))))))) (by repeat (first | exact Sub.nil | refine Sub.cons ?_ ?_ | exact In.here | refine In.there ?_)) Fc.sz40 (by first | exact hcells_one _ | exact of_decide_eq_true rfl) (by rfl) (by first | exact .inr (by assumption) | exact .inl (by first | assumption | rfl)) ?_
  clear hH; intro w hH
  refine r_assign hS hH.kp0 rfl rfl ?_; clear hS; intro a hS
  refine Sq.nil ?_
  refine then_n ?_
  refine wp_ret ?_
  refine then_r ?_
  exact leave (.inl rfl) hS rfl (Res.cell rfl (hH.get (by repeat (first | exact In.here | refine In.there ?_))) Fc.ag40 (by rfl) rfl (Res.tmp rfl Res.nil)) ⟨rfl, hH.mod⟩

set_option maxRecDepth 100000 in
set_option maxHeartbeats 1000000 in
theorem Initial_no (p : Option Addr) (v : Value) (b : Bool) (w0 : World) (hv : NoV w0 p) : Calls Tryz.prog 6 #[.pointer p, v, .bool b] w0 fun e w' => e = .returned (.tuple #[.agg (hcells z48).toArray, .int .i64 1]) ∧ Ext w0 w' := by
  refine enter Tryz.func6 rfl rfl rfl ?_
  intro a hS
  have hH := Hp.start w0 (Nobody)
  refine c_seq ?_
  refine reg_plain w0 (Nobody) ?_
  refine r_alloc hS hH (by repeat (first | exact Sub.nil | refine Sub.cons ?_ ?_ | exact In.here | refine In.there ?_)) Fc.zc40 rfl ?_
  clear hS hH; intro a w b6 hb6 hwb6 hS hH
  refine r_assign hS hH.kp0 rfl rfl ?_; clear hS; intro a hS
  refine Sq.nil ?_
  refine then_n ?_
  refine c_seq ?_
  refine wp_block ?_
  refine c_seq ?_
  refine reg_plain w0 (Nobody) ?_
  refine r_move hS hH.kp0 rfl rfl ?_; clear hS; intro a hS
  refine r_call (l := [.tmp 14]) hS rfl rfl Fc.fn30 rfl ?_
  refine Calls.mono (pnone_no _ _ (hv.ext hH.mod)) ?_
  rintro e w1 ⟨rfl, hE⟩
  replace hH := hH.ext hE
  refine ⟨_, rfl, hH.kp0, ?_⟩
  clear hS; intro a hS
  refine r_assign hS hH.kp0 rfl rfl ?_; clear hS; intro a hS
  refine Sq.nil ?_
  refine then_n ?_
  refine c_condT hS rfl rfl ?_
  refine c_seq ?_
  refine reg_plain w0 (Nobody) ?_
  refine r_buildS (parts := []) hS hH.kp0 rfl rfl Fc.zc40 Fc.pl40 (by rfl) ?_; clear hS; intro a hS
  refine r_store_row hS hH rfl rfl (by first | exact .here | exact .there .here | exact .there (.there .here) | exact .there (.there (.there .here)) | exact .there (.there (.there (.there .here))) | exact .there (.there (.there (.there (.there .here)))) | exact .there (.there (.there (.there (.there (.there .here))))) | exact .there (.there (.there (.there (.there (.there (.there .here)))))) | exact .there (.there (.there (.there (.there (.there (.there (.there .here))))))) | exact .there (.there (.there (.there (.there (.there (.there (.there (.there .here)))))))) | exact .there (.there (.there (.there (.there (.there (.there (.there (.there (.there .here))))))))) | exact .there (.there (.there (.there (.there (.there (.there (.there (.there (.there (.there .here)))))))))) | exact .there (.there (.there (.there (.there (.there (.there (.there (.there (.there (.there (.there .here))))))))))) | exact .there (.there (.there (.there (.there (.there (.there (.there (.there (.there (.there (.there (.there .here)))))))))))) | exact .there (.there (.there (.there (.there (.there (.there (.there (.there (.there (.there (.there (.there (.there .here))))))))))))) | exact .there (.there (.there (.there (.there (.there (.there (.there (.there (.there (.there (.there (.there (.there (.there .here))))))))))))))) (by repeat (first | exact Sub.nil | refine Sub.cons ?_ ?_ | exact In.here | refine In.there ?_)) Fc.sz40 (by first | exact hcells_one _ | exact of_decide_eq_true rfl) (by rfl) (by first | exact .inr (by assumption) | exact .inl (by first | assumption | rfl)) ?_
  clear hH; intro w hH
  refine r_assign hS hH.kp0 rfl rfl ?_; clear hS; intro a hS
  refine Sq.nil ?_
  refine then_n ?_
  refine wp_ret ?_
  refine blk_r ?_
  refine then_r ?_
  exact leave (.inl rfl) hS rfl (Res.cell rfl (hH.get (by repeat (first | exact In.here | refine In.there ?_))) Fc.ag40 (by rfl) rfl (Res.tmp rfl Res.nil)) ⟨rfl, hH.mod⟩

set_option maxRecDepth 100000 in
set_option maxHeartbeats 1000000 in
theorem Next_no (p : Option Addr) (w0 : World) (hv : NoV w0 p) : Calls Tryz.prog 7 #[.pointer p, .agg (hcells z48).toArray] w0 fun e w' => e = .returned (.tuple #[.agg (hcells z48).toArray, .int .i64 1]) ∧ Ext w0 w' := by
  refine enter Tryz.func7 rfl rfl rfl ?_
  intro a hS
  have hH := Hp.start w0 (Nobody)
  refine c_seq ?_
  refine reg_plain w0 (Nobody) ?_
  refine r_box hS hH (by repeat (first | exact Sub.nil | refine Sub.cons ?_ ?_ | exact In.here | refine In.there ?_)) rfl rfl rfl ?_
  clear hS hH; intro a w b3 hb3 hwb3 hS hH
  refine r_alloc hS hH (by repeat (first | exact Sub.nil | refine Sub.cons ?_ ?_ | exact In.here | refine In.there ?_)) Fc.zc40 rfl ?_
  clear hS hH; intro a w b4 hb4 hwb4 hS hH
  refine r_assign hS hH.kp0 rfl rfl ?_; clear hS; intro a hS
  refine Sq.nil ?_
  refine then_n ?_
  refine c_seq ?_
  refine reg_plain w0 (Nobody) ?_
  refine r_move hS hH.kp0 rfl rfl ?_; clear hS; intro a hS
  refine r_fieldAddr hS hH.kp0 rfl Fc.fo40_0 rfl ?_; clear hS; intro a hS
  refine r_load_ag hS hH (by repeat (first | exact Sub.nil | refine Sub.cons ?_ ?_ | exact In.here | refine In.there ?_)) rfl (by repeat (first | exact In.here | refine In.there ?_)) Fc.ag38 (of_decide_eq_true rfl) rfl ?_; clear hS; intro a hS
  refine r_call (l := [.tmp 10, .tmp 12, .const (.string { data := #[110, 101, 120, 116] }), .const (.slice none 0 0)]) hS rfl rfl Fc.fn29 rfl ?_
  refine Calls.mono (Derive_no _ zB rfl _ _ [] _ (hv.ext hH.mod) (Bs.nil _)) ?_
  rintro e w1 ⟨rfl, hE⟩
  replace hH := hH.ext hE
  refine ⟨_, rfl, hH.kp0, ?_⟩
  clear hS; intro a hS
  refine r_move hS hH.kp0 rfl rfl ?_; clear hS; intro a hS
  refine r_extract hS hH.kp0 rfl rfl rfl ?_; clear hS; intro a hS
  refine r_extract hS hH.kp0 rfl rfl rfl ?_; clear hS; intro a hS
  refine r_alloc hS hH (by repeat (first | exact Sub.nil | refine Sub.cons ?_ ?_ | exact In.here | refine In.there ?_)) Fc.zc38 rfl ?_
  clear hS hH; intro a w b6 hb6 hwb6 hS hH
  refine r_store_row hS hH rfl rfl (by first | exact .here | exact .there .here | exact .there (.there .here) | exact .there (.there (.there .here)) | exact .there (.there (.there (.there .here))) | exact .there (.there (.there (.there (.there .here)))) | exact .there (.there (.there (.there (.there (.there .here))))) | exact .there (.there (.there (.there (.there (.there (.there .here)))))) | exact .there (.there (.there (.there (.there (.there (.there (.there .here))))))) | exact .there (.there (.there (.there (.there (.there (.there (.there (.there .here)))))))) | exact .there (.there (.there (.there (.there (.there (.there (.there (.there (.there .here))))))))) | exact .there (.there (.there (.there (.there (.there (.there (.there (.there (.there (.there .here)))))))))) | exact .there (.there (.there (.there (.there (.there (.there (.there (.there (.there (.there (.there .here))))))))))) | exact .there (.there (.there (.there (.there (.there (.there (.there (.there (.there (.there (.there (.there .here)))))))))))) | exact .there (.there (.there (.there (.there (.there (.there (.there (.there (.there (.there (.there (.there (.there .here))))))))))))) | exact .there (.there (.there (.there (.there (.there (.there (.there (.there (.there (.there (.there (.there (.there (.there .here))))))))))))))) (by repeat (first | exact Sub.nil | refine Sub.cons ?_ ?_ | exact In.here | refine In.there ?_)) Fc.sz38 (by first | exact hcells_one _ | exact of_decide_eq_true rfl) (by rfl) (by first | exact .inr (by assumption) | exact .inl (by first | assumption | rfl)) ?_
  clear hH; intro w hH
  refine r_assign hS hH.kp0 rfl rfl ?_; clear hS; intro a hS
  refine Sq.nil ?_
  refine then_n ?_
  refine c_seq ?_
  refine c_seq ?_
  refine reg_plain w0 (Nobody) ?_
  refine r_move hS hH.kp0 rfl rfl ?_; clear hS; intro a hS
  refine r_neq hS hH.kp0 rfl rfl rfl ?_; clear hS; intro a hS
  refine Sq.nil ?_
  refine then_n ?_
  refine c_condT hS rfl rfl ?_
  refine c_seq ?_
  refine reg_plain w0 (Nobody) ?_
  refine r_buildS (parts := []) hS hH.kp0 rfl rfl Fc.zc40 Fc.pl40 (by rfl) ?_; clear hS; intro a hS
  refine r_move hS hH.kp0 rfl rfl ?_; clear hS; intro a hS
  refine r_store_row hS hH rfl rfl (by first | exact .here | exact .there .here | exact .there (.there .here) | exact .there (.there (.there .here)) | exact .there (.there (.there (.there .here))) | exact .there (.there (.there (.there (.there .here)))) | exact .there (.there (.there (.there (.there (.there .here))))) | exact .there (.there (.there (.there (.there (.there (.there .here)))))) | exact .there (.there (.there (.there (.there (.there (.there (.there .here))))))) | exact .there (.there (.there (.there (.there (.there (.there (.there (.there .here)))))))) | exact .there (.there (.there (.there (.there (.there (.there (.there (.there (.there .here))))))))) | exact .there (.there (.there (.there (.there (.there (.there (.there (.there (.there (.there .here)))))))))) | exact .there (.there (.there (.there (.there (.there (.there (.there (.there (.there (.there (.there .here))))))))))) | exact .there (.there (.there (.there (.there (.there (.there (.there (.there (.there (.there (.there (.there .here)))))))))))) | exact .there (.there (.there (.there (.there (.there (.there (.there (.there (.there (.there (.there (.there (.there .here))))))))))))) | exact .there (.there (.there (.there (.there (.there (.there (.there (.there (.there (.there (.there (.there (.there (.there .here))))))))))))))) (by repeat (first | exact Sub.nil | refine Sub.cons ?_ ?_ | exact In.here | refine In.there ?_)) Fc.sz40 (by first | exact hcells_one _ | exact of_decide_eq_true rfl) (by rfl) (by first | exact .inr (by assumption) | exact .inl (by first | assumption | rfl)) ?_
  clear hH; intro w hH
  refine r_assign hS hH.kp0 rfl rfl ?_; clear hS; intro a hS
  refine Sq.nil ?_
  refine then_n ?_
  refine wp_ret ?_
  refine then_r ?_
  exact leave (.inl rfl) hS rfl (Res.cell rfl (hH.get (by repeat (first | exact In.here | refine In.there ?_))) Fc.ag40 (by rfl) rfl (Res.tmp rfl Res.nil)) ⟨rfl, hH.mod⟩

set_option maxRecDepth 100000 in
set_option maxHeartbeats 1000000 in
theorem PSeal_no (p : Option Addr) (pl : List Value) (ac : Value) (w0 : World) (hv : NoV w0 p) : Calls Tryz.prog 8 #[.pointer p, .agg (hcells z48).toArray, .agg pl.toArray, ac] w0 fun e w' => e = .returned (.tuple #[.slice none 0 0, .int .i64 1]) ∧ Ext w0 w' := by
  refine enter Tryz.func8 rfl rfl rfl ?_
  intro a hS
  have hH := Hp.start w0 (Nobody)
  refine c_seq ?_
  refine reg_plain w0 (Nobody) ?_
  refine r_box hS hH (by repeat (first | exact Sub.nil | refine Sub.cons ?_ ?_ | exact In.here | refine In.there ?_)) rfl rfl rfl ?_
  clear hS hH; intro a w b5 hb5 hwb5 hS hH
  refine r_box hS hH (by repeat (first | exact Sub.nil | refine Sub.cons ?_ ?_ | exact In.here | refine In.there ?_)) rfl rfl rfl ?_
  clear hS hH; intro a w b6 hb6 hwb6 hS hH
  refine r_assign hS hH.kp0 rfl rfl ?_; clear hS; intro a hS
  refine r_assign hS hH.kp0 rfl rfl ?_; clear hS; intro a hS
  refine Sq.nil ?_
  refine then_n ?_
  refine c_seq ?_
  refine c_seq ?_
  refine reg_plain w0 (Nobody) ?_
  refine r_move hS hH.kp0 rfl rfl ?_; clear hS; intro a hS
  refine r_call (l := [.tmp 18]) hS rfl rfl Fc.fn30 rfl ?_
  refine Calls.mono (pnone_no _ _ (hv.ext hH.mod)) ?_
  rintro e w1 ⟨rfl, hE⟩
  replace hH := hH.ext hE
  refine ⟨_, rfl, hH.kp0, ?_⟩
  clear hS; intro a hS
  refine Sq.nil ?_
  refine then_n ?_
  refine c_condT hS rfl rfl ?_
  refine c_seq ?_
  refine reg_plain w0 (Nobody) ?_
  refine r_assign hS hH.kp0 rfl rfl ?_; clear hS; intro a hS
  refine r_assign hS hH.kp0 rfl rfl ?_; clear hS; intro a hS
  refine Sq.nil ?_
  refine then_n ?_
  refine wp_ret ?_
  refine then_r ?_
  exact leave (.inl rfl) hS rfl (Res.tmp rfl (Res.tmp rfl Res.nil)) ⟨rfl, hH.mod⟩

set_option maxRecDepth 100000 in
set_option maxHeartbeats 1000000 in
theorem POpen_no (p : Option Addr) (v i g : Value) (w0 : World) (hv : NoV w0 p) : Calls Tryz.prog 9 #[.pointer p, .agg (hcells z48).toArray, v, i, g] w0 fun e w' => e = .returned (.tuple #[.agg (zPk).toArray, .iface 41 (.int .i64 1)]) ∧ Ext w0 w' := by
  refine enter Tryz.func9 rfl rfl rfl ?_
  intro a hS
  have hH := Hp.start w0 (Nobody)
  refine c_seq ?_
  refine reg_plain w0 (Nobody) ?_
  refine r_box hS hH (by repeat (first | exact Sub.nil | refine Sub.cons ?_ ?_ | exact In.here | refine In.there ?_)) rfl rfl rfl ?_
  clear hS hH; intro a w b6 hb6 hwb6 hS hH
  refine r_alloc hS hH (by repeat (first | exact Sub.nil | refine Sub.cons ?_ ?_ | exact In.here | refine In.there ?_)) Fc.zc28 rfl ?_
  clear hS hH; intro a w b10 hb10 hwb10 hS hH
  refine r_assign hS hH.kp0 rfl rfl ?_; clear hS; intro a hS
  refine Sq.nil ?_
  refine then_n ?_
  refine c_seq ?_
  refine wp_block ?_
  refine c_seq ?_
  refine reg_plain w0 (Nobody) ?_
  refine r_move hS hH.kp0 rfl rfl ?_; clear hS; intro a hS
  refine r_call (l := [.tmp 26]) hS rfl rfl Fc.fn30 rfl ?_
  refine Calls.mono (pnone_no _ _ (hv.ext hH.mod)) ?_
  rintro e w1 ⟨rfl, hE⟩
  replace hH := hH.ext hE
  refine ⟨_, rfl, hH.kp0, ?_⟩
  clear hS; intro a hS
  refine r_assign hS hH.kp0 rfl rfl ?_; clear hS; intro a hS
  refine Sq.nil ?_
  refine then_n ?_
  refine c_condT hS rfl rfl ?_
  refine c_seq ?_
  refine reg_plain w0 (Nobody) ?_
  refine r_buildS (parts := []) hS hH.kp0 rfl rfl Fc.zc28 Fc.pl28 (by rfl) ?_; clear hS; intro a hS
  refine r_makeIface hS hH.kp0 rfl Fc.cc41 rfl ?_; clear hS; intro a hS
  refine r_store_row hS hH rfl rfl (by first | exact .here | exact .there .here | exact .there (.there .here) | exact .there (.there (.there .here)) | exact .there (.there (.there (.there .here))) | exact .there (.there (.there (.there (.there .here)))) | exact .there (.there (.there (.there (.there (.there .here))))) | exact .there (.there (.there (.there (.there (.there (.there .here)))))) | exact .there (.there (.there (.there (.there (.there (.there (.there .here))))))) | exact .there (.there (.there (.there (.there (.there (.there (.there (.there .here)))))))) | exact .there (.there (.there (.there (.there (.there (.there (.there (.there (.there .here))))))))) | exact .there (.there (.there (.there (.there (.there (.there (.there (.there (.there (.there .here)))))))))) | exact .there (.there (.there (.there (.there (.there (.there (.there (.there (.there (.there (.there .here))))))))))) | exact .there (.there (.there (.there (.there (.there (.there (.there (.there (.there (.there (.there (.there .here)))))))))))) | exact .there (.there (.there (.there (.there (.there (.there (.there (.there (.there (.there (.there (.there (.there .here))))))))))))) | exact .there (.there (.there (.there (.there (.there (.there (.there (.there (.there (.there (.there (.there (.there (.there .here))))))))))))))) (by repeat (first | exact Sub.nil | refine Sub.cons ?_ ?_ | exact In.here | refine In.there ?_)) Fc.sz28 (by first | exact hcells_one _ | exact of_decide_eq_true rfl) (by rfl) (by first | exact .inr (by assumption) | exact .inl (by first | assumption | rfl)) ?_
  clear hH; intro w hH
  refine r_assign hS hH.kp0 rfl rfl ?_; clear hS; intro a hS
  refine Sq.nil ?_
  refine then_n ?_
  refine wp_ret ?_
  refine blk_r ?_
  refine then_r ?_
  exact leave (.inl rfl) hS rfl (Res.cell rfl (hH.get (by repeat (first | exact In.here | refine In.there ?_))) Fc.ag28 (by rfl) rfl (Res.tmp rfl Res.nil)) ⟨rfl, hH.mod⟩

set_option maxRecDepth 100000 in
set_option maxHeartbeats 1000000 in
theorem PPhase_no (p : Option Addr) (v i : Value) (w0 : World) (hv : NoV w0 p) : Calls Tryz.prog 10 #[.pointer p, .agg (hcells z48).toArray, v, i] w0 fun e w' => e = .returned (.tuple #[.bool false, .int .i64 1]) ∧ Ext w0 w' := by
  refine enter Tryz.func10 rfl rfl rfl ?_
  intro a hS
  have hH := Hp.start w0 (Nobody)
  refine c_seq ?_
  refine reg_plain w0 (Nobody) ?_
  refine r_box hS hH (by repeat (first | exact Sub.nil | refine Sub.cons ?_ ?_ | exact In.here | refine In.there ?_)) rfl rfl rfl ?_
  clear hS hH; intro a w b5 hb5 hwb5 hS hH
  refine r_assign hS hH.kp0 rfl rfl ?_; clear hS; intro a hS
  refine r_assign hS hH.kp0 rfl rfl ?_; clear hS; intro a hS
  refine Sq.nil ?_
  refine then_n ?_
  refine c_seq ?_
  refine c_seq ?_
  refine reg_plain w0 (Nobody) ?_
  refine r_move hS hH.kp0 rfl rfl ?_; clear hS; intro a hS
  refine r_call (l := [.tmp 17]) hS rfl rfl Fc.fn30 rfl ?_
  refine Calls.mono (pnone_no _ _ (hv.ext hH.mod)) ?_
  rintro e w1 ⟨rfl, hE⟩
  replace hH := hH.ext hE
  refine ⟨_, rfl, hH.kp0, ?_⟩
  clear hS; intro a hS
  refine Sq.nil ?_
  refine then_n ?_
  refine c_condT hS rfl rfl ?_
  refine c_seq ?_
  refine reg_plain w0 (Nobody) ?_
  refine r_assign hS hH.kp0 rfl rfl ?_; clear hS; intro a hS
  refine r_assign hS hH.kp0 rfl rfl ?_; clear hS; intro a hS
  refine Sq.nil ?_
  refine then_n ?_
  refine wp_ret ?_
  refine then_r ?_
  exact leave (.inl rfl) hS rfl (Res.tmp rfl (Res.tmp rfl Res.nil)) ⟨rfl, hH.mod⟩

set_option maxRecDepth 100000 in
set_option maxHeartbeats 1000000 in
theorem PTag_no (p : Option Addr) (u v : Value) (w0 : World) (hv : NoV w0 p) : Calls Tryz.prog 11 #[.pointer p, u, v] w0 fun e w' => e = .returned (.tuple #[.agg (hcells zB).toArray, .int .i64 1]) ∧ Ext w0 w' := by
  refine enter Tryz.func11 rfl rfl rfl ?_
  intro a hS
  have hH := Hp.start w0 (Nobody)
  refine c_seq ?_
  refine reg_plain w0 (Nobody) ?_
  refine r_alloc hS hH (by repeat (first | exact Sub.nil | refine Sub.cons ?_ ?_ | exact In.here | refine In.there ?_)) Fc.zc38 rfl ?_
  clear hS hH; intro a w b6 hb6 hwb6 hS hH
  refine r_assign hS hH.kp0 rfl rfl ?_; clear hS; intro a hS
  refine Sq.nil ?_
  refine then_n ?_
  refine c_seq ?_
  refine wp_block ?_
  refine c_seq ?_
  refine reg_plain w0 (Nobody) ?_
  refine r_move hS hH.kp0 rfl rfl ?_; clear hS; intro a hS
  refine r_call (l := [.tmp 9]) hS rfl rfl Fc.fn30 rfl ?_
  refine Calls.mono (pnone_no _ _ (hv.ext hH.mod)) ?_
  rintro e w1 ⟨rfl, hE⟩
  replace hH := hH.ext hE
  refine ⟨_, rfl, hH.kp0, ?_⟩
  clear hS; intro a hS
  refine r_assign hS hH.kp0 rfl rfl ?_; clear hS; intro a hS
  refine Sq.nil ?_
  refine then_n ?_
  refine c_condT hS rfl rfl ?_
  refine c_seq ?_
  refine reg_plain w0 (Nobody) ?_
  refine r_buildA (parts := []) hS hH.kp0 rfl rfl Fc.zc38 Fc.ar38 (by rfl) ?_; clear hS; intro a hS
  refine r_store_row hS hH rfl rfl (by first | exact .here | exact .there .here | exact .there (.there .here) | exact .there (.there (.there .here)) | exact .there (.there (.there (.there .here))) | exact .there (.there (.there (.there (.there .here)))) | exact .there (.there (.there (.there (.there (.there .here))))) | exact .there (.there (.there (.there (.there (.there (.there .here)))))) | exact .there (.there (.there (.there (.there (.there (.there (.there .here))))))) | exact .there (.there (.there (.there (.there (.there (.there (.there (.there .here)))))))) | exact .there (.there (.there (.there (.there (.there (.there (.there (.there (.there .here))))))))) | exact .there (.there (.there (.there (.there (.there (.there (.there (.there (.there (.there .here)))))))))) | exact .there (.there (.there (.there (.there (.there (.there (.there (.there (.there (.there (.there .here))))))))))) | exact .there (.there (.there (.there (.there (.there (.there (.there (.there (.there (.there (.there (.there .here)))))))))))) | exact .there (.there (.there (.there (.there (.there (.there (.there (.there (.there (.there (.there (.there (.there .here))))))))))))) | exact .there (.there (.there (.there (.there (.there (.there (.there (.there (.there (.there (.there (.there (.there (.there .here))))))))))))))) (by repeat (first | exact Sub.nil | refine Sub.cons ?_ ?_ | exact In.here | refine In.there ?_)) Fc.sz38 (by first | exact hcells_one _ | exact of_decide_eq_true rfl) (by rfl) (by first | exact .inr (by assumption) | exact .inl (by first | assumption | rfl)) ?_
  clear hH; intro w hH
  refine r_assign hS hH.kp0 rfl rfl ?_; clear hS; intro a hS
  refine Sq.nil ?_
  refine then_n ?_
  refine wp_ret ?_
  refine blk_r ?_
  refine then_r ?_
  exact leave (.inl rfl) hS rfl (Res.cell rfl (hH.get (by repeat (first | exact In.here | refine In.there ?_))) Fc.ag38 (by rfl) rfl (Res.tmp rfl Res.nil)) ⟨rfl, hH.mod⟩

end Go.Proofs.YtmbidmlinaafnaaGreatDoor
