/- HeaderBack: a header that is put is read again, with the place and the lowest bytes of the number. Conditions: those of the given row (arguments of at most 1048576 values and letters; the listed variables hold what the text lays). Part Header1: walks and lemmas of the proof. -/
import Derived.Test.YtcenionnedgadaaDoorChecked
import Derived.Test.YtcenionnedgadaaDoorSymHdr4
namespace Go.Proofs.YtcenionnedgadaaDoor
open Go.Sym
theorem Fc.laid : laidOutB Tryd.prog = true := by kernel_rfl
theorem Fc.mixed : Tryd.prog.follows .mixedOrders = true := by kernel_rfl
theorem DF {p : Prop} [Decidable p] (h : ¬ p) : decide p = false := decide_eq_false h
theorem DT {p : Prop} [Decidable p] (h : p) : decide p = true := decide_eq_true h
theorem Fc.el22 : elB Tryd.prog 22 = some (5, 1, 1) := by kernel_rfl
theorem Fc.fn19 : isFn Tryd.prog 19 = true := by kernel_rfl
theorem Fc.fn23 : isFn Tryd.prog 23 = true := by kernel_rfl
theorem Fc.fn35 : isFn Tryd.prog 35 = true := by kernel_rfl
theorem Fc.fn51 : isFn Tryd.prog 51 = true := by kernel_rfl
theorem Fc.fo50_0 : foff Tryd.prog 50 0 = some 0 := by kernel_rfl
theorem Fc.fo50_1 : foff Tryd.prog 50 1 = some 1 := by kernel_rfl
theorem Fc.fo50_2 : foff Tryd.prog 50 2 = some 2 := by kernel_rfl
theorem Fc.inf5 : (Tryd.prog.info? 5).isSome = true := by kernel_rfl
theorem Fc.isSlice22 : isSlice Tryd.prog 22 = true := by kernel_rfl
theorem Fc.ni22 : notInt Tryd.prog 22 = true := by kernel_rfl
theorem Fc.sc22 : scB Tryd.prog 22 = true := by kernel_rfl
theorem Fc.sc27 : scB Tryd.prog 27 = true := by kernel_rfl
theorem Fc.sc3 : scB Tryd.prog 3 = true := by kernel_rfl
theorem Fc.sc5 : scB Tryd.prog 5 = true := by kernel_rfl
theorem Fc.slb22 : slB Tryd.prog 22 = some 1 := by kernel_rfl
theorem Fc.sz27 : sizeB Tryd.prog 27 1 = true := by kernel_rfl
theorem Fc.sz3 : sizeB Tryd.prog 3 1 = true := by kernel_rfl
theorem Fc.ui3 : Tryd.prog.underlying 3 = some (.int .i64) := by kernel_rfl
theorem Fc.ui36 : Tryd.prog.underlying 36 = some (.int .u64) := by kernel_rfl
theorem Fc.uls22 : Tryd.prog.underlying 22 = some (.slice 5) := by kernel_rfl
theorem Fc.us36 : (Tryd.prog.underlying 36).isSome = true := by kernel_rfl
theorem Fc.us5 : (Tryd.prog.underlying 5).isSome = true := by kernel_rfl
set_option maxRecDepth 100000 in
set_option maxHeartbeats 400000 in
theorem read_c (v : Value) (l : List UInt8) (hl : l.length ≤ 8) (w0 : World) (hb : Bs w0 v l) : Calls Tryd.prog 51 #[v] w0 fun e w' => e = .returned (.int .u64 (beN l : Int)) ∧ Ext w0 w' := by
  refine enter Tryd.func51 rfl rfl rfl ?_
  intro a hS
  have hH := Hp.start w0 (Nobody)
  obtain ⟨q, qc, hsl⟩ := hb
  have hv9 := hsl.val
  subst hv9
  have hb : Bs w0 (.slice q l.length qc) l := ⟨q, qc, hsl⟩
  refine c_seq ?_
  refine reg_plain w0 (Nobody) ?_
  refine r_assign hS hH.kp0 rfl rfl ?_; clear hS; intro a hS
  refine Sq.nil ?_
  refine then_n ?_
  refine c_seq ?_
  refine c_seq ?_
  refine reg_plain w0 (Nobody) ?_
  refine r_move hS hH.kp0 rfl rfl ?_; clear hS; intro a hS
  refine r_lenSl hS hH.kp0 rfl Fc.isSlice22 rfl ?_; clear hS; intro a hS
  refine r_move hS hH.kp0 rfl rfl ?_; clear hS; intro a hS
  refine Sq.nil ?_
  refine then_n ?_
  refine wp_block ?_
  refine c_loop (fun m a w => ∃ (k : Nat) (i : Int), m + k = l.length ∧ i = k ∧ St 18 (lv [(2, .int .u64 (beN (l.take k) : Int)), (5, .slice q l.length qc), (6, .int .i64 (l.length : Int)), (7, .int .i64 i)]) a ∧ Hp w0 Nobody [] w) (l.length) ?_ ?_
  · exact ⟨0, _, rfl, rfl, hS.live ⟨rfl, rfl, rfl, rfl, trivial⟩, hH⟩
  clear hS hH; intro m a w hI; obtain ⟨k, i, hmk, hi, hS, hH⟩ := hI
  refine c_seq ?_
  refine reg_plain w0 (Nobody) ?_
  refine r_lss hS hH.kp0 rfl rfl rfl ?_; clear hS; intro a hS
  refine Sq.nil ?_
  refine then_n ?_
  refine c_seq ?_
  refine c_cond hS rfl (fun hc0 => ?_) (fun hc0 => ?_)
  · have hlt := of_decide_eq_true hc0
    have hk : k < l.length := by omega
    obtain ⟨x, hx⟩ : ∃ x, l[k]? = some x := ⟨_, List.getElem?_eq_getElem hk⟩
    obtain ⟨ba, bo, hq⟩ := hb.f.addr (by omega)
    subst hq
    have hcell := hb.f.byte hH.mod hx
    have hbd := beN_bound (l := l) (k := k) (by omega) (by omega)
    have hxl := x.toNat_lt
    refine wp_skip ?_
    refine then_n ?_
    refine c_seq ?_
    refine wp_block ?_
    refine c_seq ?_
    refine reg_plain w0 (Nobody) ?_
    refine r_indexAddrS (j := k) hS hH.kp0 rfl rfl Fc.slb22 hi (by omega) rfl ?_; clear hS; intro a hS
    refine r_load_cell (v := byteV x) hS hH.kp0 rfl (by rw [Nat.mul_one]; exact hcell) Fc.sc5 rfl ?_; clear hS; intro a hS
    refine r_assign hS hH.kp0 rfl rfl ?_; clear hS; intro a hS
    refine Sq.nil ?_
    refine then_n ?_
    refine reg_plain w0 (Nobody) ?_
    refine r_move hS hH.kp0 rfl rfl ?_; clear hS; intro a hS
    refine r_shlN (m := beN (l.take k)) 8 (beN (l.take k) * 256) hS hH.kp0 rfl rfl rfl rfl (by decide) (by omega) ?_; clear hS; intro a hS
    refine r_move hS hH.kp0 rfl rfl ?_; clear hS; intro a hS
    refine r_toU64 x.toNat hS hH.kp0 rfl Fc.ui36 Fc.us5 rfl rfl (by omega) ?_; clear hS; intro a hS
    refine r_orN (m := beN (l.take k) * 256) (m' := x.toNat) (beN (l.take (k + 1))) hS hH.kp0 rfl rfl rfl (by omega) (by omega) (by rw [or_byte, beN_succ hx]) ?_; clear hS; intro a hS
    refine r_assign hS hH.kp0 rfl rfl ?_; clear hS; intro a hS
    refine Sq.nil ?_
    refine blk_n ?_
    refine then_n ?_
    refine reg_plain w0 (Nobody) ?_
    first | refine r_add hS hH.kp0 rfl rfl rfl (by omega) ?_ | refine r_addw hS hH.kp0 rfl rfl rfl ?_
    clear hS; intro a hS
    refine r_move hS hH.kp0 rfl rfl ?_; clear hS; intro a hS
    refine Sq.nil ?_
    refine then_n ?_
    refine ⟨m - 1, by omega, k + 1, _, by omega, ?_, hS.live ⟨rfl, rfl, rfl, rfl, trivial⟩, hH⟩
    omega
  · have hge := of_decide_eq_false hc0
    have hk : k = l.length := by omega
    subst hk
    rw [List.take_of_length_le (Nat.le_refl _)] at hS
    refine wp_exit ?_
    refine then_e ?_
    refine then_e ?_
    refine blk_hit ?_
    refine then_n ?_
    refine c_seq ?_
    refine reg_plain w0 (Nobody) ?_
    refine r_move hS hH.kp0 rfl rfl ?_; clear hS; intro a hS
    refine r_assign hS hH.kp0 rfl rfl ?_; clear hS; intro a hS
    refine Sq.nil ?_
    refine then_n ?_
    refine wp_ret ?_
    exact leave (.inl rfl) hS rfl (Res.tmp rfl Res.nil) ⟨rfl, hH.mod⟩

set_option maxRecDepth 100000 in
set_option maxHeartbeats 400000 in
theorem Get_c (q : Option Addr) (qc : Nat) (l : List UInt8) (p n : Nat) (hp : p ≤ l.length) (hn : 1 ≤ n ∧ n ≤ 8) (hl : l.length ≤ 1099511627776) (w0 : World) (hb : Bs w0 (.slice q l.length qc) l) : Calls Tryd.prog 35 #[.slice q l.length qc, .int .i64 (p : Int), .int .i64 (n : Int)] w0 fun e w' => ∃ (x : Nat) (y z : Int), e = .returned (.tuple #[.int .u64 (x : Int), .int .i64 y, .int .i64 z]) ∧ GetR l p n x y z ∧ Ext w0 w' := by
  refine enter Tryd.func35 rfl rfl rfl ?_
  intro a hS
  have hH := Hp.start w0 (Nobody)
  refine c_seq ?_
  refine reg_plain w0 (Nobody) ?_
  refine r_assign hS hH.kp0 rfl rfl ?_; clear hS; intro a hS
  refine r_assign hS hH.kp0 rfl rfl ?_; clear hS; intro a hS
  refine r_assign hS hH.kp0 rfl rfl ?_; clear hS; intro a hS
  refine Sq.nil ?_
  refine then_n ?_
  refine c_seq ?_
  refine wp_block ?_
  refine c_seq ?_
  refine reg_plain w0 (Nobody) ?_
  refine r_move hS hH.kp0 rfl rfl ?_; clear hS; intro a hS
  refine r_lss hS hH.kp0 rfl rfl rfl ?_; clear hS; intro a hS
  refine r_move hS hH.kp0 rfl rfl ?_; clear hS; intro a hS
  refine Sq.guardYes hS rfl rfl (DF (by omega)) ?_
  refine r_move hS hH.kp0 rfl rfl ?_; clear hS; intro a hS
  refine Sq.guardYes hS rfl rfl (DF (by omega)) ?_
  refine r_gtr hS hH.kp0 rfl rfl rfl ?_; clear hS; intro a hS
  refine r_pickF hS hH.kp0 rfl (DF (by omega)) rfl rfl ?_; clear hS; intro a hS
  refine r_move hS hH.kp0 rfl rfl ?_; clear hS; intro a hS
  refine Sq.guardYes hS rfl rfl (DF (by omega)) ?_
  refine r_move hS hH.kp0 rfl rfl ?_; clear hS; intro a hS
  refine Sq.guardYes hS rfl rfl (DF (by omega)) ?_
  refine r_lss hS hH.kp0 rfl rfl rfl ?_; clear hS; intro a hS
  refine r_pickF hS hH.kp0 rfl (DF (by omega)) rfl rfl ?_; clear hS; intro a hS
  refine r_move hS hH.kp0 rfl rfl ?_; clear hS; intro a hS
  refine Sq.guardYes hS rfl rfl (DF (by omega)) ?_
  refine r_move hS hH.kp0 rfl rfl ?_; clear hS; intro a hS
  refine Sq.guardYes hS rfl rfl (DF (by omega)) ?_
  refine r_move hS hH.kp0 rfl rfl ?_; clear hS; intro a hS
  refine Sq.guardYes hS rfl rfl (DF (by omega)) ?_
  refine r_lenSl hS hH.kp0 rfl Fc.isSlice22 rfl ?_; clear hS; intro a hS
  refine Sq.guardYes hS rfl rfl (DF (by omega)) ?_
  refine r_gtr hS hH.kp0 rfl rfl rfl ?_; clear hS; intro a hS
  refine r_pickF hS hH.kp0 rfl (DF (by omega)) rfl rfl ?_; clear hS; intro a hS
  refine r_assign hS hH.kp0 rfl rfl ?_; clear hS; intro a hS
  refine Sq.nil ?_
  refine then_n ?_
  refine c_condF hS rfl (DF (by omega)) ?_
  refine c_seq ?_
  refine reg_plain w0 (Nobody) ?_
  refine r_move hS hH.kp0 rfl rfl ?_; clear hS; intro a hS
  refine r_lenSl hS hH.kp0 rfl Fc.isSlice22 rfl ?_; clear hS; intro a hS
  refine r_move hS hH.kp0 rfl rfl ?_; clear hS; intro a hS
  first | refine r_sub hS hH.kp0 rfl rfl rfl (by omega) ?_ | refine r_subw hS hH.kp0 rfl rfl rfl ?_
  clear hS; intro a hS
  refine r_move hS hH.kp0 rfl rfl ?_; clear hS; intro a hS
  refine r_lss hS hH.kp0 rfl rfl rfl ?_; clear hS; intro a hS
  refine r_assign hS hH.kp0 rfl rfl ?_; clear hS; intro a hS
  refine Sq.nil ?_
  refine then_n ?_
  refine c_cond hS rfl (fun hc1 => ?_) (fun hc1 => ?_)
  · have hlt := of_decide_eq_true hc1
    refine c_seq ?_
    refine reg_plain w0 (Nobody) ?_
    refine r_assign hS hH.kp0 rfl rfl ?_; clear hS; intro a hS
    refine r_assign hS hH.kp0 rfl rfl ?_; clear hS; intro a hS
    refine r_assign hS hH.kp0 rfl rfl ?_; clear hS; intro a hS
    refine Sq.nil ?_
    refine then_n ?_
    refine wp_ret ?_
    refine blk_r ?_
    refine then_r ?_
    exact leave (.inl rfl) hS rfl (Res.tmp rfl (Res.tmp rfl (Res.tmp rfl Res.nil))) ⟨0, 0, 10, rfl, .inr ⟨by omega, rfl⟩, hH.mod⟩
  · have hge := of_decide_eq_false hc1
    have hpn : p + n ≤ l.length := by omega
    have hfl := (hb.f).len
    obtain ⟨ba, bo, hq⟩ := hb.f.addr (by omega)
    subst hq
    refine wp_skip ?_
    refine blk_n ?_
    refine then_n ?_
    refine c_seq ?_
    refine reg_plain w0 (Nobody) ?_
    refine r_move hS hH.kp0 rfl rfl ?_; clear hS; intro a hS
    refine r_move hS hH.kp0 rfl rfl ?_; clear hS; intro a hS
    refine r_move hS hH.kp0 rfl rfl ?_; clear hS; intro a hS
    refine r_move hS hH.kp0 rfl rfl ?_; clear hS; intro a hS
    first | refine r_add hS hH.kp0 rfl rfl rfl (by omega) ?_ | refine r_addw hS hH.kp0 rfl rfl rfl ?_
    clear hS; intro a hS
    refine r_slLoHi (ll := p) (hh := p + n) hS hH.kp0 rfl rfl rfl Fc.slb22 rfl (by omega) (by omega) (by omega) rfl ?_; clear hS; intro a hS
    refine r_call (l := [.tmp 38]) hS rfl rfl Fc.fn51 rfl ?_
    refine Calls.mono (read_c _ ((l.drop p).take n) (by simp; omega) _ (by have h := (hb.ext hH.mod).f.part (ll := p) (hh := p + n) (by omega) hpn; rw [Nat.add_sub_cancel_left] at h; rw [Nat.add_sub_cancel_left]; exact h.bs)) ?_
    rintro e w1 ⟨rfl, hE⟩
    replace hH := hH.ext hE
    refine ⟨_, rfl, hH.kp0, ?_⟩
    clear hS; intro a hS
    refine r_move hS hH.kp0 rfl rfl ?_; clear hS; intro a hS
    refine r_move hS hH.kp0 rfl rfl ?_; clear hS; intro a hS
    first | refine r_add hS hH.kp0 rfl rfl rfl (by omega) ?_ | refine r_addw hS hH.kp0 rfl rfl rfl ?_
    clear hS; intro a hS
    refine r_assign hS hH.kp0 rfl rfl ?_; clear hS; intro a hS
    refine r_assign hS hH.kp0 rfl rfl ?_; clear hS; intro a hS
    refine r_assign hS hH.kp0 rfl rfl ?_; clear hS; intro a hS
    refine Sq.nil ?_
    refine then_n ?_
    refine wp_ret ?_
    exact leave (.inl rfl) hS rfl (Res.tmp rfl (Res.tmp rfl (Res.tmp rfl Res.nil))) ⟨_, _, _, rfl, .inl ⟨hpn, rfl, by omega, rfl⟩, hH.mod⟩

set_option maxRecDepth 100000 in
set_option maxHeartbeats 400000 in
theorem ok_c (cb : Nat) (v : Value) (p bad e : Int) (is : Bool) (pp : Nat) (hpp : p = pp) (w0 : World) (h : w0.heap[cb]? = some (.cells [v, .int .i64 p, .int .i64 bad].toArray 50 (0, 0))) : Calls Tryd.prog 19 #[.pointer (some ⟨cb, 0, none⟩), .bool is, .int .i64 e] w0 fun e' w' => e' = .returned (.bool (decide ((okC ⟨pp, bad⟩ is e).bad = 0))) ∧ w'.heap[cb]? = some (.cells [v, .int .i64 p, .int .i64 (okC ⟨pp, bad⟩ is e).bad].toArray 50 (0, 0)) ∧ Mod (· = cb) w0 w' := by
  refine enter Tryd.func19 rfl rfl rfl ?_
  intro a hS
  have hH := Hp.start w0 (fun x => x = cb)
  replace hH := hH.know h (fun p hp => by simp at hp)
  refine c_seq ?_
  refine reg_plain w0 (fun x => x = cb) ?_
  refine r_assign hS hH.kp0 rfl rfl ?_; clear hS; intro a hS
  refine Sq.nil ?_
  refine then_n ?_
  refine c_seq ?_
  refine c_seq ?_
  refine reg_plain w0 (fun x => x = cb) ?_
  refine r_move hS hH.kp0 rfl rfl ?_; clear hS; intro a hS
  refine r_nilCheck hS hH.kp0 rfl rfl ?_; clear hS; intro a hS
  refine r_fieldAddr hS hH.kp0 rfl Fc.fo50_2 rfl ?_; clear hS; intro a hS
  refine r_load_sc hS hH (by repeat (first | exact Sub.nil | refine Sub.cons ?_ ?_ | exact In.here | refine In.there ?_)) rfl (by repeat (first | exact In.here | refine In.there ?_)) Fc.sc27 (by rfl) rfl ?_; clear hS; intro a hS
  refine r_eql hS hH.kp0 rfl rfl rfl ?_; clear hS; intro a hS
  by_cases hb0 : bad = 0
  · refine r_move hS hH.kp0 rfl rfl ?_; clear hS; intro a hS
    refine Sq.guardYes hS rfl rfl (DT hb0) ?_
    refine r_move hS hH.kp0 rfl rfl ?_; clear hS; intro a hS
    refine Sq.guardYes hS rfl rfl (DT hb0) ?_
    refine r_not hS hH.kp0 rfl rfl ?_; clear hS; intro a hS
    refine r_pickT hS hH.kp0 rfl (DT hb0) rfl rfl ?_; clear hS; intro a hS
    refine Sq.nil ?_
    refine then_n ?_
    refine c_cond hS rfl (fun hc0 => ?_) (fun hc0 => ?_)
    · have his : is = false := by cases is; rfl; cases hc0
      refine reg_plain w0 (fun x => x = cb) ?_
      refine r_move hS hH.kp0 rfl rfl ?_; clear hS; intro a hS
      refine r_move hS hH.kp0 rfl rfl ?_; clear hS; intro a hS
      refine r_nilCheck hS hH.kp0 rfl rfl ?_; clear hS; intro a hS
      refine r_fieldAddr hS hH.kp0 rfl Fc.fo50_2 rfl ?_; clear hS; intro a hS
      refine r_store1 hS hH rfl rfl rfl (by first | exact .here | exact .there .here | exact .there (.there .here) | exact .there (.there (.there .here)) | exact .there (.there (.there (.there .here))) | exact .there (.there (.there (.there (.there .here)))) | exact .there (.there (.there (.there (.there (.there .here))))) | exact .there (.there (.there (.there (.there (.there (.there .here)))))) | exact .there (.there (.there (.there (.there (.there (.there (.there .here))))))) | exact .there (.there (.there (.there (.there (.there (.there (.there (.there .here)))))))) | exact .there (.there (.there (.there (.there (.there (.there (.there (.there (.there .here))))))))) | exact .there (.there (.there (.there (.there (.there (.there (.there (.there (.there (.there .here)))))))))) | exact .there (.there (.there (.there (.there (.there (.there (.there (.there (.there (.there (.there .here))))))))))) | exact .there (.there (.there (.there (.there (.there (.there (.there (.there (.there (.there (.there (.there .here)))))))))))) | exact .there (.there (.there (.there (.there (.there (.there (.there (.there (.there (.there (.there (.there (.there .here))))))))))))) | exact .there (.there (.there (.there (.there (.there (.there (.there (.there (.there (.there (.there (.there (.there (.there .here))))))))))))))) (by repeat (first | exact Sub.nil | refine Sub.cons ?_ ?_ | exact In.here | refine In.there ?_)) Fc.sz27 (of_decide_eq_true rfl) (.inl rfl) ?_
      clear hH; intro w hH
      refine Sq.nil ?_
      refine then_n ?_
      refine c_seq ?_
      refine reg_plain w0 (fun x => x = cb) ?_
      refine r_move hS hH.kp0 rfl rfl ?_; clear hS; intro a hS
      refine r_nilCheck hS hH.kp0 rfl rfl ?_; clear hS; intro a hS
      refine r_fieldAddr hS hH.kp0 rfl Fc.fo50_2 rfl ?_; clear hS; intro a hS
      refine r_load_sc hS hH (by repeat (first | exact Sub.nil | refine Sub.cons ?_ ?_ | exact In.here | refine In.there ?_)) rfl (by repeat (first | exact In.here | refine In.there ?_)) Fc.sc27 (by rfl) rfl ?_; clear hS; intro a hS
      refine r_eql hS hH.kp0 rfl rfl rfl ?_; clear hS; intro a hS
      refine r_assign hS hH.kp0 rfl rfl ?_; clear hS; intro a hS
      refine Sq.nil ?_
      refine then_n ?_
      refine wp_ret ?_
      subst his
      rw [okC_no hb0 rfl]
      exact leave (.inl rfl) hS rfl (Res.tmp rfl Res.nil) ⟨rfl, hH.get (by repeat (first | exact In.here | refine In.there ?_)), hH.mod⟩
    · have his : is = true := by cases is; cases hc0; rfl
      refine wp_skip ?_
      refine then_n ?_
      refine c_seq ?_
      refine reg_plain w0 (fun x => x = cb) ?_
      refine r_move hS hH.kp0 rfl rfl ?_; clear hS; intro a hS
      refine r_nilCheck hS hH.kp0 rfl rfl ?_; clear hS; intro a hS
      refine r_fieldAddr hS hH.kp0 rfl Fc.fo50_2 rfl ?_; clear hS; intro a hS
      refine r_load_sc hS hH (by repeat (first | exact Sub.nil | refine Sub.cons ?_ ?_ | exact In.here | refine In.there ?_)) rfl (by repeat (first | exact In.here | refine In.there ?_)) Fc.sc27 (by rfl) rfl ?_; clear hS; intro a hS
      refine r_eql hS hH.kp0 rfl rfl rfl ?_; clear hS; intro a hS
      refine r_assign hS hH.kp0 rfl rfl ?_; clear hS; intro a hS
      refine Sq.nil ?_
      refine then_n ?_
      refine wp_ret ?_
      subst his
      rw [okC_yes (.inr rfl)]
      exact leave (.inl rfl) hS rfl (Res.tmp rfl Res.nil) ⟨rfl, hH.get (by repeat (first | exact In.here | refine In.there ?_)), hH.mod⟩
  · refine r_move hS hH.kp0 rfl rfl ?_; clear hS; intro a hS
    refine Sq.guardNo hS rfl rfl (DF hb0) hH.kp0 rfl ?_; clear hS; intro a hS
    refine Sq.guardNo hS rfl rfl (DF hb0) hH.kp0 rfl ?_; clear hS; intro a hS
    refine r_pickF hS hH.kp0 rfl (DF hb0) rfl rfl ?_; clear hS; intro a hS
    refine Sq.nil ?_
    refine then_n ?_
    refine c_condF hS rfl rfl ?_
    refine wp_skip ?_
    refine then_n ?_
    refine c_seq ?_
    refine reg_plain w0 (fun x => x = cb) ?_
    refine r_move hS hH.kp0 rfl rfl ?_; clear hS; intro a hS
    refine r_nilCheck hS hH.kp0 rfl rfl ?_; clear hS; intro a hS
    refine r_fieldAddr hS hH.kp0 rfl Fc.fo50_2 rfl ?_; clear hS; intro a hS
    refine r_load_sc hS hH (by repeat (first | exact Sub.nil | refine Sub.cons ?_ ?_ | exact In.here | refine In.there ?_)) rfl (by repeat (first | exact In.here | refine In.there ?_)) Fc.sc27 (by rfl) rfl ?_; clear hS; intro a hS
    refine r_eql hS hH.kp0 rfl rfl rfl ?_; clear hS; intro a hS
    refine r_assign hS hH.kp0 rfl rfl ?_; clear hS; intro a hS
    refine Sq.nil ?_
    refine then_n ?_
    refine wp_ret ?_
    rw [okC_yes (.inl hb0)]
    exact leave (.inl rfl) hS rfl (Res.tmp rfl Res.nil) ⟨rfl, hH.get (by repeat (first | exact In.here | refine In.there ?_)), hH.mod⟩

set_option maxRecDepth 100000 in
set_option maxHeartbeats 400000 in
theorem left_c (cb p qc : Nat) (q : Option Addr) (l : List UInt8) (bad : Int) (hl : l.length ≤ 1099511627776) (hp : p ≤ l.length) (w0 : World) (h : w0.heap[cb]? = some (.cells [.slice q l.length qc, .int .i64 (p : Int), .int .i64 bad].toArray 50 (0, 0))) : Calls Tryd.prog 36 #[.pointer (some ⟨cb, 0, none⟩)] w0 fun e w' => e = .returned (.int .i64 ((l.length : Int) - (p : Int))) ∧ Ext w0 w' := by
  refine enter Tryd.func36 rfl rfl rfl ?_
  intro a hS
  have hH := Hp.start w0 (Nobody)
  replace hH := hH.know h (fun p hp => by simp at hp)
  refine c_seq ?_
  refine reg_plain w0 (Nobody) ?_
  refine r_assign hS hH.kp0 rfl rfl ?_; clear hS; intro a hS
  refine Sq.nil ?_
  refine then_n ?_
  refine c_seq ?_
  refine reg_draw [(true, 0, []), (true, 1, []), (true, 2, []), (true, 3, []), (true, 4, []), (true, 5, []), (true, 6, []), (true, 7, []), (true, 8, []), (true, 9, []), (true, 10, [])] Fc.mixed (by kernel_rfl) (by kernel_rfl) (by kernel_rfl) (by kernel_rfl) (by kernel_rfl) (by repeat (first | with_reducible exact steady_body | with_reducible apply steady_block | with_reducible apply steady_then | with_reducible apply steady_scope | exact steady_body)) hH ?_
  replace hH := hH.drew
  refine r_move hS trivial rfl rfl ?_; clear hS; intro a hS
  refine r_nilCheck hS trivial rfl rfl ?_; clear hS; intro a hS
  refine r_fieldAddr hS trivial rfl Fc.fo50_0 rfl ?_; clear hS; intro a hS
  refine r_load_scS hS rfl (by repeat (first | exact In.here | refine In.there ?_)) Fc.sc22 (by rfl) rfl ?_; clear hS; intro a hS
  refine r_lenSl hS trivial rfl Fc.isSlice22 rfl ?_; clear hS; intro a hS
  refine r_move hS trivial rfl rfl ?_; clear hS; intro a hS
  refine r_nilCheck hS trivial rfl rfl ?_; clear hS; intro a hS
  refine r_fieldAddr hS trivial rfl Fc.fo50_1 rfl ?_; clear hS; intro a hS
  refine r_load_scS hS rfl (by repeat (first | exact In.here | refine In.there ?_)) Fc.sc3 (by rfl) rfl ?_; clear hS; intro a hS
  first | refine r_sub hS trivial rfl rfl rfl (by omega) ?_ | refine r_subw hS trivial rfl rfl rfl ?_
  clear hS; intro a hS
  refine r_assign hS trivial rfl rfl ?_; clear hS; intro a hS
  refine Sq.nil ?_
  refine then_n ?_
  refine wp_ret ?_
  exact leave (.inl rfl) hS rfl (Res.tmp rfl Res.nil) ⟨rfl, hH.mod⟩

set_option maxRecDepth 100000 in
set_option maxHeartbeats 400000 in
theorem number_c (cb p qc : Nat) (q : Option Addr) (l : List UInt8) (bad : Int) (n : Nat) (hp : p ≤ l.length) (hl : l.length ≤ 1099511627776) (hn : 1 ≤ n ∧ n ≤ 4) (w0 : World) (h : w0.heap[cb]? = some (.cells [.slice q l.length qc, .int .i64 (p : Int), .int .i64 bad].toArray 50 (0, 0))) (hb : BsF (· = cb) w0 (.slice q l.length qc) l) : Calls Tryd.prog 18 #[.pointer (some ⟨cb, 0, none⟩), .int .i64 (n : Int)] w0 fun e w' => e = .returned (.int .i64 ((numC l n ⟨p, bad⟩).1 : Int)) ∧ w'.heap[cb]? = some (.cells [.slice q l.length qc, .int .i64 ((numC l n ⟨p, bad⟩).2.p : Int), .int .i64 (numC l n ⟨p, bad⟩).2.bad].toArray 50 (0, 0)) ∧ Mod (· = cb) w0 w' := by
  refine enter Tryd.func18 rfl rfl rfl ?_
  intro a hS
  have hH := Hp.start w0 (fun x => x = cb)
  replace hH := hH.know h (fun p hp => by simp at hp)
  refine c_seq ?_
  refine reg_plain w0 (fun x => x = cb) ?_
  refine r_assign hS hH.kp0 rfl rfl ?_; clear hS; intro a hS
  refine Sq.nil ?_
  refine then_n ?_
  refine c_seq ?_
  refine reg_draw [(true, 0, []), (true, 1, []), (true, 2, []), (true, 3, []), (true, 4, []), (true, 5, []), (true, 6, []), (true, 7, []), (true, 8, []), (false, 9, []), (true, 10, []), (true, 11, []), (true, 12, []), (true, 13, []), (true, 14, []), (true, 15, []), (true, 16, [])] Fc.mixed (by kernel_rfl) (by kernel_rfl) (by kernel_rfl) (by kernel_rfl) (by kernel_rfl) (by repeat (first | with_reducible exact steady_body | with_reducible apply steady_block | with_reducible apply steady_then | with_reducible apply steady_scope | exact steady_body)) hH ?_
  replace hH := hH.drew
  refine r_move hS trivial rfl rfl ?_; clear hS; intro a hS
  refine r_nilCheck hS trivial rfl rfl ?_; clear hS; intro a hS
  refine r_fieldAddr hS trivial rfl Fc.fo50_0 rfl ?_; clear hS; intro a hS
  refine r_load_scS hS rfl (by repeat (first | exact In.here | refine In.there ?_)) Fc.sc22 (by rfl) rfl ?_; clear hS; intro a hS
  refine r_move hS trivial rfl rfl ?_; clear hS; intro a hS
  refine r_nilCheck hS trivial rfl rfl ?_; clear hS; intro a hS
  refine r_fieldAddr hS trivial rfl Fc.fo50_1 rfl ?_; clear hS; intro a hS
  refine r_load_scS hS rfl (by repeat (first | exact In.here | refine In.there ?_)) Fc.sc3 (by rfl) rfl ?_; clear hS; intro a hS
  refine r_move hS trivial rfl rfl ?_; clear hS; intro a hS
  refine r_call (l := [.tmp 12, .tmp 16, .tmp 17]) hS rfl rfl Fc.fn35 rfl ?_
  refine Calls.mono (Get_c q qc l p n hp (by omega) hl _ (hb _ hH.mod)) ?_
  rintro e w1 ⟨x, y, z, rfl, hg, hE⟩
  replace hH := hH.ext hE
  refine ⟨_, rfl, hH.kp (by repeat (first | exact Sub.nil | refine Sub.cons ?_ ?_ | exact In.here | refine In.there ?_)), ?_⟩
  clear hS; intro a hS
  refine r_move hS trivial rfl rfl ?_; clear hS; intro a hS
  refine r_extract hS trivial rfl rfl rfl ?_; clear hS; intro a hS
  refine r_extract hS trivial rfl rfl rfl ?_; clear hS; intro a hS
  refine r_extract hS trivial rfl rfl rfl ?_; clear hS; intro a hS
  refine r_assign hS trivial rfl rfl ?_; clear hS; intro a hS
  refine r_assign hS trivial rfl rfl ?_; clear hS; intro a hS
  refine r_assign hS trivial rfl rfl ?_; clear hS; intro a hS
  refine Sq.nil ?_
  refine then_n ?_
  refine c_seq ?_
  refine c_seq ?_
  refine reg_plain w0 (fun x => x = cb) ?_
  refine r_move hS hH.kp0 rfl rfl ?_; clear hS; intro a hS
  refine r_move hS hH.kp0 rfl rfl ?_; clear hS; intro a hS
  refine r_eql hS hH.kp0 rfl rfl rfl ?_; clear hS; intro a hS
  refine r_call (l := [.tmp 22, .tmp 24, .const (.int .i64 10)]) hS rfl rfl Fc.fn19 rfl ?_
  refine Calls.mono (ok_c cb _ _ bad 10 (decide (z = 0)) p rfl _ (hH.get (by repeat (first | exact In.here | refine In.there ?_)))) ?_
  rintro e w1 ⟨rfl, hcb2, hm2⟩
  replace hH := hH.modPut hm2 hcb2 (by first | exact .here | exact .there .here | exact .there (.there .here) | exact .there (.there (.there .here)) | exact .there (.there (.there (.there .here))) | exact .there (.there (.there (.there (.there .here)))) | exact .there (.there (.there (.there (.there (.there .here))))) | exact .there (.there (.there (.there (.there (.there (.there .here)))))) | exact .there (.there (.there (.there (.there (.there (.there (.there .here))))))) | exact .there (.there (.there (.there (.there (.there (.there (.there (.there .here)))))))) | exact .there (.there (.there (.there (.there (.there (.there (.there (.there (.there .here))))))))) | exact .there (.there (.there (.there (.there (.there (.there (.there (.there (.there (.there .here)))))))))) | exact .there (.there (.there (.there (.there (.there (.there (.there (.there (.there (.there (.there .here))))))))))) | exact .there (.there (.there (.there (.there (.there (.there (.there (.there (.there (.there (.there (.there .here)))))))))))) | exact .there (.there (.there (.there (.there (.there (.there (.there (.there (.there (.there (.there (.there (.there .here))))))))))))) | exact .there (.there (.there (.there (.there (.there (.there (.there (.there (.there (.there (.there (.there (.there (.there .here))))))))))))))) (.inl rfl)
  refine ⟨_, rfl, hH.kp0, ?_⟩
  clear hS; intro a hS
  refine r_not hS hH.kp0 rfl rfl ?_; clear hS; intro a hS
  refine Sq.nil ?_
  refine then_n ?_
  refine c_cond hS rfl (fun hc0 => ?_) (fun hc0 => ?_)
  · refine c_seq ?_
    refine reg_plain w0 (fun x => x = cb) ?_
    refine r_assign hS hH.kp0 rfl rfl ?_; clear hS; intro a hS
    refine Sq.nil ?_
    refine then_n ?_
    refine wp_ret ?_
    refine then_r ?_
    rw [num_no hg hc0]
    exact leave (.inl rfl) hS rfl (Res.tmp rfl Res.nil) ⟨rfl, hH.get (by repeat (first | exact In.here | refine In.there ?_)), hH.mod⟩
  · obtain ⟨hbad, hy, hpn, hx, hok, hnum⟩ := num_yes hg hc0
    have hxl : x < 9223372036854775808 := by rw [hx]; have := beN_bound (l := l.drop p) (k := n) (by simp; omega) (by omega); omega
    refine wp_skip ?_
    refine then_n ?_
    refine c_seq ?_
    refine reg_plain w0 (fun x => x = cb) ?_
    refine r_move hS hH.kp0 rfl rfl ?_; clear hS; intro a hS
    refine r_move hS hH.kp0 rfl rfl ?_; clear hS; intro a hS
    refine r_nilCheck hS hH.kp0 rfl rfl ?_; clear hS; intro a hS
    refine r_fieldAddr hS hH.kp0 rfl Fc.fo50_1 rfl ?_; clear hS; intro a hS
    refine r_store1 hS hH rfl rfl rfl (by first | exact .here | exact .there .here | exact .there (.there .here) | exact .there (.there (.there .here)) | exact .there (.there (.there (.there .here))) | exact .there (.there (.there (.there (.there .here)))) | exact .there (.there (.there (.there (.there (.there .here))))) | exact .there (.there (.there (.there (.there (.there (.there .here)))))) | exact .there (.there (.there (.there (.there (.there (.there (.there .here))))))) | exact .there (.there (.there (.there (.there (.there (.there (.there (.there .here)))))))) | exact .there (.there (.there (.there (.there (.there (.there (.there (.there (.there .here))))))))) | exact .there (.there (.there (.there (.there (.there (.there (.there (.there (.there (.there .here)))))))))) | exact .there (.there (.there (.there (.there (.there (.there (.there (.there (.there (.there (.there .here))))))))))) | exact .there (.there (.there (.there (.there (.there (.there (.there (.there (.there (.there (.there (.there .here)))))))))))) | exact .there (.there (.there (.there (.there (.there (.there (.there (.there (.there (.there (.there (.there (.there .here))))))))))))) | exact .there (.there (.there (.there (.there (.there (.there (.there (.there (.there (.there (.there (.there (.there (.there .here))))))))))))))) (by repeat (first | exact Sub.nil | refine Sub.cons ?_ ?_ | exact In.here | refine In.there ?_)) Fc.sz3 (of_decide_eq_true rfl) (.inl rfl) ?_
    clear hH; intro w hH
    refine Sq.nil ?_
    refine then_n ?_
    refine c_seq ?_
    refine reg_plain w0 (fun x => x = cb) ?_
    refine r_move hS hH.kp0 rfl rfl ?_; clear hS; intro a hS
    refine r_toI64 x hS hH.kp0 rfl Fc.ui3 Fc.us36 rfl rfl hxl ?_; clear hS; intro a hS
    refine r_assign hS hH.kp0 rfl rfl ?_; clear hS; intro a hS
    refine Sq.nil ?_
    refine then_n ?_
    refine wp_ret ?_
    rw [hnum]
    subst hy
    rw [hok] at hH
    exact leave (.inl rfl) hS rfl (Res.tmp rfl Res.nil) ⟨rfl, hH.get (by repeat (first | exact In.here | refine In.there ?_)), hH.mod⟩

set_option maxRecDepth 100000 in
set_option maxHeartbeats 400000 in
theorem clone_c (q : Addr) (qc : Nat) (l : List UInt8) (hl : l.length ≤ 1099511627776) (w0 : World) (hb : Bs w0 (.slice (some q) l.length qc) l) : Calls Tryd.prog 23 #[.slice (some q) l.length qc] w0 fun e w' => ∃ (cb cap : Nat) (l2 : List Value), e = .returned (.slice (some ⟨cb, 0, none⟩) l.length cap) ∧ w0.heap.size ≤ cb ∧ w'.heap[cb]? = some (.cells l2.toArray 5 (0, 0)) ∧ l.length ≤ cap ∧ l2.length = cap ∧ l2.take l.length = l.map byteV ∧ Ext w0 w' := by
  refine enter Tryd.func23 rfl rfl rfl ?_
  intro a hS
  have hH := Hp.start w0 (Nobody)
  refine c_seq ?_
  refine reg_plain w0 (Nobody) ?_
  refine r_assign hS hH.kp0 rfl rfl ?_; clear hS; intro a hS
  refine Sq.nil ?_
  refine then_n ?_
  refine c_seq ?_
  refine c_seq ?_
  refine reg_plain w0 (Nobody) ?_
  refine r_move hS hH.kp0 rfl rfl ?_; clear hS; intro a hS
  refine r_slNil hS hH.kp0 rfl Fc.isSlice22 rfl ?_; clear hS; intro a hS
  refine Sq.nil ?_
  refine then_n ?_
  refine c_condF hS rfl rfl ?_
  refine wp_skip ?_
  refine then_n ?_
  refine c_seq ?_
  refine reg_plain w0 (Nobody) ?_
  refine r_buildSlice0 hS hH (by repeat (first | exact Sub.nil | refine Sub.cons ?_ ?_ | exact In.here | refine In.there ?_)) Fc.uls22 Fc.inf5 rfl ?_
  clear hS hH; intro a w b5 hb5 hwb5 hS hH
  refine r_move hS hH.kp0 rfl rfl ?_; clear hS; intro a hS
  refine r_append_own hS hH rfl rfl (by first | exact .here | exact .there .here | exact .there (.there .here) | exact .there (.there (.there .here)) | exact .there (.there (.there (.there .here))) | exact .there (.there (.there (.there (.there .here)))) | exact .there (.there (.there (.there (.there (.there .here))))) | exact .there (.there (.there (.there (.there (.there (.there .here)))))) | exact .there (.there (.there (.there (.there (.there (.there (.there .here))))))) | exact .there (.there (.there (.there (.there (.there (.there (.there (.there .here)))))))) | exact .there (.there (.there (.there (.there (.there (.there (.there (.there (.there .here))))))))) | exact .there (.there (.there (.there (.there (.there (.there (.there (.there (.there (.there .here)))))))))) | exact .there (.there (.there (.there (.there (.there (.there (.there (.there (.there (.there (.there .here))))))))))) | exact .there (.there (.there (.there (.there (.there (.there (.there (.there (.there (.there (.there (.there .here)))))))))))) | exact .there (.there (.there (.there (.there (.there (.there (.there (.there (.there (.there (.there (.there (.there .here))))))))))))) | exact .there (.there (.there (.there (.there (.there (.there (.there (.there (.there (.there (.there (.there (.there (.there .here))))))))))))))) (by repeat (first | exact Sub.nil | refine Sub.cons ?_ ?_ | exact In.here | refine In.there ?_)) Fc.el22 Fc.ni22 rfl (Nat.le_refl _) (hb.ext hH.mod).src (by omega) (.inr hb5) rfl ?_
  clear hS hH; intro a w ob cap1 l1 hob hl1 hc1_ htk1 _ hS hH
  refine r_assign hS hH.kp0 rfl rfl ?_; clear hS; intro a hS
  refine Sq.nil ?_
  refine then_n ?_
  refine wp_ret ?_
  rw [Nat.zero_add] at hS hc1_ htk1
  refine leave (.inl rfl) hS rfl (Res.tmp rfl Res.nil) ⟨ob, cap1, l1, rfl, ?_, hH.get .here, hc1_, by omega, ?_, hH.mod⟩
  · rcases hob with h | h; exact h.elim; exact h
  · rw [Nat.mul_one] at htk1; rw [htk1]; simp

set_option maxRecDepth 100000 in
set_option maxHeartbeats 400000 in
theorem clone_nil (w0 : World) : Calls Tryd.prog 23 #[.slice none 0 0] w0 fun e w' => e = .returned (.slice none 0 0) ∧ Ext w0 w' := by
  refine enter Tryd.func23 rfl rfl rfl ?_
  intro a hS
  have hH := Hp.start w0 (Nobody)
  refine c_seq ?_
  refine reg_plain w0 (Nobody) ?_
  refine r_assign hS hH.kp0 rfl rfl ?_; clear hS; intro a hS
  refine Sq.nil ?_
  refine then_n ?_
  refine c_seq ?_
  refine c_seq ?_
  refine reg_plain w0 (Nobody) ?_
  refine r_move hS hH.kp0 rfl rfl ?_; clear hS; intro a hS
  refine r_slNil hS hH.kp0 rfl Fc.isSlice22 rfl ?_; clear hS; intro a hS
  refine Sq.nil ?_
  refine then_n ?_
  refine c_condT hS rfl rfl ?_
  refine c_seq ?_
  refine reg_plain w0 (Nobody) ?_
  refine r_assign hS hH.kp0 rfl rfl ?_; clear hS; intro a hS
  refine Sq.nil ?_
  refine then_n ?_
  refine wp_ret ?_
  refine then_r ?_
  exact leave (.inl rfl) hS rfl (Res.tmp rfl Res.nil) ⟨rfl, hH.mod⟩


theorem clone_bs (q : Addr) (m qc : Nat) (l : List UInt8) (hl : l.length ≤ 1099511627776) (w0 : World) (hb : Bs w0 (.slice (some q) m qc) l) : Calls Tryd.prog 23 #[.slice (some q) m qc] w0 fun e w' => ∃ r, e = .returned r ∧ BsF (· < w0.heap.size) w' r l ∧ Ext w0 w' := by
  obtain ⟨rfl, _⟩ := hb.f.len
  refine (clone_c q qc l hl w0 hb).mono fun e w' ⟨cb, cap, l2, h1, h2, h3, h4, h5, h6, h7⟩ => ⟨_, h1, ?_, h7⟩
  exact BsF.row h3 (by omega) (by omega) h4 (by rw [Nat.mul_one]; exact h6) rfl

set_option maxRecDepth 100000 in
set_option maxHeartbeats 1000000 in
theorem bytes_c (cb p qc : Nat) (q : Option Addr) (l : List UInt8) (bad : Int) (n : Nat) (nn : Int) (hnn : nn = n) (hp : p ≤ l.length) (hl : l.length ≤ 1099511627776) (h1 : 0 < l.length) (hn : n ≤ 1099511627776) (w0 : World) (h : w0.heap[cb]? = some (.cells [.slice q l.length qc, .int .i64 (p : Int), .int .i64 bad].toArray 50 (0, 0))) (hb : BsF (· = cb) w0 (.slice q l.length qc) l) : Calls Tryd.prog 20 #[.pointer (some ⟨cb, 0, none⟩), .int .i64 nn] w0 fun e w' => ∃ r, e = .returned r ∧ GotB w0.heap.size 5 w' r (bytesC l n ⟨p, bad⟩).1 (bytesC l n ⟨p, bad⟩).2 ∧ w'.heap[cb]? = some (.cells [.slice q l.length qc, .int .i64 ((bytesC l n ⟨p, bad⟩).2.p : Int), .int .i64 (bytesC l n ⟨p, bad⟩).2.bad].toArray 50 (0, 0)) ∧ Mod (· = cb) w0 w' := by
  refine enter Tryd.func20 rfl rfl rfl ?_
  intro a hS
  have hH := Hp.start w0 (fun x => x = cb)
  subst hnn
  replace hH := hH.know h (fun p hp => by simp at hp)
  refine c_seq ?_
  refine reg_plain w0 (fun x => x = cb) ?_
  refine r_assign hS hH.kp0 rfl rfl ?_; clear hS; intro a hS
  refine Sq.nil ?_
  refine then_n ?_
  refine c_seq ?_
  refine c_seq ?_
  refine reg_draw [(true, 0, [0]), (true, 1, [0]), (true, 2, [0]), (true, 3, [0]), (true, 4, []), (true, 5, [0]), (true, 6, [0]), (true, 7, [0]), (true, 8, [0]), (true, 9, []), (true, 10, [0]), (true, 11, [0]), (true, 12, [0]), (false, 13, [0]), (true, 14, [0])] Fc.mixed (by kernel_rfl) (by kernel_rfl) (by kernel_rfl) (by kernel_rfl) (by kernel_rfl) (by repeat (first | with_reducible exact steady_body | with_reducible apply steady_block | with_reducible apply steady_then | with_reducible apply steady_scope | exact steady_body)) hH ?_
  replace hH := hH.drew
  refine r_move hS trivial rfl rfl ?_; clear hS; intro a hS
  refine r_move hS trivial rfl rfl ?_; clear hS; intro a hS
  refine r_nilCheck hS trivial rfl rfl ?_; clear hS; intro a hS
  refine r_fieldAddr hS trivial rfl Fc.fo50_0 rfl ?_; clear hS; intro a hS
  refine r_load_scS hS rfl (by repeat (first | exact In.here | refine In.there ?_)) Fc.sc22 (by rfl) rfl ?_; clear hS; intro a hS
  refine r_lenSl hS trivial rfl Fc.isSlice22 rfl ?_; clear hS; intro a hS
  refine r_move hS trivial rfl rfl ?_; clear hS; intro a hS
  refine r_nilCheck hS trivial rfl rfl ?_; clear hS; intro a hS
  refine r_fieldAddr hS trivial rfl Fc.fo50_1 rfl ?_; clear hS; intro a hS
  refine r_load_scS hS rfl (by repeat (first | exact In.here | refine In.there ?_)) Fc.sc3 (by rfl) rfl ?_; clear hS; intro a hS
  first | refine r_sub hS trivial rfl rfl rfl (by omega) ?_ | refine r_subw hS trivial rfl rfl rfl ?_
  clear hS; intro a hS
  refine r_move hS trivial rfl rfl ?_; clear hS; intro a hS
  refine r_geq hS trivial rfl rfl rfl ?_; clear hS; intro a hS
  refine r_call (l := [.tmp 5, .tmp 17, .const (.int .i64 10)]) hS rfl rfl Fc.fn19 rfl ?_
  refine Calls.mono (ok_c cb _ _ bad 10 (decide ((l.length : Int) - (p : Int) ≥ (n : Int))) p rfl _ (hH.get (by repeat (first | exact In.here | refine In.there ?_)))) ?_
  rintro e w1 ⟨rfl, hcb2, hm2⟩
  replace hH := hH.modPut hm2 hcb2 (by first | exact .here | exact .there .here | exact .there (.there .here) | exact .there (.there (.there .here)) | exact .there (.there (.there (.there .here))) | exact .there (.there (.there (.there (.there .here)))) | exact .there (.there (.there (.there (.there (.there .here))))) | exact .there (.there (.there (.there (.there (.there (.there .here)))))) | exact .there (.there (.there (.there (.there (.there (.there (.there .here))))))) | exact .there (.there (.there (.there (.there (.there (.there (.there (.there .here)))))))) | exact .there (.there (.there (.there (.there (.there (.there (.there (.there (.there .here))))))))) | exact .there (.there (.there (.there (.there (.there (.there (.there (.there (.there (.there .here)))))))))) | exact .there (.there (.there (.there (.there (.there (.there (.there (.there (.there (.there (.there .here))))))))))) | exact .there (.there (.there (.there (.there (.there (.there (.there (.there (.there (.there (.there (.there .here)))))))))))) | exact .there (.there (.there (.there (.there (.there (.there (.there (.there (.there (.there (.there (.there (.there .here))))))))))))) | exact .there (.there (.there (.there (.there (.there (.there (.there (.there (.there (.there (.there (.there (.there (.there .here))))))))))))))) (.inl rfl)
  refine ⟨_, rfl, hH.kp (by repeat (first | exact Sub.nil | refine Sub.cons ?_ ?_ | exact In.here | refine In.there ?_)), ?_⟩
  clear hS; intro a hS
  refine r_not hS trivial rfl rfl ?_; clear hS; intro a hS
  refine Sq.nil ?_
  refine then_n ?_
  refine c_cond hS rfl (fun hc0 => ?_) (fun hc0 => ?_)
  · refine c_seq ?_
    refine reg_plain w0 (fun x => x = cb) ?_
    refine r_assign hS hH.kp0 rfl rfl ?_; clear hS; intro a hS
    refine Sq.nil ?_
    refine then_n ?_
    refine wp_ret ?_
    refine then_r ?_
    rw [byt_no hc0 hp]
    refine leave (.inl rfl) hS rfl (Res.tmp rfl Res.nil) ⟨_, rfl, .inl ⟨?_, rfl, rfl⟩, hH.get (by repeat (first | exact In.here | refine In.there ?_)), hH.mod⟩
    simpa using hc0
  · obtain ⟨hbad, hpn, hok, hbyt⟩ := byt_yes hc0 hp
    have hfl := hb.len
    have hsub : ((l.drop p).take n).length = n := by simp; omega
    obtain ⟨ba, bo, hq⟩ := hb.addr h1
    subst hq
    refine wp_skip ?_
    refine then_n ?_
    refine c_seq ?_
    refine reg_plain w0 (fun x => x = cb) ?_
    refine r_move hS hH.kp0 rfl rfl ?_; clear hS; intro a hS
    refine r_nilCheck hS hH.kp0 rfl rfl ?_; clear hS; intro a hS
    refine r_fieldAddr hS hH.kp0 rfl Fc.fo50_1 rfl ?_; clear hS; intro a hS
    refine r_load_sc hS hH (by repeat (first | exact Sub.nil | refine Sub.cons ?_ ?_ | exact In.here | refine In.there ?_)) rfl (by repeat (first | exact In.here | refine In.there ?_)) Fc.sc3 (by rfl) rfl ?_; clear hS; intro a hS
    refine r_move hS hH.kp0 rfl rfl ?_; clear hS; intro a hS
    first | refine r_add hS hH.kp0 rfl rfl rfl (by omega) ?_ | refine r_addw hS hH.kp0 rfl rfl rfl ?_
    clear hS; intro a hS
    refine r_nilCheck hS hH.kp0 rfl rfl ?_; clear hS; intro a hS
    refine r_fieldAddr hS hH.kp0 rfl Fc.fo50_1 rfl ?_; clear hS; intro a hS
    refine r_store1 hS hH rfl rfl rfl (by first | exact .here | exact .there .here | exact .there (.there .here) | exact .there (.there (.there .here)) | exact .there (.there (.there (.there .here))) | exact .there (.there (.there (.there (.there .here)))) | exact .there (.there (.there (.there (.there (.there .here))))) | exact .there (.there (.there (.there (.there (.there (.there .here)))))) | exact .there (.there (.there (.there (.there (.there (.there (.there .here))))))) | exact .there (.there (.there (.there (.there (.there (.there (.there (.there .here)))))))) | exact .there (.there (.there (.there (.there (.there (.there (.there (.there (.there .here))))))))) | exact .there (.there (.there (.there (.there (.there (.there (.there (.there (.there (.there .here)))))))))) | exact .there (.there (.there (.there (.there (.there (.there (.there (.there (.there (.there (.there .here))))))))))) | exact .there (.there (.there (.there (.there (.there (.there (.there (.there (.there (.there (.there (.there .here)))))))))))) | exact .there (.there (.there (.there (.there (.there (.there (.there (.there (.there (.there (.there (.there (.there .here))))))))))))) | exact .there (.there (.there (.there (.there (.there (.there (.there (.there (.there (.there (.there (.there (.there (.there .here))))))))))))))) (by repeat (first | exact Sub.nil | refine Sub.cons ?_ ?_ | exact In.here | refine In.there ?_)) Fc.sz3 (of_decide_eq_true rfl) (.inl rfl) ?_; clear hH; intro w hH
    refine Sq.nil ?_
    refine then_n ?_
    refine c_seq ?_
    refine reg_draw [(true, 0, []), (true, 1, []), (true, 2, []), (true, 3, []), (true, 4, []), (true, 5, []), (true, 6, []), (true, 7, []), (true, 8, []), (true, 9, []), (true, 10, []), (true, 11, []), (true, 12, []), (true, 13, []), (true, 14, []), (false, 15, []), (true, 16, [])] Fc.mixed (by kernel_rfl) (by kernel_rfl) (by kernel_rfl) (by kernel_rfl) (by kernel_rfl) (by repeat (first | with_reducible exact steady_body | with_reducible apply steady_block | with_reducible apply steady_then | with_reducible apply steady_scope | exact steady_body)) hH ?_
    replace hH := hH.drew
    refine r_move hS trivial rfl rfl ?_; clear hS; intro a hS
    refine r_nilCheck hS trivial rfl rfl ?_; clear hS; intro a hS
    refine r_fieldAddr hS trivial rfl Fc.fo50_0 rfl ?_; clear hS; intro a hS
    refine r_load_scS hS rfl (by repeat (first | exact In.here | refine In.there ?_)) Fc.sc22 (by rfl) rfl ?_; clear hS; intro a hS
    refine r_move hS trivial rfl rfl ?_; clear hS; intro a hS
    refine r_nilCheck hS trivial rfl rfl ?_; clear hS; intro a hS
    refine r_fieldAddr hS trivial rfl Fc.fo50_1 rfl ?_; clear hS; intro a hS
    refine r_load_scS hS rfl (by repeat (first | exact In.here | refine In.there ?_)) Fc.sc3 (by rfl) rfl ?_; clear hS; intro a hS
    refine r_move hS trivial rfl rfl ?_; clear hS; intro a hS
    refine r_sub hS trivial rfl rfl rfl (by omega) ?_; clear hS; intro a hS
    refine r_move hS trivial rfl rfl ?_; clear hS; intro a hS
    refine r_nilCheck hS trivial rfl rfl ?_; clear hS; intro a hS
    refine r_fieldAddr hS trivial rfl Fc.fo50_1 rfl ?_; clear hS; intro a hS
    refine r_load_scS hS rfl (by repeat (first | exact In.here | refine In.there ?_)) Fc.sc3 (by rfl) rfl ?_; clear hS; intro a hS
    refine r_slLoHi (ll := p) (hh := p + n) hS trivial rfl rfl rfl Fc.slb22 (by omega) (by omega) (by omega) (by omega) rfl ?_; clear hS; intro a hS
    rw [show p + n - p = ((l.drop p).take n).length from by rw [hsub]; omega] at hS
    have hsz := hH.mod.size
    refine r_call (l := [.tmp 42]) hS rfl rfl Fc.fn23 rfl ?_
    refine Calls.mono (clone_c _ _ ((l.drop p).take n) (by simp; omega) _ (by have h := (hb.go hH.mod (F' := Nobody) (fun x hx => hx.elim)).part (ll := p) (hh := p + n) (by omega) hpn; rw [show p + n - p = n from by omega] at h; rw [hsub]; exact h.bs)) ?_
    rintro e w1 ⟨rb, cap, l2, rfl, hrb, hrbk, hcap, hl2, htk2, hE⟩
    replace hH := hH.ext hE
    refine ⟨_, rfl, hH.kp (by repeat (first | exact Sub.nil | refine Sub.cons ?_ ?_ | exact In.here | refine In.there ?_)), ?_⟩
    clear hS; intro a hS
    refine r_assign hS trivial rfl rfl ?_; clear hS; intro a hS
    refine Sq.nil ?_
    refine then_n ?_
    refine wp_ret ?_
    rw [hbyt]
    rw [hok] at hH
    exact leave (.inl rfl) hS rfl (Res.tmp rfl Res.nil) ⟨_, rfl, .inr ⟨rfl, rb, cap, l2, rfl, by omega, hrbk, hcap, hl2, htk2⟩, hH.get (by repeat (first | exact In.here | refine In.there ?_)), hH.mod⟩

end Go.Proofs.YtcenionnedgadaaDoor
