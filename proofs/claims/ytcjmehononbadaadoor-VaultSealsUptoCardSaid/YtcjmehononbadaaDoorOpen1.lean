/- What is sealed is opened by its key, number and further bytes alone; who does not know the key does not come to know it (for inputs up to the size bound). Part Open1: walks and lemmas of the proof. -/
import Derived.Test.YtcjmehononbadaaDoorSeal1
import Derived.Test.YtcjmehononbadaaDoorSymTrim
namespace Go.Proofs.YtcjmehononbadaaDoor
open Go.Sym

theorem Fc.fn47 : isFn Tryd.prog 47 = true := by kernel_rfl
theorem Fc.fn48 : isFn Tryd.prog 48 = true := by kernel_rfl
set_option maxRecDepth 100000 in
set_option maxHeartbeats 400000 in
theorem trimR_c (q : Option Addr) (qc : Nat) (u : List UInt8) (hl : u.length ≤ 1099511627776) (w0 : World) (hb : BsF Nobody w0 (.slice q u.length qc) u) : Calls Tryd.prog 48 #[.slice q u.length qc, .int .u8 0] w0 fun e w' => ∃ m, e = .returned (.slice q m qc) ∧ m ≤ u.length ∧ (∀ i, m ≤ i → i < u.length → u[i]? = some 0) ∧ Ext w0 w' := by
  refine enter Tryd.func48 rfl rfl rfl ?_
  intro a hS
  have hH := Hp.start w0 (Nobody)
  refine c_seq ?_
  refine reg_plain w0 (Nobody) ?_
  refine r_assign hS hH.kp0 rfl rfl ?_; clear hS; intro a hS
  refine Sq.nil ?_
  refine then_n ?_
  refine c_seq ?_
  refine wp_block ?_
  refine c_loop (fun mm a w => mm ≤ u.length ∧ (∀ i, mm ≤ i → i < u.length → u[i]? = some 0) ∧ St 24 (lv [(0, .slice q mm qc), (1, .int .u8 0)]) a ∧ Hp w0 Nobody [] w) (u.length) ?_ ?_
  · exact ⟨Nat.le_refl _, fun i h1 h2 => by omega, hS.live ⟨rfl, rfl, trivial⟩, hH⟩
  clear hS hH; intro mm a w hI; obtain ⟨hmu, hz, hS, hH⟩ := hI
  refine c_seq ?_
  refine c_seq ?_
  refine reg_plain w0 (Nobody) ?_
  refine r_move hS hH.kp0 rfl rfl ?_; clear hS; intro a hS
  refine r_lenSl hS hH.kp0 rfl Fc.isSlice22 rfl ?_; clear hS; intro a hS
  refine r_gtr hS hH.kp0 rfl rfl rfl ?_; clear hS; intro a hS
  rcases (by omega : mm = 0 ∨ 1 ≤ mm) with hm0 | hm0
  · refine r_move hS hH.kp0 rfl rfl ?_; clear hS; intro a hS
    first
      | (refine Sq.guardYes hS rfl rfl (by first | rfl | exact DT (by omega) | exact DF (by omega) | exact beq_iff_eq.2 (by omega) | exact beq_false_of_ne (by omega) | exact bne_iff_ne.2 (by omega) | exact bne_eq_false_iff_eq.2 (by omega) | assumption | exact beq_self_eq_true _ | exact congrArg not (beq_self_eq_true _)) ?_; refine r_move hS hH.kp0 rfl rfl ?_; clear hS; intro a hS)
      | (refine Sq.guardNo hS rfl rfl (by first | rfl | exact DT (by omega) | exact DF (by omega) | exact beq_iff_eq.2 (by omega) | exact beq_false_of_ne (by omega) | exact bne_iff_ne.2 (by omega) | exact bne_eq_false_iff_eq.2 (by omega) | assumption | exact beq_self_eq_true _ | exact congrArg not (beq_self_eq_true _)) hH.kp0 rfl ?_; clear hS; intro a hS)
      | (refine Sq.guardOff hS rfl rfl hH.kp0 rfl ?_; clear hS; intro a hS)
    first
      | (refine Sq.guardYes hS rfl rfl (by first | rfl | exact DT (by omega) | exact DF (by omega) | exact beq_iff_eq.2 (by omega) | exact beq_false_of_ne (by omega) | exact bne_iff_ne.2 (by omega) | exact bne_eq_false_iff_eq.2 (by omega) | assumption | exact beq_self_eq_true _ | exact congrArg not (beq_self_eq_true _)) ?_; refine r_move hS hH.kp0 rfl rfl ?_; clear hS; intro a hS)
      | (refine Sq.guardNo hS rfl rfl (by first | rfl | exact DT (by omega) | exact DF (by omega) | exact beq_iff_eq.2 (by omega) | exact beq_false_of_ne (by omega) | exact bne_iff_ne.2 (by omega) | exact bne_eq_false_iff_eq.2 (by omega) | assumption | exact beq_self_eq_true _ | exact congrArg not (beq_self_eq_true _)) hH.kp0 rfl ?_; clear hS; intro a hS)
      | (refine Sq.guardOff hS rfl rfl hH.kp0 rfl ?_; clear hS; intro a hS)
    first
      | (refine Sq.guardYes hS rfl rfl (by first | rfl | exact DT (by omega) | exact DF (by omega) | exact beq_iff_eq.2 (by omega) | exact beq_false_of_ne (by omega) | exact bne_iff_ne.2 (by omega) | exact bne_eq_false_iff_eq.2 (by omega) | assumption | exact beq_self_eq_true _ | exact congrArg not (beq_self_eq_true _)) ?_; refine r_lenSl hS hH.kp0 rfl Fc.isSlice22 rfl ?_; clear hS; intro a hS)
      | (refine Sq.guardNo hS rfl rfl (by first | rfl | exact DT (by omega) | exact DF (by omega) | exact beq_iff_eq.2 (by omega) | exact beq_false_of_ne (by omega) | exact bne_iff_ne.2 (by omega) | exact bne_eq_false_iff_eq.2 (by omega) | assumption | exact beq_self_eq_true _ | exact congrArg not (beq_self_eq_true _)) hH.kp0 rfl ?_; clear hS; intro a hS)
      | (refine Sq.guardOff hS rfl rfl hH.kp0 rfl ?_; clear hS; intro a hS)
    first
      | (refine Sq.guardYes hS rfl rfl (by first | rfl | exact DT (by omega) | exact DF (by omega) | exact beq_iff_eq.2 (by omega) | exact beq_false_of_ne (by omega) | exact bne_iff_ne.2 (by omega) | exact bne_eq_false_iff_eq.2 (by omega) | assumption | exact beq_self_eq_true _ | exact congrArg not (beq_self_eq_true _)) ?_; (first | refine r_sub hS hH.kp0 rfl rfl rfl (by omega) ?_ | refine r_subw hS hH.kp0 rfl rfl rfl ?_); clear hS; intro a hS)
      | (refine Sq.guardNo hS rfl rfl (by first | rfl | exact DT (by omega) | exact DF (by omega) | exact beq_iff_eq.2 (by omega) | exact beq_false_of_ne (by omega) | exact bne_iff_ne.2 (by omega) | exact bne_eq_false_iff_eq.2 (by omega) | assumption | exact beq_self_eq_true _ | exact congrArg not (beq_self_eq_true _)) hH.kp0 rfl ?_; clear hS; intro a hS)
      | (refine Sq.guardOff hS rfl rfl hH.kp0 rfl ?_; clear hS; intro a hS)
    first
      | (refine Sq.guardYes hS rfl rfl (by first | rfl | exact DT (by omega) | exact DF (by omega) | exact beq_iff_eq.2 (by omega) | exact beq_false_of_ne (by omega) | exact bne_iff_ne.2 (by omega) | exact bne_eq_false_iff_eq.2 (by omega) | assumption | exact beq_self_eq_true _ | exact congrArg not (beq_self_eq_true _)) ?_; subst hqe; refine r_indexAddrS (j := mm - 1) hS hH.kp0 rfl rfl Fc.slb22 (by omega) (by omega) rfl ?_; clear hS; intro a hS)
      | (refine Sq.guardNo hS rfl rfl (by first | rfl | exact DT (by omega) | exact DF (by omega) | exact beq_iff_eq.2 (by omega) | exact beq_false_of_ne (by omega) | exact bne_iff_ne.2 (by omega) | exact bne_eq_false_iff_eq.2 (by omega) | assumption | exact beq_self_eq_true _ | exact congrArg not (beq_self_eq_true _)) hH.kp0 rfl ?_; clear hS; intro a hS)
      | (refine Sq.guardOff hS rfl rfl hH.kp0 rfl ?_; clear hS; intro a hS)
    first
      | (refine Sq.guardYes hS rfl rfl (by first | rfl | exact DT (by omega) | exact DF (by omega) | exact beq_iff_eq.2 (by omega) | exact beq_false_of_ne (by omega) | exact bne_iff_ne.2 (by omega) | exact bne_eq_false_iff_eq.2 (by omega) | assumption | exact beq_self_eq_true _ | exact congrArg not (beq_self_eq_true _)) ?_; refine r_load_cell (v := byteV y) hS hH.kp0 rfl (by rw [Nat.mul_one]; exact hb.byte hH.mod hy) Fc.sc5 rfl ?_; clear hS; intro a hS)
      | (refine Sq.guardNo hS rfl rfl (by first | rfl | exact DT (by omega) | exact DF (by omega) | exact beq_iff_eq.2 (by omega) | exact beq_false_of_ne (by omega) | exact bne_iff_ne.2 (by omega) | exact bne_eq_false_iff_eq.2 (by omega) | assumption | exact beq_self_eq_true _ | exact congrArg not (beq_self_eq_true _)) hH.kp0 rfl ?_; clear hS; intro a hS)
      | (refine Sq.guardOff hS rfl rfl hH.kp0 rfl ?_; clear hS; intro a hS)
    first
      | (refine Sq.guardYes hS rfl rfl (by first | rfl | exact DT (by omega) | exact DF (by omega) | exact beq_iff_eq.2 (by omega) | exact beq_false_of_ne (by omega) | exact bne_iff_ne.2 (by omega) | exact bne_eq_false_iff_eq.2 (by omega) | assumption | exact beq_self_eq_true _ | exact congrArg not (beq_self_eq_true _)) ?_; refine r_move hS hH.kp0 rfl rfl ?_; clear hS; intro a hS)
      | (refine Sq.guardNo hS rfl rfl (by first | rfl | exact DT (by omega) | exact DF (by omega) | exact beq_iff_eq.2 (by omega) | exact beq_false_of_ne (by omega) | exact bne_iff_ne.2 (by omega) | exact bne_eq_false_iff_eq.2 (by omega) | assumption | exact beq_self_eq_true _ | exact congrArg not (beq_self_eq_true _)) hH.kp0 rfl ?_; clear hS; intro a hS)
      | (refine Sq.guardOff hS rfl rfl hH.kp0 rfl ?_; clear hS; intro a hS)
    first
      | (refine Sq.guardYes hS rfl rfl (by first | rfl | exact DT (by omega) | exact DF (by omega) | exact beq_iff_eq.2 (by omega) | exact beq_false_of_ne (by omega) | exact bne_iff_ne.2 (by omega) | exact bne_eq_false_iff_eq.2 (by omega) | assumption | exact beq_self_eq_true _ | exact congrArg not (beq_self_eq_true _)) ?_; refine r_eql hS hH.kp0 rfl rfl rfl ?_; clear hS; intro a hS)
      | (refine Sq.guardNo hS rfl rfl (by first | rfl | exact DT (by omega) | exact DF (by omega) | exact beq_iff_eq.2 (by omega) | exact beq_false_of_ne (by omega) | exact bne_iff_ne.2 (by omega) | exact bne_eq_false_iff_eq.2 (by omega) | assumption | exact beq_self_eq_true _ | exact congrArg not (beq_self_eq_true _)) hH.kp0 rfl ?_; clear hS; intro a hS)
      | (refine Sq.guardOff hS rfl rfl hH.kp0 rfl ?_; clear hS; intro a hS)
    first
      | (refine r_pickT hS hH.kp0 rfl (by first | rfl | exact DT (by omega) | exact DF (by omega) | exact beq_iff_eq.2 (by omega) | exact beq_false_of_ne (by omega) | exact bne_iff_ne.2 (by omega) | exact bne_eq_false_iff_eq.2 (by omega) | assumption | exact beq_self_eq_true _ | exact congrArg not (beq_self_eq_true _)) rfl rfl ?_; clear hS; intro a hS)
      | (refine r_pickF hS hH.kp0 rfl (by first | rfl | exact DT (by omega) | exact DF (by omega) | exact beq_iff_eq.2 (by omega) | exact beq_false_of_ne (by omega) | exact bne_iff_ne.2 (by omega) | exact bne_eq_false_iff_eq.2 (by omega) | assumption | exact beq_self_eq_true _ | exact congrArg not (beq_self_eq_true _)) rfl rfl ?_; clear hS; intro a hS)
    refine Sq.nil ?_
    refine then_n ?_
    refine c_condF hS rfl (by first | rfl | exact DT (by omega) | exact DF (by omega) | exact beq_iff_eq.2 (by omega) | exact beq_false_of_ne (by omega) | exact bne_iff_ne.2 (by omega) | exact bne_eq_false_iff_eq.2 (by omega) | assumption | exact beq_self_eq_true _ | exact congrArg not (beq_self_eq_true _)) ?_
    refine wp_exit ?_
    refine then_e ?_
    refine then_e ?_
    refine blk_hit ?_
    refine then_n ?_
    refine c_seq ?_
    refine reg_plain w0 (Nobody) ?_
    refine r_move hS hH.kp0 rfl rfl ?_; clear hS; intro a hS
    refine r_assign hS hH.kp0 rfl rfl ?_; clear hS; intro a hS
    refine Sq.nil ?_
    refine then_n ?_
    refine wp_ret ?_
    exact leave (.inl rfl) hS rfl (Res.tmp rfl Res.nil) ⟨mm, rfl, hmu, hz, hH.mod⟩
  · obtain ⟨y, hy⟩ : ∃ y, u[mm - 1]? = some y := ⟨_, List.getElem?_eq_getElem (by omega)⟩
    obtain ⟨qb, qo, hqe⟩ := hb.addr (by omega)
    have hqc := hb.len.2
    refine r_move hS hH.kp0 rfl rfl ?_; clear hS; intro a hS
    first
      | (refine Sq.guardYes hS rfl rfl (by first | rfl | exact DT (by omega) | exact DF (by omega) | exact beq_iff_eq.2 (by omega) | exact beq_false_of_ne (by omega) | exact bne_iff_ne.2 (by omega) | exact bne_eq_false_iff_eq.2 (by omega) | assumption | exact beq_self_eq_true _ | exact congrArg not (beq_self_eq_true _)) ?_; refine r_move hS hH.kp0 rfl rfl ?_; clear hS; intro a hS)
      | (refine Sq.guardNo hS rfl rfl (by first | rfl | exact DT (by omega) | exact DF (by omega) | exact beq_iff_eq.2 (by omega) | exact beq_false_of_ne (by omega) | exact bne_iff_ne.2 (by omega) | exact bne_eq_false_iff_eq.2 (by omega) | assumption | exact beq_self_eq_true _ | exact congrArg not (beq_self_eq_true _)) hH.kp0 rfl ?_; clear hS; intro a hS)
      | (refine Sq.guardOff hS rfl rfl hH.kp0 rfl ?_; clear hS; intro a hS)
    first
      | (refine Sq.guardYes hS rfl rfl (by first | rfl | exact DT (by omega) | exact DF (by omega) | exact beq_iff_eq.2 (by omega) | exact beq_false_of_ne (by omega) | exact bne_iff_ne.2 (by omega) | exact bne_eq_false_iff_eq.2 (by omega) | assumption | exact beq_self_eq_true _ | exact congrArg not (beq_self_eq_true _)) ?_; refine r_move hS hH.kp0 rfl rfl ?_; clear hS; intro a hS)
      | (refine Sq.guardNo hS rfl rfl (by first | rfl | exact DT (by omega) | exact DF (by omega) | exact beq_iff_eq.2 (by omega) | exact beq_false_of_ne (by omega) | exact bne_iff_ne.2 (by omega) | exact bne_eq_false_iff_eq.2 (by omega) | assumption | exact beq_self_eq_true _ | exact congrArg not (beq_self_eq_true _)) hH.kp0 rfl ?_; clear hS; intro a hS)
      | (refine Sq.guardOff hS rfl rfl hH.kp0 rfl ?_; clear hS; intro a hS)
    first
      | (refine Sq.guardYes hS rfl rfl (by first | rfl | exact DT (by omega) | exact DF (by omega) | exact beq_iff_eq.2 (by omega) | exact beq_false_of_ne (by omega) | exact bne_iff_ne.2 (by omega) | exact bne_eq_false_iff_eq.2 (by omega) | assumption | exact beq_self_eq_true _ | exact congrArg not (beq_self_eq_true _)) ?_; refine r_lenSl hS hH.kp0 rfl Fc.isSlice22 rfl ?_; clear hS; intro a hS)
      | (refine Sq.guardNo hS rfl rfl (by first | rfl | exact DT (by omega) | exact DF (by omega) | exact beq_iff_eq.2 (by omega) | exact beq_false_of_ne (by omega) | exact bne_iff_ne.2 (by omega) | exact bne_eq_false_iff_eq.2 (by omega) | assumption | exact beq_self_eq_true _ | exact congrArg not (beq_self_eq_true _)) hH.kp0 rfl ?_; clear hS; intro a hS)
      | (refine Sq.guardOff hS rfl rfl hH.kp0 rfl ?_; clear hS; intro a hS)
    first
      | (refine Sq.guardYes hS rfl rfl (by first | rfl | exact DT (by omega) | exact DF (by omega) | exact beq_iff_eq.2 (by omega) | exact beq_false_of_ne (by omega) | exact bne_iff_ne.2 (by omega) | exact bne_eq_false_iff_eq.2 (by omega) | assumption | exact beq_self_eq_true _ | exact congrArg not (beq_self_eq_true _)) ?_; (first | refine r_sub hS hH.kp0 rfl rfl rfl (by omega) ?_ | refine r_subw hS hH.kp0 rfl rfl rfl ?_); clear hS; intro a hS)
      | (refine Sq.guardNo hS rfl rfl (by first | rfl | exact DT (by omega) | exact DF (by omega) | exact beq_iff_eq.2 (by omega) | exact beq_false_of_ne (by omega) | exact bne_iff_ne.2 (by omega) | exact bne_eq_false_iff_eq.2 (by omega) | assumption | exact beq_self_eq_true _ | exact congrArg not (beq_self_eq_true _)) hH.kp0 rfl ?_; clear hS; intro a hS)
      | (refine Sq.guardOff hS rfl rfl hH.kp0 rfl ?_; clear hS; intro a hS)
    first
      | (refine Sq.guardYes hS rfl rfl (by first | rfl | exact DT (by omega) | exact DF (by omega) | exact beq_iff_eq.2 (by omega) | exact beq_false_of_ne (by omega) | exact bne_iff_ne.2 (by omega) | exact bne_eq_false_iff_eq.2 (by omega) | assumption | exact beq_self_eq_true _ | exact congrArg not (beq_self_eq_true _)) ?_; subst hqe; refine r_indexAddrS (j := mm - 1) hS hH.kp0 rfl rfl Fc.slb22 (by omega) (by omega) rfl ?_; clear hS; intro a hS)
      | (refine Sq.guardNo hS rfl rfl (by first | rfl | exact DT (by omega) | exact DF (by omega) | exact beq_iff_eq.2 (by omega) | exact beq_false_of_ne (by omega) | exact bne_iff_ne.2 (by omega) | exact bne_eq_false_iff_eq.2 (by omega) | assumption | exact beq_self_eq_true _ | exact congrArg not (beq_self_eq_true _)) hH.kp0 rfl ?_; clear hS; intro a hS)
      | (refine Sq.guardOff hS rfl rfl hH.kp0 rfl ?_; clear hS; intro a hS)
    first
      | (refine Sq.guardYes hS rfl rfl (by first | rfl | exact DT (by omega) | exact DF (by omega) | exact beq_iff_eq.2 (by omega) | exact beq_false_of_ne (by omega) | exact bne_iff_ne.2 (by omega) | exact bne_eq_false_iff_eq.2 (by omega) | assumption | exact beq_self_eq_true _ | exact congrArg not (beq_self_eq_true _)) ?_; refine r_load_cell (v := byteV y) hS hH.kp0 rfl (by rw [Nat.mul_one]; exact hb.byte hH.mod hy) Fc.sc5 rfl ?_; clear hS; intro a hS)
      | (refine Sq.guardNo hS rfl rfl (by first | rfl | exact DT (by omega) | exact DF (by omega) | exact beq_iff_eq.2 (by omega) | exact beq_false_of_ne (by omega) | exact bne_iff_ne.2 (by omega) | exact bne_eq_false_iff_eq.2 (by omega) | assumption | exact beq_self_eq_true _ | exact congrArg not (beq_self_eq_true _)) hH.kp0 rfl ?_; clear hS; intro a hS)
      | (refine Sq.guardOff hS rfl rfl hH.kp0 rfl ?_; clear hS; intro a hS)
    first
      | (refine Sq.guardYes hS rfl rfl (by first | rfl | exact DT (by omega) | exact DF (by omega) | exact beq_iff_eq.2 (by omega) | exact beq_false_of_ne (by omega) | exact bne_iff_ne.2 (by omega) | exact bne_eq_false_iff_eq.2 (by omega) | assumption | exact beq_self_eq_true _ | exact congrArg not (beq_self_eq_true _)) ?_; refine r_move hS hH.kp0 rfl rfl ?_; clear hS; intro a hS)
      | (refine Sq.guardNo hS rfl rfl (by first | rfl | exact DT (by omega) | exact DF (by omega) | exact beq_iff_eq.2 (by omega) | exact beq_false_of_ne (by omega) | exact bne_iff_ne.2 (by omega) | exact bne_eq_false_iff_eq.2 (by omega) | assumption | exact beq_self_eq_true _ | exact congrArg not (beq_self_eq_true _)) hH.kp0 rfl ?_; clear hS; intro a hS)
      | (refine Sq.guardOff hS rfl rfl hH.kp0 rfl ?_; clear hS; intro a hS)
    first
      | (refine Sq.guardYes hS rfl rfl (by first | rfl | exact DT (by omega) | exact DF (by omega) | exact beq_iff_eq.2 (by omega) | exact beq_false_of_ne (by omega) | exact bne_iff_ne.2 (by omega) | exact bne_eq_false_iff_eq.2 (by omega) | assumption | exact beq_self_eq_true _ | exact congrArg not (beq_self_eq_true _)) ?_; refine r_eql hS hH.kp0 rfl rfl rfl ?_; clear hS; intro a hS)
      | (refine Sq.guardNo hS rfl rfl (by first | rfl | exact DT (by omega) | exact DF (by omega) | exact beq_iff_eq.2 (by omega) | exact beq_false_of_ne (by omega) | exact bne_iff_ne.2 (by omega) | exact bne_eq_false_iff_eq.2 (by omega) | assumption | exact beq_self_eq_true _ | exact congrArg not (beq_self_eq_true _)) hH.kp0 rfl ?_; clear hS; intro a hS)
      | (refine Sq.guardOff hS rfl rfl hH.kp0 rfl ?_; clear hS; intro a hS)
    first
      | (refine r_pickT hS hH.kp0 rfl (by first | rfl | exact DT (by omega) | exact DF (by omega) | exact beq_iff_eq.2 (by omega) | exact beq_false_of_ne (by omega) | exact bne_iff_ne.2 (by omega) | exact bne_eq_false_iff_eq.2 (by omega) | assumption | exact beq_self_eq_true _ | exact congrArg not (beq_self_eq_true _)) rfl rfl ?_; clear hS; intro a hS)
      | (refine r_pickF hS hH.kp0 rfl (by first | rfl | exact DT (by omega) | exact DF (by omega) | exact beq_iff_eq.2 (by omega) | exact beq_false_of_ne (by omega) | exact bne_iff_ne.2 (by omega) | exact bne_eq_false_iff_eq.2 (by omega) | assumption | exact beq_self_eq_true _ | exact congrArg not (beq_self_eq_true _)) rfl rfl ?_; clear hS; intro a hS)
    refine Sq.nil ?_
    refine then_n ?_
    refine c_cond hS rfl (fun hc0 => ?_) (fun hc0 => ?_)
    · have hy0 : y = 0 := by have := eq_of_beq hc0; exact UInt8.toNat_inj.1 (by show y.toNat = 0; omega)
      refine wp_skip ?_
      refine then_n ?_
      refine wp_block ?_
      refine reg_plain w0 (Nobody) ?_
      refine r_move hS hH.kp0 rfl rfl ?_; clear hS; intro a hS
      refine r_move hS hH.kp0 rfl rfl ?_; clear hS; intro a hS
      refine r_lenSl hS hH.kp0 rfl Fc.isSlice22 rfl ?_; clear hS; intro a hS
      (first | refine r_sub hS hH.kp0 rfl rfl rfl (by omega) ?_ | refine r_subw hS hH.kp0 rfl rfl rfl ?_)
      clear hS; intro a hS
      refine r_slHi (hh := mm - 1) hS hH.kp0 rfl rfl Fc.slb22 (by omega) (by omega) (fun q hq => by cases hq; rfl) rfl ?_; clear hS; intro a hS
      refine r_assign hS hH.kp0 rfl rfl ?_; clear hS; intro a hS
      refine Sq.nil ?_
      refine blk_n ?_
      refine then_n ?_
      exact ⟨mm - 1, by omega, by omega, fun i h1 h2 => by (by_cases h : i = mm - 1); (rw [h, hy]; exact congrArg some hy0); exact hz i (by omega) h2, hS.live ⟨rfl, rfl, trivial⟩, hH⟩
    · refine wp_exit ?_
      refine then_e ?_
      refine then_e ?_
      refine blk_hit ?_
      refine then_n ?_
      refine c_seq ?_
      refine reg_plain w0 (Nobody) ?_
      refine r_move hS hH.kp0 rfl rfl ?_; clear hS; intro a hS
      refine r_assign hS hH.kp0 rfl rfl ?_; clear hS; intro a hS
      refine Sq.nil ?_
      refine then_n ?_
      refine wp_ret ?_
      exact leave (.inl rfl) hS rfl (Res.tmp rfl Res.nil) ⟨mm, rfl, hmu, hz, hH.mod⟩

set_option maxRecDepth 100000 in
set_option maxHeartbeats 400000 in
theorem trimL_c (q : Option Addr) (qc : Nat) (u : List UInt8) (hl : u.length ≤ 1099511627776) (w0 : World) (hb0 : BsF Nobody w0 (.slice q u.length qc) u) : Calls Tryd.prog 47 #[.slice q u.length qc, .int .u8 0] w0 fun e w' => ∃ (q' : Option Addr) (m c' : Nat), e = .returned (.slice q' m c') ∧ (m = 0 ↔ ∀ x ∈ u, x = 0) ∧ Ext w0 w' := by
  refine enter Tryd.func47 rfl rfl rfl ?_
  intro a hS
  have hH := Hp.start w0 (Nobody)
  refine c_seq ?_
  refine reg_plain w0 (Nobody) ?_
  refine r_assign hS hH.kp0 rfl rfl ?_; clear hS; intro a hS
  refine Sq.nil ?_
  refine then_n ?_
  refine c_seq ?_
  refine wp_block ?_
  refine c_loop (fun mm a w => ∃ (qx : Option Addr) (cx : Nat) (t : List UInt8), mm = t.length ∧ BsF Nobody w0 (.slice qx t.length cx) t ∧ ((∀ x ∈ u, x = 0) ↔ ∀ x ∈ t, x = 0) ∧ St 21 (lv [(0, .slice qx t.length cx), (1, .int .u8 0)]) a ∧ Hp w0 Nobody [] w) (u.length) ?_ ?_
  · exact ⟨q, qc, u, rfl, hb0, Iff.rfl, hS.live ⟨rfl, rfl, trivial⟩, hH⟩
  clear hS hH; intro mm a w hI; obtain ⟨qx, cx, t, hmt, hb, hz, hS, hH⟩ := hI
  subst hmt
  refine c_seq ?_
  refine c_seq ?_
  refine reg_plain w0 (Nobody) ?_
  refine r_move hS hH.kp0 rfl rfl ?_; clear hS; intro a hS
  refine r_lenSl hS hH.kp0 rfl Fc.isSlice22 rfl ?_; clear hS; intro a hS
  refine r_gtr hS hH.kp0 rfl rfl rfl ?_; clear hS; intro a hS
  rcases t with _ | ⟨y, t⟩
  · refine r_move hS hH.kp0 rfl rfl ?_; clear hS; intro a hS
    first
      | (refine Sq.guardYes hS rfl rfl (by first | rfl | exact DT (by omega) | exact DF (by omega) | exact beq_iff_eq.2 (by omega) | exact beq_false_of_ne (by omega) | exact bne_iff_ne.2 (by omega) | exact bne_eq_false_iff_eq.2 (by omega) | assumption | exact beq_self_eq_true _ | exact congrArg not (beq_self_eq_true _)) ?_; refine r_move hS hH.kp0 rfl rfl ?_; clear hS; intro a hS)
      | (refine Sq.guardNo hS rfl rfl (by first | rfl | exact DT (by omega) | exact DF (by omega) | exact beq_iff_eq.2 (by omega) | exact beq_false_of_ne (by omega) | exact bne_iff_ne.2 (by omega) | exact bne_eq_false_iff_eq.2 (by omega) | assumption | exact beq_self_eq_true _ | exact congrArg not (beq_self_eq_true _)) hH.kp0 rfl ?_; clear hS; intro a hS)
      | (refine Sq.guardOff hS rfl rfl hH.kp0 rfl ?_; clear hS; intro a hS)
    first
      | (refine Sq.guardYes hS rfl rfl (by first | rfl | exact DT (by omega) | exact DF (by omega) | exact beq_iff_eq.2 (by omega) | exact beq_false_of_ne (by omega) | exact bne_iff_ne.2 (by omega) | exact bne_eq_false_iff_eq.2 (by omega) | assumption | exact beq_self_eq_true _ | exact congrArg not (beq_self_eq_true _)) ?_; refine r_indexAddrS (j := 0) hS hH.kp0 rfl rfl Fc.slb22 rfl (by simp) rfl ?_; clear hS; intro a hS)
      | (refine Sq.guardNo hS rfl rfl (by first | rfl | exact DT (by omega) | exact DF (by omega) | exact beq_iff_eq.2 (by omega) | exact beq_false_of_ne (by omega) | exact bne_iff_ne.2 (by omega) | exact bne_eq_false_iff_eq.2 (by omega) | assumption | exact beq_self_eq_true _ | exact congrArg not (beq_self_eq_true _)) hH.kp0 rfl ?_; clear hS; intro a hS)
      | (refine Sq.guardOff hS rfl rfl hH.kp0 rfl ?_; clear hS; intro a hS)
    first
      | (refine Sq.guardYes hS rfl rfl (by first | rfl | exact DT (by omega) | exact DF (by omega) | exact beq_iff_eq.2 (by omega) | exact beq_false_of_ne (by omega) | exact bne_iff_ne.2 (by omega) | exact bne_eq_false_iff_eq.2 (by omega) | assumption | exact beq_self_eq_true _ | exact congrArg not (beq_self_eq_true _)) ?_; refine r_load_cell (v := byteV y) hS hH.kp0 rfl (by rw [Nat.zero_mul]; exact hb.byte hH.mod rfl) Fc.sc5 rfl ?_; clear hS; intro a hS)
      | (refine Sq.guardNo hS rfl rfl (by first | rfl | exact DT (by omega) | exact DF (by omega) | exact beq_iff_eq.2 (by omega) | exact beq_false_of_ne (by omega) | exact bne_iff_ne.2 (by omega) | exact bne_eq_false_iff_eq.2 (by omega) | assumption | exact beq_self_eq_true _ | exact congrArg not (beq_self_eq_true _)) hH.kp0 rfl ?_; clear hS; intro a hS)
      | (refine Sq.guardOff hS rfl rfl hH.kp0 rfl ?_; clear hS; intro a hS)
    first
      | (refine Sq.guardYes hS rfl rfl (by first | rfl | exact DT (by omega) | exact DF (by omega) | exact beq_iff_eq.2 (by omega) | exact beq_false_of_ne (by omega) | exact bne_iff_ne.2 (by omega) | exact bne_eq_false_iff_eq.2 (by omega) | assumption | exact beq_self_eq_true _ | exact congrArg not (beq_self_eq_true _)) ?_; refine r_move hS hH.kp0 rfl rfl ?_; clear hS; intro a hS)
      | (refine Sq.guardNo hS rfl rfl (by first | rfl | exact DT (by omega) | exact DF (by omega) | exact beq_iff_eq.2 (by omega) | exact beq_false_of_ne (by omega) | exact bne_iff_ne.2 (by omega) | exact bne_eq_false_iff_eq.2 (by omega) | assumption | exact beq_self_eq_true _ | exact congrArg not (beq_self_eq_true _)) hH.kp0 rfl ?_; clear hS; intro a hS)
      | (refine Sq.guardOff hS rfl rfl hH.kp0 rfl ?_; clear hS; intro a hS)
    first
      | (refine Sq.guardYes hS rfl rfl (by first | rfl | exact DT (by omega) | exact DF (by omega) | exact beq_iff_eq.2 (by omega) | exact beq_false_of_ne (by omega) | exact bne_iff_ne.2 (by omega) | exact bne_eq_false_iff_eq.2 (by omega) | assumption | exact beq_self_eq_true _ | exact congrArg not (beq_self_eq_true _)) ?_; refine r_eql hS hH.kp0 rfl rfl rfl ?_; clear hS; intro a hS)
      | (refine Sq.guardNo hS rfl rfl (by first | rfl | exact DT (by omega) | exact DF (by omega) | exact beq_iff_eq.2 (by omega) | exact beq_false_of_ne (by omega) | exact bne_iff_ne.2 (by omega) | exact bne_eq_false_iff_eq.2 (by omega) | assumption | exact beq_self_eq_true _ | exact congrArg not (beq_self_eq_true _)) hH.kp0 rfl ?_; clear hS; intro a hS)
      | (refine Sq.guardOff hS rfl rfl hH.kp0 rfl ?_; clear hS; intro a hS)
    first
      | (refine r_pickT hS hH.kp0 rfl (by first | rfl | exact DT (by omega) | exact DF (by omega) | exact beq_iff_eq.2 (by omega) | exact beq_false_of_ne (by omega) | exact bne_iff_ne.2 (by omega) | exact bne_eq_false_iff_eq.2 (by omega) | assumption | exact beq_self_eq_true _ | exact congrArg not (beq_self_eq_true _)) rfl rfl ?_; clear hS; intro a hS)
      | (refine r_pickF hS hH.kp0 rfl (by first | rfl | exact DT (by omega) | exact DF (by omega) | exact beq_iff_eq.2 (by omega) | exact beq_false_of_ne (by omega) | exact bne_iff_ne.2 (by omega) | exact bne_eq_false_iff_eq.2 (by omega) | assumption | exact beq_self_eq_true _ | exact congrArg not (beq_self_eq_true _)) rfl rfl ?_; clear hS; intro a hS)
    refine Sq.nil ?_
    refine then_n ?_
    refine c_condF hS rfl (by first | rfl | exact DT (by omega) | exact DF (by omega) | exact beq_iff_eq.2 (by omega) | exact beq_false_of_ne (by omega) | exact bne_iff_ne.2 (by omega) | exact bne_eq_false_iff_eq.2 (by omega) | assumption | exact beq_self_eq_true _ | exact congrArg not (beq_self_eq_true _)) ?_
    refine wp_exit ?_
    refine then_e ?_
    refine then_e ?_
    refine blk_hit ?_
    refine then_n ?_
    refine c_seq ?_
    refine c_seq ?_
    refine reg_plain w0 (Nobody) ?_
    refine r_move hS hH.kp0 rfl rfl ?_; clear hS; intro a hS
    refine r_lenSl hS hH.kp0 rfl Fc.isSlice22 rfl ?_; clear hS; intro a hS
    refine r_eql hS hH.kp0 rfl rfl rfl ?_; clear hS; intro a hS
    refine Sq.nil ?_
    refine then_n ?_
    refine c_condT hS rfl (by first | rfl | exact DT (by omega) | exact DF (by omega) | exact beq_iff_eq.2 (by omega) | exact beq_false_of_ne (by omega) | exact bne_iff_ne.2 (by omega) | exact bne_eq_false_iff_eq.2 (by omega) | assumption | exact beq_self_eq_true _ | exact congrArg not (beq_self_eq_true _)) ?_
    refine c_seq ?_
    refine reg_plain w0 (Nobody) ?_
    refine r_assign hS hH.kp0 rfl rfl ?_; clear hS; intro a hS
    refine Sq.nil ?_
    refine then_n ?_
    refine wp_ret ?_
    refine then_r ?_
    exact leave (.inl rfl) hS rfl (Res.tmp rfl Res.nil) ⟨none, 0, 0, rfl, ⟨fun _ => hz.2 (by simp), fun _ => rfl⟩, hH.mod⟩
  · obtain ⟨qb, qo, hqe⟩ := hb.addr (by simp)
    have hqc := hb.len.2
    subst hqe
    rw [show (y :: t).length = t.length + 1 from rfl] at hS
    refine r_move hS hH.kp0 rfl rfl ?_; clear hS; intro a hS
    first
      | (refine Sq.guardYes hS rfl rfl (by first | rfl | exact DT (by omega) | exact DF (by omega) | exact beq_iff_eq.2 (by omega) | exact beq_false_of_ne (by omega) | exact bne_iff_ne.2 (by omega) | exact bne_eq_false_iff_eq.2 (by omega) | assumption | exact beq_self_eq_true _ | exact congrArg not (beq_self_eq_true _)) ?_; refine r_move hS hH.kp0 rfl rfl ?_; clear hS; intro a hS)
      | (refine Sq.guardNo hS rfl rfl (by first | rfl | exact DT (by omega) | exact DF (by omega) | exact beq_iff_eq.2 (by omega) | exact beq_false_of_ne (by omega) | exact bne_iff_ne.2 (by omega) | exact bne_eq_false_iff_eq.2 (by omega) | assumption | exact beq_self_eq_true _ | exact congrArg not (beq_self_eq_true _)) hH.kp0 rfl ?_; clear hS; intro a hS)
      | (refine Sq.guardOff hS rfl rfl hH.kp0 rfl ?_; clear hS; intro a hS)
    first
      | (refine Sq.guardYes hS rfl rfl (by first | rfl | exact DT (by omega) | exact DF (by omega) | exact beq_iff_eq.2 (by omega) | exact beq_false_of_ne (by omega) | exact bne_iff_ne.2 (by omega) | exact bne_eq_false_iff_eq.2 (by omega) | assumption | exact beq_self_eq_true _ | exact congrArg not (beq_self_eq_true _)) ?_; refine r_indexAddrS (j := 0) hS hH.kp0 rfl rfl Fc.slb22 rfl (by simp) rfl ?_; clear hS; intro a hS)
      | (refine Sq.guardNo hS rfl rfl (by first | rfl | exact DT (by omega) | exact DF (by omega) | exact beq_iff_eq.2 (by omega) | exact beq_false_of_ne (by omega) | exact bne_iff_ne.2 (by omega) | exact bne_eq_false_iff_eq.2 (by omega) | assumption | exact beq_self_eq_true _ | exact congrArg not (beq_self_eq_true _)) hH.kp0 rfl ?_; clear hS; intro a hS)
      | (refine Sq.guardOff hS rfl rfl hH.kp0 rfl ?_; clear hS; intro a hS)
    first
      | (refine Sq.guardYes hS rfl rfl (by first | rfl | exact DT (by omega) | exact DF (by omega) | exact beq_iff_eq.2 (by omega) | exact beq_false_of_ne (by omega) | exact bne_iff_ne.2 (by omega) | exact bne_eq_false_iff_eq.2 (by omega) | assumption | exact beq_self_eq_true _ | exact congrArg not (beq_self_eq_true _)) ?_; refine r_load_cell (v := byteV y) hS hH.kp0 rfl (by rw [Nat.zero_mul]; exact hb.byte hH.mod rfl) Fc.sc5 rfl ?_; clear hS; intro a hS)
      | (refine Sq.guardNo hS rfl rfl (by first | rfl | exact DT (by omega) | exact DF (by omega) | exact beq_iff_eq.2 (by omega) | exact beq_false_of_ne (by omega) | exact bne_iff_ne.2 (by omega) | exact bne_eq_false_iff_eq.2 (by omega) | assumption | exact beq_self_eq_true _ | exact congrArg not (beq_self_eq_true _)) hH.kp0 rfl ?_; clear hS; intro a hS)
      | (refine Sq.guardOff hS rfl rfl hH.kp0 rfl ?_; clear hS; intro a hS)
    first
      | (refine Sq.guardYes hS rfl rfl (by first | rfl | exact DT (by omega) | exact DF (by omega) | exact beq_iff_eq.2 (by omega) | exact beq_false_of_ne (by omega) | exact bne_iff_ne.2 (by omega) | exact bne_eq_false_iff_eq.2 (by omega) | assumption | exact beq_self_eq_true _ | exact congrArg not (beq_self_eq_true _)) ?_; refine r_move hS hH.kp0 rfl rfl ?_; clear hS; intro a hS)
      | (refine Sq.guardNo hS rfl rfl (by first | rfl | exact DT (by omega) | exact DF (by omega) | exact beq_iff_eq.2 (by omega) | exact beq_false_of_ne (by omega) | exact bne_iff_ne.2 (by omega) | exact bne_eq_false_iff_eq.2 (by omega) | assumption | exact beq_self_eq_true _ | exact congrArg not (beq_self_eq_true _)) hH.kp0 rfl ?_; clear hS; intro a hS)
      | (refine Sq.guardOff hS rfl rfl hH.kp0 rfl ?_; clear hS; intro a hS)
    first
      | (refine Sq.guardYes hS rfl rfl (by first | rfl | exact DT (by omega) | exact DF (by omega) | exact beq_iff_eq.2 (by omega) | exact beq_false_of_ne (by omega) | exact bne_iff_ne.2 (by omega) | exact bne_eq_false_iff_eq.2 (by omega) | assumption | exact beq_self_eq_true _ | exact congrArg not (beq_self_eq_true _)) ?_; refine r_eql hS hH.kp0 rfl rfl rfl ?_; clear hS; intro a hS)
      | (refine Sq.guardNo hS rfl rfl (by first | rfl | exact DT (by omega) | exact DF (by omega) | exact beq_iff_eq.2 (by omega) | exact beq_false_of_ne (by omega) | exact bne_iff_ne.2 (by omega) | exact bne_eq_false_iff_eq.2 (by omega) | assumption | exact beq_self_eq_true _ | exact congrArg not (beq_self_eq_true _)) hH.kp0 rfl ?_; clear hS; intro a hS)
      | (refine Sq.guardOff hS rfl rfl hH.kp0 rfl ?_; clear hS; intro a hS)
    first
      | (refine r_pickT hS hH.kp0 rfl (by first | rfl | exact DT (by omega) | exact DF (by omega) | exact beq_iff_eq.2 (by omega) | exact beq_false_of_ne (by omega) | exact bne_iff_ne.2 (by omega) | exact bne_eq_false_iff_eq.2 (by omega) | assumption | exact beq_self_eq_true _ | exact congrArg not (beq_self_eq_true _)) rfl rfl ?_; clear hS; intro a hS)
      | (refine r_pickF hS hH.kp0 rfl (by first | rfl | exact DT (by omega) | exact DF (by omega) | exact beq_iff_eq.2 (by omega) | exact beq_false_of_ne (by omega) | exact bne_iff_ne.2 (by omega) | exact bne_eq_false_iff_eq.2 (by omega) | assumption | exact beq_self_eq_true _ | exact congrArg not (beq_self_eq_true _)) rfl rfl ?_; clear hS; intro a hS)
    refine Sq.nil ?_
    refine then_n ?_
    refine c_cond hS rfl (fun hc0 => ?_) (fun hc0 => ?_)
    · have hy0 : y = 0 := by have := eq_of_beq hc0; exact UInt8.toNat_inj.1 (by show y.toNat = 0; omega)
      refine wp_skip ?_
      refine then_n ?_
      refine wp_block ?_
      refine reg_plain w0 (Nobody) ?_
      refine r_move hS hH.kp0 rfl rfl ?_; clear hS; intro a hS
      refine r_slLo (ll := 1) hS hH.kp0 rfl rfl Fc.slb22 rfl (by simp) rfl ?_; clear hS; intro a hS
      have hb2 := hb.low rfl (by simp : 1 ≤ (y :: t).length)
      refine r_assign hS hH.kp0 rfl rfl ?_; clear hS; intro a hS
      refine Sq.nil ?_
      refine blk_n ?_
      refine then_n ?_
      subst hy0
      exact ⟨t.length, Nat.lt_succ_self _, _, _, t, rfl, hb2, hz.trans zeros_drop, hS.live ⟨rfl, rfl, trivial⟩, hH⟩
    · have hyn : ¬ y = 0 := fun h => by subst h; cases hc0
      refine wp_exit ?_
      refine then_e ?_
      refine then_e ?_
      refine blk_hit ?_
      refine then_n ?_
      refine c_seq ?_
      refine c_seq ?_
      refine reg_plain w0 (Nobody) ?_
      refine r_move hS hH.kp0 rfl rfl ?_; clear hS; intro a hS
      refine r_lenSl hS hH.kp0 rfl Fc.isSlice22 rfl ?_; clear hS; intro a hS
      refine r_eql hS hH.kp0 rfl rfl rfl ?_; clear hS; intro a hS
      refine Sq.nil ?_
      refine then_n ?_
      refine c_condF hS rfl (by first | rfl | exact DT (by omega) | exact DF (by omega) | exact beq_iff_eq.2 (by omega) | exact beq_false_of_ne (by omega) | exact bne_iff_ne.2 (by omega) | exact bne_eq_false_iff_eq.2 (by omega) | assumption | exact beq_self_eq_true _ | exact congrArg not (beq_self_eq_true _)) ?_
      refine wp_skip ?_
      refine then_n ?_
      refine c_seq ?_
      refine reg_plain w0 (Nobody) ?_
      refine r_move hS hH.kp0 rfl rfl ?_; clear hS; intro a hS
      refine r_assign hS hH.kp0 rfl rfl ?_; clear hS; intro a hS
      refine Sq.nil ?_
      refine then_n ?_
      refine wp_ret ?_
      exact leave (.inl rfl) hS rfl (Res.tmp rfl Res.nil) ⟨_, _, _, rfl, ⟨fun h => by simp at h, fun h => absurd (hz.1 h y (by simp)) hyn⟩, hH.mod⟩

set_option maxRecDepth 100000 in
set_option maxHeartbeats 400000 in
theorem trim_c (q : Option Addr) (qc : Nat) (u : List UInt8) (hl : u.length ≤ 1099511627776) (w0 : World) (hb : BsF Nobody w0 (.slice q u.length qc) u) : Calls Tryd.prog 25 #[.slice q u.length qc, .string { data := #[0] }] w0 fun e w' => ∃ (q' : Option Addr) (m c' : Nat), e = .returned (.slice q' m c') ∧ (m = 0 ↔ ∀ x ∈ u, x = 0) ∧ Ext w0 w' := by
  refine enter Tryd.func25 rfl rfl rfl ?_
  intro a hS
  have hH := Hp.start w0 (Nobody)
  have hbm : ∀ {m : Nat} (w9 : World), Ext w0 w9 → BsF Nobody w9 (.slice q (u.take m).length qc) (u.take m) := fun {m} w9 k9 => BsF.pre (hb.go k9 (fun x (h : Nobody x) => h.elim)) m
  refine c_seq ?_
  refine reg_plain w0 (Nobody) ?_
  refine r_assign hS hH.kp0 rfl rfl ?_; clear hS; intro a hS
  refine Sq.nil ?_
  refine then_n ?_
  refine c_seq ?_
  refine c_seq ?_
  refine reg_plain w0 (Nobody) ?_
  refine r_move hS hH.kp0 rfl rfl ?_; clear hS; intro a hS
  refine r_lenSl hS hH.kp0 rfl Fc.isSlice22 rfl ?_; clear hS; intro a hS
  rcases (by omega : u.length = 0 ∨ 1 ≤ u.length) with hu0 | hu0
  · refine r_eql hS hH.kp0 rfl rfl rfl ?_; clear hS; intro a hS
    refine Sq.nil ?_
    refine then_n ?_
    refine c_condT hS rfl (by first | rfl | exact DT (by omega) | exact DF (by omega) | exact beq_iff_eq.2 (by omega) | exact beq_false_of_ne (by omega) | exact bne_iff_ne.2 (by omega) | exact bne_eq_false_iff_eq.2 (by omega) | assumption | exact beq_self_eq_true _ | exact congrArg not (beq_self_eq_true _)) ?_
    refine c_seq ?_
    refine reg_plain w0 (Nobody) ?_
    refine r_assign hS hH.kp0 rfl rfl ?_; clear hS; intro a hS
    refine Sq.nil ?_
    refine then_n ?_
    refine wp_ret ?_
    refine then_r ?_
    have hun : u = [] := List.eq_nil_of_length_eq_zero hu0
    subst hun
    exact leave (.inl rfl) hS rfl (Res.tmp rfl Res.nil) ⟨none, 0, 0, rfl, ⟨fun _ => by simp, fun _ => rfl⟩, hH.mod⟩
  · refine r_eql hS hH.kp0 rfl rfl rfl ?_; clear hS; intro a hS
    refine Sq.nil ?_
    refine then_n ?_
    refine c_condF hS rfl (by first | rfl | exact DT (by omega) | exact DF (by omega) | exact beq_iff_eq.2 (by omega) | exact beq_false_of_ne (by omega) | exact bne_iff_ne.2 (by omega) | exact bne_eq_false_iff_eq.2 (by omega) | assumption | exact beq_self_eq_true _ | exact congrArg not (beq_self_eq_true _)) ?_
    refine wp_skip ?_
    refine then_n ?_
    refine c_seq ?_
    refine c_seq ?_
    refine reg_plain w0 (Nobody) ?_
    refine r_move hS hH.kp0 rfl rfl ?_; clear hS; intro a hS
    refine r_strEql hS hH.kp0 rfl rfl rfl ?_; clear hS; intro a hS
    refine Sq.nil ?_
    refine then_n ?_
    refine c_condF hS rfl (by show ((strOf [0]).toList == (strOf []).toList) = false; rw [strOf_toList, strOf_toList]; rfl) ?_
    refine wp_skip ?_
    refine then_n ?_
    refine c_seq ?_
    refine c_seq ?_
    refine reg_plain w0 (Nobody) ?_
    refine r_move hS hH.kp0 rfl rfl ?_; clear hS; intro a hS
    refine r_lenStr hS hH.kp0 rfl Fc.isStr9 rfl ?_; clear hS; intro a hS
    refine r_eql hS hH.kp0 rfl rfl rfl ?_; clear hS; intro a hS
    refine r_move hS hH.kp0 rfl rfl ?_; clear hS; intro a hS
    first
      | (refine Sq.guardYes hS rfl rfl (by first | rfl | exact DT (by omega) | exact DF (by omega) | exact beq_iff_eq.2 (by omega) | exact beq_false_of_ne (by omega) | exact bne_iff_ne.2 (by omega) | exact bne_eq_false_iff_eq.2 (by omega) | assumption | exact beq_self_eq_true _ | exact congrArg not (beq_self_eq_true _)) ?_; refine r_move hS hH.kp0 rfl rfl ?_; clear hS; intro a hS)
      | (refine Sq.guardNo hS rfl rfl (by first | rfl | exact DT (by omega) | exact DF (by omega) | exact beq_iff_eq.2 (by omega) | exact beq_false_of_ne (by omega) | exact bne_iff_ne.2 (by omega) | exact bne_eq_false_iff_eq.2 (by omega) | assumption | exact beq_self_eq_true _ | exact congrArg not (beq_self_eq_true _)) hH.kp0 rfl ?_; clear hS; intro a hS)
      | (refine Sq.guardOff hS rfl rfl hH.kp0 rfl ?_; clear hS; intro a hS)
    first
      | (refine Sq.guardYes hS rfl rfl (by first | rfl | exact DT (by omega) | exact DF (by omega) | exact beq_iff_eq.2 (by omega) | exact beq_false_of_ne (by omega) | exact bne_iff_ne.2 (by omega) | exact bne_eq_false_iff_eq.2 (by omega) | assumption | exact beq_self_eq_true _ | exact congrArg not (beq_self_eq_true _)) ?_; refine r_indexStr (i := 0) (u := 0) hS hH.kp0 rfl rfl Fc.und9 rfl rfl ?_; clear hS; intro a hS)
      | (refine Sq.guardNo hS rfl rfl (by first | rfl | exact DT (by omega) | exact DF (by omega) | exact beq_iff_eq.2 (by omega) | exact beq_false_of_ne (by omega) | exact bne_iff_ne.2 (by omega) | exact bne_eq_false_iff_eq.2 (by omega) | assumption | exact beq_self_eq_true _ | exact congrArg not (beq_self_eq_true _)) hH.kp0 rfl ?_; clear hS; intro a hS)
      | (refine Sq.guardOff hS rfl rfl hH.kp0 rfl ?_; clear hS; intro a hS)
    first
      | (refine Sq.guardYes hS rfl rfl (by first | rfl | exact DT (by omega) | exact DF (by omega) | exact beq_iff_eq.2 (by omega) | exact beq_false_of_ne (by omega) | exact bne_iff_ne.2 (by omega) | exact bne_eq_false_iff_eq.2 (by omega) | assumption | exact beq_self_eq_true _ | exact congrArg not (beq_self_eq_true _)) ?_; refine r_lss hS hH.kp0 rfl rfl rfl ?_; clear hS; intro a hS)
      | (refine Sq.guardNo hS rfl rfl (by first | rfl | exact DT (by omega) | exact DF (by omega) | exact beq_iff_eq.2 (by omega) | exact beq_false_of_ne (by omega) | exact bne_iff_ne.2 (by omega) | exact bne_eq_false_iff_eq.2 (by omega) | assumption | exact beq_self_eq_true _ | exact congrArg not (beq_self_eq_true _)) hH.kp0 rfl ?_; clear hS; intro a hS)
      | (refine Sq.guardOff hS rfl rfl hH.kp0 rfl ?_; clear hS; intro a hS)
    first
      | (refine r_pickT hS hH.kp0 rfl (by first | rfl | exact DT (by omega) | exact DF (by omega) | exact beq_iff_eq.2 (by omega) | exact beq_false_of_ne (by omega) | exact bne_iff_ne.2 (by omega) | exact bne_eq_false_iff_eq.2 (by omega) | assumption | exact beq_self_eq_true _ | exact congrArg not (beq_self_eq_true _)) rfl rfl ?_; clear hS; intro a hS)
      | (refine r_pickF hS hH.kp0 rfl (by first | rfl | exact DT (by omega) | exact DF (by omega) | exact beq_iff_eq.2 (by omega) | exact beq_false_of_ne (by omega) | exact bne_iff_ne.2 (by omega) | exact bne_eq_false_iff_eq.2 (by omega) | assumption | exact beq_self_eq_true _ | exact congrArg not (beq_self_eq_true _)) rfl rfl ?_; clear hS; intro a hS)
    refine Sq.nil ?_
    refine then_n ?_
    refine c_condT hS rfl rfl ?_
    refine c_seq ?_
    refine reg_draw [(true, 0, []), (true, 1, []), (true, 2, []), (true, 4, []), (true, 5, []), (false, 3, []), (false, 6, []), (true, 7, [])] Fc.mixed (by kernel_rfl) (by kernel_rfl) (by kernel_rfl) (by kernel_rfl) (by kernel_rfl) (by repeat (first | with_reducible exact steady_body | with_reducible apply steady_block | with_reducible apply steady_then | exact steady_body)) hH ?_
    replace hH := hH.drew
    refine r_move hS trivial rfl rfl ?_; clear hS; intro a hS
    refine r_move hS trivial rfl rfl ?_; clear hS; intro a hS
    refine r_indexStr (i := 0) (u := 0) hS trivial rfl rfl Fc.und9 rfl rfl ?_; clear hS; intro a hS
    refine r_move hS trivial rfl rfl ?_; clear hS; intro a hS
    refine r_indexStr (i := 0) (u := 0) hS trivial rfl rfl Fc.und9 rfl rfl ?_; clear hS; intro a hS
    refine r_call (l := [.tmp 21, .tmp 23]) hS rfl rfl Fc.fn48 rfl ?_
    refine Calls.mono (trimR_c q qc u hl _ (hb.go hH.mod (fun _ h => h.elim))) ?_
    rintro e w1 ⟨m, rfl, hmu, hmz, hE⟩
    replace hH := hH.ext hE
    have hmt : (u.take m).length = m := by rw [List.length_take]; omega
    rw [← hmt]
    refine ⟨_, rfl, hH.kp (by repeat (first | exact Sub.nil | refine Sub.cons ?_ ?_ | exact In.here | refine In.there ?_)), ?_⟩
    clear hS; intro a hS
    refine r_call (l := [.tmp 24, .tmp 26]) hS rfl rfl Fc.fn47 rfl ?_
    refine Calls.mono (trimL_c q qc (u.take m) (by omega) _ (hbm _ hH.mod)) ?_
    rintro e w1 ⟨q', m', c', rfl, hm', hE⟩
    replace hH := hH.ext hE
    refine ⟨_, rfl, hH.kp (by repeat (first | exact Sub.nil | refine Sub.cons ?_ ?_ | exact In.here | refine In.there ?_)), ?_⟩
    clear hS; intro a hS
    refine r_assign hS trivial rfl rfl ?_; clear hS; intro a hS
    refine Sq.nil ?_
    refine then_n ?_
    refine wp_ret ?_
    refine then_r ?_
    exact leave (.inl rfl) hS rfl (Res.tmp rfl Res.nil) ⟨q', m', c', rfl, hm'.trans (zeros_take hmz).symm, hH.mod⟩

end Go.Proofs.YtcjmehononbadaaDoor

namespace Go.Proofs.YtcjmehononbadaaDoor
open Go.Sym

theorem Fc.fn25 : isFn Tryd.prog 25 = true := by kernel_rfl
theorem Fc.fl7 : FlTy Tryd.prog 64 tbs := flTy_mk Fc.laid (of_decide_eq_true (by kernel_rfl)) (by kernel_rfl) (by kernel_rfl) (by kernel_rfl) (by kernel_rfl) (by kernel_rfl)
theorem trim2 (q : Option Addr) (qc : Nat) (u : List UInt8) (n : Nat) (hn : n ≤ u.length) (hl : u.length ≤ 1099511627776) (w0 : World) (hb : BsF Nobody w0 (.slice q u.length qc) u) : Calls Tryd.prog 25 #[.slice q n qc, .string { data := #[0] }] w0 fun e w' => ∃ (q' : Option Addr) (m c' : Nat), e = .returned (.slice q' m c') ∧ (m = 0 ↔ ∀ x ∈ u.take n, x = 0) ∧ Ext w0 w' := by
  have hln : (u.take n).length = n := by rw [List.length_take]; omega
  have h := trim_c q qc (u.take n) (by omega) w0 (hb.pre n)
  rw [hln] at h
  exact h

set_option maxRecDepth 100000 in
set_option maxHeartbeats 8000000 in
theorem Open_v (b : Nat) (V : VB) (ts : List Tm) (h : List UInt8) (hh : h.length = 16) (k : Nat) (hk : k < ts.length) (hnm : h = nm k) (nu : Int) (hnu : 0 ≤ nu ∧ nu ≤ 9000000000000000000) (va vb : Value) (la lb : List UInt8) (hla : la.length ≤ 9223372036854775807) (hlb : lb.length ≤ 1099511627776) (n : Nat) (hn : lb.length = n + 16) (hm : ts.length ≤ 1000000000) (w0 : World) (hvi : VI w0 b V ts) (hba : BsF Nobody w0 va la) (hbb : BsF Nobody w0 vb lb) : Calls Tryd.prog 9 #[.pointer (some ⟨b, 0, none⟩), hnd h, .int .i64 nu, va, vb] w0 fun e w' => ((∃ (s : Nat) (t : Tm) (cb cap : Nat) (cl : List Value) (fz : Nat × Nat), OpenR ts k nu la lb n s t ∧ e = .returned (.tuple #[.slice (some ⟨cb, 0, none⟩) (byt t).length cap, .int .i64 0]) ∧ w0.heap.size ≤ cb ∧ w'.heap[cb]? = some (.cells cl.toArray 5 fz) ∧ cl.take (byt t).length = (byt t).map byteV ∧ (byt t).length ≤ cap) ∨ ((¬ ∃ s t, OpenR ts k nu la lb n s t) ∧ e = .returned (.tuple #[.slice none 0 0, .int .i64 20]))) ∧ Ext w0 w' := by
  refine enter Tryd.func9 rfl rfl rfl ?_
  intro a hS
  have hH := Hp.start w0 (Nobody)
  obtain ⟨x0, x1, x2, x3, x4, x5, x6, x7, x8, x9, xa, xb, xc, xd, xe, xf, rfl⟩ := len16 hh
  replace hH := hH.knowV hvi (by intro p hp; simp at hp)
  obtain ⟨g2, hm2, hf2⟩ := hvi.ok.names
  obtain ⟨n0, th, e1, e2, hcase⟩ := hf2.look2 [x0, x1, x2, x3, x4, x5, x6, x7, x8, x9, xa, xb, xc, xd, xe, xf]
  rcases hcase.symm with ⟨_, _, hno⟩ | ⟨h, j9, hj9, hn0, hgj⟩
  · exact absurd hnm (hno k hk)
  subst h
  subst hn0
  obtain rfl : k = j9 := (nm_inj (by omega) (by omega) (hgj.symm.trans hnm)).symm
  obtain ⟨qa, qca, hsla⟩ := hba.bs
  have hva := hsla.val
  subst hva
  obtain ⟨qb, qcb, hslb⟩ := hbb.bs
  have hvb := hslb.val
  subst hvb
  have hsle := hslb.le
  obtain ⟨ba, bo, hq⟩ := hslb.addr (by omega)
  subst hq
  have hcl := fun w k => hbb.cells16 n w k
  obtain ⟨g, hg⟩ : ∃ g, g = (lb.drop n).take 16 := ⟨_, rfl⟩
  rw [← hg] at hcl
  have hgd : lb.drop n = g := by rw [hg, List.take_of_length_le (by rw [List.length_drop]; omega)]
  have hg16 : g.length = 16 := by rw [← hgd, List.length_drop]; omega
  clear hg
  obtain ⟨g0, g1, g2, g3, g4, g5, g6, g7, g8, g9, ga, gb, gc, gd, ge, gf, rfl⟩ := len16 hg16
  obtain ⟨n1, th2, e3, e4, hcaseg⟩ := hf2.look2 [g0, g1, g2, g3, g4, g5, g6, g7, g8, g9, ga, gb, gc, gd, ge, gf]
  refine c_seq ?_
  refine reg_plain w0 (Nobody) ?_
  refine r_box hS hH (by repeat (first | exact Sub.nil | refine Sub.cons ?_ ?_ | exact In.here | refine In.there ?_)) rfl rfl rfl ?_
  clear hS hH; intro a w b6 hb6 hwb6 hS hH
  refine r_assign hS hH.kp0 rfl rfl ?_; clear hS; intro a hS
  refine r_assign hS hH.kp0 rfl rfl ?_; clear hS; intro a hS
  refine Sq.nil ?_
  refine then_n ?_
  refine c_seq ?_
  refine c_seq ?_
  refine reg_plain w0 (Nobody) ?_
  refine r_move hS hH.kp0 rfl rfl ?_; clear hS; intro a hS
  refine r_call (l := [.tmp 18]) hS rfl rfl Fc.fn24 rfl ?_
  refine Calls.mono (none_v b V ts _ (hH.vin hvi.ok hvi.n01 hvi.n23 (by repeat (first | exact In.here | refine In.there ?_)) (by repeat (first | exact In.here | refine In.there ?_)) (by repeat (first | exact In.here | refine In.there ?_)) (by repeat (first | exact In.here | refine In.there ?_)))) ?_
  rintro e w1 ⟨rfl, hE⟩
  replace hH := hH.ext hE
  refine ⟨_, rfl, hH.kp0, ?_⟩
  clear hS; intro a hS
  refine Sq.nil ?_
  refine then_n ?_
  refine c_condF hS rfl rfl ?_
  refine wp_skip ?_
  refine then_n ?_
  refine c_seq ?_
  refine reg_draw [(true, 0, []), (true, 1, []), (true, 2, []), (true, 3, []), (true, 4, []), (true, 5, []), (true, 6, []), (true, 7, []), (true, 8, []), (true, 9, []), (true, 10, [])] Fc.mixed (by kernel_rfl) (by kernel_rfl) (by kernel_rfl) (by kernel_rfl) (by kernel_rfl) (by repeat (first | with_reducible exact steady_body | with_reducible apply steady_block | with_reducible apply steady_then | exact steady_body)) hH ?_
  replace hH := hH.drew
  refine r_move hS trivial rfl rfl ?_; clear hS; intro a hS
  refine r_nilCheck hS trivial rfl rfl ?_; clear hS; intro a hS
  refine r_fieldAddr hS trivial rfl Fc.fo41_2 rfl ?_; clear hS; intro a hS
  refine r_load_scS hS rfl (by repeat (first | exact In.here | refine In.there ?_)) Fc.sc39 (by rfl) rfl ?_; clear hS; intro a hS
  refine r_load_rowS hS rfl (by repeat (first | exact In.here | refine In.there ?_)) Fc.ag26 (by rfl) rfl ?_; clear hS; intro a hS
  refine r_lookupS2 Fc.mtN hS rfl rfl (by repeat (first | exact In.here | refine In.there ?_)) hm2 (Fc.arrH.keyOf (h := [x0, x1, x2, x3, x4, x5, x6, x7, x8, x9, xa, xb, xc, xd, xe, xf]) rfl) e1 e2 rfl ?_; clear hS; intro a hS
  refine r_move hS trivial rfl rfl ?_; clear hS; intro a hS
  refine r_extract hS trivial rfl rfl rfl ?_; clear hS; intro a hS
  refine r_extract hS trivial rfl rfl rfl ?_; clear hS; intro a hS
  refine r_assign hS trivial rfl rfl ?_; clear hS; intro a hS
  refine r_assign hS trivial rfl rfl ?_; clear hS; intro a hS
  refine Sq.nil ?_
  refine then_n ?_
  refine c_seq ?_
  refine reg_plain w0 (Nobody) ?_
  refine r_move hS hH.kp0 rfl rfl ?_; clear hS; intro a hS
  refine r_lenSl hS hH.kp0 rfl Fc.isSlice22 rfl ?_; clear hS; intro a hS
  (first | refine r_sub hS hH.kp0 rfl rfl rfl (by omega) ?_ | refine r_subw hS hH.kp0 rfl rfl rfl ?_)
  clear hS; intro a hS
  refine r_assign hS hH.kp0 rfl rfl ?_; clear hS; intro a hS
  refine Sq.nil ?_
  rw [show ((lb.length : Int) - 16) = (n : Int) by omega] at hS
  refine then_n ?_
  refine c_seq ?_
  refine wp_block ?_
  refine c_seq ?_
  refine reg_plain w0 (Nobody) ?_
  refine r_move hS hH.kp0 rfl rfl ?_; clear hS; intro a hS
  refine r_not hS hH.kp0 rfl rfl ?_; clear hS; intro a hS
  refine r_assign hS hH.kp0 rfl rfl ?_; clear hS; intro a hS
  refine Sq.nil ?_
  refine then_n ?_
  refine c_condF hS rfl rfl ?_
  refine c_seq ?_
  refine reg_plain w0 (Nobody) ?_
  refine r_move hS hH.kp0 rfl rfl ?_; clear hS; intro a hS
  refine r_lss hS hH.kp0 rfl rfl rfl ?_; clear hS; intro a hS
  refine r_assign hS hH.kp0 rfl rfl ?_; clear hS; intro a hS
  refine Sq.nil ?_
  refine then_n ?_
  refine c_condF hS rfl (DF (by omega)) ?_
  refine c_seq ?_
  refine reg_plain w0 (Nobody) ?_
  refine r_move hS hH.kp0 rfl rfl ?_; clear hS; intro a hS
  refine r_lss hS hH.kp0 rfl rfl rfl ?_; clear hS; intro a hS
  refine r_assign hS hH.kp0 rfl rfl ?_; clear hS; intro a hS
  refine Sq.nil ?_
  refine then_n ?_
  refine c_condF hS rfl (DF (by omega)) ?_
  refine wp_skip ?_
  refine blk_n ?_
  refine then_n ?_
  refine c_seq ?_
  refine reg_draw [(true, 0, []), (true, 1, []), (true, 2, []), (true, 3, []), (true, 4, []), (true, 5, []), (true, 6, []), (true, 7, []), (true, 8, []), (true, 9, []), (true, 10, []), (true, 11, []), (true, 12, []), (true, 13, []), (true, 14, [])] Fc.mixed (by kernel_rfl) (by kernel_rfl) (by kernel_rfl) (by kernel_rfl) (by kernel_rfl) (by repeat (first | with_reducible exact steady_body | with_reducible apply steady_block | with_reducible apply steady_then | exact steady_body)) hH ?_
  replace hH := hH.drew
  refine r_move hS trivial rfl rfl ?_; clear hS; intro a hS
  refine r_nilCheck hS trivial rfl rfl ?_; clear hS; intro a hS
  refine r_fieldAddr hS trivial rfl Fc.fo41_2 rfl ?_; clear hS; intro a hS
  refine r_load_scS hS rfl (by repeat (first | exact In.here | refine In.there ?_)) Fc.sc39 (by rfl) rfl ?_; clear hS; intro a hS
  refine r_move hS trivial rfl rfl ?_; clear hS; intro a hS
  refine r_move hS trivial rfl rfl ?_; clear hS; intro a hS
  refine r_slLo (ll := n) hS trivial rfl rfl Fc.slb22 rfl (by omega) rfl ?_; clear hS; intro a hS
  rw [if_neg (show ¬ qcb = n by omega)] at hS
  refine r_toArr hS trivial rfl Fc.ar26 (by omega) rfl ?_; clear hS; intro a hS
  refine r_load_cellsS (l := hcells [g0, g1, g2, g3, g4, g5, g6, g7, g8, g9, ga, gb, gc, gd, ge, gf]) hS rfl Fc.ag26 rfl (fun w hw => hcl w hw.2) rfl ?_; clear hS; intro a hS
  refine r_lookupS2 Fc.mtN hS rfl rfl (by repeat (first | exact In.here | refine In.there ?_)) hm2 (Fc.arrH.keyOf (h := [g0, g1, g2, g3, g4, g5, g6, g7, g8, g9, ga, gb, gc, gd, ge, gf]) rfl) e3 e4 rfl ?_; clear hS; intro a hS
  refine r_move hS trivial rfl rfl ?_; clear hS; intro a hS
  refine r_extract hS trivial rfl rfl rfl ?_; clear hS; intro a hS
  refine r_extract hS trivial rfl rfl rfl ?_; clear hS; intro a hS
  refine r_assign hS trivial rfl rfl ?_; clear hS; intro a hS
  refine r_assign hS trivial rfl rfl ?_; clear hS; intro a hS
  refine Sq.nil ?_
  refine then_n ?_
  refine c_seq ?_
  refine c_seq ?_
  refine reg_plain w0 (Nobody) ?_
  refine r_move hS hH.kp0 rfl rfl ?_; clear hS; intro a hS
  refine r_not hS hH.kp0 rfl rfl ?_; clear hS; intro a hS
  refine Sq.nil ?_
  refine then_n ?_
  refine c_cond hS rfl (fun hc4 => ?_) (fun hc4 => ?_)
  · rcases hcaseg with ⟨h, _⟩ | ⟨h, _, hnog⟩
    · rw [h] at hc4; cases hc4
    refine c_seq ?_
    refine reg_plain w0 (Nobody) ?_
    refine r_assign hS hH.kp0 rfl rfl ?_; clear hS; intro a hS
    refine r_assign hS hH.kp0 rfl rfl ?_; clear hS; intro a hS
    refine Sq.nil ?_
    refine then_n ?_
    refine wp_ret ?_
    refine then_r ?_
    refine leave (.inl rfl) hS rfl (Res.tmp rfl (Res.tmp rfl Res.nil)) ⟨.inr ⟨?_, rfl⟩, hH.mod⟩
    rintro ⟨s2, t2, hR⟩
    have hs2 := at_lt hR.at_
    exact hnog s2 hs2 (hgd.symm.trans hR.name)
  · rcases hcaseg.symm with ⟨h, _⟩ | ⟨_, s, hs, hn0, hgs⟩
    · rw [h] at hc4; cases hc4
    subst hn0
    obtain ⟨t, ht⟩ : ∃ t, ts[s]? = some t := ⟨_, List.getElem?_eq_getElem hs⟩
    have hrow := hvi.ok.row ht
    have htok := hvi.ok.rng t (List.mem_of_getElem? ht)
    have hsok : (selT k nu (strOf la) t.bytes).ok := selT_ok (by omega) hnu hla htok.bytes
    refine wp_skip ?_
    refine then_n ?_
    refine c_seq ?_
    refine reg_plain w0 (Nobody) ?_
    refine r_move hS hH.kp0 rfl rfl ?_; clear hS; intro a hS
    refine r_nilCheck hS hH.kp0 rfl rfl ?_; clear hS; intro a hS
    refine r_fieldAddr hS hH.kp0 rfl Fc.fo41_0 rfl ?_; clear hS; intro a hS
    refine r_load_sc hS hH (by repeat (first | exact Sub.nil | refine Sub.cons ?_ ?_ | exact In.here | refine In.there ?_)) rfl (by repeat (first | exact In.here | refine In.there ?_)) Fc.sc37 (by rfl) rfl ?_; clear hS; intro a hS
    refine r_move hS hH.kp0 rfl rfl ?_; clear hS; intro a hS
    refine r_indexAddrS (j := s) hS hH.kp0 rfl rfl Fc.slb37 rfl hs rfl ?_; clear hS; intro a hS
    refine r_load_at (vs := t.cells) hS hH (by repeat (first | exact Sub.nil | refine Sub.cons ?_ ?_ | exact In.here | refine In.there ?_)) rfl (by repeat (first | exact In.here | refine In.there ?_)) Fc.ag64 (by rw [Nat.zero_add]; exact hrow.2) (by rw [Nat.zero_add]; exact hrow.1) rfl ?_; clear hS; intro a hS
    refine r_alloc hS hH (by repeat (first | exact Sub.nil | refine Sub.cons ?_ ?_ | exact In.here | refine In.there ?_)) Fc.zc64 rfl ?_
    clear hS hH; intro a w b16 hb16 hwb16 hS hH
    refine r_store_row hS hH rfl rfl (by repeat (first | exact .here | apply In.there | apply Put.there | apply Del.there)) (by repeat (first | exact Sub.nil | refine Sub.cons ?_ ?_ | exact In.here | refine In.there ?_)) Fc.sz64 (one_cells t) (by rfl) (.inr (by assumption)) ?_; clear hH; intro w hH
    refine Sq.nil ?_
    refine then_n ?_
    refine c_seq ?_
    refine reg_plain w0 (Nobody) ?_
    refine r_move hS hH.kp0 rfl rfl ?_; clear hS; intro a hS
    refine r_move hS hH.kp0 rfl rfl ?_; clear hS; intro a hS
    refine r_move hS hH.kp0 rfl rfl ?_; clear hS; intro a hS
    refine r_bytesStr hS hH.kp0 rfl (hba _ hH.mod) Fc.u8s22 Fc.isStr9 rfl ?_; clear hS; intro a hS
    refine r_fieldAddr hS hH.kp0 rfl Fc.fo64_6 rfl ?_; clear hS; intro a hS
    refine r_load_sc hS hH (by repeat (first | exact Sub.nil | refine Sub.cons ?_ ?_ | exact In.here | refine In.there ?_)) rfl (by repeat (first | exact In.here | refine In.there ?_)) Fc.sc9 (by rfl) rfl ?_; clear hS; intro a hS
    refine r_buildS (parts := [(0, .const (.int .i64 6)), (1, .tmp 63), (3, .tmp 64), (5, .tmp 66), (6, .tmp 68)]) hS hH.kp0 rfl rfl Fc.zc64 Fc.pl64 (by rfl) ?_; clear hS; intro a hS
    refine r_alloc hS hH (by repeat (first | exact Sub.nil | refine Sub.cons ?_ ?_ | exact In.here | refine In.there ?_)) Fc.zc64 rfl ?_
    clear hS hH; intro a w b17 hb17 hwb17 hS hH
    refine r_store_row (vs := (selT k nu (strOf la) t.bytes).cells) hS hH rfl rfl (by repeat (first | exact .here | apply In.there | apply Put.there | apply Del.there)) (by repeat (first | exact Sub.nil | refine Sub.cons ?_ ?_ | exact In.here | refine In.there ?_)) Fc.sz64 (one_cells (selT k nu (strOf la) t.bytes)) (by rfl) (.inr (by assumption)) ?_; clear hH; intro w hH
    refine Sq.nil ?_
    refine then_n ?_
    refine c_seq ?_
    refine c_seq ?_
    refine reg_plain w0 (Nobody) ?_
    refine r_load_row hS hH (by repeat (first | exact Sub.nil | refine Sub.cons ?_ ?_ | exact In.here | refine In.there ?_)) rfl (by repeat (first | exact In.here | refine In.there ?_)) Fc.ag64 (by rfl) rfl ?_; clear hS; intro a hS
    refine r_load_row hS hH (by repeat (first | exact Sub.nil | refine Sub.cons ?_ ?_ | exact In.here | refine In.there ?_)) rfl (by repeat (first | exact In.here | refine In.there ?_)) Fc.ag64 (by rfl) rfl ?_; clear hS; intro a hS
    refine r_flNeq (us := t.cells) (vs := (selT k nu (strOf la) t.bytes).cells) Fc.fl7 hS hH.kp0 rfl rfl (tcells_ok htok) (tcells_ok hsok) rfl ?_; clear hS; intro a rr hrr hS
    rcases rr with _ | _
    · have heq : t = selT k nu (strOf la) t.bytes := Tm.cells_inj (Classical.byContradiction fun h => by have := hrr.2 h; cases this)
      refine r_move hS hH.kp0 rfl rfl ?_; clear hS; intro a hS
      refine Sq.guardYes hS rfl rfl rfl ?_
      refine r_fieldAddr hS hH.kp0 rfl Fc.fo64_6 rfl ?_; clear hS; intro a hS
      refine Sq.guardYes hS rfl rfl rfl ?_
      refine r_load_sc hS hH (by repeat (first | exact Sub.nil | refine Sub.cons ?_ ?_ | exact In.here | refine In.there ?_)) rfl (by repeat (first | exact In.here | refine In.there ?_)) Fc.sc9 (by rfl) rfl ?_; clear hS; intro a hS
      refine Sq.guardYes hS rfl rfl rfl ?_
      refine r_lenStr hS hH.kp0 rfl Fc.isStr9 rfl ?_; clear hS; intro a hS
      refine Sq.guardYes hS rfl rfl rfl ?_
      refine r_move hS hH.kp0 rfl rfl ?_; clear hS; intro a hS
      refine Sq.guardYes hS rfl rfl rfl ?_
      refine r_neq hS hH.kp0 rfl rfl rfl ?_; clear hS; intro a hS
      rcases Nat.decEq t.bytes.size n with hsz | hsz
      · rw [show ((t.bytes.size : Int) != (n : Int)) = true from bne_iff_ne.2 (by omega)] at hS
        refine r_pickF hS hH.kp0 rfl rfl rfl rfl ?_; clear hS; intro a hS
        refine r_move hS hH.kp0 rfl rfl ?_; clear hS; intro a hS
        refine Sq.guardNo hS rfl rfl rfl hH.kp0 rfl ?_; clear hS; intro a hS
        refine Sq.guardNo hS rfl rfl rfl hH.kp0 rfl ?_; clear hS; intro a hS
        refine Sq.guardNo hS rfl rfl rfl hH.kp0 rfl ?_; clear hS; intro a hS
        refine Sq.guardNo hS rfl rfl rfl hH.kp0 rfl ?_; clear hS; intro a hS
        refine Sq.guardNo hS rfl rfl rfl hH.kp0 rfl ?_; clear hS; intro a hS
        refine Sq.guardNo hS rfl rfl rfl hH.kp0 rfl ?_; clear hS; intro a hS
        refine r_pickT hS hH.kp0 rfl rfl rfl rfl ?_; clear hS; intro a hS
        refine Sq.nil ?_
        refine then_n ?_
        refine c_condT hS rfl rfl ?_
        refine c_seq ?_
        refine reg_plain w0 (Nobody) ?_
        refine r_assign hS hH.kp0 rfl rfl ?_; clear hS; intro a hS
        refine r_assign hS hH.kp0 rfl rfl ?_; clear hS; intro a hS
        refine Sq.nil ?_
        refine then_n ?_
        refine wp_ret ?_
        refine then_r ?_
        refine leave (.inl rfl) hS rfl (Res.tmp rfl (Res.tmp rfl Res.nil)) ⟨.inr ⟨?_, rfl⟩, hH.mod⟩
        rintro ⟨s2, t2, hR⟩
        have hs2 := at_lt hR.at_
        obtain rfl : s2 = s := nm_inj (by omega) (by omega) ((hR.name.symm.trans hgd).trans hgs)
        obtain rfl : t2 = t := Option.some.inj (hR.at_.symm.trans ht)
        exact hsz hR.size
      · rw [show ((t.bytes.size : Int) != (n : Int)) = false from bne_eq_false_iff_eq.2 (by omega)] at hS
        refine r_pickF hS hH.kp0 rfl rfl rfl rfl ?_; clear hS; intro a hS
        refine r_move hS hH.kp0 rfl rfl ?_; clear hS; intro a hS
        refine Sq.guardYes hS rfl rfl rfl ?_
        refine r_move hS hH.kp0 rfl rfl ?_; clear hS; intro a hS
        refine Sq.guardYes hS rfl rfl rfl ?_
        refine r_move hS hH.kp0 rfl rfl ?_; clear hS; intro a hS
        refine Sq.guardYes hS rfl rfl rfl ?_
        refine r_slHi (hh := n) hS hH.kp0 rfl rfl Fc.slb22 rfl (by omega) (fun q hq => by cases hq; rfl) rfl ?_; clear hS; intro a hS
        refine Sq.guardYes hS rfl rfl rfl ?_
        refine r_call (l := [.tmp 83, .const (.string { data := #[0] })]) hS rfl rfl Fc.fn25 rfl ?_
        refine Calls.mono (trim2 (some ⟨ba, bo, none⟩) qcb lb n (by omega) (by omega) _ (hbb.go hH.mod (fun _ h => h.elim))) ?_
        rintro e w1 ⟨q', m', c', rfl, hm', hE⟩
        replace hH := hH.ext hE
        refine ⟨_, rfl, hH.kp0, ?_⟩
        clear hS; intro a hS
        refine Sq.guardYes hS rfl rfl rfl ?_
        refine r_lenSl hS hH.kp0 rfl Fc.isSlice22 rfl ?_; clear hS; intro a hS
        rcases (by omega : m' = 0 ∨ 1 ≤ m') with hm0 | hm0
        · refine Sq.guardYes hS rfl rfl rfl ?_
          refine r_gtr hS hH.kp0 rfl rfl rfl ?_; clear hS; intro a hS
          refine r_pickF hS hH.kp0 rfl rfl rfl rfl ?_; clear hS; intro a hS
          refine Sq.nil ?_
          refine then_n ?_
          refine c_condF hS rfl (DF (by omega)) ?_
          refine wp_skip ?_
          refine then_n ?_
          refine c_seq ?_
          refine reg_plain w0 (Nobody) ?_
          refine r_fieldAddr hS hH.kp0 rfl Fc.fo64_6 rfl ?_; clear hS; intro a hS
          refine r_load_sc hS hH (by repeat (first | exact Sub.nil | refine Sub.cons ?_ ?_ | exact In.here | refine In.there ?_)) rfl (by repeat (first | exact In.here | refine In.there ?_)) Fc.sc9 (by rfl) rfl ?_; clear hS; intro a hS
          refine r_strBytesK hS hH (by repeat (first | exact Sub.nil | refine Sub.cons ?_ ?_ | exact In.here | refine In.there ?_)) rfl Fc.und9 Fc.und22 Fc.ui5 rfl ?_
          clear hS hH; intro a w b90 c90 l90 f90 hb90 hbw90 hl90 hc90 hS hH
          refine r_assign hS hH.kp0 rfl rfl ?_; clear hS; intro a hS
          refine r_assign hS hH.kp0 rfl rfl ?_; clear hS; intro a hS
          refine Sq.nil ?_
          refine then_n ?_
          refine wp_ret ?_
          exact leave (.inl rfl) hS rfl (Res.tmp rfl (Res.tmp rfl Res.nil)) ⟨.inl ⟨s, t, b90, c90, l90, f90, ⟨ht, hgd.trans hgs, heq, hsz, hm'.1 hm0⟩, rfl, hb90, hH.get (b := b90) (by repeat (first | exact In.here | refine In.there ?_)), hl90, hc90⟩, hH.mod⟩
        · refine Sq.guardYes hS rfl rfl rfl ?_
          refine r_gtr hS hH.kp0 rfl rfl rfl ?_; clear hS; intro a hS
          refine r_pickF hS hH.kp0 rfl rfl rfl rfl ?_; clear hS; intro a hS
          refine Sq.nil ?_
          refine then_n ?_
          refine c_condT hS rfl (DT (by omega)) ?_
          refine c_seq ?_
          refine reg_plain w0 (Nobody) ?_
          refine r_assign hS hH.kp0 rfl rfl ?_; clear hS; intro a hS
          refine r_assign hS hH.kp0 rfl rfl ?_; clear hS; intro a hS
          refine Sq.nil ?_
          refine then_n ?_
          refine wp_ret ?_
          refine then_r ?_
          refine leave (.inl rfl) hS rfl (Res.tmp rfl (Res.tmp rfl Res.nil)) ⟨.inr ⟨?_, rfl⟩, hH.mod⟩
          rintro ⟨s2, t2, hR⟩
          have hs2 := at_lt hR.at_
          obtain rfl : s2 = s := nm_inj (by omega) (by omega) ((hR.name.symm.trans hgd).trans hgs)
          obtain rfl : t2 = t := Option.some.inj (hR.at_.symm.trans ht)
          have := hm'.2 hR.zero
          omega
    · refine r_move hS hH.kp0 rfl rfl ?_; clear hS; intro a hS
      refine Sq.guardNo hS rfl rfl rfl hH.kp0 rfl ?_; clear hS; intro a hS
      refine Sq.guardNo hS rfl rfl rfl hH.kp0 rfl ?_; clear hS; intro a hS
      refine Sq.guardNo hS rfl rfl rfl hH.kp0 rfl ?_; clear hS; intro a hS
      refine Sq.guardNo hS rfl rfl rfl hH.kp0 rfl ?_; clear hS; intro a hS
      refine Sq.guardNo hS rfl rfl rfl hH.kp0 rfl ?_; clear hS; intro a hS
      refine r_pickT hS hH.kp0 rfl rfl rfl rfl ?_; clear hS; intro a hS
      refine r_move hS hH.kp0 rfl rfl ?_; clear hS; intro a hS
      refine Sq.guardNo hS rfl rfl rfl hH.kp0 rfl ?_; clear hS; intro a hS
      refine Sq.guardNo hS rfl rfl rfl hH.kp0 rfl ?_; clear hS; intro a hS
      refine Sq.guardNo hS rfl rfl rfl hH.kp0 rfl ?_; clear hS; intro a hS
      refine Sq.guardNo hS rfl rfl rfl hH.kp0 rfl ?_; clear hS; intro a hS
      refine Sq.guardNo hS rfl rfl rfl hH.kp0 rfl ?_; clear hS; intro a hS
      refine Sq.guardNo hS rfl rfl rfl hH.kp0 rfl ?_; clear hS; intro a hS
      refine r_pickT hS hH.kp0 rfl rfl rfl rfl ?_; clear hS; intro a hS
      refine Sq.nil ?_
      refine then_n ?_
      refine c_condT hS rfl rfl ?_
      refine c_seq ?_
      refine reg_plain w0 (Nobody) ?_
      refine r_assign hS hH.kp0 rfl rfl ?_; clear hS; intro a hS
      refine r_assign hS hH.kp0 rfl rfl ?_; clear hS; intro a hS
      refine Sq.nil ?_
      refine then_n ?_
      refine wp_ret ?_
      refine then_r ?_
      refine leave (.inl rfl) hS rfl (Res.tmp rfl (Res.tmp rfl Res.nil)) ⟨.inr ⟨?_, rfl⟩, hH.mod⟩
      rintro ⟨s2, t2, hR⟩
      have hs2 := at_lt hR.at_
      obtain rfl : s2 = s := nm_inj (by omega) (by omega) ((hR.name.symm.trans hgd).trans hgs)
      obtain rfl : t2 = t := Option.some.inj (hR.at_.symm.trans ht)
      exact hrr.1 rfl (congrArg Tm.cells hR.term)

end Go.Proofs.YtcjmehononbadaaDoor
