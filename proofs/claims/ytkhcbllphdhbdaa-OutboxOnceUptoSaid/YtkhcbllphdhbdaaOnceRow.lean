/- Without losses each byte of an outbox is told once, in order, and never beyond the limit; what has not arrived is kept (for inputs up to the size bound). Part OnceRow: walks and lemmas of the proof. -/
import Derived.Test.YtkhcbllphdhbdaaRows
import Derived.Test.YtkhcbllphdhbdaaOnce1
import Derived.Test.YtkhcbllphdhbdaaSymRow
namespace Go.Proofs.Ytkhcbllphdhbdaa.outboxOnce
open Go.ChangeShapes Go.WideShapes Go.ChangeAt Go.RowKit Go.Joins Go.Sym

theorem own : ownKnob Try.prog.godebug = none := by kernel_rfl

theorem len_le {H : Type} (l : List (DataW H)) : l.length ≤ Rows.uptoBulkAll l := by
  induction l with
  | nil => simp [Rows.uptoBulkAll]
  | cons x r ih =>
    have : 1 ≤ Rows.uptoBulk x := by
      cases x with
      | lit l => cases l <;> simp [Rows.uptoBulk]
      | nil => simp [Rows.uptoBulk]
      | ptr d => simp [Rows.uptoBulk]
      | slice elems spare => simp [Rows.uptoBulk]
      | agg parts => simp [Rows.uptoBulk]
      | iface t d => simp [Rows.uptoBulk]
      | map entries => simp [Rows.uptoBulk]
      | held h => simp [Rows.uptoBulk]
    simp only [Rows.uptoBulkAll, List.length_cons]; omega


set_option maxRecDepth 100000 in
theorem contract (H : Type) (enc : TypeId × Value → H) (W : World) (base : Nat) (args : Array Value) (ds gs : List (DataW H)) (before : List MemPlace)
    (hval : ∀ (j : Nat) t v, Try.f3.params[j]? = some t → args[j]? = some v → Value.okWide Try.prog W .any base t v)
    (hW : DataW.Whole enc Try.prog Try.f3.params.toList Rows.outboxOnceSpec.vars false W args.toList ds gs before) (hk : Rows.uptoSmall H (ds ++ gs) = true) :
    Calls Try.prog 3 args W fun e W' => ∃ v, e = .returned v ∧ Rows.outboxOnceSpec.post enc Try.prog Try.f3 false true false false W args v W' := by
  have hW' := hW
  obtain ⟨p, q, hA0, hV, rfl, hfz, hnd⟩ := hW
  have hA : DataW.TrodAll enc Try.prog W 0 (fun _ => true) true Try.f3.params.toList args.toList ds p := hA0
  rw [Try.params3] at hA hval
  obtain ⟨v0, vs0, d0, ds0, p0, q0, hargs, rfl, rfl, h0, r0⟩ := trodAll_cons hA
  obtain ⟨v1, vs1, d1, ds1, p1, q1, rfl, rfl, rfl, h1, r1⟩ := trodAll_cons r0
  obtain ⟨v2, vs2, d2, ds2, p2, q2, rfl, rfl, rfl, h2, r2⟩ := trodAll_cons r1
  obtain ⟨rfl, rfl, rfl⟩ := trodAll_nil r2
  obtain rfl : args = #[v0, v1, v2] := by cases args; simp_all
  obtain ⟨rfl, rfl⟩ := trodVars_none hV
  have ho0 := hv_of hval (j := 0) (t := 22) (v := v0) rfl rfl
  have hc0 : v0.cells.toList = [v0] := by obtain ⟨_, _, _, e⟩ := okWide_slice Try.underlying22 ho0; rw [e]; rfl
  obtain ⟨fu0, h0⟩ := h0
  rw [hc0] at h0
  clear hc0 ho0
  obtain ⟨qq0, qc0, l0, rfl, hb0, hbd0⟩ := open_bs Try.underlying22 Try.underlying5 (by kernel_rfl) h0
  have ho1 := hv_of hval (j := 1) (t := 3) (v := v1) rfl rfl
  obtain ⟨a1, rfl, rfl, rfl, hr1⟩ := open_int Try.underlying3 ho1 h1
  have ho2 := hv_of hval (j := 2) (t := 3) (v := v2) rfl rfl
  obtain ⟨a2, rfl, rfl, rfl, hr2⟩ := open_int Try.underlying3 ho2 h2
  have hsm := hk
  simp only [Rows.uptoSmall, decide_eq_true_eq, List.append_nil, Rows.uptoBulkAll] at hsm
  have hl0 : l0.length ≤ 1048576 := by
    rcases hbd0 with ⟨_, rfl⟩ | ⟨es, sp, e1, e2⟩
    · simp
    · have e3 : d0 = _ := e1
      rw [e3] at hsm
      simp only [Rows.uptoBulk] at hsm
      have := len_le es
      omega
  refine (once_law _ l0 hl0 _ _ W hb0.f).mono fun e W' ⟨he, hE⟩ => ?_
  subst he
  exact ⟨_, rfl, post_true Fc.laid rfl rfl Try.underlying4 (by kernel_rfl) ⟨rfl, rfl, rfl⟩ hW' hE⟩

set_option maxRecDepth 100000 in
theorem lifted (os : Os) (started : os.Started) (H : Type) (enc : TypeId × Value → H) (F : Stop.Interp) :
    ReturnsInHanded {} Try.checked os 3 .any ((Rows.OpenSpec.upto Rows.outboxOnceSpec).pre6 enc Try.prog Try.f3 Rows.outboxOnceUptoRow.domain false) (((Rows.OpenSpec.upto Rows.outboxOnceSpec).at F).post enc Try.prog Try.f3 false true false false) := by
  refine returnsInHanded_of_cond (C := Try.checked) (s := Rows.OpenSpec.upto Rows.outboxOnceSpec) (k := Rows.uptoSmall) rfl own started (by kernel_rfl) Try.func3
    (OpenSpec.witness (enc := enc) (C := Try.checked) (s := Rows.OpenSpec.upto Rows.outboxOnceSpec) (k := Rows.uptoSmall) rfl false ⟨#[], #[.slice none 0 0, .int .i64 0, .int .i64 0], []⟩ 8 (by kernel_rfl) (by kernel_rfl) (by kernel_rfl)
      (x := ([.nil, .lit (.int .i64 0), .lit (.int .i64 0)], [], [])) (by kernel_rfl) rfl (by kernel_rfl)) ?_
  intro W base args ds gs before hval hW _ hk _
  exact contract H enc W base args ds gs before hval hW hk

theorem proved : Rows.OutboxOnceUptoSaid :=
  OpenClaim.holds_of_cond 3 Try.f3 rfl rfl rfl rfl rfl rfl rfl ⟨rfl, rfl, rfl, rfl, rfl⟩ rfl rfl rfl rfl rfl (by kernel_rfl) Try.func3 (by kernel_rfl)
    (of_decide_eq_true (by kernel_rfl)) (by unfold Func.isWrapper; first | (rw [if_pos (by decide +kernel)]; kernel_rfl) | (rw [if_neg (by decide +kernel)]; exact ⟨rfl, rfl⟩))
    (fun os started H enc _ F => lifted os started H enc F)
end Go.Proofs.Ytkhcbllphdhbdaa.outboxOnce
