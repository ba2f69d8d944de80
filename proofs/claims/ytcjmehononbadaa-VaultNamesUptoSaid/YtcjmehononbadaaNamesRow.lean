/- For every input of bulk at most 1048576 the law VaultNames returns true and the input reads as it did. Part NamesRow: walks and lemmas of the proof. -/
import Derived.Test.YtcjmehononbadaaRows
import Derived.Test.YtcjmehononbadaaNames1
import Derived.Test.YtcjmehononbadaaSymRow
namespace Go.Proofs.Ytcjmehononbadaa.vaultNames
open Go.ChangeShapes Go.WideShapes Go.ChangeAt Go.RowKit Go.Joins Go.Sym

theorem own : ownKnob Try.prog.godebug = none := by kernel_rfl

theorem len_le {H : Type} (l : List (DataW H)) : l.length ≤ Rows.uptoBulkAll l := by
  induction l with
  | nil => simp [Rows.uptoBulkAll]
  | cons x r ih =>
    have : 1 ≤ Rows.uptoBulk x := by
      cases x with
      | lit l => cases l <;> simp [Rows.uptoBulk]
      | nil => simp [Rows.uptoBulk]
      | ptr d => simp [Rows.uptoBulk]
      | slice elems spare => simp [Rows.uptoBulk]
      | agg parts => simp [Rows.uptoBulk]
      | iface t d => simp [Rows.uptoBulk]
      | map entries => simp [Rows.uptoBulk]
      | held h => simp [Rows.uptoBulk]
    simp only [Rows.uptoBulkAll, List.length_cons]; omega


set_option maxRecDepth 100000 in
theorem contract (H : Type) (enc : TypeId × Value → H) (W : World) (base : Nat) (args : Array Value) (ds gs : List (DataW H)) (before : List MemPlace)
    (hval : ∀ (j : Nat) t v, Try.f5.params[j]? = some t → args[j]? = some v → Value.okWide Try.prog W .any base t v)
    (hW : DataW.Whole enc Try.prog Try.f5.params.toList Rows.vaultNamesSpec.vars false W args.toList ds gs before) (hk : Rows.uptoSmall H (ds ++ gs) = true) :
    Calls Try.prog 5 args W fun e W' => ∃ v, e = .returned v ∧ Rows.vaultNamesSpec.post enc Try.prog Try.f5 false true false false W args v W' := by
  have hW' := hW
  obtain ⟨p, q, hA0, hV, rfl, hfz, hnd⟩ := hW
  have hA : DataW.TrodAll enc Try.prog W 0 (fun _ => true) true Try.f5.params.toList args.toList ds p := hA0
  rw [Try.params5] at hA hval
  obtain ⟨v0, vs0, d0, ds0, p0, q0, hargs, rfl, rfl, h0, r0⟩ := trodAll_cons hA
  obtain ⟨v1, vs1, d1, ds1, p1, q1, rfl, rfl, rfl, h1, r1⟩ := trodAll_cons r0
  obtain ⟨rfl, rfl, rfl⟩ := trodAll_nil r1
  obtain rfl : args = #[v0, v1] := by cases args; simp_all
  obtain ⟨rfl, rfl⟩ := trodVars_none hV
  have ho0 := hv_of hval (j := 0) (t := 3) (v := v0) rfl rfl
  obtain ⟨a0, rfl, rfl, rfl, hr0⟩ := open_int Try.underlying3 ho0 h0
  have ho1 := hv_of hval (j := 1) (t := 22) (v := v1) rfl rfl
  have hc1 : v1.cells.toList = [v1] := by obtain ⟨_, _, _, e⟩ := okWide_slice Try.underlying22 ho1; rw [e]; rfl
  obtain ⟨fu1, h1⟩ := h1
  rw [hc1] at h1
  clear hc1 ho1
  obtain ⟨qq1, qc1, l1, rfl, hb1, hbd1⟩ := open_bs Try.underlying22 Try.underlying5 (by kernel_rfl) h1
  have hsm := hk
  simp only [Rows.uptoSmall, decide_eq_true_eq, List.append_nil, Rows.uptoBulkAll] at hsm
  have hl1 : l1.length ≤ 1048576 := by
    rcases hbd1 with ⟨_, rfl⟩ | ⟨es, sp, e1, e2⟩
    · simp
    · have e3 : d1 = _ := e1
      rw [e3] at hsm
      simp only [Rows.uptoBulk] at hsm
      have := len_le es
      omega
  refine (names_law a0 _ l1 hl1 W hb1.f).mono fun e W' ⟨he, hE⟩ => ?_
  subst he
  exact ⟨_, rfl, post_true Fc.laid rfl rfl Try.underlying4 (by kernel_rfl) ⟨rfl, rfl, rfl⟩ hW' hE⟩

set_option maxRecDepth 100000 in
theorem lifted (os : Os) (started : os.Started) (H : Type) (enc : TypeId × Value → H) (F : Stop.Interp) :
    ReturnsInHanded {} Try.checked os 5 .any ((Rows.OpenSpec.upto Rows.vaultNamesSpec).pre6 enc Try.prog Try.f5 Rows.vaultNamesUptoRow.domain false) (((Rows.OpenSpec.upto Rows.vaultNamesSpec).at F).post enc Try.prog Try.f5 false true false false) := by
  refine returnsInHanded_of_cond (C := Try.checked) (s := Rows.OpenSpec.upto Rows.vaultNamesSpec) (k := Rows.uptoSmall) rfl own started (by kernel_rfl) Try.func5
    (OpenSpec.witness (enc := enc) (C := Try.checked) (s := Rows.OpenSpec.upto Rows.vaultNamesSpec) (k := Rows.uptoSmall) rfl false ⟨#[], #[.int .i64 0, .slice none 0 0], []⟩ 8 (by kernel_rfl) (by kernel_rfl) (by kernel_rfl)
      (x := ([.lit (.int .i64 0), .nil], [], [])) (by kernel_rfl) rfl (by kernel_rfl)) ?_
  intro W base args ds gs before hval hW _ hk _
  exact contract H enc W base args ds gs before hval hW hk

theorem proved : Rows.VaultNamesUptoSaid :=
  OpenClaim.holds_of_cond 5 Try.f5 rfl rfl rfl rfl rfl rfl rfl ⟨rfl, rfl, rfl, rfl, rfl⟩ rfl rfl rfl rfl rfl (by kernel_rfl) Try.func5 (by kernel_rfl)
    (of_decide_eq_true (by kernel_rfl)) (by unfold Func.isWrapper; first | (rw [if_pos (by decide +kernel)]; kernel_rfl) | (rw [if_neg (by decide +kernel)]; exact ⟨rfl, rfl⟩))
    (fun os started H enc _ F => lifted os started H enc F)
end Go.Proofs.Ytcjmehononbadaa.vaultNames
