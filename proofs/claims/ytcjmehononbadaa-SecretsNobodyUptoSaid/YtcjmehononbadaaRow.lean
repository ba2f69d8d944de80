/- The law SecretsNobody answers true and changes nothing, for all arguments of at most 1048576 values and letters together (statement SecretsNobodyUptoSaid). Part Row: lemmas and walks that the proof uses. -/
import Derived.Test.YtcjmehononbadaaRows
import Derived.Test.YtcjmehononbadaaWalk3
import Derived.Test.YtcjmehononbadaaSymRow
namespace Go.Proofs.Ytcjmehononbadaa.secretsNobody
open Go.ChangeShapes Go.WideShapes Go.ChangeAt Go.RowKit Go.Joins Go.Sym

section
variable {H : Type} {enc : TypeId × Value → H} {P : Program} {w : World} {base : Nat} {spare : Nat → Bool} {held : Bool}
theorem hv_of {ps : Array TypeId} {vs : Array Value} {r : Reach} {b0 j : Nat} {t : TypeId} {v : Value} (h : ∀ (j : Nat) t v, ps[j]? = some t → vs[j]? = some v → Value.okWide P w r b0 t v) (hp : ps[j]? = some t) (ha : vs[j]? = some v) : Value.okWide P w r b0 t v := h j t v hp ha
theorem open_agg5 {r : Reach} {b0 : Nat} {t : TypeId} {f0 f1 f2 f3 f4 : Field} {v : Value} {d : DataW H} {p : List MemPlace} (hs : P.underlying t = some (.struct #[f0, f1, f2, f3, f4])) (hC : P.cellsOf t = 5)
    (hC0 : P.cellsOf f0.type = 1) (hC1 : P.cellsOf f1.type = 1) (hC2 : P.cellsOf f2.type = 1) (hC3 : P.cellsOf f3.type = 1) (hC4 : P.cellsOf f4.type = 1) (ho : f0.offset = 0 ∧ f1.offset = 1 ∧ f2.offset = 2 ∧ f3.offset = 3 ∧ f4.offset = 4)
    (hv : Value.okWide P w r b0 t v) (h : DataW.Trod enc P w base spare held t v d p) :
    ∃ (v0 v1 v2 v3 v4 : Value) (y0 y1 y2 y3 y4 : DataW H × List MemPlace) (n : Nat), v = .agg #[v0, v1, v2, v3, v4] ∧ d = .agg [y0.1, y1.1, y2.1, y3.1, y4.1] ∧
      DataW.trod enc P w base spare held n f0.type [v0] = some y0 ∧ DataW.trod enc P w base spare held n f1.type [v1] = some y1 ∧ DataW.trod enc P w base spare held n f2.type [v2] = some y2 ∧ DataW.trod enc P w base spare held n f3.type [v3] = some y3 ∧ DataW.trod enc P w base spare held n f4.type [v4] = some y4 := by
  obtain ⟨cs, rfl, hsz⟩ := okWide_struct hs hv
  obtain ⟨l⟩ := cs
  obtain ⟨o0, o1, o2, o3, o4⟩ := ho
  match l, hsz.trans hC with
  | [c0, c1, c2, c3, c4], _ =>
    obtain ⟨fuel, hf⟩ := h
    obtain ⟨xs, n, _, hx, _, hlen, hg⟩ := DataW.trod_struct hs hf
    match xs, hlen with
    | [y0, y1, y2, y3, y4], _ =>
      simp only [Prod.mk.injEq] at hx
      exact ⟨c0, c1, c2, c3, c4, y0, y1, y2, y3, y4, n, rfl, by simpa using hx.1, by simpa [Value.cells, o0, hC0] using hg 0 f0 rfl, by simpa [Value.cells, o1, hC1] using hg 1 f1 rfl, by simpa [Value.cells, o2, hC2] using hg 2 f2 rfl, by simpa [Value.cells, o3, hC3] using hg 3 f3 rfl, by simpa [Value.cells, o4, hC4] using hg 4 f4 rfl⟩
end

theorem own : ownKnob Try.prog.godebug = none := by kernel_rfl

theorem len_le {H : Type} (l : List (DataW H)) : l.length ≤ Rows.uptoBulkAll l := by
  induction l with
  | nil => simp [Rows.uptoBulkAll]
  | cons x r ih =>
    have : 1 ≤ Rows.uptoBulk x := by
      cases x with
      | lit l => cases l <;> simp [Rows.uptoBulk]
      | nil => simp [Rows.uptoBulk]
      | ptr d => simp [Rows.uptoBulk]
      | slice elems spare => simp [Rows.uptoBulk]
      | agg parts => simp [Rows.uptoBulk]
      | iface t d => simp [Rows.uptoBulk]
      | map entries => simp [Rows.uptoBulk]
      | held h => simp [Rows.uptoBulk]
    simp only [Rows.uptoBulkAll, List.length_cons]; omega

set_option maxRecDepth 100000 in
theorem contract (H : Type) (enc : TypeId × Value → H) (W : World) (base : Nat) (args : Array Value) (ds gs : List (DataW H)) (before : List MemPlace)
    (hval : ∀ (j : Nat) t v, Try.f6.params[j]? = some t → args[j]? = some v → Value.okWide Try.prog W .any base t v)
    (hW : DataW.Whole enc Try.prog Try.f6.params.toList Rows.secretsNobodySpec.vars false W args.toList ds gs before) (hk : Rows.uptoSmall H (ds ++ gs) = true) :
    Calls Try.prog 6 args W fun e W' => ∃ v, e = .returned v ∧ Rows.secretsNobodySpec.post enc Try.prog Try.f6 false true false false W args v W' := by
  have hW' := hW
  obtain ⟨p, q, hA0, hV, rfl, hfz, hnd⟩ := hW
  have hA : DataW.TrodAll enc Try.prog W 0 (fun _ => true) true Try.f6.params.toList args.toList ds p := hA0
  rw [Try.params6] at hA hval
  obtain ⟨v0, vs0, d0, ds0, p0, q0, hargs, rfl, rfl, h0, r0⟩ := trodAll_cons hA
  obtain ⟨rfl, rfl, rfl⟩ := trodAll_nil r0
  obtain rfl : args = #[v0] := by cases args; simp_all
  obtain ⟨rfl, rfl⟩ := trodVars_none hV
  have hv0 := hv_of hval (j := 0) rfl rfl
  have hC : Try.prog.cellsOf 66 = 5 := by kernel_rfl
  obtain ⟨c0, c1, c2, c3, c4, y0, y1, y2, y3, y4, n, rfl, rfl, t0, t1, t2, t3, t4⟩ := open_agg5 Try.underlying66 hC (by kernel_rfl) (by kernel_rfl) (by kernel_rfl) (by kernel_rfl) (by kernel_rfl) ⟨rfl, rfl, rfl, rfl, rfl⟩ hv0 h0
  obtain ⟨k, e0, rfl, wk⟩ := DataW.trod_int Try.underlying3 t0
  obtain ⟨a, e1, rfl, wa⟩ := DataW.trod_int Try.underlying3 t1
  obtain ⟨b, e2, rfl, wb⟩ := DataW.trod_int Try.underlying3 t2
  obtain ⟨s, e3, rfl, ws⟩ := DataW.trod_string Try.underlying9 t3
  obtain ⟨qq, qc, l, rfl, hb, hbd⟩ := open_bs Try.underlying22 Try.underlying5 (by kernel_rfl) t4
  simp only [List.cons.injEq, and_true] at e0 e1 e2 e3
  subst e0 e1 e2 e3
  have hl : l.length ≤ 1048576 := by
    have h := hk
    simp only [Rows.uptoSmall, decide_eq_true_eq, List.append_nil] at h
    simp only [Rows.uptoBulkAll, Rows.uptoBulk] at h
    rcases hbd with ⟨_, rfl⟩ | ⟨es, sp, h1, h2⟩
    · simp
    · rw [h1] at h
      simp only [Rows.uptoBulk] at h
      have := len_le es
      omega
  refine (law_no k a b s qq qc l hl W hb).mono fun e W' ⟨he, hE⟩ => ?_
  subst he
  exact ⟨_, rfl, post_true Fc.laid rfl rfl Try.underlying4 (by kernel_rfl) ⟨rfl, rfl, rfl⟩ hW' hE⟩

set_option maxRecDepth 100000 in
theorem lifted (os : Os) (started : os.Started) (H : Type) (enc : TypeId × Value → H) (F : Stop.Interp) :
    ReturnsInHanded {} Try.checked os 6 .any ((Rows.OpenSpec.upto Rows.secretsNobodySpec).pre6 enc Try.prog Try.f6 Rows.secretsNobodyUptoRow.domain false) (((Rows.OpenSpec.upto Rows.secretsNobodySpec).at F).post enc Try.prog Try.f6 false true false false) := by
  refine returnsInHanded_of_cond (C := Try.checked) (s := Rows.OpenSpec.upto Rows.secretsNobodySpec) (k := Rows.uptoSmall) rfl own started (by kernel_rfl) Try.func6
    (OpenSpec.witness (enc := enc) (C := Try.checked) (s := Rows.OpenSpec.upto Rows.secretsNobodySpec) (k := Rows.uptoSmall) rfl false ⟨#[], #[.agg #[.int .i64 0, .int .i64 0, .int .i64 0, .string .empty, .slice none 0 0]], []⟩ 8 (by kernel_rfl) (by kernel_rfl) (by kernel_rfl)
      (x := ([.agg [.lit (.int .i64 0), .lit (.int .i64 0), .lit (.int .i64 0), .lit (.string []), .nil]], [], [])) (by kernel_rfl) rfl (by kernel_rfl)) ?_
  intro W base args ds gs before hval hW _ hk _
  exact contract H enc W base args ds gs before hval hW hk

theorem proved : Rows.SecretsNobodyUptoSaid :=
  OpenClaim.holds_of_cond 6 Try.f6 rfl rfl rfl rfl rfl rfl rfl ⟨rfl, rfl, rfl, rfl, rfl⟩ rfl rfl rfl rfl rfl (by kernel_rfl) Try.func6 (by kernel_rfl)
    (of_decide_eq_true (by kernel_rfl)) (by unfold Func.isWrapper; first | (rw [if_pos (by decide +kernel)]; kernel_rfl) | (rw [if_neg (by decide +kernel)]; exact ⟨rfl, rfl⟩))
    (fun os started H enc _ F => lifted os started H enc F)
end Go.Proofs.Ytcjmehononbadaa.secretsNobody
