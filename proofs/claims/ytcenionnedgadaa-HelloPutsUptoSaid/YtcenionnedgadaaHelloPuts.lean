/- For every input of bulk at most 1048576 the law HelloPuts returns true and the input reads as it did. Part HelloPuts: walks and lemmas of the proof. -/
import Derived.Test.YtcenionnedgadaaRows
import Derived.Test.YtcenionnedgadaaHello5
import Derived.Test.YtcenionnedgadaaSymRow4
import Derived.Test.YtcenionnedgadaaSymRow
namespace Go.Proofs.Ytcenionnedgadaa.helloPuts
open Go.ChangeShapes Go.WideShapes Go.ChangeAt Go.RowKit Go.Joins Go.Sym

theorem own : ownKnob Try.prog.godebug = none := by kernel_rfl

theorem len_le {H : Type} (l : List (DataW H)) : l.length ≤ Rows.uptoBulkAll l := by
  induction l with
  | nil => simp [Rows.uptoBulkAll]
  | cons x r ih =>
    have : 1 ≤ Rows.uptoBulk x := by
      cases x with
      | lit l => cases l <;> simp [Rows.uptoBulk]
      | nil => simp [Rows.uptoBulk]
      | ptr d => simp [Rows.uptoBulk]
      | slice elems spare => simp [Rows.uptoBulk]
      | agg parts => simp [Rows.uptoBulk]
      | iface t d => simp [Rows.uptoBulk]
      | map entries => simp [Rows.uptoBulk]
      | held h => simp [Rows.uptoBulk]
    simp only [Rows.uptoBulkAll, List.length_cons]; omega


set_option maxRecDepth 100000 in
theorem contract (H : Type) (enc : TypeId × Value → H) (W : World) (base : Nat) (args : Array Value) (ds gs : List (DataW H)) (before : List MemPlace)
    (hval : ∀ (j : Nat) t v, Try.f3.params[j]? = some t → args[j]? = some v → Value.okWide Try.prog W .any base t v)
    (hW : DataW.Whole enc Try.prog Try.f3.params.toList Rows.helloPutsSpec.vars false W args.toList ds gs before) (hk : Rows.uptoSmall H (ds ++ gs) = true) :
    Calls Try.prog 3 args W fun e W' => ∃ v, e = .returned v ∧ Rows.helloPutsSpec.post enc Try.prog Try.f3 false true false false W args v W' := by
  have hW' := hW
  obtain ⟨p, q, hA0, hV, rfl, hfz, hnd⟩ := hW
  have hA : DataW.TrodAll enc Try.prog W 0 (fun _ => true) true Try.f3.params.toList args.toList ds p := hA0
  rw [Try.params3] at hA hval
  obtain ⟨v0, vs0, d0, ds0, p0, q0, hargs, rfl, rfl, h0, r0⟩ := trodAll_cons hA
  obtain ⟨rfl, rfl, rfl⟩ := trodAll_nil r0
  obtain rfl : args = #[v0] := by cases args; simp_all
  obtain ⟨rfl, rfl⟩ := trodVars_none hV
  have ho0 := hv_of hval (j := 0) (t := 27) (v := v0) rfl rfl
  obtain ⟨l, l1, l2, l7, la, v0, v3, v4, v5, v6, v8, v9, vb, y0, y1, y2, y3, y4, y5, y6, y7, y8, y9, ya, yb, n, rfl, hle, rfl, t0, t1, t2, t3, t4, t5, t6, t7, t8, t9, ta, tb⟩ := open_msg Try.underlying27 (by kernel_rfl) ⟨by kernel_rfl, by kernel_rfl, by kernel_rfl, by kernel_rfl, by kernel_rfl, by kernel_rfl, by kernel_rfl, by kernel_rfl, by kernel_rfl, by kernel_rfl, by kernel_rfl, by kernel_rfl⟩ ⟨rfl, rfl, rfl, rfl, rfl, rfl, rfl, rfl, rfl, rfl, rfl, rfl⟩ ho0 h0
  obtain ⟨k0, e0, _, _⟩ := DataW.trod_int Try.underlying3 t0
  obtain ⟨kb, eb, _, _⟩ := DataW.trod_int Try.underlying3 tb
  obtain ⟨tg1, e1, htg1⟩ := open_tag Try.underlying23 Try.underlying5 (by kernel_rfl) (by kernel_rfl) t1
  obtain ⟨tg2, e2, htg2⟩ := open_tag Try.underlying23 Try.underlying5 (by kernel_rfl) (by kernel_rfl) t2
  obtain ⟨tg7, e7, htg7⟩ := open_tag Try.underlying23 Try.underlying5 (by kernel_rfl) (by kernel_rfl) t7
  obtain ⟨tga, ea, htga⟩ := open_tag Try.underlying23 Try.underlying5 (by kernel_rfl) (by kernel_rfl) ta
  obtain ⟨s3, e3, _, _⟩ := DataW.trod_string Try.underlying9 t3
  obtain ⟨qq4, qc4, l4, e4, hb4, hbd4⟩ := open_ss Try.underlying24 Try.underlying9 (by kernel_rfl) t4
  obtain ⟨qq5, qc5, l5, e5, hb5, hbd5⟩ := open_bs Try.underlying25 Try.underlying5 (by kernel_rfl) t5
  obtain ⟨qq6, qc6, l6, e6, hb6, hbd6⟩ := open_bs Try.underlying25 Try.underlying5 (by kernel_rfl) t6
  obtain ⟨k8, e8, _⟩ := DataW.trod_bool Try.underlying4 t8
  obtain ⟨k9, e9, _⟩ := DataW.trod_bool Try.underlying4 t9
  simp only [List.cons.injEq, and_true] at e0 e3 e8 e9 eb
  subst e0 e1 e2 e3 e4 e5 e6 e7 e8 e9 ea eb
  subst hle
  have hsm := hk
  simp only [Rows.uptoSmall, decide_eq_true_eq, List.append_nil, Rows.uptoBulkAll] at hsm
  simp only [Rows.uptoBulk, Rows.uptoBulkAll] at hsm
  have hl4 : l4.length ≤ 1048576 := by
    rcases hbd4 with ⟨_, rfl⟩ | ⟨es, sp, e1, e2⟩
    · simp
    · rw [e1] at hsm
      simp only [Rows.uptoBulk] at hsm
      have := len_le es
      omega
  refine (puts_law k0 qq4 qq5 qq6 qc4 qc5 qc6 tg1 tg2 tg7 tga s3 l4 l5 l6 k8 k9 kb htg1 htg2 htg7 htga W hl4 hb4 hb5.f hb6.f).mono fun e W' ⟨he, hE⟩ => ?_
  subst he
  exact ⟨_, rfl, post_true Fc.laid rfl rfl Try.underlying4 (by kernel_rfl) ⟨rfl, rfl, rfl⟩ hW' hE⟩

set_option maxRecDepth 100000 in
theorem lifted (os : Os) (started : os.Started) (H : Type) (enc : TypeId × Value → H) (F : Stop.Interp) :
    ReturnsInHanded {} Try.checked os 3 .any ((Rows.OpenSpec.upto Rows.helloPutsSpec).pre6 enc Try.prog Try.f3 Rows.helloPutsUptoRow.domain false) (((Rows.OpenSpec.upto Rows.helloPutsSpec).at F).post enc Try.prog Try.f3 false true false false) := by
  refine returnsInHanded_of_cond (C := Try.checked) (s := Rows.OpenSpec.upto Rows.helloPutsSpec) (k := Rows.uptoSmall) rfl own started (by kernel_rfl) Try.func3
    (OpenSpec.witness (enc := enc) (C := Try.checked) (s := Rows.OpenSpec.upto Rows.helloPutsSpec) (k := Rows.uptoSmall) rfl false ⟨#[], #[.agg #[.int .i64 0, .int .u8 0, .int .u8 0, .int .u8 0, .int .u8 0, .int .u8 0, .int .u8 0, .int .u8 0, .int .u8 0, .int .u8 0, .int .u8 0, .int .u8 0, .int .u8 0, .int .u8 0, .int .u8 0, .int .u8 0, .int .u8 0, .int .u8 0, .int .u8 0, .int .u8 0, .int .u8 0, .int .u8 0, .int .u8 0, .int .u8 0, .int .u8 0, .int .u8 0, .int .u8 0, .int .u8 0, .int .u8 0, .int .u8 0, .int .u8 0, .int .u8 0, .int .u8 0, .string .empty, .slice none 0 0, .slice none 0 0, .slice none 0 0, .int .u8 0, .int .u8 0, .int .u8 0, .int .u8 0, .int .u8 0, .int .u8 0, .int .u8 0, .int .u8 0, .int .u8 0, .int .u8 0, .int .u8 0, .int .u8 0, .int .u8 0, .int .u8 0, .int .u8 0, .int .u8 0, .bool false, .bool false, .int .u8 0, .int .u8 0, .int .u8 0, .int .u8 0, .int .u8 0, .int .u8 0, .int .u8 0, .int .u8 0, .int .u8 0, .int .u8 0, .int .u8 0, .int .u8 0, .int .u8 0, .int .u8 0, .int .u8 0, .int .u8 0, .int .i64 0]], []⟩ 8 (by kernel_rfl) (by kernel_rfl) (by kernel_rfl)
      (x := ([.agg [.lit (.int .i64 0), .agg [.lit (.int .u8 0), .lit (.int .u8 0), .lit (.int .u8 0), .lit (.int .u8 0), .lit (.int .u8 0), .lit (.int .u8 0), .lit (.int .u8 0), .lit (.int .u8 0), .lit (.int .u8 0), .lit (.int .u8 0), .lit (.int .u8 0), .lit (.int .u8 0), .lit (.int .u8 0), .lit (.int .u8 0), .lit (.int .u8 0), .lit (.int .u8 0)], .agg [.lit (.int .u8 0), .lit (.int .u8 0), .lit (.int .u8 0), .lit (.int .u8 0), .lit (.int .u8 0), .lit (.int .u8 0), .lit (.int .u8 0), .lit (.int .u8 0), .lit (.int .u8 0), .lit (.int .u8 0), .lit (.int .u8 0), .lit (.int .u8 0), .lit (.int .u8 0), .lit (.int .u8 0), .lit (.int .u8 0), .lit (.int .u8 0)], .lit (.string []), .nil, .nil, .nil, .agg [.lit (.int .u8 0), .lit (.int .u8 0), .lit (.int .u8 0), .lit (.int .u8 0), .lit (.int .u8 0), .lit (.int .u8 0), .lit (.int .u8 0), .lit (.int .u8 0), .lit (.int .u8 0), .lit (.int .u8 0), .lit (.int .u8 0), .lit (.int .u8 0), .lit (.int .u8 0), .lit (.int .u8 0), .lit (.int .u8 0), .lit (.int .u8 0)], .lit (.bool false), .lit (.bool false), .agg [.lit (.int .u8 0), .lit (.int .u8 0), .lit (.int .u8 0), .lit (.int .u8 0), .lit (.int .u8 0), .lit (.int .u8 0), .lit (.int .u8 0), .lit (.int .u8 0), .lit (.int .u8 0), .lit (.int .u8 0), .lit (.int .u8 0), .lit (.int .u8 0), .lit (.int .u8 0), .lit (.int .u8 0), .lit (.int .u8 0), .lit (.int .u8 0)], .lit (.int .i64 0)]], [], [])) (by kernel_rfl) rfl (by kernel_rfl)) ?_
  intro W base args ds gs before hval hW _ hk _
  exact contract H enc W base args ds gs before hval hW hk

theorem proved : Rows.HelloPutsUptoSaid :=
  OpenClaim.holds_of_cond 3 Try.f3 rfl rfl rfl rfl rfl rfl rfl ⟨rfl, rfl, rfl, rfl, rfl⟩ rfl rfl rfl rfl rfl (by kernel_rfl) Try.func3 (by kernel_rfl)
    (of_decide_eq_true (by kernel_rfl)) (by unfold Func.isWrapper; first | (rw [if_pos (by decide +kernel)]; kernel_rfl) | (rw [if_neg (by decide +kernel)]; exact ⟨rfl, rfl⟩))
    (fun os started H enc _ F => lifted os started H enc F)
end Go.Proofs.Ytcenionnedgadaa.helloPuts
