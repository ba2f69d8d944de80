/- A text that is written to an outbox arrives whole at an inbox, whatever is lost and comes twice. Part ArrivesRow: walks and lemmas of the proof. -/
import Derived.Test.YtkhcbllphdhbdaaRows
import Derived.Test.YtkhcbllphdhbdaaArrives1
import Derived.Test.YtkhcbllphdhbdaaSymRow
namespace Go.Proofs.Ytkhcbllphdhbdaa.outboxArrives
open Go.ChangeShapes Go.WideShapes Go.ChangeAt Go.RowKit Go.Joins Go.Sym

theorem own : ownKnob Try.prog.godebug = none := by kernel_rfl

theorem len_le {H : Type} (l : List (DataW H)) : l.length ≤ Rows.uptoBulkAll l := by
  induction l with
  | nil => simp [Rows.uptoBulkAll]
  | cons x r ih =>
    have : 1 ≤ Rows.uptoBulk x := by
      cases x with
      | lit l => cases l <;> simp [Rows.uptoBulk]
      | nil => simp [Rows.uptoBulk]
      | ptr d => simp [Rows.uptoBulk]
      | slice elems spare => simp [Rows.uptoBulk]
      | agg parts => simp [Rows.uptoBulk]
      | iface t d => simp [Rows.uptoBulk]
      | map entries => simp [Rows.uptoBulk]
      | held h => simp [Rows.uptoBulk]
    simp only [Rows.uptoBulkAll, List.length_cons]; omega


theorem ex_list {α : Type} (p : Nat → α → Prop) : ∀ (n : Nat), (∀ i, i < n → ∃ x, p i x) → ∃ l : List α, l.length = n ∧ ∀ i x, l[i]? = some x → p i x
  | 0, _ => ⟨[], rfl, fun i x h => by simp at h⟩
  | n + 1, h => by
    obtain ⟨l, hl, hp⟩ := ex_list p n (fun i hi => h i (by omega))
    obtain ⟨x, hx⟩ := h n (by omega)
    refine ⟨l ++ [x], by simp [hl], fun i y hy => ?_⟩
    rw [List.getElem?_append] at hy
    split at hy
    · exact hp i y hy
    · rename_i hge
      have : i = n := by
        have := (List.getElem?_eq_some_iff.1 hy).1
        simp at this; omega
      subst this
      rw [hl] at hy
      simp at hy
      rw [← hy]; exact hx

section
variable {H : Type} {enc : TypeId × Value → H} {P : Program} {w : World} {base : Nat} {spare : Nat → Bool} {held : Bool}
theorem open_fates {t e : TypeId} {fuel : Nat} {v : Value} {x : DataW H × List MemPlace} {f0 f1 f2 : Field} (ht : P.underlying t = some (.slice e)) (hs : P.underlying e = some (.struct #[f0, f1, f2])) (hC : P.cellsOf e = 3)
    (hC0 : P.cellsOf f0.type = 1) (hC1 : P.cellsOf f1.type = 1) (hC2 : P.cellsOf f2.type = 1) (ho : f0.offset = 0 ∧ f1.offset = 1 ∧ f2.offset = 2)
    (u0 : P.underlying f0.type = some (.int .i64)) (u1 : P.underlying f1.type = some .bool) (u2 : P.underlying f2.type = some .bool)
    (h : DataW.trod enc P w base spare held fuel t [v] = some x) : ∃ (q : Option Addr) (qc : Nat) (fs : List FaT), v = .slice q fs.length qc ∧ Fas w q fs ∧ (x.1 = .nil ∧ fs = [] ∨ ∃ es sp, x.1 = .slice es sp ∧ es.length = fs.length) := by
  obtain ⟨o0, o1, o2⟩ := ho
  rcases DataW.trod_slice ht h with ⟨hcs, hx⟩ | ⟨a, len, cap, elems, rest, n, _, hcs, hx, hb, hl, hm, hlen, hel, _, _⟩
  · simp only [List.cons.injEq, and_true] at hcs
    exact ⟨none, 0, [], hcs, fun i x hx => by simp at hx, .inl ⟨congrArg Prod.fst hx, rfl⟩⟩
  · simp only [List.cons.injEq, and_true] at hcs
    have hplain : 0 < len → ∃ b o, a = ⟨b, o, none⟩ := by
      intro h0
      have h1 := hel 0 h0
      obtain ⟨y, hy⟩ : ∃ y, elems[0]? = some y := ⟨_, List.getElem?_eq_getElem (by omega)⟩
      rw [hy, hC, Option.bind_eq_some_iff] at h1
      obtain ⟨cs, hc1, _⟩ := h1
      obtain ⟨_, hcl, hcg⟩ := World.cells?_some hc1
      have g0 := hcg 0 (by omega)
      rw [List.getElem?_eq_getElem (by omega)] at g0
      have ea : a.add (0 * 3) = a := by simp [Addr.add]
      rw [ea] at g0
      exact plain_addr g0
    have key : ∀ i, i < len → ∃ y : FaT, ∃ b o, some a = some ⟨b, o, none⟩ ∧ ∀ j u, y.cells[j]? = some u → w.cell? ⟨b, o + i * 3 + j, none⟩ = some u := by
      intro i hi
      have h1 := hel i hi
      obtain ⟨y, hy⟩ : ∃ y, elems[i]? = some y := ⟨_, List.getElem?_eq_getElem (by omega)⟩
      rw [hy, hC, Option.bind_eq_some_iff] at h1
      obtain ⟨cs, hc1, hc2⟩ := h1
      obtain ⟨_, hcl, hcg⟩ := World.cells?_some hc1
      obtain ⟨xs, m, _, hyx, hsz, hxl, hg⟩ := DataW.trod_struct hs hc2
      match cs, hcl, xs, hxl with
      | [c0, c1, c2], _, [y0, y1, y2], _ =>
        have t0 : DataW.trod enc P w base spare held m f0.type [c0] = some y0 := by simpa [o0, hC0] using hg 0 f0 rfl
        have t1 : DataW.trod enc P w base spare held m f1.type [c1] = some y1 := by simpa [o1, hC1] using hg 1 f1 rfl
        have t2 : DataW.trod enc P w base spare held m f2.type [c2] = some y2 := by simpa [o2, hC2] using hg 2 f2 rfl
        obtain ⟨k, e0, _, _⟩ := DataW.trod_int u0 t0
        obtain ⟨lo, e1, _⟩ := DataW.trod_bool u1 t1
        obtain ⟨tw, e2, _⟩ := DataW.trod_bool u2 t2
        simp only [List.cons.injEq, and_true] at e0 e1 e2
        subst e0 e1 e2
        obtain ⟨b, o, rfl⟩ := hplain (by omega)
        refine ⟨⟨k, lo, tw⟩, b, o, rfl, fun j u hu => ?_⟩
        have hj : j < 3 := by have := (List.getElem?_eq_some_iff.1 hu).1; simpa [FaT.cells] using this
        have gj := hcg j (by omega)
        rw [add_eq, add_eq] at gj
        rw [gj]; exact hu
    obtain ⟨fs, hfl, hfp⟩ := ex_list _ len key
    refine ⟨some a, cap, fs, by rw [hfl]; exact hcs, fun i y hy => hfp i y hy, .inr ⟨_, _, congrArg Prod.fst hx, ?_⟩⟩
    rw [hfl]; simp; omega
end

set_option maxRecDepth 100000 in
theorem contract (H : Type) (enc : TypeId × Value → H) (W : World) (base : Nat) (args : Array Value) (ds gs : List (DataW H)) (before : List MemPlace)
    (hval : ∀ (j : Nat) t v, Try.f5.params[j]? = some t → args[j]? = some v → Value.okWide Try.prog W .any base t v)
    (hW : DataW.Whole enc Try.prog Try.f5.params.toList Rows.outboxArrivesSpec.vars false W args.toList ds gs before) (hk : Rows.uptoSmall H (ds ++ gs) = true) :
    Calls Try.prog 5 args W fun e W' => ∃ v, e = .returned v ∧ Rows.outboxArrivesSpec.post enc Try.prog Try.f5 false true false false W args v W' := by
  have hW' := hW
  obtain ⟨p, q, hA0, hV, rfl, hfz, hnd⟩ := hW
  have hA : DataW.TrodAll enc Try.prog W 0 (fun _ => true) true Try.f5.params.toList args.toList ds p := hA0
  rw [Try.params5] at hA hval
  obtain ⟨v0, vs0, d0, ds0, p0, q0, hargs, rfl, rfl, h0, r0⟩ := trodAll_cons hA
  obtain ⟨v1, vs1, d1, ds1, p1, q1, rfl, rfl, rfl, h1, r1⟩ := trodAll_cons r0
  obtain ⟨rfl, rfl, rfl⟩ := trodAll_nil r1
  obtain rfl : args = #[v0, v1] := by cases args; simp_all
  obtain ⟨rfl, rfl⟩ := trodVars_none hV
  have ho0 := hv_of hval (j := 0) (t := 22) (v := v0) rfl rfl
  have hc0 : v0.cells.toList = [v0] := by obtain ⟨_, _, _, e⟩ := okWide_slice Try.underlying22 ho0; rw [e]; rfl
  obtain ⟨fu0, h0⟩ := h0
  rw [hc0] at h0
  clear hc0 ho0
  obtain ⟨qq0, qc0, l0, rfl, hb0, hbd0⟩ := open_bs Try.underlying22 Try.underlying5 (by kernel_rfl) h0
  have ho1 := hv_of hval (j := 1) (t := 57) (v := v1) rfl rfl
  have hc1 : v1.cells.toList = [v1] := by obtain ⟨_, _, _, e⟩ := okWide_slice Try.underlying57 ho1; rw [e]; rfl
  obtain ⟨fu1, h1⟩ := h1
  rw [hc1] at h1
  clear hc1 ho1
  obtain ⟨qq1, qc1, fs1, rfl, hfa1, hfn1⟩ := open_fates Try.underlying57 Try.underlying62 (by kernel_rfl) (by kernel_rfl) (by kernel_rfl) (by kernel_rfl) ⟨rfl, rfl, rfl⟩ Try.underlying3 Try.underlying4 Try.underlying4 h1
  have hsm := hk
  simp only [Rows.uptoSmall, decide_eq_true_eq, List.append_nil, Rows.uptoBulkAll] at hsm
  have hl0 : l0.length ≤ 1048576 := by
    rcases hbd0 with ⟨_, rfl⟩ | ⟨es, sp, e1, e2⟩
    · simp
    · have e3 : d0 = _ := e1
      rw [e3] at hsm
      simp only [Rows.uptoBulk] at hsm
      have := len_le es
      omega
  have hl1 : fs1.length ≤ 1099511627776 := by
    rcases hfn1 with ⟨_, rfl⟩ | ⟨es, sp, e1, e2⟩
    · simp
    · have e3 : d1 = _ := e1
      rw [e3] at hsm
      simp only [Rows.uptoBulk] at hsm
      have := len_le es
      omega
  refine (arrives_law _ l0 hl0 _ _ fs1 hl1 W hb0.f hfa1).mono fun e W' ⟨he, hE⟩ => ?_
  subst he
  exact ⟨_, rfl, post_true Fc.laid rfl rfl Try.underlying4 (by kernel_rfl) ⟨rfl, rfl, rfl⟩ hW' hE⟩

set_option maxRecDepth 100000 in
theorem lifted (os : Os) (started : os.Started) (H : Type) (enc : TypeId × Value → H) (F : Stop.Interp) :
    ReturnsInHanded {} Try.checked os 5 .any ((Rows.OpenSpec.upto Rows.outboxArrivesSpec).pre6 enc Try.prog Try.f5 Rows.outboxArrivesUptoRow.domain false) (((Rows.OpenSpec.upto Rows.outboxArrivesSpec).at F).post enc Try.prog Try.f5 false true false false) := by
  refine returnsInHanded_of_cond (C := Try.checked) (s := Rows.OpenSpec.upto Rows.outboxArrivesSpec) (k := Rows.uptoSmall) rfl own started (by kernel_rfl) Try.func5
    (OpenSpec.witness (enc := enc) (C := Try.checked) (s := Rows.OpenSpec.upto Rows.outboxArrivesSpec) (k := Rows.uptoSmall) rfl false ⟨#[], #[.slice none 0 0, .slice none 0 0], []⟩ 8 (by kernel_rfl) (by kernel_rfl) (by kernel_rfl)
      (x := ([.nil, .nil], [], [])) (by kernel_rfl) rfl (by kernel_rfl)) ?_
  intro W base args ds gs before hval hW _ hk _
  exact contract H enc W base args ds gs before hval hW hk

theorem proved : Rows.OutboxArrivesUptoSaid :=
  OpenClaim.holds_of_cond 5 Try.f5 rfl rfl rfl rfl rfl rfl rfl ⟨rfl, rfl, rfl, rfl, rfl⟩ rfl rfl rfl rfl rfl (by kernel_rfl) Try.func5 (by kernel_rfl)
    (of_decide_eq_true (by kernel_rfl)) (by unfold Func.isWrapper; first | (rw [if_pos (by decide +kernel)]; kernel_rfl) | (rw [if_neg (by decide +kernel)]; exact ⟨rfl, rfl⟩))
    (fun os started H enc _ F => lifted os started H enc F)
end Go.Proofs.Ytkhcbllphdhbdaa.outboxArrives
