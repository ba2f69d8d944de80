/- SecretsMake: any steps make the document's terms, or are refused. Part MakeRow: walks and lemmas of the proof. -/
import Derived.Test.YtcjmehononbadaaRows
import Derived.Test.YtcjmehononbadaaSecrets3
import Derived.Test.YtcjmehononbadaaSymRow
namespace Go.Proofs.Ytcjmehononbadaa.secretsMake
open Go.ChangeShapes Go.WideShapes Go.ChangeAt Go.RowKit Go.Joins Go.Sym

theorem own : ownKnob Try.prog.godebug = none := by kernel_rfl

theorem len_le {H : Type} (l : List (DataW H)) : l.length ≤ Rows.uptoBulkAll l := by
  induction l with
  | nil => simp [Rows.uptoBulkAll]
  | cons x r ih =>
    have : 1 ≤ Rows.uptoBulk x := by
      cases x with
      | lit l => cases l <;> simp [Rows.uptoBulk]
      | nil => simp [Rows.uptoBulk]
      | ptr d => simp [Rows.uptoBulk]
      | slice elems spare => simp [Rows.uptoBulk]
      | agg parts => simp [Rows.uptoBulk]
      | iface t d => simp [Rows.uptoBulk]
      | map entries => simp [Rows.uptoBulk]
      | held h => simp [Rows.uptoBulk]
    simp only [Rows.uptoBulkAll, List.length_cons]; omega



theorem bulk_mem {H : Type} {l : List (DataW H)} {x : DataW H} (h : x ∈ l) : Rows.uptoBulk x ≤ Rows.uptoBulkAll l := by
  induction l with
  | nil => cases h
  | cons y r ih =>
    simp only [Rows.uptoBulkAll]
    rcases List.mem_cons.1 h with rfl | h
    · omega
    · have := ih h; omega
theorem ex_list {α : Type} (p : Nat → α → Prop) : ∀ (n : Nat), (∀ i, i < n → ∃ x, p i x) → ∃ l : List α, l.length = n ∧ ∀ i x, l[i]? = some x → p i x
  | 0, _ => ⟨[], rfl, fun i x h => by simp at h⟩
  | n + 1, h => by
    obtain ⟨l, hl, hp⟩ := ex_list p n (fun i hi => h i (by omega))
    obtain ⟨x, hx⟩ := h n (by omega)
    refine ⟨l ++ [x], by simp [hl], fun i y hy => ?_⟩
    rw [List.getElem?_append] at hy
    split at hy
    · exact hp i y hy
    · rename_i hge
      have : i = n := by
        have := (List.getElem?_eq_some_iff.1 hy).1
        simp at this; omega
      subst this
      rw [hl] at hy
      simp at hy
      rw [← hy]; exact hx
section
variable {H : Type} {enc : TypeId × Value → H} {P : Program} {w : World} {base : Nat} {spare : Nat → Bool} {held : Bool}
theorem open_acts {t e : TypeId} {fuel : Nat} {v : Value} {x : DataW H × List MemPlace} {f0 f1 f2 f3 f4 : Field} {be : TypeId} (ht : P.underlying t = some (.slice e)) (hs : P.underlying e = some (.struct #[f0, f1, f2, f3, f4])) (hC : P.cellsOf e = 5)
    (hC0 : P.cellsOf f0.type = 1) (hC1 : P.cellsOf f1.type = 1) (hC2 : P.cellsOf f2.type = 1) (hC3 : P.cellsOf f3.type = 1) (hC4 : P.cellsOf f4.type = 1) (ho : f0.offset = 0 ∧ f1.offset = 1 ∧ f2.offset = 2 ∧ f3.offset = 3 ∧ f4.offset = 4)
    (u0 : P.underlying f0.type = some (.int .i64)) (u1 : P.underlying f1.type = some (.int .i64)) (u2 : P.underlying f2.type = some (.int .i64)) (u3 : P.underlying f3.type = some .string) (u4 : P.underlying f4.type = some (.slice be)) (ub : P.underlying be = some (.int .u8)) (cb : P.cellsOf be = 1)
    (h : DataW.trod enc P w base spare held fuel t [v] = some x) : ∃ (q : Option Addr) (qc : Nat) (acs : List AcT), v = .slice q acs.length qc ∧ (Rows.uptoBulk x.1 ≤ 1048576 → Acs w q acs) := by
  obtain ⟨o0, o1, o2, o3, o4⟩ := ho
  rcases DataW.trod_slice ht h with ⟨hcs, hx⟩ | ⟨a, len, cap, elems, rest, n, _, hcs, hx, hb, hl, hm, hlen, hel, _, _⟩
  · simp only [List.cons.injEq, and_true] at hcs
    exact ⟨none, 0, [], hcs, fun _ i x hx => by simp at hx⟩
  · simp only [List.cons.injEq, and_true] at hcs
    have hplain : 0 < len → ∃ b o, a = ⟨b, o, none⟩ := by
      intro h0
      have h1 := hel 0 h0
      obtain ⟨y, hy⟩ : ∃ y, elems[0]? = some y := ⟨_, List.getElem?_eq_getElem (by omega)⟩
      rw [hy, hC, Option.bind_eq_some_iff] at h1
      obtain ⟨cs, hc1, _⟩ := h1
      obtain ⟨_, hcl, hcg⟩ := World.cells?_some hc1
      have g0 := hcg 0 (by omega)
      rw [List.getElem?_eq_getElem (by omega)] at g0
      have ea : a.add (0 * 5) = a := by simp [Addr.add]
      rw [ea] at g0
      exact plain_addr g0
    have key : ∀ i, i < len → ∃ y : AcT, (Rows.uptoBulk x.1 ≤ 1048576 → y.s.size ≤ 9223372036854775807 ∧ y.l.length ≤ 1048576 ∧ Bs w y.v y.l ∧ ∃ b o, some a = some ⟨b, o, none⟩ ∧ ∀ j u, y.cells[j]? = some u → w.cell? ⟨b, o + i * 5 + j, none⟩ = some u) := by
      intro i hi
      have h1 := hel i hi
      obtain ⟨y, hy⟩ : ∃ y, elems[i]? = some y := ⟨_, List.getElem?_eq_getElem (by omega)⟩
      rw [hy, hC, Option.bind_eq_some_iff] at h1
      obtain ⟨cs, hc1, hc2⟩ := h1
      obtain ⟨_, hcl, hcg⟩ := World.cells?_some hc1
      obtain ⟨xs, m, _, hyx, hsz, hxl, hg⟩ := DataW.trod_struct hs hc2
      match cs, hcl, xs, hxl with
      | [c0, c1, c2, c3, c4], _, [y0, y1, y2, y3, y4], _ =>
        have t0 : DataW.trod enc P w base spare held m f0.type [c0] = some y0 := by simpa [o0, hC0] using hg 0 f0 rfl
        have t1 : DataW.trod enc P w base spare held m f1.type [c1] = some y1 := by simpa [o1, hC1] using hg 1 f1 rfl
        have t2 : DataW.trod enc P w base spare held m f2.type [c2] = some y2 := by simpa [o2, hC2] using hg 2 f2 rfl
        have t3 : DataW.trod enc P w base spare held m f3.type [c3] = some y3 := by simpa [o3, hC3] using hg 3 f3 rfl
        have t4 : DataW.trod enc P w base spare held m f4.type [c4] = some y4 := by simpa [o4, hC4] using hg 4 f4 rfl
        obtain ⟨k, e0, _, _⟩ := DataW.trod_int u0 t0
        obtain ⟨aa, e1, _, _⟩ := DataW.trod_int u1 t1
        obtain ⟨bb, e2, _, _⟩ := DataW.trod_int u2 t2
        obtain ⟨s, e3, _, ws⟩ := DataW.trod_string u3 t3
        obtain ⟨qq, qc, l, e4, hb4, hbd⟩ := open_bs u4 ub cb t4
        simp only [List.cons.injEq, and_true] at e0 e1 e2 e3
        subst e0 e1 e2 e3 e4
        refine ⟨⟨k, aa, bb, s, .slice qq l.length qc, l⟩, fun hk => ⟨Nat.le_trans ws (show maxLen ≤ 9223372036854775807 by decide), ?_, hb4, ?_⟩⟩
        · show l.length ≤ 1048576
          have hy1 : y.1 ∈ elems.map (·.1) := List.mem_map.2 ⟨y, List.mem_of_getElem? hy, rfl⟩
          have b1 := bulk_mem hy1
          rw [hx] at hk
          simp only [Rows.uptoBulk] at hk
          have b2 : Rows.uptoBulk y4.1 ≤ Rows.uptoBulk y.1 := by
            rw [hyx]
            simp only [Rows.uptoBulk]
            have := bulk_mem (l := List.map (fun x => x.1) [y0, y1, y2, y3, y4]) (x := y4.1) (by simp)
            omega
          rcases hbd with ⟨_, rfl⟩ | ⟨es, sp, h1, h2⟩
          · simp
          · rw [h1] at b2
            simp only [Rows.uptoBulk] at b2
            have := len_le es
            omega
        · obtain ⟨b, o, rfl⟩ := hplain (by omega)
          refine ⟨b, o, rfl, fun j u hu => ?_⟩
          have hj : j < 5 := by have := (List.getElem?_eq_some_iff.1 hu).1; simpa [AcT.cells] using this
          have gj := hcg j (by omega)
          rw [add_eq, add_eq] at gj
          rw [gj]; exact hu
    obtain ⟨acs, hasl, hasp⟩ := ex_list _ len key
    exact ⟨some a, cap, acs, by rw [hasl]; exact hcs, fun hk i y hy => hasp i y hy hk⟩
end

set_option maxRecDepth 100000 in
theorem contract (H : Type) (enc : TypeId × Value → H) (W : World) (base : Nat) (args : Array Value) (ds gs : List (DataW H)) (before : List MemPlace)
    (hval : ∀ (j : Nat) t v, Try.f7.params[j]? = some t → args[j]? = some v → Value.okWide Try.prog W .any base t v)
    (hW : DataW.Whole enc Try.prog Try.f7.params.toList Rows.secretsMakeSpec.vars false W args.toList ds gs before) (hk : Rows.uptoSmall H (ds ++ gs) = true) :
    Calls Try.prog 7 args W fun e W' => ∃ v, e = .returned v ∧ Rows.secretsMakeSpec.post enc Try.prog Try.f7 false true false false W args v W' := by
  have hW' := hW
  obtain ⟨p, q, hA0, hV, rfl, hfz, hnd⟩ := hW
  have hA : DataW.TrodAll enc Try.prog W 0 (fun _ => true) true Try.f7.params.toList args.toList ds p := hA0
  rw [Try.params7] at hA hval
  obtain ⟨v0, vs0, d0, ds0, p0, q0, hargs, rfl, rfl, h0, r0⟩ := trodAll_cons hA
  obtain ⟨rfl, rfl, rfl⟩ := trodAll_nil r0
  obtain rfl : args = #[v0] := by cases args; simp_all
  obtain ⟨rfl, rfl⟩ := trodVars_none hV
  have ho0 := hv_of hval (j := 0) (t := 78) (v := v0) rfl rfl
  have hc0 : v0.cells.toList = [v0] := by obtain ⟨_, _, _, e⟩ := okWide_slice Try.underlying78 ho0; rw [e]; rfl
  obtain ⟨fu0, h0⟩ := h0
  rw [hc0] at h0
  clear hc0 ho0
  obtain ⟨qq0, qc0, as0, rfl, hac0⟩ := open_acts Try.underlying78 Try.underlying66 (by kernel_rfl) (by kernel_rfl) (by kernel_rfl) (by kernel_rfl) (by kernel_rfl) (by kernel_rfl) ⟨rfl, rfl, rfl, rfl, rfl⟩ Try.underlying3 Try.underlying3 Try.underlying3 Try.underlying9 Try.underlying22 Try.underlying5 (by kernel_rfl) h0
  have hsm := hk
  simp only [Rows.uptoSmall, decide_eq_true_eq, List.append_nil, Rows.uptoBulkAll] at hsm
  refine (make_law _ _ as0 W (hac0 (by omega))).mono fun e W' ⟨he, hE⟩ => ?_
  subst he
  exact ⟨_, rfl, post_true Fc.laid rfl rfl Try.underlying4 (by kernel_rfl) ⟨rfl, rfl, rfl⟩ hW' hE⟩

set_option maxRecDepth 100000 in
theorem lifted (os : Os) (started : os.Started) (H : Type) (enc : TypeId × Value → H) (F : Stop.Interp) :
    ReturnsInHanded {} Try.checked os 7 .any ((Rows.OpenSpec.upto Rows.secretsMakeSpec).pre6 enc Try.prog Try.f7 Rows.secretsMakeUptoRow.domain false) (((Rows.OpenSpec.upto Rows.secretsMakeSpec).at F).post enc Try.prog Try.f7 false true false false) := by
  refine returnsInHanded_of_cond (C := Try.checked) (s := Rows.OpenSpec.upto Rows.secretsMakeSpec) (k := Rows.uptoSmall) rfl own started (by kernel_rfl) Try.func7
    (OpenSpec.witness (enc := enc) (C := Try.checked) (s := Rows.OpenSpec.upto Rows.secretsMakeSpec) (k := Rows.uptoSmall) rfl false ⟨#[], #[.slice none 0 0], []⟩ 8 (by kernel_rfl) (by kernel_rfl) (by kernel_rfl)
      (x := ([.nil], [], [])) (by kernel_rfl) rfl (by kernel_rfl)) ?_
  intro W base args ds gs before hval hW _ hk _
  exact contract H enc W base args ds gs before hval hW hk

theorem proved : Rows.SecretsMakeUptoSaid :=
  OpenClaim.holds_of_cond 7 Try.f7 rfl rfl rfl rfl rfl rfl rfl ⟨rfl, rfl, rfl, rfl, rfl⟩ rfl rfl rfl rfl rfl (by kernel_rfl) Try.func7 (by kernel_rfl)
    (of_decide_eq_true (by kernel_rfl)) (by unfold Func.isWrapper; first | (rw [if_pos (by decide +kernel)]; kernel_rfl) | (rw [if_neg (by decide +kernel)]; exact ⟨rfl, rfl⟩))
    (fun os started H enc _ F => lifted os started H enc F)
end Go.Proofs.Ytcjmehononbadaa.secretsMake
