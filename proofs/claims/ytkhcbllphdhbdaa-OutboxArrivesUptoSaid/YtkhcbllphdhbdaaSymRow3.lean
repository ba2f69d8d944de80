/- Rules of symbolic execution over any program of the model, that the claims of this folder use; part SymRow3. Conditions: those that each rule names. -/
import Derived.Test.YtkhcbllphdhbdaaSymStep
import Derived.Test.YtkhcbllphdhbdaaSymRow
namespace Go.Sym
open Go Go.ChangeShapes Go.WideShapes Go.ChangeAt Go.RowKit Go.Joins
theorem BB.pre0 {cap : Nat} {k : List Value} {u : List UInt8} (h : BB cap k u) : (k.drop 0).take u.length = u.map byteV := h.take
section
variable {H : Type} {enc : TypeId × Value → H} {P : Program}
/-- an argument that is a slice of ints -/
theorem open_is {t e : TypeId} {fuel : Nat} {v : Value} {x : DataW H × List MemPlace} {w : World} {base : Nat} {spare : Nat → Bool} {held : Bool} (ht : P.underlying t = some (.slice e)) (he : P.underlying e = some (.int .i64)) (hc : P.cellsOf e = 1)
    (h : DataW.trod enc P w base spare held fuel t [v] = some x) : ∃ (q : Option Addr) (qc : Nat) (l : List Int), v = .slice q l.length qc ∧ IsA w q qc l ∧ (x.1 = .nil ∧ l = [] ∨ ∃ es sp, x.1 = .slice es sp ∧ es.length = l.length) := by
  rcases open_ints ht he hc h with ⟨hcs, rfl⟩ | ⟨a, len, cap, zs, hcs, _, hl, hm, hz, rfl, hcell, hwz⟩
  · simp only [List.cons.injEq, and_true] at hcs
    subst hcs
    exact ⟨none, 0, [], rfl, ⟨rfl, by simp, Nat.le_refl _, fun i u h => by simp at h, fun _ => rfl⟩, .inl ⟨rfl, rfl⟩⟩
  · simp only [List.cons.injEq, and_true] at hcs
    subst hcs
    have hzl : len ≤ zs.length := by rw [hz]; split <;> omega
    have hlen : (zs.take len).length = len := by simp; omega
    refine ⟨some a, cap, zs.take len, by rw [hlen], ⟨by rw [hlen], by simp, by omega, fun i u hu => ?_, fun h => by cases h⟩, .inr ⟨_, _, rfl, ?_⟩⟩
    · have hi : i < len := by
        have := (List.getElem?_eq_some_iff.1 hu).1
        simp at this; omega
      have hc0 := hcell i (by omega)
      obtain ⟨b, o, rfl⟩ := plain_addr (hcell 0 (by omega))
      refine ⟨b, o, rfl, ?_⟩
      rw [add_eq] at hc0
      rw [hc0]
      have hzi : zs[i]? = some (zs.getD i 0) := by simp [List.getD, List.getElem?_eq_getElem (show i < zs.length by omega)]
      simp only [List.getElem?_map, List.getElem?_take, hi, if_true, hzi, Option.map_some, Option.some.injEq] at hu
      rw [← hu]
    · simp [lits, hlen]; omega
/-- an array of bytes -/
theorem open_tag {t e : TypeId} {n fuel : Nat} {cs : List Value} {x : DataW H × List MemPlace} {w : World} {base : Nat} {spare : Nat → Bool} {held : Bool} (ht : P.underlying t = some (.array n e)) (he : P.underlying e = some (.int .u8)) (hc : P.cellsOf e = 1) (hn : P.cellsOf t = n)
    (h : DataW.trod enc P w base spare held fuel t cs = some x) : ∃ u : List UInt8, cs = hcells u ∧ u.length = n := by
  cases fuel with
  | zero => simp [DataW.trod] at h
  | succ m =>
    unfold DataW.trod at h
    rw [ht] at h
    dsimp only at h
    split at h
    · rename_i hl
      rw [hn] at hl
      rw [Option.map_eq_some_iff] at h
      obtain ⟨xs, hxs, _⟩ := h
      have each : ∀ i, i < n → ∃ z, cs[i]? = some (.int .u8 z) ∧ (Lit.int .u8 z).wf = true := by
        intro i hi
        have hlen := mapM_some_length hxs
        have hg := mapM_some_get hxs i i (by simp [hi])
        rw [hc, Nat.mul_one] at hg
        have hx : i < xs.length := by rw [hlen]; simpa using hi
        rw [List.getElem?_eq_getElem hx] at hg
        obtain ⟨z, hz, _, hw⟩ := DataW.trod_int he hg
        refine ⟨z, ?_, hw⟩
        have h1 : ((cs.drop i).take 1)[0]? = some (.int .u8 z) := by rw [hz]; rfl
        simpa [List.getElem?_take, List.getElem?_drop] using h1
      have key : ∀ (cs : List Value), (∀ i, i < cs.length → ∃ z, cs[i]? = some (.int .u8 z) ∧ (Lit.int .u8 z).wf = true) → ∃ u : List UInt8, cs = hcells u ∧ u.length = cs.length := by
        intro cs
        induction cs with
        | nil => intro _; exact ⟨[], rfl, rfl⟩
        | cons c r ih =>
          intro hr
          obtain ⟨z, h0, hw⟩ := hr 0 (by simp)
          obtain ⟨u, hu, hul⟩ := ih (fun i hi => by simpa using hr (i + 1) (by simpa using hi))
          simp only [List.getElem?_cons_zero, Option.some.injEq] at h0
          exact ⟨UInt8.ofNat z.toNat :: u, by rw [h0, hu, ← byteV_of hw]; rfl, by simp [hul]⟩
      obtain ⟨u, hu, hul⟩ := key cs (fun i hi => each i (by omega))
      exact ⟨u, hu, by omega⟩
    · cases h
theorem wf_u64 {z : Int} (h : (Lit.int .u64 z).wf = true) : ∃ a : Nat, z = (a : Int) ∧ a < 18446744073709551616 := by
  simp only [Lit.wf, Bool.and_eq_true, decide_eq_true_eq] at h
  have h1 : (0 : Int) ≤ z := h.1
  have h2 : z ≤ 18446744073709551615 := h.2
  exact ⟨z.toNat, by omega, by omega⟩
theorem split8 {l : List Value} (h : 8 ≤ l.length) : ∃ x0 x1 x2 x3 x4 x5 x6 x7, l = [x0, x1, x2, x3, x4, x5, x6, x7] ++ l.drop 8 := by
  match l, h with
  | x0 :: x1 :: x2 :: x3 :: x4 :: x5 :: x6 :: x7 :: r, _ => exact ⟨x0, x1, x2, x3, x4, x5, x6, x7, rfl⟩
  | [], h | [_], h | [_, _], h | [_, _, _], h | [_, _, _, _], h | [_, _, _, _, _], h | [_, _, _, _, _, _], h | [_, _, _, _, _, _, _], h => simp at h
/-- a header, by its parts: eight of one cell, and what is behind them -/
theorem open_hdr {w : World} {base : Nat} {spare : Nat → Bool} {held : Bool} {r : Reach} {b0 : Nat} {t : TypeId} {f0 f1 f2 f3 f4 f5 f6 f7 f8 : Field} {v : Value} {d : DataW H} {p : List MemPlace} (hs : P.underlying t = some (.struct #[f0, f1, f2, f3, f4, f5, f6, f7, f8])) {m : Nat} (hC : P.cellsOf t = 8 + m)
    (hC0 : P.cellsOf f0.type = 1) (hC1 : P.cellsOf f1.type = 1) (hC2 : P.cellsOf f2.type = 1) (hC3 : P.cellsOf f3.type = 1) (hC4 : P.cellsOf f4.type = 1) (hC5 : P.cellsOf f5.type = 1) (hC6 : P.cellsOf f6.type = 1) (hC7 : P.cellsOf f7.type = 1) (hC8 : P.cellsOf f8.type = m)
    (ho : f0.offset = 0 ∧ f1.offset = 1 ∧ f2.offset = 2 ∧ f3.offset = 3 ∧ f4.offset = 4 ∧ f5.offset = 5 ∧ f6.offset = 6 ∧ f7.offset = 7 ∧ f8.offset = 8)
    (hv : Value.okWide P w r b0 t v) (h : DataW.Trod enc P w base spare held t v d p) :
    ∃ (v0 v1 v2 v3 v4 v5 v6 v7 : Value) (tl : List Value) (y0 y1 y2 y3 y4 y5 y6 y7 y8 : DataW H × List MemPlace) (n : Nat), v = .agg ([v0, v1, v2, v3, v4, v5, v6, v7] ++ tl).toArray ∧ d = .agg [y0.1, y1.1, y2.1, y3.1, y4.1, y5.1, y6.1, y7.1, y8.1] ∧
      DataW.trod enc P w base spare held n f0.type [v0] = some y0 ∧ DataW.trod enc P w base spare held n f1.type [v1] = some y1 ∧ DataW.trod enc P w base spare held n f2.type [v2] = some y2 ∧ DataW.trod enc P w base spare held n f3.type [v3] = some y3 ∧ DataW.trod enc P w base spare held n f4.type [v4] = some y4 ∧ DataW.trod enc P w base spare held n f5.type [v5] = some y5 ∧ DataW.trod enc P w base spare held n f6.type [v6] = some y6 ∧ DataW.trod enc P w base spare held n f7.type [v7] = some y7 ∧ DataW.trod enc P w base spare held n f8.type tl = some y8 := by
  obtain ⟨cs, rfl, hsz⟩ := okWide_struct hs hv
  obtain ⟨l⟩ := cs
  obtain ⟨o0, o1, o2, o3, o4, o5, o6, o7, o8⟩ := ho
  have hl : l.length = 8 + m := hsz.trans hC
  obtain ⟨v0, v1, v2, v3, v4, v5, v6, v7, hl8⟩ := split8 (l := l) (by omega)
  generalize htl : l.drop 8 = tl at hl8
  subst hl8
  have htm : tl.length = m := by simp at hl; omega
  obtain ⟨fuel, hf⟩ := h
  obtain ⟨xs, n, _, hx, _, hlen, hg⟩ := DataW.trod_struct hs hf
  match xs, hlen with
  | [y0, y1, y2, y3, y4, y5, y6, y7, y8], _ =>
    refine ⟨v0, v1, v2, v3, v4, v5, v6, v7, tl, y0, y1, y2, y3, y4, y5, y6, y7, y8, n, rfl, congrArg Prod.fst hx, ?_, ?_, ?_, ?_, ?_, ?_, ?_, ?_, ?_⟩
    · simpa [Value.cells, o0, hC0] using hg 0 f0 rfl
    · simpa [Value.cells, o1, hC1] using hg 1 f1 rfl
    · simpa [Value.cells, o2, hC2] using hg 2 f2 rfl
    · simpa [Value.cells, o3, hC3] using hg 3 f3 rfl
    · simpa [Value.cells, o4, hC4] using hg 4 f4 rfl
    · simpa [Value.cells, o5, hC5] using hg 5 f5 rfl
    · simpa [Value.cells, o6, hC6] using hg 6 f6 rfl
    · simpa [Value.cells, o7, hC7] using hg 7 f7 rfl
    · have := hg 8 f8 rfl
      rw [o8, hC8] at this
      have e : (((Value.agg ([v0, v1, v2, v3, v4, v5, v6, v7] ++ tl).toArray).cells.toList.drop 8).take m) = tl := by
        show List.take m tl = tl
        exact List.take_of_length_le (by omega)
      rw [e] at this
      simpa using this
end
end Go.Sym
