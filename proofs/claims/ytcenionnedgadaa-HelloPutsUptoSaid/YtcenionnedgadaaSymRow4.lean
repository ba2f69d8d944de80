/- Rules of symbolic execution over any program of the model, that the claims of this folder use; part SymRow4. Conditions: those that each rule names. -/
import Derived.Test.YtcenionnedgadaaSymMsg2
import Derived.Test.YtcenionnedgadaaSymRow3
import Derived.SliceStrings
namespace Go.Sym
open Go Go.ChangeShapes Go.WideShapes Go.ChangeAt Go.RowKit Go.Joins
theorem dt (l : List Value) (a n : Nat) : l.drop a = (l.drop a).take n ++ l.drop (a + n) :=
  ((List.take_append_drop n (l.drop a)).symm).trans (by rw [List.drop_drop])
theorem one_of {l : List Value} {a : Nat} (h : a < l.length) : ∃ v, (l.drop a).take 1 = [v] :=
  ⟨l[a], by rw [List.drop_eq_getElem_cons h]; rfl⟩
section
variable {H : Type} {enc : TypeId × Value → H} {P : Program}
/-- an argument that is a slice of strings -/
theorem open_ss {t e : TypeId} {fuel : Nat} {v : Value} {x : DataW H × List MemPlace} {w : World} {base : Nat} {spare : Nat → Bool} {held : Bool} (ht : P.underlying t = some (.slice e)) (he : P.underlying e = some .string) (hc : P.cellsOf e = 1)
    (h : DataW.trod enc P w base spare held fuel t [v] = some x) : ∃ (q : Option Addr) (qc : Nat) (l : List ByteArray), v = .slice q l.length qc ∧ SsA w q qc l ∧ (x.1 = .nil ∧ l = [] ∨ ∃ es sp, x.1 = .slice es sp ∧ es.length = l.length) := by
  rcases open_strings ht he hc h with ⟨hcs, rfl⟩ | ⟨a, len, cap, zs, hcs, _, hl, hm, hz, rfl, hcell, hwz⟩
  · simp only [List.cons.injEq, and_true] at hcs
    subst hcs
    exact ⟨none, 0, [], rfl, ⟨rfl, by simp, Nat.le_refl _, fun i u h => by simp at h, fun _ => rfl⟩, .inl ⟨rfl, rfl⟩⟩
  · simp only [List.cons.injEq, and_true] at hcs
    subst hcs
    have hzl : len ≤ zs.length := by rw [hz]; split <;> omega
    have hlen : (zs.take len).length = len := by simp; omega
    refine ⟨some a, cap, zs.take len, by rw [hlen], ⟨by rw [hlen], by simp, by omega, fun i u hu => ?_, fun h => by cases h⟩, .inr ⟨_, _, rfl, ?_⟩⟩
    · have hi : i < len := by
        have := (List.getElem?_eq_some_iff.1 hu).1
        simp at this; omega
      have hc0 := hcell i (by omega)
      obtain ⟨b, o, rfl⟩ := plain_addr (hcell 0 (by omega))
      refine ⟨b, o, rfl, ?_⟩
      rw [add_eq] at hc0
      rw [hc0]
      have hzi : zs[i]? = some (zs.getD i ByteArray.empty) := by simp [List.getD, List.getElem?_eq_getElem (show i < zs.length by omega)]
      simp only [List.getElem?_map, List.getElem?_take, hi, if_true, hzi, Option.map_some, Option.some.injEq] at hu
      rw [← hu]
    · simp [strs, hlen]; omega
/-- a message, by its parts -/
theorem open_msg {w : World} {base : Nat} {spare : Nat → Bool} {held : Bool} {r : Reach} {b0 : Nat} {t : TypeId} {f0 f1 f2 f3 f4 f5 f6 f7 f8 f9 fa fb : Field} {v : Value} {d : DataW H} {p : List MemPlace} (hs : P.underlying t = some (.struct #[f0, f1, f2, f3, f4, f5, f6, f7, f8, f9, fa, fb])) (hC : P.cellsOf t = 72)
    (hn : P.cellsOf f0.type = 1 ∧ P.cellsOf f1.type = 16 ∧ P.cellsOf f2.type = 16 ∧ P.cellsOf f3.type = 1 ∧ P.cellsOf f4.type = 1 ∧ P.cellsOf f5.type = 1 ∧ P.cellsOf f6.type = 1 ∧ P.cellsOf f7.type = 16 ∧ P.cellsOf f8.type = 1 ∧ P.cellsOf f9.type = 1 ∧ P.cellsOf fa.type = 16 ∧ P.cellsOf fb.type = 1)
    (ho : f0.offset = 0 ∧ f1.offset = 1 ∧ f2.offset = 17 ∧ f3.offset = 33 ∧ f4.offset = 34 ∧ f5.offset = 35 ∧ f6.offset = 36 ∧ f7.offset = 37 ∧ f8.offset = 53 ∧ f9.offset = 54 ∧ fa.offset = 55 ∧ fb.offset = 71)
    (hv : Value.okWide P w r b0 t v) (h : DataW.Trod enc P w base spare held t v d p) :
    ∃ (l l1 l2 l7 la : List Value) (v0 v3 v4 v5 v6 v8 v9 vb : Value) (y0 y1 y2 y3 y4 y5 y6 y7 y8 y9 ya yb : DataW H × List MemPlace) (n : Nat), v = .agg l.toArray ∧ l = [v0] ++ l1 ++ l2 ++ [v3, v4, v5, v6] ++ l7 ++ [v8, v9] ++ la ++ [vb] ∧ d = .agg [y0.1, y1.1, y2.1, y3.1, y4.1, y5.1, y6.1, y7.1, y8.1, y9.1, ya.1, yb.1] ∧
      DataW.trod enc P w base spare held n f0.type [v0] = some y0 ∧ DataW.trod enc P w base spare held n f1.type l1 = some y1 ∧ DataW.trod enc P w base spare held n f2.type l2 = some y2 ∧ DataW.trod enc P w base spare held n f3.type [v3] = some y3 ∧ DataW.trod enc P w base spare held n f4.type [v4] = some y4 ∧ DataW.trod enc P w base spare held n f5.type [v5] = some y5 ∧ DataW.trod enc P w base spare held n f6.type [v6] = some y6 ∧ DataW.trod enc P w base spare held n f7.type l7 = some y7 ∧ DataW.trod enc P w base spare held n f8.type [v8] = some y8 ∧ DataW.trod enc P w base spare held n f9.type [v9] = some y9 ∧ DataW.trod enc P w base spare held n fa.type la = some ya ∧ DataW.trod enc P w base spare held n fb.type [vb] = some yb := by
  obtain ⟨cs, rfl, hsz⟩ := okWide_struct hs hv
  obtain ⟨l⟩ := cs
  obtain ⟨o0, o1, o2, o3, o4, o5, o6, o7, o8, o9, oa, ob⟩ := ho
  obtain ⟨n0, n1, n2, n3, n4, n5, n6, n7, n8, n9, na, nb⟩ := hn
  have hl : l.length = 72 := hsz.trans hC
  obtain ⟨v0, e0⟩ := one_of (l := l) (a := 0) (by omega)
  obtain ⟨v3, e3⟩ := one_of (l := l) (a := 33) (by omega)
  obtain ⟨v4, e4⟩ := one_of (l := l) (a := 34) (by omega)
  obtain ⟨v5, e5⟩ := one_of (l := l) (a := 35) (by omega)
  obtain ⟨v6, e6⟩ := one_of (l := l) (a := 36) (by omega)
  obtain ⟨v8, e8⟩ := one_of (l := l) (a := 53) (by omega)
  obtain ⟨v9, e9⟩ := one_of (l := l) (a := 54) (by omega)
  obtain ⟨vb, eb⟩ := one_of (l := l) (a := 71) (by omega)
  obtain ⟨fuel, hf⟩ := h
  obtain ⟨xs, n, _, hx, _, hlen, hg⟩ := DataW.trod_struct hs hf
  match xs, hlen with
  | [y0, y1, y2, y3, y4, y5, y6, y7, y8, y9, ya, yb], _ =>
    refine ⟨l, (l.drop 1).take 16, (l.drop 17).take 16, (l.drop 37).take 16, (l.drop 55).take 16, v0, v3, v4, v5, v6, v8, v9, vb, y0, y1, y2, y3, y4, y5, y6, y7, y8, y9, ya, yb, n, rfl, ?_, congrArg Prod.fst hx, ?_, ?_, ?_, ?_, ?_, ?_, ?_, ?_, ?_, ?_, ?_, ?_⟩
    · have h0 := dt l 0 1
      rw [e0, dt l (0 + 1) 16, dt l (0 + 1 + 16) 16, dt l (0 + 1 + 16 + 16) 1, dt l (0 + 1 + 16 + 16 + 1) 1, dt l (0 + 1 + 16 + 16 + 1 + 1) 1, dt l (0 + 1 + 16 + 16 + 1 + 1 + 1) 1, dt l (0 + 1 + 16 + 16 + 1 + 1 + 1 + 1) 16, dt l (0 + 1 + 16 + 16 + 1 + 1 + 1 + 1 + 16) 1, dt l (0 + 1 + 16 + 16 + 1 + 1 + 1 + 1 + 16 + 1) 1, dt l (0 + 1 + 16 + 16 + 1 + 1 + 1 + 1 + 16 + 1 + 1) 16, dt l (0 + 1 + 16 + 16 + 1 + 1 + 1 + 1 + 16 + 1 + 1 + 16) 1] at h0
      rw [e3, e4, e5, e6, e8, e9, eb, List.drop_zero] at h0
      have h72 : l.drop (0 + 1 + 16 + 16 + 1 + 1 + 1 + 1 + 16 + 1 + 1 + 16 + 1) = [] := List.drop_of_length_le (by omega)
      rw [h72] at h0
      refine h0.trans ?_
      simp only [List.append_assoc, List.append_nil, List.cons_append, List.nil_append]
    · have e0' : l.take 1 = [v0] := by rw [← e0, List.drop_zero]
      simpa [Value.cells, o0, n0, e0'] using hg 0 f0 rfl
    · simpa [Value.cells, o1, n1] using hg 1 f1 rfl
    · simpa [Value.cells, o2, n2] using hg 2 f2 rfl
    · simpa [Value.cells, o3, n3, e3] using hg 3 f3 rfl
    · simpa [Value.cells, o4, n4, e4] using hg 4 f4 rfl
    · simpa [Value.cells, o5, n5, e5] using hg 5 f5 rfl
    · simpa [Value.cells, o6, n6, e6] using hg 6 f6 rfl
    · simpa [Value.cells, o7, n7] using hg 7 f7 rfl
    · simpa [Value.cells, o8, n8, e8] using hg 8 f8 rfl
    · simpa [Value.cells, o9, n9, e9] using hg 9 f9 rfl
    · simpa [Value.cells, oa, na] using hg 10 fa rfl
    · simpa [Value.cells, ob, nb, eb] using hg 11 fb rfl
end
end Go.Sym
