/- Rules of symbolic execution over any program of the model, that the claims of this folder use; part SymHdr3. Conditions: those that each rule names. -/
import Derived.Test.YtkhcbllphdhbdaaSymWord
namespace Go.Sym
open Go
theorem id_no {l : List UInt8} {p n1 p1 : Nat} {bad b1 : Int} (hN : numC l 1 ⟨p, bad⟩ = (n1, ⟨p1, b1⟩)) (h : (!decide ((okC ⟨p1, b1⟩ (decide ((n1 : Int) ≤ 20)) 11).bad = 0)) = true) : idC l ⟨p, bad⟩ = ([], ⟨p1, (okC ⟨p1, b1⟩ (decide ((n1 : Int) ≤ 20)) 11).bad⟩) := by
  have e : decide ((n1 : Int) ≤ 20) = decide (n1 ≤ 20) := by congr 1; exact propext ⟨fun h => by omega, fun h => by omega⟩
  rw [e] at h ⊢
  simp only [Bool.not_eq_true', decide_eq_false_iff_not] at h
  unfold idC
  rw [hN]
  rw [if_neg h]
  have := okC_p ⟨p1, b1⟩ (decide (n1 ≤ 20)) 11
  generalize okC ⟨p1, b1⟩ (decide (n1 ≤ 20)) 11 = z at this
  obtain ⟨zp, zb⟩ := z
  simp only at this
  rw [this]
theorem id_yes {l : List UInt8} {p n1 p1 : Nat} {bad b1 : Int} (hN : numC l 1 ⟨p, bad⟩ = (n1, ⟨p1, b1⟩)) (h : (!decide ((okC ⟨p1, b1⟩ (decide ((n1 : Int) ≤ 20)) 11).bad = 0)) = false) : (okC ⟨p1, b1⟩ (decide ((n1 : Int) ≤ 20)) 11).bad = 0 ∧ b1 = 0 ∧ n1 ≤ 20 ∧ idC l ⟨p, bad⟩ = bytesC l n1 ⟨p1, 0⟩ := by
  have e : decide ((n1 : Int) ≤ 20) = decide (n1 ≤ 20) := by congr 1; exact propext ⟨fun h => by omega, fun h => by omega⟩
  rw [e] at h ⊢
  simp only [Bool.not_eq_false', decide_eq_true_eq] at h
  have hb : b1 = 0 := by
    by_cases hb : b1 = 0
    · exact hb
    · rw [okC_yes (.inl hb)] at h; exact absurd h hb
  have hn : n1 ≤ 20 := by
    by_cases hn : n1 ≤ 20
    · exact hn
    · rw [okC_no hb (by simpa using hn)] at h; cases h
  refine ⟨h, hb, hn, ?_⟩
  unfold idC
  rw [hN]
  rw [if_pos h]
  rw [okC_yes (.inr (by simpa using hn)), hb]
/-! ### a number of variable length -/
def VarR (l : List UInt8) (p : Nat) (x y z : Int) : Prop := (∃ v p' : Nat, varN l p = some (v, p') ∧ x = v ∧ y = p' ∧ z = 0) ∨ (varN l p = none ∧ z = 10)
theorem varN_bound {l : List UInt8} {p v p' : Nat} (h : varN l p = some (v, p')) : v < 4611686018427387904 ∧ p < p' ∧ p' ≤ l.length := by
  unfold varN at h
  split at h
  · cases h
  · rename_i x r hd
    split at h
    · cases h
    · rename_i hlen
      simp only [Option.some.injEq, Prod.mk.injEq] at h
      obtain ⟨h1, h2⟩ := h
      have hx : x.toNat / 64 ≤ 3 := by have := x.toNat_lt; omega
      have hl : (x :: r).length = l.length - p := by rw [← hd]; simp
      have hk : (2 : Nat) ^ (8 * 2 ^ (x.toNat / 64) - 2) ≤ 2 ^ 62 := by
        refine Nat.pow_le_pow_right (by omega) ?_
        have : 2 ^ (x.toNat / 64) ≤ 2 ^ 3 := Nat.pow_le_pow_right (by omega) hx
        omega
      have hm : v < 2 ^ (8 * 2 ^ (x.toNat / 64) - 2) := by rw [← h1]; exact Nat.mod_lt _ (Nat.two_pow_pos _)
      have hp := Nat.two_pow_pos (x.toNat / 64)
      have e62 : (2 : Nat) ^ 62 = 4611686018427387904 := by decide
      generalize (2 : Nat) ^ (x.toNat / 64) = z at *
      refine ⟨by omega, by omega, by omega⟩
theorem varN_none {l : List UInt8} {p : Nat} (h : l.drop p = []) : varN l p = none := by unfold varN; rw [h]
theorem varN_short {l r : List UInt8} {p : Nat} {x : UInt8} (h : l.drop p = r) (hx : r[0]? = some x) (hs : r.length < 2 ^ (x.toNat / 64)) : varN l p = none := by
  unfold varN
  rw [h]
  cases r with
  | nil => rfl
  | cons y t =>
    simp at hx; subst hx
    exact if_pos hs
theorem varN_some {l r : List UInt8} {p : Nat} {x : UInt8} (h : l.drop p = r) (hx : r[0]? = some x) (hs : ¬ r.length < 2 ^ (x.toNat / 64)) : varN l p = some (beN (r.take (2 ^ (x.toNat / 64))) % 2 ^ (8 * 2 ^ (x.toNat / 64) - 2), p + 2 ^ (x.toNat / 64)) := by
  unfold varN
  rw [h]
  cases r with
  | nil => cases hx
  | cons y t =>
    simp at hx; subst hx
    exact if_neg hs
theorem lon_no {l : List UInt8} {p : Nat} {bad x y z : Int} (hg : VarR l p x y z) (h : (!decide ((okC ⟨p, bad⟩ (decide (z = 0)) 10).bad = 0)) = true) : longC l ⟨p, bad⟩ = (0, ⟨p, (okC ⟨p, bad⟩ (decide (z = 0)) 10).bad⟩) := by
  simp only [Bool.not_eq_true', decide_eq_false_iff_not] at h
  unfold longC
  by_cases hb : bad = 0
  · rcases hg with ⟨v, p', h1, _, _, rfl⟩ | ⟨h1, rfl⟩
    · exact absurd (by rw [okC_yes (.inr (by decide))]; exact hb) h
    · rw [if_pos hb]; simp only [h1]; rw [okC_no hb (by decide)]
  · rw [if_neg hb, okC_yes (.inl hb)]
theorem lon_yes {l : List UInt8} {p : Nat} {bad x y z : Int} (hg : VarR l p x y z) (h : (!decide ((okC ⟨p, bad⟩ (decide (z = 0)) 10).bad = 0)) = false) : ∃ v p' : Nat, x = v ∧ y = p' ∧ (okC ⟨p, bad⟩ (decide (z = 0)) 10).bad = 0 ∧ longC l ⟨p, bad⟩ = (v, ⟨p', 0⟩) := by
  simp only [Bool.not_eq_false', decide_eq_true_eq] at h
  have hb : bad = 0 := by
    by_cases hb : bad = 0
    · exact hb
    · rw [okC_yes (.inl hb)] at h; exact absurd h hb
  rcases hg with ⟨v, p', h1, h2, h3, rfl⟩ | ⟨h1, rfl⟩
  · exact ⟨v, p', h2, h3, h, by unfold longC; rw [if_pos hb]; simp only [h1]⟩
  · rw [okC_no hb (by decide)] at h; cases h
theorem long_le {l : List UInt8} {c : Cu} (h : c.p ≤ l.length) : (longC l c).2.p ≤ l.length ∧ (longC l c).1 < 4611686018427387904 := by
  unfold longC
  split
  · split
    · rename_i v p e
      have := varN_bound e
      exact ⟨this.2.2, this.1⟩
    · exact ⟨h, by show (0 : Nat) < 4611686018427387904; decide⟩
  · exact ⟨h, by show (0 : Nat) < 4611686018427387904; decide⟩
theorem id_le {l : List UInt8} {c : Cu} (h : c.p ≤ l.length) : (idC l c).2.p ≤ l.length := by
  unfold idC
  split
  · refine bytes_le ?_
    rw [okC_p]; exact num_le h
  · rw [okC_p]; exact num_le h
theorem pow3 {k : Nat} (h : k ≤ 3) : 2 ^ k ≤ 8 ∧ 1 ≤ 2 ^ k := ⟨Nat.pow_le_pow_right (n := 2) (by omega) h, Nat.two_pow_pos k⟩
end Go.Sym
