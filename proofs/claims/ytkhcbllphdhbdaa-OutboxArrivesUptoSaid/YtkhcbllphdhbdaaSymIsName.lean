/- Rules of symbolic execution over any program of the model, that the claims of this folder use; part SymIsName. Conditions: those that each rule names. -/
import Derived.Test.YtkhcbllphdhbdaaSymTrim
namespace Go.Sym
open Go
/-! ### what is a name of any number -/
def unmixN (x : Nat) : Nat :=
  let z1 := ((x ^^^ x >>> 31) ^^^ x >>> 62) * 3573116690164977347 % 18446744073709551616
  let z2 := ((z1 ^^^ z1 >>> 27) ^^^ z1 >>> 54) * 10871156337175269513 % 18446744073709551616
  let z3 := ((z2 ^^^ z2 >>> 30) ^^^ z2 >>> 60) * 17428512612931826493 % 18446744073709551616
  (z3 + (18446744073709551616 - 1)) % 18446744073709551616
def stp (e : Nat) (b : UInt8) : Nat := (e * 2 ^ 8) % 18446744073709551616 ||| b.toNat
theorem stp_lt (e : Nat) (b : UInt8) : stp e b < 18446744073709551616 :=
  Nat.or_lt_two_pow (n := 64) (Nat.mod_lt _ (by decide)) (by have := b.toNat_lt; omega)
def hv (l : List UInt8) : Nat := l.foldl stp 0
theorem shr_lt {z k : Nat} (h : z < 18446744073709551616) : z >>> k < 18446744073709551616 := Nat.lt_of_le_of_lt (Nat.shiftRight_le _ _) h
theorem xs2_lt {z j k : Nat} (h : z < 18446744073709551616) : (z ^^^ z >>> j) ^^^ z >>> k < 18446744073709551616 :=
  Nat.xor_lt_two_pow (n := 64) (xs_lt h) (shr_lt h)
def isNameF (h : List UInt8) : Bool := unmixN (hv (h.take 8)) % 2 == 0 && mixN ((unmixN (hv (h.take 8)) + 1) % 18446744073709551616) == hv (h.drop 8)
theorem int_beq (a b : Nat) : (((a : Nat) : Int) == (b : Int)) = (a == b) := by rw [Bool.eq_iff_iff, beq_iff_eq, beq_iff_eq]; omega
/-- sixteen bytes that hide nothing -/
def Good7 (ts : List Tm) (K : List Bool) (g : List UInt8) : Prop := (∃ j, j < ts.length ∧ g = nm j ∧ KT K j) ∨ ((∀ j, j < ts.length → g ≠ nm j) ∧ isNameF g = false)
def Bare7 (ts : List Tm) (K : List Bool) (l : List UInt8) (i : Nat) : Prop := ∀ z, z < i → z + 16 ≤ l.length → Good7 ts K ((l.drop z).take 16)
theorem Bare7.next {ts : List Tm} {K : List Bool} {l : List UInt8} {i : Nat} (h : Bare7 ts K l i) (k : Good7 ts K ((l.drop i).take 16)) : Bare7 ts K l (i + 1) := by
  intro z hz hz2
  by_cases q : z = i
  · subst q; exact k
  · exact h z (by omega) hz2
structure HidR7 (ts : List Tm) (K : List Bool) (l : List UInt8) (r : Bool) : Prop where
  no : r = false → ∀ z, z + 16 ≤ l.length → Good7 ts K ((l.drop z).take 16)
  yes : r = true → ∃ z, z + 16 ≤ l.length ∧ ¬ Good7 ts K ((l.drop z).take 16)
theorem HidR7.mk0 {ts : List Tm} {K : List Bool} {l : List UInt8} {i : Nat} (h : Bare7 ts K l i) (hi : ¬ i + 16 ≤ l.length) : HidR7 ts K l false :=
  ⟨fun _ z hz => h z (by omega) hz, fun h => by cases h⟩
theorem HidR7.mk1 {ts : List Tm} {K : List Bool} {l : List UInt8} {i : Nat} (hi : i + 16 ≤ l.length) (h : ¬ Good7 ts K ((l.drop i).take 16)) : HidR7 ts K l true :=
  ⟨fun h => (by cases h), fun _ => ⟨i, hi, h⟩⟩
end Go.Sym
