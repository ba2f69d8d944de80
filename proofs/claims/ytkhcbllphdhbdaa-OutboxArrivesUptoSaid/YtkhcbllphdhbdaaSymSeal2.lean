/- Rules of symbolic execution over any program of the model, that the claims of this folder use; part SymSeal2. Conditions: those that each rule names. -/
import Derived.Test.YtkhcbllphdhbdaaSymSeal
import Derived.Test.YtkhcbllphdhbdaaSymAgree
namespace Go.Sym
open Go
instance (K : List Bool) (j : Nat) : Decidable (KT K j) := inferInstanceAs (Decidable (K[j]? = some true))
def sp1 (ts : List Tm) (K : List Bool) (j : Nat) : List (List UInt8) := match ts[j]? with
  | some t => if t.kind = 6 ∧ KT K j ∧ KT K t.a.toNat then [byt t] else []
  | none => []
/-- the texts that are opened, in order -/
def spL (ts : List Tm) (K : List Bool) (n : Nat) : List (List UInt8) := ((List.range n).map (sp1 ts K)).flatten
theorem spL_succ (ts : List Tm) (K : List Bool) (n : Nat) : spL ts K (n + 1) = spL ts K n ++ sp1 ts K n := by
  simp [spL, List.range_succ]
theorem spL_yes {ts : List Tm} {K : List Bool} {n : Nat} {t : Tm} (ht : ts[n]? = some t) (h : t.kind = 6 ∧ KT K n ∧ KT K t.a.toNat) : spL ts K (n + 1) = spL ts K n ++ [byt t] := by
  rw [spL_succ]; simp only [sp1, ht]; rw [if_pos h]
theorem spL_no {ts : List Tm} {K : List Bool} {n : Nat} {t : Tm} (ht : ts[n]? = some t) (h : ¬ (t.kind = 6 ∧ KT K n ∧ KT K t.a.toNat)) : spL ts K (n + 1) = spL ts K n := by
  rw [spL_succ]; simp only [sp1, ht]; rw [if_neg h, List.append_nil]
def selT (k : Nat) (nu : Int) (al pl : ByteArray) : Tm := ⟨6, k, 0, nu, .empty, al, pl⟩
theorem selT_ok {k : Nat} {nu : Int} {al pl : ByteArray} (hk : k ≤ 1000000000) (hn : 0 ≤ nu ∧ nu ≤ 9000000000000000000) (h1 : al.size ≤ 9223372036854775807) (h2 : pl.size ≤ 9223372036854775807) : (selT k nu al pl).ok := tm_ok ⟨by decide, by show 0 ≤ (k : Int) ∧ (k : Int) ≤ _; omega, by decide, hn⟩ (by decide) h1 h2
theorem rep_byte (n : Nat) : List.replicate n (Value.int .u8 0) = (List.replicate n (0 : UInt8)).map byteV := by simp [byteV]
end Go.Sym
