/- Rules of symbolic execution over any program of the model, that the claims of this folder use; part SymMsg. Conditions: those that each rule names. -/
import Derived.Test.YtkhcbllphdhbdaaSymWrite
namespace Go.Sym
open Go
/-! ### messages that are put -/
def SsA (w : World) (q : Option Addr) (c : Nat) (l : List ByteArray) : Prop := Sl 1 w (.slice q l.length c) (l.map Value.string) l.length q c
theorem SsA.ext {w w' : World} {q : Option Addr} {c : Nat} {l : List ByteArray} (h : SsA w q c l) (k : Ext w w') : SsA w' q c l := Sl.ext h k
theorem SsA.cell {w : World} {q : Option Addr} {c : Nat} {l : List ByteArray} (h : SsA w q c l) {k : Nat} (hk : k < l.length) : ∃ b o, q = some ⟨b, o, none⟩ ∧ w.cell? ⟨b, o + k * 1, none⟩ = some (.string l[k]) := by
  obtain ⟨b, o, h1, h2⟩ := h.cells k (.string l[k]) (by simp [hk])
  exact ⟨b, o, h1, by rw [Nat.mul_one]; exact h2⟩
def odd1 (s : ByteArray) : Bool := decide (s.size < 1 ∨ 255 < s.size)
def oddN (l : List ByteArray) : Nat := l.countP odd1
theorem oddN_at {l : List ByteArray} {k : Nat} (hk : k < l.length) (h : odd1 l[k] = true) : 0 < oddN l := List.countP_pos_iff.2 ⟨_, List.getElem_mem hk, h⟩
theorem oddN_succ {l : List ByteArray} {k : Nat} (hk : k < l.length) (h : odd1 l[k] = false) (h0 : oddN (l.take k) = 0) : oddN (l.take (k + 1)) = 0 := by
  rw [← List.take_append_getElem hk]
  unfold oddN at *
  rw [List.countP_append, h0]
  simp [h]
theorem oddN_zero {l : List ByteArray} {k : Nat} (hk : k < l.length) (h : oddN l = 0) : 1 ≤ l[k].size ∧ l[k].size ≤ 255 := by
  have := (List.countP_eq_zero.1 h) _ (List.getElem_mem hk)
  unfold odd1 at this
  have h2 := mt (fun hh => decide_eq_true hh) this
  omega
def bzN (ea : Bool) (bnd : List UInt8) : Nat := if ea = true ∨ bnd ≠ z16 then 1 else 0
def mayM (kd : Int) (nl pl ps tk bz pb : Nat) (li : Int) : Prop :=
  (kd = 1 → (tk = 0 → bz = 0) ∧ 1 ≤ pl ∧ pl ≤ 8 ∧ pb = 0 ∧ ps ≤ 4096 ∧ nl ≤ 255 ∧ tk ≤ 512) ∧ (kd = 4 → 0 ≤ li ∧ li ≤ 4294967295 ∧ 1 ≤ tk ∧ tk ≤ 512) ∧ (kd = 8 → 1 ≤ pl ∧ pl ≤ 1 ∧ pb = 0 ∧ ps ≤ 4096) ∧ (kd = 11 → nl ≤ 255)
instance (kd : Int) (nl pl ps tk bz pb : Nat) (li : Int) : Decidable (mayM kd nl pl ps tk bz pb li) := by unfold mayM; infer_instance
end Go.Sym
