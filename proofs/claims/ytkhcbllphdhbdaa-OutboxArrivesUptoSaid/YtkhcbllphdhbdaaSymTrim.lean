/- Rules of symbolic execution over any program of the model, that the claims of this folder use; part SymTrim. Conditions: those that each rule names. -/
import Derived.Test.YtkhcbllphdhbdaaSymSeal2
import Derived.Test.YtkhcbllphdhbdaaSymHdr2
import Derived.Test.YtkhcbllphdhbdaaSymRef
namespace Go.Sym
open Go
section
variable {P : Program} {ops : Array Oper} {Q : Exit → Act → World → Prop} {rest : List Item} {a : Act} {w w0 : World} {n : Nat} {R : Rg} {ds : List Deferred} {S : Nat → Prop} {L K : Blocks}
variable {f : Bool} {d : Nat} {ty : TypeId} {pos : String} {af : Array Edge}
/-- a byte of a string -/
theorem r_indexStr {t : Nat} {x y : Operand} {s : ByteArray} {i : Nat} {u : UInt8} (hS : StD ds n R a) (hSw : Sf f (Kp w0 S K) w) (hx : ev R x = some (.string s)) (hy : ev R y = some (.int .i64 (i : Int))) (hu : P.underlying t = some .string) (hg : s.data[i]? = some u) (hlt : Nat.blt d n = true)
    (k : ∀ a', StD ds n (up R d (byteV u)) a' → Sq P ops Q rest a' w) : Sq P ops Q ((f, ⟨some d, .index t x y, ty, pos, af, none⟩, Kp w0 S K) :: rest) a w := by
  refine r_pure hS hSw hlt (fun w => ?_) k
  obtain ⟨hi, hg2⟩ := Array.getElem?_eq_some_iff.1 hg
  have hi2 : i < s.size := hi
  have e3 : s[i]? = some u := by
    rw [getElem?_pos s i hi2]
    exact congrArg some hg2
  simp [execOp, hS.val hx, hS.val hy, Instr.index, asIntOf, run_underlying hu, byteV, e3]
end
theorem BsF.pre {F : Nat → Prop} {w : World} {q : Option Addr} {qc : Nat} {u : List UInt8} (hb : BsF F w (.slice q u.length qc) u) (n : Nat) : BsF F w (.slice q (u.take n).length qc) (u.take n) := fun w' k => by
  obtain ⟨p, cap, hs⟩ := hb w' k
  have hv := hs.val
  simp only [Value.slice.injEq] at hv
  obtain ⟨rfl, _, rfl⟩ := hv
  have hle := hs.le
  refine ⟨q, qc, ⟨rfl, by simp, by rw [List.length_take]; omega, fun i v hv => hs.cells i v ?_, hs.nil⟩⟩
  rw [List.map_take, List.getElem?_take] at hv
  split at hv
  · exact hv
  · cases hv
theorem zeros_drop {u : List UInt8} : (∀ x ∈ ((0 : UInt8) :: u), x = 0) ↔ ∀ x ∈ u, x = 0 := by simp
theorem zeros_take {u : List UInt8} {m : Nat} (h : ∀ i, m ≤ i → i < u.length → u[i]? = some 0) : (∀ x ∈ u, x = 0) ↔ ∀ x ∈ u.take m, x = 0 := by
  constructor
  · intro k x hx; exact k x (List.mem_of_mem_take hx)
  · intro k x hx
    obtain ⟨i, hi⟩ := List.getElem?_of_mem hx
    have hl := (List.getElem?_eq_some_iff.1 hi).1
    by_cases hm : m ≤ i
    · rw [h i hm hl] at hi; exact (Option.some.inj hi).symm
    · refine k x (List.mem_of_getElem? (i := i) ?_)
      rw [List.getElem?_take, if_pos (by omega)]; exact hi
end Go.Sym

namespace Go.Sym
open Go
def tbs : List Bool := [false, false, false, false, true, true, true]
theorem tcells_ok {t : Tm} (h : t.ok) : rowOk tbs t.cells :=
  ⟨⟨_, rfl, h.kind⟩, ⟨_, rfl, h.a⟩, ⟨_, rfl, h.b⟩, ⟨_, rfl, h.number⟩, ⟨_, rfl, h.label⟩, ⟨_, rfl, h.also⟩, ⟨_, rfl, h.bytes⟩, trivial⟩
/-- bytes that are opened: the term that they name is that of the key, the number and the further bytes, and as long -/
structure OpenR (ts : List Tm) (k : Nat) (nu : Int) (la lb : List UInt8) (n s : Nat) (t : Tm) : Prop where
  at_ : ts[s]? = some t
  name : lb.drop n = nm s
  term : t = selT k nu (strOf la) t.bytes
  size : t.bytes.size = n
  zero : ∀ x ∈ lb.take n, x = 0
end Go.Sym
