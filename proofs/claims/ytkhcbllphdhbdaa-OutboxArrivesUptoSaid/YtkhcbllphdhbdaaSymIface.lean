/- Rules of symbolic execution over any program of the model, that the claims of this folder use; part SymIface. Conditions: those that each rule names. -/
import Derived.Test.YtkhcbllphdhbdaaSymLaws
namespace Go.Sym
open Go
/-! ### interface values, an array's value read at a place -/
def concB (P : Program) (t : TypeId) : Bool := match P.underlying t with
  | some (.interface _) => false
  | some _ => true
  | none => false
def ixB (P : Program) (t : TypeId) : Option Nat := match P.underlying t with
  | some (.array m e) => if scB P e = true ∧ (P.info? e).map (·.size) = some 1 then some m else none
  | _ => none
section
variable {P : Program} {ops : Array Oper} {Q : Exit → Act → World → Prop} {rest : List Item} {a : Act} {w w0 : World} {n : Nat} {R : Rg} {ds : List Deferred} {S : Nat → Prop} {L K : Blocks}
variable {f : Bool} {d : Nat} {ty : TypeId} {pos : String} {af : Array Edge}
theorem r_makeIface {t : TypeId} {x : Operand} {v : Value} (hS : StD ds n R a) (hSw : Sf f (Kp w0 S K) w) (hx : ev R x = some v) (ht : concB P t = true) (hlt : Nat.blt d n = true)
    (k : ∀ a', StD ds n (up R d (.iface t v)) a' → Sq P ops Q rest a' w) : Sq P ops Q ((f, ⟨some d, .makeInterface t x, ty, pos, af, none⟩, Kp w0 S K) :: rest) a w := by
  refine r_pure hS hSw hlt (fun w => ?_) k
  unfold concB at ht
  split at ht
  · cases ht
  · rename_i u hne hu
    simp only [execOp, hS.val hx]
    simp only [Instr.makeInterface]
    cases u with
    | interface ms => exact absurd rfl (hne ms)
    | _ => simp [run_underlying hu]
  · cases ht
theorem r_index1 {t m : Nat} {x y : Operand} {cs : List Value} {i : Nat} {ii : Int} {u : Value} (hS : StD ds n R a) (hSw : Sf f (Kp w0 S K) w) (hx : ev R x = some (.agg cs.toArray)) (hy : ev R y = some (.int .i64 ii)) (hu : ixB P t = some m) (hi : ii = i) (him : i < m) (hg : cs[i]? = some u) (hlt : Nat.blt d n = true)
    (k : ∀ a', StD ds n (up R d u) a' → Sq P ops Q rest a' w) : Sq P ops Q ((f, ⟨some d, .index t x y, ty, pos, af, none⟩, Kp w0 S K) :: rest) a w := by
  subst hi
  refine r_pure hS hSw hlt (fun w => ?_) k
  unfold ixB at hu
  split at hu
  · rename_i m' e hun
    split at hu
    · rename_i hc
      obtain ⟨hc, h1⟩ := hc
      cases hu
      obtain ⟨inf, hinf, hsz⟩ := Option.map_eq_some_iff.1 h1
      have e1 : (0 : Int) ≤ (i : Int) ∧ (i : Int) < (m : Int) := ⟨Int.natCast_nonneg i, Int.ofNat_lt.2 him⟩
      simp [execOp, hS.val hx, hS.val hy, Instr.index, asIntOf, run_underlying hun, e1, sizeOf, typeInfo, hinf, hsz, part, run_isAgg_sc hc, hg]
      intro hh
      omega
    · cases hu
  · cases hu
end
end Go.Sym
