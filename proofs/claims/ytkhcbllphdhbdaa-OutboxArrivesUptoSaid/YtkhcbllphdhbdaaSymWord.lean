/- Rules of symbolic execution over any program of the model, that the claims of this folder use; part SymWord. Conditions: those that each rule names. -/
import Derived.Test.YtkhcbllphdhbdaaSymHdr2
namespace Go.Sym
open Go
/-! ### bytes and words by their numbers -/
theorem bits_mask (m s : Nat) (W : Nat) (hs : s ≤ W) : (BitVec.ofInt W (m : Int) &&& BitVec.ofInt W ((2 ^ s - 1 : Nat) : Int)).toNat = (m % 2 ^ W) % 2 ^ s := by
  rw [BitVec.toNat_and]
  have e1 : (BitVec.ofInt W (m : Int)).toNat = m % 2 ^ W := by
    rw [BitVec.ofInt_natCast, BitVec.toNat_ofNat]
  have e2 : (BitVec.ofInt W ((2 ^ s - 1 : Nat) : Int)).toNat = 2 ^ s - 1 := by
    rw [BitVec.ofInt_natCast, BitVec.toNat_ofNat, Nat.mod_eq_of_lt]
    have := Nat.pow_le_pow_right (n := 2) (by omega) hs
    have := Nat.two_pow_pos s
    omega
  rw [e1, e2, Nat.and_two_pow_sub_one_eq_mod]
theorem bits_bit (m s : Nat) (hs : s < 8) (hm : m < 256) : (BitVec.ofInt 8 (m : Int) &&& BitVec.ofInt 8 ((2 ^ s : Nat) : Int)).toNat = if m.testBit s then 2 ^ s else 0 := by
  rw [BitVec.toNat_and]
  have e1 : (BitVec.ofInt 8 (m : Int)).toNat = m := by
    rw [BitVec.ofInt_natCast, BitVec.toNat_ofNat, Nat.mod_eq_of_lt hm]
  have e2 : (BitVec.ofInt 8 ((2 ^ s : Nat) : Int)).toNat = 2 ^ s := by
    rw [BitVec.ofInt_natCast, BitVec.toNat_ofNat, Nat.mod_eq_of_lt]
    exact Nat.pow_lt_pow_right (by omega) hs
  rw [e1, e2]
  apply Nat.eq_of_testBit_eq
  intro i
  rw [Nat.testBit_and, Nat.testBit_two_pow]
  by_cases hi : s = i
  · subst hi
    cases h : m.testBit s <;> simp [h]
  · cases h : m.testBit s
    · simp [hi]
    · simp [hi, Nat.testBit_two_pow]
section
variable {P : Program} {ops : Array Oper} {Q : Exit → Act → World → Prop} {rest : List Item} {a : Act} {w w0 : World} {n : Nat} {R : Rg} {ds : List Deferred} {S : Nat → Prop} {L K : Blocks}
variable {f : Bool} {d : Nat} {ty : TypeId} {pos : String} {af : Array Edge}
/-- a byte shifted to the right -/
theorem r_shrB {t yt : TypeId} {x y : Operand} {k' : IntKind} {q : Int} (m s : Nat) (hS : StD ds n R a) (hSw : Sf f (Kp w0 S K) w) (hx : ev R x = some (.int .u8 (m : Int))) (hy : ev R y = some (.int k' q)) (hlt : Nat.blt d n = true) (hq : q = (s : Nat)) (hs : s ≤ 8)
    (k : ∀ a', StD ds n (up R d (.int .u8 ((m / 2 ^ s : Nat) : Int))) a' → Sq P ops Q rest a' w) : Sq P ops Q ((f, ⟨some d, .binOp .shr t x y yt, ty, pos, af, none⟩, Kp w0 S K) :: rest) a w :=
  r_shr hS hSw hx hy hlt (by omega) (by
    have : ((m : Int).fdiv (2 ^ (min q.toNat IntKind.u8.bits))) = ((m / 2 ^ s : Nat) : Int) := by
      subst hq
      have e : min (s : Int).toNat IntKind.u8.bits = s := by simp [IntKind.bits]; omega
      rw [e, Int.fdiv_eq_ediv_of_nonneg _ (Int.le_of_lt (Int.pow_pos (by decide)))]
      simp
    rw [this]; exact k)
/-- 1 << s, an int -/
theorem r_shlI {t yt : TypeId} {x y : Operand} {k' : IntKind} {q : Int} (s : Nat) (hS : StD ds n R a) (hSw : Sf f (Kp w0 S K) w) (hx : ev R x = some (.int .i64 1)) (hy : ev R y = some (.int k' q)) (hlt : Nat.blt d n = true) (hq : q = (s : Nat)) (hs : s ≤ 61)
    (k : ∀ a', StD ds n (up R d (.int .i64 ((2 ^ s : Nat) : Int))) a' → Sq P ops Q rest a' w) : Sq P ops Q ((f, ⟨some d, .binOp .shl t x y yt, ty, pos, af, none⟩, Kp w0 S K) :: rest) a w :=
  r_shl hS hSw hx hy hlt (by omega) (by
    have : IntKind.i64.wrap ((1 : Int) * 2 ^ (min q.toNat IntKind.i64.bits)) = ((2 ^ s : Nat) : Int) := by
      subst hq
      have e : min (s : Int).toNat IntKind.i64.bits = s := by simp [IntKind.bits]; omega
      rw [e, Int.one_mul]
      have h1 : (2 : Nat) ^ s ≤ 2 ^ 61 := Nat.pow_le_pow_right (by omega) hs
      have h2 : ((2 : Int) ^ s) = ((2 ^ s : Nat) : Int) := by simp
      rw [h2]
      generalize (2 : Nat) ^ s = z at h1
      have h3 : (2 : Nat) ^ 61 = 2305843009213693952 := by decide
      exact wrap_i64 ⟨by omega, by omega⟩
    rw [this]; exact k)
/-- a word's lowest bits -/
theorem r_maskN {t yt : TypeId} {x y : Operand} {q : Int} (m s : Nat) (hS : StD ds n R a) (hSw : Sf f (Kp w0 S K) w) (hx : ev R x = some (.int .u64 (m : Int))) (hy : ev R y = some (.int .u64 q)) (hlt : Nat.blt d n = true) (hq : q = ((2 ^ s - 1 : Nat) : Int)) (hs : s ≤ 64) (hm : m < 18446744073709551616)
    (k : ∀ a', StD ds n (up R d (.int .u64 ((m % 2 ^ s : Nat) : Int))) a' → Sq P ops Q rest a' w) : Sq P ops Q ((f, ⟨some d, .binOp .and t x y yt, ty, pos, af, none⟩, Kp w0 S K) :: rest) a w :=
  r_and hS hSw hx hy hlt (by
    subst hq
    have e : (BitVec.ofInt IntKind.u64.bits (m : Int) &&& BitVec.ofInt IntKind.u64.bits ((2 ^ s - 1 : Nat) : Int)).toNat = m % 2 ^ s := by
      have h := bits_mask m s 64 hs
      rw [Nat.mod_eq_of_lt (show m < 2 ^ 64 by omega)] at h
      exact h
    rw [e, wrap_u64, Nat.mod_eq_of_lt (Nat.lt_of_le_of_lt (Nat.mod_le _ _) hm)]
    exact k)
/-- a byte's lowest bits -/
theorem r_maskB {t yt : TypeId} {x y : Operand} {q : Int} (m s : Nat) (hS : StD ds n R a) (hSw : Sf f (Kp w0 S K) w) (hx : ev R x = some (.int .u8 (m : Int))) (hy : ev R y = some (.int .u8 q)) (hlt : Nat.blt d n = true) (hq : q = ((2 ^ s - 1 : Nat) : Int)) (hs : s ≤ 8) (hm : m < 256)
    (k : ∀ a', StD ds n (up R d (.int .u8 ((m % 2 ^ s : Nat) : Int))) a' → Sq P ops Q rest a' w) : Sq P ops Q ((f, ⟨some d, .binOp .and t x y yt, ty, pos, af, none⟩, Kp w0 S K) :: rest) a w :=
  r_and hS hSw hx hy hlt (by
    subst hq
    have e : (BitVec.ofInt IntKind.u8.bits (m : Int) &&& BitVec.ofInt IntKind.u8.bits ((2 ^ s - 1 : Nat) : Int)).toNat = m % 2 ^ s := by
      have h := bits_mask m s 8 hs
      rw [Nat.mod_eq_of_lt (show m < 2 ^ 8 by omega)] at h
      exact h
    rw [e, wrap_u8, Nat.mod_eq_of_lt (Nat.lt_of_le_of_lt (Nat.mod_le _ _) hm)]
    exact k)
/-- a bit of a byte -/
theorem r_bitB {t yt : TypeId} {x y : Operand} {q : Int} (m s : Nat) (hS : StD ds n R a) (hSw : Sf f (Kp w0 S K) w) (hx : ev R x = some (.int .u8 (m : Int))) (hy : ev R y = some (.int .u8 q)) (hlt : Nat.blt d n = true) (hq : q = ((2 ^ s : Nat) : Int)) (hs : s < 8) (hm : m < 256)
    (k : ∀ a', StD ds n (up R d (.int .u8 ((if m.testBit s then 2 ^ s else 0 : Nat) : Int))) a' → Sq P ops Q rest a' w) : Sq P ops Q ((f, ⟨some d, .binOp .and t x y yt, ty, pos, af, none⟩, Kp w0 S K) :: rest) a w :=
  r_and hS hSw hx hy hlt (by
    subst hq
    have e : (BitVec.ofInt IntKind.u8.bits (m : Int) &&& BitVec.ofInt IntKind.u8.bits ((2 ^ s : Nat) : Int)).toNat = if m.testBit s then 2 ^ s else 0 := bits_bit m s hs hm
    have h1 : (if m.testBit s then 2 ^ s else 0) < 256 := by
      have := Nat.pow_lt_pow_right (a := 2) (by omega) hs
      split <;> omega
    rw [e, wrap_u8, Nat.mod_eq_of_lt h1]
    exact k)
/-- a word to a byte, by its number -/
theorem r_toB {s t : TypeId} {x : Operand} {k : IntKind} {q : Int} (m : Nat) (hS : StD ds n R a) (hSw : Sf f (Kp w0 S K) w) (hx : ev R x = some (.int k q)) (ht : P.underlying t = some (.int .u8)) (hs : (P.underlying s).isSome = true) (hlt : Nat.blt d n = true) (hq : q = (m : Nat)) (hm : m < 256)
    (k' : ∀ a', StD ds n (up R d (.int .u8 (m : Int))) a' → Sq P ops Q rest a' w) : Sq P ops Q ((f, ⟨some d, .convert s t x, ty, pos, af, none⟩, Kp w0 S K) :: rest) a w :=
  r_convInt hS hSw hx ht hs hlt (by rw [hq, wrap_u8, Nat.mod_eq_of_lt hm]; exact k')
end
end Go.Sym
