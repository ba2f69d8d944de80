/- Rules of symbolic execution over any program of the model, that the claims of this folder use; part SymMix. Conditions: those that each rule names. -/
import Derived.Test.YtkhcbllphdhbdaaSymRow
namespace Go.Sym
open Go

section
variable {P : Program} {ops : Array Oper} {Q : Exit → Act → World → Prop} {rest : List Item} {a : Act} {w w0 : World} {n : Nat} {R : Rg} {ds : List Deferred} {S : World → Prop}
variable {f : Bool} {d : Nat} {ty : TypeId} {pos : String} {af : Array Edge}

/-! ### words of 64 bits, as natural numbers -/
theorem wrap_u64 (m : Nat) : IntKind.u64.wrap (m : Int) = ((m % 18446744073709551616 : Nat) : Int) := by
  unfold IntKind.wrap; simp [IntKind.bits, IntKind.signed]
theorem wrap_u8 (m : Nat) : IntKind.u8.wrap (m : Int) = ((m % 256 : Nat) : Int) := by
  unfold IntKind.wrap; simp [IntKind.bits, IntKind.signed]
variable {t yt : TypeId} {x y : Operand} {m m' : Nat}
theorem r_addN (r : Nat) (hS : StD ds n R a) (hSw : Sf f S w) (hx : ev R x = some (.int .u64 (m : Int))) (hy : ev R y = some (.int .u64 (m' : Int))) (hlt : Nat.blt d n = true) (hr : (m + m') % 18446744073709551616 = r)
    (K : ∀ a', StD ds n (up R d (.int .u64 (r : Int))) a' → Sq P ops Q rest a' w) : Sq P ops Q ((f, ⟨some d, .binOp .add t x y yt, ty, pos, af, none⟩, S) :: rest) a w :=
  r_addw hS hSw hx hy hlt (by rw [show ((m : Int) + m') = ((m + m' : Nat) : Int) by omega, wrap_u64, hr]; exact K)
theorem r_mulN (r : Nat) (hS : StD ds n R a) (hSw : Sf f S w) (hx : ev R x = some (.int .u64 (m : Int))) (hy : ev R y = some (.int .u64 (m' : Int))) (hlt : Nat.blt d n = true) (hr : (m * m') % 18446744073709551616 = r)
    (K : ∀ a', StD ds n (up R d (.int .u64 (r : Int))) a' → Sq P ops Q rest a' w) : Sq P ops Q ((f, ⟨some d, .binOp .mul t x y yt, ty, pos, af, none⟩, S) :: rest) a w :=
  r_mulw hS hSw hx hy hlt (by rw [show ((m : Int) * m') = ((m * m' : Nat) : Int) by simp, wrap_u64, hr]; exact K)
theorem r_subN (r : Nat) (hS : StD ds n R a) (hSw : Sf f S w) (hx : ev R x = some (.int .u64 (m : Int))) (hy : ev R y = some (.int .u64 (m' : Int))) (hlt : Nat.blt d n = true) (hle : m' ≤ 18446744073709551616) (hr : (m + (18446744073709551616 - m')) % 18446744073709551616 = r)
    (K : ∀ a', StD ds n (up R d (.int .u64 (r : Int))) a' → Sq P ops Q rest a' w) : Sq P ops Q ((f, ⟨some d, .binOp .sub t x y yt, ty, pos, af, none⟩, S) :: rest) a w :=
  r_subw hS hSw hx hy hlt (by
    have : IntKind.u64.wrap ((m : Int) - m') = (r : Int) := by
      subst hr
      unfold IntKind.wrap; simp [IntKind.bits, IntKind.signed]; omega
    rw [this]; exact K)
theorem r_xorN (r : Nat) (hS : StD ds n R a) (hSw : Sf f S w) (hx : ev R x = some (.int .u64 (m : Int))) (hy : ev R y = some (.int .u64 (m' : Int))) (hlt : Nat.blt d n = true) (h1 : m < 18446744073709551616) (h2 : m' < 18446744073709551616) (hr : m ^^^ m' = r)
    (K : ∀ a', StD ds n (up R d (.int .u64 (r : Int))) a' → Sq P ops Q rest a' w) : Sq P ops Q ((f, ⟨some d, .binOp .xor t x y yt, ty, pos, af, none⟩, S) :: rest) a w :=
  r_xor hS hSw hx hy hlt (by
    have : IntKind.u64.wrap ((BitVec.ofInt IntKind.u64.bits (m : Int) ^^^ BitVec.ofInt IntKind.u64.bits (m' : Int)).toNat : Int) = (r : Int) := by
      have hlt : m ^^^ m' < 2 ^ 64 := Nat.xor_lt_two_pow (by omega) (by omega)
      rw [wrap_u64, BitVec.toNat_xor]
      simp only [IntKind.bits, BitVec.ofInt_natCast, BitVec.toNat_ofNat]
      rw [Nat.mod_eq_of_lt (show m < 2 ^ 64 by omega), Nat.mod_eq_of_lt (show m' < 2 ^ 64 by omega), Nat.mod_eq_of_lt (by omega), hr]
    rw [this]; exact K)
theorem r_orN (r : Nat) (hS : StD ds n R a) (hSw : Sf f S w) (hx : ev R x = some (.int .u64 (m : Int))) (hy : ev R y = some (.int .u64 (m' : Int))) (hlt : Nat.blt d n = true) (h1 : m < 18446744073709551616) (h2 : m' < 18446744073709551616) (hr : m ||| m' = r)
    (K : ∀ a', StD ds n (up R d (.int .u64 (r : Int))) a' → Sq P ops Q rest a' w) : Sq P ops Q ((f, ⟨some d, .binOp .or t x y yt, ty, pos, af, none⟩, S) :: rest) a w :=
  r_or hS hSw hx hy hlt (by
    have : IntKind.u64.wrap ((BitVec.ofInt IntKind.u64.bits (m : Int) ||| BitVec.ofInt IntKind.u64.bits (m' : Int)).toNat : Int) = (r : Int) := by
      have hlt : m ||| m' < 2 ^ 64 := Nat.or_lt_two_pow (by omega) (by omega)
      rw [wrap_u64, BitVec.toNat_or]
      simp only [IntKind.bits, BitVec.ofInt_natCast, BitVec.toNat_ofNat]
      rw [Nat.mod_eq_of_lt (show m < 2 ^ 64 by omega), Nat.mod_eq_of_lt (show m' < 2 ^ 64 by omega), Nat.mod_eq_of_lt (by omega), hr]
    rw [this]; exact K)
theorem r_shrN {k' : IntKind} {q : Int} (s r : Nat) (hS : StD ds n R a) (hSw : Sf f S w) (hx : ev R x = some (.int .u64 (m : Int))) (hy : ev R y = some (.int k' q)) (hlt : Nat.blt d n = true) (hq : q = (s : Nat)) (hs : s ≤ 64) (hr : m >>> s = r)
    (K : ∀ a', StD ds n (up R d (.int .u64 (r : Int))) a' → Sq P ops Q rest a' w) : Sq P ops Q ((f, ⟨some d, .binOp .shr t x y yt, ty, pos, af, none⟩, S) :: rest) a w :=
  r_shr hS hSw hx hy hlt (by omega) (by
    have : ((m : Int).fdiv (2 ^ (min q.toNat IntKind.u64.bits))) = (r : Int) := by
      subst hq hr
      have e : min (s : Int).toNat IntKind.u64.bits = s := by simp [IntKind.bits]; omega
      rw [e, Int.fdiv_eq_ediv_of_nonneg _ (Int.le_of_lt (Int.pow_pos (by decide))), Nat.shiftRight_eq_div_pow]
      simp
    rw [this]; exact K)
theorem r_shlN {k' : IntKind} {q : Int} (s r : Nat) (hS : StD ds n R a) (hSw : Sf f S w) (hx : ev R x = some (.int .u64 (m : Int))) (hy : ev R y = some (.int k' q)) (hlt : Nat.blt d n = true) (hq : q = (s : Nat)) (hs : s ≤ 64) (hr : (m * 2 ^ s) % 18446744073709551616 = r)
    (K : ∀ a', StD ds n (up R d (.int .u64 (r : Int))) a' → Sq P ops Q rest a' w) : Sq P ops Q ((f, ⟨some d, .binOp .shl t x y yt, ty, pos, af, none⟩, S) :: rest) a w :=
  r_shl hS hSw hx hy hlt (by omega) (by
    have : IntKind.u64.wrap ((m : Int) * 2 ^ (min q.toNat IntKind.u64.bits)) = (r : Int) := by
      subst hq hr
      have e : min (s : Int).toNat IntKind.u64.bits = s := by simp [IntKind.bits]; omega
      rw [e, show ((m : Int) * 2 ^ s) = ((m * 2 ^ s : Nat) : Int) by simp, wrap_u64]
    rw [this]; exact K)
/-- an int to a word -/
theorem r_toU64 {s : TypeId} {k : IntKind} {q : Int} (r : Nat) (hS : StD ds n R a) (hSw : Sf f S w) (hx : ev R x = some (.int k q)) (ht : P.underlying t = some (.int .u64)) (hs : (P.underlying s).isSome = true) (hlt : Nat.blt d n = true) (hq : q = (r : Nat)) (hr : r < 18446744073709551616)
    (K : ∀ a', StD ds n (up R d (.int .u64 (r : Int))) a' → Sq P ops Q rest a' w) : Sq P ops Q ((f, ⟨some d, .convert s t x, ty, pos, af, none⟩, S) :: rest) a w :=
  r_convInt hS hSw hx ht hs hlt (by rw [hq, wrap_u64, Nat.mod_eq_of_lt hr]; exact K)
/-- a word to a byte -/
theorem r_toU8 {s : TypeId} {k : IntKind} {q : Nat} (u : UInt8) (hS : StD ds n R a) (hSw : Sf f S w) (hx : ev R x = some (.int k (q : Int))) (ht : P.underlying t = some (.int .u8)) (hs : (P.underlying s).isSome = true) (hlt : Nat.blt d n = true) (hu : u = UInt8.ofNat q)
    (K : ∀ a', StD ds n (up R d (byteV u)) a' → Sq P ops Q rest a' w) : Sq P ops Q ((f, ⟨some d, .convert s t x, ty, pos, af, none⟩, S) :: rest) a w :=
  r_convInt hS hSw hx ht hs hlt (by
    have : Value.int .u8 (IntKind.u8.wrap (q : Int)) = byteV u := by rw [wrap_u8, hu]; simp [byteV]
    rw [this]; exact K)
end

/-! ### names: a one-to-one mix of numbers -/
def mixN (x : Nat) : Nat :=
  let z1 := ((x + 1) % 18446744073709551616 * 11400714819323198485) % 18446744073709551616
  let z2 := ((z1 ^^^ z1 >>> 30) * 13787848793156543929) % 18446744073709551616
  let z3 := ((z2 ^^^ z2 >>> 27) * 10723151780598845931) % 18446744073709551616
  z3 ^^^ z3 >>> 31
theorem xs_lt {z k : Nat} (h : z < 18446744073709551616) : z ^^^ z >>> k < 18446744073709551616 := by
  have : z >>> k ≤ z := by rw [Nat.shiftRight_eq_div_pow]; exact Nat.div_le_self _ _
  have : z ^^^ z >>> k < 2 ^ 64 := Nat.xor_lt_two_pow (by omega) (by omega)
  omega
theorem mixN_lt (x : Nat) : mixN x < 18446744073709551616 := by
  unfold mixN; exact xs_lt (Nat.mod_lt _ (by decide))
theorem xs_inj {z y k : Nat} (hk : 0 < k) (h : z ^^^ z >>> k = y ^^^ y >>> k) : z = y := by
  have e : (z ^^^ y) = (z ^^^ y) >>> k := by
    rw [Nat.shiftRight_xor_distrib]
    have h1 : z ^^^ (z ^^^ z >>> k) = z ^^^ (y ^^^ y >>> k) := by rw [h]
    rw [← Nat.xor_assoc, Nat.xor_self, Nat.zero_xor, ← Nat.xor_assoc] at h1
    rw [h1, Nat.xor_assoc, Nat.xor_self, Nat.xor_zero]
  have h0 : z ^^^ y = 0 := by
    rw [Nat.shiftRight_eq_div_pow] at e
    rcases Nat.eq_zero_or_pos (z ^^^ y) with h | h
    · exact h
    · have : (z ^^^ y) / 2 ^ k < z ^^^ y := Nat.div_lt_self h (Nat.one_lt_two_pow (by omega))
      omega
  have h2 : z ^^^ (z ^^^ y) = z := by rw [h0, Nat.xor_zero]
  rw [← Nat.xor_assoc, Nat.xor_self, Nat.zero_xor] at h2
  exact h2.symm
theorem mul_inv {z c c' : Nat} (hz : z < 18446744073709551616) (hc : c * c' % 18446744073709551616 = 1) : (z * c % 18446744073709551616) * c' % 18446744073709551616 = z := by
  rw [Nat.mod_mul_mod, Nat.mul_assoc, ← Nat.mul_mod_mod, hc, Nat.mul_one, Nat.mod_eq_of_lt hz]
theorem mul_inj {z y c c' : Nat} (hz : z < 18446744073709551616) (hy : y < 18446744073709551616) (hc : c * c' % 18446744073709551616 = 1) (h : z * c % 18446744073709551616 = y * c % 18446744073709551616) : z = y := by
  have := mul_inv hz hc
  rw [h, mul_inv hy hc] at this
  exact this.symm
theorem mixN_inj {x y : Nat} (hx : x < 18446744073709551616) (hy : y < 18446744073709551616) (h : mixN x = mixN y) : x = y := by
  unfold mixN at h
  have h3 := mul_inj (c' := 3573116690164977347) (xs_lt (Nat.mod_lt _ (by decide))) (xs_lt (Nat.mod_lt _ (by decide))) (by decide) (xs_inj (by decide) h)
  have h2 := mul_inj (c' := 10871156337175269513) (xs_lt (Nat.mod_lt _ (by decide))) (xs_lt (Nat.mod_lt _ (by decide))) (by decide) (xs_inj (by decide) h3)
  have h1 := mul_inj (c' := 17428512612931826493) (Nat.mod_lt _ (by decide)) (Nat.mod_lt _ (by decide)) (by decide) (xs_inj (by decide) h2)
  omega
def nmB (n k : Nat) : UInt8 := UInt8.ofNat (mixN (2 * n + k / 8) >>> (56 - 8 * (k % 8)))
def nm (n : Nat) : List UInt8 := [nmB n 0, nmB n 1, nmB n 2, nmB n 3, nmB n 4, nmB n 5, nmB n 6, nmB n 7, nmB n 8, nmB n 9, nmB n 10, nmB n 11, nmB n 12, nmB n 13, nmB n 14, nmB n 15]
theorem nm_len (n : Nat) : (nm n).length = 16 := rfl
theorem eight {x y : Nat} (hx : x < 18446744073709551616) (hy : y < 18446744073709551616) (h : ∀ k, k < 8 → x >>> (56 - 8 * k) % 256 = y >>> (56 - 8 * k) % 256) : x = y := by
  have h0 := h 0 (by decide); have h1 := h 1 (by decide); have h2 := h 2 (by decide); have h3 := h 3 (by decide)
  have h4 := h 4 (by decide); have h5 := h 5 (by decide); have h6 := h 6 (by decide); have h7 := h 7 (by decide)
  simp only [Nat.shiftRight_eq_div_pow, Nat.reduceMul, Nat.reduceSub, Nat.reducePow, Nat.div_one] at h0 h1 h2 h3 h4 h5 h6 h7
  clear h
  omega
theorem nmB_toNat (n k : Nat) : (nmB n k).toNat = mixN (2 * n + k / 8) >>> (56 - 8 * (k % 8)) % 256 := by simp [nmB]
theorem nm_inj {i j : Nat} (hi : i < 9223372036854775808) (hj : j < 9223372036854775808) (h : nm i = nm j) : i = j := by
  simp only [nm, List.cons.injEq, and_true] at h
  obtain ⟨h0, h1, h2, h3, h4, h5, h6, h7, _⟩ := h
  have : mixN (2 * i) = mixN (2 * j) := by
    refine eight (mixN_lt _) (mixN_lt _) fun k hk => ?_
    have hk8 : nmB i k = nmB j k := by
      match k, hk with
      | 0, _ => exact h0
      | 1, _ => exact h1
      | 2, _ => exact h2
      | 3, _ => exact h3
      | 4, _ => exact h4
      | 5, _ => exact h5
      | 6, _ => exact h6
      | 7, _ => exact h7
    have e := congrArg UInt8.toNat hk8
    rw [nmB_toNat, nmB_toNat, Nat.div_eq_of_lt hk, Nat.mod_eq_of_lt hk] at e
    exact e
  have := mixN_inj (by omega) (by omega) this
  omega
end Go.Sym
