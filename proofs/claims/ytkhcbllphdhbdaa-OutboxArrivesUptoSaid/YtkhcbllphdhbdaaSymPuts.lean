/- Rules of symbolic execution over any program of the model, that the claims of this folder use; part SymPuts. Conditions: those that each rule names. -/
import Derived.Test.YtkhcbllphdhbdaaSymNum
namespace Go.Sym
open Go
/-! ### bytes that are put -/
/-- a slice of bytes in a new block -/
def NB (B : Nat) (T : TypeId) (w : World) (v : Value) (r : List UInt8) : Prop := ∃ (rb cap : Nat) (l : List Value), v = .slice (some ⟨rb, 0, none⟩) r.length cap ∧ B ≤ rb ∧ w.heap[rb]? = some (.cells l.toArray T (0, 0)) ∧ BB cap l r
theorem NB.mono {B B' : Nat} {T : TypeId} {w : World} {v : Value} {r : List UInt8} (h : NB B T w v r) (k : B' ≤ B) : NB B' T w v r := by
  obtain ⟨rb, cap, l, h1, h2, h3⟩ := h
  exact ⟨rb, cap, l, h1, Nat.le_trans k h2, h3⟩
theorem NB.ext {B : Nat} {T : TypeId} {w w' : World} {v : Value} {r : List UInt8} (h : NB B T w v r) (k : Ext w w') : NB B T w' v r := by
  obtain ⟨rb, cap, l, h1, h2, h3, h4⟩ := h
  exact ⟨rb, cap, l, h1, h2, k.heap_some h3, h4⟩
theorem NB.bs {B : Nat} {T : TypeId} {w : World} {v : Value} {r : List UInt8} (h : NB B T w v r) : Bs w v r := by
  obtain ⟨rb, cap, l, rfl, h2, h3, h4⟩ := h
  exact h4.bs h3
theorem Own.bb {B m : Nat} {T : TypeId} {w : World} {v : Value} {r : List UInt8} (h : Own B 1 T w v m (r.map byteV)) (hm : m = r.length) : (v = .slice none 0 0 ∧ r = []) ∨ NB B T w v r := by
  subst hm
  rcases h with ⟨rfl, h0, _⟩ | ⟨b, cap, l, rfl, h2, h3, h4, h5, h6⟩
  · exact .inl ⟨rfl, List.eq_nil_of_length_eq_zero h0⟩
  · exact .inr ⟨b, cap, l, rfl, h2, h3, ⟨by omega, h5, by rw [Nat.mul_one] at h6; exact h6⟩⟩
def beB (x n : Nat) : List UInt8 := (List.range n).map fun i => UInt8.ofNat (x / 256 ^ (n - 1 - i))
theorem beB_len (x n : Nat) : (beB x n).length = n := by simp [beB]
theorem beB_take {x n i : Nat} (hi : i < n) : (beB x n).take (i + 1) = (beB x n).take i ++ [UInt8.ofNat (x / 256 ^ (n - 1 - i))] := by
  rw [List.take_add_one]
  congr 1
  simp [beB, hi]
theorem shr_pow (x j : Nat) : x >>> (8 * j) = x / 256 ^ j := by
  rw [Nat.shiftRight_eq_div_pow, Nat.pow_mul]
theorem beB_succ (x n : Nat) : beB x (n + 1) = UInt8.ofNat (x / 256 ^ n) :: beB x n := by
  unfold beB
  rw [List.range_succ_eq_map, List.map_cons, List.map_map]
  congr 1
  apply List.map_congr_left
  intro i hi
  have := List.mem_range.1 hi
  show UInt8.ofNat (x / 256 ^ (n + 1 - 1 - (i + 1))) = _
  rw [show n + 1 - 1 - (i + 1) = n - 1 - i by omega]
theorem beN_beB (x : Nat) : ∀ n, beN (beB x n) = x % 256 ^ n
  | 0 => by simp [beB, beN, Nat.mod_one]
  | n + 1 => by
    have h1 : x % 256 ^ (n + 1) = x % 256 ^ n + 256 ^ n * (x / 256 ^ n % 256) := by rw [Nat.pow_succ]; exact Nat.mod_mul
    rw [beB_succ, beN_cons, beB_len, beN_beB x n, h1, Nat.mul_comm]
    have : (UInt8.ofNat (x / 256 ^ n)).toNat = x / 256 ^ n % 256 := by simp
    rw [this]; omega
def formK (v : Nat) : Nat := if v < 64 then 0 else if v < 16384 then 1 else if v < 1073741824 then 2 else 3
def wideB (v k : Nat) : List UInt8 := beB (v + k * 2 ^ (8 * 2 ^ k - 2)) (2 ^ k)
theorem formK_le (v : Nat) : formK v ≤ 3 := by unfold formK; split <;> (try split) <;> (try split) <;> omega
theorem beB_add {x k n : Nat} : beB (x + k * 256 ^ n) (n + 1) = UInt8.ofNat (x / 256 ^ n + k) :: beB x n := by
  rw [beB_succ]
  have hp : 0 < 256 ^ n := Nat.pow_pos (by decide)
  congr 1
  · rw [Nat.add_mul_div_right _ _ hp]
  · unfold beB
    apply List.map_congr_left
    intro i hi
    have hi' := List.mem_range.1 hi
    apply UInt8.toNat.inj
    simp only [UInt8.toNat_ofNat']
    have e : 256 ^ n = 256 ^ (n - 1 - i) * (256 ^ i * 256) := by rw [← Nat.pow_succ, ← Nat.pow_add]; congr 1; omega
    have hq : 0 < 256 ^ (n - 1 - i) := Nat.pow_pos (by decide)
    rw [e, show k * (256 ^ (n - 1 - i) * (256 ^ i * 256)) = 256 ^ (n - 1 - i) * (k * 256 ^ i * 256) by rw [Nat.mul_left_comm, ← Nat.mul_assoc k]]
    rw [Nat.add_mul_div_left _ _ hq]
    show (_ + k * 256 ^ i * 256) % 256 = _
    omega
theorem wide_or {v k s : Nat} (h : v < 2 ^ s) : v ||| k * 2 ^ s = v + k * 2 ^ s := by
  have := Nat.two_pow_add_eq_or_of_lt (i := s) (b := v) h k
  rw [Nat.mul_comm k, Nat.or_comm, ← this]; omega
theorem formK_fit {v : Nat} (h : v < 4611686018427387904) : v < 2 ^ (8 * 2 ^ (formK v) - 2) := by
  unfold formK
  split
  · show v < 64; assumption
  · split
    · show v < 16384; assumption
    · split
      · show v < 1073741824; assumption
      · show v < 4611686018427387904; exact h
theorem wide_bd {v k : Nat} (hk : k ≤ 3) (h : v < 2 ^ (8 * 2 ^ k - 2)) : v + k * 2 ^ (8 * 2 ^ k - 2) < 18446744073709551616 := by
  match k, hk with
  | 0, _ => have : v < 64 := h; show v + 0 * _ < _; omega
  | 1, _ => have : v < 16384 := h; show v + 1 * 16384 < _; omega
  | 2, _ => have : v < 1073741824 := h; show v + 2 * 1073741824 < _; omega
  | 3, _ => have : v < 4611686018427387904 := h; show v + 3 * 4611686018427387904 < _; omega
theorem BB.setHead {cap : Nat} {l : List Value} {x y : UInt8} {t : List UInt8} (h : BB cap l (x :: t)) : BB cap (spl l 0 [byteV y]) (y :: t) := by
  have h1 := h.len
  have h2 := h.le
  have h0 : 0 < l.length := by rw [h1]; simp at h2; omega
  refine ⟨by rw [spl1_len h0]; exact h1, h2, ?_⟩
  rw [spl1_eq h0]
  show (l.set 0 (byteV y)).take (t.length + 1) = _
  rw [List.take_set]
  have h9 := h.take
  rw [show (x :: t).length = t.length + 1 from rfl] at h9
  rw [h9]; rfl
theorem BB.head {cap : Nat} {l : List Value} {x : UInt8} {t : List UInt8} (h : BB cap l (x :: t)) : nthV l 0 = some (byteV x) ∧ 0 < l.length := by
  refine ⟨by rw [nthV_eq]; exact h.at (k := 0) rfl, ?_⟩
  have h1 := h.len
  have h2 := h.le
  simp at h2; omega
theorem wideB_0 (v : Nat) : wideB v 0 = (UInt8.ofNat v + UInt8.ofNat 0) :: [] := by
  show beB (v + 0 * _) 1 = _
  rw [Nat.zero_mul, Nat.add_zero]
  simp [beB]
theorem wideB_1 (v : Nat) : wideB v 1 = (UInt8.ofNat (v / 256) + UInt8.ofNat 64) :: [UInt8.ofNat v] := by
  show beB (v + 1 * 16384) 2 = _
  have := beB_add (x := v) (k := 64) (n := 1)
  rw [show 64 * 256 ^ 1 = 1 * 16384 by decide] at this
  rw [this, show v / 256 ^ 1 = v / 256 by rfl, UInt8.ofNat_add]
  simp [beB]
section
variable {P : Program} {ops : Array Oper} {Q : Exit → Act → World → Prop} {rest : List Item} {a : Act} {w w0 : World} {n : Nat} {R : Rg} {ds : List Deferred} {S : Nat → Prop} {L K : Blocks}
variable {f : Bool} {d : Nat} {ty : TypeId} {pos : String} {af : Array Edge}
/-- a sum of bytes -/
theorem r_addB {t yt : TypeId} {x y : Operand} (u v : UInt8) (hS : StD ds n R a) (hSw : Sf f (Kp w0 S K) w) (hx : ev R x = some (byteV u)) (hy : ev R y = some (byteV v)) (hlt : Nat.blt d n = true)
    (k : ∀ a', StD ds n (up R d (byteV (u + v))) a' → Sq P ops Q rest a' w) : Sq P ops Q ((f, ⟨some d, .binOp .add t x y yt, ty, pos, af, none⟩, Kp w0 S K) :: rest) a w :=
  r_addw hS hSw hx hy hlt (by
    have : Value.int .u8 (IntKind.u8.wrap ((u.toNat : Int) + (v.toNat : Int))) = byteV (u + v) := by
      rw [← Int.natCast_add, wrap_u8]
      simp [byteV]
    rw [this]; exact k)
end
end Go.Sym
