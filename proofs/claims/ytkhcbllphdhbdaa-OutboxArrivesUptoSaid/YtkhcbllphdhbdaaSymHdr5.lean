/- Rules of symbolic execution over any program of the model, that the claims of this folder use; part SymHdr5. Conditions: those that each rule names. -/
import Derived.Test.YtkhcbllphdhbdaaSymHdr4
namespace Go.Sym
open Go
section
variable {P : Program} {ops : Array Oper} {Q : Exit → Act → World → Prop} {rest : List Item} {a : Act} {w w0 : World} {n : Nat} {R : Rg} {ds : List Deferred} {S : Nat → Prop} {L K : Blocks}
variable {f : Bool} {d : Nat} {ty : TypeId} {pos : String} {af : Array Edge}
theorem bits_maskI (m : Int) (s : Nat) (hs : s ≤ 64) : ((BitVec.ofInt 64 m &&& BitVec.ofInt 64 ((2 ^ s - 1 : Nat) : Int)).toNat : Int) = m % (2 ^ s : Nat) := by
  rw [BitVec.toNat_and]
  have e2 : (BitVec.ofInt 64 ((2 ^ s - 1 : Nat) : Int)).toNat = 2 ^ s - 1 := by
    rw [BitVec.ofInt_natCast, BitVec.toNat_ofNat, Nat.mod_eq_of_lt]
    have := Nat.pow_le_pow_right (n := 2) (by omega) hs
    have := Nat.two_pow_pos s
    omega
  rw [e2, Nat.and_two_pow_sub_one_eq_mod, BitVec.toNat_ofInt]
  have hd : ((2 ^ s : Nat) : Int) ∣ ((2 ^ 64 : Nat) : Int) := by
    have : (2 ^ s : Nat) ∣ 2 ^ 64 := Nat.pow_dvd_pow 2 hs
    exact Int.natCast_dvd_natCast.2 this
  have h0 : 0 ≤ m % ((2 ^ 64 : Nat) : Int) := Int.emod_nonneg _ (by have := Nat.two_pow_pos 64; omega)
  rw [Int.natCast_emod, Int.toNat_of_nonneg h0, Int.emod_emod_of_dvd _ hd]
/-- an int's lowest bits -/
theorem r_maskI {t yt : TypeId} {x y : Operand} {q m : Int} (s r : Nat) (hS : StD ds n R a) (hSw : Sf f (Kp w0 S K) w) (hx : ev R x = some (.int .i64 m)) (hy : ev R y = some (.int .i64 q)) (hlt : Nat.blt d n = true) (hq : q = ((2 ^ s - 1 : Nat) : Int)) (hs : s ≤ 62) (hr : m % (2 ^ s : Nat) = (r : Int))
    (k : ∀ a', StD ds n (up R d (.int .i64 (r : Int))) a' → r < 2 ^ s → Sq P ops Q rest a' w) : Sq P ops Q ((f, ⟨some d, .binOp .and t x y yt, ty, pos, af, none⟩, Kp w0 S K) :: rest) a w := by
  have hp := Nat.two_pow_pos s
  have hlt2 : r < 2 ^ s := by have := Int.emod_lt_of_pos m (b := ((2 ^ s : Nat) : Int)) (by omega); omega
  have h62 : (2 : Nat) ^ s ≤ 2 ^ 62 := Nat.pow_le_pow_right (by omega) hs
  have e62 : (2 : Nat) ^ 62 = 4611686018427387904 := by decide
  refine r_and hS hSw hx hy hlt fun a' hS' => k a' ?_ hlt2
  subst hq
  have e : ((BitVec.ofInt IntKind.i64.bits m &&& BitVec.ofInt IntKind.i64.bits ((2 ^ s - 1 : Nat) : Int)).toNat : Int) = (r : Int) := by
    rw [← hr]; exact bits_maskI m s (by omega)
  rw [e, wrap_i64 ⟨by omega, by omega⟩] at hS'
  exact hS'
/-- a number that is not below 0, shifted to the right -/
theorem r_shrI {t yt : TypeId} {x y : Operand} {k' : IntKind} {q : Int} (m s : Nat) (hS : StD ds n R a) (hSw : Sf f (Kp w0 S K) w) (hx : ev R x = some (.int .i64 (m : Int))) (hy : ev R y = some (.int k' q)) (hlt : Nat.blt d n = true) (hq : q = (s : Nat)) (hs : s ≤ 64)
    (k : ∀ a', StD ds n (up R d (.int .i64 ((m / 2 ^ s : Nat) : Int))) a' → Sq P ops Q rest a' w) : Sq P ops Q ((f, ⟨some d, .binOp .shr t x y yt, ty, pos, af, none⟩, Kp w0 S K) :: rest) a w :=
  r_shr hS hSw hx hy hlt (by omega) (by
    have : ((m : Int).fdiv (2 ^ (min q.toNat IntKind.i64.bits))) = ((m / 2 ^ s : Nat) : Int) := by
      subst hq
      have e : min (s : Int).toNat IntKind.i64.bits = s := by simp [IntKind.bits]; omega
      rw [e, Int.fdiv_eq_ediv_of_nonneg _ (Int.le_of_lt (Int.pow_pos (by decide)))]
      simp
    rw [this]; exact k)
/-! ### bytes in a block of the call's own -/
structure BB (cap : Nat) (l : List Value) (u : List UInt8) : Prop where
  len : l.length = cap
  le : u.length ≤ cap
  take : l.take u.length = u.map byteV
theorem BB.bsF {cap b : Nat} {l : List Value} {u : List UInt8} (h : BB cap l u) {F : Nat → Prop} {T : TypeId} {fz : Nat × Nat} (hb : w.heap[b]? = some (.cells l.toArray T fz)) (hF : ¬ F b) : BsF F w (.slice (some ⟨b, 0, none⟩) u.length cap) u :=
  BsF.row hb hF (by rw [h.len, Nat.mul_one]) h.le (by rw [Nat.mul_one]; exact h.take) rfl
theorem BB.bs {cap b : Nat} {l : List Value} {u : List UInt8} (h : BB cap l u) {T : TypeId} {fz : Nat × Nat} (hb : w.heap[b]? = some (.cells l.toArray T fz)) : Bs w (.slice (some ⟨b, 0, none⟩) u.length cap) u := (h.bsF (F := Nobody) hb (fun h => h)).bs
theorem BB.lit {cap : Nat} {l : List Value} (u : List UInt8) (h : l = u.map byteV) (hc : u.length = cap) : BB cap l u := ⟨by rw [h, List.length_map, hc], by omega, by rw [h, List.take_of_length_le (by simp)]⟩
theorem BB.nil : BB 0 [] [] := ⟨rfl, Nat.le_refl _, rfl⟩
/-- append to bytes of the call's own -/
theorem r_appB {t t2 e : Nat} {x y : Operand} {b cap : Nat} {vy : Value} {l : List Value} {L' : Blocks} (u v : List UInt8) (hS : StD ds n R a) (hH : Hp w0 S L w) (hx : ev R x = some (.slice (some ⟨b, 0, none⟩) u.length cap)) (hy : ev R y = some vy)
    (hi : Del b (.cells l.toArray e (0, 0)) L L') (hs : Sub K L') (he : elB P t = some (e, 1, 1)) (h2 : notInt P t2 = true) (hB : BB cap l u) (hsrc : Bs w vy v) (hbytes : u.length + v.length ≤ 140737488355328) (hw : w0.heap.size ≤ b) (hlt : Nat.blt d n = true)
    (kk : ∀ (a' : Act) (w' : World) (b' c : Nat) (l2 : List Value), w0.heap.size ≤ b' → BB c l2 (u ++ v) → StD ds n (up R d (.slice (some ⟨b', 0, none⟩) (u ++ v).length c)) a' → Hp w0 S ((b', .cells l2.toArray e (0, 0)) :: L') w' → Sq P ops Q rest a' w') :
    Sq P ops Q ((false, ⟨some d, .call ⟨.builtin .append, #[x, y], #[t, t2]⟩, ty, pos, af, none⟩, Kp w0 S K) :: rest) a w :=
  r_append_own2 hS hH hx hy hi hs he h2 (by rw [hB.len, Nat.mul_one]) hB.le hsrc.src (by rw [Nat.mul_one]; exact hbytes) hw hlt fun a' w' b' c l2 h1 h3 h4 h5 _ hS' hH' => by
    have e1 : u.length + v.length = (u ++ v).length := by simp
    rw [e1] at hS' h4
    refine kk a' w' b' c l2 h1 ⟨by rw [h3, Nat.mul_one], h4, ?_⟩ hS' hH'
    rw [e1, Nat.mul_one, Nat.mul_one] at h5
    rw [h5, hB.take, List.map_append]
end
/-! ### what was put, read -/
theorem drop_mid (a b c : List UInt8) : ((a ++ (b ++ c)).drop a.length).take b.length = b := by simp
theorem numC_at {l : List UInt8} {n p : Nat} (a b c : List UInt8) (hl : l = a ++ (b ++ c)) (hp : p = a.length) (hn : n = b.length) : numC l n ⟨p, 0⟩ = (beN b, ⟨p + n, 0⟩) := by
  subst hl hp hn
  unfold numC
  rw [if_pos rfl, if_pos (by simp), drop_mid]
theorem bytesC_at {l : List UInt8} {n p : Nat} (a b c : List UInt8) (hl : l = a ++ (b ++ c)) (hp : p = a.length) (hn : n = b.length) : bytesC l n ⟨p, 0⟩ = (b, ⟨p + n, 0⟩) := by
  subst hl hp hn
  unfold bytesC
  rw [if_pos rfl, if_pos (by simp), drop_mid]
theorem idC_at {l : List UInt8} {p : Nat} (a b c : List UInt8) (hl : l = a ++ (UInt8.ofNat b.length :: (b ++ c))) (hp : p = a.length) (hb : b.length ≤ 20) : idC l ⟨p, 0⟩ = (b, ⟨p + 1 + b.length, 0⟩) := by
  have e1 : numC l 1 ⟨p, 0⟩ = (b.length, ⟨p + 1, 0⟩) := by
    rw [numC_at (n := 1) (l := l) a [UInt8.ofNat b.length] (b ++ c) (by rw [hl]; rfl) hp rfl]
    have : beN [UInt8.ofNat b.length] = b.length := by simp [beN]; omega
    rw [this]
  unfold idC
  rw [e1]
  simp only
  rw [okC_yes (.inr (by simpa using hb)), if_pos rfl]
  exact bytesC_at (a ++ [UInt8.ofNat b.length]) b c (by rw [hl]; simp) (by rw [hp]; simp) rfl
theorem be4 {v : Nat} (h : v < 4294967296) : beN [UInt8.ofNat (v / 2 ^ 24), UInt8.ofNat (v / 2 ^ 16), UInt8.ofNat (v / 2 ^ 8), UInt8.ofNat v] = v := by
  simp [beN]; omega
end Go.Sym
