/- Rules of symbolic execution over any program of the model, that the claims of this folder use; part SymHdr2. Conditions: those that each rule names. -/
import Derived.Test.YtkhcbllphdhbdaaSymHdr
namespace Go.Sym
open Go
section
variable {P : Program} {ops : Array Oper} {Q : Exit → Act → World → Prop} {rest : List Item} {a : Act} {w w0 : World} {n : Nat} {R : Rg} {ds : List Deferred} {S : Nat → Prop} {L K : Blocks}
variable {f : Bool} {d : Nat} {ty : TypeId} {pos : String} {af : Array Edge}
/-- a word to an int -/
theorem r_toI64 {s t : TypeId} {x : Operand} {k : IntKind} {q : Int} (r : Nat) (hS : StD ds n R a) (hSw : Sf f (Kp w0 S K) w) (hx : ev R x = some (.int k q)) (ht : P.underlying t = some (.int .i64)) (hs : (P.underlying s).isSome = true) (hlt : Nat.blt d n = true) (hq : q = (r : Nat)) (hr : r < 9223372036854775808)
    (K' : ∀ a', StD ds n (up R d (.int .i64 (r : Int))) a' → Sq P ops Q rest a' w) : Sq P ops Q ((f, ⟨some d, .convert s t x, ty, pos, af, none⟩, Kp w0 S K) :: rest) a w :=
  r_convInt hS hSw hx ht hs hlt (by rw [hq, wrap_i64 ⟨by omega, by omega⟩]; exact K')
/-- x[:h:h] -/
theorem r_slHiMax {t es m cap hh : Nat} {x y z : Operand} {p : Option Addr} {kk kk' : IntKind} {i j : Int} (hS : StD ds n R a) (hSw : Sf f (Kp w0 S K) w) (hx : ev R x = some (.slice p m cap)) (hy : ev R y = some (.int kk i)) (hz : ev R z = some (.int kk' j)) (ht : slB P t = some es) (hi : i = hh) (hj : j = hh) (hle : hh ≤ cap) (hsp : ∀ q, p = some q → q.spot = none) (hlt : Nat.blt d n = true)
    (k : ∀ a', StD ds n (up R d (.slice p hh hh)) a' → Sq P ops Q rest a' w) : Sq P ops Q ((f, ⟨some d, .slice t x none (some y) (some z), ty, pos, af, none⟩, Kp w0 S K) :: rest) a w := by
  obtain ⟨e, i', hu, hi', rfl⟩ := slB_parts ht
  subst hi
  subst hj
  refine r_pure hS hSw hlt (fun w => ?_) k
  have hp : p.map (fun q => q.add (0 * i'.size)) = p := by
    cases p with
    | none => rfl
    | some q => simp [Addr.add]
  simp [execOp, hS.val hx, hS.val hy, hS.val hz, Instr.sliceAt, Instr.slice, run_underlying hu, Instr.sliceBounds, Instr.sliceBound, asIntOf, hle, sizeOf, typeInfo, hi']
  rw [Nat.zero_mul] at hp
  intro _; exact hp
end
/-- a part of a slice of bytes -/
theorem BsF.part {F : Nat → Prop} {w : World} {ba bo m qc ll hh : Nat} {l : List UInt8} (hb : BsF F w (.slice (some ⟨ba, bo, none⟩) m qc) l) (h1 : ll ≤ hh) (h2 : hh ≤ l.length) : BsF F w (.slice (some (if qc = ll then ⟨ba, bo, none⟩ else ⟨ba, bo + ll * 1, none⟩)) (hh - ll) (qc - ll)) ((l.drop ll).take (hh - ll)) := by
  intro w' k
  obtain ⟨p, cap, hs⟩ := hb w' k
  have hv := hs.val
  injection hv with e1 e2 e3
  subst e1 e2 e3
  have hle := hs.le
  have hlen : ((l.drop ll).take (hh - ll)).length = hh - ll := by simp; omega
  refine ⟨_, _, by rw [hlen], by simp, by rw [hlen]; omega, fun i u hu => ?_, fun h => by cases h⟩
  have hi : i < hh - ll := by
    have := (List.getElem?_eq_some_iff.1 hu).1
    simp at this; omega
  rw [if_neg (by omega)]
  refine ⟨_, _, rfl, ?_⟩
  have hu2 : (l.map byteV)[ll + i]? = some u := by
    rw [List.getElem?_map, List.getElem?_take, if_pos hi, List.getElem?_drop] at hu
    rw [List.getElem?_map]; exact hu
  obtain ⟨b, o, e, hc⟩ := hs.cells _ u hu2
  cases e
  rw [Nat.mul_one, Nat.add_assoc]
  exact hc
theorem BsF.low {F : Nat → Prop} {w : World} {ba bo m qc ll : Nat} {l : List UInt8} (hb : BsF F w (.slice (some ⟨ba, bo, none⟩) m qc) l) (hm : m = l.length) (h2 : ll ≤ l.length) : BsF F w (.slice (some (if qc = ll then ⟨ba, bo, none⟩ else ⟨ba, bo + ll * 1, none⟩)) (m - ll) (qc - ll)) (l.drop ll) := by
  have h := hb.part (ll := ll) (hh := l.length) h2 (Nat.le_refl _)
  rw [List.take_of_length_le (by simp)] at h
  rw [hm]; exact h
theorem BsF.addr {F : Nat → Prop} {w : World} {q : Option Addr} {m qc : Nat} {l : List UInt8} (hb : BsF F w (.slice q m qc) l) (h : 0 < l.length) : ∃ b o, q = some ⟨b, o, none⟩ := by
  obtain ⟨p, cap, hs⟩ := hb.bs
  have hv := hs.val
  injection hv with e1 e2 e3
  subst e1
  exact hs.addr (by omega)
theorem BsF.len {F : Nat → Prop} {w : World} {q : Option Addr} {m qc : Nat} {l : List UInt8} (hb : BsF F w (.slice q m qc) l) : m = l.length ∧ m ≤ qc := by
  obtain ⟨p, cap, hs⟩ := hb.bs
  have hv := hs.val
  injection hv with e1 e2 e3
  exact ⟨e2, by rw [e2, e3]; exact hs.le⟩
theorem BsF.byte {F : Nat → Prop} {w w' : World} {b o m qc i : Nat} {l : List UInt8} {x : UInt8} (hb : BsF F w (.slice (some ⟨b, o, none⟩) m qc) l) (k : Mod F w w') (hx : l[i]? = some x) : w'.cell? ⟨b, o + i, none⟩ = some (byteV x) := by
  obtain ⟨p, cap, hs⟩ := hb w' k
  have hv := hs.val
  injection hv with e1 e2 e3
  obtain ⟨b', o', e, hc⟩ := hs.cells i (byteV x) (by rw [List.getElem?_map, hx]; rfl)
  rw [← e1] at e
  cases e
  exact hc
theorem or_byte (m : Nat) (x : UInt8) : m * 256 ||| x.toNat = m * 256 + x.toNat := by
  have := Nat.two_pow_add_eq_or_of_lt (i := 8) (b := x.toNat) x.toNat_lt m
  rw [Nat.mul_comm m 256]
  exact this.symm
theorem beN_succ {l : List UInt8} {k : Nat} {x : UInt8} (h : l[k]? = some x) : beN (l.take (k + 1)) = beN (l.take k) * 256 + x.toNat := by
  have e : l.take (k + 1) = l.take k ++ [x] := by rw [List.take_add_one, h]; rfl
  rw [e, beN_snoc]
theorem beN_bound {l : List UInt8} {k : Nat} (hk : k ≤ l.length) (h8 : k ≤ 7) : beN (l.take k) < 72057594037927936 := by
  have h1 := beN_take l k hk
  have h2 : 256 ^ k ≤ 256 ^ 7 := Nat.pow_le_pow_right (by omega) h8
  have h3 : (256 : Nat) ^ 7 = 72057594037927936 := by decide
  omega
/-! ### the cursor's errors -/
theorem okC_yes {p : Nat} {bad e : Int} {is : Bool} (h : bad ≠ 0 ∨ is = true) : okC ⟨p, bad⟩ is e = ⟨p, bad⟩ := by
  unfold okC
  rw [if_neg (by rintro ⟨h1, h2⟩; rcases h with h | h; exact h h1; rw [h] at h2; cases h2)]
theorem okC_no {p : Nat} {bad e : Int} {is : Bool} (h1 : bad = 0) (h2 : is = false) : okC ⟨p, bad⟩ is e = ⟨p, e⟩ := by
  unfold okC
  rw [if_pos ⟨h1, h2⟩]
theorem okC_p (c : Cu) (is : Bool) (e : Int) : (okC c is e).p = c.p := by unfold okC; split <;> rfl
def GetR (l : List UInt8) (p n : Nat) (x : Nat) (y z : Int) : Prop := (p + n ≤ l.length ∧ x = beN ((l.drop p).take n) ∧ y = ((p + n : Nat) : Int) ∧ z = 0) ∨ (l.length < p + n ∧ z = 10)
theorem num_no {l : List UInt8} {n p x : Nat} {bad y z : Int} (hg : GetR l p n x y z) (h : (!decide ((okC ⟨p, bad⟩ (decide (z = 0)) 10).bad = 0)) = true) : numC l n ⟨p, bad⟩ = (0, ⟨p, (okC ⟨p, bad⟩ (decide (z = 0)) 10).bad⟩) := by
  simp only [Bool.not_eq_true', decide_eq_false_iff_not] at h
  unfold numC
  by_cases hb : bad = 0
  · rcases hg with ⟨h1, _, _, rfl⟩ | ⟨h1, rfl⟩
    · exact absurd (by rw [okC_yes (.inr (by decide))]; exact hb) h
    · rw [if_pos hb, if_neg (by simp; omega), okC_no hb (by decide)]
  · rw [if_neg hb, okC_yes (.inl hb)]
theorem num_yes {l : List UInt8} {n p x : Nat} {bad y z : Int} (hg : GetR l p n x y z) (h : (!decide ((okC ⟨p, bad⟩ (decide (z = 0)) 10).bad = 0)) = false) : bad = 0 ∧ y = ((p + n : Nat) : Int) ∧ p + n ≤ l.length ∧ x = beN ((l.drop p).take n) ∧ (okC ⟨p, bad⟩ (decide (z = 0)) 10).bad = 0 ∧ numC l n ⟨p, bad⟩ = (x, ⟨p + n, 0⟩) := by
  simp only [Bool.not_eq_false', decide_eq_true_eq] at h
  have hb : bad = 0 := by
    by_cases hb : bad = 0
    · exact hb
    · rw [okC_yes (.inl hb)] at h; exact absurd h hb
  rcases hg with ⟨h1, h2, h3, rfl⟩ | ⟨h1, rfl⟩
  · exact ⟨hb, h3, h1, h2, h, by unfold numC; rw [if_pos hb, if_pos (by simpa using h1), h2]⟩
  · rw [okC_no hb (by decide)] at h; cases h
theorem num_lt {l : List UInt8} {n : Nat} {c : Cu} : (numC l n c).1 < 256 ^ n := by
  have hp : 0 < 256 ^ n := Nat.pow_pos (by omega)
  unfold numC
  split
  · split
    · have := beN_lt ((l.drop c.p).take n)
      have h2 : ((l.drop c.p).take n).length = n := by simp; omega
      rw [h2] at this; exact this
    · exact hp
  · exact hp
theorem num_le {l : List UInt8} {n : Nat} {c : Cu} (h : c.p ≤ l.length) : (numC l n c).2.p ≤ l.length := by
  unfold numC
  split
  · split <;> simp_all
  · exact h
theorem bytes_le {l : List UInt8} {n : Nat} {c : Cu} (h : c.p ≤ l.length) : (bytesC l n c).2.p ≤ l.length := by
  unfold bytesC
  split
  · split <;> simp_all
  · exact h
theorem byt_no {l : List UInt8} {n p : Nat} {bad : Int} (h : (!decide ((okC ⟨p, bad⟩ (decide ((l.length : Int) - p ≥ n)) 10).bad = 0)) = true) (hp : p ≤ l.length) : bytesC l n ⟨p, bad⟩ = ([], ⟨p, (okC ⟨p, bad⟩ (decide ((l.length : Int) - p ≥ n)) 10).bad⟩) := by
  simp only [Bool.not_eq_true', decide_eq_false_iff_not] at h
  unfold bytesC
  by_cases hb : bad = 0
  · by_cases hn : p + n ≤ l.length
    · exact absurd (by rw [okC_yes (.inr (by simp; omega))]; exact hb) h
    · rw [if_pos hb, if_neg (by simpa using hn), okC_no hb (by simp; omega)]
  · rw [if_neg hb, okC_yes (.inl hb)]
theorem byt_yes {l : List UInt8} {n p : Nat} {bad : Int} (h : (!decide ((okC ⟨p, bad⟩ (decide ((l.length : Int) - p ≥ n)) 10).bad = 0)) = false) (hp : p ≤ l.length) : bad = 0 ∧ p + n ≤ l.length ∧ (okC ⟨p, bad⟩ (decide ((l.length : Int) - p ≥ n)) 10).bad = 0 ∧ bytesC l n ⟨p, bad⟩ = ((l.drop p).take n, ⟨p + n, 0⟩) := by
  simp only [Bool.not_eq_false', decide_eq_true_eq] at h
  have hb : bad = 0 := by
    by_cases hb : bad = 0
    · exact hb
    · rw [okC_yes (.inl hb)] at h; exact absurd h hb
  by_cases hn : p + n ≤ l.length
  · exact ⟨hb, hn, h, by unfold bytesC; rw [if_pos hb, if_pos (by simpa using hn)]⟩
  · rw [okC_no hb (by simp; omega)] at h; cases h
end Go.Sym
