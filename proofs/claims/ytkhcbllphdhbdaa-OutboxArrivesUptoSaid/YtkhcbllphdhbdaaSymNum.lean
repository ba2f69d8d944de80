/- Rules of symbolic execution over any program of the model, that the claims of this folder use; part SymNum. Conditions: those that each rule names. -/
import Derived.Test.YtkhcbllphdhbdaaSymHdr5
namespace Go.Sym
open Go
theorem spl1_len {l : List Value} {o : Nat} {v : Value} (h : o < l.length) : (spl l o [v]).length = l.length := by simp [spl]; omega
theorem spl1_eq {l : List Value} {o : Nat} {v : Value} (h : o < l.length) : spl l o [v] = l.set o v := by
  rw [← spl_wr (by simp; omega)]; rfl
theorem spl1_get {l : List Value} {o i : Nat} {v : Value} (h : o < l.length) (hi : i ≠ o) : (spl l o [v])[i]? = l[i]? := by
  rw [spl1_eq h, List.getElem?_set_ne (Ne.symm hi)]
theorem spl1_at {l : List Value} {o : Nat} {v : Value} (h : o < l.length) : (spl l o [v])[o]? = some v := by
  rw [spl1_eq h, List.getElem?_set_self h]
/-! ### numbers, highest first -/
theorem beN_cons (x : UInt8) (t : List UInt8) : beN (x :: t) = x.toNat * 256 ^ t.length + beN t := by
  have key : ∀ (t : List UInt8) (a : Nat), t.foldl (fun v x => v * 256 + x.toNat) a = a * 256 ^ t.length + beN t := by
    intro t
    induction t with
    | nil => intro a; simp [beN]
    | cons y t ih =>
      intro a
      rw [List.foldl_cons, ih]
      have e : beN (y :: t) = (0 * 256 + y.toNat) * 256 ^ t.length + beN t := by
        show t.foldl (fun v x => v * 256 + x.toNat) (0 * 256 + y.toNat) = _
        rw [ih]
      rw [e, List.length_cons, Nat.pow_succ, Nat.add_mul, Nat.zero_mul, Nat.zero_add, Nat.mul_assoc, Nat.mul_comm 256 (256 ^ t.length), Nat.add_assoc]
  show t.foldl (fun v x => v * 256 + x.toNat) (0 * 256 + x.toNat) = _
  rw [key, Nat.zero_mul, Nat.zero_add]
theorem beN_low {x y : UInt8} {t : List UInt8} {n : Nat} (hn : t.length + 1 = n) (hy : y.toNat = x.toNat % 64) : beN (y :: t) = beN (x :: t) % 2 ^ (8 * n - 2) := by
  rw [beN_cons, beN_cons]
  have hb := beN_lt t
  have e : 2 ^ (8 * n - 2) = 64 * 256 ^ t.length := by
    subst hn
    have h1 : (256 : Nat) = 2 ^ 8 := by decide
    have h2 : (64 : Nat) = 2 ^ 6 := by decide
    rw [h1, h2, ← Nat.pow_mul, ← Nat.pow_add]
    congr 1; omega
  rw [e]
  generalize 256 ^ t.length = z at *
  have e1 : x.toNat * z + beN t = (y.toNat * z + beN t) + (64 * z) * (x.toNat / 64) := by
    have h1 : x.toNat = 64 * (x.toNat / 64) + y.toNat := by omega
    conv => lhs; rw [h1]
    rw [Nat.add_mul, Nat.mul_assoc, Nat.mul_comm (x.toNat / 64) z, ← Nat.mul_assoc]
    omega
  rw [e1, Nat.add_mul_mod_self_left, Nat.mod_eq_of_lt]
  have h2 : y.toNat < 64 := by omega
  have h3 : y.toNat * z ≤ 63 * z := Nat.mul_le_mul_right _ (by omega)
  omega
theorem get_part {l2 : List Value} {o k : Nat} {u : List UInt8} {y : UInt8} (hu : (l2.drop o).take u.length = u.map byteV) (hy : u[k]? = some y) : l2[o + k]? = some (byteV y) := by
  have h2 : ((l2.drop o).take u.length)[k]? = some (byteV y) := by rw [hu, List.getElem?_map, hy]; rfl
  rw [List.getElem?_take, if_pos (List.getElem?_eq_some_iff.1 hy).1, List.getElem?_drop] at h2
  exact h2
theorem BB.at {cap k : Nat} {l : List Value} {u : List UInt8} {y : UInt8} (h : BB cap l u) (hy : u[k]? = some y) : l[k]? = some (byteV y) := by
  have := get_part (l2 := l) (o := 0) (by rw [List.drop_zero]; exact h.take) hy
  rwa [Nat.zero_add] at this
/-- a part of a row, as bytes -/
theorem Bs.row {w : World} {xb o cap : Nat} {l2 : List Value} {u : List UInt8} {T : TypeId} {fz : Nat × Nat} (h : w.heap[xb]? = some (.cells l2.toArray T fz)) (hu : (l2.drop o).take u.length = u.map byteV) (hc : u.length ≤ cap) : Bs w (.slice (some ⟨xb, o, none⟩) u.length cap) u :=
  ⟨_, _, ⟨rfl, by simp, hc, fun i z hz => ⟨xb, o, rfl, by
    rw [cell_of_row w xb (o + i) _ _ _ h, List.getElem?_toArray]
    rw [List.getElem?_map] at hz
    obtain ⟨y, hy, rfl⟩ := Option.map_eq_some_iff.1 hz
    exact get_part hu hy⟩, fun h => by cases h⟩⟩
theorem BB.pre {cap : Nat} {k : List Value} {u v : List UInt8} (h : BB cap k (u ++ v)) : (k.drop 0).take u.length = u.map byteV ∧ u.length ≤ cap := by
  have h1 := h.take
  have h2 := h.le
  have h3 := congrArg (List.take u.length) h1
  rw [List.take_take, List.length_append, Nat.min_eq_left (by omega), List.map_append, List.take_left' (by simp)] at h3
  exact ⟨by rw [List.drop_zero]; exact h3, by simp at h2; omega⟩
theorem part_map {l2 X : List Value} {l p : List UInt8} {o : Nat} (ht : l2.take l.length = l.map byteV) (h1 : o + p.length ≤ l.length) (h2 : (l.drop o).take p.length = p) (hs : ∀ j, o ≤ j → X[j]? = l2[j]?) : (X.drop o).take p.length = p.map byteV := by
  have e1 : ((l2.take l.length).drop o).take p.length = p.map byteV := by rw [ht, ← List.map_drop, ← List.map_take, h2]
  rw [← e1]
  apply List.ext_getElem?
  intro i
  rw [List.getElem?_take, List.getElem?_take]
  split
  · rw [List.getElem?_drop, List.getElem?_drop, List.getElem?_take, if_pos (by omega)]
    exact hs _ (by omega)
  · rfl
theorem Bs.mid {w : World} {ba bo m qc o n c : Nat} {l : List UInt8} (hb : Bs w (.slice (some ⟨ba, bo, none⟩) m qc) l) (h1 : o + n ≤ l.length) (hc : n ≤ c) : Bs w (.slice (some ⟨ba, bo + o, none⟩) n c) ((l.drop o).take n) := by
  have hlen : ((l.drop o).take n).length = n := by simp; omega
  refine ⟨some ⟨ba, bo + o, none⟩, c, by rw [hlen], by simp, by rw [hlen]; exact hc, fun i u hu => ⟨ba, bo + o, rfl, ?_⟩, fun h => by cases h⟩
  rw [List.getElem?_map] at hu
  obtain ⟨y, hy, rfl⟩ := Option.map_eq_some_iff.1 hu
  rw [List.getElem?_take] at hy
  split at hy
  · rw [List.getElem?_drop] at hy
    have := hb.f.byte (Mod.refl _ _) hy
    rwa [Nat.add_assoc]
  · cases hy
section
variable {P : Program} {ops : Array Oper} {Q : Exit → Act → World → Prop} {rest : List Item} {a : Act} {w w0 : World} {n : Nat} {R : Rg} {ds : List Deferred} {S : Nat → Prop} {L K : Blocks}
variable {f : Bool} {d : Nat} {ty : TypeId} {pos : String} {af : Array Edge}
theorem tdiv_nat (m e : Nat) : (m : Int).tdiv (e : Int) = ((m / e : Nat) : Int) := by
  rw [Int.tdiv_eq_ediv_of_nonneg (by omega)]; simp
theorem tmod_nat (m e : Nat) : (m : Int).tmod (e : Int) = ((m % e : Nat) : Int) := by
  rw [Int.tmod_eq_emod_of_nonneg (by omega)]; simp
/-- a byte divided -/
theorem r_quoB {t yt : TypeId} {x y : Operand} {q : Int} (m e : Nat) (hS : StD ds n R a) (hSw : Sf f (Kp w0 S K) w) (hx : ev R x = some (.int .u8 (m : Int))) (hy : ev R y = some (.int .u8 q)) (hlt : Nat.blt d n = true) (hq : q = (e : Nat)) (he : 0 < e) (hm : m < 256)
    (k : ∀ a', StD ds n (up R d (.int .u8 ((m / e : Nat) : Int))) a' → Sq P ops Q rest a' w) : Sq P ops Q ((f, ⟨some d, .binOp .quo t x y yt, ty, pos, af, none⟩, Kp w0 S K) :: rest) a w :=
  r_quo hS hSw hx hy hlt (by omega) (by
    rw [hq, tdiv_nat, wrap_u8, Nat.mod_eq_of_lt (Nat.lt_of_le_of_lt (Nat.div_le_self _ _) hm)]; exact k)
theorem r_remB {t yt : TypeId} {x y : Operand} {q : Int} (m e : Nat) (hS : StD ds n R a) (hSw : Sf f (Kp w0 S K) w) (hx : ev R x = some (.int .u8 (m : Int))) (hy : ev R y = some (.int .u8 q)) (hlt : Nat.blt d n = true) (hq : q = (e : Nat)) (he : 0 < e)
    (k : ∀ a', StD ds n (up R d (.int .u8 ((m % e : Nat) : Int))) a' → Sq P ops Q rest a' w) : Sq P ops Q ((f, ⟨some d, .binOp .rem t x y yt, ty, pos, af, none⟩, Kp w0 S K) :: rest) a w :=
  r_rem hS hSw hx hy hlt (by omega) (by rw [hq, tmod_nat]; exact k)
theorem r_remI {t yt : TypeId} {x y : Operand} {q mi : Int} (m e : Nat) (hS : StD ds n R a) (hSw : Sf f (Kp w0 S K) w) (hx : ev R x = some (.int .i64 mi)) (hy : ev R y = some (.int .i64 q)) (hlt : Nat.blt d n = true) (hm : mi = (m : Nat)) (hq : q = (e : Nat)) (he : 0 < e)
    (k : ∀ a', StD ds n (up R d (.int .i64 ((m % e : Nat) : Int))) a' → Sq P ops Q rest a' w) : Sq P ops Q ((f, ⟨some d, .binOp .rem t x y yt, ty, pos, af, none⟩, Kp w0 S K) :: rest) a w :=
  r_rem hS hSw hx hy hlt (by omega) (by rw [hm, hq, tmod_nat]; exact k)
end
end Go.Sym
