/- Rules of symbolic execution over any program of the model, that the claims of this folder use; part SymKnow2. Conditions: those that each rule names. -/
import Derived.Test.YtkhcbllphdhbdaaSymKnow
namespace Go.Sym
open Go
theorem cnt_mono : ∀ {K K' : List Bool}, K'.length = K.length → (∀ j, KT K j → KT K' j) → cnt K ≤ cnt K'
  | [], [], _, _ => Nat.le_refl _
  | b :: r, b' :: r', h, k => by
    have ih := cnt_mono (K := r) (K' := r') (by simpa using h) (fun j hj => by have := k (j + 1) (by unfold KT at *; simpa using hj); unfold KT at *; simpa using this)
    have h0 : b = true → b' = true := fun e => by have := k 0 (by unfold KT; simp [e]); unfold KT at this; simpa using this
    simp only [cnt]
    cases b with
    | false => simp; omega
    | true => rw [h0 rfl]; simp; omega
  | [], _ :: _, h, _ => by simp at h
  | _ :: _, [], h, _ => by simp at h
theorem seen_step {A B C : Prop} {n j i : Nat} {l : List UInt8} {ls : List (List UInt8)} (hl : ls[i]? = some l) (h1 : B ↔ A ∨ (j < n ∧ ∃ x ∈ ls.take i, HasN x j)) (h2 : C ↔ B ∨ (j < n ∧ HasN l j)) : C ↔ A ∨ (j < n ∧ ∃ x ∈ ls.take (i + 1), HasN x j) := by
  have e : ls.take (i + 1) = ls.take i ++ [l] := by rw [List.take_add_one, hl]; rfl
  rw [h2, h1, e]
  constructor
  · rintro ((h | ⟨h, x, hx, hn⟩) | ⟨h, hn⟩)
    · exact .inl h
    · exact .inr ⟨h, x, List.mem_append_left _ hx, hn⟩
    · exact .inr ⟨h, l, by simp, hn⟩
  · rintro (h | ⟨h, x, hx, hn⟩)
    · exact .inl (.inl h)
    · rcases List.mem_append.1 hx with hx | hx
      · exact .inl (.inr ⟨h, x, hx, hn⟩)
      · rw [List.mem_singleton.1 hx] at hn
        exact .inr ⟨h, hn⟩
end Go.Sym
namespace Go.Sym
open Go
theorem Hp.swap2 {w0 w w' : World} {S : Nat → Prop} {L L' : Blocks} {c1 c2 : Nat} {o1 o2 o1' o2' : Obj} (h : Hp w0 S L w) (hne : c1 ≠ c2) (hM : Mod (fun x => x = c2 ∨ x = c1) w w') (h1 : w'.heap[c1]? = some o1') (h2 : w'.heap[c2]? = some o2') (hw1 : S c1 ∨ w0.heap.size ≤ c1) (hw2 : S c2 ∨ w0.heap.size ≤ c2)
    (p : SwL [(c1, o1), (c2, o2)] [(c1, o1'), (c2, o2')] L L') : Hp w0 S L' w' := by
  refine h.swap (F := fun x => x = c2 ∨ x = c1) (F' := fun x => x = c2 ∨ x = c1) (fun x => by simp [or_comm]) (fun y hy => by simpa [or_comm] using hy) (fun x hx => ?_) (fun y hy => .inl hy) hM (fun q hq => ?_) (by simp [hne]) p
  · rcases hx with rfl | rfl
    · exact hw2
    · exact hw1
  · simp only [List.mem_cons, List.not_mem_nil, or_false] at hq
    rcases hq with rfl | rfl
    · exact h1
    · exact h2
/-- sixteen bytes have but one name in them -/
theorem HasN16 {l : List UInt8} {j : Nat} (h : l.length = 16) : HasN l j ↔ l = nm j := by
  constructor
  · rintro ⟨i, hi, e⟩
    obtain rfl : i = 0 := by omega
    rw [List.drop_zero, List.take_of_length_le (by omega)] at e
    exact e
  · intro e
    exact ⟨0, by omega, by rw [List.drop_zero, List.take_of_length_le (by omega)]; exact e⟩
/-- names in bytes that are known, or not -/
def Bare (ts : List Tm) (K : List Bool) (l : List UInt8) (i : Nat) : Prop := ∀ z, z < i → z + 16 ≤ l.length → ∀ j, j < ts.length → (l.drop z).take 16 = nm j → KT K j
theorem Bare.next {ts : List Tm} {K : List Bool} {l : List UInt8} {i : Nat} (h : Bare ts K l i) (k : ∀ j, j < ts.length → (l.drop i).take 16 = nm j → KT K j) : Bare ts K l (i + 1) := by
  intro z hz hz2 j hj e
  by_cases q : z = i
  · subst q; exact k j hj e
  · exact h z (by omega) hz2 j hj e
structure HidR (ts : List Tm) (K : List Bool) (l : List UInt8) (r : Bool) : Prop where
  no : r = false → ∀ j, j < ts.length → HasN l j → KT K j
  yes : r = true → ∃ z, z + 16 ≤ l.length ∧ ∀ j, j < ts.length → (l.drop z).take 16 = nm j → ¬ KT K j
theorem HidR.mk0 {ts : List Tm} {K : List Bool} {l : List UInt8} {i : Nat} (h : Bare ts K l i) (hi : ¬ i + 16 ≤ l.length) : HidR ts K l false :=
  ⟨fun _ j hj ⟨z, hz, e⟩ => h z (by omega) hz j hj e, fun h => by cases h⟩
theorem HidR.mk1 {ts : List Tm} {K : List Bool} {l : List UInt8} {i : Nat} (hi : i + 16 ≤ l.length) (h : ∀ j, j < ts.length → (l.drop i).take 16 = nm j → ¬ KT K j) : HidR ts K l true :=
  ⟨fun h => (by cases h), fun _ => ⟨i, hi, h⟩⟩
end Go.Sym
namespace Go.Sym
open Go
section
variable {P : Program} {ops : Array Oper} {Q : Exit → Act → World → Prop} {rest : List Item} {a : Act} {w w0 : World} {n : Nat} {R : Rg} {ds : List Deferred} {S : World → Prop}
/-- the guard itself wasn't told -/
theorem Sq.guardOff {f : Bool} {d' : Nat} {op : Op} {ty : TypeId} {pos : String} {af : Array Edge} {j d : Nat} {want : Bool} (hS : StD ds n R a) (hj : gslot ops j = some d) (hd : R d = some undef)
    (hSw : Sf f S w) (hlt : Nat.blt d' n = true) (K : ∀ a', StD ds n (up R d' undef) a' → Sq P ops Q rest a' w) : Sq P ops Q ((f, ⟨some d', op, ty, pos, af, some (j, want)⟩, S) :: rest) a w := by
  have hy : yielded ops a.tmps j = none := by
    have h := hS.regs d _ hd
    unfold gslot at hj
    cases hq : a.tmps[d]? with
    | none => simp [yielded, hj, hq]
    | some u =>
      simp [Array.getD_eq_getD_getElem?, hq] at h
      simp [yielded, hj, hq, h, undef]
  have hw : ∀ o : Oper, o.guard = some (j, want) → Region.wanted o (yielded ops a.tmps) = false := fun o ho => by simp [Region.wanted, ho, hy]
  have K' := K _ (hS.put hlt undef)
  cases f with
  | true => exact ⟨undef, .inr ⟨hw _ rfl, rfl⟩, K'⟩
  | false =>
    simp only [Sq]
    rw [if_neg (by simp [hw])]
    exact ⟨hSw, K'⟩
end
section
variable {P : Program} {ops : Array Oper} {Q : Exit → Act → World → Prop} {rest : List Item} {a : Act} {w w0 : World} {n : Nat} {R : Rg} {ds : List Deferred} {S : World → Prop}
variable {f : Bool} {d : Nat} {ty : TypeId} {pos : String} {af : Array Edge}
theorem r_orX {t yt : TypeId} {x y : Operand} {k : IntKind} {m m' : Int} (hS : StD ds n R a) (hSw : Sf f S w) (hx : ev R x = some (.int k m)) (hy : ev R y = some (.int k m')) (hlt : Nat.blt d n = true)
    (K : ∀ a' (e : Int), StD ds n (up R d (.int k e)) a' → Sq P ops Q rest a' w) : Sq P ops Q ((f, ⟨some d, .binOp .or t x y yt, ty, pos, af, none⟩, S) :: rest) a w :=
  r_or hS hSw hx hy hlt (fun a' h => K a' _ h)
end
end Go.Sym
