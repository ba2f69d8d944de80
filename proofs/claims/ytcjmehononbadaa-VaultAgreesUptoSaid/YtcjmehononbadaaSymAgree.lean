/- Rules of symbolic execution over any program of the model, that the claims of this folder use; part SymAgree. Conditions: those that each rule names. -/
import Derived.Test.YtcjmehononbadaaSymKnow2
namespace Go.Sym
open Go
def pubT : Tm := ⟨3, 0, 0, 0, .empty, .empty, .empty⟩
def sgnT (l : ByteArray) : Tm := ⟨5, 0, 0, 0, .empty, .empty, l⟩
def agrT (a b : Nat) : Tm := ⟨4, a, b, 0, .empty, .empty, .empty⟩
theorem pubT_ok : pubT.ok := tm_ok (by decide) (by decide) (by decide) (by decide)
theorem sgnT_ok {l : ByteArray} (h : l.size ≤ 9223372036854775807) : (sgnT l).ok := tm_ok (by decide) (by decide) (by decide) h
theorem agrT_ok {a b : Nat} (ha : a ≤ 1000000000) (hb : b ≤ 1000000000) : (agrT a b).ok := tm_ok ⟨by decide, by show 0 ≤ (a : Int) ∧ (a : Int) ≤ _; omega, by show 0 ≤ (b : Int) ∧ (b : Int) ≤ _; omega, by decide⟩ (by decide) (by decide) (by decide)
theorem Made.new {ts ts' : List Tm} {t : Tm} {i : Nat} (h : Made ts t i ts') (hn : t ∉ ts) : i = ts.length ∧ ts' = ts ++ [t] := by
  rcases h with ⟨_, h, _⟩ | ⟨_, h1, h2⟩
  · exact absurd (List.mem_of_getElem? h) hn
  · exact ⟨h1, h2⟩
theorem Made.old {ts ts' : List Tm} {t : Tm} {i j : Nat} (u : Uq ts) (h : Made ts t i ts') (hj : ts[j]? = some t) (hk : t.kind ≠ 1) : i = j ∧ ts' = ts := by
  rcases h with ⟨_, h, rfl⟩ | ⟨h, _, _⟩
  · exact ⟨u _ _ _ h hj hk, rfl⟩
  · rcases h with h | h
    · exact absurd h hk
    · exact absurd (List.mem_of_getElem? hj) h
theorem OfT.new {ts ts' : List Tm} {i : Nat} {t : Tm} {h' : List UInt8} {x : Int} (hi : i < ts.length) (hb : ts.length ≤ 1000000000) (k : OfT ts (nm i) t h' x ts') (hn : { t with a := (i : Int) } ∉ ts) : x = 0 ∧ h' = nm ts.length ∧ ts' = ts ++ [{ t with a := (i : Int) }] := by
  rcases k with ⟨i', j, h1, h2, rfl, rfl, hm⟩ | ⟨h1, _⟩
  · obtain rfl : i = i' := nm_inj (by omega) (by omega) h2
    obtain ⟨rfl, e⟩ := hm.new hn
    exact ⟨rfl, rfl, e⟩
  · exact absurd rfl (h1 i hi)
/-- what Verify tells -/
theorem ver_yes {P : Program} {TT TH : Nat} {V : VB} {ts : List Tm} (h : VOk P TT TH V ts) {n s : Nat} {t : Tm} (hn : ts[n]? = some t) (hk : t.kind ≠ 1) : n = s ↔ ts[s]? = some t :=
  ⟨fun e => by rw [← e]; exact hn, fun e => h.uniq hn e hk⟩
end Go.Sym
namespace Go.Sym
open Go
section
variable {P : Program} {ops : Array Oper} {Q : Exit → Act → World → Prop} {rest : List Item} {a : Act} {w w0 : World} {n : Nat} {R : Rg} {S : Nat → Prop} {L K : Blocks}
variable {f : Bool} {d : Nat} {ty : TypeId} {pos : String} {af : Array Edge}
theorem r_minN {x y : Operand} {ts : Array TypeId} {m k : Nat} (hS : St n R a) (hSw : Sf f (Kp w0 S K) w) (hx : ev R x = some (.int .i64 (m : Int))) (hy : ev R y = some (.int .i64 (k : Int))) (hlt : Nat.blt d n = true)
    (j : ∀ a', St n (up R d (.int .i64 ((min m k : Nat) : Int))) a' → Sq P ops Q rest a' w) : Sq P ops Q ((f, ⟨some d, .call ⟨.builtin .min, #[x, y], ts⟩, ty, pos, af, none⟩, Kp w0 S K) :: rest) a w := by
  refine r_pure hS hSw hlt (fun w => ?_) j
  have e : min (m : Int) (k : Int) = ((min m k : Nat) : Int) := by omega
  simp only [execOp, resolve, Sem.run_bind, Sem.run_pure, Result.andThen_ok, invoke, builtin, List.map_toArray, List.map_cons, List.map_nil, hS.val hx, hS.val hy, Builtin.min_, List.foldlM_cons, List.foldlM_nil, Builtin.min2]
  by_cases h : (m : Int) ≤ (k : Int)
  · rw [Nat.min_eq_left (by omega)]; simp [h] <;> omega
  · rw [Nat.min_eq_right (by omega)]; simp [h] <;> omega
theorem r_maxN {x y : Operand} {ts : Array TypeId} {m k : Nat} (hS : St n R a) (hSw : Sf f (Kp w0 S K) w) (hx : ev R x = some (.int .i64 (m : Int))) (hy : ev R y = some (.int .i64 (k : Int))) (hlt : Nat.blt d n = true)
    (j : ∀ a', St n (up R d (.int .i64 ((max m k : Nat) : Int))) a' → Sq P ops Q rest a' w) : Sq P ops Q ((f, ⟨some d, .call ⟨.builtin .max, #[x, y], ts⟩, ty, pos, af, none⟩, Kp w0 S K) :: rest) a w := by
  refine r_pure hS hSw hlt (fun w => ?_) j
  simp only [execOp, resolve, Sem.run_bind, Sem.run_pure, Result.andThen_ok, invoke, builtin, List.map_toArray, List.map_cons, List.map_nil, hS.val hx, hS.val hy, Builtin.max_, List.foldlM_cons, List.foldlM_nil, Builtin.max2]
  by_cases h : (m : Int) ≤ (k : Int)
  · rw [Nat.max_eq_right (by omega)]; simp [h] <;> omega
  · rw [Nat.max_eq_left (by omega)]; simp [h] <;> omega
end
end Go.Sym
namespace Go.Sym
open Go
theorem VOk.fld {P : Program} {TT TH : Nat} {V : VB} {ts : List Tm} (h : VOk P TT TH V ts) {i q : Nat} {t : Tm} {v : Value} (hi : ts[i]? = some t) (hq : t.cells[q]? = some v) : nthV V.l (0 + i * 7 + q) = some v := by
  obtain ⟨h1, h2⟩ := h.row hi
  have hq7 : q < 7 := by have := (List.getElem?_eq_some_iff.1 hq).1; rw [Tm.cells_len] at this; exact this
  rw [nthV_eq, Nat.zero_add]
  rw [← h1] at hq
  simp only [rd, List.getElem?_take, List.getElem?_drop] at hq
  rw [if_pos hq7] at hq
  exact hq
end Go.Sym
namespace Go.Sym
open Go
theorem SlG.two {F : Nat → Prop} {w : World} {c : Nat} {T : TypeId} {fz : Nat × Nat} {l m : List UInt8} (x y : Value) (hb : w.heap[c]? = some (.cells [x, y].toArray T fz)) (hF : ¬ F c) (h1 : BsF F w x l) (h2 : BsF F w y m) : SlG F w (.slice (some ⟨c, 0, none⟩) 2 2) [l, m] :=
  SlG.block (xs := [x, y]) hb hF rfl (Nat.le_refl 2) rfl (Nat.le_refl 2) (fun i u hu => by
    match i, hu with
    | 0, hu => simp at hu; subst hu; exact ⟨l, rfl, h1⟩
    | 1, hu => simp at hu; subst hu; exact ⟨m, rfl, h2⟩)
theorem SlG.one {F : Nat → Prop} {w : World} {c : Nat} {T : TypeId} {fz : Nat × Nat} {l : List UInt8} (x : Value) (hb : w.heap[c]? = some (.cells [x].toArray T fz)) (hF : ¬ F c) (h1 : BsF F w x l) : SlG F w (.slice (some ⟨c, 0, none⟩) 1 1) [l] :=
  SlG.block (xs := [x]) hb hF rfl (Nat.le_refl 1) rfl (Nat.le_refl 1) (fun i u hu => by
    match i, hu with
    | 0, hu => simp at hu; subst hu; exact ⟨l, rfl, h1⟩)
end Go.Sym
