/- Rules of symbolic execution over any program of the model, that the claims of this folder use; part SymLaws. Conditions: those that each rule names. -/
import Derived.Test.YtkhcbllphdhbdaaSymBytes
namespace Go.Sym
open Go

section
variable {P : Program} {ops : Array Oper} {Q : Exit → Act → World → Prop} {rest : List Item} {a : Act} {w w0 : World} {n : Nat} {R : Rg} {ds : List Deferred} {S : Nat → Prop} {L K : Blocks}
variable {f : Bool} {d : Nat} {ty : TypeId} {pos : String} {af : Array Edge}
theorem eqIn_bool (dd : Nat) {t : TypeId} (u v : Bool) (w : World) (hu : P.underlying t = some .bool) : (Op.equalIn (dd + 1) t (.bool u) (.bool v)).run P w = .ok (u == v) w := by
  simp [Op.equalIn, run_underlying hu]
def isBool (P : Program) (t : TypeId) : Bool := match P.underlying t with
  | some .bool => true
  | _ => false
theorem r_boolNeq {t yt : TypeId} {x y : Operand} {u v : Bool} (hS : StD ds n R a) (hSw : Sf f (Kp w0 S K) w) (hx : ev R x = some (.bool u)) (hy : ev R y = some (.bool v)) (ht : isBool P t = true) (hlt : Nat.blt d n = true)
    (k : ∀ a', StD ds n (up R d (.bool (!(u == v)))) a' → Sq P ops Q rest a' w) : Sq P ops Q ((f, ⟨some d, .binOp .neq t x y yt, ty, pos, af, none⟩, Kp w0 S K) :: rest) a w := by
  unfold isBool at ht
  split at ht
  · rename_i hu
    exact r_cmp hS hSw hx hy hlt (fun w => by simp [eqGuard]) (fun w => run_neq_of (by rfl) (fun dd w => eqIn_bool dd u v w hu) w) k
  · cases ht
theorem r_boolEql {t yt : TypeId} {x y : Operand} {u v : Bool} (hS : StD ds n R a) (hSw : Sf f (Kp w0 S K) w) (hx : ev R x = some (.bool u)) (hy : ev R y = some (.bool v)) (ht : isBool P t = true) (hlt : Nat.blt d n = true)
    (k : ∀ a', StD ds n (up R d (.bool (u == v))) a' → Sq P ops Q rest a' w) : Sq P ops Q ((f, ⟨some d, .binOp .eql t x y yt, ty, pos, af, none⟩, Kp w0 S K) :: rest) a w := by
  unfold isBool at ht
  split at ht
  · rename_i hu
    exact r_cmp hS hSw hx hy hlt (fun w => by simp [eqGuard]) (fun w => run_eql_of (by rfl) (fun dd w => eqIn_bool dd u v w hu) w) k
  · cases ht
/-- some cells of a block, as one value -/
theorem r_load_at {t o b m : Nat} {x : Operand} {l vs : List Value} {T : TypeId} {fz : Nat × Nat} (hS : StD ds n R a) (hH : Hp w0 S L w) (hs : Sub K L) (hx : ev R x = some (.pointer (some ⟨b, o, none⟩))) (hi : In b (.cells l.toArray T fz) L) (ht : agB P t = some m) (hv : o + m ≤ l.length) (he : rd l o m = vs) (hlt : Nat.blt d n = true)
    (k : ∀ a', StD ds n (up R d (.agg vs.toArray)) a' → Sq P ops Q rest a' w) : Sq P ops Q ((false, ⟨some d, .load t x, ty, pos, af, none⟩, Kp w0 S K) :: rest) a w :=
  r_load_ag hS hH hs hx hi ht hv hlt (by rw [he]; exact k)
theorem r_load_atS {t o b m : Nat} {x : Operand} {l vs : List Value} {T : TypeId} {fz : Nat × Nat} (hS : StD ds n R a) (hx : ev R x = some (.pointer (some ⟨b, o, none⟩))) (hi : In b (.cells l.toArray T fz) K) (ht : agB P t = some m) (hv : o + m ≤ l.length) (he : rd l o m = vs) (hlt : Nat.blt d n = true)
    (k : ∀ a', StD ds n (up R d (.agg vs.toArray)) a' → Sq P ops Q rest a' w) : Sq P ops Q ((true, ⟨some d, .load t x, ty, pos, af, none⟩, Kp w0 S K) :: rest) a w :=
  r_load_agS hS hx hi ht hv hlt (by rw [he]; exact k)
end
theorem dropI_sub : ∀ (L : Blocks) (k : Nat) (ds : List Nat), (dropI L k ds).Sublist L
  | [], _, _ => List.Sublist.slnil
  | x :: r, k, ds => by
    simp only [dropI]
    cases hb : ds.any (Nat.beq k) with
    | true => exact (dropI_sub r _ ds).cons x
    | false => exact (dropI_sub r _ ds).cons_cons x
theorem Hp.drop {w0 w : World} {S : Nat → Prop} {L : Blocks} (h : Hp w0 S L w) (ds : List Nat) : Hp w0 S (dropI L 0 ds) w :=
  ⟨fun p hp => h.blk p (dropI_mem L 0 ds p hp), h.nd.sublist ((dropI_sub L 0 ds).map _), h.mod⟩
theorem Hp.front {w0 w : World} {S : Nat → Prop} {L L' : Blocks} {b : Nat} {o : Obj} (h : Hp w0 S L w) (d : Del b o L L') : Hp w0 S ((b, o) :: L') w :=
  (h.del d).know (h.blk _ d.old) (d.ne h.nd)

/-! ### handles in a row -/
theorem flat16 : ∀ (hs : List (List UInt8)), (∀ h ∈ hs, h.length = 16) → (hs.flatMap hcells).length = hs.length * 16
  | [], _ => rfl
  | h :: r, k => by
    have h1 := k h (by simp)
    have h2 := flat16 r (fun x hx => k x (by simp [hx]))
    simp only [List.flatMap_cons, List.length_append, hcells_len, h1, h2, List.length_cons]; omega
theorem rd_flat : ∀ (hs : List (List UInt8)) (i : Nat) (g : List UInt8) (rest : List Value), (∀ h ∈ hs, h.length = 16) → hs[i]? = some g → rd (hs.flatMap hcells ++ rest) (i * 16) 16 = hcells g
  | [], i, g, _, _, e => by simp at e
  | h :: r, 0, g, rest, k, e => by
    simp only [List.length_cons, Nat.zero_lt_succ, List.getElem?_eq_getElem, List.getElem_cons_zero, Option.some.injEq] at e
    subst e
    have h1 := k h (by simp)
    simp only [rd, Nat.zero_mul, List.drop_zero, List.flatMap_cons, List.append_assoc]
    rw [List.take_left' (by rw [hcells_len, h1])]
  | h :: r, i + 1, g, rest, k, e => by
    have h1 := k h (by simp)
    have ih := rd_flat r i g rest (fun x hx => k x (by simp [hx])) (by simpa using e)
    rw [← ih]
    simp only [rd, List.flatMap_cons, List.append_assoc]
    rw [show (i + 1) * 16 = (hcells h).length + i * 16 by rw [hcells_len, h1]; omega, List.drop_length_add_append]
theorem rd_row {hs : List (List UInt8)} {l : List Value} {i : Nat} {g : List UInt8} (k : ∀ h ∈ hs, h.length = 16) (ht : l.take (hs.length * 16) = hs.flatMap hcells) (hi : hs[i]? = some g) : rd l (i * 16) 16 = hcells g ∧ i * 16 + 16 ≤ l.length := by
  have hlt := (List.getElem?_eq_some_iff.1 hi).1
  have e : l = hs.flatMap hcells ++ l.drop (hs.length * 16) := by rw [← ht, List.take_append_drop]
  have hl : hs.length * 16 ≤ l.length := by
    have := congrArg List.length ht
    rw [flat16 hs k, List.length_take] at this
    omega
  exact ⟨by rw [e]; exact rd_flat hs i g _ k hi, by omega⟩

/-! ### what calls of a vault tell, in plain terms -/
def Pre (ts ts' : List Tm) : Prop := ∀ (i : Nat) (t : Tm), ts[i]? = some t → ts'[i]? = some t
theorem Pre.refl (ts : List Tm) : Pre ts ts := fun _ _ h => h
theorem Pre.trans {a b c : List Tm} (h : Pre a b) (k : Pre b c) : Pre a c := fun i t e => k i t (h i t e)
theorem Pre.push (ts : List Tm) (t : Tm) : Pre ts (ts ++ [t]) := fun i u h => by rw [List.getElem?_append_left (List.getElem?_eq_some_iff.1 h).1]; exact h
theorem Pre.lt {ts ts' : List Tm} (h : Pre ts ts') : ts.length ≤ ts'.length := by
  rcases Nat.eq_zero_or_pos ts.length with e | e
  · omega
  · have h1 : ts[ts.length - 1]? = some (ts[ts.length - 1]) := List.getElem?_eq_getElem (by omega)
    have := (List.getElem?_eq_some_iff.1 (h _ _ h1)).1
    omega
theorem Made.at {ts ts' : List Tm} {t : Tm} {i : Nat} (h : Made ts t i ts') : ts'[i]? = some t ∧ Pre ts ts' := by
  rcases h with ⟨_, h, rfl⟩ | ⟨_, rfl, rfl⟩
  · exact ⟨h, Pre.refl _⟩
  · exact ⟨by simp, Pre.push _ _⟩
theorem OfT.at {ts ts' : List Tm} {i : Nat} {t : Tm} {h' : List UInt8} {x : Int} (hi : i < ts.length) (hb : ts.length ≤ 1000000000) (k : OfT ts (nm i) t h' x ts') : x = 0 ∧ ∃ j, h' = nm j ∧ ts'[j]? = some { t with a := (i : Int) } ∧ Pre ts ts' ∧ ts'.length ≤ ts.length + 1 := by
  rcases k with ⟨i', j, h1, h2, rfl, rfl, hm⟩ | ⟨h1, _⟩
  · obtain rfl : i = i' := nm_inj (by omega) (by omega) h2
    exact ⟨rfl, j, rfl, hm.at.1, hm.at.2, hm.len.2.1⟩
  · exact absurd rfl (h1 i hi)
/-- a term that is not fresh stands at one place -/
theorem VOk.uniq {P : Program} {TT TH : Nat} {V : VB} {ts : List Tm} (h : VOk P TT TH V ts) {i j : Nat} {t : Tm} (hi : ts[i]? = some t) (hj : ts[j]? = some t) (hk : t.kind ≠ 1) : i = j := by
  obtain ⟨g, _, hf⟩ := h.found
  have h1 := hf.none_ t i hi hk
  have h2 := hf.none_ t j hj hk
  rw [h1] at h2
  simp only [Option.some.injEq, Value.int.injEq, true_and] at h2
  omega
theorem at_ne {ts : List Tm} {i j : Nat} {t u : Tm} (hi : ts[i]? = some t) (hj : ts[j]? = some u) (h : t ≠ u) : i ≠ j := by
  rintro rfl
  rw [hi] at hj
  exact h (Option.some.inj hj)
theorem at_lt {ts : List Tm} {i : Nat} {t : Tm} (hi : ts[i]? = some t) : i < ts.length := (List.getElem?_eq_some_iff.1 hi).1
theorem nm_ne {i j : Nat} (hi : i ≤ 1000000000) (hj : j ≤ 1000000000) (h : i ≠ j) : nm i ≠ nm j := fun e => h (nm_inj (by omega) (by omega) e)
theorem strOf_inj {l m : List UInt8} (h : strOf l = strOf m) : l = m := by
  simp only [strOf, ByteArray.mk.injEq] at h
  simpa using h
theorem toList_loop (bs : ByteArray) : ∀ (m i : Nat) (r : List UInt8), m = bs.size - i → ByteArray.toList.loop bs i r = r.reverse ++ bs.data.toList.drop i
  | 0, i, r, h => by
    rw [ByteArray.toList.loop]
    have : ¬ i < bs.size := by omega
    rw [if_neg this, List.drop_of_length_le (by simpa using Nat.not_lt.1 this)]
    simp
  | m + 1, i, r, h => by
    rw [ByteArray.toList.loop]
    have hlt : i < bs.size := by omega
    rw [if_pos hlt, toList_loop bs m (i + 1) _ (by omega)]
    have hlt' : i < bs.data.toList.length := by simpa using hlt
    rw [List.drop_eq_getElem_cons hlt']
    simp only [List.reverse_cons, List.append_assoc, List.singleton_append]
    congr 2
    have : i < bs.data.size := hlt
    simp only [ByteArray.get!, Array.getElem_toList]
    exact getElem!_pos bs.data i this
theorem toList_eq (bs : ByteArray) : bs.toList = bs.data.toList := by
  unfold ByteArray.toList
  rw [toList_loop bs _ 0 [] rfl]; simp
theorem strOf_toList (l : List UInt8) : (strOf l).toList = l := by
  rw [toList_eq]; simp [strOf]
end Go.Sym
namespace Go.Sym
open Go
theorem Src.hnd {P : Program} {w : World} {b : Nat} {h : List UInt8} {T : TypeId} {fz : Nat × Nat} (hb : w.heap[b]? = some (.cells (hcells h).toArray T fz)) (hl : h.length = 16) : Src P 16 w (.slice (some ⟨b, 0, none⟩) 1 1) 1 (hcells h) := by
  have k := Sl.of_block (es := 16) (m := 1) (cap := 1) hb (by simp [hcells_len, hl]) (Nat.le_refl _)
  rw [List.take_of_length_le (by simp [hcells_len, hl])] at k
  exact k.src (hcells_one h)
def trm (ki : Nat) (lb : ByteArray) (g : List UInt8) : Tm := { drv lb (strOf [g].flatten) with a := (ki : Int) }
theorem trm_inj {ki : Nat} {lb lb' : ByteArray} {g g' : List UInt8} (h : trm ki lb g = trm ki lb' g') : lb = lb' ∧ g = g' := by
  simp only [trm, drv, Tm.mk.injEq, true_and] at h
  exact ⟨h.1, by simpa using strOf_inj h.2⟩
/-- the names of many terms, of the same secret -/
structure ApI (ki : Nat) (Ls : List ByteArray) (Ss : List (List UInt8)) (ts : List Tm) (hs : List (List UInt8)) (q : Nat) : Prop where
  len : hs.length = q
  bound : ts.length ≤ 6 + q
  key : ki < ts.length
  all : ∀ r, r < q → ∃ n lb g, hs[r]? = some (nm n) ∧ Ls[r % 5]? = some lb ∧ Ss[r / 5]? = some g ∧ ts[n]? = some (trm ki lb g)
theorem ApI.h16 {ki : Nat} {Ls : List ByteArray} {Ss : List (List UInt8)} {ts : List Tm} {hs : List (List UInt8)} {q : Nat} (h : ApI ki Ls Ss ts hs q) : ∀ g ∈ hs, g.length = 16 := by
  intro g hg
  obtain ⟨r, hr⟩ := List.getElem?_of_mem hg
  obtain ⟨n, _, _, h1, _⟩ := h.all r (by rw [← h.len]; exact (List.getElem?_eq_some_iff.1 hr).1)
  rw [h1] at hr
  cases hr; rfl
theorem ApI.next {ki : Nat} {Ls : List ByteArray} {Ss : List (List UInt8)} {ts ts' : List Tm} {hs : List (List UInt8)} {q : Nat} {lb : ByteArray} {g h' : List UInt8} {x : Int} (h : ApI ki Ls Ss ts hs q) (hL : Ls[q % 5]? = some lb) (hS : Ss[q / 5]? = some g) (nL : Ls.Nodup) (nS : Ss.Nodup) (hq : q ≤ 100)
    (k : OfT ts (nm ki) (drv lb (strOf [g].flatten)) h' x ts') : x = 0 ∧ h'.length = 16 ∧ (∀ (r : Nat) (u : List UInt8), hs[r]? = some u → u ≠ h') ∧ ApI ki Ls Ss ts' (hs ++ [h']) (q + 1) := by
  have hb := h.bound
  obtain ⟨rfl, j, rfl, hj, hp, hl⟩ := k.at h.key (by omega)
  refine ⟨rfl, rfl, fun r u hr e => ?_, ?_⟩
  · subst e
    have hr2 : r < q := by rw [← h.len]; exact (List.getElem?_eq_some_iff.1 hr).1
    obtain ⟨n, lb', g', h1, h2, h3, h4⟩ := h.all r hr2
    rw [h1] at hr
    have hn := at_lt (hp _ _ h4)
    have hj2 := at_lt hj
    have e : n = j := nm_inj (by omega) (by omega) (Option.some.inj hr)
    subst e
    have h5 := hp _ _ h4
    rw [hj] at h5
    obtain ⟨rfl, rfl⟩ := trm_inj (Option.some.inj h5)
    have e1 := (List.getElem?_inj (List.getElem?_eq_some_iff.1 hL).1 nL).1 (hL.trans h2.symm)
    have e2 := (List.getElem?_inj (List.getElem?_eq_some_iff.1 hS).1 nS).1 (hS.trans h3.symm)
    omega
  · refine ⟨by simp [h.len], by omega, Nat.lt_of_lt_of_le h.key hp.lt, fun r hr => ?_⟩
    by_cases hrq : r < q
    · obtain ⟨n, lb', g', h1, h2, h3, h4⟩ := h.all r hrq
      exact ⟨n, lb', g', by rw [List.getElem?_append_left (by rw [h.len]; exact hrq)]; exact h1, h2, h3, hp _ _ h4⟩
    · have : r = q := by omega
      subst this
      exact ⟨j, lb, g, by rw [← h.len]; simp, hL, hS, hj⟩
end Go.Sym
namespace Go.Sym
open Go
theorem hv_of {P : Program} {w : World} {ps : Array TypeId} {vs : Array Value} {r : Reach} {b0 j : Nat} {t : TypeId} {v : Value} (h : ∀ (j : Nat) t v, ps[j]? = some t → vs[j]? = some v → Value.okWide P w r b0 t v) (hp : ps[j]? = some t) (ha : vs[j]? = some v) : Value.okWide P w r b0 t v := h j t v hp ha
end Go.Sym
