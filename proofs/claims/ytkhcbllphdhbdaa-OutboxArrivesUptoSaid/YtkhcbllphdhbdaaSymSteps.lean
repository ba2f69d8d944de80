/- Rules of symbolic execution over any program of the model, that the claims of this folder use; part SymSteps. Conditions: those that each rule names. -/
import Derived.Test.YtkhcbllphdhbdaaSymAgree
namespace Go.Sym
open Go
/-! ### keys' steps -/
/-- what is derived, on and on, of a secret that nobody knows -/
inductive Dsc (ts : List Tm) (p : Nat) : Nat → Prop
  | base : Dsc ts p p
  | step {j i : Nat} {t : Tm} : ts[j]? = some t → t.kind = 2 → t.a = (i : Int) → Dsc ts p i → Dsc ts p j
theorem Dsc.pre {ts ts' : List Tm} {p j : Nat} (h : Dsc ts p j) (k : Pre ts ts') : Dsc ts' p j := by
  induction h with
  | base => exact .base
  | step h1 h2 h3 _ ih => exact .step (k _ _ h1) h2 h3 ih
theorem Dsc.clos {ts : List Tm} {p : Nat} {tp : Tm} (hp : ts[p]? = some tp) (h1 : tp.kind = 1) (h0 : p ≠ 0) {t0 : Tm} (hr : ts[0]? = some t0) (hk : t0.kind = 0) : Clos ts [] (fun j => ¬ Dsc ts p j) := by
  refine ⟨fun h => ?_, fun l hl => (by cases hl), fun j t ht hrch h => ?_⟩
  · cases h with
    | base => exact h0 rfl
    | step e1 e2 _ _ => rw [hr] at e1; cases e1; omega
  · cases h with
    | base =>
      rw [hp] at ht; cases ht
      rcases hrch with ⟨h, _⟩ | ⟨h, _⟩ <;> omega
    | @step _ i u e1 e2 e3 e4 =>
      rw [ht] at e1; cases e1
      rcases hrch with ⟨_, h⟩ | ⟨h, _⟩
      · have : t.a.toNat = i := by omega
        rw [this] at h; exact h e4
      · omega
/-- the terms of a secret's keys -/
structure MkT (ts : List Tm) (i jk jm : Nat) : Prop where
  key : ts[jk]? = some { drv lk_key (strOf []) with a := (i : Int) }
  mask : ts[jm]? = some { drv lk_mask (strOf []) with a := (i : Int) }
theorem OfT.full {ts ts' : List Tm} {i : Nat} {t : Tm} {h' : List UInt8} {x : Int} (hi : i < ts.length) (hb : ts.length ≤ 1000000000) (u : Uq ts) (w : Wf ts) (hbt : t.b = 0) (hk : t.kind ≠ 6) (k : OfT ts (nm i) t h' x ts') :
    x = 0 ∧ Uq ts' ∧ Wf ts' ∧ ∃ j, h' = nm j ∧ ts'[j]? = some { t with a := (i : Int) } ∧ Pre ts ts' ∧ ts'.length ≤ ts.length + 1 := by
  obtain ⟨h1, h2⟩ := k.at hi hb
  exact ⟨h1, k.uq u, k.wf w hbt hk, h2⟩
theorem makeF_rel {ts ts' : List Tm} {i : Nat} {K : List UInt8} {x : Int} (hi : i < ts.length) (hb : ts.length ≤ 999999950) (u : Uq ts) (w : Wf ts) (e : makeF ts (nm i) = (K, x, ts')) :
    x = 0 ∧ Uq ts' ∧ Wf ts' ∧ ∃ (jk jm : Nat), K = nm i ++ nm jk ++ nm jm ∧ MkT ts' i jk jm ∧ Pre ts ts' ∧ ts'.length ≤ ts.length + 2 := by
  obtain ⟨h1, x1, ts1, k1⟩ := OfT.ex ts (nm i) (drv lk_key (strOf []))
  obtain ⟨rfl, u1, w1, jk, rfl, hjk, p1, l1⟩ := k1.full hi (by omega) u w rfl (show (2 : Int) ≠ 6 by decide)
  obtain ⟨h2, x2, ts2, k2⟩ := OfT.ex ts1 (nm i) (drv lk_mask (strOf []))
  obtain ⟨rfl, u2, w2, jm, rfl, hjm, p2, l2⟩ := k2.full (Nat.lt_of_lt_of_le hi p1.lt) (by omega) u1 w1 rfl (show (2 : Int) ≠ 6 by decide)
  rw [makeF_yes u (by omega) k1 k2] at e
  simp only [Prod.mk.injEq] at e
  obtain ⟨rfl, rfl, rfl⟩ := e
  exact ⟨rfl, u2, w2, jk, jm, rfl, ⟨p2 _ _ hjk, hjm⟩, p1.trans p2, by omega⟩
theorem nextF_rel {ts ts' : List Tm} {i : Nat} {m K : List UInt8} {x : Int} (hi : i < ts.length) (hb : ts.length ≤ 999999900) (u : Uq ts) (w : Wf ts) (e : nextF ts (nm i) m = (K, x, ts')) :
    x = 0 ∧ Uq ts' ∧ Wf ts' ∧ ∃ (p jk jm : Nat), K = nm p ++ nm jk ++ m ∧ ts'[p]? = some { drv lk_next (strOf []) with a := (i : Int) } ∧ MkT ts' p jk jm ∧ Pre ts ts' ∧ ts'.length ≤ ts.length + 3 := by
  obtain ⟨h1, x1, ts1, k1⟩ := OfT.ex ts (nm i) (drv lk_next (strOf []))
  obtain ⟨rfl, u1, w1, p, rfl, hp, p1, l1⟩ := k1.full hi (by omega) u w rfl (show (2 : Int) ≠ 6 by decide)
  obtain ⟨K2, x2, ts2, hK2⟩ : ∃ K2 x2 ts2, makeF ts1 (nm p) = (K2, x2, ts2) := ⟨_, _, _, rfl⟩
  obtain ⟨rfl, u2, w2, jk, jm, rfl, hm, p2, l2⟩ := makeF_rel (at_lt hp) (by omega) u1 w1 hK2
  rw [nextF_yes u (by omega) k1 hK2 rfl rfl] at e
  simp only [Prod.mk.injEq] at e
  obtain ⟨rfl, rfl, rfl⟩ := e
  exact ⟨rfl, u2, w2, p, jk, jm, rfl, p2 _ _ hp, hm, p1.trans p2, by omega⟩
theorem initF_rel {ts ts' : List Tm} {l K : List UInt8} {s : Bool} {x : Int} (h0 : 0 < ts.length) (hl : ¬ 20 < l.length) (hb : ts.length ≤ 999999900) (u : Uq ts) (w : Wf ts) (e : initF ts l s = (K, x, ts')) :
    x = 0 ∧ Uq ts' ∧ Wf ts' ∧ ∃ (f p jk jm : Nat), K = nm p ++ nm jk ++ nm jm ∧ ts'[f]? = some { drv lk_initial (strOf l) with a := ((0 : Nat) : Int) } ∧ ts'[p]? = some { drv (lk_side s) (strOf []) with a := (f : Int) } ∧ MkT ts' p jk jm ∧ Pre ts ts' ∧ ts'.length ≤ ts.length + 4 := by
  obtain ⟨h1, x1, ts1, k1⟩ := OfT.ex ts (nm 0) (drv lk_initial (strOf l))
  obtain ⟨rfl, u1, w1, f, rfl, hf, p1, l1⟩ := k1.full h0 (by omega) u w rfl (show (2 : Int) ≠ 6 by decide)
  obtain ⟨h2, x2, ts2, k2⟩ := OfT.ex ts1 (nm f) (drv (lk_side s) (strOf []))
  obtain ⟨rfl, u2, w2, p, rfl, hp, p2, l2⟩ := k2.full (at_lt hf) (by omega) u1 w1 rfl (show (2 : Int) ≠ 6 by decide)
  rw [initF_yes u (by omega) hl k1 k2] at e
  obtain ⟨rfl, u3, w3, jk, jm, rfl, hm, p3, l3⟩ := makeF_rel (at_lt hp) (by omega) u2 w2 e
  exact ⟨rfl, u3, w3, f, p, jk, jm, rfl, p3 _ _ (p2 _ _ hf), p3 _ _ hp, hm, (p1.trans p2).trans p3, by omega⟩
/-- the keys of many steps: secrets, keys; one mask -/
structure StI (ts : List Tm) (m : List UInt8) (ps cs : List Nat) : Prop where
  len : cs.length = ps.length
  first : ∃ p t, ps[0]? = some p ∧ ts[p]? = some t ∧ t.kind = 1
  next : ∀ (j p q : Nat), ps[j]? = some p → ps[j + 1]? = some q → ts[q]? = some { drv lk_next (strOf []) with a := (p : Int) }
  key : ∀ (j p c : Nat), ps[j]? = some p → cs[j]? = some c → ts[c]? = some { drv lk_key (strOf []) with a := (p : Int) }
theorem StI.inj {ts : List Tm} {m : List UInt8} {ps cs : List Nat} (h : StI ts m ps cs) : ∀ (i j p : Nat), i < j → ps[i]? = some p → ps[j]? = some p → False
  | 0, j + 1, p, _, hi, hj => by
    obtain ⟨p0, t, e1, e2, e3⟩ := h.first
    rw [hi] at e1; cases e1
    obtain ⟨q, hq⟩ : ∃ q, ps[j]? = some q := ⟨_, List.getElem?_eq_getElem (by have := (List.getElem?_eq_some_iff.1 hj).1; omega)⟩
    have := h.next j q p hq hj
    rw [e2] at this; cases this
    revert e3; show ¬ (2 : Int) = 1; decide
  | i + 1, j + 1, p, hij, hi, hj => by
    obtain ⟨q, hq⟩ : ∃ q, ps[j]? = some q := ⟨_, List.getElem?_eq_getElem (by have := (List.getElem?_eq_some_iff.1 hj).1; omega)⟩
    obtain ⟨r, hr⟩ : ∃ r, ps[i]? = some r := ⟨_, List.getElem?_eq_getElem (by have := (List.getElem?_eq_some_iff.1 hi).1; omega)⟩
    have e1 := h.next j q p hq hj
    have e2 := h.next i r p hr hi
    rw [e1] at e2
    have e3 : (q : Int) = r := congrArg Tm.a (Option.some.inj e2)
    have e4 : q = r := by omega
    subst e4
    exact h.inj i j q (by omega) hr hq
theorem StI.dsc {ts : List Tm} {m : List UInt8} {ps cs : List Nat} (h : StI ts m ps cs) {p0 : Nat} (h0 : ps[0]? = some p0) : ∀ (j p : Nat), ps[j]? = some p → Dsc ts p0 p
  | 0, p, hj => by rw [h0] at hj; cases hj; exact .base
  | j + 1, p, hj => by
    obtain ⟨q, hq⟩ : ∃ q, ps[j]? = some q := ⟨_, List.getElem?_eq_getElem (by have := (List.getElem?_eq_some_iff.1 hj).1; omega)⟩
    exact .step (h.next j q p hq hj) rfl rfl (h.dsc h0 j q hq)
theorem StI.pre {ts ts' : List Tm} {m : List UInt8} {ps cs : List Nat} (h : StI ts m ps cs) (k : Pre ts ts') : StI ts' m ps cs :=
  ⟨h.len, by obtain ⟨p, t, e1, e2, e3⟩ := h.first; exact ⟨p, t, e1, k _ _ e2, e3⟩, fun j p q a b => k _ _ (h.next j p q a b), fun j p c a b => k _ _ (h.key j p c a b)⟩
theorem StI.push {ts : List Tm} {m : List UInt8} {ps cs : List Nat} {p q c : Nat} (h : StI ts m ps cs) (hp : ps[ps.length - 1]? = some p) (hq : ts[q]? = some { drv lk_next (strOf []) with a := (p : Int) }) (hc : ts[c]? = some { drv lk_key (strOf []) with a := (q : Int) }) : StI ts m (ps ++ [q]) (cs ++ [c]) := by
  have hlt := (List.getElem?_eq_some_iff.1 hp).1
  refine ⟨by simp [h.len], ?_, fun j a b ha hb => ?_, fun j a b ha hb => ?_⟩
  · obtain ⟨p0, t, e1, e2⟩ := h.first
    exact ⟨p0, t, by rw [List.getElem?_append_left (by omega)]; exact e1, e2⟩
  · have hj : j + 1 < ps.length + 1 := by have := (List.getElem?_eq_some_iff.1 hb).1; simpa using this
    rw [List.getElem?_append_left (by omega)] at ha
    by_cases e : j + 1 < ps.length
    · rw [List.getElem?_append_left e] at hb
      exact h.next j a b ha hb
    · have e2 : j = ps.length - 1 := by omega
      subst e2
      rw [hp] at ha; cases ha
      rw [show ps.length - 1 + 1 = ps.length by omega] at hb
      simp at hb; subst hb; exact hq
  · have hj : j < ps.length + 1 := by have := (List.getElem?_eq_some_iff.1 ha).1; simpa using this
    by_cases e : j < ps.length
    · rw [List.getElem?_append_left e] at ha
      rw [List.getElem?_append_left (by rw [h.len]; exact e)] at hb
      exact h.key j a b ha hb
    · have e2 : j = ps.length := by omega
      subst e2
      simp at ha; subst ha
      rw [← h.len] at hb; simp at hb; subst hb; exact hc
/-! ### rows of keys -/
def kcells (m : List UInt8) (x : Nat × Nat) : List UInt8 := nm x.1 ++ nm x.2 ++ m
theorem kcells_len {m : List UInt8} (hm : m.length = 16) (x : Nat × Nat) : (kcells m x).length = 48 := by simp [kcells, hm, nm_len]
theorem rd_flatM {n : Nat} : ∀ (hs : List (List UInt8)) (i : Nat) (g : List UInt8) (rest : List Value), (∀ h ∈ hs, h.length = n) → hs[i]? = some g → (hs.flatMap hcells ++ rest).drop (i * n) = hcells g ++ (hs.drop (i + 1)).flatMap hcells ++ rest
  | [], i, g, _, _, e => by simp at e
  | h :: r, 0, g, rest, k, e => by
    simp only [List.length_cons, Nat.zero_lt_succ, List.getElem?_eq_getElem, List.getElem_cons_zero, Option.some.injEq] at e
    subst e
    simp
  | h :: r, i + 1, g, rest, k, e => by
    have h1 := k h (by simp)
    have ih := rd_flatM r i g rest (fun x hx => k x (by simp [hx])) (by simpa using e)
    rw [List.flatMap_cons, List.append_assoc, show (i + 1) * n = (hcells h).length + i * n by rw [hcells_len, h1, Nat.succ_mul]; omega, List.drop_length_add_append, ih]
    simp
/-- a part of a row of equal lists of bytes -/
theorem rd_part {n o : Nat} {hs : List (List UInt8)} {l : List Value} {i : Nat} {a b c : List UInt8} (k : ∀ h ∈ hs, h.length = n) (ht : l.take (hs.length * n) = hs.flatMap hcells) (hi : hs[i]? = some (a ++ b ++ c)) (ho : a.length = o) (hb : b.length = 16) : rd l (i * n + o) 16 = hcells b ∧ i * n + o + 16 ≤ l.length := by
  have e : l = hs.flatMap hcells ++ l.drop (hs.length * n) := by rw [← ht, List.take_append_drop]
  have h1 := rd_flatM hs i (a ++ b ++ c) (l.drop (hs.length * n)) k hi
  rw [← e] at h1
  have h2 : l.drop (i * n + o) = hcells b ++ (hcells c ++ ((hs.drop (i + 1)).flatMap hcells ++ l.drop (hs.length * n))) := by
    rw [← List.drop_drop, h1]
    simp only [hcells, List.map_append, List.append_assoc]
    rw [List.drop_left' (by simp [ho])]
  constructor
  · unfold rd
    rw [h2, List.take_left' (by rw [hcells_len, hb])]
  · have h3 := congrArg List.length h2
    simp only [List.length_drop, List.length_append, hcells_len, hb] at h3
    omega
end Go.Sym
namespace Go.Sym
open Go
theorem rd3 {a b c : List UInt8} (ha : a.length = 16) (hb : b.length = 16) (hc : c.length = 16) : rd (hcells (a ++ b ++ c)) 0 16 = hcells a ∧ rd (hcells (a ++ b ++ c)) 16 16 = hcells b ∧ rd (hcells (a ++ b ++ c)) 32 16 = hcells c ∧ (hcells (a ++ b ++ c)).length = 48 := by
  have h1 : hcells (a ++ b ++ c) = hcells a ++ (hcells b ++ hcells c) := by simp [hcells]
  have la : (hcells a).length = 16 := by rw [hcells_len, ha]
  have lb : (hcells b).length = 16 := by rw [hcells_len, hb]
  have lc : (hcells c).length = 16 := by rw [hcells_len, hc]
  rw [h1]
  refine ⟨?_, ?_, ?_, by simp [la, lb, lc]⟩
  · unfold rd; rw [List.drop_zero, List.take_left' la]
  · unfold rd; rw [List.drop_left' la, List.take_left' lb]
  · unfold rd
    rw [show (32 : Nat) = 16 + 16 from rfl, ← List.drop_drop, List.drop_left' la, List.drop_left' lb, List.take_of_length_le (by omega)]
theorem BsF.sub {F : Nat → Prop} {w : World} {c o : Nat} {l : List Value} {b : List UInt8} {T : TypeId} {fz : Nat × Nat} (hb : w.heap[c]? = some (.cells l.toArray T fz)) (hn : ¬ F c) (hr : rd l o 16 = hcells b) (hl : b.length = 16) : BsF F w (.slice (some ⟨c, o, none⟩) 16 16) b := by
  intro w' k
  have hb' := k.heap_some hb hn
  refine ⟨some ⟨c, o, none⟩, 16, ⟨by rw [hl], by simp, by rw [hl]; exact Nat.le_refl _, fun i u hu => ⟨c, o, rfl, ?_⟩, fun h => by cases h⟩⟩
  rw [cell_of_row w' c (o + i) _ T fz hb', List.getElem?_toArray]
  have hu2 : (hcells b)[i]? = some u := hu
  rw [← hr] at hu2
  simp only [rd, List.getElem?_take, List.getElem?_drop] at hu2
  split at hu2
  · exact hu2
  · cases hu2
section
variable {P : Program} {ops : Array Oper} {Q : Exit → Act → World → Prop} {rest : List Item} {a : Act} {w w0 : World} {n : Nat} {R : Rg} {ds : List Deferred} {S : Nat → Prop} {L K : Blocks}
variable {f : Bool} {d : Nat} {ty : TypeId} {pos : String} {af : Array Edge}
/-- a literal of one row of bytes -/
theorem r_bs1h {t e es : Nat} {x : Operand} {zs : List Value} (h : List UInt8) (hl : h.length = es) (hS : StD ds n R a) (hH : Hp w0 S L w) (hs : Sub K L) (hx : ev R x = some (.agg (hcells h).toArray)) (hz : bslB P t 1 = some (e, es, zs)) (hzl : zs.length = es) (hlt : Nat.blt d n = true)
    (k : ∀ a' w' b, w0.heap.size ≤ b → w.heap.size ≤ b → StD ds n (up R d (.slice (some ⟨b, 0, none⟩) 1 1)) a' → Hp w0 S ((b, .cells (hcells h).toArray e (0, 0)) :: L) w' → Sq P ops Q rest a' w') :
    Sq P ops Q ((false, ⟨some d, .buildSlice t 1 [(0, x)].toArray, ty, pos, af, none⟩, Kp w0 S K) :: rest) a w := by
  refine r_buildSlice (parts := [(0, x)]) (vs := [.agg (hcells h).toArray]) hS hH hs (by simp [evs, hx]) hz ?_ hlt k
  have e1 : (hcells h).length = es := by rw [hcells_len, hl]
  simp [bldA, Value.cells, e1, hzl]
  have e2 : (Nat.ble 0 0 && es.ble es) = true := by simp
  rw [e2]
  simp [← hzl]
theorem r_and15 {t yt : TypeId} {x : Operand} {m : Int} (hS : StD ds n R a) (hSw : Sf f (Kp w0 S K) w) (hx : ev R x = some (.int .i64 m)) (hlt : Nat.blt d n = true)
    (k : ∀ a' (e : Int), e ≤ 15 → StD ds n (up R d (.int .i64 e)) a' → Sq P ops Q rest a' w) : Sq P ops Q ((f, ⟨some d, .binOp .and t x (.const (.int .i64 15)) yt, ty, pos, af, none⟩, Kp w0 S K) :: rest) a w := by
  refine r_and hS hSw hx rfl hlt (fun a' h => k a' _ ?_ h)
  have h1 : (BitVec.ofInt 64 m &&& BitVec.ofInt 64 15).toNat ≤ 15 := by
    rw [BitVec.toNat_and]
    exact Nat.le_trans Nat.and_le_right (by decide)
  show IntKind.i64.wrap ((BitVec.ofInt 64 m &&& BitVec.ofInt 64 15).toNat : Int) ≤ 15
  rw [wrap_i64 (by omega)]
  omega
end
end Go.Sym
namespace Go.Sym
open Go
theorem StI.at {ts : List Tm} {m : List UInt8} {ps cs : List Nat} (h : StI ts m ps cs) : ∀ (j p : Nat), ps[j]? = some p → p < ts.length
  | 0, p, hj => by
    obtain ⟨p0, t, e1, e2, _⟩ := h.first
    rw [hj] at e1; cases e1
    exact at_lt e2
  | j + 1, p, hj => by
    obtain ⟨q, hq⟩ : ∃ q, ps[j]? = some q := ⟨_, List.getElem?_eq_getElem (by have := (List.getElem?_eq_some_iff.1 hj).1; omega)⟩
    exact at_lt (h.next j q p hq hj)
theorem rows_push {i p c : Nat} {mm : List UInt8} {ps cs : List Nat} {Ls : List (List UInt8)} (hps : ps.length = i) (hcs : cs.length = i) (hLs : Ls.length = i) (h : ∀ (j p c : Nat), ps[j]? = some p → cs[j]? = some c → Ls[j]? = some (nm p ++ nm c ++ mm)) :
    ∀ (j a b : Nat), (ps ++ [p])[j]? = some a → (cs ++ [c])[j]? = some b → (Ls ++ [nm p ++ nm c ++ mm])[j]? = some (nm a ++ nm b ++ mm) := by
  intro j a b ha hb
  by_cases e : j < i
  · rw [List.getElem?_append_left (by omega)] at ha hb
    rw [List.getElem?_append_left (by omega)]
    exact h j a b ha hb
  · have hj : j < ps.length + 1 := by have := (List.getElem?_eq_some_iff.1 ha).1; simpa using this
    have e2 : j = i := by omega
    subst e2
    rw [List.getElem?_append_right (by omega), hps] at ha
    rw [List.getElem?_append_right (by omega), hcs] at hb
    rw [List.getElem?_append_right (by omega), hLs]
    simp at ha hb ⊢
    rw [ha, hb]
end Go.Sym
