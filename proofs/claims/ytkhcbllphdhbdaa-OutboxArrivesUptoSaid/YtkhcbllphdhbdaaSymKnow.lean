/- Rules of symbolic execution over any program of the model, that the claims of this folder use; part SymKnow. Conditions: those that each rule names. -/
import Derived.Test.YtkhcbllphdhbdaaSymMade
namespace Go.Sym
open Go
/-! ### what is known -/
def HasN (l : List UInt8) (j : Nat) : Prop := ∃ i, i + 16 ≤ l.length ∧ (l.drop i).take 16 = nm j
def bools (K : List Bool) : List Value := K.map Value.bool
theorem bools_len (K : List Bool) : (bools K).length = K.length := by simp [bools]
theorem bools_get {K : List Bool} {j : Nat} {b : Bool} (h : K[j]? = some b) : (bools K)[j]? = some (.bool b) := by simp [bools, h]
theorem bools_rep (n : Nat) : List.replicate n (Value.bool false) = bools (List.replicate n false) := by simp [bools]
theorem spl_bools {K : List Bool} {j : Nat} {b : Bool} (h : j < K.length) : spl (bools K) (0 + j * 1) [.bool b] = bools (K.set j b) := by
  have e : 0 + j * 1 = j := by omega
  rw [e]
  apply List.ext_getElem?
  intro q
  simp only [bools, List.getElem?_map, List.getElem?_set, spl]
  rcases Nat.lt_trichotomy q j with hq | hq | hq
  · rw [List.getElem?_append_left (by simp; omega)]
    simp [List.getElem?_take, hq]
    rw [if_neg (by omega)]
  · subst hq
    rw [List.getElem?_append_right (by simp; exact Nat.min_le_left _ _)]
    simp [Nat.min_eq_left (Nat.le_of_lt h), h]
  · rw [List.getElem?_append_right (by simp; omega)]
    have e2 : q - (List.take j (List.map Value.bool K)).length = (q - j - 1) + 1 := by simp; omega
    rw [e2, List.singleton_append, List.getElem?_cons_succ, List.getElem?_drop]
    rw [if_neg (by omega)]
    simp only [List.length_singleton, List.getElem?_map]
    rw [show j + 1 + (q - j - 1) = q by omega]
def KT (K : List Bool) (j : Nat) : Prop := K[j]? = some true
theorem KT.lt {K : List Bool} {j : Nat} (h : KT K j) : j < K.length := (List.getElem?_eq_some_iff.1 h).1
theorem KT_set {K : List Bool} {j : Nat} (h : j < K.length) (x : Nat) : KT (K.set j true) x ↔ KT K x ∨ x = j := by
  unfold KT
  rw [List.getElem?_set]
  by_cases e : j = x
  · subst e; simp [h]
  · rw [if_neg e]
    constructor
    · exact .inl
    · rintro (k | k)
      · exact k
      · exact absurd k.symm e
theorem KT_rep {n x : Nat} : ¬ KT (List.replicate n false) x := by
  unfold KT
  rw [List.getElem?_replicate]
  split <;> simp
def cnt : List Bool → Nat
  | [] => 0
  | b :: r => (bif b then 1 else 0) + cnt r
theorem cnt_le : ∀ (K : List Bool), cnt K ≤ K.length
  | [] => Nat.le_refl _
  | b :: r => by have := cnt_le r; cases b <;> simp [cnt] <;> omega
theorem cnt_set : ∀ (K : List Bool) (j : Nat), K[j]? = some false → cnt (K.set j true) = cnt K + 1
  | [], j, h => by simp at h
  | b :: r, 0, h => by simp at h; subst h; simp [cnt]; omega
  | b :: r, j + 1, h => by
    have := cnt_set r j (by simpa using h)
    simp [cnt, this]; omega
theorem cnt_set_le (K : List Bool) (j : Nat) : cnt K ≤ cnt (K.set j true) := by
  by_cases h : j < K.length
  · cases e : K[j]? with
    | none => rw [List.getElem?_eq_none_iff] at e; omega
    | some b =>
      cases b with
      | false => rw [cnt_set K j e]; omega
      | true =>
        have : K.set j true = K := by
          apply List.ext_getElem?
          intro x
          rw [List.getElem?_set]
          by_cases ex : j = x
          · subst ex; rw [e]; simp [h]
          · rw [if_neg ex]
        rw [this]; exact Nat.le_refl _
  · rw [List.set_eq_of_length_le (by omega)]; exact Nat.le_refl _
def Rch (C : Nat → Prop) (t : Tm) : Prop := ((t.kind = 2 ∨ t.kind = 3 ∨ t.kind = 5) ∧ C t.a.toNat) ∨ (t.kind = 4 ∧ (C t.a.toNat ∨ C t.b.toNat))
theorem Rch.mono {C D : Nat → Prop} {t : Tm} (h : Rch C t) (k : ∀ j, C j → D j) : Rch D t := by
  rcases h with ⟨h, c⟩ | ⟨h, c | c⟩
  · exact .inl ⟨h, k _ c⟩
  · exact .inr ⟨h, .inl (k _ c)⟩
  · exact .inr ⟨h, .inr (k _ c)⟩
/-- the numbers of terms are closed: root, what is seen, what is made of what is known -/
structure Clos (ts : List Tm) (seen : List (List UInt8)) (C : Nat → Prop) : Prop where
  root : C 0
  seen : ∀ l ∈ seen, ∀ j, j < ts.length → HasN l j → C j
  reach : ∀ j t, ts[j]? = some t → Rch C t → C j
/-- terms of others' numbers, of which none is sealed -/
structure Wf (ts : List Tm) : Prop where
  a : ∀ (j : Nat) (t : Tm), ts[j]? = some t → 0 ≤ t.a ∧ t.a < ts.length
  b : ∀ (j : Nat) (t : Tm), ts[j]? = some t → 0 ≤ t.b ∧ t.b < ts.length
  no : ∀ (j : Nat) (t : Tm), ts[j]? = some t → t.kind ≠ 6
theorem Wf.root : Wf [rootT] := by
  refine ⟨fun j t h => ?_, fun j t h => ?_, fun j t h => ?_⟩ <;>
  · have := List.mem_of_getElem? h
    rw [List.mem_singleton.1 this]; decide
theorem Wf.push {ts : List Tm} {t : Tm} (h : Wf ts) (ha : 0 ≤ t.a ∧ t.a < ts.length) (hb : 0 ≤ t.b ∧ t.b < ts.length) (hk : t.kind ≠ 6) : Wf (ts ++ [t]) := by
  have key : ∀ (j : Nat) (u : Tm), (ts ++ [t])[j]? = some u → ts[j]? = some u ∨ u = t := by
    intro j u hj
    rw [List.getElem?_append] at hj
    split at hj
    · exact .inl hj
    · exact .inr (List.mem_singleton.1 (List.mem_of_getElem? hj))
  refine ⟨fun j u hj => ?_, fun j u hj => ?_, fun j u hj => ?_⟩ <;> rcases key j u hj with k | rfl
  · have := h.a j u k; simp; omega
  · simp; omega
  · have := h.b j u k; simp; omega
  · simp; omega
  · exact h.no j u k
  · exact hk
theorem Made.wf {ts ts' : List Tm} {t : Tm} {i : Nat} (h : Wf ts) (ha : 0 ≤ t.a ∧ t.a < ts.length) (hb : 0 ≤ t.b ∧ t.b < ts.length) (hk : t.kind ≠ 6) (m : Made ts t i ts') : Wf ts' := by
  rcases m with ⟨_, _, rfl⟩ | ⟨_, _, rfl⟩
  · exact h
  · exact h.push ha hb hk
theorem OfT.wf {ts ts' : List Tm} {h h' : List UInt8} {t : Tm} {x : Int} (w : Wf ts) (hb : t.b = 0) (hk : t.kind ≠ 6) (k : OfT ts h t h' x ts') : Wf ts' := by
  rcases k with ⟨i, j, hi, _, _, _, m⟩ | ⟨_, _, _, rfl⟩
  · exact Made.wf (t := { t with a := (i : Int) }) w ⟨Int.natCast_nonneg i, Int.ofNat_lt.2 hi⟩ ⟨by show 0 ≤ t.b; omega, by show t.b < _; omega⟩ hk m
  · exact w
/-- what somebody knows who sees bytes -/
structure Knows (ts : List Tm) (seen : List (List UInt8)) (K : List Bool) : Prop where
  len : K.length = ts.length
  clos : Clos ts seen (KT K)
  least : ∀ C, Clos ts seen C → ∀ j, KT K j → C j
end Go.Sym
namespace Go.Sym
open Go
section
variable {w w' w0 : World} {S F F' : Nat → Prop} {L L' : Blocks}
/-- a list of lists of bytes, that stays whatever is done to F -/
def SlG (F : Nat → Prop) (w : World) (v : Value) (ls : List (List UInt8)) : Prop := ∃ (vs : List Value) (p : Option Addr) (cap : Nat), (∀ w', Mod F w w' → Sl 1 w' v vs ls.length p cap) ∧ ∀ (i : Nat) (x : Value), vs[i]? = some x → ∃ l, ls[i]? = some l ∧ BsF F w x l
theorem SlG.go {v : Value} {ls : List (List UInt8)} (h : SlG F w v ls) (k : Mod F w w') (hF : ∀ x, F' x → F x ∨ w.heap.size ≤ x) : SlG F' w' v ls := by
  obtain ⟨vs, p, cap, h1, h2⟩ := h
  exact ⟨vs, p, cap, fun _ k' => h1 _ (k.go k' hF), fun i x hx => by
    obtain ⟨l, e, hb⟩ := h2 i x hx
    exact ⟨l, e, hb.go k hF⟩⟩
theorem SlG.nil (F : Nat → Prop) (w : World) : SlG F w (.slice none 0 0) [] := ⟨[], none, 0, fun _ _ => ⟨rfl, by simp, Nat.le_refl _, fun i u h => by simp at h, fun _ => rfl⟩, fun i x h => by simp at h⟩
theorem SlG.block {c m cap : Nat} {xs cs : List Value} {T : TypeId} {fz : Nat × Nat} {ls : List (List UInt8)} (hb : w.heap[c]? = some (.cells cs.toArray T fz)) (hF : ¬ F c) (hm : ls.length = m) (hc : m ≤ cap) (hx : cs.take m = xs) (hl : m ≤ cs.length) (h : ∀ (i : Nat) (x : Value), xs[i]? = some x → ∃ l, ls[i]? = some l ∧ BsF F w x l) : SlG F w (.slice (some ⟨c, 0, none⟩) m cap) ls := by
  subst hm
  refine ⟨xs, some ⟨c, 0, none⟩, cap, fun w' k => ?_, h⟩
  have := Sl.of_block (es := 1) (m := ls.length) (cap := cap) (k.heap_some hb hF) (by omega) hc
  rw [Nat.mul_one, hx] at this
  exact this
theorem VIn.ne4 {P : Program} {TV TT TH b c : Nat} {V : VB} {ts : List Tm} {l : Array Value} {T : TypeId} {fz : Nat × Nat} (h : VIn P TV TT TH w b V ts) (hb : w.heap[c]? = some (.cells l T fz)) (h1 : T ≠ TV) (h2 : T ≠ TT) : ∀ p ∈ ([(b, .cells (V.top ts.length).toArray TV (0, 0)), (V.sb, .cells V.l.toArray TT (0, 0)), (V.fb, .map V.es V.c), (V.nb, .map V.es' V.c')] : Blocks), p.1 ≠ c := by
  intro p hp e
  refine h.notF hb h1 h2 ?_
  simp only [List.mem_cons, List.not_mem_nil, or_false] at hp
  rcases hp with rfl | rfl | rfl | rfl
  · exact .inl e.symm
  · exact .inr (.inl e.symm)
  · exact .inr (.inr (.inl e.symm))
  · exact .inr (.inr (.inr e.symm))
theorem Hp.wrote {c : Nat} {o o' : Obj} (h : Hp w0 S L w) (hM : Mod (fun x => x = c) w w') (hc : w'.heap[c]? = some o') (p : Put c o o' L L') (hw : S c ∨ w0.heap.size ≤ c) : Hp w0 S L' w' := by
  refine ⟨fun q hq => ?_, by rw [p.keys]; exact h.nd, h.mod.trans hM (fun x hx e => by subst e; rcases hw with k | k; exact k; omega)⟩
  rcases p.mem h.nd q hq with rfl | ⟨h1, h2⟩
  · exact hc
  · exact hM.heap_some (h.blk q h1) h2
theorem Sl.addr {es m cap : Nat} {v : Value} {vs : List Value} {p : Option Addr} (h : Sl es w v vs m p cap) (hm : 0 < m * es) : ∃ b o, p = some ⟨b, o, none⟩ := by
  obtain ⟨u, hu⟩ : ∃ u, vs[0]? = some u := ⟨_, List.getElem?_eq_getElem (by rw [h.len]; omega)⟩
  obtain ⟨b, o, e, _⟩ := h.cells 0 u hu
  exact ⟨b, o, e⟩
theorem BsF.cells16 {ba bo n qc : Nat} {l : List UInt8} (hb : BsF F w0 (.slice (some ⟨ba, bo, none⟩) n qc) l) (i : Nat) (w : World) (k : Mod F w0 w) : ∀ (q : Nat) (u : Value), (hcells ((l.drop i).take 16))[q]? = some u → w.cell? ⟨ba, bo + i * 1 + q, none⟩ = some u := by
  intro q u hu
  obtain ⟨p, cap, hs⟩ := hb w k
  have hv := hs.val
  simp only [Value.slice.injEq] at hv
  have hq : q < 16 := by
    have := (List.getElem?_eq_some_iff.1 hu).1
    rw [hcells_len, List.length_take] at this
    omega
  obtain ⟨b, o, e, hc⟩ := hs.cells (i + q) u (by
    rw [hcells, List.getElem?_map, List.getElem?_take, if_pos hq, List.getElem?_drop] at hu
    rw [List.getElem?_map]; exact hu)
  rw [← hv.1] at e
  simp only [Option.some.injEq, Addr.mk.injEq, and_true] at e
  obtain ⟨rfl, rfl⟩ := e
  rw [Nat.mul_one, Nat.add_assoc]; exact hc
end
theorem marks {A : Prop} {n x i : Nat} {l g : List UInt8} (hi : i + 16 ≤ l.length) (hg : g = (l.drop i).take 16) : ((A ∨ (x < n ∧ ∃ z, z < i ∧ z + 16 ≤ l.length ∧ (l.drop z).take 16 = nm x)) ∨ (x < n ∧ g = nm x)) ↔ A ∨ (x < n ∧ ∃ z, z < i + 1 ∧ z + 16 ≤ l.length ∧ (l.drop z).take 16 = nm x) := by
  constructor
  · rintro ((h | ⟨h, z, h1, h2⟩) | ⟨h, e⟩)
    · exact .inl h
    · exact .inr ⟨h, z, by omega, h2⟩
    · exact .inr ⟨h, i, by omega, hi, by rw [← hg]; exact e⟩
  · rintro (h | ⟨h, z, h1, h2, h3⟩)
    · exact .inl (.inl h)
    · by_cases e : z = i
      · subst e; exact .inr ⟨h, by rw [hg]; exact h3⟩
      · exact .inl (.inr ⟨h, z, by omega, h2, h3⟩)
theorem marks_end {A : Prop} {n x i : Nat} {l : List UInt8} (hi : ¬ i + 16 ≤ l.length) : (A ∨ (x < n ∧ ∃ z, z < i ∧ z + 16 ≤ l.length ∧ (l.drop z).take 16 = nm x)) ↔ A ∨ (x < n ∧ HasN l x) := by
  constructor
  · rintro (h | ⟨h, z, _, h2⟩)
    · exact .inl h
    · exact .inr ⟨h, z, h2⟩
  · rintro (h | ⟨h, z, h2⟩)
    · exact .inl h
    · exact .inr ⟨h, z, by omega, h2⟩
theorem reach_iff {K : List Bool} {t : Tm} {ia ib : Nat} {ka kb : Bool} (ha : t.a = ia) (hb : t.b = ib) (hka : K[ia]? = some ka) (hkb : K[ib]? = some kb) : Rch (KT K) t ↔ ((t.kind = 2 ∨ t.kind = 3 ∨ t.kind = 5) ∧ ka = true) ∨ (t.kind = 4 ∧ (ka = true ∨ kb = true)) := by
  have e1 : t.a.toNat = ia := by omega
  have e2 : t.b.toNat = ib := by omega
  unfold Rch KT
  rw [e1, e2, hka, hkb]
  simp
theorem rdT7 : ∀ (ts : List Tm) (i : Nat) (t : Tm) (rest : List Value), ts[i]? = some t → rd (ts.flatMap Tm.cells ++ rest) (i * 7) 7 = t.cells
  | [], i, t, _, e => by simp at e
  | u :: r, 0, t, rest, e => by
    simp only [List.length_cons, Nat.zero_lt_succ, List.getElem?_eq_getElem, List.getElem_cons_zero, Option.some.injEq] at e
    subst e
    simp only [rd, Nat.zero_mul, List.drop_zero, List.flatMap_cons, List.append_assoc]
    exact List.take_left' rfl
  | u :: r, i + 1, t, rest, e => by
    have ih := rdT7 r i t rest (by simpa using e)
    rw [← ih]
    simp only [rd, List.flatMap_cons, List.append_assoc]
    rw [show (i + 1) * 7 = u.cells.length + i * 7 by rw [Tm.cells_len]; omega, List.drop_length_add_append]
theorem VOk.row {P : Program} {TT TH : Nat} {V : VB} {ts : List Tm} (h : VOk P TT TH V ts) {i : Nat} {t : Tm} (hi : ts[i]? = some t) : rd V.l (i * 7) 7 = t.cells ∧ i * 7 + 7 ≤ V.l.length := by
  have hlt := (List.getElem?_eq_some_iff.1 hi).1
  have e : V.l = ts.flatMap Tm.cells ++ V.l.drop (ts.length * 7) := by rw [← h.take, List.take_append_drop]
  exact ⟨by rw [e]; exact rdT7 ts i t _ hi, by have := h.len; have := h.cap; omega⟩
/-- a pass over all terms -/
structure PassI (ts : List Tm) (K0 K1 : List Bool) (mr : Bool) (i : Nat) : Prop where
  len : K1.length = ts.length
  up : ∀ j, KT K0 j → KT K1 j
  sound : ∀ C : Nat → Prop, (∀ j, KT K0 j → C j) → (∀ j t, ts[j]? = some t → Rch C t → C j) → ∀ j, KT K1 j → C j
  no : mr = false → K1 = K0 ∧ ∀ j, j < i → ∀ t, ts[j]? = some t → Rch (KT K0) t → KT K0 j
  yes : mr = true → cnt K0 < cnt K1
  le : cnt K0 ≤ cnt K1
theorem PassI.start {ts : List Tm} {K0 : List Bool} (h : K0.length = ts.length) : PassI ts K0 K0 false 0 := ⟨h, fun _ h => h, fun _ h _ => h, fun _ => ⟨rfl, fun j h => absurd h (Nat.not_lt_zero j)⟩, fun h => (by cases h), Nat.le_refl _⟩
theorem PassI.same {ts : List Tm} {K0 K1 : List Bool} {mr : Bool} {i : Nat} (h : PassI ts K0 K1 mr i) (hx : KT K1 i ∨ ∀ t, ts[i]? = some t → ¬ Rch (KT K1) t) : PassI ts K0 K1 mr (i + 1) := by
  refine ⟨h.len, h.up, h.sound, fun e => ?_, h.yes, h.le⟩
  obtain ⟨rfl, hn⟩ := h.no e
  refine ⟨rfl, fun j hj t ht hr => ?_⟩
  by_cases e2 : j = i
  · subst e2
    rcases hx with hx | hx
    · exact hx
    · exact absurd hr (hx t ht)
  · exact hn j (by omega) t ht hr
theorem PassI.set {ts : List Tm} {K0 K1 : List Bool} {mr : Bool} {i : Nat} (h : PassI ts K0 K1 mr i) (hi : K1[i]? = some false) {t : Tm} (ht : ts[i]? = some t) (hr : Rch (KT K1) t) : PassI ts K0 (K1.set i true) true (i + 1) := by
  have hlt : i < K1.length := (List.getElem?_eq_some_iff.1 hi).1
  refine ⟨by rw [List.length_set]; exact h.len, fun j hj => (KT_set hlt j).2 (.inl (h.up j hj)), fun C hC hR j hj => ?_, fun e => (by cases e), fun _ => ?_, Nat.le_trans h.le (cnt_set_le _ _)⟩
  · rcases (KT_set hlt j).1 hj with k | rfl
    · exact h.sound C hC hR j k
    · exact hR _ t ht (hr.mono (h.sound C hC hR))
  · rw [cnt_set K1 i hi]; have := h.le; omega
/-- a step of what is known: K before, K' behind; ls: what is read in it -/
structure StepR (ts : List Tm) (ls : List (List UInt8)) (K : List Bool) (more : Bool) (K' : List Bool) : Prop where
  len : K'.length = ts.length
  up : ∀ j, KT K j → KT K' j
  seen : ∀ l ∈ ls, ∀ j, j < ts.length → HasN l j → KT K' j
  sound : ∀ C : Nat → Prop, (∀ j, KT K j → C j) → (∀ l ∈ ls, ∀ j, j < ts.length → HasN l j → C j) → (∀ j t, ts[j]? = some t → Rch C t → C j) → ∀ j, KT K' j → C j
  no : more = false → ∀ j t, ts[j]? = some t → Rch (KT K') t → KT K' j
  yes : more = true → cnt K < cnt K'
theorem StepR.of {ts : List Tm} {ls : List (List UInt8)} {K K0 K' : List Bool} {mr : Bool} (hle : cnt K ≤ cnt K0) (hR : ∀ j, KT K0 j ↔ KT K j ∨ (j < ts.length ∧ ∃ l ∈ ls, HasN l j)) (h : PassI ts K0 K' mr ts.length) : StepR ts ls K mr K' := by
  refine ⟨h.len, fun j hj => h.up j ((hR j).2 (.inl hj)), fun l hl j hj hn => h.up j ((hR j).2 (.inr ⟨hj, l, hl, hn⟩)), fun C h1 h2 h3 => h.sound C (fun j hj => ?_) h3, fun e j t ht hr => ?_, fun e => by have := h.yes e; omega⟩
  · rcases (hR j).1 hj with k | ⟨hj, l, hl, hn⟩
    · exact h1 j k
    · exact h2 l hl j hj hn
  · obtain ⟨rfl, hn⟩ := h.no e
    exact hn j (List.getElem?_eq_some_iff.1 ht).1 t ht hr
/-- what holds between the steps; ls: what is yet to be read -/
structure KnowI (ts : List Tm) (seen ls : List (List UInt8)) (K : List Bool) : Prop where
  len : K.length = ts.length
  root : KT K 0
  sound : ∀ C, Clos ts seen C → ∀ j, KT K j → C j
  todo : ls = seen ∨ (ls = [] ∧ ∀ l ∈ seen, ∀ j, j < ts.length → HasN l j → KT K j)
theorem KnowI.start {ts : List Tm} {seen : List (List UInt8)} (h : 0 < ts.length) : KnowI ts seen seen ((List.replicate ts.length false).set 0 true) := by
  have h0 : 0 < (List.replicate ts.length false).length := by simpa using h
  refine ⟨by simp, (KT_set h0 0).2 (.inr rfl), fun C hC j hj => ?_, .inl rfl⟩
  rcases (KT_set h0 j).1 hj with k | rfl
  · exact absurd k KT_rep
  · exact hC.root
theorem KnowI.next {ts : List Tm} {seen ls : List (List UInt8)} {K K' : List Bool} {mr : Bool} (h : KnowI ts seen ls K) (k : StepR ts ls K mr K') : KnowI ts seen [] K' := by
  refine ⟨k.len, k.up 0 h.root, fun C hC j hj => ?_, .inr ⟨rfl, fun l hl j hj hn => ?_⟩⟩
  · refine k.sound C (h.sound C hC) (fun l hl => ?_) hC.reach j hj
    rcases h.todo with e | ⟨e, _⟩
    · rw [e] at hl; exact hC.seen l hl
    · rw [e] at hl; cases hl
  · rcases h.todo with e | ⟨_, e⟩
    · exact k.seen l (by rw [e]; exact hl) j hj hn
    · exact k.up j (e l hl j hj hn)
theorem KnowI.done {ts : List Tm} {seen ls : List (List UInt8)} {K K' : List Bool} (h : KnowI ts seen ls K) (k : StepR ts ls K false K') : Knows ts seen K' := by
  have h2 := h.next k
  refine ⟨h2.len, ⟨h2.root, fun l hl j hj hn => ?_, k.no rfl⟩, h2.sound⟩
  rcases h2.todo with e | ⟨_, e⟩
  · rcases h.todo with e' | ⟨_, e'⟩
    · exact k.seen l (by rw [e']; exact hl) j hj hn
    · exact k.up j (e' l hl j hj hn)
  · exact e l hl j hj hn
theorem two_get (e0 e1 : Int) (j : Nat) (h : j < 2) : ∃ e, ([Value.int .u64 e0, .int .u64 e1] : List Value)[j]? = some (.int .u64 e) := by
  match j, h with
  | 0, _ => exact ⟨e0, rfl⟩
  | 1, _ => exact ⟨e1, rfl⟩
theorem two_set (e0 e1 e : Int) (j : Nat) (h : j < 2) : ∃ x0 x1, spl ([Value.int .u64 e0, .int .u64 e1] : List Value) (0 + j * 1) [.int .u64 e] = [.int .u64 x0, .int .u64 x1] := by
  match j, h with
  | 0, _ => exact ⟨e, e1, rfl⟩
  | 1, _ => exact ⟨e0, e, rfl⟩
section
variable {P : Program} {ops : Array Oper} {Q : Exit → Act → World → Prop} {rest : List Item} {a : Act} {w w0 : World} {n : Nat} {R : Rg} {ds : List Deferred} {S : Nat → Prop} {L K : Blocks}
variable {f : Bool} {d : Nat} {ty : TypeId} {pos : String} {af : Array Edge}
theorem r_slNil {t yt : TypeId} {x : Operand} {p : Option Addr} {m cap : Nat} (hS : StD ds n R a) (hSw : Sf f (Kp w0 S K) w) (hx : ev R x = some (.slice p m cap)) (ht : isSlice P t = true) (hlt : Nat.blt d n = true)
    (k : ∀ a', StD ds n (up R d (.bool p.isNone)) a' → Sq P ops Q rest a' w) : Sq P ops Q ((f, ⟨some d, .binOp .eql t x (.const (.slice none 0 0)) yt, ty, pos, af, none⟩, Kp w0 S K) :: rest) a w := by
  unfold isSlice at ht
  split at ht
  · rename_i e hu
    exact r_cmp hS hSw hx (vy := .slice none 0 0) rfl hlt (fun w => by simp [eqGuard]) (fun w => run_eql_of (by cases p <;> rfl) (fun dd w => eqIn_slice dd hu p m cap w) w) k
  · cases ht
/-- a byte of an array's value -/
theorem r_indexB {t e m : Nat} {x y : Operand} {h : List UInt8} {i : Nat} {ii : Int} {u : UInt8} (hS : StD ds n R a) (hSw : Sf f (Kp w0 S K) w) (hx : ev R x = some (.agg (hcells h).toArray)) (hy : ev R y = some (.int .i64 ii)) (hu : P.underlying t = some (.array m e)) (hc : scB P e = true) (h1 : (P.info? e).map (·.size) = some 1) (hi : ii = i) (him : i < m) (hg : h[i]? = some u) (hlt : Nat.blt d n = true)
    (k : ∀ a', StD ds n (up R d (byteV u)) a' → Sq P ops Q rest a' w) : Sq P ops Q ((f, ⟨some d, .index t x y, ty, pos, af, none⟩, Kp w0 S K) :: rest) a w := by
  subst hi
  refine r_pure hS hSw hlt (fun w => ?_) k
  obtain ⟨inf, hinf, hsz⟩ := Option.map_eq_some_iff.1 h1
  have hcell : (hcells h)[i]? = some (byteV u) := by rw [hcells, List.getElem?_map, hg]; rfl
  have e1 : (0 : Int) ≤ (i : Int) ∧ (i : Int) < (m : Int) := ⟨Int.natCast_nonneg i, Int.ofNat_lt.2 him⟩
  simp [execOp, hS.val hx, hS.val hy, Instr.index, asIntOf, run_underlying hu, e1, sizeOf, typeInfo, hinf, hsz, part, run_isAgg_sc hc, hcell]
  intro hh
  omega
end
end Go.Sym
