/- Rules of symbolic execution over any program of the model, that the claims of this folder use; part SymMap. Conditions: those that each rule names. -/
import Derived.Test.YtkhcbllphdhbdaaSymSlice
import Derived.DeepKeys4
namespace Go.Sym
open Go
open Go.WideMaps (KeyLaw)

section
variable {P : Program} {ops : Array Oper} {Q : Exit → Act → World → Prop} {rest : List Item} {a : Act} {w w0 : World} {n : Nat} {R : Rg} {ds : List Deferred} {S : Nat → Prop} {L K : Blocks}
variable {f : Bool} {d : Nat} {ty : TypeId} {pos : String} {af : Array Edge}

/-! ### maps, by any keys that read -/
structure MapOk (P : Program) (k : TypeId) (es : Array MapEntry) (g : Value → Option Value) : Prop where
  keys : ∀ e ∈ es.toList, ∃ l, keyOf P k e.key = some l
  apart : es.toList.Pairwise fun p q => p.key ≠ q.key
  at_ : ∀ x v, g x = some v ↔ ∃ e ∈ es.toList, e.key = x ∧ e.val = v
theorem MapOk.empty {k : TypeId} : MapOk P k #[] (fun _ => none) := ⟨by simp, by simp, by simp⟩
theorem mapOk_congr {k : TypeId} {es : Array MapEntry} {g g' : Value → Option Value} (h : MapOk P k es g) (e : ∀ x, g' x = g x) : MapOk P k es g' := ⟨h.keys, h.apart, fun x v => by rw [e]; exact h.at_ x v⟩
theorem pairwise_eq {es : List MapEntry} (h : es.Pairwise fun p q => p.key ≠ q.key) {p q : MapEntry} (hp : p ∈ es) (hq : q ∈ es) (e : p.key = q.key) : p = q := by
  induction es with
  | nil => cases hp
  | cons x r ih =>
    obtain ⟨h1, h2⟩ := List.pairwise_cons.1 h
    rcases List.mem_cons.1 hp with k1 | k1 <;> rcases List.mem_cons.1 hq with k2 | k2
    · rw [k1, k2]
    · rw [k1] at e; exact absurd e (h1 q k2)
    · rw [k2] at e; exact absurd e.symm (h1 p k1)
    · exact ih h2 k1 k2
theorem MapOk.find {k : TypeId} {es : Array MapEntry} {g : Value → Option Value} (h : MapOk P k es g) (Kl : KeyLaw P k) (w : World) {x : Value} {lx : Lit} (hx : keyOf P k x = some lx) :
    ((Instr.findKey k x es.toList).run P w = .ok none w ∧ g x = none) ∨ ∃ j e, (Instr.findKey k x es.toList).run P w = .ok (some (j, e.val)) w ∧ es.toList[j]? = some e ∧ e.key = x ∧ g x = some e.val := by
  rcases Kl.find w hx es.toList h.keys with ⟨h1, h2⟩ | ⟨j, e, h1, h2, h3⟩
  · refine .inl ⟨h1, ?_⟩
    cases hg : g x with
    | none => rfl
    | some v =>
      obtain ⟨e, he, hk, _⟩ := (h.at_ x v).1 hg
      exact absurd hk (h2 e he)
  · exact .inr ⟨j, e, h1, h2, h3, (h.at_ x e.val).2 ⟨e, List.mem_of_getElem? h2, h3, rfl⟩⟩
/-- what a look-up tells -/
def orZ (o : Option Value) (z : Value) : Value := o.getD z
theorem run_lookup_ok {t k e b clock : Nat} {es : Array MapEntry} {g : Value → Option Value} {z : Value} (ht : P.underlying t = some (.map k e)) (hz : ∀ w, (zeroValue e).run P w = .ok z w) (Kl : KeyLaw P k) (h : MapOk P k es g) (hb : w.heap[b]? = some (.map es clock)) {x : Value} {lx : Lit} (hx : keyOf P k x = some lx) :
    (Instr.lookup t (.map (some b)) x true).run P w = .ok (.tuple #[orZ (g x) z, .bool (g x).isSome]) w := by
  have hgo : (getObj b).run P w = .ok (.map es clock) w := by simp [getObj, Sem.run, hb]
  rcases h.find Kl w hx with ⟨h1, h2⟩ | ⟨j, e', h1, _, _, h4⟩
  · simp [Instr.lookup, run_underlying ht, hgo, Kl.check w _ hx, h1, hz, h2, orZ]
  · simp [Instr.lookup, run_underlying ht, hgo, Kl.check w _ hx, h1, h4, orZ]
def setG (g : Value → Option Value) (x v : Value) (g' : Value → Option Value) : Prop := g' x = some v ∧ ∀ y, y ≠ x → g' y = g y
theorem Turned.obj {b : Nat} {es : Array MapEntry} {clock : Nat} {o : Obj} (hb : w.heap[b]? = some (.map es clock)) : Turned b o w { w with heap := w.heap.setIfInBounds b o } := by
  have hlt := lt_of_block hb
  exact ⟨rfl, rfl, rfl, by simp, by simp [hlt], fun c hc => by simp [Array.getElem?_setIfInBounds_ne (Ne.symm hc)]⟩
theorem run_mapUpdate {t k e b clock : Nat} {es : Array MapEntry} {g g' : Value → Option Value} (ht : P.underlying t = some (.map k e)) (Kl : KeyLaw P k) (h : MapOk P k es g) (hb : w.heap[b]? = some (.map es clock)) {x v : Value} {lx : Lit} (hx : keyOf P k x = some lx) (hg : setG g x v g') :
    ∃ w' es' clock', (Instr.mapUpdate t (.map (some b)) x v).run P w = .ok () w' ∧ Turned b (.map es' clock') w w' ∧ MapOk P k es' g' := by
  have hgo : (getObj b).run P w = .ok (.map es clock) w := by simp [getObj, Sem.run, hb]
  have hso : ∀ o, (setObj b o).run P w = .ok () { w with heap := w.heap.setIfInBounds b o } := fun o => by simp [setObj, Sem.run, hb]
  rcases h.find Kl w hx with ⟨h1, h2⟩ | ⟨j, e', h1, hj, hk, h4⟩
  · refine ⟨_, es.push { key := x, val := v, born := clock }, clock + 1, ?_, Turned.obj hb, ?_, ?_, ?_⟩
    · simp [Instr.mapUpdate, run_underlying ht, hgo, Kl.check w _ hx, h1, hso]
    · intro e he
      simp only [Array.toList_push, List.mem_append, List.mem_singleton] at he
      rcases he with he | rfl
      · exact h.keys e he
      · exact ⟨lx, hx⟩
    · simp only [Array.toList_push]
      refine List.pairwise_append.2 ⟨h.apart, by simp, fun p hp q hq => ?_⟩
      rw [List.mem_singleton.1 hq]
      intro e
      have := (h.at_ x p.val).2 ⟨p, hp, e, rfl⟩
      rw [h2] at this; cases this
    · intro y u
      simp only [Array.toList_push, List.mem_append, List.mem_singleton]
      by_cases hy : y = x
      · subst hy
        rw [hg.1]
        constructor
        · intro e; cases e; exact ⟨_, .inr rfl, rfl, rfl⟩
        · rintro ⟨e, he | rfl, hk, hv⟩
          · have := (h.at_ y e.val).2 ⟨e, he, hk, rfl⟩
            rw [h2] at this; cases this
          · simp at hv; rw [hv]
      · rw [hg.2 y hy, h.at_ y u]
        constructor
        · rintro ⟨e, he, r⟩; exact ⟨e, .inl he, r⟩
        · rintro ⟨e, he | rfl, hk, hv⟩
          · exact ⟨e, he, hk, hv⟩
          · exact absurd hk.symm hy
  · have hj' : es[j]? = some e' := by simpa using hj
    have hjlt : j < es.size := (Array.getElem?_eq_some_iff.1 hj').1
    refine ⟨_, es.modify j fun e => { e with key := x, val := v }, clock, ?_, Turned.obj hb, ?_, ?_, ?_⟩
    · have hst : (Instr.keyThatStays (((es[j]?).map (·.key)).getD x) x).run P w = .ok x w := by
        simp only [hj', Option.map_some, Option.getD_some, hk]
        exact Kl.stays w hx
      simp [Instr.mapUpdate, run_underlying ht, hgo, Kl.check w _ hx, h1, hst, hso]
    · intro e he
      obtain ⟨i, hi⟩ := List.getElem?_of_mem he
      have hi2 : (es.modify j fun e => { e with key := x, val := v })[i]? = some e := by rw [← Array.getElem?_toList]; exact hi
      rw [Array.getElem?_modify] at hi2
      split at hi2
      · rename_i hij
        subst hij
        rw [hj'] at hi2
        simp at hi2; subst hi2
        exact ⟨lx, hx⟩
      · exact h.keys e (by simpa using Array.mem_of_getElem? hi2)
    · have hmap : (es.modify j fun e => { e with key := x, val := v }).toList.map (·.key) = es.toList.map (·.key) := by
        apply List.ext_getElem?
        intro i
        simp only [List.getElem?_map, Array.getElem?_toList, Array.getElem?_modify]
        split
        · rename_i hij; subst hij; rw [hj']; simp [hk]
        · rfl
      have h1 := (List.pairwise_map (f := fun e : MapEntry => e.key) (R := fun a b => a ≠ b)).2 h.apart
      rw [← hmap] at h1
      exact List.pairwise_map.1 h1
    · intro y u
      have hmem : ∀ e, e ∈ (es.modify j fun e => { e with key := x, val := v }).toList ↔ (e = { e' with key := x, val := v }) ∨ (e ∈ es.toList ∧ e.key ≠ x) := by
        intro e
        constructor
        · intro he
          obtain ⟨i, hi⟩ := List.getElem?_of_mem he
          have hi2 : (es.modify j fun e => { e with key := x, val := v })[i]? = some e := by rw [← Array.getElem?_toList]; exact hi
          rw [Array.getElem?_modify] at hi2
          split at hi2
          · rename_i hij
            subst hij
            rw [hj'] at hi2
            simp at hi2
            exact .inl hi2.symm
          · rename_i hij
            have he0 : e ∈ es.toList := by simpa using Array.mem_of_getElem? hi2
            refine .inr ⟨he0, fun hke => ?_⟩
            have := pairwise_eq h.apart he0 (List.mem_of_getElem? hj) (hke.trans hk.symm)
            subst this
            -- the same entry at two places: against apart
            have hp := List.pairwise_iff_getElem.1 h.apart
            have hi3 : i < es.toList.length := by
              have := (Array.getElem?_eq_some_iff.1 hi2).1; simpa using this
            have e1 : es.toList[i] = e := by
              have := (Array.getElem?_eq_some_iff.1 hi2).2; simpa using this
            have e2 : es.toList[j]'(by simpa using hjlt) = e := by
              have := (Array.getElem?_eq_some_iff.1 hj').2; simpa using this
            rcases Nat.lt_trichotomy i j with hlt | heq | hgt
            · exact hp i j hi3 (by simpa using hjlt) hlt (by rw [e1, e2])
            · exact hij heq.symm
            · exact hp j i (by simpa using hjlt) hi3 hgt (by rw [e1, e2])
        · rintro (rfl | ⟨he, hne⟩)
          · have : (es.modify j fun e => { e with key := x, val := v })[j]? = some { e' with key := x, val := v } := by rw [Array.getElem?_modify]; simp [hj']
            exact Array.mem_toList_iff.2 (Array.mem_of_getElem? this)
          · obtain ⟨i, hi⟩ := List.getElem?_of_mem he
            have hi2 : es[i]? = some e := by simpa using hi
            have hij : j ≠ i := by
              rintro rfl
              rw [hj'] at hi2; cases hi2
              exact hne hk
            have : (es.modify j fun e => { e with key := x, val := v })[i]? = some e := by rw [Array.getElem?_modify]; simp [hij, hi2]
            exact Array.mem_toList_iff.2 (Array.mem_of_getElem? this)
      by_cases hy : y = x
      · subst hy
        rw [hg.1]
        constructor
        · intro e; cases e; exact ⟨_, (hmem _).2 (.inl rfl), rfl, rfl⟩
        · rintro ⟨e, he, hk2, hv⟩
          rcases (hmem e).1 he with rfl | ⟨_, hne⟩
          · simp at hv; rw [hv]
          · exact absurd hk2 hne
      · rw [hg.2 y hy, h.at_ y u]
        constructor
        · rintro ⟨e, he, hk2, hv⟩; exact ⟨e, (hmem e).2 (.inr ⟨he, fun h => hy (hk2.symm.trans h)⟩), hk2, hv⟩
        · rintro ⟨e, he, hk2, hv⟩
          rcases (hmem e).1 he with rfl | ⟨he0, _⟩
          · exact absurd hk2.symm hy
          · exact ⟨e, he0, hk2, hv⟩
/-- a map type with its key's law and its elements' zero -/
structure MapTy (P : Program) (t k e : TypeId) (z : Value) : Prop where
  und : P.underlying t = some (.map k e)
  zero : ∀ w, (zeroValue e).run P w = .ok z w
  law : KeyLaw P k
theorem r_lookup {t k e b clock : Nat} {x y : Operand} {es : Array MapEntry} {g : Value → Option Value} {z key : Value} {lx : Lit} (T : MapTy P t k e z) (hS : StD ds n R a) (hH : Hp w0 S L w) (hs : Sub K L) (hx : ev R x = some (.map (some b))) (hy : ev R y = some key) (hi : In b (.map es clock) L) (h : MapOk P k es g) (hk : keyOf P k key = some lx) (hlt : Nat.blt d n = true)
    (kk : ∀ a', StD ds n (up R d (.tuple #[orZ (g key) z, .bool (g key).isSome])) a' → Sq P ops Q rest a' w) : Sq P ops Q ((false, ⟨some d, .lookup t x y true, ty, pos, af, none⟩, Kp w0 S K) :: rest) a w :=
  Sq.done rfl (by simp [execOp, hS.val hx, hS.val hy, run_lookup_ok T.und T.zero T.law h (hH.get hi) hk]) (hH.kp hs) (kk _ (hS.put hlt _))
theorem r_lookupS {t k e b clock : Nat} {x y : Operand} {es : Array MapEntry} {g : Value → Option Value} {z key : Value} {lx : Lit} (T : MapTy P t k e z) (hS : StD ds n R a) (hx : ev R x = some (.map (some b))) (hy : ev R y = some key) (hi : In b (.map es clock) K) (h : MapOk P k es g) (hk : keyOf P k key = some lx) (hlt : Nat.blt d n = true)
    (kk : ∀ a', StD ds n (up R d (.tuple #[orZ (g key) z, .bool (g key).isSome])) a' → Sq P ops Q rest a' w) : Sq P ops Q ((true, ⟨some d, .lookup t x y true, ty, pos, af, none⟩, Kp w0 S K) :: rest) a w :=
  Sq.soft rfl (fun w' hw' => by simp [execOp, hS.val hx, hS.val hy, run_lookup_ok T.und T.zero T.law h (hw'.1 _ hi.mem) hk]) (kk _ (hS.put hlt _))
theorem r_mapUpdate {t k e b clock : Nat} {x y u : Operand} {es : Array MapEntry} {g g' : Value → Option Value} {z key v : Value} {lx : Lit} (T : MapTy P t k e z) (hS : StD ds n R a) (hH : Hp w0 S L w) (hx : ev R x = some (.map (some b))) (hy : ev R y = some key) (hu : ev R u = some v) (hi : In b (.map es clock) L) (h : MapOk P k es g) (hk : keyOf P k key = some lx) (hg : setG g key v g') (hw : S b ∨ w0.heap.size ≤ b)
    (hsub : ∀ es' clock' L', Put b (.map es clock) (.map es' clock') L L' → Sub K L')
    (kk : ∀ w' es' clock' L', MapOk P k es' g' → Put b (.map es clock) (.map es' clock') L L' → Hp w0 S L' w' → Sq P ops Q rest a w') : Sq P ops Q ((false, ⟨none, .mapUpdate t x y u, ty, pos, af, none⟩, Kp w0 S K) :: rest) a w := by
  obtain ⟨w', es', clock', hr, ht, hok⟩ := run_mapUpdate (w := w) T.und T.law h (hH.get hi) hk hg
  obtain ⟨L', hp⟩ : ∃ L', Put b (.map es clock) (.map es' clock') L L' := by
    clear hH hsub kk hr ht
    induction hi with
    | here => exact ⟨_, .here⟩
    | there _ ih => obtain ⟨L', h⟩ := ih; exact ⟨_, .there h⟩
  have hH' := hH.turned hp ht hw
  exact Sq.skip (w' := w') rfl (by simp [execOp, hS.val hx, hS.val hy, hS.val hu, hr]) (hH'.kp (hsub es' clock' L' hp)) (kk w' es' clock' L' hok hp hH')
theorem r_makeMap {t : Nat} (hS : StD ds n R a) (hH : Hp w0 S L w) (hs : Sub K L) (ht : isMap P t = true) (hlt : Nat.blt d n = true)
    (k : ∀ a' w' b, w0.heap.size ≤ b → w.heap.size ≤ b → StD ds n (up R d (.map (some b))) a' → Hp w0 S ((b, .map #[] 0) :: L) w' → Sq P ops Q rest a' w') : Sq P ops Q ((false, ⟨some d, .makeMap t none, ty, pos, af, none⟩, Kp w0 S K) :: rest) a w := by
  have hH' := hH.alloc (.map #[] 0)
  unfold isMap at ht
  split at ht
  · rename_i e e' hu
    exact Sq.done (w' := w.alloc (.map #[] 0)) (v := .map (some w.heap.size)) rfl (by simp [execOp, Instr.makeMap]) ⟨fun p hp => hH'.blk p (List.mem_cons_of_mem _ (hs.mem p hp)), hH'.mod⟩ (k _ _ w.heap.size hH.mod.size (Nat.le_refl _) (hS.put hlt _) hH')
  · cases ht

/-! ### arrays of bytes as keys, and their sameness -/
structure ByteArr (P : Program) (t m : Nat) : Prop where
  und : ∃ e, P.underlying t = some (.array m e) ∧ P.underlying e = some (.int .u8) ∧ P.cellsOf e = 1
  cells : P.cellsOf t = m
  key : P.keyType t = true
  key2 : P.keyTypeAt 2 t = true
  law : KeyLaw P t
  guard : P.eqGuardType P.depth t = false
  types : 1 ≤ P.types.size
theorem byteArr_mk {t m : Nat} (hl : laidOutB P = true) (hrow : t < P.types.size) (h : (match P.underlying t with | some (.array k e) => Nat.beq k m && isU8 P e && Nat.beq (P.cellsOf e) 1 | _ => false) = true) (hc : Nat.beq (P.cellsOf t) m = true) (hk : P.keyType t = true) (hk2 : P.keyTypeAt 2 t = true) (hg : P.eqGuardType P.depth t = false) : ByteArr P t m := by
  split at h
  · rename_i k e hu
    simp only [Bool.and_eq_true] at h
    obtain ⟨⟨h1, h2⟩, h3⟩ := h
    have h1 := Nat.eq_of_beq_eq_true h1
    subst h1
    exact ⟨⟨e, hu, isU8_eq h2, Nat.eq_of_beq_eq_true h3⟩, Nat.eq_of_beq_eq_true hc, hk, hk2, deep_law_laid hl (m := 2) (by omega) hrow hk2 (by rw [hu]), hg, by omega⟩
  · cases h
def hcells (h : List UInt8) : List Value := h.map byteV
theorem hcells_len (h : List UInt8) : (hcells h).length = h.length := by simp [hcells]
theorem hcells_inj {h g : List UInt8} (e : hcells h = hcells g) : h = g := by
  unfold hcells at e
  refine (List.map_inj_right (f := byteV) (fun x y hxy => ?_)).1 e
  simp only [byteV, Value.int.injEq, true_and] at hxy
  exact UInt8.toNat_inj.1 (by omega)
theorem hcells_one (h : List UInt8) : ∀ u ∈ hcells h, u.oneCell' = true := one_bytes h
theorem keyLits_byte {e : Nat} (he : P.underlying e = some (.int .u8)) (dd : Nat) (x : UInt8) : P.keyLits (dd + 1) e [byteV x] = some [.int .u8 x.toNat] := by
  have : (Lit.int .u8 (x.toNat : Int)).wf = true := by
    have := x.toNat_lt
    simp [Lit.wf, IntKind.min, IntKind.max, IntKind.signed, IntKind.bits]; omega
  simp [Program.keyLits, he, byteV, this]
theorem mapM_bytes {e : Nat} (he : P.underlying e = some (.int .u8)) (hc : P.cellsOf e = 1) (dd : Nat) : ∀ (h pre : List UInt8), ((List.range' pre.length h.length).mapM fun i => P.keyLits (dd + 1) e ((((pre ++ h).map byteV).drop (i * P.cellsOf e)).take (P.cellsOf e))) = some (h.map fun x => [Lit.int .u8 x.toNat])
  | [], pre => by simp
  | x :: r, pre => by
    have ih := mapM_bytes he hc dd r (pre ++ [x])
    simp only [List.length_append, List.length_singleton, List.append_assoc, List.singleton_append] at ih
    simp only [List.length_cons, List.range'_succ, List.mapM_cons, ih]
    have : ((((pre ++ x :: r).map byteV).drop (pre.length * P.cellsOf e)).take (P.cellsOf e)) = [byteV x] := by
      rw [hc, Nat.mul_one]; simp
    rw [this, keyLits_byte he]
    simp
theorem ByteArr.keyOf {t m : Nat} (T : ByteArr P t m) {h : List UInt8} (hl : h.length = m) : keyOf P t (.agg (hcells h).toArray) = some (.string (keyBytes (h.map fun x => Lit.int .u8 x.toNat))) := by
  obtain ⟨e, hu, he, hc⟩ := T.und
  have h1 := mapM_bytes (P := P) he hc (P.types.size - 1) h []
  rw [show P.types.size - 1 + 1 = P.types.size from by have := T.types; omega] at h1
  simp only [List.length_nil, List.nil_append, hl, ← List.range_eq_range'] at h1
  unfold Go.keyOf
  rw [hu]
  simp only [T.key, Value.formed, hu, T.cells, Value.cells, Bool.true_and]
  have hsz : ((hcells h).toArray.size == m) = true := by simp [hcells_len, hl]
  rw [if_pos (by simpa using hsz)]
  simp only [Program.keyLits, hu, T.cells]
  rw [if_pos (by simp [hcells_len, hl])]
  have e2 : (h.map fun x => [Lit.int .u8 x.toNat]).flatten = h.map fun x => Lit.int .u8 x.toNat := by
    clear h1 hl hsz
    induction h with
    | nil => rfl
    | cons x r ih => simp [ih]
  simp only [hcells, h1, Option.map_some, e2]
theorem ByteArr.eq {t m : Nat} (T : ByteArr P t m) {h g : List UInt8} (hl : h.length = m) (gl : g.length = m) (w : World) : (Op.equal t (.agg (hcells h).toArray) (.agg (hcells g).toArray)).run P w = .ok (decide (h = g)) w := by
  obtain ⟨e, hu, he, hc⟩ := T.und
  obtain ⟨r, hr, hiff⟩ := run_equal_deep (P := P) w (m := 2) (by omega) T.key2 (by rw [hu]) (T.keyOf hl) (T.keyOf gl)
  rw [hr]
  congr 1
  rw [Bool.eq_iff_iff, hiff, decide_eq_true_eq]
  constructor
  · intro e
    have := T.law.inj (T.keyOf hl) ((T.keyOf gl).trans (by rw [e]))
    simp only [Value.agg.injEq] at this
    exact hcells_inj (by simpa using this)
  · rintro rfl; rfl
theorem run_binEq {t : Nat} {x y : Array Value} {r : Bool} (h : (Op.equal t (.agg x) (.agg y)).run P w = .ok r w) : (binOp .eql t (.agg x) (.agg y)).run P w = .ok (.bool r) w := by
  simp only [binOp, Sem.run_bind, h, Result.andThen_ok, Sem.run_pure]
theorem run_binNe {t : Nat} {x y : Array Value} {r : Bool} (h : (Op.equal t (.agg x) (.agg y)).run P w = .ok r w) : (binOp .neq t (.agg x) (.agg y)).run P w = .ok (.bool (!r)) w := by
  simp only [binOp, Sem.run_bind, h, Result.andThen_ok, Sem.run_pure]
theorem r_arrEql {t yt m : Nat} {x y : Operand} {h g : List UInt8} (T : ByteArr P t m) (hS : StD ds n R a) (hSw : Sf f (Kp w0 S K) w) (hx : ev R x = some (.agg (hcells h).toArray)) (hy : ev R y = some (.agg (hcells g).toArray)) (hl : h.length = m) (gl : g.length = m) (hlt : Nat.blt d n = true)
    (k : ∀ a', StD ds n (up R d (.bool (decide (h = g)))) a' → Sq P ops Q rest a' w) : Sq P ops Q ((f, ⟨some d, .binOp .eql t x y yt, ty, pos, af, none⟩, Kp w0 S K) :: rest) a w :=
  r_cmp hS hSw hx hy hlt (fun w => by simp [eqGuard, T.guard]) (fun w => run_binEq (T.eq hl gl w)) k
theorem r_arrNeq {t yt m : Nat} {x y : Operand} {h g : List UInt8} (T : ByteArr P t m) (hS : StD ds n R a) (hSw : Sf f (Kp w0 S K) w) (hx : ev R x = some (.agg (hcells h).toArray)) (hy : ev R y = some (.agg (hcells g).toArray)) (hl : h.length = m) (gl : g.length = m) (hlt : Nat.blt d n = true)
    (k : ∀ a', StD ds n (up R d (.bool (!decide (h = g)))) a' → Sq P ops Q rest a' w) : Sq P ops Q ((f, ⟨some d, .binOp .neq t x y yt, ty, pos, af, none⟩, Kp w0 S K) :: rest) a w :=
  r_cmp hS hSw hx hy hlt (fun w => by simp [eqGuard, T.guard]) (fun w => run_binNe (T.eq hl gl w)) k
end
end Go.Sym
