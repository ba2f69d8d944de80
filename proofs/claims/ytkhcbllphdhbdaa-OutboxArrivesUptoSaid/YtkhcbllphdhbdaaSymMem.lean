/- Rules of symbolic execution over any program of the model, that the claims of this folder use; part SymMem. Conditions: those that each rule names. -/
import Derived.Test.YtkhcbllphdhbdaaSymPure
namespace Go.Sym
open Go

section
variable {P : Program} {ops : Array Oper} {Q : Exit → Act → World → Prop} {rest : List Item} {a : Act} {w w0 : World} {n : Nat} {R : Rg} {ds : List Deferred} {S : Nat → Prop} {L K : Blocks}
variable {f : Bool} {d : Nat} {ty : TypeId} {pos : String} {af : Array Edge}

/-! ### memory -/
/-- how many cells a struct or array type has -/
def agB (P : Program) (t : TypeId) : Option Nat :=
  match P.underlying t with
  | some (.struct _) | some (.array _ _) => (P.info? t).map (·.size)
  | _ => none
def scB (P : Program) (t : TypeId) : Bool :=
  match P.underlying t with
  | some (.struct _) | some (.array _ _) => false
  | some _ => (P.info? t).any (·.size == 1)
  | none => false
/-- the cells of a type's zero value -/
def zcB (P : Program) (t : TypeId) : Option (List Value) := ((P.info? t).bind (·.zero)).map (·.cells.toList)
def rd (cs : List Value) (o n : Nat) : List Value := (cs.drop o).take n

theorem run_isAgg_ag {t n : Nat} (h : agB P t = some n) (w : World) : (isAgg t).run P w = .ok true w := by
  unfold agB at h
  split at h <;> simp_all [isAgg, underlying]
theorem run_size_ag {t n : Nat} (h : agB P t = some n) (w : World) : (sizeOf t).run P w = .ok n w := by
  have : (P.info? t).map (·.size) = some n := by unfold agB at h; split at h <;> simp_all
  cases hi : P.info? t with
  | none => simp [hi] at this
  | some i => simp [hi] at this; simp [sizeOf, typeInfo, hi, this]
theorem run_isAgg_sc {t : Nat} (h : scB P t = true) (w : World) : (isAgg t).run P w = .ok false w := by
  unfold scB at h
  split at h
  · cases h
  · cases h
  · rename_i d hu h1 h2
    unfold isAgg
    rw [Sem.run_bind, run_underlying h2 w]
    cases d <;> simp_all
  · cases h
theorem run_size_sc {t : Nat} (h : scB P t = true) (w : World) : (sizeOf t).run P w = .ok 1 w := by
  have : (P.info? t).any (·.size == 1) = true := by unfold scB at h; split at h <;> simp_all
  cases hi : P.info? t with
  | none => simp [hi] at this
  | some i => simp [hi] at this; simp [sizeOf, typeInfo, hi, this]

theorem run_loadVar_sc {t b o : Nat} {cs : Array Value} {T : TypeId} {fz : Nat × Nat} {v : Value} (ht : scB P t = true) (hb : w.heap[b]? = some (.cells cs T fz)) (hv : cs[o]? = some v) :
    (loadVar t ⟨b, o, none⟩).run P w = .ok v w := by
  simp [loadVar, run_isAgg_sc ht, cell_of_row w b o cs T fz hb, hv]
theorem run_loadVar_ag {t b o n : Nat} {l : List Value} {T : TypeId} {fz : Nat × Nat} (ht : agB P t = some n) (hb : w.heap[b]? = some (.cells l.toArray T fz)) (hn : o + n ≤ l.length) :
    (loadVar t ⟨b, o, none⟩).run P w = .ok (.agg (rd l o n).toArray) w := by
  have hl : (rd l o n).length = n := by simp [rd]; omega
  have h := run_loadCells_list (P := P) w ⟨b, o, none⟩ (rd l o n) (fun j v hv => by
    rw [add_eq, cell_of_row w b (o + j) _ T fz hb]
    have hj : j < n := by
      rcases Nat.lt_or_ge j n with h | h
      · exact h
      · rw [List.getElem?_eq_none (by omega)] at hv; cases hv
    simpa [rd, List.getElem?_take, hj, List.getElem?_drop] using hv)
  rw [hl] at h
  simp [loadVar, run_isAgg_ag ht, run_size_ag ht, h]

/-- the i-th -/
def nthV : List Value → Nat → Option Value
  | [], _ => none
  | v :: _, 0 => some v
  | _ :: r, i + 1 => nthV r i
theorem nthV_eq : ∀ (l : List Value) (i : Nat), nthV l i = l[i]?
  | [], i => by simp [nthV]
  | v :: r, 0 => by simp [nthV]
  | v :: r, i + 1 => by simp [nthV, nthV_eq r i]
theorem r_load_sc {t o b : Nat} {x : Operand} {l : List Value} {T : TypeId} {fz : Nat × Nat} {v : Value} (hS : StD ds n R a) (hH : Hp w0 S L w) (hs : Sub K L) (hx : ev R x = some (.pointer (some ⟨b, o, none⟩))) (hi : In b (.cells l.toArray T fz) L) (ht : scB P t = true) (hv : nthV l o = some v) (hlt : Nat.blt d n = true)
    (k : ∀ a', StD ds n (up R d v) a' → Sq P ops Q rest a' w) : Sq P ops Q ((false, ⟨some d, .load t x, ty, pos, af, none⟩, Kp w0 S K) :: rest) a w :=
  Sq.done rfl (by simp [execOp, hS.val hx, Instr.loadAt, Instr.sureAddr, run_loadVar_sc ht (hH.get hi) (show l.toArray[o]? = some v by rw [List.getElem?_toArray, ← nthV_eq, hv])]) (hH.kp hs) (k _ (hS.put hlt v))
theorem r_load_scS {t o b : Nat} {x : Operand} {l : List Value} {T : TypeId} {fz : Nat × Nat} {v : Value} (hS : StD ds n R a) (hx : ev R x = some (.pointer (some ⟨b, o, none⟩))) (hi : In b (.cells l.toArray T fz) K) (ht : scB P t = true) (hv : nthV l o = some v) (hlt : Nat.blt d n = true)
    (k : ∀ a', StD ds n (up R d v) a' → Sq P ops Q rest a' w) : Sq P ops Q ((true, ⟨some d, .load t x, ty, pos, af, none⟩, Kp w0 S K) :: rest) a w :=
  Sq.soft rfl (fun w' hw' => by simp [execOp, hS.val hx, Instr.loadAt, Instr.sureAddr, run_loadVar_sc ht (hw'.1 _ hi.mem) (show l.toArray[o]? = some v by rw [List.getElem?_toArray, ← nthV_eq, hv])]) (k _ (hS.put hlt v))
theorem r_load_ag {t o b m : Nat} {x : Operand} {l : List Value} {T : TypeId} {fz : Nat × Nat} (hS : StD ds n R a) (hH : Hp w0 S L w) (hs : Sub K L) (hx : ev R x = some (.pointer (some ⟨b, o, none⟩))) (hi : In b (.cells l.toArray T fz) L) (ht : agB P t = some m) (hv : o + m ≤ l.length) (hlt : Nat.blt d n = true)
    (k : ∀ a', StD ds n (up R d (.agg (rd l o m).toArray)) a' → Sq P ops Q rest a' w) : Sq P ops Q ((false, ⟨some d, .load t x, ty, pos, af, none⟩, Kp w0 S K) :: rest) a w :=
  Sq.done rfl (by simp [execOp, hS.val hx, Instr.loadAt, Instr.sureAddr, run_loadVar_ag ht (hH.get hi) hv]) (hH.kp hs) (k _ (hS.put hlt _))
theorem r_load_agS {t o b m : Nat} {x : Operand} {l : List Value} {T : TypeId} {fz : Nat × Nat} (hS : StD ds n R a) (hx : ev R x = some (.pointer (some ⟨b, o, none⟩))) (hi : In b (.cells l.toArray T fz) K) (ht : agB P t = some m) (hv : o + m ≤ l.length) (hlt : Nat.blt d n = true)
    (k : ∀ a', StD ds n (up R d (.agg (rd l o m).toArray)) a' → Sq P ops Q rest a' w) : Sq P ops Q ((true, ⟨some d, .load t x, ty, pos, af, none⟩, Kp w0 S K) :: rest) a w :=
  Sq.soft rfl (fun w' hw' => by simp [execOp, hS.val hx, Instr.loadAt, Instr.sureAddr, run_loadVar_ag ht (hw'.1 _ hi.mem) hv]) (k _ (hS.put hlt _))
theorem rd_all {l : List Value} {m : Nat} (h : l.length = m) : rd l 0 m = l := by subst h; simp [rd]
theorem r_load_row {t b m : Nat} {x : Operand} {l : List Value} {T : TypeId} {fz : Nat × Nat} (hS : StD ds n R a) (hH : Hp w0 S L w) (hs : Sub K L) (hx : ev R x = some (.pointer (some ⟨b, 0, none⟩))) (hi : In b (.cells l.toArray T fz) L) (ht : agB P t = some m) (hv : l.length = m) (hlt : Nat.blt d n = true)
    (k : ∀ a', StD ds n (up R d (.agg l.toArray)) a' → Sq P ops Q rest a' w) : Sq P ops Q ((false, ⟨some d, .load t x, ty, pos, af, none⟩, Kp w0 S K) :: rest) a w :=
  r_load_ag hS hH hs hx hi ht (by omega) hlt (by rw [rd_all hv]; exact k)
theorem r_load_rowS {t b m : Nat} {x : Operand} {l : List Value} {T : TypeId} {fz : Nat × Nat} (hS : StD ds n R a) (hx : ev R x = some (.pointer (some ⟨b, 0, none⟩))) (hi : In b (.cells l.toArray T fz) K) (ht : agB P t = some m) (hv : l.length = m) (hlt : Nat.blt d n = true)
    (k : ∀ a', StD ds n (up R d (.agg l.toArray)) a' → Sq P ops Q rest a' w) : Sq P ops Q ((true, ⟨some d, .load t x, ty, pos, af, none⟩, Kp w0 S K) :: rest) a w :=
  r_load_agS hS hx hi ht (by omega) hlt (by rw [rd_all hv]; exact k)

/-! ### storing -/
/-- w' is w but that block b is o now. -/
structure Turned (b : Nat) (o : Obj) (w w' : World) : Prop where
  os : w'.os = w.os
  tape : w'.tape = w.tape
  output : w'.output = w.output
  size : w'.heap.size = w.heap.size
  here : w'.heap[b]? = some o
  other : ∀ c, c ≠ b → w'.heap[c]? = w.heap[c]?
theorem Turned.trans {b : Nat} {o o' : Obj} {u v w : World} (h : Turned b o u v) (k : Turned b o' v w) : Turned b o' u w :=
  ⟨k.os.trans h.os, k.tape.trans h.tape, k.output.trans h.output, k.size.trans h.size, k.here, fun c hc => (k.other c hc).trans (h.other c hc)⟩
theorem Turned.mod {b : Nat} {o : Obj} {w w' : World} (h : Turned b o w w') : Mod (· = b) w w' :=
  ⟨h.os, h.tape, h.output, Nat.le_of_eq h.size.symm, fun c _ hn => h.other c hn⟩
theorem Turned.cell {w : World} {b o : Nat} {cs : Array Value} {T : TypeId} (v : Value) (hb : w.heap[b]? = some (.cells cs T (0, 0))) : Turned b (.cells (cs.setIfInBounds o v) T (0, 0)) w (w.setCell ⟨b, o, none⟩ v) :=
  ⟨rfl, rfl, rfl, by simp, heap_setCell_same w b o cs T v hb, fun c hc => heap_setCell_other w ⟨b, o, none⟩ c v hc⟩
theorem Hp.turned (h : Hp w0 S L w) {b : Nat} {o o' : Obj} {w' : World} {L' : Blocks} (hp : Put b o o' L L') (ht : Turned b o' w w') (hw : S b ∨ w0.heap.size ≤ b) : Hp w0 S L' w' := by
  refine ⟨fun p hp' => ?_, by rw [hp.keys]; exact h.nd, ?_⟩
  · rcases hp.mem h.nd p hp' with rfl | ⟨h1, h2⟩
    · exact ht.here
    · rw [ht.other p.1 h2]; exact h.blk p h1
  · refine h.mod.trans ht.mod (fun c hc hcb => ?_)
    subst hcb
    rcases hw with hs | hs
    · exact hs
    · omega
/-- a list written over another from a place on -/
def wr (l : List Value) : Nat → List Value → List Value
  | _, [] => l
  | o, v :: r => wr (l.set o v) (o + 1) r
theorem wr_length : ∀ (r l : List Value) (o : Nat), (wr l o r).length = l.length
  | [], l, o => rfl
  | v :: r, l, o => by simp [wr, wr_length r]
theorem wr_eq : ∀ (r l : List Value) (o : Nat), o + r.length ≤ l.length → wr l o r = l.take o ++ r ++ l.drop (o + r.length)
  | [], l, o, h => by simp [wr]
  | v :: r, l, o, h => by
    simp only [List.length_cons] at h
    rw [wr, wr_eq r (l.set o v) (o + 1) (by simp; omega)]
    have e1 : (l.set o v).take (o + 1) = l.take o ++ [v] := by
      rw [List.take_succ_eq_append_getElem (by simp; omega), List.take_set_of_le (Nat.le_refl _)]
      simp
    have e2 : (l.set o v).drop (o + 1 + r.length) = l.drop (o + (r.length + 1)) := by
      rw [List.drop_set_of_lt (by omega)]
      congr 1
      omega
    rw [e1, e2]
    simp
/-- the same, read off at once -/
def spl (l : List Value) (o : Nat) (vs : List Value) : List Value := l.take o ++ (vs ++ l.drop (o + vs.length))
theorem spl_wr {l vs : List Value} {o : Nat} (h : o + vs.length ≤ l.length) : wr l o vs = spl l o vs := by
  rw [wr_eq vs l o h, spl, List.append_assoc]
theorem run_storeCells {b : Nat} {T : TypeId} : ∀ (r l : List Value) (o i : Nat) (w : World), w.heap[b]? = some (.cells l.toArray T (0, 0)) → (∀ v ∈ r, v.oneCell' = true) → o + i + r.length ≤ l.length →
    ∃ w', (storeCells ⟨b, o, none⟩ r i).run P w = .ok () w' ∧ Turned b (.cells (wr l (o + i) r).toArray T (0, 0)) w w'
  | [], l, o, i, w, hb, h1, hl => ⟨w, by simp [storeCells], ⟨rfl, rfl, rfl, rfl, hb, fun _ _ => rfl⟩⟩
  | v :: r, l, o, i, w, hb, h1, hl => by
    have ht := Turned.cell (o := o + i) v hb
    have hb' := ht.here
    simp only [List.setIfInBounds_toArray] at hb' ht
    simp only [List.length_cons] at hl
    obtain ⟨w', hr, hq⟩ := run_storeCells r (l.set (o + i) v) o (i + 1) _ hb' (fun u hu => h1 u (List.mem_cons_of_mem _ hu)) (by simp; omega)
    refine ⟨w', ?_, ht.trans hq⟩
    have hc : w.cell? ⟨b, o + i, none⟩ = some (l[o + i]'(by omega)) := by rw [cell_of_row w b (o + i) _ T (0, 0) hb]; simp
    simp only [storeCells, Sem.run_bind, add_eq, run_store P w _ v .plain (h1 v (by simp)), hc, frozen_of_row w b (o + i) _ T hb]
    simpa using hr
def sizeB (P : Program) (t : TypeId) (n : Nat) : Bool := (P.info? t).any (·.size == n)
theorem run_sizeB {t n : Nat} (h : sizeB P t n = true) (w : World) : (sizeOf t).run P w = .ok n w := by
  unfold sizeB at h
  cases hi : P.info? t with
  | none => simp [hi] at h
  | some i => simp [hi] at h; simp [sizeOf, typeInfo, hi, h]
theorem run_storeVar {t b o : Nat} {l : List Value} {T : TypeId} {v : Value} (ht : sizeB P t v.cells.toList.length = true) (hb : w.heap[b]? = some (.cells l.toArray T (0, 0))) (h1 : ∀ u ∈ v.cells.toList, u.oneCell' = true) (hl : o + v.cells.toList.length ≤ l.length) :
    ∃ w', (storeVar t ⟨b, o, none⟩ v).run P w = .ok () w' ∧ Turned b (.cells (wr l o v.cells.toList).toArray T (0, 0)) w w' := by
  obtain ⟨w', hr, hq⟩ := run_storeCells (P := P) v.cells.toList l o 0 w hb h1 (by omega)
  exact ⟨w', by simpa [storeVar, run_sizeB ht] using hr, hq⟩
theorem r_store {t o b : Nat} {x y : Operand} {l vs : List Value} {T : TypeId} {v : Value} {L' : Blocks} (hS : StD ds n R a) (hH : Hp w0 S L w) (hx : ev R x = some (.pointer (some ⟨b, o, none⟩))) (hy : ev R y = some v) (hvs : v.cells = vs.toArray) (hi : Put b (.cells l.toArray T (0, 0)) (.cells (spl l o vs).toArray T (0, 0)) L L') (hs : Sub K L')
    (ht : sizeB P t vs.length = true) (h1 : ∀ u ∈ vs, u.oneCell' = true) (hl : o + vs.length ≤ l.length) (hw : S b ∨ w0.heap.size ≤ b)
    (k : ∀ w', Hp w0 S L' w' → Sq P ops Q rest a w') : Sq P ops Q ((false, ⟨none, .store t x y, ty, pos, af, none⟩, Kp w0 S K) :: rest) a w := by
  obtain ⟨w', hr, hq⟩ := run_storeVar (P := P) (w := w) (t := t) (b := b) (o := o) (l := l) (T := T) (v := v) (by rw [hvs]; exact ht) (hH.blk _ hi.old) (by rw [hvs]; exact h1) (by rw [hvs]; exact hl)
  rw [hvs, spl_wr hl] at hq
  have hH' := hH.turned hi hq hw
  exact Sq.skip (w' := w') rfl (by simp [execOp, hS.val hx, hS.val hy, Instr.storeAt, Instr.sureAddr, hr]) (hH'.kp hs) (k w' hH')
/-- one cell -/
theorem r_store1 {t o b : Nat} {x y : Operand} {l : List Value} {T : TypeId} {v : Value} {L' : Blocks} (hS : StD ds n R a) (hH : Hp w0 S L w) (hx : ev R x = some (.pointer (some ⟨b, o, none⟩))) (hy : ev R y = some v) (h1 : v.oneCell' = true) (hi : Put b (.cells l.toArray T (0, 0)) (.cells (spl l o [v]).toArray T (0, 0)) L L') (hs : Sub K L')
    (ht : sizeB P t 1 = true) (hl : o < l.length) (hw : S b ∨ w0.heap.size ≤ b)
    (k : ∀ w', Hp w0 S L' w' → Sq P ops Q rest a w') : Sq P ops Q ((false, ⟨none, .store t x y, ty, pos, af, none⟩, Kp w0 S K) :: rest) a w :=
  r_store (vs := [v]) hS hH hx hy (by cases v <;> first | rfl | (simp [Value.oneCell'] at h1)) hi hs ht (by simpa using h1) (by simp; omega) hw k
theorem wr_all' : ∀ (vs l : List Value) (p : List Value), l.length = vs.length → wr (p ++ l) p.length vs = p ++ vs
  | [], l, p, h => by simp at h; simp [wr, h]
  | v :: r, [], p, h => by simp at h
  | v :: r, x :: l, p, h => by
    have := wr_all' r l (p ++ [v]) (by simpa using h)
    simpa [wr, List.set_append] using this
theorem spl_all {l vs : List Value} (h : l.length = vs.length) : spl l 0 vs = vs := by simp [spl, ← h]
theorem wr_all {l vs : List Value} (h : l.length = vs.length) : wr l 0 vs = vs := by simpa using wr_all' vs l [] h
/-- a whole block -/
theorem r_store_row {t b : Nat} {x y : Operand} {l vs : List Value} {T : TypeId} {L' : Blocks} (hS : StD ds n R a) (hH : Hp w0 S L w) (hx : ev R x = some (.pointer (some ⟨b, 0, none⟩))) (hy : ev R y = some (.agg vs.toArray)) (hi : Put b (.cells l.toArray T (0, 0)) (.cells vs.toArray T (0, 0)) L L') (hs : Sub K L')
    (ht : sizeB P t vs.length = true) (h1 : ∀ u ∈ vs, u.oneCell' = true) (hl : l.length = vs.length) (hw : S b ∨ w0.heap.size ≤ b)
    (k : ∀ w', Hp w0 S L' w' → Sq P ops Q rest a w') : Sq P ops Q ((false, ⟨none, .store t x y, ty, pos, af, none⟩, Kp w0 S K) :: rest) a w :=
  r_store (vs := vs) hS hH hx hy rfl (by rw [spl_all hl]; exact hi) hs ht h1 (by omega) hw k

/-! ### new blocks -/
theorem r_new {op : Op} {o : Obj} (hS : StD ds n R a) (hH : Hp w0 S L w) (hs : Sub K L) (hlt : Nat.blt d n = true) (hp : (execOp a.eval ⟨some d, op, ty, pos, af, none⟩).run P w = .ok (.value (.pointer (some ⟨w.heap.size, 0, none⟩))) (w.alloc o))
    (k : ∀ a' w' b, w0.heap.size ≤ b → w.heap.size ≤ b → StD ds n (up R d (.pointer (some ⟨b, 0, none⟩))) a' → Hp w0 S ((b, o) :: L) w' → Sq P ops Q rest a' w') : Sq P ops Q ((false, ⟨some d, op, ty, pos, af, none⟩, Kp w0 S K) :: rest) a w :=
  have hH' := hH.alloc o
  have hK' : Kp w0 S K (w.alloc o) := ⟨fun p hp => hH'.blk p (List.mem_cons_of_mem _ (hs.mem p hp)), hH'.mod⟩
  Sq.done (w' := w.alloc o) rfl hp hK' (k _ _ w.heap.size hH.mod.size (Nat.le_refl _) (hS.put hlt _) hH')
theorem r_box {t : Nat} {x : Operand} {v : Value} {cs : List Value} (hS : StD ds n R a) (hH : Hp w0 S L w) (hs : Sub K L) (hx : ev R x = some v) (hv : v.cells = cs.toArray) (hlt : Nat.blt d n = true)
    (k : ∀ a' w' b, w0.heap.size ≤ b → w.heap.size ≤ b → StD ds n (up R d (.pointer (some ⟨b, 0, none⟩))) a' → Hp w0 S ((b, .cells cs.toArray t (0, 0)) :: L) w' → Sq P ops Q rest a' w') : Sq P ops Q ((false, ⟨some d, .box t x, ty, pos, af, none⟩, Kp w0 S K) :: rest) a w :=
  r_new hS hH hs hlt (by simp [execOp, hS.val hx, Instr.box, newVar, newRow, hv]) k
theorem r_alloc {t : Nat} {cs : List Value} (hS : StD ds n R a) (hH : Hp w0 S L w) (hs : Sub K L) (hv : zcB P t = some cs) (hlt : Nat.blt d n = true)
    (k : ∀ a' w' b, w0.heap.size ≤ b → w.heap.size ≤ b → StD ds n (up R d (.pointer (some ⟨b, 0, none⟩))) a' → Hp w0 S ((b, .cells cs.toArray t (0, 0)) :: L) w' → Sq P ops Q rest a' w') : Sq P ops Q ((false, ⟨some d, .alloc t, ty, pos, af, none⟩, Kp w0 S K) :: rest) a w := by
  refine r_new hS hH hs hlt ?_ k
  unfold zcB at hv
  cases hi : P.info? t with
  | none => simp [hi] at hv
  | some i =>
    cases hz : i.zero with
    | none => simp [hi, hz] at hv
    | some z => simp [hi, hz] at hv; subst hv; simp [execOp, Instr.alloc, zeroValue, typeInfo, hi, hz, newVar, newRow]
/-- a literal of a struct or an array: its cells are told, and checked by 'hb' -/
theorem r_build {t : Nat} {parts : List (Nat × Operand)} {vs : List Value} {cs : Array Value} (hS : StD ds n R a) (hSw : Sf f (Kp w0 S K) w) (hv : evs R (parts.map (·.2)) = some vs) (hlt : Nat.blt d n = true)
    (hb : ∀ w, (Instr.build t ((parts.map (·.1)).zip vs).toArray).run P w = .ok (.agg cs) w)
    (k : ∀ a', StD ds n (up R d (.agg cs)) a' → Sq P ops Q rest a' w) : Sq P ops Q ((f, ⟨some d, .build t parts.toArray, ty, pos, af, none⟩, Kp w0 S K) :: rest) a w := by
  have h := hS.vals hv
  have e : (parts.map fun p => (p.1, a.eval p.2)) = (parts.map (·.1)).zip vs := by
    rw [← h, List.map_map]
    clear h hv hb k
    induction parts with
    | nil => rfl
    | cons p r ih => simp [ih]
  exact r_pure hS hSw hlt (fun w => by simp only [execOp, List.map_toArray, Sem.run_bind]; rw [show (parts.map fun x => match x with | (i, x) => (i, a.eval x)) = (parts.map (·.1)).zip vs from e, hb w]; rfl) k

end
end Go.Sym
