/- Rules of symbolic execution over any program of the model, that the claims of this folder use; part SymKeys. Conditions: those that each rule names. -/
import Derived.Test.YtkhcbllphdhbdaaSymDet
namespace Go.Sym
open Go
theorem len48 {h : List UInt8} (hl : h.length = 48) : ∃ a b c : List UInt8, a.length = 16 ∧ b.length = 16 ∧ c.length = 16 ∧ h = a ++ b ++ c := by
  refine ⟨h.take 16, (h.drop 16).take 16, h.drop 32, by simp [hl], by simp [hl], by simp [hl], ?_⟩
  have : h.drop 32 = (h.drop 16).drop 16 := by rw [List.drop_drop]
  rw [this, List.append_assoc, List.take_append_drop, List.take_append_drop]
section
variable {P : Program} {ops : Array Oper} {Q : Exit → Act → World → Prop} {rest : List Item} {a : Act} {w w0 : World} {n : Nat} {R : Rg} {ds : List Deferred} {S : Nat → Prop} {L K : Blocks}
variable {f : Bool} {d : Nat} {ty : TypeId} {pos : String} {af : Array Edge}
/-- bytes that are a whole block: written, read -/
theorem r_store_h {t b m : Nat} {x y : Operand} {l : List Value} {T : TypeId} {L' : Blocks} (h : List UInt8) (hm : h.length = m) (hS : StD ds n R a) (hH : Hp w0 S L w) (hx : ev R x = some (.pointer (some ⟨b, 0, none⟩))) (hy : ev R y = some (.agg (hcells h).toArray)) (hi : Put b (.cells l.toArray T (0, 0)) (.cells (hcells h).toArray T (0, 0)) L L') (hs : Sub K L') (hl : l.length = m)
    (ht : sizeB P t m = true) (hw : S b ∨ w0.heap.size ≤ b)
    (k : ∀ w', Hp w0 S L' w' → Sq P ops Q rest a w') : Sq P ops Q ((false, ⟨none, .store t x y, ty, pos, af, none⟩, Kp w0 S K) :: rest) a w :=
  r_store_row hS hH hx hy hi hs (by rw [hcells_len, hm]; exact ht) (hcells_one h) (by rw [hcells_len, hm]; exact hl) hw k
theorem r_load_h {t b m : Nat} {x : Operand} {T : TypeId} {fz : Nat × Nat} (h : List UInt8) (hm : h.length = m) (hS : StD ds n R a) (hH : Hp w0 S L w) (hs : Sub K L) (hx : ev R x = some (.pointer (some ⟨b, 0, none⟩))) (hi : In b (.cells (hcells h).toArray T fz) L) (ht : agB P t = some m) (hlt : Nat.blt d n = true)
    (k : ∀ a', StD ds n (up R d (.agg (hcells h).toArray)) a' → Sq P ops Q rest a' w) : Sq P ops Q ((false, ⟨some d, .load t x, ty, pos, af, none⟩, Kp w0 S K) :: rest) a w :=
  r_load_row hS hH hs hx hi ht (by rw [hcells_len, hm]) hlt k
theorem r_load_hS {t b m : Nat} {x : Operand} {T : TypeId} {fz : Nat × Nat} (h : List UInt8) (hm : h.length = m) (hS : StD ds n R a) (hx : ev R x = some (.pointer (some ⟨b, 0, none⟩))) (hi : In b (.cells (hcells h).toArray T fz) K) (ht : agB P t = some m) (hlt : Nat.blt d n = true)
    (k : ∀ a', StD ds n (up R d (.agg (hcells h).toArray)) a' → Sq P ops Q rest a' w) : Sq P ops Q ((true, ⟨some d, .load t x, ty, pos, af, none⟩, Kp w0 S K) :: rest) a w :=
  r_load_rowS hS hx hi ht (by rw [hcells_len, hm]) hlt k
end

/-! ### keys, in plain terms -/
def lk_key : ByteArray := { data := #[107, 101, 121] }
def lk_mask : ByteArray := { data := #[109, 97, 115, 107] }
def lk_next : ByteArray := { data := #[110, 101, 120, 116] }
def lk_initial : ByteArray := { data := #[105, 110, 105, 116, 105, 97, 108] }
def lk_client : ByteArray := { data := #[99, 108, 105, 101, 110, 116] }
def lk_server : ByteArray := { data := #[115, 101, 114, 118, 101, 114] }
def lk_retry : ByteArray := { data := #[114, 101, 116, 114, 121] }
def lk_side (s : Bool) : ByteArray := bif s then lk_server else lk_client
def zK : List UInt8 := [0, 0, 0, 0, 0, 0, 0, 0, 0, 0, 0, 0, 0, 0, 0, 0, 0, 0, 0, 0, 0, 0, 0, 0, 0, 0, 0, 0, 0, 0, 0, 0, 0, 0, 0, 0, 0, 0, 0, 0, 0, 0, 0, 0, 0, 0, 0, 0]
abbrev KOut := List UInt8 × Int × List Tm
noncomputable def makeF (ts : List Tm) (s : List UInt8) : KOut :=
  if (ofF ts s (drv lk_key (strOf []))).2.1 ≠ 0 then (zK, (ofF ts s (drv lk_key (strOf []))).2.1, (ofF ts s (drv lk_key (strOf []))).2.2)
  else (s ++ (ofF ts s (drv lk_key (strOf []))).1 ++ (ofF (ofF ts s (drv lk_key (strOf []))).2.2 s (drv lk_mask (strOf []))).1, 0, (ofF (ofF ts s (drv lk_key (strOf []))).2.2 s (drv lk_mask (strOf []))).2.2)
theorem makeF_no {ts ts1 : List Tm} {s h : List UInt8} {x : Int} (u : Uq ts) (hb : ts.length ≤ 999999990) (k : OfT ts s (drv lk_key (strOf [])) h x ts1) (hx : x ≠ 0) : makeF ts s = (zK, x, ts1) := by
  unfold makeF
  rw [k.toF u (by omega)]
  simp only [ne_eq, hx, not_false_eq_true, if_true]
theorem makeF_yes {ts ts1 ts2 : List Tm} {s h g : List UInt8} {y : Int} (u : Uq ts) (hb : ts.length ≤ 999999990) (k : OfT ts s (drv lk_key (strOf [])) h 0 ts1) (k2 : OfT ts1 s (drv lk_mask (strOf [])) g y ts2) : makeF ts s = (s ++ h ++ g, 0, ts2) := by
  unfold makeF
  rw [k.toF u (by omega)]
  have := k.lens
  simp only [ne_eq, not_true_eq_false, if_false]
  rw [k2.toF (k.uq u) (by omega)]
theorem Made.ex (ts : List Tm) (t : Tm) : ∃ i ts', Made ts t i ts' := by
  by_cases h : t.kind ≠ 1 ∧ t ∈ ts
  · obtain ⟨i, hi⟩ := List.getElem?_of_mem h.2
    exact ⟨i, ts, .inl ⟨h.1, hi, rfl⟩⟩
  · refine ⟨ts.length, ts ++ [t], .inr ⟨?_, rfl, rfl⟩⟩
    by_cases k : t.kind = 1
    · exact .inl k
    · exact .inr fun m => h ⟨k, m⟩
theorem OfT.ex (ts : List Tm) (h : List UInt8) (t : Tm) : ∃ h' x ts', OfT ts h t h' x ts' := by
  by_cases k : ∃ i, i < ts.length ∧ h = nm i
  · obtain ⟨i, hi, e⟩ := k
    obtain ⟨j, ts', m⟩ := Made.ex ts { t with a := (i : Int) }
    exact ⟨nm j, 0, ts', .inl ⟨i, j, hi, e, rfl, rfl, m⟩⟩
  · exact ⟨zH, 15, ts, .inr ⟨fun i hi e => k ⟨i, hi, e⟩, rfl, rfl, rfl⟩⟩
/-- with a secret that is known the keys are made -/
theorem makeF_ok {ts ts' : List Tm} {s K : List UInt8} {x : Int} (u : Uq ts) (hb : ts.length ≤ 999999990) (hk : ∃ i, i < ts.length ∧ s = nm i) (e : makeF ts s = (K, x, ts')) : x = 0 := by
  obtain ⟨h, y, ts1, k⟩ := OfT.ex ts s (drv lk_key (strOf []))
  obtain rfl := k.ok hk
  unfold makeF at e
  rw [k.toF u (by omega)] at e
  simp only [ne_eq, not_true_eq_false, if_false, Prod.mk.injEq] at e
  exact e.2.1.symm
noncomputable def nextF (ts : List Tm) (s m : List UInt8) : KOut :=
  if (ofF ts s (drv lk_next (strOf []))).2.1 ≠ 0 then (zK, (ofF ts s (drv lk_next (strOf []))).2.1, (ofF ts s (drv lk_next (strOf []))).2.2)
  else ((makeF (ofF ts s (drv lk_next (strOf []))).2.2 (ofF ts s (drv lk_next (strOf []))).1).1.take 32 ++ m, 0, (makeF (ofF ts s (drv lk_next (strOf []))).2.2 (ofF ts s (drv lk_next (strOf []))).1).2.2)
theorem nextF_no {ts ts1 : List Tm} {s m h : List UInt8} {x : Int} (u : Uq ts) (hb : ts.length ≤ 999999980) (k : OfT ts s (drv lk_next (strOf [])) h x ts1) (hx : x ≠ 0) : nextF ts s m = (zK, x, ts1) := by
  unfold nextF
  rw [k.toF u (by omega)]
  simp only [ne_eq, hx, not_false_eq_true, if_true]
theorem nextF_yes {ts ts1 ts2 : List Tm} {s m h a b c : List UInt8} {y : Int} (u : Uq ts) (hb : ts.length ≤ 999999980) (k : OfT ts s (drv lk_next (strOf [])) h 0 ts1) (e : makeF ts1 h = (a ++ b ++ c, y, ts2)) (ha : a.length = 16) (hb' : b.length = 16) : nextF ts s m = (a ++ b ++ m, 0, ts2) := by
  unfold nextF
  rw [k.toF u (by omega)]
  simp only [ne_eq, not_true_eq_false, if_false, e]
  rw [List.take_left' (by simp [ha, hb'])]
noncomputable def initF (ts : List Tm) (l : List UInt8) (s : Bool) : KOut :=
  if 20 < l.length then (zK, 2, ts)
  else makeF (ofF (ofF ts (nm 0) (drv lk_initial (strOf l))).2.2 (ofF ts (nm 0) (drv lk_initial (strOf l))).1 (drv (lk_side s) (strOf []))).2.2 (ofF (ofF ts (nm 0) (drv lk_initial (strOf l))).2.2 (ofF ts (nm 0) (drv lk_initial (strOf l))).1 (drv (lk_side s) (strOf []))).1
theorem initF_yes {ts ts1 ts2 : List Tm} {l h g : List UInt8} {x y : Int} {s : Bool} (u : Uq ts) (hb : ts.length ≤ 999999980) (hl : ¬ 20 < l.length) (k : OfT ts (nm 0) (drv lk_initial (strOf l)) h x ts1) (k2 : OfT ts1 h (drv (lk_side s) (strOf [])) g y ts2) : initF ts l s = makeF ts2 g := by
  unfold initF
  rw [if_neg hl, k.toF u (by omega)]
  have := k.lens
  simp only
  rw [k2.toF (k.uq u) (by omega)]
noncomputable def tagF (ts : List Tm) (l m : List UInt8) : KOut :=
  if 20 < l.length then (zH, 2, ts) else ofF ts (nm 0) (drv lk_retry (strOf (UInt8.ofNat l.length :: l ++ m)))
theorem SlB.three {w : World} {b : Nat} {x y z : Value} {l m n : List UInt8} {T : TypeId} {fz : Nat × Nat} (hb : w.heap[b]? = some (.cells [x, y, z].toArray T fz)) (h : Bs w x l) (h2 : Bs w y m) (h3 : Bs w z n) : SlB w (.slice (some ⟨b, 0, none⟩) 3 3) [l, m, n] :=
  ⟨[x, y, z], _, 3, Sl.of_block hb (by simp) (Nat.le_refl _), fun i u hu => by
    match i, hu with
    | 0, hu => simp at hu; subst hu; exact ⟨l, rfl, h⟩
    | 1, hu => simp at hu; subst hu; exact ⟨m, rfl, h2⟩
    | 2, hu => simp at hu; subst hu; exact ⟨n, rfl, h3⟩⟩
theorem Bs.byte {w : World} {b : Nat} {u : UInt8} {T : TypeId} {fz : Nat × Nat} (hb : w.heap[b]? = some (.cells [byteV u].toArray T fz)) : Bs w (.slice (some ⟨b, 0, none⟩) 1 1) [u] :=
  ⟨_, 1, Sl.of_block (es := 1) (m := 1) (cap := 1) hb (by simp) (Nat.le_refl _)⟩
theorem BsF.row {F : Nat → Prop} {w : World} {b cap n : Nat} {l2 : List Value} {T : TypeId} {fz : Nat × Nat} {l : List UInt8} (hb : w.heap[b]? = some (.cells l2.toArray T fz)) (hF : ¬ F b) (hlen : l2.length = cap * 1) (hc : n ≤ cap) (ht : l2.take (n * 1) = l.map byteV) (hn : l.length = n) : BsF F w (.slice (some ⟨b, 0, none⟩) n cap) l := by
  intro w' k
  subst hn
  have h := Sl.of_block (es := 1) (m := l.length) (cap := cap) (k.heap_some hb hF) (by omega) hc
  rw [ht] at h
  exact ⟨_, _, h⟩
end Go.Sym
