/- Rules of symbolic execution over any program of the model, that the claims of this folder use; part SymSeal. Conditions: those that each rule names. -/
import Derived.Test.YtkhcbllphdhbdaaSymSteps
namespace Go.Sym
open Go
/-! ### what is known, where terms are sealed -/
def byt (t : Tm) : List UInt8 := t.bytes.data.toList
/-- the numbers of terms are closed: root, what is seen, what is made of what is known, what is sealed in what can be opened -/
structure Clos6 (ts : List Tm) (seen : List (List UInt8)) (C : Nat → Prop) : Prop where
  root : C 0
  seen : ∀ l ∈ seen, ∀ j, j < ts.length → HasN l j → C j
  reach : ∀ j t, ts[j]? = some t → Rch C t → C j
  opn : ∀ j t, ts[j]? = some t → t.kind = 6 → C j → C t.a.toNat → ∀ i, i < ts.length → HasN (byt t) i → C i
structure Knows6 (ts : List Tm) (seen : List (List UInt8)) (K : List Bool) : Prop where
  len : K.length = ts.length
  clos : Clos6 ts seen (KT K)
  least : ∀ C, Clos6 ts seen C → ∀ j, KT K j → C j
structure Wf6 (ts : List Tm) : Prop where
  a : ∀ (j : Nat) (t : Tm), ts[j]? = some t → 0 ≤ t.a ∧ t.a < ts.length
  b : ∀ (j : Nat) (t : Tm), ts[j]? = some t → 0 ≤ t.b ∧ t.b < ts.length
  sz : ∀ (j : Nat) (t : Tm), ts[j]? = some t → t.bytes.size ≤ 1099511627776
theorem Wf6.root : Wf6 [rootT] := by
  refine ⟨fun j t h => ?_, fun j t h => ?_, fun j t h => ?_⟩ <;>
  · have := List.mem_of_getElem? h
    rw [List.mem_singleton.1 this]; decide
theorem Wf6.push {ts : List Tm} {t : Tm} (h : Wf6 ts) (ha : 0 ≤ t.a ∧ t.a < ts.length) (hb : 0 ≤ t.b ∧ t.b < ts.length) (hk : t.bytes.size ≤ 1099511627776) : Wf6 (ts ++ [t]) := by
  have key : ∀ (j : Nat) (u : Tm), (ts ++ [t])[j]? = some u → ts[j]? = some u ∨ u = t := by
    intro j u hj
    rw [List.getElem?_append] at hj
    split at hj
    · exact .inl hj
    · exact .inr (List.mem_singleton.1 (List.mem_of_getElem? hj))
  refine ⟨fun j u hj => ?_, fun j u hj => ?_, fun j u hj => ?_⟩ <;> rcases key j u hj with k | rfl
  · have := h.a j u k; simp; omega
  · simp; omega
  · have := h.b j u k; simp; omega
  · simp; omega
  · exact h.sz j u k
  · exact hk
/-- a pass over all terms: whether they are reached up to ik, and opened up to io -/
structure Pass6 (ts : List Tm) (K0 O0 K1 O1 : List Bool) (tds : List (List UInt8)) (mr : Bool) (ik io : Nat) : Prop where
  len : K1.length = ts.length
  lenO : O1.length = ts.length
  up : ∀ j, KT K0 j → KT K1 j
  sound : ∀ C : Nat → Prop, (∀ j, KT K0 j → C j) → (∀ j t, ts[j]? = some t → Rch C t → C j) → ∀ j, KT K1 j → C j
  tds_ : ∀ l ∈ tds, ∃ (j : Nat) (t : Tm), ts[j]? = some t ∧ t.kind = 6 ∧ KT K1 j ∧ KT K1 t.a.toNat ∧ l = byt t
  opnd : ∀ j, KT O1 j → KT O0 j ∨ ∃ t, ts[j]? = some t ∧ byt t ∈ tds
  no : mr = false → K1 = K0 ∧ O1 = O0 ∧ tds = [] ∧ (∀ j, j < ik → ∀ t, ts[j]? = some t → Rch (KT K0) t → KT K0 j) ∧ (∀ j, j < io → ∀ t, ts[j]? = some t → t.kind = 6 → KT K0 j → KT K0 t.a.toNat → KT O0 j)
  yes : mr = true → cnt K0 + cnt O0 < cnt K1 + cnt O1
  le : cnt K0 + cnt O0 ≤ cnt K1 + cnt O1
theorem Pass6.start {ts : List Tm} {K0 O0 : List Bool} (h : K0.length = ts.length) (hO : O0.length = ts.length) : Pass6 ts K0 O0 K0 O0 [] false 0 0 :=
  ⟨h, hO, fun _ h => h, fun _ h _ => h, fun l hl => (by cases hl), fun j h => .inl h, fun _ => ⟨rfl, rfl, rfl, fun j h => absurd h (Nat.not_lt_zero j), fun j h => absurd h (Nat.not_lt_zero j)⟩, fun h => (by cases h), Nat.le_refl _⟩
theorem Pass6.sameK {ts : List Tm} {K0 O0 K1 O1 : List Bool} {tds : List (List UInt8)} {mr : Bool} {i io : Nat} (h : Pass6 ts K0 O0 K1 O1 tds mr i io) (hx : KT K1 i ∨ ∀ t, ts[i]? = some t → ¬ Rch (KT K1) t) : Pass6 ts K0 O0 K1 O1 tds mr (i + 1) io := by
  refine ⟨h.len, h.lenO, h.up, h.sound, h.tds_, h.opnd, fun e => ?_, h.yes, h.le⟩
  obtain ⟨rfl, rfl, e3, hn, ho⟩ := h.no e
  refine ⟨rfl, rfl, e3, fun j hj t ht hr => ?_, ho⟩
  by_cases e2 : j = i
  · subst e2
    rcases hx with hx | hx
    · exact hx
    · exact absurd hr (hx t ht)
  · exact hn j (by omega) t ht hr
theorem Pass6.setK {ts : List Tm} {K0 O0 K1 O1 : List Bool} {tds : List (List UInt8)} {mr : Bool} {i io : Nat} (h : Pass6 ts K0 O0 K1 O1 tds mr i io) (hi : K1[i]? = some false) {t : Tm} (ht : ts[i]? = some t) (hr : Rch (KT K1) t) : Pass6 ts K0 O0 (K1.set i true) O1 tds true (i + 1) io := by
  have hlt : i < K1.length := (List.getElem?_eq_some_iff.1 hi).1
  have hup : ∀ j, KT K1 j → KT (K1.set i true) j := fun j hj => (KT_set hlt j).2 (.inl hj)
  refine ⟨by rw [List.length_set]; exact h.len, h.lenO, fun j hj => hup j (h.up j hj), fun C hC hR j hj => ?_, fun l hl => ?_, h.opnd, fun e => (by cases e), fun _ => ?_, ?_⟩
  · rcases (KT_set hlt j).1 hj with k | rfl
    · exact h.sound C hC hR j k
    · exact hR _ t ht (hr.mono (h.sound C hC hR))
  · obtain ⟨j, u, h1, h2, h3, h4, h5⟩ := h.tds_ l hl
    exact ⟨j, u, h1, h2, hup _ h3, hup _ h4, h5⟩
  · rw [cnt_set K1 i hi]; have := h.le; omega
  · rw [cnt_set K1 i hi]; have := h.le; omega
theorem Pass6.sameO {ts : List Tm} {K0 O0 K1 O1 : List Bool} {tds : List (List UInt8)} {mr : Bool} {ik i : Nat} (h : Pass6 ts K0 O0 K1 O1 tds mr ik i) (hx : KT O1 i ∨ ∀ t, ts[i]? = some t → ¬ (t.kind = 6 ∧ KT K1 i ∧ KT K1 t.a.toNat)) : Pass6 ts K0 O0 K1 O1 tds mr ik (i + 1) := by
  refine ⟨h.len, h.lenO, h.up, h.sound, h.tds_, h.opnd, fun e => ?_, h.yes, h.le⟩
  obtain ⟨rfl, rfl, e3, hn, ho⟩ := h.no e
  refine ⟨rfl, rfl, e3, hn, fun j hj t ht h6 h7 h8 => ?_⟩
  by_cases e2 : j = i
  · subst e2
    rcases hx with hx | hx
    · exact hx
    · exact absurd ⟨h6, h7, h8⟩ (hx t ht)
  · exact ho j (by omega) t ht h6 h7 h8
theorem Pass6.setO {ts : List Tm} {K0 O0 K1 O1 : List Bool} {tds : List (List UInt8)} {mr : Bool} {ik i : Nat} (h : Pass6 ts K0 O0 K1 O1 tds mr ik i) (hi : O1[i]? = some false) {t : Tm} (ht : ts[i]? = some t) (h6 : t.kind = 6) (hk : KT K1 i) (ha : KT K1 t.a.toNat) : Pass6 ts K0 O0 K1 (O1.set i true) (tds ++ [byt t]) true ik (i + 1) := by
  have hlt : i < O1.length := (List.getElem?_eq_some_iff.1 hi).1
  refine ⟨h.len, by rw [List.length_set]; exact h.lenO, h.up, h.sound, fun l hl => ?_, fun j hj => ?_, fun e => (by cases e), fun _ => ?_, ?_⟩
  · rcases List.mem_append.1 hl with hl | hl
    · exact h.tds_ l hl
    · exact ⟨i, t, ht, h6, hk, ha, List.mem_singleton.1 hl⟩
  · rcases (KT_set hlt j).1 hj with k | rfl
    · rcases h.opnd j k with k | ⟨u, h1, h2⟩
      · exact .inl k
      · exact .inr ⟨u, h1, List.mem_append_left _ h2⟩
    · exact .inr ⟨t, ht, by simp⟩
  · rw [cnt_set O1 i hi]; have := h.le; omega
  · rw [cnt_set O1 i hi]; have := h.le; omega
/-- a step of what is known: K, O before, K', O' behind; ls: what is read in it, tds: what is to be read in the next one -/
structure StepR6 (ts : List Tm) (ls : List (List UInt8)) (K O : List Bool) (more : Bool) (K' O' : List Bool) (tds : List (List UInt8)) : Prop where
  len : K'.length = ts.length
  lenO : O'.length = ts.length
  up : ∀ j, KT K j → KT K' j
  seen : ∀ l ∈ ls, ∀ j, j < ts.length → HasN l j → KT K' j
  sound : ∀ C : Nat → Prop, (∀ j, KT K j → C j) → (∀ l ∈ ls, ∀ j, j < ts.length → HasN l j → C j) → (∀ j t, ts[j]? = some t → Rch C t → C j) → ∀ j, KT K' j → C j
  tds_ : ∀ l ∈ tds, ∃ (j : Nat) (t : Tm), ts[j]? = some t ∧ t.kind = 6 ∧ KT K' j ∧ KT K' t.a.toNat ∧ l = byt t
  opnd : ∀ j, KT O' j → KT O j ∨ ∃ t, ts[j]? = some t ∧ byt t ∈ tds
  no : more = false → tds = [] ∧ (∀ j t, ts[j]? = some t → Rch (KT K') t → KT K' j) ∧ (∀ j t, ts[j]? = some t → t.kind = 6 → KT K' j → KT K' t.a.toNat → KT O' j)
  yes : more = true → cnt K + cnt O < cnt K' + cnt O'
theorem StepR6.of {ts : List Tm} {ls tds : List (List UInt8)} {K O K0 K' O' : List Bool} {mr : Bool} (hle : cnt K ≤ cnt K0) (hR : ∀ j, KT K0 j ↔ KT K j ∨ (j < ts.length ∧ ∃ l ∈ ls, HasN l j)) (h : Pass6 ts K0 O K' O' tds mr ts.length ts.length) : StepR6 ts ls K O mr K' O' tds := by
  refine ⟨h.len, h.lenO, fun j hj => h.up j ((hR j).2 (.inl hj)), fun l hl j hj hn => h.up j ((hR j).2 (.inr ⟨hj, l, hl, hn⟩)), fun C h1 h2 h3 => h.sound C (fun j hj => ?_) h3, h.tds_, h.opnd, fun e => ?_, fun e => by have := h.yes e; omega⟩
  · rcases (hR j).1 hj with k | ⟨hj, l, hl, hn⟩
    · exact h1 j k
    · exact h2 l hl j hj hn
  · obtain ⟨rfl, rfl, e3, hn, ho⟩ := h.no e
    exact ⟨e3, fun j t ht hr => hn j (List.getElem?_eq_some_iff.1 ht).1 t ht hr, fun j t ht => ho j (List.getElem?_eq_some_iff.1 ht).1 t ht⟩
/-- what holds between the steps; ls: what is yet to be read -/
structure KnowI6 (ts : List Tm) (seen ls : List (List UInt8)) (K O : List Bool) : Prop where
  len : K.length = ts.length
  lenO : O.length = ts.length
  root : KT K 0
  sound : ∀ C, Clos6 ts seen C → ∀ j, KT K j → C j
  lsound : ∀ C, Clos6 ts seen C → ∀ l ∈ ls, ∀ j, j < ts.length → HasN l j → C j
  seen_ : ∀ l ∈ seen, l ∈ ls ∨ ∀ j, j < ts.length → HasN l j → KT K j
  opn : ∀ j, KT O j → ∃ t, ts[j]? = some t ∧ (byt t ∈ ls ∨ ∀ i, i < ts.length → HasN (byt t) i → KT K i)
theorem KnowI6.start {ts : List Tm} {seen : List (List UInt8)} (h : 0 < ts.length) : KnowI6 ts seen seen ((List.replicate ts.length false).set 0 true) (List.replicate ts.length false) := by
  have h0 : 0 < (List.replicate ts.length false).length := by simpa using h
  refine ⟨by simp, by simp, (KT_set h0 0).2 (.inr rfl), fun C hC j hj => ?_, fun C hC l hl => hC.seen l hl, fun l hl => .inl hl, fun j hj => absurd hj KT_rep⟩
  rcases (KT_set h0 j).1 hj with k | rfl
  · exact absurd k KT_rep
  · exact hC.root
theorem KnowI6.next {ts : List Tm} {seen ls tds : List (List UInt8)} {K O K' O' : List Bool} {mr : Bool} (h : KnowI6 ts seen ls K O) (k : StepR6 ts ls K O mr K' O' tds) : KnowI6 ts seen tds K' O' := by
  have hs : ∀ C, Clos6 ts seen C → ∀ j, KT K' j → C j := fun C hC => k.sound C (h.sound C hC) (h.lsound C hC) hC.reach
  refine ⟨k.len, k.lenO, k.up 0 h.root, hs, fun C hC l hl j hj hn => ?_, fun l hl => .inr fun j hj hn => ?_, fun j hj => ?_⟩
  · obtain ⟨i, t, h1, h2, h3, h4, rfl⟩ := k.tds_ l hl
    exact hC.opn i t h1 h2 (hs C hC _ h3) (hs C hC _ h4) j hj hn
  · rcases h.seen_ l hl with e | e
    · exact k.seen l e j hj hn
    · exact k.up j (e j hj hn)
  · rcases k.opnd j hj with e | ⟨t, h1, h2⟩
    · obtain ⟨t, h1, h2⟩ := h.opn j e
      refine ⟨t, h1, .inr fun i hi hn => ?_⟩
      rcases h2 with h2 | h2
      · exact k.seen _ h2 i hi hn
      · exact k.up i (h2 i hi hn)
    · exact ⟨t, h1, .inl h2⟩
theorem KnowI6.done {ts : List Tm} {seen ls tds : List (List UInt8)} {K O K' O' : List Bool} (h : KnowI6 ts seen ls K O) (k : StepR6 ts ls K O false K' O' tds) : Knows6 ts seen K' := by
  have h2 := h.next k
  obtain ⟨rfl, hr, ho⟩ := k.no rfl
  refine ⟨h2.len, ⟨h2.root, fun l hl j hj hn => ?_, hr, fun j t ht h6 h7 h8 i hi hn => ?_⟩, h2.sound⟩
  · rcases h2.seen_ l hl with e | e
    · cases e
    · exact e j hj hn
  · obtain ⟨u, h3, h4⟩ := h2.opn j (ho j t ht h6 h7 h8)
    rw [ht] at h3
    cases h3
    rcases h4 with e | e
    · cases e
    · exact e i hi hn
theorem cnt2_le {K O : List Bool} {n : Nat} (h : K.length = n) (hO : O.length = n) : cnt K + cnt O ≤ 2 * n := by
  have := cnt_le K; have := cnt_le O; omega
/-- what is to be read: nothing, or slices of bytes in a block of the call's own -/
def Todo (B e : Nat) (F : Nat → Prop) (w : World) (v : Value) (ls : List (List UInt8)) : Prop :=
  (v = .slice none 0 0 ∧ ls = []) ∨ ∃ (b cap : Nat) (l : List Value), v = .slice (some ⟨b, 0, none⟩) ls.length cap ∧ B ≤ b ∧ ¬ F b ∧ w.heap[b]? = some (.cells l.toArray e (0, 0)) ∧ l.length = cap * 1 ∧ ls.length ≤ cap ∧ BL (fun x => F x ∨ x = b) w (l.take ls.length) ls
theorem Todo.nil (B e : Nat) (F : Nat → Prop) (w : World) : Todo B e F w (.slice none 0 0) [] := .inl ⟨rfl, rfl⟩
theorem BL.go {F F' : Nat → Prop} {w w' : World} {xs : List Value} {ls : List (List UInt8)} (h : BL F w xs ls) (k : Mod F w w') (hF : ∀ x, F' x → F x ∨ w.heap.size ≤ x) : BL F' w' xs ls := by
  induction h with
  | nil => exact .nil
  | cons hb _ ih => exact .cons (hb.go k hF) ih
theorem BL.len {F : Nat → Prop} {w : World} {xs : List Value} {ls : List (List UInt8)} (h : BL F w xs ls) : xs.length = ls.length := by
  induction h with
  | nil => rfl
  | cons _ _ ih => simp [ih]
theorem Todo.go {B e : Nat} {F : Nat → Prop} {w w' : World} {v : Value} {ls : List (List UInt8)} (h : Todo B e F w v ls) (k : Mod F w w') : Todo B e F w' v ls := by
  rcases h with h | ⟨b, cap, l, rfl, h1, h2, hb, h3, h4, h5⟩
  · exact .inl h
  · exact .inr ⟨b, cap, l, rfl, h1, h2, k.heap_some hb h2, h3, h4, h5.go (k.mono fun x hx => .inl hx) (fun x hx => .inl hx)⟩
theorem Todo.slg {B e : Nat} {F : Nat → Prop} {w : World} {v : Value} {ls : List (List UInt8)} (h : Todo B e F w v ls) : SlG F w v ls := by
  rcases h with ⟨rfl, rfl⟩ | ⟨b, cap, l, rfl, h1, h2, hb, h3, h4, h5⟩
  · exact SlG.nil _ _
  · exact SlG.block hb h2 rfl h4 rfl (by omega) fun i x hx => by
      obtain ⟨y, h6, h7⟩ := h5.get i x hx
      exact ⟨y, h6, h7.go (Mod.refl _ _) fun z hz => .inl (.inl hz)⟩
section
variable {P : Program} {ops : Array Oper} {Q : Exit → Act → World → Prop} {rest : List Item} {a : Act} {w w0 : World} {n : Nat} {R : Rg} {ds : List Deferred} {S : Nat → Prop} {L K : Blocks}
variable {f : Bool} {d : Nat} {ty : TypeId} {pos : String} {af : Array Edge}
/-- a slice of bytes appended to what is to be read -/
theorem r_append_todo {B yb : Nat} {F : Nat → Prop} {t t2 e by' : Nat} {x y : Operand} {v y1 : Value} {u : List UInt8} {ls : List (List UInt8)} (hS : StD ds n R a) (hH : Hp w0 S L w) (hs : Sub K L) (hx : ev R x = some v) (hO : Todo B e F w v ls) (hy : ev R y = some (.slice (some ⟨yb, 0, none⟩) 1 1)) (hyb : In yb (.cells [y1].toArray e (0, 0)) L) (hu : ∀ b, B ≤ b → (∀ p ∈ L, p.1 ≠ b) → BsF (fun x => F x ∨ x = b) w y1 u)
    (hone : y1.oneCell' = true) (hLB : ∀ b, (∃ m cap, v = .slice (some ⟨b, 0, none⟩) m cap) → ∀ p ∈ L, p.1 ≠ b) (hFw : ∀ b, F b → b < w.heap.size) (hB : w0.heap.size ≤ B) (hBw : B ≤ w.heap.size)
    (he : elB P t = some (e, 1, by')) (h2 : notInt P t2 = true) (hbytes : (ls.length + 1) * by' ≤ 140737488355328) (hlt : Nat.blt d n = true)
    (kk : ∀ (a' : Act) (w' : World) (v' : Value), Todo B e F w' v' (ls ++ [u]) → (∀ p ∈ L, ∀ m cap, v' ≠ .slice (some ⟨p.1, 0, none⟩) m cap) → StD ds n (up R d v') a' → Hp w0 S L w' → Sq P ops Q rest a' w') :
    Sq P ops Q ((false, ⟨some d, .call ⟨.builtin .append, #[x, y], #[t, t2]⟩, ty, pos, af, none⟩, Kp w0 S K) :: rest) a w := by
  have hsrc : Src P 1 w (.slice (some ⟨yb, 0, none⟩) 1 1) 1 [y1] := by
    have h := Sl.of_block (es := 1) (m := 1) (cap := 1) (hH.get hyb) (by simp) (Nat.le_refl _)
    exact h.src (by intro z hz; simp at hz; subst hz; exact hone)
  rcases hO with ⟨rfl, rfl⟩ | ⟨b, cap, l, rfl, hBb, hFb, hb, hl, hm, hbl⟩
  · have hold : Sl 1 w (.slice none 0 0) [] 0 none 0 := ⟨rfl, by simp, Nat.le_refl _, fun i u h => by simp at h, fun _ => rfl⟩
    obtain ⟨c, zs, hr, hc, hlen⟩ := run_append_grow' (P := P) (ty := ty) he h2 hsrc hold (by omega) hbytes
    have hHd := (hH.drew).alloc (.cells ([] ++ [y1] ++ zs).toArray e (0, 0))
    have hnew : ∀ p ∈ L, p.1 ≠ w.heap.size := fun p hp e => by have := hH.lt p hp; omega
    refine Sq.done rfl (run_append_op hS hx hy hr) ((hHd.del .here).kp hs) (kk _ _ _ (.inr ⟨w.heap.size, c, _, rfl, hBw, fun h => by have := hFw _ h; omega, hHd.get .here, by simpa using hlen, by simpa using hc, ?_⟩) ?_ (hS.put hlt _) (hHd.del .here))
    · exact .cons ((hu _ hBw hnew).go (((Ext.drew w).trans (Ext.alloc w.drew _)).mono (fun _ h => h.elim)) (fun z hz => .inl hz)) .nil
    · intro p hp m cap e
      simp only [Value.slice.injEq, Option.some.injEq, Addr.mk.injEq] at e
      exact hnew p hp e.1.1.symm
  · have hne := hLB b ⟨_, _, rfl⟩
    obtain ⟨w', b', c, l2, hr, hmod, hb', hhb, hl2, hc, htk⟩ := run_append_blk (P := P) (ty := ty) he h2 hb hl hm hsrc hbytes
    have hH' : Hp w0 S L w' := ⟨fun p hp => hmod.heap_some (hH.blk p hp) (fun e => hne p hp e), hH.nd, hH.mod.trans hmod (fun c hc hcb => by subst hcb; omega)⟩
    have hbl' : BL (fun x => F x ∨ x = b) w' (l.take ls.length ++ [y1]) (ls ++ [u]) := (hbl.snoc (hu b hBb hne)).go (hmod.mono fun x hx => .inr hx) (fun x hx => .inl hx)
    have hw : w.heap.size ≤ w'.heap.size := hmod.size
    have hlt2 : b < w.heap.size := lt_of_block hb
    refine Sq.done rfl (run_append_op hS hx hy hr) (hH'.kp hs) (kk _ w' _ (.inr ⟨b', c, l2, by simp, ?_, ?_, hhb, hl2, by simpa using hc, ?_⟩) ?_ (hS.put hlt _) hH')
    · rcases hb' with rfl | h
      · exact hBb
      · omega
    · rcases hb' with rfl | h
      · exact hFb
      · intro h1; have := hFw _ h1; omega
    · rw [Nat.mul_one, Nat.mul_one] at htk
      rw [List.length_append, List.length_singleton, htk]
      refine hbl.snoc (hu b hBb hne) |>.go (hmod.mono fun x hx => .inr hx) (fun x hx => ?_)
      rcases hb' with rfl | h
      · exact .inl (by assumption)
      · rcases hx with hx | rfl
        · exact .inl (.inl hx)
        · exact .inr h
    · intro p hp m cap e
      simp only [Value.slice.injEq, Option.some.injEq, Addr.mk.injEq] at e
      rcases hb' with rfl | h
      · exact hne p hp e.1.1.symm
      · have := hH.lt p hp; omega
end
end Go.Sym

namespace Go.Sym
open Go
theorem BsF.of_blk {F : Nat → Prop} {w : World} {b cap : Nat} {l : List Value} {u : List UInt8} {T : TypeId} {fz : Nat × Nat} (hb : w.heap[b]? = some (.cells l.toArray T fz)) (hF : ¬ F b) (ht : l.take u.length = u.map byteV) (hc : u.length ≤ cap) : BsF F w (.slice (some ⟨b, 0, none⟩) u.length cap) u := fun w' k => by
  have h := k.heap_some hb hF
  have hl : u.length ≤ l.length := by
    have := congrArg List.length ht
    rw [List.length_take, List.length_map] at this; omega
  have := Sl.of_block (es := 1) (m := u.length) (cap := cap) h (by omega) hc
  rw [Nat.mul_one, ht] at this
  exact ⟨_, _, this⟩
theorem Hp.fresh {wB w : World} {S S' : Nat → Prop} {L : Blocks} (h : Hp wB S L w) : Hp w S' L w := ⟨h.blk, h.nd, Mod.refl _ _⟩
theorem Hp.rebase {wB w0 w : World} {S S' : Nat → Prop} {L0 L : Blocks} (h1 : Hp wB S L0 w0) (h2 : Hp w0 S' L w) (hS : ∀ x, S' x → S x ∨ wB.heap.size ≤ x) : Hp wB S L w := ⟨h2.blk, h2.nd, h1.mod.trans h2.mod (fun x hx hs => by rcases hS x hs with h | h; exact h; omega)⟩
theorem Todo.nilH {B e : Nat} {F : Nat → Prop} {w0 w : World} {S : Nat → Prop} {L : Blocks} (_ : Hp w0 S L w) : Todo B e F w (.slice none 0 0) [] := Todo.nil _ _ _ _
theorem Todo.blkH {B e : Nat} {F : Nat → Prop} {w0 w : World} {S : Nat → Prop} {L : Blocks} {b cap : Nat} {l : List Value} {ls : List (List UInt8)} (hH : Hp w0 S L w) (hi : In b (.cells l.toArray e (0, 0)) L) (h1 : B ≤ b) (h2 : ¬ F b) (h3 : l.length = cap * 1) (h4 : ls.length ≤ cap) (hS : S = fun x => F x ∨ x = b) (hb : BL (fun x => F x ∨ x = b) w0 (l.take ls.length) ls) : Todo B e F w (.slice (some ⟨b, 0, none⟩) ls.length cap) ls :=
  .inr ⟨b, cap, l, rfl, h1, h2, hH.get hi, h3, h4, hb.go (hS ▸ hH.mod) (fun x hx => .inl hx)⟩
theorem Hp.mod3 {w0 w w' : World} {S : Nat → Prop} {L La Lb L' : Blocks} {c1 c2 c3 : Nat} {o1 o2 o3 o1' o2' o3' : Obj} (h : Hp w0 S L w) (hM : Mod (fun x => x = c2 ∨ x = c1 ∨ x = c3) w w') (h1 : w'.heap[c1]? = some o1') (h2 : w'.heap[c2]? = some o2') (h3 : w'.heap[c3]? = some o3') (p1 : Put c1 o1 o1' L La) (p2 : Put c2 o2 o2' La Lb) (p3 : Put c3 o3 o3' Lb L')
    (hw1 : S c1 ∨ w0.heap.size ≤ c1) (hw2 : S c2 ∨ w0.heap.size ≤ c2) (hw3 : S c3 ∨ w0.heap.size ≤ c3) : Hp w0 S L' w' := by
  have na : (La.map Prod.fst).Nodup := by rw [p1.keys]; exact h.nd
  have nb : (Lb.map Prod.fst).Nodup := by rw [p2.keys]; exact na
  refine ⟨fun p hp => ?_, by rw [p3.keys]; exact nb, h.mod.trans hM (fun x hx e => by rcases e with rfl | rfl | rfl; rcases hw2 with k | k; exact k; omega; rcases hw1 with k | k; exact k; omega; rcases hw3 with k | k; exact k; omega)⟩
  rcases p3.mem nb p hp with rfl | ⟨m3, n3⟩
  · exact h3
  · rcases p2.mem na p m3 with rfl | ⟨m2, n2⟩
    · exact h2
    · rcases p1.mem h.nd p m2 with rfl | ⟨m1, n1⟩
      · exact h1
      · exact hM.heap_some (h.blk p m1) (fun e => by rcases e with e | e | e; exact n2 e; exact n1 e; exact n3 e)
section
variable {P : Program} {ops : Array Oper} {Q : Exit → Act → World → Prop} {rest : List Item} {a : Act} {w w0 : World} {n : Nat} {R : Rg} {ds : List Deferred} {S : Nat → Prop} {L K : Blocks}
variable {f : Bool} {d : Nat} {ty : TypeId} {pos : String} {af : Array Edge}
/-- a string's bytes, in a new row that is known -/
theorem r_strBytesK {s t e : TypeId} {x : Operand} {b0 : ByteArray} {u : TypeDesc} (hS : StD ds n R a) (hH : Hp w0 S L w) (hs : Sub K L) (hx : ev R x = some (.string b0)) (hsu : P.underlying s = some u) (ht : P.underlying t = some (.slice e)) (he : P.underlying e = some (.int .u8)) (hlt : Nat.blt d n = true)
    (k : ∀ (a' : Act) (w' : World) (b cap : Nat) (l : List Value) (fz : Nat × Nat), w0.heap.size ≤ b → w.heap.size ≤ b → l.take b0.data.toList.length = b0.data.toList.map byteV → b0.data.toList.length ≤ cap → StD ds n (up R d (.slice (some ⟨b, 0, none⟩) b0.data.toList.length cap)) a' → Hp w0 S ((b, .cells l.toArray e fz) :: L) w' → Sq P ops Q rest a' w') :
    Sq P ops Q ((false, ⟨some d, .convert s t x, ty, pos, af, none⟩, Kp w0 S K) :: rest) a w := by
  have hrun := Lib.run_convert_string_bytes (P := P) w s t e b0 hsu ht he
  have hE : Ext w (Lib.bytesWorld w e b0) := ⟨rfl, rfl, rfl, by rw [Lib.bytesWorld_size]; omega, fun c hc _ => Lib.bytesWorld_at_old w e b0 c hc⟩
  have hl : b0.data.toList.length = b0.size := rfl
  have hge : b0.size ≤ grownCap w b0.size 0 e := grownCap_ge w b0.size 0 e
  have hnew := Lib.bytesWorld_at_new w e b0
  have hH' : Hp w0 S ((w.heap.size, .cells (Lib.bytesCells w e b0).toList.toArray e ((Lib.bytesCells w e b0).size, (Lib.bytesCells w e b0).size + 1)) :: L) (Lib.bytesWorld w e b0) := (hH.ext hE).know hnew (fun p hp h9 => by have := hH.lt p hp; omega)
  have htake : (Lib.bytesCells w e b0).toList.take b0.data.toList.length = b0.data.toList.map byteV := by
    unfold Lib.bytesCells
    rw [Array.toList_append, Array.toList_map, List.take_left' (by simp)]
    rfl
  exact Sq.done (w' := Lib.bytesWorld w e b0) rfl (by simp [execOp, hS.val hx, hrun]) ((hH.ext hE).kp hs) (k _ _ w.heap.size (grownCap w b0.size 0 e) _ _ hH.mod.size (Nat.le_refl _) htake (by rw [hl]; exact hge) (hS.put hlt _) hH')
end
end Go.Sym
