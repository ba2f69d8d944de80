/- Rules of symbolic execution over any program of the model, that the claims of this folder use; part SymRef. Conditions: those that each rule names. -/
import Derived.Test.YtkhcbllphdhbdaaSymFork
namespace Go.Sym
open Go

/-! ### some blocks give way to others -/
inductive SwL (xs ys : Blocks) : Blocks → Blocks → Prop
  | here {M : Blocks} : SwL xs ys (xs ++ M) (ys ++ M)
  | there {x : Nat × Obj} {M M' : Blocks} : SwL xs ys M M' → SwL xs ys (x :: M) (x :: M')
theorem SwL.old {xs ys L L' : Blocks} (h : SwL xs ys L L') : ∀ p ∈ xs, p ∈ L := by
  induction h with
  | here => intro p hp; exact List.mem_append_left _ hp
  | there _ ih => intro p hp; exact List.mem_cons_of_mem _ (ih p hp)
theorem SwL.mem {xs ys L L' : Blocks} (h : SwL xs ys L L') (nd : (L.map Prod.fst).Nodup) : ∀ p ∈ L', p ∈ ys ∨ (p ∈ L ∧ p.1 ∉ xs.map Prod.fst) := by
  induction h with
  | @here M =>
    intro p hp
    rcases List.mem_append.1 hp with h | h
    · exact .inl h
    · refine .inr ⟨List.mem_append_right _ h, fun hm => ?_⟩
      rw [List.map_append] at nd
      exact (List.nodup_append.1 nd).2.2 _ hm _ (List.mem_map_of_mem h) rfl
  | @there x M M' h ih =>
    intro p hp
    simp only [List.map_cons, List.nodup_cons] at nd
    rcases List.mem_cons.1 hp with rfl | hp
    · refine .inr ⟨by simp, fun hm => ?_⟩
      obtain ⟨q, hq, e⟩ := List.mem_map.1 hm
      exact nd.1 (List.mem_map.2 ⟨q, h.old q hq, e⟩)
    · rcases ih nd.2 p hp with h1 | ⟨h1, h2⟩
      · exact .inl h1
      · exact .inr ⟨List.mem_cons_of_mem _ h1, h2⟩
theorem SwL.nodup {xs ys L L' : Blocks} (h : SwL xs ys L L') (nd : (L.map Prod.fst).Nodup) (hy : (ys.map Prod.fst).Nodup) (hc : ∀ p ∈ L, p.1 ∉ xs.map Prod.fst → p.1 ∉ ys.map Prod.fst) : (L'.map Prod.fst).Nodup := by
  induction h with
  | @here M =>
    rw [List.map_append] at nd ⊢
    obtain ⟨n1, n2, n3⟩ := List.nodup_append.1 nd
    refine List.nodup_append.2 ⟨hy, n2, fun a ha b hb e => ?_⟩
    subst e
    obtain ⟨p, hp, e⟩ := List.mem_map.1 hb
    subst e
    exact hc p (List.mem_append_right _ hp) (fun hm => n3 _ hm _ hb rfl) ha
  | @there x M M' h ih =>
    simp only [List.map_cons, List.nodup_cons] at nd ⊢
    refine ⟨fun hm => ?_, ih nd.2 (fun p hp => hc p (by simp [hp]))⟩
    obtain ⟨p, hp, e⟩ := List.mem_map.1 hm
    rcases h.mem nd.2 p hp with h1 | ⟨h1, _⟩
    · exact hc x (by simp) (fun hm2 => by
        obtain ⟨q, hq, e2⟩ := List.mem_map.1 hm2
        exact nd.1 (List.mem_map.2 ⟨q, h.old q hq, e2⟩)) (List.mem_map.2 ⟨p, h1, e⟩)
    · exact nd.1 (List.mem_map.2 ⟨p, h1, e⟩)
theorem Hp.swap {w0 w w' : World} {S F F' : Nat → Prop} {xs ys L L' : Blocks} (h : Hp w0 S L w) (hx : ∀ x, F x ↔ x ∈ xs.map Prod.fst) (hyF : ∀ y ∈ ys.map Prod.fst, F' y) (hVS : ∀ x, F x → S x ∨ w0.heap.size ≤ x) (hF : ∀ y, F' y → F y ∨ w.heap.size ≤ y) (hM : Mod F w w') (hy : ∀ q ∈ ys, w'.heap[q.1]? = some q.2) (nd : (ys.map Prod.fst).Nodup) (p : SwL xs ys L L') : Hp w0 S L' w' := by
  refine ⟨fun q hq => ?_, p.nodup h.nd nd ?_, h.mod.trans hM (fun c hc hx => by
    rcases hVS c hx with e | e
    · exact e
    · omega)⟩
  · rcases p.mem h.nd q hq with h1 | ⟨h1, h2⟩
    · exact hy q h1
    · exact hM.heap_some (h.blk q h1) (fun k => h2 ((hx _).1 k))
  · intro q hq hne hm
    rcases hF q.1 (hyF _ hm) with k | k
    · exact hne ((hx _).1 k)
    · have := lt_of_block (h.blk q hq); omega

/-! ### structs of integers and strings -/
/-- a cell is as told: a string or an integer -/
def cellOk (b : Bool) (v : Value) : Prop := bif b then ∃ s : ByteArray, v = .string s ∧ s.size ≤ 9223372036854775807 else ∃ x : Int, v = .int .i64 x ∧ fits x
def rowOk : List Bool → List Value → Prop
  | [], [] => True
  | b :: bs, v :: vs => cellOk b v ∧ rowOk bs vs
  | _, _ => False
def flFields (P : Program) : Nat → List Field → List Bool → Bool
  | _, [], [] => true
  | i, f :: fs, b :: bs => tmFld P f i b && flFields P (i + 1) fs bs
  | _, _, _ => false
def flB (P : Program) (t : TypeId) (bs : List Bool) : Bool := match P.underlying t with
  | some (.struct fs) => flFields P 0 fs.toList bs
  | _ => false
structure FlTy (P : Program) (t : TypeId) (bs : List Bool) : Prop where
  row : flB P t bs = true
  cells : P.cellsOf t = bs.length
  key : P.keyType t = true
  law : WideMaps.KeyLaw P t
  types : 1 ≤ P.types.size
  key2 : P.keyTypeAt 2 t = true
  guard : P.eqGuardType P.depth t = false
theorem flTy_mk {P : Program} {t : TypeId} {bs : List Bool} (hl : laidOutB P = true) (hrow : t < P.types.size) (h : flB P t bs = true) (hc : Nat.beq (P.cellsOf t) bs.length = true) (hk : P.keyType t = true) (hk2 : P.keyTypeAt 2 t = true) (hg : P.eqGuardType P.depth t = false) : FlTy P t bs := by
  refine ⟨h, Nat.eq_of_beq_eq_true hc, hk, ?_, Nat.lt_of_le_of_lt (Nat.zero_le _) hrow, hk2, hg⟩
  unfold flB at h
  split at h
  · rename_i fs hu
    exact deep_law_laid hl (m := 2) (by omega) hrow hk2 (by rw [hu])
  · cases h
theorem rowOk_len : ∀ {bs : List Bool} {vs : List Value}, rowOk bs vs → vs.length = bs.length
  | [], [], _ => rfl
  | _ :: bs, _ :: vs, h => by simp [rowOk_len h.2]
  | [], _ :: _, h => h.elim
  | _ :: _, [], h => h.elim
theorem lits_row {P : Program} {d : Nat} : ∀ (i : Nat) (fs : List Field) (bs : List Bool) (pre vs : List Value), flFields P i fs bs = true → rowOk bs vs → pre.length = i →
    (∃ ls, (fs.mapM fun f => P.keyLits (d + 1) f.type (((pre ++ vs).drop f.offset).take (P.cellsOf f.type))) = some ls) ∧ fs.all (·.name != "_") = true
  | _, [], [], _, vs, _, _, _ => ⟨⟨[], rfl⟩, rfl⟩
  | i, f :: fs, b :: bs, pre, v :: vs, hf, hr, hp => by
    simp only [flFields, Bool.and_eq_true] at hf
    obtain ⟨⟨ls, ih⟩, ihn⟩ := lits_row (P := P) (d := d) (i + 1) fs bs (pre ++ [v]) vs hf.2 hr.2 (by simp [hp])
    simp only [List.append_assoc, List.singleton_append] at ih
    have hd : ((pre ++ v :: vs).drop i) = v :: vs := by rw [← hp, List.drop_left]
    cases b with
    | false =>
      obtain ⟨o, c, k, n⟩ := tmFld_int hf.1
      obtain ⟨x, rfl, hx⟩ := hr.1
      refine ⟨⟨[.int .i64 x] :: ls, ?_⟩, by simp [n, ihn] <;> simp_all⟩
      simp only [List.mapM_cons, o, c, hd, List.take_succ_cons, List.take_zero, lits_int k hx, ih]
      rfl
    | true =>
      obtain ⟨o, c, k, n⟩ := tmFld_str hf.1
      obtain ⟨x, rfl, hx⟩ := hr.1
      refine ⟨⟨[.string x.data.toList] :: ls, ?_⟩, by simp [n, ihn] <;> simp_all⟩
      simp only [List.mapM_cons, o, c, hd, List.take_succ_cons, List.take_zero, lits_str k hx, ih]
      rfl
  | _, [], _ :: _, _, _, hf, _, _ => by simp [flFields] at hf
  | _, _ :: _, [], _, _, hf, _, _ => by simp [flFields] at hf
  | _, _ :: _, _ :: _, _, [], _, hr, _ => hr.elim
theorem FlTy.keyOf {P : Program} {t : TypeId} {bs : List Bool} (T : FlTy P t bs) {vs : List Value} (hv : rowOk bs vs) : ∃ l, keyOf P t (.agg vs.toArray) = some l := by
  have h := T.row
  unfold flB at h
  split at h
  · rename_i fs hund
    obtain ⟨⟨ls, e⟩, hn⟩ := lits_row (P := P) (d := P.types.size - 1) 0 fs.toList bs [] vs h hv rfl
    have hts : P.types.size - 1 + 1 = P.types.size := by have := T.types; omega
    rw [hts] at e
    have hall : fs.all (·.name != "_") = true := by
      rw [← hn]; simp
    unfold Go.keyOf
    rw [hund]
    simp only [T.key, Value.formed, hund, T.cells, Value.cells, Bool.true_and]
    rw [if_pos (by simp [rowOk_len hv])]
    simp only [Program.keyLits, hund]
    rw [if_pos ⟨by rw [T.cells]; exact rowOk_len hv, hall⟩]
    simp only [List.nil_append] at e
    exact ⟨_, by rw [e]; rfl⟩
  · cases h
theorem FlTy.eq {P : Program} {t : TypeId} {bs : List Bool} (T : FlTy P t bs) {us vs : List Value} (hu : rowOk bs us) (hv : rowOk bs vs) (w : World) : ∃ r : Bool, (Op.equal t (.agg us.toArray) (.agg vs.toArray)).run P w = .ok r w ∧ (r = true ↔ us = vs) := by
  obtain ⟨lu, ku⟩ := T.keyOf hu
  obtain ⟨lv, kv⟩ := T.keyOf hv
  have hw : (match P.underlying t with | some (.array _ _) | some (.struct _) => true | _ => false) = true := by
    have h := T.row
    unfold flB at h
    split at h
    · rename_i fs hund; rw [hund]
    · cases h
  obtain ⟨r, hr, hiff⟩ := run_equal_deep (P := P) w (m := 2) (by omega) T.key2 hw ku kv
  refine ⟨r, hr, hiff.trans ⟨fun e => ?_, fun e => ?_⟩⟩
  · subst e
    have := T.law.inj ku kv
    simp only [Value.agg.injEq] at this
    simpa using this
  · subst e; rw [ku] at kv; exact Option.some.inj kv
end Go.Sym
namespace Go.Sym
open Go
section
variable {P : Program} {ops : Array Oper} {Q : Exit → Act → World → Prop} {rest : List Item} {a : Act} {w w0 : World} {n : Nat} {R : Rg} {ds : List Deferred} {S : Nat → Prop} {L K : Blocks}
variable {f : Bool} {d : Nat} {ty : TypeId} {pos : String} {af : Array Edge}
theorem FlTy.eq' {t : TypeId} {bs : List Bool} (T : FlTy P t bs) {us vs : List Value} (hu : rowOk bs us) (hv : rowOk bs vs) : ∃ r : Bool, (r = true ↔ us = vs) ∧ ∀ w, (Op.equal t (.agg us.toArray) (.agg vs.toArray)).run P w = .ok r w := by
  classical
  refine ⟨decide (us = vs), by simp, fun w => ?_⟩
  obtain ⟨r, h1, h2⟩ := T.eq hu hv w
  rw [h1]
  congr 1
  rw [Bool.eq_iff_iff, h2]; simp
theorem r_flEql {t yt : TypeId} {x y : Operand} {bs : List Bool} {us vs : List Value} (T : FlTy P t bs) (hS : StD ds n R a) (hSw : Sf f (Kp w0 S K) w) (hx : ev R x = some (.agg us.toArray)) (hy : ev R y = some (.agg vs.toArray)) (hu : rowOk bs us) (hv : rowOk bs vs) (hlt : Nat.blt d n = true)
    (k : ∀ a' (r : Bool), (r = true ↔ us = vs) → StD ds n (up R d (.bool r)) a' → Sq P ops Q rest a' w) : Sq P ops Q ((f, ⟨some d, .binOp .eql t x y yt, ty, pos, af, none⟩, Kp w0 S K) :: rest) a w := by
  obtain ⟨r, h1, h2⟩ := T.eq' hu hv
  exact r_cmp hS hSw hx hy hlt (fun w => by simp [eqGuard, T.guard]) (fun w => run_binEq (h2 w)) (fun a' h => k a' r h1 h)
theorem r_flNeq {t yt : TypeId} {x y : Operand} {bs : List Bool} {us vs : List Value} (T : FlTy P t bs) (hS : StD ds n R a) (hSw : Sf f (Kp w0 S K) w) (hx : ev R x = some (.agg us.toArray)) (hy : ev R y = some (.agg vs.toArray)) (hu : rowOk bs us) (hv : rowOk bs vs) (hlt : Nat.blt d n = true)
    (k : ∀ a' (r : Bool), (r = true ↔ us ≠ vs) → StD ds n (up R d (.bool r)) a' → Sq P ops Q rest a' w) : Sq P ops Q ((f, ⟨some d, .binOp .neq t x y yt, ty, pos, af, none⟩, Kp w0 S K) :: rest) a w := by
  obtain ⟨r, h1, h2⟩ := T.eq' hu hv
  exact r_cmp hS hSw hx hy hlt (fun w => by simp [eqGuard, T.guard]) (fun w => run_binNe (h2 w)) (fun a' h => k a' (!r) (by cases r <;> simp_all) h)
end

/-! ### the document's vault: one row of terms -/
def rcells (t : Tm) : List Value := [.int .i64 t.kind, .int .i64 t.a, .int .i64 t.b, .string t.label, .int .i64 t.number, .string t.also, .string t.bytes]
def rv (t : Tm) : Value := .agg (rcells t).toArray
def rbs : List Bool := [false, false, false, true, false, true, true]
theorem rcells_ok {t : Tm} (h : t.ok) : rowOk rbs (rcells t) :=
  ⟨⟨_, rfl, h.kind⟩, ⟨_, rfl, h.a⟩, ⟨_, rfl, h.b⟩, ⟨_, rfl, h.label⟩, ⟨_, rfl, h.number⟩, ⟨_, rfl, h.also⟩, ⟨_, rfl, h.bytes⟩, trivial⟩
theorem rcells_inj {t u : Tm} (h : rcells t = rcells u) : t = u := by
  obtain ⟨_, _, _, _, _, _, _⟩ := t
  obtain ⟨_, _, _, _, _, _, _⟩ := u
  simp only [rcells, List.cons.injEq, Value.int.injEq, Value.string.injEq, true_and, and_true] at h
  simp only [Tm.mk.injEq]
  obtain ⟨h1, h2, h3, h4, h5, h6, h7⟩ := h
  exact ⟨h1, h2, h3, h5, h4, h6, h7⟩
theorem rcells_one (t : Tm) : ∀ u ∈ rcells t, u.oneCell' = true := by
  intro u hu
  simp only [rcells, List.mem_cons, List.not_mem_nil, or_false] at hu
  rcases hu with rfl | rfl | rfl | rfl | rfl | rfl | rfl <;> rfl
theorem rflat_len (ts : List Tm) : (ts.flatMap rcells).length = ts.length * 7 := by
  induction ts with
  | nil => rfl
  | cons t r ih => simp only [List.flatMap_cons, List.length_append, ih, List.length_cons]; rw [show (rcells t).length = 7 from rfl]; omega
theorem rd7 : ∀ (ts : List Tm) (i : Nat) (t : Tm) (rest : List Value), ts[i]? = some t → rd (ts.flatMap rcells ++ rest) (i * 7) 7 = rcells t
  | [], i, t, _, e => by simp at e
  | u :: r, 0, t, rest, e => by
    simp only [List.length_cons, Nat.zero_lt_succ, List.getElem?_eq_getElem, List.getElem_cons_zero, Option.some.injEq] at e
    subst e
    simp only [rd, Nat.zero_mul, List.drop_zero, List.flatMap_cons, List.append_assoc]
    exact List.take_left' rfl
  | u :: r, i + 1, t, rest, e => by
    have ih := rd7 r i t rest (by simpa using e)
    rw [← ih]
    simp only [rd, List.flatMap_cons, List.append_assoc]
    rw [show (i + 1) * 7 = (rcells u).length + i * 7 by rw [show (rcells u).length = 7 from rfl]; omega, List.drop_length_add_append]
structure RB where
  sb : Nat
  cap : Nat
  l : List Value
def RB.F (b : Nat) (V : RB) : Nat → Prop := fun x => x = b ∨ x = V.sb
def RB.top (V : RB) (m : Nat) : List Value := [.slice (some ⟨V.sb, 0, none⟩) m V.cap]
structure ROk (V : RB) (ts : List Tm) : Prop where
  len : V.l.length = V.cap * 7
  cap : ts.length ≤ V.cap
  take : V.l.take (ts.length * 7) = ts.flatMap rcells
  rng : ∀ t ∈ ts, t.ok
theorem ROk.row {V : RB} {ts : List Tm} (h : ROk V ts) {i : Nat} {t : Tm} (hi : ts[i]? = some t) : rd V.l (i * 7) 7 = rcells t ∧ i * 7 + 7 ≤ V.l.length := by
  have hlt := (List.getElem?_eq_some_iff.1 hi).1
  have e : V.l = ts.flatMap rcells ++ V.l.drop (ts.length * 7) := by rw [← h.take, List.take_append_drop]
  exact ⟨by rw [e]; exact rd7 ts i t _ hi, by have := h.len; have := h.cap; omega⟩
theorem ROk.push {V V' : RB} {ts : List Tm} {t : Tm} (h : ROk V ts) (ht : t.ok) (hl : V'.l.length = V'.cap * 7) (hc : ts.length + 1 ≤ V'.cap) (htk : V'.l.take ((ts.length + 1) * 7) = V.l.take (ts.length * 7) ++ rcells t) : ROk V' (ts ++ [t]) where
  len := hl
  cap := by simpa using hc
  take := by
    rw [List.length_append, List.length_singleton, htk, h.take]
    simp
  rng := fun u hu => by
    rcases List.mem_append.1 hu with hu | hu
    · exact h.rng u hu
    · rw [List.mem_singleton.1 hu]; exact ht
structure RIn (TV TT : Nat) (w : World) (b : Nat) (V : RB) (ts : List Tm) : Prop where
  ok : ROk V ts
  h0 : w.heap[b]? = some (.cells (V.top ts.length).toArray TV (0, 0))
  h1 : w.heap[V.sb]? = some (.cells V.l.toArray TT (0, 0))
  n01 : b ≠ V.sb
structure RStep (w w' : World) (b : Nat) (V V' : RB) : Prop where
  F : ∀ x, V'.F b x → V.F b x ∨ w.heap.size ≤ x
  mod : Mod (V.F b) w w'
theorem RStep.of_ext {w w' : World} (b : Nat) (V : RB) (h : Ext w w') : RStep w w' b V V := ⟨fun _ h => .inl h, h.mono (fun _ h => h.elim)⟩
def RS (S : Nat → Prop) (w0 : World) (b : Nat) (V : RB) : Prop := ∀ x, V.F b x → S x ∨ w0.heap.size ≤ x
theorem RS.start (w0 : World) (b : Nat) (V : RB) : RS (V.F b) w0 b V := fun _ h => .inl h
theorem RS.step {S : Nat → Prop} {w0 w w' : World} {b : Nat} {V V' : RB} (h : RS S w0 b V) (k : RStep w w' b V V') (hs : w0.heap.size ≤ w.heap.size) : RS S w0 b V' := fun x hx => by
  rcases k.F x hx with e | e
  · exact h x e
  · exact .inr (Nat.le_trans hs e)
section
variable {TV TT : Nat} {w w' w0 : World} {b : Nat} {V V' : RB} {ts ts' : List Tm} {S : Nat → Prop} {L L' : Blocks}
theorem RIn.ext (h : RIn TV TT w b V ts) (k : Ext w w') : RIn TV TT w' b V ts := ⟨h.ok, k.heap_some h.h0, k.heap_some h.h1, h.n01⟩
theorem Hp.rvault (h : Hp w0 S L w) (hRS : RS S w0 b V) (hst : RStep w w' b V V') (hin : RIn TV TT w' b V' ts')
    (p : SwL [(b, .cells (V.top ts.length).toArray TV (0, 0)), (V.sb, .cells V.l.toArray TT (0, 0))] [(b, .cells (V'.top ts'.length).toArray TV (0, 0)), (V'.sb, .cells V'.l.toArray TT (0, 0))] L L') : Hp w0 S L' w' := by
  refine h.swap (F := V.F b) (F' := V'.F b) (fun x => by simp [RB.F]) (fun y hy => by simpa [RB.F] using hy) hRS hst.F hst.mod (fun q hq => ?_) (by simp [hin.n01]) p
  simp only [List.mem_cons, List.not_mem_nil, or_false] at hq
  rcases hq with rfl | rfl
  · exact hin.h0
  · exact hin.h1
theorem Hp.rin {m : Nat} (h : Hp w0 S L w) (hin : ROk V ts) (hm : m = ts.length) (n01 : b ≠ V.sb) (k0 : In b (.cells (V.top m).toArray TV (0, 0)) L) (k1 : In V.sb (.cells V.l.toArray TT (0, 0)) L) : RIn TV TT w b V ts := by
  subst hm
  exact ⟨hin, h.get k0, h.get k1, n01⟩
theorem Hp.knowR (h : Hp w0 S L w) (hin : RIn TV TT w b V ts) (hd : ∀ p ∈ L, ¬ V.F b p.1) : Hp w0 S ((b, .cells (V.top ts.length).toArray TV (0, 0)) :: (V.sb, .cells V.l.toArray TT (0, 0)) :: L) w := by
  refine (h.know hin.h1 (fun p hp e => hd p hp (.inr e))).know hin.h0 (fun p hp => ?_)
  rcases List.mem_cons.1 hp with rfl | hp
  · exact Ne.symm hin.n01
  · exact fun e => hd p hp (.inl e)
theorem RIn.lt (h : RIn TV TT w b V ts) : ∀ x, V.F b x → x < w.heap.size := by
  intro x hx
  rcases hx with rfl | rfl
  · exact lt_of_block h.h0
  · exact lt_of_block h.h1
theorem RIn.notF {c : Nat} {l : Array Value} {T : TypeId} {fz : Nat × Nat} (h : RIn TV TT w b V ts) (hb : w.heap[c]? = some (.cells l T fz)) (h1 : T ≠ TV) (h2 : T ≠ TT) : ¬ V.F b c := by
  intro hF
  rcases hF with rfl | rfl
  · have := h.h0; rw [hb] at this; cases this; exact h1 rfl
  · have := h.h1; rw [hb] at this; cases this; exact h2 rfl
theorem Src.rterms {P : Program} {t : Tm} {T : TypeId} (hb : w.heap[b]? = some (.cells (rcells t).toArray T (0, 0))) : Src P 7 w (.slice (some ⟨b, 0, none⟩) 1 1) 1 (rcells t) := by
  have h := Sl.of_block (es := 7) (m := 1) (cap := 1) hb (by simp [rcells]) (Nat.le_refl _)
  rw [List.take_of_length_le (by simp [rcells])] at h
  exact h.src (rcells_one t)
end
end Go.Sym
namespace Go.Sym
open Go
section
variable {P : Program} {ops : Array Oper} {Q : Exit → Act → World → Prop} {rest : List Item} {a : Act} {w : World} {n : Nat} {R : Rg} {ds : List Deferred} {S : World → Prop}
variable {f : Bool} {d : Nat} {ty : TypeId} {pos : String} {af : Array Edge}
theorem r_subE {t yt : TypeId} {x y : Operand} {m m' : Int} (r : Int) (hS : StD ds n R a) (hSw : Sf f S w) (hx : ev R x = some (.int .i64 m)) (hy : ev R y = some (.int .i64 m')) (hlt : Nat.blt d n = true) (he : m - m' = r)
    (hr : -9223372036854775808 ≤ r ∧ r < 9223372036854775808) (K : ∀ a', StD ds n (up R d (.int .i64 r)) a' → Sq P ops Q rest a' w) : Sq P ops Q ((f, ⟨some d, .binOp .sub t x y yt, ty, pos, af, none⟩, S) :: rest) a w := by
  subst he
  exact r_sub hS hSw hx hy hlt hr K
theorem r_addE {t yt : TypeId} {x y : Operand} {m m' : Int} (r : Int) (hS : StD ds n R a) (hSw : Sf f S w) (hx : ev R x = some (.int .i64 m)) (hy : ev R y = some (.int .i64 m')) (hlt : Nat.blt d n = true) (he : m + m' = r)
    (hr : -9223372036854775808 ≤ r ∧ r < 9223372036854775808) (K : ∀ a', StD ds n (up R d (.int .i64 r)) a' → Sq P ops Q rest a' w) : Sq P ops Q ((f, ⟨some d, .binOp .add t x y yt, ty, pos, af, none⟩, S) :: rest) a w := by
  subst he
  exact r_add hS hSw hx hy hlt hr K
end
end Go.Sym
