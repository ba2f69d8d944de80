/- Rules of symbolic execution over any program of the model, that the claims of this folder use; part SymVault. Conditions: those that each rule names. -/
import Derived.Test.YtkhcbllphdhbdaaSymMix
namespace Go.Sym
open Go

section
variable {P : Program} {ops : Array Oper} {Q : Exit → Act → World → Prop} {rest : List Item} {a : Act} {w w0 : World} {n : Nat} {R : Rg} {ds : List Deferred} {S : Nat → Prop} {L K : Blocks}
variable {f : Bool} {d : Nat} {ty : TypeId} {pos : String} {af : Array Edge}
/-- append to nothing -/
theorem r_append_nil {t t2 e es by' k : Nat} {x y : Operand} {vy : Value} {new : List Value} (hS : StD ds n R a) (hH : Hp w0 S L w) (hs : Sub K L) (hx : ev R x = some (.slice none 0 0)) (hy : ev R y = some vy)
    (he : elB P t = some (e, es, by')) (h2 : notInt P t2 = true) (hsrc : Src P es w vy k new) (hk : 0 < k) (hbytes : k * by' ≤ 140737488355328) (hlt : Nat.blt d n = true)
    (kk : ∀ (a' : Act) (w' : World) (b' c : Nat) (l2 : List Value), w0.heap.size ≤ b' → w.heap.size ≤ b' → l2.length = c * es → k ≤ c → l2.take (k * es) = new → Ext w w' → StD ds n (up R d (.slice (some ⟨b', 0, none⟩) k c)) a' → Hp w0 S ((b', .cells l2.toArray e (0, 0)) :: L) w' → Sq P ops Q rest a' w') :
    Sq P ops Q ((false, ⟨some d, .call ⟨.builtin .append, #[x, y], #[t, t2]⟩, ty, pos, af, none⟩, Kp w0 S K) :: rest) a w := by
  have hold : Sl es w (.slice none 0 0) [] 0 none 0 := ⟨rfl, by simp, Nat.le_refl _, fun i u h => by simp at h, fun _ => rfl⟩
  obtain ⟨c, zs, hr, hc, hlen⟩ := run_append_grow' (P := P) (ty := ty) he h2 hsrc hold (by omega) (by simpa using hbytes)
  have hHd := (hH.drew).alloc (.cells ([] ++ new ++ zs).toArray e (0, 0))
  rw [Nat.zero_add] at hr hc
  refine Sq.done rfl (run_append_op hS hx hy hr) ⟨fun p hp => hHd.blk p (List.mem_cons_of_mem _ (hs.mem p hp)), hHd.mod⟩ (kk _ _ w.heap.size c _ hH.mod.size (Nat.le_refl _) hlen hc ?_ ((Ext.drew w).trans (Ext.alloc w.drew _)) (hS.put hlt _) hHd)
  have : ([] ++ new : List Value).length = k * es := by simp [hsrc.size]
  rw [← this, List.take_left]; simp
end

/-! ### terms -/
structure Tm where
  kind : Int
  a : Int
  b : Int
  number : Int
  label : ByteArray
  also : ByteArray
  bytes : ByteArray
def Tm.cells (t : Tm) : List Value := [.int .i64 t.kind, .int .i64 t.a, .int .i64 t.b, .int .i64 t.number, .string t.label, .string t.also, .string t.bytes]
def tv (t : Tm) : Value := .agg t.cells.toArray
def hnd (h : List UInt8) : Value := .agg (hcells h).toArray
def fits (x : Int) : Prop := -9223372036854775808 ≤ x ∧ x < 9223372036854775808
structure Tm.ok (t : Tm) : Prop where
  kind : fits t.kind
  a : fits t.a
  b : fits t.b
  number : fits t.number
  label : t.label.size ≤ 9223372036854775807
  also : t.also.size ≤ 9223372036854775807
  bytes : t.bytes.size ≤ 9223372036854775807
theorem Tm.cells_len (t : Tm) : t.cells.length = 7 := rfl
theorem Tm.cells_inj {t u : Tm} (h : t.cells = u.cells) : t = u := by
  obtain ⟨_, _, _, _, _, _, _⟩ := t
  obtain ⟨_, _, _, _, _, _, _⟩ := u
  simp only [Tm.cells, List.cons.injEq, Value.int.injEq, Value.string.injEq, true_and, and_true] at h
  simp only [Tm.mk.injEq]
  exact h
theorem tv_inj {t u : Tm} (h : tv t = tv u) : t = u := by
  simp only [tv, Value.agg.injEq] at h
  exact Tm.cells_inj (by simpa using h)
theorem hnd_inj {g h : List UInt8} (e : hnd g = hnd h) : g = h := by
  simp only [hnd, Value.agg.injEq] at e
  exact hcells_inj (by simpa using e)
def tmFld (P : Program) (f : Field) (i : Nat) (str : Bool) : Bool := Nat.beq f.offset i && Nat.beq (P.cellsOf f.type) 1 && (bif str then isStr P f.type else isI64 P f.type) && f.name != "_"
def tmB (P : Program) (t : TypeId) : Bool := match P.underlying t with
  | some (.struct fs) => match fs.toList with
    | [f0, f1, f2, f3, f4, f5, f6] => tmFld P f0 0 false && tmFld P f1 1 false && tmFld P f2 2 false && tmFld P f3 3 false && tmFld P f4 4 true && tmFld P f5 5 true && tmFld P f6 6 true
    | _ => false
  | _ => false
theorem tmFld_int {P : Program} {f : Field} {i : Nat} (h : tmFld P f i false = true) : f.offset = i ∧ P.cellsOf f.type = 1 ∧ P.underlying f.type = some (.int .i64) ∧ (f.name != "_") = true := by
  simp only [tmFld, Bool.and_eq_true, cond_false] at h
  refine ⟨Nat.eq_of_beq_eq_true h.1.1.1, Nat.eq_of_beq_eq_true h.1.1.2, ?_, h.2⟩
  have := h.1.2
  unfold isI64 at this
  split at this
  · assumption
  · cases this
theorem tmFld_str {P : Program} {f : Field} {i : Nat} (h : tmFld P f i true = true) : f.offset = i ∧ P.cellsOf f.type = 1 ∧ P.underlying f.type = some .string ∧ (f.name != "_") = true := by
  simp only [tmFld, Bool.and_eq_true, cond_true] at h
  refine ⟨Nat.eq_of_beq_eq_true h.1.1.1, Nat.eq_of_beq_eq_true h.1.1.2, ?_, h.2⟩
  have := h.1.2
  unfold isStr at this
  split at this
  · assumption
  · cases this
theorem lits_int {P : Program} {t : TypeId} (h : P.underlying t = some (.int .i64)) {x : Int} (hx : fits x) (dd : Nat) : P.keyLits (dd + 1) t [.int .i64 x] = some [.int .i64 x] := by
  have : (Lit.int .i64 x).wf = true := by
    unfold fits at hx
    simp [Lit.wf, IntKind.min, IntKind.max, IntKind.signed, IntKind.bits]; omega
  simp [Program.keyLits, h, this]
theorem lits_str {P : Program} {t : TypeId} (h : P.underlying t = some .string) {s : ByteArray} (hs : s.size ≤ 9223372036854775807) (dd : Nat) : P.keyLits (dd + 1) t [.string s] = some [.string s.data.toList] := by
  simp [Program.keyLits, h, maxLen, hs]
/-- a type of terms as keys -/
structure TmTy (P : Program) (t : TypeId) : Prop where
  row : tmB P t = true
  cells : P.cellsOf t = 7
  key : P.keyType t = true
  law : WideMaps.KeyLaw P t
  types : 1 ≤ P.types.size
  key2 : P.keyTypeAt 2 t = true
  guard : P.eqGuardType P.depth t = false
theorem tmTy_mk {P : Program} {t : TypeId} (hl : laidOutB P = true) (hrow : t < P.types.size) (h : tmB P t = true) (hc : Nat.beq (P.cellsOf t) 7 = true) (hk : P.keyType t = true) (hk2 : P.keyTypeAt 2 t = true) (hg : P.eqGuardType P.depth t = false) : TmTy P t := by
  refine ⟨h, Nat.eq_of_beq_eq_true hc, hk, ?_, Nat.lt_of_le_of_lt (Nat.zero_le _) hrow, hk2, hg⟩
  unfold tmB at h
  split at h
  · rename_i fs hu
    exact deep_law_laid hl (m := 2) (by omega) hrow hk2 (by rw [hu])
  · cases h
theorem TmTy.keyOf {P : Program} {t : TypeId} (T : TmTy P t) {u : Tm} (hu : u.ok) : ∃ l, keyOf P t (tv u) = some l := by
  have h := T.row
  unfold tmB at h
  split at h
  · rename_i fs hund
    split at h
    · rename_i f0 f1 f2 f3 f4 f5 f6 hfs
      simp only [Bool.and_eq_true] at h
      obtain ⟨⟨⟨⟨⟨⟨h0, h1⟩, h2⟩, h3⟩, h4⟩, h5⟩, h6⟩ := h
      obtain ⟨o0, c0, k0, n0⟩ := tmFld_int h0
      obtain ⟨o1, c1, k1, n1⟩ := tmFld_int h1
      obtain ⟨o2, c2, k2, n2⟩ := tmFld_int h2
      obtain ⟨o3, c3, k3, n3⟩ := tmFld_int h3
      obtain ⟨o4, c4, k4, n4⟩ := tmFld_str h4
      obtain ⟨o5, c5, k5, n5⟩ := tmFld_str h5
      obtain ⟨o6, c6, k6, n6⟩ := tmFld_str h6
      obtain ⟨fl⟩ := fs
      simp only at hfs
      subst hfs
      have hall : (#[f0, f1, f2, f3, f4, f5, f6] : Array Field).all (·.name != "_") = true := by simp [n0, n1, n2, n3, n4, n5, n6] <;> simp_all
      have e : P.keyLits (P.types.size + 1) t u.cells = some [.int .i64 u.kind, .int .i64 u.a, .int .i64 u.b, .int .i64 u.number, .string u.label.data.toList, .string u.also.data.toList, .string u.bytes.data.toList] := by
        have hts : P.types.size = (P.types.size - 1) + 1 := by have := T.types; omega
        simp only [Program.keyLits, hund]
        rw [if_pos ⟨by rw [T.cells]; rfl, hall⟩]
        rw [hts]
        simp only [List.mapM_cons, List.mapM_nil, o0, o1, o2, o3, o4, o5, o6, c0, c1, c2, c3, c4, c5, c6, Tm.cells, List.drop_succ_cons, List.drop_zero, List.take_succ_cons, List.take_zero]
        rw [lits_int k0 hu.kind, lits_int k1 hu.a, lits_int k2 hu.b, lits_int k3 hu.number, lits_str k4 hu.label, lits_str k5 hu.also, lits_str k6 hu.bytes]
        rfl
      unfold Go.keyOf
      rw [hund]
      simp only [T.key, Value.formed, hund, T.cells, Value.cells, Bool.true_and, tv]
      rw [if_pos (by simp [Tm.cells])]
      exact ⟨_, by rw [e]; rfl⟩
    · cases h
  · cases h

/-! ### a vault in memory -/
structure VB where
  sb : Nat
  fb : Nat
  nb : Nat
  cap : Nat
  l : List Value
  es : Array MapEntry
  c : Nat
  es' : Array MapEntry
  c' : Nat
def VB.top (V : VB) (m : Nat) : List Value := [.slice (some ⟨V.sb, 0, none⟩) m V.cap, .map (some V.fb), .map (some V.nb)]
/-- what the map of terms says -/
structure Fnd (ts : List Tm) (g : Value → Option Value) : Prop where
  some_ : ∀ (t : Tm) (v : Value), g (tv t) = some v → ∃ i : Nat, v = .int .i64 (i : Int) ∧ ts[i]? = some t
  none_ : ∀ (t : Tm) (i : Nat), ts[i]? = some t → t.kind ≠ 1 → g (tv t) = some (.int .i64 (i : Int))
/-- what the map of names says -/
def Nms (m : Nat) (g : Value → Option Value) : Prop := ∀ (h : List UInt8) (v : Value), g (hnd h) = some v ↔ ∃ i : Nat, i < m ∧ h = nm i ∧ v = .int .i64 (i : Int)
structure VOk (P : Program) (TT TH : Nat) (V : VB) (ts : List Tm) : Prop where
  len : V.l.length = V.cap * 7
  cap : ts.length ≤ V.cap
  take : V.l.take (ts.length * 7) = ts.flatMap Tm.cells
  rng : ∀ t ∈ ts, t.ok
  found : ∃ g, MapOk P TT V.es g ∧ Fnd ts g
  names : ∃ g, MapOk P TH V.es' g ∧ Nms ts.length g
theorem exists_set (g : Value → Option Value) (x v : Value) : ∃ g', setG g x v g' := by
  classical
  exact ⟨fun y => if y = x then some v else g y, by simp, fun y hy => by simp [hy]⟩
theorem Fnd.push {ts : List Tm} {g g' : Value → Option Value} {t : Tm} (h : Fnd ts g) (hn : t.kind = 1 ∨ t ∉ ts) (hg : setG g (tv t) (.int .i64 (ts.length : Int)) g') : Fnd (ts ++ [t]) g' := by
  constructor
  · intro u v hu
    by_cases e : u = t
    · subst e
      rw [hg.1] at hu
      cases hu
      exact ⟨ts.length, rfl, by simp⟩
    · rw [hg.2 _ (fun k => e (tv_inj k))] at hu
      obtain ⟨i, h1, h2⟩ := h.some_ u v hu
      exact ⟨i, h1, by rw [List.getElem?_append_left (List.getElem?_eq_some_iff.1 h2).1]; exact h2⟩
  · intro u i hu hk
    by_cases e : u = t
    · subst e
      rcases hn with hn | hn
      · exact absurd hn hk
      · rw [List.getElem?_append] at hu
        split at hu
        · exact absurd (List.mem_of_getElem? hu) hn
        · rename_i hge
          have : i = ts.length := by
            by_cases e : i - ts.length = 0
            · omega
            · obtain ⟨m, hm⟩ := Nat.exists_eq_succ_of_ne_zero e
              rw [hm] at hu; simp at hu
          subst this
          exact hg.1
    · rw [hg.2 _ (fun k => e (tv_inj k))]
      rw [List.getElem?_append] at hu
      split at hu
      · exact h.none_ u i hu hk
      · have := List.mem_of_getElem? hu
        exact absurd (List.mem_singleton.1 this) e
theorem Nms.push {m : Nat} {g g' : Value → Option Value} (h : Nms m g) (hm : m < 9223372036854775808) (hg : setG g (hnd (nm m)) (.int .i64 (m : Int)) g') : Nms (m + 1) g' := by
  intro u v
  by_cases e : u = nm m
  · subst e
    rw [hg.1]
    constructor
    · intro k; cases k; exact ⟨m, by omega, rfl, rfl⟩
    · rintro ⟨i, hi, he, rfl⟩
      have : i = m := (nm_inj (by omega) hm he.symm)
      rw [this]
  · rw [hg.2 _ (fun k => e (hnd_inj k)), h u v]
    constructor
    · rintro ⟨i, hi, r⟩; exact ⟨i, by omega, r⟩
    · rintro ⟨i, hi, rfl, r⟩
      refine ⟨i, ?_, rfl, r⟩
      by_cases k : i = m
      · subst k; exact absurd rfl e
      · omega
theorem flat_len (ts : List Tm) : (ts.flatMap Tm.cells).length = ts.length * 7 := by
  induction ts with
  | nil => rfl
  | cons t r ih => simp only [List.flatMap_cons, List.length_append, ih, Tm.cells_len, List.length_cons]; omega
theorem one_cells (t : Tm) : ∀ u ∈ t.cells, u.oneCell' = true := by
  intro u hu
  simp only [Tm.cells, List.mem_cons, List.not_mem_nil, or_false] at hu
  rcases hu with rfl | rfl | rfl | rfl | rfl | rfl | rfl <;> rfl
/-- what 'make' does -/
def Made (ts : List Tm) (t : Tm) (i : Nat) (ts' : List Tm) : Prop := (t.kind ≠ 1 ∧ ts[i]? = some t ∧ ts' = ts) ∨ ((t.kind = 1 ∨ t ∉ ts) ∧ i = ts.length ∧ ts' = ts ++ [t])
/-- a vault's blocks, the first of which is b -/
def VB.F (b : Nat) (V : VB) : Nat → Prop := fun x => x = b ∨ x = V.sb ∨ x = V.fb ∨ x = V.nb
structure VIn (P : Program) (TV TT TH : Nat) (w : World) (b : Nat) (V : VB) (ts : List Tm) : Prop where
  ok : VOk P TT TH V ts
  h0 : w.heap[b]? = some (.cells (V.top ts.length).toArray TV (0, 0))
  h1 : w.heap[V.sb]? = some (.cells V.l.toArray TT (0, 0))
  h2 : w.heap[V.fb]? = some (.map V.es V.c)
  h3 : w.heap[V.nb]? = some (.map V.es' V.c')
  n01 : b ≠ V.sb
  n23 : V.fb ≠ V.nb
/-- how a call on a vault changes memory -/
structure VStep (w w' : World) (b : Nat) (V V' : VB) : Prop where
  F : ∀ x, V'.F b x → V.F b x ∨ w.heap.size ≤ x
  mod : Mod (V.F b) w w'
section
variable {P : Program} {TV TT TH : Nat} {w w' w0 : World} {b : Nat} {V V' : VB} {ts ts' : List Tm} {S : Nat → Prop} {L L' : Blocks}
theorem VStep.of_ext (b : Nat) (V : VB) (h : Ext w w') : VStep w w' b V V := ⟨fun _ h => .inl h, h.mono (fun _ h => h.elim)⟩
theorem VIn.ext (h : VIn P TV TT TH w b V ts) (k : Ext w w') : VIn P TV TT TH w' b V ts := ⟨h.ok, k.heap_some h.h0, k.heap_some h.h1, k.heap_some h.h2, k.heap_some h.h3, h.n01, h.n23⟩
theorem VIn.nd (h : VIn P TV TT TH w b V ts) : [b, V.sb, V.fb, V.nb].Nodup := by
  have e1 : b ≠ V.fb := fun e => by have := h.h0; rw [e, h.h2] at this; cases this
  have e2 : b ≠ V.nb := fun e => by have := h.h0; rw [e, h.h3] at this; cases this
  have e3 : V.sb ≠ V.fb := fun e => by have := h.h1; rw [e, h.h2] at this; cases this
  have e4 : V.sb ≠ V.nb := fun e => by have := h.h1; rw [e, h.h3] at this; cases this
  simp [h.n01, h.n23, e1, e2, e3, e4]
theorem VStep.trans {w1 w2 : World} {V1 V2 : VB} (h : VStep w w1 b V V1) (k : VStep w1 w2 b V1 V2) : VStep w w2 b V V2 :=
  ⟨fun x hx => by
    rcases k.F x hx with e | e
    · exact h.F x e
    · exact .inr (Nat.le_trans h.mod.size e), h.mod.trans k.mod (fun c hc hT => by
      rcases h.F c hT with e | e
      · exact e
      · omega)⟩
/-- where a vault's blocks may lie, seen from the call's beginning -/
def VS (S : Nat → Prop) (w0 : World) (b : Nat) (V : VB) : Prop := ∀ x, V.F b x → S x ∨ w0.heap.size ≤ x
theorem VS.start (w0 : World) (b : Nat) (V : VB) : VS (V.F b) w0 b V := fun _ h => .inl h
theorem VS.step (h : VS S w0 b V) (k : VStep w w' b V V') (hs : w0.heap.size ≤ w.heap.size) : VS S w0 b V' := fun x hx => by
  rcases k.F x hx with e | e
  · exact h x e
  · exact .inr (Nat.le_trans hs e)
/-- a vault's blocks in a list give way to what a call left of them -/
inductive Sw (x0 x1 x2 x3 y0 y1 y2 y3 : Nat × Obj) : Blocks → Blocks → Prop
  | here {M : Blocks} : Sw x0 x1 x2 x3 y0 y1 y2 y3 (x0 :: x1 :: x2 :: x3 :: M) (y0 :: y1 :: y2 :: y3 :: M)
  | there {x : Nat × Obj} {M M' : Blocks} : Sw x0 x1 x2 x3 y0 y1 y2 y3 M M' → Sw x0 x1 x2 x3 y0 y1 y2 y3 (x :: M) (x :: M')
theorem Sw.old {x0 x1 x2 x3 y0 y1 y2 y3 : Nat × Obj} (h : Sw x0 x1 x2 x3 y0 y1 y2 y3 L L') : ∀ p ∈ [x0, x1, x2, x3], p ∈ L := by
  induction h with
  | here => intro p hp; simp only [List.mem_cons, List.not_mem_nil, or_false] at hp ⊢; rcases hp with h | h | h | h <;> simp [h]
  | there _ ih => intro p hp; exact List.mem_cons_of_mem _ (ih p hp)
theorem Sw.mem {x0 x1 x2 x3 y0 y1 y2 y3 : Nat × Obj} (h : Sw x0 x1 x2 x3 y0 y1 y2 y3 L L') (nd : (L.map Prod.fst).Nodup) : ∀ p ∈ L', p ∈ [y0, y1, y2, y3] ∨ (p ∈ L ∧ ∀ q ∈ [x0, x1, x2, x3], p.1 ≠ q.1) := by
  induction h with
  | @here L =>
    intro p hp
    simp only [List.mem_cons] at hp
    simp only [List.map_cons, List.nodup_cons, List.mem_cons, not_or, List.mem_map, not_exists, not_and] at nd
    rcases hp with h | h | h | h | h
    · left; simp [h]
    · left; simp [h]
    · left; simp [h]
    · left; simp [h]
    · right
      refine ⟨by simp [h], fun q hq => ?_⟩
      simp only [List.mem_cons, List.not_mem_nil, or_false] at hq
      rcases hq with rfl | rfl | rfl | rfl
      · exact nd.1.2.2.2 p h
      · exact nd.2.1.2.2 p h
      · exact nd.2.2.1.2 p h
      · exact nd.2.2.2.1 p h
  | @there x L L' h ih =>
    intro p hp
    simp only [List.map_cons, List.nodup_cons, List.mem_map, not_exists, not_and] at nd
    rcases List.mem_cons.1 hp with rfl | hp
    · exact .inr ⟨by simp, fun q hq e => nd.1 q (h.old q hq) e.symm⟩
    · rcases ih nd.2 p hp with h1 | ⟨h1, h2⟩
      · exact .inl h1
      · exact .inr ⟨List.mem_cons_of_mem _ h1, h2⟩
theorem Sw.nodup {x0 x1 x2 x3 y0 y1 y2 y3 : Nat × Obj} (h : Sw x0 x1 x2 x3 y0 y1 y2 y3 L L') (nd : (L.map Prod.fst).Nodup) (hy : ([y0, y1, y2, y3].map Prod.fst).Nodup)
    (hc : ∀ p ∈ L, (∀ q ∈ [x0, x1, x2, x3], p.1 ≠ q.1) → ∀ q ∈ [y0, y1, y2, y3], p.1 ≠ q.1) : (L'.map Prod.fst).Nodup := by
  induction h with
  | @here L =>
    have hm := (Sw.here (x0 := x0) (x1 := x1) (x2 := x2) (x3 := x3) (y0 := y0) (y1 := y1) (y2 := y2) (y3 := y3) (M := L)).mem nd
    have hdis : ∀ p ∈ L, ∀ q ∈ [y0, y1, y2, y3], p.1 ≠ q.1 := fun p hp => hc p (by simp [hp]) (fun q hq => by
      simp only [List.map_cons, List.nodup_cons, List.mem_cons, not_or, List.mem_map, not_exists, not_and] at nd
      simp only [List.mem_cons, List.not_mem_nil, or_false] at hq
      rcases hq with rfl | rfl | rfl | rfl
      · exact nd.1.2.2.2 p hp
      · exact nd.2.1.2.2 p hp
      · exact nd.2.2.1.2 p hp
      · exact nd.2.2.2.1 p hp)
    have e : (y0 :: y1 :: y2 :: y3 :: L).map Prod.fst = [y0, y1, y2, y3].map Prod.fst ++ L.map Prod.fst := rfl
    rw [e, List.nodup_append]
    refine ⟨hy, ?_, ?_⟩
    · simp only [List.map_cons, List.nodup_cons] at nd; exact nd.2.2.2.2
    · intro k hk k' hk' heq
      obtain ⟨q, hq, rfl⟩ := List.mem_map.1 hk
      obtain ⟨p, hp, rfl⟩ := List.mem_map.1 hk'
      exact hdis p hp q hq heq.symm
  | @there x L L' h ih =>
    simp only [List.map_cons, List.nodup_cons] at nd ⊢
    refine ⟨fun hm => ?_, ih nd.2 (fun p hp => hc p (by simp [hp]))⟩
    obtain ⟨p, hp, e⟩ := List.mem_map.1 hm
    rcases h.mem nd.2 p hp with h1 | ⟨h1, _⟩
    · exact hc x (by simp) (fun q hq e2 => nd.1 (List.mem_map.2 ⟨q, h.old q hq, e2.symm⟩)) p h1 e.symm
    · exact nd.1 (List.mem_map.2 ⟨p, h1, e⟩)
theorem Hp.vault (h : Hp w0 S L w) (hVS : VS S w0 b V) (hst : VStep w w' b V V') (hin : VIn P TV TT TH w' b V' ts')
    (p : Sw (b, .cells (V.top ts.length).toArray TV (0, 0)) (V.sb, .cells V.l.toArray TT (0, 0)) (V.fb, .map V.es V.c) (V.nb, .map V.es' V.c')
      (b, .cells (V'.top ts'.length).toArray TV (0, 0)) (V'.sb, .cells V'.l.toArray TT (0, 0)) (V'.fb, .map V'.es V'.c) (V'.nb, .map V'.es' V'.c') L L') : Hp w0 S L' w' := by
  have hnF : ∀ p : Nat × Obj, (∀ q ∈ ([(b, .cells (V.top ts.length).toArray TV (0, 0)), (V.sb, .cells V.l.toArray TT (0, 0)), (V.fb, .map V.es V.c), (V.nb, .map V.es' V.c')] : Blocks), p.1 ≠ q.1) → ¬ V.F b p.1 := by
    intro p hp hF
    rcases hF with e | e | e | e
    · exact hp _ (List.mem_cons_self) e
    · exact hp _ (List.mem_cons_of_mem _ List.mem_cons_self) e
    · exact hp _ (List.mem_cons_of_mem _ (List.mem_cons_of_mem _ List.mem_cons_self)) e
    · exact hp _ (List.mem_cons_of_mem _ (List.mem_cons_of_mem _ (List.mem_cons_of_mem _ List.mem_cons_self))) e
  refine ⟨fun q hq => ?_, p.nodup h.nd (by simpa using hin.nd) ?_, h.mod.trans hst.mod (fun c hc hF => by
    rcases hVS c hF with e | e
    · exact e
    · omega)⟩
  · rcases p.mem h.nd q hq with h1 | ⟨h1, h2⟩
    · simp only [List.mem_cons, List.not_mem_nil, or_false] at h1
      rcases h1 with rfl | rfl | rfl | rfl
      · exact hin.h0
      · exact hin.h1
      · exact hin.h2
      · exact hin.h3
    · exact hst.mod.heap_some (h.blk q h1) (hnF q h2)
  · intro q hq hne y hy e
    have hF : V'.F b y.1 := by
      simp only [List.mem_cons, List.not_mem_nil, or_false] at hy
      rcases hy with rfl | rfl | rfl | rfl
      · exact .inl rfl
      · exact .inr (.inl rfl)
      · exact .inr (.inr (.inl rfl))
      · exact .inr (.inr (.inr rfl))
    rw [← e] at hF
    rcases hst.F q.1 hF with k | k
    · exact hnF q hne k
    · have := lt_of_block (h.blk q hq); omega
theorem Hp.vin (h : Hp w0 S L w) (hin : VOk P TT TH V ts) (n01 : b ≠ V.sb) (n23 : V.fb ≠ V.nb) (k0 : In b (.cells (V.top ts.length).toArray TV (0, 0)) L) (k1 : In V.sb (.cells V.l.toArray TT (0, 0)) L) (k2 : In V.fb (.map V.es V.c) L) (k3 : In V.nb (.map V.es' V.c') L) : VIn P TV TT TH w b V ts :=
  ⟨hin, h.get k0, h.get k1, h.get k2, h.get k3, n01, n23⟩
theorem Hp.knowV (h : Hp w0 S L w) (hin : VIn P TV TT TH w b V ts) (hd : ∀ p ∈ L, ¬ V.F b p.1) : Hp w0 S ((b, .cells (V.top ts.length).toArray TV (0, 0)) :: (V.sb, .cells V.l.toArray TT (0, 0)) :: (V.fb, .map V.es V.c) :: (V.nb, .map V.es' V.c') :: L) w := by
  have nd := hin.nd
  simp only [List.nodup_cons, List.mem_cons, List.not_mem_nil, or_false, not_or] at nd
  refine (((h.know hin.h3 (fun p hp e => hd p hp (.inr (.inr (.inr e))))).know hin.h2 (fun p hp => ?_)).know hin.h1 (fun p hp => ?_)).know hin.h0 (fun p hp => ?_)
  · rcases List.mem_cons.1 hp with rfl | hp
    · exact Ne.symm nd.2.2.1
    · exact fun e => hd p hp (.inr (.inr (.inl e)))
  · simp only [List.mem_cons] at hp
    rcases hp with rfl | rfl | hp
    · exact Ne.symm nd.2.1.1
    · exact Ne.symm nd.2.1.2
    · exact fun e => hd p hp (.inr (.inl e))
  · simp only [List.mem_cons] at hp
    rcases hp with rfl | rfl | rfl | hp
    · exact Ne.symm nd.1.1
    · exact Ne.symm nd.1.2.1
    · exact Ne.symm nd.1.2.2
    · exact fun e => hd p hp (.inl e)
end

section
variable {P : Program} {ops : Array Oper} {Q : Exit → Act → World → Prop} {rest : List Item} {a : Act} {w w0 : World} {n : Nat} {R : Rg} {ds : List Deferred} {S : Nat → Prop} {L K : Blocks}
variable {f : Bool} {d : Nat} {ty : TypeId} {pos : String} {af : Array Edge}
theorem r_lookupS2 {t k e b clock : Nat} {x y : Operand} {es : Array MapEntry} {g : Value → Option Value} {z key v1 : Value} {b1 : Bool} {lx : Lit} (T : MapTy P t k e z) (hS : StD ds n R a) (hx : ev R x = some (.map (some b))) (hy : ev R y = some key) (hi : In b (.map es clock) K) (h : MapOk P k es g) (hk : keyOf P k key = some lx) (e1 : orZ (g key) z = v1) (e2 : (g key).isSome = b1) (hlt : Nat.blt d n = true)
    (kk : ∀ a', StD ds n (up R d (.tuple #[v1, .bool b1])) a' → Sq P ops Q rest a' w) : Sq P ops Q ((true, ⟨some d, .lookup t x y true, ty, pos, af, none⟩, Kp w0 S K) :: rest) a w :=
  r_lookupS T hS hx hy hi h hk hlt (by rw [e1, e2]; exact kk)
theorem r_lookup2 {t k e b clock : Nat} {x y : Operand} {es : Array MapEntry} {g : Value → Option Value} {z key v1 : Value} {b1 : Bool} {lx : Lit} (T : MapTy P t k e z) (hS : StD ds n R a) (hH : Hp w0 S L w) (hs : Sub K L) (hx : ev R x = some (.map (some b))) (hy : ev R y = some key) (hi : In b (.map es clock) L) (h : MapOk P k es g) (hk : keyOf P k key = some lx) (e1 : orZ (g key) z = v1) (e2 : (g key).isSome = b1) (hlt : Nat.blt d n = true)
    (kk : ∀ a', StD ds n (up R d (.tuple #[v1, .bool b1])) a' → Sq P ops Q rest a' w) : Sq P ops Q ((false, ⟨some d, .lookup t x y true, ty, pos, af, none⟩, Kp w0 S K) :: rest) a w :=
  r_lookup T hS hH hs hx hy hi h hk hlt (by rw [e1, e2]; exact kk)
theorem r_mapUpdate2 {t k e b clock : Nat} {x y u : Operand} {es : Array MapEntry} {g g' : Value → Option Value} {z key v : Value} {lx : Lit} {L' : Array MapEntry → Nat → Blocks} (T : MapTy P t k e z) (hS : StD ds n R a) (hH : Hp w0 S L w) (hx : ev R x = some (.map (some b))) (hy : ev R y = some key) (hu : ev R u = some v) (hp : ∀ es' clock', Put b (.map es clock) (.map es' clock') L (L' es' clock')) (hs : ∀ es' clock', Sub K (L' es' clock')) (h : MapOk P k es g) (hk : keyOf P k key = some lx) (hg : setG g key v g') (hw : S b ∨ w0.heap.size ≤ b)
    (kk : ∀ w' es' clock', MapOk P k es' g' → Hp w0 S (L' es' clock') w' → Sq P ops Q rest a w') : Sq P ops Q ((false, ⟨none, .mapUpdate t x y u, ty, pos, af, none⟩, Kp w0 S K) :: rest) a w := by
  obtain ⟨w', es', clock', hr, ht, hok⟩ := run_mapUpdate (w := w) T.und T.law h (hH.blk _ (hp #[] 0).old) hk hg
  have hH' := hH.turned (hp es' clock') ht hw
  exact Sq.skip (w' := w') rfl (by simp [execOp, hS.val hx, hS.val hy, hS.val hu, hr]) (hH'.kp (hs es' clock')) (kk w' es' clock' hok hH')
end
def mapB (P : Program) (t k e : TypeId) : Bool := match P.underlying t with
  | some (.map k' e') => Nat.beq k' k && Nat.beq e' e
  | _ => false
def zv0 (P : Program) (e : TypeId) : Bool := match (P.info? e).bind (·.zero) with
  | some (.int .i64 0) => true
  | _ => false
theorem mapTy_mk {P : Program} {t k e : TypeId} (h : mapB P t k e = true) (hz : zv0 P e = true) (law : WideMaps.KeyLaw P k) : MapTy P t k e (.int .i64 0) := by
  unfold mapB at h
  split at h
  · rename_i k' e' hu
    simp only [Bool.and_eq_true] at h
    obtain rfl := Nat.eq_of_beq_eq_true h.1
    obtain rfl := Nat.eq_of_beq_eq_true h.2
    refine ⟨hu, fun w => ?_, law⟩
    unfold zv0 at hz
    split at hz
    · rename_i hq
      cases hi : P.info? e' with
      | none => rw [hi] at hq; cases hq
      | some i =>
        rw [hi] at hq
        simp only [Option.bind_some] at hq
        simp [zeroValue, typeInfo, hi, hq]
    · cases hz
  · cases h
theorem Fnd.look {ts : List Tm} {g : Value → Option Value} (h : Fnd ts g) (t : Tm) : (∃ i : Nat, orZ (g (tv t)) (.int .i64 0) = .int .i64 (i : Int) ∧ (g (tv t)).isSome = true ∧ ts[i]? = some t) ∨ (orZ (g (tv t)) (.int .i64 0) = .int .i64 0 ∧ (g (tv t)).isSome = false ∧ (t.kind = 1 ∨ t ∉ ts)) := by
  cases hg : g (tv t) with
  | some v =>
    obtain ⟨i, rfl, h2⟩ := h.some_ t v hg
    exact .inl ⟨i, rfl, rfl, h2⟩
  | none =>
    refine .inr ⟨rfl, rfl, ?_⟩
    by_cases hk : t.kind = 1
    · exact .inl hk
    · refine .inr fun hm => ?_
      obtain ⟨i, hi⟩ := List.getElem?_of_mem hm
      have := h.none_ t i hi hk
      rw [hg] at this; cases this
theorem Nms.look {m : Nat} {g : Value → Option Value} (h : Nms m g) (u : List UInt8) : (∃ i : Nat, i < m ∧ u = nm i ∧ orZ (g (hnd u)) (.int .i64 0) = .int .i64 (i : Int) ∧ (g (hnd u)).isSome = true) ∨ ((∀ i, i < m → u ≠ nm i) ∧ orZ (g (hnd u)) (.int .i64 0) = .int .i64 0 ∧ (g (hnd u)).isSome = false) := by
  cases hg : g (hnd u) with
  | some v =>
    obtain ⟨i, h1, h2, rfl⟩ := (h u v).1 hg
    exact .inl ⟨i, h1, h2, rfl, rfl⟩
  | none =>
    refine .inr ⟨fun i hi e => ?_, rfl, rfl⟩
    have := (h u _).2 ⟨i, hi, e, rfl⟩
    rw [hg] at this; cases this
theorem VOk.push {P : Program} {TT TH : Nat} {V V' : VB} {ts : List Tm} {t : Tm} {g1 g2 g1' g2' : Value → Option Value} (h : VOk P TT TH V ts) (ht : t.ok) (hn : t.kind = 1 ∨ t ∉ ts) (hm : ts.length < 9223372036854775808)
    (h1 : MapOk P TT V'.es g1') (f1 : Fnd ts g1) (s1 : setG g1 (tv t) (.int .i64 (ts.length : Int)) g1') (h2 : MapOk P TH V'.es' g2') (f2 : Nms ts.length g2) (s2 : setG g2 (hnd (nm ts.length)) (.int .i64 (ts.length : Int)) g2')
    (hl : V'.l.length = V'.cap * 7) (hc : ts.length + 1 ≤ V'.cap) (htk : V'.l.take ((ts.length + 1) * 7) = V.l.take (ts.length * 7) ++ t.cells) : VOk P TT TH V' (ts ++ [t]) where
  len := hl
  cap := by simpa using hc
  take := by
    rw [List.length_append, List.length_singleton, htk, h.take]
    simp
  rng := fun u hu => by
    rcases List.mem_append.1 hu with hu | hu
    · exact h.rng u hu
    · rw [List.mem_singleton.1 hu]; exact ht
  found := ⟨g1', h1, f1.push hn s1⟩
  names := ⟨g2', h2, by rw [List.length_append, List.length_singleton]; exact f2.push hm s2⟩
theorem Src.terms {P : Program} {w : World} {b : Nat} {t : Tm} {T : TypeId} (hb : w.heap[b]? = some (.cells t.cells.toArray T (0, 0))) : Src P 7 w (.slice (some ⟨b, 0, none⟩) 1 1) 1 t.cells := by
  have h := Sl.of_block (es := 7) (m := 1) (cap := 1) hb (by simp [Tm.cells_len]) (Nat.le_refl _)
  rw [List.take_of_length_le (by simp [Tm.cells_len])] at h
  exact h.src (one_cells t)
theorem Hp.vin2 {P : Program} {TV TT TH : Nat} {w w0 : World} {b m : Nat} {V : VB} {ts : List Tm} {S : Nat → Prop} {L : Blocks} (h : Hp w0 S L w) (hin : VOk P TT TH V ts) (hm : m = ts.length) (n01 : b ≠ V.sb) (n23 : V.fb ≠ V.nb) (k0 : In b (.cells (V.top m).toArray TV (0, 0)) L) (k1 : In V.sb (.cells V.l.toArray TT (0, 0)) L) (k2 : In V.fb (.map V.es V.c) L) (k3 : In V.nb (.map V.es' V.c') L) : VIn P TV TT TH w b V ts := by
  subst hm
  exact h.vin hin n01 n23 k0 k1 k2 k3

theorem VIn.notF {P : Program} {TV TT TH : Nat} {w : World} {b c : Nat} {V : VB} {ts : List Tm} {l : Array Value} {T : TypeId} {fz : Nat × Nat} (h : VIn P TV TT TH w b V ts) (hb : w.heap[c]? = some (.cells l T fz)) (h1 : T ≠ TV) (h2 : T ≠ TT) : ¬ V.F b c := by
  intro hF
  rcases hF with rfl | rfl | rfl | rfl
  · have := h.h0; rw [hb] at this; cases this; exact h1 rfl
  · have := h.h1; rw [hb] at this; cases this; exact h2 rfl
  · have := h.h2; rw [hb] at this; cases this
  · have := h.h3; rw [hb] at this; cases this
theorem Hp.vaultC {P : Program} {TV TT TH : Nat} {w w' w0 : World} {b cb : Nat} {V V' : VB} {ts ts' : List Tm} {S : Nat → Prop} {L L1 L2 : Blocks} {o o' : Obj} (h : Hp w0 S L w) (hVS : VS S w0 b V) (hF : ∀ x, V'.F b x → V.F b x ∨ w.heap.size ≤ x) (hM : Mod (fun x => x = cb ∨ V.F b x) w w') (hin : VIn P TV TT TH w' b V' ts') (hcb : w'.heap[cb]? = some o')
    (p : Sw (b, .cells (V.top ts.length).toArray TV (0, 0)) (V.sb, .cells V.l.toArray TT (0, 0)) (V.fb, .map V.es V.c) (V.nb, .map V.es' V.c')
      (b, .cells (V'.top ts'.length).toArray TV (0, 0)) (V'.sb, .cells V'.l.toArray TT (0, 0)) (V'.fb, .map V'.es V'.c) (V'.nb, .map V'.es' V'.c') L L1) (pp : Put cb o o' L1 L2) (hw : S cb ∨ w0.heap.size ≤ cb) : Hp w0 S L2 w' := by
  have hnF : ∀ p : Nat × Obj, (∀ q ∈ ([(b, .cells (V.top ts.length).toArray TV (0, 0)), (V.sb, .cells V.l.toArray TT (0, 0)), (V.fb, .map V.es V.c), (V.nb, .map V.es' V.c')] : Blocks), p.1 ≠ q.1) → ¬ V.F b p.1 := by
    intro p hp hF
    rcases hF with e | e | e | e
    · exact hp _ (List.mem_cons_self) e
    · exact hp _ (List.mem_cons_of_mem _ List.mem_cons_self) e
    · exact hp _ (List.mem_cons_of_mem _ (List.mem_cons_of_mem _ List.mem_cons_self)) e
    · exact hp _ (List.mem_cons_of_mem _ (List.mem_cons_of_mem _ (List.mem_cons_of_mem _ List.mem_cons_self))) e
  have nd1 : (L1.map Prod.fst).Nodup := by
    refine p.nodup h.nd (by simpa using hin.nd) ?_
    intro q hq hne y hy e
    have hFy : V'.F b y.1 := by
      simp only [List.mem_cons, List.not_mem_nil, or_false] at hy
      rcases hy with rfl | rfl | rfl | rfl
      · exact .inl rfl
      · exact .inr (.inl rfl)
      · exact .inr (.inr (.inl rfl))
      · exact .inr (.inr (.inr rfl))
    rw [← e] at hFy
    rcases hF q.1 hFy with k | k
    · exact hnF q hne k
    · have := lt_of_block (h.blk q hq); omega
  refine ⟨fun q hq => ?_, by rw [pp.keys]; exact nd1, h.mod.trans hM (fun c hc hc2 => by
    rcases hc2 with rfl | hc2
    · rcases hw with e | e
      · exact e
      · omega
    · rcases hVS c hc2 with e | e
      · exact e
      · omega)⟩
  rcases pp.mem nd1 q hq with rfl | ⟨h1, hne⟩
  · exact hcb
  · rcases p.mem h.nd q h1 with h1 | ⟨h1, h2⟩
    · simp only [List.mem_cons, List.not_mem_nil, or_false] at h1
      rcases h1 with rfl | rfl | rfl | rfl
      · exact hin.h0
      · exact hin.h1
      · exact hin.h2
      · exact hin.h3
    · exact hM.heap_some (h.blk q h1) (fun k => by
        rcases k with k | k
        · exact hne k
        · exact hnF q h2 k)
theorem VS.stepF {w w0 : World} {b : Nat} {V V' : VB} {S : Nat → Prop} (h : VS S w0 b V) (k : ∀ x, V'.F b x → V.F b x ∨ w.heap.size ≤ x) (hs : w0.heap.size ≤ w.heap.size) : VS S w0 b V' := fun x hx => by
  rcases k x hx with e | e
  · exact h x e
  · exact .inr (Nat.le_trans hs e)
theorem mapOk_same {P : Program} {k : TypeId} {es : Array MapEntry} {g g' : Value → Option Value} (h : MapOk P k es g) (h' : MapOk P k es g') (x : Value) : g x = g' x := by
  cases e : g x with
  | some v => exact ((h'.at_ x v).2 ((h.at_ x v).1 e)).symm
  | none =>
    cases e' : g' x with
    | none => rfl
    | some v =>
      have := (h.at_ x v).2 ((h'.at_ x v).1 e')
      rw [e] at this; cases this
theorem Nms.look2 {m : Nat} {g : Value → Option Value} (h : Nms m g) (u : List UInt8) : ∃ (n0 : Int) (th : Bool), orZ (g (hnd u)) (.int .i64 0) = .int .i64 n0 ∧ (g (hnd u)).isSome = th ∧ ((th = true ∧ ∃ i : Nat, i < m ∧ n0 = (i : Int) ∧ u = nm i) ∨ (th = false ∧ n0 = 0 ∧ ∀ i, i < m → u ≠ nm i)) := by
  rcases h.look u with ⟨i, h1, h2, h3, h4⟩ | ⟨h1, h2, h3⟩
  · exact ⟨i, true, h3, h4, .inl ⟨rfl, i, h1, rfl, h2⟩⟩
  · exact ⟨0, false, h2, h3, .inr ⟨rfl, rfl, h1⟩⟩
def zH : List UInt8 := [0, 0, 0, 0, 0, 0, 0, 0, 0, 0, 0, 0, 0, 0, 0, 0]
/-- what 'of' does: h: the other term's name; h', x: what is told -/
def OfT (ts : List Tm) (h : List UInt8) (t : Tm) (h' : List UInt8) (x : Int) (ts' : List Tm) : Prop :=
  (∃ i j : Nat, i < ts.length ∧ h = nm i ∧ x = 0 ∧ h' = nm j ∧ Made ts { t with a := (i : Int) } j ts') ∨ ((∀ i, i < ts.length → h ≠ nm i) ∧ x = 15 ∧ h' = zH ∧ ts' = ts)
theorem OfT.len {ts ts' : List Tm} {h h' : List UInt8} {t : Tm} {x : Int} (k : OfT ts h t h' x ts') : h'.length = 16 := by
  rcases k with ⟨i, j, _, _, _, rfl, _⟩ | ⟨_, _, rfl, _⟩ <;> rfl
/-- one more step of a chain -/
def NxT (ts : List Tm) (h : List UInt8) (x : Int) (t : Tm) (h' : List UInt8) (x' : Int) (ts' : List Tm) : Prop := (x ≠ 0 ∧ h' = h ∧ x' = x ∧ ts' = ts) ∨ (x = 0 ∧ OfT ts h t h' x' ts')
def rootT : Tm := ⟨0, 0, 0, 0, .empty, .empty, .empty⟩
def freshT : Tm := ⟨1, 0, 0, 0, .empty, .empty, .empty⟩
def drv (label bytes : ByteArray) : Tm := ⟨2, 0, 0, 0, label, .empty, bytes⟩
theorem fits_small {x : Int} (h0 : 0 ≤ x) (h1 : x ≤ 9000000000000000000) : fits x := by unfold fits; omega
theorem tm_ok {k a b n : Int} {l al by' : ByteArray} (h : (0 ≤ k ∧ k ≤ 9000000000000000000) ∧ (0 ≤ a ∧ a ≤ 9000000000000000000) ∧ (0 ≤ b ∧ b ≤ 9000000000000000000) ∧ 0 ≤ n ∧ n ≤ 9000000000000000000) (h1 : l.size ≤ 9223372036854775807) (h2 : al.size ≤ 9223372036854775807) (h3 : by'.size ≤ 9223372036854775807) : (Tm.mk k a b n l al by').ok :=
  ⟨fits_small h.1.1 h.1.2, fits_small h.2.1.1 h.2.1.2, fits_small h.2.2.1.1 h.2.2.1.2, fits_small h.2.2.2.1 h.2.2.2.2, h1, h2, h3⟩
theorem rootT_ok : rootT.ok := tm_ok (by omega) (by decide) (by decide) (by decide)
theorem freshT_ok : freshT.ok := tm_ok (by omega) (by decide) (by decide) (by decide)
theorem drv_ok {label bytes : ByteArray} (h1 : label.size ≤ 9223372036854775807) (h2 : bytes.size ≤ 9223372036854775807) : (drv label bytes).ok := tm_ok (by omega) h1 (by decide) h2
theorem ok_a {t : Tm} (h : t.ok) {i : Nat} (hi : i ≤ 1000000000) : ({ t with a := (i : Int) } : Tm).ok := ⟨h.kind, fits_small (x := (i : Int)) (by omega) (by omega), h.b, h.number, h.label, h.also, h.bytes⟩
theorem Made.len {ts ts' : List Tm} {t : Tm} {i : Nat} (h : Made ts t i ts') : ts.length ≤ ts'.length ∧ ts'.length ≤ ts.length + 1 ∧ i < ts'.length := by
  rcases h with ⟨_, h, rfl⟩ | ⟨_, rfl, rfl⟩
  · exact ⟨Nat.le_refl _, by omega, (List.getElem?_eq_some_iff.1 h).1⟩
  · simp
theorem OfT.lens {ts ts' : List Tm} {h h' : List UInt8} {t : Tm} {x : Int} (k : OfT ts h t h' x ts') : ts.length ≤ ts'.length ∧ ts'.length ≤ ts.length + 1 := by
  rcases k with ⟨i, j, _, _, _, _, hm⟩ | ⟨_, _, _, rfl⟩
  · exact ⟨hm.len.1, hm.len.2.1⟩
  · simp
theorem NxT.lens {ts ts' : List Tm} {h h' : List UInt8} {t : Tm} {x x' : Int} (k : NxT ts h x t h' x' ts') : ts.length ≤ ts'.length ∧ ts'.length ≤ ts.length + 1 := by
  rcases k with ⟨_, _, _, rfl⟩ | ⟨_, k⟩
  · simp
  · exact k.lens
end Go.Sym
