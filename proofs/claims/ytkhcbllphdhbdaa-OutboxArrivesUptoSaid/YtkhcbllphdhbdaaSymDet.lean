/- Rules of symbolic execution over any program of the model, that the claims of this folder use; part SymDet. Conditions: those that each rule names. -/
import Derived.Test.YtkhcbllphdhbdaaSymRef
namespace Go.Sym
open Go

theorem SwL.two {x0 x1 y0 y1 : Nat × Obj} {M : Blocks} : SwL [x0, x1] [y0, y1] (x0 :: x1 :: M) (y0 :: y1 :: M) := SwL.here (M := M)
theorem RIn.notFm {TV TT : Nat} {w : World} {b c : Nat} {V : RB} {ts : List Tm} {es : Array MapEntry} {q : Nat} (h : RIn TV TT w b V ts) (hb : w.heap[c]? = some (.map es q)) : ¬ V.F b c := by
  intro hF
  rcases hF with rfl | rfl
  · have := h.h0; rw [hb] at this; cases this
  · have := h.h1; rw [hb] at this; cases this

/-! ### what a call of a vault tells is decided -/
def Uq (ts : List Tm) : Prop := ∀ (i j : Nat) (t : Tm), ts[i]? = some t → ts[j]? = some t → t.kind ≠ 1 → i = j
theorem VOk.uq {P : Program} {TT TH : Nat} {V : VB} {ts : List Tm} (h : VOk P TT TH V ts) : Uq ts := fun _ _ _ hi hj hk => h.uniq hi hj hk
theorem Uq.root : Uq [rootT] := fun i j t hi hj _ => by
  have h1 := (List.getElem?_eq_some_iff.1 hi).1
  have h2 := (List.getElem?_eq_some_iff.1 hj).1
  simp only [List.length_cons, List.length_nil] at h1 h2
  omega
theorem Made.uq {ts ts' : List Tm} {t : Tm} {i : Nat} (u : Uq ts) (m : Made ts t i ts') : Uq ts' := by
  rcases m with ⟨_, _, rfl⟩ | ⟨hn, _, rfl⟩
  · exact u
  · intro i j v hi hj hk
    have key : ∀ i, (ts ++ [t])[i]? = some v → (ts[i]? = some v) ∨ (i = ts.length ∧ v = t) := by
      intro i hi
      rw [List.getElem?_append] at hi
      split at hi
      · exact .inl hi
      · rename_i hge
        have : i = ts.length := by
          by_cases e : i - ts.length = 0
          · omega
          · obtain ⟨m, hm⟩ := Nat.exists_eq_succ_of_ne_zero e
            rw [hm] at hi; simp at hi
        subst this
        simp at hi
        exact .inr ⟨rfl, hi.symm⟩
    rcases key i hi with h1 | ⟨h1, e1⟩
    · rcases key j hj with h2 | ⟨h2, e2⟩
      · exact u i j v h1 h2 hk
      · subst e2
        rcases hn with hn | hn
        · exact absurd hn hk
        · exact absurd (List.mem_of_getElem? h1) hn
    · rcases key j hj with h2 | ⟨h2, e2⟩
      · subst e1
        rcases hn with hn | hn
        · exact absurd hn hk
        · exact absurd (List.mem_of_getElem? h2) hn
      · omega
theorem Uq.fresh {ts : List Tm} (u : Uq ts) : Uq (ts ++ [freshT]) := Made.uq (t := freshT) (i := ts.length) u (.inr ⟨.inl rfl, rfl, rfl⟩)
theorem OfT.uq {ts ts' : List Tm} {h h' : List UInt8} {t : Tm} {x : Int} (u : Uq ts) (k : OfT ts h t h' x ts') : Uq ts' := by
  rcases k with ⟨_, _, _, _, _, _, m⟩ | ⟨_, _, _, rfl⟩
  · exact m.uq u
  · exact u
theorem Made.det {ts a b : List Tm} {t : Tm} {i j : Nat} (u : Uq ts) (h : Made ts t i a) (k : Made ts t j b) : i = j ∧ a = b := by
  rcases h with ⟨h1, h2, rfl⟩ | ⟨h1, h2, rfl⟩
  · rcases k with ⟨k1, k2, rfl⟩ | ⟨k1, k2, rfl⟩
    · exact ⟨u _ _ _ h2 k2 h1, rfl⟩
    · rcases k1 with e | e
      · exact absurd e h1
      · exact absurd (List.mem_of_getElem? h2) e
  · rcases k with ⟨k1, k2, rfl⟩ | ⟨k1, k2, rfl⟩
    · rcases h1 with e | e
      · exact absurd e k1
      · exact absurd (List.mem_of_getElem? k2) e
    · exact ⟨h2.trans k2.symm, rfl⟩
theorem OfT.det {ts a b : List Tm} {h h1 h2 : List UInt8} {t : Tm} {x1 x2 : Int} (u : Uq ts) (hb : ts.length ≤ 1000000000) (q : OfT ts h t h1 x1 a) (k : OfT ts h t h2 x2 b) : h1 = h2 ∧ x1 = x2 ∧ a = b := by
  rcases q with ⟨i, j, hi, e1, e2, e3, m⟩ | ⟨hn, e2, e3, e4⟩
  · rcases k with ⟨i', j', hi', f1, f2, f3, m'⟩ | ⟨hn', _⟩
    · obtain rfl : i = i' := nm_inj (by omega) (by omega) (e1.symm.trans f1)
      obtain ⟨rfl, e⟩ := m.det u m'
      exact ⟨e3.trans f3.symm, e2.trans f2.symm, e⟩
    · exact absurd e1 (hn' i hi)
  · rcases k with ⟨i', j', hi', f1, f2, f3, m'⟩ | ⟨hn', f2, f3, f4⟩
    · exact absurd f1 (hn i' hi')
    · exact ⟨e3.trans f3.symm, e2.trans f2.symm, e4.trans f4.symm⟩
theorem OfT.no {ts ts' : List Tm} {h h' : List UInt8} {t : Tm} {x : Int} (k : OfT ts h t h' x ts') (hx : x ≠ 0) : (∀ i, i < ts.length → h ≠ nm i) ∧ x = 15 ∧ h' = zH ∧ ts' = ts := by
  rcases k with ⟨_, _, _, _, e, _, m⟩ | k
  · exact absurd e hx
  · exact k
theorem OfT.yes {ts ts' : List Tm} {h h' : List UInt8} {t : Tm} {x : Int} (k : OfT ts h t h' x ts') (hx : x = 0) : ∃ i j : Nat, i < ts.length ∧ h = nm i ∧ h' = nm j ∧ j < ts'.length ∧ i < ts'.length := by
  rcases k with ⟨i, j, hi, e1, e, e2, m⟩ | ⟨_, e, _, _⟩
  · refine ⟨i, j, hi, e1, e2, ?_, ?_⟩
    · rcases m with ⟨_, h, rfl⟩ | ⟨_, rfl, rfl⟩
      · exact (List.getElem?_eq_some_iff.1 h).1
      · simp
    · rcases m with ⟨_, h, rfl⟩ | ⟨_, rfl, rfl⟩
      · exact hi
      · simp; omega
  · rw [hx] at e; cases e
theorem OfT.ok {ts ts' : List Tm} {h h' : List UInt8} {t : Tm} {x : Int} (k : OfT ts h t h' x ts') (hx : ∃ i, i < ts.length ∧ h = nm i) : x = 0 := by
  obtain ⟨i, hi, e⟩ := hx
  rcases k with ⟨_, _, _, _, e, _, _⟩ | ⟨hn, _⟩
  · exact e
  · exact absurd e (hn i hi)
noncomputable def ofF (ts : List Tm) (h : List UInt8) (t : Tm) : List UInt8 × Int × List Tm :=
  @Classical.epsilon _ ⟨([], 0, [])⟩ fun r => OfT ts h t r.1 r.2.1 r.2.2
theorem OfT.toF {ts ts' : List Tm} {h h' : List UInt8} {t : Tm} {x : Int} (k : OfT ts h t h' x ts') (u : Uq ts) (hb : ts.length ≤ 1000000000) : ofF ts h t = (h', x, ts') := by
  have hs := @Classical.epsilon_spec (List UInt8 × Int × List Tm) (fun r => OfT ts h t r.1 r.2.1 r.2.2) ⟨(h', x, ts'), k⟩
  obtain ⟨a, b, c⟩ := k.det u hb hs
  show Classical.epsilon _ = _
  exact Prod.ext a.symm (Prod.ext b.symm c.symm)

/-! ### three handles in a struct -/
theorem lits_arr {P : Program} {t m e : Nat} (hu : P.underlying t = some (.array m e)) (he : P.underlying e = some (.int .u8)) (hc : P.cellsOf e = 1) (ht : P.cellsOf t = m) {D : Nat} (hD : 2 ≤ D) {h : List UInt8} (hl : h.length = m) : P.keyLits D t (hcells h) = some (h.map fun x => Lit.int .u8 x.toNat) := by
  have h1 := mapM_bytes (P := P) he hc (D - 2) h []
  obtain ⟨E, hE⟩ : ∃ E, E = D - 2 + 1 := ⟨_, rfl⟩
  rw [← hE] at h1
  obtain rfl : D = E + 1 := by omega
  simp only [List.length_nil, List.nil_append, hl, ← List.range_eq_range'] at h1
  simp only [Program.keyLits, hu, ht]
  rw [if_pos (by simp [hcells_len, hl])]
  have e2 : (h.map fun x => [Lit.int .u8 x.toNat]).flatten = h.map fun x => Lit.int .u8 x.toNat := by
    clear h1 hl
    induction h with
    | nil => rfl
    | cons x r ih => simp [ih]
  simp only [hcells, h1, Option.map_some, e2]
def arrFld (P : Program) (f : Field) (o : Nat) : Bool := Nat.beq f.offset o && Nat.beq (P.cellsOf f.type) 16 && (match P.underlying f.type with | some (.array k e) => Nat.beq k 16 && isU8 P e && Nat.beq (P.cellsOf e) 1 | _ => false) && f.name != "_"
theorem arrFld_eq {P : Program} {f : Field} {o : Nat} (h : arrFld P f o = true) : f.offset = o ∧ P.cellsOf f.type = 16 ∧ (∃ e, P.underlying f.type = some (.array 16 e) ∧ P.underlying e = some (.int .u8) ∧ P.cellsOf e = 1) ∧ (f.name != "_") = true := by
  simp only [arrFld, Bool.and_eq_true] at h
  obtain ⟨⟨⟨h1, h2⟩, h3⟩, h4⟩ := h
  refine ⟨Nat.eq_of_beq_eq_true h1, Nat.eq_of_beq_eq_true h2, ?_, h4⟩
  split at h3
  · rename_i k e hu
    simp only [Bool.and_eq_true] at h3
    obtain rfl := Nat.eq_of_beq_eq_true h3.1.1
    exact ⟨e, hu, isU8_eq h3.1.2, Nat.eq_of_beq_eq_true h3.2⟩
  · cases h3
def k3B (P : Program) (t : TypeId) : Bool := match P.underlying t with
  | some (.struct fs) => match fs.toList with
    | [f0, f1, f2] => arrFld P f0 0 && arrFld P f1 16 && arrFld P f2 32
    | _ => false
  | _ => false
structure K3Ty (P : Program) (t : TypeId) : Prop where
  row : k3B P t = true
  cells : P.cellsOf t = 48
  key : P.keyType t = true
  law : WideMaps.KeyLaw P t
  types : 3 ≤ P.types.size
  key2 : P.keyTypeAt 3 t = true
  guard : P.eqGuardType P.depth t = false
theorem k3Ty_mk {P : Program} {t : TypeId} (hl : laidOutB P = true) (hrow : t < P.types.size) (h3 : 3 ≤ P.types.size) (h : k3B P t = true) (hc : Nat.beq (P.cellsOf t) 48 = true) (hk : P.keyType t = true) (hk2 : P.keyTypeAt 3 t = true) (hg : P.eqGuardType P.depth t = false) : K3Ty P t := by
  refine ⟨h, Nat.eq_of_beq_eq_true hc, hk, ?_, h3, hk2, hg⟩
  unfold k3B at h
  split at h
  · rename_i fs hu
    exact deep_law_laid hl (m := 3) (by omega) hrow hk2 (by rw [hu])
  · cases h
theorem K3Ty.keyOf {P : Program} {t : TypeId} (T : K3Ty P t) {h : List UInt8} (hl : h.length = 48) : ∃ l, keyOf P t (.agg (hcells h).toArray) = some l := by
  have hr := T.row
  unfold k3B at hr
  split at hr
  · rename_i fs hund
    split at hr
    · rename_i f0 f1 f2 hfs
      simp only [Bool.and_eq_true] at hr
      obtain ⟨⟨h0, h1⟩, h2⟩ := hr
      obtain ⟨o0, c0, ⟨e0, u0, v0, w0⟩, n0⟩ := arrFld_eq h0
      obtain ⟨o1, c1, ⟨e1, u1, v1, w1⟩, n1⟩ := arrFld_eq h1
      obtain ⟨o2, c2, ⟨e2, u2, v2, w2⟩, n2⟩ := arrFld_eq h2
      obtain ⟨fl⟩ := fs
      simp only at hfs
      subst hfs
      have hall : (#[f0, f1, f2] : Array Field).all (·.name != "_") = true := by simp [n0, n1, n2] <;> simp_all
      have hts : 2 ≤ P.types.size := by have := T.types; omega
      have p0 : (hcells h).take 16 = hcells (h.take 16) := by simp [hcells, List.map_take]
      have p1 : ((hcells h).drop 16).take 16 = hcells ((h.drop 16).take 16) := by simp [hcells, List.map_take, List.map_drop]
      have p2 : ((hcells h).drop 32).take 16 = hcells ((h.drop 32).take 16) := by simp [hcells, List.map_take, List.map_drop]
      have e : ∃ L, P.keyLits (P.types.size + 1) t (hcells h) = some L := by
        simp only [Program.keyLits, hund]
        rw [if_pos ⟨by rw [T.cells, hcells_len]; exact hl, hall⟩]
        simp only [List.mapM_cons, List.mapM_nil, o0, o1, o2, c0, c1, c2, List.drop_zero, p0, p1, p2]
        rw [lits_arr u0 v0 w0 c0 hts (by simp [hl]), lits_arr u1 v1 w1 c1 hts (by simp [hl]), lits_arr u2 v2 w2 c2 hts (by simp [hl])]
        exact ⟨_, rfl⟩
      obtain ⟨L, e⟩ := e
      unfold Go.keyOf
      rw [hund]
      simp only [T.key, Value.formed, hund, T.cells, Value.cells, Bool.true_and]
      rw [if_pos (by simp [hcells_len, hl])]
      exact ⟨_, by rw [e]; rfl⟩
    · cases hr
  · cases hr
theorem K3Ty.eq {P : Program} {t : TypeId} (T : K3Ty P t) {h g : List UInt8} (hl : h.length = 48) (gl : g.length = 48) (w : World) : (Op.equal t (.agg (hcells h).toArray) (.agg (hcells g).toArray)).run P w = .ok (decide (h = g)) w := by
  obtain ⟨lh, kh⟩ := T.keyOf hl
  obtain ⟨lg, kg⟩ := T.keyOf gl
  have hw : (match P.underlying t with | some (.array _ _) | some (.struct _) => true | _ => false) = true := by
    have h := T.row
    unfold k3B at h
    split at h
    · rename_i fs hund; rw [hund]
    · cases h
  obtain ⟨r, hr, hiff⟩ := run_equal_deep (P := P) w (m := 3) (by omega) T.key2 hw kh kg
  rw [hr]
  congr 1
  rw [Bool.eq_iff_iff, hiff, decide_eq_true_eq]
  constructor
  · intro e
    have := T.law.inj kh (kg.trans (by rw [e]))
    simp only [Value.agg.injEq] at this
    exact hcells_inj (by simpa using this)
  · rintro rfl; rw [kh] at kg; exact Option.some.inj kg
section
variable {P : Program} {ops : Array Oper} {Q : Exit → Act → World → Prop} {rest : List Item} {a : Act} {w w0 : World} {n : Nat} {R : Rg} {ds : List Deferred} {S : Nat → Prop} {L K : Blocks}
variable {f : Bool} {d : Nat} {ty : TypeId} {pos : String} {af : Array Edge}
theorem r_k3Eql {t yt : Nat} {x y : Operand} {h g : List UInt8} (T : K3Ty P t) (hS : StD ds n R a) (hSw : Sf f (Kp w0 S K) w) (hx : ev R x = some (.agg (hcells h).toArray)) (hy : ev R y = some (.agg (hcells g).toArray)) (hl : h.length = 48) (gl : g.length = 48) (hlt : Nat.blt d n = true)
    (k : ∀ a', StD ds n (up R d (.bool (decide (h = g)))) a' → Sq P ops Q rest a' w) : Sq P ops Q ((f, ⟨some d, .binOp .eql t x y yt, ty, pos, af, none⟩, Kp w0 S K) :: rest) a w :=
  r_cmp hS hSw hx hy hlt (fun w => by simp [eqGuard, T.guard]) (fun w => run_binEq (T.eq hl gl w)) k
theorem r_k3Neq {t yt : Nat} {x y : Operand} {h g : List UInt8} (T : K3Ty P t) (hS : StD ds n R a) (hSw : Sf f (Kp w0 S K) w) (hx : ev R x = some (.agg (hcells h).toArray)) (hy : ev R y = some (.agg (hcells g).toArray)) (hl : h.length = 48) (gl : g.length = 48) (hlt : Nat.blt d n = true)
    (k : ∀ a', StD ds n (up R d (.bool (!decide (h = g)))) a' → Sq P ops Q rest a' w) : Sq P ops Q ((f, ⟨some d, .binOp .neq t x y yt, ty, pos, af, none⟩, Kp w0 S K) :: rest) a w :=
  r_cmp hS hSw hx hy hlt (fun w => by simp [eqGuard, T.guard]) (fun w => run_binNe (T.eq hl gl w)) k
end
end Go.Sym
