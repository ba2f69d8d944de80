/- Rules of symbolic execution over any program of the model, that the claims of this folder use; part SymActs. Conditions: those that each rule names. -/
import Derived.Test.YtkhcbllphdhbdaaSymKeys
namespace Go.Sym
open Go
theorem Of2.len {ts ts' : List Tm} {h h' : List UInt8} {t u : Tm} {x : Int} (k : Of2 ts h t u h' x ts') : h'.length = 16 := by
  obtain ⟨h1, x1, ts1, k1, k2⟩ := k
  exact k2.len k1.len
theorem Of2.lens {ts ts' : List Tm} {h h' : List UInt8} {t u : Tm} {x : Int} (k : Of2 ts h t u h' x ts') : ts.length ≤ ts'.length ∧ ts'.length ≤ ts.length + 2 := by
  obtain ⟨h1, x1, ts1, k1, k2⟩ := k
  have := k1.lens; have := k2.lens; omega
theorem Of2.det {ts a b : List Tm} {h h1 h2 : List UInt8} {t s : Tm} {x1 x2 : Int} (u : Uq ts) (hb : ts.length ≤ 999999900) (q : Of2 ts h t s h1 x1 a) (k : Of2 ts h t s h2 x2 b) : h1 = h2 ∧ x1 = x2 ∧ a = b := by
  obtain ⟨g, y, tq, q1, q2⟩ := q
  obtain ⟨g', y', tk, k1, k2⟩ := k
  obtain ⟨rfl, rfl, rfl⟩ := q1.det u (by omega) k1
  have hl := q1.lens
  rcases q2 with ⟨hy, rfl, rfl, rfl⟩ | ⟨hy, q2⟩
  · rcases k2 with ⟨_, rfl, rfl, rfl⟩ | ⟨hy', _⟩
    · exact ⟨rfl, rfl, rfl⟩
    · exact absurd hy' hy
  · rcases k2 with ⟨hy', _⟩ | ⟨_, k2⟩
    · exact absurd hy hy'
    · exact q2.det (q1.uq u) (by omega) k2
theorem HandT.len {ts ts' : List Tm} {e h h' : List UInt8} {t u : Tm} {x : Int} (k : HandT ts e h t u h' x ts') : h'.length = 16 := by
  rcases k with ⟨_, _, rfl, _⟩ | ⟨_, k⟩
  · rfl
  · exact k.len
theorem HandT.lens {ts ts' : List Tm} {e h h' : List UInt8} {t u : Tm} {x : Int} (k : HandT ts e h t u h' x ts') : ts.length ≤ ts'.length ∧ ts'.length ≤ ts.length + 2 := by
  rcases k with ⟨_, _, _, rfl⟩ | ⟨_, k⟩
  · omega
  · exact k.lens
theorem HandT.det {ts a b : List Tm} {e h h1 h2 : List UInt8} {t s : Tm} {x1 x2 : Int} (u : Uq ts) (hb : ts.length ≤ 999999900) (q : HandT ts e h t s h1 x1 a) (k : HandT ts e h t s h2 x2 b) : h1 = h2 ∧ x1 = x2 ∧ a = b := by
  rcases q with ⟨hn, rfl, rfl, rfl⟩ | ⟨hy, q⟩
  · rcases k with ⟨_, rfl, rfl, rfl⟩ | ⟨hy, _⟩
    · exact ⟨rfl, rfl, rfl⟩
    · exact absurd hy hn
  · rcases k with ⟨hn, _⟩ | ⟨_, k⟩
    · exact absurd hy hn
    · exact q.det u hb k
def eH (h : List UInt8) : List UInt8 := if h = zH then nm 0 else h
/-! ### acts -/
structure AcT where
  k : Int
  a : Int
  b : Int
  s : ByteArray
  v : Value
  l : List UInt8
def AcT.cells (x : AcT) : List Value := [.int .i64 x.k, .int .i64 x.a, .int .i64 x.b, .string x.s, x.v]
/-- a row of acts in memory -/
def Acs (w : World) (q : Option Addr) (acs : List AcT) : Prop := ∀ (i : Nat) (x : AcT), acs[i]? = some x → x.s.size ≤ 9223372036854775807 ∧ x.l.length ≤ 1048576 ∧ Bs w x.v x.l ∧ ∃ b o, q = some ⟨b, o, none⟩ ∧ ∀ j u, x.cells[j]? = some u → w.cell? ⟨b, o + i * 5 + j, none⟩ = some u
theorem Acs.ext {w w' : World} {q : Option Addr} {acs : List AcT} (h : Acs w q acs) (k : Ext w w') : Acs w' q acs := fun i x hx => by
  obtain ⟨h1, h2, h3, b, o, e, hc⟩ := h i x hx
  exact ⟨h1, h2, h3.ext k, b, o, e, fun j u hu => k.cell_some (hc j u hu)⟩
section
variable {P : Program} {ops : Array Oper} {Q : Exit → Act → World → Prop} {rest : List Item} {a : Act} {w w0 : World} {n : Nat} {R : Rg} {ds : List Deferred} {S : Nat → Prop} {L K : Blocks}
variable {f : Bool} {d : Nat} {ty : TypeId} {pos : String} {af : Array Edge}
theorem r_load_cellsS {t b o m : Nat} {x : Operand} {l : List Value} (hS : StD ds n R a) (hx : ev R x = some (.pointer (some ⟨b, o, none⟩))) (ht : agB P t = some m) (hl : l.length = m) (hc : ∀ w, Kp w0 S K w → ∀ i u, l[i]? = some u → w.cell? ⟨b, o + i, none⟩ = some u) (hlt : Nat.blt d n = true)
    (k : ∀ a', StD ds n (up R d (.agg l.toArray)) a' → Sq P ops Q rest a' w) : Sq P ops Q ((true, ⟨some d, .load t x, ty, pos, af, none⟩, Kp w0 S K) :: rest) a w :=
  Sq.soft rfl (fun w' hw' => by simp [execOp, hS.val hx, Instr.loadAt, Instr.sureAddr, run_loadVar_cells ht hl (hc w' hw')]) (k _ (hS.put hlt _))
/-- a remainder of what isn't below nothing -/
theorem r_remN {t yt : TypeId} {x y : Operand} {m m' : Int} (r : Nat) (hS : StD ds n R a) (hSw : Sf f (Kp w0 S K) w) (hx : ev R x = some (.int .i64 m)) (hy : ev R y = some (.int .i64 m')) (h0 : m' ≠ 0) (he : m.tmod m' = (r : Int)) (hlt : Nat.blt d n = true)
    (k : ∀ a', StD ds n (up R d (.int .i64 (r : Int))) a' → Sq P ops Q rest a' w) : Sq P ops Q ((f, ⟨some d, .binOp .rem t x y yt, ty, pos, af, none⟩, Kp w0 S K) :: rest) a w :=
  r_bin hS hSw hx hy hlt (fun w => by simp [binOp, Op.intDiv, h0, he]) k
end
end Go.Sym
namespace Go.Sym
open Go
theorem SwL.six {x0 x1 x2 x3 x4 x5 y0 y1 y2 y3 y4 y5 : Nat × Obj} {M : Blocks} : SwL [x0, x1, x2, x3, x4, x5] [y0, y1, y2, y3, y4, y5] (x0 :: x1 :: x2 :: x3 :: x4 :: x5 :: M) (y0 :: y1 :: y2 :: y3 :: y4 :: y5 :: M) := SwL.here (M := M)
/-- a vault and the document's, both behind a call -/
theorem Hp.bothv {P : Program} {TV TT TH TV2 TT2 : Nat} {w w' w0 : World} {b b2 : Nat} {V V' : VB} {R R' : RB} {ts ts' : List Tm} {S : Nat → Prop} {L L' : Blocks} (h : Hp w0 S L w) (hVS : VS S w0 b V) (hRS : RS S w0 b2 R)
    (hF1 : ∀ z, V'.F b z → (V.F b z ∨ R.F b2 z) ∨ w.heap.size ≤ z) (hF2 : ∀ z, R'.F b2 z → (V.F b z ∨ R.F b2 z) ∨ w.heap.size ≤ z) (hM : Mod (fun z => V.F b z ∨ R.F b2 z) w w') (hin : VIn P TV TT TH w' b V' ts') (hri : RIn TV2 TT2 w' b2 R' ts')
    (n1 : TV2 ≠ TV) (n2 : TV2 ≠ TT) (n3 : TT2 ≠ TV) (n4 : TT2 ≠ TT)
    (p : SwL [(b, .cells (V.top ts.length).toArray TV (0, 0)), (V.sb, .cells V.l.toArray TT (0, 0)), (V.fb, .map V.es V.c), (V.nb, .map V.es' V.c'), (b2, .cells (R.top ts.length).toArray TV2 (0, 0)), (R.sb, .cells R.l.toArray TT2 (0, 0))]
      [(b, .cells (V'.top ts'.length).toArray TV (0, 0)), (V'.sb, .cells V'.l.toArray TT (0, 0)), (V'.fb, .map V'.es V'.c), (V'.nb, .map V'.es' V'.c'), (b2, .cells (R'.top ts'.length).toArray TV2 (0, 0)), (R'.sb, .cells R'.l.toArray TT2 (0, 0))] L L') : Hp w0 S L' w' := by
  refine h.swap (F := fun z => V.F b z ∨ R.F b2 z) (F' := fun z => V'.F b z ∨ R'.F b2 z) (fun x => by simp [VB.F, RB.F, or_assoc]) (fun y hy => by simpa [VB.F, RB.F, or_assoc] using hy) (fun x hx => hx.elim (hVS x) (hRS x)) (fun x hx => hx.elim (hF1 x) (hF2 x)) hM (fun q hq => ?_) ?_ p
  · simp only [List.mem_cons, List.not_mem_nil, or_false] at hq
    rcases hq with rfl | rfl | rfl | rfl | rfl | rfl
    · exact hin.h0
    · exact hin.h1
    · exact hin.h2
    · exact hin.h3
    · exact hri.h0
    · exact hri.h1
  · have k1 := hin.notF hri.h0 n1 n2
    have k2 := hin.notF hri.h1 n3 n4
    have nd := hin.nd
    simp only [VB.F, not_or] at k1 k2
    simp only [List.nodup_cons, List.mem_cons, List.not_mem_nil, or_false, not_or, not_false_eq_true, List.nodup_nil, and_true] at nd
    simp only [List.map_cons, List.map_nil, List.nodup_cons, List.mem_cons, List.not_mem_nil, or_false, not_or, not_false_eq_true, List.nodup_nil, and_true]
    have := hri.n01
    omega
theorem rem_idx (a : Int) (m : Nat) (h0 : 0 ≤ a) (hm : 0 < m) : ∃ r : Nat, r < m ∧ a.tmod (m : Int) = (r : Int) := by
  refine ⟨(a.tmod (m : Int)).toNat, ?_, ?_⟩
  · rw [Int.tmod_eq_emod_of_nonneg h0]
    have h1 := Int.emod_nonneg a (b := (m : Int)) (by omega)
    have h2 := Int.emod_lt_of_pos a (b := (m : Int)) (by omega)
    omega
  · rw [Int.tmod_eq_emod_of_nonneg h0]
    have h1 := Int.emod_nonneg a (b := (m : Int)) (by omega)
    omega
end Go.Sym
