/- Rules of symbolic execution over any program of the model, that the claims of this folder use; part SymBytes. Conditions: those that each rule names. -/
import Derived.Test.YtkhcbllphdhbdaaSymVault
namespace Go.Sym
open Go

theorem DF {p : Prop} [Decidable p] (h : ¬ p) : decide p = false := decide_eq_false h
theorem DT {p : Prop} [Decidable p] (h : p) : decide p = true := decide_eq_true h
/-- bytes that stay, whatever is done to blocks of F -/
def BsF (F : Nat → Prop) (w : World) (v : Value) (l : List UInt8) : Prop := ∀ w', Mod F w w' → Bs w' v l
theorem BsF.bs {F : Nat → Prop} {w : World} {v : Value} {l : List UInt8} (h : BsF F w v l) : Bs w v l := h w (Mod.refl _ _)
theorem Bs.f {w : World} {v : Value} {l : List UInt8} (h : Bs w v l) : BsF Nobody w v l := fun _ k => h.ext k
theorem Mod.go {F F' : Nat → Prop} {w w1 w2 : World} (k : Mod F w w1) (k' : Mod F' w1 w2) (hF : ∀ x, F' x → F x ∨ w.heap.size ≤ x) : Mod F w w2 :=
  k.trans k' (fun c hc hx => by
    rcases hF c hx with e | e
    · exact e
    · omega)
theorem BsF.go {F F' : Nat → Prop} {w w1 : World} {v : Value} {l : List UInt8} (h : BsF F w v l) (k : Mod F w w1) (hF : ∀ x, F' x → F x ∨ w.heap.size ≤ x) : BsF F' w1 v l := fun _ k' => h _ (k.go k' hF)
theorem BsF.nil (F : Nat → Prop) (w : World) : BsF F w (.slice none 0 0) [] := fun w' _ => Bs.nil w'
theorem BsF.block {F : Nat → Prop} {w : World} {c : Nat} {h : List UInt8} {T : TypeId} {fz : Nat × Nat} (hb : w.heap[c]? = some (.cells (hcells h).toArray T fz)) (hl : h.length = 16) (hn : ¬ F c) : BsF F w (.slice (some ⟨c, 0, none⟩) 16 16) h := fun _ k => Bs.handle (k.heap_some hb hn) hl
/-- a list of lists of bytes -/
def SlB (w : World) (v : Value) (ls : List (List UInt8)) : Prop := ∃ (vs : List Value) (p : Option Addr) (cap : Nat), Sl 1 w v vs ls.length p cap ∧ ∀ (i : Nat) (x : Value), vs[i]? = some x → ∃ l, ls[i]? = some l ∧ Bs w x l
theorem SlB.ext {w w' : World} {v : Value} {ls : List (List UInt8)} (h : SlB w v ls) (k : Ext w w') : SlB w' v ls := by
  obtain ⟨vs, p, cap, h1, h2⟩ := h
  exact ⟨vs, p, cap, h1.ext k, fun i x hx => by obtain ⟨l, e, hb⟩ := h2 i x hx; exact ⟨l, e, hb.ext k⟩⟩
theorem SlB.nil (w : World) : SlB w (.slice none 0 0) [] := ⟨[], none, 0, ⟨rfl, by simp, Nat.le_refl _, fun i u h => by simp at h, fun _ => rfl⟩, fun i x h => by simp at h⟩
theorem SlB.one {w : World} {b : Nat} {x : Value} {l : List UInt8} {T : TypeId} {fz : Nat × Nat} (hb : w.heap[b]? = some (.cells [x].toArray T fz)) (h : Bs w x l) : SlB w (.slice (some ⟨b, 0, none⟩) 1 1) [l] :=
  ⟨[x], _, 1, Sl.of_block hb (by simp) (Nat.le_refl _), fun i u hu => by
    match i, hu with
    | 0, hu => simp at hu; subst hu; exact ⟨l, rfl, h⟩⟩
def SlBF (F : Nat → Prop) (w : World) (v : Value) (ls : List (List UInt8)) : Prop := ∀ w', Mod F w w' → SlB w' v ls
theorem SlBF.go {F F' : Nat → Prop} {w w1 : World} {v : Value} {ls : List (List UInt8)} (h : SlBF F w v ls) (k : Mod F w w1) (hF : ∀ x, F' x → F x ∨ w.heap.size ≤ x) : SlBF F' w1 v ls := fun _ k' => h _ (k.go k' hF)
theorem SlBF.nil (F : Nat → Prop) (w : World) : SlBF F w (.slice none 0 0) [] := fun w' _ => SlB.nil w'
theorem SlBF.one {F : Nat → Prop} {w : World} {b : Nat} {x : Value} {l : List UInt8} {T : TypeId} {fz : Nat × Nat} (hb : w.heap[b]? = some (.cells [x].toArray T fz)) (hn : ¬ F b) (h : BsF F w x l) : SlBF F w (.slice (some ⟨b, 0, none⟩) 1 1) [l] := fun w' k => SlB.one (k.heap_some hb hn) (h w' k)
/-- in a list of known blocks a block stands but once -/
theorem Hp.ne {w0 w : World} {S : Nat → Prop} {L : Blocks} {x y : Nat} {ox oy : Obj} (h : Hp w0 S L w) (k : Sub [(x, ox), (y, oy)] L) (nd : ox ≠ oy) : x ≠ y := by
  intro e
  subst e
  have h1 := h.blk (x, ox) (k.mem _ (by simp))
  have h2 := h.blk (x, oy) (k.mem _ (by simp))
  simp only at h1 h2
  rw [h1] at h2
  exact nd (Option.some.inj h2)
theorem VIn.lt {P : Program} {TV TT TH : Nat} {w : World} {b : Nat} {V : VB} {ts : List Tm} (h : VIn P TV TT TH w b V ts) : ∀ x, V.F b x → x < w.heap.size := by
  intro x hx
  rcases hx with rfl | rfl | rfl | rfl
  · exact lt_of_block h.h0
  · exact lt_of_block h.h1
  · exact lt_of_block h.h2
  · exact lt_of_block h.h3
theorem Own.bsF {B : Nat} {e : TypeId} {w : World} {v : Value} {l : List UInt8} {F : Nat → Prop} (h : Own B 1 e w v l.length (l.map byteV)) (hF : ∀ x, F x → x < B) : BsF F w v l := by
  intro w' k
  refine Own.bs (B := B) (e := e) ?_
  rcases h with h | ⟨b, cap, l, h1, h2, hb, h3⟩
  · exact .inl h
  · exact .inr ⟨b, cap, l, h1, h2, k.heap_some hb (fun hx => by have := hF b hx; omega), h3⟩
theorem nm0_ne : nm 0 ≠ zH := by decide +kernel
theorem NxT.zero {ts ts' : List Tm} {h h' : List UInt8} {t : Tm} {x : Int} (k : NxT ts h 0 t h' x ts') : OfT ts h t h' x ts' := by
  rcases k with ⟨h, _⟩ | ⟨_, k⟩
  · exact absurd rfl h
  · exact k
theorem NxT.len {ts ts' : List Tm} {h h' : List UInt8} {t : Tm} {x x' : Int} (hh : h.length = 16) (k : NxT ts h x t h' x' ts') : h'.length = 16 := by
  rcases k with ⟨_, rfl, _⟩ | ⟨_, k⟩
  · exact hh
  · exact k.len
/-- two steps of a chain -/
def Of2 (ts : List Tm) (h : List UInt8) (t u : Tm) (h' : List UInt8) (x' : Int) (ts' : List Tm) : Prop := ∃ h1 x1 ts1, OfT ts h t h1 x1 ts1 ∧ NxT ts1 h1 x1 u h' x' ts'
def HandT (ts : List Tm) (early shared : List UInt8) (t u : Tm) (h' : List UInt8) (x' : Int) (ts' : List Tm) : Prop :=
  ((¬ ∃ i, i < ts.length ∧ early = nm i) ∧ x' = 15 ∧ h' = zH ∧ ts' = ts) ∨ ((∃ i, i < ts.length ∧ early = nm i) ∧ Of2 ts shared t u h' x' ts')
end Go.Sym
