/- Rules of symbolic execution over any program of the model, that the claims of this folder use; part SymSet. Conditions: those that each rule names. -/
import Derived.Test.YtkhcbllphdhbdaaSymRound
namespace Go.Sym
open Go
section
variable {P : Program} {ops : Array Oper} {Q : Exit → Act → World → Prop} {rest : List Item} {a : Act} {w w0 : World} {n : Nat} {R : Rg} {ds : List Deferred} {S : Nat → Prop} {L K : Blocks}
variable {f : Bool} {d : Nat} {ty : TypeId} {pos : String} {af : Array Edge}
/-- clear of a slice of one element -/
theorem r_clear1 {t e b cap : Nat} {x : Operand} {l zs : List Value} {L' : List Value → Blocks} (hS : StD ds n R a) (hH : Hp w0 S L w) (hx : ev R x = some (.slice (some ⟨b, 0, none⟩) 1 cap)) (hu : P.underlying t = some (.slice e)) (hzc : zcB P e = some zs) (hz : (Builtin.zeroCells zs.toArray 1).toList = zs) (h1 : ∀ u ∈ zs, u.oneCell' = true) (hl : zs.length ≤ l.length)
    (hi : ∀ l', Put b (.cells l.toArray e (0, 0)) (.cells l'.toArray e (0, 0)) L (L' l')) (hs : ∀ l', Sub K (L' l')) (hw : S b ∨ w0.heap.size ≤ b)
    (k : ∀ (w' : World) (l' : List Value), l'.length = l.length → Hp w0 S (L' l') w' → Sq P ops Q rest a w') :
    Sq P ops Q ((false, ⟨none, .call ⟨.builtin .clear, #[x], #[t]⟩, ty, pos, af, none⟩, Kp w0 S K) :: rest) a w := by
  obtain ⟨z, hzr, hzc'⟩ := run_zero hzc w
  obtain ⟨w', hr, hq⟩ := run_storeCells (P := P) zs l 0 0 w (hH.blk _ (hi []).old) h1 (by omega)
  have hH' := hH.turned (hi _) hq hw
  have hrun : (Builtin.clear_ #[t] ty #[.slice (some ⟨b, 0, none⟩) 1 cap]).run P w = .ok (.tuple #[]) w' := by
    simp only [Builtin.clear_, List.getElem?_toArray, List.getElem?_cons_zero, Sem.run_bind, run_underlying hu, Result.andThen_ok, hzr, hzc', hz, hr, Sem.run_pure]
  refine Sq.done (v := .tuple #[]) (w' := w') rfl ?_ (hH'.kp (hs _)) (k w' _ (by rw [wr_length]) hH')
  simp only [execOp, resolve, Sem.run_bind, Sem.run_pure, Result.andThen_ok, invoke, builtin, List.map_toArray, List.map_cons, List.map_nil, hS.val hx, hrun]
end
/-! ### sets of at most one span -/
def SLv (w : World) (T : TypeId) (gb : Nat) (v : Value) (m : Nat) (xs : List Value) : Prop :=
  (v = .slice none 0 0 ∧ m = 0 ∧ xs = []) ∨ ∃ (sb cap : Nat) (l : List Value), v = .slice (some ⟨sb, 0, none⟩) m cap ∧ sb ≠ gb ∧ w.heap[sb]? = some (.cells l.toArray T (0, 0)) ∧ l.length = cap * 2 ∧ m ≤ cap ∧ l.take (m * 2) = xs
structure SetIn (TS T : TypeId) (w : World) (gb : Nat) (v : Value) (m : Nat) (xs : List Value) : Prop where
  head : w.heap[gb]? = some (.cells ([.bool true, v] : List Value).toArray TS (0, 0))
  row : SLv w T gb v m xs
def SF (gb : Nat) (v : Value) (z : Nat) : Prop := z = gb ∨ ∃ m cap, v = .slice (some ⟨z, 0, none⟩) m cap
theorem SetIn.go {TS T : TypeId} {w w' : World} {gb m : Nat} {v : Value} {xs : List Value} {F : Nat → Prop} (h : SetIn TS T w gb v m xs) (k : Mod F w w') (hF : ∀ z, SF gb v z → ¬ F z) : SetIn TS T w' gb v m xs := by
  refine ⟨k.heap_some h.head (hF gb (.inl rfl)), ?_⟩
  rcases h.row with h | ⟨sb, cap, l, rfl, h1, h2, h3⟩
  · exact .inl h
  · exact .inr ⟨sb, cap, l, rfl, h1, k.heap_some h2 (hF sb (.inr ⟨_, _, rfl⟩)), h3⟩
theorem SetIn.lt {TS T : TypeId} {w : World} {gb m : Nat} {v : Value} {xs : List Value} (h : SetIn TS T w gb v m xs) : ∀ z, SF gb v z → z < w.heap.size := by
  rintro z (rfl | ⟨m', c', e⟩)
  · exact lt_of_block h.head
  · rcases h.row with ⟨rfl, _⟩ | ⟨sb, cap, l, rfl, h1, h2, h3⟩
    · cases e
    · cases e; exact lt_of_block h2
theorem SetIn.one {TS T : TypeId} {w : World} {gb : Nat} {v : Value} {xs : List Value} (h : SetIn TS T w gb v 1 xs) : ∃ (sb cap : Nat) (l : List Value), v = .slice (some ⟨sb, 0, none⟩) 1 cap ∧ sb ≠ gb ∧ w.heap[sb]? = some (.cells l.toArray T (0, 0)) ∧ l.length = cap * 2 ∧ 1 ≤ cap ∧ l.take 2 = xs := by
  rcases h.row with ⟨_, h, _⟩ | h
  · cases h
  · exact h
/-- what a call on a set may have changed -/
structure SStep (w w' : World) (gb : Nat) (v v' : Value) : Prop where
  mod : Mod (SF gb v) w w'
  new : ∀ z, SF gb v' z → SF gb v z ∨ w.heap.size ≤ z
theorem SStep.of_ext {w w' : World} {gb : Nat} {v : Value} (h : Ext w w') : SStep w w' gb v v := ⟨h.mono (fun _ h => h.elim), fun _ h => .inl h⟩
/-- the numbers from a on, below b -/
def span1 (a b : Nat) : List Value := [.int .i64 (a : Int), .int .i64 (b : Int)]
end Go.Sym

namespace Go.Sym
open Go
section
variable {P : Program} {ops : Array Oper} {Q : Exit → Act → World → Prop} {rest : List Item} {a : Act} {w w0 : World} {n : Nat} {R : Rg} {ds : List Deferred} {S : Nat → Prop} {L K : Blocks}
variable {f : Bool} {d : Nat} {ty : TypeId} {pos : String} {af : Array Edge}
/-- append where there is room: in place -/
theorem r_append_in {t t2 e es by' m cap k b : Nat} {x y : Operand} {vy : Value} {l new : List Value} {L' : Blocks} (hS : StD ds n R a) (hH : Hp w0 S L w) (hx : ev R x = some (.slice (some ⟨b, 0, none⟩) m cap)) (hy : ev R y = some vy)
    (hi : Put b (.cells l.toArray e (0, 0)) (.cells (wr l (m * es) new).toArray e (0, 0)) L L') (hs : Sub K L') (he : elB P t = some (e, es, by')) (h2 : notInt P t2 = true) (hl : l.length = cap * es) (hsrc : Src P es w vy k new) (hroom : m + k ≤ cap) (hw : S b ∨ w0.heap.size ≤ b) (hlt : Nat.blt d n = true)
    (kk : ∀ (a' : Act) (w' : World), StD ds n (up R d (.slice (some ⟨b, 0, none⟩) (m + k) cap)) a' → Hp w0 S L' w' → Sq P ops Q rest a' w') :
    Sq P ops Q ((false, ⟨some d, .call ⟨.builtin .append, #[x, y], #[t, t2]⟩, ty, pos, af, none⟩, Kp w0 S K) :: rest) a w := by
  have hfit : 0 + m * es + new.length ≤ l.length := by rw [hsrc.size, Nat.zero_add, ← Nat.add_mul, hl]; exact Nat.mul_le_mul_right _ hroom
  obtain ⟨w', hr, hq⟩ := run_append_room' (P := P) (ty := ty) he h2 hsrc (hH.blk _ hi.old) hroom hfit
  rw [Nat.zero_add] at hq
  have hH' := hH.turned hi hq hw
  exact Sq.done rfl (run_append_op hS hx hy hr) (hH'.kp hs) (kk _ w' (hS.put hlt _) hH')
end
theorem src_nil {P : Program} {es : Nat} {w : World} : Src P es w (.slice none 0 0) 0 [] := (⟨rfl, by simp, Nat.le_refl _, fun i u h => by simp at h, fun _ => rfl⟩ : Sl es w (.slice none 0 0) [] 0 none 0).src (by simp)
theorem src_sp {P : Program} {w : World} {b : Nat} {T : TypeId} {x y : Int} (h : w.heap[b]? = some (.cells ([.int .i64 x, .int .i64 y] : List Value).toArray T (0, 0))) : Src P 2 w (.slice (some ⟨b, 0, none⟩) 1 1) 1 [.int .i64 x, .int .i64 y] :=
  (Sl.of_block (es := 2) (m := 1) (cap := 1) h (by simp) (Nat.le_refl _)).src (by intro u hu; simp only [Nat.one_mul, List.take_succ_cons, List.take_zero, List.mem_cons, List.not_mem_nil, or_false] at hu; rcases hu with rfl | rfl <;> rfl)
theorem src_row {P : Program} {w : World} {b c : Nat} {T : TypeId} {l : List Value} {x y : Int} (h : w.heap[b]? = some (.cells l.toArray T (0, 0))) (hl : l.length = c * 2) (hc : 1 ≤ c) (ht : l.take 2 = [.int .i64 x, .int .i64 y]) : Src P 2 w (.slice (some ⟨b, 0, none⟩) 1 c) 1 [.int .i64 x, .int .i64 y] := by
  have := (Sl.of_block (es := 2) (m := 1) (cap := c) h (by omega) hc).src (by rw [Nat.one_mul, ht]; intro u hu; simp only [List.mem_cons, List.not_mem_nil, or_false] at hu; rcases hu with rfl | rfl <;> rfl) (P := P)
  rwa [Nat.one_mul, ht] at this
/-- a call that turned one known block, and laid what it tells there or anew -/
theorem Hp.turn1 {w0 w w1 : World} {S : Nat → Prop} {L L' : Blocks} {sb cb : Nat} {o o' : Obj} (h : Hp w0 S L w) (hd : Del sb o L L') (hM : Mod (· = sb) w w1) (hS : S sb ∨ w0.heap.size ≤ sb) (hcb : cb = sb ∨ w.heap.size ≤ cb) (hck : w1.heap[cb]? = some o') : Hp w0 S ((cb, o') :: L') w1 := by
  have hne := hd.ne h.nd
  have h' := h.del hd
  have h1 : Hp w0 S L' w1 := ⟨fun p hp => (hM.block p.1 (lt_of_block (h'.blk p hp)) (hne p hp)).trans (h'.blk p hp), h'.nd, h.mod.trans hM (fun c hc hcs => by
    subst hcs; rcases hS with e | e
    · exact e
    · omega)⟩
  refine h1.know hck (fun p hp => ?_)
  rcases hcb with rfl | e
  · exact hne p hp
  · have := lt_of_block (h'.blk p hp); omega
theorem row2 {l : List Value} {x y : Value} (h : l.take 2 = [x, y]) : nthV l 0 = some x ∧ nthV l 1 = some y := by
  constructor
  · rw [nthV_eq]; have := congrArg (·[0]?) h; simpa [List.getElem?_take] using this
  · rw [nthV_eq]; have := congrArg (·[1]?) h; simpa [List.getElem?_take] using this
theorem wr2 {l : List Value} {x y : Value} (h : 2 ≤ l.length) : (wr l 0 [x, y]).take 2 = [x, y] := by
  match l, h with
  | u :: v :: r, _ => rfl
end Go.Sym
namespace Go.Sym
open Go
/-- the blocks that a call did not touch, from a world on -/
theorem Hp.base {w0 w w1 : World} {S F : Nat → Prop} {L : Blocks} (h : Hp w0 S L w) (hM : Mod F w w1) (hF : ∀ p ∈ L, ¬ F p.1) (S' : Nat → Prop) : Hp w1 S' L w1 :=
  ⟨fun p hp => hM.heap_some (h.blk p hp) (hF p hp), h.nd, Mod.refl _ _⟩
theorem Hp.wide {w0 w : World} {S S' : Nat → Prop} {L : Blocks} (h : Hp w0 S L w) (k : ∀ x, S x → S' x) : Hp w0 S' L w := ⟨h.blk, h.nd, h.mod.mono k⟩
/-- a call that changed none of the known blocks -/
theorem Hp.past {w0 w w1 : World} {S F : Nat → Prop} {L : Blocks} (h : Hp w0 S L w) (hM : Mod F w w1) (hF : ∀ p ∈ L, ¬ F p.1) (hS : ∀ x, F x → S x) : Hp w0 S L w1 :=
  ⟨fun p hp => hM.heap_some (h.blk p hp) (hF p hp), h.nd, h.mod.trans hM (fun c _ hc => hS c hc)⟩
end Go.Sym
