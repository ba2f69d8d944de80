/- Rules of symbolic execution over any program of the model, that the claims of this folder use; part SymAgree. Conditions: those that each rule names. -/
import Derived.Test.YtkhcbllphdhbdaaSymKnow2
namespace Go.Sym
open Go
def pubT : Tm := ⟨3, 0, 0, 0, .empty, .empty, .empty⟩
def sgnT (l : ByteArray) : Tm := ⟨5, 0, 0, 0, .empty, .empty, l⟩
def agrT (a b : Nat) : Tm := ⟨4, a, b, 0, .empty, .empty, .empty⟩
theorem pubT_ok : pubT.ok := tm_ok (by decide) (by decide) (by decide) (by decide)
theorem sgnT_ok {l : ByteArray} (h : l.size ≤ 9223372036854775807) : (sgnT l).ok := tm_ok (by decide) (by decide) (by decide) h
theorem agrT_ok {a b : Nat} (ha : a ≤ 1000000000) (hb : b ≤ 1000000000) : (agrT a b).ok := tm_ok ⟨by decide, by show 0 ≤ (a : Int) ∧ (a : Int) ≤ _; omega, by show 0 ≤ (b : Int) ∧ (b : Int) ≤ _; omega, by decide⟩ (by decide) (by decide) (by decide)
theorem Made.new {ts ts' : List Tm} {t : Tm} {i : Nat} (h : Made ts t i ts') (hn : t ∉ ts) : i = ts.length ∧ ts' = ts ++ [t] := by
  rcases h with ⟨_, h, _⟩ | ⟨_, h1, h2⟩
  · exact absurd (List.mem_of_getElem? h) hn
  · exact ⟨h1, h2⟩
theorem Made.old {ts ts' : List Tm} {t : Tm} {i j : Nat} (u : Uq ts) (h : Made ts t i ts') (hj : ts[j]? = some t) (hk : t.kind ≠ 1) : i = j ∧ ts' = ts := by
  rcases h with ⟨_, h, rfl⟩ | ⟨h, _, _⟩
  · exact ⟨u _ _ _ h hj hk, rfl⟩
  · rcases h with h | h
    · exact absurd h hk
    · exact absurd (List.mem_of_getElem? hj) h
theorem OfT.new {ts ts' : List Tm} {i : Nat} {t : Tm} {h' : List UInt8} {x : Int} (hi : i < ts.length) (hb : ts.length ≤ 1000000000) (k : OfT ts (nm i) t h' x ts') (hn : { t with a := (i : Int) } ∉ ts) : x = 0 ∧ h' = nm ts.length ∧ ts' = ts ++ [{ t with a := (i : Int) }] := by
  rcases k with ⟨i', j, h1, h2, rfl, rfl, hm⟩ | ⟨h1, _⟩
  · obtain rfl : i = i' := nm_inj (by omega) (by omega) h2
    obtain ⟨rfl, e⟩ := hm.new hn
    exact ⟨rfl, rfl, e⟩
  · exact absurd rfl (h1 i hi)
/-- what Verify tells -/
theorem ver_yes {P : Program} {TT TH : Nat} {V : VB} {ts : List Tm} (h : VOk P TT TH V ts) {n s : Nat} {t : Tm} (hn : ts[n]? = some t) (hk : t.kind ≠ 1) : n = s ↔ ts[s]? = some t :=
  ⟨fun e => by rw [← e]; exact hn, fun e => h.uniq hn e hk⟩
end Go.Sym
namespace Go.Sym
open Go
section
variable {P : Program} {ops : Array Oper} {Q : Exit → Act → World → Prop} {rest : List Item} {a : Act} {w w0 : World} {n : Nat} {R : Rg} {ds : List Deferred} {S : Nat → Prop} {L K : Blocks}
variable {f : Bool} {d : Nat} {ty : TypeId} {pos : String} {af : Array Edge}
theorem r_minN {x y : Operand} {ts : Array TypeId} {m k : Nat} (hS : StD ds n R a) (hSw : Sf f (Kp w0 S K) w) (hx : ev R x = some (.int .i64 (m : Int))) (hy : ev R y = some (.int .i64 (k : Int))) (hlt : Nat.blt d n = true)
    (j : ∀ a', StD ds n (up R d (.int .i64 ((min m k : Nat) : Int))) a' → Sq P ops Q rest a' w) : Sq P ops Q ((f, ⟨some d, .call ⟨.builtin .min, #[x, y], ts⟩, ty, pos, af, none⟩, Kp w0 S K) :: rest) a w := by
  refine r_pure hS hSw hlt (fun w => ?_) j
  have e : min (m : Int) (k : Int) = ((min m k : Nat) : Int) := by omega
  simp only [execOp, resolve, Sem.run_bind, Sem.run_pure, Result.andThen_ok, invoke, builtin, List.map_toArray, List.map_cons, List.map_nil, hS.val hx, hS.val hy, Builtin.min_, List.foldlM_cons, List.foldlM_nil, Builtin.min2]
  by_cases h : (m : Int) ≤ (k : Int)
  · rw [Nat.min_eq_left (by omega)]; simp [h] <;> omega
  · rw [Nat.min_eq_right (by omega)]; simp [h] <;> omega
theorem r_maxN {x y : Operand} {ts : Array TypeId} {m k : Nat} (hS : StD ds n R a) (hSw : Sf f (Kp w0 S K) w) (hx : ev R x = some (.int .i64 (m : Int))) (hy : ev R y = some (.int .i64 (k : Int))) (hlt : Nat.blt d n = true)
    (j : ∀ a', StD ds n (up R d (.int .i64 ((max m k : Nat) : Int))) a' → Sq P ops Q rest a' w) : Sq P ops Q ((f, ⟨some d, .call ⟨.builtin .max, #[x, y], ts⟩, ty, pos, af, none⟩, Kp w0 S K) :: rest) a w := by
  refine r_pure hS hSw hlt (fun w => ?_) j
  simp only [execOp, resolve, Sem.run_bind, Sem.run_pure, Result.andThen_ok, invoke, builtin, List.map_toArray, List.map_cons, List.map_nil, hS.val hx, hS.val hy, Builtin.max_, List.foldlM_cons, List.foldlM_nil, Builtin.max2]
  by_cases h : (m : Int) ≤ (k : Int)
  · rw [Nat.max_eq_right (by omega)]; simp [h] <;> omega
  · rw [Nat.max_eq_left (by omega)]; simp [h] <;> omega
end
end Go.Sym
namespace Go.Sym
open Go
theorem VOk.fld {P : Program} {TT TH : Nat} {V : VB} {ts : List Tm} (h : VOk P TT TH V ts) {i q : Nat} {t : Tm} {v : Value} (hi : ts[i]? = some t) (hq : t.cells[q]? = some v) : nthV V.l (0 + i * 7 + q) = some v := by
  obtain ⟨h1, h2⟩ := h.row hi
  have hq7 : q < 7 := by have := (List.getElem?_eq_some_iff.1 hq).1; rw [Tm.cells_len] at this; exact this
  rw [nthV_eq, Nat.zero_add]
  rw [← h1] at hq
  simp only [rd, List.getElem?_take, List.getElem?_drop] at hq
  rw [if_pos hq7] at hq
  exact hq
end Go.Sym
namespace Go.Sym
open Go
theorem SlG.two {F : Nat → Prop} {w : World} {c : Nat} {T : TypeId} {fz : Nat × Nat} {l m : List UInt8} (x y : Value) (hb : w.heap[c]? = some (.cells [x, y].toArray T fz)) (hF : ¬ F c) (h1 : BsF F w x l) (h2 : BsF F w y m) : SlG F w (.slice (some ⟨c, 0, none⟩) 2 2) [l, m] :=
  SlG.block (xs := [x, y]) hb hF rfl (Nat.le_refl 2) rfl (Nat.le_refl 2) (fun i u hu => by
    match i, hu with
    | 0, hu => simp at hu; subst hu; exact ⟨l, rfl, h1⟩
    | 1, hu => simp at hu; subst hu; exact ⟨m, rfl, h2⟩)
theorem SlG.one {F : Nat → Prop} {w : World} {c : Nat} {T : TypeId} {fz : Nat × Nat} {l : List UInt8} (x : Value) (hb : w.heap[c]? = some (.cells [x].toArray T fz)) (hF : ¬ F c) (h1 : BsF F w x l) : SlG F w (.slice (some ⟨c, 0, none⟩) 1 1) [l] :=
  SlG.block (xs := [x]) hb hF rfl (Nat.le_refl 1) rfl (Nat.le_refl 1) (fun i u hu => by
    match i, hu with
    | 0, hu => simp at hu; subst hu; exact ⟨l, rfl, h1⟩)
end Go.Sym
namespace Go.Sym
open Go
/-- values that are bytes, one by one -/
inductive BL (F : Nat → Prop) (w : World) : List Value → List (List UInt8) → Prop
  | nil : BL F w [] []
  | cons {x : Value} {l : List UInt8} {xs : List Value} {ls : List (List UInt8)} : BsF F w x l → BL F w xs ls → BL F w (x :: xs) (l :: ls)
theorem BL.get {F : Nat → Prop} {w : World} {xs : List Value} {ls : List (List UInt8)} (h : BL F w xs ls) : ∀ (i : Nat) (x : Value), xs[i]? = some x → ∃ l, ls[i]? = some l ∧ BsF F w x l := by
  induction h with
  | nil => intro i x hx; simp at hx
  | cons hb _ ih =>
    intro i x hx
    cases i with
    | zero => simp at hx; subst hx; exact ⟨_, rfl, hb⟩
    | succ i => simpa using ih i x (by simpa using hx)
theorem BL.snoc {F : Nat → Prop} {w : World} {xs : List Value} {ls : List (List UInt8)} {x : Value} {l : List UInt8} (h : BL F w xs ls) (hb : BsF F w x l) : BL F w (xs ++ [x]) (ls ++ [l]) := by
  induction h with
  | nil => exact .cons hb .nil
  | cons h1 _ ih => exact .cons h1 ih
theorem SlG.bl {F : Nat → Prop} {w : World} {c m cap : Nat} {cs : List Value} {T : TypeId} {fz : Nat × Nat} {ls : List (List UInt8)} (xs : List Value) (hb : w.heap[c]? = some (.cells cs.toArray T fz)) (hF : ¬ F c) (hm : ls.length = m) (hc : m ≤ cap) (hx : cs.take m = xs) (hl : m ≤ cs.length) (h : BL F w xs ls) : SlG F w (.slice (some ⟨c, 0, none⟩) m cap) ls := SlG.block hb hF hm hc hx hl h.get
theorem Hp.tail3 {w w0 : World} {S : Nat → Prop} {x y z : Nat × Obj} {L : Blocks} (h : Hp w0 S (x :: y :: z :: L) w) : Hp w0 S L w :=
  ⟨fun p hp => h.blk p (by simp [hp]), by have := h.nd; simp only [List.map_cons, List.nodup_cons] at this; exact this.2.2.2, h.mod⟩
section
variable {P : Program} {ops : Array Oper} {Q : Exit → Act → World → Prop} {rest : List Item} {a : Act} {w w0 : World} {n : Nat} {R : Rg} {ds : List Deferred} {S : Nat → Prop} {L K : Blocks}
variable {f : Bool} {d : Nat} {ty : TypeId} {pos : String} {af : Array Edge}
/-- append where there is no room: a new row -/
theorem r_append_new {t t2 e es by' k m cap : Nat} {x y : Operand} {vy : Value} {old new : List Value} {p : Option Addr} (hS : StD ds n R a) (hH : Hp w0 S L w) (hs : Sub K L) (hx : ev R x = some (.slice p m cap)) (hy : ev R y = some vy) (hold : Sl es w (.slice p m cap) old m p cap)
    (he : elB P t = some (e, es, by')) (h2 : notInt P t2 = true) (hsrc : Src P es w vy k new) (hroom : cap < m + k) (hbytes : (m + k) * by' ≤ 140737488355328) (hlt : Nat.blt d n = true)
    (kk : ∀ (a' : Act) (w' : World) (b' c : Nat) (l2 : List Value), w0.heap.size ≤ b' → w.heap.size ≤ b' → l2.length = c * es → m + k ≤ c → l2.take ((m + k) * es) = old ++ new → StD ds n (up R d (.slice (some ⟨b', 0, none⟩) (m + k) c)) a' → Hp w0 S ((b', .cells l2.toArray e (0, 0)) :: L) w' → Sq P ops Q rest a' w') :
    Sq P ops Q ((false, ⟨some d, .call ⟨.builtin .append, #[x, y], #[t, t2]⟩, ty, pos, af, none⟩, Kp w0 S K) :: rest) a w := by
  obtain ⟨c, zs, hr, hc, hlen⟩ := run_append_grow' (P := P) (ty := ty) he h2 hsrc hold hroom hbytes
  have hHd := (hH.drew).alloc (.cells (old ++ new ++ zs).toArray e (0, 0))
  refine Sq.done rfl (run_append_op hS hx hy hr) ⟨fun p hp => hHd.blk p (List.mem_cons_of_mem _ (hs.mem p hp)), hHd.mod⟩ (kk _ _ w.heap.size c _ hH.mod.size (Nat.le_refl _) hlen hc ?_ (hS.put hlt _) hHd)
  have : (old ++ new : List Value).length = (m + k) * es := by rw [List.length_append, hold.len, hsrc.size, Nat.add_mul]
  rw [← this, List.take_left]
end
end Go.Sym
