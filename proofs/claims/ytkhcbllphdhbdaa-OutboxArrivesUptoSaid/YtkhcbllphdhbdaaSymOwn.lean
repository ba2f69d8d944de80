/- Rules of symbolic execution over any program of the model, that the claims of this folder use; part SymOwn. Conditions: those that each rule names. -/
import Derived.Test.YtkhcbllphdhbdaaSymMap
import Derived.LoopN
namespace Go.Sym
open Go

section
variable {P : Program} {ops : Array Oper} {Q : Exit → Act → World → Prop} {rest : List Item} {a : Act} {w w0 : World} {n : Nat} {R : Rg} {ds : List Deferred} {S : Nat → Prop} {L K : Blocks}
variable {f : Bool} {d : Nat} {ty : TypeId} {pos : String} {af : Array Edge}

theorem rnd {c : Code} {m : Nat} (h : c.wp P (Exit.then (Code.rounds P c Q m) Q) a w) : Code.rounds P c Q (m + 1) a w := h

/-! ### slicing -/
theorem slB_parts {t es : Nat} (h : slB P t = some es) : ∃ e i, P.underlying t = some (.slice e) ∧ P.info? e = some i ∧ i.size = es := by
  unfold slB at h
  split at h
  · rename_i e hu
    cases hi : P.info? e with
    | none => simp [hi] at h
    | some i => simp [hi] at h; exact ⟨e, i, hu, hi, h⟩
  · cases h
theorem r_slHi {t es m cap hh : Nat} {x y : Operand} {p : Option Addr} {kk : IntKind} {i : Int} (hS : StD ds n R a) (hSw : Sf f (Kp w0 S K) w) (hx : ev R x = some (.slice p m cap)) (hy : ev R y = some (.int kk i)) (ht : slB P t = some es) (hi : i = hh) (hle : hh ≤ cap) (hsp : ∀ q, p = some q → q.spot = none) (hlt : Nat.blt d n = true)
    (k : ∀ a', StD ds n (up R d (.slice p hh cap)) a' → Sq P ops Q rest a' w) : Sq P ops Q ((f, ⟨some d, .slice t x none (some y) none, ty, pos, af, none⟩, Kp w0 S K) :: rest) a w := by
  obtain ⟨e, i', hu, hi', rfl⟩ := slB_parts ht
  subst hi
  refine r_pure hS hSw hlt (fun w => ?_) k
  have hp : p.map (fun q => q.add (0 * i'.size)) = p := by
    cases p with
    | none => rfl
    | some q => simp [Addr.add]
  simp [execOp, hS.val hx, hS.val hy, Instr.sliceAt, Instr.slice, run_underlying hu, Instr.sliceBounds, Instr.sliceBound, asIntOf, hle, sizeOf, typeInfo, hi']
  rw [Nat.zero_mul] at hp
  intro _; exact hp
theorem r_slLo {t es m cap ll b o : Nat} {x y : Operand} {kk : IntKind} {i : Int} (hS : StD ds n R a) (hSw : Sf f (Kp w0 S K) w) (hx : ev R x = some (.slice (some ⟨b, o, none⟩) m cap)) (hy : ev R y = some (.int kk i)) (ht : slB P t = some es) (hi : i = ll) (hle : ll ≤ m) (hlt : Nat.blt d n = true)
    (k : ∀ a', StD ds n (up R d (.slice (some (if cap = ll then ⟨b, o, none⟩ else ⟨b, o + ll * es, none⟩)) (m - ll) (cap - ll))) a' → Sq P ops Q rest a' w) : Sq P ops Q ((f, ⟨some d, .slice t x (some y) none none, ty, pos, af, none⟩, Kp w0 S K) :: rest) a w := by
  obtain ⟨e, i', hu, hi', rfl⟩ := slB_parts ht
  subst hi
  refine r_pure hS hSw hlt (fun w => ?_) k
  simp [execOp, hS.val hx, hS.val hy, Instr.sliceAt, Instr.slice, run_underlying hu, Instr.sliceBounds, Instr.sliceBound, asIntOf, hle, sizeOf, typeInfo, hi', add_eq]
  split <;> rfl
theorem r_slLoHi {t es m cap ll hh b o : Nat} {x y z : Operand} {kk kk' : IntKind} {i j : Int} (hS : StD ds n R a) (hSw : Sf f (Kp w0 S K) w) (hx : ev R x = some (.slice (some ⟨b, o, none⟩) m cap)) (hy : ev R y = some (.int kk i)) (hz : ev R z = some (.int kk' j)) (ht : slB P t = some es) (hi : i = ll) (hj : j = hh) (hle : ll ≤ hh) (hle2 : hh ≤ cap) (hlt : Nat.blt d n = true)
    (k : ∀ a', StD ds n (up R d (.slice (some (if cap = ll then ⟨b, o, none⟩ else ⟨b, o + ll * es, none⟩)) (hh - ll) (cap - ll))) a' → Sq P ops Q rest a' w) : Sq P ops Q ((f, ⟨some d, .slice t x (some y) (some z) none, ty, pos, af, none⟩, Kp w0 S K) :: rest) a w := by
  obtain ⟨e, i', hu, hi', rfl⟩ := slB_parts ht
  subst hi
  subst hj
  refine r_pure hS hSw hlt (fun w => ?_) k
  simp [execOp, hS.val hx, hS.val hy, hS.val hz, Instr.sliceAt, Instr.slice, run_underlying hu, Instr.sliceBounds, Instr.sliceBound, asIntOf, hle, hle2, sizeOf, typeInfo, hi', add_eq]
  split <;> rfl
theorem r_slArr {t len es b o : Nat} {x : Operand} (hS : StD ds n R a) (hSw : Sf f (Kp w0 S K) w) (hx : ev R x = some (.pointer (some ⟨b, o, none⟩))) (ht : arrB P t = some (len, es)) (hlt : Nat.blt d n = true)
    (k : ∀ a', StD ds n (up R d (.slice (some ⟨b, o, none⟩) len len)) a' → Sq P ops Q rest a' w) : Sq P ops Q ((f, ⟨some d, .slice t x none none none, ty, pos, af, none⟩, Kp w0 S K) :: rest) a w := by
  unfold arrB at ht
  split at ht
  · rename_i len' elem hu
    cases hq : P.info? elem with
    | none => simp [hq] at ht
    | some q =>
      simp [hq] at ht
      obtain ⟨rfl, rfl⟩ := ht
      refine r_pure hS hSw hlt (fun w => ?_) k
      simp [execOp, hS.val hx, Instr.sliceAt, run_underlying hu, Instr.sureAddr, Instr.sliceBounds, sizeOf, typeInfo, hq, add_eq]
  · cases ht

/-! ### a slice of the call's own, that no list of blocks names -/
def Own (B es : Nat) (e : TypeId) (w : World) (v : Value) (m : Nat) (xs : List Value) : Prop :=
  (v = .slice none 0 0 ∧ m = 0 ∧ xs = []) ∨ ∃ (b cap : Nat) (l : List Value), v = .slice (some ⟨b, 0, none⟩) m cap ∧ B ≤ b ∧ w.heap[b]? = some (.cells l.toArray e (0, 0)) ∧ l.length = cap * es ∧ m ≤ cap ∧ l.take (m * es) = xs
theorem Own.nil (B es : Nat) (e : TypeId) (w : World) : Own B es e w (.slice none 0 0) 0 [] := .inl ⟨rfl, rfl, rfl⟩
theorem Own.sl {B es m : Nat} {e : TypeId} {v : Value} {xs : List Value} (h : Own B es e w v m xs) : ∃ p cap, Sl es w v xs m p cap := by
  rcases h with ⟨rfl, rfl, rfl⟩ | ⟨b, cap, l, rfl, _, hb, hl, hm, rfl⟩
  · exact ⟨none, 0, rfl, by simp, Nat.le_refl _, fun i u h => by simp at h, fun _ => rfl⟩
  · exact ⟨_, cap, Sl.of_block hb (by rw [hl]; exact Nat.mul_le_mul_right _ hm) hm⟩
theorem Own.bs {B : Nat} {e : TypeId} {v : Value} {l : List UInt8} (h : Own B 1 e w v l.length (l.map byteV)) : Bs w v l := h.sl
theorem Own.ext {B es m : Nat} {e : TypeId} {v : Value} {xs : List Value} {w' : World} (h : Own B es e w v m xs) (k : Ext w w') : Own B es e w' v m xs := by
  rcases h with h | ⟨b, cap, l, h1, h2, hb, h3⟩
  · exact .inl h
  · exact .inr ⟨b, cap, l, h1, h2, k.heap_some hb, h3⟩
theorem r_append_O {t t2 e es by' m k : Nat} {x y : Operand} {v vy : Value} {xs new : List Value} (hS : StD ds n R a) (hH : Hp w0 S [] w) (hx : ev R x = some v) (hy : ev R y = some vy) (hO : Own w0.heap.size es e w v m xs)
    (he : elB P t = some (e, es, by')) (h2 : notInt P t2 = true) (hsrc : Src P es w vy k new) (hbytes : (m + k) * by' ≤ 140737488355328) (hlt : Nat.blt d n = true)
    (kk : ∀ (a' : Act) (w' : World) (v' : Value), Own w0.heap.size es e w' v' (m + k) (xs ++ new) → Mod (w0.heap.size ≤ ·) w w' → StD ds n (up R d v') a' → Hp w0 S [] w' → Sq P ops Q rest a' w') :
    Sq P ops Q ((false, ⟨some d, .call ⟨.builtin .append, #[x, y], #[t, t2]⟩, ty, pos, af, none⟩, Kp w0 S []) :: rest) a w := by
  rcases hO with ⟨rfl, rfl, rfl⟩ | ⟨b, cap, l, rfl, hB, hb, hl, hm, rfl⟩
  · by_cases hk : k = 0
    · subst hk
      have hn : new = [] := List.eq_nil_of_length_eq_zero (by have := hsrc.size; omega)
      subst hn
      have hr : (Builtin.append_ #[t, t2] ty #[.slice none 0 0, vy]).run P w = .ok (.slice none 0 0) w := by
        obtain ⟨i, z, hu, hi, hz, rfl, rfl, hzs, hby⟩ := elB_parts he
        unfold notInt at h2
        split at h2
        · cases h2
        · rename_i u2 hn hu2
          have hz2 : (u2 matches .int _) = false := by cases u2 <;> simp_all
          simp only [Builtin.append_, List.getElem?_toArray, List.getElem?_cons_zero, List.getElem?_cons_succ, Sem.run_bind, run_underlying hu, Result.andThen_ok, sizeOf, typeInfo, run_program, hi, Sem.run_pure, run_underlying hu2]
          simp only [Bool.false_eq_true, if_false, hsrc.len w rfl, Result.andThen_ok, Nat.zero_add, Nat.le_refl, if_true, Bool.not_false, hsrc.cells w rfl, Sem.run_pure, Sem.run_bind]
        · cases h2
      exact Sq.done rfl (run_append_op hS hx hy hr) hH.kp0 (kk _ w _ (Own.nil _ _ _ _) (Mod.refl _ _) (hS.put hlt _) hH)
    · have hold : Sl es w (.slice none 0 0) [] 0 none 0 := ⟨rfl, by simp, Nat.le_refl _, fun i u h => by simp at h, fun _ => rfl⟩
      obtain ⟨c, zs, hr, hc, hlen⟩ := run_append_grow' (P := P) (ty := ty) he h2 hsrc hold (by omega) hbytes
      have hHd := (hH.drew).alloc (.cells ([] ++ new ++ zs).toArray e (0, 0))
      refine Sq.done rfl (run_append_op hS hx hy hr) (hHd.del .here).kp0 (kk _ _ _ (.inr ⟨w.heap.size, c, _, rfl, hH.mod.size, hHd.get .here, hlen, hc, ?_⟩) (((Ext.drew w).trans (Ext.alloc w.drew _)).mono (fun _ h => h.elim)) (hS.put hlt _) (hHd.del .here))
      have : ([] ++ new : List Value).length = (0 + k) * es := by simp [hsrc.size]
      rw [← this, List.take_left]
  · obtain ⟨w', b', c, l2, hr, hmod, hb', hhb, hl2, hc, htk⟩ := run_append_blk (P := P) (ty := ty) he h2 hb hl hm hsrc hbytes
    have hH' : Hp w0 S [] w' := ⟨fun p hp => by simp at hp, by simp, hH.mod.trans hmod (fun c hc hcb => by subst hcb; omega)⟩
    refine Sq.done rfl (run_append_op hS hx hy hr) hH'.kp0 (kk _ w' _ (.inr ⟨b', c, l2, rfl, ?_, hhb, hl2, hc, htk⟩) (hmod.mono (fun c hc => by subst hc; exact hB)) (hS.put hlt _) hH')
    rcases hb' with rfl | h
    · exact hB
    · exact Nat.le_trans hH.mod.size h

/-- 'append(nil, make([]T, n)...)' -/
def isI64 (P : Program) (t : TypeId) : Bool := match P.underlying t with
  | some (.int .i64) => true
  | _ => false
theorem r_appendZ {t t2 e es by' m : Nat} {x y : Operand} {i : Int} (hS : StD ds n R a) (hH : Hp w0 S L w) (hs : Sub K L) (hx : ev R x = some (.slice none 0 0)) (hy : ev R y = some (.int .i64 i)) (hi : i = m) (h0 : 0 < m) (he : elB P t = some (e, es, by')) (h2 : isI64 P t2 = true) (hbytes : m * by' ≤ 140737488355328) (hm : m < 4611686018427387904) (hlt : Nat.blt d n = true)
    (kk : ∀ (a' : Act) (w' : World) (b c : Nat) (l : List Value), w0.heap.size ≤ b → l.length = c * es → m ≤ c → StD ds n (up R d (.slice (some ⟨b, 0, none⟩) m c)) a' → Hp w0 S ((b, .cells l.toArray e (0, 0)) :: L) w' → Sq P ops Q rest a' w') :
    Sq P ops Q ((false, ⟨some d, .call ⟨.builtin .append, #[x, y], #[t, t2]⟩, ty, pos, af, none⟩, Kp w0 S K) :: rest) a w := by
  obtain ⟨ii, z, hu, hi', hz, rfl, rfl, hzs, hby⟩ := elB_parts he
  subst hi
  have hge := grownCap_ge w m 0 e
  have hu2 : P.underlying t2 = some (.int .i64) := by
    unfold isI64 at h2
    split at h2
    · assumption
    · cases h2
  have hwrap : IntKind.i64.wrap (m : Int) = m := wrap_i64 (by omega)
  have hfit := growslice_fits (need := m) (old := 0) (bytes := ii.bytes) h0 hbytes
  have h48' : ¬ (Builtin.nextslicecap m 0 * ii.bytes > 2 ^ 48) := by omega
  have hb0 : ¬ ii.bytes = 0 := by omega
  have hneg : ¬ ((m : Int) < 0) := by omega
  have hbig : ¬ ((m : Int) * (ii.bytes : Int) > 2 ^ 48) := by
    have h : ((m * ii.bytes : Nat) : Int) ≤ ((140737488355328 : Nat) : Int) := Int.ofNat_le.2 hbytes
    rw [Int.natCast_mul] at h
    generalize (m : Int) * (ii.bytes : Int) = q at h ⊢
    omega
  have hroom : ¬ (0 + m ≤ 0) := by omega
  have hmax : ¬ ((0 + m : Nat) : Int) > IntKind.i64.max := by
    have : IntKind.i64.max = 9223372036854775807 := rfl
    rw [this]; omega
  have hr : ∃ l : List Value, (Builtin.append_ #[t, t2] ty #[.slice none 0 0, .int .i64 m]).run P w = .ok (.slice (some ⟨w.heap.size, 0, none⟩) m (grownCap w m 0 e)) (w.drew.alloc (.cells l.toArray e (0, 0))) ∧ l.length = grownCap w m 0 e * ii.size := by
    by_cases hsz : m * ii.size = 0
    · refine ⟨(#[] ++ #[] ++ Builtin.zeroCells z.cells (grownCap w m 0 e - m)).toList, ?_, ?_⟩
      · simp only [Builtin.append_, List.getElem?_toArray, List.getElem?_cons_zero, List.getElem?_cons_succ, Sem.run_bind, run_underlying hu, Result.andThen_ok, sizeOf, typeInfo, run_program, hi', Sem.run_pure, run_underlying hu2]
        simp only [if_true, asInt, asIntOf, Sem.run_bind, Sem.run_pure, Result.andThen_ok, hwrap, hneg, if_false, run_program, hi', hbig, Int.toNat_natCast, hroom, hmax, false_and, Bool.not_true, Bool.false_eq_true, hsz]
        simp only [Nat.zero_add, h48', if_false, Sem.run_bind, Sem.run_pure, Result.andThen_ok, run_choose, Question.forced, Bool.false_eq_true, run_askRoom, Builtin.firstCells, zeroValue, typeInfo, run_program, hi', hz, newRow, run_newObj, World.drew_eq]
        rfl
      · have hs0 : ii.size = 0 := by
          rcases Nat.mul_eq_zero.1 hsz with h | h
          · omega
          · exact h
        simp [size_zeroCells, hzs, hs0]
    · refine ⟨(#[] ++ Builtin.zeroCells z.cells m ++ Builtin.zeroCells z.cells (grownCap w m 0 e - m)).toList, ?_, ?_⟩
      · simp only [Builtin.append_, List.getElem?_toArray, List.getElem?_cons_zero, List.getElem?_cons_succ, Sem.run_bind, run_underlying hu, Result.andThen_ok, sizeOf, typeInfo, run_program, hi', Sem.run_pure, run_underlying hu2]
        simp only [if_true, asInt, asIntOf, Sem.run_bind, Sem.run_pure, Result.andThen_ok, hwrap, hneg, if_false, run_program, hi', hbig, Int.toNat_natCast, hroom, hmax, false_and, Bool.not_true, Bool.false_eq_true, hsz]
        simp only [Nat.zero_add, h48', if_false, Sem.run_bind, Sem.run_pure, Result.andThen_ok, run_choose, Question.forced, Bool.false_eq_true, run_askRoom, Builtin.firstCells, zeroValue, typeInfo, run_program, hi', hz, newRow, run_newObj, World.drew_eq]
        rfl
      · simp only [Array.length_toList, Array.size_append, size_zeroCells, hzs]
        simp only [List.size_toArray, List.length_nil, Nat.zero_add, ← Nat.add_mul]
        congr 1; omega
  obtain ⟨l, hr, hl⟩ := hr
  have hHd := (hH.drew).alloc (.cells l.toArray e (0, 0))
  exact Sq.done rfl (run_append_op hS hx hy hr) ⟨fun p hp => hHd.blk p (List.mem_cons_of_mem _ (hs.mem p hp)), hHd.mod⟩ (kk _ _ w.heap.size _ l hH.mod.size hl hge (hS.put hlt _) hHd)
/-! ### loops -/
theorem rounds_mono {c : Code} : ∀ (m : Nat) (a : Act) (w : World), Code.rounds P c Q m a w → Code.rounds P c Q (m + 1) a w
  | 0, _, _, h => h.elim
  | m + 1, a, w, h => wp_mono (c := c) h fun e a w q => by cases e <;> first | exact rounds_mono m a w q | exact q
theorem rounds_le {c : Code} {m : Nat} {a : Act} {w : World} (h : Code.rounds P c Q m a w) : ∀ k, m ≤ k → Code.rounds P c Q k a w
  | 0, hk => by have : m = 0 := by omega
                subst this; exact h
  | k + 1, hk => by
    by_cases e : m = k + 1
    · subst e; exact h
    · exact rounds_mono k a w (rounds_le h k (by omega))
theorem c_loop {c : Code} (I : Nat → Act → World → Prop) (m0 : Nat) (h0 : I m0 a w) (round : ∀ m a w, I m a w → c.wp P (Exit.then (fun a' w' => ∃ m', m' < m ∧ I m' a' w') Q) a w) : (Code.loop c).wp P Q a w := by
  have key : ∀ k m a w, m ≤ k → I m a w → Code.rounds P c Q (k + 1) a w := by
    intro k
    induction k with
    | zero =>
      intro m a w hm hI
      refine wp_mono (c := c) (round m a w hI) fun e a w q => ?_
      cases e <;> first | (obtain ⟨m', h, _⟩ := q; omega) | exact q
    | succ k ih =>
      intro m a w hm hI
      refine wp_mono (c := c) (round m a w hI) fun e a w q => ?_
      cases e <;> first | (obtain ⟨m', h, hI'⟩ := q; exact ih m' a w (by omega) hI') | exact q
  exact wp_loop_rounds (m0 + 1) (key m0 m0 a w (Nat.le_refl _) h0)
/-- a frame of which some slots are known -/
def lv : List (Nat × Value) → Rg
  | [], _ => none
  | (j, v) :: r, i => bif Nat.beq i j then some v else lv r i
def evl (R : Rg) : List (Nat × Value) → Prop
  | [] => True
  | (j, v) :: r => R j = some v ∧ evl R r
theorem evl_lv {R : Rg} : ∀ {l : List (Nat × Value)}, evl R l → ∀ i v, lv l i = some v → R i = some v
  | [], _, i, v, h => by simp [lv] at h
  | (j, u) :: r, he, i, v, h => by
    simp only [lv] at h
    cases hb : Nat.beq i j with
    | true =>
      have := Nat.eq_of_beq_eq_true hb
      subst this
      rw [hb] at h; simp at h; subst h
      exact he.1
    | false => rw [hb] at h; exact evl_lv he.2 i v h
theorem StD.live (h : StD ds n R a) {l : List (Nat × Value)} (he : evl R l) : StD ds n (lv l) a := h.weaken (evl_lv he)
theorem len16 {h : List UInt8} (hl : h.length = 16) : ∃ x0 x1 x2 x3 x4 x5 x6 x7 x8 x9 xa xb xc xd xe xf, h = [x0, x1, x2, x3, x4, x5, x6, x7, x8, x9, xa, xb, xc, xd, xe, xf] := by
  match h, hl with
  | [x0, x1, x2, x3, x4, x5, x6, x7, x8, x9, xa, xb, xc, xd, xe, xf], _ => exact ⟨_, _, _, _, _, _, _, _, _, _, _, _, _, _, _, _, rfl⟩
end

theorem len_take_flatten (ls : List (List UInt8)) (j : Nat) : (ls.take j).flatten.length ≤ ls.flatten.length := by
  conv => rhs; rw [← List.take_append_drop j ls, List.flatten_append, List.length_append]
  omega
theorem take_succ_flatten2 {ls : List (List UInt8)} {k : Nat} {l : List UInt8} (h : ls[k]? = some l) : (ls.take (k + 1)).flatten = (ls.take k).flatten ++ l := by
  rw [List.take_add_one, h]; simp
theorem take_succ_len {ls : List (List UInt8)} {k : Nat} {l : List UInt8} (h : ls[k]? = some l) : (ls.take (k + 1)).flatten.length = (ls.take k).flatten.length + l.length := by
  rw [take_succ_flatten2 h, List.length_append]
theorem Own.mono {B B' es m : Nat} {e : TypeId} {w : World} {v : Value} {xs : List Value} (h : Own B es e w v m xs) (hb : B' ≤ B) : Own B' es e w v m xs := by
  rcases h with h | ⟨b, cap, l, h1, h2, h3⟩
  · exact .inl h
  · exact .inr ⟨b, cap, l, h1, Nat.le_trans hb h2, h3⟩
theorem Hp.modPut {w0 w w1 : World} {S : Nat → Prop} {L L' : Blocks} {b : Nat} {o o' : Obj} (h : Hp w0 S L w) (hm : Mod (· = b) w w1) (hb : w1.heap[b]? = some o') (hp : Put b o o' L L') (hw : S b ∨ w0.heap.size ≤ b) : Hp w0 S L' w1 := by
  refine ⟨fun p hp' => ?_, by rw [hp.keys]; exact h.nd, h.mod.trans hm (fun c hc hcb => by subst hcb; rcases hw with hs | hs; exact hs; omega)⟩
  rcases hp.mem h.nd p hp' with rfl | ⟨h1, h2⟩
  · exact hb
  · exact hm.heap_some (h.blk p h1) h2
theorem Hp.know3 {w0 w w1 : World} {S : Nat → Prop} {L : Blocks} {x y z : Nat} {ox oy oz : Obj} (h : Hp w0 S L w) (hE : Ext w w1) (hx : w.heap.size ≤ x) (hy : w.heap.size ≤ y) (hz : w.heap.size ≤ z) (n1 : x ≠ y) (n2 : x ≠ z) (n3 : y ≠ z)
    (k1 : w1.heap[x]? = some ox) (k2 : w1.heap[y]? = some oy) (k3 : w1.heap[z]? = some oz) : Hp w0 S ((x, ox) :: (y, oy) :: (z, oz) :: L) w1 := by
  have f : ∀ p ∈ L, p.1 < w.heap.size := h.lt
  refine (((h.ext hE).know k3 (fun p hp => ?_)).know k2 (fun p hp => ?_)).know k1 (fun p hp => ?_)
  · have := f p hp; omega
  · rcases List.mem_cons.1 hp with rfl | hp
    · exact Ne.symm n3
    · have := f p hp; omega
  · rcases List.mem_cons.1 hp with rfl | hp
    · exact Ne.symm n1
    · rcases List.mem_cons.1 hp with rfl | hp
      · exact Ne.symm n2
      · have := f p hp; omega
theorem Bs.handle {w : World} {b : Nat} {h : List UInt8} {T : TypeId} {fz : Nat × Nat} (hb : w.heap[b]? = some (.cells (hcells h).toArray T fz)) (hl : h.length = 16) : Bs w (.slice (some ⟨b, 0, none⟩) 16 16) h := by
  have := Sl.of_block (es := 1) (m := 16) (cap := 16) hb (by simp [hcells, hl]) (Nat.le_refl _)
  rw [List.take_of_length_le (by simp [hcells, hl])] at this
  refine ⟨some ⟨b, 0, none⟩, 16, ?_⟩
  rw [hl]; exact this
end Go.Sym
