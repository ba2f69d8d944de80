/- Rules of symbolic execution over any program of the model, that the claims of this folder use; part SymRange. Conditions: those that each rule names. -/
import Derived.Test.YtkhcbllphdhbdaaSymSeals
import Derived.RangeFuncNested
import Derived.RangeFuncLeaves
import Derived.Test.YtkhcbllphdhbdaaSymHdr5
namespace Go.Sym
open Go
/-! ### A range over a function: its mark among the deferred calls; entering and leaving a function that has one -/
def mk (D : Nat) : List Deferred := [{ target := .collected D, args := #[] }]
section
variable {P : Program} {ops : Array Oper} {Q : Exit → Act → World → Prop} {rest : List Item} {a : Act} {w w0 : World} {n : Nat} {R : Rg} {S : Nat → Prop} {L K : Blocks}
/-- what a body with a range over a function must achieve; it does not panic -/
def bodyQ (P : Program) (fn : Func) (Rt : Ending → World → Prop) : Exit → Act → World → Prop := fun e a w => (∀ c, e ≠ .panic c) ∧ bodyPostM Fence.wide 0 P fn Rt e a w
theorem steady_bodyQ {P : Program} {fn : Func} {Rt : Ending → World → Prop} : Steady (bodyQ P fn Rt) := fun c _ _ _ _ h => absurd rfl (h.1 c)
theorem enterM {g : FuncId} {fn : Func} {c : Code} {m : Nat} {args : List Value} {Rt : Ending → World → Prop} (hf : P.funcs[g]? = some fn) (hb : fn.body = some c) (hn : fn.ntmps = m) (hle : Nat.ble args.length m = true)
    (k : ∀ a, St m (ofL args) a → c.wp P (bodyQ P fn Rt) a w) : Calls P g args.toArray w Rt := by
  refine (callsIn_wide (n := 0)).1 (callsIn_of_wp_marks hf hb trivial (wpIn_wide.2 (wp_mono (k _ ⟨rfl, ?_, ?_⟩) (fun _ _ _ h => h.2))))
  · simp only [Nat.ble_eq] at hle; simp [hn]; omega
  · intro i v hi
    have := ofL_some args i v hi
    have hlt : i < args.length := (List.getElem?_eq_some_iff.1 this).1
    simp only [Array.getD_eq_getD_getElem?, Array.getElem?_append, List.size_toArray, hlt, if_true, List.getElem?_toArray, this, Option.getD_some]
theorem run_resultsD {ds : List Deferred} {fn : Func} {rs : List ResultVar} {vs : List Value} (hS : StD ds n R a) (hr : fn.results = rs.toArray) (hv : Res P R w rs vs) : (results fn a.tmps).run P w = .ok (valOf vs) w := by
  have h := run_results hS hv
  simp only [results, hr, Sem.run_bind]
  rw [Array.mapM_eq_mapM_toList, Sem.run_map]
  dsimp only
  erw [h]
  simp only [Result.andThen_ok]
  match vs with
  | [] => simp [valOf]
  | [v] => simp [valOf]
  | v :: u :: r => simp [valOf]
/-- leaving it ahead of the loop -/
theorem leaveM0 {fn : Func} {Rt : Ending → World → Prop} {rs : List ResultVar} {vs : List Value} {e : Exit} (he : e = .ret ∨ e = .normal) (hS : St n R a) (hr : fn.results = rs.toArray) (hv : Res P R w rs vs) (k : Rt (.returned (valOf vs)) w) : bodyQ P fn Rt e a w := by
  have hrun := run_resultsD hS hr hv
  refine ⟨fun c h => (by subst h; rcases he with h | h <;> cases h), ?_⟩
  rcases he with rfl | rfl <;> (simp only [bodyPostM, hS.defers, LeavesInM, LeavesIn]; exact ⟨_, hrun, k⟩)
theorem Res.turn {w' : World} {D : Nat} {d : Obj} {rs : List ResultVar} {vs : List Value} (hv : Res P R w rs vs) (hD : w.heap[D]? = some d) (hd : ∀ cs T z, d ≠ .cells cs T z) (ho : ∀ c, c ≠ D → w'.heap[c]? = w.heap[c]?) : Res P R w' rs vs := by
  induction hv with
  | nil => exact .nil
  | tmp h _ ih => exact .tmp h ih
  | cell h hb ha hl he _ ih => exact .cell h ((ho _ (fun e => by subst e; rw [hD] at hb; exact hd _ _ _ (Option.some.inj hb))).trans hb) ha hl he ih
  | cell1 h hb ha hl _ ih => exact .cell1 h ((ho _ (fun e => by subst e; rw [hD] at hb; exact hd _ _ _ (Option.some.inj hb))).trans hb) ha hl ih
/-- leaving it behind the loop: the mark's block is shut -/
theorem leaveM {fn : Func} {Rt : Ending → World → Prop} {rs : List ResultVar} {vs : List Value} {e : Exit} {D : Nat} (he : e = .ret ∨ e = .normal) (hS : StD (mk D) n R a) (hH : Hp w0 S L w) (hD : w.heap[D]? = some (.deferred (some []))) (hn : w0.heap.size ≤ D) (hr : fn.results = rs.toArray) (hv : Res P R w rs vs)
    (k : ∀ w', Mod S w0 w' → (∀ b o, w.heap[b]? = some o → b ≠ D → w'.heap[b]? = some o) → Rt (.returned (valOf vs)) w') : bodyQ P fn Rt e a w := by
  have hlt : D < w.heap.size := lt_of_block hD
  have hoth : ∀ c, c ≠ D → (w.putObj D (.deferred none)).heap[c]? = w.heap[c]? := fun c hc => World.putObj_heap_other hc
  have hrun := run_resultsD hS hr (hv.turn hD (fun _ _ _ e => by cases e) hoth)
  have hm : Mod S w0 (w.putObj D (.deferred none)) := ⟨hH.mod.os, hH.mod.tape, hH.mod.output, by simpa [World.putObj] using hH.mod.size, fun b hb hs => (hoth b (by omega)).trans (hH.mod.block b hb hs)⟩
  have hk := k _ hm (fun b o hb hne => (hoth b hne).trans hb)
  refine ⟨fun c h => (by subst h; rcases he with h | h <;> cases h), ?_⟩
  rcases he with rfl | rfl <;> (simp only [bodyPostM, hS.defers, mk, LeavesInM, LeavesIn]; exact ⟨by simp, .inl ⟨D, _, rfl, run_takeDeferred hD, _, hrun, hk⟩⟩)
/-- **a range over a function that asks for no round** -/
theorem c_range0 {g : Operand} {gf : FuncId} {lb : List Value} {ps : Array Tmp} {assign body : Code} (hS : St n R a) (hH : Hp w0 S L w) (hg : ev R g = some (.func (.func gf) #[] lb.toArray)) (hfn : isFn P gf = true)
    (hcall : ∀ l w1, Ext w w1 → Calls P gf (#[.func (.yield l) #[] #[]] ++ lb.toArray) w1 fun e w2 => (∃ v, e = .returned v) ∧ Ext w1 w2)
    (k : ∀ a' w' D l o, w0.heap.size ≤ D → w0.heap.size ≤ l → StD (mk D) n R a' → Hp w0 S ((l, o) :: (D, .deferred (some [])) :: L) w' → Q .normal a' w') : (Code.rangeFunc g ps assign body).wp P Q a w := by
  refine (wpIn_wide (n := 0)).1 (wpIn_rangeFunc ?_)
  intro fn _
  have hev : a.eval g = .func (.func gf) #[] lb.toArray := hS.val hg
  obtain ⟨rec, hrec⟩ : ∃ rec : Loop, rec = { state := .ready, pending := none, fn, tmps := a.tmps, params := ps, assign, body, defers := w.heap.size } := ⟨_, rfl⟩
  have hH1 := (hH.alloc (.deferred (some []))).alloc (.loop rec)
  rw [World.size_alloc] at hH1
  obtain ⟨W1, hW1⟩ : ∃ W1, W1 = (w.alloc (.deferred (some []))).alloc (.loop rec) := ⟨_, rfl⟩
  have hE1 : Ext w W1 := by rw [hW1]; exact (Ext.alloc _ _).trans (Ext.alloc _ _)
  rw [← hW1] at hH1
  refine ⟨w.heap.size + 1, mk w.heap.size, W1, { target := .fn (.func gf) lb.toArray, args := #[.func (.yield (w.heap.size + 1)) #[] #[]] }, W1, gf,
    #[.func (.yield (w.heap.size + 1)) #[] #[]] ++ lb.toArray, W1, ?_, ?_, fun _ _ => trivial, ?_, fun h => by simp [Fence.wide] at h, ?_⟩
  · rw [hW1, hrec]; exact run_enterLoop_outer _ _ _ _ _
  · simp only [resolve, hev]
    simp [go_sem]
  · simp [invoke, go_sem, run_callFunc hfn]
  · refine callsIn_wide.2 ((hcall _ _ hE1).mono ?_)
    rintro e w2 ⟨⟨v, rfl⟩, hE⟩
    have hH2 := hH1.ext hE
    have hl2 : w2.heap[w.heap.size + 1]? = some (.loop rec) := hH2.get .here
    refine ⟨none, w2.putObj (w.heap.size + 1) (.loop { rec with state := .exhausted }), ?_, ?_⟩
    · have := run_endLoop (P := P) hl2 (by rw [hrec]; simp)
      have hp : rec.pending = none := by rw [hrec]
      rw [show (Instr.endLoop (w.heap.size + 1)).run P w2 = _ from this, hp]
    · have hs0 := hH.mod.size
      have hlt : w.heap.size + 1 < w2.heap.size := lt_of_block hl2
      refine k _ _ w.heap.size (w.heap.size + 1) (.loop { rec with state := .exhausted }) hs0 (by omega) ⟨by simp [hS.defers, mk], hS.size, hS.regs⟩ ?_
      refine hH2.turned (b := w.heap.size + 1) (o := .loop rec) .here ⟨rfl, rfl, rfl, by simp [World.putObj], World.putObj_heap_same hlt, fun c hc => World.putObj_heap_other hc⟩ (.inr (by omega))
/-- a call that turned one known block -/
theorem Hp.upd {L' : Blocks} {w' : World} {b : Nat} {o o' : Obj} (h : Hp w0 S L w) (hp : Put b o o' L L') (hm : Mod (· = b) w w') (hb : w'.heap[b]? = some o') (hS : S b ∨ w0.heap.size ≤ b) : Hp w0 S L' w' := by
  refine ⟨fun p hp' => ?_, by rw [hp.keys]; exact h.nd, h.mod.trans hm (fun c hc hcb => ?_)⟩
  · rcases hp.mem h.nd p hp' with rfl | ⟨h1, h2⟩
    · exact hb
    · rw [hm.block p.1 (lt_of_block (h.blk p h1)) h2]; exact h.blk p h1
  · subst hcb; rcases hS with h | h
    · exact h
    · omega
end
/-- what an outbox's 'due' tells, where nothing is lost -/
def dueE (W sent most limit : Nat) (fin : Bool) : Nat × Nat × Bool :=
  if sent < W then (if limit ≤ sent then (0, 0, false) else (sent, sent + min most (min W limit - sent), decide (0 < min most (min W limit - sent)))) else (sent, sent, fin)
end Go.Sym

namespace Go.Sym
open Go
/-! ### arrays of ints that are compared -/
def icells (l : List Int) : List Value := l.map (Value.int .i64)
structure IntArr (P : Program) (t m : Nat) : Prop where
  und : ∃ e, P.underlying t = some (.array m e) ∧ P.underlying e = some (.int .i64) ∧ P.cellsOf e = 1
  cells : P.cellsOf t = m
  key : P.keyType t = true
  key2 : P.keyTypeAt 2 t = true
  law : WideMaps.KeyLaw P t
  guard : P.eqGuardType P.depth t = false
  types : 1 ≤ P.types.size
theorem intArr_mk {P : Program} {t m : Nat} (hl : laidOutB P = true) (hrow : t < P.types.size) (h : (match P.underlying t with | some (.array k e) => Nat.beq k m && isI64 P e && Nat.beq (P.cellsOf e) 1 | _ => false) = true) (hc : Nat.beq (P.cellsOf t) m = true) (hk : P.keyType t = true) (hk2 : P.keyTypeAt 2 t = true) (hg : P.eqGuardType P.depth t = false) : IntArr P t m := by
  split at h
  · rename_i k e hu
    simp only [Bool.and_eq_true] at h
    obtain ⟨⟨h1, h2⟩, h3⟩ := h
    have h1 := Nat.eq_of_beq_eq_true h1
    subst h1
    have h2' : P.underlying e = some (.int .i64) := by
      unfold isI64 at h2; split at h2
      · assumption
      · cases h2
    exact ⟨⟨e, hu, h2', Nat.eq_of_beq_eq_true h3⟩, Nat.eq_of_beq_eq_true hc, hk, hk2, deep_law_laid hl (m := 2) (by omega) hrow hk2 (by rw [hu]), hg, by omega⟩
  · cases h
theorem mapM_ints {P : Program} {e : Nat} (he : P.underlying e = some (.int .i64)) (hc : P.cellsOf e = 1) (dd : Nat) : ∀ (h pre : List Int), (∀ x ∈ h, fits x) → ((List.range' pre.length h.length).mapM fun i => P.keyLits (dd + 1) e (((icells (pre ++ h)).drop (i * P.cellsOf e)).take (P.cellsOf e))) = some (h.map fun x => [Lit.int .i64 x])
  | [], pre, _ => by simp
  | x :: r, pre, hf => by
    have ih := mapM_ints he hc dd r (pre ++ [x]) (fun y hy => hf y (List.mem_cons_of_mem _ hy))
    simp only [List.length_append, List.length_singleton, List.append_assoc, List.singleton_append] at ih
    simp only [List.length_cons, List.range'_succ, List.mapM_cons, ih]
    have : (((icells (pre ++ x :: r)).drop (pre.length * P.cellsOf e)).take (P.cellsOf e)) = [.int .i64 x] := by
      rw [hc, Nat.mul_one]; simp [icells]
    rw [this, lits_int he (hf x (by simp))]
    simp
theorem IntArr.keyOf {P : Program} {t m : Nat} (T : IntArr P t m) {h : List Int} (hl : h.length = m) (hf : ∀ x ∈ h, fits x) : keyOf P t (.agg (icells h).toArray) = some (.string (keyBytes (h.map fun x => Lit.int .i64 x))) := by
  obtain ⟨e, hu, he, hc⟩ := T.und
  have h1 := mapM_ints (P := P) he hc (P.types.size - 1) h [] hf
  rw [show P.types.size - 1 + 1 = P.types.size from by have := T.types; omega] at h1
  simp only [List.length_nil, List.nil_append, hl, ← List.range_eq_range'] at h1
  unfold Go.keyOf
  rw [hu]
  simp only [T.key, Value.formed, hu, T.cells, Value.cells, Bool.true_and]
  have hsz : ((icells h).toArray.size == m) = true := by simp [icells, hl]
  rw [if_pos (by simpa using hsz)]
  simp only [Program.keyLits, hu, T.cells]
  rw [if_pos (by simp [icells, hl])]
  have e2 : (h.map fun x => [Lit.int .i64 x]).flatten = h.map fun x => Lit.int .i64 x := by
    clear h1 hl hsz hf
    induction h with
    | nil => rfl
    | cons x r ih => simp [ih]
  rw [h1]
  simp only [Option.map_some, e2]
theorem icells_inj {h g : List Int} (e : icells h = icells g) : h = g := by
  unfold icells at e
  exact (List.map_inj_right (f := Value.int .i64) (fun x y hxy => by simpa using hxy)).1 e
theorem IntArr.eq {P : Program} {t m : Nat} (T : IntArr P t m) {h g : List Int} (hl : h.length = m) (gl : g.length = m) (hf : ∀ x ∈ h, fits x) (gf : ∀ x ∈ g, fits x) (w : World) : (Op.equal t (.agg (icells h).toArray) (.agg (icells g).toArray)).run P w = .ok (decide (h = g)) w := by
  obtain ⟨e, hu, he, hc⟩ := T.und
  obtain ⟨r, hr, hiff⟩ := run_equal_deep (P := P) w (m := 2) (by omega) T.key2 (by rw [hu]) (T.keyOf hl hf) (T.keyOf gl gf)
  rw [hr]
  congr 1
  rw [Bool.eq_iff_iff, hiff, decide_eq_true_eq]
  constructor
  · intro e
    have := T.law.inj (T.keyOf hl hf) ((T.keyOf gl gf).trans (by rw [e]))
    simp only [Value.agg.injEq] at this
    exact icells_inj (by simpa using this)
  · rintro rfl; rfl
/-- a slice of one's own, of a block that no list names -/
def KO (S : Nat → Prop) (w0 : World) (L : Blocks) (es : Nat) (e : TypeId) (w : World) (v : Value) (m : Nat) (xs : List Value) : Prop :=
  (v = .slice none 0 0 ∧ m = 0 ∧ xs = []) ∨ ∃ (b cap : Nat) (l : List Value), v = .slice (some ⟨b, 0, none⟩) m cap ∧ (S b ∨ w0.heap.size ≤ b) ∧ (∀ p ∈ L, p.1 ≠ b) ∧ w.heap[b]? = some (.cells l.toArray e (0, 0)) ∧ l.length = cap * es ∧ m ≤ cap ∧ l.take (m * es) = xs
section
variable {P : Program} {ops : Array Oper} {Q : Exit → Act → World → Prop} {rest : List Item} {a : Act} {w w0 : World} {n : Nat} {R : Rg} {ds : List Deferred} {S : Nat → Prop} {L K : Blocks}
variable {f : Bool} {d : Nat} {ty : TypeId} {pos : String} {af : Array Edge}
theorem r_intArrEql {t yt m : Nat} {x y : Operand} (h g : List Int) {us vs : List Value} (T : IntArr P t m) (hS : StD ds n R a) (hSw : Sf f (Kp w0 S K) w) (hx : ev R x = some (.agg us.toArray)) (hy : ev R y = some (.agg vs.toArray)) (hu : us = icells h) (hv : vs = icells g) (hl : h.length = m) (gl : g.length = m) (hf : ∀ x ∈ h, fits x) (gf : ∀ x ∈ g, fits x) (hlt : Nat.blt d n = true)
    (k : ∀ a', StD ds n (up R d (.bool (decide (h = g)))) a' → Sq P ops Q rest a' w) : Sq P ops Q ((f, ⟨some d, .binOp .eql t x y yt, ty, pos, af, none⟩, Kp w0 S K) :: rest) a w := by
  subst hu hv
  exact r_cmp hS hSw hx hy hlt (fun w => by simp [eqGuard, T.guard]) (fun w => run_binEq (T.eq hl gl hf gf w)) k
/-! ### slicing what is nil -/
theorem r_slLoN {t es : Nat} {x y : Operand} {kk : IntKind} (hS : StD ds n R a) (hSw : Sf f (Kp w0 S K) w) (hx : ev R x = some (.slice none 0 0)) (hy : ev R y = some (.int kk 0)) (ht : slB P t = some es) (hlt : Nat.blt d n = true)
    (k : ∀ a', StD ds n (up R d (.slice none 0 0)) a' → Sq P ops Q rest a' w) : Sq P ops Q ((f, ⟨some d, .slice t x (some y) none none, ty, pos, af, none⟩, Kp w0 S K) :: rest) a w := by
  obtain ⟨e, i', hu, hi', rfl⟩ := slB_parts ht
  refine r_pure hS hSw hlt (fun w => ?_) k
  simp [execOp, hS.val hx, hS.val hy, Instr.sliceAt, Instr.slice, run_underlying hu, Instr.sliceBounds, Instr.sliceBound, asIntOf, sizeOf, typeInfo, hi']
theorem r_slLoHiN {t es : Nat} {x y z : Operand} {kk kk' : IntKind} (hS : StD ds n R a) (hSw : Sf f (Kp w0 S K) w) (hx : ev R x = some (.slice none 0 0)) (hy : ev R y = some (.int kk 0)) (hz : ev R z = some (.int kk' 0)) (ht : slB P t = some es) (hlt : Nat.blt d n = true)
    (k : ∀ a', StD ds n (up R d (.slice none 0 0)) a' → Sq P ops Q rest a' w) : Sq P ops Q ((f, ⟨some d, .slice t x (some y) (some z) none, ty, pos, af, none⟩, Kp w0 S K) :: rest) a w := by
  obtain ⟨e, i', hu, hi', rfl⟩ := slB_parts ht
  refine r_pure hS hSw hlt (fun w => ?_) k
  simp [execOp, hS.val hx, hS.val hy, hS.val hz, Instr.sliceAt, Instr.slice, run_underlying hu, Instr.sliceBounds, Instr.sliceBound, asIntOf, sizeOf, typeInfo, hi']
/-- append to a slice of one's own, whatever it holds, be it nil -/
theorem r_append_K {t t2 e es by' m k : Nat} {x y : Operand} {v vy : Value} {xs new : List Value} (hS : StD ds n R a) (hH : Hp w0 S L w) (hs : Sub K L) (hx : ev R x = some v) (hy : ev R y = some vy) (hO : KO S w0 L es e w v m xs)
    (he : elB P t = some (e, es, by')) (h2 : notInt P t2 = true) (hsrc : Src P es w vy k new) (hbytes : (m + k) * by' ≤ 140737488355328) (hlt : Nat.blt d n = true)
    (kk : ∀ (a' : Act) (w' : World) (v' : Value), KO S w0 L es e w' v' (m + k) (xs ++ new) → StD ds n (up R d v') a' → Hp w0 S L w' → Sq P ops Q rest a' w') :
    Sq P ops Q ((false, ⟨some d, .call ⟨.builtin .append, #[x, y], #[t, t2]⟩, ty, pos, af, none⟩, Kp w0 S K) :: rest) a w := by
  rcases hO with ⟨rfl, rfl, rfl⟩ | ⟨b, cap, l, rfl, hB, hne, hb, hl, hm, rfl⟩
  · by_cases hk : k = 0
    · subst hk
      have hn : new = [] := List.eq_nil_of_length_eq_zero (by have := hsrc.size; omega)
      subst hn
      have hr : (Builtin.append_ #[t, t2] ty #[.slice none 0 0, vy]).run P w = .ok (.slice none 0 0) w := by
        obtain ⟨i, z, hu, hi, hz, rfl, rfl, hzs, hby⟩ := elB_parts he
        unfold notInt at h2
        split at h2
        · cases h2
        · rename_i u2 hn hu2
          have hz2 : (u2 matches .int _) = false := by cases u2 <;> simp_all
          simp only [Builtin.append_, List.getElem?_toArray, List.getElem?_cons_zero, List.getElem?_cons_succ, Sem.run_bind, run_underlying hu, Result.andThen_ok, sizeOf, typeInfo, run_program, hi, Sem.run_pure, run_underlying hu2]
          simp only [Bool.false_eq_true, if_false, hsrc.len w rfl, Result.andThen_ok, Nat.zero_add, Nat.le_refl, if_true, Bool.not_false, hsrc.cells w rfl, Sem.run_pure, Sem.run_bind]
        · cases h2
      exact Sq.done rfl (run_append_op hS hx hy hr) (hH.kp hs) (kk _ w _ (.inl ⟨rfl, rfl, rfl⟩) (hS.put hlt _) hH)
    · have hold : Sl es w (.slice none 0 0) [] 0 none 0 := ⟨rfl, by simp, Nat.le_refl _, fun i u h => by simp at h, fun _ => rfl⟩
      obtain ⟨c, zs, hr, hc, hlen⟩ := run_append_grow' (P := P) (ty := ty) he h2 hsrc hold (by omega) hbytes
      have hHd := (hH.drew).alloc (.cells ([] ++ new ++ zs).toArray e (0, 0))
      have hHL := hHd.del .here
      refine Sq.done rfl (run_append_op hS hx hy hr) (hHL.kp hs) (kk _ _ _ (.inr ⟨w.heap.size, c, _, rfl, .inr hH.mod.size, fun p hp e => ?_, hHd.get .here, hlen, hc, ?_⟩) (hS.put hlt _) hHL)
      · have := hH.lt p hp; omega
      · have : ([] ++ new : List Value).length = (0 + k) * es := by simp [hsrc.size]
        rw [← this, List.take_left]
  · obtain ⟨w', b', c, l2, hr, hmod, hb', hhb, hl2, hc, htk⟩ := run_append_blk (P := P) (ty := ty) he h2 hb hl hm hsrc hbytes
    have hH' : Hp w0 S L w' := ⟨fun p hp => (hmod.block p.1 (hH.lt p hp) (hne p hp)).trans (hH.blk p hp), hH.nd, hH.mod.trans hmod (fun c hc hcb => by
      subst hcb; rcases hB with h | h
      · exact h
      · omega)⟩
    refine Sq.done rfl (run_append_op hS hx hy hr) (hH'.kp hs) (kk _ w' _ (.inr ⟨b', c, l2, rfl, ?_, ?_, hhb, hl2, hc, htk⟩) (hS.put hlt _) hH')
    · rcases hb' with rfl | h
      · exact hB
      · exact .inr (Nat.le_trans hH.mod.size h)
    · intro p hp
      rcases hb' with rfl | h
      · exact hne p hp
      · have := hH.lt p hp; omega
end
end Go.Sym

namespace Go.Sym
open Go
section
variable {P : Program} {ops : Array Oper} {Q : Exit → Act → World → Prop} {rest : List Item} {a : Act} {w w0 : World} {n : Nat} {R : Rg} {ds : List Deferred} {S : Nat → Prop} {L K : Blocks}
variable {f : Bool} {d : Nat} {ty : TypeId} {pos : String} {af : Array Edge}
/-! ### numbers that are not below nought -/
theorem r_subN0 {t yt : TypeId} {x y : Operand} {m k : Nat} (hS : StD ds n R a) (hSw : Sf f (Kp w0 S K) w) (hx : ev R x = some (.int .i64 (m : Int))) (hy : ev R y = some (.int .i64 (k : Int))) (hle : k ≤ m) (hm : m ≤ 4611686018427387904) (hlt : Nat.blt d n = true)
    (kk : ∀ a', StD ds n (up R d (.int .i64 ((m - k : Nat) : Int))) a' → Sq P ops Q rest a' w) : Sq P ops Q ((f, ⟨some d, .binOp .sub t x y yt, ty, pos, af, none⟩, Kp w0 S K) :: rest) a w :=
  r_subw hS hSw hx hy hlt (by
    rw [wrap_i64 (by omega), show (m : Int) - (k : Int) = ((m - k : Nat) : Int) by omega]; exact kk)
theorem r_addN0 {t yt : TypeId} {x y : Operand} {m k : Nat} (hS : StD ds n R a) (hSw : Sf f (Kp w0 S K) w) (hx : ev R x = some (.int .i64 (m : Int))) (hy : ev R y = some (.int .i64 (k : Int))) (hm : m + k ≤ 4611686018427387904) (hlt : Nat.blt d n = true)
    (kk : ∀ a', StD ds n (up R d (.int .i64 ((m + k : Nat) : Int))) a' → Sq P ops Q rest a' w) : Sq P ops Q ((f, ⟨some d, .binOp .add t x y yt, ty, pos, af, none⟩, Kp w0 S K) :: rest) a w :=
  r_addw hS hSw hx hy hlt (by
    rw [wrap_i64 (by omega), show (m : Int) + (k : Int) = ((m + k : Nat) : Int) by omega]; exact kk)
theorem r_gtrN {t yt : TypeId} {x y : Operand} {m k : Nat} (hS : StD ds n R a) (hSw : Sf f (Kp w0 S K) w) (hx : ev R x = some (.int .i64 (m : Int))) (hy : ev R y = some (.int .i64 (k : Int))) (hlt : Nat.blt d n = true)
    (kk : ∀ a', StD ds n (up R d (.bool (decide (m > k)))) a' → Sq P ops Q rest a' w) : Sq P ops Q ((f, ⟨some d, .binOp .gtr t x y yt, ty, pos, af, none⟩, Kp w0 S K) :: rest) a w :=
  r_gtr hS hSw hx hy hlt (by
    rw [show decide ((m : Int) > (k : Int)) = decide (m > k) from by simp]; exact kk)
end
end Go.Sym
namespace Go.Sym
open Go
theorem Hp.flip {w0 w : World} {S : Nat → Prop} {L : Blocks} {x y : Nat × Obj} (h : Hp w0 S (x :: y :: L) w) : Hp w0 S (y :: x :: L) w := by
  refine ⟨fun p hp => h.blk p ?_, ?_, h.mod⟩
  · simp only [List.mem_cons] at hp ⊢; rcases hp with h1 | h1 | h1
    · exact .inr (.inl h1)
    · exact .inl h1
    · exact .inr (.inr h1)
  · have nd := h.nd
    simp only [List.map_cons, List.nodup_cons, List.mem_cons, not_or] at nd ⊢
    exact ⟨⟨fun e => nd.1.1 e.symm, nd.2.1⟩, nd.1.2, nd.2.2⟩
section
variable {P : Program} {ops : Array Oper} {Q : Exit → Act → World → Prop} {rest : List Item} {a : Act} {w w0 : World} {n : Nat} {R : Rg} {ds : List Deferred} {S : Nat → Prop} {L K : Blocks}
variable {f : Bool} {d : Nat} {ty : TypeId} {pos : String} {af : Array Edge}
/-- the lowest bits -/
theorem r_andLe {t yt : TypeId} {x y : Operand} {m : Int} (c : Nat) (hS : StD ds n R a) (hSw : Sf f (Kp w0 S K) w) (hx : ev R x = some (.int .i64 m)) (hy : ev R y = some (.int .i64 (c : Int))) (hc : c ≤ 4611686018427387904) (hlt : Nat.blt d n = true)
    (k : ∀ a' (e : Nat), e ≤ c → StD ds n (up R d (.int .i64 (e : Int))) a' → Sq P ops Q rest a' w) : Sq P ops Q ((f, ⟨some d, .binOp .and t x y yt, ty, pos, af, none⟩, Kp w0 S K) :: rest) a w := by
  refine r_and hS hSw hx hy hlt (fun a' h => ?_)
  have h1 : (BitVec.ofInt 64 m &&& BitVec.ofInt 64 (c : Int)).toNat ≤ c := by
    rw [BitVec.toNat_and]
    refine Nat.le_trans Nat.and_le_right ?_
    rw [BitVec.ofInt_natCast, BitVec.toNat_ofNat]; exact Nat.mod_le _ _
  refine k a' (BitVec.ofInt 64 m &&& BitVec.ofInt 64 (c : Int)).toNat h1 ?_
  have h2 : IntKind.i64.wrap (((BitVec.ofInt 64 m &&& BitVec.ofInt 64 (c : Int)).toNat : Nat) : Int) = (((BitVec.ofInt 64 m &&& BitVec.ofInt 64 (c : Int)).toNat : Nat) : Int) := wrap_i64 (by omega)
  first
    | exact h
    | (rw [← h2]; exact h)
theorem r_slHiE {t es m cap hh : Nat} {x y : Operand} {p : Option Addr} {kk : IntKind} {i : Int} (hS : StD ds n R a) (hSw : Sf f (Kp w0 S K) w) (hx : ev R x = some (.slice p m cap)) (hy : ev R y = some (.int kk i)) (ht : slB P t = some es) (hi : i = hh) (hle : hh ≤ cap) (hlt : Nat.blt d n = true)
    (k : ∀ a', StD ds n (up R d (.slice p hh cap)) a' → Sq P ops Q rest a' w) : Sq P ops Q ((f, ⟨some d, .slice t x none (some y) none, ty, pos, af, none⟩, Kp w0 S K) :: rest) a w := by
  obtain ⟨e, i', hu, hi', rfl⟩ := slB_parts ht
  subst hi
  refine r_pure hS hSw hlt (fun w => ?_) k
  have hp : p.map (fun q => q.add (0 * i'.size)) = p := by
    cases p with
    | none => rfl
    | some q => simp [Addr.add]
  simp [execOp, hS.val hx, hS.val hy, Instr.sliceAt, Instr.slice, run_underlying hu, Instr.sliceBounds, Instr.sliceBound, asIntOf, hle, sizeOf, typeInfo, hi']
  rw [Nat.zero_mul] at hp
  intro _; exact hp
end
end Go.Sym
namespace Go.Sym
open Go
/-- a call that turned two known blocks -/
theorem Hp.upd2 {w0 w w' : World} {S : Nat → Prop} {L L1 L2 : Blocks} {b c : Nat} {o o' u u' : Obj} (h : Hp w0 S L w) (hp1 : Put b o o' L L1) (hp2 : Put c u u' L1 L2) (hm : Mod (fun x => x = b ∨ x = c) w w') (hb : w'.heap[b]? = some o') (hc : w'.heap[c]? = some u') (hSb : S b ∨ w0.heap.size ≤ b) (hSc : S c ∨ w0.heap.size ≤ c) : Hp w0 S L2 w' := by
  have nd1 : (L1.map Prod.fst).Nodup := by rw [hp1.keys]; exact h.nd
  refine ⟨fun p hp => ?_, by rw [hp2.keys]; exact nd1, h.mod.trans hm (fun x hx hxb => ?_)⟩
  · rcases hp2.mem nd1 p hp with rfl | ⟨h1, h2⟩
    · exact hc
    · rcases hp1.mem h.nd p h1 with rfl | ⟨h3, h4⟩
      · exact hb
      · rw [hm.block p.1 (lt_of_block (h.blk p h3)) (by rintro (e | e); exact h4 e; exact h2 e)]; exact h.blk p h3
  · rcases hxb with rfl | rfl
    · rcases hSb with e | e
      · exact e
      · omega
    · rcases hSc with e | e
      · exact e
      · omega
end Go.Sym
