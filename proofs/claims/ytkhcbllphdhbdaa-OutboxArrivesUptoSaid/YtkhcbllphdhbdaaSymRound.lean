/- Rules of symbolic execution over any program of the model, that the claims of this folder use; part SymRound. Conditions: those that each rule names. -/
import Derived.Test.YtkhcbllphdhbdaaSymRange
import Derived.OrdersIn
namespace Go.Sym
open Go
/-! ### A round's code: what has been walked outside one holds within one, where no defer statement stands -/
def ndB (l : List Oper) : Bool := l.all fun o => match o.op with | .defer _ => false | _ => true
theorem nd_of {o : Oper} (h : (match o.op with | .defer _ => false | _ => true) = true) : ∀ c, o.op ≠ .defer c := by
  intro c e; rw [e] at h; cases h
section
variable {P : Program} {ops : Array Oper} {Q : Exit → Act → World → Prop} {a : Act} {w : World} {n lr : Nat}
theorem rowsIn_of {row : String} {args : Array Value} {R : Value → World → Prop} (h : Rows P row args w R) : RowsIn (Fence.wide.inRound lr) n P row args w R :=
  fun c cs _ => let ⟨v, w', r, s⟩ := h c cs; ⟨v, w', r, stepsIn_wide.2 s⟩
theorem Oper.lift {o : Oper} {K : Act → World → Prop} (hn : ∀ c, o.op ≠ .defer c) (h : o.wp P a w K Q) : o.wpIn (Fence.wide.inRound lr) n P a w K Q := by
  refine ⟨fun _ _ => trivial, ?_⟩
  rw [show (Fence.wide.inRound lr).round = some lr from rfl, Oper.semAt_some lr _ _ hn]
  unfold Oper.wp at h
  generalize (execOp a.eval o).run P w = r at h ⊢
  match r, h with
  | .ok (.value v) w', h => exact h
  | .ok .skip w', h => exact h
  | .ok (.defer d) w', h => exact h
  | .ok (.enter f args) w', h =>
    refine ⟨fun e => (by cases e), ?_⟩
    exact CallsIn.inRound lr (callsIn_wide.2 h)
  | .ok (.row row args) w', h => exact ⟨fun e => (by cases e), rowsIn_of h⟩
  | .halt (.panic v) w', h => exact h
theorem wpList_lift (hL : ¬ LetsOut Q) : ∀ (l : List Oper) (a : Act) (w : World), ndB l = true → wpList P ops Q l a w → wpListIn (Fence.wide.inRound lr) n P ops Q l a w
  | [], _, _, _, h => h
  | o :: r, a, w, hd, h => by
    simp only [ndB, List.all_cons, Bool.and_eq_true] at hd
    unfold wpList at h
    unfold wpListIn
    split
    · rename_i hw
      rw [if_pos hw] at h
      refine Oper.lift (nd_of hd.1) ?_
      rcases h with h | h
      · exact Oper.wp_mono (fun a w k => wpList_lift hL r a w hd.2 k) h
      · exact absurd h.2 hL
    · rename_i hw
      rw [if_neg hw] at h
      exact ⟨fun _ _ => trivial, wpList_lift hL r _ _ hd.2 h⟩
theorem wpAny_lift {md : Region.Mode} {l : List Oper} (hL : ¬ LetsOut Q) (hd : ndB l = true) : ∀ (fuel : Nat) (listed : Array Bool) (a : Act) (w : World), wpAny P md l.toArray Q fuel listed a w → wpAnyIn (Fence.wide.inRound lr) n P md l.toArray Q fuel listed a w
  | 0, _, _, _, h => h
  | fuel + 1, listed, a, w, h => by
    refine ⟨h.1, fun i hi => ?_⟩
    have h2 := h.2 i hi
    unfold wpOp at h2
    unfold wpOpIn
    cases ho : l.toArray[i]? with
    | none => simp only [ho] at h2 ⊢; exact wpAny_lift hL hd fuel _ a w h2
    | some o =>
      simp only [ho] at h2 ⊢
      have hm : o ∈ l := by
        rw [List.getElem?_toArray] at ho; exact List.mem_of_getElem? ho
      have hn := nd_of (List.all_eq_true.1 hd o hm)
      split
      · rename_i hw
        rw [if_pos hw] at h2
        refine Oper.lift hn ?_
        rcases h2 with h2 | h2
        · exact Oper.wp_mono (fun a w k => wpAny_lift hL hd fuel _ a w k) h2
        · exact absurd h2.2 hL
      · rename_i hw
        rw [if_neg hw] at h2
        exact ⟨fun _ _ => trivial, wpAny_lift hL hd fuel _ _ _ h2⟩
theorem regR_plain {id : Nat} {l : List Oper} (w0 : World) (S : Nat → Prop) (hL : ¬ LetsOut Q) (hd : ndB l = true)
    (h : Sq P l.toArray Q (hard (Kp w0 S []) l) a w) : (Code.region id l.toArray false).wpIn (Fence.wide.inRound lr) n P Q a w := wpIn_region_lit (wpList_lift hL l a w hd (wpList_of_sq l a w h))
theorem regR_draw {id : Nat} {l : List Oper} {w0 : World} {S : Nat → Prop} {L : Blocks} (pl : Plan) (hm : P.follows .mixedOrders = true)
    (hsel : Region.noSelect l.toArray = true) (hlen : Nat.ble pl.length l.toArray.size = true) (hp : planOk .any l.toArray pl (Array.replicate l.toArray.size false) = true) (hk : keepOk .any l.toArray pl = true) (h1 : onceOk l.toArray.size pl = true) (hQ : Steady Q) (hL : ¬ LetsOut Q) (hd : ndB l = true)
    (hH : Hp w0 S L w) (h : Sq P l.toArray Q (picked w0 S L l pl) a w.drew) : (Code.region id l.toArray true).wpIn (Fence.wide.inRound lr) n P Q a w :=
  wpIn_region_any hm (wpAny_lift hL hd _ _ _ _ (wpAny_of_L _ _ _ _ (wpAnyL_of_plan (pl0 := pl) hsel hQ hk h1 pl _ _ _ _ (fun _ h => h) (by simpa [Nat.ble_eq] using hlen) hp (fun k hk => by
    have : (Array.replicate l.toArray.size false).getD k false = false := by rw [Array.getD_eq_getD_getElem?, Array.getElem?_replicate]; split <;> rfl
    rw [this] at hk; cases hk) (fun x _ _ => hH.drew.kpDrop 0 x.2.2) h)))
end
theorem letsOut_then {K : Act → World → Prop} {Q : Exit → Act → World → Prop} (h : ¬ LetsOut Q) : ¬ LetsOut (Exit.then K Q) := fun ⟨a, w, k⟩ => h ⟨a, w, k⟩
theorem letsOut_block {id : Nat} {Q : Exit → Act → World → Prop} (h : ¬ LetsOut Q) : ¬ LetsOut (Exit.inBlock id Q) := fun ⟨a, w, k⟩ => h ⟨a, w, k⟩
theorem letsOut_round {P : Program} {l : Nat} {R : Ending → World → Prop} : ¬ LetsOut (roundPost P l R) := fun ⟨_, _, k⟩ => k
theorem letsOut_false : ¬ LetsOut (fun _ _ _ => False) := fun ⟨_, _, k⟩ => k
theorem steady_round {P : Program} {l : Nat} {R : Ending → World → Prop} : Steady (roundPost P l R) := fun _ _ _ _ _ k => k
section
variable {P : Program} {Q : Exit → Act → World → Prop} {a : Act} {w w0 : World} {n : Nat} {R : Rg} {S : Nat → Prop} {L L' : Blocks}
theorem Hp.putObj {w0 w : World} {b : Nat} {o o' : Obj} (h : Hp w0 S L w) (hp : Put b o o' L L') (hb : w0.heap.size ≤ b) : Hp w0 S L' (w.putObj b o') :=
  h.turned hp ⟨rfl, rfl, rfl, by simp [World.putObj], World.putObj_heap_same (lt_of_block (h.blk _ hp.old)), fun _ hc => World.putObj_heap_other hc⟩ (.inr hb)
/-- the assignments are made: the round begins -/
theorem asg_done {body : Code} {F : Fence} {l : Nat} {rec : Loop} {Q : Exit → Act → World → Prop} (hH : Hp w0 S L w) (hl0 : w0.heap.size ≤ l) (hr : rec.state = .ready) (hp : Put l (.loop rec) (.loop { rec with state := .busy }) L L')
    (k : ∀ w3, Hp w0 S L' w3 → body.wpIn F n P Q a w3) : ∃ w3, (Instr.beginRound l).run P w = .ok () w3 ∧ body.wpIn F n P Q a w3 :=
  ⟨_, run_beginRound (hH.blk _ hp.old) hr, k _ (hH.putObj hp hl0)⟩
/-- the body has left by a return -/
theorem ret_done {l : Nat} {rec : Loop} {Rt : World → Prop} (hH : Hp w0 S L w) (hl0 : w0.heap.size ≤ l) (hp : Put l (.loop { rec with state := .busy }) (.loop { rec with state := .done, pending := some .ret }) L L')
    (k : ∀ w', Hp w0 S L' w' → Rt w') : roundPost P l (fun e W' => e = .returned (.bool false) ∧ Rt W') .ret a w := by
  have hl := hH.blk _ hp.old
  have h := run_endRound (P := P) (some Code.ret) hl
  refine ⟨.bool false, _, h, rfl, k _ (hH.putObj hp hl0)⟩
/-- **a range over a function that asks for one round, and its body returns** -/
theorem c_range1 {g : Operand} {gf : FuncId} {lb xs : List Value} {ps : List Tmp} {assign body : Code} (Lf : Nat → Blocks) (hS : St n R a) (hH : Hp w0 S L w) (hg : ev R g = some (.func (.func gf) #[] lb.toArray)) (hfn : isFn P gf = true) (hps : xs.length = ps.length)
    (hcall : ∀ l w1, Ext w w1 → ∀ Rt : World → Prop, (∀ W, Ext w1 W → YieldAt Fence.wide 0 P l xs.toArray W fun e W' => e = .returned (.bool false) ∧ Rt W') → Calls P gf (#[.func (.yield l) #[] #[]] ++ lb.toArray) w1 fun e w2 => (∃ v, e = .returned v) ∧ Rt w2)
    (hround : ∀ (l D : Nat) (rec : Loop) (W : World) (a1 : Act) (Rt : World → Prop), w0.heap.size ≤ D → w0.heap.size ≤ l → rec.state = .ready → a1.defers = [] → a1.tmps = (ps.zip xs).foldl (fun t (p, v) => t.setIfInBounds p v) a.tmps → Hp w0 S ((l, .loop rec) :: (D, .deferred (some [])) :: L) W →
      (∀ (w' : World), Hp w0 S ((l, .loop { rec with state := .done, pending := some .ret }) :: Lf D) w' → Rt w') →
      assign.wpIn (Fence.wide.inRound l) 0 P (Exit.then (fun a₁ w₁ => ∃ w₂, (Instr.beginRound l).run P w₁ = .ok () w₂ ∧ body.wpIn (Fence.wide.inRound l) 0 P (roundPost P l fun e W' => e = .returned (.bool false) ∧ Rt W') a₁ w₂) (fun _ _ _ => False)) a1 W)
    (k : ∀ a' w' D, w0.heap.size ≤ D → StD (mk D) n R a' → Hp w0 S (Lf D) w' → Q .ret a' w') : (Code.rangeFunc g ps.toArray assign body).wp P Q a w := by
  refine (wpIn_wide (n := 0)).1 (wpIn_rangeFunc ?_)
  intro fn _
  have hev : a.eval g = .func (.func gf) #[] lb.toArray := hS.val hg
  obtain ⟨rec, hrec⟩ : ∃ rec : Loop, rec = { state := .ready, pending := none, fn, tmps := a.tmps, params := ps.toArray, assign, body, defers := w.heap.size } := ⟨_, rfl⟩
  have hH1 := (hH.alloc (.deferred (some []))).alloc (.loop rec)
  rw [World.size_alloc] at hH1
  obtain ⟨W1, hW1⟩ : ∃ W1, W1 = (w.alloc (.deferred (some []))).alloc (.loop rec) := ⟨_, rfl⟩
  have hE1 : Ext w W1 := by rw [hW1]; exact (Ext.alloc _ _).trans (Ext.alloc _ _)
  rw [← hW1] at hH1
  have hs0 := hH.mod.size
  refine ⟨w.heap.size + 1, mk w.heap.size, W1, { target := .fn (.func gf) lb.toArray, args := #[.func (.yield (w.heap.size + 1)) #[] #[]] }, W1, gf,
    #[.func (.yield (w.heap.size + 1)) #[] #[]] ++ lb.toArray, W1, ?_, ?_, fun _ _ => trivial, ?_, fun h => by simp [Fence.wide] at h, ?_⟩
  · rw [hW1, hrec]; exact run_enterLoop_outer _ _ _ _ _
  · simp only [resolve, hev]
    simp [go_sem]
  · simp [invoke, go_sem, run_callFunc hfn]
  · refine callsIn_wide.2 ((hcall (w.heap.size + 1) W1 hE1 (fun W' => Hp w0 S ((w.heap.size + 1, .loop { rec with state := .done, pending := some .ret }) :: Lf w.heap.size) W') ?_).mono ?_)
    · intro W hW
      have hHW := hH1.ext hW
      have hlW := hHW.get .here
      have hy := run_yield (P := P) (args := xs.toArray) hlW (by rw [hrec]; simpa using hps)
      refine ⟨_, _, _, _, hy, roundIn_of_wpIn trivial ?_⟩
      have h8 := hround (w.heap.size + 1) w.heap.size rec W { tmps := (ps.zip xs).foldl (fun t (p, v) => t.setIfInBounds p v) a.tmps, defers := [] } (fun W' => Hp w0 S ((w.heap.size + 1, .loop { rec with state := .done, pending := some .ret }) :: Lf w.heap.size) W') hs0 (by omega) (by rw [hrec]) rfl rfl hHW (fun w' h => h)
      have e1 : rec.assign = assign := by rw [hrec]
      have e2 : rec.body = body := by rw [hrec]
      have e3 : (rec.params.zip xs.toArray).foldl (fun t (p, v) => t.setIfInBounds p v) rec.tmps = (ps.zip xs).foldl (fun t (p, v) => t.setIfInBounds p v) a.tmps := by
        rw [hrec]
        show (ps.toArray.zip xs.toArray).foldl _ a.tmps = _
        rw [List.zip_toArray, List.foldl_toArray]
      rw [e3]
      simp only [e1, e2] at h8 ⊢
      exact h8
    · rintro e w2 ⟨⟨v, rfl⟩, hH2⟩
      have hl2 := hH2.get .here
      refine ⟨some .ret, w2.putObj (w.heap.size + 1) (.loop { rec with state := .exhausted, pending := some .ret }), ?_, ?_⟩
      · exact run_endLoop (P := P) hl2 (by simp)
      · refine wpIn_ret ?_
        exact k _ _ w.heap.size hs0 ⟨by simp [hS.defers, mk], hS.size, hS.regs⟩ ((hH2.putObj (o' := .loop { rec with state := .exhausted, pending := some .ret }) .here (by omega)).del .here)
end
end Go.Sym

namespace Go.Sym
open Go
/-! ### An iterator's call of 'yield' -/
section
variable {P : Program} {ops : Array Oper} {Q : Exit → Act → World → Prop} {a : Act} {w : World} {n : Nat}
theorem Oper.lift0 {o : Oper} {K : Act → World → Prop} (h : o.wp P a w K Q) : o.wpIn Fence.wide n P a w K Q := by
  refine ⟨fun _ _ => trivial, ?_⟩
  rw [show Fence.wide.round = none from rfl, Oper.semAt_none]
  unfold Oper.wp at h
  generalize (execOp a.eval o).run P w = r at h ⊢
  match r, h with
  | .ok (.value v) w', h => exact h
  | .ok .skip w', h => exact h
  | .ok (.defer d) w', h => exact h
  | .ok (.enter f args) w', h =>
    refine ⟨fun e => (by cases e), ?_⟩
    exact callsIn_wide.2 h
  | .ok (.row row args) w', h => exact ⟨fun e => (by cases e), fun c cs _ => let ⟨v, w', r, s⟩ := h c cs; ⟨v, w', r, stepsIn_wide.2 s⟩⟩
  | .halt (.panic v) w', h => exact h
theorem wpListW {S : World → Prop} {rest : List Oper} (hL : ¬ LetsOut Q) : ∀ (pre : List Oper) (a : Act) (w : World), Sq P ops (Exit.then (wpListIn Fence.wide n P ops Q rest) Q) (hard S pre) a w → wpListIn Fence.wide n P ops Q (pre ++ rest) a w
  | [], _, _, h => h
  | o :: r, a, w, h => by
    simp only [hard, Sq] at h
    show wpListIn Fence.wide n P ops Q (o :: (r ++ rest)) a w
    unfold wpListIn
    split
    · rename_i hw
      rw [if_pos hw] at h
      refine Oper.lift0 ?_
      rcases h with h | h
      · exact Oper.wp_mono (fun a w k => wpListW hL r a w k.2) (wp_then h)
      · exact absurd h.2 (letsOut_then hL)
    · rename_i hw
      rw [if_neg hw] at h
      exact ⟨fun _ _ => trivial, wpListW hL r _ _ h.2⟩
theorem wp_then2 {o : Oper} {K C : Act → World → Prop} (h : o.wp P a w K Q) : o.wp P a w K (Exit.then C Q) := h
theorem Sq.wk {X Y : Act → World → Prop} {S : World → Prop} (h : ∀ a w, X a w → Y a w) : ∀ (l : List Oper) (a : Act) (w : World), Sq P ops (Exit.then X Q) (hard S l) a w → Sq P ops (Exit.then Y Q) (hard S l) a w
  | [], a, w, k => h a w k
  | o :: r, a, w, k => by
    simp only [hard, Sq] at k ⊢
    split
    · rename_i hw
      rw [if_pos hw] at k
      rcases k with k | k
      · exact .inl (wp_then2 (Oper.wp_mono (K' := fun a' w' => S w' ∧ Sq P ops (Exit.then Y Q) (hard S r) a' w') (fun a w h8 => ⟨h8.1, Sq.wk h r a w h8.2⟩) (wp_then k)))
      · exact .inr k
    · rename_i hw
      rw [if_neg hw] at k
      exact ⟨k.1, Sq.wk h r _ _ k.2⟩
theorem Sq.wk2 {X : Act → World → Prop} {S : World → Prop} (h : ∀ a w, Q .normal a w → X a w) : ∀ (l : List Oper) (a : Act) (w : World), Sq P ops Q (hard S l) a w → Sq P ops (Exit.then X Q) (hard S l) a w
  | [], a, w, k => h a w k
  | o :: r, a, w, k => by
    simp only [hard, Sq] at k ⊢
    split
    · rename_i hw
      rw [if_pos hw] at k
      rcases k with k | k
      · exact .inl (wp_then2 (Oper.wp_mono (K' := fun a' w' => S w' ∧ Sq P ops (Exit.then X Q) (hard S r) a' w') (fun a w h8 => ⟨h8.1, Sq.wk2 h r a w h8.2⟩) k))
      · exact .inr k
    · rename_i hw
      rw [if_neg hw] at k
      exact ⟨k.1, Sq.wk2 h r _ _ k.2⟩
/-- a region with one call of 'yield' -/
theorem c_yield {id d : Nat} {pre post : List Oper} {fx : Operand} {l : List Operand} {ats : Array TypeId} {ty : TypeId} {pos : String} {af : Array Edge} (w0 : World) (S : Nat → Prop) (hL : ¬ LetsOut Q)
    (h : Sq P (pre ++ (⟨some d, .call ⟨.value fx, l.toArray, ats⟩, ty, pos, af, none⟩ : Oper) :: post).toArray (Exit.then (fun a w => ∃ (lr : Nat) (vs : List Value), a.eval fx = .func (.yield lr) #[] #[] ∧ l.map a.eval = vs ∧ YieldAt Fence.wide 0 P lr vs.toArray w fun e w' => ∃ v, e = .returned v ∧ Sq P (pre ++ (⟨some d, .call ⟨.value fx, l.toArray, ats⟩, ty, pos, af, none⟩ : Oper) :: post).toArray Q (hard (fun _ => True) post) (a.put (some d) v) w') Q) (hard (Kp w0 S []) pre) a w) :
    (Code.region id (pre ++ (⟨some d, .call ⟨.value fx, l.toArray, ats⟩, ty, pos, af, none⟩ : Oper) :: post).toArray false).wp P Q a w := by
  refine (wpIn_wide (n := 1)).1 (wpIn_region_lit (wpListW (S := Kp w0 S []) hL pre a w ?_))
  refine Sq.wk (fun a w ⟨lr, vs, he, hv, fn, tmps, assign, body, hy, hR⟩ => ?_) _ _ _ h
  unfold wpListIn
  have hw : Region.wanted (⟨some d, .call ⟨.value fx, l.toArray, ats⟩, ty, pos, af, none⟩ : Oper) (yielded (pre ++ (⟨some d, .call ⟨.value fx, l.toArray, ats⟩, ty, pos, af, none⟩ : Oper) :: post).toArray a.tmps) = true := by simp [Region.wanted]
  rw [if_pos hw]
  refine ⟨fun _ _ => trivial, ?_⟩
  rw [show Fence.wide.round = none from rfl, Oper.semAt_none]
  have hx : (execOp a.eval (⟨some d, .call ⟨.value fx, l.toArray, ats⟩, ty, pos, af, none⟩ : Oper)).run P w = .ok (.round lr fn tmps assign body) w := by
    simp only [execOp, resolve, Sem.run_bind, he, Deferred.ofValue, Sem.run_pure, Result.andThen_ok, invoke, List.map_toArray, hv]
    simpa using hy
  rw [hx, Oper.uponIn_round]
  refine ⟨fun e => (by cases e), hR.mono ?_⟩
  rintro e w' ⟨v, rfl, k⟩
  have := wpListW (n := 1) (rest := []) hL post _ _ (Sq.wk2 (fun a w h => h) _ _ _ k)
  rwa [List.append_nil] at this
end
theorem YieldAt.mono {P : Program} {F : Fence} {m l : Nat} {args : Array Value} {W : World} {R R' : Ending → World → Prop} (h : YieldAt F m P l args W R) (k : ∀ e w, R e w → R' e w) : YieldAt F m P l args W R' :=
  let ⟨fn, tmps, asg, bd, hy, hR⟩ := h; ⟨fn, tmps, asg, bd, hy, hR.mono k⟩
theorem letsOut_body {P : Program} {fn : Func} {Rt : Ending → World → Prop} (h : ∀ w, ¬ Rt .outgrown w) : ¬ LetsOut (bodyPost P fn Rt) := fun ⟨_, w, k⟩ => h w k
/-- the parameter of a round -/
theorem StD.param {ds : List Deferred} {n d : Nat} {R : Rg} {a a1 : Act} {v : Value} (hS : StD ds n R a) (hd : a1.defers = []) (ht : a1.tmps = ([d].zip [v]).foldl (fun t (p, v) => t.setIfInBounds p v) a.tmps) (hlt : Nat.blt d n = true) : St n (up R d v) a1 := by
  have h := hS.put hlt v
  exact ⟨hd, by rw [ht]; exact h.size, fun i u hu => by rw [ht]; exact h.regs i u hu⟩
end Go.Sym
