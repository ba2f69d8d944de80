/- Rules of symbolic execution over any program of the model, that the claims of this folder use; part SymCode. Conditions: those that each rule names. -/
import Derived.Test.YtkhcbllphdhbdaaSymMem
namespace Go.Sym
open Go

section
variable {P : Program} {ops : Array Oper} {Q : Exit → Act → World → Prop} {rest : List Item} {a : Act} {w w0 : World} {n : Nat} {R : Rg} {ds : List Deferred} {S : Nat → Prop} {L K : Blocks}
variable {f : Bool} {d : Nat} {ty : TypeId} {pos : String} {af : Array Edge}

/-! ### building -/
theorem fill_fold (off : Nat) : ∀ (vs : List Value) (j : Nat) (l : List Value), (vs.zipIdx j).foldl (fun cs p => cs.setIfInBounds (off + p.2) p.1) l.toArray = (wr l (off + j) vs).toArray
  | [], j, l => by simp [wr]
  | v :: r, j, l => by
    simp only [List.zipIdx_cons, List.foldl_cons, List.setIfInBounds_toArray, wr]
    rw [fill_fold off r (j + 1) (l.set (off + j) v), Nat.add_assoc]
def fillL (pl : Nat → Option (Nat × Nat)) : List Value → List (Nat × Value) → Option (List Value)
  | zs, [] => some zs
  | zs, (i, v) :: r => match pl i with
    | none => none
    | some (off, size) => if Nat.beq v.cells.toList.length size && Nat.ble (off + size) zs.length then fillL pl (wr zs off v.cells.toList) r else none
theorem fill_of (pl : Nat → Option (Nat × Nat)) : ∀ (parts : List (Nat × Value)) (zs cs : List Value), fillL pl zs parts = some cs → Instr.fill pl zs.toArray parts = some cs.toArray
  | [], zs, cs, h => by simp [fillL] at h; simp [Instr.fill, h]
  | (i, v) :: r, zs, cs, h => by
    simp only [fillL] at h
    unfold Instr.fill
    cases hp : pl i with
    | none => simp [hp] at h
    | some q =>
      obtain ⟨off, size⟩ := q
      simp only [hp] at h
      split at h
      · rename_i hc
        simp only [Bool.and_eq_true, Nat.beq_eq, Nat.ble_eq] at hc
        obtain ⟨h1, h2⟩ := hc
        have h1' : v.cells.size = size := by rw [← Array.length_toList]; exact h1
        have : ¬ (v.cells.size ≠ size || decide (off + v.cells.size > zs.toArray.size)) = true := by simp [h1']; omega
        simp only [this]
        have e : (v.cells.zipIdx.foldl (fun cs x => match x with | (c, j) => cs.setIfInBounds (off + j) c) zs.toArray) = (wr zs off v.cells.toList).toArray := by
          have := fill_fold off v.cells.toList 0 zs
          rw [Nat.add_zero] at this
          rw [← this, ← Array.foldl_toList]
          simp
        simp only [if_false, Bool.false_eq_true]
        rw [e]
        exact fill_of pl r _ cs h
      · cases h
/-- a literal's cells: what is told stands in its place, the rest is zero (the parts in order) -/
def bldA (pl : Nat → Option (Nat × Nat)) (zs : List Value) : Nat → List (Nat × Value) → Option (List Value)
  | o, [] => some (zs.drop o)
  | o, (i, v) :: r => match pl i with
    | none => none
    | some (off, size) => bif Nat.beq v.cells.toList.length size && Nat.ble o off && Nat.ble (off + size) zs.length then
        match bldA pl zs (off + size) r with
        | some t => some ((zs.drop o).take (off - o) ++ (v.cells.toList ++ t))
        | none => none
      else none
theorem bldA_fill (pl : Nat → Option (Nat × Nat)) (zs : List Value) : ∀ (parts : List (Nat × Value)) (o : Nat) (X t : List Value), bldA pl zs o parts = some t → X.length = zs.length → X.drop o = zs.drop o → fillL pl X parts = some (X.take o ++ t)
  | [], o, X, t, h, hl, hd => by simp [bldA] at h; subst h; rw [← hd]; simp [fillL]
  | (i, v) :: r, o, X, t, h, hl, hd => by
    simp only [bldA] at h
    simp only [fillL]
    cases hp : pl i with
    | none => simp [hp] at h
    | some q =>
      obtain ⟨off, size⟩ := q
      simp only [hp] at h ⊢
      cases hc : (Nat.beq v.cells.toList.length size && Nat.ble o off && Nat.ble (off + size) zs.length) with
      | false => rw [hc] at h; cases h
      | true =>
        rw [hc] at h
        simp only [Bool.and_eq_true] at hc
        obtain ⟨⟨c1, c2⟩, c3⟩ := hc
        have e1 := Nat.eq_of_beq_eq_true c1
        have e2 := Nat.le_of_ble_eq_true c2
        have e3 := Nat.le_of_ble_eq_true c3
        rw [if_pos (by rw [Bool.and_eq_true]; exact ⟨c1, by rw [hl]; exact c3⟩)]
        simp only [cond_true] at h
        cases hb : bldA pl zs (off + size) r with
        | none => simp [hb] at h
        | some t' =>
          simp only [hb, Option.some.injEq] at h
          have hfit : off + v.cells.toList.length ≤ X.length := by omega
          have hw : wr X off v.cells.toList = X.take off ++ v.cells.toList ++ X.drop (off + v.cells.toList.length) := wr_eq _ _ _ hfit
          have hlen : (wr X off v.cells.toList).length = zs.length := by rw [wr_length, hl]
          have ht : (wr X off v.cells.toList).take (off + size) = X.take off ++ v.cells.toList := by
            rw [hw, ← e1]
            have : (X.take off ++ v.cells.toList).length = off + v.cells.toList.length := by simp; omega
            rw [← this, List.take_left]
          have hdr : (wr X off v.cells.toList).drop (off + size) = zs.drop (off + size) := by
            rw [hw, ← e1]
            have : (X.take off ++ v.cells.toList).length = off + v.cells.toList.length := by simp; omega
            rw [← this, List.drop_left, this]
            have h2 : X.drop (off + v.cells.toList.length) = (X.drop o).drop (off + v.cells.toList.length - o) := by rw [List.drop_drop]; congr 1; omega
            rw [h2, hd, List.drop_drop]; congr 1; omega
          rw [bldA_fill pl zs r (off + size) _ t' hb hlen hdr, ht, ← h]
          have h3 : X.take off = X.take o ++ (zs.drop o).take (off - o) := by
            rw [← hd]
            have : off = o + (off - o) := by omega
            conv => lhs; rw [this, List.take_add]
          rw [h3]; simp
theorem bldA_fill0 {pl : Nat → Option (Nat × Nat)} {zs cs : List Value} {parts : List (Nat × Value)} (h : bldA pl zs 0 parts = some cs) : fillL pl zs parts = some cs := by
  have := bldA_fill pl zs parts 0 zs cs h rfl rfl
  simpa using this
def placesB (P : Program) (t : TypeId) : Option (List (Nat × Nat)) :=
  match P.underlying t with
  | some (.struct fields) => fields.toList.mapM fun f => (P.info? f.type).map fun i => (f.offset, i.size)
  | _ => none
def arrB (P : Program) (t : TypeId) : Option (Nat × Nat) :=
  match P.underlying t with
  | some (.array len elem) => (P.info? elem).map fun i => (len, i.size)
  | _ => none
theorem run_zero {t : Nat} {zs : List Value} (h : zcB P t = some zs) (w : World) : ∃ z, (zeroValue t).run P w = .ok z w ∧ z.cells = zs.toArray := by
  unfold zcB at h
  cases hi : P.info? t with
  | none => simp [hi] at h
  | some i =>
    cases hz : i.zero with
    | none => simp [hi, hz] at h
    | some z => simp [hi, hz] at h; exact ⟨z, by simp [zeroValue, typeInfo, hi, hz], by rw [← h]⟩
theorem run_places : ∀ (fs : List Field) (pl : List (Nat × Nat)) (w : World), (fs.mapM fun f => (P.info? f.type).map fun i => (f.offset, i.size)) = some pl →
    (fs.mapM (fun f => do pure (f.offset, ← sizeOf f.type) : Field → Sem (Nat × Nat))).run P w = .ok pl w
  | [], pl, w, h => by simp at h; subst h; simp
  | x :: r, pl, w, h => by
    simp only [List.mapM_cons, Option.bind_eq_bind, Option.pure_def, Option.bind_eq_some_iff] at h
    obtain ⟨p, hp, q, hq, e⟩ := h
    cases e
    cases hi : P.info? x.type with
    | none => simp [hi] at hp
    | some i =>
      simp [hi] at hp
      have ih := run_places r q w hq
      simp only [List.mapM_cons, Sem.run_bind, sizeOf, typeInfo, run_program, Result.andThen_ok, hi, Sem.run_pure] at ih ⊢
      rw [ih]; simp [← hp]
theorem run_build_struct {t : Nat} {zs cs : List Value} {pl : List (Nat × Nat)} {parts : List (Nat × Value)} (hz : zcB P t = some zs) (hp : placesB P t = some pl) (hf : fillL (pl[·]?) zs parts = some cs) (w : World) :
    (Instr.build t parts.toArray).run P w = .ok (.agg cs.toArray) w := by
  obtain ⟨z, hz1, hz2⟩ := run_zero hz w
  unfold placesB at hp
  split at hp
  · rename_i fields hu
    have h := run_places (P := P) fields.toList pl w hp
    have hm : (fields.mapM (fun f => do pure (f.offset, ← sizeOf f.type) : Field → Sem (Nat × Nat))).run P w = .ok pl.toArray w := by
      rw [Array.mapM_eq_mapM_toList, Sem.run_map, h]; rfl
    have hfill := fill_of _ parts zs cs hf
    have e : (fun i : Nat => pl.toArray[i]?) = fun i : Nat => pl[i]? := by funext i; simp
    simp only [Instr.build, Sem.run_bind, hz1, Result.andThen_ok, run_underlying hu, hm]
    rw [hz2, e, hfill]
    simp
  · cases hp
theorem run_build_array {t len es : Nat} {zs cs : List Value} {parts : List (Nat × Value)} (hz : zcB P t = some zs) (hp : arrB P t = some (len, es)) (hf : fillL (fun i => some (i * es, es)) zs parts = some cs) (w : World) :
    (Instr.build t parts.toArray).run P w = .ok (.agg cs.toArray) w := by
  obtain ⟨z, hz1, hz2⟩ := run_zero hz w
  unfold arrB at hp
  split at hp
  · rename_i len' elem hu
    cases hi : P.info? elem with
    | none => simp [hi] at hp
    | some i =>
      simp [hi] at hp
      obtain ⟨rfl, rfl⟩ := hp
      have hfill := fill_of _ parts zs cs hf
      simp only [Instr.build, Sem.run_bind, hz1, Result.andThen_ok, run_underlying hu, sizeOf, typeInfo, run_program, hi, Sem.run_pure]
      rw [hz2, hfill]
      simp
  · cases hp
theorem r_buildS {t : Nat} {parts : List (Nat × Operand)} {vs : List Value} {zs cs : List Value} {pl : List (Nat × Nat)} (hS : StD ds n R a) (hSw : Sf f (Kp w0 S K) w) (hv : evs R (parts.map (·.2)) = some vs) (hlt : Nat.blt d n = true)
    (hz : zcB P t = some zs) (hp : placesB P t = some pl) (hf : bldA (pl[·]?) zs 0 ((parts.map (·.1)).zip vs) = some cs)
    (k : ∀ a', StD ds n (up R d (.agg cs.toArray)) a' → Sq P ops Q rest a' w) : Sq P ops Q ((f, ⟨some d, .build t parts.toArray, ty, pos, af, none⟩, Kp w0 S K) :: rest) a w :=
  r_build hS hSw hv hlt (run_build_struct hz hp (bldA_fill0 hf)) k
theorem r_buildA {t len es : Nat} {parts : List (Nat × Operand)} {vs : List Value} {zs cs : List Value} (hS : StD ds n R a) (hSw : Sf f (Kp w0 S K) w) (hv : evs R (parts.map (·.2)) = some vs) (hlt : Nat.blt d n = true)
    (hz : zcB P t = some zs) (hp : arrB P t = some (len, es)) (hf : bldA (fun i => some (i * es, es)) zs 0 ((parts.map (·.1)).zip vs) = some cs)
    (k : ∀ a', StD ds n (up R d (.agg cs.toArray)) a' → Sq P ops Q rest a' w) : Sq P ops Q ((f, ⟨some d, .build t parts.toArray, ty, pos, af, none⟩, Kp w0 S K) :: rest) a w :=
  r_build hS hSw hv hlt (run_build_array hz hp (bldA_fill0 hf)) k

/-! ### calls -/
def isFn (P : Program) (g : FuncId) : Bool := match P.funcs[g]? with
  | some fn => !(fn.name == "runtime.NumGoroutine") && fn.body.isSome
  | none => false
theorem run_callFunc {g : FuncId} (h : isFn P g = true) (args : Array Value) (w : World) : (callFunc g args).run P w = .ok (.enter g args) w := by
  unfold isFn at h
  cases hf : P.funcs[g]? with
  | none => simp [hf] at h
  | some fn =>
    simp only [hf, Bool.and_eq_true, Bool.not_eq_true'] at h
    cases hb : fn.body with
    | none => simp [hb] at h
    | some c =>
      have hn : ¬ fn.name = "runtime.NumGoroutine" := by simpa using h.1
      simp [callFunc, hf, hn, hb]
theorem r_call {g : FuncId} {fx : Operand} {l : List Operand} {ats : Array TypeId} {vs cap : List Value} (hS : StD ds n R a) (hf : ev R fx = some (.func (.func g) #[] cap.toArray)) (hv : evs R l = some vs) (hg : isFn P g = true) (hlt : Nat.blt d n = true)
    (k : Calls P g (vs ++ cap).toArray w fun e w' => ∃ v, e = .returned v ∧ Kp w0 S K w' ∧ ∀ a', StD ds n (up R d v) a' → Sq P ops Q rest a' w') :
    Sq P ops Q ((false, ⟨some d, .call ⟨.value fx, l.toArray, ats⟩, ty, pos, af, none⟩, Kp w0 S K) :: rest) a w := by
  refine Sq.enter (g := g) (args := (vs ++ cap).toArray) (w' := w) rfl ?_ (k.mono ?_)
  · simp only [execOp, resolve, Sem.run_bind, hS.val hf, Deferred.ofValue, Sem.run_pure, Result.andThen_ok, invoke, List.map_toArray, hS.vals hv]
    rw [run_callFunc hg]; simp
  · rintro e w' ⟨v, he, hK, h⟩
    exact ⟨v, he, hK, h _ (hS.put hlt v)⟩
theorem r_call0 {g : FuncId} {fx : Operand} {l : List Operand} {ats : Array TypeId} {vs cap : List Value} (hS : StD ds n R a) (hf : ev R fx = some (.func (.func g) #[] cap.toArray)) (hv : evs R l = some vs) (hg : isFn P g = true)
    (k : Calls P g (vs ++ cap).toArray w fun e w' => ∃ v, e = .returned v ∧ Kp w0 S K w' ∧ Sq P ops Q rest a w') :
    Sq P ops Q ((false, ⟨none, .call ⟨.value fx, l.toArray, ats⟩, ty, pos, af, none⟩, Kp w0 S K) :: rest) a w := by
  refine Sq.enter (g := g) (args := (vs ++ cap).toArray) (w' := w) rfl ?_ (k.mono ?_)
  · simp only [execOp, resolve, Sem.run_bind, hS.val hf, Deferred.ofValue, Sem.run_pure, Result.andThen_ok, invoke, List.map_toArray, hS.vals hv]
    rw [run_callFunc hg]; simp
  · rintro e w' ⟨v, he, hK, h⟩
    exact ⟨v, he, hK, h⟩

/-! ### entering and leaving a function -/
theorem ofL_some : ∀ (l : List Value) (i : Nat) (v : Value), ofL l i = some v → l[i]? = some v
  | [], i, v, h => by simp [ofL] at h
  | x :: r, 0, v, h => by simpa [ofL] using h
  | x :: r, i + 1, v, h => by simp only [ofL] at h; simpa using ofL_some r i v h
theorem enter {g : FuncId} {fn : Func} {c : Code} {m : Nat} {args : List Value} {Rt : Ending → World → Prop} (hf : P.funcs[g]? = some fn) (hb : fn.body = some c) (hn : fn.ntmps = m) (hle : Nat.ble args.length m = true)
    (k : ∀ a, St m (ofL args) a → c.wp P (bodyPost P fn Rt) a w) : Calls P g args.toArray w Rt := by
  refine calls_of_wp hf hb (k _ ⟨rfl, ?_, ?_⟩)
  · simp only [Nat.ble_eq] at hle; simp [hn]; omega
  · intro i v hi
    have := ofL_some args i v hi
    have hlt : i < args.length := (List.getElem?_eq_some_iff.1 this).1
    simp only [Array.getD_eq_getD_getElem?, Array.getElem?_append, List.size_toArray, hlt, if_true, List.getElem?_toArray, this, Option.getD_some]
/-- what a result variable holds -/
inductive Res (P : Program) (R : Rg) (w : World) : List ResultVar → List Value → Prop
  | nil : Res P R w [] []
  | tmp {t v rs vs} : R t = some v → Res P R w rs vs → Res P R w (.tmp t :: rs) (v :: vs)
  | cell {p t b v m rs vs} {l : List Value} {T : TypeId} {fz : Nat × Nat} : R p = some (.pointer (some ⟨b, 0, none⟩)) → w.heap[b]? = some (.cells l.toArray T fz) → agB P t = some m → l.length = m → v = .agg l.toArray → Res P R w rs vs → Res P R w (.cell p t :: rs) (v :: vs)
  | cell1 {p t b v rs vs} {l : List Value} {T : TypeId} {fz : Nat × Nat} : R p = some (.pointer (some ⟨b, 0, none⟩)) → w.heap[b]? = some (.cells l.toArray T fz) → scB P t = true → l[0]? = some v → Res P R w rs vs → Res P R w (.cell p t :: rs) (v :: vs)
def valOf : List Value → Value
  | [v] => v
  | vs => .tuple vs.toArray
theorem run_results (hS : StD ds n R a) : ∀ {rs : List ResultVar} {vs : List Value}, Res P R w rs vs →
    (rs.mapM (fun | .tmp t => pure (a.tmps.getD t undef) | .cell p t => do loadVar t (← asAddr (a.tmps.getD p undef)) : ResultVar → Sem Value)).run P w = .ok vs w := by
  intro rs vs h
  induction h with
  | nil => simp
  | tmp ht _ ih =>
    have := hS.regs _ _ ht
    simp only [List.mapM_cons, Sem.run_bind, Sem.run_pure, Result.andThen_ok, this]
    rw [ih]; simp
  | @cell p t b v m rs vs l T fz hp hb ha hl hv _ ih =>
    have := hS.regs _ _ hp
    have hrun := run_loadVar_ag (P := P) (w := w) (b := b) (o := 0) (T := T) (fz := fz) (l := l) ha hb (by omega)
    have e : (asAddr (a.tmps.getD p undef)).run P w = .ok ⟨b, 0, none⟩ w := by rw [this]; rfl
    simp only [List.mapM_cons, Sem.run_bind, e, Sem.run_pure, Result.andThen_ok, hrun, rd_all hl]
    rw [ih]; simp [hv]
  | @cell1 p t b v rs vs l T fz hp hb ha hl _ ih =>
    have := hS.regs _ _ hp
    have hrun := run_loadVar_sc (P := P) (w := w) (b := b) (o := 0) (T := T) (fz := fz) (cs := l.toArray) (v := v) ha hb (by simpa using hl)
    have e : (asAddr (a.tmps.getD p undef)).run P w = .ok ⟨b, 0, none⟩ w := by rw [this]; rfl
    simp only [List.mapM_cons, Sem.run_bind, e, Sem.run_pure, Result.andThen_ok, hrun]
    rw [ih]; simp
theorem leave {fn : Func} {Rt : Ending → World → Prop} {rs : List ResultVar} {vs : List Value} {e : Exit} (he : e = .ret ∨ e = .normal) (hS : St n R a) (hr : fn.results = rs.toArray) (hv : Res P R w rs vs) (k : Rt (.returned (valOf vs)) w) : bodyPost P fn Rt e a w := by
  have h := run_results hS hv
  have hrun : (results fn a.tmps).run P w = .ok (valOf vs) w := by
    simp only [results, hr, Sem.run_bind]
    rw [Array.mapM_eq_mapM_toList, Sem.run_map]
    dsimp only
    erw [h]
    simp only [Result.andThen_ok]
    match vs with
    | [] => simp [valOf]
    | [v] => simp [valOf]
    | v :: u :: r => simp [valOf]
  rcases he with rfl | rfl
  · exact ⟨hS.defers, _, hrun, k⟩
  · exact ⟨hS.defers, _, hrun, k⟩

/-! ### lengths -/
theorem run_len {t : Nat} {v : Value} {m : Nat} (x : Operand) (hx : a.eval x = v) (w : World) (h : (Builtin.len_ #[t] ty #[v]).run P w = .ok (.int .i64 m) w) :
    (execOp a.eval ⟨some d, .call ⟨.builtin .len, #[x], #[t]⟩, ty, pos, af, none⟩).run P w = .ok (.value (.int .i64 m)) w := by
  simp only [execOp, resolve, Sem.run_bind, Sem.run_pure, Result.andThen_ok, invoke, builtin, List.map_toArray, List.map_cons, List.map_nil, hx, h]
theorem r_lenSl {t : Nat} {x : Operand} {p : Option Addr} {m c : Nat} (hS : StD ds n R a) (hSw : Sf f (Kp w0 S K) w) (hx : ev R x = some (.slice p m c)) (ht : isSlice P t = true) (hlt : Nat.blt d n = true)
    (k : ∀ a', StD ds n (up R d (.int .i64 m)) a' → Sq P ops Q rest a' w) : Sq P ops Q ((f, ⟨some d, .call ⟨.builtin .len, #[x], #[t]⟩, ty, pos, af, none⟩, Kp w0 S K) :: rest) a w := by
  unfold isSlice at ht
  split at ht
  · rename_i e hu
    exact r_pure hS hSw hlt (fun w => run_len x (hS.val hx) w (by simp [Builtin.len_, run_underlying hu, goInt])) k
  · cases ht
def isStr (P : Program) (t : TypeId) : Bool := match P.underlying t with | some .string => true | _ => false
theorem r_lenStr {t : Nat} {x : Operand} {s : ByteArray} (hS : StD ds n R a) (hSw : Sf f (Kp w0 S K) w) (hx : ev R x = some (.string s)) (ht : isStr P t = true) (hlt : Nat.blt d n = true)
    (k : ∀ a', StD ds n (up R d (.int .i64 s.size)) a' → Sq P ops Q rest a' w) : Sq P ops Q ((f, ⟨some d, .call ⟨.builtin .len, #[x], #[t]⟩, ty, pos, af, none⟩, Kp w0 S K) :: rest) a w := by
  unfold isStr at ht
  split at ht
  · rename_i hu
    exact r_pure hS hSw hlt (fun w => run_len x (hS.val hx) w (by simp [Builtin.len_, run_underlying hu, goInt])) k
  · cases ht
theorem r_capSl {t : Nat} {x : Operand} {p : Option Addr} {m c : Nat} (hS : StD ds n R a) (hSw : Sf f (Kp w0 S K) w) (hx : ev R x = some (.slice p m c)) (ht : isSlice P t = true) (hlt : Nat.blt d n = true)
    (k : ∀ a', StD ds n (up R d (.int .i64 c)) a' → Sq P ops Q rest a' w) : Sq P ops Q ((f, ⟨some d, .call ⟨.builtin .cap, #[x], #[t]⟩, ty, pos, af, none⟩, Kp w0 S K) :: rest) a w := by
  unfold isSlice at ht
  split at ht
  · rename_i e hu
    exact r_pure hS hSw hlt (fun w => by
      have h : (Builtin.cap_ #[t] ty #[.slice p m c]).run P w = .ok (.int .i64 c) w := by simp [Builtin.cap_, run_underlying hu, goInt]
      simp only [execOp, resolve, Sem.run_bind, Sem.run_pure, Result.andThen_ok, invoke, builtin, List.map_toArray, List.map_cons, List.map_nil, hS.val hx, h]) k
  · cases ht

/-! ### code -/
theorem then_n {Kk : Act → World → Prop} {Q : Exit → Act → World → Prop} (h : Kk a w) : Exit.then Kk Q .normal a w := h
theorem then_e {Kk : Act → World → Prop} {Q : Exit → Act → World → Prop} {id : Nat} (h : Q (.exit id) a w) : Exit.then Kk Q (.exit id) a w := h
theorem then_r {Kk : Act → World → Prop} {Q : Exit → Act → World → Prop} (h : Q .ret a w) : Exit.then Kk Q .ret a w := h
theorem blk_n {id : Nat} {Q : Exit → Act → World → Prop} (h : Q .normal a w) : Exit.inBlock id Q .normal a w := h
theorem blk_r {id : Nat} {Q : Exit → Act → World → Prop} (h : Q .ret a w) : Exit.inBlock id Q .ret a w := h
theorem blk_hit {id : Nat} {Q : Exit → Act → World → Prop} (h : Q .normal a w) : Exit.inBlock id Q (.exit id) a w := by simp [Exit.inBlock, h]
theorem blk_e {id id' : Nat} {Q : Exit → Act → World → Prop} (hne : Nat.beq id' id = false) (h : Q (.exit id') a w) : Exit.inBlock id Q (.exit id') a w := by
  have : id' ≠ id := fun e => by subst e; simp at hne
  simp [Exit.inBlock, this, h]
theorem Sq.nil {Q : Exit → Act → World → Prop} (h : Q .normal a w) : Sq P ops Q [] a w := h
theorem c_seq {x y : Code} {Q : Exit → Act → World → Prop} (h : x.wp P (Exit.then (y.wp P Q) Q) a w) : (Code.seq x y).wp P Q a w := wp_seq h
theorem c_cut {x y : Code} {Q : Exit → Act → World → Prop} (J : Act → World → Prop) (h : x.wp P (Exit.then J Q) a w) (k : ∀ a w, J a w → y.wp P Q a w) : (Code.seq x y).wp P Q a w :=
  wp_seq (wp_mono h fun e a w q => by cases e <;> first | exact k _ _ q | exact q)
theorem c_cond {c : Operand} {x y : Code} {b : Bool} {Q : Exit → Act → World → Prop} (hS : StD ds n R a) (hc : ev R c = some (.bool b)) (ht : b = true → x.wp P Q a w) (hf : b = false → y.wp P Q a w) : (Code.cond c x y).wp P Q a w :=
  wp_cond_split (hS.val hc) ht hf
theorem c_condT {c : Operand} {x y : Code} {b : Bool} {Q : Exit → Act → World → Prop} (hS : StD ds n R a) (hc : ev R c = some (.bool b)) (hb : b = true) (ht : x.wp P Q a w) : (Code.cond c x y).wp P Q a w :=
  wp_cond (hS.val hc) (by rw [if_pos hb]; exact ht)
theorem c_condF {c : Operand} {x y : Code} {b : Bool} {Q : Exit → Act → World → Prop} (hS : StD ds n R a) (hc : ev R c = some (.bool b)) (hb : b = false) (ht : y.wp P Q a w) : (Code.cond c x y).wp P Q a w :=
  wp_cond (hS.val hc) (by rw [if_neg (by simp [hb])]; exact ht)

/-! ### places in arrays and slices -/
theorem r_indexAddrA {t len es b o j : Nat} {x y : Operand} {kk : IntKind} {i : Int} (hS : StD ds n R a) (hSw : Sf f (Kp w0 S K) w) (hx : ev R x = some (.pointer (some ⟨b, o, none⟩))) (hy : ev R y = some (.int kk i)) (ht : arrB P t = some (len, es)) (hi : i = j) (hj : j < len) (hlt : Nat.blt d n = true)
    (k : ∀ a', StD ds n (up R d (.pointer (some ⟨b, o + j * es, none⟩))) a' → Sq P ops Q rest a' w) : Sq P ops Q ((f, ⟨some d, .indexAddr t x y, ty, pos, af, none⟩, Kp w0 S K) :: rest) a w := by
  unfold arrB at ht
  split at ht
  · rename_i len' elem hu
    cases hq : P.info? elem with
    | none => simp [hq] at ht
    | some q =>
      simp [hq] at ht
      obtain ⟨rfl, rfl⟩ := ht
      subst hi
      refine r_pure hS hSw hlt (fun w => ?_) k
      simp [execOp, hS.val hx, hS.val hy, Instr.indexAt, asIntOf, run_underlying hu, Instr.sureAddr, hj, sizeOf, typeInfo, hq, add_eq]
  · cases ht
def slB (P : Program) (t : TypeId) : Option Nat :=
  match P.underlying t with
  | some (.slice elem) => (P.info? elem).map (·.size)
  | _ => none
theorem r_indexAddrS {t es b o j len cap : Nat} {x y : Operand} {kk : IntKind} {i : Int} (hS : StD ds n R a) (hSw : Sf f (Kp w0 S K) w) (hx : ev R x = some (.slice (some ⟨b, o, none⟩) len cap)) (hy : ev R y = some (.int kk i)) (ht : slB P t = some es) (hi : i = j) (hj : j < len) (hlt : Nat.blt d n = true)
    (k : ∀ a', StD ds n (up R d (.pointer (some ⟨b, o + j * es, none⟩))) a' → Sq P ops Q rest a' w) : Sq P ops Q ((f, ⟨some d, .indexAddr t x y, ty, pos, af, none⟩, Kp w0 S K) :: rest) a w := by
  unfold slB at ht
  split at ht
  · rename_i elem hu
    cases hq : P.info? elem with
    | none => simp [hq] at ht
    | some q =>
      simp [hq] at ht
      subst ht
      subst hi
      refine r_pure hS hSw hlt (fun w => ?_) k
      simp [execOp, hS.val hx, hS.val hy, Instr.indexAt, asIntOf, run_underlying hu, hj, sizeOf, typeInfo, hq, add_eq]
  · cases ht
end
end Go.Sym
