/- Rules of symbolic execution over any program of the model, that the claims of this folder use; part SymPure. Conditions: those that each rule names. -/
import Derived.Test.YtkhcbllphdhbdaaSym
namespace Go.Sym
open Go

section
variable {P : Program} {ops : Array Oper} {Q : Exit → Act → World → Prop} {S : World → Prop} {rest : List Item} {a : Act} {w : World} {n : Nat} {R : Rg} {ds : List Deferred}

/-- what is owed behind an operation that leaves the world alone -/
def Sf : Bool → (World → Prop) → World → Prop
  | true, _, _ => True
  | false, S, w => S w
theorem Sq.pure {f : Bool} {o : Oper} {v : Value} (hg : o.guard = none) (hp : ∀ w, (execOp a.eval o).run P w = .ok (.value v) w) (hSw : Sf f S w)
    (K : Sq P ops Q rest (a.put o.dst v) w) : Sq P ops Q ((f, o, S) :: rest) a w := by
  have hw : Region.wanted o (yielded ops a.tmps) = true := by simp [Region.wanted, hg]
  cases f with
  | true => exact ⟨v, .inl ⟨hw, fun w _ => hp w⟩, K⟩
  | false =>
    simp only [Sq, hw, if_true]
    exact .inl (by simp only [Oper.wp, hp w, Oper.upon]; exact ⟨hSw, K⟩)
theorem Sq.soft {o : Oper} {v : Value} (hg : o.guard = none) (hp : ∀ w, S w → (execOp a.eval o).run P w = .ok (.value v) w)
    (K : Sq P ops Q rest (a.put o.dst v) w) : Sq P ops Q ((true, o, S) :: rest) a w :=
  ⟨v, .inl ⟨by simp [Region.wanted, hg], hp⟩, K⟩
theorem Sq.done {o : Oper} {v : Value} {w' : World} (hg : o.guard = none) (hp : (execOp a.eval o).run P w = .ok (.value v) w') (hSw : S w')
    (K : Sq P ops Q rest (a.put o.dst v) w') : Sq P ops Q ((false, o, S) :: rest) a w := by
  have hw : Region.wanted o (yielded ops a.tmps) = true := by simp [Region.wanted, hg]
  simp only [Sq, hw, if_true]
  exact .inl (by simp only [Oper.wp, hp, Oper.upon]; exact ⟨hSw, K⟩)
theorem Sq.skip {o : Oper} {w' : World} (hg : o.guard = none) (hp : (execOp a.eval o).run P w = .ok .skip w') (hSw : S w')
    (K : Sq P ops Q rest (a.put o.dst undef) w') : Sq P ops Q ((false, o, S) :: rest) a w := by
  have hw : Region.wanted o (yielded ops a.tmps) = true := by simp [Region.wanted, hg]
  simp only [Sq, hw, if_true]
  exact .inl (by simp only [Oper.wp, hp, Oper.upon]; exact ⟨hSw, K⟩)
theorem Sq.enter {o : Oper} {g : FuncId} {args : Array Value} {w' : World} (hg : o.guard = none) (hp : (execOp a.eval o).run P w = .ok (.enter g args) w')
    (K : Calls P g args w' fun e w'' => ∃ v, e = .returned v ∧ S w'' ∧ Sq P ops Q rest (a.put o.dst v) w'') : Sq P ops Q ((false, o, S) :: rest) a w := by
  have hw : Region.wanted o (yielded ops a.tmps) = true := by simp [Region.wanted, hg]
  simp only [Sq, hw, if_true]
  refine .inl ?_
  simp only [Oper.wp, hp, Oper.upon]
  exact K.mono (by rintro e w'' ⟨v, rfl, h⟩; exact h)

/-- the slot that a guard looks at -/
def gslot (ops : Array Oper) (j : Nat) : Option Nat := (ops[j]?).bind (·.dst)
theorem yielded_of {j d : Nat} {b : Bool} (hS : StD ds n R a) (hj : gslot ops j = some d) (hd : R d = some (.bool b)) : yielded ops a.tmps j = some b := by
  have h := hS.regs d _ hd
  have h2 : a.tmps[d]? = some (.bool b) := by
    cases hq : a.tmps[d]? with
    | none => simp [Array.getD_eq_getD_getElem?, hq, undef] at h
    | some u => simp [Array.getD_eq_getD_getElem?, hq] at h; rw [h]
  unfold gslot at hj
  simp [yielded, hj, h2]
theorem Sq.guardYes {f : Bool} {dst : Option Tmp} {op : Op} {ty : TypeId} {pos : String} {af : Array Edge} {j d : Nat} {want b : Bool} (hS : StD ds n R a) (hj : gslot ops j = some d) (hd : R d = some (.bool b)) (hb : b = want)
    (K : Sq P ops Q ((f, ⟨dst, op, ty, pos, af, none⟩, S) :: rest) a w) : Sq P ops Q ((f, ⟨dst, op, ty, pos, af, some (j, want)⟩, S) :: rest) a w := by
  have hy := yielded_of hS hj hd
  subst hb
  have hw : ∀ o : Oper, o.guard = some (j, b) → Region.wanted o (yielded ops a.tmps) = true := fun o ho => by simp [Region.wanted, ho, hy]
  have hw0 : ∀ o : Oper, o.guard = none → Region.wanted o (yielded ops a.tmps) = true := fun o ho => by simp [Region.wanted, ho]
  cases f with
  | true =>
    obtain ⟨v, hy', K⟩ := K
    refine ⟨v, .inl ⟨hw _ rfl, ?_⟩, K⟩
    rcases hy' with ⟨_, h⟩ | ⟨h, _⟩
    · exact h
    · rw [hw0 _ rfl] at h; cases h
  | false =>
    simp only [Sq] at K ⊢
    rw [if_pos (hw0 _ rfl)] at K
    rw [if_pos (hw _ rfl)]
    exact K
theorem Sq.guardNo {f : Bool} {d' : Nat} {op : Op} {ty : TypeId} {pos : String} {af : Array Edge} {j d : Nat} {want b : Bool} (hS : StD ds n R a) (hj : gslot ops j = some d) (hd : R d = some (.bool b)) (hb : b = !want)
    (hSw : Sf f S w) (hlt : Nat.blt d' n = true) (K : ∀ a', StD ds n (up R d' undef) a' → Sq P ops Q rest a' w) : Sq P ops Q ((f, ⟨some d', op, ty, pos, af, some (j, want)⟩, S) :: rest) a w := by
  have hy := yielded_of hS hj hd
  have hw : ∀ o : Oper, o.guard = some (j, want) → Region.wanted o (yielded ops a.tmps) = false := fun o ho => by simp [Region.wanted, ho, hy, hb]
  have K' := K _ (hS.put hlt undef)
  cases f with
  | true => exact ⟨undef, .inr ⟨hw _ rfl, rfl⟩, K'⟩
  | false =>
    simp only [Sq]
    rw [if_neg (by simp [hw])]
    exact ⟨hSw, K'⟩

/-! ### pure operations -/
variable {f : Bool} {d : Nat} {ty : TypeId} {pos : String} {af : Array Edge}

theorem r_pure {op : Op} {v : Value} (hS : StD ds n R a) (hSw : Sf f S w) (hlt : Nat.blt d n = true) (hp : ∀ w, (execOp a.eval ⟨some d, op, ty, pos, af, none⟩).run P w = .ok (.value v) w)
    (K : ∀ a', StD ds n (up R d v) a' → Sq P ops Q rest a' w) : Sq P ops Q ((f, ⟨some d, op, ty, pos, af, none⟩, S) :: rest) a w :=
  Sq.pure rfl hp hSw (K _ (hS.put hlt v))

theorem r_move {x : Operand} {v : Value} (hS : StD ds n R a) (hSw : Sf f S w) (hx : ev R x = some v) (hlt : Nat.blt d n = true)
    (K : ∀ a', StD ds n (up R d v) a' → Sq P ops Q rest a' w) : Sq P ops Q ((f, ⟨some d, .move x, ty, pos, af, none⟩, S) :: rest) a w :=
  r_pure hS hSw hlt (fun w => by simp [execOp, hS.val hx]) K
theorem r_assign {x : Operand} {v : Value} (hS : StD ds n R a) (hSw : Sf f S w) (hx : ev R x = some v) (hlt : Nat.blt d n = true)
    (K : ∀ a', StD ds n (up R d v) a' → Sq P ops Q rest a' w) : Sq P ops Q ((f, ⟨some d, .assign x, ty, pos, af, none⟩, S) :: rest) a w :=
  r_pure hS hSw hlt (fun w => by simp [execOp, hS.val hx]) K
theorem r_pickT {c x y : Operand} {b : Bool} {v : Value} (hS : StD ds n R a) (hSw : Sf f S w) (hc : ev R c = some (.bool b)) (hb : b = true) (hx : ev R x = some v) (hlt : Nat.blt d n = true)
    (K : ∀ a', StD ds n (up R d v) a' → Sq P ops Q rest a' w) : Sq P ops Q ((f, ⟨some d, .pick c x y, ty, pos, af, none⟩, S) :: rest) a w :=
  r_pure hS hSw hlt (fun w => by simp [execOp, hS.val hx, hS.val hc, asBool, hb]) K
theorem r_pickF {c x y : Operand} {b : Bool} {v : Value} (hS : StD ds n R a) (hSw : Sf f S w) (hc : ev R c = some (.bool b)) (hb : b = false) (hy : ev R y = some v) (hlt : Nat.blt d n = true)
    (K : ∀ a', StD ds n (up R d v) a' → Sq P ops Q rest a' w) : Sq P ops Q ((f, ⟨some d, .pick c x y, ty, pos, af, none⟩, S) :: rest) a w :=
  r_pure hS hSw hlt (fun w => by simp [execOp, hS.val hy, hS.val hc, asBool, hb]) K
theorem r_nilCheck {x : Operand} {p : Addr} (hS : StD ds n R a) (hSw : Sf f S w) (hx : ev R x = some (.pointer (some p))) (hlt : Nat.blt d n = true)
    (K : ∀ a', StD ds n (up R d (.pointer (some p))) a' → Sq P ops Q rest a' w) : Sq P ops Q ((f, ⟨some d, .nilCheck x, ty, pos, af, none⟩, S) :: rest) a w :=
  r_pure hS hSw hlt (fun w => by simp [execOp, hS.val hx]) K
/-- a field's place -/
def foff (P : Program) (s k : Nat) : Option Nat :=
  match P.underlying s with
  | some (.struct fields) => match fields[k]? with
    | some f => match P.info? f.type with
      | some i => if i.size = 0 then none else some f.offset
      | none => none
    | none => none
  | _ => none
def padd (p : Addr) (o : Nat) : Addr := ⟨p.block, p.off + o, none⟩
theorem add_eq {b o k : Nat} : (⟨b, o, none⟩ : Addr).add k = ⟨b, o + k, none⟩ := by unfold Addr.add; split <;> simp_all
theorem r_fieldAddr {s k o : Nat} {x : Operand} {b p : Nat} (hS : StD ds n R a) (hSw : Sf f S w) (hx : ev R x = some (.pointer (some ⟨b, p, none⟩))) (hk : foff P s k = some o) (hlt : Nat.blt d n = true)
    (K : ∀ a', StD ds n (up R d (.pointer (some ⟨b, p + o, none⟩))) a' → Sq P ops Q rest a' w) : Sq P ops Q ((f, ⟨some d, .fieldAddr s x k, ty, pos, af, none⟩, S) :: rest) a w := by
  refine r_pure hS hSw hlt (fun w => ?_) K
  unfold foff at hk
  split at hk
  · rename_i fields hu
    split at hk
    · rename_i fl hf
      split at hk
      · rename_i i hi
        split at hk
        · cases hk
        · rename_i h0
          cases hk
          simp [execOp, hS.val hx, Instr.fieldAt, run_underlying hu, hf, Instr.sureAddr, fieldPlace, sizeOf, typeInfo, hi, h0, add_eq]
      · cases hk
    · cases hk
  · cases hk
theorem r_extract {x : Operand} {k : Nat} {vs : Array Value} {v : Value} (hS : StD ds n R a) (hSw : Sf f S w) (hx : ev R x = some (.tuple vs)) (hk : vs[k]? = some v) (hlt : Nat.blt d n = true)
    (K : ∀ a', StD ds n (up R d v) a' → Sq P ops Q rest a' w) : Sq P ops Q ((f, ⟨some d, .extract x k, ty, pos, af, none⟩, S) :: rest) a w :=
  r_pure hS hSw hlt (fun w => by simp [execOp, hS.val hx, Instr.extract, hk]) K
theorem r_makeFunc {fn : Fn} {first cap : List Operand} {vf vc : List Value} (hS : StD ds n R a) (hSw : Sf f S w) (hf : evs R first = some vf) (hc : evs R cap = some vc) (hlt : Nat.blt d n = true)
    (K : ∀ a', StD ds n (up R d (.func fn vf.toArray vc.toArray)) a' → Sq P ops Q rest a' w) : Sq P ops Q ((f, ⟨some d, .makeFunc fn first.toArray cap.toArray, ty, pos, af, none⟩, S) :: rest) a w :=
  r_pure hS hSw hlt (fun w => by simp [execOp, Instr.makeFunc, hS.vals hf, hS.vals hc]) K
theorem r_not {t : TypeId} {x : Operand} {b : Bool} (hS : StD ds n R a) (hSw : Sf f S w) (hx : ev R x = some (.bool b)) (hlt : Nat.blt d n = true)
    (K : ∀ a', StD ds n (up R d (.bool (!b))) a' → Sq P ops Q rest a' w) : Sq P ops Q ((f, ⟨some d, .unOp .not t x, ty, pos, af, none⟩, S) :: rest) a w :=
  r_pure hS hSw hlt (fun w => by simp [execOp, hS.val hx, Op.unary]) K
theorem r_convInt {s t : TypeId} {x : Operand} {k k' : IntKind} {m : Int} (hS : StD ds n R a) (hSw : Sf f S w) (hx : ev R x = some (.int k m)) (ht : P.underlying t = some (.int k')) (hs : (P.underlying s).isSome = true) (hlt : Nat.blt d n = true)
    (K : ∀ a', StD ds n (up R d (.int k' (k'.wrap m))) a' → Sq P ops Q rest a' w) : Sq P ops Q ((f, ⟨some d, .convert s t x, ty, pos, af, none⟩, S) :: rest) a w := by
  obtain ⟨u, hu⟩ := Option.isSome_iff_exists.1 hs
  refine r_pure hS hSw hlt (fun w => ?_) K
  simp [execOp, hS.val hx, convert, run_underlying ht, run_underlying hu, Conv.intToInt]

/-! ### arithmetic -/
theorem run_bin_int {op : BinOp} {t : TypeId} {x y : Operand} {k : IntKind} {m m' : Int} (hsh : op ≠ .shl ∧ op ≠ .shr) (w : World) :
    (eqGuard op t x y (.int k m) (.int k m')).run P w = .ok () w := by
  unfold eqGuard
  cases op <;> simp
theorem run_bin {op : BinOp} {t yt : TypeId} {x y : Operand} {k k' : IntKind} {m m' : Int} {v : Value} (hS : StD ds n R a) (hx : ev R x = some (.int k m)) (hy : ev R y = some (.int k' m'))
    (hv : ∀ w, (binOp op t (.int k m) (.int k' m')).run P w = .ok v w) (w : World) : (execOp a.eval ⟨some d, .binOp op t x y yt, ty, pos, af, none⟩).run P w = .ok (.value v) w := by
  have hg : (eqGuard op t x y (.int k m) (.int k' m')).run P w = .ok () w := by
    unfold eqGuard
    cases op <;> simp
  simp [execOp, hS.val hx, hS.val hy, hg, hv w]
theorem r_bin {op : BinOp} {t yt : TypeId} {x y : Operand} {k k' : IntKind} {m m' : Int} {v : Value} (hS : StD ds n R a) (hSw : Sf f S w) (hx : ev R x = some (.int k m)) (hy : ev R y = some (.int k' m')) (hlt : Nat.blt d n = true)
    (hv : ∀ w, (binOp op t (.int k m) (.int k' m')).run P w = .ok v w) (K : ∀ a', StD ds n (up R d v) a' → Sq P ops Q rest a' w) : Sq P ops Q ((f, ⟨some d, .binOp op t x y yt, ty, pos, af, none⟩, S) :: rest) a w :=
  r_pure hS hSw hlt (run_bin hS hx hy hv) K
section
variable {t yt : TypeId} {x y : Operand} {k : IntKind} {m m' : Int} (hS : StD ds n R a) (hSw : Sf f S w) (hx : ev R x = some (.int k m)) (hy : ev R y = some (.int k m')) (hlt : Nat.blt d n = true)
include hS hSw hx hy hlt
theorem r_addw (K : ∀ a', StD ds n (up R d (.int k (k.wrap (m + m')))) a' → Sq P ops Q rest a' w) : Sq P ops Q ((f, ⟨some d, .binOp .add t x y yt, ty, pos, af, none⟩, S) :: rest) a w :=
  r_bin hS hSw hx hy hlt (fun w => by simp [binOp, Op.intArith]) K
theorem r_subw (K : ∀ a', StD ds n (up R d (.int k (k.wrap (m - m')))) a' → Sq P ops Q rest a' w) : Sq P ops Q ((f, ⟨some d, .binOp .sub t x y yt, ty, pos, af, none⟩, S) :: rest) a w :=
  r_bin hS hSw hx hy hlt (fun w => by simp [binOp, Op.intArith]) K
theorem r_mulw (K : ∀ a', StD ds n (up R d (.int k (k.wrap (m * m')))) a' → Sq P ops Q rest a' w) : Sq P ops Q ((f, ⟨some d, .binOp .mul t x y yt, ty, pos, af, none⟩, S) :: rest) a w :=
  r_bin hS hSw hx hy hlt (fun w => by simp [binOp, Op.intArith]) K
theorem r_and (K : ∀ a', StD ds n (up R d (.int k (k.wrap (BitVec.ofInt k.bits m &&& BitVec.ofInt k.bits m').toNat))) a' → Sq P ops Q rest a' w) : Sq P ops Q ((f, ⟨some d, .binOp .and t x y yt, ty, pos, af, none⟩, S) :: rest) a w :=
  r_bin hS hSw hx hy hlt (fun w => by simp [binOp, Op.intBits]) K
theorem r_or (K : ∀ a', StD ds n (up R d (.int k (k.wrap (BitVec.ofInt k.bits m ||| BitVec.ofInt k.bits m').toNat))) a' → Sq P ops Q rest a' w) : Sq P ops Q ((f, ⟨some d, .binOp .or t x y yt, ty, pos, af, none⟩, S) :: rest) a w :=
  r_bin hS hSw hx hy hlt (fun w => by simp [binOp, Op.intBits]) K
theorem r_xor (K : ∀ a', StD ds n (up R d (.int k (k.wrap (BitVec.ofInt k.bits m ^^^ BitVec.ofInt k.bits m').toNat))) a' → Sq P ops Q rest a' w) : Sq P ops Q ((f, ⟨some d, .binOp .xor t x y yt, ty, pos, af, none⟩, S) :: rest) a w :=
  r_bin hS hSw hx hy hlt (fun w => by simp [binOp, Op.intBits]) K
theorem r_andNot (K : ∀ a', StD ds n (up R d (.int k (k.wrap (BitVec.ofInt k.bits m &&& ~~~ BitVec.ofInt k.bits m').toNat))) a' → Sq P ops Q rest a' w) : Sq P ops Q ((f, ⟨some d, .binOp .andNot t x y yt, ty, pos, af, none⟩, S) :: rest) a w :=
  r_bin hS hSw hx hy hlt (fun w => by simp [binOp, Op.intBits]) K
theorem r_eql (K : ∀ a', StD ds n (up R d (.bool (m == m'))) a' → Sq P ops Q rest a' w) : Sq P ops Q ((f, ⟨some d, .binOp .eql t x y yt, ty, pos, af, none⟩, S) :: rest) a w :=
  r_bin hS hSw hx hy hlt (fun w => by simp [binOp, Op.intCmp]) K
theorem r_neq (K : ∀ a', StD ds n (up R d (.bool (m != m'))) a' → Sq P ops Q rest a' w) : Sq P ops Q ((f, ⟨some d, .binOp .neq t x y yt, ty, pos, af, none⟩, S) :: rest) a w :=
  r_bin hS hSw hx hy hlt (fun w => by simp [binOp, Op.intCmp]) K
theorem r_lss (K : ∀ a', StD ds n (up R d (.bool (decide (m < m')))) a' → Sq P ops Q rest a' w) : Sq P ops Q ((f, ⟨some d, .binOp .lss t x y yt, ty, pos, af, none⟩, S) :: rest) a w :=
  r_bin hS hSw hx hy hlt (fun w => by simp [binOp, Op.intCmp]) K
theorem r_leq (K : ∀ a', StD ds n (up R d (.bool (decide (m ≤ m')))) a' → Sq P ops Q rest a' w) : Sq P ops Q ((f, ⟨some d, .binOp .leq t x y yt, ty, pos, af, none⟩, S) :: rest) a w :=
  r_bin hS hSw hx hy hlt (fun w => by simp [binOp, Op.intCmp]) K
theorem r_gtr (K : ∀ a', StD ds n (up R d (.bool (decide (m > m')))) a' → Sq P ops Q rest a' w) : Sq P ops Q ((f, ⟨some d, .binOp .gtr t x y yt, ty, pos, af, none⟩, S) :: rest) a w :=
  r_bin hS hSw hx hy hlt (fun w => by simp [binOp, Op.intCmp]) K
theorem r_geq (K : ∀ a', StD ds n (up R d (.bool (decide (m ≥ m')))) a' → Sq P ops Q rest a' w) : Sq P ops Q ((f, ⟨some d, .binOp .geq t x y yt, ty, pos, af, none⟩, S) :: rest) a w :=
  r_bin hS hSw hx hy hlt (fun w => by simp [binOp, Op.intCmp]) K
theorem r_quo (h0 : m' ≠ 0) (K : ∀ a', StD ds n (up R d (.int k (k.wrap (m.tdiv m')))) a' → Sq P ops Q rest a' w) : Sq P ops Q ((f, ⟨some d, .binOp .quo t x y yt, ty, pos, af, none⟩, S) :: rest) a w :=
  r_bin hS hSw hx hy hlt (fun w => by simp [binOp, Op.intDiv, h0]) K
theorem r_rem (h0 : m' ≠ 0) (K : ∀ a', StD ds n (up R d (.int k (m.tmod m'))) a' → Sq P ops Q rest a' w) : Sq P ops Q ((f, ⟨some d, .binOp .rem t x y yt, ty, pos, af, none⟩, S) :: rest) a w :=
  r_bin hS hSw hx hy hlt (fun w => by simp [binOp, Op.intDiv, h0]) K
end
/-- a sum that fits -/
theorem r_fit {op : BinOp} {t yt : TypeId} {x y : Operand} {k : IntKind} {m m' : Int} {g : Int → Int → Int} (r : Int) (hS : StD ds n R a) (hSw : Sf f S w) (hx : ev R x = some (.int k m)) (hy : ev R y = some (.int k m')) (hlt : Nat.blt d n = true)
    (hop : ∀ w, (binOp op t (.int k m) (.int k m')).run P w = .ok (.int k (k.wrap (g m m'))) w) (hr : k.wrap (g m m') = r)
    (K : ∀ a', StD ds n (up R d (.int k r)) a' → Sq P ops Q rest a' w) : Sq P ops Q ((f, ⟨some d, .binOp op t x y yt, ty, pos, af, none⟩, S) :: rest) a w :=
  r_bin hS hSw hx hy hlt (fun w => by rw [hop, hr]) K
theorem wrap_i64 {x : Int} (h : -9223372036854775808 ≤ x ∧ x < 9223372036854775808) : IntKind.i64.wrap x = x := by
  unfold IntKind.wrap; simp [IntKind.bits, IntKind.signed]; omega
theorem r_add {t yt : TypeId} {x y : Operand} {m m' : Int} (hS : StD ds n R a) (hSw : Sf f S w) (hx : ev R x = some (.int .i64 m)) (hy : ev R y = some (.int .i64 m')) (hlt : Nat.blt d n = true)
    (hr : -9223372036854775808 ≤ m + m' ∧ m + m' < 9223372036854775808) (K : ∀ a', StD ds n (up R d (.int .i64 (m + m'))) a' → Sq P ops Q rest a' w) : Sq P ops Q ((f, ⟨some d, .binOp .add t x y yt, ty, pos, af, none⟩, S) :: rest) a w :=
  r_bin hS hSw hx hy hlt (fun w => by simp [binOp, Op.intArith, wrap_i64 hr]) K
theorem r_sub {t yt : TypeId} {x y : Operand} {m m' : Int} (hS : StD ds n R a) (hSw : Sf f S w) (hx : ev R x = some (.int .i64 m)) (hy : ev R y = some (.int .i64 m')) (hlt : Nat.blt d n = true)
    (hr : -9223372036854775808 ≤ m - m' ∧ m - m' < 9223372036854775808) (K : ∀ a', StD ds n (up R d (.int .i64 (m - m'))) a' → Sq P ops Q rest a' w) : Sq P ops Q ((f, ⟨some d, .binOp .sub t x y yt, ty, pos, af, none⟩, S) :: rest) a w :=
  r_bin hS hSw hx hy hlt (fun w => by simp [binOp, Op.intArith, wrap_i64 hr]) K
theorem r_mul {t yt : TypeId} {x y : Operand} {m m' : Int} (hS : StD ds n R a) (hSw : Sf f S w) (hx : ev R x = some (.int .i64 m)) (hy : ev R y = some (.int .i64 m')) (hlt : Nat.blt d n = true)
    (hr : -9223372036854775808 ≤ m * m' ∧ m * m' < 9223372036854775808) (K : ∀ a', StD ds n (up R d (.int .i64 (m * m'))) a' → Sq P ops Q rest a' w) : Sq P ops Q ((f, ⟨some d, .binOp .mul t x y yt, ty, pos, af, none⟩, S) :: rest) a w :=
  r_bin hS hSw hx hy hlt (fun w => by simp [binOp, Op.intArith, wrap_i64 hr]) K
theorem r_shr {t yt : TypeId} {x y : Operand} {k k' : IntKind} {m m' : Int} (hS : StD ds n R a) (hSw : Sf f S w) (hx : ev R x = some (.int k m)) (hy : ev R y = some (.int k' m')) (hlt : Nat.blt d n = true) (h0 : 0 ≤ m')
    (K : ∀ a', StD ds n (up R d (.int k (m.fdiv (2 ^ (min m'.toNat k.bits))))) a' → Sq P ops Q rest a' w) : Sq P ops Q ((f, ⟨some d, .binOp .shr t x y yt, ty, pos, af, none⟩, S) :: rest) a w :=
  r_bin hS hSw hx hy hlt (fun w => by have : ¬ m' < 0 := by omega
                                      simp [binOp, Op.shift, this]) K
theorem r_shl {t yt : TypeId} {x y : Operand} {k k' : IntKind} {m m' : Int} (hS : StD ds n R a) (hSw : Sf f S w) (hx : ev R x = some (.int k m)) (hy : ev R y = some (.int k' m')) (hlt : Nat.blt d n = true) (h0 : 0 ≤ m')
    (K : ∀ a', StD ds n (up R d (.int k (k.wrap (m * 2 ^ (min m'.toNat k.bits))))) a' → Sq P ops Q rest a' w) : Sq P ops Q ((f, ⟨some d, .binOp .shl t x y yt, ty, pos, af, none⟩, S) :: rest) a w :=
  r_bin hS hSw hx hy hlt (fun w => by have : ¬ m' < 0 := by omega
                                      simp [binOp, Op.shift, this]) K

/-! ### comparisons of other things -/
theorem r_cmp {op : BinOp} {t yt : TypeId} {x y : Operand} {vx vy v : Value} (hS : StD ds n R a) (hSw : Sf f S w) (hx : ev R x = some vx) (hy : ev R y = some vy) (hlt : Nat.blt d n = true)
    (hg : ∀ w, (eqGuard op t x y vx vy).run P w = .ok () w) (hv : ∀ w, (binOp op t vx vy).run P w = .ok v w)
    (K : ∀ a', StD ds n (up R d v) a' → Sq P ops Q rest a' w) : Sq P ops Q ((f, ⟨some d, .binOp op t x y yt, ty, pos, af, none⟩, S) :: rest) a w :=
  r_pure hS hSw hlt (fun w => by simp [execOp, hS.val hx, hS.val hy, hg w, hv w]) K
def isPtr (P : Program) (t : TypeId) : Bool := match P.underlying t with | some (.pointer _) => true | _ => false
def isMap (P : Program) (t : TypeId) : Bool := match P.underlying t with | some (.map _ _) => true | _ => false
def isSlice (P : Program) (t : TypeId) : Bool := match P.underlying t with | some (.slice _) => true | _ => false
theorem eqIn_ptr (dd : Nat) {t : TypeId} {e : TypeId} (hu : P.underlying t = some (.pointer e)) (p : Option Addr) (w : World) : (Op.equalIn (dd + 1) t (.pointer p) (.pointer none)).run P w = .ok p.isNone w := by
  cases p <;> simp [Op.equalIn, run_underlying hu]
theorem eqIn_map (dd : Nat) {t : TypeId} {e e' : TypeId} (hu : P.underlying t = some (.map e e')) (p : Option Nat) (w : World) : (Op.equalIn (dd + 1) t (.map p) (.map none)).run P w = .ok p.isNone w := by
  cases p <;> simp [Op.equalIn, run_underlying hu]
theorem eqIn_slice (dd : Nat) {t : TypeId} {e : TypeId} (hu : P.underlying t = some (.slice e)) (p : Option Addr) (l c : Nat) (w : World) : (Op.equalIn (dd + 1) t (.slice p l c) (.slice none 0 0)).run P w = .ok p.isNone w := by
  cases p <;> simp [Op.equalIn, run_underlying hu]
theorem run_eql_of {t : TypeId} {x y : Value} {b : Bool} (h1 : binOp .eql t x y = (do pure (.bool (← Op.equal t x y)))) (h : ∀ dd w, (Op.equalIn (dd + 1) t x y).run P w = .ok b w) (w : World) : (binOp .eql t x y).run P w = .ok (.bool b) w := by
  rw [h1]; simp only [Op.equal, Op.maxDepth, Sem.run_bind, h 9999 w, Result.andThen_ok, Sem.run_pure]
theorem run_neq_of {t : TypeId} {x y : Value} {b : Bool} (h1 : binOp .neq t x y = (do pure (.bool (!(← Op.equal t x y))))) (h : ∀ dd w, (Op.equalIn (dd + 1) t x y).run P w = .ok b w) (w : World) : (binOp .neq t x y).run P w = .ok (.bool (!b)) w := by
  rw [h1]; simp only [Op.equal, Op.maxDepth, Sem.run_bind, h 9999 w, Result.andThen_ok, Sem.run_pure]
theorem r_ptrNil {t yt : TypeId} {x : Operand} {p : Option Addr} (hS : StD ds n R a) (hSw : Sf f S w) (hx : ev R x = some (.pointer p)) (ht : isPtr P t = true) (hlt : Nat.blt d n = true)
    (K : ∀ a', StD ds n (up R d (.bool p.isNone)) a' → Sq P ops Q rest a' w) : Sq P ops Q ((f, ⟨some d, .binOp .eql t x (.const (.pointer none)) yt, ty, pos, af, none⟩, S) :: rest) a w := by
  unfold isPtr at ht
  split at ht
  · rename_i e hu
    exact r_cmp hS hSw hx (vy := .pointer none) rfl hlt (fun w => by simp [eqGuard]) (fun w => run_eql_of (by cases p <;> rfl) (fun dd w => eqIn_ptr dd hu p w) w) K
  · cases ht
theorem r_ptrNotNil {t yt : TypeId} {x : Operand} {p : Option Addr} (hS : StD ds n R a) (hSw : Sf f S w) (hx : ev R x = some (.pointer p)) (ht : isPtr P t = true) (hlt : Nat.blt d n = true)
    (K : ∀ a', StD ds n (up R d (.bool (!p.isNone))) a' → Sq P ops Q rest a' w) : Sq P ops Q ((f, ⟨some d, .binOp .neq t x (.const (.pointer none)) yt, ty, pos, af, none⟩, S) :: rest) a w := by
  unfold isPtr at ht
  split at ht
  · rename_i e hu
    exact r_cmp hS hSw hx (vy := .pointer none) rfl hlt (fun w => by simp [eqGuard]) (fun w => run_neq_of (by cases p <;> rfl) (fun dd w => eqIn_ptr dd hu p w) w) K
  · cases ht
theorem r_mapNil {t yt : TypeId} {x : Operand} {p : Option Nat} (hS : StD ds n R a) (hSw : Sf f S w) (hx : ev R x = some (.map p)) (ht : isMap P t = true) (hlt : Nat.blt d n = true)
    (K : ∀ a', StD ds n (up R d (.bool p.isNone)) a' → Sq P ops Q rest a' w) : Sq P ops Q ((f, ⟨some d, .binOp .eql t x (.const (.map none)) yt, ty, pos, af, none⟩, S) :: rest) a w := by
  unfold isMap at ht
  split at ht
  · rename_i e e' hu
    exact r_cmp hS hSw hx (vy := .map none) rfl hlt (fun w => by simp [eqGuard]) (fun w => run_eql_of (by cases p <;> rfl) (fun dd w => eqIn_map dd hu p w) w) K
  · cases ht
theorem r_strEql {t yt : TypeId} {x y : Operand} {u v : ByteArray} (hS : StD ds n R a) (hSw : Sf f S w) (hx : ev R x = some (.string u)) (hy : ev R y = some (.string v)) (hlt : Nat.blt d n = true)
    (K : ∀ a', StD ds n (up R d (.bool (u.toList == v.toList))) a' → Sq P ops Q rest a' w) : Sq P ops Q ((f, ⟨some d, .binOp .eql t x y yt, ty, pos, af, none⟩, S) :: rest) a w :=
  r_cmp hS hSw hx hy hlt (fun w => by simp [eqGuard]) (fun w => by simp [binOp, Op.stringOp]) K
theorem r_strNeq {t yt : TypeId} {x y : Operand} {u v : ByteArray} (hS : StD ds n R a) (hSw : Sf f S w) (hx : ev R x = some (.string u)) (hy : ev R y = some (.string v)) (hlt : Nat.blt d n = true)
    (K : ∀ a', StD ds n (up R d (.bool (!(u.toList == v.toList)))) a' → Sq P ops Q rest a' w) : Sq P ops Q ((f, ⟨some d, .binOp .neq t x y yt, ty, pos, af, none⟩, S) :: rest) a w :=
  r_cmp hS hSw hx hy hlt (fun w => by simp [eqGuard]) (fun w => by simp [binOp, Op.stringOp]) K
end
end Go.Sym
