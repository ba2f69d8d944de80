/- Rules of symbolic execution over any program of the model, that the claims of this folder use; part SymHdr. Conditions: those that each rule names. -/
import Derived.Test.YtkhcbllphdhbdaaSymIface
import Derived.Test.YtkhcbllphdhbdaaSymSteps
import Derived.Scope
namespace Go.Sym
open Go
section
variable {Q : Exit → Act → World → Prop} {a : Act} {w : World}
theorem sc_n (h : Q .normal a w) : Exit.noGoto Q .normal a w := h
theorem steady_scope {Q : Exit → Act → World → Prop} (h : Steady Q) : Steady (Exit.noGoto Q) := fun c a d v w k => h c a d v w k
theorem sc_r (h : Q .ret a w) : Exit.noGoto Q .ret a w := h
theorem sc_e {id : Nat} (h : Q (.exit id) a w) : Exit.noGoto Q (.exit id) a w := h
end
section
variable {P : Program} {ops : Array Oper} {Q : Exit → Act → World → Prop} {rest : List Item} {a : Act} {w w0 : World} {n : Nat} {R : Rg} {ds : List Deferred} {S : Nat → Prop} {L K : Blocks}
variable {f : Bool} {d : Nat} {ty : TypeId} {pos : String} {af : Array Edge}
/-- two texts, one behind the other -/
theorem r_strAdd {t yt : TypeId} {x y : Operand} {u v : List UInt8} (hS : StD ds n R a) (hSw : Sf f (Kp w0 S K) w) (hx : ev R x = some (.string (strOf u))) (hy : ev R y = some (.string (strOf v))) (hlt : Nat.blt d n = true) (hn : u.length + v.length ≤ 9223372036854775807)
    (k : ∀ a', StD ds n (up R d (.string (strOf (u ++ v)))) a' → Sq P ops Q rest a' w) : Sq P ops Q ((f, ⟨some d, .binOp .add t x y yt, ty, pos, af, none⟩, Kp w0 S K) :: rest) a w := by
  have e : strOf u ++ strOf v = strOf (u ++ v) := by
    apply ByteArray.ext
    rw [ByteArray.data_append]
    simp [strOf]
  have hs : ¬ (9223372036854775807 < ((strOf u).size : Int) + ((strOf v).size : Int)) := by
    have h1 : (strOf u).size = u.length := by simp [strOf, ByteArray.size]
    have h2 : (strOf v).size = v.length := by simp [strOf, ByteArray.size]
    rw [h1, h2]; omega
  rw [← e] at k
  exact r_pure hS hSw hlt (fun w => by simp [execOp, hS.val hx, hS.val hy, eqGuard, binOp, Op.stringOp, hs]) k
/-- copy: all of a source that is no longer than what it is copied to -/
theorem r_copy {dt st e b o m cap q : Nat} {x y : Operand} {vy : Value} {l new : List Value} {T : TypeId} {L' : Blocks} (hS : StD ds n R a) (hH : Hp w0 S L w) (hx : ev R x = some (.slice (some ⟨b, o, none⟩) m cap)) (hy : ev R y = some vy)
    (hi : Put b (.cells l.toArray T (0, 0)) (.cells (spl l o new).toArray T (0, 0)) L L') (hs : Sub K L') (hu : P.underlying dt = some (.slice e)) (hz : sizeB P e 1 = true) (hsrc : Src P 1 w vy q new) (hq : q ≤ m) (hl : o + q ≤ l.length) (hw : S b ∨ w0.heap.size ≤ b) (hlt : Nat.blt d n = true)
    (k : ∀ a' w', StD ds n (up R d (.int .i64 (q : Int))) a' → Hp w0 S L' w' → Sq P ops Q rest a' w') : Sq P ops Q ((false, ⟨some d, .call ⟨.builtin .copy, #[x, y], #[dt, st]⟩, ty, pos, af, none⟩, Kp w0 S K) :: rest) a w := by
  have hlen : new.length = q := by rw [hsrc.size, Nat.mul_one]
  obtain ⟨w', hr, hT⟩ := run_storeCells (P := P) new l o 0 w (hH.blk _ hi.old) hsrc.one (by omega)
  rw [Nat.add_zero, spl_wr (by omega)] at hT
  have hH' := hH.turned hi hT hw
  have hmin : Nat.min q m = q := Nat.min_eq_left hq
  refine Sq.done (w' := w') rfl ?_ (hH'.kp hs) (k _ w' (hS.put hlt _) hH')
  have e : (Builtin.copy_ #[dt, st] ty #[.slice (some ⟨b, o, none⟩) m cap, vy]).run P w = .ok (.int .i64 (q : Int)) w' := by
    have hr' : (storeCells ⟨b, o, none⟩ new 0).run P w = .ok () w' := hr
    simp [Builtin.copy_, run_underlying hu, run_sizeB hz, hsrc.len w rfl, hsrc.cells w rfl, hmin, hr', goInt]
  simp only [execOp, resolve, Sem.run_bind, Sem.run_pure, Result.andThen_ok, invoke, builtin, List.map_toArray, List.map_cons, List.map_nil, hS.val hx, hS.val hy, e]
end
/-! ### the pure header -/
structure Cu where
  p : Nat
  bad : Int
def okC (c : Cu) (is : Bool) (e : Int) : Cu := if c.bad = 0 ∧ is = false then ⟨c.p, e⟩ else c
def beN (l : List UInt8) : Nat := l.foldl (fun v x => v * 256 + x.toNat) 0
def numC (l : List UInt8) (n : Nat) (c : Cu) : Nat × Cu := if c.bad = 0 then (if c.p + n ≤ l.length then (beN ((l.drop c.p).take n), ⟨c.p + n, 0⟩) else (0, ⟨c.p, 10⟩)) else (0, c)
def bytesC (l : List UInt8) (n : Nat) (c : Cu) : List UInt8 × Cu := if c.bad = 0 then (if c.p + n ≤ l.length then ((l.drop c.p).take n, ⟨c.p + n, 0⟩) else ([], ⟨c.p, 10⟩)) else ([], c)
def idC (l : List UInt8) (c : Cu) : List UInt8 × Cu := if (okC (numC l 1 c).2 (decide ((numC l 1 c).1 ≤ 20)) 11).bad = 0 then bytesC l (numC l 1 c).1 (okC (numC l 1 c).2 (decide ((numC l 1 c).1 ≤ 20)) 11) else ([], okC (numC l 1 c).2 (decide ((numC l 1 c).1 ≤ 20)) 11)
def varN (l : List UInt8) (p : Nat) : Option (Nat × Nat) := match l.drop p with
  | [] => none
  | x :: r => if (x :: r).length < 2 ^ (x.toNat / 64) then none else some (beN ((x :: r).take (2 ^ (x.toNat / 64))) % 2 ^ (8 * 2 ^ (x.toNat / 64) - 2), p + 2 ^ (x.toNat / 64))
def longC (l : List UInt8) (c : Cu) : Nat × Cu := if c.bad = 0 then (match varN l c.p with | some (v, p) => (v, ⟨p, 0⟩) | none => (0, ⟨c.p, 10⟩)) else (0, c)
theorem beN_snoc (l : List UInt8) (x : UInt8) : beN (l ++ [x]) = beN l * 256 + x.toNat := by simp [beN]
theorem beN_take (l : List UInt8) : ∀ k, k ≤ l.length → beN (l.take k) < 256 ^ k
  | 0, _ => by simp [beN]
  | k + 1, h => by
    have ih := beN_take l k (by omega)
    have e : l.take (k + 1) = l.take k ++ [l[k]'(by omega)] := by rw [List.take_add_one, List.getElem?_eq_getElem (by omega)]; rfl
    rw [e, beN_snoc, Nat.pow_succ]
    have := (l[k]'(by omega)).toNat_lt
    omega
theorem beN_lt (l : List UInt8) : beN l < 256 ^ l.length := by
  have := beN_take l l.length (Nat.le_refl _)
  rwa [List.take_of_length_le (Nat.le_refl _)] at this
end Go.Sym
