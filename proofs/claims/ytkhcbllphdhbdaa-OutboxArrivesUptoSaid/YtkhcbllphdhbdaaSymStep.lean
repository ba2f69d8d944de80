/- Rules of symbolic execution over any program of the model, that the claims of this folder use; part SymStep. Conditions: those that each rule names. -/
import Derived.Test.YtkhcbllphdhbdaaSymPuts
namespace Go.Sym
open Go
/-! ### headers that are put -/
def IsA (w : World) (q : Option Addr) (c : Nat) (l : List Int) : Prop := Sl 1 w (.slice q l.length c) (l.map (Value.int .i64)) l.length q c
theorem IsA.ext {w w' : World} {q : Option Addr} {c : Nat} {l : List Int} (h : IsA w q c l) (k : Ext w w') : IsA w' q c l := Sl.ext h k
theorem IsA.cell {w : World} {q : Option Addr} {c : Nat} {l : List Int} (h : IsA w q c l) {k : Nat} (hk : k < l.length) : ∃ b o, q = some ⟨b, o, none⟩ ∧ w.cell? ⟨b, o + k * 1, none⟩ = some (.int .i64 l[k]) := by
  obtain ⟨b, o, h1, h2⟩ := h.cells k (.int .i64 l[k]) (by simp [hk])
  exact ⟨b, o, h1, by rw [Nat.mul_one]; exact h2⟩
def bad1 (v : Int) : Bool := decide (v < 1 ∨ 4294967295 < v)
def badN (l : List Int) : Nat := l.countP bad1
theorem badN_at {l : List Int} {k : Nat} (hk : k < l.length) (h : bad1 l[k] = true) : 0 < badN l := List.countP_pos_iff.2 ⟨_, List.getElem_mem hk, h⟩
theorem badN_succ {l : List Int} {k : Nat} (hk : k < l.length) (h : bad1 l[k] = false) (h0 : badN (l.take k) = 0) : badN (l.take (k + 1)) = 0 := by
  rw [← List.take_append_getElem hk]
  unfold badN at *
  rw [List.countP_append, h0]
  simp [h]
theorem badN_zero {l : List Int} {k : Nat} (hk : k < l.length) (h : badN l = 0) : 1 ≤ l[k] ∧ l[k] ≤ 4294967295 := by
  have := (List.countP_eq_zero.1 h) _ (List.getElem_mem hk)
  unfold bad1 at this
  have h2 := mt (fun hh => decide_eq_true hh) this
  omega
def mayP (kd : Int) (dl sl tl : Nat) (ln n : Int) (ll bn : Nat) : Prop := dl ≤ 20 ∧ (kd ≠ 5 → sl ≤ 20) ∧ ((kd = 0 ∧ tl ≤ 512 ∧ 1 ≤ n ∧ n ≤ 4 ∧ n ≤ ln ∧ ln ≤ 16383) ∨ ((kd = 1 ∨ kd = 2) ∧ 1 ≤ n ∧ n ≤ 4 ∧ n ≤ ln ∧ ln ≤ 16383) ∨ (kd = 3 ∧ 1 ≤ tl ∧ tl ≤ 512) ∨ (kd = 4 ∧ 0 < ll ∧ bn = 0) ∨ (kd = 5 ∧ 1 ≤ n ∧ n ≤ 4))
instance (kd : Int) (dl sl tl : Nat) (ln n : Int) (ll bn : Nat) : Decidable (mayP kd dl sl tl ln n ll bn) := by unfold mayP; infer_instance
theorem or_small {m n : Nat} (hm : m % 8 = 0) (hn : n < 8) : m ||| n = m + n := by
  have h := Nat.two_pow_add_eq_or_of_lt (i := 3) (b := n) (by omega) (m / 8)
  have e : 2 ^ 3 * (m / 8) = m := by omega
  rw [e] at h; exact h.symm
/-- the bytes at the head of a long header -/
def startB (f v : Nat) (dst src : List UInt8) : List UInt8 := ((((UInt8.ofNat f :: []) ++ beB v 4) ++ [UInt8.ofNat dst.length]) ++ dst) ++ [UInt8.ofNat src.length] ++ src
theorem startB_len (f v : Nat) (dst src : List UInt8) : (startB f v dst src).length = 7 + dst.length + src.length := by
  simp [startB, beB_len]; omega
def listB (l : List Int) : List UInt8 := (l.map fun v => beB v.toNat 4).flatten
theorem listB_succ {l : List Int} {k : Nat} (hk : k < l.length) : listB (l.take (k + 1)) = listB (l.take k) ++ beB l[k].toNat 4 := by
  rw [← List.take_append_getElem hk]; simp only [listB, List.map_append, List.flatten_append, List.map_cons, List.map_nil, List.flatten_cons, List.flatten_nil, List.append_nil]
theorem listB_len (l : List Int) : (listB l).length = 4 * l.length := by
  induction l with
  | nil => rfl
  | cons x t ih =>
    rw [show listB (x :: t) = beB x.toNat 4 ++ listB t from rfl, List.length_append, ih, beB_len]
    simp; omega
/-- what is put, up to the number -/
def headB (kd n : Nat) (dst src tok : List UInt8) (ln : Nat) (ph : Bool) (l : List Int) (tag : List UInt8) : List UInt8 :=
  if kd = 5 then [UInt8.ofNat (63 + n + if ph then 4 else 0)] ++ dst
  else if kd = 4 then startB 192 0 dst src ++ listB l
  else if kd = 3 then startB 240 1 dst src ++ tok ++ tag
  else if kd = 0 then startB (191 + n) 1 dst src ++ wideB tok.length (formK tok.length) ++ tok ++ wideB ln 1
  else startB (191 + 16 * kd + n) 1 dst src ++ wideB ln 1
section
variable {P : Program} {ops : Array Oper} {Q : Exit → Act → World → Prop} {rest : List Item} {a : Act} {w w0 : World} {n : Nat} {R : Rg} {ds : List Deferred} {S : Nat → Prop} {L K : Blocks}
variable {f : Bool} {d : Nat} {ty : TypeId} {pos : String} {af : Array Edge}
theorem r_orI {t yt : TypeId} {x y : Operand} {m m' : Int} (u v r : Nat) (hS : StD ds n R a) (hSw : Sf f (Kp w0 S K) w) (hx : ev R x = some (.int .i64 m)) (hy : ev R y = some (.int .i64 m')) (hlt : Nat.blt d n = true) (h1 : m = (u : Nat)) (h2 : m' = (v : Nat)) (hu : u < 4611686018427387904) (hv : v < 4611686018427387904) (hr : u ||| v = r)
    (k : ∀ a', StD ds n (up R d (.int .i64 (r : Int))) a' → Sq P ops Q rest a' w) : Sq P ops Q ((f, ⟨some d, .binOp .or t x y yt, ty, pos, af, none⟩, Kp w0 S K) :: rest) a w :=
  r_or hS hSw hx hy hlt (by
    have : IntKind.i64.wrap ((BitVec.ofInt IntKind.i64.bits m ||| BitVec.ofInt IntKind.i64.bits m').toNat : Int) = (r : Int) := by
      subst h1 h2
      have hlt : u ||| v < 2 ^ 62 := Nat.or_lt_two_pow (by omega) (by omega)
      rw [BitVec.toNat_or]
      simp only [IntKind.bits, BitVec.ofInt_natCast, BitVec.toNat_ofNat]
      rw [Nat.mod_eq_of_lt (show u < 2 ^ 64 by omega), Nat.mod_eq_of_lt (show v < 2 ^ 64 by omega), hr]
      rw [hr] at hlt
      exact wrap_i64 ⟨by omega, by omega⟩
    rw [this]; exact k)
theorem r_orB {t yt : TypeId} {x y : Operand} (u v r : UInt8) (hS : StD ds n R a) (hSw : Sf f (Kp w0 S K) w) (hx : ev R x = some (byteV u)) (hy : ev R y = some (byteV v)) (hlt : Nat.blt d n = true) (hr : u ||| v = r)
    (k : ∀ a', StD ds n (up R d (byteV r)) a' → Sq P ops Q rest a' w) : Sq P ops Q ((f, ⟨some d, .binOp .or t x y yt, ty, pos, af, none⟩, Kp w0 S K) :: rest) a w :=
  r_or hS hSw hx hy hlt (by
    have : Value.int .u8 (IntKind.u8.wrap ((BitVec.ofInt IntKind.u8.bits (u.toNat : Int) ||| BitVec.ofInt IntKind.u8.bits (v.toNat : Int)).toNat : Int)) = byteV r := by
      subst hr
      have h1 := u.toNat_lt
      have h2 := v.toNat_lt
      have h3 : u.toNat ||| v.toNat < 2 ^ 8 := Nat.or_lt_two_pow (by omega) (by omega)
      rw [BitVec.toNat_or]
      simp only [IntKind.bits, BitVec.ofInt_natCast, BitVec.toNat_ofNat]
      rw [Nat.mod_eq_of_lt (show u.toNat < 2 ^ 8 by omega), Nat.mod_eq_of_lt (show v.toNat < 2 ^ 8 by omega), wrap_u8, Nat.mod_eq_of_lt (show u.toNat ||| v.toNat < 256 by omega)]
      simp [byteV]
    rw [this]; exact k)
end
end Go.Sym

namespace Go.Sym
open Go
theorem Hp.knowN {w0 w w1 : World} {S : Nat → Prop} {L : Blocks} {b : Nat} {o : Obj} (h : Hp w0 S L w) (hE : Ext w w1) (hb : w.heap.size ≤ b) (hk : w1.heap[b]? = some o) : Hp w0 S ((b, o) :: L) w1 :=
  (h.ext hE).know hk (fun p hp e => by have := h.lt p hp; omega)
theorem wideB_len (v k : Nat) : (wideB v k).length = 2 ^ k := beB_len _ _
theorem wideB_le (v : Nat) : (wideB v (formK v)).length ≤ 8 := by
  rw [wideB_len]
  have := formK_le v
  match h : formK v, this with
  | 0, _ => decide
  | 1, _ => decide
  | 2, _ => decide
  | 3, _ => decide
theorem Own.nb {B m : Nat} {T : TypeId} {w : World} {v : Value} {r : List UInt8} (h : Own B 1 T w v m (r.map byteV)) (hm : m = r.length) (h0 : 0 < r.length) : NB B T w v r :=
  (Own.bb h hm).resolve_left (fun hh => by rw [hh.2] at h0; exact absurd h0 (by decide))
theorem phase_or {n : Nat} (h1 : 1 ≤ n) (h4 : n ≤ 4) : UInt8.ofNat (63 + n) ||| 4 = UInt8.ofNat (63 + n + 4) := by
  rcases (by omega : n = 1 ∨ n = 2 ∨ n = 3 ∨ n = 4) with rfl | rfl | rfl | rfl <;> decide
section
variable {P : Program} {ops : Array Oper} {Q : Exit → Act → World → Prop} {rest : List Item} {a : Act} {w w0 : World} {n : Nat} {R : Rg} {ds : List Deferred} {S : Nat → Prop} {L K : Blocks}
variable {f : Bool} {d : Nat} {ty : TypeId} {pos : String} {af : Array Edge}
theorem r_toU8' {s t : TypeId} {x : Operand} {k : IntKind} {q : Int} (m : Nat) (u : UInt8) (hS : StD ds n R a) (hSw : Sf f (Kp w0 S K) w) (hx : ev R x = some (.int k q)) (ht : P.underlying t = some (.int .u8)) (hs : (P.underlying s).isSome = true) (hlt : Nat.blt d n = true) (hq : q = (m : Nat)) (hu : u = UInt8.ofNat m)
    (K' : ∀ a', StD ds n (up R d (byteV u)) a' → Sq P ops Q rest a' w) : Sq P ops Q ((f, ⟨some d, .convert s t x, ty, pos, af, none⟩, Kp w0 S K) :: rest) a w := by
  subst hq
  exact r_toU8 (q := m) u hS hSw hx ht hs hlt hu K'
end
end Go.Sym

namespace Go.Sym
open Go
def hdB (kd n : Int) (dst src tok : List UInt8) (ln : Int) (ph : Bool) (l : List Int) (tag : List UInt8) : List UInt8 := headB kd.toNat n.toNat dst src tok ln.toNat ph l tag
def tlB (kd n : Int) (low : Nat) : List UInt8 := if kd = 3 ∨ kd = 4 then [] else beB low n.toNat
theorem hdB_len {kd n ln : Int} {dst src tok tag : List UInt8} {l : List Int} {ph : Bool} {low bn : Nat} (h : mayP kd dst.length src.length tok.length ln n l.length bn) (hl : l.length ≤ 1048576) (ht : tag.length = 16) : (hdB kd n dst src tok ln ph l tag ++ tlB kd n low).length ≤ 5000000 := by
  unfold mayP at h
  obtain ⟨h1, h2, h3⟩ := h
  have hw := wideB_le tok.length
  have hw2 : (wideB ln.toNat 1).length = 2 := wideB_len _ _
  have ht2 : (tlB kd n low).length ≤ 4 := by
    unfold tlB; split
    · exact Nat.zero_le _
    · rw [beB_len]; omega
  rw [List.length_append]
  have : (hdB kd n dst src tok ln ph l tag).length ≤ 4900000 := by
    unfold hdB headB
    rcases (by omega : kd = 0 ∨ kd = 1 ∨ kd = 2 ∨ kd = 3 ∨ kd = 4 ∨ kd = 5) with rfl | rfl | rfl | rfl | rfl | rfl
    · show (startB _ 1 dst src ++ wideB tok.length (formK tok.length) ++ tok ++ wideB ln.toNat 1).length ≤ _
      simp only [List.length_append, startB_len]; omega
    · show (startB _ 1 dst src ++ wideB ln.toNat 1).length ≤ _
      simp only [List.length_append, startB_len]; omega
    · show (startB _ 1 dst src ++ wideB ln.toNat 1).length ≤ _
      simp only [List.length_append, startB_len]; omega
    · show (startB 240 1 dst src ++ tok ++ tag).length ≤ _
      simp only [List.length_append, startB_len]; omega
    · show (startB 192 0 dst src ++ listB l).length ≤ _
      simp only [List.length_append, startB_len, listB_len]; omega
    · show ([_] ++ dst).length ≤ _
      simp only [List.length_append, List.length_cons, List.length_nil]; omega
  omega
/-- the same, looked at in another order (cheap to compute) -/
def keepOk2 (md : Region.Mode) (ops : Array Oper) (pl : Plan) : Bool :=
  pl.all fun x => !x.1 || pl.all fun y => y.1 || y.2.2.isEmpty || (y.2.2.all fun k => x.2.2.any (Nat.beq k)) || anc md ops 60 x.2.1 y.2.1
theorem keepOk2_ok {md : Region.Mode} {ops : Array Oper} {pl : Plan} (h : keepOk2 md ops pl = true) : keepOk md ops pl = true := by
  unfold keepOk2 at h
  unfold keepOk
  rw [← h]
  congr 1; funext x; congr 1; congr 1; funext y
  exact Bool.or_right_comm _ _ _
end Go.Sym
