/- Rules of symbolic execution over any program of the model, that the claims of this folder use; part SymSeals. Conditions: those that each rule names. -/
import Derived.Test.YtkhcbllphdhbdaaSymIsName
import Derived.Test.YtkhcbllphdhbdaaSymNames
import Derived.Test.YtkhcbllphdhbdaaSymMsg2
namespace Go.Sym
open Go
/-! ### one seal -/
def selS (n : Nat) (la lp : List UInt8) : Tm := selT 1 (n : Int) (strOf la) (strOf lp)
def tsS (n : Nat) (la lp : List UInt8) : List Tm := [rootT, freshT, freshT, selS n la lp]
def bS (lp : List UInt8) : List UInt8 := List.replicate lp.length 0 ++ nm 3
theorem bS_len (lp : List UInt8) : (bS lp).length = lp.length + 16 := by simp [bS, nm_len]
theorem bS_drop (lp : List UInt8) : (bS lp).drop lp.length = nm 3 := by
  unfold bS
  rw [List.drop_append_of_le_length (by simp), List.drop_of_length_le (by simp), List.nil_append]
theorem bS_take (lp : List UInt8) : (bS lp).take lp.length = List.replicate lp.length 0 := by
  unfold bS
  rw [List.take_append_of_le_length (by simp), List.take_of_length_le (by simp)]
theorem tsS_at {n : Nat} {la lp : List UInt8} {j : Nat} {t : Tm} (h : (tsS n la lp)[j]? = some t) : (j = 0 ∧ t = rootT) ∨ (j = 1 ∧ t = freshT) ∨ (j = 2 ∧ t = freshT) ∨ (j = 3 ∧ t = selS n la lp) := by
  match j, h with
  | 0, h => simp [tsS] at h; exact .inl ⟨rfl, h.symm⟩
  | 1, h => simp [tsS] at h; exact .inr (.inl ⟨rfl, h.symm⟩)
  | 2, h => simp [tsS] at h; exact .inr (.inr (.inl ⟨rfl, h.symm⟩))
  | 3, h => simp [tsS] at h; exact .inr (.inr (.inr ⟨rfl, h.symm⟩))
  | j + 4, h => simp [tsS] at h
theorem wf_S (n : Nat) (la lp : List UInt8) (hl : lp.length ≤ 1099511627000) : Wf6 (tsS n la lp) := by
  refine ⟨fun j t h => ?_, fun j t h => ?_, fun j t h => ?_⟩ <;> rcases tsS_at h with ⟨_, rfl⟩ | ⟨_, rfl⟩ | ⟨_, rfl⟩ | ⟨_, rfl⟩
  all_goals first | decide | skip
  all_goals first | (show (0 : Int) ≤ 0 ∧ (0 : Int) < 4; decide) | (show (0 : Int) ≤ 1 ∧ (1 : Int) < 4; decide) | (show lp.length ≤ _; omega)
theorem rch_S {n : Nat} {la lp : List UInt8} {j : Nat} {t : Tm} {C : Nat → Prop} (h : (tsS n la lp)[j]? = some t) : ¬ Rch C t := by
  rcases tsS_at h with ⟨_, rfl⟩ | ⟨_, rfl⟩ | ⟨_, rfl⟩ | ⟨_, rfl⟩ <;> simp [Rch, rootT, freshT, selS, selT]
theorem openS_yes (n : Nat) (la lp : List UInt8) : OpenR (tsS n la lp) 1 (n : Int) la (bS lp) lp.length 3 (selS n la lp) :=
  ⟨rfl, bS_drop lp, rfl, rfl, by rw [bS_take]; intro x hx; exact (List.mem_replicate.1 hx).2⟩
theorem openS_only {n k m : Nat} {nu : Int} {la lp la' lb : List UInt8} {s : Nat} {t : Tm} (h : OpenR (tsS n la lp) k nu la' lb m s t) (hl : lb.length = m + 16) : s = 3 ∧ k = 1 ∧ nu = n ∧ la' = la ∧ lb = bS lp ∧ t = selS n la lp := by
  have hk : t.kind = 6 := by rw [h.term]; rfl
  rcases tsS_at h.at_ with ⟨_, e⟩ | ⟨_, e⟩ | ⟨_, e⟩ | ⟨hs, e⟩
  · rw [e] at hk; exact absurd hk (by decide)
  · rw [e] at hk; exact absurd hk (by decide)
  · rw [e] at hk; exact absurd hk (by decide)
  · have ht := h.term
    rw [e] at ht
    have ha : ((1 : Nat) : Int) = (k : Int) := congrArg Tm.a ht
    have hn : (n : Int) = nu := congrArg Tm.number ht
    have hal : strOf la = strOf la' := congrArg Tm.also ht
    have hm : lp.length = m := by have h9 := h.size; rw [e] at h9; exact h9
    subst hm
    have hz : lb.take lp.length = List.replicate lp.length 0 := by
      refine List.eq_replicate_iff.2 ⟨by rw [List.length_take]; omega, h.zero⟩
    have hd := h.name
    rw [hs] at hd
    refine ⟨hs, by omega, hn.symm, (strOf_inj hal).symm, ?_, e⟩
    rw [← List.take_append_drop lp.length lb, hz, hd]; rfl
set_option maxRecDepth 100000 in
theorem nm_first0 : ∀ j, j < 18 → (nmB j 0 == 0) = false := by decide +kernel
theorem nm_no0 {j : Nat} (h2 : j < 18) (l : List UInt8) (h : nm j = 0 :: l) : False := by
  have h3 := nm_first0 j h2
  simp only [nm, List.cons.injEq] at h
  rw [h.1] at h3
  cases h3
theorem win {m z : Nat} (hz : z ≤ m) (X : List UInt8) : ((List.replicate m (0 : UInt8) ++ X).drop z).take 16 = List.replicate (min 16 (m - z)) 0 ++ X.take (16 - min 16 (m - z)) := by
  rw [List.drop_append_of_le_length (by simpa using hz), List.drop_replicate, List.take_append, List.take_replicate, List.length_replicate]
  congr 2
  omega
theorem has_bS {lp : List UInt8} {j : Nat} (hj : j < 18) (h : HasN (bS lp) j) : j = 3 := by
  obtain ⟨z, hz, e⟩ := h
  rw [bS_len] at hz
  unfold bS at e
  rw [win (by omega)] at e
  by_cases hq : z = lp.length
  · subst hq
    simp only [Nat.sub_self, Nat.min_zero, List.replicate_zero, List.nil_append, Nat.sub_zero] at e
    rw [List.take_of_length_le (by rw [nm_len]; omega)] at e
    exact nm_inj (by omega) (by omega) e.symm
  · exfalso
    obtain ⟨d, hd⟩ : ∃ d, min 16 (lp.length - z) = d + 1 := ⟨min 16 (lp.length - z) - 1, by omega⟩
    rw [hd, List.replicate_succ, List.cons_append] at e
    exact nm_no0 hj _ e.symm
theorem bS_has (lp : List UInt8) : HasN (bS lp) 3 := ⟨lp.length, by rw [bS_len]; omega, by rw [bS_drop, List.take_of_length_le (by rw [nm_len]; omega)]⟩
theorem clos_S {n : Nat} {la lp : List UInt8} {C : Nat → Prop} {seen : List (List UInt8)} (h0 : C 0) (h3 : C 3) (h1 : ¬ C 1) (hs : ∀ l ∈ seen, l = bS lp ∨ (l = nm 2 ∧ C 2)) : Clos6 (tsS n la lp) seen C := by
  refine ⟨h0, fun l hl j hj hn => ?_, fun j t ht hr => absurd hr (rch_S ht), fun j t ht h6 _ ha => ?_⟩
  · have hj4 : j < 4 := hj
    rcases hs l hl with rfl | ⟨rfl, h2⟩
    · rw [has_bS (by omega) hn]; exact h3
    · have := (HasN16 (nm_len 2)).1 hn
      rw [← nm_inj (by omega) (by omega) this]; exact h2
  · rcases tsS_at ht with ⟨_, rfl⟩ | ⟨_, rfl⟩ | ⟨_, rfl⟩ | ⟨_, rfl⟩
    · exact absurd h6 (by decide)
    · exact absurd h6 (by decide)
    · exact absurd h6 (by decide)
    · exact absurd ha h1
theorem spS_none {n : Nat} {la lp : List UInt8} {K : List Bool} (hk : Knows6 (tsS n la lp) [bS lp, nm 2] K) : spL (tsS n la lp) K (tsS n la lp).length = [] := by
  have hc : Clos6 (tsS n la lp) [bS lp, nm 2] (fun j => j ≠ 1) := clos_S (by decide) (by decide) (by decide) (fun l hl => by
    simp only [List.mem_cons, List.not_mem_nil, or_false] at hl
    rcases hl with rfl | rfl
    · exact .inl rfl
    · exact .inr ⟨rfl, by decide⟩)
  refine spL_nil _ (fun j hj => ?_)
  unfold sp1
  cases ht : (tsS n la lp)[j]? with
  | none => rfl
  | some t =>
    refine if_neg (fun h => ?_)
    rcases tsS_at ht with ⟨_, rfl⟩ | ⟨_, rfl⟩ | ⟨_, rfl⟩ | ⟨_, rfl⟩
    · exact absurd h.1 (by decide)
    · exact absurd h.1 (by decide)
    · exact absurd h.1 (by decide)
    · exact hk.least _ hc _ h.2.2 rfl
theorem spS_one {n : Nat} {la lp : List UInt8} {K : List Bool} (hk : Knows6 (tsS n la lp) [bS lp, nm 1] K) : spL (tsS n la lp) K (tsS n la lp).length = [lp] := by
  have k1 : KT K 1 := hk.clos.seen (nm 1) (by simp) 1 (by show 1 < 4; decide) (hasN_self 1)
  have k3 : KT K 3 := hk.clos.seen (bS lp) (by simp) 3 (by show 3 < 4; decide) (bS_has lp)
  show spL (tsS n la lp) K 4 = [lp]
  rw [spL_yes (n := 3) (t := selS n la lp) rfl ⟨rfl, k3, k1⟩, spL_no (n := 2) (t := freshT) rfl (fun h => absurd h.1 (by decide)), spL_no (n := 1) (t := freshT) rfl (fun h => absurd h.1 (by decide)), spL_no (n := 0) (t := rootT) rfl (fun h => absurd h.1 (by decide))]
  rfl
theorem hidS_key {n : Nat} {la lp : List UInt8} {K : List Bool} {r : Bool} (hk : Knows6 (tsS n la lp) [bS lp] K) (h : HidR7 (tsS n la lp) K (nm 1) r) : r = true := by
  cases r
  · have hc : Clos6 (tsS n la lp) [bS lp] (fun j => j ≠ 1) := clos_S (by decide) (by decide) (by decide) (fun l hl => .inl (List.mem_singleton.1 hl))
    have hg := h.no rfl 0 (by rw [nm_len]; omega)
    rw [List.drop_zero, List.take_of_length_le (by rw [nm_len]; omega)] at hg
    rcases hg with ⟨j, hj, e, hkj⟩ | ⟨hn, _⟩
    · have : j = 1 := (nm_inj (by omega) (by have : j < 4 := hj; omega) e).symm
      exact absurd this (hk.least _ hc j hkj)
    · exact absurd rfl (hn 1 (by show 1 < 4; decide))
  · rfl
set_option maxRecDepth 100000 in
theorem no_names : ∀ d, d < 17 → 1 ≤ d → isNameF (List.replicate d 0 ++ (nm 3).take (16 - d)) = false := by decide +kernel
theorem hidS_text {n : Nat} {la lp : List UInt8} {K : List Bool} {r : Bool} (hk : Knows6 (tsS n la lp) [bS lp] K) (h : HidR7 (tsS n la lp) K (bS lp) r) : r = false := by
  cases r
  · rfl
  · obtain ⟨z, hz, hno⟩ := h.yes rfl
    refine absurd ?_ hno
    rw [bS_len] at hz
    by_cases hq : z = lp.length
    · subst hq
      rw [bS_drop, List.take_of_length_le (by rw [nm_len]; omega)]
      exact .inl ⟨3, by show 3 < 4; decide, rfl, hk.clos.seen (bS lp) (by simp) 3 (by show 3 < 4; decide) (bS_has lp)⟩
    · unfold bS
      rw [win (by omega)]
      refine .inr ⟨fun j hj e => ?_, no_names _ (by omega) (by omega)⟩
      obtain ⟨d, hd⟩ : ∃ d, min 16 (lp.length - z) = d + 1 := ⟨min 16 (lp.length - z) - 1, by omega⟩
      rw [hd, List.replicate_succ, List.cons_append] at e
      exact nm_no0 (by have : j < 4 := hj; omega) _ e.symm
theorem xor1_ne (y : UInt8) : y ^^^ 1 ≠ y := by
  intro h
  have h2 : y ^^^ (y ^^^ 1) = y ^^^ y := by rw [h]
  rw [← UInt8.xor_assoc, UInt8.xor_self, UInt8.zero_xor] at h2
  exact absurd h2 (by decide)
theorem turned_no {n m : Nat} {nu : Int} {k : Nat} {la lp la' : List UInt8} {j : Nat} {y : UInt8} (hy : (bS lp)[j]? = some y) (hm : (bS lp).length = m + 16) : ¬ ∃ s t, OpenR (tsS n la lp) k nu la' ((bS lp).set j (y ^^^ 1)) m s t := by
  rintro ⟨s, t, h⟩
  obtain ⟨_, _, _, _, e, _⟩ := openS_only h (by rw [List.length_set]; exact hm)
  have hj := (List.getElem?_eq_some_iff.1 hy).1
  have h9 : ((bS lp).set j (y ^^^ 1))[j]? = some (y ^^^ 1) := by rw [List.getElem?_set]; simp [hj]
  rw [e, hy] at h9
  exact xor1_ne y (Option.some.inj h9).symm
section
variable {P : Program} {ops : Array Oper} {Q : Exit → Act → World → Prop} {rest : List Item} {a : Act} {w w0 : World} {n : Nat} {R : Rg} {ds : List Deferred} {S : Nat → Prop} {L K : Blocks}
variable {f : Bool} {d : Nat} {ty : TypeId} {pos : String} {af : Array Edge}
theorem r_and24 {t yt : TypeId} {x : Operand} {m : Int} (hS : StD ds n R a) (hSw : Sf f (Kp w0 S K) w) (hx : ev R x = some (.int .i64 m)) (hlt : Nat.blt d n = true)
    (k : ∀ a' (e : Nat), e ≤ 16777215 → StD ds n (up R d (.int .i64 (e : Int))) a' → Sq P ops Q rest a' w) : Sq P ops Q ((f, ⟨some d, .binOp .and t x (.const (.int .i64 16777215)) yt, ty, pos, af, none⟩, Kp w0 S K) :: rest) a w := by
  refine r_and hS hSw hx rfl hlt (fun a' h => ?_)
  have h1 : (BitVec.ofInt 64 m &&& BitVec.ofInt 64 16777215).toNat ≤ 16777215 := by
    rw [BitVec.toNat_and]
    exact Nat.le_trans Nat.and_le_right (by decide)
  refine k a' (BitVec.ofInt 64 m &&& BitVec.ofInt 64 16777215).toNat h1 ?_
  have h2 : IntKind.i64.wrap (((BitVec.ofInt 64 m &&& BitVec.ofInt 64 16777215).toNat : Nat) : Int) = (((BitVec.ofInt 64 m &&& BitVec.ofInt 64 16777215).toNat : Nat) : Int) := wrap_i64 (by omega)
  first
    | exact h
    | (rw [← h2]; exact h)
end
end Go.Sym

namespace Go.Sym
open Go
theorem BL.one {F : Nat → Prop} {w : World} {xs : List Value} {l : List UInt8} (h : BL F w xs [l]) : ∃ x, xs = [x] ∧ BsF F w x l := by
  cases h with
  | cons hb h2 => cases h2; exact ⟨_, rfl, hb⟩
section
variable {P : Program} {ops : Array Oper} {Q : Exit → Act → World → Prop} {rest : List Item} {a : Act} {w w0 : World} {n : Nat} {R : Rg} {ds : List Deferred} {S : Nat → Prop} {L K : Blocks}
variable {f : Bool} {d : Nat} {ty : TypeId} {pos : String} {af : Array Edge}
theorem r_xorB {t yt : TypeId} {x y : Operand} (u v : UInt8) (hS : StD ds n R a) (hSw : Sf f (Kp w0 S K) w) (hx : ev R x = some (byteV u)) (hy : ev R y = some (byteV v)) (hlt : Nat.blt d n = true)
    (k : ∀ a', StD ds n (up R d (byteV (u ^^^ v))) a' → Sq P ops Q rest a' w) : Sq P ops Q ((f, ⟨some d, .binOp .xor t x y yt, ty, pos, af, none⟩, Kp w0 S K) :: rest) a w :=
  r_xor hS hSw hx hy hlt (by
    have : Value.int .u8 (IntKind.u8.wrap ((BitVec.ofInt IntKind.u8.bits (u.toNat : Int) ^^^ BitVec.ofInt IntKind.u8.bits (v.toNat : Int)).toNat : Int)) = byteV (u ^^^ v) := by
      have h1 := u.toNat_lt
      have h2 := v.toNat_lt
      have h3 : u.toNat ^^^ v.toNat < 2 ^ 8 := Nat.xor_lt_two_pow (by omega) (by omega)
      rw [BitVec.toNat_xor]
      simp only [IntKind.bits, BitVec.ofInt_natCast, BitVec.toNat_ofNat]
      rw [Nat.mod_eq_of_lt (show u.toNat < 2 ^ 8 by omega), Nat.mod_eq_of_lt (show v.toNat < 2 ^ 8 by omega), wrap_u8, Nat.mod_eq_of_lt (show u.toNat ^^^ v.toNat < 256 by omega)]
      simp [byteV]
    rw [this]; exact k)
end
end Go.Sym

namespace Go.Sym
open Go
/-- fewer blocks, in their order -/
theorem Hp.less {w0 w : World} {S : Nat → Prop} {L L' : Blocks} (h : Hp w0 S L w) (s : L'.Sublist L) : Hp w0 S L' w :=
  ⟨fun p hp => h.blk p (s.subset hp), h.nd.sublist (s.map _), h.mod⟩
end Go.Sym
