/- HeaderBack: a header that is put is read again, with the place and the lowest bytes of the number. Conditions: those of the given row (arguments of at most 1048576 values and letters; the listed variables hold what the text lays). Part Ref1: walks and lemmas of the proof. -/
import Derived.Test.YtcenionnedgadaaDoorHeader5
import Derived.Test.YtcenionnedgadaaDoorSymNum
namespace Go.Proofs.YtcenionnedgadaaDoor
open Go.Sym
/-! ### the document's reading -/
def idQ (l : List UInt8) (p : Nat) : Int ⊕ (List UInt8 × Nat) := match l[p]? with
  | none => .inl 10
  | some n => if 20 < n.toNat then .inl 11 else if l.length < p + 1 + n.toNat then .inl 10 else .inr ((l.drop (p + 1)).take n.toNat, p + 1 + n.toNat)
def tailQ (l : List UInt8) (dst src : List UInt8) (kd : Nat) (tok : List UInt8) (p : Nat) : Int ⊕ (Hd × Nat) := match varN l p with
  | none => .inl 10
  | some (n, p1) => if l.length < p1 + n then .inl 10 else .inr (⟨(kd : Int), 1, dst, src, tok, n, false, [], z16⟩, p1)
def restQ (l : List UInt8) (dst src : List UInt8) (kd p : Nat) : Int ⊕ (Hd × Nat) :=
  if kd = 3 then (if l.length < p + 16 then .inl 10 else if l.length = p + 16 ∨ p + 16 + 512 < l.length then .inl 11 else .inr (⟨3, 1, dst, src, (l.drop p).take (l.length - 16 - p), 0, false, [], (l.drop (l.length - 16)).take 16⟩, l.length))
  else if kd = 0 then (match varN l p with
    | none => .inl 10
    | some (n, p1) => if 512 < n then .inl 11 else if l.length < p1 + n then .inl 10 else tailQ l dst src 0 ((l.drop p1).take n) (p1 + n))
  else tailQ l dst src kd [] p
def lateQ (l : List UInt8) (x0 v : Nat) (dst src : List UInt8) (p : Nat) : Int ⊕ (Hd × Nat) :=
  if v = 0 then (if l.length = p ∨ (l.length - p) % 4 ≠ 0 then .inl 11 else .inr (⟨4, 0, dst, src, [], 0, false, words l p ((l.length - p) / 4), z16⟩, l.length))
  else if v = 1 then (if x0 / 64 % 2 = 0 then .inl 11 else restQ l dst src (x0 / 16 % 4) p)
  else .inr (⟨6, (v : Int), dst, src, [], 0, false, [], z16⟩, p)
def refQ (l : List UInt8) (ids : Int) : Int ⊕ (Hd × Nat) :=
  if ids < 0 ∨ 20 < ids then .inl 2 else match l with
  | [] => .inl 10
  | x0 :: _ =>
    if x0.toNat < 128 then (if x0.toNat < 64 then .inl 11 else if l.length < 1 + ids.toNat then .inl 10 else .inr (⟨5, 0, (l.drop 1).take ids.toNat, [], [], 0, decide (x0.toNat / 4 % 2 = 1), [], z16⟩, 1 + ids.toNat))
    else if l.length < 5 then .inl 10
    else match idQ l 5 with
      | .inl e => .inl e
      | .inr (dst, p1) => match idQ l p1 with
        | .inl e => .inl e
        | .inr (src, p2) => lateQ l x0.toNat (beN ((l.drop 1).take 4)) dst src p2
theorem ne10 : (10 : Int) ≠ 0 := by decide
theorem ne11 : (11 : Int) ≠ 0 := by decide
def endQ (ve : Int) (dst src : List UInt8) (R : Lr) : Int ⊕ (Hd × Nat) := if R.c.bad = 0 then .inr (⟨R.kind, ve, dst, src, R.token, R.len, false, R.list, R.tag⟩, R.c.p) else .inl R.c.bad
theorem numC_y {l : List UInt8} {n p : Nat} (h : p + n ≤ l.length) : numC l n ⟨p, 0⟩ = (beN ((l.drop p).take n), ⟨p + n, 0⟩) := by unfold numC; rw [if_pos rfl, if_pos (by simpa using h)]
theorem numC_n {l : List UInt8} {n p : Nat} (h : ¬ p + n ≤ l.length) : numC l n ⟨p, 0⟩ = (0, ⟨p, 10⟩) := by unfold numC; rw [if_pos rfl, if_neg (by simpa using h)]
theorem bytesC_y {l : List UInt8} {n p : Nat} (h : p + n ≤ l.length) : bytesC l n ⟨p, 0⟩ = ((l.drop p).take n, ⟨p + n, 0⟩) := by unfold bytesC; rw [if_pos rfl, if_pos (by simpa using h)]
theorem bytesC_n {l : List UInt8} {n p : Nat} (h : ¬ p + n ≤ l.length) : bytesC l n ⟨p, 0⟩ = ([], ⟨p, 10⟩) := by unfold bytesC; rw [if_pos rfl, if_neg (by simpa using h)]
theorem bytesC_b {l : List UInt8} {n p : Nat} {b : Int} (h : b ≠ 0) : bytesC l n ⟨p, b⟩ = ([], ⟨p, b⟩) := by unfold bytesC; exact if_neg h
theorem longC_b {l : List UInt8} {p : Nat} {b : Int} (h : b ≠ 0) : longC l ⟨p, b⟩ = (0, ⟨p, b⟩) := by unfold longC; exact if_neg h
theorem longC_y {l : List UInt8} {p v p1 : Nat} (h : varN l p = some (v, p1)) : longC l ⟨p, 0⟩ = (v, ⟨p1, 0⟩) := by unfold longC; rw [if_pos rfl]; simp only [h]
theorem longC_n {l : List UInt8} {p : Nat} (h : varN l p = none) : longC l ⟨p, 0⟩ = (0, ⟨p, 10⟩) := by unfold longC; rw [if_pos rfl]; simp only [h]
theorem idC_of {l : List UInt8} {p : Nat} : (∃ u p', idQ l p = .inr (u, p') ∧ idC l ⟨p, 0⟩ = (u, ⟨p', 0⟩)) ∨ (∃ e u c, idQ l p = .inl e ∧ idC l ⟨p, 0⟩ = (u, c) ∧ c.bad = e ∧ e ≠ 0) := by
  unfold idQ
  cases h : l[p]? with
  | none =>
    right
    have hp : ¬ p + 1 ≤ l.length := by intro h2; rw [List.getElem?_eq_getElem (by omega)] at h; cases h
    refine ⟨10, [], ⟨p, 10⟩, rfl, ?_, rfl, by decide⟩
    unfold idC; rw [numC_n hp]
    simp only
    rw [okC_yes (.inl ne10), if_neg ne10]
  | some n =>
    obtain ⟨hp, hn⟩ := List.getElem?_eq_some_iff.1 h
    have e1 : numC l 1 ⟨p, 0⟩ = (n.toNat, ⟨p + 1, 0⟩) := by
      rw [numC_y (by omega), List.take_one, List.head?_drop, h]
      simp [beN]
    simp only
    by_cases h20 : 20 < n.toNat
    · right
      refine ⟨11, [], ⟨p + 1, 11⟩, by rw [if_pos h20], ?_, rfl, by decide⟩
      unfold idC; rw [e1]
      simp only
      rw [okC_no rfl (by simpa using h20), if_neg ne11]
    · rw [if_neg h20]
      by_cases hl : l.length < p + 1 + n.toNat
      · right
        refine ⟨10, [], ⟨p + 1, 10⟩, by rw [if_pos hl], ?_, rfl, by decide⟩
        unfold idC; rw [e1]
        simp only
        rw [okC_yes (.inr (by simpa using h20)), if_pos rfl, bytesC_n (by omega)]
      · left
        refine ⟨_, _, by rw [if_neg hl], ?_⟩
        unfold idC; rw [e1]
        simp only
        rw [okC_yes (.inr (by simpa using h20)), if_pos rfl, bytesC_y (by omega)]
theorem tail_eq {l dst src tok : List UInt8} {kd p : Nat} : endQ 1 dst src (tailC l (kd : Int) tok ⟨p, 0⟩) = tailQ l dst src kd tok p := by
  unfold tailC tailQ endQ
  cases h : varN l p with
  | none =>
    rw [longC_n h]
    simp only
    rw [okC_yes (.inl ne10), if_neg ne10]
  | some q =>
    obtain ⟨v, p1⟩ := q
    have hb := varN_bound h
    rw [longC_y h]
    simp only
    by_cases hl : l.length < p1 + v
    · rw [if_pos hl, okC_no rfl (by simp; omega), if_neg ne10]
    · rw [if_neg hl, okC_yes (.inr (by simp; omega)), if_pos rfl]
theorem tail_b {l tok : List UInt8} {kd : Int} {p : Nat} {b : Int} (h : b ≠ 0) : (tailC l kd tok ⟨p, b⟩).c.bad = b := by
  unfold tailC
  rw [longC_b h]
  simp only
  rw [okC_yes (.inl h)]
theorem late_eq {l dst src : List UInt8} {x0 v p : Nat} (hp : p ≤ l.length) : endQ (v : Int) dst src (hlongC l x0 (v : Int) ⟨p, 0⟩) = lateQ l x0 v dst src p := by
  unfold hlongC lateQ
  rw [if_pos rfl]
  by_cases h0 : v = 0
  · subst h0
    rw [if_pos (by rfl), if_pos rfl]
    unfold versC endQ okVers
    by_cases hl : l.length = p ∨ (l.length - p) % 4 ≠ 0
    · rw [if_pos hl]
      have : (decide (0 < l.length - p) && decide ((l.length - p) % 4 = 0)) = false := by
        rcases hl with h | h
        · simp; omega
        · simp [h]
      simp only [this]
      rw [okC_no rfl rfl]
      simp
    · rw [if_neg hl]
      have : (decide (0 < l.length - p) && decide ((l.length - p) % 4 = 0)) = true := by simp; omega
      simp only [this]
      rw [okC_yes (.inr rfl)]
      simp
  · rw [if_neg (by omega), if_neg h0]
    by_cases h1 : v = 1
    · subst h1
      rw [if_pos (by rfl), if_pos rfl]
      unfold knownC
      have hbit : x0.testBit 6 = decide (x0 / 64 % 2 = 1) := Nat.testBit_eq_decide_div_mod_eq
      by_cases h6 : x0 / 64 % 2 = 0
      · rw [if_pos h6]
        have : x0.testBit 6 = false := by rw [hbit, h6]; rfl
        rw [this, okC_no rfl rfl]
        unfold endQ
        have e11 : (11 : Int) ≠ 0 := by decide
        split
        · unfold retryC
          rw [okC_yes (.inl e11), if_neg e11]
          simp
        · split
          · unfold initC
            rw [longC_b e11]
            simp only
            rw [okC_yes (.inl e11), if_neg e11, tail_b e11]
            simp
          · rw [tail_b e11]
            simp
      · rw [if_neg h6]
        have : x0.testBit 6 = true := by rw [hbit]; simp; omega
        rw [this, okC_yes (.inr rfl)]
        unfold restQ
        by_cases k3 : x0 / 16 % 4 = 3
        · rw [if_pos k3, if_pos k3]
          unfold retryC
          by_cases hl : l.length < p + 16
          · rw [if_pos hl]
            simp only
            rw [okC_no rfl (by simp; omega), if_neg ne10]
            unfold endQ
            simp
          · rw [if_neg hl]
            simp only
            rw [okC_yes (.inr (by simp; omega)), if_pos rfl, bytesC_y (by omega)]
            simp only
            have hlen : ((l.drop p).take (l.length - p - 16)).length = l.length - p - 16 := by first | (simp; omega) | simp
            unfold okTok
            rw [hlen]
            unfold retryC2 endQ
            simp only
            by_cases hb : l.length = p + 16 ∨ p + 16 + 512 < l.length
            · rw [if_pos hb]
              have : (decide (0 < l.length - p - 16) && decide (l.length - p - 16 ≤ 512)) = false := by simp only [Bool.and_eq_false_iff, decide_eq_false_iff_not]; omega
              rw [this, okC_no rfl rfl, bytesC_b (by decide)]
              simp
            · rw [if_neg hb]
              have : (decide (0 < l.length - p - 16) && decide (l.length - p - 16 ≤ 512)) = true := by simp; omega
              have hl16 : ((l.drop (p + (l.length - p - 16))).take 16).length = 16 := by simp; omega
              rw [this, okC_yes (.inr rfl), bytesC_y (by omega)]
              simp only
              rw [if_pos hl16]
              simp only [if_true]
              rw [show p + (l.length - p - 16) = l.length - 16 by omega, show l.length - p - 16 = l.length - 16 - p by omega, show l.length - 16 + 16 = l.length by omega]
              rfl
        · rw [if_neg k3, if_neg k3]
          by_cases k0 : x0 / 16 % 4 = 0
          · rw [if_pos k0, if_pos k0]
            unfold initC
            cases hv : varN l p with
            | none =>
              rw [longC_n hv]
              simp only
              rw [okC_yes (.inl ne10), if_neg ne10]
              unfold endQ
              rw [tail_b ne10, if_neg ne10]
            | some q =>
              obtain ⟨n, p1⟩ := q
              have hbv := varN_bound hv
              rw [longC_y hv]
              simp only
              by_cases h512 : 512 < n
              · rw [if_pos h512, okC_no rfl (by simp; omega), if_neg ne11]
                unfold endQ
                rw [tail_b ne11, if_neg ne11]
              · rw [if_neg h512, okC_yes (.inr (by simp; omega)), if_pos rfl]
                by_cases hl : l.length < p1 + n
                · rw [if_pos hl, bytesC_n (by omega)]
                  simp only
                  unfold endQ
                  rw [tail_b ne10, if_neg ne10]
                · rw [if_neg hl, bytesC_y (by omega)]
                  exact tail_eq (kd := 0)
          · rw [if_neg k0, if_neg k0]
            exact tail_eq
    · rw [if_neg (by omega), if_neg h1]
      unfold endQ
      simp
theorem idQ_le {l : List UInt8} {p p' : Nat} {u : List UInt8} (h : idQ l p = .inr (u, p')) : p' ≤ l.length ∧ u.length ≤ 20 := by
  unfold idQ at h
  split at h
  · cases h
  · split at h
    · cases h
    · split at h
      · cases h
      · cases h
        simp; omega
theorem refQ_eq (l : List UInt8) (ids : Int) : refQ l ids = readQ l ids := by
  unfold refQ readQ
  split
  · rfl
  · rename_i hids
    cases l with
    | nil => rfl
    | cons x0 t =>
      have hx := x0.toNat_lt
      have hb7 : x0.toNat.testBit 7 = decide (x0.toNat / 128 % 2 = 1) := Nat.testBit_eq_decide_div_mod_eq
      have hb6 : x0.toNat.testBit 6 = decide (x0.toNat / 64 % 2 = 1) := Nat.testBit_eq_decide_div_mod_eq
      have hb2 : x0.toNat.testBit 2 = decide (x0.toNat / 4 % 2 = 1) := Nat.testBit_eq_decide_div_mod_eq
      simp only
      by_cases h128 : x0.toNat < 128
      · have e7 : x0.toNat.testBit 7 = false := by rw [hb7]; simp; omega
        rw [if_pos h128, if_neg (show ¬ (x0.toNat.testBit 7 = true) by rw [e7]; decide)]
        unfold shortQ
        by_cases h64 : x0.toNat < 64
        · have e6 : x0.toNat.testBit 6 = false := by rw [hb6]; simp; omega
          rw [if_pos h64, e6, okC_no rfl rfl, bytesC_b ne11, if_neg ne11]
        · have e6 : x0.toNat.testBit 6 = true := by rw [hb6]; simp; omega
          rw [if_neg h64, e6, okC_yes (.inr rfl)]
          by_cases hl : (x0 :: t).length < 1 + ids.toNat
          · rw [if_pos hl, bytesC_n (by omega), if_neg ne10]
          · rw [if_neg hl, bytesC_y (by omega), if_pos rfl, hb2]
      · have e7 : x0.toNat.testBit 7 = true := by rw [hb7]; simp; omega
        rw [if_neg h128, e7, if_pos rfl]
        have goal : longQ (x0 :: t) x0.toNat = endQ ((numC (x0 :: t) 4 ⟨1, 0⟩).1 : Int) (idC (x0 :: t) (numC (x0 :: t) 4 ⟨1, 0⟩).2).1 (idC (x0 :: t) (idC (x0 :: t) (numC (x0 :: t) 4 ⟨1, 0⟩).2).2).1 (hlongC (x0 :: t) x0.toNat ((numC (x0 :: t) 4 ⟨1, 0⟩).1 : Int) (idC (x0 :: t) (idC (x0 :: t) (numC (x0 :: t) 4 ⟨1, 0⟩).2).2).2) := rfl
        rw [goal]
        have bad : ∀ (ve : Int) (dst src : List UInt8) (c : Cu), c.bad ≠ 0 → endQ ve dst src (hlongC (x0 :: t) x0.toNat ve c) = .inl c.bad := by
          intro ve dst src c hc
          obtain ⟨cp, cb⟩ := c
          rw [hlongC_bad hc]
          unfold endQ
          exact if_neg hc
        have idb : ∀ (c : Cu), c.bad ≠ 0 → idC (x0 :: t) c = ([], c) := by
          intro c hc
          obtain ⟨cp, cb⟩ := c
          exact idC_bad hc
        by_cases h5 : (x0 :: t).length < 5
        · rw [if_pos h5, numC_n (by omega)]
          rw [idb ⟨1, 10⟩ (show (10 : Int) ≠ 0 by decide), idb ⟨1, 10⟩ (show (10 : Int) ≠ 0 by decide), bad _ _ _ ⟨1, 10⟩ (show (10 : Int) ≠ 0 by decide)]
        · rw [if_neg h5, numC_y (by omega)]
          simp only [Nat.reduceAdd]
          rcases idC_of (l := x0 :: t) (p := 5) with ⟨u, p1, e1, e2⟩ | ⟨e, u, c, e1, e2, e3, e4⟩
          · rw [e1, e2]
            simp only
            rcases idC_of (l := x0 :: t) (p := p1) with ⟨u2, p2, g1, g2⟩ | ⟨e, u2, c, g1, g2, g3, g4⟩
            · rw [g1, g2]
              simp only
              exact (late_eq (idQ_le g1).1).symm
            · rw [g1, g2]
              simp only
              rw [bad _ _ _ c (by rw [g3]; exact g4), g3]
          · rw [e1, e2]
            simp only
            rw [idb c (by rw [e3]; exact e4), bad _ _ _ c (by rw [e3]; exact e4), e3]
end Go.Proofs.YtcenionnedgadaaDoor
