/- Rules of symbolic execution over any program of the model, that the claims of this folder use; part SymFork. Conditions: those that each rule names. -/
import Derived.Test.YtkhcbllphdhbdaaSymLaws
namespace Go.Sym
open Go

/-! ### regions in which two operations are ready at once -/
section
variable {P : Program} {ops : Array Oper} {Q : Exit → Act → World → Prop}
/-- a step that is carried out -/
def Hs (P : Program) (ops : Array Oper) (Q : Exit → Act → World → Prop) (o : Oper) (S : World → Prop) (C : Act → World → Prop) (a : Act) (w : World) : Prop :=
  if Region.wanted o (yielded ops a.tmps) then o.wp P a w (fun a' w' => S w' ∧ C a' w') Q ∨ (o.asks P a w ∧ LetsOut Q) else S w ∧ C (a.put o.dst undef) w
/-- as Sq, with what comes behind -/
def SqC (P : Program) (ops : Array Oper) (Q : Exit → Act → World → Prop) (C : Act → World → Prop) : List Item → Act → World → Prop
  | [], a, w => C a w
  | (true, o, S) :: rest, a, w => ∃ v, YieldsIf P ops S o v a ∧ SqC P ops Q C rest (a.put o.dst v) w
  | (false, o, S) :: rest, a, w => Hs P ops Q o S (SqC P ops Q C rest) a w
theorem wp_then {o : Oper} {a : Act} {w : World} {K C : Act → World → Prop} (h : o.wp P a w K (Exit.then C Q)) : o.wp P a w K Q := h
theorem Hs.mono {o : Oper} {S : World → Prop} {C C' : Act → World → Prop} {a : Act} {w : World} (h : Hs P ops Q o S C a w) (k : ∀ a w, C a w → C' a w) : Hs P ops Q o S C' a w := by
  unfold Hs at h ⊢
  split
  · rename_i hw
    rw [if_pos hw] at h
    exact h.imp (Oper.wp_mono fun a w ⟨h1, h2⟩ => ⟨h1, k a w h2⟩) id
  · rename_i hw
    rw [if_neg hw] at h
    exact ⟨h.1, k _ _ h.2⟩
theorem SqC.of {C : Act → World → Prop} : ∀ (l : List Item) (a : Act) (w : World), Sq P ops (Exit.then C Q) l a w → SqC P ops Q C l a w
  | [], _, _, h => h
  | (true, o, S) :: rest, a, w, h => by
    obtain ⟨v, h1, h2⟩ := h
    exact ⟨v, h1, SqC.of rest _ _ h2⟩
  | (false, o, S) :: rest, a, w, h => by
    simp only [Sq] at h
    unfold SqC Hs
    split
    · rename_i hw
      rw [if_pos hw] at h
      rcases h with h | h
      · exact .inl (Oper.wp_mono (fun a w ⟨h1, h2⟩ => ⟨h1, SqC.of rest a w h2⟩) (wp_then h))
      · exact .inr h
    · rename_i hw
      rw [if_neg hw] at h
      exact ⟨h.1, SqC.of rest _ _ h.2⟩
end

/-- a plan that forks -/
inductive PT
  | nil
  | cons (x : Bool × Nat × List Nat) (r : PT)
  | fork (t u : PT)
  | fork3 (t u v : PT)
def PT.items : PT → Plan
  | .nil => []
  | .cons x r => x :: r.items
  | .fork t u => t.items ++ u.items
  | .fork3 t u v => t.items ++ (u.items ++ v.items)
def PT.len : PT → Nat
  | .nil => 0
  | .cons _ r => r.len + 1
  | .fork t u => max t.len u.len
  | .fork3 t u v => max t.len (max u.len v.len)
def PT.head : PT → Nat
  | .cons (false, i, _) _ => i
  | _ => 0
def PT.ofPlan : Plan → PT → PT
  | [], r => r
  | x :: l, r => .cons x (PT.ofPlan l r)
/-- may these be taken in this order? 'al': the first one, that is carried out, may be any of these -/
def treeOk (md : Region.Mode) (ops : Array Oper) : PT → Option (List Nat) → Array Bool → Bool
  | .nil, none, listed => (Region.ready md ops listed).isEmpty
  | .cons (true, i, _) r, none, listed => (ops[i]?).isSome && Region.free md ops listed i && (Region.ready md ops listed).contains i && treeOk md ops r none (listed.setIfInBounds i true)
  | .cons (false, i, _) r, none, listed => (ops[i]?).isSome && (Region.ready md ops listed == [i]) && treeOk md ops r none (listed.setIfInBounds i true)
  | .cons (false, i, _) r, some al, listed => (ops[i]?).isSome && (Region.ready md ops listed == al) && al.contains i && treeOk md ops r none (listed.setIfInBounds i true)
  | .fork t u, none, listed => (Region.ready md ops listed == [t.head, u.head]) && treeOk md ops t (some [t.head, u.head]) listed && treeOk md ops u (some [t.head, u.head]) listed
  | .fork3 t u v, none, listed => (Region.ready md ops listed == [t.head, u.head, v.head]) && treeOk md ops t (some [t.head, u.head, v.head]) listed && treeOk md ops u (some [t.head, u.head, v.head]) listed && treeOk md ops v (some [t.head, u.head, v.head]) listed
  | _, _, _ => false
def SqT (P : Program) (ops : Array Oper) (Q : Exit → Act → World → Prop) (w0 : World) (S : Nat → Prop) (K : Blocks) (l : List Oper) : PT → Act → World → Prop
  | .nil, a, w => Q .normal a w
  | .cons (true, i, ds) r, a, w => ∃ v, YieldsIf P ops (Kp w0 S (dropI K 0 ds)) (nth l i) v a ∧ SqT P ops Q w0 S K l r (a.put (nth l i).dst v) w
  | .cons (false, i, ds) r, a, w => Hs P ops Q (nth l i) (Kp w0 S (dropI K 0 ds)) (SqT P ops Q w0 S K l r) a w
  | .fork t u, a, w => SqT P ops Q w0 S K l t a w ∧ SqT P ops Q w0 S K l u a w
  | .fork3 t u v, a, w => SqT P ops Q w0 S K l t a w ∧ SqT P ops Q w0 S K l u a w ∧ SqT P ops Q w0 S K l v a w
section
variable {P : Program} {ops : Array Oper} {Q : Exit → Act → World → Prop} {w0 : World} {S : Nat → Prop} {K : Blocks} {l : List Oper}
theorem tr_seg : ∀ {pl : Plan} {r : PT} {a : Act} {w : World}, Sq P ops (Exit.then (SqT P ops Q w0 S K l r) Q) (picked w0 S K l pl) a w → SqT P ops Q w0 S K l (PT.ofPlan pl r) a w := by
  intro pl r a w h
  replace h := SqC.of _ a w h
  induction pl generalizing a w with
  | nil => exact h
  | cons x pl ih =>
    obtain ⟨b, i, ds⟩ := x
    cases b with
    | true =>
      obtain ⟨v, h1, h2⟩ := h
      exact ⟨v, h1, ih h2⟩
    | false => exact Hs.mono h (fun a w k => ih k)
theorem tr_fork {t u : PT} {a : Act} {w : World} (h : SqT P ops Q w0 S K l t a w) (k : SqT P ops Q w0 S K l u a w) : SqT P ops Q w0 S K l (.fork t u) a w := ⟨h, k⟩
theorem tr_fork3 {t u v : PT} {a : Act} {w : World} (h : SqT P ops Q w0 S K l t a w) (k : SqT P ops Q w0 S K l u a w) (j : SqT P ops Q w0 S K l v a w) : SqT P ops Q w0 S K l (.fork3 t u v) a w := ⟨h, k, j⟩
theorem tr_nil {a : Act} {w : World} (h : Q .normal a w) : SqT P ops Q w0 S K l .nil a w := h
end
theorem tree_unlisted {md : Region.Mode} {ops : Array Oper} : ∀ (tr : PT) (al : Option (List Nat)) (listed : Array Bool), treeOk md ops tr al listed = true → ∀ y ∈ tr.items, listed.getD y.2.1 false = false := by
  intro tr
  induction tr with
  | nil => intro _ _ _ y hy; cases hy
  | cons x r ih =>
    obtain ⟨b, i, ds⟩ := x
    intro al listed h y hy
    have key : listed.getD i true = false ∧ treeOk md ops r none (listed.setIfInBounds i true) = true := by
      cases b with
      | true =>
        cases al with
        | none =>
          simp only [treeOk, Bool.and_eq_true] at h
          exact ⟨(mem_ready.1 (show i ∈ Region.ready md ops listed by simpa using h.1.2)).1, h.2⟩
        | some al => simp [treeOk] at h
      | false =>
        cases al with
        | none =>
          simp only [treeOk, Bool.and_eq_true, beq_iff_eq] at h
          exact ⟨(mem_ready.1 (show i ∈ Region.ready md ops listed by rw [h.1.2]; simp)).1, h.2⟩
        | some al =>
          simp only [treeOk, Bool.and_eq_true, beq_iff_eq] at h
          exact ⟨(mem_ready.1 (show i ∈ Region.ready md ops listed by rw [h.1.1.2]; simpa using h.1.2)).1, h.2⟩
    rcases List.mem_cons.1 hy with rfl | hy
    · exact getD_false_true key.1
    · have := ih none _ key.2 y hy
      by_cases e : i = y.2.1
      · rw [← e]; exact getD_false_true key.1
      · rw [getD_set_ne false e] at this; exact this
  | fork t u iht ihu =>
    intro al listed h y hy
    cases al with
    | none =>
      simp only [treeOk, Bool.and_eq_true] at h
      rcases List.mem_append.1 hy with hy | hy
      · exact iht _ listed h.1.2 y hy
      · exact ihu _ listed h.2 y hy
    | some al => simp [treeOk] at h
  | fork3 t u v iht ihu ihv =>
    intro al listed h y hy
    cases al with
    | none =>
      simp only [treeOk, Bool.and_eq_true] at h
      rcases List.mem_append.1 hy with hy | hy
      · exact iht _ listed h.1.1.2 y hy
      · rcases List.mem_append.1 hy with hy | hy
        · exact ihu _ listed h.1.2 y hy
        · exact ihv _ listed h.2 y hy
    | some al => simp [treeOk] at h
theorem wpAnyL_of_tree {P : Program} {l : List Oper} {Q : Exit → Act → World → Prop} {w0 : World} {S : Nat → Prop} {K : Blocks} {pl0 : Plan} (hsel : Region.noSelect l.toArray = true) (hQ : Steady Q)
    (hk : keepOk .any l.toArray pl0 = true) (h1 : onceOk l.toArray.size pl0 = true) :
    ∀ (tr : PT) (listed : Array Bool) (a : Act) (w : World), (∀ x ∈ tr.items, x ∈ pl0) → Closed .any l.toArray listed →
      (∀ x ∈ tr.items, x.1 = true → Kp w0 S (dropI K 0 x.2.2) w) → SqT P l.toArray Q w0 S K l tr a w →
      (∀ fuel, tr.len ≤ fuel → treeOk .any l.toArray tr none listed = true → wpAnyL P .any l.toArray Q (relOf w0 S K pl0) fuel listed a w) ∧
      (∀ fuel al i ds r, tr = .cons (false, i, ds) r → r.len ≤ fuel → treeOk .any l.toArray tr (some al) listed = true → wpOp P l.toArray Q i (fun a' w' => relOf w0 S K pl0 i w w' ∧ wpAnyL P .any l.toArray Q (relOf w0 S K pl0) fuel (listed.setIfInBounds i true) a' w') a w) := by
  have huniq : ∀ x ∈ pl0, ∀ y ∈ pl0, x.2.1 = y.2.1 → x.2.1 < l.toArray.size → x = y := by
    intro x hx y hy e hlt
    simp only [onceOk, List.all_eq_true, List.mem_range, beq_iff_eq] at h1
    have h := h1 x.2.1 hlt
    obtain ⟨z, hz⟩ := List.length_eq_one_iff.1 h
    have e1 : x ∈ pl0.filter fun q => Nat.beq q.2.1 x.2.1 := List.mem_filter.2 ⟨hx, by simp⟩
    have e2 : y ∈ pl0.filter fun q => Nat.beq q.2.1 x.2.1 := List.mem_filter.2 ⟨hy, by simp [e]⟩
    rw [hz] at e1 e2
    rw [List.mem_singleton.1 e1, List.mem_singleton.1 e2]
  have hkeep : ∀ x ∈ pl0, x.1 = true → ∀ y ∈ pl0, y.1 = false → anc .any l.toArray 60 x.2.1 y.2.1 = false → ∀ w, Kp w0 S (dropI K 0 y.2.2) w → Kp w0 S (dropI K 0 x.2.2) w := by
    intro x hx hxs y hy hys ha w hw
    simp only [keepOk, List.all_eq_true] at hk
    have h := hk x hx
    simp only [hxs, Bool.not_true, Bool.false_or, List.all_eq_true] at h
    have h := h y hy
    simp only [hys, ha, Bool.false_or, Bool.or_false, Bool.or_eq_true, List.isEmpty_iff, List.all_eq_true] at h
    refine ⟨fun p hp => hw.1 p (dropI_mono K 0 _ _ ?_ p hp), hw.2⟩
    intro k hk2
    rcases h with h | h
    · rw [h] at hk2; simp at hk2
    · obtain ⟨q, hq, hq2⟩ := List.any_eq_true.1 hk2
      have := Nat.eq_of_beq_eq_true hq2
      subst this
      exact h k hq
  intro tr
  induction tr with
  | nil =>
    intro listed a w _ _ _ h
    refine ⟨fun fuel _ hp => ?_, fun fuel al i ds r e => by cases e⟩
    simp only [treeOk, List.isEmpty_iff] at hp
    cases fuel with
    | zero => exact ⟨hp, h⟩
    | succ fuel => exact ⟨fun _ => h, by rw [hp]; simp⟩
  | cons x r ih =>
    obtain ⟨b, i, ds⟩ := x
    intro listed a w hsub hc hS h
    have hmem : (b, i, ds) ∈ pl0 := hsub _ (by simp [PT.items])
    cases b with
    | true =>
      refine ⟨fun fuel hl hp => ?_, fun fuel al i ds r e => by cases e⟩
      cases fuel with
      | zero => simp [PT.len] at hl
      | succ fuel =>
        simp only [treeOk, Bool.and_eq_true] at hp
        obtain ⟨⟨⟨p1, p2⟩, p3⟩, p4⟩ := hp
        obtain ⟨o, ho⟩ := Option.isSome_iff_exists.1 p1
        have hlt := (Array.getElem?_eq_some_iff.1 ho).1
        have hn : nth l i = o := nth_get l i o (by simpa using ho)
        simp only [SqT, hn] at h
        obtain ⟨v, hy, h⟩ := h
        have hrd : i ∈ Region.ready .any l.toArray listed := by simpa using p3
        have hS' : ∀ x ∈ r.items, x.1 = true → Kp w0 S (dropI K 0 x.2.2) w := fun x hx hxs => hS x (by simp [PT.items, hx]) hxs
        refine wpAnyL_first (B := Kp w0 S (dropI K 0 ds)) 60 ho (Region.noSelect_spec hsel) (fun c a w hq => hQ _ _ _ _ _ hq) ?_ ?_ fuel listed a w hc (Region.free_spec ho p2) hrd hy (hS (true, i, ds) (by simp [PT.items]) rfl)
          ((ih _ _ _ (fun x hx => hsub x (by simp [PT.items, hx])) (closed_set hc hrd) hS' h).1 fuel (by simpa [PT.len] using hl) p4)
        · intro j w w' hji hjl hanc hB hR
          simp only [onceOk, List.all_eq_true, List.mem_range, beq_iff_eq] at h1
          have hj := h1 j hjl
          obtain ⟨z, hz⟩ := List.length_eq_one_iff.1 hj
          have hzm : z ∈ pl0.filter fun q => Nat.beq q.2.1 j := by rw [hz]; simp
          obtain ⟨hz1, hz2⟩ := List.mem_filter.1 hzm
          have hz2 := Nat.eq_of_beq_eq_true hz2
          have := hR z hz1 hz2
          cases hzb : z.1 with
          | true => rw [if_pos hzb] at this; rw [this]; exact hB
          | false =>
            rw [if_neg (by simp [hzb])] at this
            exact hkeep _ hmem rfl z hz1 hzb (by rw [hz2]; exact hanc) w' this
        · intro w x hx e
          have := huniq x hx _ hmem e (by rw [e]; exact hlt)
          rw [this]; simp
    | false =>
      -- the step itself, whatever else is ready
      have step0 : ∀ fuel, r.len ≤ fuel → (l.toArray[i]?).isSome = true → i ∈ Region.ready .any l.toArray listed → treeOk .any l.toArray r none (listed.setIfInBounds i true) = true →
          wpOp P l.toArray Q i (fun a' w' => relOf w0 S K pl0 i w w' ∧ wpAnyL P .any l.toArray Q (relOf w0 S K pl0) fuel (listed.setIfInBounds i true) a' w') a w := by
        intro fuel hl p1 hrd p4
        obtain ⟨o, ho⟩ := Option.isSome_iff_exists.1 p1
        have hlt := (Array.getElem?_eq_some_iff.1 ho).1
        have hn : nth l i = o := nth_get l i o (by simpa using ho)
        simp only [SqT, hn] at h
        have step : ∀ a' w', Kp w0 S (dropI K 0 ds) w' → SqT P l.toArray Q w0 S K l r a' w' → relOf w0 S K pl0 i w w' ∧ wpAnyL P .any l.toArray Q (relOf w0 S K pl0) fuel (listed.setIfInBounds i true) a' w' := by
          intro a' w' k1 k2
          refine ⟨fun x hx e => ?_, (ih _ a' w' (fun x hx => hsub x (by simp [PT.items, hx])) (closed_set hc hrd) (fun x hx hxs => ?_) k2).1 fuel hl p4⟩
          · have := huniq x hx _ hmem e (by rw [e]; exact hlt)
            rw [this]; simpa using k1
          · refine hkeep x (hsub x (by simp [PT.items, hx])) hxs _ hmem rfl ?_ w' k1
            cases ha : anc .any l.toArray 60 x.2.1 i with
            | false => rfl
            | true =>
              exfalso
              obtain ⟨hun, o', ho', hall⟩ := mem_ready.1 hrd
              have hoj' : l.toArray.getD i default = o' := by simp [Array.getD_eq_getD_getElem?] at ho' ⊢; simp [ho']
              have hli := anc_listed hc 60 i (by rw [hoj']; exact hall) ha
              have hx0 := tree_unlisted r none _ p4 x hx
              by_cases e : i = x.2.1
              · rw [← e] at hli
                have := getD_false_true hun
                rw [hli] at this; cases this
              · rw [getD_set_ne false e, hli] at hx0; cases hx0
        unfold wpOp
        rw [ho]
        unfold Hs at h
        simp only
        split
        · rename_i hw
          rw [if_pos hw] at h
          exact h.imp (Oper.wp_mono fun a w ⟨k1, k2⟩ => step a w k1 k2) id
        · rename_i hw
          rw [if_neg hw] at h
          exact step _ _ h.1 h.2
      refine ⟨fun fuel hl hp => ?_, fun fuel al i' ds' r' e hl hp => ?_⟩
      · cases fuel with
        | zero => simp [PT.len] at hl
        | succ fuel =>
          simp only [treeOk, Bool.and_eq_true, beq_iff_eq] at hp
          obtain ⟨⟨p1, p2⟩, p4⟩ := hp
          refine ⟨fun h0 => absurd (p2 ▸ h0) (by simp), fun j hj => ?_⟩
          rw [p2] at hj
          obtain rfl : j = i := by simpa using hj
          exact step0 fuel (by simpa [PT.len] using hl) p1 (by rw [p2]; simp) p4
      · cases e
        simp only [treeOk, Bool.and_eq_true, beq_iff_eq] at hp
        obtain ⟨⟨⟨p1, p2⟩, p3⟩, p4⟩ := hp
        exact step0 fuel hl p1 (by rw [p2]; simpa using p3) p4
  | fork t u iht ihu =>
    intro listed a w hsub hc hS h
    refine ⟨fun fuel hl hp => ?_, fun fuel al i ds r e => by cases e⟩
    simp only [treeOk, Bool.and_eq_true, beq_iff_eq] at hp
    obtain ⟨⟨p1, p2⟩, p3⟩ := hp
    have ht := (iht listed a w (fun x hx => hsub x (by simp [PT.items, hx])) hc (fun x hx => hS x (by simp [PT.items, hx])) h.1).2
    have hu := (ihu listed a w (fun x hx => hsub x (by simp [PT.items, hx])) hc (fun x hx => hS x (by simp [PT.items, hx])) h.2).2
    have shape : ∀ (t : PT) (al : List Nat), treeOk .any l.toArray t (some al) listed = true → ∃ i ds r, t = .cons (false, i, ds) r ∧ t.head = i ∧ r.len + 1 = t.len := by
      intro t al ht
      match t, ht with
      | .cons (false, i, ds) r, _ => exact ⟨i, ds, r, rfl, rfl, rfl⟩
      | .cons (true, i, ds) r, ht => simp [treeOk] at ht
      | .nil, ht => simp [treeOk] at ht
      | .fork _ _, ht => simp [treeOk] at ht
      | .fork3 _ _ _, ht => simp [treeOk] at ht
    obtain ⟨i, di, ri, et, hi, li⟩ := shape t _ p2
    obtain ⟨j, dj, rj, eu, hj, lj⟩ := shape u _ p3
    simp only [PT.len] at hl
    cases fuel with
    | zero => omega
    | succ fuel =>
      rw [hi, hj] at p1 p2 p3
      refine ⟨fun h0 => absurd (p1 ▸ h0) (by simp), fun k hk => ?_⟩
      rw [p1] at hk
      simp only [List.mem_cons, List.not_mem_nil, or_false] at hk
      rcases hk with rfl | rfl
      · exact ht fuel _ _ _ _ et (by omega) p2
      · exact hu fuel _ _ _ _ eu (by omega) p3
  | fork3 t u v iht ihu ihv =>
    intro listed a w hsub hc hS h
    refine ⟨fun fuel hl hp => ?_, fun fuel al i ds r e => by cases e⟩
    simp only [treeOk, Bool.and_eq_true, beq_iff_eq] at hp
    obtain ⟨⟨⟨p1, p2⟩, p3⟩, p4⟩ := hp
    have ht := (iht listed a w (fun x hx => hsub x (by simp [PT.items, hx])) hc (fun x hx => hS x (by simp [PT.items, hx])) h.1).2
    have hu := (ihu listed a w (fun x hx => hsub x (by simp [PT.items, hx])) hc (fun x hx => hS x (by simp [PT.items, hx])) h.2.1).2
    have hv := (ihv listed a w (fun x hx => hsub x (by simp [PT.items, hx])) hc (fun x hx => hS x (by simp [PT.items, hx])) h.2.2).2
    have shape : ∀ (t : PT) (al : List Nat), treeOk .any l.toArray t (some al) listed = true → ∃ i ds r, t = .cons (false, i, ds) r ∧ t.head = i ∧ r.len + 1 = t.len := by
      intro t al ht
      match t, ht with
      | .cons (false, i, ds) r, _ => exact ⟨i, ds, r, rfl, rfl, rfl⟩
      | .cons (true, i, ds) r, ht => simp [treeOk] at ht
      | .nil, ht => simp [treeOk] at ht
      | .fork _ _, ht => simp [treeOk] at ht
      | .fork3 _ _ _, ht => simp [treeOk] at ht
    obtain ⟨i, di, ri, et, hi, li⟩ := shape t _ p2
    obtain ⟨j, dj, rj, eu, hj, lj⟩ := shape u _ p3
    obtain ⟨z, dz, rz, ev, hz, lz⟩ := shape v _ p4
    simp only [PT.len] at hl
    cases fuel with
    | zero => omega
    | succ fuel =>
      rw [hi, hj, hz] at p1 p2 p3 p4
      refine ⟨fun h0 => absurd (p1 ▸ h0) (by simp), fun k hk => ?_⟩
      rw [p1] at hk
      simp only [List.mem_cons, List.not_mem_nil, or_false] at hk
      rcases hk with rfl | rfl | rfl
      · exact ht fuel _ _ _ _ et (by omega) p2
      · exact hu fuel _ _ _ _ eu (by omega) p3
      · exact hv fuel _ _ _ _ ev (by omega) p4
theorem reg_tree {P : Program} {id : Nat} {l : List Oper} {Q : Exit → Act → World → Prop} {a : Act} {w w0 : World} {S : Nat → Prop} {L : Blocks} (pl0 : Plan) (tr : PT) (hm : P.follows .mixedOrders = true)
    (hsel : Region.noSelect l.toArray = true) (hlen : Nat.ble tr.len l.toArray.size = true) (hp : treeOk .any l.toArray tr none (Array.replicate l.toArray.size false) = true) (hsub : (tr.items.all fun x => pl0.contains x) = true) (hk : keepOk .any l.toArray pl0 = true) (h1 : onceOk l.toArray.size pl0 = true) (hQ : Steady Q)
    (hH : Hp w0 S L w) (h : SqT P l.toArray Q w0 S L l tr a w.drew) : (Code.region id l.toArray true).wp P Q a w :=
  wp_region_any hm (wpAny_of_L _ _ _ _ ((wpAnyL_of_tree (pl0 := pl0) hsel hQ hk h1 tr _ _ _ (fun x hx => by
    have := List.all_eq_true.1 hsub x hx
    simpa using this) (fun k hk => by
    have : (Array.replicate l.toArray.size false).getD k false = false := by rw [Array.getD_eq_getD_getElem?, Array.getElem?_replicate]; split <;> rfl
    rw [this] at hk; cases hk) (fun x _ _ => hH.drew.kpDrop 0 x.2.2) h).1 _ (by simpa [Nat.ble_eq] using hlen) hp))
end Go.Sym
