/- Rules of symbolic execution over any program of the model, that the claims of this folder use; part SymNames. Conditions: those that each rule names. -/
import Derived.Test.YtkhcbllphdhbdaaSymSeal2
import Derived.Test.YtkhcbllphdhbdaaSymLaws
namespace Go.Sym
open Go
/-! ### the terms of a chain of seals -/
def tsF (n : Nat) : List Tm := rootT :: List.replicate n freshT
theorem tsF_succ (n : Nat) : tsF (n + 1) = tsF n ++ [freshT] := by
  simp [tsF, List.replicate_succ']
theorem tsF_len (n : Nat) : (tsF n).length = n + 1 := by simp [tsF]
def hsF (n : Nat) : List (List UInt8) := (List.range n).map fun j => nm (j + 1)
theorem hsF_succ (n : Nat) : hsF (n + 1) = hsF n ++ [nm (n + 1)] := by simp [hsF, List.range_succ]
theorem hsF_len (n : Nat) : (hsF n).length = n := by simp [hsF]
theorem hsF_at {n j : Nat} (h : j < n) : (hsF n)[j]? = some (nm (j + 1)) := by simp [hsF, h]
theorem hsF_16 (n : Nat) : ∀ h ∈ hsF n, h.length = 16 := by
  intro h hh
  simp only [hsF, List.mem_map] at hh
  obtain ⟨j, _, rfl⟩ := hh
  exact nm_len _
def selF (lb : List UInt8) (j : Nat) : Tm := selT (j + 1) (j : Int) (strOf []) (strOf (lb ++ nm (j + 2)))
def slsF (lb : List UInt8) (i : Nat) : List Tm := (List.range i).map (selF lb)
theorem slsF_succ (lb : List UInt8) (i : Nat) : slsF lb (i + 1) = slsF lb i ++ [selF lb i] := by simp [slsF, List.range_succ]
theorem slsF_len (lb : List UInt8) (i : Nat) : (slsF lb i).length = i := by simp [slsF]
def csF (lb : List UInt8) (N i : Nat) : List (List UInt8) := (List.range i).map fun j => List.replicate (lb.length + 16) 0 ++ nm (N + 1 + j)
theorem csF_succ (lb : List UInt8) (N i : Nat) : csF lb N (i + 1) = csF lb N i ++ [List.replicate (lb.length + 16) 0 ++ nm (N + 1 + i)] := by simp [csF, List.range_succ]
theorem csF_len (lb : List UInt8) (N i : Nat) : (csF lb N i).length = i := by simp [csF]
theorem tsF_at {n j : Nat} {t : Tm} (h : (tsF n)[j]? = some t) : (j = 0 ∧ t = rootT) ∨ (1 ≤ j ∧ j ≤ n ∧ t = freshT) := by
  have hl := (List.getElem?_eq_some_iff.1 h).1
  rw [tsF_len] at hl
  cases j with
  | zero => simp [tsF] at h; exact .inl ⟨rfl, h.symm⟩
  | succ j =>
    simp only [tsF, List.getElem?_cons_succ] at h
    rw [List.getElem?_replicate] at h
    split at h
    · cases h; exact .inr ⟨by omega, by omega, rfl⟩
    · cases h
theorem all_at {lb : List UInt8} {N i j : Nat} {t : Tm} (h : (tsF N ++ slsF lb i)[j]? = some t) : (j = 0 ∧ t = rootT) ∨ (1 ≤ j ∧ j ≤ N ∧ t = freshT) ∨ ∃ q, q < i ∧ j = N + 1 + q ∧ t = selF lb q := by
  rw [List.getElem?_append] at h
  split at h
  · rcases tsF_at h with h | h
    · exact .inl h
    · exact .inr (.inl h)
  · rename_i hn
    rw [tsF_len] at hn h
    have hl := (List.getElem?_eq_some_iff.1 h).1
    rw [slsF_len] at hl
    refine .inr (.inr ⟨j - (N + 1), hl, by omega, ?_⟩)
    simp only [slsF, List.getElem?_map, List.getElem?_range hl, Option.map_some, Option.some.injEq] at h
    exact h.symm
theorem sel_at {lb : List UInt8} {N i q : Nat} (h : q < i) : (tsF N ++ slsF lb i)[N + 1 + q]? = some (selF lb q) := by
  rw [List.getElem?_append_right (by rw [tsF_len]; omega), tsF_len, show N + 1 + q - (N + 1) = q by omega]
  simp [slsF, h]
theorem selF_notin {lb : List UInt8} {N i : Nat} : selF lb i ∉ tsF N ++ slsF lb i := by
  intro h
  obtain ⟨j, hj⟩ := List.getElem?_of_mem h
  rcases all_at hj with ⟨_, e⟩ | ⟨_, _, e⟩ | ⟨q, hq, _, e⟩
  · have := congrArg Tm.kind e; exact absurd this (by show ¬ ((6 : Int) = 0); decide)
  · have := congrArg Tm.kind e; exact absurd this (by show ¬ ((6 : Int) = 1); decide)
  · have := congrArg Tm.number e
    have : (i : Int) = (q : Int) := this
    omega
theorem wf_all (lb : List UInt8) (N i : Nat) (hi : i ≤ N) (hl : lb.length ≤ 1099511627000) : Wf6 (tsF N ++ slsF lb i) := by
  have hlen : (tsF N ++ slsF lb i).length = N + 1 + i := by rw [List.length_append, tsF_len, slsF_len]
  refine ⟨fun j t h => ?_, fun j t h => ?_, fun j t h => ?_⟩ <;> rcases all_at h with ⟨_, rfl⟩ | ⟨_, _, rfl⟩ | ⟨q, hq, _, rfl⟩
  · rw [hlen]; show (0 : Int) ≤ 0 ∧ (0 : Int) < _; omega
  · rw [hlen]; show (0 : Int) ≤ 0 ∧ (0 : Int) < _; omega
  · rw [hlen]; show (0 : Int) ≤ ((q + 1 : Nat) : Int) ∧ ((q + 1 : Nat) : Int) < _; omega
  · rw [hlen]; show (0 : Int) ≤ 0 ∧ (0 : Int) < _; omega
  · rw [hlen]; show (0 : Int) ≤ 0 ∧ (0 : Int) < _; omega
  · rw [hlen]; show (0 : Int) ≤ 0 ∧ (0 : Int) < _; omega
  · decide
  · decide
  · show (lb ++ nm (q + 2)).length ≤ _
    rw [List.length_append, nm_len]; omega
theorem byt_sel (lb : List UInt8) (q : Nat) : byt (selF lb q) = lb ++ nm (q + 2) := rfl
set_option maxRecDepth 100000 in
theorem nm_first : ∀ j, j < 18 → 1 ≤ j → (nmB j 0 == 0) = false := by decide +kernel
theorem nm_head {j : Nat} (h1 : 1 ≤ j) (h2 : j < 18) (l : List UInt8) (h : nm j = 0 :: l) : False := by
  have h3 := nm_first j h2 h1
  simp only [nm, List.cons.injEq] at h
  rw [h.1] at h3
  cases h3
/-- no name of a fresh term lies in a sealed text -/
theorem no_name {lb : List UInt8} {j s : Nat} (h1 : 1 ≤ j) (h2 : j < 18) (hs : s ≤ 1000) (h : HasN (List.replicate (lb.length + 16) 0 ++ nm s) j) : j = s := by
  obtain ⟨z, hz, e⟩ := h
  rw [List.length_append, List.length_replicate, nm_len] at hz
  by_cases hq : z = lb.length + 16
  · subst hq
    rw [List.drop_append_of_le_length (by simp), List.drop_of_length_le (by simp), List.nil_append, List.take_of_length_le (by rw [nm_len]; omega)] at e
    exact nm_inj (by omega) (by omega) e.symm
  · exfalso
    have h0 : (((List.replicate (lb.length + 16) (0 : UInt8) ++ nm s).drop z).take 16)[0]? = some 0 := by
      rw [List.getElem?_take]
      simp only [Nat.zero_lt_succ, if_true, List.getElem?_drop, Nat.add_zero]
      rw [List.getElem?_append_left (by simp; omega), List.getElem?_replicate]
      rw [if_pos (by omega)]
    rw [e] at h0
    have h3 := nm_first j h2 h1
    simp only [nm, List.getElem?_cons_zero, Option.some.injEq] at h0
    rw [h0] at h3
    cases h3
theorem rch_no {lb : List UInt8} {N i j : Nat} {t : Tm} {C : Nat → Prop} (h : (tsF N ++ slsF lb i)[j]? = some t) : ¬ Rch C t := by
  rcases all_at h with ⟨_, rfl⟩ | ⟨_, _, rfl⟩ | ⟨q, _, _, rfl⟩ <;> simp [Rch, rootT, freshT, selF, selT]
theorem csF_mem {lb : List UInt8} {N i : Nat} {l : List UInt8} (h : l ∈ csF lb N i) : ∃ q, q < i ∧ l = List.replicate (lb.length + 16) 0 ++ nm (N + 1 + q) := by
  simp only [csF, List.mem_map, List.mem_range] at h
  obtain ⟨q, hq, rfl⟩ := h
  exact ⟨q, hq, rfl⟩
theorem csF_at {lb : List UInt8} {N i q : Nat} (h : q < i) : List.replicate (lb.length + 16) 0 ++ nm (N + 1 + q) ∈ csF lb N i := by
  simp only [csF, List.mem_map, List.mem_range]
  exact ⟨q, h, rfl⟩
/-- who sees the sealed texts alone knows them, and the root -/
theorem clos_seals {lb : List UInt8} {N i : Nat} (hN : N < 18) (hi : i < N) : Clos6 (tsF N ++ slsF lb i) (csF lb N i) (fun j => j = 0 ∨ N + 1 ≤ j) := by
  refine ⟨.inl rfl, fun l hl j hj hn => ?_, fun j t ht hr => absurd hr (rch_no ht), fun j t ht h6 _ ha => ?_⟩
  · obtain ⟨q, hq, rfl⟩ := csF_mem hl
    rcases (by omega : j = 0 ∨ (1 ≤ j ∧ j < 18) ∨ 18 ≤ j) with h | ⟨h1, h2⟩ | h
    · exact .inl h
    · rw [no_name h1 h2 (by omega) hn]; exact .inr (by omega)
    · exact .inr (by omega)
  · rcases all_at ht with ⟨_, rfl⟩ | ⟨_, _, rfl⟩ | ⟨q, hq, _, rfl⟩
    · exact absurd h6 (by decide)
    · exact absurd h6 (by decide)
    · have : ((q + 1 : Nat) : Int).toNat = 0 ∨ N + 1 ≤ ((q + 1 : Nat) : Int).toNat := ha
      omega
theorem spL_len {ts : List Tm} {K : List Bool} {A : Nat} : ∀ (n : Nat), (∀ j, j < A → sp1 ts K j = []) → (∀ j, A ≤ j → j < A + n → ∃ x, sp1 ts K j = [x]) → (spL ts K (A + n)).length = n
  | 0, h, _ => by
    have : ∀ m, m ≤ A → spL ts K m = [] := by
      intro m
      induction m with
      | zero => intro _; rfl
      | succ m ih => intro hm; rw [spL_succ, ih (by omega), h m (by omega)]; rfl
    rw [Nat.add_zero, this A (Nat.le_refl _)]; rfl
  | n + 1, h, k => by
    obtain ⟨x, hx⟩ := k (A + n) (by omega) (by omega)
    rw [← Nat.add_assoc, spL_succ, List.length_append, spL_len n h (fun j h1 h2 => k j h1 (by omega)), hx]; rfl
theorem spL_nil {ts : List Tm} {K : List Bool} : ∀ (n : Nat), (∀ j, j < n → sp1 ts K j = []) → spL ts K n = []
  | 0, _ => rfl
  | n + 1, h => by rw [spL_succ, spL_nil n (fun j hj => h j (by omega)), h n (by omega)]; rfl
theorem sp1_low {lb : List UInt8} {N i j : Nat} {K : List Bool} (h : j < N + 1) : sp1 (tsF N ++ slsF lb i) K j = [] := by
  unfold sp1
  cases ht : (tsF N ++ slsF lb i)[j]? with
  | none => rfl
  | some t =>
    rcases all_at ht with ⟨_, rfl⟩ | ⟨_, _, rfl⟩ | ⟨q, _, rfl, _⟩
    · exact if_neg (fun h => absurd h.1 (by decide))
    · exact if_neg (fun h => absurd h.1 (by decide))
    · omega
/-- from the first name all are known -/
theorem chain_all {lb : List UInt8} {N i : Nat} {K : List Bool} (hi : i + 1 = N) (hk : Knows6 (tsF N ++ slsF lb i) (csF lb N i ++ [nm 1]) K) : ∀ q, q < N → KT K (q + 1) := by
  have hlen : (tsF N ++ slsF lb i).length = N + 1 + i := by rw [List.length_append, tsF_len, slsF_len]
  intro q
  induction q with
  | zero => intro h; exact hk.clos.seen (nm 1) (by simp) 1 (by rw [hlen]; omega) ⟨0, by rw [nm_len]; omega, by rw [List.drop_zero, List.take_of_length_le (by rw [nm_len]; omega)]⟩
  | succ q ih =>
    intro h
    have h1 := ih (by omega)
    have hs : KT K (N + 1 + q) := hk.clos.seen _ (List.mem_append_left _ (csF_at (by omega : q < i))) _ (by rw [hlen]; omega) ⟨lb.length + 16, by rw [List.length_append, List.length_replicate, nm_len]; omega, by rw [List.drop_append_of_le_length (by simp), List.drop_of_length_le (by simp), List.nil_append, List.take_of_length_le (by rw [nm_len]; omega)]⟩
    exact hk.clos.opn _ _ (sel_at (by omega : q < i)) rfl hs (by show KT K ((q + 1 : Nat) : Int).toNat; rw [Int.toNat_natCast]; exact h1) (q + 2) (by rw [hlen]; omega) ⟨lb.length, by rw [byt_sel, List.length_append, nm_len]; omega, by rw [byt_sel, List.drop_append_of_le_length (Nat.le_refl _), List.drop_of_length_le (Nat.le_refl _), List.nil_append, List.take_of_length_le (by rw [nm_len]; omega)]⟩
theorem spied_all {lb : List UInt8} {N i : Nat} {K : List Bool} (hi : i + 1 = N) (hk : Knows6 (tsF N ++ slsF lb i) (csF lb N i ++ [nm 1]) K) : (spL (tsF N ++ slsF lb i) K (tsF N ++ slsF lb i).length).length = i := by
  have hlen : (tsF N ++ slsF lb i).length = N + 1 + i := by rw [List.length_append, tsF_len, slsF_len]
  rw [hlen]
  refine spL_len i (fun j hj => sp1_low hj) (fun j h1 h2 => ?_)
  obtain ⟨q, rfl⟩ : ∃ q, j = N + 1 + q := ⟨j - (N + 1), by omega⟩
  have hs : KT K (N + 1 + q) := hk.clos.seen _ (List.mem_append_left _ (csF_at (by omega : q < i))) _ (by rw [hlen]; omega) ⟨lb.length + 16, by rw [List.length_append, List.length_replicate, nm_len]; omega, by rw [List.drop_append_of_le_length (by simp), List.drop_of_length_le (by simp), List.nil_append, List.take_of_length_le (by rw [nm_len]; omega)]⟩
  refine ⟨byt (selF lb q), ?_⟩
  unfold sp1
  rw [sel_at (by omega : q < i)]
  exact if_pos ⟨rfl, hs, by show KT K ((q + 1 : Nat) : Int).toNat; rw [Int.toNat_natCast]; exact chain_all hi hk q (by omega)⟩
theorem spied_none {lb : List UInt8} {N i : Nat} {K : List Bool} (hN : N < 18) (hi : i < N) (hk : Knows6 (tsF N ++ slsF lb i) (csF lb N i) K) : spL (tsF N ++ slsF lb i) K (tsF N ++ slsF lb i).length = [] := by
  refine spL_nil _ (fun j hj => ?_)
  unfold sp1
  cases ht : (tsF N ++ slsF lb i)[j]? with
  | none => rfl
  | some t =>
    refine if_neg (fun h => ?_)
    rcases all_at ht with ⟨_, rfl⟩ | ⟨_, _, rfl⟩ | ⟨q, hq, _, rfl⟩
    · exact absurd h.1 (by decide)
    · exact absurd h.1 (by decide)
    · have := hk.least _ (clos_seals hN hi) _ h.2.2
      have : ((q + 1 : Nat) : Int).toNat = 0 ∨ N + 1 ≤ ((q + 1 : Nat) : Int).toNat := this
      omega
theorem seenG {w0 w : World} {S : Nat → Prop} {L : Blocks} {tb tcap e : Nat} {tl tl9 : List Value} {cs : List (List UInt8)} (hH : Hp w0 S L w) (hi : In tb (.cells tl9.toArray e (0, 0)) L) (hle : cs.length ≤ tcap) (ht : tl9.take cs.length = tl.take cs.length) (hl : tl9.length = tcap * 1) (hb : BL Nobody w (tl.take cs.length) cs) : SlG Nobody w (.slice (some ⟨tb, 0, none⟩) cs.length tcap) cs := SlG.block (hH.get hi) (fun h => h) rfl hle ht (by omega) hb.get
theorem SlG.of_sl {w : World} {v : Value} {vs : List Value} {m cap : Nat} {p : Option Addr} {ls : List (List UInt8)} (h : Sl 1 w v vs m p cap) (hm : ls.length = m) (hb : BL Nobody w vs ls) : SlG Nobody w v ls := ⟨vs, p, cap, fun w' k => by subst hm; exact h.ext k, hb.get⟩
theorem Todo.val {B e : Nat} {F : Nat → Prop} {w : World} {v : Value} {ls : List (List UInt8)} (h : Todo B e F w v ls) : ∃ p c, v = .slice p ls.length c := by
  rcases h with ⟨rfl, rfl⟩ | ⟨b, cap, l, rfl, _⟩
  · exact ⟨_, _, rfl⟩
  · exact ⟨_, _, rfl⟩
theorem hasN_self (n : Nat) : HasN (nm n) n := ⟨0, by rw [nm_len]; omega, by rw [List.drop_zero, List.take_of_length_le (by rw [nm_len]; omega)]⟩
section
variable {P : Program} {ops : Array Oper} {Q : Exit → Act → World → Prop} {rest : List Item} {a : Act} {w w0 : World} {n : Nat} {R : Rg} {ds : List Deferred} {S : Nat → Prop} {L K : Blocks}
variable {f : Bool} {d : Nat} {ty : TypeId} {pos : String} {af : Array Edge}
theorem r_and15b {t yt : TypeId} {x : Operand} {m : Int} (hS : StD ds n R a) (hSw : Sf f (Kp w0 S K) w) (hx : ev R x = some (.int .i64 m)) (hlt : Nat.blt d n = true)
    (k : ∀ a' (e : Nat), e ≤ 15 → StD ds n (up R d (.int .i64 (e : Int))) a' → Sq P ops Q rest a' w) : Sq P ops Q ((f, ⟨some d, .binOp .and t x (.const (.int .i64 15)) yt, ty, pos, af, none⟩, Kp w0 S K) :: rest) a w := by
  refine r_and hS hSw hx rfl hlt (fun a' h => ?_)
  have h1 : (BitVec.ofInt 64 m &&& BitVec.ofInt 64 15).toNat ≤ 15 := by
    rw [BitVec.toNat_and]
    exact Nat.le_trans Nat.and_le_right (by decide)
  refine k a' (BitVec.ofInt 64 m &&& BitVec.ofInt 64 15).toNat h1 ?_
  have h2 : IntKind.i64.wrap (((BitVec.ofInt 64 m &&& BitVec.ofInt 64 15).toNat : Nat) : Int) = (((BitVec.ofInt 64 m &&& BitVec.ofInt 64 15).toNat : Nat) : Int) := wrap_i64 (by omega)
  first
    | exact h
    | (rw [← h2]; exact h)
/-- append, where the row that was must stay known -/
theorem r_append_keep {t t2 e es by' : Nat} {x y : Operand} {b m cap k : Nat} {vy : Value} {l new : List Value} {L' : List Value → Blocks} (hS : StD ds n R a) (hH : Hp w0 S L w) (hx : ev R x = some (.slice (some ⟨b, 0, none⟩) m cap)) (hy : ev R y = some vy)
    (hi : ∀ l1 : List Value, Put b (.cells l.toArray e (0, 0)) (.cells l1.toArray e (0, 0)) L (L' l1)) (hs : ∀ l1, Sub K (L' l1)) (he : elB P t = some (e, es, by')) (h2 : notInt P t2 = true) (hl : l.length = cap * es) (hm : m ≤ cap) (hsrc : Src P es w vy k new) (hbytes : (m + k) * by' ≤ 140737488355328) (hw : S b ∨ w0.heap.size ≤ b) (hlt : Nat.blt d n = true)
    (kk : ∀ (a' : Act) (w' : World) (b' c : Nat) (l1 : List Value), Sl es w' (.slice (some ⟨b', 0, none⟩) (m + k) c) (l.take (m * es) ++ new) (m + k) (some ⟨b', 0, none⟩) c → l1.take (m * es) = l.take (m * es) → l1.length = l.length → Mod (· = b) w w' → StD ds n (up R d (.slice (some ⟨b', 0, none⟩) (m + k) c)) a' → Hp w0 S (L' l1) w' → Sq P ops Q rest a' w') :
    Sq P ops Q ((false, ⟨some d, .call ⟨.builtin .append, #[x, y], #[t, t2]⟩, ty, pos, af, none⟩, Kp w0 S K) :: rest) a w := by
  have hb := hH.blk _ (hi []).old
  have hle : m * es ≤ l.length := by rw [hl]; exact Nat.mul_le_mul_right _ hm
  have key : ∃ (w' : World) (b' c : Nat) (l1 : List Value), (Builtin.append_ #[t, t2] ty #[.slice (some ⟨b, 0, none⟩) m cap, vy]).run P w = .ok (.slice (some ⟨b', 0, none⟩) (m + k) c) w' ∧ Mod (· = b) w w' ∧ Sl es w' (.slice (some ⟨b', 0, none⟩) (m + k) c) (l.take (m * es) ++ new) (m + k) (some ⟨b', 0, none⟩) c ∧ w'.heap[b]? = some (.cells l1.toArray e (0, 0)) ∧ l1.take (m * es) = l.take (m * es) ∧ l1.length = l.length := by
    by_cases hroom : m + k ≤ cap
    · have hfit : 0 + m * es + new.length ≤ l.length := by rw [hsrc.size, Nat.zero_add, ← Nat.add_mul, hl]; exact Nat.mul_le_mul_right _ hroom
      obtain ⟨w', hr, hq⟩ := run_append_room' (P := P) (ty := ty) he h2 hsrc hb hroom hfit
      have htk := wr_take (r := new) (l := l) (o := 0 + m * es) hfit
      rw [Nat.zero_add, hsrc.size, ← Nat.add_mul] at htk
      have hq1 := hq.here
      rw [Nat.zero_add] at hq1
      have hlen : (wr l (m * es) new).length = cap * es := by rw [wr_length, hl]
      have hle2 : (m + k) * es ≤ (wr l (m * es) new).length := by rw [hlen]; exact Nat.mul_le_mul_right _ hroom
      refine ⟨w', b, cap, _, hr, hq.mod, ?_, hq1, ?_, by rw [hlen, hl]⟩
      · have := Sl.of_block (es := es) (m := m + k) (cap := cap) hq1 hle2 hroom
        rw [htk] at this
        exact this
      · have h9 := congrArg (List.take (m * es)) htk
        rw [List.take_take, Nat.min_eq_left (Nat.mul_le_mul_right _ (Nat.le_add_right m k))] at h9
        rw [h9, List.take_append_of_le_length (by rw [List.length_take]; omega), List.take_take, Nat.min_self]
    · have hold := Sl.of_block (m := m) (cap := cap) hb hle hm
      obtain ⟨c, zs, hr, hc, hlen⟩ := run_append_grow' (P := P) (ty := ty) he h2 hsrc hold (by omega) hbytes
      have hE : Ext w (w.drew.alloc (.cells (l.take (m * es) ++ new ++ zs).toArray e (0, 0))) := (Ext.drew w).trans (Ext.alloc w.drew _)
      refine ⟨_, w.heap.size, c, l, hr, hE.mono (fun _ h => h.elim), ?_, hE.heap_some hb, rfl, rfl⟩
      have hlt : (l.take (m * es) ++ new).length = (m + k) * es := by rw [List.length_append, hold.len, hsrc.size, ← Nat.add_mul]
      have := Sl.of_block (es := es) (m := m + k) (cap := c) (heap_alloc_new w.drew (.cells (l.take (m * es) ++ new ++ zs).toArray e (0, 0))) (by rw [hlen]; exact Nat.mul_le_mul_right _ hc) hc
      rw [show (m + k) * es = (l.take (m * es) ++ new).length from hlt.symm, List.take_left] at this
      exact this
  obtain ⟨w', b', c, l1, hr, hmod, hsl, hk1, hk2, hk3⟩ := key
  exact Sq.done rfl (run_append_op hS hx hy hr) ((hH.modPut hmod hk1 (hi l1) hw).kp (hs l1)) (kk _ w' b' c l1 hsl hk2 hk3 hmod (hS.put hlt _) (hH.modPut hmod hk1 (hi l1) hw))
end
end Go.Sym
