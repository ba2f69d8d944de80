/- HeaderSplits: any datagram is cut into the packets that the document says. Conditions: those of the given row (arguments of at most 1048576 values and letters; the listed variables hold what the text lays). Part Header6: walks and lemmas of the proof. -/
import Derived.Test.YtcenionnedgadaaDoorHeader5
namespace Go.Proofs.YtcenionnedgadaaDoor
open Go.Sym

def cutN (l : List UInt8) (ids : Int) : Nat := match readQ l ids with
  | .inl _ => l.length
  | .inr (h, p) => if h.kind ≤ 2 then p + h.len else l.length
inductive SplitR (ids : Int) : List UInt8 → List (List UInt8) → Prop
  | nil : SplitR ids [] []
  | cons (l : List UInt8) (ls : List (List UInt8)) (h : 0 < l.length) (k : SplitR ids (l.drop (cutN l ids)) ls) : SplitR ids l (l.take (cutN l ids) :: ls)
def pieces (cb : Nat) : Nat → List (List UInt8) → List Value
  | _, [] => []
  | o, p :: ps => .slice (some ⟨cb, o, none⟩) p.length p.length :: pieces cb (o + p.length) ps
theorem pieces_len (cb : Nat) : ∀ (ls : List (List UInt8)) (o : Nat), (pieces cb o ls).length = ls.length
  | [], _ => rfl
  | p :: ps, o => by simp [pieces, pieces_len cb ps]
theorem pieces_snoc (cb : Nat) : ∀ (ls : List (List UInt8)) (o : Nat) (p : List UInt8), pieces cb o (ls ++ [p]) = pieces cb o ls ++ [.slice (some ⟨cb, o + ls.flatten.length, none⟩) p.length p.length]
  | [], o, p => by simp [pieces]
  | q :: qs, o, p => by simp [pieces, pieces_snoc cb qs, Nat.add_assoc]
theorem pieces_one (cb : Nat) : ∀ (ls : List (List UInt8)) (o : Nat), ∀ u ∈ pieces cb o ls, u.oneCell' = true
  | [], _, u, h => by cases h
  | p :: ps, o, u, h => by
    rcases List.mem_cons.1 h with rfl | h
    · rfl
    · exact pieces_one cb ps _ u h
theorem hlong_end {l : List UInt8} {x0 : Nat} {ve : Int} {c : Cu} (hc : c.p ≤ l.length) (h0 : (hlongC l x0 ve c).c.bad = 0) (hk : (hlongC l x0 ve c).kind ≤ 2) : (hlongC l x0 ve c).c.p + (hlongC l x0 ve c).len ≤ l.length := by
  have tail : ∀ (kd : Int) (tok : List UInt8) (c : Cu), (tailC l kd tok c).c.bad = 0 → c.p ≤ l.length → (tailC l kd tok c).c.p + (tailC l kd tok c).len ≤ l.length := by
    intro kd tok c h hc
    obtain ⟨h1, h2⟩ := long_le (c := c) hc
    unfold tailC at h ⊢
    simp only at h ⊢
    rw [okC_p]
    generalize longC l c = z at *
    obtain ⟨n, p, b⟩ := z
    simp only at *
    obtain ⟨_, h3⟩ := ok_true h (by decide)
    have h4 := of_decide_eq_true h3
    omega
  unfold hlongC at *
  split at h0
  · rename_i hb
    rw [if_pos hb] at hk ⊢
    split at h0
    · rename_i hv
      rw [if_pos hv] at hk ⊢
      unfold versC at hk
      split at hk <;> (simp only at hk; omega)
    · rename_i hv
      rw [if_neg hv] at hk ⊢
      split at h0
      · rename_i hv1
        rw [if_pos hv1] at hk ⊢
        have hco : (okC c (x0.testBit 6) 11).p ≤ l.length := by rw [okC_p]; exact hc
        unfold knownC at *
        split at h0
        · rename_i h3
          rw [if_pos h3] at hk
          unfold retryC at hk
          split at hk
          · unfold retryC2 at hk; simp only at hk; omega
          · simp only at hk; omega
        · rename_i h3
          rw [if_neg h3] at hk ⊢
          split at h0
          · rename_i h4
            rw [if_pos h4] at hk ⊢
            unfold initC at h0 ⊢
            have hl1 := (long_le (l := l) (c := okC c (x0.testBit 6) 11) hco).1
            split at h0
            · rename_i h5
              rw [if_pos h5]
              exact tail _ _ _ h0 (bytes_le (by rw [okC_p]; exact hl1))
            · rename_i h5
              rw [if_neg h5]
              exact tail _ _ _ h0 (by rw [okC_p]; exact hl1)
          · rename_i h4
            rw [if_neg h4] at hk ⊢
            exact tail _ _ _ h0 hco
      · rename_i hv1
        rw [if_neg hv1] at hk
        simp only at hk; omega
  · rename_i hb
    exact absurd h0 hb
theorem tail_pos {l : List UInt8} {kd : Int} {tok : List UInt8} {c : Cu} (h : 1 ≤ c.p) : 1 ≤ (tailC l kd tok c).c.p := by
  have hl : 1 ≤ (longC l c).2.p := by
    unfold longC
    split
    · split
      · rename_i v p e
        have := varN_bound e
        show 1 ≤ p; omega
      · exact h
    · exact h
  unfold tailC
  simp only
  rw [okC_p]; exact hl
theorem bytes_pos {l : List UInt8} {n : Nat} {c : Cu} (h : 1 ≤ c.p) : 1 ≤ (bytesC l n c).2.p := by
  unfold bytesC
  split
  · split
    · show 1 ≤ c.p + n; omega
    · exact h
  · exact h
theorem num_pos {l : List UInt8} {n : Nat} {c : Cu} (h : 1 ≤ c.p) : 1 ≤ (numC l n c).2.p := by
  unfold numC
  split
  · split
    · show 1 ≤ c.p + n; omega
    · exact h
  · exact h
theorem long_pos {l : List UInt8} {c : Cu} (h : 1 ≤ c.p) : 1 ≤ (longC l c).2.p := by
  unfold longC
  split
  · split
    · rename_i v p e
      have := varN_bound e
      show 1 ≤ p; omega
    · exact h
  · exact h
theorem id_pos {l : List UInt8} {c : Cu} (h : 1 ≤ c.p) : 1 ≤ (idC l c).2.p := by
  unfold idC
  split
  · exact bytes_pos (by rw [okC_p]; exact num_pos h)
  · rw [okC_p]; exact num_pos h
theorem hlong_pos {l : List UInt8} {x0 : Nat} {ve : Int} {c : Cu} (h : 1 ≤ c.p) (hl : 0 < l.length) : 1 ≤ (hlongC l x0 ve c).c.p := by
  unfold hlongC
  split
  · split
    · unfold versC
      split
      · exact hl
      · show 1 ≤ (okC c _ _).p; rw [okC_p]; exact h
    · split
      · unfold knownC
        have hco : 1 ≤ (okC c (x0.testBit 6) 11).p := by rw [okC_p]; exact h
        split
        · unfold retryC
          split
          · unfold retryC2
            refine bytes_pos ?_
            rw [okC_p]
            refine bytes_pos ?_
            rw [okC_p]; exact hco
          · show 1 ≤ (okC _ _ _).p; rw [okC_p]; exact hco
        · split
          · unfold initC
            split
            · refine tail_pos (bytes_pos ?_); rw [okC_p]; exact long_pos hco
            · refine tail_pos ?_; rw [okC_p]; exact long_pos hco
          · exact tail_pos hco
      · exact h
  · exact h
theorem cut_le {l : List UInt8} (ids : Int) (h : 0 < l.length) : 1 ≤ cutN l ids ∧ cutN l ids ≤ l.length := by
  unfold cutN
  split
  · omega
  · rename_i hd p e
    split
    · rename_i hk
      unfold readQ at e
      split at e
      · cases e
      · cases l with
        | nil => cases h
        | cons x0 t =>
          simp only at e
          split at e
          · unfold longQ at e
            split at e
            · rename_i hb
              simp only [Sum.inr.injEq, Prod.mk.injEq] at e
              obtain ⟨e1, e2⟩ := e
              subst e1 e2
              have hn := num_le (l := x0 :: t) (n := 4) (c := ⟨1, 0⟩) h
              have h1 := hlong_end (c := (idC (x0 :: t) (idC (x0 :: t) (numC (x0 :: t) 4 ⟨1, 0⟩).2).2).2) (id_le (id_le hn)) hb hk
              have h2 := hlong_pos (l := x0 :: t) (x0 := x0.toNat) (ve := ((numC (x0 :: t) 4 ⟨1, 0⟩).1 : Int)) (c := (idC (x0 :: t) (idC (x0 :: t) (numC (x0 :: t) 4 ⟨1, 0⟩).2).2).2) (id_pos (id_pos (num_pos (Nat.le_refl 1)))) h
              exact ⟨Nat.le_trans h2 (Nat.le_add_right _ _), h1⟩
            · cases e
          · unfold shortQ at e
            split at e
            · simp only [Sum.inr.injEq, Prod.mk.injEq] at e
              obtain ⟨e1, e2⟩ := e
              subst e1
              simp only at hk
              omega
            · cases e
    · omega
theorem SplitR.flat {ids : Int} {l : List UInt8} {ls : List (List UInt8)} (h : SplitR ids l ls) : ls.flatten = l ∧ ∀ p ∈ ls, 0 < p.length := by
  induction h with
  | nil => simp
  | cons l ls hl k ih =>
    have hc := cut_le ids hl
    refine ⟨by rw [List.flatten_cons, ih.1, List.take_append_drop], fun p hp => ?_⟩
    rcases List.mem_cons.1 hp with rfl | hp
    · simp; omega
    · exact ih.2 p hp
theorem bs_drop {w : World} {cb c o : Nat} {l : List UInt8} {l2 : List Value} {T : TypeId} {fz : Nat × Nat} (hb : w.heap[cb]? = some (.cells l2.toArray T fz)) (ht : l2.take l.length = l.map byteV) (ho : o ≤ l.length) (n : Nat) (hn : o + n ≤ l.length) (hc : n ≤ c) : Bs w (.slice (some ⟨cb, o, none⟩) n c) ((l.drop o).take n) := by
  have hlen : ((l.drop o).take n).length = n := by simp; omega
  refine ⟨some ⟨cb, o, none⟩, c, by rw [hlen], by simp, by rw [hlen]; exact hc, fun i u hu => ⟨cb, o, rfl, ?_⟩, fun h => by cases h⟩
  rw [cell_of_row w cb (o + i) _ T fz hb, List.getElem?_toArray]
  rw [List.getElem?_map, List.getElem?_take] at hu
  split at hu
  · rename_i hi
    rw [List.getElem?_drop] at hu
    have h1 : (l2.take l.length)[o + i]? = some u := by rw [ht, List.getElem?_map]; exact hu
    rw [List.getElem?_take, if_pos (by omega)] at h1
    exact h1
  · cases hu
theorem RdRes.len {B : Nat} {w : World} {cs : List Value} {x y : Int} {r : Int ⊕ (Hd × Nat)} (h : RdRes B w cs x y r) : cs.length = 24 ∧ ∀ u ∈ cs, u.oneCell' = true := by
  unfold RdRes at h
  split at h
  · obtain ⟨rfl, _⟩ := h
    exact ⟨rfl, of_decide_eq_true rfl⟩
  · obtain ⟨⟨dv, sv, tv, gv, rfl, h1, h2, h3, h4, h5⟩, _⟩ := h
    refine ⟨by simp [hcells, h5], fun u hu => ?_⟩
    simp only [List.mem_append, List.mem_cons, List.not_mem_nil, or_false] at hu
    rcases hu with (rfl | rfl | rfl | rfl | rfl | rfl | rfl | rfl) | hu
    · rfl
    · rfl
    · exact h1.one
    · exact h2.one
    · exact h3.one
    · rfl
    · rfl
    · exact h4.one
    · exact hcells_one _ u hu
theorem own_ne22 {w : World} {a b : Nat} {c d : Array Value} (h1 : w.heap[a]? = some (.cells c 5 (0, 0))) (h2 : w.heap[b]? = some (.cells d 22 (0, 0))) : a ≠ b := by
  intro e
  rw [e, h2] at h1
  simp at h1
theorem Own.snocP {l : List Value} (h : l.length = 0) : l = [] := List.eq_nil_of_length_eq_zero h

theorem flat_len : ∀ (ls : List (List UInt8)), (∀ p ∈ ls, 0 < p.length) → ls.length ≤ ls.flatten.length
  | [], _ => Nat.le_refl _
  | p :: ps, h => by
    have := flat_len ps (fun q hq => h q (List.mem_cons_of_mem _ hq))
    have := h p (by simp)
    simp only [List.length_cons, List.flatten_cons, List.length_append]; omega
theorem splitR_ex (ids : Int) : ∀ (n : Nat) (l : List UInt8), l.length ≤ n → ∃ ls, SplitR ids l ls
  | 0, l, h => ⟨[], by rw [List.eq_nil_of_length_eq_zero (by omega : l.length = 0)]; exact SplitR.nil⟩
  | n + 1, l, h => by
    by_cases h0 : 0 < l.length
    · have hc := cut_le ids h0
      obtain ⟨ls, hs⟩ := splitR_ex ids n (l.drop (cutN l ids)) (by simp; omega)
      exact ⟨_, SplitR.cons l ls h0 hs⟩
    · exact ⟨[], by rw [List.eq_nil_of_length_eq_zero (by omega : l.length = 0)]; exact SplitR.nil⟩
theorem split_short {ids : Int} {l : List UInt8} {ls : List (List UInt8)} {o : Nat} (h : ∀ tl, SplitR ids (l.drop o) tl → SplitR ids l (ls ++ tl)) (_ : ls.flatten.length = o) : ls.length ≤ l.length := by
  obtain ⟨tl, ht⟩ := splitR_ex ids _ (l.drop o) (Nat.le_refl _)
  have hf := (h tl ht).flat
  have h1 := flat_len _ hf.2
  rw [hf.1] at h1
  simp at h1
  omega

theorem Fc.bsl32_1 : bslB Tryd.prog 32 1 = some (22, 1, [.slice none 0 0]) := by kernel_rfl
theorem Fc.el32 : elB Tryd.prog 32 = some (22, 1, 24) := by kernel_rfl
theorem Fc.fn8 : isFn Tryd.prog 8 = true := by kernel_rfl
theorem Fc.ni32 : notInt Tryd.prog 32 = true := by kernel_rfl
set_option maxRecDepth 100000 in
set_option maxHeartbeats 400000 in
theorem Split_empty (q : Option Addr) (qc : Nat) (ids : Int) (w0 : World) (hb : Bs w0 (.slice q 0 qc) []) : Calls Tryd.prog 9 #[.slice q 0 qc, .int .i64 ids] w0 fun e w' => e = .returned (.slice none 0 0) ∧ Ext w0 w' := by
  refine enter Tryd.func9 rfl rfl rfl ?_
  intro a hS
  have hH := Hp.start w0 (Nobody)
  refine c_seq ?_
  refine reg_plain w0 (Nobody) ?_
  refine r_assign hS hH.kp0 rfl rfl ?_; clear hS; intro a hS
  refine Sq.nil ?_
  refine then_n ?_
  refine c_seq ?_
  refine reg_plain w0 (Nobody) ?_
  refine r_assign hS hH.kp0 rfl rfl ?_; clear hS; intro a hS
  refine Sq.nil ?_
  refine then_n ?_
  refine c_seq ?_
  refine c_seq ?_
  refine reg_plain w0 (Nobody) ?_
  refine r_move hS hH.kp0 rfl rfl ?_; clear hS; intro a hS
  rcases q with _ | q
  · have hqc : qc = 0 := by obtain ⟨p, c, hs⟩ := hb; have hv := hs.val; injection hv with e1 e2 e3; subst e1 e3; exact hs.nil rfl
    subst hqc
    refine r_call (l := [.tmp 11]) hS rfl rfl Fc.fn23 rfl ?_
    refine Calls.mono (clone_nil _) ?_
    rintro e w1 ⟨rfl, hE⟩
    replace hH := hH.ext hE
    refine ⟨_, rfl, hH.kp0, ?_⟩
    clear hS; intro a hS
    refine r_assign hS hH.kp0 rfl rfl ?_; clear hS; intro a hS
    refine Sq.nil ?_
    refine then_n ?_
    refine wp_block ?_
    refine wp_loop_rounds 1 ?_
    refine rnd ?_
    refine c_seq ?_
    refine c_seq ?_
    refine reg_plain w0 (Nobody) ?_
    refine r_move hS hH.kp0 rfl rfl ?_; clear hS; intro a hS
    refine r_lenSl hS hH.kp0 rfl Fc.isSlice22 rfl ?_; clear hS; intro a hS
    refine r_gtr hS hH.kp0 rfl rfl rfl ?_; clear hS; intro a hS
    refine Sq.nil ?_
    refine then_n ?_
    refine c_condF hS rfl rfl ?_
    refine wp_exit ?_
    refine then_e ?_
    refine then_e ?_
    refine blk_hit ?_
    refine then_n ?_
    refine c_seq ?_
    refine reg_plain w0 (Nobody) ?_
    refine r_move hS hH.kp0 rfl rfl ?_; clear hS; intro a hS
    refine r_assign hS hH.kp0 rfl rfl ?_; clear hS; intro a hS
    refine Sq.nil ?_
    refine then_n ?_
    refine wp_ret ?_
    exact leave (.inl rfl) hS rfl (Res.tmp rfl Res.nil) ⟨rfl, hH.mod⟩
  · refine r_call (l := [.tmp 11]) hS rfl rfl Fc.fn23 rfl ?_
    refine Calls.mono (clone_c q qc [] (by decide) _ (hb.ext hH.mod)) ?_
    rintro e w1 ⟨cb, cap, l2, rfl, hcb, hcbk, hcap, hl2, htk2, hE⟩
    replace hH := hH.ext hE
    refine ⟨_, rfl, hH.kp0, ?_⟩
    clear hS; intro a hS
    refine r_assign hS hH.kp0 rfl rfl ?_; clear hS; intro a hS
    refine Sq.nil ?_
    refine then_n ?_
    refine wp_block ?_
    refine wp_loop_rounds 1 ?_
    refine rnd ?_
    refine c_seq ?_
    refine c_seq ?_
    refine reg_plain w0 (Nobody) ?_
    refine r_move hS hH.kp0 rfl rfl ?_; clear hS; intro a hS
    refine r_lenSl hS hH.kp0 rfl Fc.isSlice22 rfl ?_; clear hS; intro a hS
    refine r_gtr hS hH.kp0 rfl rfl rfl ?_; clear hS; intro a hS
    refine Sq.nil ?_
    refine then_n ?_
    refine c_condF hS rfl rfl ?_
    refine wp_exit ?_
    refine then_e ?_
    refine then_e ?_
    refine blk_hit ?_
    refine then_n ?_
    refine c_seq ?_
    refine reg_plain w0 (Nobody) ?_
    refine r_move hS hH.kp0 rfl rfl ?_; clear hS; intro a hS
    refine r_assign hS hH.kp0 rfl rfl ?_; clear hS; intro a hS
    refine Sq.nil ?_
    refine then_n ?_
    refine wp_ret ?_
    exact leave (.inl rfl) hS rfl (Res.tmp rfl Res.nil) ⟨rfl, hH.mod⟩

set_option maxRecDepth 100000 in
set_option maxHeartbeats 4000000 in
theorem Split_some (q : Addr) (qc : Nat) (l : List UInt8) (hl : l.length ≤ 1099511627776) (h1 : 0 < l.length) (ids : Int) (w0 : World) (WT : TypeId) (WF : Nat × Nat) (hw0 : w0.heap[0]? = some (.cells [.int .i64 6, .int .i64 14, .int .i64 30, .int .i64 62].toArray WT WF)) (hb : Bs w0 (.slice (some q) l.length qc) l) : Calls Tryd.prog 9 #[.slice (some q) l.length qc, .int .i64 ids] w0 fun e w' => ∃ (u : Value) (cb cap : Nat) (l2 : List Value) (ls : List (List UInt8)), e = .returned u ∧ SplitR ids l ls ∧ Own w0.heap.size 1 22 w' u ls.length (pieces cb 0 ls) ∧ w0.heap.size ≤ cb ∧ w'.heap[cb]? = some (.cells l2.toArray 5 (0, 0)) ∧ l.length ≤ cap ∧ l2.length = cap ∧ l2.take l.length = l.map byteV ∧ Ext w0 w' := by
  refine enter Tryd.func9 rfl rfl rfl ?_
  intro a hS
  have hH := Hp.start w0 (Nobody)
  have hlt0 := lt_of_block hw0
  replace hH := hH.know hw0 (fun p hp => by simp at hp)
  refine c_seq ?_
  refine reg_plain w0 (Nobody) ?_
  refine r_assign hS hH.kp0 rfl rfl ?_; clear hS; intro a hS
  refine Sq.nil ?_
  refine then_n ?_
  refine c_seq ?_
  refine reg_plain w0 (Nobody) ?_
  refine r_assign hS hH.kp0 rfl rfl ?_; clear hS; intro a hS
  refine Sq.nil ?_
  refine then_n ?_
  refine c_seq ?_
  refine c_seq ?_
  refine reg_plain w0 (Nobody) ?_
  refine r_move hS hH.kp0 rfl rfl ?_; clear hS; intro a hS
  refine r_call (l := [.tmp 11]) hS rfl rfl Fc.fn23 rfl ?_
  refine Calls.mono (clone_c q qc l hl _ (hb.ext hH.mod)) ?_
  rintro e w1 ⟨cb, cap, l2, rfl, hcb, hcbk, hcap, hl2, htk2, hE⟩
  have hszc := hH.mod.size
  have hl_0 := Hp.ltm (b := 0) hH (by simp)
  replace hH := (hH.ext hE).know hcbk (fun z hz e => by simp at hz; subst hz; simp only at e; omega)
  have hcb0 : w0.heap.size ≤ cb := by omega
  refine ⟨_, rfl, hH.kp0, ?_⟩
  clear hS; intro a hS
  refine r_assign hS hH.kp0 rfl rfl ?_; clear hS; intro a hS
  refine Sq.nil ?_
  refine then_n ?_
  refine wp_block ?_
  refine c_loop (fun m a w => ∃ (o : Nat) (u : Value) (ls : List (List UInt8)) (ra : Addr) (rc : Nat), m + o = l.length ∧ (o < l.length → ra = ⟨cb, o, none⟩ ∧ rc = cap - o) ∧ (∀ tl, SplitR ids (l.drop o) tl → SplitR ids l (ls ++ tl)) ∧ ls.flatten.length = o ∧ Own w0.heap.size 1 22 w u ls.length (pieces cb 0 ls) ∧ St 47 (lv [(1, .int .i64 ids), (5, u), (6, .slice (some ra) (l.length - o) rc)]) a ∧ Hp w0 Nobody [(cb, .cells l2.toArray 5 (0, 0)), (0, .cells [.int .i64 6, .int .i64 14, .int .i64 30, .int .i64 62].toArray WT WF)] w) (l.length) ?_ ?_
  · exact ⟨0, _, [], ⟨cb, 0, none⟩, cap, by omega, fun _ => ⟨rfl, by omega⟩, fun tl h => by simpa using h, rfl, Own.nil _ _ _ _, hS.live ⟨rfl, rfl, rfl, trivial⟩, hH⟩
  clear hS hH; intro m a w hI; obtain ⟨o, u, ls, ra, rc, hmo, hra, hAll, hfl, hO, hS, hH⟩ := hI
  refine c_seq ?_
  refine c_seq ?_
  refine reg_plain w0 (Nobody) ?_
  refine r_move hS hH.kp0 rfl rfl ?_; clear hS; intro a hS
  refine r_lenSl hS hH.kp0 rfl Fc.isSlice22 rfl ?_; clear hS; intro a hS
  refine r_gtr hS hH.kp0 rfl rfl rfl ?_; clear hS; intro a hS
  refine Sq.nil ?_
  refine then_n ?_
  refine c_cond hS rfl (fun hc0 => ?_) (fun hc0 => ?_)
  · have hgt := of_decide_eq_true hc0
    have holt : o < l.length := by omega
    obtain ⟨hra1, hrc1⟩ := hra holt
    subst hra1 hrc1
    have hrl : (l.drop o).length = l.length - o := by simp
    skip
    refine wp_skip ?_
    refine then_n ?_
    refine wp_block ?_
    refine c_seq ?_
    refine reg_plain w0 (Nobody) ?_
    have hlsn : ls.length ≤ l.length := by have := split_short hAll hfl; omega
    rcases hO with ⟨rfl, hk0, hxs⟩ | ⟨ob, c9, l9, rfl, hob0, hbo, hl9, hm9, htk9⟩
    · refine r_move hS hH.kp0 rfl rfl ?_; clear hS; intro a hS
      refine r_lenSl hS hH.kp0 rfl Fc.isSlice22 rfl ?_; clear hS; intro a hS
      refine r_assign hS hH.kp0 rfl rfl ?_; clear hS; intro a hS
      refine Sq.nil ?_
      refine then_n ?_
      refine c_seq ?_
      refine c_seq ?_
      refine reg_plain w0 (Nobody) ?_
      refine r_move hS hH.kp0 rfl rfl ?_; clear hS; intro a hS
      refine r_move hS hH.kp0 rfl rfl ?_; clear hS; intro a hS
      refine r_call (l := [.tmp 19, .tmp 20]) hS rfl rfl Fc.fn8 rfl ?_
      refine Calls.mono ((by have hn := Read_c (some ⟨cb, o, none⟩) (cap - o) (l.drop o) (by simp; omega) ids _ WT WF (hH.get (b := 0) (by repeat (first | exact In.here | refine In.there ?_))) (by have h := bs_drop (o := o) (hH.get (b := cb) (by repeat (first | exact In.here | refine In.there ?_))) htk2 (by omega) (l.length - o) (by omega) (c := cap - o) (by omega); rw [List.take_of_length_le (by simp)] at h; rw [hrl]; exact h); rw [hrl] at hn; exact hn)) ?_
      rintro e w1 ⟨cs, x, y, rfl, hrr, hE⟩
      obtain ⟨hcl, hco⟩ := hrr.len
      replace hH := hH.ext hE
      refine ⟨_, rfl, hH.kp0, ?_⟩
      clear hS; intro a hS
      refine r_move hS hH.kp0 rfl rfl ?_; clear hS; intro a hS
      refine r_extract hS hH.kp0 rfl rfl rfl ?_; clear hS; intro a hS
      refine r_extract hS hH.kp0 rfl rfl rfl ?_; clear hS; intro a hS
      refine r_extract hS hH.kp0 rfl rfl rfl ?_; clear hS; intro a hS
      refine r_alloc hS hH (by repeat (first | exact Sub.nil | refine Sub.cons ?_ ?_ | exact In.here | refine In.there ?_)) Fc.zc26 rfl ?_
      clear hS hH; intro a w b8 hb8 hwb8 hS hH
      refine r_store_row (vs := cs) hS hH rfl rfl (by first | exact .here | exact .there .here | exact .there (.there .here) | exact .there (.there (.there .here)) | exact .there (.there (.there (.there .here))) | exact .there (.there (.there (.there (.there .here)))) | exact .there (.there (.there (.there (.there (.there .here))))) | exact .there (.there (.there (.there (.there (.there (.there .here)))))) | exact .there (.there (.there (.there (.there (.there (.there (.there .here))))))) | exact .there (.there (.there (.there (.there (.there (.there (.there (.there .here)))))))) | exact .there (.there (.there (.there (.there (.there (.there (.there (.there (.there .here))))))))) | exact .there (.there (.there (.there (.there (.there (.there (.there (.there (.there (.there .here)))))))))) | exact .there (.there (.there (.there (.there (.there (.there (.there (.there (.there (.there (.there .here))))))))))) | exact .there (.there (.there (.there (.there (.there (.there (.there (.there (.there (.there (.there (.there .here)))))))))))) | exact .there (.there (.there (.there (.there (.there (.there (.there (.there (.there (.there (.there (.there (.there .here))))))))))))) | exact .there (.there (.there (.there (.there (.there (.there (.there (.there (.there (.there (.there (.there (.there (.there .here))))))))))))))) (by repeat (first | exact Sub.nil | refine Sub.cons ?_ ?_ | exact In.here | refine In.there ?_)) (by rw [hcl]; exact Fc.sz26) hco (by rw [hcl]; rfl) (.inr (by assumption)) ?_; clear hH; intro w hH
      refine r_assign hS hH.kp0 rfl rfl ?_; clear hS; intro a hS
      refine r_assign hS hH.kp0 rfl rfl ?_; clear hS; intro a hS
      refine Sq.nil ?_
      refine then_n ?_
      refine c_seq ?_
      refine reg_plain w0 (Nobody) ?_
      refine r_move hS hH.kp0 rfl rfl ?_; clear hS; intro a hS
      refine r_eql hS hH.kp0 rfl rfl rfl ?_; clear hS; intro a hS
      obtain ⟨hcu1, hcu2⟩ := cut_le ids (l := l.drop o) (by simp; omega)
      obtain ⟨N, hN⟩ : ∃ z, cutN (l.drop o) ids = z := ⟨_, rfl⟩
      rw [hN] at hcu1 hcu2
      rw [hrl] at hcu2
      have hcN := hN
      rcases hrq : readQ (l.drop o) ids with bd | ⟨hd, pp⟩
      all_goals rw [hrq] at hrr
      · unfold RdRes at hrr
        have hNv : N = l.length - o := by rw [← hN]; unfold cutN; rw [hrq]; simp
        have hy0 := hrr.2.2.2
        rw [← hrr.2.2.1] at hy0
        refine r_move hS hH.kp0 rfl rfl ?_; clear hS; intro a hS
        refine Sq.guardNo hS rfl rfl (by simpa using hy0) hH.kp0 rfl ?_; clear hS; intro a hS
        refine Sq.guardNo hS rfl rfl (by simpa using hy0) hH.kp0 rfl ?_; clear hS; intro a hS
        refine Sq.guardNo hS rfl rfl (by simpa using hy0) hH.kp0 rfl ?_; clear hS; intro a hS
        refine r_pickF hS hH.kp0 rfl (by simpa using hy0) rfl rfl ?_; clear hS; intro a hS
        refine Sq.nil ?_
        refine then_n ?_
        refine c_condF hS rfl rfl ?_
        refine wp_skip ?_
        refine then_n ?_
        refine c_seq ?_
        refine reg_plain w0 (Nobody) ?_
        refine r_move hS hH.kp0 rfl rfl ?_; clear hS; intro a hS
        refine r_move hS hH.kp0 rfl rfl ?_; clear hS; intro a hS
        refine r_move hS hH.kp0 rfl rfl ?_; clear hS; intro a hS
        refine r_move hS hH.kp0 rfl rfl ?_; clear hS; intro a hS
        refine r_slHiMax (hh := N) hS hH.kp0 rfl rfl rfl Fc.slb22 (by omega) (by omega) (by omega) (by intro q h; cases h; rfl) rfl ?_; clear hS; intro a hS
        refine r_buildSlice (parts := [(0, .tmp 40)]) hS hH (by repeat (first | exact Sub.nil | refine Sub.cons ?_ ?_ | exact In.here | refine In.there ?_)) rfl Fc.bsl32_1 (by rfl) rfl ?_
        clear hS hH; intro a w b41 hb41 hwb41 hS hH
        refine r_append_nil hS hH (by repeat (first | exact Sub.nil | refine Sub.cons ?_ ?_ | exact In.here | refine In.there ?_)) rfl rfl Fc.el32 Fc.ni32 (src_one (hH.get .here) rfl) (by decide) (by decide) rfl ?_
        clear hS hH; intro a w ob c9 l9 hob0 hob1 hl9 hm9 htk9 hE9 hS hH
        refine r_assign hS hH.kp0 rfl rfl ?_; clear hS; intro a hS
        refine Sq.nil ?_
        refine then_n ?_
        refine reg_plain w0 (Nobody) ?_
        refine r_move hS hH.kp0 rfl rfl ?_; clear hS; intro a hS
        refine r_move hS hH.kp0 rfl rfl ?_; clear hS; intro a hS
        refine r_slLo (ll := N) hS hH.kp0 rfl rfl Fc.slb22 (by omega) (by omega) rfl ?_; clear hS; intro a hS
        refine r_assign hS hH.kp0 rfl rfl ?_; clear hS; intro a hS
        refine Sq.nil ?_
        refine blk_n ?_
        refine then_n ?_
        have hHz := hH.front (b := ob) (by first | exact .here | exact .there .here | exact .there (.there .here) | exact .there (.there (.there .here)) | exact .there (.there (.there (.there .here))) | exact .there (.there (.there (.there (.there .here)))) | exact .there (.there (.there (.there (.there (.there .here))))) | exact .there (.there (.there (.there (.there (.there (.there .here)))))) | exact .there (.there (.there (.there (.there (.there (.there (.there .here))))))) | exact .there (.there (.there (.there (.there (.there (.there (.there (.there .here)))))))) | exact .there (.there (.there (.there (.there (.there (.there (.there (.there (.there .here))))))))) | exact .there (.there (.there (.there (.there (.there (.there (.there (.there (.there (.there .here)))))))))) | exact .there (.there (.there (.there (.there (.there (.there (.there (.there (.there (.there (.there .here))))))))))) | exact .there (.there (.there (.there (.there (.there (.there (.there (.there (.there (.there (.there (.there .here)))))))))))) | exact .there (.there (.there (.there (.there (.there (.there (.there (.there (.there (.there (.there (.there (.there .here))))))))))))) | exact .there (.there (.there (.there (.there (.there (.there (.there (.there (.there (.there (.there (.there (.there (.there .here)))))))))))))))
        have hNl : ((l.drop o).take N).length = N := by simp; omega
        have hold := hAll
        refine ⟨m - N, by omega, o + N, (.slice (some ⟨ob, 0, none⟩) 1 c9), ls ++ [(l.drop o).take N], (if cap - o = N then ⟨cb, o, none⟩ else ⟨cb, o + N * 1, none⟩), cap - o - N, by omega, ?_, ?_, ?_, ?_, ?_, ?_⟩
        · intro hlt; rw [if_neg (by omega), Nat.mul_one]; exact ⟨rfl, by omega⟩
        · intro tl htl; rw [List.append_assoc]; refine hold _ ?_; rw [← List.drop_drop] at htl; rw [← hcN] at htl ⊢; exact SplitR.cons _ _ (by simp; omega) htl
        · rw [List.flatten_append, List.length_append, hfl]; simp; omega
        · rw [pieces_snoc, Nat.zero_add, hfl, hNl]
          have hls0 : ls = [] := List.eq_nil_of_length_eq_zero hk0
          subst hls0
          refine .inr ⟨ob, c9, l9, rfl, hob0, hHz.get .here, hl9, hm9, ?_⟩
          simpa [pieces] using htk9
        · rw [show l.length - (o + N) = l.length - o - N from by omega]; exact hS.live ⟨rfl, rfl, rfl, trivial⟩
        · exact hHz.sub (by repeat (first | exact Sub.nil | refine Sub.cons ?_ ?_ | exact In.here | refine In.there ?_)) (by have nd := hHz.nd; simp only [List.map_cons, List.map_nil, List.nodup_cons] at nd ⊢; simp_all)
      · unfold RdRes at hrr
        obtain ⟨⟨dv, sv, tv, gv, hcs, _⟩, hx, hy⟩ := hrr
        subst hy hx
        have hc0k : cs[0]? = some (.int .i64 hd.kind) := by rw [hcs]; rfl
        have hc5k : cs[5]? = some (.int .i64 (hd.len : Int)) := by rw [hcs]; rfl
        refine r_move hS hH.kp0 rfl rfl ?_; clear hS; intro a hS
        refine Sq.guardYes hS rfl rfl rfl ?_
        refine r_fieldAddr hS hH.kp0 rfl Fc.fo26_0 rfl ?_; clear hS; intro a hS
        refine Sq.guardYes hS rfl rfl rfl ?_
        refine r_load_sc (v := .int .i64 hd.kind) hS hH (by repeat (first | exact Sub.nil | refine Sub.cons ?_ ?_ | exact In.here | refine In.there ?_)) rfl (by repeat (first | exact In.here | refine In.there ?_)) Fc.sc3 (by rw [nthV_eq]; exact hc0k) rfl ?_; clear hS; intro a hS
        by_cases hkd : hd.kind ≤ 2
        · have hNv : N = pp + hd.len := by rw [← hN]; unfold cutN; rw [hrq]; simp [hkd]
          refine Sq.guardYes hS rfl rfl rfl ?_
          refine r_leq hS hH.kp0 rfl rfl rfl ?_; clear hS; intro a hS
          refine r_pickT hS hH.kp0 rfl rfl rfl rfl ?_; clear hS; intro a hS
          refine Sq.nil ?_
          refine then_n ?_
          refine c_condT hS rfl (DT hkd) ?_
          refine reg_plain w0 (Nobody) ?_
          refine r_move hS hH.kp0 rfl rfl ?_; clear hS; intro a hS
          refine r_fieldAddr hS hH.kp0 rfl Fc.fo26_5 rfl ?_; clear hS; intro a hS
          refine r_load_sc (v := .int .i64 (hd.len : Int)) hS hH (by repeat (first | exact Sub.nil | refine Sub.cons ?_ ?_ | exact In.here | refine In.there ?_)) rfl (by repeat (first | exact In.here | refine In.there ?_)) Fc.sc3 (by rw [nthV_eq]; exact hc5k) rfl ?_; clear hS; intro a hS
          refine r_add hS hH.kp0 rfl rfl rfl (by omega) ?_; clear hS; intro a hS
          refine r_assign hS hH.kp0 rfl rfl ?_; clear hS; intro a hS
          refine Sq.nil ?_
          refine then_n ?_
          refine c_seq ?_
          refine reg_plain w0 (Nobody) ?_
          refine r_move hS hH.kp0 rfl rfl ?_; clear hS; intro a hS
          refine r_move hS hH.kp0 rfl rfl ?_; clear hS; intro a hS
          refine r_move hS hH.kp0 rfl rfl ?_; clear hS; intro a hS
          refine r_move hS hH.kp0 rfl rfl ?_; clear hS; intro a hS
          refine r_slHiMax (hh := N) hS hH.kp0 rfl rfl rfl Fc.slb22 (by omega) (by omega) (by omega) (by intro q h; cases h; rfl) rfl ?_; clear hS; intro a hS
          refine r_buildSlice (parts := [(0, .tmp 40)]) hS hH (by repeat (first | exact Sub.nil | refine Sub.cons ?_ ?_ | exact In.here | refine In.there ?_)) rfl Fc.bsl32_1 (by rfl) rfl ?_
          clear hS hH; intro a w b41 hb41 hwb41 hS hH
          refine r_append_nil hS hH (by repeat (first | exact Sub.nil | refine Sub.cons ?_ ?_ | exact In.here | refine In.there ?_)) rfl rfl Fc.el32 Fc.ni32 (src_one (hH.get .here) rfl) (by decide) (by decide) rfl ?_
          clear hS hH; intro a w ob c9 l9 hob0 hob1 hl9 hm9 htk9 hE9 hS hH
          refine r_assign hS hH.kp0 rfl rfl ?_; clear hS; intro a hS
          refine Sq.nil ?_
          refine then_n ?_
          refine reg_plain w0 (Nobody) ?_
          refine r_move hS hH.kp0 rfl rfl ?_; clear hS; intro a hS
          refine r_move hS hH.kp0 rfl rfl ?_; clear hS; intro a hS
          refine r_slLo (ll := N) hS hH.kp0 rfl rfl Fc.slb22 (by omega) (by omega) rfl ?_; clear hS; intro a hS
          refine r_assign hS hH.kp0 rfl rfl ?_; clear hS; intro a hS
          refine Sq.nil ?_
          refine blk_n ?_
          refine then_n ?_
          have hHz := hH.front (b := ob) (by first | exact .here | exact .there .here | exact .there (.there .here) | exact .there (.there (.there .here)) | exact .there (.there (.there (.there .here))) | exact .there (.there (.there (.there (.there .here)))) | exact .there (.there (.there (.there (.there (.there .here))))) | exact .there (.there (.there (.there (.there (.there (.there .here)))))) | exact .there (.there (.there (.there (.there (.there (.there (.there .here))))))) | exact .there (.there (.there (.there (.there (.there (.there (.there (.there .here)))))))) | exact .there (.there (.there (.there (.there (.there (.there (.there (.there (.there .here))))))))) | exact .there (.there (.there (.there (.there (.there (.there (.there (.there (.there (.there .here)))))))))) | exact .there (.there (.there (.there (.there (.there (.there (.there (.there (.there (.there (.there .here))))))))))) | exact .there (.there (.there (.there (.there (.there (.there (.there (.there (.there (.there (.there (.there .here)))))))))))) | exact .there (.there (.there (.there (.there (.there (.there (.there (.there (.there (.there (.there (.there (.there .here))))))))))))) | exact .there (.there (.there (.there (.there (.there (.there (.there (.there (.there (.there (.there (.there (.there (.there .here)))))))))))))))
          have hNl : ((l.drop o).take N).length = N := by simp; omega
          have hold := hAll
          refine ⟨m - N, by omega, o + N, (.slice (some ⟨ob, 0, none⟩) 1 c9), ls ++ [(l.drop o).take N], (if cap - o = N then ⟨cb, o, none⟩ else ⟨cb, o + N * 1, none⟩), cap - o - N, by omega, ?_, ?_, ?_, ?_, ?_, ?_⟩
          · intro hlt; rw [if_neg (by omega), Nat.mul_one]; exact ⟨rfl, by omega⟩
          · intro tl htl; rw [List.append_assoc]; refine hold _ ?_; rw [← List.drop_drop] at htl; rw [← hcN] at htl ⊢; exact SplitR.cons _ _ (by simp; omega) htl
          · rw [List.flatten_append, List.length_append, hfl]; simp; omega
          · rw [pieces_snoc, Nat.zero_add, hfl, hNl]
            have hls0 : ls = [] := List.eq_nil_of_length_eq_zero hk0
            subst hls0
            refine .inr ⟨ob, c9, l9, rfl, hob0, hHz.get .here, hl9, hm9, ?_⟩
            simpa [pieces] using htk9
          · rw [show l.length - (o + N) = l.length - o - N from by omega]; exact hS.live ⟨rfl, rfl, rfl, trivial⟩
          · exact hHz.sub (by repeat (first | exact Sub.nil | refine Sub.cons ?_ ?_ | exact In.here | refine In.there ?_)) (by have nd := hHz.nd; simp only [List.map_cons, List.map_nil, List.nodup_cons] at nd ⊢; simp_all)
        · have hNv : N = l.length - o := by rw [← hN]; unfold cutN; rw [hrq]; simp [hkd]
          refine Sq.guardYes hS rfl rfl rfl ?_
          refine r_leq hS hH.kp0 rfl rfl rfl ?_; clear hS; intro a hS
          refine r_pickT hS hH.kp0 rfl rfl rfl rfl ?_; clear hS; intro a hS
          refine Sq.nil ?_
          refine then_n ?_
          refine c_condF hS rfl (DF hkd) ?_
          refine wp_skip ?_
          refine then_n ?_
          refine c_seq ?_
          refine reg_plain w0 (Nobody) ?_
          refine r_move hS hH.kp0 rfl rfl ?_; clear hS; intro a hS
          refine r_move hS hH.kp0 rfl rfl ?_; clear hS; intro a hS
          refine r_move hS hH.kp0 rfl rfl ?_; clear hS; intro a hS
          refine r_move hS hH.kp0 rfl rfl ?_; clear hS; intro a hS
          refine r_slHiMax (hh := N) hS hH.kp0 rfl rfl rfl Fc.slb22 (by omega) (by omega) (by omega) (by intro q h; cases h; rfl) rfl ?_; clear hS; intro a hS
          refine r_buildSlice (parts := [(0, .tmp 40)]) hS hH (by repeat (first | exact Sub.nil | refine Sub.cons ?_ ?_ | exact In.here | refine In.there ?_)) rfl Fc.bsl32_1 (by rfl) rfl ?_
          clear hS hH; intro a w b41 hb41 hwb41 hS hH
          refine r_append_nil hS hH (by repeat (first | exact Sub.nil | refine Sub.cons ?_ ?_ | exact In.here | refine In.there ?_)) rfl rfl Fc.el32 Fc.ni32 (src_one (hH.get .here) rfl) (by decide) (by decide) rfl ?_
          clear hS hH; intro a w ob c9 l9 hob0 hob1 hl9 hm9 htk9 hE9 hS hH
          refine r_assign hS hH.kp0 rfl rfl ?_; clear hS; intro a hS
          refine Sq.nil ?_
          refine then_n ?_
          refine reg_plain w0 (Nobody) ?_
          refine r_move hS hH.kp0 rfl rfl ?_; clear hS; intro a hS
          refine r_move hS hH.kp0 rfl rfl ?_; clear hS; intro a hS
          refine r_slLo (ll := N) hS hH.kp0 rfl rfl Fc.slb22 (by omega) (by omega) rfl ?_; clear hS; intro a hS
          refine r_assign hS hH.kp0 rfl rfl ?_; clear hS; intro a hS
          refine Sq.nil ?_
          refine blk_n ?_
          refine then_n ?_
          have hHz := hH.front (b := ob) (by first | exact .here | exact .there .here | exact .there (.there .here) | exact .there (.there (.there .here)) | exact .there (.there (.there (.there .here))) | exact .there (.there (.there (.there (.there .here)))) | exact .there (.there (.there (.there (.there (.there .here))))) | exact .there (.there (.there (.there (.there (.there (.there .here)))))) | exact .there (.there (.there (.there (.there (.there (.there (.there .here))))))) | exact .there (.there (.there (.there (.there (.there (.there (.there (.there .here)))))))) | exact .there (.there (.there (.there (.there (.there (.there (.there (.there (.there .here))))))))) | exact .there (.there (.there (.there (.there (.there (.there (.there (.there (.there (.there .here)))))))))) | exact .there (.there (.there (.there (.there (.there (.there (.there (.there (.there (.there (.there .here))))))))))) | exact .there (.there (.there (.there (.there (.there (.there (.there (.there (.there (.there (.there (.there .here)))))))))))) | exact .there (.there (.there (.there (.there (.there (.there (.there (.there (.there (.there (.there (.there (.there .here))))))))))))) | exact .there (.there (.there (.there (.there (.there (.there (.there (.there (.there (.there (.there (.there (.there (.there .here)))))))))))))))
          have hNl : ((l.drop o).take N).length = N := by simp; omega
          have hold := hAll
          refine ⟨m - N, by omega, o + N, (.slice (some ⟨ob, 0, none⟩) 1 c9), ls ++ [(l.drop o).take N], (if cap - o = N then ⟨cb, o, none⟩ else ⟨cb, o + N * 1, none⟩), cap - o - N, by omega, ?_, ?_, ?_, ?_, ?_, ?_⟩
          · intro hlt; rw [if_neg (by omega), Nat.mul_one]; exact ⟨rfl, by omega⟩
          · intro tl htl; rw [List.append_assoc]; refine hold _ ?_; rw [← List.drop_drop] at htl; rw [← hcN] at htl ⊢; exact SplitR.cons _ _ (by simp; omega) htl
          · rw [List.flatten_append, List.length_append, hfl]; simp; omega
          · rw [pieces_snoc, Nat.zero_add, hfl, hNl]
            have hls0 : ls = [] := List.eq_nil_of_length_eq_zero hk0
            subst hls0
            refine .inr ⟨ob, c9, l9, rfl, hob0, hHz.get .here, hl9, hm9, ?_⟩
            simpa [pieces] using htk9
          · rw [show l.length - (o + N) = l.length - o - N from by omega]; exact hS.live ⟨rfl, rfl, rfl, trivial⟩
          · exact hHz.sub (by repeat (first | exact Sub.nil | refine Sub.cons ?_ ?_ | exact In.here | refine In.there ?_)) (by have nd := hHz.nd; simp only [List.map_cons, List.map_nil, List.nodup_cons] at nd ⊢; simp_all)
    · replace hH := hH.know hbo (fun z hz e => by simp only [List.mem_cons, List.not_mem_nil, or_false] at hz; rcases hz with rfl | rfl <;> first | (simp only at e; omega) | (simp only at e; exact own_ne22 (hH.get (b := cb) (by repeat (first | exact In.here | refine In.there ?_))) hbo e))
      refine r_move hS hH.kp0 rfl rfl ?_; clear hS; intro a hS
      refine r_lenSl hS hH.kp0 rfl Fc.isSlice22 rfl ?_; clear hS; intro a hS
      refine r_assign hS hH.kp0 rfl rfl ?_; clear hS; intro a hS
      refine Sq.nil ?_
      refine then_n ?_
      refine c_seq ?_
      refine c_seq ?_
      refine reg_plain w0 (Nobody) ?_
      refine r_move hS hH.kp0 rfl rfl ?_; clear hS; intro a hS
      refine r_move hS hH.kp0 rfl rfl ?_; clear hS; intro a hS
      refine r_call (l := [.tmp 19, .tmp 20]) hS rfl rfl Fc.fn8 rfl ?_
      refine Calls.mono ((by have hn := Read_c (some ⟨cb, o, none⟩) (cap - o) (l.drop o) (by simp; omega) ids _ WT WF (hH.get (b := 0) (by repeat (first | exact In.here | refine In.there ?_))) (by have h := bs_drop (o := o) (hH.get (b := cb) (by repeat (first | exact In.here | refine In.there ?_))) htk2 (by omega) (l.length - o) (by omega) (c := cap - o) (by omega); rw [List.take_of_length_le (by simp)] at h; rw [hrl]; exact h); rw [hrl] at hn; exact hn)) ?_
      rintro e w1 ⟨cs, x, y, rfl, hrr, hE⟩
      obtain ⟨hcl, hco⟩ := hrr.len
      replace hH := hH.ext hE
      refine ⟨_, rfl, hH.kp0, ?_⟩
      clear hS; intro a hS
      refine r_move hS hH.kp0 rfl rfl ?_; clear hS; intro a hS
      refine r_extract hS hH.kp0 rfl rfl rfl ?_; clear hS; intro a hS
      refine r_extract hS hH.kp0 rfl rfl rfl ?_; clear hS; intro a hS
      refine r_extract hS hH.kp0 rfl rfl rfl ?_; clear hS; intro a hS
      refine r_alloc hS hH (by repeat (first | exact Sub.nil | refine Sub.cons ?_ ?_ | exact In.here | refine In.there ?_)) Fc.zc26 rfl ?_
      clear hS hH; intro a w b8 hb8 hwb8 hS hH
      refine r_store_row (vs := cs) hS hH rfl rfl (by first | exact .here | exact .there .here | exact .there (.there .here) | exact .there (.there (.there .here)) | exact .there (.there (.there (.there .here))) | exact .there (.there (.there (.there (.there .here)))) | exact .there (.there (.there (.there (.there (.there .here))))) | exact .there (.there (.there (.there (.there (.there (.there .here)))))) | exact .there (.there (.there (.there (.there (.there (.there (.there .here))))))) | exact .there (.there (.there (.there (.there (.there (.there (.there (.there .here)))))))) | exact .there (.there (.there (.there (.there (.there (.there (.there (.there (.there .here))))))))) | exact .there (.there (.there (.there (.there (.there (.there (.there (.there (.there (.there .here)))))))))) | exact .there (.there (.there (.there (.there (.there (.there (.there (.there (.there (.there (.there .here))))))))))) | exact .there (.there (.there (.there (.there (.there (.there (.there (.there (.there (.there (.there (.there .here)))))))))))) | exact .there (.there (.there (.there (.there (.there (.there (.there (.there (.there (.there (.there (.there (.there .here))))))))))))) | exact .there (.there (.there (.there (.there (.there (.there (.there (.there (.there (.there (.there (.there (.there (.there .here))))))))))))))) (by repeat (first | exact Sub.nil | refine Sub.cons ?_ ?_ | exact In.here | refine In.there ?_)) (by rw [hcl]; exact Fc.sz26) hco (by rw [hcl]; rfl) (.inr (by assumption)) ?_; clear hH; intro w hH
      refine r_assign hS hH.kp0 rfl rfl ?_; clear hS; intro a hS
      refine r_assign hS hH.kp0 rfl rfl ?_; clear hS; intro a hS
      refine Sq.nil ?_
      refine then_n ?_
      refine c_seq ?_
      refine reg_plain w0 (Nobody) ?_
      refine r_move hS hH.kp0 rfl rfl ?_; clear hS; intro a hS
      refine r_eql hS hH.kp0 rfl rfl rfl ?_; clear hS; intro a hS
      obtain ⟨hcu1, hcu2⟩ := cut_le ids (l := l.drop o) (by simp; omega)
      obtain ⟨N, hN⟩ : ∃ z, cutN (l.drop o) ids = z := ⟨_, rfl⟩
      rw [hN] at hcu1 hcu2
      rw [hrl] at hcu2
      have hcN := hN
      rcases hrq : readQ (l.drop o) ids with bd | ⟨hd, pp⟩
      all_goals rw [hrq] at hrr
      · unfold RdRes at hrr
        have hNv : N = l.length - o := by rw [← hN]; unfold cutN; rw [hrq]; simp
        have hy0 := hrr.2.2.2
        rw [← hrr.2.2.1] at hy0
        refine r_move hS hH.kp0 rfl rfl ?_; clear hS; intro a hS
        refine Sq.guardNo hS rfl rfl (by simpa using hy0) hH.kp0 rfl ?_; clear hS; intro a hS
        refine Sq.guardNo hS rfl rfl (by simpa using hy0) hH.kp0 rfl ?_; clear hS; intro a hS
        refine Sq.guardNo hS rfl rfl (by simpa using hy0) hH.kp0 rfl ?_; clear hS; intro a hS
        refine r_pickF hS hH.kp0 rfl (by simpa using hy0) rfl rfl ?_; clear hS; intro a hS
        refine Sq.nil ?_
        refine then_n ?_
        refine c_condF hS rfl rfl ?_
        refine wp_skip ?_
        refine then_n ?_
        refine c_seq ?_
        refine reg_plain w0 (Nobody) ?_
        refine r_move hS hH.kp0 rfl rfl ?_; clear hS; intro a hS
        refine r_move hS hH.kp0 rfl rfl ?_; clear hS; intro a hS
        refine r_move hS hH.kp0 rfl rfl ?_; clear hS; intro a hS
        refine r_move hS hH.kp0 rfl rfl ?_; clear hS; intro a hS
        refine r_slHiMax (hh := N) hS hH.kp0 rfl rfl rfl Fc.slb22 (by omega) (by omega) (by omega) (by intro q h; cases h; rfl) rfl ?_; clear hS; intro a hS
        refine r_buildSlice (parts := [(0, .tmp 40)]) hS hH (by repeat (first | exact Sub.nil | refine Sub.cons ?_ ?_ | exact In.here | refine In.there ?_)) rfl Fc.bsl32_1 (by rfl) rfl ?_
        clear hS hH; intro a w b41 hb41 hwb41 hS hH
        refine r_append_own2 hS hH rfl rfl (by first | exact .here | exact .there .here | exact .there (.there .here) | exact .there (.there (.there .here)) | exact .there (.there (.there (.there .here))) | exact .there (.there (.there (.there (.there .here)))) | exact .there (.there (.there (.there (.there (.there .here))))) | exact .there (.there (.there (.there (.there (.there (.there .here)))))) | exact .there (.there (.there (.there (.there (.there (.there (.there .here))))))) | exact .there (.there (.there (.there (.there (.there (.there (.there (.there .here)))))))) | exact .there (.there (.there (.there (.there (.there (.there (.there (.there (.there .here))))))))) | exact .there (.there (.there (.there (.there (.there (.there (.there (.there (.there (.there .here)))))))))) | exact .there (.there (.there (.there (.there (.there (.there (.there (.there (.there (.there (.there .here))))))))))) | exact .there (.there (.there (.there (.there (.there (.there (.there (.there (.there (.there (.there (.there .here)))))))))))) | exact .there (.there (.there (.there (.there (.there (.there (.there (.there (.there (.there (.there (.there (.there .here))))))))))))) | exact .there (.there (.there (.there (.there (.there (.there (.there (.there (.there (.there (.there (.there (.there (.there .here))))))))))))))) (by repeat (first | exact Sub.nil | refine Sub.cons ?_ ?_ | exact In.here | refine In.there ?_)) Fc.el32 Fc.ni32 hl9 hm9 (src_one (hH.get .here) rfl) (by have := hlsn; omega) hob0 rfl ?_
        clear hS hH; intro a w ob2 c10 l10 hob2 hl10 hm10 htk10 hmw10 hS hH
        refine r_assign hS hH.kp0 rfl rfl ?_; clear hS; intro a hS
        refine Sq.nil ?_
        refine then_n ?_
        refine reg_plain w0 (Nobody) ?_
        refine r_move hS hH.kp0 rfl rfl ?_; clear hS; intro a hS
        refine r_move hS hH.kp0 rfl rfl ?_; clear hS; intro a hS
        refine r_slLo (ll := N) hS hH.kp0 rfl rfl Fc.slb22 (by omega) (by omega) rfl ?_; clear hS; intro a hS
        refine r_assign hS hH.kp0 rfl rfl ?_; clear hS; intro a hS
        refine Sq.nil ?_
        refine blk_n ?_
        refine then_n ?_
        have hHz := hH.front (b := ob2) (by first | exact .here | exact .there .here | exact .there (.there .here) | exact .there (.there (.there .here)) | exact .there (.there (.there (.there .here))) | exact .there (.there (.there (.there (.there .here)))) | exact .there (.there (.there (.there (.there (.there .here))))) | exact .there (.there (.there (.there (.there (.there (.there .here)))))) | exact .there (.there (.there (.there (.there (.there (.there (.there .here))))))) | exact .there (.there (.there (.there (.there (.there (.there (.there (.there .here)))))))) | exact .there (.there (.there (.there (.there (.there (.there (.there (.there (.there .here))))))))) | exact .there (.there (.there (.there (.there (.there (.there (.there (.there (.there (.there .here)))))))))) | exact .there (.there (.there (.there (.there (.there (.there (.there (.there (.there (.there (.there .here))))))))))) | exact .there (.there (.there (.there (.there (.there (.there (.there (.there (.there (.there (.there (.there .here)))))))))))) | exact .there (.there (.there (.there (.there (.there (.there (.there (.there (.there (.there (.there (.there (.there .here))))))))))))) | exact .there (.there (.there (.there (.there (.there (.there (.there (.there (.there (.there (.there (.there (.there (.there .here)))))))))))))))
        have hNl : ((l.drop o).take N).length = N := by simp; omega
        have hold := hAll
        refine ⟨m - N, by omega, o + N, (.slice (some ⟨ob2, 0, none⟩) (ls.length + 1) c10), ls ++ [(l.drop o).take N], (if cap - o = N then ⟨cb, o, none⟩ else ⟨cb, o + N * 1, none⟩), cap - o - N, by omega, ?_, ?_, ?_, ?_, ?_, ?_⟩
        · intro hlt; rw [if_neg (by omega), Nat.mul_one]; exact ⟨rfl, by omega⟩
        · intro tl htl; rw [List.append_assoc]; refine hold _ ?_; rw [← List.drop_drop] at htl; rw [← hcN] at htl ⊢; exact SplitR.cons _ _ (by simp; omega) htl
        · rw [List.flatten_append, List.length_append, hfl]; simp; omega
        · rw [pieces_snoc, Nat.zero_add, hfl, hNl]
          refine .inr ⟨ob2, c10, l10, ?_, hob2, hHz.get .here, hl10, by rw [List.length_append, List.length_singleton]; exact hm10, ?_⟩
          · rw [List.length_append, List.length_singleton]
          · rw [List.length_append, List.length_singleton, htk10, htk9]
        · rw [show l.length - (o + N) = l.length - o - N from by omega]; exact hS.live ⟨rfl, rfl, rfl, trivial⟩
        · exact hHz.sub (by repeat (first | exact Sub.nil | refine Sub.cons ?_ ?_ | exact In.here | refine In.there ?_)) (by have nd := hHz.nd; simp only [List.map_cons, List.map_nil, List.nodup_cons] at nd ⊢; simp_all)
      · unfold RdRes at hrr
        obtain ⟨⟨dv, sv, tv, gv, hcs, _⟩, hx, hy⟩ := hrr
        subst hy hx
        have hc0k : cs[0]? = some (.int .i64 hd.kind) := by rw [hcs]; rfl
        have hc5k : cs[5]? = some (.int .i64 (hd.len : Int)) := by rw [hcs]; rfl
        refine r_move hS hH.kp0 rfl rfl ?_; clear hS; intro a hS
        refine Sq.guardYes hS rfl rfl rfl ?_
        refine r_fieldAddr hS hH.kp0 rfl Fc.fo26_0 rfl ?_; clear hS; intro a hS
        refine Sq.guardYes hS rfl rfl rfl ?_
        refine r_load_sc (v := .int .i64 hd.kind) hS hH (by repeat (first | exact Sub.nil | refine Sub.cons ?_ ?_ | exact In.here | refine In.there ?_)) rfl (by repeat (first | exact In.here | refine In.there ?_)) Fc.sc3 (by rw [nthV_eq]; exact hc0k) rfl ?_; clear hS; intro a hS
        by_cases hkd : hd.kind ≤ 2
        · have hNv : N = pp + hd.len := by rw [← hN]; unfold cutN; rw [hrq]; simp [hkd]
          refine Sq.guardYes hS rfl rfl rfl ?_
          refine r_leq hS hH.kp0 rfl rfl rfl ?_; clear hS; intro a hS
          refine r_pickT hS hH.kp0 rfl rfl rfl rfl ?_; clear hS; intro a hS
          refine Sq.nil ?_
          refine then_n ?_
          refine c_condT hS rfl (DT hkd) ?_
          refine reg_plain w0 (Nobody) ?_
          refine r_move hS hH.kp0 rfl rfl ?_; clear hS; intro a hS
          refine r_fieldAddr hS hH.kp0 rfl Fc.fo26_5 rfl ?_; clear hS; intro a hS
          refine r_load_sc (v := .int .i64 (hd.len : Int)) hS hH (by repeat (first | exact Sub.nil | refine Sub.cons ?_ ?_ | exact In.here | refine In.there ?_)) rfl (by repeat (first | exact In.here | refine In.there ?_)) Fc.sc3 (by rw [nthV_eq]; exact hc5k) rfl ?_; clear hS; intro a hS
          refine r_add hS hH.kp0 rfl rfl rfl (by omega) ?_; clear hS; intro a hS
          refine r_assign hS hH.kp0 rfl rfl ?_; clear hS; intro a hS
          refine Sq.nil ?_
          refine then_n ?_
          refine c_seq ?_
          refine reg_plain w0 (Nobody) ?_
          refine r_move hS hH.kp0 rfl rfl ?_; clear hS; intro a hS
          refine r_move hS hH.kp0 rfl rfl ?_; clear hS; intro a hS
          refine r_move hS hH.kp0 rfl rfl ?_; clear hS; intro a hS
          refine r_move hS hH.kp0 rfl rfl ?_; clear hS; intro a hS
          refine r_slHiMax (hh := N) hS hH.kp0 rfl rfl rfl Fc.slb22 (by omega) (by omega) (by omega) (by intro q h; cases h; rfl) rfl ?_; clear hS; intro a hS
          refine r_buildSlice (parts := [(0, .tmp 40)]) hS hH (by repeat (first | exact Sub.nil | refine Sub.cons ?_ ?_ | exact In.here | refine In.there ?_)) rfl Fc.bsl32_1 (by rfl) rfl ?_
          clear hS hH; intro a w b41 hb41 hwb41 hS hH
          refine r_append_own2 hS hH rfl rfl (by first | exact .here | exact .there .here | exact .there (.there .here) | exact .there (.there (.there .here)) | exact .there (.there (.there (.there .here))) | exact .there (.there (.there (.there (.there .here)))) | exact .there (.there (.there (.there (.there (.there .here))))) | exact .there (.there (.there (.there (.there (.there (.there .here)))))) | exact .there (.there (.there (.there (.there (.there (.there (.there .here))))))) | exact .there (.there (.there (.there (.there (.there (.there (.there (.there .here)))))))) | exact .there (.there (.there (.there (.there (.there (.there (.there (.there (.there .here))))))))) | exact .there (.there (.there (.there (.there (.there (.there (.there (.there (.there (.there .here)))))))))) | exact .there (.there (.there (.there (.there (.there (.there (.there (.there (.there (.there (.there .here))))))))))) | exact .there (.there (.there (.there (.there (.there (.there (.there (.there (.there (.there (.there (.there .here)))))))))))) | exact .there (.there (.there (.there (.there (.there (.there (.there (.there (.there (.there (.there (.there (.there .here))))))))))))) | exact .there (.there (.there (.there (.there (.there (.there (.there (.there (.there (.there (.there (.there (.there (.there .here))))))))))))))) (by repeat (first | exact Sub.nil | refine Sub.cons ?_ ?_ | exact In.here | refine In.there ?_)) Fc.el32 Fc.ni32 hl9 hm9 (src_one (hH.get .here) rfl) (by have := hlsn; omega) hob0 rfl ?_
          clear hS hH; intro a w ob2 c10 l10 hob2 hl10 hm10 htk10 hmw10 hS hH
          refine r_assign hS hH.kp0 rfl rfl ?_; clear hS; intro a hS
          refine Sq.nil ?_
          refine then_n ?_
          refine reg_plain w0 (Nobody) ?_
          refine r_move hS hH.kp0 rfl rfl ?_; clear hS; intro a hS
          refine r_move hS hH.kp0 rfl rfl ?_; clear hS; intro a hS
          refine r_slLo (ll := N) hS hH.kp0 rfl rfl Fc.slb22 (by omega) (by omega) rfl ?_; clear hS; intro a hS
          refine r_assign hS hH.kp0 rfl rfl ?_; clear hS; intro a hS
          refine Sq.nil ?_
          refine blk_n ?_
          refine then_n ?_
          have hHz := hH.front (b := ob2) (by first | exact .here | exact .there .here | exact .there (.there .here) | exact .there (.there (.there .here)) | exact .there (.there (.there (.there .here))) | exact .there (.there (.there (.there (.there .here)))) | exact .there (.there (.there (.there (.there (.there .here))))) | exact .there (.there (.there (.there (.there (.there (.there .here)))))) | exact .there (.there (.there (.there (.there (.there (.there (.there .here))))))) | exact .there (.there (.there (.there (.there (.there (.there (.there (.there .here)))))))) | exact .there (.there (.there (.there (.there (.there (.there (.there (.there (.there .here))))))))) | exact .there (.there (.there (.there (.there (.there (.there (.there (.there (.there (.there .here)))))))))) | exact .there (.there (.there (.there (.there (.there (.there (.there (.there (.there (.there (.there .here))))))))))) | exact .there (.there (.there (.there (.there (.there (.there (.there (.there (.there (.there (.there (.there .here)))))))))))) | exact .there (.there (.there (.there (.there (.there (.there (.there (.there (.there (.there (.there (.there (.there .here))))))))))))) | exact .there (.there (.there (.there (.there (.there (.there (.there (.there (.there (.there (.there (.there (.there (.there .here)))))))))))))))
          have hNl : ((l.drop o).take N).length = N := by simp; omega
          have hold := hAll
          refine ⟨m - N, by omega, o + N, (.slice (some ⟨ob2, 0, none⟩) (ls.length + 1) c10), ls ++ [(l.drop o).take N], (if cap - o = N then ⟨cb, o, none⟩ else ⟨cb, o + N * 1, none⟩), cap - o - N, by omega, ?_, ?_, ?_, ?_, ?_, ?_⟩
          · intro hlt; rw [if_neg (by omega), Nat.mul_one]; exact ⟨rfl, by omega⟩
          · intro tl htl; rw [List.append_assoc]; refine hold _ ?_; rw [← List.drop_drop] at htl; rw [← hcN] at htl ⊢; exact SplitR.cons _ _ (by simp; omega) htl
          · rw [List.flatten_append, List.length_append, hfl]; simp; omega
          · rw [pieces_snoc, Nat.zero_add, hfl, hNl]
            refine .inr ⟨ob2, c10, l10, ?_, hob2, hHz.get .here, hl10, by rw [List.length_append, List.length_singleton]; exact hm10, ?_⟩
            · rw [List.length_append, List.length_singleton]
            · rw [List.length_append, List.length_singleton, htk10, htk9]
          · rw [show l.length - (o + N) = l.length - o - N from by omega]; exact hS.live ⟨rfl, rfl, rfl, trivial⟩
          · exact hHz.sub (by repeat (first | exact Sub.nil | refine Sub.cons ?_ ?_ | exact In.here | refine In.there ?_)) (by have nd := hHz.nd; simp only [List.map_cons, List.map_nil, List.nodup_cons] at nd ⊢; simp_all)
        · have hNv : N = l.length - o := by rw [← hN]; unfold cutN; rw [hrq]; simp [hkd]
          refine Sq.guardYes hS rfl rfl rfl ?_
          refine r_leq hS hH.kp0 rfl rfl rfl ?_; clear hS; intro a hS
          refine r_pickT hS hH.kp0 rfl rfl rfl rfl ?_; clear hS; intro a hS
          refine Sq.nil ?_
          refine then_n ?_
          refine c_condF hS rfl (DF hkd) ?_
          refine wp_skip ?_
          refine then_n ?_
          refine c_seq ?_
          refine reg_plain w0 (Nobody) ?_
          refine r_move hS hH.kp0 rfl rfl ?_; clear hS; intro a hS
          refine r_move hS hH.kp0 rfl rfl ?_; clear hS; intro a hS
          refine r_move hS hH.kp0 rfl rfl ?_; clear hS; intro a hS
          refine r_move hS hH.kp0 rfl rfl ?_; clear hS; intro a hS
          refine r_slHiMax (hh := N) hS hH.kp0 rfl rfl rfl Fc.slb22 (by omega) (by omega) (by omega) (by intro q h; cases h; rfl) rfl ?_; clear hS; intro a hS
          refine r_buildSlice (parts := [(0, .tmp 40)]) hS hH (by repeat (first | exact Sub.nil | refine Sub.cons ?_ ?_ | exact In.here | refine In.there ?_)) rfl Fc.bsl32_1 (by rfl) rfl ?_
          clear hS hH; intro a w b41 hb41 hwb41 hS hH
          refine r_append_own2 hS hH rfl rfl (by first | exact .here | exact .there .here | exact .there (.there .here) | exact .there (.there (.there .here)) | exact .there (.there (.there (.there .here))) | exact .there (.there (.there (.there (.there .here)))) | exact .there (.there (.there (.there (.there (.there .here))))) | exact .there (.there (.there (.there (.there (.there (.there .here)))))) | exact .there (.there (.there (.there (.there (.there (.there (.there .here))))))) | exact .there (.there (.there (.there (.there (.there (.there (.there (.there .here)))))))) | exact .there (.there (.there (.there (.there (.there (.there (.there (.there (.there .here))))))))) | exact .there (.there (.there (.there (.there (.there (.there (.there (.there (.there (.there .here)))))))))) | exact .there (.there (.there (.there (.there (.there (.there (.there (.there (.there (.there (.there .here))))))))))) | exact .there (.there (.there (.there (.there (.there (.there (.there (.there (.there (.there (.there (.there .here)))))))))))) | exact .there (.there (.there (.there (.there (.there (.there (.there (.there (.there (.there (.there (.there (.there .here))))))))))))) | exact .there (.there (.there (.there (.there (.there (.there (.there (.there (.there (.there (.there (.there (.there (.there .here))))))))))))))) (by repeat (first | exact Sub.nil | refine Sub.cons ?_ ?_ | exact In.here | refine In.there ?_)) Fc.el32 Fc.ni32 hl9 hm9 (src_one (hH.get .here) rfl) (by have := hlsn; omega) hob0 rfl ?_
          clear hS hH; intro a w ob2 c10 l10 hob2 hl10 hm10 htk10 hmw10 hS hH
          refine r_assign hS hH.kp0 rfl rfl ?_; clear hS; intro a hS
          refine Sq.nil ?_
          refine then_n ?_
          refine reg_plain w0 (Nobody) ?_
          refine r_move hS hH.kp0 rfl rfl ?_; clear hS; intro a hS
          refine r_move hS hH.kp0 rfl rfl ?_; clear hS; intro a hS
          refine r_slLo (ll := N) hS hH.kp0 rfl rfl Fc.slb22 (by omega) (by omega) rfl ?_; clear hS; intro a hS
          refine r_assign hS hH.kp0 rfl rfl ?_; clear hS; intro a hS
          refine Sq.nil ?_
          refine blk_n ?_
          refine then_n ?_
          have hHz := hH.front (b := ob2) (by first | exact .here | exact .there .here | exact .there (.there .here) | exact .there (.there (.there .here)) | exact .there (.there (.there (.there .here))) | exact .there (.there (.there (.there (.there .here)))) | exact .there (.there (.there (.there (.there (.there .here))))) | exact .there (.there (.there (.there (.there (.there (.there .here)))))) | exact .there (.there (.there (.there (.there (.there (.there (.there .here))))))) | exact .there (.there (.there (.there (.there (.there (.there (.there (.there .here)))))))) | exact .there (.there (.there (.there (.there (.there (.there (.there (.there (.there .here))))))))) | exact .there (.there (.there (.there (.there (.there (.there (.there (.there (.there (.there .here)))))))))) | exact .there (.there (.there (.there (.there (.there (.there (.there (.there (.there (.there (.there .here))))))))))) | exact .there (.there (.there (.there (.there (.there (.there (.there (.there (.there (.there (.there (.there .here)))))))))))) | exact .there (.there (.there (.there (.there (.there (.there (.there (.there (.there (.there (.there (.there (.there .here))))))))))))) | exact .there (.there (.there (.there (.there (.there (.there (.there (.there (.there (.there (.there (.there (.there (.there .here)))))))))))))))
          have hNl : ((l.drop o).take N).length = N := by simp; omega
          have hold := hAll
          refine ⟨m - N, by omega, o + N, (.slice (some ⟨ob2, 0, none⟩) (ls.length + 1) c10), ls ++ [(l.drop o).take N], (if cap - o = N then ⟨cb, o, none⟩ else ⟨cb, o + N * 1, none⟩), cap - o - N, by omega, ?_, ?_, ?_, ?_, ?_, ?_⟩
          · intro hlt; rw [if_neg (by omega), Nat.mul_one]; exact ⟨rfl, by omega⟩
          · intro tl htl; rw [List.append_assoc]; refine hold _ ?_; rw [← List.drop_drop] at htl; rw [← hcN] at htl ⊢; exact SplitR.cons _ _ (by simp; omega) htl
          · rw [List.flatten_append, List.length_append, hfl]; simp; omega
          · rw [pieces_snoc, Nat.zero_add, hfl, hNl]
            refine .inr ⟨ob2, c10, l10, ?_, hob2, hHz.get .here, hl10, by rw [List.length_append, List.length_singleton]; exact hm10, ?_⟩
            · rw [List.length_append, List.length_singleton]
            · rw [List.length_append, List.length_singleton, htk10, htk9]
          · rw [show l.length - (o + N) = l.length - o - N from by omega]; exact hS.live ⟨rfl, rfl, rfl, trivial⟩
          · exact hHz.sub (by repeat (first | exact Sub.nil | refine Sub.cons ?_ ?_ | exact In.here | refine In.there ?_)) (by have nd := hHz.nd; simp only [List.map_cons, List.map_nil, List.nodup_cons] at nd ⊢; simp_all)
  · have hgt := of_decide_eq_false hc0
    have hoe : o = l.length := by omega
    have hfin := hAll [] (by rw [List.drop_of_length_le (by omega)]; exact SplitR.nil)
    rw [List.append_nil] at hfin
    refine wp_exit ?_
    refine then_e ?_
    refine then_e ?_
    refine blk_hit ?_
    refine then_n ?_
    refine c_seq ?_
    refine reg_plain w0 (Nobody) ?_
    refine r_move hS hH.kp0 rfl rfl ?_; clear hS; intro a hS
    refine r_assign hS hH.kp0 rfl rfl ?_; clear hS; intro a hS
    refine Sq.nil ?_
    refine then_n ?_
    refine wp_ret ?_
    exact leave (.inl rfl) hS rfl (Res.tmp rfl Res.nil) ⟨_, cb, cap, l2, ls, rfl, hfin, hO, hcb0, hH.get (b := cb) (by repeat (first | exact In.here | refine In.there ?_)), hcap, hl2, htk2, hH.mod⟩

end Go.Proofs.YtcenionnedgadaaDoor
