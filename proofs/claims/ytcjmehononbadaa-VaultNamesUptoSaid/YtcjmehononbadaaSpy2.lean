/- For every input of bulk at most 1048576 the law VaultNames returns true and the input reads as it did. Part Spy2: walks and lemmas of the proof. -/
import Derived.Test.YtcjmehononbadaaSpy1
namespace Go.Proofs.Ytcjmehononbadaa
open Go.Sym

theorem Fc.el60 : elB Try.prog 60 = some (22, 1, 24) := by kernel_rfl
theorem Fc.elb : elB Try.prog 41 = some (4, 1, 1) := by kernel_rfl
theorem Fc.fn74 : isFn Try.prog 74 = true := by kernel_rfl
theorem Fc.fn75 : isFn Try.prog 75 = true := by kernel_rfl
theorem Fc.inf22 : (Try.prog.info? 22).isSome = true := by kernel_rfl
theorem Fc.ni60 : notInt Try.prog 60 = true := by kernel_rfl
theorem Fc.pl110 : placesB Try.prog 110 = some [(0, 1), (1, 1), (2, 1)] := by kernel_rfl
theorem Fc.sz106 : sizeB Try.prog 106 1 = true := by kernel_rfl
theorem Fc.sz41 : sizeB Try.prog 41 1 = true := by kernel_rfl
theorem Fc.uls60 : Try.prog.underlying 60 = some (.slice 22) := by kernel_rfl
theorem Fc.zc106 : zcB Try.prog 106 = some [.pointer none] := by kernel_rfl
theorem Fc.zc110 : zcB Try.prog 110 = some [.pointer none, .slice none 0 0, .slice none 0 0] := by kernel_rfl
theorem Fc.zc4 : zcB Try.prog 4 = some [.bool false] := by kernel_rfl
theorem Fc.zc41 : zcB Try.prog 41 = some [.slice none 0 0] := by kernel_rfl
set_option maxRecDepth 100000 in
set_option maxHeartbeats 400000 in
theorem clone_nil (w0 : World) : Calls Try.prog 74 #[.slice none 0 0] w0 fun e w' => e = .returned (.slice none 0 0) ∧ Ext w0 w' := by
  refine enter Try.func74 rfl rfl rfl ?_
  intro a hS
  have hH := Hp.start w0 (Nobody)
  refine c_seq ?_
  refine reg_plain w0 (Nobody) ?_
  refine r_assign hS hH.kp0 rfl rfl ?_; clear hS; intro a hS
  refine Sq.nil ?_
  refine then_n ?_
  refine c_seq ?_
  refine c_seq ?_
  refine reg_plain w0 (Nobody) ?_
  refine r_move hS hH.kp0 rfl rfl ?_; clear hS; intro a hS
  refine r_slNil hS hH.kp0 rfl Fc.isSlice60 rfl ?_; clear hS; intro a hS
  refine Sq.nil ?_
  refine then_n ?_
  refine c_condT hS rfl rfl ?_
  refine c_seq ?_
  refine reg_plain w0 (Nobody) ?_
  refine r_assign hS hH.kp0 rfl rfl ?_; clear hS; intro a hS
  refine Sq.nil ?_
  refine then_n ?_
  refine wp_ret ?_
  refine then_r ?_
  exact leave (.inl rfl) hS rfl (Res.tmp rfl Res.nil) ⟨rfl, hH.mod⟩

set_option maxRecDepth 100000 in
set_option maxHeartbeats 400000 in
theorem clone_sl (q : Addr) (xs : List Value) (m qc : Nat) (w0 : World) (hs : Sl 1 w0 (.slice (some q) m qc) xs m (some q) qc) (h1 : ∀ u ∈ xs, u.oneCell' = true) (hm : m ≤ 1048576) : Calls Try.prog 74 #[.slice (some q) m qc] w0 fun e w' => ∃ (cb cap : Nat) (l2 : List Value), e = .returned (.slice (some ⟨cb, 0, none⟩) m cap) ∧ w0.heap.size ≤ cb ∧ w'.heap[cb]? = some (.cells l2.toArray 22 (0, 0)) ∧ m ≤ cap ∧ l2.length = cap ∧ l2.take m = xs ∧ Ext w0 w' := by
  refine enter Try.func74 rfl rfl rfl ?_
  intro a hS
  have hH := Hp.start w0 (Nobody)
  refine c_seq ?_
  refine reg_plain w0 (Nobody) ?_
  refine r_assign hS hH.kp0 rfl rfl ?_; clear hS; intro a hS
  refine Sq.nil ?_
  refine then_n ?_
  refine c_seq ?_
  refine c_seq ?_
  refine reg_plain w0 (Nobody) ?_
  refine r_move hS hH.kp0 rfl rfl ?_; clear hS; intro a hS
  refine r_slNil hS hH.kp0 rfl Fc.isSlice60 rfl ?_; clear hS; intro a hS
  refine Sq.nil ?_
  refine then_n ?_
  refine c_condF hS rfl rfl ?_
  refine wp_skip ?_
  refine then_n ?_
  refine c_seq ?_
  refine reg_plain w0 (Nobody) ?_
  refine r_buildSlice0 hS hH (by repeat (first | exact Sub.nil | refine Sub.cons ?_ ?_ | exact In.here | refine In.there ?_)) Fc.uls60 Fc.inf22 rfl ?_
  clear hS hH; intro a w b5 hb5 hwb5 hS hH
  refine r_move hS hH.kp0 rfl rfl ?_; clear hS; intro a hS
  refine r_append_own hS hH rfl rfl (by repeat (first | exact .here | apply In.there | apply Put.there | apply Del.there | apply Sw.there)) (by repeat (first | exact Sub.nil | refine Sub.cons ?_ ?_ | exact In.here | refine In.there ?_)) Fc.el60 Fc.ni60 rfl (Nat.le_refl _) ((hs.ext hH.mod).src h1) (by omega) (.inr hb5) rfl ?_
  clear hS hH; intro a w ob cap1 l1 hob hl1 hc1_ htk1 _ hS hH
  refine r_assign hS hH.kp0 rfl rfl ?_; clear hS; intro a hS
  refine Sq.nil ?_
  refine then_n ?_
  refine wp_ret ?_
  rw [Nat.zero_add] at hS hc1_ htk1
  refine leave (.inl rfl) hS rfl (Res.tmp rfl Res.nil) ⟨ob, cap1, l1, rfl, ?_, hH.get .here, hc1_, by omega, ?_, hH.mod⟩
  · rcases hob with h | h; exact h.elim; exact h
  · rw [Nat.mul_one] at htk1; rw [htk1]; simp

set_option maxRecDepth 100000 in
set_option maxHeartbeats 4000000 in
theorem knows_nil (b : Nat) (V : VB) (ts : List Tm) (hm : ts.length ≤ 1000000000) (hwf : Wf ts) (hpos : 0 < ts.length) (w0 : World) (hvi : VI w0 b V ts) :
    Calls Try.prog 55 #[.pointer (some ⟨b, 0, none⟩), .slice none 0 0] w0 fun e w' => ∃ bs bk K, e = .returned (.pointer (some ⟨bs, 0, none⟩)) ∧ w'.heap[bs]? = some (.cells [.pointer (some ⟨b, 0, none⟩), .slice (some ⟨bk, 0, none⟩) ts.length ts.length, .slice none 0 0].toArray 110 (0, 0)) ∧ w'.heap[bk]? = some (.cells (bools K).toArray 4 (0, 0)) ∧ Knows ts [] K ∧ Ext w0 w' ∧ w0.heap.size ≤ bs ∧ w0.heap.size ≤ bk := by
  refine enter Try.func55 rfl rfl rfl ?_
  intro a hS
  have hH := Hp.start w0 (Nobody)
  have h0 := hpos
  have hll : ∀ l ∈ ([] : List (List UInt8)), l.length ≤ 1099511627776 := fun l hl => (by cases hl)
  have hlsl : ([] : List (List UInt8)).length ≤ 1099511627776 := by decide
  replace hH := hH.knowV hvi (by intro p hp; simp at hp)
  refine c_seq ?_
  refine reg_plain w0 (Nobody) ?_
  refine r_box hS hH (by repeat (first | exact Sub.nil | refine Sub.cons ?_ ?_ | exact In.here | refine In.there ?_)) rfl rfl rfl ?_
  clear hS hH; intro a w b2 hb2 hwb2 hS hH
  refine r_assign hS hH.kp0 rfl rfl ?_; clear hS; intro a hS
  refine Sq.nil ?_
  refine then_n ?_
  refine c_cut (fun a w => ∃ (bs bk b5  : Nat), w0.heap.size ≤ bs ∧ w0.heap.size ≤ bk ∧ w0.heap.size ≤ b5 ∧ St 34 (lv [(2, .pointer (some ⟨b2, 0, none⟩)), (5, .pointer (some ⟨b5, 0, none⟩))]) a ∧ Hp w0 Nobody [(bs, .cells [.pointer (some ⟨b, 0, none⟩), .slice (some ⟨bk, 0, none⟩) ts.length ts.length, .slice none 0 0].toArray 110 (0, 0)), (bk, .cells (bools (List.replicate ts.length false)).toArray 4 (0, 0)), (b5, .cells [.pointer (some ⟨bs, 0, none⟩)].toArray 106 (0, 0)), (b2, .cells [.pointer (some ⟨b, 0, none⟩)].toArray 23 (0, 0)), (b, .cells (V.top ts.length).toArray 71 (0, 0)), (V.sb, .cells V.l.toArray 93 (0, 0)), (V.fb, .map V.es V.c), (V.nb, .map V.es' V.c')] w) ?_ ?_
  · refine reg_tree [(true, 0, []), (true, 1, []), (true, 2, []), (true, 3, []), (true, 4, []), (true, 5, []), (false, 6, []), (true, 7, []), (false, 8, []), (true, 9, []), (false, 10, []), (false, 11, []), (false, 12, [])] (PT.ofPlan [(true, 0, []), (true, 1, []), (true, 2, []), (true, 3, []), (true, 4, []), (true, 5, []), (true, 7, [])] (.fork3 (PT.ofPlan [(false, 6, [])] (.fork (PT.ofPlan [(false, 8, []), (true, 9, [])] (.fork (PT.ofPlan [(false, 10, []), (false, 11, []), (false, 12, [])] .nil) (PT.ofPlan [(false, 11, []), (false, 10, []), (false, 12, [])] .nil))) (PT.ofPlan [(false, 11, []), (false, 8, []), (true, 9, []), (false, 10, []), (false, 12, [])] .nil))) (PT.ofPlan [(false, 8, [])] (.fork (PT.ofPlan [(false, 6, []), (true, 9, [])] (.fork (PT.ofPlan [(false, 10, []), (false, 11, []), (false, 12, [])] .nil) (PT.ofPlan [(false, 11, []), (false, 10, []), (false, 12, [])] .nil))) (PT.ofPlan [(false, 11, []), (false, 6, []), (true, 9, []), (false, 10, []), (false, 12, [])] .nil))) (PT.ofPlan [(false, 11, [])] (.fork (PT.ofPlan [(false, 6, []), (false, 8, []), (true, 9, []), (false, 10, []), (false, 12, [])] .nil) (PT.ofPlan [(false, 8, []), (false, 6, []), (true, 9, []), (false, 10, []), (false, 12, [])] .nil))))) Fc.mixed (by kernel_rfl) (by kernel_rfl) (by kernel_rfl) (by kernel_rfl) (by kernel_rfl) (by kernel_rfl) (by repeat (first | with_reducible exact steady_body | with_reducible apply steady_block | with_reducible apply steady_then | exact steady_body)) hH ?_
    replace hH := hH.drew
    refine tr_seg ?_
    refine r_load_scS hS rfl (by repeat (first | exact In.here | refine In.there ?_)) Fc.sc23 (by rfl) rfl ?_; clear hS; intro a hS
    refine r_load_scS hS rfl (by repeat (first | exact In.here | refine In.there ?_)) Fc.sc23 (by rfl) rfl ?_; clear hS; intro a hS
    refine r_nilCheck hS trivial rfl rfl ?_; clear hS; intro a hS
    refine r_fieldAddr hS trivial rfl Fc.fo71_0 rfl ?_; clear hS; intro a hS
    refine r_load_scS hS rfl (by repeat (first | exact In.here | refine In.there ?_)) Fc.sc67 (by rfl) rfl ?_; clear hS; intro a hS
    refine r_lenSl hS trivial rfl Fc.isSlice67 rfl ?_; clear hS; intro a hS
    refine r_move hS trivial rfl rfl ?_; clear hS; intro a hS
    refine Sq.nil ?_
    refine then_n ?_
    refine tr_fork3 ?_ ?_ ?_
    · refine tr_seg ?_
      refine r_makeSl (m := ts.length) (v0 := .bool false) hS hH (by repeat (first | exact Sub.nil | refine Sub.cons ?_ ?_ | exact In.here | refine In.there ?_)) rfl rfl rfl rfl Fc.elb Fc.zc4 (by omega) (by omega) rfl ?_
      clear hS hH; intro a w bk hbk hwbk hS hH
      rw [bools_rep] at hH
      refine Sq.nil ?_
      refine then_n ?_
      refine tr_fork ?_ ?_
      · refine tr_seg ?_
        refine r_call (l := [.tmp 15]) hS rfl rfl Fc.fn74 rfl ?_
        refine Calls.mono (clone_nil _) ?_
        rintro e w1 ⟨rfl, hE⟩
        replace hH := hH.ext hE
        refine ⟨_, rfl, hH.kp (by repeat (first | exact Sub.nil | refine Sub.cons ?_ ?_ | exact In.here | refine In.there ?_)), ?_⟩
        clear hS; intro a hS
        refine r_buildS (parts := [(0, .tmp 8), (1, .tmp 14), (2, .tmp 16)]) hS trivial rfl rfl Fc.zc110 Fc.pl110 (by rfl) ?_; clear hS; intro a hS
        refine Sq.nil ?_
        refine then_n ?_
        refine tr_fork ?_ ?_
        · refine tr_seg ?_
          refine r_box hS hH (by repeat (first | exact Sub.nil | refine Sub.cons ?_ ?_ | exact In.here | refine In.there ?_)) rfl rfl rfl ?_
          clear hS hH; intro a w bs hbs hwbs hS hH
          refine r_alloc hS hH (by repeat (first | exact Sub.nil | refine Sub.cons ?_ ?_ | exact In.here | refine In.there ?_)) Fc.zc106 rfl ?_
          clear hS hH; intro a w b5 hb5 hwb5 hS hH
          refine r_store1 hS hH rfl rfl rfl (by repeat (first | exact .here | apply In.there | apply Put.there | apply Del.there | apply Sw.there)) (by repeat (first | exact Sub.nil | refine Sub.cons ?_ ?_ | exact In.here | refine In.there ?_)) Fc.sz106 (of_decide_eq_true rfl) (.inr (by assumption)) ?_
          clear hH; intro w hH
          refine Sq.nil ?_
          refine then_n ?_
          refine tr_nil ?_
          refine then_n ?_
          have hH2 := ((hH.front (b := b5) (by repeat (first | exact .here | apply In.there | apply Put.there | apply Del.there | apply Sw.there))).front (b := bk) (by repeat (first | exact .here | apply In.there | apply Put.there | apply Del.there | apply Sw.there))).front (b := bs) (by repeat (first | exact .here | apply In.there | apply Put.there | apply Del.there | apply Sw.there))
          exact ⟨bs, bk, b5, hbs, hbk, hb5, hS.live ⟨rfl, rfl, trivial⟩, hH2⟩
        · refine tr_seg ?_
          refine r_alloc hS hH (by repeat (first | exact Sub.nil | refine Sub.cons ?_ ?_ | exact In.here | refine In.there ?_)) Fc.zc106 rfl ?_
          clear hS hH; intro a w b5 hb5 hwb5 hS hH
          refine r_box hS hH (by repeat (first | exact Sub.nil | refine Sub.cons ?_ ?_ | exact In.here | refine In.there ?_)) rfl rfl rfl ?_
          clear hS hH; intro a w bs hbs hwbs hS hH
          refine r_store1 hS hH rfl rfl rfl (by repeat (first | exact .here | apply In.there | apply Put.there | apply Del.there | apply Sw.there)) (by repeat (first | exact Sub.nil | refine Sub.cons ?_ ?_ | exact In.here | refine In.there ?_)) Fc.sz106 (of_decide_eq_true rfl) (.inr (by assumption)) ?_
          clear hH; intro w hH
          refine Sq.nil ?_
          refine then_n ?_
          refine tr_nil ?_
          refine then_n ?_
          have hH2 := ((hH.front (b := b5) (by repeat (first | exact .here | apply In.there | apply Put.there | apply Del.there | apply Sw.there))).front (b := bk) (by repeat (first | exact .here | apply In.there | apply Put.there | apply Del.there | apply Sw.there))).front (b := bs) (by repeat (first | exact .here | apply In.there | apply Put.there | apply Del.there | apply Sw.there))
          exact ⟨bs, bk, b5, hbs, hbk, hb5, hS.live ⟨rfl, rfl, trivial⟩, hH2⟩
      · refine tr_seg ?_
        refine r_alloc hS hH (by repeat (first | exact Sub.nil | refine Sub.cons ?_ ?_ | exact In.here | refine In.there ?_)) Fc.zc106 rfl ?_
        clear hS hH; intro a w b5 hb5 hwb5 hS hH
        refine r_call (l := [.tmp 15]) hS rfl rfl Fc.fn74 rfl ?_
        refine Calls.mono (clone_nil _) ?_
        rintro e w1 ⟨rfl, hE⟩
        replace hH := hH.ext hE
        refine ⟨_, rfl, hH.kp (by repeat (first | exact Sub.nil | refine Sub.cons ?_ ?_ | exact In.here | refine In.there ?_)), ?_⟩
        clear hS; intro a hS
        refine r_buildS (parts := [(0, .tmp 8), (1, .tmp 14), (2, .tmp 16)]) hS trivial rfl rfl Fc.zc110 Fc.pl110 (by rfl) ?_; clear hS; intro a hS
        refine r_box hS hH (by repeat (first | exact Sub.nil | refine Sub.cons ?_ ?_ | exact In.here | refine In.there ?_)) rfl rfl rfl ?_
        clear hS hH; intro a w bs hbs hwbs hS hH
        refine r_store1 hS hH rfl rfl rfl (by repeat (first | exact .here | apply In.there | apply Put.there | apply Del.there | apply Sw.there)) (by repeat (first | exact Sub.nil | refine Sub.cons ?_ ?_ | exact In.here | refine In.there ?_)) Fc.sz106 (of_decide_eq_true rfl) (.inr (by assumption)) ?_
        clear hH; intro w hH
        refine Sq.nil ?_
        refine then_n ?_
        refine tr_nil ?_
        refine then_n ?_
        have hH2 := ((hH.front (b := b5) (by repeat (first | exact .here | apply In.there | apply Put.there | apply Del.there | apply Sw.there))).front (b := bk) (by repeat (first | exact .here | apply In.there | apply Put.there | apply Del.there | apply Sw.there))).front (b := bs) (by repeat (first | exact .here | apply In.there | apply Put.there | apply Del.there | apply Sw.there))
        exact ⟨bs, bk, b5, hbs, hbk, hb5, hS.live ⟨rfl, rfl, trivial⟩, hH2⟩
    · refine tr_seg ?_
      refine r_call (l := [.tmp 15]) hS rfl rfl Fc.fn74 rfl ?_
      refine Calls.mono (clone_nil _) ?_
      rintro e w1 ⟨rfl, hE⟩
      replace hH := hH.ext hE
      refine ⟨_, rfl, hH.kp (by repeat (first | exact Sub.nil | refine Sub.cons ?_ ?_ | exact In.here | refine In.there ?_)), ?_⟩
      clear hS; intro a hS
      refine Sq.nil ?_
      refine then_n ?_
      refine tr_fork ?_ ?_
      · refine tr_seg ?_
        refine r_makeSl (m := ts.length) (v0 := .bool false) hS hH (by repeat (first | exact Sub.nil | refine Sub.cons ?_ ?_ | exact In.here | refine In.there ?_)) rfl rfl rfl rfl Fc.elb Fc.zc4 (by omega) (by omega) rfl ?_
        clear hS hH; intro a w bk hbk hwbk hS hH
        rw [bools_rep] at hH
        refine r_buildS (parts := [(0, .tmp 8), (1, .tmp 14), (2, .tmp 16)]) hS trivial rfl rfl Fc.zc110 Fc.pl110 (by rfl) ?_; clear hS; intro a hS
        refine Sq.nil ?_
        refine then_n ?_
        refine tr_fork ?_ ?_
        · refine tr_seg ?_
          refine r_box hS hH (by repeat (first | exact Sub.nil | refine Sub.cons ?_ ?_ | exact In.here | refine In.there ?_)) rfl rfl rfl ?_
          clear hS hH; intro a w bs hbs hwbs hS hH
          refine r_alloc hS hH (by repeat (first | exact Sub.nil | refine Sub.cons ?_ ?_ | exact In.here | refine In.there ?_)) Fc.zc106 rfl ?_
          clear hS hH; intro a w b5 hb5 hwb5 hS hH
          refine r_store1 hS hH rfl rfl rfl (by repeat (first | exact .here | apply In.there | apply Put.there | apply Del.there | apply Sw.there)) (by repeat (first | exact Sub.nil | refine Sub.cons ?_ ?_ | exact In.here | refine In.there ?_)) Fc.sz106 (of_decide_eq_true rfl) (.inr (by assumption)) ?_
          clear hH; intro w hH
          refine Sq.nil ?_
          refine then_n ?_
          refine tr_nil ?_
          refine then_n ?_
          have hH2 := ((hH.front (b := b5) (by repeat (first | exact .here | apply In.there | apply Put.there | apply Del.there | apply Sw.there))).front (b := bk) (by repeat (first | exact .here | apply In.there | apply Put.there | apply Del.there | apply Sw.there))).front (b := bs) (by repeat (first | exact .here | apply In.there | apply Put.there | apply Del.there | apply Sw.there))
          exact ⟨bs, bk, b5, hbs, hbk, hb5, hS.live ⟨rfl, rfl, trivial⟩, hH2⟩
        · refine tr_seg ?_
          refine r_alloc hS hH (by repeat (first | exact Sub.nil | refine Sub.cons ?_ ?_ | exact In.here | refine In.there ?_)) Fc.zc106 rfl ?_
          clear hS hH; intro a w b5 hb5 hwb5 hS hH
          refine r_box hS hH (by repeat (first | exact Sub.nil | refine Sub.cons ?_ ?_ | exact In.here | refine In.there ?_)) rfl rfl rfl ?_
          clear hS hH; intro a w bs hbs hwbs hS hH
          refine r_store1 hS hH rfl rfl rfl (by repeat (first | exact .here | apply In.there | apply Put.there | apply Del.there | apply Sw.there)) (by repeat (first | exact Sub.nil | refine Sub.cons ?_ ?_ | exact In.here | refine In.there ?_)) Fc.sz106 (of_decide_eq_true rfl) (.inr (by assumption)) ?_
          clear hH; intro w hH
          refine Sq.nil ?_
          refine then_n ?_
          refine tr_nil ?_
          refine then_n ?_
          have hH2 := ((hH.front (b := b5) (by repeat (first | exact .here | apply In.there | apply Put.there | apply Del.there | apply Sw.there))).front (b := bk) (by repeat (first | exact .here | apply In.there | apply Put.there | apply Del.there | apply Sw.there))).front (b := bs) (by repeat (first | exact .here | apply In.there | apply Put.there | apply Del.there | apply Sw.there))
          exact ⟨bs, bk, b5, hbs, hbk, hb5, hS.live ⟨rfl, rfl, trivial⟩, hH2⟩
      · refine tr_seg ?_
        refine r_alloc hS hH (by repeat (first | exact Sub.nil | refine Sub.cons ?_ ?_ | exact In.here | refine In.there ?_)) Fc.zc106 rfl ?_
        clear hS hH; intro a w b5 hb5 hwb5 hS hH
        refine r_makeSl (m := ts.length) (v0 := .bool false) hS hH (by repeat (first | exact Sub.nil | refine Sub.cons ?_ ?_ | exact In.here | refine In.there ?_)) rfl rfl rfl rfl Fc.elb Fc.zc4 (by omega) (by omega) rfl ?_
        clear hS hH; intro a w bk hbk hwbk hS hH
        rw [bools_rep] at hH
        refine r_buildS (parts := [(0, .tmp 8), (1, .tmp 14), (2, .tmp 16)]) hS trivial rfl rfl Fc.zc110 Fc.pl110 (by rfl) ?_; clear hS; intro a hS
        refine r_box hS hH (by repeat (first | exact Sub.nil | refine Sub.cons ?_ ?_ | exact In.here | refine In.there ?_)) rfl rfl rfl ?_
        clear hS hH; intro a w bs hbs hwbs hS hH
        refine r_store1 hS hH rfl rfl rfl (by repeat (first | exact .here | apply In.there | apply Put.there | apply Del.there | apply Sw.there)) (by repeat (first | exact Sub.nil | refine Sub.cons ?_ ?_ | exact In.here | refine In.there ?_)) Fc.sz106 (of_decide_eq_true rfl) (.inr (by assumption)) ?_
        clear hH; intro w hH
        refine Sq.nil ?_
        refine then_n ?_
        refine tr_nil ?_
        refine then_n ?_
        have hH2 := ((hH.front (b := b5) (by repeat (first | exact .here | apply In.there | apply Put.there | apply Del.there | apply Sw.there))).front (b := bk) (by repeat (first | exact .here | apply In.there | apply Put.there | apply Del.there | apply Sw.there))).front (b := bs) (by repeat (first | exact .here | apply In.there | apply Put.there | apply Del.there | apply Sw.there))
        exact ⟨bs, bk, b5, hbs, hbk, hb5, hS.live ⟨rfl, rfl, trivial⟩, hH2⟩
    · refine tr_seg ?_
      refine r_alloc hS hH (by repeat (first | exact Sub.nil | refine Sub.cons ?_ ?_ | exact In.here | refine In.there ?_)) Fc.zc106 rfl ?_
      clear hS hH; intro a w b5 hb5 hwb5 hS hH
      refine Sq.nil ?_
      refine then_n ?_
      refine tr_fork ?_ ?_
      · refine tr_seg ?_
        refine r_makeSl (m := ts.length) (v0 := .bool false) hS hH (by repeat (first | exact Sub.nil | refine Sub.cons ?_ ?_ | exact In.here | refine In.there ?_)) rfl rfl rfl rfl Fc.elb Fc.zc4 (by omega) (by omega) rfl ?_
        clear hS hH; intro a w bk hbk hwbk hS hH
        rw [bools_rep] at hH
        refine r_call (l := [.tmp 15]) hS rfl rfl Fc.fn74 rfl ?_
        refine Calls.mono (clone_nil _) ?_
        rintro e w1 ⟨rfl, hE⟩
        replace hH := hH.ext hE
        refine ⟨_, rfl, hH.kp (by repeat (first | exact Sub.nil | refine Sub.cons ?_ ?_ | exact In.here | refine In.there ?_)), ?_⟩
        clear hS; intro a hS
        refine r_buildS (parts := [(0, .tmp 8), (1, .tmp 14), (2, .tmp 16)]) hS trivial rfl rfl Fc.zc110 Fc.pl110 (by rfl) ?_; clear hS; intro a hS
        refine r_box hS hH (by repeat (first | exact Sub.nil | refine Sub.cons ?_ ?_ | exact In.here | refine In.there ?_)) rfl rfl rfl ?_
        clear hS hH; intro a w bs hbs hwbs hS hH
        refine r_store1 hS hH rfl rfl rfl (by repeat (first | exact .here | apply In.there | apply Put.there | apply Del.there | apply Sw.there)) (by repeat (first | exact Sub.nil | refine Sub.cons ?_ ?_ | exact In.here | refine In.there ?_)) Fc.sz106 (of_decide_eq_true rfl) (.inr (by assumption)) ?_
        clear hH; intro w hH
        refine Sq.nil ?_
        refine then_n ?_
        refine tr_nil ?_
        refine then_n ?_
        have hH2 := ((hH.front (b := b5) (by repeat (first | exact .here | apply In.there | apply Put.there | apply Del.there | apply Sw.there))).front (b := bk) (by repeat (first | exact .here | apply In.there | apply Put.there | apply Del.there | apply Sw.there))).front (b := bs) (by repeat (first | exact .here | apply In.there | apply Put.there | apply Del.there | apply Sw.there))
        exact ⟨bs, bk, b5, hbs, hbk, hb5, hS.live ⟨rfl, rfl, trivial⟩, hH2⟩
      · refine tr_seg ?_
        refine r_call (l := [.tmp 15]) hS rfl rfl Fc.fn74 rfl ?_
        refine Calls.mono (clone_nil _) ?_
        rintro e w1 ⟨rfl, hE⟩
        replace hH := hH.ext hE
        refine ⟨_, rfl, hH.kp (by repeat (first | exact Sub.nil | refine Sub.cons ?_ ?_ | exact In.here | refine In.there ?_)), ?_⟩
        clear hS; intro a hS
        refine r_makeSl (m := ts.length) (v0 := .bool false) hS hH (by repeat (first | exact Sub.nil | refine Sub.cons ?_ ?_ | exact In.here | refine In.there ?_)) rfl rfl rfl rfl Fc.elb Fc.zc4 (by omega) (by omega) rfl ?_
        clear hS hH; intro a w bk hbk hwbk hS hH
        rw [bools_rep] at hH
        refine r_buildS (parts := [(0, .tmp 8), (1, .tmp 14), (2, .tmp 16)]) hS trivial rfl rfl Fc.zc110 Fc.pl110 (by rfl) ?_; clear hS; intro a hS
        refine r_box hS hH (by repeat (first | exact Sub.nil | refine Sub.cons ?_ ?_ | exact In.here | refine In.there ?_)) rfl rfl rfl ?_
        clear hS hH; intro a w bs hbs hwbs hS hH
        refine r_store1 hS hH rfl rfl rfl (by repeat (first | exact .here | apply In.there | apply Put.there | apply Del.there | apply Sw.there)) (by repeat (first | exact Sub.nil | refine Sub.cons ?_ ?_ | exact In.here | refine In.there ?_)) Fc.sz106 (of_decide_eq_true rfl) (.inr (by assumption)) ?_
        clear hH; intro w hH
        refine Sq.nil ?_
        refine then_n ?_
        refine tr_nil ?_
        refine then_n ?_
        have hH2 := ((hH.front (b := b5) (by repeat (first | exact .here | apply In.there | apply Put.there | apply Del.there | apply Sw.there))).front (b := bk) (by repeat (first | exact .here | apply In.there | apply Put.there | apply Del.there | apply Sw.there))).front (b := bs) (by repeat (first | exact .here | apply In.there | apply Put.there | apply Del.there | apply Sw.there))
        exact ⟨bs, bk, b5, hbs, hbk, hb5, hS.live ⟨rfl, rfl, trivial⟩, hH2⟩
  clear hS hH; intro a w hJ; obtain ⟨bs, bk, b5, hbs, hbk, hb5, hS, hH⟩ := hJ
  refine c_seq ?_
  refine reg_plain w0 (Nobody) ?_
  refine r_load_sc hS hH (by repeat (first | exact Sub.nil | refine Sub.cons ?_ ?_ | exact In.here | refine In.there ?_)) rfl (by repeat (first | exact In.here | refine In.there ?_)) Fc.sc106 (by rfl) rfl ?_; clear hS; intro a hS
  refine r_nilCheck hS hH.kp0 rfl rfl ?_; clear hS; intro a hS
  refine r_fieldAddr hS hH.kp0 rfl Fc.fo110_1 rfl ?_; clear hS; intro a hS
  refine r_load_sc hS hH (by repeat (first | exact Sub.nil | refine Sub.cons ?_ ?_ | exact In.here | refine In.there ?_)) rfl (by repeat (first | exact In.here | refine In.there ?_)) Fc.sc41 (by rfl) rfl ?_; clear hS; intro a hS
  refine r_indexAddrS (j := 0) hS hH.kp0 rfl rfl Fc.slb41 rfl h0 rfl ?_; clear hS; intro a hS
  refine r_store1 hS hH rfl rfl rfl (by repeat (first | exact .here | apply In.there | apply Put.there | apply Del.there | apply Sw.there)) (by repeat (first | exact Sub.nil | refine Sub.cons ?_ ?_ | exact In.here | refine In.there ?_)) Fc.sz4 (by rw [bools_len]; simpa using h0) (.inr hbk) ?_; clear hH; intro w hH
  rw [spl_bools (by simpa using h0)] at hH
  refine Sq.nil ?_
  refine then_n ?_
  refine c_seq ?_
  refine reg_plain w0 (Nobody) ?_
  refine r_load_sc hS hH (by repeat (first | exact Sub.nil | refine Sub.cons ?_ ?_ | exact In.here | refine In.there ?_)) rfl (by repeat (first | exact In.here | refine In.there ?_)) Fc.sc23 (by rfl) rfl ?_; clear hS; intro a hS
  refine r_nilCheck hS hH.kp0 rfl rfl ?_; clear hS; intro a hS
  refine r_fieldAddr hS hH.kp0 rfl Fc.fo71_0 rfl ?_; clear hS; intro a hS
  refine r_load_sc hS hH (by repeat (first | exact Sub.nil | refine Sub.cons ?_ ?_ | exact In.here | refine In.there ?_)) rfl (by repeat (first | exact In.here | refine In.there ?_)) Fc.sc67 (by rfl) rfl ?_; clear hS; intro a hS
  refine r_lenSl hS hH.kp0 rfl Fc.isSlice67 rfl ?_; clear hS; intro a hS
  refine r_makeSl (m := ts.length) (v0 := .bool false) hS hH (by repeat (first | exact Sub.nil | refine Sub.cons ?_ ?_ | exact In.here | refine In.there ?_)) rfl rfl rfl rfl Fc.elb Fc.zc4 (by omega) (by omega) rfl ?_
  clear hS hH; intro a w bo hbo hwbo hS hH
  rw [bools_rep] at hH
  refine r_alloc hS hH (by repeat (first | exact Sub.nil | refine Sub.cons ?_ ?_ | exact In.here | refine In.there ?_)) Fc.zc41 rfl ?_
  clear hS hH; intro a w b6 hb6 hwb6 hS hH
  refine r_store1 hS hH rfl rfl rfl (by repeat (first | exact .here | apply In.there | apply Put.there | apply Del.there | apply Sw.there)) (by repeat (first | exact Sub.nil | refine Sub.cons ?_ ?_ | exact In.here | refine In.there ?_)) Fc.sz41 (of_decide_eq_true rfl) (by first | exact .inr (by assumption) | exact .inl (by first | assumption | rfl)) ?_
  clear hH; intro w hH
  refine Sq.nil ?_
  refine then_n ?_
  refine c_seq ?_
  refine reg_plain w0 (Nobody) ?_
  refine r_makeFunc hS hH.kp0 rfl rfl rfl ?_; clear hS; intro a hS
  refine r_assign hS hH.kp0 rfl rfl ?_; clear hS; intro a hS
  refine Sq.nil ?_
  refine then_n ?_
  refine c_seq ?_
  refine wp_block ?_
  refine c_loop (fun m a w => ∃ (K : List Bool) (tdv : Value) (ls1 : List (List UInt8)), m + cnt K = ts.length ∧ KnowI ts [] ls1 K ∧ SlG (fun x => x = bk ∨ x = bs) w tdv ls1 ∧ (∀ l ∈ ls1, l.length ≤ 1099511627776) ∧ ls1.length ≤ 1099511627776 ∧ St 34 (lv [(5, .pointer (some ⟨b5, 0, none⟩)), (7, .func (.func 75) #[] #[.pointer (some ⟨b5, 0, none⟩), .pointer (some ⟨b2, 0, none⟩), .pointer (some ⟨b6, 0, none⟩)])]) a ∧ Hp w0 Nobody [(b6, .cells [.slice (some ⟨bo, 0, none⟩) ts.length ts.length].toArray 41 (0, 0)), (bo, .cells (bools (List.replicate ts.length false)).toArray 4 (0, 0)), (bs, .cells [.pointer (some ⟨b, 0, none⟩), .slice (some ⟨bk, 0, none⟩) ts.length ts.length, tdv].toArray 110 (0, 0)), (bk, .cells (bools K).toArray 4 (0, 0)), (b5, .cells [.pointer (some ⟨bs, 0, none⟩)].toArray 106 (0, 0)), (b2, .cells [.pointer (some ⟨b, 0, none⟩)].toArray 23 (0, 0)), (b, .cells (V.top ts.length).toArray 71 (0, 0)), (V.sb, .cells V.l.toArray 93 (0, 0)), (V.fb, .map V.es V.c), (V.nb, .map V.es' V.c')] w) (ts.length - cnt ((List.replicate ts.length false).set 0 true)) ?_ ?_
  · have hsg : SlG (fun x => x = bk ∨ x = bs) w (.slice none 0 0) [] := SlG.nil _ _
    exact ⟨((List.replicate ts.length false).set 0 true), _, [], by have := cnt_le ((List.replicate ts.length false).set 0 true); rw [List.length_set, List.length_replicate] at this; omega, KnowI.start h0, hsg, hll, hlsl, hS.live ⟨rfl, rfl, trivial⟩, hH⟩
  clear hS hH; intro m a w hI; obtain ⟨K, tdv, ls1, hmc, hKI, hsg, hll1, hls1, hS, hH⟩ := hI
  refine c_seq ?_
  refine c_seq ?_
  refine reg_plain w0 (Nobody) ?_
  refine r_move hS hH.kp0 rfl rfl ?_; clear hS; intro a hS
  refine r_call (l := []) hS rfl rfl Fc.fn75 rfl ?_
  refine Calls.mono (step_v b V ts hm hwf b5 b2 b6 bs bk tdv ls1 hll1 hls1 K hKI.len _ (hH.vin hvi.ok hvi.n01 hvi.n23 (by repeat (first | exact In.here | refine In.there ?_)) (by repeat (first | exact In.here | refine In.there ?_)) (by repeat (first | exact In.here | refine In.there ?_)) (by repeat (first | exact In.here | refine In.there ?_))) (hH.get (b := bs) (by repeat (first | exact In.here | refine In.there ?_))) (hH.get (b := bk) (by repeat (first | exact In.here | refine In.there ?_))) (hH.get (b := b5) (by repeat (first | exact In.here | refine In.there ?_))) (hH.get (b := b2) (by repeat (first | exact In.here | refine In.there ?_))) hsg) ?_
  rintro e w1 ⟨more, K2, rfl, hbs2, hbk2, hSR, hM⟩
  have nbk : bs ≠ bk := hH.ne (x := bs) (y := bk) (.cons (by repeat (first | exact .here | apply In.there | apply Put.there | apply Del.there | apply Sw.there)) (.cons (by repeat (first | exact .here | apply In.there | apply Put.there | apply Del.there | apply Sw.there)) .nil)) (by intro h; injection h with _ h2 _; revert h2; decide)
  replace hH := hH.swap2 nbk hM hbs2 hbk2 (.inr hbs) (.inr hbk) (by first | exact .two | exact .there .two | exact .there (.there .two) | exact .there (.there (.there .two)) | exact .there (.there (.there (.there .two))) | exact .there (.there (.there (.there (.there .two)))) | exact .there (.there (.there (.there (.there (.there .two))))) | exact .there (.there (.there (.there (.there (.there (.there .two)))))) | exact .there (.there (.there (.there (.there (.there (.there (.there .two))))))) | exact .there (.there (.there (.there (.there (.there (.there (.there (.there .two)))))))))
  refine ⟨_, rfl, hH.kp0, ?_⟩
  clear hS; intro a hS
  refine Sq.nil ?_
  refine then_n ?_
  refine c_cond hS rfl (fun hc0 => ?_) (fun hc0 => ?_)
  · have hcn := hSR.yes hc0
    have hcl := cnt_le K2
    have hKL := hSR.len
    refine wp_skip ?_
    refine then_n ?_
    refine wp_block ?_
    refine wp_skip ?_
    refine blk_n ?_
    refine then_n ?_
    exact ⟨m - (cnt K2 - cnt K), by omega, K2, _, [], by omega, hKI.next hSR, SlG.nil _ _, fun l hl => (by cases hl), Nat.zero_le _, hS.live ⟨rfl, rfl, trivial⟩, hH⟩
  · subst hc0
    have hKN := hKI.done hSR
    refine wp_exit ?_
    refine then_e ?_
    refine then_e ?_
    refine blk_hit ?_
    refine then_n ?_
    refine c_seq ?_
    refine reg_plain w0 (Nobody) ?_
    refine r_load_sc hS hH (by repeat (first | exact Sub.nil | refine Sub.cons ?_ ?_ | exact In.here | refine In.there ?_)) rfl (by repeat (first | exact In.here | refine In.there ?_)) Fc.sc106 (by rfl) rfl ?_; clear hS; intro a hS
    refine r_assign hS hH.kp0 rfl rfl ?_; clear hS; intro a hS
    refine Sq.nil ?_
    refine then_n ?_
    refine wp_ret ?_
    exact leave (.inl rfl) hS rfl (Res.tmp rfl Res.nil) ⟨bs, bk, K2, rfl, hH.get (b := bs) (by repeat (first | exact In.here | refine In.there ?_)), hH.get (b := bk) (by repeat (first | exact In.here | refine In.there ?_)), hKN, hH.mod, hbs, hbk⟩

set_option maxRecDepth 100000 in
set_option maxHeartbeats 4000000 in
theorem knows_sl (b : Nat) (V : VB) (ts : List Tm) (hm : ts.length ≤ 1000000000) (hwf : Wf ts) (hpos : 0 < ts.length) (q : Addr) (qc : Nat) (ls : List (List UInt8)) (hll : ∀ l ∈ ls, l.length ≤ 1099511627776) (hls2 : ls.length ≤ 1048576) (xs : List Value) (w0 : World) (hvi : VI w0 b V ts) (hsl0 : ∀ w', Ext w0 w' → Sl 1 w' (.slice (some q) ls.length qc) xs ls.length (some q) qc) (hall : ∀ (i : Nat) (x : Value), xs[i]? = some x → ∃ l, ls[i]? = some l ∧ BsF Nobody w0 x l) :
    Calls Try.prog 55 #[.pointer (some ⟨b, 0, none⟩), .slice (some q) ls.length qc] w0 fun e w' => ∃ bs bk K, e = .returned (.pointer (some ⟨bs, 0, none⟩)) ∧ w'.heap[bs]? = some (.cells [.pointer (some ⟨b, 0, none⟩), .slice (some ⟨bk, 0, none⟩) ts.length ts.length, .slice none 0 0].toArray 110 (0, 0)) ∧ w'.heap[bk]? = some (.cells (bools K).toArray 4 (0, 0)) ∧ Knows ts ls K ∧ Ext w0 w' ∧ w0.heap.size ≤ bs ∧ w0.heap.size ≤ bk := by
  refine enter Try.func55 rfl rfl rfl ?_
  intro a hS
  have hH := Hp.start w0 (Nobody)
  have h0 := hpos
  have hlsl : ls.length ≤ 1099511627776 := by omega
  have hx1 : ∀ u ∈ xs, u.oneCell' = true := by intro u hu; obtain ⟨i, hi⟩ := List.getElem?_of_mem hu; obtain ⟨l, _, hb⟩ := hall i u hi; obtain ⟨p9, c9, hs9⟩ := hb.bs; rw [hs9.val]; rfl
  replace hH := hH.knowV hvi (by intro p hp; simp at hp)
  refine c_seq ?_
  refine reg_plain w0 (Nobody) ?_
  refine r_box hS hH (by repeat (first | exact Sub.nil | refine Sub.cons ?_ ?_ | exact In.here | refine In.there ?_)) rfl rfl rfl ?_
  clear hS hH; intro a w b2 hb2 hwb2 hS hH
  refine r_assign hS hH.kp0 rfl rfl ?_; clear hS; intro a hS
  refine Sq.nil ?_
  refine then_n ?_
  refine c_cut (fun a w => ∃ (bs bk b5 cb cap : Nat) (l2 : List Value), w0.heap.size ≤ bs ∧ w0.heap.size ≤ bk ∧ w0.heap.size ≤ b5 ∧ w0.heap.size ≤ cb ∧ ls.length ≤ cap ∧ l2.length = cap ∧ l2.take ls.length = xs ∧ St 34 (lv [(2, .pointer (some ⟨b2, 0, none⟩)), (5, .pointer (some ⟨b5, 0, none⟩))]) a ∧ Hp w0 Nobody [(bs, .cells [.pointer (some ⟨b, 0, none⟩), .slice (some ⟨bk, 0, none⟩) ts.length ts.length, .slice (some ⟨cb, 0, none⟩) ls.length cap].toArray 110 (0, 0)), (bk, .cells (bools (List.replicate ts.length false)).toArray 4 (0, 0)), (b5, .cells [.pointer (some ⟨bs, 0, none⟩)].toArray 106 (0, 0)), (cb, .cells l2.toArray 22 (0, 0)), (b2, .cells [.pointer (some ⟨b, 0, none⟩)].toArray 23 (0, 0)), (b, .cells (V.top ts.length).toArray 71 (0, 0)), (V.sb, .cells V.l.toArray 93 (0, 0)), (V.fb, .map V.es V.c), (V.nb, .map V.es' V.c')] w) ?_ ?_
  · refine reg_tree [(true, 0, []), (true, 1, []), (true, 2, []), (true, 3, []), (true, 4, []), (true, 5, []), (false, 6, []), (true, 7, []), (false, 8, []), (true, 9, []), (false, 10, []), (false, 11, []), (false, 12, [])] (PT.ofPlan [(true, 0, []), (true, 1, []), (true, 2, []), (true, 3, []), (true, 4, []), (true, 5, []), (true, 7, [])] (.fork3 (PT.ofPlan [(false, 6, [])] (.fork (PT.ofPlan [(false, 8, []), (true, 9, [])] (.fork (PT.ofPlan [(false, 10, []), (false, 11, []), (false, 12, [])] .nil) (PT.ofPlan [(false, 11, []), (false, 10, []), (false, 12, [])] .nil))) (PT.ofPlan [(false, 11, []), (false, 8, []), (true, 9, []), (false, 10, []), (false, 12, [])] .nil))) (PT.ofPlan [(false, 8, [])] (.fork (PT.ofPlan [(false, 6, []), (true, 9, [])] (.fork (PT.ofPlan [(false, 10, []), (false, 11, []), (false, 12, [])] .nil) (PT.ofPlan [(false, 11, []), (false, 10, []), (false, 12, [])] .nil))) (PT.ofPlan [(false, 11, []), (false, 6, []), (true, 9, []), (false, 10, []), (false, 12, [])] .nil))) (PT.ofPlan [(false, 11, [])] (.fork (PT.ofPlan [(false, 6, []), (false, 8, []), (true, 9, []), (false, 10, []), (false, 12, [])] .nil) (PT.ofPlan [(false, 8, []), (false, 6, []), (true, 9, []), (false, 10, []), (false, 12, [])] .nil))))) Fc.mixed (by kernel_rfl) (by kernel_rfl) (by kernel_rfl) (by kernel_rfl) (by kernel_rfl) (by kernel_rfl) (by repeat (first | with_reducible exact steady_body | with_reducible apply steady_block | with_reducible apply steady_then | exact steady_body)) hH ?_
    replace hH := hH.drew
    refine tr_seg ?_
    refine r_load_scS hS rfl (by repeat (first | exact In.here | refine In.there ?_)) Fc.sc23 (by rfl) rfl ?_; clear hS; intro a hS
    refine r_load_scS hS rfl (by repeat (first | exact In.here | refine In.there ?_)) Fc.sc23 (by rfl) rfl ?_; clear hS; intro a hS
    refine r_nilCheck hS trivial rfl rfl ?_; clear hS; intro a hS
    refine r_fieldAddr hS trivial rfl Fc.fo71_0 rfl ?_; clear hS; intro a hS
    refine r_load_scS hS rfl (by repeat (first | exact In.here | refine In.there ?_)) Fc.sc67 (by rfl) rfl ?_; clear hS; intro a hS
    refine r_lenSl hS trivial rfl Fc.isSlice67 rfl ?_; clear hS; intro a hS
    refine r_move hS trivial rfl rfl ?_; clear hS; intro a hS
    refine Sq.nil ?_
    refine then_n ?_
    refine tr_fork3 ?_ ?_ ?_
    · refine tr_seg ?_
      refine r_makeSl (m := ts.length) (v0 := .bool false) hS hH (by repeat (first | exact Sub.nil | refine Sub.cons ?_ ?_ | exact In.here | refine In.there ?_)) rfl rfl rfl rfl Fc.elb Fc.zc4 (by omega) (by omega) rfl ?_
      clear hS hH; intro a w bk hbk hwbk hS hH
      rw [bools_rep] at hH
      refine Sq.nil ?_
      refine then_n ?_
      refine tr_fork ?_ ?_
      · refine tr_seg ?_
        refine r_call (l := [.tmp 15]) hS rfl rfl Fc.fn74 rfl ?_
        refine Calls.mono (clone_sl q xs ls.length qc _ (hsl0 _ hH.mod) hx1 (by omega)) ?_
        rintro e w1 ⟨cb, cap, l2, rfl, hcb, hcbk, hcap, hl2, htk2, hE⟩
        have hlt := fun (p : Nat × Obj) hp => lt_of_block (hH.blk p hp)
        have hcb0 := Nat.le_trans hH.mod.size hcb
        replace hH := (hH.ext hE).know hcbk (fun p hp e => by have h1 := hlt p hp; omega)
        refine ⟨_, rfl, hH.kp (by repeat (first | exact Sub.nil | refine Sub.cons ?_ ?_ | exact In.here | refine In.there ?_)), ?_⟩
        clear hS; intro a hS
        refine r_buildS (parts := [(0, .tmp 8), (1, .tmp 14), (2, .tmp 16)]) hS trivial rfl rfl Fc.zc110 Fc.pl110 (by rfl) ?_; clear hS; intro a hS
        refine Sq.nil ?_
        refine then_n ?_
        refine tr_fork ?_ ?_
        · refine tr_seg ?_
          refine r_box hS hH (by repeat (first | exact Sub.nil | refine Sub.cons ?_ ?_ | exact In.here | refine In.there ?_)) rfl rfl rfl ?_
          clear hS hH; intro a w bs hbs hwbs hS hH
          refine r_alloc hS hH (by repeat (first | exact Sub.nil | refine Sub.cons ?_ ?_ | exact In.here | refine In.there ?_)) Fc.zc106 rfl ?_
          clear hS hH; intro a w b5 hb5 hwb5 hS hH
          refine r_store1 hS hH rfl rfl rfl (by repeat (first | exact .here | apply In.there | apply Put.there | apply Del.there | apply Sw.there)) (by repeat (first | exact Sub.nil | refine Sub.cons ?_ ?_ | exact In.here | refine In.there ?_)) Fc.sz106 (of_decide_eq_true rfl) (.inr (by assumption)) ?_
          clear hH; intro w hH
          refine Sq.nil ?_
          refine then_n ?_
          refine tr_nil ?_
          refine then_n ?_
          have hH2 := (((hH.front (b := cb) (by repeat (first | exact .here | apply In.there | apply Put.there | apply Del.there | apply Sw.there))).front (b := b5) (by repeat (first | exact .here | apply In.there | apply Put.there | apply Del.there | apply Sw.there))).front (b := bk) (by repeat (first | exact .here | apply In.there | apply Put.there | apply Del.there | apply Sw.there))).front (b := bs) (by repeat (first | exact .here | apply In.there | apply Put.there | apply Del.there | apply Sw.there))
          exact ⟨bs, bk, b5, cb, cap, l2, hbs, hbk, hb5, hcb0, hcap, hl2, htk2, hS.live ⟨rfl, rfl, trivial⟩, hH2⟩
        · refine tr_seg ?_
          refine r_alloc hS hH (by repeat (first | exact Sub.nil | refine Sub.cons ?_ ?_ | exact In.here | refine In.there ?_)) Fc.zc106 rfl ?_
          clear hS hH; intro a w b5 hb5 hwb5 hS hH
          refine r_box hS hH (by repeat (first | exact Sub.nil | refine Sub.cons ?_ ?_ | exact In.here | refine In.there ?_)) rfl rfl rfl ?_
          clear hS hH; intro a w bs hbs hwbs hS hH
          refine r_store1 hS hH rfl rfl rfl (by repeat (first | exact .here | apply In.there | apply Put.there | apply Del.there | apply Sw.there)) (by repeat (first | exact Sub.nil | refine Sub.cons ?_ ?_ | exact In.here | refine In.there ?_)) Fc.sz106 (of_decide_eq_true rfl) (.inr (by assumption)) ?_
          clear hH; intro w hH
          refine Sq.nil ?_
          refine then_n ?_
          refine tr_nil ?_
          refine then_n ?_
          have hH2 := (((hH.front (b := cb) (by repeat (first | exact .here | apply In.there | apply Put.there | apply Del.there | apply Sw.there))).front (b := b5) (by repeat (first | exact .here | apply In.there | apply Put.there | apply Del.there | apply Sw.there))).front (b := bk) (by repeat (first | exact .here | apply In.there | apply Put.there | apply Del.there | apply Sw.there))).front (b := bs) (by repeat (first | exact .here | apply In.there | apply Put.there | apply Del.there | apply Sw.there))
          exact ⟨bs, bk, b5, cb, cap, l2, hbs, hbk, hb5, hcb0, hcap, hl2, htk2, hS.live ⟨rfl, rfl, trivial⟩, hH2⟩
      · refine tr_seg ?_
        refine r_alloc hS hH (by repeat (first | exact Sub.nil | refine Sub.cons ?_ ?_ | exact In.here | refine In.there ?_)) Fc.zc106 rfl ?_
        clear hS hH; intro a w b5 hb5 hwb5 hS hH
        refine r_call (l := [.tmp 15]) hS rfl rfl Fc.fn74 rfl ?_
        refine Calls.mono (clone_sl q xs ls.length qc _ (hsl0 _ hH.mod) hx1 (by omega)) ?_
        rintro e w1 ⟨cb, cap, l2, rfl, hcb, hcbk, hcap, hl2, htk2, hE⟩
        have hlt := fun (p : Nat × Obj) hp => lt_of_block (hH.blk p hp)
        have hcb0 := Nat.le_trans hH.mod.size hcb
        replace hH := (hH.ext hE).know hcbk (fun p hp e => by have h1 := hlt p hp; omega)
        refine ⟨_, rfl, hH.kp (by repeat (first | exact Sub.nil | refine Sub.cons ?_ ?_ | exact In.here | refine In.there ?_)), ?_⟩
        clear hS; intro a hS
        refine r_buildS (parts := [(0, .tmp 8), (1, .tmp 14), (2, .tmp 16)]) hS trivial rfl rfl Fc.zc110 Fc.pl110 (by rfl) ?_; clear hS; intro a hS
        refine r_box hS hH (by repeat (first | exact Sub.nil | refine Sub.cons ?_ ?_ | exact In.here | refine In.there ?_)) rfl rfl rfl ?_
        clear hS hH; intro a w bs hbs hwbs hS hH
        refine r_store1 hS hH rfl rfl rfl (by repeat (first | exact .here | apply In.there | apply Put.there | apply Del.there | apply Sw.there)) (by repeat (first | exact Sub.nil | refine Sub.cons ?_ ?_ | exact In.here | refine In.there ?_)) Fc.sz106 (of_decide_eq_true rfl) (.inr (by assumption)) ?_
        clear hH; intro w hH
        refine Sq.nil ?_
        refine then_n ?_
        refine tr_nil ?_
        refine then_n ?_
        have hH2 := (((hH.front (b := cb) (by repeat (first | exact .here | apply In.there | apply Put.there | apply Del.there | apply Sw.there))).front (b := b5) (by repeat (first | exact .here | apply In.there | apply Put.there | apply Del.there | apply Sw.there))).front (b := bk) (by repeat (first | exact .here | apply In.there | apply Put.there | apply Del.there | apply Sw.there))).front (b := bs) (by repeat (first | exact .here | apply In.there | apply Put.there | apply Del.there | apply Sw.there))
        exact ⟨bs, bk, b5, cb, cap, l2, hbs, hbk, hb5, hcb0, hcap, hl2, htk2, hS.live ⟨rfl, rfl, trivial⟩, hH2⟩
    · refine tr_seg ?_
      refine r_call (l := [.tmp 15]) hS rfl rfl Fc.fn74 rfl ?_
      refine Calls.mono (clone_sl q xs ls.length qc _ (hsl0 _ hH.mod) hx1 (by omega)) ?_
      rintro e w1 ⟨cb, cap, l2, rfl, hcb, hcbk, hcap, hl2, htk2, hE⟩
      have hlt := fun (p : Nat × Obj) hp => lt_of_block (hH.blk p hp)
      have hcb0 := Nat.le_trans hH.mod.size hcb
      replace hH := (hH.ext hE).know hcbk (fun p hp e => by have h1 := hlt p hp; omega)
      refine ⟨_, rfl, hH.kp (by repeat (first | exact Sub.nil | refine Sub.cons ?_ ?_ | exact In.here | refine In.there ?_)), ?_⟩
      clear hS; intro a hS
      refine Sq.nil ?_
      refine then_n ?_
      refine tr_fork ?_ ?_
      · refine tr_seg ?_
        refine r_makeSl (m := ts.length) (v0 := .bool false) hS hH (by repeat (first | exact Sub.nil | refine Sub.cons ?_ ?_ | exact In.here | refine In.there ?_)) rfl rfl rfl rfl Fc.elb Fc.zc4 (by omega) (by omega) rfl ?_
        clear hS hH; intro a w bk hbk hwbk hS hH
        rw [bools_rep] at hH
        refine r_buildS (parts := [(0, .tmp 8), (1, .tmp 14), (2, .tmp 16)]) hS trivial rfl rfl Fc.zc110 Fc.pl110 (by rfl) ?_; clear hS; intro a hS
        refine Sq.nil ?_
        refine then_n ?_
        refine tr_fork ?_ ?_
        · refine tr_seg ?_
          refine r_box hS hH (by repeat (first | exact Sub.nil | refine Sub.cons ?_ ?_ | exact In.here | refine In.there ?_)) rfl rfl rfl ?_
          clear hS hH; intro a w bs hbs hwbs hS hH
          refine r_alloc hS hH (by repeat (first | exact Sub.nil | refine Sub.cons ?_ ?_ | exact In.here | refine In.there ?_)) Fc.zc106 rfl ?_
          clear hS hH; intro a w b5 hb5 hwb5 hS hH
          refine r_store1 hS hH rfl rfl rfl (by repeat (first | exact .here | apply In.there | apply Put.there | apply Del.there | apply Sw.there)) (by repeat (first | exact Sub.nil | refine Sub.cons ?_ ?_ | exact In.here | refine In.there ?_)) Fc.sz106 (of_decide_eq_true rfl) (.inr (by assumption)) ?_
          clear hH; intro w hH
          refine Sq.nil ?_
          refine then_n ?_
          refine tr_nil ?_
          refine then_n ?_
          have hH2 := (((hH.front (b := cb) (by repeat (first | exact .here | apply In.there | apply Put.there | apply Del.there | apply Sw.there))).front (b := b5) (by repeat (first | exact .here | apply In.there | apply Put.there | apply Del.there | apply Sw.there))).front (b := bk) (by repeat (first | exact .here | apply In.there | apply Put.there | apply Del.there | apply Sw.there))).front (b := bs) (by repeat (first | exact .here | apply In.there | apply Put.there | apply Del.there | apply Sw.there))
          exact ⟨bs, bk, b5, cb, cap, l2, hbs, hbk, hb5, hcb0, hcap, hl2, htk2, hS.live ⟨rfl, rfl, trivial⟩, hH2⟩
        · refine tr_seg ?_
          refine r_alloc hS hH (by repeat (first | exact Sub.nil | refine Sub.cons ?_ ?_ | exact In.here | refine In.there ?_)) Fc.zc106 rfl ?_
          clear hS hH; intro a w b5 hb5 hwb5 hS hH
          refine r_box hS hH (by repeat (first | exact Sub.nil | refine Sub.cons ?_ ?_ | exact In.here | refine In.there ?_)) rfl rfl rfl ?_
          clear hS hH; intro a w bs hbs hwbs hS hH
          refine r_store1 hS hH rfl rfl rfl (by repeat (first | exact .here | apply In.there | apply Put.there | apply Del.there | apply Sw.there)) (by repeat (first | exact Sub.nil | refine Sub.cons ?_ ?_ | exact In.here | refine In.there ?_)) Fc.sz106 (of_decide_eq_true rfl) (.inr (by assumption)) ?_
          clear hH; intro w hH
          refine Sq.nil ?_
          refine then_n ?_
          refine tr_nil ?_
          refine then_n ?_
          have hH2 := (((hH.front (b := cb) (by repeat (first | exact .here | apply In.there | apply Put.there | apply Del.there | apply Sw.there))).front (b := b5) (by repeat (first | exact .here | apply In.there | apply Put.there | apply Del.there | apply Sw.there))).front (b := bk) (by repeat (first | exact .here | apply In.there | apply Put.there | apply Del.there | apply Sw.there))).front (b := bs) (by repeat (first | exact .here | apply In.there | apply Put.there | apply Del.there | apply Sw.there))
          exact ⟨bs, bk, b5, cb, cap, l2, hbs, hbk, hb5, hcb0, hcap, hl2, htk2, hS.live ⟨rfl, rfl, trivial⟩, hH2⟩
      · refine tr_seg ?_
        refine r_alloc hS hH (by repeat (first | exact Sub.nil | refine Sub.cons ?_ ?_ | exact In.here | refine In.there ?_)) Fc.zc106 rfl ?_
        clear hS hH; intro a w b5 hb5 hwb5 hS hH
        refine r_makeSl (m := ts.length) (v0 := .bool false) hS hH (by repeat (first | exact Sub.nil | refine Sub.cons ?_ ?_ | exact In.here | refine In.there ?_)) rfl rfl rfl rfl Fc.elb Fc.zc4 (by omega) (by omega) rfl ?_
        clear hS hH; intro a w bk hbk hwbk hS hH
        rw [bools_rep] at hH
        refine r_buildS (parts := [(0, .tmp 8), (1, .tmp 14), (2, .tmp 16)]) hS trivial rfl rfl Fc.zc110 Fc.pl110 (by rfl) ?_; clear hS; intro a hS
        refine r_box hS hH (by repeat (first | exact Sub.nil | refine Sub.cons ?_ ?_ | exact In.here | refine In.there ?_)) rfl rfl rfl ?_
        clear hS hH; intro a w bs hbs hwbs hS hH
        refine r_store1 hS hH rfl rfl rfl (by repeat (first | exact .here | apply In.there | apply Put.there | apply Del.there | apply Sw.there)) (by repeat (first | exact Sub.nil | refine Sub.cons ?_ ?_ | exact In.here | refine In.there ?_)) Fc.sz106 (of_decide_eq_true rfl) (.inr (by assumption)) ?_
        clear hH; intro w hH
        refine Sq.nil ?_
        refine then_n ?_
        refine tr_nil ?_
        refine then_n ?_
        have hH2 := (((hH.front (b := cb) (by repeat (first | exact .here | apply In.there | apply Put.there | apply Del.there | apply Sw.there))).front (b := b5) (by repeat (first | exact .here | apply In.there | apply Put.there | apply Del.there | apply Sw.there))).front (b := bk) (by repeat (first | exact .here | apply In.there | apply Put.there | apply Del.there | apply Sw.there))).front (b := bs) (by repeat (first | exact .here | apply In.there | apply Put.there | apply Del.there | apply Sw.there))
        exact ⟨bs, bk, b5, cb, cap, l2, hbs, hbk, hb5, hcb0, hcap, hl2, htk2, hS.live ⟨rfl, rfl, trivial⟩, hH2⟩
    · refine tr_seg ?_
      refine r_alloc hS hH (by repeat (first | exact Sub.nil | refine Sub.cons ?_ ?_ | exact In.here | refine In.there ?_)) Fc.zc106 rfl ?_
      clear hS hH; intro a w b5 hb5 hwb5 hS hH
      refine Sq.nil ?_
      refine then_n ?_
      refine tr_fork ?_ ?_
      · refine tr_seg ?_
        refine r_makeSl (m := ts.length) (v0 := .bool false) hS hH (by repeat (first | exact Sub.nil | refine Sub.cons ?_ ?_ | exact In.here | refine In.there ?_)) rfl rfl rfl rfl Fc.elb Fc.zc4 (by omega) (by omega) rfl ?_
        clear hS hH; intro a w bk hbk hwbk hS hH
        rw [bools_rep] at hH
        refine r_call (l := [.tmp 15]) hS rfl rfl Fc.fn74 rfl ?_
        refine Calls.mono (clone_sl q xs ls.length qc _ (hsl0 _ hH.mod) hx1 (by omega)) ?_
        rintro e w1 ⟨cb, cap, l2, rfl, hcb, hcbk, hcap, hl2, htk2, hE⟩
        have hlt := fun (p : Nat × Obj) hp => lt_of_block (hH.blk p hp)
        have hcb0 := Nat.le_trans hH.mod.size hcb
        replace hH := (hH.ext hE).know hcbk (fun p hp e => by have h1 := hlt p hp; omega)
        refine ⟨_, rfl, hH.kp (by repeat (first | exact Sub.nil | refine Sub.cons ?_ ?_ | exact In.here | refine In.there ?_)), ?_⟩
        clear hS; intro a hS
        refine r_buildS (parts := [(0, .tmp 8), (1, .tmp 14), (2, .tmp 16)]) hS trivial rfl rfl Fc.zc110 Fc.pl110 (by rfl) ?_; clear hS; intro a hS
        refine r_box hS hH (by repeat (first | exact Sub.nil | refine Sub.cons ?_ ?_ | exact In.here | refine In.there ?_)) rfl rfl rfl ?_
        clear hS hH; intro a w bs hbs hwbs hS hH
        refine r_store1 hS hH rfl rfl rfl (by repeat (first | exact .here | apply In.there | apply Put.there | apply Del.there | apply Sw.there)) (by repeat (first | exact Sub.nil | refine Sub.cons ?_ ?_ | exact In.here | refine In.there ?_)) Fc.sz106 (of_decide_eq_true rfl) (.inr (by assumption)) ?_
        clear hH; intro w hH
        refine Sq.nil ?_
        refine then_n ?_
        refine tr_nil ?_
        refine then_n ?_
        have hH2 := (((hH.front (b := cb) (by repeat (first | exact .here | apply In.there | apply Put.there | apply Del.there | apply Sw.there))).front (b := b5) (by repeat (first | exact .here | apply In.there | apply Put.there | apply Del.there | apply Sw.there))).front (b := bk) (by repeat (first | exact .here | apply In.there | apply Put.there | apply Del.there | apply Sw.there))).front (b := bs) (by repeat (first | exact .here | apply In.there | apply Put.there | apply Del.there | apply Sw.there))
        exact ⟨bs, bk, b5, cb, cap, l2, hbs, hbk, hb5, hcb0, hcap, hl2, htk2, hS.live ⟨rfl, rfl, trivial⟩, hH2⟩
      · refine tr_seg ?_
        refine r_call (l := [.tmp 15]) hS rfl rfl Fc.fn74 rfl ?_
        refine Calls.mono (clone_sl q xs ls.length qc _ (hsl0 _ hH.mod) hx1 (by omega)) ?_
        rintro e w1 ⟨cb, cap, l2, rfl, hcb, hcbk, hcap, hl2, htk2, hE⟩
        have hlt := fun (p : Nat × Obj) hp => lt_of_block (hH.blk p hp)
        have hcb0 := Nat.le_trans hH.mod.size hcb
        replace hH := (hH.ext hE).know hcbk (fun p hp e => by have h1 := hlt p hp; omega)
        refine ⟨_, rfl, hH.kp (by repeat (first | exact Sub.nil | refine Sub.cons ?_ ?_ | exact In.here | refine In.there ?_)), ?_⟩
        clear hS; intro a hS
        refine r_makeSl (m := ts.length) (v0 := .bool false) hS hH (by repeat (first | exact Sub.nil | refine Sub.cons ?_ ?_ | exact In.here | refine In.there ?_)) rfl rfl rfl rfl Fc.elb Fc.zc4 (by omega) (by omega) rfl ?_
        clear hS hH; intro a w bk hbk hwbk hS hH
        rw [bools_rep] at hH
        refine r_buildS (parts := [(0, .tmp 8), (1, .tmp 14), (2, .tmp 16)]) hS trivial rfl rfl Fc.zc110 Fc.pl110 (by rfl) ?_; clear hS; intro a hS
        refine r_box hS hH (by repeat (first | exact Sub.nil | refine Sub.cons ?_ ?_ | exact In.here | refine In.there ?_)) rfl rfl rfl ?_
        clear hS hH; intro a w bs hbs hwbs hS hH
        refine r_store1 hS hH rfl rfl rfl (by repeat (first | exact .here | apply In.there | apply Put.there | apply Del.there | apply Sw.there)) (by repeat (first | exact Sub.nil | refine Sub.cons ?_ ?_ | exact In.here | refine In.there ?_)) Fc.sz106 (of_decide_eq_true rfl) (.inr (by assumption)) ?_
        clear hH; intro w hH
        refine Sq.nil ?_
        refine then_n ?_
        refine tr_nil ?_
        refine then_n ?_
        have hH2 := (((hH.front (b := cb) (by repeat (first | exact .here | apply In.there | apply Put.there | apply Del.there | apply Sw.there))).front (b := b5) (by repeat (first | exact .here | apply In.there | apply Put.there | apply Del.there | apply Sw.there))).front (b := bk) (by repeat (first | exact .here | apply In.there | apply Put.there | apply Del.there | apply Sw.there))).front (b := bs) (by repeat (first | exact .here | apply In.there | apply Put.there | apply Del.there | apply Sw.there))
        exact ⟨bs, bk, b5, cb, cap, l2, hbs, hbk, hb5, hcb0, hcap, hl2, htk2, hS.live ⟨rfl, rfl, trivial⟩, hH2⟩
  clear hS hH; intro a w hJ; obtain ⟨bs, bk, b5, cb, cap, l2, hbs, hbk, hb5, hcb0, hcap, hl2, htk2, hS, hH⟩ := hJ
  refine c_seq ?_
  refine reg_plain w0 (Nobody) ?_
  refine r_load_sc hS hH (by repeat (first | exact Sub.nil | refine Sub.cons ?_ ?_ | exact In.here | refine In.there ?_)) rfl (by repeat (first | exact In.here | refine In.there ?_)) Fc.sc106 (by rfl) rfl ?_; clear hS; intro a hS
  refine r_nilCheck hS hH.kp0 rfl rfl ?_; clear hS; intro a hS
  refine r_fieldAddr hS hH.kp0 rfl Fc.fo110_1 rfl ?_; clear hS; intro a hS
  refine r_load_sc hS hH (by repeat (first | exact Sub.nil | refine Sub.cons ?_ ?_ | exact In.here | refine In.there ?_)) rfl (by repeat (first | exact In.here | refine In.there ?_)) Fc.sc41 (by rfl) rfl ?_; clear hS; intro a hS
  refine r_indexAddrS (j := 0) hS hH.kp0 rfl rfl Fc.slb41 rfl h0 rfl ?_; clear hS; intro a hS
  refine r_store1 hS hH rfl rfl rfl (by repeat (first | exact .here | apply In.there | apply Put.there | apply Del.there | apply Sw.there)) (by repeat (first | exact Sub.nil | refine Sub.cons ?_ ?_ | exact In.here | refine In.there ?_)) Fc.sz4 (by rw [bools_len]; simpa using h0) (.inr hbk) ?_; clear hH; intro w hH
  rw [spl_bools (by simpa using h0)] at hH
  refine Sq.nil ?_
  refine then_n ?_
  refine c_seq ?_
  refine reg_plain w0 (Nobody) ?_
  refine r_load_sc hS hH (by repeat (first | exact Sub.nil | refine Sub.cons ?_ ?_ | exact In.here | refine In.there ?_)) rfl (by repeat (first | exact In.here | refine In.there ?_)) Fc.sc23 (by rfl) rfl ?_; clear hS; intro a hS
  refine r_nilCheck hS hH.kp0 rfl rfl ?_; clear hS; intro a hS
  refine r_fieldAddr hS hH.kp0 rfl Fc.fo71_0 rfl ?_; clear hS; intro a hS
  refine r_load_sc hS hH (by repeat (first | exact Sub.nil | refine Sub.cons ?_ ?_ | exact In.here | refine In.there ?_)) rfl (by repeat (first | exact In.here | refine In.there ?_)) Fc.sc67 (by rfl) rfl ?_; clear hS; intro a hS
  refine r_lenSl hS hH.kp0 rfl Fc.isSlice67 rfl ?_; clear hS; intro a hS
  refine r_makeSl (m := ts.length) (v0 := .bool false) hS hH (by repeat (first | exact Sub.nil | refine Sub.cons ?_ ?_ | exact In.here | refine In.there ?_)) rfl rfl rfl rfl Fc.elb Fc.zc4 (by omega) (by omega) rfl ?_
  clear hS hH; intro a w bo hbo hwbo hS hH
  rw [bools_rep] at hH
  refine r_alloc hS hH (by repeat (first | exact Sub.nil | refine Sub.cons ?_ ?_ | exact In.here | refine In.there ?_)) Fc.zc41 rfl ?_
  clear hS hH; intro a w b6 hb6 hwb6 hS hH
  refine r_store1 hS hH rfl rfl rfl (by repeat (first | exact .here | apply In.there | apply Put.there | apply Del.there | apply Sw.there)) (by repeat (first | exact Sub.nil | refine Sub.cons ?_ ?_ | exact In.here | refine In.there ?_)) Fc.sz41 (of_decide_eq_true rfl) (by first | exact .inr (by assumption) | exact .inl (by first | assumption | rfl)) ?_
  clear hH; intro w hH
  refine Sq.nil ?_
  refine then_n ?_
  refine c_seq ?_
  refine reg_plain w0 (Nobody) ?_
  refine r_makeFunc hS hH.kp0 rfl rfl rfl ?_; clear hS; intro a hS
  refine r_assign hS hH.kp0 rfl rfl ?_; clear hS; intro a hS
  refine Sq.nil ?_
  refine then_n ?_
  refine c_seq ?_
  refine wp_block ?_
  refine c_loop (fun m a w => ∃ (K : List Bool) (tdv : Value) (ls1 : List (List UInt8)), m + cnt K = ts.length ∧ KnowI ts ls ls1 K ∧ SlG (fun x => x = bk ∨ x = bs) w tdv ls1 ∧ (∀ l ∈ ls1, l.length ≤ 1099511627776) ∧ ls1.length ≤ 1099511627776 ∧ St 34 (lv [(5, .pointer (some ⟨b5, 0, none⟩)), (7, .func (.func 75) #[] #[.pointer (some ⟨b5, 0, none⟩), .pointer (some ⟨b2, 0, none⟩), .pointer (some ⟨b6, 0, none⟩)])]) a ∧ Hp w0 Nobody [(b6, .cells [.slice (some ⟨bo, 0, none⟩) ts.length ts.length].toArray 41 (0, 0)), (bo, .cells (bools (List.replicate ts.length false)).toArray 4 (0, 0)), (bs, .cells [.pointer (some ⟨b, 0, none⟩), .slice (some ⟨bk, 0, none⟩) ts.length ts.length, tdv].toArray 110 (0, 0)), (bk, .cells (bools K).toArray 4 (0, 0)), (b5, .cells [.pointer (some ⟨bs, 0, none⟩)].toArray 106 (0, 0)), (b2, .cells [.pointer (some ⟨b, 0, none⟩)].toArray 23 (0, 0)), (b, .cells (V.top ts.length).toArray 71 (0, 0)), (V.sb, .cells V.l.toArray 93 (0, 0)), (V.fb, .map V.es V.c), (V.nb, .map V.es' V.c')] w) (ts.length - cnt ((List.replicate ts.length false).set 0 true)) ?_ ?_
  · have ncb : ¬ (cb = bk ∨ cb = bs) := by rintro (e | e); exact hH.ne (x := cb) (y := bk) (.cons (by repeat (first | exact .here | apply In.there | apply Put.there | apply Del.there | apply Sw.there)) (.cons (by repeat (first | exact .here | apply In.there | apply Put.there | apply Del.there | apply Sw.there)) .nil)) (by intro h; injection h with _ h2 _; revert h2; decide) e; exact hH.ne (x := cb) (y := bs) (.cons (by repeat (first | exact .here | apply In.there | apply Put.there | apply Del.there | apply Sw.there)) (.cons (by repeat (first | exact .here | apply In.there | apply Put.there | apply Del.there | apply Sw.there)) .nil)) (by intro h; injection h with _ h2 _; revert h2; decide) e
    have hsg : SlG (fun x => x = bk ∨ x = bs) w (.slice (some ⟨cb, 0, none⟩) ls.length cap) ls := SlG.block (hH.get (b := cb) (by repeat (first | exact In.here | refine In.there ?_))) ncb rfl hcap htk2 (by omega) (fun i x hx => by obtain ⟨l, e, hb⟩ := hall i x hx; exact ⟨l, e, hb.go hH.mod (fun z hz => .inr (by rcases hz with rfl | rfl <;> assumption))⟩)
    exact ⟨((List.replicate ts.length false).set 0 true), _, ls, by have := cnt_le ((List.replicate ts.length false).set 0 true); rw [List.length_set, List.length_replicate] at this; omega, KnowI.start h0, hsg, hll, hlsl, hS.live ⟨rfl, rfl, trivial⟩, hH.drop [5]⟩
  clear hS hH; intro m a w hI; obtain ⟨K, tdv, ls1, hmc, hKI, hsg, hll1, hls1, hS, hH⟩ := hI
  refine c_seq ?_
  refine c_seq ?_
  refine reg_plain w0 (Nobody) ?_
  refine r_move hS hH.kp0 rfl rfl ?_; clear hS; intro a hS
  refine r_call (l := []) hS rfl rfl Fc.fn75 rfl ?_
  refine Calls.mono (step_v b V ts hm hwf b5 b2 b6 bs bk tdv ls1 hll1 hls1 K hKI.len _ (hH.vin hvi.ok hvi.n01 hvi.n23 (by repeat (first | exact In.here | refine In.there ?_)) (by repeat (first | exact In.here | refine In.there ?_)) (by repeat (first | exact In.here | refine In.there ?_)) (by repeat (first | exact In.here | refine In.there ?_))) (hH.get (b := bs) (by repeat (first | exact In.here | refine In.there ?_))) (hH.get (b := bk) (by repeat (first | exact In.here | refine In.there ?_))) (hH.get (b := b5) (by repeat (first | exact In.here | refine In.there ?_))) (hH.get (b := b2) (by repeat (first | exact In.here | refine In.there ?_))) hsg) ?_
  rintro e w1 ⟨more, K2, rfl, hbs2, hbk2, hSR, hM⟩
  have nbk : bs ≠ bk := hH.ne (x := bs) (y := bk) (.cons (by repeat (first | exact .here | apply In.there | apply Put.there | apply Del.there | apply Sw.there)) (.cons (by repeat (first | exact .here | apply In.there | apply Put.there | apply Del.there | apply Sw.there)) .nil)) (by intro h; injection h with _ h2 _; revert h2; decide)
  replace hH := hH.swap2 nbk hM hbs2 hbk2 (.inr hbs) (.inr hbk) (by first | exact .two | exact .there .two | exact .there (.there .two) | exact .there (.there (.there .two)) | exact .there (.there (.there (.there .two))) | exact .there (.there (.there (.there (.there .two)))) | exact .there (.there (.there (.there (.there (.there .two))))) | exact .there (.there (.there (.there (.there (.there (.there .two)))))) | exact .there (.there (.there (.there (.there (.there (.there (.there .two))))))) | exact .there (.there (.there (.there (.there (.there (.there (.there (.there .two)))))))))
  refine ⟨_, rfl, hH.kp0, ?_⟩
  clear hS; intro a hS
  refine Sq.nil ?_
  refine then_n ?_
  refine c_cond hS rfl (fun hc0 => ?_) (fun hc0 => ?_)
  · have hcn := hSR.yes hc0
    have hcl := cnt_le K2
    have hKL := hSR.len
    refine wp_skip ?_
    refine then_n ?_
    refine wp_block ?_
    refine wp_skip ?_
    refine blk_n ?_
    refine then_n ?_
    exact ⟨m - (cnt K2 - cnt K), by omega, K2, _, [], by omega, hKI.next hSR, SlG.nil _ _, fun l hl => (by cases hl), Nat.zero_le _, hS.live ⟨rfl, rfl, trivial⟩, hH⟩
  · subst hc0
    have hKN := hKI.done hSR
    refine wp_exit ?_
    refine then_e ?_
    refine then_e ?_
    refine blk_hit ?_
    refine then_n ?_
    refine c_seq ?_
    refine reg_plain w0 (Nobody) ?_
    refine r_load_sc hS hH (by repeat (first | exact Sub.nil | refine Sub.cons ?_ ?_ | exact In.here | refine In.there ?_)) rfl (by repeat (first | exact In.here | refine In.there ?_)) Fc.sc106 (by rfl) rfl ?_; clear hS; intro a hS
    refine r_assign hS hH.kp0 rfl rfl ?_; clear hS; intro a hS
    refine Sq.nil ?_
    refine then_n ?_
    refine wp_ret ?_
    exact leave (.inl rfl) hS rfl (Res.tmp rfl Res.nil) ⟨bs, bk, K2, rfl, hH.get (b := bs) (by repeat (first | exact In.here | refine In.there ?_)), hH.get (b := bk) (by repeat (first | exact In.here | refine In.there ?_)), hKN, hH.mod, hbs, hbk⟩

end Go.Proofs.Ytcjmehononbadaa
