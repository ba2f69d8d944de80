/- A text that is written to an outbox arrives whole at an inbox, whatever is lost and comes twice. Part Lost2: walks and lemmas of the proof. -/
import Derived.Test.YtkhcbllphdhbdaaLost1
namespace Go.Proofs.Ytkhcbllphdhbdaa
open Go.Sym

theorem Fc.bsl87_1 : bslB Try.prog 87 1 = some (94, 2, [.int .i64 0, .int .i64 0]) := by kernel_rfl
theorem Fc.pl94 : placesB Try.prog 94 = some [(0, 1), (1, 1)] := by kernel_rfl
set_option maxRecDepth 100000 in
set_option maxHeartbeats 400000 in
theorem add_nil (gb fa fb : Nat) (hab : fa ≤ fb) (hb : fb ≤ 1099511627776) (w0 : World) (hg : w0.heap[gb]? = some (.cells ([.bool true, .slice none 0 0] : List Value).toArray 89 (0, 0))) : Calls Try.prog 36 #[.pointer (some ⟨gb, 0, none⟩), .int .i64 (fa : Int), .int .i64 (fb : Int)] w0 fun e w' => ∃ (cb c2 : Nat) (l2 : List Value), e = .returned (.int .i64 0) ∧ w'.heap[gb]? = some (.cells ([.bool true, .slice (some ⟨cb, 0, none⟩) 1 c2] : List Value).toArray 89 (0, 0)) ∧ w'.heap[cb]? = some (.cells l2.toArray 94 (0, 0)) ∧ l2.length = c2 * 2 ∧ 1 ≤ c2 ∧ l2.take 2 = span1 fa fb ∧ cb ≠ gb ∧ w0.heap.size ≤ cb ∧ Mod (· = gb) w0 w' := by
  refine enter Try.func36 rfl rfl rfl ?_
  intro a hS
  have hH := Hp.start w0 ((· = gb))
  replace hH := hH.know hg (by intro p hp; simp at hp)
  refine c_seq ?_
  refine reg_plain w0 ((· = gb)) ?_
  refine r_assign hS hH.kp0 rfl rfl ?_; clear hS; intro a hS
  refine Sq.nil ?_
  refine then_n ?_
  refine wp_scope_straight ?_
  refine c_seq ?_
  refine c_seq ?_
  refine reg_plain w0 ((· = gb)) ?_
  refine r_move hS hH.kp0 rfl rfl ?_; clear hS; intro a hS
  refine r_move hS hH.kp0 rfl rfl ?_; clear hS; intro a hS
  refine r_move hS hH.kp0 rfl rfl ?_; clear hS; intro a hS
  refine r_call (l := [.tmp 11, .tmp 12, .tmp 13]) hS rfl rfl Fc.fn49 rfl ?_
  refine Calls.mono (swv_c gb fa fb _ hab hb _ (hH.get (b := gb) (by repeat (first | exact In.here | refine In.there ?_)))) ?_
  rintro e w1 ⟨rfl, hE⟩
  replace hH := hH.ext hE
  refine ⟨_, rfl, hH.kp0, ?_⟩
  clear hS; intro a hS
  refine r_assign hS hH.kp0 rfl rfl ?_; clear hS; intro a hS
  refine Sq.nil ?_
  refine then_n ?_
  refine c_seq ?_
  refine reg_plain w0 ((· = gb)) ?_
  refine r_move hS hH.kp0 rfl rfl ?_; clear hS; intro a hS
  refine r_neq hS hH.kp0 rfl rfl rfl ?_; clear hS; intro a hS
  refine Sq.nil ?_
  refine then_n ?_
  refine c_condF hS rfl rfl ?_
  refine wp_skip ?_
  refine then_n ?_
  refine c_seq ?_
  refine reg_plain w0 ((· = gb)) ?_
  refine r_move hS hH.kp0 rfl rfl ?_; clear hS; intro a hS
  refine r_move hS hH.kp0 rfl rfl ?_; clear hS; intro a hS
  (first | refine r_sub hS hH.kp0 rfl rfl rfl (by omega) ?_ | refine r_subw hS hH.kp0 rfl rfl rfl ?_)
  clear hS; intro a hS
  refine r_call (l := [.tmp 18, .tmp 20]) hS rfl rfl Fc.fn50 rfl ?_
  refine Calls.mono (from0 gb 0 none _ _ (hH.get (b := gb) (by repeat (first | exact In.here | refine In.there ?_)))) ?_
  rintro e w1 ⟨rfl, hE⟩
  replace hH := hH.ext hE
  refine ⟨_, rfl, hH.kp0, ?_⟩
  clear hS; intro a hS
  refine r_assign hS hH.kp0 rfl rfl ?_; clear hS; intro a hS
  refine Sq.nil ?_
  refine then_n ?_
  refine c_seq ?_
  refine reg_plain w0 ((· = gb)) ?_
  refine r_move hS hH.kp0 rfl rfl ?_; clear hS; intro a hS
  refine r_assign hS hH.kp0 rfl rfl ?_; clear hS; intro a hS
  refine Sq.nil ?_
  refine then_n ?_
  refine c_seq ?_
  refine reg_plain w0 ((· = gb)) ?_
  refine r_move hS hH.kp0 rfl rfl ?_; clear hS; intro a hS
  refine r_move hS hH.kp0 rfl rfl ?_; clear hS; intro a hS
  refine r_buildS (parts := [(0, .tmp 23), (1, .tmp 24)]) hS hH.kp0 rfl rfl Fc.zc94 Fc.pl94 (by rfl) ?_; clear hS; intro a hS
  refine r_alloc hS hH (by repeat (first | exact Sub.nil | refine Sub.cons ?_ ?_ | exact In.here | refine In.there ?_)) Fc.zc94 rfl ?_
  clear hS hH; intro a w bx hbx hwbx hS hH
  refine r_store_row hS hH rfl rfl (by repeat (first | exact .here | apply In.there | apply Put.there | apply Del.there)) (by repeat (first | exact Sub.nil | refine Sub.cons ?_ ?_ | exact In.here | refine In.there ?_)) Fc.sz94 (by first | exact hcells_one _ | exact of_decide_eq_true rfl) (by rfl) (by first | exact .inr (by assumption) | exact .inl (.inl rfl) | exact .inl rfl) ?_
  clear hH; intro w hH
  refine Sq.nil ?_
  refine then_n ?_
  refine c_seq ?_
  refine wp_label ?_
  refine then_n ?_
  refine c_seq ?_
  refine wp_block ?_
  refine wp_loop_rounds 1 ?_
  refine rnd ?_
  refine c_seq ?_
  refine c_seq ?_
  refine reg_plain w0 ((· = gb)) ?_
  refine r_move hS hH.kp0 rfl rfl ?_; clear hS; intro a hS
  refine r_move hS hH.kp0 rfl rfl ?_; clear hS; intro a hS
  refine r_nilCheck hS hH.kp0 rfl rfl ?_; clear hS; intro a hS
  refine r_fieldAddr hS hH.kp0 rfl Fc.fo89_1 rfl ?_; clear hS; intro a hS
  refine r_load_sc hS hH (by repeat (first | exact Sub.nil | refine Sub.cons ?_ ?_ | exact In.here | refine In.there ?_)) rfl (by repeat (first | exact In.here | refine In.there ?_)) Fc.sc87 (by rfl) rfl ?_; clear hS; intro a hS
  refine r_lenSl hS hH.kp0 rfl Fc.isSlice87 rfl ?_; clear hS; intro a hS
  refine r_lss hS hH.kp0 rfl rfl rfl ?_; clear hS; intro a hS
  refine Sq.nil ?_
  refine then_n ?_
  refine c_condF hS rfl rfl ?_
  refine wp_exit ?_
  refine then_e ?_
  refine then_e ?_
  refine blk_hit ?_
  refine then_n ?_
  refine c_seq ?_
  refine c_seq ?_
  refine reg_plain w0 ((· = gb)) ?_
  refine r_move hS hH.kp0 rfl rfl ?_; clear hS; intro a hS
  refine r_nilCheck hS hH.kp0 rfl rfl ?_; clear hS; intro a hS
  refine r_fieldAddr hS hH.kp0 rfl Fc.fo89_1 rfl ?_; clear hS; intro a hS
  refine r_load_sc hS hH (by repeat (first | exact Sub.nil | refine Sub.cons ?_ ?_ | exact In.here | refine In.there ?_)) rfl (by repeat (first | exact In.here | refine In.there ?_)) Fc.sc87 (by rfl) rfl ?_; clear hS; intro a hS
  refine r_lenSl hS hH.kp0 rfl Fc.isSlice87 rfl ?_; clear hS; intro a hS
  refine r_move hS hH.kp0 rfl rfl ?_; clear hS; intro a hS
  refine r_move hS hH.kp0 rfl rfl ?_; clear hS; intro a hS
  (first | refine r_sub hS hH.kp0 rfl rfl rfl (by omega) ?_ | refine r_subw hS hH.kp0 rfl rfl rfl ?_)
  clear hS; intro a hS
  (first | refine r_sub hS hH.kp0 rfl rfl rfl (by omega) ?_ | refine r_subw hS hH.kp0 rfl rfl rfl ?_)
  clear hS; intro a hS
  (first | refine r_add hS hH.kp0 rfl rfl rfl (by omega) ?_ | refine r_addw hS hH.kp0 rfl rfl rfl ?_)
  clear hS; intro a hS
  refine r_gtr hS hH.kp0 rfl rfl rfl ?_; clear hS; intro a hS
  refine Sq.nil ?_
  refine then_n ?_
  refine c_condF hS rfl rfl ?_
  refine wp_skip ?_
  refine then_n ?_
  refine c_seq ?_
  refine reg_draw [(true, 0, [1]), (true, 1, [1]), (true, 2, [1]), (true, 3, [1]), (true, 4, []), (true, 5, [1]), (true, 6, [1]), (true, 7, [1]), (false, 8, []), (false, 9, []), (true, 10, [1]), (true, 11, [1]), (false, 12, [1])] Fc.mixed (by kernel_rfl) (by kernel_rfl) (by kernel_rfl) (by kernel_rfl) (by kernel_rfl) (by repeat (first | with_reducible exact steady_body | with_reducible exact steady_bodyQ | with_reducible exact steady_round | with_reducible apply steady_block | with_reducible apply steady_then | with_reducible apply steady_scope | exact steady_body)) hH ?_
  replace hH := hH.drew
  refine r_move hS trivial rfl rfl ?_; clear hS; intro a hS
  refine r_move hS trivial rfl rfl ?_; clear hS; intro a hS
  refine r_nilCheck hS trivial rfl rfl ?_; clear hS; intro a hS
  refine r_fieldAddr hS trivial rfl Fc.fo89_1 rfl ?_; clear hS; intro a hS
  refine r_load_scS hS rfl (by repeat (first | exact In.here | refine In.there ?_)) Fc.sc87 (by rfl) rfl ?_; clear hS; intro a hS
  refine r_move hS trivial rfl rfl ?_; clear hS; intro a hS
  refine r_move hS trivial rfl rfl ?_; clear hS; intro a hS
  refine r_load_rowS hS rfl (by repeat (first | exact In.here | refine In.there ?_)) Fc.ag94 (by rfl) rfl ?_; clear hS; intro a hS
  refine r_buildSlice (parts := [(0, .tmp 87)]) hS hH (by repeat (first | exact Sub.nil | refine Sub.cons ?_ ?_ | exact In.here | refine In.there ?_)) rfl Fc.bsl87_1 (by rfl) rfl ?_
  clear hS hH; intro a w vb hvb hwvb hS hH
  refine r_call (l := [.tmp 84, .tmp 85, .tmp 86, .tmp 88]) hS rfl rfl Fc.fn51 rfl ?_
  refine Calls.mono (rep_nil vb 1 fa fb [.int .i64 (fa : Int), .int .i64 (fb : Int)] rfl (Nat.le_refl _) rfl _ (hH.get (b := vb) (by repeat (first | exact In.here | refine In.there ?_)))) ?_
  rintro e w1 ⟨cb, c2, l2, rfl, hcb, hck, hl2, hc2, htk, hE⟩
  have hcb0 := Nat.le_trans hH.mod.size hcb
  replace hH := (hH.ext hE).know hck (fun p hp e => by have := lt_of_block (hH.blk p hp); omega)
  refine ⟨_, rfl, hH.kp (by repeat (first | exact Sub.nil | refine Sub.cons ?_ ?_ | exact In.here | refine In.there ?_)), ?_⟩
  clear hS; intro a hS
  refine r_nilCheck hS trivial rfl rfl ?_; clear hS; intro a hS
  refine r_fieldAddr hS trivial rfl Fc.fo89_1 rfl ?_; clear hS; intro a hS
  refine r_store1 hS hH rfl rfl rfl (by repeat (first | exact .here | apply In.there | apply Put.there | apply Del.there)) (by repeat (first | exact Sub.nil | refine Sub.cons ?_ ?_ | exact In.here | refine In.there ?_)) Fc.sz87 (of_decide_eq_true rfl) (by first | exact .inr (by assumption) | exact .inl (.inl rfl) | exact .inl rfl) ?_
  clear hH; intro w hH
  refine Sq.nil ?_
  refine then_n ?_
  refine c_seq ?_
  refine reg_plain w0 ((· = gb)) ?_
  refine r_assign hS hH.kp0 rfl rfl ?_; clear hS; intro a hS
  refine Sq.nil ?_
  refine then_n ?_
  refine wp_ret ?_
  refine sc_r ?_
  have nd := hH.nd
  simp only [List.map_cons, List.map_nil, List.nodup_cons, List.mem_cons, List.not_mem_nil, or_false, not_or] at nd
  exact leave (.inl rfl) hS rfl (Res.tmp rfl Res.nil) ⟨cb, c2, l2, rfl, hH.get (b := gb) (by repeat (first | exact In.here | refine In.there ?_)), hH.get (b := cb) (by repeat (first | exact In.here | refine In.there ?_)), hl2, hc2, htk, fun e => by subst e; simp at nd, hcb0, hH.mod⟩

set_option maxRecDepth 100000 in
set_option maxHeartbeats 400000 in
theorem add_blk (gb sb cap fa fb : Nat) (l : List Value) (hl : l.length = cap * 2) (hab : fa ≤ fb) (hb : fb ≤ 1099511627776) (hn3 : gb ≠ sb) (w0 : World) (hg : w0.heap[gb]? = some (.cells ([.bool true, .slice (some ⟨sb, 0, none⟩) 0 cap] : List Value).toArray 89 (0, 0))) (hs : w0.heap[sb]? = some (.cells l.toArray 94 (0, 0))) : Calls Try.prog 36 #[.pointer (some ⟨gb, 0, none⟩), .int .i64 (fa : Int), .int .i64 (fb : Int)] w0 fun e w' => ∃ (cb c2 : Nat) (l2 : List Value), e = .returned (.int .i64 0) ∧ w'.heap[gb]? = some (.cells ([.bool true, .slice (some ⟨cb, 0, none⟩) 1 c2] : List Value).toArray 89 (0, 0)) ∧ w'.heap[cb]? = some (.cells l2.toArray 94 (0, 0)) ∧ l2.length = c2 * 2 ∧ 1 ≤ c2 ∧ l2.take 2 = span1 fa fb ∧ cb ≠ gb ∧ (cb = sb ∨ w0.heap.size ≤ cb) ∧ Mod (fun z => z = gb ∨ z = sb) w0 w' := by
  refine enter Try.func36 rfl rfl rfl ?_
  intro a hS
  have hH := Hp.start w0 (fun z => z = gb ∨ z = sb)
  replace hH := (hH.know hs (by intro p hp; simp at hp)).know hg (by intro p hp; simp at hp; subst hp; exact hn3.symm)
  refine c_seq ?_
  refine reg_plain w0 (fun z => z = gb ∨ z = sb) ?_
  refine r_assign hS hH.kp0 rfl rfl ?_; clear hS; intro a hS
  refine Sq.nil ?_
  refine then_n ?_
  refine wp_scope_straight ?_
  refine c_seq ?_
  refine c_seq ?_
  refine reg_plain w0 (fun z => z = gb ∨ z = sb) ?_
  refine r_move hS hH.kp0 rfl rfl ?_; clear hS; intro a hS
  refine r_move hS hH.kp0 rfl rfl ?_; clear hS; intro a hS
  refine r_move hS hH.kp0 rfl rfl ?_; clear hS; intro a hS
  refine r_call (l := [.tmp 11, .tmp 12, .tmp 13]) hS rfl rfl Fc.fn49 rfl ?_
  refine Calls.mono (swv_c gb fa fb _ hab hb _ (hH.get (b := gb) (by repeat (first | exact In.here | refine In.there ?_)))) ?_
  rintro e w1 ⟨rfl, hE⟩
  replace hH := hH.ext hE
  refine ⟨_, rfl, hH.kp0, ?_⟩
  clear hS; intro a hS
  refine r_assign hS hH.kp0 rfl rfl ?_; clear hS; intro a hS
  refine Sq.nil ?_
  refine then_n ?_
  refine c_seq ?_
  refine reg_plain w0 (fun z => z = gb ∨ z = sb) ?_
  refine r_move hS hH.kp0 rfl rfl ?_; clear hS; intro a hS
  refine r_neq hS hH.kp0 rfl rfl rfl ?_; clear hS; intro a hS
  refine Sq.nil ?_
  refine then_n ?_
  refine c_condF hS rfl rfl ?_
  refine wp_skip ?_
  refine then_n ?_
  refine c_seq ?_
  refine reg_plain w0 (fun z => z = gb ∨ z = sb) ?_
  refine r_move hS hH.kp0 rfl rfl ?_; clear hS; intro a hS
  refine r_move hS hH.kp0 rfl rfl ?_; clear hS; intro a hS
  (first | refine r_sub hS hH.kp0 rfl rfl rfl (by omega) ?_ | refine r_subw hS hH.kp0 rfl rfl rfl ?_)
  clear hS; intro a hS
  refine r_call (l := [.tmp 18, .tmp 20]) hS rfl rfl Fc.fn50 rfl ?_
  refine Calls.mono (from0 gb cap (some ⟨sb, 0, none⟩) _ _ (hH.get (b := gb) (by repeat (first | exact In.here | refine In.there ?_)))) ?_
  rintro e w1 ⟨rfl, hE⟩
  replace hH := hH.ext hE
  refine ⟨_, rfl, hH.kp0, ?_⟩
  clear hS; intro a hS
  refine r_assign hS hH.kp0 rfl rfl ?_; clear hS; intro a hS
  refine Sq.nil ?_
  refine then_n ?_
  refine c_seq ?_
  refine reg_plain w0 (fun z => z = gb ∨ z = sb) ?_
  refine r_move hS hH.kp0 rfl rfl ?_; clear hS; intro a hS
  refine r_assign hS hH.kp0 rfl rfl ?_; clear hS; intro a hS
  refine Sq.nil ?_
  refine then_n ?_
  refine c_seq ?_
  refine reg_plain w0 (fun z => z = gb ∨ z = sb) ?_
  refine r_move hS hH.kp0 rfl rfl ?_; clear hS; intro a hS
  refine r_move hS hH.kp0 rfl rfl ?_; clear hS; intro a hS
  refine r_buildS (parts := [(0, .tmp 23), (1, .tmp 24)]) hS hH.kp0 rfl rfl Fc.zc94 Fc.pl94 (by rfl) ?_; clear hS; intro a hS
  refine r_alloc hS hH (by repeat (first | exact Sub.nil | refine Sub.cons ?_ ?_ | exact In.here | refine In.there ?_)) Fc.zc94 rfl ?_
  clear hS hH; intro a w bx hbx hwbx hS hH
  refine r_store_row hS hH rfl rfl (by repeat (first | exact .here | apply In.there | apply Put.there | apply Del.there)) (by repeat (first | exact Sub.nil | refine Sub.cons ?_ ?_ | exact In.here | refine In.there ?_)) Fc.sz94 (by first | exact hcells_one _ | exact of_decide_eq_true rfl) (by rfl) (by first | exact .inr (by assumption) | exact .inl (.inl rfl) | exact .inl rfl) ?_
  clear hH; intro w hH
  refine Sq.nil ?_
  refine then_n ?_
  refine c_seq ?_
  refine wp_label ?_
  refine then_n ?_
  refine c_seq ?_
  refine wp_block ?_
  refine wp_loop_rounds 1 ?_
  refine rnd ?_
  refine c_seq ?_
  refine c_seq ?_
  refine reg_plain w0 (fun z => z = gb ∨ z = sb) ?_
  refine r_move hS hH.kp0 rfl rfl ?_; clear hS; intro a hS
  refine r_move hS hH.kp0 rfl rfl ?_; clear hS; intro a hS
  refine r_nilCheck hS hH.kp0 rfl rfl ?_; clear hS; intro a hS
  refine r_fieldAddr hS hH.kp0 rfl Fc.fo89_1 rfl ?_; clear hS; intro a hS
  refine r_load_sc hS hH (by repeat (first | exact Sub.nil | refine Sub.cons ?_ ?_ | exact In.here | refine In.there ?_)) rfl (by repeat (first | exact In.here | refine In.there ?_)) Fc.sc87 (by rfl) rfl ?_; clear hS; intro a hS
  refine r_lenSl hS hH.kp0 rfl Fc.isSlice87 rfl ?_; clear hS; intro a hS
  refine r_lss hS hH.kp0 rfl rfl rfl ?_; clear hS; intro a hS
  refine Sq.nil ?_
  refine then_n ?_
  refine c_condF hS rfl rfl ?_
  refine wp_exit ?_
  refine then_e ?_
  refine then_e ?_
  refine blk_hit ?_
  refine then_n ?_
  refine c_seq ?_
  refine c_seq ?_
  refine reg_plain w0 (fun z => z = gb ∨ z = sb) ?_
  refine r_move hS hH.kp0 rfl rfl ?_; clear hS; intro a hS
  refine r_nilCheck hS hH.kp0 rfl rfl ?_; clear hS; intro a hS
  refine r_fieldAddr hS hH.kp0 rfl Fc.fo89_1 rfl ?_; clear hS; intro a hS
  refine r_load_sc hS hH (by repeat (first | exact Sub.nil | refine Sub.cons ?_ ?_ | exact In.here | refine In.there ?_)) rfl (by repeat (first | exact In.here | refine In.there ?_)) Fc.sc87 (by rfl) rfl ?_; clear hS; intro a hS
  refine r_lenSl hS hH.kp0 rfl Fc.isSlice87 rfl ?_; clear hS; intro a hS
  refine r_move hS hH.kp0 rfl rfl ?_; clear hS; intro a hS
  refine r_move hS hH.kp0 rfl rfl ?_; clear hS; intro a hS
  (first | refine r_sub hS hH.kp0 rfl rfl rfl (by omega) ?_ | refine r_subw hS hH.kp0 rfl rfl rfl ?_)
  clear hS; intro a hS
  (first | refine r_sub hS hH.kp0 rfl rfl rfl (by omega) ?_ | refine r_subw hS hH.kp0 rfl rfl rfl ?_)
  clear hS; intro a hS
  (first | refine r_add hS hH.kp0 rfl rfl rfl (by omega) ?_ | refine r_addw hS hH.kp0 rfl rfl rfl ?_)
  clear hS; intro a hS
  refine r_gtr hS hH.kp0 rfl rfl rfl ?_; clear hS; intro a hS
  refine Sq.nil ?_
  refine then_n ?_
  refine c_condF hS rfl rfl ?_
  refine wp_skip ?_
  refine then_n ?_
  refine c_seq ?_
  refine reg_draw [(true, 0, [1, 2]), (true, 1, [1, 2]), (true, 2, [1, 2]), (true, 3, [1, 2]), (true, 4, [2]), (true, 5, [1, 2]), (true, 6, [1, 2]), (true, 7, [1, 2]), (false, 8, []), (false, 9, [2]), (true, 10, [1, 2]), (true, 11, [1, 2]), (false, 12, [1, 2])] Fc.mixed (by kernel_rfl) (by kernel_rfl) (by kernel_rfl) (by kernel_rfl) (by kernel_rfl) (by repeat (first | with_reducible exact steady_body | with_reducible exact steady_bodyQ | with_reducible exact steady_round | with_reducible apply steady_block | with_reducible apply steady_then | with_reducible apply steady_scope | exact steady_body)) hH ?_
  replace hH := hH.drew
  refine r_move hS trivial rfl rfl ?_; clear hS; intro a hS
  refine r_move hS trivial rfl rfl ?_; clear hS; intro a hS
  refine r_nilCheck hS trivial rfl rfl ?_; clear hS; intro a hS
  refine r_fieldAddr hS trivial rfl Fc.fo89_1 rfl ?_; clear hS; intro a hS
  refine r_load_scS hS rfl (by repeat (first | exact In.here | refine In.there ?_)) Fc.sc87 (by rfl) rfl ?_; clear hS; intro a hS
  refine r_move hS trivial rfl rfl ?_; clear hS; intro a hS
  refine r_move hS trivial rfl rfl ?_; clear hS; intro a hS
  refine r_load_rowS hS rfl (by repeat (first | exact In.here | refine In.there ?_)) Fc.ag94 (by rfl) rfl ?_; clear hS; intro a hS
  refine r_buildSlice (parts := [(0, .tmp 87)]) hS hH (by repeat (first | exact Sub.nil | refine Sub.cons ?_ ?_ | exact In.here | refine In.there ?_)) rfl Fc.bsl87_1 (by rfl) rfl ?_
  clear hS hH; intro a w vb hvb hwvb hS hH
  refine r_call (l := [.tmp 84, .tmp 85, .tmp 86, .tmp 88]) hS rfl rfl Fc.fn51 rfl ?_
  have hvs : sb ≠ vb := fun e => by have h9 := hH.nd; subst e; simp at h9
  refine Calls.mono (rep_blk sb cap vb 1 fa fb l [.int .i64 (fa : Int), .int .i64 (fb : Int)] hl rfl (Nat.le_refl _) rfl hvs _ (hH.get (b := vb) (by repeat (first | exact In.here | refine In.there ?_))) (hH.get (b := sb) (by repeat (first | exact In.here | refine In.there ?_)))) ?_
  rintro e w1 ⟨cb, c2, l2, rfl, hcb, hck, hl2, hc2, htk, hM⟩
  have hcb0 : cb = sb ∨ w0.heap.size ≤ cb := hcb.imp id (fun h => Nat.le_trans hH.mod.size h)
  replace hH := hH.turn1 (sb := sb) (by repeat (first | exact .here | apply In.there | apply Put.there | apply Del.there)) hM (.inl (.inr rfl)) hcb hck
  refine ⟨_, rfl, hH.kp (by repeat (first | exact Sub.nil | refine Sub.cons ?_ ?_ | exact In.here | refine In.there ?_)), ?_⟩
  clear hS; intro a hS
  refine r_nilCheck hS trivial rfl rfl ?_; clear hS; intro a hS
  refine r_fieldAddr hS trivial rfl Fc.fo89_1 rfl ?_; clear hS; intro a hS
  refine r_store1 hS hH rfl rfl rfl (by repeat (first | exact .here | apply In.there | apply Put.there | apply Del.there)) (by repeat (first | exact Sub.nil | refine Sub.cons ?_ ?_ | exact In.here | refine In.there ?_)) Fc.sz87 (of_decide_eq_true rfl) (by first | exact .inr (by assumption) | exact .inl (.inl rfl) | exact .inl rfl) ?_
  clear hH; intro w hH
  refine Sq.nil ?_
  refine then_n ?_
  refine c_seq ?_
  refine reg_plain w0 (fun z => z = gb ∨ z = sb) ?_
  refine r_assign hS hH.kp0 rfl rfl ?_; clear hS; intro a hS
  refine Sq.nil ?_
  refine then_n ?_
  refine wp_ret ?_
  refine sc_r ?_
  have nd := hH.nd
  simp only [List.map_cons, List.map_nil, List.nodup_cons, List.mem_cons, List.not_mem_nil, or_false, not_or] at nd
  exact leave (.inl rfl) hS rfl (Res.tmp rfl Res.nil) ⟨cb, c2, l2, rfl, hH.get (b := gb) (by repeat (first | exact In.here | refine In.there ?_)), hH.get (b := cb) (by repeat (first | exact In.here | refine In.there ?_)), hl2, hc2, htk, fun e => by subst e; simp at nd, hcb0, hH.mod⟩

set_option maxRecDepth 100000 in
set_option maxHeartbeats 400000 in
theorem add_one (gb sb cap x y : Nat) (l : List Value) (hl : l.length = cap * 2) (hc : 1 ≤ cap) (ht : l.take 2 = [.int .i64 (x : Int), .int .i64 (y : Int)]) (hn3 : gb ≠ sb) (hxy : x ≤ y) (hy : y ≤ 1099511627776) (fa fb : Nat) (hab : fa ≤ fb) (hb : fb ≤ 1099511627776) (hxb : x ≤ fb + 1) (hay : fa ≤ y + 1) (w0 : World) (hg : w0.heap[gb]? = some (.cells ([.bool true, .slice (some ⟨sb, 0, none⟩) 1 cap] : List Value).toArray 89 (0, 0))) (hs : w0.heap[sb]? = some (.cells l.toArray 94 (0, 0))) : Calls Try.prog 36 #[.pointer (some ⟨gb, 0, none⟩), .int .i64 (fa : Int), .int .i64 (fb : Int)] w0 fun e w' => ∃ (cb c2 : Nat) (l2 : List Value), e = .returned (.int .i64 0) ∧ w'.heap[gb]? = some (.cells ([.bool true, .slice (some ⟨cb, 0, none⟩) 1 c2] : List Value).toArray 89 (0, 0)) ∧ w'.heap[cb]? = some (.cells l2.toArray 94 (0, 0)) ∧ l2.length = c2 * 2 ∧ 1 ≤ c2 ∧ l2.take 2 = span1 (min fa x) (max fb y) ∧ cb ≠ gb ∧ (cb = sb ∨ w0.heap.size ≤ cb) ∧ Mod (fun z => z = gb ∨ z = sb) w0 w' := by
  refine enter Try.func36 rfl rfl rfl ?_
  intro a hS
  have hH := Hp.start w0 (fun z => z = gb ∨ z = sb)
  replace hH := (hH.know hs (by intro p hp; simp at hp)).know hg (by intro p hp; simp at hp; subst hp; exact hn3.symm)
  obtain ⟨hl0, hl1⟩ := row2 ht
  refine c_seq ?_
  refine reg_plain w0 (fun z => z = gb ∨ z = sb) ?_
  refine r_assign hS hH.kp0 rfl rfl ?_; clear hS; intro a hS
  refine Sq.nil ?_
  refine then_n ?_
  refine wp_scope_straight ?_
  refine c_seq ?_
  refine c_seq ?_
  refine reg_plain w0 (fun z => z = gb ∨ z = sb) ?_
  refine r_move hS hH.kp0 rfl rfl ?_; clear hS; intro a hS
  refine r_move hS hH.kp0 rfl rfl ?_; clear hS; intro a hS
  refine r_move hS hH.kp0 rfl rfl ?_; clear hS; intro a hS
  refine r_call (l := [.tmp 11, .tmp 12, .tmp 13]) hS rfl rfl Fc.fn49 rfl ?_
  refine Calls.mono (swv_c gb fa fb _ hab hb _ (hH.get (b := gb) (by repeat (first | exact In.here | refine In.there ?_)))) ?_
  rintro e w1 ⟨rfl, hE⟩
  replace hH := hH.ext hE
  refine ⟨_, rfl, hH.kp0, ?_⟩
  clear hS; intro a hS
  refine r_assign hS hH.kp0 rfl rfl ?_; clear hS; intro a hS
  refine Sq.nil ?_
  refine then_n ?_
  refine c_seq ?_
  refine reg_plain w0 (fun z => z = gb ∨ z = sb) ?_
  refine r_move hS hH.kp0 rfl rfl ?_; clear hS; intro a hS
  refine r_neq hS hH.kp0 rfl rfl rfl ?_; clear hS; intro a hS
  refine Sq.nil ?_
  refine then_n ?_
  refine c_condF hS rfl rfl ?_
  refine wp_skip ?_
  refine then_n ?_
  refine c_seq ?_
  refine reg_plain w0 (fun z => z = gb ∨ z = sb) ?_
  refine r_move hS hH.kp0 rfl rfl ?_; clear hS; intro a hS
  refine r_move hS hH.kp0 rfl rfl ?_; clear hS; intro a hS
  (first | refine r_sub hS hH.kp0 rfl rfl rfl (by omega) ?_ | refine r_subw hS hH.kp0 rfl rfl rfl ?_)
  clear hS; intro a hS
  refine r_call (l := [.tmp 18, .tmp 20]) hS rfl rfl Fc.fn50 rfl ?_
  refine Calls.mono (from_ge gb sb cap x y l hl hc ht hn3 hxy hy ((fa : Int) - 1) (by omega) (by omega) _ (hH.get (b := gb) (by repeat (first | exact In.here | refine In.there ?_))) (hH.get (b := sb) (by repeat (first | exact In.here | refine In.there ?_)))) ?_
  rintro e w1 ⟨rfl, hE⟩
  replace hH := hH.ext hE
  refine ⟨_, rfl, hH.kp0, ?_⟩
  clear hS; intro a hS
  refine r_assign hS hH.kp0 rfl rfl ?_; clear hS; intro a hS
  refine Sq.nil ?_
  refine then_n ?_
  refine c_seq ?_
  refine reg_plain w0 (fun z => z = gb ∨ z = sb) ?_
  refine r_move hS hH.kp0 rfl rfl ?_; clear hS; intro a hS
  refine r_assign hS hH.kp0 rfl rfl ?_; clear hS; intro a hS
  refine Sq.nil ?_
  refine then_n ?_
  refine c_seq ?_
  refine reg_plain w0 (fun z => z = gb ∨ z = sb) ?_
  refine r_move hS hH.kp0 rfl rfl ?_; clear hS; intro a hS
  refine r_move hS hH.kp0 rfl rfl ?_; clear hS; intro a hS
  refine r_buildS (parts := [(0, .tmp 23), (1, .tmp 24)]) hS hH.kp0 rfl rfl Fc.zc94 Fc.pl94 (by rfl) ?_; clear hS; intro a hS
  refine r_alloc hS hH (by repeat (first | exact Sub.nil | refine Sub.cons ?_ ?_ | exact In.here | refine In.there ?_)) Fc.zc94 rfl ?_
  clear hS hH; intro a w bx hbx hwbx hS hH
  refine r_store_row hS hH rfl rfl (by repeat (first | exact .here | apply In.there | apply Put.there | apply Del.there)) (by repeat (first | exact Sub.nil | refine Sub.cons ?_ ?_ | exact In.here | refine In.there ?_)) Fc.sz94 (by first | exact hcells_one _ | exact of_decide_eq_true rfl) (by rfl) (by first | exact .inr (by assumption) | exact .inl (.inl rfl) | exact .inl rfl) ?_
  clear hH; intro w hH
  refine Sq.nil ?_
  refine then_n ?_
  refine c_seq ?_
  refine wp_label ?_
  refine then_n ?_
  refine c_seq ?_
  refine wp_block ?_
  refine wp_loop_rounds 2 ?_
  refine rnd ?_
  refine c_seq ?_
  refine c_seq ?_
  refine reg_plain w0 (fun z => z = gb ∨ z = sb) ?_
  refine r_move hS hH.kp0 rfl rfl ?_; clear hS; intro a hS
  refine r_move hS hH.kp0 rfl rfl ?_; clear hS; intro a hS
  refine r_nilCheck hS hH.kp0 rfl rfl ?_; clear hS; intro a hS
  refine r_fieldAddr hS hH.kp0 rfl Fc.fo89_1 rfl ?_; clear hS; intro a hS
  refine r_load_sc hS hH (by repeat (first | exact Sub.nil | refine Sub.cons ?_ ?_ | exact In.here | refine In.there ?_)) rfl (by repeat (first | exact In.here | refine In.there ?_)) Fc.sc87 (by rfl) rfl ?_; clear hS; intro a hS
  refine r_lenSl hS hH.kp0 rfl Fc.isSlice87 rfl ?_; clear hS; intro a hS
  refine r_lss hS hH.kp0 rfl rfl rfl ?_; clear hS; intro a hS
  refine Sq.nil ?_
  refine then_n ?_
  refine c_condT hS rfl rfl ?_
  refine wp_skip ?_
  refine then_n ?_
  refine c_seq ?_
  refine wp_block ?_
  refine c_seq ?_
  refine c_seq ?_
  refine reg_plain w0 (fun z => z = gb ∨ z = sb) ?_
  refine r_move hS hH.kp0 rfl rfl ?_; clear hS; intro a hS
  refine r_nilCheck hS hH.kp0 rfl rfl ?_; clear hS; intro a hS
  refine r_fieldAddr hS hH.kp0 rfl Fc.fo89_1 rfl ?_; clear hS; intro a hS
  refine r_load_sc hS hH (by repeat (first | exact Sub.nil | refine Sub.cons ?_ ?_ | exact In.here | refine In.there ?_)) rfl (by repeat (first | exact In.here | refine In.there ?_)) Fc.sc87 (by rfl) rfl ?_; clear hS; intro a hS
  refine r_move hS hH.kp0 rfl rfl ?_; clear hS; intro a hS
  refine r_indexAddrS (j := 0) hS hH.kp0 rfl rfl Fc.slb87 rfl (by decide) rfl ?_; clear hS; intro a hS
  refine r_fieldAddr hS hH.kp0 rfl Fc.fo94_0 rfl ?_; clear hS; intro a hS
  refine r_load_sc hS hH (by repeat (first | exact Sub.nil | refine Sub.cons ?_ ?_ | exact In.here | refine In.there ?_)) rfl (by repeat (first | exact In.here | refine In.there ?_)) Fc.sc3 (v := .int .i64 (x : Int)) hl0 rfl ?_; clear hS; intro a hS
  refine r_move hS hH.kp0 rfl rfl ?_; clear hS; intro a hS
  (first | refine r_add hS hH.kp0 rfl rfl rfl (by omega) ?_ | refine r_addw hS hH.kp0 rfl rfl rfl ?_)
  clear hS; intro a hS
  refine r_gtr hS hH.kp0 rfl rfl rfl ?_; clear hS; intro a hS
  refine Sq.nil ?_
  refine then_n ?_
  refine c_condF hS rfl (DF (by omega)) ?_
  refine wp_skip ?_
  refine then_n ?_
  refine reg_draw [(true, 0, [0]), (true, 1, []), (true, 2, [0]), (true, 3, [0]), (true, 4, [0]), (true, 5, [0]), (true, 6, [0]), (true, 7, [0]), (true, 8, [0]), (true, 9, [0]), (true, 10, [0]), (true, 11, [0]), (true, 12, []), (true, 13, [0]), (true, 14, [0]), (true, 15, [0]), (true, 16, [0]), (true, 17, [0]), (true, 18, [0]), (true, 19, [0]), (true, 20, [0]), (true, 21, [0]), (true, 22, [0]), (false, 23, [0])] Fc.mixed (by kernel_rfl) (by kernel_rfl) (by kernel_rfl) (by kernel_rfl) (by kernel_rfl) (by repeat (first | with_reducible exact steady_body | with_reducible exact steady_bodyQ | with_reducible exact steady_round | with_reducible apply steady_block | with_reducible apply steady_then | with_reducible apply steady_scope | exact steady_body)) hH ?_
  replace hH := hH.drew
  refine r_fieldAddr hS trivial rfl Fc.fo94_0 rfl ?_; clear hS; intro a hS
  refine r_load_scS hS rfl (by repeat (first | exact In.here | refine In.there ?_)) Fc.sc3 (by rfl) rfl ?_; clear hS; intro a hS
  refine r_move hS trivial rfl rfl ?_; clear hS; intro a hS
  refine r_nilCheck hS trivial rfl rfl ?_; clear hS; intro a hS
  refine r_fieldAddr hS trivial rfl Fc.fo89_1 rfl ?_; clear hS; intro a hS
  refine r_load_scS hS rfl (by repeat (first | exact In.here | refine In.there ?_)) Fc.sc87 (by rfl) rfl ?_; clear hS; intro a hS
  refine r_move hS trivial rfl rfl ?_; clear hS; intro a hS
  refine r_indexAddrS (j := 0) hS trivial rfl rfl Fc.slb87 rfl (by decide) rfl ?_; clear hS; intro a hS
  refine r_fieldAddr hS trivial rfl Fc.fo94_0 rfl ?_; clear hS; intro a hS
  refine r_load_scS hS rfl (by repeat (first | exact In.here | refine In.there ?_)) Fc.sc3 (v := .int .i64 (x : Int)) hl0 rfl ?_; clear hS; intro a hS
  refine r_minN (m := fa) (k := x) hS trivial rfl rfl rfl ?_; clear hS; intro a hS
  refine r_fieldAddr hS trivial rfl Fc.fo94_1 rfl ?_; clear hS; intro a hS
  refine r_load_scS hS rfl (by repeat (first | exact In.here | refine In.there ?_)) Fc.sc3 (by rfl) rfl ?_; clear hS; intro a hS
  refine r_move hS trivial rfl rfl ?_; clear hS; intro a hS
  refine r_nilCheck hS trivial rfl rfl ?_; clear hS; intro a hS
  refine r_fieldAddr hS trivial rfl Fc.fo89_1 rfl ?_; clear hS; intro a hS
  refine r_load_scS hS rfl (by repeat (first | exact In.here | refine In.there ?_)) Fc.sc87 (by rfl) rfl ?_; clear hS; intro a hS
  refine r_move hS trivial rfl rfl ?_; clear hS; intro a hS
  refine r_indexAddrS (j := 0) hS trivial rfl rfl Fc.slb87 rfl (by decide) rfl ?_; clear hS; intro a hS
  refine r_fieldAddr hS trivial rfl Fc.fo94_1 rfl ?_; clear hS; intro a hS
  refine r_load_scS hS rfl (by repeat (first | exact In.here | refine In.there ?_)) Fc.sc3 (v := .int .i64 (y : Int)) hl1 rfl ?_; clear hS; intro a hS
  refine r_maxN (m := fb) (k := y) hS trivial rfl rfl rfl ?_; clear hS; intro a hS
  refine r_buildS (parts := [(0, .tmp 56), (1, .tmp 67)]) hS trivial rfl rfl Fc.zc94 Fc.pl94 (by rfl) ?_; clear hS; intro a hS
  refine r_store_row hS hH rfl rfl (by repeat (first | exact .here | apply In.there | apply Put.there | apply Del.there)) (by repeat (first | exact Sub.nil | refine Sub.cons ?_ ?_ | exact In.here | refine In.there ?_)) Fc.sz94 (by first | exact hcells_one _ | exact of_decide_eq_true rfl) (by rfl) (by first | exact .inr (by assumption) | exact .inl (.inl rfl) | exact .inl rfl) ?_
  clear hH; intro w hH
  refine Sq.nil ?_
  refine blk_n ?_
  refine then_n ?_
  refine reg_plain w0 (fun z => z = gb ∨ z = sb) ?_
  refine r_move hS hH.kp0 rfl rfl ?_; clear hS; intro a hS
  (first | refine r_add hS hH.kp0 rfl rfl rfl (by omega) ?_ | refine r_addw hS hH.kp0 rfl rfl rfl ?_)
  clear hS; intro a hS
  refine r_assign hS hH.kp0 rfl rfl ?_; clear hS; intro a hS
  refine Sq.nil ?_
  refine then_n ?_
  refine rnd ?_
  refine c_seq ?_
  refine c_seq ?_
  refine reg_plain w0 (fun z => z = gb ∨ z = sb) ?_
  refine r_move hS hH.kp0 rfl rfl ?_; clear hS; intro a hS
  refine r_move hS hH.kp0 rfl rfl ?_; clear hS; intro a hS
  refine r_nilCheck hS hH.kp0 rfl rfl ?_; clear hS; intro a hS
  refine r_fieldAddr hS hH.kp0 rfl Fc.fo89_1 rfl ?_; clear hS; intro a hS
  refine r_load_sc hS hH (by repeat (first | exact Sub.nil | refine Sub.cons ?_ ?_ | exact In.here | refine In.there ?_)) rfl (by repeat (first | exact In.here | refine In.there ?_)) Fc.sc87 (by rfl) rfl ?_; clear hS; intro a hS
  refine r_lenSl hS hH.kp0 rfl Fc.isSlice87 rfl ?_; clear hS; intro a hS
  refine r_lss hS hH.kp0 rfl rfl rfl ?_; clear hS; intro a hS
  refine Sq.nil ?_
  refine then_n ?_
  refine c_condF hS rfl rfl ?_
  refine wp_exit ?_
  refine then_e ?_
  refine then_e ?_
  refine blk_hit ?_
  refine then_n ?_
  refine c_seq ?_
  refine c_seq ?_
  refine reg_plain w0 (fun z => z = gb ∨ z = sb) ?_
  refine r_move hS hH.kp0 rfl rfl ?_; clear hS; intro a hS
  refine r_nilCheck hS hH.kp0 rfl rfl ?_; clear hS; intro a hS
  refine r_fieldAddr hS hH.kp0 rfl Fc.fo89_1 rfl ?_; clear hS; intro a hS
  refine r_load_sc hS hH (by repeat (first | exact Sub.nil | refine Sub.cons ?_ ?_ | exact In.here | refine In.there ?_)) rfl (by repeat (first | exact In.here | refine In.there ?_)) Fc.sc87 (by rfl) rfl ?_; clear hS; intro a hS
  refine r_lenSl hS hH.kp0 rfl Fc.isSlice87 rfl ?_; clear hS; intro a hS
  refine r_move hS hH.kp0 rfl rfl ?_; clear hS; intro a hS
  refine r_move hS hH.kp0 rfl rfl ?_; clear hS; intro a hS
  (first | refine r_sub hS hH.kp0 rfl rfl rfl (by omega) ?_ | refine r_subw hS hH.kp0 rfl rfl rfl ?_)
  clear hS; intro a hS
  (first | refine r_sub hS hH.kp0 rfl rfl rfl (by omega) ?_ | refine r_subw hS hH.kp0 rfl rfl rfl ?_)
  clear hS; intro a hS
  (first | refine r_add hS hH.kp0 rfl rfl rfl (by omega) ?_ | refine r_addw hS hH.kp0 rfl rfl rfl ?_)
  clear hS; intro a hS
  refine r_gtr hS hH.kp0 rfl rfl rfl ?_; clear hS; intro a hS
  refine Sq.nil ?_
  refine then_n ?_
  refine c_condF hS rfl rfl ?_
  refine wp_skip ?_
  refine then_n ?_
  refine c_seq ?_
  refine reg_draw [(true, 0, [1, 2]), (true, 1, [1, 2]), (true, 2, [1, 2]), (true, 3, [1, 2]), (true, 4, [2]), (true, 5, [1, 2]), (true, 6, [1, 2]), (true, 7, [1, 2]), (false, 8, []), (false, 9, [2]), (true, 10, [1, 2]), (true, 11, [1, 2]), (false, 12, [1, 2])] Fc.mixed (by kernel_rfl) (by kernel_rfl) (by kernel_rfl) (by kernel_rfl) (by kernel_rfl) (by repeat (first | with_reducible exact steady_body | with_reducible exact steady_bodyQ | with_reducible exact steady_round | with_reducible apply steady_block | with_reducible apply steady_then | with_reducible apply steady_scope | exact steady_body)) hH ?_
  replace hH := hH.drew
  refine r_move hS trivial rfl rfl ?_; clear hS; intro a hS
  refine r_move hS trivial rfl rfl ?_; clear hS; intro a hS
  refine r_nilCheck hS trivial rfl rfl ?_; clear hS; intro a hS
  refine r_fieldAddr hS trivial rfl Fc.fo89_1 rfl ?_; clear hS; intro a hS
  refine r_load_scS hS rfl (by repeat (first | exact In.here | refine In.there ?_)) Fc.sc87 (by rfl) rfl ?_; clear hS; intro a hS
  refine r_move hS trivial rfl rfl ?_; clear hS; intro a hS
  refine r_move hS trivial rfl rfl ?_; clear hS; intro a hS
  refine r_load_rowS hS rfl (by repeat (first | exact In.here | refine In.there ?_)) Fc.ag94 (by rfl) rfl ?_; clear hS; intro a hS
  refine r_buildSlice (parts := [(0, .tmp 87)]) hS hH (by repeat (first | exact Sub.nil | refine Sub.cons ?_ ?_ | exact In.here | refine In.there ?_)) rfl Fc.bsl87_1 (by rfl) rfl ?_
  clear hS hH; intro a w vb hvb hwvb hS hH
  refine r_call (l := [.tmp 84, .tmp 85, .tmp 86, .tmp 88]) hS rfl rfl Fc.fn51 rfl ?_
  have hvs : sb ≠ vb := fun e => by have h9 := hH.nd; subst e; simp at h9
  refine Calls.mono (rep_one sb cap vb 1 (min fa x) (max fb y) l [.int .i64 ((min fa x : Nat) : Int), .int .i64 ((max fb y : Nat) : Int)] hl rfl (Nat.le_refl _) rfl hvs hc _ (hH.get (b := vb) (by repeat (first | exact In.here | refine In.there ?_))) (hH.get (b := sb) (by repeat (first | exact In.here | refine In.there ?_)))) ?_
  rintro e w1 ⟨cb, c2, l2, rfl, hcb, hck, hl2, hc2, htk, hM⟩
  have hcb0 : cb = sb ∨ w0.heap.size ≤ cb := hcb.imp id (fun h => Nat.le_trans hH.mod.size h)
  replace hH := hH.turn1 (sb := sb) (by repeat (first | exact .here | apply In.there | apply Put.there | apply Del.there)) hM (.inl (.inr rfl)) hcb hck
  refine ⟨_, rfl, hH.kp (by repeat (first | exact Sub.nil | refine Sub.cons ?_ ?_ | exact In.here | refine In.there ?_)), ?_⟩
  clear hS; intro a hS
  refine r_nilCheck hS trivial rfl rfl ?_; clear hS; intro a hS
  refine r_fieldAddr hS trivial rfl Fc.fo89_1 rfl ?_; clear hS; intro a hS
  refine r_store1 hS hH rfl rfl rfl (by repeat (first | exact .here | apply In.there | apply Put.there | apply Del.there)) (by repeat (first | exact Sub.nil | refine Sub.cons ?_ ?_ | exact In.here | refine In.there ?_)) Fc.sz87 (of_decide_eq_true rfl) (by first | exact .inr (by assumption) | exact .inl (.inl rfl) | exact .inl rfl) ?_
  clear hH; intro w hH
  refine Sq.nil ?_
  refine then_n ?_
  refine c_seq ?_
  refine reg_plain w0 (fun z => z = gb ∨ z = sb) ?_
  refine r_assign hS hH.kp0 rfl rfl ?_; clear hS; intro a hS
  refine Sq.nil ?_
  refine then_n ?_
  refine wp_ret ?_
  refine sc_r ?_
  have nd := hH.nd
  simp only [List.map_cons, List.map_nil, List.nodup_cons, List.mem_cons, List.not_mem_nil, or_false, not_or] at nd
  exact leave (.inl rfl) hS rfl (Res.tmp rfl Res.nil) ⟨cb, c2, l2, rfl, hH.get (b := gb) (by repeat (first | exact In.here | refine In.there ?_)), hH.get (b := cb) (by repeat (first | exact In.here | refine In.there ?_)), hl2, hc2, htk, fun e => by subst e; simp at nd, hcb0, hH.mod⟩

set_option maxRecDepth 100000 in
set_option maxHeartbeats 400000 in
theorem rem_blk (gb sb cap fa fb : Nat) (l : List Value) (hab : fa ≤ fb) (hb : fb ≤ 1099511627776) (hn3 : gb ≠ sb) (w0 : World) (hg : w0.heap[gb]? = some (.cells ([.bool true, .slice (some ⟨sb, 0, none⟩) 0 cap] : List Value).toArray 89 (0, 0))) (hs : w0.heap[sb]? = some (.cells l.toArray 94 (0, 0))) : Calls Try.prog 31 #[.pointer (some ⟨gb, 0, none⟩), .int .i64 (fa : Int), .int .i64 (fb : Int)] w0 fun e w' => e = .returned (.int .i64 0) ∧ w'.heap[gb]? = some (.cells ([.bool true, .slice (some ⟨sb, 0, none⟩) 0 cap] : List Value).toArray 89 (0, 0)) ∧ w'.heap[sb]? = some (.cells l.toArray 94 (0, 0)) ∧ Mod (fun z => z = gb ∨ z = sb) w0 w' := by
  refine enter Try.func31 rfl rfl rfl ?_
  intro a hS
  have hH := Hp.start w0 (fun z => z = gb ∨ z = sb)
  replace hH := (hH.know hs (by intro p hp; simp at hp)).know hg (by intro p hp; simp at hp; subst hp; exact hn3.symm)
  refine c_seq ?_
  refine reg_plain w0 (fun z => z = gb ∨ z = sb) ?_
  refine r_assign hS hH.kp0 rfl rfl ?_; clear hS; intro a hS
  refine Sq.nil ?_
  refine then_n ?_
  refine c_seq ?_
  refine c_seq ?_
  refine reg_plain w0 (fun z => z = gb ∨ z = sb) ?_
  refine r_move hS hH.kp0 rfl rfl ?_; clear hS; intro a hS
  refine r_move hS hH.kp0 rfl rfl ?_; clear hS; intro a hS
  refine r_move hS hH.kp0 rfl rfl ?_; clear hS; intro a hS
  refine r_call (l := [.tmp 13, .tmp 14, .tmp 15]) hS rfl rfl Fc.fn49 rfl ?_
  refine Calls.mono (swv_c gb fa fb _ hab hb _ (hH.get (b := gb) (by repeat (first | exact In.here | refine In.there ?_)))) ?_
  rintro e w1 ⟨rfl, hE⟩
  replace hH := hH.ext hE
  refine ⟨_, rfl, hH.kp0, ?_⟩
  clear hS; intro a hS
  refine r_assign hS hH.kp0 rfl rfl ?_; clear hS; intro a hS
  refine Sq.nil ?_
  refine then_n ?_
  refine c_seq ?_
  refine reg_plain w0 (fun z => z = gb ∨ z = sb) ?_
  refine r_move hS hH.kp0 rfl rfl ?_; clear hS; intro a hS
  refine r_neq hS hH.kp0 rfl rfl rfl ?_; clear hS; intro a hS
  refine Sq.nil ?_
  refine then_n ?_
  refine c_condF hS rfl rfl ?_
  refine wp_skip ?_
  refine then_n ?_
  refine c_seq ?_
  refine reg_plain w0 (fun z => z = gb ∨ z = sb) ?_
  refine r_move hS hH.kp0 rfl rfl ?_; clear hS; intro a hS
  refine r_move hS hH.kp0 rfl rfl ?_; clear hS; intro a hS
  refine r_call (l := [.tmp 20, .tmp 21]) hS rfl rfl Fc.fn50 rfl ?_
  refine Calls.mono (from0 gb cap (some ⟨sb, 0, none⟩) _ _ (hH.get (b := gb) (by repeat (first | exact In.here | refine In.there ?_)))) ?_
  rintro e w1 ⟨rfl, hE⟩
  replace hH := hH.ext hE
  refine ⟨_, rfl, hH.kp0, ?_⟩
  clear hS; intro a hS
  refine r_assign hS hH.kp0 rfl rfl ?_; clear hS; intro a hS
  refine Sq.nil ?_
  refine then_n ?_
  refine c_seq ?_
  refine reg_plain w0 (fun z => z = gb ∨ z = sb) ?_
  refine r_move hS hH.kp0 rfl rfl ?_; clear hS; intro a hS
  refine r_assign hS hH.kp0 rfl rfl ?_; clear hS; intro a hS
  refine Sq.nil ?_
  refine then_n ?_
  refine c_seq ?_
  refine reg_plain w0 (fun z => z = gb ∨ z = sb) ?_
  refine r_assign hS hH.kp0 rfl rfl ?_; clear hS; intro a hS
  refine Sq.nil ?_
  refine then_n ?_
  refine c_seq ?_
  refine wp_block ?_
  refine wp_loop_rounds 1 ?_
  refine rnd ?_
  refine c_seq ?_
  refine c_seq ?_
  refine reg_plain w0 (fun z => z = gb ∨ z = sb) ?_
  refine r_move hS hH.kp0 rfl rfl ?_; clear hS; intro a hS
  refine r_move hS hH.kp0 rfl rfl ?_; clear hS; intro a hS
  refine r_nilCheck hS hH.kp0 rfl rfl ?_; clear hS; intro a hS
  refine r_fieldAddr hS hH.kp0 rfl Fc.fo89_1 rfl ?_; clear hS; intro a hS
  refine r_load_sc hS hH (by repeat (first | exact Sub.nil | refine Sub.cons ?_ ?_ | exact In.here | refine In.there ?_)) rfl (by repeat (first | exact In.here | refine In.there ?_)) Fc.sc87 (by rfl) rfl ?_; clear hS; intro a hS
  refine r_lenSl hS hH.kp0 rfl Fc.isSlice87 rfl ?_; clear hS; intro a hS
  refine r_lss hS hH.kp0 rfl rfl rfl ?_; clear hS; intro a hS
  refine r_move hS hH.kp0 rfl rfl ?_; clear hS; intro a hS
  refine Sq.guardNo hS rfl rfl rfl hH.kp0 rfl ?_; clear hS; intro a hS
  refine Sq.guardNo hS rfl rfl rfl hH.kp0 rfl ?_; clear hS; intro a hS
  refine Sq.guardNo hS rfl rfl rfl hH.kp0 rfl ?_; clear hS; intro a hS
  refine Sq.guardNo hS rfl rfl rfl hH.kp0 rfl ?_; clear hS; intro a hS
  refine Sq.guardNo hS rfl rfl rfl hH.kp0 rfl ?_; clear hS; intro a hS
  refine Sq.guardNo hS rfl rfl rfl hH.kp0 rfl ?_; clear hS; intro a hS
  refine Sq.guardNo hS rfl rfl rfl hH.kp0 rfl ?_; clear hS; intro a hS
  refine Sq.guardNo hS rfl rfl rfl hH.kp0 rfl ?_; clear hS; intro a hS
  refine Sq.guardNo hS rfl rfl rfl hH.kp0 rfl ?_; clear hS; intro a hS
  refine Sq.guardNo hS rfl rfl rfl hH.kp0 rfl ?_; clear hS; intro a hS
  refine r_pickF hS hH.kp0 rfl rfl rfl rfl ?_; clear hS; intro a hS
  refine Sq.nil ?_
  refine then_n ?_
  refine c_condF hS rfl rfl ?_
  refine wp_exit ?_
  refine then_e ?_
  refine then_e ?_
  refine blk_hit ?_
  refine then_n ?_
  refine c_seq ?_
  refine c_seq ?_
  refine reg_plain w0 (fun z => z = gb ∨ z = sb) ?_
  refine r_move hS hH.kp0 rfl rfl ?_; clear hS; intro a hS
  refine r_nilCheck hS hH.kp0 rfl rfl ?_; clear hS; intro a hS
  refine r_fieldAddr hS hH.kp0 rfl Fc.fo89_1 rfl ?_; clear hS; intro a hS
  refine r_load_sc hS hH (by repeat (first | exact Sub.nil | refine Sub.cons ?_ ?_ | exact In.here | refine In.there ?_)) rfl (by repeat (first | exact In.here | refine In.there ?_)) Fc.sc87 (by rfl) rfl ?_; clear hS; intro a hS
  refine r_lenSl hS hH.kp0 rfl Fc.isSlice87 rfl ?_; clear hS; intro a hS
  refine r_move hS hH.kp0 rfl rfl ?_; clear hS; intro a hS
  refine r_move hS hH.kp0 rfl rfl ?_; clear hS; intro a hS
  (first | refine r_sub hS hH.kp0 rfl rfl rfl (by omega) ?_ | refine r_subw hS hH.kp0 rfl rfl rfl ?_)
  clear hS; intro a hS
  (first | refine r_sub hS hH.kp0 rfl rfl rfl (by omega) ?_ | refine r_subw hS hH.kp0 rfl rfl rfl ?_)
  clear hS; intro a hS
  refine r_move hS hH.kp0 rfl rfl ?_; clear hS; intro a hS
  refine r_lenSl hS hH.kp0 rfl Fc.isSlice87 rfl ?_; clear hS; intro a hS
  (first | refine r_add hS hH.kp0 rfl rfl rfl (by omega) ?_ | refine r_addw hS hH.kp0 rfl rfl rfl ?_)
  clear hS; intro a hS
  refine r_gtr hS hH.kp0 rfl rfl rfl ?_; clear hS; intro a hS
  refine Sq.nil ?_
  refine then_n ?_
  refine c_condF hS rfl rfl ?_
  refine wp_skip ?_
  refine then_n ?_
  refine c_seq ?_
  refine reg_plain w0 (fun z => z = gb ∨ z = sb) ?_
  refine r_move hS hH.kp0 rfl rfl ?_; clear hS; intro a hS
  refine r_move hS hH.kp0 rfl rfl ?_; clear hS; intro a hS
  refine r_nilCheck hS hH.kp0 rfl rfl ?_; clear hS; intro a hS
  refine r_fieldAddr hS hH.kp0 rfl Fc.fo89_1 rfl ?_; clear hS; intro a hS
  refine r_load_sc hS hH (by repeat (first | exact Sub.nil | refine Sub.cons ?_ ?_ | exact In.here | refine In.there ?_)) rfl (by repeat (first | exact In.here | refine In.there ?_)) Fc.sc87 (by rfl) rfl ?_; clear hS; intro a hS
  refine r_move hS hH.kp0 rfl rfl ?_; clear hS; intro a hS
  refine r_move hS hH.kp0 rfl rfl ?_; clear hS; intro a hS
  refine r_move hS hH.kp0 rfl rfl ?_; clear hS; intro a hS
  refine r_call (l := [.tmp 100, .tmp 101, .tmp 102, .tmp 103]) hS rfl rfl Fc.fn51 rfl ?_
  refine Calls.mono (rep_none sb 0 cap _) ?_
  rintro e w1 ⟨rfl, hE⟩
  replace hH := hH.ext hE
  refine ⟨_, rfl, hH.kp0, ?_⟩
  clear hS; intro a hS
  refine r_nilCheck hS hH.kp0 rfl rfl ?_; clear hS; intro a hS
  refine r_fieldAddr hS hH.kp0 rfl Fc.fo89_1 rfl ?_; clear hS; intro a hS
  refine r_store1 hS hH rfl rfl rfl (by repeat (first | exact .here | apply In.there | apply Put.there | apply Del.there)) (by repeat (first | exact Sub.nil | refine Sub.cons ?_ ?_ | exact In.here | refine In.there ?_)) Fc.sz87 (of_decide_eq_true rfl) (.inl (.inl rfl)) ?_
  clear hH; intro w hH
  refine Sq.nil ?_
  refine then_n ?_
  refine c_seq ?_
  refine reg_plain w0 (fun z => z = gb ∨ z = sb) ?_
  refine r_assign hS hH.kp0 rfl rfl ?_; clear hS; intro a hS
  refine Sq.nil ?_
  refine then_n ?_
  refine wp_ret ?_
  exact leave (.inl rfl) hS rfl (Res.tmp rfl Res.nil) ⟨rfl, hH.get (b := gb) (by repeat (first | exact In.here | refine In.there ?_)), hH.get (b := sb) (by repeat (first | exact In.here | refine In.there ?_)), hH.mod⟩

set_option maxRecDepth 100000 in
set_option maxHeartbeats 400000 in
theorem rem_far (gb sb cap x y : Nat) (l : List Value) (hl : l.length = cap * 2) (hc : 1 ≤ cap) (ht : l.take 2 = [.int .i64 (x : Int), .int .i64 (y : Int)]) (hn3 : gb ≠ sb) (hxy : x ≤ y) (hy : y ≤ 1099511627776) (fa fb : Nat) (hab : fa ≤ fb) (hb : fb ≤ 1099511627776) (hbx : fb < x) (w0 : World) (hg : w0.heap[gb]? = some (.cells ([.bool true, .slice (some ⟨sb, 0, none⟩) 1 cap] : List Value).toArray 89 (0, 0))) (hs : w0.heap[sb]? = some (.cells l.toArray 94 (0, 0))) : Calls Try.prog 31 #[.pointer (some ⟨gb, 0, none⟩), .int .i64 (fa : Int), .int .i64 (fb : Int)] w0 fun e w' => e = .returned (.int .i64 0) ∧ w'.heap[gb]? = some (.cells ([.bool true, .slice (some ⟨sb, 0, none⟩) 1 cap] : List Value).toArray 89 (0, 0)) ∧ w'.heap[sb]? = some (.cells l.toArray 94 (0, 0)) ∧ Mod (fun z => z = gb ∨ z = sb) w0 w' := by
  refine enter Try.func31 rfl rfl rfl ?_
  intro a hS
  have hH := Hp.start w0 (fun z => z = gb ∨ z = sb)
  replace hH := (hH.know hs (by intro p hp; simp at hp)).know hg (by intro p hp; simp at hp; subst hp; exact hn3.symm)
  obtain ⟨hl0, hl1⟩ := row2 ht
  refine c_seq ?_
  refine reg_plain w0 (fun z => z = gb ∨ z = sb) ?_
  refine r_assign hS hH.kp0 rfl rfl ?_; clear hS; intro a hS
  refine Sq.nil ?_
  refine then_n ?_
  refine c_seq ?_
  refine c_seq ?_
  refine reg_plain w0 (fun z => z = gb ∨ z = sb) ?_
  refine r_move hS hH.kp0 rfl rfl ?_; clear hS; intro a hS
  refine r_move hS hH.kp0 rfl rfl ?_; clear hS; intro a hS
  refine r_move hS hH.kp0 rfl rfl ?_; clear hS; intro a hS
  refine r_call (l := [.tmp 13, .tmp 14, .tmp 15]) hS rfl rfl Fc.fn49 rfl ?_
  refine Calls.mono (swv_c gb fa fb _ hab hb _ (hH.get (b := gb) (by repeat (first | exact In.here | refine In.there ?_)))) ?_
  rintro e w1 ⟨rfl, hE⟩
  replace hH := hH.ext hE
  refine ⟨_, rfl, hH.kp0, ?_⟩
  clear hS; intro a hS
  refine r_assign hS hH.kp0 rfl rfl ?_; clear hS; intro a hS
  refine Sq.nil ?_
  refine then_n ?_
  refine c_seq ?_
  refine reg_plain w0 (fun z => z = gb ∨ z = sb) ?_
  refine r_move hS hH.kp0 rfl rfl ?_; clear hS; intro a hS
  refine r_neq hS hH.kp0 rfl rfl rfl ?_; clear hS; intro a hS
  refine Sq.nil ?_
  refine then_n ?_
  refine c_condF hS rfl rfl ?_
  refine wp_skip ?_
  refine then_n ?_
  refine c_seq ?_
  refine reg_plain w0 (fun z => z = gb ∨ z = sb) ?_
  refine r_move hS hH.kp0 rfl rfl ?_; clear hS; intro a hS
  refine r_move hS hH.kp0 rfl rfl ?_; clear hS; intro a hS
  refine r_call (l := [.tmp 20, .tmp 21]) hS rfl rfl Fc.fn50 rfl ?_
  refine Calls.mono (from_ge gb sb cap x y l hl hc ht hn3 hxy hy (fa : Int) (by omega) (by omega) _ (hH.get (b := gb) (by repeat (first | exact In.here | refine In.there ?_))) (hH.get (b := sb) (by repeat (first | exact In.here | refine In.there ?_)))) ?_
  rintro e w1 ⟨rfl, hE⟩
  replace hH := hH.ext hE
  refine ⟨_, rfl, hH.kp0, ?_⟩
  clear hS; intro a hS
  refine r_assign hS hH.kp0 rfl rfl ?_; clear hS; intro a hS
  refine Sq.nil ?_
  refine then_n ?_
  refine c_seq ?_
  refine reg_plain w0 (fun z => z = gb ∨ z = sb) ?_
  refine r_move hS hH.kp0 rfl rfl ?_; clear hS; intro a hS
  refine r_assign hS hH.kp0 rfl rfl ?_; clear hS; intro a hS
  refine Sq.nil ?_
  refine then_n ?_
  refine c_seq ?_
  refine reg_plain w0 (fun z => z = gb ∨ z = sb) ?_
  refine r_assign hS hH.kp0 rfl rfl ?_; clear hS; intro a hS
  refine Sq.nil ?_
  refine then_n ?_
  refine c_seq ?_
  refine wp_block ?_
  refine wp_loop_rounds 1 ?_
  refine rnd ?_
  refine c_seq ?_
  refine c_seq ?_
  refine reg_plain w0 (fun z => z = gb ∨ z = sb) ?_
  refine r_move hS hH.kp0 rfl rfl ?_; clear hS; intro a hS
  refine r_move hS hH.kp0 rfl rfl ?_; clear hS; intro a hS
  refine r_nilCheck hS hH.kp0 rfl rfl ?_; clear hS; intro a hS
  refine r_fieldAddr hS hH.kp0 rfl Fc.fo89_1 rfl ?_; clear hS; intro a hS
  refine r_load_sc hS hH (by repeat (first | exact Sub.nil | refine Sub.cons ?_ ?_ | exact In.here | refine In.there ?_)) rfl (by repeat (first | exact In.here | refine In.there ?_)) Fc.sc87 (by rfl) rfl ?_; clear hS; intro a hS
  refine r_lenSl hS hH.kp0 rfl Fc.isSlice87 rfl ?_; clear hS; intro a hS
  refine r_lss hS hH.kp0 rfl rfl rfl ?_; clear hS; intro a hS
  refine r_move hS hH.kp0 rfl rfl ?_; clear hS; intro a hS
  refine Sq.guardYes hS rfl rfl rfl ?_
  refine r_move hS hH.kp0 rfl rfl ?_; clear hS; intro a hS
  refine Sq.guardYes hS rfl rfl rfl ?_
  refine r_nilCheck hS hH.kp0 rfl rfl ?_; clear hS; intro a hS
  refine Sq.guardYes hS rfl rfl rfl ?_
  refine r_fieldAddr hS hH.kp0 rfl Fc.fo89_1 rfl ?_; clear hS; intro a hS
  refine Sq.guardYes hS rfl rfl rfl ?_
  refine r_load_sc hS hH (by repeat (first | exact Sub.nil | refine Sub.cons ?_ ?_ | exact In.here | refine In.there ?_)) rfl (by repeat (first | exact In.here | refine In.there ?_)) Fc.sc87 (by rfl) rfl ?_; clear hS; intro a hS
  refine Sq.guardYes hS rfl rfl rfl ?_
  refine r_move hS hH.kp0 rfl rfl ?_; clear hS; intro a hS
  refine Sq.guardYes hS rfl rfl rfl ?_
  refine r_indexAddrS (j := 0) hS hH.kp0 rfl rfl Fc.slb87 rfl (by decide) rfl ?_; clear hS; intro a hS
  refine Sq.guardYes hS rfl rfl rfl ?_
  refine r_fieldAddr hS hH.kp0 rfl Fc.fo94_0 rfl ?_; clear hS; intro a hS
  refine Sq.guardYes hS rfl rfl rfl ?_
  refine r_load_sc hS hH (by repeat (first | exact Sub.nil | refine Sub.cons ?_ ?_ | exact In.here | refine In.there ?_)) rfl (by repeat (first | exact In.here | refine In.there ?_)) Fc.sc3 (v := .int .i64 (x : Int)) hl0 rfl ?_; clear hS; intro a hS
  refine Sq.guardYes hS rfl rfl rfl ?_
  refine r_move hS hH.kp0 rfl rfl ?_; clear hS; intro a hS
  refine Sq.guardYes hS rfl rfl rfl ?_
  refine r_leq hS hH.kp0 rfl rfl rfl ?_; clear hS; intro a hS
  refine r_pickT hS hH.kp0 rfl rfl rfl rfl ?_; clear hS; intro a hS
  refine Sq.nil ?_
  refine then_n ?_
  refine c_condF hS rfl (DF (by omega)) ?_
  refine wp_exit ?_
  refine then_e ?_
  refine then_e ?_
  refine blk_hit ?_
  refine then_n ?_
  refine c_seq ?_
  refine c_seq ?_
  refine reg_plain w0 (fun z => z = gb ∨ z = sb) ?_
  refine r_move hS hH.kp0 rfl rfl ?_; clear hS; intro a hS
  refine r_nilCheck hS hH.kp0 rfl rfl ?_; clear hS; intro a hS
  refine r_fieldAddr hS hH.kp0 rfl Fc.fo89_1 rfl ?_; clear hS; intro a hS
  refine r_load_sc hS hH (by repeat (first | exact Sub.nil | refine Sub.cons ?_ ?_ | exact In.here | refine In.there ?_)) rfl (by repeat (first | exact In.here | refine In.there ?_)) Fc.sc87 (by rfl) rfl ?_; clear hS; intro a hS
  refine r_lenSl hS hH.kp0 rfl Fc.isSlice87 rfl ?_; clear hS; intro a hS
  refine r_move hS hH.kp0 rfl rfl ?_; clear hS; intro a hS
  refine r_move hS hH.kp0 rfl rfl ?_; clear hS; intro a hS
  (first | refine r_sub hS hH.kp0 rfl rfl rfl (by omega) ?_ | refine r_subw hS hH.kp0 rfl rfl rfl ?_)
  clear hS; intro a hS
  (first | refine r_sub hS hH.kp0 rfl rfl rfl (by omega) ?_ | refine r_subw hS hH.kp0 rfl rfl rfl ?_)
  clear hS; intro a hS
  refine r_move hS hH.kp0 rfl rfl ?_; clear hS; intro a hS
  refine r_lenSl hS hH.kp0 rfl Fc.isSlice87 rfl ?_; clear hS; intro a hS
  (first | refine r_add hS hH.kp0 rfl rfl rfl (by omega) ?_ | refine r_addw hS hH.kp0 rfl rfl rfl ?_)
  clear hS; intro a hS
  refine r_gtr hS hH.kp0 rfl rfl rfl ?_; clear hS; intro a hS
  refine Sq.nil ?_
  refine then_n ?_
  refine c_condF hS rfl rfl ?_
  refine wp_skip ?_
  refine then_n ?_
  refine c_seq ?_
  refine reg_plain w0 (fun z => z = gb ∨ z = sb) ?_
  refine r_move hS hH.kp0 rfl rfl ?_; clear hS; intro a hS
  refine r_move hS hH.kp0 rfl rfl ?_; clear hS; intro a hS
  refine r_nilCheck hS hH.kp0 rfl rfl ?_; clear hS; intro a hS
  refine r_fieldAddr hS hH.kp0 rfl Fc.fo89_1 rfl ?_; clear hS; intro a hS
  refine r_load_sc hS hH (by repeat (first | exact Sub.nil | refine Sub.cons ?_ ?_ | exact In.here | refine In.there ?_)) rfl (by repeat (first | exact In.here | refine In.there ?_)) Fc.sc87 (by rfl) rfl ?_; clear hS; intro a hS
  refine r_move hS hH.kp0 rfl rfl ?_; clear hS; intro a hS
  refine r_move hS hH.kp0 rfl rfl ?_; clear hS; intro a hS
  refine r_move hS hH.kp0 rfl rfl ?_; clear hS; intro a hS
  refine r_call (l := [.tmp 100, .tmp 101, .tmp 102, .tmp 103]) hS rfl rfl Fc.fn51 rfl ?_
  refine Calls.mono (rep_none sb 1 cap _) ?_
  rintro e w1 ⟨rfl, hE⟩
  replace hH := hH.ext hE
  refine ⟨_, rfl, hH.kp0, ?_⟩
  clear hS; intro a hS
  refine r_nilCheck hS hH.kp0 rfl rfl ?_; clear hS; intro a hS
  refine r_fieldAddr hS hH.kp0 rfl Fc.fo89_1 rfl ?_; clear hS; intro a hS
  refine r_store1 hS hH rfl rfl rfl (by repeat (first | exact .here | apply In.there | apply Put.there | apply Del.there)) (by repeat (first | exact Sub.nil | refine Sub.cons ?_ ?_ | exact In.here | refine In.there ?_)) Fc.sz87 (of_decide_eq_true rfl) (.inl (.inl rfl)) ?_
  clear hH; intro w hH
  refine Sq.nil ?_
  refine then_n ?_
  refine c_seq ?_
  refine reg_plain w0 (fun z => z = gb ∨ z = sb) ?_
  refine r_assign hS hH.kp0 rfl rfl ?_; clear hS; intro a hS
  refine Sq.nil ?_
  refine then_n ?_
  refine wp_ret ?_
  exact leave (.inl rfl) hS rfl (Res.tmp rfl Res.nil) ⟨rfl, hH.get (b := gb) (by repeat (first | exact In.here | refine In.there ?_)), hH.get (b := sb) (by repeat (first | exact In.here | refine In.there ?_)), hH.mod⟩

set_option maxRecDepth 100000 in
set_option maxHeartbeats 400000 in
theorem rem_all (gb sb cap x y : Nat) (l : List Value) (hl : l.length = cap * 2) (hc : 1 ≤ cap) (ht : l.take 2 = [.int .i64 (x : Int), .int .i64 (y : Int)]) (hn3 : gb ≠ sb) (hxy : x ≤ y) (hy : y ≤ 1099511627776) (fb : Nat) (hb : fb ≤ 1099511627776) (hby : fb = y) (w0 : World) (hg : w0.heap[gb]? = some (.cells ([.bool true, .slice (some ⟨sb, 0, none⟩) 1 cap] : List Value).toArray 89 (0, 0))) (hs : w0.heap[sb]? = some (.cells l.toArray 94 (0, 0))) : Calls Try.prog 31 #[.pointer (some ⟨gb, 0, none⟩), .int .i64 (x : Int), .int .i64 (fb : Int)] w0 fun e w' => ∃ l2 : List Value, e = .returned (.int .i64 0) ∧ w'.heap[gb]? = some (.cells ([.bool true, .slice (some ⟨sb, 0, none⟩) 0 cap] : List Value).toArray 89 (0, 0)) ∧ w'.heap[sb]? = some (.cells l2.toArray 94 (0, 0)) ∧ l2.length = cap * 2 ∧ Mod (fun z => z = gb ∨ z = sb) w0 w' := by
  refine enter Try.func31 rfl rfl rfl ?_
  intro a hS
  have hH := Hp.start w0 (fun z => z = gb ∨ z = sb)
  replace hH := (hH.know hs (by intro p hp; simp at hp)).know hg (by intro p hp; simp at hp; subst hp; exact hn3.symm)
  obtain ⟨hl0, hl1⟩ := row2 ht
  refine c_seq ?_
  refine reg_plain w0 (fun z => z = gb ∨ z = sb) ?_
  refine r_assign hS hH.kp0 rfl rfl ?_; clear hS; intro a hS
  refine Sq.nil ?_
  refine then_n ?_
  refine c_seq ?_
  refine c_seq ?_
  refine reg_plain w0 (fun z => z = gb ∨ z = sb) ?_
  refine r_move hS hH.kp0 rfl rfl ?_; clear hS; intro a hS
  refine r_move hS hH.kp0 rfl rfl ?_; clear hS; intro a hS
  refine r_move hS hH.kp0 rfl rfl ?_; clear hS; intro a hS
  refine r_call (l := [.tmp 13, .tmp 14, .tmp 15]) hS rfl rfl Fc.fn49 rfl ?_
  refine Calls.mono (swv_c gb x fb _ (by omega) hb _ (hH.get (b := gb) (by repeat (first | exact In.here | refine In.there ?_)))) ?_
  rintro e w1 ⟨rfl, hE⟩
  replace hH := hH.ext hE
  refine ⟨_, rfl, hH.kp0, ?_⟩
  clear hS; intro a hS
  refine r_assign hS hH.kp0 rfl rfl ?_; clear hS; intro a hS
  refine Sq.nil ?_
  refine then_n ?_
  refine c_seq ?_
  refine reg_plain w0 (fun z => z = gb ∨ z = sb) ?_
  refine r_move hS hH.kp0 rfl rfl ?_; clear hS; intro a hS
  refine r_neq hS hH.kp0 rfl rfl rfl ?_; clear hS; intro a hS
  refine Sq.nil ?_
  refine then_n ?_
  refine c_condF hS rfl rfl ?_
  refine wp_skip ?_
  refine then_n ?_
  refine c_seq ?_
  refine reg_plain w0 (fun z => z = gb ∨ z = sb) ?_
  refine r_move hS hH.kp0 rfl rfl ?_; clear hS; intro a hS
  refine r_move hS hH.kp0 rfl rfl ?_; clear hS; intro a hS
  refine r_call (l := [.tmp 20, .tmp 21]) hS rfl rfl Fc.fn50 rfl ?_
  refine Calls.mono (from_ge gb sb cap x y l hl hc ht hn3 hxy hy (x : Int) (by omega) (by omega) _ (hH.get (b := gb) (by repeat (first | exact In.here | refine In.there ?_))) (hH.get (b := sb) (by repeat (first | exact In.here | refine In.there ?_)))) ?_
  rintro e w1 ⟨rfl, hE⟩
  replace hH := hH.ext hE
  refine ⟨_, rfl, hH.kp0, ?_⟩
  clear hS; intro a hS
  refine r_assign hS hH.kp0 rfl rfl ?_; clear hS; intro a hS
  refine Sq.nil ?_
  refine then_n ?_
  refine c_seq ?_
  refine reg_plain w0 (fun z => z = gb ∨ z = sb) ?_
  refine r_move hS hH.kp0 rfl rfl ?_; clear hS; intro a hS
  refine r_assign hS hH.kp0 rfl rfl ?_; clear hS; intro a hS
  refine Sq.nil ?_
  refine then_n ?_
  refine c_seq ?_
  refine reg_plain w0 (fun z => z = gb ∨ z = sb) ?_
  refine r_assign hS hH.kp0 rfl rfl ?_; clear hS; intro a hS
  refine Sq.nil ?_
  refine then_n ?_
  refine c_seq ?_
  refine wp_block ?_
  refine wp_loop_rounds 2 ?_
  refine rnd ?_
  refine c_seq ?_
  refine c_seq ?_
  refine reg_plain w0 (fun z => z = gb ∨ z = sb) ?_
  refine r_move hS hH.kp0 rfl rfl ?_; clear hS; intro a hS
  refine r_move hS hH.kp0 rfl rfl ?_; clear hS; intro a hS
  refine r_nilCheck hS hH.kp0 rfl rfl ?_; clear hS; intro a hS
  refine r_fieldAddr hS hH.kp0 rfl Fc.fo89_1 rfl ?_; clear hS; intro a hS
  refine r_load_sc hS hH (by repeat (first | exact Sub.nil | refine Sub.cons ?_ ?_ | exact In.here | refine In.there ?_)) rfl (by repeat (first | exact In.here | refine In.there ?_)) Fc.sc87 (by rfl) rfl ?_; clear hS; intro a hS
  refine r_lenSl hS hH.kp0 rfl Fc.isSlice87 rfl ?_; clear hS; intro a hS
  refine r_lss hS hH.kp0 rfl rfl rfl ?_; clear hS; intro a hS
  refine r_move hS hH.kp0 rfl rfl ?_; clear hS; intro a hS
  refine Sq.guardYes hS rfl rfl rfl ?_
  refine r_move hS hH.kp0 rfl rfl ?_; clear hS; intro a hS
  refine Sq.guardYes hS rfl rfl rfl ?_
  refine r_nilCheck hS hH.kp0 rfl rfl ?_; clear hS; intro a hS
  refine Sq.guardYes hS rfl rfl rfl ?_
  refine r_fieldAddr hS hH.kp0 rfl Fc.fo89_1 rfl ?_; clear hS; intro a hS
  refine Sq.guardYes hS rfl rfl rfl ?_
  refine r_load_sc hS hH (by repeat (first | exact Sub.nil | refine Sub.cons ?_ ?_ | exact In.here | refine In.there ?_)) rfl (by repeat (first | exact In.here | refine In.there ?_)) Fc.sc87 (by rfl) rfl ?_; clear hS; intro a hS
  refine Sq.guardYes hS rfl rfl rfl ?_
  refine r_move hS hH.kp0 rfl rfl ?_; clear hS; intro a hS
  refine Sq.guardYes hS rfl rfl rfl ?_
  refine r_indexAddrS (j := 0) hS hH.kp0 rfl rfl Fc.slb87 rfl (by decide) rfl ?_; clear hS; intro a hS
  refine Sq.guardYes hS rfl rfl rfl ?_
  refine r_fieldAddr hS hH.kp0 rfl Fc.fo94_0 rfl ?_; clear hS; intro a hS
  refine Sq.guardYes hS rfl rfl rfl ?_
  refine r_load_sc hS hH (by repeat (first | exact Sub.nil | refine Sub.cons ?_ ?_ | exact In.here | refine In.there ?_)) rfl (by repeat (first | exact In.here | refine In.there ?_)) Fc.sc3 (v := .int .i64 (x : Int)) hl0 rfl ?_; clear hS; intro a hS
  refine Sq.guardYes hS rfl rfl rfl ?_
  refine r_move hS hH.kp0 rfl rfl ?_; clear hS; intro a hS
  refine Sq.guardYes hS rfl rfl rfl ?_
  refine r_leq hS hH.kp0 rfl rfl rfl ?_; clear hS; intro a hS
  refine r_pickT hS hH.kp0 rfl rfl rfl rfl ?_; clear hS; intro a hS
  refine Sq.nil ?_
  refine then_n ?_
  refine c_condT hS rfl (DT (by omega)) ?_
  refine wp_skip ?_
  refine then_n ?_
  refine c_seq ?_
  refine wp_block ?_
  refine c_seq ?_
  refine c_seq ?_
  refine reg_plain w0 (fun z => z = gb ∨ z = sb) ?_
  refine r_move hS hH.kp0 rfl rfl ?_; clear hS; intro a hS
  refine r_nilCheck hS hH.kp0 rfl rfl ?_; clear hS; intro a hS
  refine r_fieldAddr hS hH.kp0 rfl Fc.fo89_1 rfl ?_; clear hS; intro a hS
  refine r_load_sc hS hH (by repeat (first | exact Sub.nil | refine Sub.cons ?_ ?_ | exact In.here | refine In.there ?_)) rfl (by repeat (first | exact In.here | refine In.there ?_)) Fc.sc87 (by rfl) rfl ?_; clear hS; intro a hS
  refine r_move hS hH.kp0 rfl rfl ?_; clear hS; intro a hS
  refine r_indexAddrS (j := 0) hS hH.kp0 rfl rfl Fc.slb87 rfl (by decide) rfl ?_; clear hS; intro a hS
  refine r_load_ag hS hH (by repeat (first | exact Sub.nil | refine Sub.cons ?_ ?_ | exact In.here | refine In.there ?_)) rfl (by repeat (first | exact In.here | refine In.there ?_)) Fc.ag94 (by omega) rfl ?_; clear hS; intro a hS
  rw [show rd l (0 + 0 * 2) 2 = [.int .i64 (x : Int), .int .i64 (y : Int)] from ht] at hS
  refine r_alloc hS hH (by repeat (first | exact Sub.nil | refine Sub.cons ?_ ?_ | exact In.here | refine In.there ?_)) Fc.zc94 rfl ?_
  clear hS hH; intro a w b11 hb11 hwb11 hS hH
  refine r_store_row hS hH rfl rfl (by repeat (first | exact .here | apply In.there | apply Put.there | apply Del.there)) (by repeat (first | exact Sub.nil | refine Sub.cons ?_ ?_ | exact In.here | refine In.there ?_)) Fc.sz94 (by first | exact hcells_one _ | exact of_decide_eq_true rfl) (by rfl) (by first | exact .inr (by assumption) | exact .inl (.inl rfl)) ?_
  clear hH; intro w hH
  refine Sq.nil ?_
  refine then_n ?_
  refine c_seq ?_
  refine reg_plain w0 (fun z => z = gb ∨ z = sb) ?_
  refine r_fieldAddr hS hH.kp0 rfl Fc.fo94_0 rfl ?_; clear hS; intro a hS
  refine r_load_sc hS hH (by repeat (first | exact Sub.nil | refine Sub.cons ?_ ?_ | exact In.here | refine In.there ?_)) rfl (by repeat (first | exact In.here | refine In.there ?_)) Fc.sc3 (by rfl) rfl ?_; clear hS; intro a hS
  refine r_move hS hH.kp0 rfl rfl ?_; clear hS; intro a hS
  refine r_lss hS hH.kp0 rfl rfl rfl ?_; clear hS; intro a hS
  refine Sq.nil ?_
  refine then_n ?_
  refine c_condF hS rfl (DF (by omega)) ?_
  refine wp_skip ?_
  refine then_n ?_
  refine c_seq ?_
  refine reg_plain w0 (fun z => z = gb ∨ z = sb) ?_
  refine r_move hS hH.kp0 rfl rfl ?_; clear hS; intro a hS
  refine r_nilCheck hS hH.kp0 rfl rfl ?_; clear hS; intro a hS
  refine r_fieldAddr hS hH.kp0 rfl Fc.fo89_1 rfl ?_; clear hS; intro a hS
  refine r_load_sc hS hH (by repeat (first | exact Sub.nil | refine Sub.cons ?_ ?_ | exact In.here | refine In.there ?_)) rfl (by repeat (first | exact In.here | refine In.there ?_)) Fc.sc87 (by rfl) rfl ?_; clear hS; intro a hS
  refine r_move hS hH.kp0 rfl rfl ?_; clear hS; intro a hS
  refine r_indexAddrS (j := 0) hS hH.kp0 rfl rfl Fc.slb87 rfl (by decide) rfl ?_; clear hS; intro a hS
  refine r_load_ag hS hH (by repeat (first | exact Sub.nil | refine Sub.cons ?_ ?_ | exact In.here | refine In.there ?_)) rfl (by repeat (first | exact In.here | refine In.there ?_)) Fc.ag94 (by omega) rfl ?_; clear hS; intro a hS
  rw [show rd l (0 + 0 * 2) 2 = [.int .i64 (x : Int), .int .i64 (y : Int)] from ht] at hS
  refine r_alloc hS hH (by repeat (first | exact Sub.nil | refine Sub.cons ?_ ?_ | exact In.here | refine In.there ?_)) Fc.zc94 rfl ?_
  clear hS hH; intro a w b12 hb12 hwb12 hS hH
  refine r_store_row hS hH rfl rfl (by repeat (first | exact .here | apply In.there | apply Put.there | apply Del.there)) (by repeat (first | exact Sub.nil | refine Sub.cons ?_ ?_ | exact In.here | refine In.there ?_)) Fc.sz94 (by first | exact hcells_one _ | exact of_decide_eq_true rfl) (by rfl) (by first | exact .inr (by assumption) | exact .inl (.inl rfl)) ?_
  clear hH; intro w hH
  refine Sq.nil ?_
  refine then_n ?_
  refine c_seq ?_
  refine reg_plain w0 (fun z => z = gb ∨ z = sb) ?_
  refine r_fieldAddr hS hH.kp0 rfl Fc.fo94_1 rfl ?_; clear hS; intro a hS
  refine r_load_sc hS hH (by repeat (first | exact Sub.nil | refine Sub.cons ?_ ?_ | exact In.here | refine In.there ?_)) rfl (by repeat (first | exact In.here | refine In.there ?_)) Fc.sc3 (by rfl) rfl ?_; clear hS; intro a hS
  refine r_move hS hH.kp0 rfl rfl ?_; clear hS; intro a hS
  refine r_gtr hS hH.kp0 rfl rfl rfl ?_; clear hS; intro a hS
  refine Sq.nil ?_
  refine then_n ?_
  refine c_condF hS rfl (DF (by omega)) ?_
  refine wp_skip ?_
  refine blk_n ?_
  refine then_n ?_
  refine reg_plain w0 (fun z => z = gb ∨ z = sb) ?_
  refine r_move hS hH.kp0 rfl rfl ?_; clear hS; intro a hS
  (first | refine r_add hS hH.kp0 rfl rfl rfl (by omega) ?_ | refine r_addw hS hH.kp0 rfl rfl rfl ?_)
  clear hS; intro a hS
  refine r_assign hS hH.kp0 rfl rfl ?_; clear hS; intro a hS
  refine Sq.nil ?_
  refine then_n ?_
  refine rnd ?_
  refine c_seq ?_
  refine c_seq ?_
  refine reg_plain w0 (fun z => z = gb ∨ z = sb) ?_
  refine r_move hS hH.kp0 rfl rfl ?_; clear hS; intro a hS
  refine r_move hS hH.kp0 rfl rfl ?_; clear hS; intro a hS
  refine r_nilCheck hS hH.kp0 rfl rfl ?_; clear hS; intro a hS
  refine r_fieldAddr hS hH.kp0 rfl Fc.fo89_1 rfl ?_; clear hS; intro a hS
  refine r_load_sc hS hH (by repeat (first | exact Sub.nil | refine Sub.cons ?_ ?_ | exact In.here | refine In.there ?_)) rfl (by repeat (first | exact In.here | refine In.there ?_)) Fc.sc87 (by rfl) rfl ?_; clear hS; intro a hS
  refine r_lenSl hS hH.kp0 rfl Fc.isSlice87 rfl ?_; clear hS; intro a hS
  refine r_lss hS hH.kp0 rfl rfl rfl ?_; clear hS; intro a hS
  refine r_move hS hH.kp0 rfl rfl ?_; clear hS; intro a hS
  refine Sq.guardNo hS rfl rfl rfl hH.kp0 rfl ?_; clear hS; intro a hS
  refine Sq.guardNo hS rfl rfl rfl hH.kp0 rfl ?_; clear hS; intro a hS
  refine Sq.guardNo hS rfl rfl rfl hH.kp0 rfl ?_; clear hS; intro a hS
  refine Sq.guardNo hS rfl rfl rfl hH.kp0 rfl ?_; clear hS; intro a hS
  refine Sq.guardNo hS rfl rfl rfl hH.kp0 rfl ?_; clear hS; intro a hS
  refine Sq.guardNo hS rfl rfl rfl hH.kp0 rfl ?_; clear hS; intro a hS
  refine Sq.guardNo hS rfl rfl rfl hH.kp0 rfl ?_; clear hS; intro a hS
  refine Sq.guardNo hS rfl rfl rfl hH.kp0 rfl ?_; clear hS; intro a hS
  refine Sq.guardNo hS rfl rfl rfl hH.kp0 rfl ?_; clear hS; intro a hS
  refine Sq.guardNo hS rfl rfl rfl hH.kp0 rfl ?_; clear hS; intro a hS
  refine r_pickF hS hH.kp0 rfl rfl rfl rfl ?_; clear hS; intro a hS
  refine Sq.nil ?_
  refine then_n ?_
  refine c_condF hS rfl rfl ?_
  refine wp_exit ?_
  refine then_e ?_
  refine then_e ?_
  refine blk_hit ?_
  refine then_n ?_
  refine c_seq ?_
  refine c_seq ?_
  refine reg_plain w0 (fun z => z = gb ∨ z = sb) ?_
  refine r_move hS hH.kp0 rfl rfl ?_; clear hS; intro a hS
  refine r_nilCheck hS hH.kp0 rfl rfl ?_; clear hS; intro a hS
  refine r_fieldAddr hS hH.kp0 rfl Fc.fo89_1 rfl ?_; clear hS; intro a hS
  refine r_load_sc hS hH (by repeat (first | exact Sub.nil | refine Sub.cons ?_ ?_ | exact In.here | refine In.there ?_)) rfl (by repeat (first | exact In.here | refine In.there ?_)) Fc.sc87 (by rfl) rfl ?_; clear hS; intro a hS
  refine r_lenSl hS hH.kp0 rfl Fc.isSlice87 rfl ?_; clear hS; intro a hS
  refine r_move hS hH.kp0 rfl rfl ?_; clear hS; intro a hS
  refine r_move hS hH.kp0 rfl rfl ?_; clear hS; intro a hS
  (first | refine r_sub hS hH.kp0 rfl rfl rfl (by omega) ?_ | refine r_subw hS hH.kp0 rfl rfl rfl ?_)
  clear hS; intro a hS
  (first | refine r_sub hS hH.kp0 rfl rfl rfl (by omega) ?_ | refine r_subw hS hH.kp0 rfl rfl rfl ?_)
  clear hS; intro a hS
  refine r_move hS hH.kp0 rfl rfl ?_; clear hS; intro a hS
  refine r_lenSl hS hH.kp0 rfl Fc.isSlice87 rfl ?_; clear hS; intro a hS
  (first | refine r_add hS hH.kp0 rfl rfl rfl (by omega) ?_ | refine r_addw hS hH.kp0 rfl rfl rfl ?_)
  clear hS; intro a hS
  refine r_gtr hS hH.kp0 rfl rfl rfl ?_; clear hS; intro a hS
  refine Sq.nil ?_
  refine then_n ?_
  refine c_condF hS rfl rfl ?_
  refine wp_skip ?_
  refine then_n ?_
  refine c_seq ?_
  refine reg_plain w0 (fun z => z = gb ∨ z = sb) ?_
  refine r_move hS hH.kp0 rfl rfl ?_; clear hS; intro a hS
  refine r_move hS hH.kp0 rfl rfl ?_; clear hS; intro a hS
  refine r_nilCheck hS hH.kp0 rfl rfl ?_; clear hS; intro a hS
  refine r_fieldAddr hS hH.kp0 rfl Fc.fo89_1 rfl ?_; clear hS; intro a hS
  refine r_load_sc hS hH (by repeat (first | exact Sub.nil | refine Sub.cons ?_ ?_ | exact In.here | refine In.there ?_)) rfl (by repeat (first | exact In.here | refine In.there ?_)) Fc.sc87 (by rfl) rfl ?_; clear hS; intro a hS
  refine r_move hS hH.kp0 rfl rfl ?_; clear hS; intro a hS
  refine r_move hS hH.kp0 rfl rfl ?_; clear hS; intro a hS
  refine r_move hS hH.kp0 rfl rfl ?_; clear hS; intro a hS
  refine r_call (l := [.tmp 100, .tmp 101, .tmp 102, .tmp 103]) hS rfl rfl Fc.fn51 rfl ?_
  refine Calls.mono (rep_clr sb cap l hl hc _ (hH.get (b := sb) (by repeat (first | exact In.here | refine In.there ?_)))) ?_
  rintro e w1 ⟨l2, rfl, hck, hl2, hM⟩
  replace hH := hH.turn1 (sb := sb) (by repeat (first | exact .here | apply In.there | apply Put.there | apply Del.there)) hM (.inl (.inr rfl)) (.inl rfl) hck
  refine ⟨_, rfl, hH.kp0, ?_⟩
  clear hS; intro a hS
  refine r_nilCheck hS hH.kp0 rfl rfl ?_; clear hS; intro a hS
  refine r_fieldAddr hS hH.kp0 rfl Fc.fo89_1 rfl ?_; clear hS; intro a hS
  refine r_store1 hS hH rfl rfl rfl (by repeat (first | exact .here | apply In.there | apply Put.there | apply Del.there)) (by repeat (first | exact Sub.nil | refine Sub.cons ?_ ?_ | exact In.here | refine In.there ?_)) Fc.sz87 (of_decide_eq_true rfl) (by first | exact .inr (by assumption) | exact .inl (.inl rfl)) ?_
  clear hH; intro w hH
  refine Sq.nil ?_
  refine then_n ?_
  refine c_seq ?_
  refine reg_plain w0 (fun z => z = gb ∨ z = sb) ?_
  refine r_assign hS hH.kp0 rfl rfl ?_; clear hS; intro a hS
  refine Sq.nil ?_
  refine then_n ?_
  refine wp_ret ?_
  exact leave (.inl rfl) hS rfl (Res.tmp rfl Res.nil) ⟨l2, rfl, hH.get (b := gb) (by repeat (first | exact In.here | refine In.there ?_)), hH.get (b := sb) (by repeat (first | exact In.here | refine In.there ?_)), hl2, hH.mod⟩

set_option maxRecDepth 100000 in
set_option maxHeartbeats 400000 in
theorem rem_part (gb sb cap x y : Nat) (l : List Value) (hl : l.length = cap * 2) (hc : 1 ≤ cap) (ht : l.take 2 = [.int .i64 (x : Int), .int .i64 (y : Int)]) (hn3 : gb ≠ sb) (hxy : x ≤ y) (hy : y ≤ 1099511627776) (fb : Nat) (hb : fb ≤ 1099511627776) (hxb : x ≤ fb) (hby : fb < y) (w0 : World) (hg : w0.heap[gb]? = some (.cells ([.bool true, .slice (some ⟨sb, 0, none⟩) 1 cap] : List Value).toArray 89 (0, 0))) (hs : w0.heap[sb]? = some (.cells l.toArray 94 (0, 0))) : Calls Try.prog 31 #[.pointer (some ⟨gb, 0, none⟩), .int .i64 (x : Int), .int .i64 (fb : Int)] w0 fun e w' => ∃ (cb c2 : Nat) (l2 : List Value), e = .returned (.int .i64 0) ∧ w'.heap[gb]? = some (.cells ([.bool true, .slice (some ⟨cb, 0, none⟩) 1 c2] : List Value).toArray 89 (0, 0)) ∧ w'.heap[cb]? = some (.cells l2.toArray 94 (0, 0)) ∧ l2.length = c2 * 2 ∧ 1 ≤ c2 ∧ l2.take 2 = span1 (fb + 1) y ∧ cb ≠ gb ∧ (cb = sb ∨ w0.heap.size ≤ cb) ∧ Mod (fun z => z = gb ∨ z = sb) w0 w' := by
  refine enter Try.func31 rfl rfl rfl ?_
  intro a hS
  have hH := Hp.start w0 (fun z => z = gb ∨ z = sb)
  replace hH := (hH.know hs (by intro p hp; simp at hp)).know hg (by intro p hp; simp at hp; subst hp; exact hn3.symm)
  obtain ⟨hl0, hl1⟩ := row2 ht
  refine c_seq ?_
  refine reg_plain w0 (fun z => z = gb ∨ z = sb) ?_
  refine r_assign hS hH.kp0 rfl rfl ?_; clear hS; intro a hS
  refine Sq.nil ?_
  refine then_n ?_
  refine c_seq ?_
  refine c_seq ?_
  refine reg_plain w0 (fun z => z = gb ∨ z = sb) ?_
  refine r_move hS hH.kp0 rfl rfl ?_; clear hS; intro a hS
  refine r_move hS hH.kp0 rfl rfl ?_; clear hS; intro a hS
  refine r_move hS hH.kp0 rfl rfl ?_; clear hS; intro a hS
  refine r_call (l := [.tmp 13, .tmp 14, .tmp 15]) hS rfl rfl Fc.fn49 rfl ?_
  refine Calls.mono (swv_c gb x fb _ hxb hb _ (hH.get (b := gb) (by repeat (first | exact In.here | refine In.there ?_)))) ?_
  rintro e w1 ⟨rfl, hE⟩
  replace hH := hH.ext hE
  refine ⟨_, rfl, hH.kp0, ?_⟩
  clear hS; intro a hS
  refine r_assign hS hH.kp0 rfl rfl ?_; clear hS; intro a hS
  refine Sq.nil ?_
  refine then_n ?_
  refine c_seq ?_
  refine reg_plain w0 (fun z => z = gb ∨ z = sb) ?_
  refine r_move hS hH.kp0 rfl rfl ?_; clear hS; intro a hS
  refine r_neq hS hH.kp0 rfl rfl rfl ?_; clear hS; intro a hS
  refine Sq.nil ?_
  refine then_n ?_
  refine c_condF hS rfl rfl ?_
  refine wp_skip ?_
  refine then_n ?_
  refine c_seq ?_
  refine reg_plain w0 (fun z => z = gb ∨ z = sb) ?_
  refine r_move hS hH.kp0 rfl rfl ?_; clear hS; intro a hS
  refine r_move hS hH.kp0 rfl rfl ?_; clear hS; intro a hS
  refine r_call (l := [.tmp 20, .tmp 21]) hS rfl rfl Fc.fn50 rfl ?_
  refine Calls.mono (from_ge gb sb cap x y l hl hc ht hn3 hxy hy (x : Int) (by omega) (by omega) _ (hH.get (b := gb) (by repeat (first | exact In.here | refine In.there ?_))) (hH.get (b := sb) (by repeat (first | exact In.here | refine In.there ?_)))) ?_
  rintro e w1 ⟨rfl, hE⟩
  replace hH := hH.ext hE
  refine ⟨_, rfl, hH.kp0, ?_⟩
  clear hS; intro a hS
  refine r_assign hS hH.kp0 rfl rfl ?_; clear hS; intro a hS
  refine Sq.nil ?_
  refine then_n ?_
  refine c_seq ?_
  refine reg_plain w0 (fun z => z = gb ∨ z = sb) ?_
  refine r_move hS hH.kp0 rfl rfl ?_; clear hS; intro a hS
  refine r_assign hS hH.kp0 rfl rfl ?_; clear hS; intro a hS
  refine Sq.nil ?_
  refine then_n ?_
  refine c_seq ?_
  refine reg_plain w0 (fun z => z = gb ∨ z = sb) ?_
  refine r_assign hS hH.kp0 rfl rfl ?_; clear hS; intro a hS
  refine Sq.nil ?_
  refine then_n ?_
  refine c_seq ?_
  refine wp_block ?_
  refine wp_loop_rounds 2 ?_
  refine rnd ?_
  refine c_seq ?_
  refine c_seq ?_
  refine reg_plain w0 (fun z => z = gb ∨ z = sb) ?_
  refine r_move hS hH.kp0 rfl rfl ?_; clear hS; intro a hS
  refine r_move hS hH.kp0 rfl rfl ?_; clear hS; intro a hS
  refine r_nilCheck hS hH.kp0 rfl rfl ?_; clear hS; intro a hS
  refine r_fieldAddr hS hH.kp0 rfl Fc.fo89_1 rfl ?_; clear hS; intro a hS
  refine r_load_sc hS hH (by repeat (first | exact Sub.nil | refine Sub.cons ?_ ?_ | exact In.here | refine In.there ?_)) rfl (by repeat (first | exact In.here | refine In.there ?_)) Fc.sc87 (by rfl) rfl ?_; clear hS; intro a hS
  refine r_lenSl hS hH.kp0 rfl Fc.isSlice87 rfl ?_; clear hS; intro a hS
  refine r_lss hS hH.kp0 rfl rfl rfl ?_; clear hS; intro a hS
  refine r_move hS hH.kp0 rfl rfl ?_; clear hS; intro a hS
  refine Sq.guardYes hS rfl rfl rfl ?_
  refine r_move hS hH.kp0 rfl rfl ?_; clear hS; intro a hS
  refine Sq.guardYes hS rfl rfl rfl ?_
  refine r_nilCheck hS hH.kp0 rfl rfl ?_; clear hS; intro a hS
  refine Sq.guardYes hS rfl rfl rfl ?_
  refine r_fieldAddr hS hH.kp0 rfl Fc.fo89_1 rfl ?_; clear hS; intro a hS
  refine Sq.guardYes hS rfl rfl rfl ?_
  refine r_load_sc hS hH (by repeat (first | exact Sub.nil | refine Sub.cons ?_ ?_ | exact In.here | refine In.there ?_)) rfl (by repeat (first | exact In.here | refine In.there ?_)) Fc.sc87 (by rfl) rfl ?_; clear hS; intro a hS
  refine Sq.guardYes hS rfl rfl rfl ?_
  refine r_move hS hH.kp0 rfl rfl ?_; clear hS; intro a hS
  refine Sq.guardYes hS rfl rfl rfl ?_
  refine r_indexAddrS (j := 0) hS hH.kp0 rfl rfl Fc.slb87 rfl (by decide) rfl ?_; clear hS; intro a hS
  refine Sq.guardYes hS rfl rfl rfl ?_
  refine r_fieldAddr hS hH.kp0 rfl Fc.fo94_0 rfl ?_; clear hS; intro a hS
  refine Sq.guardYes hS rfl rfl rfl ?_
  refine r_load_sc hS hH (by repeat (first | exact Sub.nil | refine Sub.cons ?_ ?_ | exact In.here | refine In.there ?_)) rfl (by repeat (first | exact In.here | refine In.there ?_)) Fc.sc3 (v := .int .i64 (x : Int)) hl0 rfl ?_; clear hS; intro a hS
  refine Sq.guardYes hS rfl rfl rfl ?_
  refine r_move hS hH.kp0 rfl rfl ?_; clear hS; intro a hS
  refine Sq.guardYes hS rfl rfl rfl ?_
  refine r_leq hS hH.kp0 rfl rfl rfl ?_; clear hS; intro a hS
  refine r_pickT hS hH.kp0 rfl rfl rfl rfl ?_; clear hS; intro a hS
  refine Sq.nil ?_
  refine then_n ?_
  refine c_condT hS rfl (DT (by omega)) ?_
  refine wp_skip ?_
  refine then_n ?_
  refine c_seq ?_
  refine wp_block ?_
  refine c_seq ?_
  refine c_seq ?_
  refine reg_plain w0 (fun z => z = gb ∨ z = sb) ?_
  refine r_move hS hH.kp0 rfl rfl ?_; clear hS; intro a hS
  refine r_nilCheck hS hH.kp0 rfl rfl ?_; clear hS; intro a hS
  refine r_fieldAddr hS hH.kp0 rfl Fc.fo89_1 rfl ?_; clear hS; intro a hS
  refine r_load_sc hS hH (by repeat (first | exact Sub.nil | refine Sub.cons ?_ ?_ | exact In.here | refine In.there ?_)) rfl (by repeat (first | exact In.here | refine In.there ?_)) Fc.sc87 (by rfl) rfl ?_; clear hS; intro a hS
  refine r_move hS hH.kp0 rfl rfl ?_; clear hS; intro a hS
  refine r_indexAddrS (j := 0) hS hH.kp0 rfl rfl Fc.slb87 rfl (by decide) rfl ?_; clear hS; intro a hS
  refine r_load_ag hS hH (by repeat (first | exact Sub.nil | refine Sub.cons ?_ ?_ | exact In.here | refine In.there ?_)) rfl (by repeat (first | exact In.here | refine In.there ?_)) Fc.ag94 (by omega) rfl ?_; clear hS; intro a hS
  rw [show rd l (0 + 0 * 2) 2 = [.int .i64 (x : Int), .int .i64 (y : Int)] from ht] at hS
  refine r_alloc hS hH (by repeat (first | exact Sub.nil | refine Sub.cons ?_ ?_ | exact In.here | refine In.there ?_)) Fc.zc94 rfl ?_
  clear hS hH; intro a w b11 hb11 hwb11 hS hH
  refine r_store_row hS hH rfl rfl (by repeat (first | exact .here | apply In.there | apply Put.there | apply Del.there)) (by repeat (first | exact Sub.nil | refine Sub.cons ?_ ?_ | exact In.here | refine In.there ?_)) Fc.sz94 (by first | exact hcells_one _ | exact of_decide_eq_true rfl) (by rfl) (by first | exact .inr (by assumption) | exact .inl (.inl rfl)) ?_
  clear hH; intro w hH
  refine Sq.nil ?_
  refine then_n ?_
  refine c_seq ?_
  refine reg_plain w0 (fun z => z = gb ∨ z = sb) ?_
  refine r_fieldAddr hS hH.kp0 rfl Fc.fo94_0 rfl ?_; clear hS; intro a hS
  refine r_load_sc hS hH (by repeat (first | exact Sub.nil | refine Sub.cons ?_ ?_ | exact In.here | refine In.there ?_)) rfl (by repeat (first | exact In.here | refine In.there ?_)) Fc.sc3 (by rfl) rfl ?_; clear hS; intro a hS
  refine r_move hS hH.kp0 rfl rfl ?_; clear hS; intro a hS
  refine r_lss hS hH.kp0 rfl rfl rfl ?_; clear hS; intro a hS
  refine Sq.nil ?_
  refine then_n ?_
  refine c_condF hS rfl (DF (by omega)) ?_
  refine wp_skip ?_
  refine then_n ?_
  refine c_seq ?_
  refine reg_plain w0 (fun z => z = gb ∨ z = sb) ?_
  refine r_move hS hH.kp0 rfl rfl ?_; clear hS; intro a hS
  refine r_nilCheck hS hH.kp0 rfl rfl ?_; clear hS; intro a hS
  refine r_fieldAddr hS hH.kp0 rfl Fc.fo89_1 rfl ?_; clear hS; intro a hS
  refine r_load_sc hS hH (by repeat (first | exact Sub.nil | refine Sub.cons ?_ ?_ | exact In.here | refine In.there ?_)) rfl (by repeat (first | exact In.here | refine In.there ?_)) Fc.sc87 (by rfl) rfl ?_; clear hS; intro a hS
  refine r_move hS hH.kp0 rfl rfl ?_; clear hS; intro a hS
  refine r_indexAddrS (j := 0) hS hH.kp0 rfl rfl Fc.slb87 rfl (by decide) rfl ?_; clear hS; intro a hS
  refine r_load_ag hS hH (by repeat (first | exact Sub.nil | refine Sub.cons ?_ ?_ | exact In.here | refine In.there ?_)) rfl (by repeat (first | exact In.here | refine In.there ?_)) Fc.ag94 (by omega) rfl ?_; clear hS; intro a hS
  rw [show rd l (0 + 0 * 2) 2 = [.int .i64 (x : Int), .int .i64 (y : Int)] from ht] at hS
  refine r_alloc hS hH (by repeat (first | exact Sub.nil | refine Sub.cons ?_ ?_ | exact In.here | refine In.there ?_)) Fc.zc94 rfl ?_
  clear hS hH; intro a w b12 hb12 hwb12 hS hH
  refine r_store_row hS hH rfl rfl (by repeat (first | exact .here | apply In.there | apply Put.there | apply Del.there)) (by repeat (first | exact Sub.nil | refine Sub.cons ?_ ?_ | exact In.here | refine In.there ?_)) Fc.sz94 (by first | exact hcells_one _ | exact of_decide_eq_true rfl) (by rfl) (by first | exact .inr (by assumption) | exact .inl (.inl rfl)) ?_
  clear hH; intro w hH
  refine Sq.nil ?_
  refine then_n ?_
  refine c_seq ?_
  refine reg_plain w0 (fun z => z = gb ∨ z = sb) ?_
  refine r_fieldAddr hS hH.kp0 rfl Fc.fo94_1 rfl ?_; clear hS; intro a hS
  refine r_load_sc hS hH (by repeat (first | exact Sub.nil | refine Sub.cons ?_ ?_ | exact In.here | refine In.there ?_)) rfl (by repeat (first | exact In.here | refine In.there ?_)) Fc.sc3 (by rfl) rfl ?_; clear hS; intro a hS
  refine r_move hS hH.kp0 rfl rfl ?_; clear hS; intro a hS
  refine r_gtr hS hH.kp0 rfl rfl rfl ?_; clear hS; intro a hS
  refine Sq.nil ?_
  refine then_n ?_
  refine c_condT hS rfl (DT (by omega)) ?_
  refine reg_plain w0 (fun z => z = gb ∨ z = sb) ?_
  refine r_move hS hH.kp0 rfl rfl ?_; clear hS; intro a hS
  refine r_move hS hH.kp0 rfl rfl ?_; clear hS; intro a hS
  refine r_addN0 (m := fb) (k := 1) hS hH.kp0 rfl rfl (by omega) rfl ?_; clear hS; intro a hS
  refine r_fieldAddr hS hH.kp0 rfl Fc.fo94_1 rfl ?_; clear hS; intro a hS
  refine r_load_sc hS hH (by repeat (first | exact Sub.nil | refine Sub.cons ?_ ?_ | exact In.here | refine In.there ?_)) rfl (by repeat (first | exact In.here | refine In.there ?_)) Fc.sc3 (by rfl) rfl ?_; clear hS; intro a hS
  refine r_buildS (parts := [(0, .tmp 77), (1, .tmp 79)]) hS hH.kp0 rfl rfl Fc.zc94 Fc.pl94 (by rfl) ?_; clear hS; intro a hS
  refine r_buildSlice (parts := [(0, .tmp 80)]) hS hH (by repeat (first | exact Sub.nil | refine Sub.cons ?_ ?_ | exact In.here | refine In.there ?_)) rfl Fc.bsl87_1 (by rfl) rfl ?_
  clear hS hH; intro a w vb hvb hwvb hS hH
  refine r_append_nil hS hH (by repeat (first | exact Sub.nil | refine Sub.cons ?_ ?_ | exact In.here | refine In.there ?_)) rfl rfl Fc.el87 Fc.ni87 (src_sp (hH.get (b := vb) (by repeat (first | exact In.here | refine In.there ?_)))) (by decide) (by decide) rfl ?_
  clear hS hH; intro a w lb lc lv hlb hwlb hlvl hlvc hlvt _ hS hH
  refine r_assign hS hH.kp0 rfl rfl ?_; clear hS; intro a hS
  refine Sq.nil ?_
  refine blk_n ?_
  refine then_n ?_
  refine reg_plain w0 (fun z => z = gb ∨ z = sb) ?_
  refine r_move hS hH.kp0 rfl rfl ?_; clear hS; intro a hS
  (first | refine r_add hS hH.kp0 rfl rfl rfl (by omega) ?_ | refine r_addw hS hH.kp0 rfl rfl rfl ?_)
  clear hS; intro a hS
  refine r_assign hS hH.kp0 rfl rfl ?_; clear hS; intro a hS
  refine Sq.nil ?_
  refine then_n ?_
  refine rnd ?_
  refine c_seq ?_
  refine c_seq ?_
  refine reg_plain w0 (fun z => z = gb ∨ z = sb) ?_
  refine r_move hS hH.kp0 rfl rfl ?_; clear hS; intro a hS
  refine r_move hS hH.kp0 rfl rfl ?_; clear hS; intro a hS
  refine r_nilCheck hS hH.kp0 rfl rfl ?_; clear hS; intro a hS
  refine r_fieldAddr hS hH.kp0 rfl Fc.fo89_1 rfl ?_; clear hS; intro a hS
  refine r_load_sc hS hH (by repeat (first | exact Sub.nil | refine Sub.cons ?_ ?_ | exact In.here | refine In.there ?_)) rfl (by repeat (first | exact In.here | refine In.there ?_)) Fc.sc87 (by rfl) rfl ?_; clear hS; intro a hS
  refine r_lenSl hS hH.kp0 rfl Fc.isSlice87 rfl ?_; clear hS; intro a hS
  refine r_lss hS hH.kp0 rfl rfl rfl ?_; clear hS; intro a hS
  refine r_move hS hH.kp0 rfl rfl ?_; clear hS; intro a hS
  refine Sq.guardNo hS rfl rfl rfl hH.kp0 rfl ?_; clear hS; intro a hS
  refine Sq.guardNo hS rfl rfl rfl hH.kp0 rfl ?_; clear hS; intro a hS
  refine Sq.guardNo hS rfl rfl rfl hH.kp0 rfl ?_; clear hS; intro a hS
  refine Sq.guardNo hS rfl rfl rfl hH.kp0 rfl ?_; clear hS; intro a hS
  refine Sq.guardNo hS rfl rfl rfl hH.kp0 rfl ?_; clear hS; intro a hS
  refine Sq.guardNo hS rfl rfl rfl hH.kp0 rfl ?_; clear hS; intro a hS
  refine Sq.guardNo hS rfl rfl rfl hH.kp0 rfl ?_; clear hS; intro a hS
  refine Sq.guardNo hS rfl rfl rfl hH.kp0 rfl ?_; clear hS; intro a hS
  refine Sq.guardNo hS rfl rfl rfl hH.kp0 rfl ?_; clear hS; intro a hS
  refine Sq.guardNo hS rfl rfl rfl hH.kp0 rfl ?_; clear hS; intro a hS
  refine r_pickF hS hH.kp0 rfl rfl rfl rfl ?_; clear hS; intro a hS
  refine Sq.nil ?_
  refine then_n ?_
  refine c_condF hS rfl rfl ?_
  refine wp_exit ?_
  refine then_e ?_
  refine then_e ?_
  refine blk_hit ?_
  refine then_n ?_
  refine c_seq ?_
  refine c_seq ?_
  refine reg_plain w0 (fun z => z = gb ∨ z = sb) ?_
  refine r_move hS hH.kp0 rfl rfl ?_; clear hS; intro a hS
  refine r_nilCheck hS hH.kp0 rfl rfl ?_; clear hS; intro a hS
  refine r_fieldAddr hS hH.kp0 rfl Fc.fo89_1 rfl ?_; clear hS; intro a hS
  refine r_load_sc hS hH (by repeat (first | exact Sub.nil | refine Sub.cons ?_ ?_ | exact In.here | refine In.there ?_)) rfl (by repeat (first | exact In.here | refine In.there ?_)) Fc.sc87 (by rfl) rfl ?_; clear hS; intro a hS
  refine r_lenSl hS hH.kp0 rfl Fc.isSlice87 rfl ?_; clear hS; intro a hS
  refine r_move hS hH.kp0 rfl rfl ?_; clear hS; intro a hS
  refine r_move hS hH.kp0 rfl rfl ?_; clear hS; intro a hS
  (first | refine r_sub hS hH.kp0 rfl rfl rfl (by omega) ?_ | refine r_subw hS hH.kp0 rfl rfl rfl ?_)
  clear hS; intro a hS
  (first | refine r_sub hS hH.kp0 rfl rfl rfl (by omega) ?_ | refine r_subw hS hH.kp0 rfl rfl rfl ?_)
  clear hS; intro a hS
  refine r_move hS hH.kp0 rfl rfl ?_; clear hS; intro a hS
  refine r_lenSl hS hH.kp0 rfl Fc.isSlice87 rfl ?_; clear hS; intro a hS
  (first | refine r_add hS hH.kp0 rfl rfl rfl (by omega) ?_ | refine r_addw hS hH.kp0 rfl rfl rfl ?_)
  clear hS; intro a hS
  refine r_gtr hS hH.kp0 rfl rfl rfl ?_; clear hS; intro a hS
  refine Sq.nil ?_
  refine then_n ?_
  refine c_condF hS rfl rfl ?_
  refine wp_skip ?_
  refine then_n ?_
  refine c_seq ?_
  refine reg_plain w0 (fun z => z = gb ∨ z = sb) ?_
  refine r_move hS hH.kp0 rfl rfl ?_; clear hS; intro a hS
  refine r_move hS hH.kp0 rfl rfl ?_; clear hS; intro a hS
  refine r_nilCheck hS hH.kp0 rfl rfl ?_; clear hS; intro a hS
  refine r_fieldAddr hS hH.kp0 rfl Fc.fo89_1 rfl ?_; clear hS; intro a hS
  refine r_load_sc hS hH (by repeat (first | exact Sub.nil | refine Sub.cons ?_ ?_ | exact In.here | refine In.there ?_)) rfl (by repeat (first | exact In.here | refine In.there ?_)) Fc.sc87 (by rfl) rfl ?_; clear hS; intro a hS
  refine r_move hS hH.kp0 rfl rfl ?_; clear hS; intro a hS
  refine r_move hS hH.kp0 rfl rfl ?_; clear hS; intro a hS
  refine r_move hS hH.kp0 rfl rfl ?_; clear hS; intro a hS
  refine r_call (l := [.tmp 100, .tmp 101, .tmp 102, .tmp 103]) hS rfl rfl Fc.fn51 rfl ?_
  have hvs : sb ≠ lb := fun e => by have h9 := hH.nd; subst e; simp at h9
  refine Calls.mono (rep_one sb cap lb lc (fb + 1) y l lv hl hlvl hlvc hlvt hvs hc _ (hH.get (b := lb) (by repeat (first | exact In.here | refine In.there ?_))) (hH.get (b := sb) (by repeat (first | exact In.here | refine In.there ?_)))) ?_
  rintro e w1 ⟨cb, c2, l2, rfl, hcb, hck, hl2, hc2, htk, hM⟩
  have hcb0 : cb = sb ∨ w0.heap.size ≤ cb := hcb.imp id (fun h => Nat.le_trans hH.mod.size h)
  replace hH := hH.turn1 (sb := sb) (by repeat (first | exact .here | apply In.there | apply Put.there | apply Del.there)) hM (.inl (.inr rfl)) hcb hck
  refine ⟨_, rfl, hH.kp0, ?_⟩
  clear hS; intro a hS
  refine r_nilCheck hS hH.kp0 rfl rfl ?_; clear hS; intro a hS
  refine r_fieldAddr hS hH.kp0 rfl Fc.fo89_1 rfl ?_; clear hS; intro a hS
  refine r_store1 hS hH rfl rfl rfl (by repeat (first | exact .here | apply In.there | apply Put.there | apply Del.there)) (by repeat (first | exact Sub.nil | refine Sub.cons ?_ ?_ | exact In.here | refine In.there ?_)) Fc.sz87 (of_decide_eq_true rfl) (by first | exact .inr (by assumption) | exact .inl (.inl rfl)) ?_
  clear hH; intro w hH
  refine Sq.nil ?_
  refine then_n ?_
  refine c_seq ?_
  refine reg_plain w0 (fun z => z = gb ∨ z = sb) ?_
  refine r_assign hS hH.kp0 rfl rfl ?_; clear hS; intro a hS
  refine Sq.nil ?_
  refine then_n ?_
  refine wp_ret ?_
  have nd := hH.nd
  simp only [List.map_cons, List.map_nil, List.nodup_cons, List.mem_cons, List.not_mem_nil, or_false, not_or] at nd
  exact leave (.inl rfl) hS rfl (Res.tmp rfl Res.nil) ⟨cb, c2, l2, rfl, hH.get (b := gb) (by repeat (first | exact In.here | refine In.there ?_)), hH.get (b := cb) (by repeat (first | exact In.here | refine In.there ?_)), hl2, hc2, htk, fun e => by subst e; simp at nd, hcb0, hH.mod⟩

end Go.Proofs.Ytkhcbllphdhbdaa

namespace Go.Proofs.Ytkhcbllphdhbdaa
open Go.Sym


theorem SetIn.mk1 {w w' : World} {gb cb c2 : Nat} {l2 xs : List Value} {v : Value} (h1 : w'.heap[gb]? = some (.cells ([.bool true, .slice (some ⟨cb, 0, none⟩) 1 c2] : List Value).toArray 89 (0, 0))) (h2 : w'.heap[cb]? = some (.cells l2.toArray 94 (0, 0))) (h3 : l2.length = c2 * 2) (h4 : 1 ≤ c2) (h5 : l2.take 2 = xs) (h6 : cb ≠ gb) (h7 : SF gb v cb ∨ w.heap.size ≤ cb) (hM : Mod (SF gb v) w w') :
    ∃ v', SetIn 89 94 w' gb v' 1 xs ∧ SStep w w' gb v v' := by
  refine ⟨_, ⟨h1, .inr ⟨cb, c2, l2, rfl, h6, h2, h3, h4, h5⟩⟩, hM, ?_⟩
  rintro z (rfl | ⟨m, c, e⟩)
  · exact .inl (.inl rfl)
  · cases e; exact h7
theorem addS0 (gb fa fb : Nat) (v : Value) (hab : fa ≤ fb) (hb : fb ≤ 1099511627776) (w0 : World) (h : SetIn 89 94 w0 gb v 0 []) : Calls Try.prog 36 #[.pointer (some ⟨gb, 0, none⟩), .int .i64 (fa : Int), .int .i64 (fb : Int)] w0 fun e w' => e = .returned (.int .i64 0) ∧ ∃ v', SetIn 89 94 w' gb v' 1 (span1 fa fb) ∧ SStep w0 w' gb v v' := by
  rcases h with ⟨hh, ⟨rfl, _, _⟩ | ⟨sb, cap, l, rfl, hne, hs, hl, hm, _⟩⟩
  · refine (add_nil gb fa fb hab hb w0 hh).mono fun e w' ⟨cb, c2, l2, h0, h1, h2, h3, h4, h5, h6, h7, h8⟩ => ⟨h0, SetIn.mk1 h1 h2 h3 h4 h5 h6 (.inr h7) (h8.mono fun z hz => .inl hz)⟩
  · refine (add_blk gb sb cap fa fb l hl hab hb hne.symm w0 hh hs).mono fun e w' ⟨cb, c2, l2, h0, h1, h2, h3, h4, h5, h6, h7, h8⟩ => ⟨h0, SetIn.mk1 h1 h2 h3 h4 h5 h6 (h7.imp (fun e => by subst e; exact .inr ⟨_, _, rfl⟩) id) (h8.mono fun z hz => hz.imp id fun e => by subst e; exact ⟨_, _, rfl⟩)⟩
theorem addS1 (gb x y fa fb : Nat) (v : Value) (hxy : x ≤ y) (hy : y ≤ 1099511627776) (hab : fa ≤ fb) (hb : fb ≤ 1099511627776) (hxb : x ≤ fb + 1) (hay : fa ≤ y + 1) (w0 : World) (h : SetIn 89 94 w0 gb v 1 (span1 x y)) : Calls Try.prog 36 #[.pointer (some ⟨gb, 0, none⟩), .int .i64 (fa : Int), .int .i64 (fb : Int)] w0 fun e w' => e = .returned (.int .i64 0) ∧ ∃ v', SetIn 89 94 w' gb v' 1 (span1 (min fa x) (max fb y)) ∧ SStep w0 w' gb v v' := by
  obtain ⟨sb, cap, l, rfl, hne, hs, hl, hc, ht⟩ := h.one
  refine (add_one gb sb cap x y l hl hc ht hne.symm hxy hy fa fb hab hb hxb hay w0 h.head hs).mono fun e w' ⟨cb, c2, l2, h0, h1, h2, h3, h4, h5, h6, h7, h8⟩ => ⟨h0, SetIn.mk1 h1 h2 h3 h4 h5 h6 (h7.imp (fun e => by subst e; exact .inr ⟨_, _, rfl⟩) id) (h8.mono fun z hz => hz.imp id fun e => by subst e; exact ⟨_, _, rfl⟩)⟩
theorem remS0 (gb fa fb : Nat) (v : Value) (hab : fa ≤ fb) (hb : fb ≤ 1099511627776) (w0 : World) (h : SetIn 89 94 w0 gb v 0 []) : Calls Try.prog 31 #[.pointer (some ⟨gb, 0, none⟩), .int .i64 (fa : Int), .int .i64 (fb : Int)] w0 fun e w' => e = .returned (.int .i64 0) ∧ ∃ v', SetIn 89 94 w' gb v' 0 [] ∧ SStep w0 w' gb v v' := by
  rcases h with ⟨hh, ⟨rfl, _, _⟩ | ⟨sb, cap, l, rfl, hne, hs, hl, hm, _⟩⟩
  · exact (remove_nil gb fa fb hab hb w0 hh).mono fun e w' ⟨h0, h1, h2⟩ => ⟨h0, _, ⟨h1, .inl ⟨rfl, rfl, rfl⟩⟩, h2.mono fun z hz => .inl hz, fun z hz => .inl hz⟩
  · exact (rem_blk gb sb cap fa fb l hab hb hne.symm w0 hh hs).mono fun e w' ⟨h0, h1, h2, h3⟩ => ⟨h0, _, ⟨h1, .inr ⟨sb, cap, l, rfl, hne, h2, hl, Nat.zero_le _, rfl⟩⟩, h3.mono fun z hz => hz.imp id fun e => by subst e; exact ⟨_, _, rfl⟩, fun z hz => .inl hz⟩
theorem remSfar (gb x y fa fb : Nat) (v : Value) (hxy : x ≤ y) (hy : y ≤ 1099511627776) (hab : fa ≤ fb) (hb : fb ≤ 1099511627776) (hbx : fb < x) (w0 : World) (h : SetIn 89 94 w0 gb v 1 (span1 x y)) : Calls Try.prog 31 #[.pointer (some ⟨gb, 0, none⟩), .int .i64 (fa : Int), .int .i64 (fb : Int)] w0 fun e w' => e = .returned (.int .i64 0) ∧ ∃ v', SetIn 89 94 w' gb v' 1 (span1 x y) ∧ SStep w0 w' gb v v' := by
  obtain ⟨sb, cap, l, rfl, hne, hs, hl, hc, ht⟩ := h.one
  exact (rem_far gb sb cap x y l hl hc ht hne.symm hxy hy fa fb hab hb hbx w0 h.head hs).mono fun e w' ⟨h0, h1, h2, h3⟩ => ⟨h0, _, ⟨h1, .inr ⟨sb, cap, l, rfl, hne, h2, hl, hc, ht⟩⟩, h3.mono fun z hz => hz.imp id fun e => by subst e; exact ⟨_, _, rfl⟩, fun z hz => .inl hz⟩
theorem remSall (gb x y : Nat) (v : Value) (hxy : x ≤ y) (hy : y ≤ 1099511627776) (w0 : World) (h : SetIn 89 94 w0 gb v 1 (span1 x y)) : Calls Try.prog 31 #[.pointer (some ⟨gb, 0, none⟩), .int .i64 (x : Int), .int .i64 (y : Int)] w0 fun e w' => e = .returned (.int .i64 0) ∧ ∃ v', SetIn 89 94 w' gb v' 0 [] ∧ SStep w0 w' gb v v' := by
  obtain ⟨sb, cap, l, rfl, hne, hs, hl, hc, ht⟩ := h.one
  exact (rem_all gb sb cap x y l hl hc ht hne.symm hxy hy y hy rfl w0 h.head hs).mono fun e w' ⟨l2, h0, h1, h2, h3, h4⟩ => ⟨h0, _, ⟨h1, .inr ⟨sb, cap, l2, rfl, hne, h2, h3, Nat.zero_le _, rfl⟩⟩, h4.mono fun z hz => hz.imp id fun e => by subst e; exact ⟨_, _, rfl⟩, fun z hz => .inl (hz.imp id fun ⟨m, c, e⟩ => by cases e; exact ⟨_, _, rfl⟩)⟩
theorem remSpart (gb x y fb : Nat) (v : Value) (hxy : x ≤ y) (hy : y ≤ 1099511627776) (hb : fb ≤ 1099511627776) (hxb : x ≤ fb) (hby : fb < y) (w0 : World) (h : SetIn 89 94 w0 gb v 1 (span1 x y)) : Calls Try.prog 31 #[.pointer (some ⟨gb, 0, none⟩), .int .i64 (x : Int), .int .i64 (fb : Int)] w0 fun e w' => e = .returned (.int .i64 0) ∧ ∃ v', SetIn 89 94 w' gb v' 1 (span1 (fb + 1) y) ∧ SStep w0 w' gb v v' := by
  obtain ⟨sb, cap, l, rfl, hne, hs, hl, hc, ht⟩ := h.one
  exact (rem_part gb sb cap x y l hl hc ht hne.symm hxy hy fb hb hxb hby w0 h.head hs).mono fun e w' ⟨cb, c2, l2, h0, h1, h2, h3, h4, h5, h6, h7, h8⟩ => ⟨h0, SetIn.mk1 h1 h2 h3 h4 h5 h6 (h7.imp (fun e => by subst e; exact .inr ⟨_, _, rfl⟩) id) (h8.mono fun z hz => hz.imp id fun e => by subst e; exact ⟨_, _, rfl⟩)⟩
theorem gapS0 (gb k : Nat) (v : Value) (hk : k ≤ 1099511627776) (w0 : World) (h : SetIn 89 94 w0 gb v 0 []) : Calls Try.prog 37 #[.pointer (some ⟨gb, 0, none⟩), .int .i64 (k : Int)] w0 fun e w' => e = .returned (.int .i64 (k : Int)) ∧ Ext w0 w' := by
  rcases h with ⟨hh, ⟨rfl, _, _⟩ | ⟨sb, cap, l, rfl, hne, hs, hl, hm, _⟩⟩
  · exact gap0 gb 0 k none hk w0 hh
  · exact gap0 gb cap k _ hk w0 hh
theorem hasS0 (gb k : Nat) (v : Value) (hk : k ≤ 1099511627776) (w0 : World) (h : SetIn 89 94 w0 gb v 0 []) : Calls Try.prog 39 #[.pointer (some ⟨gb, 0, none⟩), .int .i64 (k : Int)] w0 fun e w' => e = .returned (.bool false) ∧ Ext w0 w' := by
  rcases h with ⟨hh, ⟨rfl, _, _⟩ | ⟨sb, cap, l, rfl, hne, hs, hl, hm, _⟩⟩
  · exact has0 gb 0 k none hk w0 hh
  · exact has0 gb cap k _ hk w0 hh
theorem gapSlt (gb x y k : Nat) (v : Value) (hxy : x ≤ y) (hy : y ≤ 1099511627776) (hk : k ≤ 1099511627776) (hyk : y < k) (w0 : World) (h : SetIn 89 94 w0 gb v 1 (span1 x y)) : Calls Try.prog 37 #[.pointer (some ⟨gb, 0, none⟩), .int .i64 (k : Int)] w0 fun e w' => e = .returned (.int .i64 (k : Int)) ∧ Ext w0 w' := by
  obtain ⟨sb, cap, l, rfl, hne, hs, hl, hc, ht⟩ := h.one
  exact gap_lt gb sb cap x y l hl hc ht hne.symm hxy hy k hk hyk w0 h.head hs
theorem hasSlt (gb x y k : Nat) (v : Value) (hxy : x ≤ y) (hy : y ≤ 1099511627776) (hk : k ≤ 1099511627776) (hyk : y < k) (w0 : World) (h : SetIn 89 94 w0 gb v 1 (span1 x y)) : Calls Try.prog 39 #[.pointer (some ⟨gb, 0, none⟩), .int .i64 (k : Int)] w0 fun e w' => e = .returned (.bool false) ∧ Ext w0 w' := by
  obtain ⟨sb, cap, l, rfl, hne, hs, hl, hc, ht⟩ := h.one
  exact has_lt gb sb cap x y l hl hc ht hne.symm hxy hy k hk hyk w0 h.head hs
theorem gapSin (gb x y k : Nat) (v : Value) (hxy : x ≤ y) (hy : y ≤ 1099511627776) (hk : k ≤ 1099511627776) (hyk : k ≤ y) (hxk : x ≤ k) (w0 : World) (h : SetIn 89 94 w0 gb v 1 (span1 x y)) : Calls Try.prog 37 #[.pointer (some ⟨gb, 0, none⟩), .int .i64 (k : Int)] w0 fun e w' => e = .returned (.int .i64 ((y + 1 : Nat) : Int)) ∧ Ext w0 w' := by
  obtain ⟨sb, cap, l, rfl, hne, hs, hl, hc, ht⟩ := h.one
  exact gap_in gb sb cap x y l hl hc ht hne.symm hxy hy k hk hyk hxk w0 h.head hs

end Go.Proofs.Ytkhcbllphdhbdaa

namespace Go.Proofs.Ytkhcbllphdhbdaa
open Go.Sym


set_option maxRecDepth 100000 in
set_option maxHeartbeats 400000 in
theorem sclone_z (sb cap : Nat) (l : List Value) (hl : l.length = cap * 2) (w0 : World) (hs : w0.heap[sb]? = some (.cells l.toArray 94 (0, 0))) : Calls Try.prog 56 #[.slice (some ⟨sb, 0, none⟩) 0 cap] w0 fun e w' => (∃ (p : Option Addr) (c2 : Nat), e = .returned (.slice p 0 c2)) ∧ Ext w0 w' := by
  refine enter Try.func56 rfl rfl rfl ?_
  intro a hS
  have hH := Hp.start w0 (Nobody)
  replace hH := hH.know hs (by intro p hp; simp at hp)
  refine c_seq ?_
  refine reg_plain w0 (Nobody) ?_
  refine r_assign hS hH.kp0 rfl rfl ?_; clear hS; intro a hS
  refine Sq.nil ?_
  refine then_n ?_
  refine c_seq ?_
  refine c_seq ?_
  refine reg_plain w0 (Nobody) ?_
  refine r_move hS hH.kp0 rfl rfl ?_; clear hS; intro a hS
  refine r_slNil hS hH.kp0 rfl Fc.isSlice87 rfl ?_; clear hS; intro a hS
  refine Sq.nil ?_
  refine then_n ?_
  refine c_condF hS rfl rfl ?_
  refine wp_skip ?_
  refine then_n ?_
  refine c_seq ?_
  refine reg_plain w0 (Nobody) ?_
  refine r_buildSlice0 hS hH (by repeat (first | exact Sub.nil | refine Sub.cons ?_ ?_ | exact In.here | refine In.there ?_)) Fc.uls87 Fc.inf94 rfl ?_
  clear hS hH; intro a w b5 hb5 hwb5 hS hH
  refine r_move hS hH.kp0 rfl rfl ?_; clear hS; intro a hS
  refine r_append_own hS hH rfl rfl (by repeat (first | exact .here | apply In.there | apply Put.there | apply Del.there)) (by repeat (first | exact Sub.nil | refine Sub.cons ?_ ?_ | exact In.here | refine In.there ?_)) Fc.el87 Fc.ni87 rfl (Nat.le_refl _) ((Sl.of_block (es := 2) (m := 0) (hH.get (b := sb) (.there .here)) (by omega) (Nat.zero_le _)).src (by rw [Nat.zero_mul]; simp)) (by decide) (.inr hb5) rfl ?_
  clear hS hH; intro a w cb c2 l2 hcb hl2 hc2 htk _ hS hH
  refine r_assign hS hH.kp0 rfl rfl ?_; clear hS; intro a hS
  refine Sq.nil ?_
  refine then_n ?_
  refine wp_ret ?_
  exact leave (.inl rfl) hS rfl (Res.tmp rfl Res.nil) ⟨⟨_, c2, rfl⟩, hH.mod⟩

theorem scloneS0 (gb : Nat) (v : Value) (w0 : World) (h : SetIn 89 94 w0 gb v 0 []) : Calls Try.prog 56 #[v] w0 fun e w' => (∃ (p : Option Addr) (c2 : Nat), e = .returned (.slice p 0 c2)) ∧ Ext w0 w' := by
  rcases h with ⟨hh, ⟨rfl, _, _⟩ | ⟨sb, cap, l, rfl, hne, hs, hl, hm, _⟩⟩
  · exact (sclone_nil w0).mono fun e w' ⟨h1, h2⟩ => ⟨⟨_, _, h1⟩, h2⟩
  · exact sclone_z sb cap l hl w0 hs
set_option maxRecDepth 100000 in
set_option maxHeartbeats 400000 in
theorem All1_z (y v : Value) (bb gb : Nat) (hne : bb ≠ gb) (w0 : World) (hb : w0.heap[bb]? = some (.cells [.pointer (some ⟨gb, 0, none⟩)].toArray 67 (0, 0))) (hg : SetIn 89 94 w0 gb v 0 []) (hv : scB Try.prog 87 = true) : Calls Try.prog 55 #[y, .pointer (some ⟨bb, 0, none⟩)] w0 fun e w' => (∃ v, e = .returned v) ∧ Ext w0 w' := by
  refine enter Try.func55 rfl rfl rfl ?_
  intro a hS
  have hH := Hp.start w0 (Nobody)
  replace hH := (hH.know hg.head (by intro p hp; simp at hp)).know hb (by intro p hp; simp at hp; subst hp; exact hne.symm)
  refine c_seq ?_
  refine c_seq ?_
  refine reg_plain w0 (Nobody) ?_
  refine r_load_sc hS hH (by repeat (first | exact Sub.nil | refine Sub.cons ?_ ?_ | exact In.here | refine In.there ?_)) rfl (by repeat (first | exact In.here | refine In.there ?_)) Fc.sc67 (by rfl) rfl ?_; clear hS; intro a hS
  refine r_call (l := [.tmp 5]) hS rfl rfl Fc.fn53 rfl ?_
  refine Calls.mono (snv_c gb v _ (hH.get (b := gb) (by repeat (first | exact In.here | refine In.there ?_)))) ?_
  rintro e w1 ⟨rfl, hE⟩
  replace hH := hH.ext hE
  refine ⟨_, rfl, hH.kp0, ?_⟩
  clear hS; intro a hS
  refine Sq.nil ?_
  refine then_n ?_
  refine c_condF hS rfl rfl ?_
  refine wp_skip ?_
  refine then_n ?_
  refine c_seq ?_
  refine reg_plain w0 (Nobody) ?_
  refine r_load_sc hS hH (by repeat (first | exact Sub.nil | refine Sub.cons ?_ ?_ | exact In.here | refine In.there ?_)) rfl (by repeat (first | exact In.here | refine In.there ?_)) Fc.sc67 (by rfl) rfl ?_; clear hS; intro a hS
  refine r_nilCheck hS hH.kp0 rfl rfl ?_; clear hS; intro a hS
  refine r_fieldAddr hS hH.kp0 rfl Fc.fo89_1 rfl ?_; clear hS; intro a hS
  refine r_load_sc hS hH (by repeat (first | exact Sub.nil | refine Sub.cons ?_ ?_ | exact In.here | refine In.there ?_)) rfl (by repeat (first | exact In.here | refine In.there ?_)) Fc.sc87 (by rfl) rfl ?_; clear hS; intro a hS
  refine r_call (l := [.tmp 10]) hS rfl rfl Fc.fn56 rfl ?_
  refine Calls.mono (scloneS0 gb v _ (hg.go (F := Nobody) hH.mod (fun _ _ h => h))) ?_
  rintro e w1 ⟨⟨cq, c2, rfl⟩, hE⟩
  replace hH := hH.ext hE
  refine ⟨_, rfl, hH.kp0, ?_⟩
  clear hS; intro a hS
  refine r_lenSl hS hH.kp0 rfl Fc.isSlice87 rfl ?_; clear hS; intro a hS
  refine r_move hS hH.kp0 rfl rfl ?_; clear hS; intro a hS
  refine Sq.nil ?_
  refine then_n ?_
  refine wp_block ?_
  refine wp_loop_rounds 1 ?_
  refine rnd ?_
  refine c_seq ?_
  refine reg_plain w0 (Nobody) ?_
  refine r_lss hS hH.kp0 rfl rfl rfl ?_; clear hS; intro a hS
  refine Sq.nil ?_
  refine then_n ?_
  refine c_seq ?_
  refine c_condF hS rfl rfl ?_
  refine wp_exit ?_
  refine then_e ?_
  refine then_e ?_
  refine blk_hit ?_
  exact leave (.inr rfl) hS rfl Res.nil ⟨⟨_, rfl⟩, hH.mod⟩

set_option maxRecDepth 100000 in
set_option maxHeartbeats 4000000 in
theorem due_z (ob gb hb room base sent kl kc : Nat) (q : Option Addr) (en : Int) (most limit : Nat) (hbk : base + kl ≤ 1099511627776) (hsent : sent ≤ base + kl) (hmost : most ≤ 1099511627776) (hlim : limit ≤ 4611686018427387903) (w0 : World) (hz : w0.heap[ob]? = some (.cells ([.int .i64 (room : Int), .int .i64 (base : Int), .slice q kl kc, .int .i64 (sent : Int), .pointer (some ⟨gb, 0, none⟩), .pointer (some ⟨hb, 0, none⟩), .int .i64 en] : List Value).toArray 70 (0, 0))) (v : Value) (hg : SetIn 89 94 w0 gb v 0 []) (hne : gb ≠ ob) : Calls Try.prog 29 #[.pointer (some ⟨ob, 0, none⟩), .int .i64 (most : Int), .int .i64 (limit : Int)] w0 fun e w' => e = .returned (.tuple #[.int .i64 ((dueE (base + kl) sent most limit (en == 1 || en == 3)).1 : Int), .int .i64 ((dueE (base + kl) sent most limit (en == 1 || en == 3)).2.1 : Int), .bool (dueE (base + kl) sent most limit (en == 1 || en == 3)).2.2]) ∧ Ext w0 w' := by
  refine enterM Try.func29 rfl rfl rfl ?_
  intro a hS
  have hH := Hp.start w0 (Nobody)
  replace hH := hH.know hz (by intro p hp; simp at hp)
  refine c_seq ?_
  refine reg_plain w0 (Nobody) ?_
  refine r_box hS hH (by repeat (first | exact Sub.nil | refine Sub.cons ?_ ?_ | exact In.here | refine In.there ?_)) rfl rfl rfl ?_
  clear hS hH; intro a w b3 hb3 hwb3 hS hH
  refine r_box hS hH (by repeat (first | exact Sub.nil | refine Sub.cons ?_ ?_ | exact In.here | refine In.there ?_)) rfl rfl rfl ?_
  clear hS hH; intro a w b4 hb4 hwb4 hS hH
  refine r_box hS hH (by repeat (first | exact Sub.nil | refine Sub.cons ?_ ?_ | exact In.here | refine In.there ?_)) rfl rfl rfl ?_
  clear hS hH; intro a w b5 hb5 hwb5 hS hH
  refine r_alloc hS hH (by repeat (first | exact Sub.nil | refine Sub.cons ?_ ?_ | exact In.here | refine In.there ?_)) Fc.zc3 rfl ?_
  clear hS hH; intro a w b6 hb6 hwb6 hS hH
  refine r_alloc hS hH (by repeat (first | exact Sub.nil | refine Sub.cons ?_ ?_ | exact In.here | refine In.there ?_)) Fc.zc3 rfl ?_
  clear hS hH; intro a w b7 hb7 hwb7 hS hH
  refine r_alloc hS hH (by repeat (first | exact Sub.nil | refine Sub.cons ?_ ?_ | exact In.here | refine In.there ?_)) Fc.zc4 rfl ?_
  clear hS hH; intro a w b8 hb8 hwb8 hS hH
  refine Sq.nil ?_
  refine then_n ?_
  refine c_seq ?_
  refine c_seq ?_
  refine reg_plain w0 (Nobody) ?_
  have n35 : b3 ≠ b5 := fun e => by have h1 := hH.get (b := b3) (by repeat (first | exact .here | apply In.there | apply Put.there | apply Del.there)); have h2 := hH.get (b := b5) (by repeat (first | exact .here | apply In.there | apply Put.there | apply Del.there)); rw [e, h2] at h1; cases h1
  have no3 : ob ≠ b3 := fun e => by have h1 := hH.get (b := b3) (by repeat (first | exact .here | apply In.there | apply Put.there | apply Del.there)); have h2 := hH.get (b := ob) (by repeat (first | exact .here | apply In.there | apply Put.there | apply Del.there)); rw [← e, h2] at h1; cases h1
  have no5 : ob ≠ b5 := fun e => by have h1 := hH.get (b := b5) (by repeat (first | exact .here | apply In.there | apply Put.there | apply Del.there)); have h2 := hH.get (b := ob) (by repeat (first | exact .here | apply In.there | apply Put.there | apply Del.there)); rw [← e, h2] at h1; cases h1
  refine r_load_sc hS hH (by repeat (first | exact Sub.nil | refine Sub.cons ?_ ?_ | exact In.here | refine In.there ?_)) rfl (by repeat (first | exact In.here | refine In.there ?_)) Fc.sc3 (by rfl) rfl ?_; clear hS; intro a hS
  refine r_lss hS hH.kp0 rfl rfl rfl ?_; clear hS; intro a hS
  refine Sq.nil ?_
  refine then_n ?_
  refine c_condF hS rfl (DF (by omega)) ?_
  refine wp_skip ?_
  refine then_n ?_
  refine c_seq ?_
  refine c_seq ?_
  refine reg_plain w0 (Nobody) ?_
  refine r_load_sc hS hH (by repeat (first | exact Sub.nil | refine Sub.cons ?_ ?_ | exact In.here | refine In.there ?_)) rfl (by repeat (first | exact In.here | refine In.there ?_)) Fc.sc23 (by rfl) rfl ?_; clear hS; intro a hS
  refine r_nilCheck hS hH.kp0 rfl rfl ?_; clear hS; intro a hS
  refine r_fieldAddr hS hH.kp0 rfl Fc.fo70_4 rfl ?_; clear hS; intro a hS
  refine r_load_sc hS hH (by repeat (first | exact Sub.nil | refine Sub.cons ?_ ?_ | exact In.here | refine In.there ?_)) rfl (by repeat (first | exact In.here | refine In.there ?_)) Fc.sc67 (by rfl) rfl ?_; clear hS; intro a hS
  refine r_call (l := [.tmp 16]) hS rfl rfl Fc.fn47 rfl ?_
  refine Calls.mono (All_c _ rfl _) ?_
  rintro e w1 ⟨bb, rfl, hbb, hbk9, hE⟩
  have hbg : bb ≠ gb := fun e => by have h1 := hg.lt gb (.inl rfl); have h2 := hH.mod.size; omega
  replace hH := (hH.ext hE).know hbk9 (fun p hp e => by have := lt_of_block (hH.blk p hp); omega)
  refine ⟨_, rfl, hH.kp0, ?_⟩
  clear hS; intro a hS
  refine Sq.nil ?_
  refine then_n ?_
  refine wp_block ?_
  refine c_range0 (lb := [.pointer (some ⟨bb, 0, none⟩)]) hS hH rfl Fc.fn55 (fun l w1 hE1 => All1_z _ v bb gb hbg w1 (hE1.heap_some (hH.get (b := bb) (by repeat (first | exact In.here | refine In.there ?_)))) (hg.go (F := Nobody) (hH.mod.ext hE1) (fun _ _ h => h)) Fc.sc87) ?_
  clear hS hH; intro a w D lr orr hD hlr hS hH
  refine blk_n ?_
  refine then_n ?_
  refine c_seq ?_
  refine reg_plain w0 (Nobody) ?_
  refine r_makeFunc hS hH.kp0 rfl rfl rfl ?_; clear hS; intro a hS
  refine r_assign hS hH.kp0 rfl rfl ?_; clear hS; intro a hS
  refine Sq.nil ?_
  refine then_n ?_
  refine c_seq ?_
  refine c_seq ?_
  refine reg_draw [(true, 0, []), (true, 1, []), (true, 2, []), (true, 3, []), (true, 4, []), (false, 5, []), (true, 6, [])] Fc.mixed (by kernel_rfl) (by kernel_rfl) (by kernel_rfl) (by kernel_rfl) (by kernel_rfl) (by repeat (first | with_reducible exact steady_body | with_reducible exact steady_bodyQ | with_reducible exact steady_round | with_reducible apply steady_block | with_reducible apply steady_then | with_reducible apply steady_scope | exact steady_body)) hH ?_
  replace hH := hH.drew
  refine r_load_scS hS rfl (by repeat (first | exact In.here | refine In.there ?_)) Fc.sc23 (by rfl) rfl ?_; clear hS; intro a hS
  refine r_nilCheck hS trivial rfl rfl ?_; clear hS; intro a hS
  refine r_fieldAddr hS trivial rfl Fc.fo70_3 rfl ?_; clear hS; intro a hS
  refine r_load_scS hS rfl (by repeat (first | exact In.here | refine In.there ?_)) Fc.sc3 (by rfl) rfl ?_; clear hS; intro a hS
  refine r_load_scS hS rfl (by repeat (first | exact In.here | refine In.there ?_)) Fc.sc23 (by rfl) rfl ?_; clear hS; intro a hS
  refine r_call (l := [.tmp 42]) hS rfl rfl Fc.fn32 rfl ?_
  refine Calls.mono (written_c ob gb hb room base sent kl kc q en hbk _ (hH.get (b := ob) (by repeat (first | exact In.here | refine In.there ?_)))) ?_
  rintro e w1 ⟨rfl, hE⟩
  replace hH := hH.ext hE
  refine ⟨_, rfl, hH.kp (by repeat (first | exact Sub.nil | refine Sub.cons ?_ ?_ | exact In.here | refine In.there ?_)), ?_⟩
  clear hS; intro a hS
  refine r_lss hS trivial rfl rfl rfl ?_; clear hS; intro a hS
  refine Sq.nil ?_
  refine then_n ?_
  refine c_cond hS rfl (fun hc1 => ?_) (fun hc1 => ?_)
  · have hlt : sent < base + kl := by have := of_decide_eq_true hc1; omega
    refine c_seq ?_
    refine c_seq ?_
    refine reg_draw [(true, 0, []), (true, 1, []), (true, 2, []), (true, 3, []), (true, 4, []), (true, 5, [])] Fc.mixed (by kernel_rfl) (by kernel_rfl) (by kernel_rfl) (by kernel_rfl) (by kernel_rfl) (by repeat (first | with_reducible exact steady_body | with_reducible exact steady_bodyQ | with_reducible exact steady_round | with_reducible apply steady_block | with_reducible apply steady_then | with_reducible apply steady_scope | exact steady_body)) hH ?_
    replace hH := hH.drew
    refine r_load_scS hS rfl (by repeat (first | exact In.here | refine In.there ?_)) Fc.sc23 (by rfl) rfl ?_; clear hS; intro a hS
    refine r_nilCheck hS trivial rfl rfl ?_; clear hS; intro a hS
    refine r_fieldAddr hS trivial rfl Fc.fo70_3 rfl ?_; clear hS; intro a hS
    refine r_load_scS hS rfl (by repeat (first | exact In.here | refine In.there ?_)) Fc.sc3 (by rfl) rfl ?_; clear hS; intro a hS
    refine r_load_scS hS rfl (by repeat (first | exact In.here | refine In.there ?_)) Fc.sc3 (by rfl) rfl ?_; clear hS; intro a hS
    refine r_geq hS trivial rfl rfl rfl ?_; clear hS; intro a hS
    refine Sq.nil ?_
    refine then_n ?_
    refine c_cond hS rfl (fun hc2 => ?_) (fun hc2 => ?_)
    · have hli : limit ≤ sent := by have := of_decide_eq_true hc2; omega
      refine c_seq ?_
      refine reg_plain w0 (Nobody) ?_
      refine r_store1 hS hH rfl rfl rfl (by repeat (first | exact .here | apply In.there | apply Put.there | apply Del.there)) (by repeat (first | exact Sub.nil | refine Sub.cons ?_ ?_ | exact In.here | refine In.there ?_)) Fc.sz3 (of_decide_eq_true rfl) (by first | exact .inr (by assumption) | exact .inl (by first | assumption | rfl)) ?_
      clear hH; intro w hH
      refine r_store1 hS hH rfl rfl rfl (by repeat (first | exact .here | apply In.there | apply Put.there | apply Del.there)) (by repeat (first | exact Sub.nil | refine Sub.cons ?_ ?_ | exact In.here | refine In.there ?_)) Fc.sz3 (of_decide_eq_true rfl) (by first | exact .inr (by assumption) | exact .inl (by first | assumption | rfl)) ?_
      clear hH; intro w hH
      refine r_store1 hS hH rfl rfl rfl (by repeat (first | exact .here | apply In.there | apply Put.there | apply Del.there)) (by repeat (first | exact Sub.nil | refine Sub.cons ?_ ?_ | exact In.here | refine In.there ?_)) Fc.sz4 (of_decide_eq_true rfl) (by first | exact .inr (by assumption) | exact .inl (by first | assumption | rfl)) ?_
      clear hH; intro w hH
      refine Sq.nil ?_
      refine then_n ?_
      refine wp_ret ?_
      refine then_r ?_
      refine then_r ?_
      refine leaveM (.inl rfl) hS hH (hH.get (b := D) (by repeat (first | exact In.here | refine In.there ?_))) hD rfl (Res.cell1 rfl (hH.get (by repeat (first | exact In.here | refine In.there ?_))) Fc.sc3 (by rfl) (Res.cell1 rfl (hH.get (by repeat (first | exact In.here | refine In.there ?_))) Fc.sc3 (by rfl) (Res.cell1 rfl (hH.get (by repeat (first | exact In.here | refine In.there ?_))) Fc.sc4 (by rfl) Res.nil))) (fun w9 hm9 hk9 => ⟨?_, hm9⟩)
      simp only [dueE, if_pos hlt, if_pos hli]
      rfl
    · have hli : ¬ limit ≤ sent := by have := of_decide_eq_false hc2; omega
      refine wp_skip ?_
      refine then_n ?_
      refine c_seq ?_
      refine reg_draw [(true, 0, [4]), (true, 1, [4]), (true, 2, [4]), (true, 3, [4]), (true, 4, [4]), (true, 5, [4]), (true, 7, [4]), (true, 8, [4]), (true, 9, [4]), (true, 10, [4]), (false, 6, []), (true, 11, [4]), (true, 12, [4]), (true, 13, [4]), (false, 14, [4])] Fc.mixed (by kernel_rfl) (by kernel_rfl) (by kernel_rfl) (by kernel_rfl) (by kernel_rfl) (by repeat (first | with_reducible exact steady_body | with_reducible exact steady_bodyQ | with_reducible exact steady_round | with_reducible apply steady_block | with_reducible apply steady_then | with_reducible apply steady_scope | exact steady_body)) hH ?_
      replace hH := hH.drew
      refine r_load_scS hS rfl (by repeat (first | exact In.here | refine In.there ?_)) Fc.sc23 (by rfl) rfl ?_; clear hS; intro a hS
      refine r_nilCheck hS trivial rfl rfl ?_; clear hS; intro a hS
      refine r_fieldAddr hS trivial rfl Fc.fo70_3 rfl ?_; clear hS; intro a hS
      refine r_load_scS hS rfl (by repeat (first | exact In.here | refine In.there ?_)) Fc.sc3 (by rfl) rfl ?_; clear hS; intro a hS
      refine r_load_scS hS rfl (by repeat (first | exact In.here | refine In.there ?_)) Fc.sc3 (by rfl) rfl ?_; clear hS; intro a hS
      refine r_move hS trivial rfl rfl ?_; clear hS; intro a hS
      refine r_load_scS hS rfl (by repeat (first | exact In.here | refine In.there ?_)) Fc.sc23 (by rfl) rfl ?_; clear hS; intro a hS
      refine r_nilCheck hS trivial rfl rfl ?_; clear hS; intro a hS
      refine r_fieldAddr hS trivial rfl Fc.fo70_3 rfl ?_; clear hS; intro a hS
      refine r_load_scS hS rfl (by repeat (first | exact In.here | refine In.there ?_)) Fc.sc3 (by rfl) rfl ?_; clear hS; intro a hS
      refine r_call (l := []) hS rfl rfl Fc.fn48 rfl ?_
      refine Calls.mono (fits_c b3 b5 ob gb hb room base sent kl kc q en limit hbk n35 no3 no5 _ (hH.get (b := ob) (by repeat (first | exact In.here | refine In.there ?_))) (hH.get (b := b3) (by repeat (first | exact In.here | refine In.there ?_))) (hH.get (b := b5) (by repeat (first | exact In.here | refine In.there ?_)))) ?_
      rintro e w1 ⟨rfl, hE⟩
      replace hH := hH.ext hE
      refine ⟨_, rfl, hH.kp (by repeat (first | exact Sub.nil | refine Sub.cons ?_ ?_ | exact In.here | refine In.there ?_)), ?_⟩
      clear hS; intro a hS
      have hsl : sent ≤ min (base + kl) limit := by omega
      refine r_subN0 (m := min (base + kl) limit) (k := sent) hS trivial rfl rfl hsl (by omega) rfl ?_; clear hS; intro a hS
      refine r_minN (m := most) (k := min (base + kl) limit - sent) hS trivial rfl rfl rfl ?_; clear hS; intro a hS
      refine r_addN0 (m := sent) (k := min most (min (base + kl) limit - sent)) hS trivial rfl rfl (by omega) rfl ?_; clear hS; intro a hS
      refine r_store1 hS hH rfl rfl rfl (by repeat (first | exact .here | apply In.there | apply Put.there | apply Del.there)) (by repeat (first | exact Sub.nil | refine Sub.cons ?_ ?_ | exact In.here | refine In.there ?_)) Fc.sz3 (of_decide_eq_true rfl) (by first | exact .inr (by assumption) | exact .inl (by first | assumption | rfl)) ?_
      clear hH; intro w hH
      refine Sq.nil ?_
      refine then_n ?_
      refine c_seq ?_
      refine reg_draw [(true, 0, [3, 4, 5]), (true, 1, [3, 4, 5]), (true, 2, [3, 4, 5]), (true, 3, [3, 4, 5]), (true, 4, [3, 5]), (true, 5, [3, 5]), (true, 6, [3, 4, 5]), (true, 7, [3, 4, 5]), (true, 8, [3, 4, 5]), (true, 9, [3, 4, 5]), (true, 10, [3, 4, 5]), (false, 11, [5]), (false, 12, [4, 5]), (false, 13, [3, 4, 5])] Fc.mixed (by kernel_rfl) (by kernel_rfl) (by kernel_rfl) (by kernel_rfl) (by kernel_rfl) (by repeat (first | with_reducible exact steady_body | with_reducible exact steady_bodyQ | with_reducible exact steady_round | with_reducible apply steady_block | with_reducible apply steady_then | with_reducible apply steady_scope | exact steady_body)) hH ?_
      replace hH := hH.drew
      refine r_load_scS hS rfl (by repeat (first | exact In.here | refine In.there ?_)) Fc.sc23 (by rfl) rfl ?_; clear hS; intro a hS
      refine r_nilCheck hS trivial rfl rfl ?_; clear hS; intro a hS
      refine r_fieldAddr hS trivial rfl Fc.fo70_3 rfl ?_; clear hS; intro a hS
      refine r_load_scS hS rfl (by repeat (first | exact In.here | refine In.there ?_)) Fc.sc3 (by rfl) rfl ?_; clear hS; intro a hS
      refine r_load_scS hS rfl (by repeat (first | exact In.here | refine In.there ?_)) Fc.sc3 (by rfl) rfl ?_; clear hS; intro a hS
      refine r_load_scS hS rfl (by repeat (first | exact In.here | refine In.there ?_)) Fc.sc3 (by rfl) rfl ?_; clear hS; intro a hS
      refine r_load_scS hS rfl (by repeat (first | exact In.here | refine In.there ?_)) Fc.sc23 (by rfl) rfl ?_; clear hS; intro a hS
      refine r_nilCheck hS trivial rfl rfl ?_; clear hS; intro a hS
      refine r_fieldAddr hS trivial rfl Fc.fo70_3 rfl ?_; clear hS; intro a hS
      refine r_load_scS hS rfl (by repeat (first | exact In.here | refine In.there ?_)) Fc.sc3 (by rfl) rfl ?_; clear hS; intro a hS
      refine r_gtrN (m := sent + min most (min (base + kl) limit - sent)) (k := sent) hS trivial rfl rfl rfl ?_; clear hS; intro a hS
      refine r_store1 hS hH rfl rfl rfl (by repeat (first | exact .here | apply In.there | apply Put.there | apply Del.there)) (by repeat (first | exact Sub.nil | refine Sub.cons ?_ ?_ | exact In.here | refine In.there ?_)) Fc.sz3 (of_decide_eq_true rfl) (by first | exact .inr (by assumption) | exact .inl (by first | assumption | rfl)) ?_
      clear hH; intro w hH
      refine r_store1 hS hH rfl rfl rfl (by repeat (first | exact .here | apply In.there | apply Put.there | apply Del.there)) (by repeat (first | exact Sub.nil | refine Sub.cons ?_ ?_ | exact In.here | refine In.there ?_)) Fc.sz3 (of_decide_eq_true rfl) (by first | exact .inr (by assumption) | exact .inl (by first | assumption | rfl)) ?_
      clear hH; intro w hH
      refine r_store1 hS hH rfl rfl rfl (by repeat (first | exact .here | apply In.there | apply Put.there | apply Del.there)) (by repeat (first | exact Sub.nil | refine Sub.cons ?_ ?_ | exact In.here | refine In.there ?_)) Fc.sz4 (of_decide_eq_true rfl) (by first | exact .inr (by assumption) | exact .inl (by first | assumption | rfl)) ?_
      clear hH; intro w hH
      refine Sq.nil ?_
      refine then_n ?_
      refine wp_ret ?_
      refine then_r ?_
      refine leaveM (.inl rfl) hS hH (hH.get (b := D) (by repeat (first | exact In.here | refine In.there ?_))) hD rfl (Res.cell1 rfl (hH.get (by repeat (first | exact In.here | refine In.there ?_))) Fc.sc3 (by rfl) (Res.cell1 rfl (hH.get (by repeat (first | exact In.here | refine In.there ?_))) Fc.sc3 (by rfl) (Res.cell1 rfl (hH.get (by repeat (first | exact In.here | refine In.there ?_))) Fc.sc4 (by rfl) Res.nil))) (fun w9 hm9 hk9 => ⟨?_, hm9⟩)
      simp only [dueE, if_pos hlt, if_neg hli]
      rw [show decide (sent + min most (min (base + kl) limit - sent) > sent) = decide (0 < min most (min (base + kl) limit - sent)) from by simp]
      rfl
  · have hge : ¬ sent < base + kl := by have := of_decide_eq_false hc1; omega
    refine wp_skip ?_
    refine then_n ?_
    refine c_seq ?_
    refine reg_draw [(true, 0, [3, 4, 5]), (true, 1, [3, 4, 5]), (true, 2, [3, 4, 5]), (true, 3, [3, 4, 5]), (true, 4, [3, 4, 5]), (true, 5, [3, 4, 5]), (true, 6, [3, 4, 5]), (true, 7, [3, 4, 5]), (true, 8, [3, 4, 5]), (true, 9, [3, 4, 5]), (true, 10, [3, 4, 5]), (true, 11, [3, 4, 5]), (true, 12, [3, 4, 5]), (true, 13, [3, 4, 5]), (true, 14, [3, 4, 5]), (true, 15, [3, 4, 5]), (true, 16, [3, 4, 5]), (true, 17, [3, 4, 5]), (true, 18, [3, 4, 5]), (true, 19, [3, 4, 5]), (false, 20, [5]), (false, 21, [4, 5]), (false, 22, [3, 4, 5])] Fc.mixed (by kernel_rfl) (by kernel_rfl) (by kernel_rfl) (by kernel_rfl) (by kernel_rfl) (by repeat (first | with_reducible exact steady_body | with_reducible exact steady_bodyQ | with_reducible exact steady_round | with_reducible apply steady_block | with_reducible apply steady_then | with_reducible apply steady_scope | exact steady_body)) hH ?_
    replace hH := hH.drew
    refine r_load_scS hS rfl (by repeat (first | exact In.here | refine In.there ?_)) Fc.sc23 (by rfl) rfl ?_; clear hS; intro a hS
    refine r_nilCheck hS trivial rfl rfl ?_; clear hS; intro a hS
    refine r_fieldAddr hS trivial rfl Fc.fo70_3 rfl ?_; clear hS; intro a hS
    refine r_load_scS hS rfl (by repeat (first | exact In.here | refine In.there ?_)) Fc.sc3 (by rfl) rfl ?_; clear hS; intro a hS
    refine r_load_scS hS rfl (by repeat (first | exact In.here | refine In.there ?_)) Fc.sc23 (by rfl) rfl ?_; clear hS; intro a hS
    refine r_nilCheck hS trivial rfl rfl ?_; clear hS; intro a hS
    refine r_fieldAddr hS trivial rfl Fc.fo70_3 rfl ?_; clear hS; intro a hS
    refine r_load_scS hS rfl (by repeat (first | exact In.here | refine In.there ?_)) Fc.sc3 (by rfl) rfl ?_; clear hS; intro a hS
    refine r_load_scS hS rfl (by repeat (first | exact In.here | refine In.there ?_)) Fc.sc23 (by rfl) rfl ?_; clear hS; intro a hS
    refine r_nilCheck hS trivial rfl rfl ?_; clear hS; intro a hS
    refine r_fieldAddr hS trivial rfl Fc.fo70_6 rfl ?_; clear hS; intro a hS
    refine r_load_scS hS rfl (by repeat (first | exact In.here | refine In.there ?_)) Fc.sc3 (by rfl) rfl ?_; clear hS; intro a hS
    refine r_eql hS trivial rfl rfl rfl ?_; clear hS; intro a hS
    refine r_move hS trivial rfl rfl ?_; clear hS; intro a hS
    rcases (by cases (en == 1) <;> simp : (en == 1) = false ∨ (en == 1) = true) with hq1 | hq1
    · rw [hq1] at hS
      refine Sq.guardYes hS rfl rfl rfl ?_
      refine r_load_scS hS rfl (by repeat (first | exact In.here | refine In.there ?_)) Fc.sc23 (by rfl) rfl ?_; clear hS; intro a hS
      refine Sq.guardYes hS rfl rfl rfl ?_
      refine r_nilCheck hS trivial rfl rfl ?_; clear hS; intro a hS
      refine Sq.guardYes hS rfl rfl rfl ?_
      refine r_fieldAddr hS trivial rfl Fc.fo70_6 rfl ?_; clear hS; intro a hS
      refine Sq.guardYes hS rfl rfl rfl ?_
      refine r_load_scS hS rfl (by repeat (first | exact In.here | refine In.there ?_)) Fc.sc3 (by rfl) rfl ?_; clear hS; intro a hS
      refine Sq.guardYes hS rfl rfl rfl ?_
      refine r_eql hS trivial rfl rfl rfl ?_; clear hS; intro a hS
      refine r_pickF hS trivial rfl rfl rfl rfl ?_; clear hS; intro a hS
      refine r_store1 hS hH rfl rfl rfl (by repeat (first | exact .here | apply In.there | apply Put.there | apply Del.there)) (by repeat (first | exact Sub.nil | refine Sub.cons ?_ ?_ | exact In.here | refine In.there ?_)) Fc.sz3 (of_decide_eq_true rfl) (by first | exact .inr (by assumption) | exact .inl (by first | assumption | rfl)) ?_
      clear hH; intro w hH
      refine r_store1 hS hH rfl rfl rfl (by repeat (first | exact .here | apply In.there | apply Put.there | apply Del.there)) (by repeat (first | exact Sub.nil | refine Sub.cons ?_ ?_ | exact In.here | refine In.there ?_)) Fc.sz3 (of_decide_eq_true rfl) (by first | exact .inr (by assumption) | exact .inl (by first | assumption | rfl)) ?_
      clear hH; intro w hH
      refine r_store1 hS hH rfl rfl rfl (by repeat (first | exact .here | apply In.there | apply Put.there | apply Del.there)) (by repeat (first | exact Sub.nil | refine Sub.cons ?_ ?_ | exact In.here | refine In.there ?_)) Fc.sz4 (of_decide_eq_true rfl) (by first | exact .inr (by assumption) | exact .inl (by first | assumption | rfl)) ?_
      clear hH; intro w hH
      refine Sq.nil ?_
      refine then_n ?_
      refine wp_ret ?_
      refine leaveM (.inl rfl) hS hH (hH.get (b := D) (by repeat (first | exact In.here | refine In.there ?_))) hD rfl (Res.cell1 rfl (hH.get (by repeat (first | exact In.here | refine In.there ?_))) Fc.sc3 (by rfl) (Res.cell1 rfl (hH.get (by repeat (first | exact In.here | refine In.there ?_))) Fc.sc3 (by rfl) (Res.cell1 rfl (hH.get (by repeat (first | exact In.here | refine In.there ?_))) Fc.sc4 (by rfl) Res.nil))) (fun w9 hm9 hk9 => ⟨?_, hm9⟩)
      simp only [dueE, if_neg hge, hq1, Bool.false_or, Bool.true_or]
      rfl
    · rw [hq1] at hS
      refine Sq.guardNo hS rfl rfl rfl trivial rfl ?_; clear hS; intro a hS
      refine Sq.guardNo hS rfl rfl rfl trivial rfl ?_; clear hS; intro a hS
      refine Sq.guardNo hS rfl rfl rfl trivial rfl ?_; clear hS; intro a hS
      refine Sq.guardNo hS rfl rfl rfl trivial rfl ?_; clear hS; intro a hS
      refine Sq.guardNo hS rfl rfl rfl trivial rfl ?_; clear hS; intro a hS
      refine r_pickT hS trivial rfl rfl rfl rfl ?_; clear hS; intro a hS
      refine r_store1 hS hH rfl rfl rfl (by repeat (first | exact .here | apply In.there | apply Put.there | apply Del.there)) (by repeat (first | exact Sub.nil | refine Sub.cons ?_ ?_ | exact In.here | refine In.there ?_)) Fc.sz3 (of_decide_eq_true rfl) (by first | exact .inr (by assumption) | exact .inl (by first | assumption | rfl)) ?_
      clear hH; intro w hH
      refine r_store1 hS hH rfl rfl rfl (by repeat (first | exact .here | apply In.there | apply Put.there | apply Del.there)) (by repeat (first | exact Sub.nil | refine Sub.cons ?_ ?_ | exact In.here | refine In.there ?_)) Fc.sz3 (of_decide_eq_true rfl) (by first | exact .inr (by assumption) | exact .inl (by first | assumption | rfl)) ?_
      clear hH; intro w hH
      refine r_store1 hS hH rfl rfl rfl (by repeat (first | exact .here | apply In.there | apply Put.there | apply Del.there)) (by repeat (first | exact Sub.nil | refine Sub.cons ?_ ?_ | exact In.here | refine In.there ?_)) Fc.sz4 (of_decide_eq_true rfl) (by first | exact .inr (by assumption) | exact .inl (by first | assumption | rfl)) ?_
      clear hH; intro w hH
      refine Sq.nil ?_
      refine then_n ?_
      refine wp_ret ?_
      refine leaveM (.inl rfl) hS hH (hH.get (b := D) (by repeat (first | exact In.here | refine In.there ?_))) hD rfl (Res.cell1 rfl (hH.get (by repeat (first | exact In.here | refine In.there ?_))) Fc.sc3 (by rfl) (Res.cell1 rfl (hH.get (by repeat (first | exact In.here | refine In.there ?_))) Fc.sc3 (by rfl) (Res.cell1 rfl (hH.get (by repeat (first | exact In.here | refine In.there ?_))) Fc.sc4 (by rfl) Res.nil))) (fun w9 hm9 hk9 => ⟨?_, hm9⟩)
      simp only [dueE, if_neg hge, hq1, Bool.false_or, Bool.true_or]
      rfl

theorem due_new (ob gb hb room base sent kl kc : Nat) (q : Option Addr) (en : Int) (most limit m : Nat) (hbk : base + kl ≤ 1099511627776) (hsent : sent < base + kl) (hmost : most ≤ 1099511627776) (hlim : limit ≤ 4611686018427387903) (hli : sent < limit) (h1 : 1 ≤ most) (hm : m = min most (min (base + kl) limit - sent)) (w0 : World) (hz : w0.heap[ob]? = some (.cells ([.int .i64 (room : Int), .int .i64 (base : Int), .slice q kl kc, .int .i64 (sent : Int), .pointer (some ⟨gb, 0, none⟩), .pointer (some ⟨hb, 0, none⟩), .int .i64 en] : List Value).toArray 70 (0, 0))) (v : Value) (hg : SetIn 89 94 w0 gb v 0 []) (hne : gb ≠ ob) : Calls Try.prog 29 #[.pointer (some ⟨ob, 0, none⟩), .int .i64 (most : Int), .int .i64 (limit : Int)] w0 fun e w' => e = .returned (.tuple #[.int .i64 (sent : Int), .int .i64 ((sent + m : Nat) : Int), .bool true]) ∧ Ext w0 w' := by
  refine (due_z ob gb hb room base sent kl kc q en most limit hbk (by omega) hmost hlim w0 hz v hg hne).mono fun e w' ⟨h2, h3⟩ => ⟨h2.trans ?_, h3⟩
  rw [show dueE (base + kl) sent most limit (en == 1 || en == 3) = (sent, sent + m, true) by
    subst hm
    unfold dueE
    rw [if_pos hsent, if_neg (by omega)]
    simp; omega]
theorem due_old (ob gb hb room base sent kl kc : Nat) (q : Option Addr) (en : Int) (v : Value) (x y m most : Nat) (lim : Int) (hxy : x ≤ y) (hy : y ≤ 1099511627776) (hmost : most ≤ 1099511627776) (h1 : 1 ≤ most) (hm : m = min most (y - x + 1)) (w0 : World) (hz : w0.heap[ob]? = some (.cells ([.int .i64 (room : Int), .int .i64 (base : Int), .slice q kl kc, .int .i64 (sent : Int), .pointer (some ⟨gb, 0, none⟩), .pointer (some ⟨hb, 0, none⟩), .int .i64 en] : List Value).toArray 70 (0, 0))) (hg : SetIn 89 94 w0 gb v 1 (span1 x y)) (hne : ∀ z, SF gb v z → z ≠ ob) : Calls Try.prog 29 #[.pointer (some ⟨ob, 0, none⟩), .int .i64 (most : Int), .int .i64 lim] w0 fun e w' => e = .returned (.tuple #[.int .i64 (x : Int), .int .i64 ((x + m : Nat) : Int), .bool true]) ∧ Ext w0 w' := by
  obtain ⟨sb, cap, l, rfl, hns, hs, hl, hc, ht⟩ := hg.one
  exact due_lost ob gb hb room base sent kl kc q en sb cap x y m most l lim hxy hy hmost h1 hm w0 hz hg.head hs hl hc ht (hne gb (.inl rfl)) (hne sb (.inr ⟨_, _, rfl⟩)) hns.symm

end Go.Proofs.Ytkhcbllphdhbdaa

namespace Go.Proofs.Ytkhcbllphdhbdaa
open Go.Sym

theorem Fc.fo30_2 : foff Try.prog 30 2 = some 2 := by kernel_rfl
set_option maxRecDepth 100000 in
set_option maxHeartbeats 4000000 in
theorem Next_g (ob gb hb room base sent kl kc ka ko m m1 : Nat) (kb : List UInt8) (en : Int) (v : Value) (xs1 : List Value) (lim : Int) (most : Nat) (hkl : kb.length = kl) (hmk : m ≤ kl) (hm1 : 1 ≤ m) (hbk : base + kl ≤ 1099511627776) (hsn : sent ≤ 1099511627776) (hen : en = 1 ∨ en = 3) (w0 : World) (hz : w0.heap[ob]? = some (.cells ([.int .i64 (room : Int), .int .i64 (base : Int), .slice (some ⟨ka, ko, none⟩) kl kc, .int .i64 (sent : Int), .pointer (some ⟨gb, 0, none⟩), .pointer (some ⟨hb, 0, none⟩), .int .i64 en] : List Value).toArray 70 (0, 0))) (hvlt : ∀ z, SF gb v z → z < w0.heap.size) (hvo : ∀ z, SF gb v z → z ≠ ob) (hkb : BsF (fun z => z = ob) w0 (.slice (some ⟨ka, ko, none⟩) kl kc) kb) (hdue : ∀ W, Mod (fun z => z = ob) w0 W → W.heap[ob]? = some (.cells ([.int .i64 (room : Int), .int .i64 (base : Int), .slice (some ⟨ka, ko, none⟩) kl kc, .int .i64 (sent : Int), .pointer (some ⟨gb, 0, none⟩), .pointer (some ⟨hb, 0, none⟩), .int .i64 en] : List Value).toArray 70 (0, 0)) → Calls Try.prog 29 #[.pointer (some ⟨ob, 0, none⟩), .int .i64 (most : Int), .int .i64 lim] W fun e w' => e = .returned (.tuple #[.int .i64 (base : Int), .int .i64 ((base + m : Nat) : Int), .bool true]) ∧ Ext W w') (hrem : ∀ W, Mod (fun z => z = ob) w0 W → Calls Try.prog 31 #[.pointer (some ⟨gb, 0, none⟩), .int .i64 (base : Int), .int .i64 ((base + m - 1 : Nat) : Int)] W fun e w' => e = .returned (.int .i64 0) ∧ ∃ v2, SetIn 89 94 w' gb v2 m1 xs1 ∧ SStep W w' gb v v2) : Calls Try.prog 8 #[.pointer (some ⟨ob, 0, none⟩), .int .i64 (most : Int), .int .i64 lim] w0 fun e w' => ∃ (cb cap : Nat) (cl : List Value) (v2 : Value), e = .returned (.tuple #[.agg #[.int .i64 (base : Int), .slice (some ⟨cb, 0, none⟩) m cap, .bool (decide (base + m = base + kl))], .bool true]) ∧ w0.heap.size ≤ cb ∧ w'.heap[cb]? = some (.cells cl.toArray 5 (0, 0)) ∧ BB cap cl (kb.take m) ∧ w'.heap[ob]? = some (.cells ([.int .i64 (room : Int), .int .i64 (base : Int), .slice (some ⟨ka, ko, none⟩) kl kc, .int .i64 ((max sent (base + m) : Nat) : Int), .pointer (some ⟨gb, 0, none⟩), .pointer (some ⟨hb, 0, none⟩), .int .i64 (if base + m = base + kl then 2 else en)] : List Value).toArray 70 (0, 0)) ∧ SetIn 89 94 w' gb v2 m1 xs1 ∧ (∀ z, SF gb v2 z → SF gb v z ∨ w0.heap.size ≤ z) ∧ cb ≠ ob ∧ ¬ SF gb v2 cb ∧ (∀ z, SF gb v2 z → z ≠ ob) ∧ Mod (fun z => z = ob ∨ SF gb v z) w0 w' := by
  refine enter Try.func8 rfl rfl rfl ?_
  intro a hS
  have hH := Hp.start w0 (fun z => z = ob)
  replace hH := hH.know hz (by intro p hp; simp at hp)
  obtain ⟨SS, hSS⟩ : ∃ s : Nat → Prop, s = fun z => z = ob := ⟨_, rfl⟩
  rw [← hSS] at hH
  have hX : ∀ {w : World}, Mod SS w0 w → Mod (fun z => z = ob) w0 w := fun h => by rw [hSS] at h; exact h
  have hmm : base + m - base = m := by omega
  have hkc := hkb.len.2
  refine c_seq ?_
  refine reg_plain w0 (SS) ?_
  refine r_alloc hS hH (by repeat (first | exact Sub.nil | refine Sub.cons ?_ ?_ | exact In.here | refine In.there ?_)) Fc.zc30 rfl ?_
  clear hS hH; intro a w b6 hb6 hwb6 hS hH
  refine r_assign hS hH.kp0 rfl rfl ?_; clear hS; intro a hS
  refine Sq.nil ?_
  refine then_n ?_
  refine c_seq ?_
  refine c_seq ?_
  refine reg_plain w0 (SS) ?_
  refine r_move hS hH.kp0 rfl rfl ?_; clear hS; intro a hS
  refine r_call (l := [.tmp 12]) hS rfl rfl Fc.fn28 rfl ?_
  refine Calls.mono (none_c ob gb hb room base sent kl kc (some ⟨ka, ko, none⟩) en _ (hH.get (b := ob) (by repeat (first | exact In.here | refine In.there ?_)))) ?_
  rintro e w1 ⟨rfl, hE⟩
  replace hH := hH.ext hE
  refine ⟨_, rfl, hH.kp0, ?_⟩
  clear hS; intro a hS
  refine Sq.nil ?_
  refine then_n ?_
  refine c_condF hS rfl rfl ?_
  refine wp_skip ?_
  refine then_n ?_
  refine c_seq ?_
  refine reg_plain w0 (SS) ?_
  refine r_move hS hH.kp0 rfl rfl ?_; clear hS; intro a hS
  refine r_move hS hH.kp0 rfl rfl ?_; clear hS; intro a hS
  refine r_move hS hH.kp0 rfl rfl ?_; clear hS; intro a hS
  refine r_call (l := [.tmp 16, .tmp 17, .tmp 18]) hS rfl rfl Fc.fn29 rfl ?_
  refine Calls.mono (hdue _ (hX hH.mod) (hH.get (b := ob) (by repeat (first | exact In.here | refine In.there ?_)))) ?_
  rintro e w1 ⟨rfl, hE⟩
  replace hH := hH.ext hE
  refine ⟨_, rfl, hH.kp0, ?_⟩
  clear hS; intro a hS
  refine r_move hS hH.kp0 rfl rfl ?_; clear hS; intro a hS
  refine r_extract hS hH.kp0 rfl rfl rfl ?_; clear hS; intro a hS
  refine r_extract hS hH.kp0 rfl rfl rfl ?_; clear hS; intro a hS
  refine r_extract hS hH.kp0 rfl rfl rfl ?_; clear hS; intro a hS
  refine r_assign hS hH.kp0 rfl rfl ?_; clear hS; intro a hS
  refine r_assign hS hH.kp0 rfl rfl ?_; clear hS; intro a hS
  refine r_assign hS hH.kp0 rfl rfl ?_; clear hS; intro a hS
  refine Sq.nil ?_
  refine then_n ?_
  refine c_seq ?_
  refine c_seq ?_
  refine reg_plain w0 (SS) ?_
  refine r_move hS hH.kp0 rfl rfl ?_; clear hS; intro a hS
  refine r_not hS hH.kp0 rfl rfl ?_; clear hS; intro a hS
  refine Sq.nil ?_
  refine then_n ?_
  refine c_condF hS rfl rfl ?_
  refine wp_skip ?_
  refine then_n ?_
  refine c_cut (fun a w => ∃ (cb cap b11 : Nat) (cl : List Value), w0.heap.size ≤ cb ∧ w0.heap.size ≤ b11 ∧ BB cap cl (kb.take m) ∧ St 89 (lv [(0, .pointer (some ⟨ob, 0, none⟩)), (6, .pointer (some ⟨b6, 0, none⟩)), (7, .bool false), (8, .int .i64 (base : Int)), (9, .int .i64 ((base + m : Nat) : Int)), (11, .pointer (some ⟨b11, 0, none⟩))]) a ∧ Hp w0 SS [(b11, .cells ([.int .i64 (base : Int), .slice (some ⟨cb, 0, none⟩) m cap, .bool false] : List Value).toArray 30 (0, 0)), (cb, .cells cl.toArray 5 (0, 0)), (b6, .cells ([.int .i64 0, .slice none 0 0, .bool false] : List Value).toArray 30 (0, 0)), (ob, .cells ([.int .i64 (room : Int), .int .i64 (base : Int), .slice (some ⟨ka, ko, none⟩) kl kc, .int .i64 (sent : Int), .pointer (some ⟨gb, 0, none⟩), .pointer (some ⟨hb, 0, none⟩), .int .i64 en] : List Value).toArray 70 (0, 0))] w) ?_ ?_
  · refine reg_tree [(true, 0, []), (true, 1, []), (true, 2, []), (true, 3, []), (true, 4, []), (true, 5, []), (true, 6, []), (true, 7, []), (true, 8, []), (true, 9, []), (true, 10, []), (true, 11, []), (true, 12, []), (true, 13, []), (true, 14, []), (true, 15, []), (true, 16, []), (true, 17, []), (false, 18, []), (true, 19, []), (false, 20, []), (false, 21, [])] (PT.ofPlan [(true, 0, []), (true, 1, []), (true, 2, []), (true, 3, []), (true, 4, []), (true, 5, []), (true, 6, []), (true, 7, []), (true, 8, []), (true, 9, []), (true, 10, []), (true, 11, []), (true, 12, []), (true, 13, []), (true, 14, []), (true, 15, []), (true, 16, []), (true, 17, [])] (.fork (PT.ofPlan [(false, 18, []), (true, 19, []), (false, 20, []), (false, 21, [])] .nil) (PT.ofPlan [(false, 20, []), (false, 18, []), (true, 19, []), (false, 21, [])] .nil))) Fc.mixed (by kernel_rfl) (by kernel_rfl) (by kernel_rfl) (by kernel_rfl) (by kernel_rfl) (by kernel_rfl) (by repeat (first | with_reducible exact steady_body | with_reducible exact steady_bodyQ | with_reducible exact steady_round | with_reducible apply steady_block | with_reducible apply steady_then | with_reducible apply steady_scope | exact steady_body)) hH ?_
    replace hH := hH.drew
    refine tr_seg ?_
    refine r_move hS trivial rfl rfl ?_; clear hS; intro a hS
    refine r_move hS trivial rfl rfl ?_; clear hS; intro a hS
    refine r_nilCheck hS trivial rfl rfl ?_; clear hS; intro a hS
    refine r_fieldAddr hS trivial rfl Fc.fo70_2 rfl ?_; clear hS; intro a hS
    refine r_load_scS hS rfl (by repeat (first | exact In.here | refine In.there ?_)) Fc.sc22 (by rfl) rfl ?_; clear hS; intro a hS
    refine r_move hS trivial rfl rfl ?_; clear hS; intro a hS
    refine r_move hS trivial rfl rfl ?_; clear hS; intro a hS
    refine r_nilCheck hS trivial rfl rfl ?_; clear hS; intro a hS
    refine r_fieldAddr hS trivial rfl Fc.fo70_1 rfl ?_; clear hS; intro a hS
    refine r_load_scS hS rfl (by repeat (first | exact In.here | refine In.there ?_)) Fc.sc3 (by rfl) rfl ?_; clear hS; intro a hS
    refine r_subN0 (m := base) (k := base) hS trivial rfl rfl (by omega) (by omega) rfl ?_; clear hS; intro a hS
    rw [Nat.sub_self] at hS
    refine r_move hS trivial rfl rfl ?_; clear hS; intro a hS
    refine r_move hS trivial rfl rfl ?_; clear hS; intro a hS
    refine r_nilCheck hS trivial rfl rfl ?_; clear hS; intro a hS
    refine r_fieldAddr hS trivial rfl Fc.fo70_1 rfl ?_; clear hS; intro a hS
    refine r_load_scS hS rfl (by repeat (first | exact In.here | refine In.there ?_)) Fc.sc3 (by rfl) rfl ?_; clear hS; intro a hS
    refine r_subN0 (m := base + m) (k := base) hS trivial rfl rfl (by omega) (by omega) rfl ?_; clear hS; intro a hS
    rw [hmm] at hS
    refine r_slLoHi (ll := 0) (hh := m) hS trivial rfl rfl rfl Fc.slb22 rfl rfl (by omega) (by omega) rfl ?_; clear hS; intro a hS
    refine Sq.nil ?_
    refine then_n ?_
    refine tr_fork ?_ ?_
    · refine tr_seg ?_
      refine r_call (l := [.tmp 43]) hS rfl rfl Fc.fn30 rfl ?_
      refine Calls.mono (clone_n _ _ (m - 0) ((kb.drop 0).take (m - 0)) (by rw [List.length_take, List.length_drop]; omega) (by omega) _ ((BsF.part hkb (ll := 0) (hh := m) (by omega) (by omega)) _ (hX hH.mod))) ?_
      rintro e w1 ⟨cb, cap, cl, rfl, hcb, hcbk, hBc, hE⟩
      have hcb0 := Nat.le_trans hH.mod.size hcb
      replace hH := (hH.ext hE).know hcbk (fun p hp e => by have := lt_of_block (hH.blk p hp); omega)
      rw [Nat.sub_zero, List.drop_zero] at hBc
      rw [Nat.sub_zero]
      refine ⟨_, rfl, hH.kp (by repeat (first | exact Sub.nil | refine Sub.cons ?_ ?_ | exact In.here | refine In.there ?_)), ?_⟩
      clear hS; intro a hS
      refine r_buildS (parts := [(0, .tmp 26), (1, .tmp 44)]) hS trivial rfl rfl Fc.zc30 Fc.pl30 (by rfl) ?_; clear hS; intro a hS
      refine r_alloc hS hH (by repeat (first | exact Sub.nil | refine Sub.cons ?_ ?_ | exact In.here | refine In.there ?_)) Fc.zc30 rfl ?_
      clear hS hH; intro a w b11 hb11 hwb11 hS hH
      refine r_store_row hS hH rfl rfl (by repeat (first | exact .here | apply In.there | apply Put.there | apply Del.there)) (by repeat (first | exact Sub.nil | refine Sub.cons ?_ ?_ | exact In.here | refine In.there ?_)) Fc.sz30 (by first | exact hcells_one _ | exact of_decide_eq_true rfl) (by rfl) (by first | exact .inr (by assumption) | exact .inl (by rw [hSS]; first | exact .inl rfl | exact .inr (.inl rfl) | exact .inr (.inr rfl))) ?_
      clear hH; intro w hH
      refine Sq.nil ?_
      refine then_n ?_
      refine tr_nil ?_
      refine then_n ?_
      refine ⟨cb, cap, b11, cl, hcb0, hb11, hBc, hS.live ⟨rfl, rfl, rfl, rfl, rfl, rfl, trivial⟩, ?_⟩; refine Hp.less hH ?_; (repeat (first | refine List.Sublist.cons_cons _ ?_ | refine List.Sublist.cons _ ?_)); exact List.nil_sublist _
    · refine tr_seg ?_
      refine r_alloc hS hH (by repeat (first | exact Sub.nil | refine Sub.cons ?_ ?_ | exact In.here | refine In.there ?_)) Fc.zc30 rfl ?_
      clear hS hH; intro a w b11 hb11 hwb11 hS hH
      refine r_call (l := [.tmp 43]) hS rfl rfl Fc.fn30 rfl ?_
      refine Calls.mono (clone_n _ _ (m - 0) ((kb.drop 0).take (m - 0)) (by rw [List.length_take, List.length_drop]; omega) (by omega) _ ((BsF.part hkb (ll := 0) (hh := m) (by omega) (by omega)) _ (hX hH.mod))) ?_
      rintro e w1 ⟨cb, cap, cl, rfl, hcb, hcbk, hBc, hE⟩
      have hcb0 := Nat.le_trans hH.mod.size hcb
      replace hH := (hH.ext hE).know hcbk (fun p hp e => by have := lt_of_block (hH.blk p hp); omega)
      rw [Nat.sub_zero, List.drop_zero] at hBc
      rw [Nat.sub_zero]
      refine ⟨_, rfl, hH.kp (by repeat (first | exact Sub.nil | refine Sub.cons ?_ ?_ | exact In.here | refine In.there ?_)), ?_⟩
      clear hS; intro a hS
      refine r_buildS (parts := [(0, .tmp 26), (1, .tmp 44)]) hS trivial rfl rfl Fc.zc30 Fc.pl30 (by rfl) ?_; clear hS; intro a hS
      refine r_store_row hS hH rfl rfl (by repeat (first | exact .here | apply In.there | apply Put.there | apply Del.there)) (by repeat (first | exact Sub.nil | refine Sub.cons ?_ ?_ | exact In.here | refine In.there ?_)) Fc.sz30 (by first | exact hcells_one _ | exact of_decide_eq_true rfl) (by rfl) (by first | exact .inr (by assumption) | exact .inl (by rw [hSS]; first | exact .inl rfl | exact .inr (.inl rfl) | exact .inr (.inr rfl))) ?_
      clear hH; intro w hH
      refine Sq.nil ?_
      refine then_n ?_
      refine tr_nil ?_
      refine then_n ?_
      refine ⟨cb, cap, b11, cl, hcb0, hb11, hBc, hS.live ⟨rfl, rfl, rfl, rfl, rfl, rfl, trivial⟩, ?_⟩; refine Hp.less hH.flip ?_; (repeat (first | refine List.Sublist.cons_cons _ ?_ | refine List.Sublist.cons _ ?_)); exact List.nil_sublist _
  clear hS hH; intro a w hJ; obtain ⟨cb, cap, b11, cl, hcb0, hb11, hBc, hS, hH⟩ := hJ
  refine c_seq ?_
  refine c_seq ?_
  refine reg_plain w0 (SS) ?_
  refine r_move hS hH.kp0 rfl rfl ?_; clear hS; intro a hS
  refine r_move hS hH.kp0 rfl rfl ?_; clear hS; intro a hS
  refine r_gtr hS hH.kp0 rfl rfl rfl ?_; clear hS; intro a hS
  refine Sq.nil ?_
  refine then_n ?_
  refine c_condT hS rfl (DT (by omega)) ?_
  have hHm := hX hH.mod
  replace hH := hH.wide (S' := fun z => z = ob ∨ SF gb v z) (fun z h => .inl (by rw [hSS] at h; exact h))
  refine reg_plain w0 (fun z => z = ob ∨ SF gb v z) ?_
  refine r_move hS hH.kp0 rfl rfl ?_; clear hS; intro a hS
  refine r_nilCheck hS hH.kp0 rfl rfl ?_; clear hS; intro a hS
  refine r_fieldAddr hS hH.kp0 rfl Fc.fo70_4 rfl ?_; clear hS; intro a hS
  refine r_load_sc hS hH (by repeat (first | exact Sub.nil | refine Sub.cons ?_ ?_ | exact In.here | refine In.there ?_)) rfl (by repeat (first | exact In.here | refine In.there ?_)) Fc.sc67 (by rfl) rfl ?_; clear hS; intro a hS
  refine r_move hS hH.kp0 rfl rfl ?_; clear hS; intro a hS
  refine r_move hS hH.kp0 rfl rfl ?_; clear hS; intro a hS
  refine r_subN0 (m := base + m) (k := 1) hS hH.kp0 rfl rfl (by omega) (by omega) rfl ?_; clear hS; intro a hS
  refine r_call (l := [.tmp 52, .tmp 53, .tmp 55]) hS rfl rfl Fc.fn31 rfl ?_
  refine Calls.mono (hrem _ hHm) ?_
  rintro e w1 ⟨rfl, v2, hg2, hst2⟩
  have hnew : ∀ z, SF gb v2 z → SF gb v z ∨ w0.heap.size ≤ z := fun z hz => (hst2.new z hz).imp id (fun h => Nat.le_trans hH.mod.size h)
  have hcbn : ¬ SF gb v2 cb := fun h => by rcases hst2.new cb h with h | h; (have := hvlt cb h; omega); (have := lt_of_block (hH.get (b := cb) (.there .here)); omega)
  have hobn : ∀ z, SF gb v2 z → z ≠ ob := fun z h e => by rcases hst2.new z h with h | h; (exact hvo z h e); (have := lt_of_block (hH.get (b := ob) (.there (.there (.there .here)))); omega)
  have hb6n : ∀ z, SF gb v2 z → z ≠ b6 := fun z h e => by rcases hst2.new z h with h | h; (have := hvlt z h; omega); (have := lt_of_block (hH.get (b := b6) (.there (.there .here))); omega)
  have hb11n : ∀ z, SF gb v2 z → z ≠ b11 := fun z h e => by rcases hst2.new z h with h | h; (have := hvlt z h; omega); (have := lt_of_block (hH.get (b := b11) .here); omega)
  replace hH : Hp w0 (fun z => z = ob ∨ SF gb v z) [(b11, .cells ([.int .i64 (base : Int), .slice (some ⟨cb, 0, none⟩) m cap, .bool false] : List Value).toArray 30 (0, 0)), (cb, .cells cl.toArray 5 (0, 0)), (b6, .cells ([.int .i64 0, .slice none 0 0, .bool false] : List Value).toArray 30 (0, 0)), (ob, .cells ([.int .i64 (room : Int), .int .i64 (base : Int), .slice (some ⟨ka, ko, none⟩) kl kc, .int .i64 (sent : Int), .pointer (some ⟨gb, 0, none⟩), .pointer (some ⟨hb, 0, none⟩), .int .i64 en] : List Value).toArray 70 (0, 0))] w1 := hH.past hst2.mod (by intro p hp hz; simp only [List.mem_cons, List.not_mem_nil, or_false] at hp; rcases hp with rfl | rfl | rfl | rfl; (have h8 := hvlt _ hz; dsimp only at h8; omega); (have h8 := hvlt _ hz; dsimp only at h8; omega); (have h8 := hvlt _ hz; dsimp only at h8; omega); exact hvo _ hz rfl) (fun _ h => .inr h)
  refine ⟨_, rfl, hH.kp0, ?_⟩
  clear hS; intro a hS
  refine Sq.nil ?_
  obtain ⟨w, hw9⟩ : ∃ z, z = w1 := ⟨_, rfl⟩
  rw [← hw9] at hH hg2 ⊢
  have hM0 := hH.mod
  have hwb := lt_of_block (hH.get (b := b6) (.there (.there .here)))
  obtain ⟨SS, hSS⟩ : ∃ s : Nat → Prop, s = fun z => z = ob ∨ z = b6 ∨ z = b11 := ⟨_, rfl⟩
  have hbase : Hp w SS [(b11, .cells ([.int .i64 (base : Int), .slice (some ⟨cb, 0, none⟩) m cap, .bool false] : List Value).toArray 30 (0, 0)), (cb, .cells cl.toArray 5 (0, 0)), (b6, .cells ([.int .i64 0, .slice none 0 0, .bool false] : List Value).toArray 30 (0, 0)), (ob, .cells ([.int .i64 (room : Int), .int .i64 (base : Int), .slice (some ⟨ka, ko, none⟩) kl kc, .int .i64 (sent : Int), .pointer (some ⟨gb, 0, none⟩), .pointer (some ⟨hb, 0, none⟩), .int .i64 en] : List Value).toArray 70 (0, 0))] w := ⟨hH.blk, hH.nd, Mod.refl _ _⟩
  clear hH
  obtain ⟨w0, rfl⟩ : ∃ z, z = w := ⟨_, rfl⟩
  have hH := hbase
  refine then_n ?_
  refine c_seq ?_
  refine c_seq ?_
  refine reg_plain w0 (SS) ?_
  refine r_move hS hH.kp0 rfl rfl ?_; clear hS; intro a hS
  refine r_move hS hH.kp0 rfl rfl ?_; clear hS; intro a hS
  refine r_call (l := [.tmp 58]) hS rfl rfl Fc.fn32 rfl ?_
  refine Calls.mono (written_c ob gb hb room base sent kl kc (some ⟨ka, ko, none⟩) en (by omega) _ (hH.get (b := ob) (by repeat (first | exact In.here | refine In.there ?_)))) ?_
  rintro e w1 ⟨rfl, hE⟩
  replace hH := hH.ext hE
  refine ⟨_, rfl, hH.kp0, ?_⟩
  clear hS; intro a hS
  refine r_eql hS hH.kp0 rfl rfl rfl ?_; clear hS; intro a hS
  refine r_move hS hH.kp0 rfl rfl ?_; clear hS; intro a hS
  rcases (by omega : base + m ≠ base + kl ∨ (base + m = base + kl ∧ en = 1) ∨ (base + m = base + kl ∧ en = 3)) with hq1 | ⟨hq1, hq2⟩ | ⟨hq1, hq2⟩
  · rw [show (((base + m : Nat) : Int) == ((base + kl : Nat) : Int)) = false from beq_false_of_ne (by omega)] at hS
    have hfi : decide (base + m = base + kl) = false := decide_eq_false hq1
    have hei : (if base + m = base + kl then 2 else en) = en := if_neg hq1
    rw [hfi, hei]
    refine Sq.guardNo hS rfl rfl rfl hH.kp0 rfl ?_; clear hS; intro a hS
    refine Sq.guardNo hS rfl rfl rfl hH.kp0 rfl ?_; clear hS; intro a hS
    refine Sq.guardNo hS rfl rfl rfl hH.kp0 rfl ?_; clear hS; intro a hS
    refine Sq.guardNo hS rfl rfl rfl hH.kp0 rfl ?_; clear hS; intro a hS
    refine Sq.guardNo hS rfl rfl rfl hH.kp0 rfl ?_; clear hS; intro a hS
    refine Sq.guardNo hS rfl rfl rfl hH.kp0 rfl ?_; clear hS; intro a hS
    refine Sq.guardOff hS rfl rfl hH.kp0 rfl ?_; clear hS; intro a hS
    refine Sq.guardOff hS rfl rfl hH.kp0 rfl ?_; clear hS; intro a hS
    refine Sq.guardOff hS rfl rfl hH.kp0 rfl ?_; clear hS; intro a hS
    refine Sq.guardOff hS rfl rfl hH.kp0 rfl ?_; clear hS; intro a hS
    refine Sq.guardOff hS rfl rfl hH.kp0 rfl ?_; clear hS; intro a hS
    refine Sq.guardNo hS rfl rfl rfl hH.kp0 rfl ?_; clear hS; intro a hS
    refine r_pickF hS hH.kp0 rfl rfl rfl rfl ?_; clear hS; intro a hS
    refine Sq.nil ?_
    refine then_n ?_
    refine c_condF hS rfl rfl ?_
    refine wp_skip ?_
    refine then_n ?_
    refine c_seq ?_
    refine reg_plain w0 (SS) ?_
    refine r_move hS hH.kp0 rfl rfl ?_; clear hS; intro a hS
    refine r_move hS hH.kp0 rfl rfl ?_; clear hS; intro a hS
    refine r_nilCheck hS hH.kp0 rfl rfl ?_; clear hS; intro a hS
    refine r_fieldAddr hS hH.kp0 rfl Fc.fo70_3 rfl ?_; clear hS; intro a hS
    refine r_load_sc hS hH (by repeat (first | exact Sub.nil | refine Sub.cons ?_ ?_ | exact In.here | refine In.there ?_)) rfl (by repeat (first | exact In.here | refine In.there ?_)) Fc.sc3 (by rfl) rfl ?_; clear hS; intro a hS
    refine r_move hS hH.kp0 rfl rfl ?_; clear hS; intro a hS
    refine r_maxN (m := sent) (k := base + m) hS hH.kp0 rfl rfl rfl ?_; clear hS; intro a hS
    refine r_nilCheck hS hH.kp0 rfl rfl ?_; clear hS; intro a hS
    refine r_fieldAddr hS hH.kp0 rfl Fc.fo70_3 rfl ?_; clear hS; intro a hS
    refine r_store1 hS hH rfl rfl rfl (by repeat (first | exact .here | apply In.there | apply Put.there | apply Del.there)) (by repeat (first | exact Sub.nil | refine Sub.cons ?_ ?_ | exact In.here | refine In.there ?_)) Fc.sz3 (of_decide_eq_true rfl) (by first | exact .inr (by assumption) | exact .inl (by rw [hSS]; first | exact .inl rfl | exact .inr (.inl rfl) | exact .inr (.inr rfl))) ?_
    clear hH; intro w hH
    refine Sq.nil ?_
    refine then_n ?_
    refine c_seq ?_
    refine reg_plain w0 (SS) ?_
    refine r_load_row hS hH (by repeat (first | exact Sub.nil | refine Sub.cons ?_ ?_ | exact In.here | refine In.there ?_)) rfl (by repeat (first | exact In.here | refine In.there ?_)) Fc.ag30 (by rfl) rfl ?_; clear hS; intro a hS
    refine r_store_row hS hH rfl rfl (by repeat (first | exact .here | apply In.there | apply Put.there | apply Del.there)) (by repeat (first | exact Sub.nil | refine Sub.cons ?_ ?_ | exact In.here | refine In.there ?_)) Fc.sz30 (by first | exact hcells_one _ | exact of_decide_eq_true rfl) (by rfl) (by first | exact .inr (by assumption) | exact .inl (by rw [hSS]; first | exact .inl rfl | exact .inr (.inl rfl) | exact .inr (.inr rfl))) ?_
    clear hH; intro w hH
    refine r_assign hS hH.kp0 rfl rfl ?_; clear hS; intro a hS
    refine Sq.nil ?_
    refine then_n ?_
    refine wp_ret ?_
    have nd := hH.nd
    simp only [List.map_cons, List.map_nil, List.nodup_cons, List.mem_cons, List.not_mem_nil, or_false, not_or] at nd
    refine leave (.inl rfl) hS rfl (Res.cell rfl (hH.get (by repeat (first | exact In.here | refine In.there ?_))) Fc.ag30 (by rfl) rfl (Res.tmp rfl Res.nil)) ⟨cb, cap, cl, v2, ?_, hcb0, hH.get (b := cb) (by repeat (first | exact In.here | refine In.there ?_)), hBc, ?_, hg2.go hH.mod (fun z hz hs => by rw [hSS] at hs; rcases hs with e | e | e; exact hobn z hz e; exact hb6n z hz e; exact hb11n z hz e), hnew, nd.2.1.2, hcbn, hobn, hM0.trans hH.mod (fun z hz hs => by rw [hSS] at hs; rcases hs with e | e | e; exact .inl e; omega; omega)⟩
    · rfl
    · exact hH.get (b := ob) (by repeat (first | exact In.here | refine In.there ?_))
  · rw [show (((base + m : Nat) : Int) == ((base + kl : Nat) : Int)) = true from beq_iff_eq.2 (by omega)] at hS
    have hfi : decide (base + m = base + kl) = true := decide_eq_true hq1
    have hei : (if base + m = base + kl then 2 else en) = 2 := if_pos hq1
    rw [hfi, hei]
    subst hq2
    refine Sq.guardYes hS rfl rfl rfl ?_
    refine r_move hS hH.kp0 rfl rfl ?_; clear hS; intro a hS
    refine Sq.guardYes hS rfl rfl rfl ?_
    refine r_nilCheck hS hH.kp0 rfl rfl ?_; clear hS; intro a hS
    refine Sq.guardYes hS rfl rfl rfl ?_
    refine r_fieldAddr hS hH.kp0 rfl Fc.fo70_6 rfl ?_; clear hS; intro a hS
    refine Sq.guardYes hS rfl rfl rfl ?_
    refine r_load_sc hS hH (by repeat (first | exact Sub.nil | refine Sub.cons ?_ ?_ | exact In.here | refine In.there ?_)) rfl (by repeat (first | exact In.here | refine In.there ?_)) Fc.sc3 (by rfl) rfl ?_; clear hS; intro a hS
    refine Sq.guardYes hS rfl rfl rfl ?_
    refine r_eql hS hH.kp0 rfl rfl rfl ?_; clear hS; intro a hS
    refine Sq.guardYes hS rfl rfl rfl ?_
    refine r_move hS hH.kp0 rfl rfl ?_; clear hS; intro a hS
    refine Sq.guardNo hS rfl rfl rfl hH.kp0 rfl ?_; clear hS; intro a hS
    refine Sq.guardNo hS rfl rfl rfl hH.kp0 rfl ?_; clear hS; intro a hS
    refine Sq.guardNo hS rfl rfl rfl hH.kp0 rfl ?_; clear hS; intro a hS
    refine Sq.guardNo hS rfl rfl rfl hH.kp0 rfl ?_; clear hS; intro a hS
    refine Sq.guardNo hS rfl rfl rfl hH.kp0 rfl ?_; clear hS; intro a hS
    refine Sq.guardYes hS rfl rfl rfl ?_
    refine r_pickT hS hH.kp0 rfl rfl rfl rfl ?_; clear hS; intro a hS
    refine r_pickT hS hH.kp0 rfl rfl rfl rfl ?_; clear hS; intro a hS
    refine Sq.nil ?_
    refine then_n ?_
    refine c_condT hS rfl rfl ?_
    refine reg_plain w0 (SS) ?_
    refine r_move hS hH.kp0 rfl rfl ?_; clear hS; intro a hS
    refine r_fieldAddr hS hH.kp0 rfl Fc.fo30_2 rfl ?_; clear hS; intro a hS
    refine r_store1 hS hH rfl rfl rfl (by repeat (first | exact .here | apply In.there | apply Put.there | apply Del.there)) (by repeat (first | exact Sub.nil | refine Sub.cons ?_ ?_ | exact In.here | refine In.there ?_)) Fc.sz4 (of_decide_eq_true rfl) (by first | exact .inr (by assumption) | exact .inl (by rw [hSS]; first | exact .inl rfl | exact .inr (.inl rfl) | exact .inr (.inr rfl))) ?_
    clear hH; intro w hH
    refine r_nilCheck hS hH.kp0 rfl rfl ?_; clear hS; intro a hS
    refine r_fieldAddr hS hH.kp0 rfl Fc.fo70_6 rfl ?_; clear hS; intro a hS
    refine r_store1 hS hH rfl rfl rfl (by repeat (first | exact .here | apply In.there | apply Put.there | apply Del.there)) (by repeat (first | exact Sub.nil | refine Sub.cons ?_ ?_ | exact In.here | refine In.there ?_)) Fc.sz3 (of_decide_eq_true rfl) (by first | exact .inr (by assumption) | exact .inl (by rw [hSS]; first | exact .inl rfl | exact .inr (.inl rfl) | exact .inr (.inr rfl))) ?_
    clear hH; intro w hH
    refine Sq.nil ?_
    refine then_n ?_
    refine c_seq ?_
    refine reg_plain w0 (SS) ?_
    refine r_move hS hH.kp0 rfl rfl ?_; clear hS; intro a hS
    refine r_move hS hH.kp0 rfl rfl ?_; clear hS; intro a hS
    refine r_nilCheck hS hH.kp0 rfl rfl ?_; clear hS; intro a hS
    refine r_fieldAddr hS hH.kp0 rfl Fc.fo70_3 rfl ?_; clear hS; intro a hS
    refine r_load_sc hS hH (by repeat (first | exact Sub.nil | refine Sub.cons ?_ ?_ | exact In.here | refine In.there ?_)) rfl (by repeat (first | exact In.here | refine In.there ?_)) Fc.sc3 (by rfl) rfl ?_; clear hS; intro a hS
    refine r_move hS hH.kp0 rfl rfl ?_; clear hS; intro a hS
    refine r_maxN (m := sent) (k := base + m) hS hH.kp0 rfl rfl rfl ?_; clear hS; intro a hS
    refine r_nilCheck hS hH.kp0 rfl rfl ?_; clear hS; intro a hS
    refine r_fieldAddr hS hH.kp0 rfl Fc.fo70_3 rfl ?_; clear hS; intro a hS
    refine r_store1 hS hH rfl rfl rfl (by repeat (first | exact .here | apply In.there | apply Put.there | apply Del.there)) (by repeat (first | exact Sub.nil | refine Sub.cons ?_ ?_ | exact In.here | refine In.there ?_)) Fc.sz3 (of_decide_eq_true rfl) (by first | exact .inr (by assumption) | exact .inl (by rw [hSS]; first | exact .inl rfl | exact .inr (.inl rfl) | exact .inr (.inr rfl))) ?_
    clear hH; intro w hH
    refine Sq.nil ?_
    refine then_n ?_
    refine c_seq ?_
    refine reg_plain w0 (SS) ?_
    refine r_load_row hS hH (by repeat (first | exact Sub.nil | refine Sub.cons ?_ ?_ | exact In.here | refine In.there ?_)) rfl (by repeat (first | exact In.here | refine In.there ?_)) Fc.ag30 (by rfl) rfl ?_; clear hS; intro a hS
    refine r_store_row hS hH rfl rfl (by repeat (first | exact .here | apply In.there | apply Put.there | apply Del.there)) (by repeat (first | exact Sub.nil | refine Sub.cons ?_ ?_ | exact In.here | refine In.there ?_)) Fc.sz30 (by first | exact hcells_one _ | exact of_decide_eq_true rfl) (by rfl) (by first | exact .inr (by assumption) | exact .inl (by rw [hSS]; first | exact .inl rfl | exact .inr (.inl rfl) | exact .inr (.inr rfl))) ?_
    clear hH; intro w hH
    refine r_assign hS hH.kp0 rfl rfl ?_; clear hS; intro a hS
    refine Sq.nil ?_
    refine then_n ?_
    refine wp_ret ?_
    have nd := hH.nd
    simp only [List.map_cons, List.map_nil, List.nodup_cons, List.mem_cons, List.not_mem_nil, or_false, not_or] at nd
    refine leave (.inl rfl) hS rfl (Res.cell rfl (hH.get (by repeat (first | exact In.here | refine In.there ?_))) Fc.ag30 (by rfl) rfl (Res.tmp rfl Res.nil)) ⟨cb, cap, cl, v2, ?_, hcb0, hH.get (b := cb) (by repeat (first | exact In.here | refine In.there ?_)), hBc, ?_, hg2.go hH.mod (fun z hz hs => by rw [hSS] at hs; rcases hs with e | e | e; exact hobn z hz e; exact hb6n z hz e; exact hb11n z hz e), hnew, nd.2.1.2, hcbn, hobn, hM0.trans hH.mod (fun z hz hs => by rw [hSS] at hs; rcases hs with e | e | e; exact .inl e; omega; omega)⟩
    · rfl
    · exact hH.get (b := ob) (by repeat (first | exact In.here | refine In.there ?_))
  · rw [show (((base + m : Nat) : Int) == ((base + kl : Nat) : Int)) = true from beq_iff_eq.2 (by omega)] at hS
    have hfi : decide (base + m = base + kl) = true := decide_eq_true hq1
    have hei : (if base + m = base + kl then 2 else en) = 2 := if_pos hq1
    rw [hfi, hei]
    subst hq2
    refine Sq.guardYes hS rfl rfl rfl ?_
    refine r_move hS hH.kp0 rfl rfl ?_; clear hS; intro a hS
    refine Sq.guardYes hS rfl rfl rfl ?_
    refine r_nilCheck hS hH.kp0 rfl rfl ?_; clear hS; intro a hS
    refine Sq.guardYes hS rfl rfl rfl ?_
    refine r_fieldAddr hS hH.kp0 rfl Fc.fo70_6 rfl ?_; clear hS; intro a hS
    refine Sq.guardYes hS rfl rfl rfl ?_
    refine r_load_sc hS hH (by repeat (first | exact Sub.nil | refine Sub.cons ?_ ?_ | exact In.here | refine In.there ?_)) rfl (by repeat (first | exact In.here | refine In.there ?_)) Fc.sc3 (by rfl) rfl ?_; clear hS; intro a hS
    refine Sq.guardYes hS rfl rfl rfl ?_
    refine r_eql hS hH.kp0 rfl rfl rfl ?_; clear hS; intro a hS
    refine Sq.guardYes hS rfl rfl rfl ?_
    refine r_move hS hH.kp0 rfl rfl ?_; clear hS; intro a hS
    refine Sq.guardYes hS rfl rfl rfl ?_
    refine r_move hS hH.kp0 rfl rfl ?_; clear hS; intro a hS
    refine Sq.guardYes hS rfl rfl rfl ?_
    refine r_nilCheck hS hH.kp0 rfl rfl ?_; clear hS; intro a hS
    refine Sq.guardYes hS rfl rfl rfl ?_
    refine r_fieldAddr hS hH.kp0 rfl Fc.fo70_6 rfl ?_; clear hS; intro a hS
    refine Sq.guardYes hS rfl rfl rfl ?_
    refine r_load_sc hS hH (by repeat (first | exact Sub.nil | refine Sub.cons ?_ ?_ | exact In.here | refine In.there ?_)) rfl (by repeat (first | exact In.here | refine In.there ?_)) Fc.sc3 (by rfl) rfl ?_; clear hS; intro a hS
    refine Sq.guardYes hS rfl rfl rfl ?_
    refine r_eql hS hH.kp0 rfl rfl rfl ?_; clear hS; intro a hS
    refine Sq.guardYes hS rfl rfl rfl ?_
    refine r_pickF hS hH.kp0 rfl rfl rfl rfl ?_; clear hS; intro a hS
    refine r_pickT hS hH.kp0 rfl rfl rfl rfl ?_; clear hS; intro a hS
    refine Sq.nil ?_
    refine then_n ?_
    refine c_condT hS rfl rfl ?_
    refine reg_plain w0 (SS) ?_
    refine r_move hS hH.kp0 rfl rfl ?_; clear hS; intro a hS
    refine r_fieldAddr hS hH.kp0 rfl Fc.fo30_2 rfl ?_; clear hS; intro a hS
    refine r_store1 hS hH rfl rfl rfl (by repeat (first | exact .here | apply In.there | apply Put.there | apply Del.there)) (by repeat (first | exact Sub.nil | refine Sub.cons ?_ ?_ | exact In.here | refine In.there ?_)) Fc.sz4 (of_decide_eq_true rfl) (by first | exact .inr (by assumption) | exact .inl (by rw [hSS]; first | exact .inl rfl | exact .inr (.inl rfl) | exact .inr (.inr rfl))) ?_
    clear hH; intro w hH
    refine r_nilCheck hS hH.kp0 rfl rfl ?_; clear hS; intro a hS
    refine r_fieldAddr hS hH.kp0 rfl Fc.fo70_6 rfl ?_; clear hS; intro a hS
    refine r_store1 hS hH rfl rfl rfl (by repeat (first | exact .here | apply In.there | apply Put.there | apply Del.there)) (by repeat (first | exact Sub.nil | refine Sub.cons ?_ ?_ | exact In.here | refine In.there ?_)) Fc.sz3 (of_decide_eq_true rfl) (by first | exact .inr (by assumption) | exact .inl (by rw [hSS]; first | exact .inl rfl | exact .inr (.inl rfl) | exact .inr (.inr rfl))) ?_
    clear hH; intro w hH
    refine Sq.nil ?_
    refine then_n ?_
    refine c_seq ?_
    refine reg_plain w0 (SS) ?_
    refine r_move hS hH.kp0 rfl rfl ?_; clear hS; intro a hS
    refine r_move hS hH.kp0 rfl rfl ?_; clear hS; intro a hS
    refine r_nilCheck hS hH.kp0 rfl rfl ?_; clear hS; intro a hS
    refine r_fieldAddr hS hH.kp0 rfl Fc.fo70_3 rfl ?_; clear hS; intro a hS
    refine r_load_sc hS hH (by repeat (first | exact Sub.nil | refine Sub.cons ?_ ?_ | exact In.here | refine In.there ?_)) rfl (by repeat (first | exact In.here | refine In.there ?_)) Fc.sc3 (by rfl) rfl ?_; clear hS; intro a hS
    refine r_move hS hH.kp0 rfl rfl ?_; clear hS; intro a hS
    refine r_maxN (m := sent) (k := base + m) hS hH.kp0 rfl rfl rfl ?_; clear hS; intro a hS
    refine r_nilCheck hS hH.kp0 rfl rfl ?_; clear hS; intro a hS
    refine r_fieldAddr hS hH.kp0 rfl Fc.fo70_3 rfl ?_; clear hS; intro a hS
    refine r_store1 hS hH rfl rfl rfl (by repeat (first | exact .here | apply In.there | apply Put.there | apply Del.there)) (by repeat (first | exact Sub.nil | refine Sub.cons ?_ ?_ | exact In.here | refine In.there ?_)) Fc.sz3 (of_decide_eq_true rfl) (by first | exact .inr (by assumption) | exact .inl (by rw [hSS]; first | exact .inl rfl | exact .inr (.inl rfl) | exact .inr (.inr rfl))) ?_
    clear hH; intro w hH
    refine Sq.nil ?_
    refine then_n ?_
    refine c_seq ?_
    refine reg_plain w0 (SS) ?_
    refine r_load_row hS hH (by repeat (first | exact Sub.nil | refine Sub.cons ?_ ?_ | exact In.here | refine In.there ?_)) rfl (by repeat (first | exact In.here | refine In.there ?_)) Fc.ag30 (by rfl) rfl ?_; clear hS; intro a hS
    refine r_store_row hS hH rfl rfl (by repeat (first | exact .here | apply In.there | apply Put.there | apply Del.there)) (by repeat (first | exact Sub.nil | refine Sub.cons ?_ ?_ | exact In.here | refine In.there ?_)) Fc.sz30 (by first | exact hcells_one _ | exact of_decide_eq_true rfl) (by rfl) (by first | exact .inr (by assumption) | exact .inl (by rw [hSS]; first | exact .inl rfl | exact .inr (.inl rfl) | exact .inr (.inr rfl))) ?_
    clear hH; intro w hH
    refine r_assign hS hH.kp0 rfl rfl ?_; clear hS; intro a hS
    refine Sq.nil ?_
    refine then_n ?_
    refine wp_ret ?_
    have nd := hH.nd
    simp only [List.map_cons, List.map_nil, List.nodup_cons, List.mem_cons, List.not_mem_nil, or_false, not_or] at nd
    refine leave (.inl rfl) hS rfl (Res.cell rfl (hH.get (by repeat (first | exact In.here | refine In.there ?_))) Fc.ag30 (by rfl) rfl (Res.tmp rfl Res.nil)) ⟨cb, cap, cl, v2, ?_, hcb0, hH.get (b := cb) (by repeat (first | exact In.here | refine In.there ?_)), hBc, ?_, hg2.go hH.mod (fun z hz hs => by rw [hSS] at hs; rcases hs with e | e | e; exact hobn z hz e; exact hb6n z hz e; exact hb11n z hz e), hnew, nd.2.1.2, hcbn, hobn, hM0.trans hH.mod (fun z hz hs => by rw [hSS] at hs; rcases hs with e | e | e; exact .inl e; omega; omega)⟩
    · rfl
    · exact hH.get (b := ob) (by repeat (first | exact In.here | refine In.there ?_))

end Go.Proofs.Ytkhcbllphdhbdaa

namespace Go.Proofs.Ytkhcbllphdhbdaa
open Go.Sym

theorem Fc.fn35 : isFn Try.prog 35 = true := by kernel_rfl
theorem Fc.fn36 : isFn Try.prog 36 = true := by kernel_rfl
theorem Fc.fn37 : isFn Try.prog 37 = true := by kernel_rfl
theorem Fc.fn39 : isFn Try.prog 39 = true := by kernel_rfl
theorem Fc.fo30_0 : foff Try.prog 30 0 = some 0 := by kernel_rfl
theorem Fc.fo30_1 : foff Try.prog 30 1 = some 1 := by kernel_rfl
theorem Fc.fo70_5 : foff Try.prog 70 5 = some 5 := by kernel_rfl
set_option maxRecDepth 100000 in
set_option maxHeartbeats 400000 in
theorem wrong_c (ob gb hb room base sent kl kc : Nat) (q : Option Addr) (en : Int) (off m pc : Nat) (pq : Option Addr) (fi : Bool) (hbk : base + kl ≤ 1099511627776) (hs : off + m ≤ sent) (hsn : sent ≤ 1099511627776) (hfin : fi = true → off + m = base + kl ∧ en ≠ 0 ∧ en ≠ 1) (w0 : World) (hz : w0.heap[ob]? = some (.cells ([.int .i64 (room : Int), .int .i64 (base : Int), .slice q kl kc, .int .i64 (sent : Int), .pointer (some ⟨gb, 0, none⟩), .pointer (some ⟨hb, 0, none⟩), .int .i64 en] : List Value).toArray 70 (0, 0))) : Calls Try.prog 35 #[.pointer (some ⟨ob, 0, none⟩), .agg #[.int .i64 (off : Int), .slice pq m pc, .bool fi]] w0 fun e w' => e = .returned (.int .i64 0) ∧ Ext w0 w' := by
  refine enter Try.func35 rfl rfl rfl ?_
  intro a hS
  have hH := Hp.start w0 (Nobody)
  replace hH := hH.know hz (by intro p hp; simp at hp)
  refine c_seq ?_
  refine reg_plain w0 (Nobody) ?_
  refine r_box hS hH (by repeat (first | exact Sub.nil | refine Sub.cons ?_ ?_ | exact In.here | refine In.there ?_)) rfl rfl rfl ?_
  clear hS hH; intro a w b3 hb3 hwb3 hS hH
  refine r_assign hS hH.kp0 rfl rfl ?_; clear hS; intro a hS
  refine Sq.nil ?_
  refine then_n ?_
  refine c_seq ?_
  refine wp_block ?_
  refine c_seq ?_
  refine reg_plain w0 (Nobody) ?_
  refine r_move hS hH.kp0 rfl rfl ?_; clear hS; intro a hS
  refine r_call (l := [.tmp 6]) hS rfl rfl Fc.fn28 rfl ?_
  refine Calls.mono (none_c ob gb hb room base sent kl kc q en _ (hH.get (b := ob) (by repeat (first | exact In.here | refine In.there ?_)))) ?_
  rintro e w1 ⟨rfl, hE⟩
  replace hH := hH.ext hE
  refine ⟨_, rfl, hH.kp0, ?_⟩
  clear hS; intro a hS
  refine r_assign hS hH.kp0 rfl rfl ?_; clear hS; intro a hS
  refine Sq.nil ?_
  refine then_n ?_
  refine c_condF hS rfl rfl ?_
  refine c_seq ?_
  refine reg_draw [(true, 0, []), (true, 1, []), (true, 2, []), (true, 3, []), (true, 4, []), (true, 5, []), (true, 6, []), (true, 7, []), (true, 8, []), (true, 9, []), (true, 10, []), (true, 11, []), (true, 12, []), (true, 13, []), (true, 14, []), (true, 15, []), (true, 16, [])] Fc.mixed (by kernel_rfl) (by kernel_rfl) (by kernel_rfl) (by kernel_rfl) (by kernel_rfl) (by repeat (first | with_reducible exact steady_body | with_reducible exact steady_bodyQ | with_reducible exact steady_round | with_reducible apply steady_block | with_reducible apply steady_then | with_reducible apply steady_scope | exact steady_body)) hH ?_
  replace hH := hH.drew
  refine r_fieldAddr hS trivial rfl Fc.fo30_0 rfl ?_; clear hS; intro a hS
  refine r_load_scS hS rfl (by repeat (first | exact In.here | refine In.there ?_)) Fc.sc3 (by rfl) rfl ?_; clear hS; intro a hS
  refine r_lss hS trivial rfl rfl rfl ?_; clear hS; intro a hS
  refine r_move hS trivial rfl rfl ?_; clear hS; intro a hS
  refine Sq.guardYes hS rfl rfl (DF (by omega)) ?_
  refine r_fieldAddr hS trivial rfl Fc.fo30_0 rfl ?_; clear hS; intro a hS
  refine Sq.guardYes hS rfl rfl (DF (by omega)) ?_
  refine r_load_scS hS rfl (by repeat (first | exact In.here | refine In.there ?_)) Fc.sc3 (by rfl) rfl ?_; clear hS; intro a hS
  refine Sq.guardYes hS rfl rfl (DF (by omega)) ?_
  refine r_move hS trivial rfl rfl ?_; clear hS; intro a hS
  refine Sq.guardYes hS rfl rfl (DF (by omega)) ?_
  refine r_nilCheck hS trivial rfl rfl ?_; clear hS; intro a hS
  refine Sq.guardYes hS rfl rfl (DF (by omega)) ?_
  refine r_fieldAddr hS trivial rfl Fc.fo70_3 rfl ?_; clear hS; intro a hS
  refine Sq.guardYes hS rfl rfl (DF (by omega)) ?_
  refine r_load_scS hS rfl (by repeat (first | exact In.here | refine In.there ?_)) Fc.sc3 (by rfl) rfl ?_; clear hS; intro a hS
  refine Sq.guardYes hS rfl rfl (DF (by omega)) ?_
  refine r_fieldAddr hS trivial rfl Fc.fo30_1 rfl ?_; clear hS; intro a hS
  refine Sq.guardYes hS rfl rfl (DF (by omega)) ?_
  refine r_load_scS hS rfl (by repeat (first | exact In.here | refine In.there ?_)) Fc.sc22 (by rfl) rfl ?_; clear hS; intro a hS
  refine Sq.guardYes hS rfl rfl (DF (by omega)) ?_
  refine r_lenSl hS trivial rfl Fc.isSlice22 rfl ?_; clear hS; intro a hS
  refine Sq.guardYes hS rfl rfl (DF (by omega)) ?_
  (first | refine r_sub hS trivial rfl rfl rfl (by omega) ?_ | refine r_subw hS trivial rfl rfl rfl ?_)
  clear hS; intro a hS
  refine Sq.guardYes hS rfl rfl (DF (by omega)) ?_
  refine r_gtr hS trivial rfl rfl rfl ?_; clear hS; intro a hS
  refine r_pickF hS trivial rfl (DF (by omega)) rfl rfl ?_; clear hS; intro a hS
  refine r_assign hS trivial rfl rfl ?_; clear hS; intro a hS
  refine Sq.nil ?_
  refine then_n ?_
  refine c_condF hS rfl (DF (by omega)) ?_
  refine c_seq ?_
  refine reg_draw [(true, 0, []), (true, 1, []), (true, 2, []), (true, 3, []), (true, 4, []), (true, 5, []), (true, 6, []), (true, 7, []), (true, 8, []), (true, 9, []), (false, 10, []), (true, 11, []), (true, 12, []), (true, 13, []), (true, 14, []), (true, 15, []), (true, 16, []), (true, 17, []), (true, 18, []), (true, 19, []), (true, 20, []), (true, 21, []), (true, 22, []), (true, 23, []), (true, 24, []), (true, 25, []), (true, 26, []), (true, 27, [])] Fc.mixed (by kernel_rfl) (by kernel_rfl) (by kernel_rfl) (by kernel_rfl) (by kernel_rfl) (by repeat (first | with_reducible exact steady_body | with_reducible exact steady_bodyQ | with_reducible exact steady_round | with_reducible apply steady_block | with_reducible apply steady_then | with_reducible apply steady_scope | exact steady_body)) hH ?_
  replace hH := hH.drew
  refine r_fieldAddr hS trivial rfl Fc.fo30_2 rfl ?_; clear hS; intro a hS
  refine r_load_scS hS rfl (by repeat (first | exact In.here | refine In.there ?_)) Fc.sc4 (by rfl) rfl ?_; clear hS; intro a hS
  refine r_move hS trivial rfl rfl ?_; clear hS; intro a hS
  rcases (by cases fi <;> simp : fi = false ∨ fi = true) with hfi | hfi
  · subst hfi
    refine Sq.guardNo hS rfl rfl rfl trivial rfl ?_; clear hS; intro a hS
    refine Sq.guardNo hS rfl rfl rfl trivial rfl ?_; clear hS; intro a hS
    refine Sq.guardNo hS rfl rfl rfl trivial rfl ?_; clear hS; intro a hS
    refine Sq.guardNo hS rfl rfl rfl trivial rfl ?_; clear hS; intro a hS
    refine Sq.guardNo hS rfl rfl rfl trivial rfl ?_; clear hS; intro a hS
    refine Sq.guardNo hS rfl rfl rfl trivial rfl ?_; clear hS; intro a hS
    refine Sq.guardNo hS rfl rfl rfl trivial rfl ?_; clear hS; intro a hS
    refine Sq.guardNo hS rfl rfl rfl (hH.kp (by repeat (first | exact Sub.nil | refine Sub.cons ?_ ?_ | exact In.here | refine In.there ?_))) rfl ?_; clear hS; intro a hS
    refine Sq.guardNo hS rfl rfl rfl trivial rfl ?_; clear hS; intro a hS
    refine Sq.guardNo hS rfl rfl rfl trivial rfl ?_; clear hS; intro a hS
    refine Sq.guardOff hS rfl rfl trivial rfl ?_; clear hS; intro a hS
    refine Sq.guardOff hS rfl rfl trivial rfl ?_; clear hS; intro a hS
    refine Sq.guardOff hS rfl rfl trivial rfl ?_; clear hS; intro a hS
    refine Sq.guardOff hS rfl rfl trivial rfl ?_; clear hS; intro a hS
    refine Sq.guardOff hS rfl rfl trivial rfl ?_; clear hS; intro a hS
    refine Sq.guardNo hS rfl rfl rfl trivial rfl ?_; clear hS; intro a hS
    refine Sq.guardNo hS rfl rfl rfl trivial rfl ?_; clear hS; intro a hS
    refine Sq.guardOff hS rfl rfl trivial rfl ?_; clear hS; intro a hS
    refine Sq.guardOff hS rfl rfl trivial rfl ?_; clear hS; intro a hS
    refine Sq.guardOff hS rfl rfl trivial rfl ?_; clear hS; intro a hS
    refine Sq.guardOff hS rfl rfl trivial rfl ?_; clear hS; intro a hS
    refine Sq.guardOff hS rfl rfl trivial rfl ?_; clear hS; intro a hS
    refine Sq.guardNo hS rfl rfl rfl trivial rfl ?_; clear hS; intro a hS
    refine r_pickF hS trivial rfl rfl rfl rfl ?_; clear hS; intro a hS
    refine r_assign hS trivial rfl rfl ?_; clear hS; intro a hS
    refine Sq.nil ?_
    refine then_n ?_
    refine c_condF hS rfl rfl ?_
    refine wp_skip ?_
    refine blk_n ?_
    refine then_n ?_
    refine c_seq ?_
    refine reg_plain w0 (Nobody) ?_
    refine r_assign hS hH.kp0 rfl rfl ?_; clear hS; intro a hS
    refine Sq.nil ?_
    refine then_n ?_
    refine wp_ret ?_
    exact leave (.inl rfl) hS rfl (Res.tmp rfl Res.nil) ⟨rfl, hH.mod⟩
  · subst hfi
    obtain ⟨hf1, hf2, hf3⟩ := hfin rfl
    refine Sq.guardYes hS rfl rfl rfl ?_
    refine r_fieldAddr hS trivial rfl Fc.fo30_0 rfl ?_; clear hS; intro a hS
    refine Sq.guardYes hS rfl rfl rfl ?_
    refine r_load_scS hS rfl (by repeat (first | exact In.here | refine In.there ?_)) Fc.sc3 (by rfl) rfl ?_; clear hS; intro a hS
    refine Sq.guardYes hS rfl rfl rfl ?_
    refine r_fieldAddr hS trivial rfl Fc.fo30_1 rfl ?_; clear hS; intro a hS
    refine Sq.guardYes hS rfl rfl rfl ?_
    refine r_load_scS hS rfl (by repeat (first | exact In.here | refine In.there ?_)) Fc.sc22 (by rfl) rfl ?_; clear hS; intro a hS
    refine Sq.guardYes hS rfl rfl rfl ?_
    refine r_lenSl hS trivial rfl Fc.isSlice22 rfl ?_; clear hS; intro a hS
    refine Sq.guardYes hS rfl rfl rfl ?_
    (first | refine r_add hS trivial rfl rfl rfl (by omega) ?_ | refine r_addw hS trivial rfl rfl rfl ?_)
    clear hS; intro a hS
    refine Sq.guardYes hS rfl rfl rfl ?_
    refine r_move hS trivial rfl rfl ?_; clear hS; intro a hS
    refine Sq.guardYes hS rfl rfl rfl ?_
    refine r_call (l := [.tmp 35]) hS rfl rfl Fc.fn32 rfl ?_
    refine Calls.mono (written_c ob gb hb room base sent kl kc q en hbk _ (hH.get (b := ob) (by repeat (first | exact In.here | refine In.there ?_)))) ?_
    rintro e w1 ⟨rfl, hE⟩
    replace hH := hH.ext hE
    refine ⟨_, rfl, hH.kp (by repeat (first | exact Sub.nil | refine Sub.cons ?_ ?_ | exact In.here | refine In.there ?_)), ?_⟩
    clear hS; intro a hS
    refine Sq.guardYes hS rfl rfl rfl ?_
    refine r_neq hS trivial rfl rfl rfl ?_; clear hS; intro a hS
    refine Sq.guardYes hS rfl rfl rfl ?_
    refine r_move hS trivial rfl rfl ?_; clear hS; intro a hS
    refine Sq.guardYes hS rfl rfl (bne_eq_false_iff_eq.2 (by omega)) ?_
    refine r_move hS trivial rfl rfl ?_; clear hS; intro a hS
    refine Sq.guardYes hS rfl rfl (bne_eq_false_iff_eq.2 (by omega)) ?_
    refine r_nilCheck hS trivial rfl rfl ?_; clear hS; intro a hS
    refine Sq.guardYes hS rfl rfl (bne_eq_false_iff_eq.2 (by omega)) ?_
    refine r_fieldAddr hS trivial rfl Fc.fo70_6 rfl ?_; clear hS; intro a hS
    refine Sq.guardYes hS rfl rfl (bne_eq_false_iff_eq.2 (by omega)) ?_
    refine r_load_scS hS rfl (by repeat (first | exact In.here | refine In.there ?_)) Fc.sc3 (by rfl) rfl ?_; clear hS; intro a hS
    refine Sq.guardYes hS rfl rfl (bne_eq_false_iff_eq.2 (by omega)) ?_
    refine r_eql hS trivial rfl rfl rfl ?_; clear hS; intro a hS
    refine Sq.guardYes hS rfl rfl rfl ?_
    refine r_pickF hS trivial rfl (bne_eq_false_iff_eq.2 (by omega)) rfl rfl ?_; clear hS; intro a hS
    refine Sq.guardYes hS rfl rfl rfl ?_
    refine r_move hS trivial rfl rfl ?_; clear hS; intro a hS
    refine Sq.guardYes hS rfl rfl (beq_false_of_ne hf2) ?_
    refine r_move hS trivial rfl rfl ?_; clear hS; intro a hS
    refine Sq.guardYes hS rfl rfl (beq_false_of_ne hf2) ?_
    refine r_nilCheck hS trivial rfl rfl ?_; clear hS; intro a hS
    refine Sq.guardYes hS rfl rfl (beq_false_of_ne hf2) ?_
    refine r_fieldAddr hS trivial rfl Fc.fo70_6 rfl ?_; clear hS; intro a hS
    refine Sq.guardYes hS rfl rfl (beq_false_of_ne hf2) ?_
    refine r_load_scS hS rfl (by repeat (first | exact In.here | refine In.there ?_)) Fc.sc3 (by rfl) rfl ?_; clear hS; intro a hS
    refine Sq.guardYes hS rfl rfl (beq_false_of_ne hf2) ?_
    refine r_eql hS trivial rfl rfl rfl ?_; clear hS; intro a hS
    refine Sq.guardYes hS rfl rfl rfl ?_
    refine r_pickF hS trivial rfl (beq_false_of_ne hf2) rfl rfl ?_; clear hS; intro a hS
    refine r_pickT hS trivial rfl rfl rfl rfl ?_; clear hS; intro a hS
    refine r_assign hS trivial rfl rfl ?_; clear hS; intro a hS
    refine Sq.nil ?_
    refine then_n ?_
    refine c_condF hS rfl (beq_false_of_ne hf3) ?_
    refine wp_skip ?_
    refine blk_n ?_
    refine then_n ?_
    refine c_seq ?_
    refine reg_plain w0 (Nobody) ?_
    refine r_assign hS hH.kp0 rfl rfl ?_; clear hS; intro a hS
    refine Sq.nil ?_
    refine then_n ?_
    refine wp_ret ?_
    exact leave (.inl rfl) hS rfl (Res.tmp rfl Res.nil) ⟨rfl, hH.mod⟩

set_option maxRecDepth 100000 in
set_option maxHeartbeats 400000 in
theorem Finish_c (ob gb hb room base sent kl kc : Nat) (q : Option Addr) (w0 : World) (hz : w0.heap[ob]? = some (.cells ([.int .i64 (room : Int), .int .i64 (base : Int), .slice q kl kc, .int .i64 (sent : Int), .pointer (some ⟨gb, 0, none⟩), .pointer (some ⟨hb, 0, none⟩), .int .i64 0] : List Value).toArray 70 (0, 0))) : Calls Try.prog 15 #[.pointer (some ⟨ob, 0, none⟩)] w0 fun e w' => e = .returned (.int .i64 0) ∧ w'.heap[ob]? = some (.cells ([.int .i64 (room : Int), .int .i64 (base : Int), .slice q kl kc, .int .i64 (sent : Int), .pointer (some ⟨gb, 0, none⟩), .pointer (some ⟨hb, 0, none⟩), .int .i64 1] : List Value).toArray 70 (0, 0)) ∧ Mod (· = ob) w0 w' := by
  refine enter Try.func15 rfl rfl rfl ?_
  intro a hS
  have hH := Hp.start w0 ((· = ob))
  replace hH := hH.know hz (by intro p hp; simp at hp)
  refine c_seq ?_
  refine reg_plain w0 ((· = ob)) ?_
  refine r_assign hS hH.kp0 rfl rfl ?_; clear hS; intro a hS
  refine Sq.nil ?_
  refine then_n ?_
  refine c_seq ?_
  refine wp_block ?_
  refine c_seq ?_
  refine reg_plain w0 ((· = ob)) ?_
  refine r_move hS hH.kp0 rfl rfl ?_; clear hS; intro a hS
  refine r_call (l := [.tmp 4]) hS rfl rfl Fc.fn28 rfl ?_
  refine Calls.mono (none_c ob gb hb room base sent kl kc q 0 _ (hH.get (b := ob) (by repeat (first | exact In.here | refine In.there ?_)))) ?_
  rintro e w1 ⟨rfl, hE⟩
  replace hH := hH.ext hE
  refine ⟨_, rfl, hH.kp0, ?_⟩
  clear hS; intro a hS
  refine r_assign hS hH.kp0 rfl rfl ?_; clear hS; intro a hS
  refine Sq.nil ?_
  refine then_n ?_
  refine c_condF hS rfl rfl ?_
  refine c_seq ?_
  refine reg_plain w0 ((· = ob)) ?_
  refine r_move hS hH.kp0 rfl rfl ?_; clear hS; intro a hS
  refine r_nilCheck hS hH.kp0 rfl rfl ?_; clear hS; intro a hS
  refine r_fieldAddr hS hH.kp0 rfl Fc.fo70_6 rfl ?_; clear hS; intro a hS
  refine r_load_sc hS hH (by repeat (first | exact Sub.nil | refine Sub.cons ?_ ?_ | exact In.here | refine In.there ?_)) rfl (by repeat (first | exact In.here | refine In.there ?_)) Fc.sc3 (by rfl) rfl ?_; clear hS; intro a hS
  refine r_neq hS hH.kp0 rfl rfl rfl ?_; clear hS; intro a hS
  refine r_assign hS hH.kp0 rfl rfl ?_; clear hS; intro a hS
  refine Sq.nil ?_
  refine then_n ?_
  refine c_condF hS rfl rfl ?_
  refine wp_skip ?_
  refine blk_n ?_
  refine then_n ?_
  refine c_seq ?_
  refine reg_plain w0 ((· = ob)) ?_
  refine r_move hS hH.kp0 rfl rfl ?_; clear hS; intro a hS
  refine r_nilCheck hS hH.kp0 rfl rfl ?_; clear hS; intro a hS
  refine r_fieldAddr hS hH.kp0 rfl Fc.fo70_6 rfl ?_; clear hS; intro a hS
  refine r_store1 hS hH rfl rfl rfl (by repeat (first | exact .here | apply In.there | apply Put.there | apply Del.there)) (by repeat (first | exact Sub.nil | refine Sub.cons ?_ ?_ | exact In.here | refine In.there ?_)) Fc.sz3 (of_decide_eq_true rfl) (.inl rfl) ?_
  clear hH; intro w hH
  refine Sq.nil ?_
  refine then_n ?_
  refine c_seq ?_
  refine reg_plain w0 ((· = ob)) ?_
  refine r_assign hS hH.kp0 rfl rfl ?_; clear hS; intro a hS
  refine Sq.nil ?_
  refine then_n ?_
  refine wp_ret ?_
  exact leave (.inl rfl) hS rfl (Res.tmp rfl Res.nil) ⟨rfl, hH.get (b := ob) (by repeat (first | exact In.here | refine In.there ?_)), hH.mod⟩

set_option maxRecDepth 100000 in
set_option maxHeartbeats 4000000 in
theorem Lost_g (ob gb hb room base sent kl kc : Nat) (q : Option Addr) (en : Int) (off m pc : Nat) (pq : Option Addr) (fi : Bool) (m1 : Nat) (v : Value) (xs1 : List Value) (hm1 : 1 ≤ m) (hbk : base + kl ≤ 1099511627776) (hs : off + m ≤ sent) (hsn : sent ≤ 1099511627776) (hfin : fi = true → off + m = base + kl ∧ en = 2) (w0 : World) (hz : w0.heap[ob]? = some (.cells ([.int .i64 (room : Int), .int .i64 (base : Int), .slice q kl kc, .int .i64 (sent : Int), .pointer (some ⟨gb, 0, none⟩), .pointer (some ⟨hb, 0, none⟩), .int .i64 en] : List Value).toArray 70 (0, 0))) (hvlt : ∀ z, SF gb v z → z < w0.heap.size) (hvo : ∀ z, SF gb v z → z ≠ ob) (hgap : ∀ W, Ext w0 W → Calls Try.prog 37 #[.pointer (some ⟨hb, 0, none⟩), .int .i64 (off : Int)] W fun e w' => e = .returned (.int .i64 (off : Int)) ∧ Ext W w') (hhas : ∀ W (i : Nat), Ext w0 W → off ≤ i → i < off + m → Calls Try.prog 39 #[.pointer (some ⟨hb, 0, none⟩), .int .i64 (i : Int)] W fun e w' => e = .returned (.bool false) ∧ Ext W w') (hadd : ∀ W, Ext w0 W → Calls Try.prog 36 #[.pointer (some ⟨gb, 0, none⟩), .int .i64 (off : Int), .int .i64 ((off + m - 1 : Nat) : Int)] W fun e w' => e = .returned (.int .i64 0) ∧ ∃ v2, SetIn 89 94 w' gb v2 m1 xs1 ∧ SStep W w' gb v v2) : Calls Try.prog 21 #[.pointer (some ⟨ob, 0, none⟩), .agg #[.int .i64 (off : Int), .slice pq m pc, .bool fi]] w0 fun e w' => ∃ v2, e = .returned (.int .i64 0) ∧ w'.heap[ob]? = some (.cells ([.int .i64 (room : Int), .int .i64 (base : Int), .slice q kl kc, .int .i64 (sent : Int), .pointer (some ⟨gb, 0, none⟩), .pointer (some ⟨hb, 0, none⟩), .int .i64 (if fi = true then 3 else en)] : List Value).toArray 70 (0, 0)) ∧ SetIn 89 94 w' gb v2 m1 xs1 ∧ (∀ z, SF gb v2 z → SF gb v z ∨ w0.heap.size ≤ z) ∧ (∀ z, SF gb v2 z → z ≠ ob) ∧ Mod (fun z => z = ob ∨ SF gb v z) w0 w' := by
  refine enter Try.func21 rfl rfl rfl ?_
  intro a hS
  have hH := Hp.start w0 (Nobody)
  replace hH := hH.know hz (by intro p hp; simp at hp)
  obtain ⟨SS, hSS⟩ : ∃ s : Nat → Prop, s = Nobody := ⟨_, rfl⟩
  rw [← hSS] at hH
  have hX : ∀ {w : World}, Mod SS w0 w → Ext w0 w := fun h => by rw [hSS] at h; exact h
  refine c_seq ?_
  refine reg_plain w0 (SS) ?_
  refine r_box hS hH (by repeat (first | exact Sub.nil | refine Sub.cons ?_ ?_ | exact In.here | refine In.there ?_)) rfl rfl rfl ?_
  clear hS hH; intro a w b3 hb3 hwb3 hS hH
  refine r_assign hS hH.kp0 rfl rfl ?_; clear hS; intro a hS
  refine Sq.nil ?_
  refine then_n ?_
  refine c_seq ?_
  refine c_seq ?_
  refine reg_plain w0 (SS) ?_
  refine r_move hS hH.kp0 rfl rfl ?_; clear hS; intro a hS
  refine r_load_row hS hH (by repeat (first | exact Sub.nil | refine Sub.cons ?_ ?_ | exact In.here | refine In.there ?_)) rfl (by repeat (first | exact In.here | refine In.there ?_)) Fc.ag30 (by rfl) rfl ?_; clear hS; intro a hS
  refine r_call (l := [.tmp 8, .tmp 9]) hS rfl rfl Fc.fn35 rfl ?_
  refine Calls.mono (wrong_c ob gb hb room base sent kl kc q en off m pc pq fi hbk hs hsn (fun h => by obtain ⟨h1, h2⟩ := hfin h; omega) _ (hH.get (b := ob) (by repeat (first | exact In.here | refine In.there ?_)))) ?_
  rintro e w1 ⟨rfl, hE⟩
  replace hH := hH.ext hE
  refine ⟨_, rfl, hH.kp0, ?_⟩
  clear hS; intro a hS
  refine r_assign hS hH.kp0 rfl rfl ?_; clear hS; intro a hS
  refine Sq.nil ?_
  refine then_n ?_
  refine c_seq ?_
  refine reg_plain w0 (SS) ?_
  refine r_move hS hH.kp0 rfl rfl ?_; clear hS; intro a hS
  refine r_neq hS hH.kp0 rfl rfl rfl ?_; clear hS; intro a hS
  refine Sq.nil ?_
  refine then_n ?_
  refine c_condF hS rfl rfl ?_
  refine wp_skip ?_
  refine then_n ?_
  refine c_seq ?_
  refine c_seq ?_
  refine reg_plain w0 (SS) ?_
  refine r_fieldAddr hS hH.kp0 rfl Fc.fo30_0 rfl ?_; clear hS; intro a hS
  refine r_load_sc hS hH (by repeat (first | exact Sub.nil | refine Sub.cons ?_ ?_ | exact In.here | refine In.there ?_)) rfl (by repeat (first | exact In.here | refine In.there ?_)) Fc.sc3 (by rfl) rfl ?_; clear hS; intro a hS
  refine r_assign hS hH.kp0 rfl rfl ?_; clear hS; intro a hS
  refine Sq.nil ?_
  refine then_n ?_
  refine wp_block ?_
  refine wp_loop_rounds 2 ?_
  refine rnd ?_
  refine c_seq ?_
  refine c_seq ?_
  refine reg_plain w0 (SS) ?_
  refine r_move hS hH.kp0 rfl rfl ?_; clear hS; intro a hS
  refine r_fieldAddr hS hH.kp0 rfl Fc.fo30_0 rfl ?_; clear hS; intro a hS
  refine r_load_sc hS hH (by repeat (first | exact Sub.nil | refine Sub.cons ?_ ?_ | exact In.here | refine In.there ?_)) rfl (by repeat (first | exact In.here | refine In.there ?_)) Fc.sc3 (by rfl) rfl ?_; clear hS; intro a hS
  refine r_fieldAddr hS hH.kp0 rfl Fc.fo30_1 rfl ?_; clear hS; intro a hS
  refine r_load_sc hS hH (by repeat (first | exact Sub.nil | refine Sub.cons ?_ ?_ | exact In.here | refine In.there ?_)) rfl (by repeat (first | exact In.here | refine In.there ?_)) Fc.sc22 (by rfl) rfl ?_; clear hS; intro a hS
  refine r_lenSl hS hH.kp0 rfl Fc.isSlice22 rfl ?_; clear hS; intro a hS
  refine r_addN0 (m := off) (k := m) hS hH.kp0 rfl rfl (by omega) rfl ?_; clear hS; intro a hS
  refine r_lss hS hH.kp0 rfl rfl rfl ?_; clear hS; intro a hS
  refine Sq.nil ?_
  refine then_n ?_
  refine c_condT hS rfl (DT (by omega)) ?_
  refine wp_skip ?_
  refine then_n ?_
  refine wp_block ?_
  refine c_seq ?_
  refine reg_plain w0 (SS) ?_
  refine r_move hS hH.kp0 rfl rfl ?_; clear hS; intro a hS
  refine r_nilCheck hS hH.kp0 rfl rfl ?_; clear hS; intro a hS
  refine r_fieldAddr hS hH.kp0 rfl Fc.fo70_5 rfl ?_; clear hS; intro a hS
  refine r_load_sc hS hH (by repeat (first | exact Sub.nil | refine Sub.cons ?_ ?_ | exact In.here | refine In.there ?_)) rfl (by repeat (first | exact In.here | refine In.there ?_)) Fc.sc67 (by rfl) rfl ?_; clear hS; intro a hS
  refine r_move hS hH.kp0 rfl rfl ?_; clear hS; intro a hS
  refine r_call (l := [.tmp 27, .tmp 28]) hS rfl rfl Fc.fn37 rfl ?_
  refine Calls.mono (hgap _ (hX hH.mod)) ?_
  rintro e w1 ⟨rfl, hE⟩
  replace hH := hH.ext hE
  refine ⟨_, rfl, hH.kp0, ?_⟩
  clear hS; intro a hS
  refine r_assign hS hH.kp0 rfl rfl ?_; clear hS; intro a hS
  refine Sq.nil ?_
  refine then_n ?_
  refine c_seq ?_
  refine reg_plain w0 (SS) ?_
  refine r_move hS hH.kp0 rfl rfl ?_; clear hS; intro a hS
  refine r_assign hS hH.kp0 rfl rfl ?_; clear hS; intro a hS
  refine Sq.nil ?_
  refine then_n ?_
  refine c_seq ?_
  refine wp_block ?_
  refine c_loop (fun mm a w => ∃ to_ : Nat, mm + to_ = off + m ∧ off ≤ to_ ∧ St 74 (lv [(0, .pointer (some ⟨ob, 0, none⟩)), (3, .pointer (some ⟨b3, 0, none⟩)), (4, .int .i64 0), (6, .int .i64 (off : Int)), (7, .int .i64 (to_ : Int))]) a ∧ Hp w0 SS [(b3, .cells ([.int .i64 (off : Int), .slice pq m pc, .bool fi] : List Value).toArray 30 (0, 0)), (ob, .cells ([.int .i64 (room : Int), .int .i64 (base : Int), .slice q kl kc, .int .i64 (sent : Int), .pointer (some ⟨gb, 0, none⟩), .pointer (some ⟨hb, 0, none⟩), .int .i64 en] : List Value).toArray 70 (0, 0))] w) (m) ?_ ?_
  · exact ⟨off, by omega, Nat.le_refl _, hS.live ⟨rfl, rfl, rfl, rfl, rfl, trivial⟩, hH⟩
  clear hS hH; intro mm a w hI; obtain ⟨to_, h1, h2, hS, hH⟩ := hI
  refine c_seq ?_
  refine c_seq ?_
  refine reg_plain w0 (SS) ?_
  refine r_move hS hH.kp0 rfl rfl ?_; clear hS; intro a hS
  refine r_fieldAddr hS hH.kp0 rfl Fc.fo30_0 rfl ?_; clear hS; intro a hS
  refine r_load_sc hS hH (by repeat (first | exact Sub.nil | refine Sub.cons ?_ ?_ | exact In.here | refine In.there ?_)) rfl (by repeat (first | exact In.here | refine In.there ?_)) Fc.sc3 (by rfl) rfl ?_; clear hS; intro a hS
  refine r_fieldAddr hS hH.kp0 rfl Fc.fo30_1 rfl ?_; clear hS; intro a hS
  refine r_load_sc hS hH (by repeat (first | exact Sub.nil | refine Sub.cons ?_ ?_ | exact In.here | refine In.there ?_)) rfl (by repeat (first | exact In.here | refine In.there ?_)) Fc.sc22 (by rfl) rfl ?_; clear hS; intro a hS
  refine r_lenSl hS hH.kp0 rfl Fc.isSlice22 rfl ?_; clear hS; intro a hS
  refine r_addN0 (m := off) (k := m) hS hH.kp0 rfl rfl (by omega) rfl ?_; clear hS; intro a hS
  refine r_lss hS hH.kp0 rfl rfl rfl ?_; clear hS; intro a hS
  refine r_move hS hH.kp0 rfl rfl ?_; clear hS; intro a hS
  rcases (by omega : to_ = off + m ∨ to_ < off + m) with hto | hto
  · rw [show decide ((to_ : Int) < ((off + m : Nat) : Int)) = false from decide_eq_false (by omega)] at hS
    refine Sq.guardNo hS rfl rfl rfl hH.kp0 rfl ?_; clear hS; intro a hS
    refine Sq.guardNo hS rfl rfl rfl hH.kp0 rfl ?_; clear hS; intro a hS
    refine Sq.guardNo hS rfl rfl rfl hH.kp0 rfl ?_; clear hS; intro a hS
    refine Sq.guardNo hS rfl rfl rfl hH.kp0 rfl ?_; clear hS; intro a hS
    refine Sq.guardNo hS rfl rfl rfl hH.kp0 rfl ?_; clear hS; intro a hS
    refine Sq.guardNo hS rfl rfl rfl hH.kp0 rfl ?_; clear hS; intro a hS
    refine Sq.guardNo hS rfl rfl rfl hH.kp0 rfl ?_; clear hS; intro a hS
    refine r_pickF hS hH.kp0 rfl rfl rfl rfl ?_; clear hS; intro a hS
    refine Sq.nil ?_
    refine then_n ?_
    refine c_condF hS rfl rfl ?_
    refine wp_exit ?_
    refine then_e ?_
    refine then_e ?_
    refine blk_hit ?_
    refine then_n ?_
    refine c_seq ?_
    refine c_seq ?_
    refine reg_plain w0 (SS) ?_
    subst hto
    refine r_move hS hH.kp0 rfl rfl ?_; clear hS; intro a hS
    refine r_move hS hH.kp0 rfl rfl ?_; clear hS; intro a hS
    refine r_gtr hS hH.kp0 rfl rfl rfl ?_; clear hS; intro a hS
    refine Sq.nil ?_
    refine then_n ?_
    refine c_condT hS rfl (DT (by omega)) ?_
    have hHm := hX hH.mod
    replace hH := hH.wide (S' := SF gb v) (fun z h => by rw [hSS] at h; exact h.elim)
    refine reg_plain w0 (SF gb v) ?_
    refine r_move hS hH.kp0 rfl rfl ?_; clear hS; intro a hS
    refine r_nilCheck hS hH.kp0 rfl rfl ?_; clear hS; intro a hS
    refine r_fieldAddr hS hH.kp0 rfl Fc.fo70_4 rfl ?_; clear hS; intro a hS
    refine r_load_sc hS hH (by repeat (first | exact Sub.nil | refine Sub.cons ?_ ?_ | exact In.here | refine In.there ?_)) rfl (by repeat (first | exact In.here | refine In.there ?_)) Fc.sc67 (by rfl) rfl ?_; clear hS; intro a hS
    refine r_move hS hH.kp0 rfl rfl ?_; clear hS; intro a hS
    refine r_move hS hH.kp0 rfl rfl ?_; clear hS; intro a hS
    refine r_subN0 (m := off + m) (k := 1) hS hH.kp0 rfl rfl (by omega) (by omega) rfl ?_; clear hS; intro a hS
    refine r_call (l := [.tmp 56, .tmp 57, .tmp 59]) hS rfl rfl Fc.fn36 rfl ?_
    refine Calls.mono (hadd _ hHm) ?_
    rintro e w1 ⟨rfl, v2, hg2, hst2⟩
    have hnew : ∀ z, SF gb v2 z → SF gb v z ∨ w0.heap.size ≤ z := fun z hz => (hst2.new z hz).imp id (fun h => Nat.le_trans hH.mod.size h)
    have hobn : ∀ z, SF gb v2 z → z ≠ ob := fun z h e => by rcases hst2.new z h with h | h; (exact hvo z h e); (have := lt_of_block (hH.get (b := ob) (.there .here)); omega)
    replace hH : Hp w0 (SF gb v) [(b3, .cells ([.int .i64 (off : Int), .slice pq m pc, .bool fi] : List Value).toArray 30 (0, 0)), (ob, .cells ([.int .i64 (room : Int), .int .i64 (base : Int), .slice q kl kc, .int .i64 (sent : Int), .pointer (some ⟨gb, 0, none⟩), .pointer (some ⟨hb, 0, none⟩), .int .i64 en] : List Value).toArray 70 (0, 0))] w1 := hH.past hst2.mod (by intro p hp hz; simp only [List.mem_cons, List.not_mem_nil, or_false] at hp; rcases hp with rfl | rfl; (have h8 := hvlt _ hz; dsimp only at h8; omega); exact hvo _ hz rfl) (fun _ h => h)
    refine ⟨_, rfl, hH.kp0, ?_⟩
    clear hS; intro a hS
    refine Sq.nil ?_
    obtain ⟨w, hw9⟩ : ∃ z, z = w1 := ⟨_, rfl⟩
    rw [← hw9] at hH hg2 ⊢
    have hM0 := hH.mod
    obtain ⟨SS, hSS⟩ : ∃ s : Nat → Prop, s = fun z => z = ob := ⟨_, rfl⟩
    have hbase : Hp w SS [(b3, .cells ([.int .i64 (off : Int), .slice pq m pc, .bool fi] : List Value).toArray 30 (0, 0)), (ob, .cells ([.int .i64 (room : Int), .int .i64 (base : Int), .slice q kl kc, .int .i64 (sent : Int), .pointer (some ⟨gb, 0, none⟩), .pointer (some ⟨hb, 0, none⟩), .int .i64 en] : List Value).toArray 70 (0, 0))] w := ⟨hH.blk, hH.nd, Mod.refl _ _⟩
    clear hH
    obtain ⟨w0, rfl⟩ : ∃ z, z = w := ⟨_, rfl⟩
    have hH := hbase
    refine then_n ?_
    refine reg_plain w0 (SS) ?_
    refine r_move hS hH.kp0 rfl rfl ?_; clear hS; intro a hS
    refine r_assign hS hH.kp0 rfl rfl ?_; clear hS; intro a hS
    refine Sq.nil ?_
    refine blk_n ?_
    refine then_n ?_
    refine rnd ?_
    refine c_seq ?_
    refine c_seq ?_
    refine reg_plain w0 (SS) ?_
    refine r_move hS hH.kp0 rfl rfl ?_; clear hS; intro a hS
    refine r_fieldAddr hS hH.kp0 rfl Fc.fo30_0 rfl ?_; clear hS; intro a hS
    refine r_load_sc hS hH (by repeat (first | exact Sub.nil | refine Sub.cons ?_ ?_ | exact In.here | refine In.there ?_)) rfl (by repeat (first | exact In.here | refine In.there ?_)) Fc.sc3 (by rfl) rfl ?_; clear hS; intro a hS
    refine r_fieldAddr hS hH.kp0 rfl Fc.fo30_1 rfl ?_; clear hS; intro a hS
    refine r_load_sc hS hH (by repeat (first | exact Sub.nil | refine Sub.cons ?_ ?_ | exact In.here | refine In.there ?_)) rfl (by repeat (first | exact In.here | refine In.there ?_)) Fc.sc22 (by rfl) rfl ?_; clear hS; intro a hS
    refine r_lenSl hS hH.kp0 rfl Fc.isSlice22 rfl ?_; clear hS; intro a hS
    refine r_addN0 (m := off) (k := m) hS hH.kp0 rfl rfl (by omega) rfl ?_; clear hS; intro a hS
    refine r_lss hS hH.kp0 rfl rfl rfl ?_; clear hS; intro a hS
    refine Sq.nil ?_
    refine then_n ?_
    refine c_condF hS rfl (DF (by omega)) ?_
    refine wp_exit ?_
    refine then_e ?_
    refine then_e ?_
    refine blk_hit ?_
    refine then_n ?_
    refine c_seq ?_
    refine c_seq ?_
    refine reg_plain w0 (SS) ?_
    refine r_fieldAddr hS hH.kp0 rfl Fc.fo30_2 rfl ?_; clear hS; intro a hS
    refine r_load_sc hS hH (by repeat (first | exact Sub.nil | refine Sub.cons ?_ ?_ | exact In.here | refine In.there ?_)) rfl (by repeat (first | exact In.here | refine In.there ?_)) Fc.sc4 (by rfl) rfl ?_; clear hS; intro a hS
    refine r_move hS hH.kp0 rfl rfl ?_; clear hS; intro a hS
    rcases (by cases fi <;> simp : fi = false ∨ fi = true) with hfi | hfi
    · subst hfi
      refine Sq.guardNo hS rfl rfl rfl hH.kp0 rfl ?_; clear hS; intro a hS
      refine Sq.guardNo hS rfl rfl rfl hH.kp0 rfl ?_; clear hS; intro a hS
      refine Sq.guardNo hS rfl rfl rfl hH.kp0 rfl ?_; clear hS; intro a hS
      refine Sq.guardNo hS rfl rfl rfl hH.kp0 rfl ?_; clear hS; intro a hS
      refine Sq.guardNo hS rfl rfl rfl hH.kp0 rfl ?_; clear hS; intro a hS
      refine r_pickF hS hH.kp0 rfl rfl rfl rfl ?_; clear hS; intro a hS
      refine Sq.nil ?_
      refine then_n ?_
      refine c_condF hS rfl rfl ?_
      refine wp_skip ?_
      refine then_n ?_
      refine c_seq ?_
      refine reg_plain w0 (SS) ?_
      refine r_assign hS hH.kp0 rfl rfl ?_; clear hS; intro a hS
      refine Sq.nil ?_
      refine then_n ?_
      refine wp_ret ?_
      refine leave (.inl rfl) hS rfl (Res.tmp rfl Res.nil) ⟨v2, rfl, ?_, hg2.go hH.mod (fun z hz hs => by rw [hSS] at hs; exact hobn z hz hs), hnew, hobn, (hM0.mono (fun _ h => .inr h)).trans hH.mod (fun z hz hs => by rw [hSS] at hs; exact .inl hs)⟩
      exact hH.get (b := ob) (by repeat (first | exact In.here | refine In.there ?_))
    · subst hfi
      obtain ⟨hf1, hf2⟩ := hfin rfl
      subst hf2
      refine Sq.guardYes hS rfl rfl rfl ?_
      refine r_move hS hH.kp0 rfl rfl ?_; clear hS; intro a hS
      refine Sq.guardYes hS rfl rfl rfl ?_
      refine r_nilCheck hS hH.kp0 rfl rfl ?_; clear hS; intro a hS
      refine Sq.guardYes hS rfl rfl rfl ?_
      refine r_fieldAddr hS hH.kp0 rfl Fc.fo70_6 rfl ?_; clear hS; intro a hS
      refine Sq.guardYes hS rfl rfl rfl ?_
      refine r_load_sc hS hH (by repeat (first | exact Sub.nil | refine Sub.cons ?_ ?_ | exact In.here | refine In.there ?_)) rfl (by repeat (first | exact In.here | refine In.there ?_)) Fc.sc3 (by rfl) rfl ?_; clear hS; intro a hS
      refine Sq.guardYes hS rfl rfl rfl ?_
      refine r_eql hS hH.kp0 rfl rfl rfl ?_; clear hS; intro a hS
      refine r_pickT hS hH.kp0 rfl rfl rfl rfl ?_; clear hS; intro a hS
      refine Sq.nil ?_
      refine then_n ?_
      refine c_condT hS rfl rfl ?_
      refine reg_plain w0 (SS) ?_
      refine r_move hS hH.kp0 rfl rfl ?_; clear hS; intro a hS
      refine r_nilCheck hS hH.kp0 rfl rfl ?_; clear hS; intro a hS
      refine r_fieldAddr hS hH.kp0 rfl Fc.fo70_6 rfl ?_; clear hS; intro a hS
      refine r_store1 hS hH rfl rfl rfl (by repeat (first | exact .here | apply In.there | apply Put.there | apply Del.there)) (by repeat (first | exact Sub.nil | refine Sub.cons ?_ ?_ | exact In.here | refine In.there ?_)) Fc.sz3 (of_decide_eq_true rfl) (.inl (by rw [hSS])) ?_
      clear hH; intro w hH
      refine Sq.nil ?_
      refine then_n ?_
      refine c_seq ?_
      refine reg_plain w0 (SS) ?_
      refine r_assign hS hH.kp0 rfl rfl ?_; clear hS; intro a hS
      refine Sq.nil ?_
      refine then_n ?_
      refine wp_ret ?_
      refine leave (.inl rfl) hS rfl (Res.tmp rfl Res.nil) ⟨v2, rfl, ?_, hg2.go hH.mod (fun z hz hs => by rw [hSS] at hs; exact hobn z hz hs), hnew, hobn, (hM0.mono (fun _ h => .inr h)).trans hH.mod (fun z hz hs => by rw [hSS] at hs; exact .inl hs)⟩
      exact hH.get (b := ob) (by repeat (first | exact In.here | refine In.there ?_))
  · rw [show decide ((to_ : Int) < ((off + m : Nat) : Int)) = true from decide_eq_true (by omega)] at hS
    refine Sq.guardYes hS rfl rfl rfl ?_
    refine r_move hS hH.kp0 rfl rfl ?_; clear hS; intro a hS
    refine Sq.guardYes hS rfl rfl rfl ?_
    refine r_nilCheck hS hH.kp0 rfl rfl ?_; clear hS; intro a hS
    refine Sq.guardYes hS rfl rfl rfl ?_
    refine r_fieldAddr hS hH.kp0 rfl Fc.fo70_5 rfl ?_; clear hS; intro a hS
    refine Sq.guardYes hS rfl rfl rfl ?_
    refine r_load_sc hS hH (by repeat (first | exact Sub.nil | refine Sub.cons ?_ ?_ | exact In.here | refine In.there ?_)) rfl (by repeat (first | exact In.here | refine In.there ?_)) Fc.sc67 (by rfl) rfl ?_; clear hS; intro a hS
    refine Sq.guardYes hS rfl rfl rfl ?_
    refine r_move hS hH.kp0 rfl rfl ?_; clear hS; intro a hS
    refine Sq.guardYes hS rfl rfl rfl ?_
    refine r_call (l := [.tmp 43, .tmp 44]) hS rfl rfl Fc.fn39 rfl ?_
    refine Calls.mono (hhas _ to_ (hX hH.mod) (by omega) (by omega)) ?_
    rintro e w1 ⟨rfl, hE⟩
    replace hH := hH.ext hE
    refine ⟨_, rfl, hH.kp0, ?_⟩
    clear hS; intro a hS
    refine Sq.guardYes hS rfl rfl rfl ?_
    refine r_not hS hH.kp0 rfl rfl ?_; clear hS; intro a hS
    refine r_pickT hS hH.kp0 rfl rfl rfl rfl ?_; clear hS; intro a hS
    refine Sq.nil ?_
    refine then_n ?_
    refine c_condT hS rfl rfl ?_
    refine wp_skip ?_
    refine then_n ?_
    refine wp_block ?_
    refine reg_plain w0 (SS) ?_
    refine r_move hS hH.kp0 rfl rfl ?_; clear hS; intro a hS
    refine r_addN0 (m := to_) (k := 1) hS hH.kp0 rfl rfl (by omega) rfl ?_; clear hS; intro a hS
    refine r_assign hS hH.kp0 rfl rfl ?_; clear hS; intro a hS
    refine Sq.nil ?_
    refine blk_n ?_
    refine then_n ?_
    refine ⟨mm - 1, by omega, to_ + 1, by omega, by omega, hS.live ⟨rfl, rfl, rfl, rfl, rfl, trivial⟩, hH⟩

end Go.Proofs.Ytkhcbllphdhbdaa

namespace Go.Proofs.Ytkhcbllphdhbdaa
open Go.Sym


set_option maxRecDepth 100000 in
set_option maxHeartbeats 4000000 in
theorem Acked_g (ob gb hb room base sent kl kc ka ko m pc m1 m2 : Nat) (pq : Option Addr) (fi : Bool) (kb : List UInt8) (en : Int) (v hv : Value) (xs1 xs2 xh : List Value) (hkl : kb.length = kl) (hm1 : 1 ≤ m) (hmk : m ≤ kl) (hbk : base + kl ≤ 1099511627776) (hs : base + m ≤ sent) (hsn : sent ≤ 1099511627776) (hfin : fi = true → base + m = base + kl ∧ en ≠ 0 ∧ en ≠ 1) (w0 : World) (hz : w0.heap[ob]? = some (.cells ([.int .i64 (room : Int), .int .i64 (base : Int), .slice (some ⟨ka, ko, none⟩) kl kc, .int .i64 (sent : Int), .pointer (some ⟨gb, 0, none⟩), .pointer (some ⟨hb, 0, none⟩), .int .i64 en] : List Value).toArray 70 (0, 0))) (hg : SetIn 89 94 w0 gb v m1 xs1) (hvlt : ∀ z, SF gb v z → z < w0.heap.size) (hvo : ∀ z, SF gb v z → z ≠ ob) (hhlt : ∀ z, SF hb hv z → z < w0.heap.size) (hho : ∀ z, SF hb hv z → z ≠ ob) (hdis : ∀ z, SF gb v z → ¬ SF hb hv z) (hkb : BsF (fun z => z = ob ∨ SF gb v z ∨ SF hb hv z) w0 (.slice (some ⟨ka, ko, none⟩) kl kc) kb) (hadd : ∀ W, Ext w0 W → Calls Try.prog 36 #[.pointer (some ⟨hb, 0, none⟩), .int .i64 (base : Int), .int .i64 ((base + m - 1 : Nat) : Int)] W fun e w' => e = .returned (.int .i64 0) ∧ ∃ v2, SetIn 89 94 w' hb v2 1 xh ∧ SStep W w' hb hv v2) (hrem : ∀ W, SetIn 89 94 W gb v m1 xs1 → Calls Try.prog 31 #[.pointer (some ⟨gb, 0, none⟩), .int .i64 (base : Int), .int .i64 ((base + m - 1 : Nat) : Int)] W fun e w' => e = .returned (.int .i64 0) ∧ ∃ v2, SetIn 89 94 w' gb v2 m2 xs2 ∧ SStep W w' gb v v2) (hgap : ∀ W v2, SetIn 89 94 W hb v2 1 xh → Calls Try.prog 37 #[.pointer (some ⟨hb, 0, none⟩), .int .i64 (base : Int)] W fun e w' => e = .returned (.int .i64 ((base + m : Nat) : Int)) ∧ Ext W w') : Calls Try.prog 19 #[.pointer (some ⟨ob, 0, none⟩), .agg #[.int .i64 (base : Int), .slice pq m pc, .bool fi]] w0 fun e w' => ∃ (cb c2 : Nat) (cl : List Value) (v2 hv2 : Value), e = .returned (.int .i64 0) ∧ w'.heap[ob]? = some (.cells ([.int .i64 (room : Int), .int .i64 ((base + m : Nat) : Int), .slice (some ⟨cb, 0, none⟩) (kl - m) c2, .int .i64 (sent : Int), .pointer (some ⟨gb, 0, none⟩), .pointer (some ⟨hb, 0, none⟩), .int .i64 (if fi = true then 4 else en)] : List Value).toArray 70 (0, 0)) ∧ w0.heap.size ≤ cb ∧ w'.heap[cb]? = some (.cells cl.toArray 5 (0, 0)) ∧ BB c2 cl (kb.drop m) ∧ SetIn 89 94 w' gb v2 m2 xs2 ∧ SetIn 89 94 w' hb hv2 1 xh ∧ (∀ z, SF gb v2 z → SF gb v z ∨ w0.heap.size ≤ z) ∧ (∀ z, SF hb hv2 z → SF hb hv z ∨ w0.heap.size ≤ z) ∧ (∀ z, SF gb v2 z → z ≠ ob ∧ z ≠ cb ∧ ¬ SF hb hv2 z) ∧ (∀ z, SF hb hv2 z → z ≠ ob ∧ z ≠ cb) ∧ cb ≠ ob ∧ Mod (fun z => z = ob ∨ SF gb v z ∨ SF hb hv z) w0 w' := by
  refine enter Try.func19 rfl rfl rfl ?_
  intro a hS
  have hH := Hp.start w0 (Nobody)
  replace hH := hH.know hz (by intro p hp; simp at hp)
  obtain ⟨SS, hSS⟩ : ∃ s : Nat → Prop, s = Nobody := ⟨_, rfl⟩
  rw [← hSS] at hH
  have hX : ∀ {w : World}, Mod SS w0 w → Ext w0 w := fun h => by rw [hSS] at h; exact h
  refine c_seq ?_
  refine reg_plain w0 (SS) ?_
  refine r_box hS hH (by repeat (first | exact Sub.nil | refine Sub.cons ?_ ?_ | exact In.here | refine In.there ?_)) rfl rfl rfl ?_
  clear hS hH; intro a w b3 hb3 hwb3 hS hH
  refine r_assign hS hH.kp0 rfl rfl ?_; clear hS; intro a hS
  refine Sq.nil ?_
  refine then_n ?_
  refine c_seq ?_
  refine c_seq ?_
  refine reg_plain w0 (SS) ?_
  refine r_move hS hH.kp0 rfl rfl ?_; clear hS; intro a hS
  refine r_load_row hS hH (by repeat (first | exact Sub.nil | refine Sub.cons ?_ ?_ | exact In.here | refine In.there ?_)) rfl (by repeat (first | exact In.here | refine In.there ?_)) Fc.ag30 (by rfl) rfl ?_; clear hS; intro a hS
  refine r_call (l := [.tmp 8, .tmp 9]) hS rfl rfl Fc.fn35 rfl ?_
  refine Calls.mono (wrong_c ob gb hb room base sent kl kc (some ⟨ka, ko, none⟩) en base m pc pq fi hbk hs hsn hfin _ (hH.get (b := ob) (by repeat (first | exact In.here | refine In.there ?_)))) ?_
  rintro e w1 ⟨rfl, hE⟩
  replace hH := hH.ext hE
  refine ⟨_, rfl, hH.kp0, ?_⟩
  clear hS; intro a hS
  refine r_assign hS hH.kp0 rfl rfl ?_; clear hS; intro a hS
  refine Sq.nil ?_
  refine then_n ?_
  refine c_seq ?_
  refine reg_plain w0 (SS) ?_
  refine r_move hS hH.kp0 rfl rfl ?_; clear hS; intro a hS
  refine r_neq hS hH.kp0 rfl rfl rfl ?_; clear hS; intro a hS
  refine Sq.nil ?_
  refine then_n ?_
  refine c_condF hS rfl rfl ?_
  refine wp_skip ?_
  refine then_n ?_
  refine c_seq ?_
  refine c_seq ?_
  refine reg_plain w0 (SS) ?_
  refine r_fieldAddr hS hH.kp0 rfl Fc.fo30_1 rfl ?_; clear hS; intro a hS
  refine r_load_sc hS hH (by repeat (first | exact Sub.nil | refine Sub.cons ?_ ?_ | exact In.here | refine In.there ?_)) rfl (by repeat (first | exact In.here | refine In.there ?_)) Fc.sc22 (by rfl) rfl ?_; clear hS; intro a hS
  refine r_lenSl hS hH.kp0 rfl Fc.isSlice22 rfl ?_; clear hS; intro a hS
  refine r_assign hS hH.kp0 rfl rfl ?_; clear hS; intro a hS
  refine Sq.nil ?_
  refine then_n ?_
  refine c_seq ?_
  refine reg_plain w0 (SS) ?_
  refine r_move hS hH.kp0 rfl rfl ?_; clear hS; intro a hS
  refine r_gtr hS hH.kp0 rfl rfl rfl ?_; clear hS; intro a hS
  refine Sq.nil ?_
  refine then_n ?_
  refine c_condT hS rfl (DT (by omega)) ?_
  refine c_seq ?_
  have hHm := hX hH.mod
  replace hH := hH.wide (S' := SF hb hv) (fun z h => by rw [hSS] at h; exact h.elim)
  refine reg_draw [(true, 0, []), (true, 1, []), (true, 2, []), (true, 3, []), (true, 4, []), (true, 5, []), (true, 6, []), (true, 7, []), (true, 8, []), (true, 9, []), (true, 10, []), (false, 11, [])] Fc.mixed (by kernel_rfl) (by kernel_rfl) (by kernel_rfl) (by kernel_rfl) (by kernel_rfl) (by repeat (first | with_reducible exact steady_body | with_reducible exact steady_bodyQ | with_reducible exact steady_round | with_reducible apply steady_block | with_reducible apply steady_then | with_reducible apply steady_scope | exact steady_body)) hH ?_
  replace hH := hH.drew
  refine r_move hS trivial rfl rfl ?_; clear hS; intro a hS
  refine r_nilCheck hS trivial rfl rfl ?_; clear hS; intro a hS
  refine r_fieldAddr hS trivial rfl Fc.fo70_5 rfl ?_; clear hS; intro a hS
  refine r_load_scS hS rfl (by repeat (first | exact In.here | refine In.there ?_)) Fc.sc67 (by rfl) rfl ?_; clear hS; intro a hS
  refine r_fieldAddr hS trivial rfl Fc.fo30_0 rfl ?_; clear hS; intro a hS
  refine r_load_scS hS rfl (by repeat (first | exact In.here | refine In.there ?_)) Fc.sc3 (by rfl) rfl ?_; clear hS; intro a hS
  refine r_fieldAddr hS trivial rfl Fc.fo30_0 rfl ?_; clear hS; intro a hS
  refine r_load_scS hS rfl (by repeat (first | exact In.here | refine In.there ?_)) Fc.sc3 (by rfl) rfl ?_; clear hS; intro a hS
  refine r_move hS trivial rfl rfl ?_; clear hS; intro a hS
  refine r_addN0 (m := base) (k := m) hS trivial rfl rfl (by omega) rfl ?_; clear hS; intro a hS
  refine r_subN0 (m := base + m) (k := 1) hS trivial rfl rfl (by omega) (by omega) rfl ?_; clear hS; intro a hS
  refine r_call (l := [.tmp 22, .tmp 24, .tmp 29]) hS rfl rfl Fc.fn36 rfl ?_
  refine Calls.mono (hadd _ (hHm.ext (Ext.drew _))) ?_
  rintro e w1 ⟨rfl, hv2, hh2, hst2⟩
  have hnewh : ∀ z, SF hb hv2 z → SF hb hv z ∨ w0.heap.size ≤ z := fun z hz => (hst2.new z hz).imp id (fun h => Nat.le_trans hH.mod.size h)
  have hobh : ∀ z, SF hb hv2 z → z ≠ ob := fun z h e => by rcases hst2.new z h with h | h; (exact hho z h e); (have := lt_of_block (hH.get (b := ob) (.there .here)); omega)
  have hdis2 : ∀ z, SF hb hv2 z → ¬ SF gb v z := fun z h k => by rcases hnewh z h with h | h; (exact hdis z k h); (have := hvlt z k; omega)
  replace hH : Hp w0 (SF hb hv) [(b3, .cells ([.int .i64 (base : Int), .slice pq m pc, .bool fi] : List Value).toArray 30 (0, 0)), (ob, .cells ([.int .i64 (room : Int), .int .i64 (base : Int), .slice (some ⟨ka, ko, none⟩) kl kc, .int .i64 (sent : Int), .pointer (some ⟨gb, 0, none⟩), .pointer (some ⟨hb, 0, none⟩), .int .i64 en] : List Value).toArray 70 (0, 0))] w1 := hH.past hst2.mod (by intro p hp hz; simp only [List.mem_cons, List.not_mem_nil, or_false] at hp; rcases hp with rfl | rfl; (have h8 := hhlt _ hz; dsimp only at h8; omega); exact hho _ hz rfl) (fun _ h => h)
  refine ⟨_, rfl, hH.kp (by repeat (first | exact Sub.nil | refine Sub.cons ?_ ?_ | exact In.here | refine In.there ?_)), ?_⟩
  clear hS; intro a hS
  refine Sq.nil ?_
  obtain ⟨w, hw9⟩ : ∃ z, z = w1 := ⟨_, rfl⟩
  rw [← hw9] at hH hh2 ⊢
  have hMA := hH.mod
  have hgA := hg.go hMA (fun z hz hs => hdis z hz hs)
  have hkA : BsF (fun z => z = ob ∨ SF gb v z) w _ kb := hkb.go (hMA.mono (fun z h => .inr (.inr h))) (fun z h => .inl (h.imp id .inl))
  have hsA := hMA.size
  have hhlt2 := hh2.lt
  obtain ⟨SS, hSS⟩ : ∃ s : Nat → Prop, s = Nobody := ⟨_, rfl⟩
  have hbase : Hp w SS [(b3, .cells ([.int .i64 (base : Int), .slice pq m pc, .bool fi] : List Value).toArray 30 (0, 0)), (ob, .cells ([.int .i64 (room : Int), .int .i64 (base : Int), .slice (some ⟨ka, ko, none⟩) kl kc, .int .i64 (sent : Int), .pointer (some ⟨gb, 0, none⟩), .pointer (some ⟨hb, 0, none⟩), .int .i64 en] : List Value).toArray 70 (0, 0))] w := ⟨hH.blk, hH.nd, Mod.refl _ _⟩
  clear hH
  obtain ⟨w0, rfl⟩ : ∃ z, z = w := ⟨_, rfl⟩
  have hH := hbase
  have hX : ∀ {w : World}, Mod SS w0 w → Ext w0 w := fun h => by rw [hSS] at h; exact h
  refine then_n ?_
  have hHm := hX hH.mod
  replace hH := hH.wide (S' := SF gb v) (fun z h => by rw [hSS] at h; exact h.elim)
  refine reg_draw [(true, 0, []), (true, 1, []), (true, 2, []), (true, 3, []), (true, 4, []), (true, 5, []), (true, 6, []), (true, 7, []), (true, 8, []), (true, 9, []), (true, 10, []), (false, 11, [])] Fc.mixed (by kernel_rfl) (by kernel_rfl) (by kernel_rfl) (by kernel_rfl) (by kernel_rfl) (by repeat (first | with_reducible exact steady_body | with_reducible exact steady_bodyQ | with_reducible exact steady_round | with_reducible apply steady_block | with_reducible apply steady_then | with_reducible apply steady_scope | exact steady_body)) hH ?_
  replace hH := hH.drew
  refine r_move hS trivial rfl rfl ?_; clear hS; intro a hS
  refine r_nilCheck hS trivial rfl rfl ?_; clear hS; intro a hS
  refine r_fieldAddr hS trivial rfl Fc.fo70_4 rfl ?_; clear hS; intro a hS
  refine r_load_scS hS rfl (by repeat (first | exact In.here | refine In.there ?_)) Fc.sc67 (by rfl) rfl ?_; clear hS; intro a hS
  refine r_fieldAddr hS trivial rfl Fc.fo30_0 rfl ?_; clear hS; intro a hS
  refine r_load_scS hS rfl (by repeat (first | exact In.here | refine In.there ?_)) Fc.sc3 (by rfl) rfl ?_; clear hS; intro a hS
  refine r_fieldAddr hS trivial rfl Fc.fo30_0 rfl ?_; clear hS; intro a hS
  refine r_load_scS hS rfl (by repeat (first | exact In.here | refine In.there ?_)) Fc.sc3 (by rfl) rfl ?_; clear hS; intro a hS
  refine r_move hS trivial rfl rfl ?_; clear hS; intro a hS
  refine r_addN0 (m := base) (k := m) hS trivial rfl rfl (by omega) rfl ?_; clear hS; intro a hS
  refine r_subN0 (m := base + m) (k := 1) hS trivial rfl rfl (by omega) (by omega) rfl ?_; clear hS; intro a hS
  refine r_call (l := [.tmp 34, .tmp 36, .tmp 41]) hS rfl rfl Fc.fn31 rfl ?_
  refine Calls.mono (hrem _ (hgA.go (F := Nobody) (hHm.ext (Ext.drew _)) (fun _ _ h => h))) ?_
  rintro e w1 ⟨rfl, v2, hg2, hst3⟩
  have hnewg : ∀ z, SF gb v2 z → SF gb v z ∨ w0.heap.size ≤ z := fun z hz => (hst3.new z hz).imp id (fun h => Nat.le_trans hH.mod.size h)
  have hobg : ∀ z, SF gb v2 z → z ≠ ob := fun z h e => by rcases hst3.new z h with h | h; (exact hvo z h e); (have := lt_of_block (hH.get (b := ob) (.there .here)); omega)
  replace hH : Hp w0 (SF gb v) [(b3, .cells ([.int .i64 (base : Int), .slice pq m pc, .bool fi] : List Value).toArray 30 (0, 0)), (ob, .cells ([.int .i64 (room : Int), .int .i64 (base : Int), .slice (some ⟨ka, ko, none⟩) kl kc, .int .i64 (sent : Int), .pointer (some ⟨gb, 0, none⟩), .pointer (some ⟨hb, 0, none⟩), .int .i64 en] : List Value).toArray 70 (0, 0))] w1 := hH.past hst3.mod (by intro p hp hz; simp only [List.mem_cons, List.not_mem_nil, or_false] at hp; rcases hp with rfl | rfl; (have h8 := hvlt _ hz; dsimp only at h8; omega); exact hvo _ hz rfl) (fun _ h => h)
  refine ⟨_, rfl, hH.kp (by repeat (first | exact Sub.nil | refine Sub.cons ?_ ?_ | exact In.here | refine In.there ?_)), ?_⟩
  clear hS; intro a hS
  refine Sq.nil ?_
  obtain ⟨w, hw9⟩ : ∃ z, z = w1 := ⟨_, rfl⟩
  rw [← hw9] at hH hg2 ⊢
  have hMB := hH.mod
  have hhB := hh2.go hMB (fun z hz hs => hdis2 z hz hs)
  have hkB : BsF (fun z => z = ob) w _ kb := hkA.go (hMB.mono (fun z h => .inr h)) (fun z h => .inl (.inl h))
  have hsB := hMB.size
  have hglt2 := hg2.lt
  have hdis3 : ∀ z, SF gb v2 z → ¬ SF hb hv2 z := fun z h k => by rcases hnewg z h with h | h; (exact hdis2 z k h); (have := hhlt2 z k; omega)
  have hhlt3 : ∀ z, SF hb hv2 z → z < w.heap.size := fun z h => Nat.lt_of_lt_of_le (hhlt2 z h) hsB
  have hnewg2 : ∀ z, SF gb v2 z → SF gb v z ∨ w0.heap.size ≤ z := hnewg
  obtain ⟨SS, hSS⟩ : ∃ s : Nat → Prop, s = fun z => z = ob := ⟨_, rfl⟩
  have hbase : Hp w SS [(b3, .cells ([.int .i64 (base : Int), .slice pq m pc, .bool fi] : List Value).toArray 30 (0, 0)), (ob, .cells ([.int .i64 (room : Int), .int .i64 (base : Int), .slice (some ⟨ka, ko, none⟩) kl kc, .int .i64 (sent : Int), .pointer (some ⟨gb, 0, none⟩), .pointer (some ⟨hb, 0, none⟩), .int .i64 en] : List Value).toArray 70 (0, 0))] w := ⟨hH.blk, hH.nd, Mod.refl _ _⟩
  clear hH
  obtain ⟨w0, rfl⟩ : ∃ z, z = w := ⟨_, rfl⟩
  have hH := hbase
  have hX : ∀ {w : World}, Mod SS w0 w → Mod (fun z => z = ob) w0 w := fun h => by rw [hSS] at h; exact h
  refine then_n ?_
  refine c_seq ?_
  refine c_seq ?_
  refine reg_plain w0 (SS) ?_
  refine r_fieldAddr hS hH.kp0 rfl Fc.fo30_2 rfl ?_; clear hS; intro a hS
  refine r_load_sc hS hH (by repeat (first | exact Sub.nil | refine Sub.cons ?_ ?_ | exact In.here | refine In.there ?_)) rfl (by repeat (first | exact In.here | refine In.there ?_)) Fc.sc4 (by rfl) rfl ?_; clear hS; intro a hS
  refine Sq.nil ?_
  refine then_n ?_
  refine c_cond hS rfl (fun hc2 => ?_) (fun hc2 => ?_)
  · subst hc2
    refine reg_plain w0 (SS) ?_
    refine r_move hS hH.kp0 rfl rfl ?_; clear hS; intro a hS
    refine r_nilCheck hS hH.kp0 rfl rfl ?_; clear hS; intro a hS
    refine r_fieldAddr hS hH.kp0 rfl Fc.fo70_6 rfl ?_; clear hS; intro a hS
    refine r_store1 hS hH rfl rfl rfl (by repeat (first | exact .here | apply In.there | apply Put.there | apply Del.there)) (by repeat (first | exact Sub.nil | refine Sub.cons ?_ ?_ | exact In.here | refine In.there ?_)) Fc.sz3 (of_decide_eq_true rfl) (.inl (by rw [hSS])) ?_
    clear hH; intro w hH
    refine Sq.nil ?_
    refine then_n ?_
    refine c_seq ?_
    refine c_seq ?_
    refine reg_draw [(true, 0, []), (true, 1, []), (true, 2, []), (true, 3, []), (true, 4, []), (true, 5, []), (true, 6, []), (true, 7, []), (false, 8, []), (true, 9, [])] Fc.mixed (by kernel_rfl) (by kernel_rfl) (by kernel_rfl) (by kernel_rfl) (by kernel_rfl) (by repeat (first | with_reducible exact steady_body | with_reducible exact steady_bodyQ | with_reducible exact steady_round | with_reducible apply steady_block | with_reducible apply steady_then | with_reducible apply steady_scope | exact steady_body)) hH ?_
    replace hH := hH.drew
    refine r_move hS trivial rfl rfl ?_; clear hS; intro a hS
    refine r_nilCheck hS trivial rfl rfl ?_; clear hS; intro a hS
    refine r_fieldAddr hS trivial rfl Fc.fo70_5 rfl ?_; clear hS; intro a hS
    refine r_load_scS hS rfl (by repeat (first | exact In.here | refine In.there ?_)) Fc.sc67 (by rfl) rfl ?_; clear hS; intro a hS
    refine r_move hS trivial rfl rfl ?_; clear hS; intro a hS
    refine r_nilCheck hS trivial rfl rfl ?_; clear hS; intro a hS
    refine r_fieldAddr hS trivial rfl Fc.fo70_1 rfl ?_; clear hS; intro a hS
    refine r_load_scS hS rfl (by repeat (first | exact In.here | refine In.there ?_)) Fc.sc3 (by rfl) rfl ?_; clear hS; intro a hS
    refine r_call (l := [.tmp 51, .tmp 55]) hS rfl rfl Fc.fn37 rfl ?_
    refine Calls.mono (hgap _ hv2 (hhB.go (hX hH.mod) hobh)) ?_
    rintro e w1 ⟨rfl, hE⟩
    replace hH := hH.ext hE
    refine ⟨_, rfl, hH.kp (by repeat (first | exact Sub.nil | refine Sub.cons ?_ ?_ | exact In.here | refine In.there ?_)), ?_⟩
    clear hS; intro a hS
    refine r_assign hS trivial rfl rfl ?_; clear hS; intro a hS
    refine Sq.nil ?_
    refine then_n ?_
    refine c_seq ?_
    refine reg_plain w0 (SS) ?_
    refine r_move hS hH.kp0 rfl rfl ?_; clear hS; intro a hS
    refine r_move hS hH.kp0 rfl rfl ?_; clear hS; intro a hS
    refine r_nilCheck hS hH.kp0 rfl rfl ?_; clear hS; intro a hS
    refine r_fieldAddr hS hH.kp0 rfl Fc.fo70_1 rfl ?_; clear hS; intro a hS
    refine r_load_sc hS hH (by repeat (first | exact Sub.nil | refine Sub.cons ?_ ?_ | exact In.here | refine In.there ?_)) rfl (by repeat (first | exact In.here | refine In.there ?_)) Fc.sc3 (by rfl) rfl ?_; clear hS; intro a hS
    refine r_gtr hS hH.kp0 rfl rfl rfl ?_; clear hS; intro a hS
    refine Sq.nil ?_
    refine then_n ?_
    refine c_condT hS rfl (DT (by omega)) ?_
    refine c_seq ?_
    refine reg_draw [(true, 0, [1]), (true, 1, [1]), (true, 2, [1]), (true, 3, [1]), (true, 4, []), (true, 5, [1]), (true, 6, [1]), (true, 7, [1]), (true, 8, [1]), (true, 9, []), (true, 10, [1]), (true, 11, [1]), (false, 12, []), (true, 13, [1]), (true, 14, [1]), (false, 15, [1])] Fc.mixed (by kernel_rfl) (by kernel_rfl) (by kernel_rfl) (by kernel_rfl) (by kernel_rfl) (by repeat (first | with_reducible exact steady_body | with_reducible exact steady_bodyQ | with_reducible exact steady_round | with_reducible apply steady_block | with_reducible apply steady_then | with_reducible apply steady_scope | exact steady_body)) hH ?_
    replace hH := hH.drew
    refine r_move hS trivial rfl rfl ?_; clear hS; intro a hS
    refine r_move hS trivial rfl rfl ?_; clear hS; intro a hS
    refine r_nilCheck hS trivial rfl rfl ?_; clear hS; intro a hS
    refine r_fieldAddr hS trivial rfl Fc.fo70_2 rfl ?_; clear hS; intro a hS
    refine r_load_scS hS rfl (by repeat (first | exact In.here | refine In.there ?_)) Fc.sc22 (by rfl) rfl ?_; clear hS; intro a hS
    refine r_move hS trivial rfl rfl ?_; clear hS; intro a hS
    refine r_move hS trivial rfl rfl ?_; clear hS; intro a hS
    refine r_nilCheck hS trivial rfl rfl ?_; clear hS; intro a hS
    refine r_fieldAddr hS trivial rfl Fc.fo70_1 rfl ?_; clear hS; intro a hS
    refine r_load_scS hS rfl (by repeat (first | exact In.here | refine In.there ?_)) Fc.sc3 (by rfl) rfl ?_; clear hS; intro a hS
    refine r_subN0 (m := base + m) (k := base) hS trivial rfl rfl (by omega) (by omega) rfl ?_; clear hS; intro a hS
    rw [show base + m - base = m from by omega] at hS
    refine r_slLo (ll := m) hS trivial rfl rfl Fc.slb22 rfl hmk rfl ?_; clear hS; intro a hS
    refine r_call (l := [.tmp 74]) hS rfl rfl Fc.fn30 rfl ?_
    refine Calls.mono (clone_n _ _ (kl - m) (kb.drop m) (by rw [List.length_drop]; omega) (by omega) _ ((BsF.low hkB hkl.symm (by omega)) _ (hX hH.mod))) ?_
    rintro e w1 ⟨cb, c2, cl, rfl, hcb, hcbk, hBc, hE⟩
    have hcb0 := Nat.le_trans hH.mod.size hcb
    replace hH := (hH.ext hE).know hcbk (fun p hp e => by have := lt_of_block (hH.blk p hp); omega)
    refine ⟨_, rfl, hH.kp (by repeat (first | exact Sub.nil | refine Sub.cons ?_ ?_ | exact In.here | refine In.there ?_)), ?_⟩
    clear hS; intro a hS
    refine r_nilCheck hS trivial rfl rfl ?_; clear hS; intro a hS
    refine r_fieldAddr hS trivial rfl Fc.fo70_2 rfl ?_; clear hS; intro a hS
    refine r_store1 hS hH rfl rfl rfl (by repeat (first | exact .here | apply In.there | apply Put.there | apply Del.there)) (by repeat (first | exact Sub.nil | refine Sub.cons ?_ ?_ | exact In.here | refine In.there ?_)) Fc.sz22 (of_decide_eq_true rfl) (.inl (by rw [hSS])) ?_
    clear hH; intro w hH
    refine Sq.nil ?_
    refine then_n ?_
    refine reg_plain w0 (SS) ?_
    refine r_move hS hH.kp0 rfl rfl ?_; clear hS; intro a hS
    refine r_move hS hH.kp0 rfl rfl ?_; clear hS; intro a hS
    refine r_nilCheck hS hH.kp0 rfl rfl ?_; clear hS; intro a hS
    refine r_fieldAddr hS hH.kp0 rfl Fc.fo70_1 rfl ?_; clear hS; intro a hS
    refine r_store1 hS hH rfl rfl rfl (by repeat (first | exact .here | apply In.there | apply Put.there | apply Del.there)) (by repeat (first | exact Sub.nil | refine Sub.cons ?_ ?_ | exact In.here | refine In.there ?_)) Fc.sz3 (of_decide_eq_true rfl) (.inl (by rw [hSS])) ?_
    clear hH; intro w hH
    refine Sq.nil ?_
    refine then_n ?_
    refine c_seq ?_
    refine reg_plain w0 (SS) ?_
    refine r_assign hS hH.kp0 rfl rfl ?_; clear hS; intro a hS
    refine Sq.nil ?_
    refine then_n ?_
    refine wp_ret ?_
    refine leave (.inl rfl) hS rfl (Res.tmp rfl Res.nil) ⟨cb, c2, cl, v2, hv2, rfl, hH.get (b := ob) (by repeat (first | exact In.here | refine In.there ?_)), by omega, hH.get (b := cb) (by repeat (first | exact In.here | refine In.there ?_)), hBc, hg2.go (hX hH.mod) hobg, hhB.go (hX hH.mod) hobh, fun z h => (hnewg2 z h).imp id (fun h => by omega), hnewh, fun z h => ⟨hobg z h, fun e => by have := hglt2 z h; omega, hdis3 z h⟩, fun z h => ⟨hobh z h, fun e => by have := hhlt3 z h; omega⟩, fun e => by subst e; have h9 := hH.nd; simp at h9, ?_⟩
    exact ((hMA.mono (fun z h => .inr (.inr h))).trans hMB (fun _ _ h => .inr (.inl h))).trans (hX hH.mod) (fun _ _ h => .inl h)
  · subst hc2
    refine wp_skip ?_
    refine then_n ?_
    refine c_seq ?_
    refine c_seq ?_
    refine reg_draw [(true, 0, []), (true, 1, []), (true, 2, []), (true, 3, []), (true, 4, []), (true, 5, []), (true, 6, []), (true, 7, []), (false, 8, []), (true, 9, [])] Fc.mixed (by kernel_rfl) (by kernel_rfl) (by kernel_rfl) (by kernel_rfl) (by kernel_rfl) (by repeat (first | with_reducible exact steady_body | with_reducible exact steady_bodyQ | with_reducible exact steady_round | with_reducible apply steady_block | with_reducible apply steady_then | with_reducible apply steady_scope | exact steady_body)) hH ?_
    replace hH := hH.drew
    refine r_move hS trivial rfl rfl ?_; clear hS; intro a hS
    refine r_nilCheck hS trivial rfl rfl ?_; clear hS; intro a hS
    refine r_fieldAddr hS trivial rfl Fc.fo70_5 rfl ?_; clear hS; intro a hS
    refine r_load_scS hS rfl (by repeat (first | exact In.here | refine In.there ?_)) Fc.sc67 (by rfl) rfl ?_; clear hS; intro a hS
    refine r_move hS trivial rfl rfl ?_; clear hS; intro a hS
    refine r_nilCheck hS trivial rfl rfl ?_; clear hS; intro a hS
    refine r_fieldAddr hS trivial rfl Fc.fo70_1 rfl ?_; clear hS; intro a hS
    refine r_load_scS hS rfl (by repeat (first | exact In.here | refine In.there ?_)) Fc.sc3 (by rfl) rfl ?_; clear hS; intro a hS
    refine r_call (l := [.tmp 51, .tmp 55]) hS rfl rfl Fc.fn37 rfl ?_
    refine Calls.mono (hgap _ hv2 (hhB.go (hX hH.mod) hobh)) ?_
    rintro e w1 ⟨rfl, hE⟩
    replace hH := hH.ext hE
    refine ⟨_, rfl, hH.kp (by repeat (first | exact Sub.nil | refine Sub.cons ?_ ?_ | exact In.here | refine In.there ?_)), ?_⟩
    clear hS; intro a hS
    refine r_assign hS trivial rfl rfl ?_; clear hS; intro a hS
    refine Sq.nil ?_
    refine then_n ?_
    refine c_seq ?_
    refine reg_plain w0 (SS) ?_
    refine r_move hS hH.kp0 rfl rfl ?_; clear hS; intro a hS
    refine r_move hS hH.kp0 rfl rfl ?_; clear hS; intro a hS
    refine r_nilCheck hS hH.kp0 rfl rfl ?_; clear hS; intro a hS
    refine r_fieldAddr hS hH.kp0 rfl Fc.fo70_1 rfl ?_; clear hS; intro a hS
    refine r_load_sc hS hH (by repeat (first | exact Sub.nil | refine Sub.cons ?_ ?_ | exact In.here | refine In.there ?_)) rfl (by repeat (first | exact In.here | refine In.there ?_)) Fc.sc3 (by rfl) rfl ?_; clear hS; intro a hS
    refine r_gtr hS hH.kp0 rfl rfl rfl ?_; clear hS; intro a hS
    refine Sq.nil ?_
    refine then_n ?_
    refine c_condT hS rfl (DT (by omega)) ?_
    refine c_seq ?_
    refine reg_draw [(true, 0, [1]), (true, 1, [1]), (true, 2, [1]), (true, 3, [1]), (true, 4, []), (true, 5, [1]), (true, 6, [1]), (true, 7, [1]), (true, 8, [1]), (true, 9, []), (true, 10, [1]), (true, 11, [1]), (false, 12, []), (true, 13, [1]), (true, 14, [1]), (false, 15, [1])] Fc.mixed (by kernel_rfl) (by kernel_rfl) (by kernel_rfl) (by kernel_rfl) (by kernel_rfl) (by repeat (first | with_reducible exact steady_body | with_reducible exact steady_bodyQ | with_reducible exact steady_round | with_reducible apply steady_block | with_reducible apply steady_then | with_reducible apply steady_scope | exact steady_body)) hH ?_
    replace hH := hH.drew
    refine r_move hS trivial rfl rfl ?_; clear hS; intro a hS
    refine r_move hS trivial rfl rfl ?_; clear hS; intro a hS
    refine r_nilCheck hS trivial rfl rfl ?_; clear hS; intro a hS
    refine r_fieldAddr hS trivial rfl Fc.fo70_2 rfl ?_; clear hS; intro a hS
    refine r_load_scS hS rfl (by repeat (first | exact In.here | refine In.there ?_)) Fc.sc22 (by rfl) rfl ?_; clear hS; intro a hS
    refine r_move hS trivial rfl rfl ?_; clear hS; intro a hS
    refine r_move hS trivial rfl rfl ?_; clear hS; intro a hS
    refine r_nilCheck hS trivial rfl rfl ?_; clear hS; intro a hS
    refine r_fieldAddr hS trivial rfl Fc.fo70_1 rfl ?_; clear hS; intro a hS
    refine r_load_scS hS rfl (by repeat (first | exact In.here | refine In.there ?_)) Fc.sc3 (by rfl) rfl ?_; clear hS; intro a hS
    refine r_subN0 (m := base + m) (k := base) hS trivial rfl rfl (by omega) (by omega) rfl ?_; clear hS; intro a hS
    rw [show base + m - base = m from by omega] at hS
    refine r_slLo (ll := m) hS trivial rfl rfl Fc.slb22 rfl hmk rfl ?_; clear hS; intro a hS
    refine r_call (l := [.tmp 74]) hS rfl rfl Fc.fn30 rfl ?_
    refine Calls.mono (clone_n _ _ (kl - m) (kb.drop m) (by rw [List.length_drop]; omega) (by omega) _ ((BsF.low hkB hkl.symm (by omega)) _ (hX hH.mod))) ?_
    rintro e w1 ⟨cb, c2, cl, rfl, hcb, hcbk, hBc, hE⟩
    have hcb0 := Nat.le_trans hH.mod.size hcb
    replace hH := (hH.ext hE).know hcbk (fun p hp e => by have := lt_of_block (hH.blk p hp); omega)
    refine ⟨_, rfl, hH.kp (by repeat (first | exact Sub.nil | refine Sub.cons ?_ ?_ | exact In.here | refine In.there ?_)), ?_⟩
    clear hS; intro a hS
    refine r_nilCheck hS trivial rfl rfl ?_; clear hS; intro a hS
    refine r_fieldAddr hS trivial rfl Fc.fo70_2 rfl ?_; clear hS; intro a hS
    refine r_store1 hS hH rfl rfl rfl (by repeat (first | exact .here | apply In.there | apply Put.there | apply Del.there)) (by repeat (first | exact Sub.nil | refine Sub.cons ?_ ?_ | exact In.here | refine In.there ?_)) Fc.sz22 (of_decide_eq_true rfl) (.inl (by rw [hSS])) ?_
    clear hH; intro w hH
    refine Sq.nil ?_
    refine then_n ?_
    refine reg_plain w0 (SS) ?_
    refine r_move hS hH.kp0 rfl rfl ?_; clear hS; intro a hS
    refine r_move hS hH.kp0 rfl rfl ?_; clear hS; intro a hS
    refine r_nilCheck hS hH.kp0 rfl rfl ?_; clear hS; intro a hS
    refine r_fieldAddr hS hH.kp0 rfl Fc.fo70_1 rfl ?_; clear hS; intro a hS
    refine r_store1 hS hH rfl rfl rfl (by repeat (first | exact .here | apply In.there | apply Put.there | apply Del.there)) (by repeat (first | exact Sub.nil | refine Sub.cons ?_ ?_ | exact In.here | refine In.there ?_)) Fc.sz3 (of_decide_eq_true rfl) (.inl (by rw [hSS])) ?_
    clear hH; intro w hH
    refine Sq.nil ?_
    refine then_n ?_
    refine c_seq ?_
    refine reg_plain w0 (SS) ?_
    refine r_assign hS hH.kp0 rfl rfl ?_; clear hS; intro a hS
    refine Sq.nil ?_
    refine then_n ?_
    refine wp_ret ?_
    refine leave (.inl rfl) hS rfl (Res.tmp rfl Res.nil) ⟨cb, c2, cl, v2, hv2, rfl, hH.get (b := ob) (by repeat (first | exact In.here | refine In.there ?_)), by omega, hH.get (b := cb) (by repeat (first | exact In.here | refine In.there ?_)), hBc, hg2.go (hX hH.mod) hobg, hhB.go (hX hH.mod) hobh, fun z h => (hnewg2 z h).imp id (fun h => by omega), hnewh, fun z h => ⟨hobg z h, fun e => by have := hglt2 z h; omega, hdis3 z h⟩, fun z h => ⟨hobh z h, fun e => by have := hhlt3 z h; omega⟩, fun e => by subst e; have h9 := hH.nd; simp at h9, ?_⟩
    exact ((hMA.mono (fun z h => .inr (.inr h))).trans hMB (fun _ _ h => .inr (.inl h))).trans (hX hH.mod) (fun _ _ h => .inl h)

end Go.Proofs.Ytkhcbllphdhbdaa
