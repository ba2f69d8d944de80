/- Without losses each byte of an outbox is told once, in order, and never beyond the limit; what has not arrived is kept (for inputs up to the size bound). Part Box1: walks and lemmas of the proof. -/
import Derived.Test.YtkhcbllphdhbdaaChecked
import Derived.Test.YtkhcbllphdhbdaaSymRange
namespace Go.Proofs.Ytkhcbllphdhbdaa
open Go.Sym
theorem Fc.laid : laidOutB Try.prog = true := by kernel_rfl
theorem Fc.mixed : Try.prog.follows .mixedOrders = true := by kernel_rfl
theorem Fc.fn27 : isFn Try.prog 27 = true := by kernel_rfl
theorem Fc.fn49 : isFn Try.prog 49 = true := by kernel_rfl
theorem Fc.fn50 : isFn Try.prog 50 = true := by kernel_rfl
theorem Fc.fn51 : isFn Try.prog 51 = true := by kernel_rfl
theorem Fc.fn53 : isFn Try.prog 53 = true := by kernel_rfl
theorem Fc.fn56 : isFn Try.prog 56 = true := by kernel_rfl
theorem Fc.fn57 : isFn Try.prog 57 = true := by kernel_rfl
theorem Fc.fn59 : isFn Try.prog 59 = true := by kernel_rfl
theorem Fc.fo70_1 : foff Try.prog 70 1 = some 1 := by kernel_rfl
theorem Fc.fo70_2 : foff Try.prog 70 2 = some 2 := by kernel_rfl
theorem Fc.fo70_4 : foff Try.prog 70 4 = some 4 := by kernel_rfl
theorem Fc.fo89_0 : foff Try.prog 89 0 = some 0 := by kernel_rfl
theorem Fc.fo89_1 : foff Try.prog 89 1 = some 1 := by kernel_rfl
theorem Fc.fo94_0 : foff Try.prog 94 0 = some 0 := by kernel_rfl
theorem Fc.isPtr23 : isPtr Try.prog 23 = true := by kernel_rfl
theorem Fc.isPtr67 : isPtr Try.prog 67 = true := by kernel_rfl
theorem Fc.isSlice22 : isSlice Try.prog 22 = true := by kernel_rfl
theorem Fc.isSlice87 : isSlice Try.prog 87 = true := by kernel_rfl
theorem Fc.pl70 : placesB Try.prog 70 = some [(0, 1), (1, 1), (2, 1), (3, 1), (4, 1), (5, 1), (6, 1)] := by kernel_rfl
theorem Fc.pl89 : placesB Try.prog 89 = some [(0, 1), (1, 1)] := by kernel_rfl
theorem Fc.sc22 : scB Try.prog 22 = true := by kernel_rfl
theorem Fc.sc3 : scB Try.prog 3 = true := by kernel_rfl
theorem Fc.sc4 : scB Try.prog 4 = true := by kernel_rfl
theorem Fc.sc67 : scB Try.prog 67 = true := by kernel_rfl
theorem Fc.sc87 : scB Try.prog 87 = true := by kernel_rfl
theorem Fc.slb87 : slB Try.prog 87 = some 2 := by kernel_rfl
theorem Fc.sz87 : sizeB Try.prog 87 1 = true := by kernel_rfl
theorem Fc.zc70 : zcB Try.prog 70 = some [.int .i64 0, .int .i64 0, .slice none 0 0, .int .i64 0, .pointer none, .pointer none, .int .i64 0] := by kernel_rfl
theorem Fc.zc89 : zcB Try.prog 89 = some [.bool false, .slice none 0 0] := by kernel_rfl
set_option maxRecDepth 100000 in
set_option maxHeartbeats 400000 in
theorem rNew_c (w0 : World) : Calls Try.prog 27 #[] w0 fun e w' => ∃ b, e = .returned (.pointer (some ⟨b, 0, none⟩)) ∧ w0.heap.size ≤ b ∧ w'.heap[b]? = some (.cells ([.bool true, .slice none 0 0] : List Value).toArray 89 (0, 0)) ∧ Ext w0 w' := by
  refine enter Try.func27 rfl rfl rfl ?_
  intro a hS
  have hH := Hp.start w0 (Nobody)
  refine c_seq ?_
  refine reg_plain w0 (Nobody) ?_
  refine r_assign hS hH.kp0 rfl rfl ?_; clear hS; intro a hS
  refine Sq.nil ?_
  refine then_n ?_
  refine c_seq ?_
  refine reg_plain w0 (Nobody) ?_
  refine r_buildS (parts := [(0, .const (.bool true))]) hS hH.kp0 rfl rfl Fc.zc89 Fc.pl89 (by rfl) ?_; clear hS; intro a hS
  refine r_box hS hH (by repeat (first | exact Sub.nil | refine Sub.cons ?_ ?_ | exact In.here | refine In.there ?_)) rfl rfl rfl ?_
  clear hS hH; intro a w b2 hb2 hwb2 hS hH
  refine r_assign hS hH.kp0 rfl rfl ?_; clear hS; intro a hS
  refine Sq.nil ?_
  refine then_n ?_
  refine wp_ret ?_
  exact leave (.inl rfl) hS rfl (Res.tmp rfl Res.nil) ⟨b2, rfl, hb2, hH.get .here, hH.mod⟩

set_option maxRecDepth 100000 in
set_option maxHeartbeats 400000 in
theorem New_c (m : Nat) (hm : m ≤ 1048576) (w0 : World) : Calls Try.prog 6 #[.int .i64 (m : Int)] w0 fun e w' => ∃ ob gb hb, e = .returned (.tuple #[.pointer (some ⟨ob, 0, none⟩), .int .i64 0]) ∧ w0.heap.size ≤ gb ∧ gb < hb ∧ hb < ob ∧ w'.heap[ob]? = some (.cells ([.int .i64 (m : Int), .int .i64 0, .slice none 0 0, .int .i64 0, .pointer (some ⟨gb, 0, none⟩), .pointer (some ⟨hb, 0, none⟩), .int .i64 0] : List Value).toArray 70 (0, 0)) ∧ w'.heap[gb]? = some (.cells ([.bool true, .slice none 0 0] : List Value).toArray 89 (0, 0)) ∧ w'.heap[hb]? = some (.cells ([.bool true, .slice none 0 0] : List Value).toArray 89 (0, 0)) ∧ Ext w0 w' := by
  refine enter Try.func6 rfl rfl rfl ?_
  intro a hS
  have hH := Hp.start w0 (Nobody)
  refine c_seq ?_
  refine reg_plain w0 (Nobody) ?_
  refine r_assign hS hH.kp0 rfl rfl ?_; clear hS; intro a hS
  refine r_assign hS hH.kp0 rfl rfl ?_; clear hS; intro a hS
  refine Sq.nil ?_
  refine then_n ?_
  refine c_seq ?_
  refine c_seq ?_
  refine reg_plain w0 (Nobody) ?_
  refine r_move hS hH.kp0 rfl rfl ?_; clear hS; intro a hS
  refine r_lss hS hH.kp0 rfl rfl rfl ?_; clear hS; intro a hS
  refine r_move hS hH.kp0 rfl rfl ?_; clear hS; intro a hS
  first
    | (refine Sq.guardYes hS rfl rfl (by first | rfl | exact DT (by omega) | exact DF (by omega) | exact beq_iff_eq.2 (by omega) | exact beq_false_of_ne (by omega) | exact bne_iff_ne.2 (by omega) | exact bne_eq_false_iff_eq.2 (by omega) | assumption | exact beq_self_eq_true _ | exact congrArg not (beq_self_eq_true _)) ?_; refine r_move hS hH.kp0 rfl rfl ?_; clear hS; intro a hS)
    | (refine Sq.guardNo hS rfl rfl (by first | rfl | exact DT (by omega) | exact DF (by omega) | exact beq_iff_eq.2 (by omega) | exact beq_false_of_ne (by omega) | exact bne_iff_ne.2 (by omega) | exact bne_eq_false_iff_eq.2 (by omega) | assumption | exact beq_self_eq_true _ | exact congrArg not (beq_self_eq_true _)) hH.kp0 rfl ?_; clear hS; intro a hS)
    | (refine Sq.guardOff hS rfl rfl hH.kp0 rfl ?_; clear hS; intro a hS)
  first
    | (refine Sq.guardYes hS rfl rfl (by first | rfl | exact DT (by omega) | exact DF (by omega) | exact beq_iff_eq.2 (by omega) | exact beq_false_of_ne (by omega) | exact bne_iff_ne.2 (by omega) | exact bne_eq_false_iff_eq.2 (by omega) | assumption | exact beq_self_eq_true _ | exact congrArg not (beq_self_eq_true _)) ?_; refine r_gtr hS hH.kp0 rfl rfl rfl ?_; clear hS; intro a hS)
    | (refine Sq.guardNo hS rfl rfl (by first | rfl | exact DT (by omega) | exact DF (by omega) | exact beq_iff_eq.2 (by omega) | exact beq_false_of_ne (by omega) | exact bne_iff_ne.2 (by omega) | exact bne_eq_false_iff_eq.2 (by omega) | assumption | exact beq_self_eq_true _ | exact congrArg not (beq_self_eq_true _)) hH.kp0 rfl ?_; clear hS; intro a hS)
    | (refine Sq.guardOff hS rfl rfl hH.kp0 rfl ?_; clear hS; intro a hS)
  first
    | (refine r_pickT hS hH.kp0 rfl (by first | rfl | exact DT (by omega) | exact DF (by omega) | exact beq_iff_eq.2 (by omega) | exact beq_false_of_ne (by omega) | exact bne_iff_ne.2 (by omega) | exact bne_eq_false_iff_eq.2 (by omega) | assumption | exact beq_self_eq_true _ | exact congrArg not (beq_self_eq_true _)) rfl rfl ?_; clear hS; intro a hS)
    | (refine r_pickF hS hH.kp0 rfl (by first | rfl | exact DT (by omega) | exact DF (by omega) | exact beq_iff_eq.2 (by omega) | exact beq_false_of_ne (by omega) | exact bne_iff_ne.2 (by omega) | exact bne_eq_false_iff_eq.2 (by omega) | assumption | exact beq_self_eq_true _ | exact congrArg not (beq_self_eq_true _)) rfl rfl ?_; clear hS; intro a hS)
  refine Sq.nil ?_
  refine then_n ?_
  refine c_condF hS rfl (DF (by omega)) ?_
  refine wp_skip ?_
  refine then_n ?_
  refine c_seq ?_
  refine reg_plain w0 (Nobody) ?_
  refine r_move hS hH.kp0 rfl rfl ?_; clear hS; intro a hS
  refine r_call (l := []) hS rfl rfl Fc.fn27 rfl ?_
  refine Calls.mono (rNew_c _) ?_
  rintro e w1 ⟨gb, rfl, hgb, hgk, hE⟩
  have hgb0 := Nat.le_trans hH.mod.size hgb
  replace hH := (hH.ext hE).know hgk (fun p hp => by simp at hp)
  refine ⟨_, rfl, hH.kp0, ?_⟩
  clear hS; intro a hS
  refine r_call (l := []) hS rfl rfl Fc.fn27 rfl ?_
  refine Calls.mono (rNew_c _) ?_
  rintro e w1 ⟨hb, rfl, hhb, hhk, hE⟩
  have hgl := lt_of_block (hH.get (b := gb) .here)
  replace hH := (hH.ext hE).know hhk (by intro p hp; simp at hp; subst hp; exact Nat.ne_of_lt (Nat.lt_of_lt_of_le hgl hhb))
  have hhl := lt_of_block (hH.get (b := hb) .here)
  refine ⟨_, rfl, hH.kp0, ?_⟩
  clear hS; intro a hS
  refine r_buildS (parts := [(0, .tmp 10), (4, .tmp 11), (5, .tmp 12)]) hS hH.kp0 rfl rfl Fc.zc70 Fc.pl70 (by rfl) ?_; clear hS; intro a hS
  refine r_box hS hH (by repeat (first | exact Sub.nil | refine Sub.cons ?_ ?_ | exact In.here | refine In.there ?_)) rfl rfl rfl ?_
  clear hS hH; intro a w ob hob hwob hS hH
  refine r_assign hS hH.kp0 rfl rfl ?_; clear hS; intro a hS
  refine r_assign hS hH.kp0 rfl rfl ?_; clear hS; intro a hS
  refine Sq.nil ?_
  refine then_n ?_
  refine wp_ret ?_
  exact leave (.inl rfl) hS rfl (Res.tmp rfl (Res.tmp rfl Res.nil)) ⟨ob, gb, hb, rfl, hgb0, Nat.lt_of_lt_of_le hgl hhb, Nat.lt_of_lt_of_le hhl hwob, hH.get (by repeat (first | exact In.here | refine In.there ?_)), hH.get (by repeat (first | exact In.here | refine In.there ?_)), hH.get (by repeat (first | exact In.here | refine In.there ?_)), hH.mod⟩

set_option maxRecDepth 100000 in
set_option maxHeartbeats 400000 in
theorem none_c (ob gb hb room base sent kl kc : Nat) (q : Option Addr) (en : Int) (w0 : World) (hz : w0.heap[ob]? = some (.cells ([.int .i64 (room : Int), .int .i64 (base : Int), .slice q kl kc, .int .i64 (sent : Int), .pointer (some ⟨gb, 0, none⟩), .pointer (some ⟨hb, 0, none⟩), .int .i64 en] : List Value).toArray 70 (0, 0))) : Calls Try.prog 28 #[.pointer (some ⟨ob, 0, none⟩)] w0 fun e w' => e = .returned (.bool false) ∧ Ext w0 w' := by
  refine enter Try.func28 rfl rfl rfl ?_
  intro a hS
  have hH := Hp.start w0 (Nobody)
  replace hH := hH.know hz (by intro p hp; simp at hp)
  refine c_seq ?_
  refine reg_plain w0 (Nobody) ?_
  refine r_assign hS hH.kp0 rfl rfl ?_; clear hS; intro a hS
  refine Sq.nil ?_
  refine then_n ?_
  refine c_seq ?_
  refine reg_plain w0 (Nobody) ?_
  refine r_move hS hH.kp0 rfl rfl ?_; clear hS; intro a hS
  refine r_ptrNil hS hH.kp0 rfl Fc.isPtr23 rfl ?_; clear hS; intro a hS
  refine r_move hS hH.kp0 rfl rfl ?_; clear hS; intro a hS
  first
    | (refine Sq.guardYes hS rfl rfl (by first | rfl | exact DT (by omega) | exact DF (by omega) | exact beq_iff_eq.2 (by omega) | exact beq_false_of_ne (by omega) | exact bne_iff_ne.2 (by omega) | exact bne_eq_false_iff_eq.2 (by omega) | assumption | exact beq_self_eq_true _ | exact congrArg not (beq_self_eq_true _)) ?_; refine r_move hS hH.kp0 rfl rfl ?_; clear hS; intro a hS)
    | (refine Sq.guardNo hS rfl rfl (by first | rfl | exact DT (by omega) | exact DF (by omega) | exact beq_iff_eq.2 (by omega) | exact beq_false_of_ne (by omega) | exact bne_iff_ne.2 (by omega) | exact bne_eq_false_iff_eq.2 (by omega) | assumption | exact beq_self_eq_true _ | exact congrArg not (beq_self_eq_true _)) hH.kp0 rfl ?_; clear hS; intro a hS)
    | (refine Sq.guardOff hS rfl rfl hH.kp0 rfl ?_; clear hS; intro a hS)
  first
    | (refine Sq.guardYes hS rfl rfl (by first | rfl | exact DT (by omega) | exact DF (by omega) | exact beq_iff_eq.2 (by omega) | exact beq_false_of_ne (by omega) | exact bne_iff_ne.2 (by omega) | exact bne_eq_false_iff_eq.2 (by omega) | assumption | exact beq_self_eq_true _ | exact congrArg not (beq_self_eq_true _)) ?_; refine r_nilCheck hS hH.kp0 rfl rfl ?_; clear hS; intro a hS)
    | (refine Sq.guardNo hS rfl rfl (by first | rfl | exact DT (by omega) | exact DF (by omega) | exact beq_iff_eq.2 (by omega) | exact beq_false_of_ne (by omega) | exact bne_iff_ne.2 (by omega) | exact bne_eq_false_iff_eq.2 (by omega) | assumption | exact beq_self_eq_true _ | exact congrArg not (beq_self_eq_true _)) hH.kp0 rfl ?_; clear hS; intro a hS)
    | (refine Sq.guardOff hS rfl rfl hH.kp0 rfl ?_; clear hS; intro a hS)
  first
    | (refine Sq.guardYes hS rfl rfl (by first | rfl | exact DT (by omega) | exact DF (by omega) | exact beq_iff_eq.2 (by omega) | exact beq_false_of_ne (by omega) | exact bne_iff_ne.2 (by omega) | exact bne_eq_false_iff_eq.2 (by omega) | assumption | exact beq_self_eq_true _ | exact congrArg not (beq_self_eq_true _)) ?_; refine r_fieldAddr hS hH.kp0 rfl Fc.fo70_4 rfl ?_; clear hS; intro a hS)
    | (refine Sq.guardNo hS rfl rfl (by first | rfl | exact DT (by omega) | exact DF (by omega) | exact beq_iff_eq.2 (by omega) | exact beq_false_of_ne (by omega) | exact bne_iff_ne.2 (by omega) | exact bne_eq_false_iff_eq.2 (by omega) | assumption | exact beq_self_eq_true _ | exact congrArg not (beq_self_eq_true _)) hH.kp0 rfl ?_; clear hS; intro a hS)
    | (refine Sq.guardOff hS rfl rfl hH.kp0 rfl ?_; clear hS; intro a hS)
  first
    | (refine Sq.guardYes hS rfl rfl (by first | rfl | exact DT (by omega) | exact DF (by omega) | exact beq_iff_eq.2 (by omega) | exact beq_false_of_ne (by omega) | exact bne_iff_ne.2 (by omega) | exact bne_eq_false_iff_eq.2 (by omega) | assumption | exact beq_self_eq_true _ | exact congrArg not (beq_self_eq_true _)) ?_; refine r_load_sc hS hH (by repeat (first | exact Sub.nil | refine Sub.cons ?_ ?_ | exact In.here | refine In.there ?_)) rfl (by repeat (first | exact In.here | refine In.there ?_)) Fc.sc67 (by rfl) rfl ?_; clear hS; intro a hS)
    | (refine Sq.guardNo hS rfl rfl (by first | rfl | exact DT (by omega) | exact DF (by omega) | exact beq_iff_eq.2 (by omega) | exact beq_false_of_ne (by omega) | exact bne_iff_ne.2 (by omega) | exact bne_eq_false_iff_eq.2 (by omega) | assumption | exact beq_self_eq_true _ | exact congrArg not (beq_self_eq_true _)) hH.kp0 rfl ?_; clear hS; intro a hS)
    | (refine Sq.guardOff hS rfl rfl hH.kp0 rfl ?_; clear hS; intro a hS)
  first
    | (refine Sq.guardYes hS rfl rfl (by first | rfl | exact DT (by omega) | exact DF (by omega) | exact beq_iff_eq.2 (by omega) | exact beq_false_of_ne (by omega) | exact bne_iff_ne.2 (by omega) | exact bne_eq_false_iff_eq.2 (by omega) | assumption | exact beq_self_eq_true _ | exact congrArg not (beq_self_eq_true _)) ?_; refine r_ptrNil hS hH.kp0 rfl Fc.isPtr67 rfl ?_; clear hS; intro a hS)
    | (refine Sq.guardNo hS rfl rfl (by first | rfl | exact DT (by omega) | exact DF (by omega) | exact beq_iff_eq.2 (by omega) | exact beq_false_of_ne (by omega) | exact bne_iff_ne.2 (by omega) | exact bne_eq_false_iff_eq.2 (by omega) | assumption | exact beq_self_eq_true _ | exact congrArg not (beq_self_eq_true _)) hH.kp0 rfl ?_; clear hS; intro a hS)
    | (refine Sq.guardOff hS rfl rfl hH.kp0 rfl ?_; clear hS; intro a hS)
  first
    | (refine r_pickT hS hH.kp0 rfl (by first | rfl | exact DT (by omega) | exact DF (by omega) | exact beq_iff_eq.2 (by omega) | exact beq_false_of_ne (by omega) | exact bne_iff_ne.2 (by omega) | exact bne_eq_false_iff_eq.2 (by omega) | assumption | exact beq_self_eq_true _ | exact congrArg not (beq_self_eq_true _)) rfl rfl ?_; clear hS; intro a hS)
    | (refine r_pickF hS hH.kp0 rfl (by first | rfl | exact DT (by omega) | exact DF (by omega) | exact beq_iff_eq.2 (by omega) | exact beq_false_of_ne (by omega) | exact bne_iff_ne.2 (by omega) | exact bne_eq_false_iff_eq.2 (by omega) | assumption | exact beq_self_eq_true _ | exact congrArg not (beq_self_eq_true _)) rfl rfl ?_; clear hS; intro a hS)
  refine r_assign hS hH.kp0 rfl rfl ?_; clear hS; intro a hS
  refine Sq.nil ?_
  refine then_n ?_
  refine wp_ret ?_
  exact leave (.inl rfl) hS rfl (Res.tmp rfl Res.nil) ⟨rfl, hH.mod⟩

set_option maxRecDepth 100000 in
set_option maxHeartbeats 400000 in
theorem written_c (ob gb hb room base sent kl kc : Nat) (q : Option Addr) (en : Int) (hbk : base + kl ≤ 1099511627776) (w0 : World) (hz : w0.heap[ob]? = some (.cells ([.int .i64 (room : Int), .int .i64 (base : Int), .slice q kl kc, .int .i64 (sent : Int), .pointer (some ⟨gb, 0, none⟩), .pointer (some ⟨hb, 0, none⟩), .int .i64 en] : List Value).toArray 70 (0, 0))) : Calls Try.prog 32 #[.pointer (some ⟨ob, 0, none⟩)] w0 fun e w' => e = .returned (.int .i64 ((base + kl : Nat) : Int)) ∧ Ext w0 w' := by
  refine enter Try.func32 rfl rfl rfl ?_
  intro a hS
  have hH := Hp.start w0 (Nobody)
  replace hH := hH.know hz (by intro p hp; simp at hp)
  refine c_seq ?_
  refine reg_plain w0 (Nobody) ?_
  refine r_assign hS hH.kp0 rfl rfl ?_; clear hS; intro a hS
  refine Sq.nil ?_
  refine then_n ?_
  refine c_seq ?_
  refine reg_draw [(true, 0, []), (true, 1, []), (true, 2, []), (true, 3, []), (true, 4, []), (true, 5, []), (true, 6, []), (true, 7, []), (true, 8, []), (true, 9, []), (true, 10, [])] Fc.mixed (by kernel_rfl) (by kernel_rfl) (by kernel_rfl) (by kernel_rfl) (by kernel_rfl) (by repeat (first | with_reducible exact steady_body | with_reducible exact steady_bodyQ | with_reducible apply steady_block | with_reducible apply steady_then | with_reducible apply steady_scope | exact steady_body)) hH ?_
  replace hH := hH.drew
  refine r_move hS trivial rfl rfl ?_; clear hS; intro a hS
  refine r_nilCheck hS trivial rfl rfl ?_; clear hS; intro a hS
  refine r_fieldAddr hS trivial rfl Fc.fo70_1 rfl ?_; clear hS; intro a hS
  refine r_load_scS hS rfl (by repeat (first | exact In.here | refine In.there ?_)) Fc.sc3 (by rfl) rfl ?_; clear hS; intro a hS
  refine r_move hS trivial rfl rfl ?_; clear hS; intro a hS
  refine r_nilCheck hS trivial rfl rfl ?_; clear hS; intro a hS
  refine r_fieldAddr hS trivial rfl Fc.fo70_2 rfl ?_; clear hS; intro a hS
  refine r_load_scS hS rfl (by repeat (first | exact In.here | refine In.there ?_)) Fc.sc22 (by rfl) rfl ?_; clear hS; intro a hS
  refine r_lenSl hS trivial rfl Fc.isSlice22 rfl ?_; clear hS; intro a hS
  (first | refine r_add hS trivial rfl rfl rfl (by omega) ?_ | refine r_addw hS trivial rfl rfl rfl ?_)
  clear hS; intro a hS
  refine r_assign hS trivial rfl rfl ?_; clear hS; intro a hS
  refine Sq.nil ?_
  refine then_n ?_
  refine wp_ret ?_
  rw [show (base : Int) + (kl : Int) = ((base + kl : Nat) : Int) by omega] at hS
  exact leave (.inl rfl) hS rfl (Res.tmp rfl Res.nil) ⟨rfl, hH.mod⟩

set_option maxRecDepth 100000 in
set_option maxHeartbeats 400000 in
theorem snone_c (gb : Nat) (w0 : World) (hg : w0.heap[gb]? = some (.cells ([.bool true, .slice none 0 0] : List Value).toArray 89 (0, 0))) : Calls Try.prog 53 #[.pointer (some ⟨gb, 0, none⟩)] w0 fun e w' => e = .returned (.bool false) ∧ Ext w0 w' := by
  refine enter Try.func53 rfl rfl rfl ?_
  intro a hS
  have hH := Hp.start w0 (Nobody)
  replace hH := hH.know hg (by intro p hp; simp at hp)
  refine c_seq ?_
  refine reg_plain w0 (Nobody) ?_
  refine r_assign hS hH.kp0 rfl rfl ?_; clear hS; intro a hS
  refine Sq.nil ?_
  refine then_n ?_
  refine c_seq ?_
  refine reg_plain w0 (Nobody) ?_
  refine r_move hS hH.kp0 rfl rfl ?_; clear hS; intro a hS
  refine r_ptrNil hS hH.kp0 rfl Fc.isPtr67 rfl ?_; clear hS; intro a hS
  refine r_move hS hH.kp0 rfl rfl ?_; clear hS; intro a hS
  first
    | (refine Sq.guardYes hS rfl rfl (by first | rfl | exact DT (by omega) | exact DF (by omega) | exact beq_iff_eq.2 (by omega) | exact beq_false_of_ne (by omega) | exact bne_iff_ne.2 (by omega) | exact bne_eq_false_iff_eq.2 (by omega) | assumption | exact beq_self_eq_true _ | exact congrArg not (beq_self_eq_true _)) ?_; refine r_move hS hH.kp0 rfl rfl ?_; clear hS; intro a hS)
    | (refine Sq.guardNo hS rfl rfl (by first | rfl | exact DT (by omega) | exact DF (by omega) | exact beq_iff_eq.2 (by omega) | exact beq_false_of_ne (by omega) | exact bne_iff_ne.2 (by omega) | exact bne_eq_false_iff_eq.2 (by omega) | assumption | exact beq_self_eq_true _ | exact congrArg not (beq_self_eq_true _)) hH.kp0 rfl ?_; clear hS; intro a hS)
    | (refine Sq.guardOff hS rfl rfl hH.kp0 rfl ?_; clear hS; intro a hS)
  first
    | (refine Sq.guardYes hS rfl rfl (by first | rfl | exact DT (by omega) | exact DF (by omega) | exact beq_iff_eq.2 (by omega) | exact beq_false_of_ne (by omega) | exact bne_iff_ne.2 (by omega) | exact bne_eq_false_iff_eq.2 (by omega) | assumption | exact beq_self_eq_true _ | exact congrArg not (beq_self_eq_true _)) ?_; refine r_nilCheck hS hH.kp0 rfl rfl ?_; clear hS; intro a hS)
    | (refine Sq.guardNo hS rfl rfl (by first | rfl | exact DT (by omega) | exact DF (by omega) | exact beq_iff_eq.2 (by omega) | exact beq_false_of_ne (by omega) | exact bne_iff_ne.2 (by omega) | exact bne_eq_false_iff_eq.2 (by omega) | assumption | exact beq_self_eq_true _ | exact congrArg not (beq_self_eq_true _)) hH.kp0 rfl ?_; clear hS; intro a hS)
    | (refine Sq.guardOff hS rfl rfl hH.kp0 rfl ?_; clear hS; intro a hS)
  first
    | (refine Sq.guardYes hS rfl rfl (by first | rfl | exact DT (by omega) | exact DF (by omega) | exact beq_iff_eq.2 (by omega) | exact beq_false_of_ne (by omega) | exact bne_iff_ne.2 (by omega) | exact bne_eq_false_iff_eq.2 (by omega) | assumption | exact beq_self_eq_true _ | exact congrArg not (beq_self_eq_true _)) ?_; refine r_fieldAddr hS hH.kp0 rfl Fc.fo89_0 rfl ?_; clear hS; intro a hS)
    | (refine Sq.guardNo hS rfl rfl (by first | rfl | exact DT (by omega) | exact DF (by omega) | exact beq_iff_eq.2 (by omega) | exact beq_false_of_ne (by omega) | exact bne_iff_ne.2 (by omega) | exact bne_eq_false_iff_eq.2 (by omega) | assumption | exact beq_self_eq_true _ | exact congrArg not (beq_self_eq_true _)) hH.kp0 rfl ?_; clear hS; intro a hS)
    | (refine Sq.guardOff hS rfl rfl hH.kp0 rfl ?_; clear hS; intro a hS)
  first
    | (refine Sq.guardYes hS rfl rfl (by first | rfl | exact DT (by omega) | exact DF (by omega) | exact beq_iff_eq.2 (by omega) | exact beq_false_of_ne (by omega) | exact bne_iff_ne.2 (by omega) | exact bne_eq_false_iff_eq.2 (by omega) | assumption | exact beq_self_eq_true _ | exact congrArg not (beq_self_eq_true _)) ?_; refine r_load_sc hS hH (by repeat (first | exact Sub.nil | refine Sub.cons ?_ ?_ | exact In.here | refine In.there ?_)) rfl (by repeat (first | exact In.here | refine In.there ?_)) Fc.sc4 (by rfl) rfl ?_; clear hS; intro a hS)
    | (refine Sq.guardNo hS rfl rfl (by first | rfl | exact DT (by omega) | exact DF (by omega) | exact beq_iff_eq.2 (by omega) | exact beq_false_of_ne (by omega) | exact bne_iff_ne.2 (by omega) | exact bne_eq_false_iff_eq.2 (by omega) | assumption | exact beq_self_eq_true _ | exact congrArg not (beq_self_eq_true _)) hH.kp0 rfl ?_; clear hS; intro a hS)
    | (refine Sq.guardOff hS rfl rfl hH.kp0 rfl ?_; clear hS; intro a hS)
  first
    | (refine Sq.guardYes hS rfl rfl (by first | rfl | exact DT (by omega) | exact DF (by omega) | exact beq_iff_eq.2 (by omega) | exact beq_false_of_ne (by omega) | exact bne_iff_ne.2 (by omega) | exact bne_eq_false_iff_eq.2 (by omega) | assumption | exact beq_self_eq_true _ | exact congrArg not (beq_self_eq_true _)) ?_; refine r_not hS hH.kp0 rfl rfl ?_; clear hS; intro a hS)
    | (refine Sq.guardNo hS rfl rfl (by first | rfl | exact DT (by omega) | exact DF (by omega) | exact beq_iff_eq.2 (by omega) | exact beq_false_of_ne (by omega) | exact bne_iff_ne.2 (by omega) | exact bne_eq_false_iff_eq.2 (by omega) | assumption | exact beq_self_eq_true _ | exact congrArg not (beq_self_eq_true _)) hH.kp0 rfl ?_; clear hS; intro a hS)
    | (refine Sq.guardOff hS rfl rfl hH.kp0 rfl ?_; clear hS; intro a hS)
  first
    | (refine r_pickT hS hH.kp0 rfl (by first | rfl | exact DT (by omega) | exact DF (by omega) | exact beq_iff_eq.2 (by omega) | exact beq_false_of_ne (by omega) | exact bne_iff_ne.2 (by omega) | exact bne_eq_false_iff_eq.2 (by omega) | assumption | exact beq_self_eq_true _ | exact congrArg not (beq_self_eq_true _)) rfl rfl ?_; clear hS; intro a hS)
    | (refine r_pickF hS hH.kp0 rfl (by first | rfl | exact DT (by omega) | exact DF (by omega) | exact beq_iff_eq.2 (by omega) | exact beq_false_of_ne (by omega) | exact bne_iff_ne.2 (by omega) | exact bne_eq_false_iff_eq.2 (by omega) | assumption | exact beq_self_eq_true _ | exact congrArg not (beq_self_eq_true _)) rfl rfl ?_; clear hS; intro a hS)
  refine r_assign hS hH.kp0 rfl rfl ?_; clear hS; intro a hS
  refine Sq.nil ?_
  refine then_n ?_
  refine wp_ret ?_
  exact leave (.inl rfl) hS rfl (Res.tmp rfl Res.nil) ⟨rfl, hH.mod⟩

set_option maxRecDepth 100000 in
set_option maxHeartbeats 400000 in
theorem sclone_nil (w0 : World) : Calls Try.prog 56 #[.slice none 0 0] w0 fun e w' => e = .returned (.slice none 0 0) ∧ Ext w0 w' := by
  refine enter Try.func56 rfl rfl rfl ?_
  intro a hS
  have hH := Hp.start w0 (Nobody)
  refine c_seq ?_
  refine reg_plain w0 (Nobody) ?_
  refine r_assign hS hH.kp0 rfl rfl ?_; clear hS; intro a hS
  refine Sq.nil ?_
  refine then_n ?_
  refine c_seq ?_
  refine c_seq ?_
  refine reg_plain w0 (Nobody) ?_
  refine r_move hS hH.kp0 rfl rfl ?_; clear hS; intro a hS
  refine r_slNil hS hH.kp0 rfl Fc.isSlice87 rfl ?_; clear hS; intro a hS
  refine Sq.nil ?_
  refine then_n ?_
  refine c_condT hS rfl rfl ?_
  refine c_seq ?_
  refine reg_plain w0 (Nobody) ?_
  refine r_assign hS hH.kp0 rfl rfl ?_; clear hS; intro a hS
  refine Sq.nil ?_
  refine then_n ?_
  refine wp_ret ?_
  refine then_r ?_
  exact leave (.inl rfl) hS rfl (Res.tmp rfl Res.nil) ⟨rfl, hH.mod⟩

set_option maxRecDepth 100000 in
set_option maxHeartbeats 400000 in
theorem All_c (v : Value) (hv : v.cells = [v].toArray) (w0 : World) : Calls Try.prog 47 #[v] w0 fun e w' => ∃ bb, e = .returned (.func (.func 55) #[] #[.pointer (some ⟨bb, 0, none⟩)]) ∧ w0.heap.size ≤ bb ∧ w'.heap[bb]? = some (.cells [v].toArray 67 (0, 0)) ∧ Ext w0 w' := by
  refine enter Try.func47 rfl rfl rfl ?_
  intro a hS
  have hH := Hp.start w0 (Nobody)
  refine c_seq ?_
  refine reg_plain w0 (Nobody) ?_
  refine r_box hS hH (by repeat (first | exact Sub.nil | refine Sub.cons ?_ ?_ | exact In.here | refine In.there ?_)) rfl hv rfl ?_
  clear hS hH; intro a w bb hbb hwbb hS hH
  refine r_assign hS hH.kp0 rfl rfl ?_; clear hS; intro a hS
  refine Sq.nil ?_
  refine then_n ?_
  refine c_seq ?_
  refine reg_plain w0 (Nobody) ?_
  refine r_makeFunc hS hH.kp0 rfl rfl rfl ?_; clear hS; intro a hS
  refine r_assign hS hH.kp0 rfl rfl ?_; clear hS; intro a hS
  refine Sq.nil ?_
  refine then_n ?_
  refine wp_ret ?_
  exact leave (.inl rfl) hS rfl (Res.tmp rfl Res.nil) ⟨bb, rfl, hbb, hH.get .here, hH.mod⟩

set_option maxRecDepth 100000 in
set_option maxHeartbeats 400000 in
theorem All1_nil (y : Value) (bb gb : Nat) (hne : bb ≠ gb) (w0 : World) (hb : w0.heap[bb]? = some (.cells [.pointer (some ⟨gb, 0, none⟩)].toArray 67 (0, 0))) (hg : w0.heap[gb]? = some (.cells ([.bool true, .slice none 0 0] : List Value).toArray 89 (0, 0))) : Calls Try.prog 55 #[y, .pointer (some ⟨bb, 0, none⟩)] w0 fun e w' => (∃ v, e = .returned v) ∧ Ext w0 w' := by
  refine enter Try.func55 rfl rfl rfl ?_
  intro a hS
  have hH := Hp.start w0 (Nobody)
  replace hH := (hH.know hg (by intro p hp; simp at hp)).know hb (by intro p hp; simp at hp; subst hp; exact hne.symm)
  refine c_seq ?_
  refine c_seq ?_
  refine reg_plain w0 (Nobody) ?_
  refine r_load_sc hS hH (by repeat (first | exact Sub.nil | refine Sub.cons ?_ ?_ | exact In.here | refine In.there ?_)) rfl (by repeat (first | exact In.here | refine In.there ?_)) Fc.sc67 (by rfl) rfl ?_; clear hS; intro a hS
  refine r_call (l := [.tmp 5]) hS rfl rfl Fc.fn53 rfl ?_
  refine Calls.mono (snone_c gb _ (hH.get (b := gb) (by repeat (first | exact In.here | refine In.there ?_)))) ?_
  rintro e w1 ⟨rfl, hE⟩
  replace hH := hH.ext hE
  refine ⟨_, rfl, hH.kp0, ?_⟩
  clear hS; intro a hS
  refine Sq.nil ?_
  refine then_n ?_
  refine c_condF hS rfl rfl ?_
  refine wp_skip ?_
  refine then_n ?_
  refine c_seq ?_
  refine reg_plain w0 (Nobody) ?_
  refine r_load_sc hS hH (by repeat (first | exact Sub.nil | refine Sub.cons ?_ ?_ | exact In.here | refine In.there ?_)) rfl (by repeat (first | exact In.here | refine In.there ?_)) Fc.sc67 (by rfl) rfl ?_; clear hS; intro a hS
  refine r_nilCheck hS hH.kp0 rfl rfl ?_; clear hS; intro a hS
  refine r_fieldAddr hS hH.kp0 rfl Fc.fo89_1 rfl ?_; clear hS; intro a hS
  refine r_load_sc hS hH (by repeat (first | exact Sub.nil | refine Sub.cons ?_ ?_ | exact In.here | refine In.there ?_)) rfl (by repeat (first | exact In.here | refine In.there ?_)) Fc.sc87 (by rfl) rfl ?_; clear hS; intro a hS
  refine r_call (l := [.tmp 10]) hS rfl rfl Fc.fn56 rfl ?_
  refine Calls.mono (sclone_nil _) ?_
  rintro e w1 ⟨rfl, hE⟩
  replace hH := hH.ext hE
  refine ⟨_, rfl, hH.kp0, ?_⟩
  clear hS; intro a hS
  refine r_lenSl hS hH.kp0 rfl Fc.isSlice87 rfl ?_; clear hS; intro a hS
  refine r_move hS hH.kp0 rfl rfl ?_; clear hS; intro a hS
  refine Sq.nil ?_
  refine then_n ?_
  refine wp_block ?_
  refine wp_loop_rounds 1 ?_
  refine rnd ?_
  refine c_seq ?_
  refine reg_plain w0 (Nobody) ?_
  refine r_lss hS hH.kp0 rfl rfl rfl ?_; clear hS; intro a hS
  refine Sq.nil ?_
  refine then_n ?_
  refine c_seq ?_
  refine c_condF hS rfl rfl ?_
  refine wp_exit ?_
  refine then_e ?_
  refine then_e ?_
  refine blk_hit ?_
  exact leave (.inr rfl) hS rfl Res.nil ⟨⟨_, rfl⟩, hH.mod⟩

set_option maxRecDepth 100000 in
set_option maxHeartbeats 400000 in
theorem swrong_c (gb x y : Nat) (hxy : x ≤ y) (hy : y ≤ 1099511627776) (w0 : World) (hg : w0.heap[gb]? = some (.cells ([.bool true, .slice none 0 0] : List Value).toArray 89 (0, 0))) : Calls Try.prog 49 #[.pointer (some ⟨gb, 0, none⟩), .int .i64 (x : Int), .int .i64 (y : Int)] w0 fun e w' => e = .returned (.int .i64 0) ∧ Ext w0 w' := by
  refine enter Try.func49 rfl rfl rfl ?_
  intro a hS
  have hH := Hp.start w0 (Nobody)
  replace hH := hH.know hg (by intro p hp; simp at hp)
  refine c_seq ?_
  refine reg_plain w0 (Nobody) ?_
  refine r_assign hS hH.kp0 rfl rfl ?_; clear hS; intro a hS
  refine Sq.nil ?_
  refine then_n ?_
  refine c_seq ?_
  refine wp_block ?_
  refine c_seq ?_
  refine reg_plain w0 (Nobody) ?_
  refine r_move hS hH.kp0 rfl rfl ?_; clear hS; intro a hS
  refine r_call (l := [.tmp 8]) hS rfl rfl Fc.fn53 rfl ?_
  refine Calls.mono (snone_c gb _ (hH.get (b := gb) (by repeat (first | exact In.here | refine In.there ?_)))) ?_
  rintro e w1 ⟨rfl, hE⟩
  replace hH := hH.ext hE
  refine ⟨_, rfl, hH.kp0, ?_⟩
  clear hS; intro a hS
  refine r_assign hS hH.kp0 rfl rfl ?_; clear hS; intro a hS
  refine Sq.nil ?_
  refine then_n ?_
  refine c_condF hS rfl rfl ?_
  refine c_seq ?_
  refine reg_plain w0 (Nobody) ?_
  refine r_move hS hH.kp0 rfl rfl ?_; clear hS; intro a hS
  refine r_lss hS hH.kp0 rfl rfl rfl ?_; clear hS; intro a hS
  refine r_move hS hH.kp0 rfl rfl ?_; clear hS; intro a hS
  first
    | (refine Sq.guardYes hS rfl rfl (by first | rfl | exact DT (by omega) | exact DF (by omega) | exact beq_iff_eq.2 (by omega) | exact beq_false_of_ne (by omega) | exact bne_iff_ne.2 (by omega) | exact bne_eq_false_iff_eq.2 (by omega) | assumption | exact beq_self_eq_true _ | exact congrArg not (beq_self_eq_true _)) ?_; refine r_move hS hH.kp0 rfl rfl ?_; clear hS; intro a hS)
    | (refine Sq.guardNo hS rfl rfl (by first | rfl | exact DT (by omega) | exact DF (by omega) | exact beq_iff_eq.2 (by omega) | exact beq_false_of_ne (by omega) | exact bne_iff_ne.2 (by omega) | exact bne_eq_false_iff_eq.2 (by omega) | assumption | exact beq_self_eq_true _ | exact congrArg not (beq_self_eq_true _)) hH.kp0 rfl ?_; clear hS; intro a hS)
    | (refine Sq.guardOff hS rfl rfl hH.kp0 rfl ?_; clear hS; intro a hS)
  first
    | (refine Sq.guardYes hS rfl rfl (by first | rfl | exact DT (by omega) | exact DF (by omega) | exact beq_iff_eq.2 (by omega) | exact beq_false_of_ne (by omega) | exact bne_iff_ne.2 (by omega) | exact bne_eq_false_iff_eq.2 (by omega) | assumption | exact beq_self_eq_true _ | exact congrArg not (beq_self_eq_true _)) ?_; refine r_gtr hS hH.kp0 rfl rfl rfl ?_; clear hS; intro a hS)
    | (refine Sq.guardNo hS rfl rfl (by first | rfl | exact DT (by omega) | exact DF (by omega) | exact beq_iff_eq.2 (by omega) | exact beq_false_of_ne (by omega) | exact bne_iff_ne.2 (by omega) | exact bne_eq_false_iff_eq.2 (by omega) | assumption | exact beq_self_eq_true _ | exact congrArg not (beq_self_eq_true _)) hH.kp0 rfl ?_; clear hS; intro a hS)
    | (refine Sq.guardOff hS rfl rfl hH.kp0 rfl ?_; clear hS; intro a hS)
  first
    | (refine r_pickT hS hH.kp0 rfl (by first | rfl | exact DT (by omega) | exact DF (by omega) | exact beq_iff_eq.2 (by omega) | exact beq_false_of_ne (by omega) | exact bne_iff_ne.2 (by omega) | exact bne_eq_false_iff_eq.2 (by omega) | assumption | exact beq_self_eq_true _ | exact congrArg not (beq_self_eq_true _)) rfl rfl ?_; clear hS; intro a hS)
    | (refine r_pickF hS hH.kp0 rfl (by first | rfl | exact DT (by omega) | exact DF (by omega) | exact beq_iff_eq.2 (by omega) | exact beq_false_of_ne (by omega) | exact bne_iff_ne.2 (by omega) | exact bne_eq_false_iff_eq.2 (by omega) | assumption | exact beq_self_eq_true _ | exact congrArg not (beq_self_eq_true _)) rfl rfl ?_; clear hS; intro a hS)
  refine r_move hS hH.kp0 rfl rfl ?_; clear hS; intro a hS
  first
    | (refine Sq.guardYes hS rfl rfl (by first | rfl | exact DT (by omega) | exact DF (by omega) | exact beq_iff_eq.2 (by omega) | exact beq_false_of_ne (by omega) | exact bne_iff_ne.2 (by omega) | exact bne_eq_false_iff_eq.2 (by omega) | assumption | exact beq_self_eq_true _ | exact congrArg not (beq_self_eq_true _)) ?_; refine r_move hS hH.kp0 rfl rfl ?_; clear hS; intro a hS)
    | (refine Sq.guardNo hS rfl rfl (by first | rfl | exact DT (by omega) | exact DF (by omega) | exact beq_iff_eq.2 (by omega) | exact beq_false_of_ne (by omega) | exact bne_iff_ne.2 (by omega) | exact bne_eq_false_iff_eq.2 (by omega) | assumption | exact beq_self_eq_true _ | exact congrArg not (beq_self_eq_true _)) hH.kp0 rfl ?_; clear hS; intro a hS)
    | (refine Sq.guardOff hS rfl rfl hH.kp0 rfl ?_; clear hS; intro a hS)
  first
    | (refine Sq.guardYes hS rfl rfl (by first | rfl | exact DT (by omega) | exact DF (by omega) | exact beq_iff_eq.2 (by omega) | exact beq_false_of_ne (by omega) | exact bne_iff_ne.2 (by omega) | exact bne_eq_false_iff_eq.2 (by omega) | assumption | exact beq_self_eq_true _ | exact congrArg not (beq_self_eq_true _)) ?_; refine r_move hS hH.kp0 rfl rfl ?_; clear hS; intro a hS)
    | (refine Sq.guardNo hS rfl rfl (by first | rfl | exact DT (by omega) | exact DF (by omega) | exact beq_iff_eq.2 (by omega) | exact beq_false_of_ne (by omega) | exact bne_iff_ne.2 (by omega) | exact bne_eq_false_iff_eq.2 (by omega) | assumption | exact beq_self_eq_true _ | exact congrArg not (beq_self_eq_true _)) hH.kp0 rfl ?_; clear hS; intro a hS)
    | (refine Sq.guardOff hS rfl rfl hH.kp0 rfl ?_; clear hS; intro a hS)
  first
    | (refine Sq.guardYes hS rfl rfl (by first | rfl | exact DT (by omega) | exact DF (by omega) | exact beq_iff_eq.2 (by omega) | exact beq_false_of_ne (by omega) | exact bne_iff_ne.2 (by omega) | exact bne_eq_false_iff_eq.2 (by omega) | assumption | exact beq_self_eq_true _ | exact congrArg not (beq_self_eq_true _)) ?_; refine r_gtr hS hH.kp0 rfl rfl rfl ?_; clear hS; intro a hS)
    | (refine Sq.guardNo hS rfl rfl (by first | rfl | exact DT (by omega) | exact DF (by omega) | exact beq_iff_eq.2 (by omega) | exact beq_false_of_ne (by omega) | exact bne_iff_ne.2 (by omega) | exact bne_eq_false_iff_eq.2 (by omega) | assumption | exact beq_self_eq_true _ | exact congrArg not (beq_self_eq_true _)) hH.kp0 rfl ?_; clear hS; intro a hS)
    | (refine Sq.guardOff hS rfl rfl hH.kp0 rfl ?_; clear hS; intro a hS)
  first
    | (refine r_pickT hS hH.kp0 rfl (by first | rfl | exact DT (by omega) | exact DF (by omega) | exact beq_iff_eq.2 (by omega) | exact beq_false_of_ne (by omega) | exact bne_iff_ne.2 (by omega) | exact bne_eq_false_iff_eq.2 (by omega) | assumption | exact beq_self_eq_true _ | exact congrArg not (beq_self_eq_true _)) rfl rfl ?_; clear hS; intro a hS)
    | (refine r_pickF hS hH.kp0 rfl (by first | rfl | exact DT (by omega) | exact DF (by omega) | exact beq_iff_eq.2 (by omega) | exact beq_false_of_ne (by omega) | exact bne_iff_ne.2 (by omega) | exact bne_eq_false_iff_eq.2 (by omega) | assumption | exact beq_self_eq_true _ | exact congrArg not (beq_self_eq_true _)) rfl rfl ?_; clear hS; intro a hS)
  refine r_assign hS hH.kp0 rfl rfl ?_; clear hS; intro a hS
  refine Sq.nil ?_
  refine then_n ?_
  refine c_condF hS rfl (by first | rfl | exact DT (by omega) | exact DF (by omega) | exact beq_iff_eq.2 (by omega) | exact beq_false_of_ne (by omega) | exact bne_iff_ne.2 (by omega) | exact bne_eq_false_iff_eq.2 (by omega) | assumption | exact beq_self_eq_true _ | exact congrArg not (beq_self_eq_true _)) ?_
  refine wp_skip ?_
  refine blk_n ?_
  refine then_n ?_
  refine c_seq ?_
  refine reg_plain w0 (Nobody) ?_
  refine r_assign hS hH.kp0 rfl rfl ?_; clear hS; intro a hS
  refine Sq.nil ?_
  refine then_n ?_
  refine wp_ret ?_
  exact leave (.inl rfl) hS rfl (Res.tmp rfl Res.nil) ⟨rfl, hH.mod⟩

set_option maxRecDepth 100000 in
set_option maxHeartbeats 400000 in
theorem search_nil (x fv : Value) (w0 : World) : Calls Try.prog 57 #[.slice none 0 0, x, fv] w0 fun e w' => e = .returned (.tuple #[.int .i64 0, .bool false]) ∧ Ext w0 w' := by
  refine enter Try.func57 rfl rfl rfl ?_
  intro a hS
  have hH := Hp.start w0 (Nobody)
  refine c_seq ?_
  refine reg_plain w0 (Nobody) ?_
  refine r_assign hS hH.kp0 rfl rfl ?_; clear hS; intro a hS
  refine r_assign hS hH.kp0 rfl rfl ?_; clear hS; intro a hS
  refine Sq.nil ?_
  refine then_n ?_
  refine c_seq ?_
  refine reg_plain w0 (Nobody) ?_
  refine r_move hS hH.kp0 rfl rfl ?_; clear hS; intro a hS
  refine r_lenSl hS hH.kp0 rfl Fc.isSlice87 rfl ?_; clear hS; intro a hS
  refine r_assign hS hH.kp0 rfl rfl ?_; clear hS; intro a hS
  refine Sq.nil ?_
  refine then_n ?_
  refine c_seq ?_
  refine reg_plain w0 (Nobody) ?_
  refine r_move hS hH.kp0 rfl rfl ?_; clear hS; intro a hS
  refine r_assign hS hH.kp0 rfl rfl ?_; clear hS; intro a hS
  refine r_assign hS hH.kp0 rfl rfl ?_; clear hS; intro a hS
  refine Sq.nil ?_
  refine then_n ?_
  refine c_seq ?_
  refine wp_block ?_
  refine wp_loop_rounds 1 ?_
  refine rnd ?_
  refine c_seq ?_
  refine c_seq ?_
  refine reg_plain w0 (Nobody) ?_
  refine r_move hS hH.kp0 rfl rfl ?_; clear hS; intro a hS
  refine r_move hS hH.kp0 rfl rfl ?_; clear hS; intro a hS
  refine r_lss hS hH.kp0 rfl rfl rfl ?_; clear hS; intro a hS
  refine Sq.nil ?_
  refine then_n ?_
  refine c_condF hS rfl rfl ?_
  refine wp_exit ?_
  refine then_e ?_
  refine then_e ?_
  refine blk_hit ?_
  refine then_n ?_
  refine c_seq ?_
  refine reg_plain w0 (Nobody) ?_
  refine r_move hS hH.kp0 rfl rfl ?_; clear hS; intro a hS
  refine r_move hS hH.kp0 rfl rfl ?_; clear hS; intro a hS
  refine r_move hS hH.kp0 rfl rfl ?_; clear hS; intro a hS
  refine r_lss hS hH.kp0 rfl rfl rfl ?_; clear hS; intro a hS
  refine r_move hS hH.kp0 rfl rfl ?_; clear hS; intro a hS
  refine Sq.guardNo hS rfl rfl rfl hH.kp0 rfl ?_; clear hS; intro a hS
  refine Sq.guardNo hS rfl rfl rfl hH.kp0 rfl ?_; clear hS; intro a hS
  refine Sq.guardNo hS rfl rfl rfl hH.kp0 rfl ?_; clear hS; intro a hS
  refine Sq.guardNo hS rfl rfl rfl hH.kp0 rfl ?_; clear hS; intro a hS
  refine Sq.guardNo hS rfl rfl rfl hH.kp0 rfl ?_; clear hS; intro a hS
  refine Sq.guardNo hS rfl rfl rfl hH.kp0 rfl ?_; clear hS; intro a hS
  refine Sq.guardNo hS rfl rfl rfl hH.kp0 rfl ?_; clear hS; intro a hS
  refine Sq.guardNo hS rfl rfl rfl hH.kp0 rfl ?_; clear hS; intro a hS
  refine r_pickF hS hH.kp0 rfl rfl rfl rfl ?_; clear hS; intro a hS
  refine r_assign hS hH.kp0 rfl rfl ?_; clear hS; intro a hS
  refine r_assign hS hH.kp0 rfl rfl ?_; clear hS; intro a hS
  refine Sq.nil ?_
  refine then_n ?_
  refine wp_ret ?_
  exact leave (.inl rfl) hS rfl (Res.tmp rfl (Res.tmp rfl Res.nil)) ⟨rfl, hH.mod⟩

set_option maxRecDepth 100000 in
set_option maxHeartbeats 400000 in
theorem from_nil (gb : Nat) (x : Value) (w0 : World) (hg : w0.heap[gb]? = some (.cells ([.bool true, .slice none 0 0] : List Value).toArray 89 (0, 0))) : Calls Try.prog 50 #[.pointer (some ⟨gb, 0, none⟩), x] w0 fun e w' => e = .returned (.int .i64 0) ∧ Ext w0 w' := by
  refine enter Try.func50 rfl rfl rfl ?_
  intro a hS
  have hH := Hp.start w0 (Nobody)
  replace hH := hH.know hg (by intro p hp; simp at hp)
  refine c_seq ?_
  refine reg_plain w0 (Nobody) ?_
  refine r_assign hS hH.kp0 rfl rfl ?_; clear hS; intro a hS
  refine Sq.nil ?_
  refine then_n ?_
  refine c_seq ?_
  refine reg_plain w0 (Nobody) ?_
  refine r_move hS hH.kp0 rfl rfl ?_; clear hS; intro a hS
  refine r_nilCheck hS hH.kp0 rfl rfl ?_; clear hS; intro a hS
  refine r_fieldAddr hS hH.kp0 rfl Fc.fo89_1 rfl ?_; clear hS; intro a hS
  refine r_load_sc hS hH (by repeat (first | exact Sub.nil | refine Sub.cons ?_ ?_ | exact In.here | refine In.there ?_)) rfl (by repeat (first | exact In.here | refine In.there ?_)) Fc.sc87 (by rfl) rfl ?_; clear hS; intro a hS
  refine r_move hS hH.kp0 rfl rfl ?_; clear hS; intro a hS
  refine r_call (l := [.tmp 11, .tmp 12, .func 58]) hS rfl rfl Fc.fn57 rfl ?_
  refine Calls.mono (search_nil _ _ _) ?_
  rintro e w1 ⟨rfl, hE⟩
  replace hH := hH.ext hE
  refine ⟨_, rfl, hH.kp0, ?_⟩
  clear hS; intro a hS
  refine r_move hS hH.kp0 rfl rfl ?_; clear hS; intro a hS
  refine r_extract hS hH.kp0 rfl rfl rfl ?_; clear hS; intro a hS
  refine r_extract hS hH.kp0 rfl rfl rfl ?_; clear hS; intro a hS
  refine r_assign hS hH.kp0 rfl rfl ?_; clear hS; intro a hS
  refine r_assign hS hH.kp0 rfl rfl ?_; clear hS; intro a hS
  refine Sq.nil ?_
  refine then_n ?_
  refine c_seq ?_
  refine reg_plain w0 (Nobody) ?_
  refine r_move hS hH.kp0 rfl rfl ?_; clear hS; intro a hS
  refine r_assign hS hH.kp0 rfl rfl ?_; clear hS; intro a hS
  refine Sq.nil ?_
  refine then_n ?_
  refine wp_ret ?_
  exact leave (.inl rfl) hS rfl (Res.tmp rfl Res.nil) ⟨rfl, hH.mod⟩

set_option maxRecDepth 100000 in
set_option maxHeartbeats 400000 in
theorem insert_nil (w0 : World) : Calls Try.prog 59 #[.slice none 0 0, .int .i64 0, .slice none 0 0] w0 fun e w' => e = .returned (.slice none 0 0) ∧ Ext w0 w' := by
  refine enter Try.func59 rfl rfl rfl ?_
  intro a hS
  have hH := Hp.start w0 (Nobody)
  refine c_seq ?_
  refine reg_plain w0 (Nobody) ?_
  refine r_assign hS hH.kp0 rfl rfl ?_; clear hS; intro a hS
  refine Sq.nil ?_
  refine then_n ?_
  refine c_seq ?_
  refine reg_plain w0 (Nobody) ?_
  refine r_move hS hH.kp0 rfl rfl ?_; clear hS; intro a hS
  refine r_move hS hH.kp0 rfl rfl ?_; clear hS; intro a hS
  refine r_slLoN hS hH.kp0 rfl rfl Fc.slb87 rfl ?_; clear hS; intro a hS
  refine Sq.nil ?_
  refine then_n ?_
  refine c_seq ?_
  refine reg_plain w0 (Nobody) ?_
  refine r_move hS hH.kp0 rfl rfl ?_; clear hS; intro a hS
  refine r_lenSl hS hH.kp0 rfl Fc.isSlice87 rfl ?_; clear hS; intro a hS
  refine r_assign hS hH.kp0 rfl rfl ?_; clear hS; intro a hS
  refine Sq.nil ?_
  refine then_n ?_
  refine c_seq ?_
  refine c_seq ?_
  refine reg_plain w0 (Nobody) ?_
  refine r_move hS hH.kp0 rfl rfl ?_; clear hS; intro a hS
  refine r_eql hS hH.kp0 rfl rfl rfl ?_; clear hS; intro a hS
  refine Sq.nil ?_
  refine then_n ?_
  refine c_condT hS rfl rfl ?_
  refine c_seq ?_
  refine reg_plain w0 (Nobody) ?_
  refine r_move hS hH.kp0 rfl rfl ?_; clear hS; intro a hS
  refine r_assign hS hH.kp0 rfl rfl ?_; clear hS; intro a hS
  refine Sq.nil ?_
  refine then_n ?_
  refine wp_ret ?_
  refine then_r ?_
  exact leave (.inl rfl) hS rfl (Res.tmp rfl Res.nil) ⟨rfl, hH.mod⟩

set_option maxRecDepth 100000 in
set_option maxHeartbeats 400000 in
theorem replace_nil (w0 : World) : Calls Try.prog 51 #[.slice none 0 0, .int .i64 0, .int .i64 0, .slice none 0 0] w0 fun e w' => e = .returned (.slice none 0 0) ∧ Ext w0 w' := by
  refine enter Try.func51 rfl rfl rfl ?_
  intro a hS
  have hH := Hp.start w0 (Nobody)
  refine c_seq ?_
  refine reg_plain w0 (Nobody) ?_
  refine r_assign hS hH.kp0 rfl rfl ?_; clear hS; intro a hS
  refine Sq.nil ?_
  refine then_n ?_
  refine c_seq ?_
  refine reg_plain w0 (Nobody) ?_
  refine r_move hS hH.kp0 rfl rfl ?_; clear hS; intro a hS
  refine r_move hS hH.kp0 rfl rfl ?_; clear hS; intro a hS
  refine r_move hS hH.kp0 rfl rfl ?_; clear hS; intro a hS
  refine r_slLoHiN hS hH.kp0 rfl rfl rfl Fc.slb87 rfl ?_; clear hS; intro a hS
  refine Sq.nil ?_
  refine then_n ?_
  refine c_seq ?_
  refine c_seq ?_
  refine reg_plain w0 (Nobody) ?_
  refine r_move hS hH.kp0 rfl rfl ?_; clear hS; intro a hS
  refine r_move hS hH.kp0 rfl rfl ?_; clear hS; intro a hS
  refine r_eql hS hH.kp0 rfl rfl rfl ?_; clear hS; intro a hS
  refine Sq.nil ?_
  refine then_n ?_
  refine c_condT hS rfl rfl ?_
  refine c_seq ?_
  refine reg_plain w0 (Nobody) ?_
  refine r_move hS hH.kp0 rfl rfl ?_; clear hS; intro a hS
  refine r_move hS hH.kp0 rfl rfl ?_; clear hS; intro a hS
  refine r_move hS hH.kp0 rfl rfl ?_; clear hS; intro a hS
  refine r_call (l := [.tmp 22, .tmp 23, .tmp 24]) hS rfl rfl Fc.fn59 rfl ?_
  refine Calls.mono (insert_nil _) ?_
  rintro e w1 ⟨rfl, hE⟩
  replace hH := hH.ext hE
  refine ⟨_, rfl, hH.kp0, ?_⟩
  clear hS; intro a hS
  refine r_assign hS hH.kp0 rfl rfl ?_; clear hS; intro a hS
  refine Sq.nil ?_
  refine then_n ?_
  refine wp_ret ?_
  refine then_r ?_
  exact leave (.inl rfl) hS rfl (Res.tmp rfl Res.nil) ⟨rfl, hH.mod⟩

set_option maxRecDepth 100000 in
set_option maxHeartbeats 400000 in
theorem remove_nil (gb x y : Nat) (hxy : x ≤ y) (hy : y ≤ 1099511627776) (w0 : World) (hg : w0.heap[gb]? = some (.cells ([.bool true, .slice none 0 0] : List Value).toArray 89 (0, 0))) : Calls Try.prog 31 #[.pointer (some ⟨gb, 0, none⟩), .int .i64 (x : Int), .int .i64 (y : Int)] w0 fun e w' => e = .returned (.int .i64 0) ∧ w'.heap[gb]? = some (.cells ([.bool true, .slice none 0 0] : List Value).toArray 89 (0, 0)) ∧ Mod (· = gb) w0 w' := by
  refine enter Try.func31 rfl rfl rfl ?_
  intro a hS
  have hH := Hp.start w0 ((· = gb))
  replace hH := hH.know hg (by intro p hp; simp at hp)
  refine c_seq ?_
  refine reg_plain w0 ((· = gb)) ?_
  refine r_assign hS hH.kp0 rfl rfl ?_; clear hS; intro a hS
  refine Sq.nil ?_
  refine then_n ?_
  refine c_seq ?_
  refine c_seq ?_
  refine reg_plain w0 ((· = gb)) ?_
  refine r_move hS hH.kp0 rfl rfl ?_; clear hS; intro a hS
  refine r_move hS hH.kp0 rfl rfl ?_; clear hS; intro a hS
  refine r_move hS hH.kp0 rfl rfl ?_; clear hS; intro a hS
  refine r_call (l := [.tmp 13, .tmp 14, .tmp 15]) hS rfl rfl Fc.fn49 rfl ?_
  refine Calls.mono (swrong_c gb x y hxy hy _ (hH.get (b := gb) (by repeat (first | exact In.here | refine In.there ?_)))) ?_
  rintro e w1 ⟨rfl, hE⟩
  replace hH := hH.ext hE
  refine ⟨_, rfl, hH.kp0, ?_⟩
  clear hS; intro a hS
  refine r_assign hS hH.kp0 rfl rfl ?_; clear hS; intro a hS
  refine Sq.nil ?_
  refine then_n ?_
  refine c_seq ?_
  refine reg_plain w0 ((· = gb)) ?_
  refine r_move hS hH.kp0 rfl rfl ?_; clear hS; intro a hS
  refine r_neq hS hH.kp0 rfl rfl rfl ?_; clear hS; intro a hS
  refine Sq.nil ?_
  refine then_n ?_
  refine c_condF hS rfl rfl ?_
  refine wp_skip ?_
  refine then_n ?_
  refine c_seq ?_
  refine reg_plain w0 ((· = gb)) ?_
  refine r_move hS hH.kp0 rfl rfl ?_; clear hS; intro a hS
  refine r_move hS hH.kp0 rfl rfl ?_; clear hS; intro a hS
  refine r_call (l := [.tmp 20, .tmp 21]) hS rfl rfl Fc.fn50 rfl ?_
  refine Calls.mono (from_nil gb _ _ (hH.get (b := gb) (by repeat (first | exact In.here | refine In.there ?_)))) ?_
  rintro e w1 ⟨rfl, hE⟩
  replace hH := hH.ext hE
  refine ⟨_, rfl, hH.kp0, ?_⟩
  clear hS; intro a hS
  refine r_assign hS hH.kp0 rfl rfl ?_; clear hS; intro a hS
  refine Sq.nil ?_
  refine then_n ?_
  refine c_seq ?_
  refine reg_plain w0 ((· = gb)) ?_
  refine r_move hS hH.kp0 rfl rfl ?_; clear hS; intro a hS
  refine r_assign hS hH.kp0 rfl rfl ?_; clear hS; intro a hS
  refine Sq.nil ?_
  refine then_n ?_
  refine c_seq ?_
  refine reg_plain w0 ((· = gb)) ?_
  refine r_assign hS hH.kp0 rfl rfl ?_; clear hS; intro a hS
  refine Sq.nil ?_
  refine then_n ?_
  refine c_seq ?_
  refine wp_block ?_
  refine wp_loop_rounds 1 ?_
  refine rnd ?_
  refine c_seq ?_
  refine c_seq ?_
  refine reg_plain w0 ((· = gb)) ?_
  refine r_move hS hH.kp0 rfl rfl ?_; clear hS; intro a hS
  refine r_move hS hH.kp0 rfl rfl ?_; clear hS; intro a hS
  refine r_nilCheck hS hH.kp0 rfl rfl ?_; clear hS; intro a hS
  refine r_fieldAddr hS hH.kp0 rfl Fc.fo89_1 rfl ?_; clear hS; intro a hS
  refine r_load_sc hS hH (by repeat (first | exact Sub.nil | refine Sub.cons ?_ ?_ | exact In.here | refine In.there ?_)) rfl (by repeat (first | exact In.here | refine In.there ?_)) Fc.sc87 (by rfl) rfl ?_; clear hS; intro a hS
  refine r_lenSl hS hH.kp0 rfl Fc.isSlice87 rfl ?_; clear hS; intro a hS
  refine r_lss hS hH.kp0 rfl rfl rfl ?_; clear hS; intro a hS
  refine r_move hS hH.kp0 rfl rfl ?_; clear hS; intro a hS
  first
    | (refine Sq.guardYes hS rfl rfl (by first | rfl | exact DT (by omega) | exact DF (by omega) | exact beq_iff_eq.2 (by omega) | exact beq_false_of_ne (by omega) | exact bne_iff_ne.2 (by omega) | exact bne_eq_false_iff_eq.2 (by omega) | assumption | exact beq_self_eq_true _ | exact congrArg not (beq_self_eq_true _)) ?_; refine r_move hS hH.kp0 rfl rfl ?_; clear hS; intro a hS)
    | (refine Sq.guardNo hS rfl rfl (by first | rfl | exact DT (by omega) | exact DF (by omega) | exact beq_iff_eq.2 (by omega) | exact beq_false_of_ne (by omega) | exact bne_iff_ne.2 (by omega) | exact bne_eq_false_iff_eq.2 (by omega) | assumption | exact beq_self_eq_true _ | exact congrArg not (beq_self_eq_true _)) hH.kp0 rfl ?_; clear hS; intro a hS)
    | (refine Sq.guardOff hS rfl rfl hH.kp0 rfl ?_; clear hS; intro a hS)
  first
    | (refine Sq.guardYes hS rfl rfl (by first | rfl | exact DT (by omega) | exact DF (by omega) | exact beq_iff_eq.2 (by omega) | exact beq_false_of_ne (by omega) | exact bne_iff_ne.2 (by omega) | exact bne_eq_false_iff_eq.2 (by omega) | assumption | exact beq_self_eq_true _ | exact congrArg not (beq_self_eq_true _)) ?_; refine r_nilCheck hS hH.kp0 rfl rfl ?_; clear hS; intro a hS)
    | (refine Sq.guardNo hS rfl rfl (by first | rfl | exact DT (by omega) | exact DF (by omega) | exact beq_iff_eq.2 (by omega) | exact beq_false_of_ne (by omega) | exact bne_iff_ne.2 (by omega) | exact bne_eq_false_iff_eq.2 (by omega) | assumption | exact beq_self_eq_true _ | exact congrArg not (beq_self_eq_true _)) hH.kp0 rfl ?_; clear hS; intro a hS)
    | (refine Sq.guardOff hS rfl rfl hH.kp0 rfl ?_; clear hS; intro a hS)
  first
    | (refine Sq.guardYes hS rfl rfl (by first | rfl | exact DT (by omega) | exact DF (by omega) | exact beq_iff_eq.2 (by omega) | exact beq_false_of_ne (by omega) | exact bne_iff_ne.2 (by omega) | exact bne_eq_false_iff_eq.2 (by omega) | assumption | exact beq_self_eq_true _ | exact congrArg not (beq_self_eq_true _)) ?_; refine r_fieldAddr hS hH.kp0 rfl Fc.fo89_1 rfl ?_; clear hS; intro a hS)
    | (refine Sq.guardNo hS rfl rfl (by first | rfl | exact DT (by omega) | exact DF (by omega) | exact beq_iff_eq.2 (by omega) | exact beq_false_of_ne (by omega) | exact bne_iff_ne.2 (by omega) | exact bne_eq_false_iff_eq.2 (by omega) | assumption | exact beq_self_eq_true _ | exact congrArg not (beq_self_eq_true _)) hH.kp0 rfl ?_; clear hS; intro a hS)
    | (refine Sq.guardOff hS rfl rfl hH.kp0 rfl ?_; clear hS; intro a hS)
  first
    | (refine Sq.guardYes hS rfl rfl (by first | rfl | exact DT (by omega) | exact DF (by omega) | exact beq_iff_eq.2 (by omega) | exact beq_false_of_ne (by omega) | exact bne_iff_ne.2 (by omega) | exact bne_eq_false_iff_eq.2 (by omega) | assumption | exact beq_self_eq_true _ | exact congrArg not (beq_self_eq_true _)) ?_; refine r_load_sc hS hH (by repeat (first | exact Sub.nil | refine Sub.cons ?_ ?_ | exact In.here | refine In.there ?_)) rfl (by repeat (first | exact In.here | refine In.there ?_)) Fc.sc87 (by rfl) rfl ?_; clear hS; intro a hS)
    | (refine Sq.guardNo hS rfl rfl (by first | rfl | exact DT (by omega) | exact DF (by omega) | exact beq_iff_eq.2 (by omega) | exact beq_false_of_ne (by omega) | exact bne_iff_ne.2 (by omega) | exact bne_eq_false_iff_eq.2 (by omega) | assumption | exact beq_self_eq_true _ | exact congrArg not (beq_self_eq_true _)) hH.kp0 rfl ?_; clear hS; intro a hS)
    | (refine Sq.guardOff hS rfl rfl hH.kp0 rfl ?_; clear hS; intro a hS)
  first
    | (refine Sq.guardYes hS rfl rfl (by first | rfl | exact DT (by omega) | exact DF (by omega) | exact beq_iff_eq.2 (by omega) | exact beq_false_of_ne (by omega) | exact bne_iff_ne.2 (by omega) | exact bne_eq_false_iff_eq.2 (by omega) | assumption | exact beq_self_eq_true _ | exact congrArg not (beq_self_eq_true _)) ?_; refine r_move hS hH.kp0 rfl rfl ?_; clear hS; intro a hS)
    | (refine Sq.guardNo hS rfl rfl (by first | rfl | exact DT (by omega) | exact DF (by omega) | exact beq_iff_eq.2 (by omega) | exact beq_false_of_ne (by omega) | exact bne_iff_ne.2 (by omega) | exact bne_eq_false_iff_eq.2 (by omega) | assumption | exact beq_self_eq_true _ | exact congrArg not (beq_self_eq_true _)) hH.kp0 rfl ?_; clear hS; intro a hS)
    | (refine Sq.guardOff hS rfl rfl hH.kp0 rfl ?_; clear hS; intro a hS)
  first
    | (refine Sq.guardYes hS rfl rfl (by first | rfl | exact DT (by omega) | exact DF (by omega) | exact beq_iff_eq.2 (by omega) | exact beq_false_of_ne (by omega) | exact bne_iff_ne.2 (by omega) | exact bne_eq_false_iff_eq.2 (by omega) | assumption | exact beq_self_eq_true _ | exact congrArg not (beq_self_eq_true _)) ?_; refine r_indexAddrS hS hH.kp0 rfl rfl Fc.slb87 rfl (by omega) rfl ?_; clear hS; intro a hS)
    | (refine Sq.guardNo hS rfl rfl (by first | rfl | exact DT (by omega) | exact DF (by omega) | exact beq_iff_eq.2 (by omega) | exact beq_false_of_ne (by omega) | exact bne_iff_ne.2 (by omega) | exact bne_eq_false_iff_eq.2 (by omega) | assumption | exact beq_self_eq_true _ | exact congrArg not (beq_self_eq_true _)) hH.kp0 rfl ?_; clear hS; intro a hS)
    | (refine Sq.guardOff hS rfl rfl hH.kp0 rfl ?_; clear hS; intro a hS)
  first
    | (refine Sq.guardYes hS rfl rfl (by first | rfl | exact DT (by omega) | exact DF (by omega) | exact beq_iff_eq.2 (by omega) | exact beq_false_of_ne (by omega) | exact bne_iff_ne.2 (by omega) | exact bne_eq_false_iff_eq.2 (by omega) | assumption | exact beq_self_eq_true _ | exact congrArg not (beq_self_eq_true _)) ?_; refine r_fieldAddr hS hH.kp0 rfl Fc.fo94_0 rfl ?_; clear hS; intro a hS)
    | (refine Sq.guardNo hS rfl rfl (by first | rfl | exact DT (by omega) | exact DF (by omega) | exact beq_iff_eq.2 (by omega) | exact beq_false_of_ne (by omega) | exact bne_iff_ne.2 (by omega) | exact bne_eq_false_iff_eq.2 (by omega) | assumption | exact beq_self_eq_true _ | exact congrArg not (beq_self_eq_true _)) hH.kp0 rfl ?_; clear hS; intro a hS)
    | (refine Sq.guardOff hS rfl rfl hH.kp0 rfl ?_; clear hS; intro a hS)
  first
    | (refine Sq.guardYes hS rfl rfl (by first | rfl | exact DT (by omega) | exact DF (by omega) | exact beq_iff_eq.2 (by omega) | exact beq_false_of_ne (by omega) | exact bne_iff_ne.2 (by omega) | exact bne_eq_false_iff_eq.2 (by omega) | assumption | exact beq_self_eq_true _ | exact congrArg not (beq_self_eq_true _)) ?_; refine r_load_sc hS hH (by repeat (first | exact Sub.nil | refine Sub.cons ?_ ?_ | exact In.here | refine In.there ?_)) rfl (by repeat (first | exact In.here | refine In.there ?_)) Fc.sc3 (by rfl) rfl ?_; clear hS; intro a hS)
    | (refine Sq.guardNo hS rfl rfl (by first | rfl | exact DT (by omega) | exact DF (by omega) | exact beq_iff_eq.2 (by omega) | exact beq_false_of_ne (by omega) | exact bne_iff_ne.2 (by omega) | exact bne_eq_false_iff_eq.2 (by omega) | assumption | exact beq_self_eq_true _ | exact congrArg not (beq_self_eq_true _)) hH.kp0 rfl ?_; clear hS; intro a hS)
    | (refine Sq.guardOff hS rfl rfl hH.kp0 rfl ?_; clear hS; intro a hS)
  first
    | (refine Sq.guardYes hS rfl rfl (by first | rfl | exact DT (by omega) | exact DF (by omega) | exact beq_iff_eq.2 (by omega) | exact beq_false_of_ne (by omega) | exact bne_iff_ne.2 (by omega) | exact bne_eq_false_iff_eq.2 (by omega) | assumption | exact beq_self_eq_true _ | exact congrArg not (beq_self_eq_true _)) ?_; refine r_move hS hH.kp0 rfl rfl ?_; clear hS; intro a hS)
    | (refine Sq.guardNo hS rfl rfl (by first | rfl | exact DT (by omega) | exact DF (by omega) | exact beq_iff_eq.2 (by omega) | exact beq_false_of_ne (by omega) | exact bne_iff_ne.2 (by omega) | exact bne_eq_false_iff_eq.2 (by omega) | assumption | exact beq_self_eq_true _ | exact congrArg not (beq_self_eq_true _)) hH.kp0 rfl ?_; clear hS; intro a hS)
    | (refine Sq.guardOff hS rfl rfl hH.kp0 rfl ?_; clear hS; intro a hS)
  first
    | (refine Sq.guardYes hS rfl rfl (by first | rfl | exact DT (by omega) | exact DF (by omega) | exact beq_iff_eq.2 (by omega) | exact beq_false_of_ne (by omega) | exact bne_iff_ne.2 (by omega) | exact bne_eq_false_iff_eq.2 (by omega) | assumption | exact beq_self_eq_true _ | exact congrArg not (beq_self_eq_true _)) ?_; refine r_leq hS hH.kp0 rfl rfl rfl ?_; clear hS; intro a hS)
    | (refine Sq.guardNo hS rfl rfl (by first | rfl | exact DT (by omega) | exact DF (by omega) | exact beq_iff_eq.2 (by omega) | exact beq_false_of_ne (by omega) | exact bne_iff_ne.2 (by omega) | exact bne_eq_false_iff_eq.2 (by omega) | assumption | exact beq_self_eq_true _ | exact congrArg not (beq_self_eq_true _)) hH.kp0 rfl ?_; clear hS; intro a hS)
    | (refine Sq.guardOff hS rfl rfl hH.kp0 rfl ?_; clear hS; intro a hS)
  first
    | (refine r_pickT hS hH.kp0 rfl (by first | rfl | exact DT (by omega) | exact DF (by omega) | exact beq_iff_eq.2 (by omega) | exact beq_false_of_ne (by omega) | exact bne_iff_ne.2 (by omega) | exact bne_eq_false_iff_eq.2 (by omega) | assumption | exact beq_self_eq_true _ | exact congrArg not (beq_self_eq_true _)) rfl rfl ?_; clear hS; intro a hS)
    | (refine r_pickF hS hH.kp0 rfl (by first | rfl | exact DT (by omega) | exact DF (by omega) | exact beq_iff_eq.2 (by omega) | exact beq_false_of_ne (by omega) | exact bne_iff_ne.2 (by omega) | exact bne_eq_false_iff_eq.2 (by omega) | assumption | exact beq_self_eq_true _ | exact congrArg not (beq_self_eq_true _)) rfl rfl ?_; clear hS; intro a hS)
  refine Sq.nil ?_
  refine then_n ?_
  refine c_condF hS rfl rfl ?_
  refine wp_exit ?_
  refine then_e ?_
  refine then_e ?_
  refine blk_hit ?_
  refine then_n ?_
  refine c_seq ?_
  refine c_seq ?_
  refine reg_plain w0 ((· = gb)) ?_
  refine r_move hS hH.kp0 rfl rfl ?_; clear hS; intro a hS
  refine r_nilCheck hS hH.kp0 rfl rfl ?_; clear hS; intro a hS
  refine r_fieldAddr hS hH.kp0 rfl Fc.fo89_1 rfl ?_; clear hS; intro a hS
  refine r_load_sc hS hH (by repeat (first | exact Sub.nil | refine Sub.cons ?_ ?_ | exact In.here | refine In.there ?_)) rfl (by repeat (first | exact In.here | refine In.there ?_)) Fc.sc87 (by rfl) rfl ?_; clear hS; intro a hS
  refine r_lenSl hS hH.kp0 rfl Fc.isSlice87 rfl ?_; clear hS; intro a hS
  refine r_move hS hH.kp0 rfl rfl ?_; clear hS; intro a hS
  refine r_move hS hH.kp0 rfl rfl ?_; clear hS; intro a hS
  (first | refine r_sub hS hH.kp0 rfl rfl rfl (by omega) ?_ | refine r_subw hS hH.kp0 rfl rfl rfl ?_)
  clear hS; intro a hS
  (first | refine r_sub hS hH.kp0 rfl rfl rfl (by omega) ?_ | refine r_subw hS hH.kp0 rfl rfl rfl ?_)
  clear hS; intro a hS
  refine r_move hS hH.kp0 rfl rfl ?_; clear hS; intro a hS
  refine r_lenSl hS hH.kp0 rfl Fc.isSlice87 rfl ?_; clear hS; intro a hS
  (first | refine r_add hS hH.kp0 rfl rfl rfl (by omega) ?_ | refine r_addw hS hH.kp0 rfl rfl rfl ?_)
  clear hS; intro a hS
  refine r_gtr hS hH.kp0 rfl rfl rfl ?_; clear hS; intro a hS
  refine Sq.nil ?_
  refine then_n ?_
  refine c_condF hS rfl rfl ?_
  refine wp_skip ?_
  refine then_n ?_
  refine c_seq ?_
  refine reg_plain w0 ((· = gb)) ?_
  refine r_move hS hH.kp0 rfl rfl ?_; clear hS; intro a hS
  refine r_move hS hH.kp0 rfl rfl ?_; clear hS; intro a hS
  refine r_nilCheck hS hH.kp0 rfl rfl ?_; clear hS; intro a hS
  refine r_fieldAddr hS hH.kp0 rfl Fc.fo89_1 rfl ?_; clear hS; intro a hS
  refine r_load_sc hS hH (by repeat (first | exact Sub.nil | refine Sub.cons ?_ ?_ | exact In.here | refine In.there ?_)) rfl (by repeat (first | exact In.here | refine In.there ?_)) Fc.sc87 (by rfl) rfl ?_; clear hS; intro a hS
  refine r_move hS hH.kp0 rfl rfl ?_; clear hS; intro a hS
  refine r_move hS hH.kp0 rfl rfl ?_; clear hS; intro a hS
  refine r_move hS hH.kp0 rfl rfl ?_; clear hS; intro a hS
  refine r_call (l := [.tmp 100, .tmp 101, .tmp 102, .tmp 103]) hS rfl rfl Fc.fn51 rfl ?_
  refine Calls.mono (replace_nil _) ?_
  rintro e w1 ⟨rfl, hE⟩
  replace hH := hH.ext hE
  refine ⟨_, rfl, hH.kp0, ?_⟩
  clear hS; intro a hS
  refine r_nilCheck hS hH.kp0 rfl rfl ?_; clear hS; intro a hS
  refine r_fieldAddr hS hH.kp0 rfl Fc.fo89_1 rfl ?_; clear hS; intro a hS
  refine r_store1 hS hH rfl rfl rfl (by first | exact .here | exact .there .here | exact .there (.there .here) | exact .there (.there (.there .here)) | exact .there (.there (.there (.there .here))) | exact .there (.there (.there (.there (.there .here)))) | exact .there (.there (.there (.there (.there (.there .here))))) | exact .there (.there (.there (.there (.there (.there (.there .here)))))) | exact .there (.there (.there (.there (.there (.there (.there (.there .here))))))) | exact .there (.there (.there (.there (.there (.there (.there (.there (.there .here)))))))) | exact .there (.there (.there (.there (.there (.there (.there (.there (.there (.there .here))))))))) | exact .there (.there (.there (.there (.there (.there (.there (.there (.there (.there (.there .here)))))))))) | exact .there (.there (.there (.there (.there (.there (.there (.there (.there (.there (.there (.there .here))))))))))) | exact .there (.there (.there (.there (.there (.there (.there (.there (.there (.there (.there (.there (.there .here)))))))))))) | exact .there (.there (.there (.there (.there (.there (.there (.there (.there (.there (.there (.there (.there (.there .here))))))))))))) | exact .there (.there (.there (.there (.there (.there (.there (.there (.there (.there (.there (.there (.there (.there (.there .here))))))))))))))) (by repeat (first | exact Sub.nil | refine Sub.cons ?_ ?_ | exact In.here | refine In.there ?_)) Fc.sz87 (of_decide_eq_true rfl) (.inl rfl) ?_
  clear hH; intro w hH
  refine Sq.nil ?_
  refine then_n ?_
  refine c_seq ?_
  refine reg_plain w0 ((· = gb)) ?_
  refine r_assign hS hH.kp0 rfl rfl ?_; clear hS; intro a hS
  refine Sq.nil ?_
  refine then_n ?_
  refine wp_ret ?_
  exact leave (.inl rfl) hS rfl (Res.tmp rfl Res.nil) ⟨rfl, hH.get (b := gb) (by repeat (first | exact In.here | refine In.there ?_)), hH.mod⟩

end Go.Proofs.Ytkhcbllphdhbdaa
