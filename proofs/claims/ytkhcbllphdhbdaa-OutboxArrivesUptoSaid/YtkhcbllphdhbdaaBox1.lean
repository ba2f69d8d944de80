/- A text that is written to an outbox arrives whole at an inbox, whatever is lost and comes twice. Part Box1: walks and lemmas of the proof. -/
import Derived.Test.YtkhcbllphdhbdaaChecked
import Derived.Test.YtkhcbllphdhbdaaSymRange
namespace Go.Proofs.Ytkhcbllphdhbdaa
open Go.Sym
theorem Fc.laid : laidOutB Try.prog = true := by kernel_rfl
theorem Fc.mixed : Try.prog.follows .mixedOrders = true := by kernel_rfl
theorem Fc.fn27 : isFn Try.prog 27 = true := by kernel_rfl
theorem Fc.fn49 : isFn Try.prog 49 = true := by kernel_rfl
theorem Fc.fn50 : isFn Try.prog 50 = true := by kernel_rfl
theorem Fc.fn51 : isFn Try.prog 51 = true := by kernel_rfl
theorem Fc.fn53 : isFn Try.prog 53 = true := by kernel_rfl
theorem Fc.fn56 : isFn Try.prog 56 = true := by kernel_rfl
theorem Fc.fn57 : isFn Try.prog 57 = true := by kernel_rfl
theorem Fc.fn59 : isFn Try.prog 59 = true := by kernel_rfl
theorem Fc.fo70_1 : foff Try.prog 70 1 = some 1 := by kernel_rfl
theorem Fc.fo70_2 : foff Try.prog 70 2 = some 2 := by kernel_rfl
theorem Fc.fo70_4 : foff Try.prog 70 4 = some 4 := by kernel_rfl
theorem Fc.fo89_0 : foff Try.prog 89 0 = some 0 := by kernel_rfl
theorem Fc.fo89_1 : foff Try.prog 89 1 = some 1 := by kernel_rfl
theorem Fc.fo94_0 : foff Try.prog 94 0 = some 0 := by kernel_rfl
theorem Fc.isPtr23 : isPtr Try.prog 23 = true := by kernel_rfl
theorem Fc.isPtr67 : isPtr Try.prog 67 = true := by kernel_rfl
theorem Fc.isSlice22 : isSlice Try.prog 22 = true := by kernel_rfl
theorem Fc.isSlice87 : isSlice Try.prog 87 = true := by kernel_rfl
theorem Fc.pl70 : placesB Try.prog 70 = some [(0, 1), (1, 1), (2, 1), (3, 1), (4, 1), (5, 1), (6, 1)] := by kernel_rfl
theorem Fc.pl89 : placesB Try.prog 89 = some [(0, 1), (1, 1)] := by kernel_rfl
theorem Fc.sc22 : scB Try.prog 22 = true := by kernel_rfl
theorem Fc.sc3 : scB Try.prog 3 = true := by kernel_rfl
theorem Fc.sc4 : scB Try.prog 4 = true := by kernel_rfl
theorem Fc.sc67 : scB Try.prog 67 = true := by kernel_rfl
theorem Fc.sc87 : scB Try.prog 87 = true := by kernel_rfl
theorem Fc.slb87 : slB Try.prog 87 = some 2 := by kernel_rfl
theorem Fc.sz87 : sizeB Try.prog 87 1 = true := by kernel_rfl
theorem Fc.zc70 : zcB Try.prog 70 = some [.int .i64 0, .int .i64 0, .slice none 0 0, .int .i64 0, .pointer none, .pointer none, .int .i64 0] := by kernel_rfl
theorem Fc.zc89 : zcB Try.prog 89 = some [.bool false, .slice none 0 0] := by kernel_rfl
set_option maxRecDepth 100000 in
set_option maxHeartbeats 400000 in
theorem rNew_c (w0 : World) : Calls Try.prog 27 #[] w0 fun e w' => ∃ b, e = .returned (.pointer (some ⟨b, 0, none⟩)) ∧ w0.heap.size ≤ b ∧ w'.heap[b]? = some (.cells ([.bool true, .slice none 0 0] : List Value).toArray 89 (0, 0)) ∧ Ext w0 w' := by
  refine enter Try.func27 rfl rfl rfl ?_
  intro a hS
  have hH := Hp.start w0 (Nobody)
  refine c_seq ?_
  refine reg_plain w0 (Nobody) ?_
  refine r_assign hS hH.kp0 rfl rfl ?_; clear hS; intro a hS
  refine Sq.nil ?_
  refine then_n ?_
  refine c_seq ?_
  refine reg_plain w0 (Nobody) ?_
  refine r_buildS (parts := [(0, .const (.bool true))]) hS hH.kp0 rfl rfl Fc.zc89 Fc.pl89 (by rfl) ?_; clear hS; intro a hS
  refine r_box hS hH (by repeat (first | exact Sub.nil | refine Sub.cons ?_ ?_ | exact In.here | refine In.there ?_)) rfl rfl rfl ?_
  clear hS hH; intro a w b2 hb2 hwb2 hS hH
  refine r_assign hS hH.kp0 rfl rfl ?_; clear hS; intro a hS
  refine Sq.nil ?_
  refine then_n ?_
  refine wp_ret ?_
  exact leave (.inl rfl) hS rfl (Res.tmp rfl Res.nil) ⟨b2, rfl, hb2, hH.get .here, hH.mod⟩

set_option maxRecDepth 100000 in
set_option maxHeartbeats 400000 in
theorem New_c (m : Nat) (hm : m ≤ 1048576) (w0 : World) : Calls Try.prog 6 #[.int .i64 (m : Int)] w0 fun e w' => ∃ ob gb hb, e = .returned (.tuple #[.pointer (some ⟨ob, 0, none⟩), .int .i64 0]) ∧ w0.heap.size ≤ gb ∧ gb < hb ∧ hb < ob ∧ w'.heap[ob]? = some (.cells ([.int .i64 (m : Int), .int .i64 0, .slice none 0 0, .int .i64 0, .pointer (some ⟨gb, 0, none⟩), .pointer (some ⟨hb, 0, none⟩), .int .i64 0] : List Value).toArray 70 (0, 0)) ∧ w'.heap[gb]? = some (.cells ([.bool true, .slice none 0 0] : List Value).toArray 89 (0, 0)) ∧ w'.heap[hb]? = some (.cells ([.bool true, .slice none 0 0] : List Value).toArray 89 (0, 0)) ∧ Ext w0 w' := by
  refine enter Try.func6 rfl rfl rfl ?_
  intro a hS
  have hH := Hp.start w0 (Nobody)
  refine c_seq ?_
  refine reg_plain w0 (Nobody) ?_
  refine r_assign hS hH.kp0 rfl rfl ?_; clear hS; intro a hS
  refine r_assign hS hH.kp0 rfl rfl ?_; clear hS; intro a hS
  refine Sq.nil ?_
  refine then_n ?_
  refine c_seq ?_
  refine c_seq ?_
  refine reg_plain w0 (Nobody) ?_
  refine r_move hS hH.kp0 rfl rfl ?_; clear hS; intro a hS
  refine r_lss hS hH.kp0 rfl rfl rfl ?_; clear hS; intro a hS
  refine r_move hS hH.kp0 rfl rfl ?_; clear hS; intro a hS
  refine Sq.guardYes hS rfl rfl rfl ?_; refine r_move hS hH.kp0 rfl rfl ?_; clear hS; intro a hS
  refine Sq.guardYes hS rfl rfl rfl ?_; refine r_gtr hS hH.kp0 rfl rfl rfl ?_; clear hS; intro a hS
  refine r_pickF hS hH.kp0 rfl rfl rfl rfl ?_; clear hS; intro a hS
  refine Sq.nil ?_
  refine then_n ?_
  refine c_condF hS rfl (DF (by omega)) ?_
  refine wp_skip ?_
  refine then_n ?_
  refine c_seq ?_
  refine reg_plain w0 (Nobody) ?_
  refine r_move hS hH.kp0 rfl rfl ?_; clear hS; intro a hS
  refine r_call (l := []) hS rfl rfl Fc.fn27 rfl ?_
  refine Calls.mono (rNew_c _) ?_
  rintro e w1 ⟨gb, rfl, hgb, hgk, hE⟩
  have hgb0 := Nat.le_trans hH.mod.size hgb
  replace hH := (hH.ext hE).know hgk (fun p hp => by simp at hp)
  refine ⟨_, rfl, hH.kp0, ?_⟩
  clear hS; intro a hS
  refine r_call (l := []) hS rfl rfl Fc.fn27 rfl ?_
  refine Calls.mono (rNew_c _) ?_
  rintro e w1 ⟨hb, rfl, hhb, hhk, hE⟩
  have hgl := lt_of_block (hH.get (b := gb) .here)
  replace hH := (hH.ext hE).know hhk (by intro p hp; simp at hp; subst hp; exact Nat.ne_of_lt (Nat.lt_of_lt_of_le hgl hhb))
  have hhl := lt_of_block (hH.get (b := hb) .here)
  refine ⟨_, rfl, hH.kp0, ?_⟩
  clear hS; intro a hS
  refine r_buildS (parts := [(0, .tmp 10), (4, .tmp 11), (5, .tmp 12)]) hS hH.kp0 rfl rfl Fc.zc70 Fc.pl70 (by rfl) ?_; clear hS; intro a hS
  refine r_box hS hH (by repeat (first | exact Sub.nil | refine Sub.cons ?_ ?_ | exact In.here | refine In.there ?_)) rfl rfl rfl ?_
  clear hS hH; intro a w ob hob hwob hS hH
  refine r_assign hS hH.kp0 rfl rfl ?_; clear hS; intro a hS
  refine r_assign hS hH.kp0 rfl rfl ?_; clear hS; intro a hS
  refine Sq.nil ?_
  refine then_n ?_
  refine wp_ret ?_
  exact leave (.inl rfl) hS rfl (Res.tmp rfl (Res.tmp rfl Res.nil)) ⟨ob, gb, hb, rfl, hgb0, Nat.lt_of_lt_of_le hgl hhb, Nat.lt_of_lt_of_le hhl hwob, hH.get (by repeat (first | exact In.here | refine In.there ?_)), hH.get (by repeat (first | exact In.here | refine In.there ?_)), hH.get (by repeat (first | exact In.here | refine In.there ?_)), hH.mod⟩

set_option maxRecDepth 100000 in
set_option maxHeartbeats 400000 in
theorem none_c (ob gb hb room base sent kl kc : Nat) (q : Option Addr) (en : Int) (w0 : World) (hz : w0.heap[ob]? = some (.cells ([.int .i64 (room : Int), .int .i64 (base : Int), .slice q kl kc, .int .i64 (sent : Int), .pointer (some ⟨gb, 0, none⟩), .pointer (some ⟨hb, 0, none⟩), .int .i64 en] : List Value).toArray 70 (0, 0))) : Calls Try.prog 28 #[.pointer (some ⟨ob, 0, none⟩)] w0 fun e w' => e = .returned (.bool false) ∧ Ext w0 w' := by
  refine enter Try.func28 rfl rfl rfl ?_
  intro a hS
  have hH := Hp.start w0 (Nobody)
  replace hH := hH.know hz (by intro p hp; simp at hp)
  refine c_seq ?_
  refine reg_plain w0 (Nobody) ?_
  refine r_assign hS hH.kp0 rfl rfl ?_; clear hS; intro a hS
  refine Sq.nil ?_
  refine then_n ?_
  refine c_seq ?_
  refine reg_plain w0 (Nobody) ?_
  refine r_move hS hH.kp0 rfl rfl ?_; clear hS; intro a hS
  refine r_ptrNil hS hH.kp0 rfl Fc.isPtr23 rfl ?_; clear hS; intro a hS
  refine r_move hS hH.kp0 rfl rfl ?_; clear hS; intro a hS
  refine Sq.guardYes hS rfl rfl rfl ?_; refine r_move hS hH.kp0 rfl rfl ?_; clear hS; intro a hS
  refine Sq.guardYes hS rfl rfl rfl ?_; refine r_nilCheck hS hH.kp0 rfl rfl ?_; clear hS; intro a hS
  refine Sq.guardYes hS rfl rfl rfl ?_; refine r_fieldAddr hS hH.kp0 rfl Fc.fo70_4 rfl ?_; clear hS; intro a hS
  refine Sq.guardYes hS rfl rfl rfl ?_; refine r_load_sc hS hH (by repeat (first | exact Sub.nil | refine Sub.cons ?_ ?_ | exact In.here | refine In.there ?_)) rfl (by repeat (first | exact In.here | refine In.there ?_)) Fc.sc67 (by rfl) rfl ?_; clear hS; intro a hS
  refine Sq.guardYes hS rfl rfl rfl ?_; refine r_ptrNil hS hH.kp0 rfl Fc.isPtr67 rfl ?_; clear hS; intro a hS
  refine r_pickF hS hH.kp0 rfl rfl rfl rfl ?_; clear hS; intro a hS
  refine r_assign hS hH.kp0 rfl rfl ?_; clear hS; intro a hS
  refine Sq.nil ?_
  refine then_n ?_
  refine wp_ret ?_
  exact leave (.inl rfl) hS rfl (Res.tmp rfl Res.nil) ⟨rfl, hH.mod⟩

set_option maxRecDepth 100000 in
set_option maxHeartbeats 400000 in
theorem written_c (ob gb hb room base sent kl kc : Nat) (q : Option Addr) (en : Int) (hbk : base + kl ≤ 1099511627776) (w0 : World) (hz : w0.heap[ob]? = some (.cells ([.int .i64 (room : Int), .int .i64 (base : Int), .slice q kl kc, .int .i64 (sent : Int), .pointer (some ⟨gb, 0, none⟩), .pointer (some ⟨hb, 0, none⟩), .int .i64 en] : List Value).toArray 70 (0, 0))) : Calls Try.prog 32 #[.pointer (some ⟨ob, 0, none⟩)] w0 fun e w' => e = .returned (.int .i64 ((base + kl : Nat) : Int)) ∧ Ext w0 w' := by
  refine enter Try.func32 rfl rfl rfl ?_
  intro a hS
  have hH := Hp.start w0 (Nobody)
  replace hH := hH.know hz (by intro p hp; simp at hp)
  refine c_seq ?_
  refine reg_plain w0 (Nobody) ?_
  refine r_assign hS hH.kp0 rfl rfl ?_; clear hS; intro a hS
  refine Sq.nil ?_
  refine then_n ?_
  refine c_seq ?_
  refine reg_draw [(true, 0, []), (true, 1, []), (true, 2, []), (true, 3, []), (true, 4, []), (true, 5, []), (true, 6, []), (true, 7, []), (true, 8, []), (true, 9, []), (true, 10, [])] Fc.mixed (by kernel_rfl) (by kernel_rfl) (by kernel_rfl) (by kernel_rfl) (by kernel_rfl) (by repeat (first | with_reducible exact steady_body | with_reducible exact steady_bodyQ | with_reducible exact steady_round | with_reducible apply steady_block | with_reducible apply steady_then | with_reducible apply steady_scope | exact steady_body)) hH ?_
  replace hH := hH.drew
  refine r_move hS trivial rfl rfl ?_; clear hS; intro a hS
  refine r_nilCheck hS trivial rfl rfl ?_; clear hS; intro a hS
  refine r_fieldAddr hS trivial rfl Fc.fo70_1 rfl ?_; clear hS; intro a hS
  refine r_load_scS hS rfl (by repeat (first | exact In.here | refine In.there ?_)) Fc.sc3 (by rfl) rfl ?_; clear hS; intro a hS
  refine r_move hS trivial rfl rfl ?_; clear hS; intro a hS
  refine r_nilCheck hS trivial rfl rfl ?_; clear hS; intro a hS
  refine r_fieldAddr hS trivial rfl Fc.fo70_2 rfl ?_; clear hS; intro a hS
  refine r_load_scS hS rfl (by repeat (first | exact In.here | refine In.there ?_)) Fc.sc22 (by rfl) rfl ?_; clear hS; intro a hS
  refine r_lenSl hS trivial rfl Fc.isSlice22 rfl ?_; clear hS; intro a hS
  (first | refine r_add hS trivial rfl rfl rfl (by omega) ?_ | refine r_addw hS trivial rfl rfl rfl ?_)
  clear hS; intro a hS
  refine r_assign hS trivial rfl rfl ?_; clear hS; intro a hS
  refine Sq.nil ?_
  refine then_n ?_
  refine wp_ret ?_
  rw [show (base : Int) + (kl : Int) = ((base + kl : Nat) : Int) by omega] at hS
  exact leave (.inl rfl) hS rfl (Res.tmp rfl Res.nil) ⟨rfl, hH.mod⟩

set_option maxRecDepth 100000 in
set_option maxHeartbeats 400000 in
theorem snone_c (gb : Nat) (w0 : World) (hg : w0.heap[gb]? = some (.cells ([.bool true, .slice none 0 0] : List Value).toArray 89 (0, 0))) : Calls Try.prog 53 #[.pointer (some ⟨gb, 0, none⟩)] w0 fun e w' => e = .returned (.bool false) ∧ Ext w0 w' := by
  refine enter Try.func53 rfl rfl rfl ?_
  intro a hS
  have hH := Hp.start w0 (Nobody)
  replace hH := hH.know hg (by intro p hp; simp at hp)
  refine c_seq ?_
  refine reg_plain w0 (Nobody) ?_
  refine r_assign hS hH.kp0 rfl rfl ?_; clear hS; intro a hS
  refine Sq.nil ?_
  refine then_n ?_
  refine c_seq ?_
  refine reg_plain w0 (Nobody) ?_
  refine r_move hS hH.kp0 rfl rfl ?_; clear hS; intro a hS
  refine r_ptrNil hS hH.kp0 rfl Fc.isPtr67 rfl ?_; clear hS; intro a hS
  refine r_move hS hH.kp0 rfl rfl ?_; clear hS; intro a hS
  refine Sq.guardYes hS rfl rfl rfl ?_; refine r_move hS hH.kp0 rfl rfl ?_; clear hS; intro a hS
  refine Sq.guardYes hS rfl rfl rfl ?_; refine r_nilCheck hS hH.kp0 rfl rfl ?_; clear hS; intro a hS
  refine Sq.guardYes hS rfl rfl rfl ?_; refine r_fieldAddr hS hH.kp0 rfl Fc.fo89_0 rfl ?_; clear hS; intro a hS
  refine Sq.guardYes hS rfl rfl rfl ?_; refine r_load_sc hS hH (by repeat (first | exact Sub.nil | refine Sub.cons ?_ ?_ | exact In.here | refine In.there ?_)) rfl (by repeat (first | exact In.here | refine In.there ?_)) Fc.sc4 (by rfl) rfl ?_; clear hS; intro a hS
  refine Sq.guardYes hS rfl rfl rfl ?_; refine r_not hS hH.kp0 rfl rfl ?_; clear hS; intro a hS
  refine r_pickF hS hH.kp0 rfl rfl rfl rfl ?_; clear hS; intro a hS
  refine r_assign hS hH.kp0 rfl rfl ?_; clear hS; intro a hS
  refine Sq.nil ?_
  refine then_n ?_
  refine wp_ret ?_
  exact leave (.inl rfl) hS rfl (Res.tmp rfl Res.nil) ⟨rfl, hH.mod⟩

set_option maxRecDepth 100000 in
set_option maxHeartbeats 400000 in
theorem sclone_nil (w0 : World) : Calls Try.prog 56 #[.slice none 0 0] w0 fun e w' => e = .returned (.slice none 0 0) ∧ Ext w0 w' := by
  refine enter Try.func56 rfl rfl rfl ?_
  intro a hS
  have hH := Hp.start w0 (Nobody)
  refine c_seq ?_
  refine reg_plain w0 (Nobody) ?_
  refine r_assign hS hH.kp0 rfl rfl ?_; clear hS; intro a hS
  refine Sq.nil ?_
  refine then_n ?_
  refine c_seq ?_
  refine c_seq ?_
  refine reg_plain w0 (Nobody) ?_
  refine r_move hS hH.kp0 rfl rfl ?_; clear hS; intro a hS
  refine r_slNil hS hH.kp0 rfl Fc.isSlice87 rfl ?_; clear hS; intro a hS
  refine Sq.nil ?_
  refine then_n ?_
  refine c_condT hS rfl rfl ?_
  refine c_seq ?_
  refine reg_plain w0 (Nobody) ?_
  refine r_assign hS hH.kp0 rfl rfl ?_; clear hS; intro a hS
  refine Sq.nil ?_
  refine then_n ?_
  refine wp_ret ?_
  refine then_r ?_
  exact leave (.inl rfl) hS rfl (Res.tmp rfl Res.nil) ⟨rfl, hH.mod⟩

set_option maxRecDepth 100000 in
set_option maxHeartbeats 400000 in
theorem All_c (v : Value) (hv : v.cells = [v].toArray) (w0 : World) : Calls Try.prog 47 #[v] w0 fun e w' => ∃ bb, e = .returned (.func (.func 55) #[] #[.pointer (some ⟨bb, 0, none⟩)]) ∧ w0.heap.size ≤ bb ∧ w'.heap[bb]? = some (.cells [v].toArray 67 (0, 0)) ∧ Ext w0 w' := by
  refine enter Try.func47 rfl rfl rfl ?_
  intro a hS
  have hH := Hp.start w0 (Nobody)
  refine c_seq ?_
  refine reg_plain w0 (Nobody) ?_
  refine r_box hS hH (by repeat (first | exact Sub.nil | refine Sub.cons ?_ ?_ | exact In.here | refine In.there ?_)) rfl hv rfl ?_
  clear hS hH; intro a w bb hbb hwbb hS hH
  refine r_assign hS hH.kp0 rfl rfl ?_; clear hS; intro a hS
  refine Sq.nil ?_
  refine then_n ?_
  refine c_seq ?_
  refine reg_plain w0 (Nobody) ?_
  refine r_makeFunc hS hH.kp0 rfl rfl rfl ?_; clear hS; intro a hS
  refine r_assign hS hH.kp0 rfl rfl ?_; clear hS; intro a hS
  refine Sq.nil ?_
  refine then_n ?_
  refine wp_ret ?_
  exact leave (.inl rfl) hS rfl (Res.tmp rfl Res.nil) ⟨bb, rfl, hbb, hH.get .here, hH.mod⟩

set_option maxRecDepth 100000 in
set_option maxHeartbeats 400000 in
theorem All1_nil (y : Value) (bb gb : Nat) (hne : bb ≠ gb) (w0 : World) (hb : w0.heap[bb]? = some (.cells [.pointer (some ⟨gb, 0, none⟩)].toArray 67 (0, 0))) (hg : w0.heap[gb]? = some (.cells ([.bool true, .slice none 0 0] : List Value).toArray 89 (0, 0))) : Calls Try.prog 55 #[y, .pointer (some ⟨bb, 0, none⟩)] w0 fun e w' => (∃ v, e = .returned v) ∧ Ext w0 w' := by
  refine enter Try.func55 rfl rfl rfl ?_
  intro a hS
  have hH := Hp.start w0 (Nobody)
  replace hH := (hH.know hg (by intro p hp; simp at hp)).know hb (by intro p hp; simp at hp; subst hp; exact hne.symm)
  refine c_seq ?_
  refine c_seq ?_
  refine reg_plain w0 (Nobody) ?_
  refine r_load_sc hS hH (by repeat (first | exact Sub.nil | refine Sub.cons ?_ ?_ | exact In.here | refine In.there ?_)) rfl (by repeat (first | exact In.here | refine In.there ?_)) Fc.sc67 (by rfl) rfl ?_; clear hS; intro a hS
  refine r_call (l := [.tmp 5]) hS rfl rfl Fc.fn53 rfl ?_
  refine Calls.mono (snone_c gb _ (hH.get (b := gb) (by repeat (first | exact In.here | refine In.there ?_)))) ?_
  rintro e w1 ⟨rfl, hE⟩
  replace hH := hH.ext hE
  refine ⟨_, rfl, hH.kp0, ?_⟩
  clear hS; intro a hS
  refine Sq.nil ?_
  refine then_n ?_
  refine c_condF hS rfl rfl ?_
  refine wp_skip ?_
  refine then_n ?_
  refine c_seq ?_
  refine reg_plain w0 (Nobody) ?_
  refine r_load_sc hS hH (by repeat (first | exact Sub.nil | refine Sub.cons ?_ ?_ | exact In.here | refine In.there ?_)) rfl (by repeat (first | exact In.here | refine In.there ?_)) Fc.sc67 (by rfl) rfl ?_; clear hS; intro a hS
  refine r_nilCheck hS hH.kp0 rfl rfl ?_; clear hS; intro a hS
  refine r_fieldAddr hS hH.kp0 rfl Fc.fo89_1 rfl ?_; clear hS; intro a hS
  refine r_load_sc hS hH (by repeat (first | exact Sub.nil | refine Sub.cons ?_ ?_ | exact In.here | refine In.there ?_)) rfl (by repeat (first | exact In.here | refine In.there ?_)) Fc.sc87 (by rfl) rfl ?_; clear hS; intro a hS
  refine r_call (l := [.tmp 10]) hS rfl rfl Fc.fn56 rfl ?_
  refine Calls.mono (sclone_nil _) ?_
  rintro e w1 ⟨rfl, hE⟩
  replace hH := hH.ext hE
  refine ⟨_, rfl, hH.kp0, ?_⟩
  clear hS; intro a hS
  refine r_lenSl hS hH.kp0 rfl Fc.isSlice87 rfl ?_; clear hS; intro a hS
  refine r_move hS hH.kp0 rfl rfl ?_; clear hS; intro a hS
  refine Sq.nil ?_
  refine then_n ?_
  refine wp_block ?_
  refine wp_loop_rounds 1 ?_
  refine rnd ?_
  refine c_seq ?_
  refine reg_plain w0 (Nobody) ?_
  refine r_lss hS hH.kp0 rfl rfl rfl ?_; clear hS; intro a hS
  refine Sq.nil ?_
  refine then_n ?_
  refine c_seq ?_
  refine c_condF hS rfl rfl ?_
  refine wp_exit ?_
  refine then_e ?_
  refine then_e ?_
  refine blk_hit ?_
  exact leave (.inr rfl) hS rfl Res.nil ⟨⟨_, rfl⟩, hH.mod⟩

set_option maxRecDepth 100000 in
set_option maxHeartbeats 400000 in
theorem swrong_c (gb x y : Nat) (hxy : x ≤ y) (hy : y ≤ 1099511627776) (w0 : World) (hg : w0.heap[gb]? = some (.cells ([.bool true, .slice none 0 0] : List Value).toArray 89 (0, 0))) : Calls Try.prog 49 #[.pointer (some ⟨gb, 0, none⟩), .int .i64 (x : Int), .int .i64 (y : Int)] w0 fun e w' => e = .returned (.int .i64 0) ∧ Ext w0 w' := by
  refine enter Try.func49 rfl rfl rfl ?_
  intro a hS
  have hH := Hp.start w0 (Nobody)
  replace hH := hH.know hg (by intro p hp; simp at hp)
  refine c_seq ?_
  refine reg_plain w0 (Nobody) ?_
  refine r_assign hS hH.kp0 rfl rfl ?_; clear hS; intro a hS
  refine Sq.nil ?_
  refine then_n ?_
  refine c_seq ?_
  refine wp_block ?_
  refine c_seq ?_
  refine reg_plain w0 (Nobody) ?_
  refine r_move hS hH.kp0 rfl rfl ?_; clear hS; intro a hS
  refine r_call (l := [.tmp 8]) hS rfl rfl Fc.fn53 rfl ?_
  refine Calls.mono (snone_c gb _ (hH.get (b := gb) (by repeat (first | exact In.here | refine In.there ?_)))) ?_
  rintro e w1 ⟨rfl, hE⟩
  replace hH := hH.ext hE
  refine ⟨_, rfl, hH.kp0, ?_⟩
  clear hS; intro a hS
  refine r_assign hS hH.kp0 rfl rfl ?_; clear hS; intro a hS
  refine Sq.nil ?_
  refine then_n ?_
  refine c_condF hS rfl rfl ?_
  refine c_seq ?_
  refine reg_plain w0 (Nobody) ?_
  refine r_move hS hH.kp0 rfl rfl ?_; clear hS; intro a hS
  refine r_lss hS hH.kp0 rfl rfl rfl ?_; clear hS; intro a hS
  refine r_move hS hH.kp0 rfl rfl ?_; clear hS; intro a hS
  refine Sq.guardYes hS rfl rfl rfl ?_; refine r_move hS hH.kp0 rfl rfl ?_; clear hS; intro a hS
  refine Sq.guardYes hS rfl rfl rfl ?_; refine r_gtr hS hH.kp0 rfl rfl rfl ?_; clear hS; intro a hS
  refine r_pickF hS hH.kp0 rfl rfl rfl rfl ?_; clear hS; intro a hS
  refine r_move hS hH.kp0 rfl rfl ?_; clear hS; intro a hS
  refine Sq.guardYes hS rfl rfl (DF (by omega)) ?_; refine r_move hS hH.kp0 rfl rfl ?_; clear hS; intro a hS
  refine Sq.guardYes hS rfl rfl (DF (by omega)) ?_; refine r_move hS hH.kp0 rfl rfl ?_; clear hS; intro a hS
  refine Sq.guardYes hS rfl rfl (DF (by omega)) ?_; refine r_gtr hS hH.kp0 rfl rfl rfl ?_; clear hS; intro a hS
  refine r_pickF hS hH.kp0 rfl (DF (by omega)) rfl rfl ?_; clear hS; intro a hS
  refine r_assign hS hH.kp0 rfl rfl ?_; clear hS; intro a hS
  refine Sq.nil ?_
  refine then_n ?_
  refine c_condF hS rfl (DF (by omega)) ?_
  refine wp_skip ?_
  refine blk_n ?_
  refine then_n ?_
  refine c_seq ?_
  refine reg_plain w0 (Nobody) ?_
  refine r_assign hS hH.kp0 rfl rfl ?_; clear hS; intro a hS
  refine Sq.nil ?_
  refine then_n ?_
  refine wp_ret ?_
  exact leave (.inl rfl) hS rfl (Res.tmp rfl Res.nil) ⟨rfl, hH.mod⟩

set_option maxRecDepth 100000 in
set_option maxHeartbeats 400000 in
theorem search_nil (x fv : Value) (w0 : World) : Calls Try.prog 57 #[.slice none 0 0, x, fv] w0 fun e w' => e = .returned (.tuple #[.int .i64 0, .bool false]) ∧ Ext w0 w' := by
  refine enter Try.func57 rfl rfl rfl ?_
  intro a hS
  have hH := Hp.start w0 (Nobody)
  refine c_seq ?_
  refine reg_plain w0 (Nobody) ?_
  refine r_assign hS hH.kp0 rfl rfl ?_; clear hS; intro a hS
  refine r_assign hS hH.kp0 rfl rfl ?_; clear hS; intro a hS
  refine Sq.nil ?_
  refine then_n ?_
  refine c_seq ?_
  refine reg_plain w0 (Nobody) ?_
  refine r_move hS hH.kp0 rfl rfl ?_; clear hS; intro a hS
  refine r_lenSl hS hH.kp0 rfl Fc.isSlice87 rfl ?_; clear hS; intro a hS
  refine r_assign hS hH.kp0 rfl rfl ?_; clear hS; intro a hS
  refine Sq.nil ?_
  refine then_n ?_
  refine c_seq ?_
  refine reg_plain w0 (Nobody) ?_
  refine r_move hS hH.kp0 rfl rfl ?_; clear hS; intro a hS
  refine r_assign hS hH.kp0 rfl rfl ?_; clear hS; intro a hS
  refine r_assign hS hH.kp0 rfl rfl ?_; clear hS; intro a hS
  refine Sq.nil ?_
  refine then_n ?_
  refine c_seq ?_
  refine wp_block ?_
  refine wp_loop_rounds 1 ?_
  refine rnd ?_
  refine c_seq ?_
  refine c_seq ?_
  refine reg_plain w0 (Nobody) ?_
  refine r_move hS hH.kp0 rfl rfl ?_; clear hS; intro a hS
  refine r_move hS hH.kp0 rfl rfl ?_; clear hS; intro a hS
  refine r_lss hS hH.kp0 rfl rfl rfl ?_; clear hS; intro a hS
  refine Sq.nil ?_
  refine then_n ?_
  refine c_condF hS rfl rfl ?_
  refine wp_exit ?_
  refine then_e ?_
  refine then_e ?_
  refine blk_hit ?_
  refine then_n ?_
  refine c_seq ?_
  refine reg_plain w0 (Nobody) ?_
  refine r_move hS hH.kp0 rfl rfl ?_; clear hS; intro a hS
  refine r_move hS hH.kp0 rfl rfl ?_; clear hS; intro a hS
  refine r_move hS hH.kp0 rfl rfl ?_; clear hS; intro a hS
  refine r_lss hS hH.kp0 rfl rfl rfl ?_; clear hS; intro a hS
  refine r_move hS hH.kp0 rfl rfl ?_; clear hS; intro a hS
  refine Sq.guardNo hS rfl rfl rfl hH.kp0 rfl ?_; clear hS; intro a hS
  refine Sq.guardNo hS rfl rfl rfl hH.kp0 rfl ?_; clear hS; intro a hS
  refine Sq.guardNo hS rfl rfl rfl hH.kp0 rfl ?_; clear hS; intro a hS
  refine Sq.guardNo hS rfl rfl rfl hH.kp0 rfl ?_; clear hS; intro a hS
  refine Sq.guardNo hS rfl rfl rfl hH.kp0 rfl ?_; clear hS; intro a hS
  refine Sq.guardNo hS rfl rfl rfl hH.kp0 rfl ?_; clear hS; intro a hS
  refine Sq.guardNo hS rfl rfl rfl hH.kp0 rfl ?_; clear hS; intro a hS
  refine Sq.guardNo hS rfl rfl rfl hH.kp0 rfl ?_; clear hS; intro a hS
  refine r_pickF hS hH.kp0 rfl rfl rfl rfl ?_; clear hS; intro a hS
  refine r_assign hS hH.kp0 rfl rfl ?_; clear hS; intro a hS
  refine r_assign hS hH.kp0 rfl rfl ?_; clear hS; intro a hS
  refine Sq.nil ?_
  refine then_n ?_
  refine wp_ret ?_
  exact leave (.inl rfl) hS rfl (Res.tmp rfl (Res.tmp rfl Res.nil)) ⟨rfl, hH.mod⟩

set_option maxRecDepth 100000 in
set_option maxHeartbeats 400000 in
theorem from_nil (gb : Nat) (x : Value) (w0 : World) (hg : w0.heap[gb]? = some (.cells ([.bool true, .slice none 0 0] : List Value).toArray 89 (0, 0))) : Calls Try.prog 50 #[.pointer (some ⟨gb, 0, none⟩), x] w0 fun e w' => e = .returned (.int .i64 0) ∧ Ext w0 w' := by
  refine enter Try.func50 rfl rfl rfl ?_
  intro a hS
  have hH := Hp.start w0 (Nobody)
  replace hH := hH.know hg (by intro p hp; simp at hp)
  refine c_seq ?_
  refine reg_plain w0 (Nobody) ?_
  refine r_assign hS hH.kp0 rfl rfl ?_; clear hS; intro a hS
  refine Sq.nil ?_
  refine then_n ?_
  refine c_seq ?_
  refine reg_plain w0 (Nobody) ?_
  refine r_move hS hH.kp0 rfl rfl ?_; clear hS; intro a hS
  refine r_nilCheck hS hH.kp0 rfl rfl ?_; clear hS; intro a hS
  refine r_fieldAddr hS hH.kp0 rfl Fc.fo89_1 rfl ?_; clear hS; intro a hS
  refine r_load_sc hS hH (by repeat (first | exact Sub.nil | refine Sub.cons ?_ ?_ | exact In.here | refine In.there ?_)) rfl (by repeat (first | exact In.here | refine In.there ?_)) Fc.sc87 (by rfl) rfl ?_; clear hS; intro a hS
  refine r_move hS hH.kp0 rfl rfl ?_; clear hS; intro a hS
  refine r_call (l := [.tmp 11, .tmp 12, .func 58]) hS rfl rfl Fc.fn57 rfl ?_
  refine Calls.mono (search_nil _ _ _) ?_
  rintro e w1 ⟨rfl, hE⟩
  replace hH := hH.ext hE
  refine ⟨_, rfl, hH.kp0, ?_⟩
  clear hS; intro a hS
  refine r_move hS hH.kp0 rfl rfl ?_; clear hS; intro a hS
  refine r_extract hS hH.kp0 rfl rfl rfl ?_; clear hS; intro a hS
  refine r_extract hS hH.kp0 rfl rfl rfl ?_; clear hS; intro a hS
  refine r_assign hS hH.kp0 rfl rfl ?_; clear hS; intro a hS
  refine r_assign hS hH.kp0 rfl rfl ?_; clear hS; intro a hS
  refine Sq.nil ?_
  refine then_n ?_
  refine c_seq ?_
  refine reg_plain w0 (Nobody) ?_
  refine r_move hS hH.kp0 rfl rfl ?_; clear hS; intro a hS
  refine r_assign hS hH.kp0 rfl rfl ?_; clear hS; intro a hS
  refine Sq.nil ?_
  refine then_n ?_
  refine wp_ret ?_
  exact leave (.inl rfl) hS rfl (Res.tmp rfl Res.nil) ⟨rfl, hH.mod⟩

set_option maxRecDepth 100000 in
set_option maxHeartbeats 400000 in
theorem insert_nil (w0 : World) : Calls Try.prog 59 #[.slice none 0 0, .int .i64 0, .slice none 0 0] w0 fun e w' => e = .returned (.slice none 0 0) ∧ Ext w0 w' := by
  refine enter Try.func59 rfl rfl rfl ?_
  intro a hS
  have hH := Hp.start w0 (Nobody)
  refine c_seq ?_
  refine reg_plain w0 (Nobody) ?_
  refine r_assign hS hH.kp0 rfl rfl ?_; clear hS; intro a hS
  refine Sq.nil ?_
  refine then_n ?_
  refine c_seq ?_
  refine reg_plain w0 (Nobody) ?_
  refine r_move hS hH.kp0 rfl rfl ?_; clear hS; intro a hS
  refine r_move hS hH.kp0 rfl rfl ?_; clear hS; intro a hS
  refine r_slLoN hS hH.kp0 rfl rfl Fc.slb87 rfl ?_; clear hS; intro a hS
  refine Sq.nil ?_
  refine then_n ?_
  refine c_seq ?_
  refine reg_plain w0 (Nobody) ?_
  refine r_move hS hH.kp0 rfl rfl ?_; clear hS; intro a hS
  refine r_lenSl hS hH.kp0 rfl Fc.isSlice87 rfl ?_; clear hS; intro a hS
  refine r_assign hS hH.kp0 rfl rfl ?_; clear hS; intro a hS
  refine Sq.nil ?_
  refine then_n ?_
  refine c_seq ?_
  refine c_seq ?_
  refine reg_plain w0 (Nobody) ?_
  refine r_move hS hH.kp0 rfl rfl ?_; clear hS; intro a hS
  refine r_eql hS hH.kp0 rfl rfl rfl ?_; clear hS; intro a hS
  refine Sq.nil ?_
  refine then_n ?_
  refine c_condT hS rfl rfl ?_
  refine c_seq ?_
  refine reg_plain w0 (Nobody) ?_
  refine r_move hS hH.kp0 rfl rfl ?_; clear hS; intro a hS
  refine r_assign hS hH.kp0 rfl rfl ?_; clear hS; intro a hS
  refine Sq.nil ?_
  refine then_n ?_
  refine wp_ret ?_
  refine then_r ?_
  exact leave (.inl rfl) hS rfl (Res.tmp rfl Res.nil) ⟨rfl, hH.mod⟩

set_option maxRecDepth 100000 in
set_option maxHeartbeats 400000 in
theorem replace_nil (w0 : World) : Calls Try.prog 51 #[.slice none 0 0, .int .i64 0, .int .i64 0, .slice none 0 0] w0 fun e w' => e = .returned (.slice none 0 0) ∧ Ext w0 w' := by
  refine enter Try.func51 rfl rfl rfl ?_
  intro a hS
  have hH := Hp.start w0 (Nobody)
  refine c_seq ?_
  refine reg_plain w0 (Nobody) ?_
  refine r_assign hS hH.kp0 rfl rfl ?_; clear hS; intro a hS
  refine Sq.nil ?_
  refine then_n ?_
  refine c_seq ?_
  refine reg_plain w0 (Nobody) ?_
  refine r_move hS hH.kp0 rfl rfl ?_; clear hS; intro a hS
  refine r_move hS hH.kp0 rfl rfl ?_; clear hS; intro a hS
  refine r_move hS hH.kp0 rfl rfl ?_; clear hS; intro a hS
  refine r_slLoHiN hS hH.kp0 rfl rfl rfl Fc.slb87 rfl ?_; clear hS; intro a hS
  refine Sq.nil ?_
  refine then_n ?_
  refine c_seq ?_
  refine c_seq ?_
  refine reg_plain w0 (Nobody) ?_
  refine r_move hS hH.kp0 rfl rfl ?_; clear hS; intro a hS
  refine r_move hS hH.kp0 rfl rfl ?_; clear hS; intro a hS
  refine r_eql hS hH.kp0 rfl rfl rfl ?_; clear hS; intro a hS
  refine Sq.nil ?_
  refine then_n ?_
  refine c_condT hS rfl rfl ?_
  refine c_seq ?_
  refine reg_plain w0 (Nobody) ?_
  refine r_move hS hH.kp0 rfl rfl ?_; clear hS; intro a hS
  refine r_move hS hH.kp0 rfl rfl ?_; clear hS; intro a hS
  refine r_move hS hH.kp0 rfl rfl ?_; clear hS; intro a hS
  refine r_call (l := [.tmp 22, .tmp 23, .tmp 24]) hS rfl rfl Fc.fn59 rfl ?_
  refine Calls.mono (insert_nil _) ?_
  rintro e w1 ⟨rfl, hE⟩
  replace hH := hH.ext hE
  refine ⟨_, rfl, hH.kp0, ?_⟩
  clear hS; intro a hS
  refine r_assign hS hH.kp0 rfl rfl ?_; clear hS; intro a hS
  refine Sq.nil ?_
  refine then_n ?_
  refine wp_ret ?_
  refine then_r ?_
  exact leave (.inl rfl) hS rfl (Res.tmp rfl Res.nil) ⟨rfl, hH.mod⟩

set_option maxRecDepth 100000 in
set_option maxHeartbeats 400000 in
theorem remove_nil (gb x y : Nat) (hxy : x ≤ y) (hy : y ≤ 1099511627776) (w0 : World) (hg : w0.heap[gb]? = some (.cells ([.bool true, .slice none 0 0] : List Value).toArray 89 (0, 0))) : Calls Try.prog 31 #[.pointer (some ⟨gb, 0, none⟩), .int .i64 (x : Int), .int .i64 (y : Int)] w0 fun e w' => e = .returned (.int .i64 0) ∧ w'.heap[gb]? = some (.cells ([.bool true, .slice none 0 0] : List Value).toArray 89 (0, 0)) ∧ Mod (· = gb) w0 w' := by
  refine enter Try.func31 rfl rfl rfl ?_
  intro a hS
  have hH := Hp.start w0 ((· = gb))
  replace hH := hH.know hg (by intro p hp; simp at hp)
  refine c_seq ?_
  refine reg_plain w0 ((· = gb)) ?_
  refine r_assign hS hH.kp0 rfl rfl ?_; clear hS; intro a hS
  refine Sq.nil ?_
  refine then_n ?_
  refine c_seq ?_
  refine c_seq ?_
  refine reg_plain w0 ((· = gb)) ?_
  refine r_move hS hH.kp0 rfl rfl ?_; clear hS; intro a hS
  refine r_move hS hH.kp0 rfl rfl ?_; clear hS; intro a hS
  refine r_move hS hH.kp0 rfl rfl ?_; clear hS; intro a hS
  refine r_call (l := [.tmp 13, .tmp 14, .tmp 15]) hS rfl rfl Fc.fn49 rfl ?_
  refine Calls.mono (swrong_c gb x y hxy hy _ (hH.get (b := gb) (by repeat (first | exact In.here | refine In.there ?_)))) ?_
  rintro e w1 ⟨rfl, hE⟩
  replace hH := hH.ext hE
  refine ⟨_, rfl, hH.kp0, ?_⟩
  clear hS; intro a hS
  refine r_assign hS hH.kp0 rfl rfl ?_; clear hS; intro a hS
  refine Sq.nil ?_
  refine then_n ?_
  refine c_seq ?_
  refine reg_plain w0 ((· = gb)) ?_
  refine r_move hS hH.kp0 rfl rfl ?_; clear hS; intro a hS
  refine r_neq hS hH.kp0 rfl rfl rfl ?_; clear hS; intro a hS
  refine Sq.nil ?_
  refine then_n ?_
  refine c_condF hS rfl rfl ?_
  refine wp_skip ?_
  refine then_n ?_
  refine c_seq ?_
  refine reg_plain w0 ((· = gb)) ?_
  refine r_move hS hH.kp0 rfl rfl ?_; clear hS; intro a hS
  refine r_move hS hH.kp0 rfl rfl ?_; clear hS; intro a hS
  refine r_call (l := [.tmp 20, .tmp 21]) hS rfl rfl Fc.fn50 rfl ?_
  refine Calls.mono (from_nil gb _ _ (hH.get (b := gb) (by repeat (first | exact In.here | refine In.there ?_)))) ?_
  rintro e w1 ⟨rfl, hE⟩
  replace hH := hH.ext hE
  refine ⟨_, rfl, hH.kp0, ?_⟩
  clear hS; intro a hS
  refine r_assign hS hH.kp0 rfl rfl ?_; clear hS; intro a hS
  refine Sq.nil ?_
  refine then_n ?_
  refine c_seq ?_
  refine reg_plain w0 ((· = gb)) ?_
  refine r_move hS hH.kp0 rfl rfl ?_; clear hS; intro a hS
  refine r_assign hS hH.kp0 rfl rfl ?_; clear hS; intro a hS
  refine Sq.nil ?_
  refine then_n ?_
  refine c_seq ?_
  refine reg_plain w0 ((· = gb)) ?_
  refine r_assign hS hH.kp0 rfl rfl ?_; clear hS; intro a hS
  refine Sq.nil ?_
  refine then_n ?_
  refine c_seq ?_
  refine wp_block ?_
  refine wp_loop_rounds 1 ?_
  refine rnd ?_
  refine c_seq ?_
  refine c_seq ?_
  refine reg_plain w0 ((· = gb)) ?_
  refine r_move hS hH.kp0 rfl rfl ?_; clear hS; intro a hS
  refine r_move hS hH.kp0 rfl rfl ?_; clear hS; intro a hS
  refine r_nilCheck hS hH.kp0 rfl rfl ?_; clear hS; intro a hS
  refine r_fieldAddr hS hH.kp0 rfl Fc.fo89_1 rfl ?_; clear hS; intro a hS
  refine r_load_sc hS hH (by repeat (first | exact Sub.nil | refine Sub.cons ?_ ?_ | exact In.here | refine In.there ?_)) rfl (by repeat (first | exact In.here | refine In.there ?_)) Fc.sc87 (by rfl) rfl ?_; clear hS; intro a hS
  refine r_lenSl hS hH.kp0 rfl Fc.isSlice87 rfl ?_; clear hS; intro a hS
  refine r_lss hS hH.kp0 rfl rfl rfl ?_; clear hS; intro a hS
  refine r_move hS hH.kp0 rfl rfl ?_; clear hS; intro a hS
  refine Sq.guardNo hS rfl rfl rfl hH.kp0 rfl ?_; clear hS; intro a hS
  refine Sq.guardNo hS rfl rfl rfl hH.kp0 rfl ?_; clear hS; intro a hS
  refine Sq.guardNo hS rfl rfl rfl hH.kp0 rfl ?_; clear hS; intro a hS
  refine Sq.guardNo hS rfl rfl rfl hH.kp0 rfl ?_; clear hS; intro a hS
  refine Sq.guardNo hS rfl rfl rfl hH.kp0 rfl ?_; clear hS; intro a hS
  refine Sq.guardNo hS rfl rfl rfl hH.kp0 rfl ?_; clear hS; intro a hS
  refine Sq.guardNo hS rfl rfl rfl hH.kp0 rfl ?_; clear hS; intro a hS
  refine Sq.guardNo hS rfl rfl rfl hH.kp0 rfl ?_; clear hS; intro a hS
  refine Sq.guardNo hS rfl rfl rfl hH.kp0 rfl ?_; clear hS; intro a hS
  refine Sq.guardNo hS rfl rfl rfl hH.kp0 rfl ?_; clear hS; intro a hS
  refine r_pickF hS hH.kp0 rfl rfl rfl rfl ?_; clear hS; intro a hS
  refine Sq.nil ?_
  refine then_n ?_
  refine c_condF hS rfl rfl ?_
  refine wp_exit ?_
  refine then_e ?_
  refine then_e ?_
  refine blk_hit ?_
  refine then_n ?_
  refine c_seq ?_
  refine c_seq ?_
  refine reg_plain w0 ((· = gb)) ?_
  refine r_move hS hH.kp0 rfl rfl ?_; clear hS; intro a hS
  refine r_nilCheck hS hH.kp0 rfl rfl ?_; clear hS; intro a hS
  refine r_fieldAddr hS hH.kp0 rfl Fc.fo89_1 rfl ?_; clear hS; intro a hS
  refine r_load_sc hS hH (by repeat (first | exact Sub.nil | refine Sub.cons ?_ ?_ | exact In.here | refine In.there ?_)) rfl (by repeat (first | exact In.here | refine In.there ?_)) Fc.sc87 (by rfl) rfl ?_; clear hS; intro a hS
  refine r_lenSl hS hH.kp0 rfl Fc.isSlice87 rfl ?_; clear hS; intro a hS
  refine r_move hS hH.kp0 rfl rfl ?_; clear hS; intro a hS
  refine r_move hS hH.kp0 rfl rfl ?_; clear hS; intro a hS
  (first | refine r_sub hS hH.kp0 rfl rfl rfl (by omega) ?_ | refine r_subw hS hH.kp0 rfl rfl rfl ?_)
  clear hS; intro a hS
  (first | refine r_sub hS hH.kp0 rfl rfl rfl (by omega) ?_ | refine r_subw hS hH.kp0 rfl rfl rfl ?_)
  clear hS; intro a hS
  refine r_move hS hH.kp0 rfl rfl ?_; clear hS; intro a hS
  refine r_lenSl hS hH.kp0 rfl Fc.isSlice87 rfl ?_; clear hS; intro a hS
  (first | refine r_add hS hH.kp0 rfl rfl rfl (by omega) ?_ | refine r_addw hS hH.kp0 rfl rfl rfl ?_)
  clear hS; intro a hS
  refine r_gtr hS hH.kp0 rfl rfl rfl ?_; clear hS; intro a hS
  refine Sq.nil ?_
  refine then_n ?_
  refine c_condF hS rfl rfl ?_
  refine wp_skip ?_
  refine then_n ?_
  refine c_seq ?_
  refine reg_plain w0 ((· = gb)) ?_
  refine r_move hS hH.kp0 rfl rfl ?_; clear hS; intro a hS
  refine r_move hS hH.kp0 rfl rfl ?_; clear hS; intro a hS
  refine r_nilCheck hS hH.kp0 rfl rfl ?_; clear hS; intro a hS
  refine r_fieldAddr hS hH.kp0 rfl Fc.fo89_1 rfl ?_; clear hS; intro a hS
  refine r_load_sc hS hH (by repeat (first | exact Sub.nil | refine Sub.cons ?_ ?_ | exact In.here | refine In.there ?_)) rfl (by repeat (first | exact In.here | refine In.there ?_)) Fc.sc87 (by rfl) rfl ?_; clear hS; intro a hS
  refine r_move hS hH.kp0 rfl rfl ?_; clear hS; intro a hS
  refine r_move hS hH.kp0 rfl rfl ?_; clear hS; intro a hS
  refine r_move hS hH.kp0 rfl rfl ?_; clear hS; intro a hS
  refine r_call (l := [.tmp 100, .tmp 101, .tmp 102, .tmp 103]) hS rfl rfl Fc.fn51 rfl ?_
  refine Calls.mono (replace_nil _) ?_
  rintro e w1 ⟨rfl, hE⟩
  replace hH := hH.ext hE
  refine ⟨_, rfl, hH.kp0, ?_⟩
  clear hS; intro a hS
  refine r_nilCheck hS hH.kp0 rfl rfl ?_; clear hS; intro a hS
  refine r_fieldAddr hS hH.kp0 rfl Fc.fo89_1 rfl ?_; clear hS; intro a hS
  refine r_store1 hS hH rfl rfl rfl (by repeat (first | exact .here | apply In.there | apply Put.there | apply Del.there)) (by repeat (first | exact Sub.nil | refine Sub.cons ?_ ?_ | exact In.here | refine In.there ?_)) Fc.sz87 (of_decide_eq_true rfl) (.inl rfl) ?_
  clear hH; intro w hH
  refine Sq.nil ?_
  refine then_n ?_
  refine c_seq ?_
  refine reg_plain w0 ((· = gb)) ?_
  refine r_assign hS hH.kp0 rfl rfl ?_; clear hS; intro a hS
  refine Sq.nil ?_
  refine then_n ?_
  refine wp_ret ?_
  exact leave (.inl rfl) hS rfl (Res.tmp rfl Res.nil) ⟨rfl, hH.get (b := gb) (by repeat (first | exact In.here | refine In.there ?_)), hH.mod⟩

end Go.Proofs.Ytkhcbllphdhbdaa

namespace Go.Proofs.Ytkhcbllphdhbdaa
open Go.Sym

theorem Fc.fn32 : isFn Try.prog 32 = true := by kernel_rfl
theorem Fc.fn47 : isFn Try.prog 47 = true := by kernel_rfl
theorem Fc.fn48 : isFn Try.prog 48 = true := by kernel_rfl
theorem Fc.fn55 : isFn Try.prog 55 = true := by kernel_rfl
theorem Fc.fo70_3 : foff Try.prog 70 3 = some 3 := by kernel_rfl
theorem Fc.fo70_6 : foff Try.prog 70 6 = some 6 := by kernel_rfl
theorem Fc.sc23 : scB Try.prog 23 = true := by kernel_rfl
theorem Fc.sz3 : sizeB Try.prog 3 1 = true := by kernel_rfl
theorem Fc.sz4 : sizeB Try.prog 4 1 = true := by kernel_rfl
theorem Fc.zc3 : zcB Try.prog 3 = some [.int .i64 0] := by kernel_rfl
theorem Fc.zc4 : zcB Try.prog 4 = some [.bool false] := by kernel_rfl
set_option maxRecDepth 100000 in
set_option maxHeartbeats 400000 in
theorem fits_c (b3 b5 : Nat) (ob gb hb room base sent kl kc : Nat) (q : Option Addr) (en : Int) (limit : Nat) (hbk : base + kl ≤ 1099511627776) (hn : b3 ≠ b5) (hn1 : ob ≠ b3) (hn2 : ob ≠ b5) (w0 : World) (hz : w0.heap[ob]? = some (.cells ([.int .i64 (room : Int), .int .i64 (base : Int), .slice q kl kc, .int .i64 (sent : Int), .pointer (some ⟨gb, 0, none⟩), .pointer (some ⟨hb, 0, none⟩), .int .i64 en] : List Value).toArray 70 (0, 0))) (h3 : w0.heap[b3]? = some (.cells [.pointer (some ⟨ob, 0, none⟩)].toArray 23 (0, 0))) (h5 : w0.heap[b5]? = some (.cells [Value.int .i64 (limit : Int)].toArray 3 (0, 0))) : Calls Try.prog 48 #[.pointer (some ⟨b3, 0, none⟩), .pointer (some ⟨b5, 0, none⟩)] w0 fun e w' => e = .returned (.int .i64 ((min (base + kl) limit : Nat) : Int)) ∧ Ext w0 w' := by
  refine enter Try.func48 rfl rfl rfl ?_
  intro a hS
  have hH := Hp.start w0 (Nobody)
  replace hH := ((hH.know h5 (by intro p hp; simp at hp)).know h3 (by intro p hp; simp at hp; subst hp; exact hn.symm)).know hz (by intro p hp; simp at hp; rcases hp with rfl | rfl; exact hn1.symm; exact hn2.symm)
  refine c_seq ?_
  refine reg_plain w0 (Nobody) ?_
  refine r_assign hS hH.kp0 rfl rfl ?_; clear hS; intro a hS
  refine Sq.nil ?_
  refine then_n ?_
  refine c_seq ?_
  refine reg_draw [(true, 0, []), (true, 2, []), (false, 1, []), (true, 3, []), (true, 4, [])] Fc.mixed (by kernel_rfl) (by kernel_rfl) (by kernel_rfl) (by kernel_rfl) (by kernel_rfl) (by repeat (first | with_reducible exact steady_body | with_reducible exact steady_bodyQ | with_reducible exact steady_round | with_reducible apply steady_block | with_reducible apply steady_then | with_reducible apply steady_scope | exact steady_body)) hH ?_
  replace hH := hH.drew
  refine r_load_scS hS rfl (by repeat (first | exact In.here | refine In.there ?_)) Fc.sc23 (by rfl) rfl ?_; clear hS; intro a hS
  refine r_load_scS hS rfl (by repeat (first | exact In.here | refine In.there ?_)) Fc.sc3 (by rfl) rfl ?_; clear hS; intro a hS
  refine r_call (l := [.tmp 3]) hS rfl rfl Fc.fn32 rfl ?_
  refine Calls.mono (written_c ob gb hb room base sent kl kc q en hbk _ (hH.get (b := ob) (by repeat (first | exact In.here | refine In.there ?_)))) ?_
  rintro e w1 ⟨rfl, hE⟩
  replace hH := hH.ext hE
  refine ⟨_, rfl, hH.kp (by repeat (first | exact Sub.nil | refine Sub.cons ?_ ?_ | exact In.here | refine In.there ?_)), ?_⟩
  clear hS; intro a hS
  refine r_minN (m := base + kl) (k := limit) hS trivial rfl rfl rfl ?_; clear hS; intro a hS
  refine r_assign hS trivial rfl rfl ?_; clear hS; intro a hS
  refine Sq.nil ?_
  refine then_n ?_
  refine wp_ret ?_
  exact leave (.inl rfl) hS rfl (Res.tmp rfl Res.nil) ⟨rfl, hH.mod⟩

set_option maxRecDepth 100000 in
set_option maxHeartbeats 4000000 in
theorem due_c (ob gb hb room base sent kl kc : Nat) (q : Option Addr) (en : Int) (most limit : Nat) (hbk : base + kl ≤ 1099511627776) (hsent : sent ≤ base + kl) (hmost : most ≤ 1099511627776) (hlim : limit ≤ 4611686018427387903) (w0 : World) (hz : w0.heap[ob]? = some (.cells ([.int .i64 (room : Int), .int .i64 (base : Int), .slice q kl kc, .int .i64 (sent : Int), .pointer (some ⟨gb, 0, none⟩), .pointer (some ⟨hb, 0, none⟩), .int .i64 en] : List Value).toArray 70 (0, 0))) (hg : w0.heap[gb]? = some (.cells ([.bool true, .slice none 0 0] : List Value).toArray 89 (0, 0))) (hne : gb ≠ ob) : Calls Try.prog 29 #[.pointer (some ⟨ob, 0, none⟩), .int .i64 (most : Int), .int .i64 (limit : Int)] w0 fun e w' => e = .returned (.tuple #[.int .i64 ((dueE (base + kl) sent most limit (en == 1 || en == 3)).1 : Int), .int .i64 ((dueE (base + kl) sent most limit (en == 1 || en == 3)).2.1 : Int), .bool (dueE (base + kl) sent most limit (en == 1 || en == 3)).2.2]) ∧ Ext w0 w' := by
  refine enterM Try.func29 rfl rfl rfl ?_
  intro a hS
  have hH := Hp.start w0 (Nobody)
  replace hH := (hH.know hg (by intro p hp; simp at hp)).know hz (by intro p hp; simp at hp; subst hp; exact hne)
  refine c_seq ?_
  refine reg_plain w0 (Nobody) ?_
  refine r_box hS hH (by repeat (first | exact Sub.nil | refine Sub.cons ?_ ?_ | exact In.here | refine In.there ?_)) rfl rfl rfl ?_
  clear hS hH; intro a w b3 hb3 hwb3 hS hH
  refine r_box hS hH (by repeat (first | exact Sub.nil | refine Sub.cons ?_ ?_ | exact In.here | refine In.there ?_)) rfl rfl rfl ?_
  clear hS hH; intro a w b4 hb4 hwb4 hS hH
  refine r_box hS hH (by repeat (first | exact Sub.nil | refine Sub.cons ?_ ?_ | exact In.here | refine In.there ?_)) rfl rfl rfl ?_
  clear hS hH; intro a w b5 hb5 hwb5 hS hH
  refine r_alloc hS hH (by repeat (first | exact Sub.nil | refine Sub.cons ?_ ?_ | exact In.here | refine In.there ?_)) Fc.zc3 rfl ?_
  clear hS hH; intro a w b6 hb6 hwb6 hS hH
  refine r_alloc hS hH (by repeat (first | exact Sub.nil | refine Sub.cons ?_ ?_ | exact In.here | refine In.there ?_)) Fc.zc3 rfl ?_
  clear hS hH; intro a w b7 hb7 hwb7 hS hH
  refine r_alloc hS hH (by repeat (first | exact Sub.nil | refine Sub.cons ?_ ?_ | exact In.here | refine In.there ?_)) Fc.zc4 rfl ?_
  clear hS hH; intro a w b8 hb8 hwb8 hS hH
  refine Sq.nil ?_
  refine then_n ?_
  refine c_seq ?_
  refine c_seq ?_
  refine reg_plain w0 (Nobody) ?_
  have n35 : b3 ≠ b5 := fun e => by have h1 := hH.get (b := b3) (by repeat (first | exact .here | apply In.there | apply Put.there | apply Del.there)); have h2 := hH.get (b := b5) (by repeat (first | exact .here | apply In.there | apply Put.there | apply Del.there)); rw [e, h2] at h1; cases h1
  have no3 : ob ≠ b3 := fun e => by have h1 := hH.get (b := b3) (by repeat (first | exact .here | apply In.there | apply Put.there | apply Del.there)); have h2 := hH.get (b := ob) (by repeat (first | exact .here | apply In.there | apply Put.there | apply Del.there)); rw [← e, h2] at h1; cases h1
  have no5 : ob ≠ b5 := fun e => by have h1 := hH.get (b := b5) (by repeat (first | exact .here | apply In.there | apply Put.there | apply Del.there)); have h2 := hH.get (b := ob) (by repeat (first | exact .here | apply In.there | apply Put.there | apply Del.there)); rw [← e, h2] at h1; cases h1
  refine r_load_sc hS hH (by repeat (first | exact Sub.nil | refine Sub.cons ?_ ?_ | exact In.here | refine In.there ?_)) rfl (by repeat (first | exact In.here | refine In.there ?_)) Fc.sc3 (by rfl) rfl ?_; clear hS; intro a hS
  refine r_lss hS hH.kp0 rfl rfl rfl ?_; clear hS; intro a hS
  refine Sq.nil ?_
  refine then_n ?_
  refine c_condF hS rfl (DF (by omega)) ?_
  refine wp_skip ?_
  refine then_n ?_
  refine c_seq ?_
  refine c_seq ?_
  refine reg_plain w0 (Nobody) ?_
  refine r_load_sc hS hH (by repeat (first | exact Sub.nil | refine Sub.cons ?_ ?_ | exact In.here | refine In.there ?_)) rfl (by repeat (first | exact In.here | refine In.there ?_)) Fc.sc23 (by rfl) rfl ?_; clear hS; intro a hS
  refine r_nilCheck hS hH.kp0 rfl rfl ?_; clear hS; intro a hS
  refine r_fieldAddr hS hH.kp0 rfl Fc.fo70_4 rfl ?_; clear hS; intro a hS
  refine r_load_sc hS hH (by repeat (first | exact Sub.nil | refine Sub.cons ?_ ?_ | exact In.here | refine In.there ?_)) rfl (by repeat (first | exact In.here | refine In.there ?_)) Fc.sc67 (by rfl) rfl ?_; clear hS; intro a hS
  refine r_call (l := [.tmp 16]) hS rfl rfl Fc.fn47 rfl ?_
  refine Calls.mono (All_c _ rfl _) ?_
  rintro e w1 ⟨bb, rfl, hbb, hbk9, hE⟩
  have hbg : bb ≠ gb := fun e => by have := lt_of_block (hH.get (b := gb) (by repeat (first | exact .here | apply In.there | apply Put.there | apply Del.there))); omega
  replace hH := (hH.ext hE).know hbk9 (fun p hp e => by have := lt_of_block (hH.blk p hp); omega)
  refine ⟨_, rfl, hH.kp0, ?_⟩
  clear hS; intro a hS
  refine Sq.nil ?_
  refine then_n ?_
  refine wp_block ?_
  refine c_range0 (lb := [.pointer (some ⟨bb, 0, none⟩)]) hS hH rfl Fc.fn55 (fun l w1 hE1 => All1_nil _ bb gb hbg w1 (hE1.heap_some (hH.get (b := bb) (by repeat (first | exact In.here | refine In.there ?_)))) (hE1.heap_some (hH.get (b := gb) (by repeat (first | exact In.here | refine In.there ?_))))) ?_
  clear hS hH; intro a w D lr orr hD hlr hS hH
  refine blk_n ?_
  refine then_n ?_
  refine c_seq ?_
  refine reg_plain w0 (Nobody) ?_
  refine r_makeFunc hS hH.kp0 rfl rfl rfl ?_; clear hS; intro a hS
  refine r_assign hS hH.kp0 rfl rfl ?_; clear hS; intro a hS
  refine Sq.nil ?_
  refine then_n ?_
  refine c_seq ?_
  refine c_seq ?_
  refine reg_draw [(true, 0, []), (true, 1, []), (true, 2, []), (true, 3, []), (true, 4, []), (false, 5, []), (true, 6, [])] Fc.mixed (by kernel_rfl) (by kernel_rfl) (by kernel_rfl) (by kernel_rfl) (by kernel_rfl) (by repeat (first | with_reducible exact steady_body | with_reducible exact steady_bodyQ | with_reducible exact steady_round | with_reducible apply steady_block | with_reducible apply steady_then | with_reducible apply steady_scope | exact steady_body)) hH ?_
  replace hH := hH.drew
  refine r_load_scS hS rfl (by repeat (first | exact In.here | refine In.there ?_)) Fc.sc23 (by rfl) rfl ?_; clear hS; intro a hS
  refine r_nilCheck hS trivial rfl rfl ?_; clear hS; intro a hS
  refine r_fieldAddr hS trivial rfl Fc.fo70_3 rfl ?_; clear hS; intro a hS
  refine r_load_scS hS rfl (by repeat (first | exact In.here | refine In.there ?_)) Fc.sc3 (by rfl) rfl ?_; clear hS; intro a hS
  refine r_load_scS hS rfl (by repeat (first | exact In.here | refine In.there ?_)) Fc.sc23 (by rfl) rfl ?_; clear hS; intro a hS
  refine r_call (l := [.tmp 42]) hS rfl rfl Fc.fn32 rfl ?_
  refine Calls.mono (written_c ob gb hb room base sent kl kc q en hbk _ (hH.get (b := ob) (by repeat (first | exact In.here | refine In.there ?_)))) ?_
  rintro e w1 ⟨rfl, hE⟩
  replace hH := hH.ext hE
  refine ⟨_, rfl, hH.kp (by repeat (first | exact Sub.nil | refine Sub.cons ?_ ?_ | exact In.here | refine In.there ?_)), ?_⟩
  clear hS; intro a hS
  refine r_lss hS trivial rfl rfl rfl ?_; clear hS; intro a hS
  refine Sq.nil ?_
  refine then_n ?_
  refine c_cond hS rfl (fun hc1 => ?_) (fun hc1 => ?_)
  · have hlt : sent < base + kl := by have := of_decide_eq_true hc1; omega
    refine c_seq ?_
    refine c_seq ?_
    refine reg_draw [(true, 0, []), (true, 1, []), (true, 2, []), (true, 3, []), (true, 4, []), (true, 5, [])] Fc.mixed (by kernel_rfl) (by kernel_rfl) (by kernel_rfl) (by kernel_rfl) (by kernel_rfl) (by repeat (first | with_reducible exact steady_body | with_reducible exact steady_bodyQ | with_reducible exact steady_round | with_reducible apply steady_block | with_reducible apply steady_then | with_reducible apply steady_scope | exact steady_body)) hH ?_
    replace hH := hH.drew
    refine r_load_scS hS rfl (by repeat (first | exact In.here | refine In.there ?_)) Fc.sc23 (by rfl) rfl ?_; clear hS; intro a hS
    refine r_nilCheck hS trivial rfl rfl ?_; clear hS; intro a hS
    refine r_fieldAddr hS trivial rfl Fc.fo70_3 rfl ?_; clear hS; intro a hS
    refine r_load_scS hS rfl (by repeat (first | exact In.here | refine In.there ?_)) Fc.sc3 (by rfl) rfl ?_; clear hS; intro a hS
    refine r_load_scS hS rfl (by repeat (first | exact In.here | refine In.there ?_)) Fc.sc3 (by rfl) rfl ?_; clear hS; intro a hS
    refine r_geq hS trivial rfl rfl rfl ?_; clear hS; intro a hS
    refine Sq.nil ?_
    refine then_n ?_
    refine c_cond hS rfl (fun hc2 => ?_) (fun hc2 => ?_)
    · have hli : limit ≤ sent := by have := of_decide_eq_true hc2; omega
      refine c_seq ?_
      refine reg_plain w0 (Nobody) ?_
      refine r_store1 hS hH rfl rfl rfl (by repeat (first | exact .here | apply In.there | apply Put.there | apply Del.there)) (by repeat (first | exact Sub.nil | refine Sub.cons ?_ ?_ | exact In.here | refine In.there ?_)) Fc.sz3 (of_decide_eq_true rfl) (by first | exact .inr (by assumption) | exact .inl (by first | assumption | rfl)) ?_
      clear hH; intro w hH
      refine r_store1 hS hH rfl rfl rfl (by repeat (first | exact .here | apply In.there | apply Put.there | apply Del.there)) (by repeat (first | exact Sub.nil | refine Sub.cons ?_ ?_ | exact In.here | refine In.there ?_)) Fc.sz3 (of_decide_eq_true rfl) (by first | exact .inr (by assumption) | exact .inl (by first | assumption | rfl)) ?_
      clear hH; intro w hH
      refine r_store1 hS hH rfl rfl rfl (by repeat (first | exact .here | apply In.there | apply Put.there | apply Del.there)) (by repeat (first | exact Sub.nil | refine Sub.cons ?_ ?_ | exact In.here | refine In.there ?_)) Fc.sz4 (of_decide_eq_true rfl) (by first | exact .inr (by assumption) | exact .inl (by first | assumption | rfl)) ?_
      clear hH; intro w hH
      refine Sq.nil ?_
      refine then_n ?_
      refine wp_ret ?_
      refine then_r ?_
      refine then_r ?_
      refine leaveM (.inl rfl) hS hH (hH.get (b := D) (by repeat (first | exact In.here | refine In.there ?_))) hD rfl (Res.cell1 rfl (hH.get (by repeat (first | exact In.here | refine In.there ?_))) Fc.sc3 (by rfl) (Res.cell1 rfl (hH.get (by repeat (first | exact In.here | refine In.there ?_))) Fc.sc3 (by rfl) (Res.cell1 rfl (hH.get (by repeat (first | exact In.here | refine In.there ?_))) Fc.sc4 (by rfl) Res.nil))) (fun w9 hm9 hk9 => ⟨?_, hm9⟩)
      simp only [dueE, if_pos hlt, if_pos hli]
      rfl
    · have hli : ¬ limit ≤ sent := by have := of_decide_eq_false hc2; omega
      refine wp_skip ?_
      refine then_n ?_
      refine c_seq ?_
      refine reg_draw [(true, 0, [4]), (true, 1, [4]), (true, 2, [4]), (true, 3, [4]), (true, 4, [4]), (true, 5, [4]), (true, 7, [4]), (true, 8, [4]), (true, 9, [4]), (true, 10, [4]), (false, 6, []), (true, 11, [4]), (true, 12, [4]), (true, 13, [4]), (false, 14, [4])] Fc.mixed (by kernel_rfl) (by kernel_rfl) (by kernel_rfl) (by kernel_rfl) (by kernel_rfl) (by repeat (first | with_reducible exact steady_body | with_reducible exact steady_bodyQ | with_reducible exact steady_round | with_reducible apply steady_block | with_reducible apply steady_then | with_reducible apply steady_scope | exact steady_body)) hH ?_
      replace hH := hH.drew
      refine r_load_scS hS rfl (by repeat (first | exact In.here | refine In.there ?_)) Fc.sc23 (by rfl) rfl ?_; clear hS; intro a hS
      refine r_nilCheck hS trivial rfl rfl ?_; clear hS; intro a hS
      refine r_fieldAddr hS trivial rfl Fc.fo70_3 rfl ?_; clear hS; intro a hS
      refine r_load_scS hS rfl (by repeat (first | exact In.here | refine In.there ?_)) Fc.sc3 (by rfl) rfl ?_; clear hS; intro a hS
      refine r_load_scS hS rfl (by repeat (first | exact In.here | refine In.there ?_)) Fc.sc3 (by rfl) rfl ?_; clear hS; intro a hS
      refine r_move hS trivial rfl rfl ?_; clear hS; intro a hS
      refine r_load_scS hS rfl (by repeat (first | exact In.here | refine In.there ?_)) Fc.sc23 (by rfl) rfl ?_; clear hS; intro a hS
      refine r_nilCheck hS trivial rfl rfl ?_; clear hS; intro a hS
      refine r_fieldAddr hS trivial rfl Fc.fo70_3 rfl ?_; clear hS; intro a hS
      refine r_load_scS hS rfl (by repeat (first | exact In.here | refine In.there ?_)) Fc.sc3 (by rfl) rfl ?_; clear hS; intro a hS
      refine r_call (l := []) hS rfl rfl Fc.fn48 rfl ?_
      refine Calls.mono (fits_c b3 b5 ob gb hb room base sent kl kc q en limit hbk n35 no3 no5 _ (hH.get (b := ob) (by repeat (first | exact In.here | refine In.there ?_))) (hH.get (b := b3) (by repeat (first | exact In.here | refine In.there ?_))) (hH.get (b := b5) (by repeat (first | exact In.here | refine In.there ?_)))) ?_
      rintro e w1 ⟨rfl, hE⟩
      replace hH := hH.ext hE
      refine ⟨_, rfl, hH.kp (by repeat (first | exact Sub.nil | refine Sub.cons ?_ ?_ | exact In.here | refine In.there ?_)), ?_⟩
      clear hS; intro a hS
      have hsl : sent ≤ min (base + kl) limit := by omega
      refine r_subN0 (m := min (base + kl) limit) (k := sent) hS trivial rfl rfl hsl (by omega) rfl ?_; clear hS; intro a hS
      refine r_minN (m := most) (k := min (base + kl) limit - sent) hS trivial rfl rfl rfl ?_; clear hS; intro a hS
      refine r_addN0 (m := sent) (k := min most (min (base + kl) limit - sent)) hS trivial rfl rfl (by omega) rfl ?_; clear hS; intro a hS
      refine r_store1 hS hH rfl rfl rfl (by repeat (first | exact .here | apply In.there | apply Put.there | apply Del.there)) (by repeat (first | exact Sub.nil | refine Sub.cons ?_ ?_ | exact In.here | refine In.there ?_)) Fc.sz3 (of_decide_eq_true rfl) (by first | exact .inr (by assumption) | exact .inl (by first | assumption | rfl)) ?_
      clear hH; intro w hH
      refine Sq.nil ?_
      refine then_n ?_
      refine c_seq ?_
      refine reg_draw [(true, 0, [3, 4, 5]), (true, 1, [3, 4, 5]), (true, 2, [3, 4, 5]), (true, 3, [3, 4, 5]), (true, 4, [3, 5]), (true, 5, [3, 5]), (true, 6, [3, 4, 5]), (true, 7, [3, 4, 5]), (true, 8, [3, 4, 5]), (true, 9, [3, 4, 5]), (true, 10, [3, 4, 5]), (false, 11, [5]), (false, 12, [4, 5]), (false, 13, [3, 4, 5])] Fc.mixed (by kernel_rfl) (by kernel_rfl) (by kernel_rfl) (by kernel_rfl) (by kernel_rfl) (by repeat (first | with_reducible exact steady_body | with_reducible exact steady_bodyQ | with_reducible exact steady_round | with_reducible apply steady_block | with_reducible apply steady_then | with_reducible apply steady_scope | exact steady_body)) hH ?_
      replace hH := hH.drew
      refine r_load_scS hS rfl (by repeat (first | exact In.here | refine In.there ?_)) Fc.sc23 (by rfl) rfl ?_; clear hS; intro a hS
      refine r_nilCheck hS trivial rfl rfl ?_; clear hS; intro a hS
      refine r_fieldAddr hS trivial rfl Fc.fo70_3 rfl ?_; clear hS; intro a hS
      refine r_load_scS hS rfl (by repeat (first | exact In.here | refine In.there ?_)) Fc.sc3 (by rfl) rfl ?_; clear hS; intro a hS
      refine r_load_scS hS rfl (by repeat (first | exact In.here | refine In.there ?_)) Fc.sc3 (by rfl) rfl ?_; clear hS; intro a hS
      refine r_load_scS hS rfl (by repeat (first | exact In.here | refine In.there ?_)) Fc.sc3 (by rfl) rfl ?_; clear hS; intro a hS
      refine r_load_scS hS rfl (by repeat (first | exact In.here | refine In.there ?_)) Fc.sc23 (by rfl) rfl ?_; clear hS; intro a hS
      refine r_nilCheck hS trivial rfl rfl ?_; clear hS; intro a hS
      refine r_fieldAddr hS trivial rfl Fc.fo70_3 rfl ?_; clear hS; intro a hS
      refine r_load_scS hS rfl (by repeat (first | exact In.here | refine In.there ?_)) Fc.sc3 (by rfl) rfl ?_; clear hS; intro a hS
      refine r_gtrN (m := sent + min most (min (base + kl) limit - sent)) (k := sent) hS trivial rfl rfl rfl ?_; clear hS; intro a hS
      refine r_store1 hS hH rfl rfl rfl (by repeat (first | exact .here | apply In.there | apply Put.there | apply Del.there)) (by repeat (first | exact Sub.nil | refine Sub.cons ?_ ?_ | exact In.here | refine In.there ?_)) Fc.sz3 (of_decide_eq_true rfl) (by first | exact .inr (by assumption) | exact .inl (by first | assumption | rfl)) ?_
      clear hH; intro w hH
      refine r_store1 hS hH rfl rfl rfl (by repeat (first | exact .here | apply In.there | apply Put.there | apply Del.there)) (by repeat (first | exact Sub.nil | refine Sub.cons ?_ ?_ | exact In.here | refine In.there ?_)) Fc.sz3 (of_decide_eq_true rfl) (by first | exact .inr (by assumption) | exact .inl (by first | assumption | rfl)) ?_
      clear hH; intro w hH
      refine r_store1 hS hH rfl rfl rfl (by repeat (first | exact .here | apply In.there | apply Put.there | apply Del.there)) (by repeat (first | exact Sub.nil | refine Sub.cons ?_ ?_ | exact In.here | refine In.there ?_)) Fc.sz4 (of_decide_eq_true rfl) (by first | exact .inr (by assumption) | exact .inl (by first | assumption | rfl)) ?_
      clear hH; intro w hH
      refine Sq.nil ?_
      refine then_n ?_
      refine wp_ret ?_
      refine then_r ?_
      refine leaveM (.inl rfl) hS hH (hH.get (b := D) (by repeat (first | exact In.here | refine In.there ?_))) hD rfl (Res.cell1 rfl (hH.get (by repeat (first | exact In.here | refine In.there ?_))) Fc.sc3 (by rfl) (Res.cell1 rfl (hH.get (by repeat (first | exact In.here | refine In.there ?_))) Fc.sc3 (by rfl) (Res.cell1 rfl (hH.get (by repeat (first | exact In.here | refine In.there ?_))) Fc.sc4 (by rfl) Res.nil))) (fun w9 hm9 hk9 => ⟨?_, hm9⟩)
      simp only [dueE, if_pos hlt, if_neg hli]
      rw [show decide (sent + min most (min (base + kl) limit - sent) > sent) = decide (0 < min most (min (base + kl) limit - sent)) from by simp]
      rfl
  · have hge : ¬ sent < base + kl := by have := of_decide_eq_false hc1; omega
    refine wp_skip ?_
    refine then_n ?_
    refine c_seq ?_
    refine reg_draw [(true, 0, [3, 4, 5]), (true, 1, [3, 4, 5]), (true, 2, [3, 4, 5]), (true, 3, [3, 4, 5]), (true, 4, [3, 4, 5]), (true, 5, [3, 4, 5]), (true, 6, [3, 4, 5]), (true, 7, [3, 4, 5]), (true, 8, [3, 4, 5]), (true, 9, [3, 4, 5]), (true, 10, [3, 4, 5]), (true, 11, [3, 4, 5]), (true, 12, [3, 4, 5]), (true, 13, [3, 4, 5]), (true, 14, [3, 4, 5]), (true, 15, [3, 4, 5]), (true, 16, [3, 4, 5]), (true, 17, [3, 4, 5]), (true, 18, [3, 4, 5]), (true, 19, [3, 4, 5]), (false, 20, [5]), (false, 21, [4, 5]), (false, 22, [3, 4, 5])] Fc.mixed (by kernel_rfl) (by kernel_rfl) (by kernel_rfl) (by kernel_rfl) (by kernel_rfl) (by repeat (first | with_reducible exact steady_body | with_reducible exact steady_bodyQ | with_reducible exact steady_round | with_reducible apply steady_block | with_reducible apply steady_then | with_reducible apply steady_scope | exact steady_body)) hH ?_
    replace hH := hH.drew
    refine r_load_scS hS rfl (by repeat (first | exact In.here | refine In.there ?_)) Fc.sc23 (by rfl) rfl ?_; clear hS; intro a hS
    refine r_nilCheck hS trivial rfl rfl ?_; clear hS; intro a hS
    refine r_fieldAddr hS trivial rfl Fc.fo70_3 rfl ?_; clear hS; intro a hS
    refine r_load_scS hS rfl (by repeat (first | exact In.here | refine In.there ?_)) Fc.sc3 (by rfl) rfl ?_; clear hS; intro a hS
    refine r_load_scS hS rfl (by repeat (first | exact In.here | refine In.there ?_)) Fc.sc23 (by rfl) rfl ?_; clear hS; intro a hS
    refine r_nilCheck hS trivial rfl rfl ?_; clear hS; intro a hS
    refine r_fieldAddr hS trivial rfl Fc.fo70_3 rfl ?_; clear hS; intro a hS
    refine r_load_scS hS rfl (by repeat (first | exact In.here | refine In.there ?_)) Fc.sc3 (by rfl) rfl ?_; clear hS; intro a hS
    refine r_load_scS hS rfl (by repeat (first | exact In.here | refine In.there ?_)) Fc.sc23 (by rfl) rfl ?_; clear hS; intro a hS
    refine r_nilCheck hS trivial rfl rfl ?_; clear hS; intro a hS
    refine r_fieldAddr hS trivial rfl Fc.fo70_6 rfl ?_; clear hS; intro a hS
    refine r_load_scS hS rfl (by repeat (first | exact In.here | refine In.there ?_)) Fc.sc3 (by rfl) rfl ?_; clear hS; intro a hS
    refine r_eql hS trivial rfl rfl rfl ?_; clear hS; intro a hS
    refine r_move hS trivial rfl rfl ?_; clear hS; intro a hS
    rcases (by cases (en == 1) <;> simp : (en == 1) = false ∨ (en == 1) = true) with hq1 | hq1
    · rw [hq1] at hS
      refine Sq.guardYes hS rfl rfl rfl ?_
      refine r_load_scS hS rfl (by repeat (first | exact In.here | refine In.there ?_)) Fc.sc23 (by rfl) rfl ?_; clear hS; intro a hS
      refine Sq.guardYes hS rfl rfl rfl ?_
      refine r_nilCheck hS trivial rfl rfl ?_; clear hS; intro a hS
      refine Sq.guardYes hS rfl rfl rfl ?_
      refine r_fieldAddr hS trivial rfl Fc.fo70_6 rfl ?_; clear hS; intro a hS
      refine Sq.guardYes hS rfl rfl rfl ?_
      refine r_load_scS hS rfl (by repeat (first | exact In.here | refine In.there ?_)) Fc.sc3 (by rfl) rfl ?_; clear hS; intro a hS
      refine Sq.guardYes hS rfl rfl rfl ?_
      refine r_eql hS trivial rfl rfl rfl ?_; clear hS; intro a hS
      refine r_pickF hS trivial rfl rfl rfl rfl ?_; clear hS; intro a hS
      refine r_store1 hS hH rfl rfl rfl (by repeat (first | exact .here | apply In.there | apply Put.there | apply Del.there)) (by repeat (first | exact Sub.nil | refine Sub.cons ?_ ?_ | exact In.here | refine In.there ?_)) Fc.sz3 (of_decide_eq_true rfl) (by first | exact .inr (by assumption) | exact .inl (by first | assumption | rfl)) ?_
      clear hH; intro w hH
      refine r_store1 hS hH rfl rfl rfl (by repeat (first | exact .here | apply In.there | apply Put.there | apply Del.there)) (by repeat (first | exact Sub.nil | refine Sub.cons ?_ ?_ | exact In.here | refine In.there ?_)) Fc.sz3 (of_decide_eq_true rfl) (by first | exact .inr (by assumption) | exact .inl (by first | assumption | rfl)) ?_
      clear hH; intro w hH
      refine r_store1 hS hH rfl rfl rfl (by repeat (first | exact .here | apply In.there | apply Put.there | apply Del.there)) (by repeat (first | exact Sub.nil | refine Sub.cons ?_ ?_ | exact In.here | refine In.there ?_)) Fc.sz4 (of_decide_eq_true rfl) (by first | exact .inr (by assumption) | exact .inl (by first | assumption | rfl)) ?_
      clear hH; intro w hH
      refine Sq.nil ?_
      refine then_n ?_
      refine wp_ret ?_
      refine leaveM (.inl rfl) hS hH (hH.get (b := D) (by repeat (first | exact In.here | refine In.there ?_))) hD rfl (Res.cell1 rfl (hH.get (by repeat (first | exact In.here | refine In.there ?_))) Fc.sc3 (by rfl) (Res.cell1 rfl (hH.get (by repeat (first | exact In.here | refine In.there ?_))) Fc.sc3 (by rfl) (Res.cell1 rfl (hH.get (by repeat (first | exact In.here | refine In.there ?_))) Fc.sc4 (by rfl) Res.nil))) (fun w9 hm9 hk9 => ⟨?_, hm9⟩)
      simp only [dueE, if_neg hge, hq1, Bool.false_or, Bool.true_or]
      rfl
    · rw [hq1] at hS
      refine Sq.guardNo hS rfl rfl rfl trivial rfl ?_; clear hS; intro a hS
      refine Sq.guardNo hS rfl rfl rfl trivial rfl ?_; clear hS; intro a hS
      refine Sq.guardNo hS rfl rfl rfl trivial rfl ?_; clear hS; intro a hS
      refine Sq.guardNo hS rfl rfl rfl trivial rfl ?_; clear hS; intro a hS
      refine Sq.guardNo hS rfl rfl rfl trivial rfl ?_; clear hS; intro a hS
      refine r_pickT hS trivial rfl rfl rfl rfl ?_; clear hS; intro a hS
      refine r_store1 hS hH rfl rfl rfl (by repeat (first | exact .here | apply In.there | apply Put.there | apply Del.there)) (by repeat (first | exact Sub.nil | refine Sub.cons ?_ ?_ | exact In.here | refine In.there ?_)) Fc.sz3 (of_decide_eq_true rfl) (by first | exact .inr (by assumption) | exact .inl (by first | assumption | rfl)) ?_
      clear hH; intro w hH
      refine r_store1 hS hH rfl rfl rfl (by repeat (first | exact .here | apply In.there | apply Put.there | apply Del.there)) (by repeat (first | exact Sub.nil | refine Sub.cons ?_ ?_ | exact In.here | refine In.there ?_)) Fc.sz3 (of_decide_eq_true rfl) (by first | exact .inr (by assumption) | exact .inl (by first | assumption | rfl)) ?_
      clear hH; intro w hH
      refine r_store1 hS hH rfl rfl rfl (by repeat (first | exact .here | apply In.there | apply Put.there | apply Del.there)) (by repeat (first | exact Sub.nil | refine Sub.cons ?_ ?_ | exact In.here | refine In.there ?_)) Fc.sz4 (of_decide_eq_true rfl) (by first | exact .inr (by assumption) | exact .inl (by first | assumption | rfl)) ?_
      clear hH; intro w hH
      refine Sq.nil ?_
      refine then_n ?_
      refine wp_ret ?_
      refine leaveM (.inl rfl) hS hH (hH.get (b := D) (by repeat (first | exact In.here | refine In.there ?_))) hD rfl (Res.cell1 rfl (hH.get (by repeat (first | exact In.here | refine In.there ?_))) Fc.sc3 (by rfl) (Res.cell1 rfl (hH.get (by repeat (first | exact In.here | refine In.there ?_))) Fc.sc3 (by rfl) (Res.cell1 rfl (hH.get (by repeat (first | exact In.here | refine In.there ?_))) Fc.sc4 (by rfl) Res.nil))) (fun w9 hm9 hk9 => ⟨?_, hm9⟩)
      simp only [dueE, if_neg hge, hq1, Bool.false_or, Bool.true_or]
      rfl

end Go.Proofs.Ytkhcbllphdhbdaa

namespace Go.Proofs.Ytkhcbllphdhbdaa
open Go.Sym

theorem Fc.ag30 : agB Try.prog 30 = some 3 := by kernel_rfl
theorem Fc.ar75 : arrB Try.prog 75 = some (2, 1) := by kernel_rfl
theorem Fc.el22 : elB Try.prog 22 = some (5, 1, 1) := by kernel_rfl
theorem Fc.fn28 : isFn Try.prog 28 = true := by kernel_rfl
theorem Fc.fn29 : isFn Try.prog 29 = true := by kernel_rfl
theorem Fc.fn30 : isFn Try.prog 30 = true := by kernel_rfl
theorem Fc.fn31 : isFn Try.prog 31 = true := by kernel_rfl
theorem Fc.fo70_0 : foff Try.prog 70 0 = some 0 := by kernel_rfl
theorem Fc.inf5 : (Try.prog.info? 5).isSome = true := by kernel_rfl
theorem Fc.isStr9 : isStr Try.prog 9 = true := by kernel_rfl
theorem Fc.ni22 : notInt Try.prog 22 = true := by kernel_rfl
theorem Fc.pl30 : placesB Try.prog 30 = some [(0, 1), (1, 1), (2, 1)] := by kernel_rfl
theorem Fc.slb22 : slB Try.prog 22 = some 1 := by kernel_rfl
theorem Fc.sz22 : sizeB Try.prog 22 1 = true := by kernel_rfl
theorem Fc.sz30 : sizeB Try.prog 30 3 = true := by kernel_rfl
theorem Fc.u8s22 : u8s Try.prog 22 = true := by kernel_rfl
theorem Fc.uls22 : Try.prog.underlying 22 = some (.slice 5) := by kernel_rfl
theorem Fc.zc30 : zcB Try.prog 30 = some [.int .i64 0, .slice none 0 0, .bool false] := by kernel_rfl
theorem Fc.zc75 : zcB Try.prog 75 = some [.int .i64 0, .int .i64 0] := by kernel_rfl
set_option maxRecDepth 100000 in
set_option maxHeartbeats 400000 in
theorem clone_c (q : Addr) (qc : Nat) (l : List UInt8) (hl : l.length ≤ 1099511627776) (w0 : World) (hb : Bs w0 (.slice (some q) l.length qc) l) : Calls Try.prog 30 #[.slice (some q) l.length qc] w0 fun e w' => ∃ (cb cap : Nat) (l2 : List Value), e = .returned (.slice (some ⟨cb, 0, none⟩) l.length cap) ∧ w0.heap.size ≤ cb ∧ w'.heap[cb]? = some (.cells l2.toArray 5 (0, 0)) ∧ l.length ≤ cap ∧ l2.length = cap ∧ l2.take l.length = l.map byteV ∧ Ext w0 w' := by
  refine enter Try.func30 rfl rfl rfl ?_
  intro a hS
  have hH := Hp.start w0 (Nobody)
  refine c_seq ?_
  refine reg_plain w0 (Nobody) ?_
  refine r_assign hS hH.kp0 rfl rfl ?_; clear hS; intro a hS
  refine Sq.nil ?_
  refine then_n ?_
  refine c_seq ?_
  refine c_seq ?_
  refine reg_plain w0 (Nobody) ?_
  refine r_move hS hH.kp0 rfl rfl ?_; clear hS; intro a hS
  refine r_slNil hS hH.kp0 rfl Fc.isSlice22 rfl ?_; clear hS; intro a hS
  refine Sq.nil ?_
  refine then_n ?_
  refine c_condF hS rfl rfl ?_
  refine wp_skip ?_
  refine then_n ?_
  refine c_seq ?_
  refine reg_plain w0 (Nobody) ?_
  refine r_buildSlice0 hS hH (by repeat (first | exact Sub.nil | refine Sub.cons ?_ ?_ | exact In.here | refine In.there ?_)) Fc.uls22 Fc.inf5 rfl ?_
  clear hS hH; intro a w b5 hb5 hwb5 hS hH
  refine r_move hS hH.kp0 rfl rfl ?_; clear hS; intro a hS
  refine r_append_own hS hH rfl rfl (by repeat (first | exact .here | apply In.there | apply Put.there | apply Del.there)) (by repeat (first | exact Sub.nil | refine Sub.cons ?_ ?_ | exact In.here | refine In.there ?_)) Fc.el22 Fc.ni22 rfl (Nat.le_refl _) (hb.ext hH.mod).src (by omega) (.inr hb5) rfl ?_
  clear hS hH; intro a w ob cap1 l1 hob hl1 hc1_ htk1 _ hS hH
  refine r_assign hS hH.kp0 rfl rfl ?_; clear hS; intro a hS
  refine Sq.nil ?_
  refine then_n ?_
  refine wp_ret ?_
  rw [Nat.zero_add] at hS hc1_ htk1
  refine leave (.inl rfl) hS rfl (Res.tmp rfl Res.nil) ⟨ob, cap1, l1, rfl, ?_, hH.get .here, hc1_, by omega, ?_, hH.mod⟩
  · rcases hob with h | h; exact h.elim; exact h
  · rw [Nat.mul_one] at htk1; rw [htk1]; simp

set_option maxRecDepth 100000 in
set_option maxHeartbeats 400000 in
theorem clone_nil (w0 : World) : Calls Try.prog 30 #[.slice none 0 0] w0 fun e w' => e = .returned (.slice none 0 0) ∧ Ext w0 w' := by
  refine enter Try.func30 rfl rfl rfl ?_
  intro a hS
  have hH := Hp.start w0 (Nobody)
  refine c_seq ?_
  refine reg_plain w0 (Nobody) ?_
  refine r_assign hS hH.kp0 rfl rfl ?_; clear hS; intro a hS
  refine Sq.nil ?_
  refine then_n ?_
  refine c_seq ?_
  refine c_seq ?_
  refine reg_plain w0 (Nobody) ?_
  refine r_move hS hH.kp0 rfl rfl ?_; clear hS; intro a hS
  refine r_slNil hS hH.kp0 rfl Fc.isSlice22 rfl ?_; clear hS; intro a hS
  refine Sq.nil ?_
  refine then_n ?_
  refine c_condT hS rfl rfl ?_
  refine c_seq ?_
  refine reg_plain w0 (Nobody) ?_
  refine r_assign hS hH.kp0 rfl rfl ?_; clear hS; intro a hS
  refine Sq.nil ?_
  refine then_n ?_
  refine wp_ret ?_
  refine then_r ?_
  exact leave (.inl rfl) hS rfl (Res.tmp rfl Res.nil) ⟨rfl, hH.mod⟩

theorem clone_n (q : Addr) (qc n : Nat) (u : List UInt8) (hn : u.length = n) (hl : n ≤ 1099511627776) (w0 : World) (hb : Bs w0 (.slice (some q) n qc) u) : Calls Try.prog 30 #[.slice (some q) n qc] w0 fun e w' => ∃ (cb cap : Nat) (l2 : List Value), e = .returned (.slice (some ⟨cb, 0, none⟩) n cap) ∧ w0.heap.size ≤ cb ∧ w'.heap[cb]? = some (.cells l2.toArray 5 (0, 0)) ∧ BB cap l2 u ∧ Ext w0 w' := by
  subst hn
  exact (clone_c q qc u hl w0 hb).mono fun e w' ⟨cb, cap, l2, h1, h2, h3, h4, h5, h6, h7⟩ => ⟨cb, cap, l2, h1, h2, h3, ⟨h5, h4, h6⟩, h7⟩
theorem due_no (ob gb hb room base sent kl kc : Nat) (q : Option Addr) (en : Int) (most limit : Nat) (hbk : base + kl ≤ 1099511627776) (hsent : sent ≤ base + kl) (hmost : most ≤ 1099511627776) (hlim : limit ≤ 4611686018427387903) (hno : base + kl ≤ sent ∨ limit ≤ sent) (he : en = 0) (w0 : World) (hz : w0.heap[ob]? = some (.cells ([.int .i64 (room : Int), .int .i64 (base : Int), .slice q kl kc, .int .i64 (sent : Int), .pointer (some ⟨gb, 0, none⟩), .pointer (some ⟨hb, 0, none⟩), .int .i64 en] : List Value).toArray 70 (0, 0))) (hg : w0.heap[gb]? = some (.cells ([.bool true, .slice none 0 0] : List Value).toArray 89 (0, 0))) (hne : gb ≠ ob) : Calls Try.prog 29 #[.pointer (some ⟨ob, 0, none⟩), .int .i64 (most : Int), .int .i64 (limit : Int)] w0 fun e w' => (∃ x y : Int, e = .returned (.tuple #[.int .i64 x, .int .i64 y, .bool false])) ∧ Ext w0 w' := by
  have h3 : (dueE (base + kl) sent most limit (en == 1 || en == 3)).2.2 = false := by
    subst he
    unfold dueE
    split
    · rw [if_pos (by omega)]
    · rfl
  refine (due_c ob gb hb room base sent kl kc q en most limit hbk hsent hmost hlim w0 hz hg hne).mono fun e w' ⟨h1, h2⟩ => ?_
  rw [h3] at h1
  exact ⟨⟨_, _, h1⟩, h2⟩
theorem due_yes (ob gb hb room base sent kl kc : Nat) (q : Option Addr) (en : Int) (most limit m : Nat) (hbk : base + kl ≤ 1099511627776) (hsent : sent < base + kl) (hmost : most ≤ 1099511627776) (hlim : limit ≤ 4611686018427387903) (hli : sent < limit) (h1 : 1 ≤ most) (hm : m = min most (min (base + kl) limit - sent)) (w0 : World) (hz : w0.heap[ob]? = some (.cells ([.int .i64 (room : Int), .int .i64 (base : Int), .slice q kl kc, .int .i64 (sent : Int), .pointer (some ⟨gb, 0, none⟩), .pointer (some ⟨hb, 0, none⟩), .int .i64 en] : List Value).toArray 70 (0, 0))) (hg : w0.heap[gb]? = some (.cells ([.bool true, .slice none 0 0] : List Value).toArray 89 (0, 0))) (hne : gb ≠ ob) : Calls Try.prog 29 #[.pointer (some ⟨ob, 0, none⟩), .int .i64 (most : Int), .int .i64 (limit : Int)] w0 fun e w' => e = .returned (.tuple #[.int .i64 (sent : Int), .int .i64 ((sent + m : Nat) : Int), .bool true]) ∧ Ext w0 w' := by
  refine (due_c ob gb hb room base sent kl kc q en most limit hbk (by omega) hmost hlim w0 hz hg hne).mono fun e w' ⟨h2, h3⟩ => ⟨h2.trans ?_, h3⟩
  rw [show dueE (base + kl) sent most limit (en == 1 || en == 3) = (sent, sent + m, true) by
    subst hm
    unfold dueE
    rw [if_pos hsent, if_neg (by omega)]
    simp; omega]

set_option maxRecDepth 100000 in
set_option maxHeartbeats 400000 in
theorem Next_no (ob gb hb room base sent kl kc : Nat) (q : Option Addr) (en : Int) (most limit : Nat) (hbk : base + kl ≤ 1099511627776) (hsent : sent ≤ base + kl) (hmost : most ≤ 1099511627776) (hlim : limit ≤ 4611686018427387903) (hno : base + kl ≤ sent ∨ limit ≤ sent) (he : en = 0) (w0 : World) (hz : w0.heap[ob]? = some (.cells ([.int .i64 (room : Int), .int .i64 (base : Int), .slice q kl kc, .int .i64 (sent : Int), .pointer (some ⟨gb, 0, none⟩), .pointer (some ⟨hb, 0, none⟩), .int .i64 en] : List Value).toArray 70 (0, 0))) (hg : w0.heap[gb]? = some (.cells ([.bool true, .slice none 0 0] : List Value).toArray 89 (0, 0))) (hne : gb ≠ ob) : Calls Try.prog 8 #[.pointer (some ⟨ob, 0, none⟩), .int .i64 (most : Int), .int .i64 (limit : Int)] w0 fun e w' => e = .returned (.tuple #[.agg #[.int .i64 0, .slice none 0 0, .bool false], .bool false]) ∧ Ext w0 w' := by
  refine enter Try.func8 rfl rfl rfl ?_
  intro a hS
  have hH := Hp.start w0 (Nobody)
  replace hH := (hH.know hg (by intro p hp; simp at hp)).know hz (by intro p hp; simp at hp; subst hp; exact hne)
  refine c_seq ?_
  refine reg_plain w0 (Nobody) ?_
  refine r_alloc hS hH (by repeat (first | exact Sub.nil | refine Sub.cons ?_ ?_ | exact In.here | refine In.there ?_)) Fc.zc30 rfl ?_
  clear hS hH; intro a w b6 hb6 hwb6 hS hH
  refine r_assign hS hH.kp0 rfl rfl ?_; clear hS; intro a hS
  refine Sq.nil ?_
  refine then_n ?_
  refine c_seq ?_
  refine c_seq ?_
  refine reg_plain w0 (Nobody) ?_
  refine r_move hS hH.kp0 rfl rfl ?_; clear hS; intro a hS
  refine r_call (l := [.tmp 12]) hS rfl rfl Fc.fn28 rfl ?_
  refine Calls.mono (none_c ob gb hb room base sent kl kc q en _ (hH.get (b := ob) (by repeat (first | exact In.here | refine In.there ?_)))) ?_
  rintro e w1 ⟨rfl, hE⟩
  replace hH := hH.ext hE
  refine ⟨_, rfl, hH.kp0, ?_⟩
  clear hS; intro a hS
  refine Sq.nil ?_
  refine then_n ?_
  refine c_condF hS rfl rfl ?_
  refine wp_skip ?_
  refine then_n ?_
  refine c_seq ?_
  refine reg_plain w0 (Nobody) ?_
  refine r_move hS hH.kp0 rfl rfl ?_; clear hS; intro a hS
  refine r_move hS hH.kp0 rfl rfl ?_; clear hS; intro a hS
  refine r_move hS hH.kp0 rfl rfl ?_; clear hS; intro a hS
  refine r_call (l := [.tmp 16, .tmp 17, .tmp 18]) hS rfl rfl Fc.fn29 rfl ?_
  refine Calls.mono (due_no ob gb hb room base sent kl kc q en most limit hbk hsent hmost hlim hno he _ (hH.get (b := ob) (by repeat (first | exact In.here | refine In.there ?_))) (hH.get (b := gb) (by repeat (first | exact In.here | refine In.there ?_))) hne) ?_
  rintro e w1 ⟨⟨dx, dy, rfl⟩, hE⟩
  replace hH := hH.ext hE
  refine ⟨_, rfl, hH.kp0, ?_⟩
  clear hS; intro a hS
  refine r_move hS hH.kp0 rfl rfl ?_; clear hS; intro a hS
  refine r_extract hS hH.kp0 rfl rfl rfl ?_; clear hS; intro a hS
  refine r_extract hS hH.kp0 rfl rfl rfl ?_; clear hS; intro a hS
  refine r_extract hS hH.kp0 rfl rfl rfl ?_; clear hS; intro a hS
  refine r_assign hS hH.kp0 rfl rfl ?_; clear hS; intro a hS
  refine r_assign hS hH.kp0 rfl rfl ?_; clear hS; intro a hS
  refine r_assign hS hH.kp0 rfl rfl ?_; clear hS; intro a hS
  refine Sq.nil ?_
  refine then_n ?_
  refine c_seq ?_
  refine c_seq ?_
  refine reg_plain w0 (Nobody) ?_
  refine r_move hS hH.kp0 rfl rfl ?_; clear hS; intro a hS
  refine r_not hS hH.kp0 rfl rfl ?_; clear hS; intro a hS
  refine Sq.nil ?_
  refine then_n ?_
  refine c_condT hS rfl rfl ?_
  refine c_seq ?_
  refine reg_plain w0 (Nobody) ?_
  refine r_buildS (parts := []) hS hH.kp0 rfl rfl Fc.zc30 Fc.pl30 (by rfl) ?_; clear hS; intro a hS
  refine r_store_row hS hH rfl rfl (by repeat (first | exact .here | apply In.there | apply Put.there | apply Del.there)) (by repeat (first | exact Sub.nil | refine Sub.cons ?_ ?_ | exact In.here | refine In.there ?_)) Fc.sz30 (by first | exact hcells_one _ | exact of_decide_eq_true rfl) (by rfl) (by first | exact .inr (by assumption) | exact .inl (by first | assumption | rfl)) ?_
  clear hH; intro w hH
  refine r_assign hS hH.kp0 rfl rfl ?_; clear hS; intro a hS
  refine Sq.nil ?_
  refine then_n ?_
  refine wp_ret ?_
  refine then_r ?_
  exact leave (.inl rfl) hS rfl (Res.cell rfl (hH.get (by repeat (first | exact In.here | refine In.there ?_))) Fc.ag30 (by rfl) rfl (Res.tmp rfl Res.nil)) ⟨rfl, hH.mod⟩

set_option maxRecDepth 100000 in
set_option maxHeartbeats 4000000 in
theorem Next_yes (ob gb hb room sent kl kc ka ko : Nat) (kb : List UInt8) (hkl : kb.length = kl) (most limit m : Nat) (hbk : kl ≤ 1099511627776) (hsent : sent < kl) (hmost : most ≤ 1099511627776) (hlim : limit ≤ 4611686018427387903) (hli : sent < limit) (h1 : 1 ≤ most) (hm : m = min most (min kl limit - sent)) (w0 : World) (hkb : BsF (fun x => x = ob ∨ x = gb) w0 (.slice (some ⟨ka, ko, none⟩) kl kc) kb) (hz : w0.heap[ob]? = some (.cells ([.int .i64 (room : Int), .int .i64 0, .slice (some ⟨ka, ko, none⟩) kl kc, .int .i64 (sent : Int), .pointer (some ⟨gb, 0, none⟩), .pointer (some ⟨hb, 0, none⟩), .int .i64 0] : List Value).toArray 70 (0, 0))) (hg : w0.heap[gb]? = some (.cells ([.bool true, .slice none 0 0] : List Value).toArray 89 (0, 0))) (hne : gb ≠ ob) : Calls Try.prog 8 #[.pointer (some ⟨ob, 0, none⟩), .int .i64 (most : Int), .int .i64 (limit : Int)] w0 fun e w' => ∃ (cb cap : Nat) (cl : List Value), e = .returned (.tuple #[.agg #[.int .i64 (sent : Int), .slice (some ⟨cb, 0, none⟩) m cap, .bool false], .bool true]) ∧ w0.heap.size ≤ cb ∧ w'.heap[cb]? = some (.cells cl.toArray 5 (0, 0)) ∧ BB cap cl ((kb.drop sent).take m) ∧ w'.heap[ob]? = some (.cells ([.int .i64 (room : Int), .int .i64 0, .slice (some ⟨ka, ko, none⟩) kl kc, .int .i64 ((sent + m : Nat) : Int), .pointer (some ⟨gb, 0, none⟩), .pointer (some ⟨hb, 0, none⟩), .int .i64 0] : List Value).toArray 70 (0, 0)) ∧ w'.heap[gb]? = some (.cells ([.bool true, .slice none 0 0] : List Value).toArray 89 (0, 0)) ∧ cb ≠ ob ∧ cb ≠ gb ∧ Mod (fun x => x = ob ∨ x = gb) w0 w' := by
  refine enter Try.func8 rfl rfl rfl ?_
  intro a hS
  have hH := Hp.start w0 (fun x => x = ob ∨ x = gb)
  replace hH := (hH.know hg (by intro p hp; simp at hp)).know hz (by intro p hp; simp at hp; subst hp; exact hne)
  have hmm : sent + m - sent = m := by omega
  have hkc := hkb.len.2
  refine c_seq ?_
  refine reg_plain w0 (fun x => x = ob ∨ x = gb) ?_
  refine r_alloc hS hH (by repeat (first | exact Sub.nil | refine Sub.cons ?_ ?_ | exact In.here | refine In.there ?_)) Fc.zc30 rfl ?_
  clear hS hH; intro a w b6 hb6 hwb6 hS hH
  refine r_assign hS hH.kp0 rfl rfl ?_; clear hS; intro a hS
  refine Sq.nil ?_
  refine then_n ?_
  refine c_seq ?_
  refine c_seq ?_
  refine reg_plain w0 (fun x => x = ob ∨ x = gb) ?_
  refine r_move hS hH.kp0 rfl rfl ?_; clear hS; intro a hS
  refine r_call (l := [.tmp 12]) hS rfl rfl Fc.fn28 rfl ?_
  refine Calls.mono (none_c ob gb hb room 0 sent kl kc (some ⟨ka, ko, none⟩) 0 _ (hH.get (b := ob) (by repeat (first | exact In.here | refine In.there ?_)))) ?_
  rintro e w1 ⟨rfl, hE⟩
  replace hH := hH.ext hE
  refine ⟨_, rfl, hH.kp0, ?_⟩
  clear hS; intro a hS
  refine Sq.nil ?_
  refine then_n ?_
  refine c_condF hS rfl rfl ?_
  refine wp_skip ?_
  refine then_n ?_
  refine c_seq ?_
  refine reg_plain w0 (fun x => x = ob ∨ x = gb) ?_
  refine r_move hS hH.kp0 rfl rfl ?_; clear hS; intro a hS
  refine r_move hS hH.kp0 rfl rfl ?_; clear hS; intro a hS
  refine r_move hS hH.kp0 rfl rfl ?_; clear hS; intro a hS
  refine r_call (l := [.tmp 16, .tmp 17, .tmp 18]) hS rfl rfl Fc.fn29 rfl ?_
  refine Calls.mono (due_yes ob gb hb room 0 sent kl kc (some ⟨ka, ko, none⟩) 0 most limit m (by omega) (by omega) hmost hlim hli h1 (by rw [Nat.zero_add]; exact hm) _ (hH.get (b := ob) (by repeat (first | exact In.here | refine In.there ?_))) (hH.get (b := gb) (by repeat (first | exact In.here | refine In.there ?_))) hne) ?_
  rintro e w1 ⟨rfl, hE⟩
  replace hH := hH.ext hE
  refine ⟨_, rfl, hH.kp0, ?_⟩
  clear hS; intro a hS
  refine r_move hS hH.kp0 rfl rfl ?_; clear hS; intro a hS
  refine r_extract hS hH.kp0 rfl rfl rfl ?_; clear hS; intro a hS
  refine r_extract hS hH.kp0 rfl rfl rfl ?_; clear hS; intro a hS
  refine r_extract hS hH.kp0 rfl rfl rfl ?_; clear hS; intro a hS
  refine r_assign hS hH.kp0 rfl rfl ?_; clear hS; intro a hS
  refine r_assign hS hH.kp0 rfl rfl ?_; clear hS; intro a hS
  refine r_assign hS hH.kp0 rfl rfl ?_; clear hS; intro a hS
  refine Sq.nil ?_
  refine then_n ?_
  refine c_seq ?_
  refine c_seq ?_
  refine reg_plain w0 (fun x => x = ob ∨ x = gb) ?_
  refine r_move hS hH.kp0 rfl rfl ?_; clear hS; intro a hS
  refine r_not hS hH.kp0 rfl rfl ?_; clear hS; intro a hS
  refine Sq.nil ?_
  refine then_n ?_
  refine c_condF hS rfl rfl ?_
  refine wp_skip ?_
  refine then_n ?_
  refine c_cut (fun a w => ∃ (cb cap b11 : Nat) (cl : List Value), w0.heap.size ≤ cb ∧ w0.heap.size ≤ b11 ∧ BB cap cl ((kb.drop sent).take m) ∧ St 89 (lv [(0, .pointer (some ⟨ob, 0, none⟩)), (6, .pointer (some ⟨b6, 0, none⟩)), (7, .bool false), (8, .int .i64 (sent : Int)), (9, .int .i64 ((sent + m : Nat) : Int)), (11, .pointer (some ⟨b11, 0, none⟩))]) a ∧ Hp w0 (fun x => x = ob ∨ x = gb) [(b11, .cells ([.int .i64 (sent : Int), .slice (some ⟨cb, 0, none⟩) m cap, .bool false] : List Value).toArray 30 (0, 0)), (cb, .cells cl.toArray 5 (0, 0)), (b6, .cells ([.int .i64 0, .slice none 0 0, .bool false] : List Value).toArray 30 (0, 0)), (ob, .cells ([.int .i64 (room : Int), .int .i64 0, .slice (some ⟨ka, ko, none⟩) kl kc, .int .i64 (sent : Int), .pointer (some ⟨gb, 0, none⟩), .pointer (some ⟨hb, 0, none⟩), .int .i64 0] : List Value).toArray 70 (0, 0)), (gb, .cells ([.bool true, .slice none 0 0] : List Value).toArray 89 (0, 0))] w) ?_ ?_
  · refine reg_tree [(true, 0, []), (true, 1, []), (true, 2, []), (true, 3, []), (true, 4, []), (true, 5, []), (true, 6, []), (true, 7, []), (true, 8, []), (true, 9, []), (true, 10, []), (true, 11, []), (true, 12, []), (true, 13, []), (true, 14, []), (true, 15, []), (true, 16, []), (true, 17, []), (false, 18, []), (true, 19, []), (false, 20, []), (false, 21, [])] (PT.ofPlan [(true, 0, []), (true, 1, []), (true, 2, []), (true, 3, []), (true, 4, []), (true, 5, []), (true, 6, []), (true, 7, []), (true, 8, []), (true, 9, []), (true, 10, []), (true, 11, []), (true, 12, []), (true, 13, []), (true, 14, []), (true, 15, []), (true, 16, []), (true, 17, [])] (.fork (PT.ofPlan [(false, 18, []), (true, 19, []), (false, 20, []), (false, 21, [])] .nil) (PT.ofPlan [(false, 20, []), (false, 18, []), (true, 19, []), (false, 21, [])] .nil))) Fc.mixed (by kernel_rfl) (by kernel_rfl) (by kernel_rfl) (by kernel_rfl) (by kernel_rfl) (by kernel_rfl) (by repeat (first | with_reducible exact steady_body | with_reducible exact steady_bodyQ | with_reducible exact steady_round | with_reducible apply steady_block | with_reducible apply steady_then | with_reducible apply steady_scope | exact steady_body)) hH ?_
    replace hH := hH.drew
    refine tr_seg ?_
    refine r_move hS trivial rfl rfl ?_; clear hS; intro a hS
    refine r_move hS trivial rfl rfl ?_; clear hS; intro a hS
    refine r_nilCheck hS trivial rfl rfl ?_; clear hS; intro a hS
    refine r_fieldAddr hS trivial rfl Fc.fo70_2 rfl ?_; clear hS; intro a hS
    refine r_load_scS hS rfl (by repeat (first | exact In.here | refine In.there ?_)) Fc.sc22 (by rfl) rfl ?_; clear hS; intro a hS
    refine r_move hS trivial rfl rfl ?_; clear hS; intro a hS
    refine r_move hS trivial rfl rfl ?_; clear hS; intro a hS
    refine r_nilCheck hS trivial rfl rfl ?_; clear hS; intro a hS
    refine r_fieldAddr hS trivial rfl Fc.fo70_1 rfl ?_; clear hS; intro a hS
    refine r_load_scS hS rfl (by repeat (first | exact In.here | refine In.there ?_)) Fc.sc3 (by rfl) rfl ?_; clear hS; intro a hS
    refine r_subN0 (m := sent) (k := 0) hS trivial rfl rfl (by omega) (by omega) rfl ?_; clear hS; intro a hS
    rw [Nat.sub_zero] at hS
    refine r_move hS trivial rfl rfl ?_; clear hS; intro a hS
    refine r_move hS trivial rfl rfl ?_; clear hS; intro a hS
    refine r_nilCheck hS trivial rfl rfl ?_; clear hS; intro a hS
    refine r_fieldAddr hS trivial rfl Fc.fo70_1 rfl ?_; clear hS; intro a hS
    refine r_load_scS hS rfl (by repeat (first | exact In.here | refine In.there ?_)) Fc.sc3 (by rfl) rfl ?_; clear hS; intro a hS
    refine r_subN0 (m := sent + m) (k := 0) hS trivial rfl rfl (by omega) (by omega) rfl ?_; clear hS; intro a hS
    rw [Nat.sub_zero] at hS
    refine r_slLoHi (ll := sent) (hh := sent + m) hS trivial rfl rfl rfl Fc.slb22 rfl rfl (by omega) (by omega) rfl ?_; clear hS; intro a hS
    refine Sq.nil ?_
    refine then_n ?_
    refine tr_fork ?_ ?_
    · refine tr_seg ?_
      refine r_call (l := [.tmp 43]) hS rfl rfl Fc.fn30 rfl ?_
      refine Calls.mono (clone_n _ _ (sent + m - sent) ((kb.drop sent).take (sent + m - sent)) (by rw [List.length_take, List.length_drop]; omega) (by omega) _ ((BsF.part hkb (ll := sent) (hh := sent + m) (by omega) (by omega)) _ hH.mod)) ?_
      rintro e w1 ⟨cb, cap, cl, rfl, hcb, hcbk, hBc, hE⟩
      have hcb0 := Nat.le_trans hH.mod.size hcb
      replace hH := (hH.ext hE).know hcbk (fun p hp e => by have := lt_of_block (hH.blk p hp); omega)
      rw [hmm] at hBc ⊢
      refine ⟨_, rfl, hH.kp (by repeat (first | exact Sub.nil | refine Sub.cons ?_ ?_ | exact In.here | refine In.there ?_)), ?_⟩
      clear hS; intro a hS
      refine r_buildS (parts := [(0, .tmp 26), (1, .tmp 44)]) hS trivial rfl rfl Fc.zc30 Fc.pl30 (by rfl) ?_; clear hS; intro a hS
      refine r_alloc hS hH (by repeat (first | exact Sub.nil | refine Sub.cons ?_ ?_ | exact In.here | refine In.there ?_)) Fc.zc30 rfl ?_
      clear hS hH; intro a w b11 hb11 hwb11 hS hH
      refine r_store_row hS hH rfl rfl (by repeat (first | exact .here | apply In.there | apply Put.there | apply Del.there)) (by repeat (first | exact Sub.nil | refine Sub.cons ?_ ?_ | exact In.here | refine In.there ?_)) Fc.sz30 (by first | exact hcells_one _ | exact of_decide_eq_true rfl) (by rfl) (by first | exact .inr (by assumption) | exact .inl (.inl rfl)) ?_
      clear hH; intro w hH
      refine Sq.nil ?_
      refine then_n ?_
      refine tr_nil ?_
      refine then_n ?_
      refine ⟨cb, cap, b11, cl, hcb0, hb11, hBc, hS.live ⟨rfl, rfl, rfl, rfl, rfl, rfl, trivial⟩, ?_⟩; refine Hp.less hH ?_; (repeat (first | refine List.Sublist.cons_cons _ ?_ | refine List.Sublist.cons _ ?_)); exact List.nil_sublist _
    · refine tr_seg ?_
      refine r_alloc hS hH (by repeat (first | exact Sub.nil | refine Sub.cons ?_ ?_ | exact In.here | refine In.there ?_)) Fc.zc30 rfl ?_
      clear hS hH; intro a w b11 hb11 hwb11 hS hH
      refine r_call (l := [.tmp 43]) hS rfl rfl Fc.fn30 rfl ?_
      refine Calls.mono (clone_n _ _ (sent + m - sent) ((kb.drop sent).take (sent + m - sent)) (by rw [List.length_take, List.length_drop]; omega) (by omega) _ ((BsF.part hkb (ll := sent) (hh := sent + m) (by omega) (by omega)) _ hH.mod)) ?_
      rintro e w1 ⟨cb, cap, cl, rfl, hcb, hcbk, hBc, hE⟩
      have hcb0 := Nat.le_trans hH.mod.size hcb
      replace hH := (hH.ext hE).know hcbk (fun p hp e => by have := lt_of_block (hH.blk p hp); omega)
      rw [hmm] at hBc ⊢
      refine ⟨_, rfl, hH.kp (by repeat (first | exact Sub.nil | refine Sub.cons ?_ ?_ | exact In.here | refine In.there ?_)), ?_⟩
      clear hS; intro a hS
      refine r_buildS (parts := [(0, .tmp 26), (1, .tmp 44)]) hS trivial rfl rfl Fc.zc30 Fc.pl30 (by rfl) ?_; clear hS; intro a hS
      refine r_store_row hS hH rfl rfl (by repeat (first | exact .here | apply In.there | apply Put.there | apply Del.there)) (by repeat (first | exact Sub.nil | refine Sub.cons ?_ ?_ | exact In.here | refine In.there ?_)) Fc.sz30 (by first | exact hcells_one _ | exact of_decide_eq_true rfl) (by rfl) (by first | exact .inr (by assumption) | exact .inl (.inl rfl)) ?_
      clear hH; intro w hH
      refine Sq.nil ?_
      refine then_n ?_
      refine tr_nil ?_
      refine then_n ?_
      refine ⟨cb, cap, b11, cl, hcb0, hb11, hBc, hS.live ⟨rfl, rfl, rfl, rfl, rfl, rfl, trivial⟩, ?_⟩; refine Hp.less hH.flip ?_; (repeat (first | refine List.Sublist.cons_cons _ ?_ | refine List.Sublist.cons _ ?_)); exact List.nil_sublist _
  clear hS hH; intro a w hJ; obtain ⟨cb, cap, b11, cl, hcb0, hb11, hBc, hS, hH⟩ := hJ
  refine c_seq ?_
  refine c_seq ?_
  refine reg_plain w0 (fun x => x = ob ∨ x = gb) ?_
  refine r_move hS hH.kp0 rfl rfl ?_; clear hS; intro a hS
  refine r_move hS hH.kp0 rfl rfl ?_; clear hS; intro a hS
  refine r_gtr hS hH.kp0 rfl rfl rfl ?_; clear hS; intro a hS
  refine Sq.nil ?_
  refine then_n ?_
  refine c_condT hS rfl (DT (by omega)) ?_
  refine reg_plain w0 (fun x => x = ob ∨ x = gb) ?_
  refine r_move hS hH.kp0 rfl rfl ?_; clear hS; intro a hS
  refine r_nilCheck hS hH.kp0 rfl rfl ?_; clear hS; intro a hS
  refine r_fieldAddr hS hH.kp0 rfl Fc.fo70_4 rfl ?_; clear hS; intro a hS
  refine r_load_sc hS hH (by repeat (first | exact Sub.nil | refine Sub.cons ?_ ?_ | exact In.here | refine In.there ?_)) rfl (by repeat (first | exact In.here | refine In.there ?_)) Fc.sc67 (by rfl) rfl ?_; clear hS; intro a hS
  refine r_move hS hH.kp0 rfl rfl ?_; clear hS; intro a hS
  refine r_move hS hH.kp0 rfl rfl ?_; clear hS; intro a hS
  refine r_subN0 (m := sent + m) (k := 1) hS hH.kp0 rfl rfl (by omega) (by omega) rfl ?_; clear hS; intro a hS
  refine r_call (l := [.tmp 52, .tmp 53, .tmp 55]) hS rfl rfl Fc.fn31 rfl ?_
  refine Calls.mono (remove_nil gb sent (sent + m - 1) (by omega) (by omega) _ (hH.get (b := gb) (by repeat (first | exact In.here | refine In.there ?_)))) ?_
  rintro e w1 ⟨rfl, hgk2, hm2⟩
  replace hH := hH.upd (by repeat (first | exact .here | apply In.there | apply Put.there | apply Del.there)) hm2 hgk2 (.inl (.inr rfl))
  refine ⟨_, rfl, hH.kp0, ?_⟩
  clear hS; intro a hS
  refine Sq.nil ?_
  refine then_n ?_
  refine c_seq ?_
  refine c_seq ?_
  refine reg_plain w0 (fun x => x = ob ∨ x = gb) ?_
  refine r_move hS hH.kp0 rfl rfl ?_; clear hS; intro a hS
  refine r_move hS hH.kp0 rfl rfl ?_; clear hS; intro a hS
  refine r_call (l := [.tmp 58]) hS rfl rfl Fc.fn32 rfl ?_
  refine Calls.mono (written_c ob gb hb room 0 sent kl kc (some ⟨ka, ko, none⟩) 0 (by omega) _ (hH.get (b := ob) (by repeat (first | exact In.here | refine In.there ?_)))) ?_
  rintro e w1 ⟨rfl, hE⟩
  replace hH := hH.ext hE
  refine ⟨_, rfl, hH.kp0, ?_⟩
  clear hS; intro a hS
  refine r_eql hS hH.kp0 rfl rfl rfl ?_; clear hS; intro a hS
  refine r_move hS hH.kp0 rfl rfl ?_; clear hS; intro a hS
  rcases (by cases (((sent + m : Nat) : Int) == ((0 + kl : Nat) : Int)) <;> simp : (((sent + m : Nat) : Int) == ((0 + kl : Nat) : Int)) = false ∨ (((sent + m : Nat) : Int) == ((0 + kl : Nat) : Int)) = true) with hq1 | hq1
  · rw [hq1] at hS
    refine Sq.guardNo hS rfl rfl rfl hH.kp0 rfl ?_; clear hS; intro a hS
    refine Sq.guardNo hS rfl rfl rfl hH.kp0 rfl ?_; clear hS; intro a hS
    refine Sq.guardNo hS rfl rfl rfl hH.kp0 rfl ?_; clear hS; intro a hS
    refine Sq.guardNo hS rfl rfl rfl hH.kp0 rfl ?_; clear hS; intro a hS
    refine Sq.guardNo hS rfl rfl rfl hH.kp0 rfl ?_; clear hS; intro a hS
    refine Sq.guardNo hS rfl rfl rfl hH.kp0 rfl ?_; clear hS; intro a hS
    refine Sq.guardOff hS rfl rfl hH.kp0 rfl ?_; clear hS; intro a hS
    refine Sq.guardOff hS rfl rfl hH.kp0 rfl ?_; clear hS; intro a hS
    refine Sq.guardOff hS rfl rfl hH.kp0 rfl ?_; clear hS; intro a hS
    refine Sq.guardOff hS rfl rfl hH.kp0 rfl ?_; clear hS; intro a hS
    refine Sq.guardOff hS rfl rfl hH.kp0 rfl ?_; clear hS; intro a hS
    refine Sq.guardNo hS rfl rfl rfl hH.kp0 rfl ?_; clear hS; intro a hS
    refine r_pickF hS hH.kp0 rfl rfl rfl rfl ?_; clear hS; intro a hS
    refine Sq.nil ?_
    refine then_n ?_
    refine c_condF hS rfl rfl ?_
    refine wp_skip ?_
    refine then_n ?_
    refine c_seq ?_
    refine reg_plain w0 (fun x => x = ob ∨ x = gb) ?_
    refine r_move hS hH.kp0 rfl rfl ?_; clear hS; intro a hS
    refine r_move hS hH.kp0 rfl rfl ?_; clear hS; intro a hS
    refine r_nilCheck hS hH.kp0 rfl rfl ?_; clear hS; intro a hS
    refine r_fieldAddr hS hH.kp0 rfl Fc.fo70_3 rfl ?_; clear hS; intro a hS
    refine r_load_sc hS hH (by repeat (first | exact Sub.nil | refine Sub.cons ?_ ?_ | exact In.here | refine In.there ?_)) rfl (by repeat (first | exact In.here | refine In.there ?_)) Fc.sc3 (by rfl) rfl ?_; clear hS; intro a hS
    refine r_move hS hH.kp0 rfl rfl ?_; clear hS; intro a hS
    refine r_maxN (m := sent) (k := sent + m) hS hH.kp0 rfl rfl rfl ?_; clear hS; intro a hS
    rw [show max sent (sent + m) = sent + m from by omega] at hS
    refine r_nilCheck hS hH.kp0 rfl rfl ?_; clear hS; intro a hS
    refine r_fieldAddr hS hH.kp0 rfl Fc.fo70_3 rfl ?_; clear hS; intro a hS
    refine r_store1 hS hH rfl rfl rfl (by repeat (first | exact .here | apply In.there | apply Put.there | apply Del.there)) (by repeat (first | exact Sub.nil | refine Sub.cons ?_ ?_ | exact In.here | refine In.there ?_)) Fc.sz3 (of_decide_eq_true rfl) (by first | exact .inr (by assumption) | exact .inl (.inl rfl)) ?_
    clear hH; intro w hH
    refine Sq.nil ?_
    refine then_n ?_
    refine c_seq ?_
    refine reg_plain w0 (fun x => x = ob ∨ x = gb) ?_
    refine r_load_row hS hH (by repeat (first | exact Sub.nil | refine Sub.cons ?_ ?_ | exact In.here | refine In.there ?_)) rfl (by repeat (first | exact In.here | refine In.there ?_)) Fc.ag30 (by rfl) rfl ?_; clear hS; intro a hS
    refine r_store_row hS hH rfl rfl (by repeat (first | exact .here | apply In.there | apply Put.there | apply Del.there)) (by repeat (first | exact Sub.nil | refine Sub.cons ?_ ?_ | exact In.here | refine In.there ?_)) Fc.sz30 (by first | exact hcells_one _ | exact of_decide_eq_true rfl) (by rfl) (by first | exact .inr (by assumption) | exact .inl (.inl rfl)) ?_
    clear hH; intro w hH
    refine r_assign hS hH.kp0 rfl rfl ?_; clear hS; intro a hS
    refine Sq.nil ?_
    refine then_n ?_
    refine wp_ret ?_
    have nd := hH.nd
    simp only [List.map_cons, List.map_nil, List.nodup_cons, List.mem_cons, List.not_mem_nil, or_false, not_or] at nd
    exact leave (.inl rfl) hS rfl (Res.cell rfl (hH.get (by repeat (first | exact In.here | refine In.there ?_))) Fc.ag30 (by rfl) rfl (Res.tmp rfl Res.nil)) ⟨cb, cap, cl, rfl, hcb0, hH.get (b := cb) (by repeat (first | exact In.here | refine In.there ?_)), hBc, hH.get (b := ob) (by repeat (first | exact In.here | refine In.there ?_)), hH.get (b := gb) (by repeat (first | exact In.here | refine In.there ?_)), nd.2.1.2.1, nd.2.1.2.2, hH.mod⟩
  · rw [hq1] at hS
    refine Sq.guardYes hS rfl rfl rfl ?_
    refine r_move hS hH.kp0 rfl rfl ?_; clear hS; intro a hS
    refine Sq.guardYes hS rfl rfl rfl ?_
    refine r_nilCheck hS hH.kp0 rfl rfl ?_; clear hS; intro a hS
    refine Sq.guardYes hS rfl rfl rfl ?_
    refine r_fieldAddr hS hH.kp0 rfl Fc.fo70_6 rfl ?_; clear hS; intro a hS
    refine Sq.guardYes hS rfl rfl rfl ?_
    refine r_load_sc hS hH (by repeat (first | exact Sub.nil | refine Sub.cons ?_ ?_ | exact In.here | refine In.there ?_)) rfl (by repeat (first | exact In.here | refine In.there ?_)) Fc.sc3 (by rfl) rfl ?_; clear hS; intro a hS
    refine Sq.guardYes hS rfl rfl rfl ?_
    refine r_eql hS hH.kp0 rfl rfl rfl ?_; clear hS; intro a hS
    refine Sq.guardYes hS rfl rfl rfl ?_
    refine r_move hS hH.kp0 rfl rfl ?_; clear hS; intro a hS
    refine Sq.guardYes hS rfl rfl rfl ?_
    refine r_move hS hH.kp0 rfl rfl ?_; clear hS; intro a hS
    refine Sq.guardYes hS rfl rfl rfl ?_
    refine r_nilCheck hS hH.kp0 rfl rfl ?_; clear hS; intro a hS
    refine Sq.guardYes hS rfl rfl rfl ?_
    refine r_fieldAddr hS hH.kp0 rfl Fc.fo70_6 rfl ?_; clear hS; intro a hS
    refine Sq.guardYes hS rfl rfl rfl ?_
    refine r_load_sc hS hH (by repeat (first | exact Sub.nil | refine Sub.cons ?_ ?_ | exact In.here | refine In.there ?_)) rfl (by repeat (first | exact In.here | refine In.there ?_)) Fc.sc3 (by rfl) rfl ?_; clear hS; intro a hS
    refine Sq.guardYes hS rfl rfl rfl ?_
    refine r_eql hS hH.kp0 rfl rfl rfl ?_; clear hS; intro a hS
    refine Sq.guardYes hS rfl rfl rfl ?_
    refine r_pickF hS hH.kp0 rfl rfl rfl rfl ?_; clear hS; intro a hS
    refine r_pickT hS hH.kp0 rfl rfl rfl rfl ?_; clear hS; intro a hS
    refine Sq.nil ?_
    refine then_n ?_
    refine c_condF hS rfl rfl ?_
    refine wp_skip ?_
    refine then_n ?_
    refine c_seq ?_
    refine reg_plain w0 (fun x => x = ob ∨ x = gb) ?_
    refine r_move hS hH.kp0 rfl rfl ?_; clear hS; intro a hS
    refine r_move hS hH.kp0 rfl rfl ?_; clear hS; intro a hS
    refine r_nilCheck hS hH.kp0 rfl rfl ?_; clear hS; intro a hS
    refine r_fieldAddr hS hH.kp0 rfl Fc.fo70_3 rfl ?_; clear hS; intro a hS
    refine r_load_sc hS hH (by repeat (first | exact Sub.nil | refine Sub.cons ?_ ?_ | exact In.here | refine In.there ?_)) rfl (by repeat (first | exact In.here | refine In.there ?_)) Fc.sc3 (by rfl) rfl ?_; clear hS; intro a hS
    refine r_move hS hH.kp0 rfl rfl ?_; clear hS; intro a hS
    refine r_maxN (m := sent) (k := sent + m) hS hH.kp0 rfl rfl rfl ?_; clear hS; intro a hS
    rw [show max sent (sent + m) = sent + m from by omega] at hS
    refine r_nilCheck hS hH.kp0 rfl rfl ?_; clear hS; intro a hS
    refine r_fieldAddr hS hH.kp0 rfl Fc.fo70_3 rfl ?_; clear hS; intro a hS
    refine r_store1 hS hH rfl rfl rfl (by repeat (first | exact .here | apply In.there | apply Put.there | apply Del.there)) (by repeat (first | exact Sub.nil | refine Sub.cons ?_ ?_ | exact In.here | refine In.there ?_)) Fc.sz3 (of_decide_eq_true rfl) (by first | exact .inr (by assumption) | exact .inl (.inl rfl)) ?_
    clear hH; intro w hH
    refine Sq.nil ?_
    refine then_n ?_
    refine c_seq ?_
    refine reg_plain w0 (fun x => x = ob ∨ x = gb) ?_
    refine r_load_row hS hH (by repeat (first | exact Sub.nil | refine Sub.cons ?_ ?_ | exact In.here | refine In.there ?_)) rfl (by repeat (first | exact In.here | refine In.there ?_)) Fc.ag30 (by rfl) rfl ?_; clear hS; intro a hS
    refine r_store_row hS hH rfl rfl (by repeat (first | exact .here | apply In.there | apply Put.there | apply Del.there)) (by repeat (first | exact Sub.nil | refine Sub.cons ?_ ?_ | exact In.here | refine In.there ?_)) Fc.sz30 (by first | exact hcells_one _ | exact of_decide_eq_true rfl) (by rfl) (by first | exact .inr (by assumption) | exact .inl (.inl rfl)) ?_
    clear hH; intro w hH
    refine r_assign hS hH.kp0 rfl rfl ?_; clear hS; intro a hS
    refine Sq.nil ?_
    refine then_n ?_
    refine wp_ret ?_
    have nd := hH.nd
    simp only [List.map_cons, List.map_nil, List.nodup_cons, List.mem_cons, List.not_mem_nil, or_false, not_or] at nd
    exact leave (.inl rfl) hS rfl (Res.cell rfl (hH.get (by repeat (first | exact In.here | refine In.there ?_))) Fc.ag30 (by rfl) rfl (Res.tmp rfl Res.nil)) ⟨cb, cap, cl, rfl, hcb0, hH.get (b := cb) (by repeat (first | exact In.here | refine In.there ?_)), hBc, hH.get (b := ob) (by repeat (first | exact In.here | refine In.there ?_)), hH.get (b := gb) (by repeat (first | exact In.here | refine In.there ?_)), nd.2.1.2.1, nd.2.1.2.2, hH.mod⟩

set_option maxRecDepth 100000 in
set_option maxHeartbeats 400000 in
theorem Write_nil (ob gb hb room : Nat) (dv : Option Addr) (dc : Nat) (data : List UInt8) (hroom : data.length ≤ room) (hr2 : room ≤ 1048576) (w0 : World) (hd : BsF (· = ob) w0 (.slice dv data.length dc) data) (hz : w0.heap[ob]? = some (.cells ([.int .i64 (room : Int), .int .i64 0, .slice none 0 0, .int .i64 0, .pointer (some ⟨gb, 0, none⟩), .pointer (some ⟨hb, 0, none⟩), .int .i64 0] : List Value).toArray 70 (0, 0))) : Calls Try.prog 7 #[.pointer (some ⟨ob, 0, none⟩), .slice dv data.length dc] w0 fun e w' => ∃ (kv : Value), e = .returned (.tuple #[.int .i64 (data.length : Int), .int .i64 0]) ∧ w'.heap[ob]? = some (.cells ([.int .i64 (room : Int), .int .i64 0, kv, .int .i64 0, .pointer (some ⟨gb, 0, none⟩), .pointer (some ⟨hb, 0, none⟩), .int .i64 0] : List Value).toArray 70 (0, 0)) ∧ ((kv = .slice none 0 0 ∧ data = []) ∨ ∃ (kb kcap : Nat) (kl : List Value), kv = .slice (some ⟨kb, 0, none⟩) data.length kcap ∧ w0.heap.size ≤ kb ∧ w'.heap[kb]? = some (.cells kl.toArray 5 (0, 0)) ∧ BB kcap kl data) ∧ Mod (· = ob) w0 w' := by
  refine enter Try.func7 rfl rfl rfl ?_
  intro a hS
  have hH := Hp.start w0 ((· = ob))
  replace hH := hH.know hz (by intro p hp; simp at hp)
  refine c_seq ?_
  refine reg_plain w0 ((· = ob)) ?_
  refine r_assign hS hH.kp0 rfl rfl ?_; clear hS; intro a hS
  refine r_assign hS hH.kp0 rfl rfl ?_; clear hS; intro a hS
  refine Sq.nil ?_
  refine then_n ?_
  refine c_seq ?_
  refine wp_block ?_
  refine c_seq ?_
  refine reg_plain w0 ((· = ob)) ?_
  refine r_move hS hH.kp0 rfl rfl ?_; clear hS; intro a hS
  refine r_call (l := [.tmp 8]) hS rfl rfl Fc.fn28 rfl ?_
  refine Calls.mono (none_c ob gb hb room 0 0 0 0 none 0 _ (hH.get (b := ob) (by repeat (first | exact In.here | refine In.there ?_)))) ?_
  rintro e w1 ⟨rfl, hE⟩
  replace hH := hH.ext hE
  refine ⟨_, rfl, hH.kp0, ?_⟩
  clear hS; intro a hS
  refine r_assign hS hH.kp0 rfl rfl ?_; clear hS; intro a hS
  refine Sq.nil ?_
  refine then_n ?_
  refine c_condF hS rfl rfl ?_
  refine c_seq ?_
  refine reg_plain w0 ((· = ob)) ?_
  refine r_move hS hH.kp0 rfl rfl ?_; clear hS; intro a hS
  refine r_nilCheck hS hH.kp0 rfl rfl ?_; clear hS; intro a hS
  refine r_fieldAddr hS hH.kp0 rfl Fc.fo70_6 rfl ?_; clear hS; intro a hS
  refine r_load_sc hS hH (by repeat (first | exact Sub.nil | refine Sub.cons ?_ ?_ | exact In.here | refine In.there ?_)) rfl (by repeat (first | exact In.here | refine In.there ?_)) Fc.sc3 (by rfl) rfl ?_; clear hS; intro a hS
  refine r_neq hS hH.kp0 rfl rfl rfl ?_; clear hS; intro a hS
  refine r_assign hS hH.kp0 rfl rfl ?_; clear hS; intro a hS
  refine Sq.nil ?_
  refine then_n ?_
  refine c_condF hS rfl rfl ?_
  refine wp_skip ?_
  refine blk_n ?_
  refine then_n ?_
  refine c_seq ?_
  refine reg_draw [(true, 0, []), (true, 1, []), (true, 2, []), (true, 3, []), (true, 4, []), (true, 5, []), (true, 6, []), (true, 7, []), (true, 8, []), (true, 9, []), (true, 10, []), (true, 11, []), (true, 12, []), (true, 13, [])] Fc.mixed (by kernel_rfl) (by kernel_rfl) (by kernel_rfl) (by kernel_rfl) (by kernel_rfl) (by repeat (first | with_reducible exact steady_body | with_reducible exact steady_bodyQ | with_reducible exact steady_round | with_reducible apply steady_block | with_reducible apply steady_then | with_reducible apply steady_scope | exact steady_body)) hH ?_
  replace hH := hH.drew
  refine r_move hS trivial rfl rfl ?_; clear hS; intro a hS
  refine r_lenSl hS trivial rfl Fc.isSlice22 rfl ?_; clear hS; intro a hS
  refine r_move hS trivial rfl rfl ?_; clear hS; intro a hS
  refine r_nilCheck hS trivial rfl rfl ?_; clear hS; intro a hS
  refine r_fieldAddr hS trivial rfl Fc.fo70_0 rfl ?_; clear hS; intro a hS
  refine r_load_scS hS rfl (by repeat (first | exact In.here | refine In.there ?_)) Fc.sc3 (by rfl) rfl ?_; clear hS; intro a hS
  refine r_move hS trivial rfl rfl ?_; clear hS; intro a hS
  refine r_nilCheck hS trivial rfl rfl ?_; clear hS; intro a hS
  refine r_fieldAddr hS trivial rfl Fc.fo70_2 rfl ?_; clear hS; intro a hS
  refine r_load_scS hS rfl (by repeat (first | exact In.here | refine In.there ?_)) Fc.sc22 (by rfl) rfl ?_; clear hS; intro a hS
  refine r_lenSl hS trivial rfl Fc.isSlice22 rfl ?_; clear hS; intro a hS
  refine r_subN0 (m := room) (k := 0) hS trivial rfl rfl (by omega) (by omega) rfl ?_; clear hS; intro a hS
  rw [Nat.sub_zero] at hS
  refine r_minN (m := data.length) (k := room) hS trivial rfl rfl rfl ?_; clear hS; intro a hS
  rw [show min data.length room = data.length from by omega] at hS
  refine r_assign hS trivial rfl rfl ?_; clear hS; intro a hS
  refine Sq.nil ?_
  refine then_n ?_
  refine c_seq ?_
  refine reg_draw [(true, 0, [0]), (true, 1, [0]), (true, 2, [0]), (true, 3, [0]), (true, 4, []), (true, 5, [0]), (true, 6, [0]), (true, 7, [0]), (false, 8, []), (true, 9, [0]), (true, 10, [0]), (false, 11, [0])] Fc.mixed (by kernel_rfl) (by kernel_rfl) (by kernel_rfl) (by kernel_rfl) (by kernel_rfl) (by repeat (first | with_reducible exact steady_body | with_reducible exact steady_bodyQ | with_reducible exact steady_round | with_reducible apply steady_block | with_reducible apply steady_then | with_reducible apply steady_scope | exact steady_body)) hH ?_
  replace hH := hH.drew
  refine r_move hS trivial rfl rfl ?_; clear hS; intro a hS
  refine r_move hS trivial rfl rfl ?_; clear hS; intro a hS
  refine r_nilCheck hS trivial rfl rfl ?_; clear hS; intro a hS
  refine r_fieldAddr hS trivial rfl Fc.fo70_2 rfl ?_; clear hS; intro a hS
  refine r_load_scS hS rfl (by repeat (first | exact In.here | refine In.there ?_)) Fc.sc22 (by rfl) rfl ?_; clear hS; intro a hS
  refine r_move hS trivial rfl rfl ?_; clear hS; intro a hS
  refine r_move hS trivial rfl rfl ?_; clear hS; intro a hS
  refine r_slHiE (hh := data.length) hS trivial rfl rfl Fc.slb22 rfl (hd.len).2 rfl ?_; clear hS; intro a hS
  refine r_append_K (m := 0) (xs := []) hS hH (by repeat (first | exact Sub.nil | refine Sub.cons ?_ ?_ | exact In.here | refine In.there ?_)) rfl rfl (.inl ⟨rfl, rfl, rfl⟩) Fc.el22 Fc.ni22 (hd _ hH.mod).src (by omega) rfl ?_
  clear hS hH; intro a w kv hKO hS hH
  rw [Nat.zero_add, List.nil_append] at hKO
  rcases hKO with ⟨hv, hm, hx⟩ | ⟨kb, kcap, kl, hv, hB, hne, hkb, hkl, hkm, hkt⟩
  · subst hv
    refine r_nilCheck hS trivial rfl rfl ?_; clear hS; intro a hS
    refine r_fieldAddr hS trivial rfl Fc.fo70_2 rfl ?_; clear hS; intro a hS
    refine r_store1 hS hH rfl rfl rfl (by repeat (first | exact .here | apply In.there | apply Put.there | apply Del.there)) (by repeat (first | exact Sub.nil | refine Sub.cons ?_ ?_ | exact In.here | refine In.there ?_)) Fc.sz22 (of_decide_eq_true rfl) (.inl rfl) ?_
    clear hH; intro w hH
    refine Sq.nil ?_
    refine then_n ?_
    refine c_seq ?_
    refine reg_plain w0 ((· = ob)) ?_
    refine r_move hS hH.kp0 rfl rfl ?_; clear hS; intro a hS
    refine r_assign hS hH.kp0 rfl rfl ?_; clear hS; intro a hS
    refine r_assign hS hH.kp0 rfl rfl ?_; clear hS; intro a hS
    refine Sq.nil ?_
    refine then_n ?_
    refine wp_ret ?_
    exact leave (.inl rfl) hS rfl (Res.tmp rfl (Res.tmp rfl Res.nil)) ⟨_, rfl, hH.get (b := ob) (by repeat (first | exact In.here | refine In.there ?_)), .inl ⟨rfl, List.eq_nil_of_length_eq_zero hm⟩, hH.mod⟩
  · subst hv
    replace hH := hH.know hkb hne
    refine r_nilCheck hS trivial rfl rfl ?_; clear hS; intro a hS
    refine r_fieldAddr hS trivial rfl Fc.fo70_2 rfl ?_; clear hS; intro a hS
    refine r_store1 hS hH rfl rfl rfl (by repeat (first | exact .here | apply In.there | apply Put.there | apply Del.there)) (by repeat (first | exact Sub.nil | refine Sub.cons ?_ ?_ | exact In.here | refine In.there ?_)) Fc.sz22 (of_decide_eq_true rfl) (.inl rfl) ?_
    clear hH; intro w hH
    refine Sq.nil ?_
    refine then_n ?_
    refine c_seq ?_
    refine reg_plain w0 ((· = ob)) ?_
    refine r_move hS hH.kp0 rfl rfl ?_; clear hS; intro a hS
    refine r_assign hS hH.kp0 rfl rfl ?_; clear hS; intro a hS
    refine r_assign hS hH.kp0 rfl rfl ?_; clear hS; intro a hS
    refine Sq.nil ?_
    refine then_n ?_
    refine wp_ret ?_
    exact leave (.inl rfl) hS rfl (Res.tmp rfl (Res.tmp rfl Res.nil)) ⟨_, rfl, hH.get (b := ob) (by repeat (first | exact In.here | refine In.there ?_)), .inr ⟨kb, kcap, kl, rfl, hB.resolve_left (fun e => hne _ List.mem_cons_self e.symm), hH.get (b := kb) (by repeat (first | exact In.here | refine In.there ?_)), ⟨by rw [hkl, Nat.mul_one], hkm, by rw [Nat.mul_one] at hkt; exact hkt⟩⟩, hH.mod⟩

set_option maxRecDepth 100000 in
set_option maxHeartbeats 400000 in
theorem Sizes_c (ob gb hb room base sent kl kc : Nat) (q : Option Addr) (en : Int) (hbk : base + kl ≤ 1099511627776) (w0 : World) (hz : w0.heap[ob]? = some (.cells ([.int .i64 (room : Int), .int .i64 (base : Int), .slice q kl kc, .int .i64 (sent : Int), .pointer (some ⟨gb, 0, none⟩), .pointer (some ⟨hb, 0, none⟩), .int .i64 en] : List Value).toArray 70 (0, 0))) : Calls Try.prog 9 #[.pointer (some ⟨ob, 0, none⟩)] w0 fun e w' => e = .returned (.tuple #[.int .i64 ((base + kl : Nat) : Int), .int .i64 (sent : Int), .int .i64 (kl : Int)]) ∧ Ext w0 w' := by
  refine enter Try.func9 rfl rfl rfl ?_
  intro a hS
  have hH := Hp.start w0 (Nobody)
  replace hH := hH.know hz (by intro p hp; simp at hp)
  refine c_seq ?_
  refine reg_plain w0 (Nobody) ?_
  refine r_assign hS hH.kp0 rfl rfl ?_; clear hS; intro a hS
  refine r_assign hS hH.kp0 rfl rfl ?_; clear hS; intro a hS
  refine r_assign hS hH.kp0 rfl rfl ?_; clear hS; intro a hS
  refine Sq.nil ?_
  refine then_n ?_
  refine c_seq ?_
  refine c_seq ?_
  refine reg_plain w0 (Nobody) ?_
  refine r_move hS hH.kp0 rfl rfl ?_; clear hS; intro a hS
  refine r_call (l := [.tmp 5]) hS rfl rfl Fc.fn28 rfl ?_
  refine Calls.mono (none_c ob gb hb room base sent kl kc q en _ (hH.get (b := ob) (by repeat (first | exact In.here | refine In.there ?_)))) ?_
  rintro e w1 ⟨rfl, hE⟩
  replace hH := hH.ext hE
  refine ⟨_, rfl, hH.kp0, ?_⟩
  clear hS; intro a hS
  refine Sq.nil ?_
  refine then_n ?_
  refine c_condF hS rfl rfl ?_
  refine wp_skip ?_
  refine then_n ?_
  refine c_seq ?_
  refine reg_draw [(true, 0, []), (true, 2, []), (true, 3, []), (true, 4, []), (true, 5, []), (true, 6, []), (true, 7, []), (true, 8, []), (true, 9, []), (true, 10, []), (false, 1, []), (true, 11, []), (true, 12, []), (true, 13, [])] Fc.mixed (by kernel_rfl) (by kernel_rfl) (by kernel_rfl) (by kernel_rfl) (by kernel_rfl) (by repeat (first | with_reducible exact steady_body | with_reducible exact steady_bodyQ | with_reducible exact steady_round | with_reducible apply steady_block | with_reducible apply steady_then | with_reducible apply steady_scope | exact steady_body)) hH ?_
  replace hH := hH.drew
  refine r_move hS trivial rfl rfl ?_; clear hS; intro a hS
  refine r_move hS trivial rfl rfl ?_; clear hS; intro a hS
  refine r_nilCheck hS trivial rfl rfl ?_; clear hS; intro a hS
  refine r_fieldAddr hS trivial rfl Fc.fo70_3 rfl ?_; clear hS; intro a hS
  refine r_load_scS hS rfl (by repeat (first | exact In.here | refine In.there ?_)) Fc.sc3 (by rfl) rfl ?_; clear hS; intro a hS
  refine r_move hS trivial rfl rfl ?_; clear hS; intro a hS
  refine r_nilCheck hS trivial rfl rfl ?_; clear hS; intro a hS
  refine r_fieldAddr hS trivial rfl Fc.fo70_2 rfl ?_; clear hS; intro a hS
  refine r_load_scS hS rfl (by repeat (first | exact In.here | refine In.there ?_)) Fc.sc22 (by rfl) rfl ?_; clear hS; intro a hS
  refine r_lenSl hS trivial rfl Fc.isSlice22 rfl ?_; clear hS; intro a hS
  refine r_call (l := [.tmp 7]) hS rfl rfl Fc.fn32 rfl ?_
  refine Calls.mono (written_c ob gb hb room base sent kl kc q en hbk _ (hH.get (b := ob) (by repeat (first | exact In.here | refine In.there ?_)))) ?_
  rintro e w1 ⟨rfl, hE⟩
  replace hH := hH.ext hE
  refine ⟨_, rfl, hH.kp (by repeat (first | exact Sub.nil | refine Sub.cons ?_ ?_ | exact In.here | refine In.there ?_)), ?_⟩
  clear hS; intro a hS
  refine r_assign hS trivial rfl rfl ?_; clear hS; intro a hS
  refine r_assign hS trivial rfl rfl ?_; clear hS; intro a hS
  refine r_assign hS trivial rfl rfl ?_; clear hS; intro a hS
  refine Sq.nil ?_
  refine then_n ?_
  refine wp_ret ?_
  exact leave (.inl rfl) hS rfl (Res.tmp rfl (Res.tmp rfl (Res.tmp rfl Res.nil))) ⟨rfl, hH.mod⟩

set_option maxRecDepth 100000 in
set_option maxHeartbeats 400000 in
theorem Waits_c (ob gb hb room base sent kl kc : Nat) (q : Option Addr) (en : Int) (limit : Nat) (hbk : base + kl ≤ 1099511627776) (hsent : sent ≤ base + kl) (hlim : limit ≤ 4611686018427387903) (w0 : World) (hz : w0.heap[ob]? = some (.cells ([.int .i64 (room : Int), .int .i64 (base : Int), .slice q kl kc, .int .i64 (sent : Int), .pointer (some ⟨gb, 0, none⟩), .pointer (some ⟨hb, 0, none⟩), .int .i64 en] : List Value).toArray 70 (0, 0))) (hg : w0.heap[gb]? = some (.cells ([.bool true, .slice none 0 0] : List Value).toArray 89 (0, 0))) (hne : gb ≠ ob) : Calls Try.prog 10 #[.pointer (some ⟨ob, 0, none⟩), .int .i64 (limit : Int)] w0 fun e w' => e = .returned (.bool (dueE (base + kl) sent 1 limit (en == 1 || en == 3)).2.2) ∧ Ext w0 w' := by
  refine enter Try.func10 rfl rfl rfl ?_
  intro a hS
  have hH := Hp.start w0 (Nobody)
  replace hH := (hH.know hg (by intro p hp; simp at hp)).know hz (by intro p hp; simp at hp; subst hp; exact hne)
  refine c_seq ?_
  refine reg_plain w0 (Nobody) ?_
  refine r_assign hS hH.kp0 rfl rfl ?_; clear hS; intro a hS
  refine Sq.nil ?_
  refine then_n ?_
  refine c_seq ?_
  refine c_seq ?_
  refine reg_plain w0 (Nobody) ?_
  refine r_move hS hH.kp0 rfl rfl ?_; clear hS; intro a hS
  refine r_call (l := [.tmp 8]) hS rfl rfl Fc.fn28 rfl ?_
  refine Calls.mono (none_c ob gb hb room base sent kl kc q en _ (hH.get (b := ob) (by repeat (first | exact In.here | refine In.there ?_)))) ?_
  rintro e w1 ⟨rfl, hE⟩
  replace hH := hH.ext hE
  refine ⟨_, rfl, hH.kp0, ?_⟩
  clear hS; intro a hS
  refine Sq.nil ?_
  refine then_n ?_
  refine c_condF hS rfl rfl ?_
  refine wp_skip ?_
  refine then_n ?_
  refine c_seq ?_
  refine reg_plain w0 (Nobody) ?_
  refine r_move hS hH.kp0 rfl rfl ?_; clear hS; intro a hS
  refine r_move hS hH.kp0 rfl rfl ?_; clear hS; intro a hS
  refine r_call (l := [.tmp 11, .const (.int .i64 1), .tmp 12]) hS rfl rfl Fc.fn29 rfl ?_
  refine Calls.mono (due_c ob gb hb room base sent kl kc q en 1 limit hbk hsent (by decide) hlim _ (hH.get (b := ob) (by repeat (first | exact In.here | refine In.there ?_))) (hH.get (b := gb) (by repeat (first | exact In.here | refine In.there ?_))) hne) ?_
  rintro e w1 ⟨rfl, hE⟩
  replace hH := hH.ext hE
  refine ⟨_, rfl, hH.kp0, ?_⟩
  clear hS; intro a hS
  refine r_move hS hH.kp0 rfl rfl ?_; clear hS; intro a hS
  refine r_extract hS hH.kp0 rfl rfl rfl ?_; clear hS; intro a hS
  refine r_extract hS hH.kp0 rfl rfl rfl ?_; clear hS; intro a hS
  refine r_extract hS hH.kp0 rfl rfl rfl ?_; clear hS; intro a hS
  refine r_assign hS hH.kp0 rfl rfl ?_; clear hS; intro a hS
  refine r_assign hS hH.kp0 rfl rfl ?_; clear hS; intro a hS
  refine r_assign hS hH.kp0 rfl rfl ?_; clear hS; intro a hS
  refine Sq.nil ?_
  refine then_n ?_
  refine c_seq ?_
  refine reg_plain w0 (Nobody) ?_
  refine r_move hS hH.kp0 rfl rfl ?_; clear hS; intro a hS
  refine r_assign hS hH.kp0 rfl rfl ?_; clear hS; intro a hS
  refine Sq.nil ?_
  refine then_n ?_
  refine wp_ret ?_
  exact leave (.inl rfl) hS rfl (Res.tmp rfl Res.nil) ⟨rfl, hH.mod⟩

theorem Fc.ia2 : IntArr Try.prog 75 2 := intArr_mk Fc.laid (of_decide_eq_true (by kernel_rfl)) (by kernel_rfl) (by kernel_rfl) (by kernel_rfl) (by kernel_rfl) (by kernel_rfl)
set_option maxRecDepth 100000 in
set_option maxHeartbeats 400000 in
theorem Done_c (ob gb hb room base sent kl kc : Nat) (q : Option Addr) (en : Int) (hkl : kl ≤ 1099511627776) (hen : fits en) (w0 : World) (hz : w0.heap[ob]? = some (.cells ([.int .i64 (room : Int), .int .i64 (base : Int), .slice q kl kc, .int .i64 (sent : Int), .pointer (some ⟨gb, 0, none⟩), .pointer (some ⟨hb, 0, none⟩), .int .i64 en] : List Value).toArray 70 (0, 0))) : Calls Try.prog 11 #[.pointer (some ⟨ob, 0, none⟩)] w0 fun e w' => e = .returned (.bool (decide ([en, (kl : Int)] = [4, 0]))) ∧ Ext w0 w' := by
  refine enter Try.func11 rfl rfl rfl ?_
  intro a hS
  have hH := Hp.start w0 (Nobody)
  replace hH := hH.know hz (by intro p hp; simp at hp)
  refine c_seq ?_
  refine reg_plain w0 (Nobody) ?_
  refine r_assign hS hH.kp0 rfl rfl ?_; clear hS; intro a hS
  refine Sq.nil ?_
  refine then_n ?_
  refine c_seq ?_
  refine reg_draw [(true, 0, []), (false, 1, []), (true, 2, []), (true, 3, []), (true, 4, []), (true, 5, []), (true, 6, []), (true, 7, []), (true, 8, []), (true, 9, []), (true, 10, []), (true, 11, []), (true, 12, []), (true, 13, []), (true, 14, []), (true, 15, []), (true, 16, []), (true, 17, [])] Fc.mixed (by kernel_rfl) (by kernel_rfl) (by kernel_rfl) (by kernel_rfl) (by kernel_rfl) (by repeat (first | with_reducible exact steady_body | with_reducible exact steady_bodyQ | with_reducible exact steady_round | with_reducible apply steady_block | with_reducible apply steady_then | with_reducible apply steady_scope | exact steady_body)) hH ?_
  replace hH := hH.drew
  refine r_move hS trivial rfl rfl ?_; clear hS; intro a hS
  refine r_call (l := [.tmp 3]) hS rfl rfl Fc.fn28 rfl ?_
  refine Calls.mono (none_c ob gb hb room base sent kl kc q en _ (hH.get (b := ob) (by repeat (first | exact In.here | refine In.there ?_)))) ?_
  rintro e w1 ⟨rfl, hE⟩
  replace hH := hH.ext hE
  refine ⟨_, rfl, hH.kp (by repeat (first | exact Sub.nil | refine Sub.cons ?_ ?_ | exact In.here | refine In.there ?_)), ?_⟩
  clear hS; intro a hS
  refine r_not hS trivial rfl rfl ?_; clear hS; intro a hS
  refine r_move hS trivial rfl rfl ?_; clear hS; intro a hS
  refine Sq.guardYes hS rfl rfl rfl ?_; refine r_move hS trivial rfl rfl ?_; clear hS; intro a hS
  refine Sq.guardYes hS rfl rfl rfl ?_; refine r_nilCheck hS trivial rfl rfl ?_; clear hS; intro a hS
  refine Sq.guardYes hS rfl rfl rfl ?_; refine r_fieldAddr hS trivial rfl Fc.fo70_6 rfl ?_; clear hS; intro a hS
  refine Sq.guardYes hS rfl rfl rfl ?_; refine r_load_scS hS rfl (by repeat (first | exact In.here | refine In.there ?_)) Fc.sc3 (by rfl) rfl ?_; clear hS; intro a hS
  refine Sq.guardYes hS rfl rfl rfl ?_; refine r_move hS trivial rfl rfl ?_; clear hS; intro a hS
  refine Sq.guardYes hS rfl rfl rfl ?_; refine r_nilCheck hS trivial rfl rfl ?_; clear hS; intro a hS
  refine Sq.guardYes hS rfl rfl rfl ?_; refine r_fieldAddr hS trivial rfl Fc.fo70_2 rfl ?_; clear hS; intro a hS
  refine Sq.guardYes hS rfl rfl rfl ?_; refine r_load_scS hS rfl (by repeat (first | exact In.here | refine In.there ?_)) Fc.sc22 (by rfl) rfl ?_; clear hS; intro a hS
  refine Sq.guardYes hS rfl rfl rfl ?_; refine r_lenSl hS trivial rfl Fc.isSlice22 rfl ?_; clear hS; intro a hS
  refine Sq.guardYes hS rfl rfl rfl ?_; refine r_buildA (parts := [(0, .tmp 10), (1, .tmp 15)]) hS trivial rfl rfl Fc.zc75 Fc.ar75 (by rfl) ?_; clear hS; intro a hS
  refine Sq.guardYes hS rfl rfl rfl ?_; refine r_buildA (parts := [(0, .const (.int .i64 4)), (1, .const (.int .i64 0))]) hS trivial rfl rfl Fc.zc75 Fc.ar75 (by rfl) ?_; clear hS; intro a hS
  refine Sq.guardYes hS rfl rfl rfl ?_; refine r_intArrEql [en, (kl : Int)] [4, 0] Fc.ia2 hS trivial rfl rfl rfl rfl rfl rfl (by intro x hx; simp at hx; rcases hx with rfl | rfl; exact hen; exact ⟨by omega, by omega⟩) (by intro x hx; simp at hx; rcases hx with rfl | rfl <;> exact ⟨by decide, by decide⟩) rfl ?_; clear hS; intro a hS
  refine r_pickT hS trivial rfl rfl rfl rfl ?_; clear hS; intro a hS
  refine r_assign hS trivial rfl rfl ?_; clear hS; intro a hS
  refine Sq.nil ?_
  refine then_n ?_
  refine wp_ret ?_
  exact leave (.inl rfl) hS rfl (Res.tmp rfl Res.nil) ⟨rfl, hH.mod⟩

end Go.Proofs.Ytkhcbllphdhbdaa
