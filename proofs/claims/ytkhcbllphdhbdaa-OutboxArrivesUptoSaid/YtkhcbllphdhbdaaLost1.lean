/- A text that is written to an outbox arrives whole at an inbox, whatever is lost and comes twice. Part Lost1: walks and lemmas of the proof. -/
import Derived.Test.YtkhcbllphdhbdaaBox1
import Derived.Test.YtkhcbllphdhbdaaSymRound
import Derived.Test.YtkhcbllphdhbdaaSymSet
namespace Go.Proofs.Ytkhcbllphdhbdaa
open Go.Sym

theorem Fc.ag94 : agB Try.prog 94 = some 2 := by kernel_rfl
theorem Fc.el87 : elB Try.prog 87 = some (94, 2, 16) := by kernel_rfl
theorem Fc.inf94 : (Try.prog.info? 94).isSome = true := by kernel_rfl
theorem Fc.ni87 : notInt Try.prog 87 = true := by kernel_rfl
theorem Fc.sz94 : sizeB Try.prog 94 2 = true := by kernel_rfl
theorem Fc.uls87 : Try.prog.underlying 87 = some (.slice 94) := by kernel_rfl
theorem Fc.zc94 : zcB Try.prog 94 = some [.int .i64 0, .int .i64 0] := by kernel_rfl
set_option maxRecDepth 100000 in
set_option maxHeartbeats 400000 in
theorem snone1_c (gb sb cap : Nat) (w0 : World) (hg : w0.heap[gb]? = some (.cells ([.bool true, .slice (some ⟨sb, 0, none⟩) 1 cap] : List Value).toArray 89 (0, 0))) : Calls Try.prog 53 #[.pointer (some ⟨gb, 0, none⟩)] w0 fun e w' => e = .returned (.bool false) ∧ Ext w0 w' := by
  refine enter Try.func53 rfl rfl rfl ?_
  intro a hS
  have hH := Hp.start w0 (Nobody)
  replace hH := hH.know hg (by intro p hp; simp at hp)
  refine c_seq ?_
  refine reg_plain w0 (Nobody) ?_
  refine r_assign hS hH.kp0 rfl rfl ?_; clear hS; intro a hS
  refine Sq.nil ?_
  refine then_n ?_
  refine c_seq ?_
  refine reg_plain w0 (Nobody) ?_
  refine r_move hS hH.kp0 rfl rfl ?_; clear hS; intro a hS
  refine r_ptrNil hS hH.kp0 rfl Fc.isPtr67 rfl ?_; clear hS; intro a hS
  refine r_move hS hH.kp0 rfl rfl ?_; clear hS; intro a hS
  refine Sq.guardYes hS rfl rfl rfl ?_; refine r_move hS hH.kp0 rfl rfl ?_; clear hS; intro a hS
  refine Sq.guardYes hS rfl rfl rfl ?_; refine r_nilCheck hS hH.kp0 rfl rfl ?_; clear hS; intro a hS
  refine Sq.guardYes hS rfl rfl rfl ?_; refine r_fieldAddr hS hH.kp0 rfl Fc.fo89_0 rfl ?_; clear hS; intro a hS
  refine Sq.guardYes hS rfl rfl rfl ?_; refine r_load_sc hS hH (by repeat (first | exact Sub.nil | refine Sub.cons ?_ ?_ | exact In.here | refine In.there ?_)) rfl (by repeat (first | exact In.here | refine In.there ?_)) Fc.sc4 (by rfl) rfl ?_; clear hS; intro a hS
  refine Sq.guardYes hS rfl rfl rfl ?_; refine r_not hS hH.kp0 rfl rfl ?_; clear hS; intro a hS
  refine r_pickF hS hH.kp0 rfl rfl rfl rfl ?_; clear hS; intro a hS
  refine r_assign hS hH.kp0 rfl rfl ?_; clear hS; intro a hS
  refine Sq.nil ?_
  refine then_n ?_
  refine wp_ret ?_
  exact leave (.inl rfl) hS rfl (Res.tmp rfl Res.nil) ⟨rfl, hH.mod⟩

set_option maxRecDepth 100000 in
set_option maxHeartbeats 400000 in
theorem sclone_one (sb cap : Nat) (l : List Value) (x y : Int) (hl : l.length = cap * 2) (hc : 1 ≤ cap) (ht : l.take 2 = [.int .i64 x, .int .i64 y]) (w0 : World) (hs : w0.heap[sb]? = some (.cells l.toArray 94 (0, 0))) : Calls Try.prog 56 #[.slice (some ⟨sb, 0, none⟩) 1 cap] w0 fun e w' => ∃ (cb c2 : Nat) (l2 : List Value), e = .returned (.slice (some ⟨cb, 0, none⟩) 1 c2) ∧ w0.heap.size ≤ cb ∧ w'.heap[cb]? = some (.cells l2.toArray 94 (0, 0)) ∧ 1 ≤ c2 ∧ l2.length = c2 * 2 ∧ l2.take 2 = [.int .i64 x, .int .i64 y] ∧ Ext w0 w' := by
  refine enter Try.func56 rfl rfl rfl ?_
  intro a hS
  have hH := Hp.start w0 (Nobody)
  replace hH := hH.know hs (by intro p hp; simp at hp)
  refine c_seq ?_
  refine reg_plain w0 (Nobody) ?_
  refine r_assign hS hH.kp0 rfl rfl ?_; clear hS; intro a hS
  refine Sq.nil ?_
  refine then_n ?_
  refine c_seq ?_
  refine c_seq ?_
  refine reg_plain w0 (Nobody) ?_
  refine r_move hS hH.kp0 rfl rfl ?_; clear hS; intro a hS
  refine r_slNil hS hH.kp0 rfl Fc.isSlice87 rfl ?_; clear hS; intro a hS
  refine Sq.nil ?_
  refine then_n ?_
  refine c_condF hS rfl rfl ?_
  refine wp_skip ?_
  refine then_n ?_
  refine c_seq ?_
  refine reg_plain w0 (Nobody) ?_
  refine r_buildSlice0 hS hH (by repeat (first | exact Sub.nil | refine Sub.cons ?_ ?_ | exact In.here | refine In.there ?_)) Fc.uls87 Fc.inf94 rfl ?_
  clear hS hH; intro a w b5 hb5 hwb5 hS hH
  refine r_move hS hH.kp0 rfl rfl ?_; clear hS; intro a hS
  refine r_append_own hS hH rfl rfl (by repeat (first | exact .here | apply In.there | apply Put.there | apply Del.there)) (by repeat (first | exact Sub.nil | refine Sub.cons ?_ ?_ | exact In.here | refine In.there ?_)) Fc.el87 Fc.ni87 rfl (Nat.le_refl _) ((Sl.of_block (es := 2) (m := 1) (hH.get (b := sb) (.there .here)) (by omega) hc).src (by rw [Nat.one_mul, ht]; intro u hu; simp only [List.mem_cons, List.not_mem_nil, or_false] at hu; rcases hu with rfl | rfl <;> rfl)) (by decide) (.inr hb5) rfl ?_
  clear hS hH; intro a w cb c2 l2 hcb hl2 hc2 htk _ hS hH
  refine r_assign hS hH.kp0 rfl rfl ?_; clear hS; intro a hS
  refine Sq.nil ?_
  refine then_n ?_
  refine wp_ret ?_
  rw [Nat.one_mul, ht] at htk
  exact leave (.inl rfl) hS rfl (Res.tmp rfl Res.nil) ⟨cb, c2, l2, rfl, hcb.resolve_left (fun h => h), hH.get .here, hc2, hl2, htk, hH.mod⟩

set_option maxRecDepth 100000 in
set_option maxHeartbeats 400000 in
theorem All1_one (lr bb gb sb cap : Nat) (l : List Value) (x y : Int) (hl : l.length = cap * 2) (hc : 1 ≤ cap) (ht : l.take 2 = [.int .i64 x, .int .i64 y]) (hn1 : bb ≠ gb) (hn2 : bb ≠ sb) (hn3 : gb ≠ sb) (w0 : World) (hb : w0.heap[bb]? = some (.cells [.pointer (some ⟨gb, 0, none⟩)].toArray 67 (0, 0))) (hg : w0.heap[gb]? = some (.cells ([.bool true, .slice (some ⟨sb, 0, none⟩) 1 cap] : List Value).toArray 89 (0, 0))) (hs : w0.heap[sb]? = some (.cells l.toArray 94 (0, 0))) (Rt : World → Prop) (hY : ∀ W, Ext w0 W → YieldAt Fence.wide 0 Try.prog lr #[.agg #[.int .i64 x, .int .i64 y]] W fun e W' => e = .returned (.bool false) ∧ Rt W') : Calls Try.prog 55 #[.func (.yield lr) #[] #[], .pointer (some ⟨bb, 0, none⟩)] w0 fun e w' => (∃ v, e = .returned v) ∧ Rt w' := by
  refine enter Try.func55 rfl rfl rfl ?_
  intro a hS
  have hH := Hp.start w0 (Nobody)
  replace hH := ((hH.know hs (by intro p hp; simp at hp)).know hg (by intro p hp; simp at hp; subst hp; exact hn3.symm)).know hb (by intro p hp; simp at hp; rcases hp with rfl | rfl; exact hn1.symm; exact hn2.symm)
  refine c_seq ?_
  refine c_seq ?_
  refine reg_plain w0 (Nobody) ?_
  refine r_load_sc hS hH (by repeat (first | exact Sub.nil | refine Sub.cons ?_ ?_ | exact In.here | refine In.there ?_)) rfl (by repeat (first | exact In.here | refine In.there ?_)) Fc.sc67 (by rfl) rfl ?_; clear hS; intro a hS
  refine r_call (l := [.tmp 5]) hS rfl rfl Fc.fn53 rfl ?_
  refine Calls.mono (snone1_c gb sb cap _ (hH.get (b := gb) (by repeat (first | exact In.here | refine In.there ?_)))) ?_
  rintro e w1 ⟨rfl, hE⟩
  replace hH := hH.ext hE
  refine ⟨_, rfl, hH.kp0, ?_⟩
  clear hS; intro a hS
  refine Sq.nil ?_
  refine then_n ?_
  refine c_condF hS rfl rfl ?_
  refine wp_skip ?_
  refine then_n ?_
  refine c_seq ?_
  refine reg_plain w0 (Nobody) ?_
  refine r_load_sc hS hH (by repeat (first | exact Sub.nil | refine Sub.cons ?_ ?_ | exact In.here | refine In.there ?_)) rfl (by repeat (first | exact In.here | refine In.there ?_)) Fc.sc67 (by rfl) rfl ?_; clear hS; intro a hS
  refine r_nilCheck hS hH.kp0 rfl rfl ?_; clear hS; intro a hS
  refine r_fieldAddr hS hH.kp0 rfl Fc.fo89_1 rfl ?_; clear hS; intro a hS
  refine r_load_sc hS hH (by repeat (first | exact Sub.nil | refine Sub.cons ?_ ?_ | exact In.here | refine In.there ?_)) rfl (by repeat (first | exact In.here | refine In.there ?_)) Fc.sc87 (by rfl) rfl ?_; clear hS; intro a hS
  refine r_call (l := [.tmp 10]) hS rfl rfl Fc.fn56 rfl ?_
  refine Calls.mono (sclone_one sb cap l x y hl hc ht _ (hH.get (b := sb) (by repeat (first | exact In.here | refine In.there ?_)))) ?_
  rintro e w1 ⟨cb, c2, l2, rfl, hcb, hcbk, hc2, hl2, htk, hE⟩
  replace hH := (hH.ext hE).know hcbk (fun p hp e => by have := lt_of_block (hH.blk p hp); omega)
  refine ⟨_, rfl, hH.kp0, ?_⟩
  clear hS; intro a hS
  refine r_lenSl hS hH.kp0 rfl Fc.isSlice87 rfl ?_; clear hS; intro a hS
  refine r_move hS hH.kp0 rfl rfl ?_; clear hS; intro a hS
  refine Sq.nil ?_
  refine then_n ?_
  refine wp_block ?_
  refine wp_loop_rounds 1 ?_
  refine rnd ?_
  refine c_seq ?_
  refine reg_plain w0 (Nobody) ?_
  refine r_lss hS hH.kp0 rfl rfl rfl ?_; clear hS; intro a hS
  refine Sq.nil ?_
  refine then_n ?_
  refine c_seq ?_
  refine c_condT hS rfl rfl ?_
  refine wp_skip ?_
  refine then_n ?_
  refine c_seq ?_
  refine wp_block ?_
  refine c_seq ?_
  refine reg_plain w0 (Nobody) ?_
  refine r_indexAddrS (j := 0) hS hH.kp0 rfl rfl Fc.slb87 rfl (by decide) rfl ?_; clear hS; intro a hS
  refine r_load_ag hS hH (by repeat (first | exact Sub.nil | refine Sub.cons ?_ ?_ | exact In.here | refine In.there ?_)) rfl (by repeat (first | exact In.here | refine In.there ?_)) Fc.ag94 (by omega) rfl ?_; clear hS; intro a hS
  rw [show rd l2 (0 + 0 * 2) 2 = [.int .i64 x, .int .i64 y] from by rw [← htk]; rfl] at hS
  refine r_alloc hS hH (by repeat (first | exact Sub.nil | refine Sub.cons ?_ ?_ | exact In.here | refine In.there ?_)) Fc.zc94 rfl ?_
  clear hS hH; intro a w b4 hb4 hwb4 hS hH
  refine r_store_row hS hH rfl rfl (by repeat (first | exact .here | apply In.there | apply Put.there | apply Del.there)) (by repeat (first | exact Sub.nil | refine Sub.cons ?_ ?_ | exact In.here | refine In.there ?_)) Fc.sz94 (by first | exact hcells_one _ | exact of_decide_eq_true rfl) (by rfl) (by first | exact .inr (by assumption) | exact .inl (by first | assumption | rfl)) ?_
  clear hH; intro w hH
  refine Sq.nil ?_
  refine then_n ?_
  refine c_seq ?_
  refine c_yield (pre := [_, _]) (post := [_]) w0 Nobody (by (repeat (first | with_reducible apply letsOut_then | with_reducible apply letsOut_block)); refine letsOut_body ?_; rintro w ⟨⟨v, e⟩, _⟩; cases e) ?_
  refine r_move hS hH.kp0 rfl rfl ?_; clear hS; intro a hS
  refine r_load_row hS hH (by repeat (first | exact Sub.nil | refine Sub.cons ?_ ?_ | exact In.here | refine In.there ?_)) rfl (by repeat (first | exact In.here | refine In.there ?_)) Fc.ag94 (by rfl) rfl ?_; clear hS; intro a hS
  refine Sq.nil ?_
  refine then_n ?_
  refine ⟨lr, _, hS.val (x := .tmp 17) rfl, hS.vals (l := [.tmp 18]) rfl, YieldAt.mono (hY _ hH.mod) ?_⟩
  rintro e w2 ⟨rfl, hRt⟩
  refine ⟨_, rfl, ?_⟩
  replace hS := hS.put (d := 19) rfl (.bool false)
  refine r_not hS trivial rfl rfl ?_; clear hS; intro a hS
  refine Sq.nil ?_
  refine then_n ?_
  refine c_condT hS rfl rfl ?_
  refine wp_ret ?_
  refine blk_r ?_
  refine then_r ?_
  refine then_r ?_
  refine blk_r ?_
  exact leave (.inl rfl) hS rfl Res.nil ⟨⟨_, rfl⟩, hRt⟩

end Go.Proofs.Ytkhcbllphdhbdaa

namespace Go.Proofs.Ytkhcbllphdhbdaa
open Go.Sym

theorem Fc.fo94_1 : foff Try.prog 94 1 = some 1 := by kernel_rfl
set_option maxRecDepth 100000 in
set_option maxHeartbeats 4000000 in
theorem due_lost (ob gb hb room base sent kl kc : Nat) (q : Option Addr) (en : Int) (sb cap x y m most : Nat) (l : List Value) (lim : Int) (hxy : x ≤ y) (hy : y ≤ 1099511627776) (hmost : most ≤ 1099511627776) (h1 : 1 ≤ most) (hm : m = min most (y - x + 1)) (w0 : World) (hz : w0.heap[ob]? = some (.cells ([.int .i64 (room : Int), .int .i64 (base : Int), .slice q kl kc, .int .i64 (sent : Int), .pointer (some ⟨gb, 0, none⟩), .pointer (some ⟨hb, 0, none⟩), .int .i64 en] : List Value).toArray 70 (0, 0))) (hg : w0.heap[gb]? = some (.cells ([.bool true, .slice (some ⟨sb, 0, none⟩) 1 cap] : List Value).toArray 89 (0, 0))) (hs : w0.heap[sb]? = some (.cells l.toArray 94 (0, 0))) (hl : l.length = cap * 2) (hc : 1 ≤ cap) (ht : l.take 2 = [.int .i64 (x : Int), .int .i64 (y : Int)]) (hn1 : gb ≠ ob) (hn2 : sb ≠ ob) (hn3 : gb ≠ sb) : Calls Try.prog 29 #[.pointer (some ⟨ob, 0, none⟩), .int .i64 (most : Int), .int .i64 lim] w0 fun e w' => e = .returned (.tuple #[.int .i64 (x : Int), .int .i64 ((x + m : Nat) : Int), .bool true]) ∧ Ext w0 w' := by
  refine enterM Try.func29 rfl rfl rfl ?_
  intro a hS
  have hH := Hp.start w0 (Nobody)
  replace hH := ((hH.know hs (by intro p hp; simp at hp)).know hg (by intro p hp; simp at hp; subst hp; exact hn3.symm)).know hz (by intro p hp; simp at hp; rcases hp with rfl | rfl; exact hn1; exact hn2)
  refine c_seq ?_
  refine reg_plain w0 (Nobody) ?_
  refine r_box hS hH (by repeat (first | exact Sub.nil | refine Sub.cons ?_ ?_ | exact In.here | refine In.there ?_)) rfl rfl rfl ?_
  clear hS hH; intro a w b3 hb3 hwb3 hS hH
  refine r_box hS hH (by repeat (first | exact Sub.nil | refine Sub.cons ?_ ?_ | exact In.here | refine In.there ?_)) rfl rfl rfl ?_
  clear hS hH; intro a w b4 hb4 hwb4 hS hH
  refine r_box hS hH (by repeat (first | exact Sub.nil | refine Sub.cons ?_ ?_ | exact In.here | refine In.there ?_)) rfl rfl rfl ?_
  clear hS hH; intro a w b5 hb5 hwb5 hS hH
  refine r_alloc hS hH (by repeat (first | exact Sub.nil | refine Sub.cons ?_ ?_ | exact In.here | refine In.there ?_)) Fc.zc3 rfl ?_
  clear hS hH; intro a w b6 hb6 hwb6 hS hH
  refine r_alloc hS hH (by repeat (first | exact Sub.nil | refine Sub.cons ?_ ?_ | exact In.here | refine In.there ?_)) Fc.zc3 rfl ?_
  clear hS hH; intro a w b7 hb7 hwb7 hS hH
  refine r_alloc hS hH (by repeat (first | exact Sub.nil | refine Sub.cons ?_ ?_ | exact In.here | refine In.there ?_)) Fc.zc4 rfl ?_
  clear hS hH; intro a w b8 hb8 hwb8 hS hH
  refine Sq.nil ?_
  refine then_n ?_
  refine c_seq ?_
  refine c_seq ?_
  refine reg_plain w0 (Nobody) ?_
  refine r_load_sc hS hH (by repeat (first | exact Sub.nil | refine Sub.cons ?_ ?_ | exact In.here | refine In.there ?_)) rfl (by repeat (first | exact In.here | refine In.there ?_)) Fc.sc3 (by rfl) rfl ?_; clear hS; intro a hS
  refine r_lss hS hH.kp0 rfl rfl rfl ?_; clear hS; intro a hS
  refine Sq.nil ?_
  refine then_n ?_
  refine c_condF hS rfl (DF (by omega)) ?_
  refine wp_skip ?_
  refine then_n ?_
  refine c_seq ?_
  refine c_seq ?_
  refine reg_plain w0 (Nobody) ?_
  refine r_load_sc hS hH (by repeat (first | exact Sub.nil | refine Sub.cons ?_ ?_ | exact In.here | refine In.there ?_)) rfl (by repeat (first | exact In.here | refine In.there ?_)) Fc.sc23 (by rfl) rfl ?_; clear hS; intro a hS
  refine r_nilCheck hS hH.kp0 rfl rfl ?_; clear hS; intro a hS
  refine r_fieldAddr hS hH.kp0 rfl Fc.fo70_4 rfl ?_; clear hS; intro a hS
  refine r_load_sc hS hH (by repeat (first | exact Sub.nil | refine Sub.cons ?_ ?_ | exact In.here | refine In.there ?_)) rfl (by repeat (first | exact In.here | refine In.there ?_)) Fc.sc67 (by rfl) rfl ?_; clear hS; intro a hS
  refine r_call (l := [.tmp 16]) hS rfl rfl Fc.fn47 rfl ?_
  refine Calls.mono (All_c _ rfl _) ?_
  rintro e w1 ⟨bb, rfl, hbb, hbk9, hE⟩
  have hbg : bb ≠ gb := fun e => by have := lt_of_block (hH.get (b := gb) (by repeat (first | exact .here | apply In.there | apply Put.there | apply Del.there))); omega
  have hbs : bb ≠ sb := fun e => by have := lt_of_block (hH.get (b := sb) (by repeat (first | exact .here | apply In.there | apply Put.there | apply Del.there))); omega
  replace hH := (hH.ext hE).know hbk9 (fun p hp e => by have := lt_of_block (hH.blk p hp); omega)
  refine ⟨_, rfl, hH.kp0, ?_⟩
  clear hS; intro a hS
  refine Sq.nil ?_
  refine then_n ?_
  refine wp_block ?_
  refine c_range1 (ps := [18]) (lb := [.pointer (some ⟨bb, 0, none⟩)]) (xs := [.agg #[.int .i64 (x : Int), .int .i64 (y : Int)]]) (fun D => [(D, .deferred (some [])), (b8, .cells ([.bool true] : List Value).toArray 4 (0, 0)), (b7, .cells ([.int .i64 ((x + m : Nat) : Int)] : List Value).toArray 3 (0, 0)), (b6, .cells ([.int .i64 (x : Int)] : List Value).toArray 3 (0, 0))]) hS hH rfl Fc.fn55 rfl (fun l9 w1 hE1 Rt hY => All1_one l9 bb gb sb cap l x y hl hc ht hbg hbs hn3 w1 (hE1.heap_some (hH.get (b := bb) (by repeat (first | exact In.here | refine In.there ?_)))) (hE1.heap_some (hH.get (b := gb) (by repeat (first | exact In.here | refine In.there ?_)))) (hE1.heap_some (hH.get (b := sb) (by repeat (first | exact In.here | refine In.there ?_)))) Rt hY) ?_ ?_
  · intro l9 D rec w a1 Rt hD hl9 hrd hdf htm hH9 hk9
    replace hS := hS.param (d := 18) hdf htm rfl
    clear hH
    have hH := hH9
    clear hH9
    refine regR_plain w0 (Nobody) (by repeat (first | exact letsOut_round | exact letsOut_false | apply letsOut_then | apply letsOut_block)) rfl ?_
    refine r_alloc hS hH (by repeat (first | exact Sub.nil | refine Sub.cons ?_ ?_ | exact In.here | refine In.there ?_)) Fc.zc94 rfl ?_
    clear hS hH; intro a w b9 hb9 hwb9 hS hH
    refine r_store_row hS hH rfl rfl (by repeat (first | exact .here | apply In.there | apply Put.there | apply Del.there)) (by repeat (first | exact Sub.nil | refine Sub.cons ?_ ?_ | exact In.here | refine In.there ?_)) Fc.sz94 (by first | exact hcells_one _ | exact of_decide_eq_true rfl) (by rfl) (by first | exact .inr (by assumption) | exact .inl (by first | assumption | rfl)) ?_
    clear hH; intro w hH
    refine Sq.nil ?_
    refine then_n ?_
    refine asg_done hH hl9 hrd (by repeat (first | exact .here | apply In.there | apply Put.there | apply Del.there)) ?_
    clear hH; intro w hH
    refine wpIn_block ?_
    refine wpIn_seq ?_
    refine regR_plain w0 (Nobody) (by repeat (first | exact letsOut_round | exact letsOut_false | apply letsOut_then | apply letsOut_block)) rfl ?_
    refine r_fieldAddr hS hH.kp0 rfl Fc.fo94_0 rfl ?_; clear hS; intro a hS
    refine r_load_sc hS hH (by repeat (first | exact Sub.nil | refine Sub.cons ?_ ?_ | exact In.here | refine In.there ?_)) rfl (by repeat (first | exact In.here | refine In.there ?_)) Fc.sc3 (by rfl) rfl ?_; clear hS; intro a hS
    refine r_load_sc hS hH (by repeat (first | exact Sub.nil | refine Sub.cons ?_ ?_ | exact In.here | refine In.there ?_)) rfl (by repeat (first | exact In.here | refine In.there ?_)) Fc.sc3 (by rfl) rfl ?_; clear hS; intro a hS
    refine r_fieldAddr hS hH.kp0 rfl Fc.fo94_1 rfl ?_; clear hS; intro a hS
    refine r_load_sc hS hH (by repeat (first | exact Sub.nil | refine Sub.cons ?_ ?_ | exact In.here | refine In.there ?_)) rfl (by repeat (first | exact In.here | refine In.there ?_)) Fc.sc3 (by rfl) rfl ?_; clear hS; intro a hS
    refine r_fieldAddr hS hH.kp0 rfl Fc.fo94_0 rfl ?_; clear hS; intro a hS
    refine r_load_sc hS hH (by repeat (first | exact Sub.nil | refine Sub.cons ?_ ?_ | exact In.here | refine In.there ?_)) rfl (by repeat (first | exact In.here | refine In.there ?_)) Fc.sc3 (by rfl) rfl ?_; clear hS; intro a hS
    refine r_subN0 (m := y) (k := x) hS hH.kp0 rfl rfl hxy (by omega) rfl ?_; clear hS; intro a hS
    refine r_addN0 (m := y - x) (k := 1) hS hH.kp0 rfl rfl (by omega) rfl ?_; clear hS; intro a hS
    refine r_minN (m := most) (k := y - x + 1) hS hH.kp0 rfl rfl rfl ?_; clear hS; intro a hS
    rw [← hm] at hS
    refine r_addN0 (m := x) (k := m) hS hH.kp0 rfl rfl (by omega) rfl ?_; clear hS; intro a hS
    refine r_store1 hS hH rfl rfl rfl (by repeat (first | exact .here | apply In.there | apply Put.there | apply Del.there)) (by repeat (first | exact Sub.nil | refine Sub.cons ?_ ?_ | exact In.here | refine In.there ?_)) Fc.sz3 (of_decide_eq_true rfl) (by first | exact .inr (by assumption) | exact .inl (by first | assumption | rfl)) ?_
    clear hH; intro w hH
    refine Sq.nil ?_
    refine then_n ?_
    refine wpIn_seq ?_
    refine regR_draw [(true, 0, [4, 5, 6]), (true, 1, [4, 5, 6]), (true, 2, [4, 6]), (true, 3, [4, 6]), (true, 4, [4, 5, 6]), (true, 5, [4, 5, 6]), (true, 6, [4, 5, 6]), (false, 7, [6]), (false, 8, [5, 6]), (false, 9, [4, 5, 6])] Fc.mixed (by kernel_rfl) (by kernel_rfl) (by kernel_rfl) (by kernel_rfl) (by kernel_rfl) (by repeat (first | with_reducible exact steady_body | with_reducible exact steady_bodyQ | with_reducible exact steady_round | with_reducible apply steady_block | with_reducible apply steady_then | with_reducible apply steady_scope | exact steady_body)) (by repeat (first | exact letsOut_round | exact letsOut_false | apply letsOut_then | apply letsOut_block)) rfl hH ?_
    replace hH := hH.drew
    refine r_fieldAddr hS trivial rfl Fc.fo94_0 rfl ?_; clear hS; intro a hS
    refine r_load_scS hS rfl (by repeat (first | exact In.here | refine In.there ?_)) Fc.sc3 (by rfl) rfl ?_; clear hS; intro a hS
    refine r_load_scS hS rfl (by repeat (first | exact In.here | refine In.there ?_)) Fc.sc3 (by rfl) rfl ?_; clear hS; intro a hS
    refine r_load_scS hS rfl (by repeat (first | exact In.here | refine In.there ?_)) Fc.sc3 (by rfl) rfl ?_; clear hS; intro a hS
    refine r_fieldAddr hS trivial rfl Fc.fo94_0 rfl ?_; clear hS; intro a hS
    refine r_load_scS hS rfl (by repeat (first | exact In.here | refine In.there ?_)) Fc.sc3 (by rfl) rfl ?_; clear hS; intro a hS
    refine r_gtrN (m := x + m) (k := x) hS trivial rfl rfl rfl ?_; clear hS; intro a hS
    rw [show decide (x + m > x) = true from decide_eq_true (by omega)] at hS
    refine r_store1 hS hH rfl rfl rfl (by repeat (first | exact .here | apply In.there | apply Put.there | apply Del.there)) (by repeat (first | exact Sub.nil | refine Sub.cons ?_ ?_ | exact In.here | refine In.there ?_)) Fc.sz3 (of_decide_eq_true rfl) (by first | exact .inr (by assumption) | exact .inl (by first | assumption | rfl)) ?_
    clear hH; intro w hH
    refine r_store1 hS hH rfl rfl rfl (by repeat (first | exact .here | apply In.there | apply Put.there | apply Del.there)) (by repeat (first | exact Sub.nil | refine Sub.cons ?_ ?_ | exact In.here | refine In.there ?_)) Fc.sz3 (of_decide_eq_true rfl) (by first | exact .inr (by assumption) | exact .inl (by first | assumption | rfl)) ?_
    clear hH; intro w hH
    refine r_store1 hS hH rfl rfl rfl (by repeat (first | exact .here | apply In.there | apply Put.there | apply Del.there)) (by repeat (first | exact Sub.nil | refine Sub.cons ?_ ?_ | exact In.here | refine In.there ?_)) Fc.sz4 (of_decide_eq_true rfl) (by first | exact .inr (by assumption) | exact .inl (by first | assumption | rfl)) ?_
    clear hH; intro w hH
    refine Sq.nil ?_
    refine then_n ?_
    refine wpIn_ret ?_
    refine blk_r ?_
    refine ret_done hH hl9 (by repeat (first | exact .here | apply In.there | apply Put.there | apply Del.there)) (fun w9 hH9 => hk9 w9 (Hp.less hH9 ?_))
    (repeat (first | refine List.Sublist.cons_cons _ ?_ | refine List.Sublist.cons _ ?_)); exact List.nil_sublist _
  · clear hS hH; intro a w D hD hS hH
    refine blk_r ?_
    refine then_r ?_
    exact leaveM (.inl rfl) hS hH (hH.get (b := D) .here) hD rfl (Res.cell1 rfl (hH.get (by repeat (first | exact In.here | refine In.there ?_))) Fc.sc3 (by rfl) (Res.cell1 rfl (hH.get (by repeat (first | exact In.here | refine In.there ?_))) Fc.sc3 (by rfl) (Res.cell1 rfl (hH.get (by repeat (first | exact In.here | refine In.there ?_))) Fc.sc4 (by rfl) Res.nil))) (fun w9 hm9 hk9 => ⟨rfl, hm9⟩)

end Go.Proofs.Ytkhcbllphdhbdaa

namespace Go.Proofs.Ytkhcbllphdhbdaa
open Go.Sym

theorem Fc.fn58 : isFn Try.prog 58 = true := by kernel_rfl
theorem Fc.ui108 : Try.prog.underlying 108 = some (.int .u64) := by kernel_rfl
theorem Fc.ui3 : Try.prog.underlying 3 = some (.int .i64) := by kernel_rfl
theorem Fc.us108 : (Try.prog.underlying 108).isSome = true := by kernel_rfl
theorem Fc.us3 : (Try.prog.underlying 3).isSome = true := by kernel_rfl
set_option maxRecDepth 100000 in
set_option maxHeartbeats 400000 in
theorem cmp_c (x y : Nat) (k : Int) (hy : y ≤ 1099511627776) (hk : -1 ≤ k ∧ k ≤ 1099511627776) (w0 : World) : Calls Try.prog 58 #[.agg #[.int .i64 (x : Int), .int .i64 (y : Int)], .int .i64 k] w0 fun e w' => e = .returned (.int .i64 ((y : Int) - k)) ∧ Ext w0 w' := by
  refine enter Try.func58 rfl rfl rfl ?_
  intro a hS
  have hH := Hp.start w0 (Nobody)
  refine c_seq ?_
  refine reg_plain w0 (Nobody) ?_
  refine r_box hS hH (by repeat (first | exact Sub.nil | refine Sub.cons ?_ ?_ | exact In.here | refine In.there ?_)) rfl rfl rfl ?_
  clear hS hH; intro a w b2 hb2 hwb2 hS hH
  refine r_assign hS hH.kp0 rfl rfl ?_; clear hS; intro a hS
  refine Sq.nil ?_
  refine then_n ?_
  refine c_seq ?_
  refine reg_plain w0 (Nobody) ?_
  refine r_fieldAddr hS hH.kp0 rfl Fc.fo94_1 rfl ?_; clear hS; intro a hS
  refine r_load_sc hS hH (by repeat (first | exact Sub.nil | refine Sub.cons ?_ ?_ | exact In.here | refine In.there ?_)) rfl (by repeat (first | exact In.here | refine In.there ?_)) Fc.sc3 (by rfl) rfl ?_; clear hS; intro a hS
  refine r_move hS hH.kp0 rfl rfl ?_; clear hS; intro a hS
  (first | refine r_sub hS hH.kp0 rfl rfl rfl (by omega) ?_ | refine r_subw hS hH.kp0 rfl rfl rfl ?_)
  clear hS; intro a hS
  refine r_assign hS hH.kp0 rfl rfl ?_; clear hS; intro a hS
  refine Sq.nil ?_
  refine then_n ?_
  refine wp_ret ?_
  exact leave (.inl rfl) hS rfl (Res.tmp rfl Res.nil) ⟨rfl, hH.mod⟩

set_option maxRecDepth 100000 in
set_option maxHeartbeats 400000 in
theorem search0 (q : Option Addr) (cap : Nat) (x fv : Value) (w0 : World) : Calls Try.prog 57 #[.slice q 0 cap, x, fv] w0 fun e w' => e = .returned (.tuple #[.int .i64 0, .bool false]) ∧ Ext w0 w' := by
  refine enter Try.func57 rfl rfl rfl ?_
  intro a hS
  have hH := Hp.start w0 (Nobody)
  refine c_seq ?_
  refine reg_plain w0 (Nobody) ?_
  refine r_assign hS hH.kp0 rfl rfl ?_; clear hS; intro a hS
  refine r_assign hS hH.kp0 rfl rfl ?_; clear hS; intro a hS
  refine Sq.nil ?_
  refine then_n ?_
  refine c_seq ?_
  refine reg_plain w0 (Nobody) ?_
  refine r_move hS hH.kp0 rfl rfl ?_; clear hS; intro a hS
  refine r_lenSl hS hH.kp0 rfl Fc.isSlice87 rfl ?_; clear hS; intro a hS
  refine r_assign hS hH.kp0 rfl rfl ?_; clear hS; intro a hS
  refine Sq.nil ?_
  refine then_n ?_
  refine c_seq ?_
  refine reg_plain w0 (Nobody) ?_
  refine r_move hS hH.kp0 rfl rfl ?_; clear hS; intro a hS
  refine r_assign hS hH.kp0 rfl rfl ?_; clear hS; intro a hS
  refine r_assign hS hH.kp0 rfl rfl ?_; clear hS; intro a hS
  refine Sq.nil ?_
  refine then_n ?_
  refine c_seq ?_
  refine wp_block ?_
  refine wp_loop_rounds 1 ?_
  refine rnd ?_
  refine c_seq ?_
  refine c_seq ?_
  refine reg_plain w0 (Nobody) ?_
  refine r_move hS hH.kp0 rfl rfl ?_; clear hS; intro a hS
  refine r_move hS hH.kp0 rfl rfl ?_; clear hS; intro a hS
  refine r_lss hS hH.kp0 rfl rfl rfl ?_; clear hS; intro a hS
  refine Sq.nil ?_
  refine then_n ?_
  refine c_condF hS rfl rfl ?_
  refine wp_exit ?_
  refine then_e ?_
  refine then_e ?_
  refine blk_hit ?_
  refine then_n ?_
  refine c_seq ?_
  refine reg_plain w0 (Nobody) ?_
  refine r_move hS hH.kp0 rfl rfl ?_; clear hS; intro a hS
  refine r_move hS hH.kp0 rfl rfl ?_; clear hS; intro a hS
  refine r_move hS hH.kp0 rfl rfl ?_; clear hS; intro a hS
  refine r_lss hS hH.kp0 rfl rfl rfl ?_; clear hS; intro a hS
  refine r_move hS hH.kp0 rfl rfl ?_; clear hS; intro a hS
  refine Sq.guardNo hS rfl rfl rfl hH.kp0 rfl ?_; clear hS; intro a hS
  refine Sq.guardNo hS rfl rfl rfl hH.kp0 rfl ?_; clear hS; intro a hS
  refine Sq.guardNo hS rfl rfl rfl hH.kp0 rfl ?_; clear hS; intro a hS
  refine Sq.guardNo hS rfl rfl rfl hH.kp0 rfl ?_; clear hS; intro a hS
  refine Sq.guardNo hS rfl rfl rfl hH.kp0 rfl ?_; clear hS; intro a hS
  refine Sq.guardNo hS rfl rfl rfl hH.kp0 rfl ?_; clear hS; intro a hS
  refine Sq.guardNo hS rfl rfl rfl hH.kp0 rfl ?_; clear hS; intro a hS
  refine Sq.guardNo hS rfl rfl rfl hH.kp0 rfl ?_; clear hS; intro a hS
  refine r_pickF hS hH.kp0 rfl rfl rfl rfl ?_; clear hS; intro a hS
  refine r_assign hS hH.kp0 rfl rfl ?_; clear hS; intro a hS
  refine r_assign hS hH.kp0 rfl rfl ?_; clear hS; intro a hS
  refine Sq.nil ?_
  refine then_n ?_
  refine wp_ret ?_
  exact leave (.inl rfl) hS rfl (Res.tmp rfl (Res.tmp rfl Res.nil)) ⟨rfl, hH.mod⟩

set_option maxRecDepth 100000 in
set_option maxHeartbeats 400000 in
theorem search_lt (sb cap x y : Nat) (k : Int) (l : List Value) (hl : l.length = cap * 2) (hc : 1 ≤ cap) (ht : l.take 2 = [.int .i64 (x : Int), .int .i64 (y : Int)]) (hy : y ≤ 1099511627776) (hk : -1 ≤ k ∧ k ≤ 1099511627776) (hyk : (y : Int) < k) (w0 : World) (hs : w0.heap[sb]? = some (.cells l.toArray 94 (0, 0))) : Calls Try.prog 57 #[.slice (some ⟨sb, 0, none⟩) 1 cap, .int .i64 k, .func (.func 58) #[] #[]] w0 fun e w' => e = .returned (.tuple #[.int .i64 1, .bool false]) ∧ Ext w0 w' := by
  refine enter Try.func57 rfl rfl rfl ?_
  intro a hS
  have hH := Hp.start w0 (Nobody)
  replace hH := hH.know hs (by intro p hp; simp at hp)
  refine c_seq ?_
  refine reg_plain w0 (Nobody) ?_
  refine r_assign hS hH.kp0 rfl rfl ?_; clear hS; intro a hS
  refine r_assign hS hH.kp0 rfl rfl ?_; clear hS; intro a hS
  refine Sq.nil ?_
  refine then_n ?_
  refine c_seq ?_
  refine reg_plain w0 (Nobody) ?_
  refine r_move hS hH.kp0 rfl rfl ?_; clear hS; intro a hS
  refine r_lenSl hS hH.kp0 rfl Fc.isSlice87 rfl ?_; clear hS; intro a hS
  refine r_assign hS hH.kp0 rfl rfl ?_; clear hS; intro a hS
  refine Sq.nil ?_
  refine then_n ?_
  refine c_seq ?_
  refine reg_plain w0 (Nobody) ?_
  refine r_move hS hH.kp0 rfl rfl ?_; clear hS; intro a hS
  refine r_assign hS hH.kp0 rfl rfl ?_; clear hS; intro a hS
  refine r_assign hS hH.kp0 rfl rfl ?_; clear hS; intro a hS
  refine Sq.nil ?_
  refine then_n ?_
  refine c_seq ?_
  refine wp_block ?_
  refine wp_loop_rounds 2 ?_
  refine rnd ?_
  refine c_seq ?_
  refine c_seq ?_
  refine reg_plain w0 (Nobody) ?_
  refine r_move hS hH.kp0 rfl rfl ?_; clear hS; intro a hS
  refine r_move hS hH.kp0 rfl rfl ?_; clear hS; intro a hS
  refine r_lss hS hH.kp0 rfl rfl rfl ?_; clear hS; intro a hS
  refine Sq.nil ?_
  refine then_n ?_
  refine c_condT hS rfl rfl ?_
  refine wp_skip ?_
  refine then_n ?_
  refine wp_block ?_
  refine c_seq ?_
  refine reg_plain w0 (Nobody) ?_
  refine r_move hS hH.kp0 rfl rfl ?_; clear hS; intro a hS
  refine r_move hS hH.kp0 rfl rfl ?_; clear hS; intro a hS
  (first | refine r_add hS hH.kp0 rfl rfl rfl (by omega) ?_ | refine r_addw hS hH.kp0 rfl rfl rfl ?_)
  clear hS; intro a hS
  refine r_convInt hS hH.kp0 rfl Fc.ui108 Fc.us3 rfl ?_; clear hS; intro a hS
  refine r_shr hS hH.kp0 rfl rfl rfl (by first | decide | omega) ?_; clear hS; intro a hS
  refine r_convInt hS hH.kp0 rfl Fc.ui3 Fc.us108 rfl ?_; clear hS; intro a hS
  refine r_assign hS hH.kp0 rfl rfl ?_; clear hS; intro a hS
  refine Sq.nil ?_
  refine then_n ?_
  refine c_seq ?_
  refine reg_plain w0 (Nobody) ?_
  refine r_move hS hH.kp0 rfl rfl ?_; clear hS; intro a hS
  refine r_move hS hH.kp0 rfl rfl ?_; clear hS; intro a hS
  refine r_move hS hH.kp0 rfl rfl ?_; clear hS; intro a hS
  refine r_indexAddrS (j := 0) hS hH.kp0 rfl rfl Fc.slb87 rfl (by decide) rfl ?_; clear hS; intro a hS
  refine r_load_ag hS hH (by repeat (first | exact Sub.nil | refine Sub.cons ?_ ?_ | exact In.here | refine In.there ?_)) rfl (by repeat (first | exact In.here | refine In.there ?_)) Fc.ag94 (by omega) rfl ?_; clear hS; intro a hS
  rw [show rd l (0 + 0 * 2) 2 = [.int .i64 (x : Int), .int .i64 (y : Int)] from ht] at hS
  refine r_move hS hH.kp0 rfl rfl ?_; clear hS; intro a hS
  refine r_call (l := [.tmp 28, .tmp 29]) hS rfl rfl Fc.fn58 rfl ?_
  refine Calls.mono (cmp_c x y k hy hk _) ?_
  rintro e w1 ⟨rfl, hE⟩
  replace hH := hH.ext hE
  refine ⟨_, rfl, hH.kp0, ?_⟩
  clear hS; intro a hS
  refine r_lss hS hH.kp0 rfl rfl rfl ?_; clear hS; intro a hS
  refine Sq.nil ?_
  refine then_n ?_
  refine c_condT hS rfl (DT (by omega)) ?_
  refine reg_plain w0 (Nobody) ?_
  refine r_move hS hH.kp0 rfl rfl ?_; clear hS; intro a hS
  (first | refine r_add hS hH.kp0 rfl rfl rfl (by omega) ?_ | refine r_addw hS hH.kp0 rfl rfl rfl ?_)
  clear hS; intro a hS
  refine r_assign hS hH.kp0 rfl rfl ?_; clear hS; intro a hS
  refine Sq.nil ?_
  refine blk_n ?_
  refine then_n ?_
  refine rnd ?_
  refine c_seq ?_
  refine c_seq ?_
  refine reg_plain w0 (Nobody) ?_
  refine r_move hS hH.kp0 rfl rfl ?_; clear hS; intro a hS
  refine r_move hS hH.kp0 rfl rfl ?_; clear hS; intro a hS
  refine r_lss hS hH.kp0 rfl rfl rfl ?_; clear hS; intro a hS
  refine Sq.nil ?_
  refine then_n ?_
  refine c_condF hS rfl rfl ?_
  refine wp_exit ?_
  refine then_e ?_
  refine then_e ?_
  refine blk_hit ?_
  refine then_n ?_
  refine c_seq ?_
  refine reg_plain w0 (Nobody) ?_
  refine r_move hS hH.kp0 rfl rfl ?_; clear hS; intro a hS
  refine r_move hS hH.kp0 rfl rfl ?_; clear hS; intro a hS
  refine r_move hS hH.kp0 rfl rfl ?_; clear hS; intro a hS
  refine r_lss hS hH.kp0 rfl rfl rfl ?_; clear hS; intro a hS
  refine r_move hS hH.kp0 rfl rfl ?_; clear hS; intro a hS
  refine Sq.guardNo hS rfl rfl rfl hH.kp0 rfl ?_; clear hS; intro a hS
  refine Sq.guardNo hS rfl rfl rfl hH.kp0 rfl ?_; clear hS; intro a hS
  refine Sq.guardNo hS rfl rfl rfl hH.kp0 rfl ?_; clear hS; intro a hS
  refine Sq.guardNo hS rfl rfl rfl hH.kp0 rfl ?_; clear hS; intro a hS
  refine Sq.guardNo hS rfl rfl rfl hH.kp0 rfl ?_; clear hS; intro a hS
  refine Sq.guardNo hS rfl rfl rfl hH.kp0 rfl ?_; clear hS; intro a hS
  refine Sq.guardNo hS rfl rfl rfl hH.kp0 rfl ?_; clear hS; intro a hS
  refine Sq.guardNo hS rfl rfl rfl hH.kp0 rfl ?_; clear hS; intro a hS
  refine r_pickF hS hH.kp0 rfl rfl rfl rfl ?_; clear hS; intro a hS
  refine r_assign hS hH.kp0 rfl rfl ?_; clear hS; intro a hS
  refine r_assign hS hH.kp0 rfl rfl ?_; clear hS; intro a hS
  refine Sq.nil ?_
  refine then_n ?_
  refine wp_ret ?_
  exact leave (.inl rfl) hS rfl (Res.tmp rfl (Res.tmp rfl Res.nil)) ⟨rfl, hH.mod⟩

set_option maxRecDepth 100000 in
set_option maxHeartbeats 400000 in
theorem search_ge (sb cap x y : Nat) (k : Int) (l : List Value) (hl : l.length = cap * 2) (hc : 1 ≤ cap) (ht : l.take 2 = [.int .i64 (x : Int), .int .i64 (y : Int)]) (hy : y ≤ 1099511627776) (hk : -1 ≤ k ∧ k ≤ 1099511627776) (hyk : k ≤ (y : Int)) (w0 : World) (hs : w0.heap[sb]? = some (.cells l.toArray 94 (0, 0))) : Calls Try.prog 57 #[.slice (some ⟨sb, 0, none⟩) 1 cap, .int .i64 k, .func (.func 58) #[] #[]] w0 fun e w' => (∃ b, e = .returned (.tuple #[.int .i64 0, .bool b])) ∧ Ext w0 w' := by
  refine enter Try.func57 rfl rfl rfl ?_
  intro a hS
  have hH := Hp.start w0 (Nobody)
  replace hH := hH.know hs (by intro p hp; simp at hp)
  refine c_seq ?_
  refine reg_plain w0 (Nobody) ?_
  refine r_assign hS hH.kp0 rfl rfl ?_; clear hS; intro a hS
  refine r_assign hS hH.kp0 rfl rfl ?_; clear hS; intro a hS
  refine Sq.nil ?_
  refine then_n ?_
  refine c_seq ?_
  refine reg_plain w0 (Nobody) ?_
  refine r_move hS hH.kp0 rfl rfl ?_; clear hS; intro a hS
  refine r_lenSl hS hH.kp0 rfl Fc.isSlice87 rfl ?_; clear hS; intro a hS
  refine r_assign hS hH.kp0 rfl rfl ?_; clear hS; intro a hS
  refine Sq.nil ?_
  refine then_n ?_
  refine c_seq ?_
  refine reg_plain w0 (Nobody) ?_
  refine r_move hS hH.kp0 rfl rfl ?_; clear hS; intro a hS
  refine r_assign hS hH.kp0 rfl rfl ?_; clear hS; intro a hS
  refine r_assign hS hH.kp0 rfl rfl ?_; clear hS; intro a hS
  refine Sq.nil ?_
  refine then_n ?_
  refine c_seq ?_
  refine wp_block ?_
  refine wp_loop_rounds 2 ?_
  refine rnd ?_
  refine c_seq ?_
  refine c_seq ?_
  refine reg_plain w0 (Nobody) ?_
  refine r_move hS hH.kp0 rfl rfl ?_; clear hS; intro a hS
  refine r_move hS hH.kp0 rfl rfl ?_; clear hS; intro a hS
  refine r_lss hS hH.kp0 rfl rfl rfl ?_; clear hS; intro a hS
  refine Sq.nil ?_
  refine then_n ?_
  refine c_condT hS rfl rfl ?_
  refine wp_skip ?_
  refine then_n ?_
  refine wp_block ?_
  refine c_seq ?_
  refine reg_plain w0 (Nobody) ?_
  refine r_move hS hH.kp0 rfl rfl ?_; clear hS; intro a hS
  refine r_move hS hH.kp0 rfl rfl ?_; clear hS; intro a hS
  (first | refine r_add hS hH.kp0 rfl rfl rfl (by omega) ?_ | refine r_addw hS hH.kp0 rfl rfl rfl ?_)
  clear hS; intro a hS
  refine r_convInt hS hH.kp0 rfl Fc.ui108 Fc.us3 rfl ?_; clear hS; intro a hS
  refine r_shr hS hH.kp0 rfl rfl rfl (by first | decide | omega) ?_; clear hS; intro a hS
  refine r_convInt hS hH.kp0 rfl Fc.ui3 Fc.us108 rfl ?_; clear hS; intro a hS
  refine r_assign hS hH.kp0 rfl rfl ?_; clear hS; intro a hS
  refine Sq.nil ?_
  refine then_n ?_
  refine c_seq ?_
  refine reg_plain w0 (Nobody) ?_
  refine r_move hS hH.kp0 rfl rfl ?_; clear hS; intro a hS
  refine r_move hS hH.kp0 rfl rfl ?_; clear hS; intro a hS
  refine r_move hS hH.kp0 rfl rfl ?_; clear hS; intro a hS
  refine r_indexAddrS (j := 0) hS hH.kp0 rfl rfl Fc.slb87 rfl (by decide) rfl ?_; clear hS; intro a hS
  refine r_load_ag hS hH (by repeat (first | exact Sub.nil | refine Sub.cons ?_ ?_ | exact In.here | refine In.there ?_)) rfl (by repeat (first | exact In.here | refine In.there ?_)) Fc.ag94 (by omega) rfl ?_; clear hS; intro a hS
  rw [show rd l (0 + 0 * 2) 2 = [.int .i64 (x : Int), .int .i64 (y : Int)] from ht] at hS
  refine r_move hS hH.kp0 rfl rfl ?_; clear hS; intro a hS
  refine r_call (l := [.tmp 28, .tmp 29]) hS rfl rfl Fc.fn58 rfl ?_
  refine Calls.mono (cmp_c x y k hy hk _) ?_
  rintro e w1 ⟨rfl, hE⟩
  replace hH := hH.ext hE
  refine ⟨_, rfl, hH.kp0, ?_⟩
  clear hS; intro a hS
  refine r_lss hS hH.kp0 rfl rfl rfl ?_; clear hS; intro a hS
  refine Sq.nil ?_
  refine then_n ?_
  refine c_condF hS rfl (DF (by omega)) ?_
  refine reg_plain w0 (Nobody) ?_
  refine r_move hS hH.kp0 rfl rfl ?_; clear hS; intro a hS
  refine r_assign hS hH.kp0 rfl rfl ?_; clear hS; intro a hS
  refine Sq.nil ?_
  refine blk_n ?_
  refine then_n ?_
  refine rnd ?_
  refine c_seq ?_
  refine c_seq ?_
  refine reg_plain w0 (Nobody) ?_
  refine r_move hS hH.kp0 rfl rfl ?_; clear hS; intro a hS
  refine r_move hS hH.kp0 rfl rfl ?_; clear hS; intro a hS
  refine r_lss hS hH.kp0 rfl rfl rfl ?_; clear hS; intro a hS
  refine Sq.nil ?_
  refine then_n ?_
  refine c_condF hS rfl rfl ?_
  refine wp_exit ?_
  refine then_e ?_
  refine then_e ?_
  refine blk_hit ?_
  refine then_n ?_
  refine c_seq ?_
  refine reg_plain w0 (Nobody) ?_
  refine r_move hS hH.kp0 rfl rfl ?_; clear hS; intro a hS
  refine r_move hS hH.kp0 rfl rfl ?_; clear hS; intro a hS
  refine r_move hS hH.kp0 rfl rfl ?_; clear hS; intro a hS
  refine r_lss hS hH.kp0 rfl rfl rfl ?_; clear hS; intro a hS
  refine r_move hS hH.kp0 rfl rfl ?_; clear hS; intro a hS
  refine Sq.guardYes hS rfl rfl rfl ?_
  refine r_move hS hH.kp0 rfl rfl ?_; clear hS; intro a hS
  refine Sq.guardYes hS rfl rfl rfl ?_
  refine r_move hS hH.kp0 rfl rfl ?_; clear hS; intro a hS
  refine Sq.guardYes hS rfl rfl rfl ?_
  refine r_move hS hH.kp0 rfl rfl ?_; clear hS; intro a hS
  refine Sq.guardYes hS rfl rfl rfl ?_
  refine r_indexAddrS (j := 0) hS hH.kp0 rfl rfl Fc.slb87 rfl (by decide) rfl ?_; clear hS; intro a hS
  refine Sq.guardYes hS rfl rfl rfl ?_
  refine r_load_ag hS hH (by repeat (first | exact Sub.nil | refine Sub.cons ?_ ?_ | exact In.here | refine In.there ?_)) rfl (by repeat (first | exact In.here | refine In.there ?_)) Fc.ag94 (by omega) rfl ?_; clear hS; intro a hS
  rw [show rd l (0 + 0 * 2) 2 = [.int .i64 (x : Int), .int .i64 (y : Int)] from ht] at hS
  refine Sq.guardYes hS rfl rfl rfl ?_
  refine r_move hS hH.kp0 rfl rfl ?_; clear hS; intro a hS
  refine Sq.guardYes hS rfl rfl rfl ?_
  refine r_call (l := [.tmp 44, .tmp 45]) hS rfl rfl Fc.fn58 rfl ?_
  refine Calls.mono (cmp_c x y k hy hk _) ?_
  rintro e w1 ⟨rfl, hE⟩
  replace hH := hH.ext hE
  refine ⟨_, rfl, hH.kp0, ?_⟩
  clear hS; intro a hS
  refine Sq.guardYes hS rfl rfl rfl ?_
  refine r_eql hS hH.kp0 rfl rfl rfl ?_; clear hS; intro a hS
  refine r_pickT hS hH.kp0 rfl rfl rfl rfl ?_; clear hS; intro a hS
  refine r_assign hS hH.kp0 rfl rfl ?_; clear hS; intro a hS
  refine r_assign hS hH.kp0 rfl rfl ?_; clear hS; intro a hS
  refine Sq.nil ?_
  refine then_n ?_
  refine wp_ret ?_
  exact leave (.inl rfl) hS rfl (Res.tmp rfl (Res.tmp rfl Res.nil)) ⟨⟨_, rfl⟩, hH.mod⟩

set_option maxRecDepth 100000 in
set_option maxHeartbeats 400000 in
theorem snv_c (gb : Nat) (v : Value) (w0 : World) (hg : w0.heap[gb]? = some (.cells ([.bool true, v] : List Value).toArray 89 (0, 0))) : Calls Try.prog 53 #[.pointer (some ⟨gb, 0, none⟩)] w0 fun e w' => e = .returned (.bool false) ∧ Ext w0 w' := by
  refine enter Try.func53 rfl rfl rfl ?_
  intro a hS
  have hH := Hp.start w0 (Nobody)
  replace hH := hH.know hg (by intro p hp; simp at hp)
  refine c_seq ?_
  refine reg_plain w0 (Nobody) ?_
  refine r_assign hS hH.kp0 rfl rfl ?_; clear hS; intro a hS
  refine Sq.nil ?_
  refine then_n ?_
  refine c_seq ?_
  refine reg_plain w0 (Nobody) ?_
  refine r_move hS hH.kp0 rfl rfl ?_; clear hS; intro a hS
  refine r_ptrNil hS hH.kp0 rfl Fc.isPtr67 rfl ?_; clear hS; intro a hS
  refine r_move hS hH.kp0 rfl rfl ?_; clear hS; intro a hS
  refine Sq.guardYes hS rfl rfl rfl ?_
  refine r_move hS hH.kp0 rfl rfl ?_; clear hS; intro a hS
  refine Sq.guardYes hS rfl rfl rfl ?_
  refine r_nilCheck hS hH.kp0 rfl rfl ?_; clear hS; intro a hS
  refine Sq.guardYes hS rfl rfl rfl ?_
  refine r_fieldAddr hS hH.kp0 rfl Fc.fo89_0 rfl ?_; clear hS; intro a hS
  refine Sq.guardYes hS rfl rfl rfl ?_
  refine r_load_sc hS hH (by repeat (first | exact Sub.nil | refine Sub.cons ?_ ?_ | exact In.here | refine In.there ?_)) rfl (by repeat (first | exact In.here | refine In.there ?_)) Fc.sc4 (by rfl) rfl ?_; clear hS; intro a hS
  refine Sq.guardYes hS rfl rfl rfl ?_
  refine r_not hS hH.kp0 rfl rfl ?_; clear hS; intro a hS
  refine r_pickF hS hH.kp0 rfl rfl rfl rfl ?_; clear hS; intro a hS
  refine r_assign hS hH.kp0 rfl rfl ?_; clear hS; intro a hS
  refine Sq.nil ?_
  refine then_n ?_
  refine wp_ret ?_
  exact leave (.inl rfl) hS rfl (Res.tmp rfl Res.nil) ⟨rfl, hH.mod⟩

set_option maxRecDepth 100000 in
set_option maxHeartbeats 400000 in
theorem swv_c (gb x y : Nat) (v : Value) (hxy : x ≤ y) (hy : y ≤ 1099511627776) (w0 : World) (hg : w0.heap[gb]? = some (.cells ([.bool true, v] : List Value).toArray 89 (0, 0))) : Calls Try.prog 49 #[.pointer (some ⟨gb, 0, none⟩), .int .i64 (x : Int), .int .i64 (y : Int)] w0 fun e w' => e = .returned (.int .i64 0) ∧ Ext w0 w' := by
  refine enter Try.func49 rfl rfl rfl ?_
  intro a hS
  have hH := Hp.start w0 (Nobody)
  replace hH := hH.know hg (by intro p hp; simp at hp)
  refine c_seq ?_
  refine reg_plain w0 (Nobody) ?_
  refine r_assign hS hH.kp0 rfl rfl ?_; clear hS; intro a hS
  refine Sq.nil ?_
  refine then_n ?_
  refine c_seq ?_
  refine wp_block ?_
  refine c_seq ?_
  refine reg_plain w0 (Nobody) ?_
  refine r_move hS hH.kp0 rfl rfl ?_; clear hS; intro a hS
  refine r_call (l := [.tmp 8]) hS rfl rfl Fc.fn53 rfl ?_
  refine Calls.mono (snv_c gb v _ (hH.get (b := gb) (by repeat (first | exact In.here | refine In.there ?_)))) ?_
  rintro e w1 ⟨rfl, hE⟩
  replace hH := hH.ext hE
  refine ⟨_, rfl, hH.kp0, ?_⟩
  clear hS; intro a hS
  refine r_assign hS hH.kp0 rfl rfl ?_; clear hS; intro a hS
  refine Sq.nil ?_
  refine then_n ?_
  refine c_condF hS rfl rfl ?_
  refine c_seq ?_
  refine reg_plain w0 (Nobody) ?_
  refine r_move hS hH.kp0 rfl rfl ?_; clear hS; intro a hS
  refine r_lss hS hH.kp0 rfl rfl rfl ?_; clear hS; intro a hS
  refine r_move hS hH.kp0 rfl rfl ?_; clear hS; intro a hS
  refine Sq.guardYes hS rfl rfl (DF (by omega)) ?_
  refine r_move hS hH.kp0 rfl rfl ?_; clear hS; intro a hS
  refine Sq.guardYes hS rfl rfl (DF (by omega)) ?_
  refine r_gtr hS hH.kp0 rfl rfl rfl ?_; clear hS; intro a hS
  refine r_pickF hS hH.kp0 rfl (DF (by omega)) rfl rfl ?_; clear hS; intro a hS
  refine r_move hS hH.kp0 rfl rfl ?_; clear hS; intro a hS
  refine Sq.guardYes hS rfl rfl (DF (by omega)) ?_
  refine r_move hS hH.kp0 rfl rfl ?_; clear hS; intro a hS
  refine Sq.guardYes hS rfl rfl (DF (by omega)) ?_
  refine r_move hS hH.kp0 rfl rfl ?_; clear hS; intro a hS
  refine Sq.guardYes hS rfl rfl (DF (by omega)) ?_
  refine r_gtr hS hH.kp0 rfl rfl rfl ?_; clear hS; intro a hS
  refine r_pickF hS hH.kp0 rfl (DF (by omega)) rfl rfl ?_; clear hS; intro a hS
  refine r_assign hS hH.kp0 rfl rfl ?_; clear hS; intro a hS
  refine Sq.nil ?_
  refine then_n ?_
  refine c_condF hS rfl (DF (by omega)) ?_
  refine wp_skip ?_
  refine blk_n ?_
  refine then_n ?_
  refine c_seq ?_
  refine reg_plain w0 (Nobody) ?_
  refine r_assign hS hH.kp0 rfl rfl ?_; clear hS; intro a hS
  refine Sq.nil ?_
  refine then_n ?_
  refine wp_ret ?_
  exact leave (.inl rfl) hS rfl (Res.tmp rfl Res.nil) ⟨rfl, hH.mod⟩

set_option maxRecDepth 100000 in
set_option maxHeartbeats 400000 in
theorem from0 (gb cap : Nat) (q : Option Addr) (x : Value) (w0 : World) (hg : w0.heap[gb]? = some (.cells ([.bool true, .slice q 0 cap] : List Value).toArray 89 (0, 0))) : Calls Try.prog 50 #[.pointer (some ⟨gb, 0, none⟩), x] w0 fun e w' => e = .returned (.int .i64 0) ∧ Ext w0 w' := by
  refine enter Try.func50 rfl rfl rfl ?_
  intro a hS
  have hH := Hp.start w0 (Nobody)
  replace hH := hH.know hg (by intro p hp; simp at hp)
  refine c_seq ?_
  refine reg_plain w0 (Nobody) ?_
  refine r_assign hS hH.kp0 rfl rfl ?_; clear hS; intro a hS
  refine Sq.nil ?_
  refine then_n ?_
  refine c_seq ?_
  refine reg_plain w0 (Nobody) ?_
  refine r_move hS hH.kp0 rfl rfl ?_; clear hS; intro a hS
  refine r_nilCheck hS hH.kp0 rfl rfl ?_; clear hS; intro a hS
  refine r_fieldAddr hS hH.kp0 rfl Fc.fo89_1 rfl ?_; clear hS; intro a hS
  refine r_load_sc hS hH (by repeat (first | exact Sub.nil | refine Sub.cons ?_ ?_ | exact In.here | refine In.there ?_)) rfl (by repeat (first | exact In.here | refine In.there ?_)) Fc.sc87 (by rfl) rfl ?_; clear hS; intro a hS
  refine r_move hS hH.kp0 rfl rfl ?_; clear hS; intro a hS
  refine r_call (l := [.tmp 11, .tmp 12, .func 58]) hS rfl rfl Fc.fn57 rfl ?_
  refine Calls.mono (search0 q cap _ _ _) ?_
  rintro e w1 ⟨rfl, hE⟩
  replace hH := hH.ext hE
  refine ⟨_, rfl, hH.kp0, ?_⟩
  clear hS; intro a hS
  refine r_move hS hH.kp0 rfl rfl ?_; clear hS; intro a hS
  refine r_extract hS hH.kp0 rfl rfl rfl ?_; clear hS; intro a hS
  refine r_extract hS hH.kp0 rfl rfl rfl ?_; clear hS; intro a hS
  refine r_assign hS hH.kp0 rfl rfl ?_; clear hS; intro a hS
  refine r_assign hS hH.kp0 rfl rfl ?_; clear hS; intro a hS
  refine Sq.nil ?_
  refine then_n ?_
  refine c_seq ?_
  refine reg_plain w0 (Nobody) ?_
  refine r_move hS hH.kp0 rfl rfl ?_; clear hS; intro a hS
  refine r_assign hS hH.kp0 rfl rfl ?_; clear hS; intro a hS
  refine Sq.nil ?_
  refine then_n ?_
  refine wp_ret ?_
  exact leave (.inl rfl) hS rfl (Res.tmp rfl Res.nil) ⟨rfl, hH.mod⟩

set_option maxRecDepth 100000 in
set_option maxHeartbeats 400000 in
theorem from_lt (gb sb cap x y : Nat) (l : List Value) (hl : l.length = cap * 2) (hc : 1 ≤ cap) (ht : l.take 2 = [.int .i64 (x : Int), .int .i64 (y : Int)]) (hn3 : gb ≠ sb) (hxy : x ≤ y) (hy : y ≤ 1099511627776) (k : Int) (hk : -1 ≤ k ∧ k ≤ 1099511627776) (hyk : (y : Int) < k) (w0 : World) (hg : w0.heap[gb]? = some (.cells ([.bool true, .slice (some ⟨sb, 0, none⟩) 1 cap] : List Value).toArray 89 (0, 0))) (hs : w0.heap[sb]? = some (.cells l.toArray 94 (0, 0))) : Calls Try.prog 50 #[.pointer (some ⟨gb, 0, none⟩), .int .i64 k] w0 fun e w' => e = .returned (.int .i64 1) ∧ Ext w0 w' := by
  refine enter Try.func50 rfl rfl rfl ?_
  intro a hS
  have hH := Hp.start w0 (Nobody)
  replace hH := (hH.know hs (by intro p hp; simp at hp)).know hg (by intro p hp; simp at hp; subst hp; exact hn3.symm)
  obtain ⟨hl0, hl1⟩ := row2 ht
  refine c_seq ?_
  refine reg_plain w0 (Nobody) ?_
  refine r_assign hS hH.kp0 rfl rfl ?_; clear hS; intro a hS
  refine Sq.nil ?_
  refine then_n ?_
  refine c_seq ?_
  refine reg_plain w0 (Nobody) ?_
  refine r_move hS hH.kp0 rfl rfl ?_; clear hS; intro a hS
  refine r_nilCheck hS hH.kp0 rfl rfl ?_; clear hS; intro a hS
  refine r_fieldAddr hS hH.kp0 rfl Fc.fo89_1 rfl ?_; clear hS; intro a hS
  refine r_load_sc hS hH (by repeat (first | exact Sub.nil | refine Sub.cons ?_ ?_ | exact In.here | refine In.there ?_)) rfl (by repeat (first | exact In.here | refine In.there ?_)) Fc.sc87 (by rfl) rfl ?_; clear hS; intro a hS
  refine r_move hS hH.kp0 rfl rfl ?_; clear hS; intro a hS
  refine r_call (l := [.tmp 11, .tmp 12, .func 58]) hS rfl rfl Fc.fn57 rfl ?_
  refine Calls.mono (search_lt sb cap x y k l hl hc ht hy hk hyk _ (hH.get (b := sb) (by repeat (first | exact In.here | refine In.there ?_)))) ?_
  rintro e w1 ⟨rfl, hE⟩
  replace hH := hH.ext hE
  refine ⟨_, rfl, hH.kp0, ?_⟩
  clear hS; intro a hS
  refine r_move hS hH.kp0 rfl rfl ?_; clear hS; intro a hS
  refine r_extract hS hH.kp0 rfl rfl rfl ?_; clear hS; intro a hS
  refine r_extract hS hH.kp0 rfl rfl rfl ?_; clear hS; intro a hS
  refine r_assign hS hH.kp0 rfl rfl ?_; clear hS; intro a hS
  refine r_assign hS hH.kp0 rfl rfl ?_; clear hS; intro a hS
  refine Sq.nil ?_
  refine then_n ?_
  refine c_seq ?_
  refine reg_plain w0 (Nobody) ?_
  refine r_move hS hH.kp0 rfl rfl ?_; clear hS; intro a hS
  refine r_assign hS hH.kp0 rfl rfl ?_; clear hS; intro a hS
  refine Sq.nil ?_
  refine then_n ?_
  refine wp_ret ?_
  exact leave (.inl rfl) hS rfl (Res.tmp rfl Res.nil) ⟨rfl, hH.mod⟩

set_option maxRecDepth 100000 in
set_option maxHeartbeats 400000 in
theorem from_ge (gb sb cap x y : Nat) (l : List Value) (hl : l.length = cap * 2) (hc : 1 ≤ cap) (ht : l.take 2 = [.int .i64 (x : Int), .int .i64 (y : Int)]) (hn3 : gb ≠ sb) (hxy : x ≤ y) (hy : y ≤ 1099511627776) (k : Int) (hk : -1 ≤ k ∧ k ≤ 1099511627776) (hyk : k ≤ (y : Int)) (w0 : World) (hg : w0.heap[gb]? = some (.cells ([.bool true, .slice (some ⟨sb, 0, none⟩) 1 cap] : List Value).toArray 89 (0, 0))) (hs : w0.heap[sb]? = some (.cells l.toArray 94 (0, 0))) : Calls Try.prog 50 #[.pointer (some ⟨gb, 0, none⟩), .int .i64 k] w0 fun e w' => e = .returned (.int .i64 0) ∧ Ext w0 w' := by
  refine enter Try.func50 rfl rfl rfl ?_
  intro a hS
  have hH := Hp.start w0 (Nobody)
  replace hH := (hH.know hs (by intro p hp; simp at hp)).know hg (by intro p hp; simp at hp; subst hp; exact hn3.symm)
  obtain ⟨hl0, hl1⟩ := row2 ht
  refine c_seq ?_
  refine reg_plain w0 (Nobody) ?_
  refine r_assign hS hH.kp0 rfl rfl ?_; clear hS; intro a hS
  refine Sq.nil ?_
  refine then_n ?_
  refine c_seq ?_
  refine reg_plain w0 (Nobody) ?_
  refine r_move hS hH.kp0 rfl rfl ?_; clear hS; intro a hS
  refine r_nilCheck hS hH.kp0 rfl rfl ?_; clear hS; intro a hS
  refine r_fieldAddr hS hH.kp0 rfl Fc.fo89_1 rfl ?_; clear hS; intro a hS
  refine r_load_sc hS hH (by repeat (first | exact Sub.nil | refine Sub.cons ?_ ?_ | exact In.here | refine In.there ?_)) rfl (by repeat (first | exact In.here | refine In.there ?_)) Fc.sc87 (by rfl) rfl ?_; clear hS; intro a hS
  refine r_move hS hH.kp0 rfl rfl ?_; clear hS; intro a hS
  refine r_call (l := [.tmp 11, .tmp 12, .func 58]) hS rfl rfl Fc.fn57 rfl ?_
  refine Calls.mono (search_ge sb cap x y k l hl hc ht hy hk hyk _ (hH.get (b := sb) (by repeat (first | exact In.here | refine In.there ?_)))) ?_
  rintro e w1 ⟨⟨bb, rfl⟩, hE⟩
  replace hH := hH.ext hE
  refine ⟨_, rfl, hH.kp0, ?_⟩
  clear hS; intro a hS
  refine r_move hS hH.kp0 rfl rfl ?_; clear hS; intro a hS
  refine r_extract hS hH.kp0 rfl rfl rfl ?_; clear hS; intro a hS
  refine r_extract hS hH.kp0 rfl rfl rfl ?_; clear hS; intro a hS
  refine r_assign hS hH.kp0 rfl rfl ?_; clear hS; intro a hS
  refine r_assign hS hH.kp0 rfl rfl ?_; clear hS; intro a hS
  refine Sq.nil ?_
  refine then_n ?_
  refine c_seq ?_
  refine reg_plain w0 (Nobody) ?_
  refine r_move hS hH.kp0 rfl rfl ?_; clear hS; intro a hS
  refine r_assign hS hH.kp0 rfl rfl ?_; clear hS; intro a hS
  refine Sq.nil ?_
  refine then_n ?_
  refine wp_ret ?_
  exact leave (.inl rfl) hS rfl (Res.tmp rfl Res.nil) ⟨rfl, hH.mod⟩

set_option maxRecDepth 100000 in
set_option maxHeartbeats 400000 in
theorem gap0 (gb cap k : Nat) (q : Option Addr) (hk : k ≤ 1099511627776) (w0 : World) (hg : w0.heap[gb]? = some (.cells ([.bool true, .slice q 0 cap] : List Value).toArray 89 (0, 0))) : Calls Try.prog 37 #[.pointer (some ⟨gb, 0, none⟩), .int .i64 (k : Int)] w0 fun e w' => e = .returned (.int .i64 (k : Int)) ∧ Ext w0 w' := by
  refine enter Try.func37 rfl rfl rfl ?_
  intro a hS
  have hH := Hp.start w0 (Nobody)
  replace hH := hH.know hg (by intro p hp; simp at hp)
  refine c_seq ?_
  refine reg_plain w0 (Nobody) ?_
  refine r_assign hS hH.kp0 rfl rfl ?_; clear hS; intro a hS
  refine Sq.nil ?_
  refine then_n ?_
  refine c_seq ?_
  refine c_seq ?_
  refine reg_plain w0 (Nobody) ?_
  refine r_move hS hH.kp0 rfl rfl ?_; clear hS; intro a hS
  refine r_call (l := [.tmp 6]) hS rfl rfl Fc.fn53 rfl ?_
  refine Calls.mono (snv_c gb _ _ (hH.get (b := gb) (by repeat (first | exact In.here | refine In.there ?_)))) ?_
  rintro e w1 ⟨rfl, hE⟩
  replace hH := hH.ext hE
  refine ⟨_, rfl, hH.kp0, ?_⟩
  clear hS; intro a hS
  refine Sq.nil ?_
  refine then_n ?_
  refine c_condF hS rfl rfl ?_
  refine wp_skip ?_
  refine then_n ?_
  refine c_seq ?_
  refine reg_plain w0 (Nobody) ?_
  refine r_move hS hH.kp0 rfl rfl ?_; clear hS; intro a hS
  refine r_maxN (m := k) (k := 0) hS hH.kp0 rfl rfl rfl ?_; clear hS; intro a hS
  rw [show max k 0 = k from by omega] at hS
  refine r_assign hS hH.kp0 rfl rfl ?_; clear hS; intro a hS
  refine Sq.nil ?_
  refine then_n ?_
  refine c_seq ?_
  refine c_seq ?_
  refine reg_plain w0 (Nobody) ?_
  refine r_move hS hH.kp0 rfl rfl ?_; clear hS; intro a hS
  refine r_move hS hH.kp0 rfl rfl ?_; clear hS; intro a hS
  refine r_call (l := [.tmp 10, .tmp 11]) hS rfl rfl Fc.fn50 rfl ?_
  refine Calls.mono (from0 gb cap q _ _ (hH.get (b := gb) (by repeat (first | exact In.here | refine In.there ?_)))) ?_
  rintro e w1 ⟨rfl, hE⟩
  replace hH := hH.ext hE
  refine ⟨_, rfl, hH.kp0, ?_⟩
  clear hS; intro a hS
  refine r_assign hS hH.kp0 rfl rfl ?_; clear hS; intro a hS
  refine Sq.nil ?_
  refine then_n ?_
  refine c_seq ?_
  refine reg_plain w0 (Nobody) ?_
  refine r_move hS hH.kp0 rfl rfl ?_; clear hS; intro a hS
  refine r_move hS hH.kp0 rfl rfl ?_; clear hS; intro a hS
  refine r_nilCheck hS hH.kp0 rfl rfl ?_; clear hS; intro a hS
  refine r_fieldAddr hS hH.kp0 rfl Fc.fo89_1 rfl ?_; clear hS; intro a hS
  refine r_load_sc hS hH (by repeat (first | exact Sub.nil | refine Sub.cons ?_ ?_ | exact In.here | refine In.there ?_)) rfl (by repeat (first | exact In.here | refine In.there ?_)) Fc.sc87 (by rfl) rfl ?_; clear hS; intro a hS
  refine r_lenSl hS hH.kp0 rfl Fc.isSlice87 rfl ?_; clear hS; intro a hS
  refine r_lss hS hH.kp0 rfl rfl rfl ?_; clear hS; intro a hS
  refine r_move hS hH.kp0 rfl rfl ?_; clear hS; intro a hS
  refine Sq.guardNo hS rfl rfl rfl hH.kp0 rfl ?_; clear hS; intro a hS
  refine Sq.guardNo hS rfl rfl rfl hH.kp0 rfl ?_; clear hS; intro a hS
  refine Sq.guardNo hS rfl rfl rfl hH.kp0 rfl ?_; clear hS; intro a hS
  refine Sq.guardNo hS rfl rfl rfl hH.kp0 rfl ?_; clear hS; intro a hS
  refine Sq.guardNo hS rfl rfl rfl hH.kp0 rfl ?_; clear hS; intro a hS
  refine Sq.guardNo hS rfl rfl rfl hH.kp0 rfl ?_; clear hS; intro a hS
  refine Sq.guardNo hS rfl rfl rfl hH.kp0 rfl ?_; clear hS; intro a hS
  refine Sq.guardNo hS rfl rfl rfl hH.kp0 rfl ?_; clear hS; intro a hS
  refine Sq.guardNo hS rfl rfl rfl hH.kp0 rfl ?_; clear hS; intro a hS
  refine Sq.guardNo hS rfl rfl rfl hH.kp0 rfl ?_; clear hS; intro a hS
  refine r_pickF hS hH.kp0 rfl rfl rfl rfl ?_; clear hS; intro a hS
  refine Sq.nil ?_
  refine then_n ?_
  refine c_condF hS rfl rfl ?_
  refine wp_skip ?_
  refine then_n ?_
  refine c_seq ?_
  refine c_seq ?_
  refine reg_plain w0 (Nobody) ?_
  refine r_move hS hH.kp0 rfl rfl ?_; clear hS; intro a hS
  refine r_gtr hS hH.kp0 rfl rfl rfl ?_; clear hS; intro a hS
  refine Sq.nil ?_
  refine then_n ?_
  refine c_condF hS rfl (DF (by omega)) ?_
  refine wp_skip ?_
  refine then_n ?_
  refine c_seq ?_
  refine reg_plain w0 (Nobody) ?_
  refine r_move hS hH.kp0 rfl rfl ?_; clear hS; intro a hS
  refine r_assign hS hH.kp0 rfl rfl ?_; clear hS; intro a hS
  refine Sq.nil ?_
  refine then_n ?_
  refine wp_ret ?_
  exact leave (.inl rfl) hS rfl (Res.tmp rfl Res.nil) ⟨rfl, hH.mod⟩

set_option maxRecDepth 100000 in
set_option maxHeartbeats 400000 in
theorem gap_lt (gb sb cap x y : Nat) (l : List Value) (hl : l.length = cap * 2) (hc : 1 ≤ cap) (ht : l.take 2 = [.int .i64 (x : Int), .int .i64 (y : Int)]) (hn3 : gb ≠ sb) (hxy : x ≤ y) (hy : y ≤ 1099511627776) (k : Nat) (hk : k ≤ 1099511627776) (hyk : y < k) (w0 : World) (hg : w0.heap[gb]? = some (.cells ([.bool true, .slice (some ⟨sb, 0, none⟩) 1 cap] : List Value).toArray 89 (0, 0))) (hs : w0.heap[sb]? = some (.cells l.toArray 94 (0, 0))) : Calls Try.prog 37 #[.pointer (some ⟨gb, 0, none⟩), .int .i64 (k : Int)] w0 fun e w' => e = .returned (.int .i64 (k : Int)) ∧ Ext w0 w' := by
  refine enter Try.func37 rfl rfl rfl ?_
  intro a hS
  have hH := Hp.start w0 (Nobody)
  replace hH := (hH.know hs (by intro p hp; simp at hp)).know hg (by intro p hp; simp at hp; subst hp; exact hn3.symm)
  obtain ⟨hl0, hl1⟩ := row2 ht
  refine c_seq ?_
  refine reg_plain w0 (Nobody) ?_
  refine r_assign hS hH.kp0 rfl rfl ?_; clear hS; intro a hS
  refine Sq.nil ?_
  refine then_n ?_
  refine c_seq ?_
  refine c_seq ?_
  refine reg_plain w0 (Nobody) ?_
  refine r_move hS hH.kp0 rfl rfl ?_; clear hS; intro a hS
  refine r_call (l := [.tmp 6]) hS rfl rfl Fc.fn53 rfl ?_
  refine Calls.mono (snv_c gb _ _ (hH.get (b := gb) (by repeat (first | exact In.here | refine In.there ?_)))) ?_
  rintro e w1 ⟨rfl, hE⟩
  replace hH := hH.ext hE
  refine ⟨_, rfl, hH.kp0, ?_⟩
  clear hS; intro a hS
  refine Sq.nil ?_
  refine then_n ?_
  refine c_condF hS rfl rfl ?_
  refine wp_skip ?_
  refine then_n ?_
  refine c_seq ?_
  refine reg_plain w0 (Nobody) ?_
  refine r_move hS hH.kp0 rfl rfl ?_; clear hS; intro a hS
  refine r_maxN (m := k) (k := 0) hS hH.kp0 rfl rfl rfl ?_; clear hS; intro a hS
  rw [show max k 0 = k from by omega] at hS
  refine r_assign hS hH.kp0 rfl rfl ?_; clear hS; intro a hS
  refine Sq.nil ?_
  refine then_n ?_
  refine c_seq ?_
  refine c_seq ?_
  refine reg_plain w0 (Nobody) ?_
  refine r_move hS hH.kp0 rfl rfl ?_; clear hS; intro a hS
  refine r_move hS hH.kp0 rfl rfl ?_; clear hS; intro a hS
  refine r_call (l := [.tmp 10, .tmp 11]) hS rfl rfl Fc.fn50 rfl ?_
  refine Calls.mono (from_lt gb sb cap x y l hl hc ht hn3 hxy hy (k : Int) (by omega) (by omega) _ (hH.get (b := gb) (by repeat (first | exact In.here | refine In.there ?_))) (hH.get (b := sb) (by repeat (first | exact In.here | refine In.there ?_)))) ?_
  rintro e w1 ⟨rfl, hE⟩
  replace hH := hH.ext hE
  refine ⟨_, rfl, hH.kp0, ?_⟩
  clear hS; intro a hS
  refine r_assign hS hH.kp0 rfl rfl ?_; clear hS; intro a hS
  refine Sq.nil ?_
  refine then_n ?_
  refine c_seq ?_
  refine reg_plain w0 (Nobody) ?_
  refine r_move hS hH.kp0 rfl rfl ?_; clear hS; intro a hS
  refine r_move hS hH.kp0 rfl rfl ?_; clear hS; intro a hS
  refine r_nilCheck hS hH.kp0 rfl rfl ?_; clear hS; intro a hS
  refine r_fieldAddr hS hH.kp0 rfl Fc.fo89_1 rfl ?_; clear hS; intro a hS
  refine r_load_sc hS hH (by repeat (first | exact Sub.nil | refine Sub.cons ?_ ?_ | exact In.here | refine In.there ?_)) rfl (by repeat (first | exact In.here | refine In.there ?_)) Fc.sc87 (by rfl) rfl ?_; clear hS; intro a hS
  refine r_lenSl hS hH.kp0 rfl Fc.isSlice87 rfl ?_; clear hS; intro a hS
  refine r_lss hS hH.kp0 rfl rfl rfl ?_; clear hS; intro a hS
  refine r_move hS hH.kp0 rfl rfl ?_; clear hS; intro a hS
  refine Sq.guardNo hS rfl rfl rfl hH.kp0 rfl ?_; clear hS; intro a hS
  refine Sq.guardNo hS rfl rfl rfl hH.kp0 rfl ?_; clear hS; intro a hS
  refine Sq.guardNo hS rfl rfl rfl hH.kp0 rfl ?_; clear hS; intro a hS
  refine Sq.guardNo hS rfl rfl rfl hH.kp0 rfl ?_; clear hS; intro a hS
  refine Sq.guardNo hS rfl rfl rfl hH.kp0 rfl ?_; clear hS; intro a hS
  refine Sq.guardNo hS rfl rfl rfl hH.kp0 rfl ?_; clear hS; intro a hS
  refine Sq.guardNo hS rfl rfl rfl hH.kp0 rfl ?_; clear hS; intro a hS
  refine Sq.guardNo hS rfl rfl rfl hH.kp0 rfl ?_; clear hS; intro a hS
  refine Sq.guardNo hS rfl rfl rfl hH.kp0 rfl ?_; clear hS; intro a hS
  refine Sq.guardNo hS rfl rfl rfl hH.kp0 rfl ?_; clear hS; intro a hS
  refine r_pickF hS hH.kp0 rfl rfl rfl rfl ?_; clear hS; intro a hS
  refine Sq.nil ?_
  refine then_n ?_
  refine c_condF hS rfl rfl ?_
  refine wp_skip ?_
  refine then_n ?_
  refine c_seq ?_
  refine c_seq ?_
  refine reg_plain w0 (Nobody) ?_
  refine r_move hS hH.kp0 rfl rfl ?_; clear hS; intro a hS
  refine r_gtr hS hH.kp0 rfl rfl rfl ?_; clear hS; intro a hS
  refine Sq.nil ?_
  refine then_n ?_
  refine c_condF hS rfl (DF (by omega)) ?_
  refine wp_skip ?_
  refine then_n ?_
  refine c_seq ?_
  refine reg_plain w0 (Nobody) ?_
  refine r_move hS hH.kp0 rfl rfl ?_; clear hS; intro a hS
  refine r_assign hS hH.kp0 rfl rfl ?_; clear hS; intro a hS
  refine Sq.nil ?_
  refine then_n ?_
  refine wp_ret ?_
  exact leave (.inl rfl) hS rfl (Res.tmp rfl Res.nil) ⟨rfl, hH.mod⟩

set_option maxRecDepth 100000 in
set_option maxHeartbeats 400000 in
theorem gap_in (gb sb cap x y : Nat) (l : List Value) (hl : l.length = cap * 2) (hc : 1 ≤ cap) (ht : l.take 2 = [.int .i64 (x : Int), .int .i64 (y : Int)]) (hn3 : gb ≠ sb) (hxy : x ≤ y) (hy : y ≤ 1099511627776) (k : Nat) (hk : k ≤ 1099511627776) (hyk : k ≤ y) (hxk : x ≤ k) (w0 : World) (hg : w0.heap[gb]? = some (.cells ([.bool true, .slice (some ⟨sb, 0, none⟩) 1 cap] : List Value).toArray 89 (0, 0))) (hs : w0.heap[sb]? = some (.cells l.toArray 94 (0, 0))) : Calls Try.prog 37 #[.pointer (some ⟨gb, 0, none⟩), .int .i64 (k : Int)] w0 fun e w' => e = .returned (.int .i64 ((y + 1 : Nat) : Int)) ∧ Ext w0 w' := by
  refine enter Try.func37 rfl rfl rfl ?_
  intro a hS
  have hH := Hp.start w0 (Nobody)
  replace hH := (hH.know hs (by intro p hp; simp at hp)).know hg (by intro p hp; simp at hp; subst hp; exact hn3.symm)
  obtain ⟨hl0, hl1⟩ := row2 ht
  refine c_seq ?_
  refine reg_plain w0 (Nobody) ?_
  refine r_assign hS hH.kp0 rfl rfl ?_; clear hS; intro a hS
  refine Sq.nil ?_
  refine then_n ?_
  refine c_seq ?_
  refine c_seq ?_
  refine reg_plain w0 (Nobody) ?_
  refine r_move hS hH.kp0 rfl rfl ?_; clear hS; intro a hS
  refine r_call (l := [.tmp 6]) hS rfl rfl Fc.fn53 rfl ?_
  refine Calls.mono (snv_c gb _ _ (hH.get (b := gb) (by repeat (first | exact In.here | refine In.there ?_)))) ?_
  rintro e w1 ⟨rfl, hE⟩
  replace hH := hH.ext hE
  refine ⟨_, rfl, hH.kp0, ?_⟩
  clear hS; intro a hS
  refine Sq.nil ?_
  refine then_n ?_
  refine c_condF hS rfl rfl ?_
  refine wp_skip ?_
  refine then_n ?_
  refine c_seq ?_
  refine reg_plain w0 (Nobody) ?_
  refine r_move hS hH.kp0 rfl rfl ?_; clear hS; intro a hS
  refine r_maxN (m := k) (k := 0) hS hH.kp0 rfl rfl rfl ?_; clear hS; intro a hS
  rw [show max k 0 = k from by omega] at hS
  refine r_assign hS hH.kp0 rfl rfl ?_; clear hS; intro a hS
  refine Sq.nil ?_
  refine then_n ?_
  refine c_seq ?_
  refine c_seq ?_
  refine reg_plain w0 (Nobody) ?_
  refine r_move hS hH.kp0 rfl rfl ?_; clear hS; intro a hS
  refine r_move hS hH.kp0 rfl rfl ?_; clear hS; intro a hS
  refine r_call (l := [.tmp 10, .tmp 11]) hS rfl rfl Fc.fn50 rfl ?_
  refine Calls.mono (from_ge gb sb cap x y l hl hc ht hn3 hxy hy (k : Int) (by omega) (by omega) _ (hH.get (b := gb) (by repeat (first | exact In.here | refine In.there ?_))) (hH.get (b := sb) (by repeat (first | exact In.here | refine In.there ?_)))) ?_
  rintro e w1 ⟨rfl, hE⟩
  replace hH := hH.ext hE
  refine ⟨_, rfl, hH.kp0, ?_⟩
  clear hS; intro a hS
  refine r_assign hS hH.kp0 rfl rfl ?_; clear hS; intro a hS
  refine Sq.nil ?_
  refine then_n ?_
  refine c_seq ?_
  refine reg_plain w0 (Nobody) ?_
  refine r_move hS hH.kp0 rfl rfl ?_; clear hS; intro a hS
  refine r_move hS hH.kp0 rfl rfl ?_; clear hS; intro a hS
  refine r_nilCheck hS hH.kp0 rfl rfl ?_; clear hS; intro a hS
  refine r_fieldAddr hS hH.kp0 rfl Fc.fo89_1 rfl ?_; clear hS; intro a hS
  refine r_load_sc hS hH (by repeat (first | exact Sub.nil | refine Sub.cons ?_ ?_ | exact In.here | refine In.there ?_)) rfl (by repeat (first | exact In.here | refine In.there ?_)) Fc.sc87 (by rfl) rfl ?_; clear hS; intro a hS
  refine r_lenSl hS hH.kp0 rfl Fc.isSlice87 rfl ?_; clear hS; intro a hS
  refine r_lss hS hH.kp0 rfl rfl rfl ?_; clear hS; intro a hS
  refine r_move hS hH.kp0 rfl rfl ?_; clear hS; intro a hS
  refine Sq.guardYes hS rfl rfl rfl ?_
  refine r_move hS hH.kp0 rfl rfl ?_; clear hS; intro a hS
  refine Sq.guardYes hS rfl rfl rfl ?_
  refine r_nilCheck hS hH.kp0 rfl rfl ?_; clear hS; intro a hS
  refine Sq.guardYes hS rfl rfl rfl ?_
  refine r_fieldAddr hS hH.kp0 rfl Fc.fo89_1 rfl ?_; clear hS; intro a hS
  refine Sq.guardYes hS rfl rfl rfl ?_
  refine r_load_sc hS hH (by repeat (first | exact Sub.nil | refine Sub.cons ?_ ?_ | exact In.here | refine In.there ?_)) rfl (by repeat (first | exact In.here | refine In.there ?_)) Fc.sc87 (by rfl) rfl ?_; clear hS; intro a hS
  refine Sq.guardYes hS rfl rfl rfl ?_
  refine r_move hS hH.kp0 rfl rfl ?_; clear hS; intro a hS
  refine Sq.guardYes hS rfl rfl rfl ?_
  refine r_indexAddrS (j := 0) hS hH.kp0 rfl rfl Fc.slb87 rfl (by decide) rfl ?_; clear hS; intro a hS
  refine Sq.guardYes hS rfl rfl rfl ?_
  refine r_fieldAddr hS hH.kp0 rfl Fc.fo94_0 rfl ?_; clear hS; intro a hS
  refine Sq.guardYes hS rfl rfl rfl ?_
  refine r_load_sc hS hH (by repeat (first | exact Sub.nil | refine Sub.cons ?_ ?_ | exact In.here | refine In.there ?_)) rfl (by repeat (first | exact In.here | refine In.there ?_)) Fc.sc3 (v := .int .i64 (x : Int)) hl0 rfl ?_; clear hS; intro a hS
  refine Sq.guardYes hS rfl rfl rfl ?_
  refine r_move hS hH.kp0 rfl rfl ?_; clear hS; intro a hS
  refine Sq.guardYes hS rfl rfl rfl ?_
  refine r_leq hS hH.kp0 rfl rfl rfl ?_; clear hS; intro a hS
  refine r_pickT hS hH.kp0 rfl rfl rfl rfl ?_; clear hS; intro a hS
  refine Sq.nil ?_
  refine then_n ?_
  refine c_condT hS rfl (DT (by omega)) ?_
  refine reg_plain w0 (Nobody) ?_
  refine r_move hS hH.kp0 rfl rfl ?_; clear hS; intro a hS
  refine r_nilCheck hS hH.kp0 rfl rfl ?_; clear hS; intro a hS
  refine r_fieldAddr hS hH.kp0 rfl Fc.fo89_1 rfl ?_; clear hS; intro a hS
  refine r_load_sc hS hH (by repeat (first | exact Sub.nil | refine Sub.cons ?_ ?_ | exact In.here | refine In.there ?_)) rfl (by repeat (first | exact In.here | refine In.there ?_)) Fc.sc87 (by rfl) rfl ?_; clear hS; intro a hS
  refine r_move hS hH.kp0 rfl rfl ?_; clear hS; intro a hS
  refine r_indexAddrS (j := 0) hS hH.kp0 rfl rfl Fc.slb87 rfl (by decide) rfl ?_; clear hS; intro a hS
  refine r_fieldAddr hS hH.kp0 rfl Fc.fo94_1 rfl ?_; clear hS; intro a hS
  refine r_load_sc hS hH (by repeat (first | exact Sub.nil | refine Sub.cons ?_ ?_ | exact In.here | refine In.there ?_)) rfl (by repeat (first | exact In.here | refine In.there ?_)) Fc.sc3 (v := .int .i64 (y : Int)) hl1 rfl ?_; clear hS; intro a hS
  refine r_addN0 (m := y) (k := 1) hS hH.kp0 rfl rfl (by omega) rfl ?_; clear hS; intro a hS
  refine r_assign hS hH.kp0 rfl rfl ?_; clear hS; intro a hS
  refine Sq.nil ?_
  refine then_n ?_
  refine c_seq ?_
  refine c_seq ?_
  refine reg_plain w0 (Nobody) ?_
  refine r_move hS hH.kp0 rfl rfl ?_; clear hS; intro a hS
  refine r_gtr hS hH.kp0 rfl rfl rfl ?_; clear hS; intro a hS
  refine Sq.nil ?_
  refine then_n ?_
  refine c_condF hS rfl (DF (by omega)) ?_
  refine wp_skip ?_
  refine then_n ?_
  refine c_seq ?_
  refine reg_plain w0 (Nobody) ?_
  refine r_move hS hH.kp0 rfl rfl ?_; clear hS; intro a hS
  refine r_assign hS hH.kp0 rfl rfl ?_; clear hS; intro a hS
  refine Sq.nil ?_
  refine then_n ?_
  refine wp_ret ?_
  exact leave (.inl rfl) hS rfl (Res.tmp rfl Res.nil) ⟨rfl, hH.mod⟩

set_option maxRecDepth 100000 in
set_option maxHeartbeats 400000 in
theorem has0 (gb cap k : Nat) (q : Option Addr) (hk : k ≤ 1099511627776) (w0 : World) (hg : w0.heap[gb]? = some (.cells ([.bool true, .slice q 0 cap] : List Value).toArray 89 (0, 0))) : Calls Try.prog 39 #[.pointer (some ⟨gb, 0, none⟩), .int .i64 (k : Int)] w0 fun e w' => e = .returned (.bool false) ∧ Ext w0 w' := by
  refine enter Try.func39 rfl rfl rfl ?_
  intro a hS
  have hH := Hp.start w0 (Nobody)
  replace hH := hH.know hg (by intro p hp; simp at hp)
  refine c_seq ?_
  refine reg_plain w0 (Nobody) ?_
  refine r_assign hS hH.kp0 rfl rfl ?_; clear hS; intro a hS
  refine Sq.nil ?_
  refine then_n ?_
  refine c_seq ?_
  refine c_seq ?_
  refine reg_plain w0 (Nobody) ?_
  refine r_move hS hH.kp0 rfl rfl ?_; clear hS; intro a hS
  refine r_call (l := [.tmp 6]) hS rfl rfl Fc.fn53 rfl ?_
  refine Calls.mono (snv_c gb _ _ (hH.get (b := gb) (by repeat (first | exact In.here | refine In.there ?_)))) ?_
  rintro e w1 ⟨rfl, hE⟩
  replace hH := hH.ext hE
  refine ⟨_, rfl, hH.kp0, ?_⟩
  clear hS; intro a hS
  refine r_move hS hH.kp0 rfl rfl ?_; clear hS; intro a hS
  refine Sq.guardYes hS rfl rfl rfl ?_
  refine r_move hS hH.kp0 rfl rfl ?_; clear hS; intro a hS
  refine Sq.guardYes hS rfl rfl rfl ?_
  refine r_lss hS hH.kp0 rfl rfl rfl ?_; clear hS; intro a hS
  refine r_pickF hS hH.kp0 rfl rfl rfl rfl ?_; clear hS; intro a hS
  refine Sq.nil ?_
  refine then_n ?_
  refine c_condF hS rfl (DF (by omega)) ?_
  refine wp_skip ?_
  refine then_n ?_
  refine c_seq ?_
  refine reg_plain w0 (Nobody) ?_
  refine r_move hS hH.kp0 rfl rfl ?_; clear hS; intro a hS
  refine r_move hS hH.kp0 rfl rfl ?_; clear hS; intro a hS
  refine r_call (l := [.tmp 12, .tmp 13]) hS rfl rfl Fc.fn50 rfl ?_
  refine Calls.mono (from0 gb cap q _ _ (hH.get (b := gb) (by repeat (first | exact In.here | refine In.there ?_)))) ?_
  rintro e w1 ⟨rfl, hE⟩
  replace hH := hH.ext hE
  refine ⟨_, rfl, hH.kp0, ?_⟩
  clear hS; intro a hS
  refine r_assign hS hH.kp0 rfl rfl ?_; clear hS; intro a hS
  refine Sq.nil ?_
  refine then_n ?_
  refine c_seq ?_
  refine reg_plain w0 (Nobody) ?_
  refine r_move hS hH.kp0 rfl rfl ?_; clear hS; intro a hS
  refine r_move hS hH.kp0 rfl rfl ?_; clear hS; intro a hS
  refine r_nilCheck hS hH.kp0 rfl rfl ?_; clear hS; intro a hS
  refine r_fieldAddr hS hH.kp0 rfl Fc.fo89_1 rfl ?_; clear hS; intro a hS
  refine r_load_sc hS hH (by repeat (first | exact Sub.nil | refine Sub.cons ?_ ?_ | exact In.here | refine In.there ?_)) rfl (by repeat (first | exact In.here | refine In.there ?_)) Fc.sc87 (by rfl) rfl ?_; clear hS; intro a hS
  refine r_lenSl hS hH.kp0 rfl Fc.isSlice87 rfl ?_; clear hS; intro a hS
  refine r_lss hS hH.kp0 rfl rfl rfl ?_; clear hS; intro a hS
  refine r_move hS hH.kp0 rfl rfl ?_; clear hS; intro a hS
  refine Sq.guardNo hS rfl rfl rfl hH.kp0 rfl ?_; clear hS; intro a hS
  refine Sq.guardNo hS rfl rfl rfl hH.kp0 rfl ?_; clear hS; intro a hS
  refine Sq.guardNo hS rfl rfl rfl hH.kp0 rfl ?_; clear hS; intro a hS
  refine Sq.guardNo hS rfl rfl rfl hH.kp0 rfl ?_; clear hS; intro a hS
  refine Sq.guardNo hS rfl rfl rfl hH.kp0 rfl ?_; clear hS; intro a hS
  refine Sq.guardNo hS rfl rfl rfl hH.kp0 rfl ?_; clear hS; intro a hS
  refine Sq.guardNo hS rfl rfl rfl hH.kp0 rfl ?_; clear hS; intro a hS
  refine Sq.guardNo hS rfl rfl rfl hH.kp0 rfl ?_; clear hS; intro a hS
  refine Sq.guardNo hS rfl rfl rfl hH.kp0 rfl ?_; clear hS; intro a hS
  refine Sq.guardNo hS rfl rfl rfl hH.kp0 rfl ?_; clear hS; intro a hS
  refine r_pickF hS hH.kp0 rfl rfl rfl rfl ?_; clear hS; intro a hS
  refine r_assign hS hH.kp0 rfl rfl ?_; clear hS; intro a hS
  refine Sq.nil ?_
  refine then_n ?_
  refine wp_ret ?_
  exact leave (.inl rfl) hS rfl (Res.tmp rfl Res.nil) ⟨rfl, hH.mod⟩

set_option maxRecDepth 100000 in
set_option maxHeartbeats 400000 in
theorem has_lt (gb sb cap x y : Nat) (l : List Value) (hl : l.length = cap * 2) (hc : 1 ≤ cap) (ht : l.take 2 = [.int .i64 (x : Int), .int .i64 (y : Int)]) (hn3 : gb ≠ sb) (hxy : x ≤ y) (hy : y ≤ 1099511627776) (k : Nat) (hk : k ≤ 1099511627776) (hyk : y < k) (w0 : World) (hg : w0.heap[gb]? = some (.cells ([.bool true, .slice (some ⟨sb, 0, none⟩) 1 cap] : List Value).toArray 89 (0, 0))) (hs : w0.heap[sb]? = some (.cells l.toArray 94 (0, 0))) : Calls Try.prog 39 #[.pointer (some ⟨gb, 0, none⟩), .int .i64 (k : Int)] w0 fun e w' => e = .returned (.bool false) ∧ Ext w0 w' := by
  refine enter Try.func39 rfl rfl rfl ?_
  intro a hS
  have hH := Hp.start w0 (Nobody)
  replace hH := (hH.know hs (by intro p hp; simp at hp)).know hg (by intro p hp; simp at hp; subst hp; exact hn3.symm)
  obtain ⟨hl0, hl1⟩ := row2 ht
  refine c_seq ?_
  refine reg_plain w0 (Nobody) ?_
  refine r_assign hS hH.kp0 rfl rfl ?_; clear hS; intro a hS
  refine Sq.nil ?_
  refine then_n ?_
  refine c_seq ?_
  refine c_seq ?_
  refine reg_plain w0 (Nobody) ?_
  refine r_move hS hH.kp0 rfl rfl ?_; clear hS; intro a hS
  refine r_call (l := [.tmp 6]) hS rfl rfl Fc.fn53 rfl ?_
  refine Calls.mono (snv_c gb _ _ (hH.get (b := gb) (by repeat (first | exact In.here | refine In.there ?_)))) ?_
  rintro e w1 ⟨rfl, hE⟩
  replace hH := hH.ext hE
  refine ⟨_, rfl, hH.kp0, ?_⟩
  clear hS; intro a hS
  refine r_move hS hH.kp0 rfl rfl ?_; clear hS; intro a hS
  refine Sq.guardYes hS rfl rfl rfl ?_
  refine r_move hS hH.kp0 rfl rfl ?_; clear hS; intro a hS
  refine Sq.guardYes hS rfl rfl rfl ?_
  refine r_lss hS hH.kp0 rfl rfl rfl ?_; clear hS; intro a hS
  refine r_pickF hS hH.kp0 rfl rfl rfl rfl ?_; clear hS; intro a hS
  refine Sq.nil ?_
  refine then_n ?_
  refine c_condF hS rfl (DF (by omega)) ?_
  refine wp_skip ?_
  refine then_n ?_
  refine c_seq ?_
  refine reg_plain w0 (Nobody) ?_
  refine r_move hS hH.kp0 rfl rfl ?_; clear hS; intro a hS
  refine r_move hS hH.kp0 rfl rfl ?_; clear hS; intro a hS
  refine r_call (l := [.tmp 12, .tmp 13]) hS rfl rfl Fc.fn50 rfl ?_
  refine Calls.mono (from_lt gb sb cap x y l hl hc ht hn3 hxy hy (k : Int) (by omega) (by omega) _ (hH.get (b := gb) (by repeat (first | exact In.here | refine In.there ?_))) (hH.get (b := sb) (by repeat (first | exact In.here | refine In.there ?_)))) ?_
  rintro e w1 ⟨rfl, hE⟩
  replace hH := hH.ext hE
  refine ⟨_, rfl, hH.kp0, ?_⟩
  clear hS; intro a hS
  refine r_assign hS hH.kp0 rfl rfl ?_; clear hS; intro a hS
  refine Sq.nil ?_
  refine then_n ?_
  refine c_seq ?_
  refine reg_plain w0 (Nobody) ?_
  refine r_move hS hH.kp0 rfl rfl ?_; clear hS; intro a hS
  refine r_move hS hH.kp0 rfl rfl ?_; clear hS; intro a hS
  refine r_nilCheck hS hH.kp0 rfl rfl ?_; clear hS; intro a hS
  refine r_fieldAddr hS hH.kp0 rfl Fc.fo89_1 rfl ?_; clear hS; intro a hS
  refine r_load_sc hS hH (by repeat (first | exact Sub.nil | refine Sub.cons ?_ ?_ | exact In.here | refine In.there ?_)) rfl (by repeat (first | exact In.here | refine In.there ?_)) Fc.sc87 (by rfl) rfl ?_; clear hS; intro a hS
  refine r_lenSl hS hH.kp0 rfl Fc.isSlice87 rfl ?_; clear hS; intro a hS
  refine r_lss hS hH.kp0 rfl rfl rfl ?_; clear hS; intro a hS
  refine r_move hS hH.kp0 rfl rfl ?_; clear hS; intro a hS
  refine Sq.guardNo hS rfl rfl rfl hH.kp0 rfl ?_; clear hS; intro a hS
  refine Sq.guardNo hS rfl rfl rfl hH.kp0 rfl ?_; clear hS; intro a hS
  refine Sq.guardNo hS rfl rfl rfl hH.kp0 rfl ?_; clear hS; intro a hS
  refine Sq.guardNo hS rfl rfl rfl hH.kp0 rfl ?_; clear hS; intro a hS
  refine Sq.guardNo hS rfl rfl rfl hH.kp0 rfl ?_; clear hS; intro a hS
  refine Sq.guardNo hS rfl rfl rfl hH.kp0 rfl ?_; clear hS; intro a hS
  refine Sq.guardNo hS rfl rfl rfl hH.kp0 rfl ?_; clear hS; intro a hS
  refine Sq.guardNo hS rfl rfl rfl hH.kp0 rfl ?_; clear hS; intro a hS
  refine Sq.guardNo hS rfl rfl rfl hH.kp0 rfl ?_; clear hS; intro a hS
  refine Sq.guardNo hS rfl rfl rfl hH.kp0 rfl ?_; clear hS; intro a hS
  refine r_pickF hS hH.kp0 rfl rfl rfl rfl ?_; clear hS; intro a hS
  refine r_assign hS hH.kp0 rfl rfl ?_; clear hS; intro a hS
  refine Sq.nil ?_
  refine then_n ?_
  refine wp_ret ?_
  exact leave (.inl rfl) hS rfl (Res.tmp rfl Res.nil) ⟨rfl, hH.mod⟩

end Go.Proofs.Ytkhcbllphdhbdaa

namespace Go.Proofs.Ytkhcbllphdhbdaa
open Go.Sym


set_option maxRecDepth 100000 in
set_option maxHeartbeats 400000 in
theorem ins_nil (vb vc x y : Nat) (lv : List Value) (hvl : lv.length = vc * 2) (hvc : 1 ≤ vc) (hvt : lv.take 2 = [.int .i64 (x : Int), .int .i64 (y : Int)]) (w0 : World) (hv : w0.heap[vb]? = some (.cells lv.toArray 94 (0, 0))) : Calls Try.prog 59 #[.slice none 0 0, .int .i64 0, .slice (some ⟨vb, 0, none⟩) 1 vc] w0 fun e w' => ∃ (cb c2 : Nat) (l2 : List Value), e = .returned (.slice (some ⟨cb, 0, none⟩) 1 c2) ∧ w0.heap.size ≤ cb ∧ w'.heap[cb]? = some (.cells l2.toArray 94 (0, 0)) ∧ l2.length = c2 * 2 ∧ 1 ≤ c2 ∧ l2.take 2 = [.int .i64 (x : Int), .int .i64 (y : Int)] ∧ Ext w0 w' := by
  refine enter Try.func59 rfl rfl rfl ?_
  intro a hS
  have hH := Hp.start w0 (Nobody)
  replace hH := hH.know hv (by intro p hp; simp at hp)
  refine c_seq ?_
  refine reg_plain w0 (Nobody) ?_
  refine r_assign hS hH.kp0 rfl rfl ?_; clear hS; intro a hS
  refine Sq.nil ?_
  refine then_n ?_
  refine c_seq ?_
  refine reg_plain w0 (Nobody) ?_
  refine r_move hS hH.kp0 rfl rfl ?_; clear hS; intro a hS
  refine r_move hS hH.kp0 rfl rfl ?_; clear hS; intro a hS
  refine r_slLoN hS hH.kp0 rfl rfl Fc.slb87 rfl ?_; clear hS; intro a hS
  refine Sq.nil ?_
  refine then_n ?_
  refine c_seq ?_
  refine reg_plain w0 (Nobody) ?_
  refine r_move hS hH.kp0 rfl rfl ?_; clear hS; intro a hS
  refine r_lenSl hS hH.kp0 rfl Fc.isSlice87 rfl ?_; clear hS; intro a hS
  refine r_assign hS hH.kp0 rfl rfl ?_; clear hS; intro a hS
  refine Sq.nil ?_
  refine then_n ?_
  refine c_seq ?_
  refine c_seq ?_
  refine reg_plain w0 (Nobody) ?_
  refine r_move hS hH.kp0 rfl rfl ?_; clear hS; intro a hS
  refine r_eql hS hH.kp0 rfl rfl rfl ?_; clear hS; intro a hS
  refine Sq.nil ?_
  refine then_n ?_
  refine c_condF hS rfl rfl ?_
  refine wp_skip ?_
  refine then_n ?_
  refine c_seq ?_
  refine reg_plain w0 (Nobody) ?_
  refine r_move hS hH.kp0 rfl rfl ?_; clear hS; intro a hS
  refine r_lenSl hS hH.kp0 rfl Fc.isSlice87 rfl ?_; clear hS; intro a hS
  refine r_assign hS hH.kp0 rfl rfl ?_; clear hS; intro a hS
  refine Sq.nil ?_
  refine then_n ?_
  refine c_seq ?_
  refine c_seq ?_
  refine reg_plain w0 (Nobody) ?_
  refine r_move hS hH.kp0 rfl rfl ?_; clear hS; intro a hS
  refine r_move hS hH.kp0 rfl rfl ?_; clear hS; intro a hS
  refine r_eql hS hH.kp0 rfl rfl rfl ?_; clear hS; intro a hS
  refine Sq.nil ?_
  refine then_n ?_
  refine c_condT hS rfl rfl ?_
  refine c_seq ?_
  refine reg_plain w0 (Nobody) ?_
  refine r_move hS hH.kp0 rfl rfl ?_; clear hS; intro a hS
  refine r_move hS hH.kp0 rfl rfl ?_; clear hS; intro a hS
  refine r_append_nil hS hH (by repeat (first | exact Sub.nil | refine Sub.cons ?_ ?_ | exact In.here | refine In.there ?_)) rfl rfl Fc.el87 Fc.ni87 (src_row (hH.get (b := vb) (by repeat (first | exact In.here | refine In.there ?_))) hvl hvc hvt) (by decide) (by decide) rfl ?_
  clear hS hH; intro a w cb c2 l2 hcb _ hl2 hc2 htk _ hS hH
  refine r_assign hS hH.kp0 rfl rfl ?_; clear hS; intro a hS
  refine Sq.nil ?_
  refine then_n ?_
  refine wp_ret ?_
  refine then_r ?_
  exact leave (.inl rfl) hS rfl (Res.tmp rfl Res.nil) ⟨cb, c2, l2, rfl, hcb, hH.get .here, hl2, hc2, by simpa using htk, hH.mod⟩

set_option maxRecDepth 100000 in
set_option maxHeartbeats 400000 in
theorem ins_blk (sb cap vb vc x y : Nat) (l lv : List Value) (hl : l.length = cap * 2) (hvl : lv.length = vc * 2) (hvc : 1 ≤ vc) (hvt : lv.take 2 = [.int .i64 (x : Int), .int .i64 (y : Int)]) (hn4 : sb ≠ vb) (w0 : World) (hv : w0.heap[vb]? = some (.cells lv.toArray 94 (0, 0))) (hs : w0.heap[sb]? = some (.cells l.toArray 94 (0, 0))) : Calls Try.prog 59 #[.slice (some ⟨sb, 0, none⟩) 0 cap, .int .i64 0, .slice (some ⟨vb, 0, none⟩) 1 vc] w0 fun e w' => ∃ (cb c2 : Nat) (l2 : List Value), e = .returned (.slice (some ⟨cb, 0, none⟩) 1 c2) ∧ (cb = sb ∨ w0.heap.size ≤ cb) ∧ w'.heap[cb]? = some (.cells l2.toArray 94 (0, 0)) ∧ l2.length = c2 * 2 ∧ 1 ≤ c2 ∧ l2.take 2 = [.int .i64 (x : Int), .int .i64 (y : Int)] ∧ Mod (· = sb) w0 w' := by
  refine enter Try.func59 rfl rfl rfl ?_
  intro a hS
  have hH := Hp.start w0 ((· = sb))
  replace hH := (hH.know hv (by intro p hp; simp at hp)).know hs (by intro p hp; simp at hp; subst hp; exact hn4.symm)
  refine c_seq ?_
  refine reg_plain w0 ((· = sb)) ?_
  refine r_assign hS hH.kp0 rfl rfl ?_; clear hS; intro a hS
  refine Sq.nil ?_
  refine then_n ?_
  refine c_seq ?_
  refine reg_plain w0 ((· = sb)) ?_
  refine r_move hS hH.kp0 rfl rfl ?_; clear hS; intro a hS
  refine r_move hS hH.kp0 rfl rfl ?_; clear hS; intro a hS
  refine r_slLo (ll := 0) hS hH.kp0 rfl rfl Fc.slb87 rfl (Nat.zero_le _) rfl ?_; clear hS; intro a hS
  refine Sq.nil ?_
  refine then_n ?_
  refine c_seq ?_
  refine reg_plain w0 ((· = sb)) ?_
  refine r_move hS hH.kp0 rfl rfl ?_; clear hS; intro a hS
  refine r_lenSl hS hH.kp0 rfl Fc.isSlice87 rfl ?_; clear hS; intro a hS
  refine r_assign hS hH.kp0 rfl rfl ?_; clear hS; intro a hS
  refine Sq.nil ?_
  refine then_n ?_
  refine c_seq ?_
  refine c_seq ?_
  refine reg_plain w0 ((· = sb)) ?_
  refine r_move hS hH.kp0 rfl rfl ?_; clear hS; intro a hS
  refine r_eql hS hH.kp0 rfl rfl rfl ?_; clear hS; intro a hS
  refine Sq.nil ?_
  refine then_n ?_
  refine c_condF hS rfl rfl ?_
  refine wp_skip ?_
  refine then_n ?_
  refine c_seq ?_
  refine reg_plain w0 ((· = sb)) ?_
  refine r_move hS hH.kp0 rfl rfl ?_; clear hS; intro a hS
  refine r_lenSl hS hH.kp0 rfl Fc.isSlice87 rfl ?_; clear hS; intro a hS
  refine r_assign hS hH.kp0 rfl rfl ?_; clear hS; intro a hS
  refine Sq.nil ?_
  refine then_n ?_
  refine c_seq ?_
  refine c_seq ?_
  refine reg_plain w0 ((· = sb)) ?_
  refine r_move hS hH.kp0 rfl rfl ?_; clear hS; intro a hS
  refine r_move hS hH.kp0 rfl rfl ?_; clear hS; intro a hS
  refine r_eql hS hH.kp0 rfl rfl rfl ?_; clear hS; intro a hS
  refine Sq.nil ?_
  refine then_n ?_
  refine c_condT hS rfl rfl ?_
  refine c_seq ?_
  refine reg_plain w0 ((· = sb)) ?_
  refine r_move hS hH.kp0 rfl rfl ?_; clear hS; intro a hS
  refine r_move hS hH.kp0 rfl rfl ?_; clear hS; intro a hS
  refine r_append_own hS hH rfl rfl (by repeat (first | exact .here | apply In.there | apply Put.there | apply Del.there)) (by repeat (first | exact Sub.nil | refine Sub.cons ?_ ?_ | exact In.here | refine In.there ?_)) Fc.el87 Fc.ni87 hl (Nat.zero_le _) (src_row (hH.get (b := vb) (by repeat (first | exact In.here | refine In.there ?_))) hvl hvc hvt) (by decide) (.inl rfl) rfl ?_
  clear hS hH; intro a w cb c2 l2 hcb hl2 hc2 htk _ hS hH
  rw [Nat.zero_add] at hS hc2 htk
  refine r_assign hS hH.kp0 rfl rfl ?_; clear hS; intro a hS
  refine Sq.nil ?_
  refine then_n ?_
  refine wp_ret ?_
  refine then_r ?_
  exact leave (.inl rfl) hS rfl (Res.tmp rfl Res.nil) ⟨cb, c2, l2, rfl, hcb, hH.get .here, hl2, hc2, by simpa using htk, hH.mod⟩

set_option maxRecDepth 100000 in
set_option maxHeartbeats 400000 in
theorem ins_none (sb m cap : Nat) (w0 : World) : Calls Try.prog 59 #[.slice (some ⟨sb, 0, none⟩) m cap, .int .i64 0, .slice none 0 0] w0 fun e w' => e = .returned (.slice (some ⟨sb, 0, none⟩) m cap) ∧ Ext w0 w' := by
  refine enter Try.func59 rfl rfl rfl ?_
  intro a hS
  have hH := Hp.start w0 (Nobody)
  refine c_seq ?_
  refine reg_plain w0 (Nobody) ?_
  refine r_assign hS hH.kp0 rfl rfl ?_; clear hS; intro a hS
  refine Sq.nil ?_
  refine then_n ?_
  refine c_seq ?_
  refine reg_plain w0 (Nobody) ?_
  refine r_move hS hH.kp0 rfl rfl ?_; clear hS; intro a hS
  refine r_move hS hH.kp0 rfl rfl ?_; clear hS; intro a hS
  refine r_slLo (ll := 0) hS hH.kp0 rfl rfl Fc.slb87 rfl (Nat.zero_le _) rfl ?_; clear hS; intro a hS
  refine Sq.nil ?_
  refine then_n ?_
  refine c_seq ?_
  refine reg_plain w0 (Nobody) ?_
  refine r_move hS hH.kp0 rfl rfl ?_; clear hS; intro a hS
  refine r_lenSl hS hH.kp0 rfl Fc.isSlice87 rfl ?_; clear hS; intro a hS
  refine r_assign hS hH.kp0 rfl rfl ?_; clear hS; intro a hS
  refine Sq.nil ?_
  refine then_n ?_
  refine c_seq ?_
  refine c_seq ?_
  refine reg_plain w0 (Nobody) ?_
  refine r_move hS hH.kp0 rfl rfl ?_; clear hS; intro a hS
  refine r_eql hS hH.kp0 rfl rfl rfl ?_; clear hS; intro a hS
  refine Sq.nil ?_
  refine then_n ?_
  refine c_condT hS rfl rfl ?_
  refine c_seq ?_
  refine reg_plain w0 (Nobody) ?_
  refine r_move hS hH.kp0 rfl rfl ?_; clear hS; intro a hS
  refine r_assign hS hH.kp0 rfl rfl ?_; clear hS; intro a hS
  refine Sq.nil ?_
  refine then_n ?_
  refine wp_ret ?_
  refine then_r ?_
  exact leave (.inl rfl) hS rfl (Res.tmp rfl Res.nil) ⟨rfl, hH.mod⟩

set_option maxRecDepth 100000 in
set_option maxHeartbeats 400000 in
theorem rep_nil (vb vc x y : Nat) (lv : List Value) (hvl : lv.length = vc * 2) (hvc : 1 ≤ vc) (hvt : lv.take 2 = [.int .i64 (x : Int), .int .i64 (y : Int)]) (w0 : World) (hv : w0.heap[vb]? = some (.cells lv.toArray 94 (0, 0))) : Calls Try.prog 51 #[.slice none 0 0, .int .i64 0, .int .i64 0, .slice (some ⟨vb, 0, none⟩) 1 vc] w0 fun e w' => ∃ (cb c2 : Nat) (l2 : List Value), e = .returned (.slice (some ⟨cb, 0, none⟩) 1 c2) ∧ w0.heap.size ≤ cb ∧ w'.heap[cb]? = some (.cells l2.toArray 94 (0, 0)) ∧ l2.length = c2 * 2 ∧ 1 ≤ c2 ∧ l2.take 2 = [.int .i64 (x : Int), .int .i64 (y : Int)] ∧ Ext w0 w' := by
  refine enter Try.func51 rfl rfl rfl ?_
  intro a hS
  have hH := Hp.start w0 (Nobody)
  replace hH := hH.know hv (by intro p hp; simp at hp)
  refine c_seq ?_
  refine reg_plain w0 (Nobody) ?_
  refine r_assign hS hH.kp0 rfl rfl ?_; clear hS; intro a hS
  refine Sq.nil ?_
  refine then_n ?_
  refine c_seq ?_
  refine reg_plain w0 (Nobody) ?_
  refine r_move hS hH.kp0 rfl rfl ?_; clear hS; intro a hS
  refine r_move hS hH.kp0 rfl rfl ?_; clear hS; intro a hS
  refine r_move hS hH.kp0 rfl rfl ?_; clear hS; intro a hS
  refine r_slLoHiN hS hH.kp0 rfl rfl rfl Fc.slb87 rfl ?_; clear hS; intro a hS
  refine Sq.nil ?_
  refine then_n ?_
  refine c_seq ?_
  refine c_seq ?_
  refine reg_plain w0 (Nobody) ?_
  refine r_move hS hH.kp0 rfl rfl ?_; clear hS; intro a hS
  refine r_move hS hH.kp0 rfl rfl ?_; clear hS; intro a hS
  refine r_eql hS hH.kp0 rfl rfl rfl ?_; clear hS; intro a hS
  refine Sq.nil ?_
  refine then_n ?_
  refine c_condT hS rfl rfl ?_
  refine c_seq ?_
  refine reg_plain w0 (Nobody) ?_
  refine r_move hS hH.kp0 rfl rfl ?_; clear hS; intro a hS
  refine r_move hS hH.kp0 rfl rfl ?_; clear hS; intro a hS
  refine r_move hS hH.kp0 rfl rfl ?_; clear hS; intro a hS
  refine r_call (l := [.tmp 22, .tmp 23, .tmp 24]) hS rfl rfl Fc.fn59 rfl ?_
  refine Calls.mono (ins_nil vb vc x y lv hvl hvc hvt _ (hH.get (b := vb) (by repeat (first | exact In.here | refine In.there ?_)))) ?_
  rintro e w1 ⟨cb, c2, l2, rfl, hcb, hck, hl2, hc2, htk, hE⟩
  have hcb0 := Nat.le_trans hH.mod.size hcb
  replace hH := hH.ext hE
  refine ⟨_, rfl, hH.kp0, ?_⟩
  clear hS; intro a hS
  refine r_assign hS hH.kp0 rfl rfl ?_; clear hS; intro a hS
  refine Sq.nil ?_
  refine then_n ?_
  refine wp_ret ?_
  refine then_r ?_
  exact leave (.inl rfl) hS rfl (Res.tmp rfl Res.nil) ⟨cb, c2, l2, rfl, hcb0, hck, hl2, hc2, htk, hH.mod⟩

set_option maxRecDepth 100000 in
set_option maxHeartbeats 400000 in
theorem rep_blk (sb cap vb vc x y : Nat) (l lv : List Value) (hl : l.length = cap * 2) (hvl : lv.length = vc * 2) (hvc : 1 ≤ vc) (hvt : lv.take 2 = [.int .i64 (x : Int), .int .i64 (y : Int)]) (hn4 : sb ≠ vb) (w0 : World) (hv : w0.heap[vb]? = some (.cells lv.toArray 94 (0, 0))) (hs : w0.heap[sb]? = some (.cells l.toArray 94 (0, 0))) : Calls Try.prog 51 #[.slice (some ⟨sb, 0, none⟩) 0 cap, .int .i64 0, .int .i64 0, .slice (some ⟨vb, 0, none⟩) 1 vc] w0 fun e w' => ∃ (cb c2 : Nat) (l2 : List Value), e = .returned (.slice (some ⟨cb, 0, none⟩) 1 c2) ∧ (cb = sb ∨ w0.heap.size ≤ cb) ∧ w'.heap[cb]? = some (.cells l2.toArray 94 (0, 0)) ∧ l2.length = c2 * 2 ∧ 1 ≤ c2 ∧ l2.take 2 = [.int .i64 (x : Int), .int .i64 (y : Int)] ∧ Mod (· = sb) w0 w' := by
  refine enter Try.func51 rfl rfl rfl ?_
  intro a hS
  have hH := Hp.start w0 ((· = sb))
  replace hH := (hH.know hv (by intro p hp; simp at hp)).know hs (by intro p hp; simp at hp; subst hp; exact hn4.symm)
  refine c_seq ?_
  refine reg_plain w0 ((· = sb)) ?_
  refine r_assign hS hH.kp0 rfl rfl ?_; clear hS; intro a hS
  refine Sq.nil ?_
  refine then_n ?_
  refine c_seq ?_
  refine reg_plain w0 ((· = sb)) ?_
  refine r_move hS hH.kp0 rfl rfl ?_; clear hS; intro a hS
  refine r_move hS hH.kp0 rfl rfl ?_; clear hS; intro a hS
  refine r_move hS hH.kp0 rfl rfl ?_; clear hS; intro a hS
  refine r_slLoHi (ll := 0) (hh := 0) hS hH.kp0 rfl rfl rfl Fc.slb87 rfl rfl (Nat.zero_le _) (by omega) rfl ?_; clear hS; intro a hS
  refine Sq.nil ?_
  refine then_n ?_
  refine c_seq ?_
  refine c_seq ?_
  refine reg_plain w0 ((· = sb)) ?_
  refine r_move hS hH.kp0 rfl rfl ?_; clear hS; intro a hS
  refine r_move hS hH.kp0 rfl rfl ?_; clear hS; intro a hS
  refine r_eql hS hH.kp0 rfl rfl rfl ?_; clear hS; intro a hS
  refine Sq.nil ?_
  refine then_n ?_
  refine c_condT hS rfl rfl ?_
  refine c_seq ?_
  refine reg_plain w0 ((· = sb)) ?_
  refine r_move hS hH.kp0 rfl rfl ?_; clear hS; intro a hS
  refine r_move hS hH.kp0 rfl rfl ?_; clear hS; intro a hS
  refine r_move hS hH.kp0 rfl rfl ?_; clear hS; intro a hS
  refine r_call (l := [.tmp 22, .tmp 23, .tmp 24]) hS rfl rfl Fc.fn59 rfl ?_
  refine Calls.mono (ins_blk sb cap vb vc x y l lv hl hvl hvc hvt hn4 _ (hH.get (b := vb) (by repeat (first | exact In.here | refine In.there ?_))) (hH.get (b := sb) (by repeat (first | exact In.here | refine In.there ?_)))) ?_
  rintro e w1 ⟨cb, c2, l2, rfl, hcb, hck, hl2, hc2, htk, hM⟩
  have hm9 : Mod (· = sb) w0 w1 := hH.mod.trans hM (fun _ _ h => h)
  have hcb0 : cb = sb ∨ w0.heap.size ≤ cb := hcb.imp id (fun h => Nat.le_trans hH.mod.size h)
  clear hH
  have hH : Hp w0 (· = sb) [] w1 := ⟨by simp, by simp, hm9⟩
  refine ⟨_, rfl, hH.kp0, ?_⟩
  clear hS; intro a hS
  refine r_assign hS hH.kp0 rfl rfl ?_; clear hS; intro a hS
  refine Sq.nil ?_
  refine then_n ?_
  refine wp_ret ?_
  refine then_r ?_
  exact leave (.inl rfl) hS rfl (Res.tmp rfl Res.nil) ⟨cb, c2, l2, rfl, hcb0, hck, hl2, hc2, htk, hH.mod⟩

set_option maxRecDepth 100000 in
set_option maxHeartbeats 400000 in
theorem rep_none (sb m cap : Nat) (w0 : World) : Calls Try.prog 51 #[.slice (some ⟨sb, 0, none⟩) m cap, .int .i64 0, .int .i64 0, .slice none 0 0] w0 fun e w' => e = .returned (.slice (some ⟨sb, 0, none⟩) m cap) ∧ Ext w0 w' := by
  refine enter Try.func51 rfl rfl rfl ?_
  intro a hS
  have hH := Hp.start w0 (Nobody)
  refine c_seq ?_
  refine reg_plain w0 (Nobody) ?_
  refine r_assign hS hH.kp0 rfl rfl ?_; clear hS; intro a hS
  refine Sq.nil ?_
  refine then_n ?_
  refine c_seq ?_
  refine reg_plain w0 (Nobody) ?_
  refine r_move hS hH.kp0 rfl rfl ?_; clear hS; intro a hS
  refine r_move hS hH.kp0 rfl rfl ?_; clear hS; intro a hS
  refine r_move hS hH.kp0 rfl rfl ?_; clear hS; intro a hS
  refine r_slLoHi (ll := 0) (hh := 0) hS hH.kp0 rfl rfl rfl Fc.slb87 rfl rfl (Nat.zero_le _) (by omega) rfl ?_; clear hS; intro a hS
  refine Sq.nil ?_
  refine then_n ?_
  refine c_seq ?_
  refine c_seq ?_
  refine reg_plain w0 (Nobody) ?_
  refine r_move hS hH.kp0 rfl rfl ?_; clear hS; intro a hS
  refine r_move hS hH.kp0 rfl rfl ?_; clear hS; intro a hS
  refine r_eql hS hH.kp0 rfl rfl rfl ?_; clear hS; intro a hS
  refine Sq.nil ?_
  refine then_n ?_
  refine c_condT hS rfl rfl ?_
  refine c_seq ?_
  refine reg_plain w0 (Nobody) ?_
  refine r_move hS hH.kp0 rfl rfl ?_; clear hS; intro a hS
  refine r_move hS hH.kp0 rfl rfl ?_; clear hS; intro a hS
  refine r_move hS hH.kp0 rfl rfl ?_; clear hS; intro a hS
  refine r_call (l := [.tmp 22, .tmp 23, .tmp 24]) hS rfl rfl Fc.fn59 rfl ?_
  refine Calls.mono (ins_none sb m cap _) ?_
  rintro e w1 ⟨rfl, hE⟩
  replace hH := hH.ext hE
  refine ⟨_, rfl, hH.kp0, ?_⟩
  clear hS; intro a hS
  refine r_assign hS hH.kp0 rfl rfl ?_; clear hS; intro a hS
  refine Sq.nil ?_
  refine then_n ?_
  refine wp_ret ?_
  refine then_r ?_
  exact leave (.inl rfl) hS rfl (Res.tmp rfl Res.nil) ⟨rfl, hH.mod⟩

set_option maxRecDepth 100000 in
set_option maxHeartbeats 400000 in
theorem rep_one (sb cap vb vc x y : Nat) (l lv : List Value) (hl : l.length = cap * 2) (hvl : lv.length = vc * 2) (hvc : 1 ≤ vc) (hvt : lv.take 2 = [.int .i64 (x : Int), .int .i64 (y : Int)]) (hn4 : sb ≠ vb) (hc : 1 ≤ cap) (w0 : World) (hv : w0.heap[vb]? = some (.cells lv.toArray 94 (0, 0))) (hs : w0.heap[sb]? = some (.cells l.toArray 94 (0, 0))) : Calls Try.prog 51 #[.slice (some ⟨sb, 0, none⟩) 1 cap, .int .i64 0, .int .i64 1, .slice (some ⟨vb, 0, none⟩) 1 vc] w0 fun e w' => ∃ (cb c2 : Nat) (l2 : List Value), e = .returned (.slice (some ⟨cb, 0, none⟩) 1 c2) ∧ (cb = sb ∨ w0.heap.size ≤ cb) ∧ w'.heap[cb]? = some (.cells l2.toArray 94 (0, 0)) ∧ l2.length = c2 * 2 ∧ 1 ≤ c2 ∧ l2.take 2 = [.int .i64 (x : Int), .int .i64 (y : Int)] ∧ Mod (· = sb) w0 w' := by
  refine enter Try.func51 rfl rfl rfl ?_
  intro a hS
  have hH := Hp.start w0 ((· = sb))
  replace hH := (hH.know hv (by intro p hp; simp at hp)).know hs (by intro p hp; simp at hp; subst hp; exact hn4.symm)
  refine c_seq ?_
  refine reg_plain w0 ((· = sb)) ?_
  refine r_assign hS hH.kp0 rfl rfl ?_; clear hS; intro a hS
  refine Sq.nil ?_
  refine then_n ?_
  refine c_seq ?_
  refine reg_plain w0 ((· = sb)) ?_
  refine r_move hS hH.kp0 rfl rfl ?_; clear hS; intro a hS
  refine r_move hS hH.kp0 rfl rfl ?_; clear hS; intro a hS
  refine r_move hS hH.kp0 rfl rfl ?_; clear hS; intro a hS
  refine r_slLoHi (ll := 0) (hh := 1) hS hH.kp0 rfl rfl rfl Fc.slb87 rfl rfl (Nat.zero_le _) (by omega) rfl ?_; clear hS; intro a hS
  refine Sq.nil ?_
  refine then_n ?_
  refine c_seq ?_
  refine c_seq ?_
  refine reg_plain w0 ((· = sb)) ?_
  refine r_move hS hH.kp0 rfl rfl ?_; clear hS; intro a hS
  refine r_move hS hH.kp0 rfl rfl ?_; clear hS; intro a hS
  refine r_eql hS hH.kp0 rfl rfl rfl ?_; clear hS; intro a hS
  refine Sq.nil ?_
  refine then_n ?_
  refine c_condF hS rfl rfl ?_
  refine wp_skip ?_
  refine then_n ?_
  refine c_seq ?_
  refine c_seq ?_
  refine reg_plain w0 ((· = sb)) ?_
  refine r_move hS hH.kp0 rfl rfl ?_; clear hS; intro a hS
  refine r_move hS hH.kp0 rfl rfl ?_; clear hS; intro a hS
  refine r_lenSl hS hH.kp0 rfl Fc.isSlice87 rfl ?_; clear hS; intro a hS
  refine r_eql hS hH.kp0 rfl rfl rfl ?_; clear hS; intro a hS
  refine Sq.nil ?_
  refine then_n ?_
  refine c_condT hS rfl rfl ?_
  refine c_seq ?_
  refine reg_plain w0 ((· = sb)) ?_
  refine r_move hS hH.kp0 rfl rfl ?_; clear hS; intro a hS
  refine r_move hS hH.kp0 rfl rfl ?_; clear hS; intro a hS
  refine r_slHiE (hh := 0) hS hH.kp0 rfl rfl Fc.slb87 rfl (Nat.zero_le _) rfl ?_; clear hS; intro a hS
  refine r_move hS hH.kp0 rfl rfl ?_; clear hS; intro a hS
  refine r_append_own hS hH rfl rfl (by repeat (first | exact .here | apply In.there | apply Put.there | apply Del.there)) (by repeat (first | exact Sub.nil | refine Sub.cons ?_ ?_ | exact In.here | refine In.there ?_)) Fc.el87 Fc.ni87 hl (Nat.zero_le _) (src_row (hH.get (b := vb) (by repeat (first | exact In.here | refine In.there ?_))) hvl hvc hvt) (by decide) (.inl rfl) rfl ?_
  clear hS hH; intro a w cb c2 l2 hcb hl2 hc2 htk _ hS hH
  rw [Nat.zero_add] at hS hc2 htk
  refine r_assign hS hH.kp0 rfl rfl ?_; clear hS; intro a hS
  refine Sq.nil ?_
  refine then_n ?_
  refine c_seq ?_
  refine c_seq ?_
  refine reg_plain w0 ((· = sb)) ?_
  refine r_move hS hH.kp0 rfl rfl ?_; clear hS; intro a hS
  refine r_lenSl hS hH.kp0 rfl Fc.isSlice87 rfl ?_; clear hS; intro a hS
  refine r_move hS hH.kp0 rfl rfl ?_; clear hS; intro a hS
  refine r_lenSl hS hH.kp0 rfl Fc.isSlice87 rfl ?_; clear hS; intro a hS
  refine r_lss hS hH.kp0 rfl rfl rfl ?_; clear hS; intro a hS
  refine Sq.nil ?_
  refine then_n ?_
  refine c_condF hS rfl rfl ?_
  refine wp_skip ?_
  refine then_n ?_
  refine c_seq ?_
  refine reg_plain w0 ((· = sb)) ?_
  refine r_move hS hH.kp0 rfl rfl ?_; clear hS; intro a hS
  refine r_assign hS hH.kp0 rfl rfl ?_; clear hS; intro a hS
  refine Sq.nil ?_
  refine then_n ?_
  refine wp_ret ?_
  refine then_r ?_
  exact leave (.inl rfl) hS rfl (Res.tmp rfl Res.nil) ⟨cb, c2, l2, rfl, hcb, hH.get .here, hl2, hc2, by simpa using htk, hH.mod⟩

set_option maxRecDepth 100000 in
set_option maxHeartbeats 400000 in
theorem rep_clr (sb cap : Nat) (l : List Value) (hl : l.length = cap * 2) (hc : 1 ≤ cap) (w0 : World) (hs : w0.heap[sb]? = some (.cells l.toArray 94 (0, 0))) : Calls Try.prog 51 #[.slice (some ⟨sb, 0, none⟩) 1 cap, .int .i64 0, .int .i64 1, .slice none 0 0] w0 fun e w' => ∃ l2 : List Value, e = .returned (.slice (some ⟨sb, 0, none⟩) 0 cap) ∧ w'.heap[sb]? = some (.cells l2.toArray 94 (0, 0)) ∧ l2.length = cap * 2 ∧ Mod (· = sb) w0 w' := by
  refine enter Try.func51 rfl rfl rfl ?_
  intro a hS
  have hH := Hp.start w0 ((· = sb))
  replace hH := hH.know hs (by intro p hp; simp at hp)
  refine c_seq ?_
  refine reg_plain w0 ((· = sb)) ?_
  refine r_assign hS hH.kp0 rfl rfl ?_; clear hS; intro a hS
  refine Sq.nil ?_
  refine then_n ?_
  refine c_seq ?_
  refine reg_plain w0 ((· = sb)) ?_
  refine r_move hS hH.kp0 rfl rfl ?_; clear hS; intro a hS
  refine r_move hS hH.kp0 rfl rfl ?_; clear hS; intro a hS
  refine r_move hS hH.kp0 rfl rfl ?_; clear hS; intro a hS
  refine r_slLoHi (ll := 0) (hh := 1) hS hH.kp0 rfl rfl rfl Fc.slb87 rfl rfl (Nat.zero_le _) (by omega) rfl ?_; clear hS; intro a hS
  refine Sq.nil ?_
  refine then_n ?_
  refine c_seq ?_
  refine c_seq ?_
  refine reg_plain w0 ((· = sb)) ?_
  refine r_move hS hH.kp0 rfl rfl ?_; clear hS; intro a hS
  refine r_move hS hH.kp0 rfl rfl ?_; clear hS; intro a hS
  refine r_eql hS hH.kp0 rfl rfl rfl ?_; clear hS; intro a hS
  refine Sq.nil ?_
  refine then_n ?_
  refine c_condF hS rfl rfl ?_
  refine wp_skip ?_
  refine then_n ?_
  refine c_seq ?_
  refine c_seq ?_
  refine reg_plain w0 ((· = sb)) ?_
  refine r_move hS hH.kp0 rfl rfl ?_; clear hS; intro a hS
  refine r_move hS hH.kp0 rfl rfl ?_; clear hS; intro a hS
  refine r_lenSl hS hH.kp0 rfl Fc.isSlice87 rfl ?_; clear hS; intro a hS
  refine r_eql hS hH.kp0 rfl rfl rfl ?_; clear hS; intro a hS
  refine Sq.nil ?_
  refine then_n ?_
  refine c_condT hS rfl rfl ?_
  refine c_seq ?_
  refine reg_plain w0 ((· = sb)) ?_
  refine r_move hS hH.kp0 rfl rfl ?_; clear hS; intro a hS
  refine r_move hS hH.kp0 rfl rfl ?_; clear hS; intro a hS
  refine r_slHiE (hh := 0) hS hH.kp0 rfl rfl Fc.slb87 rfl (Nat.zero_le _) rfl ?_; clear hS; intro a hS
  refine r_move hS hH.kp0 rfl rfl ?_; clear hS; intro a hS
  refine r_append_in hS hH rfl rfl (by repeat (first | exact .here | apply In.there | apply Put.there | apply Del.there)) (by repeat (first | exact Sub.nil | refine Sub.cons ?_ ?_ | exact In.here | refine In.there ?_)) Fc.el87 Fc.ni87 hl src_nil (Nat.zero_le _) (.inl rfl) rfl ?_
  clear hS hH; intro a w hS hH
  rw [show wr l (0 * 2) [] = l from rfl] at hH
  refine r_assign hS hH.kp0 rfl rfl ?_; clear hS; intro a hS
  refine Sq.nil ?_
  refine then_n ?_
  refine c_seq ?_
  refine c_seq ?_
  refine reg_plain w0 ((· = sb)) ?_
  refine r_move hS hH.kp0 rfl rfl ?_; clear hS; intro a hS
  refine r_lenSl hS hH.kp0 rfl Fc.isSlice87 rfl ?_; clear hS; intro a hS
  refine r_move hS hH.kp0 rfl rfl ?_; clear hS; intro a hS
  refine r_lenSl hS hH.kp0 rfl Fc.isSlice87 rfl ?_; clear hS; intro a hS
  refine r_lss hS hH.kp0 rfl rfl rfl ?_; clear hS; intro a hS
  refine Sq.nil ?_
  refine then_n ?_
  refine c_condT hS rfl rfl ?_
  refine reg_plain w0 ((· = sb)) ?_
  refine r_move hS hH.kp0 rfl rfl ?_; clear hS; intro a hS
  refine r_move hS hH.kp0 rfl rfl ?_; clear hS; intro a hS
  refine r_lenSl hS hH.kp0 rfl Fc.isSlice87 rfl ?_; clear hS; intro a hS
  refine r_slLo (ll := 0) hS hH.kp0 rfl rfl Fc.slb87 rfl (Nat.zero_le _) rfl ?_; clear hS; intro a hS
  rw [show (if cap = 0 then (⟨sb, 0, none⟩ : Addr) else ⟨sb, 0 + 0 * 2, none⟩) = ⟨sb, 0, none⟩ from by split <;> rfl] at hS
  refine r_clear1 (l := l) hS hH rfl Fc.uls87 Fc.zc94 (by kernel_rfl) (by intro u hu; simp only [List.mem_cons, List.not_mem_nil, or_false] at hu; rcases hu with rfl | rfl <;> rfl) (by simp; omega) (fun l9 => (by repeat (first | exact .here | apply In.there | apply Put.there | apply Del.there))) (fun l9 => (by repeat (first | exact Sub.nil | refine Sub.cons ?_ ?_ | exact In.here | refine In.there ?_))) (.inl rfl) ?_
  clear hH; intro w l2 hl2 hH
  refine Sq.nil ?_
  refine then_n ?_
  refine c_seq ?_
  refine reg_plain w0 ((· = sb)) ?_
  refine r_move hS hH.kp0 rfl rfl ?_; clear hS; intro a hS
  refine r_assign hS hH.kp0 rfl rfl ?_; clear hS; intro a hS
  refine Sq.nil ?_
  refine then_n ?_
  refine wp_ret ?_
  refine then_r ?_
  exact leave (.inl rfl) hS rfl (Res.tmp rfl Res.nil) ⟨l2, rfl, hH.get .here, hl2.trans hl, hH.mod⟩

end Go.Proofs.Ytkhcbllphdhbdaa
