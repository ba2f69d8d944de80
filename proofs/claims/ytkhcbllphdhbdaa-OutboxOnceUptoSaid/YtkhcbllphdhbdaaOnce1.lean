/- Without losses each byte of an outbox is told once, in order, and never beyond the limit; what has not arrived is kept (for inputs up to the size bound). Part Once1: walks and lemmas of the proof. -/
import Derived.Test.YtkhcbllphdhbdaaBox3
import Derived.Test.YtkhcbllphdhbdaaSymMsg2
namespace Go.Proofs.Ytkhcbllphdhbdaa
open Go.Sym

theorem Fc.fn10 : isFn Try.prog 10 = true := by kernel_rfl
theorem Fc.fn11 : isFn Try.prog 11 = true := by kernel_rfl
theorem Fc.fn6 : isFn Try.prog 6 = true := by kernel_rfl
theorem Fc.fn7 : isFn Try.prog 7 = true := by kernel_rfl
theorem Fc.fn8 : isFn Try.prog 8 = true := by kernel_rfl
theorem Fc.fn9 : isFn Try.prog 9 = true := by kernel_rfl
theorem Fc.fo30_0 : foff Try.prog 30 0 = some 0 := by kernel_rfl
theorem Fc.fo30_1 : foff Try.prog 30 1 = some 1 := by kernel_rfl
theorem Fc.fo30_2 : foff Try.prog 30 2 = some 2 := by kernel_rfl
set_option maxRecDepth 100000 in
set_option maxHeartbeats 8000000 in
theorem once_law (tv : Value) (text : List UInt8) (hl : text.length ≤ 1048576) (mo li : Int) (w0 : World) (hb0 : BsF Nobody w0 tv text) : Calls Try.prog 3 #[tv, .int .i64 mo, .int .i64 li] w0 fun e w' => e = .returned (.bool true) ∧ Ext w0 w' := by
  refine enter Try.func3 rfl rfl rfl ?_
  intro a hS
  have hH := Hp.start w0 (Nobody)
  obtain ⟨tq, tqc, hst⟩ := hb0.bs
  have htv := hst.val
  subst htv
  refine c_seq ?_
  refine reg_plain w0 (Nobody) ?_
  refine r_assign hS hH.kp0 rfl rfl ?_; clear hS; intro a hS
  refine Sq.nil ?_
  refine then_n ?_
  refine c_seq ?_
  refine reg_plain w0 (Nobody) ?_
  refine r_call (l := [.const (.int .i64 1048576)]) hS rfl rfl Fc.fn6 rfl ?_
  refine Calls.mono (New_c 1048576 (by decide) _) ?_
  rintro e w1 ⟨ob, gb, hb, rfl, hgb0, hgh, hho, hok, hgk, hhk, hE⟩
  have hng : gb ≠ ob := by omega
  have hob0 : w0.heap.size ≤ ob := by omega
  replace hH := ((hH.ext hE).know hgk (fun p hp => by simp at hp)).know hok (by intro p hp; simp only [List.mem_cons, List.not_mem_nil, or_false] at hp; subst hp; exact hng)
  refine ⟨_, rfl, hH.kp0, ?_⟩
  clear hS; intro a hS
  refine r_move hS hH.kp0 rfl rfl ?_; clear hS; intro a hS
  refine r_extract hS hH.kp0 rfl rfl rfl ?_; clear hS; intro a hS
  refine r_extract hS hH.kp0 rfl rfl rfl ?_; clear hS; intro a hS
  refine r_assign hS hH.kp0 rfl rfl ?_; clear hS; intro a hS
  refine r_assign hS hH.kp0 rfl rfl ?_; clear hS; intro a hS
  refine Sq.nil ?_
  refine then_n ?_
  refine c_seq ?_
  refine c_seq ?_
  refine reg_plain w0 (Nobody) ?_
  refine r_move hS hH.kp0 rfl rfl ?_; clear hS; intro a hS
  refine r_neq hS hH.kp0 rfl rfl rfl ?_; clear hS; intro a hS
  refine r_move hS hH.kp0 rfl rfl ?_; clear hS; intro a hS
  refine Sq.guardYes hS rfl rfl rfl ?_
  refine r_move hS hH.kp0 rfl rfl ?_; clear hS; intro a hS
  refine Sq.guardYes hS rfl rfl rfl ?_
  refine r_ptrNil hS hH.kp0 rfl Fc.isPtr23 rfl ?_; clear hS; intro a hS
  refine r_pickF hS hH.kp0 rfl rfl rfl rfl ?_; clear hS; intro a hS
  refine Sq.nil ?_
  refine then_n ?_
  refine c_condF hS rfl rfl ?_
  refine wp_skip ?_
  refine then_n ?_
  refine c_seq ?_
  refine c_seq ?_
  refine reg_plain w0 (Nobody) ?_
  refine r_move hS hH.kp0 rfl rfl ?_; clear hS; intro a hS
  refine r_lenSl hS hH.kp0 rfl Fc.isSlice22 rfl ?_; clear hS; intro a hS
  refine r_gtr hS hH.kp0 rfl rfl rfl ?_; clear hS; intro a hS
  refine Sq.nil ?_
  refine then_n ?_
  refine c_condF hS rfl (DF (by omega)) ?_
  refine wp_skip ?_
  refine then_n ?_
  refine c_seq ?_
  refine reg_plain w0 (Nobody) ?_
  refine r_move hS hH.kp0 rfl rfl ?_; clear hS; intro a hS
  refine r_move hS hH.kp0 rfl rfl ?_; clear hS; intro a hS
  refine r_call (l := [.tmp 30, .tmp 31]) hS rfl rfl Fc.fn7 rfl ?_
  have hol := lt_of_block (hH.get (b := ob) .here)
  have hgl := lt_of_block (hH.get (b := gb) (.there .here))
  refine Calls.mono (Write_nil ob gb hb 1048576 tq tqc text hl (by decide) _ (hb0.go hH.mod (fun x hx => .inr (by have e : x = ob := hx; omega))) (hH.get (b := ob) (by repeat (first | exact In.here | refine In.there ?_)))) ?_
  rintro e w1 ⟨kv, rfl, hok2, hkv, hm2⟩
  replace hH := hH.upd (by first | exact .here | exact .there .here | exact .there (.there .here) | exact .there (.there (.there .here)) | exact .there (.there (.there (.there .here))) | exact .there (.there (.there (.there (.there .here)))) | exact .there (.there (.there (.there (.there (.there .here))))) | exact .there (.there (.there (.there (.there (.there (.there .here)))))) | exact .there (.there (.there (.there (.there (.there (.there (.there .here))))))) | exact .there (.there (.there (.there (.there (.there (.there (.there (.there .here)))))))) | exact .there (.there (.there (.there (.there (.there (.there (.there (.there (.there .here))))))))) | exact .there (.there (.there (.there (.there (.there (.there (.there (.there (.there (.there .here)))))))))) | exact .there (.there (.there (.there (.there (.there (.there (.there (.there (.there (.there (.there .here))))))))))) | exact .there (.there (.there (.there (.there (.there (.there (.there (.there (.there (.there (.there (.there .here)))))))))))) | exact .there (.there (.there (.there (.there (.there (.there (.there (.there (.there (.there (.there (.there (.there .here))))))))))))) | exact .there (.there (.there (.there (.there (.there (.there (.there (.there (.there (.there (.there (.there (.there (.there .here))))))))))))))) hm2 hok2 (.inr hob0)
  refine ⟨_, rfl, hH.kp0, ?_⟩
  clear hS; intro a hS
  rcases hkv with ⟨hkv, hte⟩ | ⟨kb, kcap, kl, hkv, hkb0, hkk, hBk⟩
  · subst hkv
    have htl : text.length = 0 := by rw [hte]; rfl
    refine r_move hS hH.kp0 rfl rfl ?_; clear hS; intro a hS
    refine r_extract hS hH.kp0 rfl rfl rfl ?_; clear hS; intro a hS
    refine r_extract hS hH.kp0 rfl rfl rfl ?_; clear hS; intro a hS
    refine r_assign hS hH.kp0 rfl rfl ?_; clear hS; intro a hS
    refine r_assign hS hH.kp0 rfl rfl ?_; clear hS; intro a hS
    refine Sq.nil ?_
    refine then_n ?_
    refine c_seq ?_
    refine c_seq ?_
    refine reg_plain w0 (Nobody) ?_
    refine r_move hS hH.kp0 rfl rfl ?_; clear hS; intro a hS
    refine r_move hS hH.kp0 rfl rfl ?_; clear hS; intro a hS
    refine r_lenSl hS hH.kp0 rfl Fc.isSlice22 rfl ?_; clear hS; intro a hS
    refine r_neq hS hH.kp0 rfl rfl rfl ?_; clear hS; intro a hS
    refine r_move hS hH.kp0 rfl rfl ?_; clear hS; intro a hS
    refine Sq.guardYes hS rfl rfl (bne_self_eq_false _) ?_
    refine r_move hS hH.kp0 rfl rfl ?_; clear hS; intro a hS
    refine Sq.guardYes hS rfl rfl (bne_self_eq_false _) ?_
    refine r_neq hS hH.kp0 rfl rfl rfl ?_; clear hS; intro a hS
    refine r_pickF hS hH.kp0 rfl (bne_self_eq_false _) rfl rfl ?_; clear hS; intro a hS
    refine Sq.nil ?_
    refine then_n ?_
    refine c_condF hS rfl rfl ?_
    refine wp_skip ?_
    refine then_n ?_
    refine c_seq ?_
    refine reg_plain w0 (Nobody) ?_
    refine r_move hS hH.kp0 rfl rfl ?_; clear hS; intro a hS
    refine r_andLe 255 hS hH.kp0 rfl rfl (by decide) rfl ?_; clear hS; intro a e1 he1 hS
    refine r_addN0 (m := 1) (k := e1) hS hH.kp0 rfl rfl (by omega) rfl ?_; clear hS; intro a hS
    refine r_assign hS hH.kp0 rfl rfl ?_; clear hS; intro a hS
    refine Sq.nil ?_
    refine then_n ?_
    refine c_seq ?_
    refine reg_plain w0 (Nobody) ?_
    refine r_move hS hH.kp0 rfl rfl ?_; clear hS; intro a hS
    refine r_andLe 4095 hS hH.kp0 rfl rfl (by decide) rfl ?_; clear hS; intro a e2 he2 hS
    refine r_assign hS hH.kp0 rfl rfl ?_; clear hS; intro a hS
    refine Sq.nil ?_
    refine then_n ?_
    refine c_seq ?_
    refine reg_plain w0 (Nobody) ?_
    refine r_assign hS hH.kp0 rfl rfl ?_; clear hS; intro a hS
    refine Sq.nil ?_
    refine then_n ?_
    refine c_seq ?_
    refine wp_block ?_
    refine wp_loop_rounds 1 ?_
    refine rnd ?_
    refine wp_block ?_
    refine c_seq ?_
    refine reg_plain w0 (Nobody) ?_
    refine r_move hS hH.kp0 rfl rfl ?_; clear hS; intro a hS
    refine r_move hS hH.kp0 rfl rfl ?_; clear hS; intro a hS
    refine r_move hS hH.kp0 rfl rfl ?_; clear hS; intro a hS
    refine r_call (l := [.tmp 49, .tmp 50, .tmp 51]) hS rfl rfl Fc.fn8 rfl ?_
    refine Calls.mono (Next_no ob gb hb 1048576 0 0 0 0 none 0 (1 + e1) e2 (by omega) (by omega) (by omega) (by omega) (.inl (by omega)) rfl _ (hH.get (b := ob) (by repeat (first | exact In.here | refine In.there ?_))) (hH.get (b := gb) (by repeat (first | exact In.here | refine In.there ?_))) hng) ?_
    rintro e w1 ⟨rfl, hE⟩
    replace hH := hH.ext hE
    refine ⟨_, rfl, hH.kp0, ?_⟩
    clear hS; intro a hS
    refine r_move hS hH.kp0 rfl rfl ?_; clear hS; intro a hS
    refine r_extract hS hH.kp0 rfl rfl rfl ?_; clear hS; intro a hS
    refine r_extract hS hH.kp0 rfl rfl rfl ?_; clear hS; intro a hS
    refine r_alloc hS hH (by repeat (first | exact Sub.nil | refine Sub.cons ?_ ?_ | exact In.here | refine In.there ?_)) Fc.zc30 rfl ?_
    clear hS hH; intro a w b11 hb11 hwb11 hS hH
    refine r_store_row hS hH rfl rfl (by first | exact .here | exact .there .here | exact .there (.there .here) | exact .there (.there (.there .here)) | exact .there (.there (.there (.there .here))) | exact .there (.there (.there (.there (.there .here)))) | exact .there (.there (.there (.there (.there (.there .here))))) | exact .there (.there (.there (.there (.there (.there (.there .here)))))) | exact .there (.there (.there (.there (.there (.there (.there (.there .here))))))) | exact .there (.there (.there (.there (.there (.there (.there (.there (.there .here)))))))) | exact .there (.there (.there (.there (.there (.there (.there (.there (.there (.there .here))))))))) | exact .there (.there (.there (.there (.there (.there (.there (.there (.there (.there (.there .here)))))))))) | exact .there (.there (.there (.there (.there (.there (.there (.there (.there (.there (.there (.there .here))))))))))) | exact .there (.there (.there (.there (.there (.there (.there (.there (.there (.there (.there (.there (.there .here)))))))))))) | exact .there (.there (.there (.there (.there (.there (.there (.there (.there (.there (.there (.there (.there (.there .here))))))))))))) | exact .there (.there (.there (.there (.there (.there (.there (.there (.there (.there (.there (.there (.there (.there (.there .here))))))))))))))) (by repeat (first | exact Sub.nil | refine Sub.cons ?_ ?_ | exact In.here | refine In.there ?_)) Fc.sz30 (by first | exact hcells_one _ | exact of_decide_eq_true rfl) (by rfl) (by first | exact .inr (by assumption) | exact .inl (by first | assumption | rfl)) ?_
    clear hH; intro w hH
    refine r_assign hS hH.kp0 rfl rfl ?_; clear hS; intro a hS
    refine Sq.nil ?_
    refine then_n ?_
    refine c_seq ?_
    refine c_seq ?_
    refine reg_plain w0 (Nobody) ?_
    refine r_move hS hH.kp0 rfl rfl ?_; clear hS; intro a hS
    refine r_not hS hH.kp0 rfl rfl ?_; clear hS; intro a hS
    refine Sq.nil ?_
    refine then_n ?_
    refine c_condT hS rfl rfl ?_
    refine wp_exit ?_
    refine then_e ?_
    refine blk_e rfl ?_
    refine then_e ?_
    refine blk_hit ?_
    refine then_n ?_
    refine c_seq ?_
    refine reg_plain w0 (Nobody) ?_
    have hw9 : (dueE (0 + 0) 0 1 e2 ((0 : Int) == 1 || (0 : Int) == 3)).2.2 = false := by unfold dueE; rw [if_neg (by omega)]; rfl
    have hd9 : decide ([(0 : Int), ((0 : Nat) : Int)] = [4, 0]) = false := by decide
    refine r_move hS hH.kp0 rfl rfl ?_; clear hS; intro a hS
    refine r_call (l := [.tmp 108]) hS rfl rfl Fc.fn9 rfl ?_
    refine Calls.mono (Sizes_c ob gb hb 1048576 0 0 0 0 none 0 (by omega) _ (hH.get (b := ob) (by repeat (first | exact In.here | refine In.there ?_)))) ?_
    rintro e w1 ⟨rfl, hE⟩
    replace hH := hH.ext hE
    refine ⟨_, rfl, hH.kp0, ?_⟩
    clear hS; intro a hS
    refine r_move hS hH.kp0 rfl rfl ?_; clear hS; intro a hS
    refine r_extract hS hH.kp0 rfl rfl rfl ?_; clear hS; intro a hS
    refine r_extract hS hH.kp0 rfl rfl rfl ?_; clear hS; intro a hS
    refine r_extract hS hH.kp0 rfl rfl rfl ?_; clear hS; intro a hS
    refine r_assign hS hH.kp0 rfl rfl ?_; clear hS; intro a hS
    refine r_assign hS hH.kp0 rfl rfl ?_; clear hS; intro a hS
    refine r_assign hS hH.kp0 rfl rfl ?_; clear hS; intro a hS
    refine Sq.nil ?_
    refine then_n ?_
    refine c_seq ?_
    refine reg_plain w0 (Nobody) ?_
    refine r_move hS hH.kp0 rfl rfl ?_; clear hS; intro a hS
    refine r_move hS hH.kp0 rfl rfl ?_; clear hS; intro a hS
    refine r_move hS hH.kp0 rfl rfl ?_; clear hS; intro a hS
    refine r_lenSl hS hH.kp0 rfl Fc.isSlice22 rfl ?_; clear hS; intro a hS
    refine r_minN (m := e2) (k := text.length) hS hH.kp0 rfl rfl rfl ?_; clear hS; intro a hS
    refine r_eql hS hH.kp0 rfl rfl rfl ?_; clear hS; intro a hS
    refine r_move hS hH.kp0 rfl rfl ?_; clear hS; intro a hS
    refine Sq.guardYes hS rfl rfl (beq_iff_eq.2 (by omega)) ?_
    refine r_move hS hH.kp0 rfl rfl ?_; clear hS; intro a hS
    refine Sq.guardYes hS rfl rfl (beq_iff_eq.2 (by omega)) ?_
    refine r_move hS hH.kp0 rfl rfl ?_; clear hS; intro a hS
    refine Sq.guardYes hS rfl rfl (beq_iff_eq.2 (by omega)) ?_
    refine r_lenSl hS hH.kp0 rfl Fc.isSlice22 rfl ?_; clear hS; intro a hS
    refine Sq.guardYes hS rfl rfl (beq_iff_eq.2 (by omega)) ?_
    refine r_eql hS hH.kp0 rfl rfl rfl ?_; clear hS; intro a hS
    refine r_pickT hS hH.kp0 rfl (beq_iff_eq.2 (by omega)) rfl rfl ?_; clear hS; intro a hS
    refine r_move hS hH.kp0 rfl rfl ?_; clear hS; intro a hS
    refine Sq.guardYes hS rfl rfl (beq_iff_eq.2 (by omega)) ?_
    refine r_move hS hH.kp0 rfl rfl ?_; clear hS; intro a hS
    refine Sq.guardYes hS rfl rfl (beq_iff_eq.2 (by omega)) ?_
    refine r_move hS hH.kp0 rfl rfl ?_; clear hS; intro a hS
    refine Sq.guardYes hS rfl rfl (beq_iff_eq.2 (by omega)) ?_
    refine r_eql hS hH.kp0 rfl rfl rfl ?_; clear hS; intro a hS
    refine r_pickT hS hH.kp0 rfl (beq_iff_eq.2 (by omega)) rfl rfl ?_; clear hS; intro a hS
    refine r_move hS hH.kp0 rfl rfl ?_; clear hS; intro a hS
    refine Sq.guardYes hS rfl rfl (beq_iff_eq.2 (by omega)) ?_
    refine r_move hS hH.kp0 rfl rfl ?_; clear hS; intro a hS
    refine Sq.guardYes hS rfl rfl (beq_iff_eq.2 (by omega)) ?_
    refine r_move hS hH.kp0 rfl rfl ?_; clear hS; intro a hS
    refine Sq.guardYes hS rfl rfl (beq_iff_eq.2 (by omega)) ?_
    refine r_lenSl hS hH.kp0 rfl Fc.isSlice22 rfl ?_; clear hS; intro a hS
    refine Sq.guardYes hS rfl rfl (beq_iff_eq.2 (by omega)) ?_
    refine r_eql hS hH.kp0 rfl rfl rfl ?_; clear hS; intro a hS
    refine r_pickT hS hH.kp0 rfl (beq_iff_eq.2 (by omega)) rfl rfl ?_; clear hS; intro a hS
    refine r_move hS hH.kp0 rfl rfl ?_; clear hS; intro a hS
    refine Sq.guardYes hS rfl rfl (beq_iff_eq.2 (by omega)) ?_
    refine r_move hS hH.kp0 rfl rfl ?_; clear hS; intro a hS
    refine Sq.guardYes hS rfl rfl (beq_iff_eq.2 (by omega)) ?_
    refine r_move hS hH.kp0 rfl rfl ?_; clear hS; intro a hS
    refine Sq.guardYes hS rfl rfl (beq_iff_eq.2 (by omega)) ?_
    refine r_call (l := [.tmp 137, .tmp 138]) hS rfl rfl Fc.fn10 rfl ?_
    refine Calls.mono (Waits_c ob gb hb 1048576 0 0 0 0 none 0 e2 (by omega) (by omega) (by omega) _ (hH.get (b := ob) (by repeat (first | exact In.here | refine In.there ?_))) (hH.get (b := gb) (by repeat (first | exact In.here | refine In.there ?_))) hng) ?_
    rintro e w1 ⟨rfl, hE⟩
    rw [hw9]
    replace hH := hH.ext hE
    refine ⟨_, rfl, hH.kp0, ?_⟩
    clear hS; intro a hS
    refine Sq.guardYes hS rfl rfl (beq_iff_eq.2 (by omega)) ?_
    refine r_not hS hH.kp0 rfl rfl ?_; clear hS; intro a hS
    refine r_pickT hS hH.kp0 rfl (beq_iff_eq.2 (by omega)) rfl rfl ?_; clear hS; intro a hS
    refine r_move hS hH.kp0 rfl rfl ?_; clear hS; intro a hS
    refine Sq.guardYes hS rfl rfl rfl ?_
    refine r_move hS hH.kp0 rfl rfl ?_; clear hS; intro a hS
    refine Sq.guardYes hS rfl rfl rfl ?_
    refine r_call (l := [.tmp 143]) hS rfl rfl Fc.fn11 rfl ?_
    refine Calls.mono (Done_c ob gb hb 1048576 0 0 0 0 none 0 (by omega) ⟨by decide, by decide⟩ _ (hH.get (b := ob) (by repeat (first | exact In.here | refine In.there ?_)))) ?_
    rintro e w1 ⟨rfl, hE⟩
    rw [hd9]
    replace hH := hH.ext hE
    refine ⟨_, rfl, hH.kp0, ?_⟩
    clear hS; intro a hS
    refine Sq.guardYes hS rfl rfl rfl ?_
    refine r_not hS hH.kp0 rfl rfl ?_; clear hS; intro a hS
    refine r_pickT hS hH.kp0 rfl rfl rfl rfl ?_; clear hS; intro a hS
    refine r_assign hS hH.kp0 rfl rfl ?_; clear hS; intro a hS
    refine Sq.nil ?_
    refine then_n ?_
    refine wp_ret ?_
    exact leave (.inl rfl) hS rfl (Res.tmp rfl Res.nil) ⟨rfl, hH.mod⟩
  · subst hkv
    have hkn : ¬ (kb = ob ∨ kb = gb) := by omega
    replace hH := hH.know hkk (by intro p hp; simp only [List.mem_cons, List.not_mem_nil, or_false] at hp; rcases hp with rfl | rfl; exact Nat.ne_of_lt (Nat.lt_of_lt_of_le hol hkb0); exact Nat.ne_of_lt (Nat.lt_of_lt_of_le hgl hkb0))
    have hke := hBk.le
    refine r_move hS hH.kp0 rfl rfl ?_; clear hS; intro a hS
    refine r_extract hS hH.kp0 rfl rfl rfl ?_; clear hS; intro a hS
    refine r_extract hS hH.kp0 rfl rfl rfl ?_; clear hS; intro a hS
    refine r_assign hS hH.kp0 rfl rfl ?_; clear hS; intro a hS
    refine r_assign hS hH.kp0 rfl rfl ?_; clear hS; intro a hS
    refine Sq.nil ?_
    refine then_n ?_
    refine c_seq ?_
    refine c_seq ?_
    refine reg_plain w0 (Nobody) ?_
    refine r_move hS hH.kp0 rfl rfl ?_; clear hS; intro a hS
    refine r_move hS hH.kp0 rfl rfl ?_; clear hS; intro a hS
    refine r_lenSl hS hH.kp0 rfl Fc.isSlice22 rfl ?_; clear hS; intro a hS
    refine r_neq hS hH.kp0 rfl rfl rfl ?_; clear hS; intro a hS
    refine r_move hS hH.kp0 rfl rfl ?_; clear hS; intro a hS
    refine Sq.guardYes hS rfl rfl (bne_self_eq_false _) ?_
    refine r_move hS hH.kp0 rfl rfl ?_; clear hS; intro a hS
    refine Sq.guardYes hS rfl rfl (bne_self_eq_false _) ?_
    refine r_neq hS hH.kp0 rfl rfl rfl ?_; clear hS; intro a hS
    refine r_pickF hS hH.kp0 rfl (bne_self_eq_false _) rfl rfl ?_; clear hS; intro a hS
    refine Sq.nil ?_
    refine then_n ?_
    refine c_condF hS rfl rfl ?_
    refine wp_skip ?_
    refine then_n ?_
    refine c_seq ?_
    refine reg_plain w0 (Nobody) ?_
    refine r_move hS hH.kp0 rfl rfl ?_; clear hS; intro a hS
    refine r_andLe 255 hS hH.kp0 rfl rfl (by decide) rfl ?_; clear hS; intro a e1 he1 hS
    refine r_addN0 (m := 1) (k := e1) hS hH.kp0 rfl rfl (by omega) rfl ?_; clear hS; intro a hS
    refine r_assign hS hH.kp0 rfl rfl ?_; clear hS; intro a hS
    refine Sq.nil ?_
    refine then_n ?_
    refine c_seq ?_
    refine reg_plain w0 (Nobody) ?_
    refine r_move hS hH.kp0 rfl rfl ?_; clear hS; intro a hS
    refine r_andLe 4095 hS hH.kp0 rfl rfl (by decide) rfl ?_; clear hS; intro a e2 he2 hS
    refine r_assign hS hH.kp0 rfl rfl ?_; clear hS; intro a hS
    refine Sq.nil ?_
    refine then_n ?_
    refine c_seq ?_
    refine reg_plain w0 (Nobody) ?_
    refine r_assign hS hH.kp0 rfl rfl ?_; clear hS; intro a hS
    refine Sq.nil ?_
    refine then_n ?_
    refine c_seq ?_
    refine wp_block ?_
    refine c_loop (fun m a w => ∃ at_ : Nat, m + at_ = e2 ∧ at_ ≤ text.length ∧ St 147 (lv [(0, .slice tq text.length tqc), (1, .int .i64 ((1 + e1 : Nat) : Int)), (2, .int .i64 (e2 : Int)), (6, .bool false), (7, .pointer (some ⟨ob, 0, none⟩)), (10, .int .i64 (at_ : Int))]) a ∧ Hp w0 Nobody [(kb, .cells kl.toArray 5 (0, 0)), (ob, .cells ([.int .i64 ((1048576 : Nat) : Int), .int .i64 0, .slice (some ⟨kb, 0, none⟩) text.length kcap, .int .i64 (at_ : Int), .pointer (some ⟨gb, 0, none⟩), .pointer (some ⟨hb, 0, none⟩), .int .i64 0] : List Value).toArray 70 (0, 0)), (gb, .cells ([.bool true, .slice none 0 0] : List Value).toArray 89 (0, 0))] w) (e2) ?_ ?_
    · exact ⟨0, by omega, by omega, hS.live ⟨rfl, rfl, rfl, rfl, rfl, rfl, trivial⟩, hH⟩
    clear hS hH; intro m a w hI; obtain ⟨at_, h1, h2, hS, hH⟩ := hI
    refine wp_block ?_
    refine c_seq ?_
    refine reg_plain w0 (Nobody) ?_
    refine r_move hS hH.kp0 rfl rfl ?_; clear hS; intro a hS
    refine r_move hS hH.kp0 rfl rfl ?_; clear hS; intro a hS
    refine r_move hS hH.kp0 rfl rfl ?_; clear hS; intro a hS
    rcases (by omega : (at_ < text.length ∧ at_ < e2) ∨ (0 + text.length ≤ at_ ∨ e2 ≤ at_)) with ⟨ha, hlm⟩ | hno
    · obtain ⟨mm, hmm⟩ : ∃ mm, mm = min (1 + e1) (min text.length e2 - at_) := ⟨_, rfl⟩
      have hm1 : 1 ≤ mm := by omega
      have hm2 : at_ + mm ≤ text.length := by omega
      have hm3 : at_ + mm ≤ e2 := by omega
      have hm4 : mm ≤ 1 + e1 := by omega
      obtain ⟨ta, to, htq⟩ := hb0.addr (by omega)
      subst htq
      have htc := hb0.len.2
      have hpart : ∀ w, Mod Nobody w0 w → Bs w (.slice (some (if tqc = at_ then ⟨ta, to, none⟩ else ⟨ta, to + at_ * 1, none⟩)) (at_ + mm - at_) (tqc - at_)) ((text.drop at_).take mm) := fun w k => by have h := (BsF.part hb0 (ll := at_) (hh := at_ + mm) (by omega) (by omega)) w k; rwa [show (text.drop at_).take (at_ + mm - at_) = (text.drop at_).take mm by rw [show at_ + mm - at_ = mm by omega]] at h
      refine r_call (l := [.tmp 49, .tmp 50, .tmp 51]) hS rfl rfl Fc.fn8 rfl ?_
      have hl1 := lt_of_block (hH.get (b := kb) .here)
      have hl2 := lt_of_block (hH.get (b := ob) (.there .here))
      have hl3 := lt_of_block (hH.get (b := gb) (.there (.there .here)))
      refine Calls.mono (Next_yes ob gb hb 1048576 at_ text.length kcap kb 0 text rfl (1 + e1) e2 mm (by omega) ha (by omega) (by omega) hlm (by omega) hmm _ (hBk.bsF (hH.get (b := kb) (by repeat (first | exact In.here | refine In.there ?_))) hkn) (hH.get (b := ob) (by repeat (first | exact In.here | refine In.there ?_))) (hH.get (b := gb) (by repeat (first | exact In.here | refine In.there ?_))) hng) ?_
      rintro e w1 ⟨cb, cap, cl, rfl, hcb, hck, hBc, hok3, hgk3, hco, hcg, hm3_⟩
      replace hH := (hH.upd2 (by first | exact .here | exact .there .here | exact .there (.there .here) | exact .there (.there (.there .here)) | exact .there (.there (.there (.there .here))) | exact .there (.there (.there (.there (.there .here)))) | exact .there (.there (.there (.there (.there (.there .here))))) | exact .there (.there (.there (.there (.there (.there (.there .here)))))) | exact .there (.there (.there (.there (.there (.there (.there (.there .here))))))) | exact .there (.there (.there (.there (.there (.there (.there (.there (.there .here)))))))) | exact .there (.there (.there (.there (.there (.there (.there (.there (.there (.there .here))))))))) | exact .there (.there (.there (.there (.there (.there (.there (.there (.there (.there (.there .here)))))))))) | exact .there (.there (.there (.there (.there (.there (.there (.there (.there (.there (.there (.there .here))))))))))) | exact .there (.there (.there (.there (.there (.there (.there (.there (.there (.there (.there (.there (.there .here)))))))))))) | exact .there (.there (.there (.there (.there (.there (.there (.there (.there (.there (.there (.there (.there (.there .here))))))))))))) | exact .there (.there (.there (.there (.there (.there (.there (.there (.there (.there (.there (.there (.there (.there (.there .here))))))))))))))) (by first | exact .here | exact .there .here | exact .there (.there .here) | exact .there (.there (.there .here)) | exact .there (.there (.there (.there .here))) | exact .there (.there (.there (.there (.there .here)))) | exact .there (.there (.there (.there (.there (.there .here))))) | exact .there (.there (.there (.there (.there (.there (.there .here)))))) | exact .there (.there (.there (.there (.there (.there (.there (.there .here))))))) | exact .there (.there (.there (.there (.there (.there (.there (.there (.there .here)))))))) | exact .there (.there (.there (.there (.there (.there (.there (.there (.there (.there .here))))))))) | exact .there (.there (.there (.there (.there (.there (.there (.there (.there (.there (.there .here)))))))))) | exact .there (.there (.there (.there (.there (.there (.there (.there (.there (.there (.there (.there .here))))))))))) | exact .there (.there (.there (.there (.there (.there (.there (.there (.there (.there (.there (.there (.there .here)))))))))))) | exact .there (.there (.there (.there (.there (.there (.there (.there (.there (.there (.there (.there (.there (.there .here))))))))))))) | exact .there (.there (.there (.there (.there (.there (.there (.there (.there (.there (.there (.there (.there (.there (.there .here))))))))))))))) hm3_ hok3 hgk3 (.inr hob0) (.inr hgb0)).know hck (by intro p hp; simp only [List.mem_cons, List.not_mem_nil, or_false] at hp; rcases hp with rfl | rfl | rfl; exact Nat.ne_of_lt (Nat.lt_of_lt_of_le hl1 hcb); exact hco.symm; exact hcg.symm)
      refine ⟨_, rfl, hH.kp0, ?_⟩
      clear hS; intro a hS
      refine r_move hS hH.kp0 rfl rfl ?_; clear hS; intro a hS
      refine r_extract hS hH.kp0 rfl rfl rfl ?_; clear hS; intro a hS
      refine r_extract hS hH.kp0 rfl rfl rfl ?_; clear hS; intro a hS
      refine r_alloc hS hH (by repeat (first | exact Sub.nil | refine Sub.cons ?_ ?_ | exact In.here | refine In.there ?_)) Fc.zc30 rfl ?_
      clear hS hH; intro a w b11 hb11 hwb11 hS hH
      refine r_store_row hS hH rfl rfl (by first | exact .here | exact .there .here | exact .there (.there .here) | exact .there (.there (.there .here)) | exact .there (.there (.there (.there .here))) | exact .there (.there (.there (.there (.there .here)))) | exact .there (.there (.there (.there (.there (.there .here))))) | exact .there (.there (.there (.there (.there (.there (.there .here)))))) | exact .there (.there (.there (.there (.there (.there (.there (.there .here))))))) | exact .there (.there (.there (.there (.there (.there (.there (.there (.there .here)))))))) | exact .there (.there (.there (.there (.there (.there (.there (.there (.there (.there .here))))))))) | exact .there (.there (.there (.there (.there (.there (.there (.there (.there (.there (.there .here)))))))))) | exact .there (.there (.there (.there (.there (.there (.there (.there (.there (.there (.there (.there .here))))))))))) | exact .there (.there (.there (.there (.there (.there (.there (.there (.there (.there (.there (.there (.there .here)))))))))))) | exact .there (.there (.there (.there (.there (.there (.there (.there (.there (.there (.there (.there (.there (.there .here))))))))))))) | exact .there (.there (.there (.there (.there (.there (.there (.there (.there (.there (.there (.there (.there (.there (.there .here))))))))))))))) (by repeat (first | exact Sub.nil | refine Sub.cons ?_ ?_ | exact In.here | refine In.there ?_)) Fc.sz30 (by first | exact hcells_one _ | exact of_decide_eq_true rfl) (by rfl) (by first | exact .inr (by assumption) | exact .inl (by first | assumption | rfl)) ?_
      clear hH; intro w hH
      refine r_assign hS hH.kp0 rfl rfl ?_; clear hS; intro a hS
      refine Sq.nil ?_
      refine then_n ?_
      refine c_seq ?_
      refine c_seq ?_
      refine reg_plain w0 (Nobody) ?_
      refine r_move hS hH.kp0 rfl rfl ?_; clear hS; intro a hS
      refine r_not hS hH.kp0 rfl rfl ?_; clear hS; intro a hS
      refine Sq.nil ?_
      refine then_n ?_
      refine c_condF hS rfl rfl ?_
      refine wp_skip ?_
      refine then_n ?_
      refine c_seq ?_
      refine c_seq ?_
      refine reg_draw [(true, 0, []), (true, 1, []), (true, 2, []), (true, 3, []), (true, 4, []), (true, 5, []), (true, 6, []), (true, 7, []), (true, 8, []), (true, 9, []), (true, 10, []), (true, 11, []), (true, 12, []), (true, 13, []), (true, 14, []), (true, 15, []), (true, 16, []), (true, 17, []), (true, 18, []), (true, 19, []), (true, 20, []), (true, 21, []), (true, 22, []), (true, 23, []), (true, 24, []), (true, 25, []), (true, 26, []), (true, 27, []), (true, 28, []), (true, 29, []), (true, 30, []), (true, 31, []), (true, 32, []), (true, 33, []), (true, 34, []), (true, 35, []), (true, 36, []), (true, 37, []), (true, 38, []), (true, 39, []), (true, 40, []), (true, 41, []), (true, 42, []), (true, 43, []), (true, 44, [])] Fc.mixed (by kernel_rfl) (by kernel_rfl) (by kernel_rfl) (by kernel_rfl) (by kernel_rfl) (by repeat (first | with_reducible exact steady_body | with_reducible exact steady_bodyQ | with_reducible apply steady_block | with_reducible apply steady_then | with_reducible apply steady_scope | exact steady_body)) hH ?_
      replace hH := hH.drew
      refine r_fieldAddr hS trivial rfl Fc.fo30_0 rfl ?_; clear hS; intro a hS
      refine r_load_scS hS rfl (by repeat (first | exact In.here | refine In.there ?_)) Fc.sc3 (by rfl) rfl ?_; clear hS; intro a hS
      refine r_move hS trivial rfl rfl ?_; clear hS; intro a hS
      refine r_neq hS trivial rfl rfl rfl ?_; clear hS; intro a hS
      refine r_move hS trivial rfl rfl ?_; clear hS; intro a hS
      refine Sq.guardYes hS rfl rfl (bne_self_eq_false _) ?_
      refine r_fieldAddr hS trivial rfl Fc.fo30_1 rfl ?_; clear hS; intro a hS
      refine Sq.guardYes hS rfl rfl (bne_self_eq_false _) ?_
      refine r_load_scS hS rfl (by repeat (first | exact In.here | refine In.there ?_)) Fc.sc22 (by rfl) rfl ?_; clear hS; intro a hS
      refine Sq.guardYes hS rfl rfl (bne_self_eq_false _) ?_
      refine r_lenSl hS trivial rfl Fc.isSlice22 rfl ?_; clear hS; intro a hS
      refine Sq.guardYes hS rfl rfl (bne_self_eq_false _) ?_
      refine r_eql hS trivial rfl rfl rfl ?_; clear hS; intro a hS
      refine r_pickF hS trivial rfl (bne_self_eq_false _) rfl rfl ?_; clear hS; intro a hS
      refine r_move hS trivial rfl rfl ?_; clear hS; intro a hS
      refine Sq.guardYes hS rfl rfl (beq_false_of_ne (by omega)) ?_
      refine r_fieldAddr hS trivial rfl Fc.fo30_1 rfl ?_; clear hS; intro a hS
      refine Sq.guardYes hS rfl rfl (beq_false_of_ne (by omega)) ?_
      refine r_load_scS hS rfl (by repeat (first | exact In.here | refine In.there ?_)) Fc.sc22 (by rfl) rfl ?_; clear hS; intro a hS
      refine Sq.guardYes hS rfl rfl (beq_false_of_ne (by omega)) ?_
      refine r_lenSl hS trivial rfl Fc.isSlice22 rfl ?_; clear hS; intro a hS
      refine Sq.guardYes hS rfl rfl (beq_false_of_ne (by omega)) ?_
      refine r_move hS trivial rfl rfl ?_; clear hS; intro a hS
      refine Sq.guardYes hS rfl rfl (beq_false_of_ne (by omega)) ?_
      refine r_gtr hS trivial rfl rfl rfl ?_; clear hS; intro a hS
      refine r_pickF hS trivial rfl (beq_false_of_ne (by omega)) rfl rfl ?_; clear hS; intro a hS
      refine r_move hS trivial rfl rfl ?_; clear hS; intro a hS
      refine Sq.guardYes hS rfl rfl (DF (by omega)) ?_
      refine r_move hS trivial rfl rfl ?_; clear hS; intro a hS
      refine Sq.guardYes hS rfl rfl (DF (by omega)) ?_
      refine r_fieldAddr hS trivial rfl Fc.fo30_1 rfl ?_; clear hS; intro a hS
      refine Sq.guardYes hS rfl rfl (DF (by omega)) ?_
      refine r_load_scS hS rfl (by repeat (first | exact In.here | refine In.there ?_)) Fc.sc22 (by rfl) rfl ?_; clear hS; intro a hS
      refine Sq.guardYes hS rfl rfl (DF (by omega)) ?_
      refine r_lenSl hS trivial rfl Fc.isSlice22 rfl ?_; clear hS; intro a hS
      refine Sq.guardYes hS rfl rfl (DF (by omega)) ?_
      (first | refine r_add hS trivial rfl rfl rfl (by omega) ?_ | refine r_addw hS trivial rfl rfl rfl ?_)
      clear hS; intro a hS
      refine Sq.guardYes hS rfl rfl (DF (by omega)) ?_
      refine r_move hS trivial rfl rfl ?_; clear hS; intro a hS
      refine Sq.guardYes hS rfl rfl (DF (by omega)) ?_
      refine r_gtr hS trivial rfl rfl rfl ?_; clear hS; intro a hS
      refine r_pickF hS trivial rfl (DF (by omega)) rfl rfl ?_; clear hS; intro a hS
      refine r_move hS trivial rfl rfl ?_; clear hS; intro a hS
      refine Sq.guardYes hS rfl rfl (DF (by omega)) ?_
      refine r_fieldAddr hS trivial rfl Fc.fo30_1 rfl ?_; clear hS; intro a hS
      refine Sq.guardYes hS rfl rfl (DF (by omega)) ?_
      refine r_load_scS hS rfl (by repeat (first | exact In.here | refine In.there ?_)) Fc.sc22 (by rfl) rfl ?_; clear hS; intro a hS
      refine Sq.guardYes hS rfl rfl (DF (by omega)) ?_
      refine r_bytesStrS hS rfl (fun w hw => hBc.preBs (n := mm) (by rw [List.length_take, List.length_drop]; omega) (hw.1 _ (In.mem (b := cb) (by repeat (first | exact In.here | refine In.there ?_))))) Fc.u8s22 Fc.isStr9 rfl ?_; clear hS; intro a hS
      rw [List.take_of_length_le (show ((text.drop at_).take mm).length ≤ mm by rw [List.length_take]; omega)] at hS
      refine Sq.guardYes hS rfl rfl (DF (by omega)) ?_
      refine r_move hS trivial rfl rfl ?_; clear hS; intro a hS
      refine Sq.guardYes hS rfl rfl (DF (by omega)) ?_
      refine r_move hS trivial rfl rfl ?_; clear hS; intro a hS
      refine Sq.guardYes hS rfl rfl (DF (by omega)) ?_
      refine r_move hS trivial rfl rfl ?_; clear hS; intro a hS
      refine Sq.guardYes hS rfl rfl (DF (by omega)) ?_
      refine r_fieldAddr hS trivial rfl Fc.fo30_1 rfl ?_; clear hS; intro a hS
      refine Sq.guardYes hS rfl rfl (DF (by omega)) ?_
      refine r_load_scS hS rfl (by repeat (first | exact In.here | refine In.there ?_)) Fc.sc22 (by rfl) rfl ?_; clear hS; intro a hS
      refine Sq.guardYes hS rfl rfl (DF (by omega)) ?_
      refine r_lenSl hS trivial rfl Fc.isSlice22 rfl ?_; clear hS; intro a hS
      refine Sq.guardYes hS rfl rfl (DF (by omega)) ?_
      (first | refine r_add hS trivial rfl rfl rfl (by omega) ?_ | refine r_addw hS trivial rfl rfl rfl ?_)
      clear hS; intro a hS
      refine Sq.guardYes hS rfl rfl (DF (by omega)) ?_
      refine r_slLoHi (ll := at_) (hh := at_ + mm) hS trivial rfl rfl rfl Fc.slb22 rfl (by omega) (by omega) (by omega) rfl ?_; clear hS; intro a hS
      refine Sq.guardYes hS rfl rfl (DF (by omega)) ?_
      refine r_bytesStrS hS rfl (fun w hw => hpart w hw.2) Fc.u8s22 Fc.isStr9 rfl ?_; clear hS; intro a hS
      refine Sq.guardYes hS rfl rfl (DF (by omega)) ?_
      refine r_strNeq hS trivial rfl rfl rfl ?_; clear hS; intro a hS
      refine r_pickF hS trivial rfl (DF (by omega)) rfl rfl ?_; clear hS; intro a hS
      refine r_move hS trivial rfl rfl ?_; clear hS; intro a hS
      refine Sq.guardYes hS rfl rfl (congrArg not (beq_self_eq_true _)) ?_
      refine r_fieldAddr hS trivial rfl Fc.fo30_2 rfl ?_; clear hS; intro a hS
      refine Sq.guardYes hS rfl rfl (congrArg not (beq_self_eq_true _)) ?_
      refine r_load_scS hS rfl (by repeat (first | exact In.here | refine In.there ?_)) Fc.sc4 (by rfl) rfl ?_; clear hS; intro a hS
      refine r_pickF hS trivial rfl (congrArg not (beq_self_eq_true _)) rfl rfl ?_; clear hS; intro a hS
      refine Sq.nil ?_
      refine then_n ?_
      refine c_condF hS rfl rfl ?_
      refine wp_skip ?_
      refine then_n ?_
      refine reg_plain w0 (Nobody) ?_
      refine r_move hS hH.kp0 rfl rfl ?_; clear hS; intro a hS
      refine r_fieldAddr hS hH.kp0 rfl Fc.fo30_1 rfl ?_; clear hS; intro a hS
      refine r_load_sc hS hH (by repeat (first | exact Sub.nil | refine Sub.cons ?_ ?_ | exact In.here | refine In.there ?_)) rfl (by repeat (first | exact In.here | refine In.there ?_)) Fc.sc22 (by rfl) rfl ?_; clear hS; intro a hS
      refine r_lenSl hS hH.kp0 rfl Fc.isSlice22 rfl ?_; clear hS; intro a hS
      (first | refine r_add hS hH.kp0 rfl rfl rfl (by omega) ?_ | refine r_addw hS hH.kp0 rfl rfl rfl ?_)
      clear hS; intro a hS
      refine r_assign hS hH.kp0 rfl rfl ?_; clear hS; intro a hS
      refine Sq.nil ?_
      refine blk_n ?_
      refine then_n ?_
      rw [show (at_ : Int) + (mm : Int) = ((at_ + mm : Nat) : Int) by omega] at hS
      refine ⟨m - mm, by omega, at_ + mm, by omega, by omega, hS.live ⟨rfl, rfl, rfl, rfl, rfl, rfl, trivial⟩, ?_⟩
      refine Hp.less hH ?_
      (repeat (first | refine List.Sublist.cons_cons _ ?_ | refine List.Sublist.cons _ ?_)); exact List.nil_sublist _
    · refine r_call (l := [.tmp 49, .tmp 50, .tmp 51]) hS rfl rfl Fc.fn8 rfl ?_
      refine Calls.mono (Next_no ob gb hb 1048576 0 at_ text.length kcap (some ⟨kb, 0, none⟩) 0 (1 + e1) e2 (by omega) (by omega) (by omega) (by omega) (by omega) rfl _ (hH.get (b := ob) (by repeat (first | exact In.here | refine In.there ?_))) (hH.get (b := gb) (by repeat (first | exact In.here | refine In.there ?_))) hng) ?_
      rintro e w1 ⟨rfl, hE⟩
      replace hH := hH.ext hE
      refine ⟨_, rfl, hH.kp0, ?_⟩
      clear hS; intro a hS
      refine r_move hS hH.kp0 rfl rfl ?_; clear hS; intro a hS
      refine r_extract hS hH.kp0 rfl rfl rfl ?_; clear hS; intro a hS
      refine r_extract hS hH.kp0 rfl rfl rfl ?_; clear hS; intro a hS
      refine r_alloc hS hH (by repeat (first | exact Sub.nil | refine Sub.cons ?_ ?_ | exact In.here | refine In.there ?_)) Fc.zc30 rfl ?_
      clear hS hH; intro a w b11 hb11 hwb11 hS hH
      refine r_store_row hS hH rfl rfl (by first | exact .here | exact .there .here | exact .there (.there .here) | exact .there (.there (.there .here)) | exact .there (.there (.there (.there .here))) | exact .there (.there (.there (.there (.there .here)))) | exact .there (.there (.there (.there (.there (.there .here))))) | exact .there (.there (.there (.there (.there (.there (.there .here)))))) | exact .there (.there (.there (.there (.there (.there (.there (.there .here))))))) | exact .there (.there (.there (.there (.there (.there (.there (.there (.there .here)))))))) | exact .there (.there (.there (.there (.there (.there (.there (.there (.there (.there .here))))))))) | exact .there (.there (.there (.there (.there (.there (.there (.there (.there (.there (.there .here)))))))))) | exact .there (.there (.there (.there (.there (.there (.there (.there (.there (.there (.there (.there .here))))))))))) | exact .there (.there (.there (.there (.there (.there (.there (.there (.there (.there (.there (.there (.there .here)))))))))))) | exact .there (.there (.there (.there (.there (.there (.there (.there (.there (.there (.there (.there (.there (.there .here))))))))))))) | exact .there (.there (.there (.there (.there (.there (.there (.there (.there (.there (.there (.there (.there (.there (.there .here))))))))))))))) (by repeat (first | exact Sub.nil | refine Sub.cons ?_ ?_ | exact In.here | refine In.there ?_)) Fc.sz30 (by first | exact hcells_one _ | exact of_decide_eq_true rfl) (by rfl) (by first | exact .inr (by assumption) | exact .inl (by first | assumption | rfl)) ?_
      clear hH; intro w hH
      refine r_assign hS hH.kp0 rfl rfl ?_; clear hS; intro a hS
      refine Sq.nil ?_
      refine then_n ?_
      refine c_seq ?_
      refine c_seq ?_
      refine reg_plain w0 (Nobody) ?_
      refine r_move hS hH.kp0 rfl rfl ?_; clear hS; intro a hS
      refine r_not hS hH.kp0 rfl rfl ?_; clear hS; intro a hS
      refine Sq.nil ?_
      refine then_n ?_
      refine c_condT hS rfl rfl ?_
      refine wp_exit ?_
      refine then_e ?_
      refine blk_e rfl ?_
      refine then_e ?_
      refine blk_hit ?_
      refine then_n ?_
      refine c_seq ?_
      refine reg_plain w0 (Nobody) ?_
      have hw9 : (dueE (0 + text.length) at_ 1 e2 ((0 : Int) == 1 || (0 : Int) == 3)).2.2 = false := by unfold dueE; split; (rw [if_pos (by omega)]); rfl
      have hd9 : decide ([(0 : Int), (text.length : Int)] = [4, 0]) = false := by simp
      refine r_move hS hH.kp0 rfl rfl ?_; clear hS; intro a hS
      refine r_call (l := [.tmp 108]) hS rfl rfl Fc.fn9 rfl ?_
      refine Calls.mono (Sizes_c ob gb hb 1048576 0 at_ text.length kcap (some ⟨kb, 0, none⟩) 0 (by omega) _ (hH.get (b := ob) (by repeat (first | exact In.here | refine In.there ?_)))) ?_
      rintro e w1 ⟨rfl, hE⟩
      replace hH := hH.ext hE
      refine ⟨_, rfl, hH.kp0, ?_⟩
      clear hS; intro a hS
      refine r_move hS hH.kp0 rfl rfl ?_; clear hS; intro a hS
      refine r_extract hS hH.kp0 rfl rfl rfl ?_; clear hS; intro a hS
      refine r_extract hS hH.kp0 rfl rfl rfl ?_; clear hS; intro a hS
      refine r_extract hS hH.kp0 rfl rfl rfl ?_; clear hS; intro a hS
      refine r_assign hS hH.kp0 rfl rfl ?_; clear hS; intro a hS
      refine r_assign hS hH.kp0 rfl rfl ?_; clear hS; intro a hS
      refine r_assign hS hH.kp0 rfl rfl ?_; clear hS; intro a hS
      refine Sq.nil ?_
      refine then_n ?_
      refine c_seq ?_
      refine reg_plain w0 (Nobody) ?_
      refine r_move hS hH.kp0 rfl rfl ?_; clear hS; intro a hS
      refine r_move hS hH.kp0 rfl rfl ?_; clear hS; intro a hS
      refine r_move hS hH.kp0 rfl rfl ?_; clear hS; intro a hS
      refine r_lenSl hS hH.kp0 rfl Fc.isSlice22 rfl ?_; clear hS; intro a hS
      refine r_minN (m := e2) (k := text.length) hS hH.kp0 rfl rfl rfl ?_; clear hS; intro a hS
      refine r_eql hS hH.kp0 rfl rfl rfl ?_; clear hS; intro a hS
      refine r_move hS hH.kp0 rfl rfl ?_; clear hS; intro a hS
      refine Sq.guardYes hS rfl rfl (beq_iff_eq.2 (by omega)) ?_
      refine r_move hS hH.kp0 rfl rfl ?_; clear hS; intro a hS
      refine Sq.guardYes hS rfl rfl (beq_iff_eq.2 (by omega)) ?_
      refine r_move hS hH.kp0 rfl rfl ?_; clear hS; intro a hS
      refine Sq.guardYes hS rfl rfl (beq_iff_eq.2 (by omega)) ?_
      refine r_lenSl hS hH.kp0 rfl Fc.isSlice22 rfl ?_; clear hS; intro a hS
      refine Sq.guardYes hS rfl rfl (beq_iff_eq.2 (by omega)) ?_
      refine r_eql hS hH.kp0 rfl rfl rfl ?_; clear hS; intro a hS
      refine r_pickT hS hH.kp0 rfl (beq_iff_eq.2 (by omega)) rfl rfl ?_; clear hS; intro a hS
      refine r_move hS hH.kp0 rfl rfl ?_; clear hS; intro a hS
      refine Sq.guardYes hS rfl rfl (beq_iff_eq.2 (by omega)) ?_
      refine r_move hS hH.kp0 rfl rfl ?_; clear hS; intro a hS
      refine Sq.guardYes hS rfl rfl (beq_iff_eq.2 (by omega)) ?_
      refine r_move hS hH.kp0 rfl rfl ?_; clear hS; intro a hS
      refine Sq.guardYes hS rfl rfl (beq_iff_eq.2 (by omega)) ?_
      refine r_eql hS hH.kp0 rfl rfl rfl ?_; clear hS; intro a hS
      refine r_pickT hS hH.kp0 rfl (beq_iff_eq.2 (by omega)) rfl rfl ?_; clear hS; intro a hS
      refine r_move hS hH.kp0 rfl rfl ?_; clear hS; intro a hS
      refine Sq.guardYes hS rfl rfl (beq_iff_eq.2 (by omega)) ?_
      refine r_move hS hH.kp0 rfl rfl ?_; clear hS; intro a hS
      refine Sq.guardYes hS rfl rfl (beq_iff_eq.2 (by omega)) ?_
      refine r_move hS hH.kp0 rfl rfl ?_; clear hS; intro a hS
      refine Sq.guardYes hS rfl rfl (beq_iff_eq.2 (by omega)) ?_
      refine r_lenSl hS hH.kp0 rfl Fc.isSlice22 rfl ?_; clear hS; intro a hS
      refine Sq.guardYes hS rfl rfl (beq_iff_eq.2 (by omega)) ?_
      refine r_eql hS hH.kp0 rfl rfl rfl ?_; clear hS; intro a hS
      refine r_pickT hS hH.kp0 rfl (beq_iff_eq.2 (by omega)) rfl rfl ?_; clear hS; intro a hS
      refine r_move hS hH.kp0 rfl rfl ?_; clear hS; intro a hS
      refine Sq.guardYes hS rfl rfl (beq_iff_eq.2 (by omega)) ?_
      refine r_move hS hH.kp0 rfl rfl ?_; clear hS; intro a hS
      refine Sq.guardYes hS rfl rfl (beq_iff_eq.2 (by omega)) ?_
      refine r_move hS hH.kp0 rfl rfl ?_; clear hS; intro a hS
      refine Sq.guardYes hS rfl rfl (beq_iff_eq.2 (by omega)) ?_
      refine r_call (l := [.tmp 137, .tmp 138]) hS rfl rfl Fc.fn10 rfl ?_
      refine Calls.mono (Waits_c ob gb hb 1048576 0 at_ text.length kcap (some ⟨kb, 0, none⟩) 0 e2 (by omega) (by omega) (by omega) _ (hH.get (b := ob) (by repeat (first | exact In.here | refine In.there ?_))) (hH.get (b := gb) (by repeat (first | exact In.here | refine In.there ?_))) hng) ?_
      rintro e w1 ⟨rfl, hE⟩
      rw [hw9]
      replace hH := hH.ext hE
      refine ⟨_, rfl, hH.kp0, ?_⟩
      clear hS; intro a hS
      refine Sq.guardYes hS rfl rfl (beq_iff_eq.2 (by omega)) ?_
      refine r_not hS hH.kp0 rfl rfl ?_; clear hS; intro a hS
      refine r_pickT hS hH.kp0 rfl (beq_iff_eq.2 (by omega)) rfl rfl ?_; clear hS; intro a hS
      refine r_move hS hH.kp0 rfl rfl ?_; clear hS; intro a hS
      refine Sq.guardYes hS rfl rfl rfl ?_
      refine r_move hS hH.kp0 rfl rfl ?_; clear hS; intro a hS
      refine Sq.guardYes hS rfl rfl rfl ?_
      refine r_call (l := [.tmp 143]) hS rfl rfl Fc.fn11 rfl ?_
      refine Calls.mono (Done_c ob gb hb 1048576 0 at_ text.length kcap (some ⟨kb, 0, none⟩) 0 (by omega) ⟨by decide, by decide⟩ _ (hH.get (b := ob) (by repeat (first | exact In.here | refine In.there ?_)))) ?_
      rintro e w1 ⟨rfl, hE⟩
      rw [hd9]
      replace hH := hH.ext hE
      refine ⟨_, rfl, hH.kp0, ?_⟩
      clear hS; intro a hS
      refine Sq.guardYes hS rfl rfl rfl ?_
      refine r_not hS hH.kp0 rfl rfl ?_; clear hS; intro a hS
      refine r_pickT hS hH.kp0 rfl rfl rfl rfl ?_; clear hS; intro a hS
      refine r_assign hS hH.kp0 rfl rfl ?_; clear hS; intro a hS
      refine Sq.nil ?_
      refine then_n ?_
      refine wp_ret ?_
      exact leave (.inl rfl) hS rfl (Res.tmp rfl Res.nil) ⟨rfl, hH.mod⟩

end Go.Proofs.Ytkhcbllphdhbdaa
