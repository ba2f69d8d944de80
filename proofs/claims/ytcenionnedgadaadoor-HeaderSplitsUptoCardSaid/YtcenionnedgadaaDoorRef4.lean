/- HeaderSplits: any datagram is cut into the packets that the document says. Conditions: those of the given row (arguments of at most 1048576 values and letters; the listed variables hold what the text lays). Part Ref4: walks and lemmas of the proof. -/
import Derived.Test.YtcenionnedgadaaDoorRef3
namespace Go.Proofs.YtcenionnedgadaaDoor
open Go.Sym

theorem refQ_some {l : List UInt8} {x0 : UInt8} {ids : Int} (h : l[0]? = some x0) (h0 : 0 ≤ ids) (h20 : ids ≤ 20) : refQ l ids = (if x0.toNat < 128 then (if x0.toNat < 64 then .inl 11 else if l.length < 1 + ids.toNat then .inl 10 else .inr (⟨5, 0, (l.drop 1).take ids.toNat, [], [], 0, decide (x0.toNat / 4 % 2 = 1), [], z16⟩, 1 + ids.toNat))
    else if l.length < 5 then .inl 10
    else match idQ l 5 with
      | .inl e => .inl e
      | .inr (dst, p1) => match idQ l p1 with
        | .inl e => .inl e
        | .inr (src, p2) => lateQ l x0.toNat (beN ((l.drop 1).take 4)) dst src p2) := by
  cases l with
  | nil => cases h
  | cons y t =>
    simp at h; subst h
    unfold refQ
    rw [if_neg (by omega)]
    rfl
theorem own_neH {w : World} {a b : Nat} {c d : Array Value} (h1 : w.heap[a]? = some (.cells c 41 (0, 0))) (h2 : w.heap[b]? = some (.cells d 3 (0, 0))) : a ≠ b := by
  intro e
  rw [e, h2] at h1
  simp at h1

theorem Fc.fn38 : isFn Tryd.prog 38 = true := by kernel_rfl
theorem Fc.fn39 : isFn Tryd.prog 39 = true := by kernel_rfl
theorem Fc.fn41 : isFn Tryd.prog 41 = true := by kernel_rfl
theorem Fc.fo41_2 : foff Tryd.prog 41 2 = some 2 := by kernel_rfl
theorem Fc.fo41_3 : foff Tryd.prog 41 3 = some 3 := by kernel_rfl
theorem Fc.fo41_7 : foff Tryd.prog 41 7 = some 7 := by kernel_rfl
set_option maxRecDepth 100000 in
set_option maxHeartbeats 8000000 in
theorem ReadR_c (q : Option Addr) (qc : Nat) (l : List UInt8) (hl : l.length ≤ 1099511627776) (ids : Int) (w0 : World) (hb : Bs w0 (.slice q l.length qc) l) : Calls Tryd.prog 24 #[.slice q l.length qc, .int .i64 ids] w0 fun e w' => ∃ (cs : List Value) (x y : Int), e = .returned (.tuple #[.agg cs.toArray, .int .i64 x, .int .i64 y]) ∧ RdRes w0.heap.size w' cs x y (readQ l ids) ∧ Ext w0 w' := by
  refine enter Tryd.func24 rfl rfl rfl ?_
  intro a hS
  have hH := Hp.start w0 (Nobody)
  refine c_seq ?_
  refine reg_plain w0 (Nobody) ?_
  refine r_alloc hS hH (by repeat (first | exact Sub.nil | refine Sub.cons ?_ ?_ | exact In.here | refine In.there ?_)) Fc.zc41 rfl ?_
  clear hS hH; intro a w bo hbo hwbo hS hH
  refine r_assign hS hH.kp0 rfl rfl ?_; clear hS; intro a hS
  refine r_assign hS hH.kp0 rfl rfl ?_; clear hS; intro a hS
  refine Sq.nil ?_
  refine then_n ?_
  refine c_seq ?_
  refine c_seq ?_
  refine reg_plain w0 (Nobody) ?_
  refine r_move hS hH.kp0 rfl rfl ?_; clear hS; intro a hS
  refine r_lss hS hH.kp0 rfl rfl rfl ?_; clear hS; intro a hS
  refine r_move hS hH.kp0 rfl rfl ?_; clear hS; intro a hS
  by_cases h0 : ids < 0
  · refine Sq.guardNo hS rfl rfl (DT h0) hH.kp0 rfl ?_; clear hS; intro a hS
    refine Sq.guardNo hS rfl rfl (DT h0) hH.kp0 rfl ?_; clear hS; intro a hS
    refine r_pickT hS hH.kp0 rfl (DT h0) rfl rfl ?_; clear hS; intro a hS
    refine Sq.nil ?_
    refine then_n ?_
    refine c_condT hS rfl rfl ?_
    refine c_seq ?_
    refine reg_plain w0 (Nobody) ?_
    refine r_buildS (parts := []) hS hH.kp0 rfl rfl Fc.zc41 Fc.pl41 (by rfl) ?_; clear hS; intro a hS
    refine r_store_row hS hH rfl rfl (by first | exact .here | exact .there .here | exact .there (.there .here) | exact .there (.there (.there .here)) | exact .there (.there (.there (.there .here))) | exact .there (.there (.there (.there (.there .here)))) | exact .there (.there (.there (.there (.there (.there .here))))) | exact .there (.there (.there (.there (.there (.there (.there .here)))))) | exact .there (.there (.there (.there (.there (.there (.there (.there .here))))))) | exact .there (.there (.there (.there (.there (.there (.there (.there (.there .here)))))))) | exact .there (.there (.there (.there (.there (.there (.there (.there (.there (.there .here))))))))) | exact .there (.there (.there (.there (.there (.there (.there (.there (.there (.there (.there .here)))))))))) | exact .there (.there (.there (.there (.there (.there (.there (.there (.there (.there (.there (.there .here))))))))))) | exact .there (.there (.there (.there (.there (.there (.there (.there (.there (.there (.there (.there (.there .here)))))))))))) | exact .there (.there (.there (.there (.there (.there (.there (.there (.there (.there (.there (.there (.there (.there .here))))))))))))) | exact .there (.there (.there (.there (.there (.there (.there (.there (.there (.there (.there (.there (.there (.there (.there .here))))))))))))))) (by repeat (first | exact Sub.nil | refine Sub.cons ?_ ?_ | exact In.here | refine In.there ?_)) Fc.sz41 (by first | exact hcells_one _ | exact of_decide_eq_true rfl) (by rfl) (.inr (by assumption)) ?_
    clear hH; intro w hH
    refine r_assign hS hH.kp0 rfl rfl ?_; clear hS; intro a hS
    refine r_assign hS hH.kp0 rfl rfl ?_; clear hS; intro a hS
    refine Sq.nil ?_
    refine then_n ?_
    refine wp_ret ?_
    refine then_r ?_
    refine leave (.inl rfl) hS rfl (Res.cell rfl (hH.get (by repeat (first | exact In.here | refine In.there ?_))) Fc.ag41 (by rfl) rfl (Res.tmp rfl (Res.tmp rfl Res.nil))) ⟨zHd, 0, _, rfl, ?_, hH.mod⟩
    have hq0 : readQ l ids = .inl 2 := by unfold readQ; rw [if_pos (by omega)]
    rw [hq0]; exact ⟨rfl, rfl, rfl, by decide⟩
  · refine Sq.guardYes hS rfl rfl (DF h0) ?_
    refine r_move hS hH.kp0 rfl rfl ?_; clear hS; intro a hS
    refine Sq.guardYes hS rfl rfl (DF h0) ?_
    refine r_gtr hS hH.kp0 rfl rfl rfl ?_; clear hS; intro a hS
    refine r_pickF hS hH.kp0 rfl (DF h0) rfl rfl ?_; clear hS; intro a hS
    refine Sq.nil ?_
    refine then_n ?_
    refine c_cond hS rfl (fun hc0 => ?_) (fun hc0 => ?_)
    · have h20 := of_decide_eq_true hc0
      refine c_seq ?_
      refine reg_plain w0 (Nobody) ?_
      refine r_buildS (parts := []) hS hH.kp0 rfl rfl Fc.zc41 Fc.pl41 (by rfl) ?_; clear hS; intro a hS
      refine r_store_row hS hH rfl rfl (by first | exact .here | exact .there .here | exact .there (.there .here) | exact .there (.there (.there .here)) | exact .there (.there (.there (.there .here))) | exact .there (.there (.there (.there (.there .here)))) | exact .there (.there (.there (.there (.there (.there .here))))) | exact .there (.there (.there (.there (.there (.there (.there .here)))))) | exact .there (.there (.there (.there (.there (.there (.there (.there .here))))))) | exact .there (.there (.there (.there (.there (.there (.there (.there (.there .here)))))))) | exact .there (.there (.there (.there (.there (.there (.there (.there (.there (.there .here))))))))) | exact .there (.there (.there (.there (.there (.there (.there (.there (.there (.there (.there .here)))))))))) | exact .there (.there (.there (.there (.there (.there (.there (.there (.there (.there (.there (.there .here))))))))))) | exact .there (.there (.there (.there (.there (.there (.there (.there (.there (.there (.there (.there (.there .here)))))))))))) | exact .there (.there (.there (.there (.there (.there (.there (.there (.there (.there (.there (.there (.there (.there .here))))))))))))) | exact .there (.there (.there (.there (.there (.there (.there (.there (.there (.there (.there (.there (.there (.there (.there .here))))))))))))))) (by repeat (first | exact Sub.nil | refine Sub.cons ?_ ?_ | exact In.here | refine In.there ?_)) Fc.sz41 (by first | exact hcells_one _ | exact of_decide_eq_true rfl) (by rfl) (.inr (by assumption)) ?_
      clear hH; intro w hH
      refine r_assign hS hH.kp0 rfl rfl ?_; clear hS; intro a hS
      refine r_assign hS hH.kp0 rfl rfl ?_; clear hS; intro a hS
      refine Sq.nil ?_
      refine then_n ?_
      refine wp_ret ?_
      refine then_r ?_
      refine leave (.inl rfl) hS rfl (Res.cell rfl (hH.get (by repeat (first | exact In.here | refine In.there ?_))) Fc.ag41 (by rfl) rfl (Res.tmp rfl (Res.tmp rfl Res.nil))) ⟨zHd, 0, _, rfl, ?_, hH.mod⟩
      have hq0 : readQ l ids = .inl 2 := by unfold readQ; rw [if_pos (by omega)]
      rw [hq0]; exact ⟨rfl, rfl, rfl, by decide⟩
    · have h20 : ids ≤ 20 := by have := of_decide_eq_false hc0; omega
      replace h0 : 0 ≤ ids := by omega
      refine wp_skip ?_
      refine then_n ?_
      refine c_seq ?_
      refine c_seq ?_
      refine reg_plain w0 (Nobody) ?_
      refine r_move hS hH.kp0 rfl rfl ?_; clear hS; intro a hS
      refine r_lenSl hS hH.kp0 rfl Fc.isSlice22 rfl ?_; clear hS; intro a hS
      refine r_eql hS hH.kp0 rfl rfl rfl ?_; clear hS; intro a hS
      refine Sq.nil ?_
      refine then_n ?_
      refine c_cond hS rfl (fun hc1 => ?_) (fun hc1 => ?_)
      · have hl0 : l = [] := List.eq_nil_of_length_eq_zero (by have := beq_iff_eq.1 hc1; omega)
        refine c_seq ?_
        refine reg_plain w0 (Nobody) ?_
        refine r_buildS (parts := []) hS hH.kp0 rfl rfl Fc.zc41 Fc.pl41 (by rfl) ?_; clear hS; intro a hS
        refine r_store_row hS hH rfl rfl (by first | exact .here | exact .there .here | exact .there (.there .here) | exact .there (.there (.there .here)) | exact .there (.there (.there (.there .here))) | exact .there (.there (.there (.there (.there .here)))) | exact .there (.there (.there (.there (.there (.there .here))))) | exact .there (.there (.there (.there (.there (.there (.there .here)))))) | exact .there (.there (.there (.there (.there (.there (.there (.there .here))))))) | exact .there (.there (.there (.there (.there (.there (.there (.there (.there .here)))))))) | exact .there (.there (.there (.there (.there (.there (.there (.there (.there (.there .here))))))))) | exact .there (.there (.there (.there (.there (.there (.there (.there (.there (.there (.there .here)))))))))) | exact .there (.there (.there (.there (.there (.there (.there (.there (.there (.there (.there (.there .here))))))))))) | exact .there (.there (.there (.there (.there (.there (.there (.there (.there (.there (.there (.there (.there .here)))))))))))) | exact .there (.there (.there (.there (.there (.there (.there (.there (.there (.there (.there (.there (.there (.there .here))))))))))))) | exact .there (.there (.there (.there (.there (.there (.there (.there (.there (.there (.there (.there (.there (.there (.there .here))))))))))))))) (by repeat (first | exact Sub.nil | refine Sub.cons ?_ ?_ | exact In.here | refine In.there ?_)) Fc.sz41 (by first | exact hcells_one _ | exact of_decide_eq_true rfl) (by rfl) (.inr (by assumption)) ?_
        clear hH; intro w hH
        refine r_assign hS hH.kp0 rfl rfl ?_; clear hS; intro a hS
        refine r_assign hS hH.kp0 rfl rfl ?_; clear hS; intro a hS
        refine Sq.nil ?_
        refine then_n ?_
        refine wp_ret ?_
        refine then_r ?_
        refine leave (.inl rfl) hS rfl (Res.cell rfl (hH.get (by repeat (first | exact In.here | refine In.there ?_))) Fc.ag41 (by rfl) rfl (Res.tmp rfl (Res.tmp rfl Res.nil))) ⟨zHd, 0, _, rfl, ?_, hH.mod⟩
        have hq0 : readQ l ids = .inl 10 := by unfold readQ; rw [if_neg (by omega), hl0]
        rw [hq0]; exact ⟨rfl, rfl, rfl, by decide⟩
      · have h1 : 0 < l.length := by have := ne_of_beq_false hc1; omega
        obtain ⟨x0, hx0⟩ : ∃ x0, l[0]? = some x0 := ⟨_, List.getElem?_eq_getElem h1⟩
        have hxl := x0.toNat_lt
        have hfl := (hb.f).len
        obtain ⟨ba, bob, hq⟩ := hb.f.addr h1
        subst hq
        have hcell := hb.f.byte hH.mod hx0
        refine wp_skip ?_
        refine then_n ?_
        refine c_seq ?_
        refine c_seq ?_
        refine reg_plain w0 (Nobody) ?_
        refine r_move hS hH.kp0 rfl rfl ?_; clear hS; intro a hS
        refine r_indexAddrS (j := 0) hS hH.kp0 rfl rfl Fc.slb22 rfl (by omega) rfl ?_; clear hS; intro a hS
        refine r_load_cell (v := byteV x0) hS hH.kp0 rfl (by rw [Nat.zero_mul]; exact hb.f.byte hH.mod hx0) Fc.sc5 rfl ?_; clear hS; intro a hS
        refine r_lss hS hH.kp0 rfl rfl rfl ?_; clear hS; intro a hS
        refine Sq.nil ?_
        refine then_n ?_
        refine c_cond hS rfl (fun hc2 => ?_) (fun hc2 => ?_)
        · have h128 : x0.toNat < 128 := by have := of_decide_eq_true hc2; omega
          refine c_seq ?_
          refine c_seq ?_
          refine reg_plain w0 (Nobody) ?_
          refine r_move hS hH.kp0 rfl rfl ?_; clear hS; intro a hS
          refine r_indexAddrS (j := 0) hS hH.kp0 rfl rfl Fc.slb22 rfl (by omega) rfl ?_; clear hS; intro a hS
          refine r_load_cell (v := byteV x0) hS hH.kp0 rfl (by rw [Nat.zero_mul]; exact hb.f.byte hH.mod hx0) Fc.sc5 rfl ?_; clear hS; intro a hS
          refine r_lss hS hH.kp0 rfl rfl rfl ?_; clear hS; intro a hS
          refine Sq.nil ?_
          refine then_n ?_
          refine c_cond hS rfl (fun hc3 => ?_) (fun hc3 => ?_)
          · have h64 : x0.toNat < 64 := by have := of_decide_eq_true hc3; omega
            refine c_seq ?_
            refine reg_plain w0 (Nobody) ?_
            refine r_buildS (parts := []) hS hH.kp0 rfl rfl Fc.zc41 Fc.pl41 (by rfl) ?_; clear hS; intro a hS
            refine r_store_row hS hH rfl rfl (by first | exact .here | exact .there .here | exact .there (.there .here) | exact .there (.there (.there .here)) | exact .there (.there (.there (.there .here))) | exact .there (.there (.there (.there (.there .here)))) | exact .there (.there (.there (.there (.there (.there .here))))) | exact .there (.there (.there (.there (.there (.there (.there .here)))))) | exact .there (.there (.there (.there (.there (.there (.there (.there .here))))))) | exact .there (.there (.there (.there (.there (.there (.there (.there (.there .here)))))))) | exact .there (.there (.there (.there (.there (.there (.there (.there (.there (.there .here))))))))) | exact .there (.there (.there (.there (.there (.there (.there (.there (.there (.there (.there .here)))))))))) | exact .there (.there (.there (.there (.there (.there (.there (.there (.there (.there (.there (.there .here))))))))))) | exact .there (.there (.there (.there (.there (.there (.there (.there (.there (.there (.there (.there (.there .here)))))))))))) | exact .there (.there (.there (.there (.there (.there (.there (.there (.there (.there (.there (.there (.there (.there .here))))))))))))) | exact .there (.there (.there (.there (.there (.there (.there (.there (.there (.there (.there (.there (.there (.there (.there .here))))))))))))))) (by repeat (first | exact Sub.nil | refine Sub.cons ?_ ?_ | exact In.here | refine In.there ?_)) Fc.sz41 (by first | exact hcells_one _ | exact of_decide_eq_true rfl) (by rfl) (.inr (by assumption)) ?_
            clear hH; intro w hH
            refine r_assign hS hH.kp0 rfl rfl ?_; clear hS; intro a hS
            refine r_assign hS hH.kp0 rfl rfl ?_; clear hS; intro a hS
            refine Sq.nil ?_
            refine then_n ?_
            refine wp_ret ?_
            refine then_r ?_
            refine then_r ?_
            refine leave (.inl rfl) hS rfl (Res.cell rfl (hH.get (by repeat (first | exact In.here | refine In.there ?_))) Fc.ag41 (by rfl) rfl (Res.tmp rfl (Res.tmp rfl Res.nil))) ⟨zHd, 0, _, rfl, ?_, hH.mod⟩
            have hq0 : readQ l ids = .inl 11 := by rw [← refQ_eq]; rw [refQ_some hx0 h0 h20]; rw [if_pos h128, if_pos h64]
            rw [hq0]; exact ⟨rfl, rfl, rfl, by first | decide | exact hbn⟩
          · have h64 : ¬ x0.toNat < 64 := by have := of_decide_eq_false hc3; omega
            refine wp_skip ?_
            refine then_n ?_
            refine c_seq ?_
            refine c_seq ?_
            refine reg_plain w0 (Nobody) ?_
            refine r_move hS hH.kp0 rfl rfl ?_; clear hS; intro a hS
            refine r_lenSl hS hH.kp0 rfl Fc.isSlice22 rfl ?_; clear hS; intro a hS
            refine r_move hS hH.kp0 rfl rfl ?_; clear hS; intro a hS
            first | refine r_add hS hH.kp0 rfl rfl rfl (by omega) ?_ | refine r_addw hS hH.kp0 rfl rfl rfl ?_
            clear hS; intro a hS
            refine r_lss hS hH.kp0 rfl rfl rfl ?_; clear hS; intro a hS
            refine Sq.nil ?_
            refine then_n ?_
            refine c_cond hS rfl (fun hc4 => ?_) (fun hc4 => ?_)
            · have hsh := of_decide_eq_true hc4
              refine c_seq ?_
              refine reg_plain w0 (Nobody) ?_
              refine r_buildS (parts := []) hS hH.kp0 rfl rfl Fc.zc41 Fc.pl41 (by rfl) ?_; clear hS; intro a hS
              refine r_store_row hS hH rfl rfl (by first | exact .here | exact .there .here | exact .there (.there .here) | exact .there (.there (.there .here)) | exact .there (.there (.there (.there .here))) | exact .there (.there (.there (.there (.there .here)))) | exact .there (.there (.there (.there (.there (.there .here))))) | exact .there (.there (.there (.there (.there (.there (.there .here)))))) | exact .there (.there (.there (.there (.there (.there (.there (.there .here))))))) | exact .there (.there (.there (.there (.there (.there (.there (.there (.there .here)))))))) | exact .there (.there (.there (.there (.there (.there (.there (.there (.there (.there .here))))))))) | exact .there (.there (.there (.there (.there (.there (.there (.there (.there (.there (.there .here)))))))))) | exact .there (.there (.there (.there (.there (.there (.there (.there (.there (.there (.there (.there .here))))))))))) | exact .there (.there (.there (.there (.there (.there (.there (.there (.there (.there (.there (.there (.there .here)))))))))))) | exact .there (.there (.there (.there (.there (.there (.there (.there (.there (.there (.there (.there (.there (.there .here))))))))))))) | exact .there (.there (.there (.there (.there (.there (.there (.there (.there (.there (.there (.there (.there (.there (.there .here))))))))))))))) (by repeat (first | exact Sub.nil | refine Sub.cons ?_ ?_ | exact In.here | refine In.there ?_)) Fc.sz41 (by first | exact hcells_one _ | exact of_decide_eq_true rfl) (by rfl) (.inr (by assumption)) ?_
              clear hH; intro w hH
              refine r_assign hS hH.kp0 rfl rfl ?_; clear hS; intro a hS
              refine r_assign hS hH.kp0 rfl rfl ?_; clear hS; intro a hS
              refine Sq.nil ?_
              refine then_n ?_
              refine wp_ret ?_
              refine then_r ?_
              refine then_r ?_
              refine leave (.inl rfl) hS rfl (Res.cell rfl (hH.get (by repeat (first | exact In.here | refine In.there ?_))) Fc.ag41 (by rfl) rfl (Res.tmp rfl (Res.tmp rfl Res.nil))) ⟨zHd, 0, _, rfl, ?_, hH.mod⟩
              have hq0 : readQ l ids = .inl 10 := by rw [← refQ_eq]; rw [refQ_some hx0 h0 h20]; rw [if_pos h128, if_neg h64, if_pos (by omega)]
              rw [hq0]; exact ⟨rfl, rfl, rfl, by first | decide | exact hbn⟩
            · have hsh := of_decide_eq_false hc4
              refine wp_skip ?_
              refine then_n ?_
              refine c_seq ?_
              refine reg_draw [(true, 1, [0]), (true, 2, [0]), (true, 3, [0]), (true, 4, [0]), (true, 6, [0]), (true, 7, [0]), (true, 8, [0]), (true, 9, [0]), (true, 10, [0]), (true, 11, [0]), (true, 13, [0]), (true, 14, [0]), (false, 0, []), (false, 5, []), (true, 12, [0]), (false, 15, [0]), (true, 16, [0]), (true, 17, [0])] Fc.mixed (by kernel_rfl) (by kernel_rfl) (by kernel_rfl) (by kernel_rfl) (by kernel_rfl) (by repeat (first | with_reducible exact steady_body | with_reducible apply steady_block | with_reducible apply steady_then | with_reducible apply steady_scope | exact steady_body)) hH ?_
              replace hH := hH.drew
              refine r_move hS trivial rfl rfl ?_; clear hS; intro a hS
              refine r_move hS trivial rfl rfl ?_; clear hS; intro a hS
              first | refine r_add hS trivial rfl rfl rfl (by omega) ?_ | refine r_addw hS trivial rfl rfl rfl ?_
              clear hS; intro a hS
              refine r_slLoHi (ll := 1) (hh := 1 + ids.toNat) hS trivial rfl rfl rfl Fc.slb22 rfl (by omega) (by omega) (by omega) rfl ?_; clear hS; intro a hS
              refine r_move hS trivial rfl rfl ?_; clear hS; intro a hS
              refine r_indexAddrS (j := 0) hS trivial rfl rfl Fc.slb22 rfl (by omega) rfl ?_; clear hS; intro a hS
              refine r_load_cellS (v := byteV x0) hS rfl (fun w hw => by rw [Nat.zero_mul]; exact hb.f.byte hw.2 hx0) Fc.sc5 rfl ?_; clear hS; intro a hS
              refine r_quoB x0.toNat 4 hS trivial rfl rfl rfl rfl (by decide) hxl ?_; clear hS; intro a hS
              refine r_remB (x0.toNat / 4) 2 hS trivial rfl rfl rfl rfl (by decide) ?_; clear hS; intro a hS
              refine r_eql hS trivial rfl rfl rfl ?_; clear hS; intro a hS
              refine r_move hS trivial rfl rfl ?_; clear hS; intro a hS
              first | refine r_add hS trivial rfl rfl rfl (by omega) ?_ | refine r_addw hS trivial rfl rfl rfl ?_
              clear hS; intro a hS
              refine r_buildSlice0 hS hH (by repeat (first | exact Sub.nil | refine Sub.cons ?_ ?_ | exact In.here | refine In.there ?_)) Fc.uls22 Fc.inf5 rfl ?_
              clear hS hH; intro a w bz hbz hwbz hS hH
              refine r_appB (l := []) ([]) ((l.drop 1).take (1 + ids.toNat - 1)) hS hH rfl rfl (by first | exact .here | exact .there .here | exact .there (.there .here) | exact .there (.there (.there .here)) | exact .there (.there (.there (.there .here))) | exact .there (.there (.there (.there (.there .here)))) | exact .there (.there (.there (.there (.there (.there .here))))) | exact .there (.there (.there (.there (.there (.there (.there .here)))))) | exact .there (.there (.there (.there (.there (.there (.there (.there .here))))))) | exact .there (.there (.there (.there (.there (.there (.there (.there (.there .here)))))))) | exact .there (.there (.there (.there (.there (.there (.there (.there (.there (.there .here))))))))) | exact .there (.there (.there (.there (.there (.there (.there (.there (.there (.there (.there .here)))))))))) | exact .there (.there (.there (.there (.there (.there (.there (.there (.there (.there (.there (.there .here))))))))))) | exact .there (.there (.there (.there (.there (.there (.there (.there (.there (.there (.there (.there (.there .here)))))))))))) | exact .there (.there (.there (.there (.there (.there (.there (.there (.there (.there (.there (.there (.there (.there .here))))))))))))) | exact .there (.there (.there (.there (.there (.there (.there (.there (.there (.there (.there (.there (.there (.there (.there .here))))))))))))))) (by repeat (first | exact Sub.nil | refine Sub.cons ?_ ?_ | exact In.here | refine In.there ?_)) Fc.el22 Fc.ni22 BB.nil ((hb.ext hH.mod).f.part (ll := 1) (hh := 1 + ids.toNat) (by omega) (by omega)).bs (by first | omega | (simp only [List.length_append, List.length_nil, List.length_take, List.length_drop]; omega)) (by assumption) rfl ?_
              clear hS hH; intro a w b1 c1 k1 hw1 hB1 hS hH
              refine r_buildS (parts := [(0, .const (.int .i64 5)), (2, .tmp 42), (6, .tmp 48)]) hS trivial rfl rfl Fc.zc41 Fc.pl41 (by rfl) ?_; clear hS; intro a hS
              refine r_store_row hS hH rfl rfl (by first | exact .here | exact .there .here | exact .there (.there .here) | exact .there (.there (.there .here)) | exact .there (.there (.there (.there .here))) | exact .there (.there (.there (.there (.there .here)))) | exact .there (.there (.there (.there (.there (.there .here))))) | exact .there (.there (.there (.there (.there (.there (.there .here)))))) | exact .there (.there (.there (.there (.there (.there (.there (.there .here))))))) | exact .there (.there (.there (.there (.there (.there (.there (.there (.there .here)))))))) | exact .there (.there (.there (.there (.there (.there (.there (.there (.there (.there .here))))))))) | exact .there (.there (.there (.there (.there (.there (.there (.there (.there (.there (.there .here)))))))))) | exact .there (.there (.there (.there (.there (.there (.there (.there (.there (.there (.there (.there .here))))))))))) | exact .there (.there (.there (.there (.there (.there (.there (.there (.there (.there (.there (.there (.there .here)))))))))))) | exact .there (.there (.there (.there (.there (.there (.there (.there (.there (.there (.there (.there (.there (.there .here))))))))))))) | exact .there (.there (.there (.there (.there (.there (.there (.there (.there (.there (.there (.there (.there (.there (.there .here))))))))))))))) (by repeat (first | exact Sub.nil | refine Sub.cons ?_ ?_ | exact In.here | refine In.there ?_)) Fc.sz41 (hd_one (t := z16) rfl rfl rfl rfl) (by rfl) (.inr (by assumption)) ?_; clear hH; intro w hH
              refine r_assign hS trivial rfl rfl ?_; clear hS; intro a hS
              refine r_assign hS trivial rfl rfl ?_; clear hS; intro a hS
              refine Sq.nil ?_
              refine then_n ?_
              refine wp_ret ?_
              refine then_r ?_
              rw [List.nil_append, Nat.add_sub_cancel_left] at hB1 hS hH
              refine leave (.inl rfl) hS rfl (Res.cell rfl (hH.get (by repeat (first | exact In.here | refine In.there ?_))) Fc.ag41 (by rfl) rfl (Res.tmp rfl (Res.tmp rfl Res.nil))) ⟨_, _, _, rfl, ?_, hH.mod⟩
              have hq0 : readQ l ids = .inr (⟨5, 0, (l.drop 1).take ids.toNat, [], [], 0, decide (x0.toNat / 4 % 2 = 1), [], z16⟩, 1 + ids.toNat) := by rw [← refQ_eq]; rw [refQ_some hx0 h0 h20]; rw [if_pos h128, if_neg h64, if_neg (by omega)]
              rw [hq0]; have hph : (((x0.toNat / 4 % 2 : Nat) : Int) == 1) = decide (x0.toNat / 4 % 2 = 1) := by (rw [Bool.eq_iff_iff]; simp; omega)
              rw [hph]
              exact ⟨⟨_, _, _, _, rfl, .inr ⟨b1, c1, k1, rfl, by omega, hH.get (b := b1) (by repeat (first | exact In.here | refine In.there ?_)), hB1.le, hB1.len, hB1.take⟩, OwnB.nil _ _ _, OwnB.nil _ _ _, Own.nil _ _ _ _, rfl⟩, by omega, rfl⟩
        · have h128 : ¬ x0.toNat < 128 := by have := of_decide_eq_false hc2; omega
          refine wp_skip ?_
          refine then_n ?_
          refine c_seq ?_
          refine reg_plain w0 (Nobody) ?_
          refine r_move hS hH.kp0 rfl rfl ?_; clear hS; intro a hS
          refine r_call (l := [.tmp 53, .const (.int .i64 1), .const (.int .i64 4)]) hS rfl rfl Fc.fn38 rfl ?_
          refine Calls.mono (GetR_c _ qc l 1 4 h1 (by decide) hl _ (hb.ext hH.mod)) ?_
          rintro e w1 ⟨v, y, z, rfl, hg, hE⟩
          replace hH := hH.ext hE
          refine ⟨_, rfl, hH.kp0, ?_⟩
          clear hS; intro a hS
          rcases hg with ⟨hg5, hv9, hy9, hz9⟩ | ⟨hg5, hz9⟩
          · subst hy9 hz9
            have h5 : ¬ l.length < 5 := by omega
            have hvl : v < 4294967296 := by rw [hv9]; have := beN_take (l.drop 1) 4 (by simp; omega); have h8 : (256 : Nat) ^ 4 = 4294967296 := (by decide); omega
            refine r_move hS hH.kp0 rfl rfl ?_; clear hS; intro a hS
            refine r_extract hS hH.kp0 rfl rfl rfl ?_; clear hS; intro a hS
            refine r_extract hS hH.kp0 rfl rfl rfl ?_; clear hS; intro a hS
            refine r_extract hS hH.kp0 rfl rfl rfl ?_; clear hS; intro a hS
            refine r_assign hS hH.kp0 rfl rfl ?_; clear hS; intro a hS
            refine r_assign hS hH.kp0 rfl rfl ?_; clear hS; intro a hS
            refine r_assign hS hH.kp0 rfl rfl ?_; clear hS; intro a hS
            refine Sq.nil ?_
            refine then_n ?_
            refine c_seq ?_
            refine c_seq ?_
            refine reg_plain w0 (Nobody) ?_
            refine r_move hS hH.kp0 rfl rfl ?_; clear hS; intro a hS
            refine r_neq hS hH.kp0 rfl rfl rfl ?_; clear hS; intro a hS
            refine Sq.nil ?_
            refine then_n ?_
            refine c_condF hS rfl rfl ?_
            refine wp_skip ?_
            refine then_n ?_
            refine c_seq ?_
            refine reg_plain w0 (Nobody) ?_
            refine r_move hS hH.kp0 rfl rfl ?_; clear hS; intro a hS
            refine r_toI64 v hS hH.kp0 rfl Fc.ui3 Fc.us36 rfl rfl (by omega) ?_; clear hS; intro a hS
            refine r_buildS (parts := [(1, .tmp 62)]) hS hH.kp0 rfl rfl Fc.zc41 Fc.pl41 (by rfl) ?_; clear hS; intro a hS
            refine r_alloc hS hH (by repeat (first | exact Sub.nil | refine Sub.cons ?_ ?_ | exact In.here | refine In.there ?_)) Fc.zc41 rfl ?_
            clear hS hH; intro a w bx hbx hwbx hS hH
            refine r_store_row hS hH rfl rfl (by first | exact .here | exact .there .here | exact .there (.there .here) | exact .there (.there (.there .here)) | exact .there (.there (.there (.there .here))) | exact .there (.there (.there (.there (.there .here)))) | exact .there (.there (.there (.there (.there (.there .here))))) | exact .there (.there (.there (.there (.there (.there (.there .here)))))) | exact .there (.there (.there (.there (.there (.there (.there (.there .here))))))) | exact .there (.there (.there (.there (.there (.there (.there (.there (.there .here)))))))) | exact .there (.there (.there (.there (.there (.there (.there (.there (.there (.there .here))))))))) | exact .there (.there (.there (.there (.there (.there (.there (.there (.there (.there (.there .here)))))))))) | exact .there (.there (.there (.there (.there (.there (.there (.there (.there (.there (.there (.there .here))))))))))) | exact .there (.there (.there (.there (.there (.there (.there (.there (.there (.there (.there (.there (.there .here)))))))))))) | exact .there (.there (.there (.there (.there (.there (.there (.there (.there (.there (.there (.there (.there (.there .here))))))))))))) | exact .there (.there (.there (.there (.there (.there (.there (.there (.there (.there (.there (.there (.there (.there (.there .here))))))))))))))) (by repeat (first | exact Sub.nil | refine Sub.cons ?_ ?_ | exact In.here | refine In.there ?_)) Fc.sz41 (hd_one (t := z16) rfl rfl rfl rfl) (by rfl) (.inr (by assumption)) ?_; clear hH; intro w hH
            refine Sq.nil ?_
            refine then_n ?_
            refine c_seq ?_
            refine reg_plain w0 (Nobody) ?_
            refine r_move hS hH.kp0 rfl rfl ?_; clear hS; intro a hS
            refine r_move hS hH.kp0 rfl rfl ?_; clear hS; intro a hS
            refine r_call (l := [.tmp 65, .tmp 66]) hS rfl rfl Fc.fn39 rfl ?_
            refine Calls.mono (idR_c _ qc l 5 hl _ (hb.ext hH.mod)) ?_
            rintro e w1 ⟨vv, x, y, rfl, hir, hE⟩
            have hl_bx := Hp.ltm (b := bx) hH (by simp)
            have hl_bo := Hp.ltm (b := bo) hH (by simp)
            replace hH := hH.ext hE
            refine ⟨_, rfl, hH.kp0, ?_⟩
            clear hS; intro a hS
            rcases hq15 : idQ l 5 with be | ⟨dst, p1⟩
            all_goals rw [hq15] at hir
            · obtain ⟨hv9, hx9, hy9, hbn⟩ := hir
              subst hv9 hx9 hy9
              refine r_move hS hH.kp0 rfl rfl ?_; clear hS; intro a hS
              refine r_extract hS hH.kp0 rfl rfl rfl ?_; clear hS; intro a hS
              refine r_extract hS hH.kp0 rfl rfl rfl ?_; clear hS; intro a hS
              refine r_extract hS hH.kp0 rfl rfl rfl ?_; clear hS; intro a hS
              refine r_fieldAddr hS hH.kp0 rfl Fc.fo41_2 rfl ?_; clear hS; intro a hS
              refine r_store1 hS hH rfl rfl rfl (by first | exact .here | exact .there .here | exact .there (.there .here) | exact .there (.there (.there .here)) | exact .there (.there (.there (.there .here))) | exact .there (.there (.there (.there (.there .here)))) | exact .there (.there (.there (.there (.there (.there .here))))) | exact .there (.there (.there (.there (.there (.there (.there .here)))))) | exact .there (.there (.there (.there (.there (.there (.there (.there .here))))))) | exact .there (.there (.there (.there (.there (.there (.there (.there (.there .here)))))))) | exact .there (.there (.there (.there (.there (.there (.there (.there (.there (.there .here))))))))) | exact .there (.there (.there (.there (.there (.there (.there (.there (.there (.there (.there .here)))))))))) | exact .there (.there (.there (.there (.there (.there (.there (.there (.there (.there (.there (.there .here))))))))))) | exact .there (.there (.there (.there (.there (.there (.there (.there (.there (.there (.there (.there (.there .here)))))))))))) | exact .there (.there (.there (.there (.there (.there (.there (.there (.there (.there (.there (.there (.there (.there .here))))))))))))) | exact .there (.there (.there (.there (.there (.there (.there (.there (.there (.there (.there (.there (.there (.there (.there .here))))))))))))))) (by repeat (first | exact Sub.nil | refine Sub.cons ?_ ?_ | exact In.here | refine In.there ?_)) Fc.sz22 (of_decide_eq_true rfl) (.inr (by assumption)) ?_
              clear hH; intro w hH
              refine r_assign hS hH.kp0 rfl rfl ?_; clear hS; intro a hS
              refine r_assign hS hH.kp0 rfl rfl ?_; clear hS; intro a hS
              refine Sq.nil ?_
              refine then_n ?_
              refine c_seq ?_
              refine c_seq ?_
              refine reg_plain w0 (Nobody) ?_
              refine r_move hS hH.kp0 rfl rfl ?_; clear hS; intro a hS
              refine r_neq hS hH.kp0 rfl rfl rfl ?_; clear hS; intro a hS
              refine Sq.nil ?_
              refine then_n ?_
              refine c_condT hS rfl (bne_iff_ne.2 hbn) ?_
              refine c_seq ?_
              refine reg_plain w0 (Nobody) ?_
              refine r_buildS (parts := []) hS hH.kp0 rfl rfl Fc.zc41 Fc.pl41 (by rfl) ?_; clear hS; intro a hS
              refine r_move hS hH.kp0 rfl rfl ?_; clear hS; intro a hS
              refine r_store_row hS hH rfl rfl (by first | exact .here | exact .there .here | exact .there (.there .here) | exact .there (.there (.there .here)) | exact .there (.there (.there (.there .here))) | exact .there (.there (.there (.there (.there .here)))) | exact .there (.there (.there (.there (.there (.there .here))))) | exact .there (.there (.there (.there (.there (.there (.there .here)))))) | exact .there (.there (.there (.there (.there (.there (.there (.there .here))))))) | exact .there (.there (.there (.there (.there (.there (.there (.there (.there .here)))))))) | exact .there (.there (.there (.there (.there (.there (.there (.there (.there (.there .here))))))))) | exact .there (.there (.there (.there (.there (.there (.there (.there (.there (.there (.there .here)))))))))) | exact .there (.there (.there (.there (.there (.there (.there (.there (.there (.there (.there (.there .here))))))))))) | exact .there (.there (.there (.there (.there (.there (.there (.there (.there (.there (.there (.there (.there .here)))))))))))) | exact .there (.there (.there (.there (.there (.there (.there (.there (.there (.there (.there (.there (.there (.there .here))))))))))))) | exact .there (.there (.there (.there (.there (.there (.there (.there (.there (.there (.there (.there (.there (.there (.there .here))))))))))))))) (by repeat (first | exact Sub.nil | refine Sub.cons ?_ ?_ | exact In.here | refine In.there ?_)) Fc.sz41 (by first | exact hcells_one _ | exact of_decide_eq_true rfl) (by rfl) (.inr (by assumption)) ?_
              clear hH; intro w hH
              refine r_assign hS hH.kp0 rfl rfl ?_; clear hS; intro a hS
              refine r_assign hS hH.kp0 rfl rfl ?_; clear hS; intro a hS
              refine Sq.nil ?_
              refine then_n ?_
              refine wp_ret ?_
              refine then_r ?_
              refine leave (.inl rfl) hS rfl (Res.cell rfl (hH.get (by repeat (first | exact In.here | refine In.there ?_))) Fc.ag41 (by rfl) rfl (Res.tmp rfl (Res.tmp rfl Res.nil))) ⟨zHd, 0, _, rfl, ?_, hH.mod⟩
              have hq0 : readQ l ids = .inl y := by rw [← refQ_eq]; rw [refQ_some hx0 h0 h20]; rw [if_neg h128, if_neg h5]; rw [hq15]
              rw [hq0]; exact ⟨rfl, rfl, rfl, by first | decide | exact hbn⟩
            · obtain ⟨rd, capd, l2d, hv9, hr9, hrk9, hBd, hx9, hy9⟩ := hir
              subst hv9 hx9 hy9
              have hple15 := (idQ_le hq15).1
              have hlen15 := (idQ_le hq15).2
              replace hH := hH.know hrk9 (fun z hz e => by simp only [List.mem_cons, List.not_mem_nil, or_false] at hz; rcases hz with rfl | rfl <;> (simp only at e; omega))
              refine r_move hS hH.kp0 rfl rfl ?_; clear hS; intro a hS
              refine r_extract hS hH.kp0 rfl rfl rfl ?_; clear hS; intro a hS
              refine r_extract hS hH.kp0 rfl rfl rfl ?_; clear hS; intro a hS
              refine r_extract hS hH.kp0 rfl rfl rfl ?_; clear hS; intro a hS
              refine r_fieldAddr hS hH.kp0 rfl Fc.fo41_2 rfl ?_; clear hS; intro a hS
              refine r_store1 hS hH rfl rfl rfl (by first | exact .here | exact .there .here | exact .there (.there .here) | exact .there (.there (.there .here)) | exact .there (.there (.there (.there .here))) | exact .there (.there (.there (.there (.there .here)))) | exact .there (.there (.there (.there (.there (.there .here))))) | exact .there (.there (.there (.there (.there (.there (.there .here)))))) | exact .there (.there (.there (.there (.there (.there (.there (.there .here))))))) | exact .there (.there (.there (.there (.there (.there (.there (.there (.there .here)))))))) | exact .there (.there (.there (.there (.there (.there (.there (.there (.there (.there .here))))))))) | exact .there (.there (.there (.there (.there (.there (.there (.there (.there (.there (.there .here)))))))))) | exact .there (.there (.there (.there (.there (.there (.there (.there (.there (.there (.there (.there .here))))))))))) | exact .there (.there (.there (.there (.there (.there (.there (.there (.there (.there (.there (.there (.there .here)))))))))))) | exact .there (.there (.there (.there (.there (.there (.there (.there (.there (.there (.there (.there (.there (.there .here))))))))))))) | exact .there (.there (.there (.there (.there (.there (.there (.there (.there (.there (.there (.there (.there (.there (.there .here))))))))))))))) (by repeat (first | exact Sub.nil | refine Sub.cons ?_ ?_ | exact In.here | refine In.there ?_)) Fc.sz22 (of_decide_eq_true rfl) (.inr (by assumption)) ?_
              clear hH; intro w hH
              refine r_assign hS hH.kp0 rfl rfl ?_; clear hS; intro a hS
              refine r_assign hS hH.kp0 rfl rfl ?_; clear hS; intro a hS
              refine Sq.nil ?_
              refine then_n ?_
              refine c_seq ?_
              refine c_seq ?_
              refine reg_plain w0 (Nobody) ?_
              refine r_move hS hH.kp0 rfl rfl ?_; clear hS; intro a hS
              refine r_neq hS hH.kp0 rfl rfl rfl ?_; clear hS; intro a hS
              refine Sq.nil ?_
              refine then_n ?_
              refine c_condF hS rfl rfl ?_
              refine wp_skip ?_
              refine then_n ?_
              refine c_seq ?_
              refine reg_plain w0 (Nobody) ?_
              refine r_move hS hH.kp0 rfl rfl ?_; clear hS; intro a hS
              refine r_move hS hH.kp0 rfl rfl ?_; clear hS; intro a hS
              refine r_call (l := [.tmp 77, .tmp 78]) hS rfl rfl Fc.fn39 rfl ?_
              refine Calls.mono (idR_c _ qc l p1 hl _ (hb.ext hH.mod)) ?_
              rintro e w1 ⟨vv, x, y, rfl, hir, hE⟩
              have hl_bx := Hp.ltm (b := bx) hH (by simp)
              have hl_bo := Hp.ltm (b := bo) hH (by simp)
              have hl_rd := Hp.ltm (b := rd) hH (by simp)
              replace hH := hH.ext hE
              refine ⟨_, rfl, hH.kp0, ?_⟩
              clear hS; intro a hS
              rcases hq18 : idQ l p1 with be | ⟨src, p2⟩
              all_goals rw [hq18] at hir
              · obtain ⟨hv9, hx9, hy9, hbn⟩ := hir
                subst hv9 hx9 hy9
                refine r_move hS hH.kp0 rfl rfl ?_; clear hS; intro a hS
                refine r_extract hS hH.kp0 rfl rfl rfl ?_; clear hS; intro a hS
                refine r_extract hS hH.kp0 rfl rfl rfl ?_; clear hS; intro a hS
                refine r_extract hS hH.kp0 rfl rfl rfl ?_; clear hS; intro a hS
                refine r_fieldAddr hS hH.kp0 rfl Fc.fo41_3 rfl ?_; clear hS; intro a hS
                refine r_store1 hS hH rfl rfl rfl (by first | exact .here | exact .there .here | exact .there (.there .here) | exact .there (.there (.there .here)) | exact .there (.there (.there (.there .here))) | exact .there (.there (.there (.there (.there .here)))) | exact .there (.there (.there (.there (.there (.there .here))))) | exact .there (.there (.there (.there (.there (.there (.there .here)))))) | exact .there (.there (.there (.there (.there (.there (.there (.there .here))))))) | exact .there (.there (.there (.there (.there (.there (.there (.there (.there .here)))))))) | exact .there (.there (.there (.there (.there (.there (.there (.there (.there (.there .here))))))))) | exact .there (.there (.there (.there (.there (.there (.there (.there (.there (.there (.there .here)))))))))) | exact .there (.there (.there (.there (.there (.there (.there (.there (.there (.there (.there (.there .here))))))))))) | exact .there (.there (.there (.there (.there (.there (.there (.there (.there (.there (.there (.there (.there .here)))))))))))) | exact .there (.there (.there (.there (.there (.there (.there (.there (.there (.there (.there (.there (.there (.there .here))))))))))))) | exact .there (.there (.there (.there (.there (.there (.there (.there (.there (.there (.there (.there (.there (.there (.there .here))))))))))))))) (by repeat (first | exact Sub.nil | refine Sub.cons ?_ ?_ | exact In.here | refine In.there ?_)) Fc.sz22 (of_decide_eq_true rfl) (.inr (by assumption)) ?_
                clear hH; intro w hH
                refine r_assign hS hH.kp0 rfl rfl ?_; clear hS; intro a hS
                refine r_assign hS hH.kp0 rfl rfl ?_; clear hS; intro a hS
                refine Sq.nil ?_
                refine then_n ?_
                refine c_seq ?_
                refine c_seq ?_
                refine reg_plain w0 (Nobody) ?_
                refine r_move hS hH.kp0 rfl rfl ?_; clear hS; intro a hS
                refine r_neq hS hH.kp0 rfl rfl rfl ?_; clear hS; intro a hS
                refine Sq.nil ?_
                refine then_n ?_
                refine c_condT hS rfl (bne_iff_ne.2 hbn) ?_
                refine c_seq ?_
                refine reg_plain w0 (Nobody) ?_
                refine r_buildS (parts := []) hS hH.kp0 rfl rfl Fc.zc41 Fc.pl41 (by rfl) ?_; clear hS; intro a hS
                refine r_move hS hH.kp0 rfl rfl ?_; clear hS; intro a hS
                refine r_store_row hS hH rfl rfl (by first | exact .here | exact .there .here | exact .there (.there .here) | exact .there (.there (.there .here)) | exact .there (.there (.there (.there .here))) | exact .there (.there (.there (.there (.there .here)))) | exact .there (.there (.there (.there (.there (.there .here))))) | exact .there (.there (.there (.there (.there (.there (.there .here)))))) | exact .there (.there (.there (.there (.there (.there (.there (.there .here))))))) | exact .there (.there (.there (.there (.there (.there (.there (.there (.there .here)))))))) | exact .there (.there (.there (.there (.there (.there (.there (.there (.there (.there .here))))))))) | exact .there (.there (.there (.there (.there (.there (.there (.there (.there (.there (.there .here)))))))))) | exact .there (.there (.there (.there (.there (.there (.there (.there (.there (.there (.there (.there .here))))))))))) | exact .there (.there (.there (.there (.there (.there (.there (.there (.there (.there (.there (.there (.there .here)))))))))))) | exact .there (.there (.there (.there (.there (.there (.there (.there (.there (.there (.there (.there (.there (.there .here))))))))))))) | exact .there (.there (.there (.there (.there (.there (.there (.there (.there (.there (.there (.there (.there (.there (.there .here))))))))))))))) (by repeat (first | exact Sub.nil | refine Sub.cons ?_ ?_ | exact In.here | refine In.there ?_)) Fc.sz41 (by first | exact hcells_one _ | exact of_decide_eq_true rfl) (by rfl) (.inr (by assumption)) ?_
                clear hH; intro w hH
                refine r_assign hS hH.kp0 rfl rfl ?_; clear hS; intro a hS
                refine r_assign hS hH.kp0 rfl rfl ?_; clear hS; intro a hS
                refine Sq.nil ?_
                refine then_n ?_
                refine wp_ret ?_
                refine then_r ?_
                refine leave (.inl rfl) hS rfl (Res.cell rfl (hH.get (by repeat (first | exact In.here | refine In.there ?_))) Fc.ag41 (by rfl) rfl (Res.tmp rfl (Res.tmp rfl Res.nil))) ⟨zHd, 0, _, rfl, ?_, hH.mod⟩
                have hq0 : readQ l ids = .inl y := by rw [← refQ_eq]; rw [refQ_some hx0 h0 h20]; rw [if_neg h128, if_neg h5]; rw [hq15]; simp only; rw [hq18]
                rw [hq0]; exact ⟨rfl, rfl, rfl, by first | decide | exact hbn⟩
              · obtain ⟨rs, caps, l2s, hv9, hr9, hrk9, hBs, hx9, hy9⟩ := hir
                subst hv9 hx9 hy9
                have hple18 := (idQ_le hq18).1
                have hlen18 := (idQ_le hq18).2
                replace hH := hH.know hrk9 (fun z hz e => by simp only [List.mem_cons, List.not_mem_nil, or_false] at hz; rcases hz with rfl | rfl | rfl <;> (simp only at e; omega))
                refine r_move hS hH.kp0 rfl rfl ?_; clear hS; intro a hS
                refine r_extract hS hH.kp0 rfl rfl rfl ?_; clear hS; intro a hS
                refine r_extract hS hH.kp0 rfl rfl rfl ?_; clear hS; intro a hS
                refine r_extract hS hH.kp0 rfl rfl rfl ?_; clear hS; intro a hS
                refine r_fieldAddr hS hH.kp0 rfl Fc.fo41_3 rfl ?_; clear hS; intro a hS
                refine r_store1 hS hH rfl rfl rfl (by first | exact .here | exact .there .here | exact .there (.there .here) | exact .there (.there (.there .here)) | exact .there (.there (.there (.there .here))) | exact .there (.there (.there (.there (.there .here)))) | exact .there (.there (.there (.there (.there (.there .here))))) | exact .there (.there (.there (.there (.there (.there (.there .here)))))) | exact .there (.there (.there (.there (.there (.there (.there (.there .here))))))) | exact .there (.there (.there (.there (.there (.there (.there (.there (.there .here)))))))) | exact .there (.there (.there (.there (.there (.there (.there (.there (.there (.there .here))))))))) | exact .there (.there (.there (.there (.there (.there (.there (.there (.there (.there (.there .here)))))))))) | exact .there (.there (.there (.there (.there (.there (.there (.there (.there (.there (.there (.there .here))))))))))) | exact .there (.there (.there (.there (.there (.there (.there (.there (.there (.there (.there (.there (.there .here)))))))))))) | exact .there (.there (.there (.there (.there (.there (.there (.there (.there (.there (.there (.there (.there (.there .here))))))))))))) | exact .there (.there (.there (.there (.there (.there (.there (.there (.there (.there (.there (.there (.there (.there (.there .here))))))))))))))) (by repeat (first | exact Sub.nil | refine Sub.cons ?_ ?_ | exact In.here | refine In.there ?_)) Fc.sz22 (of_decide_eq_true rfl) (.inr (by assumption)) ?_
                clear hH; intro w hH
                refine r_assign hS hH.kp0 rfl rfl ?_; clear hS; intro a hS
                refine r_assign hS hH.kp0 rfl rfl ?_; clear hS; intro a hS
                refine Sq.nil ?_
                refine then_n ?_
                refine c_seq ?_
                refine c_seq ?_
                refine reg_plain w0 (Nobody) ?_
                refine r_move hS hH.kp0 rfl rfl ?_; clear hS; intro a hS
                refine r_neq hS hH.kp0 rfl rfl rfl ?_; clear hS; intro a hS
                refine Sq.nil ?_
                refine then_n ?_
                refine c_condF hS rfl rfl ?_
                refine wp_skip ?_
                refine then_n ?_
                refine c_seq ?_
                refine c_seq ?_
                refine reg_plain w0 (Nobody) ?_
                have hqL : readQ l ids = lateQ l x0.toNat v dst src p2 := by rw [← refQ_eq]; rw [refQ_some hx0 h0 h20]; rw [if_neg h128, if_neg h5];  rw [hq15]; simp only; rw [hq18]; simp only; rw [hv9]
                refine r_move hS hH.kp0 rfl rfl ?_; clear hS; intro a hS
                refine r_eql hS hH.kp0 rfl rfl rfl ?_; clear hS; intro a hS
                refine Sq.nil ?_
                refine then_n ?_
                refine c_cond hS rfl (fun hc8 => ?_) (fun hc8 => ?_)
                · have hv0 : v = 0 := by have := beq_iff_eq.1 hc8; omega
                  subst hv0
                  refine c_seq ?_
                  refine reg_plain w0 (Nobody) ?_
                  refine r_fieldAddr hS hH.kp0 rfl Fc.fo41_0 rfl ?_; clear hS; intro a hS
                  refine r_store1 hS hH rfl rfl rfl (by first | exact .here | exact .there .here | exact .there (.there .here) | exact .there (.there (.there .here)) | exact .there (.there (.there (.there .here))) | exact .there (.there (.there (.there (.there .here)))) | exact .there (.there (.there (.there (.there (.there .here))))) | exact .there (.there (.there (.there (.there (.there (.there .here)))))) | exact .there (.there (.there (.there (.there (.there (.there (.there .here))))))) | exact .there (.there (.there (.there (.there (.there (.there (.there (.there .here)))))))) | exact .there (.there (.there (.there (.there (.there (.there (.there (.there (.there .here))))))))) | exact .there (.there (.there (.there (.there (.there (.there (.there (.there (.there (.there .here)))))))))) | exact .there (.there (.there (.there (.there (.there (.there (.there (.there (.there (.there (.there .here))))))))))) | exact .there (.there (.there (.there (.there (.there (.there (.there (.there (.there (.there (.there (.there .here)))))))))))) | exact .there (.there (.there (.there (.there (.there (.there (.there (.there (.there (.there (.there (.there (.there .here))))))))))))) | exact .there (.there (.there (.there (.there (.there (.there (.there (.there (.there (.there (.there (.there (.there (.there .here))))))))))))))) (by repeat (first | exact Sub.nil | refine Sub.cons ?_ ?_ | exact In.here | refine In.there ?_)) Fc.sz3 (of_decide_eq_true rfl) (.inr (by assumption)) ?_
                  clear hH; intro w hH
                  refine Sq.nil ?_
                  refine then_n ?_
                  refine c_seq ?_
                  refine c_seq ?_
                  refine reg_plain w0 (Nobody) ?_
                  refine r_move hS hH.kp0 rfl rfl ?_; clear hS; intro a hS
                  refine r_lenSl hS hH.kp0 rfl Fc.isSlice22 rfl ?_; clear hS; intro a hS
                  refine r_move hS hH.kp0 rfl rfl ?_; clear hS; intro a hS
                  refine r_eql hS hH.kp0 rfl rfl rfl ?_; clear hS; intro a hS
                  refine r_move hS hH.kp0 rfl rfl ?_; clear hS; intro a hS
                  have hc23 : l.length = p2 ∨ (¬ l.length = p2 ∧ (l.length - p2) % 4 ≠ 0) ∨ (¬ l.length = p2 ∧ (l.length - p2) % 4 = 0) := by omega
                  rcases hc23 with he2 | ⟨he2, h4⟩ | ⟨he2, h4⟩
                  · refine Sq.guardNo hS rfl rfl (beq_iff_eq.2 (by omega)) hH.kp0 rfl ?_; clear hS; intro a hS
                    refine Sq.guardNo hS rfl rfl (beq_iff_eq.2 (by omega)) hH.kp0 rfl ?_; clear hS; intro a hS
                    refine Sq.guardNo hS rfl rfl (beq_iff_eq.2 (by omega)) hH.kp0 rfl ?_; clear hS; intro a hS
                    refine Sq.guardNo hS rfl rfl (beq_iff_eq.2 (by omega)) hH.kp0 rfl ?_; clear hS; intro a hS
                    refine Sq.guardNo hS rfl rfl (beq_iff_eq.2 (by omega)) hH.kp0 rfl ?_; clear hS; intro a hS
                    refine Sq.guardNo hS rfl rfl (beq_iff_eq.2 (by omega)) hH.kp0 rfl ?_; clear hS; intro a hS
                    refine r_pickT hS hH.kp0 rfl (beq_iff_eq.2 (by omega)) rfl rfl ?_; clear hS; intro a hS
                    refine Sq.nil ?_
                    refine then_n ?_
                    refine c_condT hS rfl rfl ?_
                    refine c_seq ?_
                    refine reg_plain w0 (Nobody) ?_
                    refine r_buildS (parts := []) hS hH.kp0 rfl rfl Fc.zc41 Fc.pl41 (by rfl) ?_; clear hS; intro a hS
                    refine r_store_row hS hH rfl rfl (by first | exact .here | exact .there .here | exact .there (.there .here) | exact .there (.there (.there .here)) | exact .there (.there (.there (.there .here))) | exact .there (.there (.there (.there (.there .here)))) | exact .there (.there (.there (.there (.there (.there .here))))) | exact .there (.there (.there (.there (.there (.there (.there .here)))))) | exact .there (.there (.there (.there (.there (.there (.there (.there .here))))))) | exact .there (.there (.there (.there (.there (.there (.there (.there (.there .here)))))))) | exact .there (.there (.there (.there (.there (.there (.there (.there (.there (.there .here))))))))) | exact .there (.there (.there (.there (.there (.there (.there (.there (.there (.there (.there .here)))))))))) | exact .there (.there (.there (.there (.there (.there (.there (.there (.there (.there (.there (.there .here))))))))))) | exact .there (.there (.there (.there (.there (.there (.there (.there (.there (.there (.there (.there (.there .here)))))))))))) | exact .there (.there (.there (.there (.there (.there (.there (.there (.there (.there (.there (.there (.there (.there .here))))))))))))) | exact .there (.there (.there (.there (.there (.there (.there (.there (.there (.there (.there (.there (.there (.there (.there .here))))))))))))))) (by repeat (first | exact Sub.nil | refine Sub.cons ?_ ?_ | exact In.here | refine In.there ?_)) Fc.sz41 (by first | exact hcells_one _ | exact of_decide_eq_true rfl) (by rfl) (.inr (by assumption)) ?_
                    clear hH; intro w hH
                    refine r_assign hS hH.kp0 rfl rfl ?_; clear hS; intro a hS
                    refine r_assign hS hH.kp0 rfl rfl ?_; clear hS; intro a hS
                    refine Sq.nil ?_
                    refine then_n ?_
                    refine wp_ret ?_
                    refine then_r ?_
                    refine then_r ?_
                    refine leave (.inl rfl) hS rfl (Res.cell rfl (hH.get (by repeat (first | exact In.here | refine In.there ?_))) Fc.ag41 (by rfl) rfl (Res.tmp rfl (Res.tmp rfl Res.nil))) ⟨zHd, 0, _, rfl, ?_, hH.mod⟩
                    have hq0 : readQ l ids = .inl 11 := by rw [hqL]; unfold lateQ; rw [if_pos rfl, if_pos (by omega)]
                    rw [hq0]; exact ⟨rfl, rfl, rfl, by decide⟩
                  · refine Sq.guardYes hS rfl rfl (beq_false_of_ne (by omega)) ?_
                    refine r_move hS hH.kp0 rfl rfl ?_; clear hS; intro a hS
                    refine Sq.guardYes hS rfl rfl (beq_false_of_ne (by omega)) ?_
                    refine r_lenSl hS hH.kp0 rfl Fc.isSlice22 rfl ?_; clear hS; intro a hS
                    refine Sq.guardYes hS rfl rfl (beq_false_of_ne (by omega)) ?_
                    refine r_move hS hH.kp0 rfl rfl ?_; clear hS; intro a hS
                    refine Sq.guardYes hS rfl rfl (beq_false_of_ne (by omega)) ?_
                    first | refine r_sub hS hH.kp0 rfl rfl rfl (by omega) ?_ | refine r_subw hS hH.kp0 rfl rfl rfl ?_
                    clear hS; intro a hS
                    refine Sq.guardYes hS rfl rfl (beq_false_of_ne (by omega)) ?_
                    refine r_remI (l.length - p2) 4 hS hH.kp0 rfl rfl rfl (by omega) rfl (by decide) ?_; clear hS; intro a hS
                    refine Sq.guardYes hS rfl rfl (beq_false_of_ne (by omega)) ?_
                    refine r_neq hS hH.kp0 rfl rfl rfl ?_; clear hS; intro a hS
                    refine r_pickF hS hH.kp0 rfl (beq_false_of_ne (by omega)) rfl rfl ?_; clear hS; intro a hS
                    refine Sq.nil ?_
                    refine then_n ?_
                    refine c_condT hS rfl (bne_iff_ne.2 (by omega)) ?_
                    refine c_seq ?_
                    refine reg_plain w0 (Nobody) ?_
                    refine r_buildS (parts := []) hS hH.kp0 rfl rfl Fc.zc41 Fc.pl41 (by rfl) ?_; clear hS; intro a hS
                    refine r_store_row hS hH rfl rfl (by first | exact .here | exact .there .here | exact .there (.there .here) | exact .there (.there (.there .here)) | exact .there (.there (.there (.there .here))) | exact .there (.there (.there (.there (.there .here)))) | exact .there (.there (.there (.there (.there (.there .here))))) | exact .there (.there (.there (.there (.there (.there (.there .here)))))) | exact .there (.there (.there (.there (.there (.there (.there (.there .here))))))) | exact .there (.there (.there (.there (.there (.there (.there (.there (.there .here)))))))) | exact .there (.there (.there (.there (.there (.there (.there (.there (.there (.there .here))))))))) | exact .there (.there (.there (.there (.there (.there (.there (.there (.there (.there (.there .here)))))))))) | exact .there (.there (.there (.there (.there (.there (.there (.there (.there (.there (.there (.there .here))))))))))) | exact .there (.there (.there (.there (.there (.there (.there (.there (.there (.there (.there (.there (.there .here)))))))))))) | exact .there (.there (.there (.there (.there (.there (.there (.there (.there (.there (.there (.there (.there (.there .here))))))))))))) | exact .there (.there (.there (.there (.there (.there (.there (.there (.there (.there (.there (.there (.there (.there (.there .here))))))))))))))) (by repeat (first | exact Sub.nil | refine Sub.cons ?_ ?_ | exact In.here | refine In.there ?_)) Fc.sz41 (by first | exact hcells_one _ | exact of_decide_eq_true rfl) (by rfl) (.inr (by assumption)) ?_
                    clear hH; intro w hH
                    refine r_assign hS hH.kp0 rfl rfl ?_; clear hS; intro a hS
                    refine r_assign hS hH.kp0 rfl rfl ?_; clear hS; intro a hS
                    refine Sq.nil ?_
                    refine then_n ?_
                    refine wp_ret ?_
                    refine then_r ?_
                    refine then_r ?_
                    refine leave (.inl rfl) hS rfl (Res.cell rfl (hH.get (by repeat (first | exact In.here | refine In.there ?_))) Fc.ag41 (by rfl) rfl (Res.tmp rfl (Res.tmp rfl Res.nil))) ⟨zHd, 0, _, rfl, ?_, hH.mod⟩
                    have hq0 : readQ l ids = .inl 11 := by rw [hqL]; unfold lateQ; rw [if_pos rfl, if_pos (by omega)]
                    rw [hq0]; exact ⟨rfl, rfl, rfl, by decide⟩
                  · refine Sq.guardYes hS rfl rfl (beq_false_of_ne (by omega)) ?_
                    refine r_move hS hH.kp0 rfl rfl ?_; clear hS; intro a hS
                    refine Sq.guardYes hS rfl rfl (beq_false_of_ne (by omega)) ?_
                    refine r_lenSl hS hH.kp0 rfl Fc.isSlice22 rfl ?_; clear hS; intro a hS
                    refine Sq.guardYes hS rfl rfl (beq_false_of_ne (by omega)) ?_
                    refine r_move hS hH.kp0 rfl rfl ?_; clear hS; intro a hS
                    refine Sq.guardYes hS rfl rfl (beq_false_of_ne (by omega)) ?_
                    first | refine r_sub hS hH.kp0 rfl rfl rfl (by omega) ?_ | refine r_subw hS hH.kp0 rfl rfl rfl ?_
                    clear hS; intro a hS
                    refine Sq.guardYes hS rfl rfl (beq_false_of_ne (by omega)) ?_
                    refine r_remI (l.length - p2) 4 hS hH.kp0 rfl rfl rfl (by omega) rfl (by decide) ?_; clear hS; intro a hS
                    refine Sq.guardYes hS rfl rfl (beq_false_of_ne (by omega)) ?_
                    refine r_neq hS hH.kp0 rfl rfl rfl ?_; clear hS; intro a hS
                    refine r_pickF hS hH.kp0 rfl (beq_false_of_ne (by omega)) rfl rfl ?_; clear hS; intro a hS
                    refine Sq.nil ?_
                    refine then_n ?_
                    refine c_condF hS rfl (by rw [h4]; rfl) ?_
                    refine wp_skip ?_
                    refine then_n ?_
                    refine c_seq ?_
                    refine wp_block ?_
                    refine c_loop (fun m a w => ∃ (k : Nat) (at_ : Int) (gv : Value), m + k = (l.length - p2) / 4 ∧ at_ = ((p2 + 4 * k : Nat) : Int) ∧ Own w0.heap.size 1 3 w gv k ((words l p2 k).map (Value.int .i64)) ∧ St 150 (lv [(0, .slice (some ⟨ba, bob, none⟩) l.length qc), (4, .pointer (some ⟨bo, 0, none⟩)), (8, .int .i64 at_), (10, .pointer (some ⟨bx, 0, none⟩))]) a ∧ Hp w0 Nobody [(rs, .cells l2s.toArray 5 (0, 0)), (rd, .cells l2d.toArray 5 (0, 0)), (bx, .cells ([.int .i64 4, .int .i64 ((0 : Nat) : Int), .slice (some ⟨rd, 0, none⟩) dst.length capd, .slice (some ⟨rs, 0, none⟩) src.length caps, .slice none 0 0, .int .i64 0, .bool false, gv] ++ hcells z16 : List Value).toArray 41 (0, 0)), (bo, .cells zHd.toArray 41 (0, 0))] w) ((l.length - p2) / 4) ?_ ?_
                    · exact ⟨0, _, _, by omega, rfl, Own.nil _ _ _ _, hS.live ⟨rfl, rfl, rfl, rfl, trivial⟩, hH⟩
                    clear hS hH; intro m a w hI; obtain ⟨k, at_, gv, hmk, hi, hO, hS, hH⟩ := hI
                    refine c_seq ?_
                    refine c_seq ?_
                    refine reg_plain w0 (Nobody) ?_
                    rcases hO with ⟨rfl, hk0, hxs⟩ | ⟨ob, c9, l9, rfl, hob0, hbo9, hl9, hm9, htk9⟩
                    · refine r_move hS hH.kp0 rfl rfl ?_; clear hS; intro a hS
                      refine r_move hS hH.kp0 rfl rfl ?_; clear hS; intro a hS
                      refine r_lenSl hS hH.kp0 rfl Fc.isSlice22 rfl ?_; clear hS; intro a hS
                      refine r_lss hS hH.kp0 rfl rfl rfl ?_; clear hS; intro a hS
                      refine Sq.nil ?_
                      refine then_n ?_
                      refine c_cond hS rfl (fun hc10 => ?_) (fun hc10 => ?_)
                      · have hkl : k < (l.length - p2) / 4 := by have := of_decide_eq_true hc10; omega
                        have hwl : ((l.drop (p2 + 4 * k)).take (p2 + 4 * k + 4 - (p2 + 4 * k))).length = 4 := by simp; omega
                        have hbn4 := beN_lt ((l.drop (p2 + 4 * k)).take (p2 + 4 * k + 4 - (p2 + 4 * k)))
                        rw [hwl] at hbn4
                        have hw5 : ((l.drop (p2 + 4 * k)).take (p2 + 4 * k + 4 - (p2 + 4 * k))) = (l.drop (p2 + 4 * k)).take 4 := by rw [Nat.add_sub_cancel_left]
                        refine wp_skip ?_
                        refine then_n ?_
                        refine wp_block ?_
                        refine c_seq ?_
                        refine reg_draw [(true, 0, [2]), (true, 1, []), (true, 2, [2]), (true, 3, [2]), (true, 4, [2]), (true, 5, [2]), (true, 6, [2]), (false, 7, []), (false, 8, []), (false, 9, []), (false, 10, []), (true, 11, [2]), (false, 12, [2])] Fc.mixed (by kernel_rfl) (by kernel_rfl) (by kernel_rfl) (by kernel_rfl) (by kernel_rfl) (by repeat (first | with_reducible exact steady_body | with_reducible apply steady_block | with_reducible apply steady_then | with_reducible apply steady_scope | exact steady_body)) hH ?_
                        replace hH := hH.drew
                        refine r_fieldAddr hS trivial rfl Fc.fo41_7 rfl ?_; clear hS; intro a hS
                        refine r_load_scS hS rfl (by repeat (first | exact In.here | refine In.there ?_)) Fc.sc23 (by rfl) rfl ?_; clear hS; intro a hS
                        refine r_move hS trivial rfl rfl ?_; clear hS; intro a hS
                        refine r_move hS trivial rfl rfl ?_; clear hS; intro a hS
                        refine r_move hS trivial rfl rfl ?_; clear hS; intro a hS
                        first | refine r_add hS trivial rfl rfl rfl (by omega) ?_ | refine r_addw hS trivial rfl rfl rfl ?_
                        clear hS; intro a hS
                        refine r_slLoHi (ll := p2 + 4 * k) (hh := p2 + 4 * k + 4) hS trivial rfl rfl rfl Fc.slb22 hi (by omega) (by omega) (by omega) rfl ?_; clear hS; intro a hS
                        refine r_call (l := [.tmp 114]) hS rfl rfl Fc.fn40 rfl ?_
                        refine Calls.mono (Number_c _ ((l.drop (p2 + 4 * k)).take (p2 + 4 * k + 4 - (p2 + 4 * k))) (by rw [hwl]; decide) _ ((hb.ext hH.mod).f.part (ll := p2 + 4 * k) (hh := p2 + 4 * k + 4) (by omega) (by omega)).bs) ?_
                        rintro e w1 ⟨rfl, hE⟩
                        replace hH := hH.ext hE
                        refine ⟨_, rfl, hH.kp (by repeat (first | exact Sub.nil | refine Sub.cons ?_ ?_ | exact In.here | refine In.there ?_)), ?_⟩
                        clear hS; intro a hS
                        refine r_toI64 (beN ((l.drop (p2 + 4 * k)).take 4)) hS (hH.kp (by repeat (first | exact Sub.nil | refine Sub.cons ?_ ?_ | exact In.here | refine In.there ?_))) rfl Fc.ui3 Fc.us36 rfl (by rw [hw5]) (by rw [hw5] at hbn4; omega) ?_; clear hS; intro a hS
                        refine r_buildSlice (parts := [(0, .tmp 116)]) hS hH (by repeat (first | exact Sub.nil | refine Sub.cons ?_ ?_ | exact In.here | refine In.there ?_)) rfl Fc.bsl23_1 (by rfl) rfl ?_
                        clear hS hH; intro a w b117 hb117 hwb117 hS hH
                        refine r_append_nil hS hH (by repeat (first | exact Sub.nil | refine Sub.cons ?_ ?_ | exact In.here | refine In.there ?_)) rfl rfl Fc.el23 Fc.ni23 (src_one (hH.get .here) rfl) (by decide) (by decide) rfl ?_
                        clear hS hH; intro a w ob c9 l9 hob0 hob1 hl9 hm9 htk9 hE9 hS hH
                        refine r_fieldAddr hS trivial rfl Fc.fo41_7 rfl ?_; clear hS; intro a hS
                        refine r_store1 hS hH rfl rfl rfl (by first | exact .here | exact .there .here | exact .there (.there .here) | exact .there (.there (.there .here)) | exact .there (.there (.there (.there .here))) | exact .there (.there (.there (.there (.there .here)))) | exact .there (.there (.there (.there (.there (.there .here))))) | exact .there (.there (.there (.there (.there (.there (.there .here)))))) | exact .there (.there (.there (.there (.there (.there (.there (.there .here))))))) | exact .there (.there (.there (.there (.there (.there (.there (.there (.there .here)))))))) | exact .there (.there (.there (.there (.there (.there (.there (.there (.there (.there .here))))))))) | exact .there (.there (.there (.there (.there (.there (.there (.there (.there (.there (.there .here)))))))))) | exact .there (.there (.there (.there (.there (.there (.there (.there (.there (.there (.there (.there .here))))))))))) | exact .there (.there (.there (.there (.there (.there (.there (.there (.there (.there (.there (.there (.there .here)))))))))))) | exact .there (.there (.there (.there (.there (.there (.there (.there (.there (.there (.there (.there (.there (.there .here))))))))))))) | exact .there (.there (.there (.there (.there (.there (.there (.there (.there (.there (.there (.there (.there (.there (.there .here))))))))))))))) (by repeat (first | exact Sub.nil | refine Sub.cons ?_ ?_ | exact In.here | refine In.there ?_)) Fc.sz23 (of_decide_eq_true rfl) (.inr (by assumption)) ?_
                        clear hH; intro w hH
                        refine Sq.nil ?_
                        refine then_n ?_
                        refine reg_plain w0 (Nobody) ?_
                        refine r_move hS hH.kp0 rfl rfl ?_; clear hS; intro a hS
                        first | refine r_add hS hH.kp0 rfl rfl rfl (by omega) ?_ | refine r_addw hS hH.kp0 rfl rfl rfl ?_
                        clear hS; intro a hS
                        refine r_assign hS hH.kp0 rfl rfl ?_; clear hS; intro a hS
                        refine Sq.nil ?_
                        refine blk_n ?_
                        refine then_n ?_
                        subst hk0
                        have hHz := hH.front (b := ob) (by first | exact .here | exact .there .here | exact .there (.there .here) | exact .there (.there (.there .here)) | exact .there (.there (.there (.there .here))) | exact .there (.there (.there (.there (.there .here)))) | exact .there (.there (.there (.there (.there (.there .here))))) | exact .there (.there (.there (.there (.there (.there (.there .here)))))) | exact .there (.there (.there (.there (.there (.there (.there (.there .here))))))) | exact .there (.there (.there (.there (.there (.there (.there (.there (.there .here)))))))) | exact .there (.there (.there (.there (.there (.there (.there (.there (.there (.there .here))))))))) | exact .there (.there (.there (.there (.there (.there (.there (.there (.there (.there (.there .here)))))))))) | exact .there (.there (.there (.there (.there (.there (.there (.there (.there (.there (.there (.there .here))))))))))) | exact .there (.there (.there (.there (.there (.there (.there (.there (.there (.there (.there (.there (.there .here)))))))))))) | exact .there (.there (.there (.there (.there (.there (.there (.there (.there (.there (.there (.there (.there (.there .here))))))))))))) | exact .there (.there (.there (.there (.there (.there (.there (.there (.there (.there (.there (.there (.there (.there (.there .here)))))))))))))))
                        refine ⟨m - 1, by omega, 0 + 1, _, .slice (some ⟨ob, 0, none⟩) 1 c9, by omega, ?_, .inr ⟨ob, c9, l9, rfl, hob0, hHz.get .here, hl9, hm9, ?_⟩, hS.live ⟨rfl, rfl, rfl, rfl, trivial⟩, ?_⟩
                        · omega
                        · rw [words_succ]; simpa [words] using htk9
                        · exact hHz.sub (by repeat (first | exact Sub.nil | refine Sub.cons ?_ ?_ | exact In.here | refine In.there ?_)) (by have nd := hHz.nd; simp only [List.map_cons, List.map_nil, List.nodup_cons] at nd ⊢; simp_all)
                      · have hke : k = (l.length - p2) / 4 := by have := of_decide_eq_false hc10; omega
                        subst hke
                        refine wp_exit ?_
                        refine then_e ?_
                        refine then_e ?_
                        refine blk_hit ?_
                        refine then_n ?_
                        refine c_seq ?_
                        refine reg_plain w0 (Nobody) ?_
                        refine r_load_row hS hH (by repeat (first | exact Sub.nil | refine Sub.cons ?_ ?_ | exact In.here | refine In.there ?_)) rfl (by repeat (first | exact In.here | refine In.there ?_)) Fc.ag41 (by rfl) rfl ?_; clear hS; intro a hS
                        refine r_move hS hH.kp0 rfl rfl ?_; clear hS; intro a hS
                        refine r_store_row hS hH rfl rfl (by first | exact .here | exact .there .here | exact .there (.there .here) | exact .there (.there (.there .here)) | exact .there (.there (.there (.there .here))) | exact .there (.there (.there (.there (.there .here)))) | exact .there (.there (.there (.there (.there (.there .here))))) | exact .there (.there (.there (.there (.there (.there (.there .here)))))) | exact .there (.there (.there (.there (.there (.there (.there (.there .here))))))) | exact .there (.there (.there (.there (.there (.there (.there (.there (.there .here)))))))) | exact .there (.there (.there (.there (.there (.there (.there (.there (.there (.there .here))))))))) | exact .there (.there (.there (.there (.there (.there (.there (.there (.there (.there (.there .here)))))))))) | exact .there (.there (.there (.there (.there (.there (.there (.there (.there (.there (.there (.there .here))))))))))) | exact .there (.there (.there (.there (.there (.there (.there (.there (.there (.there (.there (.there (.there .here)))))))))))) | exact .there (.there (.there (.there (.there (.there (.there (.there (.there (.there (.there (.there (.there (.there .here))))))))))))) | exact .there (.there (.there (.there (.there (.there (.there (.there (.there (.there (.there (.there (.there (.there (.there .here))))))))))))))) (by repeat (first | exact Sub.nil | refine Sub.cons ?_ ?_ | exact In.here | refine In.there ?_)) Fc.sz41 (hd_one (t := z16) rfl rfl rfl rfl) (by rfl) (.inr (by assumption)) ?_; clear hH; intro w hH
                        refine r_assign hS hH.kp0 rfl rfl ?_; clear hS; intro a hS
                        refine r_assign hS hH.kp0 rfl rfl ?_; clear hS; intro a hS
                        refine Sq.nil ?_
                        refine then_n ?_
                        refine wp_ret ?_
                        refine then_r ?_
                        refine leave (.inl rfl) hS rfl (Res.cell rfl (hH.get (by repeat (first | exact In.here | refine In.there ?_))) Fc.ag41 (by rfl) rfl (Res.tmp rfl (Res.tmp rfl Res.nil))) ⟨_, _, _, rfl, ?_, hH.mod⟩
                        have hq0 : readQ l ids = .inr (⟨4, 0, dst, src, [], 0, false, words l p2 ((l.length - p2) / 4), z16⟩, l.length) := by rw [hqL]; unfold lateQ; rw [if_pos rfl, if_neg (by omega)]
                        have hwn := words_len l p2 ((l.length - p2) / 4)
                        rw [hq0]
                        refine ⟨⟨_, _, _, _, rfl, .inr ⟨rd, capd, l2d, rfl, by omega, hH.get (b := rd) (by repeat (first | exact In.here | refine In.there ?_)), hBd.le, hBd.len, hBd.take⟩, .inr ⟨rs, caps, l2s, rfl, by omega, hH.get (b := rs) (by repeat (first | exact In.here | refine In.there ?_)), hBs.le, hBs.len, hBs.take⟩, OwnB.nil _ _ _, ?_, rfl⟩, by omega, rfl⟩
                        show Own _ _ _ _ _ (words l p2 ((l.length - p2) / 4)).length _
                        rw [hwn]
                        first | exact .inl ⟨rfl, hk0, hxs⟩ | exact .inr ⟨ob, c9, l9, rfl, hob0, hH.get (b := ob) (by repeat (first | exact In.here | refine In.there ?_)), hl9, hm9, htk9⟩
                    · replace hH := hH.know hbo9 (fun z hz e => by simp only [List.mem_cons, List.not_mem_nil, or_false] at hz; rcases hz with rfl | rfl | rfl | rfl <;> first | (simp only at e; exact own_ne (hH.get (b := rs) (by repeat (first | exact In.here | refine In.there ?_))) hbo9 e) | (simp only at e; exact own_ne (hH.get (b := rd) (by repeat (first | exact In.here | refine In.there ?_))) hbo9 e) | (simp only at e; exact own_neH (hH.get (b := bx) (by repeat (first | exact In.here | refine In.there ?_))) hbo9 e) | (simp only at e; exact own_neH (hH.get (b := bo) (by repeat (first | exact In.here | refine In.there ?_))) hbo9 e))
                      refine r_move hS hH.kp0 rfl rfl ?_; clear hS; intro a hS
                      refine r_move hS hH.kp0 rfl rfl ?_; clear hS; intro a hS
                      refine r_lenSl hS hH.kp0 rfl Fc.isSlice22 rfl ?_; clear hS; intro a hS
                      refine r_lss hS hH.kp0 rfl rfl rfl ?_; clear hS; intro a hS
                      refine Sq.nil ?_
                      refine then_n ?_
                      refine c_cond hS rfl (fun hc10 => ?_) (fun hc10 => ?_)
                      · have hkl : k < (l.length - p2) / 4 := by have := of_decide_eq_true hc10; omega
                        have hwl : ((l.drop (p2 + 4 * k)).take (p2 + 4 * k + 4 - (p2 + 4 * k))).length = 4 := by simp; omega
                        have hbn4 := beN_lt ((l.drop (p2 + 4 * k)).take (p2 + 4 * k + 4 - (p2 + 4 * k)))
                        rw [hwl] at hbn4
                        have hw5 : ((l.drop (p2 + 4 * k)).take (p2 + 4 * k + 4 - (p2 + 4 * k))) = (l.drop (p2 + 4 * k)).take 4 := by rw [Nat.add_sub_cancel_left]
                        refine wp_skip ?_
                        refine then_n ?_
                        refine wp_block ?_
                        refine c_seq ?_
                        refine reg_draw [(true, 0, [0, 3]), (true, 1, [0]), (true, 2, [0, 3]), (true, 3, [0, 3]), (true, 4, [0, 3]), (true, 5, [0, 3]), (true, 6, [0, 3]), (false, 7, []), (false, 8, []), (false, 9, []), (false, 10, [0]), (true, 11, [0, 3]), (false, 12, [0, 3])] Fc.mixed (by kernel_rfl) (by kernel_rfl) (by kernel_rfl) (by kernel_rfl) (by kernel_rfl) (by repeat (first | with_reducible exact steady_body | with_reducible apply steady_block | with_reducible apply steady_then | with_reducible apply steady_scope | exact steady_body)) hH ?_
                        replace hH := hH.drew
                        refine r_fieldAddr hS trivial rfl Fc.fo41_7 rfl ?_; clear hS; intro a hS
                        refine r_load_scS hS rfl (by repeat (first | exact In.here | refine In.there ?_)) Fc.sc23 (by rfl) rfl ?_; clear hS; intro a hS
                        refine r_move hS trivial rfl rfl ?_; clear hS; intro a hS
                        refine r_move hS trivial rfl rfl ?_; clear hS; intro a hS
                        refine r_move hS trivial rfl rfl ?_; clear hS; intro a hS
                        first | refine r_add hS trivial rfl rfl rfl (by omega) ?_ | refine r_addw hS trivial rfl rfl rfl ?_
                        clear hS; intro a hS
                        refine r_slLoHi (ll := p2 + 4 * k) (hh := p2 + 4 * k + 4) hS trivial rfl rfl rfl Fc.slb22 hi (by omega) (by omega) (by omega) rfl ?_; clear hS; intro a hS
                        refine r_call (l := [.tmp 114]) hS rfl rfl Fc.fn40 rfl ?_
                        refine Calls.mono (Number_c _ ((l.drop (p2 + 4 * k)).take (p2 + 4 * k + 4 - (p2 + 4 * k))) (by rw [hwl]; decide) _ ((hb.ext hH.mod).f.part (ll := p2 + 4 * k) (hh := p2 + 4 * k + 4) (by omega) (by omega)).bs) ?_
                        rintro e w1 ⟨rfl, hE⟩
                        replace hH := hH.ext hE
                        refine ⟨_, rfl, hH.kp (by repeat (first | exact Sub.nil | refine Sub.cons ?_ ?_ | exact In.here | refine In.there ?_)), ?_⟩
                        clear hS; intro a hS
                        refine r_toI64 (beN ((l.drop (p2 + 4 * k)).take 4)) hS (hH.kp (by repeat (first | exact Sub.nil | refine Sub.cons ?_ ?_ | exact In.here | refine In.there ?_))) rfl Fc.ui3 Fc.us36 rfl (by rw [hw5]) (by rw [hw5] at hbn4; omega) ?_; clear hS; intro a hS
                        refine r_buildSlice (parts := [(0, .tmp 116)]) hS hH (by repeat (first | exact Sub.nil | refine Sub.cons ?_ ?_ | exact In.here | refine In.there ?_)) rfl Fc.bsl23_1 (by rfl) rfl ?_
                        clear hS hH; intro a w b117 hb117 hwb117 hS hH
                        refine r_append_own2 hS hH rfl rfl (by first | exact .here | exact .there .here | exact .there (.there .here) | exact .there (.there (.there .here)) | exact .there (.there (.there (.there .here))) | exact .there (.there (.there (.there (.there .here)))) | exact .there (.there (.there (.there (.there (.there .here))))) | exact .there (.there (.there (.there (.there (.there (.there .here)))))) | exact .there (.there (.there (.there (.there (.there (.there (.there .here))))))) | exact .there (.there (.there (.there (.there (.there (.there (.there (.there .here)))))))) | exact .there (.there (.there (.there (.there (.there (.there (.there (.there (.there .here))))))))) | exact .there (.there (.there (.there (.there (.there (.there (.there (.there (.there (.there .here)))))))))) | exact .there (.there (.there (.there (.there (.there (.there (.there (.there (.there (.there (.there .here))))))))))) | exact .there (.there (.there (.there (.there (.there (.there (.there (.there (.there (.there (.there (.there .here)))))))))))) | exact .there (.there (.there (.there (.there (.there (.there (.there (.there (.there (.there (.there (.there (.there .here))))))))))))) | exact .there (.there (.there (.there (.there (.there (.there (.there (.there (.there (.there (.there (.there (.there (.there .here))))))))))))))) (by repeat (first | exact Sub.nil | refine Sub.cons ?_ ?_ | exact In.here | refine In.there ?_)) Fc.el23 Fc.ni23 hl9 hm9 (src_one (hH.get .here) rfl) (by omega) hob0 rfl ?_
                        clear hS hH; intro a w ob2 c10 l10 hob2 hl10 hm10 htk10 hmw10 hS hH
                        refine r_fieldAddr hS trivial rfl Fc.fo41_7 rfl ?_; clear hS; intro a hS
                        refine r_store1 hS hH rfl rfl rfl (by first | exact .here | exact .there .here | exact .there (.there .here) | exact .there (.there (.there .here)) | exact .there (.there (.there (.there .here))) | exact .there (.there (.there (.there (.there .here)))) | exact .there (.there (.there (.there (.there (.there .here))))) | exact .there (.there (.there (.there (.there (.there (.there .here)))))) | exact .there (.there (.there (.there (.there (.there (.there (.there .here))))))) | exact .there (.there (.there (.there (.there (.there (.there (.there (.there .here)))))))) | exact .there (.there (.there (.there (.there (.there (.there (.there (.there (.there .here))))))))) | exact .there (.there (.there (.there (.there (.there (.there (.there (.there (.there (.there .here)))))))))) | exact .there (.there (.there (.there (.there (.there (.there (.there (.there (.there (.there (.there .here))))))))))) | exact .there (.there (.there (.there (.there (.there (.there (.there (.there (.there (.there (.there (.there .here)))))))))))) | exact .there (.there (.there (.there (.there (.there (.there (.there (.there (.there (.there (.there (.there (.there .here))))))))))))) | exact .there (.there (.there (.there (.there (.there (.there (.there (.there (.there (.there (.there (.there (.there (.there .here))))))))))))))) (by repeat (first | exact Sub.nil | refine Sub.cons ?_ ?_ | exact In.here | refine In.there ?_)) Fc.sz23 (of_decide_eq_true rfl) (.inr (by assumption)) ?_
                        clear hH; intro w hH
                        refine Sq.nil ?_
                        refine then_n ?_
                        refine reg_plain w0 (Nobody) ?_
                        refine r_move hS hH.kp0 rfl rfl ?_; clear hS; intro a hS
                        first | refine r_add hS hH.kp0 rfl rfl rfl (by omega) ?_ | refine r_addw hS hH.kp0 rfl rfl rfl ?_
                        clear hS; intro a hS
                        refine r_assign hS hH.kp0 rfl rfl ?_; clear hS; intro a hS
                        refine Sq.nil ?_
                        refine blk_n ?_
                        refine then_n ?_
                        have hHz := hH.front (b := ob2) (by first | exact .here | exact .there .here | exact .there (.there .here) | exact .there (.there (.there .here)) | exact .there (.there (.there (.there .here))) | exact .there (.there (.there (.there (.there .here)))) | exact .there (.there (.there (.there (.there (.there .here))))) | exact .there (.there (.there (.there (.there (.there (.there .here)))))) | exact .there (.there (.there (.there (.there (.there (.there (.there .here))))))) | exact .there (.there (.there (.there (.there (.there (.there (.there (.there .here)))))))) | exact .there (.there (.there (.there (.there (.there (.there (.there (.there (.there .here))))))))) | exact .there (.there (.there (.there (.there (.there (.there (.there (.there (.there (.there .here)))))))))) | exact .there (.there (.there (.there (.there (.there (.there (.there (.there (.there (.there (.there .here))))))))))) | exact .there (.there (.there (.there (.there (.there (.there (.there (.there (.there (.there (.there (.there .here)))))))))))) | exact .there (.there (.there (.there (.there (.there (.there (.there (.there (.there (.there (.there (.there (.there .here))))))))))))) | exact .there (.there (.there (.there (.there (.there (.there (.there (.there (.there (.there (.there (.there (.there (.there .here)))))))))))))))
                        refine ⟨m - 1, by omega, k + 1, _, .slice (some ⟨ob2, 0, none⟩) (k + 1) c10, by omega, ?_, .inr ⟨ob2, c10, l10, rfl, hob2, hHz.get .here, hl10, hm10, ?_⟩, hS.live ⟨rfl, rfl, rfl, rfl, trivial⟩, ?_⟩
                        · omega
                        · rw [words_succ, htk10, htk9, List.map_append]; rfl
                        · exact hHz.sub (by repeat (first | exact Sub.nil | refine Sub.cons ?_ ?_ | exact In.here | refine In.there ?_)) (by have nd := hHz.nd; simp only [List.map_cons, List.map_nil, List.nodup_cons] at nd ⊢; simp_all)
                      · have hke : k = (l.length - p2) / 4 := by have := of_decide_eq_false hc10; omega
                        subst hke
                        refine wp_exit ?_
                        refine then_e ?_
                        refine then_e ?_
                        refine blk_hit ?_
                        refine then_n ?_
                        refine c_seq ?_
                        refine reg_plain w0 (Nobody) ?_
                        refine r_load_row hS hH (by repeat (first | exact Sub.nil | refine Sub.cons ?_ ?_ | exact In.here | refine In.there ?_)) rfl (by repeat (first | exact In.here | refine In.there ?_)) Fc.ag41 (by rfl) rfl ?_; clear hS; intro a hS
                        refine r_move hS hH.kp0 rfl rfl ?_; clear hS; intro a hS
                        refine r_store_row hS hH rfl rfl (by first | exact .here | exact .there .here | exact .there (.there .here) | exact .there (.there (.there .here)) | exact .there (.there (.there (.there .here))) | exact .there (.there (.there (.there (.there .here)))) | exact .there (.there (.there (.there (.there (.there .here))))) | exact .there (.there (.there (.there (.there (.there (.there .here)))))) | exact .there (.there (.there (.there (.there (.there (.there (.there .here))))))) | exact .there (.there (.there (.there (.there (.there (.there (.there (.there .here)))))))) | exact .there (.there (.there (.there (.there (.there (.there (.there (.there (.there .here))))))))) | exact .there (.there (.there (.there (.there (.there (.there (.there (.there (.there (.there .here)))))))))) | exact .there (.there (.there (.there (.there (.there (.there (.there (.there (.there (.there (.there .here))))))))))) | exact .there (.there (.there (.there (.there (.there (.there (.there (.there (.there (.there (.there (.there .here)))))))))))) | exact .there (.there (.there (.there (.there (.there (.there (.there (.there (.there (.there (.there (.there (.there .here))))))))))))) | exact .there (.there (.there (.there (.there (.there (.there (.there (.there (.there (.there (.there (.there (.there (.there .here))))))))))))))) (by repeat (first | exact Sub.nil | refine Sub.cons ?_ ?_ | exact In.here | refine In.there ?_)) Fc.sz41 (hd_one (t := z16) rfl rfl rfl rfl) (by rfl) (.inr (by assumption)) ?_; clear hH; intro w hH
                        refine r_assign hS hH.kp0 rfl rfl ?_; clear hS; intro a hS
                        refine r_assign hS hH.kp0 rfl rfl ?_; clear hS; intro a hS
                        refine Sq.nil ?_
                        refine then_n ?_
                        refine wp_ret ?_
                        refine then_r ?_
                        refine leave (.inl rfl) hS rfl (Res.cell rfl (hH.get (by repeat (first | exact In.here | refine In.there ?_))) Fc.ag41 (by rfl) rfl (Res.tmp rfl (Res.tmp rfl Res.nil))) ⟨_, _, _, rfl, ?_, hH.mod⟩
                        have hq0 : readQ l ids = .inr (⟨4, 0, dst, src, [], 0, false, words l p2 ((l.length - p2) / 4), z16⟩, l.length) := by rw [hqL]; unfold lateQ; rw [if_pos rfl, if_neg (by omega)]
                        have hwn := words_len l p2 ((l.length - p2) / 4)
                        rw [hq0]
                        refine ⟨⟨_, _, _, _, rfl, .inr ⟨rd, capd, l2d, rfl, by omega, hH.get (b := rd) (by repeat (first | exact In.here | refine In.there ?_)), hBd.le, hBd.len, hBd.take⟩, .inr ⟨rs, caps, l2s, rfl, by omega, hH.get (b := rs) (by repeat (first | exact In.here | refine In.there ?_)), hBs.le, hBs.len, hBs.take⟩, OwnB.nil _ _ _, ?_, rfl⟩, by omega, rfl⟩
                        show Own _ _ _ _ _ (words l p2 ((l.length - p2) / 4)).length _
                        rw [hwn]
                        first | exact .inl ⟨rfl, hk0, hxs⟩ | exact .inr ⟨ob, c9, l9, rfl, hob0, hH.get (b := ob) (by repeat (first | exact In.here | refine In.there ?_)), hl9, hm9, htk9⟩
                · have hv0 : ¬ v = 0 := by have := ne_of_beq_false hc8; omega
                  refine wp_skip ?_
                  refine then_n ?_
                  refine c_seq ?_
                  refine c_seq ?_
                  refine reg_plain w0 (Nobody) ?_
                  refine r_move hS hH.kp0 rfl rfl ?_; clear hS; intro a hS
                  refine r_neq hS hH.kp0 rfl rfl rfl ?_; clear hS; intro a hS
                  refine Sq.nil ?_
                  refine then_n ?_
                  refine c_cond hS rfl (fun hc11 => ?_) (fun hc11 => ?_)
                  · have hv1 : ¬ v = 1 := by have := bne_iff_ne.1 hc11; omega
                    refine c_seq ?_
                    refine reg_plain w0 (Nobody) ?_
                    refine r_fieldAddr hS hH.kp0 rfl Fc.fo41_0 rfl ?_; clear hS; intro a hS
                    refine r_store1 hS hH rfl rfl rfl (by first | exact .here | exact .there .here | exact .there (.there .here) | exact .there (.there (.there .here)) | exact .there (.there (.there (.there .here))) | exact .there (.there (.there (.there (.there .here)))) | exact .there (.there (.there (.there (.there (.there .here))))) | exact .there (.there (.there (.there (.there (.there (.there .here)))))) | exact .there (.there (.there (.there (.there (.there (.there (.there .here))))))) | exact .there (.there (.there (.there (.there (.there (.there (.there (.there .here)))))))) | exact .there (.there (.there (.there (.there (.there (.there (.there (.there (.there .here))))))))) | exact .there (.there (.there (.there (.there (.there (.there (.there (.there (.there (.there .here)))))))))) | exact .there (.there (.there (.there (.there (.there (.there (.there (.there (.there (.there (.there .here))))))))))) | exact .there (.there (.there (.there (.there (.there (.there (.there (.there (.there (.there (.there (.there .here)))))))))))) | exact .there (.there (.there (.there (.there (.there (.there (.there (.there (.there (.there (.there (.there (.there .here))))))))))))) | exact .there (.there (.there (.there (.there (.there (.there (.there (.there (.there (.there (.there (.there (.there (.there .here))))))))))))))) (by repeat (first | exact Sub.nil | refine Sub.cons ?_ ?_ | exact In.here | refine In.there ?_)) Fc.sz3 (of_decide_eq_true rfl) (.inr (by assumption)) ?_
                    clear hH; intro w hH
                    refine Sq.nil ?_
                    refine then_n ?_
                    refine c_seq ?_
                    refine reg_plain w0 (Nobody) ?_
                    refine r_load_row hS hH (by repeat (first | exact Sub.nil | refine Sub.cons ?_ ?_ | exact In.here | refine In.there ?_)) rfl (by repeat (first | exact In.here | refine In.there ?_)) Fc.ag41 (by rfl) rfl ?_; clear hS; intro a hS
                    refine r_move hS hH.kp0 rfl rfl ?_; clear hS; intro a hS
                    refine r_store_row hS hH rfl rfl (by first | exact .here | exact .there .here | exact .there (.there .here) | exact .there (.there (.there .here)) | exact .there (.there (.there (.there .here))) | exact .there (.there (.there (.there (.there .here)))) | exact .there (.there (.there (.there (.there (.there .here))))) | exact .there (.there (.there (.there (.there (.there (.there .here)))))) | exact .there (.there (.there (.there (.there (.there (.there (.there .here))))))) | exact .there (.there (.there (.there (.there (.there (.there (.there (.there .here)))))))) | exact .there (.there (.there (.there (.there (.there (.there (.there (.there (.there .here))))))))) | exact .there (.there (.there (.there (.there (.there (.there (.there (.there (.there (.there .here)))))))))) | exact .there (.there (.there (.there (.there (.there (.there (.there (.there (.there (.there (.there .here))))))))))) | exact .there (.there (.there (.there (.there (.there (.there (.there (.there (.there (.there (.there (.there .here)))))))))))) | exact .there (.there (.there (.there (.there (.there (.there (.there (.there (.there (.there (.there (.there (.there .here))))))))))))) | exact .there (.there (.there (.there (.there (.there (.there (.there (.there (.there (.there (.there (.there (.there (.there .here))))))))))))))) (by repeat (first | exact Sub.nil | refine Sub.cons ?_ ?_ | exact In.here | refine In.there ?_)) Fc.sz41 (hd_one (t := z16) rfl rfl rfl rfl) (by rfl) (.inr (by assumption)) ?_; clear hH; intro w hH
                    refine r_assign hS hH.kp0 rfl rfl ?_; clear hS; intro a hS
                    refine r_assign hS hH.kp0 rfl rfl ?_; clear hS; intro a hS
                    refine Sq.nil ?_
                    refine then_n ?_
                    refine wp_ret ?_
                    refine then_r ?_
                    refine leave (.inl rfl) hS rfl (Res.cell rfl (hH.get (by repeat (first | exact In.here | refine In.there ?_))) Fc.ag41 (by rfl) rfl (Res.tmp rfl (Res.tmp rfl Res.nil))) ⟨_, _, _, rfl, ?_, hH.mod⟩
                    have hq0 : readQ l ids = .inr (⟨6, (v : Int), dst, src, [], 0, false, [], z16⟩, p2) := by rw [hqL]; unfold lateQ; rw [if_neg hv0, if_neg hv1]
                    rw [hq0]; exact ⟨⟨_, _, _, _, rfl, .inr ⟨rd, capd, l2d, rfl, by omega, hH.get (b := rd) (by repeat (first | exact In.here | refine In.there ?_)), hBd.le, hBd.len, hBd.take⟩, .inr ⟨rs, caps, l2s, rfl, by omega, hH.get (b := rs) (by repeat (first | exact In.here | refine In.there ?_)), hBs.le, hBs.len, hBs.take⟩, OwnB.nil _ _ _, Own.nil _ _ _ _, rfl⟩, rfl, rfl⟩
                  · have hv1 : v = 1 := by simp only [bne_eq_false_iff_eq] at hc11; omega
                    subst hv1
                    refine wp_skip ?_
                    refine then_n ?_
                    refine c_seq ?_
                    refine c_seq ?_
                    refine reg_plain w0 (Nobody) ?_
                    refine r_move hS hH.kp0 rfl rfl ?_; clear hS; intro a hS
                    refine r_indexAddrS (j := 0) hS hH.kp0 rfl rfl Fc.slb22 rfl (by omega) rfl ?_; clear hS; intro a hS
                    refine r_load_cell (v := byteV x0) hS hH.kp0 rfl (by rw [Nat.zero_mul]; exact hb.f.byte hH.mod hx0) Fc.sc5 rfl ?_; clear hS; intro a hS
                    refine r_quoB x0.toNat 64 hS hH.kp0 rfl rfl rfl rfl (by decide) hxl ?_; clear hS; intro a hS
                    refine r_remB (x0.toNat / 64) 2 hS hH.kp0 rfl rfl rfl rfl (by decide) ?_; clear hS; intro a hS
                    refine r_eql hS hH.kp0 rfl rfl rfl ?_; clear hS; intro a hS
                    refine Sq.nil ?_
                    refine then_n ?_
                    refine c_cond hS rfl (fun hc12 => ?_) (fun hc12 => ?_)
                    · have h6 : x0.toNat / 64 % 2 = 0 := by have := beq_iff_eq.1 hc12; omega
                      refine c_seq ?_
                      refine reg_plain w0 (Nobody) ?_
                      refine r_buildS (parts := []) hS hH.kp0 rfl rfl Fc.zc41 Fc.pl41 (by rfl) ?_; clear hS; intro a hS
                      refine r_store_row hS hH rfl rfl (by first | exact .here | exact .there .here | exact .there (.there .here) | exact .there (.there (.there .here)) | exact .there (.there (.there (.there .here))) | exact .there (.there (.there (.there (.there .here)))) | exact .there (.there (.there (.there (.there (.there .here))))) | exact .there (.there (.there (.there (.there (.there (.there .here)))))) | exact .there (.there (.there (.there (.there (.there (.there (.there .here))))))) | exact .there (.there (.there (.there (.there (.there (.there (.there (.there .here)))))))) | exact .there (.there (.there (.there (.there (.there (.there (.there (.there (.there .here))))))))) | exact .there (.there (.there (.there (.there (.there (.there (.there (.there (.there (.there .here)))))))))) | exact .there (.there (.there (.there (.there (.there (.there (.there (.there (.there (.there (.there .here))))))))))) | exact .there (.there (.there (.there (.there (.there (.there (.there (.there (.there (.there (.there (.there .here)))))))))))) | exact .there (.there (.there (.there (.there (.there (.there (.there (.there (.there (.there (.there (.there (.there .here))))))))))))) | exact .there (.there (.there (.there (.there (.there (.there (.there (.there (.there (.there (.there (.there (.there (.there .here))))))))))))))) (by repeat (first | exact Sub.nil | refine Sub.cons ?_ ?_ | exact In.here | refine In.there ?_)) Fc.sz41 (by first | exact hcells_one _ | exact of_decide_eq_true rfl) (by rfl) (.inr (by assumption)) ?_
                      clear hH; intro w hH
                      refine r_assign hS hH.kp0 rfl rfl ?_; clear hS; intro a hS
                      refine r_assign hS hH.kp0 rfl rfl ?_; clear hS; intro a hS
                      refine Sq.nil ?_
                      refine then_n ?_
                      refine wp_ret ?_
                      refine then_r ?_
                      refine leave (.inl rfl) hS rfl (Res.cell rfl (hH.get (by repeat (first | exact In.here | refine In.there ?_))) Fc.ag41 (by rfl) rfl (Res.tmp rfl (Res.tmp rfl Res.nil))) ⟨zHd, 0, _, rfl, ?_, hH.mod⟩
                      have hq0 : readQ l ids = .inl 11 := by rw [hqL]; unfold lateQ; rw [if_neg (by decide), if_pos rfl, if_pos h6]
                      rw [hq0]; exact ⟨rfl, rfl, rfl, by decide⟩
                    · have h6 : ¬ x0.toNat / 64 % 2 = 0 := by have := ne_of_beq_false hc12; omega
                      refine wp_skip ?_
                      refine then_n ?_
                      refine c_seq ?_
                      refine reg_plain w0 (Nobody) ?_
                      refine r_move hS hH.kp0 rfl rfl ?_; clear hS; intro a hS
                      refine r_indexAddrS (j := 0) hS hH.kp0 rfl rfl Fc.slb22 rfl (by omega) rfl ?_; clear hS; intro a hS
                      refine r_load_cell (v := byteV x0) hS hH.kp0 rfl (by rw [Nat.zero_mul]; exact hb.f.byte hH.mod hx0) Fc.sc5 rfl ?_; clear hS; intro a hS
                      refine r_quoB x0.toNat 16 hS hH.kp0 rfl rfl rfl rfl (by decide) hxl ?_; clear hS; intro a hS
                      refine r_toI64 (x0.toNat / 16) hS hH.kp0 rfl Fc.ui3 Fc.us5 rfl rfl (by omega) ?_; clear hS; intro a hS
                      refine r_remI (x0.toNat / 16) 4 hS hH.kp0 rfl rfl rfl rfl rfl (by decide) ?_; clear hS; intro a hS
                      refine r_fieldAddr hS hH.kp0 rfl Fc.fo41_0 rfl ?_; clear hS; intro a hS
                      refine r_store1 hS hH rfl rfl rfl (by first | exact .here | exact .there .here | exact .there (.there .here) | exact .there (.there (.there .here)) | exact .there (.there (.there (.there .here))) | exact .there (.there (.there (.there (.there .here)))) | exact .there (.there (.there (.there (.there (.there .here))))) | exact .there (.there (.there (.there (.there (.there (.there .here)))))) | exact .there (.there (.there (.there (.there (.there (.there (.there .here))))))) | exact .there (.there (.there (.there (.there (.there (.there (.there (.there .here)))))))) | exact .there (.there (.there (.there (.there (.there (.there (.there (.there (.there .here))))))))) | exact .there (.there (.there (.there (.there (.there (.there (.there (.there (.there (.there .here)))))))))) | exact .there (.there (.there (.there (.there (.there (.there (.there (.there (.there (.there (.there .here))))))))))) | exact .there (.there (.there (.there (.there (.there (.there (.there (.there (.there (.there (.there (.there .here)))))))))))) | exact .there (.there (.there (.there (.there (.there (.there (.there (.there (.there (.there (.there (.there (.there .here))))))))))))) | exact .there (.there (.there (.there (.there (.there (.there (.there (.there (.there (.there (.there (.there (.there (.there .here))))))))))))))) (by repeat (first | exact Sub.nil | refine Sub.cons ?_ ?_ | exact In.here | refine In.there ?_)) Fc.sz3 (of_decide_eq_true rfl) (.inr (by assumption)) ?_
                      clear hH; intro w hH
                      refine Sq.nil ?_
                      refine then_n ?_
                      refine c_seq ?_
                      refine reg_plain w0 (Nobody) ?_
                      refine r_load_row hS hH (by repeat (first | exact Sub.nil | refine Sub.cons ?_ ?_ | exact In.here | refine In.there ?_)) rfl (by repeat (first | exact In.here | refine In.there ?_)) Fc.ag41 (by rfl) rfl ?_; clear hS; intro a hS
                      refine r_move hS hH.kp0 rfl rfl ?_; clear hS; intro a hS
                      refine r_move hS hH.kp0 rfl rfl ?_; clear hS; intro a hS
                      refine r_call (l := [.tmp 143, .tmp 144, .tmp 145]) hS rfl rfl Fc.fn41 rfl ?_
                      refine Calls.mono (rest_c (x0.toNat / 16 % 4) p2 qc _ l (.slice (some ⟨rd, 0, none⟩) dst.length capd) (.slice (some ⟨rs, 0, none⟩) src.length caps) dst src rfl rfl hple18 hl h1 _ (hb.ext hH.mod)) ?_
                      rintro e w1 ⟨cs, x, y, rfl, hrr, hE⟩
                      have hl_bx := Hp.ltm (b := bx) hH (by simp)
                      have hl_bo := Hp.ltm (b := bo) hH (by simp)
                      have hl_rd := Hp.ltm (b := rd) hH (by simp)
                      have hl_rs := Hp.ltm (b := rs) hH (by simp)
                      replace hH := hH.ext hE
                      refine ⟨_, rfl, hH.kp0, ?_⟩
                      clear hS; intro a hS
                      rcases hqr : restQ l dst src (x0.toNat / 16 % 4) p2 with be | ⟨hd, pe⟩
                      all_goals rw [hqr] at hrr
                      rotate_left
                      obtain ⟨tv, hcs, htv, htl, hli, hdd, hss, hx9, hy9⟩ := hrr
                      subst hx9 hy9
                      rcases htv with ⟨rfl, hte⟩ | ⟨rt, capt, l2t, rfl, hrt, hrkt, hcapt, hl2t, htkt⟩
                      · obtain ⟨g0, g1, g2, g3, g4, g5, g6, g7, g8, g9, ga, gb, gc, gd, ge, gf, hgt⟩ := len16 htl
                        rw [hgt] at hcs
                        subst hcs
                        refine r_extract hS hH.kp0 rfl rfl rfl ?_; clear hS; intro a hS
                        refine r_extract hS hH.kp0 rfl rfl rfl ?_; clear hS; intro a hS
                        refine r_extract hS hH.kp0 rfl rfl rfl ?_; clear hS; intro a hS
                        refine r_store_row hS hH rfl rfl (by first | exact .here | exact .there .here | exact .there (.there .here) | exact .there (.there (.there .here)) | exact .there (.there (.there (.there .here))) | exact .there (.there (.there (.there (.there .here)))) | exact .there (.there (.there (.there (.there (.there .here))))) | exact .there (.there (.there (.there (.there (.there (.there .here)))))) | exact .there (.there (.there (.there (.there (.there (.there (.there .here))))))) | exact .there (.there (.there (.there (.there (.there (.there (.there (.there .here)))))))) | exact .there (.there (.there (.there (.there (.there (.there (.there (.there (.there .here))))))))) | exact .there (.there (.there (.there (.there (.there (.there (.there (.there (.there (.there .here)))))))))) | exact .there (.there (.there (.there (.there (.there (.there (.there (.there (.there (.there (.there .here))))))))))) | exact .there (.there (.there (.there (.there (.there (.there (.there (.there (.there (.there (.there (.there .here)))))))))))) | exact .there (.there (.there (.there (.there (.there (.there (.there (.there (.there (.there (.there (.there (.there .here))))))))))))) | exact .there (.there (.there (.there (.there (.there (.there (.there (.there (.there (.there (.there (.there (.there (.there .here))))))))))))))) (by repeat (first | exact Sub.nil | refine Sub.cons ?_ ?_ | exact In.here | refine In.there ?_)) Fc.sz41 (by first | exact hd_one (t := [g0, g1, g2, g3, g4, g5, g6, g7, g8, g9, ga, gb, gc, gd, ge, gf]) rfl rfl rfl rfl | exact of_decide_eq_true rfl) (by rfl) (.inr (by assumption)) ?_; clear hH; intro w hH
                        refine r_assign hS hH.kp0 rfl rfl ?_; clear hS; intro a hS
                        refine r_assign hS hH.kp0 rfl rfl ?_; clear hS; intro a hS
                        refine Sq.nil ?_
                        refine then_n ?_
                        refine wp_ret ?_
                        refine leave (.inl rfl) hS rfl (Res.cell rfl (hH.get (by repeat (first | exact In.here | refine In.there ?_))) Fc.ag41 (by rfl) rfl (Res.tmp rfl (Res.tmp rfl Res.nil))) ⟨_, _, _, rfl, ?_, hH.mod⟩
                        have hq0 : readQ l ids = .inr (hd, pe) := by (rw [hqL]; unfold lateQ; rw [if_neg (by decide), if_pos rfl, if_neg h6]; first | done | exact hqr)
                        rw [hq0]; subst hdd hss; exact ⟨⟨_, _, _, _, by rw [hgt], .inr ⟨rd, capd, l2d, rfl, by omega, hH.get (b := rd) (by repeat (first | exact In.here | refine In.there ?_)), hBd.le, hBd.len, hBd.take⟩, .inr ⟨rs, caps, l2s, rfl, by omega, hH.get (b := rs) (by repeat (first | exact In.here | refine In.there ?_)), hBs.le, hBs.len, hBs.take⟩, .inl ⟨rfl, hte⟩, by rw [hli]; exact Own.nil _ _ _ _, htl⟩, rfl, rfl⟩
                      · obtain ⟨g0, g1, g2, g3, g4, g5, g6, g7, g8, g9, ga, gb, gc, gd, ge, gf, hgt⟩ := len16 htl
                        rw [hgt] at hcs
                        subst hcs
                        replace hH := hH.know hrkt (fun z hz e => by simp only [List.mem_cons, List.not_mem_nil, or_false] at hz; rcases hz with rfl | rfl | rfl | rfl <;> (simp only at e; omega))
                        refine r_extract hS hH.kp0 rfl rfl rfl ?_; clear hS; intro a hS
                        refine r_extract hS hH.kp0 rfl rfl rfl ?_; clear hS; intro a hS
                        refine r_extract hS hH.kp0 rfl rfl rfl ?_; clear hS; intro a hS
                        refine r_store_row hS hH rfl rfl (by first | exact .here | exact .there .here | exact .there (.there .here) | exact .there (.there (.there .here)) | exact .there (.there (.there (.there .here))) | exact .there (.there (.there (.there (.there .here)))) | exact .there (.there (.there (.there (.there (.there .here))))) | exact .there (.there (.there (.there (.there (.there (.there .here)))))) | exact .there (.there (.there (.there (.there (.there (.there (.there .here))))))) | exact .there (.there (.there (.there (.there (.there (.there (.there (.there .here)))))))) | exact .there (.there (.there (.there (.there (.there (.there (.there (.there (.there .here))))))))) | exact .there (.there (.there (.there (.there (.there (.there (.there (.there (.there (.there .here)))))))))) | exact .there (.there (.there (.there (.there (.there (.there (.there (.there (.there (.there (.there .here))))))))))) | exact .there (.there (.there (.there (.there (.there (.there (.there (.there (.there (.there (.there (.there .here)))))))))))) | exact .there (.there (.there (.there (.there (.there (.there (.there (.there (.there (.there (.there (.there (.there .here))))))))))))) | exact .there (.there (.there (.there (.there (.there (.there (.there (.there (.there (.there (.there (.there (.there (.there .here))))))))))))))) (by repeat (first | exact Sub.nil | refine Sub.cons ?_ ?_ | exact In.here | refine In.there ?_)) Fc.sz41 (by first | exact hd_one (t := [g0, g1, g2, g3, g4, g5, g6, g7, g8, g9, ga, gb, gc, gd, ge, gf]) rfl rfl rfl rfl | exact of_decide_eq_true rfl) (by rfl) (.inr (by assumption)) ?_; clear hH; intro w hH
                        refine r_assign hS hH.kp0 rfl rfl ?_; clear hS; intro a hS
                        refine r_assign hS hH.kp0 rfl rfl ?_; clear hS; intro a hS
                        refine Sq.nil ?_
                        refine then_n ?_
                        refine wp_ret ?_
                        refine leave (.inl rfl) hS rfl (Res.cell rfl (hH.get (by repeat (first | exact In.here | refine In.there ?_))) Fc.ag41 (by rfl) rfl (Res.tmp rfl (Res.tmp rfl Res.nil))) ⟨_, _, _, rfl, ?_, hH.mod⟩
                        have hq0 : readQ l ids = .inr (hd, pe) := by (rw [hqL]; unfold lateQ; rw [if_neg (by decide), if_pos rfl, if_neg h6]; first | done | exact hqr)
                        rw [hq0]; subst hdd hss; exact ⟨⟨_, _, _, _, by rw [hgt], .inr ⟨rd, capd, l2d, rfl, by omega, hH.get (b := rd) (by repeat (first | exact In.here | refine In.there ?_)), hBd.le, hBd.len, hBd.take⟩, .inr ⟨rs, caps, l2s, rfl, by omega, hH.get (b := rs) (by repeat (first | exact In.here | refine In.there ?_)), hBs.le, hBs.len, hBs.take⟩, .inr ⟨rt, capt, l2t, rfl, by omega, hH.get (b := rt) (by repeat (first | exact In.here | refine In.there ?_)), (BB.mk hl2t hcapt htkt).le, (BB.mk hl2t hcapt htkt).len, (BB.mk hl2t hcapt htkt).take⟩, by rw [hli]; exact Own.nil _ _ _ _, htl⟩, rfl, rfl⟩
                      · obtain ⟨hcs, hx9, hy9, hbn⟩ := hrr
                        subst hcs hx9 hy9
                        refine r_extract hS hH.kp0 rfl rfl rfl ?_; clear hS; intro a hS
                        refine r_extract hS hH.kp0 rfl rfl rfl ?_; clear hS; intro a hS
                        refine r_extract hS hH.kp0 rfl rfl rfl ?_; clear hS; intro a hS
                        refine r_store_row hS hH rfl rfl (by first | exact .here | exact .there .here | exact .there (.there .here) | exact .there (.there (.there .here)) | exact .there (.there (.there (.there .here))) | exact .there (.there (.there (.there (.there .here)))) | exact .there (.there (.there (.there (.there (.there .here))))) | exact .there (.there (.there (.there (.there (.there (.there .here)))))) | exact .there (.there (.there (.there (.there (.there (.there (.there .here))))))) | exact .there (.there (.there (.there (.there (.there (.there (.there (.there .here)))))))) | exact .there (.there (.there (.there (.there (.there (.there (.there (.there (.there .here))))))))) | exact .there (.there (.there (.there (.there (.there (.there (.there (.there (.there (.there .here)))))))))) | exact .there (.there (.there (.there (.there (.there (.there (.there (.there (.there (.there (.there .here))))))))))) | exact .there (.there (.there (.there (.there (.there (.there (.there (.there (.there (.there (.there (.there .here)))))))))))) | exact .there (.there (.there (.there (.there (.there (.there (.there (.there (.there (.there (.there (.there (.there .here))))))))))))) | exact .there (.there (.there (.there (.there (.there (.there (.there (.there (.there (.there (.there (.there (.there (.there .here))))))))))))))) (by repeat (first | exact Sub.nil | refine Sub.cons ?_ ?_ | exact In.here | refine In.there ?_)) Fc.sz41 (by first | exact hd_one (t := [g0, g1, g2, g3, g4, g5, g6, g7, g8, g9, ga, gb, gc, gd, ge, gf]) rfl rfl rfl rfl | exact of_decide_eq_true rfl) (by rfl) (.inr (by assumption)) ?_; clear hH; intro w hH
                        refine r_assign hS hH.kp0 rfl rfl ?_; clear hS; intro a hS
                        refine r_assign hS hH.kp0 rfl rfl ?_; clear hS; intro a hS
                        refine Sq.nil ?_
                        refine then_n ?_
                        refine wp_ret ?_
                        refine leave (.inl rfl) hS rfl (Res.cell rfl (hH.get (by repeat (first | exact In.here | refine In.there ?_))) Fc.ag41 (by rfl) rfl (Res.tmp rfl (Res.tmp rfl Res.nil))) ⟨_, _, _, rfl, ?_, hH.mod⟩
                        have hq0 : readQ l ids = .inl y := by (rw [hqL]; unfold lateQ; rw [if_neg (by decide), if_pos rfl, if_neg h6]; first | done | exact hqr)
                        rw [hq0]; exact ⟨rfl, rfl, rfl, hbn⟩
          · subst hz9
            have h5 : l.length < 5 := by omega
            refine r_move hS hH.kp0 rfl rfl ?_; clear hS; intro a hS
            refine r_extract hS hH.kp0 rfl rfl rfl ?_; clear hS; intro a hS
            refine r_extract hS hH.kp0 rfl rfl rfl ?_; clear hS; intro a hS
            refine r_extract hS hH.kp0 rfl rfl rfl ?_; clear hS; intro a hS
            refine r_assign hS hH.kp0 rfl rfl ?_; clear hS; intro a hS
            refine r_assign hS hH.kp0 rfl rfl ?_; clear hS; intro a hS
            refine r_assign hS hH.kp0 rfl rfl ?_; clear hS; intro a hS
            refine Sq.nil ?_
            refine then_n ?_
            refine c_seq ?_
            refine c_seq ?_
            refine reg_plain w0 (Nobody) ?_
            refine r_move hS hH.kp0 rfl rfl ?_; clear hS; intro a hS
            refine r_neq hS hH.kp0 rfl rfl rfl ?_; clear hS; intro a hS
            refine Sq.nil ?_
            refine then_n ?_
            refine c_condT hS rfl rfl ?_
            refine c_seq ?_
            refine reg_plain w0 (Nobody) ?_
            refine r_buildS (parts := []) hS hH.kp0 rfl rfl Fc.zc41 Fc.pl41 (by rfl) ?_; clear hS; intro a hS
            refine r_store_row hS hH rfl rfl (by first | exact .here | exact .there .here | exact .there (.there .here) | exact .there (.there (.there .here)) | exact .there (.there (.there (.there .here))) | exact .there (.there (.there (.there (.there .here)))) | exact .there (.there (.there (.there (.there (.there .here))))) | exact .there (.there (.there (.there (.there (.there (.there .here)))))) | exact .there (.there (.there (.there (.there (.there (.there (.there .here))))))) | exact .there (.there (.there (.there (.there (.there (.there (.there (.there .here)))))))) | exact .there (.there (.there (.there (.there (.there (.there (.there (.there (.there .here))))))))) | exact .there (.there (.there (.there (.there (.there (.there (.there (.there (.there (.there .here)))))))))) | exact .there (.there (.there (.there (.there (.there (.there (.there (.there (.there (.there (.there .here))))))))))) | exact .there (.there (.there (.there (.there (.there (.there (.there (.there (.there (.there (.there (.there .here)))))))))))) | exact .there (.there (.there (.there (.there (.there (.there (.there (.there (.there (.there (.there (.there (.there .here))))))))))))) | exact .there (.there (.there (.there (.there (.there (.there (.there (.there (.there (.there (.there (.there (.there (.there .here))))))))))))))) (by repeat (first | exact Sub.nil | refine Sub.cons ?_ ?_ | exact In.here | refine In.there ?_)) Fc.sz41 (by first | exact hcells_one _ | exact of_decide_eq_true rfl) (by rfl) (.inr (by assumption)) ?_
            clear hH; intro w hH
            refine r_assign hS hH.kp0 rfl rfl ?_; clear hS; intro a hS
            refine r_assign hS hH.kp0 rfl rfl ?_; clear hS; intro a hS
            refine Sq.nil ?_
            refine then_n ?_
            refine wp_ret ?_
            refine then_r ?_
            refine leave (.inl rfl) hS rfl (Res.cell rfl (hH.get (by repeat (first | exact In.here | refine In.there ?_))) Fc.ag41 (by rfl) rfl (Res.tmp rfl (Res.tmp rfl Res.nil))) ⟨zHd, 0, _, rfl, ?_, hH.mod⟩
            have hq0 : readQ l ids = .inl 10 := by rw [← refQ_eq]; rw [refQ_some hx0 h0 h20]; rw [if_neg h128, if_pos h5]
            rw [hq0]; exact ⟨rfl, rfl, rfl, by first | decide | exact hbn⟩

end Go.Proofs.YtcenionnedgadaaDoor
