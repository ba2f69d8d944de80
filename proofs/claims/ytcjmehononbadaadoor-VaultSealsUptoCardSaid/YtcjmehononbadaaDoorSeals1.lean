/- What is sealed is opened by its key, number and further bytes alone; who does not know the key does not come to know it (for inputs up to the size bound). Part Seals1: walks and lemmas of the proof. -/
import Derived.Test.YtcjmehononbadaaDoorOpen2
import Derived.Test.YtcjmehononbadaaDoorSeal1
import Derived.Test.YtcjmehononbadaaDoorSymSeals
import Derived.Test.YtcjmehononbadaaDoorSymStep
namespace Go.Proofs.YtcjmehononbadaaDoor
open Go.Sym

theorem Fc.bsl22_1 : bslB Tryd.prog 22 1 = some (5, 1, [.int .u8 0]) := by kernel_rfl
theorem Fc.bsl31_2 : bslB Tryd.prog 31 2 = some (22, 1, [.slice none 0 0, .slice none 0 0]) := by kernel_rfl
theorem Fc.fn10 : isFn Tryd.prog 10 = true := by kernel_rfl
theorem Fc.fn11 : isFn Tryd.prog 11 = true := by kernel_rfl
theorem Fc.fn6 : isFn Tryd.prog 6 = true := by kernel_rfl
theorem Fc.fn7 : isFn Tryd.prog 7 = true := by kernel_rfl
theorem Fc.fn8 : isFn Tryd.prog 8 = true := by kernel_rfl
theorem Fc.fn9 : isFn Tryd.prog 9 = true := by kernel_rfl
theorem Fc.inf5 : (Tryd.prog.info? 5).isSome = true := by kernel_rfl
theorem Fc.uls22 : Tryd.prog.underlying 22 = some (.slice 5) := by kernel_rfl
set_option maxRecDepth 100000 in
set_option maxHeartbeats 16000000 in
theorem seals_law (vp va : Value) (lp la : List UInt8) (hP : lp.length ≤ 1048576) (hA : la.length ≤ 1048576) (nn : Int) (w0 : World) (hb0 : BsF Nobody w0 vp lp) (hb1 : BsF Nobody w0 va la) : Calls Tryd.prog 3 #[vp, va, .int .i64 nn] w0 fun e w' => e = .returned (.bool true) ∧ Ext w0 w' := by
  refine enter Tryd.func3 rfl rfl rfl ?_
  intro a hS
  have hH := Hp.start w0 (Nobody)
  have hxp := hb0.bs
  obtain ⟨qp, qcp, hslp⟩ := hxp
  have hvp := hslp.val
  subst hvp
  have hxa := hb1.bs
  obtain ⟨qa, qca, hsla⟩ := hxa
  have hva := hsla.val
  subst hva
  refine c_seq ?_
  refine reg_plain w0 (Nobody) ?_
  refine r_assign hS hH.kp0 rfl rfl ?_; clear hS; intro a hS
  refine Sq.nil ?_
  refine then_n ?_
  refine c_seq ?_
  refine reg_plain w0 (Nobody) ?_
  refine r_call (l := []) hS rfl rfl Fc.fn6 rfl ?_
  refine Calls.mono (New_c _) ?_
  rintro e w1 ⟨b, V, rfl, hvi, hE, hVF⟩
  have hsz := hH.mod.size
  have hVS : VS Nobody w0 b V := fun x hx => .inr (Nat.le_trans hsz (hVF x hx))
  replace hH := (hH.ext hE).knowV hvi (by intro p hp; simp at hp)
  obtain ⟨ts, hts⟩ : ∃ ts, ts = [rootT] := ⟨_, rfl⟩
  rw [← hts] at hvi hH
  have hok := hvi.ok
  have n01 := hvi.n01
  have n23 := hvi.n23
  have htl : ts.length = 1 := by rw [hts]; rfl
  refine ⟨_, rfl, hH.kp0, ?_⟩
  clear hS; intro a hS
  refine r_assign hS hH.kp0 rfl rfl ?_; clear hS; intro a hS
  refine Sq.nil ?_
  refine then_n ?_
  refine c_seq ?_
  refine c_seq ?_
  refine reg_plain w0 (Nobody) ?_
  refine r_move hS hH.kp0 rfl rfl ?_; clear hS; intro a hS
  refine r_ptrNil hS hH.kp0 rfl Fc.isPtr23 rfl ?_; clear hS; intro a hS
  refine Sq.nil ?_
  refine then_n ?_
  refine c_condF hS rfl rfl ?_
  refine wp_skip ?_
  refine then_n ?_
  refine c_seq ?_
  refine reg_plain w0 (Nobody) ?_
  refine r_move hS hH.kp0 rfl rfl ?_; clear hS; intro a hS
  refine r_call (l := [.tmp 30]) hS rfl rfl Fc.fn7 rfl ?_
  refine Calls.mono (Fresh_v b V ts (by omega) _ (hH.vin hok n01 n23 (by repeat (first | exact In.here | refine In.there ?_)) (by repeat (first | exact In.here | refine In.there ?_)) (by repeat (first | exact In.here | refine In.there ?_)) (by repeat (first | exact In.here | refine In.there ?_)))) ?_
  rintro e w1 ⟨h, V1, rfl, hnk, hvi1, hst⟩
  obtain ⟨k0, k1, k2, k3, k4, k5, k6, k7, k8, k9, ka, kb, kc, kd, ke, kf, rfl⟩ := len16 (h := h) (by rw [hnk]; rfl)
  rw [htl] at hnk
  obtain ⟨ts1, hts1⟩ : ∃ z, z = ts ++ [freshT] := ⟨_, rfl⟩
  rw [← hts1] at hvi1
  have hVS1 := hVS.step hst hH.mod.size
  replace hH := hH.vault hVS hst hvi1 (by first | exact .here | exact .there .here | exact .there (.there .here) | exact .there (.there (.there .here)) | exact .there (.there (.there (.there .here))) | exact .there (.there (.there (.there (.there .here)))) | exact .there (.there (.there (.there (.there (.there .here))))) | exact .there (.there (.there (.there (.there (.there (.there .here)))))) | exact .there (.there (.there (.there (.there (.there (.there (.there .here))))))) | exact .there (.there (.there (.there (.there (.there (.there (.there (.there .here)))))))) | exact .there (.there (.there (.there (.there (.there (.there (.there (.there (.there .here))))))))) | exact .there (.there (.there (.there (.there (.there (.there (.there (.there (.there (.there .here)))))))))) | exact .there (.there (.there (.there (.there (.there (.there (.there (.there (.there (.there (.there .here))))))))))) | exact .there (.there (.there (.there (.there (.there (.there (.there (.there (.there (.there (.there (.there .here)))))))))))) | exact .there (.there (.there (.there (.there (.there (.there (.there (.there (.there (.there (.there (.there (.there .here))))))))))))) | exact .there (.there (.there (.there (.there (.there (.there (.there (.there (.there (.there (.there (.there (.there (.there .here)))))))))))))))
  have hok1 := hvi1.ok
  have n011 := hvi1.n01
  have n231 := hvi1.n23
  clear hst
  have htl1 : ts1.length = 2 := by rw [hts1]; simp [htl]
  refine ⟨_, rfl, hH.kp0, ?_⟩
  clear hS; intro a hS
  refine r_move hS hH.kp0 rfl rfl ?_; clear hS; intro a hS
  refine r_call (l := [.tmp 32]) hS rfl rfl Fc.fn7 rfl ?_
  refine Calls.mono (Fresh_v b V1 ts1 (by omega) _ (hH.vin hok1 n011 n231 (by repeat (first | exact In.here | refine In.there ?_)) (by repeat (first | exact In.here | refine In.there ?_)) (by repeat (first | exact In.here | refine In.there ?_)) (by repeat (first | exact In.here | refine In.there ?_)))) ?_
  rintro e w1 ⟨h, V2, rfl, hnm, hvi2, hst⟩
  obtain ⟨m0, m1, m2, m3, m4, m5, m6, m7, m8, m9, ma, mb, mc, md, me, mf, rfl⟩ := len16 (h := h) (by rw [hnm]; rfl)
  rw [htl1] at hnm
  obtain ⟨ts2, hts2⟩ : ∃ z, z = ts1 ++ [freshT] := ⟨_, rfl⟩
  rw [← hts2] at hvi2
  have hVS2 := hVS1.step hst hH.mod.size
  replace hH := hH.vault hVS1 hst hvi2 (by first | exact .here | exact .there .here | exact .there (.there .here) | exact .there (.there (.there .here)) | exact .there (.there (.there (.there .here))) | exact .there (.there (.there (.there (.there .here)))) | exact .there (.there (.there (.there (.there (.there .here))))) | exact .there (.there (.there (.there (.there (.there (.there .here)))))) | exact .there (.there (.there (.there (.there (.there (.there (.there .here))))))) | exact .there (.there (.there (.there (.there (.there (.there (.there (.there .here)))))))) | exact .there (.there (.there (.there (.there (.there (.there (.there (.there (.there .here))))))))) | exact .there (.there (.there (.there (.there (.there (.there (.there (.there (.there (.there .here)))))))))) | exact .there (.there (.there (.there (.there (.there (.there (.there (.there (.there (.there (.there .here))))))))))) | exact .there (.there (.there (.there (.there (.there (.there (.there (.there (.there (.there (.there (.there .here)))))))))))) | exact .there (.there (.there (.there (.there (.there (.there (.there (.there (.there (.there (.there (.there (.there .here))))))))))))) | exact .there (.there (.there (.there (.there (.there (.there (.there (.there (.there (.there (.there (.there (.there (.there .here)))))))))))))))
  have hok2 := hvi2.ok
  have n012 := hvi2.n01
  have n232 := hvi2.n23
  clear hst
  have htl2 : ts2.length = 3 := by rw [hts2]; simp [htl1]
  refine ⟨_, rfl, hH.kp0, ?_⟩
  clear hS; intro a hS
  refine r_alloc hS hH (by repeat (first | exact Sub.nil | refine Sub.cons ?_ ?_ | exact In.here | refine In.there ?_)) Fc.zc26 rfl ?_
  clear hS hH; intro a w b8 hb8 hwb8 hS hH
  refine r_alloc hS hH (by repeat (first | exact Sub.nil | refine Sub.cons ?_ ?_ | exact In.here | refine In.there ?_)) Fc.zc26 rfl ?_
  clear hS hH; intro a w b9 hb9 hwb9 hS hH
  refine r_store_row hS hH rfl rfl (by repeat (first | exact .here | apply In.there | apply Put.there | apply Del.there)) (by repeat (first | exact Sub.nil | refine Sub.cons ?_ ?_ | exact In.here | refine In.there ?_)) Fc.sz26 (by first | exact hcells_one _ | exact of_decide_eq_true rfl) (by rfl) (by first | exact .inr (by assumption) | exact .inl (by first | assumption | rfl)) ?_
  clear hH; intro w hH
  refine r_store_row hS hH rfl rfl (by repeat (first | exact .here | apply In.there | apply Put.there | apply Del.there)) (by repeat (first | exact Sub.nil | refine Sub.cons ?_ ?_ | exact In.here | refine In.there ?_)) Fc.sz26 (by first | exact hcells_one _ | exact of_decide_eq_true rfl) (by rfl) (by first | exact .inr (by assumption) | exact .inl (by first | assumption | rfl)) ?_
  clear hH; intro w hH
  refine Sq.nil ?_
  refine then_n ?_
  refine c_seq ?_
  refine reg_plain w0 (Nobody) ?_
  refine r_move hS hH.kp0 rfl rfl ?_; clear hS; intro a hS
  refine r_and24 hS hH.kp0 rfl rfl ?_; clear hS; intro a ne hne hS
  refine r_assign hS hH.kp0 rfl rfl ?_; clear hS; intro a hS
  refine Sq.nil ?_
  refine then_n ?_
  refine c_seq ?_
  refine reg_plain w0 (Nobody) ?_
  refine r_move hS hH.kp0 rfl rfl ?_; clear hS; intro a hS
  refine r_load_row hS hH (by repeat (first | exact Sub.nil | refine Sub.cons ?_ ?_ | exact In.here | refine In.there ?_)) rfl (by repeat (first | exact In.here | refine In.there ?_)) Fc.ag26 (by rfl) rfl ?_; clear hS; intro a hS
  refine r_move hS hH.kp0 rfl rfl ?_; clear hS; intro a hS
  refine r_move hS hH.kp0 rfl rfl ?_; clear hS; intro a hS
  refine r_move hS hH.kp0 rfl rfl ?_; clear hS; intro a hS
  rcases (by omega : 65536 < lp.length ∨ lp.length ≤ 65536) with hbig | hbig
  · refine r_call (l := [.tmp 37, .tmp 38, .tmp 39, .tmp 40, .tmp 41]) hS rfl rfl Fc.fn8 rfl ?_
    refine Calls.mono (Seal_big b V2 ts2 [k0, k1, k2, k3, k4, k5, k6, k7, k8, k9, ka, kb, kc, kd, ke, kf] rfl 1 (by omega) hnk (ne : Int) (by omega) (.slice qa la.length qca) (.slice qp lp.length qcp) la lp (by omega) hbig (by omega) _ (hH.vin hok2 n012 n232 (by repeat (first | exact In.here | refine In.there ?_)) (by repeat (first | exact In.here | refine In.there ?_)) (by repeat (first | exact In.here | refine In.there ?_)) (by repeat (first | exact In.here | refine In.there ?_))) (hb1.go hH.mod hVS2) (hb0.go hH.mod hVS2)) ?_
    rintro e w1 ⟨rfl, hE⟩
    replace hH := hH.ext hE
    refine ⟨_, rfl, hH.kp0, ?_⟩
    clear hS; intro a hS
    refine r_move hS hH.kp0 rfl rfl ?_; clear hS; intro a hS
    refine r_extract hS hH.kp0 rfl rfl rfl ?_; clear hS; intro a hS
    refine r_extract hS hH.kp0 rfl rfl rfl ?_; clear hS; intro a hS
    refine r_assign hS hH.kp0 rfl rfl ?_; clear hS; intro a hS
    refine r_assign hS hH.kp0 rfl rfl ?_; clear hS; intro a hS
    refine Sq.nil ?_
    refine then_n ?_
    refine c_seq ?_
    refine c_seq ?_
    refine reg_plain w0 (Nobody) ?_
    refine r_move hS hH.kp0 rfl rfl ?_; clear hS; intro a hS
    refine r_lenSl hS hH.kp0 rfl Fc.isSlice22 rfl ?_; clear hS; intro a hS
    refine r_gtr hS hH.kp0 rfl rfl rfl ?_; clear hS; intro a hS
    refine Sq.nil ?_
    refine then_n ?_
    refine c_condT hS rfl (DT (by omega)) ?_
    refine c_seq ?_
    refine reg_plain w0 (Nobody) ?_
    refine r_move hS hH.kp0 rfl rfl ?_; clear hS; intro a hS
    refine r_eql hS hH.kp0 rfl rfl rfl ?_; clear hS; intro a hS
    refine r_move hS hH.kp0 rfl rfl ?_; clear hS; intro a hS
    first
      | (refine Sq.guardYes hS rfl rfl (by first | rfl | exact DT (by omega) | exact DF (by omega) | exact beq_iff_eq.2 (by omega) | exact beq_false_of_ne (by omega) | exact bne_iff_ne.2 (by omega) | exact bne_eq_false_iff_eq.2 (by omega) | assumption | exact beq_self_eq_true _ | exact congrArg not (beq_self_eq_true _)) ?_; refine r_move hS hH.kp0 rfl rfl ?_; clear hS; intro a hS)
      | (refine Sq.guardNo hS rfl rfl (by first | rfl | exact DT (by omega) | exact DF (by omega) | exact beq_iff_eq.2 (by omega) | exact beq_false_of_ne (by omega) | exact bne_iff_ne.2 (by omega) | exact bne_eq_false_iff_eq.2 (by omega) | assumption | exact beq_self_eq_true _ | exact congrArg not (beq_self_eq_true _)) hH.kp0 rfl ?_; clear hS; intro a hS)
      | (refine Sq.guardOff hS rfl rfl hH.kp0 rfl ?_; clear hS; intro a hS)
    first
      | (refine Sq.guardYes hS rfl rfl (by first | rfl | exact DT (by omega) | exact DF (by omega) | exact beq_iff_eq.2 (by omega) | exact beq_false_of_ne (by omega) | exact bne_iff_ne.2 (by omega) | exact bne_eq_false_iff_eq.2 (by omega) | assumption | exact beq_self_eq_true _ | exact congrArg not (beq_self_eq_true _)) ?_; refine r_lenSl hS hH.kp0 rfl Fc.isSlice22 rfl ?_; clear hS; intro a hS)
      | (refine Sq.guardNo hS rfl rfl (by first | rfl | exact DT (by omega) | exact DF (by omega) | exact beq_iff_eq.2 (by omega) | exact beq_false_of_ne (by omega) | exact bne_iff_ne.2 (by omega) | exact bne_eq_false_iff_eq.2 (by omega) | assumption | exact beq_self_eq_true _ | exact congrArg not (beq_self_eq_true _)) hH.kp0 rfl ?_; clear hS; intro a hS)
      | (refine Sq.guardOff hS rfl rfl hH.kp0 rfl ?_; clear hS; intro a hS)
    first
      | (refine Sq.guardYes hS rfl rfl (by first | rfl | exact DT (by omega) | exact DF (by omega) | exact beq_iff_eq.2 (by omega) | exact beq_false_of_ne (by omega) | exact bne_iff_ne.2 (by omega) | exact bne_eq_false_iff_eq.2 (by omega) | assumption | exact beq_self_eq_true _ | exact congrArg not (beq_self_eq_true _)) ?_; refine r_eql hS hH.kp0 rfl rfl rfl ?_; clear hS; intro a hS)
      | (refine Sq.guardNo hS rfl rfl (by first | rfl | exact DT (by omega) | exact DF (by omega) | exact beq_iff_eq.2 (by omega) | exact beq_false_of_ne (by omega) | exact bne_iff_ne.2 (by omega) | exact bne_eq_false_iff_eq.2 (by omega) | assumption | exact beq_self_eq_true _ | exact congrArg not (beq_self_eq_true _)) hH.kp0 rfl ?_; clear hS; intro a hS)
      | (refine Sq.guardOff hS rfl rfl hH.kp0 rfl ?_; clear hS; intro a hS)
    first
      | (refine r_pickT hS hH.kp0 rfl (by first | rfl | exact DT (by omega) | exact DF (by omega) | exact beq_iff_eq.2 (by omega) | exact beq_false_of_ne (by omega) | exact bne_iff_ne.2 (by omega) | exact bne_eq_false_iff_eq.2 (by omega) | assumption | exact beq_self_eq_true _ | exact congrArg not (beq_self_eq_true _)) rfl rfl ?_; clear hS; intro a hS)
      | (refine r_pickF hS hH.kp0 rfl (by first | rfl | exact DT (by omega) | exact DF (by omega) | exact beq_iff_eq.2 (by omega) | exact beq_false_of_ne (by omega) | exact bne_iff_ne.2 (by omega) | exact bne_eq_false_iff_eq.2 (by omega) | assumption | exact beq_self_eq_true _ | exact congrArg not (beq_self_eq_true _)) rfl rfl ?_; clear hS; intro a hS)
    refine r_assign hS hH.kp0 rfl rfl ?_; clear hS; intro a hS
    refine Sq.nil ?_
    refine then_n ?_
    refine wp_ret ?_
    refine then_r ?_
    exact leave (.inl rfl) hS rfl (Res.tmp rfl Res.nil) ⟨rfl, hH.mod⟩
  · refine r_call (l := [.tmp 37, .tmp 38, .tmp 39, .tmp 40, .tmp 41]) hS rfl rfl Fc.fn8 rfl ?_
    refine Calls.mono (Seal_v b V2 ts2 [k0, k1, k2, k3, k4, k5, k6, k7, k8, k9, ka, kb, kc, kd, ke, kf] rfl 1 (by omega) hnk (ne : Int) (by omega) (.slice qa la.length qca) (.slice qp lp.length qcp) la lp (by omega) hbig (by omega) _ (hH.vin hok2 n012 n232 (by repeat (first | exact In.here | refine In.there ?_)) (by repeat (first | exact In.here | refine In.there ?_)) (by repeat (first | exact In.here | refine In.there ?_)) (by repeat (first | exact In.here | refine In.there ?_))) (hb1.go hH.mod hVS2) (hb0.go hH.mod hVS2)) ?_
    rintro e w1 ⟨cb, ccap, ki, ccl, V3, ts3, rfl, hcb, hcbk, hBc, hvi3, hst, hmd⟩
    obtain ⟨rfl, hts3⟩ := hmd.new (by rw [hts2, hts1, hts]; simp [selT, rootT, freshT])
    have hVS3 := hVS2.step hst hH.mod.size
    replace hH := hH.vault hVS2 hst hvi3 (by first | exact .here | exact .there .here | exact .there (.there .here) | exact .there (.there (.there .here)) | exact .there (.there (.there (.there .here))) | exact .there (.there (.there (.there (.there .here)))) | exact .there (.there (.there (.there (.there (.there .here))))) | exact .there (.there (.there (.there (.there (.there (.there .here)))))) | exact .there (.there (.there (.there (.there (.there (.there (.there .here))))))) | exact .there (.there (.there (.there (.there (.there (.there (.there (.there .here)))))))) | exact .there (.there (.there (.there (.there (.there (.there (.there (.there (.there .here))))))))) | exact .there (.there (.there (.there (.there (.there (.there (.there (.there (.there (.there .here)))))))))) | exact .there (.there (.there (.there (.there (.there (.there (.there (.there (.there (.there (.there .here))))))))))) | exact .there (.there (.there (.there (.there (.there (.there (.there (.there (.there (.there (.there (.there .here)))))))))))) | exact .there (.there (.there (.there (.there (.there (.there (.there (.there (.there (.there (.there (.there (.there .here))))))))))))) | exact .there (.there (.there (.there (.there (.there (.there (.there (.there (.there (.there (.there (.there (.there (.there .here)))))))))))))))
    have hok3 := hvi3.ok
    have n013 := hvi3.n01
    have n233 := hvi3.n23
    clear hst
    replace hH := hH.know hcbk (by intro p hp e; have h8 := hH.blk p hp; rw [e, hcbk] at h8; simp only [List.mem_cons, List.not_mem_nil, or_false] at hp; rcases hp with rfl | rfl | rfl | rfl | rfl | rfl <;> simp at h8)
    have hts3S : ts3 = tsS ne la lp := by rw [hts3, hts2, hts1, hts]; rfl
    have htl3 : ts3.length = 4 := by rw [hts3S]; rfl
    have hwf3 : Wf6 ts3 := by rw [hts3S]; exact wf_S ne la lp (by omega)
    have hcx : List.replicate lp.length 0 ++ nm ts2.length = bS lp := by rw [htl2]; rfl
    rw [hcx] at hBc
    have hbl := bS_len lp
    rw [← hbl]
    refine ⟨_, rfl, hH.kp0, ?_⟩
    clear hS; intro a hS
    refine r_move hS hH.kp0 rfl rfl ?_; clear hS; intro a hS
    refine r_extract hS hH.kp0 rfl rfl rfl ?_; clear hS; intro a hS
    refine r_extract hS hH.kp0 rfl rfl rfl ?_; clear hS; intro a hS
    refine r_assign hS hH.kp0 rfl rfl ?_; clear hS; intro a hS
    refine r_assign hS hH.kp0 rfl rfl ?_; clear hS; intro a hS
    refine Sq.nil ?_
    refine then_n ?_
    refine c_seq ?_
    refine c_seq ?_
    refine reg_plain w0 (Nobody) ?_
    refine r_move hS hH.kp0 rfl rfl ?_; clear hS; intro a hS
    refine r_lenSl hS hH.kp0 rfl Fc.isSlice22 rfl ?_; clear hS; intro a hS
    refine r_gtr hS hH.kp0 rfl rfl rfl ?_; clear hS; intro a hS
    refine Sq.nil ?_
    refine then_n ?_
    refine c_condF hS rfl (DF (by omega)) ?_
    refine wp_skip ?_
    refine then_n ?_
    refine c_seq ?_
    refine reg_plain w0 (Nobody) ?_
    refine r_move hS hH.kp0 rfl rfl ?_; clear hS; intro a hS
    refine r_load_row hS hH (by repeat (first | exact Sub.nil | refine Sub.cons ?_ ?_ | exact In.here | refine In.there ?_)) rfl (by repeat (first | exact In.here | refine In.there ?_)) Fc.ag26 (by rfl) rfl ?_; clear hS; intro a hS
    refine r_move hS hH.kp0 rfl rfl ?_; clear hS; intro a hS
    refine r_move hS hH.kp0 rfl rfl ?_; clear hS; intro a hS
    refine r_move hS hH.kp0 rfl rfl ?_; clear hS; intro a hS
    refine r_call (l := [.tmp 56, .tmp 57, .tmp 58, .tmp 59, .tmp 60]) hS rfl rfl Fc.fn9 rfl ?_
    refine Calls.mono (Open_v b V3 ts3 [k0, k1, k2, k3, k4, k5, k6, k7, k8, k9, ka, kb, kc, kd, ke, kf] rfl 1 (by omega) hnk ((ne : Int)) (by omega) _ _ (la) (bS lp) (by omega) (by omega) lp.length hbl (by omega) _ (hH.vin hok3 n013 n233 (by repeat (first | exact In.here | refine In.there ?_)) (by repeat (first | exact In.here | refine In.there ?_)) (by repeat (first | exact In.here | refine In.there ?_)) (by repeat (first | exact In.here | refine In.there ?_))) (hb1.go hH.mod (fun _ h => h.elim)) (hBc.bsF (F := Nobody) (hH.get (b := cb) (by repeat (first | exact In.here | refine In.there ?_))) (fun h => h))) ?_
    rintro e w1 ⟨hc9, hE⟩
    obtain ⟨s1, t1, xb, xcap, xcl, xfz, hO1, rfl, hxb, hxk, hxt, hxc⟩ := hc9.resolve_right (fun h => h.1 ⟨3, _, by rw [hts3S]; exact openS_yes ne la lp⟩)
    obtain ⟨_, _, _, _, _, rfl⟩ := openS_only (by rw [hts3S] at hO1; exact hO1) hbl
    have hbt : byt (selS ne la lp) = lp := rfl
    rw [hbt] at hxt hxc ⊢
    replace hH := hH.knowN hE hxb hxk
    refine ⟨_, rfl, hH.kp0, ?_⟩
    clear hS; intro a hS
    refine r_move hS hH.kp0 rfl rfl ?_; clear hS; intro a hS
    refine r_extract hS hH.kp0 rfl rfl rfl ?_; clear hS; intro a hS
    refine r_extract hS hH.kp0 rfl rfl rfl ?_; clear hS; intro a hS
    refine r_assign hS hH.kp0 rfl rfl ?_; clear hS; intro a hS
    refine r_assign hS hH.kp0 rfl rfl ?_; clear hS; intro a hS
    refine Sq.nil ?_
    refine then_n ?_
    refine c_seq ?_
    refine reg_plain w0 (Nobody) ?_
    refine r_move hS hH.kp0 rfl rfl ?_; clear hS; intro a hS
    refine r_load_row hS hH (by repeat (first | exact Sub.nil | refine Sub.cons ?_ ?_ | exact In.here | refine In.there ?_)) rfl (by repeat (first | exact In.here | refine In.there ?_)) Fc.ag26 (by rfl) rfl ?_; clear hS; intro a hS
    refine r_move hS hH.kp0 rfl rfl ?_; clear hS; intro a hS
    refine r_move hS hH.kp0 rfl rfl ?_; clear hS; intro a hS
    refine r_move hS hH.kp0 rfl rfl ?_; clear hS; intro a hS
    refine r_call (l := [.tmp 65, .tmp 66, .tmp 67, .tmp 68, .tmp 69]) hS rfl rfl Fc.fn9 rfl ?_
    refine Calls.mono (Open_v b V3 ts3 [m0, m1, m2, m3, m4, m5, m6, m7, m8, m9, ma, mb, mc, md, me, mf] rfl 2 (by omega) hnm ((ne : Int)) (by omega) _ _ (la) (bS lp) (by omega) (by omega) lp.length hbl (by omega) _ (hH.vin hok3 n013 n233 (by repeat (first | exact In.here | refine In.there ?_)) (by repeat (first | exact In.here | refine In.there ?_)) (by repeat (first | exact In.here | refine In.there ?_)) (by repeat (first | exact In.here | refine In.there ?_))) (hb1.go hH.mod (fun _ h => h.elim)) (hBc.bsF (F := Nobody) (hH.get (b := cb) (by repeat (first | exact In.here | refine In.there ?_))) (fun h => h))) ?_
    rintro e w1 ⟨hc9, hE⟩
    obtain ⟨_, rfl⟩ := hc9.resolve_left (fun ⟨s9, t9, _, _, _, _, hO, _⟩ => absurd (openS_only (by rw [hts3S] at hO; exact hO) hbl).2.1 (by decide))
    replace hH := hH.ext hE
    refine ⟨_, rfl, hH.kp0, ?_⟩
    clear hS; intro a hS
    refine r_move hS hH.kp0 rfl rfl ?_; clear hS; intro a hS
    refine r_extract hS hH.kp0 rfl rfl rfl ?_; clear hS; intro a hS
    refine r_extract hS hH.kp0 rfl rfl rfl ?_; clear hS; intro a hS
    refine r_assign hS hH.kp0 rfl rfl ?_; clear hS; intro a hS
    refine r_assign hS hH.kp0 rfl rfl ?_; clear hS; intro a hS
    refine Sq.nil ?_
    refine then_n ?_
    refine c_seq ?_
    refine reg_plain w0 (Nobody) ?_
    refine r_move hS hH.kp0 rfl rfl ?_; clear hS; intro a hS
    refine r_load_row hS hH (by repeat (first | exact Sub.nil | refine Sub.cons ?_ ?_ | exact In.here | refine In.there ?_)) rfl (by repeat (first | exact In.here | refine In.there ?_)) Fc.ag26 (by rfl) rfl ?_; clear hS; intro a hS
    refine r_move hS hH.kp0 rfl rfl ?_; clear hS; intro a hS
    (first | refine r_add hS hH.kp0 rfl rfl rfl (by omega) ?_ | refine r_addw hS hH.kp0 rfl rfl rfl ?_)
    clear hS; intro a hS
    refine r_move hS hH.kp0 rfl rfl ?_; clear hS; intro a hS
    refine r_move hS hH.kp0 rfl rfl ?_; clear hS; intro a hS
    refine r_call (l := [.tmp 74, .tmp 75, .tmp 77, .tmp 78, .tmp 79]) hS rfl rfl Fc.fn9 rfl ?_
    refine Calls.mono (Open_v b V3 ts3 [k0, k1, k2, k3, k4, k5, k6, k7, k8, k9, ka, kb, kc, kd, ke, kf] rfl 1 (by omega) hnk ((ne : Int) + 1) (by omega) _ _ (la) (bS lp) (by omega) (by omega) lp.length hbl (by omega) _ (hH.vin hok3 n013 n233 (by repeat (first | exact In.here | refine In.there ?_)) (by repeat (first | exact In.here | refine In.there ?_)) (by repeat (first | exact In.here | refine In.there ?_)) (by repeat (first | exact In.here | refine In.there ?_))) (hb1.go hH.mod (fun _ h => h.elim)) (hBc.bsF (F := Nobody) (hH.get (b := cb) (by repeat (first | exact In.here | refine In.there ?_))) (fun h => h))) ?_
    rintro e w1 ⟨hc9, hE⟩
    obtain ⟨_, rfl⟩ := hc9.resolve_left (fun ⟨s9, t9, _, _, _, _, hO, _⟩ => by have h8 := (openS_only (by rw [hts3S] at hO; exact hO) hbl).2.2.1; omega)
    replace hH := hH.ext hE
    refine ⟨_, rfl, hH.kp0, ?_⟩
    clear hS; intro a hS
    refine r_move hS hH.kp0 rfl rfl ?_; clear hS; intro a hS
    refine r_extract hS hH.kp0 rfl rfl rfl ?_; clear hS; intro a hS
    refine r_extract hS hH.kp0 rfl rfl rfl ?_; clear hS; intro a hS
    refine r_assign hS hH.kp0 rfl rfl ?_; clear hS; intro a hS
    refine r_assign hS hH.kp0 rfl rfl ?_; clear hS; intro a hS
    refine Sq.nil ?_
    refine then_n ?_
    refine c_cut (fun a w => St 203 (lv [(0, .slice qp lp.length qcp), (1, .slice qa la.length qca), (7, .pointer (some ⟨b, 0, none⟩)), (8, .pointer (some ⟨b8, 0, none⟩)), (9, .pointer (some ⟨b9, 0, none⟩)), (10, .int .i64 (ne : Int)), (11, .slice (some ⟨cb, 0, none⟩) (bS lp).length ccap), (12, .int .i64 0), (13, .slice (some ⟨xb, 0, none⟩) lp.length xcap), (14, .int .i64 0), (16, .int .i64 20), (18, .int .i64 20), (20, .int .i64 20)]) a ∧ Hp w0 Nobody [(xb, .cells xcl.toArray 5 xfz), (cb, .cells ccl.toArray 5 (0, 0)), (b9, .cells (hcells [m0, m1, m2, m3, m4, m5, m6, m7, m8, m9, ma, mb, mc, md, me, mf]).toArray 26 (0, 0)), (b8, .cells (hcells [k0, k1, k2, k3, k4, k5, k6, k7, k8, k9, ka, kb, kc, kd, ke, kf]).toArray 26 (0, 0)), (b, .cells (V3.top ts3.length).toArray 41 (0, 0)), (V3.sb, .cells V3.l.toArray 64 (0, 0)), (V3.fb, .map V3.es V3.c), (V3.nb, .map V3.es' V3.c')] w) ?_ ?_
    · refine reg_tree [(true, 0, []), (true, 1, []), (true, 2, []), (false, 3, []), (true, 4, []), (false, 5, []), (false, 6, []), (false, 7, []), (true, 8, []), (false, 9, []), (true, 10, []), (true, 11, []), (true, 12, []), (true, 13, []), (true, 14, [])] (PT.ofPlan [(true, 0, []), (true, 1, []), (true, 2, []), (true, 4, []), (true, 8, [])] (.fork (PT.ofPlan [(false, 3, [])] (.fork (PT.ofPlan [(false, 5, []), (false, 6, []), (false, 7, []), (false, 9, []), (true, 10, []), (true, 11, []), (true, 12, []), (true, 13, []), (true, 14, [])] .nil) (PT.ofPlan [(false, 6, []), (false, 5, []), (false, 7, []), (false, 9, []), (true, 10, []), (true, 11, []), (true, 12, []), (true, 13, []), (true, 14, [])] .nil))) (PT.ofPlan [(false, 6, []), (false, 3, []), (false, 5, []), (false, 7, []), (false, 9, []), (true, 10, []), (true, 11, []), (true, 12, []), (true, 13, []), (true, 14, [])] .nil))) Fc.mixed (by kernel_rfl) (by kernel_rfl) (by kernel_rfl) (by kernel_rfl) (by kernel_rfl) (by kernel_rfl) (by repeat (first | with_reducible exact steady_body | with_reducible apply steady_block | with_reducible apply steady_then | exact steady_body)) hH ?_
      replace hH := hH.drew
      refine tr_seg ?_
      refine r_move hS trivial rfl rfl ?_; clear hS; intro a hS
      refine r_load_rowS hS rfl (by repeat (first | exact In.here | refine In.there ?_)) Fc.ag26 (by rfl) rfl ?_; clear hS; intro a hS
      refine r_move hS trivial rfl rfl ?_; clear hS; intro a hS
      refine r_move hS trivial rfl rfl ?_; clear hS; intro a hS
      refine r_move hS trivial rfl rfl ?_; clear hS; intro a hS
      refine Sq.nil ?_
      refine then_n ?_
      refine tr_fork ?_ ?_
      · refine tr_seg ?_
        refine r_buildSlice0 hS hH (by repeat (first | exact Sub.nil | refine Sub.cons ?_ ?_ | exact In.here | refine In.there ?_)) Fc.uls22 Fc.inf5 rfl ?_
        clear hS hH; intro a w b87 hb87 hwb87 hS hH
        refine Sq.nil ?_
        refine then_n ?_
        refine tr_fork ?_ ?_
        · refine tr_seg ?_
          refine r_append_own2 (l := []) hS hH rfl rfl (by repeat (first | exact .here | apply In.there | apply Put.there | apply Del.there)) (by repeat (first | exact Sub.nil | refine Sub.cons ?_ ?_ | exact In.here | refine In.there ?_)) Fc.el22 Fc.ni22 rfl (Nat.le_refl _) (hb1.bs.ext hH.mod).src (by omega) hb87 rfl ?_
          clear hS hH; intro a w ob1 cap1 l1 hob1 hl1 hc1_ htk1 _ hS hH
          rw [Nat.zero_add la.length] at hS hc1_ htk1
          refine r_buildSlice (parts := [(0, .const (.int .u8 1))]) hS hH (by repeat (first | exact Sub.nil | refine Sub.cons ?_ ?_ | exact In.here | refine In.there ?_)) rfl Fc.bsl22_1 (by rfl) rfl ?_
          clear hS hH; intro a w b90 hb90 hwb90 hS hH
          refine r_append_own2 hS hH rfl rfl (by repeat (first | exact .here | apply In.there | apply Put.there | apply Del.there)) (by repeat (first | exact Sub.nil | refine Sub.cons ?_ ?_ | exact In.here | refine In.there ?_)) Fc.el22 Fc.ni22 hl1 hc1_ (Bs.byte (u := 1) (hH.get (b := b90) (by repeat (first | exact In.here | refine In.there ?_)))).src (by simp; omega) hob1 rfl ?_
          clear hS hH; intro a w ob2 cap2 l2 hob2 hl2_ hc2_ htk2 _ hS hH
          have hrF : BsF Nobody w (.slice (some ⟨ob2, 0, none⟩) (la.length + [(1 : UInt8)].length) cap2) (la ++ [1]) := BsF.row (hH.get (b := ob2) .here) (fun h => h) hl2_ hc2_ (by rw [htk2, htk1]; simp [byteV]) (by simp)
          refine r_call (l := [.tmp 84, .tmp 85, .tmp 86, .tmp 91, .tmp 92]) hS rfl rfl Fc.fn9 rfl ?_
          refine Calls.mono (Open_v b V3 ts3 [k0, k1, k2, k3, k4, k5, k6, k7, k8, k9, ka, kb, kc, kd, ke, kf] rfl 1 (by omega) hnk ((ne : Int)) (by omega) _ _ (la ++ [1]) (bS lp) (by rw [List.length_append]; show la.length + 1 ≤ _; omega) (by omega) lp.length hbl (by omega) _ (hH.vin hok3 n013 n233 (by repeat (first | exact In.here | refine In.there ?_)) (by repeat (first | exact In.here | refine In.there ?_)) (by repeat (first | exact In.here | refine In.there ?_)) (by repeat (first | exact In.here | refine In.there ?_))) hrF (hBc.bsF (F := Nobody) (hH.get (b := cb) (by repeat (first | exact In.here | refine In.there ?_))) (fun h => h))) ?_
          rintro e w1 ⟨hc9, hE⟩
          obtain ⟨_, rfl⟩ := hc9.resolve_left (fun ⟨s9, t9, _, _, _, _, hO, _⟩ => by have h8 := congrArg List.length (openS_only (by rw [hts3S] at hO; exact hO) hbl).2.2.2.1; simp at h8)
          replace hH := hH.ext hE
          refine ⟨_, rfl, hH.kp (by repeat (first | exact Sub.nil | refine Sub.cons ?_ ?_ | exact In.here | refine In.there ?_)), ?_⟩
          clear hS; intro a hS
          refine r_move hS trivial rfl rfl ?_; clear hS; intro a hS
          refine r_extract hS trivial rfl rfl rfl ?_; clear hS; intro a hS
          refine r_extract hS trivial rfl rfl rfl ?_; clear hS; intro a hS
          refine r_assign hS trivial rfl rfl ?_; clear hS; intro a hS
          refine r_assign hS trivial rfl rfl ?_; clear hS; intro a hS
          refine Sq.nil ?_
          refine then_n ?_
          refine tr_nil ?_
          refine then_n ?_
          exact ⟨hS.live ⟨rfl, rfl, rfl, rfl, rfl, rfl, rfl, rfl, rfl, rfl, rfl, rfl, rfl, trivial⟩, hH.less (by repeat (first | exact List.nil_sublist _ | refine List.Sublist.cons_cons _ ?_ | refine List.Sublist.cons _ ?_))⟩
        · refine tr_seg ?_
          refine r_buildSlice (parts := [(0, .const (.int .u8 1))]) hS hH (by repeat (first | exact Sub.nil | refine Sub.cons ?_ ?_ | exact In.here | refine In.there ?_)) rfl Fc.bsl22_1 (by rfl) rfl ?_
          clear hS hH; intro a w b90 hb90 hwb90 hS hH
          refine r_append_own2 (l := []) hS hH rfl rfl (by repeat (first | exact .here | apply In.there | apply Put.there | apply Del.there)) (by repeat (first | exact Sub.nil | refine Sub.cons ?_ ?_ | exact In.here | refine In.there ?_)) Fc.el22 Fc.ni22 rfl (Nat.le_refl _) (hb1.bs.ext hH.mod).src (by omega) hb87 rfl ?_
          clear hS hH; intro a w ob1 cap1 l1 hob1 hl1 hc1_ htk1 _ hS hH
          rw [Nat.zero_add la.length] at hS hc1_ htk1
          refine r_append_own2 hS hH rfl rfl (by repeat (first | exact .here | apply In.there | apply Put.there | apply Del.there)) (by repeat (first | exact Sub.nil | refine Sub.cons ?_ ?_ | exact In.here | refine In.there ?_)) Fc.el22 Fc.ni22 hl1 hc1_ (Bs.byte (u := 1) (hH.get (b := b90) (by repeat (first | exact In.here | refine In.there ?_)))).src (by simp; omega) hob1 rfl ?_
          clear hS hH; intro a w ob2 cap2 l2 hob2 hl2_ hc2_ htk2 _ hS hH
          have hrF : BsF Nobody w (.slice (some ⟨ob2, 0, none⟩) (la.length + [(1 : UInt8)].length) cap2) (la ++ [1]) := BsF.row (hH.get (b := ob2) .here) (fun h => h) hl2_ hc2_ (by rw [htk2, htk1]; simp [byteV]) (by simp)
          refine r_call (l := [.tmp 84, .tmp 85, .tmp 86, .tmp 91, .tmp 92]) hS rfl rfl Fc.fn9 rfl ?_
          refine Calls.mono (Open_v b V3 ts3 [k0, k1, k2, k3, k4, k5, k6, k7, k8, k9, ka, kb, kc, kd, ke, kf] rfl 1 (by omega) hnk ((ne : Int)) (by omega) _ _ (la ++ [1]) (bS lp) (by rw [List.length_append]; show la.length + 1 ≤ _; omega) (by omega) lp.length hbl (by omega) _ (hH.vin hok3 n013 n233 (by repeat (first | exact In.here | refine In.there ?_)) (by repeat (first | exact In.here | refine In.there ?_)) (by repeat (first | exact In.here | refine In.there ?_)) (by repeat (first | exact In.here | refine In.there ?_))) hrF (hBc.bsF (F := Nobody) (hH.get (b := cb) (by repeat (first | exact In.here | refine In.there ?_))) (fun h => h))) ?_
          rintro e w1 ⟨hc9, hE⟩
          obtain ⟨_, rfl⟩ := hc9.resolve_left (fun ⟨s9, t9, _, _, _, _, hO, _⟩ => by have h8 := congrArg List.length (openS_only (by rw [hts3S] at hO; exact hO) hbl).2.2.2.1; simp at h8)
          replace hH := hH.ext hE
          refine ⟨_, rfl, hH.kp (by repeat (first | exact Sub.nil | refine Sub.cons ?_ ?_ | exact In.here | refine In.there ?_)), ?_⟩
          clear hS; intro a hS
          refine r_move hS trivial rfl rfl ?_; clear hS; intro a hS
          refine r_extract hS trivial rfl rfl rfl ?_; clear hS; intro a hS
          refine r_extract hS trivial rfl rfl rfl ?_; clear hS; intro a hS
          refine r_assign hS trivial rfl rfl ?_; clear hS; intro a hS
          refine r_assign hS trivial rfl rfl ?_; clear hS; intro a hS
          refine Sq.nil ?_
          refine then_n ?_
          refine tr_nil ?_
          refine then_n ?_
          exact ⟨hS.live ⟨rfl, rfl, rfl, rfl, rfl, rfl, rfl, rfl, rfl, rfl, rfl, rfl, rfl, trivial⟩, hH.less (by repeat (first | exact List.nil_sublist _ | refine List.Sublist.cons_cons _ ?_ | refine List.Sublist.cons _ ?_))⟩
      · refine tr_seg ?_
        refine r_buildSlice (parts := [(0, .const (.int .u8 1))]) hS hH (by repeat (first | exact Sub.nil | refine Sub.cons ?_ ?_ | exact In.here | refine In.there ?_)) rfl Fc.bsl22_1 (by rfl) rfl ?_
        clear hS hH; intro a w b90 hb90 hwb90 hS hH
        refine r_buildSlice0 hS hH (by repeat (first | exact Sub.nil | refine Sub.cons ?_ ?_ | exact In.here | refine In.there ?_)) Fc.uls22 Fc.inf5 rfl ?_
        clear hS hH; intro a w b87 hb87 hwb87 hS hH
        refine r_append_own2 (l := []) hS hH rfl rfl (by repeat (first | exact .here | apply In.there | apply Put.there | apply Del.there)) (by repeat (first | exact Sub.nil | refine Sub.cons ?_ ?_ | exact In.here | refine In.there ?_)) Fc.el22 Fc.ni22 rfl (Nat.le_refl _) (hb1.bs.ext hH.mod).src (by omega) hb87 rfl ?_
        clear hS hH; intro a w ob1 cap1 l1 hob1 hl1 hc1_ htk1 _ hS hH
        rw [Nat.zero_add la.length] at hS hc1_ htk1
        refine r_append_own2 hS hH rfl rfl (by repeat (first | exact .here | apply In.there | apply Put.there | apply Del.there)) (by repeat (first | exact Sub.nil | refine Sub.cons ?_ ?_ | exact In.here | refine In.there ?_)) Fc.el22 Fc.ni22 hl1 hc1_ (Bs.byte (u := 1) (hH.get (b := b90) (by repeat (first | exact In.here | refine In.there ?_)))).src (by simp; omega) hob1 rfl ?_
        clear hS hH; intro a w ob2 cap2 l2 hob2 hl2_ hc2_ htk2 _ hS hH
        have hrF : BsF Nobody w (.slice (some ⟨ob2, 0, none⟩) (la.length + [(1 : UInt8)].length) cap2) (la ++ [1]) := BsF.row (hH.get (b := ob2) .here) (fun h => h) hl2_ hc2_ (by rw [htk2, htk1]; simp [byteV]) (by simp)
        refine r_call (l := [.tmp 84, .tmp 85, .tmp 86, .tmp 91, .tmp 92]) hS rfl rfl Fc.fn9 rfl ?_
        refine Calls.mono (Open_v b V3 ts3 [k0, k1, k2, k3, k4, k5, k6, k7, k8, k9, ka, kb, kc, kd, ke, kf] rfl 1 (by omega) hnk ((ne : Int)) (by omega) _ _ (la ++ [1]) (bS lp) (by rw [List.length_append]; show la.length + 1 ≤ _; omega) (by omega) lp.length hbl (by omega) _ (hH.vin hok3 n013 n233 (by repeat (first | exact In.here | refine In.there ?_)) (by repeat (first | exact In.here | refine In.there ?_)) (by repeat (first | exact In.here | refine In.there ?_)) (by repeat (first | exact In.here | refine In.there ?_))) hrF (hBc.bsF (F := Nobody) (hH.get (b := cb) (by repeat (first | exact In.here | refine In.there ?_))) (fun h => h))) ?_
        rintro e w1 ⟨hc9, hE⟩
        obtain ⟨_, rfl⟩ := hc9.resolve_left (fun ⟨s9, t9, _, _, _, _, hO, _⟩ => by have h8 := congrArg List.length (openS_only (by rw [hts3S] at hO; exact hO) hbl).2.2.2.1; simp at h8)
        replace hH := hH.ext hE
        refine ⟨_, rfl, hH.kp (by repeat (first | exact Sub.nil | refine Sub.cons ?_ ?_ | exact In.here | refine In.there ?_)), ?_⟩
        clear hS; intro a hS
        refine r_move hS trivial rfl rfl ?_; clear hS; intro a hS
        refine r_extract hS trivial rfl rfl rfl ?_; clear hS; intro a hS
        refine r_extract hS trivial rfl rfl rfl ?_; clear hS; intro a hS
        refine r_assign hS trivial rfl rfl ?_; clear hS; intro a hS
        refine r_assign hS trivial rfl rfl ?_; clear hS; intro a hS
        refine Sq.nil ?_
        refine then_n ?_
        refine tr_nil ?_
        refine then_n ?_
        exact ⟨hS.live ⟨rfl, rfl, rfl, rfl, rfl, rfl, rfl, rfl, rfl, rfl, rfl, rfl, rfl, trivial⟩, hH.less (by repeat (first | exact List.nil_sublist _ | refine List.Sublist.cons_cons _ ?_ | refine List.Sublist.cons _ ?_))⟩
    clear hS hH; intro a w hJ; obtain ⟨hS, hH⟩ := hJ
    refine c_cut (fun a w => St 203 (lv [(0, .slice qp lp.length qcp), (1, .slice qa la.length qca), (7, .pointer (some ⟨b, 0, none⟩)), (8, .pointer (some ⟨b8, 0, none⟩)), (9, .pointer (some ⟨b9, 0, none⟩)), (10, .int .i64 (ne : Int)), (11, .slice (some ⟨cb, 0, none⟩) (bS lp).length ccap)]) a ∧ Hp w0 Nobody [(cb, .cells ccl.toArray 5 (0, 0)), (b9, .cells (hcells [m0, m1, m2, m3, m4, m5, m6, m7, m8, m9, ma, mb, mc, md, me, mf]).toArray 26 (0, 0)), (b8, .cells (hcells [k0, k1, k2, k3, k4, k5, k6, k7, k8, k9, ka, kb, kc, kd, ke, kf]).toArray 26 (0, 0)), (b, .cells (V3.top ts3.length).toArray 41 (0, 0)), (V3.sb, .cells V3.l.toArray 64 (0, 0)), (V3.fb, .map V3.es V3.c), (V3.nb, .map V3.es' V3.c')] w) ?_ ?_
    · refine c_seq ?_
      refine reg_plain w0 (Nobody) ?_
      refine r_move hS hH.kp0 rfl rfl ?_; clear hS; intro a hS
      refine r_neq hS hH.kp0 rfl rfl rfl ?_; clear hS; intro a hS
      refine r_move hS hH.kp0 rfl rfl ?_; clear hS; intro a hS
      first
        | (refine Sq.guardYes hS rfl rfl (by first | rfl | exact DT (by omega) | exact DF (by omega) | exact beq_iff_eq.2 (by omega) | exact beq_false_of_ne (by omega) | exact bne_iff_ne.2 (by omega) | exact bne_eq_false_iff_eq.2 (by omega) | assumption | exact beq_self_eq_true _ | exact congrArg not (beq_self_eq_true _)) ?_; refine r_move hS hH.kp0 rfl rfl ?_; clear hS; intro a hS)
        | (refine Sq.guardNo hS rfl rfl (by first | rfl | exact DT (by omega) | exact DF (by omega) | exact beq_iff_eq.2 (by omega) | exact beq_false_of_ne (by omega) | exact bne_iff_ne.2 (by omega) | exact bne_eq_false_iff_eq.2 (by omega) | assumption | exact beq_self_eq_true _ | exact congrArg not (beq_self_eq_true _)) hH.kp0 rfl ?_; clear hS; intro a hS)
        | (refine Sq.guardOff hS rfl rfl hH.kp0 rfl ?_; clear hS; intro a hS)
      first
        | (refine Sq.guardYes hS rfl rfl (by first | rfl | exact DT (by omega) | exact DF (by omega) | exact beq_iff_eq.2 (by omega) | exact beq_false_of_ne (by omega) | exact bne_iff_ne.2 (by omega) | exact bne_eq_false_iff_eq.2 (by omega) | assumption | exact beq_self_eq_true _ | exact congrArg not (beq_self_eq_true _)) ?_; refine r_neq hS hH.kp0 rfl rfl rfl ?_; clear hS; intro a hS)
        | (refine Sq.guardNo hS rfl rfl (by first | rfl | exact DT (by omega) | exact DF (by omega) | exact beq_iff_eq.2 (by omega) | exact beq_false_of_ne (by omega) | exact bne_iff_ne.2 (by omega) | exact bne_eq_false_iff_eq.2 (by omega) | assumption | exact beq_self_eq_true _ | exact congrArg not (beq_self_eq_true _)) hH.kp0 rfl ?_; clear hS; intro a hS)
        | (refine Sq.guardOff hS rfl rfl hH.kp0 rfl ?_; clear hS; intro a hS)
      first
        | (refine r_pickT hS hH.kp0 rfl (by first | rfl | exact DT (by omega) | exact DF (by omega) | exact beq_iff_eq.2 (by omega) | exact beq_false_of_ne (by omega) | exact bne_iff_ne.2 (by omega) | exact bne_eq_false_iff_eq.2 (by omega) | assumption | exact beq_self_eq_true _ | exact congrArg not (beq_self_eq_true _)) rfl rfl ?_; clear hS; intro a hS)
        | (refine r_pickF hS hH.kp0 rfl (by first | rfl | exact DT (by omega) | exact DF (by omega) | exact beq_iff_eq.2 (by omega) | exact beq_false_of_ne (by omega) | exact bne_iff_ne.2 (by omega) | exact bne_eq_false_iff_eq.2 (by omega) | assumption | exact beq_self_eq_true _ | exact congrArg not (beq_self_eq_true _)) rfl rfl ?_; clear hS; intro a hS)
      refine r_move hS hH.kp0 rfl rfl ?_; clear hS; intro a hS
      first
        | (refine Sq.guardYes hS rfl rfl (by first | rfl | exact DT (by omega) | exact DF (by omega) | exact beq_iff_eq.2 (by omega) | exact beq_false_of_ne (by omega) | exact bne_iff_ne.2 (by omega) | exact bne_eq_false_iff_eq.2 (by omega) | assumption | exact beq_self_eq_true _ | exact congrArg not (beq_self_eq_true _)) ?_; refine r_move hS hH.kp0 rfl rfl ?_; clear hS; intro a hS)
        | (refine Sq.guardNo hS rfl rfl (by first | rfl | exact DT (by omega) | exact DF (by omega) | exact beq_iff_eq.2 (by omega) | exact beq_false_of_ne (by omega) | exact bne_iff_ne.2 (by omega) | exact bne_eq_false_iff_eq.2 (by omega) | assumption | exact beq_self_eq_true _ | exact congrArg not (beq_self_eq_true _)) hH.kp0 rfl ?_; clear hS; intro a hS)
        | (refine Sq.guardOff hS rfl rfl hH.kp0 rfl ?_; clear hS; intro a hS)
      first
        | (refine Sq.guardYes hS rfl rfl (by first | rfl | exact DT (by omega) | exact DF (by omega) | exact beq_iff_eq.2 (by omega) | exact beq_false_of_ne (by omega) | exact bne_iff_ne.2 (by omega) | exact bne_eq_false_iff_eq.2 (by omega) | assumption | exact beq_self_eq_true _ | exact congrArg not (beq_self_eq_true _)) ?_; refine r_bytesStr hS hH.kp0 rfl ((BsF.of_blk (F := Nobody) (hH.get (b := xb) (by repeat (first | exact In.here | refine In.there ?_))) (fun h => h) hxt hxc).bs) Fc.u8s22 Fc.isStr9 rfl ?_; clear hS; intro a hS)
        | (refine Sq.guardNo hS rfl rfl (by first | rfl | exact DT (by omega) | exact DF (by omega) | exact beq_iff_eq.2 (by omega) | exact beq_false_of_ne (by omega) | exact bne_iff_ne.2 (by omega) | exact bne_eq_false_iff_eq.2 (by omega) | assumption | exact beq_self_eq_true _ | exact congrArg not (beq_self_eq_true _)) hH.kp0 rfl ?_; clear hS; intro a hS)
        | (refine Sq.guardOff hS rfl rfl hH.kp0 rfl ?_; clear hS; intro a hS)
      first
        | (refine Sq.guardYes hS rfl rfl (by first | rfl | exact DT (by omega) | exact DF (by omega) | exact beq_iff_eq.2 (by omega) | exact beq_false_of_ne (by omega) | exact bne_iff_ne.2 (by omega) | exact bne_eq_false_iff_eq.2 (by omega) | assumption | exact beq_self_eq_true _ | exact congrArg not (beq_self_eq_true _)) ?_; refine r_move hS hH.kp0 rfl rfl ?_; clear hS; intro a hS)
        | (refine Sq.guardNo hS rfl rfl (by first | rfl | exact DT (by omega) | exact DF (by omega) | exact beq_iff_eq.2 (by omega) | exact beq_false_of_ne (by omega) | exact bne_iff_ne.2 (by omega) | exact bne_eq_false_iff_eq.2 (by omega) | assumption | exact beq_self_eq_true _ | exact congrArg not (beq_self_eq_true _)) hH.kp0 rfl ?_; clear hS; intro a hS)
        | (refine Sq.guardOff hS rfl rfl hH.kp0 rfl ?_; clear hS; intro a hS)
      first
        | (refine Sq.guardYes hS rfl rfl (by first | rfl | exact DT (by omega) | exact DF (by omega) | exact beq_iff_eq.2 (by omega) | exact beq_false_of_ne (by omega) | exact bne_iff_ne.2 (by omega) | exact bne_eq_false_iff_eq.2 (by omega) | assumption | exact beq_self_eq_true _ | exact congrArg not (beq_self_eq_true _)) ?_; refine r_bytesStr hS hH.kp0 rfl (hb0.bs.ext hH.mod) Fc.u8s22 Fc.isStr9 rfl ?_; clear hS; intro a hS)
        | (refine Sq.guardNo hS rfl rfl (by first | rfl | exact DT (by omega) | exact DF (by omega) | exact beq_iff_eq.2 (by omega) | exact beq_false_of_ne (by omega) | exact bne_iff_ne.2 (by omega) | exact bne_eq_false_iff_eq.2 (by omega) | assumption | exact beq_self_eq_true _ | exact congrArg not (beq_self_eq_true _)) hH.kp0 rfl ?_; clear hS; intro a hS)
        | (refine Sq.guardOff hS rfl rfl hH.kp0 rfl ?_; clear hS; intro a hS)
      first
        | (refine Sq.guardYes hS rfl rfl (by first | rfl | exact DT (by omega) | exact DF (by omega) | exact beq_iff_eq.2 (by omega) | exact beq_false_of_ne (by omega) | exact bne_iff_ne.2 (by omega) | exact bne_eq_false_iff_eq.2 (by omega) | assumption | exact beq_self_eq_true _ | exact congrArg not (beq_self_eq_true _)) ?_; refine r_strNeq hS hH.kp0 rfl rfl rfl ?_; clear hS; intro a hS)
        | (refine Sq.guardNo hS rfl rfl (by first | rfl | exact DT (by omega) | exact DF (by omega) | exact beq_iff_eq.2 (by omega) | exact beq_false_of_ne (by omega) | exact bne_iff_ne.2 (by omega) | exact bne_eq_false_iff_eq.2 (by omega) | assumption | exact beq_self_eq_true _ | exact congrArg not (beq_self_eq_true _)) hH.kp0 rfl ?_; clear hS; intro a hS)
        | (refine Sq.guardOff hS rfl rfl hH.kp0 rfl ?_; clear hS; intro a hS)
      first
        | (refine r_pickT hS hH.kp0 rfl (by first | rfl | exact DT (by omega) | exact DF (by omega) | exact beq_iff_eq.2 (by omega) | exact beq_false_of_ne (by omega) | exact bne_iff_ne.2 (by omega) | exact bne_eq_false_iff_eq.2 (by omega) | assumption | exact beq_self_eq_true _ | exact congrArg not (beq_self_eq_true _)) rfl rfl ?_; clear hS; intro a hS)
        | (refine r_pickF hS hH.kp0 rfl (by first | rfl | exact DT (by omega) | exact DF (by omega) | exact beq_iff_eq.2 (by omega) | exact beq_false_of_ne (by omega) | exact bne_iff_ne.2 (by omega) | exact bne_eq_false_iff_eq.2 (by omega) | assumption | exact beq_self_eq_true _ | exact congrArg not (beq_self_eq_true _)) rfl rfl ?_; clear hS; intro a hS)
      refine r_move hS hH.kp0 rfl rfl ?_; clear hS; intro a hS
      first
        | (refine Sq.guardYes hS rfl rfl (by first | rfl | exact DT (by omega) | exact DF (by omega) | exact beq_iff_eq.2 (by omega) | exact beq_false_of_ne (by omega) | exact bne_iff_ne.2 (by omega) | exact bne_eq_false_iff_eq.2 (by omega) | assumption | exact beq_self_eq_true _ | exact congrArg not (beq_self_eq_true _)) ?_; refine r_move hS hH.kp0 rfl rfl ?_; clear hS; intro a hS)
        | (refine Sq.guardNo hS rfl rfl (by first | rfl | exact DT (by omega) | exact DF (by omega) | exact beq_iff_eq.2 (by omega) | exact beq_false_of_ne (by omega) | exact bne_iff_ne.2 (by omega) | exact bne_eq_false_iff_eq.2 (by omega) | assumption | exact beq_self_eq_true _ | exact congrArg not (beq_self_eq_true _)) hH.kp0 rfl ?_; clear hS; intro a hS)
        | (refine Sq.guardOff hS rfl rfl hH.kp0 rfl ?_; clear hS; intro a hS)
      first
        | (refine Sq.guardYes hS rfl rfl (by first | rfl | exact DT (by omega) | exact DF (by omega) | exact beq_iff_eq.2 (by omega) | exact beq_false_of_ne (by omega) | exact bne_iff_ne.2 (by omega) | exact bne_eq_false_iff_eq.2 (by omega) | assumption | exact beq_self_eq_true _ | exact congrArg not (beq_self_eq_true _)) ?_; refine r_lenSl hS hH.kp0 rfl Fc.isSlice22 rfl ?_; clear hS; intro a hS)
        | (refine Sq.guardNo hS rfl rfl (by first | rfl | exact DT (by omega) | exact DF (by omega) | exact beq_iff_eq.2 (by omega) | exact beq_false_of_ne (by omega) | exact bne_iff_ne.2 (by omega) | exact bne_eq_false_iff_eq.2 (by omega) | assumption | exact beq_self_eq_true _ | exact congrArg not (beq_self_eq_true _)) hH.kp0 rfl ?_; clear hS; intro a hS)
        | (refine Sq.guardOff hS rfl rfl hH.kp0 rfl ?_; clear hS; intro a hS)
      first
        | (refine Sq.guardYes hS rfl rfl (by first | rfl | exact DT (by omega) | exact DF (by omega) | exact beq_iff_eq.2 (by omega) | exact beq_false_of_ne (by omega) | exact bne_iff_ne.2 (by omega) | exact bne_eq_false_iff_eq.2 (by omega) | assumption | exact beq_self_eq_true _ | exact congrArg not (beq_self_eq_true _)) ?_; refine r_move hS hH.kp0 rfl rfl ?_; clear hS; intro a hS)
        | (refine Sq.guardNo hS rfl rfl (by first | rfl | exact DT (by omega) | exact DF (by omega) | exact beq_iff_eq.2 (by omega) | exact beq_false_of_ne (by omega) | exact bne_iff_ne.2 (by omega) | exact bne_eq_false_iff_eq.2 (by omega) | assumption | exact beq_self_eq_true _ | exact congrArg not (beq_self_eq_true _)) hH.kp0 rfl ?_; clear hS; intro a hS)
        | (refine Sq.guardOff hS rfl rfl hH.kp0 rfl ?_; clear hS; intro a hS)
      first
        | (refine Sq.guardYes hS rfl rfl (by first | rfl | exact DT (by omega) | exact DF (by omega) | exact beq_iff_eq.2 (by omega) | exact beq_false_of_ne (by omega) | exact bne_iff_ne.2 (by omega) | exact bne_eq_false_iff_eq.2 (by omega) | assumption | exact beq_self_eq_true _ | exact congrArg not (beq_self_eq_true _)) ?_; refine r_lenSl hS hH.kp0 rfl Fc.isSlice22 rfl ?_; clear hS; intro a hS)
        | (refine Sq.guardNo hS rfl rfl (by first | rfl | exact DT (by omega) | exact DF (by omega) | exact beq_iff_eq.2 (by omega) | exact beq_false_of_ne (by omega) | exact bne_iff_ne.2 (by omega) | exact bne_eq_false_iff_eq.2 (by omega) | assumption | exact beq_self_eq_true _ | exact congrArg not (beq_self_eq_true _)) hH.kp0 rfl ?_; clear hS; intro a hS)
        | (refine Sq.guardOff hS rfl rfl hH.kp0 rfl ?_; clear hS; intro a hS)
      first
        | (refine Sq.guardYes hS rfl rfl (by first | rfl | exact DT (by omega) | exact DF (by omega) | exact beq_iff_eq.2 (by omega) | exact beq_false_of_ne (by omega) | exact bne_iff_ne.2 (by omega) | exact bne_eq_false_iff_eq.2 (by omega) | assumption | exact beq_self_eq_true _ | exact congrArg not (beq_self_eq_true _)) ?_; (first | refine r_add hS hH.kp0 rfl rfl rfl (by omega) ?_ | refine r_addw hS hH.kp0 rfl rfl rfl ?_); clear hS; intro a hS)
        | (refine Sq.guardNo hS rfl rfl (by first | rfl | exact DT (by omega) | exact DF (by omega) | exact beq_iff_eq.2 (by omega) | exact beq_false_of_ne (by omega) | exact bne_iff_ne.2 (by omega) | exact bne_eq_false_iff_eq.2 (by omega) | assumption | exact beq_self_eq_true _ | exact congrArg not (beq_self_eq_true _)) hH.kp0 rfl ?_; clear hS; intro a hS)
        | (refine Sq.guardOff hS rfl rfl hH.kp0 rfl ?_; clear hS; intro a hS)
      first
        | (refine Sq.guardYes hS rfl rfl (by first | rfl | exact DT (by omega) | exact DF (by omega) | exact beq_iff_eq.2 (by omega) | exact beq_false_of_ne (by omega) | exact bne_iff_ne.2 (by omega) | exact bne_eq_false_iff_eq.2 (by omega) | assumption | exact beq_self_eq_true _ | exact congrArg not (beq_self_eq_true _)) ?_; refine r_neq hS hH.kp0 rfl rfl rfl ?_; clear hS; intro a hS)
        | (refine Sq.guardNo hS rfl rfl (by first | rfl | exact DT (by omega) | exact DF (by omega) | exact beq_iff_eq.2 (by omega) | exact beq_false_of_ne (by omega) | exact bne_iff_ne.2 (by omega) | exact bne_eq_false_iff_eq.2 (by omega) | assumption | exact beq_self_eq_true _ | exact congrArg not (beq_self_eq_true _)) hH.kp0 rfl ?_; clear hS; intro a hS)
        | (refine Sq.guardOff hS rfl rfl hH.kp0 rfl ?_; clear hS; intro a hS)
      first
        | (refine r_pickT hS hH.kp0 rfl (by first | rfl | exact DT (by omega) | exact DF (by omega) | exact beq_iff_eq.2 (by omega) | exact beq_false_of_ne (by omega) | exact bne_iff_ne.2 (by omega) | exact bne_eq_false_iff_eq.2 (by omega) | assumption | exact beq_self_eq_true _ | exact congrArg not (beq_self_eq_true _)) rfl rfl ?_; clear hS; intro a hS)
        | (refine r_pickF hS hH.kp0 rfl (by first | rfl | exact DT (by omega) | exact DF (by omega) | exact beq_iff_eq.2 (by omega) | exact beq_false_of_ne (by omega) | exact bne_iff_ne.2 (by omega) | exact bne_eq_false_iff_eq.2 (by omega) | assumption | exact beq_self_eq_true _ | exact congrArg not (beq_self_eq_true _)) rfl rfl ?_; clear hS; intro a hS)
      refine r_move hS hH.kp0 rfl rfl ?_; clear hS; intro a hS
      first
        | (refine Sq.guardYes hS rfl rfl (by first | rfl | exact DT (by omega) | exact DF (by omega) | exact beq_iff_eq.2 (by omega) | exact beq_false_of_ne (by omega) | exact bne_iff_ne.2 (by omega) | exact bne_eq_false_iff_eq.2 (by omega) | assumption | exact beq_self_eq_true _ | exact congrArg not (beq_self_eq_true _)) ?_; refine r_move hS hH.kp0 rfl rfl ?_; clear hS; intro a hS)
        | (refine Sq.guardNo hS rfl rfl (by first | rfl | exact DT (by omega) | exact DF (by omega) | exact beq_iff_eq.2 (by omega) | exact beq_false_of_ne (by omega) | exact bne_iff_ne.2 (by omega) | exact bne_eq_false_iff_eq.2 (by omega) | assumption | exact beq_self_eq_true _ | exact congrArg not (beq_self_eq_true _)) hH.kp0 rfl ?_; clear hS; intro a hS)
        | (refine Sq.guardOff hS rfl rfl hH.kp0 rfl ?_; clear hS; intro a hS)
      first
        | (refine Sq.guardYes hS rfl rfl (by first | rfl | exact DT (by omega) | exact DF (by omega) | exact beq_iff_eq.2 (by omega) | exact beq_false_of_ne (by omega) | exact bne_iff_ne.2 (by omega) | exact bne_eq_false_iff_eq.2 (by omega) | assumption | exact beq_self_eq_true _ | exact congrArg not (beq_self_eq_true _)) ?_; refine r_neq hS hH.kp0 rfl rfl rfl ?_; clear hS; intro a hS)
        | (refine Sq.guardNo hS rfl rfl (by first | rfl | exact DT (by omega) | exact DF (by omega) | exact beq_iff_eq.2 (by omega) | exact beq_false_of_ne (by omega) | exact bne_iff_ne.2 (by omega) | exact bne_eq_false_iff_eq.2 (by omega) | assumption | exact beq_self_eq_true _ | exact congrArg not (beq_self_eq_true _)) hH.kp0 rfl ?_; clear hS; intro a hS)
        | (refine Sq.guardOff hS rfl rfl hH.kp0 rfl ?_; clear hS; intro a hS)
      first
        | (refine r_pickT hS hH.kp0 rfl (by first | rfl | exact DT (by omega) | exact DF (by omega) | exact beq_iff_eq.2 (by omega) | exact beq_false_of_ne (by omega) | exact bne_iff_ne.2 (by omega) | exact bne_eq_false_iff_eq.2 (by omega) | assumption | exact beq_self_eq_true _ | exact congrArg not (beq_self_eq_true _)) rfl rfl ?_; clear hS; intro a hS)
        | (refine r_pickF hS hH.kp0 rfl (by first | rfl | exact DT (by omega) | exact DF (by omega) | exact beq_iff_eq.2 (by omega) | exact beq_false_of_ne (by omega) | exact bne_iff_ne.2 (by omega) | exact bne_eq_false_iff_eq.2 (by omega) | assumption | exact beq_self_eq_true _ | exact congrArg not (beq_self_eq_true _)) rfl rfl ?_; clear hS; intro a hS)
      refine r_move hS hH.kp0 rfl rfl ?_; clear hS; intro a hS
      first
        | (refine Sq.guardYes hS rfl rfl (by first | rfl | exact DT (by omega) | exact DF (by omega) | exact beq_iff_eq.2 (by omega) | exact beq_false_of_ne (by omega) | exact bne_iff_ne.2 (by omega) | exact bne_eq_false_iff_eq.2 (by omega) | assumption | exact beq_self_eq_true _ | exact congrArg not (beq_self_eq_true _)) ?_; refine r_move hS hH.kp0 rfl rfl ?_; clear hS; intro a hS)
        | (refine Sq.guardNo hS rfl rfl (by first | rfl | exact DT (by omega) | exact DF (by omega) | exact beq_iff_eq.2 (by omega) | exact beq_false_of_ne (by omega) | exact bne_iff_ne.2 (by omega) | exact bne_eq_false_iff_eq.2 (by omega) | assumption | exact beq_self_eq_true _ | exact congrArg not (beq_self_eq_true _)) hH.kp0 rfl ?_; clear hS; intro a hS)
        | (refine Sq.guardOff hS rfl rfl hH.kp0 rfl ?_; clear hS; intro a hS)
      first
        | (refine Sq.guardYes hS rfl rfl (by first | rfl | exact DT (by omega) | exact DF (by omega) | exact beq_iff_eq.2 (by omega) | exact beq_false_of_ne (by omega) | exact bne_iff_ne.2 (by omega) | exact bne_eq_false_iff_eq.2 (by omega) | assumption | exact beq_self_eq_true _ | exact congrArg not (beq_self_eq_true _)) ?_; refine r_neq hS hH.kp0 rfl rfl rfl ?_; clear hS; intro a hS)
        | (refine Sq.guardNo hS rfl rfl (by first | rfl | exact DT (by omega) | exact DF (by omega) | exact beq_iff_eq.2 (by omega) | exact beq_false_of_ne (by omega) | exact bne_iff_ne.2 (by omega) | exact bne_eq_false_iff_eq.2 (by omega) | assumption | exact beq_self_eq_true _ | exact congrArg not (beq_self_eq_true _)) hH.kp0 rfl ?_; clear hS; intro a hS)
        | (refine Sq.guardOff hS rfl rfl hH.kp0 rfl ?_; clear hS; intro a hS)
      first
        | (refine r_pickT hS hH.kp0 rfl (by first | rfl | exact DT (by omega) | exact DF (by omega) | exact beq_iff_eq.2 (by omega) | exact beq_false_of_ne (by omega) | exact bne_iff_ne.2 (by omega) | exact bne_eq_false_iff_eq.2 (by omega) | assumption | exact beq_self_eq_true _ | exact congrArg not (beq_self_eq_true _)) rfl rfl ?_; clear hS; intro a hS)
        | (refine r_pickF hS hH.kp0 rfl (by first | rfl | exact DT (by omega) | exact DF (by omega) | exact beq_iff_eq.2 (by omega) | exact beq_false_of_ne (by omega) | exact bne_iff_ne.2 (by omega) | exact bne_eq_false_iff_eq.2 (by omega) | assumption | exact beq_self_eq_true _ | exact congrArg not (beq_self_eq_true _)) rfl rfl ?_; clear hS; intro a hS)
      refine r_move hS hH.kp0 rfl rfl ?_; clear hS; intro a hS
      first
        | (refine Sq.guardYes hS rfl rfl (by first | rfl | exact DT (by omega) | exact DF (by omega) | exact beq_iff_eq.2 (by omega) | exact beq_false_of_ne (by omega) | exact bne_iff_ne.2 (by omega) | exact bne_eq_false_iff_eq.2 (by omega) | assumption | exact beq_self_eq_true _ | exact congrArg not (beq_self_eq_true _)) ?_; refine r_move hS hH.kp0 rfl rfl ?_; clear hS; intro a hS)
        | (refine Sq.guardNo hS rfl rfl (by first | rfl | exact DT (by omega) | exact DF (by omega) | exact beq_iff_eq.2 (by omega) | exact beq_false_of_ne (by omega) | exact bne_iff_ne.2 (by omega) | exact bne_eq_false_iff_eq.2 (by omega) | assumption | exact beq_self_eq_true _ | exact congrArg not (beq_self_eq_true _)) hH.kp0 rfl ?_; clear hS; intro a hS)
        | (refine Sq.guardOff hS rfl rfl hH.kp0 rfl ?_; clear hS; intro a hS)
      first
        | (refine Sq.guardYes hS rfl rfl (by first | rfl | exact DT (by omega) | exact DF (by omega) | exact beq_iff_eq.2 (by omega) | exact beq_false_of_ne (by omega) | exact bne_iff_ne.2 (by omega) | exact bne_eq_false_iff_eq.2 (by omega) | assumption | exact beq_self_eq_true _ | exact congrArg not (beq_self_eq_true _)) ?_; refine r_neq hS hH.kp0 rfl rfl rfl ?_; clear hS; intro a hS)
        | (refine Sq.guardNo hS rfl rfl (by first | rfl | exact DT (by omega) | exact DF (by omega) | exact beq_iff_eq.2 (by omega) | exact beq_false_of_ne (by omega) | exact bne_iff_ne.2 (by omega) | exact bne_eq_false_iff_eq.2 (by omega) | assumption | exact beq_self_eq_true _ | exact congrArg not (beq_self_eq_true _)) hH.kp0 rfl ?_; clear hS; intro a hS)
        | (refine Sq.guardOff hS rfl rfl hH.kp0 rfl ?_; clear hS; intro a hS)
      first
        | (refine r_pickT hS hH.kp0 rfl (by first | rfl | exact DT (by omega) | exact DF (by omega) | exact beq_iff_eq.2 (by omega) | exact beq_false_of_ne (by omega) | exact bne_iff_ne.2 (by omega) | exact bne_eq_false_iff_eq.2 (by omega) | assumption | exact beq_self_eq_true _ | exact congrArg not (beq_self_eq_true _)) rfl rfl ?_; clear hS; intro a hS)
        | (refine r_pickF hS hH.kp0 rfl (by first | rfl | exact DT (by omega) | exact DF (by omega) | exact beq_iff_eq.2 (by omega) | exact beq_false_of_ne (by omega) | exact bne_iff_ne.2 (by omega) | exact bne_eq_false_iff_eq.2 (by omega) | assumption | exact beq_self_eq_true _ | exact congrArg not (beq_self_eq_true _)) rfl rfl ?_; clear hS; intro a hS)
      refine Sq.nil ?_
      refine then_n ?_
      refine c_condF hS rfl (by first | rfl | exact DT (by omega) | exact DF (by omega) | exact beq_iff_eq.2 (by omega) | exact beq_false_of_ne (by omega) | exact bne_iff_ne.2 (by omega) | exact bne_eq_false_iff_eq.2 (by omega) | assumption | exact beq_self_eq_true _ | exact congrArg not (beq_self_eq_true _)) ?_
      refine wp_skip ?_
      refine then_n ?_
      exact ⟨hS.live ⟨rfl, rfl, rfl, rfl, rfl, rfl, rfl, trivial⟩, hH.less (by repeat (first | exact List.nil_sublist _ | refine List.Sublist.cons_cons _ ?_ | refine List.Sublist.cons _ ?_))⟩
    clear hS hH; intro a w hJ; obtain ⟨hS, hH⟩ := hJ
    refine c_cut (fun a w => St 203 (lv [(0, .slice qp lp.length qcp), (1, .slice qa la.length qca), (7, .pointer (some ⟨b, 0, none⟩)), (8, .pointer (some ⟨b8, 0, none⟩)), (9, .pointer (some ⟨b9, 0, none⟩)), (10, .int .i64 (ne : Int)), (11, .slice (some ⟨cb, 0, none⟩) (bS lp).length ccap)]) a ∧ Hp w0 Nobody [(cb, .cells ccl.toArray 5 (0, 0)), (b9, .cells (hcells [m0, m1, m2, m3, m4, m5, m6, m7, m8, m9, ma, mb, mc, md, me, mf]).toArray 26 (0, 0)), (b8, .cells (hcells [k0, k1, k2, k3, k4, k5, k6, k7, k8, k9, ka, kb, kc, kd, ke, kf]).toArray 26 (0, 0)), (b, .cells (V3.top ts3.length).toArray 41 (0, 0)), (V3.sb, .cells V3.l.toArray 64 (0, 0)), (V3.fb, .map V3.es V3.c), (V3.nb, .map V3.es' V3.c')] w) ?_ ?_
    · refine c_seq ?_
      refine reg_plain w0 (Nobody) ?_
      refine r_assign hS hH.kp0 rfl rfl ?_; clear hS; intro a hS
      refine Sq.nil ?_
      refine then_n ?_
      refine wp_block ?_
      refine c_loop (fun m a w => ∃ (j : Nat) (jj : Int), m + j = 40 ∧ jj = j ∧ St 203 (lv [(0, .slice qp lp.length qcp), (1, .slice qa la.length qca), (7, .pointer (some ⟨b, 0, none⟩)), (8, .pointer (some ⟨b8, 0, none⟩)), (9, .pointer (some ⟨b9, 0, none⟩)), (10, .int .i64 (ne : Int)), (11, .slice (some ⟨cb, 0, none⟩) (bS lp).length ccap), (21, .int .i64 jj)]) a ∧ Hp w0 Nobody [(cb, .cells ccl.toArray 5 (0, 0)), (b9, .cells (hcells [m0, m1, m2, m3, m4, m5, m6, m7, m8, m9, ma, mb, mc, md, me, mf]).toArray 26 (0, 0)), (b8, .cells (hcells [k0, k1, k2, k3, k4, k5, k6, k7, k8, k9, ka, kb, kc, kd, ke, kf]).toArray 26 (0, 0)), (b, .cells (V3.top ts3.length).toArray 41 (0, 0)), (V3.sb, .cells V3.l.toArray 64 (0, 0)), (V3.fb, .map V3.es V3.c), (V3.nb, .map V3.es' V3.c')] w) (40) ?_ ?_
      · exact ⟨0, _, by omega, rfl, hS.live ⟨rfl, rfl, rfl, rfl, rfl, rfl, rfl, rfl, trivial⟩, hH.less (by repeat (first | exact List.nil_sublist _ | refine List.Sublist.cons_cons _ ?_ | refine List.Sublist.cons _ ?_))⟩
      clear hS hH; intro m a w hI; obtain ⟨j, jj, hmj, hjj, hS, hH⟩ := hI
      subst hjj
      refine c_seq ?_
      refine c_seq ?_
      refine reg_plain w0 (Nobody) ?_
      refine r_move hS hH.kp0 rfl rfl ?_; clear hS; intro a hS
      refine r_move hS hH.kp0 rfl rfl ?_; clear hS; intro a hS
      refine r_lenSl hS hH.kp0 rfl Fc.isSlice22 rfl ?_; clear hS; intro a hS
      refine r_lss hS hH.kp0 rfl rfl rfl ?_; clear hS; intro a hS
      rcases (by omega : (bS lp).length ≤ j ∨ (j < (bS lp).length ∧ 40 ≤ j) ∨ (j < (bS lp).length ∧ j < 40)) with hj | ⟨hj, hj2⟩ | ⟨hj, hj2⟩
      · refine r_move hS hH.kp0 rfl rfl ?_; clear hS; intro a hS
        first
          | (refine Sq.guardYes hS rfl rfl (by first | rfl | exact DT (by omega) | exact DF (by omega) | exact beq_iff_eq.2 (by omega) | exact beq_false_of_ne (by omega) | exact bne_iff_ne.2 (by omega) | exact bne_eq_false_iff_eq.2 (by omega) | assumption | exact beq_self_eq_true _ | exact congrArg not (beq_self_eq_true _)) ?_; refine r_move hS hH.kp0 rfl rfl ?_; clear hS; intro a hS)
          | (refine Sq.guardNo hS rfl rfl (by first | rfl | exact DT (by omega) | exact DF (by omega) | exact beq_iff_eq.2 (by omega) | exact beq_false_of_ne (by omega) | exact bne_iff_ne.2 (by omega) | exact bne_eq_false_iff_eq.2 (by omega) | assumption | exact beq_self_eq_true _ | exact congrArg not (beq_self_eq_true _)) hH.kp0 rfl ?_; clear hS; intro a hS)
          | (refine Sq.guardOff hS rfl rfl hH.kp0 rfl ?_; clear hS; intro a hS)
        first
          | (refine Sq.guardYes hS rfl rfl (by first | rfl | exact DT (by omega) | exact DF (by omega) | exact beq_iff_eq.2 (by omega) | exact beq_false_of_ne (by omega) | exact bne_iff_ne.2 (by omega) | exact bne_eq_false_iff_eq.2 (by omega) | assumption | exact beq_self_eq_true _ | exact congrArg not (beq_self_eq_true _)) ?_; refine r_lss hS hH.kp0 rfl rfl rfl ?_; clear hS; intro a hS)
          | (refine Sq.guardNo hS rfl rfl (by first | rfl | exact DT (by omega) | exact DF (by omega) | exact beq_iff_eq.2 (by omega) | exact beq_false_of_ne (by omega) | exact bne_iff_ne.2 (by omega) | exact bne_eq_false_iff_eq.2 (by omega) | assumption | exact beq_self_eq_true _ | exact congrArg not (beq_self_eq_true _)) hH.kp0 rfl ?_; clear hS; intro a hS)
          | (refine Sq.guardOff hS rfl rfl hH.kp0 rfl ?_; clear hS; intro a hS)
        first
          | (refine r_pickT hS hH.kp0 rfl (by first | rfl | exact DT (by omega) | exact DF (by omega) | exact beq_iff_eq.2 (by omega) | exact beq_false_of_ne (by omega) | exact bne_iff_ne.2 (by omega) | exact bne_eq_false_iff_eq.2 (by omega) | assumption | exact beq_self_eq_true _ | exact congrArg not (beq_self_eq_true _)) rfl rfl ?_; clear hS; intro a hS)
          | (refine r_pickF hS hH.kp0 rfl (by first | rfl | exact DT (by omega) | exact DF (by omega) | exact beq_iff_eq.2 (by omega) | exact beq_false_of_ne (by omega) | exact bne_iff_ne.2 (by omega) | exact bne_eq_false_iff_eq.2 (by omega) | assumption | exact beq_self_eq_true _ | exact congrArg not (beq_self_eq_true _)) rfl rfl ?_; clear hS; intro a hS)
        refine Sq.nil ?_
        refine then_n ?_
        refine c_condF hS rfl (by first | rfl | exact DT (by omega) | exact DF (by omega) | exact beq_iff_eq.2 (by omega) | exact beq_false_of_ne (by omega) | exact bne_iff_ne.2 (by omega) | exact bne_eq_false_iff_eq.2 (by omega) | assumption | exact beq_self_eq_true _ | exact congrArg not (beq_self_eq_true _)) ?_
        refine wp_exit ?_
        refine then_e ?_
        refine then_e ?_
        refine blk_hit ?_
        refine then_n ?_
        exact ⟨hS.live ⟨rfl, rfl, rfl, rfl, rfl, rfl, rfl, trivial⟩, hH.less (by repeat (first | exact List.nil_sublist _ | refine List.Sublist.cons_cons _ ?_ | refine List.Sublist.cons _ ?_))⟩
      · refine r_move hS hH.kp0 rfl rfl ?_; clear hS; intro a hS
        first
          | (refine Sq.guardYes hS rfl rfl (by first | rfl | exact DT (by omega) | exact DF (by omega) | exact beq_iff_eq.2 (by omega) | exact beq_false_of_ne (by omega) | exact bne_iff_ne.2 (by omega) | exact bne_eq_false_iff_eq.2 (by omega) | assumption | exact beq_self_eq_true _ | exact congrArg not (beq_self_eq_true _)) ?_; refine r_move hS hH.kp0 rfl rfl ?_; clear hS; intro a hS)
          | (refine Sq.guardNo hS rfl rfl (by first | rfl | exact DT (by omega) | exact DF (by omega) | exact beq_iff_eq.2 (by omega) | exact beq_false_of_ne (by omega) | exact bne_iff_ne.2 (by omega) | exact bne_eq_false_iff_eq.2 (by omega) | assumption | exact beq_self_eq_true _ | exact congrArg not (beq_self_eq_true _)) hH.kp0 rfl ?_; clear hS; intro a hS)
          | (refine Sq.guardOff hS rfl rfl hH.kp0 rfl ?_; clear hS; intro a hS)
        first
          | (refine Sq.guardYes hS rfl rfl (by first | rfl | exact DT (by omega) | exact DF (by omega) | exact beq_iff_eq.2 (by omega) | exact beq_false_of_ne (by omega) | exact bne_iff_ne.2 (by omega) | exact bne_eq_false_iff_eq.2 (by omega) | assumption | exact beq_self_eq_true _ | exact congrArg not (beq_self_eq_true _)) ?_; refine r_lss hS hH.kp0 rfl rfl rfl ?_; clear hS; intro a hS)
          | (refine Sq.guardNo hS rfl rfl (by first | rfl | exact DT (by omega) | exact DF (by omega) | exact beq_iff_eq.2 (by omega) | exact beq_false_of_ne (by omega) | exact bne_iff_ne.2 (by omega) | exact bne_eq_false_iff_eq.2 (by omega) | assumption | exact beq_self_eq_true _ | exact congrArg not (beq_self_eq_true _)) hH.kp0 rfl ?_; clear hS; intro a hS)
          | (refine Sq.guardOff hS rfl rfl hH.kp0 rfl ?_; clear hS; intro a hS)
        first
          | (refine r_pickT hS hH.kp0 rfl (by first | rfl | exact DT (by omega) | exact DF (by omega) | exact beq_iff_eq.2 (by omega) | exact beq_false_of_ne (by omega) | exact bne_iff_ne.2 (by omega) | exact bne_eq_false_iff_eq.2 (by omega) | assumption | exact beq_self_eq_true _ | exact congrArg not (beq_self_eq_true _)) rfl rfl ?_; clear hS; intro a hS)
          | (refine r_pickF hS hH.kp0 rfl (by first | rfl | exact DT (by omega) | exact DF (by omega) | exact beq_iff_eq.2 (by omega) | exact beq_false_of_ne (by omega) | exact bne_iff_ne.2 (by omega) | exact bne_eq_false_iff_eq.2 (by omega) | assumption | exact beq_self_eq_true _ | exact congrArg not (beq_self_eq_true _)) rfl rfl ?_; clear hS; intro a hS)
        refine Sq.nil ?_
        refine then_n ?_
        refine c_condF hS rfl (by first | rfl | exact DT (by omega) | exact DF (by omega) | exact beq_iff_eq.2 (by omega) | exact beq_false_of_ne (by omega) | exact bne_iff_ne.2 (by omega) | exact bne_eq_false_iff_eq.2 (by omega) | assumption | exact beq_self_eq_true _ | exact congrArg not (beq_self_eq_true _)) ?_
        refine wp_exit ?_
        refine then_e ?_
        refine then_e ?_
        refine blk_hit ?_
        refine then_n ?_
        exact ⟨hS.live ⟨rfl, rfl, rfl, rfl, rfl, rfl, rfl, trivial⟩, hH.less (by repeat (first | exact List.nil_sublist _ | refine List.Sublist.cons_cons _ ?_ | refine List.Sublist.cons _ ?_))⟩
      · obtain ⟨y, hy⟩ : ∃ y, (bS lp)[j]? = some y := ⟨_, List.getElem?_eq_getElem hj⟩
        refine r_move hS hH.kp0 rfl rfl ?_; clear hS; intro a hS
        first
          | (refine Sq.guardYes hS rfl rfl (by first | rfl | exact DT (by omega) | exact DF (by omega) | exact beq_iff_eq.2 (by omega) | exact beq_false_of_ne (by omega) | exact bne_iff_ne.2 (by omega) | exact bne_eq_false_iff_eq.2 (by omega) | assumption | exact beq_self_eq_true _ | exact congrArg not (beq_self_eq_true _)) ?_; refine r_move hS hH.kp0 rfl rfl ?_; clear hS; intro a hS)
          | (refine Sq.guardNo hS rfl rfl (by first | rfl | exact DT (by omega) | exact DF (by omega) | exact beq_iff_eq.2 (by omega) | exact beq_false_of_ne (by omega) | exact bne_iff_ne.2 (by omega) | exact bne_eq_false_iff_eq.2 (by omega) | assumption | exact beq_self_eq_true _ | exact congrArg not (beq_self_eq_true _)) hH.kp0 rfl ?_; clear hS; intro a hS)
          | (refine Sq.guardOff hS rfl rfl hH.kp0 rfl ?_; clear hS; intro a hS)
        first
          | (refine Sq.guardYes hS rfl rfl (by first | rfl | exact DT (by omega) | exact DF (by omega) | exact beq_iff_eq.2 (by omega) | exact beq_false_of_ne (by omega) | exact bne_iff_ne.2 (by omega) | exact bne_eq_false_iff_eq.2 (by omega) | assumption | exact beq_self_eq_true _ | exact congrArg not (beq_self_eq_true _)) ?_; refine r_lss hS hH.kp0 rfl rfl rfl ?_; clear hS; intro a hS)
          | (refine Sq.guardNo hS rfl rfl (by first | rfl | exact DT (by omega) | exact DF (by omega) | exact beq_iff_eq.2 (by omega) | exact beq_false_of_ne (by omega) | exact bne_iff_ne.2 (by omega) | exact bne_eq_false_iff_eq.2 (by omega) | assumption | exact beq_self_eq_true _ | exact congrArg not (beq_self_eq_true _)) hH.kp0 rfl ?_; clear hS; intro a hS)
          | (refine Sq.guardOff hS rfl rfl hH.kp0 rfl ?_; clear hS; intro a hS)
        first
          | (refine r_pickT hS hH.kp0 rfl (by first | rfl | exact DT (by omega) | exact DF (by omega) | exact beq_iff_eq.2 (by omega) | exact beq_false_of_ne (by omega) | exact bne_iff_ne.2 (by omega) | exact bne_eq_false_iff_eq.2 (by omega) | assumption | exact beq_self_eq_true _ | exact congrArg not (beq_self_eq_true _)) rfl rfl ?_; clear hS; intro a hS)
          | (refine r_pickF hS hH.kp0 rfl (by first | rfl | exact DT (by omega) | exact DF (by omega) | exact beq_iff_eq.2 (by omega) | exact beq_false_of_ne (by omega) | exact bne_iff_ne.2 (by omega) | exact bne_eq_false_iff_eq.2 (by omega) | assumption | exact beq_self_eq_true _ | exact congrArg not (beq_self_eq_true _)) rfl rfl ?_; clear hS; intro a hS)
        refine Sq.nil ?_
        refine then_n ?_
        refine c_condT hS rfl (by first | rfl | exact DT (by omega) | exact DF (by omega) | exact beq_iff_eq.2 (by omega) | exact beq_false_of_ne (by omega) | exact bne_iff_ne.2 (by omega) | exact bne_eq_false_iff_eq.2 (by omega) | assumption | exact beq_self_eq_true _ | exact congrArg not (beq_self_eq_true _)) ?_
        refine wp_skip ?_
        refine then_n ?_
        refine c_seq ?_
        refine wp_block ?_
        refine c_seq ?_
        refine reg_plain w0 (Nobody) ?_
        refine r_buildSlice0 hS hH (by repeat (first | exact Sub.nil | refine Sub.cons ?_ ?_ | exact In.here | refine In.there ?_)) Fc.uls22 Fc.inf5 rfl ?_
        clear hS hH; intro a w b139 hb139 hwb139 hS hH
        refine r_move hS hH.kp0 rfl rfl ?_; clear hS; intro a hS
        refine r_append_own2 (l := []) hS hH rfl rfl (by repeat (first | exact .here | apply In.there | apply Put.there | apply Del.there)) (by repeat (first | exact Sub.nil | refine Sub.cons ?_ ?_ | exact In.here | refine In.there ?_)) Fc.el22 Fc.ni22 rfl (Nat.le_refl _) (hBc.bsF (F := Nobody) (hH.get (b := cb) (by repeat (first | exact In.here | refine In.there ?_))) (fun h => h)).bs.src (by omega) hb139 rfl ?_
        clear hS hH; intro a w ob3 cap3 l3 hob3 hl3 hc3 htk3 _ hS hH
        rw [Nat.zero_add (bS lp).length] at hS hc3 htk3
        have hB3 : BB cap3 l3 (bS lp) := ⟨by rw [hl3, Nat.mul_one], hc3, by rw [Nat.mul_one] at htk3; rw [htk3]; rfl⟩
        have hB4 := hB3.setAt (y := y ^^^ 1) hj
        refine r_assign hS hH.kp0 rfl rfl ?_; clear hS; intro a hS
        refine Sq.nil ?_
        refine then_n ?_
        refine c_seq ?_
        refine reg_plain w0 (Nobody) ?_
        refine r_move hS hH.kp0 rfl rfl ?_; clear hS; intro a hS
        refine r_move hS hH.kp0 rfl rfl ?_; clear hS; intro a hS
        refine r_move hS hH.kp0 rfl rfl ?_; clear hS; intro a hS
        refine r_move hS hH.kp0 rfl rfl ?_; clear hS; intro a hS
        refine r_indexAddrS (j := j) hS hH.kp0 rfl rfl Fc.slb22 rfl hj rfl ?_; clear hS; intro a hS
        refine r_load_sc hS hH (by repeat (first | exact Sub.nil | refine Sub.cons ?_ ?_ | exact In.here | refine In.there ?_)) rfl (by repeat (first | exact In.here | refine In.there ?_)) Fc.sc5 (v := byteV y) (by rw [nthV_eq, Nat.zero_add, Nat.mul_one]; exact hB3.at hy) rfl ?_; clear hS; intro a hS
        refine r_xorB y 1 hS hH.kp0 rfl rfl rfl ?_; clear hS; intro a hS
        refine r_indexAddrS (j := j) hS hH.kp0 rfl rfl Fc.slb22 rfl hj rfl ?_; clear hS; intro a hS
        refine r_store1 hS hH rfl rfl rfl (by repeat (first | exact .here | apply In.there | apply Put.there | apply Del.there)) (by repeat (first | exact Sub.nil | refine Sub.cons ?_ ?_ | exact In.here | refine In.there ?_)) Fc.sz5 (by rw [hB3.len]; have := hB3.le; omega) (.inr hob3) ?_; clear hH; intro w hH
        refine Sq.nil ?_
        refine then_n ?_
        refine c_seq ?_
        refine reg_plain w0 (Nobody) ?_
        refine r_move hS hH.kp0 rfl rfl ?_; clear hS; intro a hS
        refine r_load_row hS hH (by repeat (first | exact Sub.nil | refine Sub.cons ?_ ?_ | exact In.here | refine In.there ?_)) rfl (by repeat (first | exact In.here | refine In.there ?_)) Fc.ag26 (by rfl) rfl ?_; clear hS; intro a hS
        refine r_move hS hH.kp0 rfl rfl ?_; clear hS; intro a hS
        refine r_move hS hH.kp0 rfl rfl ?_; clear hS; intro a hS
        refine r_move hS hH.kp0 rfl rfl ?_; clear hS; intro a hS
        refine r_call (l := [.tmp 151, .tmp 152, .tmp 153, .tmp 154, .tmp 155]) hS rfl rfl Fc.fn9 rfl ?_
        refine Calls.mono (Open_v b V3 ts3 [k0, k1, k2, k3, k4, k5, k6, k7, k8, k9, ka, kb, kc, kd, ke, kf] rfl 1 (by omega) hnk ((ne : Int)) (by omega) _ _ (la) ((bS lp).set j (y ^^^ 1)) (by omega) (by rw [List.length_set]; omega) lp.length (by rw [List.length_set]; exact hbl) (by omega) _ (hH.vin hok3 n013 n233 (by repeat (first | exact In.here | refine In.there ?_)) (by repeat (first | exact In.here | refine In.there ?_)) (by repeat (first | exact In.here | refine In.there ?_)) (by repeat (first | exact In.here | refine In.there ?_))) (hb1.go hH.mod (fun _ h => h.elim)) (by have h9 := hB4.bsF (F := Nobody) (hH.get (b := ob3) (by repeat (first | exact In.here | refine In.there ?_))) (fun h => h); rw [List.length_set] at h9; exact h9)) ?_
        rintro e w1 ⟨hc9, hE⟩
        obtain ⟨_, rfl⟩ := hc9.resolve_left (fun ⟨s9, t9, _, _, _, _, hO, _⟩ => turned_no hy hbl ⟨s9, t9, by rw [hts3S] at hO; exact hO⟩)
        replace hH := hH.ext hE
        refine ⟨_, rfl, hH.kp0, ?_⟩
        clear hS; intro a hS
        refine r_move hS hH.kp0 rfl rfl ?_; clear hS; intro a hS
        refine r_extract hS hH.kp0 rfl rfl rfl ?_; clear hS; intro a hS
        refine r_extract hS hH.kp0 rfl rfl rfl ?_; clear hS; intro a hS
        refine r_assign hS hH.kp0 rfl rfl ?_; clear hS; intro a hS
        refine r_assign hS hH.kp0 rfl rfl ?_; clear hS; intro a hS
        refine Sq.nil ?_
        refine then_n ?_
        refine c_seq ?_
        refine reg_plain w0 (Nobody) ?_
        refine r_move hS hH.kp0 rfl rfl ?_; clear hS; intro a hS
        refine r_neq hS hH.kp0 rfl rfl rfl ?_; clear hS; intro a hS
        refine Sq.nil ?_
        refine then_n ?_
        refine c_condF hS rfl rfl ?_
        refine wp_skip ?_
        refine blk_n ?_
        refine then_n ?_
        refine reg_plain w0 (Nobody) ?_
        refine r_move hS hH.kp0 rfl rfl ?_; clear hS; intro a hS
        (first | refine r_add hS hH.kp0 rfl rfl rfl (by omega) ?_ | refine r_addw hS hH.kp0 rfl rfl rfl ?_)
        clear hS; intro a hS
        refine r_assign hS hH.kp0 rfl rfl ?_; clear hS; intro a hS
        refine Sq.nil ?_
        refine then_n ?_
        refine ⟨m - 1, by omega, j + 1, _, by omega, ?_, hS.live ⟨rfl, rfl, rfl, rfl, rfl, rfl, rfl, rfl, trivial⟩, hH.less (by repeat (first | exact List.nil_sublist _ | refine List.Sublist.cons_cons _ ?_ | refine List.Sublist.cons _ ?_))⟩
        omega
    clear hS hH; intro a w hJ; obtain ⟨hS, hH⟩ := hJ
    refine c_seq ?_
    refine reg_plain w0 (Nobody) ?_
    refine r_move hS hH.kp0 rfl rfl ?_; clear hS; intro a hS
    refine r_move hS hH.kp0 rfl rfl ?_; clear hS; intro a hS
    refine r_slArr hS hH.kp0 rfl Fc.ar26 rfl ?_; clear hS; intro a hS
    refine r_buildSlice (parts := [(0, .tmp 162), (1, .tmp 163)]) hS hH (by repeat (first | exact Sub.nil | refine Sub.cons ?_ ?_ | exact In.here | refine In.there ?_)) rfl Fc.bsl31_2 (by rfl) rfl ?_
    clear hS hH; intro a w b164 hb164 hwb164 hS hH
    refine r_call (l := [.tmp 161, .tmp 164]) hS rfl rfl Fc.fn10 rfl ?_
    refine Calls.mono (Spied6_v b V3 ts3 (by omega) hwf3 (by omega) _ [bS lp, nm 2] (by intro l hl; simp only [List.mem_cons, List.not_mem_nil, or_false] at hl; rcases hl with rfl | rfl <;> first | (rw [nm_len]; decide) | omega) (by show 2 ≤ 1048576; decide) _ (hH.vin hok3 n013 n233 (by repeat (first | exact In.here | refine In.there ?_)) (by repeat (first | exact In.here | refine In.there ?_)) (by repeat (first | exact In.here | refine In.there ?_)) (by repeat (first | exact In.here | refine In.there ?_))) (SlG.two (F := Nobody) (.slice (some ⟨cb, 0, none⟩) (bS lp).length ccap) (.slice (some ⟨b9, 0, none⟩) 16 16) (hH.get (b := b164) (by repeat (first | exact In.here | refine In.there ?_))) (fun h => h) (hBc.bsF (F := Nobody) (hH.get (b := cb) (by repeat (first | exact In.here | refine In.there ?_))) (fun h => h)) (by rw [← hnm]; exact BsF.block (hH.get (b := b9) (by repeat (first | exact In.here | refine In.there ?_))) rfl (fun h => h)))) ?_
    rintro e w1 ⟨K1, v1, rfl, hKN1, htd1, hE⟩
    have hs1 := spS_none (by rw [hts3S] at hKN1; exact hKN1)
    rw [hts3S, hs1] at htd1
    obtain ⟨p1, c1, hv1⟩ := htd1.val
    subst hv1
    replace hH := hH.ext hE
    refine ⟨_, rfl, hH.kp0, ?_⟩
    clear hS; intro a hS
    refine r_assign hS hH.kp0 rfl rfl ?_; clear hS; intro a hS
    refine Sq.nil ?_
    refine then_n ?_
    refine c_seq ?_
    refine reg_plain w0 (Nobody) ?_
    refine r_move hS hH.kp0 rfl rfl ?_; clear hS; intro a hS
    refine r_move hS hH.kp0 rfl rfl ?_; clear hS; intro a hS
    refine r_slArr hS hH.kp0 rfl Fc.ar26 rfl ?_; clear hS; intro a hS
    refine r_buildSlice (parts := [(0, .tmp 167), (1, .tmp 168)]) hS hH (by repeat (first | exact Sub.nil | refine Sub.cons ?_ ?_ | exact In.here | refine In.there ?_)) rfl Fc.bsl31_2 (by rfl) rfl ?_
    clear hS hH; intro a w b169 hb169 hwb169 hS hH
    refine r_call (l := [.tmp 166, .tmp 169]) hS rfl rfl Fc.fn10 rfl ?_
    refine Calls.mono (Spied6_v b V3 ts3 (by omega) hwf3 (by omega) _ [bS lp, nm 1] (by intro l hl; simp only [List.mem_cons, List.not_mem_nil, or_false] at hl; rcases hl with rfl | rfl <;> first | (rw [nm_len]; decide) | omega) (by show 2 ≤ 1048576; decide) _ (hH.vin hok3 n013 n233 (by repeat (first | exact In.here | refine In.there ?_)) (by repeat (first | exact In.here | refine In.there ?_)) (by repeat (first | exact In.here | refine In.there ?_)) (by repeat (first | exact In.here | refine In.there ?_))) (SlG.two (F := Nobody) (.slice (some ⟨cb, 0, none⟩) (bS lp).length ccap) (.slice (some ⟨b8, 0, none⟩) 16 16) (hH.get (b := b169) (by repeat (first | exact In.here | refine In.there ?_))) (fun h => h) (hBc.bsF (F := Nobody) (hH.get (b := cb) (by repeat (first | exact In.here | refine In.there ?_))) (fun h => h)) (by rw [← hnk]; exact BsF.block (hH.get (b := b8) (by repeat (first | exact In.here | refine In.there ?_))) rfl (fun h => h)))) ?_
    rintro e w1 ⟨K2, v2, rfl, hKN2, htd2, hE⟩
    have hs2 := spS_one (by rw [hts3S] at hKN2; exact hKN2)
    rw [hts3S, hs2] at htd2
    obtain ⟨tb, tcap, tl, hv2, htB, _, htb3, htl1, htl2, htbl⟩ := htd2.resolve_left (fun h => by cases h.2)
    subst hv2
    obtain ⟨x9, hx9, hbx⟩ := htbl.one
    obtain ⟨q9, qc9, hsl9⟩ := hbx.bs
    have hxv := hsl9.val
    subst hxv
    have hx0 : tl[0]? = some (.slice q9 lp.length qc9) := by have h9 := congrArg (·[0]?) hx9; simpa [List.getElem?_take] using h9
    have hHP := hH
    replace hH := hH.ext hE
    have hHI := hH
    refine ⟨_, rfl, hH.kp0, ?_⟩
    clear hS; intro a hS
    refine r_assign hS hH.kp0 rfl rfl ?_; clear hS; intro a hS
    refine Sq.nil ?_
    refine then_n ?_
    refine c_seq ?_
    replace hH := hHI.fresh (S' := Nobody)
    replace hH := hH.know htb3 (fun p hp e => absurd (lt_of_block (hHP.blk p hp)) (by rw [e]; omega))
    refine reg_draw [(true, 0, []), (true, 1, []), (true, 2, []), (true, 3, []), (true, 4, []), (true, 5, []), (true, 6, []), (true, 7, []), (true, 8, []), (true, 9, []), (true, 10, []), (true, 11, []), (true, 12, []), (true, 13, []), (true, 14, []), (true, 15, []), (true, 16, []), (true, 17, []), (true, 18, []), (true, 19, []), (true, 20, []), (false, 21, []), (false, 22, []), (true, 23, []), (true, 24, []), (true, 25, []), (true, 26, []), (true, 27, []), (false, 28, []), (false, 29, []), (true, 30, []), (true, 31, []), (true, 32, [])] Fc.mixed (by kernel_rfl) (by kernel_rfl) (by kernel_rfl) (keepOk2_ok (by kernel_rfl)) (by kernel_rfl) (by repeat (first | with_reducible exact steady_body | with_reducible apply steady_block | with_reducible apply steady_then | exact steady_body)) hH ?_
    replace hH := hH.drew
    refine r_move hS trivial rfl rfl ?_; clear hS; intro a hS
    refine r_lenSl hS trivial rfl Fc.isSlice31 rfl ?_; clear hS; intro a hS
    refine r_eql hS trivial rfl rfl rfl ?_; clear hS; intro a hS
    refine r_move hS trivial rfl rfl ?_; clear hS; intro a hS
    refine Sq.guardYes hS rfl rfl rfl ?_
    refine r_move hS trivial rfl rfl ?_; clear hS; intro a hS
    refine Sq.guardYes hS rfl rfl rfl ?_
    refine r_lenSl hS trivial rfl Fc.isSlice31 rfl ?_; clear hS; intro a hS
    refine Sq.guardYes hS rfl rfl rfl ?_
    refine r_eql hS trivial rfl rfl rfl ?_; clear hS; intro a hS
    refine r_pickT hS trivial rfl rfl rfl rfl ?_; clear hS; intro a hS
    refine r_move hS trivial rfl rfl ?_; clear hS; intro a hS
    refine Sq.guardYes hS rfl rfl rfl ?_
    refine r_move hS trivial rfl rfl ?_; clear hS; intro a hS
    refine Sq.guardYes hS rfl rfl rfl ?_
    refine r_indexAddrS (j := 0) hS trivial rfl rfl Fc.slb31 rfl (Nat.zero_lt_one) rfl ?_; clear hS; intro a hS
    refine Sq.guardYes hS rfl rfl rfl ?_
    refine r_load_scS hS rfl (by repeat (first | exact In.here | refine In.there ?_)) Fc.sc22 (v := .slice q9 lp.length qc9) (by rw [nthV_eq]; exact hx0) rfl ?_; clear hS; intro a hS
    refine Sq.guardYes hS rfl rfl rfl ?_
    refine r_bytesStrS hS rfl (fun w hw => hbx w (hw.2.mono (fun _ h => h.elim))) Fc.u8s22 Fc.isStr9 rfl ?_; clear hS; intro a hS
    refine Sq.guardYes hS rfl rfl rfl ?_
    refine r_move hS trivial rfl rfl ?_; clear hS; intro a hS
    refine Sq.guardYes hS rfl rfl rfl ?_
    refine r_bytesStrS hS rfl (fun w hw => hb0 w (hHI.mod.go hw.2 (fun _ h => h.elim))) Fc.u8s22 Fc.isStr9 rfl ?_; clear hS; intro a hS
    refine Sq.guardYes hS rfl rfl rfl ?_
    refine r_strEql hS trivial rfl rfl rfl ?_; clear hS; intro a hS
    refine r_pickT hS trivial rfl rfl rfl rfl ?_; clear hS; intro a hS
    refine r_move hS trivial rfl rfl ?_; clear hS; intro a hS
    refine Sq.guardYes hS rfl rfl (beq_self_eq_true _) ?_
    refine r_move hS trivial rfl rfl ?_; clear hS; intro a hS
    refine Sq.guardYes hS rfl rfl (beq_self_eq_true _) ?_
    refine r_slArr hS trivial rfl Fc.ar26 rfl ?_; clear hS; intro a hS
    refine Sq.guardYes hS rfl rfl (beq_self_eq_true _) ?_
    refine r_move hS trivial rfl rfl ?_; clear hS; intro a hS
    refine Sq.guardYes hS rfl rfl (beq_self_eq_true _) ?_
    refine r_buildSlice (parts := [(0, .tmp 191)]) hS hH (by repeat (first | exact Sub.nil | refine Sub.cons ?_ ?_ | exact In.here | refine In.there ?_)) rfl Fc.bsl31_1 (by rfl) rfl ?_
    clear hS hH; intro a w b192 hb192 hwb192 hS hH
    refine Sq.guardYes hS rfl rfl (beq_self_eq_true _) ?_
    refine r_call (l := [.tmp 189, .tmp 190, .tmp 192]) hS rfl rfl Fc.fn11 rfl ?_
    refine Calls.mono (Hidden7_v b V3 ts3 (by omega) hwf3 (by omega) _ _ (nm 1) (by rw [nm_len]; decide) [bS lp] (by intro l hl; simp only [List.mem_cons, List.not_mem_nil, or_false] at hl; rcases hl with rfl <;> first | (rw [nm_len]; decide) | omega) (by show 1 ≤ 1048576; decide) _ (hH.vin hok3 n013 n233 (by repeat (first | exact In.here | refine In.there ?_)) (by repeat (first | exact In.here | refine In.there ?_)) (by repeat (first | exact In.here | refine In.there ?_)) (by repeat (first | exact In.here | refine In.there ?_))) (by rw [← hnk]; exact Bs.handle (hH.get (b := b8) (by repeat (first | exact In.here | refine In.there ?_))) rfl) (SlG.one (F := Nobody) (.slice (some ⟨cb, 0, none⟩) (bS lp).length ccap) (hH.get (b := b192) (by repeat (first | exact In.here | refine In.there ?_))) (fun h => h) (hBc.bsF (F := Nobody) (hH.get (b := cb) (by repeat (first | exact In.here | refine In.there ?_))) (fun h => h)))) ?_
    rintro e w1 ⟨r1, K3, rfl, hKN3, hHR3, hE⟩
    obtain rfl : r1 = true := hidS_key (by rw [hts3S] at hKN3; exact hKN3) (by rw [hts3S] at hHR3; exact hHR3)
    replace hH := hH.ext hE
    refine ⟨_, rfl, hH.kp (by repeat (first | exact Sub.nil | refine Sub.cons ?_ ?_ | exact In.here | refine In.there ?_)), ?_⟩
    clear hS; intro a hS
    refine r_pickT hS trivial rfl (beq_self_eq_true _) rfl rfl ?_; clear hS; intro a hS
    refine r_move hS trivial rfl rfl ?_; clear hS; intro a hS
    refine Sq.guardYes hS rfl rfl rfl ?_
    refine r_move hS trivial rfl rfl ?_; clear hS; intro a hS
    refine Sq.guardYes hS rfl rfl rfl ?_
    refine r_move hS trivial rfl rfl ?_; clear hS; intro a hS
    refine Sq.guardYes hS rfl rfl rfl ?_
    refine r_move hS trivial rfl rfl ?_; clear hS; intro a hS
    refine Sq.guardYes hS rfl rfl rfl ?_
    refine r_buildSlice (parts := [(0, .tmp 198)]) hS hH (by repeat (first | exact Sub.nil | refine Sub.cons ?_ ?_ | exact In.here | refine In.there ?_)) rfl Fc.bsl31_1 (by rfl) rfl ?_
    clear hS hH; intro a w b199 hb199 hwb199 hS hH
    refine Sq.guardYes hS rfl rfl rfl ?_
    refine r_call (l := [.tmp 196, .tmp 197, .tmp 199]) hS rfl rfl Fc.fn11 rfl ?_
    refine Calls.mono (Hidden7_v b V3 ts3 (by omega) hwf3 (by omega) _ _ (bS lp) (by omega) [bS lp] (by intro l hl; simp only [List.mem_cons, List.not_mem_nil, or_false] at hl; rcases hl with rfl <;> first | (rw [nm_len]; decide) | omega) (by show 1 ≤ 1048576; decide) _ (hH.vin hok3 n013 n233 (by repeat (first | exact In.here | refine In.there ?_)) (by repeat (first | exact In.here | refine In.there ?_)) (by repeat (first | exact In.here | refine In.there ?_)) (by repeat (first | exact In.here | refine In.there ?_))) (hBc.bsF (F := Nobody) (hH.get (b := cb) (by repeat (first | exact In.here | refine In.there ?_))) (fun h => h)).bs (SlG.one (F := Nobody) (.slice (some ⟨cb, 0, none⟩) (bS lp).length ccap) (hH.get (b := b199) (by repeat (first | exact In.here | refine In.there ?_))) (fun h => h) (hBc.bsF (F := Nobody) (hH.get (b := cb) (by repeat (first | exact In.here | refine In.there ?_))) (fun h => h)))) ?_
    rintro e w1 ⟨r2, K4, rfl, hKN4, hHR4, hE⟩
    obtain rfl : r2 = false := hidS_text (by rw [hts3S] at hKN4; exact hKN4) (by rw [hts3S] at hHR4; exact hHR4)
    replace hH := hH.ext hE
    refine ⟨_, rfl, hH.kp (by repeat (first | exact Sub.nil | refine Sub.cons ?_ ?_ | exact In.here | refine In.there ?_)), ?_⟩
    clear hS; intro a hS
    refine Sq.guardYes hS rfl rfl rfl ?_
    refine r_not hS trivial rfl rfl ?_; clear hS; intro a hS
    refine r_pickT hS trivial rfl rfl rfl rfl ?_; clear hS; intro a hS
    refine r_assign hS trivial rfl rfl ?_; clear hS; intro a hS
    refine Sq.nil ?_
    refine then_n ?_
    refine wp_ret ?_
    exact leave (.inl rfl) hS rfl (Res.tmp rfl Res.nil) ⟨rfl, (hHI.rebase hH (fun x h => .inl h)).mod⟩

end Go.Proofs.YtcjmehononbadaaDoor
