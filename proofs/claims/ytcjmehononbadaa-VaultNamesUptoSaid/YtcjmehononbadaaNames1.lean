/- For every input of bulk at most 1048576 the law VaultNames returns true and the input reads as it did. Part Names1: walks and lemmas of the proof. -/
import Derived.Test.YtcjmehononbadaaSeal3
import Derived.Test.YtcjmehononbadaaSymNames
import Derived.Test.YtcjmehononbadaaSymStep
namespace Go.Proofs.Ytcjmehononbadaa
open Go.Sym

theorem Fc.bsl32_1 : bslB Try.prog 32 1 = some (26, 16, [.int .u8 0, .int .u8 0, .int .u8 0, .int .u8 0, .int .u8 0, .int .u8 0, .int .u8 0, .int .u8 0, .int .u8 0, .int .u8 0, .int .u8 0, .int .u8 0, .int .u8 0, .int .u8 0, .int .u8 0, .int .u8 0]) := by kernel_rfl
theorem Fc.elH : elB Try.prog 32 = some (26, 16, 16) := by kernel_rfl
theorem Fc.fn11 : isFn Try.prog 11 = true := by kernel_rfl
theorem Fc.fn14 : isFn Try.prog 14 = true := by kernel_rfl
theorem Fc.fn28 : isFn Try.prog 28 = true := by kernel_rfl
theorem Fc.fn29 : isFn Try.prog 29 = true := by kernel_rfl
theorem Fc.fn30 : isFn Try.prog 30 = true := by kernel_rfl
theorem Fc.inf5 : (Try.prog.info? 5).isSome = true := by kernel_rfl
theorem Fc.isSlice32 : isSlice Try.prog 32 = true := by kernel_rfl
theorem Fc.niH : notInt Try.prog 32 = true := by kernel_rfl
theorem Fc.slb32 : slB Try.prog 32 = some 16 := by kernel_rfl
theorem Fc.uls22 : Try.prog.underlying 22 = some (.slice 5) := by kernel_rfl
set_option maxRecDepth 100000 in
set_option maxHeartbeats 16000000 in
theorem names_law (nn : Int) (va : Value) (lb : List UInt8) (hB : lb.length ≤ 1048576) (w0 : World) (hb0 : BsF Nobody w0 va lb) : Calls Try.prog 5 #[.int .i64 nn, va] w0 fun e w' => e = .returned (.bool true) ∧ Ext w0 w' := by
  refine enter Try.func5 rfl rfl rfl ?_
  intro a hS
  have hH := Hp.start w0 (Nobody)
  have hxz := hb0.bs
  obtain ⟨qz, qcz, hslz⟩ := hxz
  have hvz := hslz.val
  subst hvz
  refine c_seq ?_
  refine reg_plain w0 (Nobody) ?_
  refine r_assign hS hH.kp0 rfl rfl ?_; clear hS; intro a hS
  refine Sq.nil ?_
  refine then_n ?_
  refine c_seq ?_
  refine reg_plain w0 (Nobody) ?_
  refine r_call (l := []) hS rfl rfl Fc.fn11 rfl ?_
  refine Calls.mono (New_c _) ?_
  rintro e w1 ⟨b, V, rfl, hvi, hE, hVF⟩
  have hsz := hH.mod.size
  have hVS : VS Nobody w0 b V := fun x hx => .inr (Nat.le_trans hsz (hVF x hx))
  replace hH := (hH.ext hE).knowV hvi (by intro p hp; simp at hp)
  obtain ⟨ts, hts⟩ : ∃ ts, ts = [rootT] := ⟨_, rfl⟩
  rw [← hts] at hvi hH
  have hok := hvi.ok
  have n01 := hvi.n01
  have n23 := hvi.n23
  have htl : ts.length = 1 := by rw [hts]; rfl
  refine ⟨_, rfl, hH.kp0, ?_⟩
  clear hS; intro a hS
  refine r_assign hS hH.kp0 rfl rfl ?_; clear hS; intro a hS
  refine Sq.nil ?_
  refine then_n ?_
  refine c_seq ?_
  refine c_seq ?_
  refine reg_plain w0 (Nobody) ?_
  refine r_move hS hH.kp0 rfl rfl ?_; clear hS; intro a hS
  refine r_ptrNil hS hH.kp0 rfl Fc.isPtr23 rfl ?_; clear hS; intro a hS
  refine Sq.nil ?_
  refine then_n ?_
  refine c_condF hS rfl rfl ?_
  refine wp_skip ?_
  refine then_n ?_
  refine c_seq ?_
  refine reg_plain w0 (Nobody) ?_
  refine r_move hS hH.kp0 rfl rfl ?_; clear hS; intro a hS
  refine r_and15b hS hH.kp0 rfl rfl ?_; clear hS; intro a ne hne hS
  (first | refine r_add hS hH.kp0 rfl rfl rfl (by omega) ?_ | refine r_addw hS hH.kp0 rfl rfl rfl ?_)
  clear hS; intro a hS
  refine r_assign hS hH.kp0 rfl rfl ?_; clear hS; intro a hS
  refine Sq.nil ?_
  obtain ⟨N, hN⟩ : ∃ N : Nat, N = 2 + ne := ⟨_, rfl⟩
  rw [show (2 : Int) + (ne : Int) = (N : Int) by omega] at hS
  have hN2 : 2 ≤ N ∧ N ≤ 17 := by omega
  clear hN
  refine then_n ?_
  refine c_seq ?_
  refine reg_plain w0 (Nobody) ?_
  refine r_assign hS hH.kp0 rfl rfl ?_; clear hS; intro a hS
  refine Sq.nil ?_
  refine then_n ?_
  refine c_seq ?_
  refine c_seq ?_
  refine reg_plain w0 (Nobody) ?_
  refine r_assign hS hH.kp0 rfl rfl ?_; clear hS; intro a hS
  refine Sq.nil ?_
  refine then_n ?_
  refine wp_block ?_
  refine c_loop (fun m a w => ∃ (i : Nat) (ii : Int) (V : VB) (ts : List Tm) (hs : List (List UInt8)) (sl : Value), m + i = N ∧ ii = i ∧ VOk Try.prog 93 26 V ts ∧ b ≠ V.sb ∧ V.fb ≠ V.nb ∧ VS Nobody w0 b V ∧ ts = tsF i ∧ hs = hsF i ∧ St 125 (lv [(0, .int .i64 (N : Int)), (1, .slice qz lb.length qcz), (5, .pointer (some ⟨b, 0, none⟩)), (6, sl), (7, .int .i64 ii)]) a ∧ ((i = 0 ∧ sl = .slice none 0 0 ∧ Hp w0 Nobody [(b, .cells (V.top ts.length).toArray 71 (0, 0)), (V.sb, .cells V.l.toArray 93 (0, 0)), (V.fb, .map V.es V.c), (V.nb, .map V.es' V.c')] w) ∨ ∃ (ob cap : Nat) (l : List Value), sl = .slice (some ⟨ob, 0, none⟩) hs.length cap ∧ w0.heap.size ≤ ob ∧ l.length = cap * 16 ∧ hs.length ≤ cap ∧ l.take (hs.length * 16) = hs.flatMap hcells ∧ Hp w0 Nobody [(ob, .cells l.toArray 26 (0, 0)), (b, .cells (V.top ts.length).toArray 71 (0, 0)), (V.sb, .cells V.l.toArray 93 (0, 0)), (V.fb, .map V.es V.c), (V.nb, .map V.es' V.c')] w)) (N) ?_ ?_
  · exact ⟨0, _, V, ts, [], _, by omega, rfl, hok, n01, n23, hVS, hts, rfl, hS.live ⟨rfl, rfl, rfl, rfl, rfl, trivial⟩, .inl ⟨rfl, rfl, hH⟩⟩
  clear hS hH; intro m a w hI; obtain ⟨i, ii, V, ts, hs, sl, hmi, hii, hok, n01, n23, hVS, hts, hhs, hS, hI⟩ := hI
  obtain ⟨m0, hm0⟩ : ∃ x, x = m := ⟨_, rfl⟩
  have htl : ts.length = i + 1 := by rw [hts, tsF_len]
  have hhl : hs.length = i := by rw [hhs, hsF_len]
  rcases hI with ⟨hi0, rfl, hH⟩ | ⟨ob, cap, l, rfl, hob, hol, hcap, htk, hH⟩
  · refine c_seq ?_
    refine c_seq ?_
    refine reg_plain w0 (Nobody) ?_
    refine r_move hS hH.kp0 rfl rfl ?_; clear hS; intro a hS
    refine r_move hS hH.kp0 rfl rfl ?_; clear hS; intro a hS
    refine r_lss hS hH.kp0 rfl rfl rfl ?_; clear hS; intro a hS
    refine Sq.nil ?_
    refine then_n ?_
    refine c_condT hS rfl (DT (by omega)) ?_
    refine wp_skip ?_
    refine then_n ?_
    refine c_seq ?_
    refine wp_block ?_
    refine c_seq ?_
    refine reg_plain w0 (Nobody) ?_
    refine r_move hS hH.kp0 rfl rfl ?_; clear hS; intro a hS
    refine r_call (l := [.tmp 25]) hS rfl rfl Fc.fn14 rfl ?_
    refine Calls.mono (Fresh_v b V ts (by omega) _ (hH.vin hok n01 n23 (by repeat (first | exact In.here | refine In.there ?_)) (by repeat (first | exact In.here | refine In.there ?_)) (by repeat (first | exact In.here | refine In.there ?_)) (by repeat (first | exact In.here | refine In.there ?_)))) ?_
    rintro e w1 ⟨h, V1, rfl, hnk, hvi1, hst⟩
    obtain ⟨k0, k1, k2, k3, k4, k5, k6, k7, k8, k9, ka, kb, kc, kd, ke, kf, rfl⟩ := len16 (h := h) (by rw [hnk]; rfl)
    rw [htl] at hnk
    obtain ⟨ts1, hts1⟩ : ∃ z, z = ts ++ [freshT] := ⟨_, rfl⟩
    rw [← hts1] at hvi1
    have hVS1 := hVS.step hst hH.mod.size
    replace hH := hH.vault hVS hst hvi1 (by first | exact .here | exact .there .here | exact .there (.there .here) | exact .there (.there (.there .here)) | exact .there (.there (.there (.there .here))) | exact .there (.there (.there (.there (.there .here)))) | exact .there (.there (.there (.there (.there (.there .here))))) | exact .there (.there (.there (.there (.there (.there (.there .here)))))) | exact .there (.there (.there (.there (.there (.there (.there (.there .here))))))) | exact .there (.there (.there (.there (.there (.there (.there (.there (.there .here)))))))) | exact .there (.there (.there (.there (.there (.there (.there (.there (.there (.there .here))))))))) | exact .there (.there (.there (.there (.there (.there (.there (.there (.there (.there (.there .here)))))))))) | exact .there (.there (.there (.there (.there (.there (.there (.there (.there (.there (.there (.there .here))))))))))) | exact .there (.there (.there (.there (.there (.there (.there (.there (.there (.there (.there (.there (.there .here)))))))))))) | exact .there (.there (.there (.there (.there (.there (.there (.there (.there (.there (.there (.there (.there (.there .here))))))))))))) | exact .there (.there (.there (.there (.there (.there (.there (.there (.there (.there (.there (.there (.there (.there (.there .here)))))))))))))))
    have hok1 := hvi1.ok
    have n011 := hvi1.n01
    have n231 := hvi1.n23
    clear hst
    have htl1 : ts1.length = i + 2 := by rw [hts1]; simp [htl]
    have hts1F : ts1 = tsF (i + 1) := by rw [hts1, hts, tsF_succ]
    refine ⟨_, rfl, hH.kp0, ?_⟩
    clear hS; intro a hS
    refine r_alloc hS hH (by repeat (first | exact Sub.nil | refine Sub.cons ?_ ?_ | exact In.here | refine In.there ?_)) Fc.zc26 rfl ?_
    clear hS hH; intro a w b8 hb8 hwb8 hS hH
    refine r_store_row hS hH rfl rfl (by repeat (first | exact .here | apply In.there | apply Put.there | apply Del.there)) (by repeat (first | exact Sub.nil | refine Sub.cons ?_ ?_ | exact In.here | refine In.there ?_)) Fc.sz26 (by first | exact hcells_one _ | exact of_decide_eq_true rfl) (by rfl) (by first | exact .inr (by assumption) | exact .inl (by first | assumption | rfl)) ?_
    clear hH; intro w hH
    refine Sq.nil ?_
    refine then_n ?_
    refine c_seq ?_
    refine c_seq ?_
    refine reg_plain w0 (Nobody) ?_
    refine r_assign hS hH.kp0 rfl rfl ?_; clear hS; intro a hS
    refine Sq.nil ?_
    refine then_n ?_
    refine wp_block ?_
    refine wp_loop_rounds 1 ?_
    refine rnd ?_
    refine c_seq ?_
    refine c_seq ?_
    refine reg_plain w0 (Nobody) ?_
    refine r_move hS hH.kp0 rfl rfl ?_; clear hS; intro a hS
    refine r_move hS hH.kp0 rfl rfl ?_; clear hS; intro a hS
    refine r_lenSl hS hH.kp0 rfl Fc.isSlice32 rfl ?_; clear hS; intro a hS
    refine r_lss hS hH.kp0 rfl rfl rfl ?_; clear hS; intro a hS
    refine Sq.nil ?_
    refine then_n ?_
    refine c_condF hS rfl rfl ?_
    refine wp_exit ?_
    refine then_e ?_
    refine then_e ?_
    refine blk_hit ?_
    refine then_n ?_
    refine reg_plain w0 (Nobody) ?_
    refine r_move hS hH.kp0 rfl rfl ?_; clear hS; intro a hS
    refine r_load_row hS hH (by repeat (first | exact Sub.nil | refine Sub.cons ?_ ?_ | exact In.here | refine In.there ?_)) rfl (by repeat (first | exact In.here | refine In.there ?_)) Fc.ag26 (by rfl) rfl ?_; clear hS; intro a hS
    refine r_buildSlice (parts := [(0, .tmp 40)]) hS hH (by repeat (first | exact Sub.nil | refine Sub.cons ?_ ?_ | exact In.here | refine In.there ?_)) rfl Fc.bsl32_1 (by rfl) rfl ?_
    clear hS hH; intro a w b41 hb41 hwb41 hS hH
    refine r_append_nil hS hH (by repeat (first | exact Sub.nil | refine Sub.cons ?_ ?_ | exact In.here | refine In.there ?_)) rfl rfl Fc.elH Fc.niH (Src.hnd (h := [k0, k1, k2, k3, k4, k5, k6, k7, k8, k9, ka, kb, kc, kd, ke, kf]) (hH.get .here) rfl) (by decide) (by decide) rfl ?_
    clear hS hH; intro a w ob' cap' l2 hob' _ hl2 hc2 htk2 _ hS hH
    refine r_assign hS hH.kp0 rfl rfl ?_; clear hS; intro a hS
    refine Sq.nil ?_
    refine blk_n ?_
    refine then_n ?_
    refine reg_plain w0 (Nobody) ?_
    refine r_move hS hH.kp0 rfl rfl ?_; clear hS; intro a hS
    (first | refine r_add hS hH.kp0 rfl rfl rfl (by omega) ?_ | refine r_addw hS hH.kp0 rfl rfl rfl ?_)
    clear hS; intro a hS
    refine r_assign hS hH.kp0 rfl rfl ?_; clear hS; intro a hS
    refine Sq.nil ?_
    refine then_n ?_
    have hs0 : hs = [] := List.eq_nil_of_length_eq_zero (by omega)
    refine ⟨m0 - 1, by omega, i + 1, _, V1, ts1, hs ++ [[k0, k1, k2, k3, k4, k5, k6, k7, k8, k9, ka, kb, kc, kd, ke, kf]], _, by omega, ?_, hok1, n011, n231, hVS1, hts1F, ?_, hS.live ⟨rfl, rfl, rfl, rfl, rfl, trivial⟩, .inr ⟨ob', cap', l2, ?_, hob', hl2, ?_, ?_, hH.drop [1, 2]⟩⟩
    · omega
    · rw [hhs, hsF_succ, hnk]
    · rw [hs0]; rfl
    · rw [hs0]; simpa using hc2
    · rw [hs0]; simpa using htk2
  · refine c_seq ?_
    refine c_seq ?_
    refine reg_plain w0 (Nobody) ?_
    refine r_move hS hH.kp0 rfl rfl ?_; clear hS; intro a hS
    refine r_move hS hH.kp0 rfl rfl ?_; clear hS; intro a hS
    refine r_lss hS hH.kp0 rfl rfl rfl ?_; clear hS; intro a hS
    refine Sq.nil ?_
    refine then_n ?_
    refine c_cond hS rfl (fun hc1 => ?_) (fun hc1 => ?_)
    · have hlt1 := of_decide_eq_true hc1
      refine wp_skip ?_
      refine then_n ?_
      refine c_seq ?_
      refine wp_block ?_
      refine c_seq ?_
      refine reg_plain w0 (Nobody) ?_
      refine r_move hS hH.kp0 rfl rfl ?_; clear hS; intro a hS
      refine r_call (l := [.tmp 25]) hS rfl rfl Fc.fn14 rfl ?_
      refine Calls.mono (Fresh_v b V ts (by omega) _ (hH.vin hok n01 n23 (by repeat (first | exact In.here | refine In.there ?_)) (by repeat (first | exact In.here | refine In.there ?_)) (by repeat (first | exact In.here | refine In.there ?_)) (by repeat (first | exact In.here | refine In.there ?_)))) ?_
      rintro e w1 ⟨h, V1, rfl, hnk, hvi1, hst⟩
      obtain ⟨k0, k1, k2, k3, k4, k5, k6, k7, k8, k9, ka, kb, kc, kd, ke, kf, rfl⟩ := len16 (h := h) (by rw [hnk]; rfl)
      rw [htl] at hnk
      obtain ⟨ts1, hts1⟩ : ∃ z, z = ts ++ [freshT] := ⟨_, rfl⟩
      rw [← hts1] at hvi1
      have hVS1 := hVS.step hst hH.mod.size
      replace hH := hH.vault hVS hst hvi1 (by first | exact .here | exact .there .here | exact .there (.there .here) | exact .there (.there (.there .here)) | exact .there (.there (.there (.there .here))) | exact .there (.there (.there (.there (.there .here)))) | exact .there (.there (.there (.there (.there (.there .here))))) | exact .there (.there (.there (.there (.there (.there (.there .here)))))) | exact .there (.there (.there (.there (.there (.there (.there (.there .here))))))) | exact .there (.there (.there (.there (.there (.there (.there (.there (.there .here)))))))) | exact .there (.there (.there (.there (.there (.there (.there (.there (.there (.there .here))))))))) | exact .there (.there (.there (.there (.there (.there (.there (.there (.there (.there (.there .here)))))))))) | exact .there (.there (.there (.there (.there (.there (.there (.there (.there (.there (.there (.there .here))))))))))) | exact .there (.there (.there (.there (.there (.there (.there (.there (.there (.there (.there (.there (.there .here)))))))))))) | exact .there (.there (.there (.there (.there (.there (.there (.there (.there (.there (.there (.there (.there (.there .here))))))))))))) | exact .there (.there (.there (.there (.there (.there (.there (.there (.there (.there (.there (.there (.there (.there (.there .here)))))))))))))))
      have hok1 := hvi1.ok
      have n011 := hvi1.n01
      have n231 := hvi1.n23
      clear hst
      have htl1 : ts1.length = i + 2 := by rw [hts1]; simp [htl]
      have hts1F : ts1 = tsF (i + 1) := by rw [hts1, hts, tsF_succ]
      refine ⟨_, rfl, hH.kp0, ?_⟩
      clear hS; intro a hS
      refine r_alloc hS hH (by repeat (first | exact Sub.nil | refine Sub.cons ?_ ?_ | exact In.here | refine In.there ?_)) Fc.zc26 rfl ?_
      clear hS hH; intro a w b8 hb8 hwb8 hS hH
      refine r_store_row hS hH rfl rfl (by repeat (first | exact .here | apply In.there | apply Put.there | apply Del.there)) (by repeat (first | exact Sub.nil | refine Sub.cons ?_ ?_ | exact In.here | refine In.there ?_)) Fc.sz26 (by first | exact hcells_one _ | exact of_decide_eq_true rfl) (by rfl) (by first | exact .inr (by assumption) | exact .inl (by first | assumption | rfl)) ?_
      clear hH; intro w hH
      refine Sq.nil ?_
      refine then_n ?_
      refine c_seq ?_
      refine c_seq ?_
      refine reg_plain w0 (Nobody) ?_
      refine r_assign hS hH.kp0 rfl rfl ?_; clear hS; intro a hS
      refine Sq.nil ?_
      refine then_n ?_
      refine wp_block ?_
      refine c_loop (fun m a w => ∃ (r : Nat) (rr : Int), m + r = hs.length ∧ rr = r ∧ St 125 (lv [(0, .int .i64 (N : Int)), (1, .slice qz lb.length qcz), (5, .pointer (some ⟨b, 0, none⟩)), (6, .slice (some ⟨ob, 0, none⟩) hs.length cap), (7, .int .i64 ii), (8, .pointer (some ⟨b8, 0, none⟩)), (9, .int .i64 rr)]) a ∧ Hp w0 Nobody [(b8, .cells (hcells [k0, k1, k2, k3, k4, k5, k6, k7, k8, k9, ka, kb, kc, kd, ke, kf]).toArray 26 (0, 0)), (ob, .cells l.toArray 26 (0, 0)), (b, .cells (V1.top ts1.length).toArray 71 (0, 0)), (V1.sb, .cells V1.l.toArray 93 (0, 0)), (V1.fb, .map V1.es V1.c), (V1.nb, .map V1.es' V1.c')] w) (hs.length) ?_ ?_
      · exact ⟨0, _, by omega, rfl, hS.live ⟨rfl, rfl, rfl, rfl, rfl, rfl, rfl, trivial⟩, hH⟩
      clear hS hH; intro m a w hI; obtain ⟨r, rr, hmr, hrr, hS, hH⟩ := hI
      refine c_seq ?_
      refine c_seq ?_
      refine reg_plain w0 (Nobody) ?_
      refine r_move hS hH.kp0 rfl rfl ?_; clear hS; intro a hS
      refine r_move hS hH.kp0 rfl rfl ?_; clear hS; intro a hS
      refine r_lenSl hS hH.kp0 rfl Fc.isSlice32 rfl ?_; clear hS; intro a hS
      refine r_lss hS hH.kp0 rfl rfl rfl ?_; clear hS; intro a hS
      refine Sq.nil ?_
      refine then_n ?_
      refine c_cond hS rfl (fun hc2 => ?_) (fun hc2 => ?_)
      · have hrl := of_decide_eq_true hc2
        obtain ⟨u, hu⟩ : ∃ u, hs[r]? = some u := ⟨_, List.getElem?_eq_getElem (by omega)⟩
        have hun : u = nm (r + 1) := by rw [hhs, hsF_at (by omega)] at hu; exact (Option.some.inj hu).symm
        have hu16 : u.length = 16 := by rw [hun]; rfl
        have hrow2 := rd_row (by rw [hhs]; exact hsF_16 i) htk hu
        have hut : ¬ u = [k0, k1, k2, k3, k4, k5, k6, k7, k8, k9, ka, kb, kc, kd, ke, kf] := by rw [hun, hnk]; exact nm_ne (by omega) (by omega) (by omega)
        refine wp_skip ?_
        refine then_n ?_
        refine c_seq ?_
        refine wp_block ?_
        refine c_seq ?_
        refine reg_draw [(true, 0, []), (true, 1, []), (true, 2, []), (true, 3, []), (true, 4, []), (true, 5, [])] Fc.mixed (by kernel_rfl) (by kernel_rfl) (by kernel_rfl) (by kernel_rfl) (by kernel_rfl) (by repeat (first | with_reducible exact steady_body | with_reducible apply steady_block | with_reducible apply steady_then | exact steady_body)) hH ?_
        replace hH := hH.drew
        refine r_move hS trivial rfl rfl ?_; clear hS; intro a hS
        refine r_move hS trivial rfl rfl ?_; clear hS; intro a hS
        refine r_indexAddrS (j := r) hS trivial rfl rfl Fc.slb32 hrr (by omega) rfl ?_; clear hS; intro a hS
        refine r_load_atS (vs := hcells u) hS rfl (by repeat (first | exact In.here | refine In.there ?_)) Fc.ag26 (by rw [Nat.zero_add]; exact hrow2.2) (by rw [Nat.zero_add]; exact hrow2.1) rfl ?_; clear hS; intro a hS
        refine r_load_rowS hS rfl (by repeat (first | exact In.here | refine In.there ?_)) Fc.ag26 (by rfl) rfl ?_; clear hS; intro a hS
        refine r_arrEql (h := u) (g := [k0, k1, k2, k3, k4, k5, k6, k7, k8, k9, ka, kb, kc, kd, ke, kf]) Fc.arrH hS trivial rfl rfl hu16 rfl rfl ?_; clear hS; intro a hS
        refine Sq.nil ?_
        refine then_n ?_
        refine c_condF hS rfl (DF hut) ?_
        refine wp_skip ?_
        refine blk_n ?_
        refine then_n ?_
        refine reg_plain w0 (Nobody) ?_
        refine r_move hS hH.kp0 rfl rfl ?_; clear hS; intro a hS
        (first | refine r_add hS hH.kp0 rfl rfl rfl (by omega) ?_ | refine r_addw hS hH.kp0 rfl rfl rfl ?_)
        clear hS; intro a hS
        refine r_assign hS hH.kp0 rfl rfl ?_; clear hS; intro a hS
        refine Sq.nil ?_
        refine then_n ?_
        refine ⟨m - 1, by omega, r + 1, _, by omega, ?_, hS.live ⟨rfl, rfl, rfl, rfl, rfl, rfl, rfl, trivial⟩, hH⟩
        omega
      · have hge2 := of_decide_eq_false hc2
        refine wp_exit ?_
        refine then_e ?_
        refine then_e ?_
        refine blk_hit ?_
        refine then_n ?_
        refine reg_plain w0 (Nobody) ?_
        refine r_move hS hH.kp0 rfl rfl ?_; clear hS; intro a hS
        refine r_load_row hS hH (by repeat (first | exact Sub.nil | refine Sub.cons ?_ ?_ | exact In.here | refine In.there ?_)) rfl (by repeat (first | exact In.here | refine In.there ?_)) Fc.ag26 (by rfl) rfl ?_; clear hS; intro a hS
        refine r_buildSlice (parts := [(0, .tmp 40)]) hS hH (by repeat (first | exact Sub.nil | refine Sub.cons ?_ ?_ | exact In.here | refine In.there ?_)) rfl Fc.bsl32_1 (by rfl) rfl ?_
        clear hS hH; intro a w b41 hb41 hwb41 hS hH
        refine r_append_own hS hH rfl rfl (by repeat (first | exact .here | apply In.there | apply Put.there | apply Del.there)) (by repeat (first | exact Sub.nil | refine Sub.cons ?_ ?_ | exact In.here | refine In.there ?_)) Fc.elH Fc.niH hol hcap (Src.hnd (h := [k0, k1, k2, k3, k4, k5, k6, k7, k8, k9, ka, kb, kc, kd, ke, kf]) (hH.get .here) rfl) (by omega) (.inr hob) rfl ?_
        clear hS hH; intro a w ob' cap' l2 hob' hl2 hc2 htk2 _ hS hH
        refine r_assign hS hH.kp0 rfl rfl ?_; clear hS; intro a hS
        refine Sq.nil ?_
        refine blk_n ?_
        refine then_n ?_
        refine reg_plain w0 (Nobody) ?_
        refine r_move hS hH.kp0 rfl rfl ?_; clear hS; intro a hS
        (first | refine r_add hS hH.kp0 rfl rfl rfl (by omega) ?_ | refine r_addw hS hH.kp0 rfl rfl rfl ?_)
        clear hS; intro a hS
        refine r_assign hS hH.kp0 rfl rfl ?_; clear hS; intro a hS
        refine Sq.nil ?_
        refine then_n ?_
        refine ⟨m0 - 1, by omega, i + 1, _, V1, ts1, hs ++ [[k0, k1, k2, k3, k4, k5, k6, k7, k8, k9, ka, kb, kc, kd, ke, kf]], _, by omega, ?_, hok1, n011, n231, hVS1, hts1F, ?_, hS.live ⟨rfl, rfl, rfl, rfl, rfl, trivial⟩, .inr ⟨ob', cap', l2, ?_, ?_, hl2, ?_, ?_, hH.drop [1, 2]⟩⟩
        · omega
        · rw [hhs, hsF_succ, hnk]
        · simp
        · rcases hob' with h | h; exact False.elim h; exact h
        · simpa using hc2
        · rw [List.length_append, List.length_singleton, htk2, htk]; simp
    · have hge1 := of_decide_eq_false hc1
      have hNi : N = i := by omega
      subst hNi
      have hwf0 : Wf6 ts := by rw [hts]; have h9 := wf_all lb N 0 (by omega) (by omega); simpa [slsF] using h9
      have h16 : ∀ h ∈ hs, h.length = 16 := by rw [hhs]; exact hsF_16 N
      refine wp_exit ?_
      refine then_e ?_
      refine then_e ?_
      refine blk_hit ?_
      refine then_n ?_
      refine c_seq ?_
      refine c_seq ?_
      refine reg_plain w0 (Nobody) ?_
      refine r_move hS hH.kp0 rfl rfl ?_; clear hS; intro a hS
      refine r_move hS hH.kp0 rfl rfl ?_; clear hS; intro a hS
      refine r_call (l := [.tmp 43, .tmp 44, .const (.slice none 0 0)]) hS rfl rfl Fc.fn28 rfl ?_
      refine Calls.mono (Hidden6_v b V ts (by omega) hwf0 (by omega) _ _ lb (by omega) [] (by simp) (by decide) _ (hH.vin hok n01 n23 (by repeat (first | exact In.here | refine In.there ?_)) (by repeat (first | exact In.here | refine In.there ?_)) (by repeat (first | exact In.here | refine In.there ?_)) (by repeat (first | exact In.here | refine In.there ?_))) (hb0.bs.ext hH.mod) (SlG.nil _ _)) ?_
      rintro e w1 ⟨r0, K0, rfl, hKN0, hHR0, hE⟩
      replace hH := hH.ext hE
      refine ⟨_, rfl, hH.kp0, ?_⟩
      clear hS; intro a hS
      refine Sq.nil ?_
      refine then_n ?_
      refine c_cond hS rfl (fun hc4 => ?_) (fun hc4 => ?_)
      · refine c_seq ?_
        refine reg_plain w0 (Nobody) ?_
        refine r_assign hS hH.kp0 rfl rfl ?_; clear hS; intro a hS
        refine Sq.nil ?_
        refine then_n ?_
        refine wp_ret ?_
        refine then_r ?_
        exact leave (.inl rfl) hS rfl (Res.tmp rfl Res.nil) ⟨rfl, hH.mod⟩
      · refine wp_skip ?_
        refine then_n ?_
        refine c_seq ?_
        refine reg_plain w0 (Nobody) ?_
        refine r_assign hS hH.kp0 rfl rfl ?_; clear hS; intro a hS
        refine Sq.nil ?_
        refine then_n ?_
        refine c_seq ?_
        refine c_seq ?_
        refine reg_plain w0 (Nobody) ?_
        refine r_assign hS hH.kp0 rfl rfl ?_; clear hS; intro a hS
        refine Sq.nil ?_
        obtain ⟨wB, hwBe⟩ : ∃ z, z = w0 := ⟨_, rfl⟩
        subst hwBe
        refine then_n ?_
        refine wp_block ?_
        refine c_loop (fun m a w => ∃ (q : Nat) (qq : Int) (V2 : VB) (ts2 : List Tm) (sv : Value) (cs : List (List UInt8)), m + q = N - 1 ∧ qq = q ∧ (VOk Try.prog 93 26 V2 ts2 ∧ b ≠ V2.sb ∧ V2.fb ≠ V2.nb ∧ VS Nobody wB b V2) ∧ ts2 = tsF N ++ slsF lb q ∧ cs = csF lb N q ∧ Todo wB.heap.size 22 (V2.F b) w sv cs ∧ St 125 (lv [(0, .int .i64 (N : Int)), (1, .slice qz lb.length qcz), (5, .pointer (some ⟨b, 0, none⟩)), (6, .slice (some ⟨ob, 0, none⟩) hs.length cap), (10, sv), (11, .int .i64 qq)]) a ∧ Hp wB Nobody [(ob, .cells l.toArray 26 (0, 0)), (b, .cells (V2.top ts2.length).toArray 71 (0, 0)), (V2.sb, .cells V2.l.toArray 93 (0, 0)), (V2.fb, .map V2.es V2.c), (V2.nb, .map V2.es' V2.c')] w) (N - 1) ?_ ?_
        · exact ⟨0, _, V, ts, _, [], by omega, rfl, ⟨hok, n01, n23, hVS⟩, hts.trans (by simp [slsF]), rfl, Todo.nil _ _ _ _, hS.live ⟨rfl, rfl, rfl, rfl, rfl, rfl, trivial⟩, hH⟩
        clear hS hH; intro m a w0 hI; obtain ⟨q, qq, V2, ts2, sv, cs, hmq, hqq, ⟨hok2, n012, n232, hVSB⟩, hts2, hcs, htd, hS, hHI⟩ := hI
        subst hqq
        have hwB := hHI.mod.size
        have htl2 : ts2.length = N + 1 + q := by rw [hts2, List.length_append, tsF_len, slsF_len]
        have hwf2 : Wf6 ts2 := by rw [hts2]; exact wf_all lb N q (by omega) (by omega)
        have hcl : cs.length = q := by rw [hcs, csF_len]
        rcases id htd with ⟨hv0, hc0⟩ | ⟨tb, tcap, tl, hv0, htb1, htb2, htb3, htl1, htl2_, htbl⟩
        · subst hv0
          have hq0 : q = 0 := by rw [hc0] at hcl; exact hcl.symm
          obtain ⟨SR, hSR⟩ : ∃ S : Nat → Prop, S = V2.F b := ⟨_, rfl⟩
          have hH : Hp w0 SR [(ob, .cells l.toArray 26 (0, 0)), (b, .cells (V2.top ts2.length).toArray 71 (0, 0)), (V2.sb, .cells V2.l.toArray 93 (0, 0)), (V2.fb, .map V2.es V2.c), (V2.nb, .map V2.es' V2.c')] w0 := hHI.fresh
          have hVS2 : VS SR w0 b V2 := fun x hx => .inl (by rw [hSR]; exact hx)
          refine c_seq ?_
          refine c_seq ?_
          refine reg_plain w0 (SR) ?_
          refine r_move hS hH.kp0 rfl rfl ?_; clear hS; intro a hS
          (first | refine r_add hS hH.kp0 rfl rfl rfl (by omega) ?_ | refine r_addw hS hH.kp0 rfl rfl rfl ?_)
          clear hS; intro a hS
          refine r_move hS hH.kp0 rfl rfl ?_; clear hS; intro a hS
          refine r_lss hS hH.kp0 rfl rfl rfl ?_; clear hS; intro a hS
          refine Sq.nil ?_
          refine then_n ?_
          refine c_condT hS rfl (DT (by omega)) ?_
          refine wp_skip ?_
          refine then_n ?_
          refine c_seq ?_
          refine wp_block ?_
          refine c_seq ?_
          have hu1 : hs[q]? = some (nm (q + 1)) := by rw [hhs]; exact hsF_at (by omega)
          have hu2 : hs[q + 1]? = some (nm (q + 2)) := by rw [hhs]; exact hsF_at (by omega)
          have hrow1 := rd_row h16 htk hu1
          have hrow2 := rd_row h16 htk hu2
          have hlpl : (lb ++ nm (q + 2)).length = lb.length + 16 := by rw [List.length_append, nm_len]
          refine reg_draw [(true, 0, [1, 2, 3, 4]), (true, 1, [1, 2, 3, 4]), (true, 2, [1, 2, 3, 4]), (true, 3, [1, 2, 3, 4]), (true, 4, [1, 2, 3, 4]), (true, 5, [1, 2, 3, 4]), (true, 7, [1, 2, 3, 4]), (true, 9, [1, 2, 3, 4]), (true, 10, [1, 2, 3, 4]), (true, 11, [1, 2, 3, 4]), (true, 12, [1, 2, 3, 4]), (true, 13, [1, 2, 3, 4]), (false, 6, []), (false, 8, []), (false, 14, []), (false, 15, [1, 2, 3, 4]), (true, 16, [1, 2, 3, 4]), (true, 17, [1, 2, 3, 4]), (true, 18, [1, 2, 3, 4]), (true, 19, [1, 2, 3, 4]), (true, 20, [1, 2, 3, 4])] Fc.mixed (by kernel_rfl) (by kernel_rfl) (by kernel_rfl) (keepOk2_ok (by kernel_rfl)) (by kernel_rfl) (by repeat (first | with_reducible exact steady_body | with_reducible apply steady_block | with_reducible apply steady_then | exact steady_body)) hH ?_
          replace hH := hH.drew
          refine r_move hS trivial rfl rfl ?_; clear hS; intro a hS
          refine r_move hS trivial rfl rfl ?_; clear hS; intro a hS
          refine r_move hS trivial rfl rfl ?_; clear hS; intro a hS
          refine r_indexAddrS (j := q) hS trivial rfl rfl Fc.slb32 rfl (by omega) rfl ?_; clear hS; intro a hS
          refine r_load_atS (vs := hcells (nm (q + 1))) hS rfl (by repeat (first | exact In.here | refine In.there ?_)) Fc.ag26 (by rw [Nat.zero_add]; exact hrow1.2) (by rw [Nat.zero_add]; exact hrow1.1) rfl ?_; clear hS; intro a hS
          refine r_move hS trivial rfl rfl ?_; clear hS; intro a hS
          refine r_move hS trivial rfl rfl ?_; clear hS; intro a hS
          refine r_move hS trivial rfl rfl ?_; clear hS; intro a hS
          refine r_move hS trivial rfl rfl ?_; clear hS; intro a hS
          (first | refine r_add hS trivial rfl rfl rfl (by omega) ?_ | refine r_addw hS trivial rfl rfl rfl ?_)
          clear hS; intro a hS
          refine r_indexAddrS (j := q + 1) hS trivial rfl rfl Fc.slb32 (by omega) (by omega) rfl ?_; clear hS; intro a hS
          refine r_slArr hS trivial rfl Fc.ar26 rfl ?_; clear hS; intro a hS
          refine r_buildSlice0 hS hH (by repeat (first | exact Sub.nil | refine Sub.cons ?_ ?_ | exact In.here | refine In.there ?_)) Fc.uls22 Fc.inf5 rfl ?_
          clear hS hH; intro a w b59 hb59 hwb59 hS hH
          refine r_append_own2 (l := []) hS hH rfl rfl (by repeat (first | exact .here | apply In.there | apply Put.there | apply Del.there)) (by repeat (first | exact Sub.nil | refine Sub.cons ?_ ?_ | exact In.here | refine In.there ?_)) Fc.el22 Fc.ni22 rfl (Nat.le_refl _) (hb0.bs.ext (hHI.rebase hH (fun x hx => by rw [hSR] at hx; exact hVSB x hx)).mod).src (by omega) hb59 rfl ?_
          clear hS hH; intro a w ob1 cap1 l1 hob1 hl1 hc1_ htk1 _ hS hH
          rw [Nat.zero_add lb.length] at hS hc1_ htk1
          refine r_append_own2 hS hH rfl rfl (by repeat (first | exact .here | apply In.there | apply Put.there | apply Del.there)) (by repeat (first | exact Sub.nil | refine Sub.cons ?_ ?_ | exact In.here | refine In.there ?_)) Fc.el22 Fc.ni22 hl1 hc1_ (BsF.sub (F := Nobody) (b := nm (q + 2)) (hH.get (b := ob) (by repeat (first | exact In.here | refine In.there ?_))) (fun h => h) (by rw [Nat.zero_add]; exact hrow2.1) rfl).bs.src (by rw [nm_len]; omega) hob1 rfl ?_
          clear hS hH; intro a w ob2 cap2 l2 hob2 hl2 hc2 htk2 _ hS hH
          have hVl : ∀ x, V2.F b x → x < w0.heap.size := by intro x hx; rcases hx with rfl | rfl | rfl | rfl; exact lt_of_block (hHI.get (by repeat (first | exact .here | apply In.there | apply Put.there | apply Del.there))); exact lt_of_block (hHI.get (b := V2.sb) (by repeat (first | exact .here | apply In.there | apply Put.there | apply Del.there))); exact lt_of_block (hHI.get (b := V2.fb) (by repeat (first | exact .here | apply In.there | apply Put.there | apply Del.there))); exact lt_of_block (hHI.get (b := V2.nb) (by repeat (first | exact .here | apply In.there | apply Put.there | apply Del.there)))
          have hbp : BsF (V2.F b) w (.slice (some ⟨ob2, 0, none⟩) (lb.length + (nm (q + 2)).length) cap2) (lb ++ nm (q + 2)) := BsF.row (hH.get (b := ob2) .here) (fun h => by have := hVl ob2 h; omega) hl2 hc2 (by rw [htk2, htk1, List.map_append]; rfl) (by rw [List.length_append])
          rcases (by omega : 65536 < (lb ++ nm (q + 2)).length ∨ (lb ++ nm (q + 2)).length ≤ 65536) with hbig | hbig
          · refine r_call (l := [.tmp 53, .tmp 57, .tmp 58, .const (.slice none 0 0), .tmp 67]) hS rfl rfl Fc.fn29 rfl ?_
            refine Calls.mono (Seal_big b V2 ts2 (nm (q + 1)) rfl (q + 1) (by omega) rfl (q : Int) (by omega) (.slice none 0 0) _ [] (lb ++ nm (q + 2)) (by decide) hbig (by omega) _ (hH.vin hok2 n012 n232 (by repeat (first | exact In.here | refine In.there ?_)) (by repeat (first | exact In.here | refine In.there ?_)) (by repeat (first | exact In.here | refine In.there ?_)) (by repeat (first | exact In.here | refine In.there ?_))) (BsF.nil _ _) hbp) ?_
            rintro e w1 ⟨rfl, hE⟩
            replace hH := hH.ext hE
            refine ⟨_, rfl, hH.kp (by repeat (first | exact Sub.nil | refine Sub.cons ?_ ?_ | exact In.here | refine In.there ?_)), ?_⟩
            clear hS; intro a hS
            refine r_move hS trivial rfl rfl ?_; clear hS; intro a hS
            refine r_extract hS trivial rfl rfl rfl ?_; clear hS; intro a hS
            refine r_extract hS trivial rfl rfl rfl ?_; clear hS; intro a hS
            refine r_assign hS trivial rfl rfl ?_; clear hS; intro a hS
            refine r_assign hS trivial rfl rfl ?_; clear hS; intro a hS
            refine Sq.nil ?_
            refine then_n ?_
            refine c_seq ?_
            refine c_seq ?_
            refine reg_plain w0 (SR) ?_
            refine r_move hS hH.kp0 rfl rfl ?_; clear hS; intro a hS
            refine r_neq hS hH.kp0 rfl rfl rfl ?_; clear hS; intro a hS
            refine Sq.nil ?_
            refine then_n ?_
            refine c_condT hS rfl rfl ?_
            refine c_seq ?_
            refine reg_plain w0 (SR) ?_
            refine r_move hS hH.kp0 rfl rfl ?_; clear hS; intro a hS
            refine r_lenSl hS hH.kp0 rfl Fc.isSlice22 rfl ?_; clear hS; intro a hS
            refine r_gtr hS hH.kp0 rfl rfl rfl ?_; clear hS; intro a hS
            rw [show decide ((lb.length : Int) > 65520) = true from DT (by omega)] at hS
            refine r_assign hS hH.kp0 rfl rfl ?_; clear hS; intro a hS
            refine Sq.nil ?_
            refine then_n ?_
            refine wp_ret ?_
            refine then_r ?_
            refine blk_r ?_
            refine then_r ?_
            refine then_r ?_
            refine blk_r ?_
            refine then_r ?_
            exact leave (.inl rfl) hS rfl (Res.tmp rfl Res.nil) ⟨rfl, (hHI.rebase hH (fun x hx => by rw [hSR] at hx; exact hVSB x hx)).mod⟩
          · refine r_call (l := [.tmp 53, .tmp 57, .tmp 58, .const (.slice none 0 0), .tmp 67]) hS rfl rfl Fc.fn29 rfl ?_
            refine Calls.mono (Seal_v b V2 ts2 (nm (q + 1)) rfl (q + 1) (by omega) rfl (q : Int) (by omega) (.slice none 0 0) _ [] (lb ++ nm (q + 2)) (by decide) hbig (by omega) _ (hH.vin hok2 n012 n232 (by repeat (first | exact In.here | refine In.there ?_)) (by repeat (first | exact In.here | refine In.there ?_)) (by repeat (first | exact In.here | refine In.there ?_)) (by repeat (first | exact In.here | refine In.there ?_))) (BsF.nil _ _) hbp) ?_
            rintro e w1 ⟨cb, ccap, ki, ccl, V3, ts3, rfl, hcb, hcbk, hBc, hvi3, hst, hmd⟩
            have hlc2 := lt_of_block (hH.get (b := ob2) (by repeat (first | exact .here | apply In.there | apply Put.there | apply Del.there)))
            obtain ⟨rfl, hts3⟩ := hmd.new (by rw [hts2]; exact selF_notin)
            have hVS3 := hVS2.step hst hH.mod.size
            replace hH := hH.vault hVS2 hst hvi3 (by first | exact .here | exact .there .here | exact .there (.there .here) | exact .there (.there (.there .here)) | exact .there (.there (.there (.there .here))) | exact .there (.there (.there (.there (.there .here)))) | exact .there (.there (.there (.there (.there (.there .here))))) | exact .there (.there (.there (.there (.there (.there (.there .here)))))) | exact .there (.there (.there (.there (.there (.there (.there (.there .here))))))) | exact .there (.there (.there (.there (.there (.there (.there (.there (.there .here)))))))) | exact .there (.there (.there (.there (.there (.there (.there (.there (.there (.there .here))))))))) | exact .there (.there (.there (.there (.there (.there (.there (.there (.there (.there (.there .here)))))))))) | exact .there (.there (.there (.there (.there (.there (.there (.there (.there (.there (.there (.there .here))))))))))) | exact .there (.there (.there (.there (.there (.there (.there (.there (.there (.there (.there (.there (.there .here)))))))))))) | exact .there (.there (.there (.there (.there (.there (.there (.there (.there (.there (.there (.there (.there (.there .here))))))))))))) | exact .there (.there (.there (.there (.there (.there (.there (.there (.there (.there (.there (.there (.there (.there (.there .here)))))))))))))))
            have hok3 := hvi3.ok
            have n013 := hvi3.n01
            have n233 := hvi3.n23
            have hnF3 : ¬ V3.F b cb := hvi3.notF hcbk (by decide) (by decide)
            replace hH := hH.know hcbk (by intro p hp e; have h8 := hH.blk p hp; rw [e, hcbk] at h8; simp only [List.mem_cons, List.not_mem_nil, or_false] at hp; rcases hp with rfl | rfl | rfl | rfl | rfl | rfl <;> dsimp only at e <;> first | omega | (simp at h8))
            have hcx : List.replicate (lb ++ nm (q + 2)).length 0 ++ nm ts2.length = List.replicate (lb.length + 16) 0 ++ nm (N + 1 + q) := by rw [hlpl, htl2]
            rw [hcx] at hBc
            have hcxl : (lb ++ nm (q + 2)).length + 16 = (List.replicate (lb.length + 16) 0 ++ nm (N + 1 + q) : List UInt8).length := by rw [hlpl, List.length_append, List.length_replicate, nm_len]
            rw [hcxl]
            obtain ⟨cx, hcx2⟩ : ∃ z : List UInt8, z = List.replicate (lb.length + 16) 0 ++ nm (N + 1 + q) := ⟨_, rfl⟩
            rw [← hcx2] at hBc ⊢
            refine ⟨_, rfl, hH.kp (by repeat (first | exact Sub.nil | refine Sub.cons ?_ ?_ | exact In.here | refine In.there ?_)), ?_⟩
            clear hS; intro a hS
            refine r_move hS trivial rfl rfl ?_; clear hS; intro a hS
            refine r_extract hS trivial rfl rfl rfl ?_; clear hS; intro a hS
            refine r_extract hS trivial rfl rfl rfl ?_; clear hS; intro a hS
            refine r_assign hS trivial rfl rfl ?_; clear hS; intro a hS
            refine r_assign hS trivial rfl rfl ?_; clear hS; intro a hS
            refine Sq.nil ?_
            refine then_n ?_
            refine c_seq ?_
            refine c_seq ?_
            refine reg_plain w0 (SR) ?_
            refine r_move hS hH.kp0 rfl rfl ?_; clear hS; intro a hS
            refine r_neq hS hH.kp0 rfl rfl rfl ?_; clear hS; intro a hS
            refine Sq.nil ?_
            refine then_n ?_
            refine c_condF hS rfl rfl ?_
            refine wp_skip ?_
            refine then_n ?_
            refine reg_plain w0 (SR) ?_
            refine r_move hS hH.kp0 rfl rfl ?_; clear hS; intro a hS
            refine r_move hS hH.kp0 rfl rfl ?_; clear hS; intro a hS
            refine r_buildSlice (parts := [(0, .tmp 77)]) hS hH (by repeat (first | exact Sub.nil | refine Sub.cons ?_ ?_ | exact In.here | refine In.there ?_)) rfl Fc.bsl60_1 (by rfl) rfl ?_
            clear hS hH; intro a w b78 hb78 hwb78 hS hH
            have h94 := hH.get (b := b78) (o := .cells ([Value.slice (some ⟨cb, 0, none⟩) cx.length ccap] : List Value).toArray 22 (0, 0)) .here
            have hs94 : Sl 1 w (.slice (some ⟨b78, 0, none⟩) 1 1) [Value.slice (some ⟨cb, 0, none⟩) cx.length ccap] 1 (some ⟨b78, 0, none⟩) 1 := Sl.of_block (es := 1) (m := 1) (cap := 1) h94 (Nat.le_refl 1) (Nat.le_refl 1)
            refine r_append_nil hS hH (by repeat (first | exact Sub.nil | refine Sub.cons ?_ ?_ | exact In.here | refine In.there ?_)) rfl rfl Fc.el60 Fc.ni60 (hs94.src (by intro z hz; rw [List.mem_singleton.1 hz]; rfl)) (by decide) (by decide) rfl ?_
            clear hS hH; intro a w ub ucap ul hub huw hul huc hut huE hS hH
            refine r_assign hS hH.kp0 rfl rfl ?_; clear hS; intro a hS
            refine Sq.nil ?_
            subst hc0
            have hnb : cb ≠ ub := hH.ne (x := cb) (y := ub) (.cons (by repeat (first | exact .here | apply In.there | apply Put.there | apply Del.there)) (.cons (by repeat (first | exact .here | apply In.there | apply Put.there | apply Del.there)) .nil)) (by intro h; injection h with _ h2 _; revert h2; decide)
            have hnu : ¬ V3.F b ub := (hH.vin hok3 n013 n233 (by repeat (first | exact In.here | refine In.there ?_)) (by repeat (first | exact In.here | refine In.there ?_)) (by repeat (first | exact In.here | refine In.there ?_)) (by repeat (first | exact In.here | refine In.there ?_))).notF (hH.get (b := ub) (by repeat (first | exact In.here | refine In.there ?_))) (by decide) (by decide)
            have hub1 : wB.heap.size ≤ ub := by omega
            have hVSB3 : VS Nobody wB b V3 := fun x hx => by rcases hVS3 x hx with h | h; (rw [hSR] at h; exact hVSB x h); exact .inr (by omega)
            have hbl3 : BL (fun x => V3.F b x ∨ x = ub) w (([] : List Value) ++ [Value.slice (some ⟨cb, 0, none⟩) cx.length ccap]) ([] ++ [cx]) := BL.snoc (.nil) (hBc.bsF (hH.get (b := cb) (by repeat (first | exact In.here | refine In.there ?_))) (fun h => h.elim hnF3 hnb))
            have htk3 : ul.take ([] ++ [cx]).length = ([] : List Value) ++ [Value.slice (some ⟨cb, 0, none⟩) cx.length ccap] := by rw [List.length_append]; have h9 := hut; rw [Nat.mul_one] at h9; exact h9
            have htd3 : Todo wB.heap.size 22 (V3.F b) w (.slice (some ⟨ub, 0, none⟩) ([] ++ [cx]).length ucap) ([] ++ [cx]) := .inr ⟨ub, ucap, ul, rfl, hub1, hnu, hH.get (b := ub) (by repeat (first | exact In.here | refine In.there ?_)), hul, by rw [List.length_append]; exact huc, by rw [htk3]; exact hbl3⟩
            obtain ⟨tdv3, htdv3⟩ : ∃ z : Value, z = .slice (some ⟨ub, 0, none⟩) ([] ++ [cx]).length ucap := ⟨_, rfl⟩
            rw [show Value.slice (some ⟨ub, 0, none⟩) 1 ucap = tdv3 from htdv3.symm] at hS
            rw [← htdv3] at htd3
            have hts3F : ts3 = tsF N ++ slsF lb (q + 1) := by rw [hts3, hts2, slsF_succ, List.append_assoc]; rfl
            have hcs3 : [] ++ [cx] = csF lb N (q + 1) := by rw [csF_succ, ← hcs, hcx2]
            refine blk_n ?_
            refine then_n ?_
            refine reg_plain w0 (SR) ?_
            refine r_move hS hH.kp0 rfl rfl ?_; clear hS; intro a hS
            (first | refine r_add hS hH.kp0 rfl rfl rfl (by omega) ?_ | refine r_addw hS hH.kp0 rfl rfl rfl ?_)
            clear hS; intro a hS
            refine r_assign hS hH.kp0 rfl rfl ?_; clear hS; intro a hS
            refine Sq.nil ?_
            refine then_n ?_
            refine ⟨m - 1, by omega, q + 1, _, V3, ts3, tdv3, [] ++ [cx], by omega, ?_, ⟨hok3, n013, n233, hVSB3⟩, hts3F, hcs3, htd3, hS.live ⟨rfl, rfl, rfl, rfl, rfl, rfl, trivial⟩, hHI.rebase (hH.drop [0, 1, 2, 3]) (fun x hx => by rw [hSR] at hx; exact hVSB x hx)⟩
            omega
        · subst hv0
          have htb0 : ∀ p ∈ ([(ob, .cells l.toArray 26 (0, 0)), (b, .cells (V2.top ts2.length).toArray 71 (0, 0)), (V2.sb, .cells V2.l.toArray 93 (0, 0)), (V2.fb, .map V2.es V2.c), (V2.nb, .map V2.es' V2.c')] : Blocks), p.1 ≠ tb := by intro p hp e; have h8 := hHI.blk p hp; rw [e, htb3] at h8; simp only [List.mem_cons, List.not_mem_nil, or_false] at hp; rcases hp with rfl | rfl | rfl | rfl | rfl <;> simp at h8
          obtain ⟨SR, hSR⟩ : ∃ S : Nat → Prop, S = fun x => V2.F b x ∨ x = tb := ⟨_, rfl⟩
          have hH : Hp w0 SR [(ob, .cells l.toArray 26 (0, 0)), (b, .cells (V2.top ts2.length).toArray 71 (0, 0)), (V2.sb, .cells V2.l.toArray 93 (0, 0)), (V2.fb, .map V2.es V2.c), (V2.nb, .map V2.es' V2.c')] w0 := hHI.fresh
          replace hH := hH.know htb3 htb0
          have hVS2 : VS SR w0 b V2 := fun x hx => .inl (by rw [hSR]; exact .inl hx)
          refine c_seq ?_
          refine c_seq ?_
          refine reg_plain w0 (SR) ?_
          refine r_move hS hH.kp0 rfl rfl ?_; clear hS; intro a hS
          (first | refine r_add hS hH.kp0 rfl rfl rfl (by omega) ?_ | refine r_addw hS hH.kp0 rfl rfl rfl ?_)
          clear hS; intro a hS
          refine r_move hS hH.kp0 rfl rfl ?_; clear hS; intro a hS
          refine r_lss hS hH.kp0 rfl rfl rfl ?_; clear hS; intro a hS
          refine Sq.nil ?_
          refine then_n ?_
          refine c_cond hS rfl (fun hc5 => ?_) (fun hc5 => ?_)
          · have hlt5 := of_decide_eq_true hc5
            have hqN : q + 1 < N := by omega
            refine wp_skip ?_
            refine then_n ?_
            refine c_seq ?_
            refine wp_block ?_
            refine c_seq ?_
            have hu1 : hs[q]? = some (nm (q + 1)) := by rw [hhs]; exact hsF_at (by omega)
            have hu2 : hs[q + 1]? = some (nm (q + 2)) := by rw [hhs]; exact hsF_at (by omega)
            have hrow1 := rd_row h16 htk hu1
            have hrow2 := rd_row h16 htk hu2
            have hlpl : (lb ++ nm (q + 2)).length = lb.length + 16 := by rw [List.length_append, nm_len]
            refine reg_draw [(true, 0, [2, 3, 4, 5]), (true, 1, [2, 3, 4, 5]), (true, 2, [2, 3, 4, 5]), (true, 3, [2, 3, 4, 5]), (true, 4, [2, 3, 4, 5]), (true, 5, [2, 3, 4, 5]), (true, 7, [2, 3, 4, 5]), (true, 9, [2, 3, 4, 5]), (true, 10, [2, 3, 4, 5]), (true, 11, [2, 3, 4, 5]), (true, 12, [2, 3, 4, 5]), (true, 13, [2, 3, 4, 5]), (false, 6, []), (false, 8, []), (false, 14, []), (false, 15, [2, 3, 4, 5]), (true, 16, [2, 3, 4, 5]), (true, 17, [2, 3, 4, 5]), (true, 18, [2, 3, 4, 5]), (true, 19, [2, 3, 4, 5]), (true, 20, [2, 3, 4, 5])] Fc.mixed (by kernel_rfl) (by kernel_rfl) (by kernel_rfl) (keepOk2_ok (by kernel_rfl)) (by kernel_rfl) (by repeat (first | with_reducible exact steady_body | with_reducible apply steady_block | with_reducible apply steady_then | exact steady_body)) hH ?_
            replace hH := hH.drew
            refine r_move hS trivial rfl rfl ?_; clear hS; intro a hS
            refine r_move hS trivial rfl rfl ?_; clear hS; intro a hS
            refine r_move hS trivial rfl rfl ?_; clear hS; intro a hS
            refine r_indexAddrS (j := q) hS trivial rfl rfl Fc.slb32 rfl (by omega) rfl ?_; clear hS; intro a hS
            refine r_load_atS (vs := hcells (nm (q + 1))) hS rfl (by repeat (first | exact In.here | refine In.there ?_)) Fc.ag26 (by rw [Nat.zero_add]; exact hrow1.2) (by rw [Nat.zero_add]; exact hrow1.1) rfl ?_; clear hS; intro a hS
            refine r_move hS trivial rfl rfl ?_; clear hS; intro a hS
            refine r_move hS trivial rfl rfl ?_; clear hS; intro a hS
            refine r_move hS trivial rfl rfl ?_; clear hS; intro a hS
            refine r_move hS trivial rfl rfl ?_; clear hS; intro a hS
            (first | refine r_add hS trivial rfl rfl rfl (by omega) ?_ | refine r_addw hS trivial rfl rfl rfl ?_)
            clear hS; intro a hS
            refine r_indexAddrS (j := q + 1) hS trivial rfl rfl Fc.slb32 (by omega) (by omega) rfl ?_; clear hS; intro a hS
            refine r_slArr hS trivial rfl Fc.ar26 rfl ?_; clear hS; intro a hS
            refine r_buildSlice0 hS hH (by repeat (first | exact Sub.nil | refine Sub.cons ?_ ?_ | exact In.here | refine In.there ?_)) Fc.uls22 Fc.inf5 rfl ?_
            clear hS hH; intro a w b59 hb59 hwb59 hS hH
            refine r_append_own2 (l := []) hS hH rfl rfl (by repeat (first | exact .here | apply In.there | apply Put.there | apply Del.there)) (by repeat (first | exact Sub.nil | refine Sub.cons ?_ ?_ | exact In.here | refine In.there ?_)) Fc.el22 Fc.ni22 rfl (Nat.le_refl _) (hb0.bs.ext (hHI.rebase hH (fun x hx => by rw [hSR] at hx; rcases hx with hx | hx; exact hVSB x hx; exact .inr (by rw [hx]; exact htb1))).mod).src (by omega) hb59 rfl ?_
            clear hS hH; intro a w ob1 cap1 l1 hob1 hl1 hc1_ htk1 _ hS hH
            rw [Nat.zero_add lb.length] at hS hc1_ htk1
            refine r_append_own2 hS hH rfl rfl (by repeat (first | exact .here | apply In.there | apply Put.there | apply Del.there)) (by repeat (first | exact Sub.nil | refine Sub.cons ?_ ?_ | exact In.here | refine In.there ?_)) Fc.el22 Fc.ni22 hl1 hc1_ (BsF.sub (F := Nobody) (b := nm (q + 2)) (hH.get (b := ob) (by repeat (first | exact In.here | refine In.there ?_))) (fun h => h) (by rw [Nat.zero_add]; exact hrow2.1) rfl).bs.src (by rw [nm_len]; omega) hob1 rfl ?_
            clear hS hH; intro a w ob2 cap2 l2 hob2 hl2 hc2 htk2 _ hS hH
            have hVl : ∀ x, V2.F b x → x < w0.heap.size := by intro x hx; rcases hx with rfl | rfl | rfl | rfl; exact lt_of_block (hHI.get (by repeat (first | exact .here | apply In.there | apply Put.there | apply Del.there))); exact lt_of_block (hHI.get (b := V2.sb) (by repeat (first | exact .here | apply In.there | apply Put.there | apply Del.there))); exact lt_of_block (hHI.get (b := V2.fb) (by repeat (first | exact .here | apply In.there | apply Put.there | apply Del.there))); exact lt_of_block (hHI.get (b := V2.nb) (by repeat (first | exact .here | apply In.there | apply Put.there | apply Del.there)))
            have hbp : BsF (V2.F b) w (.slice (some ⟨ob2, 0, none⟩) (lb.length + (nm (q + 2)).length) cap2) (lb ++ nm (q + 2)) := BsF.row (hH.get (b := ob2) .here) (fun h => by have := hVl ob2 h; omega) hl2 hc2 (by rw [htk2, htk1, List.map_append]; rfl) (by rw [List.length_append])
            rcases (by omega : 65536 < (lb ++ nm (q + 2)).length ∨ (lb ++ nm (q + 2)).length ≤ 65536) with hbig | hbig
            · refine r_call (l := [.tmp 53, .tmp 57, .tmp 58, .const (.slice none 0 0), .tmp 67]) hS rfl rfl Fc.fn29 rfl ?_
              refine Calls.mono (Seal_big b V2 ts2 (nm (q + 1)) rfl (q + 1) (by omega) rfl (q : Int) (by omega) (.slice none 0 0) _ [] (lb ++ nm (q + 2)) (by decide) hbig (by omega) _ (hH.vin hok2 n012 n232 (by repeat (first | exact In.here | refine In.there ?_)) (by repeat (first | exact In.here | refine In.there ?_)) (by repeat (first | exact In.here | refine In.there ?_)) (by repeat (first | exact In.here | refine In.there ?_))) (BsF.nil _ _) hbp) ?_
              rintro e w1 ⟨rfl, hE⟩
              replace hH := hH.ext hE
              refine ⟨_, rfl, hH.kp (by repeat (first | exact Sub.nil | refine Sub.cons ?_ ?_ | exact In.here | refine In.there ?_)), ?_⟩
              clear hS; intro a hS
              refine r_move hS trivial rfl rfl ?_; clear hS; intro a hS
              refine r_extract hS trivial rfl rfl rfl ?_; clear hS; intro a hS
              refine r_extract hS trivial rfl rfl rfl ?_; clear hS; intro a hS
              refine r_assign hS trivial rfl rfl ?_; clear hS; intro a hS
              refine r_assign hS trivial rfl rfl ?_; clear hS; intro a hS
              refine Sq.nil ?_
              refine then_n ?_
              refine c_seq ?_
              refine c_seq ?_
              refine reg_plain w0 (SR) ?_
              refine r_move hS hH.kp0 rfl rfl ?_; clear hS; intro a hS
              refine r_neq hS hH.kp0 rfl rfl rfl ?_; clear hS; intro a hS
              refine Sq.nil ?_
              refine then_n ?_
              refine c_condT hS rfl rfl ?_
              refine c_seq ?_
              refine reg_plain w0 (SR) ?_
              refine r_move hS hH.kp0 rfl rfl ?_; clear hS; intro a hS
              refine r_lenSl hS hH.kp0 rfl Fc.isSlice22 rfl ?_; clear hS; intro a hS
              refine r_gtr hS hH.kp0 rfl rfl rfl ?_; clear hS; intro a hS
              rw [show decide ((lb.length : Int) > 65520) = true from DT (by omega)] at hS
              refine r_assign hS hH.kp0 rfl rfl ?_; clear hS; intro a hS
              refine Sq.nil ?_
              refine then_n ?_
              refine wp_ret ?_
              refine then_r ?_
              refine blk_r ?_
              refine then_r ?_
              refine then_r ?_
              refine blk_r ?_
              refine then_r ?_
              exact leave (.inl rfl) hS rfl (Res.tmp rfl Res.nil) ⟨rfl, (hHI.rebase hH (fun x hx => by rw [hSR] at hx; rcases hx with hx | hx; exact hVSB x hx; exact .inr (by rw [hx]; exact htb1))).mod⟩
            · refine r_call (l := [.tmp 53, .tmp 57, .tmp 58, .const (.slice none 0 0), .tmp 67]) hS rfl rfl Fc.fn29 rfl ?_
              refine Calls.mono (Seal_v b V2 ts2 (nm (q + 1)) rfl (q + 1) (by omega) rfl (q : Int) (by omega) (.slice none 0 0) _ [] (lb ++ nm (q + 2)) (by decide) hbig (by omega) _ (hH.vin hok2 n012 n232 (by repeat (first | exact In.here | refine In.there ?_)) (by repeat (first | exact In.here | refine In.there ?_)) (by repeat (first | exact In.here | refine In.there ?_)) (by repeat (first | exact In.here | refine In.there ?_))) (BsF.nil _ _) hbp) ?_
              rintro e w1 ⟨cb, ccap, ki, ccl, V3, ts3, rfl, hcb, hcbk, hBc, hvi3, hst, hmd⟩
              have hlc2 := lt_of_block (hH.get (b := ob2) (by repeat (first | exact .here | apply In.there | apply Put.there | apply Del.there)))
              have hlct := lt_of_block (hH.get (b := tb) (by repeat (first | exact .here | apply In.there | apply Put.there | apply Del.there)))
              obtain ⟨rfl, hts3⟩ := hmd.new (by rw [hts2]; exact selF_notin)
              have hVS3 := hVS2.step hst hH.mod.size
              replace hH := hH.vault hVS2 hst hvi3 (by first | exact .here | exact .there .here | exact .there (.there .here) | exact .there (.there (.there .here)) | exact .there (.there (.there (.there .here))) | exact .there (.there (.there (.there (.there .here)))) | exact .there (.there (.there (.there (.there (.there .here))))) | exact .there (.there (.there (.there (.there (.there (.there .here)))))) | exact .there (.there (.there (.there (.there (.there (.there (.there .here))))))) | exact .there (.there (.there (.there (.there (.there (.there (.there (.there .here)))))))) | exact .there (.there (.there (.there (.there (.there (.there (.there (.there (.there .here))))))))) | exact .there (.there (.there (.there (.there (.there (.there (.there (.there (.there (.there .here)))))))))) | exact .there (.there (.there (.there (.there (.there (.there (.there (.there (.there (.there (.there .here))))))))))) | exact .there (.there (.there (.there (.there (.there (.there (.there (.there (.there (.there (.there (.there .here)))))))))))) | exact .there (.there (.there (.there (.there (.there (.there (.there (.there (.there (.there (.there (.there (.there .here))))))))))))) | exact .there (.there (.there (.there (.there (.there (.there (.there (.there (.there (.there (.there (.there (.there (.there .here)))))))))))))))
              have hok3 := hvi3.ok
              have n013 := hvi3.n01
              have n233 := hvi3.n23
              have hnF3 : ¬ V3.F b cb := hvi3.notF hcbk (by decide) (by decide)
              replace hH := hH.know hcbk (by intro p hp e; have h8 := hH.blk p hp; rw [e, hcbk] at h8; simp only [List.mem_cons, List.not_mem_nil, or_false] at hp; rcases hp with rfl | rfl | rfl | rfl | rfl | rfl | rfl <;> dsimp only at e <;> first | omega | (simp at h8))
              have hcx : List.replicate (lb ++ nm (q + 2)).length 0 ++ nm ts2.length = List.replicate (lb.length + 16) 0 ++ nm (N + 1 + q) := by rw [hlpl, htl2]
              rw [hcx] at hBc
              have hcxl : (lb ++ nm (q + 2)).length + 16 = (List.replicate (lb.length + 16) 0 ++ nm (N + 1 + q) : List UInt8).length := by rw [hlpl, List.length_append, List.length_replicate, nm_len]
              rw [hcxl]
              obtain ⟨cx, hcx2⟩ : ∃ z : List UInt8, z = List.replicate (lb.length + 16) 0 ++ nm (N + 1 + q) := ⟨_, rfl⟩
              rw [← hcx2] at hBc ⊢
              refine ⟨_, rfl, hH.kp (by repeat (first | exact Sub.nil | refine Sub.cons ?_ ?_ | exact In.here | refine In.there ?_)), ?_⟩
              clear hS; intro a hS
              refine r_move hS trivial rfl rfl ?_; clear hS; intro a hS
              refine r_extract hS trivial rfl rfl rfl ?_; clear hS; intro a hS
              refine r_extract hS trivial rfl rfl rfl ?_; clear hS; intro a hS
              refine r_assign hS trivial rfl rfl ?_; clear hS; intro a hS
              refine r_assign hS trivial rfl rfl ?_; clear hS; intro a hS
              refine Sq.nil ?_
              refine then_n ?_
              refine c_seq ?_
              refine c_seq ?_
              refine reg_plain w0 (SR) ?_
              refine r_move hS hH.kp0 rfl rfl ?_; clear hS; intro a hS
              refine r_neq hS hH.kp0 rfl rfl rfl ?_; clear hS; intro a hS
              refine Sq.nil ?_
              refine then_n ?_
              refine c_condF hS rfl rfl ?_
              refine wp_skip ?_
              refine then_n ?_
              refine reg_plain w0 (SR) ?_
              refine r_move hS hH.kp0 rfl rfl ?_; clear hS; intro a hS
              refine r_move hS hH.kp0 rfl rfl ?_; clear hS; intro a hS
              refine r_buildSlice (parts := [(0, .tmp 77)]) hS hH (by repeat (first | exact Sub.nil | refine Sub.cons ?_ ?_ | exact In.here | refine In.there ?_)) rfl Fc.bsl60_1 (by rfl) rfl ?_
              clear hS hH; intro a w b78 hb78 hwb78 hS hH
              have h94 := hH.get (b := b78) (o := .cells ([Value.slice (some ⟨cb, 0, none⟩) cx.length ccap] : List Value).toArray 22 (0, 0)) .here
              have hs94 : Sl 1 w (.slice (some ⟨b78, 0, none⟩) 1 1) [Value.slice (some ⟨cb, 0, none⟩) cx.length ccap] 1 (some ⟨b78, 0, none⟩) 1 := Sl.of_block (es := 1) (m := 1) (cap := 1) h94 (Nat.le_refl 1) (Nat.le_refl 1)
              refine r_append_own hS hH rfl rfl (by repeat (first | exact .here | apply In.there | apply Put.there | apply Del.there)) (by repeat (first | exact Sub.nil | refine Sub.cons ?_ ?_ | exact In.here | refine In.there ?_)) Fc.el60 Fc.ni60 htl1 htl2_ (hs94.src (by intro z hz; rw [List.mem_singleton.1 hz]; rfl)) (by omega) (.inl (by rw [hSR]; exact .inr rfl)) rfl ?_
              clear hS hH; intro a w ub ucap ul hub hul huc hut hum hS hH
              refine r_assign hS hH.kp0 rfl rfl ?_; clear hS; intro a hS
              refine Sq.nil ?_
              have hnb : cb ≠ ub := hH.ne (x := cb) (y := ub) (.cons (by repeat (first | exact .here | apply In.there | apply Put.there | apply Del.there)) (.cons (by repeat (first | exact .here | apply In.there | apply Put.there | apply Del.there)) .nil)) (by intro h; injection h with _ h2 _; revert h2; decide)
              have hnu : ¬ V3.F b ub := (hH.vin hok3 n013 n233 (by repeat (first | exact In.here | refine In.there ?_)) (by repeat (first | exact In.here | refine In.there ?_)) (by repeat (first | exact In.here | refine In.there ?_)) (by repeat (first | exact In.here | refine In.there ?_))).notF (hH.get (b := ub) (by repeat (first | exact In.here | refine In.there ?_))) (by decide) (by decide)
              have hub1 : wB.heap.size ≤ ub := by rcases hub with h | h; (rw [hSR] at h; rcases h with h | h; exact (hVSB ub h).resolve_left (fun h => h); rw [h]; exact htb1); omega
              have hVSB3 : VS Nobody wB b V3 := fun x hx => by rcases hVS3 x hx with h | h; (rw [hSR] at h; rcases h with h | h; exact hVSB x h; exact .inr (by rw [h]; exact htb1)); exact .inr (by omega)
              have hbl3 : BL (fun x => V3.F b x ∨ x = ub) w (tl.take cs.length ++ [Value.slice (some ⟨cb, 0, none⟩) cx.length ccap]) (cs ++ [cx]) := BL.snoc (htbl.go (hSR ▸ hH.mod) (fun x hx => by rcases hx with hx | hx; (rcases hVS3 x hx with h | h; exact .inl (by rw [hSR] at h; exact h); exact .inr h); (rw [hx]; rcases hub with h | h; exact .inl (by rw [hSR] at h; exact h); exact .inr h))) (hBc.bsF (hH.get (b := cb) (by repeat (first | exact In.here | refine In.there ?_))) (fun h => h.elim hnF3 hnb))
              have htk3 : ul.take (cs ++ [cx]).length = tl.take cs.length ++ [Value.slice (some ⟨cb, 0, none⟩) cx.length ccap] := by rw [List.length_append]; have h9 := hut; rw [Nat.mul_one, Nat.mul_one] at h9; exact h9
              have htd3 : Todo wB.heap.size 22 (V3.F b) w (.slice (some ⟨ub, 0, none⟩) (cs ++ [cx]).length ucap) (cs ++ [cx]) := .inr ⟨ub, ucap, ul, rfl, hub1, hnu, hH.get (b := ub) (by repeat (first | exact In.here | refine In.there ?_)), hul, by rw [List.length_append]; exact huc, by rw [htk3]; exact hbl3⟩
              obtain ⟨tdv3, htdv3⟩ : ∃ z : Value, z = .slice (some ⟨ub, 0, none⟩) (cs ++ [cx]).length ucap := ⟨_, rfl⟩
              rw [show (cs.length + 1 : Nat) = (cs ++ [cx]).length from by rw [List.length_append]; rfl, ← htdv3] at hS
              rw [← htdv3] at htd3
              have hts3F : ts3 = tsF N ++ slsF lb (q + 1) := by rw [hts3, hts2, slsF_succ, List.append_assoc]; rfl
              have hcs3 : cs ++ [cx] = csF lb N (q + 1) := by rw [csF_succ, ← hcs, hcx2]
              refine blk_n ?_
              refine then_n ?_
              refine reg_plain w0 (SR) ?_
              refine r_move hS hH.kp0 rfl rfl ?_; clear hS; intro a hS
              (first | refine r_add hS hH.kp0 rfl rfl rfl (by omega) ?_ | refine r_addw hS hH.kp0 rfl rfl rfl ?_)
              clear hS; intro a hS
              refine r_assign hS hH.kp0 rfl rfl ?_; clear hS; intro a hS
              refine Sq.nil ?_
              refine then_n ?_
              refine ⟨m - 1, by omega, q + 1, _, V3, ts3, tdv3, cs ++ [cx], by omega, ?_, ⟨hok3, n013, n233, hVSB3⟩, hts3F, hcs3, htd3, hS.live ⟨rfl, rfl, rfl, rfl, rfl, rfl, trivial⟩, hHI.rebase (hH.drop [0, 1, 2, 3]) (fun x hx => by rw [hSR] at hx; rcases hx with hx | hx; exact hVSB x hx; exact .inr (by rw [hx]; exact htb1))⟩
              omega
          · have hge5 := of_decide_eq_false hc5
            have hq1 : q + 1 = N := by omega
            refine wp_exit ?_
            refine then_e ?_
            refine then_e ?_
            refine blk_hit ?_
            refine then_n ?_
            refine c_seq ?_
            have hllc : ∀ x ∈ cs, x.length ≤ 1099511627776 := by rw [hcs]; intro x hx; obtain ⟨q9, _, rfl⟩ := csF_mem hx; rw [List.length_append, List.length_replicate, nm_len]; omega
            have hll2 : ∀ x ∈ cs ++ [nm 1], x.length ≤ 1099511627776 := by intro x hx; rcases List.mem_append.1 hx with hx | hx; exact hllc x hx; rw [List.mem_singleton.1 hx, nm_len]; decide
            have hcl1 : (cs ++ [nm 1]).length ≤ 1048576 := by rw [List.length_append]; show cs.length + 1 ≤ _; omega
            have hu9 : hs[N - 1]? = some (nm N) := by rw [hhs, hsF_at (by omega), show N - 1 + 1 = N by omega]
            have hu0 : hs[0]? = some (nm 1) := by rw [hhs]; exact hsF_at (by omega)
            have hrow9 := rd_row h16 htk hu9
            have hrow0 := rd_row h16 htk hu0
            have hbl0 : ∀ w9, Mod SR w0 w9 → BL Nobody w9 (tl.take cs.length) cs := fun w9 k9 => htbl.go (hSR ▸ k9) (fun x hx => hx.elim)
            have hcl5 : Clos6 ts2 cs (fun j => j = 0 ∨ N + 1 ≤ j) := by rw [hts2, hcs]; exact clos_seals (by omega) (by omega)
            refine reg_draw [(true, 0, [0]), (true, 1, [0]), (true, 2, [0]), (true, 3, [0]), (true, 4, [0]), (true, 5, [0]), (true, 6, [0]), (false, 7, []), (true, 8, [0]), (true, 9, [0]), (true, 10, [0]), (true, 11, [0]), (true, 12, [0]), (true, 13, [0]), (true, 14, [0]), (true, 15, [0]), (true, 16, [0]), (true, 17, [0]), (true, 18, [0]), (false, 19, []), (false, 20, [0]), (false, 21, [0]), (true, 22, [0]), (true, 23, [0]), (true, 24, [0]), (true, 25, [0]), (true, 26, [0]), (true, 27, [0]), (true, 28, [0]), (true, 29, [0]), (true, 34, [0]), (true, 35, [0]), (false, 30, [0]), (false, 31, [0]), (false, 32, [0]), (true, 33, [0]), (true, 36, [0]), (true, 37, [0]), (true, 38, [0]), (true, 39, [0]), (true, 40, [0]), (false, 41, [0]), (true, 42, [0]), (true, 43, [0]), (true, 44, [0]), (true, 45, [0])] Fc.mixed (by kernel_rfl) (by kernel_rfl) (by kernel_rfl) (keepOk2_ok (by kernel_rfl)) (by kernel_rfl) (by repeat (first | with_reducible exact steady_body | with_reducible apply steady_block | with_reducible apply steady_then | exact steady_body)) hH ?_
            replace hH := hH.drew
            refine r_move hS trivial rfl rfl ?_; clear hS; intro a hS
            refine r_move hS trivial rfl rfl ?_; clear hS; intro a hS
            refine r_move hS trivial rfl rfl ?_; clear hS; intro a hS
            (first | refine r_sub hS trivial rfl rfl rfl (by omega) ?_ | refine r_subw hS trivial rfl rfl rfl ?_)
            clear hS; intro a hS
            refine r_indexAddrS (j := N - 1) hS trivial rfl rfl Fc.slb32 (by omega) (by omega) rfl ?_; clear hS; intro a hS
            refine r_slArr hS trivial rfl Fc.ar26 rfl ?_; clear hS; intro a hS
            refine r_move hS trivial rfl rfl ?_; clear hS; intro a hS
            refine r_call (l := [.tmp 80, .tmp 85, .tmp 86]) hS rfl rfl Fc.fn28 rfl ?_
            refine Calls.mono (Hidden6_v b V2 ts2 (by omega) hwf2 (by omega) _ _ (nm N) (by rw [nm_len]; decide) (cs) hllc (by rw [hcl]; omega) _ (hH.vin hok2 n012 n232 (by repeat (first | exact In.here | refine In.there ?_)) (by repeat (first | exact In.here | refine In.there ?_)) (by repeat (first | exact In.here | refine In.there ?_)) (by repeat (first | exact In.here | refine In.there ?_))) (BsF.sub (F := Nobody) (b := nm N) (hH.get (b := ob) (by repeat (first | exact In.here | refine In.there ?_))) (fun h => h) (by rw [Nat.zero_add]; exact hrow9.1) rfl).bs (seenG hH (by repeat (first | exact In.here | refine In.there ?_)) htl2_ rfl htl1 (hbl0 _ hH.mod))) ?_
            rintro e w1 ⟨r1, K1, rfl, hKN1, hHR1, hE⟩
            replace hH := hH.ext hE
            have hr1 : r1 = true := by
              cases r1
              · have h6 := hKN1.least _ hcl5 N (hHR1.no rfl N (by omega) (hasN_self N)); exact absurd h6 (by show ¬ (N = 0 ∨ N + 1 ≤ N); omega)
              · rfl
            subst hr1
            refine ⟨_, rfl, hH.kp (by repeat (first | exact Sub.nil | refine Sub.cons ?_ ?_ | exact In.here | refine In.there ?_)), ?_⟩
            clear hS; intro a hS
            refine r_move hS trivial rfl rfl ?_; clear hS; intro a hS
            refine Sq.guardYes hS rfl rfl rfl ?_
            refine r_move hS trivial rfl rfl ?_; clear hS; intro a hS
            refine Sq.guardYes hS rfl rfl rfl ?_
            refine r_move hS trivial rfl rfl ?_; clear hS; intro a hS
            refine Sq.guardYes hS rfl rfl rfl ?_
            refine r_move hS trivial rfl rfl ?_; clear hS; intro a hS
            refine Sq.guardYes hS rfl rfl rfl ?_
            (first | refine r_sub hS trivial rfl rfl rfl (by omega) ?_ | refine r_subw hS trivial rfl rfl rfl ?_)
            clear hS; intro a hS
            refine Sq.guardYes hS rfl rfl rfl ?_
            refine r_indexAddrS (j := N - 1) hS trivial rfl rfl Fc.slb32 (by omega) (by omega) rfl ?_; clear hS; intro a hS
            refine Sq.guardYes hS rfl rfl rfl ?_
            refine r_slArr hS trivial rfl Fc.ar26 rfl ?_; clear hS; intro a hS
            refine Sq.guardYes hS rfl rfl rfl ?_
            refine r_move hS trivial rfl rfl ?_; clear hS; intro a hS
            refine Sq.guardYes hS rfl rfl rfl ?_
            refine r_move hS trivial rfl rfl ?_; clear hS; intro a hS
            refine Sq.guardYes hS rfl rfl rfl ?_
            refine r_indexAddrS (j := 0) hS trivial rfl rfl Fc.slb32 rfl (by omega) rfl ?_; clear hS; intro a hS
            refine Sq.guardYes hS rfl rfl rfl ?_
            refine r_slArr hS trivial rfl Fc.ar26 rfl ?_; clear hS; intro a hS
            refine Sq.guardYes hS rfl rfl rfl ?_
            refine r_buildSlice (parts := [(0, .tmp 98)]) hS hH (by repeat (first | exact Sub.nil | refine Sub.cons ?_ ?_ | exact In.here | refine In.there ?_)) rfl Fc.bsl60_1 (by rfl) rfl ?_
            clear hS hH; intro a w b99 hb99 hwb99 hS hH
            refine Sq.guardYes hS rfl rfl rfl ?_
            have h94 := hH.get (b := b99) (o := .cells ([Value.slice (some ⟨ob, 0 + 0 * 16, none⟩) 16 16] : List Value).toArray 22 (0, 0)) .here
            have hs94 : Sl 1 w (.slice (some ⟨b99, 0, none⟩) 1 1) [Value.slice (some ⟨ob, 0 + 0 * 16, none⟩) 16 16] 1 (some ⟨b99, 0, none⟩) 1 := Sl.of_block (es := 1) (m := 1) (cap := 1) h94 (Nat.le_refl 1) (Nat.le_refl 1)
            refine r_append_keep (k := 1) (new := [Value.slice (some ⟨ob, 0 + 0 * 16, none⟩) 16 16]) hS hH rfl rfl (by intro _; repeat (first | exact .here | apply Put.there)) (by intro _; repeat (first | exact Sub.nil | refine Sub.cons ?_ ?_ | exact In.here | refine In.there ?_)) Fc.el60 Fc.ni60 htl1 htl2_ (hs94.src (by intro z hz; rw [List.mem_singleton.1 hz]; rfl)) (by omega) (.inl (by rw [hSR]; exact .inr rfl)) rfl ?_
            clear hS hH; intro a w ub9 ucub9 tl9 hsl_ub9 ht_ub9 hl_ub9 hm_ub9 hS hH
            have hs_ub9 : SlG Nobody w (.slice (some ⟨ub9, 0, none⟩) (cs.length + 1) ucub9) (cs ++ [nm 1]) := SlG.of_sl hsl_ub9 (by rw [List.length_append]; rfl) (by rw [Nat.mul_one]; exact BL.snoc (hbl0 w hH.mod) (BsF.sub (b := nm 1) (hH.get (b := ob) (by repeat (first | exact In.here | refine In.there ?_))) (fun h => h) (by rw [Nat.zero_mul, Nat.add_zero]; simpa using hrow0.1) rfl))
            have htk_tl9 : tl9.take cs.length = tl.take cs.length := by have h9 := ht_ub9; rw [Nat.mul_one] at h9; exact h9
            refine Sq.guardYes hS rfl rfl rfl ?_
            refine r_call (l := [.tmp 89, .tmp 94, .tmp 100]) hS rfl rfl Fc.fn28 rfl ?_
            refine Calls.mono (Hidden6_v b V2 ts2 (by omega) hwf2 (by omega) _ _ (nm N) (by rw [nm_len]; decide) (cs ++ [nm 1]) hll2 hcl1 _ (hH.vin hok2 n012 n232 (by repeat (first | exact In.here | refine In.there ?_)) (by repeat (first | exact In.here | refine In.there ?_)) (by repeat (first | exact In.here | refine In.there ?_)) (by repeat (first | exact In.here | refine In.there ?_))) (BsF.sub (F := Nobody) (b := nm N) (hH.get (b := ob) (by repeat (first | exact In.here | refine In.there ?_))) (fun h => h) (by rw [Nat.zero_add]; exact hrow9.1) rfl).bs hs_ub9) ?_
            rintro e w1 ⟨r2, K2, rfl, hKN2, hHR2, hE⟩
            replace hH := hH.ext hE
            have hr2 : r2 = false := by
              cases r2
              · rfl
              · obtain ⟨z, hz, hno⟩ := hHR2.yes rfl
                have hz0 : z = 0 := by rw [nm_len] at hz; omega
                subst hz0
                have h9 := hKN2; rw [hts2, hcs] at h9
                have h8 := chain_all hq1 h9 (N - 1) (by omega)
                rw [show N - 1 + 1 = N by omega] at h8
                exact absurd h8 (hno N (by omega) (by rw [List.drop_zero, List.take_of_length_le (by rw [nm_len]; omega)]))
            subst hr2
            refine ⟨_, rfl, hH.kp (by repeat (first | exact Sub.nil | refine Sub.cons ?_ ?_ | exact In.here | refine In.there ?_)), ?_⟩
            clear hS; intro a hS
            refine Sq.guardYes hS rfl rfl rfl ?_
            refine r_not hS trivial rfl rfl ?_; clear hS; intro a hS
            refine r_pickT hS trivial rfl rfl rfl rfl ?_; clear hS; intro a hS
            refine r_move hS trivial rfl rfl ?_; clear hS; intro a hS
            refine Sq.guardYes hS rfl rfl rfl ?_
            refine r_move hS trivial rfl rfl ?_; clear hS; intro a hS
            refine Sq.guardYes hS rfl rfl rfl ?_
            refine r_move hS trivial rfl rfl ?_; clear hS; intro a hS
            refine Sq.guardYes hS rfl rfl rfl ?_
            refine r_move hS trivial rfl rfl ?_; clear hS; intro a hS
            refine Sq.guardYes hS rfl rfl rfl ?_
            refine r_indexAddrS (j := 0) hS trivial rfl rfl Fc.slb32 rfl (by omega) rfl ?_; clear hS; intro a hS
            refine Sq.guardYes hS rfl rfl rfl ?_
            refine r_slArr hS trivial rfl Fc.ar26 rfl ?_; clear hS; intro a hS
            refine Sq.guardYes hS rfl rfl rfl ?_
            refine r_move hS trivial rfl rfl ?_; clear hS; intro a hS
            refine Sq.guardYes hS rfl rfl rfl ?_
            (first | refine r_sub hS trivial rfl rfl rfl (by omega) ?_ | refine r_subw hS trivial rfl rfl rfl ?_)
            clear hS; intro a hS
            refine Sq.guardYes hS rfl rfl rfl ?_
            refine r_buildSlice (parts := [(0, .tmp 109)]) hS hH (by repeat (first | exact Sub.nil | refine Sub.cons ?_ ?_ | exact In.here | refine In.there ?_)) rfl Fc.bsl60_1 (by rfl) rfl ?_
            clear hS hH; intro a w b110 hb110 hwb110 hS hH
            refine Sq.guardYes hS rfl rfl rfl ?_
            have h94 := hH.get (b := b110) (o := .cells ([Value.slice (some ⟨ob, 0 + 0 * 16, none⟩) 16 16] : List Value).toArray 22 (0, 0)) .here
            have hs94 : Sl 1 w (.slice (some ⟨b110, 0, none⟩) 1 1) [Value.slice (some ⟨ob, 0 + 0 * 16, none⟩) 16 16] 1 (some ⟨b110, 0, none⟩) 1 := Sl.of_block (es := 1) (m := 1) (cap := 1) h94 (Nat.le_refl 1) (Nat.le_refl 1)
            refine r_append_keep (k := 1) (new := [Value.slice (some ⟨ob, 0 + 0 * 16, none⟩) 16 16]) hS hH rfl rfl (by intro _; repeat (first | exact .here | apply Put.there)) (by intro _; repeat (first | exact Sub.nil | refine Sub.cons ?_ ?_ | exact In.here | refine In.there ?_)) Fc.el60 Fc.ni60 (hl_ub9.trans htl1) htl2_ (hs94.src (by intro z hz; rw [List.mem_singleton.1 hz]; rfl)) (by omega) (.inl (by rw [hSR]; exact .inr rfl)) rfl ?_
            clear hS hH; intro a w ub8 ucub8 tl8 hsl_ub8 ht_ub8 hl_ub8 hm_ub8 hS hH
            have hs_ub8 : SlG Nobody w (.slice (some ⟨ub8, 0, none⟩) (cs.length + 1) ucub8) (cs ++ [nm 1]) := SlG.of_sl hsl_ub8 (by rw [List.length_append]; rfl) (by rw [Nat.mul_one, htk_tl9]; exact BL.snoc (hbl0 w hH.mod) (BsF.sub (b := nm 1) (hH.get (b := ob) (by repeat (first | exact In.here | refine In.there ?_))) (fun h => h) (by rw [Nat.zero_mul, Nat.add_zero]; simpa using hrow0.1) rfl))
            have htk_tl8 : tl8.take cs.length = tl.take cs.length := by have h9 := ht_ub8; rw [Nat.mul_one] at h9; exact h9.trans htk_tl9
            refine Sq.guardYes hS rfl rfl rfl ?_
            refine r_call (l := [.tmp 105, .tmp 111]) hS rfl rfl Fc.fn30 rfl ?_
            refine Calls.mono (Spied6_v b V2 ts2 (by omega) hwf2 (by omega) _ (cs ++ [nm 1]) hll2 hcl1 _ (hH.vin hok2 n012 n232 (by repeat (first | exact In.here | refine In.there ?_)) (by repeat (first | exact In.here | refine In.there ?_)) (by repeat (first | exact In.here | refine In.there ?_)) (by repeat (first | exact In.here | refine In.there ?_))) hs_ub8) ?_
            rintro e w1 ⟨K3, v3, rfl, hKN3, htd9, hE⟩
            replace hH := hH.ext hE
            have hsn : (spL ts2 K3 ts2.length).length = q := by have h9 := hKN3; rw [hts2, hcs] at h9; rw [hts2]; exact spied_all hq1 h9
            obtain ⟨p3, c3, hv3⟩ := htd9.val
            rw [hsn] at hv3
            subst hv3
            refine ⟨_, rfl, hH.kp (by repeat (first | exact Sub.nil | refine Sub.cons ?_ ?_ | exact In.here | refine In.there ?_)), ?_⟩
            clear hS; intro a hS
            refine Sq.guardYes hS rfl rfl rfl ?_
            refine r_lenSl hS trivial rfl Fc.isSlice60 rfl ?_; clear hS; intro a hS
            refine Sq.guardYes hS rfl rfl rfl ?_
            refine r_eql hS trivial rfl rfl rfl ?_; clear hS; intro a hS
            rw [show ((q : Int) == (N : Int) - 1) = true from beq_iff_eq.2 (by omega)] at hS
            refine r_pickT hS trivial rfl rfl rfl rfl ?_; clear hS; intro a hS
            refine r_move hS trivial rfl rfl ?_; clear hS; intro a hS
            refine Sq.guardYes hS rfl rfl rfl ?_
            refine r_move hS trivial rfl rfl ?_; clear hS; intro a hS
            refine Sq.guardYes hS rfl rfl rfl ?_
            refine r_move hS trivial rfl rfl ?_; clear hS; intro a hS
            refine Sq.guardYes hS rfl rfl rfl ?_
            refine r_call (l := [.tmp 119, .tmp 120]) hS rfl rfl Fc.fn30 rfl ?_
            refine Calls.mono (Spied6_v b V2 ts2 (by omega) hwf2 (by omega) _ cs hllc (by rw [hcl]; omega) _ (hH.vin hok2 n012 n232 (by repeat (first | exact In.here | refine In.there ?_)) (by repeat (first | exact In.here | refine In.there ?_)) (by repeat (first | exact In.here | refine In.there ?_)) (by repeat (first | exact In.here | refine In.there ?_))) (seenG hH (by repeat (first | exact In.here | refine In.there ?_)) htl2_ htk_tl8 (hl_ub8.trans (hl_ub9.trans htl1)) (hbl0 _ hH.mod))) ?_
            rintro e w1 ⟨K4, v4, rfl, hKN4, htd4, hE⟩
            replace hH := hH.ext hE
            have hsn4 : spL ts2 K4 ts2.length = [] := by have h9 := hKN4; rw [hts2, hcs] at h9; rw [hts2]; exact spied_none (by omega) (by omega) h9
            rw [hsn4] at htd4
            obtain ⟨p4, c4, hv4⟩ := htd4.val
            subst hv4
            refine ⟨_, rfl, hH.kp (by repeat (first | exact Sub.nil | refine Sub.cons ?_ ?_ | exact In.here | refine In.there ?_)), ?_⟩
            clear hS; intro a hS
            refine Sq.guardYes hS rfl rfl rfl ?_
            refine r_lenSl hS trivial rfl Fc.isSlice60 rfl ?_; clear hS; intro a hS
            refine Sq.guardYes hS rfl rfl rfl ?_
            refine r_eql hS trivial rfl rfl rfl ?_; clear hS; intro a hS
            refine r_pickT hS trivial rfl rfl rfl rfl ?_; clear hS; intro a hS
            refine r_assign hS trivial rfl rfl ?_; clear hS; intro a hS
            refine Sq.nil ?_
            refine then_n ?_
            refine wp_ret ?_
            exact leave (.inl rfl) hS rfl (Res.tmp rfl Res.nil) ⟨rfl, (hHI.rebase hH (fun x hx => by rw [hSR] at hx; rcases hx with hx | hx; exact hVSB x hx; exact .inr (by rw [hx]; exact htb1))).mod⟩

end Go.Proofs.Ytcjmehononbadaa
