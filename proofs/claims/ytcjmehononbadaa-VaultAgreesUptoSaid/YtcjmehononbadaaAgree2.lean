/- VaultAgrees: two secrets agree from both sides, a third one does not; a signature is its secret's alone. Part Agree2: walks and lemmas of the proof. -/
import Derived.Test.YtcjmehononbadaaAgree1
namespace Go.Proofs.Ytcjmehononbadaa
open Go.Sym

theorem Fc.bsl22_1 : bslB Try.prog 22 1 = some (5, 1, [.int .u8 0]) := by kernel_rfl
theorem Fc.bsl60_2 : bslB Try.prog 60 2 = some (22, 1, [.slice none 0 0, .slice none 0 0]) := by kernel_rfl
theorem Fc.fn11 : isFn Try.prog 11 = true := by kernel_rfl
theorem Fc.fn14 : isFn Try.prog 14 = true := by kernel_rfl
theorem Fc.fn28 : isFn Try.prog 28 = true := by kernel_rfl
theorem Fc.fn42 : isFn Try.prog 42 = true := by kernel_rfl
theorem Fc.fn43 : isFn Try.prog 43 = true := by kernel_rfl
theorem Fc.fn44 : isFn Try.prog 44 = true := by kernel_rfl
theorem Fc.fn45 : isFn Try.prog 45 = true := by kernel_rfl
theorem Fc.inf5 : (Try.prog.info? 5).isSome = true := by kernel_rfl
theorem Fc.uls22 : Try.prog.underlying 22 = some (.slice 5) := by kernel_rfl
set_option maxRecDepth 100000 in
set_option maxHeartbeats 8000000 in
theorem agrees_law (va : Value) (la : List UInt8) (hA : la.length ≤ 1048576) (w0 : World) (hb0 : BsF Nobody w0 va la) : Calls Try.prog 8 #[va] w0 fun e w' => e = .returned (.bool true) ∧ Ext w0 w' := by
  refine enter Try.func8 rfl rfl rfl ?_
  intro a hS
  have hH := Hp.start w0 (Nobody)
  have hxa := hb0.bs
  obtain ⟨qa, qca, hsla⟩ := hxa
  have hva := hsla.val
  subst hva
  refine c_seq ?_
  refine reg_plain w0 (Nobody) ?_
  refine r_assign hS hH.kp0 rfl rfl ?_; clear hS; intro a hS
  refine Sq.nil ?_
  refine then_n ?_
  refine c_seq ?_
  refine reg_plain w0 (Nobody) ?_
  refine r_call (l := []) hS rfl rfl Fc.fn11 rfl ?_
  refine Calls.mono (New_c _) ?_
  rintro e w1 ⟨b, V, rfl, hvi, hE, hVF⟩
  have hsz := hH.mod.size
  have hVS : VS Nobody w0 b V := fun x hx => .inr (Nat.le_trans hsz (hVF x hx))
  replace hH := (hH.ext hE).knowV hvi (by intro p hp; simp at hp)
  obtain ⟨ts, hts⟩ : ∃ ts, ts = [rootT] := ⟨_, rfl⟩
  rw [← hts] at hvi hH
  have hok := hvi.ok
  have n01 := hvi.n01
  have n23 := hvi.n23
  have htl : ts.length = 1 := by rw [hts]; rfl
  have hwf : Wf ts := by rw [hts]; exact Wf.root
  refine ⟨_, rfl, hH.kp0, ?_⟩
  clear hS; intro a hS
  refine r_assign hS hH.kp0 rfl rfl ?_; clear hS; intro a hS
  refine Sq.nil ?_
  refine then_n ?_
  refine c_seq ?_
  refine c_seq ?_
  refine reg_plain w0 (Nobody) ?_
  refine r_move hS hH.kp0 rfl rfl ?_; clear hS; intro a hS
  refine r_ptrNil hS hH.kp0 rfl Fc.isPtr23 rfl ?_; clear hS; intro a hS
  refine Sq.nil ?_
  refine then_n ?_
  refine c_condF hS rfl rfl ?_
  refine wp_skip ?_
  refine then_n ?_
  refine c_seq ?_
  refine reg_plain w0 (Nobody) ?_
  refine r_move hS hH.kp0 rfl rfl ?_; clear hS; intro a hS
  refine r_call (l := [.tmp 22]) hS rfl rfl Fc.fn14 rfl ?_
  refine Calls.mono (Fresh_v b V ts (by omega) _ (hH.vin hok n01 n23 (by repeat (first | exact In.here | refine In.there ?_)) (by repeat (first | exact In.here | refine In.there ?_)) (by repeat (first | exact In.here | refine In.there ?_)) (by repeat (first | exact In.here | refine In.there ?_)))) ?_
  rintro e w1 ⟨h, V1, rfl, hnx, hvi1, hst⟩
  obtain ⟨x0, x1, x2, x3, x4, x5, x6, x7, x8, x9, xa, xb, xc, xd, xe, xf, rfl⟩ := len16 (h := h) (by rw [hnx]; rfl)
  rw [htl] at hnx
  obtain ⟨ts1, hts1⟩ : ∃ z, z = ts ++ [freshT] := ⟨_, rfl⟩
  rw [← hts1] at hvi1
  have hVS1 := hVS.step hst hH.mod.size
  replace hH := hH.vault hVS hst hvi1 (by first | exact .here | exact .there .here | exact .there (.there .here) | exact .there (.there (.there .here)) | exact .there (.there (.there (.there .here))) | exact .there (.there (.there (.there (.there .here)))) | exact .there (.there (.there (.there (.there (.there .here))))) | exact .there (.there (.there (.there (.there (.there (.there .here)))))) | exact .there (.there (.there (.there (.there (.there (.there (.there .here))))))) | exact .there (.there (.there (.there (.there (.there (.there (.there (.there .here)))))))) | exact .there (.there (.there (.there (.there (.there (.there (.there (.there (.there .here))))))))) | exact .there (.there (.there (.there (.there (.there (.there (.there (.there (.there (.there .here)))))))))) | exact .there (.there (.there (.there (.there (.there (.there (.there (.there (.there (.there (.there .here))))))))))) | exact .there (.there (.there (.there (.there (.there (.there (.there (.there (.there (.there (.there (.there .here)))))))))))) | exact .there (.there (.there (.there (.there (.there (.there (.there (.there (.there (.there (.there (.there (.there .here))))))))))))) | exact .there (.there (.there (.there (.there (.there (.there (.there (.there (.there (.there (.there (.there (.there (.there .here)))))))))))))))
  have hok1 := hvi1.ok
  have n011 := hvi1.n01
  have n231 := hvi1.n23
  clear hst
  have htl1 : ts1.length = 2 := by rw [hts1]; simp [htl]
  have hwf1 : Wf ts1 := by rw [hts1]; exact hwf.push ⟨by decide, by show (0 : Int) < _; omega⟩ ⟨by decide, by show (0 : Int) < _; omega⟩ (by decide)
  refine ⟨_, rfl, hH.kp0, ?_⟩
  clear hS; intro a hS
  refine r_move hS hH.kp0 rfl rfl ?_; clear hS; intro a hS
  refine r_call (l := [.tmp 24]) hS rfl rfl Fc.fn14 rfl ?_
  refine Calls.mono (Fresh_v b V1 ts1 (by omega) _ (hH.vin hok1 n011 n231 (by repeat (first | exact In.here | refine In.there ?_)) (by repeat (first | exact In.here | refine In.there ?_)) (by repeat (first | exact In.here | refine In.there ?_)) (by repeat (first | exact In.here | refine In.there ?_)))) ?_
  rintro e w1 ⟨h, V2, rfl, hny, hvi2, hst⟩
  obtain ⟨y0, y1, y2, y3, y4, y5, y6, y7, y8, y9, ya, yb, yc, yd, ye, yf, rfl⟩ := len16 (h := h) (by rw [hny]; rfl)
  rw [htl1] at hny
  obtain ⟨ts2, hts2⟩ : ∃ z, z = ts1 ++ [freshT] := ⟨_, rfl⟩
  rw [← hts2] at hvi2
  have hVS2 := hVS1.step hst hH.mod.size
  replace hH := hH.vault hVS1 hst hvi2 (by first | exact .here | exact .there .here | exact .there (.there .here) | exact .there (.there (.there .here)) | exact .there (.there (.there (.there .here))) | exact .there (.there (.there (.there (.there .here)))) | exact .there (.there (.there (.there (.there (.there .here))))) | exact .there (.there (.there (.there (.there (.there (.there .here)))))) | exact .there (.there (.there (.there (.there (.there (.there (.there .here))))))) | exact .there (.there (.there (.there (.there (.there (.there (.there (.there .here)))))))) | exact .there (.there (.there (.there (.there (.there (.there (.there (.there (.there .here))))))))) | exact .there (.there (.there (.there (.there (.there (.there (.there (.there (.there (.there .here)))))))))) | exact .there (.there (.there (.there (.there (.there (.there (.there (.there (.there (.there (.there .here))))))))))) | exact .there (.there (.there (.there (.there (.there (.there (.there (.there (.there (.there (.there (.there .here)))))))))))) | exact .there (.there (.there (.there (.there (.there (.there (.there (.there (.there (.there (.there (.there (.there .here))))))))))))) | exact .there (.there (.there (.there (.there (.there (.there (.there (.there (.there (.there (.there (.there (.there (.there .here)))))))))))))))
  have hok2 := hvi2.ok
  have n012 := hvi2.n01
  have n232 := hvi2.n23
  clear hst
  have htl2 : ts2.length = 3 := by rw [hts2]; simp [htl1]
  have hwf2 : Wf ts2 := by rw [hts2]; exact hwf1.push ⟨by decide, by show (0 : Int) < _; omega⟩ ⟨by decide, by show (0 : Int) < _; omega⟩ (by decide)
  refine ⟨_, rfl, hH.kp0, ?_⟩
  clear hS; intro a hS
  refine r_move hS hH.kp0 rfl rfl ?_; clear hS; intro a hS
  refine r_call (l := [.tmp 26]) hS rfl rfl Fc.fn14 rfl ?_
  refine Calls.mono (Fresh_v b V2 ts2 (by omega) _ (hH.vin hok2 n012 n232 (by repeat (first | exact In.here | refine In.there ?_)) (by repeat (first | exact In.here | refine In.there ?_)) (by repeat (first | exact In.here | refine In.there ?_)) (by repeat (first | exact In.here | refine In.there ?_)))) ?_
  rintro e w1 ⟨h, V3, rfl, hnz, hvi3, hst⟩
  obtain ⟨z0, z1, z2, z3, z4, z5, z6, z7, z8, z9, za, zb, zc, zd, ze, zf, rfl⟩ := len16 (h := h) (by rw [hnz]; rfl)
  rw [htl2] at hnz
  obtain ⟨ts3, hts3⟩ : ∃ z, z = ts2 ++ [freshT] := ⟨_, rfl⟩
  rw [← hts3] at hvi3
  have hVS3 := hVS2.step hst hH.mod.size
  replace hH := hH.vault hVS2 hst hvi3 (by first | exact .here | exact .there .here | exact .there (.there .here) | exact .there (.there (.there .here)) | exact .there (.there (.there (.there .here))) | exact .there (.there (.there (.there (.there .here)))) | exact .there (.there (.there (.there (.there (.there .here))))) | exact .there (.there (.there (.there (.there (.there (.there .here)))))) | exact .there (.there (.there (.there (.there (.there (.there (.there .here))))))) | exact .there (.there (.there (.there (.there (.there (.there (.there (.there .here)))))))) | exact .there (.there (.there (.there (.there (.there (.there (.there (.there (.there .here))))))))) | exact .there (.there (.there (.there (.there (.there (.there (.there (.there (.there (.there .here)))))))))) | exact .there (.there (.there (.there (.there (.there (.there (.there (.there (.there (.there (.there .here))))))))))) | exact .there (.there (.there (.there (.there (.there (.there (.there (.there (.there (.there (.there (.there .here)))))))))))) | exact .there (.there (.there (.there (.there (.there (.there (.there (.there (.there (.there (.there (.there (.there .here))))))))))))) | exact .there (.there (.there (.there (.there (.there (.there (.there (.there (.there (.there (.there (.there (.there (.there .here)))))))))))))))
  have hok3 := hvi3.ok
  have n013 := hvi3.n01
  have n233 := hvi3.n23
  clear hst
  have htl3 : ts3.length = 4 := by rw [hts3]; simp [htl2]
  have hwf3 : Wf ts3 := by rw [hts3]; exact hwf2.push ⟨by decide, by show (0 : Int) < _; omega⟩ ⟨by decide, by show (0 : Int) < _; omega⟩ (by decide)
  refine ⟨_, rfl, hH.kp0, ?_⟩
  clear hS; intro a hS
  refine r_alloc hS hH (by repeat (first | exact Sub.nil | refine Sub.cons ?_ ?_ | exact In.here | refine In.there ?_)) Fc.zc26 rfl ?_
  clear hS hH; intro a w b4 hb4 hwb4 hS hH
  refine r_alloc hS hH (by repeat (first | exact Sub.nil | refine Sub.cons ?_ ?_ | exact In.here | refine In.there ?_)) Fc.zc26 rfl ?_
  clear hS hH; intro a w b5 hb5 hwb5 hS hH
  refine r_alloc hS hH (by repeat (first | exact Sub.nil | refine Sub.cons ?_ ?_ | exact In.here | refine In.there ?_)) Fc.zc26 rfl ?_
  clear hS hH; intro a w b6 hb6 hwb6 hS hH
  refine r_store_row hS hH rfl rfl (by first | exact .here | exact .there .here | exact .there (.there .here) | exact .there (.there (.there .here)) | exact .there (.there (.there (.there .here))) | exact .there (.there (.there (.there (.there .here)))) | exact .there (.there (.there (.there (.there (.there .here))))) | exact .there (.there (.there (.there (.there (.there (.there .here)))))) | exact .there (.there (.there (.there (.there (.there (.there (.there .here))))))) | exact .there (.there (.there (.there (.there (.there (.there (.there (.there .here)))))))) | exact .there (.there (.there (.there (.there (.there (.there (.there (.there (.there .here))))))))) | exact .there (.there (.there (.there (.there (.there (.there (.there (.there (.there (.there .here)))))))))) | exact .there (.there (.there (.there (.there (.there (.there (.there (.there (.there (.there (.there .here))))))))))) | exact .there (.there (.there (.there (.there (.there (.there (.there (.there (.there (.there (.there (.there .here)))))))))))) | exact .there (.there (.there (.there (.there (.there (.there (.there (.there (.there (.there (.there (.there (.there .here))))))))))))) | exact .there (.there (.there (.there (.there (.there (.there (.there (.there (.there (.there (.there (.there (.there (.there .here))))))))))))))) (by repeat (first | exact Sub.nil | refine Sub.cons ?_ ?_ | exact In.here | refine In.there ?_)) Fc.sz26 (by first | exact hcells_one _ | exact of_decide_eq_true rfl) (by rfl) (by first | exact .inr (by assumption) | exact .inl (by first | assumption | rfl)) ?_
  clear hH; intro w hH
  refine r_store_row hS hH rfl rfl (by first | exact .here | exact .there .here | exact .there (.there .here) | exact .there (.there (.there .here)) | exact .there (.there (.there (.there .here))) | exact .there (.there (.there (.there (.there .here)))) | exact .there (.there (.there (.there (.there (.there .here))))) | exact .there (.there (.there (.there (.there (.there (.there .here)))))) | exact .there (.there (.there (.there (.there (.there (.there (.there .here))))))) | exact .there (.there (.there (.there (.there (.there (.there (.there (.there .here)))))))) | exact .there (.there (.there (.there (.there (.there (.there (.there (.there (.there .here))))))))) | exact .there (.there (.there (.there (.there (.there (.there (.there (.there (.there (.there .here)))))))))) | exact .there (.there (.there (.there (.there (.there (.there (.there (.there (.there (.there (.there .here))))))))))) | exact .there (.there (.there (.there (.there (.there (.there (.there (.there (.there (.there (.there (.there .here)))))))))))) | exact .there (.there (.there (.there (.there (.there (.there (.there (.there (.there (.there (.there (.there (.there .here))))))))))))) | exact .there (.there (.there (.there (.there (.there (.there (.there (.there (.there (.there (.there (.there (.there (.there .here))))))))))))))) (by repeat (first | exact Sub.nil | refine Sub.cons ?_ ?_ | exact In.here | refine In.there ?_)) Fc.sz26 (by first | exact hcells_one _ | exact of_decide_eq_true rfl) (by rfl) (by first | exact .inr (by assumption) | exact .inl (by first | assumption | rfl)) ?_
  clear hH; intro w hH
  refine r_store_row hS hH rfl rfl (by first | exact .here | exact .there .here | exact .there (.there .here) | exact .there (.there (.there .here)) | exact .there (.there (.there (.there .here))) | exact .there (.there (.there (.there (.there .here)))) | exact .there (.there (.there (.there (.there (.there .here))))) | exact .there (.there (.there (.there (.there (.there (.there .here)))))) | exact .there (.there (.there (.there (.there (.there (.there (.there .here))))))) | exact .there (.there (.there (.there (.there (.there (.there (.there (.there .here)))))))) | exact .there (.there (.there (.there (.there (.there (.there (.there (.there (.there .here))))))))) | exact .there (.there (.there (.there (.there (.there (.there (.there (.there (.there (.there .here)))))))))) | exact .there (.there (.there (.there (.there (.there (.there (.there (.there (.there (.there (.there .here))))))))))) | exact .there (.there (.there (.there (.there (.there (.there (.there (.there (.there (.there (.there (.there .here)))))))))))) | exact .there (.there (.there (.there (.there (.there (.there (.there (.there (.there (.there (.there (.there (.there .here))))))))))))) | exact .there (.there (.there (.there (.there (.there (.there (.there (.there (.there (.there (.there (.there (.there (.there .here))))))))))))))) (by repeat (first | exact Sub.nil | refine Sub.cons ?_ ?_ | exact In.here | refine In.there ?_)) Fc.sz26 (by first | exact hcells_one _ | exact of_decide_eq_true rfl) (by rfl) (by first | exact .inr (by assumption) | exact .inl (by first | assumption | rfl)) ?_
  clear hH; intro w hH
  refine Sq.nil ?_
  refine then_n ?_
  refine c_seq ?_
  refine reg_plain w0 (Nobody) ?_
  refine r_move hS hH.kp0 rfl rfl ?_; clear hS; intro a hS
  refine r_load_row hS hH (by repeat (first | exact Sub.nil | refine Sub.cons ?_ ?_ | exact In.here | refine In.there ?_)) rfl (by repeat (first | exact In.here | refine In.there ?_)) Fc.ag26 (by rfl) rfl ?_; clear hS; intro a hS
  refine r_call (l := [.tmp 29, .tmp 30]) hS rfl rfl Fc.fn42 rfl ?_
  refine Calls.mono (Public_v b V3 ts3 [x0, x1, x2, x3, x4, x5, x6, x7, x8, x9, xa, xb, xc, xd, xe, xf] rfl (by omega) _ (hH.vin hok3 n013 n233 (by repeat (first | exact In.here | refine In.there ?_)) (by repeat (first | exact In.here | refine In.there ?_)) (by repeat (first | exact In.here | refine In.there ?_)) (by repeat (first | exact In.here | refine In.there ?_)))) ?_
  rintro e w1 ⟨h, x_, V4, ts4, rfl, hvi4, hst, hof⟩
  rw [hnx] at hof
  obtain ⟨rfl, hnp, hts4⟩ := hof.new (i := 1) (by omega) (by omega) (by simp [hts3, hts2, hts1, hts, pubT, rootT, freshT, agrT, sgnT])
  obtain ⟨p0, p1, p2, p3, p4, p5, p6, p7, p8, p9, pa, pb, pc, pd, pe, pf, rfl⟩ := len16 (h := h) (by rw [hnp]; rfl)
  rw [htl3] at hnp
  have hVS4 := hVS3.step hst hH.mod.size
  replace hH := hH.vault hVS3 hst hvi4 (by first | exact .here | exact .there .here | exact .there (.there .here) | exact .there (.there (.there .here)) | exact .there (.there (.there (.there .here))) | exact .there (.there (.there (.there (.there .here)))) | exact .there (.there (.there (.there (.there (.there .here))))) | exact .there (.there (.there (.there (.there (.there (.there .here)))))) | exact .there (.there (.there (.there (.there (.there (.there (.there .here))))))) | exact .there (.there (.there (.there (.there (.there (.there (.there (.there .here)))))))) | exact .there (.there (.there (.there (.there (.there (.there (.there (.there (.there .here))))))))) | exact .there (.there (.there (.there (.there (.there (.there (.there (.there (.there (.there .here)))))))))) | exact .there (.there (.there (.there (.there (.there (.there (.there (.there (.there (.there (.there .here))))))))))) | exact .there (.there (.there (.there (.there (.there (.there (.there (.there (.there (.there (.there (.there .here)))))))))))) | exact .there (.there (.there (.there (.there (.there (.there (.there (.there (.there (.there (.there (.there (.there .here))))))))))))) | exact .there (.there (.there (.there (.there (.there (.there (.there (.there (.there (.there (.there (.there (.there (.there .here)))))))))))))))
  have hok4 := hvi4.ok
  have n014 := hvi4.n01
  have n234 := hvi4.n23
  clear hst
  have htl4 : ts4.length = 5 := by rw [hts4]; simp [htl3]
  have hwf4 : Wf ts4 := by rw [hts4]; exact hwf3.push ⟨Int.natCast_nonneg 1, by show ((1 : Nat) : Int) < _; omega⟩ ⟨by show (0 : Int) ≤ 0; decide, by show (0 : Int) < _; omega⟩ (show (3 : Int) ≠ 6 by decide)
  clear hof
  refine ⟨_, rfl, hH.kp0, ?_⟩
  clear hS; intro a hS
  refine r_move hS hH.kp0 rfl rfl ?_; clear hS; intro a hS
  refine r_extract hS hH.kp0 rfl rfl rfl ?_; clear hS; intro a hS
  refine r_extract hS hH.kp0 rfl rfl rfl ?_; clear hS; intro a hS
  refine r_alloc hS hH (by repeat (first | exact Sub.nil | refine Sub.cons ?_ ?_ | exact In.here | refine In.there ?_)) Fc.zc26 rfl ?_
  clear hS hH; intro a w b7 hb7 hwb7 hS hH
  refine r_store_row hS hH rfl rfl (by first | exact .here | exact .there .here | exact .there (.there .here) | exact .there (.there (.there .here)) | exact .there (.there (.there (.there .here))) | exact .there (.there (.there (.there (.there .here)))) | exact .there (.there (.there (.there (.there (.there .here))))) | exact .there (.there (.there (.there (.there (.there (.there .here)))))) | exact .there (.there (.there (.there (.there (.there (.there (.there .here))))))) | exact .there (.there (.there (.there (.there (.there (.there (.there (.there .here)))))))) | exact .there (.there (.there (.there (.there (.there (.there (.there (.there (.there .here))))))))) | exact .there (.there (.there (.there (.there (.there (.there (.there (.there (.there (.there .here)))))))))) | exact .there (.there (.there (.there (.there (.there (.there (.there (.there (.there (.there (.there .here))))))))))) | exact .there (.there (.there (.there (.there (.there (.there (.there (.there (.there (.there (.there (.there .here)))))))))))) | exact .there (.there (.there (.there (.there (.there (.there (.there (.there (.there (.there (.there (.there (.there .here))))))))))))) | exact .there (.there (.there (.there (.there (.there (.there (.there (.there (.there (.there (.there (.there (.there (.there .here))))))))))))))) (by repeat (first | exact Sub.nil | refine Sub.cons ?_ ?_ | exact In.here | refine In.there ?_)) Fc.sz26 (by first | exact hcells_one _ | exact of_decide_eq_true rfl) (by rfl) (by first | exact .inr (by assumption) | exact .inl (by first | assumption | rfl)) ?_
  clear hH; intro w hH
  refine r_assign hS hH.kp0 rfl rfl ?_; clear hS; intro a hS
  refine Sq.nil ?_
  refine then_n ?_
  refine c_seq ?_
  refine reg_plain w0 (Nobody) ?_
  refine r_move hS hH.kp0 rfl rfl ?_; clear hS; intro a hS
  refine r_load_row hS hH (by repeat (first | exact Sub.nil | refine Sub.cons ?_ ?_ | exact In.here | refine In.there ?_)) rfl (by repeat (first | exact In.here | refine In.there ?_)) Fc.ag26 (by rfl) rfl ?_; clear hS; intro a hS
  refine r_call (l := [.tmp 35, .tmp 36]) hS rfl rfl Fc.fn42 rfl ?_
  refine Calls.mono (Public_v b V4 ts4 [y0, y1, y2, y3, y4, y5, y6, y7, y8, y9, ya, yb, yc, yd, ye, yf] rfl (by omega) _ (hH.vin hok4 n014 n234 (by repeat (first | exact In.here | refine In.there ?_)) (by repeat (first | exact In.here | refine In.there ?_)) (by repeat (first | exact In.here | refine In.there ?_)) (by repeat (first | exact In.here | refine In.there ?_)))) ?_
  rintro e w1 ⟨h, x_, V5, ts5, rfl, hvi5, hst, hof⟩
  rw [hny] at hof
  obtain ⟨rfl, hnq, hts5⟩ := hof.new (i := 2) (by omega) (by omega) (by simp [hts4, hts3, hts2, hts1, hts, pubT, rootT, freshT, agrT, sgnT])
  obtain ⟨q0, q1, q2, q3, q4, q5, q6, q7, q8, q9, qa, qb, qc, qd, qe, qf, rfl⟩ := len16 (h := h) (by rw [hnq]; rfl)
  rw [htl4] at hnq
  have hVS5 := hVS4.step hst hH.mod.size
  replace hH := hH.vault hVS4 hst hvi5 (by first | exact .here | exact .there .here | exact .there (.there .here) | exact .there (.there (.there .here)) | exact .there (.there (.there (.there .here))) | exact .there (.there (.there (.there (.there .here)))) | exact .there (.there (.there (.there (.there (.there .here))))) | exact .there (.there (.there (.there (.there (.there (.there .here)))))) | exact .there (.there (.there (.there (.there (.there (.there (.there .here))))))) | exact .there (.there (.there (.there (.there (.there (.there (.there (.there .here)))))))) | exact .there (.there (.there (.there (.there (.there (.there (.there (.there (.there .here))))))))) | exact .there (.there (.there (.there (.there (.there (.there (.there (.there (.there (.there .here)))))))))) | exact .there (.there (.there (.there (.there (.there (.there (.there (.there (.there (.there (.there .here))))))))))) | exact .there (.there (.there (.there (.there (.there (.there (.there (.there (.there (.there (.there (.there .here)))))))))))) | exact .there (.there (.there (.there (.there (.there (.there (.there (.there (.there (.there (.there (.there (.there .here))))))))))))) | exact .there (.there (.there (.there (.there (.there (.there (.there (.there (.there (.there (.there (.there (.there (.there .here)))))))))))))))
  have hok5 := hvi5.ok
  have n015 := hvi5.n01
  have n235 := hvi5.n23
  clear hst
  have htl5 : ts5.length = 6 := by rw [hts5]; simp [htl4]
  have hwf5 : Wf ts5 := by rw [hts5]; exact hwf4.push ⟨Int.natCast_nonneg 2, by show ((2 : Nat) : Int) < _; omega⟩ ⟨by show (0 : Int) ≤ 0; decide, by show (0 : Int) < _; omega⟩ (show (3 : Int) ≠ 6 by decide)
  clear hof
  have at4 : ts5[4]? = some { pubT with a := ((1 : Nat) : Int) } := by rw [hts5, hts4, hts3, hts2, hts1, hts]; rfl
  have at5 : ts5[5]? = some { pubT with a := ((2 : Nat) : Int) } := by rw [hts5, hts4, hts3, hts2, hts1, hts]; rfl
  refine ⟨_, rfl, hH.kp0, ?_⟩
  clear hS; intro a hS
  refine r_move hS hH.kp0 rfl rfl ?_; clear hS; intro a hS
  refine r_extract hS hH.kp0 rfl rfl rfl ?_; clear hS; intro a hS
  refine r_extract hS hH.kp0 rfl rfl rfl ?_; clear hS; intro a hS
  refine r_alloc hS hH (by repeat (first | exact Sub.nil | refine Sub.cons ?_ ?_ | exact In.here | refine In.there ?_)) Fc.zc26 rfl ?_
  clear hS hH; intro a w b9 hb9 hwb9 hS hH
  refine r_store_row hS hH rfl rfl (by first | exact .here | exact .there .here | exact .there (.there .here) | exact .there (.there (.there .here)) | exact .there (.there (.there (.there .here))) | exact .there (.there (.there (.there (.there .here)))) | exact .there (.there (.there (.there (.there (.there .here))))) | exact .there (.there (.there (.there (.there (.there (.there .here)))))) | exact .there (.there (.there (.there (.there (.there (.there (.there .here))))))) | exact .there (.there (.there (.there (.there (.there (.there (.there (.there .here)))))))) | exact .there (.there (.there (.there (.there (.there (.there (.there (.there (.there .here))))))))) | exact .there (.there (.there (.there (.there (.there (.there (.there (.there (.there (.there .here)))))))))) | exact .there (.there (.there (.there (.there (.there (.there (.there (.there (.there (.there (.there .here))))))))))) | exact .there (.there (.there (.there (.there (.there (.there (.there (.there (.there (.there (.there (.there .here)))))))))))) | exact .there (.there (.there (.there (.there (.there (.there (.there (.there (.there (.there (.there (.there (.there .here))))))))))))) | exact .there (.there (.there (.there (.there (.there (.there (.there (.there (.there (.there (.there (.there (.there (.there .here))))))))))))))) (by repeat (first | exact Sub.nil | refine Sub.cons ?_ ?_ | exact In.here | refine In.there ?_)) Fc.sz26 (by first | exact hcells_one _ | exact of_decide_eq_true rfl) (by rfl) (by first | exact .inr (by assumption) | exact .inl (by first | assumption | rfl)) ?_
  clear hH; intro w hH
  refine r_assign hS hH.kp0 rfl rfl ?_; clear hS; intro a hS
  refine Sq.nil ?_
  refine then_n ?_
  refine c_seq ?_
  refine reg_plain w0 (Nobody) ?_
  refine r_move hS hH.kp0 rfl rfl ?_; clear hS; intro a hS
  refine r_load_row hS hH (by repeat (first | exact Sub.nil | refine Sub.cons ?_ ?_ | exact In.here | refine In.there ?_)) rfl (by repeat (first | exact In.here | refine In.there ?_)) Fc.ag26 (by rfl) rfl ?_; clear hS; intro a hS
  refine r_load_row hS hH (by repeat (first | exact Sub.nil | refine Sub.cons ?_ ?_ | exact In.here | refine In.there ?_)) rfl (by repeat (first | exact In.here | refine In.there ?_)) Fc.ag26 (by rfl) rfl ?_; clear hS; intro a hS
  refine r_call (l := [.tmp 41, .tmp 42, .tmp 43]) hS rfl rfl Fc.fn43 rfl ?_
  refine Calls.mono (Agree_v b V5 ts5 [x0, x1, x2, x3, x4, x5, x6, x7, x8, x9, xa, xb, xc, xd, xe, xf] rfl [q0, q1, q2, q3, q4, q5, q6, q7, q8, q9, qa, qb, qc, qd, qe, qf] rfl 1 5 2 _ (by omega) hnx hnq at5 rfl rfl (by omega) (by omega) _ (hH.vin hok5 n015 n235 (by repeat (first | exact In.here | refine In.there ?_)) (by repeat (first | exact In.here | refine In.there ?_)) (by repeat (first | exact In.here | refine In.there ?_)) (by repeat (first | exact In.here | refine In.there ?_)))) ?_
  rintro e w1 ⟨h, k_, V6, ts6, rfl, hns, hvi6, hst, hmd⟩
  obtain ⟨rfl, hts6⟩ := hmd.new (by simp [hts5, hts4, hts3, hts2, hts1, hts, pubT, rootT, freshT, agrT, sgnT])
  obtain ⟨s0, s1, s2, s3, s4, s5, s6, s7, s8, s9, sa, sb, sc, sd, se, sf, rfl⟩ := len16 (h := h) (by rw [hns]; rfl)
  rw [htl5] at hns
  have hVS6 := hVS5.step hst hH.mod.size
  replace hH := hH.vault hVS5 hst hvi6 (by first | exact .here | exact .there .here | exact .there (.there .here) | exact .there (.there (.there .here)) | exact .there (.there (.there (.there .here))) | exact .there (.there (.there (.there (.there .here)))) | exact .there (.there (.there (.there (.there (.there .here))))) | exact .there (.there (.there (.there (.there (.there (.there .here)))))) | exact .there (.there (.there (.there (.there (.there (.there (.there .here))))))) | exact .there (.there (.there (.there (.there (.there (.there (.there (.there .here)))))))) | exact .there (.there (.there (.there (.there (.there (.there (.there (.there (.there .here))))))))) | exact .there (.there (.there (.there (.there (.there (.there (.there (.there (.there (.there .here)))))))))) | exact .there (.there (.there (.there (.there (.there (.there (.there (.there (.there (.there (.there .here))))))))))) | exact .there (.there (.there (.there (.there (.there (.there (.there (.there (.there (.there (.there (.there .here)))))))))))) | exact .there (.there (.there (.there (.there (.there (.there (.there (.there (.there (.there (.there (.there (.there .here))))))))))))) | exact .there (.there (.there (.there (.there (.there (.there (.there (.there (.there (.there (.there (.there (.there (.there .here)))))))))))))))
  have hok6 := hvi6.ok
  have n016 := hvi6.n01
  have n236 := hvi6.n23
  clear hst
  have htl6 : ts6.length = 7 := by rw [hts6]; simp [htl5]
  have hwf6 : Wf ts6 := by rw [hts6]; exact hwf5.push ⟨Int.natCast_nonneg _, by show ((min 1 2 : Nat) : Int) < _; omega⟩ ⟨Int.natCast_nonneg _, by show ((max 1 2 : Nat) : Int) < _; omega⟩ (by decide)
  clear hmd
  have at4 : ts6[4]? = some { pubT with a := ((1 : Nat) : Int) } := by rw [hts6, hts5, hts4, hts3, hts2, hts1, hts]; rfl
  have at6 : ts6[6]? = some (agrT 1 2) := by rw [hts6, hts5, hts4, hts3, hts2, hts1, hts]; rfl
  refine ⟨_, rfl, hH.kp0, ?_⟩
  clear hS; intro a hS
  refine r_move hS hH.kp0 rfl rfl ?_; clear hS; intro a hS
  refine r_extract hS hH.kp0 rfl rfl rfl ?_; clear hS; intro a hS
  refine r_extract hS hH.kp0 rfl rfl rfl ?_; clear hS; intro a hS
  refine r_alloc hS hH (by repeat (first | exact Sub.nil | refine Sub.cons ?_ ?_ | exact In.here | refine In.there ?_)) Fc.zc26 rfl ?_
  clear hS hH; intro a w b11 hb11 hwb11 hS hH
  refine r_store_row hS hH rfl rfl (by first | exact .here | exact .there .here | exact .there (.there .here) | exact .there (.there (.there .here)) | exact .there (.there (.there (.there .here))) | exact .there (.there (.there (.there (.there .here)))) | exact .there (.there (.there (.there (.there (.there .here))))) | exact .there (.there (.there (.there (.there (.there (.there .here)))))) | exact .there (.there (.there (.there (.there (.there (.there (.there .here))))))) | exact .there (.there (.there (.there (.there (.there (.there (.there (.there .here)))))))) | exact .there (.there (.there (.there (.there (.there (.there (.there (.there (.there .here))))))))) | exact .there (.there (.there (.there (.there (.there (.there (.there (.there (.there (.there .here)))))))))) | exact .there (.there (.there (.there (.there (.there (.there (.there (.there (.there (.there (.there .here))))))))))) | exact .there (.there (.there (.there (.there (.there (.there (.there (.there (.there (.there (.there (.there .here)))))))))))) | exact .there (.there (.there (.there (.there (.there (.there (.there (.there (.there (.there (.there (.there (.there .here))))))))))))) | exact .there (.there (.there (.there (.there (.there (.there (.there (.there (.there (.there (.there (.there (.there (.there .here))))))))))))))) (by repeat (first | exact Sub.nil | refine Sub.cons ?_ ?_ | exact In.here | refine In.there ?_)) Fc.sz26 (by first | exact hcells_one _ | exact of_decide_eq_true rfl) (by rfl) (by first | exact .inr (by assumption) | exact .inl (by first | assumption | rfl)) ?_
  clear hH; intro w hH
  refine r_assign hS hH.kp0 rfl rfl ?_; clear hS; intro a hS
  refine Sq.nil ?_
  refine then_n ?_
  refine c_seq ?_
  refine reg_plain w0 (Nobody) ?_
  refine r_move hS hH.kp0 rfl rfl ?_; clear hS; intro a hS
  refine r_load_row hS hH (by repeat (first | exact Sub.nil | refine Sub.cons ?_ ?_ | exact In.here | refine In.there ?_)) rfl (by repeat (first | exact In.here | refine In.there ?_)) Fc.ag26 (by rfl) rfl ?_; clear hS; intro a hS
  refine r_load_row hS hH (by repeat (first | exact Sub.nil | refine Sub.cons ?_ ?_ | exact In.here | refine In.there ?_)) rfl (by repeat (first | exact In.here | refine In.there ?_)) Fc.ag26 (by rfl) rfl ?_; clear hS; intro a hS
  refine r_call (l := [.tmp 48, .tmp 49, .tmp 50]) hS rfl rfl Fc.fn43 rfl ?_
  refine Calls.mono (Agree_v b V6 ts6 [y0, y1, y2, y3, y4, y5, y6, y7, y8, y9, ya, yb, yc, yd, ye, yf] rfl [p0, p1, p2, p3, p4, p5, p6, p7, p8, p9, pa, pb, pc, pd, pe, pf] rfl 2 4 1 _ (by omega) hny hnp at4 rfl rfl (by omega) (by omega) _ (hH.vin hok6 n016 n236 (by repeat (first | exact In.here | refine In.there ?_)) (by repeat (first | exact In.here | refine In.there ?_)) (by repeat (first | exact In.here | refine In.there ?_)) (by repeat (first | exact In.here | refine In.there ?_)))) ?_
  rintro e w1 ⟨h, k_, V7, ts7, rfl, hnt, hvi7, hst, hmd⟩
  obtain ⟨rfl, hts7⟩ := hmd.old (j := 6) hok6.uq at6 (by decide)
  obtain ⟨t0, t1, t2, t3, t4, t5, t6, t7, t8, t9, ta, tb, tc, td, te, tf, rfl⟩ := len16 (h := h) (by rw [hnt]; rfl)
  have hVS7 := hVS6.step hst hH.mod.size
  replace hH := hH.vault hVS6 hst hvi7 (by first | exact .here | exact .there .here | exact .there (.there .here) | exact .there (.there (.there .here)) | exact .there (.there (.there (.there .here))) | exact .there (.there (.there (.there (.there .here)))) | exact .there (.there (.there (.there (.there (.there .here))))) | exact .there (.there (.there (.there (.there (.there (.there .here)))))) | exact .there (.there (.there (.there (.there (.there (.there (.there .here))))))) | exact .there (.there (.there (.there (.there (.there (.there (.there (.there .here)))))))) | exact .there (.there (.there (.there (.there (.there (.there (.there (.there (.there .here))))))))) | exact .there (.there (.there (.there (.there (.there (.there (.there (.there (.there (.there .here)))))))))) | exact .there (.there (.there (.there (.there (.there (.there (.there (.there (.there (.there (.there .here))))))))))) | exact .there (.there (.there (.there (.there (.there (.there (.there (.there (.there (.there (.there (.there .here)))))))))))) | exact .there (.there (.there (.there (.there (.there (.there (.there (.there (.there (.there (.there (.there (.there .here))))))))))))) | exact .there (.there (.there (.there (.there (.there (.there (.there (.there (.there (.there (.there (.there (.there (.there .here)))))))))))))))
  have hok7 := hvi7.ok
  have n017 := hvi7.n01
  have n237 := hvi7.n23
  clear hst
  have htl7 : ts7.length = 7 := by rw [hts7]; exact htl6
  have hwf7 : Wf ts7 := by rw [hts7]; exact hwf6
  have at5 : ts7[5]? = some { pubT with a := ((2 : Nat) : Int) } := by rw [hts7, hts6, hts5, hts4, hts3, hts2, hts1, hts]; rfl
  clear hmd
  refine ⟨_, rfl, hH.kp0, ?_⟩
  clear hS; intro a hS
  refine r_move hS hH.kp0 rfl rfl ?_; clear hS; intro a hS
  refine r_extract hS hH.kp0 rfl rfl rfl ?_; clear hS; intro a hS
  refine r_extract hS hH.kp0 rfl rfl rfl ?_; clear hS; intro a hS
  refine r_alloc hS hH (by repeat (first | exact Sub.nil | refine Sub.cons ?_ ?_ | exact In.here | refine In.there ?_)) Fc.zc26 rfl ?_
  clear hS hH; intro a w b13 hb13 hwb13 hS hH
  refine r_store_row hS hH rfl rfl (by first | exact .here | exact .there .here | exact .there (.there .here) | exact .there (.there (.there .here)) | exact .there (.there (.there (.there .here))) | exact .there (.there (.there (.there (.there .here)))) | exact .there (.there (.there (.there (.there (.there .here))))) | exact .there (.there (.there (.there (.there (.there (.there .here)))))) | exact .there (.there (.there (.there (.there (.there (.there (.there .here))))))) | exact .there (.there (.there (.there (.there (.there (.there (.there (.there .here)))))))) | exact .there (.there (.there (.there (.there (.there (.there (.there (.there (.there .here))))))))) | exact .there (.there (.there (.there (.there (.there (.there (.there (.there (.there (.there .here)))))))))) | exact .there (.there (.there (.there (.there (.there (.there (.there (.there (.there (.there (.there .here))))))))))) | exact .there (.there (.there (.there (.there (.there (.there (.there (.there (.there (.there (.there (.there .here)))))))))))) | exact .there (.there (.there (.there (.there (.there (.there (.there (.there (.there (.there (.there (.there (.there .here))))))))))))) | exact .there (.there (.there (.there (.there (.there (.there (.there (.there (.there (.there (.there (.there (.there (.there .here))))))))))))))) (by repeat (first | exact Sub.nil | refine Sub.cons ?_ ?_ | exact In.here | refine In.there ?_)) Fc.sz26 (by first | exact hcells_one _ | exact of_decide_eq_true rfl) (by rfl) (by first | exact .inr (by assumption) | exact .inl (by first | assumption | rfl)) ?_
  clear hH; intro w hH
  refine r_assign hS hH.kp0 rfl rfl ?_; clear hS; intro a hS
  refine Sq.nil ?_
  refine then_n ?_
  refine c_seq ?_
  refine reg_plain w0 (Nobody) ?_
  refine r_move hS hH.kp0 rfl rfl ?_; clear hS; intro a hS
  refine r_load_row hS hH (by repeat (first | exact Sub.nil | refine Sub.cons ?_ ?_ | exact In.here | refine In.there ?_)) rfl (by repeat (first | exact In.here | refine In.there ?_)) Fc.ag26 (by rfl) rfl ?_; clear hS; intro a hS
  refine r_load_row hS hH (by repeat (first | exact Sub.nil | refine Sub.cons ?_ ?_ | exact In.here | refine In.there ?_)) rfl (by repeat (first | exact In.here | refine In.there ?_)) Fc.ag26 (by rfl) rfl ?_; clear hS; intro a hS
  refine r_call (l := [.tmp 55, .tmp 56, .tmp 57]) hS rfl rfl Fc.fn43 rfl ?_
  refine Calls.mono (Agree_v b V7 ts7 [z0, z1, z2, z3, z4, z5, z6, z7, z8, z9, za, zb, zc, zd, ze, zf] rfl [q0, q1, q2, q3, q4, q5, q6, q7, q8, q9, qa, qb, qc, qd, qe, qf] rfl 3 5 2 _ (by omega) hnz hnq at5 rfl rfl (by omega) (by omega) _ (hH.vin hok7 n017 n237 (by repeat (first | exact In.here | refine In.there ?_)) (by repeat (first | exact In.here | refine In.there ?_)) (by repeat (first | exact In.here | refine In.there ?_)) (by repeat (first | exact In.here | refine In.there ?_)))) ?_
  rintro e w1 ⟨h, k_, V8, ts8, rfl, hnu, hvi8, hst, hmd⟩
  obtain ⟨rfl, hts8⟩ := hmd.new (by simp [hts7, hts6, hts5, hts4, hts3, hts2, hts1, hts, pubT, rootT, freshT, agrT, sgnT])
  obtain ⟨u0, u1, u2, u3, u4, u5, u6, u7, u8, u9, ua, ub, uc, ud, ue, uf, rfl⟩ := len16 (h := h) (by rw [hnu]; rfl)
  rw [htl7] at hnu
  have hVS8 := hVS7.step hst hH.mod.size
  replace hH := hH.vault hVS7 hst hvi8 (by first | exact .here | exact .there .here | exact .there (.there .here) | exact .there (.there (.there .here)) | exact .there (.there (.there (.there .here))) | exact .there (.there (.there (.there (.there .here)))) | exact .there (.there (.there (.there (.there (.there .here))))) | exact .there (.there (.there (.there (.there (.there (.there .here)))))) | exact .there (.there (.there (.there (.there (.there (.there (.there .here))))))) | exact .there (.there (.there (.there (.there (.there (.there (.there (.there .here)))))))) | exact .there (.there (.there (.there (.there (.there (.there (.there (.there (.there .here))))))))) | exact .there (.there (.there (.there (.there (.there (.there (.there (.there (.there (.there .here)))))))))) | exact .there (.there (.there (.there (.there (.there (.there (.there (.there (.there (.there (.there .here))))))))))) | exact .there (.there (.there (.there (.there (.there (.there (.there (.there (.there (.there (.there (.there .here)))))))))))) | exact .there (.there (.there (.there (.there (.there (.there (.there (.there (.there (.there (.there (.there (.there .here))))))))))))) | exact .there (.there (.there (.there (.there (.there (.there (.there (.there (.there (.there (.there (.there (.there (.there .here)))))))))))))))
  have hok8 := hvi8.ok
  have n018 := hvi8.n01
  have n238 := hvi8.n23
  clear hst
  have htl8 : ts8.length = 8 := by rw [hts8]; simp [htl7]
  have hwf8 : Wf ts8 := by rw [hts8]; exact hwf7.push ⟨Int.natCast_nonneg _, by show ((min 3 2 : Nat) : Int) < _; omega⟩ ⟨Int.natCast_nonneg _, by show ((max 3 2 : Nat) : Int) < _; omega⟩ (by decide)
  clear hmd
  refine ⟨_, rfl, hH.kp0, ?_⟩
  clear hS; intro a hS
  refine r_move hS hH.kp0 rfl rfl ?_; clear hS; intro a hS
  refine r_extract hS hH.kp0 rfl rfl rfl ?_; clear hS; intro a hS
  refine r_extract hS hH.kp0 rfl rfl rfl ?_; clear hS; intro a hS
  refine r_alloc hS hH (by repeat (first | exact Sub.nil | refine Sub.cons ?_ ?_ | exact In.here | refine In.there ?_)) Fc.zc26 rfl ?_
  clear hS hH; intro a w b15 hb15 hwb15 hS hH
  refine r_store_row hS hH rfl rfl (by first | exact .here | exact .there .here | exact .there (.there .here) | exact .there (.there (.there .here)) | exact .there (.there (.there (.there .here))) | exact .there (.there (.there (.there (.there .here)))) | exact .there (.there (.there (.there (.there (.there .here))))) | exact .there (.there (.there (.there (.there (.there (.there .here)))))) | exact .there (.there (.there (.there (.there (.there (.there (.there .here))))))) | exact .there (.there (.there (.there (.there (.there (.there (.there (.there .here)))))))) | exact .there (.there (.there (.there (.there (.there (.there (.there (.there (.there .here))))))))) | exact .there (.there (.there (.there (.there (.there (.there (.there (.there (.there (.there .here)))))))))) | exact .there (.there (.there (.there (.there (.there (.there (.there (.there (.there (.there (.there .here))))))))))) | exact .there (.there (.there (.there (.there (.there (.there (.there (.there (.there (.there (.there (.there .here)))))))))))) | exact .there (.there (.there (.there (.there (.there (.there (.there (.there (.there (.there (.there (.there (.there .here))))))))))))) | exact .there (.there (.there (.there (.there (.there (.there (.there (.there (.there (.there (.there (.there (.there (.there .here))))))))))))))) (by repeat (first | exact Sub.nil | refine Sub.cons ?_ ?_ | exact In.here | refine In.there ?_)) Fc.sz26 (by first | exact hcells_one _ | exact of_decide_eq_true rfl) (by rfl) (by first | exact .inr (by assumption) | exact .inl (by first | assumption | rfl)) ?_
  clear hH; intro w hH
  refine r_assign hS hH.kp0 rfl rfl ?_; clear hS; intro a hS
  refine Sq.nil ?_
  refine then_n ?_
  refine c_seq ?_
  refine reg_plain w0 (Nobody) ?_
  refine r_move hS hH.kp0 rfl rfl ?_; clear hS; intro a hS
  refine r_load_row hS hH (by repeat (first | exact Sub.nil | refine Sub.cons ?_ ?_ | exact In.here | refine In.there ?_)) rfl (by repeat (first | exact In.here | refine In.there ?_)) Fc.ag26 (by rfl) rfl ?_; clear hS; intro a hS
  refine r_move hS hH.kp0 rfl rfl ?_; clear hS; intro a hS
  refine r_call (l := [.tmp 62, .tmp 63, .tmp 64]) hS rfl rfl Fc.fn44 rfl ?_
  refine Calls.mono (Sign_v b V8 ts8 [x0, x1, x2, x3, x4, x5, x6, x7, x8, x9, xa, xb, xc, xd, xe, xf] rfl _ la (by omega) (by omega) _ (hH.vin hok8 n018 n238 (by repeat (first | exact In.here | refine In.there ?_)) (by repeat (first | exact In.here | refine In.there ?_)) (by repeat (first | exact In.here | refine In.there ?_)) (by repeat (first | exact In.here | refine In.there ?_))) (hb0.go hH.mod hVS8)) ?_
  rintro e w1 ⟨h, x_, V9, ts9, rfl, hvi9, hst, hof⟩
  rw [hnx] at hof
  obtain ⟨rfl, hnm, hts9⟩ := hof.new (i := 1) (by omega) (by omega) (by simp [hts8, hts7, hts6, hts5, hts4, hts3, hts2, hts1, hts, pubT, rootT, freshT, agrT, sgnT])
  obtain ⟨m0, m1, m2, m3, m4, m5, m6, m7, m8, m9, ma, mb, mc, md, me, mf, rfl⟩ := len16 (h := h) (by rw [hnm]; rfl)
  rw [htl8] at hnm
  have hVS9 := hVS8.step hst hH.mod.size
  replace hH := hH.vault hVS8 hst hvi9 (by first | exact .here | exact .there .here | exact .there (.there .here) | exact .there (.there (.there .here)) | exact .there (.there (.there (.there .here))) | exact .there (.there (.there (.there (.there .here)))) | exact .there (.there (.there (.there (.there (.there .here))))) | exact .there (.there (.there (.there (.there (.there (.there .here)))))) | exact .there (.there (.there (.there (.there (.there (.there (.there .here))))))) | exact .there (.there (.there (.there (.there (.there (.there (.there (.there .here)))))))) | exact .there (.there (.there (.there (.there (.there (.there (.there (.there (.there .here))))))))) | exact .there (.there (.there (.there (.there (.there (.there (.there (.there (.there (.there .here)))))))))) | exact .there (.there (.there (.there (.there (.there (.there (.there (.there (.there (.there (.there .here))))))))))) | exact .there (.there (.there (.there (.there (.there (.there (.there (.there (.there (.there (.there (.there .here)))))))))))) | exact .there (.there (.there (.there (.there (.there (.there (.there (.there (.there (.there (.there (.there (.there .here))))))))))))) | exact .there (.there (.there (.there (.there (.there (.there (.there (.there (.there (.there (.there (.there (.there (.there .here)))))))))))))))
  have hok9 := hvi9.ok
  have n019 := hvi9.n01
  have n239 := hvi9.n23
  clear hst
  have htl9 : ts9.length = 9 := by rw [hts9]; simp [htl8]
  have hwf9 : Wf ts9 := by rw [hts9]; exact hwf8.push ⟨Int.natCast_nonneg 1, by show ((1 : Nat) : Int) < _; omega⟩ ⟨by show (0 : Int) ≤ 0; decide, by show (0 : Int) < _; omega⟩ (show (5 : Int) ≠ 6 by decide)
  clear hof
  have b1_ : ts9[1]? = some freshT := by rw [hts9, hts8, hts7, hts6, hts5, hts4, hts3, hts2, hts1, hts]; rfl
  have b2_ : ts9[2]? = some freshT := by rw [hts9, hts8, hts7, hts6, hts5, hts4, hts3, hts2, hts1, hts]; rfl
  have b4_ : ts9[4]? = some { pubT with a := ((1 : Nat) : Int) } := by rw [hts9, hts8, hts7, hts6, hts5, hts4, hts3, hts2, hts1, hts]; rfl
  have b5_ : ts9[5]? = some { pubT with a := ((2 : Nat) : Int) } := by rw [hts9, hts8, hts7, hts6, hts5, hts4, hts3, hts2, hts1, hts]; rfl
  have b6_ : ts9[6]? = some (agrT 1 2) := by rw [hts9, hts8, hts7, hts6, hts5, hts4, hts3, hts2, hts1, hts]; rfl
  have b8_ : ts9[8]? = some { sgnT (strOf la) with a := ((1 : Nat) : Int) } := by rw [hts9, hts8, hts7, hts6, hts5, hts4, hts3, hts2, hts1, hts]; rfl
  have est : ([s0, s1, s2, s3, s4, s5, s6, s7, s8, s9, sa, sb, sc, sd, se, sf] : List UInt8) = [t0, t1, t2, t3, t4, t5, t6, t7, t8, t9, ta, tb, tc, td, te, tf] := hns.trans hnt.symm
  have nus : ¬ ([u0, u1, u2, u3, u4, u5, u6, u7, u8, u9, ua, ub, uc, ud, ue, uf] : List UInt8) = [s0, s1, s2, s3, s4, s5, s6, s7, s8, s9, sa, sb, sc, sd, se, sf] := by rw [hnu, hns]; exact nm_ne (by omega) (by omega) (by omega)
  have hcl : Clos ts9 [[p0, p1, p2, p3, p4, p5, p6, p7, p8, p9, pa, pb, pc, pd, pe, pf], [q0, q1, q2, q3, q4, q5, q6, q7, q8, q9, qa, qb, qc, qd, qe, qf]] (fun j => j ≠ 1 ∧ j ≠ 2 ∧ j ≠ 6) := by
    refine ⟨by decide, fun l hl j hj hn => ?_, fun j t ht hr => ?_⟩
    · simp only [List.mem_cons, List.not_mem_nil, or_false] at hl
      rcases hl with rfl | rfl
      · have e : j = 4 := nm_inj (by omega) (by omega) ((HasN16 rfl).1 hn |>.symm.trans hnp); subst e; decide
      · have e : j = 5 := nm_inj (by omega) (by omega) ((HasN16 rfl).1 hn |>.symm.trans hnq); subst e; decide
    · refine ⟨fun e => ?_, fun e => ?_, fun e => ?_⟩ <;> subst e
      · rw [b1_] at ht; cases ht; simp [Rch, freshT] at hr
      · rw [b2_] at ht; cases ht; simp [Rch, freshT] at hr
      · rw [b6_] at ht; cases ht; simp [Rch, agrT] at hr
  refine ⟨_, rfl, hH.kp0, ?_⟩
  clear hS; intro a hS
  refine r_move hS hH.kp0 rfl rfl ?_; clear hS; intro a hS
  refine r_extract hS hH.kp0 rfl rfl rfl ?_; clear hS; intro a hS
  refine r_extract hS hH.kp0 rfl rfl rfl ?_; clear hS; intro a hS
  refine r_alloc hS hH (by repeat (first | exact Sub.nil | refine Sub.cons ?_ ?_ | exact In.here | refine In.there ?_)) Fc.zc26 rfl ?_
  clear hS hH; intro a w b17 hb17 hwb17 hS hH
  refine r_store_row hS hH rfl rfl (by first | exact .here | exact .there .here | exact .there (.there .here) | exact .there (.there (.there .here)) | exact .there (.there (.there (.there .here))) | exact .there (.there (.there (.there (.there .here)))) | exact .there (.there (.there (.there (.there (.there .here))))) | exact .there (.there (.there (.there (.there (.there (.there .here)))))) | exact .there (.there (.there (.there (.there (.there (.there (.there .here))))))) | exact .there (.there (.there (.there (.there (.there (.there (.there (.there .here)))))))) | exact .there (.there (.there (.there (.there (.there (.there (.there (.there (.there .here))))))))) | exact .there (.there (.there (.there (.there (.there (.there (.there (.there (.there (.there .here)))))))))) | exact .there (.there (.there (.there (.there (.there (.there (.there (.there (.there (.there (.there .here))))))))))) | exact .there (.there (.there (.there (.there (.there (.there (.there (.there (.there (.there (.there (.there .here)))))))))))) | exact .there (.there (.there (.there (.there (.there (.there (.there (.there (.there (.there (.there (.there (.there .here))))))))))))) | exact .there (.there (.there (.there (.there (.there (.there (.there (.there (.there (.there (.there (.there (.there (.there .here))))))))))))))) (by repeat (first | exact Sub.nil | refine Sub.cons ?_ ?_ | exact In.here | refine In.there ?_)) Fc.sz26 (by first | exact hcells_one _ | exact of_decide_eq_true rfl) (by rfl) (by first | exact .inr (by assumption) | exact .inl (by first | assumption | rfl)) ?_
  clear hH; intro w hH
  refine r_assign hS hH.kp0 rfl rfl ?_; clear hS; intro a hS
  refine Sq.nil ?_
  refine then_n ?_
  refine c_seq ?_
  refine reg_tree [(true, 0, []), (true, 1, []), (true, 2, []), (true, 3, []), (true, 4, []), (true, 5, []), (true, 6, []), (true, 7, []), (true, 8, []), (true, 9, []), (true, 10, []), (true, 11, []), (true, 12, []), (true, 13, []), (true, 14, []), (true, 15, []), (true, 16, []), (true, 17, []), (true, 18, []), (true, 19, []), (true, 20, []), (true, 21, []), (true, 22, []), (true, 23, []), (true, 24, []), (true, 25, []), (true, 26, []), (true, 27, []), (true, 28, []), (false, 29, []), (true, 30, []), (true, 31, []), (true, 32, []), (true, 33, []), (true, 34, []), (true, 35, []), (true, 36, []), (false, 37, []), (true, 38, []), (true, 39, []), (true, 40, []), (true, 41, []), (true, 42, []), (false, 43, []), (true, 44, []), (false, 45, []), (false, 46, []), (false, 47, []), (true, 48, []), (false, 49, []), (true, 50, []), (true, 51, []), (true, 52, []), (true, 53, []), (true, 54, []), (true, 55, []), (true, 56, []), (false, 57, []), (false, 58, []), (true, 59, []), (true, 60, []), (true, 61, []), (true, 62, []), (true, 63, []), (true, 64, []), (false, 65, []), (false, 66, []), (true, 67, []), (true, 68, []), (true, 69, [])] (PT.ofPlan [(true, 0, []), (true, 1, []), (true, 2, []), (true, 3, []), (true, 4, []), (true, 5, []), (true, 6, []), (true, 7, []), (true, 8, []), (true, 9, []), (true, 10, []), (true, 11, []), (true, 12, []), (true, 13, []), (true, 14, []), (true, 15, []), (true, 16, []), (true, 17, []), (true, 18, []), (true, 19, []), (true, 20, []), (true, 21, []), (true, 22, []), (true, 23, []), (true, 24, []), (true, 25, []), (true, 26, []), (true, 27, []), (true, 28, []), (false, 29, []), (true, 30, []), (true, 31, []), (true, 32, []), (true, 33, []), (true, 34, []), (true, 35, []), (true, 36, []), (false, 37, []), (true, 38, []), (true, 39, []), (true, 40, []), (true, 41, []), (true, 42, []), (true, 44, []), (true, 48, [])] (.fork (PT.ofPlan [(false, 43, [])] (.fork (PT.ofPlan [(false, 45, []), (false, 46, []), (false, 47, []), (false, 49, []), (true, 50, []), (true, 51, []), (true, 52, []), (true, 53, []), (true, 54, []), (true, 55, []), (true, 56, []), (false, 57, []), (false, 58, []), (true, 59, []), (true, 60, []), (true, 61, []), (true, 62, []), (true, 63, []), (true, 64, []), (false, 65, []), (false, 66, []), (true, 67, []), (true, 68, []), (true, 69, [])] .nil) (PT.ofPlan [(false, 46, []), (false, 45, []), (false, 47, []), (false, 49, []), (true, 50, []), (true, 51, []), (true, 52, []), (true, 53, []), (true, 54, []), (true, 55, []), (true, 56, []), (false, 57, []), (false, 58, []), (true, 59, []), (true, 60, []), (true, 61, []), (true, 62, []), (true, 63, []), (true, 64, []), (false, 65, []), (false, 66, []), (true, 67, []), (true, 68, []), (true, 69, [])] .nil))) (PT.ofPlan [(false, 46, []), (false, 43, []), (false, 45, []), (false, 47, []), (false, 49, []), (true, 50, []), (true, 51, []), (true, 52, []), (true, 53, []), (true, 54, []), (true, 55, []), (true, 56, []), (false, 57, []), (false, 58, []), (true, 59, []), (true, 60, []), (true, 61, []), (true, 62, []), (true, 63, []), (true, 64, []), (false, 65, []), (false, 66, []), (true, 67, []), (true, 68, []), (true, 69, [])] .nil))) Fc.mixed (by kernel_rfl) (by kernel_rfl) (by kernel_rfl) (by kernel_rfl) (by kernel_rfl) (by kernel_rfl) (by repeat (first | with_reducible exact steady_body | with_reducible apply steady_block | with_reducible apply steady_then | exact steady_body)) hH ?_
  replace hH := hH.drew
  refine tr_seg ?_
  refine r_move hS trivial rfl rfl ?_; clear hS; intro a hS
  refine r_eql hS trivial rfl rfl rfl ?_; clear hS; intro a hS
  refine r_move hS trivial rfl rfl ?_; clear hS; intro a hS
  refine Sq.guardYes hS rfl rfl rfl ?_
  refine r_move hS trivial rfl rfl ?_; clear hS; intro a hS
  refine Sq.guardYes hS rfl rfl rfl ?_
  refine r_eql hS trivial rfl rfl rfl ?_; clear hS; intro a hS
  refine r_pickT hS trivial rfl rfl rfl rfl ?_; clear hS; intro a hS
  refine r_move hS trivial rfl rfl ?_; clear hS; intro a hS
  refine Sq.guardYes hS rfl rfl rfl ?_
  refine r_move hS trivial rfl rfl ?_; clear hS; intro a hS
  refine Sq.guardYes hS rfl rfl rfl ?_
  refine r_eql hS trivial rfl rfl rfl ?_; clear hS; intro a hS
  refine r_pickT hS trivial rfl rfl rfl rfl ?_; clear hS; intro a hS
  refine r_move hS trivial rfl rfl ?_; clear hS; intro a hS
  refine Sq.guardYes hS rfl rfl rfl ?_
  refine r_move hS trivial rfl rfl ?_; clear hS; intro a hS
  refine Sq.guardYes hS rfl rfl rfl ?_
  refine r_eql hS trivial rfl rfl rfl ?_; clear hS; intro a hS
  refine r_pickT hS trivial rfl rfl rfl rfl ?_; clear hS; intro a hS
  refine r_move hS trivial rfl rfl ?_; clear hS; intro a hS
  refine Sq.guardYes hS rfl rfl rfl ?_
  refine r_load_rowS hS rfl (by repeat (first | exact In.here | refine In.there ?_)) Fc.ag26 (by rfl) rfl ?_; clear hS; intro a hS
  refine Sq.guardYes hS rfl rfl rfl ?_
  refine r_load_rowS hS rfl (by repeat (first | exact In.here | refine In.there ?_)) Fc.ag26 (by rfl) rfl ?_; clear hS; intro a hS
  refine Sq.guardYes hS rfl rfl rfl ?_
  refine r_arrEql (h := [s0, s1, s2, s3, s4, s5, s6, s7, s8, s9, sa, sb, sc, sd, se, sf]) (g := [t0, t1, t2, t3, t4, t5, t6, t7, t8, t9, ta, tb, tc, td, te, tf]) Fc.arrH hS trivial rfl rfl rfl rfl rfl ?_; clear hS; intro a hS
  refine r_pickT hS trivial rfl rfl rfl rfl ?_; clear hS; intro a hS
  refine r_move hS trivial rfl rfl ?_; clear hS; intro a hS
  refine Sq.guardYes hS rfl rfl (DT est) ?_
  refine r_load_rowS hS rfl (by repeat (first | exact In.here | refine In.there ?_)) Fc.ag26 (by rfl) rfl ?_; clear hS; intro a hS
  refine Sq.guardYes hS rfl rfl (DT est) ?_
  refine r_load_rowS hS rfl (by repeat (first | exact In.here | refine In.there ?_)) Fc.ag26 (by rfl) rfl ?_; clear hS; intro a hS
  refine Sq.guardYes hS rfl rfl (DT est) ?_
  refine r_arrNeq (h := [u0, u1, u2, u3, u4, u5, u6, u7, u8, u9, ua, ub, uc, ud, ue, uf]) (g := [s0, s1, s2, s3, s4, s5, s6, s7, s8, s9, sa, sb, sc, sd, se, sf]) Fc.arrH hS trivial rfl rfl rfl rfl rfl ?_; clear hS; intro a hS
  refine r_pickT hS trivial rfl (DT est) rfl rfl ?_; clear hS; intro a hS
  refine r_move hS trivial rfl rfl ?_; clear hS; intro a hS
  refine Sq.guardYes hS rfl rfl (by rw [DF nus]; rfl) ?_
  refine r_move hS trivial rfl rfl ?_; clear hS; intro a hS
  refine Sq.guardYes hS rfl rfl (by rw [DF nus]; rfl) ?_
  refine r_load_rowS hS rfl (by repeat (first | exact In.here | refine In.there ?_)) Fc.ag26 (by rfl) rfl ?_; clear hS; intro a hS
  refine Sq.guardYes hS rfl rfl (by rw [DF nus]; rfl) ?_
  refine r_move hS trivial rfl rfl ?_; clear hS; intro a hS
  refine Sq.guardYes hS rfl rfl (by rw [DF nus]; rfl) ?_
  refine r_load_rowS hS rfl (by repeat (first | exact In.here | refine In.there ?_)) Fc.ag26 (by rfl) rfl ?_; clear hS; intro a hS
  refine Sq.guardYes hS rfl rfl (by rw [DF nus]; rfl) ?_
  refine r_call (l := [.tmp 93, .tmp 94, .tmp 95, .tmp 96]) hS rfl rfl Fc.fn45 rfl ?_
  refine Calls.mono (Verify_v b V9 ts9 [p0, p1, p2, p3, p4, p5, p6, p7, p8, p9, pa, pb, pc, pd, pe, pf] rfl [m0, m1, m2, m3, m4, m5, m6, m7, m8, m9, ma, mb, mc, md, me, mf] rfl _ la (by omega) 4 8 _ hnp b4_ rfl (by unfold fits; decide) hnm (by omega) (by omega) _ (hH.vin hok9 n019 n239 (by repeat (first | exact In.here | refine In.there ?_)) (by repeat (first | exact In.here | refine In.there ?_)) (by repeat (first | exact In.here | refine In.there ?_)) (by repeat (first | exact In.here | refine In.there ?_))) (hb0.bs.ext hH.mod)) ?_
  rintro e w1 ⟨x_, rfl, hx, hE⟩
  replace hH := hH.ext hE
  obtain rfl : x_ = 0 := by
    rcases hx with ⟨h, _⟩ | ⟨_, h⟩
    · exact h
    · exact absurd b8_ h
  refine ⟨_, rfl, hH.kp (by repeat (first | exact Sub.nil | refine Sub.cons ?_ ?_ | exact In.here | refine In.there ?_)), ?_⟩
  clear hS; intro a hS
  refine Sq.guardYes hS rfl rfl (by rw [DF nus]; rfl) ?_
  refine r_eql hS trivial rfl rfl rfl ?_; clear hS; intro a hS
  refine r_pickT hS trivial rfl (by rw [DF nus]; rfl) rfl rfl ?_; clear hS; intro a hS
  refine r_move hS trivial rfl rfl ?_; clear hS; intro a hS
  refine Sq.guardYes hS rfl rfl rfl ?_
  refine r_move hS trivial rfl rfl ?_; clear hS; intro a hS
  refine Sq.guardYes hS rfl rfl rfl ?_
  refine r_load_rowS hS rfl (by repeat (first | exact In.here | refine In.there ?_)) Fc.ag26 (by rfl) rfl ?_; clear hS; intro a hS
  refine Sq.guardYes hS rfl rfl rfl ?_
  refine r_move hS trivial rfl rfl ?_; clear hS; intro a hS
  refine Sq.guardYes hS rfl rfl rfl ?_
  refine r_load_rowS hS rfl (by repeat (first | exact In.here | refine In.there ?_)) Fc.ag26 (by rfl) rfl ?_; clear hS; intro a hS
  refine Sq.guardYes hS rfl rfl rfl ?_
  refine r_call (l := [.tmp 101, .tmp 102, .tmp 103, .tmp 104]) hS rfl rfl Fc.fn45 rfl ?_
  refine Calls.mono (Verify_v b V9 ts9 [q0, q1, q2, q3, q4, q5, q6, q7, q8, q9, qa, qb, qc, qd, qe, qf] rfl [m0, m1, m2, m3, m4, m5, m6, m7, m8, m9, ma, mb, mc, md, me, mf] rfl _ la (by omega) 5 8 _ hnq b5_ rfl (by unfold fits; decide) hnm (by omega) (by omega) _ (hH.vin hok9 n019 n239 (by repeat (first | exact In.here | refine In.there ?_)) (by repeat (first | exact In.here | refine In.there ?_)) (by repeat (first | exact In.here | refine In.there ?_)) (by repeat (first | exact In.here | refine In.there ?_))) (hb0.bs.ext hH.mod)) ?_
  rintro e w1 ⟨x_, rfl, hx, hE⟩
  replace hH := hH.ext hE
  obtain rfl : x_ = 21 := by
    rcases hx with ⟨_, h⟩ | ⟨h, _⟩
    · rw [b8_] at h; have h2 := congrArg Tm.a (Option.some.inj h); exact absurd h2 (by show ¬ (1 : Int) = 2; decide)
    · exact h
  refine ⟨_, rfl, hH.kp (by repeat (first | exact Sub.nil | refine Sub.cons ?_ ?_ | exact In.here | refine In.there ?_)), ?_⟩
  clear hS; intro a hS
  refine Sq.guardYes hS rfl rfl rfl ?_
  refine r_eql hS trivial rfl rfl rfl ?_; clear hS; intro a hS
  refine r_pickT hS trivial rfl rfl rfl rfl ?_; clear hS; intro a hS
  refine r_move hS trivial rfl rfl ?_; clear hS; intro a hS
  refine Sq.guardYes hS rfl rfl rfl ?_
  refine r_move hS trivial rfl rfl ?_; clear hS; intro a hS
  refine Sq.guardYes hS rfl rfl rfl ?_
  refine r_load_rowS hS rfl (by repeat (first | exact In.here | refine In.there ?_)) Fc.ag26 (by rfl) rfl ?_; clear hS; intro a hS
  refine Sq.guardYes hS rfl rfl rfl ?_
  refine r_move hS trivial rfl rfl ?_; clear hS; intro a hS
  refine Sq.guardYes hS rfl rfl rfl ?_
  refine r_load_rowS hS rfl (by repeat (first | exact In.here | refine In.there ?_)) Fc.ag26 (by rfl) rfl ?_; clear hS; intro a hS
  refine Sq.nil ?_
  refine then_n ?_
  refine tr_fork ?_ ?_
  · refine tr_seg ?_
    refine Sq.guardYes hS rfl rfl rfl ?_
    refine r_buildSlice0 hS hH (by repeat (first | exact Sub.nil | refine Sub.cons ?_ ?_ | exact In.here | refine In.there ?_)) Fc.uls22 Fc.inf5 rfl ?_
    clear hS hH; intro a w b111 hb111 hwb111 hS hH
    refine Sq.nil ?_
    refine then_n ?_
    refine tr_fork ?_ ?_
    · refine tr_seg ?_
      refine Sq.guardYes hS rfl rfl rfl ?_
      refine r_append_own (l := []) hS hH rfl rfl (by first | exact .here | exact .there .here | exact .there (.there .here) | exact .there (.there (.there .here)) | exact .there (.there (.there (.there .here))) | exact .there (.there (.there (.there (.there .here)))) | exact .there (.there (.there (.there (.there (.there .here))))) | exact .there (.there (.there (.there (.there (.there (.there .here)))))) | exact .there (.there (.there (.there (.there (.there (.there (.there .here))))))) | exact .there (.there (.there (.there (.there (.there (.there (.there (.there .here)))))))) | exact .there (.there (.there (.there (.there (.there (.there (.there (.there (.there .here))))))))) | exact .there (.there (.there (.there (.there (.there (.there (.there (.there (.there (.there .here)))))))))) | exact .there (.there (.there (.there (.there (.there (.there (.there (.there (.there (.there (.there .here))))))))))) | exact .there (.there (.there (.there (.there (.there (.there (.there (.there (.there (.there (.there (.there .here)))))))))))) | exact .there (.there (.there (.there (.there (.there (.there (.there (.there (.there (.there (.there (.there (.there .here))))))))))))) | exact .there (.there (.there (.there (.there (.there (.there (.there (.there (.there (.there (.there (.there (.there (.there .here))))))))))))))) (by repeat (first | exact Sub.nil | refine Sub.cons ?_ ?_ | exact In.here | refine In.there ?_)) Fc.el22 Fc.ni22 rfl (Nat.le_refl _) (hb0.bs.ext hH.mod).src (by omega) (.inr hb111) rfl ?_
      clear hS hH; intro a w ob cap1 l1 hob hl1 hc1_ htk1 _ hS hH
      rw [Nat.zero_add] at hS hc1_ htk1
      refine Sq.guardYes hS rfl rfl rfl ?_
      refine r_buildSlice (parts := [(0, .const (.int .u8 0))]) hS hH (by repeat (first | exact Sub.nil | refine Sub.cons ?_ ?_ | exact In.here | refine In.there ?_)) rfl Fc.bsl22_1 (by rfl) rfl ?_
      clear hS hH; intro a w b114 hb114 hwb114 hS hH
      refine Sq.guardYes hS rfl rfl rfl ?_
      refine r_append_own hS hH rfl rfl (by first | exact .here | exact .there .here | exact .there (.there .here) | exact .there (.there (.there .here)) | exact .there (.there (.there (.there .here))) | exact .there (.there (.there (.there (.there .here)))) | exact .there (.there (.there (.there (.there (.there .here))))) | exact .there (.there (.there (.there (.there (.there (.there .here)))))) | exact .there (.there (.there (.there (.there (.there (.there (.there .here))))))) | exact .there (.there (.there (.there (.there (.there (.there (.there (.there .here)))))))) | exact .there (.there (.there (.there (.there (.there (.there (.there (.there (.there .here))))))))) | exact .there (.there (.there (.there (.there (.there (.there (.there (.there (.there (.there .here)))))))))) | exact .there (.there (.there (.there (.there (.there (.there (.there (.there (.there (.there (.there .here))))))))))) | exact .there (.there (.there (.there (.there (.there (.there (.there (.there (.there (.there (.there (.there .here)))))))))))) | exact .there (.there (.there (.there (.there (.there (.there (.there (.there (.there (.there (.there (.there (.there .here))))))))))))) | exact .there (.there (.there (.there (.there (.there (.there (.there (.there (.there (.there (.there (.there (.there (.there .here))))))))))))))) (by repeat (first | exact Sub.nil | refine Sub.cons ?_ ?_ | exact In.here | refine In.there ?_)) Fc.el22 Fc.ni22 hl1 hc1_ (Bs.byte (u := 0) (hH.get (b := b114) (by repeat (first | exact In.here | refine In.there ?_)))).src (by simp; omega) hob rfl ?_
      clear hS hH; intro a w ob2 cap2 l2 hob2 hl2_ hc2_ htk2 _ hS hH
      have hrF : Bs w (.slice (some ⟨ob2, 0, none⟩) (la.length + [(0 : UInt8)].length) cap2) (la ++ [0]) := (BsF.row (F := Nobody) (hH.get (b := ob2) .here) (fun h => h) hl2_ hc2_ (by rw [htk2, htk1]; simp [byteV]) (by simp)).bs
      refine Sq.guardYes hS rfl rfl rfl ?_
      refine r_call (l := [.tmp 109, .tmp 110, .tmp 115, .tmp 116]) hS rfl rfl Fc.fn45 rfl ?_
      refine Calls.mono (Verify_v b V9 ts9 [p0, p1, p2, p3, p4, p5, p6, p7, p8, p9, pa, pb, pc, pd, pe, pf] rfl [m0, m1, m2, m3, m4, m5, m6, m7, m8, m9, ma, mb, mc, md, me, mf] rfl _ (la ++ [0]) (by simp; omega) 4 8 _ hnp b4_ rfl (by unfold fits; decide) hnm (by omega) (by omega) _ (hH.vin hok9 n019 n239 (by repeat (first | exact In.here | refine In.there ?_)) (by repeat (first | exact In.here | refine In.there ?_)) (by repeat (first | exact In.here | refine In.there ?_)) (by repeat (first | exact In.here | refine In.there ?_))) hrF) ?_
      rintro e w1 ⟨x_, rfl, hx, hE⟩
      replace hH := hH.ext hE
      obtain rfl : x_ = 21 := by
        rcases hx with ⟨_, h⟩ | ⟨h, _⟩
        · rw [b8_] at h; have h2 : strOf la = strOf (la ++ [0]) := congrArg Tm.bytes (Option.some.inj h); exact absurd (congrArg List.length (strOf_inj h2)) (by simp)
        · exact h
      refine ⟨_, rfl, hH.kp (by repeat (first | exact Sub.nil | refine Sub.cons ?_ ?_ | exact In.here | refine In.there ?_)), ?_⟩
      clear hS; intro a hS
      refine Sq.guardYes hS rfl rfl rfl ?_
      refine r_eql hS trivial rfl rfl rfl ?_; clear hS; intro a hS
      refine r_pickT hS trivial rfl rfl rfl rfl ?_; clear hS; intro a hS
      refine r_move hS trivial rfl rfl ?_; clear hS; intro a hS
      refine Sq.guardYes hS rfl rfl rfl ?_
      refine r_move hS trivial rfl rfl ?_; clear hS; intro a hS
      refine Sq.guardYes hS rfl rfl rfl ?_
      refine r_slArr hS trivial rfl Fc.ar26 rfl ?_; clear hS; intro a hS
      refine Sq.guardYes hS rfl rfl rfl ?_
      refine r_slArr hS trivial rfl Fc.ar26 rfl ?_; clear hS; intro a hS
      refine Sq.guardYes hS rfl rfl rfl ?_
      refine r_slArr hS trivial rfl Fc.ar26 rfl ?_; clear hS; intro a hS
      refine Sq.guardYes hS rfl rfl rfl ?_
      refine r_buildSlice (parts := [(0, .tmp 123), (1, .tmp 124)]) hS hH (by repeat (first | exact Sub.nil | refine Sub.cons ?_ ?_ | exact In.here | refine In.there ?_)) rfl Fc.bsl60_2 (by rfl) rfl ?_
      clear hS hH; intro a w b125 hb125 hwb125 hS hH
      refine Sq.guardYes hS rfl rfl rfl ?_
      refine r_call (l := [.tmp 121, .tmp 122, .tmp 125]) hS rfl rfl Fc.fn28 rfl ?_
      refine Calls.mono (Hidden_v b V9 ts9 (by omega) hwf9 (by omega) _ _ [s0, s1, s2, s3, s4, s5, s6, s7, s8, s9, sa, sb, sc, sd, se, sf] (by show 16 ≤ _; decide) [[p0, p1, p2, p3, p4, p5, p6, p7, p8, p9, pa, pb, pc, pd, pe, pf], [q0, q1, q2, q3, q4, q5, q6, q7, q8, q9, qa, qb, qc, qd, qe, qf]] (by intro l hl; simp only [List.mem_cons, List.not_mem_nil, or_false] at hl; rcases hl with rfl | rfl <;> (show 16 ≤ _; decide)) (by simp) _ (hH.vin hok9 n019 n239 (by repeat (first | exact In.here | refine In.there ?_)) (by repeat (first | exact In.here | refine In.there ?_)) (by repeat (first | exact In.here | refine In.there ?_)) (by repeat (first | exact In.here | refine In.there ?_))) ((BsF.block (F := Nobody) (hH.get (b := b11) (by first | exact .here | exact .there .here | exact .there (.there .here) | exact .there (.there (.there .here)) | exact .there (.there (.there (.there .here))) | exact .there (.there (.there (.there (.there .here)))) | exact .there (.there (.there (.there (.there (.there .here))))) | exact .there (.there (.there (.there (.there (.there (.there .here)))))) | exact .there (.there (.there (.there (.there (.there (.there (.there .here))))))) | exact .there (.there (.there (.there (.there (.there (.there (.there (.there .here)))))))) | exact .there (.there (.there (.there (.there (.there (.there (.there (.there (.there .here))))))))) | exact .there (.there (.there (.there (.there (.there (.there (.there (.there (.there (.there .here)))))))))) | exact .there (.there (.there (.there (.there (.there (.there (.there (.there (.there (.there (.there .here))))))))))) | exact .there (.there (.there (.there (.there (.there (.there (.there (.there (.there (.there (.there (.there .here)))))))))))) | exact .there (.there (.there (.there (.there (.there (.there (.there (.there (.there (.there (.there (.there (.there .here))))))))))))) | exact .there (.there (.there (.there (.there (.there (.there (.there (.there (.there (.there (.there (.there (.there (.there .here)))))))))))))))) rfl (fun h => h))).bs (SlG.two (F := Nobody) (.slice (some ⟨b7, 0, none⟩) 16 16) (.slice (some ⟨b9, 0, none⟩) 16 16) (hH.get (b := b125) (by first | exact .here | exact .there .here | exact .there (.there .here) | exact .there (.there (.there .here)) | exact .there (.there (.there (.there .here))) | exact .there (.there (.there (.there (.there .here)))) | exact .there (.there (.there (.there (.there (.there .here))))) | exact .there (.there (.there (.there (.there (.there (.there .here)))))) | exact .there (.there (.there (.there (.there (.there (.there (.there .here))))))) | exact .there (.there (.there (.there (.there (.there (.there (.there (.there .here)))))))) | exact .there (.there (.there (.there (.there (.there (.there (.there (.there (.there .here))))))))) | exact .there (.there (.there (.there (.there (.there (.there (.there (.there (.there (.there .here)))))))))) | exact .there (.there (.there (.there (.there (.there (.there (.there (.there (.there (.there (.there .here))))))))))) | exact .there (.there (.there (.there (.there (.there (.there (.there (.there (.there (.there (.there (.there .here)))))))))))) | exact .there (.there (.there (.there (.there (.there (.there (.there (.there (.there (.there (.there (.there (.there .here))))))))))))) | exact .there (.there (.there (.there (.there (.there (.there (.there (.there (.there (.there (.there (.there (.there (.there .here)))))))))))))))) (fun h => h) (BsF.block (F := Nobody) (hH.get (b := b7) (by first | exact .here | exact .there .here | exact .there (.there .here) | exact .there (.there (.there .here)) | exact .there (.there (.there (.there .here))) | exact .there (.there (.there (.there (.there .here)))) | exact .there (.there (.there (.there (.there (.there .here))))) | exact .there (.there (.there (.there (.there (.there (.there .here)))))) | exact .there (.there (.there (.there (.there (.there (.there (.there .here))))))) | exact .there (.there (.there (.there (.there (.there (.there (.there (.there .here)))))))) | exact .there (.there (.there (.there (.there (.there (.there (.there (.there (.there .here))))))))) | exact .there (.there (.there (.there (.there (.there (.there (.there (.there (.there (.there .here)))))))))) | exact .there (.there (.there (.there (.there (.there (.there (.there (.there (.there (.there (.there .here))))))))))) | exact .there (.there (.there (.there (.there (.there (.there (.there (.there (.there (.there (.there (.there .here)))))))))))) | exact .there (.there (.there (.there (.there (.there (.there (.there (.there (.there (.there (.there (.there (.there .here))))))))))))) | exact .there (.there (.there (.there (.there (.there (.there (.there (.there (.there (.there (.there (.there (.there (.there .here)))))))))))))))) rfl (fun h => h)) (BsF.block (F := Nobody) (hH.get (b := b9) (by first | exact .here | exact .there .here | exact .there (.there .here) | exact .there (.there (.there .here)) | exact .there (.there (.there (.there .here))) | exact .there (.there (.there (.there (.there .here)))) | exact .there (.there (.there (.there (.there (.there .here))))) | exact .there (.there (.there (.there (.there (.there (.there .here)))))) | exact .there (.there (.there (.there (.there (.there (.there (.there .here))))))) | exact .there (.there (.there (.there (.there (.there (.there (.there (.there .here)))))))) | exact .there (.there (.there (.there (.there (.there (.there (.there (.there (.there .here))))))))) | exact .there (.there (.there (.there (.there (.there (.there (.there (.there (.there (.there .here)))))))))) | exact .there (.there (.there (.there (.there (.there (.there (.there (.there (.there (.there (.there .here))))))))))) | exact .there (.there (.there (.there (.there (.there (.there (.there (.there (.there (.there (.there (.there .here)))))))))))) | exact .there (.there (.there (.there (.there (.there (.there (.there (.there (.there (.there (.there (.there (.there .here))))))))))))) | exact .there (.there (.there (.there (.there (.there (.there (.there (.there (.there (.there (.there (.there (.there (.there .here)))))))))))))))) rfl (fun h => h)))) ?_
      rintro e w1 ⟨r, K, rfl, hKN, hHR, hE⟩
      replace hH := hH.ext hE
      have hr : r = true := by
        cases r
        · have h6 := hHR.no rfl 6 (by omega) ((HasN16 rfl).2 hns)
          exact absurd rfl (hKN.least _ hcl 6 h6).2.2
        · rfl
      subst hr
      refine ⟨_, rfl, hH.kp (by repeat (first | exact Sub.nil | refine Sub.cons ?_ ?_ | exact In.here | refine In.there ?_)), ?_⟩
      clear hS; intro a hS
      refine r_pickT hS trivial rfl rfl rfl rfl ?_; clear hS; intro a hS
      refine r_move hS trivial rfl rfl ?_; clear hS; intro a hS
      refine Sq.guardYes hS rfl rfl rfl ?_
      refine r_move hS trivial rfl rfl ?_; clear hS; intro a hS
      refine Sq.guardYes hS rfl rfl rfl ?_
      refine r_slArr hS trivial rfl Fc.ar26 rfl ?_; clear hS; intro a hS
      refine Sq.guardYes hS rfl rfl rfl ?_
      refine r_slArr hS trivial rfl Fc.ar26 rfl ?_; clear hS; intro a hS
      refine Sq.guardYes hS rfl rfl rfl ?_
      refine r_slArr hS trivial rfl Fc.ar26 rfl ?_; clear hS; intro a hS
      refine Sq.guardYes hS rfl rfl rfl ?_
      refine r_buildSlice (parts := [(0, .tmp 131), (1, .tmp 132)]) hS hH (by repeat (first | exact Sub.nil | refine Sub.cons ?_ ?_ | exact In.here | refine In.there ?_)) rfl Fc.bsl60_2 (by rfl) rfl ?_
      clear hS hH; intro a w b133 hb133 hwb133 hS hH
      refine Sq.guardYes hS rfl rfl rfl ?_
      refine r_call (l := [.tmp 129, .tmp 130, .tmp 133]) hS rfl rfl Fc.fn28 rfl ?_
      refine Calls.mono (Hidden_v b V9 ts9 (by omega) hwf9 (by omega) _ _ [s0, s1, s2, s3, s4, s5, s6, s7, s8, s9, sa, sb, sc, sd, se, sf] (by show 16 ≤ _; decide) [[p0, p1, p2, p3, p4, p5, p6, p7, p8, p9, pa, pb, pc, pd, pe, pf], [y0, y1, y2, y3, y4, y5, y6, y7, y8, y9, ya, yb, yc, yd, ye, yf]] (by intro l hl; simp only [List.mem_cons, List.not_mem_nil, or_false] at hl; rcases hl with rfl | rfl <;> (show 16 ≤ _; decide)) (by simp) _ (hH.vin hok9 n019 n239 (by repeat (first | exact In.here | refine In.there ?_)) (by repeat (first | exact In.here | refine In.there ?_)) (by repeat (first | exact In.here | refine In.there ?_)) (by repeat (first | exact In.here | refine In.there ?_))) ((BsF.block (F := Nobody) (hH.get (b := b11) (by first | exact .here | exact .there .here | exact .there (.there .here) | exact .there (.there (.there .here)) | exact .there (.there (.there (.there .here))) | exact .there (.there (.there (.there (.there .here)))) | exact .there (.there (.there (.there (.there (.there .here))))) | exact .there (.there (.there (.there (.there (.there (.there .here)))))) | exact .there (.there (.there (.there (.there (.there (.there (.there .here))))))) | exact .there (.there (.there (.there (.there (.there (.there (.there (.there .here)))))))) | exact .there (.there (.there (.there (.there (.there (.there (.there (.there (.there .here))))))))) | exact .there (.there (.there (.there (.there (.there (.there (.there (.there (.there (.there .here)))))))))) | exact .there (.there (.there (.there (.there (.there (.there (.there (.there (.there (.there (.there .here))))))))))) | exact .there (.there (.there (.there (.there (.there (.there (.there (.there (.there (.there (.there (.there .here)))))))))))) | exact .there (.there (.there (.there (.there (.there (.there (.there (.there (.there (.there (.there (.there (.there .here))))))))))))) | exact .there (.there (.there (.there (.there (.there (.there (.there (.there (.there (.there (.there (.there (.there (.there .here)))))))))))))))) rfl (fun h => h))).bs (SlG.two (F := Nobody) (.slice (some ⟨b7, 0, none⟩) 16 16) (.slice (some ⟨b5, 0, none⟩) 16 16) (hH.get (b := b133) (by first | exact .here | exact .there .here | exact .there (.there .here) | exact .there (.there (.there .here)) | exact .there (.there (.there (.there .here))) | exact .there (.there (.there (.there (.there .here)))) | exact .there (.there (.there (.there (.there (.there .here))))) | exact .there (.there (.there (.there (.there (.there (.there .here)))))) | exact .there (.there (.there (.there (.there (.there (.there (.there .here))))))) | exact .there (.there (.there (.there (.there (.there (.there (.there (.there .here)))))))) | exact .there (.there (.there (.there (.there (.there (.there (.there (.there (.there .here))))))))) | exact .there (.there (.there (.there (.there (.there (.there (.there (.there (.there (.there .here)))))))))) | exact .there (.there (.there (.there (.there (.there (.there (.there (.there (.there (.there (.there .here))))))))))) | exact .there (.there (.there (.there (.there (.there (.there (.there (.there (.there (.there (.there (.there .here)))))))))))) | exact .there (.there (.there (.there (.there (.there (.there (.there (.there (.there (.there (.there (.there (.there .here))))))))))))) | exact .there (.there (.there (.there (.there (.there (.there (.there (.there (.there (.there (.there (.there (.there (.there .here)))))))))))))))) (fun h => h) (BsF.block (F := Nobody) (hH.get (b := b7) (by first | exact .here | exact .there .here | exact .there (.there .here) | exact .there (.there (.there .here)) | exact .there (.there (.there (.there .here))) | exact .there (.there (.there (.there (.there .here)))) | exact .there (.there (.there (.there (.there (.there .here))))) | exact .there (.there (.there (.there (.there (.there (.there .here)))))) | exact .there (.there (.there (.there (.there (.there (.there (.there .here))))))) | exact .there (.there (.there (.there (.there (.there (.there (.there (.there .here)))))))) | exact .there (.there (.there (.there (.there (.there (.there (.there (.there (.there .here))))))))) | exact .there (.there (.there (.there (.there (.there (.there (.there (.there (.there (.there .here)))))))))) | exact .there (.there (.there (.there (.there (.there (.there (.there (.there (.there (.there (.there .here))))))))))) | exact .there (.there (.there (.there (.there (.there (.there (.there (.there (.there (.there (.there (.there .here)))))))))))) | exact .there (.there (.there (.there (.there (.there (.there (.there (.there (.there (.there (.there (.there (.there .here))))))))))))) | exact .there (.there (.there (.there (.there (.there (.there (.there (.there (.there (.there (.there (.there (.there (.there .here)))))))))))))))) rfl (fun h => h)) (BsF.block (F := Nobody) (hH.get (b := b5) (by first | exact .here | exact .there .here | exact .there (.there .here) | exact .there (.there (.there .here)) | exact .there (.there (.there (.there .here))) | exact .there (.there (.there (.there (.there .here)))) | exact .there (.there (.there (.there (.there (.there .here))))) | exact .there (.there (.there (.there (.there (.there (.there .here)))))) | exact .there (.there (.there (.there (.there (.there (.there (.there .here))))))) | exact .there (.there (.there (.there (.there (.there (.there (.there (.there .here)))))))) | exact .there (.there (.there (.there (.there (.there (.there (.there (.there (.there .here))))))))) | exact .there (.there (.there (.there (.there (.there (.there (.there (.there (.there (.there .here)))))))))) | exact .there (.there (.there (.there (.there (.there (.there (.there (.there (.there (.there (.there .here))))))))))) | exact .there (.there (.there (.there (.there (.there (.there (.there (.there (.there (.there (.there (.there .here)))))))))))) | exact .there (.there (.there (.there (.there (.there (.there (.there (.there (.there (.there (.there (.there (.there .here))))))))))))) | exact .there (.there (.there (.there (.there (.there (.there (.there (.there (.there (.there (.there (.there (.there (.there .here)))))))))))))))) rfl (fun h => h)))) ?_
      rintro e w1 ⟨r, K2, rfl, hKN2, hHR2, hE⟩
      replace hH := hH.ext hE
      have hr : r = false := by
        cases r
        · rfl
        · obtain ⟨z, hz, hno⟩ := hHR2.yes rfl
          have hz0 : z = 0 := by have : z + 16 ≤ 16 := hz; omega
          subst hz0
          have k2 : KT K2 2 := hKN2.clos.seen [y0, y1, y2, y3, y4, y5, y6, y7, y8, y9, ya, yb, yc, yd, ye, yf] (by simp) 2 (by omega) ((HasN16 rfl).2 hny)
          have k6 : KT K2 6 := hKN2.clos.reach 6 _ b6_ (.inr ⟨rfl, .inr k2⟩)
          exact absurd k6 (hno 6 (by omega) hns)
      subst hr
      refine ⟨_, rfl, hH.kp (by repeat (first | exact Sub.nil | refine Sub.cons ?_ ?_ | exact In.here | refine In.there ?_)), ?_⟩
      clear hS; intro a hS
      refine Sq.guardYes hS rfl rfl rfl ?_
      refine r_not hS trivial rfl rfl ?_; clear hS; intro a hS
      refine r_pickT hS trivial rfl rfl rfl rfl ?_; clear hS; intro a hS
      refine r_assign hS trivial rfl rfl ?_; clear hS; intro a hS
      refine Sq.nil ?_
      refine then_n ?_
      refine tr_nil ?_
      refine then_n ?_
      refine wp_ret ?_
      exact leave (.inl rfl) hS rfl (Res.tmp rfl Res.nil) ⟨rfl, hH.mod⟩
    · refine tr_seg ?_
      refine Sq.guardYes hS rfl rfl rfl ?_
      refine r_buildSlice (parts := [(0, .const (.int .u8 0))]) hS hH (by repeat (first | exact Sub.nil | refine Sub.cons ?_ ?_ | exact In.here | refine In.there ?_)) rfl Fc.bsl22_1 (by rfl) rfl ?_
      clear hS hH; intro a w b114 hb114 hwb114 hS hH
      refine Sq.guardYes hS rfl rfl rfl ?_
      refine r_append_own (l := []) hS hH rfl rfl (by first | exact .here | exact .there .here | exact .there (.there .here) | exact .there (.there (.there .here)) | exact .there (.there (.there (.there .here))) | exact .there (.there (.there (.there (.there .here)))) | exact .there (.there (.there (.there (.there (.there .here))))) | exact .there (.there (.there (.there (.there (.there (.there .here)))))) | exact .there (.there (.there (.there (.there (.there (.there (.there .here))))))) | exact .there (.there (.there (.there (.there (.there (.there (.there (.there .here)))))))) | exact .there (.there (.there (.there (.there (.there (.there (.there (.there (.there .here))))))))) | exact .there (.there (.there (.there (.there (.there (.there (.there (.there (.there (.there .here)))))))))) | exact .there (.there (.there (.there (.there (.there (.there (.there (.there (.there (.there (.there .here))))))))))) | exact .there (.there (.there (.there (.there (.there (.there (.there (.there (.there (.there (.there (.there .here)))))))))))) | exact .there (.there (.there (.there (.there (.there (.there (.there (.there (.there (.there (.there (.there (.there .here))))))))))))) | exact .there (.there (.there (.there (.there (.there (.there (.there (.there (.there (.there (.there (.there (.there (.there .here))))))))))))))) (by repeat (first | exact Sub.nil | refine Sub.cons ?_ ?_ | exact In.here | refine In.there ?_)) Fc.el22 Fc.ni22 rfl (Nat.le_refl _) (hb0.bs.ext hH.mod).src (by omega) (.inr hb111) rfl ?_
      clear hS hH; intro a w ob cap1 l1 hob hl1 hc1_ htk1 _ hS hH
      rw [Nat.zero_add] at hS hc1_ htk1
      refine Sq.guardYes hS rfl rfl rfl ?_
      refine r_append_own hS hH rfl rfl (by first | exact .here | exact .there .here | exact .there (.there .here) | exact .there (.there (.there .here)) | exact .there (.there (.there (.there .here))) | exact .there (.there (.there (.there (.there .here)))) | exact .there (.there (.there (.there (.there (.there .here))))) | exact .there (.there (.there (.there (.there (.there (.there .here)))))) | exact .there (.there (.there (.there (.there (.there (.there (.there .here))))))) | exact .there (.there (.there (.there (.there (.there (.there (.there (.there .here)))))))) | exact .there (.there (.there (.there (.there (.there (.there (.there (.there (.there .here))))))))) | exact .there (.there (.there (.there (.there (.there (.there (.there (.there (.there (.there .here)))))))))) | exact .there (.there (.there (.there (.there (.there (.there (.there (.there (.there (.there (.there .here))))))))))) | exact .there (.there (.there (.there (.there (.there (.there (.there (.there (.there (.there (.there (.there .here)))))))))))) | exact .there (.there (.there (.there (.there (.there (.there (.there (.there (.there (.there (.there (.there (.there .here))))))))))))) | exact .there (.there (.there (.there (.there (.there (.there (.there (.there (.there (.there (.there (.there (.there (.there .here))))))))))))))) (by repeat (first | exact Sub.nil | refine Sub.cons ?_ ?_ | exact In.here | refine In.there ?_)) Fc.el22 Fc.ni22 hl1 hc1_ (Bs.byte (u := 0) (hH.get (b := b114) (by repeat (first | exact In.here | refine In.there ?_)))).src (by simp; omega) hob rfl ?_
      clear hS hH; intro a w ob2 cap2 l2 hob2 hl2_ hc2_ htk2 _ hS hH
      have hrF : Bs w (.slice (some ⟨ob2, 0, none⟩) (la.length + [(0 : UInt8)].length) cap2) (la ++ [0]) := (BsF.row (F := Nobody) (hH.get (b := ob2) .here) (fun h => h) hl2_ hc2_ (by rw [htk2, htk1]; simp [byteV]) (by simp)).bs
      refine Sq.guardYes hS rfl rfl rfl ?_
      refine r_call (l := [.tmp 109, .tmp 110, .tmp 115, .tmp 116]) hS rfl rfl Fc.fn45 rfl ?_
      refine Calls.mono (Verify_v b V9 ts9 [p0, p1, p2, p3, p4, p5, p6, p7, p8, p9, pa, pb, pc, pd, pe, pf] rfl [m0, m1, m2, m3, m4, m5, m6, m7, m8, m9, ma, mb, mc, md, me, mf] rfl _ (la ++ [0]) (by simp; omega) 4 8 _ hnp b4_ rfl (by unfold fits; decide) hnm (by omega) (by omega) _ (hH.vin hok9 n019 n239 (by repeat (first | exact In.here | refine In.there ?_)) (by repeat (first | exact In.here | refine In.there ?_)) (by repeat (first | exact In.here | refine In.there ?_)) (by repeat (first | exact In.here | refine In.there ?_))) hrF) ?_
      rintro e w1 ⟨x_, rfl, hx, hE⟩
      replace hH := hH.ext hE
      obtain rfl : x_ = 21 := by
        rcases hx with ⟨_, h⟩ | ⟨h, _⟩
        · rw [b8_] at h; have h2 : strOf la = strOf (la ++ [0]) := congrArg Tm.bytes (Option.some.inj h); exact absurd (congrArg List.length (strOf_inj h2)) (by simp)
        · exact h
      refine ⟨_, rfl, hH.kp (by repeat (first | exact Sub.nil | refine Sub.cons ?_ ?_ | exact In.here | refine In.there ?_)), ?_⟩
      clear hS; intro a hS
      refine Sq.guardYes hS rfl rfl rfl ?_
      refine r_eql hS trivial rfl rfl rfl ?_; clear hS; intro a hS
      refine r_pickT hS trivial rfl rfl rfl rfl ?_; clear hS; intro a hS
      refine r_move hS trivial rfl rfl ?_; clear hS; intro a hS
      refine Sq.guardYes hS rfl rfl rfl ?_
      refine r_move hS trivial rfl rfl ?_; clear hS; intro a hS
      refine Sq.guardYes hS rfl rfl rfl ?_
      refine r_slArr hS trivial rfl Fc.ar26 rfl ?_; clear hS; intro a hS
      refine Sq.guardYes hS rfl rfl rfl ?_
      refine r_slArr hS trivial rfl Fc.ar26 rfl ?_; clear hS; intro a hS
      refine Sq.guardYes hS rfl rfl rfl ?_
      refine r_slArr hS trivial rfl Fc.ar26 rfl ?_; clear hS; intro a hS
      refine Sq.guardYes hS rfl rfl rfl ?_
      refine r_buildSlice (parts := [(0, .tmp 123), (1, .tmp 124)]) hS hH (by repeat (first | exact Sub.nil | refine Sub.cons ?_ ?_ | exact In.here | refine In.there ?_)) rfl Fc.bsl60_2 (by rfl) rfl ?_
      clear hS hH; intro a w b125 hb125 hwb125 hS hH
      refine Sq.guardYes hS rfl rfl rfl ?_
      refine r_call (l := [.tmp 121, .tmp 122, .tmp 125]) hS rfl rfl Fc.fn28 rfl ?_
      refine Calls.mono (Hidden_v b V9 ts9 (by omega) hwf9 (by omega) _ _ [s0, s1, s2, s3, s4, s5, s6, s7, s8, s9, sa, sb, sc, sd, se, sf] (by show 16 ≤ _; decide) [[p0, p1, p2, p3, p4, p5, p6, p7, p8, p9, pa, pb, pc, pd, pe, pf], [q0, q1, q2, q3, q4, q5, q6, q7, q8, q9, qa, qb, qc, qd, qe, qf]] (by intro l hl; simp only [List.mem_cons, List.not_mem_nil, or_false] at hl; rcases hl with rfl | rfl <;> (show 16 ≤ _; decide)) (by simp) _ (hH.vin hok9 n019 n239 (by repeat (first | exact In.here | refine In.there ?_)) (by repeat (first | exact In.here | refine In.there ?_)) (by repeat (first | exact In.here | refine In.there ?_)) (by repeat (first | exact In.here | refine In.there ?_))) ((BsF.block (F := Nobody) (hH.get (b := b11) (by first | exact .here | exact .there .here | exact .there (.there .here) | exact .there (.there (.there .here)) | exact .there (.there (.there (.there .here))) | exact .there (.there (.there (.there (.there .here)))) | exact .there (.there (.there (.there (.there (.there .here))))) | exact .there (.there (.there (.there (.there (.there (.there .here)))))) | exact .there (.there (.there (.there (.there (.there (.there (.there .here))))))) | exact .there (.there (.there (.there (.there (.there (.there (.there (.there .here)))))))) | exact .there (.there (.there (.there (.there (.there (.there (.there (.there (.there .here))))))))) | exact .there (.there (.there (.there (.there (.there (.there (.there (.there (.there (.there .here)))))))))) | exact .there (.there (.there (.there (.there (.there (.there (.there (.there (.there (.there (.there .here))))))))))) | exact .there (.there (.there (.there (.there (.there (.there (.there (.there (.there (.there (.there (.there .here)))))))))))) | exact .there (.there (.there (.there (.there (.there (.there (.there (.there (.there (.there (.there (.there (.there .here))))))))))))) | exact .there (.there (.there (.there (.there (.there (.there (.there (.there (.there (.there (.there (.there (.there (.there .here)))))))))))))))) rfl (fun h => h))).bs (SlG.two (F := Nobody) (.slice (some ⟨b7, 0, none⟩) 16 16) (.slice (some ⟨b9, 0, none⟩) 16 16) (hH.get (b := b125) (by first | exact .here | exact .there .here | exact .there (.there .here) | exact .there (.there (.there .here)) | exact .there (.there (.there (.there .here))) | exact .there (.there (.there (.there (.there .here)))) | exact .there (.there (.there (.there (.there (.there .here))))) | exact .there (.there (.there (.there (.there (.there (.there .here)))))) | exact .there (.there (.there (.there (.there (.there (.there (.there .here))))))) | exact .there (.there (.there (.there (.there (.there (.there (.there (.there .here)))))))) | exact .there (.there (.there (.there (.there (.there (.there (.there (.there (.there .here))))))))) | exact .there (.there (.there (.there (.there (.there (.there (.there (.there (.there (.there .here)))))))))) | exact .there (.there (.there (.there (.there (.there (.there (.there (.there (.there (.there (.there .here))))))))))) | exact .there (.there (.there (.there (.there (.there (.there (.there (.there (.there (.there (.there (.there .here)))))))))))) | exact .there (.there (.there (.there (.there (.there (.there (.there (.there (.there (.there (.there (.there (.there .here))))))))))))) | exact .there (.there (.there (.there (.there (.there (.there (.there (.there (.there (.there (.there (.there (.there (.there .here)))))))))))))))) (fun h => h) (BsF.block (F := Nobody) (hH.get (b := b7) (by first | exact .here | exact .there .here | exact .there (.there .here) | exact .there (.there (.there .here)) | exact .there (.there (.there (.there .here))) | exact .there (.there (.there (.there (.there .here)))) | exact .there (.there (.there (.there (.there (.there .here))))) | exact .there (.there (.there (.there (.there (.there (.there .here)))))) | exact .there (.there (.there (.there (.there (.there (.there (.there .here))))))) | exact .there (.there (.there (.there (.there (.there (.there (.there (.there .here)))))))) | exact .there (.there (.there (.there (.there (.there (.there (.there (.there (.there .here))))))))) | exact .there (.there (.there (.there (.there (.there (.there (.there (.there (.there (.there .here)))))))))) | exact .there (.there (.there (.there (.there (.there (.there (.there (.there (.there (.there (.there .here))))))))))) | exact .there (.there (.there (.there (.there (.there (.there (.there (.there (.there (.there (.there (.there .here)))))))))))) | exact .there (.there (.there (.there (.there (.there (.there (.there (.there (.there (.there (.there (.there (.there .here))))))))))))) | exact .there (.there (.there (.there (.there (.there (.there (.there (.there (.there (.there (.there (.there (.there (.there .here)))))))))))))))) rfl (fun h => h)) (BsF.block (F := Nobody) (hH.get (b := b9) (by first | exact .here | exact .there .here | exact .there (.there .here) | exact .there (.there (.there .here)) | exact .there (.there (.there (.there .here))) | exact .there (.there (.there (.there (.there .here)))) | exact .there (.there (.there (.there (.there (.there .here))))) | exact .there (.there (.there (.there (.there (.there (.there .here)))))) | exact .there (.there (.there (.there (.there (.there (.there (.there .here))))))) | exact .there (.there (.there (.there (.there (.there (.there (.there (.there .here)))))))) | exact .there (.there (.there (.there (.there (.there (.there (.there (.there (.there .here))))))))) | exact .there (.there (.there (.there (.there (.there (.there (.there (.there (.there (.there .here)))))))))) | exact .there (.there (.there (.there (.there (.there (.there (.there (.there (.there (.there (.there .here))))))))))) | exact .there (.there (.there (.there (.there (.there (.there (.there (.there (.there (.there (.there (.there .here)))))))))))) | exact .there (.there (.there (.there (.there (.there (.there (.there (.there (.there (.there (.there (.there (.there .here))))))))))))) | exact .there (.there (.there (.there (.there (.there (.there (.there (.there (.there (.there (.there (.there (.there (.there .here)))))))))))))))) rfl (fun h => h)))) ?_
      rintro e w1 ⟨r, K, rfl, hKN, hHR, hE⟩
      replace hH := hH.ext hE
      have hr : r = true := by
        cases r
        · have h6 := hHR.no rfl 6 (by omega) ((HasN16 rfl).2 hns)
          exact absurd rfl (hKN.least _ hcl 6 h6).2.2
        · rfl
      subst hr
      refine ⟨_, rfl, hH.kp (by repeat (first | exact Sub.nil | refine Sub.cons ?_ ?_ | exact In.here | refine In.there ?_)), ?_⟩
      clear hS; intro a hS
      refine r_pickT hS trivial rfl rfl rfl rfl ?_; clear hS; intro a hS
      refine r_move hS trivial rfl rfl ?_; clear hS; intro a hS
      refine Sq.guardYes hS rfl rfl rfl ?_
      refine r_move hS trivial rfl rfl ?_; clear hS; intro a hS
      refine Sq.guardYes hS rfl rfl rfl ?_
      refine r_slArr hS trivial rfl Fc.ar26 rfl ?_; clear hS; intro a hS
      refine Sq.guardYes hS rfl rfl rfl ?_
      refine r_slArr hS trivial rfl Fc.ar26 rfl ?_; clear hS; intro a hS
      refine Sq.guardYes hS rfl rfl rfl ?_
      refine r_slArr hS trivial rfl Fc.ar26 rfl ?_; clear hS; intro a hS
      refine Sq.guardYes hS rfl rfl rfl ?_
      refine r_buildSlice (parts := [(0, .tmp 131), (1, .tmp 132)]) hS hH (by repeat (first | exact Sub.nil | refine Sub.cons ?_ ?_ | exact In.here | refine In.there ?_)) rfl Fc.bsl60_2 (by rfl) rfl ?_
      clear hS hH; intro a w b133 hb133 hwb133 hS hH
      refine Sq.guardYes hS rfl rfl rfl ?_
      refine r_call (l := [.tmp 129, .tmp 130, .tmp 133]) hS rfl rfl Fc.fn28 rfl ?_
      refine Calls.mono (Hidden_v b V9 ts9 (by omega) hwf9 (by omega) _ _ [s0, s1, s2, s3, s4, s5, s6, s7, s8, s9, sa, sb, sc, sd, se, sf] (by show 16 ≤ _; decide) [[p0, p1, p2, p3, p4, p5, p6, p7, p8, p9, pa, pb, pc, pd, pe, pf], [y0, y1, y2, y3, y4, y5, y6, y7, y8, y9, ya, yb, yc, yd, ye, yf]] (by intro l hl; simp only [List.mem_cons, List.not_mem_nil, or_false] at hl; rcases hl with rfl | rfl <;> (show 16 ≤ _; decide)) (by simp) _ (hH.vin hok9 n019 n239 (by repeat (first | exact In.here | refine In.there ?_)) (by repeat (first | exact In.here | refine In.there ?_)) (by repeat (first | exact In.here | refine In.there ?_)) (by repeat (first | exact In.here | refine In.there ?_))) ((BsF.block (F := Nobody) (hH.get (b := b11) (by first | exact .here | exact .there .here | exact .there (.there .here) | exact .there (.there (.there .here)) | exact .there (.there (.there (.there .here))) | exact .there (.there (.there (.there (.there .here)))) | exact .there (.there (.there (.there (.there (.there .here))))) | exact .there (.there (.there (.there (.there (.there (.there .here)))))) | exact .there (.there (.there (.there (.there (.there (.there (.there .here))))))) | exact .there (.there (.there (.there (.there (.there (.there (.there (.there .here)))))))) | exact .there (.there (.there (.there (.there (.there (.there (.there (.there (.there .here))))))))) | exact .there (.there (.there (.there (.there (.there (.there (.there (.there (.there (.there .here)))))))))) | exact .there (.there (.there (.there (.there (.there (.there (.there (.there (.there (.there (.there .here))))))))))) | exact .there (.there (.there (.there (.there (.there (.there (.there (.there (.there (.there (.there (.there .here)))))))))))) | exact .there (.there (.there (.there (.there (.there (.there (.there (.there (.there (.there (.there (.there (.there .here))))))))))))) | exact .there (.there (.there (.there (.there (.there (.there (.there (.there (.there (.there (.there (.there (.there (.there .here)))))))))))))))) rfl (fun h => h))).bs (SlG.two (F := Nobody) (.slice (some ⟨b7, 0, none⟩) 16 16) (.slice (some ⟨b5, 0, none⟩) 16 16) (hH.get (b := b133) (by first | exact .here | exact .there .here | exact .there (.there .here) | exact .there (.there (.there .here)) | exact .there (.there (.there (.there .here))) | exact .there (.there (.there (.there (.there .here)))) | exact .there (.there (.there (.there (.there (.there .here))))) | exact .there (.there (.there (.there (.there (.there (.there .here)))))) | exact .there (.there (.there (.there (.there (.there (.there (.there .here))))))) | exact .there (.there (.there (.there (.there (.there (.there (.there (.there .here)))))))) | exact .there (.there (.there (.there (.there (.there (.there (.there (.there (.there .here))))))))) | exact .there (.there (.there (.there (.there (.there (.there (.there (.there (.there (.there .here)))))))))) | exact .there (.there (.there (.there (.there (.there (.there (.there (.there (.there (.there (.there .here))))))))))) | exact .there (.there (.there (.there (.there (.there (.there (.there (.there (.there (.there (.there (.there .here)))))))))))) | exact .there (.there (.there (.there (.there (.there (.there (.there (.there (.there (.there (.there (.there (.there .here))))))))))))) | exact .there (.there (.there (.there (.there (.there (.there (.there (.there (.there (.there (.there (.there (.there (.there .here)))))))))))))))) (fun h => h) (BsF.block (F := Nobody) (hH.get (b := b7) (by first | exact .here | exact .there .here | exact .there (.there .here) | exact .there (.there (.there .here)) | exact .there (.there (.there (.there .here))) | exact .there (.there (.there (.there (.there .here)))) | exact .there (.there (.there (.there (.there (.there .here))))) | exact .there (.there (.there (.there (.there (.there (.there .here)))))) | exact .there (.there (.there (.there (.there (.there (.there (.there .here))))))) | exact .there (.there (.there (.there (.there (.there (.there (.there (.there .here)))))))) | exact .there (.there (.there (.there (.there (.there (.there (.there (.there (.there .here))))))))) | exact .there (.there (.there (.there (.there (.there (.there (.there (.there (.there (.there .here)))))))))) | exact .there (.there (.there (.there (.there (.there (.there (.there (.there (.there (.there (.there .here))))))))))) | exact .there (.there (.there (.there (.there (.there (.there (.there (.there (.there (.there (.there (.there .here)))))))))))) | exact .there (.there (.there (.there (.there (.there (.there (.there (.there (.there (.there (.there (.there (.there .here))))))))))))) | exact .there (.there (.there (.there (.there (.there (.there (.there (.there (.there (.there (.there (.there (.there (.there .here)))))))))))))))) rfl (fun h => h)) (BsF.block (F := Nobody) (hH.get (b := b5) (by first | exact .here | exact .there .here | exact .there (.there .here) | exact .there (.there (.there .here)) | exact .there (.there (.there (.there .here))) | exact .there (.there (.there (.there (.there .here)))) | exact .there (.there (.there (.there (.there (.there .here))))) | exact .there (.there (.there (.there (.there (.there (.there .here)))))) | exact .there (.there (.there (.there (.there (.there (.there (.there .here))))))) | exact .there (.there (.there (.there (.there (.there (.there (.there (.there .here)))))))) | exact .there (.there (.there (.there (.there (.there (.there (.there (.there (.there .here))))))))) | exact .there (.there (.there (.there (.there (.there (.there (.there (.there (.there (.there .here)))))))))) | exact .there (.there (.there (.there (.there (.there (.there (.there (.there (.there (.there (.there .here))))))))))) | exact .there (.there (.there (.there (.there (.there (.there (.there (.there (.there (.there (.there (.there .here)))))))))))) | exact .there (.there (.there (.there (.there (.there (.there (.there (.there (.there (.there (.there (.there (.there .here))))))))))))) | exact .there (.there (.there (.there (.there (.there (.there (.there (.there (.there (.there (.there (.there (.there (.there .here)))))))))))))))) rfl (fun h => h)))) ?_
      rintro e w1 ⟨r, K2, rfl, hKN2, hHR2, hE⟩
      replace hH := hH.ext hE
      have hr : r = false := by
        cases r
        · rfl
        · obtain ⟨z, hz, hno⟩ := hHR2.yes rfl
          have hz0 : z = 0 := by have : z + 16 ≤ 16 := hz; omega
          subst hz0
          have k2 : KT K2 2 := hKN2.clos.seen [y0, y1, y2, y3, y4, y5, y6, y7, y8, y9, ya, yb, yc, yd, ye, yf] (by simp) 2 (by omega) ((HasN16 rfl).2 hny)
          have k6 : KT K2 6 := hKN2.clos.reach 6 _ b6_ (.inr ⟨rfl, .inr k2⟩)
          exact absurd k6 (hno 6 (by omega) hns)
      subst hr
      refine ⟨_, rfl, hH.kp (by repeat (first | exact Sub.nil | refine Sub.cons ?_ ?_ | exact In.here | refine In.there ?_)), ?_⟩
      clear hS; intro a hS
      refine Sq.guardYes hS rfl rfl rfl ?_
      refine r_not hS trivial rfl rfl ?_; clear hS; intro a hS
      refine r_pickT hS trivial rfl rfl rfl rfl ?_; clear hS; intro a hS
      refine r_assign hS trivial rfl rfl ?_; clear hS; intro a hS
      refine Sq.nil ?_
      refine then_n ?_
      refine tr_nil ?_
      refine then_n ?_
      refine wp_ret ?_
      exact leave (.inl rfl) hS rfl (Res.tmp rfl Res.nil) ⟨rfl, hH.mod⟩
  · refine tr_seg ?_
    refine Sq.guardYes hS rfl rfl rfl ?_
    refine r_buildSlice (parts := [(0, .const (.int .u8 0))]) hS hH (by repeat (first | exact Sub.nil | refine Sub.cons ?_ ?_ | exact In.here | refine In.there ?_)) rfl Fc.bsl22_1 (by rfl) rfl ?_
    clear hS hH; intro a w b114 hb114 hwb114 hS hH
    refine Sq.guardYes hS rfl rfl rfl ?_
    refine r_buildSlice0 hS hH (by repeat (first | exact Sub.nil | refine Sub.cons ?_ ?_ | exact In.here | refine In.there ?_)) Fc.uls22 Fc.inf5 rfl ?_
    clear hS hH; intro a w b111 hb111 hwb111 hS hH
    refine Sq.guardYes hS rfl rfl rfl ?_
    refine r_append_own (l := []) hS hH rfl rfl (by first | exact .here | exact .there .here | exact .there (.there .here) | exact .there (.there (.there .here)) | exact .there (.there (.there (.there .here))) | exact .there (.there (.there (.there (.there .here)))) | exact .there (.there (.there (.there (.there (.there .here))))) | exact .there (.there (.there (.there (.there (.there (.there .here)))))) | exact .there (.there (.there (.there (.there (.there (.there (.there .here))))))) | exact .there (.there (.there (.there (.there (.there (.there (.there (.there .here)))))))) | exact .there (.there (.there (.there (.there (.there (.there (.there (.there (.there .here))))))))) | exact .there (.there (.there (.there (.there (.there (.there (.there (.there (.there (.there .here)))))))))) | exact .there (.there (.there (.there (.there (.there (.there (.there (.there (.there (.there (.there .here))))))))))) | exact .there (.there (.there (.there (.there (.there (.there (.there (.there (.there (.there (.there (.there .here)))))))))))) | exact .there (.there (.there (.there (.there (.there (.there (.there (.there (.there (.there (.there (.there (.there .here))))))))))))) | exact .there (.there (.there (.there (.there (.there (.there (.there (.there (.there (.there (.there (.there (.there (.there .here))))))))))))))) (by repeat (first | exact Sub.nil | refine Sub.cons ?_ ?_ | exact In.here | refine In.there ?_)) Fc.el22 Fc.ni22 rfl (Nat.le_refl _) (hb0.bs.ext hH.mod).src (by omega) (.inr hb111) rfl ?_
    clear hS hH; intro a w ob cap1 l1 hob hl1 hc1_ htk1 _ hS hH
    rw [Nat.zero_add] at hS hc1_ htk1
    refine Sq.guardYes hS rfl rfl rfl ?_
    refine r_append_own hS hH rfl rfl (by first | exact .here | exact .there .here | exact .there (.there .here) | exact .there (.there (.there .here)) | exact .there (.there (.there (.there .here))) | exact .there (.there (.there (.there (.there .here)))) | exact .there (.there (.there (.there (.there (.there .here))))) | exact .there (.there (.there (.there (.there (.there (.there .here)))))) | exact .there (.there (.there (.there (.there (.there (.there (.there .here))))))) | exact .there (.there (.there (.there (.there (.there (.there (.there (.there .here)))))))) | exact .there (.there (.there (.there (.there (.there (.there (.there (.there (.there .here))))))))) | exact .there (.there (.there (.there (.there (.there (.there (.there (.there (.there (.there .here)))))))))) | exact .there (.there (.there (.there (.there (.there (.there (.there (.there (.there (.there (.there .here))))))))))) | exact .there (.there (.there (.there (.there (.there (.there (.there (.there (.there (.there (.there (.there .here)))))))))))) | exact .there (.there (.there (.there (.there (.there (.there (.there (.there (.there (.there (.there (.there (.there .here))))))))))))) | exact .there (.there (.there (.there (.there (.there (.there (.there (.there (.there (.there (.there (.there (.there (.there .here))))))))))))))) (by repeat (first | exact Sub.nil | refine Sub.cons ?_ ?_ | exact In.here | refine In.there ?_)) Fc.el22 Fc.ni22 hl1 hc1_ (Bs.byte (u := 0) (hH.get (b := b114) (by repeat (first | exact In.here | refine In.there ?_)))).src (by simp; omega) hob rfl ?_
    clear hS hH; intro a w ob2 cap2 l2 hob2 hl2_ hc2_ htk2 _ hS hH
    have hrF : Bs w (.slice (some ⟨ob2, 0, none⟩) (la.length + [(0 : UInt8)].length) cap2) (la ++ [0]) := (BsF.row (F := Nobody) (hH.get (b := ob2) .here) (fun h => h) hl2_ hc2_ (by rw [htk2, htk1]; simp [byteV]) (by simp)).bs
    refine Sq.guardYes hS rfl rfl rfl ?_
    refine r_call (l := [.tmp 109, .tmp 110, .tmp 115, .tmp 116]) hS rfl rfl Fc.fn45 rfl ?_
    refine Calls.mono (Verify_v b V9 ts9 [p0, p1, p2, p3, p4, p5, p6, p7, p8, p9, pa, pb, pc, pd, pe, pf] rfl [m0, m1, m2, m3, m4, m5, m6, m7, m8, m9, ma, mb, mc, md, me, mf] rfl _ (la ++ [0]) (by simp; omega) 4 8 _ hnp b4_ rfl (by unfold fits; decide) hnm (by omega) (by omega) _ (hH.vin hok9 n019 n239 (by repeat (first | exact In.here | refine In.there ?_)) (by repeat (first | exact In.here | refine In.there ?_)) (by repeat (first | exact In.here | refine In.there ?_)) (by repeat (first | exact In.here | refine In.there ?_))) hrF) ?_
    rintro e w1 ⟨x_, rfl, hx, hE⟩
    replace hH := hH.ext hE
    obtain rfl : x_ = 21 := by
      rcases hx with ⟨_, h⟩ | ⟨h, _⟩
      · rw [b8_] at h; have h2 : strOf la = strOf (la ++ [0]) := congrArg Tm.bytes (Option.some.inj h); exact absurd (congrArg List.length (strOf_inj h2)) (by simp)
      · exact h
    refine ⟨_, rfl, hH.kp (by repeat (first | exact Sub.nil | refine Sub.cons ?_ ?_ | exact In.here | refine In.there ?_)), ?_⟩
    clear hS; intro a hS
    refine Sq.guardYes hS rfl rfl rfl ?_
    refine r_eql hS trivial rfl rfl rfl ?_; clear hS; intro a hS
    refine r_pickT hS trivial rfl rfl rfl rfl ?_; clear hS; intro a hS
    refine r_move hS trivial rfl rfl ?_; clear hS; intro a hS
    refine Sq.guardYes hS rfl rfl rfl ?_
    refine r_move hS trivial rfl rfl ?_; clear hS; intro a hS
    refine Sq.guardYes hS rfl rfl rfl ?_
    refine r_slArr hS trivial rfl Fc.ar26 rfl ?_; clear hS; intro a hS
    refine Sq.guardYes hS rfl rfl rfl ?_
    refine r_slArr hS trivial rfl Fc.ar26 rfl ?_; clear hS; intro a hS
    refine Sq.guardYes hS rfl rfl rfl ?_
    refine r_slArr hS trivial rfl Fc.ar26 rfl ?_; clear hS; intro a hS
    refine Sq.guardYes hS rfl rfl rfl ?_
    refine r_buildSlice (parts := [(0, .tmp 123), (1, .tmp 124)]) hS hH (by repeat (first | exact Sub.nil | refine Sub.cons ?_ ?_ | exact In.here | refine In.there ?_)) rfl Fc.bsl60_2 (by rfl) rfl ?_
    clear hS hH; intro a w b125 hb125 hwb125 hS hH
    refine Sq.guardYes hS rfl rfl rfl ?_
    refine r_call (l := [.tmp 121, .tmp 122, .tmp 125]) hS rfl rfl Fc.fn28 rfl ?_
    refine Calls.mono (Hidden_v b V9 ts9 (by omega) hwf9 (by omega) _ _ [s0, s1, s2, s3, s4, s5, s6, s7, s8, s9, sa, sb, sc, sd, se, sf] (by show 16 ≤ _; decide) [[p0, p1, p2, p3, p4, p5, p6, p7, p8, p9, pa, pb, pc, pd, pe, pf], [q0, q1, q2, q3, q4, q5, q6, q7, q8, q9, qa, qb, qc, qd, qe, qf]] (by intro l hl; simp only [List.mem_cons, List.not_mem_nil, or_false] at hl; rcases hl with rfl | rfl <;> (show 16 ≤ _; decide)) (by simp) _ (hH.vin hok9 n019 n239 (by repeat (first | exact In.here | refine In.there ?_)) (by repeat (first | exact In.here | refine In.there ?_)) (by repeat (first | exact In.here | refine In.there ?_)) (by repeat (first | exact In.here | refine In.there ?_))) ((BsF.block (F := Nobody) (hH.get (b := b11) (by first | exact .here | exact .there .here | exact .there (.there .here) | exact .there (.there (.there .here)) | exact .there (.there (.there (.there .here))) | exact .there (.there (.there (.there (.there .here)))) | exact .there (.there (.there (.there (.there (.there .here))))) | exact .there (.there (.there (.there (.there (.there (.there .here)))))) | exact .there (.there (.there (.there (.there (.there (.there (.there .here))))))) | exact .there (.there (.there (.there (.there (.there (.there (.there (.there .here)))))))) | exact .there (.there (.there (.there (.there (.there (.there (.there (.there (.there .here))))))))) | exact .there (.there (.there (.there (.there (.there (.there (.there (.there (.there (.there .here)))))))))) | exact .there (.there (.there (.there (.there (.there (.there (.there (.there (.there (.there (.there .here))))))))))) | exact .there (.there (.there (.there (.there (.there (.there (.there (.there (.there (.there (.there (.there .here)))))))))))) | exact .there (.there (.there (.there (.there (.there (.there (.there (.there (.there (.there (.there (.there (.there .here))))))))))))) | exact .there (.there (.there (.there (.there (.there (.there (.there (.there (.there (.there (.there (.there (.there (.there .here)))))))))))))))) rfl (fun h => h))).bs (SlG.two (F := Nobody) (.slice (some ⟨b7, 0, none⟩) 16 16) (.slice (some ⟨b9, 0, none⟩) 16 16) (hH.get (b := b125) (by first | exact .here | exact .there .here | exact .there (.there .here) | exact .there (.there (.there .here)) | exact .there (.there (.there (.there .here))) | exact .there (.there (.there (.there (.there .here)))) | exact .there (.there (.there (.there (.there (.there .here))))) | exact .there (.there (.there (.there (.there (.there (.there .here)))))) | exact .there (.there (.there (.there (.there (.there (.there (.there .here))))))) | exact .there (.there (.there (.there (.there (.there (.there (.there (.there .here)))))))) | exact .there (.there (.there (.there (.there (.there (.there (.there (.there (.there .here))))))))) | exact .there (.there (.there (.there (.there (.there (.there (.there (.there (.there (.there .here)))))))))) | exact .there (.there (.there (.there (.there (.there (.there (.there (.there (.there (.there (.there .here))))))))))) | exact .there (.there (.there (.there (.there (.there (.there (.there (.there (.there (.there (.there (.there .here)))))))))))) | exact .there (.there (.there (.there (.there (.there (.there (.there (.there (.there (.there (.there (.there (.there .here))))))))))))) | exact .there (.there (.there (.there (.there (.there (.there (.there (.there (.there (.there (.there (.there (.there (.there .here)))))))))))))))) (fun h => h) (BsF.block (F := Nobody) (hH.get (b := b7) (by first | exact .here | exact .there .here | exact .there (.there .here) | exact .there (.there (.there .here)) | exact .there (.there (.there (.there .here))) | exact .there (.there (.there (.there (.there .here)))) | exact .there (.there (.there (.there (.there (.there .here))))) | exact .there (.there (.there (.there (.there (.there (.there .here)))))) | exact .there (.there (.there (.there (.there (.there (.there (.there .here))))))) | exact .there (.there (.there (.there (.there (.there (.there (.there (.there .here)))))))) | exact .there (.there (.there (.there (.there (.there (.there (.there (.there (.there .here))))))))) | exact .there (.there (.there (.there (.there (.there (.there (.there (.there (.there (.there .here)))))))))) | exact .there (.there (.there (.there (.there (.there (.there (.there (.there (.there (.there (.there .here))))))))))) | exact .there (.there (.there (.there (.there (.there (.there (.there (.there (.there (.there (.there (.there .here)))))))))))) | exact .there (.there (.there (.there (.there (.there (.there (.there (.there (.there (.there (.there (.there (.there .here))))))))))))) | exact .there (.there (.there (.there (.there (.there (.there (.there (.there (.there (.there (.there (.there (.there (.there .here)))))))))))))))) rfl (fun h => h)) (BsF.block (F := Nobody) (hH.get (b := b9) (by first | exact .here | exact .there .here | exact .there (.there .here) | exact .there (.there (.there .here)) | exact .there (.there (.there (.there .here))) | exact .there (.there (.there (.there (.there .here)))) | exact .there (.there (.there (.there (.there (.there .here))))) | exact .there (.there (.there (.there (.there (.there (.there .here)))))) | exact .there (.there (.there (.there (.there (.there (.there (.there .here))))))) | exact .there (.there (.there (.there (.there (.there (.there (.there (.there .here)))))))) | exact .there (.there (.there (.there (.there (.there (.there (.there (.there (.there .here))))))))) | exact .there (.there (.there (.there (.there (.there (.there (.there (.there (.there (.there .here)))))))))) | exact .there (.there (.there (.there (.there (.there (.there (.there (.there (.there (.there (.there .here))))))))))) | exact .there (.there (.there (.there (.there (.there (.there (.there (.there (.there (.there (.there (.there .here)))))))))))) | exact .there (.there (.there (.there (.there (.there (.there (.there (.there (.there (.there (.there (.there (.there .here))))))))))))) | exact .there (.there (.there (.there (.there (.there (.there (.there (.there (.there (.there (.there (.there (.there (.there .here)))))))))))))))) rfl (fun h => h)))) ?_
    rintro e w1 ⟨r, K, rfl, hKN, hHR, hE⟩
    replace hH := hH.ext hE
    have hr : r = true := by
      cases r
      · have h6 := hHR.no rfl 6 (by omega) ((HasN16 rfl).2 hns)
        exact absurd rfl (hKN.least _ hcl 6 h6).2.2
      · rfl
    subst hr
    refine ⟨_, rfl, hH.kp (by repeat (first | exact Sub.nil | refine Sub.cons ?_ ?_ | exact In.here | refine In.there ?_)), ?_⟩
    clear hS; intro a hS
    refine r_pickT hS trivial rfl rfl rfl rfl ?_; clear hS; intro a hS
    refine r_move hS trivial rfl rfl ?_; clear hS; intro a hS
    refine Sq.guardYes hS rfl rfl rfl ?_
    refine r_move hS trivial rfl rfl ?_; clear hS; intro a hS
    refine Sq.guardYes hS rfl rfl rfl ?_
    refine r_slArr hS trivial rfl Fc.ar26 rfl ?_; clear hS; intro a hS
    refine Sq.guardYes hS rfl rfl rfl ?_
    refine r_slArr hS trivial rfl Fc.ar26 rfl ?_; clear hS; intro a hS
    refine Sq.guardYes hS rfl rfl rfl ?_
    refine r_slArr hS trivial rfl Fc.ar26 rfl ?_; clear hS; intro a hS
    refine Sq.guardYes hS rfl rfl rfl ?_
    refine r_buildSlice (parts := [(0, .tmp 131), (1, .tmp 132)]) hS hH (by repeat (first | exact Sub.nil | refine Sub.cons ?_ ?_ | exact In.here | refine In.there ?_)) rfl Fc.bsl60_2 (by rfl) rfl ?_
    clear hS hH; intro a w b133 hb133 hwb133 hS hH
    refine Sq.guardYes hS rfl rfl rfl ?_
    refine r_call (l := [.tmp 129, .tmp 130, .tmp 133]) hS rfl rfl Fc.fn28 rfl ?_
    refine Calls.mono (Hidden_v b V9 ts9 (by omega) hwf9 (by omega) _ _ [s0, s1, s2, s3, s4, s5, s6, s7, s8, s9, sa, sb, sc, sd, se, sf] (by show 16 ≤ _; decide) [[p0, p1, p2, p3, p4, p5, p6, p7, p8, p9, pa, pb, pc, pd, pe, pf], [y0, y1, y2, y3, y4, y5, y6, y7, y8, y9, ya, yb, yc, yd, ye, yf]] (by intro l hl; simp only [List.mem_cons, List.not_mem_nil, or_false] at hl; rcases hl with rfl | rfl <;> (show 16 ≤ _; decide)) (by simp) _ (hH.vin hok9 n019 n239 (by repeat (first | exact In.here | refine In.there ?_)) (by repeat (first | exact In.here | refine In.there ?_)) (by repeat (first | exact In.here | refine In.there ?_)) (by repeat (first | exact In.here | refine In.there ?_))) ((BsF.block (F := Nobody) (hH.get (b := b11) (by first | exact .here | exact .there .here | exact .there (.there .here) | exact .there (.there (.there .here)) | exact .there (.there (.there (.there .here))) | exact .there (.there (.there (.there (.there .here)))) | exact .there (.there (.there (.there (.there (.there .here))))) | exact .there (.there (.there (.there (.there (.there (.there .here)))))) | exact .there (.there (.there (.there (.there (.there (.there (.there .here))))))) | exact .there (.there (.there (.there (.there (.there (.there (.there (.there .here)))))))) | exact .there (.there (.there (.there (.there (.there (.there (.there (.there (.there .here))))))))) | exact .there (.there (.there (.there (.there (.there (.there (.there (.there (.there (.there .here)))))))))) | exact .there (.there (.there (.there (.there (.there (.there (.there (.there (.there (.there (.there .here))))))))))) | exact .there (.there (.there (.there (.there (.there (.there (.there (.there (.there (.there (.there (.there .here)))))))))))) | exact .there (.there (.there (.there (.there (.there (.there (.there (.there (.there (.there (.there (.there (.there .here))))))))))))) | exact .there (.there (.there (.there (.there (.there (.there (.there (.there (.there (.there (.there (.there (.there (.there .here)))))))))))))))) rfl (fun h => h))).bs (SlG.two (F := Nobody) (.slice (some ⟨b7, 0, none⟩) 16 16) (.slice (some ⟨b5, 0, none⟩) 16 16) (hH.get (b := b133) (by first | exact .here | exact .there .here | exact .there (.there .here) | exact .there (.there (.there .here)) | exact .there (.there (.there (.there .here))) | exact .there (.there (.there (.there (.there .here)))) | exact .there (.there (.there (.there (.there (.there .here))))) | exact .there (.there (.there (.there (.there (.there (.there .here)))))) | exact .there (.there (.there (.there (.there (.there (.there (.there .here))))))) | exact .there (.there (.there (.there (.there (.there (.there (.there (.there .here)))))))) | exact .there (.there (.there (.there (.there (.there (.there (.there (.there (.there .here))))))))) | exact .there (.there (.there (.there (.there (.there (.there (.there (.there (.there (.there .here)))))))))) | exact .there (.there (.there (.there (.there (.there (.there (.there (.there (.there (.there (.there .here))))))))))) | exact .there (.there (.there (.there (.there (.there (.there (.there (.there (.there (.there (.there (.there .here)))))))))))) | exact .there (.there (.there (.there (.there (.there (.there (.there (.there (.there (.there (.there (.there (.there .here))))))))))))) | exact .there (.there (.there (.there (.there (.there (.there (.there (.there (.there (.there (.there (.there (.there (.there .here)))))))))))))))) (fun h => h) (BsF.block (F := Nobody) (hH.get (b := b7) (by first | exact .here | exact .there .here | exact .there (.there .here) | exact .there (.there (.there .here)) | exact .there (.there (.there (.there .here))) | exact .there (.there (.there (.there (.there .here)))) | exact .there (.there (.there (.there (.there (.there .here))))) | exact .there (.there (.there (.there (.there (.there (.there .here)))))) | exact .there (.there (.there (.there (.there (.there (.there (.there .here))))))) | exact .there (.there (.there (.there (.there (.there (.there (.there (.there .here)))))))) | exact .there (.there (.there (.there (.there (.there (.there (.there (.there (.there .here))))))))) | exact .there (.there (.there (.there (.there (.there (.there (.there (.there (.there (.there .here)))))))))) | exact .there (.there (.there (.there (.there (.there (.there (.there (.there (.there (.there (.there .here))))))))))) | exact .there (.there (.there (.there (.there (.there (.there (.there (.there (.there (.there (.there (.there .here)))))))))))) | exact .there (.there (.there (.there (.there (.there (.there (.there (.there (.there (.there (.there (.there (.there .here))))))))))))) | exact .there (.there (.there (.there (.there (.there (.there (.there (.there (.there (.there (.there (.there (.there (.there .here)))))))))))))))) rfl (fun h => h)) (BsF.block (F := Nobody) (hH.get (b := b5) (by first | exact .here | exact .there .here | exact .there (.there .here) | exact .there (.there (.there .here)) | exact .there (.there (.there (.there .here))) | exact .there (.there (.there (.there (.there .here)))) | exact .there (.there (.there (.there (.there (.there .here))))) | exact .there (.there (.there (.there (.there (.there (.there .here)))))) | exact .there (.there (.there (.there (.there (.there (.there (.there .here))))))) | exact .there (.there (.there (.there (.there (.there (.there (.there (.there .here)))))))) | exact .there (.there (.there (.there (.there (.there (.there (.there (.there (.there .here))))))))) | exact .there (.there (.there (.there (.there (.there (.there (.there (.there (.there (.there .here)))))))))) | exact .there (.there (.there (.there (.there (.there (.there (.there (.there (.there (.there (.there .here))))))))))) | exact .there (.there (.there (.there (.there (.there (.there (.there (.there (.there (.there (.there (.there .here)))))))))))) | exact .there (.there (.there (.there (.there (.there (.there (.there (.there (.there (.there (.there (.there (.there .here))))))))))))) | exact .there (.there (.there (.there (.there (.there (.there (.there (.there (.there (.there (.there (.there (.there (.there .here)))))))))))))))) rfl (fun h => h)))) ?_
    rintro e w1 ⟨r, K2, rfl, hKN2, hHR2, hE⟩
    replace hH := hH.ext hE
    have hr : r = false := by
      cases r
      · rfl
      · obtain ⟨z, hz, hno⟩ := hHR2.yes rfl
        have hz0 : z = 0 := by have : z + 16 ≤ 16 := hz; omega
        subst hz0
        have k2 : KT K2 2 := hKN2.clos.seen [y0, y1, y2, y3, y4, y5, y6, y7, y8, y9, ya, yb, yc, yd, ye, yf] (by simp) 2 (by omega) ((HasN16 rfl).2 hny)
        have k6 : KT K2 6 := hKN2.clos.reach 6 _ b6_ (.inr ⟨rfl, .inr k2⟩)
        exact absurd k6 (hno 6 (by omega) hns)
    subst hr
    refine ⟨_, rfl, hH.kp (by repeat (first | exact Sub.nil | refine Sub.cons ?_ ?_ | exact In.here | refine In.there ?_)), ?_⟩
    clear hS; intro a hS
    refine Sq.guardYes hS rfl rfl rfl ?_
    refine r_not hS trivial rfl rfl ?_; clear hS; intro a hS
    refine r_pickT hS trivial rfl rfl rfl rfl ?_; clear hS; intro a hS
    refine r_assign hS trivial rfl rfl ?_; clear hS; intro a hS
    refine Sq.nil ?_
    refine then_n ?_
    refine tr_nil ?_
    refine then_n ?_
    refine wp_ret ?_
    exact leave (.inl rfl) hS rfl (Res.tmp rfl Res.nil) ⟨rfl, hH.mod⟩

end Go.Proofs.Ytcjmehononbadaa
