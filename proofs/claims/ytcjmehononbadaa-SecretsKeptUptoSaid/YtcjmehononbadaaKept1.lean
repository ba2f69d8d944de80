/- SecretsKept: two sides that agreed have the same secrets, and who saw all that was said knows none of them, unless a secret of one side is known. Part Kept1: walks and lemmas of the proof. -/
import Derived.Test.YtcjmehononbadaaAgree1
namespace Go.Proofs.Ytcjmehononbadaa
open Go.Sym

theorem Fc.bsl32_4 : bslB Try.prog 32 4 = some (26, 16, [.int .u8 0, .int .u8 0, .int .u8 0, .int .u8 0, .int .u8 0, .int .u8 0, .int .u8 0, .int .u8 0, .int .u8 0, .int .u8 0, .int .u8 0, .int .u8 0, .int .u8 0, .int .u8 0, .int .u8 0, .int .u8 0, .int .u8 0, .int .u8 0, .int .u8 0, .int .u8 0, .int .u8 0, .int .u8 0, .int .u8 0, .int .u8 0, .int .u8 0, .int .u8 0, .int .u8 0, .int .u8 0, .int .u8 0, .int .u8 0, .int .u8 0, .int .u8 0, .int .u8 0, .int .u8 0, .int .u8 0, .int .u8 0, .int .u8 0, .int .u8 0, .int .u8 0, .int .u8 0, .int .u8 0, .int .u8 0, .int .u8 0, .int .u8 0, .int .u8 0, .int .u8 0, .int .u8 0, .int .u8 0, .int .u8 0, .int .u8 0, .int .u8 0, .int .u8 0, .int .u8 0, .int .u8 0, .int .u8 0, .int .u8 0, .int .u8 0, .int .u8 0, .int .u8 0, .int .u8 0, .int .u8 0, .int .u8 0, .int .u8 0, .int .u8 0]) := by kernel_rfl
theorem Fc.bsl60_7 : bslB Try.prog 60 7 = some (22, 1, [.slice none 0 0, .slice none 0 0, .slice none 0 0, .slice none 0 0, .slice none 0 0, .slice none 0 0, .slice none 0 0]) := by kernel_rfl
theorem Fc.fn11 : isFn Try.prog 11 = true := by kernel_rfl
theorem Fc.fn12 : isFn Try.prog 12 = true := by kernel_rfl
theorem Fc.fn13 : isFn Try.prog 13 = true := by kernel_rfl
theorem Fc.fn14 : isFn Try.prog 14 = true := by kernel_rfl
theorem Fc.fn15 : isFn Try.prog 15 = true := by kernel_rfl
theorem Fc.fn28 : isFn Try.prog 28 = true := by kernel_rfl
theorem Fc.fn31 : isFn Try.prog 31 = true := by kernel_rfl
theorem Fc.fn32 : isFn Try.prog 32 = true := by kernel_rfl
theorem Fc.fn33 : isFn Try.prog 33 = true := by kernel_rfl
theorem Fc.fn34 : isFn Try.prog 34 = true := by kernel_rfl
theorem Fc.fn42 : isFn Try.prog 42 = true := by kernel_rfl
theorem Fc.fn43 : isFn Try.prog 43 = true := by kernel_rfl
theorem Fc.isSlice32 : isSlice Try.prog 32 = true := by kernel_rfl
theorem Fc.slb32 : slB Try.prog 32 = some 16 := by kernel_rfl
def lb_cd : ByteArray := { data := #[99, 108, 105, 101, 110, 116, 32, 100, 97, 116, 97] }
set_option maxRecDepth 100000 in
set_option maxHeartbeats 16000000 in
theorem kept_law (va vc : Value) (la lc : List UInt8) (hA : la.length ≤ 1048576) (hC : lc.length ≤ 1048576) (w0 : World) (hb0 : BsF Nobody w0 va la) (hb1 : BsF Nobody w0 vc lc) : Calls Try.prog 10 #[va, vc] w0 fun e w' => e = .returned (.bool true) ∧ Ext w0 w' := by
  refine enter Try.func10 rfl rfl rfl ?_
  intro a hS
  have hH := Hp.start w0 (Nobody)
  have hxa := hb0.bs
  obtain ⟨qa, qca, hsla⟩ := hxa
  have hva := hsla.val
  subst hva
  have hxc := hb1.bs
  obtain ⟨qc, qcc, hslc⟩ := hxc
  have hvc := hslc.val
  subst hvc
  refine c_seq ?_
  refine reg_plain w0 (Nobody) ?_
  refine r_assign hS hH.kp0 rfl rfl ?_; clear hS; intro a hS
  refine Sq.nil ?_
  refine then_n ?_
  refine c_seq ?_
  refine reg_plain w0 (Nobody) ?_
  refine r_call (l := []) hS rfl rfl Fc.fn11 rfl ?_
  refine Calls.mono (New_c _) ?_
  rintro e w1 ⟨b, V, rfl, hvi, hE, hVF⟩
  have hsz := hH.mod.size
  have hVS : VS Nobody w0 b V := fun x hx => .inr (Nat.le_trans hsz (hVF x hx))
  replace hH := (hH.ext hE).knowV hvi (by intro p hp; simp at hp)
  obtain ⟨ts, hts⟩ : ∃ ts, ts = [rootT] := ⟨_, rfl⟩
  rw [← hts] at hvi hH
  have hok := hvi.ok
  have n01 := hvi.n01
  have n23 := hvi.n23
  have htl : ts.length = 1 := by rw [hts]; rfl
  have hwf : Wf ts := by rw [hts]; exact Wf.root
  refine ⟨_, rfl, hH.kp0, ?_⟩
  clear hS; intro a hS
  refine r_assign hS hH.kp0 rfl rfl ?_; clear hS; intro a hS
  refine Sq.nil ?_
  refine then_n ?_
  refine c_seq ?_
  refine c_seq ?_
  refine reg_plain w0 (Nobody) ?_
  refine r_move hS hH.kp0 rfl rfl ?_; clear hS; intro a hS
  refine r_ptrNil hS hH.kp0 rfl Fc.isPtr23 rfl ?_; clear hS; intro a hS
  refine Sq.nil ?_
  refine then_n ?_
  refine c_condF hS rfl rfl ?_
  refine wp_skip ?_
  refine then_n ?_
  refine c_seq ?_
  refine reg_plain w0 (Nobody) ?_
  refine r_move hS hH.kp0 rfl rfl ?_; clear hS; intro a hS
  refine r_call (l := [.tmp 31]) hS rfl rfl Fc.fn14 rfl ?_
  refine Calls.mono (Fresh_v b V ts (by omega) _ (hH.vin hok n01 n23 (by repeat (first | exact In.here | refine In.there ?_)) (by repeat (first | exact In.here | refine In.there ?_)) (by repeat (first | exact In.here | refine In.there ?_)) (by repeat (first | exact In.here | refine In.there ?_)))) ?_
  rintro e w1 ⟨h, V1, rfl, hnx, hvi1, hst⟩
  obtain ⟨x0, x1, x2, x3, x4, x5, x6, x7, x8, x9, xa, xb, xc, xd, xe, xf, rfl⟩ := len16 (h := h) (by rw [hnx]; rfl)
  rw [htl] at hnx
  obtain ⟨ts1, hts1⟩ : ∃ z, z = ts ++ [freshT] := ⟨_, rfl⟩
  rw [← hts1] at hvi1
  have hVS1 := hVS.step hst hH.mod.size
  replace hH := hH.vault hVS hst hvi1 (by first | exact .here | exact .there .here | exact .there (.there .here) | exact .there (.there (.there .here)) | exact .there (.there (.there (.there .here))) | exact .there (.there (.there (.there (.there .here)))) | exact .there (.there (.there (.there (.there (.there .here))))) | exact .there (.there (.there (.there (.there (.there (.there .here)))))) | exact .there (.there (.there (.there (.there (.there (.there (.there .here))))))) | exact .there (.there (.there (.there (.there (.there (.there (.there (.there .here)))))))) | exact .there (.there (.there (.there (.there (.there (.there (.there (.there (.there .here))))))))) | exact .there (.there (.there (.there (.there (.there (.there (.there (.there (.there (.there .here)))))))))) | exact .there (.there (.there (.there (.there (.there (.there (.there (.there (.there (.there (.there .here))))))))))) | exact .there (.there (.there (.there (.there (.there (.there (.there (.there (.there (.there (.there (.there .here)))))))))))) | exact .there (.there (.there (.there (.there (.there (.there (.there (.there (.there (.there (.there (.there (.there .here))))))))))))) | exact .there (.there (.there (.there (.there (.there (.there (.there (.there (.there (.there (.there (.there (.there (.there .here)))))))))))))))
  have hok1 := hvi1.ok
  have n011 := hvi1.n01
  have n231 := hvi1.n23
  clear hst
  have htl1 : ts1.length = 2 := by rw [hts1]; simp [htl]
  have hwf1 : Wf ts1 := by rw [hts1]; exact hwf.push ⟨by decide, by show (0 : Int) < _; omega⟩ ⟨by decide, by show (0 : Int) < _; omega⟩ (by decide)
  refine ⟨_, rfl, hH.kp0, ?_⟩
  clear hS; intro a hS
  refine r_move hS hH.kp0 rfl rfl ?_; clear hS; intro a hS
  refine r_call (l := [.tmp 33]) hS rfl rfl Fc.fn14 rfl ?_
  refine Calls.mono (Fresh_v b V1 ts1 (by omega) _ (hH.vin hok1 n011 n231 (by repeat (first | exact In.here | refine In.there ?_)) (by repeat (first | exact In.here | refine In.there ?_)) (by repeat (first | exact In.here | refine In.there ?_)) (by repeat (first | exact In.here | refine In.there ?_)))) ?_
  rintro e w1 ⟨h, V2, rfl, hny, hvi2, hst⟩
  obtain ⟨y0, y1, y2, y3, y4, y5, y6, y7, y8, y9, ya, yb, yc, yd, ye, yf, rfl⟩ := len16 (h := h) (by rw [hny]; rfl)
  rw [htl1] at hny
  obtain ⟨ts2, hts2⟩ : ∃ z, z = ts1 ++ [freshT] := ⟨_, rfl⟩
  rw [← hts2] at hvi2
  have hVS2 := hVS1.step hst hH.mod.size
  replace hH := hH.vault hVS1 hst hvi2 (by first | exact .here | exact .there .here | exact .there (.there .here) | exact .there (.there (.there .here)) | exact .there (.there (.there (.there .here))) | exact .there (.there (.there (.there (.there .here)))) | exact .there (.there (.there (.there (.there (.there .here))))) | exact .there (.there (.there (.there (.there (.there (.there .here)))))) | exact .there (.there (.there (.there (.there (.there (.there (.there .here))))))) | exact .there (.there (.there (.there (.there (.there (.there (.there (.there .here)))))))) | exact .there (.there (.there (.there (.there (.there (.there (.there (.there (.there .here))))))))) | exact .there (.there (.there (.there (.there (.there (.there (.there (.there (.there (.there .here)))))))))) | exact .there (.there (.there (.there (.there (.there (.there (.there (.there (.there (.there (.there .here))))))))))) | exact .there (.there (.there (.there (.there (.there (.there (.there (.there (.there (.there (.there (.there .here)))))))))))) | exact .there (.there (.there (.there (.there (.there (.there (.there (.there (.there (.there (.there (.there (.there .here))))))))))))) | exact .there (.there (.there (.there (.there (.there (.there (.there (.there (.there (.there (.there (.there (.there (.there .here)))))))))))))))
  have hok2 := hvi2.ok
  have n012 := hvi2.n01
  have n232 := hvi2.n23
  clear hst
  have htl2 : ts2.length = 3 := by rw [hts2]; simp [htl1]
  have hwf2 : Wf ts2 := by rw [hts2]; exact hwf1.push ⟨by decide, by show (0 : Int) < _; omega⟩ ⟨by decide, by show (0 : Int) < _; omega⟩ (by decide)
  refine ⟨_, rfl, hH.kp0, ?_⟩
  clear hS; intro a hS
  refine r_alloc hS hH (by repeat (first | exact Sub.nil | refine Sub.cons ?_ ?_ | exact In.here | refine In.there ?_)) Fc.zc26 rfl ?_
  clear hS hH; intro a w b6 hb6 hwb6 hS hH
  refine r_alloc hS hH (by repeat (first | exact Sub.nil | refine Sub.cons ?_ ?_ | exact In.here | refine In.there ?_)) Fc.zc26 rfl ?_
  clear hS hH; intro a w b7 hb7 hwb7 hS hH
  refine r_store_row hS hH rfl rfl (by first | exact .here | exact .there .here | exact .there (.there .here) | exact .there (.there (.there .here)) | exact .there (.there (.there (.there .here))) | exact .there (.there (.there (.there (.there .here)))) | exact .there (.there (.there (.there (.there (.there .here))))) | exact .there (.there (.there (.there (.there (.there (.there .here)))))) | exact .there (.there (.there (.there (.there (.there (.there (.there .here))))))) | exact .there (.there (.there (.there (.there (.there (.there (.there (.there .here)))))))) | exact .there (.there (.there (.there (.there (.there (.there (.there (.there (.there .here))))))))) | exact .there (.there (.there (.there (.there (.there (.there (.there (.there (.there (.there .here)))))))))) | exact .there (.there (.there (.there (.there (.there (.there (.there (.there (.there (.there (.there .here))))))))))) | exact .there (.there (.there (.there (.there (.there (.there (.there (.there (.there (.there (.there (.there .here)))))))))))) | exact .there (.there (.there (.there (.there (.there (.there (.there (.there (.there (.there (.there (.there (.there .here))))))))))))) | exact .there (.there (.there (.there (.there (.there (.there (.there (.there (.there (.there (.there (.there (.there (.there .here))))))))))))))) (by repeat (first | exact Sub.nil | refine Sub.cons ?_ ?_ | exact In.here | refine In.there ?_)) Fc.sz26 (by first | exact hcells_one _ | exact of_decide_eq_true rfl) (by rfl) (by first | exact .inr (by assumption) | exact .inl (by first | assumption | rfl)) ?_
  clear hH; intro w hH
  refine r_store_row hS hH rfl rfl (by first | exact .here | exact .there .here | exact .there (.there .here) | exact .there (.there (.there .here)) | exact .there (.there (.there (.there .here))) | exact .there (.there (.there (.there (.there .here)))) | exact .there (.there (.there (.there (.there (.there .here))))) | exact .there (.there (.there (.there (.there (.there (.there .here)))))) | exact .there (.there (.there (.there (.there (.there (.there (.there .here))))))) | exact .there (.there (.there (.there (.there (.there (.there (.there (.there .here)))))))) | exact .there (.there (.there (.there (.there (.there (.there (.there (.there (.there .here))))))))) | exact .there (.there (.there (.there (.there (.there (.there (.there (.there (.there (.there .here)))))))))) | exact .there (.there (.there (.there (.there (.there (.there (.there (.there (.there (.there (.there .here))))))))))) | exact .there (.there (.there (.there (.there (.there (.there (.there (.there (.there (.there (.there (.there .here)))))))))))) | exact .there (.there (.there (.there (.there (.there (.there (.there (.there (.there (.there (.there (.there (.there .here))))))))))))) | exact .there (.there (.there (.there (.there (.there (.there (.there (.there (.there (.there (.there (.there (.there (.there .here))))))))))))))) (by repeat (first | exact Sub.nil | refine Sub.cons ?_ ?_ | exact In.here | refine In.there ?_)) Fc.sz26 (by first | exact hcells_one _ | exact of_decide_eq_true rfl) (by rfl) (by first | exact .inr (by assumption) | exact .inl (by first | assumption | rfl)) ?_
  clear hH; intro w hH
  refine Sq.nil ?_
  refine then_n ?_
  refine c_seq ?_
  refine reg_plain w0 (Nobody) ?_
  refine r_move hS hH.kp0 rfl rfl ?_; clear hS; intro a hS
  refine r_load_row hS hH (by repeat (first | exact Sub.nil | refine Sub.cons ?_ ?_ | exact In.here | refine In.there ?_)) rfl (by repeat (first | exact In.here | refine In.there ?_)) Fc.ag26 (by rfl) rfl ?_; clear hS; intro a hS
  refine r_call (l := [.tmp 36, .tmp 37]) hS rfl rfl Fc.fn42 rfl ?_
  refine Calls.mono (Public_v b V2 ts2 [x0, x1, x2, x3, x4, x5, x6, x7, x8, x9, xa, xb, xc, xd, xe, xf] rfl (by omega) _ (hH.vin hok2 n012 n232 (by repeat (first | exact In.here | refine In.there ?_)) (by repeat (first | exact In.here | refine In.there ?_)) (by repeat (first | exact In.here | refine In.there ?_)) (by repeat (first | exact In.here | refine In.there ?_)))) ?_
  rintro e w1 ⟨h, x_, V3, ts3, rfl, hvi3, hst, hof⟩
  try simp only [List.flatten_cons, List.flatten_nil, List.append_nil] at hof
  rw [hnx] at hof
  obtain ⟨rfl, hnp, hts3⟩ := hof.new (i := 1) (by omega) (by omega) (by simp [hts2, hts1, hts, pubT, rootT, freshT, agrT, drv, lb_early, lb_script, lb_message, lb_hand, lb_both, lb_master, lb_cd, lb_finished, lb_mark])
  obtain ⟨p0, p1, p2, p3, p4, p5, p6, p7, p8, p9, pa, pb, pc, pd, pe, pf, rfl⟩ := len16 (h := h) (by rw [hnp]; rfl)
  rw [htl2] at hnp
  have hVS3 := hVS2.step hst hH.mod.size
  replace hH := hH.vault hVS2 hst hvi3 (by first | exact .here | exact .there .here | exact .there (.there .here) | exact .there (.there (.there .here)) | exact .there (.there (.there (.there .here))) | exact .there (.there (.there (.there (.there .here)))) | exact .there (.there (.there (.there (.there (.there .here))))) | exact .there (.there (.there (.there (.there (.there (.there .here)))))) | exact .there (.there (.there (.there (.there (.there (.there (.there .here))))))) | exact .there (.there (.there (.there (.there (.there (.there (.there (.there .here)))))))) | exact .there (.there (.there (.there (.there (.there (.there (.there (.there (.there .here))))))))) | exact .there (.there (.there (.there (.there (.there (.there (.there (.there (.there (.there .here)))))))))) | exact .there (.there (.there (.there (.there (.there (.there (.there (.there (.there (.there (.there .here))))))))))) | exact .there (.there (.there (.there (.there (.there (.there (.there (.there (.there (.there (.there (.there .here)))))))))))) | exact .there (.there (.there (.there (.there (.there (.there (.there (.there (.there (.there (.there (.there (.there .here))))))))))))) | exact .there (.there (.there (.there (.there (.there (.there (.there (.there (.there (.there (.there (.there (.there (.there .here)))))))))))))))
  have hok3 := hvi3.ok
  have n013 := hvi3.n01
  have n233 := hvi3.n23
  clear hst
  have htl3 : ts3.length = 4 := by rw [hts3]; simp [htl2]
  have hwf3 : Wf ts3 := by rw [hts3]; exact hwf2.push ⟨Int.natCast_nonneg 1, by show ((1 : Nat) : Int) < _; omega⟩ ⟨by show (0 : Int) ≤ 0; decide, by show (0 : Int) < _; omega⟩ (show (3 : Int) ≠ 6 by decide)
  clear hof
  refine ⟨_, rfl, hH.kp0, ?_⟩
  clear hS; intro a hS
  refine r_move hS hH.kp0 rfl rfl ?_; clear hS; intro a hS
  refine r_extract hS hH.kp0 rfl rfl rfl ?_; clear hS; intro a hS
  refine r_extract hS hH.kp0 rfl rfl rfl ?_; clear hS; intro a hS
  refine r_alloc hS hH (by repeat (first | exact Sub.nil | refine Sub.cons ?_ ?_ | exact In.here | refine In.there ?_)) Fc.zc26 rfl ?_
  clear hS hH; intro a w b8 hb8 hwb8 hS hH
  refine r_store_row hS hH rfl rfl (by first | exact .here | exact .there .here | exact .there (.there .here) | exact .there (.there (.there .here)) | exact .there (.there (.there (.there .here))) | exact .there (.there (.there (.there (.there .here)))) | exact .there (.there (.there (.there (.there (.there .here))))) | exact .there (.there (.there (.there (.there (.there (.there .here)))))) | exact .there (.there (.there (.there (.there (.there (.there (.there .here))))))) | exact .there (.there (.there (.there (.there (.there (.there (.there (.there .here)))))))) | exact .there (.there (.there (.there (.there (.there (.there (.there (.there (.there .here))))))))) | exact .there (.there (.there (.there (.there (.there (.there (.there (.there (.there (.there .here)))))))))) | exact .there (.there (.there (.there (.there (.there (.there (.there (.there (.there (.there (.there .here))))))))))) | exact .there (.there (.there (.there (.there (.there (.there (.there (.there (.there (.there (.there (.there .here)))))))))))) | exact .there (.there (.there (.there (.there (.there (.there (.there (.there (.there (.there (.there (.there (.there .here))))))))))))) | exact .there (.there (.there (.there (.there (.there (.there (.there (.there (.there (.there (.there (.there (.there (.there .here))))))))))))))) (by repeat (first | exact Sub.nil | refine Sub.cons ?_ ?_ | exact In.here | refine In.there ?_)) Fc.sz26 (by first | exact hcells_one _ | exact of_decide_eq_true rfl) (by rfl) (by first | exact .inr (by assumption) | exact .inl (by first | assumption | rfl)) ?_
  clear hH; intro w hH
  refine r_assign hS hH.kp0 rfl rfl ?_; clear hS; intro a hS
  refine Sq.nil ?_
  refine then_n ?_
  refine c_seq ?_
  refine reg_plain w0 (Nobody) ?_
  refine r_move hS hH.kp0 rfl rfl ?_; clear hS; intro a hS
  refine r_load_row hS hH (by repeat (first | exact Sub.nil | refine Sub.cons ?_ ?_ | exact In.here | refine In.there ?_)) rfl (by repeat (first | exact In.here | refine In.there ?_)) Fc.ag26 (by rfl) rfl ?_; clear hS; intro a hS
  refine r_call (l := [.tmp 42, .tmp 43]) hS rfl rfl Fc.fn42 rfl ?_
  refine Calls.mono (Public_v b V3 ts3 [y0, y1, y2, y3, y4, y5, y6, y7, y8, y9, ya, yb, yc, yd, ye, yf] rfl (by omega) _ (hH.vin hok3 n013 n233 (by repeat (first | exact In.here | refine In.there ?_)) (by repeat (first | exact In.here | refine In.there ?_)) (by repeat (first | exact In.here | refine In.there ?_)) (by repeat (first | exact In.here | refine In.there ?_)))) ?_
  rintro e w1 ⟨h, x_, V4, ts4, rfl, hvi4, hst, hof⟩
  try simp only [List.flatten_cons, List.flatten_nil, List.append_nil] at hof
  rw [hny] at hof
  obtain ⟨rfl, hnj, hts4⟩ := hof.new (i := 2) (by omega) (by omega) (by simp [hts3, hts2, hts1, hts, pubT, rootT, freshT, agrT, drv, lb_early, lb_script, lb_message, lb_hand, lb_both, lb_master, lb_cd, lb_finished, lb_mark])
  obtain ⟨j0, j1, j2, j3, j4, j5, j6, j7, j8, j9, ja, jb, jc, jd, je, jf, rfl⟩ := len16 (h := h) (by rw [hnj]; rfl)
  rw [htl3] at hnj
  have hVS4 := hVS3.step hst hH.mod.size
  replace hH := hH.vault hVS3 hst hvi4 (by first | exact .here | exact .there .here | exact .there (.there .here) | exact .there (.there (.there .here)) | exact .there (.there (.there (.there .here))) | exact .there (.there (.there (.there (.there .here)))) | exact .there (.there (.there (.there (.there (.there .here))))) | exact .there (.there (.there (.there (.there (.there (.there .here)))))) | exact .there (.there (.there (.there (.there (.there (.there (.there .here))))))) | exact .there (.there (.there (.there (.there (.there (.there (.there (.there .here)))))))) | exact .there (.there (.there (.there (.there (.there (.there (.there (.there (.there .here))))))))) | exact .there (.there (.there (.there (.there (.there (.there (.there (.there (.there (.there .here)))))))))) | exact .there (.there (.there (.there (.there (.there (.there (.there (.there (.there (.there (.there .here))))))))))) | exact .there (.there (.there (.there (.there (.there (.there (.there (.there (.there (.there (.there (.there .here)))))))))))) | exact .there (.there (.there (.there (.there (.there (.there (.there (.there (.there (.there (.there (.there (.there .here))))))))))))) | exact .there (.there (.there (.there (.there (.there (.there (.there (.there (.there (.there (.there (.there (.there (.there .here)))))))))))))))
  have hok4 := hvi4.ok
  have n014 := hvi4.n01
  have n234 := hvi4.n23
  clear hst
  have htl4 : ts4.length = 5 := by rw [hts4]; simp [htl3]
  have hwf4 : Wf ts4 := by rw [hts4]; exact hwf3.push ⟨Int.natCast_nonneg 2, by show ((2 : Nat) : Int) < _; omega⟩ ⟨by show (0 : Int) ≤ 0; decide, by show (0 : Int) < _; omega⟩ (show (3 : Int) ≠ 6 by decide)
  clear hof
  have at3 : ts4[3]? = some { pubT with a := ((1 : Nat) : Int) } := by rw [hts4, hts3, hts2, hts1, hts]; rfl
  have at4 : ts4[4]? = some { pubT with a := ((2 : Nat) : Int) } := by rw [hts4, hts3, hts2, hts1, hts]; rfl
  refine ⟨_, rfl, hH.kp0, ?_⟩
  clear hS; intro a hS
  refine r_move hS hH.kp0 rfl rfl ?_; clear hS; intro a hS
  refine r_extract hS hH.kp0 rfl rfl rfl ?_; clear hS; intro a hS
  refine r_extract hS hH.kp0 rfl rfl rfl ?_; clear hS; intro a hS
  refine r_alloc hS hH (by repeat (first | exact Sub.nil | refine Sub.cons ?_ ?_ | exact In.here | refine In.there ?_)) Fc.zc26 rfl ?_
  clear hS hH; intro a w b10 hb10 hwb10 hS hH
  refine r_store_row hS hH rfl rfl (by first | exact .here | exact .there .here | exact .there (.there .here) | exact .there (.there (.there .here)) | exact .there (.there (.there (.there .here))) | exact .there (.there (.there (.there (.there .here)))) | exact .there (.there (.there (.there (.there (.there .here))))) | exact .there (.there (.there (.there (.there (.there (.there .here)))))) | exact .there (.there (.there (.there (.there (.there (.there (.there .here))))))) | exact .there (.there (.there (.there (.there (.there (.there (.there (.there .here)))))))) | exact .there (.there (.there (.there (.there (.there (.there (.there (.there (.there .here))))))))) | exact .there (.there (.there (.there (.there (.there (.there (.there (.there (.there (.there .here)))))))))) | exact .there (.there (.there (.there (.there (.there (.there (.there (.there (.there (.there (.there .here))))))))))) | exact .there (.there (.there (.there (.there (.there (.there (.there (.there (.there (.there (.there (.there .here)))))))))))) | exact .there (.there (.there (.there (.there (.there (.there (.there (.there (.there (.there (.there (.there (.there .here))))))))))))) | exact .there (.there (.there (.there (.there (.there (.there (.there (.there (.there (.there (.there (.there (.there (.there .here))))))))))))))) (by repeat (first | exact Sub.nil | refine Sub.cons ?_ ?_ | exact In.here | refine In.there ?_)) Fc.sz26 (by first | exact hcells_one _ | exact of_decide_eq_true rfl) (by rfl) (by first | exact .inr (by assumption) | exact .inl (by first | assumption | rfl)) ?_
  clear hH; intro w hH
  refine r_assign hS hH.kp0 rfl rfl ?_; clear hS; intro a hS
  refine Sq.nil ?_
  refine then_n ?_
  refine c_seq ?_
  refine reg_plain w0 (Nobody) ?_
  refine r_move hS hH.kp0 rfl rfl ?_; clear hS; intro a hS
  refine r_load_row hS hH (by repeat (first | exact Sub.nil | refine Sub.cons ?_ ?_ | exact In.here | refine In.there ?_)) rfl (by repeat (first | exact In.here | refine In.there ?_)) Fc.ag26 (by rfl) rfl ?_; clear hS; intro a hS
  refine r_load_row hS hH (by repeat (first | exact Sub.nil | refine Sub.cons ?_ ?_ | exact In.here | refine In.there ?_)) rfl (by repeat (first | exact In.here | refine In.there ?_)) Fc.ag26 (by rfl) rfl ?_; clear hS; intro a hS
  refine r_call (l := [.tmp 48, .tmp 49, .tmp 50]) hS rfl rfl Fc.fn43 rfl ?_
  refine Calls.mono (Agree_v b V4 ts4 [x0, x1, x2, x3, x4, x5, x6, x7, x8, x9, xa, xb, xc, xd, xe, xf] rfl [j0, j1, j2, j3, j4, j5, j6, j7, j8, j9, ja, jb, jc, jd, je, jf] rfl 1 4 2 _ (by omega) hnx hnj at4 rfl rfl (by omega) (by omega) _ (hH.vin hok4 n014 n234 (by repeat (first | exact In.here | refine In.there ?_)) (by repeat (first | exact In.here | refine In.there ?_)) (by repeat (first | exact In.here | refine In.there ?_)) (by repeat (first | exact In.here | refine In.there ?_)))) ?_
  rintro e w1 ⟨h, k_, V5, ts5, rfl, hns, hvi5, hst, hmd⟩
  obtain ⟨rfl, hts5⟩ := hmd.new (by simp [hts4, hts3, hts2, hts1, hts, pubT, rootT, freshT, agrT, drv, lb_early, lb_script, lb_message, lb_hand, lb_both, lb_master, lb_cd, lb_finished, lb_mark])
  obtain ⟨s0, s1, s2, s3, s4, s5, s6, s7, s8, s9, sa, sb, sc, sd, se, sf, rfl⟩ := len16 (h := h) (by rw [hns]; rfl)
  rw [htl4] at hns
  have hVS5 := hVS4.step hst hH.mod.size
  replace hH := hH.vault hVS4 hst hvi5 (by first | exact .here | exact .there .here | exact .there (.there .here) | exact .there (.there (.there .here)) | exact .there (.there (.there (.there .here))) | exact .there (.there (.there (.there (.there .here)))) | exact .there (.there (.there (.there (.there (.there .here))))) | exact .there (.there (.there (.there (.there (.there (.there .here)))))) | exact .there (.there (.there (.there (.there (.there (.there (.there .here))))))) | exact .there (.there (.there (.there (.there (.there (.there (.there (.there .here)))))))) | exact .there (.there (.there (.there (.there (.there (.there (.there (.there (.there .here))))))))) | exact .there (.there (.there (.there (.there (.there (.there (.there (.there (.there (.there .here)))))))))) | exact .there (.there (.there (.there (.there (.there (.there (.there (.there (.there (.there (.there .here))))))))))) | exact .there (.there (.there (.there (.there (.there (.there (.there (.there (.there (.there (.there (.there .here)))))))))))) | exact .there (.there (.there (.there (.there (.there (.there (.there (.there (.there (.there (.there (.there (.there .here))))))))))))) | exact .there (.there (.there (.there (.there (.there (.there (.there (.there (.there (.there (.there (.there (.there (.there .here)))))))))))))))
  have hok5 := hvi5.ok
  have n015 := hvi5.n01
  have n235 := hvi5.n23
  clear hst
  have htl5 : ts5.length = 6 := by rw [hts5]; simp [htl4]
  have hwf5 : Wf ts5 := by rw [hts5]; exact hwf4.push ⟨Int.natCast_nonneg _, by show ((min 1 2 : Nat) : Int) < _; omega⟩ ⟨Int.natCast_nonneg _, by show ((max 1 2 : Nat) : Int) < _; omega⟩ (by decide)
  clear hmd
  have at3 : ts5[3]? = some { pubT with a := ((1 : Nat) : Int) } := by rw [hts5, hts4, hts3, hts2, hts1, hts]; rfl
  have at5 : ts5[5]? = some (agrT 1 2) := by rw [hts5, hts4, hts3, hts2, hts1, hts]; rfl
  refine ⟨_, rfl, hH.kp0, ?_⟩
  clear hS; intro a hS
  refine r_move hS hH.kp0 rfl rfl ?_; clear hS; intro a hS
  refine r_extract hS hH.kp0 rfl rfl rfl ?_; clear hS; intro a hS
  refine r_extract hS hH.kp0 rfl rfl rfl ?_; clear hS; intro a hS
  refine r_alloc hS hH (by repeat (first | exact Sub.nil | refine Sub.cons ?_ ?_ | exact In.here | refine In.there ?_)) Fc.zc26 rfl ?_
  clear hS hH; intro a w b12 hb12 hwb12 hS hH
  refine r_store_row hS hH rfl rfl (by first | exact .here | exact .there .here | exact .there (.there .here) | exact .there (.there (.there .here)) | exact .there (.there (.there (.there .here))) | exact .there (.there (.there (.there (.there .here)))) | exact .there (.there (.there (.there (.there (.there .here))))) | exact .there (.there (.there (.there (.there (.there (.there .here)))))) | exact .there (.there (.there (.there (.there (.there (.there (.there .here))))))) | exact .there (.there (.there (.there (.there (.there (.there (.there (.there .here)))))))) | exact .there (.there (.there (.there (.there (.there (.there (.there (.there (.there .here))))))))) | exact .there (.there (.there (.there (.there (.there (.there (.there (.there (.there (.there .here)))))))))) | exact .there (.there (.there (.there (.there (.there (.there (.there (.there (.there (.there (.there .here))))))))))) | exact .there (.there (.there (.there (.there (.there (.there (.there (.there (.there (.there (.there (.there .here)))))))))))) | exact .there (.there (.there (.there (.there (.there (.there (.there (.there (.there (.there (.there (.there (.there .here))))))))))))) | exact .there (.there (.there (.there (.there (.there (.there (.there (.there (.there (.there (.there (.there (.there (.there .here))))))))))))))) (by repeat (first | exact Sub.nil | refine Sub.cons ?_ ?_ | exact In.here | refine In.there ?_)) Fc.sz26 (by first | exact hcells_one _ | exact of_decide_eq_true rfl) (by rfl) (by first | exact .inr (by assumption) | exact .inl (by first | assumption | rfl)) ?_
  clear hH; intro w hH
  refine r_assign hS hH.kp0 rfl rfl ?_; clear hS; intro a hS
  refine Sq.nil ?_
  refine then_n ?_
  refine c_seq ?_
  refine reg_plain w0 (Nobody) ?_
  refine r_move hS hH.kp0 rfl rfl ?_; clear hS; intro a hS
  refine r_load_row hS hH (by repeat (first | exact Sub.nil | refine Sub.cons ?_ ?_ | exact In.here | refine In.there ?_)) rfl (by repeat (first | exact In.here | refine In.there ?_)) Fc.ag26 (by rfl) rfl ?_; clear hS; intro a hS
  refine r_load_row hS hH (by repeat (first | exact Sub.nil | refine Sub.cons ?_ ?_ | exact In.here | refine In.there ?_)) rfl (by repeat (first | exact In.here | refine In.there ?_)) Fc.ag26 (by rfl) rfl ?_; clear hS; intro a hS
  refine r_call (l := [.tmp 55, .tmp 56, .tmp 57]) hS rfl rfl Fc.fn43 rfl ?_
  refine Calls.mono (Agree_v b V5 ts5 [y0, y1, y2, y3, y4, y5, y6, y7, y8, y9, ya, yb, yc, yd, ye, yf] rfl [p0, p1, p2, p3, p4, p5, p6, p7, p8, p9, pa, pb, pc, pd, pe, pf] rfl 2 3 1 _ (by omega) hny hnp at3 rfl rfl (by omega) (by omega) _ (hH.vin hok5 n015 n235 (by repeat (first | exact In.here | refine In.there ?_)) (by repeat (first | exact In.here | refine In.there ?_)) (by repeat (first | exact In.here | refine In.there ?_)) (by repeat (first | exact In.here | refine In.there ?_)))) ?_
  rintro e w1 ⟨h, k_, V6, ts6, rfl, hnt, hvi6, hst, hmd⟩
  obtain ⟨rfl, hts6⟩ := hmd.old (j := 5) hok5.uq at5 (by decide)
  obtain ⟨t0, t1, t2, t3, t4, t5, t6, t7, t8, t9, ta, tb, tc, td, te, tf, rfl⟩ := len16 (h := h) (by rw [hnt]; rfl)
  have hVS6 := hVS5.step hst hH.mod.size
  replace hH := hH.vault hVS5 hst hvi6 (by first | exact .here | exact .there .here | exact .there (.there .here) | exact .there (.there (.there .here)) | exact .there (.there (.there (.there .here))) | exact .there (.there (.there (.there (.there .here)))) | exact .there (.there (.there (.there (.there (.there .here))))) | exact .there (.there (.there (.there (.there (.there (.there .here)))))) | exact .there (.there (.there (.there (.there (.there (.there (.there .here))))))) | exact .there (.there (.there (.there (.there (.there (.there (.there (.there .here)))))))) | exact .there (.there (.there (.there (.there (.there (.there (.there (.there (.there .here))))))))) | exact .there (.there (.there (.there (.there (.there (.there (.there (.there (.there (.there .here)))))))))) | exact .there (.there (.there (.there (.there (.there (.there (.there (.there (.there (.there (.there .here))))))))))) | exact .there (.there (.there (.there (.there (.there (.there (.there (.there (.there (.there (.there (.there .here)))))))))))) | exact .there (.there (.there (.there (.there (.there (.there (.there (.there (.there (.there (.there (.there (.there .here))))))))))))) | exact .there (.there (.there (.there (.there (.there (.there (.there (.there (.there (.there (.there (.there (.there (.there .here)))))))))))))))
  have hok6 := hvi6.ok
  have n016 := hvi6.n01
  have n236 := hvi6.n23
  clear hst
  have htl6 : ts6.length = 6 := by rw [hts6]; exact htl5
  have hwf6 : Wf ts6 := by rw [hts6]; exact hwf5
  clear hmd
  have est : ([s0, s1, s2, s3, s4, s5, s6, s7, s8, s9, sa, sb, sc, sd, se, sf] : List UInt8) = [t0, t1, t2, t3, t4, t5, t6, t7, t8, t9, ta, tb, tc, td, te, tf] := hns.trans hnt.symm
  refine ⟨_, rfl, hH.kp0, ?_⟩
  clear hS; intro a hS
  refine r_move hS hH.kp0 rfl rfl ?_; clear hS; intro a hS
  refine r_extract hS hH.kp0 rfl rfl rfl ?_; clear hS; intro a hS
  refine r_extract hS hH.kp0 rfl rfl rfl ?_; clear hS; intro a hS
  refine r_alloc hS hH (by repeat (first | exact Sub.nil | refine Sub.cons ?_ ?_ | exact In.here | refine In.there ?_)) Fc.zc26 rfl ?_
  clear hS hH; intro a w b14 hb14 hwb14 hS hH
  refine r_store_row hS hH rfl rfl (by first | exact .here | exact .there .here | exact .there (.there .here) | exact .there (.there (.there .here)) | exact .there (.there (.there (.there .here))) | exact .there (.there (.there (.there (.there .here)))) | exact .there (.there (.there (.there (.there (.there .here))))) | exact .there (.there (.there (.there (.there (.there (.there .here)))))) | exact .there (.there (.there (.there (.there (.there (.there (.there .here))))))) | exact .there (.there (.there (.there (.there (.there (.there (.there (.there .here)))))))) | exact .there (.there (.there (.there (.there (.there (.there (.there (.there (.there .here))))))))) | exact .there (.there (.there (.there (.there (.there (.there (.there (.there (.there (.there .here)))))))))) | exact .there (.there (.there (.there (.there (.there (.there (.there (.there (.there (.there (.there .here))))))))))) | exact .there (.there (.there (.there (.there (.there (.there (.there (.there (.there (.there (.there (.there .here)))))))))))) | exact .there (.there (.there (.there (.there (.there (.there (.there (.there (.there (.there (.there (.there (.there .here))))))))))))) | exact .there (.there (.there (.there (.there (.there (.there (.there (.there (.there (.there (.there (.there (.there (.there .here))))))))))))))) (by repeat (first | exact Sub.nil | refine Sub.cons ?_ ?_ | exact In.here | refine In.there ?_)) Fc.sz26 (by first | exact hcells_one _ | exact of_decide_eq_true rfl) (by rfl) (by first | exact .inr (by assumption) | exact .inl (by first | assumption | rfl)) ?_
  clear hH; intro w hH
  refine r_assign hS hH.kp0 rfl rfl ?_; clear hS; intro a hS
  refine Sq.nil ?_
  refine then_n ?_
  refine c_seq ?_
  refine reg_plain w0 (Nobody) ?_
  refine r_move hS hH.kp0 rfl rfl ?_; clear hS; intro a hS
  refine r_buildA (parts := []) hS hH.kp0 rfl rfl Fc.zc26 Fc.ar26 (by rfl) ?_; clear hS; intro a hS
  refine r_call (l := [.tmp 62, .tmp 63]) hS rfl rfl Fc.fn31 rfl ?_
  refine Calls.mono (Early_z b V6 ts6 (by omega) _ (hH.vin hok6 n016 n236 (by repeat (first | exact In.here | refine In.there ?_)) (by repeat (first | exact In.here | refine In.there ?_)) (by repeat (first | exact In.here | refine In.there ?_)) (by repeat (first | exact In.here | refine In.there ?_)))) ?_
  rintro e w1 ⟨h, x_, V7, ts7, rfl, hvi7, hst, hof⟩
  try simp only [List.flatten_cons, List.flatten_nil, List.append_nil] at hof
  obtain ⟨rfl, hne, hts7⟩ := hof.new (i := 0) (by omega) (by omega) (by simp [hts6, hts5, hts4, hts3, hts2, hts1, hts, pubT, rootT, freshT, agrT, drv, lb_early, lb_script, lb_message, lb_hand, lb_both, lb_master, lb_cd, lb_finished, lb_mark])
  obtain ⟨e0, e1, e2, e3, e4, e5, e6, e7, e8, e9, ea, eb, ec, ed, ee, ef, rfl⟩ := len16 (h := h) (by rw [hne]; rfl)
  rw [htl6] at hne
  have hVS7 := hVS6.step hst hH.mod.size
  replace hH := hH.vault hVS6 hst hvi7 (by first | exact .here | exact .there .here | exact .there (.there .here) | exact .there (.there (.there .here)) | exact .there (.there (.there (.there .here))) | exact .there (.there (.there (.there (.there .here)))) | exact .there (.there (.there (.there (.there (.there .here))))) | exact .there (.there (.there (.there (.there (.there (.there .here)))))) | exact .there (.there (.there (.there (.there (.there (.there (.there .here))))))) | exact .there (.there (.there (.there (.there (.there (.there (.there (.there .here)))))))) | exact .there (.there (.there (.there (.there (.there (.there (.there (.there (.there .here))))))))) | exact .there (.there (.there (.there (.there (.there (.there (.there (.there (.there (.there .here)))))))))) | exact .there (.there (.there (.there (.there (.there (.there (.there (.there (.there (.there (.there .here))))))))))) | exact .there (.there (.there (.there (.there (.there (.there (.there (.there (.there (.there (.there (.there .here)))))))))))) | exact .there (.there (.there (.there (.there (.there (.there (.there (.there (.there (.there (.there (.there (.there .here))))))))))))) | exact .there (.there (.there (.there (.there (.there (.there (.there (.there (.there (.there (.there (.there (.there (.there .here)))))))))))))))
  have hok7 := hvi7.ok
  have n017 := hvi7.n01
  have n237 := hvi7.n23
  clear hst
  have htl7 : ts7.length = 7 := by rw [hts7]; simp [htl6]
  have hwf7 : Wf ts7 := by rw [hts7]; exact hwf6.push ⟨Int.natCast_nonneg 0, by show ((0 : Nat) : Int) < _; omega⟩ ⟨by show (0 : Int) ≤ 0; decide, by show (0 : Int) < _; omega⟩ (show (2 : Int) ≠ 6 by decide)
  clear hof
  refine ⟨_, rfl, hH.kp0, ?_⟩
  clear hS; intro a hS
  refine r_move hS hH.kp0 rfl rfl ?_; clear hS; intro a hS
  refine r_extract hS hH.kp0 rfl rfl rfl ?_; clear hS; intro a hS
  refine r_extract hS hH.kp0 rfl rfl rfl ?_; clear hS; intro a hS
  refine r_alloc hS hH (by repeat (first | exact Sub.nil | refine Sub.cons ?_ ?_ | exact In.here | refine In.there ?_)) Fc.zc26 rfl ?_
  clear hS hH; intro a w b16 hb16 hwb16 hS hH
  refine r_store_row hS hH rfl rfl (by first | exact .here | exact .there .here | exact .there (.there .here) | exact .there (.there (.there .here)) | exact .there (.there (.there (.there .here))) | exact .there (.there (.there (.there (.there .here)))) | exact .there (.there (.there (.there (.there (.there .here))))) | exact .there (.there (.there (.there (.there (.there (.there .here)))))) | exact .there (.there (.there (.there (.there (.there (.there (.there .here))))))) | exact .there (.there (.there (.there (.there (.there (.there (.there (.there .here)))))))) | exact .there (.there (.there (.there (.there (.there (.there (.there (.there (.there .here))))))))) | exact .there (.there (.there (.there (.there (.there (.there (.there (.there (.there (.there .here)))))))))) | exact .there (.there (.there (.there (.there (.there (.there (.there (.there (.there (.there (.there .here))))))))))) | exact .there (.there (.there (.there (.there (.there (.there (.there (.there (.there (.there (.there (.there .here)))))))))))) | exact .there (.there (.there (.there (.there (.there (.there (.there (.there (.there (.there (.there (.there (.there .here))))))))))))) | exact .there (.there (.there (.there (.there (.there (.there (.there (.there (.there (.there (.there (.there (.there (.there .here))))))))))))))) (by repeat (first | exact Sub.nil | refine Sub.cons ?_ ?_ | exact In.here | refine In.there ?_)) Fc.sz26 (by first | exact hcells_one _ | exact of_decide_eq_true rfl) (by rfl) (by first | exact .inr (by assumption) | exact .inl (by first | assumption | rfl)) ?_
  clear hH; intro w hH
  refine r_assign hS hH.kp0 rfl rfl ?_; clear hS; intro a hS
  refine Sq.nil ?_
  refine then_n ?_
  refine c_seq ?_
  refine reg_plain w0 (Nobody) ?_
  refine r_move hS hH.kp0 rfl rfl ?_; clear hS; intro a hS
  refine r_call (l := [.tmp 68]) hS rfl rfl Fc.fn12 rfl ?_
  refine Calls.mono (Begin_v b V7 ts7 (by omega) _ (hH.vin hok7 n017 n237 (by repeat (first | exact In.here | refine In.there ?_)) (by repeat (first | exact In.here | refine In.there ?_)) (by repeat (first | exact In.here | refine In.there ?_)) (by repeat (first | exact In.here | refine In.there ?_)))) ?_
  rintro e w1 ⟨h, x_, V8, ts8, rfl, hvi8, hst, hof⟩
  try simp only [List.flatten_cons, List.flatten_nil, List.append_nil] at hof
  obtain ⟨rfl, hnk, hts8⟩ := hof.new (i := 0) (by omega) (by omega) (by simp [hts7, hts6, hts5, hts4, hts3, hts2, hts1, hts, pubT, rootT, freshT, agrT, drv, lb_early, lb_script, lb_message, lb_hand, lb_both, lb_master, lb_cd, lb_finished, lb_mark])
  obtain ⟨k0, k1, k2, k3, k4, k5, k6, k7, k8, k9, ka, kb, kc, kd, ke, kf, rfl⟩ := len16 (h := h) (by rw [hnk]; rfl)
  rw [htl7] at hnk
  have hVS8 := hVS7.step hst hH.mod.size
  replace hH := hH.vault hVS7 hst hvi8 (by first | exact .here | exact .there .here | exact .there (.there .here) | exact .there (.there (.there .here)) | exact .there (.there (.there (.there .here))) | exact .there (.there (.there (.there (.there .here)))) | exact .there (.there (.there (.there (.there (.there .here))))) | exact .there (.there (.there (.there (.there (.there (.there .here)))))) | exact .there (.there (.there (.there (.there (.there (.there (.there .here))))))) | exact .there (.there (.there (.there (.there (.there (.there (.there (.there .here)))))))) | exact .there (.there (.there (.there (.there (.there (.there (.there (.there (.there .here))))))))) | exact .there (.there (.there (.there (.there (.there (.there (.there (.there (.there (.there .here)))))))))) | exact .there (.there (.there (.there (.there (.there (.there (.there (.there (.there (.there (.there .here))))))))))) | exact .there (.there (.there (.there (.there (.there (.there (.there (.there (.there (.there (.there (.there .here)))))))))))) | exact .there (.there (.there (.there (.there (.there (.there (.there (.there (.there (.there (.there (.there (.there .here))))))))))))) | exact .there (.there (.there (.there (.there (.there (.there (.there (.there (.there (.there (.there (.there (.there (.there .here)))))))))))))))
  have hok8 := hvi8.ok
  have n018 := hvi8.n01
  have n238 := hvi8.n23
  clear hst
  have htl8 : ts8.length = 8 := by rw [hts8]; simp [htl7]
  have hwf8 : Wf ts8 := by rw [hts8]; exact hwf7.push ⟨Int.natCast_nonneg 0, by show ((0 : Nat) : Int) < _; omega⟩ ⟨by show (0 : Int) ≤ 0; decide, by show (0 : Int) < _; omega⟩ (show (2 : Int) ≠ 6 by decide)
  clear hof
  refine ⟨_, rfl, hH.kp0, ?_⟩
  clear hS; intro a hS
  refine r_move hS hH.kp0 rfl rfl ?_; clear hS; intro a hS
  refine r_extract hS hH.kp0 rfl rfl rfl ?_; clear hS; intro a hS
  refine r_extract hS hH.kp0 rfl rfl rfl ?_; clear hS; intro a hS
  refine r_alloc hS hH (by repeat (first | exact Sub.nil | refine Sub.cons ?_ ?_ | exact In.here | refine In.there ?_)) Fc.zc26 rfl ?_
  clear hS hH; intro a w b18 hb18 hwb18 hS hH
  refine r_store_row hS hH rfl rfl (by first | exact .here | exact .there .here | exact .there (.there .here) | exact .there (.there (.there .here)) | exact .there (.there (.there (.there .here))) | exact .there (.there (.there (.there (.there .here)))) | exact .there (.there (.there (.there (.there (.there .here))))) | exact .there (.there (.there (.there (.there (.there (.there .here)))))) | exact .there (.there (.there (.there (.there (.there (.there (.there .here))))))) | exact .there (.there (.there (.there (.there (.there (.there (.there (.there .here)))))))) | exact .there (.there (.there (.there (.there (.there (.there (.there (.there (.there .here))))))))) | exact .there (.there (.there (.there (.there (.there (.there (.there (.there (.there (.there .here)))))))))) | exact .there (.there (.there (.there (.there (.there (.there (.there (.there (.there (.there (.there .here))))))))))) | exact .there (.there (.there (.there (.there (.there (.there (.there (.there (.there (.there (.there (.there .here)))))))))))) | exact .there (.there (.there (.there (.there (.there (.there (.there (.there (.there (.there (.there (.there (.there .here))))))))))))) | exact .there (.there (.there (.there (.there (.there (.there (.there (.there (.there (.there (.there (.there (.there (.there .here))))))))))))))) (by repeat (first | exact Sub.nil | refine Sub.cons ?_ ?_ | exact In.here | refine In.there ?_)) Fc.sz26 (by first | exact hcells_one _ | exact of_decide_eq_true rfl) (by rfl) (by first | exact .inr (by assumption) | exact .inl (by first | assumption | rfl)) ?_
  clear hH; intro w hH
  refine r_assign hS hH.kp0 rfl rfl ?_; clear hS; intro a hS
  refine Sq.nil ?_
  refine then_n ?_
  refine c_seq ?_
  refine c_seq ?_
  refine reg_plain w0 (Nobody) ?_
  refine r_move hS hH.kp0 rfl rfl ?_; clear hS; intro a hS
  refine r_neq hS hH.kp0 rfl rfl rfl ?_; clear hS; intro a hS
  refine r_move hS hH.kp0 rfl rfl ?_; clear hS; intro a hS
  refine Sq.guardYes hS rfl rfl rfl ?_
  refine r_move hS hH.kp0 rfl rfl ?_; clear hS; intro a hS
  refine Sq.guardYes hS rfl rfl rfl ?_
  refine r_neq hS hH.kp0 rfl rfl rfl ?_; clear hS; intro a hS
  refine r_pickF hS hH.kp0 rfl rfl rfl rfl ?_; clear hS; intro a hS
  refine r_move hS hH.kp0 rfl rfl ?_; clear hS; intro a hS
  refine Sq.guardYes hS rfl rfl rfl ?_
  refine r_move hS hH.kp0 rfl rfl ?_; clear hS; intro a hS
  refine Sq.guardYes hS rfl rfl rfl ?_
  refine r_neq hS hH.kp0 rfl rfl rfl ?_; clear hS; intro a hS
  refine r_pickF hS hH.kp0 rfl rfl rfl rfl ?_; clear hS; intro a hS
  refine r_move hS hH.kp0 rfl rfl ?_; clear hS; intro a hS
  refine Sq.guardYes hS rfl rfl rfl ?_
  refine r_move hS hH.kp0 rfl rfl ?_; clear hS; intro a hS
  refine Sq.guardYes hS rfl rfl rfl ?_
  refine r_neq hS hH.kp0 rfl rfl rfl ?_; clear hS; intro a hS
  refine r_pickF hS hH.kp0 rfl rfl rfl rfl ?_; clear hS; intro a hS
  refine r_move hS hH.kp0 rfl rfl ?_; clear hS; intro a hS
  refine Sq.guardYes hS rfl rfl rfl ?_
  refine r_load_row hS hH (by repeat (first | exact Sub.nil | refine Sub.cons ?_ ?_ | exact In.here | refine In.there ?_)) rfl (by repeat (first | exact In.here | refine In.there ?_)) Fc.ag26 (by rfl) rfl ?_; clear hS; intro a hS
  refine Sq.guardYes hS rfl rfl rfl ?_
  refine r_load_row hS hH (by repeat (first | exact Sub.nil | refine Sub.cons ?_ ?_ | exact In.here | refine In.there ?_)) rfl (by repeat (first | exact In.here | refine In.there ?_)) Fc.ag26 (by rfl) rfl ?_; clear hS; intro a hS
  refine Sq.guardYes hS rfl rfl rfl ?_
  refine r_arrNeq (h := [s0, s1, s2, s3, s4, s5, s6, s7, s8, s9, sa, sb, sc, sd, se, sf]) (g := [t0, t1, t2, t3, t4, t5, t6, t7, t8, t9, ta, tb, tc, td, te, tf]) Fc.arrH hS hH.kp0 rfl rfl rfl rfl rfl ?_; clear hS; intro a hS
  refine r_pickF hS hH.kp0 rfl rfl rfl rfl ?_; clear hS; intro a hS
  refine Sq.nil ?_
  refine then_n ?_
  refine c_condF hS rfl (by rw [DT est]; rfl) ?_
  refine wp_skip ?_
  refine then_n ?_
  refine c_seq ?_
  refine reg_plain w0 (Nobody) ?_
  refine r_move hS hH.kp0 rfl rfl ?_; clear hS; intro a hS
  refine r_load_row hS hH (by repeat (first | exact Sub.nil | refine Sub.cons ?_ ?_ | exact In.here | refine In.there ?_)) rfl (by repeat (first | exact In.here | refine In.there ?_)) Fc.ag26 (by rfl) rfl ?_; clear hS; intro a hS
  refine r_move hS hH.kp0 rfl rfl ?_; clear hS; intro a hS
  refine r_call (l := [.tmp 92, .tmp 93, .tmp 94]) hS rfl rfl Fc.fn13 rfl ?_
  refine Calls.mono (Add_v b V8 ts8 (by omega) [k0, k1, k2, k3, k4, k5, k6, k7, k8, k9, ka, kb, kc, kd, ke, kf] rfl _ la hA _ (hH.vin hok8 n018 n238 (by repeat (first | exact In.here | refine In.there ?_)) (by repeat (first | exact In.here | refine In.there ?_)) (by repeat (first | exact In.here | refine In.there ?_)) (by repeat (first | exact In.here | refine In.there ?_))) (hb0.go hH.mod hVS8)) ?_
  rintro e w1 ⟨h, x_, V9, ts9, rfl, hvi9, hst, hof⟩
  try simp only [List.flatten_cons, List.flatten_nil, List.append_nil] at hof
  rw [hnk] at hof
  obtain ⟨rfl, hnm, hts9⟩ := hof.new (i := 7) (by omega) (by omega) (by simp [hts8, hts7, hts6, hts5, hts4, hts3, hts2, hts1, hts, pubT, rootT, freshT, agrT, drv, lb_early, lb_script, lb_message, lb_hand, lb_both, lb_master, lb_cd, lb_finished, lb_mark])
  obtain ⟨m0, m1, m2, m3, m4, m5, m6, m7, m8, m9, ma, mb, mc, md, me, mf, rfl⟩ := len16 (h := h) (by rw [hnm]; rfl)
  rw [htl8] at hnm
  have hVS9 := hVS8.step hst hH.mod.size
  replace hH := hH.vault hVS8 hst hvi9 (by first | exact .here | exact .there .here | exact .there (.there .here) | exact .there (.there (.there .here)) | exact .there (.there (.there (.there .here))) | exact .there (.there (.there (.there (.there .here)))) | exact .there (.there (.there (.there (.there (.there .here))))) | exact .there (.there (.there (.there (.there (.there (.there .here)))))) | exact .there (.there (.there (.there (.there (.there (.there (.there .here))))))) | exact .there (.there (.there (.there (.there (.there (.there (.there (.there .here)))))))) | exact .there (.there (.there (.there (.there (.there (.there (.there (.there (.there .here))))))))) | exact .there (.there (.there (.there (.there (.there (.there (.there (.there (.there (.there .here)))))))))) | exact .there (.there (.there (.there (.there (.there (.there (.there (.there (.there (.there (.there .here))))))))))) | exact .there (.there (.there (.there (.there (.there (.there (.there (.there (.there (.there (.there (.there .here)))))))))))) | exact .there (.there (.there (.there (.there (.there (.there (.there (.there (.there (.there (.there (.there (.there .here))))))))))))) | exact .there (.there (.there (.there (.there (.there (.there (.there (.there (.there (.there (.there (.there (.there (.there .here)))))))))))))))
  have hok9 := hvi9.ok
  have n019 := hvi9.n01
  have n239 := hvi9.n23
  clear hst
  have htl9 : ts9.length = 9 := by rw [hts9]; simp [htl8]
  have hwf9 : Wf ts9 := by rw [hts9]; exact hwf8.push ⟨Int.natCast_nonneg 7, by show ((7 : Nat) : Int) < _; omega⟩ ⟨by show (0 : Int) ≤ 0; decide, by show (0 : Int) < _; omega⟩ (show (2 : Int) ≠ 6 by decide)
  clear hof
  refine ⟨_, rfl, hH.kp0, ?_⟩
  clear hS; intro a hS
  refine r_move hS hH.kp0 rfl rfl ?_; clear hS; intro a hS
  refine r_extract hS hH.kp0 rfl rfl rfl ?_; clear hS; intro a hS
  refine r_extract hS hH.kp0 rfl rfl rfl ?_; clear hS; intro a hS
  refine r_store_row hS hH rfl rfl (by first | exact .here | exact .there .here | exact .there (.there .here) | exact .there (.there (.there .here)) | exact .there (.there (.there (.there .here))) | exact .there (.there (.there (.there (.there .here)))) | exact .there (.there (.there (.there (.there (.there .here))))) | exact .there (.there (.there (.there (.there (.there (.there .here)))))) | exact .there (.there (.there (.there (.there (.there (.there (.there .here))))))) | exact .there (.there (.there (.there (.there (.there (.there (.there (.there .here)))))))) | exact .there (.there (.there (.there (.there (.there (.there (.there (.there (.there .here))))))))) | exact .there (.there (.there (.there (.there (.there (.there (.there (.there (.there (.there .here)))))))))) | exact .there (.there (.there (.there (.there (.there (.there (.there (.there (.there (.there (.there .here))))))))))) | exact .there (.there (.there (.there (.there (.there (.there (.there (.there (.there (.there (.there (.there .here)))))))))))) | exact .there (.there (.there (.there (.there (.there (.there (.there (.there (.there (.there (.there (.there (.there .here))))))))))))) | exact .there (.there (.there (.there (.there (.there (.there (.there (.there (.there (.there (.there (.there (.there (.there .here))))))))))))))) (by repeat (first | exact Sub.nil | refine Sub.cons ?_ ?_ | exact In.here | refine In.there ?_)) Fc.sz26 (by first | exact hcells_one _ | exact of_decide_eq_true rfl) (by rfl) (by first | exact .inr (by assumption) | exact .inl (by first | assumption | rfl)) ?_
  clear hH; intro w hH
  refine r_assign hS hH.kp0 rfl rfl ?_; clear hS; intro a hS
  refine Sq.nil ?_
  refine then_n ?_
  refine c_seq ?_
  refine reg_plain w0 (Nobody) ?_
  refine r_move hS hH.kp0 rfl rfl ?_; clear hS; intro a hS
  refine r_load_row hS hH (by repeat (first | exact Sub.nil | refine Sub.cons ?_ ?_ | exact In.here | refine In.there ?_)) rfl (by repeat (first | exact In.here | refine In.there ?_)) Fc.ag26 (by rfl) rfl ?_; clear hS; intro a hS
  refine r_load_row hS hH (by repeat (first | exact Sub.nil | refine Sub.cons ?_ ?_ | exact In.here | refine In.there ?_)) rfl (by repeat (first | exact In.here | refine In.there ?_)) Fc.ag26 (by rfl) rfl ?_; clear hS; intro a hS
  refine r_call (l := [.tmp 99, .tmp 100, .tmp 101]) hS rfl rfl Fc.fn32 rfl ?_
  refine Calls.mono (Hand_v b V9 ts9 (by omega) [e0, e1, e2, e3, e4, e5, e6, e7, e8, e9, ea, eb, ec, ed, ee, ef] [s0, s1, s2, s3, s4, s5, s6, s7, s8, s9, sa, sb, sc, sd, se, sf] rfl rfl _ (hH.vin hok9 n019 n239 (by repeat (first | exact In.here | refine In.there ?_)) (by repeat (first | exact In.here | refine In.there ?_)) (by repeat (first | exact In.here | refine In.there ?_)) (by repeat (first | exact In.here | refine In.there ?_)))) ?_
  rintro e w1 ⟨h, x_, V11, ts11, rfl, hvi11, hst, hof⟩
  try simp only [List.flatten_cons, List.flatten_nil, List.append_nil] at hof
  rcases hof with ⟨hno, _⟩ | ⟨_, h1, x1_, ts10, hof1, hof2⟩
  · exact absurd ⟨6, by omega, hne⟩ hno
  try simp only [List.flatten_cons, List.flatten_nil, List.append_nil] at hof1 hof2
  rw [hns] at hof1
  obtain ⟨rfl, rfl, hts10⟩ := hof1.new (i := 5) (by omega) (by omega) (by simp [hts9, hts8, hts7, hts6, hts5, hts4, hts3, hts2, hts1, hts, pubT, rootT, freshT, agrT, drv, lb_early, lb_script, lb_message, lb_hand, lb_both, lb_master, lb_cd, lb_finished, lb_mark])
  rw [htl9] at hof2
  replace hof2 := hof2.zero
  have htl10 : ts10.length = 10 := by rw [hts10]; simp [htl9]
  have hwf10 : Wf ts10 := by rw [hts10]; exact hwf9.push ⟨Int.natCast_nonneg 5, by show ((5 : Nat) : Int) < _; omega⟩ ⟨by show (0 : Int) ≤ 0; decide, by show (0 : Int) < _; omega⟩ (show (2 : Int) ≠ 6 by decide)
  obtain ⟨rfl, hnn, hts11⟩ := hof2.new (i := 9) (by omega) (by omega) (by simp [hts10, hts9, hts8, hts7, hts6, hts5, hts4, hts3, hts2, hts1, hts, pubT, rootT, freshT, agrT, drv, lb_early, lb_script, lb_message, lb_hand, lb_both, lb_master, lb_cd, lb_finished, lb_mark])
  obtain ⟨n0, n1, n2, n3, n4, n5, n6, n7, n8, n9, na, nb, nc, nd, ne, nf, rfl⟩ := len16 (h := h) (by rw [hnn]; rfl)
  rw [htl10] at hnn
  have hVS11 := hVS9.step hst hH.mod.size
  replace hH := hH.vault hVS9 hst hvi11 (by first | exact .here | exact .there .here | exact .there (.there .here) | exact .there (.there (.there .here)) | exact .there (.there (.there (.there .here))) | exact .there (.there (.there (.there (.there .here)))) | exact .there (.there (.there (.there (.there (.there .here))))) | exact .there (.there (.there (.there (.there (.there (.there .here)))))) | exact .there (.there (.there (.there (.there (.there (.there (.there .here))))))) | exact .there (.there (.there (.there (.there (.there (.there (.there (.there .here)))))))) | exact .there (.there (.there (.there (.there (.there (.there (.there (.there (.there .here))))))))) | exact .there (.there (.there (.there (.there (.there (.there (.there (.there (.there (.there .here)))))))))) | exact .there (.there (.there (.there (.there (.there (.there (.there (.there (.there (.there (.there .here))))))))))) | exact .there (.there (.there (.there (.there (.there (.there (.there (.there (.there (.there (.there (.there .here)))))))))))) | exact .there (.there (.there (.there (.there (.there (.there (.there (.there (.there (.there (.there (.there (.there .here))))))))))))) | exact .there (.there (.there (.there (.there (.there (.there (.there (.there (.there (.there (.there (.there (.there (.there .here)))))))))))))))
  have hok11 := hvi11.ok
  have n0111 := hvi11.n01
  have n2311 := hvi11.n23
  clear hst
  have htl11 : ts11.length = 11 := by rw [hts11]; simp [htl10]
  have hwf11 : Wf ts11 := by rw [hts11]; exact hwf10.push ⟨Int.natCast_nonneg 9, by show ((9 : Nat) : Int) < _; omega⟩ ⟨by show (0 : Int) ≤ 0; decide, by show (0 : Int) < _; omega⟩ (show (2 : Int) ≠ 6 by decide)
  clear hof1 hof2
  refine ⟨_, rfl, hH.kp0, ?_⟩
  clear hS; intro a hS
  refine r_move hS hH.kp0 rfl rfl ?_; clear hS; intro a hS
  refine r_extract hS hH.kp0 rfl rfl rfl ?_; clear hS; intro a hS
  refine r_extract hS hH.kp0 rfl rfl rfl ?_; clear hS; intro a hS
  refine r_alloc hS hH (by repeat (first | exact Sub.nil | refine Sub.cons ?_ ?_ | exact In.here | refine In.there ?_)) Fc.zc26 rfl ?_
  clear hS hH; intro a w b20 hb20 hwb20 hS hH
  refine r_store_row hS hH rfl rfl (by first | exact .here | exact .there .here | exact .there (.there .here) | exact .there (.there (.there .here)) | exact .there (.there (.there (.there .here))) | exact .there (.there (.there (.there (.there .here)))) | exact .there (.there (.there (.there (.there (.there .here))))) | exact .there (.there (.there (.there (.there (.there (.there .here)))))) | exact .there (.there (.there (.there (.there (.there (.there (.there .here))))))) | exact .there (.there (.there (.there (.there (.there (.there (.there (.there .here)))))))) | exact .there (.there (.there (.there (.there (.there (.there (.there (.there (.there .here))))))))) | exact .there (.there (.there (.there (.there (.there (.there (.there (.there (.there (.there .here)))))))))) | exact .there (.there (.there (.there (.there (.there (.there (.there (.there (.there (.there (.there .here))))))))))) | exact .there (.there (.there (.there (.there (.there (.there (.there (.there (.there (.there (.there (.there .here)))))))))))) | exact .there (.there (.there (.there (.there (.there (.there (.there (.there (.there (.there (.there (.there (.there .here))))))))))))) | exact .there (.there (.there (.there (.there (.there (.there (.there (.there (.there (.there (.there (.there (.there (.there .here))))))))))))))) (by repeat (first | exact Sub.nil | refine Sub.cons ?_ ?_ | exact In.here | refine In.there ?_)) Fc.sz26 (by first | exact hcells_one _ | exact of_decide_eq_true rfl) (by rfl) (by first | exact .inr (by assumption) | exact .inl (by first | assumption | rfl)) ?_
  clear hH; intro w hH
  refine r_assign hS hH.kp0 rfl rfl ?_; clear hS; intro a hS
  refine Sq.nil ?_
  refine then_n ?_
  refine c_seq ?_
  refine reg_plain w0 (Nobody) ?_
  refine r_move hS hH.kp0 rfl rfl ?_; clear hS; intro a hS
  refine r_load_row hS hH (by repeat (first | exact Sub.nil | refine Sub.cons ?_ ?_ | exact In.here | refine In.there ?_)) rfl (by repeat (first | exact In.here | refine In.there ?_)) Fc.ag26 (by rfl) rfl ?_; clear hS; intro a hS
  refine r_call (l := [.tmp 106, .tmp 107]) hS rfl rfl Fc.fn33 rfl ?_
  refine Calls.mono (Master_v b V11 ts11 (by omega) [n0, n1, n2, n3, n4, n5, n6, n7, n8, n9, na, nb, nc, nd, ne, nf] rfl _ (hH.vin hok11 n0111 n2311 (by repeat (first | exact In.here | refine In.there ?_)) (by repeat (first | exact In.here | refine In.there ?_)) (by repeat (first | exact In.here | refine In.there ?_)) (by repeat (first | exact In.here | refine In.there ?_)))) ?_
  rintro e w1 ⟨h, x_, V12, ts12, rfl, hvi12, hst, hof⟩
  try simp only [List.flatten_cons, List.flatten_nil, List.append_nil] at hof
  rw [hnn] at hof
  obtain ⟨rfl, hnu, hts12⟩ := hof.new (i := 10) (by omega) (by omega) (by simp [hts11, hts10, hts9, hts8, hts7, hts6, hts5, hts4, hts3, hts2, hts1, hts, pubT, rootT, freshT, agrT, drv, lb_early, lb_script, lb_message, lb_hand, lb_both, lb_master, lb_cd, lb_finished, lb_mark])
  obtain ⟨u0, u1, u2, u3, u4, u5, u6, u7, u8, u9, ua, ub, uc, ud, ue, uf, rfl⟩ := len16 (h := h) (by rw [hnu]; rfl)
  rw [htl11] at hnu
  have hVS12 := hVS11.step hst hH.mod.size
  replace hH := hH.vault hVS11 hst hvi12 (by first | exact .here | exact .there .here | exact .there (.there .here) | exact .there (.there (.there .here)) | exact .there (.there (.there (.there .here))) | exact .there (.there (.there (.there (.there .here)))) | exact .there (.there (.there (.there (.there (.there .here))))) | exact .there (.there (.there (.there (.there (.there (.there .here)))))) | exact .there (.there (.there (.there (.there (.there (.there (.there .here))))))) | exact .there (.there (.there (.there (.there (.there (.there (.there (.there .here)))))))) | exact .there (.there (.there (.there (.there (.there (.there (.there (.there (.there .here))))))))) | exact .there (.there (.there (.there (.there (.there (.there (.there (.there (.there (.there .here)))))))))) | exact .there (.there (.there (.there (.there (.there (.there (.there (.there (.there (.there (.there .here))))))))))) | exact .there (.there (.there (.there (.there (.there (.there (.there (.there (.there (.there (.there (.there .here)))))))))))) | exact .there (.there (.there (.there (.there (.there (.there (.there (.there (.there (.there (.there (.there (.there .here))))))))))))) | exact .there (.there (.there (.there (.there (.there (.there (.there (.there (.there (.there (.there (.there (.there (.there .here)))))))))))))))
  have hok12 := hvi12.ok
  have n0112 := hvi12.n01
  have n2312 := hvi12.n23
  clear hst
  have htl12 : ts12.length = 12 := by rw [hts12]; simp [htl11]
  have hwf12 : Wf ts12 := by rw [hts12]; exact hwf11.push ⟨Int.natCast_nonneg 10, by show ((10 : Nat) : Int) < _; omega⟩ ⟨by show (0 : Int) ≤ 0; decide, by show (0 : Int) < _; omega⟩ (show (2 : Int) ≠ 6 by decide)
  clear hof
  refine ⟨_, rfl, hH.kp0, ?_⟩
  clear hS; intro a hS
  refine r_move hS hH.kp0 rfl rfl ?_; clear hS; intro a hS
  refine r_extract hS hH.kp0 rfl rfl rfl ?_; clear hS; intro a hS
  refine r_extract hS hH.kp0 rfl rfl rfl ?_; clear hS; intro a hS
  refine r_alloc hS hH (by repeat (first | exact Sub.nil | refine Sub.cons ?_ ?_ | exact In.here | refine In.there ?_)) Fc.zc26 rfl ?_
  clear hS hH; intro a w b21 hb21 hwb21 hS hH
  refine r_store_row hS hH rfl rfl (by first | exact .here | exact .there .here | exact .there (.there .here) | exact .there (.there (.there .here)) | exact .there (.there (.there (.there .here))) | exact .there (.there (.there (.there (.there .here)))) | exact .there (.there (.there (.there (.there (.there .here))))) | exact .there (.there (.there (.there (.there (.there (.there .here)))))) | exact .there (.there (.there (.there (.there (.there (.there (.there .here))))))) | exact .there (.there (.there (.there (.there (.there (.there (.there (.there .here)))))))) | exact .there (.there (.there (.there (.there (.there (.there (.there (.there (.there .here))))))))) | exact .there (.there (.there (.there (.there (.there (.there (.there (.there (.there (.there .here)))))))))) | exact .there (.there (.there (.there (.there (.there (.there (.there (.there (.there (.there (.there .here))))))))))) | exact .there (.there (.there (.there (.there (.there (.there (.there (.there (.there (.there (.there (.there .here)))))))))))) | exact .there (.there (.there (.there (.there (.there (.there (.there (.there (.there (.there (.there (.there (.there .here))))))))))))) | exact .there (.there (.there (.there (.there (.there (.there (.there (.there (.there (.there (.there (.there (.there (.there .here))))))))))))))) (by repeat (first | exact Sub.nil | refine Sub.cons ?_ ?_ | exact In.here | refine In.there ?_)) Fc.sz26 (by first | exact hcells_one _ | exact of_decide_eq_true rfl) (by rfl) (by first | exact .inr (by assumption) | exact .inl (by first | assumption | rfl)) ?_
  clear hH; intro w hH
  refine r_assign hS hH.kp0 rfl rfl ?_; clear hS; intro a hS
  refine Sq.nil ?_
  refine then_n ?_
  refine c_seq ?_
  refine reg_plain w0 (Nobody) ?_
  refine r_move hS hH.kp0 rfl rfl ?_; clear hS; intro a hS
  refine r_load_row hS hH (by repeat (first | exact Sub.nil | refine Sub.cons ?_ ?_ | exact In.here | refine In.there ?_)) rfl (by repeat (first | exact In.here | refine In.there ?_)) Fc.ag26 (by rfl) rfl ?_; clear hS; intro a hS
  refine r_load_row hS hH (by repeat (first | exact Sub.nil | refine Sub.cons ?_ ?_ | exact In.here | refine In.there ?_)) rfl (by repeat (first | exact In.here | refine In.there ?_)) Fc.ag26 (by rfl) rfl ?_; clear hS; intro a hS
  refine r_call (l := [.tmp 112, .tmp 113, .const (.string { data := #[99, 108, 105, 101, 110, 116, 32, 100, 97, 116, 97] }), .tmp 114]) hS rfl rfl Fc.fn15 rfl ?_
  refine Calls.mono (Traffic_v b V12 ts12 (by omega) [u0, u1, u2, u3, u4, u5, u6, u7, u8, u9, ua, ub, uc, ud, ue, uf] [m0, m1, m2, m3, m4, m5, m6, m7, m8, m9, ma, mb, mc, md, me, mf] rfl rfl lb_cd (by decide) _ (hH.vin hok12 n0112 n2312 (by repeat (first | exact In.here | refine In.there ?_)) (by repeat (first | exact In.here | refine In.there ?_)) (by repeat (first | exact In.here | refine In.there ?_)) (by repeat (first | exact In.here | refine In.there ?_)))) ?_
  rintro e w1 ⟨h, x_, V13, ts13, rfl, hvi13, hst, hof⟩
  try simp only [List.flatten_cons, List.flatten_nil, List.append_nil] at hof
  rw [hnu] at hof
  obtain ⟨rfl, hnr, hts13⟩ := hof.new (i := 11) (by omega) (by omega) (by simp [hts12, hts11, hts10, hts9, hts8, hts7, hts6, hts5, hts4, hts3, hts2, hts1, hts, pubT, rootT, freshT, agrT, drv, lb_early, lb_script, lb_message, lb_hand, lb_both, lb_master, lb_cd, lb_finished, lb_mark])
  obtain ⟨r0, r1, r2, r3, r4, r5, r6, r7, r8, r9, ra, rb, rc, rd, re, rf, rfl⟩ := len16 (h := h) (by rw [hnr]; rfl)
  rw [htl12] at hnr
  have hVS13 := hVS12.step hst hH.mod.size
  replace hH := hH.vault hVS12 hst hvi13 (by first | exact .here | exact .there .here | exact .there (.there .here) | exact .there (.there (.there .here)) | exact .there (.there (.there (.there .here))) | exact .there (.there (.there (.there (.there .here)))) | exact .there (.there (.there (.there (.there (.there .here))))) | exact .there (.there (.there (.there (.there (.there (.there .here)))))) | exact .there (.there (.there (.there (.there (.there (.there (.there .here))))))) | exact .there (.there (.there (.there (.there (.there (.there (.there (.there .here)))))))) | exact .there (.there (.there (.there (.there (.there (.there (.there (.there (.there .here))))))))) | exact .there (.there (.there (.there (.there (.there (.there (.there (.there (.there (.there .here)))))))))) | exact .there (.there (.there (.there (.there (.there (.there (.there (.there (.there (.there (.there .here))))))))))) | exact .there (.there (.there (.there (.there (.there (.there (.there (.there (.there (.there (.there (.there .here)))))))))))) | exact .there (.there (.there (.there (.there (.there (.there (.there (.there (.there (.there (.there (.there (.there .here))))))))))))) | exact .there (.there (.there (.there (.there (.there (.there (.there (.there (.there (.there (.there (.there (.there (.there .here)))))))))))))))
  have hok13 := hvi13.ok
  have n0113 := hvi13.n01
  have n2313 := hvi13.n23
  clear hst
  have htl13 : ts13.length = 13 := by rw [hts13]; simp [htl12]
  have hwf13 : Wf ts13 := by rw [hts13]; exact hwf12.push ⟨Int.natCast_nonneg 11, by show ((11 : Nat) : Int) < _; omega⟩ ⟨by show (0 : Int) ≤ 0; decide, by show (0 : Int) < _; omega⟩ (show (2 : Int) ≠ 6 by decide)
  clear hof
  refine ⟨_, rfl, hH.kp0, ?_⟩
  clear hS; intro a hS
  refine r_move hS hH.kp0 rfl rfl ?_; clear hS; intro a hS
  refine r_extract hS hH.kp0 rfl rfl rfl ?_; clear hS; intro a hS
  refine r_extract hS hH.kp0 rfl rfl rfl ?_; clear hS; intro a hS
  refine r_alloc hS hH (by repeat (first | exact Sub.nil | refine Sub.cons ?_ ?_ | exact In.here | refine In.there ?_)) Fc.zc26 rfl ?_
  clear hS hH; intro a w b22 hb22 hwb22 hS hH
  refine r_store_row hS hH rfl rfl (by first | exact .here | exact .there .here | exact .there (.there .here) | exact .there (.there (.there .here)) | exact .there (.there (.there (.there .here))) | exact .there (.there (.there (.there (.there .here)))) | exact .there (.there (.there (.there (.there (.there .here))))) | exact .there (.there (.there (.there (.there (.there (.there .here)))))) | exact .there (.there (.there (.there (.there (.there (.there (.there .here))))))) | exact .there (.there (.there (.there (.there (.there (.there (.there (.there .here)))))))) | exact .there (.there (.there (.there (.there (.there (.there (.there (.there (.there .here))))))))) | exact .there (.there (.there (.there (.there (.there (.there (.there (.there (.there (.there .here)))))))))) | exact .there (.there (.there (.there (.there (.there (.there (.there (.there (.there (.there (.there .here))))))))))) | exact .there (.there (.there (.there (.there (.there (.there (.there (.there (.there (.there (.there (.there .here)))))))))))) | exact .there (.there (.there (.there (.there (.there (.there (.there (.there (.there (.there (.there (.there (.there .here))))))))))))) | exact .there (.there (.there (.there (.there (.there (.there (.there (.there (.there (.there (.there (.there (.there (.there .here))))))))))))))) (by repeat (first | exact Sub.nil | refine Sub.cons ?_ ?_ | exact In.here | refine In.there ?_)) Fc.sz26 (by first | exact hcells_one _ | exact of_decide_eq_true rfl) (by rfl) (by first | exact .inr (by assumption) | exact .inl (by first | assumption | rfl)) ?_
  clear hH; intro w hH
  refine r_assign hS hH.kp0 rfl rfl ?_; clear hS; intro a hS
  refine Sq.nil ?_
  refine then_n ?_
  refine c_seq ?_
  refine reg_plain w0 (Nobody) ?_
  refine r_move hS hH.kp0 rfl rfl ?_; clear hS; intro a hS
  refine r_load_row hS hH (by repeat (first | exact Sub.nil | refine Sub.cons ?_ ?_ | exact In.here | refine In.there ?_)) rfl (by repeat (first | exact In.here | refine In.there ?_)) Fc.ag26 (by rfl) rfl ?_; clear hS; intro a hS
  refine r_load_row hS hH (by repeat (first | exact Sub.nil | refine Sub.cons ?_ ?_ | exact In.here | refine In.there ?_)) rfl (by repeat (first | exact In.here | refine In.there ?_)) Fc.ag26 (by rfl) rfl ?_; clear hS; intro a hS
  refine r_call (l := [.tmp 119, .tmp 120, .tmp 121]) hS rfl rfl Fc.fn34 rfl ?_
  refine Calls.mono (Mark_v b V13 ts13 (by omega) [r0, r1, r2, r3, r4, r5, r6, r7, r8, r9, ra, rb, rc, rd, re, rf] [m0, m1, m2, m3, m4, m5, m6, m7, m8, m9, ma, mb, mc, md, me, mf] rfl rfl _ (hH.vin hok13 n0113 n2313 (by repeat (first | exact In.here | refine In.there ?_)) (by repeat (first | exact In.here | refine In.there ?_)) (by repeat (first | exact In.here | refine In.there ?_)) (by repeat (first | exact In.here | refine In.there ?_)))) ?_
  rintro e w1 ⟨h, x_, V15, ts15, rfl, hvi15, hst, hof⟩
  try simp only [List.flatten_cons, List.flatten_nil, List.append_nil] at hof
  obtain ⟨h1, x1_, ts14, hof1, hof2⟩ := hof
  try simp only [List.flatten_cons, List.flatten_nil, List.append_nil] at hof1 hof2
  rw [hnr] at hof1
  obtain ⟨rfl, rfl, hts14⟩ := hof1.new (i := 12) (by omega) (by omega) (by simp [hts13, hts12, hts11, hts10, hts9, hts8, hts7, hts6, hts5, hts4, hts3, hts2, hts1, hts, pubT, rootT, freshT, agrT, drv, lb_early, lb_script, lb_message, lb_hand, lb_both, lb_master, lb_cd, lb_finished, lb_mark])
  rw [htl13] at hof2
  replace hof2 := hof2.zero
  have htl14 : ts14.length = 14 := by rw [hts14]; simp [htl13]
  have hwf14 : Wf ts14 := by rw [hts14]; exact hwf13.push ⟨Int.natCast_nonneg 12, by show ((12 : Nat) : Int) < _; omega⟩ ⟨by show (0 : Int) ≤ 0; decide, by show (0 : Int) < _; omega⟩ (show (2 : Int) ≠ 6 by decide)
  obtain ⟨rfl, hnz, hts15⟩ := hof2.new (i := 13) (by omega) (by omega) (by simp [hts14, hts13, hts12, hts11, hts10, hts9, hts8, hts7, hts6, hts5, hts4, hts3, hts2, hts1, hts, pubT, rootT, freshT, agrT, drv, lb_early, lb_script, lb_message, lb_hand, lb_both, lb_master, lb_cd, lb_finished, lb_mark])
  obtain ⟨z0, z1, z2, z3, z4, z5, z6, z7, z8, z9, za, zb, zc, zd, ze, zf, rfl⟩ := len16 (h := h) (by rw [hnz]; rfl)
  rw [htl14] at hnz
  have hVS15 := hVS13.step hst hH.mod.size
  replace hH := hH.vault hVS13 hst hvi15 (by first | exact .here | exact .there .here | exact .there (.there .here) | exact .there (.there (.there .here)) | exact .there (.there (.there (.there .here))) | exact .there (.there (.there (.there (.there .here)))) | exact .there (.there (.there (.there (.there (.there .here))))) | exact .there (.there (.there (.there (.there (.there (.there .here)))))) | exact .there (.there (.there (.there (.there (.there (.there (.there .here))))))) | exact .there (.there (.there (.there (.there (.there (.there (.there (.there .here)))))))) | exact .there (.there (.there (.there (.there (.there (.there (.there (.there (.there .here))))))))) | exact .there (.there (.there (.there (.there (.there (.there (.there (.there (.there (.there .here)))))))))) | exact .there (.there (.there (.there (.there (.there (.there (.there (.there (.there (.there (.there .here))))))))))) | exact .there (.there (.there (.there (.there (.there (.there (.there (.there (.there (.there (.there (.there .here)))))))))))) | exact .there (.there (.there (.there (.there (.there (.there (.there (.there (.there (.there (.there (.there (.there .here))))))))))))) | exact .there (.there (.there (.there (.there (.there (.there (.there (.there (.there (.there (.there (.there (.there (.there .here)))))))))))))))
  have hok15 := hvi15.ok
  have n0115 := hvi15.n01
  have n2315 := hvi15.n23
  clear hst
  have htl15 : ts15.length = 15 := by rw [hts15]; simp [htl14]
  have hwf15 : Wf ts15 := by rw [hts15]; exact hwf14.push ⟨Int.natCast_nonneg 13, by show ((13 : Nat) : Int) < _; omega⟩ ⟨by show (0 : Int) ≤ 0; decide, by show (0 : Int) < _; omega⟩ (show (2 : Int) ≠ 6 by decide)
  clear hof1 hof2
  have b1_ : ts15[1]? = some freshT := by rw [hts15, hts14, hts13, hts12, hts11, hts10, hts9, hts8, hts7, hts6, hts5, hts4, hts3, hts2, hts1, hts]; rfl
  have b2_ : ts15[2]? = some freshT := by rw [hts15, hts14, hts13, hts12, hts11, hts10, hts9, hts8, hts7, hts6, hts5, hts4, hts3, hts2, hts1, hts]; rfl
  have b5_ : ts15[5]? = some (agrT 1 2) := by rw [hts15, hts14, hts13, hts12, hts11, hts10, hts9, hts8, hts7, hts6, hts5, hts4, hts3, hts2, hts1, hts]; rfl
  have b6_ : ts15[6]? = some { drv lb_early (strOf []) with a := ((0 : Nat) : Int) } := by rw [hts15, hts14, hts13, hts12, hts11, hts10, hts9, hts8, hts7, hts6, hts5, hts4, hts3, hts2, hts1, hts]; rfl
  have b9_ : ts15[9]? = some { drv lb_hand (strOf [e0, e1, e2, e3, e4, e5, e6, e7, e8, e9, ea, eb, ec, ed, ee, ef]) with a := ((5 : Nat) : Int) } := by rw [hts15, hts14, hts13, hts12, hts11, hts10, hts9, hts8, hts7, hts6, hts5, hts4, hts3, hts2, hts1, hts]; rfl
  have b10_ : ts15[10]? = some { drv lb_both (strOf [e0, e1, e2, e3, e4, e5, e6, e7, e8, e9, ea, eb, ec, ed, ee, ef]) with a := ((9 : Nat) : Int) } := by rw [hts15, hts14, hts13, hts12, hts11, hts10, hts9, hts8, hts7, hts6, hts5, hts4, hts3, hts2, hts1, hts]; rfl
  have b11_ : ts15[11]? = some { drv lb_master (strOf []) with a := ((10 : Nat) : Int) } := by rw [hts15, hts14, hts13, hts12, hts11, hts10, hts9, hts8, hts7, hts6, hts5, hts4, hts3, hts2, hts1, hts]; rfl
  have b12_ : ts15[12]? = some { drv lb_cd (strOf [m0, m1, m2, m3, m4, m5, m6, m7, m8, m9, ma, mb, mc, md, me, mf]) with a := ((11 : Nat) : Int) } := by rw [hts15, hts14, hts13, hts12, hts11, hts10, hts9, hts8, hts7, hts6, hts5, hts4, hts3, hts2, hts1, hts]; rfl
  have b13_ : ts15[13]? = some { drv lb_finished (strOf []) with a := ((12 : Nat) : Int) } := by rw [hts15, hts14, hts13, hts12, hts11, hts10, hts9, hts8, hts7, hts6, hts5, hts4, hts3, hts2, hts1, hts]; rfl
  have hreach : ∀ j t, ts15[j]? = some t → Rch (fun j => j ≠ 1 ∧ j ≠ 2 ∧ j ≠ 5 ∧ j ≠ 9 ∧ j ≠ 10 ∧ j ≠ 11 ∧ j ≠ 12 ∧ j ≠ 13) t → (fun j => j ≠ 1 ∧ j ≠ 2 ∧ j ≠ 5 ∧ j ≠ 9 ∧ j ≠ 10 ∧ j ≠ 11 ∧ j ≠ 12 ∧ j ≠ 13) j := by
    intro j t ht hr
    refine ⟨fun e => ?_, fun e => ?_, fun e => ?_, fun e => ?_, fun e => ?_, fun e => ?_, fun e => ?_, fun e => ?_⟩ <;> subst e
    · rw [b1_] at ht; cases ht; simp [Rch, freshT, agrT, drv] at hr
    · rw [b2_] at ht; cases ht; simp [Rch, freshT, agrT, drv] at hr
    · rw [b5_] at ht; cases ht; simp [Rch, freshT, agrT, drv] at hr
    · rw [b9_] at ht; cases ht; simp [Rch, freshT, agrT, drv] at hr
    · rw [b10_] at ht; cases ht; simp [Rch, freshT, agrT, drv] at hr
    · rw [b11_] at ht; cases ht; simp [Rch, freshT, agrT, drv] at hr
    · rw [b12_] at ht; cases ht; simp [Rch, freshT, agrT, drv] at hr
    · rw [b13_] at ht; cases ht; simp [Rch, freshT, agrT, drv] at hr
  have hcl0 : Clos ts15 [] (fun j => j ≠ 1 ∧ j ≠ 2 ∧ j ≠ 5 ∧ j ≠ 9 ∧ j ≠ 10 ∧ j ≠ 11 ∧ j ≠ 12 ∧ j ≠ 13) := ⟨by decide, fun l hl => (by cases hl), hreach⟩
  refine ⟨_, rfl, hH.kp0, ?_⟩
  clear hS; intro a hS
  refine r_move hS hH.kp0 rfl rfl ?_; clear hS; intro a hS
  refine r_extract hS hH.kp0 rfl rfl rfl ?_; clear hS; intro a hS
  refine r_extract hS hH.kp0 rfl rfl rfl ?_; clear hS; intro a hS
  refine r_alloc hS hH (by repeat (first | exact Sub.nil | refine Sub.cons ?_ ?_ | exact In.here | refine In.there ?_)) Fc.zc26 rfl ?_
  clear hS hH; intro a w b23 hb23 hwb23 hS hH
  refine r_store_row hS hH rfl rfl (by first | exact .here | exact .there .here | exact .there (.there .here) | exact .there (.there (.there .here)) | exact .there (.there (.there (.there .here))) | exact .there (.there (.there (.there (.there .here)))) | exact .there (.there (.there (.there (.there (.there .here))))) | exact .there (.there (.there (.there (.there (.there (.there .here)))))) | exact .there (.there (.there (.there (.there (.there (.there (.there .here))))))) | exact .there (.there (.there (.there (.there (.there (.there (.there (.there .here)))))))) | exact .there (.there (.there (.there (.there (.there (.there (.there (.there (.there .here))))))))) | exact .there (.there (.there (.there (.there (.there (.there (.there (.there (.there (.there .here)))))))))) | exact .there (.there (.there (.there (.there (.there (.there (.there (.there (.there (.there (.there .here))))))))))) | exact .there (.there (.there (.there (.there (.there (.there (.there (.there (.there (.there (.there (.there .here)))))))))))) | exact .there (.there (.there (.there (.there (.there (.there (.there (.there (.there (.there (.there (.there (.there .here))))))))))))) | exact .there (.there (.there (.there (.there (.there (.there (.there (.there (.there (.there (.there (.there (.there (.there .here))))))))))))))) (by repeat (first | exact Sub.nil | refine Sub.cons ?_ ?_ | exact In.here | refine In.there ?_)) Fc.sz26 (by first | exact hcells_one _ | exact of_decide_eq_true rfl) (by rfl) (by first | exact .inr (by assumption) | exact .inl (by first | assumption | rfl)) ?_
  clear hH; intro w hH
  refine r_assign hS hH.kp0 rfl rfl ?_; clear hS; intro a hS
  refine Sq.nil ?_
  refine then_n ?_
  refine c_seq ?_
  refine c_seq ?_
  refine reg_plain w0 (Nobody) ?_
  refine r_move hS hH.kp0 rfl rfl ?_; clear hS; intro a hS
  refine r_neq hS hH.kp0 rfl rfl rfl ?_; clear hS; intro a hS
  refine r_move hS hH.kp0 rfl rfl ?_; clear hS; intro a hS
  refine Sq.guardYes hS rfl rfl rfl ?_
  refine r_move hS hH.kp0 rfl rfl ?_; clear hS; intro a hS
  refine Sq.guardYes hS rfl rfl rfl ?_
  refine r_neq hS hH.kp0 rfl rfl rfl ?_; clear hS; intro a hS
  refine r_pickF hS hH.kp0 rfl rfl rfl rfl ?_; clear hS; intro a hS
  refine r_move hS hH.kp0 rfl rfl ?_; clear hS; intro a hS
  refine Sq.guardYes hS rfl rfl rfl ?_
  refine r_move hS hH.kp0 rfl rfl ?_; clear hS; intro a hS
  refine Sq.guardYes hS rfl rfl rfl ?_
  refine r_neq hS hH.kp0 rfl rfl rfl ?_; clear hS; intro a hS
  refine r_pickF hS hH.kp0 rfl rfl rfl rfl ?_; clear hS; intro a hS
  refine r_move hS hH.kp0 rfl rfl ?_; clear hS; intro a hS
  refine Sq.guardYes hS rfl rfl rfl ?_
  refine r_move hS hH.kp0 rfl rfl ?_; clear hS; intro a hS
  refine Sq.guardYes hS rfl rfl rfl ?_
  refine r_neq hS hH.kp0 rfl rfl rfl ?_; clear hS; intro a hS
  refine r_pickF hS hH.kp0 rfl rfl rfl rfl ?_; clear hS; intro a hS
  refine r_move hS hH.kp0 rfl rfl ?_; clear hS; intro a hS
  refine Sq.guardYes hS rfl rfl rfl ?_
  refine r_move hS hH.kp0 rfl rfl ?_; clear hS; intro a hS
  refine Sq.guardYes hS rfl rfl rfl ?_
  refine r_neq hS hH.kp0 rfl rfl rfl ?_; clear hS; intro a hS
  refine r_pickF hS hH.kp0 rfl rfl rfl rfl ?_; clear hS; intro a hS
  refine Sq.nil ?_
  refine then_n ?_
  refine c_condF hS rfl rfl ?_
  refine wp_skip ?_
  refine then_n ?_
  refine c_seq ?_
  refine c_seq ?_
  refine reg_plain w0 (Nobody) ?_
  refine r_move hS hH.kp0 rfl rfl ?_; clear hS; intro a hS
  refine r_move hS hH.kp0 rfl rfl ?_; clear hS; intro a hS
  refine r_call (l := [.tmp 143, .tmp 144, .const (.slice none 0 0)]) hS rfl rfl Fc.fn28 rfl ?_
  refine Calls.mono (Hidden_v b V15 ts15 (by omega) hwf15 (by omega) _ _ la (by omega) [] (fun l hl => (by cases hl)) (by decide) _ (hH.vin hok15 n0115 n2315 (by repeat (first | exact In.here | refine In.there ?_)) (by repeat (first | exact In.here | refine In.there ?_)) (by repeat (first | exact In.here | refine In.there ?_)) (by repeat (first | exact In.here | refine In.there ?_))) (hb0.bs.ext hH.mod) (SlG.nil _ _)) ?_
  rintro e w1 ⟨r1, K1, rfl, hKN1, hHR1, hE⟩
  replace hH := hH.ext hE
  refine ⟨_, rfl, hH.kp0, ?_⟩
  clear hS; intro a hS
  rcases r1 with _ | _
  · refine r_move hS hH.kp0 rfl rfl ?_; clear hS; intro a hS
    refine Sq.guardYes hS rfl rfl rfl ?_
    refine r_move hS hH.kp0 rfl rfl ?_; clear hS; intro a hS
    refine Sq.guardYes hS rfl rfl rfl ?_
    refine r_move hS hH.kp0 rfl rfl ?_; clear hS; intro a hS
    refine Sq.guardYes hS rfl rfl rfl ?_
    refine r_call (l := [.tmp 147, .tmp 148, .const (.slice none 0 0)]) hS rfl rfl Fc.fn28 rfl ?_
    refine Calls.mono (Hidden_v b V15 ts15 (by omega) hwf15 (by omega) _ _ lc (by omega) [] (fun l hl => (by cases hl)) (by decide) _ (hH.vin hok15 n0115 n2315 (by repeat (first | exact In.here | refine In.there ?_)) (by repeat (first | exact In.here | refine In.there ?_)) (by repeat (first | exact In.here | refine In.there ?_)) (by repeat (first | exact In.here | refine In.there ?_))) (hb1.bs.ext hH.mod) (SlG.nil _ _)) ?_
    rintro e w1 ⟨r2, K2, rfl, hKN2, hHR2, hE⟩
    replace hH := hH.ext hE
    refine ⟨_, rfl, hH.kp0, ?_⟩
    clear hS; intro a hS
    refine r_pickF hS hH.kp0 rfl rfl rfl rfl ?_; clear hS; intro a hS
    refine Sq.nil ?_
    refine then_n ?_
    refine c_cond hS rfl (fun hc3 => ?_) (fun hc3 => ?_)
    · refine c_seq ?_
      refine reg_plain w0 (Nobody) ?_
      refine r_assign hS hH.kp0 rfl rfl ?_; clear hS; intro a hS
      refine Sq.nil ?_
      refine then_n ?_
      refine wp_ret ?_
      refine then_r ?_
      exact leave (.inl rfl) hS rfl (Res.tmp rfl Res.nil) ⟨rfl, hH.mod⟩
    · subst hc3
      have hcl : Clos ts15 [[p0, p1, p2, p3, p4, p5, p6, p7, p8, p9, pa, pb, pc, pd, pe, pf], [j0, j1, j2, j3, j4, j5, j6, j7, j8, j9, ja, jb, jc, jd, je, jf], la, lc, [m0, m1, m2, m3, m4, m5, m6, m7, m8, m9, ma, mb, mc, md, me, mf], [e0, e1, e2, e3, e4, e5, e6, e7, e8, e9, ea, eb, ec, ed, ee, ef], [z0, z1, z2, z3, z4, z5, z6, z7, z8, z9, za, zb, zc, zd, ze, zf]] (fun j => j ≠ 1 ∧ j ≠ 2 ∧ j ≠ 5 ∧ j ≠ 9 ∧ j ≠ 10 ∧ j ≠ 11 ∧ j ≠ 12 ∧ j ≠ 13) := by
        refine ⟨by decide, fun l hl j hj hn => ?_, hreach⟩
        simp only [List.mem_cons, List.not_mem_nil, or_false] at hl
        rcases hl with rfl | rfl | rfl | rfl | rfl | rfl | rfl
        · have e : j = 3 := nm_inj (by omega) (by omega) ((HasN16 rfl).1 hn |>.symm.trans hnp); subst e; decide
        · have e : j = 4 := nm_inj (by omega) (by omega) ((HasN16 rfl).1 hn |>.symm.trans hnj); subst e; decide
        · exact hKN1.least _ hcl0 j (hHR1.no rfl j hj hn)
        · exact hKN2.least _ hcl0 j (hHR2.no rfl j hj hn)
        · have e : j = 8 := nm_inj (by omega) (by omega) ((HasN16 rfl).1 hn |>.symm.trans hnm); subst e; decide
        · have e : j = 6 := nm_inj (by omega) (by omega) ((HasN16 rfl).1 hn |>.symm.trans hne); subst e; decide
        · have e : j = 14 := nm_inj (by omega) (by omega) ((HasN16 rfl).1 hn |>.symm.trans hnz); subst e; decide
      refine wp_skip ?_
      refine then_n ?_
      refine c_seq ?_
      refine reg_draw [(true, 0, []), (true, 1, []), (true, 2, []), (true, 3, []), (true, 4, []), (true, 5, []), (true, 6, []), (false, 7, []), (true, 8, [])] Fc.mixed (by kernel_rfl) (by kernel_rfl) (by kernel_rfl) (by kernel_rfl) (by kernel_rfl) (by repeat (first | with_reducible exact steady_body | with_reducible apply steady_block | with_reducible apply steady_then | exact steady_body)) hH ?_
      replace hH := hH.drew
      refine r_slArr hS trivial rfl Fc.ar26 rfl ?_; clear hS; intro a hS
      refine r_slArr hS trivial rfl Fc.ar26 rfl ?_; clear hS; intro a hS
      refine r_move hS trivial rfl rfl ?_; clear hS; intro a hS
      refine r_move hS trivial rfl rfl ?_; clear hS; intro a hS
      refine r_slArr hS trivial rfl Fc.ar26 rfl ?_; clear hS; intro a hS
      refine r_slArr hS trivial rfl Fc.ar26 rfl ?_; clear hS; intro a hS
      refine r_slArr hS trivial rfl Fc.ar26 rfl ?_; clear hS; intro a hS
      refine r_buildSlice (parts := [(0, .tmp 151), (1, .tmp 152), (2, .tmp 153), (3, .tmp 154), (4, .tmp 155), (5, .tmp 156), (6, .tmp 157)]) hS hH (by repeat (first | exact Sub.nil | refine Sub.cons ?_ ?_ | exact In.here | refine In.there ?_)) rfl Fc.bsl60_7 (by rfl) rfl ?_
      clear hS hH; intro a w b158 hb158 hwb158 hS hH
      refine r_assign hS trivial rfl rfl ?_; clear hS; intro a hS
      refine Sq.nil ?_
      refine then_n ?_
      refine c_seq ?_
      refine c_seq ?_
      refine reg_plain w0 (Nobody) ?_
      refine r_load_row hS hH (by repeat (first | exact Sub.nil | refine Sub.cons ?_ ?_ | exact In.here | refine In.there ?_)) rfl (by repeat (first | exact In.here | refine In.there ?_)) Fc.ag26 (by rfl) rfl ?_; clear hS; intro a hS
      refine r_load_row hS hH (by repeat (first | exact Sub.nil | refine Sub.cons ?_ ?_ | exact In.here | refine In.there ?_)) rfl (by repeat (first | exact In.here | refine In.there ?_)) Fc.ag26 (by rfl) rfl ?_; clear hS; intro a hS
      refine r_load_row hS hH (by repeat (first | exact Sub.nil | refine Sub.cons ?_ ?_ | exact In.here | refine In.there ?_)) rfl (by repeat (first | exact In.here | refine In.there ?_)) Fc.ag26 (by rfl) rfl ?_; clear hS; intro a hS
      refine r_load_row hS hH (by repeat (first | exact Sub.nil | refine Sub.cons ?_ ?_ | exact In.here | refine In.there ?_)) rfl (by repeat (first | exact In.here | refine In.there ?_)) Fc.ag26 (by rfl) rfl ?_; clear hS; intro a hS
      refine r_buildSlice (parts := [(0, .tmp 159), (1, .tmp 160), (2, .tmp 161), (3, .tmp 162)]) hS hH (by repeat (first | exact Sub.nil | refine Sub.cons ?_ ?_ | exact In.here | refine In.there ?_)) rfl Fc.bsl32_4 (by rfl) rfl ?_
      clear hS hH; intro a w b163 hb163 hwb163 hS hH
      refine r_lenSl hS hH.kp0 rfl Fc.isSlice32 rfl ?_; clear hS; intro a hS
      refine r_move hS hH.kp0 rfl rfl ?_; clear hS; intro a hS
      refine Sq.nil ?_
      refine then_n ?_
      refine wp_block ?_
      refine wp_loop_rounds 5 ?_
      refine rnd ?_
      refine c_seq ?_
      refine reg_plain w0 (Nobody) ?_
      refine r_lss hS hH.kp0 rfl rfl rfl ?_; clear hS; intro a hS
      refine Sq.nil ?_
      refine then_n ?_
      refine c_seq ?_
      refine c_condT hS rfl rfl ?_
      refine wp_skip ?_
      refine then_n ?_
      refine c_seq ?_
      refine wp_block ?_
      refine c_seq ?_
      refine reg_plain w0 (Nobody) ?_
      refine r_indexAddrS (j := 0) hS hH.kp0 rfl rfl Fc.slb32 rfl (by decide) rfl ?_; clear hS; intro a hS
      refine r_load_at (vs := hcells [n0, n1, n2, n3, n4, n5, n6, n7, n8, n9, na, nb, nc, nd, ne, nf]) hS hH (by repeat (first | exact Sub.nil | refine Sub.cons ?_ ?_ | exact In.here | refine In.there ?_)) rfl (by repeat (first | exact In.here | refine In.there ?_)) Fc.ag26 (by exact (show 0 + 0 * 16 + 16 ≤ 64 by decide)) (by rfl) rfl ?_; clear hS; intro a hS
      refine r_alloc hS hH (by repeat (first | exact Sub.nil | refine Sub.cons ?_ ?_ | exact In.here | refine In.there ?_)) Fc.zc26 rfl ?_
      clear hS hH; intro a w b27 hb27 hwb27 hS hH
      refine r_store_row hS hH rfl rfl (by first | exact .here | exact .there .here | exact .there (.there .here) | exact .there (.there (.there .here)) | exact .there (.there (.there (.there .here))) | exact .there (.there (.there (.there (.there .here)))) | exact .there (.there (.there (.there (.there (.there .here))))) | exact .there (.there (.there (.there (.there (.there (.there .here)))))) | exact .there (.there (.there (.there (.there (.there (.there (.there .here))))))) | exact .there (.there (.there (.there (.there (.there (.there (.there (.there .here)))))))) | exact .there (.there (.there (.there (.there (.there (.there (.there (.there (.there .here))))))))) | exact .there (.there (.there (.there (.there (.there (.there (.there (.there (.there (.there .here)))))))))) | exact .there (.there (.there (.there (.there (.there (.there (.there (.there (.there (.there (.there .here))))))))))) | exact .there (.there (.there (.there (.there (.there (.there (.there (.there (.there (.there (.there (.there .here)))))))))))) | exact .there (.there (.there (.there (.there (.there (.there (.there (.there (.there (.there (.there (.there (.there .here))))))))))))) | exact .there (.there (.there (.there (.there (.there (.there (.there (.there (.there (.there (.there (.there (.there (.there .here))))))))))))))) (by repeat (first | exact Sub.nil | refine Sub.cons ?_ ?_ | exact In.here | refine In.there ?_)) Fc.sz26 (by first | exact hcells_one _ | exact of_decide_eq_true rfl) (by rfl) (by first | exact .inr (by assumption) | exact .inl (by first | assumption | rfl)) ?_
      clear hH; intro w hH
      refine Sq.nil ?_
      refine then_n ?_
      refine c_seq ?_
      refine reg_draw [(true, 0, []), (true, 1, []), (true, 2, []), (false, 3, []), (true, 4, []), (true, 5, []), (true, 6, []), (true, 7, []), (true, 8, []), (true, 9, []), (false, 10, []), (false, 11, []), (false, 12, []), (true, 13, [])] Fc.mixed (by kernel_rfl) (by kernel_rfl) (by kernel_rfl) (by kernel_rfl) (by kernel_rfl) (by repeat (first | with_reducible exact steady_body | with_reducible apply steady_block | with_reducible apply steady_then | exact steady_body)) hH ?_
      replace hH := hH.drew
      refine r_move hS trivial rfl rfl ?_; clear hS; intro a hS
      refine r_slArr hS trivial rfl Fc.ar26 rfl ?_; clear hS; intro a hS
      refine r_move hS trivial rfl rfl ?_; clear hS; intro a hS
      refine r_call (l := [.tmp 169, .tmp 170, .tmp 171]) hS rfl rfl Fc.fn28 rfl ?_
      refine Calls.mono (Hidden_v b V15 ts15 (by omega) hwf15 (by omega) _ _ [n0, n1, n2, n3, n4, n5, n6, n7, n8, n9, na, nb, nc, nd, ne, nf] (by show 16 ≤ _; decide) [[p0, p1, p2, p3, p4, p5, p6, p7, p8, p9, pa, pb, pc, pd, pe, pf], [j0, j1, j2, j3, j4, j5, j6, j7, j8, j9, ja, jb, jc, jd, je, jf], la, lc, [m0, m1, m2, m3, m4, m5, m6, m7, m8, m9, ma, mb, mc, md, me, mf], [e0, e1, e2, e3, e4, e5, e6, e7, e8, e9, ea, eb, ec, ed, ee, ef], [z0, z1, z2, z3, z4, z5, z6, z7, z8, z9, za, zb, zc, zd, ze, zf]] (by intro l hl; simp only [List.mem_cons, List.not_mem_nil, or_false, List.cons_append, List.nil_append] at hl; rcases hl with rfl | rfl | rfl | rfl | rfl | rfl | rfl <;> first | omega | (show 16 ≤ _; decide)) (by show 7 ≤ _; decide) _ (hH.vin hok15 n0115 n2315 (by repeat (first | exact In.here | refine In.there ?_)) (by repeat (first | exact In.here | refine In.there ?_)) (by repeat (first | exact In.here | refine In.there ?_)) (by repeat (first | exact In.here | refine In.there ?_))) (BsF.block (F := Nobody) (hH.get (b := b27) (by repeat (first | exact In.here | refine In.there ?_))) rfl (fun h => h)).bs (SlG.bl (F := Nobody) [.slice (some ⟨b8, 0, none⟩) 16 16, .slice (some ⟨b10, 0, none⟩) 16 16, .slice qa la.length qca, .slice qc lc.length qcc, .slice (some ⟨b18, 0, none⟩) 16 16, .slice (some ⟨b16, 0, none⟩) 16 16, .slice (some ⟨b23, 0, none⟩) 16 16] (hH.get (b := b158) (by repeat (first | exact In.here | refine In.there ?_))) (fun h => h) rfl (Nat.le_refl 7) (by rfl) (by exact Nat.le_refl 7) (.cons (BsF.block (F := Nobody) (hH.get (b := b8) (by repeat (first | exact In.here | refine In.there ?_))) rfl (fun h => h)) (.cons (BsF.block (F := Nobody) (hH.get (b := b10) (by repeat (first | exact In.here | refine In.there ?_))) rfl (fun h => h)) (.cons (hb0.go (F' := Nobody) hH.mod (fun _ h => h.elim)) (.cons (hb1.go (F' := Nobody) hH.mod (fun _ h => h.elim)) (.cons (BsF.block (F := Nobody) (hH.get (b := b18) (by repeat (first | exact In.here | refine In.there ?_))) rfl (fun h => h)) (.cons (BsF.block (F := Nobody) (hH.get (b := b16) (by repeat (first | exact In.here | refine In.there ?_))) rfl (fun h => h)) (.cons (BsF.block (F := Nobody) (hH.get (b := b23) (by repeat (first | exact In.here | refine In.there ?_))) rfl (fun h => h)) .nil))))))))) ?_
      rintro e w1 ⟨r, K, rfl, hKN, hHR, hE⟩
      replace hH := hH.ext hE
      have hr : r = true := by
        cases r
        · have h6 := hHR.no rfl 10 (by omega) ((HasN16 rfl).2 hnn)
          exact absurd rfl (hKN.least _ hcl 10 h6).2.2.2.2.1
        · rfl
      subst hr
      refine ⟨_, rfl, hH.kp (by repeat (first | exact Sub.nil | refine Sub.cons ?_ ?_ | exact In.here | refine In.there ?_)), ?_⟩
      clear hS; intro a hS
      refine r_not hS trivial rfl rfl ?_; clear hS; intro a hS
      refine r_move hS trivial rfl rfl ?_; clear hS; intro a hS
      refine Sq.guardYes hS rfl rfl rfl ?_
      refine r_move hS trivial rfl rfl ?_; clear hS; intro a hS
      refine Sq.guardYes hS rfl rfl rfl ?_
      refine r_slArr hS trivial rfl Fc.ar26 rfl ?_; clear hS; intro a hS
      refine Sq.guardYes hS rfl rfl rfl ?_
      refine r_move hS trivial rfl rfl ?_; clear hS; intro a hS
      refine Sq.guardYes hS rfl rfl rfl ?_
      refine r_slArr hS trivial rfl Fc.ar26 rfl ?_; clear hS; intro a hS
      refine Sq.guardYes hS rfl rfl rfl ?_
      refine r_buildSlice (parts := [(0, .tmp 178)]) hS hH (by repeat (first | exact Sub.nil | refine Sub.cons ?_ ?_ | exact In.here | refine In.there ?_)) rfl Fc.bsl60_1 (by rfl) rfl ?_
      clear hS hH; intro a w b179 hb179 hwb179 hS hH
      refine Sq.guardYes hS rfl rfl rfl ?_
      refine r_append_new hS hH (by repeat (first | exact Sub.nil | refine Sub.cons ?_ ?_ | exact In.here | refine In.there ?_)) rfl rfl (Sl.of_block (es := 1) (m := 7) (cap := 7) (hH.get (b := b158) (by repeat (first | exact In.here | refine In.there ?_))) (by exact Nat.le_refl 7) (Nat.le_refl 7)) Fc.el60 Fc.ni60 ((Sl.of_block (es := 1) (m := 1) (cap := 1) (hH.get (b := b179) (by repeat (first | exact In.here | refine In.there ?_))) (by exact Nat.le_refl 1) (Nat.le_refl 1)).src (by intro u hu; have hu2 := List.mem_singleton.1 hu; rw [hu2]; rfl)) (by decide) (by decide) rfl ?_
      clear hS hH; intro a w ob cap1 l2 hob hwob hl2_ hc2_ htk2 hS hH
      replace htk2 : l2.take 8 = [.slice (some ⟨b8, 0, none⟩) 16 16, .slice (some ⟨b10, 0, none⟩) 16 16, .slice qa la.length qca, .slice qc lc.length qcc, .slice (some ⟨b18, 0, none⟩) 16 16, .slice (some ⟨b16, 0, none⟩) 16 16, .slice (some ⟨b23, 0, none⟩) 16 16] ++ [.slice (some ⟨b6, 0, none⟩) 16 16] := htk2
      rw [Nat.mul_one] at hl2_
      refine Sq.guardYes hS rfl rfl rfl ?_
      refine r_call (l := [.tmp 175, .tmp 176, .tmp 180]) hS rfl rfl Fc.fn28 rfl ?_
      refine Calls.mono (Hidden_v b V15 ts15 (by omega) hwf15 (by omega) _ _ [n0, n1, n2, n3, n4, n5, n6, n7, n8, n9, na, nb, nc, nd, ne, nf] (by show 16 ≤ _; decide) ([[p0, p1, p2, p3, p4, p5, p6, p7, p8, p9, pa, pb, pc, pd, pe, pf], [j0, j1, j2, j3, j4, j5, j6, j7, j8, j9, ja, jb, jc, jd, je, jf], la, lc, [m0, m1, m2, m3, m4, m5, m6, m7, m8, m9, ma, mb, mc, md, me, mf], [e0, e1, e2, e3, e4, e5, e6, e7, e8, e9, ea, eb, ec, ed, ee, ef], [z0, z1, z2, z3, z4, z5, z6, z7, z8, z9, za, zb, zc, zd, ze, zf]] ++ [[x0, x1, x2, x3, x4, x5, x6, x7, x8, x9, xa, xb, xc, xd, xe, xf]]) (by intro l hl; simp only [List.mem_cons, List.not_mem_nil, or_false, List.cons_append, List.nil_append] at hl; rcases hl with rfl | rfl | rfl | rfl | rfl | rfl | rfl | rfl <;> first | omega | (show 16 ≤ _; decide)) (by show 8 ≤ _; decide) _ (hH.vin hok15 n0115 n2315 (by repeat (first | exact In.here | refine In.there ?_)) (by repeat (first | exact In.here | refine In.there ?_)) (by repeat (first | exact In.here | refine In.there ?_)) (by repeat (first | exact In.here | refine In.there ?_))) (BsF.block (F := Nobody) (hH.get (b := b27) (by repeat (first | exact In.here | refine In.there ?_))) rfl (fun h => h)).bs (SlG.bl (F := Nobody) ([.slice (some ⟨b8, 0, none⟩) 16 16, .slice (some ⟨b10, 0, none⟩) 16 16, .slice qa la.length qca, .slice qc lc.length qcc, .slice (some ⟨b18, 0, none⟩) 16 16, .slice (some ⟨b16, 0, none⟩) 16 16, .slice (some ⟨b23, 0, none⟩) 16 16] ++ [.slice (some ⟨b6, 0, none⟩) 16 16]) (hH.get (b := ob) (by repeat (first | exact In.here | refine In.there ?_))) (fun h => h) rfl hc2_ (by rw [← htk2]) (by omega) (BL.snoc (.cons (BsF.block (F := Nobody) (hH.get (b := b8) (by repeat (first | exact In.here | refine In.there ?_))) rfl (fun h => h)) (.cons (BsF.block (F := Nobody) (hH.get (b := b10) (by repeat (first | exact In.here | refine In.there ?_))) rfl (fun h => h)) (.cons (hb0.go (F' := Nobody) hH.mod (fun _ h => h.elim)) (.cons (hb1.go (F' := Nobody) hH.mod (fun _ h => h.elim)) (.cons (BsF.block (F := Nobody) (hH.get (b := b18) (by repeat (first | exact In.here | refine In.there ?_))) rfl (fun h => h)) (.cons (BsF.block (F := Nobody) (hH.get (b := b16) (by repeat (first | exact In.here | refine In.there ?_))) rfl (fun h => h)) (.cons (BsF.block (F := Nobody) (hH.get (b := b23) (by repeat (first | exact In.here | refine In.there ?_))) rfl (fun h => h)) .nil))))))) (BsF.block (F := Nobody) (hH.get (b := b6) (by repeat (first | exact In.here | refine In.there ?_))) rfl (fun h => h))))) ?_
      rintro e w1 ⟨r, K3, rfl, hKN3, hHR3, hE⟩
      replace hH := hH.ext hE
      have hr : r = false := by
        cases r
        · rfl
        · obtain ⟨z9, hz9, hno9⟩ := hHR3.yes rfl
          have hz0 : z9 = 0 := by have : z9 + 16 ≤ 16 := hz9; omega
          subst hz0
          have k1 : KT K3 1 := hKN3.clos.seen [x0, x1, x2, x3, x4, x5, x6, x7, x8, x9, xa, xb, xc, xd, xe, xf] (by simp) 1 (by omega) ((HasN16 rfl).2 hnx)
          have k5 : KT K3 5 := hKN3.clos.reach 5 _ b5_ (.inr ⟨rfl, .inl k1⟩)
          have k9 : KT K3 9 := hKN3.clos.reach 9 _ b9_ (.inl ⟨.inl rfl, k5⟩)
          have k10 : KT K3 10 := hKN3.clos.reach 10 _ b10_ (.inl ⟨.inl rfl, k9⟩)
          have k11 : KT K3 11 := hKN3.clos.reach 11 _ b11_ (.inl ⟨.inl rfl, k10⟩)
          have k12 : KT K3 12 := hKN3.clos.reach 12 _ b12_ (.inl ⟨.inl rfl, k11⟩)
          exact absurd k10 (hno9 10 (by omega) hnn)
      subst hr
      refine ⟨_, rfl, hH.kp (by repeat (first | exact Sub.nil | refine Sub.cons ?_ ?_ | exact In.here | refine In.there ?_)), ?_⟩
      clear hS; intro a hS
      refine r_pickF hS trivial rfl rfl rfl rfl ?_; clear hS; intro a hS
      refine Sq.nil ?_
      refine then_n ?_
      refine c_condF hS rfl rfl ?_
      refine wp_skip ?_
      refine blk_n ?_
      refine then_n ?_
      refine reg_plain w0 (Nobody) ?_
      first | refine r_add hS hH.kp0 rfl rfl rfl (by omega) ?_ | refine r_addw hS hH.kp0 rfl rfl rfl ?_
      clear hS; intro a hS
      refine r_move hS hH.kp0 rfl rfl ?_; clear hS; intro a hS
      refine Sq.nil ?_
      replace hH := hH.tail3
      refine then_n ?_
      refine rnd ?_
      refine c_seq ?_
      refine reg_plain w0 (Nobody) ?_
      refine r_lss hS hH.kp0 rfl rfl rfl ?_; clear hS; intro a hS
      refine Sq.nil ?_
      refine then_n ?_
      refine c_seq ?_
      refine c_condT hS rfl rfl ?_
      refine wp_skip ?_
      refine then_n ?_
      refine c_seq ?_
      refine wp_block ?_
      refine c_seq ?_
      refine reg_plain w0 (Nobody) ?_
      refine r_indexAddrS (j := 1) hS hH.kp0 rfl rfl Fc.slb32 rfl (by decide) rfl ?_; clear hS; intro a hS
      refine r_load_at (vs := hcells [u0, u1, u2, u3, u4, u5, u6, u7, u8, u9, ua, ub, uc, ud, ue, uf]) hS hH (by repeat (first | exact Sub.nil | refine Sub.cons ?_ ?_ | exact In.here | refine In.there ?_)) rfl (by repeat (first | exact In.here | refine In.there ?_)) Fc.ag26 (by exact (show 0 + 1 * 16 + 16 ≤ 64 by decide)) (by rfl) rfl ?_; clear hS; intro a hS
      refine r_alloc hS hH (by repeat (first | exact Sub.nil | refine Sub.cons ?_ ?_ | exact In.here | refine In.there ?_)) Fc.zc26 rfl ?_
      clear hS hH; intro a w b27 hb27 hwb27 hS hH
      refine r_store_row hS hH rfl rfl (by first | exact .here | exact .there .here | exact .there (.there .here) | exact .there (.there (.there .here)) | exact .there (.there (.there (.there .here))) | exact .there (.there (.there (.there (.there .here)))) | exact .there (.there (.there (.there (.there (.there .here))))) | exact .there (.there (.there (.there (.there (.there (.there .here)))))) | exact .there (.there (.there (.there (.there (.there (.there (.there .here))))))) | exact .there (.there (.there (.there (.there (.there (.there (.there (.there .here)))))))) | exact .there (.there (.there (.there (.there (.there (.there (.there (.there (.there .here))))))))) | exact .there (.there (.there (.there (.there (.there (.there (.there (.there (.there (.there .here)))))))))) | exact .there (.there (.there (.there (.there (.there (.there (.there (.there (.there (.there (.there .here))))))))))) | exact .there (.there (.there (.there (.there (.there (.there (.there (.there (.there (.there (.there (.there .here)))))))))))) | exact .there (.there (.there (.there (.there (.there (.there (.there (.there (.there (.there (.there (.there (.there .here))))))))))))) | exact .there (.there (.there (.there (.there (.there (.there (.there (.there (.there (.there (.there (.there (.there (.there .here))))))))))))))) (by repeat (first | exact Sub.nil | refine Sub.cons ?_ ?_ | exact In.here | refine In.there ?_)) Fc.sz26 (by first | exact hcells_one _ | exact of_decide_eq_true rfl) (by rfl) (by first | exact .inr (by assumption) | exact .inl (by first | assumption | rfl)) ?_
      clear hH; intro w hH
      refine Sq.nil ?_
      refine then_n ?_
      refine c_seq ?_
      refine reg_draw [(true, 0, []), (true, 1, []), (true, 2, []), (false, 3, []), (true, 4, []), (true, 5, []), (true, 6, []), (true, 7, []), (true, 8, []), (true, 9, []), (false, 10, []), (false, 11, []), (false, 12, []), (true, 13, [])] Fc.mixed (by kernel_rfl) (by kernel_rfl) (by kernel_rfl) (by kernel_rfl) (by kernel_rfl) (by repeat (first | with_reducible exact steady_body | with_reducible apply steady_block | with_reducible apply steady_then | exact steady_body)) hH ?_
      replace hH := hH.drew
      refine r_move hS trivial rfl rfl ?_; clear hS; intro a hS
      refine r_slArr hS trivial rfl Fc.ar26 rfl ?_; clear hS; intro a hS
      refine r_move hS trivial rfl rfl ?_; clear hS; intro a hS
      refine r_call (l := [.tmp 169, .tmp 170, .tmp 171]) hS rfl rfl Fc.fn28 rfl ?_
      refine Calls.mono (Hidden_v b V15 ts15 (by omega) hwf15 (by omega) _ _ [u0, u1, u2, u3, u4, u5, u6, u7, u8, u9, ua, ub, uc, ud, ue, uf] (by show 16 ≤ _; decide) [[p0, p1, p2, p3, p4, p5, p6, p7, p8, p9, pa, pb, pc, pd, pe, pf], [j0, j1, j2, j3, j4, j5, j6, j7, j8, j9, ja, jb, jc, jd, je, jf], la, lc, [m0, m1, m2, m3, m4, m5, m6, m7, m8, m9, ma, mb, mc, md, me, mf], [e0, e1, e2, e3, e4, e5, e6, e7, e8, e9, ea, eb, ec, ed, ee, ef], [z0, z1, z2, z3, z4, z5, z6, z7, z8, z9, za, zb, zc, zd, ze, zf]] (by intro l hl; simp only [List.mem_cons, List.not_mem_nil, or_false, List.cons_append, List.nil_append] at hl; rcases hl with rfl | rfl | rfl | rfl | rfl | rfl | rfl <;> first | omega | (show 16 ≤ _; decide)) (by show 7 ≤ _; decide) _ (hH.vin hok15 n0115 n2315 (by repeat (first | exact In.here | refine In.there ?_)) (by repeat (first | exact In.here | refine In.there ?_)) (by repeat (first | exact In.here | refine In.there ?_)) (by repeat (first | exact In.here | refine In.there ?_))) (BsF.block (F := Nobody) (hH.get (b := b27) (by repeat (first | exact In.here | refine In.there ?_))) rfl (fun h => h)).bs (SlG.bl (F := Nobody) [.slice (some ⟨b8, 0, none⟩) 16 16, .slice (some ⟨b10, 0, none⟩) 16 16, .slice qa la.length qca, .slice qc lc.length qcc, .slice (some ⟨b18, 0, none⟩) 16 16, .slice (some ⟨b16, 0, none⟩) 16 16, .slice (some ⟨b23, 0, none⟩) 16 16] (hH.get (b := b158) (by repeat (first | exact In.here | refine In.there ?_))) (fun h => h) rfl (Nat.le_refl 7) (by rfl) (by exact Nat.le_refl 7) (.cons (BsF.block (F := Nobody) (hH.get (b := b8) (by repeat (first | exact In.here | refine In.there ?_))) rfl (fun h => h)) (.cons (BsF.block (F := Nobody) (hH.get (b := b10) (by repeat (first | exact In.here | refine In.there ?_))) rfl (fun h => h)) (.cons (hb0.go (F' := Nobody) hH.mod (fun _ h => h.elim)) (.cons (hb1.go (F' := Nobody) hH.mod (fun _ h => h.elim)) (.cons (BsF.block (F := Nobody) (hH.get (b := b18) (by repeat (first | exact In.here | refine In.there ?_))) rfl (fun h => h)) (.cons (BsF.block (F := Nobody) (hH.get (b := b16) (by repeat (first | exact In.here | refine In.there ?_))) rfl (fun h => h)) (.cons (BsF.block (F := Nobody) (hH.get (b := b23) (by repeat (first | exact In.here | refine In.there ?_))) rfl (fun h => h)) .nil))))))))) ?_
      rintro e w1 ⟨r, K, rfl, hKN, hHR, hE⟩
      replace hH := hH.ext hE
      have hr : r = true := by
        cases r
        · have h6 := hHR.no rfl 11 (by omega) ((HasN16 rfl).2 hnu)
          exact absurd rfl (hKN.least _ hcl 11 h6).2.2.2.2.2.1
        · rfl
      subst hr
      refine ⟨_, rfl, hH.kp (by repeat (first | exact Sub.nil | refine Sub.cons ?_ ?_ | exact In.here | refine In.there ?_)), ?_⟩
      clear hS; intro a hS
      refine r_not hS trivial rfl rfl ?_; clear hS; intro a hS
      refine r_move hS trivial rfl rfl ?_; clear hS; intro a hS
      refine Sq.guardYes hS rfl rfl rfl ?_
      refine r_move hS trivial rfl rfl ?_; clear hS; intro a hS
      refine Sq.guardYes hS rfl rfl rfl ?_
      refine r_slArr hS trivial rfl Fc.ar26 rfl ?_; clear hS; intro a hS
      refine Sq.guardYes hS rfl rfl rfl ?_
      refine r_move hS trivial rfl rfl ?_; clear hS; intro a hS
      refine Sq.guardYes hS rfl rfl rfl ?_
      refine r_slArr hS trivial rfl Fc.ar26 rfl ?_; clear hS; intro a hS
      refine Sq.guardYes hS rfl rfl rfl ?_
      refine r_buildSlice (parts := [(0, .tmp 178)]) hS hH (by repeat (first | exact Sub.nil | refine Sub.cons ?_ ?_ | exact In.here | refine In.there ?_)) rfl Fc.bsl60_1 (by rfl) rfl ?_
      clear hS hH; intro a w b179 hb179 hwb179 hS hH
      refine Sq.guardYes hS rfl rfl rfl ?_
      refine r_append_new hS hH (by repeat (first | exact Sub.nil | refine Sub.cons ?_ ?_ | exact In.here | refine In.there ?_)) rfl rfl (Sl.of_block (es := 1) (m := 7) (cap := 7) (hH.get (b := b158) (by repeat (first | exact In.here | refine In.there ?_))) (by exact Nat.le_refl 7) (Nat.le_refl 7)) Fc.el60 Fc.ni60 ((Sl.of_block (es := 1) (m := 1) (cap := 1) (hH.get (b := b179) (by repeat (first | exact In.here | refine In.there ?_))) (by exact Nat.le_refl 1) (Nat.le_refl 1)).src (by intro u hu; have hu2 := List.mem_singleton.1 hu; rw [hu2]; rfl)) (by decide) (by decide) rfl ?_
      clear hS hH; intro a w ob cap1 l2 hob hwob hl2_ hc2_ htk2 hS hH
      replace htk2 : l2.take 8 = [.slice (some ⟨b8, 0, none⟩) 16 16, .slice (some ⟨b10, 0, none⟩) 16 16, .slice qa la.length qca, .slice qc lc.length qcc, .slice (some ⟨b18, 0, none⟩) 16 16, .slice (some ⟨b16, 0, none⟩) 16 16, .slice (some ⟨b23, 0, none⟩) 16 16] ++ [.slice (some ⟨b6, 0, none⟩) 16 16] := htk2
      rw [Nat.mul_one] at hl2_
      refine Sq.guardYes hS rfl rfl rfl ?_
      refine r_call (l := [.tmp 175, .tmp 176, .tmp 180]) hS rfl rfl Fc.fn28 rfl ?_
      refine Calls.mono (Hidden_v b V15 ts15 (by omega) hwf15 (by omega) _ _ [u0, u1, u2, u3, u4, u5, u6, u7, u8, u9, ua, ub, uc, ud, ue, uf] (by show 16 ≤ _; decide) ([[p0, p1, p2, p3, p4, p5, p6, p7, p8, p9, pa, pb, pc, pd, pe, pf], [j0, j1, j2, j3, j4, j5, j6, j7, j8, j9, ja, jb, jc, jd, je, jf], la, lc, [m0, m1, m2, m3, m4, m5, m6, m7, m8, m9, ma, mb, mc, md, me, mf], [e0, e1, e2, e3, e4, e5, e6, e7, e8, e9, ea, eb, ec, ed, ee, ef], [z0, z1, z2, z3, z4, z5, z6, z7, z8, z9, za, zb, zc, zd, ze, zf]] ++ [[x0, x1, x2, x3, x4, x5, x6, x7, x8, x9, xa, xb, xc, xd, xe, xf]]) (by intro l hl; simp only [List.mem_cons, List.not_mem_nil, or_false, List.cons_append, List.nil_append] at hl; rcases hl with rfl | rfl | rfl | rfl | rfl | rfl | rfl | rfl <;> first | omega | (show 16 ≤ _; decide)) (by show 8 ≤ _; decide) _ (hH.vin hok15 n0115 n2315 (by repeat (first | exact In.here | refine In.there ?_)) (by repeat (first | exact In.here | refine In.there ?_)) (by repeat (first | exact In.here | refine In.there ?_)) (by repeat (first | exact In.here | refine In.there ?_))) (BsF.block (F := Nobody) (hH.get (b := b27) (by repeat (first | exact In.here | refine In.there ?_))) rfl (fun h => h)).bs (SlG.bl (F := Nobody) ([.slice (some ⟨b8, 0, none⟩) 16 16, .slice (some ⟨b10, 0, none⟩) 16 16, .slice qa la.length qca, .slice qc lc.length qcc, .slice (some ⟨b18, 0, none⟩) 16 16, .slice (some ⟨b16, 0, none⟩) 16 16, .slice (some ⟨b23, 0, none⟩) 16 16] ++ [.slice (some ⟨b6, 0, none⟩) 16 16]) (hH.get (b := ob) (by repeat (first | exact In.here | refine In.there ?_))) (fun h => h) rfl hc2_ (by rw [← htk2]) (by omega) (BL.snoc (.cons (BsF.block (F := Nobody) (hH.get (b := b8) (by repeat (first | exact In.here | refine In.there ?_))) rfl (fun h => h)) (.cons (BsF.block (F := Nobody) (hH.get (b := b10) (by repeat (first | exact In.here | refine In.there ?_))) rfl (fun h => h)) (.cons (hb0.go (F' := Nobody) hH.mod (fun _ h => h.elim)) (.cons (hb1.go (F' := Nobody) hH.mod (fun _ h => h.elim)) (.cons (BsF.block (F := Nobody) (hH.get (b := b18) (by repeat (first | exact In.here | refine In.there ?_))) rfl (fun h => h)) (.cons (BsF.block (F := Nobody) (hH.get (b := b16) (by repeat (first | exact In.here | refine In.there ?_))) rfl (fun h => h)) (.cons (BsF.block (F := Nobody) (hH.get (b := b23) (by repeat (first | exact In.here | refine In.there ?_))) rfl (fun h => h)) .nil))))))) (BsF.block (F := Nobody) (hH.get (b := b6) (by repeat (first | exact In.here | refine In.there ?_))) rfl (fun h => h))))) ?_
      rintro e w1 ⟨r, K3, rfl, hKN3, hHR3, hE⟩
      replace hH := hH.ext hE
      have hr : r = false := by
        cases r
        · rfl
        · obtain ⟨z9, hz9, hno9⟩ := hHR3.yes rfl
          have hz0 : z9 = 0 := by have : z9 + 16 ≤ 16 := hz9; omega
          subst hz0
          have k1 : KT K3 1 := hKN3.clos.seen [x0, x1, x2, x3, x4, x5, x6, x7, x8, x9, xa, xb, xc, xd, xe, xf] (by simp) 1 (by omega) ((HasN16 rfl).2 hnx)
          have k5 : KT K3 5 := hKN3.clos.reach 5 _ b5_ (.inr ⟨rfl, .inl k1⟩)
          have k9 : KT K3 9 := hKN3.clos.reach 9 _ b9_ (.inl ⟨.inl rfl, k5⟩)
          have k10 : KT K3 10 := hKN3.clos.reach 10 _ b10_ (.inl ⟨.inl rfl, k9⟩)
          have k11 : KT K3 11 := hKN3.clos.reach 11 _ b11_ (.inl ⟨.inl rfl, k10⟩)
          have k12 : KT K3 12 := hKN3.clos.reach 12 _ b12_ (.inl ⟨.inl rfl, k11⟩)
          exact absurd k11 (hno9 11 (by omega) hnu)
      subst hr
      refine ⟨_, rfl, hH.kp (by repeat (first | exact Sub.nil | refine Sub.cons ?_ ?_ | exact In.here | refine In.there ?_)), ?_⟩
      clear hS; intro a hS
      refine r_pickF hS trivial rfl rfl rfl rfl ?_; clear hS; intro a hS
      refine Sq.nil ?_
      refine then_n ?_
      refine c_condF hS rfl rfl ?_
      refine wp_skip ?_
      refine blk_n ?_
      refine then_n ?_
      refine reg_plain w0 (Nobody) ?_
      first | refine r_add hS hH.kp0 rfl rfl rfl (by omega) ?_ | refine r_addw hS hH.kp0 rfl rfl rfl ?_
      clear hS; intro a hS
      refine r_move hS hH.kp0 rfl rfl ?_; clear hS; intro a hS
      refine Sq.nil ?_
      replace hH := hH.tail3
      refine then_n ?_
      refine rnd ?_
      refine c_seq ?_
      refine reg_plain w0 (Nobody) ?_
      refine r_lss hS hH.kp0 rfl rfl rfl ?_; clear hS; intro a hS
      refine Sq.nil ?_
      refine then_n ?_
      refine c_seq ?_
      refine c_condT hS rfl rfl ?_
      refine wp_skip ?_
      refine then_n ?_
      refine c_seq ?_
      refine wp_block ?_
      refine c_seq ?_
      refine reg_plain w0 (Nobody) ?_
      refine r_indexAddrS (j := 2) hS hH.kp0 rfl rfl Fc.slb32 rfl (by decide) rfl ?_; clear hS; intro a hS
      refine r_load_at (vs := hcells [r0, r1, r2, r3, r4, r5, r6, r7, r8, r9, ra, rb, rc, rd, re, rf]) hS hH (by repeat (first | exact Sub.nil | refine Sub.cons ?_ ?_ | exact In.here | refine In.there ?_)) rfl (by repeat (first | exact In.here | refine In.there ?_)) Fc.ag26 (by exact (show 0 + 2 * 16 + 16 ≤ 64 by decide)) (by rfl) rfl ?_; clear hS; intro a hS
      refine r_alloc hS hH (by repeat (first | exact Sub.nil | refine Sub.cons ?_ ?_ | exact In.here | refine In.there ?_)) Fc.zc26 rfl ?_
      clear hS hH; intro a w b27 hb27 hwb27 hS hH
      refine r_store_row hS hH rfl rfl (by first | exact .here | exact .there .here | exact .there (.there .here) | exact .there (.there (.there .here)) | exact .there (.there (.there (.there .here))) | exact .there (.there (.there (.there (.there .here)))) | exact .there (.there (.there (.there (.there (.there .here))))) | exact .there (.there (.there (.there (.there (.there (.there .here)))))) | exact .there (.there (.there (.there (.there (.there (.there (.there .here))))))) | exact .there (.there (.there (.there (.there (.there (.there (.there (.there .here)))))))) | exact .there (.there (.there (.there (.there (.there (.there (.there (.there (.there .here))))))))) | exact .there (.there (.there (.there (.there (.there (.there (.there (.there (.there (.there .here)))))))))) | exact .there (.there (.there (.there (.there (.there (.there (.there (.there (.there (.there (.there .here))))))))))) | exact .there (.there (.there (.there (.there (.there (.there (.there (.there (.there (.there (.there (.there .here)))))))))))) | exact .there (.there (.there (.there (.there (.there (.there (.there (.there (.there (.there (.there (.there (.there .here))))))))))))) | exact .there (.there (.there (.there (.there (.there (.there (.there (.there (.there (.there (.there (.there (.there (.there .here))))))))))))))) (by repeat (first | exact Sub.nil | refine Sub.cons ?_ ?_ | exact In.here | refine In.there ?_)) Fc.sz26 (by first | exact hcells_one _ | exact of_decide_eq_true rfl) (by rfl) (by first | exact .inr (by assumption) | exact .inl (by first | assumption | rfl)) ?_
      clear hH; intro w hH
      refine Sq.nil ?_
      refine then_n ?_
      refine c_seq ?_
      refine reg_draw [(true, 0, []), (true, 1, []), (true, 2, []), (false, 3, []), (true, 4, []), (true, 5, []), (true, 6, []), (true, 7, []), (true, 8, []), (true, 9, []), (false, 10, []), (false, 11, []), (false, 12, []), (true, 13, [])] Fc.mixed (by kernel_rfl) (by kernel_rfl) (by kernel_rfl) (by kernel_rfl) (by kernel_rfl) (by repeat (first | with_reducible exact steady_body | with_reducible apply steady_block | with_reducible apply steady_then | exact steady_body)) hH ?_
      replace hH := hH.drew
      refine r_move hS trivial rfl rfl ?_; clear hS; intro a hS
      refine r_slArr hS trivial rfl Fc.ar26 rfl ?_; clear hS; intro a hS
      refine r_move hS trivial rfl rfl ?_; clear hS; intro a hS
      refine r_call (l := [.tmp 169, .tmp 170, .tmp 171]) hS rfl rfl Fc.fn28 rfl ?_
      refine Calls.mono (Hidden_v b V15 ts15 (by omega) hwf15 (by omega) _ _ [r0, r1, r2, r3, r4, r5, r6, r7, r8, r9, ra, rb, rc, rd, re, rf] (by show 16 ≤ _; decide) [[p0, p1, p2, p3, p4, p5, p6, p7, p8, p9, pa, pb, pc, pd, pe, pf], [j0, j1, j2, j3, j4, j5, j6, j7, j8, j9, ja, jb, jc, jd, je, jf], la, lc, [m0, m1, m2, m3, m4, m5, m6, m7, m8, m9, ma, mb, mc, md, me, mf], [e0, e1, e2, e3, e4, e5, e6, e7, e8, e9, ea, eb, ec, ed, ee, ef], [z0, z1, z2, z3, z4, z5, z6, z7, z8, z9, za, zb, zc, zd, ze, zf]] (by intro l hl; simp only [List.mem_cons, List.not_mem_nil, or_false, List.cons_append, List.nil_append] at hl; rcases hl with rfl | rfl | rfl | rfl | rfl | rfl | rfl <;> first | omega | (show 16 ≤ _; decide)) (by show 7 ≤ _; decide) _ (hH.vin hok15 n0115 n2315 (by repeat (first | exact In.here | refine In.there ?_)) (by repeat (first | exact In.here | refine In.there ?_)) (by repeat (first | exact In.here | refine In.there ?_)) (by repeat (first | exact In.here | refine In.there ?_))) (BsF.block (F := Nobody) (hH.get (b := b27) (by repeat (first | exact In.here | refine In.there ?_))) rfl (fun h => h)).bs (SlG.bl (F := Nobody) [.slice (some ⟨b8, 0, none⟩) 16 16, .slice (some ⟨b10, 0, none⟩) 16 16, .slice qa la.length qca, .slice qc lc.length qcc, .slice (some ⟨b18, 0, none⟩) 16 16, .slice (some ⟨b16, 0, none⟩) 16 16, .slice (some ⟨b23, 0, none⟩) 16 16] (hH.get (b := b158) (by repeat (first | exact In.here | refine In.there ?_))) (fun h => h) rfl (Nat.le_refl 7) (by rfl) (by exact Nat.le_refl 7) (.cons (BsF.block (F := Nobody) (hH.get (b := b8) (by repeat (first | exact In.here | refine In.there ?_))) rfl (fun h => h)) (.cons (BsF.block (F := Nobody) (hH.get (b := b10) (by repeat (first | exact In.here | refine In.there ?_))) rfl (fun h => h)) (.cons (hb0.go (F' := Nobody) hH.mod (fun _ h => h.elim)) (.cons (hb1.go (F' := Nobody) hH.mod (fun _ h => h.elim)) (.cons (BsF.block (F := Nobody) (hH.get (b := b18) (by repeat (first | exact In.here | refine In.there ?_))) rfl (fun h => h)) (.cons (BsF.block (F := Nobody) (hH.get (b := b16) (by repeat (first | exact In.here | refine In.there ?_))) rfl (fun h => h)) (.cons (BsF.block (F := Nobody) (hH.get (b := b23) (by repeat (first | exact In.here | refine In.there ?_))) rfl (fun h => h)) .nil))))))))) ?_
      rintro e w1 ⟨r, K, rfl, hKN, hHR, hE⟩
      replace hH := hH.ext hE
      have hr : r = true := by
        cases r
        · have h6 := hHR.no rfl 12 (by omega) ((HasN16 rfl).2 hnr)
          exact absurd rfl (hKN.least _ hcl 12 h6).2.2.2.2.2.2.1
        · rfl
      subst hr
      refine ⟨_, rfl, hH.kp (by repeat (first | exact Sub.nil | refine Sub.cons ?_ ?_ | exact In.here | refine In.there ?_)), ?_⟩
      clear hS; intro a hS
      refine r_not hS trivial rfl rfl ?_; clear hS; intro a hS
      refine r_move hS trivial rfl rfl ?_; clear hS; intro a hS
      refine Sq.guardYes hS rfl rfl rfl ?_
      refine r_move hS trivial rfl rfl ?_; clear hS; intro a hS
      refine Sq.guardYes hS rfl rfl rfl ?_
      refine r_slArr hS trivial rfl Fc.ar26 rfl ?_; clear hS; intro a hS
      refine Sq.guardYes hS rfl rfl rfl ?_
      refine r_move hS trivial rfl rfl ?_; clear hS; intro a hS
      refine Sq.guardYes hS rfl rfl rfl ?_
      refine r_slArr hS trivial rfl Fc.ar26 rfl ?_; clear hS; intro a hS
      refine Sq.guardYes hS rfl rfl rfl ?_
      refine r_buildSlice (parts := [(0, .tmp 178)]) hS hH (by repeat (first | exact Sub.nil | refine Sub.cons ?_ ?_ | exact In.here | refine In.there ?_)) rfl Fc.bsl60_1 (by rfl) rfl ?_
      clear hS hH; intro a w b179 hb179 hwb179 hS hH
      refine Sq.guardYes hS rfl rfl rfl ?_
      refine r_append_new hS hH (by repeat (first | exact Sub.nil | refine Sub.cons ?_ ?_ | exact In.here | refine In.there ?_)) rfl rfl (Sl.of_block (es := 1) (m := 7) (cap := 7) (hH.get (b := b158) (by repeat (first | exact In.here | refine In.there ?_))) (by exact Nat.le_refl 7) (Nat.le_refl 7)) Fc.el60 Fc.ni60 ((Sl.of_block (es := 1) (m := 1) (cap := 1) (hH.get (b := b179) (by repeat (first | exact In.here | refine In.there ?_))) (by exact Nat.le_refl 1) (Nat.le_refl 1)).src (by intro u hu; have hu2 := List.mem_singleton.1 hu; rw [hu2]; rfl)) (by decide) (by decide) rfl ?_
      clear hS hH; intro a w ob cap1 l2 hob hwob hl2_ hc2_ htk2 hS hH
      replace htk2 : l2.take 8 = [.slice (some ⟨b8, 0, none⟩) 16 16, .slice (some ⟨b10, 0, none⟩) 16 16, .slice qa la.length qca, .slice qc lc.length qcc, .slice (some ⟨b18, 0, none⟩) 16 16, .slice (some ⟨b16, 0, none⟩) 16 16, .slice (some ⟨b23, 0, none⟩) 16 16] ++ [.slice (some ⟨b6, 0, none⟩) 16 16] := htk2
      rw [Nat.mul_one] at hl2_
      refine Sq.guardYes hS rfl rfl rfl ?_
      refine r_call (l := [.tmp 175, .tmp 176, .tmp 180]) hS rfl rfl Fc.fn28 rfl ?_
      refine Calls.mono (Hidden_v b V15 ts15 (by omega) hwf15 (by omega) _ _ [r0, r1, r2, r3, r4, r5, r6, r7, r8, r9, ra, rb, rc, rd, re, rf] (by show 16 ≤ _; decide) ([[p0, p1, p2, p3, p4, p5, p6, p7, p8, p9, pa, pb, pc, pd, pe, pf], [j0, j1, j2, j3, j4, j5, j6, j7, j8, j9, ja, jb, jc, jd, je, jf], la, lc, [m0, m1, m2, m3, m4, m5, m6, m7, m8, m9, ma, mb, mc, md, me, mf], [e0, e1, e2, e3, e4, e5, e6, e7, e8, e9, ea, eb, ec, ed, ee, ef], [z0, z1, z2, z3, z4, z5, z6, z7, z8, z9, za, zb, zc, zd, ze, zf]] ++ [[x0, x1, x2, x3, x4, x5, x6, x7, x8, x9, xa, xb, xc, xd, xe, xf]]) (by intro l hl; simp only [List.mem_cons, List.not_mem_nil, or_false, List.cons_append, List.nil_append] at hl; rcases hl with rfl | rfl | rfl | rfl | rfl | rfl | rfl | rfl <;> first | omega | (show 16 ≤ _; decide)) (by show 8 ≤ _; decide) _ (hH.vin hok15 n0115 n2315 (by repeat (first | exact In.here | refine In.there ?_)) (by repeat (first | exact In.here | refine In.there ?_)) (by repeat (first | exact In.here | refine In.there ?_)) (by repeat (first | exact In.here | refine In.there ?_))) (BsF.block (F := Nobody) (hH.get (b := b27) (by repeat (first | exact In.here | refine In.there ?_))) rfl (fun h => h)).bs (SlG.bl (F := Nobody) ([.slice (some ⟨b8, 0, none⟩) 16 16, .slice (some ⟨b10, 0, none⟩) 16 16, .slice qa la.length qca, .slice qc lc.length qcc, .slice (some ⟨b18, 0, none⟩) 16 16, .slice (some ⟨b16, 0, none⟩) 16 16, .slice (some ⟨b23, 0, none⟩) 16 16] ++ [.slice (some ⟨b6, 0, none⟩) 16 16]) (hH.get (b := ob) (by repeat (first | exact In.here | refine In.there ?_))) (fun h => h) rfl hc2_ (by rw [← htk2]) (by omega) (BL.snoc (.cons (BsF.block (F := Nobody) (hH.get (b := b8) (by repeat (first | exact In.here | refine In.there ?_))) rfl (fun h => h)) (.cons (BsF.block (F := Nobody) (hH.get (b := b10) (by repeat (first | exact In.here | refine In.there ?_))) rfl (fun h => h)) (.cons (hb0.go (F' := Nobody) hH.mod (fun _ h => h.elim)) (.cons (hb1.go (F' := Nobody) hH.mod (fun _ h => h.elim)) (.cons (BsF.block (F := Nobody) (hH.get (b := b18) (by repeat (first | exact In.here | refine In.there ?_))) rfl (fun h => h)) (.cons (BsF.block (F := Nobody) (hH.get (b := b16) (by repeat (first | exact In.here | refine In.there ?_))) rfl (fun h => h)) (.cons (BsF.block (F := Nobody) (hH.get (b := b23) (by repeat (first | exact In.here | refine In.there ?_))) rfl (fun h => h)) .nil))))))) (BsF.block (F := Nobody) (hH.get (b := b6) (by repeat (first | exact In.here | refine In.there ?_))) rfl (fun h => h))))) ?_
      rintro e w1 ⟨r, K3, rfl, hKN3, hHR3, hE⟩
      replace hH := hH.ext hE
      have hr : r = false := by
        cases r
        · rfl
        · obtain ⟨z9, hz9, hno9⟩ := hHR3.yes rfl
          have hz0 : z9 = 0 := by have : z9 + 16 ≤ 16 := hz9; omega
          subst hz0
          have k1 : KT K3 1 := hKN3.clos.seen [x0, x1, x2, x3, x4, x5, x6, x7, x8, x9, xa, xb, xc, xd, xe, xf] (by simp) 1 (by omega) ((HasN16 rfl).2 hnx)
          have k5 : KT K3 5 := hKN3.clos.reach 5 _ b5_ (.inr ⟨rfl, .inl k1⟩)
          have k9 : KT K3 9 := hKN3.clos.reach 9 _ b9_ (.inl ⟨.inl rfl, k5⟩)
          have k10 : KT K3 10 := hKN3.clos.reach 10 _ b10_ (.inl ⟨.inl rfl, k9⟩)
          have k11 : KT K3 11 := hKN3.clos.reach 11 _ b11_ (.inl ⟨.inl rfl, k10⟩)
          have k12 : KT K3 12 := hKN3.clos.reach 12 _ b12_ (.inl ⟨.inl rfl, k11⟩)
          exact absurd k12 (hno9 12 (by omega) hnr)
      subst hr
      refine ⟨_, rfl, hH.kp (by repeat (first | exact Sub.nil | refine Sub.cons ?_ ?_ | exact In.here | refine In.there ?_)), ?_⟩
      clear hS; intro a hS
      refine r_pickF hS trivial rfl rfl rfl rfl ?_; clear hS; intro a hS
      refine Sq.nil ?_
      refine then_n ?_
      refine c_condF hS rfl rfl ?_
      refine wp_skip ?_
      refine blk_n ?_
      refine then_n ?_
      refine reg_plain w0 (Nobody) ?_
      first | refine r_add hS hH.kp0 rfl rfl rfl (by omega) ?_ | refine r_addw hS hH.kp0 rfl rfl rfl ?_
      clear hS; intro a hS
      refine r_move hS hH.kp0 rfl rfl ?_; clear hS; intro a hS
      refine Sq.nil ?_
      replace hH := hH.tail3
      refine then_n ?_
      refine rnd ?_
      refine c_seq ?_
      refine reg_plain w0 (Nobody) ?_
      refine r_lss hS hH.kp0 rfl rfl rfl ?_; clear hS; intro a hS
      refine Sq.nil ?_
      refine then_n ?_
      refine c_seq ?_
      refine c_condT hS rfl rfl ?_
      refine wp_skip ?_
      refine then_n ?_
      refine c_seq ?_
      refine wp_block ?_
      refine c_seq ?_
      refine reg_plain w0 (Nobody) ?_
      refine r_indexAddrS (j := 3) hS hH.kp0 rfl rfl Fc.slb32 rfl (by decide) rfl ?_; clear hS; intro a hS
      refine r_load_at (vs := hcells [s0, s1, s2, s3, s4, s5, s6, s7, s8, s9, sa, sb, sc, sd, se, sf]) hS hH (by repeat (first | exact Sub.nil | refine Sub.cons ?_ ?_ | exact In.here | refine In.there ?_)) rfl (by repeat (first | exact In.here | refine In.there ?_)) Fc.ag26 (by exact (show 0 + 3 * 16 + 16 ≤ 64 by decide)) (by rfl) rfl ?_; clear hS; intro a hS
      refine r_alloc hS hH (by repeat (first | exact Sub.nil | refine Sub.cons ?_ ?_ | exact In.here | refine In.there ?_)) Fc.zc26 rfl ?_
      clear hS hH; intro a w b27 hb27 hwb27 hS hH
      refine r_store_row hS hH rfl rfl (by first | exact .here | exact .there .here | exact .there (.there .here) | exact .there (.there (.there .here)) | exact .there (.there (.there (.there .here))) | exact .there (.there (.there (.there (.there .here)))) | exact .there (.there (.there (.there (.there (.there .here))))) | exact .there (.there (.there (.there (.there (.there (.there .here)))))) | exact .there (.there (.there (.there (.there (.there (.there (.there .here))))))) | exact .there (.there (.there (.there (.there (.there (.there (.there (.there .here)))))))) | exact .there (.there (.there (.there (.there (.there (.there (.there (.there (.there .here))))))))) | exact .there (.there (.there (.there (.there (.there (.there (.there (.there (.there (.there .here)))))))))) | exact .there (.there (.there (.there (.there (.there (.there (.there (.there (.there (.there (.there .here))))))))))) | exact .there (.there (.there (.there (.there (.there (.there (.there (.there (.there (.there (.there (.there .here)))))))))))) | exact .there (.there (.there (.there (.there (.there (.there (.there (.there (.there (.there (.there (.there (.there .here))))))))))))) | exact .there (.there (.there (.there (.there (.there (.there (.there (.there (.there (.there (.there (.there (.there (.there .here))))))))))))))) (by repeat (first | exact Sub.nil | refine Sub.cons ?_ ?_ | exact In.here | refine In.there ?_)) Fc.sz26 (by first | exact hcells_one _ | exact of_decide_eq_true rfl) (by rfl) (by first | exact .inr (by assumption) | exact .inl (by first | assumption | rfl)) ?_
      clear hH; intro w hH
      refine Sq.nil ?_
      refine then_n ?_
      refine c_seq ?_
      refine reg_draw [(true, 0, []), (true, 1, []), (true, 2, []), (false, 3, []), (true, 4, []), (true, 5, []), (true, 6, []), (true, 7, []), (true, 8, []), (true, 9, []), (false, 10, []), (false, 11, []), (false, 12, []), (true, 13, [])] Fc.mixed (by kernel_rfl) (by kernel_rfl) (by kernel_rfl) (by kernel_rfl) (by kernel_rfl) (by repeat (first | with_reducible exact steady_body | with_reducible apply steady_block | with_reducible apply steady_then | exact steady_body)) hH ?_
      replace hH := hH.drew
      refine r_move hS trivial rfl rfl ?_; clear hS; intro a hS
      refine r_slArr hS trivial rfl Fc.ar26 rfl ?_; clear hS; intro a hS
      refine r_move hS trivial rfl rfl ?_; clear hS; intro a hS
      refine r_call (l := [.tmp 169, .tmp 170, .tmp 171]) hS rfl rfl Fc.fn28 rfl ?_
      refine Calls.mono (Hidden_v b V15 ts15 (by omega) hwf15 (by omega) _ _ [s0, s1, s2, s3, s4, s5, s6, s7, s8, s9, sa, sb, sc, sd, se, sf] (by show 16 ≤ _; decide) [[p0, p1, p2, p3, p4, p5, p6, p7, p8, p9, pa, pb, pc, pd, pe, pf], [j0, j1, j2, j3, j4, j5, j6, j7, j8, j9, ja, jb, jc, jd, je, jf], la, lc, [m0, m1, m2, m3, m4, m5, m6, m7, m8, m9, ma, mb, mc, md, me, mf], [e0, e1, e2, e3, e4, e5, e6, e7, e8, e9, ea, eb, ec, ed, ee, ef], [z0, z1, z2, z3, z4, z5, z6, z7, z8, z9, za, zb, zc, zd, ze, zf]] (by intro l hl; simp only [List.mem_cons, List.not_mem_nil, or_false, List.cons_append, List.nil_append] at hl; rcases hl with rfl | rfl | rfl | rfl | rfl | rfl | rfl <;> first | omega | (show 16 ≤ _; decide)) (by show 7 ≤ _; decide) _ (hH.vin hok15 n0115 n2315 (by repeat (first | exact In.here | refine In.there ?_)) (by repeat (first | exact In.here | refine In.there ?_)) (by repeat (first | exact In.here | refine In.there ?_)) (by repeat (first | exact In.here | refine In.there ?_))) (BsF.block (F := Nobody) (hH.get (b := b27) (by repeat (first | exact In.here | refine In.there ?_))) rfl (fun h => h)).bs (SlG.bl (F := Nobody) [.slice (some ⟨b8, 0, none⟩) 16 16, .slice (some ⟨b10, 0, none⟩) 16 16, .slice qa la.length qca, .slice qc lc.length qcc, .slice (some ⟨b18, 0, none⟩) 16 16, .slice (some ⟨b16, 0, none⟩) 16 16, .slice (some ⟨b23, 0, none⟩) 16 16] (hH.get (b := b158) (by repeat (first | exact In.here | refine In.there ?_))) (fun h => h) rfl (Nat.le_refl 7) (by rfl) (by exact Nat.le_refl 7) (.cons (BsF.block (F := Nobody) (hH.get (b := b8) (by repeat (first | exact In.here | refine In.there ?_))) rfl (fun h => h)) (.cons (BsF.block (F := Nobody) (hH.get (b := b10) (by repeat (first | exact In.here | refine In.there ?_))) rfl (fun h => h)) (.cons (hb0.go (F' := Nobody) hH.mod (fun _ h => h.elim)) (.cons (hb1.go (F' := Nobody) hH.mod (fun _ h => h.elim)) (.cons (BsF.block (F := Nobody) (hH.get (b := b18) (by repeat (first | exact In.here | refine In.there ?_))) rfl (fun h => h)) (.cons (BsF.block (F := Nobody) (hH.get (b := b16) (by repeat (first | exact In.here | refine In.there ?_))) rfl (fun h => h)) (.cons (BsF.block (F := Nobody) (hH.get (b := b23) (by repeat (first | exact In.here | refine In.there ?_))) rfl (fun h => h)) .nil))))))))) ?_
      rintro e w1 ⟨r, K, rfl, hKN, hHR, hE⟩
      replace hH := hH.ext hE
      have hr : r = true := by
        cases r
        · have h6 := hHR.no rfl 5 (by omega) ((HasN16 rfl).2 hns)
          exact absurd rfl (hKN.least _ hcl 5 h6).2.2.1
        · rfl
      subst hr
      refine ⟨_, rfl, hH.kp (by repeat (first | exact Sub.nil | refine Sub.cons ?_ ?_ | exact In.here | refine In.there ?_)), ?_⟩
      clear hS; intro a hS
      refine r_not hS trivial rfl rfl ?_; clear hS; intro a hS
      refine r_move hS trivial rfl rfl ?_; clear hS; intro a hS
      refine Sq.guardYes hS rfl rfl rfl ?_
      refine r_move hS trivial rfl rfl ?_; clear hS; intro a hS
      refine Sq.guardYes hS rfl rfl rfl ?_
      refine r_slArr hS trivial rfl Fc.ar26 rfl ?_; clear hS; intro a hS
      refine Sq.guardYes hS rfl rfl rfl ?_
      refine r_move hS trivial rfl rfl ?_; clear hS; intro a hS
      refine Sq.guardYes hS rfl rfl rfl ?_
      refine r_slArr hS trivial rfl Fc.ar26 rfl ?_; clear hS; intro a hS
      refine Sq.guardYes hS rfl rfl rfl ?_
      refine r_buildSlice (parts := [(0, .tmp 178)]) hS hH (by repeat (first | exact Sub.nil | refine Sub.cons ?_ ?_ | exact In.here | refine In.there ?_)) rfl Fc.bsl60_1 (by rfl) rfl ?_
      clear hS hH; intro a w b179 hb179 hwb179 hS hH
      refine Sq.guardYes hS rfl rfl rfl ?_
      refine r_append_new hS hH (by repeat (first | exact Sub.nil | refine Sub.cons ?_ ?_ | exact In.here | refine In.there ?_)) rfl rfl (Sl.of_block (es := 1) (m := 7) (cap := 7) (hH.get (b := b158) (by repeat (first | exact In.here | refine In.there ?_))) (by exact Nat.le_refl 7) (Nat.le_refl 7)) Fc.el60 Fc.ni60 ((Sl.of_block (es := 1) (m := 1) (cap := 1) (hH.get (b := b179) (by repeat (first | exact In.here | refine In.there ?_))) (by exact Nat.le_refl 1) (Nat.le_refl 1)).src (by intro u hu; have hu2 := List.mem_singleton.1 hu; rw [hu2]; rfl)) (by decide) (by decide) rfl ?_
      clear hS hH; intro a w ob cap1 l2 hob hwob hl2_ hc2_ htk2 hS hH
      replace htk2 : l2.take 8 = [.slice (some ⟨b8, 0, none⟩) 16 16, .slice (some ⟨b10, 0, none⟩) 16 16, .slice qa la.length qca, .slice qc lc.length qcc, .slice (some ⟨b18, 0, none⟩) 16 16, .slice (some ⟨b16, 0, none⟩) 16 16, .slice (some ⟨b23, 0, none⟩) 16 16] ++ [.slice (some ⟨b6, 0, none⟩) 16 16] := htk2
      rw [Nat.mul_one] at hl2_
      refine Sq.guardYes hS rfl rfl rfl ?_
      refine r_call (l := [.tmp 175, .tmp 176, .tmp 180]) hS rfl rfl Fc.fn28 rfl ?_
      refine Calls.mono (Hidden_v b V15 ts15 (by omega) hwf15 (by omega) _ _ [s0, s1, s2, s3, s4, s5, s6, s7, s8, s9, sa, sb, sc, sd, se, sf] (by show 16 ≤ _; decide) ([[p0, p1, p2, p3, p4, p5, p6, p7, p8, p9, pa, pb, pc, pd, pe, pf], [j0, j1, j2, j3, j4, j5, j6, j7, j8, j9, ja, jb, jc, jd, je, jf], la, lc, [m0, m1, m2, m3, m4, m5, m6, m7, m8, m9, ma, mb, mc, md, me, mf], [e0, e1, e2, e3, e4, e5, e6, e7, e8, e9, ea, eb, ec, ed, ee, ef], [z0, z1, z2, z3, z4, z5, z6, z7, z8, z9, za, zb, zc, zd, ze, zf]] ++ [[x0, x1, x2, x3, x4, x5, x6, x7, x8, x9, xa, xb, xc, xd, xe, xf]]) (by intro l hl; simp only [List.mem_cons, List.not_mem_nil, or_false, List.cons_append, List.nil_append] at hl; rcases hl with rfl | rfl | rfl | rfl | rfl | rfl | rfl | rfl <;> first | omega | (show 16 ≤ _; decide)) (by show 8 ≤ _; decide) _ (hH.vin hok15 n0115 n2315 (by repeat (first | exact In.here | refine In.there ?_)) (by repeat (first | exact In.here | refine In.there ?_)) (by repeat (first | exact In.here | refine In.there ?_)) (by repeat (first | exact In.here | refine In.there ?_))) (BsF.block (F := Nobody) (hH.get (b := b27) (by repeat (first | exact In.here | refine In.there ?_))) rfl (fun h => h)).bs (SlG.bl (F := Nobody) ([.slice (some ⟨b8, 0, none⟩) 16 16, .slice (some ⟨b10, 0, none⟩) 16 16, .slice qa la.length qca, .slice qc lc.length qcc, .slice (some ⟨b18, 0, none⟩) 16 16, .slice (some ⟨b16, 0, none⟩) 16 16, .slice (some ⟨b23, 0, none⟩) 16 16] ++ [.slice (some ⟨b6, 0, none⟩) 16 16]) (hH.get (b := ob) (by repeat (first | exact In.here | refine In.there ?_))) (fun h => h) rfl hc2_ (by rw [← htk2]) (by omega) (BL.snoc (.cons (BsF.block (F := Nobody) (hH.get (b := b8) (by repeat (first | exact In.here | refine In.there ?_))) rfl (fun h => h)) (.cons (BsF.block (F := Nobody) (hH.get (b := b10) (by repeat (first | exact In.here | refine In.there ?_))) rfl (fun h => h)) (.cons (hb0.go (F' := Nobody) hH.mod (fun _ h => h.elim)) (.cons (hb1.go (F' := Nobody) hH.mod (fun _ h => h.elim)) (.cons (BsF.block (F := Nobody) (hH.get (b := b18) (by repeat (first | exact In.here | refine In.there ?_))) rfl (fun h => h)) (.cons (BsF.block (F := Nobody) (hH.get (b := b16) (by repeat (first | exact In.here | refine In.there ?_))) rfl (fun h => h)) (.cons (BsF.block (F := Nobody) (hH.get (b := b23) (by repeat (first | exact In.here | refine In.there ?_))) rfl (fun h => h)) .nil))))))) (BsF.block (F := Nobody) (hH.get (b := b6) (by repeat (first | exact In.here | refine In.there ?_))) rfl (fun h => h))))) ?_
      rintro e w1 ⟨r, K3, rfl, hKN3, hHR3, hE⟩
      replace hH := hH.ext hE
      have hr : r = false := by
        cases r
        · rfl
        · obtain ⟨z9, hz9, hno9⟩ := hHR3.yes rfl
          have hz0 : z9 = 0 := by have : z9 + 16 ≤ 16 := hz9; omega
          subst hz0
          have k1 : KT K3 1 := hKN3.clos.seen [x0, x1, x2, x3, x4, x5, x6, x7, x8, x9, xa, xb, xc, xd, xe, xf] (by simp) 1 (by omega) ((HasN16 rfl).2 hnx)
          have k5 : KT K3 5 := hKN3.clos.reach 5 _ b5_ (.inr ⟨rfl, .inl k1⟩)
          have k9 : KT K3 9 := hKN3.clos.reach 9 _ b9_ (.inl ⟨.inl rfl, k5⟩)
          have k10 : KT K3 10 := hKN3.clos.reach 10 _ b10_ (.inl ⟨.inl rfl, k9⟩)
          have k11 : KT K3 11 := hKN3.clos.reach 11 _ b11_ (.inl ⟨.inl rfl, k10⟩)
          have k12 : KT K3 12 := hKN3.clos.reach 12 _ b12_ (.inl ⟨.inl rfl, k11⟩)
          exact absurd k5 (hno9 5 (by omega) hns)
      subst hr
      refine ⟨_, rfl, hH.kp (by repeat (first | exact Sub.nil | refine Sub.cons ?_ ?_ | exact In.here | refine In.there ?_)), ?_⟩
      clear hS; intro a hS
      refine r_pickF hS trivial rfl rfl rfl rfl ?_; clear hS; intro a hS
      refine Sq.nil ?_
      refine then_n ?_
      refine c_condF hS rfl rfl ?_
      refine wp_skip ?_
      refine blk_n ?_
      refine then_n ?_
      refine reg_plain w0 (Nobody) ?_
      first | refine r_add hS hH.kp0 rfl rfl rfl (by omega) ?_ | refine r_addw hS hH.kp0 rfl rfl rfl ?_
      clear hS; intro a hS
      refine r_move hS hH.kp0 rfl rfl ?_; clear hS; intro a hS
      refine Sq.nil ?_
      replace hH := hH.tail3
      refine then_n ?_
      refine rnd ?_
      refine c_seq ?_
      refine reg_plain w0 (Nobody) ?_
      refine r_lss hS hH.kp0 rfl rfl rfl ?_; clear hS; intro a hS
      refine Sq.nil ?_
      refine then_n ?_
      refine c_seq ?_
      refine c_condF hS rfl rfl ?_
      refine wp_exit ?_
      refine then_e ?_
      refine then_e ?_
      refine blk_hit ?_
      refine then_n ?_
      refine c_seq ?_
      refine reg_plain w0 (Nobody) ?_
      refine r_move hS hH.kp0 rfl rfl ?_; clear hS; intro a hS
      refine r_slArr hS hH.kp0 rfl Fc.ar26 rfl ?_; clear hS; intro a hS
      refine r_call (l := [.tmp 184, .tmp 185, .const (.slice none 0 0)]) hS rfl rfl Fc.fn28 rfl ?_
      refine Calls.mono (Hidden_v b V15 ts15 (by omega) hwf15 (by omega) _ _ [e0, e1, e2, e3, e4, e5, e6, e7, e8, e9, ea, eb, ec, ed, ee, ef] (by show 16 ≤ _; decide) [] (fun l hl => (by cases hl)) (by decide) _ (hH.vin hok15 n0115 n2315 (by repeat (first | exact In.here | refine In.there ?_)) (by repeat (first | exact In.here | refine In.there ?_)) (by repeat (first | exact In.here | refine In.there ?_)) (by repeat (first | exact In.here | refine In.there ?_))) (BsF.block (F := Nobody) (hH.get (b := b16) (by repeat (first | exact In.here | refine In.there ?_))) rfl (fun h => h)).bs (SlG.nil _ _)) ?_
      rintro e w1 ⟨r, K4, rfl, hKN4, hHR4, hE⟩
      replace hH := hH.ext hE
      have hr : r = false := by
        cases r
        · rfl
        · obtain ⟨z9, hz9, hno9⟩ := hHR4.yes rfl
          have hz0 : z9 = 0 := by have : z9 + 16 ≤ 16 := hz9; omega
          subst hz0
          have k6 : KT K4 6 := hKN4.clos.reach 6 _ b6_ (.inl ⟨.inl rfl, hKN4.clos.root⟩)
          exact absurd k6 (hno9 6 (by omega) hne)
      subst hr
      refine ⟨_, rfl, hH.kp0, ?_⟩
      clear hS; intro a hS
      refine r_not hS hH.kp0 rfl rfl ?_; clear hS; intro a hS
      refine r_assign hS hH.kp0 rfl rfl ?_; clear hS; intro a hS
      refine Sq.nil ?_
      refine then_n ?_
      refine wp_ret ?_
      exact leave (.inl rfl) hS rfl (Res.tmp rfl Res.nil) ⟨rfl, hH.mod⟩
  · refine r_move hS hH.kp0 rfl rfl ?_; clear hS; intro a hS
    refine Sq.guardNo hS rfl rfl rfl hH.kp0 rfl ?_; clear hS; intro a hS
    refine Sq.guardNo hS rfl rfl rfl hH.kp0 rfl ?_; clear hS; intro a hS
    refine Sq.guardNo hS rfl rfl rfl hH.kp0 rfl ?_; clear hS; intro a hS
    refine r_pickT hS hH.kp0 rfl rfl rfl rfl ?_; clear hS; intro a hS
    refine Sq.nil ?_
    refine then_n ?_
    refine c_condT hS rfl rfl ?_
    refine c_seq ?_
    refine reg_plain w0 (Nobody) ?_
    refine r_assign hS hH.kp0 rfl rfl ?_; clear hS; intro a hS
    refine Sq.nil ?_
    refine then_n ?_
    refine wp_ret ?_
    refine then_r ?_
    exact leave (.inl rfl) hS rfl (Res.tmp rfl Res.nil) ⟨rfl, hH.mod⟩

end Go.Proofs.Ytcjmehononbadaa
