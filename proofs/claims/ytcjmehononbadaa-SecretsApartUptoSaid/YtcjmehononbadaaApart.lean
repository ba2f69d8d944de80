/- The law SecretsApart answers true and changes nothing, for all arguments of at most 1048576 values and letters together (statement SecretsApartUptoSaid). Part Apart: walks and lemmas of the proof. -/
import Derived.Test.YtcjmehononbadaaVault5
import Derived.Test.YtcjmehononbadaaSymLaws
namespace Go.Proofs.Ytcjmehononbadaa
open Go.Sym

theorem Fc.bsl32_1 : bslB Try.prog 32 1 = some (26, 16, [.int .u8 0, .int .u8 0, .int .u8 0, .int .u8 0, .int .u8 0, .int .u8 0, .int .u8 0, .int .u8 0, .int .u8 0, .int .u8 0, .int .u8 0, .int .u8 0, .int .u8 0, .int .u8 0, .int .u8 0, .int .u8 0]) := by kernel_rfl
theorem Fc.bsl32_3 : bslB Try.prog 32 3 = some (26, 16, [.int .u8 0, .int .u8 0, .int .u8 0, .int .u8 0, .int .u8 0, .int .u8 0, .int .u8 0, .int .u8 0, .int .u8 0, .int .u8 0, .int .u8 0, .int .u8 0, .int .u8 0, .int .u8 0, .int .u8 0, .int .u8 0, .int .u8 0, .int .u8 0, .int .u8 0, .int .u8 0, .int .u8 0, .int .u8 0, .int .u8 0, .int .u8 0, .int .u8 0, .int .u8 0, .int .u8 0, .int .u8 0, .int .u8 0, .int .u8 0, .int .u8 0, .int .u8 0, .int .u8 0, .int .u8 0, .int .u8 0, .int .u8 0, .int .u8 0, .int .u8 0, .int .u8 0, .int .u8 0, .int .u8 0, .int .u8 0, .int .u8 0, .int .u8 0, .int .u8 0, .int .u8 0, .int .u8 0, .int .u8 0]) := by kernel_rfl
theorem Fc.bsl33_5 : bslB Try.prog 33 5 = some (9, 1, [.string .empty, .string .empty, .string .empty, .string .empty, .string .empty]) := by kernel_rfl
theorem Fc.elH : elB Try.prog 32 = some (26, 16, 16) := by kernel_rfl
theorem Fc.fn11 : isFn Try.prog 11 = true := by kernel_rfl
theorem Fc.fn12 : isFn Try.prog 12 = true := by kernel_rfl
theorem Fc.fn13 : isFn Try.prog 13 = true := by kernel_rfl
theorem Fc.fn14 : isFn Try.prog 14 = true := by kernel_rfl
theorem Fc.fn15 : isFn Try.prog 15 = true := by kernel_rfl
theorem Fc.isBool4 : isBool Try.prog 4 = true := by kernel_rfl
theorem Fc.isSlice32 : isSlice Try.prog 32 = true := by kernel_rfl
theorem Fc.isSlice33 : isSlice Try.prog 33 = true := by kernel_rfl
theorem Fc.niH : notInt Try.prog 32 = true := by kernel_rfl
theorem Fc.sc9 : scB Try.prog 9 = true := by kernel_rfl
theorem Fc.slb32 : slB Try.prog 32 = some 16 := by kernel_rfl
theorem Fc.slb33 : slB Try.prog 33 = some 1 := by kernel_rfl
def lbs5 : List ByteArray := [{ data := #[101, 97, 114, 108, 121] }, { data := #[99, 108, 105, 101, 110, 116, 32, 104, 97, 110, 100] }, { data := #[115, 101, 114, 118, 101, 114, 32, 104, 97, 110, 100] }, { data := #[99, 108, 105, 101, 110, 116, 32, 100, 97, 116, 97] }, { data := #[115, 101, 114, 118, 101, 114, 32, 100, 97, 116, 97] }]
theorem lbs5_nodup : lbs5.Nodup := by decide +kernel
theorem lbs5_small : ∀ l ∈ lbs5, l.size ≤ 9223372036854775807 := by decide +kernel
set_option maxRecDepth 100000 in
set_option maxHeartbeats 8000000 in
theorem apart_law (va vc : Value) (la lc : List UInt8) (hA : la.length ≤ 1048576) (hC : lc.length ≤ 1048576) (w0 : World) (hb0 : BsF Nobody w0 va la) (hb1 : BsF Nobody w0 vc lc) : Calls Try.prog 3 #[va, vc] w0 fun e w' => e = .returned (.bool true) ∧ Ext w0 w' := by
  refine enter Try.func3 rfl rfl rfl ?_
  intro a hS
  have hH := Hp.start w0 (Nobody)
  have hxa := hb0.bs
  obtain ⟨qa, qca, hsla⟩ := hxa
  have hva := hsla.val
  subst hva
  have hxc := hb1.bs
  obtain ⟨qc, qcc, hslc⟩ := hxc
  have hvc := hslc.val
  subst hvc
  refine c_seq ?_
  refine reg_plain w0 (Nobody) ?_
  refine r_assign hS hH.kp0 rfl rfl ?_; clear hS; intro a hS
  refine Sq.nil ?_
  refine then_n ?_
  refine c_seq ?_
  refine reg_plain w0 (Nobody) ?_
  refine r_call (l := []) hS rfl rfl Fc.fn11 rfl ?_
  refine Calls.mono (New_c _) ?_
  rintro e w1 ⟨b, V, rfl, hvi, hE, hVF⟩
  have hsz := hH.mod.size
  have hVS : VS Nobody w0 b V := fun x hx => .inr (Nat.le_trans hsz (hVF x hx))
  replace hH := (hH.ext hE).knowV hvi (by intro p hp; simp at hp)
  obtain ⟨ts, hts⟩ : ∃ ts, ts = [rootT] := ⟨_, rfl⟩
  rw [← hts] at hvi hH
  have hok := hvi.ok
  have n01 := hvi.n01
  have n23 := hvi.n23
  have htl : ts.length = 1 := by rw [hts]; rfl
  refine ⟨_, rfl, hH.kp0, ?_⟩
  clear hS; intro a hS
  refine r_assign hS hH.kp0 rfl rfl ?_; clear hS; intro a hS
  refine Sq.nil ?_
  refine then_n ?_
  refine c_seq ?_
  refine c_seq ?_
  refine reg_plain w0 (Nobody) ?_
  refine r_move hS hH.kp0 rfl rfl ?_; clear hS; intro a hS
  refine r_ptrNil hS hH.kp0 rfl Fc.isPtr23 rfl ?_; clear hS; intro a hS
  refine Sq.nil ?_
  refine then_n ?_
  refine c_condF hS rfl rfl ?_
  refine wp_skip ?_
  refine then_n ?_
  refine c_seq ?_
  refine reg_plain w0 (Nobody) ?_
  refine r_move hS hH.kp0 rfl rfl ?_; clear hS; intro a hS
  refine r_call (l := [.tmp 27]) hS rfl rfl Fc.fn12 rfl ?_
  refine Calls.mono (Begin_v b V ts (by omega) _ (hH.vin hok n01 n23 (by repeat (first | exact In.here | refine In.there ?_)) (by repeat (first | exact In.here | refine In.there ?_)) (by repeat (first | exact In.here | refine In.there ?_)) (by repeat (first | exact In.here | refine In.there ?_)))) ?_
  rintro e w1 ⟨h, x_, V1, ts1, rfl, hvi1, hst, hof⟩
  obtain ⟨rfl, j1, hj1, hat1, hpre1, hlen1⟩ := hof.at (i := 0) (by omega) (by omega)
  obtain ⟨s0, s1, s2, s3, s4, s5, s6, s7, s8, s9, sa, sb, sc, sd, se, sf, rfl⟩ := len16 (h := h) (by rw [hj1]; rfl)
  have hVS1 := hVS.step hst hH.mod.size
  replace hH := hH.vault hVS hst hvi1 (by first | exact .here | exact .there .here | exact .there (.there .here) | exact .there (.there (.there .here)) | exact .there (.there (.there (.there .here))) | exact .there (.there (.there (.there (.there .here)))) | exact .there (.there (.there (.there (.there (.there .here))))) | exact .there (.there (.there (.there (.there (.there (.there .here)))))) | exact .there (.there (.there (.there (.there (.there (.there (.there .here))))))) | exact .there (.there (.there (.there (.there (.there (.there (.there (.there .here)))))))) | exact .there (.there (.there (.there (.there (.there (.there (.there (.there (.there .here))))))))) | exact .there (.there (.there (.there (.there (.there (.there (.there (.there (.there (.there .here)))))))))) | exact .there (.there (.there (.there (.there (.there (.there (.there (.there (.there (.there (.there .here))))))))))) | exact .there (.there (.there (.there (.there (.there (.there (.there (.there (.there (.there (.there (.there .here)))))))))))) | exact .there (.there (.there (.there (.there (.there (.there (.there (.there (.there (.there (.there (.there (.there .here))))))))))))) | exact .there (.there (.there (.there (.there (.there (.there (.there (.there (.there (.there (.there (.there (.there (.there .here)))))))))))))))
  have hok1 := hvi1.ok
  have n011 := hvi1.n01
  have n231 := hvi1.n23
  clear hst
  clear hof
  refine ⟨_, rfl, hH.kp0, ?_⟩
  clear hS; intro a hS
  refine r_move hS hH.kp0 rfl rfl ?_; clear hS; intro a hS
  refine r_extract hS hH.kp0 rfl rfl rfl ?_; clear hS; intro a hS
  refine r_extract hS hH.kp0 rfl rfl rfl ?_; clear hS; intro a hS
  refine r_alloc hS hH (by repeat (first | exact Sub.nil | refine Sub.cons ?_ ?_ | exact In.here | refine In.there ?_)) Fc.zc26 rfl ?_
  clear hS hH; intro a w b6 hb6 hwb6 hS hH
  refine r_store_row hS hH rfl rfl (by first | exact .here | exact .there .here | exact .there (.there .here) | exact .there (.there (.there .here)) | exact .there (.there (.there (.there .here))) | exact .there (.there (.there (.there (.there .here)))) | exact .there (.there (.there (.there (.there (.there .here))))) | exact .there (.there (.there (.there (.there (.there (.there .here)))))) | exact .there (.there (.there (.there (.there (.there (.there (.there .here))))))) | exact .there (.there (.there (.there (.there (.there (.there (.there (.there .here)))))))) | exact .there (.there (.there (.there (.there (.there (.there (.there (.there (.there .here))))))))) | exact .there (.there (.there (.there (.there (.there (.there (.there (.there (.there (.there .here)))))))))) | exact .there (.there (.there (.there (.there (.there (.there (.there (.there (.there (.there (.there .here))))))))))) | exact .there (.there (.there (.there (.there (.there (.there (.there (.there (.there (.there (.there (.there .here)))))))))))) | exact .there (.there (.there (.there (.there (.there (.there (.there (.there (.there (.there (.there (.there (.there .here))))))))))))) | exact .there (.there (.there (.there (.there (.there (.there (.there (.there (.there (.there (.there (.there (.there (.there .here))))))))))))))) (by repeat (first | exact Sub.nil | refine Sub.cons ?_ ?_ | exact In.here | refine In.there ?_)) Fc.sz26 (by first | exact hcells_one _ | exact of_decide_eq_true rfl) (by rfl) (by first | exact .inr (by assumption) | exact .inl (by first | assumption | rfl)) ?_
  clear hH; intro w hH
  refine r_assign hS hH.kp0 rfl rfl ?_; clear hS; intro a hS
  refine Sq.nil ?_
  refine then_n ?_
  refine c_seq ?_
  refine reg_plain w0 (Nobody) ?_
  refine r_move hS hH.kp0 rfl rfl ?_; clear hS; intro a hS
  refine r_load_row hS hH (by repeat (first | exact Sub.nil | refine Sub.cons ?_ ?_ | exact In.here | refine In.there ?_)) rfl (by repeat (first | exact In.here | refine In.there ?_)) Fc.ag26 (by rfl) rfl ?_; clear hS; intro a hS
  refine r_move hS hH.kp0 rfl rfl ?_; clear hS; intro a hS
  refine r_call (l := [.tmp 32, .tmp 33, .tmp 34]) hS rfl rfl Fc.fn13 rfl ?_
  refine Calls.mono (Add_v b V1 ts1 (by omega) [s0, s1, s2, s3, s4, s5, s6, s7, s8, s9, sa, sb, sc, sd, se, sf] rfl _ la hA _ (hH.vin hok1 n011 n231 (by repeat (first | exact In.here | refine In.there ?_)) (by repeat (first | exact In.here | refine In.there ?_)) (by repeat (first | exact In.here | refine In.there ?_)) (by repeat (first | exact In.here | refine In.there ?_))) (hb0.go hH.mod hVS1)) ?_
  rintro e w1 ⟨h, x_, V2, ts2, rfl, hvi2, hst, hof⟩
  rw [hj1] at hof
  obtain ⟨rfl, j2, hj2, hat2, hpre2, hlen2⟩ := hof.at (i := j1) (at_lt hat1) (by omega)
  obtain ⟨x0, x1, x2, x3, x4, x5, x6, x7, x8, x9, xa, xb, xc, xd, xe, xf, rfl⟩ := len16 (h := h) (by rw [hj2]; rfl)
  have hVS2 := hVS1.step hst hH.mod.size
  replace hH := hH.vault hVS1 hst hvi2 (by first | exact .here | exact .there .here | exact .there (.there .here) | exact .there (.there (.there .here)) | exact .there (.there (.there (.there .here))) | exact .there (.there (.there (.there (.there .here)))) | exact .there (.there (.there (.there (.there (.there .here))))) | exact .there (.there (.there (.there (.there (.there (.there .here)))))) | exact .there (.there (.there (.there (.there (.there (.there (.there .here))))))) | exact .there (.there (.there (.there (.there (.there (.there (.there (.there .here)))))))) | exact .there (.there (.there (.there (.there (.there (.there (.there (.there (.there .here))))))))) | exact .there (.there (.there (.there (.there (.there (.there (.there (.there (.there (.there .here)))))))))) | exact .there (.there (.there (.there (.there (.there (.there (.there (.there (.there (.there (.there .here))))))))))) | exact .there (.there (.there (.there (.there (.there (.there (.there (.there (.there (.there (.there (.there .here)))))))))))) | exact .there (.there (.there (.there (.there (.there (.there (.there (.there (.there (.there (.there (.there (.there .here))))))))))))) | exact .there (.there (.there (.there (.there (.there (.there (.there (.there (.there (.there (.there (.there (.there (.there .here)))))))))))))))
  have hok2 := hvi2.ok
  have n012 := hvi2.n01
  have n232 := hvi2.n23
  clear hst
  clear hof
  refine ⟨_, rfl, hH.kp0, ?_⟩
  clear hS; intro a hS
  refine r_move hS hH.kp0 rfl rfl ?_; clear hS; intro a hS
  refine r_extract hS hH.kp0 rfl rfl rfl ?_; clear hS; intro a hS
  refine r_extract hS hH.kp0 rfl rfl rfl ?_; clear hS; intro a hS
  refine r_alloc hS hH (by repeat (first | exact Sub.nil | refine Sub.cons ?_ ?_ | exact In.here | refine In.there ?_)) Fc.zc26 rfl ?_
  clear hS hH; intro a w b8 hb8 hwb8 hS hH
  refine r_store_row hS hH rfl rfl (by first | exact .here | exact .there .here | exact .there (.there .here) | exact .there (.there (.there .here)) | exact .there (.there (.there (.there .here))) | exact .there (.there (.there (.there (.there .here)))) | exact .there (.there (.there (.there (.there (.there .here))))) | exact .there (.there (.there (.there (.there (.there (.there .here)))))) | exact .there (.there (.there (.there (.there (.there (.there (.there .here))))))) | exact .there (.there (.there (.there (.there (.there (.there (.there (.there .here)))))))) | exact .there (.there (.there (.there (.there (.there (.there (.there (.there (.there .here))))))))) | exact .there (.there (.there (.there (.there (.there (.there (.there (.there (.there (.there .here)))))))))) | exact .there (.there (.there (.there (.there (.there (.there (.there (.there (.there (.there (.there .here))))))))))) | exact .there (.there (.there (.there (.there (.there (.there (.there (.there (.there (.there (.there (.there .here)))))))))))) | exact .there (.there (.there (.there (.there (.there (.there (.there (.there (.there (.there (.there (.there (.there .here))))))))))))) | exact .there (.there (.there (.there (.there (.there (.there (.there (.there (.there (.there (.there (.there (.there (.there .here))))))))))))))) (by repeat (first | exact Sub.nil | refine Sub.cons ?_ ?_ | exact In.here | refine In.there ?_)) Fc.sz26 (by first | exact hcells_one _ | exact of_decide_eq_true rfl) (by rfl) (by first | exact .inr (by assumption) | exact .inl (by first | assumption | rfl)) ?_
  clear hH; intro w hH
  refine r_assign hS hH.kp0 rfl rfl ?_; clear hS; intro a hS
  refine Sq.nil ?_
  refine then_n ?_
  refine c_seq ?_
  refine reg_plain w0 (Nobody) ?_
  refine r_move hS hH.kp0 rfl rfl ?_; clear hS; intro a hS
  refine r_load_row hS hH (by repeat (first | exact Sub.nil | refine Sub.cons ?_ ?_ | exact In.here | refine In.there ?_)) rfl (by repeat (first | exact In.here | refine In.there ?_)) Fc.ag26 (by rfl) rfl ?_; clear hS; intro a hS
  refine r_move hS hH.kp0 rfl rfl ?_; clear hS; intro a hS
  refine r_call (l := [.tmp 39, .tmp 40, .tmp 41]) hS rfl rfl Fc.fn13 rfl ?_
  refine Calls.mono (Add_v b V2 ts2 (by omega) [x0, x1, x2, x3, x4, x5, x6, x7, x8, x9, xa, xb, xc, xd, xe, xf] rfl _ lc hC _ (hH.vin hok2 n012 n232 (by repeat (first | exact In.here | refine In.there ?_)) (by repeat (first | exact In.here | refine In.there ?_)) (by repeat (first | exact In.here | refine In.there ?_)) (by repeat (first | exact In.here | refine In.there ?_))) (hb1.go hH.mod hVS2)) ?_
  rintro e w1 ⟨h, x_, V3, ts3, rfl, hvi3, hst, hof⟩
  rw [hj2] at hof
  obtain ⟨rfl, j3, hj3, hat3, hpre3, hlen3⟩ := hof.at (i := j2) (at_lt hat2) (by omega)
  obtain ⟨y0, y1, y2, y3, y4, y5, y6, y7, y8, y9, ya, yb, yc, yd, ye, yf, rfl⟩ := len16 (h := h) (by rw [hj3]; rfl)
  have hVS3 := hVS2.step hst hH.mod.size
  replace hH := hH.vault hVS2 hst hvi3 (by first | exact .here | exact .there .here | exact .there (.there .here) | exact .there (.there (.there .here)) | exact .there (.there (.there (.there .here))) | exact .there (.there (.there (.there (.there .here)))) | exact .there (.there (.there (.there (.there (.there .here))))) | exact .there (.there (.there (.there (.there (.there (.there .here)))))) | exact .there (.there (.there (.there (.there (.there (.there (.there .here))))))) | exact .there (.there (.there (.there (.there (.there (.there (.there (.there .here)))))))) | exact .there (.there (.there (.there (.there (.there (.there (.there (.there (.there .here))))))))) | exact .there (.there (.there (.there (.there (.there (.there (.there (.there (.there (.there .here)))))))))) | exact .there (.there (.there (.there (.there (.there (.there (.there (.there (.there (.there (.there .here))))))))))) | exact .there (.there (.there (.there (.there (.there (.there (.there (.there (.there (.there (.there (.there .here)))))))))))) | exact .there (.there (.there (.there (.there (.there (.there (.there (.there (.there (.there (.there (.there (.there .here))))))))))))) | exact .there (.there (.there (.there (.there (.there (.there (.there (.there (.there (.there (.there (.there (.there (.there .here)))))))))))))))
  have hok3 := hvi3.ok
  have n013 := hvi3.n01
  have n233 := hvi3.n23
  clear hst
  clear hof
  refine ⟨_, rfl, hH.kp0, ?_⟩
  clear hS; intro a hS
  refine r_move hS hH.kp0 rfl rfl ?_; clear hS; intro a hS
  refine r_extract hS hH.kp0 rfl rfl rfl ?_; clear hS; intro a hS
  refine r_extract hS hH.kp0 rfl rfl rfl ?_; clear hS; intro a hS
  refine r_alloc hS hH (by repeat (first | exact Sub.nil | refine Sub.cons ?_ ?_ | exact In.here | refine In.there ?_)) Fc.zc26 rfl ?_
  clear hS hH; intro a w b10 hb10 hwb10 hS hH
  refine r_store_row hS hH rfl rfl (by first | exact .here | exact .there .here | exact .there (.there .here) | exact .there (.there (.there .here)) | exact .there (.there (.there (.there .here))) | exact .there (.there (.there (.there (.there .here)))) | exact .there (.there (.there (.there (.there (.there .here))))) | exact .there (.there (.there (.there (.there (.there (.there .here)))))) | exact .there (.there (.there (.there (.there (.there (.there (.there .here))))))) | exact .there (.there (.there (.there (.there (.there (.there (.there (.there .here)))))))) | exact .there (.there (.there (.there (.there (.there (.there (.there (.there (.there .here))))))))) | exact .there (.there (.there (.there (.there (.there (.there (.there (.there (.there (.there .here)))))))))) | exact .there (.there (.there (.there (.there (.there (.there (.there (.there (.there (.there (.there .here))))))))))) | exact .there (.there (.there (.there (.there (.there (.there (.there (.there (.there (.there (.there (.there .here)))))))))))) | exact .there (.there (.there (.there (.there (.there (.there (.there (.there (.there (.there (.there (.there (.there .here))))))))))))) | exact .there (.there (.there (.there (.there (.there (.there (.there (.there (.there (.there (.there (.there (.there (.there .here))))))))))))))) (by repeat (first | exact Sub.nil | refine Sub.cons ?_ ?_ | exact In.here | refine In.there ?_)) Fc.sz26 (by first | exact hcells_one _ | exact of_decide_eq_true rfl) (by rfl) (by first | exact .inr (by assumption) | exact .inl (by first | assumption | rfl)) ?_
  clear hH; intro w hH
  refine r_assign hS hH.kp0 rfl rfl ?_; clear hS; intro a hS
  refine Sq.nil ?_
  refine then_n ?_
  refine c_seq ?_
  refine reg_plain w0 (Nobody) ?_
  refine r_move hS hH.kp0 rfl rfl ?_; clear hS; intro a hS
  refine r_load_row hS hH (by repeat (first | exact Sub.nil | refine Sub.cons ?_ ?_ | exact In.here | refine In.there ?_)) rfl (by repeat (first | exact In.here | refine In.there ?_)) Fc.ag26 (by rfl) rfl ?_; clear hS; intro a hS
  refine r_move hS hH.kp0 rfl rfl ?_; clear hS; intro a hS
  refine r_call (l := [.tmp 46, .tmp 47, .tmp 48]) hS rfl rfl Fc.fn13 rfl ?_
  refine Calls.mono (Add_v b V3 ts3 (by omega) [s0, s1, s2, s3, s4, s5, s6, s7, s8, s9, sa, sb, sc, sd, se, sf] rfl _ lc hC _ (hH.vin hok3 n013 n233 (by repeat (first | exact In.here | refine In.there ?_)) (by repeat (first | exact In.here | refine In.there ?_)) (by repeat (first | exact In.here | refine In.there ?_)) (by repeat (first | exact In.here | refine In.there ?_))) (hb1.go hH.mod hVS3)) ?_
  rintro e w1 ⟨h, x_, V4, ts4, rfl, hvi4, hst, hof⟩
  rw [hj1] at hof
  obtain ⟨rfl, j4, hj4, hat4, hpre4, hlen4⟩ := hof.at (i := j1) (at_lt (hpre3 _ _ (hpre2 _ _ hat1))) (by omega)
  obtain ⟨z0, z1, z2, z3, z4, z5, z6, z7, z8, z9, za, zb, zc, zd, ze, zf, rfl⟩ := len16 (h := h) (by rw [hj4]; rfl)
  have hVS4 := hVS3.step hst hH.mod.size
  replace hH := hH.vault hVS3 hst hvi4 (by first | exact .here | exact .there .here | exact .there (.there .here) | exact .there (.there (.there .here)) | exact .there (.there (.there (.there .here))) | exact .there (.there (.there (.there (.there .here)))) | exact .there (.there (.there (.there (.there (.there .here))))) | exact .there (.there (.there (.there (.there (.there (.there .here)))))) | exact .there (.there (.there (.there (.there (.there (.there (.there .here))))))) | exact .there (.there (.there (.there (.there (.there (.there (.there (.there .here)))))))) | exact .there (.there (.there (.there (.there (.there (.there (.there (.there (.there .here))))))))) | exact .there (.there (.there (.there (.there (.there (.there (.there (.there (.there (.there .here)))))))))) | exact .there (.there (.there (.there (.there (.there (.there (.there (.there (.there (.there (.there .here))))))))))) | exact .there (.there (.there (.there (.there (.there (.there (.there (.there (.there (.there (.there (.there .here)))))))))))) | exact .there (.there (.there (.there (.there (.there (.there (.there (.there (.there (.there (.there (.there (.there .here))))))))))))) | exact .there (.there (.there (.there (.there (.there (.there (.there (.there (.there (.there (.there (.there (.there (.there .here)))))))))))))))
  have hok4 := hvi4.ok
  have n014 := hvi4.n01
  have n234 := hvi4.n23
  clear hst
  clear hof
  refine ⟨_, rfl, hH.kp0, ?_⟩
  clear hS; intro a hS
  refine r_move hS hH.kp0 rfl rfl ?_; clear hS; intro a hS
  refine r_extract hS hH.kp0 rfl rfl rfl ?_; clear hS; intro a hS
  refine r_extract hS hH.kp0 rfl rfl rfl ?_; clear hS; intro a hS
  refine r_alloc hS hH (by repeat (first | exact Sub.nil | refine Sub.cons ?_ ?_ | exact In.here | refine In.there ?_)) Fc.zc26 rfl ?_
  clear hS hH; intro a w b12 hb12 hwb12 hS hH
  refine r_store_row hS hH rfl rfl (by first | exact .here | exact .there .here | exact .there (.there .here) | exact .there (.there (.there .here)) | exact .there (.there (.there (.there .here))) | exact .there (.there (.there (.there (.there .here)))) | exact .there (.there (.there (.there (.there (.there .here))))) | exact .there (.there (.there (.there (.there (.there (.there .here)))))) | exact .there (.there (.there (.there (.there (.there (.there (.there .here))))))) | exact .there (.there (.there (.there (.there (.there (.there (.there (.there .here)))))))) | exact .there (.there (.there (.there (.there (.there (.there (.there (.there (.there .here))))))))) | exact .there (.there (.there (.there (.there (.there (.there (.there (.there (.there (.there .here)))))))))) | exact .there (.there (.there (.there (.there (.there (.there (.there (.there (.there (.there (.there .here))))))))))) | exact .there (.there (.there (.there (.there (.there (.there (.there (.there (.there (.there (.there (.there .here)))))))))))) | exact .there (.there (.there (.there (.there (.there (.there (.there (.there (.there (.there (.there (.there (.there .here))))))))))))) | exact .there (.there (.there (.there (.there (.there (.there (.there (.there (.there (.there (.there (.there (.there (.there .here))))))))))))))) (by repeat (first | exact Sub.nil | refine Sub.cons ?_ ?_ | exact In.here | refine In.there ?_)) Fc.sz26 (by first | exact hcells_one _ | exact of_decide_eq_true rfl) (by rfl) (by first | exact .inr (by assumption) | exact .inl (by first | assumption | rfl)) ?_
  clear hH; intro w hH
  refine r_assign hS hH.kp0 rfl rfl ?_; clear hS; intro a hS
  refine Sq.nil ?_
  refine then_n ?_
  refine c_seq ?_
  refine reg_plain w0 (Nobody) ?_
  refine r_move hS hH.kp0 rfl rfl ?_; clear hS; intro a hS
  refine r_call (l := [.tmp 52]) hS rfl rfl Fc.fn14 rfl ?_
  refine Calls.mono (Fresh_v b V4 ts4 (by omega) _ (hH.vin hok4 n014 n234 (by repeat (first | exact In.here | refine In.there ?_)) (by repeat (first | exact In.here | refine In.there ?_)) (by repeat (first | exact In.here | refine In.there ?_)) (by repeat (first | exact In.here | refine In.there ?_)))) ?_
  rintro e w1 ⟨h, V5, rfl, hkn5, hvi5, hst⟩
  obtain ⟨k0, k1, k2, k3, k4, k5, k6, k7, k8, k9, ka, kb, kc, kd, ke, kf, rfl⟩ := len16 (h := h) (by rw [hkn5]; rfl)
  have hVS5 := hVS4.step hst hH.mod.size
  replace hH := hH.vault hVS4 hst hvi5 (by first | exact .here | exact .there .here | exact .there (.there .here) | exact .there (.there (.there .here)) | exact .there (.there (.there (.there .here))) | exact .there (.there (.there (.there (.there .here)))) | exact .there (.there (.there (.there (.there (.there .here))))) | exact .there (.there (.there (.there (.there (.there (.there .here)))))) | exact .there (.there (.there (.there (.there (.there (.there (.there .here))))))) | exact .there (.there (.there (.there (.there (.there (.there (.there (.there .here)))))))) | exact .there (.there (.there (.there (.there (.there (.there (.there (.there (.there .here))))))))) | exact .there (.there (.there (.there (.there (.there (.there (.there (.there (.there (.there .here)))))))))) | exact .there (.there (.there (.there (.there (.there (.there (.there (.there (.there (.there (.there .here))))))))))) | exact .there (.there (.there (.there (.there (.there (.there (.there (.there (.there (.there (.there (.there .here)))))))))))) | exact .there (.there (.there (.there (.there (.there (.there (.there (.there (.there (.there (.there (.there (.there .here))))))))))))) | exact .there (.there (.there (.there (.there (.there (.there (.there (.there (.there (.there (.there (.there (.there (.there .here)))))))))))))))
  have hok5 := hvi5.ok
  have n015 := hvi5.n01
  have n235 := hvi5.n23
  clear hst
  refine ⟨_, rfl, hH.kp0, ?_⟩
  clear hS; intro a hS
  refine r_alloc hS hH (by repeat (first | exact Sub.nil | refine Sub.cons ?_ ?_ | exact In.here | refine In.there ?_)) Fc.zc26 rfl ?_
  clear hS hH; intro a w b14 hb14 hwb14 hS hH
  refine r_store_row hS hH rfl rfl (by first | exact .here | exact .there .here | exact .there (.there .here) | exact .there (.there (.there .here)) | exact .there (.there (.there (.there .here))) | exact .there (.there (.there (.there (.there .here)))) | exact .there (.there (.there (.there (.there (.there .here))))) | exact .there (.there (.there (.there (.there (.there (.there .here)))))) | exact .there (.there (.there (.there (.there (.there (.there (.there .here))))))) | exact .there (.there (.there (.there (.there (.there (.there (.there (.there .here)))))))) | exact .there (.there (.there (.there (.there (.there (.there (.there (.there (.there .here))))))))) | exact .there (.there (.there (.there (.there (.there (.there (.there (.there (.there (.there .here)))))))))) | exact .there (.there (.there (.there (.there (.there (.there (.there (.there (.there (.there (.there .here))))))))))) | exact .there (.there (.there (.there (.there (.there (.there (.there (.there (.there (.there (.there (.there .here)))))))))))) | exact .there (.there (.there (.there (.there (.there (.there (.there (.there (.there (.there (.there (.there (.there .here))))))))))))) | exact .there (.there (.there (.there (.there (.there (.there (.there (.there (.there (.there (.there (.there (.there (.there .here))))))))))))))) (by repeat (first | exact Sub.nil | refine Sub.cons ?_ ?_ | exact In.here | refine In.there ?_)) Fc.sz26 (by first | exact hcells_one _ | exact of_decide_eq_true rfl) (by rfl) (by first | exact .inr (by assumption) | exact .inl (by first | assumption | rfl)) ?_
  clear hH; intro w hH
  refine Sq.nil ?_
  refine then_n ?_
  refine c_seq ?_
  refine c_seq ?_
  have u1 := at_lt hat1; have u2 := at_lt hat2; have u3 := at_lt hat3; have u4 := at_lt hat4
  have a1 := hpre4 _ _ (hpre3 _ _ (hpre2 _ _ hat1))
  have a2 := hpre4 _ _ (hpre3 _ _ hat2)
  have a3 := hpre4 _ _ hat3
  have d12 : j1 ≠ j2 := at_ne a1 a2 (by intro e; have h : lb_script = lb_message := congrArg Tm.label e; exact absurd h (by decide))
  have d13 : j1 ≠ j3 := at_ne a1 a3 (by intro e; have h : lb_script = lb_message := congrArg Tm.label e; exact absurd h (by decide))
  have d23 : j2 ≠ j3 := at_ne a2 a3 (by intro e; have h : (j1 : Int) = j2 := congrArg Tm.a e; omega)
  have e24 : j2 = j4 ↔ strOf la = strOf lc := ⟨fun e => by rw [← e, a2] at hat4; have h := congrArg Tm.bytes (Option.some.inj hat4); simpa [drv] using h, fun e => hok4.uniq a2 (by rw [hat4]; simp only [List.flatten_cons, List.flatten_nil, List.append_nil, e]) (by show (2 : Int) ≠ 1; decide)⟩
  have nXS : ¬ ([x0, x1, x2, x3, x4, x5, x6, x7, x8, x9, xa, xb, xc, xd, xe, xf] : List UInt8) = [s0, s1, s2, s3, s4, s5, s6, s7, s8, s9, sa, sb, sc, sd, se, sf] := by rw [hj1, hj2]; exact nm_ne (by omega) (by omega) (Ne.symm d12)
  have nYX : ¬ ([y0, y1, y2, y3, y4, y5, y6, y7, y8, y9, ya, yb, yc, yd, ye, yf] : List UInt8) = [x0, x1, x2, x3, x4, x5, x6, x7, x8, x9, xa, xb, xc, xd, xe, xf] := by rw [hj2, hj3]; exact nm_ne (by omega) (by omega) (Ne.symm d23)
  have nSY : ¬ ([s0, s1, s2, s3, s4, s5, s6, s7, s8, s9, sa, sb, sc, sd, se, sf] : List UInt8) = [y0, y1, y2, y3, y4, y5, y6, y7, y8, y9, ya, yb, yc, yd, ye, yf] := by rw [hj1, hj3]; exact nm_ne (by omega) (by omega) d13
  have eXZ : decide (([x0, x1, x2, x3, x4, x5, x6, x7, x8, x9, xa, xb, xc, xd, xe, xf] : List UInt8) = [z0, z1, z2, z3, z4, z5, z6, z7, z8, z9, za, zb, zc, zd, ze, zf]) = ((strOf la).toList == (strOf lc).toList) := by
    rw [strOf_toList, strOf_toList, Bool.eq_iff_iff, decide_eq_true_eq, beq_iff_eq, hj2, hj4]
    exact ⟨fun e => strOf_inj (e24.1 (nm_inj (by omega) (by omega) e)), fun e => by rw [e24.2 (by rw [e])]⟩
  refine reg_draw [(true, 0, []), (true, 1, []), (true, 2, []), (true, 3, []), (true, 4, []), (true, 5, []), (true, 6, []), (true, 7, []), (true, 8, []), (true, 9, []), (true, 10, []), (true, 11, []), (true, 12, []), (true, 13, []), (true, 14, []), (true, 15, []), (true, 16, []), (true, 17, []), (true, 18, []), (true, 19, []), (true, 20, []), (true, 21, []), (true, 22, []), (true, 23, []), (true, 24, []), (true, 25, []), (true, 26, []), (true, 27, []), (true, 28, []), (true, 29, []), (true, 30, []), (true, 31, []), (true, 32, []), (true, 33, []), (true, 34, [])] Fc.mixed (by kernel_rfl) (by kernel_rfl) (by kernel_rfl) (by kernel_rfl) (by kernel_rfl) (by repeat (first | with_reducible exact steady_body | with_reducible apply steady_block | with_reducible apply steady_then | exact steady_body)) hH ?_
  replace hH := hH.drew
  refine r_move hS trivial rfl rfl ?_; clear hS; intro a hS
  refine r_neq hS trivial rfl rfl rfl ?_; clear hS; intro a hS
  refine r_move hS trivial rfl rfl ?_; clear hS; intro a hS
  refine Sq.guardYes hS rfl rfl rfl ?_
  refine r_move hS trivial rfl rfl ?_; clear hS; intro a hS
  refine Sq.guardYes hS rfl rfl rfl ?_
  refine r_neq hS trivial rfl rfl rfl ?_; clear hS; intro a hS
  refine r_pickF hS trivial rfl rfl rfl rfl ?_; clear hS; intro a hS
  refine r_move hS trivial rfl rfl ?_; clear hS; intro a hS
  refine Sq.guardYes hS rfl rfl rfl ?_
  refine r_move hS trivial rfl rfl ?_; clear hS; intro a hS
  refine Sq.guardYes hS rfl rfl rfl ?_
  refine r_neq hS trivial rfl rfl rfl ?_; clear hS; intro a hS
  refine r_pickF hS trivial rfl rfl rfl rfl ?_; clear hS; intro a hS
  refine r_move hS trivial rfl rfl ?_; clear hS; intro a hS
  refine Sq.guardYes hS rfl rfl rfl ?_
  refine r_move hS trivial rfl rfl ?_; clear hS; intro a hS
  refine Sq.guardYes hS rfl rfl rfl ?_
  refine r_neq hS trivial rfl rfl rfl ?_; clear hS; intro a hS
  refine r_pickF hS trivial rfl rfl rfl rfl ?_; clear hS; intro a hS
  refine r_move hS trivial rfl rfl ?_; clear hS; intro a hS
  refine Sq.guardYes hS rfl rfl rfl ?_
  refine r_load_rowS hS rfl (by repeat (first | exact In.here | refine In.there ?_)) Fc.ag26 (by rfl) rfl ?_; clear hS; intro a hS
  refine Sq.guardYes hS rfl rfl rfl ?_
  refine r_load_rowS hS rfl (by repeat (first | exact In.here | refine In.there ?_)) Fc.ag26 (by rfl) rfl ?_; clear hS; intro a hS
  refine Sq.guardYes hS rfl rfl rfl ?_
  refine r_arrEql (h := [x0, x1, x2, x3, x4, x5, x6, x7, x8, x9, xa, xb, xc, xd, xe, xf]) (g := [s0, s1, s2, s3, s4, s5, s6, s7, s8, s9, sa, sb, sc, sd, se, sf]) Fc.arrH hS trivial rfl rfl rfl rfl rfl ?_; clear hS; intro a hS
  refine r_pickF hS trivial rfl rfl rfl rfl ?_; clear hS; intro a hS
  refine r_move hS trivial rfl rfl ?_; clear hS; intro a hS
  refine Sq.guardYes hS rfl rfl (DF nXS) ?_
  refine r_load_rowS hS rfl (by repeat (first | exact In.here | refine In.there ?_)) Fc.ag26 (by rfl) rfl ?_; clear hS; intro a hS
  refine Sq.guardYes hS rfl rfl (DF nXS) ?_
  refine r_load_rowS hS rfl (by repeat (first | exact In.here | refine In.there ?_)) Fc.ag26 (by rfl) rfl ?_; clear hS; intro a hS
  refine Sq.guardYes hS rfl rfl (DF nXS) ?_
  refine r_arrEql (h := [y0, y1, y2, y3, y4, y5, y6, y7, y8, y9, ya, yb, yc, yd, ye, yf]) (g := [x0, x1, x2, x3, x4, x5, x6, x7, x8, x9, xa, xb, xc, xd, xe, xf]) Fc.arrH hS trivial rfl rfl rfl rfl rfl ?_; clear hS; intro a hS
  refine r_pickF hS trivial rfl (DF nXS) rfl rfl ?_; clear hS; intro a hS
  refine r_move hS trivial rfl rfl ?_; clear hS; intro a hS
  refine Sq.guardYes hS rfl rfl (DF nYX) ?_
  refine r_load_rowS hS rfl (by repeat (first | exact In.here | refine In.there ?_)) Fc.ag26 (by rfl) rfl ?_; clear hS; intro a hS
  refine Sq.guardYes hS rfl rfl (DF nYX) ?_
  refine r_load_rowS hS rfl (by repeat (first | exact In.here | refine In.there ?_)) Fc.ag26 (by rfl) rfl ?_; clear hS; intro a hS
  refine Sq.guardYes hS rfl rfl (DF nYX) ?_
  refine r_arrEql (h := [x0, x1, x2, x3, x4, x5, x6, x7, x8, x9, xa, xb, xc, xd, xe, xf]) (g := [z0, z1, z2, z3, z4, z5, z6, z7, z8, z9, za, zb, zc, zd, ze, zf]) Fc.arrH hS trivial rfl rfl rfl rfl rfl ?_; clear hS; intro a hS
  refine Sq.guardYes hS rfl rfl (DF nYX) ?_
  refine r_move hS trivial rfl rfl ?_; clear hS; intro a hS
  refine Sq.guardYes hS rfl rfl (DF nYX) ?_
  refine r_bytesStrS hS rfl (fun w hw => hb0 w hw.2) Fc.u8s22 Fc.isStr9 rfl ?_; clear hS; intro a hS
  refine Sq.guardYes hS rfl rfl (DF nYX) ?_
  refine r_move hS trivial rfl rfl ?_; clear hS; intro a hS
  refine Sq.guardYes hS rfl rfl (DF nYX) ?_
  refine r_bytesStrS hS rfl (fun w hw => hb1 w hw.2) Fc.u8s22 Fc.isStr9 rfl ?_; clear hS; intro a hS
  refine Sq.guardYes hS rfl rfl (DF nYX) ?_
  refine r_strEql hS trivial rfl rfl rfl ?_; clear hS; intro a hS
  refine Sq.guardYes hS rfl rfl (DF nYX) ?_
  refine r_boolNeq hS trivial rfl rfl Fc.isBool4 rfl ?_; clear hS; intro a hS
  refine r_pickF hS trivial rfl (DF nYX) rfl rfl ?_; clear hS; intro a hS
  refine Sq.nil ?_
  refine then_n ?_
  refine c_condF hS rfl (by show (!(decide ([x0, x1, x2, x3, x4, x5, x6, x7, x8, x9, xa, xb, xc, xd, xe, xf] = [z0, z1, z2, z3, z4, z5, z6, z7, z8, z9, za, zb, zc, zd, ze, zf]) == ((strOf la).toList == (strOf lc).toList))) = false; rw [eXZ]; simp) ?_
  refine wp_skip ?_
  refine then_n ?_
  refine c_seq ?_
  refine reg_plain w0 (Nobody) ?_
  refine r_assign hS hH.kp0 rfl rfl ?_; clear hS; intro a hS
  refine Sq.nil ?_
  refine then_n ?_
  refine c_seq ?_
  refine c_seq ?_
  refine reg_plain w0 (Nobody) ?_
  refine r_load_row hS hH (by repeat (first | exact Sub.nil | refine Sub.cons ?_ ?_ | exact In.here | refine In.there ?_)) rfl (by repeat (first | exact In.here | refine In.there ?_)) Fc.ag26 (by rfl) rfl ?_; clear hS; intro a hS
  refine r_load_row hS hH (by repeat (first | exact Sub.nil | refine Sub.cons ?_ ?_ | exact In.here | refine In.there ?_)) rfl (by repeat (first | exact In.here | refine In.there ?_)) Fc.ag26 (by rfl) rfl ?_; clear hS; intro a hS
  refine r_load_row hS hH (by repeat (first | exact Sub.nil | refine Sub.cons ?_ ?_ | exact In.here | refine In.there ?_)) rfl (by repeat (first | exact In.here | refine In.there ?_)) Fc.ag26 (by rfl) rfl ?_; clear hS; intro a hS
  refine r_buildSlice (parts := [(0, .tmp 89), (1, .tmp 90), (2, .tmp 91)]) hS hH (by repeat (first | exact Sub.nil | refine Sub.cons ?_ ?_ | exact In.here | refine In.there ?_)) rfl Fc.bsl32_3 (by rfl) rfl ?_
  clear hS hH; intro a w b92 hb92 hwb92 hS hH
  refine r_lenSl hS hH.kp0 rfl Fc.isSlice32 rfl ?_; clear hS; intro a hS
  refine r_move hS hH.kp0 rfl rfl ?_; clear hS; intro a hS
  refine Sq.nil ?_
  obtain ⟨Ss, hSs⟩ : ∃ Ss : List (List UInt8), Ss = [[s0, s1, s2, s3, s4, s5, s6, s7, s8, s9, sa, sb, sc, sd, se, sf], [x0, x1, x2, x3, x4, x5, x6, x7, x8, x9, xa, xb, xc, xd, xe, xf], [y0, y1, y2, y3, y4, y5, y6, y7, y8, y9, ya, yb, yc, yd, ye, yf]] := ⟨_, rfl⟩
  have hap0 : ApI ts4.length lbs5 Ss (ts4 ++ [freshT]) [] (5 * 0) := ⟨rfl, by simp; omega, by simp, fun r hr => by omega⟩
  have hS16 : ∀ h ∈ Ss, h.length = 16 := by rw [hSs]; intro h hh; simp only [List.mem_cons, List.not_mem_nil, or_false] at hh; rcases hh with rfl | rfl | rfl <;> rfl
  have nS : Ss.Nodup := by rw [hSs]; exact List.nodup_cons.2 ⟨by simp only [List.mem_cons, List.not_mem_nil, or_false, not_or]; exact ⟨fun e => nXS e.symm, nSY⟩, List.nodup_cons.2 ⟨by simp only [List.mem_cons, List.not_mem_nil, or_false]; exact fun e => nYX e.symm, by simp⟩⟩
  have hSl : Ss.length = 3 := by rw [hSs]; rfl
  obtain ⟨ki, hki⟩ : ∃ k, k = ts4.length := ⟨_, rfl⟩
  obtain ⟨ts5, hts5⟩ : ∃ k, k = ts4 ++ [freshT] := ⟨_, rfl⟩
  rw [← hki, ← hts5] at hap0
  rw [← hts5] at hok5
  rw [← hki] at hkn5
  replace hH : Hp w0 Nobody [(b92, .cells (List.flatMap hcells Ss).toArray 26 (0, 0)), (b14, .cells (hcells [k0, k1, k2, k3, k4, k5, k6, k7, k8, k9, ka, kb, kc, kd, ke, kf]).toArray 26 (0, 0)), (b, .cells (V5.top ts5.length).toArray 71 (0, 0)), (V5.sb, .cells V5.l.toArray 93 (0, 0)), (V5.fb, .map V5.es V5.c), (V5.nb, .map V5.es' V5.c')] w := by rw [hSs, hts5]; exact hH.drop [2, 3, 4, 5]
  refine then_n ?_
  refine wp_block ?_
  refine c_loop (fun m a w => ∃ (i : Nat) (ii : Int) (V : VB) (ts : List Tm) (hs : List (List UInt8)) (sl : Value), m + i = 3 ∧ ii = i ∧ VOk Try.prog 93 26 V ts ∧ b ≠ V.sb ∧ V.fb ≠ V.nb ∧ VS Nobody w0 b V ∧ ApI ki lbs5 Ss ts hs (5 * i) ∧ St 132 (lv [(5, .pointer (some ⟨b, 0, none⟩)), (14, .pointer (some ⟨b14, 0, none⟩)), (15, sl), (92, .slice (some ⟨b92, 0, none⟩) 3 3), (93, .int .i64 3), (94, .int .i64 ii)]) a ∧ ((i = 0 ∧ sl = .slice none 0 0 ∧ Hp w0 Nobody [(b92, .cells (List.flatMap hcells Ss).toArray 26 (0, 0)), (b14, .cells (hcells [k0, k1, k2, k3, k4, k5, k6, k7, k8, k9, ka, kb, kc, kd, ke, kf]).toArray 26 (0, 0)), (b, .cells (V.top ts.length).toArray 71 (0, 0)), (V.sb, .cells V.l.toArray 93 (0, 0)), (V.fb, .map V.es V.c), (V.nb, .map V.es' V.c')] w) ∨ ∃ (ob cap : Nat) (l : List Value), sl = .slice (some ⟨ob, 0, none⟩) hs.length cap ∧ w0.heap.size ≤ ob ∧ l.length = cap * 16 ∧ hs.length ≤ cap ∧ l.take (hs.length * 16) = hs.flatMap hcells ∧ Hp w0 Nobody [(ob, .cells l.toArray 26 (0, 0)), (b92, .cells (List.flatMap hcells Ss).toArray 26 (0, 0)), (b14, .cells (hcells [k0, k1, k2, k3, k4, k5, k6, k7, k8, k9, ka, kb, kc, kd, ke, kf]).toArray 26 (0, 0)), (b, .cells (V.top ts.length).toArray 71 (0, 0)), (V.sb, .cells V.l.toArray 93 (0, 0)), (V.fb, .map V.es V.c), (V.nb, .map V.es' V.c')] w)) (3) ?_ ?_
  · exact ⟨0, _, V5, ts5, [], _, rfl, rfl, hok5, n015, n235, hVS5, hap0, hS.live ⟨rfl, rfl, rfl, rfl, rfl, rfl, trivial⟩, .inl ⟨rfl, rfl, hH⟩⟩
  clear hS hH; intro m a w hI; obtain ⟨i, ii, V, ts, hs, sl, hmi, hii, hok, n01, n23, hVS, hap, hS, hI⟩ := hI
  obtain ⟨m0, hm0⟩ : ∃ x, x = m := ⟨_, rfl⟩
  rcases hI with ⟨hi0, rfl, hH⟩ | ⟨ob, cap, l, rfl, hob, hol, hcap, htk, hH⟩
  · refine c_seq ?_
    refine reg_plain w0 (Nobody) ?_
    refine r_lss hS hH.kp0 rfl rfl rfl ?_; clear hS; intro a hS
    refine Sq.nil ?_
    refine then_n ?_
    refine c_seq ?_
    refine c_cond hS rfl (fun hc2 => ?_) (fun hc2 => ?_)
    · have hlt := of_decide_eq_true hc2
      obtain ⟨g, hg⟩ : ∃ g, Ss[i]? = some g := ⟨_, List.getElem?_eq_getElem (by omega)⟩
      have hg16 := hS16 g (List.mem_of_getElem? hg)
      have hrow := rd_row (l := List.flatMap hcells Ss) hS16 (List.take_of_length_le (by rw [flat16 Ss hS16]; omega)) hg
      obtain ⟨g0, g1, g2, g3, g4, g5, g6, g7, g8, g9, ga, gb, gc, gd, ge, gf, rfl⟩ := len16 hg16
      refine wp_skip ?_
      refine then_n ?_
      refine c_seq ?_
      refine wp_block ?_
      refine c_seq ?_
      refine reg_plain w0 (Nobody) ?_
      refine r_indexAddrS (j := i) hS hH.kp0 rfl rfl Fc.slb32 hii (by omega) rfl ?_; clear hS; intro a hS
      refine r_load_at (vs := hcells [g0, g1, g2, g3, g4, g5, g6, g7, g8, g9, ga, gb, gc, gd, ge, gf]) hS hH (by repeat (first | exact Sub.nil | refine Sub.cons ?_ ?_ | exact In.here | refine In.there ?_)) rfl (by repeat (first | exact In.here | refine In.there ?_)) Fc.ag26 (by rw [Nat.zero_add]; exact hrow.2) (by rw [Nat.zero_add]; exact hrow.1) rfl ?_; clear hS; intro a hS
      refine r_alloc hS hH (by repeat (first | exact Sub.nil | refine Sub.cons ?_ ?_ | exact In.here | refine In.there ?_)) Fc.zc26 rfl ?_
      clear hS hH; intro a w b17 hb17 hwb17 hS hH
      refine r_store_row hS hH rfl rfl (by first | exact .here | exact .there .here | exact .there (.there .here) | exact .there (.there (.there .here)) | exact .there (.there (.there (.there .here))) | exact .there (.there (.there (.there (.there .here)))) | exact .there (.there (.there (.there (.there (.there .here))))) | exact .there (.there (.there (.there (.there (.there (.there .here)))))) | exact .there (.there (.there (.there (.there (.there (.there (.there .here))))))) | exact .there (.there (.there (.there (.there (.there (.there (.there (.there .here)))))))) | exact .there (.there (.there (.there (.there (.there (.there (.there (.there (.there .here))))))))) | exact .there (.there (.there (.there (.there (.there (.there (.there (.there (.there (.there .here)))))))))) | exact .there (.there (.there (.there (.there (.there (.there (.there (.there (.there (.there (.there .here))))))))))) | exact .there (.there (.there (.there (.there (.there (.there (.there (.there (.there (.there (.there (.there .here)))))))))))) | exact .there (.there (.there (.there (.there (.there (.there (.there (.there (.there (.there (.there (.there (.there .here))))))))))))) | exact .there (.there (.there (.there (.there (.there (.there (.there (.there (.there (.there (.there (.there (.there (.there .here))))))))))))))) (by repeat (first | exact Sub.nil | refine Sub.cons ?_ ?_ | exact In.here | refine In.there ?_)) Fc.sz26 (by first | exact hcells_one _ | exact of_decide_eq_true rfl) (by rfl) (by first | exact .inr (by assumption) | exact .inl (by first | assumption | rfl)) ?_
      clear hH; intro w hH
      refine Sq.nil ?_
      refine then_n ?_
      refine c_seq ?_
      refine reg_plain w0 (Nobody) ?_
      refine r_buildSlice (parts := [(0, .const (.string { data := #[101, 97, 114, 108, 121] })), (1, .const (.string { data := #[99, 108, 105, 101, 110, 116, 32, 104, 97, 110, 100] })), (2, .const (.string { data := #[115, 101, 114, 118, 101, 114, 32, 104, 97, 110, 100] })), (3, .const (.string { data := #[99, 108, 105, 101, 110, 116, 32, 100, 97, 116, 97] })), (4, .const (.string { data := #[115, 101, 114, 118, 101, 114, 32, 100, 97, 116, 97] }))]) hS hH (by repeat (first | exact Sub.nil | refine Sub.cons ?_ ?_ | exact In.here | refine In.there ?_)) rfl Fc.bsl33_5 (by rfl) rfl ?_
      clear hS hH; intro a w b98 hb98 hwb98 hS hH
      refine r_lenSl hS hH.kp0 rfl Fc.isSlice33 rfl ?_; clear hS; intro a hS
      refine r_move hS hH.kp0 rfl rfl ?_; clear hS; intro a hS
      refine Sq.nil ?_
      refine then_n ?_
      refine wp_block ?_
      refine c_loop (fun m a w => ∃ (j : Nat) (jj : Int) (V : VB) (ts : List Tm) (hs : List (List UInt8)) (sl : Value), m + j = 5 ∧ jj = j ∧ VOk Try.prog 93 26 V ts ∧ b ≠ V.sb ∧ V.fb ≠ V.nb ∧ VS Nobody w0 b V ∧ ApI ki lbs5 Ss ts hs (5 * i + j) ∧ St 132 (lv [(5, .pointer (some ⟨b, 0, none⟩)), (14, .pointer (some ⟨b14, 0, none⟩)), (15, sl), (92, .slice (some ⟨b92, 0, none⟩) 3 3), (93, .int .i64 3), (94, .int .i64 ii), (17, .pointer (some ⟨b17, 0, none⟩)), (98, .slice (some ⟨b98, 0, none⟩) 5 5), (99, .int .i64 5), (100, .int .i64 jj)]) a ∧ ((i = 0 ∧ j = 0 ∧ sl = .slice none 0 0 ∧ Hp w0 Nobody [(b98, .cells (lbs5.map Value.string).toArray 9 (0, 0)), (b17, .cells (hcells [g0, g1, g2, g3, g4, g5, g6, g7, g8, g9, ga, gb, gc, gd, ge, gf]).toArray 26 (0, 0)), (b92, .cells (List.flatMap hcells Ss).toArray 26 (0, 0)), (b14, .cells (hcells [k0, k1, k2, k3, k4, k5, k6, k7, k8, k9, ka, kb, kc, kd, ke, kf]).toArray 26 (0, 0)), (b, .cells (V.top ts.length).toArray 71 (0, 0)), (V.sb, .cells V.l.toArray 93 (0, 0)), (V.fb, .map V.es V.c), (V.nb, .map V.es' V.c')] w) ∨ ∃ (ob cap : Nat) (l : List Value), sl = .slice (some ⟨ob, 0, none⟩) hs.length cap ∧ w0.heap.size ≤ ob ∧ l.length = cap * 16 ∧ hs.length ≤ cap ∧ l.take (hs.length * 16) = hs.flatMap hcells ∧ Hp w0 Nobody [(ob, .cells l.toArray 26 (0, 0)), (b98, .cells (lbs5.map Value.string).toArray 9 (0, 0)), (b17, .cells (hcells [g0, g1, g2, g3, g4, g5, g6, g7, g8, g9, ga, gb, gc, gd, ge, gf]).toArray 26 (0, 0)), (b92, .cells (List.flatMap hcells Ss).toArray 26 (0, 0)), (b14, .cells (hcells [k0, k1, k2, k3, k4, k5, k6, k7, k8, k9, ka, kb, kc, kd, ke, kf]).toArray 26 (0, 0)), (b, .cells (V.top ts.length).toArray 71 (0, 0)), (V.sb, .cells V.l.toArray 93 (0, 0)), (V.fb, .map V.es V.c), (V.nb, .map V.es' V.c')] w)) (5) ?_ ?_
      · exact ⟨0, _, V, ts, hs, _, by omega, rfl, hok, n01, n23, hVS, hap, hS.live ⟨rfl, rfl, rfl, rfl, rfl, rfl, rfl, rfl, rfl, rfl, trivial⟩, .inl ⟨hi0, rfl, rfl, hH⟩⟩
      clear hS hH; intro m a w hI; obtain ⟨j, jj, V, ts, hs, sl, hmj, hjj, hok, n01, n23, hVS, hap, hS, hI⟩ := hI
      obtain ⟨m1, hm1⟩ : ∃ x, x = m := ⟨_, rfl⟩
      rcases hI with ⟨hi0, hj0, rfl, hH⟩ | ⟨ob, cap, l, rfl, hob, hol, hcap, htk, hH⟩
      · have hlj : jj < 5 := by omega
        obtain ⟨lb, hlb⟩ : ∃ lb, lbs5[j]? = some lb := ⟨_, List.getElem?_eq_getElem (by have : lbs5.length = 5 := rfl; omega)⟩
        have hlbs := lbs5_small lb (List.mem_of_getElem? hlb)
        refine c_seq ?_
        refine reg_plain w0 (Nobody) ?_
        refine r_lss hS hH.kp0 rfl rfl rfl ?_; clear hS; intro a hS
        refine Sq.nil ?_
        refine then_n ?_
        refine c_seq ?_
        refine c_condT hS rfl (DT (by omega)) ?_
        refine wp_skip ?_
        refine then_n ?_
        refine c_seq ?_
        refine wp_block ?_
        refine c_seq ?_
        refine reg_plain w0 (Nobody) ?_
        refine r_indexAddrS (j := j) hS hH.kp0 rfl rfl Fc.slb33 hjj (by omega) rfl ?_; clear hS; intro a hS
        refine r_load_sc hS hH (by repeat (first | exact Sub.nil | refine Sub.cons ?_ ?_ | exact In.here | refine In.there ?_)) rfl (by repeat (first | exact In.here | refine In.there ?_)) Fc.sc9 (v := .string lb) (by rw [nthV_eq, Nat.zero_add, Nat.mul_one, List.getElem?_map, hlb]; rfl) rfl ?_; clear hS; intro a hS
        refine r_assign hS hH.kp0 rfl rfl ?_; clear hS; intro a hS
        refine Sq.nil ?_
        refine then_n ?_
        refine c_seq ?_
        refine reg_plain w0 (Nobody) ?_
        refine r_move hS hH.kp0 rfl rfl ?_; clear hS; intro a hS
        refine r_load_row hS hH (by repeat (first | exact Sub.nil | refine Sub.cons ?_ ?_ | exact In.here | refine In.there ?_)) rfl (by repeat (first | exact In.here | refine In.there ?_)) Fc.ag26 (by rfl) rfl ?_; clear hS; intro a hS
        refine r_move hS hH.kp0 rfl rfl ?_; clear hS; intro a hS
        refine r_load_row hS hH (by repeat (first | exact Sub.nil | refine Sub.cons ?_ ?_ | exact In.here | refine In.there ?_)) rfl (by repeat (first | exact In.here | refine In.there ?_)) Fc.ag26 (by rfl) rfl ?_; clear hS; intro a hS
        refine r_call (l := [.tmp 105, .tmp 106, .tmp 107, .tmp 108]) hS rfl rfl Fc.fn15 rfl ?_
        refine Calls.mono (Traffic_v b V ts (by have := hap.bound; omega) [k0, k1, k2, k3, k4, k5, k6, k7, k8, k9, ka, kb, kc, kd, ke, kf] [g0, g1, g2, g3, g4, g5, g6, g7, g8, g9, ga, gb, gc, gd, ge, gf] rfl rfl lb hlbs _ (hH.vin hok n01 n23 (by repeat (first | exact In.here | refine In.there ?_)) (by repeat (first | exact In.here | refine In.there ?_)) (by repeat (first | exact In.here | refine In.there ?_)) (by repeat (first | exact In.here | refine In.there ?_)))) ?_
        rintro e w1 ⟨t, x_, V1, ts1, rfl, hvi1, hst, hof⟩
        rw [hkn5] at hof
        obtain ⟨rfl, ht16, hne, hap1⟩ := hap.next (by rw [show (5 * i + j) % 5 = j by omega]; exact hlb) (by rw [show (5 * i + j) / 5 = i by omega]; exact hg) lbs5_nodup nS (by omega) hof
        clear hof
        obtain ⟨t0, t1, t2, t3, t4, t5, t6, t7, t8, t9, ta, tb, tc, td, te, tf, rfl⟩ := len16 ht16
        have hVS1 := hVS.step hst hH.mod.size
        replace hH := hH.vault hVS hst hvi1 (by first | exact .here | exact .there .here | exact .there (.there .here) | exact .there (.there (.there .here)) | exact .there (.there (.there (.there .here))) | exact .there (.there (.there (.there (.there .here)))) | exact .there (.there (.there (.there (.there (.there .here))))) | exact .there (.there (.there (.there (.there (.there (.there .here)))))) | exact .there (.there (.there (.there (.there (.there (.there (.there .here))))))) | exact .there (.there (.there (.there (.there (.there (.there (.there (.there .here)))))))) | exact .there (.there (.there (.there (.there (.there (.there (.there (.there (.there .here))))))))) | exact .there (.there (.there (.there (.there (.there (.there (.there (.there (.there (.there .here)))))))))) | exact .there (.there (.there (.there (.there (.there (.there (.there (.there (.there (.there (.there .here))))))))))) | exact .there (.there (.there (.there (.there (.there (.there (.there (.there (.there (.there (.there (.there .here)))))))))))) | exact .there (.there (.there (.there (.there (.there (.there (.there (.there (.there (.there (.there (.there (.there .here))))))))))))) | exact .there (.there (.there (.there (.there (.there (.there (.there (.there (.there (.there (.there (.there (.there (.there .here)))))))))))))))
        have hok1 := hvi1.ok
        have n011 := hvi1.n01
        have n231 := hvi1.n23
        clear hst
        refine ⟨_, rfl, hH.kp0, ?_⟩
        clear hS; intro a hS
        refine r_move hS hH.kp0 rfl rfl ?_; clear hS; intro a hS
        refine r_extract hS hH.kp0 rfl rfl rfl ?_; clear hS; intro a hS
        refine r_extract hS hH.kp0 rfl rfl rfl ?_; clear hS; intro a hS
        refine r_alloc hS hH (by repeat (first | exact Sub.nil | refine Sub.cons ?_ ?_ | exact In.here | refine In.there ?_)) Fc.zc26 rfl ?_
        clear hS hH; intro a w b20 hb20 hwb20 hS hH
        refine r_store_row hS hH rfl rfl (by first | exact .here | exact .there .here | exact .there (.there .here) | exact .there (.there (.there .here)) | exact .there (.there (.there (.there .here))) | exact .there (.there (.there (.there (.there .here)))) | exact .there (.there (.there (.there (.there (.there .here))))) | exact .there (.there (.there (.there (.there (.there (.there .here)))))) | exact .there (.there (.there (.there (.there (.there (.there (.there .here))))))) | exact .there (.there (.there (.there (.there (.there (.there (.there (.there .here)))))))) | exact .there (.there (.there (.there (.there (.there (.there (.there (.there (.there .here))))))))) | exact .there (.there (.there (.there (.there (.there (.there (.there (.there (.there (.there .here)))))))))) | exact .there (.there (.there (.there (.there (.there (.there (.there (.there (.there (.there (.there .here))))))))))) | exact .there (.there (.there (.there (.there (.there (.there (.there (.there (.there (.there (.there (.there .here)))))))))))) | exact .there (.there (.there (.there (.there (.there (.there (.there (.there (.there (.there (.there (.there (.there .here))))))))))))) | exact .there (.there (.there (.there (.there (.there (.there (.there (.there (.there (.there (.there (.there (.there (.there .here))))))))))))))) (by repeat (first | exact Sub.nil | refine Sub.cons ?_ ?_ | exact In.here | refine In.there ?_)) Fc.sz26 (by first | exact hcells_one _ | exact of_decide_eq_true rfl) (by rfl) (by first | exact .inr (by assumption) | exact .inl (by first | assumption | rfl)) ?_
        clear hH; intro w hH
        refine r_assign hS hH.kp0 rfl rfl ?_; clear hS; intro a hS
        refine Sq.nil ?_
        refine then_n ?_
        refine c_seq ?_
        refine c_seq ?_
        refine reg_plain w0 (Nobody) ?_
        refine r_assign hS hH.kp0 rfl rfl ?_; clear hS; intro a hS
        refine Sq.nil ?_
        refine then_n ?_
        refine wp_block ?_
        refine c_loop (fun m a w => ∃ (r : Nat) (rr : Int), m + r = 0 ∧ rr = r ∧ St 132 (lv [(5, .pointer (some ⟨b, 0, none⟩)), (14, .pointer (some ⟨b14, 0, none⟩)), (15, .slice none 0 0), (92, .slice (some ⟨b92, 0, none⟩) 3 3), (93, .int .i64 3), (94, .int .i64 ii), (17, .pointer (some ⟨b17, 0, none⟩)), (98, .slice (some ⟨b98, 0, none⟩) 5 5), (99, .int .i64 5), (100, .int .i64 jj), (20, .pointer (some ⟨b20, 0, none⟩)), (21, .int .i64 0), (22, .int .i64 rr)]) a ∧ Hp w0 Nobody [(b20, .cells (hcells [t0, t1, t2, t3, t4, t5, t6, t7, t8, t9, ta, tb, tc, td, te, tf]).toArray 26 (0, 0)), (b98, .cells (lbs5.map Value.string).toArray 9 (0, 0)), (b17, .cells (hcells [g0, g1, g2, g3, g4, g5, g6, g7, g8, g9, ga, gb, gc, gd, ge, gf]).toArray 26 (0, 0)), (b92, .cells (List.flatMap hcells Ss).toArray 26 (0, 0)), (b14, .cells (hcells [k0, k1, k2, k3, k4, k5, k6, k7, k8, k9, ka, kb, kc, kd, ke, kf]).toArray 26 (0, 0)), (b, .cells (V1.top ts1.length).toArray 71 (0, 0)), (V1.sb, .cells V1.l.toArray 93 (0, 0)), (V1.fb, .map V1.es V1.c), (V1.nb, .map V1.es' V1.c')] w) (0) ?_ ?_
        · exact ⟨0, _, by omega, rfl, hS.live ⟨rfl, rfl, rfl, rfl, rfl, rfl, rfl, rfl, rfl, rfl, rfl, rfl, rfl, trivial⟩, hH⟩
        clear hS hH; intro m a w hI; obtain ⟨r, rr, hmr, hrr, hS, hH⟩ := hI
        refine c_seq ?_
        refine c_seq ?_
        refine reg_plain w0 (Nobody) ?_
        refine r_move hS hH.kp0 rfl rfl ?_; clear hS; intro a hS
        refine r_move hS hH.kp0 rfl rfl ?_; clear hS; intro a hS
        refine r_lenSl hS hH.kp0 rfl Fc.isSlice32 rfl ?_; clear hS; intro a hS
        refine r_lss hS hH.kp0 rfl rfl rfl ?_; clear hS; intro a hS
        refine Sq.nil ?_
        refine then_n ?_
        refine c_condF hS rfl (DF (by omega)) ?_
        refine wp_exit ?_
        refine then_e ?_
        refine then_e ?_
        refine blk_hit ?_
        refine then_n ?_
        refine c_seq ?_
        refine c_seq ?_
        refine reg_plain w0 (Nobody) ?_
        refine r_move hS hH.kp0 rfl rfl ?_; clear hS; intro a hS
        refine r_neq hS hH.kp0 rfl rfl rfl ?_; clear hS; intro a hS
        refine Sq.nil ?_
        refine then_n ?_
        refine c_condF hS rfl rfl ?_
        refine wp_skip ?_
        refine then_n ?_
        refine reg_plain w0 (Nobody) ?_
        refine r_move hS hH.kp0 rfl rfl ?_; clear hS; intro a hS
        refine r_load_row hS hH (by repeat (first | exact Sub.nil | refine Sub.cons ?_ ?_ | exact In.here | refine In.there ?_)) rfl (by repeat (first | exact In.here | refine In.there ?_)) Fc.ag26 (by rfl) rfl ?_; clear hS; intro a hS
        refine r_buildSlice (parts := [(0, .tmp 127)]) hS hH (by repeat (first | exact Sub.nil | refine Sub.cons ?_ ?_ | exact In.here | refine In.there ?_)) rfl Fc.bsl32_1 (by rfl) rfl ?_
        clear hS hH; intro a w b128 hb128 hwb128 hS hH
        refine r_append_nil hS hH (by repeat (first | exact Sub.nil | refine Sub.cons ?_ ?_ | exact In.here | refine In.there ?_)) rfl rfl Fc.elH Fc.niH (Src.hnd (h := [t0, t1, t2, t3, t4, t5, t6, t7, t8, t9, ta, tb, tc, td, te, tf]) (hH.get .here) rfl) (by decide) (by decide) rfl ?_
        clear hS hH; intro a w ob' cap' l2 hob' _ hl2 hc2 htk2 _ hS hH
        refine r_assign hS hH.kp0 rfl rfl ?_; clear hS; intro a hS
        refine Sq.nil ?_
        refine blk_n ?_
        refine then_n ?_
        refine reg_plain w0 (Nobody) ?_
        first | refine r_add hS hH.kp0 rfl rfl rfl (by omega) ?_ | refine r_addw hS hH.kp0 rfl rfl rfl ?_
        clear hS; intro a hS
        refine r_move hS hH.kp0 rfl rfl ?_; clear hS; intro a hS
        refine Sq.nil ?_
        refine then_n ?_
        have hs0 : hs = [] := List.eq_nil_of_length_eq_zero (by have := hap.len; omega)
        refine ⟨m1 - 1, by omega, j + 1, _, V1, ts1, hs ++ [[t0, t1, t2, t3, t4, t5, t6, t7, t8, t9, ta, tb, tc, td, te, tf]], _, by omega, ?_, hok1, n011, n231, hVS1, hap1, hS.live ⟨rfl, rfl, rfl, rfl, rfl, rfl, rfl, rfl, rfl, rfl, trivial⟩, .inr ⟨ob', cap', l2, ?_, hob', hl2, ?_, ?_, hH.drop [1, 2]⟩⟩
        · omega
        · rw [hs0]; rfl
        · rw [hs0]; simpa using hc2
        · rw [hs0]; simpa using htk2
      · refine c_seq ?_
        refine reg_plain w0 (Nobody) ?_
        refine r_lss hS hH.kp0 rfl rfl rfl ?_; clear hS; intro a hS
        refine Sq.nil ?_
        refine then_n ?_
        refine c_seq ?_
        refine c_cond hS rfl (fun hc3 => ?_) (fun hc3 => ?_)
        · have hlj := of_decide_eq_true hc3
          obtain ⟨lb, hlb⟩ : ∃ lb, lbs5[j]? = some lb := ⟨_, List.getElem?_eq_getElem (by have : lbs5.length = 5 := rfl; omega)⟩
          have hlbs := lbs5_small lb (List.mem_of_getElem? hlb)
          refine wp_skip ?_
          refine then_n ?_
          refine c_seq ?_
          refine wp_block ?_
          refine c_seq ?_
          refine reg_plain w0 (Nobody) ?_
          refine r_indexAddrS (j := j) hS hH.kp0 rfl rfl Fc.slb33 hjj (by omega) rfl ?_; clear hS; intro a hS
          refine r_load_sc hS hH (by repeat (first | exact Sub.nil | refine Sub.cons ?_ ?_ | exact In.here | refine In.there ?_)) rfl (by repeat (first | exact In.here | refine In.there ?_)) Fc.sc9 (v := .string lb) (by rw [nthV_eq, Nat.zero_add, Nat.mul_one, List.getElem?_map, hlb]; rfl) rfl ?_; clear hS; intro a hS
          refine r_assign hS hH.kp0 rfl rfl ?_; clear hS; intro a hS
          refine Sq.nil ?_
          refine then_n ?_
          refine c_seq ?_
          refine reg_plain w0 (Nobody) ?_
          refine r_move hS hH.kp0 rfl rfl ?_; clear hS; intro a hS
          refine r_load_row hS hH (by repeat (first | exact Sub.nil | refine Sub.cons ?_ ?_ | exact In.here | refine In.there ?_)) rfl (by repeat (first | exact In.here | refine In.there ?_)) Fc.ag26 (by rfl) rfl ?_; clear hS; intro a hS
          refine r_move hS hH.kp0 rfl rfl ?_; clear hS; intro a hS
          refine r_load_row hS hH (by repeat (first | exact Sub.nil | refine Sub.cons ?_ ?_ | exact In.here | refine In.there ?_)) rfl (by repeat (first | exact In.here | refine In.there ?_)) Fc.ag26 (by rfl) rfl ?_; clear hS; intro a hS
          refine r_call (l := [.tmp 105, .tmp 106, .tmp 107, .tmp 108]) hS rfl rfl Fc.fn15 rfl ?_
          refine Calls.mono (Traffic_v b V ts (by have := hap.bound; omega) [k0, k1, k2, k3, k4, k5, k6, k7, k8, k9, ka, kb, kc, kd, ke, kf] [g0, g1, g2, g3, g4, g5, g6, g7, g8, g9, ga, gb, gc, gd, ge, gf] rfl rfl lb hlbs _ (hH.vin hok n01 n23 (by repeat (first | exact In.here | refine In.there ?_)) (by repeat (first | exact In.here | refine In.there ?_)) (by repeat (first | exact In.here | refine In.there ?_)) (by repeat (first | exact In.here | refine In.there ?_)))) ?_
          rintro e w1 ⟨t, x_, V1, ts1, rfl, hvi1, hst, hof⟩
          rw [hkn5] at hof
          obtain ⟨rfl, ht16, hne, hap1⟩ := hap.next (by rw [show (5 * i + j) % 5 = j by omega]; exact hlb) (by rw [show (5 * i + j) / 5 = i by omega]; exact hg) lbs5_nodup nS (by omega) hof
          clear hof
          obtain ⟨t0, t1, t2, t3, t4, t5, t6, t7, t8, t9, ta, tb, tc, td, te, tf, rfl⟩ := len16 ht16
          have hVS1 := hVS.step hst hH.mod.size
          replace hH := hH.vault hVS hst hvi1 (by first | exact .here | exact .there .here | exact .there (.there .here) | exact .there (.there (.there .here)) | exact .there (.there (.there (.there .here))) | exact .there (.there (.there (.there (.there .here)))) | exact .there (.there (.there (.there (.there (.there .here))))) | exact .there (.there (.there (.there (.there (.there (.there .here)))))) | exact .there (.there (.there (.there (.there (.there (.there (.there .here))))))) | exact .there (.there (.there (.there (.there (.there (.there (.there (.there .here)))))))) | exact .there (.there (.there (.there (.there (.there (.there (.there (.there (.there .here))))))))) | exact .there (.there (.there (.there (.there (.there (.there (.there (.there (.there (.there .here)))))))))) | exact .there (.there (.there (.there (.there (.there (.there (.there (.there (.there (.there (.there .here))))))))))) | exact .there (.there (.there (.there (.there (.there (.there (.there (.there (.there (.there (.there (.there .here)))))))))))) | exact .there (.there (.there (.there (.there (.there (.there (.there (.there (.there (.there (.there (.there (.there .here))))))))))))) | exact .there (.there (.there (.there (.there (.there (.there (.there (.there (.there (.there (.there (.there (.there (.there .here)))))))))))))))
          have hok1 := hvi1.ok
          have n011 := hvi1.n01
          have n231 := hvi1.n23
          clear hst
          refine ⟨_, rfl, hH.kp0, ?_⟩
          clear hS; intro a hS
          refine r_move hS hH.kp0 rfl rfl ?_; clear hS; intro a hS
          refine r_extract hS hH.kp0 rfl rfl rfl ?_; clear hS; intro a hS
          refine r_extract hS hH.kp0 rfl rfl rfl ?_; clear hS; intro a hS
          refine r_alloc hS hH (by repeat (first | exact Sub.nil | refine Sub.cons ?_ ?_ | exact In.here | refine In.there ?_)) Fc.zc26 rfl ?_
          clear hS hH; intro a w b20 hb20 hwb20 hS hH
          refine r_store_row hS hH rfl rfl (by first | exact .here | exact .there .here | exact .there (.there .here) | exact .there (.there (.there .here)) | exact .there (.there (.there (.there .here))) | exact .there (.there (.there (.there (.there .here)))) | exact .there (.there (.there (.there (.there (.there .here))))) | exact .there (.there (.there (.there (.there (.there (.there .here)))))) | exact .there (.there (.there (.there (.there (.there (.there (.there .here))))))) | exact .there (.there (.there (.there (.there (.there (.there (.there (.there .here)))))))) | exact .there (.there (.there (.there (.there (.there (.there (.there (.there (.there .here))))))))) | exact .there (.there (.there (.there (.there (.there (.there (.there (.there (.there (.there .here)))))))))) | exact .there (.there (.there (.there (.there (.there (.there (.there (.there (.there (.there (.there .here))))))))))) | exact .there (.there (.there (.there (.there (.there (.there (.there (.there (.there (.there (.there (.there .here)))))))))))) | exact .there (.there (.there (.there (.there (.there (.there (.there (.there (.there (.there (.there (.there (.there .here))))))))))))) | exact .there (.there (.there (.there (.there (.there (.there (.there (.there (.there (.there (.there (.there (.there (.there .here))))))))))))))) (by repeat (first | exact Sub.nil | refine Sub.cons ?_ ?_ | exact In.here | refine In.there ?_)) Fc.sz26 (by first | exact hcells_one _ | exact of_decide_eq_true rfl) (by rfl) (by first | exact .inr (by assumption) | exact .inl (by first | assumption | rfl)) ?_
          clear hH; intro w hH
          refine r_assign hS hH.kp0 rfl rfl ?_; clear hS; intro a hS
          refine Sq.nil ?_
          refine then_n ?_
          refine c_seq ?_
          refine c_seq ?_
          refine reg_plain w0 (Nobody) ?_
          refine r_assign hS hH.kp0 rfl rfl ?_; clear hS; intro a hS
          refine Sq.nil ?_
          refine then_n ?_
          refine wp_block ?_
          refine c_loop (fun m a w => ∃ (r : Nat) (rr : Int), m + r = hs.length ∧ rr = r ∧ St 132 (lv [(5, .pointer (some ⟨b, 0, none⟩)), (14, .pointer (some ⟨b14, 0, none⟩)), (15, .slice (some ⟨ob, 0, none⟩) hs.length cap), (92, .slice (some ⟨b92, 0, none⟩) 3 3), (93, .int .i64 3), (94, .int .i64 ii), (17, .pointer (some ⟨b17, 0, none⟩)), (98, .slice (some ⟨b98, 0, none⟩) 5 5), (99, .int .i64 5), (100, .int .i64 jj), (20, .pointer (some ⟨b20, 0, none⟩)), (21, .int .i64 0), (22, .int .i64 rr)]) a ∧ Hp w0 Nobody [(b20, .cells (hcells [t0, t1, t2, t3, t4, t5, t6, t7, t8, t9, ta, tb, tc, td, te, tf]).toArray 26 (0, 0)), (ob, .cells l.toArray 26 (0, 0)), (b98, .cells (lbs5.map Value.string).toArray 9 (0, 0)), (b17, .cells (hcells [g0, g1, g2, g3, g4, g5, g6, g7, g8, g9, ga, gb, gc, gd, ge, gf]).toArray 26 (0, 0)), (b92, .cells (List.flatMap hcells Ss).toArray 26 (0, 0)), (b14, .cells (hcells [k0, k1, k2, k3, k4, k5, k6, k7, k8, k9, ka, kb, kc, kd, ke, kf]).toArray 26 (0, 0)), (b, .cells (V1.top ts1.length).toArray 71 (0, 0)), (V1.sb, .cells V1.l.toArray 93 (0, 0)), (V1.fb, .map V1.es V1.c), (V1.nb, .map V1.es' V1.c')] w) (hs.length) ?_ ?_
          · exact ⟨0, _, by omega, rfl, hS.live ⟨rfl, rfl, rfl, rfl, rfl, rfl, rfl, rfl, rfl, rfl, rfl, rfl, rfl, trivial⟩, hH⟩
          clear hS hH; intro m a w hI; obtain ⟨r, rr, hmr, hrr, hS, hH⟩ := hI
          refine c_seq ?_
          refine c_seq ?_
          refine reg_plain w0 (Nobody) ?_
          refine r_move hS hH.kp0 rfl rfl ?_; clear hS; intro a hS
          refine r_move hS hH.kp0 rfl rfl ?_; clear hS; intro a hS
          refine r_lenSl hS hH.kp0 rfl Fc.isSlice32 rfl ?_; clear hS; intro a hS
          refine r_lss hS hH.kp0 rfl rfl rfl ?_; clear hS; intro a hS
          refine Sq.nil ?_
          refine then_n ?_
          refine c_cond hS rfl (fun hc4 => ?_) (fun hc4 => ?_)
          · have hrl := of_decide_eq_true hc4
            have hhl := hap.len
            obtain ⟨u, hu⟩ : ∃ u, hs[r]? = some u := ⟨_, List.getElem?_eq_getElem (by omega)⟩
            have hu16 := hap.h16 u (List.mem_of_getElem? hu)
            have hrow2 := rd_row hap.h16 htk hu
            have hut := hne r u hu
            refine wp_skip ?_
            refine then_n ?_
            refine c_seq ?_
            refine wp_block ?_
            refine c_seq ?_
            refine reg_draw [(true, 0, []), (true, 1, []), (true, 2, []), (true, 3, []), (true, 4, []), (true, 5, [])] Fc.mixed (by kernel_rfl) (by kernel_rfl) (by kernel_rfl) (by kernel_rfl) (by kernel_rfl) (by repeat (first | with_reducible exact steady_body | with_reducible apply steady_block | with_reducible apply steady_then | exact steady_body)) hH ?_
            replace hH := hH.drew
            refine r_move hS trivial rfl rfl ?_; clear hS; intro a hS
            refine r_move hS trivial rfl rfl ?_; clear hS; intro a hS
            refine r_indexAddrS (j := r) hS trivial rfl rfl Fc.slb32 hrr (by omega) rfl ?_; clear hS; intro a hS
            refine r_load_atS (vs := hcells u) hS rfl (by repeat (first | exact In.here | refine In.there ?_)) Fc.ag26 (by rw [Nat.zero_add]; exact hrow2.2) (by rw [Nat.zero_add]; exact hrow2.1) rfl ?_; clear hS; intro a hS
            refine r_load_rowS hS rfl (by repeat (first | exact In.here | refine In.there ?_)) Fc.ag26 (by rfl) rfl ?_; clear hS; intro a hS
            refine r_arrEql (h := u) (g := [t0, t1, t2, t3, t4, t5, t6, t7, t8, t9, ta, tb, tc, td, te, tf]) Fc.arrH hS trivial rfl rfl hu16 rfl rfl ?_; clear hS; intro a hS
            refine Sq.nil ?_
            refine then_n ?_
            refine c_condF hS rfl (DF hut) ?_
            refine wp_skip ?_
            refine blk_n ?_
            refine then_n ?_
            refine reg_plain w0 (Nobody) ?_
            refine r_move hS hH.kp0 rfl rfl ?_; clear hS; intro a hS
            first | refine r_add hS hH.kp0 rfl rfl rfl (by omega) ?_ | refine r_addw hS hH.kp0 rfl rfl rfl ?_
            clear hS; intro a hS
            refine r_assign hS hH.kp0 rfl rfl ?_; clear hS; intro a hS
            refine Sq.nil ?_
            refine then_n ?_
            refine ⟨m - 1, by omega, r + 1, _, by omega, ?_, hS.live ⟨rfl, rfl, rfl, rfl, rfl, rfl, rfl, rfl, rfl, rfl, rfl, rfl, rfl, trivial⟩, hH⟩
            omega
          · refine wp_exit ?_
            refine then_e ?_
            refine then_e ?_
            refine blk_hit ?_
            refine then_n ?_
            refine c_seq ?_
            refine c_seq ?_
            refine reg_plain w0 (Nobody) ?_
            refine r_move hS hH.kp0 rfl rfl ?_; clear hS; intro a hS
            refine r_neq hS hH.kp0 rfl rfl rfl ?_; clear hS; intro a hS
            refine Sq.nil ?_
            refine then_n ?_
            refine c_condF hS rfl rfl ?_
            refine wp_skip ?_
            refine then_n ?_
            refine reg_plain w0 (Nobody) ?_
            refine r_move hS hH.kp0 rfl rfl ?_; clear hS; intro a hS
            refine r_load_row hS hH (by repeat (first | exact Sub.nil | refine Sub.cons ?_ ?_ | exact In.here | refine In.there ?_)) rfl (by repeat (first | exact In.here | refine In.there ?_)) Fc.ag26 (by rfl) rfl ?_; clear hS; intro a hS
            refine r_buildSlice (parts := [(0, .tmp 127)]) hS hH (by repeat (first | exact Sub.nil | refine Sub.cons ?_ ?_ | exact In.here | refine In.there ?_)) rfl Fc.bsl32_1 (by rfl) rfl ?_
            clear hS hH; intro a w b128 hb128 hwb128 hS hH
            refine r_append_own hS hH rfl rfl (by first | exact .here | exact .there .here | exact .there (.there .here) | exact .there (.there (.there .here)) | exact .there (.there (.there (.there .here))) | exact .there (.there (.there (.there (.there .here)))) | exact .there (.there (.there (.there (.there (.there .here))))) | exact .there (.there (.there (.there (.there (.there (.there .here)))))) | exact .there (.there (.there (.there (.there (.there (.there (.there .here))))))) | exact .there (.there (.there (.there (.there (.there (.there (.there (.there .here)))))))) | exact .there (.there (.there (.there (.there (.there (.there (.there (.there (.there .here))))))))) | exact .there (.there (.there (.there (.there (.there (.there (.there (.there (.there (.there .here)))))))))) | exact .there (.there (.there (.there (.there (.there (.there (.there (.there (.there (.there (.there .here))))))))))) | exact .there (.there (.there (.there (.there (.there (.there (.there (.there (.there (.there (.there (.there .here)))))))))))) | exact .there (.there (.there (.there (.there (.there (.there (.there (.there (.there (.there (.there (.there (.there .here))))))))))))) | exact .there (.there (.there (.there (.there (.there (.there (.there (.there (.there (.there (.there (.there (.there (.there .here))))))))))))))) (by repeat (first | exact Sub.nil | refine Sub.cons ?_ ?_ | exact In.here | refine In.there ?_)) Fc.elH Fc.niH hol hcap (Src.hnd (h := [t0, t1, t2, t3, t4, t5, t6, t7, t8, t9, ta, tb, tc, td, te, tf]) (hH.get .here) rfl) (by have := hap.len; omega) (.inr hob) rfl ?_
            clear hS hH; intro a w ob' cap' l2 hob' hl2 hc2 htk2 _ hS hH
            refine r_assign hS hH.kp0 rfl rfl ?_; clear hS; intro a hS
            refine Sq.nil ?_
            refine blk_n ?_
            refine then_n ?_
            refine reg_plain w0 (Nobody) ?_
            first | refine r_add hS hH.kp0 rfl rfl rfl (by omega) ?_ | refine r_addw hS hH.kp0 rfl rfl rfl ?_
            clear hS; intro a hS
            refine r_move hS hH.kp0 rfl rfl ?_; clear hS; intro a hS
            refine Sq.nil ?_
            refine then_n ?_
            refine ⟨m1 - 1, by omega, j + 1, _, V1, ts1, hs ++ [[t0, t1, t2, t3, t4, t5, t6, t7, t8, t9, ta, tb, tc, td, te, tf]], _, by omega, ?_, hok1, n011, n231, hVS1, hap1, hS.live ⟨rfl, rfl, rfl, rfl, rfl, rfl, rfl, rfl, rfl, rfl, trivial⟩, .inr ⟨ob', cap', l2, ?_, ?_, hl2, ?_, ?_, hH.drop [1, 2]⟩⟩
            · omega
            · simp
            · rcases hob' with h | h; exact False.elim h; exact h
            · simpa using hc2
            · rw [List.length_append, List.length_singleton, htk2, htk]; simp
        · have hge := of_decide_eq_false hc3
          refine wp_exit ?_
          refine then_e ?_
          refine then_e ?_
          refine blk_hit ?_
          refine blk_n ?_
          refine then_n ?_
          refine reg_plain w0 (Nobody) ?_
          first | refine r_add hS hH.kp0 rfl rfl rfl (by omega) ?_ | refine r_addw hS hH.kp0 rfl rfl rfl ?_
          clear hS; intro a hS
          refine r_move hS hH.kp0 rfl rfl ?_; clear hS; intro a hS
          refine Sq.nil ?_
          refine then_n ?_
          refine ⟨m0 - 1, by omega, i + 1, _, V, ts, hs, _, by omega, ?_, hok, n01, n23, hVS, ?_, hS.live ⟨rfl, rfl, rfl, rfl, rfl, rfl, trivial⟩, .inr ⟨ob, cap, l, rfl, hob, hol, hcap, htk, hH.drop [1, 2]⟩⟩
          · omega
          · have e5 : 5 * (i + 1) = 5 * i + j := by omega
            rw [e5]; exact hap
    · refine wp_exit ?_
      refine then_e ?_
      refine then_e ?_
      refine blk_hit ?_
      refine then_n ?_
      refine c_seq ?_
      refine reg_plain w0 (Nobody) ?_
      refine r_assign hS hH.kp0 rfl rfl ?_; clear hS; intro a hS
      refine Sq.nil ?_
      refine then_n ?_
      refine wp_ret ?_
      exact leave (.inl rfl) hS rfl (Res.tmp rfl Res.nil) ⟨rfl, hH.mod⟩
  · refine c_seq ?_
    refine reg_plain w0 (Nobody) ?_
    refine r_lss hS hH.kp0 rfl rfl rfl ?_; clear hS; intro a hS
    refine Sq.nil ?_
    refine then_n ?_
    refine c_seq ?_
    refine c_cond hS rfl (fun hc2 => ?_) (fun hc2 => ?_)
    · have hlt := of_decide_eq_true hc2
      obtain ⟨g, hg⟩ : ∃ g, Ss[i]? = some g := ⟨_, List.getElem?_eq_getElem (by omega)⟩
      have hg16 := hS16 g (List.mem_of_getElem? hg)
      have hrow := rd_row (l := List.flatMap hcells Ss) hS16 (List.take_of_length_le (by rw [flat16 Ss hS16]; omega)) hg
      obtain ⟨g0, g1, g2, g3, g4, g5, g6, g7, g8, g9, ga, gb, gc, gd, ge, gf, rfl⟩ := len16 hg16
      refine wp_skip ?_
      refine then_n ?_
      refine c_seq ?_
      refine wp_block ?_
      refine c_seq ?_
      refine reg_plain w0 (Nobody) ?_
      refine r_indexAddrS (j := i) hS hH.kp0 rfl rfl Fc.slb32 hii (by omega) rfl ?_; clear hS; intro a hS
      refine r_load_at (vs := hcells [g0, g1, g2, g3, g4, g5, g6, g7, g8, g9, ga, gb, gc, gd, ge, gf]) hS hH (by repeat (first | exact Sub.nil | refine Sub.cons ?_ ?_ | exact In.here | refine In.there ?_)) rfl (by repeat (first | exact In.here | refine In.there ?_)) Fc.ag26 (by rw [Nat.zero_add]; exact hrow.2) (by rw [Nat.zero_add]; exact hrow.1) rfl ?_; clear hS; intro a hS
      refine r_alloc hS hH (by repeat (first | exact Sub.nil | refine Sub.cons ?_ ?_ | exact In.here | refine In.there ?_)) Fc.zc26 rfl ?_
      clear hS hH; intro a w b17 hb17 hwb17 hS hH
      refine r_store_row hS hH rfl rfl (by first | exact .here | exact .there .here | exact .there (.there .here) | exact .there (.there (.there .here)) | exact .there (.there (.there (.there .here))) | exact .there (.there (.there (.there (.there .here)))) | exact .there (.there (.there (.there (.there (.there .here))))) | exact .there (.there (.there (.there (.there (.there (.there .here)))))) | exact .there (.there (.there (.there (.there (.there (.there (.there .here))))))) | exact .there (.there (.there (.there (.there (.there (.there (.there (.there .here)))))))) | exact .there (.there (.there (.there (.there (.there (.there (.there (.there (.there .here))))))))) | exact .there (.there (.there (.there (.there (.there (.there (.there (.there (.there (.there .here)))))))))) | exact .there (.there (.there (.there (.there (.there (.there (.there (.there (.there (.there (.there .here))))))))))) | exact .there (.there (.there (.there (.there (.there (.there (.there (.there (.there (.there (.there (.there .here)))))))))))) | exact .there (.there (.there (.there (.there (.there (.there (.there (.there (.there (.there (.there (.there (.there .here))))))))))))) | exact .there (.there (.there (.there (.there (.there (.there (.there (.there (.there (.there (.there (.there (.there (.there .here))))))))))))))) (by repeat (first | exact Sub.nil | refine Sub.cons ?_ ?_ | exact In.here | refine In.there ?_)) Fc.sz26 (by first | exact hcells_one _ | exact of_decide_eq_true rfl) (by rfl) (by first | exact .inr (by assumption) | exact .inl (by first | assumption | rfl)) ?_
      clear hH; intro w hH
      refine Sq.nil ?_
      refine then_n ?_
      refine c_seq ?_
      refine reg_plain w0 (Nobody) ?_
      refine r_buildSlice (parts := [(0, .const (.string { data := #[101, 97, 114, 108, 121] })), (1, .const (.string { data := #[99, 108, 105, 101, 110, 116, 32, 104, 97, 110, 100] })), (2, .const (.string { data := #[115, 101, 114, 118, 101, 114, 32, 104, 97, 110, 100] })), (3, .const (.string { data := #[99, 108, 105, 101, 110, 116, 32, 100, 97, 116, 97] })), (4, .const (.string { data := #[115, 101, 114, 118, 101, 114, 32, 100, 97, 116, 97] }))]) hS hH (by repeat (first | exact Sub.nil | refine Sub.cons ?_ ?_ | exact In.here | refine In.there ?_)) rfl Fc.bsl33_5 (by rfl) rfl ?_
      clear hS hH; intro a w b98 hb98 hwb98 hS hH
      refine r_lenSl hS hH.kp0 rfl Fc.isSlice33 rfl ?_; clear hS; intro a hS
      refine r_move hS hH.kp0 rfl rfl ?_; clear hS; intro a hS
      refine Sq.nil ?_
      refine then_n ?_
      refine wp_block ?_
      refine c_loop (fun m a w => ∃ (j : Nat) (jj : Int) (V : VB) (ts : List Tm) (hs : List (List UInt8)) (sl : Value), m + j = 5 ∧ jj = j ∧ VOk Try.prog 93 26 V ts ∧ b ≠ V.sb ∧ V.fb ≠ V.nb ∧ VS Nobody w0 b V ∧ ApI ki lbs5 Ss ts hs (5 * i + j) ∧ St 132 (lv [(5, .pointer (some ⟨b, 0, none⟩)), (14, .pointer (some ⟨b14, 0, none⟩)), (15, sl), (92, .slice (some ⟨b92, 0, none⟩) 3 3), (93, .int .i64 3), (94, .int .i64 ii), (17, .pointer (some ⟨b17, 0, none⟩)), (98, .slice (some ⟨b98, 0, none⟩) 5 5), (99, .int .i64 5), (100, .int .i64 jj)]) a ∧ ((i = 0 ∧ j = 0 ∧ sl = .slice none 0 0 ∧ Hp w0 Nobody [(b98, .cells (lbs5.map Value.string).toArray 9 (0, 0)), (b17, .cells (hcells [g0, g1, g2, g3, g4, g5, g6, g7, g8, g9, ga, gb, gc, gd, ge, gf]).toArray 26 (0, 0)), (b92, .cells (List.flatMap hcells Ss).toArray 26 (0, 0)), (b14, .cells (hcells [k0, k1, k2, k3, k4, k5, k6, k7, k8, k9, ka, kb, kc, kd, ke, kf]).toArray 26 (0, 0)), (b, .cells (V.top ts.length).toArray 71 (0, 0)), (V.sb, .cells V.l.toArray 93 (0, 0)), (V.fb, .map V.es V.c), (V.nb, .map V.es' V.c')] w) ∨ ∃ (ob cap : Nat) (l : List Value), sl = .slice (some ⟨ob, 0, none⟩) hs.length cap ∧ w0.heap.size ≤ ob ∧ l.length = cap * 16 ∧ hs.length ≤ cap ∧ l.take (hs.length * 16) = hs.flatMap hcells ∧ Hp w0 Nobody [(ob, .cells l.toArray 26 (0, 0)), (b98, .cells (lbs5.map Value.string).toArray 9 (0, 0)), (b17, .cells (hcells [g0, g1, g2, g3, g4, g5, g6, g7, g8, g9, ga, gb, gc, gd, ge, gf]).toArray 26 (0, 0)), (b92, .cells (List.flatMap hcells Ss).toArray 26 (0, 0)), (b14, .cells (hcells [k0, k1, k2, k3, k4, k5, k6, k7, k8, k9, ka, kb, kc, kd, ke, kf]).toArray 26 (0, 0)), (b, .cells (V.top ts.length).toArray 71 (0, 0)), (V.sb, .cells V.l.toArray 93 (0, 0)), (V.fb, .map V.es V.c), (V.nb, .map V.es' V.c')] w)) (5) ?_ ?_
      · exact ⟨0, _, V, ts, hs, _, by omega, rfl, hok, n01, n23, hVS, hap, hS.live ⟨rfl, rfl, rfl, rfl, rfl, rfl, rfl, rfl, rfl, rfl, trivial⟩, .inr ⟨ob, cap, l, rfl, hob, hol, hcap, htk, hH.front (.there (.there .here))⟩⟩
      clear hS hH; intro m a w hI; obtain ⟨j, jj, V, ts, hs, sl, hmj, hjj, hok, n01, n23, hVS, hap, hS, hI⟩ := hI
      obtain ⟨m1, hm1⟩ : ∃ x, x = m := ⟨_, rfl⟩
      rcases hI with ⟨hi0, hj0, rfl, hH⟩ | ⟨ob, cap, l, rfl, hob, hol, hcap, htk, hH⟩
      · have hlj : jj < 5 := by omega
        obtain ⟨lb, hlb⟩ : ∃ lb, lbs5[j]? = some lb := ⟨_, List.getElem?_eq_getElem (by have : lbs5.length = 5 := rfl; omega)⟩
        have hlbs := lbs5_small lb (List.mem_of_getElem? hlb)
        refine c_seq ?_
        refine reg_plain w0 (Nobody) ?_
        refine r_lss hS hH.kp0 rfl rfl rfl ?_; clear hS; intro a hS
        refine Sq.nil ?_
        refine then_n ?_
        refine c_seq ?_
        refine c_condT hS rfl (DT (by omega)) ?_
        refine wp_skip ?_
        refine then_n ?_
        refine c_seq ?_
        refine wp_block ?_
        refine c_seq ?_
        refine reg_plain w0 (Nobody) ?_
        refine r_indexAddrS (j := j) hS hH.kp0 rfl rfl Fc.slb33 hjj (by omega) rfl ?_; clear hS; intro a hS
        refine r_load_sc hS hH (by repeat (first | exact Sub.nil | refine Sub.cons ?_ ?_ | exact In.here | refine In.there ?_)) rfl (by repeat (first | exact In.here | refine In.there ?_)) Fc.sc9 (v := .string lb) (by rw [nthV_eq, Nat.zero_add, Nat.mul_one, List.getElem?_map, hlb]; rfl) rfl ?_; clear hS; intro a hS
        refine r_assign hS hH.kp0 rfl rfl ?_; clear hS; intro a hS
        refine Sq.nil ?_
        refine then_n ?_
        refine c_seq ?_
        refine reg_plain w0 (Nobody) ?_
        refine r_move hS hH.kp0 rfl rfl ?_; clear hS; intro a hS
        refine r_load_row hS hH (by repeat (first | exact Sub.nil | refine Sub.cons ?_ ?_ | exact In.here | refine In.there ?_)) rfl (by repeat (first | exact In.here | refine In.there ?_)) Fc.ag26 (by rfl) rfl ?_; clear hS; intro a hS
        refine r_move hS hH.kp0 rfl rfl ?_; clear hS; intro a hS
        refine r_load_row hS hH (by repeat (first | exact Sub.nil | refine Sub.cons ?_ ?_ | exact In.here | refine In.there ?_)) rfl (by repeat (first | exact In.here | refine In.there ?_)) Fc.ag26 (by rfl) rfl ?_; clear hS; intro a hS
        refine r_call (l := [.tmp 105, .tmp 106, .tmp 107, .tmp 108]) hS rfl rfl Fc.fn15 rfl ?_
        refine Calls.mono (Traffic_v b V ts (by have := hap.bound; omega) [k0, k1, k2, k3, k4, k5, k6, k7, k8, k9, ka, kb, kc, kd, ke, kf] [g0, g1, g2, g3, g4, g5, g6, g7, g8, g9, ga, gb, gc, gd, ge, gf] rfl rfl lb hlbs _ (hH.vin hok n01 n23 (by repeat (first | exact In.here | refine In.there ?_)) (by repeat (first | exact In.here | refine In.there ?_)) (by repeat (first | exact In.here | refine In.there ?_)) (by repeat (first | exact In.here | refine In.there ?_)))) ?_
        rintro e w1 ⟨t, x_, V1, ts1, rfl, hvi1, hst, hof⟩
        rw [hkn5] at hof
        obtain ⟨rfl, ht16, hne, hap1⟩ := hap.next (by rw [show (5 * i + j) % 5 = j by omega]; exact hlb) (by rw [show (5 * i + j) / 5 = i by omega]; exact hg) lbs5_nodup nS (by omega) hof
        clear hof
        obtain ⟨t0, t1, t2, t3, t4, t5, t6, t7, t8, t9, ta, tb, tc, td, te, tf, rfl⟩ := len16 ht16
        have hVS1 := hVS.step hst hH.mod.size
        replace hH := hH.vault hVS hst hvi1 (by first | exact .here | exact .there .here | exact .there (.there .here) | exact .there (.there (.there .here)) | exact .there (.there (.there (.there .here))) | exact .there (.there (.there (.there (.there .here)))) | exact .there (.there (.there (.there (.there (.there .here))))) | exact .there (.there (.there (.there (.there (.there (.there .here)))))) | exact .there (.there (.there (.there (.there (.there (.there (.there .here))))))) | exact .there (.there (.there (.there (.there (.there (.there (.there (.there .here)))))))) | exact .there (.there (.there (.there (.there (.there (.there (.there (.there (.there .here))))))))) | exact .there (.there (.there (.there (.there (.there (.there (.there (.there (.there (.there .here)))))))))) | exact .there (.there (.there (.there (.there (.there (.there (.there (.there (.there (.there (.there .here))))))))))) | exact .there (.there (.there (.there (.there (.there (.there (.there (.there (.there (.there (.there (.there .here)))))))))))) | exact .there (.there (.there (.there (.there (.there (.there (.there (.there (.there (.there (.there (.there (.there .here))))))))))))) | exact .there (.there (.there (.there (.there (.there (.there (.there (.there (.there (.there (.there (.there (.there (.there .here)))))))))))))))
        have hok1 := hvi1.ok
        have n011 := hvi1.n01
        have n231 := hvi1.n23
        clear hst
        refine ⟨_, rfl, hH.kp0, ?_⟩
        clear hS; intro a hS
        refine r_move hS hH.kp0 rfl rfl ?_; clear hS; intro a hS
        refine r_extract hS hH.kp0 rfl rfl rfl ?_; clear hS; intro a hS
        refine r_extract hS hH.kp0 rfl rfl rfl ?_; clear hS; intro a hS
        refine r_alloc hS hH (by repeat (first | exact Sub.nil | refine Sub.cons ?_ ?_ | exact In.here | refine In.there ?_)) Fc.zc26 rfl ?_
        clear hS hH; intro a w b20 hb20 hwb20 hS hH
        refine r_store_row hS hH rfl rfl (by first | exact .here | exact .there .here | exact .there (.there .here) | exact .there (.there (.there .here)) | exact .there (.there (.there (.there .here))) | exact .there (.there (.there (.there (.there .here)))) | exact .there (.there (.there (.there (.there (.there .here))))) | exact .there (.there (.there (.there (.there (.there (.there .here)))))) | exact .there (.there (.there (.there (.there (.there (.there (.there .here))))))) | exact .there (.there (.there (.there (.there (.there (.there (.there (.there .here)))))))) | exact .there (.there (.there (.there (.there (.there (.there (.there (.there (.there .here))))))))) | exact .there (.there (.there (.there (.there (.there (.there (.there (.there (.there (.there .here)))))))))) | exact .there (.there (.there (.there (.there (.there (.there (.there (.there (.there (.there (.there .here))))))))))) | exact .there (.there (.there (.there (.there (.there (.there (.there (.there (.there (.there (.there (.there .here)))))))))))) | exact .there (.there (.there (.there (.there (.there (.there (.there (.there (.there (.there (.there (.there (.there .here))))))))))))) | exact .there (.there (.there (.there (.there (.there (.there (.there (.there (.there (.there (.there (.there (.there (.there .here))))))))))))))) (by repeat (first | exact Sub.nil | refine Sub.cons ?_ ?_ | exact In.here | refine In.there ?_)) Fc.sz26 (by first | exact hcells_one _ | exact of_decide_eq_true rfl) (by rfl) (by first | exact .inr (by assumption) | exact .inl (by first | assumption | rfl)) ?_
        clear hH; intro w hH
        refine r_assign hS hH.kp0 rfl rfl ?_; clear hS; intro a hS
        refine Sq.nil ?_
        refine then_n ?_
        refine c_seq ?_
        refine c_seq ?_
        refine reg_plain w0 (Nobody) ?_
        refine r_assign hS hH.kp0 rfl rfl ?_; clear hS; intro a hS
        refine Sq.nil ?_
        refine then_n ?_
        refine wp_block ?_
        refine c_loop (fun m a w => ∃ (r : Nat) (rr : Int), m + r = 0 ∧ rr = r ∧ St 132 (lv [(5, .pointer (some ⟨b, 0, none⟩)), (14, .pointer (some ⟨b14, 0, none⟩)), (15, .slice none 0 0), (92, .slice (some ⟨b92, 0, none⟩) 3 3), (93, .int .i64 3), (94, .int .i64 ii), (17, .pointer (some ⟨b17, 0, none⟩)), (98, .slice (some ⟨b98, 0, none⟩) 5 5), (99, .int .i64 5), (100, .int .i64 jj), (20, .pointer (some ⟨b20, 0, none⟩)), (21, .int .i64 0), (22, .int .i64 rr)]) a ∧ Hp w0 Nobody [(b20, .cells (hcells [t0, t1, t2, t3, t4, t5, t6, t7, t8, t9, ta, tb, tc, td, te, tf]).toArray 26 (0, 0)), (b98, .cells (lbs5.map Value.string).toArray 9 (0, 0)), (b17, .cells (hcells [g0, g1, g2, g3, g4, g5, g6, g7, g8, g9, ga, gb, gc, gd, ge, gf]).toArray 26 (0, 0)), (b92, .cells (List.flatMap hcells Ss).toArray 26 (0, 0)), (b14, .cells (hcells [k0, k1, k2, k3, k4, k5, k6, k7, k8, k9, ka, kb, kc, kd, ke, kf]).toArray 26 (0, 0)), (b, .cells (V1.top ts1.length).toArray 71 (0, 0)), (V1.sb, .cells V1.l.toArray 93 (0, 0)), (V1.fb, .map V1.es V1.c), (V1.nb, .map V1.es' V1.c')] w) (0) ?_ ?_
        · exact ⟨0, _, by omega, rfl, hS.live ⟨rfl, rfl, rfl, rfl, rfl, rfl, rfl, rfl, rfl, rfl, rfl, rfl, rfl, trivial⟩, hH⟩
        clear hS hH; intro m a w hI; obtain ⟨r, rr, hmr, hrr, hS, hH⟩ := hI
        refine c_seq ?_
        refine c_seq ?_
        refine reg_plain w0 (Nobody) ?_
        refine r_move hS hH.kp0 rfl rfl ?_; clear hS; intro a hS
        refine r_move hS hH.kp0 rfl rfl ?_; clear hS; intro a hS
        refine r_lenSl hS hH.kp0 rfl Fc.isSlice32 rfl ?_; clear hS; intro a hS
        refine r_lss hS hH.kp0 rfl rfl rfl ?_; clear hS; intro a hS
        refine Sq.nil ?_
        refine then_n ?_
        refine c_condF hS rfl (DF (by omega)) ?_
        refine wp_exit ?_
        refine then_e ?_
        refine then_e ?_
        refine blk_hit ?_
        refine then_n ?_
        refine c_seq ?_
        refine c_seq ?_
        refine reg_plain w0 (Nobody) ?_
        refine r_move hS hH.kp0 rfl rfl ?_; clear hS; intro a hS
        refine r_neq hS hH.kp0 rfl rfl rfl ?_; clear hS; intro a hS
        refine Sq.nil ?_
        refine then_n ?_
        refine c_condF hS rfl rfl ?_
        refine wp_skip ?_
        refine then_n ?_
        refine reg_plain w0 (Nobody) ?_
        refine r_move hS hH.kp0 rfl rfl ?_; clear hS; intro a hS
        refine r_load_row hS hH (by repeat (first | exact Sub.nil | refine Sub.cons ?_ ?_ | exact In.here | refine In.there ?_)) rfl (by repeat (first | exact In.here | refine In.there ?_)) Fc.ag26 (by rfl) rfl ?_; clear hS; intro a hS
        refine r_buildSlice (parts := [(0, .tmp 127)]) hS hH (by repeat (first | exact Sub.nil | refine Sub.cons ?_ ?_ | exact In.here | refine In.there ?_)) rfl Fc.bsl32_1 (by rfl) rfl ?_
        clear hS hH; intro a w b128 hb128 hwb128 hS hH
        refine r_append_nil hS hH (by repeat (first | exact Sub.nil | refine Sub.cons ?_ ?_ | exact In.here | refine In.there ?_)) rfl rfl Fc.elH Fc.niH (Src.hnd (h := [t0, t1, t2, t3, t4, t5, t6, t7, t8, t9, ta, tb, tc, td, te, tf]) (hH.get .here) rfl) (by decide) (by decide) rfl ?_
        clear hS hH; intro a w ob' cap' l2 hob' _ hl2 hc2 htk2 _ hS hH
        refine r_assign hS hH.kp0 rfl rfl ?_; clear hS; intro a hS
        refine Sq.nil ?_
        refine blk_n ?_
        refine then_n ?_
        refine reg_plain w0 (Nobody) ?_
        first | refine r_add hS hH.kp0 rfl rfl rfl (by omega) ?_ | refine r_addw hS hH.kp0 rfl rfl rfl ?_
        clear hS; intro a hS
        refine r_move hS hH.kp0 rfl rfl ?_; clear hS; intro a hS
        refine Sq.nil ?_
        refine then_n ?_
        have hs0 : hs = [] := List.eq_nil_of_length_eq_zero (by have := hap.len; omega)
        refine ⟨m1 - 1, by omega, j + 1, _, V1, ts1, hs ++ [[t0, t1, t2, t3, t4, t5, t6, t7, t8, t9, ta, tb, tc, td, te, tf]], _, by omega, ?_, hok1, n011, n231, hVS1, hap1, hS.live ⟨rfl, rfl, rfl, rfl, rfl, rfl, rfl, rfl, rfl, rfl, trivial⟩, .inr ⟨ob', cap', l2, ?_, hob', hl2, ?_, ?_, hH.drop [1, 2]⟩⟩
        · omega
        · rw [hs0]; rfl
        · rw [hs0]; simpa using hc2
        · rw [hs0]; simpa using htk2
      · refine c_seq ?_
        refine reg_plain w0 (Nobody) ?_
        refine r_lss hS hH.kp0 rfl rfl rfl ?_; clear hS; intro a hS
        refine Sq.nil ?_
        refine then_n ?_
        refine c_seq ?_
        refine c_cond hS rfl (fun hc3 => ?_) (fun hc3 => ?_)
        · have hlj := of_decide_eq_true hc3
          obtain ⟨lb, hlb⟩ : ∃ lb, lbs5[j]? = some lb := ⟨_, List.getElem?_eq_getElem (by have : lbs5.length = 5 := rfl; omega)⟩
          have hlbs := lbs5_small lb (List.mem_of_getElem? hlb)
          refine wp_skip ?_
          refine then_n ?_
          refine c_seq ?_
          refine wp_block ?_
          refine c_seq ?_
          refine reg_plain w0 (Nobody) ?_
          refine r_indexAddrS (j := j) hS hH.kp0 rfl rfl Fc.slb33 hjj (by omega) rfl ?_; clear hS; intro a hS
          refine r_load_sc hS hH (by repeat (first | exact Sub.nil | refine Sub.cons ?_ ?_ | exact In.here | refine In.there ?_)) rfl (by repeat (first | exact In.here | refine In.there ?_)) Fc.sc9 (v := .string lb) (by rw [nthV_eq, Nat.zero_add, Nat.mul_one, List.getElem?_map, hlb]; rfl) rfl ?_; clear hS; intro a hS
          refine r_assign hS hH.kp0 rfl rfl ?_; clear hS; intro a hS
          refine Sq.nil ?_
          refine then_n ?_
          refine c_seq ?_
          refine reg_plain w0 (Nobody) ?_
          refine r_move hS hH.kp0 rfl rfl ?_; clear hS; intro a hS
          refine r_load_row hS hH (by repeat (first | exact Sub.nil | refine Sub.cons ?_ ?_ | exact In.here | refine In.there ?_)) rfl (by repeat (first | exact In.here | refine In.there ?_)) Fc.ag26 (by rfl) rfl ?_; clear hS; intro a hS
          refine r_move hS hH.kp0 rfl rfl ?_; clear hS; intro a hS
          refine r_load_row hS hH (by repeat (first | exact Sub.nil | refine Sub.cons ?_ ?_ | exact In.here | refine In.there ?_)) rfl (by repeat (first | exact In.here | refine In.there ?_)) Fc.ag26 (by rfl) rfl ?_; clear hS; intro a hS
          refine r_call (l := [.tmp 105, .tmp 106, .tmp 107, .tmp 108]) hS rfl rfl Fc.fn15 rfl ?_
          refine Calls.mono (Traffic_v b V ts (by have := hap.bound; omega) [k0, k1, k2, k3, k4, k5, k6, k7, k8, k9, ka, kb, kc, kd, ke, kf] [g0, g1, g2, g3, g4, g5, g6, g7, g8, g9, ga, gb, gc, gd, ge, gf] rfl rfl lb hlbs _ (hH.vin hok n01 n23 (by repeat (first | exact In.here | refine In.there ?_)) (by repeat (first | exact In.here | refine In.there ?_)) (by repeat (first | exact In.here | refine In.there ?_)) (by repeat (first | exact In.here | refine In.there ?_)))) ?_
          rintro e w1 ⟨t, x_, V1, ts1, rfl, hvi1, hst, hof⟩
          rw [hkn5] at hof
          obtain ⟨rfl, ht16, hne, hap1⟩ := hap.next (by rw [show (5 * i + j) % 5 = j by omega]; exact hlb) (by rw [show (5 * i + j) / 5 = i by omega]; exact hg) lbs5_nodup nS (by omega) hof
          clear hof
          obtain ⟨t0, t1, t2, t3, t4, t5, t6, t7, t8, t9, ta, tb, tc, td, te, tf, rfl⟩ := len16 ht16
          have hVS1 := hVS.step hst hH.mod.size
          replace hH := hH.vault hVS hst hvi1 (by first | exact .here | exact .there .here | exact .there (.there .here) | exact .there (.there (.there .here)) | exact .there (.there (.there (.there .here))) | exact .there (.there (.there (.there (.there .here)))) | exact .there (.there (.there (.there (.there (.there .here))))) | exact .there (.there (.there (.there (.there (.there (.there .here)))))) | exact .there (.there (.there (.there (.there (.there (.there (.there .here))))))) | exact .there (.there (.there (.there (.there (.there (.there (.there (.there .here)))))))) | exact .there (.there (.there (.there (.there (.there (.there (.there (.there (.there .here))))))))) | exact .there (.there (.there (.there (.there (.there (.there (.there (.there (.there (.there .here)))))))))) | exact .there (.there (.there (.there (.there (.there (.there (.there (.there (.there (.there (.there .here))))))))))) | exact .there (.there (.there (.there (.there (.there (.there (.there (.there (.there (.there (.there (.there .here)))))))))))) | exact .there (.there (.there (.there (.there (.there (.there (.there (.there (.there (.there (.there (.there (.there .here))))))))))))) | exact .there (.there (.there (.there (.there (.there (.there (.there (.there (.there (.there (.there (.there (.there (.there .here)))))))))))))))
          have hok1 := hvi1.ok
          have n011 := hvi1.n01
          have n231 := hvi1.n23
          clear hst
          refine ⟨_, rfl, hH.kp0, ?_⟩
          clear hS; intro a hS
          refine r_move hS hH.kp0 rfl rfl ?_; clear hS; intro a hS
          refine r_extract hS hH.kp0 rfl rfl rfl ?_; clear hS; intro a hS
          refine r_extract hS hH.kp0 rfl rfl rfl ?_; clear hS; intro a hS
          refine r_alloc hS hH (by repeat (first | exact Sub.nil | refine Sub.cons ?_ ?_ | exact In.here | refine In.there ?_)) Fc.zc26 rfl ?_
          clear hS hH; intro a w b20 hb20 hwb20 hS hH
          refine r_store_row hS hH rfl rfl (by first | exact .here | exact .there .here | exact .there (.there .here) | exact .there (.there (.there .here)) | exact .there (.there (.there (.there .here))) | exact .there (.there (.there (.there (.there .here)))) | exact .there (.there (.there (.there (.there (.there .here))))) | exact .there (.there (.there (.there (.there (.there (.there .here)))))) | exact .there (.there (.there (.there (.there (.there (.there (.there .here))))))) | exact .there (.there (.there (.there (.there (.there (.there (.there (.there .here)))))))) | exact .there (.there (.there (.there (.there (.there (.there (.there (.there (.there .here))))))))) | exact .there (.there (.there (.there (.there (.there (.there (.there (.there (.there (.there .here)))))))))) | exact .there (.there (.there (.there (.there (.there (.there (.there (.there (.there (.there (.there .here))))))))))) | exact .there (.there (.there (.there (.there (.there (.there (.there (.there (.there (.there (.there (.there .here)))))))))))) | exact .there (.there (.there (.there (.there (.there (.there (.there (.there (.there (.there (.there (.there (.there .here))))))))))))) | exact .there (.there (.there (.there (.there (.there (.there (.there (.there (.there (.there (.there (.there (.there (.there .here))))))))))))))) (by repeat (first | exact Sub.nil | refine Sub.cons ?_ ?_ | exact In.here | refine In.there ?_)) Fc.sz26 (by first | exact hcells_one _ | exact of_decide_eq_true rfl) (by rfl) (by first | exact .inr (by assumption) | exact .inl (by first | assumption | rfl)) ?_
          clear hH; intro w hH
          refine r_assign hS hH.kp0 rfl rfl ?_; clear hS; intro a hS
          refine Sq.nil ?_
          refine then_n ?_
          refine c_seq ?_
          refine c_seq ?_
          refine reg_plain w0 (Nobody) ?_
          refine r_assign hS hH.kp0 rfl rfl ?_; clear hS; intro a hS
          refine Sq.nil ?_
          refine then_n ?_
          refine wp_block ?_
          refine c_loop (fun m a w => ∃ (r : Nat) (rr : Int), m + r = hs.length ∧ rr = r ∧ St 132 (lv [(5, .pointer (some ⟨b, 0, none⟩)), (14, .pointer (some ⟨b14, 0, none⟩)), (15, .slice (some ⟨ob, 0, none⟩) hs.length cap), (92, .slice (some ⟨b92, 0, none⟩) 3 3), (93, .int .i64 3), (94, .int .i64 ii), (17, .pointer (some ⟨b17, 0, none⟩)), (98, .slice (some ⟨b98, 0, none⟩) 5 5), (99, .int .i64 5), (100, .int .i64 jj), (20, .pointer (some ⟨b20, 0, none⟩)), (21, .int .i64 0), (22, .int .i64 rr)]) a ∧ Hp w0 Nobody [(b20, .cells (hcells [t0, t1, t2, t3, t4, t5, t6, t7, t8, t9, ta, tb, tc, td, te, tf]).toArray 26 (0, 0)), (ob, .cells l.toArray 26 (0, 0)), (b98, .cells (lbs5.map Value.string).toArray 9 (0, 0)), (b17, .cells (hcells [g0, g1, g2, g3, g4, g5, g6, g7, g8, g9, ga, gb, gc, gd, ge, gf]).toArray 26 (0, 0)), (b92, .cells (List.flatMap hcells Ss).toArray 26 (0, 0)), (b14, .cells (hcells [k0, k1, k2, k3, k4, k5, k6, k7, k8, k9, ka, kb, kc, kd, ke, kf]).toArray 26 (0, 0)), (b, .cells (V1.top ts1.length).toArray 71 (0, 0)), (V1.sb, .cells V1.l.toArray 93 (0, 0)), (V1.fb, .map V1.es V1.c), (V1.nb, .map V1.es' V1.c')] w) (hs.length) ?_ ?_
          · exact ⟨0, _, by omega, rfl, hS.live ⟨rfl, rfl, rfl, rfl, rfl, rfl, rfl, rfl, rfl, rfl, rfl, rfl, rfl, trivial⟩, hH⟩
          clear hS hH; intro m a w hI; obtain ⟨r, rr, hmr, hrr, hS, hH⟩ := hI
          refine c_seq ?_
          refine c_seq ?_
          refine reg_plain w0 (Nobody) ?_
          refine r_move hS hH.kp0 rfl rfl ?_; clear hS; intro a hS
          refine r_move hS hH.kp0 rfl rfl ?_; clear hS; intro a hS
          refine r_lenSl hS hH.kp0 rfl Fc.isSlice32 rfl ?_; clear hS; intro a hS
          refine r_lss hS hH.kp0 rfl rfl rfl ?_; clear hS; intro a hS
          refine Sq.nil ?_
          refine then_n ?_
          refine c_cond hS rfl (fun hc4 => ?_) (fun hc4 => ?_)
          · have hrl := of_decide_eq_true hc4
            have hhl := hap.len
            obtain ⟨u, hu⟩ : ∃ u, hs[r]? = some u := ⟨_, List.getElem?_eq_getElem (by omega)⟩
            have hu16 := hap.h16 u (List.mem_of_getElem? hu)
            have hrow2 := rd_row hap.h16 htk hu
            have hut := hne r u hu
            refine wp_skip ?_
            refine then_n ?_
            refine c_seq ?_
            refine wp_block ?_
            refine c_seq ?_
            refine reg_draw [(true, 0, []), (true, 1, []), (true, 2, []), (true, 3, []), (true, 4, []), (true, 5, [])] Fc.mixed (by kernel_rfl) (by kernel_rfl) (by kernel_rfl) (by kernel_rfl) (by kernel_rfl) (by repeat (first | with_reducible exact steady_body | with_reducible apply steady_block | with_reducible apply steady_then | exact steady_body)) hH ?_
            replace hH := hH.drew
            refine r_move hS trivial rfl rfl ?_; clear hS; intro a hS
            refine r_move hS trivial rfl rfl ?_; clear hS; intro a hS
            refine r_indexAddrS (j := r) hS trivial rfl rfl Fc.slb32 hrr (by omega) rfl ?_; clear hS; intro a hS
            refine r_load_atS (vs := hcells u) hS rfl (by repeat (first | exact In.here | refine In.there ?_)) Fc.ag26 (by rw [Nat.zero_add]; exact hrow2.2) (by rw [Nat.zero_add]; exact hrow2.1) rfl ?_; clear hS; intro a hS
            refine r_load_rowS hS rfl (by repeat (first | exact In.here | refine In.there ?_)) Fc.ag26 (by rfl) rfl ?_; clear hS; intro a hS
            refine r_arrEql (h := u) (g := [t0, t1, t2, t3, t4, t5, t6, t7, t8, t9, ta, tb, tc, td, te, tf]) Fc.arrH hS trivial rfl rfl hu16 rfl rfl ?_; clear hS; intro a hS
            refine Sq.nil ?_
            refine then_n ?_
            refine c_condF hS rfl (DF hut) ?_
            refine wp_skip ?_
            refine blk_n ?_
            refine then_n ?_
            refine reg_plain w0 (Nobody) ?_
            refine r_move hS hH.kp0 rfl rfl ?_; clear hS; intro a hS
            first | refine r_add hS hH.kp0 rfl rfl rfl (by omega) ?_ | refine r_addw hS hH.kp0 rfl rfl rfl ?_
            clear hS; intro a hS
            refine r_assign hS hH.kp0 rfl rfl ?_; clear hS; intro a hS
            refine Sq.nil ?_
            refine then_n ?_
            refine ⟨m - 1, by omega, r + 1, _, by omega, ?_, hS.live ⟨rfl, rfl, rfl, rfl, rfl, rfl, rfl, rfl, rfl, rfl, rfl, rfl, rfl, trivial⟩, hH⟩
            omega
          · refine wp_exit ?_
            refine then_e ?_
            refine then_e ?_
            refine blk_hit ?_
            refine then_n ?_
            refine c_seq ?_
            refine c_seq ?_
            refine reg_plain w0 (Nobody) ?_
            refine r_move hS hH.kp0 rfl rfl ?_; clear hS; intro a hS
            refine r_neq hS hH.kp0 rfl rfl rfl ?_; clear hS; intro a hS
            refine Sq.nil ?_
            refine then_n ?_
            refine c_condF hS rfl rfl ?_
            refine wp_skip ?_
            refine then_n ?_
            refine reg_plain w0 (Nobody) ?_
            refine r_move hS hH.kp0 rfl rfl ?_; clear hS; intro a hS
            refine r_load_row hS hH (by repeat (first | exact Sub.nil | refine Sub.cons ?_ ?_ | exact In.here | refine In.there ?_)) rfl (by repeat (first | exact In.here | refine In.there ?_)) Fc.ag26 (by rfl) rfl ?_; clear hS; intro a hS
            refine r_buildSlice (parts := [(0, .tmp 127)]) hS hH (by repeat (first | exact Sub.nil | refine Sub.cons ?_ ?_ | exact In.here | refine In.there ?_)) rfl Fc.bsl32_1 (by rfl) rfl ?_
            clear hS hH; intro a w b128 hb128 hwb128 hS hH
            refine r_append_own hS hH rfl rfl (by first | exact .here | exact .there .here | exact .there (.there .here) | exact .there (.there (.there .here)) | exact .there (.there (.there (.there .here))) | exact .there (.there (.there (.there (.there .here)))) | exact .there (.there (.there (.there (.there (.there .here))))) | exact .there (.there (.there (.there (.there (.there (.there .here)))))) | exact .there (.there (.there (.there (.there (.there (.there (.there .here))))))) | exact .there (.there (.there (.there (.there (.there (.there (.there (.there .here)))))))) | exact .there (.there (.there (.there (.there (.there (.there (.there (.there (.there .here))))))))) | exact .there (.there (.there (.there (.there (.there (.there (.there (.there (.there (.there .here)))))))))) | exact .there (.there (.there (.there (.there (.there (.there (.there (.there (.there (.there (.there .here))))))))))) | exact .there (.there (.there (.there (.there (.there (.there (.there (.there (.there (.there (.there (.there .here)))))))))))) | exact .there (.there (.there (.there (.there (.there (.there (.there (.there (.there (.there (.there (.there (.there .here))))))))))))) | exact .there (.there (.there (.there (.there (.there (.there (.there (.there (.there (.there (.there (.there (.there (.there .here))))))))))))))) (by repeat (first | exact Sub.nil | refine Sub.cons ?_ ?_ | exact In.here | refine In.there ?_)) Fc.elH Fc.niH hol hcap (Src.hnd (h := [t0, t1, t2, t3, t4, t5, t6, t7, t8, t9, ta, tb, tc, td, te, tf]) (hH.get .here) rfl) (by have := hap.len; omega) (.inr hob) rfl ?_
            clear hS hH; intro a w ob' cap' l2 hob' hl2 hc2 htk2 _ hS hH
            refine r_assign hS hH.kp0 rfl rfl ?_; clear hS; intro a hS
            refine Sq.nil ?_
            refine blk_n ?_
            refine then_n ?_
            refine reg_plain w0 (Nobody) ?_
            first | refine r_add hS hH.kp0 rfl rfl rfl (by omega) ?_ | refine r_addw hS hH.kp0 rfl rfl rfl ?_
            clear hS; intro a hS
            refine r_move hS hH.kp0 rfl rfl ?_; clear hS; intro a hS
            refine Sq.nil ?_
            refine then_n ?_
            refine ⟨m1 - 1, by omega, j + 1, _, V1, ts1, hs ++ [[t0, t1, t2, t3, t4, t5, t6, t7, t8, t9, ta, tb, tc, td, te, tf]], _, by omega, ?_, hok1, n011, n231, hVS1, hap1, hS.live ⟨rfl, rfl, rfl, rfl, rfl, rfl, rfl, rfl, rfl, rfl, trivial⟩, .inr ⟨ob', cap', l2, ?_, ?_, hl2, ?_, ?_, hH.drop [1, 2]⟩⟩
            · omega
            · simp
            · rcases hob' with h | h; exact False.elim h; exact h
            · simpa using hc2
            · rw [List.length_append, List.length_singleton, htk2, htk]; simp
        · have hge := of_decide_eq_false hc3
          refine wp_exit ?_
          refine then_e ?_
          refine then_e ?_
          refine blk_hit ?_
          refine blk_n ?_
          refine then_n ?_
          refine reg_plain w0 (Nobody) ?_
          first | refine r_add hS hH.kp0 rfl rfl rfl (by omega) ?_ | refine r_addw hS hH.kp0 rfl rfl rfl ?_
          clear hS; intro a hS
          refine r_move hS hH.kp0 rfl rfl ?_; clear hS; intro a hS
          refine Sq.nil ?_
          refine then_n ?_
          refine ⟨m0 - 1, by omega, i + 1, _, V, ts, hs, _, by omega, ?_, hok, n01, n23, hVS, ?_, hS.live ⟨rfl, rfl, rfl, rfl, rfl, rfl, trivial⟩, .inr ⟨ob, cap, l, rfl, hob, hol, hcap, htk, hH.drop [1, 2]⟩⟩
          · omega
          · have e5 : 5 * (i + 1) = 5 * i + j := by omega
            rw [e5]; exact hap
    · refine wp_exit ?_
      refine then_e ?_
      refine then_e ?_
      refine blk_hit ?_
      refine then_n ?_
      refine c_seq ?_
      refine reg_plain w0 (Nobody) ?_
      refine r_assign hS hH.kp0 rfl rfl ?_; clear hS; intro a hS
      refine Sq.nil ?_
      refine then_n ?_
      refine wp_ret ?_
      exact leave (.inl rfl) hS rfl (Res.tmp rfl Res.nil) ⟨rfl, hH.mod⟩

end Go.Proofs.Ytcjmehononbadaa
