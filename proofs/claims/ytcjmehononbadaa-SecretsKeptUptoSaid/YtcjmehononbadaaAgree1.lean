/- SecretsKept: two sides that agreed have the same secrets, and who saw all that was said knows none of them, unless a secret of one side is known. Part Agree1: walks and lemmas of the proof. -/
import Derived.Test.YtcjmehononbadaaSpy3
import Derived.Test.YtcjmehononbadaaSymAgree
namespace Go.Proofs.Ytcjmehononbadaa
open Go.Sym

theorem Fc.fn70 : isFn Try.prog 70 = true := by kernel_rfl
set_option maxRecDepth 100000 in
set_option maxHeartbeats 1000000 in
theorem Public_v (b : Nat) (V : VB) (ts : List Tm) (h : List UInt8) (hh : h.length = 16) (hm : ts.length ≤ 1000000000) (w0 : World) (hvi : VI w0 b V ts) : Calls Try.prog 42 #[.pointer (some ⟨b, 0, none⟩), hnd h] w0 fun e w' => ∃ h' x V' ts', e = .returned (.tuple #[hnd h', .int .i64 x]) ∧ VI w' b V' ts' ∧ VStep w0 w' b V V' ∧ OfT ts h pubT h' x ts' := by
  refine enter Try.func42 rfl rfl rfl ?_
  intro a hS
  have hH := Hp.start w0 (V.F b)
  obtain ⟨x0, x1, x2, x3, x4, x5, x6, x7, x8, x9, xa, xb, xc, xd, xe, xf, rfl⟩ := len16 hh
  replace hH := hH.knowV hvi (by intro p hp; simp at hp)
  have hVS := VS.start w0 b V
  refine c_seq ?_
  refine reg_plain w0 (V.F b) ?_
  refine r_box hS hH (by repeat (first | exact Sub.nil | refine Sub.cons ?_ ?_ | exact In.here | refine In.there ?_)) rfl rfl rfl ?_
  clear hS hH; intro a w b3 hb3 hwb3 hS hH
  refine r_alloc hS hH (by repeat (first | exact Sub.nil | refine Sub.cons ?_ ?_ | exact In.here | refine In.there ?_)) Fc.zc26 rfl ?_
  clear hS hH; intro a w b4 hb4 hwb4 hS hH
  refine r_assign hS hH.kp0 rfl rfl ?_; clear hS; intro a hS
  refine Sq.nil ?_
  refine then_n ?_
  refine c_seq ?_
  refine reg_plain w0 (V.F b) ?_
  refine r_move hS hH.kp0 rfl rfl ?_; clear hS; intro a hS
  refine r_load_row hS hH (by repeat (first | exact Sub.nil | refine Sub.cons ?_ ?_ | exact In.here | refine In.there ?_)) rfl (by repeat (first | exact In.here | refine In.there ?_)) Fc.ag26 (by rfl) rfl ?_; clear hS; intro a hS
  refine r_buildS (parts := [(0, .const (.int .i64 3))]) hS hH.kp0 rfl rfl Fc.zc93 Fc.pl93 (by rfl) ?_; clear hS; intro a hS
  refine r_call (l := [.tmp 6, .tmp 7, .tmp 8]) hS rfl rfl Fc.fn69 rfl ?_
  refine Calls.mono (of_v b V ts [x0, x1, x2, x3, x4, x5, x6, x7, x8, x9, xa, xb, xc, xd, xe, xf] rfl pubT pubT_ok hm _ (hH.vin hvi.ok hvi.n01 hvi.n23 (by repeat (first | exact In.here | refine In.there ?_)) (by repeat (first | exact In.here | refine In.there ?_)) (by repeat (first | exact In.here | refine In.there ?_)) (by repeat (first | exact In.here | refine In.there ?_)))) ?_
  rintro e w1 ⟨h, x, V1, ts1, rfl, hvi1, hst, hof⟩
  have hly := hof.len
  obtain ⟨y0, y1, y2, y3, y4, y5, y6, y7, y8, y9, ya, yb, yc, yd, ye, yf, rfl⟩ := len16 hly
  have hVS1 := hVS.step hst hH.mod.size
  replace hH := hH.vault hVS hst hvi1 (by first | exact .here | exact .there .here | exact .there (.there .here) | exact .there (.there (.there .here)) | exact .there (.there (.there (.there .here))) | exact .there (.there (.there (.there (.there .here)))) | exact .there (.there (.there (.there (.there (.there .here))))) | exact .there (.there (.there (.there (.there (.there (.there .here)))))) | exact .there (.there (.there (.there (.there (.there (.there (.there .here))))))) | exact .there (.there (.there (.there (.there (.there (.there (.there (.there .here)))))))) | exact .there (.there (.there (.there (.there (.there (.there (.there (.there (.there .here))))))))) | exact .there (.there (.there (.there (.there (.there (.there (.there (.there (.there (.there .here)))))))))) | exact .there (.there (.there (.there (.there (.there (.there (.there (.there (.there (.there (.there .here))))))))))) | exact .there (.there (.there (.there (.there (.there (.there (.there (.there (.there (.there (.there (.there .here)))))))))))) | exact .there (.there (.there (.there (.there (.there (.there (.there (.there (.there (.there (.there (.there (.there .here))))))))))))) | exact .there (.there (.there (.there (.there (.there (.there (.there (.there (.there (.there (.there (.there (.there (.there .here)))))))))))))))
  refine ⟨_, rfl, hH.kp0, ?_⟩
  clear hS; intro a hS
  refine r_extract hS hH.kp0 rfl rfl rfl ?_; clear hS; intro a hS
  refine r_extract hS hH.kp0 rfl rfl rfl ?_; clear hS; intro a hS
  refine r_store_row hS hH rfl rfl (by first | exact .here | exact .there .here | exact .there (.there .here) | exact .there (.there (.there .here)) | exact .there (.there (.there (.there .here))) | exact .there (.there (.there (.there (.there .here)))) | exact .there (.there (.there (.there (.there (.there .here))))) | exact .there (.there (.there (.there (.there (.there (.there .here)))))) | exact .there (.there (.there (.there (.there (.there (.there (.there .here))))))) | exact .there (.there (.there (.there (.there (.there (.there (.there (.there .here)))))))) | exact .there (.there (.there (.there (.there (.there (.there (.there (.there (.there .here))))))))) | exact .there (.there (.there (.there (.there (.there (.there (.there (.there (.there (.there .here)))))))))) | exact .there (.there (.there (.there (.there (.there (.there (.there (.there (.there (.there (.there .here))))))))))) | exact .there (.there (.there (.there (.there (.there (.there (.there (.there (.there (.there (.there (.there .here)))))))))))) | exact .there (.there (.there (.there (.there (.there (.there (.there (.there (.there (.there (.there (.there (.there .here))))))))))))) | exact .there (.there (.there (.there (.there (.there (.there (.there (.there (.there (.there (.there (.there (.there (.there .here))))))))))))))) (by repeat (first | exact Sub.nil | refine Sub.cons ?_ ?_ | exact In.here | refine In.there ?_)) Fc.sz26 (by first | exact hcells_one _ | exact of_decide_eq_true rfl) (by rfl) (by first | exact .inr (by assumption) | exact .inl (by first | assumption | rfl)) ?_
  clear hH; intro w hH
  refine r_assign hS hH.kp0 rfl rfl ?_; clear hS; intro a hS
  refine Sq.nil ?_
  refine then_n ?_
  refine wp_ret ?_
  exact leave (.inl rfl) hS rfl (Res.cell rfl (hH.get (by repeat (first | exact In.here | refine In.there ?_))) Fc.ag26 (by rfl) rfl (Res.tmp rfl Res.nil)) ⟨_, _, V1, ts1, rfl, (hH.vin hvi1.ok hvi1.n01 hvi1.n23 (by repeat (first | exact In.here | refine In.there ?_)) (by repeat (first | exact In.here | refine In.there ?_)) (by repeat (first | exact In.here | refine In.there ?_)) (by repeat (first | exact In.here | refine In.there ?_))), ⟨hVS1, hH.mod⟩, hof⟩

set_option maxRecDepth 100000 in
set_option maxHeartbeats 1000000 in
theorem Sign_v (b : Nat) (V : VB) (ts : List Tm) (h : List UInt8) (hh : h.length = 16) (v : Value) (l : List UInt8) (hl : l.length ≤ 9223372036854775807) (hm : ts.length ≤ 1000000000) (w0 : World) (hvi : VI w0 b V ts) (hb : BsF (V.F b) w0 v l) : Calls Try.prog 44 #[.pointer (some ⟨b, 0, none⟩), hnd h, v] w0 fun e w' => ∃ h' x V' ts', e = .returned (.tuple #[hnd h', .int .i64 x]) ∧ VI w' b V' ts' ∧ VStep w0 w' b V V' ∧ OfT ts h (sgnT (strOf l)) h' x ts' := by
  refine enter Try.func44 rfl rfl rfl ?_
  intro a hS
  have hH := Hp.start w0 (V.F b)
  obtain ⟨x0, x1, x2, x3, x4, x5, x6, x7, x8, x9, xa, xb, xc, xd, xe, xf, rfl⟩ := len16 hh
  replace hH := hH.knowV hvi (by intro p hp; simp at hp)
  have hVS := VS.start w0 b V
  refine c_seq ?_
  refine reg_plain w0 (V.F b) ?_
  refine r_box hS hH (by repeat (first | exact Sub.nil | refine Sub.cons ?_ ?_ | exact In.here | refine In.there ?_)) rfl rfl rfl ?_
  clear hS hH; intro a w b4 hb4 hwb4 hS hH
  refine r_alloc hS hH (by repeat (first | exact Sub.nil | refine Sub.cons ?_ ?_ | exact In.here | refine In.there ?_)) Fc.zc26 rfl ?_
  clear hS hH; intro a w b6 hb6 hwb6 hS hH
  refine r_assign hS hH.kp0 rfl rfl ?_; clear hS; intro a hS
  refine Sq.nil ?_
  refine then_n ?_
  refine c_seq ?_
  refine reg_plain w0 (V.F b) ?_
  refine r_move hS hH.kp0 rfl rfl ?_; clear hS; intro a hS
  refine r_load_row hS hH (by repeat (first | exact Sub.nil | refine Sub.cons ?_ ?_ | exact In.here | refine In.there ?_)) rfl (by repeat (first | exact In.here | refine In.there ?_)) Fc.ag26 (by rfl) rfl ?_; clear hS; intro a hS
  refine r_move hS hH.kp0 rfl rfl ?_; clear hS; intro a hS
  refine r_bytesStr hS hH.kp0 rfl (hb _ hH.mod) Fc.u8s22 Fc.isStr9 rfl ?_; clear hS; intro a hS
  refine r_buildS (parts := [(0, .const (.int .i64 5)), (6, .tmp 11)]) hS hH.kp0 rfl rfl Fc.zc93 Fc.pl93 (by rfl) ?_; clear hS; intro a hS
  refine r_call (l := [.tmp 8, .tmp 9, .tmp 12]) hS rfl rfl Fc.fn69 rfl ?_
  refine Calls.mono (of_v b V ts [x0, x1, x2, x3, x4, x5, x6, x7, x8, x9, xa, xb, xc, xd, xe, xf] rfl (sgnT (strOf l)) (sgnT_ok hl) hm _ (hH.vin hvi.ok hvi.n01 hvi.n23 (by repeat (first | exact In.here | refine In.there ?_)) (by repeat (first | exact In.here | refine In.there ?_)) (by repeat (first | exact In.here | refine In.there ?_)) (by repeat (first | exact In.here | refine In.there ?_)))) ?_
  rintro e w1 ⟨h, x, V1, ts1, rfl, hvi1, hst, hof⟩
  have hly := hof.len
  obtain ⟨y0, y1, y2, y3, y4, y5, y6, y7, y8, y9, ya, yb, yc, yd, ye, yf, rfl⟩ := len16 hly
  have hVS1 := hVS.step hst hH.mod.size
  replace hH := hH.vault hVS hst hvi1 (by first | exact .here | exact .there .here | exact .there (.there .here) | exact .there (.there (.there .here)) | exact .there (.there (.there (.there .here))) | exact .there (.there (.there (.there (.there .here)))) | exact .there (.there (.there (.there (.there (.there .here))))) | exact .there (.there (.there (.there (.there (.there (.there .here)))))) | exact .there (.there (.there (.there (.there (.there (.there (.there .here))))))) | exact .there (.there (.there (.there (.there (.there (.there (.there (.there .here)))))))) | exact .there (.there (.there (.there (.there (.there (.there (.there (.there (.there .here))))))))) | exact .there (.there (.there (.there (.there (.there (.there (.there (.there (.there (.there .here)))))))))) | exact .there (.there (.there (.there (.there (.there (.there (.there (.there (.there (.there (.there .here))))))))))) | exact .there (.there (.there (.there (.there (.there (.there (.there (.there (.there (.there (.there (.there .here)))))))))))) | exact .there (.there (.there (.there (.there (.there (.there (.there (.there (.there (.there (.there (.there (.there .here))))))))))))) | exact .there (.there (.there (.there (.there (.there (.there (.there (.there (.there (.there (.there (.there (.there (.there .here)))))))))))))))
  refine ⟨_, rfl, hH.kp0, ?_⟩
  clear hS; intro a hS
  refine r_extract hS hH.kp0 rfl rfl rfl ?_; clear hS; intro a hS
  refine r_extract hS hH.kp0 rfl rfl rfl ?_; clear hS; intro a hS
  refine r_store_row hS hH rfl rfl (by first | exact .here | exact .there .here | exact .there (.there .here) | exact .there (.there (.there .here)) | exact .there (.there (.there (.there .here))) | exact .there (.there (.there (.there (.there .here)))) | exact .there (.there (.there (.there (.there (.there .here))))) | exact .there (.there (.there (.there (.there (.there (.there .here)))))) | exact .there (.there (.there (.there (.there (.there (.there (.there .here))))))) | exact .there (.there (.there (.there (.there (.there (.there (.there (.there .here)))))))) | exact .there (.there (.there (.there (.there (.there (.there (.there (.there (.there .here))))))))) | exact .there (.there (.there (.there (.there (.there (.there (.there (.there (.there (.there .here)))))))))) | exact .there (.there (.there (.there (.there (.there (.there (.there (.there (.there (.there (.there .here))))))))))) | exact .there (.there (.there (.there (.there (.there (.there (.there (.there (.there (.there (.there (.there .here)))))))))))) | exact .there (.there (.there (.there (.there (.there (.there (.there (.there (.there (.there (.there (.there (.there .here))))))))))))) | exact .there (.there (.there (.there (.there (.there (.there (.there (.there (.there (.there (.there (.there (.there (.there .here))))))))))))))) (by repeat (first | exact Sub.nil | refine Sub.cons ?_ ?_ | exact In.here | refine In.there ?_)) Fc.sz26 (by first | exact hcells_one _ | exact of_decide_eq_true rfl) (by rfl) (by first | exact .inr (by assumption) | exact .inl (by first | assumption | rfl)) ?_
  clear hH; intro w hH
  refine r_assign hS hH.kp0 rfl rfl ?_; clear hS; intro a hS
  refine Sq.nil ?_
  refine then_n ?_
  refine wp_ret ?_
  exact leave (.inl rfl) hS rfl (Res.cell rfl (hH.get (by repeat (first | exact In.here | refine In.there ?_))) Fc.ag26 (by rfl) rfl (Res.tmp rfl Res.nil)) ⟨_, _, V1, ts1, rfl, (hH.vin hvi1.ok hvi1.n01 hvi1.n23 (by repeat (first | exact In.here | refine In.there ?_)) (by repeat (first | exact In.here | refine In.there ?_)) (by repeat (first | exact In.here | refine In.there ?_)) (by repeat (first | exact In.here | refine In.there ?_))), ⟨hVS1, hH.mod⟩, hof⟩

set_option maxRecDepth 100000 in
set_option maxHeartbeats 1000000 in
theorem secret_v (b : Nat) (V : VB) (ts : List Tm) (h : List UInt8) (hh : h.length = 16) (j : Nat) (t : Tm) (hnm : h = nm j) (ht : ts[j]? = some t) (hk : t.kind = 3) (hm : ts.length ≤ 1000000000) (w0 : World) (hvi : VI w0 b V ts) : Calls Try.prog 70 #[.pointer (some ⟨b, 0, none⟩), hnd h] w0 fun e w' => e = .returned (.tuple #[.int .i64 t.a, .int .i64 0]) ∧ Ext w0 w' := by
  refine enter Try.func70 rfl rfl rfl ?_
  intro a hS
  have hH := Hp.start w0 (Nobody)
  obtain ⟨x0, x1, x2, x3, x4, x5, x6, x7, x8, x9, xa, xb, xc, xd, xe, xf, rfl⟩ := len16 hh
  replace hH := hH.knowV hvi (by intro p hp; simp at hp)
  obtain ⟨g2, hm2, hf2⟩ := hvi.ok.names
  obtain ⟨n0, th, e1, e2, hcase⟩ := hf2.look2 [x0, x1, x2, x3, x4, x5, x6, x7, x8, x9, xa, xb, xc, xd, xe, xf]
  rcases hcase.symm with ⟨_, _, hno⟩ | ⟨h, j9, hj9, hn0, hgj⟩
  · exact absurd hnm (hno j (at_lt ht))
  subst h
  subst hn0
  obtain rfl : j9 = j := nm_inj (by have := at_lt ht; omega) (by have := at_lt ht; omega) (hgj.symm.trans hnm)
  refine c_seq ?_
  refine reg_plain w0 (Nobody) ?_
  refine r_box hS hH (by repeat (first | exact Sub.nil | refine Sub.cons ?_ ?_ | exact In.here | refine In.there ?_)) rfl rfl rfl ?_
  clear hS hH; intro a w b3 hb3 hwb3 hS hH
  refine r_assign hS hH.kp0 rfl rfl ?_; clear hS; intro a hS
  refine r_assign hS hH.kp0 rfl rfl ?_; clear hS; intro a hS
  refine Sq.nil ?_
  refine then_n ?_
  refine c_seq ?_
  refine c_seq ?_
  refine reg_plain w0 (Nobody) ?_
  refine r_move hS hH.kp0 rfl rfl ?_; clear hS; intro a hS
  refine r_call (l := [.tmp 8]) hS rfl rfl Fc.fn49 rfl ?_
  refine Calls.mono (none_v b V ts _ (hH.vin hvi.ok hvi.n01 hvi.n23 (by repeat (first | exact In.here | refine In.there ?_)) (by repeat (first | exact In.here | refine In.there ?_)) (by repeat (first | exact In.here | refine In.there ?_)) (by repeat (first | exact In.here | refine In.there ?_)))) ?_
  rintro e w1 ⟨rfl, hE⟩
  replace hH := hH.ext hE
  refine ⟨_, rfl, hH.kp0, ?_⟩
  clear hS; intro a hS
  refine Sq.nil ?_
  refine then_n ?_
  refine c_condF hS rfl rfl ?_
  refine wp_skip ?_
  refine then_n ?_
  refine c_seq ?_
  refine reg_draw [(true, 0, []), (true, 1, []), (true, 2, []), (true, 3, []), (true, 4, []), (true, 5, []), (true, 6, []), (true, 7, []), (true, 8, []), (true, 9, []), (true, 10, [])] Fc.mixed (by kernel_rfl) (by kernel_rfl) (by kernel_rfl) (by kernel_rfl) (by kernel_rfl) (by repeat (first | with_reducible exact steady_body | with_reducible apply steady_block | with_reducible apply steady_then | exact steady_body)) hH ?_
  replace hH := hH.drew
  refine r_move hS trivial rfl rfl ?_; clear hS; intro a hS
  refine r_nilCheck hS trivial rfl rfl ?_; clear hS; intro a hS
  refine r_fieldAddr hS trivial rfl Fc.fo71_2 rfl ?_; clear hS; intro a hS
  refine r_load_scS hS rfl (by repeat (first | exact In.here | refine In.there ?_)) Fc.sc69 (by rfl) rfl ?_; clear hS; intro a hS
  refine r_load_rowS hS rfl (by repeat (first | exact In.here | refine In.there ?_)) Fc.ag26 (by rfl) rfl ?_; clear hS; intro a hS
  refine r_lookupS2 Fc.mtN hS rfl rfl (by repeat (first | exact In.here | refine In.there ?_)) hm2 (Fc.arrH.keyOf (h := [x0, x1, x2, x3, x4, x5, x6, x7, x8, x9, xa, xb, xc, xd, xe, xf]) rfl) e1 e2 rfl ?_; clear hS; intro a hS
  refine r_move hS trivial rfl rfl ?_; clear hS; intro a hS
  refine r_extract hS trivial rfl rfl rfl ?_; clear hS; intro a hS
  refine r_extract hS trivial rfl rfl rfl ?_; clear hS; intro a hS
  refine r_assign hS trivial rfl rfl ?_; clear hS; intro a hS
  refine r_assign hS trivial rfl rfl ?_; clear hS; intro a hS
  refine Sq.nil ?_
  refine then_n ?_
  refine c_seq ?_
  refine c_seq ?_
  refine reg_plain w0 (Nobody) ?_
  refine r_move hS hH.kp0 rfl rfl ?_; clear hS; intro a hS
  refine r_not hS hH.kp0 rfl rfl ?_; clear hS; intro a hS
  refine r_move hS hH.kp0 rfl rfl ?_; clear hS; intro a hS
  refine Sq.guardYes hS rfl rfl rfl ?_
  refine r_move hS hH.kp0 rfl rfl ?_; clear hS; intro a hS
  refine Sq.guardYes hS rfl rfl rfl ?_
  refine r_nilCheck hS hH.kp0 rfl rfl ?_; clear hS; intro a hS
  refine Sq.guardYes hS rfl rfl rfl ?_
  refine r_fieldAddr hS hH.kp0 rfl Fc.fo71_0 rfl ?_; clear hS; intro a hS
  refine Sq.guardYes hS rfl rfl rfl ?_
  refine r_load_sc hS hH (by repeat (first | exact Sub.nil | refine Sub.cons ?_ ?_ | exact In.here | refine In.there ?_)) rfl (by repeat (first | exact In.here | refine In.there ?_)) Fc.sc67 (by rfl) rfl ?_; clear hS; intro a hS
  refine Sq.guardYes hS rfl rfl rfl ?_
  refine r_move hS hH.kp0 rfl rfl ?_; clear hS; intro a hS
  refine Sq.guardYes hS rfl rfl rfl ?_
  refine r_indexAddrS (j := j9) hS hH.kp0 rfl rfl Fc.slb67 rfl hj9 rfl ?_; clear hS; intro a hS
  refine Sq.guardYes hS rfl rfl rfl ?_
  refine r_fieldAddr hS hH.kp0 rfl Fc.fo93_0 rfl ?_; clear hS; intro a hS
  refine Sq.guardYes hS rfl rfl rfl ?_
  refine r_load_sc hS hH (by repeat (first | exact Sub.nil | refine Sub.cons ?_ ?_ | exact In.here | refine In.there ?_)) rfl (by repeat (first | exact In.here | refine In.there ?_)) Fc.sc3 (v := .int .i64 t.kind) (hvi.ok.fld ht (q := 0) rfl) rfl ?_; clear hS; intro a hS
  refine Sq.guardYes hS rfl rfl rfl ?_
  refine r_neq hS hH.kp0 rfl rfl rfl ?_; clear hS; intro a hS
  refine r_pickF hS hH.kp0 rfl rfl rfl rfl ?_; clear hS; intro a hS
  refine Sq.nil ?_
  refine then_n ?_
  refine c_condF hS rfl (by simp [hk]) ?_
  refine wp_skip ?_
  refine then_n ?_
  refine c_seq ?_
  refine reg_plain w0 (Nobody) ?_
  refine r_move hS hH.kp0 rfl rfl ?_; clear hS; intro a hS
  refine r_nilCheck hS hH.kp0 rfl rfl ?_; clear hS; intro a hS
  refine r_fieldAddr hS hH.kp0 rfl Fc.fo71_0 rfl ?_; clear hS; intro a hS
  refine r_load_sc hS hH (by repeat (first | exact Sub.nil | refine Sub.cons ?_ ?_ | exact In.here | refine In.there ?_)) rfl (by repeat (first | exact In.here | refine In.there ?_)) Fc.sc67 (by rfl) rfl ?_; clear hS; intro a hS
  refine r_move hS hH.kp0 rfl rfl ?_; clear hS; intro a hS
  refine r_indexAddrS (j := j9) hS hH.kp0 rfl rfl Fc.slb67 rfl hj9 rfl ?_; clear hS; intro a hS
  refine r_fieldAddr hS hH.kp0 rfl Fc.fo93_1 rfl ?_; clear hS; intro a hS
  refine r_load_sc hS hH (by repeat (first | exact Sub.nil | refine Sub.cons ?_ ?_ | exact In.here | refine In.there ?_)) rfl (by repeat (first | exact In.here | refine In.there ?_)) Fc.sc3 (v := .int .i64 t.a) (hvi.ok.fld ht (q := 1) rfl) rfl ?_; clear hS; intro a hS
  refine r_assign hS hH.kp0 rfl rfl ?_; clear hS; intro a hS
  refine r_assign hS hH.kp0 rfl rfl ?_; clear hS; intro a hS
  refine Sq.nil ?_
  refine then_n ?_
  refine wp_ret ?_
  exact leave (.inl rfl) hS rfl (Res.tmp rfl (Res.tmp rfl Res.nil)) ⟨rfl, hH.mod⟩

set_option maxRecDepth 100000 in
set_option maxHeartbeats 1000000 in
theorem Agree_v (b : Nat) (V : VB) (ts : List Tm) (h : List UInt8) (hh : h.length = 16) (g : List UInt8) (hg : g.length = 16) (i j o : Nat) (t : Tm) (hi : i < ts.length) (hnm : h = nm i) (hnm2 : g = nm j) (ht : ts[j]? = some t) (hk : t.kind = 3) (hto : t.a = o) (hol : o < ts.length) (hm : ts.length ≤ 1000000000) (w0 : World) (hvi : VI w0 b V ts) : Calls Try.prog 43 #[.pointer (some ⟨b, 0, none⟩), hnd h, hnd g] w0 fun e w' => ∃ h' k V' ts', e = .returned (.tuple #[hnd h', .int .i64 0]) ∧ h' = nm k ∧ VI w' b V' ts' ∧ VStep w0 w' b V V' ∧ Made ts (agrT (min i o) (max i o)) k ts' := by
  refine enter Try.func43 rfl rfl rfl ?_
  intro a hS
  have hH := Hp.start w0 (V.F b)
  obtain ⟨x0, x1, x2, x3, x4, x5, x6, x7, x8, x9, xa, xb, xc, xd, xe, xf, rfl⟩ := len16 hh
  obtain ⟨y0, y1, y2, y3, y4, y5, y6, y7, y8, y9, ya, yb, yc, yd, ye, yf, rfl⟩ := len16 hg
  replace hH := hH.knowV hvi (by intro p hp; simp at hp)
  have hVS := VS.start w0 b V
  obtain ⟨g2, hm2, hf2⟩ := hvi.ok.names
  obtain ⟨n0, th, e1, e2, hcase⟩ := hf2.look2 [x0, x1, x2, x3, x4, x5, x6, x7, x8, x9, xa, xb, xc, xd, xe, xf]
  rcases hcase.symm with ⟨_, _, hno⟩ | ⟨h, j9, hj9, hn0, hgj⟩
  · exact absurd hnm (hno i hi)
  subst h
  subst hn0
  obtain rfl : j9 = i := nm_inj (by omega) (by omega) (hgj.symm.trans hnm)
  refine c_seq ?_
  refine reg_plain w0 (V.F b) ?_
  refine r_box hS hH (by repeat (first | exact Sub.nil | refine Sub.cons ?_ ?_ | exact In.here | refine In.there ?_)) rfl rfl rfl ?_
  clear hS hH; intro a w b4 hb4 hwb4 hS hH
  refine r_box hS hH (by repeat (first | exact Sub.nil | refine Sub.cons ?_ ?_ | exact In.here | refine In.there ?_)) rfl rfl rfl ?_
  clear hS hH; intro a w b5 hb5 hwb5 hS hH
  refine r_alloc hS hH (by repeat (first | exact Sub.nil | refine Sub.cons ?_ ?_ | exact In.here | refine In.there ?_)) Fc.zc26 rfl ?_
  clear hS hH; intro a w b6 hb6 hwb6 hS hH
  refine r_assign hS hH.kp0 rfl rfl ?_; clear hS; intro a hS
  refine Sq.nil ?_
  refine then_n ?_
  refine c_seq ?_
  refine reg_plain w0 (V.F b) ?_
  refine r_move hS hH.kp0 rfl rfl ?_; clear hS; intro a hS
  refine r_load_row hS hH (by repeat (first | exact Sub.nil | refine Sub.cons ?_ ?_ | exact In.here | refine In.there ?_)) rfl (by repeat (first | exact In.here | refine In.there ?_)) Fc.ag26 (by rfl) rfl ?_; clear hS; intro a hS
  refine r_call (l := [.tmp 13, .tmp 14]) hS rfl rfl Fc.fn70 rfl ?_
  refine Calls.mono (secret_v b V ts [y0, y1, y2, y3, y4, y5, y6, y7, y8, y9, ya, yb, yc, yd, ye, yf] rfl j t hnm2 ht hk hm _ (hH.vin hvi.ok hvi.n01 hvi.n23 (by repeat (first | exact In.here | refine In.there ?_)) (by repeat (first | exact In.here | refine In.there ?_)) (by repeat (first | exact In.here | refine In.there ?_)) (by repeat (first | exact In.here | refine In.there ?_)))) ?_
  rintro e w1 ⟨rfl, hE⟩
  replace hH := hH.ext hE
  refine ⟨_, rfl, hH.kp0, ?_⟩
  clear hS; intro a hS
  refine r_move hS hH.kp0 rfl rfl ?_; clear hS; intro a hS
  refine r_extract hS hH.kp0 rfl rfl rfl ?_; clear hS; intro a hS
  refine r_extract hS hH.kp0 rfl rfl rfl ?_; clear hS; intro a hS
  refine r_assign hS hH.kp0 rfl rfl ?_; clear hS; intro a hS
  refine r_assign hS hH.kp0 rfl rfl ?_; clear hS; intro a hS
  refine Sq.nil ?_
  refine then_n ?_
  refine c_seq ?_
  refine c_seq ?_
  refine reg_plain w0 (V.F b) ?_
  refine r_move hS hH.kp0 rfl rfl ?_; clear hS; intro a hS
  refine r_neq hS hH.kp0 rfl rfl rfl ?_; clear hS; intro a hS
  refine Sq.nil ?_
  refine then_n ?_
  refine c_condF hS rfl rfl ?_
  refine wp_skip ?_
  refine then_n ?_
  refine c_seq ?_
  refine reg_draw [(true, 0, []), (true, 1, []), (true, 2, []), (true, 3, []), (true, 4, []), (true, 5, []), (true, 6, []), (true, 7, []), (true, 8, []), (true, 9, []), (true, 10, [])] Fc.mixed (by kernel_rfl) (by kernel_rfl) (by kernel_rfl) (by kernel_rfl) (by kernel_rfl) (by repeat (first | with_reducible exact steady_body | with_reducible apply steady_block | with_reducible apply steady_then | exact steady_body)) hH ?_
  replace hH := hH.drew
  refine r_move hS trivial rfl rfl ?_; clear hS; intro a hS
  refine r_nilCheck hS trivial rfl rfl ?_; clear hS; intro a hS
  refine r_fieldAddr hS trivial rfl Fc.fo71_2 rfl ?_; clear hS; intro a hS
  refine r_load_scS hS rfl (by repeat (first | exact In.here | refine In.there ?_)) Fc.sc69 (by rfl) rfl ?_; clear hS; intro a hS
  refine r_load_rowS hS rfl (by repeat (first | exact In.here | refine In.there ?_)) Fc.ag26 (by rfl) rfl ?_; clear hS; intro a hS
  refine r_lookupS2 Fc.mtN hS rfl rfl (by repeat (first | exact In.here | refine In.there ?_)) hm2 (Fc.arrH.keyOf (h := [x0, x1, x2, x3, x4, x5, x6, x7, x8, x9, xa, xb, xc, xd, xe, xf]) rfl) e1 e2 rfl ?_; clear hS; intro a hS
  refine r_move hS trivial rfl rfl ?_; clear hS; intro a hS
  refine r_extract hS trivial rfl rfl rfl ?_; clear hS; intro a hS
  refine r_extract hS trivial rfl rfl rfl ?_; clear hS; intro a hS
  refine r_assign hS trivial rfl rfl ?_; clear hS; intro a hS
  refine r_assign hS trivial rfl rfl ?_; clear hS; intro a hS
  refine Sq.nil ?_
  refine then_n ?_
  refine c_seq ?_
  refine c_seq ?_
  refine reg_plain w0 (V.F b) ?_
  refine r_move hS hH.kp0 rfl rfl ?_; clear hS; intro a hS
  refine r_not hS hH.kp0 rfl rfl ?_; clear hS; intro a hS
  refine Sq.nil ?_
  refine then_n ?_
  refine c_condF hS rfl rfl ?_
  refine wp_skip ?_
  refine then_n ?_
  refine c_seq ?_
  rw [hto] at hS
  refine reg_plain w0 (V.F b) ?_
  refine r_move hS hH.kp0 rfl rfl ?_; clear hS; intro a hS
  refine r_move hS hH.kp0 rfl rfl ?_; clear hS; intro a hS
  refine r_move hS hH.kp0 rfl rfl ?_; clear hS; intro a hS
  refine r_minN (m := j9) (k := o) hS hH.kp0 rfl rfl rfl ?_; clear hS; intro a hS
  refine r_move hS hH.kp0 rfl rfl ?_; clear hS; intro a hS
  refine r_move hS hH.kp0 rfl rfl ?_; clear hS; intro a hS
  refine r_maxN (m := j9) (k := o) hS hH.kp0 rfl rfl rfl ?_; clear hS; intro a hS
  refine r_buildS (parts := [(0, .const (.int .i64 4)), (1, .tmp 37), (2, .tmp 40)]) hS hH.kp0 rfl rfl Fc.zc93 Fc.pl93 (by rfl) ?_; clear hS; intro a hS
  refine r_call (l := [.tmp 34, .tmp 41]) hS rfl rfl Fc.fn46 rfl ?_
  refine Calls.mono (make_c b V ts (agrT (min j9 o) (max j9 o)) (agrT_ok (by omega) (by omega)) hm _ (hH.vin hvi.ok hvi.n01 hvi.n23 (by repeat (first | exact In.here | refine In.there ?_)) (by repeat (first | exact In.here | refine In.there ?_)) (by repeat (first | exact In.here | refine In.there ?_)) (by repeat (first | exact In.here | refine In.there ?_)))) ?_
  rintro e w1 ⟨h, k, V1, ts1, rfl, hqz, hvi1, hst, hmd⟩
  obtain ⟨z0, z1, z2, z3, z4, z5, z6, z7, z8, z9, za, zb, zc, zd, ze, zf, rfl⟩ := len16 (h := h) (by rw [hqz]; rfl)
  have hVS1 := hVS.step hst hH.mod.size
  replace hH := hH.vault hVS hst hvi1 (by first | exact .here | exact .there .here | exact .there (.there .here) | exact .there (.there (.there .here)) | exact .there (.there (.there (.there .here))) | exact .there (.there (.there (.there (.there .here)))) | exact .there (.there (.there (.there (.there (.there .here))))) | exact .there (.there (.there (.there (.there (.there (.there .here)))))) | exact .there (.there (.there (.there (.there (.there (.there (.there .here))))))) | exact .there (.there (.there (.there (.there (.there (.there (.there (.there .here)))))))) | exact .there (.there (.there (.there (.there (.there (.there (.there (.there (.there .here))))))))) | exact .there (.there (.there (.there (.there (.there (.there (.there (.there (.there (.there .here)))))))))) | exact .there (.there (.there (.there (.there (.there (.there (.there (.there (.there (.there (.there .here))))))))))) | exact .there (.there (.there (.there (.there (.there (.there (.there (.there (.there (.there (.there (.there .here)))))))))))) | exact .there (.there (.there (.there (.there (.there (.there (.there (.there (.there (.there (.there (.there (.there .here))))))))))))) | exact .there (.there (.there (.there (.there (.there (.there (.there (.there (.there (.there (.there (.there (.there (.there .here)))))))))))))))
  refine ⟨_, rfl, hH.kp0, ?_⟩
  clear hS; intro a hS
  refine r_store_row hS hH rfl rfl (by first | exact .here | exact .there .here | exact .there (.there .here) | exact .there (.there (.there .here)) | exact .there (.there (.there (.there .here))) | exact .there (.there (.there (.there (.there .here)))) | exact .there (.there (.there (.there (.there (.there .here))))) | exact .there (.there (.there (.there (.there (.there (.there .here)))))) | exact .there (.there (.there (.there (.there (.there (.there (.there .here))))))) | exact .there (.there (.there (.there (.there (.there (.there (.there (.there .here)))))))) | exact .there (.there (.there (.there (.there (.there (.there (.there (.there (.there .here))))))))) | exact .there (.there (.there (.there (.there (.there (.there (.there (.there (.there (.there .here)))))))))) | exact .there (.there (.there (.there (.there (.there (.there (.there (.there (.there (.there (.there .here))))))))))) | exact .there (.there (.there (.there (.there (.there (.there (.there (.there (.there (.there (.there (.there .here)))))))))))) | exact .there (.there (.there (.there (.there (.there (.there (.there (.there (.there (.there (.there (.there (.there .here))))))))))))) | exact .there (.there (.there (.there (.there (.there (.there (.there (.there (.there (.there (.there (.there (.there (.there .here))))))))))))))) (by repeat (first | exact Sub.nil | refine Sub.cons ?_ ?_ | exact In.here | refine In.there ?_)) Fc.sz26 (by first | exact hcells_one _ | exact of_decide_eq_true rfl) (by rfl) (by first | exact .inr (by assumption) | exact .inl (by first | assumption | rfl)) ?_
  clear hH; intro w hH
  refine r_assign hS hH.kp0 rfl rfl ?_; clear hS; intro a hS
  refine Sq.nil ?_
  refine then_n ?_
  refine wp_ret ?_
  exact leave (.inl rfl) hS rfl (Res.cell rfl (hH.get (by repeat (first | exact In.here | refine In.there ?_))) Fc.ag26 (by rfl) rfl (Res.tmp rfl Res.nil)) ⟨_, k, V1, ts1, rfl, hqz, (hH.vin hvi1.ok hvi1.n01 hvi1.n23 (by repeat (first | exact In.here | refine In.there ?_)) (by repeat (first | exact In.here | refine In.there ?_)) (by repeat (first | exact In.here | refine In.there ?_)) (by repeat (first | exact In.here | refine In.there ?_))), ⟨hVS1, hH.mod⟩, hmd⟩

set_option maxRecDepth 100000 in
set_option maxHeartbeats 2000000 in
theorem Verify_v (b : Nat) (V : VB) (ts : List Tm) (h : List UInt8) (hh : h.length = 16) (g : List UInt8) (hg : g.length = 16) (v : Value) (l : List UInt8) (hl : l.length ≤ 9223372036854775807) (j s : Nat) (t : Tm) (hnm2 : h = nm j) (ht : ts[j]? = some t) (hk : t.kind = 3) (hft : fits t.a) (hs : g = nm s) (hsl : s < ts.length) (hm : ts.length ≤ 1000000000) (w0 : World) (hvi : VI w0 b V ts) (hb : Bs w0 v l) : Calls Try.prog 45 #[.pointer (some ⟨b, 0, none⟩), hnd h, v, hnd g] w0 fun e w' => ∃ x : Int, e = .returned (.int .i64 x) ∧ ((x = 0 ∧ ts[s]? = some { sgnT (strOf l) with a := t.a }) ∨ (x = 21 ∧ ts[s]? ≠ some { sgnT (strOf l) with a := t.a })) ∧ Ext w0 w' := by
  refine enter Try.func45 rfl rfl rfl ?_
  intro a hS
  have hH := Hp.start w0 (Nobody)
  obtain ⟨x0, x1, x2, x3, x4, x5, x6, x7, x8, x9, xa, xb, xc, xd, xe, xf, rfl⟩ := len16 hh
  obtain ⟨y0, y1, y2, y3, y4, y5, y6, y7, y8, y9, ya, yb, yc, yd, ye, yf, rfl⟩ := len16 hg
  replace hH := hH.knowV hvi (by intro p hp; simp at hp)
  have hok5 : (sgnT (strOf l)).ok := sgnT_ok hl
  obtain ⟨g1, hm1, hf1⟩ := hvi.ok.found
  obtain ⟨lx, hkt⟩ := Fc.tm.keyOf (u := { sgnT (strOf l) with a := t.a }) ⟨hok5.kind, hft, hok5.b, hok5.number, hok5.label, hok5.also, hok5.bytes⟩
  obtain ⟨v9, b9, e1, e2, hlk⟩ : ∃ v9 b9, orZ (g1 (tv { sgnT (strOf l) with a := t.a })) (.int .i64 0) = v9 ∧ (g1 (tv { sgnT (strOf l) with a := t.a })).isSome = b9 ∧ ((∃ n : Nat, v9 = .int .i64 (n : Int) ∧ b9 = true ∧ ts[n]? = some { sgnT (strOf l) with a := t.a }) ∨ (v9 = .int .i64 0 ∧ b9 = false ∧ (({ sgnT (strOf l) with a := t.a } : Tm).kind = 1 ∨ { sgnT (strOf l) with a := t.a } ∉ ts))) := by
    rcases hf1.look { sgnT (strOf l) with a := t.a } with ⟨i, h1, h2, h3⟩ | ⟨h1, h2, h3⟩
    · exact ⟨_, _, h1, h2, .inl ⟨i, rfl, rfl, h3⟩⟩
    · exact ⟨_, _, h1, h2, .inr ⟨rfl, rfl, h3⟩⟩
  refine c_seq ?_
  refine reg_plain w0 (Nobody) ?_
  refine r_box hS hH (by repeat (first | exact Sub.nil | refine Sub.cons ?_ ?_ | exact In.here | refine In.there ?_)) rfl rfl rfl ?_
  clear hS hH; intro a w b5 hb5 hwb5 hS hH
  refine r_box hS hH (by repeat (first | exact Sub.nil | refine Sub.cons ?_ ?_ | exact In.here | refine In.there ?_)) rfl rfl rfl ?_
  clear hS hH; intro a w b7 hb7 hwb7 hS hH
  refine r_assign hS hH.kp0 rfl rfl ?_; clear hS; intro a hS
  refine Sq.nil ?_
  refine then_n ?_
  refine c_seq ?_
  refine reg_plain w0 (Nobody) ?_
  refine r_move hS hH.kp0 rfl rfl ?_; clear hS; intro a hS
  refine r_load_row hS hH (by repeat (first | exact Sub.nil | refine Sub.cons ?_ ?_ | exact In.here | refine In.there ?_)) rfl (by repeat (first | exact In.here | refine In.there ?_)) Fc.ag26 (by rfl) rfl ?_; clear hS; intro a hS
  refine r_call (l := [.tmp 14, .tmp 15]) hS rfl rfl Fc.fn70 rfl ?_
  refine Calls.mono (secret_v b V ts [x0, x1, x2, x3, x4, x5, x6, x7, x8, x9, xa, xb, xc, xd, xe, xf] rfl j t hnm2 ht hk hm _ (hH.vin hvi.ok hvi.n01 hvi.n23 (by repeat (first | exact In.here | refine In.there ?_)) (by repeat (first | exact In.here | refine In.there ?_)) (by repeat (first | exact In.here | refine In.there ?_)) (by repeat (first | exact In.here | refine In.there ?_)))) ?_
  rintro e w1 ⟨rfl, hE⟩
  replace hH := hH.ext hE
  refine ⟨_, rfl, hH.kp0, ?_⟩
  clear hS; intro a hS
  refine r_move hS hH.kp0 rfl rfl ?_; clear hS; intro a hS
  refine r_extract hS hH.kp0 rfl rfl rfl ?_; clear hS; intro a hS
  refine r_extract hS hH.kp0 rfl rfl rfl ?_; clear hS; intro a hS
  refine r_assign hS hH.kp0 rfl rfl ?_; clear hS; intro a hS
  refine r_assign hS hH.kp0 rfl rfl ?_; clear hS; intro a hS
  refine Sq.nil ?_
  refine then_n ?_
  refine c_seq ?_
  refine c_seq ?_
  refine reg_plain w0 (Nobody) ?_
  refine r_move hS hH.kp0 rfl rfl ?_; clear hS; intro a hS
  refine r_neq hS hH.kp0 rfl rfl rfl ?_; clear hS; intro a hS
  refine Sq.nil ?_
  refine then_n ?_
  refine c_condF hS rfl rfl ?_
  refine wp_skip ?_
  refine then_n ?_
  refine c_seq ?_
  refine reg_draw [(true, 0, []), (true, 1, []), (true, 2, []), (true, 3, []), (true, 4, []), (true, 5, []), (true, 6, []), (true, 7, []), (true, 8, []), (true, 9, []), (true, 10, []), (true, 11, []), (true, 12, []), (true, 13, [])] Fc.mixed (by kernel_rfl) (by kernel_rfl) (by kernel_rfl) (by kernel_rfl) (by kernel_rfl) (by repeat (first | with_reducible exact steady_body | with_reducible apply steady_block | with_reducible apply steady_then | exact steady_body)) hH ?_
  replace hH := hH.drew
  refine r_move hS trivial rfl rfl ?_; clear hS; intro a hS
  refine r_nilCheck hS trivial rfl rfl ?_; clear hS; intro a hS
  refine r_fieldAddr hS trivial rfl Fc.fo71_1 rfl ?_; clear hS; intro a hS
  refine r_load_scS hS rfl (by repeat (first | exact In.here | refine In.there ?_)) Fc.sc68 (by rfl) rfl ?_; clear hS; intro a hS
  refine r_move hS trivial rfl rfl ?_; clear hS; intro a hS
  refine r_move hS trivial rfl rfl ?_; clear hS; intro a hS
  refine r_bytesStrS hS rfl (fun w hw => hb.ext hw.2) Fc.u8s22 Fc.isStr9 rfl ?_; clear hS; intro a hS
  refine r_buildS (parts := [(0, .const (.int .i64 5)), (1, .tmp 27), (6, .tmp 29)]) hS trivial rfl rfl Fc.zc93 Fc.pl93 (by rfl) ?_; clear hS; intro a hS
  refine r_lookupS2 Fc.mtF hS rfl rfl (by repeat (first | exact In.here | refine In.there ?_)) hm1 hkt e1 e2 rfl ?_; clear hS; intro a hS
  refine r_move hS trivial rfl rfl ?_; clear hS; intro a hS
  refine r_extract hS trivial rfl rfl rfl ?_; clear hS; intro a hS
  refine r_extract hS trivial rfl rfl rfl ?_; clear hS; intro a hS
  refine r_assign hS trivial rfl rfl ?_; clear hS; intro a hS
  refine r_assign hS trivial rfl rfl ?_; clear hS; intro a hS
  refine Sq.nil ?_
  refine then_n ?_
  refine c_seq ?_
  refine c_seq ?_
  refine reg_draw [(true, 0, []), (true, 1, []), (true, 2, []), (true, 3, []), (true, 4, []), (false, 5, []), (true, 6, []), (true, 7, [])] Fc.mixed (by kernel_rfl) (by kernel_rfl) (by kernel_rfl) (by kernel_rfl) (by kernel_rfl) (by repeat (first | with_reducible exact steady_body | with_reducible apply steady_block | with_reducible apply steady_then | exact steady_body)) hH ?_
  replace hH := hH.drew
  refine r_move hS trivial rfl rfl ?_; clear hS; intro a hS
  refine r_not hS trivial rfl rfl ?_; clear hS; intro a hS
  rcases hlk with ⟨n, rfl, rfl, hn⟩ | ⟨rfl, rfl, hno⟩
  · have hnl := at_lt hn
    have hver := ver_yes hvi.ok (s := s) hn (by show (5 : Int) ≠ 1; decide)
    refine r_move hS trivial rfl rfl ?_; clear hS; intro a hS
    refine Sq.guardYes hS rfl rfl rfl ?_
    refine r_load_rowS hS rfl (by repeat (first | exact In.here | refine In.there ?_)) Fc.ag26 (by rfl) rfl ?_; clear hS; intro a hS
    refine Sq.guardYes hS rfl rfl rfl ?_
    refine r_move hS trivial rfl rfl ?_; clear hS; intro a hS
    refine Sq.guardYes hS rfl rfl rfl ?_
    refine r_call (l := [.tmp 38]) hS rfl rfl Fc.fn58 rfl ?_
    refine Calls.mono (name_c n (by omega) _) ?_
    rintro e w1 ⟨h, rfl, hqz, hE⟩
    obtain ⟨z0, z1, z2, z3, z4, z5, z6, z7, z8, z9, za, zb, zc, zd, ze, zf, rfl⟩ := len16 (h := h) (by rw [hqz]; rfl)
    replace hH := hH.ext hE
    refine ⟨_, rfl, hH.kp (by repeat (first | exact Sub.nil | refine Sub.cons ?_ ?_ | exact In.here | refine In.there ?_)), ?_⟩
    clear hS; intro a hS
    refine Sq.guardYes hS rfl rfl rfl ?_
    refine r_arrNeq (h := [y0, y1, y2, y3, y4, y5, y6, y7, y8, y9, ya, yb, yc, yd, ye, yf]) (g := [z0, z1, z2, z3, z4, z5, z6, z7, z8, z9, za, zb, zc, zd, ze, zf]) Fc.arrH hS trivial rfl rfl rfl rfl rfl ?_; clear hS; intro a hS
    refine r_pickF hS trivial rfl rfl rfl rfl ?_; clear hS; intro a hS
    refine Sq.nil ?_
    refine then_n ?_
    refine c_cond hS rfl (fun hc1 => ?_) (fun hc1 => ?_)
    · have hne : [y0, y1, y2, y3, y4, y5, y6, y7, y8, y9, ya, yb, yc, yd, ye, yf] ≠ [z0, z1, z2, z3, z4, z5, z6, z7, z8, z9, za, zb, zc, zd, ze, zf] := fun e => by rw [DT e] at hc1; cases hc1
      have hx : n ≠ s := fun e => hne (by rw [hqz, hs, e])
      refine c_seq ?_
      refine reg_plain w0 (Nobody) ?_
      refine r_assign hS hH.kp0 rfl rfl ?_; clear hS; intro a hS
      refine Sq.nil ?_
      refine then_n ?_
      refine wp_ret ?_
      refine then_r ?_
      exact leave (.inl rfl) hS rfl (Res.tmp rfl Res.nil) ⟨21, rfl, .inr ⟨rfl, fun e => hx (hver.2 e)⟩, hH.mod⟩
    · have heq : [y0, y1, y2, y3, y4, y5, y6, y7, y8, y9, ya, yb, yc, yd, ye, yf] = [z0, z1, z2, z3, z4, z5, z6, z7, z8, z9, za, zb, zc, zd, ze, zf] := Decidable.byContradiction fun h => by rw [DF h] at hc1; cases hc1
      have hx : n = s := nm_inj (by omega) (by omega) (hqz.symm.trans (heq.symm.trans hs))
      refine wp_skip ?_
      refine then_n ?_
      refine c_seq ?_
      refine reg_plain w0 (Nobody) ?_
      refine r_assign hS hH.kp0 rfl rfl ?_; clear hS; intro a hS
      refine Sq.nil ?_
      refine then_n ?_
      refine wp_ret ?_
      exact leave (.inl rfl) hS rfl (Res.tmp rfl Res.nil) ⟨0, rfl, .inl ⟨rfl, hver.1 hx⟩, hH.mod⟩
  · refine r_move hS trivial rfl rfl ?_; clear hS; intro a hS
    refine Sq.guardNo hS rfl rfl rfl trivial rfl ?_; clear hS; intro a hS
    refine Sq.guardNo hS rfl rfl rfl trivial rfl ?_; clear hS; intro a hS
    refine Sq.guardNo hS rfl rfl rfl (hH.kp (by repeat (first | exact Sub.nil | refine Sub.cons ?_ ?_ | exact In.here | refine In.there ?_))) rfl ?_; clear hS; intro a hS
    refine Sq.guardNo hS rfl rfl rfl trivial rfl ?_; clear hS; intro a hS
    refine r_pickT hS trivial rfl rfl rfl rfl ?_; clear hS; intro a hS
    refine Sq.nil ?_
    refine then_n ?_
    refine c_condT hS rfl rfl ?_
    refine c_seq ?_
    refine reg_plain w0 (Nobody) ?_
    refine r_assign hS hH.kp0 rfl rfl ?_; clear hS; intro a hS
    refine Sq.nil ?_
    refine then_n ?_
    refine wp_ret ?_
    refine then_r ?_
    refine leave (.inl rfl) hS rfl (Res.tmp rfl Res.nil) ⟨21, rfl, .inr ⟨rfl, fun e => ?_⟩, hH.mod⟩
    rcases hno with h | h
    · exact absurd h (by show ¬ ((5 : Int) = 1); decide)
    · exact h (List.mem_of_getElem? e)

end Go.Proofs.Ytcjmehononbadaa
