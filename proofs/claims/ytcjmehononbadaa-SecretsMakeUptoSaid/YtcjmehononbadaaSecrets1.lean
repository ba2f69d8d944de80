/- SecretsMake: any steps make the document's terms, or are refused. Part Secrets1: walks and lemmas of the proof. -/
import Derived.Test.YtcjmehononbadaaRef2
import Derived.Test.YtcjmehononbadaaSymActs
namespace Go.Proofs.Ytcjmehononbadaa
open Go.Sym

theorem Fc.fn53 : isFn Try.prog 53 = true := by kernel_rfl
theorem Fc.fn80 : isFn Try.prog 80 = true := by kernel_rfl
set_option maxRecDepth 100000 in
set_option maxHeartbeats 2000000 in
theorem two_c (b : Nat) (V : RB) (ts : List Tm) (hm : ts.length ≤ 999999950) (h : List UInt8) (hh : h.length = 16) (s s2 : ByteArray) (hs : s.size ≤ 9223372036854775807) (hs2 : s2.size ≤ 9223372036854775807) (v v2 : Value) (l l2 : List UInt8) (hl : l.length ≤ 1048576) (hl2 : l2.length ≤ 1048576) (w0 : World) (hri : RI w0 b V ts) (hb : BsF (V.F b) w0 v l) (hb2 : BsF (V.F b) w0 v2 l2) : Calls Try.prog 80 #[.pointer (some ⟨b, 0, none⟩), hnd h, .string s, v, .string s2, v2] w0 fun e w' => ∃ h' x V' ts', e = .returned (.tuple #[hnd h', .int .i64 x]) ∧ RI w' b V' ts' ∧ RStep w0 w' b V V' ∧ Of2 ts h (drv s (strOf l)) (drv s2 (strOf l2)) h' x ts' := by
  refine enter Try.func80 rfl rfl rfl ?_
  intro a hS
  have hH := Hp.start w0 (V.F b)
  obtain ⟨x0, x1, x2, x3, x4, x5, x6, x7, x8, x9, xa, xb, xc, xd, xe, xf, rfl⟩ := len16 hh
  replace hH := hH.knowR hri (by intro p hp; simp at hp)
  have hRS := RS.start w0 b V
  refine c_seq ?_
  refine reg_plain w0 (V.F b) ?_
  refine r_box hS hH (by repeat (first | exact Sub.nil | refine Sub.cons ?_ ?_ | exact In.here | refine In.there ?_)) rfl rfl rfl ?_
  clear hS hH; intro a w b7 hb7 hwb7 hS hH
  refine r_alloc hS hH (by repeat (first | exact Sub.nil | refine Sub.cons ?_ ?_ | exact In.here | refine In.there ?_)) Fc.zc25 rfl ?_
  clear hS hH; intro a w b12 hb12 hwb12 hS hH
  refine r_assign hS hH.kp0 rfl rfl ?_; clear hS; intro a hS
  refine Sq.nil ?_
  refine then_n ?_
  refine c_seq ?_
  refine reg_plain w0 (V.F b) ?_
  refine r_move hS hH.kp0 rfl rfl ?_; clear hS; intro a hS
  refine r_load_row hS hH (by repeat (first | exact Sub.nil | refine Sub.cons ?_ ?_ | exact In.here | refine In.there ?_)) rfl (by repeat (first | exact In.here | refine In.there ?_)) Fc.ag25 (by rfl) rfl ?_; clear hS; intro a hS
  refine r_move hS hH.kp0 rfl rfl ?_; clear hS; intro a hS
  refine r_move hS hH.kp0 rfl rfl ?_; clear hS; intro a hS
  refine r_call (l := [.tmp 17, .tmp 18, .tmp 19, .tmp 20]) hS rfl rfl Fc.fn53 rfl ?_
  refine Calls.mono (rDerive_c b V ts [x0, x1, x2, x3, x4, x5, x6, x7, x8, x9, xa, xb, xc, xd, xe, xf] rfl s _ l hs (by omega) (by omega) _ (hH.rin (TV := 116) (TT := 113) hri.ok rfl hri.n01 (by repeat (first | exact In.here | refine In.there ?_)) (by repeat (first | exact In.here | refine In.there ?_))) (hb.go hH.mod hRS)) ?_
  rintro e w1 ⟨h, xx1, V1, ts1, rfl, hri1, hst, hof1⟩
  obtain ⟨y0, y1, y2, y3, y4, y5, y6, y7, y8, y9, ya, yb, yc, yd, ye, yf, rfl⟩ := len16 (h := h) hof1.len
  have hln1 := hof1.lens
  have hRS1 := hRS.step hst hH.mod.size
  replace hH := hH.rvault hRS hst hri1 (by first | exact .two | exact .there .two | exact .there (.there .two) | exact .there (.there (.there .two)) | exact .there (.there (.there (.there .two))) | exact .there (.there (.there (.there (.there .two)))) | exact .there (.there (.there (.there (.there (.there .two))))) | exact .there (.there (.there (.there (.there (.there (.there .two)))))) | exact .there (.there (.there (.there (.there (.there (.there (.there .two))))))) | exact .there (.there (.there (.there (.there (.there (.there (.there (.there .two)))))))) | exact .there (.there (.there (.there (.there (.there (.there (.there (.there (.there .two))))))))) | exact .there (.there (.there (.there (.there (.there (.there (.there (.there (.there (.there .two)))))))))) | exact .there (.there (.there (.there (.there (.there (.there (.there (.there (.there (.there (.there .two))))))))))) | exact .there (.there (.there (.there (.there (.there (.there (.there (.there (.there (.there (.there (.there .two)))))))))))) | exact .there (.there (.there (.there (.there (.there (.there (.there (.there (.there (.there (.there (.there (.there .two))))))))))))) | exact .there (.there (.there (.there (.there (.there (.there (.there (.there (.there (.there (.there (.there (.there (.there .two)))))))))))))))
  clear hst
  refine ⟨_, rfl, hH.kp0, ?_⟩
  clear hS; intro a hS
  refine r_move hS hH.kp0 rfl rfl ?_; clear hS; intro a hS
  refine r_extract hS hH.kp0 rfl rfl rfl ?_; clear hS; intro a hS
  refine r_extract hS hH.kp0 rfl rfl rfl ?_; clear hS; intro a hS
  refine r_alloc hS hH (by repeat (first | exact Sub.nil | refine Sub.cons ?_ ?_ | exact In.here | refine In.there ?_)) Fc.zc25 rfl ?_
  clear hS hH; intro a w b14 hb14 hwb14 hS hH
  refine r_store_row hS hH rfl rfl (by first | exact .here | exact .there .here | exact .there (.there .here) | exact .there (.there (.there .here)) | exact .there (.there (.there (.there .here))) | exact .there (.there (.there (.there (.there .here)))) | exact .there (.there (.there (.there (.there (.there .here))))) | exact .there (.there (.there (.there (.there (.there (.there .here)))))) | exact .there (.there (.there (.there (.there (.there (.there (.there .here))))))) | exact .there (.there (.there (.there (.there (.there (.there (.there (.there .here)))))))) | exact .there (.there (.there (.there (.there (.there (.there (.there (.there (.there .here))))))))) | exact .there (.there (.there (.there (.there (.there (.there (.there (.there (.there (.there .here)))))))))) | exact .there (.there (.there (.there (.there (.there (.there (.there (.there (.there (.there (.there .here))))))))))) | exact .there (.there (.there (.there (.there (.there (.there (.there (.there (.there (.there (.there (.there .here)))))))))))) | exact .there (.there (.there (.there (.there (.there (.there (.there (.there (.there (.there (.there (.there (.there .here))))))))))))) | exact .there (.there (.there (.there (.there (.there (.there (.there (.there (.there (.there (.there (.there (.there (.there .here))))))))))))))) (by repeat (first | exact Sub.nil | refine Sub.cons ?_ ?_ | exact In.here | refine In.there ?_)) Fc.sz25 (by first | exact hcells_one _ | exact of_decide_eq_true rfl) (by rfl) (by first | exact .inr (by assumption) | exact .inl (by first | assumption | rfl)) ?_
  clear hH; intro w hH
  refine r_assign hS hH.kp0 rfl rfl ?_; clear hS; intro a hS
  refine Sq.nil ?_
  refine then_n ?_
  refine c_seq ?_
  refine c_seq ?_
  refine reg_plain w0 (V.F b) ?_
  refine r_move hS hH.kp0 rfl rfl ?_; clear hS; intro a hS
  refine r_neq hS hH.kp0 rfl rfl rfl ?_; clear hS; intro a hS
  refine Sq.nil ?_
  refine then_n ?_
  refine c_cond hS rfl (fun hc0 => ?_) (fun hc0 => ?_)
  · have hx : xx1 ≠ 0 := by simpa using hc0
    refine c_seq ?_
    refine reg_plain w0 (V.F b) ?_
    refine r_buildA (parts := []) hS hH.kp0 rfl rfl Fc.zc25 Fc.ar25 (by rfl) ?_; clear hS; intro a hS
    refine r_move hS hH.kp0 rfl rfl ?_; clear hS; intro a hS
    refine r_store_row hS hH rfl rfl (by first | exact .here | exact .there .here | exact .there (.there .here) | exact .there (.there (.there .here)) | exact .there (.there (.there (.there .here))) | exact .there (.there (.there (.there (.there .here)))) | exact .there (.there (.there (.there (.there (.there .here))))) | exact .there (.there (.there (.there (.there (.there (.there .here)))))) | exact .there (.there (.there (.there (.there (.there (.there (.there .here))))))) | exact .there (.there (.there (.there (.there (.there (.there (.there (.there .here)))))))) | exact .there (.there (.there (.there (.there (.there (.there (.there (.there (.there .here))))))))) | exact .there (.there (.there (.there (.there (.there (.there (.there (.there (.there (.there .here)))))))))) | exact .there (.there (.there (.there (.there (.there (.there (.there (.there (.there (.there (.there .here))))))))))) | exact .there (.there (.there (.there (.there (.there (.there (.there (.there (.there (.there (.there (.there .here)))))))))))) | exact .there (.there (.there (.there (.there (.there (.there (.there (.there (.there (.there (.there (.there (.there .here))))))))))))) | exact .there (.there (.there (.there (.there (.there (.there (.there (.there (.there (.there (.there (.there (.there (.there .here))))))))))))))) (by repeat (first | exact Sub.nil | refine Sub.cons ?_ ?_ | exact In.here | refine In.there ?_)) Fc.sz25 (by first | exact hcells_one _ | exact of_decide_eq_true rfl) (by rfl) (by first | exact .inr (by assumption) | exact .inl (by first | assumption | rfl)) ?_
    clear hH; intro w hH
    refine r_assign hS hH.kp0 rfl rfl ?_; clear hS; intro a hS
    refine Sq.nil ?_
    refine then_n ?_
    refine wp_ret ?_
    refine then_r ?_
    exact leave (.inl rfl) hS rfl (Res.cell rfl (hH.get (by repeat (first | exact In.here | refine In.there ?_))) Fc.ag25 (by rfl) rfl (Res.tmp rfl Res.nil)) ⟨zH, xx1, V1, ts1, rfl, (hH.rin (TV := 116) (TT := 113) hri1.ok rfl hri1.n01 (by repeat (first | exact In.here | refine In.there ?_)) (by repeat (first | exact In.here | refine In.there ?_))), ⟨hRS1, hH.mod⟩, _, _, _, hof1, .inl ⟨hx, (hof1.no hx).2.2.1.symm, rfl, rfl⟩⟩
  · have hx : xx1 = 0 := by simpa using hc0
    subst hx
    refine wp_skip ?_
    refine then_n ?_
    refine c_seq ?_
    refine reg_plain w0 (V.F b) ?_
    refine r_move hS hH.kp0 rfl rfl ?_; clear hS; intro a hS
    refine r_load_row hS hH (by repeat (first | exact Sub.nil | refine Sub.cons ?_ ?_ | exact In.here | refine In.there ?_)) rfl (by repeat (first | exact In.here | refine In.there ?_)) Fc.ag25 (by rfl) rfl ?_; clear hS; intro a hS
    refine r_move hS hH.kp0 rfl rfl ?_; clear hS; intro a hS
    refine r_move hS hH.kp0 rfl rfl ?_; clear hS; intro a hS
    refine r_call (l := [.tmp 28, .tmp 29, .tmp 30, .tmp 31]) hS rfl rfl Fc.fn53 rfl ?_
    refine Calls.mono (rDerive_c b V1 ts1 [y0, y1, y2, y3, y4, y5, y6, y7, y8, y9, ya, yb, yc, yd, ye, yf] rfl s2 _ l2 hs2 (by omega) (by omega) _ (hH.rin (TV := 116) (TT := 113) hri1.ok rfl hri1.n01 (by repeat (first | exact In.here | refine In.there ?_)) (by repeat (first | exact In.here | refine In.there ?_))) (hb2.go hH.mod hRS1)) ?_
    rintro e w1 ⟨h, xx2, V2, ts2, rfl, hri2, hst, hof2⟩
    obtain ⟨z0, z1, z2, z3, z4, z5, z6, z7, z8, z9, za, zb, zc, zd, ze, zf, rfl⟩ := len16 (h := h) hof2.len
    have hln2 := hof2.lens
    have hRS2 := hRS1.step hst hH.mod.size
    replace hH := hH.rvault hRS1 hst hri2 (by first | exact .two | exact .there .two | exact .there (.there .two) | exact .there (.there (.there .two)) | exact .there (.there (.there (.there .two))) | exact .there (.there (.there (.there (.there .two)))) | exact .there (.there (.there (.there (.there (.there .two))))) | exact .there (.there (.there (.there (.there (.there (.there .two)))))) | exact .there (.there (.there (.there (.there (.there (.there (.there .two))))))) | exact .there (.there (.there (.there (.there (.there (.there (.there (.there .two)))))))) | exact .there (.there (.there (.there (.there (.there (.there (.there (.there (.there .two))))))))) | exact .there (.there (.there (.there (.there (.there (.there (.there (.there (.there (.there .two)))))))))) | exact .there (.there (.there (.there (.there (.there (.there (.there (.there (.there (.there (.there .two))))))))))) | exact .there (.there (.there (.there (.there (.there (.there (.there (.there (.there (.there (.there (.there .two)))))))))))) | exact .there (.there (.there (.there (.there (.there (.there (.there (.there (.there (.there (.there (.there (.there .two))))))))))))) | exact .there (.there (.there (.there (.there (.there (.there (.there (.there (.there (.there (.there (.there (.there (.there .two)))))))))))))))
    clear hst
    refine ⟨_, rfl, hH.kp0, ?_⟩
    clear hS; intro a hS
    refine r_extract hS hH.kp0 rfl rfl rfl ?_; clear hS; intro a hS
    refine r_extract hS hH.kp0 rfl rfl rfl ?_; clear hS; intro a hS
    refine r_store_row hS hH rfl rfl (by first | exact .here | exact .there .here | exact .there (.there .here) | exact .there (.there (.there .here)) | exact .there (.there (.there (.there .here))) | exact .there (.there (.there (.there (.there .here)))) | exact .there (.there (.there (.there (.there (.there .here))))) | exact .there (.there (.there (.there (.there (.there (.there .here)))))) | exact .there (.there (.there (.there (.there (.there (.there (.there .here))))))) | exact .there (.there (.there (.there (.there (.there (.there (.there (.there .here)))))))) | exact .there (.there (.there (.there (.there (.there (.there (.there (.there (.there .here))))))))) | exact .there (.there (.there (.there (.there (.there (.there (.there (.there (.there (.there .here)))))))))) | exact .there (.there (.there (.there (.there (.there (.there (.there (.there (.there (.there (.there .here))))))))))) | exact .there (.there (.there (.there (.there (.there (.there (.there (.there (.there (.there (.there (.there .here)))))))))))) | exact .there (.there (.there (.there (.there (.there (.there (.there (.there (.there (.there (.there (.there (.there .here))))))))))))) | exact .there (.there (.there (.there (.there (.there (.there (.there (.there (.there (.there (.there (.there (.there (.there .here))))))))))))))) (by repeat (first | exact Sub.nil | refine Sub.cons ?_ ?_ | exact In.here | refine In.there ?_)) Fc.sz25 (by first | exact hcells_one _ | exact of_decide_eq_true rfl) (by rfl) (by first | exact .inr (by assumption) | exact .inl (by first | assumption | rfl)) ?_
    clear hH; intro w hH
    refine r_assign hS hH.kp0 rfl rfl ?_; clear hS; intro a hS
    refine Sq.nil ?_
    refine then_n ?_
    refine wp_ret ?_
    exact leave (.inl rfl) hS rfl (Res.cell rfl (hH.get (by repeat (first | exact In.here | refine In.there ?_))) Fc.ag25 (by rfl) rfl (Res.tmp rfl Res.nil)) ⟨_, _, V2, ts2, rfl, (hH.rin (TV := 116) (TT := 113) hri2.ok rfl hri2.n01 (by repeat (first | exact In.here | refine In.there ?_)) (by repeat (first | exact In.here | refine In.there ?_))), ⟨hRS2, hH.mod⟩, _, _, _, hof1, .inr ⟨rfl, hof2⟩⟩

set_option maxRecDepth 100000 in
set_option maxHeartbeats 1000000 in
theorem rBegin_c (b : Nat) (V : RB) (ts : List Tm) (hm : ts.length ≤ 999999900) (w0 : World) (hri : RI w0 b V ts) : Calls Try.prog 60 #[.pointer (some ⟨b, 0, none⟩)] w0 fun e w' => ∃ h' x V' ts', e = .returned (.tuple #[hnd h', .int .i64 x]) ∧ RI w' b V' ts' ∧ RStep w0 w' b V V' ∧ OfT ts (nm 0) (drv lb_script (strOf [])) h' x ts' := by
  refine enter Try.func60 rfl rfl rfl ?_
  intro a hS
  have hH := Hp.start w0 (V.F b)
  replace hH := hH.knowR hri (by intro p hp; simp at hp)
  have hRS := RS.start w0 b V
  refine c_seq ?_
  refine reg_plain w0 (V.F b) ?_
  refine r_alloc hS hH (by repeat (first | exact Sub.nil | refine Sub.cons ?_ ?_ | exact In.here | refine In.there ?_)) Fc.zc25 rfl ?_
  clear hS hH; intro a w b2 hb2 hwb2 hS hH
  refine r_assign hS hH.kp0 rfl rfl ?_; clear hS; intro a hS
  refine Sq.nil ?_
  refine then_n ?_
  refine c_seq ?_
  refine reg_plain w0 (V.F b) ?_
  refine r_move hS hH.kp0 rfl rfl ?_; clear hS; intro a hS
  refine r_call (l := [.const (.int .i64 0)]) hS rfl rfl Fc.fn18 rfl ?_
  refine Calls.mono (rname_c 0 (by omega) _) ?_
  rintro e w1 ⟨h, rfl, hqx, hE⟩
  obtain ⟨x0, x1, x2, x3, x4, x5, x6, x7, x8, x9, xa, xb, xc, xd, xe, xf, rfl⟩ := len16 (h := h) (by rw [hqx]; rfl)
  replace hH := hH.ext hE
  refine ⟨_, rfl, hH.kp0, ?_⟩
  clear hS; intro a hS
  refine r_call (l := [.tmp 4, .tmp 5, .const (.string { data := #[115, 99, 114, 105, 112, 116] }), .const (.slice none 0 0)]) hS rfl rfl Fc.fn53 rfl ?_
  refine Calls.mono (rDerive_c b V ts [x0, x1, x2, x3, x4, x5, x6, x7, x8, x9, xa, xb, xc, xd, xe, xf] rfl lb_script _ [] (by decide) (by simp) (by omega) _ (hH.rin (TV := 116) (TT := 113) hri.ok rfl hri.n01 (by repeat (first | exact In.here | refine In.there ?_)) (by repeat (first | exact In.here | refine In.there ?_))) (BsF.nil _ _)) ?_
  rintro e w1 ⟨h, xx1, V1, ts1, rfl, hri1, hst, hof1⟩
  obtain ⟨y0, y1, y2, y3, y4, y5, y6, y7, y8, y9, ya, yb, yc, yd, ye, yf, rfl⟩ := len16 (h := h) hof1.len
  have hln1 := hof1.lens
  have hRS1 := hRS.step hst hH.mod.size
  replace hH := hH.rvault hRS hst hri1 (by first | exact .two | exact .there .two | exact .there (.there .two) | exact .there (.there (.there .two)) | exact .there (.there (.there (.there .two))) | exact .there (.there (.there (.there (.there .two)))) | exact .there (.there (.there (.there (.there (.there .two))))) | exact .there (.there (.there (.there (.there (.there (.there .two)))))) | exact .there (.there (.there (.there (.there (.there (.there (.there .two))))))) | exact .there (.there (.there (.there (.there (.there (.there (.there (.there .two)))))))) | exact .there (.there (.there (.there (.there (.there (.there (.there (.there (.there .two))))))))) | exact .there (.there (.there (.there (.there (.there (.there (.there (.there (.there (.there .two)))))))))) | exact .there (.there (.there (.there (.there (.there (.there (.there (.there (.there (.there (.there .two))))))))))) | exact .there (.there (.there (.there (.there (.there (.there (.there (.there (.there (.there (.there (.there .two)))))))))))) | exact .there (.there (.there (.there (.there (.there (.there (.there (.there (.there (.there (.there (.there (.there .two))))))))))))) | exact .there (.there (.there (.there (.there (.there (.there (.there (.there (.there (.there (.there (.there (.there (.there .two)))))))))))))))
  clear hst
  refine ⟨_, rfl, hH.kp0, ?_⟩
  clear hS; intro a hS
  refine r_extract hS hH.kp0 rfl rfl rfl ?_; clear hS; intro a hS
  refine r_extract hS hH.kp0 rfl rfl rfl ?_; clear hS; intro a hS
  refine r_store_row hS hH rfl rfl (by first | exact .here | exact .there .here | exact .there (.there .here) | exact .there (.there (.there .here)) | exact .there (.there (.there (.there .here))) | exact .there (.there (.there (.there (.there .here)))) | exact .there (.there (.there (.there (.there (.there .here))))) | exact .there (.there (.there (.there (.there (.there (.there .here)))))) | exact .there (.there (.there (.there (.there (.there (.there (.there .here))))))) | exact .there (.there (.there (.there (.there (.there (.there (.there (.there .here)))))))) | exact .there (.there (.there (.there (.there (.there (.there (.there (.there (.there .here))))))))) | exact .there (.there (.there (.there (.there (.there (.there (.there (.there (.there (.there .here)))))))))) | exact .there (.there (.there (.there (.there (.there (.there (.there (.there (.there (.there (.there .here))))))))))) | exact .there (.there (.there (.there (.there (.there (.there (.there (.there (.there (.there (.there (.there .here)))))))))))) | exact .there (.there (.there (.there (.there (.there (.there (.there (.there (.there (.there (.there (.there (.there .here))))))))))))) | exact .there (.there (.there (.there (.there (.there (.there (.there (.there (.there (.there (.there (.there (.there (.there .here))))))))))))))) (by repeat (first | exact Sub.nil | refine Sub.cons ?_ ?_ | exact In.here | refine In.there ?_)) Fc.sz25 (by first | exact hcells_one _ | exact of_decide_eq_true rfl) (by rfl) (by first | exact .inr (by assumption) | exact .inl (by first | assumption | rfl)) ?_
  clear hH; intro w hH
  refine r_assign hS hH.kp0 rfl rfl ?_; clear hS; intro a hS
  refine Sq.nil ?_
  refine then_n ?_
  refine wp_ret ?_
  exact leave (.inl rfl) hS rfl (Res.cell rfl (hH.get (by repeat (first | exact In.here | refine In.there ?_))) Fc.ag25 (by rfl) rfl (Res.tmp rfl Res.nil)) ⟨_, _, V1, ts1, rfl, (hH.rin (TV := 116) (TT := 113) hri1.ok rfl hri1.n01 (by repeat (first | exact In.here | refine In.there ?_)) (by repeat (first | exact In.here | refine In.there ?_))), ⟨hRS1, hH.mod⟩, by rw [← hqx]; exact hof1⟩

set_option maxRecDepth 100000 in
set_option maxHeartbeats 1000000 in
theorem rAdd_c (b : Nat) (V : RB) (ts : List Tm) (hm : ts.length ≤ 999999900) (h : List UInt8) (hh : h.length = 16) (v : Value) (l : List UInt8) (hl : l.length ≤ 1048576) (w0 : World) (hri : RI w0 b V ts) (hb : BsF (V.F b) w0 v l) : Calls Try.prog 61 #[.pointer (some ⟨b, 0, none⟩), hnd h, v] w0 fun e w' => ∃ h' x V' ts', e = .returned (.tuple #[hnd h', .int .i64 x]) ∧ RI w' b V' ts' ∧ RStep w0 w' b V V' ∧ OfT ts h (drv lb_message (strOf l)) h' x ts' := by
  refine enter Try.func61 rfl rfl rfl ?_
  intro a hS
  have hH := Hp.start w0 (V.F b)
  obtain ⟨x0, x1, x2, x3, x4, x5, x6, x7, x8, x9, xa, xb, xc, xd, xe, xf, rfl⟩ := len16 hh
  obtain ⟨q, qc, hsl⟩ := hb.bs
  have hv9 := hsl.val
  subst hv9
  replace hH := hH.knowR hri (by intro p hp; simp at hp)
  have hRS := RS.start w0 b V
  refine c_seq ?_
  refine reg_plain w0 (V.F b) ?_
  refine r_box hS hH (by repeat (first | exact Sub.nil | refine Sub.cons ?_ ?_ | exact In.here | refine In.there ?_)) rfl rfl rfl ?_
  clear hS hH; intro a w b4 hb4 hwb4 hS hH
  refine r_alloc hS hH (by repeat (first | exact Sub.nil | refine Sub.cons ?_ ?_ | exact In.here | refine In.there ?_)) Fc.zc25 rfl ?_
  clear hS hH; intro a w b6 hb6 hwb6 hS hH
  refine r_assign hS hH.kp0 rfl rfl ?_; clear hS; intro a hS
  refine Sq.nil ?_
  refine then_n ?_
  refine c_seq ?_
  refine reg_plain w0 (V.F b) ?_
  refine r_move hS hH.kp0 rfl rfl ?_; clear hS; intro a hS
  refine r_load_row hS hH (by repeat (first | exact Sub.nil | refine Sub.cons ?_ ?_ | exact In.here | refine In.there ?_)) rfl (by repeat (first | exact In.here | refine In.there ?_)) Fc.ag25 (by rfl) rfl ?_; clear hS; intro a hS
  refine r_move hS hH.kp0 rfl rfl ?_; clear hS; intro a hS
  refine r_call (l := [.tmp 8, .tmp 9, .const (.string { data := #[109, 101, 115, 115, 97, 103, 101] }), .tmp 10]) hS rfl rfl Fc.fn53 rfl ?_
  refine Calls.mono (rDerive_c b V ts [x0, x1, x2, x3, x4, x5, x6, x7, x8, x9, xa, xb, xc, xd, xe, xf] rfl lb_message _ l (by decide) (by omega) (by omega) _ (hH.rin (TV := 116) (TT := 113) hri.ok rfl hri.n01 (by repeat (first | exact In.here | refine In.there ?_)) (by repeat (first | exact In.here | refine In.there ?_))) (hb.go hH.mod hRS)) ?_
  rintro e w1 ⟨h, xx1, V1, ts1, rfl, hri1, hst, hof1⟩
  obtain ⟨y0, y1, y2, y3, y4, y5, y6, y7, y8, y9, ya, yb, yc, yd, ye, yf, rfl⟩ := len16 (h := h) hof1.len
  have hln1 := hof1.lens
  have hRS1 := hRS.step hst hH.mod.size
  replace hH := hH.rvault hRS hst hri1 (by first | exact .two | exact .there .two | exact .there (.there .two) | exact .there (.there (.there .two)) | exact .there (.there (.there (.there .two))) | exact .there (.there (.there (.there (.there .two)))) | exact .there (.there (.there (.there (.there (.there .two))))) | exact .there (.there (.there (.there (.there (.there (.there .two)))))) | exact .there (.there (.there (.there (.there (.there (.there (.there .two))))))) | exact .there (.there (.there (.there (.there (.there (.there (.there (.there .two)))))))) | exact .there (.there (.there (.there (.there (.there (.there (.there (.there (.there .two))))))))) | exact .there (.there (.there (.there (.there (.there (.there (.there (.there (.there (.there .two)))))))))) | exact .there (.there (.there (.there (.there (.there (.there (.there (.there (.there (.there (.there .two))))))))))) | exact .there (.there (.there (.there (.there (.there (.there (.there (.there (.there (.there (.there (.there .two)))))))))))) | exact .there (.there (.there (.there (.there (.there (.there (.there (.there (.there (.there (.there (.there (.there .two))))))))))))) | exact .there (.there (.there (.there (.there (.there (.there (.there (.there (.there (.there (.there (.there (.there (.there .two)))))))))))))))
  clear hst
  refine ⟨_, rfl, hH.kp0, ?_⟩
  clear hS; intro a hS
  refine r_extract hS hH.kp0 rfl rfl rfl ?_; clear hS; intro a hS
  refine r_extract hS hH.kp0 rfl rfl rfl ?_; clear hS; intro a hS
  refine r_store_row hS hH rfl rfl (by first | exact .here | exact .there .here | exact .there (.there .here) | exact .there (.there (.there .here)) | exact .there (.there (.there (.there .here))) | exact .there (.there (.there (.there (.there .here)))) | exact .there (.there (.there (.there (.there (.there .here))))) | exact .there (.there (.there (.there (.there (.there (.there .here)))))) | exact .there (.there (.there (.there (.there (.there (.there (.there .here))))))) | exact .there (.there (.there (.there (.there (.there (.there (.there (.there .here)))))))) | exact .there (.there (.there (.there (.there (.there (.there (.there (.there (.there .here))))))))) | exact .there (.there (.there (.there (.there (.there (.there (.there (.there (.there (.there .here)))))))))) | exact .there (.there (.there (.there (.there (.there (.there (.there (.there (.there (.there (.there .here))))))))))) | exact .there (.there (.there (.there (.there (.there (.there (.there (.there (.there (.there (.there (.there .here)))))))))))) | exact .there (.there (.there (.there (.there (.there (.there (.there (.there (.there (.there (.there (.there (.there .here))))))))))))) | exact .there (.there (.there (.there (.there (.there (.there (.there (.there (.there (.there (.there (.there (.there (.there .here))))))))))))))) (by repeat (first | exact Sub.nil | refine Sub.cons ?_ ?_ | exact In.here | refine In.there ?_)) Fc.sz25 (by first | exact hcells_one _ | exact of_decide_eq_true rfl) (by rfl) (by first | exact .inr (by assumption) | exact .inl (by first | assumption | rfl)) ?_
  clear hH; intro w hH
  refine r_assign hS hH.kp0 rfl rfl ?_; clear hS; intro a hS
  refine Sq.nil ?_
  refine then_n ?_
  refine wp_ret ?_
  exact leave (.inl rfl) hS rfl (Res.cell rfl (hH.get (by repeat (first | exact In.here | refine In.there ?_))) Fc.ag25 (by rfl) rfl (Res.tmp rfl Res.nil)) ⟨_, _, V1, ts1, rfl, (hH.rin (TV := 116) (TT := 113) hri1.ok rfl hri1.n01 (by repeat (first | exact In.here | refine In.there ?_)) (by repeat (first | exact In.here | refine In.there ?_))), ⟨hRS1, hH.mod⟩, hof1⟩

set_option maxRecDepth 100000 in
set_option maxHeartbeats 1000000 in
theorem rEarly_z (b : Nat) (V : RB) (ts : List Tm) (hm : ts.length ≤ 999999900) (w0 : World) (hri : RI w0 b V ts) : Calls Try.prog 62 #[.pointer (some ⟨b, 0, none⟩), hnd zH] w0 fun e w' => ∃ h' x V' ts', e = .returned (.tuple #[hnd h', .int .i64 x]) ∧ RI w' b V' ts' ∧ RStep w0 w' b V V' ∧ OfT ts (nm 0) (drv lb_early (strOf [])) h' x ts' := by
  refine enter Try.func62 rfl rfl rfl ?_
  intro a hS
  have hH := Hp.start w0 (V.F b)
  replace hH := hH.knowR hri (by intro p hp; simp at hp)
  have hRS := RS.start w0 b V
  refine c_seq ?_
  refine reg_plain w0 (V.F b) ?_
  refine r_box hS hH (by repeat (first | exact Sub.nil | refine Sub.cons ?_ ?_ | exact In.here | refine In.there ?_)) rfl rfl rfl ?_
  clear hS hH; intro a w b3 hb3 hwb3 hS hH
  refine r_alloc hS hH (by repeat (first | exact Sub.nil | refine Sub.cons ?_ ?_ | exact In.here | refine In.there ?_)) Fc.zc25 rfl ?_
  clear hS hH; intro a w b4 hb4 hwb4 hS hH
  refine r_assign hS hH.kp0 rfl rfl ?_; clear hS; intro a hS
  refine Sq.nil ?_
  refine then_n ?_
  refine c_seq ?_
  refine c_seq ?_
  refine reg_plain w0 (V.F b) ?_
  refine r_load_row hS hH (by repeat (first | exact Sub.nil | refine Sub.cons ?_ ?_ | exact In.here | refine In.there ?_)) rfl (by repeat (first | exact In.here | refine In.there ?_)) Fc.ag25 (by rfl) rfl ?_; clear hS; intro a hS
  refine r_buildA (parts := []) hS hH.kp0 rfl rfl Fc.zc25 Fc.ar25 (by rfl) ?_; clear hS; intro a hS
  refine r_arrEql (h := zH) (g := zH) Fc.arrR hS hH.kp0 rfl rfl rfl rfl rfl ?_; clear hS; intro a hS
  refine Sq.nil ?_
  refine then_n ?_
  refine c_condT hS rfl rfl ?_
  refine reg_plain w0 (V.F b) ?_
  refine r_call (l := [.const (.int .i64 0)]) hS rfl rfl Fc.fn18 rfl ?_
  refine Calls.mono (rname_c 0 (by omega) _) ?_
  rintro e w1 ⟨h, rfl, hqx, hE⟩
  obtain ⟨x0, x1, x2, x3, x4, x5, x6, x7, x8, x9, xa, xb, xc, xd, xe, xf, rfl⟩ := len16 (h := h) (by rw [hqx]; rfl)
  replace hH := hH.ext hE
  refine ⟨_, rfl, hH.kp0, ?_⟩
  clear hS; intro a hS
  refine r_store_row hS hH rfl rfl (by first | exact .here | exact .there .here | exact .there (.there .here) | exact .there (.there (.there .here)) | exact .there (.there (.there (.there .here))) | exact .there (.there (.there (.there (.there .here)))) | exact .there (.there (.there (.there (.there (.there .here))))) | exact .there (.there (.there (.there (.there (.there (.there .here)))))) | exact .there (.there (.there (.there (.there (.there (.there (.there .here))))))) | exact .there (.there (.there (.there (.there (.there (.there (.there (.there .here)))))))) | exact .there (.there (.there (.there (.there (.there (.there (.there (.there (.there .here))))))))) | exact .there (.there (.there (.there (.there (.there (.there (.there (.there (.there (.there .here)))))))))) | exact .there (.there (.there (.there (.there (.there (.there (.there (.there (.there (.there (.there .here))))))))))) | exact .there (.there (.there (.there (.there (.there (.there (.there (.there (.there (.there (.there (.there .here)))))))))))) | exact .there (.there (.there (.there (.there (.there (.there (.there (.there (.there (.there (.there (.there (.there .here))))))))))))) | exact .there (.there (.there (.there (.there (.there (.there (.there (.there (.there (.there (.there (.there (.there (.there .here))))))))))))))) (by repeat (first | exact Sub.nil | refine Sub.cons ?_ ?_ | exact In.here | refine In.there ?_)) Fc.sz25 (by first | exact hcells_one _ | exact of_decide_eq_true rfl) (by rfl) (by first | exact .inr (by assumption) | exact .inl (by first | assumption | rfl)) ?_
  clear hH; intro w hH
  refine Sq.nil ?_
  refine then_n ?_
  refine c_seq ?_
  refine reg_plain w0 (V.F b) ?_
  refine r_move hS hH.kp0 rfl rfl ?_; clear hS; intro a hS
  refine r_load_row hS hH (by repeat (first | exact Sub.nil | refine Sub.cons ?_ ?_ | exact In.here | refine In.there ?_)) rfl (by repeat (first | exact In.here | refine In.there ?_)) Fc.ag25 (by rfl) rfl ?_; clear hS; intro a hS
  refine r_call (l := [.tmp 10, .tmp 11, .const (.string { data := #[101, 97, 114, 108, 121] }), .const (.slice none 0 0)]) hS rfl rfl Fc.fn53 rfl ?_
  refine Calls.mono (rDerive_c b V ts [x0, x1, x2, x3, x4, x5, x6, x7, x8, x9, xa, xb, xc, xd, xe, xf] rfl lb_early _ [] (by decide) (by simp) (by omega) _ (hH.rin (TV := 116) (TT := 113) hri.ok rfl hri.n01 (by repeat (first | exact In.here | refine In.there ?_)) (by repeat (first | exact In.here | refine In.there ?_))) (BsF.nil _ _)) ?_
  rintro e w1 ⟨h, xx1, V1, ts1, rfl, hri1, hst, hof1⟩
  obtain ⟨y0, y1, y2, y3, y4, y5, y6, y7, y8, y9, ya, yb, yc, yd, ye, yf, rfl⟩ := len16 (h := h) hof1.len
  have hln1 := hof1.lens
  have hRS1 := hRS.step hst hH.mod.size
  replace hH := hH.rvault hRS hst hri1 (by first | exact .two | exact .there .two | exact .there (.there .two) | exact .there (.there (.there .two)) | exact .there (.there (.there (.there .two))) | exact .there (.there (.there (.there (.there .two)))) | exact .there (.there (.there (.there (.there (.there .two))))) | exact .there (.there (.there (.there (.there (.there (.there .two)))))) | exact .there (.there (.there (.there (.there (.there (.there (.there .two))))))) | exact .there (.there (.there (.there (.there (.there (.there (.there (.there .two)))))))) | exact .there (.there (.there (.there (.there (.there (.there (.there (.there (.there .two))))))))) | exact .there (.there (.there (.there (.there (.there (.there (.there (.there (.there (.there .two)))))))))) | exact .there (.there (.there (.there (.there (.there (.there (.there (.there (.there (.there (.there .two))))))))))) | exact .there (.there (.there (.there (.there (.there (.there (.there (.there (.there (.there (.there (.there .two)))))))))))) | exact .there (.there (.there (.there (.there (.there (.there (.there (.there (.there (.there (.there (.there (.there .two))))))))))))) | exact .there (.there (.there (.there (.there (.there (.there (.there (.there (.there (.there (.there (.there (.there (.there .two)))))))))))))))
  clear hst
  refine ⟨_, rfl, hH.kp0, ?_⟩
  clear hS; intro a hS
  refine r_extract hS hH.kp0 rfl rfl rfl ?_; clear hS; intro a hS
  refine r_extract hS hH.kp0 rfl rfl rfl ?_; clear hS; intro a hS
  refine r_store_row hS hH rfl rfl (by first | exact .here | exact .there .here | exact .there (.there .here) | exact .there (.there (.there .here)) | exact .there (.there (.there (.there .here))) | exact .there (.there (.there (.there (.there .here)))) | exact .there (.there (.there (.there (.there (.there .here))))) | exact .there (.there (.there (.there (.there (.there (.there .here)))))) | exact .there (.there (.there (.there (.there (.there (.there (.there .here))))))) | exact .there (.there (.there (.there (.there (.there (.there (.there (.there .here)))))))) | exact .there (.there (.there (.there (.there (.there (.there (.there (.there (.there .here))))))))) | exact .there (.there (.there (.there (.there (.there (.there (.there (.there (.there (.there .here)))))))))) | exact .there (.there (.there (.there (.there (.there (.there (.there (.there (.there (.there (.there .here))))))))))) | exact .there (.there (.there (.there (.there (.there (.there (.there (.there (.there (.there (.there (.there .here)))))))))))) | exact .there (.there (.there (.there (.there (.there (.there (.there (.there (.there (.there (.there (.there (.there .here))))))))))))) | exact .there (.there (.there (.there (.there (.there (.there (.there (.there (.there (.there (.there (.there (.there (.there .here))))))))))))))) (by repeat (first | exact Sub.nil | refine Sub.cons ?_ ?_ | exact In.here | refine In.there ?_)) Fc.sz25 (by first | exact hcells_one _ | exact of_decide_eq_true rfl) (by rfl) (by first | exact .inr (by assumption) | exact .inl (by first | assumption | rfl)) ?_
  clear hH; intro w hH
  refine r_assign hS hH.kp0 rfl rfl ?_; clear hS; intro a hS
  refine Sq.nil ?_
  refine then_n ?_
  refine wp_ret ?_
  exact leave (.inl rfl) hS rfl (Res.cell rfl (hH.get (by repeat (first | exact In.here | refine In.there ?_))) Fc.ag25 (by rfl) rfl (Res.tmp rfl Res.nil)) ⟨_, _, V1, ts1, rfl, (hH.rin (TV := 116) (TT := 113) hri1.ok rfl hri1.n01 (by repeat (first | exact In.here | refine In.there ?_)) (by repeat (first | exact In.here | refine In.there ?_))), ⟨hRS1, hH.mod⟩, by rw [← hqx]; exact hof1⟩

set_option maxRecDepth 100000 in
set_option maxHeartbeats 1000000 in
theorem rEarly_h (b : Nat) (V : RB) (ts : List Tm) (hm : ts.length ≤ 999999900) (h : List UInt8) (hh : h.length = 16) (hz : h ≠ zH) (w0 : World) (hri : RI w0 b V ts) : Calls Try.prog 62 #[.pointer (some ⟨b, 0, none⟩), hnd h] w0 fun e w' => ∃ h' x V' ts', e = .returned (.tuple #[hnd h', .int .i64 x]) ∧ RI w' b V' ts' ∧ RStep w0 w' b V V' ∧ OfT ts h (drv lb_early (strOf [])) h' x ts' := by
  refine enter Try.func62 rfl rfl rfl ?_
  intro a hS
  have hH := Hp.start w0 (V.F b)
  obtain ⟨x0, x1, x2, x3, x4, x5, x6, x7, x8, x9, xa, xb, xc, xd, xe, xf, rfl⟩ := len16 hh
  replace hH := hH.knowR hri (by intro p hp; simp at hp)
  have hRS := RS.start w0 b V
  refine c_seq ?_
  refine reg_plain w0 (V.F b) ?_
  refine r_box hS hH (by repeat (first | exact Sub.nil | refine Sub.cons ?_ ?_ | exact In.here | refine In.there ?_)) rfl rfl rfl ?_
  clear hS hH; intro a w b3 hb3 hwb3 hS hH
  refine r_alloc hS hH (by repeat (first | exact Sub.nil | refine Sub.cons ?_ ?_ | exact In.here | refine In.there ?_)) Fc.zc25 rfl ?_
  clear hS hH; intro a w b4 hb4 hwb4 hS hH
  refine r_assign hS hH.kp0 rfl rfl ?_; clear hS; intro a hS
  refine Sq.nil ?_
  refine then_n ?_
  refine c_seq ?_
  refine c_seq ?_
  refine reg_plain w0 (V.F b) ?_
  refine r_load_row hS hH (by repeat (first | exact Sub.nil | refine Sub.cons ?_ ?_ | exact In.here | refine In.there ?_)) rfl (by repeat (first | exact In.here | refine In.there ?_)) Fc.ag25 (by rfl) rfl ?_; clear hS; intro a hS
  refine r_buildA (parts := []) hS hH.kp0 rfl rfl Fc.zc25 Fc.ar25 (by rfl) ?_; clear hS; intro a hS
  refine r_arrEql (h := [x0, x1, x2, x3, x4, x5, x6, x7, x8, x9, xa, xb, xc, xd, xe, xf]) (g := zH) Fc.arrR hS hH.kp0 rfl rfl rfl rfl rfl ?_; clear hS; intro a hS
  refine Sq.nil ?_
  refine then_n ?_
  refine c_condF hS rfl (DF hz) ?_
  refine wp_skip ?_
  refine then_n ?_
  refine c_seq ?_
  refine reg_plain w0 (V.F b) ?_
  refine r_move hS hH.kp0 rfl rfl ?_; clear hS; intro a hS
  refine r_load_row hS hH (by repeat (first | exact Sub.nil | refine Sub.cons ?_ ?_ | exact In.here | refine In.there ?_)) rfl (by repeat (first | exact In.here | refine In.there ?_)) Fc.ag25 (by rfl) rfl ?_; clear hS; intro a hS
  refine r_call (l := [.tmp 10, .tmp 11, .const (.string { data := #[101, 97, 114, 108, 121] }), .const (.slice none 0 0)]) hS rfl rfl Fc.fn53 rfl ?_
  refine Calls.mono (rDerive_c b V ts [x0, x1, x2, x3, x4, x5, x6, x7, x8, x9, xa, xb, xc, xd, xe, xf] rfl lb_early _ [] (by decide) (by simp) (by omega) _ (hH.rin (TV := 116) (TT := 113) hri.ok rfl hri.n01 (by repeat (first | exact In.here | refine In.there ?_)) (by repeat (first | exact In.here | refine In.there ?_))) (BsF.nil _ _)) ?_
  rintro e w1 ⟨h, xx1, V1, ts1, rfl, hri1, hst, hof1⟩
  obtain ⟨y0, y1, y2, y3, y4, y5, y6, y7, y8, y9, ya, yb, yc, yd, ye, yf, rfl⟩ := len16 (h := h) hof1.len
  have hln1 := hof1.lens
  have hRS1 := hRS.step hst hH.mod.size
  replace hH := hH.rvault hRS hst hri1 (by first | exact .two | exact .there .two | exact .there (.there .two) | exact .there (.there (.there .two)) | exact .there (.there (.there (.there .two))) | exact .there (.there (.there (.there (.there .two)))) | exact .there (.there (.there (.there (.there (.there .two))))) | exact .there (.there (.there (.there (.there (.there (.there .two)))))) | exact .there (.there (.there (.there (.there (.there (.there (.there .two))))))) | exact .there (.there (.there (.there (.there (.there (.there (.there (.there .two)))))))) | exact .there (.there (.there (.there (.there (.there (.there (.there (.there (.there .two))))))))) | exact .there (.there (.there (.there (.there (.there (.there (.there (.there (.there (.there .two)))))))))) | exact .there (.there (.there (.there (.there (.there (.there (.there (.there (.there (.there (.there .two))))))))))) | exact .there (.there (.there (.there (.there (.there (.there (.there (.there (.there (.there (.there (.there .two)))))))))))) | exact .there (.there (.there (.there (.there (.there (.there (.there (.there (.there (.there (.there (.there (.there .two))))))))))))) | exact .there (.there (.there (.there (.there (.there (.there (.there (.there (.there (.there (.there (.there (.there (.there .two)))))))))))))))
  clear hst
  refine ⟨_, rfl, hH.kp0, ?_⟩
  clear hS; intro a hS
  refine r_extract hS hH.kp0 rfl rfl rfl ?_; clear hS; intro a hS
  refine r_extract hS hH.kp0 rfl rfl rfl ?_; clear hS; intro a hS
  refine r_store_row hS hH rfl rfl (by first | exact .here | exact .there .here | exact .there (.there .here) | exact .there (.there (.there .here)) | exact .there (.there (.there (.there .here))) | exact .there (.there (.there (.there (.there .here)))) | exact .there (.there (.there (.there (.there (.there .here))))) | exact .there (.there (.there (.there (.there (.there (.there .here)))))) | exact .there (.there (.there (.there (.there (.there (.there (.there .here))))))) | exact .there (.there (.there (.there (.there (.there (.there (.there (.there .here)))))))) | exact .there (.there (.there (.there (.there (.there (.there (.there (.there (.there .here))))))))) | exact .there (.there (.there (.there (.there (.there (.there (.there (.there (.there (.there .here)))))))))) | exact .there (.there (.there (.there (.there (.there (.there (.there (.there (.there (.there (.there .here))))))))))) | exact .there (.there (.there (.there (.there (.there (.there (.there (.there (.there (.there (.there (.there .here)))))))))))) | exact .there (.there (.there (.there (.there (.there (.there (.there (.there (.there (.there (.there (.there (.there .here))))))))))))) | exact .there (.there (.there (.there (.there (.there (.there (.there (.there (.there (.there (.there (.there (.there (.there .here))))))))))))))) (by repeat (first | exact Sub.nil | refine Sub.cons ?_ ?_ | exact In.here | refine In.there ?_)) Fc.sz25 (by first | exact hcells_one _ | exact of_decide_eq_true rfl) (by rfl) (by first | exact .inr (by assumption) | exact .inl (by first | assumption | rfl)) ?_
  clear hH; intro w hH
  refine r_assign hS hH.kp0 rfl rfl ?_; clear hS; intro a hS
  refine Sq.nil ?_
  refine then_n ?_
  refine wp_ret ?_
  exact leave (.inl rfl) hS rfl (Res.cell rfl (hH.get (by repeat (first | exact In.here | refine In.there ?_))) Fc.ag25 (by rfl) rfl (Res.tmp rfl Res.nil)) ⟨_, _, V1, ts1, rfl, (hH.rin (TV := 116) (TT := 113) hri1.ok rfl hri1.n01 (by repeat (first | exact In.here | refine In.there ?_)) (by repeat (first | exact In.here | refine In.there ?_))), ⟨hRS1, hH.mod⟩, hof1⟩

set_option maxRecDepth 100000 in
set_option maxHeartbeats 1000000 in
theorem rMaster_c (b : Nat) (V : RB) (ts : List Tm) (hm : ts.length ≤ 999999900) (h : List UInt8) (hh : h.length = 16) (w0 : World) (hri : RI w0 b V ts) : Calls Try.prog 64 #[.pointer (some ⟨b, 0, none⟩), hnd h] w0 fun e w' => ∃ h' x V' ts', e = .returned (.tuple #[hnd h', .int .i64 x]) ∧ RI w' b V' ts' ∧ RStep w0 w' b V V' ∧ OfT ts h (drv lb_master (strOf [])) h' x ts' := by
  refine enter Try.func64 rfl rfl rfl ?_
  intro a hS
  have hH := Hp.start w0 (V.F b)
  obtain ⟨x0, x1, x2, x3, x4, x5, x6, x7, x8, x9, xa, xb, xc, xd, xe, xf, rfl⟩ := len16 hh
  replace hH := hH.knowR hri (by intro p hp; simp at hp)
  have hRS := RS.start w0 b V
  refine c_seq ?_
  refine reg_plain w0 (V.F b) ?_
  refine r_box hS hH (by repeat (first | exact Sub.nil | refine Sub.cons ?_ ?_ | exact In.here | refine In.there ?_)) rfl rfl rfl ?_
  clear hS hH; intro a w b3 hb3 hwb3 hS hH
  refine r_alloc hS hH (by repeat (first | exact Sub.nil | refine Sub.cons ?_ ?_ | exact In.here | refine In.there ?_)) Fc.zc25 rfl ?_
  clear hS hH; intro a w b4 hb4 hwb4 hS hH
  refine r_assign hS hH.kp0 rfl rfl ?_; clear hS; intro a hS
  refine Sq.nil ?_
  refine then_n ?_
  refine c_seq ?_
  refine reg_plain w0 (V.F b) ?_
  refine r_move hS hH.kp0 rfl rfl ?_; clear hS; intro a hS
  refine r_load_row hS hH (by repeat (first | exact Sub.nil | refine Sub.cons ?_ ?_ | exact In.here | refine In.there ?_)) rfl (by repeat (first | exact In.here | refine In.there ?_)) Fc.ag25 (by rfl) rfl ?_; clear hS; intro a hS
  refine r_call (l := [.tmp 6, .tmp 7, .const (.string { data := #[109, 97, 115, 116, 101, 114] }), .const (.slice none 0 0)]) hS rfl rfl Fc.fn53 rfl ?_
  refine Calls.mono (rDerive_c b V ts [x0, x1, x2, x3, x4, x5, x6, x7, x8, x9, xa, xb, xc, xd, xe, xf] rfl lb_master _ [] (by decide) (by simp) (by omega) _ (hH.rin (TV := 116) (TT := 113) hri.ok rfl hri.n01 (by repeat (first | exact In.here | refine In.there ?_)) (by repeat (first | exact In.here | refine In.there ?_))) (BsF.nil _ _)) ?_
  rintro e w1 ⟨h, xx1, V1, ts1, rfl, hri1, hst, hof1⟩
  obtain ⟨y0, y1, y2, y3, y4, y5, y6, y7, y8, y9, ya, yb, yc, yd, ye, yf, rfl⟩ := len16 (h := h) hof1.len
  have hln1 := hof1.lens
  have hRS1 := hRS.step hst hH.mod.size
  replace hH := hH.rvault hRS hst hri1 (by first | exact .two | exact .there .two | exact .there (.there .two) | exact .there (.there (.there .two)) | exact .there (.there (.there (.there .two))) | exact .there (.there (.there (.there (.there .two)))) | exact .there (.there (.there (.there (.there (.there .two))))) | exact .there (.there (.there (.there (.there (.there (.there .two)))))) | exact .there (.there (.there (.there (.there (.there (.there (.there .two))))))) | exact .there (.there (.there (.there (.there (.there (.there (.there (.there .two)))))))) | exact .there (.there (.there (.there (.there (.there (.there (.there (.there (.there .two))))))))) | exact .there (.there (.there (.there (.there (.there (.there (.there (.there (.there (.there .two)))))))))) | exact .there (.there (.there (.there (.there (.there (.there (.there (.there (.there (.there (.there .two))))))))))) | exact .there (.there (.there (.there (.there (.there (.there (.there (.there (.there (.there (.there (.there .two)))))))))))) | exact .there (.there (.there (.there (.there (.there (.there (.there (.there (.there (.there (.there (.there (.there .two))))))))))))) | exact .there (.there (.there (.there (.there (.there (.there (.there (.there (.there (.there (.there (.there (.there (.there .two)))))))))))))))
  clear hst
  refine ⟨_, rfl, hH.kp0, ?_⟩
  clear hS; intro a hS
  refine r_extract hS hH.kp0 rfl rfl rfl ?_; clear hS; intro a hS
  refine r_extract hS hH.kp0 rfl rfl rfl ?_; clear hS; intro a hS
  refine r_store_row hS hH rfl rfl (by first | exact .here | exact .there .here | exact .there (.there .here) | exact .there (.there (.there .here)) | exact .there (.there (.there (.there .here))) | exact .there (.there (.there (.there (.there .here)))) | exact .there (.there (.there (.there (.there (.there .here))))) | exact .there (.there (.there (.there (.there (.there (.there .here)))))) | exact .there (.there (.there (.there (.there (.there (.there (.there .here))))))) | exact .there (.there (.there (.there (.there (.there (.there (.there (.there .here)))))))) | exact .there (.there (.there (.there (.there (.there (.there (.there (.there (.there .here))))))))) | exact .there (.there (.there (.there (.there (.there (.there (.there (.there (.there (.there .here)))))))))) | exact .there (.there (.there (.there (.there (.there (.there (.there (.there (.there (.there (.there .here))))))))))) | exact .there (.there (.there (.there (.there (.there (.there (.there (.there (.there (.there (.there (.there .here)))))))))))) | exact .there (.there (.there (.there (.there (.there (.there (.there (.there (.there (.there (.there (.there (.there .here))))))))))))) | exact .there (.there (.there (.there (.there (.there (.there (.there (.there (.there (.there (.there (.there (.there (.there .here))))))))))))))) (by repeat (first | exact Sub.nil | refine Sub.cons ?_ ?_ | exact In.here | refine In.there ?_)) Fc.sz25 (by first | exact hcells_one _ | exact of_decide_eq_true rfl) (by rfl) (by first | exact .inr (by assumption) | exact .inl (by first | assumption | rfl)) ?_
  clear hH; intro w hH
  refine r_assign hS hH.kp0 rfl rfl ?_; clear hS; intro a hS
  refine Sq.nil ?_
  refine then_n ?_
  refine wp_ret ?_
  exact leave (.inl rfl) hS rfl (Res.cell rfl (hH.get (by repeat (first | exact In.here | refine In.there ?_))) Fc.ag25 (by rfl) rfl (Res.tmp rfl Res.nil)) ⟨_, _, V1, ts1, rfl, (hH.rin (TV := 116) (TT := 113) hri1.ok rfl hri1.n01 (by repeat (first | exact In.here | refine In.there ?_)) (by repeat (first | exact In.here | refine In.there ?_))), ⟨hRS1, hH.mod⟩, hof1⟩

set_option maxRecDepth 100000 in
set_option maxHeartbeats 1000000 in
theorem rTraffic_c (b : Nat) (V : RB) (ts : List Tm) (hm : ts.length ≤ 999999900) (h g : List UInt8) (hh : h.length = 16) (hg : g.length = 16) (s : ByteArray) (hs : s.size ≤ 9223372036854775807) (w0 : World) (hri : RI w0 b V ts) : Calls Try.prog 65 #[.pointer (some ⟨b, 0, none⟩), hnd h, .string s, hnd g] w0 fun e w' => ∃ h' x V' ts', e = .returned (.tuple #[hnd h', .int .i64 x]) ∧ RI w' b V' ts' ∧ RStep w0 w' b V V' ∧ OfT ts h (drv s (strOf g)) h' x ts' := by
  refine enter Try.func65 rfl rfl rfl ?_
  intro a hS
  have hH := Hp.start w0 (V.F b)
  obtain ⟨x0, x1, x2, x3, x4, x5, x6, x7, x8, x9, xa, xb, xc, xd, xe, xf, rfl⟩ := len16 hh
  obtain ⟨g0, g1, g2, g3, g4, g5, g6, g7, g8, g9, ga, gb, gc, gd, ge, gf, rfl⟩ := len16 hg
  replace hH := hH.knowR hri (by intro p hp; simp at hp)
  have hRS := RS.start w0 b V
  refine c_seq ?_
  refine reg_plain w0 (V.F b) ?_
  refine r_box hS hH (by repeat (first | exact Sub.nil | refine Sub.cons ?_ ?_ | exact In.here | refine In.there ?_)) rfl rfl rfl ?_
  clear hS hH; intro a w b5 hb5 hwb5 hS hH
  refine r_box hS hH (by repeat (first | exact Sub.nil | refine Sub.cons ?_ ?_ | exact In.here | refine In.there ?_)) rfl rfl rfl ?_
  clear hS hH; intro a w b7 hb7 hwb7 hS hH
  refine r_alloc hS hH (by repeat (first | exact Sub.nil | refine Sub.cons ?_ ?_ | exact In.here | refine In.there ?_)) Fc.zc25 rfl ?_
  clear hS hH; intro a w b8 hb8 hwb8 hS hH
  refine r_assign hS hH.kp0 rfl rfl ?_; clear hS; intro a hS
  refine Sq.nil ?_
  refine then_n ?_
  refine c_seq ?_
  refine reg_draw [(true, 0, [0, 3, 4]), (true, 1, [0, 3, 4]), (true, 2, [0, 3, 4]), (true, 3, [0, 3, 4]), (false, 4, [3, 4]), (true, 5, [0, 3, 4]), (true, 6, [0, 3, 4]), (false, 7, [0, 3, 4]), (true, 8, [0, 3, 4])] Fc.mixed (by kernel_rfl) (by kernel_rfl) (by kernel_rfl) (by kernel_rfl) (by kernel_rfl) (by repeat (first | with_reducible exact steady_body | with_reducible apply steady_block | with_reducible apply steady_then | exact steady_body)) hH ?_
  replace hH := hH.drew
  refine r_move hS trivial rfl rfl ?_; clear hS; intro a hS
  refine r_load_rowS hS rfl (by repeat (first | exact In.here | refine In.there ?_)) Fc.ag25 (by rfl) rfl ?_; clear hS; intro a hS
  refine r_move hS trivial rfl rfl ?_; clear hS; intro a hS
  refine r_slArr hS trivial rfl Fc.ar25 rfl ?_; clear hS; intro a hS
  refine r_call (l := [.tmp 10, .tmp 11, .tmp 12, .tmp 13]) hS rfl rfl Fc.fn53 rfl ?_
  refine Calls.mono (rDerive_c b V ts [x0, x1, x2, x3, x4, x5, x6, x7, x8, x9, xa, xb, xc, xd, xe, xf] rfl s _ [g0, g1, g2, g3, g4, g5, g6, g7, g8, g9, ga, gb, gc, gd, ge, gf] hs (by simp) (by omega) _ (hH.rin (TV := 116) (TT := 113) hri.ok rfl hri.n01 (by repeat (first | exact In.here | refine In.there ?_)) (by repeat (first | exact In.here | refine In.there ?_))) (BsF.block (hH.get (b := b7) (by first | exact .here | exact .there .here | exact .there (.there .here) | exact .there (.there (.there .here)) | exact .there (.there (.there (.there .here))) | exact .there (.there (.there (.there (.there .here)))) | exact .there (.there (.there (.there (.there (.there .here))))) | exact .there (.there (.there (.there (.there (.there (.there .here)))))) | exact .there (.there (.there (.there (.there (.there (.there (.there .here))))))) | exact .there (.there (.there (.there (.there (.there (.there (.there (.there .here)))))))) | exact .there (.there (.there (.there (.there (.there (.there (.there (.there (.there .here))))))))) | exact .there (.there (.there (.there (.there (.there (.there (.there (.there (.there (.there .here)))))))))) | exact .there (.there (.there (.there (.there (.there (.there (.there (.there (.there (.there (.there .here))))))))))) | exact .there (.there (.there (.there (.there (.there (.there (.there (.there (.there (.there (.there (.there .here)))))))))))) | exact .there (.there (.there (.there (.there (.there (.there (.there (.there (.there (.there (.there (.there (.there .here))))))))))))) | exact .there (.there (.there (.there (.there (.there (.there (.there (.there (.there (.there (.there (.there (.there (.there .here)))))))))))))))) rfl ((hH.rin (TV := 116) (TT := 113) hri.ok rfl hri.n01 (by repeat (first | exact In.here | refine In.there ?_)) (by repeat (first | exact In.here | refine In.there ?_))).notF (hH.get (b := b7) (by first | exact .here | exact .there .here | exact .there (.there .here) | exact .there (.there (.there .here)) | exact .there (.there (.there (.there .here))) | exact .there (.there (.there (.there (.there .here)))) | exact .there (.there (.there (.there (.there (.there .here))))) | exact .there (.there (.there (.there (.there (.there (.there .here)))))) | exact .there (.there (.there (.there (.there (.there (.there (.there .here))))))) | exact .there (.there (.there (.there (.there (.there (.there (.there (.there .here)))))))) | exact .there (.there (.there (.there (.there (.there (.there (.there (.there (.there .here))))))))) | exact .there (.there (.there (.there (.there (.there (.there (.there (.there (.there (.there .here)))))))))) | exact .there (.there (.there (.there (.there (.there (.there (.there (.there (.there (.there (.there .here))))))))))) | exact .there (.there (.there (.there (.there (.there (.there (.there (.there (.there (.there (.there (.there .here)))))))))))) | exact .there (.there (.there (.there (.there (.there (.there (.there (.there (.there (.there (.there (.there (.there .here))))))))))))) | exact .there (.there (.there (.there (.there (.there (.there (.there (.there (.there (.there (.there (.there (.there (.there .here)))))))))))))))) (by decide) (by decide)))) ?_
  rintro e w1 ⟨h, xx1, V1, ts1, rfl, hri1, hst, hof1⟩
  obtain ⟨y0, y1, y2, y3, y4, y5, y6, y7, y8, y9, ya, yb, yc, yd, ye, yf, rfl⟩ := len16 (h := h) hof1.len
  have hln1 := hof1.lens
  have hRS1 := hRS.step hst hH.mod.size
  replace hH := hH.rvault hRS hst hri1 (by first | exact .two | exact .there .two | exact .there (.there .two) | exact .there (.there (.there .two)) | exact .there (.there (.there (.there .two))) | exact .there (.there (.there (.there (.there .two)))) | exact .there (.there (.there (.there (.there (.there .two))))) | exact .there (.there (.there (.there (.there (.there (.there .two)))))) | exact .there (.there (.there (.there (.there (.there (.there (.there .two))))))) | exact .there (.there (.there (.there (.there (.there (.there (.there (.there .two)))))))) | exact .there (.there (.there (.there (.there (.there (.there (.there (.there (.there .two))))))))) | exact .there (.there (.there (.there (.there (.there (.there (.there (.there (.there (.there .two)))))))))) | exact .there (.there (.there (.there (.there (.there (.there (.there (.there (.there (.there (.there .two))))))))))) | exact .there (.there (.there (.there (.there (.there (.there (.there (.there (.there (.there (.there (.there .two)))))))))))) | exact .there (.there (.there (.there (.there (.there (.there (.there (.there (.there (.there (.there (.there (.there .two))))))))))))) | exact .there (.there (.there (.there (.there (.there (.there (.there (.there (.there (.there (.there (.there (.there (.there .two)))))))))))))))
  clear hst
  refine ⟨_, rfl, hH.kp (by repeat (first | exact Sub.nil | refine Sub.cons ?_ ?_ | exact In.here | refine In.there ?_)), ?_⟩
  clear hS; intro a hS
  refine r_extract hS trivial rfl rfl rfl ?_; clear hS; intro a hS
  refine r_extract hS trivial rfl rfl rfl ?_; clear hS; intro a hS
  refine r_store_row hS hH rfl rfl (by first | exact .here | exact .there .here | exact .there (.there .here) | exact .there (.there (.there .here)) | exact .there (.there (.there (.there .here))) | exact .there (.there (.there (.there (.there .here)))) | exact .there (.there (.there (.there (.there (.there .here))))) | exact .there (.there (.there (.there (.there (.there (.there .here)))))) | exact .there (.there (.there (.there (.there (.there (.there (.there .here))))))) | exact .there (.there (.there (.there (.there (.there (.there (.there (.there .here)))))))) | exact .there (.there (.there (.there (.there (.there (.there (.there (.there (.there .here))))))))) | exact .there (.there (.there (.there (.there (.there (.there (.there (.there (.there (.there .here)))))))))) | exact .there (.there (.there (.there (.there (.there (.there (.there (.there (.there (.there (.there .here))))))))))) | exact .there (.there (.there (.there (.there (.there (.there (.there (.there (.there (.there (.there (.there .here)))))))))))) | exact .there (.there (.there (.there (.there (.there (.there (.there (.there (.there (.there (.there (.there (.there .here))))))))))))) | exact .there (.there (.there (.there (.there (.there (.there (.there (.there (.there (.there (.there (.there (.there (.there .here))))))))))))))) (by repeat (first | exact Sub.nil | refine Sub.cons ?_ ?_ | exact In.here | refine In.there ?_)) Fc.sz25 (by first | exact hcells_one _ | exact of_decide_eq_true rfl) (by rfl) (by first | exact .inr (by assumption) | exact .inl (by first | assumption | rfl)) ?_
  clear hH; intro w hH
  refine r_assign hS trivial rfl rfl ?_; clear hS; intro a hS
  refine Sq.nil ?_
  refine then_n ?_
  refine wp_ret ?_
  exact leave (.inl rfl) hS rfl (Res.cell rfl (hH.get (by repeat (first | exact In.here | refine In.there ?_))) Fc.ag25 (by rfl) rfl (Res.tmp rfl Res.nil)) ⟨_, _, V1, ts1, rfl, (hH.rin (TV := 116) (TT := 113) hri1.ok rfl hri1.n01 (by repeat (first | exact In.here | refine In.there ?_)) (by repeat (first | exact In.here | refine In.there ?_))), ⟨hRS1, hH.mod⟩, hof1⟩

set_option maxRecDepth 100000 in
set_option maxHeartbeats 1000000 in
theorem rMark_c (b : Nat) (V : RB) (ts : List Tm) (hm : ts.length ≤ 999999900) (h g : List UInt8) (hh : h.length = 16) (hg : g.length = 16) (w0 : World) (hri : RI w0 b V ts) : Calls Try.prog 66 #[.pointer (some ⟨b, 0, none⟩), hnd h, hnd g] w0 fun e w' => ∃ h' x V' ts', e = .returned (.tuple #[hnd h', .int .i64 x]) ∧ RI w' b V' ts' ∧ RStep w0 w' b V V' ∧ Of2 ts h (drv lb_finished (strOf [])) (drv lb_mark (strOf g)) h' x ts' := by
  refine enter Try.func66 rfl rfl rfl ?_
  intro a hS
  have hH := Hp.start w0 (V.F b)
  obtain ⟨x0, x1, x2, x3, x4, x5, x6, x7, x8, x9, xa, xb, xc, xd, xe, xf, rfl⟩ := len16 hh
  obtain ⟨g0, g1, g2, g3, g4, g5, g6, g7, g8, g9, ga, gb, gc, gd, ge, gf, rfl⟩ := len16 hg
  replace hH := hH.knowR hri (by intro p hp; simp at hp)
  have hRS := RS.start w0 b V
  refine c_seq ?_
  refine reg_plain w0 (V.F b) ?_
  refine r_box hS hH (by repeat (first | exact Sub.nil | refine Sub.cons ?_ ?_ | exact In.here | refine In.there ?_)) rfl rfl rfl ?_
  clear hS hH; intro a w b4 hb4 hwb4 hS hH
  refine r_box hS hH (by repeat (first | exact Sub.nil | refine Sub.cons ?_ ?_ | exact In.here | refine In.there ?_)) rfl rfl rfl ?_
  clear hS hH; intro a w b5 hb5 hwb5 hS hH
  refine r_alloc hS hH (by repeat (first | exact Sub.nil | refine Sub.cons ?_ ?_ | exact In.here | refine In.there ?_)) Fc.zc25 rfl ?_
  clear hS hH; intro a w b6 hb6 hwb6 hS hH
  refine r_assign hS hH.kp0 rfl rfl ?_; clear hS; intro a hS
  refine Sq.nil ?_
  refine then_n ?_
  refine c_seq ?_
  refine reg_draw [(true, 0, [0, 3, 4]), (true, 1, [0, 3, 4]), (true, 2, [0, 3, 4]), (false, 3, [3, 4]), (true, 4, [0, 3, 4]), (true, 5, [0, 3, 4]), (false, 6, [0, 3, 4]), (true, 7, [0, 3, 4])] Fc.mixed (by kernel_rfl) (by kernel_rfl) (by kernel_rfl) (by kernel_rfl) (by kernel_rfl) (by repeat (first | with_reducible exact steady_body | with_reducible apply steady_block | with_reducible apply steady_then | exact steady_body)) hH ?_
  replace hH := hH.drew
  refine r_move hS trivial rfl rfl ?_; clear hS; intro a hS
  refine r_load_rowS hS rfl (by repeat (first | exact In.here | refine In.there ?_)) Fc.ag25 (by rfl) rfl ?_; clear hS; intro a hS
  refine r_slArr hS trivial rfl Fc.ar25 rfl ?_; clear hS; intro a hS
  refine r_call (l := [.tmp 8, .tmp 9, .const (.string { data := #[102, 105, 110, 105, 115, 104, 101, 100] }), .const (.slice none 0 0), .const (.string { data := #[109, 97, 114, 107] }), .tmp 10]) hS rfl rfl Fc.fn80 rfl ?_
  refine Calls.mono (two_c b V ts (by omega) [x0, x1, x2, x3, x4, x5, x6, x7, x8, x9, xa, xb, xc, xd, xe, xf] rfl lb_finished lb_mark (by decide) (by decide) _ _ [] [g0, g1, g2, g3, g4, g5, g6, g7, g8, g9, ga, gb, gc, gd, ge, gf] (by simp) (by simp) _ (hH.rin (TV := 116) (TT := 113) hri.ok rfl hri.n01 (by repeat (first | exact In.here | refine In.there ?_)) (by repeat (first | exact In.here | refine In.there ?_))) (BsF.nil _ _) (BsF.block (hH.get (b := b5) (by first | exact .here | exact .there .here | exact .there (.there .here) | exact .there (.there (.there .here)) | exact .there (.there (.there (.there .here))) | exact .there (.there (.there (.there (.there .here)))) | exact .there (.there (.there (.there (.there (.there .here))))) | exact .there (.there (.there (.there (.there (.there (.there .here)))))) | exact .there (.there (.there (.there (.there (.there (.there (.there .here))))))) | exact .there (.there (.there (.there (.there (.there (.there (.there (.there .here)))))))) | exact .there (.there (.there (.there (.there (.there (.there (.there (.there (.there .here))))))))) | exact .there (.there (.there (.there (.there (.there (.there (.there (.there (.there (.there .here)))))))))) | exact .there (.there (.there (.there (.there (.there (.there (.there (.there (.there (.there (.there .here))))))))))) | exact .there (.there (.there (.there (.there (.there (.there (.there (.there (.there (.there (.there (.there .here)))))))))))) | exact .there (.there (.there (.there (.there (.there (.there (.there (.there (.there (.there (.there (.there (.there .here))))))))))))) | exact .there (.there (.there (.there (.there (.there (.there (.there (.there (.there (.there (.there (.there (.there (.there .here)))))))))))))))) rfl ((hH.rin (TV := 116) (TT := 113) hri.ok rfl hri.n01 (by repeat (first | exact In.here | refine In.there ?_)) (by repeat (first | exact In.here | refine In.there ?_))).notF (hH.get (b := b5) (by first | exact .here | exact .there .here | exact .there (.there .here) | exact .there (.there (.there .here)) | exact .there (.there (.there (.there .here))) | exact .there (.there (.there (.there (.there .here)))) | exact .there (.there (.there (.there (.there (.there .here))))) | exact .there (.there (.there (.there (.there (.there (.there .here)))))) | exact .there (.there (.there (.there (.there (.there (.there (.there .here))))))) | exact .there (.there (.there (.there (.there (.there (.there (.there (.there .here)))))))) | exact .there (.there (.there (.there (.there (.there (.there (.there (.there (.there .here))))))))) | exact .there (.there (.there (.there (.there (.there (.there (.there (.there (.there (.there .here)))))))))) | exact .there (.there (.there (.there (.there (.there (.there (.there (.there (.there (.there (.there .here))))))))))) | exact .there (.there (.there (.there (.there (.there (.there (.there (.there (.there (.there (.there (.there .here)))))))))))) | exact .there (.there (.there (.there (.there (.there (.there (.there (.there (.there (.there (.there (.there (.there .here))))))))))))) | exact .there (.there (.there (.there (.there (.there (.there (.there (.there (.there (.there (.there (.there (.there (.there .here)))))))))))))))) (by decide) (by decide)))) ?_
  rintro e w1 ⟨h, xx1, V1, ts1, rfl, hri1, hst, hof1⟩
  obtain ⟨y0, y1, y2, y3, y4, y5, y6, y7, y8, y9, ya, yb, yc, yd, ye, yf, rfl⟩ := len16 (h := h) hof1.len
  have hRS1 := hRS.step hst hH.mod.size
  replace hH := hH.rvault hRS hst hri1 (by first | exact .two | exact .there .two | exact .there (.there .two) | exact .there (.there (.there .two)) | exact .there (.there (.there (.there .two))) | exact .there (.there (.there (.there (.there .two)))) | exact .there (.there (.there (.there (.there (.there .two))))) | exact .there (.there (.there (.there (.there (.there (.there .two)))))) | exact .there (.there (.there (.there (.there (.there (.there (.there .two))))))) | exact .there (.there (.there (.there (.there (.there (.there (.there (.there .two)))))))) | exact .there (.there (.there (.there (.there (.there (.there (.there (.there (.there .two))))))))) | exact .there (.there (.there (.there (.there (.there (.there (.there (.there (.there (.there .two)))))))))) | exact .there (.there (.there (.there (.there (.there (.there (.there (.there (.there (.there (.there .two))))))))))) | exact .there (.there (.there (.there (.there (.there (.there (.there (.there (.there (.there (.there (.there .two)))))))))))) | exact .there (.there (.there (.there (.there (.there (.there (.there (.there (.there (.there (.there (.there (.there .two))))))))))))) | exact .there (.there (.there (.there (.there (.there (.there (.there (.there (.there (.there (.there (.there (.there (.there .two)))))))))))))))
  clear hst
  refine ⟨_, rfl, hH.kp (by repeat (first | exact Sub.nil | refine Sub.cons ?_ ?_ | exact In.here | refine In.there ?_)), ?_⟩
  clear hS; intro a hS
  refine r_extract hS trivial rfl rfl rfl ?_; clear hS; intro a hS
  refine r_extract hS trivial rfl rfl rfl ?_; clear hS; intro a hS
  refine r_store_row hS hH rfl rfl (by first | exact .here | exact .there .here | exact .there (.there .here) | exact .there (.there (.there .here)) | exact .there (.there (.there (.there .here))) | exact .there (.there (.there (.there (.there .here)))) | exact .there (.there (.there (.there (.there (.there .here))))) | exact .there (.there (.there (.there (.there (.there (.there .here)))))) | exact .there (.there (.there (.there (.there (.there (.there (.there .here))))))) | exact .there (.there (.there (.there (.there (.there (.there (.there (.there .here)))))))) | exact .there (.there (.there (.there (.there (.there (.there (.there (.there (.there .here))))))))) | exact .there (.there (.there (.there (.there (.there (.there (.there (.there (.there (.there .here)))))))))) | exact .there (.there (.there (.there (.there (.there (.there (.there (.there (.there (.there (.there .here))))))))))) | exact .there (.there (.there (.there (.there (.there (.there (.there (.there (.there (.there (.there (.there .here)))))))))))) | exact .there (.there (.there (.there (.there (.there (.there (.there (.there (.there (.there (.there (.there (.there .here))))))))))))) | exact .there (.there (.there (.there (.there (.there (.there (.there (.there (.there (.there (.there (.there (.there (.there .here))))))))))))))) (by repeat (first | exact Sub.nil | refine Sub.cons ?_ ?_ | exact In.here | refine In.there ?_)) Fc.sz25 (by first | exact hcells_one _ | exact of_decide_eq_true rfl) (by rfl) (by first | exact .inr (by assumption) | exact .inl (by first | assumption | rfl)) ?_
  clear hH; intro w hH
  refine r_assign hS trivial rfl rfl ?_; clear hS; intro a hS
  refine Sq.nil ?_
  refine then_n ?_
  refine wp_ret ?_
  exact leave (.inl rfl) hS rfl (Res.cell rfl (hH.get (by repeat (first | exact In.here | refine In.there ?_))) Fc.ag25 (by rfl) rfl (Res.tmp rfl Res.nil)) ⟨_, _, V1, ts1, rfl, (hH.rin (TV := 116) (TT := 113) hri1.ok rfl hri1.n01 (by repeat (first | exact In.here | refine In.there ?_)) (by repeat (first | exact In.here | refine In.there ?_))), ⟨hRS1, hH.mod⟩, hof1⟩

set_option maxRecDepth 100000 in
set_option maxHeartbeats 1000000 in
theorem rBind_c (b : Nat) (V : RB) (ts : List Tm) (hm : ts.length ≤ 999999900) (h : List UInt8) (hh : h.length = 16) (v : Value) (l : List UInt8) (hl : l.length ≤ 1048576) (w0 : World) (hri : RI w0 b V ts) (hb : BsF (V.F b) w0 v l) : Calls Try.prog 67 #[.pointer (some ⟨b, 0, none⟩), hnd h, v] w0 fun e w' => ∃ h' x V' ts', e = .returned (.tuple #[hnd h', .int .i64 x]) ∧ RI w' b V' ts' ∧ RStep w0 w' b V V' ∧ Of2 ts h (drv lb_binder (strOf [])) (drv lb_mark (strOf l)) h' x ts' := by
  refine enter Try.func67 rfl rfl rfl ?_
  intro a hS
  have hH := Hp.start w0 (V.F b)
  obtain ⟨x0, x1, x2, x3, x4, x5, x6, x7, x8, x9, xa, xb, xc, xd, xe, xf, rfl⟩ := len16 hh
  obtain ⟨q, qc, hsl⟩ := hb.bs
  have hv9 := hsl.val
  subst hv9
  replace hH := hH.knowR hri (by intro p hp; simp at hp)
  have hRS := RS.start w0 b V
  refine c_seq ?_
  refine reg_plain w0 (V.F b) ?_
  refine r_box hS hH (by repeat (first | exact Sub.nil | refine Sub.cons ?_ ?_ | exact In.here | refine In.there ?_)) rfl rfl rfl ?_
  clear hS hH; intro a w b4 hb4 hwb4 hS hH
  refine r_alloc hS hH (by repeat (first | exact Sub.nil | refine Sub.cons ?_ ?_ | exact In.here | refine In.there ?_)) Fc.zc25 rfl ?_
  clear hS hH; intro a w b6 hb6 hwb6 hS hH
  refine r_assign hS hH.kp0 rfl rfl ?_; clear hS; intro a hS
  refine Sq.nil ?_
  refine then_n ?_
  refine c_seq ?_
  refine reg_plain w0 (V.F b) ?_
  refine r_move hS hH.kp0 rfl rfl ?_; clear hS; intro a hS
  refine r_load_row hS hH (by repeat (first | exact Sub.nil | refine Sub.cons ?_ ?_ | exact In.here | refine In.there ?_)) rfl (by repeat (first | exact In.here | refine In.there ?_)) Fc.ag25 (by rfl) rfl ?_; clear hS; intro a hS
  refine r_move hS hH.kp0 rfl rfl ?_; clear hS; intro a hS
  refine r_call (l := [.tmp 8, .tmp 9, .const (.string { data := #[98, 105, 110, 100, 101, 114] }), .const (.slice none 0 0), .const (.string { data := #[109, 97, 114, 107] }), .tmp 10]) hS rfl rfl Fc.fn80 rfl ?_
  refine Calls.mono (two_c b V ts (by omega) [x0, x1, x2, x3, x4, x5, x6, x7, x8, x9, xa, xb, xc, xd, xe, xf] rfl lb_binder lb_mark (by decide) (by decide) _ _ [] l (by simp) hl _ (hH.rin (TV := 116) (TT := 113) hri.ok rfl hri.n01 (by repeat (first | exact In.here | refine In.there ?_)) (by repeat (first | exact In.here | refine In.there ?_))) (BsF.nil _ _) (hb.go hH.mod hRS)) ?_
  rintro e w1 ⟨h, xx1, V1, ts1, rfl, hri1, hst, hof1⟩
  obtain ⟨y0, y1, y2, y3, y4, y5, y6, y7, y8, y9, ya, yb, yc, yd, ye, yf, rfl⟩ := len16 (h := h) hof1.len
  have hRS1 := hRS.step hst hH.mod.size
  replace hH := hH.rvault hRS hst hri1 (by first | exact .two | exact .there .two | exact .there (.there .two) | exact .there (.there (.there .two)) | exact .there (.there (.there (.there .two))) | exact .there (.there (.there (.there (.there .two)))) | exact .there (.there (.there (.there (.there (.there .two))))) | exact .there (.there (.there (.there (.there (.there (.there .two)))))) | exact .there (.there (.there (.there (.there (.there (.there (.there .two))))))) | exact .there (.there (.there (.there (.there (.there (.there (.there (.there .two)))))))) | exact .there (.there (.there (.there (.there (.there (.there (.there (.there (.there .two))))))))) | exact .there (.there (.there (.there (.there (.there (.there (.there (.there (.there (.there .two)))))))))) | exact .there (.there (.there (.there (.there (.there (.there (.there (.there (.there (.there (.there .two))))))))))) | exact .there (.there (.there (.there (.there (.there (.there (.there (.there (.there (.there (.there (.there .two)))))))))))) | exact .there (.there (.there (.there (.there (.there (.there (.there (.there (.there (.there (.there (.there (.there .two))))))))))))) | exact .there (.there (.there (.there (.there (.there (.there (.there (.there (.there (.there (.there (.there (.there (.there .two)))))))))))))))
  clear hst
  refine ⟨_, rfl, hH.kp0, ?_⟩
  clear hS; intro a hS
  refine r_extract hS hH.kp0 rfl rfl rfl ?_; clear hS; intro a hS
  refine r_extract hS hH.kp0 rfl rfl rfl ?_; clear hS; intro a hS
  refine r_store_row hS hH rfl rfl (by first | exact .here | exact .there .here | exact .there (.there .here) | exact .there (.there (.there .here)) | exact .there (.there (.there (.there .here))) | exact .there (.there (.there (.there (.there .here)))) | exact .there (.there (.there (.there (.there (.there .here))))) | exact .there (.there (.there (.there (.there (.there (.there .here)))))) | exact .there (.there (.there (.there (.there (.there (.there (.there .here))))))) | exact .there (.there (.there (.there (.there (.there (.there (.there (.there .here)))))))) | exact .there (.there (.there (.there (.there (.there (.there (.there (.there (.there .here))))))))) | exact .there (.there (.there (.there (.there (.there (.there (.there (.there (.there (.there .here)))))))))) | exact .there (.there (.there (.there (.there (.there (.there (.there (.there (.there (.there (.there .here))))))))))) | exact .there (.there (.there (.there (.there (.there (.there (.there (.there (.there (.there (.there (.there .here)))))))))))) | exact .there (.there (.there (.there (.there (.there (.there (.there (.there (.there (.there (.there (.there (.there .here))))))))))))) | exact .there (.there (.there (.there (.there (.there (.there (.there (.there (.there (.there (.there (.there (.there (.there .here))))))))))))))) (by repeat (first | exact Sub.nil | refine Sub.cons ?_ ?_ | exact In.here | refine In.there ?_)) Fc.sz25 (by first | exact hcells_one _ | exact of_decide_eq_true rfl) (by rfl) (by first | exact .inr (by assumption) | exact .inl (by first | assumption | rfl)) ?_
  clear hH; intro w hH
  refine r_assign hS hH.kp0 rfl rfl ?_; clear hS; intro a hS
  refine Sq.nil ?_
  refine then_n ?_
  refine wp_ret ?_
  exact leave (.inl rfl) hS rfl (Res.cell rfl (hH.get (by repeat (first | exact In.here | refine In.there ?_))) Fc.ag25 (by rfl) rfl (Res.tmp rfl Res.nil)) ⟨_, _, V1, ts1, rfl, (hH.rin (TV := 116) (TT := 113) hri1.ok rfl hri1.n01 (by repeat (first | exact In.here | refine In.there ?_)) (by repeat (first | exact In.here | refine In.there ?_))), ⟨hRS1, hH.mod⟩, hof1⟩

set_option maxRecDepth 100000 in
set_option maxHeartbeats 1000000 in
theorem rResume_c (b : Nat) (V : RB) (ts : List Tm) (hm : ts.length ≤ 999999900) (h g : List UInt8) (hh : h.length = 16) (hg : g.length = 16) (v : Value) (l : List UInt8) (hl : l.length ≤ 1048576) (w0 : World) (hri : RI w0 b V ts) (hb : BsF (V.F b) w0 v l) : Calls Try.prog 68 #[.pointer (some ⟨b, 0, none⟩), hnd h, hnd g, v] w0 fun e w' => ∃ h' x V' ts', e = .returned (.tuple #[hnd h', .int .i64 x]) ∧ RI w' b V' ts' ∧ RStep w0 w' b V V' ∧ Of2 ts h (drv lb_resume (strOf g)) (drv lb_ticket (strOf l)) h' x ts' := by
  refine enter Try.func68 rfl rfl rfl ?_
  intro a hS
  have hH := Hp.start w0 (V.F b)
  obtain ⟨x0, x1, x2, x3, x4, x5, x6, x7, x8, x9, xa, xb, xc, xd, xe, xf, rfl⟩ := len16 hh
  obtain ⟨g0, g1, g2, g3, g4, g5, g6, g7, g8, g9, ga, gb, gc, gd, ge, gf, rfl⟩ := len16 hg
  obtain ⟨q, qc, hsl⟩ := hb.bs
  have hv9 := hsl.val
  subst hv9
  replace hH := hH.knowR hri (by intro p hp; simp at hp)
  have hRS := RS.start w0 b V
  refine c_seq ?_
  refine reg_plain w0 (V.F b) ?_
  refine r_box hS hH (by repeat (first | exact Sub.nil | refine Sub.cons ?_ ?_ | exact In.here | refine In.there ?_)) rfl rfl rfl ?_
  clear hS hH; intro a w b5 hb5 hwb5 hS hH
  refine r_box hS hH (by repeat (first | exact Sub.nil | refine Sub.cons ?_ ?_ | exact In.here | refine In.there ?_)) rfl rfl rfl ?_
  clear hS hH; intro a w b6 hb6 hwb6 hS hH
  refine r_alloc hS hH (by repeat (first | exact Sub.nil | refine Sub.cons ?_ ?_ | exact In.here | refine In.there ?_)) Fc.zc25 rfl ?_
  clear hS hH; intro a w b8 hb8 hwb8 hS hH
  refine r_assign hS hH.kp0 rfl rfl ?_; clear hS; intro a hS
  refine Sq.nil ?_
  refine then_n ?_
  refine c_seq ?_
  refine reg_draw [(true, 0, [0, 3, 4]), (true, 1, [0, 3, 4]), (true, 2, [0, 3, 4]), (true, 3, [0, 3, 4]), (false, 4, [3, 4]), (true, 5, [0, 3, 4]), (true, 6, [0, 3, 4]), (false, 7, [0, 3, 4]), (true, 8, [0, 3, 4])] Fc.mixed (by kernel_rfl) (by kernel_rfl) (by kernel_rfl) (by kernel_rfl) (by kernel_rfl) (by repeat (first | with_reducible exact steady_body | with_reducible apply steady_block | with_reducible apply steady_then | exact steady_body)) hH ?_
  replace hH := hH.drew
  refine r_move hS trivial rfl rfl ?_; clear hS; intro a hS
  refine r_load_rowS hS rfl (by repeat (first | exact In.here | refine In.there ?_)) Fc.ag25 (by rfl) rfl ?_; clear hS; intro a hS
  refine r_slArr hS trivial rfl Fc.ar25 rfl ?_; clear hS; intro a hS
  refine r_move hS trivial rfl rfl ?_; clear hS; intro a hS
  refine r_call (l := [.tmp 10, .tmp 11, .const (.string { data := #[114, 101, 115, 117, 109, 101] }), .tmp 12, .const (.string { data := #[116, 105, 99, 107, 101, 116] }), .tmp 13]) hS rfl rfl Fc.fn80 rfl ?_
  refine Calls.mono (two_c b V ts (by omega) [x0, x1, x2, x3, x4, x5, x6, x7, x8, x9, xa, xb, xc, xd, xe, xf] rfl lb_resume lb_ticket (by decide) (by decide) _ _ [g0, g1, g2, g3, g4, g5, g6, g7, g8, g9, ga, gb, gc, gd, ge, gf] l (by simp) hl _ (hH.rin (TV := 116) (TT := 113) hri.ok rfl hri.n01 (by repeat (first | exact In.here | refine In.there ?_)) (by repeat (first | exact In.here | refine In.there ?_))) (BsF.block (hH.get (b := b6) (by first | exact .here | exact .there .here | exact .there (.there .here) | exact .there (.there (.there .here)) | exact .there (.there (.there (.there .here))) | exact .there (.there (.there (.there (.there .here)))) | exact .there (.there (.there (.there (.there (.there .here))))) | exact .there (.there (.there (.there (.there (.there (.there .here)))))) | exact .there (.there (.there (.there (.there (.there (.there (.there .here))))))) | exact .there (.there (.there (.there (.there (.there (.there (.there (.there .here)))))))) | exact .there (.there (.there (.there (.there (.there (.there (.there (.there (.there .here))))))))) | exact .there (.there (.there (.there (.there (.there (.there (.there (.there (.there (.there .here)))))))))) | exact .there (.there (.there (.there (.there (.there (.there (.there (.there (.there (.there (.there .here))))))))))) | exact .there (.there (.there (.there (.there (.there (.there (.there (.there (.there (.there (.there (.there .here)))))))))))) | exact .there (.there (.there (.there (.there (.there (.there (.there (.there (.there (.there (.there (.there (.there .here))))))))))))) | exact .there (.there (.there (.there (.there (.there (.there (.there (.there (.there (.there (.there (.there (.there (.there .here)))))))))))))))) rfl ((hH.rin (TV := 116) (TT := 113) hri.ok rfl hri.n01 (by repeat (first | exact In.here | refine In.there ?_)) (by repeat (first | exact In.here | refine In.there ?_))).notF (hH.get (b := b6) (by first | exact .here | exact .there .here | exact .there (.there .here) | exact .there (.there (.there .here)) | exact .there (.there (.there (.there .here))) | exact .there (.there (.there (.there (.there .here)))) | exact .there (.there (.there (.there (.there (.there .here))))) | exact .there (.there (.there (.there (.there (.there (.there .here)))))) | exact .there (.there (.there (.there (.there (.there (.there (.there .here))))))) | exact .there (.there (.there (.there (.there (.there (.there (.there (.there .here)))))))) | exact .there (.there (.there (.there (.there (.there (.there (.there (.there (.there .here))))))))) | exact .there (.there (.there (.there (.there (.there (.there (.there (.there (.there (.there .here)))))))))) | exact .there (.there (.there (.there (.there (.there (.there (.there (.there (.there (.there (.there .here))))))))))) | exact .there (.there (.there (.there (.there (.there (.there (.there (.there (.there (.there (.there (.there .here)))))))))))) | exact .there (.there (.there (.there (.there (.there (.there (.there (.there (.there (.there (.there (.there (.there .here))))))))))))) | exact .there (.there (.there (.there (.there (.there (.there (.there (.there (.there (.there (.there (.there (.there (.there .here)))))))))))))))) (by decide) (by decide))) (hb.go hH.mod hRS)) ?_
  rintro e w1 ⟨h, xx1, V1, ts1, rfl, hri1, hst, hof1⟩
  obtain ⟨y0, y1, y2, y3, y4, y5, y6, y7, y8, y9, ya, yb, yc, yd, ye, yf, rfl⟩ := len16 (h := h) hof1.len
  have hRS1 := hRS.step hst hH.mod.size
  replace hH := hH.rvault hRS hst hri1 (by first | exact .two | exact .there .two | exact .there (.there .two) | exact .there (.there (.there .two)) | exact .there (.there (.there (.there .two))) | exact .there (.there (.there (.there (.there .two)))) | exact .there (.there (.there (.there (.there (.there .two))))) | exact .there (.there (.there (.there (.there (.there (.there .two)))))) | exact .there (.there (.there (.there (.there (.there (.there (.there .two))))))) | exact .there (.there (.there (.there (.there (.there (.there (.there (.there .two)))))))) | exact .there (.there (.there (.there (.there (.there (.there (.there (.there (.there .two))))))))) | exact .there (.there (.there (.there (.there (.there (.there (.there (.there (.there (.there .two)))))))))) | exact .there (.there (.there (.there (.there (.there (.there (.there (.there (.there (.there (.there .two))))))))))) | exact .there (.there (.there (.there (.there (.there (.there (.there (.there (.there (.there (.there (.there .two)))))))))))) | exact .there (.there (.there (.there (.there (.there (.there (.there (.there (.there (.there (.there (.there (.there .two))))))))))))) | exact .there (.there (.there (.there (.there (.there (.there (.there (.there (.there (.there (.there (.there (.there (.there .two)))))))))))))))
  clear hst
  refine ⟨_, rfl, hH.kp (by repeat (first | exact Sub.nil | refine Sub.cons ?_ ?_ | exact In.here | refine In.there ?_)), ?_⟩
  clear hS; intro a hS
  refine r_extract hS trivial rfl rfl rfl ?_; clear hS; intro a hS
  refine r_extract hS trivial rfl rfl rfl ?_; clear hS; intro a hS
  refine r_store_row hS hH rfl rfl (by first | exact .here | exact .there .here | exact .there (.there .here) | exact .there (.there (.there .here)) | exact .there (.there (.there (.there .here))) | exact .there (.there (.there (.there (.there .here)))) | exact .there (.there (.there (.there (.there (.there .here))))) | exact .there (.there (.there (.there (.there (.there (.there .here)))))) | exact .there (.there (.there (.there (.there (.there (.there (.there .here))))))) | exact .there (.there (.there (.there (.there (.there (.there (.there (.there .here)))))))) | exact .there (.there (.there (.there (.there (.there (.there (.there (.there (.there .here))))))))) | exact .there (.there (.there (.there (.there (.there (.there (.there (.there (.there (.there .here)))))))))) | exact .there (.there (.there (.there (.there (.there (.there (.there (.there (.there (.there (.there .here))))))))))) | exact .there (.there (.there (.there (.there (.there (.there (.there (.there (.there (.there (.there (.there .here)))))))))))) | exact .there (.there (.there (.there (.there (.there (.there (.there (.there (.there (.there (.there (.there (.there .here))))))))))))) | exact .there (.there (.there (.there (.there (.there (.there (.there (.there (.there (.there (.there (.there (.there (.there .here))))))))))))))) (by repeat (first | exact Sub.nil | refine Sub.cons ?_ ?_ | exact In.here | refine In.there ?_)) Fc.sz25 (by first | exact hcells_one _ | exact of_decide_eq_true rfl) (by rfl) (by first | exact .inr (by assumption) | exact .inl (by first | assumption | rfl)) ?_
  clear hH; intro w hH
  refine r_assign hS trivial rfl rfl ?_; clear hS; intro a hS
  refine Sq.nil ?_
  refine then_n ?_
  refine wp_ret ?_
  exact leave (.inl rfl) hS rfl (Res.cell rfl (hH.get (by repeat (first | exact In.here | refine In.there ?_))) Fc.ag25 (by rfl) rfl (Res.tmp rfl Res.nil)) ⟨_, _, V1, ts1, rfl, (hH.rin (TV := 116) (TT := 113) hri1.ok rfl hri1.n01 (by repeat (first | exact In.here | refine In.there ?_)) (by repeat (first | exact In.here | refine In.there ?_))), ⟨hRS1, hH.mod⟩, hof1⟩

set_option maxRecDepth 100000 in
set_option maxHeartbeats 1000000 in
theorem rHand_c (b : Nat) (V : RB) (ts : List Tm) (hm : ts.length ≤ 999999900) (h g : List UInt8) (hh : h.length = 16) (hg : g.length = 16) (w0 : World) (hri : RI w0 b V ts) : Calls Try.prog 63 #[.pointer (some ⟨b, 0, none⟩), hnd h, hnd g] w0 fun e w' => ∃ h' x V' ts', e = .returned (.tuple #[hnd h', .int .i64 x]) ∧ RI w' b V' ts' ∧ RStep w0 w' b V V' ∧ HandT ts h g (drv lb_hand (strOf h)) (drv lb_both (strOf h)) h' x ts' := by
  refine enter Try.func63 rfl rfl rfl ?_
  intro a hS
  have hH := Hp.start w0 (V.F b)
  obtain ⟨x0, x1, x2, x3, x4, x5, x6, x7, x8, x9, xa, xb, xc, xd, xe, xf, rfl⟩ := len16 hh
  obtain ⟨g0, g1, g2, g3, g4, g5, g6, g7, g8, g9, ga, gb, gc, gd, ge, gf, rfl⟩ := len16 hg
  replace hH := hH.knowR hri (by intro p hp; simp at hp)
  have hRS := RS.start w0 b V
  refine c_seq ?_
  refine reg_plain w0 (V.F b) ?_
  refine r_box hS hH (by repeat (first | exact Sub.nil | refine Sub.cons ?_ ?_ | exact In.here | refine In.there ?_)) rfl rfl rfl ?_
  clear hS hH; intro a w b4 hb4 hwb4 hS hH
  refine r_box hS hH (by repeat (first | exact Sub.nil | refine Sub.cons ?_ ?_ | exact In.here | refine In.there ?_)) rfl rfl rfl ?_
  clear hS hH; intro a w b5 hb5 hwb5 hS hH
  refine r_alloc hS hH (by repeat (first | exact Sub.nil | refine Sub.cons ?_ ?_ | exact In.here | refine In.there ?_)) Fc.zc25 rfl ?_
  clear hS hH; intro a w b6 hb6 hwb6 hS hH
  refine r_assign hS hH.kp0 rfl rfl ?_; clear hS; intro a hS
  refine Sq.nil ?_
  refine then_n ?_
  refine c_seq ?_
  refine c_seq ?_
  refine reg_plain w0 (V.F b) ?_
  refine r_move hS hH.kp0 rfl rfl ?_; clear hS; intro a hS
  refine r_load_row hS hH (by repeat (first | exact Sub.nil | refine Sub.cons ?_ ?_ | exact In.here | refine In.there ?_)) rfl (by repeat (first | exact In.here | refine In.there ?_)) Fc.ag25 (by rfl) rfl ?_; clear hS; intro a hS
  refine r_call (l := [.tmp 8, .tmp 9]) hS rfl rfl Fc.fn72 rfl ?_
  refine Calls.mono (rOf_c b V ts [x0, x1, x2, x3, x4, x5, x6, x7, x8, x9, xa, xb, xc, xd, xe, xf] rfl (by omega) _ (hH.rin (TV := 116) (TT := 113) hri.ok rfl hri.n01 (by repeat (first | exact In.here | refine In.there ?_)) (by repeat (first | exact In.here | refine In.there ?_)))) ?_
  rintro e w1 ⟨k, rfl, hcase, hE⟩
  replace hH := hH.ext hE
  refine ⟨_, rfl, hH.kp0, ?_⟩
  clear hS; intro a hS
  refine r_lss hS hH.kp0 rfl rfl rfl ?_; clear hS; intro a hS
  refine Sq.nil ?_
  refine then_n ?_
  refine c_cond hS rfl (fun hc0 => ?_) (fun hc0 => ?_)
  · have hlt := of_decide_eq_true hc0
    rcases hcase with ⟨i, hi, hn, hk⟩ | ⟨hno, hk⟩
    · omega
    refine c_seq ?_
    refine reg_plain w0 (V.F b) ?_
    refine r_buildA (parts := []) hS hH.kp0 rfl rfl Fc.zc25 Fc.ar25 (by rfl) ?_; clear hS; intro a hS
    refine r_store_row hS hH rfl rfl (by first | exact .here | exact .there .here | exact .there (.there .here) | exact .there (.there (.there .here)) | exact .there (.there (.there (.there .here))) | exact .there (.there (.there (.there (.there .here)))) | exact .there (.there (.there (.there (.there (.there .here))))) | exact .there (.there (.there (.there (.there (.there (.there .here)))))) | exact .there (.there (.there (.there (.there (.there (.there (.there .here))))))) | exact .there (.there (.there (.there (.there (.there (.there (.there (.there .here)))))))) | exact .there (.there (.there (.there (.there (.there (.there (.there (.there (.there .here))))))))) | exact .there (.there (.there (.there (.there (.there (.there (.there (.there (.there (.there .here)))))))))) | exact .there (.there (.there (.there (.there (.there (.there (.there (.there (.there (.there (.there .here))))))))))) | exact .there (.there (.there (.there (.there (.there (.there (.there (.there (.there (.there (.there (.there .here)))))))))))) | exact .there (.there (.there (.there (.there (.there (.there (.there (.there (.there (.there (.there (.there (.there .here))))))))))))) | exact .there (.there (.there (.there (.there (.there (.there (.there (.there (.there (.there (.there (.there (.there (.there .here))))))))))))))) (by repeat (first | exact Sub.nil | refine Sub.cons ?_ ?_ | exact In.here | refine In.there ?_)) Fc.sz25 (by first | exact hcells_one _ | exact of_decide_eq_true rfl) (by rfl) (by first | exact .inr (by assumption) | exact .inl (by first | assumption | rfl)) ?_
    clear hH; intro w hH
    refine r_assign hS hH.kp0 rfl rfl ?_; clear hS; intro a hS
    refine Sq.nil ?_
    refine then_n ?_
    refine wp_ret ?_
    refine then_r ?_
    exact leave (.inl rfl) hS rfl (Res.cell rfl (hH.get (by repeat (first | exact In.here | refine In.there ?_))) Fc.ag25 (by rfl) rfl (Res.tmp rfl Res.nil)) ⟨zH, 15, V, ts, rfl, (hH.rin (TV := 116) (TT := 113) hri.ok rfl hri.n01 (by repeat (first | exact In.here | refine In.there ?_)) (by repeat (first | exact In.here | refine In.there ?_))), ⟨hRS, hH.mod⟩, .inl ⟨fun ⟨i, hi, hn⟩ => hno i hi hn, rfl, rfl, rfl⟩⟩
  · have hge := of_decide_eq_false hc0
    rcases hcase.symm with ⟨hno, hk⟩ | ⟨i, hi, hn, hk⟩
    · omega
    refine wp_skip ?_
    refine then_n ?_
    refine c_seq ?_
    refine reg_draw [(true, 0, [0, 3, 4]), (true, 1, [0, 3, 4]), (true, 2, [0, 3, 4]), (true, 3, [0, 3, 4]), (false, 4, [3, 4]), (true, 5, [0, 3, 4]), (true, 6, [0, 3, 4]), (false, 7, [0, 3, 4]), (true, 8, [0, 3, 4])] Fc.mixed (by kernel_rfl) (by kernel_rfl) (by kernel_rfl) (by kernel_rfl) (by kernel_rfl) (by repeat (first | with_reducible exact steady_body | with_reducible apply steady_block | with_reducible apply steady_then | exact steady_body)) hH ?_
    replace hH := hH.drew
    refine r_move hS trivial rfl rfl ?_; clear hS; intro a hS
    refine r_load_rowS hS rfl (by repeat (first | exact In.here | refine In.there ?_)) Fc.ag25 (by rfl) rfl ?_; clear hS; intro a hS
    refine r_slArr hS trivial rfl Fc.ar25 rfl ?_; clear hS; intro a hS
    refine r_slArr hS trivial rfl Fc.ar25 rfl ?_; clear hS; intro a hS
    refine r_call (l := [.tmp 13, .tmp 14, .const (.string { data := #[104, 97, 110, 100] }), .tmp 15, .const (.string { data := #[98, 111, 116, 104] }), .tmp 16]) hS rfl rfl Fc.fn80 rfl ?_
    refine Calls.mono (two_c b V ts (by omega) [g0, g1, g2, g3, g4, g5, g6, g7, g8, g9, ga, gb, gc, gd, ge, gf] rfl lb_hand lb_both (by decide) (by decide) _ _ [x0, x1, x2, x3, x4, x5, x6, x7, x8, x9, xa, xb, xc, xd, xe, xf] [x0, x1, x2, x3, x4, x5, x6, x7, x8, x9, xa, xb, xc, xd, xe, xf] (by simp) (by simp) _ (hH.rin (TV := 116) (TT := 113) hri.ok rfl hri.n01 (by repeat (first | exact In.here | refine In.there ?_)) (by repeat (first | exact In.here | refine In.there ?_))) (BsF.block (hH.get (b := b4) (by first | exact .here | exact .there .here | exact .there (.there .here) | exact .there (.there (.there .here)) | exact .there (.there (.there (.there .here))) | exact .there (.there (.there (.there (.there .here)))) | exact .there (.there (.there (.there (.there (.there .here))))) | exact .there (.there (.there (.there (.there (.there (.there .here)))))) | exact .there (.there (.there (.there (.there (.there (.there (.there .here))))))) | exact .there (.there (.there (.there (.there (.there (.there (.there (.there .here)))))))) | exact .there (.there (.there (.there (.there (.there (.there (.there (.there (.there .here))))))))) | exact .there (.there (.there (.there (.there (.there (.there (.there (.there (.there (.there .here)))))))))) | exact .there (.there (.there (.there (.there (.there (.there (.there (.there (.there (.there (.there .here))))))))))) | exact .there (.there (.there (.there (.there (.there (.there (.there (.there (.there (.there (.there (.there .here)))))))))))) | exact .there (.there (.there (.there (.there (.there (.there (.there (.there (.there (.there (.there (.there (.there .here))))))))))))) | exact .there (.there (.there (.there (.there (.there (.there (.there (.there (.there (.there (.there (.there (.there (.there .here)))))))))))))))) rfl ((hH.rin (TV := 116) (TT := 113) hri.ok rfl hri.n01 (by repeat (first | exact In.here | refine In.there ?_)) (by repeat (first | exact In.here | refine In.there ?_))).notF (hH.get (b := b4) (by first | exact .here | exact .there .here | exact .there (.there .here) | exact .there (.there (.there .here)) | exact .there (.there (.there (.there .here))) | exact .there (.there (.there (.there (.there .here)))) | exact .there (.there (.there (.there (.there (.there .here))))) | exact .there (.there (.there (.there (.there (.there (.there .here)))))) | exact .there (.there (.there (.there (.there (.there (.there (.there .here))))))) | exact .there (.there (.there (.there (.there (.there (.there (.there (.there .here)))))))) | exact .there (.there (.there (.there (.there (.there (.there (.there (.there (.there .here))))))))) | exact .there (.there (.there (.there (.there (.there (.there (.there (.there (.there (.there .here)))))))))) | exact .there (.there (.there (.there (.there (.there (.there (.there (.there (.there (.there (.there .here))))))))))) | exact .there (.there (.there (.there (.there (.there (.there (.there (.there (.there (.there (.there (.there .here)))))))))))) | exact .there (.there (.there (.there (.there (.there (.there (.there (.there (.there (.there (.there (.there (.there .here))))))))))))) | exact .there (.there (.there (.there (.there (.there (.there (.there (.there (.there (.there (.there (.there (.there (.there .here)))))))))))))))) (by decide) (by decide))) (BsF.block (hH.get (b := b4) (by first | exact .here | exact .there .here | exact .there (.there .here) | exact .there (.there (.there .here)) | exact .there (.there (.there (.there .here))) | exact .there (.there (.there (.there (.there .here)))) | exact .there (.there (.there (.there (.there (.there .here))))) | exact .there (.there (.there (.there (.there (.there (.there .here)))))) | exact .there (.there (.there (.there (.there (.there (.there (.there .here))))))) | exact .there (.there (.there (.there (.there (.there (.there (.there (.there .here)))))))) | exact .there (.there (.there (.there (.there (.there (.there (.there (.there (.there .here))))))))) | exact .there (.there (.there (.there (.there (.there (.there (.there (.there (.there (.there .here)))))))))) | exact .there (.there (.there (.there (.there (.there (.there (.there (.there (.there (.there (.there .here))))))))))) | exact .there (.there (.there (.there (.there (.there (.there (.there (.there (.there (.there (.there (.there .here)))))))))))) | exact .there (.there (.there (.there (.there (.there (.there (.there (.there (.there (.there (.there (.there (.there .here))))))))))))) | exact .there (.there (.there (.there (.there (.there (.there (.there (.there (.there (.there (.there (.there (.there (.there .here)))))))))))))))) rfl ((hH.rin (TV := 116) (TT := 113) hri.ok rfl hri.n01 (by repeat (first | exact In.here | refine In.there ?_)) (by repeat (first | exact In.here | refine In.there ?_))).notF (hH.get (b := b4) (by first | exact .here | exact .there .here | exact .there (.there .here) | exact .there (.there (.there .here)) | exact .there (.there (.there (.there .here))) | exact .there (.there (.there (.there (.there .here)))) | exact .there (.there (.there (.there (.there (.there .here))))) | exact .there (.there (.there (.there (.there (.there (.there .here)))))) | exact .there (.there (.there (.there (.there (.there (.there (.there .here))))))) | exact .there (.there (.there (.there (.there (.there (.there (.there (.there .here)))))))) | exact .there (.there (.there (.there (.there (.there (.there (.there (.there (.there .here))))))))) | exact .there (.there (.there (.there (.there (.there (.there (.there (.there (.there (.there .here)))))))))) | exact .there (.there (.there (.there (.there (.there (.there (.there (.there (.there (.there (.there .here))))))))))) | exact .there (.there (.there (.there (.there (.there (.there (.there (.there (.there (.there (.there (.there .here)))))))))))) | exact .there (.there (.there (.there (.there (.there (.there (.there (.there (.there (.there (.there (.there (.there .here))))))))))))) | exact .there (.there (.there (.there (.there (.there (.there (.there (.there (.there (.there (.there (.there (.there (.there .here)))))))))))))))) (by decide) (by decide)))) ?_
    rintro e w1 ⟨h, xx1, V1, ts1, rfl, hri1, hst, hof1⟩
    obtain ⟨y0, y1, y2, y3, y4, y5, y6, y7, y8, y9, ya, yb, yc, yd, ye, yf, rfl⟩ := len16 (h := h) hof1.len
    have hRS1 := hRS.step hst hH.mod.size
    replace hH := hH.rvault hRS hst hri1 (by first | exact .two | exact .there .two | exact .there (.there .two) | exact .there (.there (.there .two)) | exact .there (.there (.there (.there .two))) | exact .there (.there (.there (.there (.there .two)))) | exact .there (.there (.there (.there (.there (.there .two))))) | exact .there (.there (.there (.there (.there (.there (.there .two)))))) | exact .there (.there (.there (.there (.there (.there (.there (.there .two))))))) | exact .there (.there (.there (.there (.there (.there (.there (.there (.there .two)))))))) | exact .there (.there (.there (.there (.there (.there (.there (.there (.there (.there .two))))))))) | exact .there (.there (.there (.there (.there (.there (.there (.there (.there (.there (.there .two)))))))))) | exact .there (.there (.there (.there (.there (.there (.there (.there (.there (.there (.there (.there .two))))))))))) | exact .there (.there (.there (.there (.there (.there (.there (.there (.there (.there (.there (.there (.there .two)))))))))))) | exact .there (.there (.there (.there (.there (.there (.there (.there (.there (.there (.there (.there (.there (.there .two))))))))))))) | exact .there (.there (.there (.there (.there (.there (.there (.there (.there (.there (.there (.there (.there (.there (.there .two)))))))))))))))
    clear hst
    refine ⟨_, rfl, hH.kp (by repeat (first | exact Sub.nil | refine Sub.cons ?_ ?_ | exact In.here | refine In.there ?_)), ?_⟩
    clear hS; intro a hS
    refine r_extract hS trivial rfl rfl rfl ?_; clear hS; intro a hS
    refine r_extract hS trivial rfl rfl rfl ?_; clear hS; intro a hS
    refine r_store_row hS hH rfl rfl (by first | exact .here | exact .there .here | exact .there (.there .here) | exact .there (.there (.there .here)) | exact .there (.there (.there (.there .here))) | exact .there (.there (.there (.there (.there .here)))) | exact .there (.there (.there (.there (.there (.there .here))))) | exact .there (.there (.there (.there (.there (.there (.there .here)))))) | exact .there (.there (.there (.there (.there (.there (.there (.there .here))))))) | exact .there (.there (.there (.there (.there (.there (.there (.there (.there .here)))))))) | exact .there (.there (.there (.there (.there (.there (.there (.there (.there (.there .here))))))))) | exact .there (.there (.there (.there (.there (.there (.there (.there (.there (.there (.there .here)))))))))) | exact .there (.there (.there (.there (.there (.there (.there (.there (.there (.there (.there (.there .here))))))))))) | exact .there (.there (.there (.there (.there (.there (.there (.there (.there (.there (.there (.there (.there .here)))))))))))) | exact .there (.there (.there (.there (.there (.there (.there (.there (.there (.there (.there (.there (.there (.there .here))))))))))))) | exact .there (.there (.there (.there (.there (.there (.there (.there (.there (.there (.there (.there (.there (.there (.there .here))))))))))))))) (by repeat (first | exact Sub.nil | refine Sub.cons ?_ ?_ | exact In.here | refine In.there ?_)) Fc.sz25 (by first | exact hcells_one _ | exact of_decide_eq_true rfl) (by rfl) (by first | exact .inr (by assumption) | exact .inl (by first | assumption | rfl)) ?_
    clear hH; intro w hH
    refine r_assign hS trivial rfl rfl ?_; clear hS; intro a hS
    refine Sq.nil ?_
    refine then_n ?_
    refine wp_ret ?_
    exact leave (.inl rfl) hS rfl (Res.cell rfl (hH.get (by repeat (first | exact In.here | refine In.there ?_))) Fc.ag25 (by rfl) rfl (Res.tmp rfl Res.nil)) ⟨_, _, V1, ts1, rfl, (hH.rin (TV := 116) (TT := 113) hri1.ok rfl hri1.n01 (by repeat (first | exact In.here | refine In.there ?_)) (by repeat (first | exact In.here | refine In.there ?_))), ⟨hRS1, hH.mod⟩, .inr ⟨⟨i, hi, hn⟩, hof1⟩⟩

theorem Early_a (b : Nat) (V : VB) (ts : List Tm) (hm : ts.length ≤ 999999900) (h : List UInt8) (hh : h.length = 16) (w0 : World) (hvi : VI w0 b V ts) : Calls Try.prog 31 #[.pointer (some ⟨b, 0, none⟩), hnd h] w0 fun e w' => ∃ h' x V' ts', e = .returned (.tuple #[hnd h', .int .i64 x]) ∧ VI w' b V' ts' ∧ VStep w0 w' b V V' ∧ OfT ts (eH h) (drv lb_early (strOf [])) h' x ts' := by
  unfold eH
  by_cases e : h = zH
  · rw [if_pos e, e]; exact Early_z b V ts (by omega) w0 hvi
  · rw [if_neg e]; exact Early_h b V ts (by omega) h hh e w0 hvi

theorem rEarly_a (b : Nat) (V : RB) (ts : List Tm) (hm : ts.length ≤ 999999900) (h : List UInt8) (hh : h.length = 16) (w0 : World) (hvi : RI w0 b V ts) : Calls Try.prog 62 #[.pointer (some ⟨b, 0, none⟩), hnd h] w0 fun e w' => ∃ h' x V' ts', e = .returned (.tuple #[hnd h', .int .i64 x]) ∧ RI w' b V' ts' ∧ RStep w0 w' b V V' ∧ OfT ts (eH h) (drv lb_early (strOf [])) h' x ts' := by
  unfold eH
  by_cases e : h = zH
  · rw [if_pos e, e]; exact rEarly_z b V ts (by omega) w0 hvi
  · rw [if_neg e]; exact rEarly_h b V ts (by omega) h hh e w0 hvi

end Go.Proofs.Ytcjmehononbadaa
