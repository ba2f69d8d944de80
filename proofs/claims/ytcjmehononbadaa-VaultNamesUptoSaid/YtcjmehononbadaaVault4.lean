/- For every input of bulk at most 1048576 the law VaultNames returns true and the input reads as it did. Part Vault4: walks and lemmas of the proof. -/
import Derived.Test.YtcjmehononbadaaVault3
import Derived.Test.YtcjmehononbadaaSymBytes
namespace Go.Proofs.Ytcjmehononbadaa
open Go.Sym

theorem Fc.el22 : elB Try.prog 22 = some (5, 1, 1) := by kernel_rfl
theorem Fc.fn52 : isFn Try.prog 52 = true := by kernel_rfl
theorem Fc.fn54 : isFn Try.prog 54 = true := by kernel_rfl
theorem Fc.fn69 : isFn Try.prog 69 = true := by kernel_rfl
theorem Fc.fn73 : isFn Try.prog 73 = true := by kernel_rfl
theorem Fc.fo129_0 : foff Try.prog 129 0 = some 0 := by kernel_rfl
theorem Fc.fo129_1 : foff Try.prog 129 1 = some 16 := by kernel_rfl
theorem Fc.fo93_1 : foff Try.prog 93 1 = some 1 := by kernel_rfl
theorem Fc.i64_3 : isI64 Try.prog 3 = true := by kernel_rfl
theorem Fc.isSlice22 : isSlice Try.prog 22 = true := by kernel_rfl
theorem Fc.isSlice60 : isSlice Try.prog 60 = true := by kernel_rfl
theorem Fc.isStr9 : isStr Try.prog 9 = true := by kernel_rfl
theorem Fc.ni22 : notInt Try.prog 22 = true := by kernel_rfl
theorem Fc.pl129 : placesB Try.prog 129 = some [(0, 16), (16, 1)] := by kernel_rfl
theorem Fc.sc22 : scB Try.prog 22 = true := by kernel_rfl
theorem Fc.sc23 : scB Try.prog 23 = true := by kernel_rfl
theorem Fc.sc27 : scB Try.prog 27 = true := by kernel_rfl
theorem Fc.sc94 : scB Try.prog 94 = true := by kernel_rfl
theorem Fc.slb22 : slB Try.prog 22 = some 1 := by kernel_rfl
theorem Fc.slb60 : slB Try.prog 60 = some 1 := by kernel_rfl
theorem Fc.sz27 : sizeB Try.prog 27 1 = true := by kernel_rfl
theorem Fc.sz3 : sizeB Try.prog 3 1 = true := by kernel_rfl
theorem Fc.sz94 : sizeB Try.prog 94 1 = true := by kernel_rfl
theorem Fc.u8s22 : u8s Try.prog 22 = true := by kernel_rfl
theorem Fc.zc129 : zcB Try.prog 129 = some [.int .u8 0, .int .u8 0, .int .u8 0, .int .u8 0, .int .u8 0, .int .u8 0, .int .u8 0, .int .u8 0, .int .u8 0, .int .u8 0, .int .u8 0, .int .u8 0, .int .u8 0, .int .u8 0, .int .u8 0, .int .u8 0, .int .i64 0] := by kernel_rfl
theorem Fc.zc94 : zcB Try.prog 94 = some [.pointer none] := by kernel_rfl
set_option maxRecDepth 100000 in
set_option maxHeartbeats 400000 in
theorem Known_v (b : Nat) (V : VB) (ts : List Tm) (h : List UInt8) (hh : h.length = 16) (w0 : World) (hvi : VI w0 b V ts) : Calls Try.prog 57 #[.pointer (some ⟨b, 0, none⟩), hnd h] w0 fun e w' => ∃ kb, e = .returned (.bool kb) ∧ (kb = true ↔ ∃ i, i < ts.length ∧ h = nm i) ∧ Ext w0 w' := by
  refine enter Try.func57 rfl rfl rfl ?_
  intro a hS
  have hH := Hp.start w0 (Nobody)
  obtain ⟨x0, x1, x2, x3, x4, x5, x6, x7, x8, x9, xa, xb, xc, xd, xe, xf, rfl⟩ := len16 hh
  replace hH := hH.knowV hvi (by intro p hp; simp at hp)
  obtain ⟨g2, hm2, hf2⟩ := hvi.ok.names
  obtain ⟨n0, th, e1, e2, hcase⟩ := hf2.look2 [x0, x1, x2, x3, x4, x5, x6, x7, x8, x9, xa, xb, xc, xd, xe, xf]
  refine c_seq ?_
  refine reg_plain w0 (Nobody) ?_
  refine r_box hS hH (by repeat (first | exact Sub.nil | refine Sub.cons ?_ ?_ | exact In.here | refine In.there ?_)) rfl rfl rfl ?_
  clear hS hH; intro a w b3 hb3 hwb3 hS hH
  refine r_assign hS hH.kp0 rfl rfl ?_; clear hS; intro a hS
  refine Sq.nil ?_
  refine then_n ?_
  refine c_seq ?_
  refine c_seq ?_
  refine reg_plain w0 (Nobody) ?_
  refine r_move hS hH.kp0 rfl rfl ?_; clear hS; intro a hS
  refine r_call (l := [.tmp 7]) hS rfl rfl Fc.fn49 rfl ?_
  refine Calls.mono (none_v b V ts _ (hH.vin hvi.ok hvi.n01 hvi.n23 (by repeat (first | exact In.here | refine In.there ?_)) (by repeat (first | exact In.here | refine In.there ?_)) (by repeat (first | exact In.here | refine In.there ?_)) (by repeat (first | exact In.here | refine In.there ?_)))) ?_
  rintro e w1 ⟨rfl, hE⟩
  replace hH := hH.ext hE
  refine ⟨_, rfl, hH.kp0, ?_⟩
  clear hS; intro a hS
  refine Sq.nil ?_
  refine then_n ?_
  refine c_condF hS rfl rfl ?_
  refine wp_skip ?_
  refine then_n ?_
  refine c_seq ?_
  refine reg_draw [(true, 0, []), (true, 1, []), (true, 2, []), (true, 3, []), (true, 4, []), (true, 5, []), (true, 6, []), (true, 7, []), (true, 8, []), (true, 9, []), (true, 10, [])] Fc.mixed (by kernel_rfl) (by kernel_rfl) (by kernel_rfl) (by kernel_rfl) (by kernel_rfl) (by repeat (first | exact steady_body | apply steady_then | apply steady_block)) hH ?_
  replace hH := hH.drew
  refine r_move hS trivial rfl rfl ?_; clear hS; intro a hS
  refine r_nilCheck hS trivial rfl rfl ?_; clear hS; intro a hS
  refine r_fieldAddr hS trivial rfl Fc.fo71_2 rfl ?_; clear hS; intro a hS
  refine r_load_scS hS rfl (by repeat (first | exact In.here | refine In.there ?_)) Fc.sc69 (by rfl) rfl ?_; clear hS; intro a hS
  refine r_load_rowS hS rfl (by repeat (first | exact In.here | refine In.there ?_)) Fc.ag26 (by rfl) rfl ?_; clear hS; intro a hS
  refine r_lookupS2 Fc.mtN hS rfl rfl (by repeat (first | exact In.here | refine In.there ?_)) hm2 (Fc.arrH.keyOf (h := [x0, x1, x2, x3, x4, x5, x6, x7, x8, x9, xa, xb, xc, xd, xe, xf]) rfl) e1 e2 rfl ?_; clear hS; intro a hS
  refine r_move hS trivial rfl rfl ?_; clear hS; intro a hS
  refine r_extract hS trivial rfl rfl rfl ?_; clear hS; intro a hS
  refine r_extract hS trivial rfl rfl rfl ?_; clear hS; intro a hS
  refine r_assign hS trivial rfl rfl ?_; clear hS; intro a hS
  refine r_assign hS trivial rfl rfl ?_; clear hS; intro a hS
  refine Sq.nil ?_
  refine then_n ?_
  refine c_seq ?_
  refine reg_plain w0 (Nobody) ?_
  refine r_move hS hH.kp0 rfl rfl ?_; clear hS; intro a hS
  refine r_assign hS hH.kp0 rfl rfl ?_; clear hS; intro a hS
  refine Sq.nil ?_
  refine then_n ?_
  refine wp_ret ?_
  refine leave (.inl rfl) hS rfl (Res.tmp rfl Res.nil) ⟨_, rfl, ?_, hH.mod⟩
  rcases hcase with ⟨h1, i, hi, _, hn⟩ | ⟨h1, _, hno⟩
  · exact ⟨fun _ => ⟨i, hi, hn⟩, fun _ => h1⟩
  · rw [h1]; exact ⟨(fun h => by cases h), fun ⟨i, hi, hn⟩ => absurd hn (hno i hi)⟩

set_option maxRecDepth 100000 in
set_option maxHeartbeats 1000000 in
theorem of_v (b : Nat) (V : VB) (ts : List Tm) (h : List UInt8) (hh : h.length = 16) (t : Tm) (ht : t.ok) (hm : ts.length ≤ 1000000000) (w0 : World) (hvi : VI w0 b V ts) : Calls Try.prog 69 #[.pointer (some ⟨b, 0, none⟩), hnd h, tv t] w0 fun e w' => ∃ h' x V' ts', e = .returned (.tuple #[hnd h', .int .i64 x]) ∧ VI w' b V' ts' ∧ VStep w0 w' b V V' ∧ OfT ts h t h' x ts' := by
  refine enter Try.func69 rfl rfl rfl ?_
  intro a hS
  have hH := Hp.start w0 (V.F b)
  obtain ⟨x0, x1, x2, x3, x4, x5, x6, x7, x8, x9, xa, xb, xc, xd, xe, xf, rfl⟩ := len16 hh
  replace hH := hH.knowV hvi (by intro p hp; simp at hp)
  have hVS := VS.start w0 b V
  obtain ⟨g2, hm2, hf2⟩ := hvi.ok.names
  obtain ⟨n0, th, e1, e2, hcase⟩ := hf2.look2 [x0, x1, x2, x3, x4, x5, x6, x7, x8, x9, xa, xb, xc, xd, xe, xf]
  refine c_seq ?_
  refine reg_plain w0 (V.F b) ?_
  refine r_box hS hH (by repeat (first | exact Sub.nil | refine Sub.cons ?_ ?_ | exact In.here | refine In.there ?_)) rfl rfl rfl ?_
  clear hS hH; intro a w b4 hb4 hwb4 hS hH
  refine r_box hS hH (by repeat (first | exact Sub.nil | refine Sub.cons ?_ ?_ | exact In.here | refine In.there ?_)) rfl rfl rfl ?_
  clear hS hH; intro a w b5 hb5 hwb5 hS hH
  refine r_alloc hS hH (by repeat (first | exact Sub.nil | refine Sub.cons ?_ ?_ | exact In.here | refine In.there ?_)) Fc.zc26 rfl ?_
  clear hS hH; intro a w b6 hb6 hwb6 hS hH
  refine r_assign hS hH.kp0 rfl rfl ?_; clear hS; intro a hS
  refine Sq.nil ?_
  refine then_n ?_
  refine c_seq ?_
  refine c_seq ?_
  refine reg_plain w0 (V.F b) ?_
  refine r_move hS hH.kp0 rfl rfl ?_; clear hS; intro a hS
  refine r_call (l := [.tmp 10]) hS rfl rfl Fc.fn49 rfl ?_
  refine Calls.mono (none_v b V ts _ (hH.vin hvi.ok hvi.n01 hvi.n23 (by repeat (first | exact In.here | refine In.there ?_)) (by repeat (first | exact In.here | refine In.there ?_)) (by repeat (first | exact In.here | refine In.there ?_)) (by repeat (first | exact In.here | refine In.there ?_)))) ?_
  rintro e w1 ⟨rfl, hE⟩
  replace hH := hH.ext hE
  refine ⟨_, rfl, hH.kp0, ?_⟩
  clear hS; intro a hS
  refine Sq.nil ?_
  refine then_n ?_
  refine c_condF hS rfl rfl ?_
  refine wp_skip ?_
  refine then_n ?_
  refine c_seq ?_
  refine reg_draw [(true, 0, []), (true, 1, []), (true, 2, []), (true, 3, []), (true, 4, []), (true, 5, []), (true, 6, []), (true, 7, []), (true, 8, []), (true, 9, []), (true, 10, [])] Fc.mixed (by kernel_rfl) (by kernel_rfl) (by kernel_rfl) (by kernel_rfl) (by kernel_rfl) (by repeat (first | exact steady_body | apply steady_then | apply steady_block)) hH ?_
  replace hH := hH.drew
  refine r_move hS trivial rfl rfl ?_; clear hS; intro a hS
  refine r_nilCheck hS trivial rfl rfl ?_; clear hS; intro a hS
  refine r_fieldAddr hS trivial rfl Fc.fo71_2 rfl ?_; clear hS; intro a hS
  refine r_load_scS hS rfl (by repeat (first | exact In.here | refine In.there ?_)) Fc.sc69 (by rfl) rfl ?_; clear hS; intro a hS
  refine r_load_rowS hS rfl (by repeat (first | exact In.here | refine In.there ?_)) Fc.ag26 (by rfl) rfl ?_; clear hS; intro a hS
  refine r_lookupS2 Fc.mtN hS rfl rfl (by repeat (first | exact In.here | refine In.there ?_)) hm2 (Fc.arrH.keyOf (h := [x0, x1, x2, x3, x4, x5, x6, x7, x8, x9, xa, xb, xc, xd, xe, xf]) rfl) e1 e2 rfl ?_; clear hS; intro a hS
  refine r_move hS trivial rfl rfl ?_; clear hS; intro a hS
  refine r_extract hS trivial rfl rfl rfl ?_; clear hS; intro a hS
  refine r_extract hS trivial rfl rfl rfl ?_; clear hS; intro a hS
  refine r_assign hS trivial rfl rfl ?_; clear hS; intro a hS
  refine r_assign hS trivial rfl rfl ?_; clear hS; intro a hS
  refine Sq.nil ?_
  refine then_n ?_
  refine c_seq ?_
  refine c_seq ?_
  refine reg_plain w0 (V.F b) ?_
  refine r_move hS hH.kp0 rfl rfl ?_; clear hS; intro a hS
  refine r_not hS hH.kp0 rfl rfl ?_; clear hS; intro a hS
  refine Sq.nil ?_
  refine then_n ?_
  refine c_cond hS rfl (fun hc1 => ?_) (fun hc1 => ?_)
  · rcases hcase with ⟨h1, _⟩ | ⟨_, hn0, hno⟩
    · rw [h1] at hc1; cases hc1
    refine c_seq ?_
    refine reg_plain w0 (V.F b) ?_
    refine r_buildA (parts := []) hS hH.kp0 rfl rfl Fc.zc26 Fc.ar26 (by rfl) ?_; clear hS; intro a hS
    refine r_store_row hS hH rfl rfl (by first | exact .here | exact .there .here | exact .there (.there .here) | exact .there (.there (.there .here)) | exact .there (.there (.there (.there .here))) | exact .there (.there (.there (.there (.there .here)))) | exact .there (.there (.there (.there (.there (.there .here))))) | exact .there (.there (.there (.there (.there (.there (.there .here)))))) | exact .there (.there (.there (.there (.there (.there (.there (.there .here))))))) | exact .there (.there (.there (.there (.there (.there (.there (.there (.there .here)))))))) | exact .there (.there (.there (.there (.there (.there (.there (.there (.there (.there .here))))))))) | exact .there (.there (.there (.there (.there (.there (.there (.there (.there (.there (.there .here)))))))))) | exact .there (.there (.there (.there (.there (.there (.there (.there (.there (.there (.there (.there .here))))))))))) | exact .there (.there (.there (.there (.there (.there (.there (.there (.there (.there (.there (.there (.there .here)))))))))))) | exact .there (.there (.there (.there (.there (.there (.there (.there (.there (.there (.there (.there (.there (.there .here))))))))))))) | exact .there (.there (.there (.there (.there (.there (.there (.there (.there (.there (.there (.there (.there (.there (.there .here))))))))))))))) (by repeat (first | exact Sub.nil | refine Sub.cons ?_ ?_ | exact In.here | refine In.there ?_)) Fc.sz26 (by first | exact hcells_one _ | exact of_decide_eq_true rfl) (by rfl) (by first | exact .inr (by assumption) | exact .inl (by first | assumption | rfl)) ?_
    clear hH; intro w hH
    refine r_assign hS hH.kp0 rfl rfl ?_; clear hS; intro a hS
    refine Sq.nil ?_
    refine then_n ?_
    refine wp_ret ?_
    refine then_r ?_
    exact leave (.inl rfl) hS rfl (Res.cell rfl (hH.get (by repeat (first | exact In.here | refine In.there ?_))) Fc.ag26 (by rfl) rfl (Res.tmp rfl Res.nil)) ⟨zH, _, V, ts, rfl, (hH.vin hvi.ok hvi.n01 hvi.n23 (by repeat (first | exact In.here | refine In.there ?_)) (by repeat (first | exact In.here | refine In.there ?_)) (by repeat (first | exact In.here | refine In.there ?_)) (by repeat (first | exact In.here | refine In.there ?_))), ⟨hVS, hH.mod⟩, .inr ⟨hno, rfl, rfl, rfl⟩⟩
  · rcases hcase.symm with ⟨h1, _⟩ | ⟨_, i, hi, hn0, hn⟩
    · rw [h1] at hc1; cases hc1
    subst hn0
    refine wp_skip ?_
    refine then_n ?_
    refine c_seq ?_
    refine reg_plain w0 (V.F b) ?_
    refine r_move hS hH.kp0 rfl rfl ?_; clear hS; intro a hS
    refine r_fieldAddr hS hH.kp0 rfl Fc.fo93_1 rfl ?_; clear hS; intro a hS
    refine r_store1 hS hH rfl rfl rfl (by first | exact .here | exact .there .here | exact .there (.there .here) | exact .there (.there (.there .here)) | exact .there (.there (.there (.there .here))) | exact .there (.there (.there (.there (.there .here)))) | exact .there (.there (.there (.there (.there (.there .here))))) | exact .there (.there (.there (.there (.there (.there (.there .here)))))) | exact .there (.there (.there (.there (.there (.there (.there (.there .here))))))) | exact .there (.there (.there (.there (.there (.there (.there (.there (.there .here)))))))) | exact .there (.there (.there (.there (.there (.there (.there (.there (.there (.there .here))))))))) | exact .there (.there (.there (.there (.there (.there (.there (.there (.there (.there (.there .here)))))))))) | exact .there (.there (.there (.there (.there (.there (.there (.there (.there (.there (.there (.there .here))))))))))) | exact .there (.there (.there (.there (.there (.there (.there (.there (.there (.there (.there (.there (.there .here)))))))))))) | exact .there (.there (.there (.there (.there (.there (.there (.there (.there (.there (.there (.there (.there (.there .here))))))))))))) | exact .there (.there (.there (.there (.there (.there (.there (.there (.there (.there (.there (.there (.there (.there (.there .here))))))))))))))) (by repeat (first | exact Sub.nil | refine Sub.cons ?_ ?_ | exact In.here | refine In.there ?_)) Fc.sz3 (of_decide_eq_true rfl) (by first | exact .inr (by assumption) | exact .inl (by first | assumption | rfl)) ?_
    clear hH; intro w hH
    refine Sq.nil ?_
    refine then_n ?_
    refine c_seq ?_
    refine reg_plain w0 (V.F b) ?_
    refine r_move hS hH.kp0 rfl rfl ?_; clear hS; intro a hS
    refine r_load_row hS hH (by repeat (first | exact Sub.nil | refine Sub.cons ?_ ?_ | exact In.here | refine In.there ?_)) rfl (by repeat (first | exact In.here | refine In.there ?_)) Fc.ag93 (by rfl) rfl ?_; clear hS; intro a hS
    refine r_call (l := [.tmp 27, .tmp 28]) hS rfl rfl Fc.fn46 rfl ?_
    refine Calls.mono (make_c b V ts { t with a := (i : Int) } (ok_a ht (by omega)) hm _ (hH.vin hvi.ok hvi.n01 hvi.n23 (by repeat (first | exact In.here | refine In.there ?_)) (by repeat (first | exact In.here | refine In.there ?_)) (by repeat (first | exact In.here | refine In.there ?_)) (by repeat (first | exact In.here | refine In.there ?_)))) ?_
    rintro e w1 ⟨h, j, V1, ts1, rfl, hqy, hvi1, hst, hmd⟩
    obtain ⟨y0, y1, y2, y3, y4, y5, y6, y7, y8, y9, ya, yb, yc, yd, ye, yf, rfl⟩ := len16 (h := h) (by rw [hqy]; rfl)
    have hVS1 := hVS.step hst hH.mod.size
    replace hH := hH.vault hVS hst hvi1 (by first | exact .here | exact .there .here | exact .there (.there .here) | exact .there (.there (.there .here)) | exact .there (.there (.there (.there .here))) | exact .there (.there (.there (.there (.there .here)))) | exact .there (.there (.there (.there (.there (.there .here))))) | exact .there (.there (.there (.there (.there (.there (.there .here)))))) | exact .there (.there (.there (.there (.there (.there (.there (.there .here))))))) | exact .there (.there (.there (.there (.there (.there (.there (.there (.there .here)))))))) | exact .there (.there (.there (.there (.there (.there (.there (.there (.there (.there .here))))))))) | exact .there (.there (.there (.there (.there (.there (.there (.there (.there (.there (.there .here)))))))))) | exact .there (.there (.there (.there (.there (.there (.there (.there (.there (.there (.there (.there .here))))))))))) | exact .there (.there (.there (.there (.there (.there (.there (.there (.there (.there (.there (.there (.there .here)))))))))))) | exact .there (.there (.there (.there (.there (.there (.there (.there (.there (.there (.there (.there (.there (.there .here))))))))))))) | exact .there (.there (.there (.there (.there (.there (.there (.there (.there (.there (.there (.there (.there (.there (.there .here)))))))))))))))
    refine ⟨_, rfl, hH.kp0, ?_⟩
    clear hS; intro a hS
    refine r_store_row hS hH rfl rfl (by first | exact .here | exact .there .here | exact .there (.there .here) | exact .there (.there (.there .here)) | exact .there (.there (.there (.there .here))) | exact .there (.there (.there (.there (.there .here)))) | exact .there (.there (.there (.there (.there (.there .here))))) | exact .there (.there (.there (.there (.there (.there (.there .here)))))) | exact .there (.there (.there (.there (.there (.there (.there (.there .here))))))) | exact .there (.there (.there (.there (.there (.there (.there (.there (.there .here)))))))) | exact .there (.there (.there (.there (.there (.there (.there (.there (.there (.there .here))))))))) | exact .there (.there (.there (.there (.there (.there (.there (.there (.there (.there (.there .here)))))))))) | exact .there (.there (.there (.there (.there (.there (.there (.there (.there (.there (.there (.there .here))))))))))) | exact .there (.there (.there (.there (.there (.there (.there (.there (.there (.there (.there (.there (.there .here)))))))))))) | exact .there (.there (.there (.there (.there (.there (.there (.there (.there (.there (.there (.there (.there (.there .here))))))))))))) | exact .there (.there (.there (.there (.there (.there (.there (.there (.there (.there (.there (.there (.there (.there (.there .here))))))))))))))) (by repeat (first | exact Sub.nil | refine Sub.cons ?_ ?_ | exact In.here | refine In.there ?_)) Fc.sz26 (by first | exact hcells_one _ | exact of_decide_eq_true rfl) (by rfl) (by first | exact .inr (by assumption) | exact .inl (by first | assumption | rfl)) ?_
    clear hH; intro w hH
    refine r_assign hS hH.kp0 rfl rfl ?_; clear hS; intro a hS
    refine Sq.nil ?_
    refine then_n ?_
    refine wp_ret ?_
    exact leave (.inl rfl) hS rfl (Res.cell rfl (hH.get (by repeat (first | exact In.here | refine In.there ?_))) Fc.ag26 (by rfl) rfl (Res.tmp rfl Res.nil)) ⟨_, _, V1, ts1, rfl, (hH.vin hvi1.ok hvi1.n01 hvi1.n23 (by repeat (first | exact In.here | refine In.there ?_)) (by repeat (first | exact In.here | refine In.there ?_)) (by repeat (first | exact In.here | refine In.there ?_)) (by repeat (first | exact In.here | refine In.there ?_))), ⟨hVS1, hH.mod⟩, .inl ⟨i, j, hi, hn, rfl, hqy, hmd⟩⟩

set_option maxRecDepth 100000 in
set_option maxHeartbeats 400000 in
theorem Derive_v (b : Nat) (V : VB) (ts : List Tm) (h : List UInt8) (hh : h.length = 16) (s : ByteArray) (v : Value) (l : List UInt8) (hs : s.size ≤ 9223372036854775807) (hl : l.length ≤ 9223372036854775807) (hm : ts.length ≤ 1000000000) (w0 : World) (hvi : VI w0 b V ts) (hb : BsF (V.F b) w0 v l) : Calls Try.prog 52 #[.pointer (some ⟨b, 0, none⟩), hnd h, .string s, v] w0 fun e w' => ∃ h' x V' ts', e = .returned (.tuple #[hnd h', .int .i64 x]) ∧ VI w' b V' ts' ∧ VStep w0 w' b V V' ∧ OfT ts h (drv s (strOf l)) h' x ts' := by
  refine enter Try.func52 rfl rfl rfl ?_
  intro a hS
  have hH := Hp.start w0 (V.F b)
  obtain ⟨x0, x1, x2, x3, x4, x5, x6, x7, x8, x9, xa, xb, xc, xd, xe, xf, rfl⟩ := len16 hh
  replace hH := hH.knowV hvi (by intro p hp; simp at hp)
  have hVS := VS.start w0 b V
  refine c_seq ?_
  refine reg_plain w0 (V.F b) ?_
  refine r_box hS hH (by repeat (first | exact Sub.nil | refine Sub.cons ?_ ?_ | exact In.here | refine In.there ?_)) rfl rfl rfl ?_
  clear hS hH; intro a w b5 hb5 hwb5 hS hH
  refine r_alloc hS hH (by repeat (first | exact Sub.nil | refine Sub.cons ?_ ?_ | exact In.here | refine In.there ?_)) Fc.zc26 rfl ?_
  clear hS hH; intro a w b8 hb8 hwb8 hS hH
  refine r_assign hS hH.kp0 rfl rfl ?_; clear hS; intro a hS
  refine Sq.nil ?_
  refine then_n ?_
  refine c_seq ?_
  refine reg_plain w0 (V.F b) ?_
  refine r_move hS hH.kp0 rfl rfl ?_; clear hS; intro a hS
  refine r_load_row hS hH (by repeat (first | exact Sub.nil | refine Sub.cons ?_ ?_ | exact In.here | refine In.there ?_)) rfl (by repeat (first | exact In.here | refine In.there ?_)) Fc.ag26 (by rfl) rfl ?_; clear hS; intro a hS
  refine r_move hS hH.kp0 rfl rfl ?_; clear hS; intro a hS
  refine r_move hS hH.kp0 rfl rfl ?_; clear hS; intro a hS
  refine r_bytesStr hS hH.kp0 rfl (hb _ hH.mod) Fc.u8s22 Fc.isStr9 rfl ?_; clear hS; intro a hS
  refine r_buildS (parts := [(0, .const (.int .i64 2)), (4, .tmp 12), (6, .tmp 14)]) hS hH.kp0 rfl rfl Fc.zc93 Fc.pl93 (by rfl) ?_; clear hS; intro a hS
  refine r_call (l := [.tmp 10, .tmp 11, .tmp 15]) hS rfl rfl Fc.fn69 rfl ?_
  refine Calls.mono (of_v b V ts [x0, x1, x2, x3, x4, x5, x6, x7, x8, x9, xa, xb, xc, xd, xe, xf] rfl (drv s (strOf l)) (drv_ok hs hl) hm _ (hH.vin hvi.ok hvi.n01 hvi.n23 (by repeat (first | exact In.here | refine In.there ?_)) (by repeat (first | exact In.here | refine In.there ?_)) (by repeat (first | exact In.here | refine In.there ?_)) (by repeat (first | exact In.here | refine In.there ?_)))) ?_
  rintro e w1 ⟨h, x, V1, ts1, rfl, hvi1, hst, hof⟩
  have hly := hof.len
  obtain ⟨y0, y1, y2, y3, y4, y5, y6, y7, y8, y9, ya, yb, yc, yd, ye, yf, rfl⟩ := len16 hly
  have hVS1 := hVS.step hst hH.mod.size
  replace hH := hH.vault hVS hst hvi1 (by first | exact .here | exact .there .here | exact .there (.there .here) | exact .there (.there (.there .here)) | exact .there (.there (.there (.there .here))) | exact .there (.there (.there (.there (.there .here)))) | exact .there (.there (.there (.there (.there (.there .here))))) | exact .there (.there (.there (.there (.there (.there (.there .here)))))) | exact .there (.there (.there (.there (.there (.there (.there (.there .here))))))) | exact .there (.there (.there (.there (.there (.there (.there (.there (.there .here)))))))) | exact .there (.there (.there (.there (.there (.there (.there (.there (.there (.there .here))))))))) | exact .there (.there (.there (.there (.there (.there (.there (.there (.there (.there (.there .here)))))))))) | exact .there (.there (.there (.there (.there (.there (.there (.there (.there (.there (.there (.there .here))))))))))) | exact .there (.there (.there (.there (.there (.there (.there (.there (.there (.there (.there (.there (.there .here)))))))))))) | exact .there (.there (.there (.there (.there (.there (.there (.there (.there (.there (.there (.there (.there (.there .here))))))))))))) | exact .there (.there (.there (.there (.there (.there (.there (.there (.there (.there (.there (.there (.there (.there (.there .here)))))))))))))))
  refine ⟨_, rfl, hH.kp0, ?_⟩
  clear hS; intro a hS
  refine r_extract hS hH.kp0 rfl rfl rfl ?_; clear hS; intro a hS
  refine r_extract hS hH.kp0 rfl rfl rfl ?_; clear hS; intro a hS
  refine r_store_row hS hH rfl rfl (by first | exact .here | exact .there .here | exact .there (.there .here) | exact .there (.there (.there .here)) | exact .there (.there (.there (.there .here))) | exact .there (.there (.there (.there (.there .here)))) | exact .there (.there (.there (.there (.there (.there .here))))) | exact .there (.there (.there (.there (.there (.there (.there .here)))))) | exact .there (.there (.there (.there (.there (.there (.there (.there .here))))))) | exact .there (.there (.there (.there (.there (.there (.there (.there (.there .here)))))))) | exact .there (.there (.there (.there (.there (.there (.there (.there (.there (.there .here))))))))) | exact .there (.there (.there (.there (.there (.there (.there (.there (.there (.there (.there .here)))))))))) | exact .there (.there (.there (.there (.there (.there (.there (.there (.there (.there (.there (.there .here))))))))))) | exact .there (.there (.there (.there (.there (.there (.there (.there (.there (.there (.there (.there (.there .here)))))))))))) | exact .there (.there (.there (.there (.there (.there (.there (.there (.there (.there (.there (.there (.there (.there .here))))))))))))) | exact .there (.there (.there (.there (.there (.there (.there (.there (.there (.there (.there (.there (.there (.there (.there .here))))))))))))))) (by repeat (first | exact Sub.nil | refine Sub.cons ?_ ?_ | exact In.here | refine In.there ?_)) Fc.sz26 (by first | exact hcells_one _ | exact of_decide_eq_true rfl) (by rfl) (by first | exact .inr (by assumption) | exact .inl (by first | assumption | rfl)) ?_
  clear hH; intro w hH
  refine r_assign hS hH.kp0 rfl rfl ?_; clear hS; intro a hS
  refine Sq.nil ?_
  refine then_n ?_
  refine wp_ret ?_
  exact leave (.inl rfl) hS rfl (Res.cell rfl (hH.get (by repeat (first | exact In.here | refine In.there ?_))) Fc.ag26 (by rfl) rfl (Res.tmp rfl Res.nil)) ⟨_, _, V1, ts1, rfl, (hH.vin hvi1.ok hvi1.n01 hvi1.n23 (by repeat (first | exact In.here | refine In.there ?_)) (by repeat (first | exact In.here | refine In.there ?_)) (by repeat (first | exact In.here | refine In.there ?_)) (by repeat (first | exact In.here | refine In.there ?_))), ⟨hVS1, hH.mod⟩, hof⟩

set_option maxRecDepth 100000 in
set_option maxHeartbeats 400000 in
theorem Grow_nil (i : Int) (m : Nat) (hi : i = m) (hm : m ≤ 1099511627776) (w0 : World) : Calls Try.prog 73 #[.slice none 0 0, .int .i64 i] w0 fun e w' => ∃ v, e = .returned v ∧ Own w0.heap.size 1 5 w' v 0 [] ∧ Ext w0 w' := by
  refine enter Try.func73 rfl rfl rfl ?_
  intro a hS
  have hH := Hp.start w0 (Nobody)
  refine c_seq ?_
  refine reg_plain w0 (Nobody) ?_
  refine r_assign hS hH.kp0 rfl rfl ?_; clear hS; intro a hS
  refine Sq.nil ?_
  refine then_n ?_
  refine c_seq ?_
  refine c_seq ?_
  refine reg_plain w0 (Nobody) ?_
  refine r_move hS hH.kp0 rfl rfl ?_; clear hS; intro a hS
  refine r_lss hS hH.kp0 rfl rfl rfl ?_; clear hS; intro a hS
  refine Sq.nil ?_
  refine then_n ?_
  refine c_condF hS rfl (DF (by omega)) ?_
  refine wp_skip ?_
  refine then_n ?_
  refine c_seq ?_
  refine c_seq ?_
  refine reg_plain w0 (Nobody) ?_
  refine r_move hS hH.kp0 rfl rfl ?_; clear hS; intro a hS
  refine r_move hS hH.kp0 rfl rfl ?_; clear hS; intro a hS
  refine r_capSl hS hH.kp0 rfl Fc.isSlice22 rfl ?_; clear hS; intro a hS
  refine r_move hS hH.kp0 rfl rfl ?_; clear hS; intro a hS
  refine r_lenSl hS hH.kp0 rfl Fc.isSlice22 rfl ?_; clear hS; intro a hS
  first | refine r_sub hS hH.kp0 rfl rfl rfl (by omega) ?_ | refine r_subw hS hH.kp0 rfl rfl rfl ?_
  clear hS; intro a hS
  first | refine r_sub hS hH.kp0 rfl rfl rfl (by omega) ?_ | refine r_subw hS hH.kp0 rfl rfl rfl ?_
  clear hS; intro a hS
  refine r_assign hS hH.kp0 rfl rfl ?_; clear hS; intro a hS
  refine Sq.nil ?_
  refine then_n ?_
  refine c_seq ?_
  refine reg_plain w0 (Nobody) ?_
  refine r_move hS hH.kp0 rfl rfl ?_; clear hS; intro a hS
  refine r_gtr hS hH.kp0 rfl rfl rfl ?_; clear hS; intro a hS
  refine Sq.nil ?_
  refine then_n ?_
  refine c_cond hS rfl (fun hc1 => ?_) (fun hc1 => ?_)
  · have hpos := of_decide_eq_true hc1
    refine reg_plain w0 (Nobody) ?_
    refine r_move hS hH.kp0 rfl rfl ?_; clear hS; intro a hS
    refine r_move hS hH.kp0 rfl rfl ?_; clear hS; intro a hS
    refine r_capSl hS hH.kp0 rfl Fc.isSlice22 rfl ?_; clear hS; intro a hS
    refine r_slHi (hh := 0) hS hH.kp0 rfl rfl Fc.slb22 rfl (Nat.le_refl _) (by intro q h; cases h) rfl ?_; clear hS; intro a hS
    refine r_move hS hH.kp0 rfl rfl ?_; clear hS; intro a hS
    refine r_appendZ (m := m) hS hH Sub.nil rfl rfl (by omega) (by omega) Fc.el22 Fc.i64_3 (by omega) (by omega) rfl ?_; clear hS hH; intro a w b c l hb hl hc hS hH
    refine r_move hS hH.kp0 rfl rfl ?_; clear hS; intro a hS
    refine r_lenSl hS hH.kp0 rfl Fc.isSlice22 rfl ?_; clear hS; intro a hS
    refine r_slHi (hh := 0) hS hH.kp0 rfl rfl Fc.slb22 rfl (Nat.zero_le _) (by intro q h; cases h; rfl) rfl ?_; clear hS; intro a hS
    refine r_assign hS hH.kp0 rfl rfl ?_; clear hS; intro a hS
    refine Sq.nil ?_
    refine then_n ?_
    refine c_seq ?_
    refine reg_plain w0 (Nobody) ?_
    refine r_move hS hH.kp0 rfl rfl ?_; clear hS; intro a hS
    refine r_assign hS hH.kp0 rfl rfl ?_; clear hS; intro a hS
    refine Sq.nil ?_
    refine then_n ?_
    refine wp_ret ?_
    exact leave (.inl rfl) hS rfl (Res.tmp rfl Res.nil) ⟨_, rfl, .inr ⟨_, _, _, rfl, hb, hH.get .here, hl, Nat.zero_le _, by simp⟩, hH.mod⟩
  · refine wp_skip ?_
    refine then_n ?_
    refine c_seq ?_
    refine reg_plain w0 (Nobody) ?_
    refine r_move hS hH.kp0 rfl rfl ?_; clear hS; intro a hS
    refine r_assign hS hH.kp0 rfl rfl ?_; clear hS; intro a hS
    refine Sq.nil ?_
    refine then_n ?_
    refine wp_ret ?_
    exact leave (.inl rfl) hS rfl (Res.tmp rfl Res.nil) ⟨_, rfl, Own.nil _ _ _ _, hH.mod⟩

set_option maxRecDepth 100000 in
set_option maxHeartbeats 1000000 in
theorem Concat_b (v : Value) (ls : List (List UInt8)) (w0 : World) (h : SlB w0 v ls) (hn : ls.flatten.length ≤ 1099511627776) (hn2 : ls.length ≤ 1099511627776) : Calls Try.prog 54 #[v] w0 fun e w' => ∃ r, e = .returned r ∧ Own w0.heap.size 1 5 w' r ls.flatten.length (ls.flatten.map byteV) ∧ Ext w0 w' := by
  refine enter Try.func54 rfl rfl rfl ?_
  intro a hS
  have hH := Hp.start w0 (Nobody)
  refine c_seq ?_
  refine reg_plain w0 (Nobody) ?_
  refine r_assign hS hH.kp0 rfl rfl ?_; clear hS; intro a hS
  refine Sq.nil ?_
  refine then_n ?_
  refine c_seq ?_
  refine reg_plain w0 (Nobody) ?_
  refine r_assign hS hH.kp0 rfl rfl ?_; clear hS; intro a hS
  refine Sq.nil ?_
  refine then_n ?_
  refine c_seq ?_
  refine c_seq ?_
  obtain ⟨vs, p, cap, hsl0, hall0⟩ := h
  have hv0 := hsl0.val
  subst hv0
  refine reg_plain w0 (Nobody) ?_
  refine r_move hS hH.kp0 rfl rfl ?_; clear hS; intro a hS
  refine r_lenSl hS hH.kp0 rfl Fc.isSlice60 rfl ?_; clear hS; intro a hS
  refine r_move hS hH.kp0 rfl rfl ?_; clear hS; intro a hS
  refine Sq.nil ?_
  refine then_n ?_
  refine wp_block ?_
  refine c_loop (fun m a w => ∃ (k : Nat) (i s : Int), m + k = ls.length ∧ i = k ∧ s = (ls.take k).flatten.length ∧ St 36 (lv [(0, .slice p ls.length cap), (3, .int .i64 s), (9, .slice p ls.length cap), (10, .int .i64 (ls.length : Int)), (11, .int .i64 i)]) a ∧ Hp w0 Nobody [] w) (ls.length) ?_ ?_
  · exact ⟨0, _, _, rfl, rfl, rfl, hS.live ⟨rfl, rfl, rfl, rfl, rfl, trivial⟩, hH⟩
  clear hS hH; intro m a w hI; obtain ⟨k, i, s, hmk, hi, hs, hS, hH⟩ := hI
  have hbd : ∀ j, (ls.take j).flatten.length ≤ 1099511627776 := fun j => Nat.le_trans (len_take_flatten ls j) hn
  refine c_seq ?_
  refine reg_plain w0 (Nobody) ?_
  refine r_lss hS hH.kp0 rfl rfl rfl ?_; clear hS; intro a hS
  refine Sq.nil ?_
  refine then_n ?_
  refine c_seq ?_
  refine c_cond hS rfl (fun hc0 => ?_) (fun hc0 => ?_)
  · have hlt := of_decide_eq_true hc0
    have hsl := hsl0.ext hH.mod
    obtain ⟨x, hx⟩ : ∃ x, vs[k]? = some x := ⟨_, List.getElem?_eq_getElem (by rw [hsl.len]; omega)⟩
    obtain ⟨l, hl, hbx⟩ := hall0 k x hx
    obtain ⟨b, o, hp, hcell⟩ := hsl.cells k x hx
    obtain ⟨q, c2, hxs⟩ := hbx
    subst hp
    have hx2 := hxs.val
    subst hx2
    refine wp_skip ?_
    refine then_n ?_
    refine c_seq ?_
    refine wp_block ?_
    refine c_seq ?_
    refine reg_plain w0 (Nobody) ?_
    refine r_indexAddrS (j := k) hS hH.kp0 rfl rfl Fc.slb60 hi (by omega) rfl ?_; clear hS; intro a hS
    refine r_load_cell hS hH.kp0 rfl (by rw [Nat.mul_one]; exact hcell) Fc.sc22 rfl ?_; clear hS; intro a hS
    refine r_assign hS hH.kp0 rfl rfl ?_; clear hS; intro a hS
    refine Sq.nil ?_
    refine then_n ?_
    refine c_seq ?_
    refine reg_plain w0 (Nobody) ?_
    refine r_move hS hH.kp0 rfl rfl ?_; clear hS; intro a hS
    refine r_move hS hH.kp0 rfl rfl ?_; clear hS; intro a hS
    refine r_lenSl hS hH.kp0 rfl Fc.isSlice22 rfl ?_; clear hS; intro a hS
    have hi2 : s + (l.length : Int) = ((ls.take (k + 1)).flatten.length : Int) := by have := take_succ_len hl; omega
    have := hbd (k + 1)
    refine r_add hS hH.kp0 rfl rfl rfl (by omega) ?_; clear hS; intro a hS
    refine r_assign hS hH.kp0 rfl rfl ?_; clear hS; intro a hS
    refine Sq.nil ?_
    refine then_n ?_
    refine c_seq ?_
    refine reg_plain w0 (Nobody) ?_
    refine r_move hS hH.kp0 rfl rfl ?_; clear hS; intro a hS
    refine r_lss hS hH.kp0 rfl rfl rfl ?_; clear hS; intro a hS
    refine Sq.nil ?_
    refine then_n ?_
    refine c_condF hS rfl (DF (by have := hbd k; have := take_succ_len hl; have := hbd (k + 1); omega)) ?_
    refine wp_skip ?_
    refine blk_n ?_
    refine then_n ?_
    refine reg_plain w0 (Nobody) ?_
    refine r_add hS hH.kp0 rfl rfl rfl (by omega) ?_; clear hS; intro a hS
    refine r_move hS hH.kp0 rfl rfl ?_; clear hS; intro a hS
    refine Sq.nil ?_
    refine then_n ?_
    refine ⟨m - 1, by omega, k + 1, _, _, by omega, ?_, ?_, hS.live ⟨rfl, rfl, rfl, rfl, rfl, trivial⟩, hH⟩
    · omega
    · exact hi2
  · have hge := of_decide_eq_false hc0
    have hk : k = ls.length := by omega
    subst hk
    refine wp_exit ?_
    refine then_e ?_
    refine then_e ?_
    refine blk_hit ?_
    refine then_n ?_
    refine c_seq ?_
    refine reg_plain w0 (Nobody) ?_
    refine r_move hS hH.kp0 rfl rfl ?_; clear hS; intro a hS
    refine r_call (l := [.const (.slice none 0 0), .tmp 23]) hS rfl rfl Fc.fn73 rfl ?_
    refine Calls.mono (Grow_nil _ ls.flatten.length (by rw [hs, List.take_of_length_le (Nat.le_refl _)]) hn _) ?_
    rintro e w1 ⟨u, rfl, hO, hE⟩
    have hO : Own w0.heap.size 1 5 w1 u 0 [] := Own.mono hO hH.mod.size
    replace hH := hH.ext hE
    refine ⟨_, rfl, hH.kp0, ?_⟩
    clear hS; intro a hS
    refine r_assign hS hH.kp0 rfl rfl ?_; clear hS; intro a hS
    refine Sq.nil ?_
    refine then_n ?_
    refine c_seq ?_
    refine c_seq ?_
    refine reg_plain w0 (Nobody) ?_
    refine r_move hS hH.kp0 rfl rfl ?_; clear hS; intro a hS
    refine r_lenSl hS hH.kp0 rfl Fc.isSlice60 rfl ?_; clear hS; intro a hS
    refine r_move hS hH.kp0 rfl rfl ?_; clear hS; intro a hS
    refine Sq.nil ?_
    refine then_n ?_
    refine wp_block ?_
    refine c_loop (fun m a w => ∃ (k : Nat) (i : Int) (u : Value), m + k = ls.length ∧ i = k ∧ Own w0.heap.size 1 5 w u (ls.take k).flatten.length ((ls.take k).flatten.map byteV) ∧ St 36 (lv [(0, .slice p ls.length cap), (6, u), (25, .slice p ls.length cap), (26, .int .i64 (ls.length : Int)), (27, .int .i64 i)]) a ∧ Hp w0 Nobody [] w) (ls.length) ?_ ?_
    · exact ⟨0, _, _, rfl, rfl, hO, hS.live ⟨rfl, rfl, rfl, rfl, rfl, trivial⟩, hH⟩
    clear hS hH hO; intro m a w hI; obtain ⟨k, i, u, hmk, hi, hO, hS, hH⟩ := hI
    refine c_seq ?_
    refine reg_plain w0 (Nobody) ?_
    refine r_lss hS hH.kp0 rfl rfl rfl ?_; clear hS; intro a hS
    refine Sq.nil ?_
    refine then_n ?_
    refine c_seq ?_
    refine c_cond hS rfl (fun hc2 => ?_) (fun hc2 => ?_)
    · have hlt := of_decide_eq_true hc2
      have hsl := hsl0.ext hH.mod
      obtain ⟨x, hx⟩ : ∃ x, vs[k]? = some x := ⟨_, List.getElem?_eq_getElem (by rw [hsl.len]; omega)⟩
      obtain ⟨l, hl, hbx⟩ := hall0 k x hx
      replace hbx := hbx.ext hH.mod
      obtain ⟨b, o, hp, hcell⟩ := hsl.cells k x hx
      subst hp
      refine wp_skip ?_
      refine then_n ?_
      refine c_seq ?_
      refine wp_block ?_
      refine c_seq ?_
      refine reg_plain w0 (Nobody) ?_
      refine r_indexAddrS (j := k) hS hH.kp0 rfl rfl Fc.slb60 hi (by omega) rfl ?_; clear hS; intro a hS
      refine r_load_cell hS hH.kp0 rfl (by rw [Nat.mul_one]; exact hcell) Fc.sc22 rfl ?_; clear hS; intro a hS
      refine r_assign hS hH.kp0 rfl rfl ?_; clear hS; intro a hS
      refine Sq.nil ?_
      refine then_n ?_
      refine reg_plain w0 (Nobody) ?_
      refine r_move hS hH.kp0 rfl rfl ?_; clear hS; intro a hS
      refine r_move hS hH.kp0 rfl rfl ?_; clear hS; intro a hS
      refine r_append_O hS hH rfl rfl hO Fc.el22 Fc.ni22 hbx.src (by have := take_succ_len hl; have := len_take_flatten ls (k + 1); omega) rfl ?_; clear hS hH hO; intro a w u2 hO hmw hS hH
      refine r_assign hS hH.kp0 rfl rfl ?_; clear hS; intro a hS
      refine Sq.nil ?_
      refine blk_n ?_
      refine then_n ?_
      refine reg_plain w0 (Nobody) ?_
      refine r_add hS hH.kp0 rfl rfl rfl (by omega) ?_; clear hS; intro a hS
      refine r_move hS hH.kp0 rfl rfl ?_; clear hS; intro a hS
      refine Sq.nil ?_
      refine then_n ?_
      refine ⟨m - 1, by omega, k + 1, _, _, by omega, ?_, ?_, hS.live ⟨rfl, rfl, rfl, rfl, rfl, trivial⟩, hH⟩
      · omega
      · rw [take_succ_flatten2 hl]; simpa using hO
    · have hge := of_decide_eq_false hc2
      have hk : k = ls.length := by omega
      subst hk
      refine wp_exit ?_
      refine then_e ?_
      refine then_e ?_
      refine blk_hit ?_
      refine then_n ?_
      refine c_seq ?_
      refine reg_plain w0 (Nobody) ?_
      refine r_move hS hH.kp0 rfl rfl ?_; clear hS; intro a hS
      refine r_assign hS hH.kp0 rfl rfl ?_; clear hS; intro a hS
      refine Sq.nil ?_
      refine then_n ?_
      refine wp_ret ?_
      exact leave (.inl rfl) hS rfl (Res.tmp rfl Res.nil) ⟨_, rfl, by rw [List.take_of_length_le (Nat.le_refl _)] at hO; exact hO, hH.mod⟩

set_option maxRecDepth 100000 in
set_option maxHeartbeats 400000 in
theorem then_c (p : Option Addr) (h : List UInt8) (hh : h.length = 16) (w0 : World) : Calls Try.prog 47 #[.pointer p, hnd h] w0 fun e w' => ∃ cb cv vv, e = .returned (.tuple #[.pointer (some ⟨cb, 0, none⟩), .func (.func 71) #[] #[.pointer (some ⟨cv, 0, none⟩), .pointer (some ⟨vv, 0, none⟩)]]) ∧ Ext w0 w' ∧ w0.heap.size ≤ cb ∧ w0.heap.size ≤ cv ∧ w0.heap.size ≤ vv ∧ cb ≠ cv ∧ cb ≠ vv ∧ cv ≠ vv ∧
    w'.heap[cb]? = some (.cells (hcells h ++ [Value.int .i64 0]).toArray 129 (0, 0)) ∧ w'.heap[cv]? = some (.cells [Value.pointer (some ⟨cb, 0, none⟩)].toArray 94 (0, 0)) ∧ w'.heap[vv]? = some (.cells [Value.pointer p].toArray 23 (0, 0)) := by
  refine enter Try.func47 rfl rfl rfl ?_
  intro a hS
  have hH := Hp.start w0 (Nobody)
  obtain ⟨x0, x1, x2, x3, x4, x5, x6, x7, x8, x9, xa, xb, xc, xd, xe, xf, rfl⟩ := len16 hh
  refine c_seq ?_
  refine reg_plain w0 (Nobody) ?_
  refine r_box hS hH (by repeat (first | exact Sub.nil | refine Sub.cons ?_ ?_ | exact In.here | refine In.there ?_)) rfl rfl rfl ?_
  clear hS hH; intro a w b2 hb2 hwb2 hS hH
  refine r_box hS hH (by repeat (first | exact Sub.nil | refine Sub.cons ?_ ?_ | exact In.here | refine In.there ?_)) rfl rfl rfl ?_
  clear hS hH; intro a w b3 hb3 hwb3 hS hH
  refine r_assign hS hH.kp0 rfl rfl ?_; clear hS; intro a hS
  refine r_assign hS hH.kp0 rfl rfl ?_; clear hS; intro a hS
  refine Sq.nil ?_
  refine then_n ?_
  refine c_seq ?_
  refine reg_plain w0 (Nobody) ?_
  refine r_load_row hS hH (by repeat (first | exact Sub.nil | refine Sub.cons ?_ ?_ | exact In.here | refine In.there ?_)) rfl (by repeat (first | exact In.here | refine In.there ?_)) Fc.ag26 (by rfl) rfl ?_; clear hS; intro a hS
  refine r_buildS (parts := [(0, .tmp 7)]) hS hH.kp0 rfl rfl Fc.zc129 Fc.pl129 (by rfl) ?_; clear hS; intro a hS
  refine r_box hS hH (by repeat (first | exact Sub.nil | refine Sub.cons ?_ ?_ | exact In.here | refine In.there ?_)) rfl rfl rfl ?_
  clear hS hH; intro a w b9 hb9 hwb9 hS hH
  refine r_alloc hS hH (by repeat (first | exact Sub.nil | refine Sub.cons ?_ ?_ | exact In.here | refine In.there ?_)) Fc.zc94 rfl ?_
  clear hS hH; intro a w b6 hb6 hwb6 hS hH
  refine r_store1 hS hH rfl rfl rfl (by first | exact .here | exact .there .here | exact .there (.there .here) | exact .there (.there (.there .here)) | exact .there (.there (.there (.there .here))) | exact .there (.there (.there (.there (.there .here)))) | exact .there (.there (.there (.there (.there (.there .here))))) | exact .there (.there (.there (.there (.there (.there (.there .here)))))) | exact .there (.there (.there (.there (.there (.there (.there (.there .here))))))) | exact .there (.there (.there (.there (.there (.there (.there (.there (.there .here)))))))) | exact .there (.there (.there (.there (.there (.there (.there (.there (.there (.there .here))))))))) | exact .there (.there (.there (.there (.there (.there (.there (.there (.there (.there (.there .here)))))))))) | exact .there (.there (.there (.there (.there (.there (.there (.there (.there (.there (.there (.there .here))))))))))) | exact .there (.there (.there (.there (.there (.there (.there (.there (.there (.there (.there (.there (.there .here)))))))))))) | exact .there (.there (.there (.there (.there (.there (.there (.there (.there (.there (.there (.there (.there (.there .here))))))))))))) | exact .there (.there (.there (.there (.there (.there (.there (.there (.there (.there (.there (.there (.there (.there (.there .here))))))))))))))) (by repeat (first | exact Sub.nil | refine Sub.cons ?_ ?_ | exact In.here | refine In.there ?_)) Fc.sz94 (of_decide_eq_true rfl) (by first | exact .inr (by assumption) | exact .inl (by first | assumption | rfl)) ?_
  clear hH; intro w hH
  refine Sq.nil ?_
  refine then_n ?_
  refine c_seq ?_
  refine reg_plain w0 (Nobody) ?_
  refine r_load_sc hS hH (by repeat (first | exact Sub.nil | refine Sub.cons ?_ ?_ | exact In.here | refine In.there ?_)) rfl (by repeat (first | exact In.here | refine In.there ?_)) Fc.sc94 (by rfl) rfl ?_; clear hS; intro a hS
  refine r_makeFunc hS hH.kp0 rfl rfl rfl ?_; clear hS; intro a hS
  refine r_assign hS hH.kp0 rfl rfl ?_; clear hS; intro a hS
  refine r_assign hS hH.kp0 rfl rfl ?_; clear hS; intro a hS
  refine Sq.nil ?_
  refine then_n ?_
  refine wp_ret ?_
  refine leave (.inl rfl) hS rfl (Res.tmp rfl (Res.tmp rfl Res.nil)) ?_
  have nd := hH.nd
  simp only [List.map_cons, List.map_nil, List.nodup_cons, List.mem_cons, not_or] at nd
  exact ⟨_, _, _, rfl, hH.mod, hb9, hb6, hb2, Ne.symm nd.1.1, nd.2.1.2.1, nd.1.2.2.1, hH.get (by repeat (first | exact In.here | refine In.there ?_)), hH.get (by repeat (first | exact In.here | refine In.there ?_)), hH.get (by repeat (first | exact In.here | refine In.there ?_))⟩

set_option maxRecDepth 100000 in
set_option maxHeartbeats 400000 in
theorem told_c (cb : Nat) (h : List UInt8) (x : Int) (hh : h.length = 16) (w0 : World) (hb : w0.heap[cb]? = some (.cells (hcells h ++ [Value.int .i64 x]).toArray 129 (0, 0))) : Calls Try.prog 48 #[.pointer (some ⟨cb, 0, none⟩)] w0 fun e w' => e = .returned (.tuple #[hnd h, .int .i64 x]) ∧ Ext w0 w' := by
  refine enter Try.func48 rfl rfl rfl ?_
  intro a hS
  have hH := Hp.start w0 (Nobody)
  obtain ⟨x0, x1, x2, x3, x4, x5, x6, x7, x8, x9, xa, xb, xc, xd, xe, xf, rfl⟩ := len16 hh
  replace hH := hH.know hb (fun p hp => by simp at hp)
  refine c_seq ?_
  refine reg_plain w0 (Nobody) ?_
  refine r_alloc hS hH (by repeat (first | exact Sub.nil | refine Sub.cons ?_ ?_ | exact In.here | refine In.there ?_)) Fc.zc26 rfl ?_
  clear hS hH; intro a w b2 hb2 hwb2 hS hH
  refine r_assign hS hH.kp0 rfl rfl ?_; clear hS; intro a hS
  refine Sq.nil ?_
  refine then_n ?_
  refine c_seq ?_
  refine reg_draw [(true, 0, [0]), (true, 1, [0]), (true, 2, [0]), (true, 3, [0]), (true, 4, [0]), (true, 5, [0]), (true, 6, [0]), (true, 7, [0]), (false, 8, [0]), (true, 9, [0])] Fc.mixed (by kernel_rfl) (by kernel_rfl) (by kernel_rfl) (by kernel_rfl) (by kernel_rfl) (by repeat (first | exact steady_body | apply steady_then | apply steady_block)) hH ?_
  replace hH := hH.drew
  refine r_move hS trivial rfl rfl ?_; clear hS; intro a hS
  refine r_nilCheck hS trivial rfl rfl ?_; clear hS; intro a hS
  refine r_fieldAddr hS trivial rfl Fc.fo129_0 rfl ?_; clear hS; intro a hS
  refine r_load_agS hS rfl (by repeat (first | exact In.here | refine In.there ?_)) Fc.ag26 (of_decide_eq_true rfl) rfl ?_; clear hS; intro a hS
  refine r_move hS trivial rfl rfl ?_; clear hS; intro a hS
  refine r_nilCheck hS trivial rfl rfl ?_; clear hS; intro a hS
  refine r_fieldAddr hS trivial rfl Fc.fo129_1 rfl ?_; clear hS; intro a hS
  refine r_load_scS hS rfl (by repeat (first | exact In.here | refine In.there ?_)) Fc.sc27 (by rfl) rfl ?_; clear hS; intro a hS
  refine r_store_row hS hH rfl rfl (by first | exact .here | exact .there .here | exact .there (.there .here) | exact .there (.there (.there .here)) | exact .there (.there (.there (.there .here))) | exact .there (.there (.there (.there (.there .here)))) | exact .there (.there (.there (.there (.there (.there .here))))) | exact .there (.there (.there (.there (.there (.there (.there .here)))))) | exact .there (.there (.there (.there (.there (.there (.there (.there .here))))))) | exact .there (.there (.there (.there (.there (.there (.there (.there (.there .here)))))))) | exact .there (.there (.there (.there (.there (.there (.there (.there (.there (.there .here))))))))) | exact .there (.there (.there (.there (.there (.there (.there (.there (.there (.there (.there .here)))))))))) | exact .there (.there (.there (.there (.there (.there (.there (.there (.there (.there (.there (.there .here))))))))))) | exact .there (.there (.there (.there (.there (.there (.there (.there (.there (.there (.there (.there (.there .here)))))))))))) | exact .there (.there (.there (.there (.there (.there (.there (.there (.there (.there (.there (.there (.there (.there .here))))))))))))) | exact .there (.there (.there (.there (.there (.there (.there (.there (.there (.there (.there (.there (.there (.there (.there .here))))))))))))))) (by repeat (first | exact Sub.nil | refine Sub.cons ?_ ?_ | exact In.here | refine In.there ?_)) Fc.sz26 (by first | exact hcells_one _ | exact of_decide_eq_true rfl) (by rfl) (by first | exact .inr (by assumption) | exact .inl (by first | assumption | rfl)) ?_
  clear hH; intro w hH
  refine r_assign hS trivial rfl rfl ?_; clear hS; intro a hS
  refine Sq.nil ?_
  refine then_n ?_
  refine wp_ret ?_
  exact leave (.inl rfl) hS rfl (Res.cell rfl (hH.get (by repeat (first | exact In.here | refine In.there ?_))) Fc.ag26 (by rfl) rfl (Res.tmp rfl Res.nil)) ⟨rfl, hH.mod⟩

set_option maxRecDepth 100000 in
set_option maxHeartbeats 400000 in
theorem next_stop (s : ByteArray) (pv : Value) (h : List UInt8) (hh : h.length = 16) (cb cv vv : Nat) (n1 : cb ≠ cv) (n2 : cb ≠ vv) (n3 : cv ≠ vv) (p : Option Addr) (x : Int) (hx : x ≠ 0) (w0 : World)
    (h1 : w0.heap[cb]? = some (.cells (hcells h ++ [Value.int .i64 x]).toArray 129 (0, 0))) (h2 : w0.heap[cv]? = some (.cells [Value.pointer (some ⟨cb, 0, none⟩)].toArray 94 (0, 0))) (h3 : w0.heap[vv]? = some (.cells [Value.pointer p].toArray 23 (0, 0))) : Calls Try.prog 71 #[.string s, pv, .pointer (some ⟨cv, 0, none⟩), .pointer (some ⟨vv, 0, none⟩)] w0 fun e w' => ∃ u, e = .returned u ∧ Ext w0 w' := by
  refine enter Try.func71 rfl rfl rfl ?_
  intro a hS
  have hH := Hp.start w0 (Nobody)
  obtain ⟨x0, x1, x2, x3, x4, x5, x6, x7, x8, x9, xa, xb, xc, xd, xe, xf, rfl⟩ := len16 hh
  replace hH := ((hH.know h3 (fun p hp => by simp at hp)).know h2 (fun p hp => by simp at hp; subst hp; exact Ne.symm n3)).know h1 (fun p hp => by simp at hp; rcases hp with rfl | rfl; exact Ne.symm n1; exact Ne.symm n2)
  refine c_seq ?_
  refine reg_plain w0 (Nobody) ?_
  refine r_load_sc hS hH (by repeat (first | exact Sub.nil | refine Sub.cons ?_ ?_ | exact In.here | refine In.there ?_)) rfl (by repeat (first | exact In.here | refine In.there ?_)) Fc.sc94 (by rfl) rfl ?_; clear hS; intro a hS
  refine r_nilCheck hS hH.kp0 rfl rfl ?_; clear hS; intro a hS
  refine r_fieldAddr hS hH.kp0 rfl Fc.fo129_1 rfl ?_; clear hS; intro a hS
  refine r_load_sc hS hH (by repeat (first | exact Sub.nil | refine Sub.cons ?_ ?_ | exact In.here | refine In.there ?_)) rfl (by repeat (first | exact In.here | refine In.there ?_)) Fc.sc27 (by rfl) rfl ?_; clear hS; intro a hS
  refine r_eql hS hH.kp0 rfl rfl rfl ?_; clear hS; intro a hS
  refine Sq.nil ?_
  refine then_n ?_
  refine c_condF hS rfl (by simpa using hx) ?_
  refine wp_skip ?_
  exact leave (.inr rfl) hS rfl Res.nil ⟨_, rfl, hH.mod⟩

set_option maxRecDepth 100000 in
set_option maxHeartbeats 1000000 in
theorem next_v (b : Nat) (V : VB) (ts : List Tm) (s : ByteArray) (hs : s.size ≤ 9223372036854775807) (pv : Value) (ls : List (List UInt8)) (h : List UInt8) (hh : h.length = 16) (cb cv vv : Nat) (n1 : cb ≠ cv) (n2 : cb ≠ vv) (n3 : cv ≠ vv) (hm : ts.length ≤ 1000000000) (w0 : World) (hvi : VI w0 b V ts) (hl1 : ls.flatten.length ≤ 1099511627776) (hl2 : ls.length ≤ 1099511627776) (hp : SlBF (fun x => x = cb ∨ V.F b x) w0 pv ls)
    (h1 : w0.heap[cb]? = some (.cells (hcells h ++ [Value.int .i64 0]).toArray 129 (0, 0))) (h2 : w0.heap[cv]? = some (.cells [Value.pointer (some ⟨cb, 0, none⟩)].toArray 94 (0, 0))) (h3 : w0.heap[vv]? = some (.cells [Value.pointer (some ⟨b, 0, none⟩)].toArray 23 (0, 0))) : Calls Try.prog 71 #[.string s, pv, .pointer (some ⟨cv, 0, none⟩), .pointer (some ⟨vv, 0, none⟩)] w0 fun e w' => ∃ u h' x' V' ts', e = .returned u ∧ VI w' b V' ts' ∧ (∀ x, V'.F b x → V.F b x ∨ w0.heap.size ≤ x) ∧ Mod (fun x => x = cb ∨ V.F b x) w0 w' ∧ w'.heap[cb]? = some (.cells (hcells h' ++ [Value.int .i64 x']).toArray 129 (0, 0)) ∧ OfT ts h (drv s (strOf ls.flatten)) h' x' ts' := by
  refine enter Try.func71 rfl rfl rfl ?_
  intro a hS
  have hH := Hp.start w0 (fun x => x = cb ∨ V.F b x)
  obtain ⟨x0, x1, x2, x3, x4, x5, x6, x7, x8, x9, xa, xb, xc, xd, xe, xf, rfl⟩ := len16 hh
  replace hH := ((hH.know h3 (fun p hp => by simp at hp)).know h2 (fun p hp => by simp at hp; subst hp; exact Ne.symm n3)).know h1 (fun p hp => by simp at hp; rcases hp with rfl | rfl; exact Ne.symm n1; exact Ne.symm n2)
  replace hH := hH.knowV hvi (by intro p hp; simp only [List.mem_cons, List.not_mem_nil, or_false] at hp; rcases hp with rfl | rfl | rfl; exact hvi.notF h1 (by decide) (by decide); exact hvi.notF h2 (by decide) (by decide); exact hvi.notF h3 (by decide) (by decide))
  have hVS : VS (fun x => x = cb ∨ V.F b x) w0 b V := fun _ h => .inl (.inr h)
  refine c_seq ?_
  refine reg_plain w0 (fun x => x = cb ∨ V.F b x) ?_
  refine r_load_sc hS hH (by repeat (first | exact Sub.nil | refine Sub.cons ?_ ?_ | exact In.here | refine In.there ?_)) rfl (by repeat (first | exact In.here | refine In.there ?_)) Fc.sc94 (by rfl) rfl ?_; clear hS; intro a hS
  refine r_nilCheck hS hH.kp0 rfl rfl ?_; clear hS; intro a hS
  refine r_fieldAddr hS hH.kp0 rfl Fc.fo129_1 rfl ?_; clear hS; intro a hS
  refine r_load_sc hS hH (by repeat (first | exact Sub.nil | refine Sub.cons ?_ ?_ | exact In.here | refine In.there ?_)) rfl (by repeat (first | exact In.here | refine In.there ?_)) Fc.sc27 (by rfl) rfl ?_; clear hS; intro a hS
  refine r_eql hS hH.kp0 rfl rfl rfl ?_; clear hS; intro a hS
  refine Sq.nil ?_
  refine then_n ?_
  refine c_condT hS rfl rfl ?_
  refine reg_draw [(true, 0, [0, 1, 2, 3, 4]), (true, 1, [0, 1, 2, 3, 4]), (true, 2, [0, 1, 2, 3, 4]), (true, 3, [0, 1, 2, 3, 4]), (true, 4, [0, 1, 2, 3, 4]), (true, 5, [0, 1, 2, 3, 4]), (true, 6, [0, 1, 2, 3]), (true, 7, [0, 1, 2, 3, 4]), (true, 8, [0, 1, 2, 3, 4]), (false, 9, []), (false, 10, [0, 1, 2, 3]), (true, 11, [0, 1, 2, 3, 4]), (true, 12, [0, 1, 2, 3, 4]), (true, 13, [0, 1, 2, 3, 4]), (true, 14, [0, 1, 2, 3, 4]), (true, 15, [0, 1, 2, 3, 4]), (false, 16, [0, 1, 2, 3, 4]), (true, 17, [0, 1, 2, 3, 4]), (true, 18, [0, 1, 2, 3, 4]), (false, 19, [0, 1, 2, 3, 4])] Fc.mixed (by kernel_rfl) (by kernel_rfl) (by kernel_rfl) (by kernel_rfl) (by kernel_rfl) (by repeat (first | exact steady_body | apply steady_then | apply steady_block)) hH ?_
  replace hH := hH.drew
  refine r_load_scS hS rfl (by repeat (first | exact In.here | refine In.there ?_)) Fc.sc94 (by rfl) rfl ?_; clear hS; intro a hS
  refine r_load_scS hS rfl (by repeat (first | exact In.here | refine In.there ?_)) Fc.sc94 (by rfl) rfl ?_; clear hS; intro a hS
  refine r_load_scS hS rfl (by repeat (first | exact In.here | refine In.there ?_)) Fc.sc23 (by rfl) rfl ?_; clear hS; intro a hS
  refine r_load_scS hS rfl (by repeat (first | exact In.here | refine In.there ?_)) Fc.sc94 (by rfl) rfl ?_; clear hS; intro a hS
  refine r_nilCheck hS trivial rfl rfl ?_; clear hS; intro a hS
  refine r_fieldAddr hS trivial rfl Fc.fo129_0 rfl ?_; clear hS; intro a hS
  refine r_load_agS hS rfl (by repeat (first | exact In.here | refine In.there ?_)) Fc.ag26 (of_decide_eq_true rfl) rfl ?_; clear hS; intro a hS
  refine r_move hS trivial rfl rfl ?_; clear hS; intro a hS
  refine r_move hS trivial rfl rfl ?_; clear hS; intro a hS
  refine r_call (l := [.tmp 20]) hS rfl rfl Fc.fn54 rfl ?_
  refine Calls.mono (Concat_b _ ls _ (hp _ hH.mod) hl1 hl2) ?_
  rintro e w1 ⟨r, rfl, hr, hE⟩
  have hrF : BsF (V.F b) w1 r ls.flatten := hr.bsF (fun x hx => hvi.lt x hx)
  replace hH := hH.ext hE
  refine ⟨_, rfl, hH.kp (by repeat (first | exact Sub.nil | refine Sub.cons ?_ ?_ | exact In.here | refine In.there ?_)), ?_⟩
  clear hS; intro a hS
  refine r_call (l := [.tmp 14, .tmp 18, .tmp 19, .tmp 21]) hS rfl rfl Fc.fn52 rfl ?_
  refine Calls.mono (Derive_v b V ts [x0, x1, x2, x3, x4, x5, x6, x7, x8, x9, xa, xb, xc, xd, xe, xf] rfl s r ls.flatten hs (by omega) hm _ (hH.vin hvi.ok hvi.n01 hvi.n23 (by repeat (first | exact In.here | refine In.there ?_)) (by repeat (first | exact In.here | refine In.there ?_)) (by repeat (first | exact In.here | refine In.there ?_)) (by repeat (first | exact In.here | refine In.there ?_))) hrF) ?_
  rintro e w1 ⟨h, x, V1, ts1, rfl, hvi1, hst, hof⟩
  have hly := hof.len
  obtain ⟨y0, y1, y2, y3, y4, y5, y6, y7, y8, y9, ya, yb, yc, yd, ye, yf, rfl⟩ := len16 hly
  have hsz0 := hH.mod.size
  have hVS1 := hVS.step hst hH.mod.size
  replace hH := hH.vault hVS hst hvi1 (by first | exact .here | exact .there .here | exact .there (.there .here) | exact .there (.there (.there .here)) | exact .there (.there (.there (.there .here))) | exact .there (.there (.there (.there (.there .here)))) | exact .there (.there (.there (.there (.there (.there .here))))) | exact .there (.there (.there (.there (.there (.there (.there .here)))))) | exact .there (.there (.there (.there (.there (.there (.there (.there .here))))))) | exact .there (.there (.there (.there (.there (.there (.there (.there (.there .here)))))))) | exact .there (.there (.there (.there (.there (.there (.there (.there (.there (.there .here))))))))) | exact .there (.there (.there (.there (.there (.there (.there (.there (.there (.there (.there .here)))))))))) | exact .there (.there (.there (.there (.there (.there (.there (.there (.there (.there (.there (.there .here))))))))))) | exact .there (.there (.there (.there (.there (.there (.there (.there (.there (.there (.there (.there (.there .here)))))))))))) | exact .there (.there (.there (.there (.there (.there (.there (.there (.there (.there (.there (.there (.there (.there .here))))))))))))) | exact .there (.there (.there (.there (.there (.there (.there (.there (.there (.there (.there (.there (.there (.there (.there .here)))))))))))))))
  refine ⟨_, rfl, hH.kp (by repeat (first | exact Sub.nil | refine Sub.cons ?_ ?_ | exact In.here | refine In.there ?_)), ?_⟩
  clear hS; intro a hS
  refine r_move hS trivial rfl rfl ?_; clear hS; intro a hS
  refine r_extract hS trivial rfl rfl rfl ?_; clear hS; intro a hS
  refine r_extract hS trivial rfl rfl rfl ?_; clear hS; intro a hS
  refine r_nilCheck hS trivial rfl rfl ?_; clear hS; intro a hS
  refine r_fieldAddr hS trivial rfl Fc.fo129_0 rfl ?_; clear hS; intro a hS
  refine r_store hS hH rfl rfl rfl (by first | exact .here | exact .there .here | exact .there (.there .here) | exact .there (.there (.there .here)) | exact .there (.there (.there (.there .here))) | exact .there (.there (.there (.there (.there .here)))) | exact .there (.there (.there (.there (.there (.there .here))))) | exact .there (.there (.there (.there (.there (.there (.there .here)))))) | exact .there (.there (.there (.there (.there (.there (.there (.there .here))))))) | exact .there (.there (.there (.there (.there (.there (.there (.there (.there .here)))))))) | exact .there (.there (.there (.there (.there (.there (.there (.there (.there (.there .here))))))))) | exact .there (.there (.there (.there (.there (.there (.there (.there (.there (.there (.there .here)))))))))) | exact .there (.there (.there (.there (.there (.there (.there (.there (.there (.there (.there (.there .here))))))))))) | exact .there (.there (.there (.there (.there (.there (.there (.there (.there (.there (.there (.there (.there .here)))))))))))) | exact .there (.there (.there (.there (.there (.there (.there (.there (.there (.there (.there (.there (.there (.there .here))))))))))))) | exact .there (.there (.there (.there (.there (.there (.there (.there (.there (.there (.there (.there (.there (.there (.there .here))))))))))))))) (by repeat (first | exact Sub.nil | refine Sub.cons ?_ ?_ | exact In.here | refine In.there ?_)) Fc.sz26 (by first | exact hcells_one _ | exact of_decide_eq_true rfl) (of_decide_eq_true rfl) (.inl (.inl rfl)) ?_
  clear hH; intro w hH
  refine r_nilCheck hS trivial rfl rfl ?_; clear hS; intro a hS
  refine r_fieldAddr hS trivial rfl Fc.fo129_1 rfl ?_; clear hS; intro a hS
  refine r_store1 hS hH rfl rfl rfl (by first | exact .here | exact .there .here | exact .there (.there .here) | exact .there (.there (.there .here)) | exact .there (.there (.there (.there .here))) | exact .there (.there (.there (.there (.there .here)))) | exact .there (.there (.there (.there (.there (.there .here))))) | exact .there (.there (.there (.there (.there (.there (.there .here)))))) | exact .there (.there (.there (.there (.there (.there (.there (.there .here))))))) | exact .there (.there (.there (.there (.there (.there (.there (.there (.there .here)))))))) | exact .there (.there (.there (.there (.there (.there (.there (.there (.there (.there .here))))))))) | exact .there (.there (.there (.there (.there (.there (.there (.there (.there (.there (.there .here)))))))))) | exact .there (.there (.there (.there (.there (.there (.there (.there (.there (.there (.there (.there .here))))))))))) | exact .there (.there (.there (.there (.there (.there (.there (.there (.there (.there (.there (.there (.there .here)))))))))))) | exact .there (.there (.there (.there (.there (.there (.there (.there (.there (.there (.there (.there (.there (.there .here))))))))))))) | exact .there (.there (.there (.there (.there (.there (.there (.there (.there (.there (.there (.there (.there (.there (.there .here))))))))))))))) (by repeat (first | exact Sub.nil | refine Sub.cons ?_ ?_ | exact In.here | refine In.there ?_)) Fc.sz27 (of_decide_eq_true rfl) (.inl (.inl rfl)) ?_
  clear hH; intro w hH
  refine Sq.nil ?_
  have e1 := hH.get (b := cb) (.there (.there (.there (.there .here))))
  refine leave (.inr rfl) hS rfl Res.nil ⟨_, [y0, y1, y2, y3, y4, y5, y6, y7, y8, y9, ya, yb, yc, yd, ye, yf], x, V1, ts1, rfl, (hH.vin hvi1.ok hvi1.n01 hvi1.n23 (by repeat (first | exact In.here | refine In.there ?_)) (by repeat (first | exact In.here | refine In.there ?_)) (by repeat (first | exact In.here | refine In.there ?_)) (by repeat (first | exact In.here | refine In.there ?_))), ?_, hH.mod, e1, hof⟩
  intro z hz; rcases hst.F z hz with e | e; exact .inl e; exact .inr (Nat.le_trans hsz0 e)

end Go.Proofs.Ytcjmehononbadaa
