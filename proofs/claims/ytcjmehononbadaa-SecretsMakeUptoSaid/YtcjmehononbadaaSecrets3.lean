/- SecretsMake: any steps make the document's terms, or are refused. Part Secrets3: walks and lemmas of the proof. -/
import Derived.Test.YtcjmehononbadaaSecrets2
namespace Go.Proofs.Ytcjmehononbadaa
open Go.Sym

theorem Fc.ag66 : agB Try.prog 66 = some 5 := by kernel_rfl
theorem Fc.bsl32_1 : bslB Try.prog 32 1 = some (26, 16, [.int .u8 0, .int .u8 0, .int .u8 0, .int .u8 0, .int .u8 0, .int .u8 0, .int .u8 0, .int .u8 0, .int .u8 0, .int .u8 0, .int .u8 0, .int .u8 0, .int .u8 0, .int .u8 0, .int .u8 0, .int .u8 0]) := by kernel_rfl
theorem Fc.bsl32_3 : bslB Try.prog 32 3 = some (26, 16, [.int .u8 0, .int .u8 0, .int .u8 0, .int .u8 0, .int .u8 0, .int .u8 0, .int .u8 0, .int .u8 0, .int .u8 0, .int .u8 0, .int .u8 0, .int .u8 0, .int .u8 0, .int .u8 0, .int .u8 0, .int .u8 0, .int .u8 0, .int .u8 0, .int .u8 0, .int .u8 0, .int .u8 0, .int .u8 0, .int .u8 0, .int .u8 0, .int .u8 0, .int .u8 0, .int .u8 0, .int .u8 0, .int .u8 0, .int .u8 0, .int .u8 0, .int .u8 0, .int .u8 0, .int .u8 0, .int .u8 0, .int .u8 0, .int .u8 0, .int .u8 0, .int .u8 0, .int .u8 0, .int .u8 0, .int .u8 0, .int .u8 0, .int .u8 0, .int .u8 0, .int .u8 0, .int .u8 0, .int .u8 0]) := by kernel_rfl
theorem Fc.elH : elB Try.prog 32 = some (26, 16, 16) := by kernel_rfl
theorem Fc.fn11 : isFn Try.prog 11 = true := by kernel_rfl
theorem Fc.fn14 : isFn Try.prog 14 = true := by kernel_rfl
theorem Fc.fn37 : isFn Try.prog 37 = true := by kernel_rfl
theorem Fc.fn38 : isFn Try.prog 38 = true := by kernel_rfl
theorem Fc.fn40 : isFn Try.prog 40 = true := by kernel_rfl
theorem Fc.fn41 : isFn Try.prog 41 = true := by kernel_rfl
theorem Fc.fo66_1 : foff Try.prog 66 1 = some 1 := by kernel_rfl
theorem Fc.fo66_2 : foff Try.prog 66 2 = some 2 := by kernel_rfl
theorem Fc.isSlice32 : isSlice Try.prog 32 = true := by kernel_rfl
theorem Fc.isSlice78 : isSlice Try.prog 78 = true := by kernel_rfl
theorem Fc.niH : notInt Try.prog 32 = true := by kernel_rfl
theorem Fc.slb32 : slB Try.prog 32 = some 16 := by kernel_rfl
theorem Fc.slb78 : slB Try.prog 78 = some 5 := by kernel_rfl
set_option maxRecDepth 100000 in
set_option maxHeartbeats 400000 in
theorem names12_c (w0 : World) : Calls Try.prog 38 #[] w0 fun e w' => e = .returned (.bool true) ∧ Ext w0 w' := by
  refine enter Try.func38 rfl rfl rfl ?_
  intro a hS
  have hH := Hp.start w0 (Nobody)
  refine c_seq ?_
  refine reg_plain w0 (Nobody) ?_
  refine r_assign hS hH.kp0 rfl rfl ?_; clear hS; intro a hS
  refine Sq.nil ?_
  refine then_n ?_
  refine c_seq ?_
  refine reg_plain w0 (Nobody) ?_
  refine r_assign hS hH.kp0 rfl rfl ?_; clear hS; intro a hS
  refine Sq.nil ?_
  refine then_n ?_
  refine wp_ret ?_
  exact leave (.inl rfl) hS rfl (Res.tmp rfl Res.nil) ⟨rfl, hH.mod⟩

set_option maxRecDepth 100000 in
set_option maxHeartbeats 8000000 in
theorem make_law (q : Option Addr) (qc : Nat) (acs : List AcT) (w0 : World) (hac : Acs w0 q acs) : Calls Try.prog 7 #[.slice q acs.length qc] w0 fun e w' => e = .returned (.bool true) ∧ Ext w0 w' := by
  refine enter Try.func7 rfl rfl rfl ?_
  intro a hS
  have hH := Hp.start w0 (Nobody)
  refine c_seq ?_
  refine reg_plain w0 (Nobody) ?_
  refine r_assign hS hH.kp0 rfl rfl ?_; clear hS; intro a hS
  refine Sq.nil ?_
  refine then_n ?_
  refine c_seq ?_
  refine reg_plain w0 (Nobody) ?_
  refine r_call (l := []) hS rfl rfl Fc.fn11 rfl ?_
  refine Calls.mono (New_c _) ?_
  rintro e w1 ⟨b, V, rfl, hvi, hE, hVF⟩
  have hsz := hH.mod.size
  have hVS : VS Nobody w0 b V := fun x hx => .inr (Nat.le_trans hsz (hVF x hx))
  replace hH := (hH.ext hE).knowV hvi (by intro p hp; simp at hp)
  obtain ⟨ts, hts⟩ : ∃ ts, ts = [rootT] := ⟨_, rfl⟩
  rw [← hts] at hvi hH
  have hok := hvi.ok
  have n01 := hvi.n01
  have n23 := hvi.n23
  have htl : ts.length = 1 := by rw [hts]; rfl
  refine ⟨_, rfl, hH.kp0, ?_⟩
  clear hS; intro a hS
  refine r_call (l := []) hS rfl rfl Fc.fn37 rfl ?_
  refine Calls.mono (rNew_c _) ?_
  rintro e w1 ⟨b2, R, rfl, hri, hE, hRF⟩
  have hsz2 := hH.mod.size
  have hRS : RS Nobody w0 b2 R := fun x hx => .inr (Nat.le_trans hsz2 (hRF x hx))
  rw [← hts] at hri
  replace hH := (hH.ext hE).knowR hri (by intro p hp hF; have h1 := hRF _ hF; have h2 := lt_of_block (hH.blk p hp); omega)
  have hrok := hri.ok
  have hr01 := hri.n01
  refine ⟨_, rfl, hH.kp0, ?_⟩
  clear hS; intro a hS
  refine r_assign hS hH.kp0 rfl rfl ?_; clear hS; intro a hS
  refine r_assign hS hH.kp0 rfl rfl ?_; clear hS; intro a hS
  refine Sq.nil ?_
  refine then_n ?_
  refine c_seq ?_
  refine c_seq ?_
  refine reg_plain w0 (Nobody) ?_
  refine r_move hS hH.kp0 rfl rfl ?_; clear hS; intro a hS
  refine r_ptrNil hS hH.kp0 rfl Fc.isPtr23 rfl ?_; clear hS; intro a hS
  refine r_move hS hH.kp0 rfl rfl ?_; clear hS; intro a hS
  refine Sq.guardYes hS rfl rfl rfl ?_
  refine r_call (l := []) hS rfl rfl Fc.fn38 rfl ?_
  refine Calls.mono (names12_c _) ?_
  rintro e w1 ⟨rfl, hE⟩
  replace hH := hH.ext hE
  refine ⟨_, rfl, hH.kp0, ?_⟩
  clear hS; intro a hS
  refine Sq.guardYes hS rfl rfl rfl ?_
  refine r_not hS hH.kp0 rfl rfl ?_; clear hS; intro a hS
  refine r_pickF hS hH.kp0 rfl rfl rfl rfl ?_; clear hS; intro a hS
  refine Sq.nil ?_
  refine then_n ?_
  refine c_condF hS rfl rfl ?_
  refine wp_skip ?_
  refine then_n ?_
  refine c_seq ?_
  refine c_seq ?_
  refine reg_plain w0 (Nobody) ?_
  refine r_move hS hH.kp0 rfl rfl ?_; clear hS; intro a hS
  refine r_lenSl hS hH.kp0 rfl Fc.isSlice78 rfl ?_; clear hS; intro a hS
  refine r_gtr hS hH.kp0 rfl rfl rfl ?_; clear hS; intro a hS
  refine Sq.nil ?_
  refine then_n ?_
  refine c_cond hS rfl (fun hc1 => ?_) (fun hc1 => ?_)
  · have hlt := of_decide_eq_true hc1
    refine c_seq ?_
    refine reg_plain w0 (Nobody) ?_
    refine r_assign hS hH.kp0 rfl rfl ?_; clear hS; intro a hS
    refine Sq.nil ?_
    refine then_n ?_
    refine wp_ret ?_
    refine then_r ?_
    exact leave (.inl rfl) hS rfl (Res.tmp rfl Res.nil) ⟨rfl, hH.mod⟩
  · have hge := of_decide_eq_false hc1
    refine wp_skip ?_
    refine then_n ?_
    refine c_seq ?_
    refine reg_plain w0 (Nobody) ?_
    refine r_move hS hH.kp0 rfl rfl ?_; clear hS; intro a hS
    refine r_call (l := [.tmp 22]) hS rfl rfl Fc.fn14 rfl ?_
    refine Calls.mono (Fresh_v b V ts (by omega) _ (hH.vin hok n01 n23 (by repeat (first | exact In.here | refine In.there ?_)) (by repeat (first | exact In.here | refine In.there ?_)) (by repeat (first | exact In.here | refine In.there ?_)) (by repeat (first | exact In.here | refine In.there ?_)))) ?_
    rintro e w1 ⟨h, V1, rfl, hkn1, hvi1, hst⟩
    obtain ⟨y0, y1, y2, y3, y4, y5, y6, y7, y8, y9, ya, yb, yc, yd, ye, yf, rfl⟩ := len16 (h := h) (by rw [hkn1]; rfl)
    obtain ⟨ts1, hts1⟩ : ∃ z, z = ts ++ [freshT] := ⟨_, rfl⟩
    rw [← hts1] at hvi1
    have hVS1 := hVS.step hst hH.mod.size
    replace hH := hH.vault hVS hst hvi1 (by first | exact .here | exact .there .here | exact .there (.there .here) | exact .there (.there (.there .here)) | exact .there (.there (.there (.there .here))) | exact .there (.there (.there (.there (.there .here)))) | exact .there (.there (.there (.there (.there (.there .here))))) | exact .there (.there (.there (.there (.there (.there (.there .here)))))) | exact .there (.there (.there (.there (.there (.there (.there (.there .here))))))) | exact .there (.there (.there (.there (.there (.there (.there (.there (.there .here)))))))) | exact .there (.there (.there (.there (.there (.there (.there (.there (.there (.there .here))))))))) | exact .there (.there (.there (.there (.there (.there (.there (.there (.there (.there (.there .here)))))))))) | exact .there (.there (.there (.there (.there (.there (.there (.there (.there (.there (.there (.there .here))))))))))) | exact .there (.there (.there (.there (.there (.there (.there (.there (.there (.there (.there (.there (.there .here)))))))))))) | exact .there (.there (.there (.there (.there (.there (.there (.there (.there (.there (.there (.there (.there (.there .here))))))))))))) | exact .there (.there (.there (.there (.there (.there (.there (.there (.there (.there (.there (.there (.there (.there (.there .here)))))))))))))))
    have hok1 := hvi1.ok
    have n011 := hvi1.n01
    have n231 := hvi1.n23
    clear hst
    refine ⟨_, rfl, hH.kp0, ?_⟩
    clear hS; intro a hS
    refine r_buildA (parts := []) hS hH.kp0 rfl rfl Fc.zc26 Fc.ar26 (by rfl) ?_; clear hS; intro a hS
    refine r_move hS hH.kp0 rfl rfl ?_; clear hS; intro a hS
    refine r_call (l := [.tmp 25]) hS rfl rfl Fc.fn39 rfl ?_
    refine Calls.mono (Root_v b V1 ts1 _ (hH.vin hok1 n011 n231 (by repeat (first | exact In.here | refine In.there ?_)) (by repeat (first | exact In.here | refine In.there ?_)) (by repeat (first | exact In.here | refine In.there ?_)) (by repeat (first | exact In.here | refine In.there ?_)))) ?_
    rintro e w1 ⟨h, rfl, hqr, hE⟩
    obtain ⟨r0, r1, r2, r3, r4, r5, r6, r7, r8, r9, ra, rb, rc, rd, re, rf, rfl⟩ := len16 (h := h) (by rw [hqr]; rfl)
    replace hH := hH.ext hE
    refine ⟨_, rfl, hH.kp0, ?_⟩
    clear hS; intro a hS
    refine r_buildSlice (parts := [(0, .tmp 23), (1, .tmp 24), (2, .tmp 26)]) hS hH (by repeat (first | exact Sub.nil | refine Sub.cons ?_ ?_ | exact In.here | refine In.there ?_)) rfl Fc.bsl32_3 (by rfl) rfl ?_
    clear hS hH; intro a w b27 hb27 hwb27 hS hH
    refine r_assign hS hH.kp0 rfl rfl ?_; clear hS; intro a hS
    refine Sq.nil ?_
    refine then_n ?_
    refine c_seq ?_
    refine reg_plain w0 (Nobody) ?_
    refine r_move hS hH.kp0 rfl rfl ?_; clear hS; intro a hS
    refine r_call (l := [.tmp 28]) hS rfl rfl Fc.fn40 rfl ?_
    refine Calls.mono (rFresh_c b2 R ts (by omega) _ (hH.rin (TV := 116) (TT := 113) hrok rfl hr01 (by repeat (first | exact In.here | refine In.there ?_)) (by repeat (first | exact In.here | refine In.there ?_)))) ?_
    rintro e w1 ⟨h, R1, rfl, hkr1, hri1, hst⟩
    obtain ⟨z0, z1, z2, z3, z4, z5, z6, z7, z8, z9, za, zb, zc, zd, ze, zf, rfl⟩ := len16 (h := h) (by rw [hkr1]; rfl)
    rw [← hts1] at hri1
    have hRS1 := hRS.step hst hH.mod.size
    replace hH := hH.rvault hRS hst hri1 (by first | exact .two | exact .there .two | exact .there (.there .two) | exact .there (.there (.there .two)) | exact .there (.there (.there (.there .two))) | exact .there (.there (.there (.there (.there .two)))) | exact .there (.there (.there (.there (.there (.there .two))))) | exact .there (.there (.there (.there (.there (.there (.there .two)))))) | exact .there (.there (.there (.there (.there (.there (.there (.there .two))))))) | exact .there (.there (.there (.there (.there (.there (.there (.there (.there .two)))))))) | exact .there (.there (.there (.there (.there (.there (.there (.there (.there (.there .two))))))))) | exact .there (.there (.there (.there (.there (.there (.there (.there (.there (.there (.there .two)))))))))) | exact .there (.there (.there (.there (.there (.there (.there (.there (.there (.there (.there (.there .two))))))))))) | exact .there (.there (.there (.there (.there (.there (.there (.there (.there (.there (.there (.there (.there .two)))))))))))) | exact .there (.there (.there (.there (.there (.there (.there (.there (.there (.there (.there (.there (.there (.there .two))))))))))))) | exact .there (.there (.there (.there (.there (.there (.there (.there (.there (.there (.there (.there (.there (.there (.there .two)))))))))))))))
    have hrok1 := hri1.ok
    have hr011 := hri1.n01
    clear hst
    have htl1 : ts1.length = ts.length + 1 := by rw [hts1]; simp
    refine ⟨_, rfl, hH.kp0, ?_⟩
    clear hS; intro a hS
    refine Sq.nil ?_
    obtain ⟨hs, hhs⟩ : ∃ hs : List (List UInt8), hs = [[y0, y1, y2, y3, y4, y5, y6, y7, y8, y9, ya, yb, yc, yd, ye, yf], zH, [r0, r1, r2, r3, r4, r5, r6, r7, r8, r9, ra, rb, rc, rd, re, rf]] := ⟨_, rfl⟩
    obtain ⟨l, hle⟩ : ∃ l : List Value, l = hs.flatMap hcells := ⟨_, rfl⟩
    have hs16 : ∀ h ∈ hs, h.length = 16 := by rw [hhs]; intro h hh; simp only [List.mem_cons, List.not_mem_nil, or_false] at hh; rcases hh with rfl | rfl | rfl <;> rfl
    have hsl3 : hs.length = 3 := by rw [hhs]; rfl
    have hs0 : hs[0]? = some (nm 1) := by rw [hhs, show nm 1 = [y0, y1, y2, y3, y4, y5, y6, y7, y8, y9, ya, yb, yc, yd, ye, yf] by rw [hkn1, htl]]; rfl
    have htk : l.take (hs.length * 16) = hs.flatMap hcells := by rw [hle, List.take_of_length_le (by rw [flat16 hs hs16]; exact Nat.le_refl _)]
    have hll : l.length = hs.length * 16 := by rw [hle, flat16 hs hs16]
    replace hH : Hp w0 Nobody [(b27, .cells l.toArray 26 (0, 0)), (b2, .cells (R1.top ts1.length).toArray 116 (0, 0)), (R1.sb, .cells R1.l.toArray 113 (0, 0)), (b, .cells (V1.top ts1.length).toArray 71 (0, 0)), (V1.sb, .cells V1.l.toArray 93 (0, 0)), (V1.fb, .map V1.es V1.c), (V1.nb, .map V1.es' V1.c')] w1 := by rw [hle, hhs]; exact hH
    replace hH := ((((hH.front (.there (.there (.there (.there (.there (.there .here))))))).front (.there (.there (.there (.there (.there (.there .here))))))).front (.there (.there (.there (.there (.there (.there .here))))))).front (.there (.there (.there (.there (.there (.there .here))))))).front (.there (.there (.there (.there .here))))
    refine then_n ?_
    refine c_seq ?_
    refine c_seq ?_
    refine reg_plain w0 (Nobody) ?_
    refine r_assign hS hH.kp0 rfl rfl ?_; clear hS; intro a hS
    refine Sq.nil ?_
    refine then_n ?_
    refine wp_block ?_
    refine c_loop (fun m a w => ∃ (i : Nat) (ii : Int) (V : VB) (R : RB) (ts : List Tm) (hs : List (List UInt8)) (ob cap : Nat) (l : List Value), m + i = acs.length ∧ ii = i ∧ VOk Try.prog 93 26 V ts ∧ b ≠ V.sb ∧ V.fb ≠ V.nb ∧ VS Nobody w0 b V ∧ ROk R ts ∧ b2 ≠ R.sb ∧ RS Nobody w0 b2 R ∧ hs.length = 3 + i ∧ (∀ h ∈ hs, h.length = 16) ∧ hs[0]? = some (nm 1) ∧ ts.length ≤ 2 + 2 * i ∧ w0.heap.size ≤ ob ∧ l.length = cap * 16 ∧ hs.length ≤ cap ∧ l.take (hs.length * 16) = hs.flatMap hcells ∧ St 95 (lv [(0, .slice q acs.length qc), (3, .pointer (some ⟨b, 0, none⟩)), (4, .pointer (some ⟨b2, 0, none⟩)), (5, .slice (some ⟨ob, 0, none⟩) hs.length cap), (6, .int .i64 ii)]) a ∧ Hp w0 Nobody [(ob, .cells l.toArray 26 (0, 0)), (b, .cells (V.top ts.length).toArray 71 (0, 0)), (V.sb, .cells V.l.toArray 93 (0, 0)), (V.fb, .map V.es V.c), (V.nb, .map V.es' V.c'), (b2, .cells (R.top ts.length).toArray 116 (0, 0)), (R.sb, .cells R.l.toArray 113 (0, 0))] w) (acs.length) ?_ ?_
    · exact ⟨0, _, V1, R1, ts1, hs, b27, 3, l, by omega, rfl, hok1, n011, n231, hVS1, hrok1, hr011, hRS1, by omega, hs16, hs0, by omega, hb27, by omega, by omega, htk, by rw [hsl3]; exact hS.live ⟨rfl, rfl, rfl, rfl, rfl, trivial⟩, hH⟩
    clear hS hH hs0 hs16 htk hsl3 hll; intro m a w hI; obtain ⟨i, ii, V, R, ts, hs, ob, cap, l, hmi, hii, hok, n01, n23, hVS, hrok, hr01, hRS, hsl3, hs16, hs0, htl, hob, hol, hcap, htk, hS, hH⟩ := hI
    refine c_seq ?_
    refine c_seq ?_
    refine reg_plain w0 (Nobody) ?_
    refine r_move hS hH.kp0 rfl rfl ?_; clear hS; intro a hS
    refine r_move hS hH.kp0 rfl rfl ?_; clear hS; intro a hS
    refine r_lenSl hS hH.kp0 rfl Fc.isSlice78 rfl ?_; clear hS; intro a hS
    refine r_lss hS hH.kp0 rfl rfl rfl ?_; clear hS; intro a hS
    refine Sq.nil ?_
    refine then_n ?_
    refine c_cond hS rfl (fun hc2 => ?_) (fun hc2 => ?_)
    · have hlt := of_decide_eq_true hc2
      obtain ⟨act, hact⟩ : ∃ x, acs[i]? = some x := ⟨_, List.getElem?_eq_getElem (by omega)⟩
      obtain ⟨hsz1, hl1, hbs1, ba, bo, hq, hcl0⟩ := hac i act hact
      have hcl : ∀ w, Ext w0 w → ∀ j u, act.cells[j]? = some u → w.cell? ⟨ba, bo + i * 5 + j, none⟩ = some u := fun w k j u hu => k.cell_some (hcl0 j u hu)
      subst hq
      refine wp_skip ?_
      refine then_n ?_
      refine c_seq ?_
      refine wp_block ?_
      refine c_seq ?_
      refine reg_plain w0 (Nobody) ?_
      refine r_buildA (parts := [(0, .const (.int .u8 9))]) hS hH.kp0 rfl rfl Fc.zc26 Fc.ar26 (by rfl) ?_; clear hS; intro a hS
      refine r_buildA (parts := [(0, .const (.int .u8 9))]) hS hH.kp0 rfl rfl Fc.zc26 Fc.ar26 (by rfl) ?_; clear hS; intro a hS
      refine r_alloc hS hH (by repeat (first | exact Sub.nil | refine Sub.cons ?_ ?_ | exact In.here | refine In.there ?_)) Fc.zc26 rfl ?_
      clear hS hH; intro a w b7 hb7 hwb7 hS hH
      refine r_alloc hS hH (by repeat (first | exact Sub.nil | refine Sub.cons ?_ ?_ | exact In.here | refine In.there ?_)) Fc.zc26 rfl ?_
      clear hS hH; intro a w b8 hb8 hwb8 hS hH
      refine r_store_row hS hH rfl rfl (by first | exact .here | exact .there .here | exact .there (.there .here) | exact .there (.there (.there .here)) | exact .there (.there (.there (.there .here))) | exact .there (.there (.there (.there (.there .here)))) | exact .there (.there (.there (.there (.there (.there .here))))) | exact .there (.there (.there (.there (.there (.there (.there .here)))))) | exact .there (.there (.there (.there (.there (.there (.there (.there .here))))))) | exact .there (.there (.there (.there (.there (.there (.there (.there (.there .here)))))))) | exact .there (.there (.there (.there (.there (.there (.there (.there (.there (.there .here))))))))) | exact .there (.there (.there (.there (.there (.there (.there (.there (.there (.there (.there .here)))))))))) | exact .there (.there (.there (.there (.there (.there (.there (.there (.there (.there (.there (.there .here))))))))))) | exact .there (.there (.there (.there (.there (.there (.there (.there (.there (.there (.there (.there (.there .here)))))))))))) | exact .there (.there (.there (.there (.there (.there (.there (.there (.there (.there (.there (.there (.there (.there .here))))))))))))) | exact .there (.there (.there (.there (.there (.there (.there (.there (.there (.there (.there (.there (.there (.there (.there .here))))))))))))))) (by repeat (first | exact Sub.nil | refine Sub.cons ?_ ?_ | exact In.here | refine In.there ?_)) Fc.sz26 (by first | exact hcells_one _ | exact of_decide_eq_true rfl) (by rfl) (by first | exact .inr (by assumption) | exact .inl (by first | assumption | rfl)) ?_
      clear hH; intro w hH
      refine r_store_row hS hH rfl rfl (by first | exact .here | exact .there .here | exact .there (.there .here) | exact .there (.there (.there .here)) | exact .there (.there (.there (.there .here))) | exact .there (.there (.there (.there (.there .here)))) | exact .there (.there (.there (.there (.there (.there .here))))) | exact .there (.there (.there (.there (.there (.there (.there .here)))))) | exact .there (.there (.there (.there (.there (.there (.there (.there .here))))))) | exact .there (.there (.there (.there (.there (.there (.there (.there (.there .here)))))))) | exact .there (.there (.there (.there (.there (.there (.there (.there (.there (.there .here))))))))) | exact .there (.there (.there (.there (.there (.there (.there (.there (.there (.there (.there .here)))))))))) | exact .there (.there (.there (.there (.there (.there (.there (.there (.there (.there (.there (.there .here))))))))))) | exact .there (.there (.there (.there (.there (.there (.there (.there (.there (.there (.there (.there (.there .here)))))))))))) | exact .there (.there (.there (.there (.there (.there (.there (.there (.there (.there (.there (.there (.there (.there .here))))))))))))) | exact .there (.there (.there (.there (.there (.there (.there (.there (.there (.there (.there (.there (.there (.there (.there .here))))))))))))))) (by repeat (first | exact Sub.nil | refine Sub.cons ?_ ?_ | exact In.here | refine In.there ?_)) Fc.sz26 (by first | exact hcells_one _ | exact of_decide_eq_true rfl) (by rfl) (by first | exact .inr (by assumption) | exact .inl (by first | assumption | rfl)) ?_
      clear hH; intro w hH
      refine Sq.nil ?_
      refine then_n ?_
      refine c_cut (fun a w => ∃ x : List UInt8, x.length = 16 ∧ St 95 (lv [(0, .slice (some ⟨ba, bo, none⟩) acs.length qc), (3, .pointer (some ⟨b, 0, none⟩)), (4, .pointer (some ⟨b2, 0, none⟩)), (5, .slice (some ⟨ob, 0, none⟩) hs.length cap), (6, .int .i64 ii), (7, .pointer (some ⟨b7, 0, none⟩)), (8, .pointer (some ⟨b8, 0, none⟩))]) a ∧ Hp w0 Nobody [(b8, .cells (hcells [9, 0, 0, 0, 0, 0, 0, 0, 0, 0, 0, 0, 0, 0, 0, 0]).toArray 26 (0, 0)), (b7, .cells (hcells x).toArray 26 (0, 0)), (ob, .cells l.toArray 26 (0, 0)), (b, .cells (V.top ts.length).toArray 71 (0, 0)), (V.sb, .cells V.l.toArray 93 (0, 0)), (V.fb, .map V.es V.c), (V.nb, .map V.es' V.c'), (b2, .cells (R.top ts.length).toArray 116 (0, 0)), (R.sb, .cells R.l.toArray 113 (0, 0))] w) ?_ ?_
      · refine c_seq ?_
        refine reg_plain w0 (Nobody) ?_
        refine r_move hS hH.kp0 rfl rfl ?_; clear hS; intro a hS
        refine r_move hS hH.kp0 rfl rfl ?_; clear hS; intro a hS
        refine r_indexAddrS (j := i) hS hH.kp0 rfl rfl Fc.slb78 hii (by omega) rfl ?_; clear hS; intro a hS
        refine r_fieldAddr hS hH.kp0 rfl Fc.fo66_1 rfl ?_; clear hS; intro a hS
        refine r_load_cell (v := .int .i64 act.a) hS hH.kp0 rfl (by have h := (hcl w hH.mod) 1 _ rfl; exact h) Fc.sc3 rfl ?_; clear hS; intro a hS
        refine r_geq hS hH.kp0 rfl rfl rfl ?_; clear hS; intro a hS
        refine Sq.nil ?_
        refine then_n ?_
        refine c_cond hS rfl (fun hc3 => ?_) (fun hc3 => ?_)
        · have hge3 := of_decide_eq_true hc3
          refine reg_plain w0 (Nobody) ?_
          refine r_move hS hH.kp0 rfl rfl ?_; clear hS; intro a hS
          refine r_move hS hH.kp0 rfl rfl ?_; clear hS; intro a hS
          refine r_move hS hH.kp0 rfl rfl ?_; clear hS; intro a hS
          refine r_indexAddrS (j := i) hS hH.kp0 rfl rfl Fc.slb78 hii (by omega) rfl ?_; clear hS; intro a hS
          refine r_fieldAddr hS hH.kp0 rfl Fc.fo66_1 rfl ?_; clear hS; intro a hS
          refine r_load_cell (v := .int .i64 act.a) hS hH.kp0 rfl (by have h := (hcl w hH.mod) 1 _ rfl; exact h) Fc.sc3 rfl ?_; clear hS; intro a hS
          refine r_move hS hH.kp0 rfl rfl ?_; clear hS; intro a hS
          refine r_lenSl hS hH.kp0 rfl Fc.isSlice32 rfl ?_; clear hS; intro a hS
          obtain ⟨rr, hrr, hre⟩ := rem_idx act.a hs.length (by omega) (by omega)
          obtain ⟨gg, hgg⟩ : ∃ gg, hs[rr]? = some gg := ⟨_, List.getElem?_eq_getElem hrr⟩
          have hgg16 := hs16 gg (List.mem_of_getElem? hgg)
          have hrow := rd_row hs16 htk hgg
          refine r_remN rr hS hH.kp0 rfl rfl (by omega) hre rfl ?_; clear hS; intro a hS
          refine r_indexAddrS (j := rr) hS hH.kp0 rfl rfl Fc.slb32 rfl hrr rfl ?_; clear hS; intro a hS
          refine r_load_at (vs := hcells gg) hS hH (by repeat (first | exact Sub.nil | refine Sub.cons ?_ ?_ | exact In.here | refine In.there ?_)) rfl (by repeat (first | exact In.here | refine In.there ?_)) Fc.ag26 (by rw [Nat.zero_add]; exact hrow.2) (by rw [Nat.zero_add]; exact hrow.1) rfl ?_; clear hS; intro a hS
          refine r_store_h gg hgg16 hS hH rfl rfl (by first | exact .here | exact .there .here | exact .there (.there .here) | exact .there (.there (.there .here)) | exact .there (.there (.there (.there .here))) | exact .there (.there (.there (.there (.there .here)))) | exact .there (.there (.there (.there (.there (.there .here))))) | exact .there (.there (.there (.there (.there (.there (.there .here)))))) | exact .there (.there (.there (.there (.there (.there (.there (.there .here))))))) | exact .there (.there (.there (.there (.there (.there (.there (.there (.there .here)))))))) | exact .there (.there (.there (.there (.there (.there (.there (.there (.there (.there .here))))))))) | exact .there (.there (.there (.there (.there (.there (.there (.there (.there (.there (.there .here)))))))))) | exact .there (.there (.there (.there (.there (.there (.there (.there (.there (.there (.there (.there .here))))))))))) | exact .there (.there (.there (.there (.there (.there (.there (.there (.there (.there (.there (.there (.there .here)))))))))))) | exact .there (.there (.there (.there (.there (.there (.there (.there (.there (.there (.there (.there (.there (.there .here))))))))))))) | exact .there (.there (.there (.there (.there (.there (.there (.there (.there (.there (.there (.there (.there (.there (.there .here))))))))))))))) (by repeat (first | exact Sub.nil | refine Sub.cons ?_ ?_ | exact In.here | refine In.there ?_)) (by first | rfl | (rw [hcells_len]; rfl) | (rw [hcells_len]; assumption)) Fc.sz26 (by first | exact .inr (by assumption) | exact .inl (by assumption)) ?_
          clear hH; intro w hH
          refine Sq.nil ?_
          refine then_n ?_
          first | exact ⟨gg, hgg16, hS.live ⟨rfl, rfl, rfl, rfl, rfl, rfl, rfl, trivial⟩, hH⟩ | exact ⟨[9, 0, 0, 0, 0, 0, 0, 0, 0, 0, 0, 0, 0, 0, 0, 0], rfl, hS.live ⟨rfl, rfl, rfl, rfl, rfl, rfl, rfl, trivial⟩, hH⟩
        · refine wp_skip ?_
          refine then_n ?_
          first | exact ⟨gg, hgg16, hS.live ⟨rfl, rfl, rfl, rfl, rfl, rfl, rfl, trivial⟩, hH⟩ | exact ⟨[9, 0, 0, 0, 0, 0, 0, 0, 0, 0, 0, 0, 0, 0, 0, 0], rfl, hS.live ⟨rfl, rfl, rfl, rfl, rfl, rfl, rfl, trivial⟩, hH⟩
      clear hS hH; intro a w hJ; obtain ⟨x, hx16, hS, hH⟩ := hJ
      refine c_cut (fun a w => ∃ y : List UInt8, y.length = 16 ∧ St 95 (lv [(0, .slice (some ⟨ba, bo, none⟩) acs.length qc), (3, .pointer (some ⟨b, 0, none⟩)), (4, .pointer (some ⟨b2, 0, none⟩)), (5, .slice (some ⟨ob, 0, none⟩) hs.length cap), (6, .int .i64 ii), (7, .pointer (some ⟨b7, 0, none⟩)), (8, .pointer (some ⟨b8, 0, none⟩))]) a ∧ Hp w0 Nobody [(b8, .cells (hcells y).toArray 26 (0, 0)), (b7, .cells (hcells x).toArray 26 (0, 0)), (ob, .cells l.toArray 26 (0, 0)), (b, .cells (V.top ts.length).toArray 71 (0, 0)), (V.sb, .cells V.l.toArray 93 (0, 0)), (V.fb, .map V.es V.c), (V.nb, .map V.es' V.c'), (b2, .cells (R.top ts.length).toArray 116 (0, 0)), (R.sb, .cells R.l.toArray 113 (0, 0))] w) ?_ ?_
      · refine c_seq ?_
        refine reg_plain w0 (Nobody) ?_
        refine r_move hS hH.kp0 rfl rfl ?_; clear hS; intro a hS
        refine r_move hS hH.kp0 rfl rfl ?_; clear hS; intro a hS
        refine r_indexAddrS (j := i) hS hH.kp0 rfl rfl Fc.slb78 hii (by omega) rfl ?_; clear hS; intro a hS
        refine r_fieldAddr hS hH.kp0 rfl Fc.fo66_2 rfl ?_; clear hS; intro a hS
        refine r_load_cell (v := .int .i64 act.b) hS hH.kp0 rfl (by have h := (hcl w hH.mod) 2 _ rfl; exact h) Fc.sc3 rfl ?_; clear hS; intro a hS
        refine r_geq hS hH.kp0 rfl rfl rfl ?_; clear hS; intro a hS
        refine Sq.nil ?_
        refine then_n ?_
        refine c_cond hS rfl (fun hc4 => ?_) (fun hc4 => ?_)
        · have hge4 := of_decide_eq_true hc4
          refine reg_plain w0 (Nobody) ?_
          refine r_move hS hH.kp0 rfl rfl ?_; clear hS; intro a hS
          refine r_move hS hH.kp0 rfl rfl ?_; clear hS; intro a hS
          refine r_move hS hH.kp0 rfl rfl ?_; clear hS; intro a hS
          refine r_indexAddrS (j := i) hS hH.kp0 rfl rfl Fc.slb78 hii (by omega) rfl ?_; clear hS; intro a hS
          refine r_fieldAddr hS hH.kp0 rfl Fc.fo66_2 rfl ?_; clear hS; intro a hS
          refine r_load_cell (v := .int .i64 act.b) hS hH.kp0 rfl (by have h := (hcl w hH.mod) 2 _ rfl; exact h) Fc.sc3 rfl ?_; clear hS; intro a hS
          refine r_move hS hH.kp0 rfl rfl ?_; clear hS; intro a hS
          refine r_lenSl hS hH.kp0 rfl Fc.isSlice32 rfl ?_; clear hS; intro a hS
          obtain ⟨rr, hrr, hre⟩ := rem_idx act.b hs.length (by omega) (by omega)
          obtain ⟨gg, hgg⟩ : ∃ gg, hs[rr]? = some gg := ⟨_, List.getElem?_eq_getElem hrr⟩
          have hgg16 := hs16 gg (List.mem_of_getElem? hgg)
          have hrow := rd_row hs16 htk hgg
          refine r_remN rr hS hH.kp0 rfl rfl (by omega) hre rfl ?_; clear hS; intro a hS
          refine r_indexAddrS (j := rr) hS hH.kp0 rfl rfl Fc.slb32 rfl hrr rfl ?_; clear hS; intro a hS
          refine r_load_at (vs := hcells gg) hS hH (by repeat (first | exact Sub.nil | refine Sub.cons ?_ ?_ | exact In.here | refine In.there ?_)) rfl (by repeat (first | exact In.here | refine In.there ?_)) Fc.ag26 (by rw [Nat.zero_add]; exact hrow.2) (by rw [Nat.zero_add]; exact hrow.1) rfl ?_; clear hS; intro a hS
          refine r_store_h gg hgg16 hS hH rfl rfl (by first | exact .here | exact .there .here | exact .there (.there .here) | exact .there (.there (.there .here)) | exact .there (.there (.there (.there .here))) | exact .there (.there (.there (.there (.there .here)))) | exact .there (.there (.there (.there (.there (.there .here))))) | exact .there (.there (.there (.there (.there (.there (.there .here)))))) | exact .there (.there (.there (.there (.there (.there (.there (.there .here))))))) | exact .there (.there (.there (.there (.there (.there (.there (.there (.there .here)))))))) | exact .there (.there (.there (.there (.there (.there (.there (.there (.there (.there .here))))))))) | exact .there (.there (.there (.there (.there (.there (.there (.there (.there (.there (.there .here)))))))))) | exact .there (.there (.there (.there (.there (.there (.there (.there (.there (.there (.there (.there .here))))))))))) | exact .there (.there (.there (.there (.there (.there (.there (.there (.there (.there (.there (.there (.there .here)))))))))))) | exact .there (.there (.there (.there (.there (.there (.there (.there (.there (.there (.there (.there (.there (.there .here))))))))))))) | exact .there (.there (.there (.there (.there (.there (.there (.there (.there (.there (.there (.there (.there (.there (.there .here))))))))))))))) (by repeat (first | exact Sub.nil | refine Sub.cons ?_ ?_ | exact In.here | refine In.there ?_)) (by first | rfl | (rw [hcells_len]; rfl) | (rw [hcells_len]; assumption)) Fc.sz26 (by first | exact .inr (by assumption) | exact .inl (by assumption)) ?_
          clear hH; intro w hH
          refine Sq.nil ?_
          refine then_n ?_
          first | exact ⟨gg, hgg16, hS.live ⟨rfl, rfl, rfl, rfl, rfl, rfl, rfl, trivial⟩, hH⟩ | exact ⟨[9, 0, 0, 0, 0, 0, 0, 0, 0, 0, 0, 0, 0, 0, 0, 0], rfl, hS.live ⟨rfl, rfl, rfl, rfl, rfl, rfl, rfl, trivial⟩, hH⟩
        · refine wp_skip ?_
          refine then_n ?_
          first | exact ⟨gg, hgg16, hS.live ⟨rfl, rfl, rfl, rfl, rfl, rfl, rfl, trivial⟩, hH⟩ | exact ⟨[9, 0, 0, 0, 0, 0, 0, 0, 0, 0, 0, 0, 0, 0, 0, 0], rfl, hS.live ⟨rfl, rfl, rfl, rfl, rfl, rfl, rfl, trivial⟩, hH⟩
      clear hS hH; intro a w hJ; obtain ⟨y, hy16, hS, hH⟩ := hJ
      refine c_seq ?_
      refine reg_tree [(true, 0, [3, 4, 5, 6, 7, 8]), (true, 1, [3, 4, 5, 6, 7, 8]), (true, 2, [3, 4, 5, 6, 7, 8]), (true, 3, [3, 4, 5, 6, 7, 8]), (true, 4, [3, 4, 5, 6, 7, 8]), (true, 5, [3, 4, 5, 6, 7, 8]), (true, 6, [3, 4, 5, 6, 7, 8]), (true, 7, [3, 4, 5, 6, 7, 8]), (false, 8, [3, 4, 5, 6, 7, 8]), (true, 9, [3, 4, 5, 6, 7, 8]), (true, 10, [3, 4, 5, 6, 7, 8]), (true, 11, [3, 4, 5, 6, 7, 8]), (false, 12, [3, 4, 5, 6, 7, 8]), (false, 13, [3, 4, 5, 6, 7, 8]), (true, 14, [3, 4, 5, 6, 7, 8])] (PT.ofPlan [(true, 0, [3, 4, 5, 6, 7, 8]), (true, 1, [3, 4, 5, 6, 7, 8]), (true, 2, [3, 4, 5, 6, 7, 8]), (true, 3, [3, 4, 5, 6, 7, 8]), (true, 4, [3, 4, 5, 6, 7, 8]), (true, 5, [3, 4, 5, 6, 7, 8]), (true, 6, [3, 4, 5, 6, 7, 8]), (true, 7, [3, 4, 5, 6, 7, 8])] (.fork (PT.ofPlan [(false, 8, [3, 4, 5, 6, 7, 8]), (true, 9, [3, 4, 5, 6, 7, 8]), (true, 10, [3, 4, 5, 6, 7, 8]), (true, 11, [3, 4, 5, 6, 7, 8]), (false, 12, [3, 4, 5, 6, 7, 8]), (false, 13, [3, 4, 5, 6, 7, 8]), (true, 14, [3, 4, 5, 6, 7, 8])] .nil) (PT.ofPlan [(false, 12, [3, 4, 5, 6, 7, 8]), (false, 8, [3, 4, 5, 6, 7, 8]), (true, 9, [3, 4, 5, 6, 7, 8]), (true, 10, [3, 4, 5, 6, 7, 8]), (true, 11, [3, 4, 5, 6, 7, 8]), (false, 13, [3, 4, 5, 6, 7, 8]), (true, 14, [3, 4, 5, 6, 7, 8])] .nil))) Fc.mixed (by kernel_rfl) (by kernel_rfl) (by kernel_rfl) (by kernel_rfl) (by kernel_rfl) (by kernel_rfl) (by repeat (first | with_reducible exact steady_body | with_reducible apply steady_block | with_reducible apply steady_then | exact steady_body)) hH ?_
      replace hH := hH.drew
      refine tr_seg ?_
      refine r_move hS trivial rfl rfl ?_; clear hS; intro a hS
      refine r_move hS trivial rfl rfl ?_; clear hS; intro a hS
      refine r_move hS trivial rfl rfl ?_; clear hS; intro a hS
      refine r_move hS trivial rfl rfl ?_; clear hS; intro a hS
      refine r_indexAddrS (j := i) hS trivial rfl rfl Fc.slb78 hii (by omega) rfl ?_; clear hS; intro a hS
      refine r_load_cellsS (l := act.cells) hS rfl Fc.ag66 rfl (fun w hw j u hu => hcl w hw.2 j u hu) rfl ?_; clear hS; intro a hS
      refine r_load_hS x hx16 hS rfl (by repeat (first | exact In.here | refine In.there ?_)) Fc.ag26 rfl ?_; clear hS; intro a hS
      refine r_load_hS y hy16 hS rfl (by repeat (first | exact In.here | refine In.there ?_)) Fc.ag26 rfl ?_; clear hS; intro a hS
      refine Sq.nil ?_
      refine then_n ?_
      refine tr_fork ?_ ?_
      · refine tr_seg ?_
        refine r_call (l := [.tmp 73, .tmp 74, .tmp 78, .tmp 79, .tmp 80]) hS rfl rfl Fc.fn41 rfl ?_
        refine Calls.mono (step_c b V b2 R ts (by omega) act.k act.a act.b act.s hsz1 act.v act.l hl1 x y hx16 hy16 _ (hH.vin hok n01 n23 (by repeat (first | exact In.here | refine In.there ?_)) (by repeat (first | exact In.here | refine In.there ?_)) (by repeat (first | exact In.here | refine In.there ?_)) (by repeat (first | exact In.here | refine In.there ?_))) (hH.rin (TV := 116) (TT := 113) hrok rfl hr01 (by repeat (first | exact In.here | refine In.there ?_)) (by repeat (first | exact In.here | refine In.there ?_))) (hbs1.f.go hH.mod (fun z hz => hz.elim (hVS z) (hRS z)))) ?_
        rintro e w1 ⟨h, V1, R1, ts1, rfl, hh16, hvi1, hri1, hF1, hF2, hM1, hln1, hln2⟩
        obtain ⟨t0, t1, t2, t3, t4, t5, t6, t7, t8, t9, ta, tb, tc, td, te, tf, rfl⟩ := len16 (h := h) hh16
        have hsq := hH.mod.size
        replace hH := hH.bothv hVS hRS hF1 hF2 hM1 hvi1 hri1 (by decide) (by decide) (by decide) (by decide) (by first | exact .six | exact .there .six | exact .there (.there .six) | exact .there (.there (.there .six)) | exact .there (.there (.there (.there .six))) | exact .there (.there (.there (.there (.there .six)))) | exact .there (.there (.there (.there (.there (.there .six))))) | exact .there (.there (.there (.there (.there (.there (.there .six)))))) | exact .there (.there (.there (.there (.there (.there (.there (.there .six))))))) | exact .there (.there (.there (.there (.there (.there (.there (.there (.there .six)))))))) | exact .there (.there (.there (.there (.there (.there (.there (.there (.there (.there .six))))))))) | exact .there (.there (.there (.there (.there (.there (.there (.there (.there (.there (.there .six)))))))))) | exact .there (.there (.there (.there (.there (.there (.there (.there (.there (.there (.there (.there .six))))))))))) | exact .there (.there (.there (.there (.there (.there (.there (.there (.there (.there (.there (.there (.there .six)))))))))))) | exact .there (.there (.there (.there (.there (.there (.there (.there (.there (.there (.there (.there (.there (.there .six))))))))))))) | exact .there (.there (.there (.there (.there (.there (.there (.there (.there (.there (.there (.there (.there (.there (.there .six)))))))))))))))
        have hVS1 : VS Nobody w0 b V1 := fun z hz => by rcases hF1 z hz with (h | h) | h; exact hVS z h; exact hRS z h; exact .inr (by omega)
        have hRS1 : RS Nobody w0 b2 R1 := fun z hz => by rcases hF2 z hz with (h | h) | h; exact hVS z h; exact hRS z h; exact .inr (by omega)
        refine ⟨_, rfl, hH.kp (by repeat (first | exact Sub.nil | refine Sub.cons ?_ ?_ | exact In.here | refine In.there ?_)), ?_⟩
        clear hS; intro a hS
        refine r_move hS trivial rfl rfl ?_; clear hS; intro a hS
        refine r_extract hS trivial rfl rfl rfl ?_; clear hS; intro a hS
        refine r_extract hS trivial rfl rfl rfl ?_; clear hS; intro a hS
        refine r_alloc hS hH (by repeat (first | exact Sub.nil | refine Sub.cons ?_ ?_ | exact In.here | refine In.there ?_)) Fc.zc26 rfl ?_
        clear hS hH; intro a w b9 hb9 hwb9 hS hH
        refine r_store_row hS hH rfl rfl (by first | exact .here | exact .there .here | exact .there (.there .here) | exact .there (.there (.there .here)) | exact .there (.there (.there (.there .here))) | exact .there (.there (.there (.there (.there .here)))) | exact .there (.there (.there (.there (.there (.there .here))))) | exact .there (.there (.there (.there (.there (.there (.there .here)))))) | exact .there (.there (.there (.there (.there (.there (.there (.there .here))))))) | exact .there (.there (.there (.there (.there (.there (.there (.there (.there .here)))))))) | exact .there (.there (.there (.there (.there (.there (.there (.there (.there (.there .here))))))))) | exact .there (.there (.there (.there (.there (.there (.there (.there (.there (.there (.there .here)))))))))) | exact .there (.there (.there (.there (.there (.there (.there (.there (.there (.there (.there (.there .here))))))))))) | exact .there (.there (.there (.there (.there (.there (.there (.there (.there (.there (.there (.there (.there .here)))))))))))) | exact .there (.there (.there (.there (.there (.there (.there (.there (.there (.there (.there (.there (.there (.there .here))))))))))))) | exact .there (.there (.there (.there (.there (.there (.there (.there (.there (.there (.there (.there (.there (.there (.there .here))))))))))))))) (by repeat (first | exact Sub.nil | refine Sub.cons ?_ ?_ | exact In.here | refine In.there ?_)) Fc.sz26 (by first | exact hcells_one _ | exact of_decide_eq_true rfl) (by rfl) (by first | exact .inr (by assumption) | exact .inl (by first | assumption | rfl)) ?_
        clear hH; intro w hH
        refine r_assign hS trivial rfl rfl ?_; clear hS; intro a hS
        refine Sq.nil ?_
        refine then_n ?_
        refine tr_nil ?_
        refine then_n ?_
        refine c_seq ?_
        refine c_seq ?_
        refine reg_plain w0 (Nobody) ?_
        refine r_move hS hH.kp0 rfl rfl ?_; clear hS; intro a hS
        refine r_not hS hH.kp0 rfl rfl ?_; clear hS; intro a hS
        refine Sq.nil ?_
        refine then_n ?_
        refine c_condF hS rfl rfl ?_
        refine wp_skip ?_
        refine then_n ?_
        refine reg_plain w0 (Nobody) ?_
        refine r_move hS hH.kp0 rfl rfl ?_; clear hS; intro a hS
        refine r_load_row hS hH (by repeat (first | exact Sub.nil | refine Sub.cons ?_ ?_ | exact In.here | refine In.there ?_)) rfl (by repeat (first | exact In.here | refine In.there ?_)) Fc.ag26 (by rfl) rfl ?_; clear hS; intro a hS
        refine r_buildSlice (parts := [(0, .tmp 87)]) hS hH (by repeat (first | exact Sub.nil | refine Sub.cons ?_ ?_ | exact In.here | refine In.there ?_)) rfl Fc.bsl32_1 (by rfl) rfl ?_
        clear hS hH; intro a w b88 hb88 hwb88 hS hH
        refine r_append_own hS hH rfl rfl (by first | exact .here | exact .there .here | exact .there (.there .here) | exact .there (.there (.there .here)) | exact .there (.there (.there (.there .here))) | exact .there (.there (.there (.there (.there .here)))) | exact .there (.there (.there (.there (.there (.there .here))))) | exact .there (.there (.there (.there (.there (.there (.there .here)))))) | exact .there (.there (.there (.there (.there (.there (.there (.there .here))))))) | exact .there (.there (.there (.there (.there (.there (.there (.there (.there .here)))))))) | exact .there (.there (.there (.there (.there (.there (.there (.there (.there (.there .here))))))))) | exact .there (.there (.there (.there (.there (.there (.there (.there (.there (.there (.there .here)))))))))) | exact .there (.there (.there (.there (.there (.there (.there (.there (.there (.there (.there (.there .here))))))))))) | exact .there (.there (.there (.there (.there (.there (.there (.there (.there (.there (.there (.there (.there .here)))))))))))) | exact .there (.there (.there (.there (.there (.there (.there (.there (.there (.there (.there (.there (.there (.there .here))))))))))))) | exact .there (.there (.there (.there (.there (.there (.there (.there (.there (.there (.there (.there (.there (.there (.there .here))))))))))))))) (by repeat (first | exact Sub.nil | refine Sub.cons ?_ ?_ | exact In.here | refine In.there ?_)) Fc.elH Fc.niH hol hcap (Src.hnd (h := [t0, t1, t2, t3, t4, t5, t6, t7, t8, t9, ta, tb, tc, td, te, tf]) (hH.get .here) rfl) (by omega) (.inr hob) rfl ?_
        clear hS hH; intro a w ob' cap' l2 hob' hl2 hc2 htk2 _ hS hH
        refine r_assign hS hH.kp0 rfl rfl ?_; clear hS; intro a hS
        refine Sq.nil ?_
        refine blk_n ?_
        refine then_n ?_
        refine reg_plain w0 (Nobody) ?_
        refine r_move hS hH.kp0 rfl rfl ?_; clear hS; intro a hS
        first | refine r_add hS hH.kp0 rfl rfl rfl (by omega) ?_ | refine r_addw hS hH.kp0 rfl rfl rfl ?_
        clear hS; intro a hS
        refine r_assign hS hH.kp0 rfl rfl ?_; clear hS; intro a hS
        refine Sq.nil ?_
        refine then_n ?_
        refine ⟨m - 1, by omega, i + 1, _, V1, R1, ts1, hs ++ [[t0, t1, t2, t3, t4, t5, t6, t7, t8, t9, ta, tb, tc, td, te, tf]], ob', cap', l2, by omega, ?_, hvi1.ok, hvi1.n01, hvi1.n23, hVS1, hri1.ok, hri1.n01, hRS1, ?_, ?_, ?_, by omega, ?_, hl2, ?_, ?_, by rw [show (hs ++ [[t0, t1, t2, t3, t4, t5, t6, t7, t8, t9, ta, tb, tc, td, te, tf]]).length = hs.length + 1 by simp]; exact hS.live ⟨rfl, rfl, rfl, rfl, rfl, trivial⟩, hH.drop [1, 2, 3, 4]⟩
        · omega
        · simp; omega
        · intro h hm; rcases List.mem_append.1 hm with hm | hm; exact hs16 h hm; rw [List.mem_singleton.1 hm]; rfl
        · rw [List.getElem?_append_left (by omega)]; exact hs0
        · rcases hob' with h | h; exact h.elim; exact h
        · simpa using hc2
        · rw [List.length_append, List.length_singleton, htk2, htk]; simp
      · refine tr_seg ?_
        refine r_alloc hS hH (by repeat (first | exact Sub.nil | refine Sub.cons ?_ ?_ | exact In.here | refine In.there ?_)) Fc.zc26 rfl ?_
        clear hS hH; intro a w b9 hb9 hwb9 hS hH
        refine r_call (l := [.tmp 73, .tmp 74, .tmp 78, .tmp 79, .tmp 80]) hS rfl rfl Fc.fn41 rfl ?_
        refine Calls.mono (step_c b V b2 R ts (by omega) act.k act.a act.b act.s hsz1 act.v act.l hl1 x y hx16 hy16 _ (hH.vin hok n01 n23 (by repeat (first | exact In.here | refine In.there ?_)) (by repeat (first | exact In.here | refine In.there ?_)) (by repeat (first | exact In.here | refine In.there ?_)) (by repeat (first | exact In.here | refine In.there ?_))) (hH.rin (TV := 116) (TT := 113) hrok rfl hr01 (by repeat (first | exact In.here | refine In.there ?_)) (by repeat (first | exact In.here | refine In.there ?_))) (hbs1.f.go hH.mod (fun z hz => hz.elim (hVS z) (hRS z)))) ?_
        rintro e w1 ⟨h, V1, R1, ts1, rfl, hh16, hvi1, hri1, hF1, hF2, hM1, hln1, hln2⟩
        obtain ⟨t0, t1, t2, t3, t4, t5, t6, t7, t8, t9, ta, tb, tc, td, te, tf, rfl⟩ := len16 (h := h) hh16
        have hsq := hH.mod.size
        replace hH := hH.bothv hVS hRS hF1 hF2 hM1 hvi1 hri1 (by decide) (by decide) (by decide) (by decide) (by first | exact .six | exact .there .six | exact .there (.there .six) | exact .there (.there (.there .six)) | exact .there (.there (.there (.there .six))) | exact .there (.there (.there (.there (.there .six)))) | exact .there (.there (.there (.there (.there (.there .six))))) | exact .there (.there (.there (.there (.there (.there (.there .six)))))) | exact .there (.there (.there (.there (.there (.there (.there (.there .six))))))) | exact .there (.there (.there (.there (.there (.there (.there (.there (.there .six)))))))) | exact .there (.there (.there (.there (.there (.there (.there (.there (.there (.there .six))))))))) | exact .there (.there (.there (.there (.there (.there (.there (.there (.there (.there (.there .six)))))))))) | exact .there (.there (.there (.there (.there (.there (.there (.there (.there (.there (.there (.there .six))))))))))) | exact .there (.there (.there (.there (.there (.there (.there (.there (.there (.there (.there (.there (.there .six)))))))))))) | exact .there (.there (.there (.there (.there (.there (.there (.there (.there (.there (.there (.there (.there (.there .six))))))))))))) | exact .there (.there (.there (.there (.there (.there (.there (.there (.there (.there (.there (.there (.there (.there (.there .six)))))))))))))))
        have hVS1 : VS Nobody w0 b V1 := fun z hz => by rcases hF1 z hz with (h | h) | h; exact hVS z h; exact hRS z h; exact .inr (by omega)
        have hRS1 : RS Nobody w0 b2 R1 := fun z hz => by rcases hF2 z hz with (h | h) | h; exact hVS z h; exact hRS z h; exact .inr (by omega)
        refine ⟨_, rfl, hH.kp (by repeat (first | exact Sub.nil | refine Sub.cons ?_ ?_ | exact In.here | refine In.there ?_)), ?_⟩
        clear hS; intro a hS
        refine r_move hS trivial rfl rfl ?_; clear hS; intro a hS
        refine r_extract hS trivial rfl rfl rfl ?_; clear hS; intro a hS
        refine r_extract hS trivial rfl rfl rfl ?_; clear hS; intro a hS
        refine r_store_row hS hH rfl rfl (by first | exact .here | exact .there .here | exact .there (.there .here) | exact .there (.there (.there .here)) | exact .there (.there (.there (.there .here))) | exact .there (.there (.there (.there (.there .here)))) | exact .there (.there (.there (.there (.there (.there .here))))) | exact .there (.there (.there (.there (.there (.there (.there .here)))))) | exact .there (.there (.there (.there (.there (.there (.there (.there .here))))))) | exact .there (.there (.there (.there (.there (.there (.there (.there (.there .here)))))))) | exact .there (.there (.there (.there (.there (.there (.there (.there (.there (.there .here))))))))) | exact .there (.there (.there (.there (.there (.there (.there (.there (.there (.there (.there .here)))))))))) | exact .there (.there (.there (.there (.there (.there (.there (.there (.there (.there (.there (.there .here))))))))))) | exact .there (.there (.there (.there (.there (.there (.there (.there (.there (.there (.there (.there (.there .here)))))))))))) | exact .there (.there (.there (.there (.there (.there (.there (.there (.there (.there (.there (.there (.there (.there .here))))))))))))) | exact .there (.there (.there (.there (.there (.there (.there (.there (.there (.there (.there (.there (.there (.there (.there .here))))))))))))))) (by repeat (first | exact Sub.nil | refine Sub.cons ?_ ?_ | exact In.here | refine In.there ?_)) Fc.sz26 (by first | exact hcells_one _ | exact of_decide_eq_true rfl) (by rfl) (by first | exact .inr (by assumption) | exact .inl (by first | assumption | rfl)) ?_
        clear hH; intro w hH
        refine r_assign hS trivial rfl rfl ?_; clear hS; intro a hS
        refine Sq.nil ?_
        refine then_n ?_
        refine tr_nil ?_
        refine then_n ?_
        refine c_seq ?_
        refine c_seq ?_
        refine reg_plain w0 (Nobody) ?_
        refine r_move hS hH.kp0 rfl rfl ?_; clear hS; intro a hS
        refine r_not hS hH.kp0 rfl rfl ?_; clear hS; intro a hS
        refine Sq.nil ?_
        refine then_n ?_
        refine c_condF hS rfl rfl ?_
        refine wp_skip ?_
        refine then_n ?_
        refine reg_plain w0 (Nobody) ?_
        refine r_move hS hH.kp0 rfl rfl ?_; clear hS; intro a hS
        refine r_load_row hS hH (by repeat (first | exact Sub.nil | refine Sub.cons ?_ ?_ | exact In.here | refine In.there ?_)) rfl (by repeat (first | exact In.here | refine In.there ?_)) Fc.ag26 (by rfl) rfl ?_; clear hS; intro a hS
        refine r_buildSlice (parts := [(0, .tmp 87)]) hS hH (by repeat (first | exact Sub.nil | refine Sub.cons ?_ ?_ | exact In.here | refine In.there ?_)) rfl Fc.bsl32_1 (by rfl) rfl ?_
        clear hS hH; intro a w b88 hb88 hwb88 hS hH
        refine r_append_own hS hH rfl rfl (by first | exact .here | exact .there .here | exact .there (.there .here) | exact .there (.there (.there .here)) | exact .there (.there (.there (.there .here))) | exact .there (.there (.there (.there (.there .here)))) | exact .there (.there (.there (.there (.there (.there .here))))) | exact .there (.there (.there (.there (.there (.there (.there .here)))))) | exact .there (.there (.there (.there (.there (.there (.there (.there .here))))))) | exact .there (.there (.there (.there (.there (.there (.there (.there (.there .here)))))))) | exact .there (.there (.there (.there (.there (.there (.there (.there (.there (.there .here))))))))) | exact .there (.there (.there (.there (.there (.there (.there (.there (.there (.there (.there .here)))))))))) | exact .there (.there (.there (.there (.there (.there (.there (.there (.there (.there (.there (.there .here))))))))))) | exact .there (.there (.there (.there (.there (.there (.there (.there (.there (.there (.there (.there (.there .here)))))))))))) | exact .there (.there (.there (.there (.there (.there (.there (.there (.there (.there (.there (.there (.there (.there .here))))))))))))) | exact .there (.there (.there (.there (.there (.there (.there (.there (.there (.there (.there (.there (.there (.there (.there .here))))))))))))))) (by repeat (first | exact Sub.nil | refine Sub.cons ?_ ?_ | exact In.here | refine In.there ?_)) Fc.elH Fc.niH hol hcap (Src.hnd (h := [t0, t1, t2, t3, t4, t5, t6, t7, t8, t9, ta, tb, tc, td, te, tf]) (hH.get .here) rfl) (by omega) (.inr hob) rfl ?_
        clear hS hH; intro a w ob' cap' l2 hob' hl2 hc2 htk2 _ hS hH
        refine r_assign hS hH.kp0 rfl rfl ?_; clear hS; intro a hS
        refine Sq.nil ?_
        refine blk_n ?_
        refine then_n ?_
        refine reg_plain w0 (Nobody) ?_
        refine r_move hS hH.kp0 rfl rfl ?_; clear hS; intro a hS
        first | refine r_add hS hH.kp0 rfl rfl rfl (by omega) ?_ | refine r_addw hS hH.kp0 rfl rfl rfl ?_
        clear hS; intro a hS
        refine r_assign hS hH.kp0 rfl rfl ?_; clear hS; intro a hS
        refine Sq.nil ?_
        refine then_n ?_
        refine ⟨m - 1, by omega, i + 1, _, V1, R1, ts1, hs ++ [[t0, t1, t2, t3, t4, t5, t6, t7, t8, t9, ta, tb, tc, td, te, tf]], ob', cap', l2, by omega, ?_, hvi1.ok, hvi1.n01, hvi1.n23, hVS1, hri1.ok, hri1.n01, hRS1, ?_, ?_, ?_, by omega, ?_, hl2, ?_, ?_, by rw [show (hs ++ [[t0, t1, t2, t3, t4, t5, t6, t7, t8, t9, ta, tb, tc, td, te, tf]]).length = hs.length + 1 by simp]; exact hS.live ⟨rfl, rfl, rfl, rfl, rfl, trivial⟩, hH.drop [1, 2, 3, 4]⟩
        · omega
        · simp; omega
        · intro h hm; rcases List.mem_append.1 hm with hm | hm; exact hs16 h hm; rw [List.mem_singleton.1 hm]; rfl
        · rw [List.getElem?_append_left (by omega)]; exact hs0
        · rcases hob' with h | h; exact h.elim; exact h
        · simpa using hc2
        · rw [List.length_append, List.length_singleton, htk2, htk]; simp
    · have hge2 := of_decide_eq_false hc2
      refine wp_exit ?_
      refine then_e ?_
      refine then_e ?_
      refine blk_hit ?_
      refine then_n ?_
      refine c_seq ?_
      refine reg_draw [(true, 0, []), (true, 1, []), (true, 2, []), (false, 3, []), (true, 4, []), (true, 5, [])] Fc.mixed (by kernel_rfl) (by kernel_rfl) (by kernel_rfl) (by kernel_rfl) (by kernel_rfl) (by repeat (first | with_reducible exact steady_body | with_reducible apply steady_block | with_reducible apply steady_then | exact steady_body)) hH ?_
      replace hH := hH.drew
      refine r_move hS trivial rfl rfl ?_; clear hS; intro a hS
      refine r_indexAddrS (j := 0) hS trivial rfl rfl Fc.slb32 rfl (by omega) rfl ?_; clear hS; intro a hS
      have hrow := rd_row hs16 htk hs0
      refine r_load_atS (vs := hcells (nm 1)) hS rfl (by repeat (first | exact In.here | refine In.there ?_)) Fc.ag26 (by rw [Nat.zero_add]; exact hrow.2) (by rw [Nat.zero_add]; exact hrow.1) rfl ?_; clear hS; intro a hS
      refine r_call (l := [.const (.int .i64 1)]) hS rfl rfl Fc.fn18 rfl ?_
      refine Calls.mono (rname_c 1 (by omega) _) ?_
      rintro e w1 ⟨h, rfl, hqn, hE⟩
      obtain ⟨n0, n1, n2, n3, n4, n5, n6, n7, n8, n9, na, nb, nc, nd, ne, nf, rfl⟩ := len16 (h := h) (by rw [hqn]; rfl)
      replace hH := hH.ext hE
      refine ⟨_, rfl, hH.kp (by repeat (first | exact Sub.nil | refine Sub.cons ?_ ?_ | exact In.here | refine In.there ?_)), ?_⟩
      clear hS; intro a hS
      refine r_arrEql (h := nm 1) (g := [n0, n1, n2, n3, n4, n5, n6, n7, n8, n9, na, nb, nc, nd, ne, nf]) Fc.arrH hS trivial rfl rfl rfl rfl rfl ?_; clear hS; intro a hS
      refine r_assign hS trivial rfl rfl ?_; clear hS; intro a hS
      refine Sq.nil ?_
      refine then_n ?_
      refine wp_ret ?_
      refine leave (.inl rfl) hS rfl (Res.tmp rfl Res.nil) ⟨?_, hH.mod⟩
      show Ending.returned (.bool _) = _
      rw [DT hqn.symm]

end Go.Proofs.Ytcjmehononbadaa
