/- SecretsMake: any steps make the document's terms, or are refused. Part Ref2: walks and lemmas of the proof. -/
import Derived.Test.YtcjmehononbadaaRef1
import Derived.Test.YtcjmehononbadaaSymDet
namespace Go.Proofs.Ytcjmehononbadaa
open Go.Sym

theorem Fc.fn59 : isFn Try.prog 59 = true := by kernel_rfl
theorem Fc.fn72 : isFn Try.prog 72 = true := by kernel_rfl
set_option maxRecDepth 100000 in
set_option maxHeartbeats 1000000 in
theorem rOf_c (b : Nat) (V : RB) (ts : List Tm) (h : List UInt8) (hh : h.length = 16) (hm : ts.length ≤ 1000000000) (w0 : World) (hri : RI w0 b V ts) :
    Calls Try.prog 72 #[.pointer (some ⟨b, 0, none⟩), hnd h] w0 fun e w' => ∃ x : Int, e = .returned (.int .i64 x) ∧ ((∃ i : Nat, i < ts.length ∧ h = nm i ∧ x = i) ∨ ((∀ i : Nat, i < ts.length → h ≠ nm i) ∧ x = -1)) ∧ Ext w0 w' := by
  refine enter Try.func72 rfl rfl rfl ?_
  intro a hS
  have hH := Hp.start w0 (Nobody)
  obtain ⟨x0, x1, x2, x3, x4, x5, x6, x7, x8, x9, xa, xb, xc, xd, xe, xf, rfl⟩ := len16 hh
  replace hH := hH.knowR hri (by intro p hp; simp at hp)
  refine c_seq ?_
  refine reg_plain w0 (Nobody) ?_
  refine r_box hS hH (by repeat (first | exact Sub.nil | refine Sub.cons ?_ ?_ | exact In.here | refine In.there ?_)) rfl rfl rfl ?_
  clear hS hH; intro a w b3 hb3 hwb3 hS hH
  refine r_assign hS hH.kp0 rfl rfl ?_; clear hS; intro a hS
  refine Sq.nil ?_
  refine then_n ?_
  refine c_seq ?_
  refine c_seq ?_
  refine reg_plain w0 (Nobody) ?_
  refine r_assign hS hH.kp0 rfl rfl ?_; clear hS; intro a hS
  refine Sq.nil ?_
  refine then_n ?_
  refine wp_block ?_
  refine c_loop (fun m a w => ∃ (i : Nat) (ii : Int), m + i = ts.length ∧ ii = i ∧ (∀ q, q < i → [x0, x1, x2, x3, x4, x5, x6, x7, x8, x9, xa, xb, xc, xd, xe, xf] ≠ nm q) ∧ St 20 (lv [(0, .pointer (some ⟨b, 0, none⟩)), (3, .pointer (some ⟨b3, 0, none⟩)), (4, .int .i64 0), (5, .int .i64 ii)]) a ∧ Hp w0 Nobody [(b3, .cells (hcells [x0, x1, x2, x3, x4, x5, x6, x7, x8, x9, xa, xb, xc, xd, xe, xf]).toArray 25 (0, 0)), (b, .cells (V.top ts.length).toArray 116 (0, 0)), (V.sb, .cells V.l.toArray 113 (0, 0))] w) (ts.length) ?_ ?_
  · exact ⟨0, _, by omega, rfl, fun q h => by omega, hS.live ⟨rfl, rfl, rfl, rfl, trivial⟩, hH⟩
  clear hS hH; intro m a w hI; obtain ⟨i, ii, hmi, hii, hno, hS, hH⟩ := hI
  subst hii
  refine c_seq ?_
  refine c_seq ?_
  refine reg_plain w0 (Nobody) ?_
  refine r_move hS hH.kp0 rfl rfl ?_; clear hS; intro a hS
  refine r_move hS hH.kp0 rfl rfl ?_; clear hS; intro a hS
  refine r_nilCheck hS hH.kp0 rfl rfl ?_; clear hS; intro a hS
  refine r_fieldAddr hS hH.kp0 rfl Fc.fo116_0 rfl ?_; clear hS; intro a hS
  refine r_load_sc hS hH (by repeat (first | exact Sub.nil | refine Sub.cons ?_ ?_ | exact In.here | refine In.there ?_)) rfl (by repeat (first | exact In.here | refine In.there ?_)) Fc.sc114 (by rfl) rfl ?_; clear hS; intro a hS
  refine r_lenSl hS hH.kp0 rfl Fc.isSlice114 rfl ?_; clear hS; intro a hS
  refine r_lss hS hH.kp0 rfl rfl rfl ?_; clear hS; intro a hS
  refine Sq.nil ?_
  refine then_n ?_
  refine c_cond hS rfl (fun hc0 => ?_) (fun hc0 => ?_)
  · have hlt := of_decide_eq_true hc0
    refine wp_skip ?_
    refine then_n ?_
    refine c_seq ?_
    refine wp_block ?_
    refine c_seq ?_
    refine reg_draw [(true, 0, []), (true, 2, []), (false, 1, []), (true, 3, [])] Fc.mixed (by kernel_rfl) (by kernel_rfl) (by kernel_rfl) (by kernel_rfl) (by kernel_rfl) (by repeat (first | with_reducible exact steady_body | with_reducible apply steady_block | with_reducible apply steady_then | exact steady_body)) hH ?_
    replace hH := hH.drew
    refine r_move hS trivial rfl rfl ?_; clear hS; intro a hS
    refine r_load_rowS hS rfl (by repeat (first | exact In.here | refine In.there ?_)) Fc.ag25 (by rfl) rfl ?_; clear hS; intro a hS
    refine r_call (l := [.tmp 15]) hS rfl rfl Fc.fn18 rfl ?_
    refine Calls.mono (rname_c i (by omega) _) ?_
    rintro e w1 ⟨h, rfl, hqy, hE⟩
    obtain ⟨y0, y1, y2, y3, y4, y5, y6, y7, y8, y9, ya, yb, yc, yd, ye, yf, rfl⟩ := len16 (h := h) (by rw [hqy]; rfl)
    replace hH := hH.ext hE
    refine ⟨_, rfl, hH.kp (by repeat (first | exact Sub.nil | refine Sub.cons ?_ ?_ | exact In.here | refine In.there ?_)), ?_⟩
    clear hS; intro a hS
    refine r_arrEql (h := [y0, y1, y2, y3, y4, y5, y6, y7, y8, y9, ya, yb, yc, yd, ye, yf]) (g := [x0, x1, x2, x3, x4, x5, x6, x7, x8, x9, xa, xb, xc, xd, xe, xf]) Fc.arrR hS trivial rfl rfl rfl rfl rfl ?_; clear hS; intro a hS
    refine Sq.nil ?_
    refine then_n ?_
    refine c_cond hS rfl (fun hc1 => ?_) (fun hc1 => ?_)
    · have he1 := of_decide_eq_true hc1
      refine c_seq ?_
      refine reg_plain w0 (Nobody) ?_
      refine r_move hS hH.kp0 rfl rfl ?_; clear hS; intro a hS
      refine r_assign hS hH.kp0 rfl rfl ?_; clear hS; intro a hS
      refine Sq.nil ?_
      refine then_n ?_
      refine wp_ret ?_
      refine blk_r ?_
      refine then_r ?_
      refine then_r ?_
      refine blk_r ?_
      refine then_r ?_
      exact leave (.inl rfl) hS rfl (Res.tmp rfl Res.nil) ⟨_, rfl, .inl ⟨i, by omega, by rw [← he1]; exact hqy, rfl⟩, hH.mod⟩
    · refine wp_skip ?_
      refine blk_n ?_
      refine then_n ?_
      refine reg_plain w0 (Nobody) ?_
      refine r_move hS hH.kp0 rfl rfl ?_; clear hS; intro a hS
      first | refine r_add hS hH.kp0 rfl rfl rfl (by omega) ?_ | refine r_addw hS hH.kp0 rfl rfl rfl ?_
      clear hS; intro a hS
      refine r_assign hS hH.kp0 rfl rfl ?_; clear hS; intro a hS
      refine Sq.nil ?_
      refine then_n ?_
      refine ⟨m - 1, by omega, i + 1, _, by omega, ?_, ?_, hS.live ⟨rfl, rfl, rfl, rfl, trivial⟩, hH⟩
      · omega
      · intro q hq
        by_cases e : q < i
        · exact hno q e
        · have e2 : q = i := by omega
          subst e2
          rw [← hqy]; exact fun e => absurd e.symm (of_decide_eq_false hc1)
  · have hge := of_decide_eq_false hc0
    refine wp_exit ?_
    refine then_e ?_
    refine then_e ?_
    refine blk_hit ?_
    refine then_n ?_
    refine c_seq ?_
    refine reg_plain w0 (Nobody) ?_
    refine r_assign hS hH.kp0 rfl rfl ?_; clear hS; intro a hS
    refine Sq.nil ?_
    refine then_n ?_
    refine wp_ret ?_
    exact leave (.inl rfl) hS rfl (Res.tmp rfl Res.nil) ⟨_, rfl, .inr ⟨fun i hi => hno i (by omega), rfl⟩, hH.mod⟩

set_option maxRecDepth 100000 in
set_option maxHeartbeats 400000 in
theorem rFresh_c (b : Nat) (V : RB) (ts : List Tm) (hm : ts.length ≤ 1000000000) (w0 : World) (hri : RI w0 b V ts) : Calls Try.prog 40 #[.pointer (some ⟨b, 0, none⟩)] w0 fun e w' => ∃ h V' , e = .returned (hnd h) ∧ h = nm ts.length ∧ RI w' b V' (ts ++ [freshT]) ∧ RStep w0 w' b V V' := by
  refine enter Try.func40 rfl rfl rfl ?_
  intro a hS
  have hH := Hp.start w0 (V.F b)
  replace hH := hH.knowR hri (by intro p hp; simp at hp)
  have hRS := RS.start w0 b V
  refine c_seq ?_
  refine reg_plain w0 (V.F b) ?_
  refine r_alloc hS hH (by repeat (first | exact Sub.nil | refine Sub.cons ?_ ?_ | exact In.here | refine In.there ?_)) Fc.zc25 rfl ?_
  clear hS hH; intro a w b2 hb2 hwb2 hS hH
  refine Sq.nil ?_
  refine then_n ?_
  refine c_seq ?_
  refine reg_plain w0 (V.F b) ?_
  refine r_move hS hH.kp0 rfl rfl ?_; clear hS; intro a hS
  refine r_buildS (parts := [(0, .const (.int .i64 1))]) hS hH.kp0 rfl rfl Fc.zc113 Fc.pl113 (by rfl) ?_; clear hS; intro a hS
  refine r_call (l := [.tmp 3, .tmp 4]) hS rfl rfl Fc.fn59 rfl ?_
  refine Calls.mono (rmake_c b V ts freshT freshT_ok hm _ (hH.rin (TV := 116) (TT := 113) hri.ok rfl hri.n01 (by repeat (first | exact In.here | refine In.there ?_)) (by repeat (first | exact In.here | refine In.there ?_)))) ?_
  rintro e w1 ⟨h, j, V1, ts1, rfl, hqx, hri1, hst, hmd⟩
  obtain ⟨x0, x1, x2, x3, x4, x5, x6, x7, x8, x9, xa, xb, xc, xd, xe, xf, rfl⟩ := len16 (h := h) (by rw [hqx]; rfl)
  have hRS1 := hRS.step hst hH.mod.size
  replace hH := hH.rvault hRS hst hri1 (by first | exact .two | exact .there .two | exact .there (.there .two) | exact .there (.there (.there .two)) | exact .there (.there (.there (.there .two))) | exact .there (.there (.there (.there (.there .two)))) | exact .there (.there (.there (.there (.there (.there .two))))) | exact .there (.there (.there (.there (.there (.there (.there .two)))))) | exact .there (.there (.there (.there (.there (.there (.there (.there .two))))))) | exact .there (.there (.there (.there (.there (.there (.there (.there (.there .two)))))))) | exact .there (.there (.there (.there (.there (.there (.there (.there (.there (.there .two))))))))) | exact .there (.there (.there (.there (.there (.there (.there (.there (.there (.there (.there .two)))))))))) | exact .there (.there (.there (.there (.there (.there (.there (.there (.there (.there (.there (.there .two))))))))))) | exact .there (.there (.there (.there (.there (.there (.there (.there (.there (.there (.there (.there (.there .two)))))))))))) | exact .there (.there (.there (.there (.there (.there (.there (.there (.there (.there (.there (.there (.there (.there .two))))))))))))) | exact .there (.there (.there (.there (.there (.there (.there (.there (.there (.there (.there (.there (.there (.there (.there .two)))))))))))))))
  refine ⟨_, rfl, hH.kp0, ?_⟩
  clear hS; intro a hS
  refine r_store_row hS hH rfl rfl (by first | exact .here | exact .there .here | exact .there (.there .here) | exact .there (.there (.there .here)) | exact .there (.there (.there (.there .here))) | exact .there (.there (.there (.there (.there .here)))) | exact .there (.there (.there (.there (.there (.there .here))))) | exact .there (.there (.there (.there (.there (.there (.there .here)))))) | exact .there (.there (.there (.there (.there (.there (.there (.there .here))))))) | exact .there (.there (.there (.there (.there (.there (.there (.there (.there .here)))))))) | exact .there (.there (.there (.there (.there (.there (.there (.there (.there (.there .here))))))))) | exact .there (.there (.there (.there (.there (.there (.there (.there (.there (.there (.there .here)))))))))) | exact .there (.there (.there (.there (.there (.there (.there (.there (.there (.there (.there (.there .here))))))))))) | exact .there (.there (.there (.there (.there (.there (.there (.there (.there (.there (.there (.there (.there .here)))))))))))) | exact .there (.there (.there (.there (.there (.there (.there (.there (.there (.there (.there (.there (.there (.there .here))))))))))))) | exact .there (.there (.there (.there (.there (.there (.there (.there (.there (.there (.there (.there (.there (.there (.there .here))))))))))))))) (by repeat (first | exact Sub.nil | refine Sub.cons ?_ ?_ | exact In.here | refine In.there ?_)) Fc.sz25 (by first | exact hcells_one _ | exact of_decide_eq_true rfl) (by rfl) (by first | exact .inr (by assumption) | exact .inl (by first | assumption | rfl)) ?_
  clear hH; intro w hH
  refine Sq.nil ?_
  refine then_n ?_
  refine wp_ret ?_
  refine leave (.inl rfl) hS rfl (Res.cell rfl (hH.get (by repeat (first | exact In.here | refine In.there ?_))) Fc.ag25 (by rfl) rfl Res.nil) ?_
  rcases hmd with ⟨h, _⟩ | ⟨_, rfl, rfl⟩
  · exact absurd rfl h
  · exact ⟨_, V1, rfl, hqx, (hH.rin (TV := 116) (TT := 113) hri1.ok rfl hri1.n01 (by repeat (first | exact In.here | refine In.there ?_)) (by repeat (first | exact In.here | refine In.there ?_))), ⟨hRS1, hH.mod⟩⟩

set_option maxRecDepth 100000 in
set_option maxHeartbeats 1000000 in
theorem rDerive_c (b : Nat) (V : RB) (ts : List Tm) (h : List UInt8) (hh : h.length = 16) (s : ByteArray) (v : Value) (l : List UInt8) (hs : s.size ≤ 9223372036854775807) (hl : l.length ≤ 9223372036854775807) (hm : ts.length ≤ 1000000000) (w0 : World) (hri : RI w0 b V ts) (hb : BsF (V.F b) w0 v l) : Calls Try.prog 53 #[.pointer (some ⟨b, 0, none⟩), hnd h, .string s, v] w0 fun e w' => ∃ h' x V' ts', e = .returned (.tuple #[hnd h', .int .i64 x]) ∧ RI w' b V' ts' ∧ RStep w0 w' b V V' ∧ OfT ts h (drv s (strOf l)) h' x ts' := by
  refine enter Try.func53 rfl rfl rfl ?_
  intro a hS
  have hH := Hp.start w0 (V.F b)
  obtain ⟨x0, x1, x2, x3, x4, x5, x6, x7, x8, x9, xa, xb, xc, xd, xe, xf, rfl⟩ := len16 hh
  replace hH := hH.knowR hri (by intro p hp; simp at hp)
  have hRS := RS.start w0 b V
  refine c_seq ?_
  refine reg_plain w0 (V.F b) ?_
  refine r_box hS hH (by repeat (first | exact Sub.nil | refine Sub.cons ?_ ?_ | exact In.here | refine In.there ?_)) rfl rfl rfl ?_
  clear hS hH; intro a w b5 hb5 hwb5 hS hH
  refine r_alloc hS hH (by repeat (first | exact Sub.nil | refine Sub.cons ?_ ?_ | exact In.here | refine In.there ?_)) Fc.zc25 rfl ?_
  clear hS hH; intro a w b8 hb8 hwb8 hS hH
  refine r_assign hS hH.kp0 rfl rfl ?_; clear hS; intro a hS
  refine Sq.nil ?_
  refine then_n ?_
  refine c_seq ?_
  refine reg_plain w0 (V.F b) ?_
  refine r_move hS hH.kp0 rfl rfl ?_; clear hS; intro a hS
  refine r_load_row hS hH (by repeat (first | exact Sub.nil | refine Sub.cons ?_ ?_ | exact In.here | refine In.there ?_)) rfl (by repeat (first | exact In.here | refine In.there ?_)) Fc.ag25 (by rfl) rfl ?_; clear hS; intro a hS
  refine r_call (l := [.tmp 11, .tmp 12]) hS rfl rfl Fc.fn72 rfl ?_
  refine Calls.mono (rOf_c b V ts [x0, x1, x2, x3, x4, x5, x6, x7, x8, x9, xa, xb, xc, xd, xe, xf] rfl hm _ (hH.rin (TV := 116) (TT := 113) hri.ok rfl hri.n01 (by repeat (first | exact In.here | refine In.there ?_)) (by repeat (first | exact In.here | refine In.there ?_)))) ?_
  rintro e w1 ⟨k, rfl, hcase, hE⟩
  replace hH := hH.ext hE
  refine ⟨_, rfl, hH.kp0, ?_⟩
  clear hS; intro a hS
  refine r_assign hS hH.kp0 rfl rfl ?_; clear hS; intro a hS
  refine Sq.nil ?_
  refine then_n ?_
  refine c_seq ?_
  refine c_seq ?_
  refine reg_plain w0 (V.F b) ?_
  refine r_move hS hH.kp0 rfl rfl ?_; clear hS; intro a hS
  refine r_lss hS hH.kp0 rfl rfl rfl ?_; clear hS; intro a hS
  refine Sq.nil ?_
  refine then_n ?_
  refine c_cond hS rfl (fun hc0 => ?_) (fun hc0 => ?_)
  · have hlt := of_decide_eq_true hc0
    rcases hcase with ⟨i, hi, hn, hk⟩ | ⟨hno, hk⟩
    · omega
    refine c_seq ?_
    refine reg_plain w0 (V.F b) ?_
    refine r_buildA (parts := []) hS hH.kp0 rfl rfl Fc.zc25 Fc.ar25 (by rfl) ?_; clear hS; intro a hS
    refine r_store_row hS hH rfl rfl (by first | exact .here | exact .there .here | exact .there (.there .here) | exact .there (.there (.there .here)) | exact .there (.there (.there (.there .here))) | exact .there (.there (.there (.there (.there .here)))) | exact .there (.there (.there (.there (.there (.there .here))))) | exact .there (.there (.there (.there (.there (.there (.there .here)))))) | exact .there (.there (.there (.there (.there (.there (.there (.there .here))))))) | exact .there (.there (.there (.there (.there (.there (.there (.there (.there .here)))))))) | exact .there (.there (.there (.there (.there (.there (.there (.there (.there (.there .here))))))))) | exact .there (.there (.there (.there (.there (.there (.there (.there (.there (.there (.there .here)))))))))) | exact .there (.there (.there (.there (.there (.there (.there (.there (.there (.there (.there (.there .here))))))))))) | exact .there (.there (.there (.there (.there (.there (.there (.there (.there (.there (.there (.there (.there .here)))))))))))) | exact .there (.there (.there (.there (.there (.there (.there (.there (.there (.there (.there (.there (.there (.there .here))))))))))))) | exact .there (.there (.there (.there (.there (.there (.there (.there (.there (.there (.there (.there (.there (.there (.there .here))))))))))))))) (by repeat (first | exact Sub.nil | refine Sub.cons ?_ ?_ | exact In.here | refine In.there ?_)) Fc.sz25 (by first | exact hcells_one _ | exact of_decide_eq_true rfl) (by rfl) (by first | exact .inr (by assumption) | exact .inl (by first | assumption | rfl)) ?_
    clear hH; intro w hH
    refine r_assign hS hH.kp0 rfl rfl ?_; clear hS; intro a hS
    refine Sq.nil ?_
    refine then_n ?_
    refine wp_ret ?_
    refine then_r ?_
    exact leave (.inl rfl) hS rfl (Res.cell rfl (hH.get (by repeat (first | exact In.here | refine In.there ?_))) Fc.ag25 (by rfl) rfl (Res.tmp rfl Res.nil)) ⟨zH, _, V, ts, rfl, (hH.rin (TV := 116) (TT := 113) hri.ok rfl hri.n01 (by repeat (first | exact In.here | refine In.there ?_)) (by repeat (first | exact In.here | refine In.there ?_))), ⟨hRS, hH.mod⟩, .inr ⟨hno, rfl, rfl, rfl⟩⟩
  · have hge := of_decide_eq_false hc0
    rcases hcase.symm with ⟨hno, hk⟩ | ⟨i, hi, hn, hk⟩
    · omega
    subst hk
    refine wp_skip ?_
    refine then_n ?_
    refine c_seq ?_
    refine reg_plain w0 (V.F b) ?_
    refine r_move hS hH.kp0 rfl rfl ?_; clear hS; intro a hS
    refine r_move hS hH.kp0 rfl rfl ?_; clear hS; intro a hS
    refine r_move hS hH.kp0 rfl rfl ?_; clear hS; intro a hS
    refine r_move hS hH.kp0 rfl rfl ?_; clear hS; intro a hS
    refine r_bytesStr hS hH.kp0 rfl (hb _ hH.mod) Fc.u8s22 Fc.isStr9 rfl ?_; clear hS; intro a hS
    refine r_buildS (parts := [(0, .const (.int .i64 2)), (1, .tmp 18), (3, .tmp 19), (6, .tmp 21)]) hS hH.kp0 rfl rfl Fc.zc113 Fc.pl113 (by rfl) ?_; clear hS; intro a hS
    refine r_call (l := [.tmp 17, .tmp 22]) hS rfl rfl Fc.fn59 rfl ?_
    refine Calls.mono (rmake_c b V ts { drv s (strOf l) with a := (i : Int) } (ok_a (show (drv s (strOf l)).ok from drv_ok hs hl) (by omega)) hm _ (hH.rin (TV := 116) (TT := 113) hri.ok rfl hri.n01 (by repeat (first | exact In.here | refine In.there ?_)) (by repeat (first | exact In.here | refine In.there ?_)))) ?_
    rintro e w1 ⟨h, j, V1, ts1, rfl, hqy, hri1, hst, hmd⟩
    obtain ⟨y0, y1, y2, y3, y4, y5, y6, y7, y8, y9, ya, yb, yc, yd, ye, yf, rfl⟩ := len16 (h := h) (by rw [hqy]; rfl)
    have hRS1 := hRS.step hst hH.mod.size
    replace hH := hH.rvault hRS hst hri1 (by first | exact .two | exact .there .two | exact .there (.there .two) | exact .there (.there (.there .two)) | exact .there (.there (.there (.there .two))) | exact .there (.there (.there (.there (.there .two)))) | exact .there (.there (.there (.there (.there (.there .two))))) | exact .there (.there (.there (.there (.there (.there (.there .two)))))) | exact .there (.there (.there (.there (.there (.there (.there (.there .two))))))) | exact .there (.there (.there (.there (.there (.there (.there (.there (.there .two)))))))) | exact .there (.there (.there (.there (.there (.there (.there (.there (.there (.there .two))))))))) | exact .there (.there (.there (.there (.there (.there (.there (.there (.there (.there (.there .two)))))))))) | exact .there (.there (.there (.there (.there (.there (.there (.there (.there (.there (.there (.there .two))))))))))) | exact .there (.there (.there (.there (.there (.there (.there (.there (.there (.there (.there (.there (.there .two)))))))))))) | exact .there (.there (.there (.there (.there (.there (.there (.there (.there (.there (.there (.there (.there (.there .two))))))))))))) | exact .there (.there (.there (.there (.there (.there (.there (.there (.there (.there (.there (.there (.there (.there (.there .two)))))))))))))))
    refine ⟨_, rfl, hH.kp0, ?_⟩
    clear hS; intro a hS
    refine r_store_row hS hH rfl rfl (by first | exact .here | exact .there .here | exact .there (.there .here) | exact .there (.there (.there .here)) | exact .there (.there (.there (.there .here))) | exact .there (.there (.there (.there (.there .here)))) | exact .there (.there (.there (.there (.there (.there .here))))) | exact .there (.there (.there (.there (.there (.there (.there .here)))))) | exact .there (.there (.there (.there (.there (.there (.there (.there .here))))))) | exact .there (.there (.there (.there (.there (.there (.there (.there (.there .here)))))))) | exact .there (.there (.there (.there (.there (.there (.there (.there (.there (.there .here))))))))) | exact .there (.there (.there (.there (.there (.there (.there (.there (.there (.there (.there .here)))))))))) | exact .there (.there (.there (.there (.there (.there (.there (.there (.there (.there (.there (.there .here))))))))))) | exact .there (.there (.there (.there (.there (.there (.there (.there (.there (.there (.there (.there (.there .here)))))))))))) | exact .there (.there (.there (.there (.there (.there (.there (.there (.there (.there (.there (.there (.there (.there .here))))))))))))) | exact .there (.there (.there (.there (.there (.there (.there (.there (.there (.there (.there (.there (.there (.there (.there .here))))))))))))))) (by repeat (first | exact Sub.nil | refine Sub.cons ?_ ?_ | exact In.here | refine In.there ?_)) Fc.sz25 (by first | exact hcells_one _ | exact of_decide_eq_true rfl) (by rfl) (by first | exact .inr (by assumption) | exact .inl (by first | assumption | rfl)) ?_
    clear hH; intro w hH
    refine r_assign hS hH.kp0 rfl rfl ?_; clear hS; intro a hS
    refine Sq.nil ?_
    refine then_n ?_
    refine wp_ret ?_
    exact leave (.inl rfl) hS rfl (Res.cell rfl (hH.get (by repeat (first | exact In.here | refine In.there ?_))) Fc.ag25 (by rfl) rfl (Res.tmp rfl Res.nil)) ⟨_, _, V1, ts1, rfl, (hH.rin (TV := 116) (TT := 113) hri1.ok rfl hri1.n01 (by repeat (first | exact In.here | refine In.there ?_)) (by repeat (first | exact In.here | refine In.there ?_))), ⟨hRS1, hH.mod⟩, .inl ⟨i, j, hi, hn, rfl, hqy, hmd⟩⟩

end Go.Proofs.Ytcjmehononbadaa
