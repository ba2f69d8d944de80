/- ProtectSteps holds of every input up to the given bulk: each step of the keys has others than all before, by the same mask; both sides first keys are unlike. Part Steps2: walks and lemmas of the proof. -/
import Derived.Test.YtcjmehononbadaaSteps1
namespace Go.Proofs.Ytcjmehononbadaa
open Go.Sym

theorem Fc.bsl89_1 : bslB Try.prog 89 1 = some (43, 48, [.int .u8 0, .int .u8 0, .int .u8 0, .int .u8 0, .int .u8 0, .int .u8 0, .int .u8 0, .int .u8 0, .int .u8 0, .int .u8 0, .int .u8 0, .int .u8 0, .int .u8 0, .int .u8 0, .int .u8 0, .int .u8 0, .int .u8 0, .int .u8 0, .int .u8 0, .int .u8 0, .int .u8 0, .int .u8 0, .int .u8 0, .int .u8 0, .int .u8 0, .int .u8 0, .int .u8 0, .int .u8 0, .int .u8 0, .int .u8 0, .int .u8 0, .int .u8 0, .int .u8 0, .int .u8 0, .int .u8 0, .int .u8 0, .int .u8 0, .int .u8 0, .int .u8 0, .int .u8 0, .int .u8 0, .int .u8 0, .int .u8 0, .int .u8 0, .int .u8 0, .int .u8 0, .int .u8 0, .int .u8 0]) := by kernel_rfl
theorem Fc.elK : elB Try.prog 89 = some (43, 48, 48) := by kernel_rfl
theorem Fc.fn11 : isFn Try.prog 11 = true := by kernel_rfl
theorem Fc.fn14 : isFn Try.prog 14 = true := by kernel_rfl
theorem Fc.fn19 : isFn Try.prog 19 = true := by kernel_rfl
theorem Fc.fn22 : isFn Try.prog 22 = true := by kernel_rfl
theorem Fc.fn28 : isFn Try.prog 28 = true := by kernel_rfl
theorem Fc.isBool4 : isBool Try.prog 4 = true := by kernel_rfl
theorem Fc.isSlice89 : isSlice Try.prog 89 = true := by kernel_rfl
theorem Fc.niK : notInt Try.prog 89 = true := by kernel_rfl
theorem Fc.slb89 : slB Try.prog 89 = some 48 := by kernel_rfl
set_option maxRecDepth 100000 in
set_option maxHeartbeats 16000000 in
theorem steps_law (va : Value) (la : List UInt8) (hA : la.length ≤ 1048576) (nn : Int) (w0 : World) (hb0 : BsF Nobody w0 va la) : Calls Try.prog 9 #[va, .int .i64 nn] w0 fun e w' => e = .returned (.bool true) ∧ Ext w0 w' := by
  refine enter Try.func9 rfl rfl rfl ?_
  intro a hS
  have hH := Hp.start w0 (Nobody)
  have hxa := hb0.bs
  obtain ⟨qa, qca, hsla⟩ := hxa
  have hva := hsla.val
  subst hva
  refine c_seq ?_
  refine reg_plain w0 (Nobody) ?_
  refine r_assign hS hH.kp0 rfl rfl ?_; clear hS; intro a hS
  refine Sq.nil ?_
  refine then_n ?_
  refine c_seq ?_
  refine reg_plain w0 (Nobody) ?_
  refine r_call (l := []) hS rfl rfl Fc.fn11 rfl ?_
  refine Calls.mono (New_c _) ?_
  rintro e w1 ⟨b, V, rfl, hvi, hE, hVF⟩
  have hsz := hH.mod.size
  have hVS : VS Nobody w0 b V := fun x hx => .inr (Nat.le_trans hsz (hVF x hx))
  replace hH := (hH.ext hE).knowV hvi (by intro p hp; simp at hp)
  obtain ⟨ts, hts⟩ : ∃ ts, ts = [rootT] := ⟨_, rfl⟩
  rw [← hts] at hvi hH
  have hok := hvi.ok
  have n01 := hvi.n01
  have n23 := hvi.n23
  have htl : ts.length = 1 := by rw [hts]; rfl
  have hwf : Wf ts := by rw [hts]; exact Wf.root
  have hroot : ts[0]? = some rootT := by rw [hts]; rfl
  refine ⟨_, rfl, hH.kp0, ?_⟩
  clear hS; intro a hS
  refine r_assign hS hH.kp0 rfl rfl ?_; clear hS; intro a hS
  refine Sq.nil ?_
  refine then_n ?_
  refine c_seq ?_
  refine c_seq ?_
  refine reg_plain w0 (Nobody) ?_
  refine r_move hS hH.kp0 rfl rfl ?_; clear hS; intro a hS
  refine r_ptrNil hS hH.kp0 rfl Fc.isPtr23 rfl ?_; clear hS; intro a hS
  refine r_move hS hH.kp0 rfl rfl ?_; clear hS; intro a hS
  refine Sq.guardYes hS rfl rfl rfl ?_
  refine r_move hS hH.kp0 rfl rfl ?_; clear hS; intro a hS
  refine Sq.guardYes hS rfl rfl rfl ?_
  refine r_lenSl hS hH.kp0 rfl Fc.isSlice22 rfl ?_; clear hS; intro a hS
  refine Sq.guardYes hS rfl rfl rfl ?_
  refine r_gtr hS hH.kp0 rfl rfl rfl ?_; clear hS; intro a hS
  refine r_pickF hS hH.kp0 rfl rfl rfl rfl ?_; clear hS; intro a hS
  refine Sq.nil ?_
  refine then_n ?_
  refine c_cond hS rfl (fun hc0 => ?_) (fun hc0 => ?_)
  · have hlt := of_decide_eq_true hc0
    refine c_seq ?_
    refine reg_plain w0 (Nobody) ?_
    refine r_move hS hH.kp0 rfl rfl ?_; clear hS; intro a hS
    refine r_ptrNotNil hS hH.kp0 rfl Fc.isPtr23 rfl ?_; clear hS; intro a hS
    refine r_assign hS hH.kp0 rfl rfl ?_; clear hS; intro a hS
    refine Sq.nil ?_
    refine then_n ?_
    refine wp_ret ?_
    refine then_r ?_
    exact leave (.inl rfl) hS rfl (Res.tmp rfl Res.nil) ⟨rfl, hH.mod⟩
  · have hge := of_decide_eq_false hc0
    refine wp_skip ?_
    refine then_n ?_
    refine c_seq ?_
    refine reg_plain w0 (Nobody) ?_
    refine r_move hS hH.kp0 rfl rfl ?_; clear hS; intro a hS
    refine r_move hS hH.kp0 rfl rfl ?_; clear hS; intro a hS
    refine r_call (l := [.tmp 25, .tmp 26, .const (.bool false)]) hS rfl rfl Fc.fn19 rfl ?_
    refine Calls.mono (Initial_vF b V ts (by omega) _ la hA _ (hH.vin hok n01 n23 (by repeat (first | exact In.here | refine In.there ?_)) (by repeat (first | exact In.here | refine In.there ?_)) (by repeat (first | exact In.here | refine In.there ?_)) (by repeat (first | exact In.here | refine In.there ?_))) (hb0.go hH.mod hVS)) ?_
    rintro e w1 ⟨KKa, x_, V1, ts1, rfl, hKKa, hvi1, hst, hFF, hll1⟩
    obtain ⟨rfl, hu1, hwf1, fa, pa, ka, ma, hKa, hfa, hpa, hma, hpre1, hln1⟩ := initF_rel (by omega) (by omega) (by omega) hok.uq hwf hFF
    have hlp1 := hpre1.lt
    clear hFF
    have hVS1 := hVS.step hst hH.mod.size
    replace hH := hH.vault hVS hst hvi1 (by first | exact .here | exact .there .here | exact .there (.there .here) | exact .there (.there (.there .here)) | exact .there (.there (.there (.there .here))) | exact .there (.there (.there (.there (.there .here)))) | exact .there (.there (.there (.there (.there (.there .here))))) | exact .there (.there (.there (.there (.there (.there (.there .here)))))) | exact .there (.there (.there (.there (.there (.there (.there (.there .here))))))) | exact .there (.there (.there (.there (.there (.there (.there (.there (.there .here)))))))) | exact .there (.there (.there (.there (.there (.there (.there (.there (.there (.there .here))))))))) | exact .there (.there (.there (.there (.there (.there (.there (.there (.there (.there (.there .here)))))))))) | exact .there (.there (.there (.there (.there (.there (.there (.there (.there (.there (.there (.there .here))))))))))) | exact .there (.there (.there (.there (.there (.there (.there (.there (.there (.there (.there (.there (.there .here)))))))))))) | exact .there (.there (.there (.there (.there (.there (.there (.there (.there (.there (.there (.there (.there (.there .here))))))))))))) | exact .there (.there (.there (.there (.there (.there (.there (.there (.there (.there (.there (.there (.there (.there (.there .here)))))))))))))))
    have hok1 := hvi1.ok
    have n011 := hvi1.n01
    have n231 := hvi1.n23
    clear hst
    refine ⟨_, rfl, hH.kp0, ?_⟩
    clear hS; intro a hS
    refine r_move hS hH.kp0 rfl rfl ?_; clear hS; intro a hS
    refine r_extract hS hH.kp0 rfl rfl rfl ?_; clear hS; intro a hS
    refine r_extract hS hH.kp0 rfl rfl rfl ?_; clear hS; intro a hS
    refine r_alloc hS hH (by repeat (first | exact Sub.nil | refine Sub.cons ?_ ?_ | exact In.here | refine In.there ?_)) Fc.zc43 rfl ?_
    clear hS hH; intro a w b6 hb6 hwb6 hS hH
    refine r_store_h KKa hKKa hS hH rfl rfl (by first | exact .here | exact .there .here | exact .there (.there .here) | exact .there (.there (.there .here)) | exact .there (.there (.there (.there .here))) | exact .there (.there (.there (.there (.there .here)))) | exact .there (.there (.there (.there (.there (.there .here))))) | exact .there (.there (.there (.there (.there (.there (.there .here)))))) | exact .there (.there (.there (.there (.there (.there (.there (.there .here))))))) | exact .there (.there (.there (.there (.there (.there (.there (.there (.there .here)))))))) | exact .there (.there (.there (.there (.there (.there (.there (.there (.there (.there .here))))))))) | exact .there (.there (.there (.there (.there (.there (.there (.there (.there (.there (.there .here)))))))))) | exact .there (.there (.there (.there (.there (.there (.there (.there (.there (.there (.there (.there .here))))))))))) | exact .there (.there (.there (.there (.there (.there (.there (.there (.there (.there (.there (.there (.there .here)))))))))))) | exact .there (.there (.there (.there (.there (.there (.there (.there (.there (.there (.there (.there (.there (.there .here))))))))))))) | exact .there (.there (.there (.there (.there (.there (.there (.there (.there (.there (.there (.there (.there (.there (.there .here))))))))))))))) (by repeat (first | exact Sub.nil | refine Sub.cons ?_ ?_ | exact In.here | refine In.there ?_)) (by rfl) Fc.sz43 (by first | exact .inr (by assumption) | exact .inl (by assumption)) ?_
    clear hH; intro w hH
    refine r_assign hS hH.kp0 rfl rfl ?_; clear hS; intro a hS
    refine Sq.nil ?_
    refine then_n ?_
    refine c_seq ?_
    refine reg_plain w0 (Nobody) ?_
    refine r_move hS hH.kp0 rfl rfl ?_; clear hS; intro a hS
    refine r_move hS hH.kp0 rfl rfl ?_; clear hS; intro a hS
    refine r_call (l := [.tmp 31, .tmp 32, .const (.bool true)]) hS rfl rfl Fc.fn19 rfl ?_
    refine Calls.mono (Initial_vT b V1 ts1 (by omega) _ la hA _ (hH.vin hok1 n011 n231 (by repeat (first | exact In.here | refine In.there ?_)) (by repeat (first | exact In.here | refine In.there ?_)) (by repeat (first | exact In.here | refine In.there ?_)) (by repeat (first | exact In.here | refine In.there ?_))) (hb0.go hH.mod hVS1)) ?_
    rintro e w1 ⟨KKb, x_, V2, ts2, rfl, hKKb, hvi2, hst, hFF, hll2⟩
    obtain ⟨rfl, hu2, hwf2, fb, pb, kb, mb, hKb, hfb, hpb, hmb, hpre2, hln2⟩ := initF_rel (by omega) (by omega) (by omega) hok1.uq hwf1 hFF
    have hlp2 := hpre2.lt
    clear hFF
    have hVS2 := hVS1.step hst hH.mod.size
    replace hH := hH.vault hVS1 hst hvi2 (by first | exact .here | exact .there .here | exact .there (.there .here) | exact .there (.there (.there .here)) | exact .there (.there (.there (.there .here))) | exact .there (.there (.there (.there (.there .here)))) | exact .there (.there (.there (.there (.there (.there .here))))) | exact .there (.there (.there (.there (.there (.there (.there .here)))))) | exact .there (.there (.there (.there (.there (.there (.there (.there .here))))))) | exact .there (.there (.there (.there (.there (.there (.there (.there (.there .here)))))))) | exact .there (.there (.there (.there (.there (.there (.there (.there (.there (.there .here))))))))) | exact .there (.there (.there (.there (.there (.there (.there (.there (.there (.there (.there .here)))))))))) | exact .there (.there (.there (.there (.there (.there (.there (.there (.there (.there (.there (.there .here))))))))))) | exact .there (.there (.there (.there (.there (.there (.there (.there (.there (.there (.there (.there (.there .here)))))))))))) | exact .there (.there (.there (.there (.there (.there (.there (.there (.there (.there (.there (.there (.there (.there .here))))))))))))) | exact .there (.there (.there (.there (.there (.there (.there (.there (.there (.there (.there (.there (.there (.there (.there .here)))))))))))))))
    have hok2 := hvi2.ok
    have n012 := hvi2.n01
    have n232 := hvi2.n23
    clear hst
    refine ⟨_, rfl, hH.kp0, ?_⟩
    clear hS; intro a hS
    refine r_move hS hH.kp0 rfl rfl ?_; clear hS; intro a hS
    refine r_extract hS hH.kp0 rfl rfl rfl ?_; clear hS; intro a hS
    refine r_extract hS hH.kp0 rfl rfl rfl ?_; clear hS; intro a hS
    refine r_alloc hS hH (by repeat (first | exact Sub.nil | refine Sub.cons ?_ ?_ | exact In.here | refine In.there ?_)) Fc.zc43 rfl ?_
    clear hS hH; intro a w b8 hb8 hwb8 hS hH
    refine r_store_h KKb hKKb hS hH rfl rfl (by first | exact .here | exact .there .here | exact .there (.there .here) | exact .there (.there (.there .here)) | exact .there (.there (.there (.there .here))) | exact .there (.there (.there (.there (.there .here)))) | exact .there (.there (.there (.there (.there (.there .here))))) | exact .there (.there (.there (.there (.there (.there (.there .here)))))) | exact .there (.there (.there (.there (.there (.there (.there (.there .here))))))) | exact .there (.there (.there (.there (.there (.there (.there (.there (.there .here)))))))) | exact .there (.there (.there (.there (.there (.there (.there (.there (.there (.there .here))))))))) | exact .there (.there (.there (.there (.there (.there (.there (.there (.there (.there (.there .here)))))))))) | exact .there (.there (.there (.there (.there (.there (.there (.there (.there (.there (.there (.there .here))))))))))) | exact .there (.there (.there (.there (.there (.there (.there (.there (.there (.there (.there (.there (.there .here)))))))))))) | exact .there (.there (.there (.there (.there (.there (.there (.there (.there (.there (.there (.there (.there (.there .here))))))))))))) | exact .there (.there (.there (.there (.there (.there (.there (.there (.there (.there (.there (.there (.there (.there (.there .here))))))))))))))) (by repeat (first | exact Sub.nil | refine Sub.cons ?_ ?_ | exact In.here | refine In.there ?_)) (by rfl) Fc.sz43 (by first | exact .inr (by assumption) | exact .inl (by assumption)) ?_
    clear hH; intro w hH
    refine r_assign hS hH.kp0 rfl rfl ?_; clear hS; intro a hS
    refine Sq.nil ?_
    refine then_n ?_
    refine c_seq ?_
    refine c_seq ?_
    have aka := hpre2 _ _ hma.key
    have ama := hpre2 _ _ hma.mask
    have apa := hpre2 _ _ hpa
    have lk2 := hpre2.lt
    have lka := at_lt aka; have lma := at_lt ama; have lkb := at_lt hmb.key; have lmb := at_lt hmb.mask
    have hpab : pa ≠ pb := fun e => by rw [e, hpb] at apa; have h := congrArg Tm.label (Option.some.inj apa); revert h; show ¬ (lk_server = lk_client); decide
    have nkk : ¬ nm ka = nm kb := fun e => by
      have e2 : ka = kb := nm_inj (by omega) (by omega) e
      rw [e2, hmb.key] at aka; have h : (pb : Int) = pa := congrArg Tm.a (Option.some.inj aka); omega
    have nmm : ¬ nm ma = nm mb := fun e => by
      have e2 : ma = mb := nm_inj (by omega) (by omega) e
      rw [e2, hmb.mask] at ama; have h : (pb : Int) = pa := congrArg Tm.a (Option.some.inj ama); omega
    have nkm : ¬ nm ka = nm ma := fun e => by
      have e2 : ka = ma := nm_inj (by omega) (by omega) e
      rw [e2, ama] at aka; have h := congrArg Tm.label (Option.some.inj aka); revert h; show ¬ (lk_mask = lk_key); decide
    have nKK : ¬ KKa = KKb := fun e => by
      rw [hKa, hKb] at e
      have h1 := congrArg (fun l => (l.drop 16).take 16) e
      simp only [List.append_assoc] at h1
      rw [List.drop_left' (nm_len pa), List.drop_left' (nm_len pb), List.take_left' (nm_len ka), List.take_left' (nm_len kb)] at h1
      exact nkk h1
    refine reg_plain w0 (Nobody) ?_
    refine r_move hS hH.kp0 rfl rfl ?_; clear hS; intro a hS
    refine r_neq hS hH.kp0 rfl rfl rfl ?_; clear hS; intro a hS
    refine r_move hS hH.kp0 rfl rfl ?_; clear hS; intro a hS
    refine Sq.guardYes hS rfl rfl rfl ?_
    refine r_move hS hH.kp0 rfl rfl ?_; clear hS; intro a hS
    refine Sq.guardYes hS rfl rfl rfl ?_
    refine r_neq hS hH.kp0 rfl rfl rfl ?_; clear hS; intro a hS
    refine r_pickF hS hH.kp0 rfl rfl rfl rfl ?_; clear hS; intro a hS
    refine r_move hS hH.kp0 rfl rfl ?_; clear hS; intro a hS
    refine Sq.guardYes hS rfl rfl rfl ?_
    refine r_load_h KKa hKKa hS hH (by repeat (first | exact Sub.nil | refine Sub.cons ?_ ?_ | exact In.here | refine In.there ?_)) rfl (by repeat (first | exact In.here | refine In.there ?_)) Fc.ag43 rfl ?_; clear hS; intro a hS
    refine Sq.guardYes hS rfl rfl rfl ?_
    refine r_load_h KKb hKKb hS hH (by repeat (first | exact Sub.nil | refine Sub.cons ?_ ?_ | exact In.here | refine In.there ?_)) rfl (by repeat (first | exact In.here | refine In.there ?_)) Fc.ag43 rfl ?_; clear hS; intro a hS
    refine Sq.guardYes hS rfl rfl rfl ?_
    refine r_k3Eql (h := KKa) (g := KKb) Fc.k3V hS hH.kp0 rfl rfl hKKa hKKb rfl ?_; clear hS; intro a hS
    refine r_pickF hS hH.kp0 rfl rfl rfl rfl ?_; clear hS; intro a hS
    refine r_move hS hH.kp0 rfl rfl ?_; clear hS; intro a hS
    refine Sq.guardYes hS rfl rfl (DF nKK) ?_
    refine r_fieldAddr hS hH.kp0 rfl Fc.fo43_1 rfl ?_; clear hS; intro a hS
    refine Sq.guardYes hS rfl rfl (DF nKK) ?_
    refine r_load_at (vs := hcells (nm ka)) hS hH (by repeat (first | exact Sub.nil | refine Sub.cons ?_ ?_ | exact In.here | refine In.there ?_)) rfl (by repeat (first | exact In.here | refine In.there ?_)) Fc.ag26 (by rw [hKa, (rd3 (nm_len pa) (nm_len ka) (nm_len ma)).2.2.2]; decide) (by rw [hKa]; exact (rd3 (nm_len pa) (nm_len ka) (nm_len ma)).2.1) rfl ?_; clear hS; intro a hS
    refine Sq.guardYes hS rfl rfl (DF nKK) ?_
    refine r_fieldAddr hS hH.kp0 rfl Fc.fo43_1 rfl ?_; clear hS; intro a hS
    refine Sq.guardYes hS rfl rfl (DF nKK) ?_
    refine r_load_at (vs := hcells (nm kb)) hS hH (by repeat (first | exact Sub.nil | refine Sub.cons ?_ ?_ | exact In.here | refine In.there ?_)) rfl (by repeat (first | exact In.here | refine In.there ?_)) Fc.ag26 (by rw [hKb, (rd3 (nm_len pb) (nm_len kb) (nm_len mb)).2.2.2]; decide) (by rw [hKb]; exact (rd3 (nm_len pb) (nm_len kb) (nm_len mb)).2.1) rfl ?_; clear hS; intro a hS
    refine Sq.guardYes hS rfl rfl (DF nKK) ?_
    refine r_arrEql (h := nm ka) (g := nm kb) Fc.arrH hS hH.kp0 rfl rfl rfl rfl rfl ?_; clear hS; intro a hS
    refine r_pickF hS hH.kp0 rfl (DF nKK) rfl rfl ?_; clear hS; intro a hS
    refine r_move hS hH.kp0 rfl rfl ?_; clear hS; intro a hS
    refine Sq.guardYes hS rfl rfl (DF nkk) ?_
    refine r_fieldAddr hS hH.kp0 rfl Fc.fo43_2 rfl ?_; clear hS; intro a hS
    refine Sq.guardYes hS rfl rfl (DF nkk) ?_
    refine r_load_at (vs := hcells (nm ma)) hS hH (by repeat (first | exact Sub.nil | refine Sub.cons ?_ ?_ | exact In.here | refine In.there ?_)) rfl (by repeat (first | exact In.here | refine In.there ?_)) Fc.ag26 (by rw [hKa, (rd3 (nm_len pa) (nm_len ka) (nm_len ma)).2.2.2]; decide) (by rw [hKa]; exact (rd3 (nm_len pa) (nm_len ka) (nm_len ma)).2.2.1) rfl ?_; clear hS; intro a hS
    refine Sq.guardYes hS rfl rfl (DF nkk) ?_
    refine r_fieldAddr hS hH.kp0 rfl Fc.fo43_2 rfl ?_; clear hS; intro a hS
    refine Sq.guardYes hS rfl rfl (DF nkk) ?_
    refine r_load_at (vs := hcells (nm mb)) hS hH (by repeat (first | exact Sub.nil | refine Sub.cons ?_ ?_ | exact In.here | refine In.there ?_)) rfl (by repeat (first | exact In.here | refine In.there ?_)) Fc.ag26 (by rw [hKb, (rd3 (nm_len pb) (nm_len kb) (nm_len mb)).2.2.2]; decide) (by rw [hKb]; exact (rd3 (nm_len pb) (nm_len kb) (nm_len mb)).2.2.1) rfl ?_; clear hS; intro a hS
    refine Sq.guardYes hS rfl rfl (DF nkk) ?_
    refine r_arrEql (h := nm ma) (g := nm mb) Fc.arrH hS hH.kp0 rfl rfl rfl rfl rfl ?_; clear hS; intro a hS
    refine r_pickF hS hH.kp0 rfl (DF nkk) rfl rfl ?_; clear hS; intro a hS
    refine r_move hS hH.kp0 rfl rfl ?_; clear hS; intro a hS
    refine Sq.guardYes hS rfl rfl (DF nmm) ?_
    refine r_fieldAddr hS hH.kp0 rfl Fc.fo43_1 rfl ?_; clear hS; intro a hS
    refine Sq.guardYes hS rfl rfl (DF nmm) ?_
    refine r_load_at (vs := hcells (nm ka)) hS hH (by repeat (first | exact Sub.nil | refine Sub.cons ?_ ?_ | exact In.here | refine In.there ?_)) rfl (by repeat (first | exact In.here | refine In.there ?_)) Fc.ag26 (by rw [hKa, (rd3 (nm_len pa) (nm_len ka) (nm_len ma)).2.2.2]; decide) (by rw [hKa]; exact (rd3 (nm_len pa) (nm_len ka) (nm_len ma)).2.1) rfl ?_; clear hS; intro a hS
    refine Sq.guardYes hS rfl rfl (DF nmm) ?_
    refine r_fieldAddr hS hH.kp0 rfl Fc.fo43_2 rfl ?_; clear hS; intro a hS
    refine Sq.guardYes hS rfl rfl (DF nmm) ?_
    refine r_load_at (vs := hcells (nm ma)) hS hH (by repeat (first | exact Sub.nil | refine Sub.cons ?_ ?_ | exact In.here | refine In.there ?_)) rfl (by repeat (first | exact In.here | refine In.there ?_)) Fc.ag26 (by rw [hKa, (rd3 (nm_len pa) (nm_len ka) (nm_len ma)).2.2.2]; decide) (by rw [hKa]; exact (rd3 (nm_len pa) (nm_len ka) (nm_len ma)).2.2.1) rfl ?_; clear hS; intro a hS
    refine Sq.guardYes hS rfl rfl (DF nmm) ?_
    refine r_arrEql (h := nm ka) (g := nm ma) Fc.arrH hS hH.kp0 rfl rfl rfl rfl rfl ?_; clear hS; intro a hS
    refine r_pickF hS hH.kp0 rfl (DF nmm) rfl rfl ?_; clear hS; intro a hS
    refine Sq.nil ?_
    refine then_n ?_
    refine c_condF hS rfl (DF nkm) ?_
    refine wp_skip ?_
    refine then_n ?_
    refine c_seq ?_
    refine reg_plain w0 (Nobody) ?_
    refine r_move hS hH.kp0 rfl rfl ?_; clear hS; intro a hS
    refine r_move hS hH.kp0 rfl rfl ?_; clear hS; intro a hS
    refine r_call (l := [.tmp 70]) hS rfl rfl Fc.fn14 rfl ?_
    refine Calls.mono (Fresh_v b V2 ts2 (by omega) _ (hH.vin hok2 n012 n232 (by repeat (first | exact In.here | refine In.there ?_)) (by repeat (first | exact In.here | refine In.there ?_)) (by repeat (first | exact In.here | refine In.there ?_)) (by repeat (first | exact In.here | refine In.there ?_)))) ?_
    rintro e w1 ⟨h, V3, rfl, hh, hvi3, hst⟩
    subst hh
    obtain ⟨ts3, hts3⟩ : ∃ z, z = ts2 ++ [freshT] := ⟨_, rfl⟩
    rw [← hts3] at hvi3
    have hVS3 := hVS2.step hst hH.mod.size
    replace hH := hH.vault hVS2 hst hvi3 (by first | exact .here | exact .there .here | exact .there (.there .here) | exact .there (.there (.there .here)) | exact .there (.there (.there (.there .here))) | exact .there (.there (.there (.there (.there .here)))) | exact .there (.there (.there (.there (.there (.there .here))))) | exact .there (.there (.there (.there (.there (.there (.there .here)))))) | exact .there (.there (.there (.there (.there (.there (.there (.there .here))))))) | exact .there (.there (.there (.there (.there (.there (.there (.there (.there .here)))))))) | exact .there (.there (.there (.there (.there (.there (.there (.there (.there (.there .here))))))))) | exact .there (.there (.there (.there (.there (.there (.there (.there (.there (.there (.there .here)))))))))) | exact .there (.there (.there (.there (.there (.there (.there (.there (.there (.there (.there (.there .here))))))))))) | exact .there (.there (.there (.there (.there (.there (.there (.there (.there (.there (.there (.there (.there .here)))))))))))) | exact .there (.there (.there (.there (.there (.there (.there (.there (.there (.there (.there (.there (.there (.there .here))))))))))))) | exact .there (.there (.there (.there (.there (.there (.there (.there (.there (.there (.there (.there (.there (.there (.there .here)))))))))))))))
    have hok3 := hvi3.ok
    have n013 := hvi3.n01
    have n233 := hvi3.n23
    clear hst
    have htl3 : ts3.length = ts2.length + 1 := by rw [hts3]; simp
    have hpre3 : Pre ts2 ts3 := by rw [hts3]; exact Pre.push _ _
    have hwf3 : Wf ts3 := by rw [hts3]; exact hwf2.push ⟨by decide, by show (0 : Int) < _; omega⟩ ⟨by decide, by show (0 : Int) < _; omega⟩ (by decide)
    obtain ⟨pf, hpf⟩ : ∃ z, z = ts2.length := ⟨_, rfl⟩
    have hat3 : ts3[pf]? = some freshT := by rw [hts3, hpf]; simp
    have hpf0 : pf ≠ 0 := by have := hpre1.lt; have := hpre2.lt; omega
    refine ⟨_, rfl, hH.kp0, ?_⟩
    clear hS; intro a hS
    refine r_call (l := [.tmp 69, .tmp 71]) hS rfl rfl Fc.fn24 rfl ?_
    refine Calls.mono (Make_v b V3 ts3 (by omega) (nm ts2.length) rfl _ (hH.vin hok3 n013 n233 (by repeat (first | exact In.here | refine In.there ?_)) (by repeat (first | exact In.here | refine In.there ?_)) (by repeat (first | exact In.here | refine In.there ?_)) (by repeat (first | exact In.here | refine In.there ?_)))) ?_
    rintro e w1 ⟨KK4, x_, V4, ts4, rfl, hKK4, hvi4, hst, hFF, hll4⟩
    rw [← hpf] at hFF
    obtain ⟨rfl, hu4, hwf4, kc, km, hKe, hmk, hpre4, hln4⟩ := makeF_rel (by omega) (by omega) hok3.uq hwf3 hFF
    clear hFF
    have hVS4 := hVS3.step hst hH.mod.size
    replace hH := hH.vault hVS3 hst hvi4 (by first | exact .here | exact .there .here | exact .there (.there .here) | exact .there (.there (.there .here)) | exact .there (.there (.there (.there .here))) | exact .there (.there (.there (.there (.there .here)))) | exact .there (.there (.there (.there (.there (.there .here))))) | exact .there (.there (.there (.there (.there (.there (.there .here)))))) | exact .there (.there (.there (.there (.there (.there (.there (.there .here))))))) | exact .there (.there (.there (.there (.there (.there (.there (.there (.there .here)))))))) | exact .there (.there (.there (.there (.there (.there (.there (.there (.there (.there .here))))))))) | exact .there (.there (.there (.there (.there (.there (.there (.there (.there (.there (.there .here)))))))))) | exact .there (.there (.there (.there (.there (.there (.there (.there (.there (.there (.there (.there .here))))))))))) | exact .there (.there (.there (.there (.there (.there (.there (.there (.there (.there (.there (.there (.there .here)))))))))))) | exact .there (.there (.there (.there (.there (.there (.there (.there (.there (.there (.there (.there (.there (.there .here))))))))))))) | exact .there (.there (.there (.there (.there (.there (.there (.there (.there (.there (.there (.there (.there (.there (.there .here)))))))))))))))
    have hok4 := hvi4.ok
    have n014 := hvi4.n01
    have n234 := hvi4.n23
    clear hst
    refine ⟨_, rfl, hH.kp0, ?_⟩
    clear hS; intro a hS
    refine r_move hS hH.kp0 rfl rfl ?_; clear hS; intro a hS
    refine r_extract hS hH.kp0 rfl rfl rfl ?_; clear hS; intro a hS
    refine r_extract hS hH.kp0 rfl rfl rfl ?_; clear hS; intro a hS
    refine r_alloc hS hH (by repeat (first | exact Sub.nil | refine Sub.cons ?_ ?_ | exact In.here | refine In.there ?_)) Fc.zc43 rfl ?_
    clear hS hH; intro a w b10 hb10 hwb10 hS hH
    refine r_store_h KK4 hKK4 hS hH rfl rfl (by first | exact .here | exact .there .here | exact .there (.there .here) | exact .there (.there (.there .here)) | exact .there (.there (.there (.there .here))) | exact .there (.there (.there (.there (.there .here)))) | exact .there (.there (.there (.there (.there (.there .here))))) | exact .there (.there (.there (.there (.there (.there (.there .here)))))) | exact .there (.there (.there (.there (.there (.there (.there (.there .here))))))) | exact .there (.there (.there (.there (.there (.there (.there (.there (.there .here)))))))) | exact .there (.there (.there (.there (.there (.there (.there (.there (.there (.there .here))))))))) | exact .there (.there (.there (.there (.there (.there (.there (.there (.there (.there (.there .here)))))))))) | exact .there (.there (.there (.there (.there (.there (.there (.there (.there (.there (.there (.there .here))))))))))) | exact .there (.there (.there (.there (.there (.there (.there (.there (.there (.there (.there (.there (.there .here)))))))))))) | exact .there (.there (.there (.there (.there (.there (.there (.there (.there (.there (.there (.there (.there (.there .here))))))))))))) | exact .there (.there (.there (.there (.there (.there (.there (.there (.there (.there (.there (.there (.there (.there (.there .here))))))))))))))) (by repeat (first | exact Sub.nil | refine Sub.cons ?_ ?_ | exact In.here | refine In.there ?_)) (by rfl) Fc.sz43 (by first | exact .inr (by assumption) | exact .inl (by assumption)) ?_
    clear hH; intro w hH
    refine r_assign hS hH.kp0 rfl rfl ?_; clear hS; intro a hS
    refine Sq.nil ?_
    refine then_n ?_
    refine c_seq ?_
    refine reg_plain w0 (Nobody) ?_
    refine r_assign hS hH.kp0 rfl rfl ?_; clear hS; intro a hS
    refine Sq.nil ?_
    refine then_n ?_
    refine c_seq ?_
    refine c_seq ?_
    refine reg_plain w0 (Nobody) ?_
    refine r_assign hS hH.kp0 rfl rfl ?_; clear hS; intro a hS
    refine Sq.nil ?_
    rw [hKe] at hH
    obtain ⟨jm, hjm⟩ : ∃ z, z = km := ⟨_, rfl⟩
    rw [← hjm] at hH
    refine then_n ?_
    refine wp_block ?_
    refine c_loop (fun m a w => ∃ (i : Nat) (ii : Int) (V : VB) (ts : List Tm) (ps cs : List Nat) (p c : Nat) (Ls : List (List UInt8)) (sl : Value), m + i = 17 ∧ ii = i ∧ VOk Try.prog 93 26 V ts ∧ b ≠ V.sb ∧ V.fb ≠ V.nb ∧ VS Nobody w0 b V ∧ Wf ts ∧ ts[0]? = some rootT ∧ ts.length ≤ 20 + 3 * i ∧ StI ts (nm jm) (ps ++ [p]) (cs ++ [c]) ∧ ps.length = i ∧ cs.length = i ∧ Ls.length = i ∧ (∀ h ∈ Ls, h.length = 48) ∧ (∀ (j p c : Nat), ps[j]? = some p → cs[j]? = some c → Ls[j]? = some (nm p ++ nm c ++ nm jm)) ∧ (ps ++ [p])[0]? = some pf ∧ ts[pf]? = some freshT ∧ St 143 (lv [(1, .int .i64 nn), (5, .pointer (some ⟨b, 0, none⟩)), (7, .int .i64 0), (10, .pointer (some ⟨b10, 0, none⟩)), (11, sl), (12, .int .i64 ii)]) a ∧ ((i = 0 ∧ sl = .slice none 0 0 ∧ Hp w0 Nobody [(b10, .cells (hcells (nm p ++ nm c ++ nm jm)).toArray 43 (0, 0)), (b, .cells (V.top ts.length).toArray 71 (0, 0)), (V.sb, .cells V.l.toArray 93 (0, 0)), (V.fb, .map V.es V.c), (V.nb, .map V.es' V.c')] w) ∨ ∃ (ob cap : Nat) (l : List Value), sl = .slice (some ⟨ob, 0, none⟩) Ls.length cap ∧ w0.heap.size ≤ ob ∧ l.length = cap * 48 ∧ Ls.length ≤ cap ∧ l.take (Ls.length * 48) = Ls.flatMap hcells ∧ Hp w0 Nobody [(ob, .cells l.toArray 43 (0, 0)), (b10, .cells (hcells (nm p ++ nm c ++ nm jm)).toArray 43 (0, 0)), (b, .cells (V.top ts.length).toArray 71 (0, 0)), (V.sb, .cells V.l.toArray 93 (0, 0)), (V.fb, .map V.es V.c), (V.nb, .map V.es' V.c')] w)) (17) ?_ ?_
    · exact ⟨0, _, V4, ts4, [], [], pf, kc, [], _, rfl, rfl, hok4, n014, n234, hVS4, hwf4, hpre4 _ _ (hpre3 _ _ (hpre2 _ _ (hpre1 _ _ hroot))), by omega, ⟨rfl, ⟨pf, freshT, rfl, hpre4 _ _ hat3, rfl⟩, fun j p q h1 h2 => by simp at h2, fun j p c h1 h2 => by (cases j with | zero => (simp at h1 h2; subst h1 h2; exact hmk.key) | succ j => simp at h1)⟩, rfl, rfl, rfl, fun h hh => by (cases hh), fun j p c h1 => by simp at h1, rfl, hpre4 _ _ hat3, hS.live ⟨rfl, rfl, rfl, rfl, rfl, rfl, trivial⟩, .inl ⟨rfl, rfl, hH.drop [1, 2]⟩⟩
    clear hS hH; intro m a w hI; obtain ⟨i, ii, V, ts, ps, cs, p, c, Ls, sl, hmi, hii, hok, n01, n23, hVS, hwf, hroot, htl, hStI, hps, hcs, hLs, hL48, hRow, hp0, hatf, hS, hI⟩ := hI
    obtain ⟨m0, hm0⟩ : ∃ x, x = m := ⟨_, rfl⟩
    have hpi : (ps ++ [p])[i]? = some p := by rw [← hps]; simp
    have hci : (cs ++ [c])[i]? = some c := by rw [← hcs]; simp
    have hck := hStI.key i p c hpi hci
    have hpl : p < ts.length := hStI.at i p hpi
    have hK48 : (nm p ++ nm c ++ nm jm).length = 48 := rfl
    have hcl := at_lt hck
    rcases hI with ⟨hi0, rfl, hH⟩ | ⟨ob, cap, l, rfl, hob, hol, hcap, htk, hH⟩
    · have hLs0 : Ls = [] := List.eq_nil_of_length_eq_zero (by omega)
      refine c_seq ?_
      refine c_seq ?_
      refine reg_plain w0 (Nobody) ?_
      refine r_move hS hH.kp0 rfl rfl ?_; clear hS; intro a hS
      refine r_move hS hH.kp0 rfl rfl ?_; clear hS; intro a hS
      refine r_and15 hS hH.kp0 rfl rfl ?_; clear hS; intro a ee hee hS
      refine r_leq hS hH.kp0 rfl rfl rfl ?_; clear hS; intro a hS
      refine Sq.nil ?_
      refine then_n ?_
      refine c_cond hS rfl (fun hc2 => ?_) (fun hc2 => ?_)
      · have hlt2 := of_decide_eq_true hc2
        refine wp_skip ?_
        refine then_n ?_
        refine c_seq ?_
        refine wp_block ?_
        refine c_seq ?_
        refine c_seq ?_
        refine reg_plain w0 (Nobody) ?_
        refine r_assign hS hH.kp0 rfl rfl ?_; clear hS; intro a hS
        refine Sq.nil ?_
        refine then_n ?_
        refine wp_block ?_
        refine c_loop (fun m a w => ∃ (r : Nat) (rr : Int), m + r = 0 ∧ rr = r ∧ St 143 (lv [(1, .int .i64 nn), (5, .pointer (some ⟨b, 0, none⟩)), (7, .int .i64 0), (10, .pointer (some ⟨b10, 0, none⟩)), (11, .slice none 0 0), (12, .int .i64 ii), (13, .int .i64 rr)]) a ∧ Hp w0 Nobody [(b10, .cells (hcells (nm p ++ nm c ++ nm jm)).toArray 43 (0, 0)), (b, .cells (V.top ts.length).toArray 71 (0, 0)), (V.sb, .cells V.l.toArray 93 (0, 0)), (V.fb, .map V.es V.c), (V.nb, .map V.es' V.c')] w) (0) ?_ ?_
        · exact ⟨0, _, by omega, rfl, hS.live ⟨rfl, rfl, rfl, rfl, rfl, rfl, rfl, trivial⟩, hH⟩
        clear hS hH; intro m a w hI; obtain ⟨r, rr, hmr, hrr, hS, hH⟩ := hI
        refine c_seq ?_
        refine c_seq ?_
        refine reg_plain w0 (Nobody) ?_
        refine r_move hS hH.kp0 rfl rfl ?_; clear hS; intro a hS
        refine r_move hS hH.kp0 rfl rfl ?_; clear hS; intro a hS
        refine r_lenSl hS hH.kp0 rfl Fc.isSlice89 rfl ?_; clear hS; intro a hS
        refine r_lss hS hH.kp0 rfl rfl rfl ?_; clear hS; intro a hS
        refine Sq.nil ?_
        refine then_n ?_
        refine c_condF hS rfl (DF (by omega)) ?_
        refine wp_exit ?_
        refine then_e ?_
        refine then_e ?_
        refine blk_hit ?_
        refine then_n ?_
        refine c_seq ?_
        refine c_seq ?_
        refine reg_tree [(true, 0, []), (true, 1, []), (true, 2, []), (true, 3, []), (true, 4, []), (true, 5, []), (false, 6, []), (true, 7, []), (true, 8, []), (true, 9, []), (true, 10, []), (true, 11, []), (false, 12, []), (false, 13, []), (true, 14, []), (true, 15, [])] (PT.ofPlan [(true, 0, []), (true, 1, []), (true, 2, []), (true, 3, []), (true, 4, []), (true, 5, []), (true, 7, []), (true, 8, []), (true, 9, []), (true, 10, []), (true, 11, [])] (.fork (PT.ofPlan [(false, 6, []), (false, 12, []), (false, 13, []), (true, 14, []), (true, 15, [])] .nil) (PT.ofPlan [(false, 12, []), (false, 6, []), (false, 13, []), (true, 14, []), (true, 15, [])] .nil))) Fc.mixed (by kernel_rfl) (by kernel_rfl) (by kernel_rfl) (by kernel_rfl) (by kernel_rfl) (by kernel_rfl) (by repeat (first | with_reducible exact steady_body | with_reducible apply steady_block | with_reducible apply steady_then | exact steady_body)) hH ?_
        replace hH := hH.drew
        refine tr_seg ?_
        refine r_move hS trivial rfl rfl ?_; clear hS; intro a hS
        refine r_neq hS trivial rfl rfl rfl ?_; clear hS; intro a hS
        refine r_move hS trivial rfl rfl ?_; clear hS; intro a hS
        refine Sq.guardYes hS rfl rfl rfl ?_
        refine r_move hS trivial rfl rfl ?_; clear hS; intro a hS
        refine Sq.guardYes hS rfl rfl rfl ?_
        refine r_fieldAddr hS trivial rfl Fc.fo43_1 rfl ?_; clear hS; intro a hS
        refine Sq.guardYes hS rfl rfl rfl ?_
        refine r_slArr hS trivial rfl Fc.ar26 rfl ?_; clear hS; intro a hS
        refine Sq.guardYes hS rfl rfl rfl ?_
        refine r_move hS trivial rfl rfl ?_; clear hS; intro a hS
        refine Sq.guardYes hS rfl rfl rfl ?_
        refine r_fieldAddr hS trivial rfl Fc.fo43_1 rfl ?_; clear hS; intro a hS
        refine Sq.guardYes hS rfl rfl rfl ?_
        refine r_slArr hS trivial rfl Fc.ar26 rfl ?_; clear hS; intro a hS
        refine Sq.guardYes hS rfl rfl rfl ?_
        refine r_fieldAddr hS trivial rfl Fc.fo43_0 rfl ?_; clear hS; intro a hS
        refine Sq.guardYes hS rfl rfl rfl ?_
        refine r_slArr hS trivial rfl Fc.ar26 rfl ?_; clear hS; intro a hS
        refine Sq.nil ?_
        refine then_n ?_
        refine tr_fork ?_ ?_
        · refine tr_seg ?_
          refine Sq.guardYes hS rfl rfl rfl ?_
          refine r_call (l := [.tmp 118, .tmp 120, .const (.slice none 0 0)]) hS rfl rfl Fc.fn28 rfl ?_
          refine Calls.mono (Hidden_v b V ts (by omega) hwf (by omega) _ _ (nm c) (by show 16 ≤ _; decide) [] (fun l hl => (by cases hl)) (by decide) _ (hH.vin hok n01 n23 (by repeat (first | exact In.here | refine In.there ?_)) (by repeat (first | exact In.here | refine In.there ?_)) (by repeat (first | exact In.here | refine In.there ?_)) (by repeat (first | exact In.here | refine In.there ?_))) (BsF.sub (F := Nobody) (o := 16) (hH.get (b := b10) (by repeat (first | exact In.here | refine In.there ?_))) (fun h => h) (rd3 (nm_len p) (nm_len c) (nm_len jm)).2.1 rfl).bs (SlG.nil _ _)) ?_
          rintro e w1 ⟨r1, K1, rfl, hKN1, hHR1, hE⟩
          replace hH := hH.ext hE
          have hr1 : r1 = true := by
            cases r1
            · have h6 := hHR1.no rfl c (at_lt hck) ((HasN16 rfl).2 rfl)
              exact absurd (Dsc.step hck rfl rfl (hStI.dsc hp0 i p hpi)) (hKN1.least _ (Dsc.clos hatf rfl hpf0 hroot rfl) c h6)
            · rfl
          subst hr1
          refine ⟨_, rfl, hH.kp (by repeat (first | exact Sub.nil | refine Sub.cons ?_ ?_ | exact In.here | refine In.there ?_)), ?_⟩
          clear hS; intro a hS
          refine Sq.guardYes hS rfl rfl rfl ?_
          refine r_buildSlice (parts := [(0, .tmp 126)]) hS hH (by repeat (first | exact Sub.nil | refine Sub.cons ?_ ?_ | exact In.here | refine In.there ?_)) rfl Fc.bsl60_1 (by rfl) rfl ?_
          clear hS hH; intro a w b127 hb127 hwb127 hS hH
          refine Sq.guardYes hS rfl rfl rfl ?_
          refine r_call (l := [.tmp 122, .tmp 124, .tmp 127]) hS rfl rfl Fc.fn28 rfl ?_
          refine Calls.mono (Hidden_v b V ts (by omega) hwf (by omega) _ _ (nm c) (by show 16 ≤ _; decide) [nm p] (by intro l hl; rw [List.mem_singleton.1 hl]; show 16 ≤ _; decide) (by simp) _ (hH.vin hok n01 n23 (by repeat (first | exact In.here | refine In.there ?_)) (by repeat (first | exact In.here | refine In.there ?_)) (by repeat (first | exact In.here | refine In.there ?_)) (by repeat (first | exact In.here | refine In.there ?_))) (BsF.sub (F := Nobody) (o := 16) (hH.get (b := b10) (by repeat (first | exact In.here | refine In.there ?_))) (fun h => h) (rd3 (nm_len p) (nm_len c) (nm_len jm)).2.1 rfl).bs (SlG.one (F := Nobody) (.slice (some ⟨b10, 0, none⟩) 16 16) (hH.get (b := b127) (by repeat (first | exact In.here | refine In.there ?_))) (fun h => h) (BsF.sub (F := Nobody) (o := 0) (hH.get (b := b10) (by repeat (first | exact In.here | refine In.there ?_))) (fun h => h) (rd3 (nm_len p) (nm_len c) (nm_len jm)).1 rfl))) ?_
          rintro e w1 ⟨r2, K2, rfl, hKN2, hHR2, hE⟩
          replace hH := hH.ext hE
          have hr2 : r2 = false := by
            cases r2
            · rfl
            · obtain ⟨z9, hz9, hno9⟩ := hHR2.yes rfl
              have hz0 : z9 = 0 := by have : z9 + 16 ≤ 16 := hz9; omega
              subst hz0
              have k1 : KT K2 p := hKN2.clos.seen (nm p) (by simp) p hpl ((HasN16 rfl).2 rfl)
              exact absurd (hKN2.clos.reach c _ hck (.inl ⟨.inl rfl, k1⟩)) (hno9 c (at_lt hck) rfl)
          subst hr2
          refine ⟨_, rfl, hH.kp (by repeat (first | exact Sub.nil | refine Sub.cons ?_ ?_ | exact In.here | refine In.there ?_)), ?_⟩
          clear hS; intro a hS
          refine Sq.guardYes hS rfl rfl rfl ?_
          refine r_boolEql hS trivial rfl rfl Fc.isBool4 rfl ?_; clear hS; intro a hS
          refine r_pickF hS trivial rfl rfl rfl rfl ?_; clear hS; intro a hS
          refine Sq.nil ?_
          refine then_n ?_
          refine tr_nil ?_
          refine then_n ?_
          refine c_condF hS rfl rfl ?_
          refine wp_skip ?_
          refine then_n ?_
          refine c_seq ?_
          refine reg_plain w0 (Nobody) ?_
          refine r_move hS hH.kp0 rfl rfl ?_; clear hS; intro a hS
          refine r_load_h (nm p ++ nm c ++ nm jm) hK48 hS hH (by repeat (first | exact Sub.nil | refine Sub.cons ?_ ?_ | exact In.here | refine In.there ?_)) rfl (by repeat (first | exact In.here | refine In.there ?_)) Fc.ag43 rfl ?_; clear hS; intro a hS
          refine r_bs1h (nm p ++ nm c ++ nm jm) hK48 hS hH (by repeat (first | exact Sub.nil | refine Sub.cons ?_ ?_ | exact In.here | refine In.there ?_)) rfl Fc.bsl89_1 (by rfl) rfl ?_
          clear hS hH; intro a w b133 hb133 hwb133 hS hH
          refine r_append_nil hS hH (by repeat (first | exact Sub.nil | refine Sub.cons ?_ ?_ | exact In.here | refine In.there ?_)) rfl rfl Fc.elK Fc.niK ((Sl.of_block (es := 48) (m := 1) (cap := 1) (hH.get (b := b133) .here) (by rw [hcells_len, hK48]; decide) (Nat.le_refl 1)).src (by intro u hu; exact hcells_one _ u (List.mem_of_mem_take hu))) (by decide) (by decide) rfl ?_
          clear hS hH; intro a w ob' cap' l2 hob' _ hl2 hc2 htk2 _ hS hH
          rw [List.take_of_length_le (l := hcells (nm p ++ nm c ++ nm jm)) (by rw [hcells_len, hK48]; decide)] at htk2
          refine r_assign hS hH.kp0 rfl rfl ?_; clear hS; intro a hS
          refine Sq.nil ?_
          refine then_n ?_
          refine reg_plain w0 (Nobody) ?_
          refine r_move hS hH.kp0 rfl rfl ?_; clear hS; intro a hS
          refine r_load_h (nm p ++ nm c ++ nm jm) hK48 hS hH (by repeat (first | exact Sub.nil | refine Sub.cons ?_ ?_ | exact In.here | refine In.there ?_)) rfl (by repeat (first | exact In.here | refine In.there ?_)) Fc.ag43 rfl ?_; clear hS; intro a hS
          refine r_call (l := [.tmp 136, .tmp 137]) hS rfl rfl Fc.fn22 rfl ?_
          refine Calls.mono (Next_v b V ts (by omega) (nm p) (nm c) (nm jm) rfl rfl rfl _ (hH.vin hok n01 n23 (by repeat (first | exact In.here | refine In.there ?_)) (by repeat (first | exact In.here | refine In.there ?_)) (by repeat (first | exact In.here | refine In.there ?_)) (by repeat (first | exact In.here | refine In.there ?_)))) ?_
          rintro e w1 ⟨KK5, x_, V1, ts1, rfl, hKK5, hvi1, hst, hFF, hll5⟩
          obtain ⟨rfl, hu1, hwf1, pq, kq, mq, hKq, hpq, hmq, hpreq, hlnq⟩ := nextF_rel hpl (by omega) hok.uq hwf hFF
          clear hFF
          have hVS1 := hVS.step hst hH.mod.size
          replace hH := hH.vault hVS hst hvi1 (by first | exact .here | exact .there .here | exact .there (.there .here) | exact .there (.there (.there .here)) | exact .there (.there (.there (.there .here))) | exact .there (.there (.there (.there (.there .here)))) | exact .there (.there (.there (.there (.there (.there .here))))) | exact .there (.there (.there (.there (.there (.there (.there .here)))))) | exact .there (.there (.there (.there (.there (.there (.there (.there .here))))))) | exact .there (.there (.there (.there (.there (.there (.there (.there (.there .here)))))))) | exact .there (.there (.there (.there (.there (.there (.there (.there (.there (.there .here))))))))) | exact .there (.there (.there (.there (.there (.there (.there (.there (.there (.there (.there .here)))))))))) | exact .there (.there (.there (.there (.there (.there (.there (.there (.there (.there (.there (.there .here))))))))))) | exact .there (.there (.there (.there (.there (.there (.there (.there (.there (.there (.there (.there (.there .here)))))))))))) | exact .there (.there (.there (.there (.there (.there (.there (.there (.there (.there (.there (.there (.there (.there .here))))))))))))) | exact .there (.there (.there (.there (.there (.there (.there (.there (.there (.there (.there (.there (.there (.there (.there .here)))))))))))))))
          have hok1 := hvi1.ok
          have n011 := hvi1.n01
          have n231 := hvi1.n23
          clear hst
          refine ⟨_, rfl, hH.kp0, ?_⟩
          clear hS; intro a hS
          refine r_move hS hH.kp0 rfl rfl ?_; clear hS; intro a hS
          refine r_extract hS hH.kp0 rfl rfl rfl ?_; clear hS; intro a hS
          refine r_extract hS hH.kp0 rfl rfl rfl ?_; clear hS; intro a hS
          refine r_store_h KK5 hKK5 hS hH rfl rfl (by first | exact .here | exact .there .here | exact .there (.there .here) | exact .there (.there (.there .here)) | exact .there (.there (.there (.there .here))) | exact .there (.there (.there (.there (.there .here)))) | exact .there (.there (.there (.there (.there (.there .here))))) | exact .there (.there (.there (.there (.there (.there (.there .here)))))) | exact .there (.there (.there (.there (.there (.there (.there (.there .here))))))) | exact .there (.there (.there (.there (.there (.there (.there (.there (.there .here)))))))) | exact .there (.there (.there (.there (.there (.there (.there (.there (.there (.there .here))))))))) | exact .there (.there (.there (.there (.there (.there (.there (.there (.there (.there (.there .here)))))))))) | exact .there (.there (.there (.there (.there (.there (.there (.there (.there (.there (.there (.there .here))))))))))) | exact .there (.there (.there (.there (.there (.there (.there (.there (.there (.there (.there (.there (.there .here)))))))))))) | exact .there (.there (.there (.there (.there (.there (.there (.there (.there (.there (.there (.there (.there (.there .here))))))))))))) | exact .there (.there (.there (.there (.there (.there (.there (.there (.there (.there (.there (.there (.there (.there (.there .here))))))))))))))) (by repeat (first | exact Sub.nil | refine Sub.cons ?_ ?_ | exact In.here | refine In.there ?_)) (by rw [hcells_len]; exact hK48) Fc.sz43 (by first | exact .inr (by assumption) | exact .inl (by assumption)) ?_
          clear hH; intro w hH
          refine r_assign hS hH.kp0 rfl rfl ?_; clear hS; intro a hS
          refine Sq.nil ?_
          refine blk_n ?_
          refine then_n ?_
          refine reg_plain w0 (Nobody) ?_
          refine r_move hS hH.kp0 rfl rfl ?_; clear hS; intro a hS
          first | refine r_add hS hH.kp0 rfl rfl rfl (by omega) ?_ | refine r_addw hS hH.kp0 rfl rfl rfl ?_
          clear hS; intro a hS
          refine r_assign hS hH.kp0 rfl rfl ?_; clear hS; intro a hS
          refine Sq.nil ?_
          refine then_n ?_
          rw [hKq] at hH
          refine ⟨m0 - 1, by omega, i + 1, _, V1, ts1, ps ++ [p], cs ++ [c], pq, kq, Ls ++ [(nm p ++ nm c ++ nm jm)], _, by omega, ?_, hok1, n011, n231, hVS1, hwf1, hpreq _ _ hroot, by omega, ?_, by simp [hps], by simp [hcs], by simp [hLs], ?_, ?_, ?_, hpreq _ _ hatf, hS.live ⟨rfl, rfl, rfl, rfl, rfl, rfl, trivial⟩, .inr ⟨ob', cap', l2, ?_, ?_, hl2, ?_, ?_, hH.drop [1, 2]⟩⟩
          · omega
          · exact (hStI.pre hpreq).push (by rw [List.length_append, List.length_singleton, hps]; simp [hps]) hpq hmq.key
          · intro h hm; rcases List.mem_append.1 hm with hm | hm; exact hL48 h hm; rw [List.mem_singleton.1 hm]; exact hK48
          · exact rows_push hps hcs hLs hRow
          · rw [List.getElem?_append_left (by simp)]; exact hp0
          · rw [hLs0]; rfl
          · exact hob'
          · rw [hLs0]; simpa using hc2
          · rw [hLs0]; simpa using htk2
        · refine tr_seg ?_
          refine Sq.guardYes hS rfl rfl rfl ?_
          refine r_buildSlice (parts := [(0, .tmp 126)]) hS hH (by repeat (first | exact Sub.nil | refine Sub.cons ?_ ?_ | exact In.here | refine In.there ?_)) rfl Fc.bsl60_1 (by rfl) rfl ?_
          clear hS hH; intro a w b127 hb127 hwb127 hS hH
          refine Sq.guardYes hS rfl rfl rfl ?_
          refine r_call (l := [.tmp 118, .tmp 120, .const (.slice none 0 0)]) hS rfl rfl Fc.fn28 rfl ?_
          refine Calls.mono (Hidden_v b V ts (by omega) hwf (by omega) _ _ (nm c) (by show 16 ≤ _; decide) [] (fun l hl => (by cases hl)) (by decide) _ (hH.vin hok n01 n23 (by repeat (first | exact In.here | refine In.there ?_)) (by repeat (first | exact In.here | refine In.there ?_)) (by repeat (first | exact In.here | refine In.there ?_)) (by repeat (first | exact In.here | refine In.there ?_))) (BsF.sub (F := Nobody) (o := 16) (hH.get (b := b10) (by repeat (first | exact In.here | refine In.there ?_))) (fun h => h) (rd3 (nm_len p) (nm_len c) (nm_len jm)).2.1 rfl).bs (SlG.nil _ _)) ?_
          rintro e w1 ⟨r1, K1, rfl, hKN1, hHR1, hE⟩
          replace hH := hH.ext hE
          have hr1 : r1 = true := by
            cases r1
            · have h6 := hHR1.no rfl c (at_lt hck) ((HasN16 rfl).2 rfl)
              exact absurd (Dsc.step hck rfl rfl (hStI.dsc hp0 i p hpi)) (hKN1.least _ (Dsc.clos hatf rfl hpf0 hroot rfl) c h6)
            · rfl
          subst hr1
          refine ⟨_, rfl, hH.kp (by repeat (first | exact Sub.nil | refine Sub.cons ?_ ?_ | exact In.here | refine In.there ?_)), ?_⟩
          clear hS; intro a hS
          refine Sq.guardYes hS rfl rfl rfl ?_
          refine r_call (l := [.tmp 122, .tmp 124, .tmp 127]) hS rfl rfl Fc.fn28 rfl ?_
          refine Calls.mono (Hidden_v b V ts (by omega) hwf (by omega) _ _ (nm c) (by show 16 ≤ _; decide) [nm p] (by intro l hl; rw [List.mem_singleton.1 hl]; show 16 ≤ _; decide) (by simp) _ (hH.vin hok n01 n23 (by repeat (first | exact In.here | refine In.there ?_)) (by repeat (first | exact In.here | refine In.there ?_)) (by repeat (first | exact In.here | refine In.there ?_)) (by repeat (first | exact In.here | refine In.there ?_))) (BsF.sub (F := Nobody) (o := 16) (hH.get (b := b10) (by repeat (first | exact In.here | refine In.there ?_))) (fun h => h) (rd3 (nm_len p) (nm_len c) (nm_len jm)).2.1 rfl).bs (SlG.one (F := Nobody) (.slice (some ⟨b10, 0, none⟩) 16 16) (hH.get (b := b127) (by repeat (first | exact In.here | refine In.there ?_))) (fun h => h) (BsF.sub (F := Nobody) (o := 0) (hH.get (b := b10) (by repeat (first | exact In.here | refine In.there ?_))) (fun h => h) (rd3 (nm_len p) (nm_len c) (nm_len jm)).1 rfl))) ?_
          rintro e w1 ⟨r2, K2, rfl, hKN2, hHR2, hE⟩
          replace hH := hH.ext hE
          have hr2 : r2 = false := by
            cases r2
            · rfl
            · obtain ⟨z9, hz9, hno9⟩ := hHR2.yes rfl
              have hz0 : z9 = 0 := by have : z9 + 16 ≤ 16 := hz9; omega
              subst hz0
              have k1 : KT K2 p := hKN2.clos.seen (nm p) (by simp) p hpl ((HasN16 rfl).2 rfl)
              exact absurd (hKN2.clos.reach c _ hck (.inl ⟨.inl rfl, k1⟩)) (hno9 c (at_lt hck) rfl)
          subst hr2
          refine ⟨_, rfl, hH.kp (by repeat (first | exact Sub.nil | refine Sub.cons ?_ ?_ | exact In.here | refine In.there ?_)), ?_⟩
          clear hS; intro a hS
          refine Sq.guardYes hS rfl rfl rfl ?_
          refine r_boolEql hS trivial rfl rfl Fc.isBool4 rfl ?_; clear hS; intro a hS
          refine r_pickF hS trivial rfl rfl rfl rfl ?_; clear hS; intro a hS
          refine Sq.nil ?_
          refine then_n ?_
          refine tr_nil ?_
          refine then_n ?_
          refine c_condF hS rfl rfl ?_
          refine wp_skip ?_
          refine then_n ?_
          refine c_seq ?_
          refine reg_plain w0 (Nobody) ?_
          refine r_move hS hH.kp0 rfl rfl ?_; clear hS; intro a hS
          refine r_load_h (nm p ++ nm c ++ nm jm) hK48 hS hH (by repeat (first | exact Sub.nil | refine Sub.cons ?_ ?_ | exact In.here | refine In.there ?_)) rfl (by repeat (first | exact In.here | refine In.there ?_)) Fc.ag43 rfl ?_; clear hS; intro a hS
          refine r_bs1h (nm p ++ nm c ++ nm jm) hK48 hS hH (by repeat (first | exact Sub.nil | refine Sub.cons ?_ ?_ | exact In.here | refine In.there ?_)) rfl Fc.bsl89_1 (by rfl) rfl ?_
          clear hS hH; intro a w b133 hb133 hwb133 hS hH
          refine r_append_nil hS hH (by repeat (first | exact Sub.nil | refine Sub.cons ?_ ?_ | exact In.here | refine In.there ?_)) rfl rfl Fc.elK Fc.niK ((Sl.of_block (es := 48) (m := 1) (cap := 1) (hH.get (b := b133) .here) (by rw [hcells_len, hK48]; decide) (Nat.le_refl 1)).src (by intro u hu; exact hcells_one _ u (List.mem_of_mem_take hu))) (by decide) (by decide) rfl ?_
          clear hS hH; intro a w ob' cap' l2 hob' _ hl2 hc2 htk2 _ hS hH
          rw [List.take_of_length_le (l := hcells (nm p ++ nm c ++ nm jm)) (by rw [hcells_len, hK48]; decide)] at htk2
          refine r_assign hS hH.kp0 rfl rfl ?_; clear hS; intro a hS
          refine Sq.nil ?_
          refine then_n ?_
          refine reg_plain w0 (Nobody) ?_
          refine r_move hS hH.kp0 rfl rfl ?_; clear hS; intro a hS
          refine r_load_h (nm p ++ nm c ++ nm jm) hK48 hS hH (by repeat (first | exact Sub.nil | refine Sub.cons ?_ ?_ | exact In.here | refine In.there ?_)) rfl (by repeat (first | exact In.here | refine In.there ?_)) Fc.ag43 rfl ?_; clear hS; intro a hS
          refine r_call (l := [.tmp 136, .tmp 137]) hS rfl rfl Fc.fn22 rfl ?_
          refine Calls.mono (Next_v b V ts (by omega) (nm p) (nm c) (nm jm) rfl rfl rfl _ (hH.vin hok n01 n23 (by repeat (first | exact In.here | refine In.there ?_)) (by repeat (first | exact In.here | refine In.there ?_)) (by repeat (first | exact In.here | refine In.there ?_)) (by repeat (first | exact In.here | refine In.there ?_)))) ?_
          rintro e w1 ⟨KK5, x_, V1, ts1, rfl, hKK5, hvi1, hst, hFF, hll5⟩
          obtain ⟨rfl, hu1, hwf1, pq, kq, mq, hKq, hpq, hmq, hpreq, hlnq⟩ := nextF_rel hpl (by omega) hok.uq hwf hFF
          clear hFF
          have hVS1 := hVS.step hst hH.mod.size
          replace hH := hH.vault hVS hst hvi1 (by first | exact .here | exact .there .here | exact .there (.there .here) | exact .there (.there (.there .here)) | exact .there (.there (.there (.there .here))) | exact .there (.there (.there (.there (.there .here)))) | exact .there (.there (.there (.there (.there (.there .here))))) | exact .there (.there (.there (.there (.there (.there (.there .here)))))) | exact .there (.there (.there (.there (.there (.there (.there (.there .here))))))) | exact .there (.there (.there (.there (.there (.there (.there (.there (.there .here)))))))) | exact .there (.there (.there (.there (.there (.there (.there (.there (.there (.there .here))))))))) | exact .there (.there (.there (.there (.there (.there (.there (.there (.there (.there (.there .here)))))))))) | exact .there (.there (.there (.there (.there (.there (.there (.there (.there (.there (.there (.there .here))))))))))) | exact .there (.there (.there (.there (.there (.there (.there (.there (.there (.there (.there (.there (.there .here)))))))))))) | exact .there (.there (.there (.there (.there (.there (.there (.there (.there (.there (.there (.there (.there (.there .here))))))))))))) | exact .there (.there (.there (.there (.there (.there (.there (.there (.there (.there (.there (.there (.there (.there (.there .here)))))))))))))))
          have hok1 := hvi1.ok
          have n011 := hvi1.n01
          have n231 := hvi1.n23
          clear hst
          refine ⟨_, rfl, hH.kp0, ?_⟩
          clear hS; intro a hS
          refine r_move hS hH.kp0 rfl rfl ?_; clear hS; intro a hS
          refine r_extract hS hH.kp0 rfl rfl rfl ?_; clear hS; intro a hS
          refine r_extract hS hH.kp0 rfl rfl rfl ?_; clear hS; intro a hS
          refine r_store_h KK5 hKK5 hS hH rfl rfl (by first | exact .here | exact .there .here | exact .there (.there .here) | exact .there (.there (.there .here)) | exact .there (.there (.there (.there .here))) | exact .there (.there (.there (.there (.there .here)))) | exact .there (.there (.there (.there (.there (.there .here))))) | exact .there (.there (.there (.there (.there (.there (.there .here)))))) | exact .there (.there (.there (.there (.there (.there (.there (.there .here))))))) | exact .there (.there (.there (.there (.there (.there (.there (.there (.there .here)))))))) | exact .there (.there (.there (.there (.there (.there (.there (.there (.there (.there .here))))))))) | exact .there (.there (.there (.there (.there (.there (.there (.there (.there (.there (.there .here)))))))))) | exact .there (.there (.there (.there (.there (.there (.there (.there (.there (.there (.there (.there .here))))))))))) | exact .there (.there (.there (.there (.there (.there (.there (.there (.there (.there (.there (.there (.there .here)))))))))))) | exact .there (.there (.there (.there (.there (.there (.there (.there (.there (.there (.there (.there (.there (.there .here))))))))))))) | exact .there (.there (.there (.there (.there (.there (.there (.there (.there (.there (.there (.there (.there (.there (.there .here))))))))))))))) (by repeat (first | exact Sub.nil | refine Sub.cons ?_ ?_ | exact In.here | refine In.there ?_)) (by rw [hcells_len]; exact hK48) Fc.sz43 (by first | exact .inr (by assumption) | exact .inl (by assumption)) ?_
          clear hH; intro w hH
          refine r_assign hS hH.kp0 rfl rfl ?_; clear hS; intro a hS
          refine Sq.nil ?_
          refine blk_n ?_
          refine then_n ?_
          refine reg_plain w0 (Nobody) ?_
          refine r_move hS hH.kp0 rfl rfl ?_; clear hS; intro a hS
          first | refine r_add hS hH.kp0 rfl rfl rfl (by omega) ?_ | refine r_addw hS hH.kp0 rfl rfl rfl ?_
          clear hS; intro a hS
          refine r_assign hS hH.kp0 rfl rfl ?_; clear hS; intro a hS
          refine Sq.nil ?_
          refine then_n ?_
          rw [hKq] at hH
          refine ⟨m0 - 1, by omega, i + 1, _, V1, ts1, ps ++ [p], cs ++ [c], pq, kq, Ls ++ [(nm p ++ nm c ++ nm jm)], _, by omega, ?_, hok1, n011, n231, hVS1, hwf1, hpreq _ _ hroot, by omega, ?_, by simp [hps], by simp [hcs], by simp [hLs], ?_, ?_, ?_, hpreq _ _ hatf, hS.live ⟨rfl, rfl, rfl, rfl, rfl, rfl, trivial⟩, .inr ⟨ob', cap', l2, ?_, ?_, hl2, ?_, ?_, hH.drop [1, 2]⟩⟩
          · omega
          · exact (hStI.pre hpreq).push (by rw [List.length_append, List.length_singleton, hps]; simp [hps]) hpq hmq.key
          · intro h hm; rcases List.mem_append.1 hm with hm | hm; exact hL48 h hm; rw [List.mem_singleton.1 hm]; exact hK48
          · exact rows_push hps hcs hLs hRow
          · rw [List.getElem?_append_left (by simp)]; exact hp0
          · rw [hLs0]; rfl
          · exact hob'
          · rw [hLs0]; simpa using hc2
          · rw [hLs0]; simpa using htk2
      · refine wp_exit ?_
        refine then_e ?_
        refine then_e ?_
        refine blk_hit ?_
        refine then_n ?_
        refine c_seq ?_
        refine reg_plain w0 (Nobody) ?_
        refine r_move hS hH.kp0 rfl rfl ?_; clear hS; intro a hS
        refine r_eql hS hH.kp0 rfl rfl rfl ?_; clear hS; intro a hS
        refine r_assign hS hH.kp0 rfl rfl ?_; clear hS; intro a hS
        refine Sq.nil ?_
        refine then_n ?_
        refine wp_ret ?_
        exact leave (.inl rfl) hS rfl (Res.tmp rfl Res.nil) ⟨rfl, hH.mod⟩
    · refine c_seq ?_
      refine c_seq ?_
      refine reg_plain w0 (Nobody) ?_
      refine r_move hS hH.kp0 rfl rfl ?_; clear hS; intro a hS
      refine r_move hS hH.kp0 rfl rfl ?_; clear hS; intro a hS
      refine r_and15 hS hH.kp0 rfl rfl ?_; clear hS; intro a ee hee hS
      refine r_leq hS hH.kp0 rfl rfl rfl ?_; clear hS; intro a hS
      refine Sq.nil ?_
      refine then_n ?_
      refine c_cond hS rfl (fun hc2 => ?_) (fun hc2 => ?_)
      · have hlt2 := of_decide_eq_true hc2
        refine wp_skip ?_
        refine then_n ?_
        refine c_seq ?_
        refine wp_block ?_
        refine c_seq ?_
        refine c_seq ?_
        refine reg_plain w0 (Nobody) ?_
        refine r_assign hS hH.kp0 rfl rfl ?_; clear hS; intro a hS
        refine Sq.nil ?_
        refine then_n ?_
        refine wp_block ?_
        refine c_loop (fun m a w => ∃ (r : Nat) (rr : Int), m + r = Ls.length ∧ rr = r ∧ St 143 (lv [(1, .int .i64 nn), (5, .pointer (some ⟨b, 0, none⟩)), (7, .int .i64 0), (10, .pointer (some ⟨b10, 0, none⟩)), (11, .slice (some ⟨ob, 0, none⟩) Ls.length cap), (12, .int .i64 ii), (13, .int .i64 rr)]) a ∧ Hp w0 Nobody [(ob, .cells l.toArray 43 (0, 0)), (b10, .cells (hcells (nm p ++ nm c ++ nm jm)).toArray 43 (0, 0)), (b, .cells (V.top ts.length).toArray 71 (0, 0)), (V.sb, .cells V.l.toArray 93 (0, 0)), (V.fb, .map V.es V.c), (V.nb, .map V.es' V.c')] w) (Ls.length) ?_ ?_
        · exact ⟨0, _, by omega, rfl, hS.live ⟨rfl, rfl, rfl, rfl, rfl, rfl, rfl, trivial⟩, hH⟩
        clear hS hH; intro m a w hI; obtain ⟨r, rr, hmr, hrr, hS, hH⟩ := hI
        refine c_seq ?_
        refine c_seq ?_
        refine reg_plain w0 (Nobody) ?_
        refine r_move hS hH.kp0 rfl rfl ?_; clear hS; intro a hS
        refine r_move hS hH.kp0 rfl rfl ?_; clear hS; intro a hS
        refine r_lenSl hS hH.kp0 rfl Fc.isSlice89 rfl ?_; clear hS; intro a hS
        refine r_lss hS hH.kp0 rfl rfl rfl ?_; clear hS; intro a hS
        refine Sq.nil ?_
        refine then_n ?_
        refine c_cond hS rfl (fun hc3 => ?_) (fun hc3 => ?_)
        · have hrl := of_decide_eq_true hc3
          have hrL : r < Ls.length := by omega
          obtain ⟨p9, hp9⟩ : ∃ u, ps[r]? = some u := ⟨_, List.getElem?_eq_getElem (by omega)⟩
          obtain ⟨c9, hc9⟩ : ∃ u, cs[r]? = some u := ⟨_, List.getElem?_eq_getElem (by omega)⟩
          have hrow := hRow r p9 c9 hp9 hc9
          have hr16 := rd_part (o := 16) hL48 htk hrow (nm_len p9) (nm_len c9)
          have hr0 := rd_part (o := 0) (a := []) (b := nm p9) (c := nm c9 ++ nm jm) hL48 htk (by rw [hrow]; simp) rfl (nm_len p9)
          have hr32 := rd_part (o := 32) (a := nm p9 ++ nm c9) (b := nm jm) (c := []) hL48 htk (by rw [hrow]; simp) (by simp [nm_len]) (nm_len jm)
          have hp9a : (ps ++ [p])[r]? = some p9 := by rw [List.getElem?_append_left (by omega)]; exact hp9
          have hc9a : (cs ++ [c])[r]? = some c9 := by rw [List.getElem?_append_left (by omega)]; exact hc9
          have hk9 := hStI.key r p9 c9 hp9a hc9a
          have npp : p9 ≠ p := fun e => hStI.inj r i p (by omega) (by rw [e] at hp9a; exact hp9a) hpi
          have npn : ¬ nm p9 = nm p := nm_ne (by have := hStI.at r p9 hp9a; omega) (by omega) npp
          have ncn : ¬ nm c9 = nm c := nm_ne (by have := at_lt hk9; omega) (by have := at_lt hck; omega) (fun e => by rw [e, hck] at hk9; have h : (p : Int) = p9 := congrArg Tm.a (Option.some.inj hk9); omega)
          refine wp_skip ?_
          refine then_n ?_
          refine c_seq ?_
          refine wp_block ?_
          refine c_seq ?_
          refine reg_draw [(true, 0, []), (true, 1, []), (true, 2, []), (true, 3, []), (true, 4, []), (true, 5, []), (true, 6, []), (true, 7, []), (true, 8, []), (true, 9, []), (true, 10, []), (true, 11, []), (true, 12, []), (true, 13, []), (true, 14, []), (true, 15, []), (true, 16, []), (true, 17, []), (true, 18, []), (true, 19, []), (true, 20, []), (true, 21, []), (true, 22, []), (true, 23, []), (true, 24, []), (true, 25, []), (true, 26, []), (true, 27, [])] Fc.mixed (by kernel_rfl) (by kernel_rfl) (by kernel_rfl) (by kernel_rfl) (by kernel_rfl) (by repeat (first | with_reducible exact steady_body | with_reducible apply steady_block | with_reducible apply steady_then | exact steady_body)) hH ?_
          replace hH := hH.drew
          refine r_move hS trivial rfl rfl ?_; clear hS; intro a hS
          refine r_move hS trivial rfl rfl ?_; clear hS; intro a hS
          refine r_indexAddrS (j := r) hS trivial rfl rfl Fc.slb89 hrr (by omega) rfl ?_; clear hS; intro a hS
          refine r_fieldAddr hS trivial rfl Fc.fo43_1 rfl ?_; clear hS; intro a hS
          refine r_load_atS (vs := hcells (nm c9)) hS rfl (by repeat (first | exact In.here | refine In.there ?_)) Fc.ag26 (by rw [Nat.zero_add]; exact hr16.2) (by rw [Nat.zero_add]; exact hr16.1) rfl ?_; clear hS; intro a hS
          refine r_fieldAddr hS trivial rfl Fc.fo43_1 rfl ?_; clear hS; intro a hS
          refine r_load_atS (vs := hcells (nm c)) hS rfl (by repeat (first | exact In.here | refine In.there ?_)) Fc.ag26 (by rw [(rd3 (nm_len p) (nm_len c) (nm_len jm)).2.2.2]; decide) ((rd3 (nm_len p) (nm_len c) (nm_len jm)).2.1) rfl ?_; clear hS; intro a hS
          refine r_arrEql (h := nm c9) (g := nm c) Fc.arrH hS trivial rfl rfl rfl rfl rfl ?_; clear hS; intro a hS
          refine r_move hS trivial rfl rfl ?_; clear hS; intro a hS
          refine Sq.guardYes hS rfl rfl (DF ncn) ?_
          refine r_move hS trivial rfl rfl ?_; clear hS; intro a hS
          refine Sq.guardYes hS rfl rfl (DF ncn) ?_
          refine r_move hS trivial rfl rfl ?_; clear hS; intro a hS
          refine Sq.guardYes hS rfl rfl (DF ncn) ?_
          refine r_indexAddrS (j := r) hS trivial rfl rfl Fc.slb89 hrr (by omega) rfl ?_; clear hS; intro a hS
          refine Sq.guardYes hS rfl rfl (DF ncn) ?_
          refine r_fieldAddr hS trivial rfl Fc.fo43_0 rfl ?_; clear hS; intro a hS
          refine Sq.guardYes hS rfl rfl (DF ncn) ?_
          refine r_load_atS (vs := hcells (nm p9)) hS rfl (by repeat (first | exact In.here | refine In.there ?_)) Fc.ag26 (by rw [Nat.zero_add]; exact hr0.2) (by rw [Nat.zero_add]; exact hr0.1) rfl ?_; clear hS; intro a hS
          refine Sq.guardYes hS rfl rfl (DF ncn) ?_
          refine r_fieldAddr hS trivial rfl Fc.fo43_0 rfl ?_; clear hS; intro a hS
          refine Sq.guardYes hS rfl rfl (DF ncn) ?_
          refine r_load_atS (vs := hcells (nm p)) hS rfl (by repeat (first | exact In.here | refine In.there ?_)) Fc.ag26 (by rw [(rd3 (nm_len p) (nm_len c) (nm_len jm)).2.2.2]; decide) ((rd3 (nm_len p) (nm_len c) (nm_len jm)).1) rfl ?_; clear hS; intro a hS
          refine Sq.guardYes hS rfl rfl (DF ncn) ?_
          refine r_arrEql (h := nm p9) (g := nm p) Fc.arrH hS trivial rfl rfl rfl rfl rfl ?_; clear hS; intro a hS
          refine r_pickF hS trivial rfl (DF ncn) rfl rfl ?_; clear hS; intro a hS
          refine r_move hS trivial rfl rfl ?_; clear hS; intro a hS
          refine Sq.guardYes hS rfl rfl (DF npn) ?_
          refine r_move hS trivial rfl rfl ?_; clear hS; intro a hS
          refine Sq.guardYes hS rfl rfl (DF npn) ?_
          refine r_move hS trivial rfl rfl ?_; clear hS; intro a hS
          refine Sq.guardYes hS rfl rfl (DF npn) ?_
          refine r_indexAddrS (j := r) hS trivial rfl rfl Fc.slb89 hrr (by omega) rfl ?_; clear hS; intro a hS
          refine Sq.guardYes hS rfl rfl (DF npn) ?_
          refine r_fieldAddr hS trivial rfl Fc.fo43_2 rfl ?_; clear hS; intro a hS
          refine Sq.guardYes hS rfl rfl (DF npn) ?_
          refine r_load_atS (vs := hcells (nm jm)) hS rfl (by repeat (first | exact In.here | refine In.there ?_)) Fc.ag26 (by rw [Nat.zero_add]; exact hr32.2) (by rw [Nat.zero_add]; exact hr32.1) rfl ?_; clear hS; intro a hS
          refine Sq.guardYes hS rfl rfl (DF npn) ?_
          refine r_fieldAddr hS trivial rfl Fc.fo43_2 rfl ?_; clear hS; intro a hS
          refine Sq.guardYes hS rfl rfl (DF npn) ?_
          refine r_load_atS (vs := hcells (nm jm)) hS rfl (by repeat (first | exact In.here | refine In.there ?_)) Fc.ag26 (by rw [(rd3 (nm_len p) (nm_len c) (nm_len jm)).2.2.2]; decide) ((rd3 (nm_len p) (nm_len c) (nm_len jm)).2.2.1) rfl ?_; clear hS; intro a hS
          refine Sq.guardYes hS rfl rfl (DF npn) ?_
          refine r_arrNeq (h := nm jm) (g := nm jm) Fc.arrH hS trivial rfl rfl rfl rfl rfl ?_; clear hS; intro a hS
          refine r_pickF hS trivial rfl (DF npn) rfl rfl ?_; clear hS; intro a hS
          refine Sq.nil ?_
          refine then_n ?_
          refine c_condF hS rfl (by simp) ?_
          refine wp_skip ?_
          refine blk_n ?_
          refine then_n ?_
          refine reg_plain w0 (Nobody) ?_
          refine r_move hS hH.kp0 rfl rfl ?_; clear hS; intro a hS
          first | refine r_add hS hH.kp0 rfl rfl rfl (by omega) ?_ | refine r_addw hS hH.kp0 rfl rfl rfl ?_
          clear hS; intro a hS
          refine r_assign hS hH.kp0 rfl rfl ?_; clear hS; intro a hS
          refine Sq.nil ?_
          refine then_n ?_
          refine ⟨m - 1, by omega, r + 1, _, by omega, ?_, hS.live ⟨rfl, rfl, rfl, rfl, rfl, rfl, rfl, trivial⟩, hH⟩
          omega
        · have hge := of_decide_eq_false hc3
          refine wp_exit ?_
          refine then_e ?_
          refine then_e ?_
          refine blk_hit ?_
          refine then_n ?_
          refine c_seq ?_
          refine c_seq ?_
          refine reg_tree [(true, 0, []), (true, 1, []), (true, 2, []), (true, 3, []), (true, 4, []), (true, 5, []), (false, 6, []), (true, 7, []), (true, 8, []), (true, 9, []), (true, 10, []), (true, 11, []), (false, 12, []), (false, 13, []), (true, 14, []), (true, 15, [])] (PT.ofPlan [(true, 0, []), (true, 1, []), (true, 2, []), (true, 3, []), (true, 4, []), (true, 5, []), (true, 7, []), (true, 8, []), (true, 9, []), (true, 10, []), (true, 11, [])] (.fork (PT.ofPlan [(false, 6, []), (false, 12, []), (false, 13, []), (true, 14, []), (true, 15, [])] .nil) (PT.ofPlan [(false, 12, []), (false, 6, []), (false, 13, []), (true, 14, []), (true, 15, [])] .nil))) Fc.mixed (by kernel_rfl) (by kernel_rfl) (by kernel_rfl) (by kernel_rfl) (by kernel_rfl) (by kernel_rfl) (by repeat (first | with_reducible exact steady_body | with_reducible apply steady_block | with_reducible apply steady_then | exact steady_body)) hH ?_
          replace hH := hH.drew
          refine tr_seg ?_
          refine r_move hS trivial rfl rfl ?_; clear hS; intro a hS
          refine r_neq hS trivial rfl rfl rfl ?_; clear hS; intro a hS
          refine r_move hS trivial rfl rfl ?_; clear hS; intro a hS
          refine Sq.guardYes hS rfl rfl rfl ?_
          refine r_move hS trivial rfl rfl ?_; clear hS; intro a hS
          refine Sq.guardYes hS rfl rfl rfl ?_
          refine r_fieldAddr hS trivial rfl Fc.fo43_1 rfl ?_; clear hS; intro a hS
          refine Sq.guardYes hS rfl rfl rfl ?_
          refine r_slArr hS trivial rfl Fc.ar26 rfl ?_; clear hS; intro a hS
          refine Sq.guardYes hS rfl rfl rfl ?_
          refine r_move hS trivial rfl rfl ?_; clear hS; intro a hS
          refine Sq.guardYes hS rfl rfl rfl ?_
          refine r_fieldAddr hS trivial rfl Fc.fo43_1 rfl ?_; clear hS; intro a hS
          refine Sq.guardYes hS rfl rfl rfl ?_
          refine r_slArr hS trivial rfl Fc.ar26 rfl ?_; clear hS; intro a hS
          refine Sq.guardYes hS rfl rfl rfl ?_
          refine r_fieldAddr hS trivial rfl Fc.fo43_0 rfl ?_; clear hS; intro a hS
          refine Sq.guardYes hS rfl rfl rfl ?_
          refine r_slArr hS trivial rfl Fc.ar26 rfl ?_; clear hS; intro a hS
          refine Sq.nil ?_
          refine then_n ?_
          refine tr_fork ?_ ?_
          · refine tr_seg ?_
            refine Sq.guardYes hS rfl rfl rfl ?_
            refine r_call (l := [.tmp 118, .tmp 120, .const (.slice none 0 0)]) hS rfl rfl Fc.fn28 rfl ?_
            refine Calls.mono (Hidden_v b V ts (by omega) hwf (by omega) _ _ (nm c) (by show 16 ≤ _; decide) [] (fun l hl => (by cases hl)) (by decide) _ (hH.vin hok n01 n23 (by repeat (first | exact In.here | refine In.there ?_)) (by repeat (first | exact In.here | refine In.there ?_)) (by repeat (first | exact In.here | refine In.there ?_)) (by repeat (first | exact In.here | refine In.there ?_))) (BsF.sub (F := Nobody) (o := 16) (hH.get (b := b10) (by repeat (first | exact In.here | refine In.there ?_))) (fun h => h) (rd3 (nm_len p) (nm_len c) (nm_len jm)).2.1 rfl).bs (SlG.nil _ _)) ?_
            rintro e w1 ⟨r1, K1, rfl, hKN1, hHR1, hE⟩
            replace hH := hH.ext hE
            have hr1 : r1 = true := by
              cases r1
              · have h6 := hHR1.no rfl c (at_lt hck) ((HasN16 rfl).2 rfl)
                exact absurd (Dsc.step hck rfl rfl (hStI.dsc hp0 i p hpi)) (hKN1.least _ (Dsc.clos hatf rfl hpf0 hroot rfl) c h6)
              · rfl
            subst hr1
            refine ⟨_, rfl, hH.kp (by repeat (first | exact Sub.nil | refine Sub.cons ?_ ?_ | exact In.here | refine In.there ?_)), ?_⟩
            clear hS; intro a hS
            refine Sq.guardYes hS rfl rfl rfl ?_
            refine r_buildSlice (parts := [(0, .tmp 126)]) hS hH (by repeat (first | exact Sub.nil | refine Sub.cons ?_ ?_ | exact In.here | refine In.there ?_)) rfl Fc.bsl60_1 (by rfl) rfl ?_
            clear hS hH; intro a w b127 hb127 hwb127 hS hH
            refine Sq.guardYes hS rfl rfl rfl ?_
            refine r_call (l := [.tmp 122, .tmp 124, .tmp 127]) hS rfl rfl Fc.fn28 rfl ?_
            refine Calls.mono (Hidden_v b V ts (by omega) hwf (by omega) _ _ (nm c) (by show 16 ≤ _; decide) [nm p] (by intro l hl; rw [List.mem_singleton.1 hl]; show 16 ≤ _; decide) (by simp) _ (hH.vin hok n01 n23 (by repeat (first | exact In.here | refine In.there ?_)) (by repeat (first | exact In.here | refine In.there ?_)) (by repeat (first | exact In.here | refine In.there ?_)) (by repeat (first | exact In.here | refine In.there ?_))) (BsF.sub (F := Nobody) (o := 16) (hH.get (b := b10) (by repeat (first | exact In.here | refine In.there ?_))) (fun h => h) (rd3 (nm_len p) (nm_len c) (nm_len jm)).2.1 rfl).bs (SlG.one (F := Nobody) (.slice (some ⟨b10, 0, none⟩) 16 16) (hH.get (b := b127) (by repeat (first | exact In.here | refine In.there ?_))) (fun h => h) (BsF.sub (F := Nobody) (o := 0) (hH.get (b := b10) (by repeat (first | exact In.here | refine In.there ?_))) (fun h => h) (rd3 (nm_len p) (nm_len c) (nm_len jm)).1 rfl))) ?_
            rintro e w1 ⟨r2, K2, rfl, hKN2, hHR2, hE⟩
            replace hH := hH.ext hE
            have hr2 : r2 = false := by
              cases r2
              · rfl
              · obtain ⟨z9, hz9, hno9⟩ := hHR2.yes rfl
                have hz0 : z9 = 0 := by have : z9 + 16 ≤ 16 := hz9; omega
                subst hz0
                have k1 : KT K2 p := hKN2.clos.seen (nm p) (by simp) p hpl ((HasN16 rfl).2 rfl)
                exact absurd (hKN2.clos.reach c _ hck (.inl ⟨.inl rfl, k1⟩)) (hno9 c (at_lt hck) rfl)
            subst hr2
            refine ⟨_, rfl, hH.kp (by repeat (first | exact Sub.nil | refine Sub.cons ?_ ?_ | exact In.here | refine In.there ?_)), ?_⟩
            clear hS; intro a hS
            refine Sq.guardYes hS rfl rfl rfl ?_
            refine r_boolEql hS trivial rfl rfl Fc.isBool4 rfl ?_; clear hS; intro a hS
            refine r_pickF hS trivial rfl rfl rfl rfl ?_; clear hS; intro a hS
            refine Sq.nil ?_
            refine then_n ?_
            refine tr_nil ?_
            refine then_n ?_
            refine c_condF hS rfl rfl ?_
            refine wp_skip ?_
            refine then_n ?_
            refine c_seq ?_
            refine reg_plain w0 (Nobody) ?_
            refine r_move hS hH.kp0 rfl rfl ?_; clear hS; intro a hS
            refine r_load_h (nm p ++ nm c ++ nm jm) hK48 hS hH (by repeat (first | exact Sub.nil | refine Sub.cons ?_ ?_ | exact In.here | refine In.there ?_)) rfl (by repeat (first | exact In.here | refine In.there ?_)) Fc.ag43 rfl ?_; clear hS; intro a hS
            refine r_bs1h (nm p ++ nm c ++ nm jm) hK48 hS hH (by repeat (first | exact Sub.nil | refine Sub.cons ?_ ?_ | exact In.here | refine In.there ?_)) rfl Fc.bsl89_1 (by rfl) rfl ?_
            clear hS hH; intro a w b133 hb133 hwb133 hS hH
            refine r_append_own hS hH rfl rfl (by first | exact .here | exact .there .here | exact .there (.there .here) | exact .there (.there (.there .here)) | exact .there (.there (.there (.there .here))) | exact .there (.there (.there (.there (.there .here)))) | exact .there (.there (.there (.there (.there (.there .here))))) | exact .there (.there (.there (.there (.there (.there (.there .here)))))) | exact .there (.there (.there (.there (.there (.there (.there (.there .here))))))) | exact .there (.there (.there (.there (.there (.there (.there (.there (.there .here)))))))) | exact .there (.there (.there (.there (.there (.there (.there (.there (.there (.there .here))))))))) | exact .there (.there (.there (.there (.there (.there (.there (.there (.there (.there (.there .here)))))))))) | exact .there (.there (.there (.there (.there (.there (.there (.there (.there (.there (.there (.there .here))))))))))) | exact .there (.there (.there (.there (.there (.there (.there (.there (.there (.there (.there (.there (.there .here)))))))))))) | exact .there (.there (.there (.there (.there (.there (.there (.there (.there (.there (.there (.there (.there (.there .here))))))))))))) | exact .there (.there (.there (.there (.there (.there (.there (.there (.there (.there (.there (.there (.there (.there (.there .here))))))))))))))) (by repeat (first | exact Sub.nil | refine Sub.cons ?_ ?_ | exact In.here | refine In.there ?_)) Fc.elK Fc.niK hol hcap ((Sl.of_block (es := 48) (m := 1) (cap := 1) (hH.get (b := b133) .here) (by rw [hcells_len, hK48]; decide) (Nat.le_refl 1)).src (by intro u hu; exact hcells_one _ u (List.mem_of_mem_take hu))) (by omega) (.inr hob) rfl ?_
            clear hS hH; intro a w ob' cap' l2 hob' hl2 hc2 htk2 _ hS hH
            rw [List.take_of_length_le (l := hcells (nm p ++ nm c ++ nm jm)) (by rw [hcells_len, hK48]; decide)] at htk2
            refine r_assign hS hH.kp0 rfl rfl ?_; clear hS; intro a hS
            refine Sq.nil ?_
            refine then_n ?_
            refine reg_plain w0 (Nobody) ?_
            refine r_move hS hH.kp0 rfl rfl ?_; clear hS; intro a hS
            refine r_load_h (nm p ++ nm c ++ nm jm) hK48 hS hH (by repeat (first | exact Sub.nil | refine Sub.cons ?_ ?_ | exact In.here | refine In.there ?_)) rfl (by repeat (first | exact In.here | refine In.there ?_)) Fc.ag43 rfl ?_; clear hS; intro a hS
            refine r_call (l := [.tmp 136, .tmp 137]) hS rfl rfl Fc.fn22 rfl ?_
            refine Calls.mono (Next_v b V ts (by omega) (nm p) (nm c) (nm jm) rfl rfl rfl _ (hH.vin hok n01 n23 (by repeat (first | exact In.here | refine In.there ?_)) (by repeat (first | exact In.here | refine In.there ?_)) (by repeat (first | exact In.here | refine In.there ?_)) (by repeat (first | exact In.here | refine In.there ?_)))) ?_
            rintro e w1 ⟨KK5, x_, V1, ts1, rfl, hKK5, hvi1, hst, hFF, hll5⟩
            obtain ⟨rfl, hu1, hwf1, pq, kq, mq, hKq, hpq, hmq, hpreq, hlnq⟩ := nextF_rel hpl (by omega) hok.uq hwf hFF
            clear hFF
            have hVS1 := hVS.step hst hH.mod.size
            replace hH := hH.vault hVS hst hvi1 (by first | exact .here | exact .there .here | exact .there (.there .here) | exact .there (.there (.there .here)) | exact .there (.there (.there (.there .here))) | exact .there (.there (.there (.there (.there .here)))) | exact .there (.there (.there (.there (.there (.there .here))))) | exact .there (.there (.there (.there (.there (.there (.there .here)))))) | exact .there (.there (.there (.there (.there (.there (.there (.there .here))))))) | exact .there (.there (.there (.there (.there (.there (.there (.there (.there .here)))))))) | exact .there (.there (.there (.there (.there (.there (.there (.there (.there (.there .here))))))))) | exact .there (.there (.there (.there (.there (.there (.there (.there (.there (.there (.there .here)))))))))) | exact .there (.there (.there (.there (.there (.there (.there (.there (.there (.there (.there (.there .here))))))))))) | exact .there (.there (.there (.there (.there (.there (.there (.there (.there (.there (.there (.there (.there .here)))))))))))) | exact .there (.there (.there (.there (.there (.there (.there (.there (.there (.there (.there (.there (.there (.there .here))))))))))))) | exact .there (.there (.there (.there (.there (.there (.there (.there (.there (.there (.there (.there (.there (.there (.there .here)))))))))))))))
            have hok1 := hvi1.ok
            have n011 := hvi1.n01
            have n231 := hvi1.n23
            clear hst
            refine ⟨_, rfl, hH.kp0, ?_⟩
            clear hS; intro a hS
            refine r_move hS hH.kp0 rfl rfl ?_; clear hS; intro a hS
            refine r_extract hS hH.kp0 rfl rfl rfl ?_; clear hS; intro a hS
            refine r_extract hS hH.kp0 rfl rfl rfl ?_; clear hS; intro a hS
            refine r_store_h KK5 hKK5 hS hH rfl rfl (by first | exact .here | exact .there .here | exact .there (.there .here) | exact .there (.there (.there .here)) | exact .there (.there (.there (.there .here))) | exact .there (.there (.there (.there (.there .here)))) | exact .there (.there (.there (.there (.there (.there .here))))) | exact .there (.there (.there (.there (.there (.there (.there .here)))))) | exact .there (.there (.there (.there (.there (.there (.there (.there .here))))))) | exact .there (.there (.there (.there (.there (.there (.there (.there (.there .here)))))))) | exact .there (.there (.there (.there (.there (.there (.there (.there (.there (.there .here))))))))) | exact .there (.there (.there (.there (.there (.there (.there (.there (.there (.there (.there .here)))))))))) | exact .there (.there (.there (.there (.there (.there (.there (.there (.there (.there (.there (.there .here))))))))))) | exact .there (.there (.there (.there (.there (.there (.there (.there (.there (.there (.there (.there (.there .here)))))))))))) | exact .there (.there (.there (.there (.there (.there (.there (.there (.there (.there (.there (.there (.there (.there .here))))))))))))) | exact .there (.there (.there (.there (.there (.there (.there (.there (.there (.there (.there (.there (.there (.there (.there .here))))))))))))))) (by repeat (first | exact Sub.nil | refine Sub.cons ?_ ?_ | exact In.here | refine In.there ?_)) (by rw [hcells_len]; exact hK48) Fc.sz43 (by first | exact .inr (by assumption) | exact .inl (by assumption)) ?_
            clear hH; intro w hH
            refine r_assign hS hH.kp0 rfl rfl ?_; clear hS; intro a hS
            refine Sq.nil ?_
            refine blk_n ?_
            refine then_n ?_
            refine reg_plain w0 (Nobody) ?_
            refine r_move hS hH.kp0 rfl rfl ?_; clear hS; intro a hS
            first | refine r_add hS hH.kp0 rfl rfl rfl (by omega) ?_ | refine r_addw hS hH.kp0 rfl rfl rfl ?_
            clear hS; intro a hS
            refine r_assign hS hH.kp0 rfl rfl ?_; clear hS; intro a hS
            refine Sq.nil ?_
            refine then_n ?_
            rw [hKq] at hH
            refine ⟨m0 - 1, by omega, i + 1, _, V1, ts1, ps ++ [p], cs ++ [c], pq, kq, Ls ++ [(nm p ++ nm c ++ nm jm)], _, by omega, ?_, hok1, n011, n231, hVS1, hwf1, hpreq _ _ hroot, by omega, ?_, by simp [hps], by simp [hcs], by simp [hLs], ?_, ?_, ?_, hpreq _ _ hatf, hS.live ⟨rfl, rfl, rfl, rfl, rfl, rfl, trivial⟩, .inr ⟨ob', cap', l2, ?_, ?_, hl2, ?_, ?_, hH.drop [1, 2]⟩⟩
            · omega
            · exact (hStI.pre hpreq).push (by rw [List.length_append, List.length_singleton, hps]; simp [hps]) hpq hmq.key
            · intro h hm; rcases List.mem_append.1 hm with hm | hm; exact hL48 h hm; rw [List.mem_singleton.1 hm]; exact hK48
            · exact rows_push hps hcs hLs hRow
            · rw [List.getElem?_append_left (by simp)]; exact hp0
            · simp
            · rcases hob' with h | h; exact h.elim; exact h
            · simpa using hc2
            · rw [List.length_append, List.length_singleton, htk2, htk]; simp
          · refine tr_seg ?_
            refine Sq.guardYes hS rfl rfl rfl ?_
            refine r_buildSlice (parts := [(0, .tmp 126)]) hS hH (by repeat (first | exact Sub.nil | refine Sub.cons ?_ ?_ | exact In.here | refine In.there ?_)) rfl Fc.bsl60_1 (by rfl) rfl ?_
            clear hS hH; intro a w b127 hb127 hwb127 hS hH
            refine Sq.guardYes hS rfl rfl rfl ?_
            refine r_call (l := [.tmp 118, .tmp 120, .const (.slice none 0 0)]) hS rfl rfl Fc.fn28 rfl ?_
            refine Calls.mono (Hidden_v b V ts (by omega) hwf (by omega) _ _ (nm c) (by show 16 ≤ _; decide) [] (fun l hl => (by cases hl)) (by decide) _ (hH.vin hok n01 n23 (by repeat (first | exact In.here | refine In.there ?_)) (by repeat (first | exact In.here | refine In.there ?_)) (by repeat (first | exact In.here | refine In.there ?_)) (by repeat (first | exact In.here | refine In.there ?_))) (BsF.sub (F := Nobody) (o := 16) (hH.get (b := b10) (by repeat (first | exact In.here | refine In.there ?_))) (fun h => h) (rd3 (nm_len p) (nm_len c) (nm_len jm)).2.1 rfl).bs (SlG.nil _ _)) ?_
            rintro e w1 ⟨r1, K1, rfl, hKN1, hHR1, hE⟩
            replace hH := hH.ext hE
            have hr1 : r1 = true := by
              cases r1
              · have h6 := hHR1.no rfl c (at_lt hck) ((HasN16 rfl).2 rfl)
                exact absurd (Dsc.step hck rfl rfl (hStI.dsc hp0 i p hpi)) (hKN1.least _ (Dsc.clos hatf rfl hpf0 hroot rfl) c h6)
              · rfl
            subst hr1
            refine ⟨_, rfl, hH.kp (by repeat (first | exact Sub.nil | refine Sub.cons ?_ ?_ | exact In.here | refine In.there ?_)), ?_⟩
            clear hS; intro a hS
            refine Sq.guardYes hS rfl rfl rfl ?_
            refine r_call (l := [.tmp 122, .tmp 124, .tmp 127]) hS rfl rfl Fc.fn28 rfl ?_
            refine Calls.mono (Hidden_v b V ts (by omega) hwf (by omega) _ _ (nm c) (by show 16 ≤ _; decide) [nm p] (by intro l hl; rw [List.mem_singleton.1 hl]; show 16 ≤ _; decide) (by simp) _ (hH.vin hok n01 n23 (by repeat (first | exact In.here | refine In.there ?_)) (by repeat (first | exact In.here | refine In.there ?_)) (by repeat (first | exact In.here | refine In.there ?_)) (by repeat (first | exact In.here | refine In.there ?_))) (BsF.sub (F := Nobody) (o := 16) (hH.get (b := b10) (by repeat (first | exact In.here | refine In.there ?_))) (fun h => h) (rd3 (nm_len p) (nm_len c) (nm_len jm)).2.1 rfl).bs (SlG.one (F := Nobody) (.slice (some ⟨b10, 0, none⟩) 16 16) (hH.get (b := b127) (by repeat (first | exact In.here | refine In.there ?_))) (fun h => h) (BsF.sub (F := Nobody) (o := 0) (hH.get (b := b10) (by repeat (first | exact In.here | refine In.there ?_))) (fun h => h) (rd3 (nm_len p) (nm_len c) (nm_len jm)).1 rfl))) ?_
            rintro e w1 ⟨r2, K2, rfl, hKN2, hHR2, hE⟩
            replace hH := hH.ext hE
            have hr2 : r2 = false := by
              cases r2
              · rfl
              · obtain ⟨z9, hz9, hno9⟩ := hHR2.yes rfl
                have hz0 : z9 = 0 := by have : z9 + 16 ≤ 16 := hz9; omega
                subst hz0
                have k1 : KT K2 p := hKN2.clos.seen (nm p) (by simp) p hpl ((HasN16 rfl).2 rfl)
                exact absurd (hKN2.clos.reach c _ hck (.inl ⟨.inl rfl, k1⟩)) (hno9 c (at_lt hck) rfl)
            subst hr2
            refine ⟨_, rfl, hH.kp (by repeat (first | exact Sub.nil | refine Sub.cons ?_ ?_ | exact In.here | refine In.there ?_)), ?_⟩
            clear hS; intro a hS
            refine Sq.guardYes hS rfl rfl rfl ?_
            refine r_boolEql hS trivial rfl rfl Fc.isBool4 rfl ?_; clear hS; intro a hS
            refine r_pickF hS trivial rfl rfl rfl rfl ?_; clear hS; intro a hS
            refine Sq.nil ?_
            refine then_n ?_
            refine tr_nil ?_
            refine then_n ?_
            refine c_condF hS rfl rfl ?_
            refine wp_skip ?_
            refine then_n ?_
            refine c_seq ?_
            refine reg_plain w0 (Nobody) ?_
            refine r_move hS hH.kp0 rfl rfl ?_; clear hS; intro a hS
            refine r_load_h (nm p ++ nm c ++ nm jm) hK48 hS hH (by repeat (first | exact Sub.nil | refine Sub.cons ?_ ?_ | exact In.here | refine In.there ?_)) rfl (by repeat (first | exact In.here | refine In.there ?_)) Fc.ag43 rfl ?_; clear hS; intro a hS
            refine r_bs1h (nm p ++ nm c ++ nm jm) hK48 hS hH (by repeat (first | exact Sub.nil | refine Sub.cons ?_ ?_ | exact In.here | refine In.there ?_)) rfl Fc.bsl89_1 (by rfl) rfl ?_
            clear hS hH; intro a w b133 hb133 hwb133 hS hH
            refine r_append_own hS hH rfl rfl (by first | exact .here | exact .there .here | exact .there (.there .here) | exact .there (.there (.there .here)) | exact .there (.there (.there (.there .here))) | exact .there (.there (.there (.there (.there .here)))) | exact .there (.there (.there (.there (.there (.there .here))))) | exact .there (.there (.there (.there (.there (.there (.there .here)))))) | exact .there (.there (.there (.there (.there (.there (.there (.there .here))))))) | exact .there (.there (.there (.there (.there (.there (.there (.there (.there .here)))))))) | exact .there (.there (.there (.there (.there (.there (.there (.there (.there (.there .here))))))))) | exact .there (.there (.there (.there (.there (.there (.there (.there (.there (.there (.there .here)))))))))) | exact .there (.there (.there (.there (.there (.there (.there (.there (.there (.there (.there (.there .here))))))))))) | exact .there (.there (.there (.there (.there (.there (.there (.there (.there (.there (.there (.there (.there .here)))))))))))) | exact .there (.there (.there (.there (.there (.there (.there (.there (.there (.there (.there (.there (.there (.there .here))))))))))))) | exact .there (.there (.there (.there (.there (.there (.there (.there (.there (.there (.there (.there (.there (.there (.there .here))))))))))))))) (by repeat (first | exact Sub.nil | refine Sub.cons ?_ ?_ | exact In.here | refine In.there ?_)) Fc.elK Fc.niK hol hcap ((Sl.of_block (es := 48) (m := 1) (cap := 1) (hH.get (b := b133) .here) (by rw [hcells_len, hK48]; decide) (Nat.le_refl 1)).src (by intro u hu; exact hcells_one _ u (List.mem_of_mem_take hu))) (by omega) (.inr hob) rfl ?_
            clear hS hH; intro a w ob' cap' l2 hob' hl2 hc2 htk2 _ hS hH
            rw [List.take_of_length_le (l := hcells (nm p ++ nm c ++ nm jm)) (by rw [hcells_len, hK48]; decide)] at htk2
            refine r_assign hS hH.kp0 rfl rfl ?_; clear hS; intro a hS
            refine Sq.nil ?_
            refine then_n ?_
            refine reg_plain w0 (Nobody) ?_
            refine r_move hS hH.kp0 rfl rfl ?_; clear hS; intro a hS
            refine r_load_h (nm p ++ nm c ++ nm jm) hK48 hS hH (by repeat (first | exact Sub.nil | refine Sub.cons ?_ ?_ | exact In.here | refine In.there ?_)) rfl (by repeat (first | exact In.here | refine In.there ?_)) Fc.ag43 rfl ?_; clear hS; intro a hS
            refine r_call (l := [.tmp 136, .tmp 137]) hS rfl rfl Fc.fn22 rfl ?_
            refine Calls.mono (Next_v b V ts (by omega) (nm p) (nm c) (nm jm) rfl rfl rfl _ (hH.vin hok n01 n23 (by repeat (first | exact In.here | refine In.there ?_)) (by repeat (first | exact In.here | refine In.there ?_)) (by repeat (first | exact In.here | refine In.there ?_)) (by repeat (first | exact In.here | refine In.there ?_)))) ?_
            rintro e w1 ⟨KK5, x_, V1, ts1, rfl, hKK5, hvi1, hst, hFF, hll5⟩
            obtain ⟨rfl, hu1, hwf1, pq, kq, mq, hKq, hpq, hmq, hpreq, hlnq⟩ := nextF_rel hpl (by omega) hok.uq hwf hFF
            clear hFF
            have hVS1 := hVS.step hst hH.mod.size
            replace hH := hH.vault hVS hst hvi1 (by first | exact .here | exact .there .here | exact .there (.there .here) | exact .there (.there (.there .here)) | exact .there (.there (.there (.there .here))) | exact .there (.there (.there (.there (.there .here)))) | exact .there (.there (.there (.there (.there (.there .here))))) | exact .there (.there (.there (.there (.there (.there (.there .here)))))) | exact .there (.there (.there (.there (.there (.there (.there (.there .here))))))) | exact .there (.there (.there (.there (.there (.there (.there (.there (.there .here)))))))) | exact .there (.there (.there (.there (.there (.there (.there (.there (.there (.there .here))))))))) | exact .there (.there (.there (.there (.there (.there (.there (.there (.there (.there (.there .here)))))))))) | exact .there (.there (.there (.there (.there (.there (.there (.there (.there (.there (.there (.there .here))))))))))) | exact .there (.there (.there (.there (.there (.there (.there (.there (.there (.there (.there (.there (.there .here)))))))))))) | exact .there (.there (.there (.there (.there (.there (.there (.there (.there (.there (.there (.there (.there (.there .here))))))))))))) | exact .there (.there (.there (.there (.there (.there (.there (.there (.there (.there (.there (.there (.there (.there (.there .here)))))))))))))))
            have hok1 := hvi1.ok
            have n011 := hvi1.n01
            have n231 := hvi1.n23
            clear hst
            refine ⟨_, rfl, hH.kp0, ?_⟩
            clear hS; intro a hS
            refine r_move hS hH.kp0 rfl rfl ?_; clear hS; intro a hS
            refine r_extract hS hH.kp0 rfl rfl rfl ?_; clear hS; intro a hS
            refine r_extract hS hH.kp0 rfl rfl rfl ?_; clear hS; intro a hS
            refine r_store_h KK5 hKK5 hS hH rfl rfl (by first | exact .here | exact .there .here | exact .there (.there .here) | exact .there (.there (.there .here)) | exact .there (.there (.there (.there .here))) | exact .there (.there (.there (.there (.there .here)))) | exact .there (.there (.there (.there (.there (.there .here))))) | exact .there (.there (.there (.there (.there (.there (.there .here)))))) | exact .there (.there (.there (.there (.there (.there (.there (.there .here))))))) | exact .there (.there (.there (.there (.there (.there (.there (.there (.there .here)))))))) | exact .there (.there (.there (.there (.there (.there (.there (.there (.there (.there .here))))))))) | exact .there (.there (.there (.there (.there (.there (.there (.there (.there (.there (.there .here)))))))))) | exact .there (.there (.there (.there (.there (.there (.there (.there (.there (.there (.there (.there .here))))))))))) | exact .there (.there (.there (.there (.there (.there (.there (.there (.there (.there (.there (.there (.there .here)))))))))))) | exact .there (.there (.there (.there (.there (.there (.there (.there (.there (.there (.there (.there (.there (.there .here))))))))))))) | exact .there (.there (.there (.there (.there (.there (.there (.there (.there (.there (.there (.there (.there (.there (.there .here))))))))))))))) (by repeat (first | exact Sub.nil | refine Sub.cons ?_ ?_ | exact In.here | refine In.there ?_)) (by rw [hcells_len]; exact hK48) Fc.sz43 (by first | exact .inr (by assumption) | exact .inl (by assumption)) ?_
            clear hH; intro w hH
            refine r_assign hS hH.kp0 rfl rfl ?_; clear hS; intro a hS
            refine Sq.nil ?_
            refine blk_n ?_
            refine then_n ?_
            refine reg_plain w0 (Nobody) ?_
            refine r_move hS hH.kp0 rfl rfl ?_; clear hS; intro a hS
            first | refine r_add hS hH.kp0 rfl rfl rfl (by omega) ?_ | refine r_addw hS hH.kp0 rfl rfl rfl ?_
            clear hS; intro a hS
            refine r_assign hS hH.kp0 rfl rfl ?_; clear hS; intro a hS
            refine Sq.nil ?_
            refine then_n ?_
            rw [hKq] at hH
            refine ⟨m0 - 1, by omega, i + 1, _, V1, ts1, ps ++ [p], cs ++ [c], pq, kq, Ls ++ [(nm p ++ nm c ++ nm jm)], _, by omega, ?_, hok1, n011, n231, hVS1, hwf1, hpreq _ _ hroot, by omega, ?_, by simp [hps], by simp [hcs], by simp [hLs], ?_, ?_, ?_, hpreq _ _ hatf, hS.live ⟨rfl, rfl, rfl, rfl, rfl, rfl, trivial⟩, .inr ⟨ob', cap', l2, ?_, ?_, hl2, ?_, ?_, hH.drop [1, 2]⟩⟩
            · omega
            · exact (hStI.pre hpreq).push (by rw [List.length_append, List.length_singleton, hps]; simp [hps]) hpq hmq.key
            · intro h hm; rcases List.mem_append.1 hm with hm | hm; exact hL48 h hm; rw [List.mem_singleton.1 hm]; exact hK48
            · exact rows_push hps hcs hLs hRow
            · rw [List.getElem?_append_left (by simp)]; exact hp0
            · simp
            · rcases hob' with h | h; exact h.elim; exact h
            · simpa using hc2
            · rw [List.length_append, List.length_singleton, htk2, htk]; simp
      · refine wp_exit ?_
        refine then_e ?_
        refine then_e ?_
        refine blk_hit ?_
        refine then_n ?_
        refine c_seq ?_
        refine reg_plain w0 (Nobody) ?_
        refine r_move hS hH.kp0 rfl rfl ?_; clear hS; intro a hS
        refine r_eql hS hH.kp0 rfl rfl rfl ?_; clear hS; intro a hS
        refine r_assign hS hH.kp0 rfl rfl ?_; clear hS; intro a hS
        refine Sq.nil ?_
        refine then_n ?_
        refine wp_ret ?_
        exact leave (.inl rfl) hS rfl (Res.tmp rfl Res.nil) ⟨rfl, hH.mod⟩

end Go.Proofs.Ytcjmehononbadaa
