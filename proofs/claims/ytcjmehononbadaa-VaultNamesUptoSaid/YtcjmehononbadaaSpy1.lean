/- For every input of bulk at most 1048576 the law VaultNames returns true and the input reads as it did. Part Spy1: walks and lemmas of the proof. -/
import Derived.Test.YtcjmehononbadaaVault5
import Derived.Test.YtcjmehononbadaaSymKnow2
namespace Go.Proofs.Ytcjmehononbadaa
open Go.Sym

theorem Fc.fn76 : isFn Try.prog 76 = true := by kernel_rfl
theorem Fc.fn77 : isFn Try.prog 77 = true := by kernel_rfl
theorem Fc.fo110_0 : foff Try.prog 110 0 = some 0 := by kernel_rfl
theorem Fc.fo110_1 : foff Try.prog 110 1 = some 1 := by kernel_rfl
theorem Fc.fo110_2 : foff Try.prog 110 2 = some 2 := by kernel_rfl
theorem Fc.fo93_2 : foff Try.prog 93 2 = some 2 := by kernel_rfl
theorem Fc.sc106 : scB Try.prog 106 = true := by kernel_rfl
theorem Fc.sc4 : scB Try.prog 4 = true := by kernel_rfl
theorem Fc.sc41 : scB Try.prog 41 = true := by kernel_rfl
theorem Fc.sc60 : scB Try.prog 60 = true := by kernel_rfl
theorem Fc.slb41 : slB Try.prog 41 = some 1 := by kernel_rfl
theorem Fc.slb67 : slB Try.prog 67 = some 7 := by kernel_rfl
theorem Fc.sz4 : sizeB Try.prog 4 1 = true := by kernel_rfl
theorem Fc.sz60 : sizeB Try.prog 60 1 = true := by kernel_rfl
theorem Fc.sz93 : sizeB Try.prog 93 7 = true := by kernel_rfl
set_option maxRecDepth 100000 in
set_option maxHeartbeats 2000000 in
theorem read_v (b : Nat) (V : VB) (ts : List Tm) (hm : ts.length ≤ 1000000000) (bs bk : Nat) (tdv : Value) (K : List Bool) (hK : K.length = ts.length) (v : Value) (l : List UInt8) (hl : l.length ≤ 1099511627776) (w0 : World) (hvi : VI w0 b V ts) (h1 : w0.heap[bs]? = some (.cells [.pointer (some ⟨b, 0, none⟩), .slice (some ⟨bk, 0, none⟩) ts.length ts.length, tdv].toArray 110 (0, 0))) (h2 : w0.heap[bk]? = some (.cells (bools K).toArray 4 (0, 0))) (hb : BsF (fun x => x = bk) w0 v l) :
    Calls Try.prog 76 #[.pointer (some ⟨bs, 0, none⟩), v] w0 fun e w' => ∃ u K', e = .returned u ∧ K'.length = ts.length ∧ w'.heap[bk]? = some (.cells (bools K').toArray 4 (0, 0)) ∧ (∀ j, KT K' j ↔ KT K j ∨ (j < ts.length ∧ HasN l j)) ∧ Mod (fun x => x = bk) w0 w' := by
  refine enter Try.func76 rfl rfl rfl ?_
  intro a hS
  have hH := Hp.start w0 (fun x => x = bk)
  obtain ⟨q, qc, hsl⟩ := hb.bs
  have hv9 := hsl.val
  subst hv9
  have nbk : bs ≠ bk := by intro e; rw [e, h2] at h1; simp at h1
  replace hH := ((hH.knowV hvi (by intro p hp; simp at hp)).know h2 (hvi.ne4 h2 (by decide) (by decide))).know h1 (by intro p hp; rcases List.mem_cons.1 hp with rfl | hp; exact Ne.symm nbk; exact hvi.ne4 h1 (by decide) (by decide) p hp)
  obtain ⟨g2, hm2, hf2⟩ := hvi.ok.names
  refine c_seq ?_
  refine reg_plain w0 (fun x => x = bk) ?_
  refine r_assign hS hH.kp0 rfl rfl ?_; clear hS; intro a hS
  refine Sq.nil ?_
  refine then_n ?_
  refine wp_block ?_
  refine c_loop (fun m a w => ∃ (i : Nat) (ii : Int) (K1 : List Bool), m + i = l.length ∧ ii = i ∧ K1.length = ts.length ∧ (∀ j, KT K1 j ↔ KT K j ∨ (j < ts.length ∧ ∃ z, z < i ∧ z + 16 ≤ l.length ∧ (l.drop z).take 16 = nm j)) ∧ St 39 (lv [(0, .pointer (some ⟨bs, 0, none⟩)), (1, .slice q l.length qc), (4, .int .i64 ii)]) a ∧ Hp w0 (fun x => x = bk) [(bs, .cells [.pointer (some ⟨b, 0, none⟩), .slice (some ⟨bk, 0, none⟩) ts.length ts.length, tdv].toArray 110 (0, 0)), (bk, .cells (bools K1).toArray 4 (0, 0)), (b, .cells (V.top ts.length).toArray 71 (0, 0)), (V.sb, .cells V.l.toArray 93 (0, 0)), (V.fb, .map V.es V.c), (V.nb, .map V.es' V.c')] w) (l.length) ?_ ?_
  · exact ⟨0, _, K, by omega, rfl, hK, fun j => by simp, hS.live ⟨rfl, rfl, rfl, trivial⟩, hH⟩
  clear hS hH; intro m a w hI; obtain ⟨i, ii, K1, hmi, hii, hK1, hR, hS, hH⟩ := hI
  refine c_seq ?_
  refine c_seq ?_
  refine reg_plain w0 (fun x => x = bk) ?_
  refine r_move hS hH.kp0 rfl rfl ?_; clear hS; intro a hS
  first | refine r_add hS hH.kp0 rfl rfl rfl (by omega) ?_ | refine r_addw hS hH.kp0 rfl rfl rfl ?_
  clear hS; intro a hS
  refine r_move hS hH.kp0 rfl rfl ?_; clear hS; intro a hS
  refine r_lenSl hS hH.kp0 rfl Fc.isSlice22 rfl ?_; clear hS; intro a hS
  refine r_leq hS hH.kp0 rfl rfl rfl ?_; clear hS; intro a hS
  refine Sq.nil ?_
  refine then_n ?_
  refine c_cond hS rfl (fun hc0 => ?_) (fun hc0 => ?_)
  · have hlt := of_decide_eq_true hc0
    obtain ⟨ba, bo, hq⟩ := hsl.addr (by omega)
    subst hq
    have hcl := fun w k => hb.cells16 i w k
    have hsle := hsl.le
    obtain ⟨g, hg⟩ : ∃ g, g = (l.drop i).take 16 := ⟨_, rfl⟩
    rw [← hg] at hcl
    have hg16 : g.length = 16 := by rw [hg]; simp; omega
    obtain ⟨g0, g1, g2, g3, g4, g5, g6, g7, g8, g9, ga, gb, gc, gd, ge, gf, rfl⟩ := len16 hg16
    obtain ⟨n0, th, e1, e2, hcase⟩ := hf2.look2 [g0, g1, g2, g3, g4, g5, g6, g7, g8, g9, ga, gb, gc, gd, ge, gf]
    refine wp_skip ?_
    refine then_n ?_
    refine c_seq ?_
    refine wp_block ?_
    refine c_seq ?_
    refine reg_draw [(true, 0, []), (true, 1, []), (true, 2, []), (true, 3, []), (true, 4, []), (true, 5, []), (true, 6, []), (true, 7, []), (true, 8, []), (true, 9, []), (true, 10, []), (true, 11, []), (true, 12, []), (true, 13, []), (true, 14, []), (true, 15, []), (true, 16, []), (true, 17, []), (true, 18, []), (true, 19, [])] Fc.mixed (by kernel_rfl) (by kernel_rfl) (by kernel_rfl) (by kernel_rfl) (by kernel_rfl) (by repeat (first | with_reducible exact steady_body | with_reducible apply steady_block | with_reducible apply steady_then | exact steady_body)) hH ?_
    replace hH := hH.drew
    refine r_move hS trivial rfl rfl ?_; clear hS; intro a hS
    refine r_nilCheck hS trivial rfl rfl ?_; clear hS; intro a hS
    refine r_fieldAddr hS trivial rfl Fc.fo110_0 rfl ?_; clear hS; intro a hS
    refine r_load_scS hS rfl (by repeat (first | exact In.here | refine In.there ?_)) Fc.sc23 (by rfl) rfl ?_; clear hS; intro a hS
    refine r_nilCheck hS trivial rfl rfl ?_; clear hS; intro a hS
    refine r_fieldAddr hS trivial rfl Fc.fo71_2 rfl ?_; clear hS; intro a hS
    refine r_load_scS hS rfl (by repeat (first | exact In.here | refine In.there ?_)) Fc.sc69 (by rfl) rfl ?_; clear hS; intro a hS
    refine r_move hS trivial rfl rfl ?_; clear hS; intro a hS
    refine r_move hS trivial rfl rfl ?_; clear hS; intro a hS
    refine r_move hS trivial rfl rfl ?_; clear hS; intro a hS
    first | refine r_add hS trivial rfl rfl rfl (by omega) ?_ | refine r_addw hS trivial rfl rfl rfl ?_
    clear hS; intro a hS
    refine r_slLoHi (ll := i) (hh := i + 16) hS trivial rfl rfl rfl Fc.slb22 hii (by omega) (by omega) (by omega) rfl ?_; clear hS; intro a hS
    rw [if_neg (show ¬ qc = i by omega)] at hS
    refine r_toArr hS trivial rfl Fc.ar26 (by omega) rfl ?_; clear hS; intro a hS
    refine r_load_cellsS (l := hcells [g0, g1, g2, g3, g4, g5, g6, g7, g8, g9, ga, gb, gc, gd, ge, gf]) hS rfl Fc.ag26 rfl (fun w hw => hcl w hw.2) rfl ?_; clear hS; intro a hS
    refine r_lookupS2 Fc.mtN hS rfl rfl (by repeat (first | exact In.here | refine In.there ?_)) hm2 (Fc.arrH.keyOf (h := [g0, g1, g2, g3, g4, g5, g6, g7, g8, g9, ga, gb, gc, gd, ge, gf]) rfl) e1 e2 rfl ?_; clear hS; intro a hS
    refine r_move hS trivial rfl rfl ?_; clear hS; intro a hS
    refine r_extract hS trivial rfl rfl rfl ?_; clear hS; intro a hS
    refine r_extract hS trivial rfl rfl rfl ?_; clear hS; intro a hS
    refine r_assign hS trivial rfl rfl ?_; clear hS; intro a hS
    refine r_assign hS trivial rfl rfl ?_; clear hS; intro a hS
    refine Sq.nil ?_
    refine then_n ?_
    refine c_seq ?_
    refine reg_plain w0 (fun x => x = bk) ?_
    refine r_move hS hH.kp0 rfl rfl ?_; clear hS; intro a hS
    refine Sq.nil ?_
    refine then_n ?_
    refine c_cond hS rfl (fun hc1 => ?_) (fun hc1 => ?_)
    · rcases hcase.symm with ⟨h, _⟩ | ⟨_, j, hj, hn0, hgj⟩
      · rw [h] at hc1; cases hc1
      subst hn0
      refine reg_plain w0 (fun x => x = bk) ?_
      refine r_move hS hH.kp0 rfl rfl ?_; clear hS; intro a hS
      refine r_nilCheck hS hH.kp0 rfl rfl ?_; clear hS; intro a hS
      refine r_fieldAddr hS hH.kp0 rfl Fc.fo110_1 rfl ?_; clear hS; intro a hS
      refine r_load_sc hS hH (by repeat (first | exact Sub.nil | refine Sub.cons ?_ ?_ | exact In.here | refine In.there ?_)) rfl (by repeat (first | exact In.here | refine In.there ?_)) Fc.sc41 (by rfl) rfl ?_; clear hS; intro a hS
      refine r_move hS hH.kp0 rfl rfl ?_; clear hS; intro a hS
      refine r_indexAddrS (j := j) hS hH.kp0 rfl rfl Fc.slb41 rfl hj rfl ?_; clear hS; intro a hS
      refine r_store1 hS hH rfl rfl rfl (by first | exact .here | exact .there .here | exact .there (.there .here) | exact .there (.there (.there .here)) | exact .there (.there (.there (.there .here))) | exact .there (.there (.there (.there (.there .here)))) | exact .there (.there (.there (.there (.there (.there .here))))) | exact .there (.there (.there (.there (.there (.there (.there .here)))))) | exact .there (.there (.there (.there (.there (.there (.there (.there .here))))))) | exact .there (.there (.there (.there (.there (.there (.there (.there (.there .here)))))))) | exact .there (.there (.there (.there (.there (.there (.there (.there (.there (.there .here))))))))) | exact .there (.there (.there (.there (.there (.there (.there (.there (.there (.there (.there .here)))))))))) | exact .there (.there (.there (.there (.there (.there (.there (.there (.there (.there (.there (.there .here))))))))))) | exact .there (.there (.there (.there (.there (.there (.there (.there (.there (.there (.there (.there (.there .here)))))))))))) | exact .there (.there (.there (.there (.there (.there (.there (.there (.there (.there (.there (.there (.there (.there .here))))))))))))) | exact .there (.there (.there (.there (.there (.there (.there (.there (.there (.there (.there (.there (.there (.there (.there .here))))))))))))))) (by repeat (first | exact Sub.nil | refine Sub.cons ?_ ?_ | exact In.here | refine In.there ?_)) Fc.sz4 (by rw [bools_len]; omega) (.inl rfl) ?_; clear hH; intro w hH
      rw [spl_bools (by omega)] at hH
      refine Sq.nil ?_
      obtain ⟨K2, hK2e⟩ : ∃ z, z = K1.set j true := ⟨_, rfl⟩
      rw [← hK2e] at hH
      have hK2 : K2.length = ts.length := by rw [hK2e]; simp [hK1]
      have hR2 : ∀ x, KT K2 x ↔ KT K1 x ∨ (x < ts.length ∧ [g0, g1, g2, g3, g4, g5, g6, g7, g8, g9, ga, gb, gc, gd, ge, gf] = nm x) := by
        intro x; rw [hK2e, KT_set (by omega) x]
        constructor
        · rintro (h | rfl)
          · exact .inl h
          · exact .inr ⟨hj, hgj⟩
        · rintro (h | ⟨h1, h2⟩)
          · exact .inl h
          · exact .inr (nm_inj (by omega) (by omega) (h2.symm.trans hgj))
      refine blk_n ?_
      refine then_n ?_
      refine reg_plain w0 (fun x => x = bk) ?_
      refine r_move hS hH.kp0 rfl rfl ?_; clear hS; intro a hS
      first | refine r_add hS hH.kp0 rfl rfl rfl (by omega) ?_ | refine r_addw hS hH.kp0 rfl rfl rfl ?_
      clear hS; intro a hS
      refine r_assign hS hH.kp0 rfl rfl ?_; clear hS; intro a hS
      refine Sq.nil ?_
      refine then_n ?_
      refine ⟨m - 1, by omega, i + 1, _, K2, by omega, ?_, hK2, ?_, hS.live ⟨rfl, rfl, rfl, trivial⟩, hH⟩
      · omega
      · intro x; rw [hR2 x, hR x]; exact marks (by omega) hg
    · rcases hcase with ⟨h, _⟩ | ⟨_, _, hno⟩
      · rw [h] at hc1; cases hc1
      obtain ⟨K2, hK2e⟩ : ∃ z, z = K1 := ⟨_, rfl⟩
      rw [← hK2e] at hH
      have hK2 : K2.length = ts.length := by rw [hK2e]; exact hK1
      have hR2 : ∀ x, KT K2 x ↔ KT K1 x ∨ (x < ts.length ∧ [g0, g1, g2, g3, g4, g5, g6, g7, g8, g9, ga, gb, gc, gd, ge, gf] = nm x) := by intro x; rw [hK2e]; exact ⟨.inl, fun h => h.elim id (fun h => absurd h.2 (hno x h.1))⟩
      refine wp_skip ?_
      refine blk_n ?_
      refine then_n ?_
      refine reg_plain w0 (fun x => x = bk) ?_
      refine r_move hS hH.kp0 rfl rfl ?_; clear hS; intro a hS
      first | refine r_add hS hH.kp0 rfl rfl rfl (by omega) ?_ | refine r_addw hS hH.kp0 rfl rfl rfl ?_
      clear hS; intro a hS
      refine r_assign hS hH.kp0 rfl rfl ?_; clear hS; intro a hS
      refine Sq.nil ?_
      refine then_n ?_
      refine ⟨m - 1, by omega, i + 1, _, K2, by omega, ?_, hK2, ?_, hS.live ⟨rfl, rfl, rfl, trivial⟩, hH⟩
      · omega
      · intro x; rw [hR2 x, hR x]; exact marks (by omega) hg
  · have hge := of_decide_eq_false hc0
    refine wp_exit ?_
    refine then_e ?_
    refine then_e ?_
    refine blk_hit ?_
    exact leave (.inr rfl) hS rfl Res.nil ⟨_, K1, rfl, hK1, hH.get (.there .here), fun j => (hR j).trans (marks_end (by omega)), hH.mod⟩

set_option maxRecDepth 100000 in
set_option maxHeartbeats 1000000 in
theorem reaches_v (b : Nat) (bs bk n : Nat) (tdv : Value) (K : List Bool) (t : Tm) (ia ib : Nat) (ka kb : Bool) (hta : t.a = ia) (htb : t.b = ib) (hia : ia < n) (hib : ib < n) (hka : K[ia]? = some ka) (hkb : K[ib]? = some kb) (w0 : World) (h1 : w0.heap[bs]? = some (.cells [.pointer (some ⟨b, 0, none⟩), .slice (some ⟨bk, 0, none⟩) n n, tdv].toArray 110 (0, 0))) (h2 : w0.heap[bk]? = some (.cells (bools K).toArray 4 (0, 0))) :
    Calls Try.prog 77 #[.pointer (some ⟨bs, 0, none⟩), tv t] w0 fun e w' => ∃ r, e = .returned (.bool r) ∧ (r = true ↔ Rch (KT K) t) ∧ Ext w0 w' := by
  refine enter Try.func77 rfl rfl rfl ?_
  intro a hS
  have hH := Hp.start w0 (Nobody)
  have nbk : bs ≠ bk := by intro e; rw [e, h2] at h1; simp at h1
  replace hH := (hH.know h2 (by intro p hp; simp at hp)).know h1 (by intro p hp; rcases List.mem_cons.1 hp with rfl | hp; exact Ne.symm nbk; simp at hp)
  refine c_seq ?_
  refine reg_plain w0 (Nobody) ?_
  refine r_box hS hH (by repeat (first | exact Sub.nil | refine Sub.cons ?_ ?_ | exact In.here | refine In.there ?_)) rfl rfl rfl ?_
  clear hS hH; intro a w b3 hb3 hwb3 hS hH
  refine r_assign hS hH.kp0 rfl rfl ?_; clear hS; intro a hS
  refine Sq.nil ?_
  refine then_n ?_
  refine c_seq ?_
  refine c_seq ?_
  refine reg_plain w0 (Nobody) ?_
  refine r_fieldAddr hS hH.kp0 rfl Fc.fo93_0 rfl ?_; clear hS; intro a hS
  refine r_load_sc hS hH (by repeat (first | exact Sub.nil | refine Sub.cons ?_ ?_ | exact In.here | refine In.there ?_)) rfl (by repeat (first | exact In.here | refine In.there ?_)) Fc.sc3 (by rfl) rfl ?_; clear hS; intro a hS
  refine Sq.nil ?_
  refine then_n ?_
  refine wp_block ?_
  refine c_seq ?_
  refine c_seq ?_
  refine reg_plain w0 (Nobody) ?_
  refine r_eql hS hH.kp0 rfl rfl rfl ?_; clear hS; intro a hS
  refine r_assign hS hH.kp0 rfl rfl ?_; clear hS; intro a hS
  refine Sq.nil ?_
  refine then_n ?_
  refine c_cond hS rfl (fun hc0 => ?_) (fun hc0 => ?_)
  · have q0 : t.kind = 2 := by simpa using hc0
    refine wp_skip ?_
    refine then_n ?_
    refine c_condT hS rfl hc0 ?_
    refine c_seq ?_
    refine reg_draw [(true, 0, []), (true, 1, []), (true, 2, []), (true, 3, []), (true, 4, []), (true, 5, []), (true, 6, []), (true, 7, []), (true, 8, [])] Fc.mixed (by kernel_rfl) (by kernel_rfl) (by kernel_rfl) (by kernel_rfl) (by kernel_rfl) (by repeat (first | with_reducible exact steady_body | with_reducible apply steady_block | with_reducible apply steady_then | exact steady_body)) hH ?_
    replace hH := hH.drew
    refine r_move hS trivial rfl rfl ?_; clear hS; intro a hS
    refine r_nilCheck hS trivial rfl rfl ?_; clear hS; intro a hS
    refine r_fieldAddr hS trivial rfl Fc.fo110_1 rfl ?_; clear hS; intro a hS
    refine r_load_scS hS rfl (by repeat (first | exact In.here | refine In.there ?_)) Fc.sc41 (by rfl) rfl ?_; clear hS; intro a hS
    refine r_fieldAddr hS trivial rfl Fc.fo93_1 rfl ?_; clear hS; intro a hS
    refine r_load_scS hS rfl (by repeat (first | exact In.here | refine In.there ?_)) Fc.sc3 (by rfl) rfl ?_; clear hS; intro a hS
    refine r_indexAddrS (j := ia) hS trivial rfl rfl Fc.slb41 hta (by omega) rfl ?_; clear hS; intro a hS
    refine r_load_scS hS rfl (by repeat (first | exact In.here | refine In.there ?_)) Fc.sc4 (v := .bool ka) (by rw [nthV_eq, Nat.zero_add, Nat.mul_one]; exact bools_get hka) rfl ?_; clear hS; intro a hS
    refine r_assign hS trivial rfl rfl ?_; clear hS; intro a hS
    refine Sq.nil ?_
    refine then_n ?_
    refine wp_ret ?_
    refine blk_r ?_
    refine then_r ?_
    refine leave (.inl rfl) hS rfl (Res.tmp rfl Res.nil) ⟨_, rfl, ?_, hH.mod⟩
    rw [reach_iff hta htb hka hkb]
    simp_all
  · have q0 : t.kind ≠ 2 := by simpa using hc0
    refine c_seq ?_
    refine reg_plain w0 (Nobody) ?_
    refine r_eql hS hH.kp0 rfl rfl rfl ?_; clear hS; intro a hS
    refine r_assign hS hH.kp0 rfl rfl ?_; clear hS; intro a hS
    refine Sq.nil ?_
    refine then_n ?_
    refine c_cond hS rfl (fun hc1 => ?_) (fun hc1 => ?_)
    · have q1 : t.kind = 3 := by simpa using hc1
      refine wp_skip ?_
      refine then_n ?_
      refine c_condT hS rfl hc1 ?_
      refine c_seq ?_
      refine reg_draw [(true, 0, []), (true, 1, []), (true, 2, []), (true, 3, []), (true, 4, []), (true, 5, []), (true, 6, []), (true, 7, []), (true, 8, [])] Fc.mixed (by kernel_rfl) (by kernel_rfl) (by kernel_rfl) (by kernel_rfl) (by kernel_rfl) (by repeat (first | with_reducible exact steady_body | with_reducible apply steady_block | with_reducible apply steady_then | exact steady_body)) hH ?_
      replace hH := hH.drew
      refine r_move hS trivial rfl rfl ?_; clear hS; intro a hS
      refine r_nilCheck hS trivial rfl rfl ?_; clear hS; intro a hS
      refine r_fieldAddr hS trivial rfl Fc.fo110_1 rfl ?_; clear hS; intro a hS
      refine r_load_scS hS rfl (by repeat (first | exact In.here | refine In.there ?_)) Fc.sc41 (by rfl) rfl ?_; clear hS; intro a hS
      refine r_fieldAddr hS trivial rfl Fc.fo93_1 rfl ?_; clear hS; intro a hS
      refine r_load_scS hS rfl (by repeat (first | exact In.here | refine In.there ?_)) Fc.sc3 (by rfl) rfl ?_; clear hS; intro a hS
      refine r_indexAddrS (j := ia) hS trivial rfl rfl Fc.slb41 hta (by omega) rfl ?_; clear hS; intro a hS
      refine r_load_scS hS rfl (by repeat (first | exact In.here | refine In.there ?_)) Fc.sc4 (v := .bool ka) (by rw [nthV_eq, Nat.zero_add, Nat.mul_one]; exact bools_get hka) rfl ?_; clear hS; intro a hS
      refine r_assign hS trivial rfl rfl ?_; clear hS; intro a hS
      refine Sq.nil ?_
      refine then_n ?_
      refine wp_ret ?_
      refine blk_r ?_
      refine then_r ?_
      refine leave (.inl rfl) hS rfl (Res.tmp rfl Res.nil) ⟨_, rfl, ?_, hH.mod⟩
      rw [reach_iff hta htb hka hkb]
      simp_all
    · have q1 : t.kind ≠ 3 := by simpa using hc1
      refine reg_plain w0 (Nobody) ?_
      refine r_eql hS hH.kp0 rfl rfl rfl ?_; clear hS; intro a hS
      refine r_assign hS hH.kp0 rfl rfl ?_; clear hS; intro a hS
      refine Sq.nil ?_
      refine then_n ?_
      refine c_cond hS rfl (fun hc2 => ?_) (fun hc2 => ?_)
      · have q2 : t.kind = 5 := by simpa using hc2
        refine c_seq ?_
        refine reg_draw [(true, 0, []), (true, 1, []), (true, 2, []), (true, 3, []), (true, 4, []), (true, 5, []), (true, 6, []), (true, 7, []), (true, 8, [])] Fc.mixed (by kernel_rfl) (by kernel_rfl) (by kernel_rfl) (by kernel_rfl) (by kernel_rfl) (by repeat (first | with_reducible exact steady_body | with_reducible apply steady_block | with_reducible apply steady_then | exact steady_body)) hH ?_
        replace hH := hH.drew
        refine r_move hS trivial rfl rfl ?_; clear hS; intro a hS
        refine r_nilCheck hS trivial rfl rfl ?_; clear hS; intro a hS
        refine r_fieldAddr hS trivial rfl Fc.fo110_1 rfl ?_; clear hS; intro a hS
        refine r_load_scS hS rfl (by repeat (first | exact In.here | refine In.there ?_)) Fc.sc41 (by rfl) rfl ?_; clear hS; intro a hS
        refine r_fieldAddr hS trivial rfl Fc.fo93_1 rfl ?_; clear hS; intro a hS
        refine r_load_scS hS rfl (by repeat (first | exact In.here | refine In.there ?_)) Fc.sc3 (by rfl) rfl ?_; clear hS; intro a hS
        refine r_indexAddrS (j := ia) hS trivial rfl rfl Fc.slb41 hta (by omega) rfl ?_; clear hS; intro a hS
        refine r_load_scS hS rfl (by repeat (first | exact In.here | refine In.there ?_)) Fc.sc4 (v := .bool ka) (by rw [nthV_eq, Nat.zero_add, Nat.mul_one]; exact bools_get hka) rfl ?_; clear hS; intro a hS
        refine r_assign hS trivial rfl rfl ?_; clear hS; intro a hS
        refine Sq.nil ?_
        refine then_n ?_
        refine wp_ret ?_
        refine blk_r ?_
        refine then_r ?_
        refine leave (.inl rfl) hS rfl (Res.tmp rfl Res.nil) ⟨_, rfl, ?_, hH.mod⟩
        rw [reach_iff hta htb hka hkb]
        simp_all
      · have q2 : t.kind ≠ 5 := by simpa using hc2
        refine c_seq ?_
        refine reg_plain w0 (Nobody) ?_
        refine r_eql hS hH.kp0 rfl rfl rfl ?_; clear hS; intro a hS
        refine r_assign hS hH.kp0 rfl rfl ?_; clear hS; intro a hS
        refine Sq.nil ?_
        refine then_n ?_
        refine c_cond hS rfl (fun hc3 => ?_) (fun hc3 => ?_)
        · have q3 : t.kind = 4 := by simpa using hc3
          refine c_seq ?_
          refine reg_draw [(true, 0, []), (true, 1, []), (true, 2, []), (true, 3, []), (true, 4, []), (true, 5, []), (true, 6, []), (true, 7, []), (true, 8, []), (true, 9, []), (true, 10, []), (true, 11, []), (true, 12, []), (true, 13, []), (true, 14, []), (true, 15, []), (true, 16, []), (true, 17, []), (true, 18, [])] Fc.mixed (by kernel_rfl) (by kernel_rfl) (by kernel_rfl) (by kernel_rfl) (by kernel_rfl) (by repeat (first | with_reducible exact steady_body | with_reducible apply steady_block | with_reducible apply steady_then | exact steady_body)) hH ?_
          replace hH := hH.drew
          refine r_move hS trivial rfl rfl ?_; clear hS; intro a hS
          refine r_nilCheck hS trivial rfl rfl ?_; clear hS; intro a hS
          refine r_fieldAddr hS trivial rfl Fc.fo110_1 rfl ?_; clear hS; intro a hS
          refine r_load_scS hS rfl (by repeat (first | exact In.here | refine In.there ?_)) Fc.sc41 (by rfl) rfl ?_; clear hS; intro a hS
          refine r_fieldAddr hS trivial rfl Fc.fo93_1 rfl ?_; clear hS; intro a hS
          refine r_load_scS hS rfl (by repeat (first | exact In.here | refine In.there ?_)) Fc.sc3 (by rfl) rfl ?_; clear hS; intro a hS
          refine r_indexAddrS (j := ia) hS trivial rfl rfl Fc.slb41 hta (by omega) rfl ?_; clear hS; intro a hS
          refine r_load_scS hS rfl (by repeat (first | exact In.here | refine In.there ?_)) Fc.sc4 (v := .bool ka) (by rw [nthV_eq, Nat.zero_add, Nat.mul_one]; exact bools_get hka) rfl ?_; clear hS; intro a hS
          rcases ka with _ | _
          · refine r_move hS trivial rfl rfl ?_; clear hS; intro a hS
            refine Sq.guardYes hS rfl rfl rfl ?_
            refine r_move hS trivial rfl rfl ?_; clear hS; intro a hS
            refine Sq.guardYes hS rfl rfl rfl ?_
            refine r_nilCheck hS trivial rfl rfl ?_; clear hS; intro a hS
            refine Sq.guardYes hS rfl rfl rfl ?_
            refine r_fieldAddr hS trivial rfl Fc.fo110_1 rfl ?_; clear hS; intro a hS
            refine Sq.guardYes hS rfl rfl rfl ?_
            refine r_load_scS hS rfl (by repeat (first | exact In.here | refine In.there ?_)) Fc.sc41 (by rfl) rfl ?_; clear hS; intro a hS
            refine Sq.guardYes hS rfl rfl rfl ?_
            refine r_fieldAddr hS trivial rfl Fc.fo93_2 rfl ?_; clear hS; intro a hS
            refine Sq.guardYes hS rfl rfl rfl ?_
            refine r_load_scS hS rfl (by repeat (first | exact In.here | refine In.there ?_)) Fc.sc3 (by rfl) rfl ?_; clear hS; intro a hS
            refine Sq.guardYes hS rfl rfl rfl ?_
            refine r_indexAddrS (j := ib) hS trivial rfl rfl Fc.slb41 htb (by omega) rfl ?_; clear hS; intro a hS
            refine Sq.guardYes hS rfl rfl rfl ?_
            refine r_load_scS hS rfl (by repeat (first | exact In.here | refine In.there ?_)) Fc.sc4 (v := .bool kb) (by rw [nthV_eq, Nat.zero_add, Nat.mul_one]; exact bools_get hkb) rfl ?_; clear hS; intro a hS
            refine r_pickF hS trivial rfl rfl rfl rfl ?_; clear hS; intro a hS
            refine r_assign hS trivial rfl rfl ?_; clear hS; intro a hS
            refine Sq.nil ?_
            refine then_n ?_
            refine wp_ret ?_
            refine blk_r ?_
            refine then_r ?_
            refine leave (.inl rfl) hS rfl (Res.tmp rfl Res.nil) ⟨_, rfl, ?_, hH.mod⟩
            rw [reach_iff hta htb hka hkb]
            simp_all
          · refine r_move hS trivial rfl rfl ?_; clear hS; intro a hS
            refine Sq.guardNo hS rfl rfl rfl trivial rfl ?_; clear hS; intro a hS
            refine Sq.guardNo hS rfl rfl rfl trivial rfl ?_; clear hS; intro a hS
            refine Sq.guardNo hS rfl rfl rfl trivial rfl ?_; clear hS; intro a hS
            refine Sq.guardNo hS rfl rfl rfl trivial rfl ?_; clear hS; intro a hS
            refine Sq.guardNo hS rfl rfl rfl trivial rfl ?_; clear hS; intro a hS
            refine Sq.guardNo hS rfl rfl rfl trivial rfl ?_; clear hS; intro a hS
            refine Sq.guardNo hS rfl rfl rfl trivial rfl ?_; clear hS; intro a hS
            refine Sq.guardNo hS rfl rfl rfl trivial rfl ?_; clear hS; intro a hS
            refine r_pickT hS trivial rfl rfl rfl rfl ?_; clear hS; intro a hS
            refine r_assign hS trivial rfl rfl ?_; clear hS; intro a hS
            refine Sq.nil ?_
            refine then_n ?_
            refine wp_ret ?_
            refine blk_r ?_
            refine then_r ?_
            refine leave (.inl rfl) hS rfl (Res.tmp rfl Res.nil) ⟨_, rfl, ?_, hH.mod⟩
            rw [reach_iff hta htb hka hkb]
            simp_all
        · have q3 : t.kind ≠ 4 := by simpa using hc3
          refine wp_skip ?_
          refine blk_n ?_
          refine then_n ?_
          refine c_seq ?_
          refine reg_plain w0 (Nobody) ?_
          refine r_assign hS hH.kp0 rfl rfl ?_; clear hS; intro a hS
          refine Sq.nil ?_
          refine then_n ?_
          refine wp_ret ?_
          refine leave (.inl rfl) hS rfl (Res.tmp rfl Res.nil) ⟨_, rfl, ?_, hH.mod⟩
          rw [reach_iff hta htb hka hkb]
          simp_all

set_option maxRecDepth 100000 in
set_option maxHeartbeats 4000000 in
theorem step_v (b : Nat) (V : VB) (ts : List Tm) (hm : ts.length ≤ 1000000000) (hwf : Wf ts) (sp vb ob bs bk : Nat) (tdv : Value) (ls : List (List UInt8)) (hll : ∀ l ∈ ls, l.length ≤ 1099511627776) (hls2 : ls.length ≤ 1099511627776) (K : List Bool) (hK : K.length = ts.length) (w0 : World) (hvi : VI w0 b V ts) (h1 : w0.heap[bs]? = some (.cells [.pointer (some ⟨b, 0, none⟩), .slice (some ⟨bk, 0, none⟩) ts.length ts.length, tdv].toArray 110 (0, 0))) (h2 : w0.heap[bk]? = some (.cells (bools K).toArray 4 (0, 0)))
    (h3 : w0.heap[sp]? = some (.cells [.pointer (some ⟨bs, 0, none⟩)].toArray 106 (0, 0))) (h4 : w0.heap[vb]? = some (.cells [.pointer (some ⟨b, 0, none⟩)].toArray 23 (0, 0))) (hls : SlG (fun x => x = bk ∨ x = bs) w0 tdv ls) :
    Calls Try.prog 75 #[.pointer (some ⟨sp, 0, none⟩), .pointer (some ⟨vb, 0, none⟩), .pointer (some ⟨ob, 0, none⟩)] w0 fun e w' => ∃ more K', e = .returned (.bool more) ∧ w'.heap[bs]? = some (.cells [.pointer (some ⟨b, 0, none⟩), .slice (some ⟨bk, 0, none⟩) ts.length ts.length, .slice none 0 0].toArray 110 (0, 0)) ∧ w'.heap[bk]? = some (.cells (bools K').toArray 4 (0, 0)) ∧ StepR ts ls K more K' ∧ Mod (fun x => x = bk ∨ x = bs) w0 w' := by
  refine enter Try.func75 rfl rfl rfl ?_
  intro a hS
  have hH := Hp.start w0 (fun x => x = bk ∨ x = bs)
  obtain ⟨vs, p, cap, hsl0, hall⟩ := hls
  have hv9 := (hsl0 _ (Mod.refl _ _)).val
  subst hv9
  have nbk : bs ≠ bk := by intro e; rw [e, h2] at h1; simp at h1
  replace hH := ((hH.knowV hvi (by intro p hp; simp at hp)).know h2 (hvi.ne4 h2 (by decide) (by decide))).know h1 (by intro p hp; rcases List.mem_cons.1 hp with rfl | hp; exact Ne.symm nbk; exact hvi.ne4 h1 (by decide) (by decide) p hp)
  replace hH := hH.know h4 (by intro p hp; rcases List.mem_cons.1 hp with rfl | hp; (intro e; rw [← e, h1] at h4; simp at h4); rcases List.mem_cons.1 hp with rfl | hp; (intro e; rw [← e, h2] at h4; simp at h4); exact hvi.ne4 h4 (by decide) (by decide) p hp)
  replace hH := hH.know h3 (by intro p hp; rcases List.mem_cons.1 hp with rfl | hp; (intro e; rw [← e, h4] at h3; simp at h3); rcases List.mem_cons.1 hp with rfl | hp; (intro e; rw [← e, h1] at h3; simp at h3); rcases List.mem_cons.1 hp with rfl | hp; (intro e; rw [← e, h2] at h3; simp at h3); exact hvi.ne4 h3 (by decide) (by decide) p hp)
  refine c_seq ?_
  refine reg_plain w0 (fun x => x = bk ∨ x = bs) ?_
  refine r_assign hS hH.kp0 rfl rfl ?_; clear hS; intro a hS
  refine Sq.nil ?_
  refine then_n ?_
  refine c_seq ?_
  refine c_seq ?_
  refine reg_plain w0 (fun x => x = bk ∨ x = bs) ?_
  refine r_load_sc hS hH (by repeat (first | exact Sub.nil | refine Sub.cons ?_ ?_ | exact In.here | refine In.there ?_)) rfl (by repeat (first | exact In.here | refine In.there ?_)) Fc.sc106 (by rfl) rfl ?_; clear hS; intro a hS
  refine r_nilCheck hS hH.kp0 rfl rfl ?_; clear hS; intro a hS
  refine r_fieldAddr hS hH.kp0 rfl Fc.fo110_2 rfl ?_; clear hS; intro a hS
  refine r_load_sc hS hH (by repeat (first | exact Sub.nil | refine Sub.cons ?_ ?_ | exact In.here | refine In.there ?_)) rfl (by repeat (first | exact In.here | refine In.there ?_)) Fc.sc60 (by rfl) rfl ?_; clear hS; intro a hS
  refine r_lenSl hS hH.kp0 rfl Fc.isSlice60 rfl ?_; clear hS; intro a hS
  refine r_move hS hH.kp0 rfl rfl ?_; clear hS; intro a hS
  refine Sq.nil ?_
  refine then_n ?_
  refine wp_block ?_
  refine c_loop (fun m a w => ∃ (i : Nat) (ii : Int) (K1 : List Bool), m + i = ls.length ∧ ii = i ∧ K1.length = ts.length ∧ cnt K ≤ cnt K1 ∧ (∀ j, KT K1 j ↔ KT K j ∨ (j < ts.length ∧ ∃ l ∈ ls.take i, HasN l j)) ∧ St 100 (lv [(0, .pointer (some ⟨sp, 0, none⟩)), (1, .pointer (some ⟨vb, 0, none⟩)), (2, .pointer (some ⟨ob, 0, none⟩)), (3, .bool false), (12, .slice p ls.length cap), (13, .int .i64 (ls.length : Int)), (14, .int .i64 ii)]) a ∧ Hp w0 (fun x => x = bk ∨ x = bs) [(sp, .cells [.pointer (some ⟨bs, 0, none⟩)].toArray 106 (0, 0)), (vb, .cells [.pointer (some ⟨b, 0, none⟩)].toArray 23 (0, 0)), (bs, .cells [.pointer (some ⟨b, 0, none⟩), .slice (some ⟨bk, 0, none⟩) ts.length ts.length, .slice p ls.length cap].toArray 110 (0, 0)), (bk, .cells (bools K1).toArray 4 (0, 0)), (b, .cells (V.top ts.length).toArray 71 (0, 0)), (V.sb, .cells V.l.toArray 93 (0, 0)), (V.fb, .map V.es V.c), (V.nb, .map V.es' V.c')] w) (ls.length) ?_ ?_
  · exact ⟨0, _, K, by omega, rfl, hK, Nat.le_refl _, fun j => by simp, hS.live ⟨rfl, rfl, rfl, rfl, rfl, rfl, rfl, trivial⟩, hH⟩
  clear hS hH; intro m a w hI; obtain ⟨i, ii, K1, hmi, hii, hK1, hcn, hR, hS, hH⟩ := hI
  refine c_seq ?_
  refine reg_plain w0 (fun x => x = bk ∨ x = bs) ?_
  refine r_lss hS hH.kp0 rfl rfl rfl ?_; clear hS; intro a hS
  refine Sq.nil ?_
  refine then_n ?_
  refine c_seq ?_
  refine c_cond hS rfl (fun hc0 => ?_) (fun hc0 => ?_)
  · have hlt := of_decide_eq_true hc0
    have hsl := hsl0 _ hH.mod
    obtain ⟨ba, bo, hq⟩ := hsl.addr (by omega)
    subst hq
    obtain ⟨x, hx⟩ : ∃ x, vs[i]? = some x := ⟨_, List.getElem?_eq_getElem (by rw [hsl.len]; omega)⟩
    obtain ⟨l, hli, hbx⟩ := hall i x hx
    obtain ⟨bb, oo, hbo, hcell⟩ := hsl.cells i x hx
    cases hbo
    refine wp_skip ?_
    refine then_n ?_
    refine c_seq ?_
    refine wp_block ?_
    refine c_seq ?_
    refine reg_plain w0 (fun x => x = bk ∨ x = bs) ?_
    refine r_indexAddrS (j := i) hS hH.kp0 rfl rfl Fc.slb60 hii (by omega) rfl ?_; clear hS; intro a hS
    refine r_load_cell (v := x) hS hH.kp0 rfl (by rw [Nat.mul_one]; exact hcell) Fc.sc22 rfl ?_; clear hS; intro a hS
    refine r_assign hS hH.kp0 rfl rfl ?_; clear hS; intro a hS
    refine Sq.nil ?_
    refine then_n ?_
    refine reg_plain w0 (fun x => x = bk ∨ x = bs) ?_
    refine r_load_sc hS hH (by repeat (first | exact Sub.nil | refine Sub.cons ?_ ?_ | exact In.here | refine In.there ?_)) rfl (by repeat (first | exact In.here | refine In.there ?_)) Fc.sc106 (by rfl) rfl ?_; clear hS; intro a hS
    refine r_move hS hH.kp0 rfl rfl ?_; clear hS; intro a hS
    refine r_call (l := [.tmp 18, .tmp 19]) hS rfl rfl Fc.fn76 rfl ?_
    refine Calls.mono (read_v b V ts hm bs bk _ K1 hK1 x l (hll l (List.mem_of_getElem? hli)) _ (hH.vin hvi.ok hvi.n01 hvi.n23 (by repeat (first | exact In.here | refine In.there ?_)) (by repeat (first | exact In.here | refine In.there ?_)) (by repeat (first | exact In.here | refine In.there ?_)) (by repeat (first | exact In.here | refine In.there ?_))) (hH.get (b := bs) (by repeat (first | exact In.here | refine In.there ?_))) (hH.get (b := bk) (by repeat (first | exact In.here | refine In.there ?_))) (hbx.go hH.mod (fun z hz => .inl (.inl hz)))) ?_
    rintro e w1 ⟨u, K2, rfl, hK2, hk2, hR2, hM2⟩
    replace hH := hH.wrote hM2 hk2 (by first | exact .here | exact .there .here | exact .there (.there .here) | exact .there (.there (.there .here)) | exact .there (.there (.there (.there .here))) | exact .there (.there (.there (.there (.there .here)))) | exact .there (.there (.there (.there (.there (.there .here))))) | exact .there (.there (.there (.there (.there (.there (.there .here)))))) | exact .there (.there (.there (.there (.there (.there (.there (.there .here))))))) | exact .there (.there (.there (.there (.there (.there (.there (.there (.there .here)))))))) | exact .there (.there (.there (.there (.there (.there (.there (.there (.there (.there .here))))))))) | exact .there (.there (.there (.there (.there (.there (.there (.there (.there (.there (.there .here)))))))))) | exact .there (.there (.there (.there (.there (.there (.there (.there (.there (.there (.there (.there .here))))))))))) | exact .there (.there (.there (.there (.there (.there (.there (.there (.there (.there (.there (.there (.there .here)))))))))))) | exact .there (.there (.there (.there (.there (.there (.there (.there (.there (.there (.there (.there (.there (.there .here))))))))))))) | exact .there (.there (.there (.there (.there (.there (.there (.there (.there (.there (.there (.there (.there (.there (.there .here))))))))))))))) (.inl (.inl rfl))
    refine ⟨_, rfl, hH.kp0, ?_⟩
    clear hS; intro a hS
    refine Sq.nil ?_
    refine blk_n ?_
    refine then_n ?_
    refine reg_plain w0 (fun x => x = bk ∨ x = bs) ?_
    first | refine r_add hS hH.kp0 rfl rfl rfl (by omega) ?_ | refine r_addw hS hH.kp0 rfl rfl rfl ?_
    clear hS; intro a hS
    refine r_move hS hH.kp0 rfl rfl ?_; clear hS; intro a hS
    refine Sq.nil ?_
    refine then_n ?_
    refine ⟨m - 1, by omega, i + 1, _, K2, by omega, ?_, hK2, ?_, ?_, hS.live ⟨rfl, rfl, rfl, rfl, rfl, rfl, rfl, trivial⟩, hH⟩
    · omega
    · exact Nat.le_trans hcn (cnt_mono (hK2.trans hK1.symm) (fun j hj => (hR2 j).2 (.inl hj)))
    · exact fun j => seen_step hli (hR j) (hR2 j)
  · have hge := of_decide_eq_false hc0
    have hii0 : i = ls.length := by omega
    subst hii0
    rw [List.take_of_length_le (Nat.le_refl _)] at hR
    obtain ⟨K0, hK0e⟩ : ∃ z, z = K1 := ⟨_, rfl⟩
    rw [← hK0e] at hH hK1 hR hcn
    have hK0 := hK1
    clear hK1
    refine wp_exit ?_
    refine then_e ?_
    refine then_e ?_
    refine blk_hit ?_
    refine then_n ?_
    refine c_seq ?_
    refine reg_plain w0 (fun x => x = bk ∨ x = bs) ?_
    refine r_load_sc hS hH (by repeat (first | exact Sub.nil | refine Sub.cons ?_ ?_ | exact In.here | refine In.there ?_)) rfl (by repeat (first | exact In.here | refine In.there ?_)) Fc.sc106 (by rfl) rfl ?_; clear hS; intro a hS
    refine r_nilCheck hS hH.kp0 rfl rfl ?_; clear hS; intro a hS
    refine r_fieldAddr hS hH.kp0 rfl Fc.fo110_2 rfl ?_; clear hS; intro a hS
    refine r_store1 hS hH rfl rfl rfl (by first | exact .here | exact .there .here | exact .there (.there .here) | exact .there (.there (.there .here)) | exact .there (.there (.there (.there .here))) | exact .there (.there (.there (.there (.there .here)))) | exact .there (.there (.there (.there (.there (.there .here))))) | exact .there (.there (.there (.there (.there (.there (.there .here)))))) | exact .there (.there (.there (.there (.there (.there (.there (.there .here))))))) | exact .there (.there (.there (.there (.there (.there (.there (.there (.there .here)))))))) | exact .there (.there (.there (.there (.there (.there (.there (.there (.there (.there .here))))))))) | exact .there (.there (.there (.there (.there (.there (.there (.there (.there (.there (.there .here)))))))))) | exact .there (.there (.there (.there (.there (.there (.there (.there (.there (.there (.there (.there .here))))))))))) | exact .there (.there (.there (.there (.there (.there (.there (.there (.there (.there (.there (.there (.there .here)))))))))))) | exact .there (.there (.there (.there (.there (.there (.there (.there (.there (.there (.there (.there (.there (.there .here))))))))))))) | exact .there (.there (.there (.there (.there (.there (.there (.there (.there (.there (.there (.there (.there (.there (.there .here))))))))))))))) (by repeat (first | exact Sub.nil | refine Sub.cons ?_ ?_ | exact In.here | refine In.there ?_)) Fc.sz60 (of_decide_eq_true rfl) (.inl (.inr rfl)) ?_
    clear hH; intro w hH
    refine Sq.nil ?_
    refine then_n ?_
    refine c_seq ?_
    refine reg_plain w0 (fun x => x = bk ∨ x = bs) ?_
    refine r_assign hS hH.kp0 rfl rfl ?_; clear hS; intro a hS
    refine Sq.nil ?_
    refine then_n ?_
    refine c_seq ?_
    refine c_seq ?_
    refine reg_plain w0 (fun x => x = bk ∨ x = bs) ?_
    refine r_load_sc hS hH (by repeat (first | exact Sub.nil | refine Sub.cons ?_ ?_ | exact In.here | refine In.there ?_)) rfl (by repeat (first | exact In.here | refine In.there ?_)) Fc.sc23 (by rfl) rfl ?_; clear hS; intro a hS
    refine r_nilCheck hS hH.kp0 rfl rfl ?_; clear hS; intro a hS
    refine r_fieldAddr hS hH.kp0 rfl Fc.fo71_0 rfl ?_; clear hS; intro a hS
    refine r_load_sc hS hH (by repeat (first | exact Sub.nil | refine Sub.cons ?_ ?_ | exact In.here | refine In.there ?_)) rfl (by repeat (first | exact In.here | refine In.there ?_)) Fc.sc67 (by rfl) rfl ?_; clear hS; intro a hS
    refine r_lenSl hS hH.kp0 rfl Fc.isSlice67 rfl ?_; clear hS; intro a hS
    refine r_move hS hH.kp0 rfl rfl ?_; clear hS; intro a hS
    refine Sq.nil ?_
    refine then_n ?_
    refine wp_block ?_
    refine c_loop (fun m a w => ∃ (i : Nat) (ii : Int) (K1 : List Bool) (mr : Bool), m + i = ts.length ∧ ii = i ∧ PassI ts K0 K1 mr i ∧ St 100 (lv [(0, .pointer (some ⟨sp, 0, none⟩)), (1, .pointer (some ⟨vb, 0, none⟩)), (2, .pointer (some ⟨ob, 0, none⟩)), (3, .bool false), (6, .bool mr), (28, .slice (some ⟨V.sb, 0, none⟩) ts.length V.cap), (29, .int .i64 (ts.length : Int)), (30, .int .i64 ii)]) a ∧ Hp w0 (fun x => x = bk ∨ x = bs) [(sp, .cells [.pointer (some ⟨bs, 0, none⟩)].toArray 106 (0, 0)), (vb, .cells [.pointer (some ⟨b, 0, none⟩)].toArray 23 (0, 0)), (bs, .cells [.pointer (some ⟨b, 0, none⟩), .slice (some ⟨bk, 0, none⟩) ts.length ts.length, .slice none 0 0].toArray 110 (0, 0)), (bk, .cells (bools K1).toArray 4 (0, 0)), (b, .cells (V.top ts.length).toArray 71 (0, 0)), (V.sb, .cells V.l.toArray 93 (0, 0)), (V.fb, .map V.es V.c), (V.nb, .map V.es' V.c')] w) (ts.length) ?_ ?_
    · exact ⟨0, _, K0, false, by omega, rfl, PassI.start hK0, hS.live ⟨rfl, rfl, rfl, rfl, rfl, rfl, rfl, rfl, trivial⟩, hH⟩
    clear hS hH; intro m a w hI; obtain ⟨i, ii, K1, mr, hmi, hii, hP, hS, hH⟩ := hI
    have hK1 := hP.len
    refine c_seq ?_
    refine reg_plain w0 (fun x => x = bk ∨ x = bs) ?_
    refine r_lss hS hH.kp0 rfl rfl rfl ?_; clear hS; intro a hS
    refine Sq.nil ?_
    refine then_n ?_
    refine c_seq ?_
    refine c_cond hS rfl (fun hc1 => ?_) (fun hc1 => ?_)
    · have hlt := of_decide_eq_true hc1
      obtain ⟨t, ht⟩ : ∃ t, ts[i]? = some t := ⟨_, List.getElem?_eq_getElem (by omega)⟩
      have hrow := hvi.ok.row ht
      obtain ⟨hwa1, hwa2⟩ := hwf.a i t ht
      obtain ⟨hwb1, hwb2⟩ := hwf.b i t ht
      have hk6 : (t.kind == 6) = false := by have := hwf.no i t ht; simpa using this
      obtain ⟨ia, hta⟩ := Int.eq_ofNat_of_zero_le hwa1
      obtain ⟨ib, htb⟩ := Int.eq_ofNat_of_zero_le hwb1
      have hia : ia < ts.length := by omega
      have hib : ib < ts.length := by omega
      obtain ⟨ka, hka⟩ : ∃ k, K1[ia]? = some k := ⟨_, List.getElem?_eq_getElem (by omega)⟩
      obtain ⟨kb, hkb⟩ : ∃ k, K1[ib]? = some k := ⟨_, List.getElem?_eq_getElem (by omega)⟩
      obtain ⟨ki, hki⟩ : ∃ k, K1[i]? = some k := ⟨_, List.getElem?_eq_getElem (by omega)⟩
      refine wp_skip ?_
      refine then_n ?_
      refine c_seq ?_
      refine wp_block ?_
      refine c_seq ?_
      refine reg_plain w0 (fun x => x = bk ∨ x = bs) ?_
      refine r_move hS hH.kp0 rfl rfl ?_; clear hS; intro a hS
      refine r_indexAddrS (j := i) hS hH.kp0 rfl rfl Fc.slb67 hii (by omega) rfl ?_; clear hS; intro a hS
      refine r_load_at (vs := t.cells) hS hH (by repeat (first | exact Sub.nil | refine Sub.cons ?_ ?_ | exact In.here | refine In.there ?_)) rfl (by repeat (first | exact In.here | refine In.there ?_)) Fc.ag93 (by rw [Nat.zero_add]; exact hrow.2) (by rw [Nat.zero_add]; exact hrow.1) rfl ?_; clear hS; intro a hS
      refine r_alloc hS hH (by repeat (first | exact Sub.nil | refine Sub.cons ?_ ?_ | exact In.here | refine In.there ?_)) Fc.zc93 rfl ?_
      clear hS hH; intro a w b8 hb8 hwb8 hS hH
      refine r_assign hS hH.kp0 rfl rfl ?_; clear hS; intro a hS
      refine r_store_row hS hH rfl rfl (by first | exact .here | exact .there .here | exact .there (.there .here) | exact .there (.there (.there .here)) | exact .there (.there (.there (.there .here))) | exact .there (.there (.there (.there (.there .here)))) | exact .there (.there (.there (.there (.there (.there .here))))) | exact .there (.there (.there (.there (.there (.there (.there .here)))))) | exact .there (.there (.there (.there (.there (.there (.there (.there .here))))))) | exact .there (.there (.there (.there (.there (.there (.there (.there (.there .here)))))))) | exact .there (.there (.there (.there (.there (.there (.there (.there (.there (.there .here))))))))) | exact .there (.there (.there (.there (.there (.there (.there (.there (.there (.there (.there .here)))))))))) | exact .there (.there (.there (.there (.there (.there (.there (.there (.there (.there (.there (.there .here))))))))))) | exact .there (.there (.there (.there (.there (.there (.there (.there (.there (.there (.there (.there (.there .here)))))))))))) | exact .there (.there (.there (.there (.there (.there (.there (.there (.there (.there (.there (.there (.there (.there .here))))))))))))) | exact .there (.there (.there (.there (.there (.there (.there (.there (.there (.there (.there (.there (.there (.there (.there .here))))))))))))))) (by repeat (first | exact Sub.nil | refine Sub.cons ?_ ?_ | exact In.here | refine In.there ?_)) Fc.sz93 (one_cells t) (by rfl) (.inr (by assumption)) ?_; clear hH; intro w hH
      refine Sq.nil ?_
      refine then_n ?_
      refine c_seq ?_
      refine c_seq ?_
      refine reg_plain w0 (fun x => x = bk ∨ x = bs) ?_
      refine r_load_sc hS hH (by repeat (first | exact Sub.nil | refine Sub.cons ?_ ?_ | exact In.here | refine In.there ?_)) rfl (by repeat (first | exact In.here | refine In.there ?_)) Fc.sc106 (by rfl) rfl ?_; clear hS; intro a hS
      refine r_nilCheck hS hH.kp0 rfl rfl ?_; clear hS; intro a hS
      refine r_fieldAddr hS hH.kp0 rfl Fc.fo110_1 rfl ?_; clear hS; intro a hS
      refine r_load_sc hS hH (by repeat (first | exact Sub.nil | refine Sub.cons ?_ ?_ | exact In.here | refine In.there ?_)) rfl (by repeat (first | exact In.here | refine In.there ?_)) Fc.sc41 (by rfl) rfl ?_; clear hS; intro a hS
      refine r_move hS hH.kp0 rfl rfl ?_; clear hS; intro a hS
      refine r_indexAddrS (j := i) hS hH.kp0 rfl rfl Fc.slb41 hii (by omega) rfl ?_; clear hS; intro a hS
      refine r_load_sc hS hH (by repeat (first | exact Sub.nil | refine Sub.cons ?_ ?_ | exact In.here | refine In.there ?_)) rfl (by repeat (first | exact In.here | refine In.there ?_)) Fc.sc4 (v := .bool ki) (by rw [nthV_eq, Nat.zero_add, Nat.mul_one]; exact bools_get hki) rfl ?_; clear hS; intro a hS
      refine r_not hS hH.kp0 rfl rfl ?_; clear hS; intro a hS
      rcases ki with _ | _
      · refine r_move hS hH.kp0 rfl rfl ?_; clear hS; intro a hS
        refine Sq.guardYes hS rfl rfl rfl ?_
        refine r_load_sc hS hH (by repeat (first | exact Sub.nil | refine Sub.cons ?_ ?_ | exact In.here | refine In.there ?_)) rfl (by repeat (first | exact In.here | refine In.there ?_)) Fc.sc106 (by rfl) rfl ?_; clear hS; intro a hS
        refine Sq.guardYes hS rfl rfl rfl ?_
        refine r_load_row hS hH (by repeat (first | exact Sub.nil | refine Sub.cons ?_ ?_ | exact In.here | refine In.there ?_)) rfl (by repeat (first | exact In.here | refine In.there ?_)) Fc.ag93 (by rfl) rfl ?_; clear hS; intro a hS
        refine Sq.guardYes hS rfl rfl rfl ?_
        refine r_call (l := [.tmp 44, .tmp 45]) hS rfl rfl Fc.fn77 rfl ?_
        refine Calls.mono (reaches_v b bs bk ts.length _ K1 t ia ib ka kb hta htb hia hib hka hkb _ (hH.get (b := bs) (by repeat (first | exact In.here | refine In.there ?_))) (hH.get (b := bk) (by repeat (first | exact In.here | refine In.there ?_)))) ?_
        rintro e w1 ⟨r, rfl, hr, hE⟩
        replace hH := hH.ext hE
        refine ⟨_, rfl, hH.kp0, ?_⟩
        clear hS; intro a hS
        refine r_pickT hS hH.kp0 rfl rfl rfl rfl ?_; clear hS; intro a hS
        refine Sq.nil ?_
        refine then_n ?_
        refine c_cond hS rfl (fun hc2 => ?_) (fun hc2 => ?_)
        · have hreach := hr.1 hc2
          refine reg_plain w0 (fun x => x = bk ∨ x = bs) ?_
          refine r_load_sc hS hH (by repeat (first | exact Sub.nil | refine Sub.cons ?_ ?_ | exact In.here | refine In.there ?_)) rfl (by repeat (first | exact In.here | refine In.there ?_)) Fc.sc106 (by rfl) rfl ?_; clear hS; intro a hS
          refine r_nilCheck hS hH.kp0 rfl rfl ?_; clear hS; intro a hS
          refine r_fieldAddr hS hH.kp0 rfl Fc.fo110_1 rfl ?_; clear hS; intro a hS
          refine r_load_sc hS hH (by repeat (first | exact Sub.nil | refine Sub.cons ?_ ?_ | exact In.here | refine In.there ?_)) rfl (by repeat (first | exact In.here | refine In.there ?_)) Fc.sc41 (by rfl) rfl ?_; clear hS; intro a hS
          refine r_move hS hH.kp0 rfl rfl ?_; clear hS; intro a hS
          refine r_indexAddrS (j := i) hS hH.kp0 rfl rfl Fc.slb41 hii (by omega) rfl ?_; clear hS; intro a hS
          refine r_store1 hS hH rfl rfl rfl (by first | exact .here | exact .there .here | exact .there (.there .here) | exact .there (.there (.there .here)) | exact .there (.there (.there (.there .here))) | exact .there (.there (.there (.there (.there .here)))) | exact .there (.there (.there (.there (.there (.there .here))))) | exact .there (.there (.there (.there (.there (.there (.there .here)))))) | exact .there (.there (.there (.there (.there (.there (.there (.there .here))))))) | exact .there (.there (.there (.there (.there (.there (.there (.there (.there .here)))))))) | exact .there (.there (.there (.there (.there (.there (.there (.there (.there (.there .here))))))))) | exact .there (.there (.there (.there (.there (.there (.there (.there (.there (.there (.there .here)))))))))) | exact .there (.there (.there (.there (.there (.there (.there (.there (.there (.there (.there (.there .here))))))))))) | exact .there (.there (.there (.there (.there (.there (.there (.there (.there (.there (.there (.there (.there .here)))))))))))) | exact .there (.there (.there (.there (.there (.there (.there (.there (.there (.there (.there (.there (.there (.there .here))))))))))))) | exact .there (.there (.there (.there (.there (.there (.there (.there (.there (.there (.there (.there (.there (.there (.there .here))))))))))))))) (by repeat (first | exact Sub.nil | refine Sub.cons ?_ ?_ | exact In.here | refine In.there ?_)) Fc.sz4 (by rw [bools_len]; omega) (.inl (.inl rfl)) ?_; clear hH; intro w hH
          rw [spl_bools (by omega)] at hH
          refine r_assign hS hH.kp0 rfl rfl ?_; clear hS; intro a hS
          refine Sq.nil ?_
          obtain ⟨K2, hK2e⟩ : ∃ z, z = K1.set i true := ⟨_, rfl⟩
          rw [← hK2e] at hH
          obtain ⟨mr2, hmr2⟩ : ∃ z, z = true := ⟨_, rfl⟩
          rw [← hmr2] at hS
          have hP2 : PassI ts K0 K2 mr2 (i + 1) := by rw [hK2e, hmr2]; exact hP.set hki ht hreach
          refine then_n ?_
          refine c_seq ?_
          refine reg_draw [(true, 0, []), (true, 1, []), (true, 2, []), (true, 3, []), (true, 4, []), (true, 5, []), (true, 6, []), (true, 7, []), (true, 8, []), (true, 9, []), (true, 10, []), (true, 11, []), (true, 12, []), (true, 13, []), (true, 14, []), (true, 15, []), (true, 16, []), (true, 17, []), (true, 18, []), (true, 19, []), (true, 20, []), (true, 21, []), (true, 22, []), (true, 23, []), (true, 24, []), (true, 25, []), (true, 26, []), (true, 27, []), (true, 28, [])] Fc.mixed (by kernel_rfl) (by kernel_rfl) (by kernel_rfl) (by kernel_rfl) (by kernel_rfl) (by repeat (first | with_reducible exact steady_body | with_reducible apply steady_block | with_reducible apply steady_then | exact steady_body)) hH ?_
          replace hH := hH.drew
          refine r_fieldAddr hS trivial rfl Fc.fo93_0 rfl ?_; clear hS; intro a hS
          refine r_load_scS hS rfl (by repeat (first | exact In.here | refine In.there ?_)) Fc.sc3 (by rfl) rfl ?_; clear hS; intro a hS
          refine r_eql hS trivial rfl rfl rfl ?_; clear hS; intro a hS
          refine r_move hS trivial rfl rfl ?_; clear hS; intro a hS
          refine Sq.guardNo hS rfl rfl hk6 trivial rfl ?_; clear hS; intro a hS
          refine Sq.guardNo hS rfl rfl hk6 trivial rfl ?_; clear hS; intro a hS
          refine Sq.guardNo hS rfl rfl hk6 trivial rfl ?_; clear hS; intro a hS
          refine Sq.guardNo hS rfl rfl hk6 trivial rfl ?_; clear hS; intro a hS
          refine Sq.guardNo hS rfl rfl hk6 trivial rfl ?_; clear hS; intro a hS
          refine Sq.guardNo hS rfl rfl hk6 trivial rfl ?_; clear hS; intro a hS
          refine Sq.guardNo hS rfl rfl hk6 trivial rfl ?_; clear hS; intro a hS
          refine r_pickF hS trivial rfl hk6 rfl rfl ?_; clear hS; intro a hS
          refine r_move hS trivial rfl rfl ?_; clear hS; intro a hS
          refine Sq.guardNo hS rfl rfl rfl trivial rfl ?_; clear hS; intro a hS
          refine Sq.guardNo hS rfl rfl rfl trivial rfl ?_; clear hS; intro a hS
          refine Sq.guardNo hS rfl rfl rfl trivial rfl ?_; clear hS; intro a hS
          refine Sq.guardNo hS rfl rfl rfl trivial rfl ?_; clear hS; intro a hS
          refine Sq.guardNo hS rfl rfl rfl trivial rfl ?_; clear hS; intro a hS
          refine Sq.guardNo hS rfl rfl rfl trivial rfl ?_; clear hS; intro a hS
          refine Sq.guardNo hS rfl rfl rfl trivial rfl ?_; clear hS; intro a hS
          refine Sq.guardNo hS rfl rfl rfl trivial rfl ?_; clear hS; intro a hS
          refine r_pickF hS trivial rfl rfl rfl rfl ?_; clear hS; intro a hS
          refine r_move hS trivial rfl rfl ?_; clear hS; intro a hS
          refine Sq.guardNo hS rfl rfl rfl trivial rfl ?_; clear hS; intro a hS
          refine Sq.guardNo hS rfl rfl rfl trivial rfl ?_; clear hS; intro a hS
          refine Sq.guardNo hS rfl rfl rfl trivial rfl ?_; clear hS; intro a hS
          refine Sq.guardNo hS rfl rfl rfl trivial rfl ?_; clear hS; intro a hS
          refine Sq.guardNo hS rfl rfl rfl trivial rfl ?_; clear hS; intro a hS
          refine r_pickF hS trivial rfl rfl rfl rfl ?_; clear hS; intro a hS
          refine Sq.nil ?_
          refine then_n ?_
          refine c_condF hS rfl rfl ?_
          refine wp_skip ?_
          refine blk_n ?_
          refine then_n ?_
          refine reg_plain w0 (fun x => x = bk ∨ x = bs) ?_
          first | refine r_add hS hH.kp0 rfl rfl rfl (by omega) ?_ | refine r_addw hS hH.kp0 rfl rfl rfl ?_
          clear hS; intro a hS
          refine r_move hS hH.kp0 rfl rfl ?_; clear hS; intro a hS
          refine Sq.nil ?_
          refine then_n ?_
          refine ⟨m - 1, by omega, i + 1, _, K2, mr2, by omega, ?_, hP2, hS.live ⟨rfl, rfl, rfl, rfl, rfl, rfl, rfl, rfl, trivial⟩, hH.drop [0]⟩
          omega
        · have hreach : ¬ Rch (KT K1) t := fun h => by have := hr.2 h; rw [this] at hc2; cases hc2
          obtain ⟨K2, hK2e⟩ : ∃ z, z = K1 := ⟨_, rfl⟩
          obtain ⟨mr2, hmr2⟩ : ∃ z, z = mr := ⟨_, rfl⟩
          rw [← hK2e] at hH
          rw [← hmr2] at hS
          have hP2 : PassI ts K0 K2 mr2 (i + 1) := by rw [hK2e, hmr2]; exact hP.same (.inr (fun u hu => by rw [ht] at hu; cases hu; exact hreach))
          refine wp_skip ?_
          refine then_n ?_
          refine c_seq ?_
          refine reg_draw [(true, 0, []), (true, 1, []), (true, 2, []), (true, 3, []), (true, 4, []), (true, 5, []), (true, 6, []), (true, 7, []), (true, 8, []), (true, 9, []), (true, 10, []), (true, 11, []), (true, 12, []), (true, 13, []), (true, 14, []), (true, 15, []), (true, 16, []), (true, 17, []), (true, 18, []), (true, 19, []), (true, 20, []), (true, 21, []), (true, 22, []), (true, 23, []), (true, 24, []), (true, 25, []), (true, 26, []), (true, 27, []), (true, 28, [])] Fc.mixed (by kernel_rfl) (by kernel_rfl) (by kernel_rfl) (by kernel_rfl) (by kernel_rfl) (by repeat (first | with_reducible exact steady_body | with_reducible apply steady_block | with_reducible apply steady_then | exact steady_body)) hH ?_
          replace hH := hH.drew
          refine r_fieldAddr hS trivial rfl Fc.fo93_0 rfl ?_; clear hS; intro a hS
          refine r_load_scS hS rfl (by repeat (first | exact In.here | refine In.there ?_)) Fc.sc3 (by rfl) rfl ?_; clear hS; intro a hS
          refine r_eql hS trivial rfl rfl rfl ?_; clear hS; intro a hS
          refine r_move hS trivial rfl rfl ?_; clear hS; intro a hS
          refine Sq.guardNo hS rfl rfl hk6 trivial rfl ?_; clear hS; intro a hS
          refine Sq.guardNo hS rfl rfl hk6 trivial rfl ?_; clear hS; intro a hS
          refine Sq.guardNo hS rfl rfl hk6 trivial rfl ?_; clear hS; intro a hS
          refine Sq.guardNo hS rfl rfl hk6 trivial rfl ?_; clear hS; intro a hS
          refine Sq.guardNo hS rfl rfl hk6 trivial rfl ?_; clear hS; intro a hS
          refine Sq.guardNo hS rfl rfl hk6 trivial rfl ?_; clear hS; intro a hS
          refine Sq.guardNo hS rfl rfl hk6 trivial rfl ?_; clear hS; intro a hS
          refine r_pickF hS trivial rfl hk6 rfl rfl ?_; clear hS; intro a hS
          refine r_move hS trivial rfl rfl ?_; clear hS; intro a hS
          refine Sq.guardNo hS rfl rfl rfl trivial rfl ?_; clear hS; intro a hS
          refine Sq.guardNo hS rfl rfl rfl trivial rfl ?_; clear hS; intro a hS
          refine Sq.guardNo hS rfl rfl rfl trivial rfl ?_; clear hS; intro a hS
          refine Sq.guardNo hS rfl rfl rfl trivial rfl ?_; clear hS; intro a hS
          refine Sq.guardNo hS rfl rfl rfl trivial rfl ?_; clear hS; intro a hS
          refine Sq.guardNo hS rfl rfl rfl trivial rfl ?_; clear hS; intro a hS
          refine Sq.guardNo hS rfl rfl rfl trivial rfl ?_; clear hS; intro a hS
          refine Sq.guardNo hS rfl rfl rfl trivial rfl ?_; clear hS; intro a hS
          refine r_pickF hS trivial rfl rfl rfl rfl ?_; clear hS; intro a hS
          refine r_move hS trivial rfl rfl ?_; clear hS; intro a hS
          refine Sq.guardNo hS rfl rfl rfl trivial rfl ?_; clear hS; intro a hS
          refine Sq.guardNo hS rfl rfl rfl trivial rfl ?_; clear hS; intro a hS
          refine Sq.guardNo hS rfl rfl rfl trivial rfl ?_; clear hS; intro a hS
          refine Sq.guardNo hS rfl rfl rfl trivial rfl ?_; clear hS; intro a hS
          refine Sq.guardNo hS rfl rfl rfl trivial rfl ?_; clear hS; intro a hS
          refine r_pickF hS trivial rfl rfl rfl rfl ?_; clear hS; intro a hS
          refine Sq.nil ?_
          refine then_n ?_
          refine c_condF hS rfl rfl ?_
          refine wp_skip ?_
          refine blk_n ?_
          refine then_n ?_
          refine reg_plain w0 (fun x => x = bk ∨ x = bs) ?_
          first | refine r_add hS hH.kp0 rfl rfl rfl (by omega) ?_ | refine r_addw hS hH.kp0 rfl rfl rfl ?_
          clear hS; intro a hS
          refine r_move hS hH.kp0 rfl rfl ?_; clear hS; intro a hS
          refine Sq.nil ?_
          refine then_n ?_
          refine ⟨m - 1, by omega, i + 1, _, K2, mr2, by omega, ?_, hP2, hS.live ⟨rfl, rfl, rfl, rfl, rfl, rfl, rfl, rfl, trivial⟩, hH.drop [0]⟩
          omega
      · refine r_move hS hH.kp0 rfl rfl ?_; clear hS; intro a hS
        refine Sq.guardNo hS rfl rfl rfl hH.kp0 rfl ?_; clear hS; intro a hS
        refine Sq.guardNo hS rfl rfl rfl hH.kp0 rfl ?_; clear hS; intro a hS
        refine Sq.guardNo hS rfl rfl rfl hH.kp0 rfl ?_; clear hS; intro a hS
        refine r_pickF hS hH.kp0 rfl rfl rfl rfl ?_; clear hS; intro a hS
        refine Sq.nil ?_
        obtain ⟨K2, hK2e⟩ : ∃ z, z = K1 := ⟨_, rfl⟩
        obtain ⟨mr2, hmr2⟩ : ∃ z, z = mr := ⟨_, rfl⟩
        rw [← hK2e] at hH
        rw [← hmr2] at hS
        have hP2 : PassI ts K0 K2 mr2 (i + 1) := by rw [hK2e, hmr2]; exact hP.same (.inl hki)
        refine then_n ?_
        refine c_condF hS rfl rfl ?_
        refine wp_skip ?_
        refine then_n ?_
        refine c_seq ?_
        refine reg_draw [(true, 0, []), (true, 1, []), (true, 2, []), (true, 3, []), (true, 4, []), (true, 5, []), (true, 6, []), (true, 7, []), (true, 8, []), (true, 9, []), (true, 10, []), (true, 11, []), (true, 12, []), (true, 13, []), (true, 14, []), (true, 15, []), (true, 16, []), (true, 17, []), (true, 18, []), (true, 19, []), (true, 20, []), (true, 21, []), (true, 22, []), (true, 23, []), (true, 24, []), (true, 25, []), (true, 26, []), (true, 27, []), (true, 28, [])] Fc.mixed (by kernel_rfl) (by kernel_rfl) (by kernel_rfl) (by kernel_rfl) (by kernel_rfl) (by repeat (first | with_reducible exact steady_body | with_reducible apply steady_block | with_reducible apply steady_then | exact steady_body)) hH ?_
        replace hH := hH.drew
        refine r_fieldAddr hS trivial rfl Fc.fo93_0 rfl ?_; clear hS; intro a hS
        refine r_load_scS hS rfl (by repeat (first | exact In.here | refine In.there ?_)) Fc.sc3 (by rfl) rfl ?_; clear hS; intro a hS
        refine r_eql hS trivial rfl rfl rfl ?_; clear hS; intro a hS
        refine r_move hS trivial rfl rfl ?_; clear hS; intro a hS
        refine Sq.guardNo hS rfl rfl hk6 trivial rfl ?_; clear hS; intro a hS
        refine Sq.guardNo hS rfl rfl hk6 trivial rfl ?_; clear hS; intro a hS
        refine Sq.guardNo hS rfl rfl hk6 trivial rfl ?_; clear hS; intro a hS
        refine Sq.guardNo hS rfl rfl hk6 trivial rfl ?_; clear hS; intro a hS
        refine Sq.guardNo hS rfl rfl hk6 trivial rfl ?_; clear hS; intro a hS
        refine Sq.guardNo hS rfl rfl hk6 trivial rfl ?_; clear hS; intro a hS
        refine Sq.guardNo hS rfl rfl hk6 trivial rfl ?_; clear hS; intro a hS
        refine r_pickF hS trivial rfl hk6 rfl rfl ?_; clear hS; intro a hS
        refine r_move hS trivial rfl rfl ?_; clear hS; intro a hS
        refine Sq.guardNo hS rfl rfl rfl trivial rfl ?_; clear hS; intro a hS
        refine Sq.guardNo hS rfl rfl rfl trivial rfl ?_; clear hS; intro a hS
        refine Sq.guardNo hS rfl rfl rfl trivial rfl ?_; clear hS; intro a hS
        refine Sq.guardNo hS rfl rfl rfl trivial rfl ?_; clear hS; intro a hS
        refine Sq.guardNo hS rfl rfl rfl trivial rfl ?_; clear hS; intro a hS
        refine Sq.guardNo hS rfl rfl rfl trivial rfl ?_; clear hS; intro a hS
        refine Sq.guardNo hS rfl rfl rfl trivial rfl ?_; clear hS; intro a hS
        refine Sq.guardNo hS rfl rfl rfl trivial rfl ?_; clear hS; intro a hS
        refine r_pickF hS trivial rfl rfl rfl rfl ?_; clear hS; intro a hS
        refine r_move hS trivial rfl rfl ?_; clear hS; intro a hS
        refine Sq.guardNo hS rfl rfl rfl trivial rfl ?_; clear hS; intro a hS
        refine Sq.guardNo hS rfl rfl rfl trivial rfl ?_; clear hS; intro a hS
        refine Sq.guardNo hS rfl rfl rfl trivial rfl ?_; clear hS; intro a hS
        refine Sq.guardNo hS rfl rfl rfl trivial rfl ?_; clear hS; intro a hS
        refine Sq.guardNo hS rfl rfl rfl trivial rfl ?_; clear hS; intro a hS
        refine r_pickF hS trivial rfl rfl rfl rfl ?_; clear hS; intro a hS
        refine Sq.nil ?_
        refine then_n ?_
        refine c_condF hS rfl rfl ?_
        refine wp_skip ?_
        refine blk_n ?_
        refine then_n ?_
        refine reg_plain w0 (fun x => x = bk ∨ x = bs) ?_
        first | refine r_add hS hH.kp0 rfl rfl rfl (by omega) ?_ | refine r_addw hS hH.kp0 rfl rfl rfl ?_
        clear hS; intro a hS
        refine r_move hS hH.kp0 rfl rfl ?_; clear hS; intro a hS
        refine Sq.nil ?_
        refine then_n ?_
        refine ⟨m - 1, by omega, i + 1, _, K2, mr2, by omega, ?_, hP2, hS.live ⟨rfl, rfl, rfl, rfl, rfl, rfl, rfl, rfl, trivial⟩, hH.drop [0]⟩
        omega
    · have hge := of_decide_eq_false hc1
      have hii0 : i = ts.length := by omega
      subst hii0
      refine wp_exit ?_
      refine then_e ?_
      refine then_e ?_
      refine blk_hit ?_
      refine then_n ?_
      refine c_seq ?_
      refine reg_plain w0 (fun x => x = bk ∨ x = bs) ?_
      refine r_move hS hH.kp0 rfl rfl ?_; clear hS; intro a hS
      refine r_assign hS hH.kp0 rfl rfl ?_; clear hS; intro a hS
      refine Sq.nil ?_
      refine then_n ?_
      refine wp_ret ?_
      exact leave (.inl rfl) hS rfl (Res.tmp rfl Res.nil) ⟨mr, K1, rfl, hH.get (b := bs) (by repeat (first | exact In.here | refine In.there ?_)), hH.get (b := bk) (by repeat (first | exact In.here | refine In.there ?_)), StepR.of hcn hR hP, hH.mod⟩

end Go.Proofs.Ytcjmehononbadaa
