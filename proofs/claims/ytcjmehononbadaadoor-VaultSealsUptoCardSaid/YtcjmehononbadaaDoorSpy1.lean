/- What is sealed is opened by its key, number and further bytes alone; who does not know the key does not come to know it (for inputs up to the size bound). Part Spy1: walks and lemmas of the proof. -/
import Derived.Test.YtcjmehononbadaaDoorVault1
import Derived.Test.YtcjmehononbadaaDoorSymBytes
import Derived.Test.YtcjmehononbadaaDoorSymKnow2
namespace Go.Proofs.YtcjmehononbadaaDoor
open Go.Sym

theorem Fc.el31 : elB Tryd.prog 31 = some (22, 1, 24) := by kernel_rfl
theorem Fc.fo64_1 : foff Tryd.prog 64 1 = some 1 := by kernel_rfl
theorem Fc.fo64_2 : foff Tryd.prog 64 2 = some 2 := by kernel_rfl
theorem Fc.fo71_0 : foff Tryd.prog 71 0 = some 0 := by kernel_rfl
theorem Fc.fo71_1 : foff Tryd.prog 71 1 = some 1 := by kernel_rfl
theorem Fc.inf22 : (Tryd.prog.info? 22).isSome = true := by kernel_rfl
theorem Fc.isSlice22 : isSlice Tryd.prog 22 = true := by kernel_rfl
theorem Fc.isSlice31 : isSlice Tryd.prog 31 = true := by kernel_rfl
theorem Fc.isStr9 : isStr Tryd.prog 9 = true := by kernel_rfl
theorem Fc.ni31 : notInt Tryd.prog 31 = true := by kernel_rfl
theorem Fc.sc23 : scB Tryd.prog 23 = true := by kernel_rfl
theorem Fc.sc4 : scB Tryd.prog 4 = true := by kernel_rfl
theorem Fc.sc69 : scB Tryd.prog 69 = true := by kernel_rfl
theorem Fc.slb22 : slB Tryd.prog 22 = some 1 := by kernel_rfl
theorem Fc.slb69 : slB Tryd.prog 69 = some 1 := by kernel_rfl
theorem Fc.sz4 : sizeB Tryd.prog 4 1 = true := by kernel_rfl
theorem Fc.u8s22 : u8s Tryd.prog 22 = true := by kernel_rfl
theorem Fc.uls31 : Tryd.prog.underlying 31 = some (.slice 22) := by kernel_rfl
set_option maxRecDepth 100000 in
set_option maxHeartbeats 2000000 in
theorem read_v (b : Nat) (V : VB) (ts : List Tm) (hm : ts.length ≤ 1000000000) (bs bk : Nat) (tdv : Value) (K : List Bool) (hK : K.length = ts.length) (v : Value) (l : List UInt8) (hl : l.length ≤ 1099511627776) (w0 : World) (hvi : VI w0 b V ts) (h1 : w0.heap[bs]? = some (.cells [.pointer (some ⟨b, 0, none⟩), .slice (some ⟨bk, 0, none⟩) ts.length ts.length, tdv].toArray 71 (0, 0))) (h2 : w0.heap[bk]? = some (.cells (bools K).toArray 4 (0, 0))) (hb : BsF (fun x => x = bk) w0 v l) :
    Calls Tryd.prog 56 #[.pointer (some ⟨bs, 0, none⟩), v] w0 fun e w' => ∃ u K', e = .returned u ∧ K'.length = ts.length ∧ w'.heap[bk]? = some (.cells (bools K').toArray 4 (0, 0)) ∧ (∀ j, KT K' j ↔ KT K j ∨ (j < ts.length ∧ HasN l j)) ∧ Mod (fun x => x = bk) w0 w' := by
  refine enter Tryd.func56 rfl rfl rfl ?_
  intro a hS
  have hH := Hp.start w0 (fun x => x = bk)
  obtain ⟨q, qc, hsl⟩ := hb.bs
  have hv9 := hsl.val
  subst hv9
  have nbk : bs ≠ bk := by intro e; rw [e, h2] at h1; simp at h1
  replace hH := ((hH.knowV hvi (by intro p hp; simp at hp)).know h2 (hvi.ne4 h2 (by decide) (by decide))).know h1 (by intro p hp; rcases List.mem_cons.1 hp with rfl | hp; exact Ne.symm nbk; exact hvi.ne4 h1 (by decide) (by decide) p hp)
  obtain ⟨g2, hm2, hf2⟩ := hvi.ok.names
  refine c_seq ?_
  refine reg_plain w0 (fun x => x = bk) ?_
  refine r_assign hS hH.kp0 rfl rfl ?_; clear hS; intro a hS
  refine Sq.nil ?_
  refine then_n ?_
  refine wp_block ?_
  refine c_loop (fun m a w => ∃ (i : Nat) (ii : Int) (K1 : List Bool), m + i = l.length ∧ ii = i ∧ K1.length = ts.length ∧ (∀ j, KT K1 j ↔ KT K j ∨ (j < ts.length ∧ ∃ z, z < i ∧ z + 16 ≤ l.length ∧ (l.drop z).take 16 = nm j)) ∧ St 39 (lv [(0, .pointer (some ⟨bs, 0, none⟩)), (1, .slice q l.length qc), (4, .int .i64 ii)]) a ∧ Hp w0 (fun x => x = bk) [(bs, .cells [.pointer (some ⟨b, 0, none⟩), .slice (some ⟨bk, 0, none⟩) ts.length ts.length, tdv].toArray 71 (0, 0)), (bk, .cells (bools K1).toArray 4 (0, 0)), (b, .cells (V.top ts.length).toArray 41 (0, 0)), (V.sb, .cells V.l.toArray 64 (0, 0)), (V.fb, .map V.es V.c), (V.nb, .map V.es' V.c')] w) (l.length) ?_ ?_
  · exact ⟨0, _, K, by omega, rfl, hK, fun j => by simp, hS.live ⟨rfl, rfl, rfl, trivial⟩, hH⟩
  clear hS hH; intro m a w hI; obtain ⟨i, ii, K1, hmi, hii, hK1, hR, hS, hH⟩ := hI
  refine c_seq ?_
  refine c_seq ?_
  refine reg_plain w0 (fun x => x = bk) ?_
  refine r_move hS hH.kp0 rfl rfl ?_; clear hS; intro a hS
  (first | refine r_add hS hH.kp0 rfl rfl rfl (by omega) ?_ | refine r_addw hS hH.kp0 rfl rfl rfl ?_)
  clear hS; intro a hS
  refine r_move hS hH.kp0 rfl rfl ?_; clear hS; intro a hS
  refine r_lenSl hS hH.kp0 rfl Fc.isSlice22 rfl ?_; clear hS; intro a hS
  refine r_leq hS hH.kp0 rfl rfl rfl ?_; clear hS; intro a hS
  refine Sq.nil ?_
  refine then_n ?_
  refine c_cond hS rfl (fun hc0 => ?_) (fun hc0 => ?_)
  · have hlt := of_decide_eq_true hc0
    obtain ⟨ba, bo, hq⟩ := hsl.addr (by omega)
    subst hq
    have hcl := fun w k => hb.cells16 i w k
    have hsle := hsl.le
    obtain ⟨g, hg⟩ : ∃ g, g = (l.drop i).take 16 := ⟨_, rfl⟩
    rw [← hg] at hcl
    have hg16 : g.length = 16 := by rw [hg]; simp; omega
    obtain ⟨g0, g1, g2, g3, g4, g5, g6, g7, g8, g9, ga, gb, gc, gd, ge, gf, rfl⟩ := len16 hg16
    obtain ⟨n0, th, e1, e2, hcase⟩ := hf2.look2 [g0, g1, g2, g3, g4, g5, g6, g7, g8, g9, ga, gb, gc, gd, ge, gf]
    refine wp_skip ?_
    refine then_n ?_
    refine c_seq ?_
    refine wp_block ?_
    refine c_seq ?_
    refine reg_draw [(true, 0, []), (true, 1, []), (true, 2, []), (true, 3, []), (true, 4, []), (true, 5, []), (true, 6, []), (true, 7, []), (true, 8, []), (true, 9, []), (true, 10, []), (true, 11, []), (true, 12, []), (true, 13, []), (true, 14, []), (true, 15, []), (true, 16, []), (true, 17, []), (true, 18, []), (true, 19, [])] Fc.mixed (by kernel_rfl) (by kernel_rfl) (by kernel_rfl) (by kernel_rfl) (by kernel_rfl) (by repeat (first | with_reducible exact steady_body | with_reducible apply steady_block | with_reducible apply steady_then | exact steady_body)) hH ?_
    replace hH := hH.drew
    refine r_move hS trivial rfl rfl ?_; clear hS; intro a hS
    refine r_nilCheck hS trivial rfl rfl ?_; clear hS; intro a hS
    refine r_fieldAddr hS trivial rfl Fc.fo71_0 rfl ?_; clear hS; intro a hS
    refine r_load_scS hS rfl (by repeat (first | exact In.here | refine In.there ?_)) Fc.sc23 (by rfl) rfl ?_; clear hS; intro a hS
    refine r_nilCheck hS trivial rfl rfl ?_; clear hS; intro a hS
    refine r_fieldAddr hS trivial rfl Fc.fo41_2 rfl ?_; clear hS; intro a hS
    refine r_load_scS hS rfl (by repeat (first | exact In.here | refine In.there ?_)) Fc.sc39 (by rfl) rfl ?_; clear hS; intro a hS
    refine r_move hS trivial rfl rfl ?_; clear hS; intro a hS
    refine r_move hS trivial rfl rfl ?_; clear hS; intro a hS
    refine r_move hS trivial rfl rfl ?_; clear hS; intro a hS
    (first | refine r_add hS trivial rfl rfl rfl (by omega) ?_ | refine r_addw hS trivial rfl rfl rfl ?_)
    clear hS; intro a hS
    refine r_slLoHi (ll := i) (hh := i + 16) hS trivial rfl rfl rfl Fc.slb22 hii (by omega) (by omega) (by omega) rfl ?_; clear hS; intro a hS
    rw [if_neg (show ¬ qc = i by omega)] at hS
    refine r_toArr hS trivial rfl Fc.ar26 (by omega) rfl ?_; clear hS; intro a hS
    refine r_load_cellsS (l := hcells [g0, g1, g2, g3, g4, g5, g6, g7, g8, g9, ga, gb, gc, gd, ge, gf]) hS rfl Fc.ag26 rfl (fun w hw => hcl w hw.2) rfl ?_; clear hS; intro a hS
    refine r_lookupS2 Fc.mtN hS rfl rfl (by repeat (first | exact In.here | refine In.there ?_)) hm2 (Fc.arrH.keyOf (h := [g0, g1, g2, g3, g4, g5, g6, g7, g8, g9, ga, gb, gc, gd, ge, gf]) rfl) e1 e2 rfl ?_; clear hS; intro a hS
    refine r_move hS trivial rfl rfl ?_; clear hS; intro a hS
    refine r_extract hS trivial rfl rfl rfl ?_; clear hS; intro a hS
    refine r_extract hS trivial rfl rfl rfl ?_; clear hS; intro a hS
    refine r_assign hS trivial rfl rfl ?_; clear hS; intro a hS
    refine r_assign hS trivial rfl rfl ?_; clear hS; intro a hS
    refine Sq.nil ?_
    refine then_n ?_
    refine c_seq ?_
    refine reg_plain w0 (fun x => x = bk) ?_
    refine r_move hS hH.kp0 rfl rfl ?_; clear hS; intro a hS
    refine Sq.nil ?_
    refine then_n ?_
    refine c_cond hS rfl (fun hc1 => ?_) (fun hc1 => ?_)
    · rcases hcase.symm with ⟨h, _⟩ | ⟨_, j, hj, hn0, hgj⟩
      · rw [h] at hc1; cases hc1
      subst hn0
      refine reg_plain w0 (fun x => x = bk) ?_
      refine r_move hS hH.kp0 rfl rfl ?_; clear hS; intro a hS
      refine r_nilCheck hS hH.kp0 rfl rfl ?_; clear hS; intro a hS
      refine r_fieldAddr hS hH.kp0 rfl Fc.fo71_1 rfl ?_; clear hS; intro a hS
      refine r_load_sc hS hH (by repeat (first | exact Sub.nil | refine Sub.cons ?_ ?_ | exact In.here | refine In.there ?_)) rfl (by repeat (first | exact In.here | refine In.there ?_)) Fc.sc69 (by rfl) rfl ?_; clear hS; intro a hS
      refine r_move hS hH.kp0 rfl rfl ?_; clear hS; intro a hS
      refine r_indexAddrS (j := j) hS hH.kp0 rfl rfl Fc.slb69 rfl hj rfl ?_; clear hS; intro a hS
      refine r_store1 hS hH rfl rfl rfl (by repeat (first | exact .here | apply In.there | apply Put.there | apply Del.there)) (by repeat (first | exact Sub.nil | refine Sub.cons ?_ ?_ | exact In.here | refine In.there ?_)) Fc.sz4 (by rw [bools_len]; omega) (.inl rfl) ?_; clear hH; intro w hH
      rw [spl_bools (by omega)] at hH
      refine Sq.nil ?_
      obtain ⟨K2, hK2e⟩ : ∃ z, z = K1.set j true := ⟨_, rfl⟩
      rw [← hK2e] at hH
      have hK2 : K2.length = ts.length := by rw [hK2e]; simp [hK1]
      have hR2 : ∀ x, KT K2 x ↔ KT K1 x ∨ (x < ts.length ∧ [g0, g1, g2, g3, g4, g5, g6, g7, g8, g9, ga, gb, gc, gd, ge, gf] = nm x) := by
        intro x; rw [hK2e, KT_set (by omega) x]
        constructor
        · rintro (h | rfl)
          · exact .inl h
          · exact .inr ⟨hj, hgj⟩
        · rintro (h | ⟨h1, h2⟩)
          · exact .inl h
          · exact .inr (nm_inj (by omega) (by omega) (h2.symm.trans hgj))
      refine blk_n ?_
      refine then_n ?_
      refine reg_plain w0 (fun x => x = bk) ?_
      refine r_move hS hH.kp0 rfl rfl ?_; clear hS; intro a hS
      (first | refine r_add hS hH.kp0 rfl rfl rfl (by omega) ?_ | refine r_addw hS hH.kp0 rfl rfl rfl ?_)
      clear hS; intro a hS
      refine r_assign hS hH.kp0 rfl rfl ?_; clear hS; intro a hS
      refine Sq.nil ?_
      refine then_n ?_
      refine ⟨m - 1, by omega, i + 1, _, K2, by omega, ?_, hK2, ?_, hS.live ⟨rfl, rfl, rfl, trivial⟩, hH⟩
      · omega
      · intro x; rw [hR2 x, hR x]; exact marks (by omega) hg
    · rcases hcase with ⟨h, _⟩ | ⟨_, _, hno⟩
      · rw [h] at hc1; cases hc1
      obtain ⟨K2, hK2e⟩ : ∃ z, z = K1 := ⟨_, rfl⟩
      rw [← hK2e] at hH
      have hK2 : K2.length = ts.length := by rw [hK2e]; exact hK1
      have hR2 : ∀ x, KT K2 x ↔ KT K1 x ∨ (x < ts.length ∧ [g0, g1, g2, g3, g4, g5, g6, g7, g8, g9, ga, gb, gc, gd, ge, gf] = nm x) := by intro x; rw [hK2e]; exact ⟨.inl, fun h => h.elim id (fun h => absurd h.2 (hno x h.1))⟩
      refine wp_skip ?_
      refine blk_n ?_
      refine then_n ?_
      refine reg_plain w0 (fun x => x = bk) ?_
      refine r_move hS hH.kp0 rfl rfl ?_; clear hS; intro a hS
      (first | refine r_add hS hH.kp0 rfl rfl rfl (by omega) ?_ | refine r_addw hS hH.kp0 rfl rfl rfl ?_)
      clear hS; intro a hS
      refine r_assign hS hH.kp0 rfl rfl ?_; clear hS; intro a hS
      refine Sq.nil ?_
      refine then_n ?_
      refine ⟨m - 1, by omega, i + 1, _, K2, by omega, ?_, hK2, ?_, hS.live ⟨rfl, rfl, rfl, trivial⟩, hH⟩
      · omega
      · intro x; rw [hR2 x, hR x]; exact marks (by omega) hg
  · have hge := of_decide_eq_false hc0
    refine wp_exit ?_
    refine then_e ?_
    refine then_e ?_
    refine blk_hit ?_
    exact leave (.inr rfl) hS rfl Res.nil ⟨_, K1, rfl, hK1, hH.get (.there .here), fun j => (hR j).trans (marks_end (by omega)), hH.mod⟩

set_option maxRecDepth 100000 in
set_option maxHeartbeats 1000000 in
theorem reaches_v (b : Nat) (bs bk n : Nat) (tdv : Value) (K : List Bool) (t : Tm) (ia ib : Nat) (ka kb : Bool) (hta : t.a = ia) (htb : t.b = ib) (hia : ia < n) (hib : ib < n) (hka : K[ia]? = some ka) (hkb : K[ib]? = some kb) (w0 : World) (h1 : w0.heap[bs]? = some (.cells [.pointer (some ⟨b, 0, none⟩), .slice (some ⟨bk, 0, none⟩) n n, tdv].toArray 71 (0, 0))) (h2 : w0.heap[bk]? = some (.cells (bools K).toArray 4 (0, 0))) :
    Calls Tryd.prog 57 #[.pointer (some ⟨bs, 0, none⟩), tv t] w0 fun e w' => ∃ r, e = .returned (.bool r) ∧ (r = true ↔ Rch (KT K) t) ∧ Ext w0 w' := by
  refine enter Tryd.func57 rfl rfl rfl ?_
  intro a hS
  have hH := Hp.start w0 (Nobody)
  have nbk : bs ≠ bk := by intro e; rw [e, h2] at h1; simp at h1
  replace hH := (hH.know h2 (by intro p hp; simp at hp)).know h1 (by intro p hp; rcases List.mem_cons.1 hp with rfl | hp; exact Ne.symm nbk; simp at hp)
  refine c_seq ?_
  refine reg_plain w0 (Nobody) ?_
  refine r_box hS hH (by repeat (first | exact Sub.nil | refine Sub.cons ?_ ?_ | exact In.here | refine In.there ?_)) rfl rfl rfl ?_
  clear hS hH; intro a w b3 hb3 hwb3 hS hH
  refine r_assign hS hH.kp0 rfl rfl ?_; clear hS; intro a hS
  refine Sq.nil ?_
  refine then_n ?_
  refine c_seq ?_
  refine c_seq ?_
  refine reg_plain w0 (Nobody) ?_
  refine r_fieldAddr hS hH.kp0 rfl Fc.fo64_0 rfl ?_; clear hS; intro a hS
  refine r_load_sc hS hH (by repeat (first | exact Sub.nil | refine Sub.cons ?_ ?_ | exact In.here | refine In.there ?_)) rfl (by repeat (first | exact In.here | refine In.there ?_)) Fc.sc3 (by rfl) rfl ?_; clear hS; intro a hS
  refine Sq.nil ?_
  refine then_n ?_
  refine wp_block ?_
  refine c_seq ?_
  refine c_seq ?_
  refine reg_plain w0 (Nobody) ?_
  refine r_eql hS hH.kp0 rfl rfl rfl ?_; clear hS; intro a hS
  refine r_assign hS hH.kp0 rfl rfl ?_; clear hS; intro a hS
  refine Sq.nil ?_
  refine then_n ?_
  refine c_cond hS rfl (fun hc0 => ?_) (fun hc0 => ?_)
  · have q0 : t.kind = 2 := by simpa using hc0
    refine wp_skip ?_
    refine then_n ?_
    refine c_condT hS rfl hc0 ?_
    refine c_seq ?_
    refine reg_draw [(true, 0, []), (true, 1, []), (true, 2, []), (true, 3, []), (true, 4, []), (true, 5, []), (true, 6, []), (true, 7, []), (true, 8, [])] Fc.mixed (by kernel_rfl) (by kernel_rfl) (by kernel_rfl) (by kernel_rfl) (by kernel_rfl) (by repeat (first | with_reducible exact steady_body | with_reducible apply steady_block | with_reducible apply steady_then | exact steady_body)) hH ?_
    replace hH := hH.drew
    refine r_move hS trivial rfl rfl ?_; clear hS; intro a hS
    refine r_nilCheck hS trivial rfl rfl ?_; clear hS; intro a hS
    refine r_fieldAddr hS trivial rfl Fc.fo71_1 rfl ?_; clear hS; intro a hS
    refine r_load_scS hS rfl (by repeat (first | exact In.here | refine In.there ?_)) Fc.sc69 (by rfl) rfl ?_; clear hS; intro a hS
    refine r_fieldAddr hS trivial rfl Fc.fo64_1 rfl ?_; clear hS; intro a hS
    refine r_load_scS hS rfl (by repeat (first | exact In.here | refine In.there ?_)) Fc.sc3 (by rfl) rfl ?_; clear hS; intro a hS
    refine r_indexAddrS (j := ia) hS trivial rfl rfl Fc.slb69 hta (by omega) rfl ?_; clear hS; intro a hS
    refine r_load_scS hS rfl (by repeat (first | exact In.here | refine In.there ?_)) Fc.sc4 (v := .bool ka) (by rw [nthV_eq, Nat.zero_add, Nat.mul_one]; exact bools_get hka) rfl ?_; clear hS; intro a hS
    refine r_assign hS trivial rfl rfl ?_; clear hS; intro a hS
    refine Sq.nil ?_
    refine then_n ?_
    refine wp_ret ?_
    refine blk_r ?_
    refine then_r ?_
    refine leave (.inl rfl) hS rfl (Res.tmp rfl Res.nil) ⟨_, rfl, ?_, hH.mod⟩
    rw [reach_iff hta htb hka hkb]
    simp_all
  · have q0 : t.kind ≠ 2 := by simpa using hc0
    refine c_seq ?_
    refine reg_plain w0 (Nobody) ?_
    refine r_eql hS hH.kp0 rfl rfl rfl ?_; clear hS; intro a hS
    refine r_assign hS hH.kp0 rfl rfl ?_; clear hS; intro a hS
    refine Sq.nil ?_
    refine then_n ?_
    refine c_cond hS rfl (fun hc1 => ?_) (fun hc1 => ?_)
    · have q1 : t.kind = 3 := by simpa using hc1
      refine wp_skip ?_
      refine then_n ?_
      refine c_condT hS rfl hc1 ?_
      refine c_seq ?_
      refine reg_draw [(true, 0, []), (true, 1, []), (true, 2, []), (true, 3, []), (true, 4, []), (true, 5, []), (true, 6, []), (true, 7, []), (true, 8, [])] Fc.mixed (by kernel_rfl) (by kernel_rfl) (by kernel_rfl) (by kernel_rfl) (by kernel_rfl) (by repeat (first | with_reducible exact steady_body | with_reducible apply steady_block | with_reducible apply steady_then | exact steady_body)) hH ?_
      replace hH := hH.drew
      refine r_move hS trivial rfl rfl ?_; clear hS; intro a hS
      refine r_nilCheck hS trivial rfl rfl ?_; clear hS; intro a hS
      refine r_fieldAddr hS trivial rfl Fc.fo71_1 rfl ?_; clear hS; intro a hS
      refine r_load_scS hS rfl (by repeat (first | exact In.here | refine In.there ?_)) Fc.sc69 (by rfl) rfl ?_; clear hS; intro a hS
      refine r_fieldAddr hS trivial rfl Fc.fo64_1 rfl ?_; clear hS; intro a hS
      refine r_load_scS hS rfl (by repeat (first | exact In.here | refine In.there ?_)) Fc.sc3 (by rfl) rfl ?_; clear hS; intro a hS
      refine r_indexAddrS (j := ia) hS trivial rfl rfl Fc.slb69 hta (by omega) rfl ?_; clear hS; intro a hS
      refine r_load_scS hS rfl (by repeat (first | exact In.here | refine In.there ?_)) Fc.sc4 (v := .bool ka) (by rw [nthV_eq, Nat.zero_add, Nat.mul_one]; exact bools_get hka) rfl ?_; clear hS; intro a hS
      refine r_assign hS trivial rfl rfl ?_; clear hS; intro a hS
      refine Sq.nil ?_
      refine then_n ?_
      refine wp_ret ?_
      refine blk_r ?_
      refine then_r ?_
      refine leave (.inl rfl) hS rfl (Res.tmp rfl Res.nil) ⟨_, rfl, ?_, hH.mod⟩
      rw [reach_iff hta htb hka hkb]
      simp_all
    · have q1 : t.kind ≠ 3 := by simpa using hc1
      refine reg_plain w0 (Nobody) ?_
      refine r_eql hS hH.kp0 rfl rfl rfl ?_; clear hS; intro a hS
      refine r_assign hS hH.kp0 rfl rfl ?_; clear hS; intro a hS
      refine Sq.nil ?_
      refine then_n ?_
      refine c_cond hS rfl (fun hc2 => ?_) (fun hc2 => ?_)
      · have q2 : t.kind = 5 := by simpa using hc2
        refine c_seq ?_
        refine reg_draw [(true, 0, []), (true, 1, []), (true, 2, []), (true, 3, []), (true, 4, []), (true, 5, []), (true, 6, []), (true, 7, []), (true, 8, [])] Fc.mixed (by kernel_rfl) (by kernel_rfl) (by kernel_rfl) (by kernel_rfl) (by kernel_rfl) (by repeat (first | with_reducible exact steady_body | with_reducible apply steady_block | with_reducible apply steady_then | exact steady_body)) hH ?_
        replace hH := hH.drew
        refine r_move hS trivial rfl rfl ?_; clear hS; intro a hS
        refine r_nilCheck hS trivial rfl rfl ?_; clear hS; intro a hS
        refine r_fieldAddr hS trivial rfl Fc.fo71_1 rfl ?_; clear hS; intro a hS
        refine r_load_scS hS rfl (by repeat (first | exact In.here | refine In.there ?_)) Fc.sc69 (by rfl) rfl ?_; clear hS; intro a hS
        refine r_fieldAddr hS trivial rfl Fc.fo64_1 rfl ?_; clear hS; intro a hS
        refine r_load_scS hS rfl (by repeat (first | exact In.here | refine In.there ?_)) Fc.sc3 (by rfl) rfl ?_; clear hS; intro a hS
        refine r_indexAddrS (j := ia) hS trivial rfl rfl Fc.slb69 hta (by omega) rfl ?_; clear hS; intro a hS
        refine r_load_scS hS rfl (by repeat (first | exact In.here | refine In.there ?_)) Fc.sc4 (v := .bool ka) (by rw [nthV_eq, Nat.zero_add, Nat.mul_one]; exact bools_get hka) rfl ?_; clear hS; intro a hS
        refine r_assign hS trivial rfl rfl ?_; clear hS; intro a hS
        refine Sq.nil ?_
        refine then_n ?_
        refine wp_ret ?_
        refine blk_r ?_
        refine then_r ?_
        refine leave (.inl rfl) hS rfl (Res.tmp rfl Res.nil) ⟨_, rfl, ?_, hH.mod⟩
        rw [reach_iff hta htb hka hkb]
        simp_all
      · have q2 : t.kind ≠ 5 := by simpa using hc2
        refine c_seq ?_
        refine reg_plain w0 (Nobody) ?_
        refine r_eql hS hH.kp0 rfl rfl rfl ?_; clear hS; intro a hS
        refine r_assign hS hH.kp0 rfl rfl ?_; clear hS; intro a hS
        refine Sq.nil ?_
        refine then_n ?_
        refine c_cond hS rfl (fun hc3 => ?_) (fun hc3 => ?_)
        · have q3 : t.kind = 4 := by simpa using hc3
          refine c_seq ?_
          refine reg_draw [(true, 0, []), (true, 1, []), (true, 2, []), (true, 3, []), (true, 4, []), (true, 5, []), (true, 6, []), (true, 7, []), (true, 8, []), (true, 9, []), (true, 10, []), (true, 11, []), (true, 12, []), (true, 13, []), (true, 14, []), (true, 15, []), (true, 16, []), (true, 17, []), (true, 18, [])] Fc.mixed (by kernel_rfl) (by kernel_rfl) (by kernel_rfl) (by kernel_rfl) (by kernel_rfl) (by repeat (first | with_reducible exact steady_body | with_reducible apply steady_block | with_reducible apply steady_then | exact steady_body)) hH ?_
          replace hH := hH.drew
          refine r_move hS trivial rfl rfl ?_; clear hS; intro a hS
          refine r_nilCheck hS trivial rfl rfl ?_; clear hS; intro a hS
          refine r_fieldAddr hS trivial rfl Fc.fo71_1 rfl ?_; clear hS; intro a hS
          refine r_load_scS hS rfl (by repeat (first | exact In.here | refine In.there ?_)) Fc.sc69 (by rfl) rfl ?_; clear hS; intro a hS
          refine r_fieldAddr hS trivial rfl Fc.fo64_1 rfl ?_; clear hS; intro a hS
          refine r_load_scS hS rfl (by repeat (first | exact In.here | refine In.there ?_)) Fc.sc3 (by rfl) rfl ?_; clear hS; intro a hS
          refine r_indexAddrS (j := ia) hS trivial rfl rfl Fc.slb69 hta (by omega) rfl ?_; clear hS; intro a hS
          refine r_load_scS hS rfl (by repeat (first | exact In.here | refine In.there ?_)) Fc.sc4 (v := .bool ka) (by rw [nthV_eq, Nat.zero_add, Nat.mul_one]; exact bools_get hka) rfl ?_; clear hS; intro a hS
          rcases ka with _ | _
          · refine r_move hS trivial rfl rfl ?_; clear hS; intro a hS
            refine Sq.guardYes hS rfl rfl rfl ?_
            refine r_move hS trivial rfl rfl ?_; clear hS; intro a hS
            refine Sq.guardYes hS rfl rfl rfl ?_
            refine r_nilCheck hS trivial rfl rfl ?_; clear hS; intro a hS
            refine Sq.guardYes hS rfl rfl rfl ?_
            refine r_fieldAddr hS trivial rfl Fc.fo71_1 rfl ?_; clear hS; intro a hS
            refine Sq.guardYes hS rfl rfl rfl ?_
            refine r_load_scS hS rfl (by repeat (first | exact In.here | refine In.there ?_)) Fc.sc69 (by rfl) rfl ?_; clear hS; intro a hS
            refine Sq.guardYes hS rfl rfl rfl ?_
            refine r_fieldAddr hS trivial rfl Fc.fo64_2 rfl ?_; clear hS; intro a hS
            refine Sq.guardYes hS rfl rfl rfl ?_
            refine r_load_scS hS rfl (by repeat (first | exact In.here | refine In.there ?_)) Fc.sc3 (by rfl) rfl ?_; clear hS; intro a hS
            refine Sq.guardYes hS rfl rfl rfl ?_
            refine r_indexAddrS (j := ib) hS trivial rfl rfl Fc.slb69 htb (by omega) rfl ?_; clear hS; intro a hS
            refine Sq.guardYes hS rfl rfl rfl ?_
            refine r_load_scS hS rfl (by repeat (first | exact In.here | refine In.there ?_)) Fc.sc4 (v := .bool kb) (by rw [nthV_eq, Nat.zero_add, Nat.mul_one]; exact bools_get hkb) rfl ?_; clear hS; intro a hS
            refine r_pickF hS trivial rfl rfl rfl rfl ?_; clear hS; intro a hS
            refine r_assign hS trivial rfl rfl ?_; clear hS; intro a hS
            refine Sq.nil ?_
            refine then_n ?_
            refine wp_ret ?_
            refine blk_r ?_
            refine then_r ?_
            refine leave (.inl rfl) hS rfl (Res.tmp rfl Res.nil) ⟨_, rfl, ?_, hH.mod⟩
            rw [reach_iff hta htb hka hkb]
            simp_all
          · refine r_move hS trivial rfl rfl ?_; clear hS; intro a hS
            refine Sq.guardNo hS rfl rfl rfl trivial rfl ?_; clear hS; intro a hS
            refine Sq.guardNo hS rfl rfl rfl trivial rfl ?_; clear hS; intro a hS
            refine Sq.guardNo hS rfl rfl rfl trivial rfl ?_; clear hS; intro a hS
            refine Sq.guardNo hS rfl rfl rfl trivial rfl ?_; clear hS; intro a hS
            refine Sq.guardNo hS rfl rfl rfl trivial rfl ?_; clear hS; intro a hS
            refine Sq.guardNo hS rfl rfl rfl trivial rfl ?_; clear hS; intro a hS
            refine Sq.guardNo hS rfl rfl rfl trivial rfl ?_; clear hS; intro a hS
            refine Sq.guardNo hS rfl rfl rfl trivial rfl ?_; clear hS; intro a hS
            refine r_pickT hS trivial rfl rfl rfl rfl ?_; clear hS; intro a hS
            refine r_assign hS trivial rfl rfl ?_; clear hS; intro a hS
            refine Sq.nil ?_
            refine then_n ?_
            refine wp_ret ?_
            refine blk_r ?_
            refine then_r ?_
            refine leave (.inl rfl) hS rfl (Res.tmp rfl Res.nil) ⟨_, rfl, ?_, hH.mod⟩
            rw [reach_iff hta htb hka hkb]
            simp_all
        · have q3 : t.kind ≠ 4 := by simpa using hc3
          refine wp_skip ?_
          refine blk_n ?_
          refine then_n ?_
          refine c_seq ?_
          refine reg_plain w0 (Nobody) ?_
          refine r_assign hS hH.kp0 rfl rfl ?_; clear hS; intro a hS
          refine Sq.nil ?_
          refine then_n ?_
          refine wp_ret ?_
          refine leave (.inl rfl) hS rfl (Res.tmp rfl Res.nil) ⟨_, rfl, ?_, hH.mod⟩
          rw [reach_iff hta htb hka hkb]
          simp_all

set_option maxRecDepth 100000 in
set_option maxHeartbeats 400000 in
theorem clone_nil (w0 : World) : Calls Tryd.prog 54 #[.slice none 0 0] w0 fun e w' => e = .returned (.slice none 0 0) ∧ Ext w0 w' := by
  refine enter Tryd.func54 rfl rfl rfl ?_
  intro a hS
  have hH := Hp.start w0 (Nobody)
  refine c_seq ?_
  refine reg_plain w0 (Nobody) ?_
  refine r_assign hS hH.kp0 rfl rfl ?_; clear hS; intro a hS
  refine Sq.nil ?_
  refine then_n ?_
  refine c_seq ?_
  refine c_seq ?_
  refine reg_plain w0 (Nobody) ?_
  refine r_move hS hH.kp0 rfl rfl ?_; clear hS; intro a hS
  refine r_slNil hS hH.kp0 rfl Fc.isSlice31 rfl ?_; clear hS; intro a hS
  refine Sq.nil ?_
  refine then_n ?_
  refine c_condT hS rfl rfl ?_
  refine c_seq ?_
  refine reg_plain w0 (Nobody) ?_
  refine r_assign hS hH.kp0 rfl rfl ?_; clear hS; intro a hS
  refine Sq.nil ?_
  refine then_n ?_
  refine wp_ret ?_
  refine then_r ?_
  exact leave (.inl rfl) hS rfl (Res.tmp rfl Res.nil) ⟨rfl, hH.mod⟩

set_option maxRecDepth 100000 in
set_option maxHeartbeats 400000 in
theorem clone_sl (q : Addr) (xs : List Value) (m qc : Nat) (w0 : World) (hs : Sl 1 w0 (.slice (some q) m qc) xs m (some q) qc) (h1 : ∀ u ∈ xs, u.oneCell' = true) (hm : m ≤ 1048576) : Calls Tryd.prog 54 #[.slice (some q) m qc] w0 fun e w' => ∃ (cb cap : Nat) (l2 : List Value), e = .returned (.slice (some ⟨cb, 0, none⟩) m cap) ∧ w0.heap.size ≤ cb ∧ w'.heap[cb]? = some (.cells l2.toArray 22 (0, 0)) ∧ m ≤ cap ∧ l2.length = cap ∧ l2.take m = xs ∧ Ext w0 w' := by
  refine enter Tryd.func54 rfl rfl rfl ?_
  intro a hS
  have hH := Hp.start w0 (Nobody)
  refine c_seq ?_
  refine reg_plain w0 (Nobody) ?_
  refine r_assign hS hH.kp0 rfl rfl ?_; clear hS; intro a hS
  refine Sq.nil ?_
  refine then_n ?_
  refine c_seq ?_
  refine c_seq ?_
  refine reg_plain w0 (Nobody) ?_
  refine r_move hS hH.kp0 rfl rfl ?_; clear hS; intro a hS
  refine r_slNil hS hH.kp0 rfl Fc.isSlice31 rfl ?_; clear hS; intro a hS
  refine Sq.nil ?_
  refine then_n ?_
  refine c_condF hS rfl rfl ?_
  refine wp_skip ?_
  refine then_n ?_
  refine c_seq ?_
  refine reg_plain w0 (Nobody) ?_
  refine r_buildSlice0 hS hH (by repeat (first | exact Sub.nil | refine Sub.cons ?_ ?_ | exact In.here | refine In.there ?_)) Fc.uls31 Fc.inf22 rfl ?_
  clear hS hH; intro a w b5 hb5 hwb5 hS hH
  refine r_move hS hH.kp0 rfl rfl ?_; clear hS; intro a hS
  refine r_append_own hS hH rfl rfl (by first | exact .here | exact .there .here | exact .there (.there .here) | exact .there (.there (.there .here)) | exact .there (.there (.there (.there .here))) | exact .there (.there (.there (.there (.there .here)))) | exact .there (.there (.there (.there (.there (.there .here))))) | exact .there (.there (.there (.there (.there (.there (.there .here)))))) | exact .there (.there (.there (.there (.there (.there (.there (.there .here))))))) | exact .there (.there (.there (.there (.there (.there (.there (.there (.there .here)))))))) | exact .there (.there (.there (.there (.there (.there (.there (.there (.there (.there .here))))))))) | exact .there (.there (.there (.there (.there (.there (.there (.there (.there (.there (.there .here)))))))))) | exact .there (.there (.there (.there (.there (.there (.there (.there (.there (.there (.there (.there .here))))))))))) | exact .there (.there (.there (.there (.there (.there (.there (.there (.there (.there (.there (.there (.there .here)))))))))))) | exact .there (.there (.there (.there (.there (.there (.there (.there (.there (.there (.there (.there (.there (.there .here))))))))))))) | exact .there (.there (.there (.there (.there (.there (.there (.there (.there (.there (.there (.there (.there (.there (.there .here))))))))))))))) (by repeat (first | exact Sub.nil | refine Sub.cons ?_ ?_ | exact In.here | refine In.there ?_)) Fc.el31 Fc.ni31 rfl (Nat.le_refl _) ((hs.ext hH.mod).src h1) (by omega) (.inr hb5) rfl ?_
  clear hS hH; intro a w ob cap1 l1 hob hl1 hc1_ htk1 _ hS hH
  refine r_assign hS hH.kp0 rfl rfl ?_; clear hS; intro a hS
  refine Sq.nil ?_
  refine then_n ?_
  refine wp_ret ?_
  rw [Nat.zero_add] at hS hc1_ htk1
  refine leave (.inl rfl) hS rfl (Res.tmp rfl Res.nil) ⟨ob, cap1, l1, rfl, ?_, hH.get .here, hc1_, by omega, ?_, hH.mod⟩
  · rcases hob with h | h; exact h.elim; exact h
  · rw [Nat.mul_one] at htk1; rw [htk1]; simp

end Go.Proofs.YtcjmehononbadaaDoor
