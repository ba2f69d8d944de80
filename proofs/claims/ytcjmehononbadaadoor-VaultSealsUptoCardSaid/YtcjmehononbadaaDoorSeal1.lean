/- What is sealed is opened by its key, number and further bytes alone; who does not know the key does not come to know it (for inputs up to the size bound). Part Seal1: walks and lemmas of the proof. -/
import Derived.Test.YtcjmehononbadaaDoorSpy3
import Derived.Test.YtcjmehononbadaaDoorSymSeal2
import Derived.Test.YtcjmehononbadaaDoorSymHdr5
namespace Go.Proofs.YtcjmehononbadaaDoor
open Go.Sym


set_option maxRecDepth 100000 in
set_option maxHeartbeats 8000000 in
theorem Spied6_v (b : Nat) (V : VB) (ts : List Tm) (hm : ts.length ≤ 1000000000) (hwf : Wf6 ts) (hpos : 0 < ts.length) (sv : Value) (ls : List (List UInt8)) (hll : ∀ l ∈ ls, l.length ≤ 1099511627776) (hls2 : ls.length ≤ 1048576) (w0 : World) (hvi : VI w0 b V ts) (hss : SlG Nobody w0 sv ls) :
    Calls Tryd.prog 10 #[.pointer (some ⟨b, 0, none⟩), sv] w0 fun e w' => ∃ K v, e = .returned v ∧ Knows6 ts ls K ∧ Todo w0.heap.size 22 Nobody w' v (spL ts K ts.length) ∧ Ext w0 w' := by
  refine enter Tryd.func10 rfl rfl rfl ?_
  intro a hS
  have hH := Hp.start w0 (Nobody)
  replace hH := hH.knowV hvi (by intro p hp; simp at hp)
  refine c_seq ?_
  refine reg_plain w0 (Nobody) ?_
  refine r_assign hS hH.kp0 rfl rfl ?_; clear hS; intro a hS
  refine Sq.nil ?_
  refine then_n ?_
  refine c_seq ?_
  refine c_seq ?_
  refine reg_plain w0 (Nobody) ?_
  refine r_move hS hH.kp0 rfl rfl ?_; clear hS; intro a hS
  refine r_call (l := [.tmp 9]) hS rfl rfl Fc.fn24 rfl ?_
  refine Calls.mono (none_v b V ts _ (hH.vin hvi.ok hvi.n01 hvi.n23 (by repeat (first | exact In.here | refine In.there ?_)) (by repeat (first | exact In.here | refine In.there ?_)) (by repeat (first | exact In.here | refine In.there ?_)) (by repeat (first | exact In.here | refine In.there ?_)))) ?_
  rintro e w1 ⟨rfl, hE⟩
  replace hH := hH.ext hE
  refine ⟨_, rfl, hH.kp0, ?_⟩
  clear hS; intro a hS
  refine Sq.nil ?_
  refine then_n ?_
  refine c_condF hS rfl rfl ?_
  refine wp_skip ?_
  refine then_n ?_
  refine c_seq ?_
  refine reg_plain w0 (Nobody) ?_
  refine r_move hS hH.kp0 rfl rfl ?_; clear hS; intro a hS
  refine r_move hS hH.kp0 rfl rfl ?_; clear hS; intro a hS
  refine r_call (l := [.tmp 11, .tmp 12]) hS rfl rfl Fc.fn26 rfl ?_
  refine Calls.mono (knows6_v b V ts hm hwf hpos sv ls hll hls2 _ (hH.vin hvi.ok hvi.n01 hvi.n23 (by repeat (first | exact In.here | refine In.there ?_)) (by repeat (first | exact In.here | refine In.there ?_)) (by repeat (first | exact In.here | refine In.there ?_)) (by repeat (first | exact In.here | refine In.there ?_))) (hss.go hH.mod (fun _ h => h.elim))) ?_
  rintro e w1 ⟨bs, bk, K, tdv, rfl, hbs1, hbk1, hKN, hE, hbs, hbk⟩
  have hlt := fun (p : Nat × Obj) hp => lt_of_block (hH.blk p hp)
  have hsz := hH.mod.size
  have hbs0 := Nat.le_trans hsz hbs
  have hbk0 := Nat.le_trans hsz hbk
  have nbk : bs ≠ bk := by intro e; rw [e, hbk1] at hbs1; simp at hbs1
  replace hH := ((hH.ext hE).know hbk1 (fun p hp e => by have h1 := hlt p hp; omega)).know hbs1 (by intro p hp; rcases List.mem_cons.1 hp with rfl | hp; exact Ne.symm nbk; exact fun e => by have h1 := hlt p hp; omega)
  clear hlt
  refine ⟨_, rfl, hH.kp0, ?_⟩
  clear hS; intro a hS
  refine r_assign hS hH.kp0 rfl rfl ?_; clear hS; intro a hS
  refine Sq.nil ?_
  refine then_n ?_
  refine c_seq ?_
  refine reg_plain w0 (Nobody) ?_
  refine r_assign hS hH.kp0 rfl rfl ?_; clear hS; intro a hS
  refine Sq.nil ?_
  refine then_n ?_
  refine c_seq ?_
  refine c_seq ?_
  refine reg_plain w0 (Nobody) ?_
  refine r_move hS hH.kp0 rfl rfl ?_; clear hS; intro a hS
  refine r_nilCheck hS hH.kp0 rfl rfl ?_; clear hS; intro a hS
  refine r_fieldAddr hS hH.kp0 rfl Fc.fo41_0 rfl ?_; clear hS; intro a hS
  refine r_load_sc hS hH (by repeat (first | exact Sub.nil | refine Sub.cons ?_ ?_ | exact In.here | refine In.there ?_)) rfl (by repeat (first | exact In.here | refine In.there ?_)) Fc.sc37 (by rfl) rfl ?_; clear hS; intro a hS
  refine r_lenSl hS hH.kp0 rfl Fc.isSlice37 rfl ?_; clear hS; intro a hS
  refine r_move hS hH.kp0 rfl rfl ?_; clear hS; intro a hS
  refine Sq.nil ?_
  obtain ⟨wB, hwBe⟩ : ∃ z, z = w0 := ⟨_, rfl⟩
  subst hwBe
  refine then_n ?_
  refine wp_block ?_
  refine c_loop (fun m a w => ∃ (i : Nat) (ii : Int) (tdv1 : Value) (tds : List (List UInt8)), m + i = ts.length ∧ ii = i ∧ tds = spL ts K i ∧ tds.length ≤ i ∧ Todo wB.heap.size 22 Nobody w tdv1 tds ∧ St 54 (lv [(5, .pointer (some ⟨bs, 0, none⟩)), (6, tdv1), (17, .slice (some ⟨V.sb, 0, none⟩) ts.length V.cap), (18, .int .i64 (ts.length : Int)), (19, .int .i64 ii)]) a ∧ Hp wB Nobody [(bs, .cells [.pointer (some ⟨b, 0, none⟩), .slice (some ⟨bk, 0, none⟩) ts.length ts.length, tdv].toArray 71 (0, 0)), (bk, .cells (bools K).toArray 4 (0, 0)), (b, .cells (V.top ts.length).toArray 41 (0, 0)), (V.sb, .cells V.l.toArray 64 (0, 0)), (V.fb, .map V.es V.c), (V.nb, .map V.es' V.c')] w) (ts.length) ?_ ?_
  · exact ⟨0, _, _, [], by omega, rfl, rfl, Nat.zero_le _, Todo.nil _ _ _ _, hS.live ⟨rfl, rfl, rfl, rfl, rfl, trivial⟩, hH⟩
  clear hS hH; intro m a w0 hI; obtain ⟨i, ii, tdv1, tds, hmi, hii, hsp, hln, htd, hS, hHI⟩ := hI
  have hK1 := hKN.len
  have hwB := hHI.mod.size
  rcases id htd with ⟨rfl, rfl⟩ | ⟨tb, tcap, tl, rfl, htb1, htb2, htb3, htl1, htl2, htbl⟩
  · obtain ⟨tds, htds0⟩ : ∃ z : List (List UInt8), z = [] := ⟨_, rfl⟩
    rw [← htds0] at hsp hln htd
    obtain ⟨SR, hSR⟩ : ∃ S : Nat → Prop, S = Nobody := ⟨_, rfl⟩
    have hH : Hp w0 SR [(bs, .cells [.pointer (some ⟨b, 0, none⟩), .slice (some ⟨bk, 0, none⟩) ts.length ts.length, tdv].toArray 71 (0, 0)), (bk, .cells (bools K).toArray 4 (0, 0)), (b, .cells (V.top ts.length).toArray 41 (0, 0)), (V.sb, .cells V.l.toArray 64 (0, 0)), (V.fb, .map V.es V.c), (V.nb, .map V.es' V.c')] w0 := hHI.fresh
    refine c_seq ?_
    refine reg_plain w0 (SR) ?_
    refine r_lss hS hH.kp0 rfl rfl rfl ?_; clear hS; intro a hS
    refine Sq.nil ?_
    refine then_n ?_
    refine c_seq ?_
    refine c_cond hS rfl (fun hc1 => ?_) (fun hc1 => ?_)
    · have hlt := of_decide_eq_true hc1
      obtain ⟨t, ht⟩ : ∃ t, ts[i]? = some t := ⟨_, List.getElem?_eq_getElem (by omega)⟩
      have hrow := hvi.ok.row ht
      obtain ⟨hwa1, hwa2⟩ := hwf.a i t ht
      obtain ⟨ia, hta⟩ := Int.eq_ofNat_of_zero_le hwa1
      have hia : ia < ts.length := by omega
      have hian : t.a.toNat = ia := by omega
      obtain ⟨ka, hka⟩ : ∃ k, K[ia]? = some k := ⟨_, List.getElem?_eq_getElem (by omega)⟩
      obtain ⟨ki, hki⟩ : ∃ k, K[i]? = some k := ⟨_, List.getElem?_eq_getElem (by omega)⟩
      refine wp_skip ?_
      refine then_n ?_
      refine c_seq ?_
      refine wp_block ?_
      refine c_seq ?_
      refine reg_plain w0 (SR) ?_
      refine r_move hS hH.kp0 rfl rfl ?_; clear hS; intro a hS
      refine r_indexAddrS (j := i) hS hH.kp0 rfl rfl Fc.slb37 hii (by omega) rfl ?_; clear hS; intro a hS
      refine r_load_at (vs := t.cells) hS hH (by repeat (first | exact Sub.nil | refine Sub.cons ?_ ?_ | exact In.here | refine In.there ?_)) rfl (by repeat (first | exact In.here | refine In.there ?_)) Fc.ag64 (by rw [Nat.zero_add]; exact hrow.2) (by rw [Nat.zero_add]; exact hrow.1) rfl ?_; clear hS; intro a hS
      refine r_alloc hS hH (by repeat (first | exact Sub.nil | refine Sub.cons ?_ ?_ | exact In.here | refine In.there ?_)) Fc.zc64 rfl ?_
      clear hS hH; intro a w b8 hb8 hwb8 hS hH
      refine r_assign hS hH.kp0 rfl rfl ?_; clear hS; intro a hS
      refine r_store_row hS hH rfl rfl (by repeat (first | exact .here | apply In.there | apply Put.there | apply Del.there)) (by repeat (first | exact Sub.nil | refine Sub.cons ?_ ?_ | exact In.here | refine In.there ?_)) Fc.sz64 (one_cells t) (by rfl) (.inr (by assumption)) ?_; clear hH; intro w hH
      refine Sq.nil ?_
      refine then_n ?_
      refine c_seq ?_
      refine reg_draw [(true, 0, []), (true, 1, []), (true, 2, []), (true, 3, []), (true, 4, []), (true, 5, []), (true, 6, []), (true, 7, []), (true, 8, []), (true, 9, []), (true, 10, []), (true, 11, []), (true, 12, []), (true, 13, []), (true, 14, []), (true, 15, []), (true, 16, []), (true, 17, []), (true, 18, []), (true, 19, []), (true, 20, []), (true, 21, [])] Fc.mixed (by kernel_rfl) (by kernel_rfl) (by kernel_rfl) (by kernel_rfl) (by kernel_rfl) (by repeat (first | with_reducible exact steady_body | with_reducible apply steady_block | with_reducible apply steady_then | exact steady_body)) hH ?_
      replace hH := hH.drew
      refine r_fieldAddr hS trivial rfl Fc.fo64_0 rfl ?_; clear hS; intro a hS
      refine r_load_scS hS rfl (by repeat (first | exact In.here | refine In.there ?_)) Fc.sc3 (by rfl) rfl ?_; clear hS; intro a hS
      refine r_eql hS trivial rfl rfl rfl ?_; clear hS; intro a hS
      rcases hk6 : (t.kind == 6) with _ | _
      · refine r_move hS trivial rfl rfl ?_; clear hS; intro a hS
        refine Sq.guardNo hS rfl rfl hk6 trivial rfl ?_; clear hS; intro a hS
        refine Sq.guardNo hS rfl rfl hk6 trivial rfl ?_; clear hS; intro a hS
        refine Sq.guardNo hS rfl rfl hk6 trivial rfl ?_; clear hS; intro a hS
        refine Sq.guardNo hS rfl rfl hk6 trivial rfl ?_; clear hS; intro a hS
        refine Sq.guardNo hS rfl rfl hk6 trivial rfl ?_; clear hS; intro a hS
        refine Sq.guardNo hS rfl rfl hk6 trivial rfl ?_; clear hS; intro a hS
        refine Sq.guardNo hS rfl rfl hk6 trivial rfl ?_; clear hS; intro a hS
        refine r_pickF hS trivial rfl hk6 rfl rfl ?_; clear hS; intro a hS
        refine r_move hS trivial rfl rfl ?_; clear hS; intro a hS
        refine Sq.guardNo hS rfl rfl rfl trivial rfl ?_; clear hS; intro a hS
        refine Sq.guardNo hS rfl rfl rfl trivial rfl ?_; clear hS; intro a hS
        refine Sq.guardNo hS rfl rfl rfl trivial rfl ?_; clear hS; intro a hS
        refine Sq.guardNo hS rfl rfl rfl trivial rfl ?_; clear hS; intro a hS
        refine Sq.guardNo hS rfl rfl rfl trivial rfl ?_; clear hS; intro a hS
        refine Sq.guardNo hS rfl rfl rfl trivial rfl ?_; clear hS; intro a hS
        refine Sq.guardNo hS rfl rfl rfl trivial rfl ?_; clear hS; intro a hS
        refine Sq.guardNo hS rfl rfl rfl trivial rfl ?_; clear hS; intro a hS
        refine r_pickF hS trivial rfl rfl rfl rfl ?_; clear hS; intro a hS
        refine Sq.nil ?_
        obtain ⟨tds3, htds3⟩ : ∃ z, z = tds := ⟨_, rfl⟩
        have hsp3 : tds3 = spL ts K (i + 1) := by rw [htds3, hsp]; exact (spL_no ht (fun h => by have h9 := h.1; simp [h9] at hk6)).symm
        have hln3 : tds3.length ≤ i + 1 := by rw [htds3]; omega
        have htd3 := Todo.nilH (B := wB.heap.size) (e := 22) (F := Nobody) hH
        rw [← htds0] at htd3
        obtain ⟨tdv3, htdv3⟩ : ∃ z : Value, z = .slice none 0 0 := ⟨_, rfl⟩
        rw [← htdv3] at hS htd3
        rw [← htds3] at htd3
        refine then_n ?_
        refine c_condF hS rfl rfl ?_
        refine wp_skip ?_
        refine blk_n ?_
        refine then_n ?_
        refine reg_plain w0 (SR) ?_
        (first | refine r_add hS hH.kp0 rfl rfl rfl (by omega) ?_ | refine r_addw hS hH.kp0 rfl rfl rfl ?_)
        clear hS; intro a hS
        refine r_move hS hH.kp0 rfl rfl ?_; clear hS; intro a hS
        refine Sq.nil ?_
        refine then_n ?_
        refine ⟨m - 1, by omega, i + 1, _, tdv3, tds3, by omega, ?_, hsp3, hln3, htd3, hS.live ⟨rfl, rfl, rfl, rfl, rfl, trivial⟩, (hHI.rebase hH (fun x hx => by rw [hSR] at hx; exact .inl hx)).sub (by repeat (first | exact Sub.nil | refine Sub.cons ?_ ?_ | exact In.here | refine In.there ?_)) hHI.nd⟩
        omega
      · have hk6e : t.kind = 6 := by simpa using hk6
        refine r_move hS trivial rfl rfl ?_; clear hS; intro a hS
        refine Sq.guardYes hS rfl rfl hk6 ?_
        refine r_move hS trivial rfl rfl ?_; clear hS; intro a hS
        refine Sq.guardYes hS rfl rfl hk6 ?_
        refine r_nilCheck hS trivial rfl rfl ?_; clear hS; intro a hS
        refine Sq.guardYes hS rfl rfl hk6 ?_
        refine r_fieldAddr hS trivial rfl Fc.fo71_1 rfl ?_; clear hS; intro a hS
        refine Sq.guardYes hS rfl rfl hk6 ?_
        refine r_load_scS hS rfl (by repeat (first | exact In.here | refine In.there ?_)) Fc.sc69 (by rfl) rfl ?_; clear hS; intro a hS
        refine Sq.guardYes hS rfl rfl hk6 ?_
        refine r_move hS trivial rfl rfl ?_; clear hS; intro a hS
        refine Sq.guardYes hS rfl rfl hk6 ?_
        refine r_indexAddrS (j := i) hS trivial rfl rfl Fc.slb69 hii (by omega) rfl ?_; clear hS; intro a hS
        refine Sq.guardYes hS rfl rfl hk6 ?_
        refine r_load_scS hS rfl (by repeat (first | exact In.here | refine In.there ?_)) Fc.sc4 (v := .bool ki) (by rw [nthV_eq, Nat.zero_add, Nat.mul_one]; exact bools_get hki) rfl ?_; clear hS; intro a hS
        refine r_pickT hS trivial rfl hk6 rfl rfl ?_; clear hS; intro a hS
        rcases ki with _ | _
        · refine r_move hS trivial rfl rfl ?_; clear hS; intro a hS
          refine Sq.guardNo hS rfl rfl rfl trivial rfl ?_; clear hS; intro a hS
          refine Sq.guardNo hS rfl rfl rfl trivial rfl ?_; clear hS; intro a hS
          refine Sq.guardNo hS rfl rfl rfl trivial rfl ?_; clear hS; intro a hS
          refine Sq.guardNo hS rfl rfl rfl trivial rfl ?_; clear hS; intro a hS
          refine Sq.guardNo hS rfl rfl rfl trivial rfl ?_; clear hS; intro a hS
          refine Sq.guardNo hS rfl rfl rfl trivial rfl ?_; clear hS; intro a hS
          refine Sq.guardNo hS rfl rfl rfl trivial rfl ?_; clear hS; intro a hS
          refine Sq.guardNo hS rfl rfl rfl trivial rfl ?_; clear hS; intro a hS
          refine r_pickF hS trivial rfl rfl rfl rfl ?_; clear hS; intro a hS
          refine Sq.nil ?_
          obtain ⟨tds3, htds3⟩ : ∃ z, z = tds := ⟨_, rfl⟩
          have hsp3 : tds3 = spL ts K (i + 1) := by rw [htds3, hsp]; exact (spL_no ht (fun h => by have h9 := h.2.1; unfold KT at h9; rw [hki] at h9; cases h9)).symm
          have hln3 : tds3.length ≤ i + 1 := by rw [htds3]; omega
          have htd3 := Todo.nilH (B := wB.heap.size) (e := 22) (F := Nobody) hH
          rw [← htds0] at htd3
          obtain ⟨tdv3, htdv3⟩ : ∃ z : Value, z = .slice none 0 0 := ⟨_, rfl⟩
          rw [← htdv3] at hS htd3
          rw [← htds3] at htd3
          refine then_n ?_
          refine c_condF hS rfl rfl ?_
          refine wp_skip ?_
          refine blk_n ?_
          refine then_n ?_
          refine reg_plain w0 (SR) ?_
          (first | refine r_add hS hH.kp0 rfl rfl rfl (by omega) ?_ | refine r_addw hS hH.kp0 rfl rfl rfl ?_)
          clear hS; intro a hS
          refine r_move hS hH.kp0 rfl rfl ?_; clear hS; intro a hS
          refine Sq.nil ?_
          refine then_n ?_
          refine ⟨m - 1, by omega, i + 1, _, tdv3, tds3, by omega, ?_, hsp3, hln3, htd3, hS.live ⟨rfl, rfl, rfl, rfl, rfl, trivial⟩, (hHI.rebase hH (fun x hx => by rw [hSR] at hx; exact .inl hx)).sub (by repeat (first | exact Sub.nil | refine Sub.cons ?_ ?_ | exact In.here | refine In.there ?_)) hHI.nd⟩
          omega
        · refine r_move hS trivial rfl rfl ?_; clear hS; intro a hS
          refine Sq.guardYes hS rfl rfl rfl ?_
          refine r_move hS trivial rfl rfl ?_; clear hS; intro a hS
          refine Sq.guardYes hS rfl rfl rfl ?_
          refine r_nilCheck hS trivial rfl rfl ?_; clear hS; intro a hS
          refine Sq.guardYes hS rfl rfl rfl ?_
          refine r_fieldAddr hS trivial rfl Fc.fo71_1 rfl ?_; clear hS; intro a hS
          refine Sq.guardYes hS rfl rfl rfl ?_
          refine r_load_scS hS rfl (by repeat (first | exact In.here | refine In.there ?_)) Fc.sc69 (by rfl) rfl ?_; clear hS; intro a hS
          refine Sq.guardYes hS rfl rfl rfl ?_
          refine r_fieldAddr hS trivial rfl Fc.fo64_1 rfl ?_; clear hS; intro a hS
          refine Sq.guardYes hS rfl rfl rfl ?_
          refine r_load_scS hS rfl (by repeat (first | exact In.here | refine In.there ?_)) Fc.sc3 (by rfl) rfl ?_; clear hS; intro a hS
          refine Sq.guardYes hS rfl rfl rfl ?_
          refine r_indexAddrS (j := ia) hS trivial rfl rfl Fc.slb69 hta (by omega) rfl ?_; clear hS; intro a hS
          refine Sq.guardYes hS rfl rfl rfl ?_
          refine r_load_scS hS rfl (by repeat (first | exact In.here | refine In.there ?_)) Fc.sc4 (v := .bool ka) (by rw [nthV_eq, Nat.zero_add, Nat.mul_one]; exact bools_get hka) rfl ?_; clear hS; intro a hS
          rcases ka with _ | _
          · refine r_pickT hS trivial rfl rfl rfl rfl ?_; clear hS; intro a hS
            refine Sq.nil ?_
            obtain ⟨tds3, htds3⟩ : ∃ z, z = tds := ⟨_, rfl⟩
            have hsp3 : tds3 = spL ts K (i + 1) := by rw [htds3, hsp]; exact (spL_no ht (fun h => by rw [hian] at h; have h9 := h.2.2; unfold KT at h9; rw [hka] at h9; cases h9)).symm
            have hln3 : tds3.length ≤ i + 1 := by rw [htds3]; omega
            have htd3 := Todo.nilH (B := wB.heap.size) (e := 22) (F := Nobody) hH
            rw [← htds0] at htd3
            obtain ⟨tdv3, htdv3⟩ : ∃ z : Value, z = .slice none 0 0 := ⟨_, rfl⟩
            rw [← htdv3] at hS htd3
            rw [← htds3] at htd3
            refine then_n ?_
            refine c_condF hS rfl rfl ?_
            refine wp_skip ?_
            refine blk_n ?_
            refine then_n ?_
            refine reg_plain w0 (SR) ?_
            (first | refine r_add hS hH.kp0 rfl rfl rfl (by omega) ?_ | refine r_addw hS hH.kp0 rfl rfl rfl ?_)
            clear hS; intro a hS
            refine r_move hS hH.kp0 rfl rfl ?_; clear hS; intro a hS
            refine Sq.nil ?_
            refine then_n ?_
            refine ⟨m - 1, by omega, i + 1, _, tdv3, tds3, by omega, ?_, hsp3, hln3, htd3, hS.live ⟨rfl, rfl, rfl, rfl, rfl, trivial⟩, (hHI.rebase hH (fun x hx => by rw [hSR] at hx; exact .inl hx)).sub (by repeat (first | exact Sub.nil | refine Sub.cons ?_ ?_ | exact In.here | refine In.there ?_)) hHI.nd⟩
            omega
          · refine r_pickT hS trivial rfl rfl rfl rfl ?_; clear hS; intro a hS
            refine Sq.nil ?_
            refine then_n ?_
            refine c_condT hS rfl rfl ?_
            refine reg_plain w0 (SR) ?_
            refine r_move hS hH.kp0 rfl rfl ?_; clear hS; intro a hS
            refine r_fieldAddr hS hH.kp0 rfl Fc.fo64_6 rfl ?_; clear hS; intro a hS
            refine r_load_sc hS hH (by repeat (first | exact Sub.nil | refine Sub.cons ?_ ?_ | exact In.here | refine In.there ?_)) rfl (by repeat (first | exact In.here | refine In.there ?_)) Fc.sc9 (by rfl) rfl ?_; clear hS; intro a hS
            refine r_strBytesK hS hH (by repeat (first | exact Sub.nil | refine Sub.cons ?_ ?_ | exact In.here | refine In.there ?_)) rfl Fc.und9 Fc.und22 Fc.ui5 rfl ?_
            clear hS hH; intro a w b93 c93 l93 f93 hb93 hbw93 hl93 hc93 hS hH
            refine r_buildSlice (parts := [(0, .tmp 49)]) hS hH (by repeat (first | exact Sub.nil | refine Sub.cons ?_ ?_ | exact In.here | refine In.there ?_)) rfl Fc.bsl31_1 (by rfl) rfl ?_
            clear hS hH; intro a w b94 hb94 hwb94 hS hH
            have h94 := hH.get (b := b94) (o := .cells ([Value.slice (some ⟨b93, 0, none⟩) (byt t).length c93] : List Value).toArray 22 (0, 0)) .here
            have hs94 : Sl 1 w (.slice (some ⟨b94, 0, none⟩) 1 1) [Value.slice (some ⟨b93, 0, none⟩) (byt t).length c93] 1 (some ⟨b94, 0, none⟩) 1 := Sl.of_block (es := 1) (m := 1) (cap := 1) h94 (Nat.le_refl 1) (Nat.le_refl 1)
            refine r_append_nil hS hH (by repeat (first | exact Sub.nil | refine Sub.cons ?_ ?_ | exact In.here | refine In.there ?_)) rfl rfl Fc.el31 Fc.ni31 (hs94.src (by intro z hz; rw [List.mem_singleton.1 hz]; rfl)) (by decide) (by decide) rfl ?_
            clear hS hH; intro a w ub ucap ul hub huw hul huc hut huE hS hH
            refine r_assign hS hH.kp0 rfl rfl ?_; clear hS; intro a hS
            refine Sq.nil ?_
            subst htds0
            have hnb : b93 ≠ ub := hH.ne (x := b93) (y := ub) (.cons (by repeat (first | exact .here | apply In.there | apply Put.there | apply Del.there)) (.cons (by repeat (first | exact .here | apply In.there | apply Put.there | apply Del.there)) .nil)) (by intro h; injection h with _ h2 _; revert h2; decide)
            have hub1 : wB.heap.size ≤ ub := by omega
            have hbl3 : BL (fun x => Nobody x ∨ x = ub) w (([] : List Value) ++ [Value.slice (some ⟨b93, 0, none⟩) (byt t).length c93]) ([] ++ [byt t]) := BL.snoc (.nil) (BsF.of_blk (hH.get (b := b93) (by repeat (first | exact In.here | refine In.there ?_))) (fun h => h.elim (fun h => h) hnb) hl93 hc93)
            have htk3 : ul.take ([] ++ [byt t]).length = ([] : List Value) ++ [Value.slice (some ⟨b93, 0, none⟩) (byt t).length c93] := by rw [List.length_append]; have h9 := hut; rw [Nat.mul_one] at h9; exact h9
            have htd3 : Todo wB.heap.size 22 Nobody w (.slice (some ⟨ub, 0, none⟩) ([] ++ [byt t]).length ucap) ([] ++ [byt t]) := .inr ⟨ub, ucap, ul, rfl, hub1, fun h => h, hH.get (b := ub) (by repeat (first | exact In.here | refine In.there ?_)), hul, by rw [List.length_append]; exact huc, by rw [htk3]; exact hbl3⟩
            obtain ⟨tdv3, htdv3⟩ : ∃ z : Value, z = .slice (some ⟨ub, 0, none⟩) ([] ++ [byt t]).length ucap := ⟨_, rfl⟩
            obtain ⟨tds3, htds3⟩ : ∃ z, z = [] ++ [byt t] := ⟨_, rfl⟩
            have hln3 : tds3.length ≤ i + 1 := by rw [htds3]; show 1 ≤ _; omega
            rw [show Value.slice (some ⟨ub, 0, none⟩) 1 ucap = tdv3 from htdv3.symm] at hS
            rw [← htdv3, ← htds3] at htd3
            have hsp3 : tds3 = spL ts K (i + 1) := by rw [htds3]; exact (congrArg (· ++ [byt t]) hsp).trans (spL_yes ht ⟨hk6e, hki, by rw [hian]; exact hka⟩).symm
            refine blk_n ?_
            refine then_n ?_
            refine reg_plain w0 (SR) ?_
            (first | refine r_add hS hH.kp0 rfl rfl rfl (by omega) ?_ | refine r_addw hS hH.kp0 rfl rfl rfl ?_)
            clear hS; intro a hS
            refine r_move hS hH.kp0 rfl rfl ?_; clear hS; intro a hS
            refine Sq.nil ?_
            refine then_n ?_
            refine ⟨m - 1, by omega, i + 1, _, tdv3, tds3, by omega, ?_, hsp3, hln3, htd3, hS.live ⟨rfl, rfl, rfl, rfl, rfl, trivial⟩, (hHI.rebase hH (fun x hx => by rw [hSR] at hx; exact .inl hx)).sub (by repeat (first | exact Sub.nil | refine Sub.cons ?_ ?_ | exact In.here | refine In.there ?_)) hHI.nd⟩
            omega
    · have hge := of_decide_eq_false hc1
      have hii0 : i = ts.length := by omega
      subst hii0
      refine wp_exit ?_
      refine then_e ?_
      refine then_e ?_
      refine blk_hit ?_
      refine then_n ?_
      refine c_seq ?_
      refine reg_plain w0 (SR) ?_
      refine r_move hS hH.kp0 rfl rfl ?_; clear hS; intro a hS
      refine r_assign hS hH.kp0 rfl rfl ?_; clear hS; intro a hS
      refine Sq.nil ?_
      refine then_n ?_
      refine wp_ret ?_
      subst hsp
      exact leave (.inl rfl) hS rfl (Res.tmp rfl Res.nil) ⟨K, _, rfl, hKN, htd, hHI.mod⟩
  · have htb0 : ∀ p ∈ ([(bs, .cells [.pointer (some ⟨b, 0, none⟩), .slice (some ⟨bk, 0, none⟩) ts.length ts.length, tdv].toArray 71 (0, 0)), (bk, .cells (bools K).toArray 4 (0, 0)), (b, .cells (V.top ts.length).toArray 41 (0, 0)), (V.sb, .cells V.l.toArray 64 (0, 0)), (V.fb, .map V.es V.c), (V.nb, .map V.es' V.c')] : Blocks), p.1 ≠ tb := by intro p hp e; have h8 := hHI.blk p hp; rw [e, htb3] at h8; simp only [List.mem_cons, List.not_mem_nil, or_false] at hp; rcases hp with rfl | rfl | rfl | rfl | rfl | rfl <;> simp at h8
    obtain ⟨SR, hSR⟩ : ∃ S : Nat → Prop, S = fun x => Nobody x ∨ x = tb := ⟨_, rfl⟩
    have hH : Hp w0 SR [(bs, .cells [.pointer (some ⟨b, 0, none⟩), .slice (some ⟨bk, 0, none⟩) ts.length ts.length, tdv].toArray 71 (0, 0)), (bk, .cells (bools K).toArray 4 (0, 0)), (b, .cells (V.top ts.length).toArray 41 (0, 0)), (V.sb, .cells V.l.toArray 64 (0, 0)), (V.fb, .map V.es V.c), (V.nb, .map V.es' V.c')] w0 := hHI.fresh
    have htbn := htb0
    replace hH := hH.know htb3 htbn
    refine c_seq ?_
    refine reg_plain w0 (SR) ?_
    refine r_lss hS hH.kp0 rfl rfl rfl ?_; clear hS; intro a hS
    refine Sq.nil ?_
    refine then_n ?_
    refine c_seq ?_
    refine c_cond hS rfl (fun hc1 => ?_) (fun hc1 => ?_)
    · have hlt := of_decide_eq_true hc1
      obtain ⟨t, ht⟩ : ∃ t, ts[i]? = some t := ⟨_, List.getElem?_eq_getElem (by omega)⟩
      have hrow := hvi.ok.row ht
      obtain ⟨hwa1, hwa2⟩ := hwf.a i t ht
      obtain ⟨ia, hta⟩ := Int.eq_ofNat_of_zero_le hwa1
      have hia : ia < ts.length := by omega
      have hian : t.a.toNat = ia := by omega
      obtain ⟨ka, hka⟩ : ∃ k, K[ia]? = some k := ⟨_, List.getElem?_eq_getElem (by omega)⟩
      obtain ⟨ki, hki⟩ : ∃ k, K[i]? = some k := ⟨_, List.getElem?_eq_getElem (by omega)⟩
      refine wp_skip ?_
      refine then_n ?_
      refine c_seq ?_
      refine wp_block ?_
      refine c_seq ?_
      refine reg_plain w0 (SR) ?_
      refine r_move hS hH.kp0 rfl rfl ?_; clear hS; intro a hS
      refine r_indexAddrS (j := i) hS hH.kp0 rfl rfl Fc.slb37 hii (by omega) rfl ?_; clear hS; intro a hS
      refine r_load_at (vs := t.cells) hS hH (by repeat (first | exact Sub.nil | refine Sub.cons ?_ ?_ | exact In.here | refine In.there ?_)) rfl (by repeat (first | exact In.here | refine In.there ?_)) Fc.ag64 (by rw [Nat.zero_add]; exact hrow.2) (by rw [Nat.zero_add]; exact hrow.1) rfl ?_; clear hS; intro a hS
      refine r_alloc hS hH (by repeat (first | exact Sub.nil | refine Sub.cons ?_ ?_ | exact In.here | refine In.there ?_)) Fc.zc64 rfl ?_
      clear hS hH; intro a w b8 hb8 hwb8 hS hH
      refine r_assign hS hH.kp0 rfl rfl ?_; clear hS; intro a hS
      refine r_store_row hS hH rfl rfl (by repeat (first | exact .here | apply In.there | apply Put.there | apply Del.there)) (by repeat (first | exact Sub.nil | refine Sub.cons ?_ ?_ | exact In.here | refine In.there ?_)) Fc.sz64 (one_cells t) (by rfl) (.inr (by assumption)) ?_; clear hH; intro w hH
      refine Sq.nil ?_
      refine then_n ?_
      refine c_seq ?_
      refine reg_draw [(true, 0, []), (true, 1, []), (true, 2, []), (true, 3, []), (true, 4, []), (true, 5, []), (true, 6, []), (true, 7, []), (true, 8, []), (true, 9, []), (true, 10, []), (true, 11, []), (true, 12, []), (true, 13, []), (true, 14, []), (true, 15, []), (true, 16, []), (true, 17, []), (true, 18, []), (true, 19, []), (true, 20, []), (true, 21, [])] Fc.mixed (by kernel_rfl) (by kernel_rfl) (by kernel_rfl) (by kernel_rfl) (by kernel_rfl) (by repeat (first | with_reducible exact steady_body | with_reducible apply steady_block | with_reducible apply steady_then | exact steady_body)) hH ?_
      replace hH := hH.drew
      refine r_fieldAddr hS trivial rfl Fc.fo64_0 rfl ?_; clear hS; intro a hS
      refine r_load_scS hS rfl (by repeat (first | exact In.here | refine In.there ?_)) Fc.sc3 (by rfl) rfl ?_; clear hS; intro a hS
      refine r_eql hS trivial rfl rfl rfl ?_; clear hS; intro a hS
      rcases hk6 : (t.kind == 6) with _ | _
      · refine r_move hS trivial rfl rfl ?_; clear hS; intro a hS
        refine Sq.guardNo hS rfl rfl hk6 trivial rfl ?_; clear hS; intro a hS
        refine Sq.guardNo hS rfl rfl hk6 trivial rfl ?_; clear hS; intro a hS
        refine Sq.guardNo hS rfl rfl hk6 trivial rfl ?_; clear hS; intro a hS
        refine Sq.guardNo hS rfl rfl hk6 trivial rfl ?_; clear hS; intro a hS
        refine Sq.guardNo hS rfl rfl hk6 trivial rfl ?_; clear hS; intro a hS
        refine Sq.guardNo hS rfl rfl hk6 trivial rfl ?_; clear hS; intro a hS
        refine Sq.guardNo hS rfl rfl hk6 trivial rfl ?_; clear hS; intro a hS
        refine r_pickF hS trivial rfl hk6 rfl rfl ?_; clear hS; intro a hS
        refine r_move hS trivial rfl rfl ?_; clear hS; intro a hS
        refine Sq.guardNo hS rfl rfl rfl trivial rfl ?_; clear hS; intro a hS
        refine Sq.guardNo hS rfl rfl rfl trivial rfl ?_; clear hS; intro a hS
        refine Sq.guardNo hS rfl rfl rfl trivial rfl ?_; clear hS; intro a hS
        refine Sq.guardNo hS rfl rfl rfl trivial rfl ?_; clear hS; intro a hS
        refine Sq.guardNo hS rfl rfl rfl trivial rfl ?_; clear hS; intro a hS
        refine Sq.guardNo hS rfl rfl rfl trivial rfl ?_; clear hS; intro a hS
        refine Sq.guardNo hS rfl rfl rfl trivial rfl ?_; clear hS; intro a hS
        refine Sq.guardNo hS rfl rfl rfl trivial rfl ?_; clear hS; intro a hS
        refine r_pickF hS trivial rfl rfl rfl rfl ?_; clear hS; intro a hS
        refine Sq.nil ?_
        obtain ⟨tds3, htds3⟩ : ∃ z, z = tds := ⟨_, rfl⟩
        have hsp3 : tds3 = spL ts K (i + 1) := by rw [htds3, hsp]; exact (spL_no ht (fun h => by have h9 := h.1; simp [h9] at hk6)).symm
        have hln3 : tds3.length ≤ i + 1 := by rw [htds3]; omega
        have htd3 := Todo.blkH (F := Nobody) hH (by repeat (first | exact In.here | refine In.there ?_)) htb1 htb2 htl1 htl2 hSR htbl
        obtain ⟨tdv3, htdv3⟩ : ∃ z : Value, z = .slice (some ⟨tb, 0, none⟩) tds.length tcap := ⟨_, rfl⟩
        rw [← htdv3] at hS htd3
        rw [← htds3] at htd3
        refine then_n ?_
        refine c_condF hS rfl rfl ?_
        refine wp_skip ?_
        refine blk_n ?_
        refine then_n ?_
        refine reg_plain w0 (SR) ?_
        (first | refine r_add hS hH.kp0 rfl rfl rfl (by omega) ?_ | refine r_addw hS hH.kp0 rfl rfl rfl ?_)
        clear hS; intro a hS
        refine r_move hS hH.kp0 rfl rfl ?_; clear hS; intro a hS
        refine Sq.nil ?_
        refine then_n ?_
        refine ⟨m - 1, by omega, i + 1, _, tdv3, tds3, by omega, ?_, hsp3, hln3, htd3, hS.live ⟨rfl, rfl, rfl, rfl, rfl, trivial⟩, (hHI.rebase hH (fun x hx => by rw [hSR] at hx; rcases hx with hx | hx; exact .inl hx; exact .inr (by rw [hx]; exact htb1))).sub (by repeat (first | exact Sub.nil | refine Sub.cons ?_ ?_ | exact In.here | refine In.there ?_)) hHI.nd⟩
        omega
      · have hk6e : t.kind = 6 := by simpa using hk6
        refine r_move hS trivial rfl rfl ?_; clear hS; intro a hS
        refine Sq.guardYes hS rfl rfl hk6 ?_
        refine r_move hS trivial rfl rfl ?_; clear hS; intro a hS
        refine Sq.guardYes hS rfl rfl hk6 ?_
        refine r_nilCheck hS trivial rfl rfl ?_; clear hS; intro a hS
        refine Sq.guardYes hS rfl rfl hk6 ?_
        refine r_fieldAddr hS trivial rfl Fc.fo71_1 rfl ?_; clear hS; intro a hS
        refine Sq.guardYes hS rfl rfl hk6 ?_
        refine r_load_scS hS rfl (by repeat (first | exact In.here | refine In.there ?_)) Fc.sc69 (by rfl) rfl ?_; clear hS; intro a hS
        refine Sq.guardYes hS rfl rfl hk6 ?_
        refine r_move hS trivial rfl rfl ?_; clear hS; intro a hS
        refine Sq.guardYes hS rfl rfl hk6 ?_
        refine r_indexAddrS (j := i) hS trivial rfl rfl Fc.slb69 hii (by omega) rfl ?_; clear hS; intro a hS
        refine Sq.guardYes hS rfl rfl hk6 ?_
        refine r_load_scS hS rfl (by repeat (first | exact In.here | refine In.there ?_)) Fc.sc4 (v := .bool ki) (by rw [nthV_eq, Nat.zero_add, Nat.mul_one]; exact bools_get hki) rfl ?_; clear hS; intro a hS
        refine r_pickT hS trivial rfl hk6 rfl rfl ?_; clear hS; intro a hS
        rcases ki with _ | _
        · refine r_move hS trivial rfl rfl ?_; clear hS; intro a hS
          refine Sq.guardNo hS rfl rfl rfl trivial rfl ?_; clear hS; intro a hS
          refine Sq.guardNo hS rfl rfl rfl trivial rfl ?_; clear hS; intro a hS
          refine Sq.guardNo hS rfl rfl rfl trivial rfl ?_; clear hS; intro a hS
          refine Sq.guardNo hS rfl rfl rfl trivial rfl ?_; clear hS; intro a hS
          refine Sq.guardNo hS rfl rfl rfl trivial rfl ?_; clear hS; intro a hS
          refine Sq.guardNo hS rfl rfl rfl trivial rfl ?_; clear hS; intro a hS
          refine Sq.guardNo hS rfl rfl rfl trivial rfl ?_; clear hS; intro a hS
          refine Sq.guardNo hS rfl rfl rfl trivial rfl ?_; clear hS; intro a hS
          refine r_pickF hS trivial rfl rfl rfl rfl ?_; clear hS; intro a hS
          refine Sq.nil ?_
          obtain ⟨tds3, htds3⟩ : ∃ z, z = tds := ⟨_, rfl⟩
          have hsp3 : tds3 = spL ts K (i + 1) := by rw [htds3, hsp]; exact (spL_no ht (fun h => by have h9 := h.2.1; unfold KT at h9; rw [hki] at h9; cases h9)).symm
          have hln3 : tds3.length ≤ i + 1 := by rw [htds3]; omega
          have htd3 := Todo.blkH (F := Nobody) hH (by repeat (first | exact In.here | refine In.there ?_)) htb1 htb2 htl1 htl2 hSR htbl
          obtain ⟨tdv3, htdv3⟩ : ∃ z : Value, z = .slice (some ⟨tb, 0, none⟩) tds.length tcap := ⟨_, rfl⟩
          rw [← htdv3] at hS htd3
          rw [← htds3] at htd3
          refine then_n ?_
          refine c_condF hS rfl rfl ?_
          refine wp_skip ?_
          refine blk_n ?_
          refine then_n ?_
          refine reg_plain w0 (SR) ?_
          (first | refine r_add hS hH.kp0 rfl rfl rfl (by omega) ?_ | refine r_addw hS hH.kp0 rfl rfl rfl ?_)
          clear hS; intro a hS
          refine r_move hS hH.kp0 rfl rfl ?_; clear hS; intro a hS
          refine Sq.nil ?_
          refine then_n ?_
          refine ⟨m - 1, by omega, i + 1, _, tdv3, tds3, by omega, ?_, hsp3, hln3, htd3, hS.live ⟨rfl, rfl, rfl, rfl, rfl, trivial⟩, (hHI.rebase hH (fun x hx => by rw [hSR] at hx; rcases hx with hx | hx; exact .inl hx; exact .inr (by rw [hx]; exact htb1))).sub (by repeat (first | exact Sub.nil | refine Sub.cons ?_ ?_ | exact In.here | refine In.there ?_)) hHI.nd⟩
          omega
        · refine r_move hS trivial rfl rfl ?_; clear hS; intro a hS
          refine Sq.guardYes hS rfl rfl rfl ?_
          refine r_move hS trivial rfl rfl ?_; clear hS; intro a hS
          refine Sq.guardYes hS rfl rfl rfl ?_
          refine r_nilCheck hS trivial rfl rfl ?_; clear hS; intro a hS
          refine Sq.guardYes hS rfl rfl rfl ?_
          refine r_fieldAddr hS trivial rfl Fc.fo71_1 rfl ?_; clear hS; intro a hS
          refine Sq.guardYes hS rfl rfl rfl ?_
          refine r_load_scS hS rfl (by repeat (first | exact In.here | refine In.there ?_)) Fc.sc69 (by rfl) rfl ?_; clear hS; intro a hS
          refine Sq.guardYes hS rfl rfl rfl ?_
          refine r_fieldAddr hS trivial rfl Fc.fo64_1 rfl ?_; clear hS; intro a hS
          refine Sq.guardYes hS rfl rfl rfl ?_
          refine r_load_scS hS rfl (by repeat (first | exact In.here | refine In.there ?_)) Fc.sc3 (by rfl) rfl ?_; clear hS; intro a hS
          refine Sq.guardYes hS rfl rfl rfl ?_
          refine r_indexAddrS (j := ia) hS trivial rfl rfl Fc.slb69 hta (by omega) rfl ?_; clear hS; intro a hS
          refine Sq.guardYes hS rfl rfl rfl ?_
          refine r_load_scS hS rfl (by repeat (first | exact In.here | refine In.there ?_)) Fc.sc4 (v := .bool ka) (by rw [nthV_eq, Nat.zero_add, Nat.mul_one]; exact bools_get hka) rfl ?_; clear hS; intro a hS
          rcases ka with _ | _
          · refine r_pickT hS trivial rfl rfl rfl rfl ?_; clear hS; intro a hS
            refine Sq.nil ?_
            obtain ⟨tds3, htds3⟩ : ∃ z, z = tds := ⟨_, rfl⟩
            have hsp3 : tds3 = spL ts K (i + 1) := by rw [htds3, hsp]; exact (spL_no ht (fun h => by rw [hian] at h; have h9 := h.2.2; unfold KT at h9; rw [hka] at h9; cases h9)).symm
            have hln3 : tds3.length ≤ i + 1 := by rw [htds3]; omega
            have htd3 := Todo.blkH (F := Nobody) hH (by repeat (first | exact In.here | refine In.there ?_)) htb1 htb2 htl1 htl2 hSR htbl
            obtain ⟨tdv3, htdv3⟩ : ∃ z : Value, z = .slice (some ⟨tb, 0, none⟩) tds.length tcap := ⟨_, rfl⟩
            rw [← htdv3] at hS htd3
            rw [← htds3] at htd3
            refine then_n ?_
            refine c_condF hS rfl rfl ?_
            refine wp_skip ?_
            refine blk_n ?_
            refine then_n ?_
            refine reg_plain w0 (SR) ?_
            (first | refine r_add hS hH.kp0 rfl rfl rfl (by omega) ?_ | refine r_addw hS hH.kp0 rfl rfl rfl ?_)
            clear hS; intro a hS
            refine r_move hS hH.kp0 rfl rfl ?_; clear hS; intro a hS
            refine Sq.nil ?_
            refine then_n ?_
            refine ⟨m - 1, by omega, i + 1, _, tdv3, tds3, by omega, ?_, hsp3, hln3, htd3, hS.live ⟨rfl, rfl, rfl, rfl, rfl, trivial⟩, (hHI.rebase hH (fun x hx => by rw [hSR] at hx; rcases hx with hx | hx; exact .inl hx; exact .inr (by rw [hx]; exact htb1))).sub (by repeat (first | exact Sub.nil | refine Sub.cons ?_ ?_ | exact In.here | refine In.there ?_)) hHI.nd⟩
            omega
          · refine r_pickT hS trivial rfl rfl rfl rfl ?_; clear hS; intro a hS
            refine Sq.nil ?_
            refine then_n ?_
            refine c_condT hS rfl rfl ?_
            refine reg_plain w0 (SR) ?_
            refine r_move hS hH.kp0 rfl rfl ?_; clear hS; intro a hS
            refine r_fieldAddr hS hH.kp0 rfl Fc.fo64_6 rfl ?_; clear hS; intro a hS
            refine r_load_sc hS hH (by repeat (first | exact Sub.nil | refine Sub.cons ?_ ?_ | exact In.here | refine In.there ?_)) rfl (by repeat (first | exact In.here | refine In.there ?_)) Fc.sc9 (by rfl) rfl ?_; clear hS; intro a hS
            refine r_strBytesK hS hH (by repeat (first | exact Sub.nil | refine Sub.cons ?_ ?_ | exact In.here | refine In.there ?_)) rfl Fc.und9 Fc.und22 Fc.ui5 rfl ?_
            clear hS hH; intro a w b93 c93 l93 f93 hb93 hbw93 hl93 hc93 hS hH
            refine r_buildSlice (parts := [(0, .tmp 49)]) hS hH (by repeat (first | exact Sub.nil | refine Sub.cons ?_ ?_ | exact In.here | refine In.there ?_)) rfl Fc.bsl31_1 (by rfl) rfl ?_
            clear hS hH; intro a w b94 hb94 hwb94 hS hH
            have h94 := hH.get (b := b94) (o := .cells ([Value.slice (some ⟨b93, 0, none⟩) (byt t).length c93] : List Value).toArray 22 (0, 0)) .here
            have hs94 : Sl 1 w (.slice (some ⟨b94, 0, none⟩) 1 1) [Value.slice (some ⟨b93, 0, none⟩) (byt t).length c93] 1 (some ⟨b94, 0, none⟩) 1 := Sl.of_block (es := 1) (m := 1) (cap := 1) h94 (Nat.le_refl 1) (Nat.le_refl 1)
            refine r_append_own hS hH rfl rfl (by repeat (first | exact .here | apply In.there | apply Put.there | apply Del.there)) (by repeat (first | exact Sub.nil | refine Sub.cons ?_ ?_ | exact In.here | refine In.there ?_)) Fc.el31 Fc.ni31 htl1 htl2 (hs94.src (by intro z hz; rw [List.mem_singleton.1 hz]; rfl)) (by omega) (.inl (by rw [hSR]; exact .inr rfl)) rfl ?_
            clear hS hH; intro a w ub ucap ul hub hul huc hut hum hS hH
            refine r_assign hS hH.kp0 rfl rfl ?_; clear hS; intro a hS
            refine Sq.nil ?_
            have hnb : b93 ≠ ub := hH.ne (x := b93) (y := ub) (.cons (by repeat (first | exact .here | apply In.there | apply Put.there | apply Del.there)) (.cons (by repeat (first | exact .here | apply In.there | apply Put.there | apply Del.there)) .nil)) (by intro h; injection h with _ h2 _; revert h2; decide)
            have hub1 : wB.heap.size ≤ ub := by rcases hub with h | h; (rw [hSR] at h; rcases h with h | h; exact h.elim; rw [h]; exact htb1); omega
            have hbl3 : BL (fun x => Nobody x ∨ x = ub) w (tl.take tds.length ++ [Value.slice (some ⟨b93, 0, none⟩) (byt t).length c93]) (tds ++ [byt t]) := BL.snoc (htbl.go (hSR ▸ hH.mod) (fun x hx => by rcases hx with hx | hx; exact hx.elim; rcases hub with h | h; (rw [hSR] at h; exact .inl (.inr (by rw [hx]; exact h.elim (fun h => h.elim) (fun h => h)))); exact .inr (by rw [hx]; exact h))) (BsF.of_blk (hH.get (b := b93) (by repeat (first | exact In.here | refine In.there ?_))) (fun h => h.elim (fun h => h) hnb) hl93 hc93)
            have htk3 : ul.take (tds ++ [byt t]).length = tl.take tds.length ++ [Value.slice (some ⟨b93, 0, none⟩) (byt t).length c93] := by rw [List.length_append]; have h9 := hut; rw [Nat.mul_one, Nat.mul_one] at h9; exact h9
            have htd3 : Todo wB.heap.size 22 Nobody w (.slice (some ⟨ub, 0, none⟩) (tds ++ [byt t]).length ucap) (tds ++ [byt t]) := .inr ⟨ub, ucap, ul, rfl, hub1, fun h => h, hH.get (b := ub) (by repeat (first | exact In.here | refine In.there ?_)), hul, by rw [List.length_append]; exact huc, by rw [htk3]; exact hbl3⟩
            obtain ⟨tdv3, htdv3⟩ : ∃ z : Value, z = .slice (some ⟨ub, 0, none⟩) (tds ++ [byt t]).length ucap := ⟨_, rfl⟩
            obtain ⟨tds3, htds3⟩ : ∃ z, z = tds ++ [byt t] := ⟨_, rfl⟩
            have hln3 : tds3.length ≤ i + 1 := by rw [htds3, List.length_append]; show _ + 1 ≤ _; omega
            rw [show (tds.length + 1 : Nat) = (tds ++ [byt t]).length from by rw [List.length_append]; rfl, ← htdv3] at hS
            rw [← htdv3, ← htds3] at htd3
            have hsp3 : tds3 = spL ts K (i + 1) := by rw [htds3]; exact (congrArg (· ++ [byt t]) hsp).trans (spL_yes ht ⟨hk6e, hki, by rw [hian]; exact hka⟩).symm
            refine blk_n ?_
            refine then_n ?_
            refine reg_plain w0 (SR) ?_
            (first | refine r_add hS hH.kp0 rfl rfl rfl (by omega) ?_ | refine r_addw hS hH.kp0 rfl rfl rfl ?_)
            clear hS; intro a hS
            refine r_move hS hH.kp0 rfl rfl ?_; clear hS; intro a hS
            refine Sq.nil ?_
            refine then_n ?_
            refine ⟨m - 1, by omega, i + 1, _, tdv3, tds3, by omega, ?_, hsp3, hln3, htd3, hS.live ⟨rfl, rfl, rfl, rfl, rfl, trivial⟩, (hHI.rebase hH (fun x hx => by rw [hSR] at hx; rcases hx with hx | hx; exact .inl hx; exact .inr (by rw [hx]; exact htb1))).sub (by repeat (first | exact Sub.nil | refine Sub.cons ?_ ?_ | exact In.here | refine In.there ?_)) hHI.nd⟩
            omega
    · have hge := of_decide_eq_false hc1
      have hii0 : i = ts.length := by omega
      subst hii0
      refine wp_exit ?_
      refine then_e ?_
      refine then_e ?_
      refine blk_hit ?_
      refine then_n ?_
      refine c_seq ?_
      refine reg_plain w0 (SR) ?_
      refine r_move hS hH.kp0 rfl rfl ?_; clear hS; intro a hS
      refine r_assign hS hH.kp0 rfl rfl ?_; clear hS; intro a hS
      refine Sq.nil ?_
      refine then_n ?_
      refine wp_ret ?_
      subst hsp
      exact leave (.inl rfl) hS rfl (Res.tmp rfl Res.nil) ⟨K, _, rfl, hKN, htd, hHI.mod⟩

end Go.Proofs.YtcjmehononbadaaDoor

namespace Go.Proofs.YtcjmehononbadaaDoor
open Go.Sym

theorem Fc.el22 : elB Tryd.prog 22 = some (5, 1, 1) := by kernel_rfl
theorem Fc.ni22 : notInt Tryd.prog 22 = true := by kernel_rfl
theorem Fc.zc5 : zcB Tryd.prog 5 = some [.int .u8 0] := by kernel_rfl
set_option maxRecDepth 100000 in
set_option maxHeartbeats 4000000 in
theorem Seal_big (b : Nat) (V : VB) (ts : List Tm) (h : List UInt8) (hh : h.length = 16) (k : Nat) (hk : k < ts.length) (hnm : h = nm k) (nu : Int) (hnu : 0 ≤ nu ∧ nu ≤ 9000000000000000000) (va vp : Value) (la lp : List UInt8) (hla : la.length ≤ 9223372036854775807) (hlp : 65536 < lp.length) (hm : ts.length ≤ 1000000000) (w0 : World) (hvi : VI w0 b V ts) (hba : BsF (V.F b) w0 va la) (hbp : BsF (V.F b) w0 vp lp) : Calls Tryd.prog 8 #[.pointer (some ⟨b, 0, none⟩), hnd h, .int .i64 nu, va, vp] w0 fun e w' => e = .returned (.tuple #[.slice none 0 0, .int .i64 3]) ∧ Ext w0 w' := by
  refine enter Tryd.func8 rfl rfl rfl ?_
  intro a hS
  have hH := Hp.start w0 (Nobody)
  obtain ⟨x0, x1, x2, x3, x4, x5, x6, x7, x8, x9, xa, xb, xc, xd, xe, xf, rfl⟩ := len16 hh
  replace hH := hH.knowV hvi (by intro p hp; simp at hp)
  obtain ⟨g2, hm2, hf2⟩ := hvi.ok.names
  obtain ⟨n0, th, e1, e2, hcase⟩ := hf2.look2 [x0, x1, x2, x3, x4, x5, x6, x7, x8, x9, xa, xb, xc, xd, xe, xf]
  rcases hcase.symm with ⟨_, _, hno⟩ | ⟨h, j9, hj9, hn0, hgj⟩
  · exact absurd hnm (hno k hk)
  subst h
  subst hn0
  obtain rfl : j9 = k := nm_inj (by omega) (by omega) (hgj.symm.trans hnm)
  obtain ⟨qp, qcp, hsp⟩ := hbp.bs
  have hvp := hsp.val
  subst hvp
  have hspl := hsp.le
  refine c_seq ?_
  refine reg_plain w0 (Nobody) ?_
  refine r_box hS hH (by repeat (first | exact Sub.nil | refine Sub.cons ?_ ?_ | exact In.here | refine In.there ?_)) rfl rfl rfl ?_
  clear hS hH; intro a w b6 hb6 hwb6 hS hH
  refine r_assign hS hH.kp0 rfl rfl ?_; clear hS; intro a hS
  refine r_assign hS hH.kp0 rfl rfl ?_; clear hS; intro a hS
  refine Sq.nil ?_
  refine then_n ?_
  refine c_seq ?_
  refine c_seq ?_
  refine reg_plain w0 (Nobody) ?_
  refine r_move hS hH.kp0 rfl rfl ?_; clear hS; intro a hS
  refine r_call (l := [.tmp 15]) hS rfl rfl Fc.fn24 rfl ?_
  refine Calls.mono (none_v b V ts _ (hH.vin hvi.ok hvi.n01 hvi.n23 (by repeat (first | exact In.here | refine In.there ?_)) (by repeat (first | exact In.here | refine In.there ?_)) (by repeat (first | exact In.here | refine In.there ?_)) (by repeat (first | exact In.here | refine In.there ?_)))) ?_
  rintro e w1 ⟨rfl, hE⟩
  replace hH := hH.ext hE
  refine ⟨_, rfl, hH.kp0, ?_⟩
  clear hS; intro a hS
  refine Sq.nil ?_
  refine then_n ?_
  refine c_condF hS rfl rfl ?_
  refine wp_skip ?_
  refine then_n ?_
  refine c_seq ?_
  refine reg_draw [(true, 0, []), (true, 1, []), (true, 2, []), (true, 3, []), (true, 4, []), (true, 5, []), (true, 6, []), (true, 7, []), (true, 8, []), (true, 9, []), (true, 10, [])] Fc.mixed (by kernel_rfl) (by kernel_rfl) (by kernel_rfl) (by kernel_rfl) (by kernel_rfl) (by repeat (first | with_reducible exact steady_body | with_reducible apply steady_block | with_reducible apply steady_then | exact steady_body)) hH ?_
  replace hH := hH.drew
  refine r_move hS trivial rfl rfl ?_; clear hS; intro a hS
  refine r_nilCheck hS trivial rfl rfl ?_; clear hS; intro a hS
  refine r_fieldAddr hS trivial rfl Fc.fo41_2 rfl ?_; clear hS; intro a hS
  refine r_load_scS hS rfl (by repeat (first | exact In.here | refine In.there ?_)) Fc.sc39 (by rfl) rfl ?_; clear hS; intro a hS
  refine r_load_rowS hS rfl (by repeat (first | exact In.here | refine In.there ?_)) Fc.ag26 (by rfl) rfl ?_; clear hS; intro a hS
  refine r_lookupS2 Fc.mtN hS rfl rfl (by repeat (first | exact In.here | refine In.there ?_)) hm2 (Fc.arrH.keyOf (h := [x0, x1, x2, x3, x4, x5, x6, x7, x8, x9, xa, xb, xc, xd, xe, xf]) rfl) e1 e2 rfl ?_; clear hS; intro a hS
  refine r_move hS trivial rfl rfl ?_; clear hS; intro a hS
  refine r_extract hS trivial rfl rfl rfl ?_; clear hS; intro a hS
  refine r_extract hS trivial rfl rfl rfl ?_; clear hS; intro a hS
  refine r_assign hS trivial rfl rfl ?_; clear hS; intro a hS
  refine r_assign hS trivial rfl rfl ?_; clear hS; intro a hS
  refine Sq.nil ?_
  refine then_n ?_
  refine c_seq ?_
  refine wp_block ?_
  refine c_seq ?_
  refine reg_plain w0 (Nobody) ?_
  refine r_move hS hH.kp0 rfl rfl ?_; clear hS; intro a hS
  refine r_not hS hH.kp0 rfl rfl ?_; clear hS; intro a hS
  refine r_assign hS hH.kp0 rfl rfl ?_; clear hS; intro a hS
  refine Sq.nil ?_
  refine then_n ?_
  refine c_condF hS rfl rfl ?_
  refine c_seq ?_
  refine reg_plain w0 (Nobody) ?_
  refine r_move hS hH.kp0 rfl rfl ?_; clear hS; intro a hS
  refine r_lss hS hH.kp0 rfl rfl rfl ?_; clear hS; intro a hS
  refine r_assign hS hH.kp0 rfl rfl ?_; clear hS; intro a hS
  refine Sq.nil ?_
  refine then_n ?_
  refine c_condF hS rfl (DF (by omega)) ?_
  refine c_seq ?_
  refine reg_plain w0 (Nobody) ?_
  refine r_move hS hH.kp0 rfl rfl ?_; clear hS; intro a hS
  refine r_lenSl hS hH.kp0 rfl Fc.isSlice22 rfl ?_; clear hS; intro a hS
  refine r_gtr hS hH.kp0 rfl rfl rfl ?_; clear hS; intro a hS
  refine r_assign hS hH.kp0 rfl rfl ?_; clear hS; intro a hS
  refine Sq.nil ?_
  refine then_n ?_
  refine c_condT hS rfl (DT (by omega)) ?_
  refine c_seq ?_
  refine reg_plain w0 (Nobody) ?_
  refine r_assign hS hH.kp0 rfl rfl ?_; clear hS; intro a hS
  refine r_assign hS hH.kp0 rfl rfl ?_; clear hS; intro a hS
  refine Sq.nil ?_
  refine then_n ?_
  refine wp_ret ?_
  refine blk_r ?_
  refine then_r ?_
  exact leave (.inl rfl) hS rfl (Res.tmp rfl (Res.tmp rfl Res.nil)) ⟨rfl, hH.mod⟩

set_option maxRecDepth 100000 in
set_option maxHeartbeats 4000000 in
theorem Seal_v (b : Nat) (V : VB) (ts : List Tm) (h : List UInt8) (hh : h.length = 16) (k : Nat) (hk : k < ts.length) (hnm : h = nm k) (nu : Int) (hnu : 0 ≤ nu ∧ nu ≤ 9000000000000000000) (va vp : Value) (la lp : List UInt8) (hla : la.length ≤ 9223372036854775807) (hlp : lp.length ≤ 65536) (hm : ts.length ≤ 1000000000) (w0 : World) (hvi : VI w0 b V ts) (hba : BsF (V.F b) w0 va la) (hbp : BsF (V.F b) w0 vp lp) : Calls Tryd.prog 8 #[.pointer (some ⟨b, 0, none⟩), hnd h, .int .i64 nu, va, vp] w0 fun e w' => ∃ (cb cap i : Nat) (cl : List Value) (V' : VB) (ts' : List Tm), e = .returned (.tuple #[.slice (some ⟨cb, 0, none⟩) (lp.length + 16) cap, .int .i64 0]) ∧ w0.heap.size ≤ cb ∧ w'.heap[cb]? = some (.cells cl.toArray 5 (0, 0)) ∧ BB cap cl (List.replicate lp.length 0 ++ nm i) ∧ VI w' b V' ts' ∧ VStep w0 w' b V V' ∧ Made ts (selT k nu (strOf la) (strOf lp)) i ts' := by
  refine enter Tryd.func8 rfl rfl rfl ?_
  intro a hS
  have hH := Hp.start w0 (V.F b)
  obtain ⟨x0, x1, x2, x3, x4, x5, x6, x7, x8, x9, xa, xb, xc, xd, xe, xf, rfl⟩ := len16 hh
  replace hH := hH.knowV hvi (by intro p hp; simp at hp)
  have hVS := VS.start w0 b V
  obtain ⟨g2, hm2, hf2⟩ := hvi.ok.names
  obtain ⟨n0, th, e1, e2, hcase⟩ := hf2.look2 [x0, x1, x2, x3, x4, x5, x6, x7, x8, x9, xa, xb, xc, xd, xe, xf]
  rcases hcase.symm with ⟨_, _, hno⟩ | ⟨h, j9, hj9, hn0, hgj⟩
  · exact absurd hnm (hno k hk)
  subst h
  subst hn0
  obtain rfl : j9 = k := nm_inj (by omega) (by omega) (hgj.symm.trans hnm)
  obtain ⟨qp, qcp, hsp⟩ := hbp.bs
  have hvp := hsp.val
  subst hvp
  have hspl := hsp.le
  refine c_seq ?_
  refine reg_plain w0 (V.F b) ?_
  refine r_box hS hH (by repeat (first | exact Sub.nil | refine Sub.cons ?_ ?_ | exact In.here | refine In.there ?_)) rfl rfl rfl ?_
  clear hS hH; intro a w b6 hb6 hwb6 hS hH
  refine r_assign hS hH.kp0 rfl rfl ?_; clear hS; intro a hS
  refine r_assign hS hH.kp0 rfl rfl ?_; clear hS; intro a hS
  refine Sq.nil ?_
  refine then_n ?_
  refine c_seq ?_
  refine c_seq ?_
  refine reg_plain w0 (V.F b) ?_
  refine r_move hS hH.kp0 rfl rfl ?_; clear hS; intro a hS
  refine r_call (l := [.tmp 15]) hS rfl rfl Fc.fn24 rfl ?_
  refine Calls.mono (none_v b V ts _ (hH.vin hvi.ok hvi.n01 hvi.n23 (by repeat (first | exact In.here | refine In.there ?_)) (by repeat (first | exact In.here | refine In.there ?_)) (by repeat (first | exact In.here | refine In.there ?_)) (by repeat (first | exact In.here | refine In.there ?_)))) ?_
  rintro e w1 ⟨rfl, hE⟩
  replace hH := hH.ext hE
  refine ⟨_, rfl, hH.kp0, ?_⟩
  clear hS; intro a hS
  refine Sq.nil ?_
  refine then_n ?_
  refine c_condF hS rfl rfl ?_
  refine wp_skip ?_
  refine then_n ?_
  refine c_seq ?_
  refine reg_draw [(true, 0, []), (true, 1, []), (true, 2, []), (true, 3, []), (true, 4, []), (true, 5, []), (true, 6, []), (true, 7, []), (true, 8, []), (true, 9, []), (true, 10, [])] Fc.mixed (by kernel_rfl) (by kernel_rfl) (by kernel_rfl) (by kernel_rfl) (by kernel_rfl) (by repeat (first | with_reducible exact steady_body | with_reducible apply steady_block | with_reducible apply steady_then | exact steady_body)) hH ?_
  replace hH := hH.drew
  refine r_move hS trivial rfl rfl ?_; clear hS; intro a hS
  refine r_nilCheck hS trivial rfl rfl ?_; clear hS; intro a hS
  refine r_fieldAddr hS trivial rfl Fc.fo41_2 rfl ?_; clear hS; intro a hS
  refine r_load_scS hS rfl (by repeat (first | exact In.here | refine In.there ?_)) Fc.sc39 (by rfl) rfl ?_; clear hS; intro a hS
  refine r_load_rowS hS rfl (by repeat (first | exact In.here | refine In.there ?_)) Fc.ag26 (by rfl) rfl ?_; clear hS; intro a hS
  refine r_lookupS2 Fc.mtN hS rfl rfl (by repeat (first | exact In.here | refine In.there ?_)) hm2 (Fc.arrH.keyOf (h := [x0, x1, x2, x3, x4, x5, x6, x7, x8, x9, xa, xb, xc, xd, xe, xf]) rfl) e1 e2 rfl ?_; clear hS; intro a hS
  refine r_move hS trivial rfl rfl ?_; clear hS; intro a hS
  refine r_extract hS trivial rfl rfl rfl ?_; clear hS; intro a hS
  refine r_extract hS trivial rfl rfl rfl ?_; clear hS; intro a hS
  refine r_assign hS trivial rfl rfl ?_; clear hS; intro a hS
  refine r_assign hS trivial rfl rfl ?_; clear hS; intro a hS
  refine Sq.nil ?_
  refine then_n ?_
  refine c_seq ?_
  refine wp_block ?_
  refine c_seq ?_
  refine reg_plain w0 (V.F b) ?_
  refine r_move hS hH.kp0 rfl rfl ?_; clear hS; intro a hS
  refine r_not hS hH.kp0 rfl rfl ?_; clear hS; intro a hS
  refine r_assign hS hH.kp0 rfl rfl ?_; clear hS; intro a hS
  refine Sq.nil ?_
  refine then_n ?_
  refine c_condF hS rfl rfl ?_
  refine c_seq ?_
  refine reg_plain w0 (V.F b) ?_
  refine r_move hS hH.kp0 rfl rfl ?_; clear hS; intro a hS
  refine r_lss hS hH.kp0 rfl rfl rfl ?_; clear hS; intro a hS
  refine r_assign hS hH.kp0 rfl rfl ?_; clear hS; intro a hS
  refine Sq.nil ?_
  refine then_n ?_
  refine c_condF hS rfl (DF (by omega)) ?_
  refine c_seq ?_
  refine reg_plain w0 (V.F b) ?_
  refine r_move hS hH.kp0 rfl rfl ?_; clear hS; intro a hS
  refine r_lenSl hS hH.kp0 rfl Fc.isSlice22 rfl ?_; clear hS; intro a hS
  refine r_gtr hS hH.kp0 rfl rfl rfl ?_; clear hS; intro a hS
  refine r_assign hS hH.kp0 rfl rfl ?_; clear hS; intro a hS
  refine Sq.nil ?_
  refine then_n ?_
  refine c_condF hS rfl (DF (by omega)) ?_
  refine wp_skip ?_
  refine blk_n ?_
  refine then_n ?_
  refine c_seq ?_
  refine reg_plain w0 (V.F b) ?_
  refine r_move hS hH.kp0 rfl rfl ?_; clear hS; intro a hS
  refine r_move hS hH.kp0 rfl rfl ?_; clear hS; intro a hS
  refine r_move hS hH.kp0 rfl rfl ?_; clear hS; intro a hS
  refine r_move hS hH.kp0 rfl rfl ?_; clear hS; intro a hS
  refine r_bytesStr hS hH.kp0 rfl (hba _ hH.mod) Fc.u8s22 Fc.isStr9 rfl ?_; clear hS; intro a hS
  refine r_move hS hH.kp0 rfl rfl ?_; clear hS; intro a hS
  refine r_bytesStr hS hH.kp0 rfl (hbp _ hH.mod) Fc.u8s22 Fc.isStr9 rfl ?_; clear hS; intro a hS
  refine r_buildS (parts := [(0, .const (.int .i64 6)), (1, .tmp 37), (3, .tmp 38), (5, .tmp 40), (6, .tmp 42)]) hS hH.kp0 rfl rfl Fc.zc64 Fc.pl64 (by rfl) ?_; clear hS; intro a hS
  refine r_call (l := [.tmp 36, .tmp 43]) hS rfl rfl Fc.fn23 rfl ?_
  refine Calls.mono (make_c b V ts (selT j9 nu (strOf la) (strOf lp)) (selT_ok (by omega) hnu hla (by show lp.length ≤ _; omega)) hm _ (hH.vin hvi.ok hvi.n01 hvi.n23 (by repeat (first | exact In.here | refine In.there ?_)) (by repeat (first | exact In.here | refine In.there ?_)) (by repeat (first | exact In.here | refine In.there ?_)) (by repeat (first | exact In.here | refine In.there ?_)))) ?_
  rintro e w1 ⟨h, i, V1, ts1, rfl, hqz, hvi1, hst, hmd⟩
  obtain ⟨z0, z1, z2, z3, z4, z5, z6, z7, z8, z9, za, zb, zc, zd, ze, zf, rfl⟩ := len16 (h := h) (by rw [hqz]; rfl)
  have hVS1 := hVS.step hst hH.mod.size
  replace hH := hH.vault hVS hst hvi1 (by first | exact .here | exact .there .here | exact .there (.there .here) | exact .there (.there (.there .here)) | exact .there (.there (.there (.there .here))) | exact .there (.there (.there (.there (.there .here)))) | exact .there (.there (.there (.there (.there (.there .here))))) | exact .there (.there (.there (.there (.there (.there (.there .here)))))) | exact .there (.there (.there (.there (.there (.there (.there (.there .here))))))) | exact .there (.there (.there (.there (.there (.there (.there (.there (.there .here)))))))) | exact .there (.there (.there (.there (.there (.there (.there (.there (.there (.there .here))))))))) | exact .there (.there (.there (.there (.there (.there (.there (.there (.there (.there (.there .here)))))))))) | exact .there (.there (.there (.there (.there (.there (.there (.there (.there (.there (.there (.there .here))))))))))) | exact .there (.there (.there (.there (.there (.there (.there (.there (.there (.there (.there (.there (.there .here)))))))))))) | exact .there (.there (.there (.there (.there (.there (.there (.there (.there (.there (.there (.there (.there (.there .here))))))))))))) | exact .there (.there (.there (.there (.there (.there (.there (.there (.there (.there (.there (.there (.there (.there (.there .here)))))))))))))))
  refine ⟨_, rfl, hH.kp0, ?_⟩
  clear hS; intro a hS
  refine r_alloc hS hH (by repeat (first | exact Sub.nil | refine Sub.cons ?_ ?_ | exact In.here | refine In.there ?_)) Fc.zc26 rfl ?_
  clear hS hH; intro a w b14 hb14 hwb14 hS hH
  refine r_store_row hS hH rfl rfl (by repeat (first | exact .here | apply In.there | apply Put.there | apply Del.there)) (by repeat (first | exact Sub.nil | refine Sub.cons ?_ ?_ | exact In.here | refine In.there ?_)) Fc.sz26 (by first | exact hcells_one _ | exact of_decide_eq_true rfl) (by rfl) (by first | exact .inr (by assumption) | exact .inl (by first | assumption | rfl)) ?_
  clear hH; intro w hH
  refine Sq.nil ?_
  refine then_n ?_
  refine c_seq ?_
  refine reg_draw [(true, 0, []), (true, 1, []), (true, 3, []), (false, 2, []), (false, 4, []), (true, 5, []), (true, 6, [])] Fc.mixed (by kernel_rfl) (by kernel_rfl) (by kernel_rfl) (by kernel_rfl) (by kernel_rfl) (by repeat (first | with_reducible exact steady_body | with_reducible apply steady_block | with_reducible apply steady_then | exact steady_body)) hH ?_
  replace hH := hH.drew
  refine r_move hS trivial rfl rfl ?_; clear hS; intro a hS
  refine r_lenSl hS trivial rfl Fc.isSlice22 rfl ?_; clear hS; intro a hS
  refine r_slArr hS trivial rfl Fc.ar26 rfl ?_; clear hS; intro a hS
  refine r_makeSl (m := lp.length) (v0 := .int .u8 0) hS hH (by repeat (first | exact Sub.nil | refine Sub.cons ?_ ?_ | exact In.here | refine In.there ?_)) rfl rfl rfl rfl Fc.el22 Fc.zc5 (by omega) (by omega) rfl ?_
  clear hS hH; intro a w b47 hb47 hwb47 hS hH
  refine r_append_own2 (m := lp.length) (cap := lp.length) hS hH rfl rfl (by repeat (first | exact .here | apply In.there | apply Put.there | apply Del.there)) (by repeat (first | exact Sub.nil | refine Sub.cons ?_ ?_ | exact In.here | refine In.there ?_)) Fc.el22 Fc.ni22 (by rw [List.length_replicate, Nat.mul_one]) (Nat.le_refl _) (Bs.handle (h := [z0, z1, z2, z3, z4, z5, z6, z7, z8, z9, za, zb, zc, zd, ze, zf]) (hH.get (b := b14) (by repeat (first | exact In.here | refine In.there ?_))) rfl).src (by show (lp.length + 16) * 1 ≤ _; omega) hb47 rfl ?_
  clear hS hH; intro a w bz cz kz hbz1 hlz hcz htz hmz hS hH
  have hBz : BB cz kz (List.replicate lp.length 0 ++ [z0, z1, z2, z3, z4, z5, z6, z7, z8, z9, za, zb, zc, zd, ze, zf]) := ⟨by rw [hlz, Nat.mul_one], by rw [List.length_append, List.length_replicate]; exact hcz, by rw [List.length_append, List.length_replicate]; rw [Nat.mul_one, Nat.mul_one] at htz; rw [show ([z0, z1, z2, z3, z4, z5, z6, z7, z8, z9, za, zb, zc, zd, ze, zf] : List UInt8).length = 16 from rfl]; rw [show lp.length + ([z0, z1, z2, z3, z4, z5, z6, z7, z8, z9, za, zb, zc, zd, ze, zf] : List UInt8).length = lp.length + 16 from rfl] at htz; rw [htz, List.map_append, rep_byte, List.take_of_length_le (by simp)]⟩
  refine r_assign hS trivial rfl rfl ?_; clear hS; intro a hS
  refine r_assign hS trivial rfl rfl ?_; clear hS; intro a hS
  refine Sq.nil ?_
  refine then_n ?_
  refine wp_ret ?_
  rw [hqz] at hBz
  exact leave (.inl rfl) hS rfl (Res.tmp rfl (Res.tmp rfl Res.nil)) ⟨bz, cz, i, kz, V1, ts1, rfl, hbz1, hH.get (b := bz) (by repeat (first | exact In.here | refine In.there ?_)), hBz, (hH.vin hvi1.ok hvi1.n01 hvi1.n23 (by repeat (first | exact In.here | refine In.there ?_)) (by repeat (first | exact In.here | refine In.there ?_)) (by repeat (first | exact In.here | refine In.there ?_)) (by repeat (first | exact In.here | refine In.there ?_))), ⟨hVS1, hH.mod⟩, hmd⟩

end Go.Proofs.YtcjmehononbadaaDoor
