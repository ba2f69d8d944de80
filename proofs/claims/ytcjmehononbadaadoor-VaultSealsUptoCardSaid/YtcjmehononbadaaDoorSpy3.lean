/- What is sealed is opened by its key, number and further bytes alone; who does not know the key does not come to know it (for inputs up to the size bound). Part Spy3: walks and lemmas of the proof. -/
import Derived.Test.YtcjmehononbadaaDoorSpy2
namespace Go.Proofs.YtcjmehononbadaaDoor
open Go.Sym

theorem Fc.elb : elB Tryd.prog 69 = some (4, 1, 1) := by kernel_rfl
theorem Fc.fn54 : isFn Tryd.prog 54 = true := by kernel_rfl
theorem Fc.fn55 : isFn Tryd.prog 55 = true := by kernel_rfl
theorem Fc.pl71 : placesB Tryd.prog 71 = some [(0, 1), (1, 1), (2, 1)] := by kernel_rfl
theorem Fc.sz67 : sizeB Tryd.prog 67 1 = true := by kernel_rfl
theorem Fc.sz69 : sizeB Tryd.prog 69 1 = true := by kernel_rfl
theorem Fc.zc4 : zcB Tryd.prog 4 = some [.bool false] := by kernel_rfl
theorem Fc.zc67 : zcB Tryd.prog 67 = some [.pointer none] := by kernel_rfl
theorem Fc.zc69 : zcB Tryd.prog 69 = some [.slice none 0 0] := by kernel_rfl
theorem Fc.zc71 : zcB Tryd.prog 71 = some [.pointer none, .slice none 0 0, .slice none 0 0] := by kernel_rfl
set_option maxRecDepth 100000 in
set_option maxHeartbeats 4000000 in
theorem knows6_nil (b : Nat) (V : VB) (ts : List Tm) (hm : ts.length ≤ 1000000000) (hwf : Wf6 ts) (hpos : 0 < ts.length) (w0 : World) (hvi : VI w0 b V ts) :
    Calls Tryd.prog 26 #[.pointer (some ⟨b, 0, none⟩), .slice none 0 0] w0 fun e w' => ∃ bs bk K tdv, e = .returned (.pointer (some ⟨bs, 0, none⟩)) ∧ w'.heap[bs]? = some (.cells [.pointer (some ⟨b, 0, none⟩), .slice (some ⟨bk, 0, none⟩) ts.length ts.length, tdv].toArray 71 (0, 0)) ∧ w'.heap[bk]? = some (.cells (bools K).toArray 4 (0, 0)) ∧ Knows6 ts [] K ∧ Ext w0 w' ∧ w0.heap.size ≤ bs ∧ w0.heap.size ≤ bk := by
  refine enter Tryd.func26 rfl rfl rfl ?_
  intro a hS
  have hH := Hp.start w0 (Nobody)
  have h0 := hpos
  have hll : ∀ l ∈ ([] : List (List UInt8)), l.length ≤ 1099511627776 := fun l hl => (by cases hl)
  have hlsl : ([] : List (List UInt8)).length ≤ 1099511627776 := by decide
  replace hH := hH.knowV hvi (by intro p hp; simp at hp)
  refine c_seq ?_
  refine reg_plain w0 (Nobody) ?_
  refine r_box hS hH (by repeat (first | exact Sub.nil | refine Sub.cons ?_ ?_ | exact In.here | refine In.there ?_)) rfl rfl rfl ?_
  clear hS hH; intro a w b2 hb2 hwb2 hS hH
  refine r_assign hS hH.kp0 rfl rfl ?_; clear hS; intro a hS
  refine Sq.nil ?_
  refine then_n ?_
  refine c_cut (fun a w => ∃ (bs bk b5  : Nat), w0.heap.size ≤ bs ∧ w0.heap.size ≤ bk ∧ w0.heap.size ≤ b5 ∧ St 34 (lv [(2, .pointer (some ⟨b2, 0, none⟩)), (5, .pointer (some ⟨b5, 0, none⟩))]) a ∧ Hp w0 Nobody [(bs, .cells [.pointer (some ⟨b, 0, none⟩), .slice (some ⟨bk, 0, none⟩) ts.length ts.length, .slice none 0 0].toArray 71 (0, 0)), (bk, .cells (bools (List.replicate ts.length false)).toArray 4 (0, 0)), (b5, .cells [.pointer (some ⟨bs, 0, none⟩)].toArray 67 (0, 0)), (b2, .cells [.pointer (some ⟨b, 0, none⟩)].toArray 23 (0, 0)), (b, .cells (V.top ts.length).toArray 41 (0, 0)), (V.sb, .cells V.l.toArray 64 (0, 0)), (V.fb, .map V.es V.c), (V.nb, .map V.es' V.c')] w) ?_ ?_
  · refine reg_tree [(true, 0, []), (true, 1, []), (true, 2, []), (true, 3, []), (true, 4, []), (true, 5, []), (false, 6, []), (true, 7, []), (false, 8, []), (true, 9, []), (false, 10, []), (false, 11, []), (false, 12, [])] (PT.ofPlan [(true, 0, []), (true, 1, []), (true, 2, []), (true, 3, []), (true, 4, []), (true, 5, []), (true, 7, [])] (.fork3 (PT.ofPlan [(false, 6, [])] (.fork (PT.ofPlan [(false, 8, []), (true, 9, [])] (.fork (PT.ofPlan [(false, 10, []), (false, 11, []), (false, 12, [])] .nil) (PT.ofPlan [(false, 11, []), (false, 10, []), (false, 12, [])] .nil))) (PT.ofPlan [(false, 11, []), (false, 8, []), (true, 9, []), (false, 10, []), (false, 12, [])] .nil))) (PT.ofPlan [(false, 8, [])] (.fork (PT.ofPlan [(false, 6, []), (true, 9, [])] (.fork (PT.ofPlan [(false, 10, []), (false, 11, []), (false, 12, [])] .nil) (PT.ofPlan [(false, 11, []), (false, 10, []), (false, 12, [])] .nil))) (PT.ofPlan [(false, 11, []), (false, 6, []), (true, 9, []), (false, 10, []), (false, 12, [])] .nil))) (PT.ofPlan [(false, 11, [])] (.fork (PT.ofPlan [(false, 6, []), (false, 8, []), (true, 9, []), (false, 10, []), (false, 12, [])] .nil) (PT.ofPlan [(false, 8, []), (false, 6, []), (true, 9, []), (false, 10, []), (false, 12, [])] .nil))))) Fc.mixed (by kernel_rfl) (by kernel_rfl) (by kernel_rfl) (by kernel_rfl) (by kernel_rfl) (by kernel_rfl) (by repeat (first | with_reducible exact steady_body | with_reducible apply steady_block | with_reducible apply steady_then | exact steady_body)) hH ?_
    replace hH := hH.drew
    refine tr_seg ?_
    refine r_load_scS hS rfl (by repeat (first | exact In.here | refine In.there ?_)) Fc.sc23 (by rfl) rfl ?_; clear hS; intro a hS
    refine r_load_scS hS rfl (by repeat (first | exact In.here | refine In.there ?_)) Fc.sc23 (by rfl) rfl ?_; clear hS; intro a hS
    refine r_nilCheck hS trivial rfl rfl ?_; clear hS; intro a hS
    refine r_fieldAddr hS trivial rfl Fc.fo41_0 rfl ?_; clear hS; intro a hS
    refine r_load_scS hS rfl (by repeat (first | exact In.here | refine In.there ?_)) Fc.sc37 (by rfl) rfl ?_; clear hS; intro a hS
    refine r_lenSl hS trivial rfl Fc.isSlice37 rfl ?_; clear hS; intro a hS
    refine r_move hS trivial rfl rfl ?_; clear hS; intro a hS
    refine Sq.nil ?_
    refine then_n ?_
    refine tr_fork3 ?_ ?_ ?_
    · refine tr_seg ?_
      refine r_makeSl (m := ts.length) (v0 := .bool false) hS hH (by repeat (first | exact Sub.nil | refine Sub.cons ?_ ?_ | exact In.here | refine In.there ?_)) rfl rfl rfl rfl Fc.elb Fc.zc4 (by omega) (by omega) rfl ?_
      clear hS hH; intro a w bk hbk hwbk hS hH
      rw [bools_rep] at hH
      refine Sq.nil ?_
      refine then_n ?_
      refine tr_fork ?_ ?_
      · refine tr_seg ?_
        refine r_call (l := [.tmp 15]) hS rfl rfl Fc.fn54 rfl ?_
        refine Calls.mono (clone_nil _) ?_
        rintro e w1 ⟨rfl, hE⟩
        replace hH := hH.ext hE
        refine ⟨_, rfl, hH.kp (by repeat (first | exact Sub.nil | refine Sub.cons ?_ ?_ | exact In.here | refine In.there ?_)), ?_⟩
        clear hS; intro a hS
        refine r_buildS (parts := [(0, .tmp 8), (1, .tmp 14), (2, .tmp 16)]) hS trivial rfl rfl Fc.zc71 Fc.pl71 (by rfl) ?_; clear hS; intro a hS
        refine Sq.nil ?_
        refine then_n ?_
        refine tr_fork ?_ ?_
        · refine tr_seg ?_
          refine r_box hS hH (by repeat (first | exact Sub.nil | refine Sub.cons ?_ ?_ | exact In.here | refine In.there ?_)) rfl rfl rfl ?_
          clear hS hH; intro a w bs hbs hwbs hS hH
          refine r_alloc hS hH (by repeat (first | exact Sub.nil | refine Sub.cons ?_ ?_ | exact In.here | refine In.there ?_)) Fc.zc67 rfl ?_
          clear hS hH; intro a w b5 hb5 hwb5 hS hH
          refine r_store1 hS hH rfl rfl rfl (by repeat (first | exact .here | apply In.there | apply Put.there | apply Del.there)) (by repeat (first | exact Sub.nil | refine Sub.cons ?_ ?_ | exact In.here | refine In.there ?_)) Fc.sz67 (of_decide_eq_true rfl) (.inr (by assumption)) ?_
          clear hH; intro w hH
          refine Sq.nil ?_
          refine then_n ?_
          refine tr_nil ?_
          refine then_n ?_
          have hH2 := ((hH.front (b := b5) (by repeat (first | exact .here | apply In.there | apply Put.there | apply Del.there))).front (b := bk) (by repeat (first | exact .here | apply In.there | apply Put.there | apply Del.there))).front (b := bs) (by repeat (first | exact .here | apply In.there | apply Put.there | apply Del.there))
          exact ⟨bs, bk, b5, hbs, hbk, hb5, hS.live ⟨rfl, rfl, trivial⟩, hH2⟩
        · refine tr_seg ?_
          refine r_alloc hS hH (by repeat (first | exact Sub.nil | refine Sub.cons ?_ ?_ | exact In.here | refine In.there ?_)) Fc.zc67 rfl ?_
          clear hS hH; intro a w b5 hb5 hwb5 hS hH
          refine r_box hS hH (by repeat (first | exact Sub.nil | refine Sub.cons ?_ ?_ | exact In.here | refine In.there ?_)) rfl rfl rfl ?_
          clear hS hH; intro a w bs hbs hwbs hS hH
          refine r_store1 hS hH rfl rfl rfl (by repeat (first | exact .here | apply In.there | apply Put.there | apply Del.there)) (by repeat (first | exact Sub.nil | refine Sub.cons ?_ ?_ | exact In.here | refine In.there ?_)) Fc.sz67 (of_decide_eq_true rfl) (.inr (by assumption)) ?_
          clear hH; intro w hH
          refine Sq.nil ?_
          refine then_n ?_
          refine tr_nil ?_
          refine then_n ?_
          have hH2 := ((hH.front (b := b5) (by repeat (first | exact .here | apply In.there | apply Put.there | apply Del.there))).front (b := bk) (by repeat (first | exact .here | apply In.there | apply Put.there | apply Del.there))).front (b := bs) (by repeat (first | exact .here | apply In.there | apply Put.there | apply Del.there))
          exact ⟨bs, bk, b5, hbs, hbk, hb5, hS.live ⟨rfl, rfl, trivial⟩, hH2⟩
      · refine tr_seg ?_
        refine r_alloc hS hH (by repeat (first | exact Sub.nil | refine Sub.cons ?_ ?_ | exact In.here | refine In.there ?_)) Fc.zc67 rfl ?_
        clear hS hH; intro a w b5 hb5 hwb5 hS hH
        refine r_call (l := [.tmp 15]) hS rfl rfl Fc.fn54 rfl ?_
        refine Calls.mono (clone_nil _) ?_
        rintro e w1 ⟨rfl, hE⟩
        replace hH := hH.ext hE
        refine ⟨_, rfl, hH.kp (by repeat (first | exact Sub.nil | refine Sub.cons ?_ ?_ | exact In.here | refine In.there ?_)), ?_⟩
        clear hS; intro a hS
        refine r_buildS (parts := [(0, .tmp 8), (1, .tmp 14), (2, .tmp 16)]) hS trivial rfl rfl Fc.zc71 Fc.pl71 (by rfl) ?_; clear hS; intro a hS
        refine r_box hS hH (by repeat (first | exact Sub.nil | refine Sub.cons ?_ ?_ | exact In.here | refine In.there ?_)) rfl rfl rfl ?_
        clear hS hH; intro a w bs hbs hwbs hS hH
        refine r_store1 hS hH rfl rfl rfl (by repeat (first | exact .here | apply In.there | apply Put.there | apply Del.there)) (by repeat (first | exact Sub.nil | refine Sub.cons ?_ ?_ | exact In.here | refine In.there ?_)) Fc.sz67 (of_decide_eq_true rfl) (.inr (by assumption)) ?_
        clear hH; intro w hH
        refine Sq.nil ?_
        refine then_n ?_
        refine tr_nil ?_
        refine then_n ?_
        have hH2 := ((hH.front (b := b5) (by repeat (first | exact .here | apply In.there | apply Put.there | apply Del.there))).front (b := bk) (by repeat (first | exact .here | apply In.there | apply Put.there | apply Del.there))).front (b := bs) (by repeat (first | exact .here | apply In.there | apply Put.there | apply Del.there))
        exact ⟨bs, bk, b5, hbs, hbk, hb5, hS.live ⟨rfl, rfl, trivial⟩, hH2⟩
    · refine tr_seg ?_
      refine r_call (l := [.tmp 15]) hS rfl rfl Fc.fn54 rfl ?_
      refine Calls.mono (clone_nil _) ?_
      rintro e w1 ⟨rfl, hE⟩
      replace hH := hH.ext hE
      refine ⟨_, rfl, hH.kp (by repeat (first | exact Sub.nil | refine Sub.cons ?_ ?_ | exact In.here | refine In.there ?_)), ?_⟩
      clear hS; intro a hS
      refine Sq.nil ?_
      refine then_n ?_
      refine tr_fork ?_ ?_
      · refine tr_seg ?_
        refine r_makeSl (m := ts.length) (v0 := .bool false) hS hH (by repeat (first | exact Sub.nil | refine Sub.cons ?_ ?_ | exact In.here | refine In.there ?_)) rfl rfl rfl rfl Fc.elb Fc.zc4 (by omega) (by omega) rfl ?_
        clear hS hH; intro a w bk hbk hwbk hS hH
        rw [bools_rep] at hH
        refine r_buildS (parts := [(0, .tmp 8), (1, .tmp 14), (2, .tmp 16)]) hS trivial rfl rfl Fc.zc71 Fc.pl71 (by rfl) ?_; clear hS; intro a hS
        refine Sq.nil ?_
        refine then_n ?_
        refine tr_fork ?_ ?_
        · refine tr_seg ?_
          refine r_box hS hH (by repeat (first | exact Sub.nil | refine Sub.cons ?_ ?_ | exact In.here | refine In.there ?_)) rfl rfl rfl ?_
          clear hS hH; intro a w bs hbs hwbs hS hH
          refine r_alloc hS hH (by repeat (first | exact Sub.nil | refine Sub.cons ?_ ?_ | exact In.here | refine In.there ?_)) Fc.zc67 rfl ?_
          clear hS hH; intro a w b5 hb5 hwb5 hS hH
          refine r_store1 hS hH rfl rfl rfl (by repeat (first | exact .here | apply In.there | apply Put.there | apply Del.there)) (by repeat (first | exact Sub.nil | refine Sub.cons ?_ ?_ | exact In.here | refine In.there ?_)) Fc.sz67 (of_decide_eq_true rfl) (.inr (by assumption)) ?_
          clear hH; intro w hH
          refine Sq.nil ?_
          refine then_n ?_
          refine tr_nil ?_
          refine then_n ?_
          have hH2 := ((hH.front (b := b5) (by repeat (first | exact .here | apply In.there | apply Put.there | apply Del.there))).front (b := bk) (by repeat (first | exact .here | apply In.there | apply Put.there | apply Del.there))).front (b := bs) (by repeat (first | exact .here | apply In.there | apply Put.there | apply Del.there))
          exact ⟨bs, bk, b5, hbs, hbk, hb5, hS.live ⟨rfl, rfl, trivial⟩, hH2⟩
        · refine tr_seg ?_
          refine r_alloc hS hH (by repeat (first | exact Sub.nil | refine Sub.cons ?_ ?_ | exact In.here | refine In.there ?_)) Fc.zc67 rfl ?_
          clear hS hH; intro a w b5 hb5 hwb5 hS hH
          refine r_box hS hH (by repeat (first | exact Sub.nil | refine Sub.cons ?_ ?_ | exact In.here | refine In.there ?_)) rfl rfl rfl ?_
          clear hS hH; intro a w bs hbs hwbs hS hH
          refine r_store1 hS hH rfl rfl rfl (by repeat (first | exact .here | apply In.there | apply Put.there | apply Del.there)) (by repeat (first | exact Sub.nil | refine Sub.cons ?_ ?_ | exact In.here | refine In.there ?_)) Fc.sz67 (of_decide_eq_true rfl) (.inr (by assumption)) ?_
          clear hH; intro w hH
          refine Sq.nil ?_
          refine then_n ?_
          refine tr_nil ?_
          refine then_n ?_
          have hH2 := ((hH.front (b := b5) (by repeat (first | exact .here | apply In.there | apply Put.there | apply Del.there))).front (b := bk) (by repeat (first | exact .here | apply In.there | apply Put.there | apply Del.there))).front (b := bs) (by repeat (first | exact .here | apply In.there | apply Put.there | apply Del.there))
          exact ⟨bs, bk, b5, hbs, hbk, hb5, hS.live ⟨rfl, rfl, trivial⟩, hH2⟩
      · refine tr_seg ?_
        refine r_alloc hS hH (by repeat (first | exact Sub.nil | refine Sub.cons ?_ ?_ | exact In.here | refine In.there ?_)) Fc.zc67 rfl ?_
        clear hS hH; intro a w b5 hb5 hwb5 hS hH
        refine r_makeSl (m := ts.length) (v0 := .bool false) hS hH (by repeat (first | exact Sub.nil | refine Sub.cons ?_ ?_ | exact In.here | refine In.there ?_)) rfl rfl rfl rfl Fc.elb Fc.zc4 (by omega) (by omega) rfl ?_
        clear hS hH; intro a w bk hbk hwbk hS hH
        rw [bools_rep] at hH
        refine r_buildS (parts := [(0, .tmp 8), (1, .tmp 14), (2, .tmp 16)]) hS trivial rfl rfl Fc.zc71 Fc.pl71 (by rfl) ?_; clear hS; intro a hS
        refine r_box hS hH (by repeat (first | exact Sub.nil | refine Sub.cons ?_ ?_ | exact In.here | refine In.there ?_)) rfl rfl rfl ?_
        clear hS hH; intro a w bs hbs hwbs hS hH
        refine r_store1 hS hH rfl rfl rfl (by repeat (first | exact .here | apply In.there | apply Put.there | apply Del.there)) (by repeat (first | exact Sub.nil | refine Sub.cons ?_ ?_ | exact In.here | refine In.there ?_)) Fc.sz67 (of_decide_eq_true rfl) (.inr (by assumption)) ?_
        clear hH; intro w hH
        refine Sq.nil ?_
        refine then_n ?_
        refine tr_nil ?_
        refine then_n ?_
        have hH2 := ((hH.front (b := b5) (by repeat (first | exact .here | apply In.there | apply Put.there | apply Del.there))).front (b := bk) (by repeat (first | exact .here | apply In.there | apply Put.there | apply Del.there))).front (b := bs) (by repeat (first | exact .here | apply In.there | apply Put.there | apply Del.there))
        exact ⟨bs, bk, b5, hbs, hbk, hb5, hS.live ⟨rfl, rfl, trivial⟩, hH2⟩
    · refine tr_seg ?_
      refine r_alloc hS hH (by repeat (first | exact Sub.nil | refine Sub.cons ?_ ?_ | exact In.here | refine In.there ?_)) Fc.zc67 rfl ?_
      clear hS hH; intro a w b5 hb5 hwb5 hS hH
      refine Sq.nil ?_
      refine then_n ?_
      refine tr_fork ?_ ?_
      · refine tr_seg ?_
        refine r_makeSl (m := ts.length) (v0 := .bool false) hS hH (by repeat (first | exact Sub.nil | refine Sub.cons ?_ ?_ | exact In.here | refine In.there ?_)) rfl rfl rfl rfl Fc.elb Fc.zc4 (by omega) (by omega) rfl ?_
        clear hS hH; intro a w bk hbk hwbk hS hH
        rw [bools_rep] at hH
        refine r_call (l := [.tmp 15]) hS rfl rfl Fc.fn54 rfl ?_
        refine Calls.mono (clone_nil _) ?_
        rintro e w1 ⟨rfl, hE⟩
        replace hH := hH.ext hE
        refine ⟨_, rfl, hH.kp (by repeat (first | exact Sub.nil | refine Sub.cons ?_ ?_ | exact In.here | refine In.there ?_)), ?_⟩
        clear hS; intro a hS
        refine r_buildS (parts := [(0, .tmp 8), (1, .tmp 14), (2, .tmp 16)]) hS trivial rfl rfl Fc.zc71 Fc.pl71 (by rfl) ?_; clear hS; intro a hS
        refine r_box hS hH (by repeat (first | exact Sub.nil | refine Sub.cons ?_ ?_ | exact In.here | refine In.there ?_)) rfl rfl rfl ?_
        clear hS hH; intro a w bs hbs hwbs hS hH
        refine r_store1 hS hH rfl rfl rfl (by repeat (first | exact .here | apply In.there | apply Put.there | apply Del.there)) (by repeat (first | exact Sub.nil | refine Sub.cons ?_ ?_ | exact In.here | refine In.there ?_)) Fc.sz67 (of_decide_eq_true rfl) (.inr (by assumption)) ?_
        clear hH; intro w hH
        refine Sq.nil ?_
        refine then_n ?_
        refine tr_nil ?_
        refine then_n ?_
        have hH2 := ((hH.front (b := b5) (by repeat (first | exact .here | apply In.there | apply Put.there | apply Del.there))).front (b := bk) (by repeat (first | exact .here | apply In.there | apply Put.there | apply Del.there))).front (b := bs) (by repeat (first | exact .here | apply In.there | apply Put.there | apply Del.there))
        exact ⟨bs, bk, b5, hbs, hbk, hb5, hS.live ⟨rfl, rfl, trivial⟩, hH2⟩
      · refine tr_seg ?_
        refine r_call (l := [.tmp 15]) hS rfl rfl Fc.fn54 rfl ?_
        refine Calls.mono (clone_nil _) ?_
        rintro e w1 ⟨rfl, hE⟩
        replace hH := hH.ext hE
        refine ⟨_, rfl, hH.kp (by repeat (first | exact Sub.nil | refine Sub.cons ?_ ?_ | exact In.here | refine In.there ?_)), ?_⟩
        clear hS; intro a hS
        refine r_makeSl (m := ts.length) (v0 := .bool false) hS hH (by repeat (first | exact Sub.nil | refine Sub.cons ?_ ?_ | exact In.here | refine In.there ?_)) rfl rfl rfl rfl Fc.elb Fc.zc4 (by omega) (by omega) rfl ?_
        clear hS hH; intro a w bk hbk hwbk hS hH
        rw [bools_rep] at hH
        refine r_buildS (parts := [(0, .tmp 8), (1, .tmp 14), (2, .tmp 16)]) hS trivial rfl rfl Fc.zc71 Fc.pl71 (by rfl) ?_; clear hS; intro a hS
        refine r_box hS hH (by repeat (first | exact Sub.nil | refine Sub.cons ?_ ?_ | exact In.here | refine In.there ?_)) rfl rfl rfl ?_
        clear hS hH; intro a w bs hbs hwbs hS hH
        refine r_store1 hS hH rfl rfl rfl (by repeat (first | exact .here | apply In.there | apply Put.there | apply Del.there)) (by repeat (first | exact Sub.nil | refine Sub.cons ?_ ?_ | exact In.here | refine In.there ?_)) Fc.sz67 (of_decide_eq_true rfl) (.inr (by assumption)) ?_
        clear hH; intro w hH
        refine Sq.nil ?_
        refine then_n ?_
        refine tr_nil ?_
        refine then_n ?_
        have hH2 := ((hH.front (b := b5) (by repeat (first | exact .here | apply In.there | apply Put.there | apply Del.there))).front (b := bk) (by repeat (first | exact .here | apply In.there | apply Put.there | apply Del.there))).front (b := bs) (by repeat (first | exact .here | apply In.there | apply Put.there | apply Del.there))
        exact ⟨bs, bk, b5, hbs, hbk, hb5, hS.live ⟨rfl, rfl, trivial⟩, hH2⟩
  clear hS hH; intro a w hJ; obtain ⟨bs, bk, b5, hbs, hbk, hb5, hS, hH⟩ := hJ
  refine c_seq ?_
  refine reg_plain w0 (Nobody) ?_
  refine r_load_sc hS hH (by repeat (first | exact Sub.nil | refine Sub.cons ?_ ?_ | exact In.here | refine In.there ?_)) rfl (by repeat (first | exact In.here | refine In.there ?_)) Fc.sc67 (by rfl) rfl ?_; clear hS; intro a hS
  refine r_nilCheck hS hH.kp0 rfl rfl ?_; clear hS; intro a hS
  refine r_fieldAddr hS hH.kp0 rfl Fc.fo71_1 rfl ?_; clear hS; intro a hS
  refine r_load_sc hS hH (by repeat (first | exact Sub.nil | refine Sub.cons ?_ ?_ | exact In.here | refine In.there ?_)) rfl (by repeat (first | exact In.here | refine In.there ?_)) Fc.sc69 (by rfl) rfl ?_; clear hS; intro a hS
  refine r_indexAddrS (j := 0) hS hH.kp0 rfl rfl Fc.slb69 rfl h0 rfl ?_; clear hS; intro a hS
  refine r_store1 hS hH rfl rfl rfl (by repeat (first | exact .here | apply In.there | apply Put.there | apply Del.there)) (by repeat (first | exact Sub.nil | refine Sub.cons ?_ ?_ | exact In.here | refine In.there ?_)) Fc.sz4 (by rw [bools_len]; simpa using h0) (.inr hbk) ?_; clear hH; intro w hH
  rw [spl_bools (by simpa using h0)] at hH
  refine Sq.nil ?_
  refine then_n ?_
  refine c_seq ?_
  refine reg_plain w0 (Nobody) ?_
  refine r_load_sc hS hH (by repeat (first | exact Sub.nil | refine Sub.cons ?_ ?_ | exact In.here | refine In.there ?_)) rfl (by repeat (first | exact In.here | refine In.there ?_)) Fc.sc23 (by rfl) rfl ?_; clear hS; intro a hS
  refine r_nilCheck hS hH.kp0 rfl rfl ?_; clear hS; intro a hS
  refine r_fieldAddr hS hH.kp0 rfl Fc.fo41_0 rfl ?_; clear hS; intro a hS
  refine r_load_sc hS hH (by repeat (first | exact Sub.nil | refine Sub.cons ?_ ?_ | exact In.here | refine In.there ?_)) rfl (by repeat (first | exact In.here | refine In.there ?_)) Fc.sc37 (by rfl) rfl ?_; clear hS; intro a hS
  refine r_lenSl hS hH.kp0 rfl Fc.isSlice37 rfl ?_; clear hS; intro a hS
  refine r_makeSl (m := ts.length) (v0 := .bool false) hS hH (by repeat (first | exact Sub.nil | refine Sub.cons ?_ ?_ | exact In.here | refine In.there ?_)) rfl rfl rfl rfl Fc.elb Fc.zc4 (by omega) (by omega) rfl ?_
  clear hS hH; intro a w bo hbo hwbo hS hH
  rw [bools_rep] at hH
  refine r_alloc hS hH (by repeat (first | exact Sub.nil | refine Sub.cons ?_ ?_ | exact In.here | refine In.there ?_)) Fc.zc69 rfl ?_
  clear hS hH; intro a w b6 hb6 hwb6 hS hH
  refine r_store1 hS hH rfl rfl rfl (by repeat (first | exact .here | apply In.there | apply Put.there | apply Del.there)) (by repeat (first | exact Sub.nil | refine Sub.cons ?_ ?_ | exact In.here | refine In.there ?_)) Fc.sz69 (of_decide_eq_true rfl) (by first | exact .inr (by assumption) | exact .inl (by first | assumption | rfl)) ?_
  clear hH; intro w hH
  refine Sq.nil ?_
  refine then_n ?_
  refine c_seq ?_
  refine reg_plain w0 (Nobody) ?_
  refine r_makeFunc hS hH.kp0 rfl rfl rfl ?_; clear hS; intro a hS
  refine r_assign hS hH.kp0 rfl rfl ?_; clear hS; intro a hS
  refine Sq.nil ?_
  refine then_n ?_
  refine c_seq ?_
  refine wp_block ?_
  refine c_loop (fun m a w => ∃ (K O : List Bool) (tdv : Value) (ls1 : List (List UInt8)), m + (cnt K + cnt O) = 2 * ts.length ∧ KnowI6 ts [] ls1 K O ∧ SlG (fun x => x = bk ∨ x = bs ∨ x = bo) w tdv ls1 ∧ (∀ l ∈ ls1, l.length ≤ 1099511627776) ∧ ls1.length ≤ 1099511627776 ∧ St 34 (lv [(5, .pointer (some ⟨b5, 0, none⟩)), (7, .func (.func 55) #[] #[.pointer (some ⟨b5, 0, none⟩), .pointer (some ⟨b2, 0, none⟩), .pointer (some ⟨b6, 0, none⟩)])]) a ∧ Hp w0 Nobody [(b6, .cells [.slice (some ⟨bo, 0, none⟩) ts.length ts.length].toArray 69 (0, 0)), (bo, .cells (bools O).toArray 4 (0, 0)), (bs, .cells [.pointer (some ⟨b, 0, none⟩), .slice (some ⟨bk, 0, none⟩) ts.length ts.length, tdv].toArray 71 (0, 0)), (bk, .cells (bools K).toArray 4 (0, 0)), (b5, .cells [.pointer (some ⟨bs, 0, none⟩)].toArray 67 (0, 0)), (b2, .cells [.pointer (some ⟨b, 0, none⟩)].toArray 23 (0, 0)), (b, .cells (V.top ts.length).toArray 41 (0, 0)), (V.sb, .cells V.l.toArray 64 (0, 0)), (V.fb, .map V.es V.c), (V.nb, .map V.es' V.c')] w) (2 * ts.length - (cnt ((List.replicate ts.length false).set 0 true) + cnt (List.replicate ts.length false))) ?_ ?_
  · have hsg : SlG (fun x => x = bk ∨ x = bs ∨ x = bo) w (.slice none 0 0) [] := SlG.nil _ _
    exact ⟨((List.replicate ts.length false).set 0 true), _, _, [], by have := cnt2_le (K := ((List.replicate ts.length false).set 0 true)) (O := List.replicate ts.length false) (n := ts.length) (by simp) (by simp); omega, KnowI6.start h0, hsg, hll, hlsl, hS.live ⟨rfl, rfl, trivial⟩, hH⟩
  clear hS hH; intro m a w hI; obtain ⟨K, O, tdv, ls1, hmc, hKI, hsg, hll1, hls1, hS, hH⟩ := hI
  have hcl0 := cnt2_le hKI.len hKI.lenO
  have nko : bo ≠ bk := fun e => by have nd := hH.nd; simp [e] at nd
  refine c_seq ?_
  refine c_seq ?_
  refine reg_plain w0 (Nobody) ?_
  refine r_move hS hH.kp0 rfl rfl ?_; clear hS; intro a hS
  refine r_call (l := []) hS rfl rfl Fc.fn55 rfl ?_
  refine Calls.mono (step6_v b V ts hm hwf b5 b2 b6 bs bk bo tdv ls1 hll1 hls1 K O hKI.len hKI.lenO nko _ (hH.vin hvi.ok hvi.n01 hvi.n23 (by repeat (first | exact In.here | refine In.there ?_)) (by repeat (first | exact In.here | refine In.there ?_)) (by repeat (first | exact In.here | refine In.there ?_)) (by repeat (first | exact In.here | refine In.there ?_))) (hH.get (b := bs) (by repeat (first | exact In.here | refine In.there ?_))) (hH.get (b := bk) (by repeat (first | exact In.here | refine In.there ?_))) (hH.get (b := b5) (by repeat (first | exact In.here | refine In.there ?_))) (hH.get (b := b2) (by repeat (first | exact In.here | refine In.there ?_))) (hH.get (b := b6) (by repeat (first | exact In.here | refine In.there ?_))) (hH.get (b := bo) (by repeat (first | exact In.here | refine In.there ?_))) hsg) ?_
  rintro e w1 ⟨more, K2, O2, tdv2, tds, rfl, hbs2, hbk2, hbo2, hSR, hsg2, htl9, hM⟩
  have nbk : bs ≠ bk := hH.ne (x := bs) (y := bk) (.cons (by repeat (first | exact .here | apply In.there | apply Put.there | apply Del.there)) (.cons (by repeat (first | exact .here | apply In.there | apply Put.there | apply Del.there)) .nil)) (by intro h; injection h with _ h2 _; revert h2; decide)
  replace hH := hH.mod3 hM hbs2 hbk2 hbo2 (by repeat (first | exact .here | apply In.there | apply Put.there | apply Del.there)) (by repeat (first | exact .here | apply In.there | apply Put.there | apply Del.there)) (by repeat (first | exact .here | apply In.there | apply Put.there | apply Del.there)) (.inr hbs) (.inr hbk) (.inr hbo)
  refine ⟨_, rfl, hH.kp0, ?_⟩
  clear hS; intro a hS
  refine Sq.nil ?_
  refine then_n ?_
  refine c_cond hS rfl (fun hc0 => ?_) (fun hc0 => ?_)
  · have hcn := hSR.yes hc0
    have hcl := cnt2_le hSR.len hSR.lenO
    refine wp_skip ?_
    refine then_n ?_
    refine wp_block ?_
    refine wp_skip ?_
    refine blk_n ?_
    refine then_n ?_
    exact ⟨m - ((cnt K2 + cnt O2) - (cnt K + cnt O)), by omega, K2, O2, _, tds, by omega, hKI.next hSR, hsg2, fun l hl => by obtain ⟨j9, t9, h9, _, _, _, rfl⟩ := hSR.tds_ l hl; exact hwf.sz j9 t9 h9, by omega, hS.live ⟨rfl, rfl, trivial⟩, hH⟩
  · subst hc0
    have hKN := hKI.done hSR
    refine wp_exit ?_
    refine then_e ?_
    refine then_e ?_
    refine blk_hit ?_
    refine then_n ?_
    refine c_seq ?_
    refine reg_plain w0 (Nobody) ?_
    refine r_load_sc hS hH (by repeat (first | exact Sub.nil | refine Sub.cons ?_ ?_ | exact In.here | refine In.there ?_)) rfl (by repeat (first | exact In.here | refine In.there ?_)) Fc.sc67 (by rfl) rfl ?_; clear hS; intro a hS
    refine r_assign hS hH.kp0 rfl rfl ?_; clear hS; intro a hS
    refine Sq.nil ?_
    refine then_n ?_
    refine wp_ret ?_
    exact leave (.inl rfl) hS rfl (Res.tmp rfl Res.nil) ⟨bs, bk, K2, _, rfl, hH.get (b := bs) (by repeat (first | exact In.here | refine In.there ?_)), hH.get (b := bk) (by repeat (first | exact In.here | refine In.there ?_)), hKN, hH.mod, hbs, hbk⟩

set_option maxRecDepth 100000 in
set_option maxHeartbeats 4000000 in
theorem knows6_sl (b : Nat) (V : VB) (ts : List Tm) (hm : ts.length ≤ 1000000000) (hwf : Wf6 ts) (hpos : 0 < ts.length) (q : Addr) (qc : Nat) (ls : List (List UInt8)) (hll : ∀ l ∈ ls, l.length ≤ 1099511627776) (hls2 : ls.length ≤ 1048576) (xs : List Value) (w0 : World) (hvi : VI w0 b V ts) (hsl0 : ∀ w', Ext w0 w' → Sl 1 w' (.slice (some q) ls.length qc) xs ls.length (some q) qc) (hall : ∀ (i : Nat) (x : Value), xs[i]? = some x → ∃ l, ls[i]? = some l ∧ BsF Nobody w0 x l) :
    Calls Tryd.prog 26 #[.pointer (some ⟨b, 0, none⟩), .slice (some q) ls.length qc] w0 fun e w' => ∃ bs bk K tdv, e = .returned (.pointer (some ⟨bs, 0, none⟩)) ∧ w'.heap[bs]? = some (.cells [.pointer (some ⟨b, 0, none⟩), .slice (some ⟨bk, 0, none⟩) ts.length ts.length, tdv].toArray 71 (0, 0)) ∧ w'.heap[bk]? = some (.cells (bools K).toArray 4 (0, 0)) ∧ Knows6 ts ls K ∧ Ext w0 w' ∧ w0.heap.size ≤ bs ∧ w0.heap.size ≤ bk := by
  refine enter Tryd.func26 rfl rfl rfl ?_
  intro a hS
  have hH := Hp.start w0 (Nobody)
  have h0 := hpos
  have hlsl : ls.length ≤ 1099511627776 := by omega
  have hx1 : ∀ u ∈ xs, u.oneCell' = true := by intro u hu; obtain ⟨i, hi⟩ := List.getElem?_of_mem hu; obtain ⟨l, _, hb⟩ := hall i u hi; obtain ⟨p9, c9, hs9⟩ := hb.bs; rw [hs9.val]; rfl
  replace hH := hH.knowV hvi (by intro p hp; simp at hp)
  refine c_seq ?_
  refine reg_plain w0 (Nobody) ?_
  refine r_box hS hH (by repeat (first | exact Sub.nil | refine Sub.cons ?_ ?_ | exact In.here | refine In.there ?_)) rfl rfl rfl ?_
  clear hS hH; intro a w b2 hb2 hwb2 hS hH
  refine r_assign hS hH.kp0 rfl rfl ?_; clear hS; intro a hS
  refine Sq.nil ?_
  refine then_n ?_
  refine c_cut (fun a w => ∃ (bs bk b5 cb cap : Nat) (l2 : List Value), w0.heap.size ≤ bs ∧ w0.heap.size ≤ bk ∧ w0.heap.size ≤ b5 ∧ w0.heap.size ≤ cb ∧ ls.length ≤ cap ∧ l2.length = cap ∧ l2.take ls.length = xs ∧ St 34 (lv [(2, .pointer (some ⟨b2, 0, none⟩)), (5, .pointer (some ⟨b5, 0, none⟩))]) a ∧ Hp w0 Nobody [(bs, .cells [.pointer (some ⟨b, 0, none⟩), .slice (some ⟨bk, 0, none⟩) ts.length ts.length, .slice (some ⟨cb, 0, none⟩) ls.length cap].toArray 71 (0, 0)), (bk, .cells (bools (List.replicate ts.length false)).toArray 4 (0, 0)), (b5, .cells [.pointer (some ⟨bs, 0, none⟩)].toArray 67 (0, 0)), (cb, .cells l2.toArray 22 (0, 0)), (b2, .cells [.pointer (some ⟨b, 0, none⟩)].toArray 23 (0, 0)), (b, .cells (V.top ts.length).toArray 41 (0, 0)), (V.sb, .cells V.l.toArray 64 (0, 0)), (V.fb, .map V.es V.c), (V.nb, .map V.es' V.c')] w) ?_ ?_
  · refine reg_tree [(true, 0, []), (true, 1, []), (true, 2, []), (true, 3, []), (true, 4, []), (true, 5, []), (false, 6, []), (true, 7, []), (false, 8, []), (true, 9, []), (false, 10, []), (false, 11, []), (false, 12, [])] (PT.ofPlan [(true, 0, []), (true, 1, []), (true, 2, []), (true, 3, []), (true, 4, []), (true, 5, []), (true, 7, [])] (.fork3 (PT.ofPlan [(false, 6, [])] (.fork (PT.ofPlan [(false, 8, []), (true, 9, [])] (.fork (PT.ofPlan [(false, 10, []), (false, 11, []), (false, 12, [])] .nil) (PT.ofPlan [(false, 11, []), (false, 10, []), (false, 12, [])] .nil))) (PT.ofPlan [(false, 11, []), (false, 8, []), (true, 9, []), (false, 10, []), (false, 12, [])] .nil))) (PT.ofPlan [(false, 8, [])] (.fork (PT.ofPlan [(false, 6, []), (true, 9, [])] (.fork (PT.ofPlan [(false, 10, []), (false, 11, []), (false, 12, [])] .nil) (PT.ofPlan [(false, 11, []), (false, 10, []), (false, 12, [])] .nil))) (PT.ofPlan [(false, 11, []), (false, 6, []), (true, 9, []), (false, 10, []), (false, 12, [])] .nil))) (PT.ofPlan [(false, 11, [])] (.fork (PT.ofPlan [(false, 6, []), (false, 8, []), (true, 9, []), (false, 10, []), (false, 12, [])] .nil) (PT.ofPlan [(false, 8, []), (false, 6, []), (true, 9, []), (false, 10, []), (false, 12, [])] .nil))))) Fc.mixed (by kernel_rfl) (by kernel_rfl) (by kernel_rfl) (by kernel_rfl) (by kernel_rfl) (by kernel_rfl) (by repeat (first | with_reducible exact steady_body | with_reducible apply steady_block | with_reducible apply steady_then | exact steady_body)) hH ?_
    replace hH := hH.drew
    refine tr_seg ?_
    refine r_load_scS hS rfl (by repeat (first | exact In.here | refine In.there ?_)) Fc.sc23 (by rfl) rfl ?_; clear hS; intro a hS
    refine r_load_scS hS rfl (by repeat (first | exact In.here | refine In.there ?_)) Fc.sc23 (by rfl) rfl ?_; clear hS; intro a hS
    refine r_nilCheck hS trivial rfl rfl ?_; clear hS; intro a hS
    refine r_fieldAddr hS trivial rfl Fc.fo41_0 rfl ?_; clear hS; intro a hS
    refine r_load_scS hS rfl (by repeat (first | exact In.here | refine In.there ?_)) Fc.sc37 (by rfl) rfl ?_; clear hS; intro a hS
    refine r_lenSl hS trivial rfl Fc.isSlice37 rfl ?_; clear hS; intro a hS
    refine r_move hS trivial rfl rfl ?_; clear hS; intro a hS
    refine Sq.nil ?_
    refine then_n ?_
    refine tr_fork3 ?_ ?_ ?_
    · refine tr_seg ?_
      refine r_makeSl (m := ts.length) (v0 := .bool false) hS hH (by repeat (first | exact Sub.nil | refine Sub.cons ?_ ?_ | exact In.here | refine In.there ?_)) rfl rfl rfl rfl Fc.elb Fc.zc4 (by omega) (by omega) rfl ?_
      clear hS hH; intro a w bk hbk hwbk hS hH
      rw [bools_rep] at hH
      refine Sq.nil ?_
      refine then_n ?_
      refine tr_fork ?_ ?_
      · refine tr_seg ?_
        refine r_call (l := [.tmp 15]) hS rfl rfl Fc.fn54 rfl ?_
        refine Calls.mono (clone_sl q xs ls.length qc _ (hsl0 _ hH.mod) hx1 (by omega)) ?_
        rintro e w1 ⟨cb, cap, l2, rfl, hcb, hcbk, hcap, hl2, htk2, hE⟩
        have hlt := fun (p : Nat × Obj) hp => lt_of_block (hH.blk p hp)
        have hcb0 := Nat.le_trans hH.mod.size hcb
        replace hH := (hH.ext hE).know hcbk (fun p hp e => by have h1 := hlt p hp; omega)
        refine ⟨_, rfl, hH.kp (by repeat (first | exact Sub.nil | refine Sub.cons ?_ ?_ | exact In.here | refine In.there ?_)), ?_⟩
        clear hS; intro a hS
        refine r_buildS (parts := [(0, .tmp 8), (1, .tmp 14), (2, .tmp 16)]) hS trivial rfl rfl Fc.zc71 Fc.pl71 (by rfl) ?_; clear hS; intro a hS
        refine Sq.nil ?_
        refine then_n ?_
        refine tr_fork ?_ ?_
        · refine tr_seg ?_
          refine r_box hS hH (by repeat (first | exact Sub.nil | refine Sub.cons ?_ ?_ | exact In.here | refine In.there ?_)) rfl rfl rfl ?_
          clear hS hH; intro a w bs hbs hwbs hS hH
          refine r_alloc hS hH (by repeat (first | exact Sub.nil | refine Sub.cons ?_ ?_ | exact In.here | refine In.there ?_)) Fc.zc67 rfl ?_
          clear hS hH; intro a w b5 hb5 hwb5 hS hH
          refine r_store1 hS hH rfl rfl rfl (by repeat (first | exact .here | apply In.there | apply Put.there | apply Del.there)) (by repeat (first | exact Sub.nil | refine Sub.cons ?_ ?_ | exact In.here | refine In.there ?_)) Fc.sz67 (of_decide_eq_true rfl) (.inr (by assumption)) ?_
          clear hH; intro w hH
          refine Sq.nil ?_
          refine then_n ?_
          refine tr_nil ?_
          refine then_n ?_
          have hH2 := (((hH.front (b := cb) (by repeat (first | exact .here | apply In.there | apply Put.there | apply Del.there))).front (b := b5) (by repeat (first | exact .here | apply In.there | apply Put.there | apply Del.there))).front (b := bk) (by repeat (first | exact .here | apply In.there | apply Put.there | apply Del.there))).front (b := bs) (by repeat (first | exact .here | apply In.there | apply Put.there | apply Del.there))
          exact ⟨bs, bk, b5, cb, cap, l2, hbs, hbk, hb5, hcb0, hcap, hl2, htk2, hS.live ⟨rfl, rfl, trivial⟩, hH2⟩
        · refine tr_seg ?_
          refine r_alloc hS hH (by repeat (first | exact Sub.nil | refine Sub.cons ?_ ?_ | exact In.here | refine In.there ?_)) Fc.zc67 rfl ?_
          clear hS hH; intro a w b5 hb5 hwb5 hS hH
          refine r_box hS hH (by repeat (first | exact Sub.nil | refine Sub.cons ?_ ?_ | exact In.here | refine In.there ?_)) rfl rfl rfl ?_
          clear hS hH; intro a w bs hbs hwbs hS hH
          refine r_store1 hS hH rfl rfl rfl (by repeat (first | exact .here | apply In.there | apply Put.there | apply Del.there)) (by repeat (first | exact Sub.nil | refine Sub.cons ?_ ?_ | exact In.here | refine In.there ?_)) Fc.sz67 (of_decide_eq_true rfl) (.inr (by assumption)) ?_
          clear hH; intro w hH
          refine Sq.nil ?_
          refine then_n ?_
          refine tr_nil ?_
          refine then_n ?_
          have hH2 := (((hH.front (b := cb) (by repeat (first | exact .here | apply In.there | apply Put.there | apply Del.there))).front (b := b5) (by repeat (first | exact .here | apply In.there | apply Put.there | apply Del.there))).front (b := bk) (by repeat (first | exact .here | apply In.there | apply Put.there | apply Del.there))).front (b := bs) (by repeat (first | exact .here | apply In.there | apply Put.there | apply Del.there))
          exact ⟨bs, bk, b5, cb, cap, l2, hbs, hbk, hb5, hcb0, hcap, hl2, htk2, hS.live ⟨rfl, rfl, trivial⟩, hH2⟩
      · refine tr_seg ?_
        refine r_alloc hS hH (by repeat (first | exact Sub.nil | refine Sub.cons ?_ ?_ | exact In.here | refine In.there ?_)) Fc.zc67 rfl ?_
        clear hS hH; intro a w b5 hb5 hwb5 hS hH
        refine r_call (l := [.tmp 15]) hS rfl rfl Fc.fn54 rfl ?_
        refine Calls.mono (clone_sl q xs ls.length qc _ (hsl0 _ hH.mod) hx1 (by omega)) ?_
        rintro e w1 ⟨cb, cap, l2, rfl, hcb, hcbk, hcap, hl2, htk2, hE⟩
        have hlt := fun (p : Nat × Obj) hp => lt_of_block (hH.blk p hp)
        have hcb0 := Nat.le_trans hH.mod.size hcb
        replace hH := (hH.ext hE).know hcbk (fun p hp e => by have h1 := hlt p hp; omega)
        refine ⟨_, rfl, hH.kp (by repeat (first | exact Sub.nil | refine Sub.cons ?_ ?_ | exact In.here | refine In.there ?_)), ?_⟩
        clear hS; intro a hS
        refine r_buildS (parts := [(0, .tmp 8), (1, .tmp 14), (2, .tmp 16)]) hS trivial rfl rfl Fc.zc71 Fc.pl71 (by rfl) ?_; clear hS; intro a hS
        refine r_box hS hH (by repeat (first | exact Sub.nil | refine Sub.cons ?_ ?_ | exact In.here | refine In.there ?_)) rfl rfl rfl ?_
        clear hS hH; intro a w bs hbs hwbs hS hH
        refine r_store1 hS hH rfl rfl rfl (by repeat (first | exact .here | apply In.there | apply Put.there | apply Del.there)) (by repeat (first | exact Sub.nil | refine Sub.cons ?_ ?_ | exact In.here | refine In.there ?_)) Fc.sz67 (of_decide_eq_true rfl) (.inr (by assumption)) ?_
        clear hH; intro w hH
        refine Sq.nil ?_
        refine then_n ?_
        refine tr_nil ?_
        refine then_n ?_
        have hH2 := (((hH.front (b := cb) (by repeat (first | exact .here | apply In.there | apply Put.there | apply Del.there))).front (b := b5) (by repeat (first | exact .here | apply In.there | apply Put.there | apply Del.there))).front (b := bk) (by repeat (first | exact .here | apply In.there | apply Put.there | apply Del.there))).front (b := bs) (by repeat (first | exact .here | apply In.there | apply Put.there | apply Del.there))
        exact ⟨bs, bk, b5, cb, cap, l2, hbs, hbk, hb5, hcb0, hcap, hl2, htk2, hS.live ⟨rfl, rfl, trivial⟩, hH2⟩
    · refine tr_seg ?_
      refine r_call (l := [.tmp 15]) hS rfl rfl Fc.fn54 rfl ?_
      refine Calls.mono (clone_sl q xs ls.length qc _ (hsl0 _ hH.mod) hx1 (by omega)) ?_
      rintro e w1 ⟨cb, cap, l2, rfl, hcb, hcbk, hcap, hl2, htk2, hE⟩
      have hlt := fun (p : Nat × Obj) hp => lt_of_block (hH.blk p hp)
      have hcb0 := Nat.le_trans hH.mod.size hcb
      replace hH := (hH.ext hE).know hcbk (fun p hp e => by have h1 := hlt p hp; omega)
      refine ⟨_, rfl, hH.kp (by repeat (first | exact Sub.nil | refine Sub.cons ?_ ?_ | exact In.here | refine In.there ?_)), ?_⟩
      clear hS; intro a hS
      refine Sq.nil ?_
      refine then_n ?_
      refine tr_fork ?_ ?_
      · refine tr_seg ?_
        refine r_makeSl (m := ts.length) (v0 := .bool false) hS hH (by repeat (first | exact Sub.nil | refine Sub.cons ?_ ?_ | exact In.here | refine In.there ?_)) rfl rfl rfl rfl Fc.elb Fc.zc4 (by omega) (by omega) rfl ?_
        clear hS hH; intro a w bk hbk hwbk hS hH
        rw [bools_rep] at hH
        refine r_buildS (parts := [(0, .tmp 8), (1, .tmp 14), (2, .tmp 16)]) hS trivial rfl rfl Fc.zc71 Fc.pl71 (by rfl) ?_; clear hS; intro a hS
        refine Sq.nil ?_
        refine then_n ?_
        refine tr_fork ?_ ?_
        · refine tr_seg ?_
          refine r_box hS hH (by repeat (first | exact Sub.nil | refine Sub.cons ?_ ?_ | exact In.here | refine In.there ?_)) rfl rfl rfl ?_
          clear hS hH; intro a w bs hbs hwbs hS hH
          refine r_alloc hS hH (by repeat (first | exact Sub.nil | refine Sub.cons ?_ ?_ | exact In.here | refine In.there ?_)) Fc.zc67 rfl ?_
          clear hS hH; intro a w b5 hb5 hwb5 hS hH
          refine r_store1 hS hH rfl rfl rfl (by repeat (first | exact .here | apply In.there | apply Put.there | apply Del.there)) (by repeat (first | exact Sub.nil | refine Sub.cons ?_ ?_ | exact In.here | refine In.there ?_)) Fc.sz67 (of_decide_eq_true rfl) (.inr (by assumption)) ?_
          clear hH; intro w hH
          refine Sq.nil ?_
          refine then_n ?_
          refine tr_nil ?_
          refine then_n ?_
          have hH2 := (((hH.front (b := cb) (by repeat (first | exact .here | apply In.there | apply Put.there | apply Del.there))).front (b := b5) (by repeat (first | exact .here | apply In.there | apply Put.there | apply Del.there))).front (b := bk) (by repeat (first | exact .here | apply In.there | apply Put.there | apply Del.there))).front (b := bs) (by repeat (first | exact .here | apply In.there | apply Put.there | apply Del.there))
          exact ⟨bs, bk, b5, cb, cap, l2, hbs, hbk, hb5, hcb0, hcap, hl2, htk2, hS.live ⟨rfl, rfl, trivial⟩, hH2⟩
        · refine tr_seg ?_
          refine r_alloc hS hH (by repeat (first | exact Sub.nil | refine Sub.cons ?_ ?_ | exact In.here | refine In.there ?_)) Fc.zc67 rfl ?_
          clear hS hH; intro a w b5 hb5 hwb5 hS hH
          refine r_box hS hH (by repeat (first | exact Sub.nil | refine Sub.cons ?_ ?_ | exact In.here | refine In.there ?_)) rfl rfl rfl ?_
          clear hS hH; intro a w bs hbs hwbs hS hH
          refine r_store1 hS hH rfl rfl rfl (by repeat (first | exact .here | apply In.there | apply Put.there | apply Del.there)) (by repeat (first | exact Sub.nil | refine Sub.cons ?_ ?_ | exact In.here | refine In.there ?_)) Fc.sz67 (of_decide_eq_true rfl) (.inr (by assumption)) ?_
          clear hH; intro w hH
          refine Sq.nil ?_
          refine then_n ?_
          refine tr_nil ?_
          refine then_n ?_
          have hH2 := (((hH.front (b := cb) (by repeat (first | exact .here | apply In.there | apply Put.there | apply Del.there))).front (b := b5) (by repeat (first | exact .here | apply In.there | apply Put.there | apply Del.there))).front (b := bk) (by repeat (first | exact .here | apply In.there | apply Put.there | apply Del.there))).front (b := bs) (by repeat (first | exact .here | apply In.there | apply Put.there | apply Del.there))
          exact ⟨bs, bk, b5, cb, cap, l2, hbs, hbk, hb5, hcb0, hcap, hl2, htk2, hS.live ⟨rfl, rfl, trivial⟩, hH2⟩
      · refine tr_seg ?_
        refine r_alloc hS hH (by repeat (first | exact Sub.nil | refine Sub.cons ?_ ?_ | exact In.here | refine In.there ?_)) Fc.zc67 rfl ?_
        clear hS hH; intro a w b5 hb5 hwb5 hS hH
        refine r_makeSl (m := ts.length) (v0 := .bool false) hS hH (by repeat (first | exact Sub.nil | refine Sub.cons ?_ ?_ | exact In.here | refine In.there ?_)) rfl rfl rfl rfl Fc.elb Fc.zc4 (by omega) (by omega) rfl ?_
        clear hS hH; intro a w bk hbk hwbk hS hH
        rw [bools_rep] at hH
        refine r_buildS (parts := [(0, .tmp 8), (1, .tmp 14), (2, .tmp 16)]) hS trivial rfl rfl Fc.zc71 Fc.pl71 (by rfl) ?_; clear hS; intro a hS
        refine r_box hS hH (by repeat (first | exact Sub.nil | refine Sub.cons ?_ ?_ | exact In.here | refine In.there ?_)) rfl rfl rfl ?_
        clear hS hH; intro a w bs hbs hwbs hS hH
        refine r_store1 hS hH rfl rfl rfl (by repeat (first | exact .here | apply In.there | apply Put.there | apply Del.there)) (by repeat (first | exact Sub.nil | refine Sub.cons ?_ ?_ | exact In.here | refine In.there ?_)) Fc.sz67 (of_decide_eq_true rfl) (.inr (by assumption)) ?_
        clear hH; intro w hH
        refine Sq.nil ?_
        refine then_n ?_
        refine tr_nil ?_
        refine then_n ?_
        have hH2 := (((hH.front (b := cb) (by repeat (first | exact .here | apply In.there | apply Put.there | apply Del.there))).front (b := b5) (by repeat (first | exact .here | apply In.there | apply Put.there | apply Del.there))).front (b := bk) (by repeat (first | exact .here | apply In.there | apply Put.there | apply Del.there))).front (b := bs) (by repeat (first | exact .here | apply In.there | apply Put.there | apply Del.there))
        exact ⟨bs, bk, b5, cb, cap, l2, hbs, hbk, hb5, hcb0, hcap, hl2, htk2, hS.live ⟨rfl, rfl, trivial⟩, hH2⟩
    · refine tr_seg ?_
      refine r_alloc hS hH (by repeat (first | exact Sub.nil | refine Sub.cons ?_ ?_ | exact In.here | refine In.there ?_)) Fc.zc67 rfl ?_
      clear hS hH; intro a w b5 hb5 hwb5 hS hH
      refine Sq.nil ?_
      refine then_n ?_
      refine tr_fork ?_ ?_
      · refine tr_seg ?_
        refine r_makeSl (m := ts.length) (v0 := .bool false) hS hH (by repeat (first | exact Sub.nil | refine Sub.cons ?_ ?_ | exact In.here | refine In.there ?_)) rfl rfl rfl rfl Fc.elb Fc.zc4 (by omega) (by omega) rfl ?_
        clear hS hH; intro a w bk hbk hwbk hS hH
        rw [bools_rep] at hH
        refine r_call (l := [.tmp 15]) hS rfl rfl Fc.fn54 rfl ?_
        refine Calls.mono (clone_sl q xs ls.length qc _ (hsl0 _ hH.mod) hx1 (by omega)) ?_
        rintro e w1 ⟨cb, cap, l2, rfl, hcb, hcbk, hcap, hl2, htk2, hE⟩
        have hlt := fun (p : Nat × Obj) hp => lt_of_block (hH.blk p hp)
        have hcb0 := Nat.le_trans hH.mod.size hcb
        replace hH := (hH.ext hE).know hcbk (fun p hp e => by have h1 := hlt p hp; omega)
        refine ⟨_, rfl, hH.kp (by repeat (first | exact Sub.nil | refine Sub.cons ?_ ?_ | exact In.here | refine In.there ?_)), ?_⟩
        clear hS; intro a hS
        refine r_buildS (parts := [(0, .tmp 8), (1, .tmp 14), (2, .tmp 16)]) hS trivial rfl rfl Fc.zc71 Fc.pl71 (by rfl) ?_; clear hS; intro a hS
        refine r_box hS hH (by repeat (first | exact Sub.nil | refine Sub.cons ?_ ?_ | exact In.here | refine In.there ?_)) rfl rfl rfl ?_
        clear hS hH; intro a w bs hbs hwbs hS hH
        refine r_store1 hS hH rfl rfl rfl (by repeat (first | exact .here | apply In.there | apply Put.there | apply Del.there)) (by repeat (first | exact Sub.nil | refine Sub.cons ?_ ?_ | exact In.here | refine In.there ?_)) Fc.sz67 (of_decide_eq_true rfl) (.inr (by assumption)) ?_
        clear hH; intro w hH
        refine Sq.nil ?_
        refine then_n ?_
        refine tr_nil ?_
        refine then_n ?_
        have hH2 := (((hH.front (b := cb) (by repeat (first | exact .here | apply In.there | apply Put.there | apply Del.there))).front (b := b5) (by repeat (first | exact .here | apply In.there | apply Put.there | apply Del.there))).front (b := bk) (by repeat (first | exact .here | apply In.there | apply Put.there | apply Del.there))).front (b := bs) (by repeat (first | exact .here | apply In.there | apply Put.there | apply Del.there))
        exact ⟨bs, bk, b5, cb, cap, l2, hbs, hbk, hb5, hcb0, hcap, hl2, htk2, hS.live ⟨rfl, rfl, trivial⟩, hH2⟩
      · refine tr_seg ?_
        refine r_call (l := [.tmp 15]) hS rfl rfl Fc.fn54 rfl ?_
        refine Calls.mono (clone_sl q xs ls.length qc _ (hsl0 _ hH.mod) hx1 (by omega)) ?_
        rintro e w1 ⟨cb, cap, l2, rfl, hcb, hcbk, hcap, hl2, htk2, hE⟩
        have hlt := fun (p : Nat × Obj) hp => lt_of_block (hH.blk p hp)
        have hcb0 := Nat.le_trans hH.mod.size hcb
        replace hH := (hH.ext hE).know hcbk (fun p hp e => by have h1 := hlt p hp; omega)
        refine ⟨_, rfl, hH.kp (by repeat (first | exact Sub.nil | refine Sub.cons ?_ ?_ | exact In.here | refine In.there ?_)), ?_⟩
        clear hS; intro a hS
        refine r_makeSl (m := ts.length) (v0 := .bool false) hS hH (by repeat (first | exact Sub.nil | refine Sub.cons ?_ ?_ | exact In.here | refine In.there ?_)) rfl rfl rfl rfl Fc.elb Fc.zc4 (by omega) (by omega) rfl ?_
        clear hS hH; intro a w bk hbk hwbk hS hH
        rw [bools_rep] at hH
        refine r_buildS (parts := [(0, .tmp 8), (1, .tmp 14), (2, .tmp 16)]) hS trivial rfl rfl Fc.zc71 Fc.pl71 (by rfl) ?_; clear hS; intro a hS
        refine r_box hS hH (by repeat (first | exact Sub.nil | refine Sub.cons ?_ ?_ | exact In.here | refine In.there ?_)) rfl rfl rfl ?_
        clear hS hH; intro a w bs hbs hwbs hS hH
        refine r_store1 hS hH rfl rfl rfl (by repeat (first | exact .here | apply In.there | apply Put.there | apply Del.there)) (by repeat (first | exact Sub.nil | refine Sub.cons ?_ ?_ | exact In.here | refine In.there ?_)) Fc.sz67 (of_decide_eq_true rfl) (.inr (by assumption)) ?_
        clear hH; intro w hH
        refine Sq.nil ?_
        refine then_n ?_
        refine tr_nil ?_
        refine then_n ?_
        have hH2 := (((hH.front (b := cb) (by repeat (first | exact .here | apply In.there | apply Put.there | apply Del.there))).front (b := b5) (by repeat (first | exact .here | apply In.there | apply Put.there | apply Del.there))).front (b := bk) (by repeat (first | exact .here | apply In.there | apply Put.there | apply Del.there))).front (b := bs) (by repeat (first | exact .here | apply In.there | apply Put.there | apply Del.there))
        exact ⟨bs, bk, b5, cb, cap, l2, hbs, hbk, hb5, hcb0, hcap, hl2, htk2, hS.live ⟨rfl, rfl, trivial⟩, hH2⟩
  clear hS hH; intro a w hJ; obtain ⟨bs, bk, b5, cb, cap, l2, hbs, hbk, hb5, hcb0, hcap, hl2, htk2, hS, hH⟩ := hJ
  refine c_seq ?_
  refine reg_plain w0 (Nobody) ?_
  refine r_load_sc hS hH (by repeat (first | exact Sub.nil | refine Sub.cons ?_ ?_ | exact In.here | refine In.there ?_)) rfl (by repeat (first | exact In.here | refine In.there ?_)) Fc.sc67 (by rfl) rfl ?_; clear hS; intro a hS
  refine r_nilCheck hS hH.kp0 rfl rfl ?_; clear hS; intro a hS
  refine r_fieldAddr hS hH.kp0 rfl Fc.fo71_1 rfl ?_; clear hS; intro a hS
  refine r_load_sc hS hH (by repeat (first | exact Sub.nil | refine Sub.cons ?_ ?_ | exact In.here | refine In.there ?_)) rfl (by repeat (first | exact In.here | refine In.there ?_)) Fc.sc69 (by rfl) rfl ?_; clear hS; intro a hS
  refine r_indexAddrS (j := 0) hS hH.kp0 rfl rfl Fc.slb69 rfl h0 rfl ?_; clear hS; intro a hS
  refine r_store1 hS hH rfl rfl rfl (by repeat (first | exact .here | apply In.there | apply Put.there | apply Del.there)) (by repeat (first | exact Sub.nil | refine Sub.cons ?_ ?_ | exact In.here | refine In.there ?_)) Fc.sz4 (by rw [bools_len]; simpa using h0) (.inr hbk) ?_; clear hH; intro w hH
  rw [spl_bools (by simpa using h0)] at hH
  refine Sq.nil ?_
  refine then_n ?_
  refine c_seq ?_
  refine reg_plain w0 (Nobody) ?_
  refine r_load_sc hS hH (by repeat (first | exact Sub.nil | refine Sub.cons ?_ ?_ | exact In.here | refine In.there ?_)) rfl (by repeat (first | exact In.here | refine In.there ?_)) Fc.sc23 (by rfl) rfl ?_; clear hS; intro a hS
  refine r_nilCheck hS hH.kp0 rfl rfl ?_; clear hS; intro a hS
  refine r_fieldAddr hS hH.kp0 rfl Fc.fo41_0 rfl ?_; clear hS; intro a hS
  refine r_load_sc hS hH (by repeat (first | exact Sub.nil | refine Sub.cons ?_ ?_ | exact In.here | refine In.there ?_)) rfl (by repeat (first | exact In.here | refine In.there ?_)) Fc.sc37 (by rfl) rfl ?_; clear hS; intro a hS
  refine r_lenSl hS hH.kp0 rfl Fc.isSlice37 rfl ?_; clear hS; intro a hS
  refine r_makeSl (m := ts.length) (v0 := .bool false) hS hH (by repeat (first | exact Sub.nil | refine Sub.cons ?_ ?_ | exact In.here | refine In.there ?_)) rfl rfl rfl rfl Fc.elb Fc.zc4 (by omega) (by omega) rfl ?_
  clear hS hH; intro a w bo hbo hwbo hS hH
  rw [bools_rep] at hH
  refine r_alloc hS hH (by repeat (first | exact Sub.nil | refine Sub.cons ?_ ?_ | exact In.here | refine In.there ?_)) Fc.zc69 rfl ?_
  clear hS hH; intro a w b6 hb6 hwb6 hS hH
  refine r_store1 hS hH rfl rfl rfl (by repeat (first | exact .here | apply In.there | apply Put.there | apply Del.there)) (by repeat (first | exact Sub.nil | refine Sub.cons ?_ ?_ | exact In.here | refine In.there ?_)) Fc.sz69 (of_decide_eq_true rfl) (by first | exact .inr (by assumption) | exact .inl (by first | assumption | rfl)) ?_
  clear hH; intro w hH
  refine Sq.nil ?_
  refine then_n ?_
  refine c_seq ?_
  refine reg_plain w0 (Nobody) ?_
  refine r_makeFunc hS hH.kp0 rfl rfl rfl ?_; clear hS; intro a hS
  refine r_assign hS hH.kp0 rfl rfl ?_; clear hS; intro a hS
  refine Sq.nil ?_
  refine then_n ?_
  refine c_seq ?_
  refine wp_block ?_
  refine c_loop (fun m a w => ∃ (K O : List Bool) (tdv : Value) (ls1 : List (List UInt8)), m + (cnt K + cnt O) = 2 * ts.length ∧ KnowI6 ts ls ls1 K O ∧ SlG (fun x => x = bk ∨ x = bs ∨ x = bo) w tdv ls1 ∧ (∀ l ∈ ls1, l.length ≤ 1099511627776) ∧ ls1.length ≤ 1099511627776 ∧ St 34 (lv [(5, .pointer (some ⟨b5, 0, none⟩)), (7, .func (.func 55) #[] #[.pointer (some ⟨b5, 0, none⟩), .pointer (some ⟨b2, 0, none⟩), .pointer (some ⟨b6, 0, none⟩)])]) a ∧ Hp w0 Nobody [(b6, .cells [.slice (some ⟨bo, 0, none⟩) ts.length ts.length].toArray 69 (0, 0)), (bo, .cells (bools O).toArray 4 (0, 0)), (bs, .cells [.pointer (some ⟨b, 0, none⟩), .slice (some ⟨bk, 0, none⟩) ts.length ts.length, tdv].toArray 71 (0, 0)), (bk, .cells (bools K).toArray 4 (0, 0)), (b5, .cells [.pointer (some ⟨bs, 0, none⟩)].toArray 67 (0, 0)), (b2, .cells [.pointer (some ⟨b, 0, none⟩)].toArray 23 (0, 0)), (b, .cells (V.top ts.length).toArray 41 (0, 0)), (V.sb, .cells V.l.toArray 64 (0, 0)), (V.fb, .map V.es V.c), (V.nb, .map V.es' V.c')] w) (2 * ts.length - (cnt ((List.replicate ts.length false).set 0 true) + cnt (List.replicate ts.length false))) ?_ ?_
  · have ncb : ¬ (cb = bk ∨ cb = bs ∨ cb = bo) := by rintro (e | e | e); exact hH.ne (x := cb) (y := bk) (.cons (by repeat (first | exact .here | apply In.there | apply Put.there | apply Del.there)) (.cons (by repeat (first | exact .here | apply In.there | apply Put.there | apply Del.there)) .nil)) (by intro h; injection h with _ h2 _; revert h2; decide) e; exact hH.ne (x := cb) (y := bs) (.cons (by repeat (first | exact .here | apply In.there | apply Put.there | apply Del.there)) (.cons (by repeat (first | exact .here | apply In.there | apply Put.there | apply Del.there)) .nil)) (by intro h; injection h with _ h2 _; revert h2; decide) e; exact hH.ne (x := cb) (y := bo) (.cons (by repeat (first | exact .here | apply In.there | apply Put.there | apply Del.there)) (.cons (by repeat (first | exact .here | apply In.there | apply Put.there | apply Del.there)) .nil)) (by intro h; injection h with _ h2 _; revert h2; decide) e
    have hsg : SlG (fun x => x = bk ∨ x = bs ∨ x = bo) w (.slice (some ⟨cb, 0, none⟩) ls.length cap) ls := SlG.block (hH.get (b := cb) (by repeat (first | exact In.here | refine In.there ?_))) ncb rfl hcap htk2 (by omega) (fun i x hx => by obtain ⟨l, e, hb⟩ := hall i x hx; exact ⟨l, e, hb.go hH.mod (fun z hz => .inr (by rcases hz with rfl | rfl | rfl <;> assumption))⟩)
    exact ⟨((List.replicate ts.length false).set 0 true), _, _, ls, by have := cnt2_le (K := ((List.replicate ts.length false).set 0 true)) (O := List.replicate ts.length false) (n := ts.length) (by simp) (by simp); omega, KnowI6.start h0, hsg, hll, hlsl, hS.live ⟨rfl, rfl, trivial⟩, hH.drop [5]⟩
  clear hS hH; intro m a w hI; obtain ⟨K, O, tdv, ls1, hmc, hKI, hsg, hll1, hls1, hS, hH⟩ := hI
  have hcl0 := cnt2_le hKI.len hKI.lenO
  have nko : bo ≠ bk := fun e => by have nd := hH.nd; simp [e] at nd
  refine c_seq ?_
  refine c_seq ?_
  refine reg_plain w0 (Nobody) ?_
  refine r_move hS hH.kp0 rfl rfl ?_; clear hS; intro a hS
  refine r_call (l := []) hS rfl rfl Fc.fn55 rfl ?_
  refine Calls.mono (step6_v b V ts hm hwf b5 b2 b6 bs bk bo tdv ls1 hll1 hls1 K O hKI.len hKI.lenO nko _ (hH.vin hvi.ok hvi.n01 hvi.n23 (by repeat (first | exact In.here | refine In.there ?_)) (by repeat (first | exact In.here | refine In.there ?_)) (by repeat (first | exact In.here | refine In.there ?_)) (by repeat (first | exact In.here | refine In.there ?_))) (hH.get (b := bs) (by repeat (first | exact In.here | refine In.there ?_))) (hH.get (b := bk) (by repeat (first | exact In.here | refine In.there ?_))) (hH.get (b := b5) (by repeat (first | exact In.here | refine In.there ?_))) (hH.get (b := b2) (by repeat (first | exact In.here | refine In.there ?_))) (hH.get (b := b6) (by repeat (first | exact In.here | refine In.there ?_))) (hH.get (b := bo) (by repeat (first | exact In.here | refine In.there ?_))) hsg) ?_
  rintro e w1 ⟨more, K2, O2, tdv2, tds, rfl, hbs2, hbk2, hbo2, hSR, hsg2, htl9, hM⟩
  have nbk : bs ≠ bk := hH.ne (x := bs) (y := bk) (.cons (by repeat (first | exact .here | apply In.there | apply Put.there | apply Del.there)) (.cons (by repeat (first | exact .here | apply In.there | apply Put.there | apply Del.there)) .nil)) (by intro h; injection h with _ h2 _; revert h2; decide)
  replace hH := hH.mod3 hM hbs2 hbk2 hbo2 (by repeat (first | exact .here | apply In.there | apply Put.there | apply Del.there)) (by repeat (first | exact .here | apply In.there | apply Put.there | apply Del.there)) (by repeat (first | exact .here | apply In.there | apply Put.there | apply Del.there)) (.inr hbs) (.inr hbk) (.inr hbo)
  refine ⟨_, rfl, hH.kp0, ?_⟩
  clear hS; intro a hS
  refine Sq.nil ?_
  refine then_n ?_
  refine c_cond hS rfl (fun hc0 => ?_) (fun hc0 => ?_)
  · have hcn := hSR.yes hc0
    have hcl := cnt2_le hSR.len hSR.lenO
    refine wp_skip ?_
    refine then_n ?_
    refine wp_block ?_
    refine wp_skip ?_
    refine blk_n ?_
    refine then_n ?_
    exact ⟨m - ((cnt K2 + cnt O2) - (cnt K + cnt O)), by omega, K2, O2, _, tds, by omega, hKI.next hSR, hsg2, fun l hl => by obtain ⟨j9, t9, h9, _, _, _, rfl⟩ := hSR.tds_ l hl; exact hwf.sz j9 t9 h9, by omega, hS.live ⟨rfl, rfl, trivial⟩, hH⟩
  · subst hc0
    have hKN := hKI.done hSR
    refine wp_exit ?_
    refine then_e ?_
    refine then_e ?_
    refine blk_hit ?_
    refine then_n ?_
    refine c_seq ?_
    refine reg_plain w0 (Nobody) ?_
    refine r_load_sc hS hH (by repeat (first | exact Sub.nil | refine Sub.cons ?_ ?_ | exact In.here | refine In.there ?_)) rfl (by repeat (first | exact In.here | refine In.there ?_)) Fc.sc67 (by rfl) rfl ?_; clear hS; intro a hS
    refine r_assign hS hH.kp0 rfl rfl ?_; clear hS; intro a hS
    refine Sq.nil ?_
    refine then_n ?_
    refine wp_ret ?_
    exact leave (.inl rfl) hS rfl (Res.tmp rfl Res.nil) ⟨bs, bk, K2, _, rfl, hH.get (b := bs) (by repeat (first | exact In.here | refine In.there ?_)), hH.get (b := bk) (by repeat (first | exact In.here | refine In.there ?_)), hKN, hH.mod, hbs, hbk⟩

end Go.Proofs.YtcjmehononbadaaDoor

namespace Go.Proofs.YtcjmehononbadaaDoor
open Go.Sym

theorem Fc.ar106 : arrB Tryd.prog 106 = some (2, 1) := by kernel_rfl
theorem Fc.fn26 : isFn Tryd.prog 26 = true := by kernel_rfl
theorem Fc.fn27 : isFn Tryd.prog 27 = true := by kernel_rfl
theorem Fc.fn58 : isFn Tryd.prog 58 = true := by kernel_rfl
theorem Fc.sc5 : scB Tryd.prog 5 = true := by kernel_rfl
theorem Fc.sc81 : scB Tryd.prog 81 = true := by kernel_rfl
theorem Fc.sz1_5 : (Tryd.prog.info? 5).map (·.size) = some 1 := by kernel_rfl
theorem Fc.sz81 : sizeB Tryd.prog 81 1 = true := by kernel_rfl
theorem Fc.uh26 : Tryd.prog.underlying 26 = some (.array 16 5) := by kernel_rfl
theorem Fc.us5 : (Tryd.prog.underlying 5).isSome = true := by kernel_rfl
theorem Fc.zc106 : zcB Tryd.prog 106 = some [.int .u64 0, .int .u64 0] := by kernel_rfl
set_option maxRecDepth 100000 in
set_option maxHeartbeats 400000 in
theorem unmix_u (x : Int) (w0 : World) : Calls Tryd.prog 58 #[.int .u64 x] w0 fun e w' => ∃ r : Int, e = .returned (.int .u64 r) ∧ Ext w0 w' := by
  refine enter Tryd.func58 rfl rfl rfl ?_
  intro a hS
  have hH := Hp.start w0 (Nobody)
  refine c_seq ?_
  refine reg_plain w0 (Nobody) ?_
  refine r_assign hS hH.kp0 rfl rfl ?_; clear hS; intro a hS
  refine Sq.nil ?_
  refine then_n ?_
  refine c_seq ?_
  refine reg_plain w0 (Nobody) ?_
  refine r_move hS hH.kp0 rfl rfl ?_; clear hS; intro a hS
  refine r_move hS hH.kp0 rfl rfl ?_; clear hS; intro a hS
  refine r_shr hS hH.kp0 rfl rfl rfl (by first | decide | omega) ?_; clear hS; intro a hS
  refine r_xor hS hH.kp0 rfl rfl rfl ?_; clear hS; intro a hS
  refine r_move hS hH.kp0 rfl rfl ?_; clear hS; intro a hS
  refine r_shr hS hH.kp0 rfl rfl rfl (by first | decide | omega) ?_; clear hS; intro a hS
  refine r_xor hS hH.kp0 rfl rfl rfl ?_; clear hS; intro a hS
  refine r_mulw hS hH.kp0 rfl rfl rfl ?_; clear hS; intro a hS
  refine r_assign hS hH.kp0 rfl rfl ?_; clear hS; intro a hS
  refine Sq.nil ?_
  refine then_n ?_
  refine c_seq ?_
  refine reg_plain w0 (Nobody) ?_
  refine r_move hS hH.kp0 rfl rfl ?_; clear hS; intro a hS
  refine r_move hS hH.kp0 rfl rfl ?_; clear hS; intro a hS
  refine r_shr hS hH.kp0 rfl rfl rfl (by first | decide | omega) ?_; clear hS; intro a hS
  refine r_xor hS hH.kp0 rfl rfl rfl ?_; clear hS; intro a hS
  refine r_move hS hH.kp0 rfl rfl ?_; clear hS; intro a hS
  refine r_shr hS hH.kp0 rfl rfl rfl (by first | decide | omega) ?_; clear hS; intro a hS
  refine r_xor hS hH.kp0 rfl rfl rfl ?_; clear hS; intro a hS
  refine r_mulw hS hH.kp0 rfl rfl rfl ?_; clear hS; intro a hS
  refine r_assign hS hH.kp0 rfl rfl ?_; clear hS; intro a hS
  refine Sq.nil ?_
  refine then_n ?_
  refine c_seq ?_
  refine reg_plain w0 (Nobody) ?_
  refine r_move hS hH.kp0 rfl rfl ?_; clear hS; intro a hS
  refine r_move hS hH.kp0 rfl rfl ?_; clear hS; intro a hS
  refine r_shr hS hH.kp0 rfl rfl rfl (by first | decide | omega) ?_; clear hS; intro a hS
  refine r_xor hS hH.kp0 rfl rfl rfl ?_; clear hS; intro a hS
  refine r_move hS hH.kp0 rfl rfl ?_; clear hS; intro a hS
  refine r_shr hS hH.kp0 rfl rfl rfl (by first | decide | omega) ?_; clear hS; intro a hS
  refine r_xor hS hH.kp0 rfl rfl rfl ?_; clear hS; intro a hS
  refine r_mulw hS hH.kp0 rfl rfl rfl ?_; clear hS; intro a hS
  refine r_subw hS hH.kp0 rfl rfl rfl ?_; clear hS; intro a hS
  refine r_assign hS hH.kp0 rfl rfl ?_; clear hS; intro a hS
  refine Sq.nil ?_
  refine then_n ?_
  refine wp_ret ?_
  exact leave (.inl rfl) hS rfl (Res.tmp rfl Res.nil) ⟨_, rfl, hH.mod⟩

set_option maxRecDepth 100000 in
set_option maxHeartbeats 400000 in
theorem mix_u (x : Int) (w0 : World) : Calls Tryd.prog 59 #[.int .u64 x] w0 fun e w' => ∃ r : Int, e = .returned (.int .u64 r) ∧ Ext w0 w' := by
  refine enter Tryd.func59 rfl rfl rfl ?_
  intro a hS
  have hH := Hp.start w0 (Nobody)
  refine c_seq ?_
  refine reg_plain w0 (Nobody) ?_
  refine r_assign hS hH.kp0 rfl rfl ?_; clear hS; intro a hS
  refine Sq.nil ?_
  refine then_n ?_
  refine c_seq ?_
  refine reg_plain w0 (Nobody) ?_
  refine r_move hS hH.kp0 rfl rfl ?_; clear hS; intro a hS
  refine r_addw hS hH.kp0 rfl rfl rfl ?_; clear hS; intro a hS
  refine r_mulw hS hH.kp0 rfl rfl rfl ?_; clear hS; intro a hS
  refine r_assign hS hH.kp0 rfl rfl ?_; clear hS; intro a hS
  refine Sq.nil ?_
  refine then_n ?_
  refine c_seq ?_
  refine reg_plain w0 (Nobody) ?_
  refine r_move hS hH.kp0 rfl rfl ?_; clear hS; intro a hS
  refine r_move hS hH.kp0 rfl rfl ?_; clear hS; intro a hS
  refine r_shr hS hH.kp0 rfl rfl rfl (by first | decide | omega) ?_; clear hS; intro a hS
  refine r_xor hS hH.kp0 rfl rfl rfl ?_; clear hS; intro a hS
  refine r_mulw hS hH.kp0 rfl rfl rfl ?_; clear hS; intro a hS
  refine r_assign hS hH.kp0 rfl rfl ?_; clear hS; intro a hS
  refine Sq.nil ?_
  refine then_n ?_
  refine c_seq ?_
  refine reg_plain w0 (Nobody) ?_
  refine r_move hS hH.kp0 rfl rfl ?_; clear hS; intro a hS
  refine r_move hS hH.kp0 rfl rfl ?_; clear hS; intro a hS
  refine r_shr hS hH.kp0 rfl rfl rfl (by first | decide | omega) ?_; clear hS; intro a hS
  refine r_xor hS hH.kp0 rfl rfl rfl ?_; clear hS; intro a hS
  refine r_mulw hS hH.kp0 rfl rfl rfl ?_; clear hS; intro a hS
  refine r_assign hS hH.kp0 rfl rfl ?_; clear hS; intro a hS
  refine Sq.nil ?_
  refine then_n ?_
  refine c_seq ?_
  refine reg_plain w0 (Nobody) ?_
  refine r_move hS hH.kp0 rfl rfl ?_; clear hS; intro a hS
  refine r_move hS hH.kp0 rfl rfl ?_; clear hS; intro a hS
  refine r_shr hS hH.kp0 rfl rfl rfl (by first | decide | omega) ?_; clear hS; intro a hS
  refine r_xor hS hH.kp0 rfl rfl rfl ?_; clear hS; intro a hS
  refine r_assign hS hH.kp0 rfl rfl ?_; clear hS; intro a hS
  refine Sq.nil ?_
  refine then_n ?_
  refine wp_ret ?_
  exact leave (.inl rfl) hS rfl (Res.tmp rfl Res.nil) ⟨_, rfl, hH.mod⟩

set_option maxRecDepth 100000 in
set_option maxHeartbeats 2000000 in
theorem isName_v (h : List UInt8) (hh : h.length = 16) (w0 : World) : Calls Tryd.prog 27 #[hnd h] w0 fun e w' => ∃ r, e = .returned (.bool r) ∧ Ext w0 w' := by
  refine enter Tryd.func27 rfl rfl rfl ?_
  intro a hS
  have hH := Hp.start w0 (Nobody)
  obtain ⟨x0, x1, x2, x3, x4, x5, x6, x7, x8, x9, xa, xb, xc, xd, xe, xf, rfl⟩ := len16 hh
  refine c_seq ?_
  refine reg_plain w0 (Nobody) ?_
  refine r_box hS hH (by repeat (first | exact Sub.nil | refine Sub.cons ?_ ?_ | exact In.here | refine In.there ?_)) rfl rfl rfl ?_
  clear hS hH; intro a w b1 hb1 hwb1 hS hH
  refine r_assign hS hH.kp0 rfl rfl ?_; clear hS; intro a hS
  refine Sq.nil ?_
  refine then_n ?_
  refine c_seq ?_
  refine reg_plain w0 (Nobody) ?_
  refine r_alloc hS hH (by repeat (first | exact Sub.nil | refine Sub.cons ?_ ?_ | exact In.here | refine In.there ?_)) Fc.zc106 rfl ?_
  clear hS hH; intro a w b3 hb3 hwb3 hS hH
  refine Sq.nil ?_
  refine then_n ?_
  refine c_seq ?_
  refine c_seq ?_
  refine reg_plain w0 (Nobody) ?_
  refine r_load_row hS hH (by repeat (first | exact Sub.nil | refine Sub.cons ?_ ?_ | exact In.here | refine In.there ?_)) rfl (by repeat (first | exact In.here | refine In.there ?_)) Fc.ag26 (by rfl) rfl ?_; clear hS; intro a hS
  refine r_move hS hH.kp0 rfl rfl ?_; clear hS; intro a hS
  refine Sq.nil ?_
  refine then_n ?_
  refine wp_block ?_
  refine c_loop (fun m a w => ∃ (i : Nat) (ii e0 e1 : Int), m + i = 16 ∧ ii = i ∧ St 38 (lv [(2, .bool false), (3, .pointer (some ⟨b3, 0, none⟩)), (7, .agg (hcells [x0, x1, x2, x3, x4, x5, x6, x7, x8, x9, xa, xb, xc, xd, xe, xf]).toArray), (8, .int .i64 ii)]) a ∧ Hp w0 Nobody [(b3, .cells [.int .u64 e0, .int .u64 e1].toArray 106 (0, 0))] w) (16) ?_ ?_
  · exact ⟨0, _, _, _, rfl, rfl, hS.live ⟨rfl, rfl, rfl, rfl, trivial⟩, hH.drop [1]⟩
  clear hS hH; intro m a w hI; obtain ⟨i, ii, e0, e1, hmi, hii, hS, hH⟩ := hI
  refine c_seq ?_
  refine reg_plain w0 (Nobody) ?_
  refine r_lss hS hH.kp0 rfl rfl rfl ?_; clear hS; intro a hS
  refine Sq.nil ?_
  refine then_n ?_
  refine c_seq ?_
  refine c_cond hS rfl (fun hc0 => ?_) (fun hc0 => ?_)
  · have hlt := of_decide_eq_true hc0
    obtain ⟨u, hu⟩ : ∃ u, ([x0, x1, x2, x3, x4, x5, x6, x7, x8, x9, xa, xb, xc, xd, xe, xf] : List UInt8)[i]? = some u := ⟨_, List.getElem?_eq_getElem (by show i < 16; omega)⟩
    have hj2 : i / 8 < 2 := by omega
    obtain ⟨ej, hej⟩ := two_get e0 e1 (i / 8) hj2
    have hjj : Int.tdiv ii 8 = ((i / 8 : Nat) : Int) := by subst hii; rfl
    have hwr : IntKind.i64.wrap (Int.tdiv ii 8) = ((i / 8 : Nat) : Int) := by rw [hjj]; exact wrap_i64 (by omega)
    refine wp_skip ?_
    refine then_n ?_
    refine c_seq ?_
    refine wp_block ?_
    refine c_seq ?_
    refine reg_plain w0 (Nobody) ?_
    refine r_move hS hH.kp0 rfl rfl ?_; clear hS; intro a hS
    refine r_indexB (h := [x0, x1, x2, x3, x4, x5, x6, x7, x8, x9, xa, xb, xc, xd, xe, xf]) (u := u) hS hH.kp0 rfl rfl Fc.uh26 Fc.sc5 Fc.sz1_5 hii (by omega) hu rfl ?_; clear hS; intro a hS
    refine r_assign hS hH.kp0 rfl rfl ?_; clear hS; intro a hS
    refine r_assign hS hH.kp0 rfl rfl ?_; clear hS; intro a hS
    refine Sq.nil ?_
    refine then_n ?_
    refine reg_plain w0 (Nobody) ?_
    refine r_move hS hH.kp0 rfl rfl ?_; clear hS; intro a hS
    refine r_quo hS hH.kp0 rfl rfl rfl (by first | decide | omega) ?_; clear hS; intro a hS
    refine r_move hS hH.kp0 rfl rfl ?_; clear hS; intro a hS
    refine r_quo hS hH.kp0 rfl rfl rfl (by first | decide | omega) ?_; clear hS; intro a hS
    refine r_indexAddrA (j := i / 8) hS hH.kp0 rfl rfl Fc.ar106 hwr hj2 rfl ?_; clear hS; intro a hS
    refine r_load_sc hS hH (by repeat (first | exact Sub.nil | refine Sub.cons ?_ ?_ | exact In.here | refine In.there ?_)) rfl (by repeat (first | exact In.here | refine In.there ?_)) Fc.sc81 (v := .int .u64 ej) (by rw [nthV_eq, Nat.zero_add, Nat.mul_one]; exact hej) rfl ?_; clear hS; intro a hS
    refine r_shl hS hH.kp0 rfl rfl rfl (by first | decide | omega) ?_; clear hS; intro a hS
    refine r_move hS hH.kp0 rfl rfl ?_; clear hS; intro a hS
    refine r_convInt hS hH.kp0 rfl Fc.ui81 Fc.us5 rfl ?_; clear hS; intro a hS
    refine r_orX hS hH.kp0 rfl rfl rfl ?_; clear hS; intro a ew hS
    refine r_indexAddrA (j := i / 8) hS hH.kp0 rfl rfl Fc.ar106 hwr hj2 rfl ?_; clear hS; intro a hS
    refine r_store1 hS hH rfl rfl rfl (by repeat (first | exact .here | apply In.there | apply Put.there | apply Del.there)) (by repeat (first | exact Sub.nil | refine Sub.cons ?_ ?_ | exact In.here | refine In.there ?_)) Fc.sz81 (by show 0 + i / 8 * 1 < 2; omega) (.inr (by assumption)) ?_; clear hH; intro w hH
    obtain ⟨x0_, x1_, hx01⟩ := two_set e0 e1 ew (i / 8) hj2
    refine Sq.nil ?_
    refine blk_n ?_
    refine then_n ?_
    refine reg_plain w0 (Nobody) ?_
    (first | refine r_add hS hH.kp0 rfl rfl rfl (by omega) ?_ | refine r_addw hS hH.kp0 rfl rfl rfl ?_)
    clear hS; intro a hS
    refine r_move hS hH.kp0 rfl rfl ?_; clear hS; intro a hS
    refine Sq.nil ?_
    refine then_n ?_
    rw [hx01] at hH
    exact ⟨m - 1, by omega, i + 1, _, x0_, x1_, by omega, by omega, hS.live ⟨rfl, rfl, rfl, rfl, trivial⟩, hH⟩
  · refine wp_exit ?_
    refine then_e ?_
    refine then_e ?_
    refine blk_hit ?_
    refine then_n ?_
    refine c_seq ?_
    refine reg_plain w0 (Nobody) ?_
    refine r_indexAddrA hS hH.kp0 rfl rfl Fc.ar106 rfl (by decide) rfl ?_; clear hS; intro a hS
    refine r_load_sc hS hH (by repeat (first | exact Sub.nil | refine Sub.cons ?_ ?_ | exact In.here | refine In.there ?_)) rfl (by repeat (first | exact In.here | refine In.there ?_)) Fc.sc81 (by rfl) rfl ?_; clear hS; intro a hS
    refine r_call (l := [.tmp 25]) hS rfl rfl Fc.fn58 rfl ?_
    refine Calls.mono (unmix_u _ _) ?_
    rintro e w1 ⟨r, rfl, hE⟩
    replace hH := hH.ext hE
    refine ⟨_, rfl, hH.kp0, ?_⟩
    clear hS; intro a hS
    refine r_assign hS hH.kp0 rfl rfl ?_; clear hS; intro a hS
    refine Sq.nil ?_
    refine then_n ?_
    refine c_seq ?_
    refine reg_draw [(true, 0, []), (true, 1, []), (true, 2, []), (true, 3, []), (true, 4, []), (true, 5, []), (true, 7, []), (true, 8, []), (false, 6, []), (true, 9, []), (true, 10, []), (true, 11, [])] Fc.mixed (by kernel_rfl) (by kernel_rfl) (by kernel_rfl) (by kernel_rfl) (by kernel_rfl) (by repeat (first | with_reducible exact steady_body | with_reducible apply steady_block | with_reducible apply steady_then | exact steady_body)) hH ?_
    replace hH := hH.drew
    refine r_move hS trivial rfl rfl ?_; clear hS; intro a hS
    refine r_rem hS trivial rfl rfl rfl (by first | decide | omega) ?_; clear hS; intro a hS
    refine r_eql hS trivial rfl rfl rfl ?_; clear hS; intro a hS
    refine r_move hS trivial rfl rfl ?_; clear hS; intro a hS
    by_cases hb : (Int.tmod r 2 == 0) = true
    · refine Sq.guardYes hS rfl rfl hb ?_
      refine r_move hS trivial rfl rfl ?_; clear hS; intro a hS
      refine Sq.guardYes hS rfl rfl hb ?_
      refine r_addw hS trivial rfl rfl rfl ?_; clear hS; intro a hS
      refine Sq.guardYes hS rfl rfl hb ?_
      refine r_indexAddrA hS trivial rfl rfl Fc.ar106 rfl (by decide) rfl ?_; clear hS; intro a hS
      refine Sq.guardYes hS rfl rfl hb ?_
      refine r_load_scS hS rfl (by repeat (first | exact In.here | refine In.there ?_)) Fc.sc81 (by rfl) rfl ?_; clear hS; intro a hS
      refine Sq.guardYes hS rfl rfl hb ?_
      refine r_call (l := [.tmp 32]) hS rfl rfl Fc.fn59 rfl ?_
      refine Calls.mono (mix_u _ _) ?_
      rintro e w1 ⟨r2, rfl, hE⟩
      replace hH := hH.ext hE
      refine ⟨_, rfl, hH.kp (by repeat (first | exact Sub.nil | refine Sub.cons ?_ ?_ | exact In.here | refine In.there ?_)), ?_⟩
      clear hS; intro a hS
      refine Sq.guardYes hS rfl rfl hb ?_
      refine r_eql hS trivial rfl rfl rfl ?_; clear hS; intro a hS
      refine r_pickT hS trivial rfl hb rfl rfl ?_; clear hS; intro a hS
      refine r_assign hS trivial rfl rfl ?_; clear hS; intro a hS
      refine Sq.nil ?_
      refine then_n ?_
      refine wp_ret ?_
      exact leave (.inl rfl) hS rfl (Res.tmp rfl Res.nil) ⟨_, rfl, hH.mod⟩
    · refine Sq.guardNo hS rfl rfl (by simpa using hb) trivial rfl ?_; clear hS; intro a hS
      refine Sq.guardNo hS rfl rfl (by simpa using hb) trivial rfl ?_; clear hS; intro a hS
      refine Sq.guardNo hS rfl rfl (by simpa using hb) trivial rfl ?_; clear hS; intro a hS
      refine Sq.guardNo hS rfl rfl (by simpa using hb) trivial rfl ?_; clear hS; intro a hS
      refine Sq.guardNo hS rfl rfl (by simpa using hb) (hH.kp (by repeat (first | exact Sub.nil | refine Sub.cons ?_ ?_ | exact In.here | refine In.there ?_))) rfl ?_; clear hS; intro a hS
      refine Sq.guardNo hS rfl rfl (by simpa using hb) trivial rfl ?_; clear hS; intro a hS
      refine r_pickF hS trivial rfl (by simpa using hb) rfl rfl ?_; clear hS; intro a hS
      refine r_assign hS trivial rfl rfl ?_; clear hS; intro a hS
      refine Sq.nil ?_
      refine then_n ?_
      refine wp_ret ?_
      exact leave (.inl rfl) hS rfl (Res.tmp rfl Res.nil) ⟨_, rfl, hH.mod⟩


theorem knows6_v (b : Nat) (V : VB) (ts : List Tm) (hm : ts.length ≤ 1000000000) (hwf : Wf6 ts) (hpos : 0 < ts.length) (sv : Value) (ls : List (List UInt8)) (hll : ∀ l ∈ ls, l.length ≤ 1099511627776) (hls2 : ls.length ≤ 1048576) (w0 : World) (hvi : VI w0 b V ts) (hs : SlG Nobody w0 sv ls) :
    Calls Tryd.prog 26 #[.pointer (some ⟨b, 0, none⟩), sv] w0 fun e w' => ∃ bs bk K tdv, e = .returned (.pointer (some ⟨bs, 0, none⟩)) ∧ w'.heap[bs]? = some (.cells [.pointer (some ⟨b, 0, none⟩), .slice (some ⟨bk, 0, none⟩) ts.length ts.length, tdv].toArray 71 (0, 0)) ∧ w'.heap[bk]? = some (.cells (bools K).toArray 4 (0, 0)) ∧ Knows6 ts ls K ∧ Ext w0 w' ∧ w0.heap.size ≤ bs ∧ w0.heap.size ≤ bk := by
  obtain ⟨xs, p, cap, h1, h2⟩ := hs
  have hv := (h1 _ (Mod.refl _ _)).val
  cases p with
  | none =>
    have hc := (h1 _ (Mod.refl _ _)).nil rfl
    have hle := (h1 _ (Mod.refl _ _)).le
    have hl : ls = [] := List.eq_nil_of_length_eq_zero (by omega)
    subst hl
    subst hc
    subst hv
    exact knows6_nil b V ts hm hwf hpos w0 hvi
  | some q =>
    subst hv
    exact knows6_sl b V ts hm hwf hpos q cap ls hll hls2 xs w0 hvi h1 h2

set_option maxRecDepth 100000 in
set_option maxHeartbeats 4000000 in
theorem Hidden6_v (b : Nat) (V : VB) (ts : List Tm) (hm : ts.length ≤ 1000000000) (hwf : Wf6 ts) (hpos : 0 < ts.length) (v sv : Value) (l : List UInt8) (hl : l.length ≤ 1099511627776) (ls : List (List UInt8)) (hll : ∀ l ∈ ls, l.length ≤ 1099511627776) (hls2 : ls.length ≤ 1048576) (w0 : World) (hvi : VI w0 b V ts) (hb : Bs w0 v l) (hss : SlG Nobody w0 sv ls) : Calls Tryd.prog 11 #[.pointer (some ⟨b, 0, none⟩), v, sv] w0 fun e w' => ∃ r K, e = .returned (.bool r) ∧ Knows6 ts ls K ∧ HidR ts K l r ∧ Ext w0 w' := by
  refine enter Tryd.func11 rfl rfl rfl ?_
  intro a hS
  have hH := Hp.start w0 (Nobody)
  obtain ⟨q, qc, hsl⟩ := hb
  have hb : Bs w0 v l := ⟨q, qc, hsl⟩
  have hv9 := hsl.val
  subst hv9
  obtain ⟨g2, hm2, hf2⟩ := hvi.ok.names
  replace hH := hH.knowV hvi (by intro p hp; simp at hp)
  refine c_seq ?_
  refine reg_plain w0 (Nobody) ?_
  refine r_assign hS hH.kp0 rfl rfl ?_; clear hS; intro a hS
  refine Sq.nil ?_
  refine then_n ?_
  refine c_seq ?_
  refine c_seq ?_
  refine reg_plain w0 (Nobody) ?_
  refine r_move hS hH.kp0 rfl rfl ?_; clear hS; intro a hS
  refine r_call (l := [.tmp 12]) hS rfl rfl Fc.fn24 rfl ?_
  refine Calls.mono (none_v b V ts _ (hH.vin hvi.ok hvi.n01 hvi.n23 (by repeat (first | exact In.here | refine In.there ?_)) (by repeat (first | exact In.here | refine In.there ?_)) (by repeat (first | exact In.here | refine In.there ?_)) (by repeat (first | exact In.here | refine In.there ?_)))) ?_
  rintro e w1 ⟨rfl, hE⟩
  replace hH := hH.ext hE
  refine ⟨_, rfl, hH.kp0, ?_⟩
  clear hS; intro a hS
  refine Sq.nil ?_
  refine then_n ?_
  refine c_condF hS rfl rfl ?_
  refine wp_skip ?_
  refine then_n ?_
  refine c_seq ?_
  refine reg_plain w0 (Nobody) ?_
  refine r_move hS hH.kp0 rfl rfl ?_; clear hS; intro a hS
  refine r_move hS hH.kp0 rfl rfl ?_; clear hS; intro a hS
  refine r_call (l := [.tmp 14, .tmp 15]) hS rfl rfl Fc.fn26 rfl ?_
  refine Calls.mono (knows6_v b V ts hm hwf hpos sv ls hll hls2 _ (hH.vin hvi.ok hvi.n01 hvi.n23 (by repeat (first | exact In.here | refine In.there ?_)) (by repeat (first | exact In.here | refine In.there ?_)) (by repeat (first | exact In.here | refine In.there ?_)) (by repeat (first | exact In.here | refine In.there ?_))) (hss.go hH.mod (fun _ h => h.elim))) ?_
  rintro e w1 ⟨bs, bk, K, tdv, rfl, hbs1, hbk1, hKN, hE, hbs, hbk⟩
  have hlt := fun (p : Nat × Obj) hp => lt_of_block (hH.blk p hp)
  have hsz := hH.mod.size
  have hbs0 := Nat.le_trans hsz hbs
  have hbk0 := Nat.le_trans hsz hbk
  have nbk : bs ≠ bk := by intro e; rw [e, hbk1] at hbs1; simp at hbs1
  replace hH := ((hH.ext hE).know hbk1 (fun p hp e => by have h1 := hlt p hp; omega)).know hbs1 (by intro p hp; rcases List.mem_cons.1 hp with rfl | hp; exact Ne.symm nbk; exact fun e => by have h1 := hlt p hp; omega)
  refine ⟨_, rfl, hH.kp0, ?_⟩
  clear hS; intro a hS
  refine r_assign hS hH.kp0 rfl rfl ?_; clear hS; intro a hS
  refine Sq.nil ?_
  refine then_n ?_
  refine c_seq ?_
  refine c_seq ?_
  refine reg_plain w0 (Nobody) ?_
  refine r_assign hS hH.kp0 rfl rfl ?_; clear hS; intro a hS
  refine Sq.nil ?_
  refine then_n ?_
  refine wp_block ?_
  refine c_loop (fun m a w => ∃ (i : Nat) (ii : Int), m + i = l.length ∧ ii = i ∧ Bare ts K l i ∧ St 59 (lv [(0, .pointer (some ⟨b, 0, none⟩)), (1, .slice q l.length qc), (7, .pointer (some ⟨bs, 0, none⟩)), (8, .int .i64 ii)]) a ∧ Hp w0 Nobody [(bs, .cells [.pointer (some ⟨b, 0, none⟩), .slice (some ⟨bk, 0, none⟩) ts.length ts.length, tdv].toArray 71 (0, 0)), (bk, .cells (bools K).toArray 4 (0, 0)), (b, .cells (V.top ts.length).toArray 41 (0, 0)), (V.sb, .cells V.l.toArray 64 (0, 0)), (V.fb, .map V.es V.c), (V.nb, .map V.es' V.c')] w) (l.length) ?_ ?_
  · exact ⟨0, _, by omega, rfl, fun z hz => by omega, hS.live ⟨rfl, rfl, rfl, rfl, trivial⟩, hH⟩
  clear hS hH; intro m a w hI; obtain ⟨i, ii, hmi, hii, hB, hS, hH⟩ := hI
  refine c_seq ?_
  refine c_seq ?_
  refine reg_plain w0 (Nobody) ?_
  refine r_move hS hH.kp0 rfl rfl ?_; clear hS; intro a hS
  (first | refine r_add hS hH.kp0 rfl rfl rfl (by omega) ?_ | refine r_addw hS hH.kp0 rfl rfl rfl ?_)
  clear hS; intro a hS
  refine r_move hS hH.kp0 rfl rfl ?_; clear hS; intro a hS
  refine r_lenSl hS hH.kp0 rfl Fc.isSlice22 rfl ?_; clear hS; intro a hS
  refine r_leq hS hH.kp0 rfl rfl rfl ?_; clear hS; intro a hS
  refine Sq.nil ?_
  refine then_n ?_
  refine c_cond hS rfl (fun hc1 => ?_) (fun hc1 => ?_)
  · have hlt := of_decide_eq_true hc1
    obtain ⟨ba, bo, hq⟩ := hsl.addr (by omega)
    subst hq
    have hcl := fun w k => hb.f.cells16 i w k
    have hsle := hsl.le
    obtain ⟨g, hg⟩ : ∃ g, g = (l.drop i).take 16 := ⟨_, rfl⟩
    rw [← hg] at hcl
    have hg16 : g.length = 16 := by rw [hg]; simp; omega
    obtain ⟨g0, g1, g2, g3, g4, g5, g6, g7, g8, g9, ga, gb, gc, gd, ge, gf, rfl⟩ := len16 hg16
    obtain ⟨n0, th, e1, e2, hcase⟩ := hf2.look2 [g0, g1, g2, g3, g4, g5, g6, g7, g8, g9, ga, gb, gc, gd, ge, gf]
    refine wp_skip ?_
    refine then_n ?_
    refine c_seq ?_
    refine wp_block ?_
    refine c_seq ?_
    refine reg_plain w0 (Nobody) ?_
    refine r_move hS hH.kp0 rfl rfl ?_; clear hS; intro a hS
    refine r_move hS hH.kp0 rfl rfl ?_; clear hS; intro a hS
    refine r_move hS hH.kp0 rfl rfl ?_; clear hS; intro a hS
    (first | refine r_add hS hH.kp0 rfl rfl rfl (by omega) ?_ | refine r_addw hS hH.kp0 rfl rfl rfl ?_)
    clear hS; intro a hS
    refine r_slLoHi (ll := i) (hh := i + 16) hS hH.kp0 rfl rfl rfl Fc.slb22 hii (by omega) (by omega) (by omega) rfl ?_; clear hS; intro a hS
    rw [if_neg (show ¬ qc = i by omega)] at hS
    refine r_toArr hS hH.kp0 rfl Fc.ar26 (by omega) rfl ?_; clear hS; intro a hS
    refine r_load_cells (l := hcells [g0, g1, g2, g3, g4, g5, g6, g7, g8, g9, ga, gb, gc, gd, ge, gf]) hS hH.kp0 rfl Fc.ag26 rfl (hcl _ hH.mod) rfl ?_; clear hS; intro a hS
    refine r_alloc hS hH (by repeat (first | exact Sub.nil | refine Sub.cons ?_ ?_ | exact In.here | refine In.there ?_)) Fc.zc26 rfl ?_
    clear hS hH; intro a w b9 hb9 hwb9 hS hH
    refine r_store_row hS hH rfl rfl (by repeat (first | exact .here | apply In.there | apply Put.there | apply Del.there)) (by repeat (first | exact Sub.nil | refine Sub.cons ?_ ?_ | exact In.here | refine In.there ?_)) Fc.sz26 (by first | exact hcells_one _ | exact of_decide_eq_true rfl) (by rfl) (by first | exact .inr (by assumption) | exact .inl (by first | assumption | rfl)) ?_
    clear hH; intro w hH
    refine Sq.nil ?_
    refine then_n ?_
    refine c_seq ?_
    refine reg_draw [(true, 0, []), (true, 1, []), (true, 2, []), (true, 3, []), (true, 4, []), (true, 5, []), (true, 6, []), (true, 7, []), (true, 8, []), (true, 9, []), (true, 10, [])] Fc.mixed (by kernel_rfl) (by kernel_rfl) (by kernel_rfl) (by kernel_rfl) (by kernel_rfl) (by repeat (first | with_reducible exact steady_body | with_reducible apply steady_block | with_reducible apply steady_then | exact steady_body)) hH ?_
    replace hH := hH.drew
    refine r_move hS trivial rfl rfl ?_; clear hS; intro a hS
    refine r_nilCheck hS trivial rfl rfl ?_; clear hS; intro a hS
    refine r_fieldAddr hS trivial rfl Fc.fo41_2 rfl ?_; clear hS; intro a hS
    refine r_load_scS hS rfl (by repeat (first | exact In.here | refine In.there ?_)) Fc.sc39 (by rfl) rfl ?_; clear hS; intro a hS
    refine r_load_rowS hS rfl (by repeat (first | exact In.here | refine In.there ?_)) Fc.ag26 (by rfl) rfl ?_; clear hS; intro a hS
    refine r_lookupS2 Fc.mtN hS rfl rfl (by repeat (first | exact In.here | refine In.there ?_)) hm2 (Fc.arrH.keyOf (h := [g0, g1, g2, g3, g4, g5, g6, g7, g8, g9, ga, gb, gc, gd, ge, gf]) rfl) e1 e2 rfl ?_; clear hS; intro a hS
    refine r_move hS trivial rfl rfl ?_; clear hS; intro a hS
    refine r_extract hS trivial rfl rfl rfl ?_; clear hS; intro a hS
    refine r_extract hS trivial rfl rfl rfl ?_; clear hS; intro a hS
    refine r_assign hS trivial rfl rfl ?_; clear hS; intro a hS
    refine r_assign hS trivial rfl rfl ?_; clear hS; intro a hS
    refine Sq.nil ?_
    refine then_n ?_
    refine c_seq ?_
    refine reg_plain w0 (Nobody) ?_
    refine r_move hS hH.kp0 rfl rfl ?_; clear hS; intro a hS
    rcases th with _ | _
    · rcases hcase with ⟨h, _⟩ | ⟨_, _, hno⟩
      · cases h
      have hnx : ∀ j, j < ts.length → (l.drop i).take 16 = nm j → KT K j := fun j hj e => absurd (hg.trans e) (hno j hj)
      refine r_move hS hH.kp0 rfl rfl ?_; clear hS; intro a hS
      refine Sq.guardNo hS rfl rfl rfl hH.kp0 rfl ?_; clear hS; intro a hS
      refine Sq.guardNo hS rfl rfl rfl hH.kp0 rfl ?_; clear hS; intro a hS
      refine Sq.guardNo hS rfl rfl rfl hH.kp0 rfl ?_; clear hS; intro a hS
      refine Sq.guardNo hS rfl rfl rfl hH.kp0 rfl ?_; clear hS; intro a hS
      refine Sq.guardNo hS rfl rfl rfl hH.kp0 rfl ?_; clear hS; intro a hS
      refine Sq.guardNo hS rfl rfl rfl hH.kp0 rfl ?_; clear hS; intro a hS
      refine Sq.guardNo hS rfl rfl rfl hH.kp0 rfl ?_; clear hS; intro a hS
      refine Sq.guardNo hS rfl rfl rfl hH.kp0 rfl ?_; clear hS; intro a hS
      refine r_pickF hS hH.kp0 rfl rfl rfl rfl ?_; clear hS; intro a hS
      refine r_move hS hH.kp0 rfl rfl ?_; clear hS; intro a hS
      refine Sq.guardYes hS rfl rfl rfl ?_
      refine r_move hS hH.kp0 rfl rfl ?_; clear hS; intro a hS
      refine Sq.guardYes hS rfl rfl rfl ?_
      refine r_not hS hH.kp0 rfl rfl ?_; clear hS; intro a hS
      refine Sq.guardYes hS rfl rfl rfl ?_
      refine r_move hS hH.kp0 rfl rfl ?_; clear hS; intro a hS
      refine Sq.guardYes hS rfl rfl rfl ?_
      refine r_load_row hS hH (by repeat (first | exact Sub.nil | refine Sub.cons ?_ ?_ | exact In.here | refine In.there ?_)) rfl (by repeat (first | exact In.here | refine In.there ?_)) Fc.ag26 (by rfl) rfl ?_; clear hS; intro a hS
      refine Sq.guardYes hS rfl rfl rfl ?_
      refine r_call (l := [.tmp 55]) hS rfl rfl Fc.fn27 rfl ?_
      refine Calls.mono (isName_v [g0, g1, g2, g3, g4, g5, g6, g7, g8, g9, ga, gb, gc, gd, ge, gf] rfl _) ?_
      rintro e w1 ⟨r0, rfl, hE⟩
      replace hH := hH.ext hE
      refine ⟨_, rfl, hH.kp0, ?_⟩
      clear hS; intro a hS
      refine Sq.guardYes hS rfl rfl rfl ?_
      refine r_pickT hS hH.kp0 rfl rfl rfl rfl ?_; clear hS; intro a hS
      refine r_pickF hS hH.kp0 rfl rfl rfl rfl ?_; clear hS; intro a hS
      refine Sq.nil ?_
      refine then_n ?_
      refine c_cond hS rfl (fun hc2 => ?_) (fun hc2 => ?_)
      · have hR : HidR ts K l true := HidR.mk1 (i := i) (by omega) (fun j hj e => absurd (hg.trans e) (hno j hj))
        refine c_seq ?_
        refine reg_plain w0 (Nobody) ?_
        refine r_assign hS hH.kp0 rfl rfl ?_; clear hS; intro a hS
        refine Sq.nil ?_
        refine then_n ?_
        refine wp_ret ?_
        refine blk_r ?_
        refine then_r ?_
        refine then_r ?_
        refine blk_r ?_
        refine then_r ?_
        refine leave (.inl rfl) hS rfl (Res.tmp rfl Res.nil) ⟨_, K, rfl, hKN, ?_, hH.mod⟩
        first | exact hR | exact HidR.mk0 hB (by omega)
      · refine wp_skip ?_
        refine blk_n ?_
        refine then_n ?_
        refine reg_plain w0 (Nobody) ?_
        refine r_move hS hH.kp0 rfl rfl ?_; clear hS; intro a hS
        (first | refine r_add hS hH.kp0 rfl rfl rfl (by omega) ?_ | refine r_addw hS hH.kp0 rfl rfl rfl ?_)
        clear hS; intro a hS
        refine r_assign hS hH.kp0 rfl rfl ?_; clear hS; intro a hS
        refine Sq.nil ?_
        refine then_n ?_
        refine ⟨m - 1, by omega, i + 1, _, by omega, by omega, hB.next ?_, hS.live ⟨rfl, rfl, rfl, rfl, trivial⟩, hH.drop [0]⟩
        exact hnx
    · rcases hcase.symm with ⟨h, _⟩ | ⟨_, j, hj, hn0, hgj⟩
      · cases h
      subst hn0
      obtain ⟨kj, hkj⟩ : ∃ k, K[j]? = some k := ⟨_, List.getElem?_eq_getElem (by rw [hKN.len]; exact hj)⟩
      refine r_move hS hH.kp0 rfl rfl ?_; clear hS; intro a hS
      refine Sq.guardYes hS rfl rfl rfl ?_
      refine r_move hS hH.kp0 rfl rfl ?_; clear hS; intro a hS
      refine Sq.guardYes hS rfl rfl rfl ?_
      refine r_nilCheck hS hH.kp0 rfl rfl ?_; clear hS; intro a hS
      refine Sq.guardYes hS rfl rfl rfl ?_
      refine r_fieldAddr hS hH.kp0 rfl Fc.fo71_1 rfl ?_; clear hS; intro a hS
      refine Sq.guardYes hS rfl rfl rfl ?_
      refine r_load_sc hS hH (by repeat (first | exact Sub.nil | refine Sub.cons ?_ ?_ | exact In.here | refine In.there ?_)) rfl (by repeat (first | exact In.here | refine In.there ?_)) Fc.sc69 (by rfl) rfl ?_; clear hS; intro a hS
      refine Sq.guardYes hS rfl rfl rfl ?_
      refine r_move hS hH.kp0 rfl rfl ?_; clear hS; intro a hS
      refine Sq.guardYes hS rfl rfl rfl ?_
      refine r_indexAddrS (j := j) hS hH.kp0 rfl rfl Fc.slb69 rfl hj rfl ?_; clear hS; intro a hS
      refine Sq.guardYes hS rfl rfl rfl ?_
      refine r_load_sc hS hH (by repeat (first | exact Sub.nil | refine Sub.cons ?_ ?_ | exact In.here | refine In.there ?_)) rfl (by repeat (first | exact In.here | refine In.there ?_)) Fc.sc4 (v := .bool kj) (by rw [nthV_eq, Nat.zero_add, Nat.mul_one]; exact bools_get hkj) rfl ?_; clear hS; intro a hS
      rcases kj with _ | _
      · have hR : HidR ts K l true := HidR.mk1 (i := i) (by omega) (fun j2 hj2 e => by have e3 : j2 = j := nm_inj (by omega) (by omega) ((hg.trans e).symm.trans hgj); subst e3; unfold KT; rw [hkj]; simp)
        refine Sq.guardYes hS rfl rfl rfl ?_
        refine r_not hS hH.kp0 rfl rfl ?_; clear hS; intro a hS
        refine r_pickT hS hH.kp0 rfl rfl rfl rfl ?_; clear hS; intro a hS
        refine r_move hS hH.kp0 rfl rfl ?_; clear hS; intro a hS
        refine Sq.guardNo hS rfl rfl rfl hH.kp0 rfl ?_; clear hS; intro a hS
        refine Sq.guardNo hS rfl rfl rfl hH.kp0 rfl ?_; clear hS; intro a hS
        refine Sq.guardNo hS rfl rfl rfl hH.kp0 rfl ?_; clear hS; intro a hS
        refine Sq.guardOff hS rfl rfl hH.kp0 rfl ?_; clear hS; intro a hS
        refine Sq.guardOff hS rfl rfl hH.kp0 rfl ?_; clear hS; intro a hS
        refine Sq.guardNo hS rfl rfl rfl hH.kp0 rfl ?_; clear hS; intro a hS
        refine r_pickT hS hH.kp0 rfl rfl rfl rfl ?_; clear hS; intro a hS
        refine Sq.nil ?_
        refine then_n ?_
        refine c_condT hS rfl rfl ?_
        refine c_seq ?_
        refine reg_plain w0 (Nobody) ?_
        refine r_assign hS hH.kp0 rfl rfl ?_; clear hS; intro a hS
        refine Sq.nil ?_
        refine then_n ?_
        refine wp_ret ?_
        refine blk_r ?_
        refine then_r ?_
        refine then_r ?_
        refine blk_r ?_
        refine then_r ?_
        refine leave (.inl rfl) hS rfl (Res.tmp rfl Res.nil) ⟨_, K, rfl, hKN, ?_, hH.mod⟩
        first | exact hR | exact HidR.mk0 hB (by omega)
      · have hnx : ∀ j, j < ts.length → (l.drop i).take 16 = nm j → KT K j := fun j2 hj2 e => by have e3 : j2 = j := nm_inj (by omega) (by omega) ((hg.trans e).symm.trans hgj); subst e3; exact hkj
        refine Sq.guardYes hS rfl rfl rfl ?_
        refine r_not hS hH.kp0 rfl rfl ?_; clear hS; intro a hS
        refine r_pickT hS hH.kp0 rfl rfl rfl rfl ?_; clear hS; intro a hS
        refine r_move hS hH.kp0 rfl rfl ?_; clear hS; intro a hS
        refine Sq.guardYes hS rfl rfl rfl ?_
        refine r_move hS hH.kp0 rfl rfl ?_; clear hS; intro a hS
        refine Sq.guardYes hS rfl rfl rfl ?_
        refine r_not hS hH.kp0 rfl rfl ?_; clear hS; intro a hS
        refine Sq.guardYes hS rfl rfl rfl ?_
        refine r_move hS hH.kp0 rfl rfl ?_; clear hS; intro a hS
        refine Sq.guardNo hS rfl rfl rfl hH.kp0 rfl ?_; clear hS; intro a hS
        refine Sq.guardNo hS rfl rfl rfl hH.kp0 rfl ?_; clear hS; intro a hS
        refine Sq.guardYes hS rfl rfl rfl ?_
        refine r_pickF hS hH.kp0 rfl rfl rfl rfl ?_; clear hS; intro a hS
        refine r_pickF hS hH.kp0 rfl rfl rfl rfl ?_; clear hS; intro a hS
        refine Sq.nil ?_
        refine then_n ?_
        refine c_condF hS rfl rfl ?_
        refine wp_skip ?_
        refine blk_n ?_
        refine then_n ?_
        refine reg_plain w0 (Nobody) ?_
        refine r_move hS hH.kp0 rfl rfl ?_; clear hS; intro a hS
        (first | refine r_add hS hH.kp0 rfl rfl rfl (by omega) ?_ | refine r_addw hS hH.kp0 rfl rfl rfl ?_)
        clear hS; intro a hS
        refine r_assign hS hH.kp0 rfl rfl ?_; clear hS; intro a hS
        refine Sq.nil ?_
        refine then_n ?_
        refine ⟨m - 1, by omega, i + 1, _, by omega, by omega, hB.next ?_, hS.live ⟨rfl, rfl, rfl, rfl, trivial⟩, hH.drop [0]⟩
        exact hnx
  · have hge := of_decide_eq_false hc1
    refine wp_exit ?_
    refine then_e ?_
    refine then_e ?_
    refine blk_hit ?_
    refine then_n ?_
    refine c_seq ?_
    refine reg_plain w0 (Nobody) ?_
    refine r_assign hS hH.kp0 rfl rfl ?_; clear hS; intro a hS
    refine Sq.nil ?_
    refine then_n ?_
    refine wp_ret ?_
    refine leave (.inl rfl) hS rfl (Res.tmp rfl Res.nil) ⟨_, K, rfl, hKN, ?_, hH.mod⟩
    first | exact hR | exact HidR.mk0 hB (by omega)

end Go.Proofs.YtcjmehononbadaaDoor
