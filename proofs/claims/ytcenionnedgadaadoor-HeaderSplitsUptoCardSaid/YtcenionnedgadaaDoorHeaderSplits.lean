/- HeaderSplits: any datagram is cut into the packets that the document says. Conditions: those of the given row (arguments of at most 1048576 values and letters; the listed variables hold what the text lays). Part HeaderSplits: walks and lemmas of the proof. -/
import Derived.Test.YtcenionnedgadaaDoorRef5
namespace Go.Proofs.YtcenionnedgadaaDoor
open Go.Sym

theorem Fc.fn10 : isFn Tryd.prog 10 = true := by kernel_rfl
theorem Fc.fn11 : isFn Tryd.prog 11 = true := by kernel_rfl
set_option maxRecDepth 100000 in
set_option maxHeartbeats 6000000 in
theorem splits_some (ba bo qc : Nat) (l : List UInt8) (hl : l.length ≤ 1048576) (h1 : 0 < l.length) (ids : Int) (w0 : World) (WT : TypeId) (WF : Nat × Nat) (hw0 : w0.heap[0]? = some (.cells [.int .i64 6, .int .i64 14, .int .i64 30, .int .i64 62].toArray WT WF)) (hb : Bs w0 (.slice (some ⟨ba, bo, none⟩) l.length qc) l) : Calls Tryd.prog 4 #[.slice (some ⟨ba, bo, none⟩) l.length qc, .int .i64 ids] w0 fun e w' => e = .returned (.bool true) ∧ Ext w0 w' := by
  refine enter Tryd.func4 rfl rfl rfl ?_
  intro a hS
  have hH := Hp.start w0 (Nobody)
  have hlt0 := lt_of_block hw0
  replace hH := hH.know hw0 (fun p hp => by simp at hp)
  refine c_seq ?_
  refine reg_plain w0 (Nobody) ?_
  refine r_assign hS hH.kp0 rfl rfl ?_; clear hS; intro a hS
  refine Sq.nil ?_
  refine then_n ?_
  refine c_seq ?_
  refine reg_plain w0 (Nobody) ?_
  refine r_buildSlice0 hS hH (by repeat (first | exact Sub.nil | refine Sub.cons ?_ ?_ | exact In.here | refine In.there ?_)) Fc.uls22 Fc.inf5 rfl ?_
  clear hS hH; intro a w bz hbz hwbz hS hH
  refine r_move hS hH.kp0 rfl rfl ?_; clear hS; intro a hS
  refine r_appB (l := []) ([]) (l) hS hH rfl rfl (by first | exact .here | exact .there .here | exact .there (.there .here) | exact .there (.there (.there .here)) | exact .there (.there (.there (.there .here))) | exact .there (.there (.there (.there (.there .here)))) | exact .there (.there (.there (.there (.there (.there .here))))) | exact .there (.there (.there (.there (.there (.there (.there .here)))))) | exact .there (.there (.there (.there (.there (.there (.there (.there .here))))))) | exact .there (.there (.there (.there (.there (.there (.there (.there (.there .here)))))))) | exact .there (.there (.there (.there (.there (.there (.there (.there (.there (.there .here))))))))) | exact .there (.there (.there (.there (.there (.there (.there (.there (.there (.there (.there .here)))))))))) | exact .there (.there (.there (.there (.there (.there (.there (.there (.there (.there (.there (.there .here))))))))))) | exact .there (.there (.there (.there (.there (.there (.there (.there (.there (.there (.there (.there (.there .here)))))))))))) | exact .there (.there (.there (.there (.there (.there (.there (.there (.there (.there (.there (.there (.there (.there .here))))))))))))) | exact .there (.there (.there (.there (.there (.there (.there (.there (.there (.there (.there (.there (.there (.there (.there .here))))))))))))))) (by repeat (first | exact Sub.nil | refine Sub.cons ?_ ?_ | exact In.here | refine In.there ?_)) Fc.el22 Fc.ni22 BB.nil (hb.ext hH.mod) (by first | omega | (simp only [List.length_append, List.length_nil, List.length_take, List.length_drop]; omega)) (by assumption) rfl ?_
  clear hS hH; intro a w b1 c1 k1 hw1 hB1 hS hH
  refine r_buildSlice (parts := [(0, .const (.int .u8 90))]) hS hH (by repeat (first | exact Sub.nil | refine Sub.cons ?_ ?_ | exact In.here | refine In.there ?_)) rfl Fc.bsl22_1 (by rfl) rfl ?_
  clear hS hH; intro a w bl hbl hwbl hS hH
  refine r_appB (l := k1) ([] ++ l) ([90]) hS hH rfl rfl (by first | exact .here | exact .there .here | exact .there (.there .here) | exact .there (.there (.there .here)) | exact .there (.there (.there (.there .here))) | exact .there (.there (.there (.there (.there .here)))) | exact .there (.there (.there (.there (.there (.there .here))))) | exact .there (.there (.there (.there (.there (.there (.there .here)))))) | exact .there (.there (.there (.there (.there (.there (.there (.there .here))))))) | exact .there (.there (.there (.there (.there (.there (.there (.there (.there .here)))))))) | exact .there (.there (.there (.there (.there (.there (.there (.there (.there (.there .here))))))))) | exact .there (.there (.there (.there (.there (.there (.there (.there (.there (.there (.there .here)))))))))) | exact .there (.there (.there (.there (.there (.there (.there (.there (.there (.there (.there (.there .here))))))))))) | exact .there (.there (.there (.there (.there (.there (.there (.there (.there (.there (.there (.there (.there .here)))))))))))) | exact .there (.there (.there (.there (.there (.there (.there (.there (.there (.there (.there (.there (.there (.there .here))))))))))))) | exact .there (.there (.there (.there (.there (.there (.there (.there (.there (.there (.there (.there (.there (.there (.there .here))))))))))))))) (by repeat (first | exact Sub.nil | refine Sub.cons ?_ ?_ | exact In.here | refine In.there ?_)) Fc.el22 Fc.ni22 hB1 ((BB.lit [90] rfl rfl).bs (hH.get (b := bl) (by repeat (first | exact In.here | refine In.there ?_)))) (by simp only [List.length_append, List.length_nil, List.length_cons]; omega) (by assumption) rfl ?_
  clear hS hH; intro a w b2 c2 k2 hw2 hB2 hS hH
  rw [List.nil_append] at hB2
  refine r_assign hS hH.kp0 rfl rfl ?_; clear hS; intro a hS
  refine Sq.nil ?_
  refine then_n ?_
  refine c_seq ?_
  refine reg_plain w0 (Nobody) ?_
  refine r_move hS hH.kp0 rfl rfl ?_; clear hS; intro a hS
  refine r_move hS hH.kp0 rfl rfl ?_; clear hS; intro a hS
  refine r_lenSl hS hH.kp0 rfl Fc.isSlice22 rfl ?_; clear hS; intro a hS
  refine r_slHi (hh := l.length) hS hH.kp0 rfl rfl Fc.slb22 rfl (hB2.pre (u := l)).2 (by intro q h; cases h; rfl) rfl ?_; clear hS; intro a hS
  refine r_move hS hH.kp0 rfl rfl ?_; clear hS; intro a hS
  refine r_call (l := [.tmp 18, .tmp 19]) hS rfl rfl Fc.fn9 rfl ?_
  refine Calls.mono (Split_some ⟨b2, 0, none⟩ c2 l (by omega) h1 ids _ WT WF (hH.get (b := 0) (by repeat (first | exact In.here | refine In.there ?_))) (Bs.row (hH.get (b := b2) (by repeat (first | exact In.here | refine In.there ?_))) (hB2.pre (u := l)).1 (hB2.pre (u := l)).2)) ?_
  rintro e w1 ⟨u1, cb1, cap1, l21, ls, rfl, hsp1, hO1, hcb1, hcbk1, hcap1, hl21, htk1, hE⟩
  obtain ⟨hfl, hpos⟩ := hsp1.flat
  have hls0 : 0 < ls.length := by rcases ls with _ | ⟨p, ps⟩; (simp at hfl; subst hfl; cases h1); simp
  have hlsn := flat_len ls hpos
  rw [hfl] at hlsn
  have hszc1 := hH.mod.size
  obtain ⟨ob1, c91, l91, hu1, hob1, hbo1, hl91, hm91, htk91⟩ := hO1.resolve_left (fun h => by have := h.2.1; omega)
  subst hu1
  have hlt9 := hH.lt
  have hne9 : cb1 ≠ ob1 := own_ne22 hcbk1 hbo1
  replace hH := ((hH.ext hE).know hcbk1 (fun z hz e => by have := hlt9 z hz; omega)).know hbo1 (fun z hz e => by rcases List.mem_cons.1 hz with rfl | hz; exact hne9 e; have := hlt9 z hz; omega)
  refine ⟨_, rfl, hH.kp0, ?_⟩
  clear hS; intro a hS
  refine r_assign hS hH.kp0 rfl rfl ?_; clear hS; intro a hS
  refine Sq.nil ?_
  refine then_n ?_
  refine c_seq ?_
  refine reg_plain w0 (Nobody) ?_
  refine r_move hS hH.kp0 rfl rfl ?_; clear hS; intro a hS
  refine r_move hS hH.kp0 rfl rfl ?_; clear hS; intro a hS
  refine r_lenSl hS hH.kp0 rfl Fc.isSlice22 rfl ?_; clear hS; intro a hS
  refine r_slHi (hh := l.length) hS hH.kp0 rfl rfl Fc.slb22 rfl (hB2.pre (u := l)).2 (by intro q h; cases h; rfl) rfl ?_; clear hS; intro a hS
  refine r_move hS hH.kp0 rfl rfl ?_; clear hS; intro a hS
  refine r_call (l := [.tmp 24, .tmp 25]) hS rfl rfl Fc.fn9 rfl ?_
  refine Calls.mono (Split_some ⟨b2, 0, none⟩ c2 l (by omega) h1 ids _ WT WF (hH.get (b := 0) (by repeat (first | exact In.here | refine In.there ?_))) (Bs.row (hH.get (b := b2) (by repeat (first | exact In.here | refine In.there ?_))) (hB2.pre (u := l)).1 (hB2.pre (u := l)).2)) ?_
  rintro e w1 ⟨u2, cb2, cap2, l22, ls2, rfl, hsp2, hO2, hcb2, hcbk2, hcap2, hl22, htk2, hE⟩
  obtain rfl := hsp1.det hsp2
  skip
  have hszc2 := hH.mod.size
  obtain ⟨ob2, c92, l92, hu2, hob2, hbo2, hl92, hm92, htk92⟩ := hO2.resolve_left (fun h => by have := h.2.1; omega)
  subst hu2
  have hlt9 := hH.lt
  have hne9 : cb2 ≠ ob2 := own_ne22 hcbk2 hbo2
  replace hH := ((hH.ext hE).know hcbk2 (fun z hz e => by have := hlt9 z hz; omega)).know hbo2 (fun z hz e => by rcases List.mem_cons.1 hz with rfl | hz; exact hne9 e; have := hlt9 z hz; omega)
  refine ⟨_, rfl, hH.kp0, ?_⟩
  clear hS; intro a hS
  refine r_assign hS hH.kp0 rfl rfl ?_; clear hS; intro a hS
  refine Sq.nil ?_
  refine then_n ?_
  refine c_seq ?_
  refine reg_plain w0 (Nobody) ?_
  refine r_move hS hH.kp0 rfl rfl ?_; clear hS; intro a hS
  refine r_move hS hH.kp0 rfl rfl ?_; clear hS; intro a hS
  refine r_call (l := [.tmp 27, .tmp 28]) hS rfl rfl Fc.fn10 rfl ?_
  refine Calls.mono (splitR_c ba bo qc l (by omega) h1 ids _ (hb.ext hH.mod)) ?_
  rintro e w1 ⟨u3, ls3, rfl, hsp3, hO3, hE⟩
  obtain rfl := hsp1.det hsp3
  obtain ⟨ob3, c93, l93, hu3, hob3, hbo3, hl93, hm93, htk93⟩ := hO3.resolve_left (fun h => by have := h.2.1; omega)
  subst hu3
  have hlt9 := hH.lt
  replace hH := (hH.ext hE).know hbo3 (fun z hz e => by have := hlt9 z hz; omega)
  refine ⟨_, rfl, hH.kp0, ?_⟩
  clear hS; intro a hS
  refine r_assign hS hH.kp0 rfl rfl ?_; clear hS; intro a hS
  refine Sq.nil ?_
  refine then_n ?_
  refine c_seq ?_
  refine c_seq ?_
  refine reg_plain w0 (Nobody) ?_
  refine r_move hS hH.kp0 rfl rfl ?_; clear hS; intro a hS
  refine r_lenSl hS hH.kp0 rfl Fc.isSlice32 rfl ?_; clear hS; intro a hS
  refine r_move hS hH.kp0 rfl rfl ?_; clear hS; intro a hS
  refine r_lenSl hS hH.kp0 rfl Fc.isSlice32 rfl ?_; clear hS; intro a hS
  refine r_neq hS hH.kp0 rfl rfl rfl ?_; clear hS; intro a hS
  refine r_move hS hH.kp0 rfl rfl ?_; clear hS; intro a hS
  refine Sq.guardYes hS rfl rfl (by simp) ?_
  refine r_move hS hH.kp0 rfl rfl ?_; clear hS; intro a hS
  refine Sq.guardYes hS rfl rfl (by simp) ?_
  refine r_lenSl hS hH.kp0 rfl Fc.isSlice32 rfl ?_; clear hS; intro a hS
  refine Sq.guardYes hS rfl rfl (by simp) ?_
  refine r_move hS hH.kp0 rfl rfl ?_; clear hS; intro a hS
  refine Sq.guardYes hS rfl rfl (by simp) ?_
  refine r_lenSl hS hH.kp0 rfl Fc.isSlice32 rfl ?_; clear hS; intro a hS
  refine Sq.guardYes hS rfl rfl (by simp) ?_
  refine r_neq hS hH.kp0 rfl rfl rfl ?_; clear hS; intro a hS
  refine r_pickF hS hH.kp0 rfl (by simp) rfl rfl ?_; clear hS; intro a hS
  refine Sq.nil ?_
  refine then_n ?_
  refine c_condF hS rfl (by simp) ?_
  refine wp_skip ?_
  refine then_n ?_
  refine c_seq ?_
  refine c_seq ?_
  refine reg_plain w0 (Nobody) ?_
  refine r_assign hS hH.kp0 rfl rfl ?_; clear hS; intro a hS
  refine Sq.nil ?_
  refine then_n ?_
  refine wp_block ?_
  refine c_loop (fun m a w => ∃ (k : Nat) (i : Int) (X : List Value), m + k = ls.length ∧ i = k ∧ X.length = l21.length ∧ (∀ j, (ls.take k).flatten.length ≤ j → X[j]? = l21[j]?) ∧ St 77 (lv [(0, .slice (some ⟨ba, bo, none⟩) l.length qc), (5, .slice (some ⟨b2, 0, none⟩) ([] ++ l ++ [90]).length c2), (6, .slice (some ⟨ob1, 0, none⟩) ls.length c91), (7, .slice (some ⟨ob2, 0, none⟩) ls.length c92), (8, .slice (some ⟨ob3, 0, none⟩) ls.length c93), (9, .int .i64 i)]) a ∧ Hp w0 Nobody [(ob3, .cells l93.toArray 22 (0, 0)), (ob2, .cells l92.toArray 22 (0, 0)), (cb2, .cells l22.toArray 5 (0, 0)), (ob1, .cells l91.toArray 22 (0, 0)), (cb1, .cells X.toArray 5 (0, 0)), (b2, .cells k2.toArray 5 (0, 0))] w) (ls.length) ?_ ?_
  · exact ⟨0, _, l21, rfl, rfl, rfl, fun _ _ => rfl, hS.live ⟨rfl, rfl, rfl, rfl, rfl, rfl, trivial⟩, hH.sub (by repeat (first | exact Sub.nil | refine Sub.cons ?_ ?_ | exact In.here | refine In.there ?_)) (by have nd := hH.nd; simp only [List.map_cons, List.map_nil, List.nodup_cons, List.mem_cons, List.not_mem_nil, or_false] at nd ⊢; simp_all)⟩
  clear hS hH; intro m a w hI; obtain ⟨k, i, X, hmk, hi, hXl, hX, hS, hH⟩ := hI
  refine c_seq ?_
  refine c_seq ?_
  refine reg_plain w0 (Nobody) ?_
  refine r_move hS hH.kp0 rfl rfl ?_; clear hS; intro a hS
  refine r_move hS hH.kp0 rfl rfl ?_; clear hS; intro a hS
  refine r_lenSl hS hH.kp0 rfl Fc.isSlice32 rfl ?_; clear hS; intro a hS
  refine r_lss hS hH.kp0 rfl rfl rfl ?_; clear hS; intro a hS
  refine Sq.nil ?_
  refine then_n ?_
  refine c_cond hS rfl (fun hc1 => ?_) (fun hc1 => ?_)
  · have hk : k < ls.length := by have := of_decide_eq_true hc1; omega
    obtain ⟨p, hp⟩ : ∃ p, ls[k]? = some p := ⟨_, List.getElem?_eq_getElem hk⟩
    obtain ⟨hf1, hf2, hf3⟩ := flat_part ls k p hp
    rw [hfl] at hf1 hf2
    have hpl := hpos p (List.mem_of_getElem? hp)
    have hqle := hb.f.len
    have hp1 : l91[k]? = some (.slice (some ⟨cb1, 0 + (ls.take k).flatten.length, none⟩) p.length p.length) := by have hpp := pieces_get cb1 ls 0 k p hp; rw [← htk91, List.getElem?_take, if_pos (by omega)] at hpp; exact hpp
    have hp2 : l92[k]? = some (.slice (some ⟨cb2, 0 + (ls.take k).flatten.length, none⟩) p.length p.length) := by have hpp := pieces_get cb2 ls 0 k p hp; rw [← htk92, List.getElem?_take, if_pos (by omega)] at hpp; exact hpp
    have hp3 : l93[k]? = some (.slice (some ⟨ba, bo + (0 + (ls.take k).flatten.length), none⟩) p.length (qc - (0 + (ls.take k).flatten.length))) := by have hpp := rpieces_get ba bo qc ls 0 k p hp; rw [← htk93, List.getElem?_take, if_pos (by omega)] at hpp; exact hpp
    refine wp_skip ?_
    refine then_n ?_
    refine c_seq ?_
    refine wp_block ?_
    refine c_seq ?_
    refine reg_tree [(true, 0, [4]), (true, 1, [4]), (true, 2, [4]), (true, 3, [4]), (true, 4, [4]), (true, 5, [4]), (true, 6, [4]), (true, 7, [4]), (false, 8, [4]), (true, 9, [4]), (true, 10, [4]), (true, 11, [4]), (true, 12, [4]), (true, 13, [4]), (true, 14, [4]), (false, 15, [4]), (true, 16, [4]), (true, 17, [4]), (true, 18, [4]), (true, 19, [4]), (false, 20, [4]), (true, 21, [4]), (true, 22, [4])] (PT.ofPlan [(true, 0, [4]), (true, 1, [4]), (true, 2, [4]), (true, 3, [4]), (true, 4, [4]), (true, 5, [4]), (true, 6, [4]), (true, 7, [4]), (false, 8, [4]), (true, 9, [4]), (true, 10, [4]), (true, 11, [4]), (true, 12, [4]), (true, 13, [4]), (true, 14, [4]), (true, 16, [4]), (true, 17, [4]), (true, 18, [4]), (true, 19, [4])] (.fork (PT.ofPlan [(false, 15, [4]), (false, 20, [4]), (true, 21, [4]), (true, 22, [4])] .nil) (PT.ofPlan [(false, 20, [4]), (false, 15, [4]), (true, 21, [4]), (true, 22, [4])] .nil))) Fc.mixed (by kernel_rfl) (by kernel_rfl) (by kernel_rfl) (by kernel_rfl) (by kernel_rfl) (by kernel_rfl) (by repeat (first | with_reducible exact steady_body | with_reducible apply steady_block | with_reducible apply steady_then | with_reducible apply steady_scope | exact steady_body)) hH ?_
    replace hH := hH.drew
    refine tr_seg ?_
    refine r_move hS trivial rfl rfl ?_; clear hS; intro a hS
    refine r_move hS trivial rfl rfl ?_; clear hS; intro a hS
    refine r_indexAddrS (j := k) hS trivial rfl rfl Fc.slb32 hi (by omega) rfl ?_; clear hS; intro a hS
    refine r_load_scS (v := .slice (some ⟨cb1, 0 + (ls.take k).flatten.length, none⟩) p.length p.length) hS rfl (by repeat (first | exact In.here | refine In.there ?_)) Fc.sc22 (by rw [Nat.zero_add, Nat.mul_one, nthV_eq]; exact hp1) rfl ?_; clear hS; intro a hS
    refine r_move hS trivial rfl rfl ?_; clear hS; intro a hS
    refine r_move hS trivial rfl rfl ?_; clear hS; intro a hS
    refine r_indexAddrS (j := k) hS trivial rfl rfl Fc.slb32 hi (by omega) rfl ?_; clear hS; intro a hS
    refine r_load_scS (v := .slice (some ⟨ba, bo + (0 + (ls.take k).flatten.length), none⟩) p.length (qc - (0 + (ls.take k).flatten.length))) hS rfl (by repeat (first | exact In.here | refine In.there ?_)) Fc.sc22 (by rw [Nat.zero_add, Nat.mul_one, nthV_eq]; exact hp3) rfl ?_; clear hS; intro a hS
    refine r_call (l := [.tmp 51, .tmp 55]) hS rfl rfl Fc.fn11 rfl ?_
    refine Calls.mono (spoilt_c cb1 (0 + (ls.take k).flatten.length) p.length X p _ (by omega) (by rw [Nat.zero_add]; exact part_map htk1 hf1 hf2 hX) (by rw [hXl]; omega) (Nat.le_refl _) _ (hH.get (b := cb1) (by repeat (first | exact In.here | refine In.there ?_))) (by have h := Bs.mid (o := 0 + (ls.take k).flatten.length) (n := p.length) (c := qc - (0 + (ls.take k).flatten.length)) (hb.ext hH.mod) (by omega) (by have := hqle.2; omega); rw [Nat.zero_add] at h ⊢; rw [hf2] at h; exact h)) ?_
    rintro e w1 ⟨X2, rfl, hX2, hX2l, hX2s, hm2⟩
    replace hH := hH.modPut hm2 hX2 (by first | exact .here | exact .there .here | exact .there (.there .here) | exact .there (.there (.there .here)) | exact .there (.there (.there (.there .here))) | exact .there (.there (.there (.there (.there .here)))) | exact .there (.there (.there (.there (.there (.there .here))))) | exact .there (.there (.there (.there (.there (.there (.there .here)))))) | exact .there (.there (.there (.there (.there (.there (.there (.there .here))))))) | exact .there (.there (.there (.there (.there (.there (.there (.there (.there .here)))))))) | exact .there (.there (.there (.there (.there (.there (.there (.there (.there (.there .here))))))))) | exact .there (.there (.there (.there (.there (.there (.there (.there (.there (.there (.there .here)))))))))) | exact .there (.there (.there (.there (.there (.there (.there (.there (.there (.there (.there (.there .here))))))))))) | exact .there (.there (.there (.there (.there (.there (.there (.there (.there (.there (.there (.there (.there .here)))))))))))) | exact .there (.there (.there (.there (.there (.there (.there (.there (.there (.there (.there (.there (.there (.there .here))))))))))))) | exact .there (.there (.there (.there (.there (.there (.there (.there (.there (.there (.there (.there (.there (.there (.there .here))))))))))))))) (.inr (by omega))
    refine ⟨_, rfl, hH.kp (by repeat (first | exact Sub.nil | refine Sub.cons ?_ ?_ | exact In.here | refine In.there ?_)), ?_⟩
    clear hS; intro a hS
    refine r_not hS trivial rfl rfl ?_; clear hS; intro a hS
    refine r_move hS trivial rfl rfl ?_; clear hS; intro a hS
    refine Sq.guardYes hS rfl rfl rfl ?_
    refine r_move hS trivial rfl rfl ?_; clear hS; intro a hS
    refine Sq.guardYes hS rfl rfl rfl ?_
    refine r_move hS trivial rfl rfl ?_; clear hS; intro a hS
    refine Sq.guardYes hS rfl rfl rfl ?_
    refine r_indexAddrS (j := k) hS trivial rfl rfl Fc.slb32 hi (by omega) rfl ?_; clear hS; intro a hS
    refine Sq.guardYes hS rfl rfl rfl ?_
    refine r_load_scS (v := .slice (some ⟨cb2, 0 + (ls.take k).flatten.length, none⟩) p.length p.length) hS rfl (by repeat (first | exact In.here | refine In.there ?_)) Fc.sc22 (by rw [Nat.zero_add, Nat.mul_one, nthV_eq]; exact hp2) rfl ?_; clear hS; intro a hS
    refine Sq.guardYes hS rfl rfl rfl ?_
    refine r_move hS trivial rfl rfl ?_; clear hS; intro a hS
    refine Sq.guardYes hS rfl rfl rfl ?_
    refine r_move hS trivial rfl rfl ?_; clear hS; intro a hS
    refine Sq.guardYes hS rfl rfl rfl ?_
    refine r_indexAddrS (j := k) hS trivial rfl rfl Fc.slb32 hi (by omega) rfl ?_; clear hS; intro a hS
    refine Sq.guardYes hS rfl rfl rfl ?_
    refine r_load_scS (v := .slice (some ⟨ba, bo + (0 + (ls.take k).flatten.length), none⟩) p.length (qc - (0 + (ls.take k).flatten.length))) hS rfl (by repeat (first | exact In.here | refine In.there ?_)) Fc.sc22 (by rw [Nat.zero_add, Nat.mul_one, nthV_eq]; exact hp3) rfl ?_; clear hS; intro a hS
    refine Sq.nil ?_
    refine then_n ?_
    refine tr_fork ?_ ?_
    · refine tr_seg ?_
      refine Sq.guardYes hS rfl rfl rfl ?_
      refine r_bytesStr (l := p) hS (hH.kp (by repeat (first | exact Sub.nil | refine Sub.cons ?_ ?_ | exact In.here | refine In.there ?_))) rfl (by have h := bs_drop (o := (ls.take k).flatten.length) (hH.get (b := cb2) (by repeat (first | exact In.here | refine In.there ?_))) htk2 (by omega) p.length hf1 (c := p.length) (Nat.le_refl _); rw [hf2] at h; rw [Nat.zero_add]; exact h) Fc.u8s22 Fc.isStr9 rfl ?_; clear hS; intro a hS
      refine Sq.guardYes hS rfl rfl rfl ?_
      refine r_bytesStr (l := p) hS (hH.kp (by repeat (first | exact Sub.nil | refine Sub.cons ?_ ?_ | exact In.here | refine In.there ?_))) rfl (by have h := Bs.mid (o := 0 + (ls.take k).flatten.length) (n := p.length) (c := qc - (0 + (ls.take k).flatten.length)) (hb.ext hH.mod) (by omega) (by have := hqle.2; omega); rw [Nat.zero_add] at h ⊢; rw [hf2] at h; exact h) Fc.u8s22 Fc.isStr9 rfl ?_; clear hS; intro a hS
      refine Sq.guardYes hS rfl rfl rfl ?_
      refine r_strNeq hS trivial rfl rfl rfl ?_; clear hS; intro a hS
      rw [show (!((strOf p).toList == (strOf p).toList)) = false from by simp] at hS
      refine r_pickF hS trivial rfl rfl rfl rfl ?_; clear hS; intro a hS
      refine Sq.nil ?_
      refine then_n ?_
      refine tr_nil ?_
      refine then_n ?_
      refine c_condF hS rfl (by simp) ?_
      refine wp_skip ?_
      refine blk_n ?_
      refine then_n ?_
      refine reg_plain w0 (Nobody) ?_
      refine r_move hS hH.kp0 rfl rfl ?_; clear hS; intro a hS
      first | refine r_add hS hH.kp0 rfl rfl rfl (by omega) ?_ | refine r_addw hS hH.kp0 rfl rfl rfl ?_
      clear hS; intro a hS
      refine r_assign hS hH.kp0 rfl rfl ?_; clear hS; intro a hS
      refine Sq.nil ?_
      refine then_n ?_
      refine ⟨m - 1, by omega, k + 1, _, X2, by omega, ?_, ?_, ?_, hS.live ⟨rfl, rfl, rfl, rfl, rfl, rfl, trivial⟩, hH⟩
      · omega
      · rw [hX2l, hXl]
      · intro j hj; rw [hf3, List.length_append] at hj; rw [hX2s j (.inr (by omega))]; exact hX j (by omega)
    · refine tr_seg ?_
      refine Sq.guardYes hS rfl rfl rfl ?_
      refine r_bytesStr (l := p) hS (hH.kp (by repeat (first | exact Sub.nil | refine Sub.cons ?_ ?_ | exact In.here | refine In.there ?_))) rfl (by have h := Bs.mid (o := 0 + (ls.take k).flatten.length) (n := p.length) (c := qc - (0 + (ls.take k).flatten.length)) (hb.ext hH.mod) (by omega) (by have := hqle.2; omega); rw [Nat.zero_add] at h ⊢; rw [hf2] at h; exact h) Fc.u8s22 Fc.isStr9 rfl ?_; clear hS; intro a hS
      refine Sq.guardYes hS rfl rfl rfl ?_
      refine r_bytesStr (l := p) hS (hH.kp (by repeat (first | exact Sub.nil | refine Sub.cons ?_ ?_ | exact In.here | refine In.there ?_))) rfl (by have h := bs_drop (o := (ls.take k).flatten.length) (hH.get (b := cb2) (by repeat (first | exact In.here | refine In.there ?_))) htk2 (by omega) p.length hf1 (c := p.length) (Nat.le_refl _); rw [hf2] at h; rw [Nat.zero_add]; exact h) Fc.u8s22 Fc.isStr9 rfl ?_; clear hS; intro a hS
      refine Sq.guardYes hS rfl rfl rfl ?_
      refine r_strNeq hS trivial rfl rfl rfl ?_; clear hS; intro a hS
      rw [show (!((strOf p).toList == (strOf p).toList)) = false from by simp] at hS
      refine r_pickF hS trivial rfl rfl rfl rfl ?_; clear hS; intro a hS
      refine Sq.nil ?_
      refine then_n ?_
      refine tr_nil ?_
      refine then_n ?_
      refine c_condF hS rfl (by simp) ?_
      refine wp_skip ?_
      refine blk_n ?_
      refine then_n ?_
      refine reg_plain w0 (Nobody) ?_
      refine r_move hS hH.kp0 rfl rfl ?_; clear hS; intro a hS
      first | refine r_add hS hH.kp0 rfl rfl rfl (by omega) ?_ | refine r_addw hS hH.kp0 rfl rfl rfl ?_
      clear hS; intro a hS
      refine r_assign hS hH.kp0 rfl rfl ?_; clear hS; intro a hS
      refine Sq.nil ?_
      refine then_n ?_
      refine ⟨m - 1, by omega, k + 1, _, X2, by omega, ?_, ?_, ?_, hS.live ⟨rfl, rfl, rfl, rfl, rfl, rfl, trivial⟩, hH⟩
      · omega
      · rw [hX2l, hXl]
      · intro j hj; rw [hf3, List.length_append] at hj; rw [hX2s j (.inr (by omega))]; exact hX j (by omega)
  · have hke : k = ls.length := by have := of_decide_eq_false hc1; omega
    refine wp_exit ?_
    refine then_e ?_
    refine then_e ?_
    refine blk_hit ?_
    refine then_n ?_
    refine c_seq ?_
    refine reg_plain w0 (Nobody) ?_
    refine r_move hS hH.kp0 rfl rfl ?_; clear hS; intro a hS
    refine r_bytesStr (l := l ++ [90]) hS hH.kp0 rfl (hB2.bs (hH.get (b := b2) (by repeat (first | exact In.here | refine In.there ?_)))) Fc.u8s22 Fc.isStr9 rfl ?_; clear hS; intro a hS
    refine r_move hS hH.kp0 rfl rfl ?_; clear hS; intro a hS
    refine r_bytesStr (l := l) hS hH.kp0 rfl (hb.ext hH.mod) Fc.u8s22 Fc.isStr9 rfl ?_; clear hS; intro a hS
    refine r_strAdd (u := l) (v := [90]) hS hH.kp0 rfl rfl rfl (by simp only [List.length_cons, List.length_nil]; omega) ?_; clear hS; intro a hS
    skip
    refine r_strEql hS hH.kp0 rfl rfl rfl ?_; clear hS; intro a hS
    have h9s : ((strOf (l ++ [90])).toList == (strOf (l ++ [90])).toList) = true := beq_self_eq_true _
    rw [h9s] at hS
    refine r_assign hS hH.kp0 rfl rfl ?_; clear hS; intro a hS
    refine Sq.nil ?_
    refine then_n ?_
    refine wp_ret ?_
    exact leave (.inl rfl) hS rfl (Res.tmp rfl Res.nil) ⟨rfl, hH.mod⟩

set_option maxRecDepth 100000 in
set_option maxHeartbeats 2000000 in
theorem splits_nil (q : Option Addr) (qc : Nat) (ids : Int) (w0 : World) (WT : TypeId) (WF : Nat × Nat) (hw0 : w0.heap[0]? = some (.cells [.int .i64 6, .int .i64 14, .int .i64 30, .int .i64 62].toArray WT WF)) (hb : Bs w0 (.slice q 0 qc) []) : Calls Tryd.prog 4 #[.slice q 0 qc, .int .i64 ids] w0 fun e w' => e = .returned (.bool true) ∧ Ext w0 w' := by
  refine enter Tryd.func4 rfl rfl rfl ?_
  intro a hS
  have hH := Hp.start w0 (Nobody)
  have hlt0 := lt_of_block hw0
  replace hH := hH.know hw0 (fun p hp => by simp at hp)
  refine c_seq ?_
  refine reg_plain w0 (Nobody) ?_
  refine r_assign hS hH.kp0 rfl rfl ?_; clear hS; intro a hS
  refine Sq.nil ?_
  refine then_n ?_
  refine c_seq ?_
  refine reg_plain w0 (Nobody) ?_
  refine r_buildSlice0 hS hH (by repeat (first | exact Sub.nil | refine Sub.cons ?_ ?_ | exact In.here | refine In.there ?_)) Fc.uls22 Fc.inf5 rfl ?_
  clear hS hH; intro a w bz hbz hwbz hS hH
  refine r_move hS hH.kp0 rfl rfl ?_; clear hS; intro a hS
  refine r_appB (l := []) ([]) ([]) hS hH rfl rfl (by first | exact .here | exact .there .here | exact .there (.there .here) | exact .there (.there (.there .here)) | exact .there (.there (.there (.there .here))) | exact .there (.there (.there (.there (.there .here)))) | exact .there (.there (.there (.there (.there (.there .here))))) | exact .there (.there (.there (.there (.there (.there (.there .here)))))) | exact .there (.there (.there (.there (.there (.there (.there (.there .here))))))) | exact .there (.there (.there (.there (.there (.there (.there (.there (.there .here)))))))) | exact .there (.there (.there (.there (.there (.there (.there (.there (.there (.there .here))))))))) | exact .there (.there (.there (.there (.there (.there (.there (.there (.there (.there (.there .here)))))))))) | exact .there (.there (.there (.there (.there (.there (.there (.there (.there (.there (.there (.there .here))))))))))) | exact .there (.there (.there (.there (.there (.there (.there (.there (.there (.there (.there (.there (.there .here)))))))))))) | exact .there (.there (.there (.there (.there (.there (.there (.there (.there (.there (.there (.there (.there (.there .here))))))))))))) | exact .there (.there (.there (.there (.there (.there (.there (.there (.there (.there (.there (.there (.there (.there (.there .here))))))))))))))) (by repeat (first | exact Sub.nil | refine Sub.cons ?_ ?_ | exact In.here | refine In.there ?_)) Fc.el22 Fc.ni22 BB.nil (hb.ext hH.mod) (by first | omega | (simp only [List.length_append, List.length_nil, List.length_take, List.length_drop]; omega)) (by assumption) rfl ?_
  clear hS hH; intro a w b1 c1 k1 hw1 hB1 hS hH
  refine r_buildSlice (parts := [(0, .const (.int .u8 90))]) hS hH (by repeat (first | exact Sub.nil | refine Sub.cons ?_ ?_ | exact In.here | refine In.there ?_)) rfl Fc.bsl22_1 (by rfl) rfl ?_
  clear hS hH; intro a w bl hbl hwbl hS hH
  refine r_appB (l := k1) ([] ++ []) ([90]) hS hH rfl rfl (by first | exact .here | exact .there .here | exact .there (.there .here) | exact .there (.there (.there .here)) | exact .there (.there (.there (.there .here))) | exact .there (.there (.there (.there (.there .here)))) | exact .there (.there (.there (.there (.there (.there .here))))) | exact .there (.there (.there (.there (.there (.there (.there .here)))))) | exact .there (.there (.there (.there (.there (.there (.there (.there .here))))))) | exact .there (.there (.there (.there (.there (.there (.there (.there (.there .here)))))))) | exact .there (.there (.there (.there (.there (.there (.there (.there (.there (.there .here))))))))) | exact .there (.there (.there (.there (.there (.there (.there (.there (.there (.there (.there .here)))))))))) | exact .there (.there (.there (.there (.there (.there (.there (.there (.there (.there (.there (.there .here))))))))))) | exact .there (.there (.there (.there (.there (.there (.there (.there (.there (.there (.there (.there (.there .here)))))))))))) | exact .there (.there (.there (.there (.there (.there (.there (.there (.there (.there (.there (.there (.there (.there .here))))))))))))) | exact .there (.there (.there (.there (.there (.there (.there (.there (.there (.there (.there (.there (.there (.there (.there .here))))))))))))))) (by repeat (first | exact Sub.nil | refine Sub.cons ?_ ?_ | exact In.here | refine In.there ?_)) Fc.el22 Fc.ni22 hB1 ((BB.lit [90] rfl rfl).bs (hH.get (b := bl) (by repeat (first | exact In.here | refine In.there ?_)))) (by decide) (by assumption) rfl ?_
  clear hS hH; intro a w b2 c2 k2 hw2 hB2 hS hH
  refine r_assign hS hH.kp0 rfl rfl ?_; clear hS; intro a hS
  refine Sq.nil ?_
  refine then_n ?_
  refine c_seq ?_
  refine reg_plain w0 (Nobody) ?_
  refine r_move hS hH.kp0 rfl rfl ?_; clear hS; intro a hS
  refine r_move hS hH.kp0 rfl rfl ?_; clear hS; intro a hS
  refine r_lenSl hS hH.kp0 rfl Fc.isSlice22 rfl ?_; clear hS; intro a hS
  refine r_slHi (hh := 0) hS hH.kp0 rfl rfl Fc.slb22 rfl (Nat.zero_le _) (by intro q h; cases h; rfl) rfl ?_; clear hS; intro a hS
  refine r_move hS hH.kp0 rfl rfl ?_; clear hS; intro a hS
  refine r_call (l := [.tmp 18, .tmp 19]) hS rfl rfl Fc.fn9 rfl ?_
  refine Calls.mono (Split_empty _ _ ids _ (by have h := Bs.row (o := 0) (u := []) (cap := c2) (hH.get (b := b2) (by repeat (first | exact In.here | refine In.there ?_))) rfl (Nat.zero_le _); exact h)) ?_
  rintro e w1 ⟨rfl, hE⟩
  replace hH := hH.ext hE
  refine ⟨_, rfl, hH.kp0, ?_⟩
  clear hS; intro a hS
  refine r_assign hS hH.kp0 rfl rfl ?_; clear hS; intro a hS
  refine Sq.nil ?_
  refine then_n ?_
  refine c_seq ?_
  refine reg_plain w0 (Nobody) ?_
  refine r_move hS hH.kp0 rfl rfl ?_; clear hS; intro a hS
  refine r_move hS hH.kp0 rfl rfl ?_; clear hS; intro a hS
  refine r_lenSl hS hH.kp0 rfl Fc.isSlice22 rfl ?_; clear hS; intro a hS
  refine r_slHi (hh := 0) hS hH.kp0 rfl rfl Fc.slb22 rfl (Nat.zero_le _) (by intro q h; cases h; rfl) rfl ?_; clear hS; intro a hS
  refine r_move hS hH.kp0 rfl rfl ?_; clear hS; intro a hS
  refine r_call (l := [.tmp 24, .tmp 25]) hS rfl rfl Fc.fn9 rfl ?_
  refine Calls.mono (Split_empty _ _ ids _ (by have h := Bs.row (o := 0) (u := []) (cap := c2) (hH.get (b := b2) (by repeat (first | exact In.here | refine In.there ?_))) rfl (Nat.zero_le _); exact h)) ?_
  rintro e w1 ⟨rfl, hE⟩
  replace hH := hH.ext hE
  refine ⟨_, rfl, hH.kp0, ?_⟩
  clear hS; intro a hS
  refine r_assign hS hH.kp0 rfl rfl ?_; clear hS; intro a hS
  refine Sq.nil ?_
  refine then_n ?_
  refine c_seq ?_
  refine reg_plain w0 (Nobody) ?_
  refine r_move hS hH.kp0 rfl rfl ?_; clear hS; intro a hS
  refine r_move hS hH.kp0 rfl rfl ?_; clear hS; intro a hS
  refine r_call (l := [.tmp 27, .tmp 28]) hS rfl rfl Fc.fn10 rfl ?_
  refine Calls.mono (splitR_empty _ _ ids _) ?_
  rintro e w1 ⟨rfl, hE⟩
  replace hH := hH.ext hE
  refine ⟨_, rfl, hH.kp0, ?_⟩
  clear hS; intro a hS
  refine r_assign hS hH.kp0 rfl rfl ?_; clear hS; intro a hS
  refine Sq.nil ?_
  refine then_n ?_
  refine c_seq ?_
  refine c_seq ?_
  refine reg_plain w0 (Nobody) ?_
  refine r_move hS hH.kp0 rfl rfl ?_; clear hS; intro a hS
  refine r_lenSl hS hH.kp0 rfl Fc.isSlice32 rfl ?_; clear hS; intro a hS
  refine r_move hS hH.kp0 rfl rfl ?_; clear hS; intro a hS
  refine r_lenSl hS hH.kp0 rfl Fc.isSlice32 rfl ?_; clear hS; intro a hS
  refine r_neq hS hH.kp0 rfl rfl rfl ?_; clear hS; intro a hS
  refine r_move hS hH.kp0 rfl rfl ?_; clear hS; intro a hS
  refine Sq.guardYes hS rfl rfl rfl ?_
  refine r_move hS hH.kp0 rfl rfl ?_; clear hS; intro a hS
  refine Sq.guardYes hS rfl rfl rfl ?_
  refine r_lenSl hS hH.kp0 rfl Fc.isSlice32 rfl ?_; clear hS; intro a hS
  refine Sq.guardYes hS rfl rfl rfl ?_
  refine r_move hS hH.kp0 rfl rfl ?_; clear hS; intro a hS
  refine Sq.guardYes hS rfl rfl rfl ?_
  refine r_lenSl hS hH.kp0 rfl Fc.isSlice32 rfl ?_; clear hS; intro a hS
  refine Sq.guardYes hS rfl rfl rfl ?_
  refine r_neq hS hH.kp0 rfl rfl rfl ?_; clear hS; intro a hS
  refine r_pickF hS hH.kp0 rfl rfl rfl rfl ?_; clear hS; intro a hS
  refine Sq.nil ?_
  refine then_n ?_
  refine c_condF hS rfl rfl ?_
  refine wp_skip ?_
  refine then_n ?_
  refine c_seq ?_
  refine c_seq ?_
  refine reg_plain w0 (Nobody) ?_
  refine r_assign hS hH.kp0 rfl rfl ?_; clear hS; intro a hS
  refine Sq.nil ?_
  refine then_n ?_
  refine wp_block ?_
  refine wp_loop_rounds 1 ?_
  refine rnd ?_
  refine c_seq ?_
  refine c_seq ?_
  refine reg_plain w0 (Nobody) ?_
  refine r_move hS hH.kp0 rfl rfl ?_; clear hS; intro a hS
  refine r_move hS hH.kp0 rfl rfl ?_; clear hS; intro a hS
  refine r_lenSl hS hH.kp0 rfl Fc.isSlice32 rfl ?_; clear hS; intro a hS
  refine r_lss hS hH.kp0 rfl rfl rfl ?_; clear hS; intro a hS
  refine Sq.nil ?_
  refine then_n ?_
  refine c_condF hS rfl rfl ?_
  refine wp_exit ?_
  refine then_e ?_
  refine then_e ?_
  refine blk_hit ?_
  refine then_n ?_
  refine c_seq ?_
  refine reg_plain w0 (Nobody) ?_
  refine r_move hS hH.kp0 rfl rfl ?_; clear hS; intro a hS
  refine r_bytesStr (l := [90]) hS hH.kp0 rfl (hB2.bs (hH.get (b := b2) (by repeat (first | exact In.here | refine In.there ?_)))) Fc.u8s22 Fc.isStr9 rfl ?_; clear hS; intro a hS
  refine r_move hS hH.kp0 rfl rfl ?_; clear hS; intro a hS
  refine r_bytesStr (l := []) hS hH.kp0 rfl (hb.ext hH.mod) Fc.u8s22 Fc.isStr9 rfl ?_; clear hS; intro a hS
  refine r_strAdd (u := []) (v := [90]) hS hH.kp0 rfl rfl rfl (by decide) ?_; clear hS; intro a hS
  refine r_strEql hS hH.kp0 rfl rfl rfl ?_; clear hS; intro a hS
  have h9s : ((strOf [90]).toList == (strOf ([] ++ [90])).toList) = true := beq_self_eq_true _
  rw [h9s] at hS
  refine r_assign hS hH.kp0 rfl rfl ?_; clear hS; intro a hS
  refine Sq.nil ?_
  refine then_n ?_
  refine wp_ret ?_
  exact leave (.inl rfl) hS rfl (Res.tmp rfl Res.nil) ⟨rfl, hH.mod⟩


theorem splits_law (q : Option Addr) (qc : Nat) (l : List UInt8) (hl : l.length ≤ 1048576) (ids : Int) (w0 : World) (WT : TypeId) (WF : Nat × Nat) (hw0 : w0.heap[0]? = some (.cells [.int .i64 6, .int .i64 14, .int .i64 30, .int .i64 62].toArray WT WF)) (hb : Bs w0 (.slice q l.length qc) l) : Calls Tryd.prog 4 #[.slice q l.length qc, .int .i64 ids] w0 fun e w' => e = .returned (.bool true) ∧ Ext w0 w' := by
  cases l with
  | nil => exact splits_nil q qc ids w0 WT WF hw0 hb
  | cons x t =>
    obtain ⟨ba, bo, rfl⟩ := hb.f.addr (by simp)
    exact splits_some ba bo qc (x :: t) hl (by simp) ids w0 WT WF hw0 hb

end Go.Proofs.YtcenionnedgadaaDoor
