/- For every input of bulk at most 1048576 the law HelloPuts returns true and the input reads as it did. Part Hello4: walks and lemmas of the proof. -/
import Derived.Test.YtcenionnedgadaaHello6
namespace Go.Proofs.Ytcenionnedgadaa
open Go.Sym

theorem Fc.fn23 : isFn Try.prog 23 = true := by kernel_rfl
theorem Fc.fn24 : isFn Try.prog 24 = true := by kernel_rfl
theorem Fc.fn25 : isFn Try.prog 25 = true := by kernel_rfl
theorem Fc.fo34_1 : foff Try.prog 34 1 = some 1 := by kernel_rfl
theorem Fc.fo34_2 : foff Try.prog 34 2 = some 17 := by kernel_rfl
set_option maxRecDepth 100000 in
set_option maxHeartbeats 400000 in
theorem short_nil (s : ByteArray) (hs : s.size ≤ 1099511627776) (w0 : World) : Calls Try.prog 23 #[.slice none 0 0, .string s] w0 fun e w' => ∃ (b' c' : Nat) (k' : List Value), e = .returned (.slice (some ⟨b', 0, none⟩) ([UInt8.ofNat s.size] ++ s.data.toList).length c') ∧ w0.heap.size ≤ b' ∧ w'.heap[b']? = some (.cells k'.toArray 5 (0, 0)) ∧ BB c' k' ([UInt8.ofNat s.size] ++ s.data.toList) ∧ Ext w0 w' := by
  refine enter Try.func23 rfl rfl rfl ?_
  intro a hS
  have hH := Hp.start w0 (Nobody)
  refine c_seq ?_
  refine reg_plain w0 (Nobody) ?_
  refine r_assign hS hH.kp0 rfl rfl ?_; clear hS; intro a hS
  refine Sq.nil ?_
  refine then_n ?_
  refine c_seq ?_
  refine reg_plain w0 (Nobody) ?_
  refine r_move hS hH.kp0 rfl rfl ?_; clear hS; intro a hS
  refine r_move hS hH.kp0 rfl rfl ?_; clear hS; intro a hS
  refine r_lenStr hS hH.kp0 rfl Fc.isStr9 rfl ?_; clear hS; intro a hS
  refine r_toU8 (q := s.size) (UInt8.ofNat (s.size)) hS hH.kp0 rfl Fc.ui5 Fc.us3 rfl rfl ?_; clear hS; intro a hS
  refine r_buildSlice (parts := [(0, .tmp 8)]) hS hH (by repeat (first | exact Sub.nil | refine Sub.cons ?_ ?_ | exact In.here | refine In.there ?_)) rfl Fc.bsl25_1 (by rfl) rfl ?_
  clear hS hH; intro a w b9 hb9 hwb9 hS hH
  refine r_append_nil hS hH (by repeat (first | exact Sub.nil | refine Sub.cons ?_ ?_ | exact In.here | refine In.there ?_)) rfl rfl Fc.el25 Fc.ni25 (((BB.lit [UInt8.ofNat s.size] rfl rfl).bs (hH.get (b := b9) (by repeat (first | exact In.here | refine In.there ?_))))).src (by simp) (by simp) rfl ?_
  clear hS hH; intro a w bp cp kp hwp hwwp hlp hmp htkp hExp hS hH
  have hBp : BB cp kp ([UInt8.ofNat s.size]) := ⟨by rw [hlp, Nat.mul_one], hmp, by rw [Nat.mul_one] at htkp; exact htkp⟩
  rw [show ([UInt8.ofNat s.size] : List UInt8).length = ([UInt8.ofNat s.size]).length from by simp] at hS
  refine r_move hS hH.kp0 rfl rfl ?_; clear hS; intro a hS
  refine r_append_own hS hH rfl rfl (by repeat (first | exact .here | apply In.there | apply Put.there | apply Del.there)) (by repeat (first | exact Sub.nil | refine Sub.cons ?_ ?_ | exact In.here | refine In.there ?_)) Fc.el25 Fc.ni9 (by rw [hBp.len, Nat.mul_one]) hBp.le (src_string s) (by simp only [List.length_append, List.length_cons, List.length_nil]; omega) (.inr hwp) rfl ?_
  clear hS hH; intro a w bz cz kz hobz hlz hcz htz hmz hS hH
  have hez : ([UInt8.ofNat s.size]).length + s.size = ([UInt8.ofNat s.size] ++ s.data.toList).length := (show ([UInt8.ofNat s.size]).length + (s.data.toList).length = ([UInt8.ofNat s.size] ++ s.data.toList).length from List.length_append.symm)
  have hBz : BB cz kz ([UInt8.ofNat s.size] ++ s.data.toList) := ⟨by rw [hlz, Nat.mul_one], by rw [← hez]; exact hcz, by rw [← hez]; rw [Nat.mul_one, Nat.mul_one] at htz; rw [htz, hBp.take]; exact List.map_append.symm⟩
  rw [hez] at hS
  refine r_assign hS hH.kp0 rfl rfl ?_; clear hS; intro a hS
  refine Sq.nil ?_
  refine then_n ?_
  refine wp_ret ?_
  exact leave (.inl rfl) hS rfl (Res.tmp rfl Res.nil) ⟨bz, cz, kz, rfl, hobz.resolve_left (fun h => h), hH.get (b := bz) (by repeat (first | exact In.here | refine In.there ?_)), hBz, hH.mod⟩

set_option maxRecDepth 100000 in
set_option maxHeartbeats 8000000 in
theorem dbody_1ff (q1 q2 q3 : Option Addr) (c1 c2 c3 : Nat) (rnd shr bnd mrk : List UInt8) (name : ByteArray) (ptl : List ByteArray) (prm tck : List UInt8) (ea ag : Bool) (li : Int) (hrnd : rnd.length = 16) (hshr : shr.length = 16) (hbnd : bnd.length = 16) (hmrk : mrk.length = 16) (hnm : name.size ≤ 255) (hpl : ptl.length ≤ 8) (hod : oddN ptl = 0) (hpr : prm.length ≤ 4096) (htk : tck.length ≤ 512) (htk0 : tck.length = 0) (hea : ea = false) (w0 : World) (hpl : ptl.length ≤ 1048576) (hpt : SsA w0 q1 c1 ptl) (hbP : BsF Nobody w0 (.slice q2 prm.length c2) prm) (hbT : BsF Nobody w0 (.slice q3 tck.length c3) tck) : Calls Try.prog 17 #[.agg ([.int .i64 1] ++ hcells rnd ++ hcells shr ++ [.string name, .slice q1 ptl.length c1, .slice q2 prm.length c2, .slice q3 tck.length c3] ++ hcells bnd ++ [.bool ea, .bool ag] ++ hcells mrk ++ [.int .i64 li] : List Value).toArray] w0 fun e w' => ∃ (b' c' : Nat) (k' : List Value), e = .returned (.slice (some ⟨b', 0, none⟩) (bodyB 1 rnd shr name ptl prm tck bnd ea ag mrk li).length c') ∧ w0.heap.size ≤ b' ∧ w'.heap[b']? = some (.cells k'.toArray 5 (0, 0)) ∧ BB c' k' (bodyB 1 rnd shr name ptl prm tck bnd ea ag mrk li) ∧ Ext w0 w' := by
  refine enter Try.func17 rfl rfl rfl ?_
  intro a hS
  have hH := Hp.start w0 (Nobody)
  subst hea
  obtain ⟨r0, r1, r2, r3, r4, r5, r6, r7, r8, r9, ra, rb, rc, rd, re, rf, rfl⟩ := len16 hrnd
  obtain ⟨s0, s1, s2, s3, s4, s5, s6, s7, s8, s9, sa, sb, sc, sd, se, sf, rfl⟩ := len16 hshr
  obtain ⟨n0, n1, n2, n3, n4, n5, n6, n7, n8, n9, na, nb, nc, nd, ne, nf, rfl⟩ := len16 hbnd
  obtain ⟨m0, m1, m2, m3, m4, m5, m6, m7, m8, m9, ma, mb, mc, md, me, mf, rfl⟩ := len16 hmrk
  have hnl : name.data.toList.length = name.size := by rw [Array.length_toList]; rfl
  have hodj : ∀ {k : Nat} (hk : k < ptl.length), 1 ≤ ptl[k].size ∧ ptl[k].size ≤ 255 := fun hk => oddN_zero hk hod
  refine c_seq ?_
  refine reg_plain w0 (Nobody) ?_
  refine r_box hS hH (by repeat (first | exact Sub.nil | refine Sub.cons ?_ ?_ | exact In.here | refine In.there ?_)) rfl rfl rfl ?_
  clear hS hH; intro a w b1 hb1 hwb1 hS hH
  refine r_assign hS hH.kp0 rfl rfl ?_; clear hS; intro a hS
  refine Sq.nil ?_
  refine then_n ?_
  refine c_seq ?_
  refine reg_plain w0 (Nobody) ?_
  refine r_assign hS hH.kp0 rfl rfl ?_; clear hS; intro a hS
  refine Sq.nil ?_
  refine then_n ?_
  refine c_seq ?_
  refine c_seq ?_
  refine reg_plain w0 (Nobody) ?_
  refine r_fieldAddr hS hH.kp0 rfl Fc.fo34_0 rfl ?_; clear hS; intro a hS
  refine r_load_sc hS hH (by repeat (first | exact Sub.nil | refine Sub.cons ?_ ?_ | exact In.here | refine In.there ?_)) rfl (by repeat (first | exact In.here | refine In.there ?_)) Fc.sc3 (by rfl) rfl ?_; clear hS; intro a hS
  refine Sq.nil ?_
  refine then_n ?_
  refine wp_block ?_
  refine c_seq ?_
  refine reg_plain w0 (Nobody) ?_
  refine r_eql hS hH.kp0 rfl rfl rfl ?_; clear hS; intro a hS
  refine r_assign hS hH.kp0 rfl rfl ?_; clear hS; intro a hS
  refine Sq.nil ?_
  refine then_n ?_
  refine c_condT hS rfl rfl ?_
  refine c_seq ?_
  refine reg_draw [(true, 0, []), (true, 1, []), (true, 2, []), (true, 4, []), (true, 5, []), (false, 3, []), (false, 6, []), (true, 7, [])] Fc.mixed (by kernel_rfl) (by kernel_rfl) (by kernel_rfl) (by kernel_rfl) (by kernel_rfl) (by repeat (first | with_reducible exact steady_body | with_reducible apply steady_block | with_reducible apply steady_then | with_reducible apply steady_scope | exact steady_body)) hH ?_
  replace hH := hH.drew
  refine r_move hS trivial rfl rfl ?_; clear hS; intro a hS
  refine r_fieldAddr hS trivial rfl Fc.fo34_1 rfl ?_; clear hS; intro a hS
  refine r_slArr hS trivial rfl Fc.ar22 rfl ?_; clear hS; intro a hS
  refine r_fieldAddr hS trivial rfl Fc.fo34_2 rfl ?_; clear hS; intro a hS
  refine r_slArr hS trivial rfl Fc.ar22 rfl ?_; clear hS; intro a hS
  refine r_append_nil hS hH (by repeat (first | exact Sub.nil | refine Sub.cons ?_ ?_ | exact In.here | refine In.there ?_)) rfl rfl Fc.el25 Fc.ni25 ((Bs.row (o := 0 + 1) (u := [r0, r1, r2, r3, r4, r5, r6, r7, r8, r9, ra, rb, rc, rd, re, rf]) (cap := 16) (hH.get (b := b1) (by repeat (first | exact In.here | refine In.there ?_))) rfl (Nat.le_refl 16))).src (by simp) (by simp) rfl ?_
  clear hS hH; intro a w by1 cy1 ky1 hwy1 hwwy1 hly1 hmy1 htky1 hExy1 hS hH
  have hBy1 : BB cy1 ky1 ([r0, r1, r2, r3, r4, r5, r6, r7, r8, r9, ra, rb, rc, rd, re, rf]) := ⟨by rw [hly1, Nat.mul_one], hmy1, by rw [Nat.mul_one] at htky1; exact htky1⟩
  rw [show ([r0, r1, r2, r3, r4, r5, r6, r7, r8, r9, ra, rb, rc, rd, re, rf] : List UInt8).length = ([r0, r1, r2, r3, r4, r5, r6, r7, r8, r9, ra, rb, rc, rd, re, rf]).length from by simp] at hS
  have hoby1 : Nobody by1 ∨ w0.heap.size ≤ by1 := .inr hwy1
  refine r_append_own hS hH rfl rfl (by repeat (first | exact .here | apply In.there | apply Put.there | apply Del.there)) (by repeat (first | exact Sub.nil | refine Sub.cons ?_ ?_ | exact In.here | refine In.there ?_)) Fc.el25 Fc.ni25 (by rw [hBy1.len, Nat.mul_one]) hBy1.le (Bs.row (o := 0 + 17) (u := [s0, s1, s2, s3, s4, s5, s6, s7, s8, s9, sa, sb, sc, sd, se, sf]) (cap := 16) (hH.get (b := b1) (by repeat (first | exact In.here | refine In.there ?_))) rfl (Nat.le_refl 16)).src (by first | omega | (simp only [List.length_append, List.length_cons, List.length_nil]; omega)) hoby1 rfl ?_
  clear hS hH; intro a w by2 cy2 ky2 hoby2 hly2 hcy2 hty2 hmy2 hS hH
  have hey2 : ([r0, r1, r2, r3, r4, r5, r6, r7, r8, r9, ra, rb, rc, rd, re, rf]).length + ([s0, s1, s2, s3, s4, s5, s6, s7, s8, s9, sa, sb, sc, sd, se, sf]).length = ([r0, r1, r2, r3, r4, r5, r6, r7, r8, r9, ra, rb, rc, rd, re, rf] ++ [s0, s1, s2, s3, s4, s5, s6, s7, s8, s9, sa, sb, sc, sd, se, sf]).length := (show ([r0, r1, r2, r3, r4, r5, r6, r7, r8, r9, ra, rb, rc, rd, re, rf]).length + ([s0, s1, s2, s3, s4, s5, s6, s7, s8, s9, sa, sb, sc, sd, se, sf]).length = ([r0, r1, r2, r3, r4, r5, r6, r7, r8, r9, ra, rb, rc, rd, re, rf] ++ [s0, s1, s2, s3, s4, s5, s6, s7, s8, s9, sa, sb, sc, sd, se, sf]).length from List.length_append.symm)
  have hBy2 : BB cy2 ky2 ([r0, r1, r2, r3, r4, r5, r6, r7, r8, r9, ra, rb, rc, rd, re, rf] ++ [s0, s1, s2, s3, s4, s5, s6, s7, s8, s9, sa, sb, sc, sd, se, sf]) := ⟨by rw [hly2, Nat.mul_one], by rw [← hey2]; exact hcy2, by rw [← hey2]; rw [Nat.mul_one, Nat.mul_one] at hty2; rw [hty2, hBy1.take]; exact List.map_append.symm⟩
  rw [hey2] at hS
  refine r_assign hS trivial rfl rfl ?_; clear hS; intro a hS
  refine Sq.nil ?_
  refine then_n ?_
  refine c_seq ?_
  refine reg_tree [(true, 0, [0]), (true, 1, [0]), (true, 2, [0]), (false, 3, [0]), (true, 4, [0]), (true, 5, [0]), (true, 6, [0]), (true, 7, [0]), (false, 8, [0]), (false, 9, [0]), (true, 10, [0])] (PT.ofPlan [(true, 0, [0]), (true, 1, [0]), (true, 2, [0]), (true, 4, [0]), (true, 5, [0]), (true, 6, [0]), (true, 7, [0])] (.fork (PT.ofPlan [(false, 3, [0]), (false, 8, [0]), (false, 9, [0]), (true, 10, [0])] .nil) (PT.ofPlan [(false, 8, [0]), (false, 3, [0]), (false, 9, [0]), (true, 10, [0])] .nil))) Fc.mixed (by kernel_rfl) (by kernel_rfl) (by kernel_rfl) (by kernel_rfl) (by kernel_rfl) (by kernel_rfl) (by repeat (first | with_reducible exact steady_body | with_reducible apply steady_block | with_reducible apply steady_then | with_reducible apply steady_scope | exact steady_body)) hH ?_
  replace hH := hH.drew
  refine tr_seg ?_
  refine r_move hS trivial rfl rfl ?_; clear hS; intro a hS
  refine r_fieldAddr hS trivial rfl Fc.fo34_3 rfl ?_; clear hS; intro a hS
  refine r_load_scS hS rfl (by repeat (first | exact In.here | refine In.there ?_)) Fc.sc9 (by rfl) rfl ?_; clear hS; intro a hS
  refine r_fieldAddr hS trivial rfl Fc.fo34_4 rfl ?_; clear hS; intro a hS
  refine r_load_scS hS rfl (by repeat (first | exact In.here | refine In.there ?_)) Fc.sc24 (by rfl) rfl ?_; clear hS; intro a hS
  refine r_lenSl hS trivial rfl Fc.isSlice24 rfl ?_; clear hS; intro a hS
  refine r_toU8 (q := ptl.length) (UInt8.ofNat (ptl.length)) hS trivial rfl Fc.ui5 Fc.us3 rfl rfl ?_; clear hS; intro a hS
  refine Sq.nil ?_
  refine then_n ?_
  refine tr_fork ?_ ?_
  · refine tr_seg ?_
    refine r_call (l := [.tmp 16, .tmp 18]) hS rfl rfl Fc.fn23 rfl ?_
    refine Calls.mono ((short_some by2 cy2 ky2 ([r0, r1, r2, r3, r4, r5, r6, r7, r8, r9, ra, rb, rc, rd, re, rf] ++ [s0, s1, s2, s3, s4, s5, s6, s7, s8, s9, sa, sb, sc, sd, se, sf]) name (by first | omega | (simp only [List.length_append, List.length_cons, List.length_nil]; omega)) (by omega) _ (hH.get (b := by2) (by repeat (first | exact In.here | refine In.there ?_))) hBy2).mono (fun e w1 hP => hP)) ?_
    rintro e w1 hP
    obtain ⟨by3, cy3, ky3, rfl, hry3, hky3, hBy3, hmy3⟩ := hP
    have hBy3 : BB cy3 ky3 ([r0, r1, r2, r3, r4, r5, r6, r7, r8, r9, ra, rb, rc, rd, re, rf] ++ [s0, s1, s2, s3, s4, s5, s6, s7, s8, s9, sa, sb, sc, sd, se, sf] ++ [UInt8.ofNat name.size] ++ name.data.toList) := hBy3
    have hoby3 : Nobody by3 ∨ w0.heap.size ≤ by3 := hry3.elim (fun h => by rw [h]; exact hoby2) (fun h => .inr (Nat.le_trans hH.mod.size h))
    replace hH := hH.modNew hmy3 (by repeat (first | exact .here | apply In.there | apply Put.there | apply Del.there)) hoby2 hry3 hky3
    refine ⟨_, rfl, hH.kp (by repeat (first | exact Sub.nil | refine Sub.cons ?_ ?_ | exact In.here | refine In.there ?_)), ?_⟩
    clear hS; intro a hS
    refine r_buildSlice (parts := [(0, .tmp 23)]) hS hH (by repeat (first | exact Sub.nil | refine Sub.cons ?_ ?_ | exact In.here | refine In.there ?_)) rfl Fc.bsl25_1 (by rfl) rfl ?_
    clear hS hH; intro a w b24 hb24 hwb24 hS hH
    refine r_append_own hS hH rfl rfl (by repeat (first | exact .here | apply In.there | apply Put.there | apply Del.there)) (by repeat (first | exact Sub.nil | refine Sub.cons ?_ ?_ | exact In.here | refine In.there ?_)) Fc.el25 Fc.ni25 (by rw [hBy3.len, Nat.mul_one]) hBy3.le ((BB.lit [UInt8.ofNat ptl.length] rfl rfl).bs (hH.get (b := b24) (by repeat (first | exact In.here | refine In.there ?_)))).src (by first | omega | (simp only [List.length_append, List.length_cons, List.length_nil]; omega)) hoby3 rfl ?_
    clear hS hH; intro a w by4 cy4 ky4 hoby4 hly4 hcy4 hty4 hmy4 hS hH
    have hey4 : ([r0, r1, r2, r3, r4, r5, r6, r7, r8, r9, ra, rb, rc, rd, re, rf] ++ [s0, s1, s2, s3, s4, s5, s6, s7, s8, s9, sa, sb, sc, sd, se, sf] ++ [UInt8.ofNat name.size] ++ name.data.toList).length + ([UInt8.ofNat ptl.length]).length = ([r0, r1, r2, r3, r4, r5, r6, r7, r8, r9, ra, rb, rc, rd, re, rf] ++ [s0, s1, s2, s3, s4, s5, s6, s7, s8, s9, sa, sb, sc, sd, se, sf] ++ [UInt8.ofNat name.size] ++ name.data.toList ++ [UInt8.ofNat ptl.length]).length := (show ([r0, r1, r2, r3, r4, r5, r6, r7, r8, r9, ra, rb, rc, rd, re, rf] ++ [s0, s1, s2, s3, s4, s5, s6, s7, s8, s9, sa, sb, sc, sd, se, sf] ++ [UInt8.ofNat name.size] ++ name.data.toList).length + ([UInt8.ofNat ptl.length]).length = ([r0, r1, r2, r3, r4, r5, r6, r7, r8, r9, ra, rb, rc, rd, re, rf] ++ [s0, s1, s2, s3, s4, s5, s6, s7, s8, s9, sa, sb, sc, sd, se, sf] ++ [UInt8.ofNat name.size] ++ name.data.toList ++ [UInt8.ofNat ptl.length]).length from List.length_append.symm)
    have hBy4 : BB cy4 ky4 ([r0, r1, r2, r3, r4, r5, r6, r7, r8, r9, ra, rb, rc, rd, re, rf] ++ [s0, s1, s2, s3, s4, s5, s6, s7, s8, s9, sa, sb, sc, sd, se, sf] ++ [UInt8.ofNat name.size] ++ name.data.toList ++ [UInt8.ofNat ptl.length]) := ⟨by rw [hly4, Nat.mul_one], by rw [← hey4]; exact hcy4, by rw [← hey4]; rw [Nat.mul_one, Nat.mul_one] at hty4; rw [hty4, hBy3.take]; exact List.map_append.symm⟩
    rw [hey4] at hS
    refine r_assign hS trivial rfl rfl ?_; clear hS; intro a hS
    refine Sq.nil ?_
    refine then_n ?_
    refine tr_nil ?_
    refine then_n ?_
    refine c_seq ?_
    refine c_seq ?_
    obtain ⟨U, hU⟩ : ∃ U, U = ([r0, r1, r2, r3, r4, r5, r6, r7, r8, r9, ra, rb, rc, rd, re, rf] ++ [s0, s1, s2, s3, s4, s5, s6, s7, s8, s9, sa, sb, sc, sd, se, sf] ++ [UInt8.ofNat name.size] ++ name.data.toList ++ [UInt8.ofNat ptl.length]) := ⟨_, rfl⟩
    have hUl : U.length ≤ 300 := by rw [hU]; first | omega | (simp only [List.length_append, List.length_cons, List.length_nil]; omega)
    rw [← hU] at hS hBy4
    refine reg_plain w0 (Nobody) ?_
    refine r_assign hS hH.kp0 rfl rfl ?_; clear hS; intro a hS
    refine Sq.nil ?_
    refine then_n ?_
    refine wp_block ?_
    refine c_loop (fun m a w => ∃ (j : Nat) (i : Int) (by5 cy5 : Nat) (ky5 : List Value), m + j = ptl.length ∧ i = j ∧ w0.heap.size ≤ by5 ∧ BB cy5 ky5 (U ++ prsB (ptl.take j)) ∧ St 133 (lv [(1, .pointer (some ⟨b1, 0, none⟩)), (3, .slice (some ⟨by5, 0, none⟩) (U ++ prsB (ptl.take j)).length cy5), (4, .int .i64 i)]) a ∧ Hp w0 Nobody [(by5, .cells ky5.toArray 5 (0, 0)), (b1, .cells ([.int .i64 1] ++ hcells [r0, r1, r2, r3, r4, r5, r6, r7, r8, r9, ra, rb, rc, rd, re, rf] ++ hcells [s0, s1, s2, s3, s4, s5, s6, s7, s8, s9, sa, sb, sc, sd, se, sf] ++ [.string name, .slice q1 ptl.length c1, .slice q2 prm.length c2, .slice q3 tck.length c3] ++ hcells [n0, n1, n2, n3, n4, n5, n6, n7, n8, n9, na, nb, nc, nd, ne, nf] ++ [.bool false, .bool ag] ++ hcells [m0, m1, m2, m3, m4, m5, m6, m7, m8, m9, ma, mb, mc, md, me, mf] ++ [.int .i64 li] : List Value).toArray 34 (0, 0))] w) (ptl.length) ?_ ?_
    · refine ⟨0, _, by4, cy4, ky4, by omega, rfl, hoby4.resolve_left (fun h => h), by rw [List.take_zero, show prsB [] = [] from rfl, List.append_nil]; exact hBy4, ?_, hH.sub (by repeat (first | exact Sub.nil | refine Sub.cons ?_ ?_ | exact In.here | refine In.there ?_)) (by have nd := hH.nd; simp only [List.map_cons, List.map_nil, List.nodup_cons, List.mem_cons, List.not_mem_nil, or_false, not_or, List.nodup_nil, and_true, not_false_iff] at nd ⊢; omega)⟩
      rw [List.take_zero, show prsB [] = [] from rfl, List.append_nil]
      exact hS.live ⟨rfl, rfl, rfl, trivial⟩
    clear hS hH; intro m a w hI; obtain ⟨j, i, by5, cy5, ky5, hmj, hi, hwy5, hBy5, hS, hH⟩ := hI
    refine c_seq ?_
    refine c_seq ?_
    refine reg_plain w0 (Nobody) ?_
    refine r_move hS hH.kp0 rfl rfl ?_; clear hS; intro a hS
    refine r_fieldAddr hS hH.kp0 rfl Fc.fo34_4 rfl ?_; clear hS; intro a hS
    refine r_load_sc hS hH (by repeat (first | exact Sub.nil | refine Sub.cons ?_ ?_ | exact In.here | refine In.there ?_)) rfl (by repeat (first | exact In.here | refine In.there ?_)) Fc.sc24 (by rfl) rfl ?_; clear hS; intro a hS
    refine r_lenSl hS hH.kp0 rfl Fc.isSlice24 rfl ?_; clear hS; intro a hS
    refine r_lss hS hH.kp0 rfl rfl rfl ?_; clear hS; intro a hS
    refine Sq.nil ?_
    refine then_n ?_
    refine c_cond hS rfl (fun hc1 => ?_) (fun hc1 => ?_)
    · have hk : j < ptl.length := by have := of_decide_eq_true hc1; omega
      obtain ⟨ba, bo, hpq, hcell⟩ := (hpt.ext hH.mod).cell hk
      subst hpq
      have hpj := prsB_len _ (oddN_take j hod)
      have hpj2 : (ptl.take j).length ≤ 8 := by rw [List.length_take]; omega
      have hnj : ptl[j].data.toList.length = ptl[j].size := by rw [Array.length_toList]; rfl
      have hoby5 : Nobody by5 ∨ w0.heap.size ≤ by5 := .inr hwy5
      refine wp_skip ?_
      refine then_n ?_
      refine c_seq ?_
      refine wp_block ?_
      refine reg_plain w0 (Nobody) ?_
      refine r_move hS hH.kp0 rfl rfl ?_; clear hS; intro a hS
      refine r_fieldAddr hS hH.kp0 rfl Fc.fo34_4 rfl ?_; clear hS; intro a hS
      refine r_load_sc hS hH (by repeat (first | exact Sub.nil | refine Sub.cons ?_ ?_ | exact In.here | refine In.there ?_)) rfl (by repeat (first | exact In.here | refine In.there ?_)) Fc.sc24 (by rfl) rfl ?_; clear hS; intro a hS
      refine r_move hS hH.kp0 rfl rfl ?_; clear hS; intro a hS
      refine r_indexAddrS (j := j) hS hH.kp0 rfl rfl Fc.slb24 hi hk rfl ?_; clear hS; intro a hS
      refine r_load_cell hS hH.kp0 rfl hcell Fc.sc9 rfl ?_; clear hS; intro a hS
      refine r_call (l := [.tmp 33, .tmp 38]) hS rfl rfl Fc.fn23 rfl ?_
      refine Calls.mono ((short_some by5 cy5 ky5 (U ++ prsB (ptl.take j)) ptl[j] (by first | omega | (simp only [List.length_append, List.length_cons, List.length_nil]; omega)) (by have := hodj hk; omega) _ (hH.get (b := by5) (by repeat (first | exact In.here | refine In.there ?_))) hBy5).mono (fun e w1 hP => hP)) ?_
      rintro e w1 hP
      obtain ⟨by6, cy6, ky6, rfl, hry6, hky6, hBy6, hmy6⟩ := hP
      have hBy6 : BB cy6 ky6 (U ++ prsB (ptl.take j) ++ [UInt8.ofNat ptl[j].size] ++ ptl[j].data.toList) := hBy6
      have hoby6 : Nobody by6 ∨ w0.heap.size ≤ by6 := hry6.elim (fun h => by rw [h]; exact hoby5) (fun h => .inr (Nat.le_trans hH.mod.size h))
      replace hH := hH.modNew hmy6 (by repeat (first | exact .here | apply In.there | apply Put.there | apply Del.there)) hoby5 hry6 hky6
      refine ⟨_, rfl, hH.kp0, ?_⟩
      clear hS; intro a hS
      refine r_assign hS hH.kp0 rfl rfl ?_; clear hS; intro a hS
      refine Sq.nil ?_
      refine blk_n ?_
      refine then_n ?_
      refine reg_plain w0 (Nobody) ?_
      refine r_move hS hH.kp0 rfl rfl ?_; clear hS; intro a hS
      (first | refine r_add hS hH.kp0 rfl rfl rfl (by omega) ?_ | refine r_addw hS hH.kp0 rfl rfl rfl ?_)
      clear hS; intro a hS
      refine r_assign hS hH.kp0 rfl rfl ?_; clear hS; intro a hS
      refine Sq.nil ?_
      refine then_n ?_
      have hsx : U ++ prsB (ptl.take j) ++ [UInt8.ofNat ptl[j].size] ++ ptl[j].data.toList = U ++ prsB (ptl.take (j + 1)) := by rw [prsB_succ hk, beB1]; simp only [List.append_assoc]
      rw [hsx] at hBy6 hS
      refine ⟨m - 1, by omega, j + 1, _, by6, cy6, ky6, by omega, ?_, hoby6.resolve_left (fun h => h), hBy6, hS.live ⟨rfl, rfl, rfl, trivial⟩, hH.sub (by repeat (first | exact Sub.nil | refine Sub.cons ?_ ?_ | exact In.here | refine In.there ?_)) (by have nd := hH.nd; simp only [List.map_cons, List.map_nil, List.nodup_cons, List.mem_cons, List.not_mem_nil, or_false, not_or, List.nodup_nil, and_true, not_false_iff] at nd ⊢; omega)⟩
      omega
    · have hke : j = ptl.length := by have := of_decide_eq_false hc1; omega
      subst hke
      rw [List.take_of_length_le (Nat.le_refl _)] at hBy5 hS
      have hpj := prsB_len _ hod
      have hoby5 : Nobody by5 ∨ w0.heap.size ≤ by5 := .inr hwy5
      refine wp_exit ?_
      refine then_e ?_
      refine then_e ?_
      refine blk_hit ?_
      refine then_n ?_
      refine c_seq ?_
      refine reg_draw [(true, 0, [0]), (true, 1, [0]), (true, 2, [0]), (true, 4, [0]), (true, 5, [0]), (true, 6, [0]), (true, 7, [0]), (true, 8, [0]), (true, 9, [0]), (false, 3, [0]), (false, 10, [0]), (true, 11, [0])] Fc.mixed (by kernel_rfl) (by kernel_rfl) (by kernel_rfl) (by kernel_rfl) (by kernel_rfl) (by repeat (first | with_reducible exact steady_body | with_reducible apply steady_block | with_reducible apply steady_then | with_reducible apply steady_scope | exact steady_body)) hH ?_
      replace hH := hH.drew
      refine r_move hS trivial rfl rfl ?_; clear hS; intro a hS
      refine r_fieldAddr hS trivial rfl Fc.fo34_5 rfl ?_; clear hS; intro a hS
      refine r_load_scS hS rfl (by repeat (first | exact In.here | refine In.there ?_)) Fc.sc25 (by rfl) rfl ?_; clear hS; intro a hS
      refine r_fieldAddr hS trivial rfl Fc.fo34_6 rfl ?_; clear hS; intro a hS
      refine r_load_scS hS rfl (by repeat (first | exact In.here | refine In.there ?_)) Fc.sc25 (by rfl) rfl ?_; clear hS; intro a hS
      refine r_lenSl hS trivial rfl Fc.isSlice25 rfl ?_; clear hS; intro a hS
      refine r_gtr hS trivial rfl rfl rfl ?_; clear hS; intro a hS
      rw [show decide ((tck.length : Int) > 0) = false from DF (by omega)] at hS
      refine r_fieldAddr hS trivial rfl Fc.fo34_8 rfl ?_; clear hS; intro a hS
      refine r_load_scS hS rfl (by repeat (first | exact In.here | refine In.there ?_)) Fc.sc4 (by rfl) rfl ?_; clear hS; intro a hS
      refine r_call (l := [.tmp 40, .tmp 42]) hS rfl rfl Fc.fn25 rfl ?_
      refine Calls.mono ((long_some by5 cy5 ky5 (U ++ prsB ptl) q2 c2 prm (by first | omega | (simp only [List.length_append, List.length_cons, List.length_nil]; omega)) (by omega) _ (hH.get (b := by5) (by repeat (first | exact In.here | refine In.there ?_))) hBy5 (hbP.go hH.mod (fun x hx => .inr (by subst hx; exact hoby5.resolve_left (fun h => h))))).mono (fun e w1 hP => hP)) ?_
      rintro e w1 hP
      obtain ⟨by6, cy6, ky6, rfl, hry6, hky6, hBy6, hmy6⟩ := hP
      have hBy6 : BB cy6 ky6 (U ++ prsB ptl ++ [UInt8.ofNat (prm.length / 256), UInt8.ofNat prm.length] ++ prm) := hBy6
      have hoby6 : Nobody by6 ∨ w0.heap.size ≤ by6 := hry6.elim (fun h => by rw [h]; exact hoby5) (fun h => .inr (Nat.le_trans hH.mod.size h))
      replace hH := hH.modNew hmy6 (by repeat (first | exact .here | apply In.there | apply Put.there | apply Del.there)) hoby5 hry6 hky6
      refine ⟨_, rfl, hH.kp (by repeat (first | exact Sub.nil | refine Sub.cons ?_ ?_ | exact In.here | refine In.there ?_)), ?_⟩
      clear hS; intro a hS
      refine r_call (l := [.tmp 43, .tmp 47, .tmp 49]) hS rfl rfl Fc.fn24 rfl ?_
      refine Calls.mono ((flag_ff by6 cy6 ky6 (U ++ prsB ptl ++ [UInt8.ofNat (prm.length / 256), UInt8.ofNat prm.length] ++ prm) (by first | omega | (simp only [List.length_append, List.length_cons, List.length_nil]; omega)) _ (hH.get (b := by6) (by repeat (first | exact In.here | refine In.there ?_))) hBy6).mono (fun e w1 hP => hP)) ?_
      rintro e w1 hP
      obtain ⟨by7, cy7, ky7, rfl, hry7, hky7, hBy7, hmy7⟩ := hP
      have hBy7 : BB cy7 ky7 (U ++ prsB ptl ++ [UInt8.ofNat (prm.length / 256), UInt8.ofNat prm.length] ++ prm ++ [0]) := hBy7
      have hoby7 : Nobody by7 ∨ w0.heap.size ≤ by7 := hry7.elim (fun h => by rw [h]; exact hoby6) (fun h => .inr (Nat.le_trans hH.mod.size h))
      replace hH := hH.modNew hmy7 (by repeat (first | exact .here | apply In.there | apply Put.there | apply Del.there)) hoby6 hry7 hky7
      refine ⟨_, rfl, hH.kp (by repeat (first | exact Sub.nil | refine Sub.cons ?_ ?_ | exact In.here | refine In.there ?_)), ?_⟩
      clear hS; intro a hS
      refine r_assign hS trivial rfl rfl ?_; clear hS; intro a hS
      refine Sq.nil ?_
      refine then_n ?_
      refine c_seq ?_
      refine reg_plain w0 (Nobody) ?_
      refine r_fieldAddr hS hH.kp0 rfl Fc.fo34_6 rfl ?_; clear hS; intro a hS
      refine r_load_sc hS hH (by repeat (first | exact Sub.nil | refine Sub.cons ?_ ?_ | exact In.here | refine In.there ?_)) rfl (by repeat (first | exact In.here | refine In.there ?_)) Fc.sc25 (by rfl) rfl ?_; clear hS; intro a hS
      refine r_lenSl hS hH.kp0 rfl Fc.isSlice25 rfl ?_; clear hS; intro a hS
      refine r_gtr hS hH.kp0 rfl rfl rfl ?_; clear hS; intro a hS
      refine Sq.nil ?_
      refine then_n ?_
      refine c_condF hS rfl (DF (by omega)) ?_
      refine wp_skip ?_
      refine blk_n ?_
      refine then_n ?_
      refine c_seq ?_
      refine reg_plain w0 (Nobody) ?_
      refine r_move hS hH.kp0 rfl rfl ?_; clear hS; intro a hS
      refine r_assign hS hH.kp0 rfl rfl ?_; clear hS; intro a hS
      refine Sq.nil ?_
      refine then_n ?_
      refine wp_ret ?_
      have hfin : U ++ prsB ptl ++ [UInt8.ofNat (prm.length / 256), UInt8.ofNat prm.length] ++ prm ++ [0] = bodyB 1 [r0, r1, r2, r3, r4, r5, r6, r7, r8, r9, ra, rb, rc, rd, re, rf] [s0, s1, s2, s3, s4, s5, s6, s7, s8, s9, sa, sb, sc, sd, se, sf] name ptl prm tck [n0, n1, n2, n3, n4, n5, n6, n7, n8, n9, na, nb, nc, nd, ne, nf] false ag [m0, m1, m2, m3, m4, m5, m6, m7, m8, m9, ma, mb, mc, md, me, mf] li := by rw [hU]; unfold bodyB; rw [if_pos rfl]; simp [beB1, beB2, List.append_assoc, htk0]
      rw [hfin] at hS hBy7
      exact leave (.inl rfl) hS rfl (Res.tmp rfl Res.nil) ⟨by7, cy7, ky7, rfl, hoby7.resolve_left (fun h => h), hH.get (b := by7) (by repeat (first | exact In.here | refine In.there ?_)), hBy7, hH.mod⟩
  · refine tr_seg ?_
    refine r_buildSlice (parts := [(0, .tmp 23)]) hS hH (by repeat (first | exact Sub.nil | refine Sub.cons ?_ ?_ | exact In.here | refine In.there ?_)) rfl Fc.bsl25_1 (by rfl) rfl ?_
    clear hS hH; intro a w b24 hb24 hwb24 hS hH
    refine r_call (l := [.tmp 16, .tmp 18]) hS rfl rfl Fc.fn23 rfl ?_
    refine Calls.mono ((short_some by2 cy2 ky2 ([r0, r1, r2, r3, r4, r5, r6, r7, r8, r9, ra, rb, rc, rd, re, rf] ++ [s0, s1, s2, s3, s4, s5, s6, s7, s8, s9, sa, sb, sc, sd, se, sf]) name (by first | omega | (simp only [List.length_append, List.length_cons, List.length_nil]; omega)) (by omega) _ (hH.get (b := by2) (by repeat (first | exact In.here | refine In.there ?_))) hBy2).mono (fun e w1 hP => hP)) ?_
    rintro e w1 hP
    obtain ⟨by3, cy3, ky3, rfl, hry3, hky3, hBy3, hmy3⟩ := hP
    have hBy3 : BB cy3 ky3 ([r0, r1, r2, r3, r4, r5, r6, r7, r8, r9, ra, rb, rc, rd, re, rf] ++ [s0, s1, s2, s3, s4, s5, s6, s7, s8, s9, sa, sb, sc, sd, se, sf] ++ [UInt8.ofNat name.size] ++ name.data.toList) := hBy3
    have hoby3 : Nobody by3 ∨ w0.heap.size ≤ by3 := hry3.elim (fun h => by rw [h]; exact hoby2) (fun h => .inr (Nat.le_trans hH.mod.size h))
    replace hH := hH.modNew hmy3 (by repeat (first | exact .here | apply In.there | apply Put.there | apply Del.there)) hoby2 hry3 hky3
    refine ⟨_, rfl, hH.kp (by repeat (first | exact Sub.nil | refine Sub.cons ?_ ?_ | exact In.here | refine In.there ?_)), ?_⟩
    clear hS; intro a hS
    refine r_append_own hS hH rfl rfl (by repeat (first | exact .here | apply In.there | apply Put.there | apply Del.there)) (by repeat (first | exact Sub.nil | refine Sub.cons ?_ ?_ | exact In.here | refine In.there ?_)) Fc.el25 Fc.ni25 (by rw [hBy3.len, Nat.mul_one]) hBy3.le ((BB.lit [UInt8.ofNat ptl.length] rfl rfl).bs (hH.get (b := b24) (by repeat (first | exact In.here | refine In.there ?_)))).src (by first | omega | (simp only [List.length_append, List.length_cons, List.length_nil]; omega)) hoby3 rfl ?_
    clear hS hH; intro a w by4 cy4 ky4 hoby4 hly4 hcy4 hty4 hmy4 hS hH
    have hey4 : ([r0, r1, r2, r3, r4, r5, r6, r7, r8, r9, ra, rb, rc, rd, re, rf] ++ [s0, s1, s2, s3, s4, s5, s6, s7, s8, s9, sa, sb, sc, sd, se, sf] ++ [UInt8.ofNat name.size] ++ name.data.toList).length + ([UInt8.ofNat ptl.length]).length = ([r0, r1, r2, r3, r4, r5, r6, r7, r8, r9, ra, rb, rc, rd, re, rf] ++ [s0, s1, s2, s3, s4, s5, s6, s7, s8, s9, sa, sb, sc, sd, se, sf] ++ [UInt8.ofNat name.size] ++ name.data.toList ++ [UInt8.ofNat ptl.length]).length := (show ([r0, r1, r2, r3, r4, r5, r6, r7, r8, r9, ra, rb, rc, rd, re, rf] ++ [s0, s1, s2, s3, s4, s5, s6, s7, s8, s9, sa, sb, sc, sd, se, sf] ++ [UInt8.ofNat name.size] ++ name.data.toList).length + ([UInt8.ofNat ptl.length]).length = ([r0, r1, r2, r3, r4, r5, r6, r7, r8, r9, ra, rb, rc, rd, re, rf] ++ [s0, s1, s2, s3, s4, s5, s6, s7, s8, s9, sa, sb, sc, sd, se, sf] ++ [UInt8.ofNat name.size] ++ name.data.toList ++ [UInt8.ofNat ptl.length]).length from List.length_append.symm)
    have hBy4 : BB cy4 ky4 ([r0, r1, r2, r3, r4, r5, r6, r7, r8, r9, ra, rb, rc, rd, re, rf] ++ [s0, s1, s2, s3, s4, s5, s6, s7, s8, s9, sa, sb, sc, sd, se, sf] ++ [UInt8.ofNat name.size] ++ name.data.toList ++ [UInt8.ofNat ptl.length]) := ⟨by rw [hly4, Nat.mul_one], by rw [← hey4]; exact hcy4, by rw [← hey4]; rw [Nat.mul_one, Nat.mul_one] at hty4; rw [hty4, hBy3.take]; exact List.map_append.symm⟩
    rw [hey4] at hS
    refine r_assign hS trivial rfl rfl ?_; clear hS; intro a hS
    refine Sq.nil ?_
    refine then_n ?_
    refine tr_nil ?_
    refine then_n ?_
    refine c_seq ?_
    refine c_seq ?_
    obtain ⟨U, hU⟩ : ∃ U, U = ([r0, r1, r2, r3, r4, r5, r6, r7, r8, r9, ra, rb, rc, rd, re, rf] ++ [s0, s1, s2, s3, s4, s5, s6, s7, s8, s9, sa, sb, sc, sd, se, sf] ++ [UInt8.ofNat name.size] ++ name.data.toList ++ [UInt8.ofNat ptl.length]) := ⟨_, rfl⟩
    have hUl : U.length ≤ 300 := by rw [hU]; first | omega | (simp only [List.length_append, List.length_cons, List.length_nil]; omega)
    rw [← hU] at hS hBy4
    refine reg_plain w0 (Nobody) ?_
    refine r_assign hS hH.kp0 rfl rfl ?_; clear hS; intro a hS
    refine Sq.nil ?_
    refine then_n ?_
    refine wp_block ?_
    refine c_loop (fun m a w => ∃ (j : Nat) (i : Int) (by5 cy5 : Nat) (ky5 : List Value), m + j = ptl.length ∧ i = j ∧ w0.heap.size ≤ by5 ∧ BB cy5 ky5 (U ++ prsB (ptl.take j)) ∧ St 133 (lv [(1, .pointer (some ⟨b1, 0, none⟩)), (3, .slice (some ⟨by5, 0, none⟩) (U ++ prsB (ptl.take j)).length cy5), (4, .int .i64 i)]) a ∧ Hp w0 Nobody [(by5, .cells ky5.toArray 5 (0, 0)), (b1, .cells ([.int .i64 1] ++ hcells [r0, r1, r2, r3, r4, r5, r6, r7, r8, r9, ra, rb, rc, rd, re, rf] ++ hcells [s0, s1, s2, s3, s4, s5, s6, s7, s8, s9, sa, sb, sc, sd, se, sf] ++ [.string name, .slice q1 ptl.length c1, .slice q2 prm.length c2, .slice q3 tck.length c3] ++ hcells [n0, n1, n2, n3, n4, n5, n6, n7, n8, n9, na, nb, nc, nd, ne, nf] ++ [.bool false, .bool ag] ++ hcells [m0, m1, m2, m3, m4, m5, m6, m7, m8, m9, ma, mb, mc, md, me, mf] ++ [.int .i64 li] : List Value).toArray 34 (0, 0))] w) (ptl.length) ?_ ?_
    · refine ⟨0, _, by4, cy4, ky4, by omega, rfl, hoby4.resolve_left (fun h => h), by rw [List.take_zero, show prsB [] = [] from rfl, List.append_nil]; exact hBy4, ?_, hH.sub (by repeat (first | exact Sub.nil | refine Sub.cons ?_ ?_ | exact In.here | refine In.there ?_)) (by have nd := hH.nd; simp only [List.map_cons, List.map_nil, List.nodup_cons, List.mem_cons, List.not_mem_nil, or_false, not_or, List.nodup_nil, and_true, not_false_iff] at nd ⊢; omega)⟩
      rw [List.take_zero, show prsB [] = [] from rfl, List.append_nil]
      exact hS.live ⟨rfl, rfl, rfl, trivial⟩
    clear hS hH; intro m a w hI; obtain ⟨j, i, by5, cy5, ky5, hmj, hi, hwy5, hBy5, hS, hH⟩ := hI
    refine c_seq ?_
    refine c_seq ?_
    refine reg_plain w0 (Nobody) ?_
    refine r_move hS hH.kp0 rfl rfl ?_; clear hS; intro a hS
    refine r_fieldAddr hS hH.kp0 rfl Fc.fo34_4 rfl ?_; clear hS; intro a hS
    refine r_load_sc hS hH (by repeat (first | exact Sub.nil | refine Sub.cons ?_ ?_ | exact In.here | refine In.there ?_)) rfl (by repeat (first | exact In.here | refine In.there ?_)) Fc.sc24 (by rfl) rfl ?_; clear hS; intro a hS
    refine r_lenSl hS hH.kp0 rfl Fc.isSlice24 rfl ?_; clear hS; intro a hS
    refine r_lss hS hH.kp0 rfl rfl rfl ?_; clear hS; intro a hS
    refine Sq.nil ?_
    refine then_n ?_
    refine c_cond hS rfl (fun hc1 => ?_) (fun hc1 => ?_)
    · have hk : j < ptl.length := by have := of_decide_eq_true hc1; omega
      obtain ⟨ba, bo, hpq, hcell⟩ := (hpt.ext hH.mod).cell hk
      subst hpq
      have hpj := prsB_len _ (oddN_take j hod)
      have hpj2 : (ptl.take j).length ≤ 8 := by rw [List.length_take]; omega
      have hnj : ptl[j].data.toList.length = ptl[j].size := by rw [Array.length_toList]; rfl
      have hoby5 : Nobody by5 ∨ w0.heap.size ≤ by5 := .inr hwy5
      refine wp_skip ?_
      refine then_n ?_
      refine c_seq ?_
      refine wp_block ?_
      refine reg_plain w0 (Nobody) ?_
      refine r_move hS hH.kp0 rfl rfl ?_; clear hS; intro a hS
      refine r_fieldAddr hS hH.kp0 rfl Fc.fo34_4 rfl ?_; clear hS; intro a hS
      refine r_load_sc hS hH (by repeat (first | exact Sub.nil | refine Sub.cons ?_ ?_ | exact In.here | refine In.there ?_)) rfl (by repeat (first | exact In.here | refine In.there ?_)) Fc.sc24 (by rfl) rfl ?_; clear hS; intro a hS
      refine r_move hS hH.kp0 rfl rfl ?_; clear hS; intro a hS
      refine r_indexAddrS (j := j) hS hH.kp0 rfl rfl Fc.slb24 hi hk rfl ?_; clear hS; intro a hS
      refine r_load_cell hS hH.kp0 rfl hcell Fc.sc9 rfl ?_; clear hS; intro a hS
      refine r_call (l := [.tmp 33, .tmp 38]) hS rfl rfl Fc.fn23 rfl ?_
      refine Calls.mono ((short_some by5 cy5 ky5 (U ++ prsB (ptl.take j)) ptl[j] (by first | omega | (simp only [List.length_append, List.length_cons, List.length_nil]; omega)) (by have := hodj hk; omega) _ (hH.get (b := by5) (by repeat (first | exact In.here | refine In.there ?_))) hBy5).mono (fun e w1 hP => hP)) ?_
      rintro e w1 hP
      obtain ⟨by6, cy6, ky6, rfl, hry6, hky6, hBy6, hmy6⟩ := hP
      have hBy6 : BB cy6 ky6 (U ++ prsB (ptl.take j) ++ [UInt8.ofNat ptl[j].size] ++ ptl[j].data.toList) := hBy6
      have hoby6 : Nobody by6 ∨ w0.heap.size ≤ by6 := hry6.elim (fun h => by rw [h]; exact hoby5) (fun h => .inr (Nat.le_trans hH.mod.size h))
      replace hH := hH.modNew hmy6 (by repeat (first | exact .here | apply In.there | apply Put.there | apply Del.there)) hoby5 hry6 hky6
      refine ⟨_, rfl, hH.kp0, ?_⟩
      clear hS; intro a hS
      refine r_assign hS hH.kp0 rfl rfl ?_; clear hS; intro a hS
      refine Sq.nil ?_
      refine blk_n ?_
      refine then_n ?_
      refine reg_plain w0 (Nobody) ?_
      refine r_move hS hH.kp0 rfl rfl ?_; clear hS; intro a hS
      (first | refine r_add hS hH.kp0 rfl rfl rfl (by omega) ?_ | refine r_addw hS hH.kp0 rfl rfl rfl ?_)
      clear hS; intro a hS
      refine r_assign hS hH.kp0 rfl rfl ?_; clear hS; intro a hS
      refine Sq.nil ?_
      refine then_n ?_
      have hsx : U ++ prsB (ptl.take j) ++ [UInt8.ofNat ptl[j].size] ++ ptl[j].data.toList = U ++ prsB (ptl.take (j + 1)) := by rw [prsB_succ hk, beB1]; simp only [List.append_assoc]
      rw [hsx] at hBy6 hS
      refine ⟨m - 1, by omega, j + 1, _, by6, cy6, ky6, by omega, ?_, hoby6.resolve_left (fun h => h), hBy6, hS.live ⟨rfl, rfl, rfl, trivial⟩, hH.sub (by repeat (first | exact Sub.nil | refine Sub.cons ?_ ?_ | exact In.here | refine In.there ?_)) (by have nd := hH.nd; simp only [List.map_cons, List.map_nil, List.nodup_cons, List.mem_cons, List.not_mem_nil, or_false, not_or, List.nodup_nil, and_true, not_false_iff] at nd ⊢; omega)⟩
      omega
    · have hke : j = ptl.length := by have := of_decide_eq_false hc1; omega
      subst hke
      rw [List.take_of_length_le (Nat.le_refl _)] at hBy5 hS
      have hpj := prsB_len _ hod
      have hoby5 : Nobody by5 ∨ w0.heap.size ≤ by5 := .inr hwy5
      refine wp_exit ?_
      refine then_e ?_
      refine then_e ?_
      refine blk_hit ?_
      refine then_n ?_
      refine c_seq ?_
      refine reg_draw [(true, 0, [0]), (true, 1, [0]), (true, 2, [0]), (true, 4, [0]), (true, 5, [0]), (true, 6, [0]), (true, 7, [0]), (true, 8, [0]), (true, 9, [0]), (false, 3, [0]), (false, 10, [0]), (true, 11, [0])] Fc.mixed (by kernel_rfl) (by kernel_rfl) (by kernel_rfl) (by kernel_rfl) (by kernel_rfl) (by repeat (first | with_reducible exact steady_body | with_reducible apply steady_block | with_reducible apply steady_then | with_reducible apply steady_scope | exact steady_body)) hH ?_
      replace hH := hH.drew
      refine r_move hS trivial rfl rfl ?_; clear hS; intro a hS
      refine r_fieldAddr hS trivial rfl Fc.fo34_5 rfl ?_; clear hS; intro a hS
      refine r_load_scS hS rfl (by repeat (first | exact In.here | refine In.there ?_)) Fc.sc25 (by rfl) rfl ?_; clear hS; intro a hS
      refine r_fieldAddr hS trivial rfl Fc.fo34_6 rfl ?_; clear hS; intro a hS
      refine r_load_scS hS rfl (by repeat (first | exact In.here | refine In.there ?_)) Fc.sc25 (by rfl) rfl ?_; clear hS; intro a hS
      refine r_lenSl hS trivial rfl Fc.isSlice25 rfl ?_; clear hS; intro a hS
      refine r_gtr hS trivial rfl rfl rfl ?_; clear hS; intro a hS
      rw [show decide ((tck.length : Int) > 0) = false from DF (by omega)] at hS
      refine r_fieldAddr hS trivial rfl Fc.fo34_8 rfl ?_; clear hS; intro a hS
      refine r_load_scS hS rfl (by repeat (first | exact In.here | refine In.there ?_)) Fc.sc4 (by rfl) rfl ?_; clear hS; intro a hS
      refine r_call (l := [.tmp 40, .tmp 42]) hS rfl rfl Fc.fn25 rfl ?_
      refine Calls.mono ((long_some by5 cy5 ky5 (U ++ prsB ptl) q2 c2 prm (by first | omega | (simp only [List.length_append, List.length_cons, List.length_nil]; omega)) (by omega) _ (hH.get (b := by5) (by repeat (first | exact In.here | refine In.there ?_))) hBy5 (hbP.go hH.mod (fun x hx => .inr (by subst hx; exact hoby5.resolve_left (fun h => h))))).mono (fun e w1 hP => hP)) ?_
      rintro e w1 hP
      obtain ⟨by6, cy6, ky6, rfl, hry6, hky6, hBy6, hmy6⟩ := hP
      have hBy6 : BB cy6 ky6 (U ++ prsB ptl ++ [UInt8.ofNat (prm.length / 256), UInt8.ofNat prm.length] ++ prm) := hBy6
      have hoby6 : Nobody by6 ∨ w0.heap.size ≤ by6 := hry6.elim (fun h => by rw [h]; exact hoby5) (fun h => .inr (Nat.le_trans hH.mod.size h))
      replace hH := hH.modNew hmy6 (by repeat (first | exact .here | apply In.there | apply Put.there | apply Del.there)) hoby5 hry6 hky6
      refine ⟨_, rfl, hH.kp (by repeat (first | exact Sub.nil | refine Sub.cons ?_ ?_ | exact In.here | refine In.there ?_)), ?_⟩
      clear hS; intro a hS
      refine r_call (l := [.tmp 43, .tmp 47, .tmp 49]) hS rfl rfl Fc.fn24 rfl ?_
      refine Calls.mono ((flag_ff by6 cy6 ky6 (U ++ prsB ptl ++ [UInt8.ofNat (prm.length / 256), UInt8.ofNat prm.length] ++ prm) (by first | omega | (simp only [List.length_append, List.length_cons, List.length_nil]; omega)) _ (hH.get (b := by6) (by repeat (first | exact In.here | refine In.there ?_))) hBy6).mono (fun e w1 hP => hP)) ?_
      rintro e w1 hP
      obtain ⟨by7, cy7, ky7, rfl, hry7, hky7, hBy7, hmy7⟩ := hP
      have hBy7 : BB cy7 ky7 (U ++ prsB ptl ++ [UInt8.ofNat (prm.length / 256), UInt8.ofNat prm.length] ++ prm ++ [0]) := hBy7
      have hoby7 : Nobody by7 ∨ w0.heap.size ≤ by7 := hry7.elim (fun h => by rw [h]; exact hoby6) (fun h => .inr (Nat.le_trans hH.mod.size h))
      replace hH := hH.modNew hmy7 (by repeat (first | exact .here | apply In.there | apply Put.there | apply Del.there)) hoby6 hry7 hky7
      refine ⟨_, rfl, hH.kp (by repeat (first | exact Sub.nil | refine Sub.cons ?_ ?_ | exact In.here | refine In.there ?_)), ?_⟩
      clear hS; intro a hS
      refine r_assign hS trivial rfl rfl ?_; clear hS; intro a hS
      refine Sq.nil ?_
      refine then_n ?_
      refine c_seq ?_
      refine reg_plain w0 (Nobody) ?_
      refine r_fieldAddr hS hH.kp0 rfl Fc.fo34_6 rfl ?_; clear hS; intro a hS
      refine r_load_sc hS hH (by repeat (first | exact Sub.nil | refine Sub.cons ?_ ?_ | exact In.here | refine In.there ?_)) rfl (by repeat (first | exact In.here | refine In.there ?_)) Fc.sc25 (by rfl) rfl ?_; clear hS; intro a hS
      refine r_lenSl hS hH.kp0 rfl Fc.isSlice25 rfl ?_; clear hS; intro a hS
      refine r_gtr hS hH.kp0 rfl rfl rfl ?_; clear hS; intro a hS
      refine Sq.nil ?_
      refine then_n ?_
      refine c_condF hS rfl (DF (by omega)) ?_
      refine wp_skip ?_
      refine blk_n ?_
      refine then_n ?_
      refine c_seq ?_
      refine reg_plain w0 (Nobody) ?_
      refine r_move hS hH.kp0 rfl rfl ?_; clear hS; intro a hS
      refine r_assign hS hH.kp0 rfl rfl ?_; clear hS; intro a hS
      refine Sq.nil ?_
      refine then_n ?_
      refine wp_ret ?_
      have hfin : U ++ prsB ptl ++ [UInt8.ofNat (prm.length / 256), UInt8.ofNat prm.length] ++ prm ++ [0] = bodyB 1 [r0, r1, r2, r3, r4, r5, r6, r7, r8, r9, ra, rb, rc, rd, re, rf] [s0, s1, s2, s3, s4, s5, s6, s7, s8, s9, sa, sb, sc, sd, se, sf] name ptl prm tck [n0, n1, n2, n3, n4, n5, n6, n7, n8, n9, na, nb, nc, nd, ne, nf] false ag [m0, m1, m2, m3, m4, m5, m6, m7, m8, m9, ma, mb, mc, md, me, mf] li := by rw [hU]; unfold bodyB; rw [if_pos rfl]; simp [beB1, beB2, List.append_assoc, htk0]
      rw [hfin] at hS hBy7
      exact leave (.inl rfl) hS rfl (Res.tmp rfl Res.nil) ⟨by7, cy7, ky7, rfl, hoby7.resolve_left (fun h => h), hH.get (b := by7) (by repeat (first | exact In.here | refine In.there ?_)), hBy7, hH.mod⟩

set_option maxRecDepth 100000 in
set_option maxHeartbeats 8000000 in
theorem dbody_1ft (q1 q2 q3 : Option Addr) (c1 c2 c3 : Nat) (rnd shr bnd mrk : List UInt8) (name : ByteArray) (ptl : List ByteArray) (prm tck : List UInt8) (ea ag : Bool) (li : Int) (hrnd : rnd.length = 16) (hshr : shr.length = 16) (hbnd : bnd.length = 16) (hmrk : mrk.length = 16) (hnm : name.size ≤ 255) (hpl : ptl.length ≤ 8) (hod : oddN ptl = 0) (hpr : prm.length ≤ 4096) (htk : tck.length ≤ 512) (htk0 : tck.length = 0) (hea : ea = true) (w0 : World) (hpl : ptl.length ≤ 1048576) (hpt : SsA w0 q1 c1 ptl) (hbP : BsF Nobody w0 (.slice q2 prm.length c2) prm) (hbT : BsF Nobody w0 (.slice q3 tck.length c3) tck) : Calls Try.prog 17 #[.agg ([.int .i64 1] ++ hcells rnd ++ hcells shr ++ [.string name, .slice q1 ptl.length c1, .slice q2 prm.length c2, .slice q3 tck.length c3] ++ hcells bnd ++ [.bool ea, .bool ag] ++ hcells mrk ++ [.int .i64 li] : List Value).toArray] w0 fun e w' => ∃ (b' c' : Nat) (k' : List Value), e = .returned (.slice (some ⟨b', 0, none⟩) (bodyB 1 rnd shr name ptl prm tck bnd ea ag mrk li).length c') ∧ w0.heap.size ≤ b' ∧ w'.heap[b']? = some (.cells k'.toArray 5 (0, 0)) ∧ BB c' k' (bodyB 1 rnd shr name ptl prm tck bnd ea ag mrk li) ∧ Ext w0 w' := by
  refine enter Try.func17 rfl rfl rfl ?_
  intro a hS
  have hH := Hp.start w0 (Nobody)
  subst hea
  obtain ⟨r0, r1, r2, r3, r4, r5, r6, r7, r8, r9, ra, rb, rc, rd, re, rf, rfl⟩ := len16 hrnd
  obtain ⟨s0, s1, s2, s3, s4, s5, s6, s7, s8, s9, sa, sb, sc, sd, se, sf, rfl⟩ := len16 hshr
  obtain ⟨n0, n1, n2, n3, n4, n5, n6, n7, n8, n9, na, nb, nc, nd, ne, nf, rfl⟩ := len16 hbnd
  obtain ⟨m0, m1, m2, m3, m4, m5, m6, m7, m8, m9, ma, mb, mc, md, me, mf, rfl⟩ := len16 hmrk
  have hnl : name.data.toList.length = name.size := by rw [Array.length_toList]; rfl
  have hodj : ∀ {k : Nat} (hk : k < ptl.length), 1 ≤ ptl[k].size ∧ ptl[k].size ≤ 255 := fun hk => oddN_zero hk hod
  refine c_seq ?_
  refine reg_plain w0 (Nobody) ?_
  refine r_box hS hH (by repeat (first | exact Sub.nil | refine Sub.cons ?_ ?_ | exact In.here | refine In.there ?_)) rfl rfl rfl ?_
  clear hS hH; intro a w b1 hb1 hwb1 hS hH
  refine r_assign hS hH.kp0 rfl rfl ?_; clear hS; intro a hS
  refine Sq.nil ?_
  refine then_n ?_
  refine c_seq ?_
  refine reg_plain w0 (Nobody) ?_
  refine r_assign hS hH.kp0 rfl rfl ?_; clear hS; intro a hS
  refine Sq.nil ?_
  refine then_n ?_
  refine c_seq ?_
  refine c_seq ?_
  refine reg_plain w0 (Nobody) ?_
  refine r_fieldAddr hS hH.kp0 rfl Fc.fo34_0 rfl ?_; clear hS; intro a hS
  refine r_load_sc hS hH (by repeat (first | exact Sub.nil | refine Sub.cons ?_ ?_ | exact In.here | refine In.there ?_)) rfl (by repeat (first | exact In.here | refine In.there ?_)) Fc.sc3 (by rfl) rfl ?_; clear hS; intro a hS
  refine Sq.nil ?_
  refine then_n ?_
  refine wp_block ?_
  refine c_seq ?_
  refine reg_plain w0 (Nobody) ?_
  refine r_eql hS hH.kp0 rfl rfl rfl ?_; clear hS; intro a hS
  refine r_assign hS hH.kp0 rfl rfl ?_; clear hS; intro a hS
  refine Sq.nil ?_
  refine then_n ?_
  refine c_condT hS rfl rfl ?_
  refine c_seq ?_
  refine reg_draw [(true, 0, []), (true, 1, []), (true, 2, []), (true, 4, []), (true, 5, []), (false, 3, []), (false, 6, []), (true, 7, [])] Fc.mixed (by kernel_rfl) (by kernel_rfl) (by kernel_rfl) (by kernel_rfl) (by kernel_rfl) (by repeat (first | with_reducible exact steady_body | with_reducible apply steady_block | with_reducible apply steady_then | with_reducible apply steady_scope | exact steady_body)) hH ?_
  replace hH := hH.drew
  refine r_move hS trivial rfl rfl ?_; clear hS; intro a hS
  refine r_fieldAddr hS trivial rfl Fc.fo34_1 rfl ?_; clear hS; intro a hS
  refine r_slArr hS trivial rfl Fc.ar22 rfl ?_; clear hS; intro a hS
  refine r_fieldAddr hS trivial rfl Fc.fo34_2 rfl ?_; clear hS; intro a hS
  refine r_slArr hS trivial rfl Fc.ar22 rfl ?_; clear hS; intro a hS
  refine r_append_nil hS hH (by repeat (first | exact Sub.nil | refine Sub.cons ?_ ?_ | exact In.here | refine In.there ?_)) rfl rfl Fc.el25 Fc.ni25 ((Bs.row (o := 0 + 1) (u := [r0, r1, r2, r3, r4, r5, r6, r7, r8, r9, ra, rb, rc, rd, re, rf]) (cap := 16) (hH.get (b := b1) (by repeat (first | exact In.here | refine In.there ?_))) rfl (Nat.le_refl 16))).src (by simp) (by simp) rfl ?_
  clear hS hH; intro a w by1 cy1 ky1 hwy1 hwwy1 hly1 hmy1 htky1 hExy1 hS hH
  have hBy1 : BB cy1 ky1 ([r0, r1, r2, r3, r4, r5, r6, r7, r8, r9, ra, rb, rc, rd, re, rf]) := ⟨by rw [hly1, Nat.mul_one], hmy1, by rw [Nat.mul_one] at htky1; exact htky1⟩
  rw [show ([r0, r1, r2, r3, r4, r5, r6, r7, r8, r9, ra, rb, rc, rd, re, rf] : List UInt8).length = ([r0, r1, r2, r3, r4, r5, r6, r7, r8, r9, ra, rb, rc, rd, re, rf]).length from by simp] at hS
  have hoby1 : Nobody by1 ∨ w0.heap.size ≤ by1 := .inr hwy1
  refine r_append_own hS hH rfl rfl (by repeat (first | exact .here | apply In.there | apply Put.there | apply Del.there)) (by repeat (first | exact Sub.nil | refine Sub.cons ?_ ?_ | exact In.here | refine In.there ?_)) Fc.el25 Fc.ni25 (by rw [hBy1.len, Nat.mul_one]) hBy1.le (Bs.row (o := 0 + 17) (u := [s0, s1, s2, s3, s4, s5, s6, s7, s8, s9, sa, sb, sc, sd, se, sf]) (cap := 16) (hH.get (b := b1) (by repeat (first | exact In.here | refine In.there ?_))) rfl (Nat.le_refl 16)).src (by first | omega | (simp only [List.length_append, List.length_cons, List.length_nil]; omega)) hoby1 rfl ?_
  clear hS hH; intro a w by2 cy2 ky2 hoby2 hly2 hcy2 hty2 hmy2 hS hH
  have hey2 : ([r0, r1, r2, r3, r4, r5, r6, r7, r8, r9, ra, rb, rc, rd, re, rf]).length + ([s0, s1, s2, s3, s4, s5, s6, s7, s8, s9, sa, sb, sc, sd, se, sf]).length = ([r0, r1, r2, r3, r4, r5, r6, r7, r8, r9, ra, rb, rc, rd, re, rf] ++ [s0, s1, s2, s3, s4, s5, s6, s7, s8, s9, sa, sb, sc, sd, se, sf]).length := (show ([r0, r1, r2, r3, r4, r5, r6, r7, r8, r9, ra, rb, rc, rd, re, rf]).length + ([s0, s1, s2, s3, s4, s5, s6, s7, s8, s9, sa, sb, sc, sd, se, sf]).length = ([r0, r1, r2, r3, r4, r5, r6, r7, r8, r9, ra, rb, rc, rd, re, rf] ++ [s0, s1, s2, s3, s4, s5, s6, s7, s8, s9, sa, sb, sc, sd, se, sf]).length from List.length_append.symm)
  have hBy2 : BB cy2 ky2 ([r0, r1, r2, r3, r4, r5, r6, r7, r8, r9, ra, rb, rc, rd, re, rf] ++ [s0, s1, s2, s3, s4, s5, s6, s7, s8, s9, sa, sb, sc, sd, se, sf]) := ⟨by rw [hly2, Nat.mul_one], by rw [← hey2]; exact hcy2, by rw [← hey2]; rw [Nat.mul_one, Nat.mul_one] at hty2; rw [hty2, hBy1.take]; exact List.map_append.symm⟩
  rw [hey2] at hS
  refine r_assign hS trivial rfl rfl ?_; clear hS; intro a hS
  refine Sq.nil ?_
  refine then_n ?_
  refine c_seq ?_
  refine reg_tree [(true, 0, [0]), (true, 1, [0]), (true, 2, [0]), (false, 3, [0]), (true, 4, [0]), (true, 5, [0]), (true, 6, [0]), (true, 7, [0]), (false, 8, [0]), (false, 9, [0]), (true, 10, [0])] (PT.ofPlan [(true, 0, [0]), (true, 1, [0]), (true, 2, [0]), (true, 4, [0]), (true, 5, [0]), (true, 6, [0]), (true, 7, [0])] (.fork (PT.ofPlan [(false, 3, [0]), (false, 8, [0]), (false, 9, [0]), (true, 10, [0])] .nil) (PT.ofPlan [(false, 8, [0]), (false, 3, [0]), (false, 9, [0]), (true, 10, [0])] .nil))) Fc.mixed (by kernel_rfl) (by kernel_rfl) (by kernel_rfl) (by kernel_rfl) (by kernel_rfl) (by kernel_rfl) (by repeat (first | with_reducible exact steady_body | with_reducible apply steady_block | with_reducible apply steady_then | with_reducible apply steady_scope | exact steady_body)) hH ?_
  replace hH := hH.drew
  refine tr_seg ?_
  refine r_move hS trivial rfl rfl ?_; clear hS; intro a hS
  refine r_fieldAddr hS trivial rfl Fc.fo34_3 rfl ?_; clear hS; intro a hS
  refine r_load_scS hS rfl (by repeat (first | exact In.here | refine In.there ?_)) Fc.sc9 (by rfl) rfl ?_; clear hS; intro a hS
  refine r_fieldAddr hS trivial rfl Fc.fo34_4 rfl ?_; clear hS; intro a hS
  refine r_load_scS hS rfl (by repeat (first | exact In.here | refine In.there ?_)) Fc.sc24 (by rfl) rfl ?_; clear hS; intro a hS
  refine r_lenSl hS trivial rfl Fc.isSlice24 rfl ?_; clear hS; intro a hS
  refine r_toU8 (q := ptl.length) (UInt8.ofNat (ptl.length)) hS trivial rfl Fc.ui5 Fc.us3 rfl rfl ?_; clear hS; intro a hS
  refine Sq.nil ?_
  refine then_n ?_
  refine tr_fork ?_ ?_
  · refine tr_seg ?_
    refine r_call (l := [.tmp 16, .tmp 18]) hS rfl rfl Fc.fn23 rfl ?_
    refine Calls.mono ((short_some by2 cy2 ky2 ([r0, r1, r2, r3, r4, r5, r6, r7, r8, r9, ra, rb, rc, rd, re, rf] ++ [s0, s1, s2, s3, s4, s5, s6, s7, s8, s9, sa, sb, sc, sd, se, sf]) name (by first | omega | (simp only [List.length_append, List.length_cons, List.length_nil]; omega)) (by omega) _ (hH.get (b := by2) (by repeat (first | exact In.here | refine In.there ?_))) hBy2).mono (fun e w1 hP => hP)) ?_
    rintro e w1 hP
    obtain ⟨by3, cy3, ky3, rfl, hry3, hky3, hBy3, hmy3⟩ := hP
    have hBy3 : BB cy3 ky3 ([r0, r1, r2, r3, r4, r5, r6, r7, r8, r9, ra, rb, rc, rd, re, rf] ++ [s0, s1, s2, s3, s4, s5, s6, s7, s8, s9, sa, sb, sc, sd, se, sf] ++ [UInt8.ofNat name.size] ++ name.data.toList) := hBy3
    have hoby3 : Nobody by3 ∨ w0.heap.size ≤ by3 := hry3.elim (fun h => by rw [h]; exact hoby2) (fun h => .inr (Nat.le_trans hH.mod.size h))
    replace hH := hH.modNew hmy3 (by repeat (first | exact .here | apply In.there | apply Put.there | apply Del.there)) hoby2 hry3 hky3
    refine ⟨_, rfl, hH.kp (by repeat (first | exact Sub.nil | refine Sub.cons ?_ ?_ | exact In.here | refine In.there ?_)), ?_⟩
    clear hS; intro a hS
    refine r_buildSlice (parts := [(0, .tmp 23)]) hS hH (by repeat (first | exact Sub.nil | refine Sub.cons ?_ ?_ | exact In.here | refine In.there ?_)) rfl Fc.bsl25_1 (by rfl) rfl ?_
    clear hS hH; intro a w b24 hb24 hwb24 hS hH
    refine r_append_own hS hH rfl rfl (by repeat (first | exact .here | apply In.there | apply Put.there | apply Del.there)) (by repeat (first | exact Sub.nil | refine Sub.cons ?_ ?_ | exact In.here | refine In.there ?_)) Fc.el25 Fc.ni25 (by rw [hBy3.len, Nat.mul_one]) hBy3.le ((BB.lit [UInt8.ofNat ptl.length] rfl rfl).bs (hH.get (b := b24) (by repeat (first | exact In.here | refine In.there ?_)))).src (by first | omega | (simp only [List.length_append, List.length_cons, List.length_nil]; omega)) hoby3 rfl ?_
    clear hS hH; intro a w by4 cy4 ky4 hoby4 hly4 hcy4 hty4 hmy4 hS hH
    have hey4 : ([r0, r1, r2, r3, r4, r5, r6, r7, r8, r9, ra, rb, rc, rd, re, rf] ++ [s0, s1, s2, s3, s4, s5, s6, s7, s8, s9, sa, sb, sc, sd, se, sf] ++ [UInt8.ofNat name.size] ++ name.data.toList).length + ([UInt8.ofNat ptl.length]).length = ([r0, r1, r2, r3, r4, r5, r6, r7, r8, r9, ra, rb, rc, rd, re, rf] ++ [s0, s1, s2, s3, s4, s5, s6, s7, s8, s9, sa, sb, sc, sd, se, sf] ++ [UInt8.ofNat name.size] ++ name.data.toList ++ [UInt8.ofNat ptl.length]).length := (show ([r0, r1, r2, r3, r4, r5, r6, r7, r8, r9, ra, rb, rc, rd, re, rf] ++ [s0, s1, s2, s3, s4, s5, s6, s7, s8, s9, sa, sb, sc, sd, se, sf] ++ [UInt8.ofNat name.size] ++ name.data.toList).length + ([UInt8.ofNat ptl.length]).length = ([r0, r1, r2, r3, r4, r5, r6, r7, r8, r9, ra, rb, rc, rd, re, rf] ++ [s0, s1, s2, s3, s4, s5, s6, s7, s8, s9, sa, sb, sc, sd, se, sf] ++ [UInt8.ofNat name.size] ++ name.data.toList ++ [UInt8.ofNat ptl.length]).length from List.length_append.symm)
    have hBy4 : BB cy4 ky4 ([r0, r1, r2, r3, r4, r5, r6, r7, r8, r9, ra, rb, rc, rd, re, rf] ++ [s0, s1, s2, s3, s4, s5, s6, s7, s8, s9, sa, sb, sc, sd, se, sf] ++ [UInt8.ofNat name.size] ++ name.data.toList ++ [UInt8.ofNat ptl.length]) := ⟨by rw [hly4, Nat.mul_one], by rw [← hey4]; exact hcy4, by rw [← hey4]; rw [Nat.mul_one, Nat.mul_one] at hty4; rw [hty4, hBy3.take]; exact List.map_append.symm⟩
    rw [hey4] at hS
    refine r_assign hS trivial rfl rfl ?_; clear hS; intro a hS
    refine Sq.nil ?_
    refine then_n ?_
    refine tr_nil ?_
    refine then_n ?_
    refine c_seq ?_
    refine c_seq ?_
    obtain ⟨U, hU⟩ : ∃ U, U = ([r0, r1, r2, r3, r4, r5, r6, r7, r8, r9, ra, rb, rc, rd, re, rf] ++ [s0, s1, s2, s3, s4, s5, s6, s7, s8, s9, sa, sb, sc, sd, se, sf] ++ [UInt8.ofNat name.size] ++ name.data.toList ++ [UInt8.ofNat ptl.length]) := ⟨_, rfl⟩
    have hUl : U.length ≤ 300 := by rw [hU]; first | omega | (simp only [List.length_append, List.length_cons, List.length_nil]; omega)
    rw [← hU] at hS hBy4
    refine reg_plain w0 (Nobody) ?_
    refine r_assign hS hH.kp0 rfl rfl ?_; clear hS; intro a hS
    refine Sq.nil ?_
    refine then_n ?_
    refine wp_block ?_
    refine c_loop (fun m a w => ∃ (j : Nat) (i : Int) (by5 cy5 : Nat) (ky5 : List Value), m + j = ptl.length ∧ i = j ∧ w0.heap.size ≤ by5 ∧ BB cy5 ky5 (U ++ prsB (ptl.take j)) ∧ St 133 (lv [(1, .pointer (some ⟨b1, 0, none⟩)), (3, .slice (some ⟨by5, 0, none⟩) (U ++ prsB (ptl.take j)).length cy5), (4, .int .i64 i)]) a ∧ Hp w0 Nobody [(by5, .cells ky5.toArray 5 (0, 0)), (b1, .cells ([.int .i64 1] ++ hcells [r0, r1, r2, r3, r4, r5, r6, r7, r8, r9, ra, rb, rc, rd, re, rf] ++ hcells [s0, s1, s2, s3, s4, s5, s6, s7, s8, s9, sa, sb, sc, sd, se, sf] ++ [.string name, .slice q1 ptl.length c1, .slice q2 prm.length c2, .slice q3 tck.length c3] ++ hcells [n0, n1, n2, n3, n4, n5, n6, n7, n8, n9, na, nb, nc, nd, ne, nf] ++ [.bool true, .bool ag] ++ hcells [m0, m1, m2, m3, m4, m5, m6, m7, m8, m9, ma, mb, mc, md, me, mf] ++ [.int .i64 li] : List Value).toArray 34 (0, 0))] w) (ptl.length) ?_ ?_
    · refine ⟨0, _, by4, cy4, ky4, by omega, rfl, hoby4.resolve_left (fun h => h), by rw [List.take_zero, show prsB [] = [] from rfl, List.append_nil]; exact hBy4, ?_, hH.sub (by repeat (first | exact Sub.nil | refine Sub.cons ?_ ?_ | exact In.here | refine In.there ?_)) (by have nd := hH.nd; simp only [List.map_cons, List.map_nil, List.nodup_cons, List.mem_cons, List.not_mem_nil, or_false, not_or, List.nodup_nil, and_true, not_false_iff] at nd ⊢; omega)⟩
      rw [List.take_zero, show prsB [] = [] from rfl, List.append_nil]
      exact hS.live ⟨rfl, rfl, rfl, trivial⟩
    clear hS hH; intro m a w hI; obtain ⟨j, i, by5, cy5, ky5, hmj, hi, hwy5, hBy5, hS, hH⟩ := hI
    refine c_seq ?_
    refine c_seq ?_
    refine reg_plain w0 (Nobody) ?_
    refine r_move hS hH.kp0 rfl rfl ?_; clear hS; intro a hS
    refine r_fieldAddr hS hH.kp0 rfl Fc.fo34_4 rfl ?_; clear hS; intro a hS
    refine r_load_sc hS hH (by repeat (first | exact Sub.nil | refine Sub.cons ?_ ?_ | exact In.here | refine In.there ?_)) rfl (by repeat (first | exact In.here | refine In.there ?_)) Fc.sc24 (by rfl) rfl ?_; clear hS; intro a hS
    refine r_lenSl hS hH.kp0 rfl Fc.isSlice24 rfl ?_; clear hS; intro a hS
    refine r_lss hS hH.kp0 rfl rfl rfl ?_; clear hS; intro a hS
    refine Sq.nil ?_
    refine then_n ?_
    refine c_cond hS rfl (fun hc1 => ?_) (fun hc1 => ?_)
    · have hk : j < ptl.length := by have := of_decide_eq_true hc1; omega
      obtain ⟨ba, bo, hpq, hcell⟩ := (hpt.ext hH.mod).cell hk
      subst hpq
      have hpj := prsB_len _ (oddN_take j hod)
      have hpj2 : (ptl.take j).length ≤ 8 := by rw [List.length_take]; omega
      have hnj : ptl[j].data.toList.length = ptl[j].size := by rw [Array.length_toList]; rfl
      have hoby5 : Nobody by5 ∨ w0.heap.size ≤ by5 := .inr hwy5
      refine wp_skip ?_
      refine then_n ?_
      refine c_seq ?_
      refine wp_block ?_
      refine reg_plain w0 (Nobody) ?_
      refine r_move hS hH.kp0 rfl rfl ?_; clear hS; intro a hS
      refine r_fieldAddr hS hH.kp0 rfl Fc.fo34_4 rfl ?_; clear hS; intro a hS
      refine r_load_sc hS hH (by repeat (first | exact Sub.nil | refine Sub.cons ?_ ?_ | exact In.here | refine In.there ?_)) rfl (by repeat (first | exact In.here | refine In.there ?_)) Fc.sc24 (by rfl) rfl ?_; clear hS; intro a hS
      refine r_move hS hH.kp0 rfl rfl ?_; clear hS; intro a hS
      refine r_indexAddrS (j := j) hS hH.kp0 rfl rfl Fc.slb24 hi hk rfl ?_; clear hS; intro a hS
      refine r_load_cell hS hH.kp0 rfl hcell Fc.sc9 rfl ?_; clear hS; intro a hS
      refine r_call (l := [.tmp 33, .tmp 38]) hS rfl rfl Fc.fn23 rfl ?_
      refine Calls.mono ((short_some by5 cy5 ky5 (U ++ prsB (ptl.take j)) ptl[j] (by first | omega | (simp only [List.length_append, List.length_cons, List.length_nil]; omega)) (by have := hodj hk; omega) _ (hH.get (b := by5) (by repeat (first | exact In.here | refine In.there ?_))) hBy5).mono (fun e w1 hP => hP)) ?_
      rintro e w1 hP
      obtain ⟨by6, cy6, ky6, rfl, hry6, hky6, hBy6, hmy6⟩ := hP
      have hBy6 : BB cy6 ky6 (U ++ prsB (ptl.take j) ++ [UInt8.ofNat ptl[j].size] ++ ptl[j].data.toList) := hBy6
      have hoby6 : Nobody by6 ∨ w0.heap.size ≤ by6 := hry6.elim (fun h => by rw [h]; exact hoby5) (fun h => .inr (Nat.le_trans hH.mod.size h))
      replace hH := hH.modNew hmy6 (by repeat (first | exact .here | apply In.there | apply Put.there | apply Del.there)) hoby5 hry6 hky6
      refine ⟨_, rfl, hH.kp0, ?_⟩
      clear hS; intro a hS
      refine r_assign hS hH.kp0 rfl rfl ?_; clear hS; intro a hS
      refine Sq.nil ?_
      refine blk_n ?_
      refine then_n ?_
      refine reg_plain w0 (Nobody) ?_
      refine r_move hS hH.kp0 rfl rfl ?_; clear hS; intro a hS
      (first | refine r_add hS hH.kp0 rfl rfl rfl (by omega) ?_ | refine r_addw hS hH.kp0 rfl rfl rfl ?_)
      clear hS; intro a hS
      refine r_assign hS hH.kp0 rfl rfl ?_; clear hS; intro a hS
      refine Sq.nil ?_
      refine then_n ?_
      have hsx : U ++ prsB (ptl.take j) ++ [UInt8.ofNat ptl[j].size] ++ ptl[j].data.toList = U ++ prsB (ptl.take (j + 1)) := by rw [prsB_succ hk, beB1]; simp only [List.append_assoc]
      rw [hsx] at hBy6 hS
      refine ⟨m - 1, by omega, j + 1, _, by6, cy6, ky6, by omega, ?_, hoby6.resolve_left (fun h => h), hBy6, hS.live ⟨rfl, rfl, rfl, trivial⟩, hH.sub (by repeat (first | exact Sub.nil | refine Sub.cons ?_ ?_ | exact In.here | refine In.there ?_)) (by have nd := hH.nd; simp only [List.map_cons, List.map_nil, List.nodup_cons, List.mem_cons, List.not_mem_nil, or_false, not_or, List.nodup_nil, and_true, not_false_iff] at nd ⊢; omega)⟩
      omega
    · have hke : j = ptl.length := by have := of_decide_eq_false hc1; omega
      subst hke
      rw [List.take_of_length_le (Nat.le_refl _)] at hBy5 hS
      have hpj := prsB_len _ hod
      have hoby5 : Nobody by5 ∨ w0.heap.size ≤ by5 := .inr hwy5
      refine wp_exit ?_
      refine then_e ?_
      refine then_e ?_
      refine blk_hit ?_
      refine then_n ?_
      refine c_seq ?_
      refine reg_draw [(true, 0, [0]), (true, 1, [0]), (true, 2, [0]), (true, 4, [0]), (true, 5, [0]), (true, 6, [0]), (true, 7, [0]), (true, 8, [0]), (true, 9, [0]), (false, 3, [0]), (false, 10, [0]), (true, 11, [0])] Fc.mixed (by kernel_rfl) (by kernel_rfl) (by kernel_rfl) (by kernel_rfl) (by kernel_rfl) (by repeat (first | with_reducible exact steady_body | with_reducible apply steady_block | with_reducible apply steady_then | with_reducible apply steady_scope | exact steady_body)) hH ?_
      replace hH := hH.drew
      refine r_move hS trivial rfl rfl ?_; clear hS; intro a hS
      refine r_fieldAddr hS trivial rfl Fc.fo34_5 rfl ?_; clear hS; intro a hS
      refine r_load_scS hS rfl (by repeat (first | exact In.here | refine In.there ?_)) Fc.sc25 (by rfl) rfl ?_; clear hS; intro a hS
      refine r_fieldAddr hS trivial rfl Fc.fo34_6 rfl ?_; clear hS; intro a hS
      refine r_load_scS hS rfl (by repeat (first | exact In.here | refine In.there ?_)) Fc.sc25 (by rfl) rfl ?_; clear hS; intro a hS
      refine r_lenSl hS trivial rfl Fc.isSlice25 rfl ?_; clear hS; intro a hS
      refine r_gtr hS trivial rfl rfl rfl ?_; clear hS; intro a hS
      rw [show decide ((tck.length : Int) > 0) = false from DF (by omega)] at hS
      refine r_fieldAddr hS trivial rfl Fc.fo34_8 rfl ?_; clear hS; intro a hS
      refine r_load_scS hS rfl (by repeat (first | exact In.here | refine In.there ?_)) Fc.sc4 (by rfl) rfl ?_; clear hS; intro a hS
      refine r_call (l := [.tmp 40, .tmp 42]) hS rfl rfl Fc.fn25 rfl ?_
      refine Calls.mono ((long_some by5 cy5 ky5 (U ++ prsB ptl) q2 c2 prm (by first | omega | (simp only [List.length_append, List.length_cons, List.length_nil]; omega)) (by omega) _ (hH.get (b := by5) (by repeat (first | exact In.here | refine In.there ?_))) hBy5 (hbP.go hH.mod (fun x hx => .inr (by subst hx; exact hoby5.resolve_left (fun h => h))))).mono (fun e w1 hP => hP)) ?_
      rintro e w1 hP
      obtain ⟨by6, cy6, ky6, rfl, hry6, hky6, hBy6, hmy6⟩ := hP
      have hBy6 : BB cy6 ky6 (U ++ prsB ptl ++ [UInt8.ofNat (prm.length / 256), UInt8.ofNat prm.length] ++ prm) := hBy6
      have hoby6 : Nobody by6 ∨ w0.heap.size ≤ by6 := hry6.elim (fun h => by rw [h]; exact hoby5) (fun h => .inr (Nat.le_trans hH.mod.size h))
      replace hH := hH.modNew hmy6 (by repeat (first | exact .here | apply In.there | apply Put.there | apply Del.there)) hoby5 hry6 hky6
      refine ⟨_, rfl, hH.kp (by repeat (first | exact Sub.nil | refine Sub.cons ?_ ?_ | exact In.here | refine In.there ?_)), ?_⟩
      clear hS; intro a hS
      refine r_call (l := [.tmp 43, .tmp 47, .tmp 49]) hS rfl rfl Fc.fn24 rfl ?_
      refine Calls.mono ((flag_ft by6 cy6 ky6 (U ++ prsB ptl ++ [UInt8.ofNat (prm.length / 256), UInt8.ofNat prm.length] ++ prm) (by first | omega | (simp only [List.length_append, List.length_cons, List.length_nil]; omega)) _ (hH.get (b := by6) (by repeat (first | exact In.here | refine In.there ?_))) hBy6).mono (fun e w1 hP => hP)) ?_
      rintro e w1 hP
      obtain ⟨by7, cy7, ky7, rfl, hry7, hky7, hBy7, hmy7⟩ := hP
      have hBy7 : BB cy7 ky7 (U ++ prsB ptl ++ [UInt8.ofNat (prm.length / 256), UInt8.ofNat prm.length] ++ prm ++ [2]) := hBy7
      have hoby7 : Nobody by7 ∨ w0.heap.size ≤ by7 := hry7.elim (fun h => by rw [h]; exact hoby6) (fun h => .inr (Nat.le_trans hH.mod.size h))
      replace hH := hH.modNew hmy7 (by repeat (first | exact .here | apply In.there | apply Put.there | apply Del.there)) hoby6 hry7 hky7
      refine ⟨_, rfl, hH.kp (by repeat (first | exact Sub.nil | refine Sub.cons ?_ ?_ | exact In.here | refine In.there ?_)), ?_⟩
      clear hS; intro a hS
      refine r_assign hS trivial rfl rfl ?_; clear hS; intro a hS
      refine Sq.nil ?_
      refine then_n ?_
      refine c_seq ?_
      refine reg_plain w0 (Nobody) ?_
      refine r_fieldAddr hS hH.kp0 rfl Fc.fo34_6 rfl ?_; clear hS; intro a hS
      refine r_load_sc hS hH (by repeat (first | exact Sub.nil | refine Sub.cons ?_ ?_ | exact In.here | refine In.there ?_)) rfl (by repeat (first | exact In.here | refine In.there ?_)) Fc.sc25 (by rfl) rfl ?_; clear hS; intro a hS
      refine r_lenSl hS hH.kp0 rfl Fc.isSlice25 rfl ?_; clear hS; intro a hS
      refine r_gtr hS hH.kp0 rfl rfl rfl ?_; clear hS; intro a hS
      refine Sq.nil ?_
      refine then_n ?_
      refine c_condF hS rfl (DF (by omega)) ?_
      refine wp_skip ?_
      refine blk_n ?_
      refine then_n ?_
      refine c_seq ?_
      refine reg_plain w0 (Nobody) ?_
      refine r_move hS hH.kp0 rfl rfl ?_; clear hS; intro a hS
      refine r_assign hS hH.kp0 rfl rfl ?_; clear hS; intro a hS
      refine Sq.nil ?_
      refine then_n ?_
      refine wp_ret ?_
      have hfin : U ++ prsB ptl ++ [UInt8.ofNat (prm.length / 256), UInt8.ofNat prm.length] ++ prm ++ [2] = bodyB 1 [r0, r1, r2, r3, r4, r5, r6, r7, r8, r9, ra, rb, rc, rd, re, rf] [s0, s1, s2, s3, s4, s5, s6, s7, s8, s9, sa, sb, sc, sd, se, sf] name ptl prm tck [n0, n1, n2, n3, n4, n5, n6, n7, n8, n9, na, nb, nc, nd, ne, nf] true ag [m0, m1, m2, m3, m4, m5, m6, m7, m8, m9, ma, mb, mc, md, me, mf] li := by rw [hU]; unfold bodyB; rw [if_pos rfl]; simp [beB1, beB2, List.append_assoc, htk0]
      rw [hfin] at hS hBy7
      exact leave (.inl rfl) hS rfl (Res.tmp rfl Res.nil) ⟨by7, cy7, ky7, rfl, hoby7.resolve_left (fun h => h), hH.get (b := by7) (by repeat (first | exact In.here | refine In.there ?_)), hBy7, hH.mod⟩
  · refine tr_seg ?_
    refine r_buildSlice (parts := [(0, .tmp 23)]) hS hH (by repeat (first | exact Sub.nil | refine Sub.cons ?_ ?_ | exact In.here | refine In.there ?_)) rfl Fc.bsl25_1 (by rfl) rfl ?_
    clear hS hH; intro a w b24 hb24 hwb24 hS hH
    refine r_call (l := [.tmp 16, .tmp 18]) hS rfl rfl Fc.fn23 rfl ?_
    refine Calls.mono ((short_some by2 cy2 ky2 ([r0, r1, r2, r3, r4, r5, r6, r7, r8, r9, ra, rb, rc, rd, re, rf] ++ [s0, s1, s2, s3, s4, s5, s6, s7, s8, s9, sa, sb, sc, sd, se, sf]) name (by first | omega | (simp only [List.length_append, List.length_cons, List.length_nil]; omega)) (by omega) _ (hH.get (b := by2) (by repeat (first | exact In.here | refine In.there ?_))) hBy2).mono (fun e w1 hP => hP)) ?_
    rintro e w1 hP
    obtain ⟨by3, cy3, ky3, rfl, hry3, hky3, hBy3, hmy3⟩ := hP
    have hBy3 : BB cy3 ky3 ([r0, r1, r2, r3, r4, r5, r6, r7, r8, r9, ra, rb, rc, rd, re, rf] ++ [s0, s1, s2, s3, s4, s5, s6, s7, s8, s9, sa, sb, sc, sd, se, sf] ++ [UInt8.ofNat name.size] ++ name.data.toList) := hBy3
    have hoby3 : Nobody by3 ∨ w0.heap.size ≤ by3 := hry3.elim (fun h => by rw [h]; exact hoby2) (fun h => .inr (Nat.le_trans hH.mod.size h))
    replace hH := hH.modNew hmy3 (by repeat (first | exact .here | apply In.there | apply Put.there | apply Del.there)) hoby2 hry3 hky3
    refine ⟨_, rfl, hH.kp (by repeat (first | exact Sub.nil | refine Sub.cons ?_ ?_ | exact In.here | refine In.there ?_)), ?_⟩
    clear hS; intro a hS
    refine r_append_own hS hH rfl rfl (by repeat (first | exact .here | apply In.there | apply Put.there | apply Del.there)) (by repeat (first | exact Sub.nil | refine Sub.cons ?_ ?_ | exact In.here | refine In.there ?_)) Fc.el25 Fc.ni25 (by rw [hBy3.len, Nat.mul_one]) hBy3.le ((BB.lit [UInt8.ofNat ptl.length] rfl rfl).bs (hH.get (b := b24) (by repeat (first | exact In.here | refine In.there ?_)))).src (by first | omega | (simp only [List.length_append, List.length_cons, List.length_nil]; omega)) hoby3 rfl ?_
    clear hS hH; intro a w by4 cy4 ky4 hoby4 hly4 hcy4 hty4 hmy4 hS hH
    have hey4 : ([r0, r1, r2, r3, r4, r5, r6, r7, r8, r9, ra, rb, rc, rd, re, rf] ++ [s0, s1, s2, s3, s4, s5, s6, s7, s8, s9, sa, sb, sc, sd, se, sf] ++ [UInt8.ofNat name.size] ++ name.data.toList).length + ([UInt8.ofNat ptl.length]).length = ([r0, r1, r2, r3, r4, r5, r6, r7, r8, r9, ra, rb, rc, rd, re, rf] ++ [s0, s1, s2, s3, s4, s5, s6, s7, s8, s9, sa, sb, sc, sd, se, sf] ++ [UInt8.ofNat name.size] ++ name.data.toList ++ [UInt8.ofNat ptl.length]).length := (show ([r0, r1, r2, r3, r4, r5, r6, r7, r8, r9, ra, rb, rc, rd, re, rf] ++ [s0, s1, s2, s3, s4, s5, s6, s7, s8, s9, sa, sb, sc, sd, se, sf] ++ [UInt8.ofNat name.size] ++ name.data.toList).length + ([UInt8.ofNat ptl.length]).length = ([r0, r1, r2, r3, r4, r5, r6, r7, r8, r9, ra, rb, rc, rd, re, rf] ++ [s0, s1, s2, s3, s4, s5, s6, s7, s8, s9, sa, sb, sc, sd, se, sf] ++ [UInt8.ofNat name.size] ++ name.data.toList ++ [UInt8.ofNat ptl.length]).length from List.length_append.symm)
    have hBy4 : BB cy4 ky4 ([r0, r1, r2, r3, r4, r5, r6, r7, r8, r9, ra, rb, rc, rd, re, rf] ++ [s0, s1, s2, s3, s4, s5, s6, s7, s8, s9, sa, sb, sc, sd, se, sf] ++ [UInt8.ofNat name.size] ++ name.data.toList ++ [UInt8.ofNat ptl.length]) := ⟨by rw [hly4, Nat.mul_one], by rw [← hey4]; exact hcy4, by rw [← hey4]; rw [Nat.mul_one, Nat.mul_one] at hty4; rw [hty4, hBy3.take]; exact List.map_append.symm⟩
    rw [hey4] at hS
    refine r_assign hS trivial rfl rfl ?_; clear hS; intro a hS
    refine Sq.nil ?_
    refine then_n ?_
    refine tr_nil ?_
    refine then_n ?_
    refine c_seq ?_
    refine c_seq ?_
    obtain ⟨U, hU⟩ : ∃ U, U = ([r0, r1, r2, r3, r4, r5, r6, r7, r8, r9, ra, rb, rc, rd, re, rf] ++ [s0, s1, s2, s3, s4, s5, s6, s7, s8, s9, sa, sb, sc, sd, se, sf] ++ [UInt8.ofNat name.size] ++ name.data.toList ++ [UInt8.ofNat ptl.length]) := ⟨_, rfl⟩
    have hUl : U.length ≤ 300 := by rw [hU]; first | omega | (simp only [List.length_append, List.length_cons, List.length_nil]; omega)
    rw [← hU] at hS hBy4
    refine reg_plain w0 (Nobody) ?_
    refine r_assign hS hH.kp0 rfl rfl ?_; clear hS; intro a hS
    refine Sq.nil ?_
    refine then_n ?_
    refine wp_block ?_
    refine c_loop (fun m a w => ∃ (j : Nat) (i : Int) (by5 cy5 : Nat) (ky5 : List Value), m + j = ptl.length ∧ i = j ∧ w0.heap.size ≤ by5 ∧ BB cy5 ky5 (U ++ prsB (ptl.take j)) ∧ St 133 (lv [(1, .pointer (some ⟨b1, 0, none⟩)), (3, .slice (some ⟨by5, 0, none⟩) (U ++ prsB (ptl.take j)).length cy5), (4, .int .i64 i)]) a ∧ Hp w0 Nobody [(by5, .cells ky5.toArray 5 (0, 0)), (b1, .cells ([.int .i64 1] ++ hcells [r0, r1, r2, r3, r4, r5, r6, r7, r8, r9, ra, rb, rc, rd, re, rf] ++ hcells [s0, s1, s2, s3, s4, s5, s6, s7, s8, s9, sa, sb, sc, sd, se, sf] ++ [.string name, .slice q1 ptl.length c1, .slice q2 prm.length c2, .slice q3 tck.length c3] ++ hcells [n0, n1, n2, n3, n4, n5, n6, n7, n8, n9, na, nb, nc, nd, ne, nf] ++ [.bool true, .bool ag] ++ hcells [m0, m1, m2, m3, m4, m5, m6, m7, m8, m9, ma, mb, mc, md, me, mf] ++ [.int .i64 li] : List Value).toArray 34 (0, 0))] w) (ptl.length) ?_ ?_
    · refine ⟨0, _, by4, cy4, ky4, by omega, rfl, hoby4.resolve_left (fun h => h), by rw [List.take_zero, show prsB [] = [] from rfl, List.append_nil]; exact hBy4, ?_, hH.sub (by repeat (first | exact Sub.nil | refine Sub.cons ?_ ?_ | exact In.here | refine In.there ?_)) (by have nd := hH.nd; simp only [List.map_cons, List.map_nil, List.nodup_cons, List.mem_cons, List.not_mem_nil, or_false, not_or, List.nodup_nil, and_true, not_false_iff] at nd ⊢; omega)⟩
      rw [List.take_zero, show prsB [] = [] from rfl, List.append_nil]
      exact hS.live ⟨rfl, rfl, rfl, trivial⟩
    clear hS hH; intro m a w hI; obtain ⟨j, i, by5, cy5, ky5, hmj, hi, hwy5, hBy5, hS, hH⟩ := hI
    refine c_seq ?_
    refine c_seq ?_
    refine reg_plain w0 (Nobody) ?_
    refine r_move hS hH.kp0 rfl rfl ?_; clear hS; intro a hS
    refine r_fieldAddr hS hH.kp0 rfl Fc.fo34_4 rfl ?_; clear hS; intro a hS
    refine r_load_sc hS hH (by repeat (first | exact Sub.nil | refine Sub.cons ?_ ?_ | exact In.here | refine In.there ?_)) rfl (by repeat (first | exact In.here | refine In.there ?_)) Fc.sc24 (by rfl) rfl ?_; clear hS; intro a hS
    refine r_lenSl hS hH.kp0 rfl Fc.isSlice24 rfl ?_; clear hS; intro a hS
    refine r_lss hS hH.kp0 rfl rfl rfl ?_; clear hS; intro a hS
    refine Sq.nil ?_
    refine then_n ?_
    refine c_cond hS rfl (fun hc1 => ?_) (fun hc1 => ?_)
    · have hk : j < ptl.length := by have := of_decide_eq_true hc1; omega
      obtain ⟨ba, bo, hpq, hcell⟩ := (hpt.ext hH.mod).cell hk
      subst hpq
      have hpj := prsB_len _ (oddN_take j hod)
      have hpj2 : (ptl.take j).length ≤ 8 := by rw [List.length_take]; omega
      have hnj : ptl[j].data.toList.length = ptl[j].size := by rw [Array.length_toList]; rfl
      have hoby5 : Nobody by5 ∨ w0.heap.size ≤ by5 := .inr hwy5
      refine wp_skip ?_
      refine then_n ?_
      refine c_seq ?_
      refine wp_block ?_
      refine reg_plain w0 (Nobody) ?_
      refine r_move hS hH.kp0 rfl rfl ?_; clear hS; intro a hS
      refine r_fieldAddr hS hH.kp0 rfl Fc.fo34_4 rfl ?_; clear hS; intro a hS
      refine r_load_sc hS hH (by repeat (first | exact Sub.nil | refine Sub.cons ?_ ?_ | exact In.here | refine In.there ?_)) rfl (by repeat (first | exact In.here | refine In.there ?_)) Fc.sc24 (by rfl) rfl ?_; clear hS; intro a hS
      refine r_move hS hH.kp0 rfl rfl ?_; clear hS; intro a hS
      refine r_indexAddrS (j := j) hS hH.kp0 rfl rfl Fc.slb24 hi hk rfl ?_; clear hS; intro a hS
      refine r_load_cell hS hH.kp0 rfl hcell Fc.sc9 rfl ?_; clear hS; intro a hS
      refine r_call (l := [.tmp 33, .tmp 38]) hS rfl rfl Fc.fn23 rfl ?_
      refine Calls.mono ((short_some by5 cy5 ky5 (U ++ prsB (ptl.take j)) ptl[j] (by first | omega | (simp only [List.length_append, List.length_cons, List.length_nil]; omega)) (by have := hodj hk; omega) _ (hH.get (b := by5) (by repeat (first | exact In.here | refine In.there ?_))) hBy5).mono (fun e w1 hP => hP)) ?_
      rintro e w1 hP
      obtain ⟨by6, cy6, ky6, rfl, hry6, hky6, hBy6, hmy6⟩ := hP
      have hBy6 : BB cy6 ky6 (U ++ prsB (ptl.take j) ++ [UInt8.ofNat ptl[j].size] ++ ptl[j].data.toList) := hBy6
      have hoby6 : Nobody by6 ∨ w0.heap.size ≤ by6 := hry6.elim (fun h => by rw [h]; exact hoby5) (fun h => .inr (Nat.le_trans hH.mod.size h))
      replace hH := hH.modNew hmy6 (by repeat (first | exact .here | apply In.there | apply Put.there | apply Del.there)) hoby5 hry6 hky6
      refine ⟨_, rfl, hH.kp0, ?_⟩
      clear hS; intro a hS
      refine r_assign hS hH.kp0 rfl rfl ?_; clear hS; intro a hS
      refine Sq.nil ?_
      refine blk_n ?_
      refine then_n ?_
      refine reg_plain w0 (Nobody) ?_
      refine r_move hS hH.kp0 rfl rfl ?_; clear hS; intro a hS
      (first | refine r_add hS hH.kp0 rfl rfl rfl (by omega) ?_ | refine r_addw hS hH.kp0 rfl rfl rfl ?_)
      clear hS; intro a hS
      refine r_assign hS hH.kp0 rfl rfl ?_; clear hS; intro a hS
      refine Sq.nil ?_
      refine then_n ?_
      have hsx : U ++ prsB (ptl.take j) ++ [UInt8.ofNat ptl[j].size] ++ ptl[j].data.toList = U ++ prsB (ptl.take (j + 1)) := by rw [prsB_succ hk, beB1]; simp only [List.append_assoc]
      rw [hsx] at hBy6 hS
      refine ⟨m - 1, by omega, j + 1, _, by6, cy6, ky6, by omega, ?_, hoby6.resolve_left (fun h => h), hBy6, hS.live ⟨rfl, rfl, rfl, trivial⟩, hH.sub (by repeat (first | exact Sub.nil | refine Sub.cons ?_ ?_ | exact In.here | refine In.there ?_)) (by have nd := hH.nd; simp only [List.map_cons, List.map_nil, List.nodup_cons, List.mem_cons, List.not_mem_nil, or_false, not_or, List.nodup_nil, and_true, not_false_iff] at nd ⊢; omega)⟩
      omega
    · have hke : j = ptl.length := by have := of_decide_eq_false hc1; omega
      subst hke
      rw [List.take_of_length_le (Nat.le_refl _)] at hBy5 hS
      have hpj := prsB_len _ hod
      have hoby5 : Nobody by5 ∨ w0.heap.size ≤ by5 := .inr hwy5
      refine wp_exit ?_
      refine then_e ?_
      refine then_e ?_
      refine blk_hit ?_
      refine then_n ?_
      refine c_seq ?_
      refine reg_draw [(true, 0, [0]), (true, 1, [0]), (true, 2, [0]), (true, 4, [0]), (true, 5, [0]), (true, 6, [0]), (true, 7, [0]), (true, 8, [0]), (true, 9, [0]), (false, 3, [0]), (false, 10, [0]), (true, 11, [0])] Fc.mixed (by kernel_rfl) (by kernel_rfl) (by kernel_rfl) (by kernel_rfl) (by kernel_rfl) (by repeat (first | with_reducible exact steady_body | with_reducible apply steady_block | with_reducible apply steady_then | with_reducible apply steady_scope | exact steady_body)) hH ?_
      replace hH := hH.drew
      refine r_move hS trivial rfl rfl ?_; clear hS; intro a hS
      refine r_fieldAddr hS trivial rfl Fc.fo34_5 rfl ?_; clear hS; intro a hS
      refine r_load_scS hS rfl (by repeat (first | exact In.here | refine In.there ?_)) Fc.sc25 (by rfl) rfl ?_; clear hS; intro a hS
      refine r_fieldAddr hS trivial rfl Fc.fo34_6 rfl ?_; clear hS; intro a hS
      refine r_load_scS hS rfl (by repeat (first | exact In.here | refine In.there ?_)) Fc.sc25 (by rfl) rfl ?_; clear hS; intro a hS
      refine r_lenSl hS trivial rfl Fc.isSlice25 rfl ?_; clear hS; intro a hS
      refine r_gtr hS trivial rfl rfl rfl ?_; clear hS; intro a hS
      rw [show decide ((tck.length : Int) > 0) = false from DF (by omega)] at hS
      refine r_fieldAddr hS trivial rfl Fc.fo34_8 rfl ?_; clear hS; intro a hS
      refine r_load_scS hS rfl (by repeat (first | exact In.here | refine In.there ?_)) Fc.sc4 (by rfl) rfl ?_; clear hS; intro a hS
      refine r_call (l := [.tmp 40, .tmp 42]) hS rfl rfl Fc.fn25 rfl ?_
      refine Calls.mono ((long_some by5 cy5 ky5 (U ++ prsB ptl) q2 c2 prm (by first | omega | (simp only [List.length_append, List.length_cons, List.length_nil]; omega)) (by omega) _ (hH.get (b := by5) (by repeat (first | exact In.here | refine In.there ?_))) hBy5 (hbP.go hH.mod (fun x hx => .inr (by subst hx; exact hoby5.resolve_left (fun h => h))))).mono (fun e w1 hP => hP)) ?_
      rintro e w1 hP
      obtain ⟨by6, cy6, ky6, rfl, hry6, hky6, hBy6, hmy6⟩ := hP
      have hBy6 : BB cy6 ky6 (U ++ prsB ptl ++ [UInt8.ofNat (prm.length / 256), UInt8.ofNat prm.length] ++ prm) := hBy6
      have hoby6 : Nobody by6 ∨ w0.heap.size ≤ by6 := hry6.elim (fun h => by rw [h]; exact hoby5) (fun h => .inr (Nat.le_trans hH.mod.size h))
      replace hH := hH.modNew hmy6 (by repeat (first | exact .here | apply In.there | apply Put.there | apply Del.there)) hoby5 hry6 hky6
      refine ⟨_, rfl, hH.kp (by repeat (first | exact Sub.nil | refine Sub.cons ?_ ?_ | exact In.here | refine In.there ?_)), ?_⟩
      clear hS; intro a hS
      refine r_call (l := [.tmp 43, .tmp 47, .tmp 49]) hS rfl rfl Fc.fn24 rfl ?_
      refine Calls.mono ((flag_ft by6 cy6 ky6 (U ++ prsB ptl ++ [UInt8.ofNat (prm.length / 256), UInt8.ofNat prm.length] ++ prm) (by first | omega | (simp only [List.length_append, List.length_cons, List.length_nil]; omega)) _ (hH.get (b := by6) (by repeat (first | exact In.here | refine In.there ?_))) hBy6).mono (fun e w1 hP => hP)) ?_
      rintro e w1 hP
      obtain ⟨by7, cy7, ky7, rfl, hry7, hky7, hBy7, hmy7⟩ := hP
      have hBy7 : BB cy7 ky7 (U ++ prsB ptl ++ [UInt8.ofNat (prm.length / 256), UInt8.ofNat prm.length] ++ prm ++ [2]) := hBy7
      have hoby7 : Nobody by7 ∨ w0.heap.size ≤ by7 := hry7.elim (fun h => by rw [h]; exact hoby6) (fun h => .inr (Nat.le_trans hH.mod.size h))
      replace hH := hH.modNew hmy7 (by repeat (first | exact .here | apply In.there | apply Put.there | apply Del.there)) hoby6 hry7 hky7
      refine ⟨_, rfl, hH.kp (by repeat (first | exact Sub.nil | refine Sub.cons ?_ ?_ | exact In.here | refine In.there ?_)), ?_⟩
      clear hS; intro a hS
      refine r_assign hS trivial rfl rfl ?_; clear hS; intro a hS
      refine Sq.nil ?_
      refine then_n ?_
      refine c_seq ?_
      refine reg_plain w0 (Nobody) ?_
      refine r_fieldAddr hS hH.kp0 rfl Fc.fo34_6 rfl ?_; clear hS; intro a hS
      refine r_load_sc hS hH (by repeat (first | exact Sub.nil | refine Sub.cons ?_ ?_ | exact In.here | refine In.there ?_)) rfl (by repeat (first | exact In.here | refine In.there ?_)) Fc.sc25 (by rfl) rfl ?_; clear hS; intro a hS
      refine r_lenSl hS hH.kp0 rfl Fc.isSlice25 rfl ?_; clear hS; intro a hS
      refine r_gtr hS hH.kp0 rfl rfl rfl ?_; clear hS; intro a hS
      refine Sq.nil ?_
      refine then_n ?_
      refine c_condF hS rfl (DF (by omega)) ?_
      refine wp_skip ?_
      refine blk_n ?_
      refine then_n ?_
      refine c_seq ?_
      refine reg_plain w0 (Nobody) ?_
      refine r_move hS hH.kp0 rfl rfl ?_; clear hS; intro a hS
      refine r_assign hS hH.kp0 rfl rfl ?_; clear hS; intro a hS
      refine Sq.nil ?_
      refine then_n ?_
      refine wp_ret ?_
      have hfin : U ++ prsB ptl ++ [UInt8.ofNat (prm.length / 256), UInt8.ofNat prm.length] ++ prm ++ [2] = bodyB 1 [r0, r1, r2, r3, r4, r5, r6, r7, r8, r9, ra, rb, rc, rd, re, rf] [s0, s1, s2, s3, s4, s5, s6, s7, s8, s9, sa, sb, sc, sd, se, sf] name ptl prm tck [n0, n1, n2, n3, n4, n5, n6, n7, n8, n9, na, nb, nc, nd, ne, nf] true ag [m0, m1, m2, m3, m4, m5, m6, m7, m8, m9, ma, mb, mc, md, me, mf] li := by rw [hU]; unfold bodyB; rw [if_pos rfl]; simp [beB1, beB2, List.append_assoc, htk0]
      rw [hfin] at hS hBy7
      exact leave (.inl rfl) hS rfl (Res.tmp rfl Res.nil) ⟨by7, cy7, ky7, rfl, hoby7.resolve_left (fun h => h), hH.get (b := by7) (by repeat (first | exact In.here | refine In.there ?_)), hBy7, hH.mod⟩

set_option maxRecDepth 100000 in
set_option maxHeartbeats 8000000 in
theorem dbody_1tf (q1 q2 q3 : Option Addr) (c1 c2 c3 : Nat) (rnd shr bnd mrk : List UInt8) (name : ByteArray) (ptl : List ByteArray) (prm tck : List UInt8) (ea ag : Bool) (li : Int) (hrnd : rnd.length = 16) (hshr : shr.length = 16) (hbnd : bnd.length = 16) (hmrk : mrk.length = 16) (hnm : name.size ≤ 255) (hpl : ptl.length ≤ 8) (hod : oddN ptl = 0) (hpr : prm.length ≤ 4096) (htk : tck.length ≤ 512) (htk1 : 1 ≤ tck.length) (hea : ea = false) (w0 : World) (hpl : ptl.length ≤ 1048576) (hpt : SsA w0 q1 c1 ptl) (hbP : BsF Nobody w0 (.slice q2 prm.length c2) prm) (hbT : BsF Nobody w0 (.slice q3 tck.length c3) tck) : Calls Try.prog 17 #[.agg ([.int .i64 1] ++ hcells rnd ++ hcells shr ++ [.string name, .slice q1 ptl.length c1, .slice q2 prm.length c2, .slice q3 tck.length c3] ++ hcells bnd ++ [.bool ea, .bool ag] ++ hcells mrk ++ [.int .i64 li] : List Value).toArray] w0 fun e w' => ∃ (b' c' : Nat) (k' : List Value), e = .returned (.slice (some ⟨b', 0, none⟩) (bodyB 1 rnd shr name ptl prm tck bnd ea ag mrk li).length c') ∧ w0.heap.size ≤ b' ∧ w'.heap[b']? = some (.cells k'.toArray 5 (0, 0)) ∧ BB c' k' (bodyB 1 rnd shr name ptl prm tck bnd ea ag mrk li) ∧ Ext w0 w' := by
  refine enter Try.func17 rfl rfl rfl ?_
  intro a hS
  have hH := Hp.start w0 (Nobody)
  subst hea
  obtain ⟨r0, r1, r2, r3, r4, r5, r6, r7, r8, r9, ra, rb, rc, rd, re, rf, rfl⟩ := len16 hrnd
  obtain ⟨s0, s1, s2, s3, s4, s5, s6, s7, s8, s9, sa, sb, sc, sd, se, sf, rfl⟩ := len16 hshr
  obtain ⟨n0, n1, n2, n3, n4, n5, n6, n7, n8, n9, na, nb, nc, nd, ne, nf, rfl⟩ := len16 hbnd
  obtain ⟨m0, m1, m2, m3, m4, m5, m6, m7, m8, m9, ma, mb, mc, md, me, mf, rfl⟩ := len16 hmrk
  have hnl : name.data.toList.length = name.size := by rw [Array.length_toList]; rfl
  have hodj : ∀ {k : Nat} (hk : k < ptl.length), 1 ≤ ptl[k].size ∧ ptl[k].size ≤ 255 := fun hk => oddN_zero hk hod
  refine c_seq ?_
  refine reg_plain w0 (Nobody) ?_
  refine r_box hS hH (by repeat (first | exact Sub.nil | refine Sub.cons ?_ ?_ | exact In.here | refine In.there ?_)) rfl rfl rfl ?_
  clear hS hH; intro a w b1 hb1 hwb1 hS hH
  refine r_assign hS hH.kp0 rfl rfl ?_; clear hS; intro a hS
  refine Sq.nil ?_
  refine then_n ?_
  refine c_seq ?_
  refine reg_plain w0 (Nobody) ?_
  refine r_assign hS hH.kp0 rfl rfl ?_; clear hS; intro a hS
  refine Sq.nil ?_
  refine then_n ?_
  refine c_seq ?_
  refine c_seq ?_
  refine reg_plain w0 (Nobody) ?_
  refine r_fieldAddr hS hH.kp0 rfl Fc.fo34_0 rfl ?_; clear hS; intro a hS
  refine r_load_sc hS hH (by repeat (first | exact Sub.nil | refine Sub.cons ?_ ?_ | exact In.here | refine In.there ?_)) rfl (by repeat (first | exact In.here | refine In.there ?_)) Fc.sc3 (by rfl) rfl ?_; clear hS; intro a hS
  refine Sq.nil ?_
  refine then_n ?_
  refine wp_block ?_
  refine c_seq ?_
  refine reg_plain w0 (Nobody) ?_
  refine r_eql hS hH.kp0 rfl rfl rfl ?_; clear hS; intro a hS
  refine r_assign hS hH.kp0 rfl rfl ?_; clear hS; intro a hS
  refine Sq.nil ?_
  refine then_n ?_
  refine c_condT hS rfl rfl ?_
  refine c_seq ?_
  refine reg_draw [(true, 0, []), (true, 1, []), (true, 2, []), (true, 4, []), (true, 5, []), (false, 3, []), (false, 6, []), (true, 7, [])] Fc.mixed (by kernel_rfl) (by kernel_rfl) (by kernel_rfl) (by kernel_rfl) (by kernel_rfl) (by repeat (first | with_reducible exact steady_body | with_reducible apply steady_block | with_reducible apply steady_then | with_reducible apply steady_scope | exact steady_body)) hH ?_
  replace hH := hH.drew
  refine r_move hS trivial rfl rfl ?_; clear hS; intro a hS
  refine r_fieldAddr hS trivial rfl Fc.fo34_1 rfl ?_; clear hS; intro a hS
  refine r_slArr hS trivial rfl Fc.ar22 rfl ?_; clear hS; intro a hS
  refine r_fieldAddr hS trivial rfl Fc.fo34_2 rfl ?_; clear hS; intro a hS
  refine r_slArr hS trivial rfl Fc.ar22 rfl ?_; clear hS; intro a hS
  refine r_append_nil hS hH (by repeat (first | exact Sub.nil | refine Sub.cons ?_ ?_ | exact In.here | refine In.there ?_)) rfl rfl Fc.el25 Fc.ni25 ((Bs.row (o := 0 + 1) (u := [r0, r1, r2, r3, r4, r5, r6, r7, r8, r9, ra, rb, rc, rd, re, rf]) (cap := 16) (hH.get (b := b1) (by repeat (first | exact In.here | refine In.there ?_))) rfl (Nat.le_refl 16))).src (by simp) (by simp) rfl ?_
  clear hS hH; intro a w by1 cy1 ky1 hwy1 hwwy1 hly1 hmy1 htky1 hExy1 hS hH
  have hBy1 : BB cy1 ky1 ([r0, r1, r2, r3, r4, r5, r6, r7, r8, r9, ra, rb, rc, rd, re, rf]) := ⟨by rw [hly1, Nat.mul_one], hmy1, by rw [Nat.mul_one] at htky1; exact htky1⟩
  rw [show ([r0, r1, r2, r3, r4, r5, r6, r7, r8, r9, ra, rb, rc, rd, re, rf] : List UInt8).length = ([r0, r1, r2, r3, r4, r5, r6, r7, r8, r9, ra, rb, rc, rd, re, rf]).length from by simp] at hS
  have hoby1 : Nobody by1 ∨ w0.heap.size ≤ by1 := .inr hwy1
  refine r_append_own hS hH rfl rfl (by repeat (first | exact .here | apply In.there | apply Put.there | apply Del.there)) (by repeat (first | exact Sub.nil | refine Sub.cons ?_ ?_ | exact In.here | refine In.there ?_)) Fc.el25 Fc.ni25 (by rw [hBy1.len, Nat.mul_one]) hBy1.le (Bs.row (o := 0 + 17) (u := [s0, s1, s2, s3, s4, s5, s6, s7, s8, s9, sa, sb, sc, sd, se, sf]) (cap := 16) (hH.get (b := b1) (by repeat (first | exact In.here | refine In.there ?_))) rfl (Nat.le_refl 16)).src (by first | omega | (simp only [List.length_append, List.length_cons, List.length_nil]; omega)) hoby1 rfl ?_
  clear hS hH; intro a w by2 cy2 ky2 hoby2 hly2 hcy2 hty2 hmy2 hS hH
  have hey2 : ([r0, r1, r2, r3, r4, r5, r6, r7, r8, r9, ra, rb, rc, rd, re, rf]).length + ([s0, s1, s2, s3, s4, s5, s6, s7, s8, s9, sa, sb, sc, sd, se, sf]).length = ([r0, r1, r2, r3, r4, r5, r6, r7, r8, r9, ra, rb, rc, rd, re, rf] ++ [s0, s1, s2, s3, s4, s5, s6, s7, s8, s9, sa, sb, sc, sd, se, sf]).length := (show ([r0, r1, r2, r3, r4, r5, r6, r7, r8, r9, ra, rb, rc, rd, re, rf]).length + ([s0, s1, s2, s3, s4, s5, s6, s7, s8, s9, sa, sb, sc, sd, se, sf]).length = ([r0, r1, r2, r3, r4, r5, r6, r7, r8, r9, ra, rb, rc, rd, re, rf] ++ [s0, s1, s2, s3, s4, s5, s6, s7, s8, s9, sa, sb, sc, sd, se, sf]).length from List.length_append.symm)
  have hBy2 : BB cy2 ky2 ([r0, r1, r2, r3, r4, r5, r6, r7, r8, r9, ra, rb, rc, rd, re, rf] ++ [s0, s1, s2, s3, s4, s5, s6, s7, s8, s9, sa, sb, sc, sd, se, sf]) := ⟨by rw [hly2, Nat.mul_one], by rw [← hey2]; exact hcy2, by rw [← hey2]; rw [Nat.mul_one, Nat.mul_one] at hty2; rw [hty2, hBy1.take]; exact List.map_append.symm⟩
  rw [hey2] at hS
  refine r_assign hS trivial rfl rfl ?_; clear hS; intro a hS
  refine Sq.nil ?_
  refine then_n ?_
  refine c_seq ?_
  refine reg_tree [(true, 0, [0]), (true, 1, [0]), (true, 2, [0]), (false, 3, [0]), (true, 4, [0]), (true, 5, [0]), (true, 6, [0]), (true, 7, [0]), (false, 8, [0]), (false, 9, [0]), (true, 10, [0])] (PT.ofPlan [(true, 0, [0]), (true, 1, [0]), (true, 2, [0]), (true, 4, [0]), (true, 5, [0]), (true, 6, [0]), (true, 7, [0])] (.fork (PT.ofPlan [(false, 3, [0]), (false, 8, [0]), (false, 9, [0]), (true, 10, [0])] .nil) (PT.ofPlan [(false, 8, [0]), (false, 3, [0]), (false, 9, [0]), (true, 10, [0])] .nil))) Fc.mixed (by kernel_rfl) (by kernel_rfl) (by kernel_rfl) (by kernel_rfl) (by kernel_rfl) (by kernel_rfl) (by repeat (first | with_reducible exact steady_body | with_reducible apply steady_block | with_reducible apply steady_then | with_reducible apply steady_scope | exact steady_body)) hH ?_
  replace hH := hH.drew
  refine tr_seg ?_
  refine r_move hS trivial rfl rfl ?_; clear hS; intro a hS
  refine r_fieldAddr hS trivial rfl Fc.fo34_3 rfl ?_; clear hS; intro a hS
  refine r_load_scS hS rfl (by repeat (first | exact In.here | refine In.there ?_)) Fc.sc9 (by rfl) rfl ?_; clear hS; intro a hS
  refine r_fieldAddr hS trivial rfl Fc.fo34_4 rfl ?_; clear hS; intro a hS
  refine r_load_scS hS rfl (by repeat (first | exact In.here | refine In.there ?_)) Fc.sc24 (by rfl) rfl ?_; clear hS; intro a hS
  refine r_lenSl hS trivial rfl Fc.isSlice24 rfl ?_; clear hS; intro a hS
  refine r_toU8 (q := ptl.length) (UInt8.ofNat (ptl.length)) hS trivial rfl Fc.ui5 Fc.us3 rfl rfl ?_; clear hS; intro a hS
  refine Sq.nil ?_
  refine then_n ?_
  refine tr_fork ?_ ?_
  · refine tr_seg ?_
    refine r_call (l := [.tmp 16, .tmp 18]) hS rfl rfl Fc.fn23 rfl ?_
    refine Calls.mono ((short_some by2 cy2 ky2 ([r0, r1, r2, r3, r4, r5, r6, r7, r8, r9, ra, rb, rc, rd, re, rf] ++ [s0, s1, s2, s3, s4, s5, s6, s7, s8, s9, sa, sb, sc, sd, se, sf]) name (by first | omega | (simp only [List.length_append, List.length_cons, List.length_nil]; omega)) (by omega) _ (hH.get (b := by2) (by repeat (first | exact In.here | refine In.there ?_))) hBy2).mono (fun e w1 hP => hP)) ?_
    rintro e w1 hP
    obtain ⟨by3, cy3, ky3, rfl, hry3, hky3, hBy3, hmy3⟩ := hP
    have hBy3 : BB cy3 ky3 ([r0, r1, r2, r3, r4, r5, r6, r7, r8, r9, ra, rb, rc, rd, re, rf] ++ [s0, s1, s2, s3, s4, s5, s6, s7, s8, s9, sa, sb, sc, sd, se, sf] ++ [UInt8.ofNat name.size] ++ name.data.toList) := hBy3
    have hoby3 : Nobody by3 ∨ w0.heap.size ≤ by3 := hry3.elim (fun h => by rw [h]; exact hoby2) (fun h => .inr (Nat.le_trans hH.mod.size h))
    replace hH := hH.modNew hmy3 (by repeat (first | exact .here | apply In.there | apply Put.there | apply Del.there)) hoby2 hry3 hky3
    refine ⟨_, rfl, hH.kp (by repeat (first | exact Sub.nil | refine Sub.cons ?_ ?_ | exact In.here | refine In.there ?_)), ?_⟩
    clear hS; intro a hS
    refine r_buildSlice (parts := [(0, .tmp 23)]) hS hH (by repeat (first | exact Sub.nil | refine Sub.cons ?_ ?_ | exact In.here | refine In.there ?_)) rfl Fc.bsl25_1 (by rfl) rfl ?_
    clear hS hH; intro a w b24 hb24 hwb24 hS hH
    refine r_append_own hS hH rfl rfl (by repeat (first | exact .here | apply In.there | apply Put.there | apply Del.there)) (by repeat (first | exact Sub.nil | refine Sub.cons ?_ ?_ | exact In.here | refine In.there ?_)) Fc.el25 Fc.ni25 (by rw [hBy3.len, Nat.mul_one]) hBy3.le ((BB.lit [UInt8.ofNat ptl.length] rfl rfl).bs (hH.get (b := b24) (by repeat (first | exact In.here | refine In.there ?_)))).src (by first | omega | (simp only [List.length_append, List.length_cons, List.length_nil]; omega)) hoby3 rfl ?_
    clear hS hH; intro a w by4 cy4 ky4 hoby4 hly4 hcy4 hty4 hmy4 hS hH
    have hey4 : ([r0, r1, r2, r3, r4, r5, r6, r7, r8, r9, ra, rb, rc, rd, re, rf] ++ [s0, s1, s2, s3, s4, s5, s6, s7, s8, s9, sa, sb, sc, sd, se, sf] ++ [UInt8.ofNat name.size] ++ name.data.toList).length + ([UInt8.ofNat ptl.length]).length = ([r0, r1, r2, r3, r4, r5, r6, r7, r8, r9, ra, rb, rc, rd, re, rf] ++ [s0, s1, s2, s3, s4, s5, s6, s7, s8, s9, sa, sb, sc, sd, se, sf] ++ [UInt8.ofNat name.size] ++ name.data.toList ++ [UInt8.ofNat ptl.length]).length := (show ([r0, r1, r2, r3, r4, r5, r6, r7, r8, r9, ra, rb, rc, rd, re, rf] ++ [s0, s1, s2, s3, s4, s5, s6, s7, s8, s9, sa, sb, sc, sd, se, sf] ++ [UInt8.ofNat name.size] ++ name.data.toList).length + ([UInt8.ofNat ptl.length]).length = ([r0, r1, r2, r3, r4, r5, r6, r7, r8, r9, ra, rb, rc, rd, re, rf] ++ [s0, s1, s2, s3, s4, s5, s6, s7, s8, s9, sa, sb, sc, sd, se, sf] ++ [UInt8.ofNat name.size] ++ name.data.toList ++ [UInt8.ofNat ptl.length]).length from List.length_append.symm)
    have hBy4 : BB cy4 ky4 ([r0, r1, r2, r3, r4, r5, r6, r7, r8, r9, ra, rb, rc, rd, re, rf] ++ [s0, s1, s2, s3, s4, s5, s6, s7, s8, s9, sa, sb, sc, sd, se, sf] ++ [UInt8.ofNat name.size] ++ name.data.toList ++ [UInt8.ofNat ptl.length]) := ⟨by rw [hly4, Nat.mul_one], by rw [← hey4]; exact hcy4, by rw [← hey4]; rw [Nat.mul_one, Nat.mul_one] at hty4; rw [hty4, hBy3.take]; exact List.map_append.symm⟩
    rw [hey4] at hS
    refine r_assign hS trivial rfl rfl ?_; clear hS; intro a hS
    refine Sq.nil ?_
    refine then_n ?_
    refine tr_nil ?_
    refine then_n ?_
    refine c_seq ?_
    refine c_seq ?_
    obtain ⟨U, hU⟩ : ∃ U, U = ([r0, r1, r2, r3, r4, r5, r6, r7, r8, r9, ra, rb, rc, rd, re, rf] ++ [s0, s1, s2, s3, s4, s5, s6, s7, s8, s9, sa, sb, sc, sd, se, sf] ++ [UInt8.ofNat name.size] ++ name.data.toList ++ [UInt8.ofNat ptl.length]) := ⟨_, rfl⟩
    have hUl : U.length ≤ 300 := by rw [hU]; first | omega | (simp only [List.length_append, List.length_cons, List.length_nil]; omega)
    rw [← hU] at hS hBy4
    refine reg_plain w0 (Nobody) ?_
    refine r_assign hS hH.kp0 rfl rfl ?_; clear hS; intro a hS
    refine Sq.nil ?_
    refine then_n ?_
    refine wp_block ?_
    refine c_loop (fun m a w => ∃ (j : Nat) (i : Int) (by5 cy5 : Nat) (ky5 : List Value), m + j = ptl.length ∧ i = j ∧ w0.heap.size ≤ by5 ∧ BB cy5 ky5 (U ++ prsB (ptl.take j)) ∧ St 133 (lv [(1, .pointer (some ⟨b1, 0, none⟩)), (3, .slice (some ⟨by5, 0, none⟩) (U ++ prsB (ptl.take j)).length cy5), (4, .int .i64 i)]) a ∧ Hp w0 Nobody [(by5, .cells ky5.toArray 5 (0, 0)), (b1, .cells ([.int .i64 1] ++ hcells [r0, r1, r2, r3, r4, r5, r6, r7, r8, r9, ra, rb, rc, rd, re, rf] ++ hcells [s0, s1, s2, s3, s4, s5, s6, s7, s8, s9, sa, sb, sc, sd, se, sf] ++ [.string name, .slice q1 ptl.length c1, .slice q2 prm.length c2, .slice q3 tck.length c3] ++ hcells [n0, n1, n2, n3, n4, n5, n6, n7, n8, n9, na, nb, nc, nd, ne, nf] ++ [.bool false, .bool ag] ++ hcells [m0, m1, m2, m3, m4, m5, m6, m7, m8, m9, ma, mb, mc, md, me, mf] ++ [.int .i64 li] : List Value).toArray 34 (0, 0))] w) (ptl.length) ?_ ?_
    · refine ⟨0, _, by4, cy4, ky4, by omega, rfl, hoby4.resolve_left (fun h => h), by rw [List.take_zero, show prsB [] = [] from rfl, List.append_nil]; exact hBy4, ?_, hH.sub (by repeat (first | exact Sub.nil | refine Sub.cons ?_ ?_ | exact In.here | refine In.there ?_)) (by have nd := hH.nd; simp only [List.map_cons, List.map_nil, List.nodup_cons, List.mem_cons, List.not_mem_nil, or_false, not_or, List.nodup_nil, and_true, not_false_iff] at nd ⊢; omega)⟩
      rw [List.take_zero, show prsB [] = [] from rfl, List.append_nil]
      exact hS.live ⟨rfl, rfl, rfl, trivial⟩
    clear hS hH; intro m a w hI; obtain ⟨j, i, by5, cy5, ky5, hmj, hi, hwy5, hBy5, hS, hH⟩ := hI
    refine c_seq ?_
    refine c_seq ?_
    refine reg_plain w0 (Nobody) ?_
    refine r_move hS hH.kp0 rfl rfl ?_; clear hS; intro a hS
    refine r_fieldAddr hS hH.kp0 rfl Fc.fo34_4 rfl ?_; clear hS; intro a hS
    refine r_load_sc hS hH (by repeat (first | exact Sub.nil | refine Sub.cons ?_ ?_ | exact In.here | refine In.there ?_)) rfl (by repeat (first | exact In.here | refine In.there ?_)) Fc.sc24 (by rfl) rfl ?_; clear hS; intro a hS
    refine r_lenSl hS hH.kp0 rfl Fc.isSlice24 rfl ?_; clear hS; intro a hS
    refine r_lss hS hH.kp0 rfl rfl rfl ?_; clear hS; intro a hS
    refine Sq.nil ?_
    refine then_n ?_
    refine c_cond hS rfl (fun hc1 => ?_) (fun hc1 => ?_)
    · have hk : j < ptl.length := by have := of_decide_eq_true hc1; omega
      obtain ⟨ba, bo, hpq, hcell⟩ := (hpt.ext hH.mod).cell hk
      subst hpq
      have hpj := prsB_len _ (oddN_take j hod)
      have hpj2 : (ptl.take j).length ≤ 8 := by rw [List.length_take]; omega
      have hnj : ptl[j].data.toList.length = ptl[j].size := by rw [Array.length_toList]; rfl
      have hoby5 : Nobody by5 ∨ w0.heap.size ≤ by5 := .inr hwy5
      refine wp_skip ?_
      refine then_n ?_
      refine c_seq ?_
      refine wp_block ?_
      refine reg_plain w0 (Nobody) ?_
      refine r_move hS hH.kp0 rfl rfl ?_; clear hS; intro a hS
      refine r_fieldAddr hS hH.kp0 rfl Fc.fo34_4 rfl ?_; clear hS; intro a hS
      refine r_load_sc hS hH (by repeat (first | exact Sub.nil | refine Sub.cons ?_ ?_ | exact In.here | refine In.there ?_)) rfl (by repeat (first | exact In.here | refine In.there ?_)) Fc.sc24 (by rfl) rfl ?_; clear hS; intro a hS
      refine r_move hS hH.kp0 rfl rfl ?_; clear hS; intro a hS
      refine r_indexAddrS (j := j) hS hH.kp0 rfl rfl Fc.slb24 hi hk rfl ?_; clear hS; intro a hS
      refine r_load_cell hS hH.kp0 rfl hcell Fc.sc9 rfl ?_; clear hS; intro a hS
      refine r_call (l := [.tmp 33, .tmp 38]) hS rfl rfl Fc.fn23 rfl ?_
      refine Calls.mono ((short_some by5 cy5 ky5 (U ++ prsB (ptl.take j)) ptl[j] (by first | omega | (simp only [List.length_append, List.length_cons, List.length_nil]; omega)) (by have := hodj hk; omega) _ (hH.get (b := by5) (by repeat (first | exact In.here | refine In.there ?_))) hBy5).mono (fun e w1 hP => hP)) ?_
      rintro e w1 hP
      obtain ⟨by6, cy6, ky6, rfl, hry6, hky6, hBy6, hmy6⟩ := hP
      have hBy6 : BB cy6 ky6 (U ++ prsB (ptl.take j) ++ [UInt8.ofNat ptl[j].size] ++ ptl[j].data.toList) := hBy6
      have hoby6 : Nobody by6 ∨ w0.heap.size ≤ by6 := hry6.elim (fun h => by rw [h]; exact hoby5) (fun h => .inr (Nat.le_trans hH.mod.size h))
      replace hH := hH.modNew hmy6 (by repeat (first | exact .here | apply In.there | apply Put.there | apply Del.there)) hoby5 hry6 hky6
      refine ⟨_, rfl, hH.kp0, ?_⟩
      clear hS; intro a hS
      refine r_assign hS hH.kp0 rfl rfl ?_; clear hS; intro a hS
      refine Sq.nil ?_
      refine blk_n ?_
      refine then_n ?_
      refine reg_plain w0 (Nobody) ?_
      refine r_move hS hH.kp0 rfl rfl ?_; clear hS; intro a hS
      (first | refine r_add hS hH.kp0 rfl rfl rfl (by omega) ?_ | refine r_addw hS hH.kp0 rfl rfl rfl ?_)
      clear hS; intro a hS
      refine r_assign hS hH.kp0 rfl rfl ?_; clear hS; intro a hS
      refine Sq.nil ?_
      refine then_n ?_
      have hsx : U ++ prsB (ptl.take j) ++ [UInt8.ofNat ptl[j].size] ++ ptl[j].data.toList = U ++ prsB (ptl.take (j + 1)) := by rw [prsB_succ hk, beB1]; simp only [List.append_assoc]
      rw [hsx] at hBy6 hS
      refine ⟨m - 1, by omega, j + 1, _, by6, cy6, ky6, by omega, ?_, hoby6.resolve_left (fun h => h), hBy6, hS.live ⟨rfl, rfl, rfl, trivial⟩, hH.sub (by repeat (first | exact Sub.nil | refine Sub.cons ?_ ?_ | exact In.here | refine In.there ?_)) (by have nd := hH.nd; simp only [List.map_cons, List.map_nil, List.nodup_cons, List.mem_cons, List.not_mem_nil, or_false, not_or, List.nodup_nil, and_true, not_false_iff] at nd ⊢; omega)⟩
      omega
    · have hke : j = ptl.length := by have := of_decide_eq_false hc1; omega
      subst hke
      rw [List.take_of_length_le (Nat.le_refl _)] at hBy5 hS
      have hpj := prsB_len _ hod
      have hoby5 : Nobody by5 ∨ w0.heap.size ≤ by5 := .inr hwy5
      refine wp_exit ?_
      refine then_e ?_
      refine then_e ?_
      refine blk_hit ?_
      refine then_n ?_
      refine c_seq ?_
      refine reg_draw [(true, 0, [0]), (true, 1, [0]), (true, 2, [0]), (true, 4, [0]), (true, 5, [0]), (true, 6, [0]), (true, 7, [0]), (true, 8, [0]), (true, 9, [0]), (false, 3, [0]), (false, 10, [0]), (true, 11, [0])] Fc.mixed (by kernel_rfl) (by kernel_rfl) (by kernel_rfl) (by kernel_rfl) (by kernel_rfl) (by repeat (first | with_reducible exact steady_body | with_reducible apply steady_block | with_reducible apply steady_then | with_reducible apply steady_scope | exact steady_body)) hH ?_
      replace hH := hH.drew
      refine r_move hS trivial rfl rfl ?_; clear hS; intro a hS
      refine r_fieldAddr hS trivial rfl Fc.fo34_5 rfl ?_; clear hS; intro a hS
      refine r_load_scS hS rfl (by repeat (first | exact In.here | refine In.there ?_)) Fc.sc25 (by rfl) rfl ?_; clear hS; intro a hS
      refine r_fieldAddr hS trivial rfl Fc.fo34_6 rfl ?_; clear hS; intro a hS
      refine r_load_scS hS rfl (by repeat (first | exact In.here | refine In.there ?_)) Fc.sc25 (by rfl) rfl ?_; clear hS; intro a hS
      refine r_lenSl hS trivial rfl Fc.isSlice25 rfl ?_; clear hS; intro a hS
      refine r_gtr hS trivial rfl rfl rfl ?_; clear hS; intro a hS
      rw [show decide ((tck.length : Int) > 0) = true from DT (by omega)] at hS
      refine r_fieldAddr hS trivial rfl Fc.fo34_8 rfl ?_; clear hS; intro a hS
      refine r_load_scS hS rfl (by repeat (first | exact In.here | refine In.there ?_)) Fc.sc4 (by rfl) rfl ?_; clear hS; intro a hS
      refine r_call (l := [.tmp 40, .tmp 42]) hS rfl rfl Fc.fn25 rfl ?_
      refine Calls.mono ((long_some by5 cy5 ky5 (U ++ prsB ptl) q2 c2 prm (by first | omega | (simp only [List.length_append, List.length_cons, List.length_nil]; omega)) (by omega) _ (hH.get (b := by5) (by repeat (first | exact In.here | refine In.there ?_))) hBy5 (hbP.go hH.mod (fun x hx => .inr (by subst hx; exact hoby5.resolve_left (fun h => h))))).mono (fun e w1 hP => hP)) ?_
      rintro e w1 hP
      obtain ⟨by6, cy6, ky6, rfl, hry6, hky6, hBy6, hmy6⟩ := hP
      have hBy6 : BB cy6 ky6 (U ++ prsB ptl ++ [UInt8.ofNat (prm.length / 256), UInt8.ofNat prm.length] ++ prm) := hBy6
      have hoby6 : Nobody by6 ∨ w0.heap.size ≤ by6 := hry6.elim (fun h => by rw [h]; exact hoby5) (fun h => .inr (Nat.le_trans hH.mod.size h))
      replace hH := hH.modNew hmy6 (by repeat (first | exact .here | apply In.there | apply Put.there | apply Del.there)) hoby5 hry6 hky6
      refine ⟨_, rfl, hH.kp (by repeat (first | exact Sub.nil | refine Sub.cons ?_ ?_ | exact In.here | refine In.there ?_)), ?_⟩
      clear hS; intro a hS
      refine r_call (l := [.tmp 43, .tmp 47, .tmp 49]) hS rfl rfl Fc.fn24 rfl ?_
      refine Calls.mono ((flag_tf by6 cy6 ky6 (U ++ prsB ptl ++ [UInt8.ofNat (prm.length / 256), UInt8.ofNat prm.length] ++ prm) (by first | omega | (simp only [List.length_append, List.length_cons, List.length_nil]; omega)) _ (hH.get (b := by6) (by repeat (first | exact In.here | refine In.there ?_))) hBy6).mono (fun e w1 hP => hP)) ?_
      rintro e w1 hP
      obtain ⟨by7, cy7, ky7, rfl, hry7, hky7, hBy7, hmy7⟩ := hP
      have hBy7 : BB cy7 ky7 (U ++ prsB ptl ++ [UInt8.ofNat (prm.length / 256), UInt8.ofNat prm.length] ++ prm ++ [1]) := hBy7
      have hoby7 : Nobody by7 ∨ w0.heap.size ≤ by7 := hry7.elim (fun h => by rw [h]; exact hoby6) (fun h => .inr (Nat.le_trans hH.mod.size h))
      replace hH := hH.modNew hmy7 (by repeat (first | exact .here | apply In.there | apply Put.there | apply Del.there)) hoby6 hry7 hky7
      refine ⟨_, rfl, hH.kp (by repeat (first | exact Sub.nil | refine Sub.cons ?_ ?_ | exact In.here | refine In.there ?_)), ?_⟩
      clear hS; intro a hS
      refine r_assign hS trivial rfl rfl ?_; clear hS; intro a hS
      refine Sq.nil ?_
      refine then_n ?_
      refine c_seq ?_
      refine reg_plain w0 (Nobody) ?_
      refine r_fieldAddr hS hH.kp0 rfl Fc.fo34_6 rfl ?_; clear hS; intro a hS
      refine r_load_sc hS hH (by repeat (first | exact Sub.nil | refine Sub.cons ?_ ?_ | exact In.here | refine In.there ?_)) rfl (by repeat (first | exact In.here | refine In.there ?_)) Fc.sc25 (by rfl) rfl ?_; clear hS; intro a hS
      refine r_lenSl hS hH.kp0 rfl Fc.isSlice25 rfl ?_; clear hS; intro a hS
      refine r_gtr hS hH.kp0 rfl rfl rfl ?_; clear hS; intro a hS
      refine Sq.nil ?_
      refine then_n ?_
      refine c_condT hS rfl (DT (by omega)) ?_
      refine reg_draw [(true, 0, [0]), (true, 1, [0]), (true, 2, [0]), (true, 4, [0]), (true, 5, [0]), (false, 3, [0]), (false, 6, [0]), (true, 7, [0])] Fc.mixed (by kernel_rfl) (by kernel_rfl) (by kernel_rfl) (by kernel_rfl) (by kernel_rfl) (by repeat (first | with_reducible exact steady_body | with_reducible apply steady_block | with_reducible apply steady_then | with_reducible apply steady_scope | exact steady_body)) hH ?_
      replace hH := hH.drew
      refine r_move hS trivial rfl rfl ?_; clear hS; intro a hS
      refine r_fieldAddr hS trivial rfl Fc.fo34_6 rfl ?_; clear hS; intro a hS
      refine r_load_scS hS rfl (by repeat (first | exact In.here | refine In.there ?_)) Fc.sc25 (by rfl) rfl ?_; clear hS; intro a hS
      refine r_fieldAddr hS trivial rfl Fc.fo34_7 rfl ?_; clear hS; intro a hS
      refine r_slArr hS trivial rfl Fc.ar22 rfl ?_; clear hS; intro a hS
      refine r_call (l := [.tmp 55, .tmp 57]) hS rfl rfl Fc.fn25 rfl ?_
      refine Calls.mono ((long_some by7 cy7 ky7 (U ++ prsB ptl ++ [UInt8.ofNat (prm.length / 256), UInt8.ofNat prm.length] ++ prm ++ [1]) q3 c3 tck (by first | omega | (simp only [List.length_append, List.length_cons, List.length_nil]; omega)) (by omega) _ (hH.get (b := by7) (by repeat (first | exact In.here | refine In.there ?_))) hBy7 (hbT.go hH.mod (fun x hx => .inr (by subst hx; exact hoby7.resolve_left (fun h => h))))).mono (fun e w1 hP => hP)) ?_
      rintro e w1 hP
      obtain ⟨by8, cy8, ky8, rfl, hry8, hky8, hBy8, hmy8⟩ := hP
      have hBy8 : BB cy8 ky8 (U ++ prsB ptl ++ [UInt8.ofNat (prm.length / 256), UInt8.ofNat prm.length] ++ prm ++ [1] ++ [UInt8.ofNat (tck.length / 256), UInt8.ofNat tck.length] ++ tck) := hBy8
      have hoby8 : Nobody by8 ∨ w0.heap.size ≤ by8 := hry8.elim (fun h => by rw [h]; exact hoby7) (fun h => .inr (Nat.le_trans hH.mod.size h))
      replace hH := hH.modNew hmy8 (by repeat (first | exact .here | apply In.there | apply Put.there | apply Del.there)) hoby7 hry8 hky8
      refine ⟨_, rfl, hH.kp (by repeat (first | exact Sub.nil | refine Sub.cons ?_ ?_ | exact In.here | refine In.there ?_)), ?_⟩
      clear hS; intro a hS
      refine r_append_own hS hH rfl rfl (by repeat (first | exact .here | apply In.there | apply Put.there | apply Del.there)) (by repeat (first | exact Sub.nil | refine Sub.cons ?_ ?_ | exact In.here | refine In.there ?_)) Fc.el25 Fc.ni25 (by rw [hBy8.len, Nat.mul_one]) hBy8.le (Bs.row (o := 0 + 37) (u := [n0, n1, n2, n3, n4, n5, n6, n7, n8, n9, na, nb, nc, nd, ne, nf]) (cap := 16) (hH.get (b := b1) (by repeat (first | exact In.here | refine In.there ?_))) rfl (Nat.le_refl 16)).src (by first | omega | (simp only [List.length_append, List.length_cons, List.length_nil]; omega)) hoby8 rfl ?_
      clear hS hH; intro a w by9 cy9 ky9 hoby9 hly9 hcy9 hty9 hmy9 hS hH
      have hey9 : (U ++ prsB ptl ++ [UInt8.ofNat (prm.length / 256), UInt8.ofNat prm.length] ++ prm ++ [1] ++ [UInt8.ofNat (tck.length / 256), UInt8.ofNat tck.length] ++ tck).length + ([n0, n1, n2, n3, n4, n5, n6, n7, n8, n9, na, nb, nc, nd, ne, nf]).length = (U ++ prsB ptl ++ [UInt8.ofNat (prm.length / 256), UInt8.ofNat prm.length] ++ prm ++ [1] ++ [UInt8.ofNat (tck.length / 256), UInt8.ofNat tck.length] ++ tck ++ [n0, n1, n2, n3, n4, n5, n6, n7, n8, n9, na, nb, nc, nd, ne, nf]).length := (show (U ++ prsB ptl ++ [UInt8.ofNat (prm.length / 256), UInt8.ofNat prm.length] ++ prm ++ [1] ++ [UInt8.ofNat (tck.length / 256), UInt8.ofNat tck.length] ++ tck).length + ([n0, n1, n2, n3, n4, n5, n6, n7, n8, n9, na, nb, nc, nd, ne, nf]).length = (U ++ prsB ptl ++ [UInt8.ofNat (prm.length / 256), UInt8.ofNat prm.length] ++ prm ++ [1] ++ [UInt8.ofNat (tck.length / 256), UInt8.ofNat tck.length] ++ tck ++ [n0, n1, n2, n3, n4, n5, n6, n7, n8, n9, na, nb, nc, nd, ne, nf]).length from List.length_append.symm)
      have hBy9 : BB cy9 ky9 (U ++ prsB ptl ++ [UInt8.ofNat (prm.length / 256), UInt8.ofNat prm.length] ++ prm ++ [1] ++ [UInt8.ofNat (tck.length / 256), UInt8.ofNat tck.length] ++ tck ++ [n0, n1, n2, n3, n4, n5, n6, n7, n8, n9, na, nb, nc, nd, ne, nf]) := ⟨by rw [hly9, Nat.mul_one], by rw [← hey9]; exact hcy9, by rw [← hey9]; rw [Nat.mul_one, Nat.mul_one] at hty9; rw [hty9, hBy8.take]; exact List.map_append.symm⟩
      rw [hey9] at hS
      refine r_assign hS trivial rfl rfl ?_; clear hS; intro a hS
      refine Sq.nil ?_
      refine blk_n ?_
      refine then_n ?_
      refine c_seq ?_
      refine reg_plain w0 (Nobody) ?_
      refine r_move hS hH.kp0 rfl rfl ?_; clear hS; intro a hS
      refine r_assign hS hH.kp0 rfl rfl ?_; clear hS; intro a hS
      refine Sq.nil ?_
      refine then_n ?_
      refine wp_ret ?_
      have hfin : U ++ prsB ptl ++ [UInt8.ofNat (prm.length / 256), UInt8.ofNat prm.length] ++ prm ++ [1] ++ [UInt8.ofNat (tck.length / 256), UInt8.ofNat tck.length] ++ tck ++ [n0, n1, n2, n3, n4, n5, n6, n7, n8, n9, na, nb, nc, nd, ne, nf] = bodyB 1 [r0, r1, r2, r3, r4, r5, r6, r7, r8, r9, ra, rb, rc, rd, re, rf] [s0, s1, s2, s3, s4, s5, s6, s7, s8, s9, sa, sb, sc, sd, se, sf] name ptl prm tck [n0, n1, n2, n3, n4, n5, n6, n7, n8, n9, na, nb, nc, nd, ne, nf] false ag [m0, m1, m2, m3, m4, m5, m6, m7, m8, m9, ma, mb, mc, md, me, mf] li := by rw [hU]; unfold bodyB; rw [if_pos rfl]; simp [beB1, beB2, List.append_assoc, show 0 < tck.length from htk1]
      rw [hfin] at hS hBy9
      exact leave (.inl rfl) hS rfl (Res.tmp rfl Res.nil) ⟨by9, cy9, ky9, rfl, hoby9.resolve_left (fun h => h), hH.get (b := by9) (by repeat (first | exact In.here | refine In.there ?_)), hBy9, hH.mod⟩
  · refine tr_seg ?_
    refine r_buildSlice (parts := [(0, .tmp 23)]) hS hH (by repeat (first | exact Sub.nil | refine Sub.cons ?_ ?_ | exact In.here | refine In.there ?_)) rfl Fc.bsl25_1 (by rfl) rfl ?_
    clear hS hH; intro a w b24 hb24 hwb24 hS hH
    refine r_call (l := [.tmp 16, .tmp 18]) hS rfl rfl Fc.fn23 rfl ?_
    refine Calls.mono ((short_some by2 cy2 ky2 ([r0, r1, r2, r3, r4, r5, r6, r7, r8, r9, ra, rb, rc, rd, re, rf] ++ [s0, s1, s2, s3, s4, s5, s6, s7, s8, s9, sa, sb, sc, sd, se, sf]) name (by first | omega | (simp only [List.length_append, List.length_cons, List.length_nil]; omega)) (by omega) _ (hH.get (b := by2) (by repeat (first | exact In.here | refine In.there ?_))) hBy2).mono (fun e w1 hP => hP)) ?_
    rintro e w1 hP
    obtain ⟨by3, cy3, ky3, rfl, hry3, hky3, hBy3, hmy3⟩ := hP
    have hBy3 : BB cy3 ky3 ([r0, r1, r2, r3, r4, r5, r6, r7, r8, r9, ra, rb, rc, rd, re, rf] ++ [s0, s1, s2, s3, s4, s5, s6, s7, s8, s9, sa, sb, sc, sd, se, sf] ++ [UInt8.ofNat name.size] ++ name.data.toList) := hBy3
    have hoby3 : Nobody by3 ∨ w0.heap.size ≤ by3 := hry3.elim (fun h => by rw [h]; exact hoby2) (fun h => .inr (Nat.le_trans hH.mod.size h))
    replace hH := hH.modNew hmy3 (by repeat (first | exact .here | apply In.there | apply Put.there | apply Del.there)) hoby2 hry3 hky3
    refine ⟨_, rfl, hH.kp (by repeat (first | exact Sub.nil | refine Sub.cons ?_ ?_ | exact In.here | refine In.there ?_)), ?_⟩
    clear hS; intro a hS
    refine r_append_own hS hH rfl rfl (by repeat (first | exact .here | apply In.there | apply Put.there | apply Del.there)) (by repeat (first | exact Sub.nil | refine Sub.cons ?_ ?_ | exact In.here | refine In.there ?_)) Fc.el25 Fc.ni25 (by rw [hBy3.len, Nat.mul_one]) hBy3.le ((BB.lit [UInt8.ofNat ptl.length] rfl rfl).bs (hH.get (b := b24) (by repeat (first | exact In.here | refine In.there ?_)))).src (by first | omega | (simp only [List.length_append, List.length_cons, List.length_nil]; omega)) hoby3 rfl ?_
    clear hS hH; intro a w by4 cy4 ky4 hoby4 hly4 hcy4 hty4 hmy4 hS hH
    have hey4 : ([r0, r1, r2, r3, r4, r5, r6, r7, r8, r9, ra, rb, rc, rd, re, rf] ++ [s0, s1, s2, s3, s4, s5, s6, s7, s8, s9, sa, sb, sc, sd, se, sf] ++ [UInt8.ofNat name.size] ++ name.data.toList).length + ([UInt8.ofNat ptl.length]).length = ([r0, r1, r2, r3, r4, r5, r6, r7, r8, r9, ra, rb, rc, rd, re, rf] ++ [s0, s1, s2, s3, s4, s5, s6, s7, s8, s9, sa, sb, sc, sd, se, sf] ++ [UInt8.ofNat name.size] ++ name.data.toList ++ [UInt8.ofNat ptl.length]).length := (show ([r0, r1, r2, r3, r4, r5, r6, r7, r8, r9, ra, rb, rc, rd, re, rf] ++ [s0, s1, s2, s3, s4, s5, s6, s7, s8, s9, sa, sb, sc, sd, se, sf] ++ [UInt8.ofNat name.size] ++ name.data.toList).length + ([UInt8.ofNat ptl.length]).length = ([r0, r1, r2, r3, r4, r5, r6, r7, r8, r9, ra, rb, rc, rd, re, rf] ++ [s0, s1, s2, s3, s4, s5, s6, s7, s8, s9, sa, sb, sc, sd, se, sf] ++ [UInt8.ofNat name.size] ++ name.data.toList ++ [UInt8.ofNat ptl.length]).length from List.length_append.symm)
    have hBy4 : BB cy4 ky4 ([r0, r1, r2, r3, r4, r5, r6, r7, r8, r9, ra, rb, rc, rd, re, rf] ++ [s0, s1, s2, s3, s4, s5, s6, s7, s8, s9, sa, sb, sc, sd, se, sf] ++ [UInt8.ofNat name.size] ++ name.data.toList ++ [UInt8.ofNat ptl.length]) := ⟨by rw [hly4, Nat.mul_one], by rw [← hey4]; exact hcy4, by rw [← hey4]; rw [Nat.mul_one, Nat.mul_one] at hty4; rw [hty4, hBy3.take]; exact List.map_append.symm⟩
    rw [hey4] at hS
    refine r_assign hS trivial rfl rfl ?_; clear hS; intro a hS
    refine Sq.nil ?_
    refine then_n ?_
    refine tr_nil ?_
    refine then_n ?_
    refine c_seq ?_
    refine c_seq ?_
    obtain ⟨U, hU⟩ : ∃ U, U = ([r0, r1, r2, r3, r4, r5, r6, r7, r8, r9, ra, rb, rc, rd, re, rf] ++ [s0, s1, s2, s3, s4, s5, s6, s7, s8, s9, sa, sb, sc, sd, se, sf] ++ [UInt8.ofNat name.size] ++ name.data.toList ++ [UInt8.ofNat ptl.length]) := ⟨_, rfl⟩
    have hUl : U.length ≤ 300 := by rw [hU]; first | omega | (simp only [List.length_append, List.length_cons, List.length_nil]; omega)
    rw [← hU] at hS hBy4
    refine reg_plain w0 (Nobody) ?_
    refine r_assign hS hH.kp0 rfl rfl ?_; clear hS; intro a hS
    refine Sq.nil ?_
    refine then_n ?_
    refine wp_block ?_
    refine c_loop (fun m a w => ∃ (j : Nat) (i : Int) (by5 cy5 : Nat) (ky5 : List Value), m + j = ptl.length ∧ i = j ∧ w0.heap.size ≤ by5 ∧ BB cy5 ky5 (U ++ prsB (ptl.take j)) ∧ St 133 (lv [(1, .pointer (some ⟨b1, 0, none⟩)), (3, .slice (some ⟨by5, 0, none⟩) (U ++ prsB (ptl.take j)).length cy5), (4, .int .i64 i)]) a ∧ Hp w0 Nobody [(by5, .cells ky5.toArray 5 (0, 0)), (b1, .cells ([.int .i64 1] ++ hcells [r0, r1, r2, r3, r4, r5, r6, r7, r8, r9, ra, rb, rc, rd, re, rf] ++ hcells [s0, s1, s2, s3, s4, s5, s6, s7, s8, s9, sa, sb, sc, sd, se, sf] ++ [.string name, .slice q1 ptl.length c1, .slice q2 prm.length c2, .slice q3 tck.length c3] ++ hcells [n0, n1, n2, n3, n4, n5, n6, n7, n8, n9, na, nb, nc, nd, ne, nf] ++ [.bool false, .bool ag] ++ hcells [m0, m1, m2, m3, m4, m5, m6, m7, m8, m9, ma, mb, mc, md, me, mf] ++ [.int .i64 li] : List Value).toArray 34 (0, 0))] w) (ptl.length) ?_ ?_
    · refine ⟨0, _, by4, cy4, ky4, by omega, rfl, hoby4.resolve_left (fun h => h), by rw [List.take_zero, show prsB [] = [] from rfl, List.append_nil]; exact hBy4, ?_, hH.sub (by repeat (first | exact Sub.nil | refine Sub.cons ?_ ?_ | exact In.here | refine In.there ?_)) (by have nd := hH.nd; simp only [List.map_cons, List.map_nil, List.nodup_cons, List.mem_cons, List.not_mem_nil, or_false, not_or, List.nodup_nil, and_true, not_false_iff] at nd ⊢; omega)⟩
      rw [List.take_zero, show prsB [] = [] from rfl, List.append_nil]
      exact hS.live ⟨rfl, rfl, rfl, trivial⟩
    clear hS hH; intro m a w hI; obtain ⟨j, i, by5, cy5, ky5, hmj, hi, hwy5, hBy5, hS, hH⟩ := hI
    refine c_seq ?_
    refine c_seq ?_
    refine reg_plain w0 (Nobody) ?_
    refine r_move hS hH.kp0 rfl rfl ?_; clear hS; intro a hS
    refine r_fieldAddr hS hH.kp0 rfl Fc.fo34_4 rfl ?_; clear hS; intro a hS
    refine r_load_sc hS hH (by repeat (first | exact Sub.nil | refine Sub.cons ?_ ?_ | exact In.here | refine In.there ?_)) rfl (by repeat (first | exact In.here | refine In.there ?_)) Fc.sc24 (by rfl) rfl ?_; clear hS; intro a hS
    refine r_lenSl hS hH.kp0 rfl Fc.isSlice24 rfl ?_; clear hS; intro a hS
    refine r_lss hS hH.kp0 rfl rfl rfl ?_; clear hS; intro a hS
    refine Sq.nil ?_
    refine then_n ?_
    refine c_cond hS rfl (fun hc1 => ?_) (fun hc1 => ?_)
    · have hk : j < ptl.length := by have := of_decide_eq_true hc1; omega
      obtain ⟨ba, bo, hpq, hcell⟩ := (hpt.ext hH.mod).cell hk
      subst hpq
      have hpj := prsB_len _ (oddN_take j hod)
      have hpj2 : (ptl.take j).length ≤ 8 := by rw [List.length_take]; omega
      have hnj : ptl[j].data.toList.length = ptl[j].size := by rw [Array.length_toList]; rfl
      have hoby5 : Nobody by5 ∨ w0.heap.size ≤ by5 := .inr hwy5
      refine wp_skip ?_
      refine then_n ?_
      refine c_seq ?_
      refine wp_block ?_
      refine reg_plain w0 (Nobody) ?_
      refine r_move hS hH.kp0 rfl rfl ?_; clear hS; intro a hS
      refine r_fieldAddr hS hH.kp0 rfl Fc.fo34_4 rfl ?_; clear hS; intro a hS
      refine r_load_sc hS hH (by repeat (first | exact Sub.nil | refine Sub.cons ?_ ?_ | exact In.here | refine In.there ?_)) rfl (by repeat (first | exact In.here | refine In.there ?_)) Fc.sc24 (by rfl) rfl ?_; clear hS; intro a hS
      refine r_move hS hH.kp0 rfl rfl ?_; clear hS; intro a hS
      refine r_indexAddrS (j := j) hS hH.kp0 rfl rfl Fc.slb24 hi hk rfl ?_; clear hS; intro a hS
      refine r_load_cell hS hH.kp0 rfl hcell Fc.sc9 rfl ?_; clear hS; intro a hS
      refine r_call (l := [.tmp 33, .tmp 38]) hS rfl rfl Fc.fn23 rfl ?_
      refine Calls.mono ((short_some by5 cy5 ky5 (U ++ prsB (ptl.take j)) ptl[j] (by first | omega | (simp only [List.length_append, List.length_cons, List.length_nil]; omega)) (by have := hodj hk; omega) _ (hH.get (b := by5) (by repeat (first | exact In.here | refine In.there ?_))) hBy5).mono (fun e w1 hP => hP)) ?_
      rintro e w1 hP
      obtain ⟨by6, cy6, ky6, rfl, hry6, hky6, hBy6, hmy6⟩ := hP
      have hBy6 : BB cy6 ky6 (U ++ prsB (ptl.take j) ++ [UInt8.ofNat ptl[j].size] ++ ptl[j].data.toList) := hBy6
      have hoby6 : Nobody by6 ∨ w0.heap.size ≤ by6 := hry6.elim (fun h => by rw [h]; exact hoby5) (fun h => .inr (Nat.le_trans hH.mod.size h))
      replace hH := hH.modNew hmy6 (by repeat (first | exact .here | apply In.there | apply Put.there | apply Del.there)) hoby5 hry6 hky6
      refine ⟨_, rfl, hH.kp0, ?_⟩
      clear hS; intro a hS
      refine r_assign hS hH.kp0 rfl rfl ?_; clear hS; intro a hS
      refine Sq.nil ?_
      refine blk_n ?_
      refine then_n ?_
      refine reg_plain w0 (Nobody) ?_
      refine r_move hS hH.kp0 rfl rfl ?_; clear hS; intro a hS
      (first | refine r_add hS hH.kp0 rfl rfl rfl (by omega) ?_ | refine r_addw hS hH.kp0 rfl rfl rfl ?_)
      clear hS; intro a hS
      refine r_assign hS hH.kp0 rfl rfl ?_; clear hS; intro a hS
      refine Sq.nil ?_
      refine then_n ?_
      have hsx : U ++ prsB (ptl.take j) ++ [UInt8.ofNat ptl[j].size] ++ ptl[j].data.toList = U ++ prsB (ptl.take (j + 1)) := by rw [prsB_succ hk, beB1]; simp only [List.append_assoc]
      rw [hsx] at hBy6 hS
      refine ⟨m - 1, by omega, j + 1, _, by6, cy6, ky6, by omega, ?_, hoby6.resolve_left (fun h => h), hBy6, hS.live ⟨rfl, rfl, rfl, trivial⟩, hH.sub (by repeat (first | exact Sub.nil | refine Sub.cons ?_ ?_ | exact In.here | refine In.there ?_)) (by have nd := hH.nd; simp only [List.map_cons, List.map_nil, List.nodup_cons, List.mem_cons, List.not_mem_nil, or_false, not_or, List.nodup_nil, and_true, not_false_iff] at nd ⊢; omega)⟩
      omega
    · have hke : j = ptl.length := by have := of_decide_eq_false hc1; omega
      subst hke
      rw [List.take_of_length_le (Nat.le_refl _)] at hBy5 hS
      have hpj := prsB_len _ hod
      have hoby5 : Nobody by5 ∨ w0.heap.size ≤ by5 := .inr hwy5
      refine wp_exit ?_
      refine then_e ?_
      refine then_e ?_
      refine blk_hit ?_
      refine then_n ?_
      refine c_seq ?_
      refine reg_draw [(true, 0, [0]), (true, 1, [0]), (true, 2, [0]), (true, 4, [0]), (true, 5, [0]), (true, 6, [0]), (true, 7, [0]), (true, 8, [0]), (true, 9, [0]), (false, 3, [0]), (false, 10, [0]), (true, 11, [0])] Fc.mixed (by kernel_rfl) (by kernel_rfl) (by kernel_rfl) (by kernel_rfl) (by kernel_rfl) (by repeat (first | with_reducible exact steady_body | with_reducible apply steady_block | with_reducible apply steady_then | with_reducible apply steady_scope | exact steady_body)) hH ?_
      replace hH := hH.drew
      refine r_move hS trivial rfl rfl ?_; clear hS; intro a hS
      refine r_fieldAddr hS trivial rfl Fc.fo34_5 rfl ?_; clear hS; intro a hS
      refine r_load_scS hS rfl (by repeat (first | exact In.here | refine In.there ?_)) Fc.sc25 (by rfl) rfl ?_; clear hS; intro a hS
      refine r_fieldAddr hS trivial rfl Fc.fo34_6 rfl ?_; clear hS; intro a hS
      refine r_load_scS hS rfl (by repeat (first | exact In.here | refine In.there ?_)) Fc.sc25 (by rfl) rfl ?_; clear hS; intro a hS
      refine r_lenSl hS trivial rfl Fc.isSlice25 rfl ?_; clear hS; intro a hS
      refine r_gtr hS trivial rfl rfl rfl ?_; clear hS; intro a hS
      rw [show decide ((tck.length : Int) > 0) = true from DT (by omega)] at hS
      refine r_fieldAddr hS trivial rfl Fc.fo34_8 rfl ?_; clear hS; intro a hS
      refine r_load_scS hS rfl (by repeat (first | exact In.here | refine In.there ?_)) Fc.sc4 (by rfl) rfl ?_; clear hS; intro a hS
      refine r_call (l := [.tmp 40, .tmp 42]) hS rfl rfl Fc.fn25 rfl ?_
      refine Calls.mono ((long_some by5 cy5 ky5 (U ++ prsB ptl) q2 c2 prm (by first | omega | (simp only [List.length_append, List.length_cons, List.length_nil]; omega)) (by omega) _ (hH.get (b := by5) (by repeat (first | exact In.here | refine In.there ?_))) hBy5 (hbP.go hH.mod (fun x hx => .inr (by subst hx; exact hoby5.resolve_left (fun h => h))))).mono (fun e w1 hP => hP)) ?_
      rintro e w1 hP
      obtain ⟨by6, cy6, ky6, rfl, hry6, hky6, hBy6, hmy6⟩ := hP
      have hBy6 : BB cy6 ky6 (U ++ prsB ptl ++ [UInt8.ofNat (prm.length / 256), UInt8.ofNat prm.length] ++ prm) := hBy6
      have hoby6 : Nobody by6 ∨ w0.heap.size ≤ by6 := hry6.elim (fun h => by rw [h]; exact hoby5) (fun h => .inr (Nat.le_trans hH.mod.size h))
      replace hH := hH.modNew hmy6 (by repeat (first | exact .here | apply In.there | apply Put.there | apply Del.there)) hoby5 hry6 hky6
      refine ⟨_, rfl, hH.kp (by repeat (first | exact Sub.nil | refine Sub.cons ?_ ?_ | exact In.here | refine In.there ?_)), ?_⟩
      clear hS; intro a hS
      refine r_call (l := [.tmp 43, .tmp 47, .tmp 49]) hS rfl rfl Fc.fn24 rfl ?_
      refine Calls.mono ((flag_tf by6 cy6 ky6 (U ++ prsB ptl ++ [UInt8.ofNat (prm.length / 256), UInt8.ofNat prm.length] ++ prm) (by first | omega | (simp only [List.length_append, List.length_cons, List.length_nil]; omega)) _ (hH.get (b := by6) (by repeat (first | exact In.here | refine In.there ?_))) hBy6).mono (fun e w1 hP => hP)) ?_
      rintro e w1 hP
      obtain ⟨by7, cy7, ky7, rfl, hry7, hky7, hBy7, hmy7⟩ := hP
      have hBy7 : BB cy7 ky7 (U ++ prsB ptl ++ [UInt8.ofNat (prm.length / 256), UInt8.ofNat prm.length] ++ prm ++ [1]) := hBy7
      have hoby7 : Nobody by7 ∨ w0.heap.size ≤ by7 := hry7.elim (fun h => by rw [h]; exact hoby6) (fun h => .inr (Nat.le_trans hH.mod.size h))
      replace hH := hH.modNew hmy7 (by repeat (first | exact .here | apply In.there | apply Put.there | apply Del.there)) hoby6 hry7 hky7
      refine ⟨_, rfl, hH.kp (by repeat (first | exact Sub.nil | refine Sub.cons ?_ ?_ | exact In.here | refine In.there ?_)), ?_⟩
      clear hS; intro a hS
      refine r_assign hS trivial rfl rfl ?_; clear hS; intro a hS
      refine Sq.nil ?_
      refine then_n ?_
      refine c_seq ?_
      refine reg_plain w0 (Nobody) ?_
      refine r_fieldAddr hS hH.kp0 rfl Fc.fo34_6 rfl ?_; clear hS; intro a hS
      refine r_load_sc hS hH (by repeat (first | exact Sub.nil | refine Sub.cons ?_ ?_ | exact In.here | refine In.there ?_)) rfl (by repeat (first | exact In.here | refine In.there ?_)) Fc.sc25 (by rfl) rfl ?_; clear hS; intro a hS
      refine r_lenSl hS hH.kp0 rfl Fc.isSlice25 rfl ?_; clear hS; intro a hS
      refine r_gtr hS hH.kp0 rfl rfl rfl ?_; clear hS; intro a hS
      refine Sq.nil ?_
      refine then_n ?_
      refine c_condT hS rfl (DT (by omega)) ?_
      refine reg_draw [(true, 0, [0]), (true, 1, [0]), (true, 2, [0]), (true, 4, [0]), (true, 5, [0]), (false, 3, [0]), (false, 6, [0]), (true, 7, [0])] Fc.mixed (by kernel_rfl) (by kernel_rfl) (by kernel_rfl) (by kernel_rfl) (by kernel_rfl) (by repeat (first | with_reducible exact steady_body | with_reducible apply steady_block | with_reducible apply steady_then | with_reducible apply steady_scope | exact steady_body)) hH ?_
      replace hH := hH.drew
      refine r_move hS trivial rfl rfl ?_; clear hS; intro a hS
      refine r_fieldAddr hS trivial rfl Fc.fo34_6 rfl ?_; clear hS; intro a hS
      refine r_load_scS hS rfl (by repeat (first | exact In.here | refine In.there ?_)) Fc.sc25 (by rfl) rfl ?_; clear hS; intro a hS
      refine r_fieldAddr hS trivial rfl Fc.fo34_7 rfl ?_; clear hS; intro a hS
      refine r_slArr hS trivial rfl Fc.ar22 rfl ?_; clear hS; intro a hS
      refine r_call (l := [.tmp 55, .tmp 57]) hS rfl rfl Fc.fn25 rfl ?_
      refine Calls.mono ((long_some by7 cy7 ky7 (U ++ prsB ptl ++ [UInt8.ofNat (prm.length / 256), UInt8.ofNat prm.length] ++ prm ++ [1]) q3 c3 tck (by first | omega | (simp only [List.length_append, List.length_cons, List.length_nil]; omega)) (by omega) _ (hH.get (b := by7) (by repeat (first | exact In.here | refine In.there ?_))) hBy7 (hbT.go hH.mod (fun x hx => .inr (by subst hx; exact hoby7.resolve_left (fun h => h))))).mono (fun e w1 hP => hP)) ?_
      rintro e w1 hP
      obtain ⟨by8, cy8, ky8, rfl, hry8, hky8, hBy8, hmy8⟩ := hP
      have hBy8 : BB cy8 ky8 (U ++ prsB ptl ++ [UInt8.ofNat (prm.length / 256), UInt8.ofNat prm.length] ++ prm ++ [1] ++ [UInt8.ofNat (tck.length / 256), UInt8.ofNat tck.length] ++ tck) := hBy8
      have hoby8 : Nobody by8 ∨ w0.heap.size ≤ by8 := hry8.elim (fun h => by rw [h]; exact hoby7) (fun h => .inr (Nat.le_trans hH.mod.size h))
      replace hH := hH.modNew hmy8 (by repeat (first | exact .here | apply In.there | apply Put.there | apply Del.there)) hoby7 hry8 hky8
      refine ⟨_, rfl, hH.kp (by repeat (first | exact Sub.nil | refine Sub.cons ?_ ?_ | exact In.here | refine In.there ?_)), ?_⟩
      clear hS; intro a hS
      refine r_append_own hS hH rfl rfl (by repeat (first | exact .here | apply In.there | apply Put.there | apply Del.there)) (by repeat (first | exact Sub.nil | refine Sub.cons ?_ ?_ | exact In.here | refine In.there ?_)) Fc.el25 Fc.ni25 (by rw [hBy8.len, Nat.mul_one]) hBy8.le (Bs.row (o := 0 + 37) (u := [n0, n1, n2, n3, n4, n5, n6, n7, n8, n9, na, nb, nc, nd, ne, nf]) (cap := 16) (hH.get (b := b1) (by repeat (first | exact In.here | refine In.there ?_))) rfl (Nat.le_refl 16)).src (by first | omega | (simp only [List.length_append, List.length_cons, List.length_nil]; omega)) hoby8 rfl ?_
      clear hS hH; intro a w by9 cy9 ky9 hoby9 hly9 hcy9 hty9 hmy9 hS hH
      have hey9 : (U ++ prsB ptl ++ [UInt8.ofNat (prm.length / 256), UInt8.ofNat prm.length] ++ prm ++ [1] ++ [UInt8.ofNat (tck.length / 256), UInt8.ofNat tck.length] ++ tck).length + ([n0, n1, n2, n3, n4, n5, n6, n7, n8, n9, na, nb, nc, nd, ne, nf]).length = (U ++ prsB ptl ++ [UInt8.ofNat (prm.length / 256), UInt8.ofNat prm.length] ++ prm ++ [1] ++ [UInt8.ofNat (tck.length / 256), UInt8.ofNat tck.length] ++ tck ++ [n0, n1, n2, n3, n4, n5, n6, n7, n8, n9, na, nb, nc, nd, ne, nf]).length := (show (U ++ prsB ptl ++ [UInt8.ofNat (prm.length / 256), UInt8.ofNat prm.length] ++ prm ++ [1] ++ [UInt8.ofNat (tck.length / 256), UInt8.ofNat tck.length] ++ tck).length + ([n0, n1, n2, n3, n4, n5, n6, n7, n8, n9, na, nb, nc, nd, ne, nf]).length = (U ++ prsB ptl ++ [UInt8.ofNat (prm.length / 256), UInt8.ofNat prm.length] ++ prm ++ [1] ++ [UInt8.ofNat (tck.length / 256), UInt8.ofNat tck.length] ++ tck ++ [n0, n1, n2, n3, n4, n5, n6, n7, n8, n9, na, nb, nc, nd, ne, nf]).length from List.length_append.symm)
      have hBy9 : BB cy9 ky9 (U ++ prsB ptl ++ [UInt8.ofNat (prm.length / 256), UInt8.ofNat prm.length] ++ prm ++ [1] ++ [UInt8.ofNat (tck.length / 256), UInt8.ofNat tck.length] ++ tck ++ [n0, n1, n2, n3, n4, n5, n6, n7, n8, n9, na, nb, nc, nd, ne, nf]) := ⟨by rw [hly9, Nat.mul_one], by rw [← hey9]; exact hcy9, by rw [← hey9]; rw [Nat.mul_one, Nat.mul_one] at hty9; rw [hty9, hBy8.take]; exact List.map_append.symm⟩
      rw [hey9] at hS
      refine r_assign hS trivial rfl rfl ?_; clear hS; intro a hS
      refine Sq.nil ?_
      refine blk_n ?_
      refine then_n ?_
      refine c_seq ?_
      refine reg_plain w0 (Nobody) ?_
      refine r_move hS hH.kp0 rfl rfl ?_; clear hS; intro a hS
      refine r_assign hS hH.kp0 rfl rfl ?_; clear hS; intro a hS
      refine Sq.nil ?_
      refine then_n ?_
      refine wp_ret ?_
      have hfin : U ++ prsB ptl ++ [UInt8.ofNat (prm.length / 256), UInt8.ofNat prm.length] ++ prm ++ [1] ++ [UInt8.ofNat (tck.length / 256), UInt8.ofNat tck.length] ++ tck ++ [n0, n1, n2, n3, n4, n5, n6, n7, n8, n9, na, nb, nc, nd, ne, nf] = bodyB 1 [r0, r1, r2, r3, r4, r5, r6, r7, r8, r9, ra, rb, rc, rd, re, rf] [s0, s1, s2, s3, s4, s5, s6, s7, s8, s9, sa, sb, sc, sd, se, sf] name ptl prm tck [n0, n1, n2, n3, n4, n5, n6, n7, n8, n9, na, nb, nc, nd, ne, nf] false ag [m0, m1, m2, m3, m4, m5, m6, m7, m8, m9, ma, mb, mc, md, me, mf] li := by rw [hU]; unfold bodyB; rw [if_pos rfl]; simp [beB1, beB2, List.append_assoc, show 0 < tck.length from htk1]
      rw [hfin] at hS hBy9
      exact leave (.inl rfl) hS rfl (Res.tmp rfl Res.nil) ⟨by9, cy9, ky9, rfl, hoby9.resolve_left (fun h => h), hH.get (b := by9) (by repeat (first | exact In.here | refine In.there ?_)), hBy9, hH.mod⟩

set_option maxRecDepth 100000 in
set_option maxHeartbeats 8000000 in
theorem dbody_1tt (q1 q2 q3 : Option Addr) (c1 c2 c3 : Nat) (rnd shr bnd mrk : List UInt8) (name : ByteArray) (ptl : List ByteArray) (prm tck : List UInt8) (ea ag : Bool) (li : Int) (hrnd : rnd.length = 16) (hshr : shr.length = 16) (hbnd : bnd.length = 16) (hmrk : mrk.length = 16) (hnm : name.size ≤ 255) (hpl : ptl.length ≤ 8) (hod : oddN ptl = 0) (hpr : prm.length ≤ 4096) (htk : tck.length ≤ 512) (htk1 : 1 ≤ tck.length) (hea : ea = true) (w0 : World) (hpl : ptl.length ≤ 1048576) (hpt : SsA w0 q1 c1 ptl) (hbP : BsF Nobody w0 (.slice q2 prm.length c2) prm) (hbT : BsF Nobody w0 (.slice q3 tck.length c3) tck) : Calls Try.prog 17 #[.agg ([.int .i64 1] ++ hcells rnd ++ hcells shr ++ [.string name, .slice q1 ptl.length c1, .slice q2 prm.length c2, .slice q3 tck.length c3] ++ hcells bnd ++ [.bool ea, .bool ag] ++ hcells mrk ++ [.int .i64 li] : List Value).toArray] w0 fun e w' => ∃ (b' c' : Nat) (k' : List Value), e = .returned (.slice (some ⟨b', 0, none⟩) (bodyB 1 rnd shr name ptl prm tck bnd ea ag mrk li).length c') ∧ w0.heap.size ≤ b' ∧ w'.heap[b']? = some (.cells k'.toArray 5 (0, 0)) ∧ BB c' k' (bodyB 1 rnd shr name ptl prm tck bnd ea ag mrk li) ∧ Ext w0 w' := by
  refine enter Try.func17 rfl rfl rfl ?_
  intro a hS
  have hH := Hp.start w0 (Nobody)
  subst hea
  obtain ⟨r0, r1, r2, r3, r4, r5, r6, r7, r8, r9, ra, rb, rc, rd, re, rf, rfl⟩ := len16 hrnd
  obtain ⟨s0, s1, s2, s3, s4, s5, s6, s7, s8, s9, sa, sb, sc, sd, se, sf, rfl⟩ := len16 hshr
  obtain ⟨n0, n1, n2, n3, n4, n5, n6, n7, n8, n9, na, nb, nc, nd, ne, nf, rfl⟩ := len16 hbnd
  obtain ⟨m0, m1, m2, m3, m4, m5, m6, m7, m8, m9, ma, mb, mc, md, me, mf, rfl⟩ := len16 hmrk
  have hnl : name.data.toList.length = name.size := by rw [Array.length_toList]; rfl
  have hodj : ∀ {k : Nat} (hk : k < ptl.length), 1 ≤ ptl[k].size ∧ ptl[k].size ≤ 255 := fun hk => oddN_zero hk hod
  refine c_seq ?_
  refine reg_plain w0 (Nobody) ?_
  refine r_box hS hH (by repeat (first | exact Sub.nil | refine Sub.cons ?_ ?_ | exact In.here | refine In.there ?_)) rfl rfl rfl ?_
  clear hS hH; intro a w b1 hb1 hwb1 hS hH
  refine r_assign hS hH.kp0 rfl rfl ?_; clear hS; intro a hS
  refine Sq.nil ?_
  refine then_n ?_
  refine c_seq ?_
  refine reg_plain w0 (Nobody) ?_
  refine r_assign hS hH.kp0 rfl rfl ?_; clear hS; intro a hS
  refine Sq.nil ?_
  refine then_n ?_
  refine c_seq ?_
  refine c_seq ?_
  refine reg_plain w0 (Nobody) ?_
  refine r_fieldAddr hS hH.kp0 rfl Fc.fo34_0 rfl ?_; clear hS; intro a hS
  refine r_load_sc hS hH (by repeat (first | exact Sub.nil | refine Sub.cons ?_ ?_ | exact In.here | refine In.there ?_)) rfl (by repeat (first | exact In.here | refine In.there ?_)) Fc.sc3 (by rfl) rfl ?_; clear hS; intro a hS
  refine Sq.nil ?_
  refine then_n ?_
  refine wp_block ?_
  refine c_seq ?_
  refine reg_plain w0 (Nobody) ?_
  refine r_eql hS hH.kp0 rfl rfl rfl ?_; clear hS; intro a hS
  refine r_assign hS hH.kp0 rfl rfl ?_; clear hS; intro a hS
  refine Sq.nil ?_
  refine then_n ?_
  refine c_condT hS rfl rfl ?_
  refine c_seq ?_
  refine reg_draw [(true, 0, []), (true, 1, []), (true, 2, []), (true, 4, []), (true, 5, []), (false, 3, []), (false, 6, []), (true, 7, [])] Fc.mixed (by kernel_rfl) (by kernel_rfl) (by kernel_rfl) (by kernel_rfl) (by kernel_rfl) (by repeat (first | with_reducible exact steady_body | with_reducible apply steady_block | with_reducible apply steady_then | with_reducible apply steady_scope | exact steady_body)) hH ?_
  replace hH := hH.drew
  refine r_move hS trivial rfl rfl ?_; clear hS; intro a hS
  refine r_fieldAddr hS trivial rfl Fc.fo34_1 rfl ?_; clear hS; intro a hS
  refine r_slArr hS trivial rfl Fc.ar22 rfl ?_; clear hS; intro a hS
  refine r_fieldAddr hS trivial rfl Fc.fo34_2 rfl ?_; clear hS; intro a hS
  refine r_slArr hS trivial rfl Fc.ar22 rfl ?_; clear hS; intro a hS
  refine r_append_nil hS hH (by repeat (first | exact Sub.nil | refine Sub.cons ?_ ?_ | exact In.here | refine In.there ?_)) rfl rfl Fc.el25 Fc.ni25 ((Bs.row (o := 0 + 1) (u := [r0, r1, r2, r3, r4, r5, r6, r7, r8, r9, ra, rb, rc, rd, re, rf]) (cap := 16) (hH.get (b := b1) (by repeat (first | exact In.here | refine In.there ?_))) rfl (Nat.le_refl 16))).src (by simp) (by simp) rfl ?_
  clear hS hH; intro a w by1 cy1 ky1 hwy1 hwwy1 hly1 hmy1 htky1 hExy1 hS hH
  have hBy1 : BB cy1 ky1 ([r0, r1, r2, r3, r4, r5, r6, r7, r8, r9, ra, rb, rc, rd, re, rf]) := ⟨by rw [hly1, Nat.mul_one], hmy1, by rw [Nat.mul_one] at htky1; exact htky1⟩
  rw [show ([r0, r1, r2, r3, r4, r5, r6, r7, r8, r9, ra, rb, rc, rd, re, rf] : List UInt8).length = ([r0, r1, r2, r3, r4, r5, r6, r7, r8, r9, ra, rb, rc, rd, re, rf]).length from by simp] at hS
  have hoby1 : Nobody by1 ∨ w0.heap.size ≤ by1 := .inr hwy1
  refine r_append_own hS hH rfl rfl (by repeat (first | exact .here | apply In.there | apply Put.there | apply Del.there)) (by repeat (first | exact Sub.nil | refine Sub.cons ?_ ?_ | exact In.here | refine In.there ?_)) Fc.el25 Fc.ni25 (by rw [hBy1.len, Nat.mul_one]) hBy1.le (Bs.row (o := 0 + 17) (u := [s0, s1, s2, s3, s4, s5, s6, s7, s8, s9, sa, sb, sc, sd, se, sf]) (cap := 16) (hH.get (b := b1) (by repeat (first | exact In.here | refine In.there ?_))) rfl (Nat.le_refl 16)).src (by first | omega | (simp only [List.length_append, List.length_cons, List.length_nil]; omega)) hoby1 rfl ?_
  clear hS hH; intro a w by2 cy2 ky2 hoby2 hly2 hcy2 hty2 hmy2 hS hH
  have hey2 : ([r0, r1, r2, r3, r4, r5, r6, r7, r8, r9, ra, rb, rc, rd, re, rf]).length + ([s0, s1, s2, s3, s4, s5, s6, s7, s8, s9, sa, sb, sc, sd, se, sf]).length = ([r0, r1, r2, r3, r4, r5, r6, r7, r8, r9, ra, rb, rc, rd, re, rf] ++ [s0, s1, s2, s3, s4, s5, s6, s7, s8, s9, sa, sb, sc, sd, se, sf]).length := (show ([r0, r1, r2, r3, r4, r5, r6, r7, r8, r9, ra, rb, rc, rd, re, rf]).length + ([s0, s1, s2, s3, s4, s5, s6, s7, s8, s9, sa, sb, sc, sd, se, sf]).length = ([r0, r1, r2, r3, r4, r5, r6, r7, r8, r9, ra, rb, rc, rd, re, rf] ++ [s0, s1, s2, s3, s4, s5, s6, s7, s8, s9, sa, sb, sc, sd, se, sf]).length from List.length_append.symm)
  have hBy2 : BB cy2 ky2 ([r0, r1, r2, r3, r4, r5, r6, r7, r8, r9, ra, rb, rc, rd, re, rf] ++ [s0, s1, s2, s3, s4, s5, s6, s7, s8, s9, sa, sb, sc, sd, se, sf]) := ⟨by rw [hly2, Nat.mul_one], by rw [← hey2]; exact hcy2, by rw [← hey2]; rw [Nat.mul_one, Nat.mul_one] at hty2; rw [hty2, hBy1.take]; exact List.map_append.symm⟩
  rw [hey2] at hS
  refine r_assign hS trivial rfl rfl ?_; clear hS; intro a hS
  refine Sq.nil ?_
  refine then_n ?_
  refine c_seq ?_
  refine reg_tree [(true, 0, [0]), (true, 1, [0]), (true, 2, [0]), (false, 3, [0]), (true, 4, [0]), (true, 5, [0]), (true, 6, [0]), (true, 7, [0]), (false, 8, [0]), (false, 9, [0]), (true, 10, [0])] (PT.ofPlan [(true, 0, [0]), (true, 1, [0]), (true, 2, [0]), (true, 4, [0]), (true, 5, [0]), (true, 6, [0]), (true, 7, [0])] (.fork (PT.ofPlan [(false, 3, [0]), (false, 8, [0]), (false, 9, [0]), (true, 10, [0])] .nil) (PT.ofPlan [(false, 8, [0]), (false, 3, [0]), (false, 9, [0]), (true, 10, [0])] .nil))) Fc.mixed (by kernel_rfl) (by kernel_rfl) (by kernel_rfl) (by kernel_rfl) (by kernel_rfl) (by kernel_rfl) (by repeat (first | with_reducible exact steady_body | with_reducible apply steady_block | with_reducible apply steady_then | with_reducible apply steady_scope | exact steady_body)) hH ?_
  replace hH := hH.drew
  refine tr_seg ?_
  refine r_move hS trivial rfl rfl ?_; clear hS; intro a hS
  refine r_fieldAddr hS trivial rfl Fc.fo34_3 rfl ?_; clear hS; intro a hS
  refine r_load_scS hS rfl (by repeat (first | exact In.here | refine In.there ?_)) Fc.sc9 (by rfl) rfl ?_; clear hS; intro a hS
  refine r_fieldAddr hS trivial rfl Fc.fo34_4 rfl ?_; clear hS; intro a hS
  refine r_load_scS hS rfl (by repeat (first | exact In.here | refine In.there ?_)) Fc.sc24 (by rfl) rfl ?_; clear hS; intro a hS
  refine r_lenSl hS trivial rfl Fc.isSlice24 rfl ?_; clear hS; intro a hS
  refine r_toU8 (q := ptl.length) (UInt8.ofNat (ptl.length)) hS trivial rfl Fc.ui5 Fc.us3 rfl rfl ?_; clear hS; intro a hS
  refine Sq.nil ?_
  refine then_n ?_
  refine tr_fork ?_ ?_
  · refine tr_seg ?_
    refine r_call (l := [.tmp 16, .tmp 18]) hS rfl rfl Fc.fn23 rfl ?_
    refine Calls.mono ((short_some by2 cy2 ky2 ([r0, r1, r2, r3, r4, r5, r6, r7, r8, r9, ra, rb, rc, rd, re, rf] ++ [s0, s1, s2, s3, s4, s5, s6, s7, s8, s9, sa, sb, sc, sd, se, sf]) name (by first | omega | (simp only [List.length_append, List.length_cons, List.length_nil]; omega)) (by omega) _ (hH.get (b := by2) (by repeat (first | exact In.here | refine In.there ?_))) hBy2).mono (fun e w1 hP => hP)) ?_
    rintro e w1 hP
    obtain ⟨by3, cy3, ky3, rfl, hry3, hky3, hBy3, hmy3⟩ := hP
    have hBy3 : BB cy3 ky3 ([r0, r1, r2, r3, r4, r5, r6, r7, r8, r9, ra, rb, rc, rd, re, rf] ++ [s0, s1, s2, s3, s4, s5, s6, s7, s8, s9, sa, sb, sc, sd, se, sf] ++ [UInt8.ofNat name.size] ++ name.data.toList) := hBy3
    have hoby3 : Nobody by3 ∨ w0.heap.size ≤ by3 := hry3.elim (fun h => by rw [h]; exact hoby2) (fun h => .inr (Nat.le_trans hH.mod.size h))
    replace hH := hH.modNew hmy3 (by repeat (first | exact .here | apply In.there | apply Put.there | apply Del.there)) hoby2 hry3 hky3
    refine ⟨_, rfl, hH.kp (by repeat (first | exact Sub.nil | refine Sub.cons ?_ ?_ | exact In.here | refine In.there ?_)), ?_⟩
    clear hS; intro a hS
    refine r_buildSlice (parts := [(0, .tmp 23)]) hS hH (by repeat (first | exact Sub.nil | refine Sub.cons ?_ ?_ | exact In.here | refine In.there ?_)) rfl Fc.bsl25_1 (by rfl) rfl ?_
    clear hS hH; intro a w b24 hb24 hwb24 hS hH
    refine r_append_own hS hH rfl rfl (by repeat (first | exact .here | apply In.there | apply Put.there | apply Del.there)) (by repeat (first | exact Sub.nil | refine Sub.cons ?_ ?_ | exact In.here | refine In.there ?_)) Fc.el25 Fc.ni25 (by rw [hBy3.len, Nat.mul_one]) hBy3.le ((BB.lit [UInt8.ofNat ptl.length] rfl rfl).bs (hH.get (b := b24) (by repeat (first | exact In.here | refine In.there ?_)))).src (by first | omega | (simp only [List.length_append, List.length_cons, List.length_nil]; omega)) hoby3 rfl ?_
    clear hS hH; intro a w by4 cy4 ky4 hoby4 hly4 hcy4 hty4 hmy4 hS hH
    have hey4 : ([r0, r1, r2, r3, r4, r5, r6, r7, r8, r9, ra, rb, rc, rd, re, rf] ++ [s0, s1, s2, s3, s4, s5, s6, s7, s8, s9, sa, sb, sc, sd, se, sf] ++ [UInt8.ofNat name.size] ++ name.data.toList).length + ([UInt8.ofNat ptl.length]).length = ([r0, r1, r2, r3, r4, r5, r6, r7, r8, r9, ra, rb, rc, rd, re, rf] ++ [s0, s1, s2, s3, s4, s5, s6, s7, s8, s9, sa, sb, sc, sd, se, sf] ++ [UInt8.ofNat name.size] ++ name.data.toList ++ [UInt8.ofNat ptl.length]).length := (show ([r0, r1, r2, r3, r4, r5, r6, r7, r8, r9, ra, rb, rc, rd, re, rf] ++ [s0, s1, s2, s3, s4, s5, s6, s7, s8, s9, sa, sb, sc, sd, se, sf] ++ [UInt8.ofNat name.size] ++ name.data.toList).length + ([UInt8.ofNat ptl.length]).length = ([r0, r1, r2, r3, r4, r5, r6, r7, r8, r9, ra, rb, rc, rd, re, rf] ++ [s0, s1, s2, s3, s4, s5, s6, s7, s8, s9, sa, sb, sc, sd, se, sf] ++ [UInt8.ofNat name.size] ++ name.data.toList ++ [UInt8.ofNat ptl.length]).length from List.length_append.symm)
    have hBy4 : BB cy4 ky4 ([r0, r1, r2, r3, r4, r5, r6, r7, r8, r9, ra, rb, rc, rd, re, rf] ++ [s0, s1, s2, s3, s4, s5, s6, s7, s8, s9, sa, sb, sc, sd, se, sf] ++ [UInt8.ofNat name.size] ++ name.data.toList ++ [UInt8.ofNat ptl.length]) := ⟨by rw [hly4, Nat.mul_one], by rw [← hey4]; exact hcy4, by rw [← hey4]; rw [Nat.mul_one, Nat.mul_one] at hty4; rw [hty4, hBy3.take]; exact List.map_append.symm⟩
    rw [hey4] at hS
    refine r_assign hS trivial rfl rfl ?_; clear hS; intro a hS
    refine Sq.nil ?_
    refine then_n ?_
    refine tr_nil ?_
    refine then_n ?_
    refine c_seq ?_
    refine c_seq ?_
    obtain ⟨U, hU⟩ : ∃ U, U = ([r0, r1, r2, r3, r4, r5, r6, r7, r8, r9, ra, rb, rc, rd, re, rf] ++ [s0, s1, s2, s3, s4, s5, s6, s7, s8, s9, sa, sb, sc, sd, se, sf] ++ [UInt8.ofNat name.size] ++ name.data.toList ++ [UInt8.ofNat ptl.length]) := ⟨_, rfl⟩
    have hUl : U.length ≤ 300 := by rw [hU]; first | omega | (simp only [List.length_append, List.length_cons, List.length_nil]; omega)
    rw [← hU] at hS hBy4
    refine reg_plain w0 (Nobody) ?_
    refine r_assign hS hH.kp0 rfl rfl ?_; clear hS; intro a hS
    refine Sq.nil ?_
    refine then_n ?_
    refine wp_block ?_
    refine c_loop (fun m a w => ∃ (j : Nat) (i : Int) (by5 cy5 : Nat) (ky5 : List Value), m + j = ptl.length ∧ i = j ∧ w0.heap.size ≤ by5 ∧ BB cy5 ky5 (U ++ prsB (ptl.take j)) ∧ St 133 (lv [(1, .pointer (some ⟨b1, 0, none⟩)), (3, .slice (some ⟨by5, 0, none⟩) (U ++ prsB (ptl.take j)).length cy5), (4, .int .i64 i)]) a ∧ Hp w0 Nobody [(by5, .cells ky5.toArray 5 (0, 0)), (b1, .cells ([.int .i64 1] ++ hcells [r0, r1, r2, r3, r4, r5, r6, r7, r8, r9, ra, rb, rc, rd, re, rf] ++ hcells [s0, s1, s2, s3, s4, s5, s6, s7, s8, s9, sa, sb, sc, sd, se, sf] ++ [.string name, .slice q1 ptl.length c1, .slice q2 prm.length c2, .slice q3 tck.length c3] ++ hcells [n0, n1, n2, n3, n4, n5, n6, n7, n8, n9, na, nb, nc, nd, ne, nf] ++ [.bool true, .bool ag] ++ hcells [m0, m1, m2, m3, m4, m5, m6, m7, m8, m9, ma, mb, mc, md, me, mf] ++ [.int .i64 li] : List Value).toArray 34 (0, 0))] w) (ptl.length) ?_ ?_
    · refine ⟨0, _, by4, cy4, ky4, by omega, rfl, hoby4.resolve_left (fun h => h), by rw [List.take_zero, show prsB [] = [] from rfl, List.append_nil]; exact hBy4, ?_, hH.sub (by repeat (first | exact Sub.nil | refine Sub.cons ?_ ?_ | exact In.here | refine In.there ?_)) (by have nd := hH.nd; simp only [List.map_cons, List.map_nil, List.nodup_cons, List.mem_cons, List.not_mem_nil, or_false, not_or, List.nodup_nil, and_true, not_false_iff] at nd ⊢; omega)⟩
      rw [List.take_zero, show prsB [] = [] from rfl, List.append_nil]
      exact hS.live ⟨rfl, rfl, rfl, trivial⟩
    clear hS hH; intro m a w hI; obtain ⟨j, i, by5, cy5, ky5, hmj, hi, hwy5, hBy5, hS, hH⟩ := hI
    refine c_seq ?_
    refine c_seq ?_
    refine reg_plain w0 (Nobody) ?_
    refine r_move hS hH.kp0 rfl rfl ?_; clear hS; intro a hS
    refine r_fieldAddr hS hH.kp0 rfl Fc.fo34_4 rfl ?_; clear hS; intro a hS
    refine r_load_sc hS hH (by repeat (first | exact Sub.nil | refine Sub.cons ?_ ?_ | exact In.here | refine In.there ?_)) rfl (by repeat (first | exact In.here | refine In.there ?_)) Fc.sc24 (by rfl) rfl ?_; clear hS; intro a hS
    refine r_lenSl hS hH.kp0 rfl Fc.isSlice24 rfl ?_; clear hS; intro a hS
    refine r_lss hS hH.kp0 rfl rfl rfl ?_; clear hS; intro a hS
    refine Sq.nil ?_
    refine then_n ?_
    refine c_cond hS rfl (fun hc1 => ?_) (fun hc1 => ?_)
    · have hk : j < ptl.length := by have := of_decide_eq_true hc1; omega
      obtain ⟨ba, bo, hpq, hcell⟩ := (hpt.ext hH.mod).cell hk
      subst hpq
      have hpj := prsB_len _ (oddN_take j hod)
      have hpj2 : (ptl.take j).length ≤ 8 := by rw [List.length_take]; omega
      have hnj : ptl[j].data.toList.length = ptl[j].size := by rw [Array.length_toList]; rfl
      have hoby5 : Nobody by5 ∨ w0.heap.size ≤ by5 := .inr hwy5
      refine wp_skip ?_
      refine then_n ?_
      refine c_seq ?_
      refine wp_block ?_
      refine reg_plain w0 (Nobody) ?_
      refine r_move hS hH.kp0 rfl rfl ?_; clear hS; intro a hS
      refine r_fieldAddr hS hH.kp0 rfl Fc.fo34_4 rfl ?_; clear hS; intro a hS
      refine r_load_sc hS hH (by repeat (first | exact Sub.nil | refine Sub.cons ?_ ?_ | exact In.here | refine In.there ?_)) rfl (by repeat (first | exact In.here | refine In.there ?_)) Fc.sc24 (by rfl) rfl ?_; clear hS; intro a hS
      refine r_move hS hH.kp0 rfl rfl ?_; clear hS; intro a hS
      refine r_indexAddrS (j := j) hS hH.kp0 rfl rfl Fc.slb24 hi hk rfl ?_; clear hS; intro a hS
      refine r_load_cell hS hH.kp0 rfl hcell Fc.sc9 rfl ?_; clear hS; intro a hS
      refine r_call (l := [.tmp 33, .tmp 38]) hS rfl rfl Fc.fn23 rfl ?_
      refine Calls.mono ((short_some by5 cy5 ky5 (U ++ prsB (ptl.take j)) ptl[j] (by first | omega | (simp only [List.length_append, List.length_cons, List.length_nil]; omega)) (by have := hodj hk; omega) _ (hH.get (b := by5) (by repeat (first | exact In.here | refine In.there ?_))) hBy5).mono (fun e w1 hP => hP)) ?_
      rintro e w1 hP
      obtain ⟨by6, cy6, ky6, rfl, hry6, hky6, hBy6, hmy6⟩ := hP
      have hBy6 : BB cy6 ky6 (U ++ prsB (ptl.take j) ++ [UInt8.ofNat ptl[j].size] ++ ptl[j].data.toList) := hBy6
      have hoby6 : Nobody by6 ∨ w0.heap.size ≤ by6 := hry6.elim (fun h => by rw [h]; exact hoby5) (fun h => .inr (Nat.le_trans hH.mod.size h))
      replace hH := hH.modNew hmy6 (by repeat (first | exact .here | apply In.there | apply Put.there | apply Del.there)) hoby5 hry6 hky6
      refine ⟨_, rfl, hH.kp0, ?_⟩
      clear hS; intro a hS
      refine r_assign hS hH.kp0 rfl rfl ?_; clear hS; intro a hS
      refine Sq.nil ?_
      refine blk_n ?_
      refine then_n ?_
      refine reg_plain w0 (Nobody) ?_
      refine r_move hS hH.kp0 rfl rfl ?_; clear hS; intro a hS
      (first | refine r_add hS hH.kp0 rfl rfl rfl (by omega) ?_ | refine r_addw hS hH.kp0 rfl rfl rfl ?_)
      clear hS; intro a hS
      refine r_assign hS hH.kp0 rfl rfl ?_; clear hS; intro a hS
      refine Sq.nil ?_
      refine then_n ?_
      have hsx : U ++ prsB (ptl.take j) ++ [UInt8.ofNat ptl[j].size] ++ ptl[j].data.toList = U ++ prsB (ptl.take (j + 1)) := by rw [prsB_succ hk, beB1]; simp only [List.append_assoc]
      rw [hsx] at hBy6 hS
      refine ⟨m - 1, by omega, j + 1, _, by6, cy6, ky6, by omega, ?_, hoby6.resolve_left (fun h => h), hBy6, hS.live ⟨rfl, rfl, rfl, trivial⟩, hH.sub (by repeat (first | exact Sub.nil | refine Sub.cons ?_ ?_ | exact In.here | refine In.there ?_)) (by have nd := hH.nd; simp only [List.map_cons, List.map_nil, List.nodup_cons, List.mem_cons, List.not_mem_nil, or_false, not_or, List.nodup_nil, and_true, not_false_iff] at nd ⊢; omega)⟩
      omega
    · have hke : j = ptl.length := by have := of_decide_eq_false hc1; omega
      subst hke
      rw [List.take_of_length_le (Nat.le_refl _)] at hBy5 hS
      have hpj := prsB_len _ hod
      have hoby5 : Nobody by5 ∨ w0.heap.size ≤ by5 := .inr hwy5
      refine wp_exit ?_
      refine then_e ?_
      refine then_e ?_
      refine blk_hit ?_
      refine then_n ?_
      refine c_seq ?_
      refine reg_draw [(true, 0, [0]), (true, 1, [0]), (true, 2, [0]), (true, 4, [0]), (true, 5, [0]), (true, 6, [0]), (true, 7, [0]), (true, 8, [0]), (true, 9, [0]), (false, 3, [0]), (false, 10, [0]), (true, 11, [0])] Fc.mixed (by kernel_rfl) (by kernel_rfl) (by kernel_rfl) (by kernel_rfl) (by kernel_rfl) (by repeat (first | with_reducible exact steady_body | with_reducible apply steady_block | with_reducible apply steady_then | with_reducible apply steady_scope | exact steady_body)) hH ?_
      replace hH := hH.drew
      refine r_move hS trivial rfl rfl ?_; clear hS; intro a hS
      refine r_fieldAddr hS trivial rfl Fc.fo34_5 rfl ?_; clear hS; intro a hS
      refine r_load_scS hS rfl (by repeat (first | exact In.here | refine In.there ?_)) Fc.sc25 (by rfl) rfl ?_; clear hS; intro a hS
      refine r_fieldAddr hS trivial rfl Fc.fo34_6 rfl ?_; clear hS; intro a hS
      refine r_load_scS hS rfl (by repeat (first | exact In.here | refine In.there ?_)) Fc.sc25 (by rfl) rfl ?_; clear hS; intro a hS
      refine r_lenSl hS trivial rfl Fc.isSlice25 rfl ?_; clear hS; intro a hS
      refine r_gtr hS trivial rfl rfl rfl ?_; clear hS; intro a hS
      rw [show decide ((tck.length : Int) > 0) = true from DT (by omega)] at hS
      refine r_fieldAddr hS trivial rfl Fc.fo34_8 rfl ?_; clear hS; intro a hS
      refine r_load_scS hS rfl (by repeat (first | exact In.here | refine In.there ?_)) Fc.sc4 (by rfl) rfl ?_; clear hS; intro a hS
      refine r_call (l := [.tmp 40, .tmp 42]) hS rfl rfl Fc.fn25 rfl ?_
      refine Calls.mono ((long_some by5 cy5 ky5 (U ++ prsB ptl) q2 c2 prm (by first | omega | (simp only [List.length_append, List.length_cons, List.length_nil]; omega)) (by omega) _ (hH.get (b := by5) (by repeat (first | exact In.here | refine In.there ?_))) hBy5 (hbP.go hH.mod (fun x hx => .inr (by subst hx; exact hoby5.resolve_left (fun h => h))))).mono (fun e w1 hP => hP)) ?_
      rintro e w1 hP
      obtain ⟨by6, cy6, ky6, rfl, hry6, hky6, hBy6, hmy6⟩ := hP
      have hBy6 : BB cy6 ky6 (U ++ prsB ptl ++ [UInt8.ofNat (prm.length / 256), UInt8.ofNat prm.length] ++ prm) := hBy6
      have hoby6 : Nobody by6 ∨ w0.heap.size ≤ by6 := hry6.elim (fun h => by rw [h]; exact hoby5) (fun h => .inr (Nat.le_trans hH.mod.size h))
      replace hH := hH.modNew hmy6 (by repeat (first | exact .here | apply In.there | apply Put.there | apply Del.there)) hoby5 hry6 hky6
      refine ⟨_, rfl, hH.kp (by repeat (first | exact Sub.nil | refine Sub.cons ?_ ?_ | exact In.here | refine In.there ?_)), ?_⟩
      clear hS; intro a hS
      refine r_call (l := [.tmp 43, .tmp 47, .tmp 49]) hS rfl rfl Fc.fn24 rfl ?_
      refine Calls.mono ((flag_tt by6 cy6 ky6 (U ++ prsB ptl ++ [UInt8.ofNat (prm.length / 256), UInt8.ofNat prm.length] ++ prm) (by first | omega | (simp only [List.length_append, List.length_cons, List.length_nil]; omega)) _ (hH.get (b := by6) (by repeat (first | exact In.here | refine In.there ?_))) hBy6).mono (fun e w1 hP => hP)) ?_
      rintro e w1 hP
      obtain ⟨by7, cy7, ky7, rfl, hry7, hky7, hBy7, hmy7⟩ := hP
      have hBy7 : BB cy7 ky7 (U ++ prsB ptl ++ [UInt8.ofNat (prm.length / 256), UInt8.ofNat prm.length] ++ prm ++ [3]) := hBy7
      have hoby7 : Nobody by7 ∨ w0.heap.size ≤ by7 := hry7.elim (fun h => by rw [h]; exact hoby6) (fun h => .inr (Nat.le_trans hH.mod.size h))
      replace hH := hH.modNew hmy7 (by repeat (first | exact .here | apply In.there | apply Put.there | apply Del.there)) hoby6 hry7 hky7
      refine ⟨_, rfl, hH.kp (by repeat (first | exact Sub.nil | refine Sub.cons ?_ ?_ | exact In.here | refine In.there ?_)), ?_⟩
      clear hS; intro a hS
      refine r_assign hS trivial rfl rfl ?_; clear hS; intro a hS
      refine Sq.nil ?_
      refine then_n ?_
      refine c_seq ?_
      refine reg_plain w0 (Nobody) ?_
      refine r_fieldAddr hS hH.kp0 rfl Fc.fo34_6 rfl ?_; clear hS; intro a hS
      refine r_load_sc hS hH (by repeat (first | exact Sub.nil | refine Sub.cons ?_ ?_ | exact In.here | refine In.there ?_)) rfl (by repeat (first | exact In.here | refine In.there ?_)) Fc.sc25 (by rfl) rfl ?_; clear hS; intro a hS
      refine r_lenSl hS hH.kp0 rfl Fc.isSlice25 rfl ?_; clear hS; intro a hS
      refine r_gtr hS hH.kp0 rfl rfl rfl ?_; clear hS; intro a hS
      refine Sq.nil ?_
      refine then_n ?_
      refine c_condT hS rfl (DT (by omega)) ?_
      refine reg_draw [(true, 0, [0]), (true, 1, [0]), (true, 2, [0]), (true, 4, [0]), (true, 5, [0]), (false, 3, [0]), (false, 6, [0]), (true, 7, [0])] Fc.mixed (by kernel_rfl) (by kernel_rfl) (by kernel_rfl) (by kernel_rfl) (by kernel_rfl) (by repeat (first | with_reducible exact steady_body | with_reducible apply steady_block | with_reducible apply steady_then | with_reducible apply steady_scope | exact steady_body)) hH ?_
      replace hH := hH.drew
      refine r_move hS trivial rfl rfl ?_; clear hS; intro a hS
      refine r_fieldAddr hS trivial rfl Fc.fo34_6 rfl ?_; clear hS; intro a hS
      refine r_load_scS hS rfl (by repeat (first | exact In.here | refine In.there ?_)) Fc.sc25 (by rfl) rfl ?_; clear hS; intro a hS
      refine r_fieldAddr hS trivial rfl Fc.fo34_7 rfl ?_; clear hS; intro a hS
      refine r_slArr hS trivial rfl Fc.ar22 rfl ?_; clear hS; intro a hS
      refine r_call (l := [.tmp 55, .tmp 57]) hS rfl rfl Fc.fn25 rfl ?_
      refine Calls.mono ((long_some by7 cy7 ky7 (U ++ prsB ptl ++ [UInt8.ofNat (prm.length / 256), UInt8.ofNat prm.length] ++ prm ++ [3]) q3 c3 tck (by first | omega | (simp only [List.length_append, List.length_cons, List.length_nil]; omega)) (by omega) _ (hH.get (b := by7) (by repeat (first | exact In.here | refine In.there ?_))) hBy7 (hbT.go hH.mod (fun x hx => .inr (by subst hx; exact hoby7.resolve_left (fun h => h))))).mono (fun e w1 hP => hP)) ?_
      rintro e w1 hP
      obtain ⟨by8, cy8, ky8, rfl, hry8, hky8, hBy8, hmy8⟩ := hP
      have hBy8 : BB cy8 ky8 (U ++ prsB ptl ++ [UInt8.ofNat (prm.length / 256), UInt8.ofNat prm.length] ++ prm ++ [3] ++ [UInt8.ofNat (tck.length / 256), UInt8.ofNat tck.length] ++ tck) := hBy8
      have hoby8 : Nobody by8 ∨ w0.heap.size ≤ by8 := hry8.elim (fun h => by rw [h]; exact hoby7) (fun h => .inr (Nat.le_trans hH.mod.size h))
      replace hH := hH.modNew hmy8 (by repeat (first | exact .here | apply In.there | apply Put.there | apply Del.there)) hoby7 hry8 hky8
      refine ⟨_, rfl, hH.kp (by repeat (first | exact Sub.nil | refine Sub.cons ?_ ?_ | exact In.here | refine In.there ?_)), ?_⟩
      clear hS; intro a hS
      refine r_append_own hS hH rfl rfl (by repeat (first | exact .here | apply In.there | apply Put.there | apply Del.there)) (by repeat (first | exact Sub.nil | refine Sub.cons ?_ ?_ | exact In.here | refine In.there ?_)) Fc.el25 Fc.ni25 (by rw [hBy8.len, Nat.mul_one]) hBy8.le (Bs.row (o := 0 + 37) (u := [n0, n1, n2, n3, n4, n5, n6, n7, n8, n9, na, nb, nc, nd, ne, nf]) (cap := 16) (hH.get (b := b1) (by repeat (first | exact In.here | refine In.there ?_))) rfl (Nat.le_refl 16)).src (by first | omega | (simp only [List.length_append, List.length_cons, List.length_nil]; omega)) hoby8 rfl ?_
      clear hS hH; intro a w by9 cy9 ky9 hoby9 hly9 hcy9 hty9 hmy9 hS hH
      have hey9 : (U ++ prsB ptl ++ [UInt8.ofNat (prm.length / 256), UInt8.ofNat prm.length] ++ prm ++ [3] ++ [UInt8.ofNat (tck.length / 256), UInt8.ofNat tck.length] ++ tck).length + ([n0, n1, n2, n3, n4, n5, n6, n7, n8, n9, na, nb, nc, nd, ne, nf]).length = (U ++ prsB ptl ++ [UInt8.ofNat (prm.length / 256), UInt8.ofNat prm.length] ++ prm ++ [3] ++ [UInt8.ofNat (tck.length / 256), UInt8.ofNat tck.length] ++ tck ++ [n0, n1, n2, n3, n4, n5, n6, n7, n8, n9, na, nb, nc, nd, ne, nf]).length := (show (U ++ prsB ptl ++ [UInt8.ofNat (prm.length / 256), UInt8.ofNat prm.length] ++ prm ++ [3] ++ [UInt8.ofNat (tck.length / 256), UInt8.ofNat tck.length] ++ tck).length + ([n0, n1, n2, n3, n4, n5, n6, n7, n8, n9, na, nb, nc, nd, ne, nf]).length = (U ++ prsB ptl ++ [UInt8.ofNat (prm.length / 256), UInt8.ofNat prm.length] ++ prm ++ [3] ++ [UInt8.ofNat (tck.length / 256), UInt8.ofNat tck.length] ++ tck ++ [n0, n1, n2, n3, n4, n5, n6, n7, n8, n9, na, nb, nc, nd, ne, nf]).length from List.length_append.symm)
      have hBy9 : BB cy9 ky9 (U ++ prsB ptl ++ [UInt8.ofNat (prm.length / 256), UInt8.ofNat prm.length] ++ prm ++ [3] ++ [UInt8.ofNat (tck.length / 256), UInt8.ofNat tck.length] ++ tck ++ [n0, n1, n2, n3, n4, n5, n6, n7, n8, n9, na, nb, nc, nd, ne, nf]) := ⟨by rw [hly9, Nat.mul_one], by rw [← hey9]; exact hcy9, by rw [← hey9]; rw [Nat.mul_one, Nat.mul_one] at hty9; rw [hty9, hBy8.take]; exact List.map_append.symm⟩
      rw [hey9] at hS
      refine r_assign hS trivial rfl rfl ?_; clear hS; intro a hS
      refine Sq.nil ?_
      refine blk_n ?_
      refine then_n ?_
      refine c_seq ?_
      refine reg_plain w0 (Nobody) ?_
      refine r_move hS hH.kp0 rfl rfl ?_; clear hS; intro a hS
      refine r_assign hS hH.kp0 rfl rfl ?_; clear hS; intro a hS
      refine Sq.nil ?_
      refine then_n ?_
      refine wp_ret ?_
      have hfin : U ++ prsB ptl ++ [UInt8.ofNat (prm.length / 256), UInt8.ofNat prm.length] ++ prm ++ [3] ++ [UInt8.ofNat (tck.length / 256), UInt8.ofNat tck.length] ++ tck ++ [n0, n1, n2, n3, n4, n5, n6, n7, n8, n9, na, nb, nc, nd, ne, nf] = bodyB 1 [r0, r1, r2, r3, r4, r5, r6, r7, r8, r9, ra, rb, rc, rd, re, rf] [s0, s1, s2, s3, s4, s5, s6, s7, s8, s9, sa, sb, sc, sd, se, sf] name ptl prm tck [n0, n1, n2, n3, n4, n5, n6, n7, n8, n9, na, nb, nc, nd, ne, nf] true ag [m0, m1, m2, m3, m4, m5, m6, m7, m8, m9, ma, mb, mc, md, me, mf] li := by rw [hU]; unfold bodyB; rw [if_pos rfl]; simp [beB1, beB2, List.append_assoc, show 0 < tck.length from htk1]
      rw [hfin] at hS hBy9
      exact leave (.inl rfl) hS rfl (Res.tmp rfl Res.nil) ⟨by9, cy9, ky9, rfl, hoby9.resolve_left (fun h => h), hH.get (b := by9) (by repeat (first | exact In.here | refine In.there ?_)), hBy9, hH.mod⟩
  · refine tr_seg ?_
    refine r_buildSlice (parts := [(0, .tmp 23)]) hS hH (by repeat (first | exact Sub.nil | refine Sub.cons ?_ ?_ | exact In.here | refine In.there ?_)) rfl Fc.bsl25_1 (by rfl) rfl ?_
    clear hS hH; intro a w b24 hb24 hwb24 hS hH
    refine r_call (l := [.tmp 16, .tmp 18]) hS rfl rfl Fc.fn23 rfl ?_
    refine Calls.mono ((short_some by2 cy2 ky2 ([r0, r1, r2, r3, r4, r5, r6, r7, r8, r9, ra, rb, rc, rd, re, rf] ++ [s0, s1, s2, s3, s4, s5, s6, s7, s8, s9, sa, sb, sc, sd, se, sf]) name (by first | omega | (simp only [List.length_append, List.length_cons, List.length_nil]; omega)) (by omega) _ (hH.get (b := by2) (by repeat (first | exact In.here | refine In.there ?_))) hBy2).mono (fun e w1 hP => hP)) ?_
    rintro e w1 hP
    obtain ⟨by3, cy3, ky3, rfl, hry3, hky3, hBy3, hmy3⟩ := hP
    have hBy3 : BB cy3 ky3 ([r0, r1, r2, r3, r4, r5, r6, r7, r8, r9, ra, rb, rc, rd, re, rf] ++ [s0, s1, s2, s3, s4, s5, s6, s7, s8, s9, sa, sb, sc, sd, se, sf] ++ [UInt8.ofNat name.size] ++ name.data.toList) := hBy3
    have hoby3 : Nobody by3 ∨ w0.heap.size ≤ by3 := hry3.elim (fun h => by rw [h]; exact hoby2) (fun h => .inr (Nat.le_trans hH.mod.size h))
    replace hH := hH.modNew hmy3 (by repeat (first | exact .here | apply In.there | apply Put.there | apply Del.there)) hoby2 hry3 hky3
    refine ⟨_, rfl, hH.kp (by repeat (first | exact Sub.nil | refine Sub.cons ?_ ?_ | exact In.here | refine In.there ?_)), ?_⟩
    clear hS; intro a hS
    refine r_append_own hS hH rfl rfl (by repeat (first | exact .here | apply In.there | apply Put.there | apply Del.there)) (by repeat (first | exact Sub.nil | refine Sub.cons ?_ ?_ | exact In.here | refine In.there ?_)) Fc.el25 Fc.ni25 (by rw [hBy3.len, Nat.mul_one]) hBy3.le ((BB.lit [UInt8.ofNat ptl.length] rfl rfl).bs (hH.get (b := b24) (by repeat (first | exact In.here | refine In.there ?_)))).src (by first | omega | (simp only [List.length_append, List.length_cons, List.length_nil]; omega)) hoby3 rfl ?_
    clear hS hH; intro a w by4 cy4 ky4 hoby4 hly4 hcy4 hty4 hmy4 hS hH
    have hey4 : ([r0, r1, r2, r3, r4, r5, r6, r7, r8, r9, ra, rb, rc, rd, re, rf] ++ [s0, s1, s2, s3, s4, s5, s6, s7, s8, s9, sa, sb, sc, sd, se, sf] ++ [UInt8.ofNat name.size] ++ name.data.toList).length + ([UInt8.ofNat ptl.length]).length = ([r0, r1, r2, r3, r4, r5, r6, r7, r8, r9, ra, rb, rc, rd, re, rf] ++ [s0, s1, s2, s3, s4, s5, s6, s7, s8, s9, sa, sb, sc, sd, se, sf] ++ [UInt8.ofNat name.size] ++ name.data.toList ++ [UInt8.ofNat ptl.length]).length := (show ([r0, r1, r2, r3, r4, r5, r6, r7, r8, r9, ra, rb, rc, rd, re, rf] ++ [s0, s1, s2, s3, s4, s5, s6, s7, s8, s9, sa, sb, sc, sd, se, sf] ++ [UInt8.ofNat name.size] ++ name.data.toList).length + ([UInt8.ofNat ptl.length]).length = ([r0, r1, r2, r3, r4, r5, r6, r7, r8, r9, ra, rb, rc, rd, re, rf] ++ [s0, s1, s2, s3, s4, s5, s6, s7, s8, s9, sa, sb, sc, sd, se, sf] ++ [UInt8.ofNat name.size] ++ name.data.toList ++ [UInt8.ofNat ptl.length]).length from List.length_append.symm)
    have hBy4 : BB cy4 ky4 ([r0, r1, r2, r3, r4, r5, r6, r7, r8, r9, ra, rb, rc, rd, re, rf] ++ [s0, s1, s2, s3, s4, s5, s6, s7, s8, s9, sa, sb, sc, sd, se, sf] ++ [UInt8.ofNat name.size] ++ name.data.toList ++ [UInt8.ofNat ptl.length]) := ⟨by rw [hly4, Nat.mul_one], by rw [← hey4]; exact hcy4, by rw [← hey4]; rw [Nat.mul_one, Nat.mul_one] at hty4; rw [hty4, hBy3.take]; exact List.map_append.symm⟩
    rw [hey4] at hS
    refine r_assign hS trivial rfl rfl ?_; clear hS; intro a hS
    refine Sq.nil ?_
    refine then_n ?_
    refine tr_nil ?_
    refine then_n ?_
    refine c_seq ?_
    refine c_seq ?_
    obtain ⟨U, hU⟩ : ∃ U, U = ([r0, r1, r2, r3, r4, r5, r6, r7, r8, r9, ra, rb, rc, rd, re, rf] ++ [s0, s1, s2, s3, s4, s5, s6, s7, s8, s9, sa, sb, sc, sd, se, sf] ++ [UInt8.ofNat name.size] ++ name.data.toList ++ [UInt8.ofNat ptl.length]) := ⟨_, rfl⟩
    have hUl : U.length ≤ 300 := by rw [hU]; first | omega | (simp only [List.length_append, List.length_cons, List.length_nil]; omega)
    rw [← hU] at hS hBy4
    refine reg_plain w0 (Nobody) ?_
    refine r_assign hS hH.kp0 rfl rfl ?_; clear hS; intro a hS
    refine Sq.nil ?_
    refine then_n ?_
    refine wp_block ?_
    refine c_loop (fun m a w => ∃ (j : Nat) (i : Int) (by5 cy5 : Nat) (ky5 : List Value), m + j = ptl.length ∧ i = j ∧ w0.heap.size ≤ by5 ∧ BB cy5 ky5 (U ++ prsB (ptl.take j)) ∧ St 133 (lv [(1, .pointer (some ⟨b1, 0, none⟩)), (3, .slice (some ⟨by5, 0, none⟩) (U ++ prsB (ptl.take j)).length cy5), (4, .int .i64 i)]) a ∧ Hp w0 Nobody [(by5, .cells ky5.toArray 5 (0, 0)), (b1, .cells ([.int .i64 1] ++ hcells [r0, r1, r2, r3, r4, r5, r6, r7, r8, r9, ra, rb, rc, rd, re, rf] ++ hcells [s0, s1, s2, s3, s4, s5, s6, s7, s8, s9, sa, sb, sc, sd, se, sf] ++ [.string name, .slice q1 ptl.length c1, .slice q2 prm.length c2, .slice q3 tck.length c3] ++ hcells [n0, n1, n2, n3, n4, n5, n6, n7, n8, n9, na, nb, nc, nd, ne, nf] ++ [.bool true, .bool ag] ++ hcells [m0, m1, m2, m3, m4, m5, m6, m7, m8, m9, ma, mb, mc, md, me, mf] ++ [.int .i64 li] : List Value).toArray 34 (0, 0))] w) (ptl.length) ?_ ?_
    · refine ⟨0, _, by4, cy4, ky4, by omega, rfl, hoby4.resolve_left (fun h => h), by rw [List.take_zero, show prsB [] = [] from rfl, List.append_nil]; exact hBy4, ?_, hH.sub (by repeat (first | exact Sub.nil | refine Sub.cons ?_ ?_ | exact In.here | refine In.there ?_)) (by have nd := hH.nd; simp only [List.map_cons, List.map_nil, List.nodup_cons, List.mem_cons, List.not_mem_nil, or_false, not_or, List.nodup_nil, and_true, not_false_iff] at nd ⊢; omega)⟩
      rw [List.take_zero, show prsB [] = [] from rfl, List.append_nil]
      exact hS.live ⟨rfl, rfl, rfl, trivial⟩
    clear hS hH; intro m a w hI; obtain ⟨j, i, by5, cy5, ky5, hmj, hi, hwy5, hBy5, hS, hH⟩ := hI
    refine c_seq ?_
    refine c_seq ?_
    refine reg_plain w0 (Nobody) ?_
    refine r_move hS hH.kp0 rfl rfl ?_; clear hS; intro a hS
    refine r_fieldAddr hS hH.kp0 rfl Fc.fo34_4 rfl ?_; clear hS; intro a hS
    refine r_load_sc hS hH (by repeat (first | exact Sub.nil | refine Sub.cons ?_ ?_ | exact In.here | refine In.there ?_)) rfl (by repeat (first | exact In.here | refine In.there ?_)) Fc.sc24 (by rfl) rfl ?_; clear hS; intro a hS
    refine r_lenSl hS hH.kp0 rfl Fc.isSlice24 rfl ?_; clear hS; intro a hS
    refine r_lss hS hH.kp0 rfl rfl rfl ?_; clear hS; intro a hS
    refine Sq.nil ?_
    refine then_n ?_
    refine c_cond hS rfl (fun hc1 => ?_) (fun hc1 => ?_)
    · have hk : j < ptl.length := by have := of_decide_eq_true hc1; omega
      obtain ⟨ba, bo, hpq, hcell⟩ := (hpt.ext hH.mod).cell hk
      subst hpq
      have hpj := prsB_len _ (oddN_take j hod)
      have hpj2 : (ptl.take j).length ≤ 8 := by rw [List.length_take]; omega
      have hnj : ptl[j].data.toList.length = ptl[j].size := by rw [Array.length_toList]; rfl
      have hoby5 : Nobody by5 ∨ w0.heap.size ≤ by5 := .inr hwy5
      refine wp_skip ?_
      refine then_n ?_
      refine c_seq ?_
      refine wp_block ?_
      refine reg_plain w0 (Nobody) ?_
      refine r_move hS hH.kp0 rfl rfl ?_; clear hS; intro a hS
      refine r_fieldAddr hS hH.kp0 rfl Fc.fo34_4 rfl ?_; clear hS; intro a hS
      refine r_load_sc hS hH (by repeat (first | exact Sub.nil | refine Sub.cons ?_ ?_ | exact In.here | refine In.there ?_)) rfl (by repeat (first | exact In.here | refine In.there ?_)) Fc.sc24 (by rfl) rfl ?_; clear hS; intro a hS
      refine r_move hS hH.kp0 rfl rfl ?_; clear hS; intro a hS
      refine r_indexAddrS (j := j) hS hH.kp0 rfl rfl Fc.slb24 hi hk rfl ?_; clear hS; intro a hS
      refine r_load_cell hS hH.kp0 rfl hcell Fc.sc9 rfl ?_; clear hS; intro a hS
      refine r_call (l := [.tmp 33, .tmp 38]) hS rfl rfl Fc.fn23 rfl ?_
      refine Calls.mono ((short_some by5 cy5 ky5 (U ++ prsB (ptl.take j)) ptl[j] (by first | omega | (simp only [List.length_append, List.length_cons, List.length_nil]; omega)) (by have := hodj hk; omega) _ (hH.get (b := by5) (by repeat (first | exact In.here | refine In.there ?_))) hBy5).mono (fun e w1 hP => hP)) ?_
      rintro e w1 hP
      obtain ⟨by6, cy6, ky6, rfl, hry6, hky6, hBy6, hmy6⟩ := hP
      have hBy6 : BB cy6 ky6 (U ++ prsB (ptl.take j) ++ [UInt8.ofNat ptl[j].size] ++ ptl[j].data.toList) := hBy6
      have hoby6 : Nobody by6 ∨ w0.heap.size ≤ by6 := hry6.elim (fun h => by rw [h]; exact hoby5) (fun h => .inr (Nat.le_trans hH.mod.size h))
      replace hH := hH.modNew hmy6 (by repeat (first | exact .here | apply In.there | apply Put.there | apply Del.there)) hoby5 hry6 hky6
      refine ⟨_, rfl, hH.kp0, ?_⟩
      clear hS; intro a hS
      refine r_assign hS hH.kp0 rfl rfl ?_; clear hS; intro a hS
      refine Sq.nil ?_
      refine blk_n ?_
      refine then_n ?_
      refine reg_plain w0 (Nobody) ?_
      refine r_move hS hH.kp0 rfl rfl ?_; clear hS; intro a hS
      (first | refine r_add hS hH.kp0 rfl rfl rfl (by omega) ?_ | refine r_addw hS hH.kp0 rfl rfl rfl ?_)
      clear hS; intro a hS
      refine r_assign hS hH.kp0 rfl rfl ?_; clear hS; intro a hS
      refine Sq.nil ?_
      refine then_n ?_
      have hsx : U ++ prsB (ptl.take j) ++ [UInt8.ofNat ptl[j].size] ++ ptl[j].data.toList = U ++ prsB (ptl.take (j + 1)) := by rw [prsB_succ hk, beB1]; simp only [List.append_assoc]
      rw [hsx] at hBy6 hS
      refine ⟨m - 1, by omega, j + 1, _, by6, cy6, ky6, by omega, ?_, hoby6.resolve_left (fun h => h), hBy6, hS.live ⟨rfl, rfl, rfl, trivial⟩, hH.sub (by repeat (first | exact Sub.nil | refine Sub.cons ?_ ?_ | exact In.here | refine In.there ?_)) (by have nd := hH.nd; simp only [List.map_cons, List.map_nil, List.nodup_cons, List.mem_cons, List.not_mem_nil, or_false, not_or, List.nodup_nil, and_true, not_false_iff] at nd ⊢; omega)⟩
      omega
    · have hke : j = ptl.length := by have := of_decide_eq_false hc1; omega
      subst hke
      rw [List.take_of_length_le (Nat.le_refl _)] at hBy5 hS
      have hpj := prsB_len _ hod
      have hoby5 : Nobody by5 ∨ w0.heap.size ≤ by5 := .inr hwy5
      refine wp_exit ?_
      refine then_e ?_
      refine then_e ?_
      refine blk_hit ?_
      refine then_n ?_
      refine c_seq ?_
      refine reg_draw [(true, 0, [0]), (true, 1, [0]), (true, 2, [0]), (true, 4, [0]), (true, 5, [0]), (true, 6, [0]), (true, 7, [0]), (true, 8, [0]), (true, 9, [0]), (false, 3, [0]), (false, 10, [0]), (true, 11, [0])] Fc.mixed (by kernel_rfl) (by kernel_rfl) (by kernel_rfl) (by kernel_rfl) (by kernel_rfl) (by repeat (first | with_reducible exact steady_body | with_reducible apply steady_block | with_reducible apply steady_then | with_reducible apply steady_scope | exact steady_body)) hH ?_
      replace hH := hH.drew
      refine r_move hS trivial rfl rfl ?_; clear hS; intro a hS
      refine r_fieldAddr hS trivial rfl Fc.fo34_5 rfl ?_; clear hS; intro a hS
      refine r_load_scS hS rfl (by repeat (first | exact In.here | refine In.there ?_)) Fc.sc25 (by rfl) rfl ?_; clear hS; intro a hS
      refine r_fieldAddr hS trivial rfl Fc.fo34_6 rfl ?_; clear hS; intro a hS
      refine r_load_scS hS rfl (by repeat (first | exact In.here | refine In.there ?_)) Fc.sc25 (by rfl) rfl ?_; clear hS; intro a hS
      refine r_lenSl hS trivial rfl Fc.isSlice25 rfl ?_; clear hS; intro a hS
      refine r_gtr hS trivial rfl rfl rfl ?_; clear hS; intro a hS
      rw [show decide ((tck.length : Int) > 0) = true from DT (by omega)] at hS
      refine r_fieldAddr hS trivial rfl Fc.fo34_8 rfl ?_; clear hS; intro a hS
      refine r_load_scS hS rfl (by repeat (first | exact In.here | refine In.there ?_)) Fc.sc4 (by rfl) rfl ?_; clear hS; intro a hS
      refine r_call (l := [.tmp 40, .tmp 42]) hS rfl rfl Fc.fn25 rfl ?_
      refine Calls.mono ((long_some by5 cy5 ky5 (U ++ prsB ptl) q2 c2 prm (by first | omega | (simp only [List.length_append, List.length_cons, List.length_nil]; omega)) (by omega) _ (hH.get (b := by5) (by repeat (first | exact In.here | refine In.there ?_))) hBy5 (hbP.go hH.mod (fun x hx => .inr (by subst hx; exact hoby5.resolve_left (fun h => h))))).mono (fun e w1 hP => hP)) ?_
      rintro e w1 hP
      obtain ⟨by6, cy6, ky6, rfl, hry6, hky6, hBy6, hmy6⟩ := hP
      have hBy6 : BB cy6 ky6 (U ++ prsB ptl ++ [UInt8.ofNat (prm.length / 256), UInt8.ofNat prm.length] ++ prm) := hBy6
      have hoby6 : Nobody by6 ∨ w0.heap.size ≤ by6 := hry6.elim (fun h => by rw [h]; exact hoby5) (fun h => .inr (Nat.le_trans hH.mod.size h))
      replace hH := hH.modNew hmy6 (by repeat (first | exact .here | apply In.there | apply Put.there | apply Del.there)) hoby5 hry6 hky6
      refine ⟨_, rfl, hH.kp (by repeat (first | exact Sub.nil | refine Sub.cons ?_ ?_ | exact In.here | refine In.there ?_)), ?_⟩
      clear hS; intro a hS
      refine r_call (l := [.tmp 43, .tmp 47, .tmp 49]) hS rfl rfl Fc.fn24 rfl ?_
      refine Calls.mono ((flag_tt by6 cy6 ky6 (U ++ prsB ptl ++ [UInt8.ofNat (prm.length / 256), UInt8.ofNat prm.length] ++ prm) (by first | omega | (simp only [List.length_append, List.length_cons, List.length_nil]; omega)) _ (hH.get (b := by6) (by repeat (first | exact In.here | refine In.there ?_))) hBy6).mono (fun e w1 hP => hP)) ?_
      rintro e w1 hP
      obtain ⟨by7, cy7, ky7, rfl, hry7, hky7, hBy7, hmy7⟩ := hP
      have hBy7 : BB cy7 ky7 (U ++ prsB ptl ++ [UInt8.ofNat (prm.length / 256), UInt8.ofNat prm.length] ++ prm ++ [3]) := hBy7
      have hoby7 : Nobody by7 ∨ w0.heap.size ≤ by7 := hry7.elim (fun h => by rw [h]; exact hoby6) (fun h => .inr (Nat.le_trans hH.mod.size h))
      replace hH := hH.modNew hmy7 (by repeat (first | exact .here | apply In.there | apply Put.there | apply Del.there)) hoby6 hry7 hky7
      refine ⟨_, rfl, hH.kp (by repeat (first | exact Sub.nil | refine Sub.cons ?_ ?_ | exact In.here | refine In.there ?_)), ?_⟩
      clear hS; intro a hS
      refine r_assign hS trivial rfl rfl ?_; clear hS; intro a hS
      refine Sq.nil ?_
      refine then_n ?_
      refine c_seq ?_
      refine reg_plain w0 (Nobody) ?_
      refine r_fieldAddr hS hH.kp0 rfl Fc.fo34_6 rfl ?_; clear hS; intro a hS
      refine r_load_sc hS hH (by repeat (first | exact Sub.nil | refine Sub.cons ?_ ?_ | exact In.here | refine In.there ?_)) rfl (by repeat (first | exact In.here | refine In.there ?_)) Fc.sc25 (by rfl) rfl ?_; clear hS; intro a hS
      refine r_lenSl hS hH.kp0 rfl Fc.isSlice25 rfl ?_; clear hS; intro a hS
      refine r_gtr hS hH.kp0 rfl rfl rfl ?_; clear hS; intro a hS
      refine Sq.nil ?_
      refine then_n ?_
      refine c_condT hS rfl (DT (by omega)) ?_
      refine reg_draw [(true, 0, [0]), (true, 1, [0]), (true, 2, [0]), (true, 4, [0]), (true, 5, [0]), (false, 3, [0]), (false, 6, [0]), (true, 7, [0])] Fc.mixed (by kernel_rfl) (by kernel_rfl) (by kernel_rfl) (by kernel_rfl) (by kernel_rfl) (by repeat (first | with_reducible exact steady_body | with_reducible apply steady_block | with_reducible apply steady_then | with_reducible apply steady_scope | exact steady_body)) hH ?_
      replace hH := hH.drew
      refine r_move hS trivial rfl rfl ?_; clear hS; intro a hS
      refine r_fieldAddr hS trivial rfl Fc.fo34_6 rfl ?_; clear hS; intro a hS
      refine r_load_scS hS rfl (by repeat (first | exact In.here | refine In.there ?_)) Fc.sc25 (by rfl) rfl ?_; clear hS; intro a hS
      refine r_fieldAddr hS trivial rfl Fc.fo34_7 rfl ?_; clear hS; intro a hS
      refine r_slArr hS trivial rfl Fc.ar22 rfl ?_; clear hS; intro a hS
      refine r_call (l := [.tmp 55, .tmp 57]) hS rfl rfl Fc.fn25 rfl ?_
      refine Calls.mono ((long_some by7 cy7 ky7 (U ++ prsB ptl ++ [UInt8.ofNat (prm.length / 256), UInt8.ofNat prm.length] ++ prm ++ [3]) q3 c3 tck (by first | omega | (simp only [List.length_append, List.length_cons, List.length_nil]; omega)) (by omega) _ (hH.get (b := by7) (by repeat (first | exact In.here | refine In.there ?_))) hBy7 (hbT.go hH.mod (fun x hx => .inr (by subst hx; exact hoby7.resolve_left (fun h => h))))).mono (fun e w1 hP => hP)) ?_
      rintro e w1 hP
      obtain ⟨by8, cy8, ky8, rfl, hry8, hky8, hBy8, hmy8⟩ := hP
      have hBy8 : BB cy8 ky8 (U ++ prsB ptl ++ [UInt8.ofNat (prm.length / 256), UInt8.ofNat prm.length] ++ prm ++ [3] ++ [UInt8.ofNat (tck.length / 256), UInt8.ofNat tck.length] ++ tck) := hBy8
      have hoby8 : Nobody by8 ∨ w0.heap.size ≤ by8 := hry8.elim (fun h => by rw [h]; exact hoby7) (fun h => .inr (Nat.le_trans hH.mod.size h))
      replace hH := hH.modNew hmy8 (by repeat (first | exact .here | apply In.there | apply Put.there | apply Del.there)) hoby7 hry8 hky8
      refine ⟨_, rfl, hH.kp (by repeat (first | exact Sub.nil | refine Sub.cons ?_ ?_ | exact In.here | refine In.there ?_)), ?_⟩
      clear hS; intro a hS
      refine r_append_own hS hH rfl rfl (by repeat (first | exact .here | apply In.there | apply Put.there | apply Del.there)) (by repeat (first | exact Sub.nil | refine Sub.cons ?_ ?_ | exact In.here | refine In.there ?_)) Fc.el25 Fc.ni25 (by rw [hBy8.len, Nat.mul_one]) hBy8.le (Bs.row (o := 0 + 37) (u := [n0, n1, n2, n3, n4, n5, n6, n7, n8, n9, na, nb, nc, nd, ne, nf]) (cap := 16) (hH.get (b := b1) (by repeat (first | exact In.here | refine In.there ?_))) rfl (Nat.le_refl 16)).src (by first | omega | (simp only [List.length_append, List.length_cons, List.length_nil]; omega)) hoby8 rfl ?_
      clear hS hH; intro a w by9 cy9 ky9 hoby9 hly9 hcy9 hty9 hmy9 hS hH
      have hey9 : (U ++ prsB ptl ++ [UInt8.ofNat (prm.length / 256), UInt8.ofNat prm.length] ++ prm ++ [3] ++ [UInt8.ofNat (tck.length / 256), UInt8.ofNat tck.length] ++ tck).length + ([n0, n1, n2, n3, n4, n5, n6, n7, n8, n9, na, nb, nc, nd, ne, nf]).length = (U ++ prsB ptl ++ [UInt8.ofNat (prm.length / 256), UInt8.ofNat prm.length] ++ prm ++ [3] ++ [UInt8.ofNat (tck.length / 256), UInt8.ofNat tck.length] ++ tck ++ [n0, n1, n2, n3, n4, n5, n6, n7, n8, n9, na, nb, nc, nd, ne, nf]).length := (show (U ++ prsB ptl ++ [UInt8.ofNat (prm.length / 256), UInt8.ofNat prm.length] ++ prm ++ [3] ++ [UInt8.ofNat (tck.length / 256), UInt8.ofNat tck.length] ++ tck).length + ([n0, n1, n2, n3, n4, n5, n6, n7, n8, n9, na, nb, nc, nd, ne, nf]).length = (U ++ prsB ptl ++ [UInt8.ofNat (prm.length / 256), UInt8.ofNat prm.length] ++ prm ++ [3] ++ [UInt8.ofNat (tck.length / 256), UInt8.ofNat tck.length] ++ tck ++ [n0, n1, n2, n3, n4, n5, n6, n7, n8, n9, na, nb, nc, nd, ne, nf]).length from List.length_append.symm)
      have hBy9 : BB cy9 ky9 (U ++ prsB ptl ++ [UInt8.ofNat (prm.length / 256), UInt8.ofNat prm.length] ++ prm ++ [3] ++ [UInt8.ofNat (tck.length / 256), UInt8.ofNat tck.length] ++ tck ++ [n0, n1, n2, n3, n4, n5, n6, n7, n8, n9, na, nb, nc, nd, ne, nf]) := ⟨by rw [hly9, Nat.mul_one], by rw [← hey9]; exact hcy9, by rw [← hey9]; rw [Nat.mul_one, Nat.mul_one] at hty9; rw [hty9, hBy8.take]; exact List.map_append.symm⟩
      rw [hey9] at hS
      refine r_assign hS trivial rfl rfl ?_; clear hS; intro a hS
      refine Sq.nil ?_
      refine blk_n ?_
      refine then_n ?_
      refine c_seq ?_
      refine reg_plain w0 (Nobody) ?_
      refine r_move hS hH.kp0 rfl rfl ?_; clear hS; intro a hS
      refine r_assign hS hH.kp0 rfl rfl ?_; clear hS; intro a hS
      refine Sq.nil ?_
      refine then_n ?_
      refine wp_ret ?_
      have hfin : U ++ prsB ptl ++ [UInt8.ofNat (prm.length / 256), UInt8.ofNat prm.length] ++ prm ++ [3] ++ [UInt8.ofNat (tck.length / 256), UInt8.ofNat tck.length] ++ tck ++ [n0, n1, n2, n3, n4, n5, n6, n7, n8, n9, na, nb, nc, nd, ne, nf] = bodyB 1 [r0, r1, r2, r3, r4, r5, r6, r7, r8, r9, ra, rb, rc, rd, re, rf] [s0, s1, s2, s3, s4, s5, s6, s7, s8, s9, sa, sb, sc, sd, se, sf] name ptl prm tck [n0, n1, n2, n3, n4, n5, n6, n7, n8, n9, na, nb, nc, nd, ne, nf] true ag [m0, m1, m2, m3, m4, m5, m6, m7, m8, m9, ma, mb, mc, md, me, mf] li := by rw [hU]; unfold bodyB; rw [if_pos rfl]; simp [beB1, beB2, List.append_assoc, show 0 < tck.length from htk1]
      rw [hfin] at hS hBy9
      exact leave (.inl rfl) hS rfl (Res.tmp rfl Res.nil) ⟨by9, cy9, ky9, rfl, hoby9.resolve_left (fun h => h), hH.get (b := by9) (by repeat (first | exact In.here | refine In.there ?_)), hBy9, hH.mod⟩

end Go.Proofs.Ytcenionnedgadaa
