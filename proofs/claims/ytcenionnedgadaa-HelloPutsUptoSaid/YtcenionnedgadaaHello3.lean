/- For every input of bulk at most 1048576 the law HelloPuts returns true and the input reads as it did. Part Hello3: walks and lemmas of the proof. -/
import Derived.Test.YtcenionnedgadaaHello2
import Derived.Test.YtcenionnedgadaaSymKind
namespace Go.Proofs.Ytcenionnedgadaa
open Go.Sym
theorem Fc.kmap : IMap Try.prog 38 3 4 := iMap_mk (by kernel_rfl) (by kernel_rfl) (by kernel_rfl)

theorem Fc.bsl60_2 : bslB Try.prog 60 2 = some (4, 1, [.bool false, .bool false]) := by kernel_rfl
theorem Fc.fn14 : isFn Try.prog 14 = true := by kernel_rfl
theorem Fc.fn19 : isFn Try.prog 19 = true := by kernel_rfl
theorem Fc.fn20 : isFn Try.prog 20 = true := by kernel_rfl
theorem Fc.fo27_1 : foff Try.prog 27 1 = some 1 := by kernel_rfl
theorem Fc.fo27_2 : foff Try.prog 27 2 = some 17 := by kernel_rfl
theorem Fc.isMap38 : isMap Try.prog 38 = true := by kernel_rfl
set_option maxRecDepth 100000 in
set_option maxHeartbeats 400000 in
theorem kinds_c (w0 : World) : Calls Try.prog 10 #[] w0 fun e w' => ∃ b, e = .returned (.map (some b)) ∧ w0.heap.size ≤ b ∧ w'.heap[b]? = some (.map (KE kindL) 7) ∧ Ext w0 w' := by
  refine enter Try.func10 rfl rfl rfl ?_
  intro a hS
  have hH := Hp.start w0 (Nobody)
  refine c_seq ?_
  refine reg_plain w0 (Nobody) ?_
  refine r_assign hS hH.kp0 rfl rfl ?_; clear hS; intro a hS
  refine Sq.nil ?_
  refine then_n ?_
  refine c_seq ?_
  refine reg_plain w0 (Nobody) ?_
  refine r_makeMap hS hH (by repeat (first | exact Sub.nil | refine Sub.cons ?_ ?_ | exact In.here | refine In.there ?_)) Fc.isMap38 rfl ?_
  clear hS hH; intro a w bm hbm hwbm hS hH
  refine r_kindPut [] Fc.kmap hS hH rfl rfl rfl (by repeat (first | exact .here | apply In.there | apply Put.there | apply Del.there)) (by repeat (first | exact Sub.nil | refine Sub.cons ?_ ?_ | exact In.here | refine In.there ?_)) (by decide) (.inr hbm) ?_; clear hH; intro w hH
  refine r_kindPut [(1, 0)] Fc.kmap hS hH rfl rfl rfl (by repeat (first | exact .here | apply In.there | apply Put.there | apply Del.there)) (by repeat (first | exact Sub.nil | refine Sub.cons ?_ ?_ | exact In.here | refine In.there ?_)) (by decide) (.inr hbm) ?_; clear hH; intro w hH
  refine r_kindPut [(1, 0), (2, 1)] Fc.kmap hS hH rfl rfl rfl (by repeat (first | exact .here | apply In.there | apply Put.there | apply Del.there)) (by repeat (first | exact Sub.nil | refine Sub.cons ?_ ?_ | exact In.here | refine In.there ?_)) (by decide) (.inr hbm) ?_; clear hH; intro w hH
  refine r_kindPut [(1, 0), (2, 1), (4, 2)] Fc.kmap hS hH rfl rfl rfl (by repeat (first | exact .here | apply In.there | apply Put.there | apply Del.there)) (by repeat (first | exact Sub.nil | refine Sub.cons ?_ ?_ | exact In.here | refine In.there ?_)) (by decide) (.inr hbm) ?_; clear hH; intro w hH
  refine r_kindPut [(1, 0), (2, 1), (4, 2), (8, 3)] Fc.kmap hS hH rfl rfl rfl (by repeat (first | exact .here | apply In.there | apply Put.there | apply Del.there)) (by repeat (first | exact Sub.nil | refine Sub.cons ?_ ?_ | exact In.here | refine In.there ?_)) (by decide) (.inr hbm) ?_; clear hH; intro w hH
  refine r_kindPut [(1, 0), (2, 1), (4, 2), (8, 3), (11, 4)] Fc.kmap hS hH rfl rfl rfl (by repeat (first | exact .here | apply In.there | apply Put.there | apply Del.there)) (by repeat (first | exact Sub.nil | refine Sub.cons ?_ ?_ | exact In.here | refine In.there ?_)) (by decide) (.inr hbm) ?_; clear hH; intro w hH
  refine r_kindPut [(1, 0), (2, 1), (4, 2), (8, 3), (11, 4), (15, 5)] Fc.kmap hS hH rfl rfl rfl (by repeat (first | exact .here | apply In.there | apply Put.there | apply Del.there)) (by repeat (first | exact Sub.nil | refine Sub.cons ?_ ?_ | exact In.here | refine In.there ?_)) (by decide) (.inr hbm) ?_; clear hH; intro w hH
  refine r_move hS hH.kp0 rfl rfl ?_; clear hS; intro a hS
  refine r_assign hS hH.kp0 rfl rfl ?_; clear hS; intro a hS
  refine Sq.nil ?_
  refine then_n ?_
  refine wp_ret ?_
  exact leave (.inl rfl) hS rfl (Res.tmp rfl Res.nil) ⟨bm, rfl, hbm, hH.get (b := bm) (by repeat (first | exact In.here | refine In.there ?_)), hH.mod⟩

set_option maxRecDepth 100000 in
set_option maxHeartbeats 4000000 in
theorem body_1ff (q1 q2 q3 : Option Addr) (c1 c2 c3 : Nat) (rnd shr bnd mrk : List UInt8) (name : ByteArray) (ptl : List ByteArray) (prm tck : List UInt8) (ea ag : Bool) (li : Int) (hrnd : rnd.length = 16) (hshr : shr.length = 16) (hbnd : bnd.length = 16) (hmrk : mrk.length = 16) (bw : Nat) (hnm : name.size ≤ 255) (hpl : ptl.length ≤ 8) (hod : oddN ptl = 0) (hpr : prm.length ≤ 4096) (htk : tck.length ≤ 512) (htk0 : tck.length = 0) (hea : ea = false) (w0 : World) (h1 : w0.heap[bw]? = some (.cells [Value.slice none 0 0].toArray 42 (0, 0))) (hpt : ∀ w', Mod (fun x => x = bw) w0 w' → SsA w' q1 c1 ptl) (hbP : BsF (fun x => x = bw) w0 (.slice q2 prm.length c2) prm) (hbT : BsF (fun x => x = bw) w0 (.slice q3 tck.length c3) tck) : Calls Try.prog 12 #[.pointer (some ⟨bw, 0, none⟩), .agg ([.int .i64 1] ++ hcells rnd ++ hcells shr ++ [.string name, .slice q1 ptl.length c1, .slice q2 prm.length c2, .slice q3 tck.length c3] ++ hcells bnd ++ [.bool ea, .bool ag] ++ hcells mrk ++ [.int .i64 li] : List Value).toArray] w0 fun e w' => ∃ (b' c' : Nat) (k' : List Value), e = .returned (.tuple #[]) ∧ w0.heap.size ≤ b' ∧ w'.heap[bw]? = some (.cells [Value.slice (some ⟨b', 0, none⟩) (bodyB 1 rnd shr name ptl prm tck bnd ea ag mrk li).length c'].toArray 42 (0, 0)) ∧ w'.heap[b']? = some (.cells k'.toArray 5 (0, 0)) ∧ BB c' k' (bodyB 1 rnd shr name ptl prm tck bnd ea ag mrk li) ∧ Mod (fun x => x = bw) w0 w' := by
  refine enter Try.func12 rfl rfl rfl ?_
  intro a hS
  have hH := Hp.start w0 (fun x => x = bw)
  subst hea
  obtain ⟨r0, r1, r2, r3, r4, r5, r6, r7, r8, r9, ra, rb, rc, rd, re, rf, rfl⟩ := len16 hrnd
  obtain ⟨s0, s1, s2, s3, s4, s5, s6, s7, s8, s9, sa, sb, sc, sd, se, sf, rfl⟩ := len16 hshr
  obtain ⟨n0, n1, n2, n3, n4, n5, n6, n7, n8, n9, na, nb, nc, nd, ne, nf, rfl⟩ := len16 hbnd
  obtain ⟨m0, m1, m2, m3, m4, m5, m6, m7, m8, m9, ma, mb, mc, md, me, mf, rfl⟩ := len16 hmrk
  have hnl : name.data.toList.length = name.size := by rw [Array.length_toList]; rfl
  have hodj : ∀ {k : Nat} (hk : k < ptl.length), 1 ≤ ptl[k].size ∧ ptl[k].size ≤ 255 := fun hk => oddN_zero hk hod
  replace hH := hH.know h1 (fun p hp => by simp at hp)
  refine c_seq ?_
  refine reg_plain w0 (fun x => x = bw) ?_
  refine r_box hS hH (by repeat (first | exact Sub.nil | refine Sub.cons ?_ ?_ | exact In.here | refine In.there ?_)) rfl rfl rfl ?_
  clear hS hH; intro a w b3 hb3 hwb3 hS hH
  refine Sq.nil ?_
  refine then_n ?_
  refine c_seq ?_
  refine reg_plain w0 (fun x => x = bw) ?_
  refine r_fieldAddr hS hH.kp0 rfl Fc.fo27_0 rfl ?_; clear hS; intro a hS
  refine r_load_sc hS hH (by repeat (first | exact Sub.nil | refine Sub.cons ?_ ?_ | exact In.here | refine In.there ?_)) rfl (by repeat (first | exact In.here | refine In.there ?_)) Fc.sc3 (by rfl) rfl ?_; clear hS; intro a hS
  refine Sq.nil ?_
  refine then_n ?_
  refine wp_block ?_
  refine c_seq ?_
  refine wp_block ?_
  refine c_seq ?_
  refine wp_block ?_
  refine c_seq ?_
  refine wp_block ?_
  refine c_seq ?_
  refine wp_block ?_
  refine c_seq ?_
  refine wp_block ?_
  refine c_seq ?_
  refine wp_block ?_
  refine c_seq ?_
  refine c_seq ?_
  refine c_seq ?_
  refine reg_plain w0 (fun x => x = bw) ?_
  refine r_eql hS hH.kp0 rfl rfl rfl ?_; clear hS; intro a hS
  refine r_assign hS hH.kp0 rfl rfl ?_; clear hS; intro a hS
  refine Sq.nil ?_
  refine then_n ?_
  refine c_condT hS rfl rfl ?_
  refine wp_exit ?_
  refine then_e ?_
  refine then_e ?_
  refine blk_hit ?_
  refine then_n ?_
  refine c_seq ?_
  refine c_seq ?_
  refine reg_plain w0 (fun x => x = bw) ?_
  refine r_move hS hH.kp0 rfl rfl ?_; clear hS; intro a hS
  refine r_fieldAddr hS hH.kp0 rfl Fc.fo27_1 rfl ?_; clear hS; intro a hS
  refine r_load_ag hS hH (by repeat (first | exact Sub.nil | refine Sub.cons ?_ ?_ | exact In.here | refine In.there ?_)) rfl (by repeat (first | exact In.here | refine In.there ?_)) Fc.ag23 (of_decide_eq_true rfl) rfl ?_; clear hS; intro a hS
  refine r_call (l := [.tmp 18, .tmp 20]) hS rfl rfl Fc.fn19 rfl ?_
  refine Calls.mono ((handle_nil bw [r0, r1, r2, r3, r4, r5, r6, r7, r8, r9, ra, rb, rc, rd, re, rf] rfl _ (hH.get (b := bw) (by repeat (first | exact In.here | refine In.there ?_)))).mono (fun e w1 hP => hP)) ?_
  rintro e w1 hP
  obtain ⟨bx1, cx1, kx1, rfl, hrx1, hpx1, hkx1, hBx1, hmx1⟩ := hP
  have hBx1 : BB cx1 kx1 ([r0, r1, r2, r3, r4, r5, r6, r7, r8, r9, ra, rb, rc, rd, re, rf]) := hBx1
  have hpx1 : w1.heap[bw]? = some (.cells [Value.slice (some ⟨bx1, 0, none⟩) (([r0, r1, r2, r3, r4, r5, r6, r7, r8, r9, ra, rb, rc, rd, re, rf])).length cx1].toArray 42 (0, 0)) := hpx1
  have hnx1 : bx1 ≠ bw := fun e => by have h9 := lt_of_block (hH.get (b := bw) (by repeat (first | exact .here | apply In.there | apply Put.there | apply Del.there))); omega
  have hwx1 := Nat.le_trans hH.mod.size hrx1
  replace hH := hH.modPutN hmx1 hpx1 (by repeat (first | exact .here | apply In.there | apply Put.there | apply Del.there)) (.inl rfl) hrx1 hkx1
  refine ⟨_, rfl, hH.kp0, ?_⟩
  clear hS; intro a hS
  refine Sq.nil ?_
  refine then_n ?_
  refine c_seq ?_
  refine reg_plain w0 (fun x => x = bw) ?_
  refine r_move hS hH.kp0 rfl rfl ?_; clear hS; intro a hS
  refine r_fieldAddr hS hH.kp0 rfl Fc.fo27_2 rfl ?_; clear hS; intro a hS
  refine r_load_ag hS hH (by repeat (first | exact Sub.nil | refine Sub.cons ?_ ?_ | exact In.here | refine In.there ?_)) rfl (by repeat (first | exact In.here | refine In.there ?_)) Fc.ag23 (of_decide_eq_true rfl) rfl ?_; clear hS; intro a hS
  refine r_call (l := [.tmp 22, .tmp 24]) hS rfl rfl Fc.fn19 rfl ?_
  refine Calls.mono ((handle_some bw bx1 cx1 kx1 ([r0, r1, r2, r3, r4, r5, r6, r7, r8, r9, ra, rb, rc, rd, re, rf]) [s0, s1, s2, s3, s4, s5, s6, s7, s8, s9, sa, sb, sc, sd, se, sf] rfl (by first | omega | (simp only [List.length_append, List.length_cons, List.length_nil, beB_len]; omega)) _ (hH.get (b := bw) (by repeat (first | exact In.here | refine In.there ?_))) (hH.get (b := bx1) (by repeat (first | exact In.here | refine In.there ?_))) hBx1 hnx1).mono (fun e w1 hP => hP)) ?_
  rintro e w1 hP
  obtain ⟨bx2, cx2, kx2, rfl, hrx2, hpx2, hkx2, hBx2, hmx2⟩ := hP
  have hBx2 : BB cx2 kx2 ([r0, r1, r2, r3, r4, r5, r6, r7, r8, r9, ra, rb, rc, rd, re, rf] ++ [s0, s1, s2, s3, s4, s5, s6, s7, s8, s9, sa, sb, sc, sd, se, sf]) := hBx2
  have hpx2 : w1.heap[bw]? = some (.cells [Value.slice (some ⟨bx2, 0, none⟩) (([r0, r1, r2, r3, r4, r5, r6, r7, r8, r9, ra, rb, rc, rd, re, rf] ++ [s0, s1, s2, s3, s4, s5, s6, s7, s8, s9, sa, sb, sc, sd, se, sf])).length cx2].toArray 42 (0, 0)) := hpx2
  have hnx2 : bx2 ≠ bw := fun e => by rcases hrx2 with h | h; exact hnx1 (h.symm.trans e); have h9 := lt_of_block (hH.get (b := bw) (by repeat (first | exact .here | apply In.there | apply Put.there | apply Del.there))); omega
  have hwx2 : w0.heap.size ≤ bx2 := by rcases hrx2 with h | h; rw [h]; exact hwx1; exact Nat.le_trans hH.mod.size h
  replace hH := hH.modPut2 hmx2 (by repeat (first | exact .here | apply In.there | apply Put.there | apply Del.there)) (by repeat (first | exact .here | apply In.there | apply Put.there | apply Del.there)) hpx2 (.inl rfl) (.inr hwx1) hrx2 hkx2
  refine ⟨_, rfl, hH.kp0, ?_⟩
  clear hS; intro a hS
  refine Sq.nil ?_
  refine then_n ?_
  refine c_seq ?_
  refine reg_plain w0 (fun x => x = bw) ?_
  refine r_move hS hH.kp0 rfl rfl ?_; clear hS; intro a hS
  refine r_fieldAddr hS hH.kp0 rfl Fc.fo27_3 rfl ?_; clear hS; intro a hS
  refine r_load_sc hS hH (by repeat (first | exact Sub.nil | refine Sub.cons ?_ ?_ | exact In.here | refine In.there ?_)) rfl (by repeat (first | exact In.here | refine In.there ?_)) Fc.sc9 (by rfl) rfl ?_; clear hS; intro a hS
  refine r_call (l := [.tmp 26, .tmp 28, .const (.int .i64 1)]) hS rfl rfl Fc.fn14 rfl ?_
  refine Calls.mono ((text_some bw bx2 cx2 kx2 ([r0, r1, r2, r3, r4, r5, r6, r7, r8, r9, ra, rb, rc, rd, re, rf] ++ [s0, s1, s2, s3, s4, s5, s6, s7, s8, s9, sa, sb, sc, sd, se, sf]) name 1 (by omega) (by decide) (by decide) (by first | omega | (simp only [List.length_append, List.length_cons, List.length_nil, beB_len]; omega)) _ (hH.get (b := bw) (by repeat (first | exact In.here | refine In.there ?_))) (hH.get (b := bx2) (by repeat (first | exact In.here | refine In.there ?_))) hBx2 hnx2).mono (fun e w1 hP => hP)) ?_
  rintro e w1 hP
  obtain ⟨bx3, cx3, kx3, rfl, hrx3, hpx3, hkx3, hBx3, hmx3⟩ := hP
  have hBx3 : BB cx3 kx3 ([r0, r1, r2, r3, r4, r5, r6, r7, r8, r9, ra, rb, rc, rd, re, rf] ++ [s0, s1, s2, s3, s4, s5, s6, s7, s8, s9, sa, sb, sc, sd, se, sf] ++ beB name.size 1 ++ name.data.toList) := hBx3
  have hpx3 : w1.heap[bw]? = some (.cells [Value.slice (some ⟨bx3, 0, none⟩) (([r0, r1, r2, r3, r4, r5, r6, r7, r8, r9, ra, rb, rc, rd, re, rf] ++ [s0, s1, s2, s3, s4, s5, s6, s7, s8, s9, sa, sb, sc, sd, se, sf] ++ beB name.size 1 ++ name.data.toList)).length cx3].toArray 42 (0, 0)) := hpx3
  have hnx3 : bx3 ≠ bw := fun e => by have h9 := lt_of_block (hH.get (b := bw) (by repeat (first | exact .here | apply In.there | apply Put.there | apply Del.there))); omega
  have hwx3 := Nat.le_trans hH.mod.size hrx3
  replace hH := hH.modPutN hmx3 hpx3 (by repeat (first | exact .here | apply In.there | apply Put.there | apply Del.there)) (.inl rfl) hrx3 hkx3
  refine ⟨_, rfl, hH.kp0, ?_⟩
  clear hS; intro a hS
  refine Sq.nil ?_
  refine then_n ?_
  refine c_seq ?_
  refine reg_plain w0 (fun x => x = bw) ?_
  refine r_move hS hH.kp0 rfl rfl ?_; clear hS; intro a hS
  refine r_fieldAddr hS hH.kp0 rfl Fc.fo27_4 rfl ?_; clear hS; intro a hS
  refine r_load_sc hS hH (by repeat (first | exact Sub.nil | refine Sub.cons ?_ ?_ | exact In.here | refine In.there ?_)) rfl (by repeat (first | exact In.here | refine In.there ?_)) Fc.sc24 (by rfl) rfl ?_; clear hS; intro a hS
  refine r_lenSl hS hH.kp0 rfl Fc.isSlice24 rfl ?_; clear hS; intro a hS
  refine r_call (l := [.tmp 30, .tmp 33, .const (.int .i64 1)]) hS rfl rfl Fc.fn13 rfl ?_
  refine Calls.mono ((number_some bw bx3 cx3 kx3 ([r0, r1, r2, r3, r4, r5, r6, r7, r8, r9, ra, rb, rc, rd, re, rf] ++ [s0, s1, s2, s3, s4, s5, s6, s7, s8, s9, sa, sb, sc, sd, se, sf] ++ beB name.size 1 ++ name.data.toList) ptl.length 1 (by omega) (by decide) (by decide) (by first | omega | (simp only [List.length_append, List.length_cons, List.length_nil, beB_len]; omega)) _ (hH.get (b := bw) (by repeat (first | exact In.here | refine In.there ?_))) (hH.get (b := bx3) (by repeat (first | exact In.here | refine In.there ?_))) hBx3 hnx3).mono (fun e w1 hP => hP)) ?_
  rintro e w1 hP
  obtain ⟨bx4, cx4, kx4, rfl, hrx4, hpx4, hkx4, hBx4, hmx4⟩ := hP
  have hBx4 : BB cx4 kx4 ([r0, r1, r2, r3, r4, r5, r6, r7, r8, r9, ra, rb, rc, rd, re, rf] ++ [s0, s1, s2, s3, s4, s5, s6, s7, s8, s9, sa, sb, sc, sd, se, sf] ++ beB name.size 1 ++ name.data.toList ++ beB ptl.length 1) := hBx4
  have hpx4 : w1.heap[bw]? = some (.cells [Value.slice (some ⟨bx4, 0, none⟩) (([r0, r1, r2, r3, r4, r5, r6, r7, r8, r9, ra, rb, rc, rd, re, rf] ++ [s0, s1, s2, s3, s4, s5, s6, s7, s8, s9, sa, sb, sc, sd, se, sf] ++ beB name.size 1 ++ name.data.toList ++ beB ptl.length 1)).length cx4].toArray 42 (0, 0)) := hpx4
  have hnx4 : bx4 ≠ bw := fun e => by have h9 := lt_of_block (hH.get (b := bw) (by repeat (first | exact .here | apply In.there | apply Put.there | apply Del.there))); omega
  have hwx4 := Nat.le_trans hH.mod.size hrx4
  replace hH := hH.modPutN hmx4 hpx4 (by repeat (first | exact .here | apply In.there | apply Put.there | apply Del.there)) (.inl rfl) hrx4 hkx4
  refine ⟨_, rfl, hH.kp0, ?_⟩
  clear hS; intro a hS
  refine Sq.nil ?_
  refine then_n ?_
  refine c_seq ?_
  refine c_seq ?_
  refine reg_plain w0 (fun x => x = bw) ?_
  refine r_fieldAddr hS hH.kp0 rfl Fc.fo27_4 rfl ?_; clear hS; intro a hS
  refine r_load_sc hS hH (by repeat (first | exact Sub.nil | refine Sub.cons ?_ ?_ | exact In.here | refine In.there ?_)) rfl (by repeat (first | exact In.here | refine In.there ?_)) Fc.sc24 (by rfl) rfl ?_; clear hS; intro a hS
  refine r_lenSl hS hH.kp0 rfl Fc.isSlice24 rfl ?_; clear hS; intro a hS
  refine r_move hS hH.kp0 rfl rfl ?_; clear hS; intro a hS
  refine Sq.nil ?_
  obtain ⟨U, hU⟩ : ∃ U, U = ([r0, r1, r2, r3, r4, r5, r6, r7, r8, r9, ra, rb, rc, rd, re, rf] ++ [s0, s1, s2, s3, s4, s5, s6, s7, s8, s9, sa, sb, sc, sd, se, sf] ++ beB name.size 1 ++ name.data.toList ++ beB ptl.length 1) := ⟨_, rfl⟩
  have hUl : U.length ≤ 300 := by rw [hU]; first | omega | (simp only [List.length_append, List.length_cons, List.length_nil, beB_len]; omega)
  rw [← hU] at hH hBx4
  refine then_n ?_
  refine wp_block ?_
  refine c_loop (fun m a w => ∃ (j : Nat) (i : Int) (bx5 cx5 : Nat) (kx5 : List Value), m + j = ptl.length ∧ i = j ∧ w0.heap.size ≤ bx5 ∧ bx5 ≠ bw ∧ BB cx5 kx5 (U ++ prsB (ptl.take j)) ∧ St 124 (lv [(0, .pointer (some ⟨bw, 0, none⟩)), (3, .pointer (some ⟨b3, 0, none⟩)), (36, .slice q1 ptl.length c1), (37, .int .i64 (ptl.length : Int)), (38, .int .i64 i)]) a ∧ Hp w0 (fun x => x = bw) [(bw, .cells [.slice (some ⟨bx5, 0, none⟩) (U ++ prsB (ptl.take j)).length cx5].toArray 42 (0, 0)), (bx5, .cells kx5.toArray 5 (0, 0)), (b3, .cells ([.int .i64 1] ++ hcells [r0, r1, r2, r3, r4, r5, r6, r7, r8, r9, ra, rb, rc, rd, re, rf] ++ hcells [s0, s1, s2, s3, s4, s5, s6, s7, s8, s9, sa, sb, sc, sd, se, sf] ++ [.string name, .slice q1 ptl.length c1, .slice q2 prm.length c2, .slice q3 tck.length c3] ++ hcells [n0, n1, n2, n3, n4, n5, n6, n7, n8, n9, na, nb, nc, nd, ne, nf] ++ [.bool false, .bool ag] ++ hcells [m0, m1, m2, m3, m4, m5, m6, m7, m8, m9, ma, mb, mc, md, me, mf] ++ [.int .i64 li] : List Value).toArray 27 (0, 0))] w) (ptl.length) ?_ ?_
  · exact ⟨0, _, bx4, cx4, kx4, by omega, rfl, hwx4, hnx4, by rw [List.take_zero, show prsB [] = [] from rfl, List.append_nil]; exact hBx4, hS.live ⟨rfl, rfl, rfl, rfl, rfl, trivial⟩, by rw [List.take_zero, show prsB [] = [] from rfl, List.append_nil]; exact hH.sub (by repeat (first | exact Sub.nil | refine Sub.cons ?_ ?_ | exact In.here | refine In.there ?_)) (by have nd := hH.nd; simp only [List.map_cons, List.map_nil, List.nodup_cons, List.mem_cons, List.not_mem_nil, or_false, not_or, List.nodup_nil, and_true, not_false_iff] at nd ⊢; omega)⟩
  clear hS hH; intro m a w hI; obtain ⟨j, i, bx5, cx5, kx5, hmj, hi, hwx5, hnx5, hBx5, hS, hH⟩ := hI
  refine c_seq ?_
  refine reg_plain w0 (fun x => x = bw) ?_
  refine r_lss hS hH.kp0 rfl rfl rfl ?_; clear hS; intro a hS
  refine Sq.nil ?_
  refine then_n ?_
  refine c_seq ?_
  refine c_cond hS rfl (fun hc5 => ?_) (fun hc5 => ?_)
  · have hk : j < ptl.length := by have := of_decide_eq_true hc5; omega
    obtain ⟨ba, bo, hpq, hcell⟩ := (hpt _ hH.mod).cell hk
    subst hpq
    have hpj := prsB_len _ (oddN_take j hod)
    have hpj2 : (ptl.take j).length ≤ 8 := by rw [List.length_take]; omega
    have hnj : ptl[j].data.toList.length = ptl[j].size := by rw [Array.length_toList]; rfl
    refine wp_skip ?_
    refine then_n ?_
    refine c_seq ?_
    refine wp_block ?_
    refine c_seq ?_
    refine reg_plain w0 (fun x => x = bw) ?_
    refine r_indexAddrS (j := j) hS hH.kp0 rfl rfl Fc.slb24 hi hk rfl ?_; clear hS; intro a hS
    refine r_load_cell hS hH.kp0 rfl hcell Fc.sc9 rfl ?_; clear hS; intro a hS
    refine r_assign hS hH.kp0 rfl rfl ?_; clear hS; intro a hS
    refine Sq.nil ?_
    refine then_n ?_
    refine reg_plain w0 (fun x => x = bw) ?_
    refine r_move hS hH.kp0 rfl rfl ?_; clear hS; intro a hS
    refine r_move hS hH.kp0 rfl rfl ?_; clear hS; intro a hS
    refine r_call (l := [.tmp 42, .tmp 43, .const (.int .i64 1)]) hS rfl rfl Fc.fn14 rfl ?_
    refine Calls.mono ((text_some bw bx5 cx5 kx5 (U ++ prsB (ptl.take j)) ptl[j] 1 (by have := hodj hk; omega) (by decide) (by decide) (by first | omega | (simp only [List.length_append, List.length_cons, List.length_nil, beB_len]; omega)) _ (hH.get (b := bw) (by repeat (first | exact In.here | refine In.there ?_))) (hH.get (b := bx5) (by repeat (first | exact In.here | refine In.there ?_))) hBx5 hnx5).mono (fun e w1 hP => hP)) ?_
    rintro e w1 hP
    obtain ⟨bx6, cx6, kx6, rfl, hrx6, hpx6, hkx6, hBx6, hmx6⟩ := hP
    have hBx6 : BB cx6 kx6 (U ++ prsB (ptl.take j) ++ beB ptl[j].size 1 ++ ptl[j].data.toList) := hBx6
    have hpx6 : w1.heap[bw]? = some (.cells [Value.slice (some ⟨bx6, 0, none⟩) ((U ++ prsB (ptl.take j) ++ beB ptl[j].size 1 ++ ptl[j].data.toList)).length cx6].toArray 42 (0, 0)) := hpx6
    have hnx6 : bx6 ≠ bw := fun e => by have h9 := lt_of_block (hH.get (b := bw) (by repeat (first | exact .here | apply In.there | apply Put.there | apply Del.there))); omega
    have hwx6 := Nat.le_trans hH.mod.size hrx6
    replace hH := hH.modPutN hmx6 hpx6 (by repeat (first | exact .here | apply In.there | apply Put.there | apply Del.there)) (.inl rfl) hrx6 hkx6
    refine ⟨_, rfl, hH.kp0, ?_⟩
    clear hS; intro a hS
    refine Sq.nil ?_
    refine blk_n ?_
    refine then_n ?_
    refine reg_plain w0 (fun x => x = bw) ?_
    (first | refine r_add hS hH.kp0 rfl rfl rfl (by omega) ?_ | refine r_addw hS hH.kp0 rfl rfl rfl ?_)
    clear hS; intro a hS
    refine r_move hS hH.kp0 rfl rfl ?_; clear hS; intro a hS
    refine Sq.nil ?_
    refine then_n ?_
    have hsx : U ++ prsB (ptl.take j) ++ beB ptl[j].size 1 ++ ptl[j].data.toList = U ++ prsB (ptl.take (j + 1)) := by rw [prsB_succ hk]; simp only [List.append_assoc]
    rw [hsx] at hBx6 hH
    refine ⟨m - 1, by omega, j + 1, _, bx6, cx6, kx6, by omega, ?_, hwx6, hnx6, hBx6, hS.live ⟨rfl, rfl, rfl, rfl, rfl, trivial⟩, hH.sub (by repeat (first | exact Sub.nil | refine Sub.cons ?_ ?_ | exact In.here | refine In.there ?_)) (by have nd := hH.nd; simp only [List.map_cons, List.map_nil, List.nodup_cons, List.mem_cons, List.not_mem_nil, or_false, not_or, List.nodup_nil, and_true, not_false_iff] at nd ⊢; omega)⟩
    omega
  · have hke : j = ptl.length := by have := of_decide_eq_false hc5; omega
    subst hke
    rw [List.take_of_length_le (Nat.le_refl _)] at hBx5 hH
    have hpj := prsB_len _ hod
    refine wp_exit ?_
    refine then_e ?_
    refine then_e ?_
    refine blk_hit ?_
    refine then_n ?_
    refine c_seq ?_
    refine reg_plain w0 (fun x => x = bw) ?_
    refine r_move hS hH.kp0 rfl rfl ?_; clear hS; intro a hS
    refine r_fieldAddr hS hH.kp0 rfl Fc.fo27_5 rfl ?_; clear hS; intro a hS
    refine r_load_sc hS hH (by repeat (first | exact Sub.nil | refine Sub.cons ?_ ?_ | exact In.here | refine In.there ?_)) rfl (by repeat (first | exact In.here | refine In.there ?_)) Fc.sc25 (by rfl) rfl ?_; clear hS; intro a hS
    refine r_bytesStr hS hH.kp0 rfl (hbP _ hH.mod) Fc.u8s25 Fc.isStr9 rfl ?_; clear hS; intro a hS
    refine r_call (l := [.tmp 46, .tmp 49, .const (.int .i64 2)]) hS rfl rfl Fc.fn14 rfl ?_
    refine Calls.mono ((text_some bw bx5 cx5 kx5 (U ++ prsB ptl) (strOf prm) 2 (by show prm.length ≤ _; omega) (by decide) (by decide) (by first | omega | (simp only [List.length_append, List.length_cons, List.length_nil, beB_len]; omega)) _ (hH.get (b := bw) (by repeat (first | exact In.here | refine In.there ?_))) (hH.get (b := bx5) (by repeat (first | exact In.here | refine In.there ?_))) hBx5 hnx5).mono (fun e w1 hP => hP)) ?_
    rintro e w1 hP
    obtain ⟨bx6, cx6, kx6, rfl, hrx6, hpx6, hkx6, hBx6, hmx6⟩ := hP
    have hBx6 : BB cx6 kx6 (U ++ prsB ptl ++ beB prm.length 2 ++ prm) := hBx6
    have hpx6 : w1.heap[bw]? = some (.cells [Value.slice (some ⟨bx6, 0, none⟩) ((U ++ prsB ptl ++ beB prm.length 2 ++ prm)).length cx6].toArray 42 (0, 0)) := hpx6
    have hnx6 : bx6 ≠ bw := fun e => by have h9 := lt_of_block (hH.get (b := bw) (by repeat (first | exact .here | apply In.there | apply Put.there | apply Del.there))); omega
    have hwx6 := Nat.le_trans hH.mod.size hrx6
    replace hH := hH.modPutN hmx6 hpx6 (by repeat (first | exact .here | apply In.there | apply Put.there | apply Del.there)) (.inl rfl) hrx6 hkx6
    refine ⟨_, rfl, hH.kp0, ?_⟩
    clear hS; intro a hS
    refine Sq.nil ?_
    refine then_n ?_
    refine c_seq ?_
    refine reg_plain w0 (fun x => x = bw) ?_
    refine r_move hS hH.kp0 rfl rfl ?_; clear hS; intro a hS
    refine r_fieldAddr hS hH.kp0 rfl Fc.fo27_6 rfl ?_; clear hS; intro a hS
    refine r_load_sc hS hH (by repeat (first | exact Sub.nil | refine Sub.cons ?_ ?_ | exact In.here | refine In.there ?_)) rfl (by repeat (first | exact In.here | refine In.there ?_)) Fc.sc25 (by rfl) rfl ?_; clear hS; intro a hS
    refine r_lenSl hS hH.kp0 rfl Fc.isSlice25 rfl ?_; clear hS; intro a hS
    refine r_gtr hS hH.kp0 rfl rfl rfl ?_; clear hS; intro a hS
    rw [show decide ((tck.length : Int) > 0) = false from DF (by omega)] at hS
    refine r_fieldAddr hS hH.kp0 rfl Fc.fo27_8 rfl ?_; clear hS; intro a hS
    refine r_load_sc hS hH (by repeat (first | exact Sub.nil | refine Sub.cons ?_ ?_ | exact In.here | refine In.there ?_)) rfl (by repeat (first | exact In.here | refine In.there ?_)) Fc.sc4 (by rfl) rfl ?_; clear hS; intro a hS
    refine r_buildSlice (parts := [(0, .tmp 55), (1, .tmp 57)]) hS hH (by repeat (first | exact Sub.nil | refine Sub.cons ?_ ?_ | exact In.here | refine In.there ?_)) rfl Fc.bsl60_2 (by rfl) rfl ?_
    clear hS hH; intro a w b58 hb58 hwb58 hS hH
    refine r_call (l := [.tmp 51, .tmp 58]) hS rfl rfl Fc.fn20 rfl ?_
    refine Calls.mono ((flags_ff bw bx6 cx6 b58 kx6 (U ++ prsB ptl ++ beB prm.length 2 ++ prm) (by first | omega | (simp only [List.length_append, List.length_cons, List.length_nil, beB_len]; omega)) _ (hH.get (b := bw) (by repeat (first | exact In.here | refine In.there ?_))) (hH.get (b := bx6) (by repeat (first | exact In.here | refine In.there ?_))) hBx6 hnx6 (hH.get (b := b58) (by repeat (first | exact In.here | refine In.there ?_))) (hH.ne (x := b58) (y := bw) (.cons (by repeat (first | exact .here | apply In.there | apply Put.there | apply Del.there)) (.cons (by repeat (first | exact .here | apply In.there | apply Put.there | apply Del.there)) .nil)) (by intro h; injection h with _ h2 _; revert h2; decide)) (hH.ne (x := b58) (y := bx6) (.cons (by repeat (first | exact .here | apply In.there | apply Put.there | apply Del.there)) (.cons (by repeat (first | exact .here | apply In.there | apply Put.there | apply Del.there)) .nil)) (by intro h; injection h with _ h2 _; revert h2; decide))).mono (fun e w1 hP => hP)) ?_
    rintro e w1 hP
    obtain ⟨bx7, cx7, kx7, rfl, hrx7, hpx7, hkx7, hBx7, hmx7⟩ := hP
    have hBx7 : BB cx7 kx7 (U ++ prsB ptl ++ beB prm.length 2 ++ prm ++ beB 0 1) := hBx7
    have hpx7 : w1.heap[bw]? = some (.cells [Value.slice (some ⟨bx7, 0, none⟩) ((U ++ prsB ptl ++ beB prm.length 2 ++ prm ++ beB 0 1)).length cx7].toArray 42 (0, 0)) := hpx7
    have hnx7 : bx7 ≠ bw := fun e => by have h9 := lt_of_block (hH.get (b := bw) (by repeat (first | exact .here | apply In.there | apply Put.there | apply Del.there))); omega
    have hwx7 := Nat.le_trans hH.mod.size hrx7
    replace hH := hH.modPutN hmx7 hpx7 (by repeat (first | exact .here | apply In.there | apply Put.there | apply Del.there)) (.inl rfl) hrx7 hkx7
    refine ⟨_, rfl, hH.kp0, ?_⟩
    clear hS; intro a hS
    refine Sq.nil ?_
    refine then_n ?_
    refine c_seq ?_
    refine reg_plain w0 (fun x => x = bw) ?_
    refine r_fieldAddr hS hH.kp0 rfl Fc.fo27_6 rfl ?_; clear hS; intro a hS
    refine r_load_sc hS hH (by repeat (first | exact Sub.nil | refine Sub.cons ?_ ?_ | exact In.here | refine In.there ?_)) rfl (by repeat (first | exact In.here | refine In.there ?_)) Fc.sc25 (by rfl) rfl ?_; clear hS; intro a hS
    refine r_lenSl hS hH.kp0 rfl Fc.isSlice25 rfl ?_; clear hS; intro a hS
    refine r_gtr hS hH.kp0 rfl rfl rfl ?_; clear hS; intro a hS
    refine Sq.nil ?_
    refine then_n ?_
    refine c_condF hS rfl (DF (by omega)) ?_
    refine wp_skip ?_
    refine then_n ?_
    refine wp_exit ?_
    refine blk_e rfl ?_
    refine then_e ?_
    refine blk_e rfl ?_
    refine then_e ?_
    refine blk_e rfl ?_
    refine then_e ?_
    refine blk_e rfl ?_
    refine then_e ?_
    refine blk_e rfl ?_
    refine then_e ?_
    refine blk_hit ?_
    have hfin : U ++ prsB ptl ++ beB prm.length 2 ++ prm ++ beB 0 1 = bodyB 1 [r0, r1, r2, r3, r4, r5, r6, r7, r8, r9, ra, rb, rc, rd, re, rf] [s0, s1, s2, s3, s4, s5, s6, s7, s8, s9, sa, sb, sc, sd, se, sf] name ptl prm tck [n0, n1, n2, n3, n4, n5, n6, n7, n8, n9, na, nb, nc, nd, ne, nf] false ag [m0, m1, m2, m3, m4, m5, m6, m7, m8, m9, ma, mb, mc, md, me, mf] li := by rw [hU]; unfold bodyB; rw [if_pos rfl]; simp [beB1, List.append_assoc, htk0]
    rw [hfin] at hBx7 hH
    exact leave (.inr rfl) hS rfl Res.nil ⟨bx7, cx7, kx7, rfl, hwx7, hH.get (b := bw) (by repeat (first | exact In.here | refine In.there ?_)), hH.get (b := bx7) (by repeat (first | exact In.here | refine In.there ?_)), hBx7, hH.mod⟩

set_option maxRecDepth 100000 in
set_option maxHeartbeats 4000000 in
theorem body_1ft (q1 q2 q3 : Option Addr) (c1 c2 c3 : Nat) (rnd shr bnd mrk : List UInt8) (name : ByteArray) (ptl : List ByteArray) (prm tck : List UInt8) (ea ag : Bool) (li : Int) (hrnd : rnd.length = 16) (hshr : shr.length = 16) (hbnd : bnd.length = 16) (hmrk : mrk.length = 16) (bw : Nat) (hnm : name.size ≤ 255) (hpl : ptl.length ≤ 8) (hod : oddN ptl = 0) (hpr : prm.length ≤ 4096) (htk : tck.length ≤ 512) (htk0 : tck.length = 0) (hea : ea = true) (w0 : World) (h1 : w0.heap[bw]? = some (.cells [Value.slice none 0 0].toArray 42 (0, 0))) (hpt : ∀ w', Mod (fun x => x = bw) w0 w' → SsA w' q1 c1 ptl) (hbP : BsF (fun x => x = bw) w0 (.slice q2 prm.length c2) prm) (hbT : BsF (fun x => x = bw) w0 (.slice q3 tck.length c3) tck) : Calls Try.prog 12 #[.pointer (some ⟨bw, 0, none⟩), .agg ([.int .i64 1] ++ hcells rnd ++ hcells shr ++ [.string name, .slice q1 ptl.length c1, .slice q2 prm.length c2, .slice q3 tck.length c3] ++ hcells bnd ++ [.bool ea, .bool ag] ++ hcells mrk ++ [.int .i64 li] : List Value).toArray] w0 fun e w' => ∃ (b' c' : Nat) (k' : List Value), e = .returned (.tuple #[]) ∧ w0.heap.size ≤ b' ∧ w'.heap[bw]? = some (.cells [Value.slice (some ⟨b', 0, none⟩) (bodyB 1 rnd shr name ptl prm tck bnd ea ag mrk li).length c'].toArray 42 (0, 0)) ∧ w'.heap[b']? = some (.cells k'.toArray 5 (0, 0)) ∧ BB c' k' (bodyB 1 rnd shr name ptl prm tck bnd ea ag mrk li) ∧ Mod (fun x => x = bw) w0 w' := by
  refine enter Try.func12 rfl rfl rfl ?_
  intro a hS
  have hH := Hp.start w0 (fun x => x = bw)
  subst hea
  obtain ⟨r0, r1, r2, r3, r4, r5, r6, r7, r8, r9, ra, rb, rc, rd, re, rf, rfl⟩ := len16 hrnd
  obtain ⟨s0, s1, s2, s3, s4, s5, s6, s7, s8, s9, sa, sb, sc, sd, se, sf, rfl⟩ := len16 hshr
  obtain ⟨n0, n1, n2, n3, n4, n5, n6, n7, n8, n9, na, nb, nc, nd, ne, nf, rfl⟩ := len16 hbnd
  obtain ⟨m0, m1, m2, m3, m4, m5, m6, m7, m8, m9, ma, mb, mc, md, me, mf, rfl⟩ := len16 hmrk
  have hnl : name.data.toList.length = name.size := by rw [Array.length_toList]; rfl
  have hodj : ∀ {k : Nat} (hk : k < ptl.length), 1 ≤ ptl[k].size ∧ ptl[k].size ≤ 255 := fun hk => oddN_zero hk hod
  replace hH := hH.know h1 (fun p hp => by simp at hp)
  refine c_seq ?_
  refine reg_plain w0 (fun x => x = bw) ?_
  refine r_box hS hH (by repeat (first | exact Sub.nil | refine Sub.cons ?_ ?_ | exact In.here | refine In.there ?_)) rfl rfl rfl ?_
  clear hS hH; intro a w b3 hb3 hwb3 hS hH
  refine Sq.nil ?_
  refine then_n ?_
  refine c_seq ?_
  refine reg_plain w0 (fun x => x = bw) ?_
  refine r_fieldAddr hS hH.kp0 rfl Fc.fo27_0 rfl ?_; clear hS; intro a hS
  refine r_load_sc hS hH (by repeat (first | exact Sub.nil | refine Sub.cons ?_ ?_ | exact In.here | refine In.there ?_)) rfl (by repeat (first | exact In.here | refine In.there ?_)) Fc.sc3 (by rfl) rfl ?_; clear hS; intro a hS
  refine Sq.nil ?_
  refine then_n ?_
  refine wp_block ?_
  refine c_seq ?_
  refine wp_block ?_
  refine c_seq ?_
  refine wp_block ?_
  refine c_seq ?_
  refine wp_block ?_
  refine c_seq ?_
  refine wp_block ?_
  refine c_seq ?_
  refine wp_block ?_
  refine c_seq ?_
  refine wp_block ?_
  refine c_seq ?_
  refine c_seq ?_
  refine c_seq ?_
  refine reg_plain w0 (fun x => x = bw) ?_
  refine r_eql hS hH.kp0 rfl rfl rfl ?_; clear hS; intro a hS
  refine r_assign hS hH.kp0 rfl rfl ?_; clear hS; intro a hS
  refine Sq.nil ?_
  refine then_n ?_
  refine c_condT hS rfl rfl ?_
  refine wp_exit ?_
  refine then_e ?_
  refine then_e ?_
  refine blk_hit ?_
  refine then_n ?_
  refine c_seq ?_
  refine c_seq ?_
  refine reg_plain w0 (fun x => x = bw) ?_
  refine r_move hS hH.kp0 rfl rfl ?_; clear hS; intro a hS
  refine r_fieldAddr hS hH.kp0 rfl Fc.fo27_1 rfl ?_; clear hS; intro a hS
  refine r_load_ag hS hH (by repeat (first | exact Sub.nil | refine Sub.cons ?_ ?_ | exact In.here | refine In.there ?_)) rfl (by repeat (first | exact In.here | refine In.there ?_)) Fc.ag23 (of_decide_eq_true rfl) rfl ?_; clear hS; intro a hS
  refine r_call (l := [.tmp 18, .tmp 20]) hS rfl rfl Fc.fn19 rfl ?_
  refine Calls.mono ((handle_nil bw [r0, r1, r2, r3, r4, r5, r6, r7, r8, r9, ra, rb, rc, rd, re, rf] rfl _ (hH.get (b := bw) (by repeat (first | exact In.here | refine In.there ?_)))).mono (fun e w1 hP => hP)) ?_
  rintro e w1 hP
  obtain ⟨bx1, cx1, kx1, rfl, hrx1, hpx1, hkx1, hBx1, hmx1⟩ := hP
  have hBx1 : BB cx1 kx1 ([r0, r1, r2, r3, r4, r5, r6, r7, r8, r9, ra, rb, rc, rd, re, rf]) := hBx1
  have hpx1 : w1.heap[bw]? = some (.cells [Value.slice (some ⟨bx1, 0, none⟩) (([r0, r1, r2, r3, r4, r5, r6, r7, r8, r9, ra, rb, rc, rd, re, rf])).length cx1].toArray 42 (0, 0)) := hpx1
  have hnx1 : bx1 ≠ bw := fun e => by have h9 := lt_of_block (hH.get (b := bw) (by repeat (first | exact .here | apply In.there | apply Put.there | apply Del.there))); omega
  have hwx1 := Nat.le_trans hH.mod.size hrx1
  replace hH := hH.modPutN hmx1 hpx1 (by repeat (first | exact .here | apply In.there | apply Put.there | apply Del.there)) (.inl rfl) hrx1 hkx1
  refine ⟨_, rfl, hH.kp0, ?_⟩
  clear hS; intro a hS
  refine Sq.nil ?_
  refine then_n ?_
  refine c_seq ?_
  refine reg_plain w0 (fun x => x = bw) ?_
  refine r_move hS hH.kp0 rfl rfl ?_; clear hS; intro a hS
  refine r_fieldAddr hS hH.kp0 rfl Fc.fo27_2 rfl ?_; clear hS; intro a hS
  refine r_load_ag hS hH (by repeat (first | exact Sub.nil | refine Sub.cons ?_ ?_ | exact In.here | refine In.there ?_)) rfl (by repeat (first | exact In.here | refine In.there ?_)) Fc.ag23 (of_decide_eq_true rfl) rfl ?_; clear hS; intro a hS
  refine r_call (l := [.tmp 22, .tmp 24]) hS rfl rfl Fc.fn19 rfl ?_
  refine Calls.mono ((handle_some bw bx1 cx1 kx1 ([r0, r1, r2, r3, r4, r5, r6, r7, r8, r9, ra, rb, rc, rd, re, rf]) [s0, s1, s2, s3, s4, s5, s6, s7, s8, s9, sa, sb, sc, sd, se, sf] rfl (by first | omega | (simp only [List.length_append, List.length_cons, List.length_nil, beB_len]; omega)) _ (hH.get (b := bw) (by repeat (first | exact In.here | refine In.there ?_))) (hH.get (b := bx1) (by repeat (first | exact In.here | refine In.there ?_))) hBx1 hnx1).mono (fun e w1 hP => hP)) ?_
  rintro e w1 hP
  obtain ⟨bx2, cx2, kx2, rfl, hrx2, hpx2, hkx2, hBx2, hmx2⟩ := hP
  have hBx2 : BB cx2 kx2 ([r0, r1, r2, r3, r4, r5, r6, r7, r8, r9, ra, rb, rc, rd, re, rf] ++ [s0, s1, s2, s3, s4, s5, s6, s7, s8, s9, sa, sb, sc, sd, se, sf]) := hBx2
  have hpx2 : w1.heap[bw]? = some (.cells [Value.slice (some ⟨bx2, 0, none⟩) (([r0, r1, r2, r3, r4, r5, r6, r7, r8, r9, ra, rb, rc, rd, re, rf] ++ [s0, s1, s2, s3, s4, s5, s6, s7, s8, s9, sa, sb, sc, sd, se, sf])).length cx2].toArray 42 (0, 0)) := hpx2
  have hnx2 : bx2 ≠ bw := fun e => by rcases hrx2 with h | h; exact hnx1 (h.symm.trans e); have h9 := lt_of_block (hH.get (b := bw) (by repeat (first | exact .here | apply In.there | apply Put.there | apply Del.there))); omega
  have hwx2 : w0.heap.size ≤ bx2 := by rcases hrx2 with h | h; rw [h]; exact hwx1; exact Nat.le_trans hH.mod.size h
  replace hH := hH.modPut2 hmx2 (by repeat (first | exact .here | apply In.there | apply Put.there | apply Del.there)) (by repeat (first | exact .here | apply In.there | apply Put.there | apply Del.there)) hpx2 (.inl rfl) (.inr hwx1) hrx2 hkx2
  refine ⟨_, rfl, hH.kp0, ?_⟩
  clear hS; intro a hS
  refine Sq.nil ?_
  refine then_n ?_
  refine c_seq ?_
  refine reg_plain w0 (fun x => x = bw) ?_
  refine r_move hS hH.kp0 rfl rfl ?_; clear hS; intro a hS
  refine r_fieldAddr hS hH.kp0 rfl Fc.fo27_3 rfl ?_; clear hS; intro a hS
  refine r_load_sc hS hH (by repeat (first | exact Sub.nil | refine Sub.cons ?_ ?_ | exact In.here | refine In.there ?_)) rfl (by repeat (first | exact In.here | refine In.there ?_)) Fc.sc9 (by rfl) rfl ?_; clear hS; intro a hS
  refine r_call (l := [.tmp 26, .tmp 28, .const (.int .i64 1)]) hS rfl rfl Fc.fn14 rfl ?_
  refine Calls.mono ((text_some bw bx2 cx2 kx2 ([r0, r1, r2, r3, r4, r5, r6, r7, r8, r9, ra, rb, rc, rd, re, rf] ++ [s0, s1, s2, s3, s4, s5, s6, s7, s8, s9, sa, sb, sc, sd, se, sf]) name 1 (by omega) (by decide) (by decide) (by first | omega | (simp only [List.length_append, List.length_cons, List.length_nil, beB_len]; omega)) _ (hH.get (b := bw) (by repeat (first | exact In.here | refine In.there ?_))) (hH.get (b := bx2) (by repeat (first | exact In.here | refine In.there ?_))) hBx2 hnx2).mono (fun e w1 hP => hP)) ?_
  rintro e w1 hP
  obtain ⟨bx3, cx3, kx3, rfl, hrx3, hpx3, hkx3, hBx3, hmx3⟩ := hP
  have hBx3 : BB cx3 kx3 ([r0, r1, r2, r3, r4, r5, r6, r7, r8, r9, ra, rb, rc, rd, re, rf] ++ [s0, s1, s2, s3, s4, s5, s6, s7, s8, s9, sa, sb, sc, sd, se, sf] ++ beB name.size 1 ++ name.data.toList) := hBx3
  have hpx3 : w1.heap[bw]? = some (.cells [Value.slice (some ⟨bx3, 0, none⟩) (([r0, r1, r2, r3, r4, r5, r6, r7, r8, r9, ra, rb, rc, rd, re, rf] ++ [s0, s1, s2, s3, s4, s5, s6, s7, s8, s9, sa, sb, sc, sd, se, sf] ++ beB name.size 1 ++ name.data.toList)).length cx3].toArray 42 (0, 0)) := hpx3
  have hnx3 : bx3 ≠ bw := fun e => by have h9 := lt_of_block (hH.get (b := bw) (by repeat (first | exact .here | apply In.there | apply Put.there | apply Del.there))); omega
  have hwx3 := Nat.le_trans hH.mod.size hrx3
  replace hH := hH.modPutN hmx3 hpx3 (by repeat (first | exact .here | apply In.there | apply Put.there | apply Del.there)) (.inl rfl) hrx3 hkx3
  refine ⟨_, rfl, hH.kp0, ?_⟩
  clear hS; intro a hS
  refine Sq.nil ?_
  refine then_n ?_
  refine c_seq ?_
  refine reg_plain w0 (fun x => x = bw) ?_
  refine r_move hS hH.kp0 rfl rfl ?_; clear hS; intro a hS
  refine r_fieldAddr hS hH.kp0 rfl Fc.fo27_4 rfl ?_; clear hS; intro a hS
  refine r_load_sc hS hH (by repeat (first | exact Sub.nil | refine Sub.cons ?_ ?_ | exact In.here | refine In.there ?_)) rfl (by repeat (first | exact In.here | refine In.there ?_)) Fc.sc24 (by rfl) rfl ?_; clear hS; intro a hS
  refine r_lenSl hS hH.kp0 rfl Fc.isSlice24 rfl ?_; clear hS; intro a hS
  refine r_call (l := [.tmp 30, .tmp 33, .const (.int .i64 1)]) hS rfl rfl Fc.fn13 rfl ?_
  refine Calls.mono ((number_some bw bx3 cx3 kx3 ([r0, r1, r2, r3, r4, r5, r6, r7, r8, r9, ra, rb, rc, rd, re, rf] ++ [s0, s1, s2, s3, s4, s5, s6, s7, s8, s9, sa, sb, sc, sd, se, sf] ++ beB name.size 1 ++ name.data.toList) ptl.length 1 (by omega) (by decide) (by decide) (by first | omega | (simp only [List.length_append, List.length_cons, List.length_nil, beB_len]; omega)) _ (hH.get (b := bw) (by repeat (first | exact In.here | refine In.there ?_))) (hH.get (b := bx3) (by repeat (first | exact In.here | refine In.there ?_))) hBx3 hnx3).mono (fun e w1 hP => hP)) ?_
  rintro e w1 hP
  obtain ⟨bx4, cx4, kx4, rfl, hrx4, hpx4, hkx4, hBx4, hmx4⟩ := hP
  have hBx4 : BB cx4 kx4 ([r0, r1, r2, r3, r4, r5, r6, r7, r8, r9, ra, rb, rc, rd, re, rf] ++ [s0, s1, s2, s3, s4, s5, s6, s7, s8, s9, sa, sb, sc, sd, se, sf] ++ beB name.size 1 ++ name.data.toList ++ beB ptl.length 1) := hBx4
  have hpx4 : w1.heap[bw]? = some (.cells [Value.slice (some ⟨bx4, 0, none⟩) (([r0, r1, r2, r3, r4, r5, r6, r7, r8, r9, ra, rb, rc, rd, re, rf] ++ [s0, s1, s2, s3, s4, s5, s6, s7, s8, s9, sa, sb, sc, sd, se, sf] ++ beB name.size 1 ++ name.data.toList ++ beB ptl.length 1)).length cx4].toArray 42 (0, 0)) := hpx4
  have hnx4 : bx4 ≠ bw := fun e => by have h9 := lt_of_block (hH.get (b := bw) (by repeat (first | exact .here | apply In.there | apply Put.there | apply Del.there))); omega
  have hwx4 := Nat.le_trans hH.mod.size hrx4
  replace hH := hH.modPutN hmx4 hpx4 (by repeat (first | exact .here | apply In.there | apply Put.there | apply Del.there)) (.inl rfl) hrx4 hkx4
  refine ⟨_, rfl, hH.kp0, ?_⟩
  clear hS; intro a hS
  refine Sq.nil ?_
  refine then_n ?_
  refine c_seq ?_
  refine c_seq ?_
  refine reg_plain w0 (fun x => x = bw) ?_
  refine r_fieldAddr hS hH.kp0 rfl Fc.fo27_4 rfl ?_; clear hS; intro a hS
  refine r_load_sc hS hH (by repeat (first | exact Sub.nil | refine Sub.cons ?_ ?_ | exact In.here | refine In.there ?_)) rfl (by repeat (first | exact In.here | refine In.there ?_)) Fc.sc24 (by rfl) rfl ?_; clear hS; intro a hS
  refine r_lenSl hS hH.kp0 rfl Fc.isSlice24 rfl ?_; clear hS; intro a hS
  refine r_move hS hH.kp0 rfl rfl ?_; clear hS; intro a hS
  refine Sq.nil ?_
  obtain ⟨U, hU⟩ : ∃ U, U = ([r0, r1, r2, r3, r4, r5, r6, r7, r8, r9, ra, rb, rc, rd, re, rf] ++ [s0, s1, s2, s3, s4, s5, s6, s7, s8, s9, sa, sb, sc, sd, se, sf] ++ beB name.size 1 ++ name.data.toList ++ beB ptl.length 1) := ⟨_, rfl⟩
  have hUl : U.length ≤ 300 := by rw [hU]; first | omega | (simp only [List.length_append, List.length_cons, List.length_nil, beB_len]; omega)
  rw [← hU] at hH hBx4
  refine then_n ?_
  refine wp_block ?_
  refine c_loop (fun m a w => ∃ (j : Nat) (i : Int) (bx5 cx5 : Nat) (kx5 : List Value), m + j = ptl.length ∧ i = j ∧ w0.heap.size ≤ bx5 ∧ bx5 ≠ bw ∧ BB cx5 kx5 (U ++ prsB (ptl.take j)) ∧ St 124 (lv [(0, .pointer (some ⟨bw, 0, none⟩)), (3, .pointer (some ⟨b3, 0, none⟩)), (36, .slice q1 ptl.length c1), (37, .int .i64 (ptl.length : Int)), (38, .int .i64 i)]) a ∧ Hp w0 (fun x => x = bw) [(bw, .cells [.slice (some ⟨bx5, 0, none⟩) (U ++ prsB (ptl.take j)).length cx5].toArray 42 (0, 0)), (bx5, .cells kx5.toArray 5 (0, 0)), (b3, .cells ([.int .i64 1] ++ hcells [r0, r1, r2, r3, r4, r5, r6, r7, r8, r9, ra, rb, rc, rd, re, rf] ++ hcells [s0, s1, s2, s3, s4, s5, s6, s7, s8, s9, sa, sb, sc, sd, se, sf] ++ [.string name, .slice q1 ptl.length c1, .slice q2 prm.length c2, .slice q3 tck.length c3] ++ hcells [n0, n1, n2, n3, n4, n5, n6, n7, n8, n9, na, nb, nc, nd, ne, nf] ++ [.bool true, .bool ag] ++ hcells [m0, m1, m2, m3, m4, m5, m6, m7, m8, m9, ma, mb, mc, md, me, mf] ++ [.int .i64 li] : List Value).toArray 27 (0, 0))] w) (ptl.length) ?_ ?_
  · exact ⟨0, _, bx4, cx4, kx4, by omega, rfl, hwx4, hnx4, by rw [List.take_zero, show prsB [] = [] from rfl, List.append_nil]; exact hBx4, hS.live ⟨rfl, rfl, rfl, rfl, rfl, trivial⟩, by rw [List.take_zero, show prsB [] = [] from rfl, List.append_nil]; exact hH.sub (by repeat (first | exact Sub.nil | refine Sub.cons ?_ ?_ | exact In.here | refine In.there ?_)) (by have nd := hH.nd; simp only [List.map_cons, List.map_nil, List.nodup_cons, List.mem_cons, List.not_mem_nil, or_false, not_or, List.nodup_nil, and_true, not_false_iff] at nd ⊢; omega)⟩
  clear hS hH; intro m a w hI; obtain ⟨j, i, bx5, cx5, kx5, hmj, hi, hwx5, hnx5, hBx5, hS, hH⟩ := hI
  refine c_seq ?_
  refine reg_plain w0 (fun x => x = bw) ?_
  refine r_lss hS hH.kp0 rfl rfl rfl ?_; clear hS; intro a hS
  refine Sq.nil ?_
  refine then_n ?_
  refine c_seq ?_
  refine c_cond hS rfl (fun hc5 => ?_) (fun hc5 => ?_)
  · have hk : j < ptl.length := by have := of_decide_eq_true hc5; omega
    obtain ⟨ba, bo, hpq, hcell⟩ := (hpt _ hH.mod).cell hk
    subst hpq
    have hpj := prsB_len _ (oddN_take j hod)
    have hpj2 : (ptl.take j).length ≤ 8 := by rw [List.length_take]; omega
    have hnj : ptl[j].data.toList.length = ptl[j].size := by rw [Array.length_toList]; rfl
    refine wp_skip ?_
    refine then_n ?_
    refine c_seq ?_
    refine wp_block ?_
    refine c_seq ?_
    refine reg_plain w0 (fun x => x = bw) ?_
    refine r_indexAddrS (j := j) hS hH.kp0 rfl rfl Fc.slb24 hi hk rfl ?_; clear hS; intro a hS
    refine r_load_cell hS hH.kp0 rfl hcell Fc.sc9 rfl ?_; clear hS; intro a hS
    refine r_assign hS hH.kp0 rfl rfl ?_; clear hS; intro a hS
    refine Sq.nil ?_
    refine then_n ?_
    refine reg_plain w0 (fun x => x = bw) ?_
    refine r_move hS hH.kp0 rfl rfl ?_; clear hS; intro a hS
    refine r_move hS hH.kp0 rfl rfl ?_; clear hS; intro a hS
    refine r_call (l := [.tmp 42, .tmp 43, .const (.int .i64 1)]) hS rfl rfl Fc.fn14 rfl ?_
    refine Calls.mono ((text_some bw bx5 cx5 kx5 (U ++ prsB (ptl.take j)) ptl[j] 1 (by have := hodj hk; omega) (by decide) (by decide) (by first | omega | (simp only [List.length_append, List.length_cons, List.length_nil, beB_len]; omega)) _ (hH.get (b := bw) (by repeat (first | exact In.here | refine In.there ?_))) (hH.get (b := bx5) (by repeat (first | exact In.here | refine In.there ?_))) hBx5 hnx5).mono (fun e w1 hP => hP)) ?_
    rintro e w1 hP
    obtain ⟨bx6, cx6, kx6, rfl, hrx6, hpx6, hkx6, hBx6, hmx6⟩ := hP
    have hBx6 : BB cx6 kx6 (U ++ prsB (ptl.take j) ++ beB ptl[j].size 1 ++ ptl[j].data.toList) := hBx6
    have hpx6 : w1.heap[bw]? = some (.cells [Value.slice (some ⟨bx6, 0, none⟩) ((U ++ prsB (ptl.take j) ++ beB ptl[j].size 1 ++ ptl[j].data.toList)).length cx6].toArray 42 (0, 0)) := hpx6
    have hnx6 : bx6 ≠ bw := fun e => by have h9 := lt_of_block (hH.get (b := bw) (by repeat (first | exact .here | apply In.there | apply Put.there | apply Del.there))); omega
    have hwx6 := Nat.le_trans hH.mod.size hrx6
    replace hH := hH.modPutN hmx6 hpx6 (by repeat (first | exact .here | apply In.there | apply Put.there | apply Del.there)) (.inl rfl) hrx6 hkx6
    refine ⟨_, rfl, hH.kp0, ?_⟩
    clear hS; intro a hS
    refine Sq.nil ?_
    refine blk_n ?_
    refine then_n ?_
    refine reg_plain w0 (fun x => x = bw) ?_
    (first | refine r_add hS hH.kp0 rfl rfl rfl (by omega) ?_ | refine r_addw hS hH.kp0 rfl rfl rfl ?_)
    clear hS; intro a hS
    refine r_move hS hH.kp0 rfl rfl ?_; clear hS; intro a hS
    refine Sq.nil ?_
    refine then_n ?_
    have hsx : U ++ prsB (ptl.take j) ++ beB ptl[j].size 1 ++ ptl[j].data.toList = U ++ prsB (ptl.take (j + 1)) := by rw [prsB_succ hk]; simp only [List.append_assoc]
    rw [hsx] at hBx6 hH
    refine ⟨m - 1, by omega, j + 1, _, bx6, cx6, kx6, by omega, ?_, hwx6, hnx6, hBx6, hS.live ⟨rfl, rfl, rfl, rfl, rfl, trivial⟩, hH.sub (by repeat (first | exact Sub.nil | refine Sub.cons ?_ ?_ | exact In.here | refine In.there ?_)) (by have nd := hH.nd; simp only [List.map_cons, List.map_nil, List.nodup_cons, List.mem_cons, List.not_mem_nil, or_false, not_or, List.nodup_nil, and_true, not_false_iff] at nd ⊢; omega)⟩
    omega
  · have hke : j = ptl.length := by have := of_decide_eq_false hc5; omega
    subst hke
    rw [List.take_of_length_le (Nat.le_refl _)] at hBx5 hH
    have hpj := prsB_len _ hod
    refine wp_exit ?_
    refine then_e ?_
    refine then_e ?_
    refine blk_hit ?_
    refine then_n ?_
    refine c_seq ?_
    refine reg_plain w0 (fun x => x = bw) ?_
    refine r_move hS hH.kp0 rfl rfl ?_; clear hS; intro a hS
    refine r_fieldAddr hS hH.kp0 rfl Fc.fo27_5 rfl ?_; clear hS; intro a hS
    refine r_load_sc hS hH (by repeat (first | exact Sub.nil | refine Sub.cons ?_ ?_ | exact In.here | refine In.there ?_)) rfl (by repeat (first | exact In.here | refine In.there ?_)) Fc.sc25 (by rfl) rfl ?_; clear hS; intro a hS
    refine r_bytesStr hS hH.kp0 rfl (hbP _ hH.mod) Fc.u8s25 Fc.isStr9 rfl ?_; clear hS; intro a hS
    refine r_call (l := [.tmp 46, .tmp 49, .const (.int .i64 2)]) hS rfl rfl Fc.fn14 rfl ?_
    refine Calls.mono ((text_some bw bx5 cx5 kx5 (U ++ prsB ptl) (strOf prm) 2 (by show prm.length ≤ _; omega) (by decide) (by decide) (by first | omega | (simp only [List.length_append, List.length_cons, List.length_nil, beB_len]; omega)) _ (hH.get (b := bw) (by repeat (first | exact In.here | refine In.there ?_))) (hH.get (b := bx5) (by repeat (first | exact In.here | refine In.there ?_))) hBx5 hnx5).mono (fun e w1 hP => hP)) ?_
    rintro e w1 hP
    obtain ⟨bx6, cx6, kx6, rfl, hrx6, hpx6, hkx6, hBx6, hmx6⟩ := hP
    have hBx6 : BB cx6 kx6 (U ++ prsB ptl ++ beB prm.length 2 ++ prm) := hBx6
    have hpx6 : w1.heap[bw]? = some (.cells [Value.slice (some ⟨bx6, 0, none⟩) ((U ++ prsB ptl ++ beB prm.length 2 ++ prm)).length cx6].toArray 42 (0, 0)) := hpx6
    have hnx6 : bx6 ≠ bw := fun e => by have h9 := lt_of_block (hH.get (b := bw) (by repeat (first | exact .here | apply In.there | apply Put.there | apply Del.there))); omega
    have hwx6 := Nat.le_trans hH.mod.size hrx6
    replace hH := hH.modPutN hmx6 hpx6 (by repeat (first | exact .here | apply In.there | apply Put.there | apply Del.there)) (.inl rfl) hrx6 hkx6
    refine ⟨_, rfl, hH.kp0, ?_⟩
    clear hS; intro a hS
    refine Sq.nil ?_
    refine then_n ?_
    refine c_seq ?_
    refine reg_plain w0 (fun x => x = bw) ?_
    refine r_move hS hH.kp0 rfl rfl ?_; clear hS; intro a hS
    refine r_fieldAddr hS hH.kp0 rfl Fc.fo27_6 rfl ?_; clear hS; intro a hS
    refine r_load_sc hS hH (by repeat (first | exact Sub.nil | refine Sub.cons ?_ ?_ | exact In.here | refine In.there ?_)) rfl (by repeat (first | exact In.here | refine In.there ?_)) Fc.sc25 (by rfl) rfl ?_; clear hS; intro a hS
    refine r_lenSl hS hH.kp0 rfl Fc.isSlice25 rfl ?_; clear hS; intro a hS
    refine r_gtr hS hH.kp0 rfl rfl rfl ?_; clear hS; intro a hS
    rw [show decide ((tck.length : Int) > 0) = false from DF (by omega)] at hS
    refine r_fieldAddr hS hH.kp0 rfl Fc.fo27_8 rfl ?_; clear hS; intro a hS
    refine r_load_sc hS hH (by repeat (first | exact Sub.nil | refine Sub.cons ?_ ?_ | exact In.here | refine In.there ?_)) rfl (by repeat (first | exact In.here | refine In.there ?_)) Fc.sc4 (by rfl) rfl ?_; clear hS; intro a hS
    refine r_buildSlice (parts := [(0, .tmp 55), (1, .tmp 57)]) hS hH (by repeat (first | exact Sub.nil | refine Sub.cons ?_ ?_ | exact In.here | refine In.there ?_)) rfl Fc.bsl60_2 (by rfl) rfl ?_
    clear hS hH; intro a w b58 hb58 hwb58 hS hH
    refine r_call (l := [.tmp 51, .tmp 58]) hS rfl rfl Fc.fn20 rfl ?_
    refine Calls.mono ((flags_ft bw bx6 cx6 b58 kx6 (U ++ prsB ptl ++ beB prm.length 2 ++ prm) (by first | omega | (simp only [List.length_append, List.length_cons, List.length_nil, beB_len]; omega)) _ (hH.get (b := bw) (by repeat (first | exact In.here | refine In.there ?_))) (hH.get (b := bx6) (by repeat (first | exact In.here | refine In.there ?_))) hBx6 hnx6 (hH.get (b := b58) (by repeat (first | exact In.here | refine In.there ?_))) (hH.ne (x := b58) (y := bw) (.cons (by repeat (first | exact .here | apply In.there | apply Put.there | apply Del.there)) (.cons (by repeat (first | exact .here | apply In.there | apply Put.there | apply Del.there)) .nil)) (by intro h; injection h with _ h2 _; revert h2; decide)) (hH.ne (x := b58) (y := bx6) (.cons (by repeat (first | exact .here | apply In.there | apply Put.there | apply Del.there)) (.cons (by repeat (first | exact .here | apply In.there | apply Put.there | apply Del.there)) .nil)) (by intro h; injection h with _ h2 _; revert h2; decide))).mono (fun e w1 hP => hP)) ?_
    rintro e w1 hP
    obtain ⟨bx7, cx7, kx7, rfl, hrx7, hpx7, hkx7, hBx7, hmx7⟩ := hP
    have hBx7 : BB cx7 kx7 (U ++ prsB ptl ++ beB prm.length 2 ++ prm ++ beB 2 1) := hBx7
    have hpx7 : w1.heap[bw]? = some (.cells [Value.slice (some ⟨bx7, 0, none⟩) ((U ++ prsB ptl ++ beB prm.length 2 ++ prm ++ beB 2 1)).length cx7].toArray 42 (0, 0)) := hpx7
    have hnx7 : bx7 ≠ bw := fun e => by have h9 := lt_of_block (hH.get (b := bw) (by repeat (first | exact .here | apply In.there | apply Put.there | apply Del.there))); omega
    have hwx7 := Nat.le_trans hH.mod.size hrx7
    replace hH := hH.modPutN hmx7 hpx7 (by repeat (first | exact .here | apply In.there | apply Put.there | apply Del.there)) (.inl rfl) hrx7 hkx7
    refine ⟨_, rfl, hH.kp0, ?_⟩
    clear hS; intro a hS
    refine Sq.nil ?_
    refine then_n ?_
    refine c_seq ?_
    refine reg_plain w0 (fun x => x = bw) ?_
    refine r_fieldAddr hS hH.kp0 rfl Fc.fo27_6 rfl ?_; clear hS; intro a hS
    refine r_load_sc hS hH (by repeat (first | exact Sub.nil | refine Sub.cons ?_ ?_ | exact In.here | refine In.there ?_)) rfl (by repeat (first | exact In.here | refine In.there ?_)) Fc.sc25 (by rfl) rfl ?_; clear hS; intro a hS
    refine r_lenSl hS hH.kp0 rfl Fc.isSlice25 rfl ?_; clear hS; intro a hS
    refine r_gtr hS hH.kp0 rfl rfl rfl ?_; clear hS; intro a hS
    refine Sq.nil ?_
    refine then_n ?_
    refine c_condF hS rfl (DF (by omega)) ?_
    refine wp_skip ?_
    refine then_n ?_
    refine wp_exit ?_
    refine blk_e rfl ?_
    refine then_e ?_
    refine blk_e rfl ?_
    refine then_e ?_
    refine blk_e rfl ?_
    refine then_e ?_
    refine blk_e rfl ?_
    refine then_e ?_
    refine blk_e rfl ?_
    refine then_e ?_
    refine blk_hit ?_
    have hfin : U ++ prsB ptl ++ beB prm.length 2 ++ prm ++ beB 2 1 = bodyB 1 [r0, r1, r2, r3, r4, r5, r6, r7, r8, r9, ra, rb, rc, rd, re, rf] [s0, s1, s2, s3, s4, s5, s6, s7, s8, s9, sa, sb, sc, sd, se, sf] name ptl prm tck [n0, n1, n2, n3, n4, n5, n6, n7, n8, n9, na, nb, nc, nd, ne, nf] true ag [m0, m1, m2, m3, m4, m5, m6, m7, m8, m9, ma, mb, mc, md, me, mf] li := by rw [hU]; unfold bodyB; rw [if_pos rfl]; simp [beB1, List.append_assoc, htk0]
    rw [hfin] at hBx7 hH
    exact leave (.inr rfl) hS rfl Res.nil ⟨bx7, cx7, kx7, rfl, hwx7, hH.get (b := bw) (by repeat (first | exact In.here | refine In.there ?_)), hH.get (b := bx7) (by repeat (first | exact In.here | refine In.there ?_)), hBx7, hH.mod⟩

set_option maxRecDepth 100000 in
set_option maxHeartbeats 4000000 in
theorem body_1tf (q1 q2 q3 : Option Addr) (c1 c2 c3 : Nat) (rnd shr bnd mrk : List UInt8) (name : ByteArray) (ptl : List ByteArray) (prm tck : List UInt8) (ea ag : Bool) (li : Int) (hrnd : rnd.length = 16) (hshr : shr.length = 16) (hbnd : bnd.length = 16) (hmrk : mrk.length = 16) (bw : Nat) (hnm : name.size ≤ 255) (hpl : ptl.length ≤ 8) (hod : oddN ptl = 0) (hpr : prm.length ≤ 4096) (htk : tck.length ≤ 512) (htk1 : 1 ≤ tck.length) (hea : ea = false) (w0 : World) (h1 : w0.heap[bw]? = some (.cells [Value.slice none 0 0].toArray 42 (0, 0))) (hpt : ∀ w', Mod (fun x => x = bw) w0 w' → SsA w' q1 c1 ptl) (hbP : BsF (fun x => x = bw) w0 (.slice q2 prm.length c2) prm) (hbT : BsF (fun x => x = bw) w0 (.slice q3 tck.length c3) tck) : Calls Try.prog 12 #[.pointer (some ⟨bw, 0, none⟩), .agg ([.int .i64 1] ++ hcells rnd ++ hcells shr ++ [.string name, .slice q1 ptl.length c1, .slice q2 prm.length c2, .slice q3 tck.length c3] ++ hcells bnd ++ [.bool ea, .bool ag] ++ hcells mrk ++ [.int .i64 li] : List Value).toArray] w0 fun e w' => ∃ (b' c' : Nat) (k' : List Value), e = .returned (.tuple #[]) ∧ w0.heap.size ≤ b' ∧ w'.heap[bw]? = some (.cells [Value.slice (some ⟨b', 0, none⟩) (bodyB 1 rnd shr name ptl prm tck bnd ea ag mrk li).length c'].toArray 42 (0, 0)) ∧ w'.heap[b']? = some (.cells k'.toArray 5 (0, 0)) ∧ BB c' k' (bodyB 1 rnd shr name ptl prm tck bnd ea ag mrk li) ∧ Mod (fun x => x = bw) w0 w' := by
  refine enter Try.func12 rfl rfl rfl ?_
  intro a hS
  have hH := Hp.start w0 (fun x => x = bw)
  subst hea
  obtain ⟨r0, r1, r2, r3, r4, r5, r6, r7, r8, r9, ra, rb, rc, rd, re, rf, rfl⟩ := len16 hrnd
  obtain ⟨s0, s1, s2, s3, s4, s5, s6, s7, s8, s9, sa, sb, sc, sd, se, sf, rfl⟩ := len16 hshr
  obtain ⟨n0, n1, n2, n3, n4, n5, n6, n7, n8, n9, na, nb, nc, nd, ne, nf, rfl⟩ := len16 hbnd
  obtain ⟨m0, m1, m2, m3, m4, m5, m6, m7, m8, m9, ma, mb, mc, md, me, mf, rfl⟩ := len16 hmrk
  have hnl : name.data.toList.length = name.size := by rw [Array.length_toList]; rfl
  have hodj : ∀ {k : Nat} (hk : k < ptl.length), 1 ≤ ptl[k].size ∧ ptl[k].size ≤ 255 := fun hk => oddN_zero hk hod
  replace hH := hH.know h1 (fun p hp => by simp at hp)
  refine c_seq ?_
  refine reg_plain w0 (fun x => x = bw) ?_
  refine r_box hS hH (by repeat (first | exact Sub.nil | refine Sub.cons ?_ ?_ | exact In.here | refine In.there ?_)) rfl rfl rfl ?_
  clear hS hH; intro a w b3 hb3 hwb3 hS hH
  refine Sq.nil ?_
  refine then_n ?_
  refine c_seq ?_
  refine reg_plain w0 (fun x => x = bw) ?_
  refine r_fieldAddr hS hH.kp0 rfl Fc.fo27_0 rfl ?_; clear hS; intro a hS
  refine r_load_sc hS hH (by repeat (first | exact Sub.nil | refine Sub.cons ?_ ?_ | exact In.here | refine In.there ?_)) rfl (by repeat (first | exact In.here | refine In.there ?_)) Fc.sc3 (by rfl) rfl ?_; clear hS; intro a hS
  refine Sq.nil ?_
  refine then_n ?_
  refine wp_block ?_
  refine c_seq ?_
  refine wp_block ?_
  refine c_seq ?_
  refine wp_block ?_
  refine c_seq ?_
  refine wp_block ?_
  refine c_seq ?_
  refine wp_block ?_
  refine c_seq ?_
  refine wp_block ?_
  refine c_seq ?_
  refine wp_block ?_
  refine c_seq ?_
  refine c_seq ?_
  refine c_seq ?_
  refine reg_plain w0 (fun x => x = bw) ?_
  refine r_eql hS hH.kp0 rfl rfl rfl ?_; clear hS; intro a hS
  refine r_assign hS hH.kp0 rfl rfl ?_; clear hS; intro a hS
  refine Sq.nil ?_
  refine then_n ?_
  refine c_condT hS rfl rfl ?_
  refine wp_exit ?_
  refine then_e ?_
  refine then_e ?_
  refine blk_hit ?_
  refine then_n ?_
  refine c_seq ?_
  refine c_seq ?_
  refine reg_plain w0 (fun x => x = bw) ?_
  refine r_move hS hH.kp0 rfl rfl ?_; clear hS; intro a hS
  refine r_fieldAddr hS hH.kp0 rfl Fc.fo27_1 rfl ?_; clear hS; intro a hS
  refine r_load_ag hS hH (by repeat (first | exact Sub.nil | refine Sub.cons ?_ ?_ | exact In.here | refine In.there ?_)) rfl (by repeat (first | exact In.here | refine In.there ?_)) Fc.ag23 (of_decide_eq_true rfl) rfl ?_; clear hS; intro a hS
  refine r_call (l := [.tmp 18, .tmp 20]) hS rfl rfl Fc.fn19 rfl ?_
  refine Calls.mono ((handle_nil bw [r0, r1, r2, r3, r4, r5, r6, r7, r8, r9, ra, rb, rc, rd, re, rf] rfl _ (hH.get (b := bw) (by repeat (first | exact In.here | refine In.there ?_)))).mono (fun e w1 hP => hP)) ?_
  rintro e w1 hP
  obtain ⟨bx1, cx1, kx1, rfl, hrx1, hpx1, hkx1, hBx1, hmx1⟩ := hP
  have hBx1 : BB cx1 kx1 ([r0, r1, r2, r3, r4, r5, r6, r7, r8, r9, ra, rb, rc, rd, re, rf]) := hBx1
  have hpx1 : w1.heap[bw]? = some (.cells [Value.slice (some ⟨bx1, 0, none⟩) (([r0, r1, r2, r3, r4, r5, r6, r7, r8, r9, ra, rb, rc, rd, re, rf])).length cx1].toArray 42 (0, 0)) := hpx1
  have hnx1 : bx1 ≠ bw := fun e => by have h9 := lt_of_block (hH.get (b := bw) (by repeat (first | exact .here | apply In.there | apply Put.there | apply Del.there))); omega
  have hwx1 := Nat.le_trans hH.mod.size hrx1
  replace hH := hH.modPutN hmx1 hpx1 (by repeat (first | exact .here | apply In.there | apply Put.there | apply Del.there)) (.inl rfl) hrx1 hkx1
  refine ⟨_, rfl, hH.kp0, ?_⟩
  clear hS; intro a hS
  refine Sq.nil ?_
  refine then_n ?_
  refine c_seq ?_
  refine reg_plain w0 (fun x => x = bw) ?_
  refine r_move hS hH.kp0 rfl rfl ?_; clear hS; intro a hS
  refine r_fieldAddr hS hH.kp0 rfl Fc.fo27_2 rfl ?_; clear hS; intro a hS
  refine r_load_ag hS hH (by repeat (first | exact Sub.nil | refine Sub.cons ?_ ?_ | exact In.here | refine In.there ?_)) rfl (by repeat (first | exact In.here | refine In.there ?_)) Fc.ag23 (of_decide_eq_true rfl) rfl ?_; clear hS; intro a hS
  refine r_call (l := [.tmp 22, .tmp 24]) hS rfl rfl Fc.fn19 rfl ?_
  refine Calls.mono ((handle_some bw bx1 cx1 kx1 ([r0, r1, r2, r3, r4, r5, r6, r7, r8, r9, ra, rb, rc, rd, re, rf]) [s0, s1, s2, s3, s4, s5, s6, s7, s8, s9, sa, sb, sc, sd, se, sf] rfl (by first | omega | (simp only [List.length_append, List.length_cons, List.length_nil, beB_len]; omega)) _ (hH.get (b := bw) (by repeat (first | exact In.here | refine In.there ?_))) (hH.get (b := bx1) (by repeat (first | exact In.here | refine In.there ?_))) hBx1 hnx1).mono (fun e w1 hP => hP)) ?_
  rintro e w1 hP
  obtain ⟨bx2, cx2, kx2, rfl, hrx2, hpx2, hkx2, hBx2, hmx2⟩ := hP
  have hBx2 : BB cx2 kx2 ([r0, r1, r2, r3, r4, r5, r6, r7, r8, r9, ra, rb, rc, rd, re, rf] ++ [s0, s1, s2, s3, s4, s5, s6, s7, s8, s9, sa, sb, sc, sd, se, sf]) := hBx2
  have hpx2 : w1.heap[bw]? = some (.cells [Value.slice (some ⟨bx2, 0, none⟩) (([r0, r1, r2, r3, r4, r5, r6, r7, r8, r9, ra, rb, rc, rd, re, rf] ++ [s0, s1, s2, s3, s4, s5, s6, s7, s8, s9, sa, sb, sc, sd, se, sf])).length cx2].toArray 42 (0, 0)) := hpx2
  have hnx2 : bx2 ≠ bw := fun e => by rcases hrx2 with h | h; exact hnx1 (h.symm.trans e); have h9 := lt_of_block (hH.get (b := bw) (by repeat (first | exact .here | apply In.there | apply Put.there | apply Del.there))); omega
  have hwx2 : w0.heap.size ≤ bx2 := by rcases hrx2 with h | h; rw [h]; exact hwx1; exact Nat.le_trans hH.mod.size h
  replace hH := hH.modPut2 hmx2 (by repeat (first | exact .here | apply In.there | apply Put.there | apply Del.there)) (by repeat (first | exact .here | apply In.there | apply Put.there | apply Del.there)) hpx2 (.inl rfl) (.inr hwx1) hrx2 hkx2
  refine ⟨_, rfl, hH.kp0, ?_⟩
  clear hS; intro a hS
  refine Sq.nil ?_
  refine then_n ?_
  refine c_seq ?_
  refine reg_plain w0 (fun x => x = bw) ?_
  refine r_move hS hH.kp0 rfl rfl ?_; clear hS; intro a hS
  refine r_fieldAddr hS hH.kp0 rfl Fc.fo27_3 rfl ?_; clear hS; intro a hS
  refine r_load_sc hS hH (by repeat (first | exact Sub.nil | refine Sub.cons ?_ ?_ | exact In.here | refine In.there ?_)) rfl (by repeat (first | exact In.here | refine In.there ?_)) Fc.sc9 (by rfl) rfl ?_; clear hS; intro a hS
  refine r_call (l := [.tmp 26, .tmp 28, .const (.int .i64 1)]) hS rfl rfl Fc.fn14 rfl ?_
  refine Calls.mono ((text_some bw bx2 cx2 kx2 ([r0, r1, r2, r3, r4, r5, r6, r7, r8, r9, ra, rb, rc, rd, re, rf] ++ [s0, s1, s2, s3, s4, s5, s6, s7, s8, s9, sa, sb, sc, sd, se, sf]) name 1 (by omega) (by decide) (by decide) (by first | omega | (simp only [List.length_append, List.length_cons, List.length_nil, beB_len]; omega)) _ (hH.get (b := bw) (by repeat (first | exact In.here | refine In.there ?_))) (hH.get (b := bx2) (by repeat (first | exact In.here | refine In.there ?_))) hBx2 hnx2).mono (fun e w1 hP => hP)) ?_
  rintro e w1 hP
  obtain ⟨bx3, cx3, kx3, rfl, hrx3, hpx3, hkx3, hBx3, hmx3⟩ := hP
  have hBx3 : BB cx3 kx3 ([r0, r1, r2, r3, r4, r5, r6, r7, r8, r9, ra, rb, rc, rd, re, rf] ++ [s0, s1, s2, s3, s4, s5, s6, s7, s8, s9, sa, sb, sc, sd, se, sf] ++ beB name.size 1 ++ name.data.toList) := hBx3
  have hpx3 : w1.heap[bw]? = some (.cells [Value.slice (some ⟨bx3, 0, none⟩) (([r0, r1, r2, r3, r4, r5, r6, r7, r8, r9, ra, rb, rc, rd, re, rf] ++ [s0, s1, s2, s3, s4, s5, s6, s7, s8, s9, sa, sb, sc, sd, se, sf] ++ beB name.size 1 ++ name.data.toList)).length cx3].toArray 42 (0, 0)) := hpx3
  have hnx3 : bx3 ≠ bw := fun e => by have h9 := lt_of_block (hH.get (b := bw) (by repeat (first | exact .here | apply In.there | apply Put.there | apply Del.there))); omega
  have hwx3 := Nat.le_trans hH.mod.size hrx3
  replace hH := hH.modPutN hmx3 hpx3 (by repeat (first | exact .here | apply In.there | apply Put.there | apply Del.there)) (.inl rfl) hrx3 hkx3
  refine ⟨_, rfl, hH.kp0, ?_⟩
  clear hS; intro a hS
  refine Sq.nil ?_
  refine then_n ?_
  refine c_seq ?_
  refine reg_plain w0 (fun x => x = bw) ?_
  refine r_move hS hH.kp0 rfl rfl ?_; clear hS; intro a hS
  refine r_fieldAddr hS hH.kp0 rfl Fc.fo27_4 rfl ?_; clear hS; intro a hS
  refine r_load_sc hS hH (by repeat (first | exact Sub.nil | refine Sub.cons ?_ ?_ | exact In.here | refine In.there ?_)) rfl (by repeat (first | exact In.here | refine In.there ?_)) Fc.sc24 (by rfl) rfl ?_; clear hS; intro a hS
  refine r_lenSl hS hH.kp0 rfl Fc.isSlice24 rfl ?_; clear hS; intro a hS
  refine r_call (l := [.tmp 30, .tmp 33, .const (.int .i64 1)]) hS rfl rfl Fc.fn13 rfl ?_
  refine Calls.mono ((number_some bw bx3 cx3 kx3 ([r0, r1, r2, r3, r4, r5, r6, r7, r8, r9, ra, rb, rc, rd, re, rf] ++ [s0, s1, s2, s3, s4, s5, s6, s7, s8, s9, sa, sb, sc, sd, se, sf] ++ beB name.size 1 ++ name.data.toList) ptl.length 1 (by omega) (by decide) (by decide) (by first | omega | (simp only [List.length_append, List.length_cons, List.length_nil, beB_len]; omega)) _ (hH.get (b := bw) (by repeat (first | exact In.here | refine In.there ?_))) (hH.get (b := bx3) (by repeat (first | exact In.here | refine In.there ?_))) hBx3 hnx3).mono (fun e w1 hP => hP)) ?_
  rintro e w1 hP
  obtain ⟨bx4, cx4, kx4, rfl, hrx4, hpx4, hkx4, hBx4, hmx4⟩ := hP
  have hBx4 : BB cx4 kx4 ([r0, r1, r2, r3, r4, r5, r6, r7, r8, r9, ra, rb, rc, rd, re, rf] ++ [s0, s1, s2, s3, s4, s5, s6, s7, s8, s9, sa, sb, sc, sd, se, sf] ++ beB name.size 1 ++ name.data.toList ++ beB ptl.length 1) := hBx4
  have hpx4 : w1.heap[bw]? = some (.cells [Value.slice (some ⟨bx4, 0, none⟩) (([r0, r1, r2, r3, r4, r5, r6, r7, r8, r9, ra, rb, rc, rd, re, rf] ++ [s0, s1, s2, s3, s4, s5, s6, s7, s8, s9, sa, sb, sc, sd, se, sf] ++ beB name.size 1 ++ name.data.toList ++ beB ptl.length 1)).length cx4].toArray 42 (0, 0)) := hpx4
  have hnx4 : bx4 ≠ bw := fun e => by have h9 := lt_of_block (hH.get (b := bw) (by repeat (first | exact .here | apply In.there | apply Put.there | apply Del.there))); omega
  have hwx4 := Nat.le_trans hH.mod.size hrx4
  replace hH := hH.modPutN hmx4 hpx4 (by repeat (first | exact .here | apply In.there | apply Put.there | apply Del.there)) (.inl rfl) hrx4 hkx4
  refine ⟨_, rfl, hH.kp0, ?_⟩
  clear hS; intro a hS
  refine Sq.nil ?_
  refine then_n ?_
  refine c_seq ?_
  refine c_seq ?_
  refine reg_plain w0 (fun x => x = bw) ?_
  refine r_fieldAddr hS hH.kp0 rfl Fc.fo27_4 rfl ?_; clear hS; intro a hS
  refine r_load_sc hS hH (by repeat (first | exact Sub.nil | refine Sub.cons ?_ ?_ | exact In.here | refine In.there ?_)) rfl (by repeat (first | exact In.here | refine In.there ?_)) Fc.sc24 (by rfl) rfl ?_; clear hS; intro a hS
  refine r_lenSl hS hH.kp0 rfl Fc.isSlice24 rfl ?_; clear hS; intro a hS
  refine r_move hS hH.kp0 rfl rfl ?_; clear hS; intro a hS
  refine Sq.nil ?_
  obtain ⟨U, hU⟩ : ∃ U, U = ([r0, r1, r2, r3, r4, r5, r6, r7, r8, r9, ra, rb, rc, rd, re, rf] ++ [s0, s1, s2, s3, s4, s5, s6, s7, s8, s9, sa, sb, sc, sd, se, sf] ++ beB name.size 1 ++ name.data.toList ++ beB ptl.length 1) := ⟨_, rfl⟩
  have hUl : U.length ≤ 300 := by rw [hU]; first | omega | (simp only [List.length_append, List.length_cons, List.length_nil, beB_len]; omega)
  rw [← hU] at hH hBx4
  refine then_n ?_
  refine wp_block ?_
  refine c_loop (fun m a w => ∃ (j : Nat) (i : Int) (bx5 cx5 : Nat) (kx5 : List Value), m + j = ptl.length ∧ i = j ∧ w0.heap.size ≤ bx5 ∧ bx5 ≠ bw ∧ BB cx5 kx5 (U ++ prsB (ptl.take j)) ∧ St 124 (lv [(0, .pointer (some ⟨bw, 0, none⟩)), (3, .pointer (some ⟨b3, 0, none⟩)), (36, .slice q1 ptl.length c1), (37, .int .i64 (ptl.length : Int)), (38, .int .i64 i)]) a ∧ Hp w0 (fun x => x = bw) [(bw, .cells [.slice (some ⟨bx5, 0, none⟩) (U ++ prsB (ptl.take j)).length cx5].toArray 42 (0, 0)), (bx5, .cells kx5.toArray 5 (0, 0)), (b3, .cells ([.int .i64 1] ++ hcells [r0, r1, r2, r3, r4, r5, r6, r7, r8, r9, ra, rb, rc, rd, re, rf] ++ hcells [s0, s1, s2, s3, s4, s5, s6, s7, s8, s9, sa, sb, sc, sd, se, sf] ++ [.string name, .slice q1 ptl.length c1, .slice q2 prm.length c2, .slice q3 tck.length c3] ++ hcells [n0, n1, n2, n3, n4, n5, n6, n7, n8, n9, na, nb, nc, nd, ne, nf] ++ [.bool false, .bool ag] ++ hcells [m0, m1, m2, m3, m4, m5, m6, m7, m8, m9, ma, mb, mc, md, me, mf] ++ [.int .i64 li] : List Value).toArray 27 (0, 0))] w) (ptl.length) ?_ ?_
  · exact ⟨0, _, bx4, cx4, kx4, by omega, rfl, hwx4, hnx4, by rw [List.take_zero, show prsB [] = [] from rfl, List.append_nil]; exact hBx4, hS.live ⟨rfl, rfl, rfl, rfl, rfl, trivial⟩, by rw [List.take_zero, show prsB [] = [] from rfl, List.append_nil]; exact hH.sub (by repeat (first | exact Sub.nil | refine Sub.cons ?_ ?_ | exact In.here | refine In.there ?_)) (by have nd := hH.nd; simp only [List.map_cons, List.map_nil, List.nodup_cons, List.mem_cons, List.not_mem_nil, or_false, not_or, List.nodup_nil, and_true, not_false_iff] at nd ⊢; omega)⟩
  clear hS hH; intro m a w hI; obtain ⟨j, i, bx5, cx5, kx5, hmj, hi, hwx5, hnx5, hBx5, hS, hH⟩ := hI
  refine c_seq ?_
  refine reg_plain w0 (fun x => x = bw) ?_
  refine r_lss hS hH.kp0 rfl rfl rfl ?_; clear hS; intro a hS
  refine Sq.nil ?_
  refine then_n ?_
  refine c_seq ?_
  refine c_cond hS rfl (fun hc5 => ?_) (fun hc5 => ?_)
  · have hk : j < ptl.length := by have := of_decide_eq_true hc5; omega
    obtain ⟨ba, bo, hpq, hcell⟩ := (hpt _ hH.mod).cell hk
    subst hpq
    have hpj := prsB_len _ (oddN_take j hod)
    have hpj2 : (ptl.take j).length ≤ 8 := by rw [List.length_take]; omega
    have hnj : ptl[j].data.toList.length = ptl[j].size := by rw [Array.length_toList]; rfl
    refine wp_skip ?_
    refine then_n ?_
    refine c_seq ?_
    refine wp_block ?_
    refine c_seq ?_
    refine reg_plain w0 (fun x => x = bw) ?_
    refine r_indexAddrS (j := j) hS hH.kp0 rfl rfl Fc.slb24 hi hk rfl ?_; clear hS; intro a hS
    refine r_load_cell hS hH.kp0 rfl hcell Fc.sc9 rfl ?_; clear hS; intro a hS
    refine r_assign hS hH.kp0 rfl rfl ?_; clear hS; intro a hS
    refine Sq.nil ?_
    refine then_n ?_
    refine reg_plain w0 (fun x => x = bw) ?_
    refine r_move hS hH.kp0 rfl rfl ?_; clear hS; intro a hS
    refine r_move hS hH.kp0 rfl rfl ?_; clear hS; intro a hS
    refine r_call (l := [.tmp 42, .tmp 43, .const (.int .i64 1)]) hS rfl rfl Fc.fn14 rfl ?_
    refine Calls.mono ((text_some bw bx5 cx5 kx5 (U ++ prsB (ptl.take j)) ptl[j] 1 (by have := hodj hk; omega) (by decide) (by decide) (by first | omega | (simp only [List.length_append, List.length_cons, List.length_nil, beB_len]; omega)) _ (hH.get (b := bw) (by repeat (first | exact In.here | refine In.there ?_))) (hH.get (b := bx5) (by repeat (first | exact In.here | refine In.there ?_))) hBx5 hnx5).mono (fun e w1 hP => hP)) ?_
    rintro e w1 hP
    obtain ⟨bx6, cx6, kx6, rfl, hrx6, hpx6, hkx6, hBx6, hmx6⟩ := hP
    have hBx6 : BB cx6 kx6 (U ++ prsB (ptl.take j) ++ beB ptl[j].size 1 ++ ptl[j].data.toList) := hBx6
    have hpx6 : w1.heap[bw]? = some (.cells [Value.slice (some ⟨bx6, 0, none⟩) ((U ++ prsB (ptl.take j) ++ beB ptl[j].size 1 ++ ptl[j].data.toList)).length cx6].toArray 42 (0, 0)) := hpx6
    have hnx6 : bx6 ≠ bw := fun e => by have h9 := lt_of_block (hH.get (b := bw) (by repeat (first | exact .here | apply In.there | apply Put.there | apply Del.there))); omega
    have hwx6 := Nat.le_trans hH.mod.size hrx6
    replace hH := hH.modPutN hmx6 hpx6 (by repeat (first | exact .here | apply In.there | apply Put.there | apply Del.there)) (.inl rfl) hrx6 hkx6
    refine ⟨_, rfl, hH.kp0, ?_⟩
    clear hS; intro a hS
    refine Sq.nil ?_
    refine blk_n ?_
    refine then_n ?_
    refine reg_plain w0 (fun x => x = bw) ?_
    (first | refine r_add hS hH.kp0 rfl rfl rfl (by omega) ?_ | refine r_addw hS hH.kp0 rfl rfl rfl ?_)
    clear hS; intro a hS
    refine r_move hS hH.kp0 rfl rfl ?_; clear hS; intro a hS
    refine Sq.nil ?_
    refine then_n ?_
    have hsx : U ++ prsB (ptl.take j) ++ beB ptl[j].size 1 ++ ptl[j].data.toList = U ++ prsB (ptl.take (j + 1)) := by rw [prsB_succ hk]; simp only [List.append_assoc]
    rw [hsx] at hBx6 hH
    refine ⟨m - 1, by omega, j + 1, _, bx6, cx6, kx6, by omega, ?_, hwx6, hnx6, hBx6, hS.live ⟨rfl, rfl, rfl, rfl, rfl, trivial⟩, hH.sub (by repeat (first | exact Sub.nil | refine Sub.cons ?_ ?_ | exact In.here | refine In.there ?_)) (by have nd := hH.nd; simp only [List.map_cons, List.map_nil, List.nodup_cons, List.mem_cons, List.not_mem_nil, or_false, not_or, List.nodup_nil, and_true, not_false_iff] at nd ⊢; omega)⟩
    omega
  · have hke : j = ptl.length := by have := of_decide_eq_false hc5; omega
    subst hke
    rw [List.take_of_length_le (Nat.le_refl _)] at hBx5 hH
    have hpj := prsB_len _ hod
    refine wp_exit ?_
    refine then_e ?_
    refine then_e ?_
    refine blk_hit ?_
    refine then_n ?_
    refine c_seq ?_
    refine reg_plain w0 (fun x => x = bw) ?_
    refine r_move hS hH.kp0 rfl rfl ?_; clear hS; intro a hS
    refine r_fieldAddr hS hH.kp0 rfl Fc.fo27_5 rfl ?_; clear hS; intro a hS
    refine r_load_sc hS hH (by repeat (first | exact Sub.nil | refine Sub.cons ?_ ?_ | exact In.here | refine In.there ?_)) rfl (by repeat (first | exact In.here | refine In.there ?_)) Fc.sc25 (by rfl) rfl ?_; clear hS; intro a hS
    refine r_bytesStr hS hH.kp0 rfl (hbP _ hH.mod) Fc.u8s25 Fc.isStr9 rfl ?_; clear hS; intro a hS
    refine r_call (l := [.tmp 46, .tmp 49, .const (.int .i64 2)]) hS rfl rfl Fc.fn14 rfl ?_
    refine Calls.mono ((text_some bw bx5 cx5 kx5 (U ++ prsB ptl) (strOf prm) 2 (by show prm.length ≤ _; omega) (by decide) (by decide) (by first | omega | (simp only [List.length_append, List.length_cons, List.length_nil, beB_len]; omega)) _ (hH.get (b := bw) (by repeat (first | exact In.here | refine In.there ?_))) (hH.get (b := bx5) (by repeat (first | exact In.here | refine In.there ?_))) hBx5 hnx5).mono (fun e w1 hP => hP)) ?_
    rintro e w1 hP
    obtain ⟨bx6, cx6, kx6, rfl, hrx6, hpx6, hkx6, hBx6, hmx6⟩ := hP
    have hBx6 : BB cx6 kx6 (U ++ prsB ptl ++ beB prm.length 2 ++ prm) := hBx6
    have hpx6 : w1.heap[bw]? = some (.cells [Value.slice (some ⟨bx6, 0, none⟩) ((U ++ prsB ptl ++ beB prm.length 2 ++ prm)).length cx6].toArray 42 (0, 0)) := hpx6
    have hnx6 : bx6 ≠ bw := fun e => by have h9 := lt_of_block (hH.get (b := bw) (by repeat (first | exact .here | apply In.there | apply Put.there | apply Del.there))); omega
    have hwx6 := Nat.le_trans hH.mod.size hrx6
    replace hH := hH.modPutN hmx6 hpx6 (by repeat (first | exact .here | apply In.there | apply Put.there | apply Del.there)) (.inl rfl) hrx6 hkx6
    refine ⟨_, rfl, hH.kp0, ?_⟩
    clear hS; intro a hS
    refine Sq.nil ?_
    refine then_n ?_
    refine c_seq ?_
    refine reg_plain w0 (fun x => x = bw) ?_
    refine r_move hS hH.kp0 rfl rfl ?_; clear hS; intro a hS
    refine r_fieldAddr hS hH.kp0 rfl Fc.fo27_6 rfl ?_; clear hS; intro a hS
    refine r_load_sc hS hH (by repeat (first | exact Sub.nil | refine Sub.cons ?_ ?_ | exact In.here | refine In.there ?_)) rfl (by repeat (first | exact In.here | refine In.there ?_)) Fc.sc25 (by rfl) rfl ?_; clear hS; intro a hS
    refine r_lenSl hS hH.kp0 rfl Fc.isSlice25 rfl ?_; clear hS; intro a hS
    refine r_gtr hS hH.kp0 rfl rfl rfl ?_; clear hS; intro a hS
    rw [show decide ((tck.length : Int) > 0) = true from DT (by omega)] at hS
    refine r_fieldAddr hS hH.kp0 rfl Fc.fo27_8 rfl ?_; clear hS; intro a hS
    refine r_load_sc hS hH (by repeat (first | exact Sub.nil | refine Sub.cons ?_ ?_ | exact In.here | refine In.there ?_)) rfl (by repeat (first | exact In.here | refine In.there ?_)) Fc.sc4 (by rfl) rfl ?_; clear hS; intro a hS
    refine r_buildSlice (parts := [(0, .tmp 55), (1, .tmp 57)]) hS hH (by repeat (first | exact Sub.nil | refine Sub.cons ?_ ?_ | exact In.here | refine In.there ?_)) rfl Fc.bsl60_2 (by rfl) rfl ?_
    clear hS hH; intro a w b58 hb58 hwb58 hS hH
    refine r_call (l := [.tmp 51, .tmp 58]) hS rfl rfl Fc.fn20 rfl ?_
    refine Calls.mono ((flags_tf bw bx6 cx6 b58 kx6 (U ++ prsB ptl ++ beB prm.length 2 ++ prm) (by first | omega | (simp only [List.length_append, List.length_cons, List.length_nil, beB_len]; omega)) _ (hH.get (b := bw) (by repeat (first | exact In.here | refine In.there ?_))) (hH.get (b := bx6) (by repeat (first | exact In.here | refine In.there ?_))) hBx6 hnx6 (hH.get (b := b58) (by repeat (first | exact In.here | refine In.there ?_))) (hH.ne (x := b58) (y := bw) (.cons (by repeat (first | exact .here | apply In.there | apply Put.there | apply Del.there)) (.cons (by repeat (first | exact .here | apply In.there | apply Put.there | apply Del.there)) .nil)) (by intro h; injection h with _ h2 _; revert h2; decide)) (hH.ne (x := b58) (y := bx6) (.cons (by repeat (first | exact .here | apply In.there | apply Put.there | apply Del.there)) (.cons (by repeat (first | exact .here | apply In.there | apply Put.there | apply Del.there)) .nil)) (by intro h; injection h with _ h2 _; revert h2; decide))).mono (fun e w1 hP => hP)) ?_
    rintro e w1 hP
    obtain ⟨bx7, cx7, kx7, rfl, hrx7, hpx7, hkx7, hBx7, hmx7⟩ := hP
    have hBx7 : BB cx7 kx7 (U ++ prsB ptl ++ beB prm.length 2 ++ prm ++ beB 1 1) := hBx7
    have hpx7 : w1.heap[bw]? = some (.cells [Value.slice (some ⟨bx7, 0, none⟩) ((U ++ prsB ptl ++ beB prm.length 2 ++ prm ++ beB 1 1)).length cx7].toArray 42 (0, 0)) := hpx7
    have hnx7 : bx7 ≠ bw := fun e => by have h9 := lt_of_block (hH.get (b := bw) (by repeat (first | exact .here | apply In.there | apply Put.there | apply Del.there))); omega
    have hwx7 := Nat.le_trans hH.mod.size hrx7
    replace hH := hH.modPutN hmx7 hpx7 (by repeat (first | exact .here | apply In.there | apply Put.there | apply Del.there)) (.inl rfl) hrx7 hkx7
    refine ⟨_, rfl, hH.kp0, ?_⟩
    clear hS; intro a hS
    refine Sq.nil ?_
    refine then_n ?_
    refine c_seq ?_
    refine reg_plain w0 (fun x => x = bw) ?_
    refine r_fieldAddr hS hH.kp0 rfl Fc.fo27_6 rfl ?_; clear hS; intro a hS
    refine r_load_sc hS hH (by repeat (first | exact Sub.nil | refine Sub.cons ?_ ?_ | exact In.here | refine In.there ?_)) rfl (by repeat (first | exact In.here | refine In.there ?_)) Fc.sc25 (by rfl) rfl ?_; clear hS; intro a hS
    refine r_lenSl hS hH.kp0 rfl Fc.isSlice25 rfl ?_; clear hS; intro a hS
    refine r_gtr hS hH.kp0 rfl rfl rfl ?_; clear hS; intro a hS
    refine Sq.nil ?_
    refine then_n ?_
    refine c_condT hS rfl (DT (by omega)) ?_
    refine c_seq ?_
    refine reg_plain w0 (fun x => x = bw) ?_
    refine r_move hS hH.kp0 rfl rfl ?_; clear hS; intro a hS
    refine r_fieldAddr hS hH.kp0 rfl Fc.fo27_6 rfl ?_; clear hS; intro a hS
    refine r_load_sc hS hH (by repeat (first | exact Sub.nil | refine Sub.cons ?_ ?_ | exact In.here | refine In.there ?_)) rfl (by repeat (first | exact In.here | refine In.there ?_)) Fc.sc25 (by rfl) rfl ?_; clear hS; intro a hS
    refine r_bytesStr hS hH.kp0 rfl (hbT _ hH.mod) Fc.u8s25 Fc.isStr9 rfl ?_; clear hS; intro a hS
    refine r_call (l := [.tmp 64, .tmp 67, .const (.int .i64 2)]) hS rfl rfl Fc.fn14 rfl ?_
    refine Calls.mono ((text_some bw bx7 cx7 kx7 (U ++ prsB ptl ++ beB prm.length 2 ++ prm ++ beB 1 1) (strOf tck) 2 (by show tck.length ≤ _; omega) (by decide) (by decide) (by first | omega | (simp only [List.length_append, List.length_cons, List.length_nil, beB_len]; omega)) _ (hH.get (b := bw) (by repeat (first | exact In.here | refine In.there ?_))) (hH.get (b := bx7) (by repeat (first | exact In.here | refine In.there ?_))) hBx7 hnx7).mono (fun e w1 hP => hP)) ?_
    rintro e w1 hP
    obtain ⟨bx8, cx8, kx8, rfl, hrx8, hpx8, hkx8, hBx8, hmx8⟩ := hP
    have hBx8 : BB cx8 kx8 (U ++ prsB ptl ++ beB prm.length 2 ++ prm ++ beB 1 1 ++ beB tck.length 2 ++ tck) := hBx8
    have hpx8 : w1.heap[bw]? = some (.cells [Value.slice (some ⟨bx8, 0, none⟩) ((U ++ prsB ptl ++ beB prm.length 2 ++ prm ++ beB 1 1 ++ beB tck.length 2 ++ tck)).length cx8].toArray 42 (0, 0)) := hpx8
    have hnx8 : bx8 ≠ bw := fun e => by have h9 := lt_of_block (hH.get (b := bw) (by repeat (first | exact .here | apply In.there | apply Put.there | apply Del.there))); omega
    have hwx8 := Nat.le_trans hH.mod.size hrx8
    replace hH := hH.modPutN hmx8 hpx8 (by repeat (first | exact .here | apply In.there | apply Put.there | apply Del.there)) (.inl rfl) hrx8 hkx8
    refine ⟨_, rfl, hH.kp0, ?_⟩
    clear hS; intro a hS
    refine Sq.nil ?_
    refine then_n ?_
    refine reg_plain w0 (fun x => x = bw) ?_
    refine r_move hS hH.kp0 rfl rfl ?_; clear hS; intro a hS
    refine r_fieldAddr hS hH.kp0 rfl Fc.fo27_7 rfl ?_; clear hS; intro a hS
    refine r_load_ag hS hH (by repeat (first | exact Sub.nil | refine Sub.cons ?_ ?_ | exact In.here | refine In.there ?_)) rfl (by repeat (first | exact In.here | refine In.there ?_)) Fc.ag23 (of_decide_eq_true rfl) rfl ?_; clear hS; intro a hS
    refine r_call (l := [.tmp 69, .tmp 71]) hS rfl rfl Fc.fn19 rfl ?_
    refine Calls.mono ((handle_some bw bx8 cx8 kx8 (U ++ prsB ptl ++ beB prm.length 2 ++ prm ++ beB 1 1 ++ beB tck.length 2 ++ tck) [n0, n1, n2, n3, n4, n5, n6, n7, n8, n9, na, nb, nc, nd, ne, nf] rfl (by first | omega | (simp only [List.length_append, List.length_cons, List.length_nil, beB_len]; omega)) _ (hH.get (b := bw) (by repeat (first | exact In.here | refine In.there ?_))) (hH.get (b := bx8) (by repeat (first | exact In.here | refine In.there ?_))) hBx8 hnx8).mono (fun e w1 hP => hP)) ?_
    rintro e w1 hP
    obtain ⟨bx9, cx9, kx9, rfl, hrx9, hpx9, hkx9, hBx9, hmx9⟩ := hP
    have hBx9 : BB cx9 kx9 (U ++ prsB ptl ++ beB prm.length 2 ++ prm ++ beB 1 1 ++ beB tck.length 2 ++ tck ++ [n0, n1, n2, n3, n4, n5, n6, n7, n8, n9, na, nb, nc, nd, ne, nf]) := hBx9
    have hpx9 : w1.heap[bw]? = some (.cells [Value.slice (some ⟨bx9, 0, none⟩) ((U ++ prsB ptl ++ beB prm.length 2 ++ prm ++ beB 1 1 ++ beB tck.length 2 ++ tck ++ [n0, n1, n2, n3, n4, n5, n6, n7, n8, n9, na, nb, nc, nd, ne, nf])).length cx9].toArray 42 (0, 0)) := hpx9
    have hnx9 : bx9 ≠ bw := fun e => by rcases hrx9 with h | h; exact hnx8 (h.symm.trans e); have h9 := lt_of_block (hH.get (b := bw) (by repeat (first | exact .here | apply In.there | apply Put.there | apply Del.there))); omega
    have hwx9 : w0.heap.size ≤ bx9 := by rcases hrx9 with h | h; rw [h]; exact hwx8; exact Nat.le_trans hH.mod.size h
    replace hH := hH.modPut2 hmx9 (by repeat (first | exact .here | apply In.there | apply Put.there | apply Del.there)) (by repeat (first | exact .here | apply In.there | apply Put.there | apply Del.there)) hpx9 (.inl rfl) (.inr hwx8) hrx9 hkx9
    refine ⟨_, rfl, hH.kp0, ?_⟩
    clear hS; intro a hS
    refine Sq.nil ?_
    refine then_n ?_
    refine wp_exit ?_
    refine blk_e rfl ?_
    refine then_e ?_
    refine blk_e rfl ?_
    refine then_e ?_
    refine blk_e rfl ?_
    refine then_e ?_
    refine blk_e rfl ?_
    refine then_e ?_
    refine blk_e rfl ?_
    refine then_e ?_
    refine blk_hit ?_
    have hfin : U ++ prsB ptl ++ beB prm.length 2 ++ prm ++ beB 1 1 ++ beB tck.length 2 ++ tck ++ [n0, n1, n2, n3, n4, n5, n6, n7, n8, n9, na, nb, nc, nd, ne, nf] = bodyB 1 [r0, r1, r2, r3, r4, r5, r6, r7, r8, r9, ra, rb, rc, rd, re, rf] [s0, s1, s2, s3, s4, s5, s6, s7, s8, s9, sa, sb, sc, sd, se, sf] name ptl prm tck [n0, n1, n2, n3, n4, n5, n6, n7, n8, n9, na, nb, nc, nd, ne, nf] false ag [m0, m1, m2, m3, m4, m5, m6, m7, m8, m9, ma, mb, mc, md, me, mf] li := by rw [hU]; unfold bodyB; rw [if_pos rfl]; simp [beB1, List.append_assoc, show 0 < tck.length from htk1]
    rw [hfin] at hBx9 hH
    exact leave (.inr rfl) hS rfl Res.nil ⟨bx9, cx9, kx9, rfl, hwx9, hH.get (b := bw) (by repeat (first | exact In.here | refine In.there ?_)), hH.get (b := bx9) (by repeat (first | exact In.here | refine In.there ?_)), hBx9, hH.mod⟩

set_option maxRecDepth 100000 in
set_option maxHeartbeats 4000000 in
theorem body_1tt (q1 q2 q3 : Option Addr) (c1 c2 c3 : Nat) (rnd shr bnd mrk : List UInt8) (name : ByteArray) (ptl : List ByteArray) (prm tck : List UInt8) (ea ag : Bool) (li : Int) (hrnd : rnd.length = 16) (hshr : shr.length = 16) (hbnd : bnd.length = 16) (hmrk : mrk.length = 16) (bw : Nat) (hnm : name.size ≤ 255) (hpl : ptl.length ≤ 8) (hod : oddN ptl = 0) (hpr : prm.length ≤ 4096) (htk : tck.length ≤ 512) (htk1 : 1 ≤ tck.length) (hea : ea = true) (w0 : World) (h1 : w0.heap[bw]? = some (.cells [Value.slice none 0 0].toArray 42 (0, 0))) (hpt : ∀ w', Mod (fun x => x = bw) w0 w' → SsA w' q1 c1 ptl) (hbP : BsF (fun x => x = bw) w0 (.slice q2 prm.length c2) prm) (hbT : BsF (fun x => x = bw) w0 (.slice q3 tck.length c3) tck) : Calls Try.prog 12 #[.pointer (some ⟨bw, 0, none⟩), .agg ([.int .i64 1] ++ hcells rnd ++ hcells shr ++ [.string name, .slice q1 ptl.length c1, .slice q2 prm.length c2, .slice q3 tck.length c3] ++ hcells bnd ++ [.bool ea, .bool ag] ++ hcells mrk ++ [.int .i64 li] : List Value).toArray] w0 fun e w' => ∃ (b' c' : Nat) (k' : List Value), e = .returned (.tuple #[]) ∧ w0.heap.size ≤ b' ∧ w'.heap[bw]? = some (.cells [Value.slice (some ⟨b', 0, none⟩) (bodyB 1 rnd shr name ptl prm tck bnd ea ag mrk li).length c'].toArray 42 (0, 0)) ∧ w'.heap[b']? = some (.cells k'.toArray 5 (0, 0)) ∧ BB c' k' (bodyB 1 rnd shr name ptl prm tck bnd ea ag mrk li) ∧ Mod (fun x => x = bw) w0 w' := by
  refine enter Try.func12 rfl rfl rfl ?_
  intro a hS
  have hH := Hp.start w0 (fun x => x = bw)
  subst hea
  obtain ⟨r0, r1, r2, r3, r4, r5, r6, r7, r8, r9, ra, rb, rc, rd, re, rf, rfl⟩ := len16 hrnd
  obtain ⟨s0, s1, s2, s3, s4, s5, s6, s7, s8, s9, sa, sb, sc, sd, se, sf, rfl⟩ := len16 hshr
  obtain ⟨n0, n1, n2, n3, n4, n5, n6, n7, n8, n9, na, nb, nc, nd, ne, nf, rfl⟩ := len16 hbnd
  obtain ⟨m0, m1, m2, m3, m4, m5, m6, m7, m8, m9, ma, mb, mc, md, me, mf, rfl⟩ := len16 hmrk
  have hnl : name.data.toList.length = name.size := by rw [Array.length_toList]; rfl
  have hodj : ∀ {k : Nat} (hk : k < ptl.length), 1 ≤ ptl[k].size ∧ ptl[k].size ≤ 255 := fun hk => oddN_zero hk hod
  replace hH := hH.know h1 (fun p hp => by simp at hp)
  refine c_seq ?_
  refine reg_plain w0 (fun x => x = bw) ?_
  refine r_box hS hH (by repeat (first | exact Sub.nil | refine Sub.cons ?_ ?_ | exact In.here | refine In.there ?_)) rfl rfl rfl ?_
  clear hS hH; intro a w b3 hb3 hwb3 hS hH
  refine Sq.nil ?_
  refine then_n ?_
  refine c_seq ?_
  refine reg_plain w0 (fun x => x = bw) ?_
  refine r_fieldAddr hS hH.kp0 rfl Fc.fo27_0 rfl ?_; clear hS; intro a hS
  refine r_load_sc hS hH (by repeat (first | exact Sub.nil | refine Sub.cons ?_ ?_ | exact In.here | refine In.there ?_)) rfl (by repeat (first | exact In.here | refine In.there ?_)) Fc.sc3 (by rfl) rfl ?_; clear hS; intro a hS
  refine Sq.nil ?_
  refine then_n ?_
  refine wp_block ?_
  refine c_seq ?_
  refine wp_block ?_
  refine c_seq ?_
  refine wp_block ?_
  refine c_seq ?_
  refine wp_block ?_
  refine c_seq ?_
  refine wp_block ?_
  refine c_seq ?_
  refine wp_block ?_
  refine c_seq ?_
  refine wp_block ?_
  refine c_seq ?_
  refine c_seq ?_
  refine c_seq ?_
  refine reg_plain w0 (fun x => x = bw) ?_
  refine r_eql hS hH.kp0 rfl rfl rfl ?_; clear hS; intro a hS
  refine r_assign hS hH.kp0 rfl rfl ?_; clear hS; intro a hS
  refine Sq.nil ?_
  refine then_n ?_
  refine c_condT hS rfl rfl ?_
  refine wp_exit ?_
  refine then_e ?_
  refine then_e ?_
  refine blk_hit ?_
  refine then_n ?_
  refine c_seq ?_
  refine c_seq ?_
  refine reg_plain w0 (fun x => x = bw) ?_
  refine r_move hS hH.kp0 rfl rfl ?_; clear hS; intro a hS
  refine r_fieldAddr hS hH.kp0 rfl Fc.fo27_1 rfl ?_; clear hS; intro a hS
  refine r_load_ag hS hH (by repeat (first | exact Sub.nil | refine Sub.cons ?_ ?_ | exact In.here | refine In.there ?_)) rfl (by repeat (first | exact In.here | refine In.there ?_)) Fc.ag23 (of_decide_eq_true rfl) rfl ?_; clear hS; intro a hS
  refine r_call (l := [.tmp 18, .tmp 20]) hS rfl rfl Fc.fn19 rfl ?_
  refine Calls.mono ((handle_nil bw [r0, r1, r2, r3, r4, r5, r6, r7, r8, r9, ra, rb, rc, rd, re, rf] rfl _ (hH.get (b := bw) (by repeat (first | exact In.here | refine In.there ?_)))).mono (fun e w1 hP => hP)) ?_
  rintro e w1 hP
  obtain ⟨bx1, cx1, kx1, rfl, hrx1, hpx1, hkx1, hBx1, hmx1⟩ := hP
  have hBx1 : BB cx1 kx1 ([r0, r1, r2, r3, r4, r5, r6, r7, r8, r9, ra, rb, rc, rd, re, rf]) := hBx1
  have hpx1 : w1.heap[bw]? = some (.cells [Value.slice (some ⟨bx1, 0, none⟩) (([r0, r1, r2, r3, r4, r5, r6, r7, r8, r9, ra, rb, rc, rd, re, rf])).length cx1].toArray 42 (0, 0)) := hpx1
  have hnx1 : bx1 ≠ bw := fun e => by have h9 := lt_of_block (hH.get (b := bw) (by repeat (first | exact .here | apply In.there | apply Put.there | apply Del.there))); omega
  have hwx1 := Nat.le_trans hH.mod.size hrx1
  replace hH := hH.modPutN hmx1 hpx1 (by repeat (first | exact .here | apply In.there | apply Put.there | apply Del.there)) (.inl rfl) hrx1 hkx1
  refine ⟨_, rfl, hH.kp0, ?_⟩
  clear hS; intro a hS
  refine Sq.nil ?_
  refine then_n ?_
  refine c_seq ?_
  refine reg_plain w0 (fun x => x = bw) ?_
  refine r_move hS hH.kp0 rfl rfl ?_; clear hS; intro a hS
  refine r_fieldAddr hS hH.kp0 rfl Fc.fo27_2 rfl ?_; clear hS; intro a hS
  refine r_load_ag hS hH (by repeat (first | exact Sub.nil | refine Sub.cons ?_ ?_ | exact In.here | refine In.there ?_)) rfl (by repeat (first | exact In.here | refine In.there ?_)) Fc.ag23 (of_decide_eq_true rfl) rfl ?_; clear hS; intro a hS
  refine r_call (l := [.tmp 22, .tmp 24]) hS rfl rfl Fc.fn19 rfl ?_
  refine Calls.mono ((handle_some bw bx1 cx1 kx1 ([r0, r1, r2, r3, r4, r5, r6, r7, r8, r9, ra, rb, rc, rd, re, rf]) [s0, s1, s2, s3, s4, s5, s6, s7, s8, s9, sa, sb, sc, sd, se, sf] rfl (by first | omega | (simp only [List.length_append, List.length_cons, List.length_nil, beB_len]; omega)) _ (hH.get (b := bw) (by repeat (first | exact In.here | refine In.there ?_))) (hH.get (b := bx1) (by repeat (first | exact In.here | refine In.there ?_))) hBx1 hnx1).mono (fun e w1 hP => hP)) ?_
  rintro e w1 hP
  obtain ⟨bx2, cx2, kx2, rfl, hrx2, hpx2, hkx2, hBx2, hmx2⟩ := hP
  have hBx2 : BB cx2 kx2 ([r0, r1, r2, r3, r4, r5, r6, r7, r8, r9, ra, rb, rc, rd, re, rf] ++ [s0, s1, s2, s3, s4, s5, s6, s7, s8, s9, sa, sb, sc, sd, se, sf]) := hBx2
  have hpx2 : w1.heap[bw]? = some (.cells [Value.slice (some ⟨bx2, 0, none⟩) (([r0, r1, r2, r3, r4, r5, r6, r7, r8, r9, ra, rb, rc, rd, re, rf] ++ [s0, s1, s2, s3, s4, s5, s6, s7, s8, s9, sa, sb, sc, sd, se, sf])).length cx2].toArray 42 (0, 0)) := hpx2
  have hnx2 : bx2 ≠ bw := fun e => by rcases hrx2 with h | h; exact hnx1 (h.symm.trans e); have h9 := lt_of_block (hH.get (b := bw) (by repeat (first | exact .here | apply In.there | apply Put.there | apply Del.there))); omega
  have hwx2 : w0.heap.size ≤ bx2 := by rcases hrx2 with h | h; rw [h]; exact hwx1; exact Nat.le_trans hH.mod.size h
  replace hH := hH.modPut2 hmx2 (by repeat (first | exact .here | apply In.there | apply Put.there | apply Del.there)) (by repeat (first | exact .here | apply In.there | apply Put.there | apply Del.there)) hpx2 (.inl rfl) (.inr hwx1) hrx2 hkx2
  refine ⟨_, rfl, hH.kp0, ?_⟩
  clear hS; intro a hS
  refine Sq.nil ?_
  refine then_n ?_
  refine c_seq ?_
  refine reg_plain w0 (fun x => x = bw) ?_
  refine r_move hS hH.kp0 rfl rfl ?_; clear hS; intro a hS
  refine r_fieldAddr hS hH.kp0 rfl Fc.fo27_3 rfl ?_; clear hS; intro a hS
  refine r_load_sc hS hH (by repeat (first | exact Sub.nil | refine Sub.cons ?_ ?_ | exact In.here | refine In.there ?_)) rfl (by repeat (first | exact In.here | refine In.there ?_)) Fc.sc9 (by rfl) rfl ?_; clear hS; intro a hS
  refine r_call (l := [.tmp 26, .tmp 28, .const (.int .i64 1)]) hS rfl rfl Fc.fn14 rfl ?_
  refine Calls.mono ((text_some bw bx2 cx2 kx2 ([r0, r1, r2, r3, r4, r5, r6, r7, r8, r9, ra, rb, rc, rd, re, rf] ++ [s0, s1, s2, s3, s4, s5, s6, s7, s8, s9, sa, sb, sc, sd, se, sf]) name 1 (by omega) (by decide) (by decide) (by first | omega | (simp only [List.length_append, List.length_cons, List.length_nil, beB_len]; omega)) _ (hH.get (b := bw) (by repeat (first | exact In.here | refine In.there ?_))) (hH.get (b := bx2) (by repeat (first | exact In.here | refine In.there ?_))) hBx2 hnx2).mono (fun e w1 hP => hP)) ?_
  rintro e w1 hP
  obtain ⟨bx3, cx3, kx3, rfl, hrx3, hpx3, hkx3, hBx3, hmx3⟩ := hP
  have hBx3 : BB cx3 kx3 ([r0, r1, r2, r3, r4, r5, r6, r7, r8, r9, ra, rb, rc, rd, re, rf] ++ [s0, s1, s2, s3, s4, s5, s6, s7, s8, s9, sa, sb, sc, sd, se, sf] ++ beB name.size 1 ++ name.data.toList) := hBx3
  have hpx3 : w1.heap[bw]? = some (.cells [Value.slice (some ⟨bx3, 0, none⟩) (([r0, r1, r2, r3, r4, r5, r6, r7, r8, r9, ra, rb, rc, rd, re, rf] ++ [s0, s1, s2, s3, s4, s5, s6, s7, s8, s9, sa, sb, sc, sd, se, sf] ++ beB name.size 1 ++ name.data.toList)).length cx3].toArray 42 (0, 0)) := hpx3
  have hnx3 : bx3 ≠ bw := fun e => by have h9 := lt_of_block (hH.get (b := bw) (by repeat (first | exact .here | apply In.there | apply Put.there | apply Del.there))); omega
  have hwx3 := Nat.le_trans hH.mod.size hrx3
  replace hH := hH.modPutN hmx3 hpx3 (by repeat (first | exact .here | apply In.there | apply Put.there | apply Del.there)) (.inl rfl) hrx3 hkx3
  refine ⟨_, rfl, hH.kp0, ?_⟩
  clear hS; intro a hS
  refine Sq.nil ?_
  refine then_n ?_
  refine c_seq ?_
  refine reg_plain w0 (fun x => x = bw) ?_
  refine r_move hS hH.kp0 rfl rfl ?_; clear hS; intro a hS
  refine r_fieldAddr hS hH.kp0 rfl Fc.fo27_4 rfl ?_; clear hS; intro a hS
  refine r_load_sc hS hH (by repeat (first | exact Sub.nil | refine Sub.cons ?_ ?_ | exact In.here | refine In.there ?_)) rfl (by repeat (first | exact In.here | refine In.there ?_)) Fc.sc24 (by rfl) rfl ?_; clear hS; intro a hS
  refine r_lenSl hS hH.kp0 rfl Fc.isSlice24 rfl ?_; clear hS; intro a hS
  refine r_call (l := [.tmp 30, .tmp 33, .const (.int .i64 1)]) hS rfl rfl Fc.fn13 rfl ?_
  refine Calls.mono ((number_some bw bx3 cx3 kx3 ([r0, r1, r2, r3, r4, r5, r6, r7, r8, r9, ra, rb, rc, rd, re, rf] ++ [s0, s1, s2, s3, s4, s5, s6, s7, s8, s9, sa, sb, sc, sd, se, sf] ++ beB name.size 1 ++ name.data.toList) ptl.length 1 (by omega) (by decide) (by decide) (by first | omega | (simp only [List.length_append, List.length_cons, List.length_nil, beB_len]; omega)) _ (hH.get (b := bw) (by repeat (first | exact In.here | refine In.there ?_))) (hH.get (b := bx3) (by repeat (first | exact In.here | refine In.there ?_))) hBx3 hnx3).mono (fun e w1 hP => hP)) ?_
  rintro e w1 hP
  obtain ⟨bx4, cx4, kx4, rfl, hrx4, hpx4, hkx4, hBx4, hmx4⟩ := hP
  have hBx4 : BB cx4 kx4 ([r0, r1, r2, r3, r4, r5, r6, r7, r8, r9, ra, rb, rc, rd, re, rf] ++ [s0, s1, s2, s3, s4, s5, s6, s7, s8, s9, sa, sb, sc, sd, se, sf] ++ beB name.size 1 ++ name.data.toList ++ beB ptl.length 1) := hBx4
  have hpx4 : w1.heap[bw]? = some (.cells [Value.slice (some ⟨bx4, 0, none⟩) (([r0, r1, r2, r3, r4, r5, r6, r7, r8, r9, ra, rb, rc, rd, re, rf] ++ [s0, s1, s2, s3, s4, s5, s6, s7, s8, s9, sa, sb, sc, sd, se, sf] ++ beB name.size 1 ++ name.data.toList ++ beB ptl.length 1)).length cx4].toArray 42 (0, 0)) := hpx4
  have hnx4 : bx4 ≠ bw := fun e => by have h9 := lt_of_block (hH.get (b := bw) (by repeat (first | exact .here | apply In.there | apply Put.there | apply Del.there))); omega
  have hwx4 := Nat.le_trans hH.mod.size hrx4
  replace hH := hH.modPutN hmx4 hpx4 (by repeat (first | exact .here | apply In.there | apply Put.there | apply Del.there)) (.inl rfl) hrx4 hkx4
  refine ⟨_, rfl, hH.kp0, ?_⟩
  clear hS; intro a hS
  refine Sq.nil ?_
  refine then_n ?_
  refine c_seq ?_
  refine c_seq ?_
  refine reg_plain w0 (fun x => x = bw) ?_
  refine r_fieldAddr hS hH.kp0 rfl Fc.fo27_4 rfl ?_; clear hS; intro a hS
  refine r_load_sc hS hH (by repeat (first | exact Sub.nil | refine Sub.cons ?_ ?_ | exact In.here | refine In.there ?_)) rfl (by repeat (first | exact In.here | refine In.there ?_)) Fc.sc24 (by rfl) rfl ?_; clear hS; intro a hS
  refine r_lenSl hS hH.kp0 rfl Fc.isSlice24 rfl ?_; clear hS; intro a hS
  refine r_move hS hH.kp0 rfl rfl ?_; clear hS; intro a hS
  refine Sq.nil ?_
  obtain ⟨U, hU⟩ : ∃ U, U = ([r0, r1, r2, r3, r4, r5, r6, r7, r8, r9, ra, rb, rc, rd, re, rf] ++ [s0, s1, s2, s3, s4, s5, s6, s7, s8, s9, sa, sb, sc, sd, se, sf] ++ beB name.size 1 ++ name.data.toList ++ beB ptl.length 1) := ⟨_, rfl⟩
  have hUl : U.length ≤ 300 := by rw [hU]; first | omega | (simp only [List.length_append, List.length_cons, List.length_nil, beB_len]; omega)
  rw [← hU] at hH hBx4
  refine then_n ?_
  refine wp_block ?_
  refine c_loop (fun m a w => ∃ (j : Nat) (i : Int) (bx5 cx5 : Nat) (kx5 : List Value), m + j = ptl.length ∧ i = j ∧ w0.heap.size ≤ bx5 ∧ bx5 ≠ bw ∧ BB cx5 kx5 (U ++ prsB (ptl.take j)) ∧ St 124 (lv [(0, .pointer (some ⟨bw, 0, none⟩)), (3, .pointer (some ⟨b3, 0, none⟩)), (36, .slice q1 ptl.length c1), (37, .int .i64 (ptl.length : Int)), (38, .int .i64 i)]) a ∧ Hp w0 (fun x => x = bw) [(bw, .cells [.slice (some ⟨bx5, 0, none⟩) (U ++ prsB (ptl.take j)).length cx5].toArray 42 (0, 0)), (bx5, .cells kx5.toArray 5 (0, 0)), (b3, .cells ([.int .i64 1] ++ hcells [r0, r1, r2, r3, r4, r5, r6, r7, r8, r9, ra, rb, rc, rd, re, rf] ++ hcells [s0, s1, s2, s3, s4, s5, s6, s7, s8, s9, sa, sb, sc, sd, se, sf] ++ [.string name, .slice q1 ptl.length c1, .slice q2 prm.length c2, .slice q3 tck.length c3] ++ hcells [n0, n1, n2, n3, n4, n5, n6, n7, n8, n9, na, nb, nc, nd, ne, nf] ++ [.bool true, .bool ag] ++ hcells [m0, m1, m2, m3, m4, m5, m6, m7, m8, m9, ma, mb, mc, md, me, mf] ++ [.int .i64 li] : List Value).toArray 27 (0, 0))] w) (ptl.length) ?_ ?_
  · exact ⟨0, _, bx4, cx4, kx4, by omega, rfl, hwx4, hnx4, by rw [List.take_zero, show prsB [] = [] from rfl, List.append_nil]; exact hBx4, hS.live ⟨rfl, rfl, rfl, rfl, rfl, trivial⟩, by rw [List.take_zero, show prsB [] = [] from rfl, List.append_nil]; exact hH.sub (by repeat (first | exact Sub.nil | refine Sub.cons ?_ ?_ | exact In.here | refine In.there ?_)) (by have nd := hH.nd; simp only [List.map_cons, List.map_nil, List.nodup_cons, List.mem_cons, List.not_mem_nil, or_false, not_or, List.nodup_nil, and_true, not_false_iff] at nd ⊢; omega)⟩
  clear hS hH; intro m a w hI; obtain ⟨j, i, bx5, cx5, kx5, hmj, hi, hwx5, hnx5, hBx5, hS, hH⟩ := hI
  refine c_seq ?_
  refine reg_plain w0 (fun x => x = bw) ?_
  refine r_lss hS hH.kp0 rfl rfl rfl ?_; clear hS; intro a hS
  refine Sq.nil ?_
  refine then_n ?_
  refine c_seq ?_
  refine c_cond hS rfl (fun hc5 => ?_) (fun hc5 => ?_)
  · have hk : j < ptl.length := by have := of_decide_eq_true hc5; omega
    obtain ⟨ba, bo, hpq, hcell⟩ := (hpt _ hH.mod).cell hk
    subst hpq
    have hpj := prsB_len _ (oddN_take j hod)
    have hpj2 : (ptl.take j).length ≤ 8 := by rw [List.length_take]; omega
    have hnj : ptl[j].data.toList.length = ptl[j].size := by rw [Array.length_toList]; rfl
    refine wp_skip ?_
    refine then_n ?_
    refine c_seq ?_
    refine wp_block ?_
    refine c_seq ?_
    refine reg_plain w0 (fun x => x = bw) ?_
    refine r_indexAddrS (j := j) hS hH.kp0 rfl rfl Fc.slb24 hi hk rfl ?_; clear hS; intro a hS
    refine r_load_cell hS hH.kp0 rfl hcell Fc.sc9 rfl ?_; clear hS; intro a hS
    refine r_assign hS hH.kp0 rfl rfl ?_; clear hS; intro a hS
    refine Sq.nil ?_
    refine then_n ?_
    refine reg_plain w0 (fun x => x = bw) ?_
    refine r_move hS hH.kp0 rfl rfl ?_; clear hS; intro a hS
    refine r_move hS hH.kp0 rfl rfl ?_; clear hS; intro a hS
    refine r_call (l := [.tmp 42, .tmp 43, .const (.int .i64 1)]) hS rfl rfl Fc.fn14 rfl ?_
    refine Calls.mono ((text_some bw bx5 cx5 kx5 (U ++ prsB (ptl.take j)) ptl[j] 1 (by have := hodj hk; omega) (by decide) (by decide) (by first | omega | (simp only [List.length_append, List.length_cons, List.length_nil, beB_len]; omega)) _ (hH.get (b := bw) (by repeat (first | exact In.here | refine In.there ?_))) (hH.get (b := bx5) (by repeat (first | exact In.here | refine In.there ?_))) hBx5 hnx5).mono (fun e w1 hP => hP)) ?_
    rintro e w1 hP
    obtain ⟨bx6, cx6, kx6, rfl, hrx6, hpx6, hkx6, hBx6, hmx6⟩ := hP
    have hBx6 : BB cx6 kx6 (U ++ prsB (ptl.take j) ++ beB ptl[j].size 1 ++ ptl[j].data.toList) := hBx6
    have hpx6 : w1.heap[bw]? = some (.cells [Value.slice (some ⟨bx6, 0, none⟩) ((U ++ prsB (ptl.take j) ++ beB ptl[j].size 1 ++ ptl[j].data.toList)).length cx6].toArray 42 (0, 0)) := hpx6
    have hnx6 : bx6 ≠ bw := fun e => by have h9 := lt_of_block (hH.get (b := bw) (by repeat (first | exact .here | apply In.there | apply Put.there | apply Del.there))); omega
    have hwx6 := Nat.le_trans hH.mod.size hrx6
    replace hH := hH.modPutN hmx6 hpx6 (by repeat (first | exact .here | apply In.there | apply Put.there | apply Del.there)) (.inl rfl) hrx6 hkx6
    refine ⟨_, rfl, hH.kp0, ?_⟩
    clear hS; intro a hS
    refine Sq.nil ?_
    refine blk_n ?_
    refine then_n ?_
    refine reg_plain w0 (fun x => x = bw) ?_
    (first | refine r_add hS hH.kp0 rfl rfl rfl (by omega) ?_ | refine r_addw hS hH.kp0 rfl rfl rfl ?_)
    clear hS; intro a hS
    refine r_move hS hH.kp0 rfl rfl ?_; clear hS; intro a hS
    refine Sq.nil ?_
    refine then_n ?_
    have hsx : U ++ prsB (ptl.take j) ++ beB ptl[j].size 1 ++ ptl[j].data.toList = U ++ prsB (ptl.take (j + 1)) := by rw [prsB_succ hk]; simp only [List.append_assoc]
    rw [hsx] at hBx6 hH
    refine ⟨m - 1, by omega, j + 1, _, bx6, cx6, kx6, by omega, ?_, hwx6, hnx6, hBx6, hS.live ⟨rfl, rfl, rfl, rfl, rfl, trivial⟩, hH.sub (by repeat (first | exact Sub.nil | refine Sub.cons ?_ ?_ | exact In.here | refine In.there ?_)) (by have nd := hH.nd; simp only [List.map_cons, List.map_nil, List.nodup_cons, List.mem_cons, List.not_mem_nil, or_false, not_or, List.nodup_nil, and_true, not_false_iff] at nd ⊢; omega)⟩
    omega
  · have hke : j = ptl.length := by have := of_decide_eq_false hc5; omega
    subst hke
    rw [List.take_of_length_le (Nat.le_refl _)] at hBx5 hH
    have hpj := prsB_len _ hod
    refine wp_exit ?_
    refine then_e ?_
    refine then_e ?_
    refine blk_hit ?_
    refine then_n ?_
    refine c_seq ?_
    refine reg_plain w0 (fun x => x = bw) ?_
    refine r_move hS hH.kp0 rfl rfl ?_; clear hS; intro a hS
    refine r_fieldAddr hS hH.kp0 rfl Fc.fo27_5 rfl ?_; clear hS; intro a hS
    refine r_load_sc hS hH (by repeat (first | exact Sub.nil | refine Sub.cons ?_ ?_ | exact In.here | refine In.there ?_)) rfl (by repeat (first | exact In.here | refine In.there ?_)) Fc.sc25 (by rfl) rfl ?_; clear hS; intro a hS
    refine r_bytesStr hS hH.kp0 rfl (hbP _ hH.mod) Fc.u8s25 Fc.isStr9 rfl ?_; clear hS; intro a hS
    refine r_call (l := [.tmp 46, .tmp 49, .const (.int .i64 2)]) hS rfl rfl Fc.fn14 rfl ?_
    refine Calls.mono ((text_some bw bx5 cx5 kx5 (U ++ prsB ptl) (strOf prm) 2 (by show prm.length ≤ _; omega) (by decide) (by decide) (by first | omega | (simp only [List.length_append, List.length_cons, List.length_nil, beB_len]; omega)) _ (hH.get (b := bw) (by repeat (first | exact In.here | refine In.there ?_))) (hH.get (b := bx5) (by repeat (first | exact In.here | refine In.there ?_))) hBx5 hnx5).mono (fun e w1 hP => hP)) ?_
    rintro e w1 hP
    obtain ⟨bx6, cx6, kx6, rfl, hrx6, hpx6, hkx6, hBx6, hmx6⟩ := hP
    have hBx6 : BB cx6 kx6 (U ++ prsB ptl ++ beB prm.length 2 ++ prm) := hBx6
    have hpx6 : w1.heap[bw]? = some (.cells [Value.slice (some ⟨bx6, 0, none⟩) ((U ++ prsB ptl ++ beB prm.length 2 ++ prm)).length cx6].toArray 42 (0, 0)) := hpx6
    have hnx6 : bx6 ≠ bw := fun e => by have h9 := lt_of_block (hH.get (b := bw) (by repeat (first | exact .here | apply In.there | apply Put.there | apply Del.there))); omega
    have hwx6 := Nat.le_trans hH.mod.size hrx6
    replace hH := hH.modPutN hmx6 hpx6 (by repeat (first | exact .here | apply In.there | apply Put.there | apply Del.there)) (.inl rfl) hrx6 hkx6
    refine ⟨_, rfl, hH.kp0, ?_⟩
    clear hS; intro a hS
    refine Sq.nil ?_
    refine then_n ?_
    refine c_seq ?_
    refine reg_plain w0 (fun x => x = bw) ?_
    refine r_move hS hH.kp0 rfl rfl ?_; clear hS; intro a hS
    refine r_fieldAddr hS hH.kp0 rfl Fc.fo27_6 rfl ?_; clear hS; intro a hS
    refine r_load_sc hS hH (by repeat (first | exact Sub.nil | refine Sub.cons ?_ ?_ | exact In.here | refine In.there ?_)) rfl (by repeat (first | exact In.here | refine In.there ?_)) Fc.sc25 (by rfl) rfl ?_; clear hS; intro a hS
    refine r_lenSl hS hH.kp0 rfl Fc.isSlice25 rfl ?_; clear hS; intro a hS
    refine r_gtr hS hH.kp0 rfl rfl rfl ?_; clear hS; intro a hS
    rw [show decide ((tck.length : Int) > 0) = true from DT (by omega)] at hS
    refine r_fieldAddr hS hH.kp0 rfl Fc.fo27_8 rfl ?_; clear hS; intro a hS
    refine r_load_sc hS hH (by repeat (first | exact Sub.nil | refine Sub.cons ?_ ?_ | exact In.here | refine In.there ?_)) rfl (by repeat (first | exact In.here | refine In.there ?_)) Fc.sc4 (by rfl) rfl ?_; clear hS; intro a hS
    refine r_buildSlice (parts := [(0, .tmp 55), (1, .tmp 57)]) hS hH (by repeat (first | exact Sub.nil | refine Sub.cons ?_ ?_ | exact In.here | refine In.there ?_)) rfl Fc.bsl60_2 (by rfl) rfl ?_
    clear hS hH; intro a w b58 hb58 hwb58 hS hH
    refine r_call (l := [.tmp 51, .tmp 58]) hS rfl rfl Fc.fn20 rfl ?_
    refine Calls.mono ((flags_tt bw bx6 cx6 b58 kx6 (U ++ prsB ptl ++ beB prm.length 2 ++ prm) (by first | omega | (simp only [List.length_append, List.length_cons, List.length_nil, beB_len]; omega)) _ (hH.get (b := bw) (by repeat (first | exact In.here | refine In.there ?_))) (hH.get (b := bx6) (by repeat (first | exact In.here | refine In.there ?_))) hBx6 hnx6 (hH.get (b := b58) (by repeat (first | exact In.here | refine In.there ?_))) (hH.ne (x := b58) (y := bw) (.cons (by repeat (first | exact .here | apply In.there | apply Put.there | apply Del.there)) (.cons (by repeat (first | exact .here | apply In.there | apply Put.there | apply Del.there)) .nil)) (by intro h; injection h with _ h2 _; revert h2; decide)) (hH.ne (x := b58) (y := bx6) (.cons (by repeat (first | exact .here | apply In.there | apply Put.there | apply Del.there)) (.cons (by repeat (first | exact .here | apply In.there | apply Put.there | apply Del.there)) .nil)) (by intro h; injection h with _ h2 _; revert h2; decide))).mono (fun e w1 hP => hP)) ?_
    rintro e w1 hP
    obtain ⟨bx7, cx7, kx7, rfl, hrx7, hpx7, hkx7, hBx7, hmx7⟩ := hP
    have hBx7 : BB cx7 kx7 (U ++ prsB ptl ++ beB prm.length 2 ++ prm ++ beB 3 1) := hBx7
    have hpx7 : w1.heap[bw]? = some (.cells [Value.slice (some ⟨bx7, 0, none⟩) ((U ++ prsB ptl ++ beB prm.length 2 ++ prm ++ beB 3 1)).length cx7].toArray 42 (0, 0)) := hpx7
    have hnx7 : bx7 ≠ bw := fun e => by have h9 := lt_of_block (hH.get (b := bw) (by repeat (first | exact .here | apply In.there | apply Put.there | apply Del.there))); omega
    have hwx7 := Nat.le_trans hH.mod.size hrx7
    replace hH := hH.modPutN hmx7 hpx7 (by repeat (first | exact .here | apply In.there | apply Put.there | apply Del.there)) (.inl rfl) hrx7 hkx7
    refine ⟨_, rfl, hH.kp0, ?_⟩
    clear hS; intro a hS
    refine Sq.nil ?_
    refine then_n ?_
    refine c_seq ?_
    refine reg_plain w0 (fun x => x = bw) ?_
    refine r_fieldAddr hS hH.kp0 rfl Fc.fo27_6 rfl ?_; clear hS; intro a hS
    refine r_load_sc hS hH (by repeat (first | exact Sub.nil | refine Sub.cons ?_ ?_ | exact In.here | refine In.there ?_)) rfl (by repeat (first | exact In.here | refine In.there ?_)) Fc.sc25 (by rfl) rfl ?_; clear hS; intro a hS
    refine r_lenSl hS hH.kp0 rfl Fc.isSlice25 rfl ?_; clear hS; intro a hS
    refine r_gtr hS hH.kp0 rfl rfl rfl ?_; clear hS; intro a hS
    refine Sq.nil ?_
    refine then_n ?_
    refine c_condT hS rfl (DT (by omega)) ?_
    refine c_seq ?_
    refine reg_plain w0 (fun x => x = bw) ?_
    refine r_move hS hH.kp0 rfl rfl ?_; clear hS; intro a hS
    refine r_fieldAddr hS hH.kp0 rfl Fc.fo27_6 rfl ?_; clear hS; intro a hS
    refine r_load_sc hS hH (by repeat (first | exact Sub.nil | refine Sub.cons ?_ ?_ | exact In.here | refine In.there ?_)) rfl (by repeat (first | exact In.here | refine In.there ?_)) Fc.sc25 (by rfl) rfl ?_; clear hS; intro a hS
    refine r_bytesStr hS hH.kp0 rfl (hbT _ hH.mod) Fc.u8s25 Fc.isStr9 rfl ?_; clear hS; intro a hS
    refine r_call (l := [.tmp 64, .tmp 67, .const (.int .i64 2)]) hS rfl rfl Fc.fn14 rfl ?_
    refine Calls.mono ((text_some bw bx7 cx7 kx7 (U ++ prsB ptl ++ beB prm.length 2 ++ prm ++ beB 3 1) (strOf tck) 2 (by show tck.length ≤ _; omega) (by decide) (by decide) (by first | omega | (simp only [List.length_append, List.length_cons, List.length_nil, beB_len]; omega)) _ (hH.get (b := bw) (by repeat (first | exact In.here | refine In.there ?_))) (hH.get (b := bx7) (by repeat (first | exact In.here | refine In.there ?_))) hBx7 hnx7).mono (fun e w1 hP => hP)) ?_
    rintro e w1 hP
    obtain ⟨bx8, cx8, kx8, rfl, hrx8, hpx8, hkx8, hBx8, hmx8⟩ := hP
    have hBx8 : BB cx8 kx8 (U ++ prsB ptl ++ beB prm.length 2 ++ prm ++ beB 3 1 ++ beB tck.length 2 ++ tck) := hBx8
    have hpx8 : w1.heap[bw]? = some (.cells [Value.slice (some ⟨bx8, 0, none⟩) ((U ++ prsB ptl ++ beB prm.length 2 ++ prm ++ beB 3 1 ++ beB tck.length 2 ++ tck)).length cx8].toArray 42 (0, 0)) := hpx8
    have hnx8 : bx8 ≠ bw := fun e => by have h9 := lt_of_block (hH.get (b := bw) (by repeat (first | exact .here | apply In.there | apply Put.there | apply Del.there))); omega
    have hwx8 := Nat.le_trans hH.mod.size hrx8
    replace hH := hH.modPutN hmx8 hpx8 (by repeat (first | exact .here | apply In.there | apply Put.there | apply Del.there)) (.inl rfl) hrx8 hkx8
    refine ⟨_, rfl, hH.kp0, ?_⟩
    clear hS; intro a hS
    refine Sq.nil ?_
    refine then_n ?_
    refine reg_plain w0 (fun x => x = bw) ?_
    refine r_move hS hH.kp0 rfl rfl ?_; clear hS; intro a hS
    refine r_fieldAddr hS hH.kp0 rfl Fc.fo27_7 rfl ?_; clear hS; intro a hS
    refine r_load_ag hS hH (by repeat (first | exact Sub.nil | refine Sub.cons ?_ ?_ | exact In.here | refine In.there ?_)) rfl (by repeat (first | exact In.here | refine In.there ?_)) Fc.ag23 (of_decide_eq_true rfl) rfl ?_; clear hS; intro a hS
    refine r_call (l := [.tmp 69, .tmp 71]) hS rfl rfl Fc.fn19 rfl ?_
    refine Calls.mono ((handle_some bw bx8 cx8 kx8 (U ++ prsB ptl ++ beB prm.length 2 ++ prm ++ beB 3 1 ++ beB tck.length 2 ++ tck) [n0, n1, n2, n3, n4, n5, n6, n7, n8, n9, na, nb, nc, nd, ne, nf] rfl (by first | omega | (simp only [List.length_append, List.length_cons, List.length_nil, beB_len]; omega)) _ (hH.get (b := bw) (by repeat (first | exact In.here | refine In.there ?_))) (hH.get (b := bx8) (by repeat (first | exact In.here | refine In.there ?_))) hBx8 hnx8).mono (fun e w1 hP => hP)) ?_
    rintro e w1 hP
    obtain ⟨bx9, cx9, kx9, rfl, hrx9, hpx9, hkx9, hBx9, hmx9⟩ := hP
    have hBx9 : BB cx9 kx9 (U ++ prsB ptl ++ beB prm.length 2 ++ prm ++ beB 3 1 ++ beB tck.length 2 ++ tck ++ [n0, n1, n2, n3, n4, n5, n6, n7, n8, n9, na, nb, nc, nd, ne, nf]) := hBx9
    have hpx9 : w1.heap[bw]? = some (.cells [Value.slice (some ⟨bx9, 0, none⟩) ((U ++ prsB ptl ++ beB prm.length 2 ++ prm ++ beB 3 1 ++ beB tck.length 2 ++ tck ++ [n0, n1, n2, n3, n4, n5, n6, n7, n8, n9, na, nb, nc, nd, ne, nf])).length cx9].toArray 42 (0, 0)) := hpx9
    have hnx9 : bx9 ≠ bw := fun e => by rcases hrx9 with h | h; exact hnx8 (h.symm.trans e); have h9 := lt_of_block (hH.get (b := bw) (by repeat (first | exact .here | apply In.there | apply Put.there | apply Del.there))); omega
    have hwx9 : w0.heap.size ≤ bx9 := by rcases hrx9 with h | h; rw [h]; exact hwx8; exact Nat.le_trans hH.mod.size h
    replace hH := hH.modPut2 hmx9 (by repeat (first | exact .here | apply In.there | apply Put.there | apply Del.there)) (by repeat (first | exact .here | apply In.there | apply Put.there | apply Del.there)) hpx9 (.inl rfl) (.inr hwx8) hrx9 hkx9
    refine ⟨_, rfl, hH.kp0, ?_⟩
    clear hS; intro a hS
    refine Sq.nil ?_
    refine then_n ?_
    refine wp_exit ?_
    refine blk_e rfl ?_
    refine then_e ?_
    refine blk_e rfl ?_
    refine then_e ?_
    refine blk_e rfl ?_
    refine then_e ?_
    refine blk_e rfl ?_
    refine then_e ?_
    refine blk_e rfl ?_
    refine then_e ?_
    refine blk_hit ?_
    have hfin : U ++ prsB ptl ++ beB prm.length 2 ++ prm ++ beB 3 1 ++ beB tck.length 2 ++ tck ++ [n0, n1, n2, n3, n4, n5, n6, n7, n8, n9, na, nb, nc, nd, ne, nf] = bodyB 1 [r0, r1, r2, r3, r4, r5, r6, r7, r8, r9, ra, rb, rc, rd, re, rf] [s0, s1, s2, s3, s4, s5, s6, s7, s8, s9, sa, sb, sc, sd, se, sf] name ptl prm tck [n0, n1, n2, n3, n4, n5, n6, n7, n8, n9, na, nb, nc, nd, ne, nf] true ag [m0, m1, m2, m3, m4, m5, m6, m7, m8, m9, ma, mb, mc, md, me, mf] li := by rw [hU]; unfold bodyB; rw [if_pos rfl]; simp [beB1, List.append_assoc, show 0 < tck.length from htk1]
    rw [hfin] at hBx9 hH
    exact leave (.inr rfl) hS rfl Res.nil ⟨bx9, cx9, kx9, rfl, hwx9, hH.get (b := bw) (by repeat (first | exact In.here | refine In.there ?_)), hH.get (b := bx9) (by repeat (first | exact In.here | refine In.there ?_)), hBx9, hH.mod⟩

end Go.Proofs.Ytcenionnedgadaa

namespace Go.Proofs.Ytcenionnedgadaa
open Go.Sym

theorem Fc.bsl60_1 : bslB Try.prog 60 1 = some (4, 1, [.bool false]) := by kernel_rfl
theorem Fc.fo27_10 : foff Try.prog 27 10 = some 55 := by kernel_rfl
theorem Fc.fo27_9 : foff Try.prog 27 9 = some 54 := by kernel_rfl
set_option maxRecDepth 100000 in
set_option maxHeartbeats 2000000 in
theorem body_2f (q1 q2 q3 : Option Addr) (c1 c2 c3 : Nat) (rnd shr bnd mrk : List UInt8) (name : ByteArray) (ptl : List ByteArray) (prm tck : List UInt8) (ea ag : Bool) (li : Int) (hrnd : rnd.length = 16) (hshr : shr.length = 16) (hbnd : bnd.length = 16) (hmrk : mrk.length = 16) (bw : Nat) (hag : ag = false) (w0 : World) (h1 : w0.heap[bw]? = some (.cells [Value.slice none 0 0].toArray 42 (0, 0))) (hpt : ∀ w', Mod (fun x => x = bw) w0 w' → SsA w' q1 c1 ptl) (hbP : BsF (fun x => x = bw) w0 (.slice q2 prm.length c2) prm) (hbT : BsF (fun x => x = bw) w0 (.slice q3 tck.length c3) tck) : Calls Try.prog 12 #[.pointer (some ⟨bw, 0, none⟩), .agg ([.int .i64 2] ++ hcells rnd ++ hcells shr ++ [.string name, .slice q1 ptl.length c1, .slice q2 prm.length c2, .slice q3 tck.length c3] ++ hcells bnd ++ [.bool ea, .bool ag] ++ hcells mrk ++ [.int .i64 li] : List Value).toArray] w0 fun e w' => ∃ (b' c' : Nat) (k' : List Value), e = .returned (.tuple #[]) ∧ w0.heap.size ≤ b' ∧ w'.heap[bw]? = some (.cells [Value.slice (some ⟨b', 0, none⟩) (bodyB 2 rnd shr name ptl prm tck bnd ea ag mrk li).length c'].toArray 42 (0, 0)) ∧ w'.heap[b']? = some (.cells k'.toArray 5 (0, 0)) ∧ BB c' k' (bodyB 2 rnd shr name ptl prm tck bnd ea ag mrk li) ∧ Mod (fun x => x = bw) w0 w' := by
  refine enter Try.func12 rfl rfl rfl ?_
  intro a hS
  have hH := Hp.start w0 (fun x => x = bw)
  subst hag
  obtain ⟨r0, r1, r2, r3, r4, r5, r6, r7, r8, r9, ra, rb, rc, rd, re, rf, rfl⟩ := len16 hrnd
  obtain ⟨s0, s1, s2, s3, s4, s5, s6, s7, s8, s9, sa, sb, sc, sd, se, sf, rfl⟩ := len16 hshr
  obtain ⟨n0, n1, n2, n3, n4, n5, n6, n7, n8, n9, na, nb, nc, nd, ne, nf, rfl⟩ := len16 hbnd
  obtain ⟨m0, m1, m2, m3, m4, m5, m6, m7, m8, m9, ma, mb, mc, md, me, mf, rfl⟩ := len16 hmrk
  have hnl : name.data.toList.length = name.size := by rw [Array.length_toList]; rfl
  replace hH := hH.know h1 (fun p hp => by simp at hp)
  refine c_seq ?_
  refine reg_plain w0 (fun x => x = bw) ?_
  refine r_box hS hH (by repeat (first | exact Sub.nil | refine Sub.cons ?_ ?_ | exact In.here | refine In.there ?_)) rfl rfl rfl ?_
  clear hS hH; intro a w b3 hb3 hwb3 hS hH
  refine Sq.nil ?_
  refine then_n ?_
  refine c_seq ?_
  refine reg_plain w0 (fun x => x = bw) ?_
  refine r_fieldAddr hS hH.kp0 rfl Fc.fo27_0 rfl ?_; clear hS; intro a hS
  refine r_load_sc hS hH (by repeat (first | exact Sub.nil | refine Sub.cons ?_ ?_ | exact In.here | refine In.there ?_)) rfl (by repeat (first | exact In.here | refine In.there ?_)) Fc.sc3 (by rfl) rfl ?_; clear hS; intro a hS
  refine Sq.nil ?_
  refine then_n ?_
  refine wp_block ?_
  refine c_seq ?_
  refine wp_block ?_
  refine c_seq ?_
  refine wp_block ?_
  refine c_seq ?_
  refine wp_block ?_
  refine c_seq ?_
  refine wp_block ?_
  refine c_seq ?_
  refine wp_block ?_
  refine c_seq ?_
  refine wp_block ?_
  refine c_seq ?_
  refine c_seq ?_
  refine c_seq ?_
  refine reg_plain w0 (fun x => x = bw) ?_
  refine r_eql hS hH.kp0 rfl rfl rfl ?_; clear hS; intro a hS
  refine r_assign hS hH.kp0 rfl rfl ?_; clear hS; intro a hS
  refine Sq.nil ?_
  refine then_n ?_
  refine c_condF hS rfl rfl ?_
  refine wp_skip ?_
  refine then_n ?_
  refine c_seq ?_
  refine c_seq ?_
  refine reg_plain w0 (fun x => x = bw) ?_
  refine r_eql hS hH.kp0 rfl rfl rfl ?_; clear hS; intro a hS
  refine r_assign hS hH.kp0 rfl rfl ?_; clear hS; intro a hS
  refine Sq.nil ?_
  refine then_n ?_
  refine c_condT hS rfl rfl ?_
  refine wp_exit ?_
  refine then_e ?_
  refine then_e ?_
  refine blk_e rfl ?_
  refine then_e ?_
  refine blk_hit ?_
  refine then_n ?_
  refine c_seq ?_
  refine c_seq ?_
  refine reg_plain w0 (fun x => x = bw) ?_
  refine r_move hS hH.kp0 rfl rfl ?_; clear hS; intro a hS
  refine r_fieldAddr hS hH.kp0 rfl Fc.fo27_1 rfl ?_; clear hS; intro a hS
  refine r_load_ag hS hH (by repeat (first | exact Sub.nil | refine Sub.cons ?_ ?_ | exact In.here | refine In.there ?_)) rfl (by repeat (first | exact In.here | refine In.there ?_)) Fc.ag23 (of_decide_eq_true rfl) rfl ?_; clear hS; intro a hS
  refine r_call (l := [.tmp 73, .tmp 75]) hS rfl rfl Fc.fn19 rfl ?_
  refine Calls.mono ((handle_nil bw [r0, r1, r2, r3, r4, r5, r6, r7, r8, r9, ra, rb, rc, rd, re, rf] rfl _ (hH.get (b := bw) (by repeat (first | exact In.here | refine In.there ?_)))).mono (fun e w1 hP => hP)) ?_
  rintro e w1 hP
  obtain ⟨bx1, cx1, kx1, rfl, hrx1, hpx1, hkx1, hBx1, hmx1⟩ := hP
  have hBx1 : BB cx1 kx1 ([r0, r1, r2, r3, r4, r5, r6, r7, r8, r9, ra, rb, rc, rd, re, rf]) := hBx1
  have hpx1 : w1.heap[bw]? = some (.cells [Value.slice (some ⟨bx1, 0, none⟩) (([r0, r1, r2, r3, r4, r5, r6, r7, r8, r9, ra, rb, rc, rd, re, rf])).length cx1].toArray 42 (0, 0)) := hpx1
  have hnx1 : bx1 ≠ bw := fun e => by have h9 := lt_of_block (hH.get (b := bw) (by repeat (first | exact .here | apply In.there | apply Put.there | apply Del.there))); omega
  have hwx1 := Nat.le_trans hH.mod.size hrx1
  replace hH := hH.modPutN hmx1 hpx1 (by repeat (first | exact .here | apply In.there | apply Put.there | apply Del.there)) (.inl rfl) hrx1 hkx1
  refine ⟨_, rfl, hH.kp0, ?_⟩
  clear hS; intro a hS
  refine Sq.nil ?_
  refine then_n ?_
  refine c_seq ?_
  refine reg_plain w0 (fun x => x = bw) ?_
  refine r_move hS hH.kp0 rfl rfl ?_; clear hS; intro a hS
  refine r_fieldAddr hS hH.kp0 rfl Fc.fo27_2 rfl ?_; clear hS; intro a hS
  refine r_load_ag hS hH (by repeat (first | exact Sub.nil | refine Sub.cons ?_ ?_ | exact In.here | refine In.there ?_)) rfl (by repeat (first | exact In.here | refine In.there ?_)) Fc.ag23 (of_decide_eq_true rfl) rfl ?_; clear hS; intro a hS
  refine r_call (l := [.tmp 77, .tmp 79]) hS rfl rfl Fc.fn19 rfl ?_
  refine Calls.mono ((handle_some bw bx1 cx1 kx1 ([r0, r1, r2, r3, r4, r5, r6, r7, r8, r9, ra, rb, rc, rd, re, rf]) [s0, s1, s2, s3, s4, s5, s6, s7, s8, s9, sa, sb, sc, sd, se, sf] rfl (by first | omega | (simp only [List.length_append, List.length_cons, List.length_nil, beB_len]; omega)) _ (hH.get (b := bw) (by repeat (first | exact In.here | refine In.there ?_))) (hH.get (b := bx1) (by repeat (first | exact In.here | refine In.there ?_))) hBx1 hnx1).mono (fun e w1 hP => hP)) ?_
  rintro e w1 hP
  obtain ⟨bx2, cx2, kx2, rfl, hrx2, hpx2, hkx2, hBx2, hmx2⟩ := hP
  have hBx2 : BB cx2 kx2 ([r0, r1, r2, r3, r4, r5, r6, r7, r8, r9, ra, rb, rc, rd, re, rf] ++ [s0, s1, s2, s3, s4, s5, s6, s7, s8, s9, sa, sb, sc, sd, se, sf]) := hBx2
  have hpx2 : w1.heap[bw]? = some (.cells [Value.slice (some ⟨bx2, 0, none⟩) (([r0, r1, r2, r3, r4, r5, r6, r7, r8, r9, ra, rb, rc, rd, re, rf] ++ [s0, s1, s2, s3, s4, s5, s6, s7, s8, s9, sa, sb, sc, sd, se, sf])).length cx2].toArray 42 (0, 0)) := hpx2
  have hnx2 : bx2 ≠ bw := fun e => by rcases hrx2 with h | h; exact hnx1 (h.symm.trans e); have h9 := lt_of_block (hH.get (b := bw) (by repeat (first | exact .here | apply In.there | apply Put.there | apply Del.there))); omega
  have hwx2 : w0.heap.size ≤ bx2 := by rcases hrx2 with h | h; rw [h]; exact hwx1; exact Nat.le_trans hH.mod.size h
  replace hH := hH.modPut2 hmx2 (by repeat (first | exact .here | apply In.there | apply Put.there | apply Del.there)) (by repeat (first | exact .here | apply In.there | apply Put.there | apply Del.there)) hpx2 (.inl rfl) (.inr hwx1) hrx2 hkx2
  refine ⟨_, rfl, hH.kp0, ?_⟩
  clear hS; intro a hS
  refine Sq.nil ?_
  refine then_n ?_
  refine reg_plain w0 (fun x => x = bw) ?_
  refine r_move hS hH.kp0 rfl rfl ?_; clear hS; intro a hS
  refine r_fieldAddr hS hH.kp0 rfl Fc.fo27_9 rfl ?_; clear hS; intro a hS
  refine r_load_sc hS hH (by repeat (first | exact Sub.nil | refine Sub.cons ?_ ?_ | exact In.here | refine In.there ?_)) rfl (by repeat (first | exact In.here | refine In.there ?_)) Fc.sc4 (by rfl) rfl ?_; clear hS; intro a hS
  refine r_buildSlice (parts := [(0, .tmp 83)]) hS hH (by repeat (first | exact Sub.nil | refine Sub.cons ?_ ?_ | exact In.here | refine In.there ?_)) rfl Fc.bsl60_1 (by rfl) rfl ?_
  clear hS hH; intro a w b84 hb84 hwb84 hS hH
  refine r_call (l := [.tmp 81, .tmp 84]) hS rfl rfl Fc.fn20 rfl ?_
  refine Calls.mono ((flags_f bw bx2 cx2 b84 kx2 ([r0, r1, r2, r3, r4, r5, r6, r7, r8, r9, ra, rb, rc, rd, re, rf] ++ [s0, s1, s2, s3, s4, s5, s6, s7, s8, s9, sa, sb, sc, sd, se, sf]) (by first | omega | (simp only [List.length_append, List.length_cons, List.length_nil, beB_len]; omega)) _ (hH.get (b := bw) (by repeat (first | exact In.here | refine In.there ?_))) (hH.get (b := bx2) (by repeat (first | exact In.here | refine In.there ?_))) hBx2 hnx2 (hH.get (b := b84) (by repeat (first | exact In.here | refine In.there ?_))) (hH.ne (x := b84) (y := bw) (.cons (by repeat (first | exact .here | apply In.there | apply Put.there | apply Del.there)) (.cons (by repeat (first | exact .here | apply In.there | apply Put.there | apply Del.there)) .nil)) (by intro h; injection h with _ h2 _; revert h2; decide)) (hH.ne (x := b84) (y := bx2) (.cons (by repeat (first | exact .here | apply In.there | apply Put.there | apply Del.there)) (.cons (by repeat (first | exact .here | apply In.there | apply Put.there | apply Del.there)) .nil)) (by intro h; injection h with _ h2 _; revert h2; decide))).mono (fun e w1 hP => hP)) ?_
  rintro e w1 hP
  obtain ⟨bx3, cx3, kx3, rfl, hrx3, hpx3, hkx3, hBx3, hmx3⟩ := hP
  have hBx3 : BB cx3 kx3 ([r0, r1, r2, r3, r4, r5, r6, r7, r8, r9, ra, rb, rc, rd, re, rf] ++ [s0, s1, s2, s3, s4, s5, s6, s7, s8, s9, sa, sb, sc, sd, se, sf] ++ beB 0 1) := hBx3
  have hpx3 : w1.heap[bw]? = some (.cells [Value.slice (some ⟨bx3, 0, none⟩) (([r0, r1, r2, r3, r4, r5, r6, r7, r8, r9, ra, rb, rc, rd, re, rf] ++ [s0, s1, s2, s3, s4, s5, s6, s7, s8, s9, sa, sb, sc, sd, se, sf] ++ beB 0 1)).length cx3].toArray 42 (0, 0)) := hpx3
  have hnx3 : bx3 ≠ bw := fun e => by have h9 := lt_of_block (hH.get (b := bw) (by repeat (first | exact .here | apply In.there | apply Put.there | apply Del.there))); omega
  have hwx3 := Nat.le_trans hH.mod.size hrx3
  replace hH := hH.modPutN hmx3 hpx3 (by repeat (first | exact .here | apply In.there | apply Put.there | apply Del.there)) (.inl rfl) hrx3 hkx3
  refine ⟨_, rfl, hH.kp0, ?_⟩
  clear hS; intro a hS
  refine Sq.nil ?_
  refine then_n ?_
  refine wp_exit ?_
  refine blk_e rfl ?_
  refine then_e ?_
  refine blk_e rfl ?_
  refine then_e ?_
  refine blk_e rfl ?_
  refine then_e ?_
  refine blk_e rfl ?_
  refine then_e ?_
  refine blk_hit ?_
  have hfin : [r0, r1, r2, r3, r4, r5, r6, r7, r8, r9, ra, rb, rc, rd, re, rf] ++ [s0, s1, s2, s3, s4, s5, s6, s7, s8, s9, sa, sb, sc, sd, se, sf] ++ beB 0 1 = bodyB 2 [r0, r1, r2, r3, r4, r5, r6, r7, r8, r9, ra, rb, rc, rd, re, rf] [s0, s1, s2, s3, s4, s5, s6, s7, s8, s9, sa, sb, sc, sd, se, sf] name ptl prm tck [n0, n1, n2, n3, n4, n5, n6, n7, n8, n9, na, nb, nc, nd, ne, nf] ea false [m0, m1, m2, m3, m4, m5, m6, m7, m8, m9, ma, mb, mc, md, me, mf] li := by unfold bodyB; rw [if_neg (by decide)]; rw [if_pos rfl]; simp [beB1]
  rw [hfin] at hBx3 hH
  exact leave (.inr rfl) hS rfl Res.nil ⟨bx3, cx3, kx3, rfl, hwx3, hH.get (b := bw) (by repeat (first | exact In.here | refine In.there ?_)), hH.get (b := bx3) (by repeat (first | exact In.here | refine In.there ?_)), hBx3, hH.mod⟩

set_option maxRecDepth 100000 in
set_option maxHeartbeats 2000000 in
theorem body_2t (q1 q2 q3 : Option Addr) (c1 c2 c3 : Nat) (rnd shr bnd mrk : List UInt8) (name : ByteArray) (ptl : List ByteArray) (prm tck : List UInt8) (ea ag : Bool) (li : Int) (hrnd : rnd.length = 16) (hshr : shr.length = 16) (hbnd : bnd.length = 16) (hmrk : mrk.length = 16) (bw : Nat) (hag : ag = true) (w0 : World) (h1 : w0.heap[bw]? = some (.cells [Value.slice none 0 0].toArray 42 (0, 0))) (hpt : ∀ w', Mod (fun x => x = bw) w0 w' → SsA w' q1 c1 ptl) (hbP : BsF (fun x => x = bw) w0 (.slice q2 prm.length c2) prm) (hbT : BsF (fun x => x = bw) w0 (.slice q3 tck.length c3) tck) : Calls Try.prog 12 #[.pointer (some ⟨bw, 0, none⟩), .agg ([.int .i64 2] ++ hcells rnd ++ hcells shr ++ [.string name, .slice q1 ptl.length c1, .slice q2 prm.length c2, .slice q3 tck.length c3] ++ hcells bnd ++ [.bool ea, .bool ag] ++ hcells mrk ++ [.int .i64 li] : List Value).toArray] w0 fun e w' => ∃ (b' c' : Nat) (k' : List Value), e = .returned (.tuple #[]) ∧ w0.heap.size ≤ b' ∧ w'.heap[bw]? = some (.cells [Value.slice (some ⟨b', 0, none⟩) (bodyB 2 rnd shr name ptl prm tck bnd ea ag mrk li).length c'].toArray 42 (0, 0)) ∧ w'.heap[b']? = some (.cells k'.toArray 5 (0, 0)) ∧ BB c' k' (bodyB 2 rnd shr name ptl prm tck bnd ea ag mrk li) ∧ Mod (fun x => x = bw) w0 w' := by
  refine enter Try.func12 rfl rfl rfl ?_
  intro a hS
  have hH := Hp.start w0 (fun x => x = bw)
  subst hag
  obtain ⟨r0, r1, r2, r3, r4, r5, r6, r7, r8, r9, ra, rb, rc, rd, re, rf, rfl⟩ := len16 hrnd
  obtain ⟨s0, s1, s2, s3, s4, s5, s6, s7, s8, s9, sa, sb, sc, sd, se, sf, rfl⟩ := len16 hshr
  obtain ⟨n0, n1, n2, n3, n4, n5, n6, n7, n8, n9, na, nb, nc, nd, ne, nf, rfl⟩ := len16 hbnd
  obtain ⟨m0, m1, m2, m3, m4, m5, m6, m7, m8, m9, ma, mb, mc, md, me, mf, rfl⟩ := len16 hmrk
  have hnl : name.data.toList.length = name.size := by rw [Array.length_toList]; rfl
  replace hH := hH.know h1 (fun p hp => by simp at hp)
  refine c_seq ?_
  refine reg_plain w0 (fun x => x = bw) ?_
  refine r_box hS hH (by repeat (first | exact Sub.nil | refine Sub.cons ?_ ?_ | exact In.here | refine In.there ?_)) rfl rfl rfl ?_
  clear hS hH; intro a w b3 hb3 hwb3 hS hH
  refine Sq.nil ?_
  refine then_n ?_
  refine c_seq ?_
  refine reg_plain w0 (fun x => x = bw) ?_
  refine r_fieldAddr hS hH.kp0 rfl Fc.fo27_0 rfl ?_; clear hS; intro a hS
  refine r_load_sc hS hH (by repeat (first | exact Sub.nil | refine Sub.cons ?_ ?_ | exact In.here | refine In.there ?_)) rfl (by repeat (first | exact In.here | refine In.there ?_)) Fc.sc3 (by rfl) rfl ?_; clear hS; intro a hS
  refine Sq.nil ?_
  refine then_n ?_
  refine wp_block ?_
  refine c_seq ?_
  refine wp_block ?_
  refine c_seq ?_
  refine wp_block ?_
  refine c_seq ?_
  refine wp_block ?_
  refine c_seq ?_
  refine wp_block ?_
  refine c_seq ?_
  refine wp_block ?_
  refine c_seq ?_
  refine wp_block ?_
  refine c_seq ?_
  refine c_seq ?_
  refine c_seq ?_
  refine reg_plain w0 (fun x => x = bw) ?_
  refine r_eql hS hH.kp0 rfl rfl rfl ?_; clear hS; intro a hS
  refine r_assign hS hH.kp0 rfl rfl ?_; clear hS; intro a hS
  refine Sq.nil ?_
  refine then_n ?_
  refine c_condF hS rfl rfl ?_
  refine wp_skip ?_
  refine then_n ?_
  refine c_seq ?_
  refine c_seq ?_
  refine reg_plain w0 (fun x => x = bw) ?_
  refine r_eql hS hH.kp0 rfl rfl rfl ?_; clear hS; intro a hS
  refine r_assign hS hH.kp0 rfl rfl ?_; clear hS; intro a hS
  refine Sq.nil ?_
  refine then_n ?_
  refine c_condT hS rfl rfl ?_
  refine wp_exit ?_
  refine then_e ?_
  refine then_e ?_
  refine blk_e rfl ?_
  refine then_e ?_
  refine blk_hit ?_
  refine then_n ?_
  refine c_seq ?_
  refine c_seq ?_
  refine reg_plain w0 (fun x => x = bw) ?_
  refine r_move hS hH.kp0 rfl rfl ?_; clear hS; intro a hS
  refine r_fieldAddr hS hH.kp0 rfl Fc.fo27_1 rfl ?_; clear hS; intro a hS
  refine r_load_ag hS hH (by repeat (first | exact Sub.nil | refine Sub.cons ?_ ?_ | exact In.here | refine In.there ?_)) rfl (by repeat (first | exact In.here | refine In.there ?_)) Fc.ag23 (of_decide_eq_true rfl) rfl ?_; clear hS; intro a hS
  refine r_call (l := [.tmp 73, .tmp 75]) hS rfl rfl Fc.fn19 rfl ?_
  refine Calls.mono ((handle_nil bw [r0, r1, r2, r3, r4, r5, r6, r7, r8, r9, ra, rb, rc, rd, re, rf] rfl _ (hH.get (b := bw) (by repeat (first | exact In.here | refine In.there ?_)))).mono (fun e w1 hP => hP)) ?_
  rintro e w1 hP
  obtain ⟨bx1, cx1, kx1, rfl, hrx1, hpx1, hkx1, hBx1, hmx1⟩ := hP
  have hBx1 : BB cx1 kx1 ([r0, r1, r2, r3, r4, r5, r6, r7, r8, r9, ra, rb, rc, rd, re, rf]) := hBx1
  have hpx1 : w1.heap[bw]? = some (.cells [Value.slice (some ⟨bx1, 0, none⟩) (([r0, r1, r2, r3, r4, r5, r6, r7, r8, r9, ra, rb, rc, rd, re, rf])).length cx1].toArray 42 (0, 0)) := hpx1
  have hnx1 : bx1 ≠ bw := fun e => by have h9 := lt_of_block (hH.get (b := bw) (by repeat (first | exact .here | apply In.there | apply Put.there | apply Del.there))); omega
  have hwx1 := Nat.le_trans hH.mod.size hrx1
  replace hH := hH.modPutN hmx1 hpx1 (by repeat (first | exact .here | apply In.there | apply Put.there | apply Del.there)) (.inl rfl) hrx1 hkx1
  refine ⟨_, rfl, hH.kp0, ?_⟩
  clear hS; intro a hS
  refine Sq.nil ?_
  refine then_n ?_
  refine c_seq ?_
  refine reg_plain w0 (fun x => x = bw) ?_
  refine r_move hS hH.kp0 rfl rfl ?_; clear hS; intro a hS
  refine r_fieldAddr hS hH.kp0 rfl Fc.fo27_2 rfl ?_; clear hS; intro a hS
  refine r_load_ag hS hH (by repeat (first | exact Sub.nil | refine Sub.cons ?_ ?_ | exact In.here | refine In.there ?_)) rfl (by repeat (first | exact In.here | refine In.there ?_)) Fc.ag23 (of_decide_eq_true rfl) rfl ?_; clear hS; intro a hS
  refine r_call (l := [.tmp 77, .tmp 79]) hS rfl rfl Fc.fn19 rfl ?_
  refine Calls.mono ((handle_some bw bx1 cx1 kx1 ([r0, r1, r2, r3, r4, r5, r6, r7, r8, r9, ra, rb, rc, rd, re, rf]) [s0, s1, s2, s3, s4, s5, s6, s7, s8, s9, sa, sb, sc, sd, se, sf] rfl (by first | omega | (simp only [List.length_append, List.length_cons, List.length_nil, beB_len]; omega)) _ (hH.get (b := bw) (by repeat (first | exact In.here | refine In.there ?_))) (hH.get (b := bx1) (by repeat (first | exact In.here | refine In.there ?_))) hBx1 hnx1).mono (fun e w1 hP => hP)) ?_
  rintro e w1 hP
  obtain ⟨bx2, cx2, kx2, rfl, hrx2, hpx2, hkx2, hBx2, hmx2⟩ := hP
  have hBx2 : BB cx2 kx2 ([r0, r1, r2, r3, r4, r5, r6, r7, r8, r9, ra, rb, rc, rd, re, rf] ++ [s0, s1, s2, s3, s4, s5, s6, s7, s8, s9, sa, sb, sc, sd, se, sf]) := hBx2
  have hpx2 : w1.heap[bw]? = some (.cells [Value.slice (some ⟨bx2, 0, none⟩) (([r0, r1, r2, r3, r4, r5, r6, r7, r8, r9, ra, rb, rc, rd, re, rf] ++ [s0, s1, s2, s3, s4, s5, s6, s7, s8, s9, sa, sb, sc, sd, se, sf])).length cx2].toArray 42 (0, 0)) := hpx2
  have hnx2 : bx2 ≠ bw := fun e => by rcases hrx2 with h | h; exact hnx1 (h.symm.trans e); have h9 := lt_of_block (hH.get (b := bw) (by repeat (first | exact .here | apply In.there | apply Put.there | apply Del.there))); omega
  have hwx2 : w0.heap.size ≤ bx2 := by rcases hrx2 with h | h; rw [h]; exact hwx1; exact Nat.le_trans hH.mod.size h
  replace hH := hH.modPut2 hmx2 (by repeat (first | exact .here | apply In.there | apply Put.there | apply Del.there)) (by repeat (first | exact .here | apply In.there | apply Put.there | apply Del.there)) hpx2 (.inl rfl) (.inr hwx1) hrx2 hkx2
  refine ⟨_, rfl, hH.kp0, ?_⟩
  clear hS; intro a hS
  refine Sq.nil ?_
  refine then_n ?_
  refine reg_plain w0 (fun x => x = bw) ?_
  refine r_move hS hH.kp0 rfl rfl ?_; clear hS; intro a hS
  refine r_fieldAddr hS hH.kp0 rfl Fc.fo27_9 rfl ?_; clear hS; intro a hS
  refine r_load_sc hS hH (by repeat (first | exact Sub.nil | refine Sub.cons ?_ ?_ | exact In.here | refine In.there ?_)) rfl (by repeat (first | exact In.here | refine In.there ?_)) Fc.sc4 (by rfl) rfl ?_; clear hS; intro a hS
  refine r_buildSlice (parts := [(0, .tmp 83)]) hS hH (by repeat (first | exact Sub.nil | refine Sub.cons ?_ ?_ | exact In.here | refine In.there ?_)) rfl Fc.bsl60_1 (by rfl) rfl ?_
  clear hS hH; intro a w b84 hb84 hwb84 hS hH
  refine r_call (l := [.tmp 81, .tmp 84]) hS rfl rfl Fc.fn20 rfl ?_
  refine Calls.mono ((flags_t bw bx2 cx2 b84 kx2 ([r0, r1, r2, r3, r4, r5, r6, r7, r8, r9, ra, rb, rc, rd, re, rf] ++ [s0, s1, s2, s3, s4, s5, s6, s7, s8, s9, sa, sb, sc, sd, se, sf]) (by first | omega | (simp only [List.length_append, List.length_cons, List.length_nil, beB_len]; omega)) _ (hH.get (b := bw) (by repeat (first | exact In.here | refine In.there ?_))) (hH.get (b := bx2) (by repeat (first | exact In.here | refine In.there ?_))) hBx2 hnx2 (hH.get (b := b84) (by repeat (first | exact In.here | refine In.there ?_))) (hH.ne (x := b84) (y := bw) (.cons (by repeat (first | exact .here | apply In.there | apply Put.there | apply Del.there)) (.cons (by repeat (first | exact .here | apply In.there | apply Put.there | apply Del.there)) .nil)) (by intro h; injection h with _ h2 _; revert h2; decide)) (hH.ne (x := b84) (y := bx2) (.cons (by repeat (first | exact .here | apply In.there | apply Put.there | apply Del.there)) (.cons (by repeat (first | exact .here | apply In.there | apply Put.there | apply Del.there)) .nil)) (by intro h; injection h with _ h2 _; revert h2; decide))).mono (fun e w1 hP => hP)) ?_
  rintro e w1 hP
  obtain ⟨bx3, cx3, kx3, rfl, hrx3, hpx3, hkx3, hBx3, hmx3⟩ := hP
  have hBx3 : BB cx3 kx3 ([r0, r1, r2, r3, r4, r5, r6, r7, r8, r9, ra, rb, rc, rd, re, rf] ++ [s0, s1, s2, s3, s4, s5, s6, s7, s8, s9, sa, sb, sc, sd, se, sf] ++ beB 1 1) := hBx3
  have hpx3 : w1.heap[bw]? = some (.cells [Value.slice (some ⟨bx3, 0, none⟩) (([r0, r1, r2, r3, r4, r5, r6, r7, r8, r9, ra, rb, rc, rd, re, rf] ++ [s0, s1, s2, s3, s4, s5, s6, s7, s8, s9, sa, sb, sc, sd, se, sf] ++ beB 1 1)).length cx3].toArray 42 (0, 0)) := hpx3
  have hnx3 : bx3 ≠ bw := fun e => by have h9 := lt_of_block (hH.get (b := bw) (by repeat (first | exact .here | apply In.there | apply Put.there | apply Del.there))); omega
  have hwx3 := Nat.le_trans hH.mod.size hrx3
  replace hH := hH.modPutN hmx3 hpx3 (by repeat (first | exact .here | apply In.there | apply Put.there | apply Del.there)) (.inl rfl) hrx3 hkx3
  refine ⟨_, rfl, hH.kp0, ?_⟩
  clear hS; intro a hS
  refine Sq.nil ?_
  refine then_n ?_
  refine wp_exit ?_
  refine blk_e rfl ?_
  refine then_e ?_
  refine blk_e rfl ?_
  refine then_e ?_
  refine blk_e rfl ?_
  refine then_e ?_
  refine blk_e rfl ?_
  refine then_e ?_
  refine blk_hit ?_
  have hfin : [r0, r1, r2, r3, r4, r5, r6, r7, r8, r9, ra, rb, rc, rd, re, rf] ++ [s0, s1, s2, s3, s4, s5, s6, s7, s8, s9, sa, sb, sc, sd, se, sf] ++ beB 1 1 = bodyB 2 [r0, r1, r2, r3, r4, r5, r6, r7, r8, r9, ra, rb, rc, rd, re, rf] [s0, s1, s2, s3, s4, s5, s6, s7, s8, s9, sa, sb, sc, sd, se, sf] name ptl prm tck [n0, n1, n2, n3, n4, n5, n6, n7, n8, n9, na, nb, nc, nd, ne, nf] ea true [m0, m1, m2, m3, m4, m5, m6, m7, m8, m9, ma, mb, mc, md, me, mf] li := by unfold bodyB; rw [if_neg (by decide)]; rw [if_pos rfl]; simp [beB1]
  rw [hfin] at hBx3 hH
  exact leave (.inr rfl) hS rfl Res.nil ⟨bx3, cx3, kx3, rfl, hwx3, hH.get (b := bw) (by repeat (first | exact In.here | refine In.there ?_)), hH.get (b := bx3) (by repeat (first | exact In.here | refine In.there ?_)), hBx3, hH.mod⟩

set_option maxRecDepth 100000 in
set_option maxHeartbeats 2000000 in
theorem body_4f (q1 q2 q3 : Option Addr) (c1 c2 c3 : Nat) (rnd shr bnd mrk : List UInt8) (name : ByteArray) (ptl : List ByteArray) (prm tck : List UInt8) (ea ag : Bool) (li : Int) (hrnd : rnd.length = 16) (hshr : shr.length = 16) (hbnd : bnd.length = 16) (hmrk : mrk.length = 16) (bw : Nat) (hli : 0 ≤ li ∧ li ≤ 4294967295) (htk : tck.length ≤ 512) (hea : ea = false) (w0 : World) (h1 : w0.heap[bw]? = some (.cells [Value.slice none 0 0].toArray 42 (0, 0))) (hpt : ∀ w', Mod (fun x => x = bw) w0 w' → SsA w' q1 c1 ptl) (hbP : BsF (fun x => x = bw) w0 (.slice q2 prm.length c2) prm) (hbT : BsF (fun x => x = bw) w0 (.slice q3 tck.length c3) tck) : Calls Try.prog 12 #[.pointer (some ⟨bw, 0, none⟩), .agg ([.int .i64 4] ++ hcells rnd ++ hcells shr ++ [.string name, .slice q1 ptl.length c1, .slice q2 prm.length c2, .slice q3 tck.length c3] ++ hcells bnd ++ [.bool ea, .bool ag] ++ hcells mrk ++ [.int .i64 li] : List Value).toArray] w0 fun e w' => ∃ (b' c' : Nat) (k' : List Value), e = .returned (.tuple #[]) ∧ w0.heap.size ≤ b' ∧ w'.heap[bw]? = some (.cells [Value.slice (some ⟨b', 0, none⟩) (bodyB 4 rnd shr name ptl prm tck bnd ea ag mrk li).length c'].toArray 42 (0, 0)) ∧ w'.heap[b']? = some (.cells k'.toArray 5 (0, 0)) ∧ BB c' k' (bodyB 4 rnd shr name ptl prm tck bnd ea ag mrk li) ∧ Mod (fun x => x = bw) w0 w' := by
  refine enter Try.func12 rfl rfl rfl ?_
  intro a hS
  have hH := Hp.start w0 (fun x => x = bw)
  subst hea
  obtain ⟨hli0, hli1⟩ := hli
  obtain ⟨ln, rfl⟩ := Int.eq_ofNat_of_zero_le hli0
  obtain ⟨r0, r1, r2, r3, r4, r5, r6, r7, r8, r9, ra, rb, rc, rd, re, rf, rfl⟩ := len16 hrnd
  obtain ⟨s0, s1, s2, s3, s4, s5, s6, s7, s8, s9, sa, sb, sc, sd, se, sf, rfl⟩ := len16 hshr
  obtain ⟨n0, n1, n2, n3, n4, n5, n6, n7, n8, n9, na, nb, nc, nd, ne, nf, rfl⟩ := len16 hbnd
  obtain ⟨m0, m1, m2, m3, m4, m5, m6, m7, m8, m9, ma, mb, mc, md, me, mf, rfl⟩ := len16 hmrk
  have hnl : name.data.toList.length = name.size := by rw [Array.length_toList]; rfl
  replace hH := hH.know h1 (fun p hp => by simp at hp)
  refine c_seq ?_
  refine reg_plain w0 (fun x => x = bw) ?_
  refine r_box hS hH (by repeat (first | exact Sub.nil | refine Sub.cons ?_ ?_ | exact In.here | refine In.there ?_)) rfl rfl rfl ?_
  clear hS hH; intro a w b3 hb3 hwb3 hS hH
  refine Sq.nil ?_
  refine then_n ?_
  refine c_seq ?_
  refine reg_plain w0 (fun x => x = bw) ?_
  refine r_fieldAddr hS hH.kp0 rfl Fc.fo27_0 rfl ?_; clear hS; intro a hS
  refine r_load_sc hS hH (by repeat (first | exact Sub.nil | refine Sub.cons ?_ ?_ | exact In.here | refine In.there ?_)) rfl (by repeat (first | exact In.here | refine In.there ?_)) Fc.sc3 (by rfl) rfl ?_; clear hS; intro a hS
  refine Sq.nil ?_
  refine then_n ?_
  refine wp_block ?_
  refine c_seq ?_
  refine wp_block ?_
  refine c_seq ?_
  refine wp_block ?_
  refine c_seq ?_
  refine wp_block ?_
  refine c_seq ?_
  refine wp_block ?_
  refine c_seq ?_
  refine wp_block ?_
  refine c_seq ?_
  refine wp_block ?_
  refine c_seq ?_
  refine c_seq ?_
  refine c_seq ?_
  refine reg_plain w0 (fun x => x = bw) ?_
  refine r_eql hS hH.kp0 rfl rfl rfl ?_; clear hS; intro a hS
  refine r_assign hS hH.kp0 rfl rfl ?_; clear hS; intro a hS
  refine Sq.nil ?_
  refine then_n ?_
  refine c_condF hS rfl rfl ?_
  refine wp_skip ?_
  refine then_n ?_
  refine c_seq ?_
  refine c_seq ?_
  refine reg_plain w0 (fun x => x = bw) ?_
  refine r_eql hS hH.kp0 rfl rfl rfl ?_; clear hS; intro a hS
  refine r_assign hS hH.kp0 rfl rfl ?_; clear hS; intro a hS
  refine Sq.nil ?_
  refine then_n ?_
  refine c_condF hS rfl rfl ?_
  refine wp_skip ?_
  refine then_n ?_
  refine c_seq ?_
  refine c_seq ?_
  refine reg_plain w0 (fun x => x = bw) ?_
  refine r_eql hS hH.kp0 rfl rfl rfl ?_; clear hS; intro a hS
  refine r_assign hS hH.kp0 rfl rfl ?_; clear hS; intro a hS
  refine Sq.nil ?_
  refine then_n ?_
  refine c_condT hS rfl rfl ?_
  refine wp_exit ?_
  refine then_e ?_
  refine then_e ?_
  refine blk_e rfl ?_
  refine then_e ?_
  refine blk_e rfl ?_
  refine then_e ?_
  refine blk_hit ?_
  refine then_n ?_
  refine c_seq ?_
  refine c_seq ?_
  refine reg_plain w0 (fun x => x = bw) ?_
  refine r_move hS hH.kp0 rfl rfl ?_; clear hS; intro a hS
  refine r_fieldAddr hS hH.kp0 rfl Fc.fo27_11 rfl ?_; clear hS; intro a hS
  refine r_load_sc hS hH (by repeat (first | exact Sub.nil | refine Sub.cons ?_ ?_ | exact In.here | refine In.there ?_)) rfl (by repeat (first | exact In.here | refine In.there ?_)) Fc.sc3 (by rfl) rfl ?_; clear hS; intro a hS
  refine r_call (l := [.tmp 86, .tmp 88, .const (.int .i64 4)]) hS rfl rfl Fc.fn13 rfl ?_
  refine Calls.mono ((number_nil bw ln 4 (by omega) (by decide) (by decide) _ (hH.get (b := bw) (by repeat (first | exact In.here | refine In.there ?_)))).mono (fun e w1 hP => hP)) ?_
  rintro e w1 hP
  obtain ⟨bx1, cx1, kx1, rfl, hrx1, hpx1, hkx1, hBx1, hmx1⟩ := hP
  have hBx1 : BB cx1 kx1 (beB ln 4) := hBx1
  have hpx1 : w1.heap[bw]? = some (.cells [Value.slice (some ⟨bx1, 0, none⟩) ((beB ln 4)).length cx1].toArray 42 (0, 0)) := hpx1
  have hnx1 : bx1 ≠ bw := fun e => by have h9 := lt_of_block (hH.get (b := bw) (by repeat (first | exact .here | apply In.there | apply Put.there | apply Del.there))); omega
  have hwx1 := Nat.le_trans hH.mod.size hrx1
  replace hH := hH.modPutN hmx1 hpx1 (by repeat (first | exact .here | apply In.there | apply Put.there | apply Del.there)) (.inl rfl) hrx1 hkx1
  refine ⟨_, rfl, hH.kp0, ?_⟩
  clear hS; intro a hS
  refine Sq.nil ?_
  refine then_n ?_
  refine c_seq ?_
  refine reg_plain w0 (fun x => x = bw) ?_
  refine r_move hS hH.kp0 rfl rfl ?_; clear hS; intro a hS
  refine r_fieldAddr hS hH.kp0 rfl Fc.fo27_6 rfl ?_; clear hS; intro a hS
  refine r_load_sc hS hH (by repeat (first | exact Sub.nil | refine Sub.cons ?_ ?_ | exact In.here | refine In.there ?_)) rfl (by repeat (first | exact In.here | refine In.there ?_)) Fc.sc25 (by rfl) rfl ?_; clear hS; intro a hS
  refine r_bytesStr hS hH.kp0 rfl (hbT _ hH.mod) Fc.u8s25 Fc.isStr9 rfl ?_; clear hS; intro a hS
  refine r_call (l := [.tmp 90, .tmp 93, .const (.int .i64 2)]) hS rfl rfl Fc.fn14 rfl ?_
  refine Calls.mono ((text_some bw bx1 cx1 kx1 (beB ln 4) (strOf tck) 2 (by show tck.length ≤ _; omega) (by decide) (by decide) (by first | omega | (simp only [List.length_append, List.length_cons, List.length_nil, beB_len]; omega)) _ (hH.get (b := bw) (by repeat (first | exact In.here | refine In.there ?_))) (hH.get (b := bx1) (by repeat (first | exact In.here | refine In.there ?_))) hBx1 hnx1).mono (fun e w1 hP => hP)) ?_
  rintro e w1 hP
  obtain ⟨bx2, cx2, kx2, rfl, hrx2, hpx2, hkx2, hBx2, hmx2⟩ := hP
  have hBx2 : BB cx2 kx2 (beB ln 4 ++ beB tck.length 2 ++ tck) := hBx2
  have hpx2 : w1.heap[bw]? = some (.cells [Value.slice (some ⟨bx2, 0, none⟩) ((beB ln 4 ++ beB tck.length 2 ++ tck)).length cx2].toArray 42 (0, 0)) := hpx2
  have hnx2 : bx2 ≠ bw := fun e => by have h9 := lt_of_block (hH.get (b := bw) (by repeat (first | exact .here | apply In.there | apply Put.there | apply Del.there))); omega
  have hwx2 := Nat.le_trans hH.mod.size hrx2
  replace hH := hH.modPutN hmx2 hpx2 (by repeat (first | exact .here | apply In.there | apply Put.there | apply Del.there)) (.inl rfl) hrx2 hkx2
  refine ⟨_, rfl, hH.kp0, ?_⟩
  clear hS; intro a hS
  refine Sq.nil ?_
  refine then_n ?_
  refine reg_plain w0 (fun x => x = bw) ?_
  refine r_move hS hH.kp0 rfl rfl ?_; clear hS; intro a hS
  refine r_fieldAddr hS hH.kp0 rfl Fc.fo27_8 rfl ?_; clear hS; intro a hS
  refine r_load_sc hS hH (by repeat (first | exact Sub.nil | refine Sub.cons ?_ ?_ | exact In.here | refine In.there ?_)) rfl (by repeat (first | exact In.here | refine In.there ?_)) Fc.sc4 (by rfl) rfl ?_; clear hS; intro a hS
  refine r_buildSlice (parts := [(0, .tmp 97)]) hS hH (by repeat (first | exact Sub.nil | refine Sub.cons ?_ ?_ | exact In.here | refine In.there ?_)) rfl Fc.bsl60_1 (by rfl) rfl ?_
  clear hS hH; intro a w b98 hb98 hwb98 hS hH
  refine r_call (l := [.tmp 95, .tmp 98]) hS rfl rfl Fc.fn20 rfl ?_
  refine Calls.mono ((flags_f bw bx2 cx2 b98 kx2 (beB ln 4 ++ beB tck.length 2 ++ tck) (by first | omega | (simp only [List.length_append, List.length_cons, List.length_nil, beB_len]; omega)) _ (hH.get (b := bw) (by repeat (first | exact In.here | refine In.there ?_))) (hH.get (b := bx2) (by repeat (first | exact In.here | refine In.there ?_))) hBx2 hnx2 (hH.get (b := b98) (by repeat (first | exact In.here | refine In.there ?_))) (hH.ne (x := b98) (y := bw) (.cons (by repeat (first | exact .here | apply In.there | apply Put.there | apply Del.there)) (.cons (by repeat (first | exact .here | apply In.there | apply Put.there | apply Del.there)) .nil)) (by intro h; injection h with _ h2 _; revert h2; decide)) (hH.ne (x := b98) (y := bx2) (.cons (by repeat (first | exact .here | apply In.there | apply Put.there | apply Del.there)) (.cons (by repeat (first | exact .here | apply In.there | apply Put.there | apply Del.there)) .nil)) (by intro h; injection h with _ h2 _; revert h2; decide))).mono (fun e w1 hP => hP)) ?_
  rintro e w1 hP
  obtain ⟨bx3, cx3, kx3, rfl, hrx3, hpx3, hkx3, hBx3, hmx3⟩ := hP
  have hBx3 : BB cx3 kx3 (beB ln 4 ++ beB tck.length 2 ++ tck ++ beB 0 1) := hBx3
  have hpx3 : w1.heap[bw]? = some (.cells [Value.slice (some ⟨bx3, 0, none⟩) ((beB ln 4 ++ beB tck.length 2 ++ tck ++ beB 0 1)).length cx3].toArray 42 (0, 0)) := hpx3
  have hnx3 : bx3 ≠ bw := fun e => by have h9 := lt_of_block (hH.get (b := bw) (by repeat (first | exact .here | apply In.there | apply Put.there | apply Del.there))); omega
  have hwx3 := Nat.le_trans hH.mod.size hrx3
  replace hH := hH.modPutN hmx3 hpx3 (by repeat (first | exact .here | apply In.there | apply Put.there | apply Del.there)) (.inl rfl) hrx3 hkx3
  refine ⟨_, rfl, hH.kp0, ?_⟩
  clear hS; intro a hS
  refine Sq.nil ?_
  refine then_n ?_
  refine wp_exit ?_
  refine blk_e rfl ?_
  refine then_e ?_
  refine blk_e rfl ?_
  refine then_e ?_
  refine blk_e rfl ?_
  refine then_e ?_
  refine blk_hit ?_
  have hfin : beB ln 4 ++ beB tck.length 2 ++ tck ++ beB 0 1 = bodyB 4 [r0, r1, r2, r3, r4, r5, r6, r7, r8, r9, ra, rb, rc, rd, re, rf] [s0, s1, s2, s3, s4, s5, s6, s7, s8, s9, sa, sb, sc, sd, se, sf] name ptl prm tck [n0, n1, n2, n3, n4, n5, n6, n7, n8, n9, na, nb, nc, nd, ne, nf] false ag [m0, m1, m2, m3, m4, m5, m6, m7, m8, m9, ma, mb, mc, md, me, mf] (ln : Int) := by unfold bodyB; rw [if_neg (by decide)]; rw [if_neg (by decide)]; rw [if_pos rfl]; simp [beB1, List.append_assoc]
  rw [hfin] at hBx3 hH
  exact leave (.inr rfl) hS rfl Res.nil ⟨bx3, cx3, kx3, rfl, hwx3, hH.get (b := bw) (by repeat (first | exact In.here | refine In.there ?_)), hH.get (b := bx3) (by repeat (first | exact In.here | refine In.there ?_)), hBx3, hH.mod⟩

set_option maxRecDepth 100000 in
set_option maxHeartbeats 2000000 in
theorem body_8f (q1 q2 q3 : Option Addr) (c1 c2 c3 : Nat) (rnd shr bnd mrk : List UInt8) (name : ByteArray) (ptl : List ByteArray) (prm tck : List UInt8) (ea ag : Bool) (li : Int) (hrnd : rnd.length = 16) (hshr : shr.length = 16) (hbnd : bnd.length = 16) (hmrk : mrk.length = 16) (bw : Nat) (hpl : ptl.length = 1) (hod : oddN ptl = 0) (hpr : prm.length ≤ 4096) (hea : ea = false) (w0 : World) (h1 : w0.heap[bw]? = some (.cells [Value.slice none 0 0].toArray 42 (0, 0))) (hpt : ∀ w', Mod (fun x => x = bw) w0 w' → SsA w' q1 c1 ptl) (hbP : BsF (fun x => x = bw) w0 (.slice q2 prm.length c2) prm) (hbT : BsF (fun x => x = bw) w0 (.slice q3 tck.length c3) tck) : Calls Try.prog 12 #[.pointer (some ⟨bw, 0, none⟩), .agg ([.int .i64 8] ++ hcells rnd ++ hcells shr ++ [.string name, .slice q1 ptl.length c1, .slice q2 prm.length c2, .slice q3 tck.length c3] ++ hcells bnd ++ [.bool ea, .bool ag] ++ hcells mrk ++ [.int .i64 li] : List Value).toArray] w0 fun e w' => ∃ (b' c' : Nat) (k' : List Value), e = .returned (.tuple #[]) ∧ w0.heap.size ≤ b' ∧ w'.heap[bw]? = some (.cells [Value.slice (some ⟨b', 0, none⟩) (bodyB 8 rnd shr name ptl prm tck bnd ea ag mrk li).length c'].toArray 42 (0, 0)) ∧ w'.heap[b']? = some (.cells k'.toArray 5 (0, 0)) ∧ BB c' k' (bodyB 8 rnd shr name ptl prm tck bnd ea ag mrk li) ∧ Mod (fun x => x = bw) w0 w' := by
  refine enter Try.func12 rfl rfl rfl ?_
  intro a hS
  have hH := Hp.start w0 (fun x => x = bw)
  subst hea
  obtain ⟨sp, rfl⟩ := List.length_eq_one_iff.1 hpl
  obtain ⟨hsp1, hsp2⟩ : 1 ≤ sp.size ∧ sp.size ≤ 255 := oddN_zero (l := [sp]) (k := 0) (by simp) hod
  have hspl : sp.data.toList.length = sp.size := by rw [Array.length_toList]; rfl
  obtain ⟨ba, bo, hpq, _⟩ := (hpt _ (Mod.refl _ _)).cell (k := 0) (by show 0 < 1; decide)
  subst hpq
  obtain ⟨r0, r1, r2, r3, r4, r5, r6, r7, r8, r9, ra, rb, rc, rd, re, rf, rfl⟩ := len16 hrnd
  obtain ⟨s0, s1, s2, s3, s4, s5, s6, s7, s8, s9, sa, sb, sc, sd, se, sf, rfl⟩ := len16 hshr
  obtain ⟨n0, n1, n2, n3, n4, n5, n6, n7, n8, n9, na, nb, nc, nd, ne, nf, rfl⟩ := len16 hbnd
  obtain ⟨m0, m1, m2, m3, m4, m5, m6, m7, m8, m9, ma, mb, mc, md, me, mf, rfl⟩ := len16 hmrk
  have hnl : name.data.toList.length = name.size := by rw [Array.length_toList]; rfl
  replace hH := hH.know h1 (fun p hp => by simp at hp)
  refine c_seq ?_
  refine reg_plain w0 (fun x => x = bw) ?_
  refine r_box hS hH (by repeat (first | exact Sub.nil | refine Sub.cons ?_ ?_ | exact In.here | refine In.there ?_)) rfl rfl rfl ?_
  clear hS hH; intro a w b3 hb3 hwb3 hS hH
  refine Sq.nil ?_
  refine then_n ?_
  refine c_seq ?_
  refine reg_plain w0 (fun x => x = bw) ?_
  refine r_fieldAddr hS hH.kp0 rfl Fc.fo27_0 rfl ?_; clear hS; intro a hS
  refine r_load_sc hS hH (by repeat (first | exact Sub.nil | refine Sub.cons ?_ ?_ | exact In.here | refine In.there ?_)) rfl (by repeat (first | exact In.here | refine In.there ?_)) Fc.sc3 (by rfl) rfl ?_; clear hS; intro a hS
  refine Sq.nil ?_
  refine then_n ?_
  refine wp_block ?_
  refine c_seq ?_
  refine wp_block ?_
  refine c_seq ?_
  refine wp_block ?_
  refine c_seq ?_
  refine wp_block ?_
  refine c_seq ?_
  refine wp_block ?_
  refine c_seq ?_
  refine wp_block ?_
  refine c_seq ?_
  refine wp_block ?_
  refine c_seq ?_
  refine c_seq ?_
  refine c_seq ?_
  refine reg_plain w0 (fun x => x = bw) ?_
  refine r_eql hS hH.kp0 rfl rfl rfl ?_; clear hS; intro a hS
  refine r_assign hS hH.kp0 rfl rfl ?_; clear hS; intro a hS
  refine Sq.nil ?_
  refine then_n ?_
  refine c_condF hS rfl rfl ?_
  refine wp_skip ?_
  refine then_n ?_
  refine c_seq ?_
  refine c_seq ?_
  refine reg_plain w0 (fun x => x = bw) ?_
  refine r_eql hS hH.kp0 rfl rfl rfl ?_; clear hS; intro a hS
  refine r_assign hS hH.kp0 rfl rfl ?_; clear hS; intro a hS
  refine Sq.nil ?_
  refine then_n ?_
  refine c_condF hS rfl rfl ?_
  refine wp_skip ?_
  refine then_n ?_
  refine c_seq ?_
  refine c_seq ?_
  refine reg_plain w0 (fun x => x = bw) ?_
  refine r_eql hS hH.kp0 rfl rfl rfl ?_; clear hS; intro a hS
  refine r_assign hS hH.kp0 rfl rfl ?_; clear hS; intro a hS
  refine Sq.nil ?_
  refine then_n ?_
  refine c_condF hS rfl rfl ?_
  refine wp_skip ?_
  refine then_n ?_
  refine c_seq ?_
  refine c_seq ?_
  refine reg_plain w0 (fun x => x = bw) ?_
  refine r_eql hS hH.kp0 rfl rfl rfl ?_; clear hS; intro a hS
  refine r_assign hS hH.kp0 rfl rfl ?_; clear hS; intro a hS
  refine Sq.nil ?_
  refine then_n ?_
  refine c_condT hS rfl rfl ?_
  refine wp_exit ?_
  refine then_e ?_
  refine then_e ?_
  refine blk_e rfl ?_
  refine then_e ?_
  refine blk_e rfl ?_
  refine then_e ?_
  refine blk_e rfl ?_
  refine then_e ?_
  refine blk_hit ?_
  refine then_n ?_
  refine c_seq ?_
  refine c_seq ?_
  refine reg_plain w0 (fun x => x = bw) ?_
  refine r_move hS hH.kp0 rfl rfl ?_; clear hS; intro a hS
  refine r_fieldAddr hS hH.kp0 rfl Fc.fo27_4 rfl ?_; clear hS; intro a hS
  refine r_load_sc hS hH (by repeat (first | exact Sub.nil | refine Sub.cons ?_ ?_ | exact In.here | refine In.there ?_)) rfl (by repeat (first | exact In.here | refine In.there ?_)) Fc.sc24 (by rfl) rfl ?_; clear hS; intro a hS
  refine r_indexAddrS (j := 0) hS hH.kp0 rfl rfl Fc.slb24 rfl (by show 0 < 1; decide) rfl ?_; clear hS; intro a hS
  refine r_load_cell (v := .string sp) hS hH.kp0 rfl (by obtain ⟨b9, o9, h9, h8⟩ := (hpt _ hH.mod).cell (k := 0) (by show 0 < 1; decide); cases h9; exact h8) Fc.sc9 rfl ?_; clear hS; intro a hS
  refine r_call (l := [.tmp 100, .tmp 104, .const (.int .i64 1)]) hS rfl rfl Fc.fn14 rfl ?_
  refine Calls.mono ((text_nil bw sp 1 (by omega) (by decide) (by decide) _ (hH.get (b := bw) (by repeat (first | exact In.here | refine In.there ?_)))).mono (fun e w1 hP => hP)) ?_
  rintro e w1 hP
  obtain ⟨bx1, cx1, kx1, rfl, hrx1, hpx1, hkx1, hBx1, hmx1⟩ := hP
  have hBx1 : BB cx1 kx1 (beB sp.size 1 ++ sp.data.toList) := hBx1
  have hpx1 : w1.heap[bw]? = some (.cells [Value.slice (some ⟨bx1, 0, none⟩) ((beB sp.size 1 ++ sp.data.toList)).length cx1].toArray 42 (0, 0)) := hpx1
  have hnx1 : bx1 ≠ bw := fun e => by have h9 := lt_of_block (hH.get (b := bw) (by repeat (first | exact .here | apply In.there | apply Put.there | apply Del.there))); omega
  have hwx1 := Nat.le_trans hH.mod.size hrx1
  replace hH := hH.modPutN hmx1 hpx1 (by repeat (first | exact .here | apply In.there | apply Put.there | apply Del.there)) (.inl rfl) hrx1 hkx1
  refine ⟨_, rfl, hH.kp0, ?_⟩
  clear hS; intro a hS
  refine Sq.nil ?_
  refine then_n ?_
  refine c_seq ?_
  refine reg_plain w0 (fun x => x = bw) ?_
  refine r_move hS hH.kp0 rfl rfl ?_; clear hS; intro a hS
  refine r_fieldAddr hS hH.kp0 rfl Fc.fo27_5 rfl ?_; clear hS; intro a hS
  refine r_load_sc hS hH (by repeat (first | exact Sub.nil | refine Sub.cons ?_ ?_ | exact In.here | refine In.there ?_)) rfl (by repeat (first | exact In.here | refine In.there ?_)) Fc.sc25 (by rfl) rfl ?_; clear hS; intro a hS
  refine r_bytesStr hS hH.kp0 rfl (hbP _ hH.mod) Fc.u8s25 Fc.isStr9 rfl ?_; clear hS; intro a hS
  refine r_call (l := [.tmp 106, .tmp 109, .const (.int .i64 2)]) hS rfl rfl Fc.fn14 rfl ?_
  refine Calls.mono ((text_some bw bx1 cx1 kx1 (beB sp.size 1 ++ sp.data.toList) (strOf prm) 2 (by show prm.length ≤ _; omega) (by decide) (by decide) (by first | omega | (simp only [List.length_append, List.length_cons, List.length_nil, beB_len]; omega)) _ (hH.get (b := bw) (by repeat (first | exact In.here | refine In.there ?_))) (hH.get (b := bx1) (by repeat (first | exact In.here | refine In.there ?_))) hBx1 hnx1).mono (fun e w1 hP => hP)) ?_
  rintro e w1 hP
  obtain ⟨bx2, cx2, kx2, rfl, hrx2, hpx2, hkx2, hBx2, hmx2⟩ := hP
  have hBx2 : BB cx2 kx2 (beB sp.size 1 ++ sp.data.toList ++ beB prm.length 2 ++ prm) := hBx2
  have hpx2 : w1.heap[bw]? = some (.cells [Value.slice (some ⟨bx2, 0, none⟩) ((beB sp.size 1 ++ sp.data.toList ++ beB prm.length 2 ++ prm)).length cx2].toArray 42 (0, 0)) := hpx2
  have hnx2 : bx2 ≠ bw := fun e => by have h9 := lt_of_block (hH.get (b := bw) (by repeat (first | exact .here | apply In.there | apply Put.there | apply Del.there))); omega
  have hwx2 := Nat.le_trans hH.mod.size hrx2
  replace hH := hH.modPutN hmx2 hpx2 (by repeat (first | exact .here | apply In.there | apply Put.there | apply Del.there)) (.inl rfl) hrx2 hkx2
  refine ⟨_, rfl, hH.kp0, ?_⟩
  clear hS; intro a hS
  refine Sq.nil ?_
  refine then_n ?_
  refine reg_plain w0 (fun x => x = bw) ?_
  refine r_move hS hH.kp0 rfl rfl ?_; clear hS; intro a hS
  refine r_fieldAddr hS hH.kp0 rfl Fc.fo27_8 rfl ?_; clear hS; intro a hS
  refine r_load_sc hS hH (by repeat (first | exact Sub.nil | refine Sub.cons ?_ ?_ | exact In.here | refine In.there ?_)) rfl (by repeat (first | exact In.here | refine In.there ?_)) Fc.sc4 (by rfl) rfl ?_; clear hS; intro a hS
  refine r_buildSlice (parts := [(0, .tmp 113)]) hS hH (by repeat (first | exact Sub.nil | refine Sub.cons ?_ ?_ | exact In.here | refine In.there ?_)) rfl Fc.bsl60_1 (by rfl) rfl ?_
  clear hS hH; intro a w b114 hb114 hwb114 hS hH
  refine r_call (l := [.tmp 111, .tmp 114]) hS rfl rfl Fc.fn20 rfl ?_
  refine Calls.mono ((flags_f bw bx2 cx2 b114 kx2 (beB sp.size 1 ++ sp.data.toList ++ beB prm.length 2 ++ prm) (by first | omega | (simp only [List.length_append, List.length_cons, List.length_nil, beB_len]; omega)) _ (hH.get (b := bw) (by repeat (first | exact In.here | refine In.there ?_))) (hH.get (b := bx2) (by repeat (first | exact In.here | refine In.there ?_))) hBx2 hnx2 (hH.get (b := b114) (by repeat (first | exact In.here | refine In.there ?_))) (hH.ne (x := b114) (y := bw) (.cons (by repeat (first | exact .here | apply In.there | apply Put.there | apply Del.there)) (.cons (by repeat (first | exact .here | apply In.there | apply Put.there | apply Del.there)) .nil)) (by intro h; injection h with _ h2 _; revert h2; decide)) (hH.ne (x := b114) (y := bx2) (.cons (by repeat (first | exact .here | apply In.there | apply Put.there | apply Del.there)) (.cons (by repeat (first | exact .here | apply In.there | apply Put.there | apply Del.there)) .nil)) (by intro h; injection h with _ h2 _; revert h2; decide))).mono (fun e w1 hP => hP)) ?_
  rintro e w1 hP
  obtain ⟨bx3, cx3, kx3, rfl, hrx3, hpx3, hkx3, hBx3, hmx3⟩ := hP
  have hBx3 : BB cx3 kx3 (beB sp.size 1 ++ sp.data.toList ++ beB prm.length 2 ++ prm ++ beB 0 1) := hBx3
  have hpx3 : w1.heap[bw]? = some (.cells [Value.slice (some ⟨bx3, 0, none⟩) ((beB sp.size 1 ++ sp.data.toList ++ beB prm.length 2 ++ prm ++ beB 0 1)).length cx3].toArray 42 (0, 0)) := hpx3
  have hnx3 : bx3 ≠ bw := fun e => by have h9 := lt_of_block (hH.get (b := bw) (by repeat (first | exact .here | apply In.there | apply Put.there | apply Del.there))); omega
  have hwx3 := Nat.le_trans hH.mod.size hrx3
  replace hH := hH.modPutN hmx3 hpx3 (by repeat (first | exact .here | apply In.there | apply Put.there | apply Del.there)) (.inl rfl) hrx3 hkx3
  refine ⟨_, rfl, hH.kp0, ?_⟩
  clear hS; intro a hS
  refine Sq.nil ?_
  refine then_n ?_
  refine wp_exit ?_
  refine blk_e rfl ?_
  refine then_e ?_
  refine blk_e rfl ?_
  refine then_e ?_
  refine blk_hit ?_
  have hfin : beB sp.size 1 ++ sp.data.toList ++ beB prm.length 2 ++ prm ++ beB 0 1 = bodyB 8 [r0, r1, r2, r3, r4, r5, r6, r7, r8, r9, ra, rb, rc, rd, re, rf] [s0, s1, s2, s3, s4, s5, s6, s7, s8, s9, sa, sb, sc, sd, se, sf] name [sp] prm tck [n0, n1, n2, n3, n4, n5, n6, n7, n8, n9, na, nb, nc, nd, ne, nf] false ag [m0, m1, m2, m3, m4, m5, m6, m7, m8, m9, ma, mb, mc, md, me, mf] li := by unfold bodyB; rw [if_neg (by decide)]; rw [if_neg (by decide)]; rw [if_neg (by decide)]; rw [if_pos rfl]; simp [beB1, prsB, List.append_assoc]
  rw [hfin] at hBx3 hH
  exact leave (.inr rfl) hS rfl Res.nil ⟨bx3, cx3, kx3, rfl, hwx3, hH.get (b := bw) (by repeat (first | exact In.here | refine In.there ?_)), hH.get (b := bx3) (by repeat (first | exact In.here | refine In.there ?_)), hBx3, hH.mod⟩

set_option maxRecDepth 100000 in
set_option maxHeartbeats 2000000 in
theorem body_4t (q1 q2 q3 : Option Addr) (c1 c2 c3 : Nat) (rnd shr bnd mrk : List UInt8) (name : ByteArray) (ptl : List ByteArray) (prm tck : List UInt8) (ea ag : Bool) (li : Int) (hrnd : rnd.length = 16) (hshr : shr.length = 16) (hbnd : bnd.length = 16) (hmrk : mrk.length = 16) (bw : Nat) (hli : 0 ≤ li ∧ li ≤ 4294967295) (htk : tck.length ≤ 512) (hea : ea = true) (w0 : World) (h1 : w0.heap[bw]? = some (.cells [Value.slice none 0 0].toArray 42 (0, 0))) (hpt : ∀ w', Mod (fun x => x = bw) w0 w' → SsA w' q1 c1 ptl) (hbP : BsF (fun x => x = bw) w0 (.slice q2 prm.length c2) prm) (hbT : BsF (fun x => x = bw) w0 (.slice q3 tck.length c3) tck) : Calls Try.prog 12 #[.pointer (some ⟨bw, 0, none⟩), .agg ([.int .i64 4] ++ hcells rnd ++ hcells shr ++ [.string name, .slice q1 ptl.length c1, .slice q2 prm.length c2, .slice q3 tck.length c3] ++ hcells bnd ++ [.bool ea, .bool ag] ++ hcells mrk ++ [.int .i64 li] : List Value).toArray] w0 fun e w' => ∃ (b' c' : Nat) (k' : List Value), e = .returned (.tuple #[]) ∧ w0.heap.size ≤ b' ∧ w'.heap[bw]? = some (.cells [Value.slice (some ⟨b', 0, none⟩) (bodyB 4 rnd shr name ptl prm tck bnd ea ag mrk li).length c'].toArray 42 (0, 0)) ∧ w'.heap[b']? = some (.cells k'.toArray 5 (0, 0)) ∧ BB c' k' (bodyB 4 rnd shr name ptl prm tck bnd ea ag mrk li) ∧ Mod (fun x => x = bw) w0 w' := by
  refine enter Try.func12 rfl rfl rfl ?_
  intro a hS
  have hH := Hp.start w0 (fun x => x = bw)
  subst hea
  obtain ⟨hli0, hli1⟩ := hli
  obtain ⟨ln, rfl⟩ := Int.eq_ofNat_of_zero_le hli0
  obtain ⟨r0, r1, r2, r3, r4, r5, r6, r7, r8, r9, ra, rb, rc, rd, re, rf, rfl⟩ := len16 hrnd
  obtain ⟨s0, s1, s2, s3, s4, s5, s6, s7, s8, s9, sa, sb, sc, sd, se, sf, rfl⟩ := len16 hshr
  obtain ⟨n0, n1, n2, n3, n4, n5, n6, n7, n8, n9, na, nb, nc, nd, ne, nf, rfl⟩ := len16 hbnd
  obtain ⟨m0, m1, m2, m3, m4, m5, m6, m7, m8, m9, ma, mb, mc, md, me, mf, rfl⟩ := len16 hmrk
  have hnl : name.data.toList.length = name.size := by rw [Array.length_toList]; rfl
  replace hH := hH.know h1 (fun p hp => by simp at hp)
  refine c_seq ?_
  refine reg_plain w0 (fun x => x = bw) ?_
  refine r_box hS hH (by repeat (first | exact Sub.nil | refine Sub.cons ?_ ?_ | exact In.here | refine In.there ?_)) rfl rfl rfl ?_
  clear hS hH; intro a w b3 hb3 hwb3 hS hH
  refine Sq.nil ?_
  refine then_n ?_
  refine c_seq ?_
  refine reg_plain w0 (fun x => x = bw) ?_
  refine r_fieldAddr hS hH.kp0 rfl Fc.fo27_0 rfl ?_; clear hS; intro a hS
  refine r_load_sc hS hH (by repeat (first | exact Sub.nil | refine Sub.cons ?_ ?_ | exact In.here | refine In.there ?_)) rfl (by repeat (first | exact In.here | refine In.there ?_)) Fc.sc3 (by rfl) rfl ?_; clear hS; intro a hS
  refine Sq.nil ?_
  refine then_n ?_
  refine wp_block ?_
  refine c_seq ?_
  refine wp_block ?_
  refine c_seq ?_
  refine wp_block ?_
  refine c_seq ?_
  refine wp_block ?_
  refine c_seq ?_
  refine wp_block ?_
  refine c_seq ?_
  refine wp_block ?_
  refine c_seq ?_
  refine wp_block ?_
  refine c_seq ?_
  refine c_seq ?_
  refine c_seq ?_
  refine reg_plain w0 (fun x => x = bw) ?_
  refine r_eql hS hH.kp0 rfl rfl rfl ?_; clear hS; intro a hS
  refine r_assign hS hH.kp0 rfl rfl ?_; clear hS; intro a hS
  refine Sq.nil ?_
  refine then_n ?_
  refine c_condF hS rfl rfl ?_
  refine wp_skip ?_
  refine then_n ?_
  refine c_seq ?_
  refine c_seq ?_
  refine reg_plain w0 (fun x => x = bw) ?_
  refine r_eql hS hH.kp0 rfl rfl rfl ?_; clear hS; intro a hS
  refine r_assign hS hH.kp0 rfl rfl ?_; clear hS; intro a hS
  refine Sq.nil ?_
  refine then_n ?_
  refine c_condF hS rfl rfl ?_
  refine wp_skip ?_
  refine then_n ?_
  refine c_seq ?_
  refine c_seq ?_
  refine reg_plain w0 (fun x => x = bw) ?_
  refine r_eql hS hH.kp0 rfl rfl rfl ?_; clear hS; intro a hS
  refine r_assign hS hH.kp0 rfl rfl ?_; clear hS; intro a hS
  refine Sq.nil ?_
  refine then_n ?_
  refine c_condT hS rfl rfl ?_
  refine wp_exit ?_
  refine then_e ?_
  refine then_e ?_
  refine blk_e rfl ?_
  refine then_e ?_
  refine blk_e rfl ?_
  refine then_e ?_
  refine blk_hit ?_
  refine then_n ?_
  refine c_seq ?_
  refine c_seq ?_
  refine reg_plain w0 (fun x => x = bw) ?_
  refine r_move hS hH.kp0 rfl rfl ?_; clear hS; intro a hS
  refine r_fieldAddr hS hH.kp0 rfl Fc.fo27_11 rfl ?_; clear hS; intro a hS
  refine r_load_sc hS hH (by repeat (first | exact Sub.nil | refine Sub.cons ?_ ?_ | exact In.here | refine In.there ?_)) rfl (by repeat (first | exact In.here | refine In.there ?_)) Fc.sc3 (by rfl) rfl ?_; clear hS; intro a hS
  refine r_call (l := [.tmp 86, .tmp 88, .const (.int .i64 4)]) hS rfl rfl Fc.fn13 rfl ?_
  refine Calls.mono ((number_nil bw ln 4 (by omega) (by decide) (by decide) _ (hH.get (b := bw) (by repeat (first | exact In.here | refine In.there ?_)))).mono (fun e w1 hP => hP)) ?_
  rintro e w1 hP
  obtain ⟨bx1, cx1, kx1, rfl, hrx1, hpx1, hkx1, hBx1, hmx1⟩ := hP
  have hBx1 : BB cx1 kx1 (beB ln 4) := hBx1
  have hpx1 : w1.heap[bw]? = some (.cells [Value.slice (some ⟨bx1, 0, none⟩) ((beB ln 4)).length cx1].toArray 42 (0, 0)) := hpx1
  have hnx1 : bx1 ≠ bw := fun e => by have h9 := lt_of_block (hH.get (b := bw) (by repeat (first | exact .here | apply In.there | apply Put.there | apply Del.there))); omega
  have hwx1 := Nat.le_trans hH.mod.size hrx1
  replace hH := hH.modPutN hmx1 hpx1 (by repeat (first | exact .here | apply In.there | apply Put.there | apply Del.there)) (.inl rfl) hrx1 hkx1
  refine ⟨_, rfl, hH.kp0, ?_⟩
  clear hS; intro a hS
  refine Sq.nil ?_
  refine then_n ?_
  refine c_seq ?_
  refine reg_plain w0 (fun x => x = bw) ?_
  refine r_move hS hH.kp0 rfl rfl ?_; clear hS; intro a hS
  refine r_fieldAddr hS hH.kp0 rfl Fc.fo27_6 rfl ?_; clear hS; intro a hS
  refine r_load_sc hS hH (by repeat (first | exact Sub.nil | refine Sub.cons ?_ ?_ | exact In.here | refine In.there ?_)) rfl (by repeat (first | exact In.here | refine In.there ?_)) Fc.sc25 (by rfl) rfl ?_; clear hS; intro a hS
  refine r_bytesStr hS hH.kp0 rfl (hbT _ hH.mod) Fc.u8s25 Fc.isStr9 rfl ?_; clear hS; intro a hS
  refine r_call (l := [.tmp 90, .tmp 93, .const (.int .i64 2)]) hS rfl rfl Fc.fn14 rfl ?_
  refine Calls.mono ((text_some bw bx1 cx1 kx1 (beB ln 4) (strOf tck) 2 (by show tck.length ≤ _; omega) (by decide) (by decide) (by first | omega | (simp only [List.length_append, List.length_cons, List.length_nil, beB_len]; omega)) _ (hH.get (b := bw) (by repeat (first | exact In.here | refine In.there ?_))) (hH.get (b := bx1) (by repeat (first | exact In.here | refine In.there ?_))) hBx1 hnx1).mono (fun e w1 hP => hP)) ?_
  rintro e w1 hP
  obtain ⟨bx2, cx2, kx2, rfl, hrx2, hpx2, hkx2, hBx2, hmx2⟩ := hP
  have hBx2 : BB cx2 kx2 (beB ln 4 ++ beB tck.length 2 ++ tck) := hBx2
  have hpx2 : w1.heap[bw]? = some (.cells [Value.slice (some ⟨bx2, 0, none⟩) ((beB ln 4 ++ beB tck.length 2 ++ tck)).length cx2].toArray 42 (0, 0)) := hpx2
  have hnx2 : bx2 ≠ bw := fun e => by have h9 := lt_of_block (hH.get (b := bw) (by repeat (first | exact .here | apply In.there | apply Put.there | apply Del.there))); omega
  have hwx2 := Nat.le_trans hH.mod.size hrx2
  replace hH := hH.modPutN hmx2 hpx2 (by repeat (first | exact .here | apply In.there | apply Put.there | apply Del.there)) (.inl rfl) hrx2 hkx2
  refine ⟨_, rfl, hH.kp0, ?_⟩
  clear hS; intro a hS
  refine Sq.nil ?_
  refine then_n ?_
  refine reg_plain w0 (fun x => x = bw) ?_
  refine r_move hS hH.kp0 rfl rfl ?_; clear hS; intro a hS
  refine r_fieldAddr hS hH.kp0 rfl Fc.fo27_8 rfl ?_; clear hS; intro a hS
  refine r_load_sc hS hH (by repeat (first | exact Sub.nil | refine Sub.cons ?_ ?_ | exact In.here | refine In.there ?_)) rfl (by repeat (first | exact In.here | refine In.there ?_)) Fc.sc4 (by rfl) rfl ?_; clear hS; intro a hS
  refine r_buildSlice (parts := [(0, .tmp 97)]) hS hH (by repeat (first | exact Sub.nil | refine Sub.cons ?_ ?_ | exact In.here | refine In.there ?_)) rfl Fc.bsl60_1 (by rfl) rfl ?_
  clear hS hH; intro a w b98 hb98 hwb98 hS hH
  refine r_call (l := [.tmp 95, .tmp 98]) hS rfl rfl Fc.fn20 rfl ?_
  refine Calls.mono ((flags_t bw bx2 cx2 b98 kx2 (beB ln 4 ++ beB tck.length 2 ++ tck) (by first | omega | (simp only [List.length_append, List.length_cons, List.length_nil, beB_len]; omega)) _ (hH.get (b := bw) (by repeat (first | exact In.here | refine In.there ?_))) (hH.get (b := bx2) (by repeat (first | exact In.here | refine In.there ?_))) hBx2 hnx2 (hH.get (b := b98) (by repeat (first | exact In.here | refine In.there ?_))) (hH.ne (x := b98) (y := bw) (.cons (by repeat (first | exact .here | apply In.there | apply Put.there | apply Del.there)) (.cons (by repeat (first | exact .here | apply In.there | apply Put.there | apply Del.there)) .nil)) (by intro h; injection h with _ h2 _; revert h2; decide)) (hH.ne (x := b98) (y := bx2) (.cons (by repeat (first | exact .here | apply In.there | apply Put.there | apply Del.there)) (.cons (by repeat (first | exact .here | apply In.there | apply Put.there | apply Del.there)) .nil)) (by intro h; injection h with _ h2 _; revert h2; decide))).mono (fun e w1 hP => hP)) ?_
  rintro e w1 hP
  obtain ⟨bx3, cx3, kx3, rfl, hrx3, hpx3, hkx3, hBx3, hmx3⟩ := hP
  have hBx3 : BB cx3 kx3 (beB ln 4 ++ beB tck.length 2 ++ tck ++ beB 1 1) := hBx3
  have hpx3 : w1.heap[bw]? = some (.cells [Value.slice (some ⟨bx3, 0, none⟩) ((beB ln 4 ++ beB tck.length 2 ++ tck ++ beB 1 1)).length cx3].toArray 42 (0, 0)) := hpx3
  have hnx3 : bx3 ≠ bw := fun e => by have h9 := lt_of_block (hH.get (b := bw) (by repeat (first | exact .here | apply In.there | apply Put.there | apply Del.there))); omega
  have hwx3 := Nat.le_trans hH.mod.size hrx3
  replace hH := hH.modPutN hmx3 hpx3 (by repeat (first | exact .here | apply In.there | apply Put.there | apply Del.there)) (.inl rfl) hrx3 hkx3
  refine ⟨_, rfl, hH.kp0, ?_⟩
  clear hS; intro a hS
  refine Sq.nil ?_
  refine then_n ?_
  refine wp_exit ?_
  refine blk_e rfl ?_
  refine then_e ?_
  refine blk_e rfl ?_
  refine then_e ?_
  refine blk_e rfl ?_
  refine then_e ?_
  refine blk_hit ?_
  have hfin : beB ln 4 ++ beB tck.length 2 ++ tck ++ beB 1 1 = bodyB 4 [r0, r1, r2, r3, r4, r5, r6, r7, r8, r9, ra, rb, rc, rd, re, rf] [s0, s1, s2, s3, s4, s5, s6, s7, s8, s9, sa, sb, sc, sd, se, sf] name ptl prm tck [n0, n1, n2, n3, n4, n5, n6, n7, n8, n9, na, nb, nc, nd, ne, nf] true ag [m0, m1, m2, m3, m4, m5, m6, m7, m8, m9, ma, mb, mc, md, me, mf] (ln : Int) := by unfold bodyB; rw [if_neg (by decide)]; rw [if_neg (by decide)]; rw [if_pos rfl]; simp [beB1, List.append_assoc]
  rw [hfin] at hBx3 hH
  exact leave (.inr rfl) hS rfl Res.nil ⟨bx3, cx3, kx3, rfl, hwx3, hH.get (b := bw) (by repeat (first | exact In.here | refine In.there ?_)), hH.get (b := bx3) (by repeat (first | exact In.here | refine In.there ?_)), hBx3, hH.mod⟩

set_option maxRecDepth 100000 in
set_option maxHeartbeats 2000000 in
theorem body_8t (q1 q2 q3 : Option Addr) (c1 c2 c3 : Nat) (rnd shr bnd mrk : List UInt8) (name : ByteArray) (ptl : List ByteArray) (prm tck : List UInt8) (ea ag : Bool) (li : Int) (hrnd : rnd.length = 16) (hshr : shr.length = 16) (hbnd : bnd.length = 16) (hmrk : mrk.length = 16) (bw : Nat) (hpl : ptl.length = 1) (hod : oddN ptl = 0) (hpr : prm.length ≤ 4096) (hea : ea = true) (w0 : World) (h1 : w0.heap[bw]? = some (.cells [Value.slice none 0 0].toArray 42 (0, 0))) (hpt : ∀ w', Mod (fun x => x = bw) w0 w' → SsA w' q1 c1 ptl) (hbP : BsF (fun x => x = bw) w0 (.slice q2 prm.length c2) prm) (hbT : BsF (fun x => x = bw) w0 (.slice q3 tck.length c3) tck) : Calls Try.prog 12 #[.pointer (some ⟨bw, 0, none⟩), .agg ([.int .i64 8] ++ hcells rnd ++ hcells shr ++ [.string name, .slice q1 ptl.length c1, .slice q2 prm.length c2, .slice q3 tck.length c3] ++ hcells bnd ++ [.bool ea, .bool ag] ++ hcells mrk ++ [.int .i64 li] : List Value).toArray] w0 fun e w' => ∃ (b' c' : Nat) (k' : List Value), e = .returned (.tuple #[]) ∧ w0.heap.size ≤ b' ∧ w'.heap[bw]? = some (.cells [Value.slice (some ⟨b', 0, none⟩) (bodyB 8 rnd shr name ptl prm tck bnd ea ag mrk li).length c'].toArray 42 (0, 0)) ∧ w'.heap[b']? = some (.cells k'.toArray 5 (0, 0)) ∧ BB c' k' (bodyB 8 rnd shr name ptl prm tck bnd ea ag mrk li) ∧ Mod (fun x => x = bw) w0 w' := by
  refine enter Try.func12 rfl rfl rfl ?_
  intro a hS
  have hH := Hp.start w0 (fun x => x = bw)
  subst hea
  obtain ⟨sp, rfl⟩ := List.length_eq_one_iff.1 hpl
  obtain ⟨hsp1, hsp2⟩ : 1 ≤ sp.size ∧ sp.size ≤ 255 := oddN_zero (l := [sp]) (k := 0) (by simp) hod
  have hspl : sp.data.toList.length = sp.size := by rw [Array.length_toList]; rfl
  obtain ⟨ba, bo, hpq, _⟩ := (hpt _ (Mod.refl _ _)).cell (k := 0) (by show 0 < 1; decide)
  subst hpq
  obtain ⟨r0, r1, r2, r3, r4, r5, r6, r7, r8, r9, ra, rb, rc, rd, re, rf, rfl⟩ := len16 hrnd
  obtain ⟨s0, s1, s2, s3, s4, s5, s6, s7, s8, s9, sa, sb, sc, sd, se, sf, rfl⟩ := len16 hshr
  obtain ⟨n0, n1, n2, n3, n4, n5, n6, n7, n8, n9, na, nb, nc, nd, ne, nf, rfl⟩ := len16 hbnd
  obtain ⟨m0, m1, m2, m3, m4, m5, m6, m7, m8, m9, ma, mb, mc, md, me, mf, rfl⟩ := len16 hmrk
  have hnl : name.data.toList.length = name.size := by rw [Array.length_toList]; rfl
  replace hH := hH.know h1 (fun p hp => by simp at hp)
  refine c_seq ?_
  refine reg_plain w0 (fun x => x = bw) ?_
  refine r_box hS hH (by repeat (first | exact Sub.nil | refine Sub.cons ?_ ?_ | exact In.here | refine In.there ?_)) rfl rfl rfl ?_
  clear hS hH; intro a w b3 hb3 hwb3 hS hH
  refine Sq.nil ?_
  refine then_n ?_
  refine c_seq ?_
  refine reg_plain w0 (fun x => x = bw) ?_
  refine r_fieldAddr hS hH.kp0 rfl Fc.fo27_0 rfl ?_; clear hS; intro a hS
  refine r_load_sc hS hH (by repeat (first | exact Sub.nil | refine Sub.cons ?_ ?_ | exact In.here | refine In.there ?_)) rfl (by repeat (first | exact In.here | refine In.there ?_)) Fc.sc3 (by rfl) rfl ?_; clear hS; intro a hS
  refine Sq.nil ?_
  refine then_n ?_
  refine wp_block ?_
  refine c_seq ?_
  refine wp_block ?_
  refine c_seq ?_
  refine wp_block ?_
  refine c_seq ?_
  refine wp_block ?_
  refine c_seq ?_
  refine wp_block ?_
  refine c_seq ?_
  refine wp_block ?_
  refine c_seq ?_
  refine wp_block ?_
  refine c_seq ?_
  refine c_seq ?_
  refine c_seq ?_
  refine reg_plain w0 (fun x => x = bw) ?_
  refine r_eql hS hH.kp0 rfl rfl rfl ?_; clear hS; intro a hS
  refine r_assign hS hH.kp0 rfl rfl ?_; clear hS; intro a hS
  refine Sq.nil ?_
  refine then_n ?_
  refine c_condF hS rfl rfl ?_
  refine wp_skip ?_
  refine then_n ?_
  refine c_seq ?_
  refine c_seq ?_
  refine reg_plain w0 (fun x => x = bw) ?_
  refine r_eql hS hH.kp0 rfl rfl rfl ?_; clear hS; intro a hS
  refine r_assign hS hH.kp0 rfl rfl ?_; clear hS; intro a hS
  refine Sq.nil ?_
  refine then_n ?_
  refine c_condF hS rfl rfl ?_
  refine wp_skip ?_
  refine then_n ?_
  refine c_seq ?_
  refine c_seq ?_
  refine reg_plain w0 (fun x => x = bw) ?_
  refine r_eql hS hH.kp0 rfl rfl rfl ?_; clear hS; intro a hS
  refine r_assign hS hH.kp0 rfl rfl ?_; clear hS; intro a hS
  refine Sq.nil ?_
  refine then_n ?_
  refine c_condF hS rfl rfl ?_
  refine wp_skip ?_
  refine then_n ?_
  refine c_seq ?_
  refine c_seq ?_
  refine reg_plain w0 (fun x => x = bw) ?_
  refine r_eql hS hH.kp0 rfl rfl rfl ?_; clear hS; intro a hS
  refine r_assign hS hH.kp0 rfl rfl ?_; clear hS; intro a hS
  refine Sq.nil ?_
  refine then_n ?_
  refine c_condT hS rfl rfl ?_
  refine wp_exit ?_
  refine then_e ?_
  refine then_e ?_
  refine blk_e rfl ?_
  refine then_e ?_
  refine blk_e rfl ?_
  refine then_e ?_
  refine blk_e rfl ?_
  refine then_e ?_
  refine blk_hit ?_
  refine then_n ?_
  refine c_seq ?_
  refine c_seq ?_
  refine reg_plain w0 (fun x => x = bw) ?_
  refine r_move hS hH.kp0 rfl rfl ?_; clear hS; intro a hS
  refine r_fieldAddr hS hH.kp0 rfl Fc.fo27_4 rfl ?_; clear hS; intro a hS
  refine r_load_sc hS hH (by repeat (first | exact Sub.nil | refine Sub.cons ?_ ?_ | exact In.here | refine In.there ?_)) rfl (by repeat (first | exact In.here | refine In.there ?_)) Fc.sc24 (by rfl) rfl ?_; clear hS; intro a hS
  refine r_indexAddrS (j := 0) hS hH.kp0 rfl rfl Fc.slb24 rfl (by show 0 < 1; decide) rfl ?_; clear hS; intro a hS
  refine r_load_cell (v := .string sp) hS hH.kp0 rfl (by obtain ⟨b9, o9, h9, h8⟩ := (hpt _ hH.mod).cell (k := 0) (by show 0 < 1; decide); cases h9; exact h8) Fc.sc9 rfl ?_; clear hS; intro a hS
  refine r_call (l := [.tmp 100, .tmp 104, .const (.int .i64 1)]) hS rfl rfl Fc.fn14 rfl ?_
  refine Calls.mono ((text_nil bw sp 1 (by omega) (by decide) (by decide) _ (hH.get (b := bw) (by repeat (first | exact In.here | refine In.there ?_)))).mono (fun e w1 hP => hP)) ?_
  rintro e w1 hP
  obtain ⟨bx1, cx1, kx1, rfl, hrx1, hpx1, hkx1, hBx1, hmx1⟩ := hP
  have hBx1 : BB cx1 kx1 (beB sp.size 1 ++ sp.data.toList) := hBx1
  have hpx1 : w1.heap[bw]? = some (.cells [Value.slice (some ⟨bx1, 0, none⟩) ((beB sp.size 1 ++ sp.data.toList)).length cx1].toArray 42 (0, 0)) := hpx1
  have hnx1 : bx1 ≠ bw := fun e => by have h9 := lt_of_block (hH.get (b := bw) (by repeat (first | exact .here | apply In.there | apply Put.there | apply Del.there))); omega
  have hwx1 := Nat.le_trans hH.mod.size hrx1
  replace hH := hH.modPutN hmx1 hpx1 (by repeat (first | exact .here | apply In.there | apply Put.there | apply Del.there)) (.inl rfl) hrx1 hkx1
  refine ⟨_, rfl, hH.kp0, ?_⟩
  clear hS; intro a hS
  refine Sq.nil ?_
  refine then_n ?_
  refine c_seq ?_
  refine reg_plain w0 (fun x => x = bw) ?_
  refine r_move hS hH.kp0 rfl rfl ?_; clear hS; intro a hS
  refine r_fieldAddr hS hH.kp0 rfl Fc.fo27_5 rfl ?_; clear hS; intro a hS
  refine r_load_sc hS hH (by repeat (first | exact Sub.nil | refine Sub.cons ?_ ?_ | exact In.here | refine In.there ?_)) rfl (by repeat (first | exact In.here | refine In.there ?_)) Fc.sc25 (by rfl) rfl ?_; clear hS; intro a hS
  refine r_bytesStr hS hH.kp0 rfl (hbP _ hH.mod) Fc.u8s25 Fc.isStr9 rfl ?_; clear hS; intro a hS
  refine r_call (l := [.tmp 106, .tmp 109, .const (.int .i64 2)]) hS rfl rfl Fc.fn14 rfl ?_
  refine Calls.mono ((text_some bw bx1 cx1 kx1 (beB sp.size 1 ++ sp.data.toList) (strOf prm) 2 (by show prm.length ≤ _; omega) (by decide) (by decide) (by first | omega | (simp only [List.length_append, List.length_cons, List.length_nil, beB_len]; omega)) _ (hH.get (b := bw) (by repeat (first | exact In.here | refine In.there ?_))) (hH.get (b := bx1) (by repeat (first | exact In.here | refine In.there ?_))) hBx1 hnx1).mono (fun e w1 hP => hP)) ?_
  rintro e w1 hP
  obtain ⟨bx2, cx2, kx2, rfl, hrx2, hpx2, hkx2, hBx2, hmx2⟩ := hP
  have hBx2 : BB cx2 kx2 (beB sp.size 1 ++ sp.data.toList ++ beB prm.length 2 ++ prm) := hBx2
  have hpx2 : w1.heap[bw]? = some (.cells [Value.slice (some ⟨bx2, 0, none⟩) ((beB sp.size 1 ++ sp.data.toList ++ beB prm.length 2 ++ prm)).length cx2].toArray 42 (0, 0)) := hpx2
  have hnx2 : bx2 ≠ bw := fun e => by have h9 := lt_of_block (hH.get (b := bw) (by repeat (first | exact .here | apply In.there | apply Put.there | apply Del.there))); omega
  have hwx2 := Nat.le_trans hH.mod.size hrx2
  replace hH := hH.modPutN hmx2 hpx2 (by repeat (first | exact .here | apply In.there | apply Put.there | apply Del.there)) (.inl rfl) hrx2 hkx2
  refine ⟨_, rfl, hH.kp0, ?_⟩
  clear hS; intro a hS
  refine Sq.nil ?_
  refine then_n ?_
  refine reg_plain w0 (fun x => x = bw) ?_
  refine r_move hS hH.kp0 rfl rfl ?_; clear hS; intro a hS
  refine r_fieldAddr hS hH.kp0 rfl Fc.fo27_8 rfl ?_; clear hS; intro a hS
  refine r_load_sc hS hH (by repeat (first | exact Sub.nil | refine Sub.cons ?_ ?_ | exact In.here | refine In.there ?_)) rfl (by repeat (first | exact In.here | refine In.there ?_)) Fc.sc4 (by rfl) rfl ?_; clear hS; intro a hS
  refine r_buildSlice (parts := [(0, .tmp 113)]) hS hH (by repeat (first | exact Sub.nil | refine Sub.cons ?_ ?_ | exact In.here | refine In.there ?_)) rfl Fc.bsl60_1 (by rfl) rfl ?_
  clear hS hH; intro a w b114 hb114 hwb114 hS hH
  refine r_call (l := [.tmp 111, .tmp 114]) hS rfl rfl Fc.fn20 rfl ?_
  refine Calls.mono ((flags_t bw bx2 cx2 b114 kx2 (beB sp.size 1 ++ sp.data.toList ++ beB prm.length 2 ++ prm) (by first | omega | (simp only [List.length_append, List.length_cons, List.length_nil, beB_len]; omega)) _ (hH.get (b := bw) (by repeat (first | exact In.here | refine In.there ?_))) (hH.get (b := bx2) (by repeat (first | exact In.here | refine In.there ?_))) hBx2 hnx2 (hH.get (b := b114) (by repeat (first | exact In.here | refine In.there ?_))) (hH.ne (x := b114) (y := bw) (.cons (by repeat (first | exact .here | apply In.there | apply Put.there | apply Del.there)) (.cons (by repeat (first | exact .here | apply In.there | apply Put.there | apply Del.there)) .nil)) (by intro h; injection h with _ h2 _; revert h2; decide)) (hH.ne (x := b114) (y := bx2) (.cons (by repeat (first | exact .here | apply In.there | apply Put.there | apply Del.there)) (.cons (by repeat (first | exact .here | apply In.there | apply Put.there | apply Del.there)) .nil)) (by intro h; injection h with _ h2 _; revert h2; decide))).mono (fun e w1 hP => hP)) ?_
  rintro e w1 hP
  obtain ⟨bx3, cx3, kx3, rfl, hrx3, hpx3, hkx3, hBx3, hmx3⟩ := hP
  have hBx3 : BB cx3 kx3 (beB sp.size 1 ++ sp.data.toList ++ beB prm.length 2 ++ prm ++ beB 1 1) := hBx3
  have hpx3 : w1.heap[bw]? = some (.cells [Value.slice (some ⟨bx3, 0, none⟩) ((beB sp.size 1 ++ sp.data.toList ++ beB prm.length 2 ++ prm ++ beB 1 1)).length cx3].toArray 42 (0, 0)) := hpx3
  have hnx3 : bx3 ≠ bw := fun e => by have h9 := lt_of_block (hH.get (b := bw) (by repeat (first | exact .here | apply In.there | apply Put.there | apply Del.there))); omega
  have hwx3 := Nat.le_trans hH.mod.size hrx3
  replace hH := hH.modPutN hmx3 hpx3 (by repeat (first | exact .here | apply In.there | apply Put.there | apply Del.there)) (.inl rfl) hrx3 hkx3
  refine ⟨_, rfl, hH.kp0, ?_⟩
  clear hS; intro a hS
  refine Sq.nil ?_
  refine then_n ?_
  refine wp_exit ?_
  refine blk_e rfl ?_
  refine then_e ?_
  refine blk_e rfl ?_
  refine then_e ?_
  refine blk_hit ?_
  have hfin : beB sp.size 1 ++ sp.data.toList ++ beB prm.length 2 ++ prm ++ beB 1 1 = bodyB 8 [r0, r1, r2, r3, r4, r5, r6, r7, r8, r9, ra, rb, rc, rd, re, rf] [s0, s1, s2, s3, s4, s5, s6, s7, s8, s9, sa, sb, sc, sd, se, sf] name [sp] prm tck [n0, n1, n2, n3, n4, n5, n6, n7, n8, n9, na, nb, nc, nd, ne, nf] true ag [m0, m1, m2, m3, m4, m5, m6, m7, m8, m9, ma, mb, mc, md, me, mf] li := by unfold bodyB; rw [if_neg (by decide)]; rw [if_neg (by decide)]; rw [if_neg (by decide)]; rw [if_pos rfl]; simp [beB1, prsB, List.append_assoc]
  rw [hfin] at hBx3 hH
  exact leave (.inr rfl) hS rfl Res.nil ⟨bx3, cx3, kx3, rfl, hwx3, hH.get (b := bw) (by repeat (first | exact In.here | refine In.there ?_)), hH.get (b := bx3) (by repeat (first | exact In.here | refine In.there ?_)), hBx3, hH.mod⟩

set_option maxRecDepth 100000 in
set_option maxHeartbeats 2000000 in
theorem body_11 (q1 q2 q3 : Option Addr) (c1 c2 c3 : Nat) (rnd shr bnd mrk : List UInt8) (name : ByteArray) (ptl : List ByteArray) (prm tck : List UInt8) (ea ag : Bool) (li : Int) (hrnd : rnd.length = 16) (hshr : shr.length = 16) (hbnd : bnd.length = 16) (hmrk : mrk.length = 16) (bw : Nat) (hnm : name.size ≤ 255) (w0 : World) (h1 : w0.heap[bw]? = some (.cells [Value.slice none 0 0].toArray 42 (0, 0))) (hpt : ∀ w', Mod (fun x => x = bw) w0 w' → SsA w' q1 c1 ptl) (hbP : BsF (fun x => x = bw) w0 (.slice q2 prm.length c2) prm) (hbT : BsF (fun x => x = bw) w0 (.slice q3 tck.length c3) tck) : Calls Try.prog 12 #[.pointer (some ⟨bw, 0, none⟩), .agg ([.int .i64 11] ++ hcells rnd ++ hcells shr ++ [.string name, .slice q1 ptl.length c1, .slice q2 prm.length c2, .slice q3 tck.length c3] ++ hcells bnd ++ [.bool ea, .bool ag] ++ hcells mrk ++ [.int .i64 li] : List Value).toArray] w0 fun e w' => ∃ (b' c' : Nat) (k' : List Value), e = .returned (.tuple #[]) ∧ w0.heap.size ≤ b' ∧ w'.heap[bw]? = some (.cells [Value.slice (some ⟨b', 0, none⟩) (bodyB 11 rnd shr name ptl prm tck bnd ea ag mrk li).length c'].toArray 42 (0, 0)) ∧ w'.heap[b']? = some (.cells k'.toArray 5 (0, 0)) ∧ BB c' k' (bodyB 11 rnd shr name ptl prm tck bnd ea ag mrk li) ∧ Mod (fun x => x = bw) w0 w' := by
  refine enter Try.func12 rfl rfl rfl ?_
  intro a hS
  have hH := Hp.start w0 (fun x => x = bw)
  obtain ⟨r0, r1, r2, r3, r4, r5, r6, r7, r8, r9, ra, rb, rc, rd, re, rf, rfl⟩ := len16 hrnd
  obtain ⟨s0, s1, s2, s3, s4, s5, s6, s7, s8, s9, sa, sb, sc, sd, se, sf, rfl⟩ := len16 hshr
  obtain ⟨n0, n1, n2, n3, n4, n5, n6, n7, n8, n9, na, nb, nc, nd, ne, nf, rfl⟩ := len16 hbnd
  obtain ⟨m0, m1, m2, m3, m4, m5, m6, m7, m8, m9, ma, mb, mc, md, me, mf, rfl⟩ := len16 hmrk
  have hnl : name.data.toList.length = name.size := by rw [Array.length_toList]; rfl
  replace hH := hH.know h1 (fun p hp => by simp at hp)
  refine c_seq ?_
  refine reg_plain w0 (fun x => x = bw) ?_
  refine r_box hS hH (by repeat (first | exact Sub.nil | refine Sub.cons ?_ ?_ | exact In.here | refine In.there ?_)) rfl rfl rfl ?_
  clear hS hH; intro a w b3 hb3 hwb3 hS hH
  refine Sq.nil ?_
  refine then_n ?_
  refine c_seq ?_
  refine reg_plain w0 (fun x => x = bw) ?_
  refine r_fieldAddr hS hH.kp0 rfl Fc.fo27_0 rfl ?_; clear hS; intro a hS
  refine r_load_sc hS hH (by repeat (first | exact Sub.nil | refine Sub.cons ?_ ?_ | exact In.here | refine In.there ?_)) rfl (by repeat (first | exact In.here | refine In.there ?_)) Fc.sc3 (by rfl) rfl ?_; clear hS; intro a hS
  refine Sq.nil ?_
  refine then_n ?_
  refine wp_block ?_
  refine c_seq ?_
  refine wp_block ?_
  refine c_seq ?_
  refine wp_block ?_
  refine c_seq ?_
  refine wp_block ?_
  refine c_seq ?_
  refine wp_block ?_
  refine c_seq ?_
  refine wp_block ?_
  refine c_seq ?_
  refine wp_block ?_
  refine c_seq ?_
  refine c_seq ?_
  refine c_seq ?_
  refine reg_plain w0 (fun x => x = bw) ?_
  refine r_eql hS hH.kp0 rfl rfl rfl ?_; clear hS; intro a hS
  refine r_assign hS hH.kp0 rfl rfl ?_; clear hS; intro a hS
  refine Sq.nil ?_
  refine then_n ?_
  refine c_condF hS rfl rfl ?_
  refine wp_skip ?_
  refine then_n ?_
  refine c_seq ?_
  refine c_seq ?_
  refine reg_plain w0 (fun x => x = bw) ?_
  refine r_eql hS hH.kp0 rfl rfl rfl ?_; clear hS; intro a hS
  refine r_assign hS hH.kp0 rfl rfl ?_; clear hS; intro a hS
  refine Sq.nil ?_
  refine then_n ?_
  refine c_condF hS rfl rfl ?_
  refine wp_skip ?_
  refine then_n ?_
  refine c_seq ?_
  refine c_seq ?_
  refine reg_plain w0 (fun x => x = bw) ?_
  refine r_eql hS hH.kp0 rfl rfl rfl ?_; clear hS; intro a hS
  refine r_assign hS hH.kp0 rfl rfl ?_; clear hS; intro a hS
  refine Sq.nil ?_
  refine then_n ?_
  refine c_condF hS rfl rfl ?_
  refine wp_skip ?_
  refine then_n ?_
  refine c_seq ?_
  refine c_seq ?_
  refine reg_plain w0 (fun x => x = bw) ?_
  refine r_eql hS hH.kp0 rfl rfl rfl ?_; clear hS; intro a hS
  refine r_assign hS hH.kp0 rfl rfl ?_; clear hS; intro a hS
  refine Sq.nil ?_
  refine then_n ?_
  refine c_condF hS rfl rfl ?_
  refine wp_skip ?_
  refine then_n ?_
  refine c_seq ?_
  refine reg_plain w0 (fun x => x = bw) ?_
  refine r_eql hS hH.kp0 rfl rfl rfl ?_; clear hS; intro a hS
  refine r_assign hS hH.kp0 rfl rfl ?_; clear hS; intro a hS
  refine Sq.nil ?_
  refine then_n ?_
  refine c_condT hS rfl rfl ?_
  refine wp_exit ?_
  refine then_e ?_
  refine blk_e rfl ?_
  refine then_e ?_
  refine blk_e rfl ?_
  refine then_e ?_
  refine blk_e rfl ?_
  refine then_e ?_
  refine blk_e rfl ?_
  refine then_e ?_
  refine blk_hit ?_
  refine then_n ?_
  refine reg_plain w0 (fun x => x = bw) ?_
  refine r_move hS hH.kp0 rfl rfl ?_; clear hS; intro a hS
  refine r_fieldAddr hS hH.kp0 rfl Fc.fo27_3 rfl ?_; clear hS; intro a hS
  refine r_load_sc hS hH (by repeat (first | exact Sub.nil | refine Sub.cons ?_ ?_ | exact In.here | refine In.there ?_)) rfl (by repeat (first | exact In.here | refine In.there ?_)) Fc.sc9 (by rfl) rfl ?_; clear hS; intro a hS
  refine r_call (l := [.tmp 116, .tmp 118, .const (.int .i64 1)]) hS rfl rfl Fc.fn14 rfl ?_
  refine Calls.mono ((text_nil bw name 1 (by omega) (by decide) (by decide) _ (hH.get (b := bw) (by repeat (first | exact In.here | refine In.there ?_)))).mono (fun e w1 hP => hP)) ?_
  rintro e w1 hP
  obtain ⟨bx1, cx1, kx1, rfl, hrx1, hpx1, hkx1, hBx1, hmx1⟩ := hP
  have hBx1 : BB cx1 kx1 (beB name.size 1 ++ name.data.toList) := hBx1
  have hpx1 : w1.heap[bw]? = some (.cells [Value.slice (some ⟨bx1, 0, none⟩) ((beB name.size 1 ++ name.data.toList)).length cx1].toArray 42 (0, 0)) := hpx1
  have hnx1 : bx1 ≠ bw := fun e => by have h9 := lt_of_block (hH.get (b := bw) (by repeat (first | exact .here | apply In.there | apply Put.there | apply Del.there))); omega
  have hwx1 := Nat.le_trans hH.mod.size hrx1
  replace hH := hH.modPutN hmx1 hpx1 (by repeat (first | exact .here | apply In.there | apply Put.there | apply Del.there)) (.inl rfl) hrx1 hkx1
  refine ⟨_, rfl, hH.kp0, ?_⟩
  clear hS; intro a hS
  refine Sq.nil ?_
  refine blk_n ?_
  refine then_n ?_
  refine c_seq ?_
  refine reg_plain w0 (fun x => x = bw) ?_
  refine r_move hS hH.kp0 rfl rfl ?_; clear hS; intro a hS
  refine r_fieldAddr hS hH.kp0 rfl Fc.fo27_10 rfl ?_; clear hS; intro a hS
  refine r_load_ag hS hH (by repeat (first | exact Sub.nil | refine Sub.cons ?_ ?_ | exact In.here | refine In.there ?_)) rfl (by repeat (first | exact In.here | refine In.there ?_)) Fc.ag23 (of_decide_eq_true rfl) rfl ?_; clear hS; intro a hS
  refine r_call (l := [.tmp 120, .tmp 122]) hS rfl rfl Fc.fn19 rfl ?_
  refine Calls.mono ((handle_some bw bx1 cx1 kx1 (beB name.size 1 ++ name.data.toList) [m0, m1, m2, m3, m4, m5, m6, m7, m8, m9, ma, mb, mc, md, me, mf] rfl (by first | omega | (simp only [List.length_append, List.length_cons, List.length_nil, beB_len]; omega)) _ (hH.get (b := bw) (by repeat (first | exact In.here | refine In.there ?_))) (hH.get (b := bx1) (by repeat (first | exact In.here | refine In.there ?_))) hBx1 hnx1).mono (fun e w1 hP => hP)) ?_
  rintro e w1 hP
  obtain ⟨bx2, cx2, kx2, rfl, hrx2, hpx2, hkx2, hBx2, hmx2⟩ := hP
  have hBx2 : BB cx2 kx2 (beB name.size 1 ++ name.data.toList ++ [m0, m1, m2, m3, m4, m5, m6, m7, m8, m9, ma, mb, mc, md, me, mf]) := hBx2
  have hpx2 : w1.heap[bw]? = some (.cells [Value.slice (some ⟨bx2, 0, none⟩) ((beB name.size 1 ++ name.data.toList ++ [m0, m1, m2, m3, m4, m5, m6, m7, m8, m9, ma, mb, mc, md, me, mf])).length cx2].toArray 42 (0, 0)) := hpx2
  have hnx2 : bx2 ≠ bw := fun e => by rcases hrx2 with h | h; exact hnx1 (h.symm.trans e); have h9 := lt_of_block (hH.get (b := bw) (by repeat (first | exact .here | apply In.there | apply Put.there | apply Del.there))); omega
  have hwx2 : w0.heap.size ≤ bx2 := by rcases hrx2 with h | h; rw [h]; exact hwx1; exact Nat.le_trans hH.mod.size h
  replace hH := hH.modPut2 hmx2 (by repeat (first | exact .here | apply In.there | apply Put.there | apply Del.there)) (by repeat (first | exact .here | apply In.there | apply Put.there | apply Del.there)) hpx2 (.inl rfl) (.inr hwx1) hrx2 hkx2
  refine ⟨_, rfl, hH.kp0, ?_⟩
  clear hS; intro a hS
  refine Sq.nil ?_
  refine then_n ?_
  refine wp_exit ?_
  refine blk_hit ?_
  have hfin : beB name.size 1 ++ name.data.toList ++ [m0, m1, m2, m3, m4, m5, m6, m7, m8, m9, ma, mb, mc, md, me, mf] = bodyB 11 [r0, r1, r2, r3, r4, r5, r6, r7, r8, r9, ra, rb, rc, rd, re, rf] [s0, s1, s2, s3, s4, s5, s6, s7, s8, s9, sa, sb, sc, sd, se, sf] name ptl prm tck [n0, n1, n2, n3, n4, n5, n6, n7, n8, n9, na, nb, nc, nd, ne, nf] ea ag [m0, m1, m2, m3, m4, m5, m6, m7, m8, m9, ma, mb, mc, md, me, mf] li := by unfold bodyB; rw [if_neg (by decide)]; rw [if_neg (by decide)]; rw [if_neg (by decide)]; rw [if_neg (by decide)]; rw [if_pos rfl]
  rw [hfin] at hBx2 hH
  exact leave (.inr rfl) hS rfl Res.nil ⟨bx2, cx2, kx2, rfl, hwx2, hH.get (b := bw) (by repeat (first | exact In.here | refine In.there ?_)), hH.get (b := bx2) (by repeat (first | exact In.here | refine In.there ?_)), hBx2, hH.mod⟩

set_option maxRecDepth 100000 in
set_option maxHeartbeats 2000000 in
theorem body_x (kd : Int) (q1 q2 q3 : Option Addr) (c1 c2 c3 : Nat) (rnd shr bnd mrk : List UInt8) (name : ByteArray) (ptl : List ByteArray) (prm tck : List UInt8) (ea ag : Bool) (li : Int) (hrnd : rnd.length = 16) (hshr : shr.length = 16) (hbnd : bnd.length = 16) (hmrk : mrk.length = 16) (bw : Nat) (hk : kd ≠ 1 ∧ kd ≠ 2 ∧ kd ≠ 4 ∧ kd ≠ 8 ∧ kd ≠ 11) (w0 : World) (h1 : w0.heap[bw]? = some (.cells [Value.slice none 0 0].toArray 42 (0, 0))) (hpt : ∀ w', Mod (fun x => x = bw) w0 w' → SsA w' q1 c1 ptl) (hbP : BsF (fun x => x = bw) w0 (.slice q2 prm.length c2) prm) (hbT : BsF (fun x => x = bw) w0 (.slice q3 tck.length c3) tck) : Calls Try.prog 12 #[.pointer (some ⟨bw, 0, none⟩), .agg ([.int .i64 kd] ++ hcells rnd ++ hcells shr ++ [.string name, .slice q1 ptl.length c1, .slice q2 prm.length c2, .slice q3 tck.length c3] ++ hcells bnd ++ [.bool ea, .bool ag] ++ hcells mrk ++ [.int .i64 li] : List Value).toArray] w0 fun e w' => ∃ (b' c' : Nat) (k' : List Value), e = .returned (.tuple #[]) ∧ w0.heap.size ≤ b' ∧ w'.heap[bw]? = some (.cells [Value.slice (some ⟨b', 0, none⟩) (bodyB kd rnd shr name ptl prm tck bnd ea ag mrk li).length c'].toArray 42 (0, 0)) ∧ w'.heap[b']? = some (.cells k'.toArray 5 (0, 0)) ∧ BB c' k' (bodyB kd rnd shr name ptl prm tck bnd ea ag mrk li) ∧ Mod (fun x => x = bw) w0 w' := by
  refine enter Try.func12 rfl rfl rfl ?_
  intro a hS
  have hH := Hp.start w0 (fun x => x = bw)
  obtain ⟨r0, r1, r2, r3, r4, r5, r6, r7, r8, r9, ra, rb, rc, rd, re, rf, rfl⟩ := len16 hrnd
  obtain ⟨s0, s1, s2, s3, s4, s5, s6, s7, s8, s9, sa, sb, sc, sd, se, sf, rfl⟩ := len16 hshr
  obtain ⟨n0, n1, n2, n3, n4, n5, n6, n7, n8, n9, na, nb, nc, nd, ne, nf, rfl⟩ := len16 hbnd
  obtain ⟨m0, m1, m2, m3, m4, m5, m6, m7, m8, m9, ma, mb, mc, md, me, mf, rfl⟩ := len16 hmrk
  have hnl : name.data.toList.length = name.size := by rw [Array.length_toList]; rfl
  replace hH := hH.know h1 (fun p hp => by simp at hp)
  refine c_seq ?_
  refine reg_plain w0 (fun x => x = bw) ?_
  refine r_box hS hH (by repeat (first | exact Sub.nil | refine Sub.cons ?_ ?_ | exact In.here | refine In.there ?_)) rfl rfl rfl ?_
  clear hS hH; intro a w b3 hb3 hwb3 hS hH
  refine Sq.nil ?_
  refine then_n ?_
  refine c_seq ?_
  refine reg_plain w0 (fun x => x = bw) ?_
  refine r_fieldAddr hS hH.kp0 rfl Fc.fo27_0 rfl ?_; clear hS; intro a hS
  refine r_load_sc hS hH (by repeat (first | exact Sub.nil | refine Sub.cons ?_ ?_ | exact In.here | refine In.there ?_)) rfl (by repeat (first | exact In.here | refine In.there ?_)) Fc.sc3 (by rfl) rfl ?_; clear hS; intro a hS
  refine Sq.nil ?_
  refine then_n ?_
  refine wp_block ?_
  refine c_seq ?_
  refine wp_block ?_
  refine c_seq ?_
  refine wp_block ?_
  refine c_seq ?_
  refine wp_block ?_
  refine c_seq ?_
  refine wp_block ?_
  refine c_seq ?_
  refine wp_block ?_
  refine c_seq ?_
  refine wp_block ?_
  refine c_seq ?_
  refine c_seq ?_
  refine c_seq ?_
  refine reg_plain w0 (fun x => x = bw) ?_
  refine r_eql hS hH.kp0 rfl rfl rfl ?_; clear hS; intro a hS
  refine r_assign hS hH.kp0 rfl rfl ?_; clear hS; intro a hS
  refine Sq.nil ?_
  refine then_n ?_
  refine c_condF hS rfl (DF (by omega)) ?_
  refine wp_skip ?_
  refine then_n ?_
  refine c_seq ?_
  refine c_seq ?_
  refine reg_plain w0 (fun x => x = bw) ?_
  refine r_eql hS hH.kp0 rfl rfl rfl ?_; clear hS; intro a hS
  refine r_assign hS hH.kp0 rfl rfl ?_; clear hS; intro a hS
  refine Sq.nil ?_
  refine then_n ?_
  refine c_condF hS rfl (DF (by omega)) ?_
  refine wp_skip ?_
  refine then_n ?_
  refine c_seq ?_
  refine c_seq ?_
  refine reg_plain w0 (fun x => x = bw) ?_
  refine r_eql hS hH.kp0 rfl rfl rfl ?_; clear hS; intro a hS
  refine r_assign hS hH.kp0 rfl rfl ?_; clear hS; intro a hS
  refine Sq.nil ?_
  refine then_n ?_
  refine c_condF hS rfl (DF (by omega)) ?_
  refine wp_skip ?_
  refine then_n ?_
  refine c_seq ?_
  refine c_seq ?_
  refine reg_plain w0 (fun x => x = bw) ?_
  refine r_eql hS hH.kp0 rfl rfl rfl ?_; clear hS; intro a hS
  refine r_assign hS hH.kp0 rfl rfl ?_; clear hS; intro a hS
  refine Sq.nil ?_
  refine then_n ?_
  refine c_condF hS rfl (DF (by omega)) ?_
  refine wp_skip ?_
  refine then_n ?_
  refine c_seq ?_
  refine reg_plain w0 (fun x => x = bw) ?_
  refine r_eql hS hH.kp0 rfl rfl rfl ?_; clear hS; intro a hS
  refine r_assign hS hH.kp0 rfl rfl ?_; clear hS; intro a hS
  refine Sq.nil ?_
  refine then_n ?_
  refine c_condF hS rfl (DF (by omega)) ?_
  refine wp_skip ?_
  refine then_n ?_
  refine wp_exit ?_
  refine blk_e rfl ?_
  refine then_e ?_
  refine blk_e rfl ?_
  refine then_e ?_
  refine blk_e rfl ?_
  refine then_e ?_
  refine blk_e rfl ?_
  refine then_e ?_
  refine blk_e rfl ?_
  refine then_e ?_
  refine blk_hit ?_
  refine then_n ?_
  refine c_seq ?_
  refine reg_plain w0 (fun x => x = bw) ?_
  refine r_move hS hH.kp0 rfl rfl ?_; clear hS; intro a hS
  refine r_fieldAddr hS hH.kp0 rfl Fc.fo27_10 rfl ?_; clear hS; intro a hS
  refine r_load_ag hS hH (by repeat (first | exact Sub.nil | refine Sub.cons ?_ ?_ | exact In.here | refine In.there ?_)) rfl (by repeat (first | exact In.here | refine In.there ?_)) Fc.ag23 (of_decide_eq_true rfl) rfl ?_; clear hS; intro a hS
  refine r_call (l := [.tmp 120, .tmp 122]) hS rfl rfl Fc.fn19 rfl ?_
  refine Calls.mono ((handle_nil bw [m0, m1, m2, m3, m4, m5, m6, m7, m8, m9, ma, mb, mc, md, me, mf] rfl _ (hH.get (b := bw) (by repeat (first | exact In.here | refine In.there ?_)))).mono (fun e w1 hP => hP)) ?_
  rintro e w1 hP
  obtain ⟨bx1, cx1, kx1, rfl, hrx1, hpx1, hkx1, hBx1, hmx1⟩ := hP
  have hBx1 : BB cx1 kx1 ([m0, m1, m2, m3, m4, m5, m6, m7, m8, m9, ma, mb, mc, md, me, mf]) := hBx1
  have hpx1 : w1.heap[bw]? = some (.cells [Value.slice (some ⟨bx1, 0, none⟩) (([m0, m1, m2, m3, m4, m5, m6, m7, m8, m9, ma, mb, mc, md, me, mf])).length cx1].toArray 42 (0, 0)) := hpx1
  have hnx1 : bx1 ≠ bw := fun e => by have h9 := lt_of_block (hH.get (b := bw) (by repeat (first | exact .here | apply In.there | apply Put.there | apply Del.there))); omega
  have hwx1 := Nat.le_trans hH.mod.size hrx1
  replace hH := hH.modPutN hmx1 hpx1 (by repeat (first | exact .here | apply In.there | apply Put.there | apply Del.there)) (.inl rfl) hrx1 hkx1
  refine ⟨_, rfl, hH.kp0, ?_⟩
  clear hS; intro a hS
  refine Sq.nil ?_
  refine then_n ?_
  refine wp_exit ?_
  refine blk_hit ?_
  have hfin : [m0, m1, m2, m3, m4, m5, m6, m7, m8, m9, ma, mb, mc, md, me, mf] = bodyB kd [r0, r1, r2, r3, r4, r5, r6, r7, r8, r9, ra, rb, rc, rd, re, rf] [s0, s1, s2, s3, s4, s5, s6, s7, s8, s9, sa, sb, sc, sd, se, sf] name ptl prm tck [n0, n1, n2, n3, n4, n5, n6, n7, n8, n9, na, nb, nc, nd, ne, nf] ea ag [m0, m1, m2, m3, m4, m5, m6, m7, m8, m9, ma, mb, mc, md, me, mf] li := by unfold bodyB; rw [if_neg hk.1, if_neg hk.2.1, if_neg hk.2.2.1, if_neg hk.2.2.2.1, if_neg hk.2.2.2.2]
  rw [hfin] at hBx1 hH
  exact leave (.inr rfl) hS rfl Res.nil ⟨bx1, cx1, kx1, rfl, hwx1, hH.get (b := bw) (by repeat (first | exact In.here | refine In.there ?_)), hH.get (b := bx1) (by repeat (first | exact In.here | refine In.there ?_)), hBx1, hH.mod⟩


theorem body_c (kd : Int) (q1 q2 q3 : Option Addr) (c1 c2 c3 : Nat) (rnd shr bnd mrk : List UInt8) (name : ByteArray) (ptl : List ByteArray) (prm tck : List UInt8) (ea ag : Bool) (li : Int) (hrnd : rnd.length = 16) (hshr : shr.length = 16) (hbnd : bnd.length = 16) (hmrk : mrk.length = 16) (hkn : kd = 1 ∨ kd = 2 ∨ kd = 4 ∨ kd = 8 ∨ kd = 11 ∨ kd = 15 ∨ kd = 20) (hmay : mayM kd name.size ptl.length prm.length tck.length (bzN ea bnd) (oddN ptl) li) (bw : Nat) (w0 : World) (h1 : w0.heap[bw]? = some (.cells [Value.slice none 0 0].toArray 42 (0, 0))) (hpt : ∀ w', Mod (fun x => x = bw) w0 w' → SsA w' q1 c1 ptl) (hbP : BsF (fun x => x = bw) w0 (.slice q2 prm.length c2) prm) (hbT : BsF (fun x => x = bw) w0 (.slice q3 tck.length c3) tck) : Calls Try.prog 12 #[.pointer (some ⟨bw, 0, none⟩), .agg ([.int .i64 kd] ++ hcells rnd ++ hcells shr ++ [.string name, .slice q1 ptl.length c1, .slice q2 prm.length c2, .slice q3 tck.length c3] ++ hcells bnd ++ [.bool ea, .bool ag] ++ hcells mrk ++ [.int .i64 li] : List Value).toArray] w0 fun e w' => ∃ (b' c' : Nat) (k' : List Value), e = .returned (.tuple #[]) ∧ w0.heap.size ≤ b' ∧ w'.heap[bw]? = some (.cells [Value.slice (some ⟨b', 0, none⟩) (bodyB kd rnd shr name ptl prm tck bnd ea ag mrk li).length c'].toArray 42 (0, 0)) ∧ w'.heap[b']? = some (.cells k'.toArray 5 (0, 0)) ∧ BB c' k' (bodyB kd rnd shr name ptl prm tck bnd ea ag mrk li) ∧ Mod (fun x => x = bw) w0 w' := by
  obtain ⟨m1, m4, m8, m11⟩ := hmay
  rcases hkn with rfl | rfl | rfl | rfl | rfl | hx
  · obtain ⟨_, hp1, hp2, hp3, hp4, hp5, hp6⟩ := m1 rfl
    rcases (by omega : tck.length = 0 ∨ 1 ≤ tck.length) with ht | ht
    · cases ea
      · exact body_1ff q1 q2 q3 c1 c2 c3 rnd shr bnd mrk name ptl prm tck false ag li hrnd hshr hbnd hmrk bw hp5 hp2 hp3 hp4 hp6 ht rfl w0 h1 hpt hbP hbT
      · exact body_1ft q1 q2 q3 c1 c2 c3 rnd shr bnd mrk name ptl prm tck true ag li hrnd hshr hbnd hmrk bw hp5 hp2 hp3 hp4 hp6 ht rfl w0 h1 hpt hbP hbT
    · cases ea
      · exact body_1tf q1 q2 q3 c1 c2 c3 rnd shr bnd mrk name ptl prm tck false ag li hrnd hshr hbnd hmrk bw hp5 hp2 hp3 hp4 hp6 ht rfl w0 h1 hpt hbP hbT
      · exact body_1tt q1 q2 q3 c1 c2 c3 rnd shr bnd mrk name ptl prm tck true ag li hrnd hshr hbnd hmrk bw hp5 hp2 hp3 hp4 hp6 ht rfl w0 h1 hpt hbP hbT
  · cases ag
    · exact body_2f q1 q2 q3 c1 c2 c3 rnd shr bnd mrk name ptl prm tck ea false li hrnd hshr hbnd hmrk bw rfl w0 h1 hpt hbP hbT
    · exact body_2t q1 q2 q3 c1 c2 c3 rnd shr bnd mrk name ptl prm tck ea true li hrnd hshr hbnd hmrk bw rfl w0 h1 hpt hbP hbT
  · obtain ⟨hq1, hq2, _, hq3⟩ := m4 rfl
    cases ea
    · exact body_4f q1 q2 q3 c1 c2 c3 rnd shr bnd mrk name ptl prm tck false ag li hrnd hshr hbnd hmrk bw ⟨hq1, hq2⟩ hq3 rfl w0 h1 hpt hbP hbT
    · exact body_4t q1 q2 q3 c1 c2 c3 rnd shr bnd mrk name ptl prm tck true ag li hrnd hshr hbnd hmrk bw ⟨hq1, hq2⟩ hq3 rfl w0 h1 hpt hbP hbT
  · obtain ⟨hq1, hq2, hq3, hq4⟩ := m8 rfl
    cases ea
    · exact body_8f q1 q2 q3 c1 c2 c3 rnd shr bnd mrk name ptl prm tck false ag li hrnd hshr hbnd hmrk bw (by omega) hq3 hq4 rfl w0 h1 hpt hbP hbT
    · exact body_8t q1 q2 q3 c1 c2 c3 rnd shr bnd mrk name ptl prm tck true ag li hrnd hshr hbnd hmrk bw (by omega) hq3 hq4 rfl w0 h1 hpt hbP hbT
  · exact body_11 q1 q2 q3 c1 c2 c3 rnd shr bnd mrk name ptl prm tck ea ag li hrnd hshr hbnd hmrk bw (m11 rfl) w0 h1 hpt hbP hbT
  · exact body_x kd q1 q2 q3 c1 c2 c3 rnd shr bnd mrk name ptl prm tck ea ag li hrnd hshr hbnd hmrk bw (by omega) w0 h1 hpt hbP hbT

end Go.Proofs.Ytcenionnedgadaa
