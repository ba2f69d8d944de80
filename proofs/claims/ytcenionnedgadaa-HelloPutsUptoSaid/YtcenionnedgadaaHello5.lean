/- For every input of bulk at most 1048576 the law HelloPuts returns true and the input reads as it did. Part Hello5: walks and lemmas of the proof. -/
import Derived.Test.YtcenionnedgadaaHello4
import Derived.Test.YtcenionnedgadaaSymMsg2
namespace Go.Proofs.Ytcenionnedgadaa
open Go.Sym

theorem Fc.bsl25_4 : bslB Try.prog 25 4 = some (5, 1, [.int .u8 0, .int .u8 0, .int .u8 0, .int .u8 0]) := by kernel_rfl
theorem Fc.fo34_10 : foff Try.prog 34 10 = some 55 := by kernel_rfl
theorem Fc.fo34_9 : foff Try.prog 34 9 = some 54 := by kernel_rfl
set_option maxRecDepth 100000 in
set_option maxHeartbeats 4000000 in
theorem dbody_2f (q1 q2 q3 : Option Addr) (c1 c2 c3 : Nat) (rnd shr bnd mrk : List UInt8) (name : ByteArray) (ptl : List ByteArray) (prm tck : List UInt8) (ea ag : Bool) (li : Int) (hrnd : rnd.length = 16) (hshr : shr.length = 16) (hbnd : bnd.length = 16) (hmrk : mrk.length = 16) (hag : ag = false) (w0 : World) (hpl : ptl.length ≤ 1048576) (hpt : SsA w0 q1 c1 ptl) (hbP : BsF Nobody w0 (.slice q2 prm.length c2) prm) (hbT : BsF Nobody w0 (.slice q3 tck.length c3) tck) : Calls Try.prog 17 #[.agg ([.int .i64 2] ++ hcells rnd ++ hcells shr ++ [.string name, .slice q1 ptl.length c1, .slice q2 prm.length c2, .slice q3 tck.length c3] ++ hcells bnd ++ [.bool ea, .bool ag] ++ hcells mrk ++ [.int .i64 li] : List Value).toArray] w0 fun e w' => ∃ (b' c' : Nat) (k' : List Value), e = .returned (.slice (some ⟨b', 0, none⟩) (bodyB 2 rnd shr name ptl prm tck bnd ea ag mrk li).length c') ∧ w0.heap.size ≤ b' ∧ w'.heap[b']? = some (.cells k'.toArray 5 (0, 0)) ∧ BB c' k' (bodyB 2 rnd shr name ptl prm tck bnd ea ag mrk li) ∧ Ext w0 w' := by
  refine enter Try.func17 rfl rfl rfl ?_
  intro a hS
  have hH := Hp.start w0 (Nobody)
  subst hag
  obtain ⟨r0, r1, r2, r3, r4, r5, r6, r7, r8, r9, ra, rb, rc, rd, re, rf, rfl⟩ := len16 hrnd
  obtain ⟨s0, s1, s2, s3, s4, s5, s6, s7, s8, s9, sa, sb, sc, sd, se, sf, rfl⟩ := len16 hshr
  obtain ⟨n0, n1, n2, n3, n4, n5, n6, n7, n8, n9, na, nb, nc, nd, ne, nf, rfl⟩ := len16 hbnd
  obtain ⟨m0, m1, m2, m3, m4, m5, m6, m7, m8, m9, ma, mb, mc, md, me, mf, rfl⟩ := len16 hmrk
  have hnl : name.data.toList.length = name.size := by rw [Array.length_toList]; rfl
  refine c_seq ?_
  refine reg_plain w0 (Nobody) ?_
  refine r_box hS hH (by repeat (first | exact Sub.nil | refine Sub.cons ?_ ?_ | exact In.here | refine In.there ?_)) rfl rfl rfl ?_
  clear hS hH; intro a w b1 hb1 hwb1 hS hH
  refine r_assign hS hH.kp0 rfl rfl ?_; clear hS; intro a hS
  refine Sq.nil ?_
  refine then_n ?_
  refine c_seq ?_
  refine reg_plain w0 (Nobody) ?_
  refine r_assign hS hH.kp0 rfl rfl ?_; clear hS; intro a hS
  refine Sq.nil ?_
  refine then_n ?_
  refine c_seq ?_
  refine c_seq ?_
  refine reg_plain w0 (Nobody) ?_
  refine r_fieldAddr hS hH.kp0 rfl Fc.fo34_0 rfl ?_; clear hS; intro a hS
  refine r_load_sc hS hH (by repeat (first | exact Sub.nil | refine Sub.cons ?_ ?_ | exact In.here | refine In.there ?_)) rfl (by repeat (first | exact In.here | refine In.there ?_)) Fc.sc3 (by rfl) rfl ?_; clear hS; intro a hS
  refine Sq.nil ?_
  refine then_n ?_
  refine wp_block ?_
  refine c_seq ?_
  refine reg_plain w0 (Nobody) ?_
  refine r_eql hS hH.kp0 rfl rfl rfl ?_; clear hS; intro a hS
  refine r_assign hS hH.kp0 rfl rfl ?_; clear hS; intro a hS
  refine Sq.nil ?_
  refine then_n ?_
  refine c_condF hS rfl rfl ?_
  refine c_seq ?_
  refine reg_plain w0 (Nobody) ?_
  refine r_eql hS hH.kp0 rfl rfl rfl ?_; clear hS; intro a hS
  refine r_assign hS hH.kp0 rfl rfl ?_; clear hS; intro a hS
  refine Sq.nil ?_
  refine then_n ?_
  refine c_condT hS rfl rfl ?_
  refine c_seq ?_
  refine reg_draw [(true, 0, []), (true, 1, []), (true, 2, []), (true, 4, []), (true, 5, []), (false, 3, []), (false, 6, []), (true, 7, [])] Fc.mixed (by kernel_rfl) (by kernel_rfl) (by kernel_rfl) (by kernel_rfl) (by kernel_rfl) (by repeat (first | with_reducible exact steady_body | with_reducible apply steady_block | with_reducible apply steady_then | with_reducible apply steady_scope | exact steady_body)) hH ?_
  replace hH := hH.drew
  refine r_move hS trivial rfl rfl ?_; clear hS; intro a hS
  refine r_fieldAddr hS trivial rfl Fc.fo34_1 rfl ?_; clear hS; intro a hS
  refine r_slArr hS trivial rfl Fc.ar22 rfl ?_; clear hS; intro a hS
  refine r_fieldAddr hS trivial rfl Fc.fo34_2 rfl ?_; clear hS; intro a hS
  refine r_slArr hS trivial rfl Fc.ar22 rfl ?_; clear hS; intro a hS
  refine r_append_nil hS hH (by repeat (first | exact Sub.nil | refine Sub.cons ?_ ?_ | exact In.here | refine In.there ?_)) rfl rfl Fc.el25 Fc.ni25 ((Bs.row (o := 0 + 1) (u := [r0, r1, r2, r3, r4, r5, r6, r7, r8, r9, ra, rb, rc, rd, re, rf]) (cap := 16) (hH.get (b := b1) (by repeat (first | exact In.here | refine In.there ?_))) rfl (Nat.le_refl 16))).src (by simp) (by simp) rfl ?_
  clear hS hH; intro a w by1 cy1 ky1 hwy1 hwwy1 hly1 hmy1 htky1 hExy1 hS hH
  have hBy1 : BB cy1 ky1 ([r0, r1, r2, r3, r4, r5, r6, r7, r8, r9, ra, rb, rc, rd, re, rf]) := ⟨by rw [hly1, Nat.mul_one], hmy1, by rw [Nat.mul_one] at htky1; exact htky1⟩
  rw [show ([r0, r1, r2, r3, r4, r5, r6, r7, r8, r9, ra, rb, rc, rd, re, rf] : List UInt8).length = ([r0, r1, r2, r3, r4, r5, r6, r7, r8, r9, ra, rb, rc, rd, re, rf]).length from by simp] at hS
  have hoby1 : Nobody by1 ∨ w0.heap.size ≤ by1 := .inr hwy1
  refine r_append_own hS hH rfl rfl (by repeat (first | exact .here | apply In.there | apply Put.there | apply Del.there)) (by repeat (first | exact Sub.nil | refine Sub.cons ?_ ?_ | exact In.here | refine In.there ?_)) Fc.el25 Fc.ni25 (by rw [hBy1.len, Nat.mul_one]) hBy1.le (Bs.row (o := 0 + 17) (u := [s0, s1, s2, s3, s4, s5, s6, s7, s8, s9, sa, sb, sc, sd, se, sf]) (cap := 16) (hH.get (b := b1) (by repeat (first | exact In.here | refine In.there ?_))) rfl (Nat.le_refl 16)).src (by first | omega | (simp only [List.length_append, List.length_cons, List.length_nil, beB_len]; omega)) hoby1 rfl ?_
  clear hS hH; intro a w by2 cy2 ky2 hoby2 hly2 hcy2 hty2 hmy2 hS hH
  have hey2 : ([r0, r1, r2, r3, r4, r5, r6, r7, r8, r9, ra, rb, rc, rd, re, rf]).length + ([s0, s1, s2, s3, s4, s5, s6, s7, s8, s9, sa, sb, sc, sd, se, sf]).length = ([r0, r1, r2, r3, r4, r5, r6, r7, r8, r9, ra, rb, rc, rd, re, rf] ++ [s0, s1, s2, s3, s4, s5, s6, s7, s8, s9, sa, sb, sc, sd, se, sf]).length := (show ([r0, r1, r2, r3, r4, r5, r6, r7, r8, r9, ra, rb, rc, rd, re, rf]).length + ([s0, s1, s2, s3, s4, s5, s6, s7, s8, s9, sa, sb, sc, sd, se, sf]).length = ([r0, r1, r2, r3, r4, r5, r6, r7, r8, r9, ra, rb, rc, rd, re, rf] ++ [s0, s1, s2, s3, s4, s5, s6, s7, s8, s9, sa, sb, sc, sd, se, sf]).length from List.length_append.symm)
  have hBy2 : BB cy2 ky2 ([r0, r1, r2, r3, r4, r5, r6, r7, r8, r9, ra, rb, rc, rd, re, rf] ++ [s0, s1, s2, s3, s4, s5, s6, s7, s8, s9, sa, sb, sc, sd, se, sf]) := ⟨by rw [hly2, Nat.mul_one], by rw [← hey2]; exact hcy2, by rw [← hey2]; rw [Nat.mul_one, Nat.mul_one] at hty2; rw [hty2, hBy1.take]; exact List.map_append.symm⟩
  rw [hey2] at hS
  refine r_assign hS trivial rfl rfl ?_; clear hS; intro a hS
  refine Sq.nil ?_
  refine then_n ?_
  refine reg_plain w0 (Nobody) ?_
  refine r_move hS hH.kp0 rfl rfl ?_; clear hS; intro a hS
  refine r_fieldAddr hS hH.kp0 rfl Fc.fo34_9 rfl ?_; clear hS; intro a hS
  refine r_load_sc hS hH (by repeat (first | exact Sub.nil | refine Sub.cons ?_ ?_ | exact In.here | refine In.there ?_)) rfl (by repeat (first | exact In.here | refine In.there ?_)) Fc.sc4 (by rfl) rfl ?_; clear hS; intro a hS
  refine r_call (l := [.tmp 71, .tmp 73, .const (.bool false)]) hS rfl rfl Fc.fn24 rfl ?_
  refine Calls.mono ((flag_ff by2 cy2 ky2 ([r0, r1, r2, r3, r4, r5, r6, r7, r8, r9, ra, rb, rc, rd, re, rf] ++ [s0, s1, s2, s3, s4, s5, s6, s7, s8, s9, sa, sb, sc, sd, se, sf]) (by first | omega | (simp only [List.length_append, List.length_cons, List.length_nil, beB_len]; omega)) _ (hH.get (b := by2) (by repeat (first | exact In.here | refine In.there ?_))) hBy2).mono (fun e w1 hP => hP)) ?_
  rintro e w1 hP
  obtain ⟨by3, cy3, ky3, rfl, hry3, hky3, hBy3, hmy3⟩ := hP
  have hBy3 : BB cy3 ky3 ([r0, r1, r2, r3, r4, r5, r6, r7, r8, r9, ra, rb, rc, rd, re, rf] ++ [s0, s1, s2, s3, s4, s5, s6, s7, s8, s9, sa, sb, sc, sd, se, sf] ++ [0]) := hBy3
  have hoby3 : Nobody by3 ∨ w0.heap.size ≤ by3 := hry3.elim (fun h => by rw [h]; exact hoby2) (fun h => .inr (Nat.le_trans hH.mod.size h))
  replace hH := hH.modNew hmy3 (by repeat (first | exact .here | apply In.there | apply Put.there | apply Del.there)) hoby2 hry3 hky3
  refine ⟨_, rfl, hH.kp0, ?_⟩
  clear hS; intro a hS
  refine r_assign hS hH.kp0 rfl rfl ?_; clear hS; intro a hS
  refine Sq.nil ?_
  refine blk_n ?_
  refine then_n ?_
  refine c_seq ?_
  refine reg_plain w0 (Nobody) ?_
  refine r_move hS hH.kp0 rfl rfl ?_; clear hS; intro a hS
  refine r_assign hS hH.kp0 rfl rfl ?_; clear hS; intro a hS
  refine Sq.nil ?_
  refine then_n ?_
  refine wp_ret ?_
  have hfin : [r0, r1, r2, r3, r4, r5, r6, r7, r8, r9, ra, rb, rc, rd, re, rf] ++ [s0, s1, s2, s3, s4, s5, s6, s7, s8, s9, sa, sb, sc, sd, se, sf] ++ [0] = bodyB 2 [r0, r1, r2, r3, r4, r5, r6, r7, r8, r9, ra, rb, rc, rd, re, rf] [s0, s1, s2, s3, s4, s5, s6, s7, s8, s9, sa, sb, sc, sd, se, sf] name ptl prm tck [n0, n1, n2, n3, n4, n5, n6, n7, n8, n9, na, nb, nc, nd, ne, nf] ea false [m0, m1, m2, m3, m4, m5, m6, m7, m8, m9, ma, mb, mc, md, me, mf] li := by unfold bodyB; rw [if_neg (by decide)]; rw [if_pos rfl]; simp
  rw [hfin] at hS hBy3
  exact leave (.inl rfl) hS rfl (Res.tmp rfl Res.nil) ⟨by3, cy3, ky3, rfl, hoby3.resolve_left (fun h => h), hH.get (b := by3) (by repeat (first | exact In.here | refine In.there ?_)), hBy3, hH.mod⟩

set_option maxRecDepth 100000 in
set_option maxHeartbeats 4000000 in
theorem dbody_2t (q1 q2 q3 : Option Addr) (c1 c2 c3 : Nat) (rnd shr bnd mrk : List UInt8) (name : ByteArray) (ptl : List ByteArray) (prm tck : List UInt8) (ea ag : Bool) (li : Int) (hrnd : rnd.length = 16) (hshr : shr.length = 16) (hbnd : bnd.length = 16) (hmrk : mrk.length = 16) (hag : ag = true) (w0 : World) (hpl : ptl.length ≤ 1048576) (hpt : SsA w0 q1 c1 ptl) (hbP : BsF Nobody w0 (.slice q2 prm.length c2) prm) (hbT : BsF Nobody w0 (.slice q3 tck.length c3) tck) : Calls Try.prog 17 #[.agg ([.int .i64 2] ++ hcells rnd ++ hcells shr ++ [.string name, .slice q1 ptl.length c1, .slice q2 prm.length c2, .slice q3 tck.length c3] ++ hcells bnd ++ [.bool ea, .bool ag] ++ hcells mrk ++ [.int .i64 li] : List Value).toArray] w0 fun e w' => ∃ (b' c' : Nat) (k' : List Value), e = .returned (.slice (some ⟨b', 0, none⟩) (bodyB 2 rnd shr name ptl prm tck bnd ea ag mrk li).length c') ∧ w0.heap.size ≤ b' ∧ w'.heap[b']? = some (.cells k'.toArray 5 (0, 0)) ∧ BB c' k' (bodyB 2 rnd shr name ptl prm tck bnd ea ag mrk li) ∧ Ext w0 w' := by
  refine enter Try.func17 rfl rfl rfl ?_
  intro a hS
  have hH := Hp.start w0 (Nobody)
  subst hag
  obtain ⟨r0, r1, r2, r3, r4, r5, r6, r7, r8, r9, ra, rb, rc, rd, re, rf, rfl⟩ := len16 hrnd
  obtain ⟨s0, s1, s2, s3, s4, s5, s6, s7, s8, s9, sa, sb, sc, sd, se, sf, rfl⟩ := len16 hshr
  obtain ⟨n0, n1, n2, n3, n4, n5, n6, n7, n8, n9, na, nb, nc, nd, ne, nf, rfl⟩ := len16 hbnd
  obtain ⟨m0, m1, m2, m3, m4, m5, m6, m7, m8, m9, ma, mb, mc, md, me, mf, rfl⟩ := len16 hmrk
  have hnl : name.data.toList.length = name.size := by rw [Array.length_toList]; rfl
  refine c_seq ?_
  refine reg_plain w0 (Nobody) ?_
  refine r_box hS hH (by repeat (first | exact Sub.nil | refine Sub.cons ?_ ?_ | exact In.here | refine In.there ?_)) rfl rfl rfl ?_
  clear hS hH; intro a w b1 hb1 hwb1 hS hH
  refine r_assign hS hH.kp0 rfl rfl ?_; clear hS; intro a hS
  refine Sq.nil ?_
  refine then_n ?_
  refine c_seq ?_
  refine reg_plain w0 (Nobody) ?_
  refine r_assign hS hH.kp0 rfl rfl ?_; clear hS; intro a hS
  refine Sq.nil ?_
  refine then_n ?_
  refine c_seq ?_
  refine c_seq ?_
  refine reg_plain w0 (Nobody) ?_
  refine r_fieldAddr hS hH.kp0 rfl Fc.fo34_0 rfl ?_; clear hS; intro a hS
  refine r_load_sc hS hH (by repeat (first | exact Sub.nil | refine Sub.cons ?_ ?_ | exact In.here | refine In.there ?_)) rfl (by repeat (first | exact In.here | refine In.there ?_)) Fc.sc3 (by rfl) rfl ?_; clear hS; intro a hS
  refine Sq.nil ?_
  refine then_n ?_
  refine wp_block ?_
  refine c_seq ?_
  refine reg_plain w0 (Nobody) ?_
  refine r_eql hS hH.kp0 rfl rfl rfl ?_; clear hS; intro a hS
  refine r_assign hS hH.kp0 rfl rfl ?_; clear hS; intro a hS
  refine Sq.nil ?_
  refine then_n ?_
  refine c_condF hS rfl rfl ?_
  refine c_seq ?_
  refine reg_plain w0 (Nobody) ?_
  refine r_eql hS hH.kp0 rfl rfl rfl ?_; clear hS; intro a hS
  refine r_assign hS hH.kp0 rfl rfl ?_; clear hS; intro a hS
  refine Sq.nil ?_
  refine then_n ?_
  refine c_condT hS rfl rfl ?_
  refine c_seq ?_
  refine reg_draw [(true, 0, []), (true, 1, []), (true, 2, []), (true, 4, []), (true, 5, []), (false, 3, []), (false, 6, []), (true, 7, [])] Fc.mixed (by kernel_rfl) (by kernel_rfl) (by kernel_rfl) (by kernel_rfl) (by kernel_rfl) (by repeat (first | with_reducible exact steady_body | with_reducible apply steady_block | with_reducible apply steady_then | with_reducible apply steady_scope | exact steady_body)) hH ?_
  replace hH := hH.drew
  refine r_move hS trivial rfl rfl ?_; clear hS; intro a hS
  refine r_fieldAddr hS trivial rfl Fc.fo34_1 rfl ?_; clear hS; intro a hS
  refine r_slArr hS trivial rfl Fc.ar22 rfl ?_; clear hS; intro a hS
  refine r_fieldAddr hS trivial rfl Fc.fo34_2 rfl ?_; clear hS; intro a hS
  refine r_slArr hS trivial rfl Fc.ar22 rfl ?_; clear hS; intro a hS
  refine r_append_nil hS hH (by repeat (first | exact Sub.nil | refine Sub.cons ?_ ?_ | exact In.here | refine In.there ?_)) rfl rfl Fc.el25 Fc.ni25 ((Bs.row (o := 0 + 1) (u := [r0, r1, r2, r3, r4, r5, r6, r7, r8, r9, ra, rb, rc, rd, re, rf]) (cap := 16) (hH.get (b := b1) (by repeat (first | exact In.here | refine In.there ?_))) rfl (Nat.le_refl 16))).src (by simp) (by simp) rfl ?_
  clear hS hH; intro a w by1 cy1 ky1 hwy1 hwwy1 hly1 hmy1 htky1 hExy1 hS hH
  have hBy1 : BB cy1 ky1 ([r0, r1, r2, r3, r4, r5, r6, r7, r8, r9, ra, rb, rc, rd, re, rf]) := ⟨by rw [hly1, Nat.mul_one], hmy1, by rw [Nat.mul_one] at htky1; exact htky1⟩
  rw [show ([r0, r1, r2, r3, r4, r5, r6, r7, r8, r9, ra, rb, rc, rd, re, rf] : List UInt8).length = ([r0, r1, r2, r3, r4, r5, r6, r7, r8, r9, ra, rb, rc, rd, re, rf]).length from by simp] at hS
  have hoby1 : Nobody by1 ∨ w0.heap.size ≤ by1 := .inr hwy1
  refine r_append_own hS hH rfl rfl (by repeat (first | exact .here | apply In.there | apply Put.there | apply Del.there)) (by repeat (first | exact Sub.nil | refine Sub.cons ?_ ?_ | exact In.here | refine In.there ?_)) Fc.el25 Fc.ni25 (by rw [hBy1.len, Nat.mul_one]) hBy1.le (Bs.row (o := 0 + 17) (u := [s0, s1, s2, s3, s4, s5, s6, s7, s8, s9, sa, sb, sc, sd, se, sf]) (cap := 16) (hH.get (b := b1) (by repeat (first | exact In.here | refine In.there ?_))) rfl (Nat.le_refl 16)).src (by first | omega | (simp only [List.length_append, List.length_cons, List.length_nil, beB_len]; omega)) hoby1 rfl ?_
  clear hS hH; intro a w by2 cy2 ky2 hoby2 hly2 hcy2 hty2 hmy2 hS hH
  have hey2 : ([r0, r1, r2, r3, r4, r5, r6, r7, r8, r9, ra, rb, rc, rd, re, rf]).length + ([s0, s1, s2, s3, s4, s5, s6, s7, s8, s9, sa, sb, sc, sd, se, sf]).length = ([r0, r1, r2, r3, r4, r5, r6, r7, r8, r9, ra, rb, rc, rd, re, rf] ++ [s0, s1, s2, s3, s4, s5, s6, s7, s8, s9, sa, sb, sc, sd, se, sf]).length := (show ([r0, r1, r2, r3, r4, r5, r6, r7, r8, r9, ra, rb, rc, rd, re, rf]).length + ([s0, s1, s2, s3, s4, s5, s6, s7, s8, s9, sa, sb, sc, sd, se, sf]).length = ([r0, r1, r2, r3, r4, r5, r6, r7, r8, r9, ra, rb, rc, rd, re, rf] ++ [s0, s1, s2, s3, s4, s5, s6, s7, s8, s9, sa, sb, sc, sd, se, sf]).length from List.length_append.symm)
  have hBy2 : BB cy2 ky2 ([r0, r1, r2, r3, r4, r5, r6, r7, r8, r9, ra, rb, rc, rd, re, rf] ++ [s0, s1, s2, s3, s4, s5, s6, s7, s8, s9, sa, sb, sc, sd, se, sf]) := ⟨by rw [hly2, Nat.mul_one], by rw [← hey2]; exact hcy2, by rw [← hey2]; rw [Nat.mul_one, Nat.mul_one] at hty2; rw [hty2, hBy1.take]; exact List.map_append.symm⟩
  rw [hey2] at hS
  refine r_assign hS trivial rfl rfl ?_; clear hS; intro a hS
  refine Sq.nil ?_
  refine then_n ?_
  refine reg_plain w0 (Nobody) ?_
  refine r_move hS hH.kp0 rfl rfl ?_; clear hS; intro a hS
  refine r_fieldAddr hS hH.kp0 rfl Fc.fo34_9 rfl ?_; clear hS; intro a hS
  refine r_load_sc hS hH (by repeat (first | exact Sub.nil | refine Sub.cons ?_ ?_ | exact In.here | refine In.there ?_)) rfl (by repeat (first | exact In.here | refine In.there ?_)) Fc.sc4 (by rfl) rfl ?_; clear hS; intro a hS
  refine r_call (l := [.tmp 71, .tmp 73, .const (.bool false)]) hS rfl rfl Fc.fn24 rfl ?_
  refine Calls.mono ((flag_tf by2 cy2 ky2 ([r0, r1, r2, r3, r4, r5, r6, r7, r8, r9, ra, rb, rc, rd, re, rf] ++ [s0, s1, s2, s3, s4, s5, s6, s7, s8, s9, sa, sb, sc, sd, se, sf]) (by first | omega | (simp only [List.length_append, List.length_cons, List.length_nil, beB_len]; omega)) _ (hH.get (b := by2) (by repeat (first | exact In.here | refine In.there ?_))) hBy2).mono (fun e w1 hP => hP)) ?_
  rintro e w1 hP
  obtain ⟨by3, cy3, ky3, rfl, hry3, hky3, hBy3, hmy3⟩ := hP
  have hBy3 : BB cy3 ky3 ([r0, r1, r2, r3, r4, r5, r6, r7, r8, r9, ra, rb, rc, rd, re, rf] ++ [s0, s1, s2, s3, s4, s5, s6, s7, s8, s9, sa, sb, sc, sd, se, sf] ++ [1]) := hBy3
  have hoby3 : Nobody by3 ∨ w0.heap.size ≤ by3 := hry3.elim (fun h => by rw [h]; exact hoby2) (fun h => .inr (Nat.le_trans hH.mod.size h))
  replace hH := hH.modNew hmy3 (by repeat (first | exact .here | apply In.there | apply Put.there | apply Del.there)) hoby2 hry3 hky3
  refine ⟨_, rfl, hH.kp0, ?_⟩
  clear hS; intro a hS
  refine r_assign hS hH.kp0 rfl rfl ?_; clear hS; intro a hS
  refine Sq.nil ?_
  refine blk_n ?_
  refine then_n ?_
  refine c_seq ?_
  refine reg_plain w0 (Nobody) ?_
  refine r_move hS hH.kp0 rfl rfl ?_; clear hS; intro a hS
  refine r_assign hS hH.kp0 rfl rfl ?_; clear hS; intro a hS
  refine Sq.nil ?_
  refine then_n ?_
  refine wp_ret ?_
  have hfin : [r0, r1, r2, r3, r4, r5, r6, r7, r8, r9, ra, rb, rc, rd, re, rf] ++ [s0, s1, s2, s3, s4, s5, s6, s7, s8, s9, sa, sb, sc, sd, se, sf] ++ [1] = bodyB 2 [r0, r1, r2, r3, r4, r5, r6, r7, r8, r9, ra, rb, rc, rd, re, rf] [s0, s1, s2, s3, s4, s5, s6, s7, s8, s9, sa, sb, sc, sd, se, sf] name ptl prm tck [n0, n1, n2, n3, n4, n5, n6, n7, n8, n9, na, nb, nc, nd, ne, nf] ea true [m0, m1, m2, m3, m4, m5, m6, m7, m8, m9, ma, mb, mc, md, me, mf] li := by unfold bodyB; rw [if_neg (by decide)]; rw [if_pos rfl]; simp
  rw [hfin] at hS hBy3
  exact leave (.inl rfl) hS rfl (Res.tmp rfl Res.nil) ⟨by3, cy3, ky3, rfl, hoby3.resolve_left (fun h => h), hH.get (b := by3) (by repeat (first | exact In.here | refine In.there ?_)), hBy3, hH.mod⟩

set_option maxRecDepth 100000 in
set_option maxHeartbeats 4000000 in
theorem dbody_4f (q1 q2 q3 : Option Addr) (c1 c2 c3 : Nat) (rnd shr bnd mrk : List UInt8) (name : ByteArray) (ptl : List ByteArray) (prm tck : List UInt8) (ea ag : Bool) (li : Int) (hrnd : rnd.length = 16) (hshr : shr.length = 16) (hbnd : bnd.length = 16) (hmrk : mrk.length = 16) (hli : 0 ≤ li ∧ li ≤ 4294967295) (htk : tck.length ≤ 512) (hea : ea = false) (w0 : World) (hpl : ptl.length ≤ 1048576) (hpt : SsA w0 q1 c1 ptl) (hbP : BsF Nobody w0 (.slice q2 prm.length c2) prm) (hbT : BsF Nobody w0 (.slice q3 tck.length c3) tck) : Calls Try.prog 17 #[.agg ([.int .i64 4] ++ hcells rnd ++ hcells shr ++ [.string name, .slice q1 ptl.length c1, .slice q2 prm.length c2, .slice q3 tck.length c3] ++ hcells bnd ++ [.bool ea, .bool ag] ++ hcells mrk ++ [.int .i64 li] : List Value).toArray] w0 fun e w' => ∃ (b' c' : Nat) (k' : List Value), e = .returned (.slice (some ⟨b', 0, none⟩) (bodyB 4 rnd shr name ptl prm tck bnd ea ag mrk li).length c') ∧ w0.heap.size ≤ b' ∧ w'.heap[b']? = some (.cells k'.toArray 5 (0, 0)) ∧ BB c' k' (bodyB 4 rnd shr name ptl prm tck bnd ea ag mrk li) ∧ Ext w0 w' := by
  refine enter Try.func17 rfl rfl rfl ?_
  intro a hS
  have hH := Hp.start w0 (Nobody)
  subst hea
  obtain ⟨hli0, hli1⟩ := hli
  obtain ⟨ln, rfl⟩ := Int.eq_ofNat_of_zero_le hli0
  obtain ⟨r0, r1, r2, r3, r4, r5, r6, r7, r8, r9, ra, rb, rc, rd, re, rf, rfl⟩ := len16 hrnd
  obtain ⟨s0, s1, s2, s3, s4, s5, s6, s7, s8, s9, sa, sb, sc, sd, se, sf, rfl⟩ := len16 hshr
  obtain ⟨n0, n1, n2, n3, n4, n5, n6, n7, n8, n9, na, nb, nc, nd, ne, nf, rfl⟩ := len16 hbnd
  obtain ⟨m0, m1, m2, m3, m4, m5, m6, m7, m8, m9, ma, mb, mc, md, me, mf, rfl⟩ := len16 hmrk
  have hnl : name.data.toList.length = name.size := by rw [Array.length_toList]; rfl
  refine c_seq ?_
  refine reg_plain w0 (Nobody) ?_
  refine r_box hS hH (by repeat (first | exact Sub.nil | refine Sub.cons ?_ ?_ | exact In.here | refine In.there ?_)) rfl rfl rfl ?_
  clear hS hH; intro a w b1 hb1 hwb1 hS hH
  refine r_assign hS hH.kp0 rfl rfl ?_; clear hS; intro a hS
  refine Sq.nil ?_
  refine then_n ?_
  refine c_seq ?_
  refine reg_plain w0 (Nobody) ?_
  refine r_assign hS hH.kp0 rfl rfl ?_; clear hS; intro a hS
  refine Sq.nil ?_
  refine then_n ?_
  refine c_seq ?_
  refine c_seq ?_
  refine reg_plain w0 (Nobody) ?_
  refine r_fieldAddr hS hH.kp0 rfl Fc.fo34_0 rfl ?_; clear hS; intro a hS
  refine r_load_sc hS hH (by repeat (first | exact Sub.nil | refine Sub.cons ?_ ?_ | exact In.here | refine In.there ?_)) rfl (by repeat (first | exact In.here | refine In.there ?_)) Fc.sc3 (by rfl) rfl ?_; clear hS; intro a hS
  refine Sq.nil ?_
  refine then_n ?_
  refine wp_block ?_
  refine c_seq ?_
  refine reg_plain w0 (Nobody) ?_
  refine r_eql hS hH.kp0 rfl rfl rfl ?_; clear hS; intro a hS
  refine r_assign hS hH.kp0 rfl rfl ?_; clear hS; intro a hS
  refine Sq.nil ?_
  refine then_n ?_
  refine c_condF hS rfl rfl ?_
  refine c_seq ?_
  refine reg_plain w0 (Nobody) ?_
  refine r_eql hS hH.kp0 rfl rfl rfl ?_; clear hS; intro a hS
  refine r_assign hS hH.kp0 rfl rfl ?_; clear hS; intro a hS
  refine Sq.nil ?_
  refine then_n ?_
  refine c_condF hS rfl rfl ?_
  refine c_seq ?_
  refine reg_plain w0 (Nobody) ?_
  refine r_eql hS hH.kp0 rfl rfl rfl ?_; clear hS; intro a hS
  refine r_assign hS hH.kp0 rfl rfl ?_; clear hS; intro a hS
  refine Sq.nil ?_
  refine then_n ?_
  refine c_condT hS rfl rfl ?_
  refine c_seq ?_
  refine reg_plain w0 (Nobody) ?_
  refine r_move hS hH.kp0 rfl rfl ?_; clear hS; intro a hS
  refine r_fieldAddr hS hH.kp0 rfl Fc.fo34_11 rfl ?_; clear hS; intro a hS
  refine r_load_sc hS hH (by repeat (first | exact Sub.nil | refine Sub.cons ?_ ?_ | exact In.here | refine In.there ?_)) rfl (by repeat (first | exact In.here | refine In.there ?_)) Fc.sc3 (by rfl) rfl ?_; clear hS; intro a hS
  refine r_shrI ln 24 hS hH.kp0 rfl rfl rfl rfl (by decide) ?_; clear hS; intro a hS
  refine r_toU8 (q := (ln / 16777216)) (UInt8.ofNat ((ln / 16777216))) hS hH.kp0 rfl Fc.ui5 Fc.us3 rfl rfl ?_; clear hS; intro a hS
  refine r_fieldAddr hS hH.kp0 rfl Fc.fo34_11 rfl ?_; clear hS; intro a hS
  refine r_load_sc hS hH (by repeat (first | exact Sub.nil | refine Sub.cons ?_ ?_ | exact In.here | refine In.there ?_)) rfl (by repeat (first | exact In.here | refine In.there ?_)) Fc.sc3 (by rfl) rfl ?_; clear hS; intro a hS
  refine r_shrI ln 16 hS hH.kp0 rfl rfl rfl rfl (by decide) ?_; clear hS; intro a hS
  refine r_toU8 (q := (ln / 65536)) (UInt8.ofNat ((ln / 65536))) hS hH.kp0 rfl Fc.ui5 Fc.us3 rfl rfl ?_; clear hS; intro a hS
  refine r_fieldAddr hS hH.kp0 rfl Fc.fo34_11 rfl ?_; clear hS; intro a hS
  refine r_load_sc hS hH (by repeat (first | exact Sub.nil | refine Sub.cons ?_ ?_ | exact In.here | refine In.there ?_)) rfl (by repeat (first | exact In.here | refine In.there ?_)) Fc.sc3 (by rfl) rfl ?_; clear hS; intro a hS
  refine r_shrI ln 8 hS hH.kp0 rfl rfl rfl rfl (by decide) ?_; clear hS; intro a hS
  refine r_toU8 (q := (ln / 256)) (UInt8.ofNat ((ln / 256))) hS hH.kp0 rfl Fc.ui5 Fc.us3 rfl rfl ?_; clear hS; intro a hS
  refine r_fieldAddr hS hH.kp0 rfl Fc.fo34_11 rfl ?_; clear hS; intro a hS
  refine r_load_sc hS hH (by repeat (first | exact Sub.nil | refine Sub.cons ?_ ?_ | exact In.here | refine In.there ?_)) rfl (by repeat (first | exact In.here | refine In.there ?_)) Fc.sc3 (by rfl) rfl ?_; clear hS; intro a hS
  refine r_toU8 (q := ln) (UInt8.ofNat (ln)) hS hH.kp0 rfl Fc.ui5 Fc.us3 rfl rfl ?_; clear hS; intro a hS
  refine r_buildSlice (parts := [(0, .tmp 81), (1, .tmp 85), (2, .tmp 89), (3, .tmp 92)]) hS hH (by repeat (first | exact Sub.nil | refine Sub.cons ?_ ?_ | exact In.here | refine In.there ?_)) rfl Fc.bsl25_4 (by rfl) rfl ?_
  clear hS hH; intro a w b93 hb93 hwb93 hS hH
  refine r_append_nil hS hH (by repeat (first | exact Sub.nil | refine Sub.cons ?_ ?_ | exact In.here | refine In.there ?_)) rfl rfl Fc.el25 Fc.ni25 (((BB.lit [UInt8.ofNat (ln / 16777216), UInt8.ofNat (ln / 65536), UInt8.ofNat (ln / 256), UInt8.ofNat ln] rfl rfl).bs (hH.get (b := b93) (by repeat (first | exact In.here | refine In.there ?_))))).src (by simp) (by simp) rfl ?_
  clear hS hH; intro a w by1 cy1 ky1 hwy1 hwwy1 hly1 hmy1 htky1 hExy1 hS hH
  have hBy1 : BB cy1 ky1 ([UInt8.ofNat (ln / 16777216), UInt8.ofNat (ln / 65536), UInt8.ofNat (ln / 256), UInt8.ofNat ln]) := ⟨by rw [hly1, Nat.mul_one], hmy1, by rw [Nat.mul_one] at htky1; exact htky1⟩
  rw [show ([UInt8.ofNat (ln / 16777216), UInt8.ofNat (ln / 65536), UInt8.ofNat (ln / 256), UInt8.ofNat ln] : List UInt8).length = ([UInt8.ofNat (ln / 16777216), UInt8.ofNat (ln / 65536), UInt8.ofNat (ln / 256), UInt8.ofNat ln]).length from by simp] at hS
  have hoby1 : Nobody by1 ∨ w0.heap.size ≤ by1 := .inr hwy1
  refine r_assign hS hH.kp0 rfl rfl ?_; clear hS; intro a hS
  refine Sq.nil ?_
  refine then_n ?_
  refine reg_draw [(true, 0, [0]), (true, 1, [0]), (true, 2, [0]), (true, 4, [0]), (true, 5, [0]), (false, 3, [0]), (false, 6, [0]), (true, 7, [0])] Fc.mixed (by kernel_rfl) (by kernel_rfl) (by kernel_rfl) (by kernel_rfl) (by kernel_rfl) (by repeat (first | with_reducible exact steady_body | with_reducible apply steady_block | with_reducible apply steady_then | with_reducible apply steady_scope | exact steady_body)) hH ?_
  replace hH := hH.drew
  refine r_move hS trivial rfl rfl ?_; clear hS; intro a hS
  refine r_fieldAddr hS trivial rfl Fc.fo34_6 rfl ?_; clear hS; intro a hS
  refine r_load_scS hS rfl (by repeat (first | exact In.here | refine In.there ?_)) Fc.sc25 (by rfl) rfl ?_; clear hS; intro a hS
  refine r_fieldAddr hS trivial rfl Fc.fo34_8 rfl ?_; clear hS; intro a hS
  refine r_load_scS hS rfl (by repeat (first | exact In.here | refine In.there ?_)) Fc.sc4 (by rfl) rfl ?_; clear hS; intro a hS
  refine r_call (l := [.tmp 95, .tmp 97]) hS rfl rfl Fc.fn25 rfl ?_
  refine Calls.mono ((long_some by1 cy1 ky1 ([UInt8.ofNat (ln / 16777216), UInt8.ofNat (ln / 65536), UInt8.ofNat (ln / 256), UInt8.ofNat ln]) q3 c3 tck (by first | omega | (simp only [List.length_append, List.length_cons, List.length_nil, beB_len]; omega)) (by omega) _ (hH.get (b := by1) (by repeat (first | exact In.here | refine In.there ?_))) hBy1 (hbT.go hH.mod (fun x hx => .inr (by subst hx; exact hoby1.resolve_left (fun h => h))))).mono (fun e w1 hP => hP)) ?_
  rintro e w1 hP
  obtain ⟨by2, cy2, ky2, rfl, hry2, hky2, hBy2, hmy2⟩ := hP
  have hBy2 : BB cy2 ky2 ([UInt8.ofNat (ln / 16777216), UInt8.ofNat (ln / 65536), UInt8.ofNat (ln / 256), UInt8.ofNat ln] ++ [UInt8.ofNat (tck.length / 256), UInt8.ofNat tck.length] ++ tck) := hBy2
  have hoby2 : Nobody by2 ∨ w0.heap.size ≤ by2 := hry2.elim (fun h => by rw [h]; exact hoby1) (fun h => .inr (Nat.le_trans hH.mod.size h))
  replace hH := hH.modNew hmy2 (by repeat (first | exact .here | apply In.there | apply Put.there | apply Del.there)) hoby1 hry2 hky2
  refine ⟨_, rfl, hH.kp (by repeat (first | exact Sub.nil | refine Sub.cons ?_ ?_ | exact In.here | refine In.there ?_)), ?_⟩
  clear hS; intro a hS
  refine r_call (l := [.tmp 98, .tmp 100, .const (.bool false)]) hS rfl rfl Fc.fn24 rfl ?_
  refine Calls.mono ((flag_ff by2 cy2 ky2 ([UInt8.ofNat (ln / 16777216), UInt8.ofNat (ln / 65536), UInt8.ofNat (ln / 256), UInt8.ofNat ln] ++ [UInt8.ofNat (tck.length / 256), UInt8.ofNat tck.length] ++ tck) (by first | omega | (simp only [List.length_append, List.length_cons, List.length_nil, beB_len]; omega)) _ (hH.get (b := by2) (by repeat (first | exact In.here | refine In.there ?_))) hBy2).mono (fun e w1 hP => hP)) ?_
  rintro e w1 hP
  obtain ⟨by3, cy3, ky3, rfl, hry3, hky3, hBy3, hmy3⟩ := hP
  have hBy3 : BB cy3 ky3 ([UInt8.ofNat (ln / 16777216), UInt8.ofNat (ln / 65536), UInt8.ofNat (ln / 256), UInt8.ofNat ln] ++ [UInt8.ofNat (tck.length / 256), UInt8.ofNat tck.length] ++ tck ++ [0]) := hBy3
  have hoby3 : Nobody by3 ∨ w0.heap.size ≤ by3 := hry3.elim (fun h => by rw [h]; exact hoby2) (fun h => .inr (Nat.le_trans hH.mod.size h))
  replace hH := hH.modNew hmy3 (by repeat (first | exact .here | apply In.there | apply Put.there | apply Del.there)) hoby2 hry3 hky3
  refine ⟨_, rfl, hH.kp (by repeat (first | exact Sub.nil | refine Sub.cons ?_ ?_ | exact In.here | refine In.there ?_)), ?_⟩
  clear hS; intro a hS
  refine r_assign hS trivial rfl rfl ?_; clear hS; intro a hS
  refine Sq.nil ?_
  refine blk_n ?_
  refine then_n ?_
  refine c_seq ?_
  refine reg_plain w0 (Nobody) ?_
  refine r_move hS hH.kp0 rfl rfl ?_; clear hS; intro a hS
  refine r_assign hS hH.kp0 rfl rfl ?_; clear hS; intro a hS
  refine Sq.nil ?_
  refine then_n ?_
  refine wp_ret ?_
  have hfin : [UInt8.ofNat (ln / 16777216), UInt8.ofNat (ln / 65536), UInt8.ofNat (ln / 256), UInt8.ofNat ln] ++ [UInt8.ofNat (tck.length / 256), UInt8.ofNat tck.length] ++ tck ++ [0] = bodyB 4 [r0, r1, r2, r3, r4, r5, r6, r7, r8, r9, ra, rb, rc, rd, re, rf] [s0, s1, s2, s3, s4, s5, s6, s7, s8, s9, sa, sb, sc, sd, se, sf] name ptl prm tck [n0, n1, n2, n3, n4, n5, n6, n7, n8, n9, na, nb, nc, nd, ne, nf] false ag [m0, m1, m2, m3, m4, m5, m6, m7, m8, m9, ma, mb, mc, md, me, mf] (ln : Int) := by unfold bodyB; rw [if_neg (by decide)]; rw [if_neg (by decide)]; rw [if_pos rfl]; simp [beB2, beB4, List.append_assoc]
  rw [hfin] at hS hBy3
  exact leave (.inl rfl) hS rfl (Res.tmp rfl Res.nil) ⟨by3, cy3, ky3, rfl, hoby3.resolve_left (fun h => h), hH.get (b := by3) (by repeat (first | exact In.here | refine In.there ?_)), hBy3, hH.mod⟩

set_option maxRecDepth 100000 in
set_option maxHeartbeats 4000000 in
theorem dbody_8f (q1 q2 q3 : Option Addr) (c1 c2 c3 : Nat) (rnd shr bnd mrk : List UInt8) (name : ByteArray) (ptl : List ByteArray) (prm tck : List UInt8) (ea ag : Bool) (li : Int) (hrnd : rnd.length = 16) (hshr : shr.length = 16) (hbnd : bnd.length = 16) (hmrk : mrk.length = 16) (hpl1 : ptl.length = 1) (hod : oddN ptl = 0) (hpr : prm.length ≤ 4096) (hea : ea = false) (w0 : World) (hpl : ptl.length ≤ 1048576) (hpt : SsA w0 q1 c1 ptl) (hbP : BsF Nobody w0 (.slice q2 prm.length c2) prm) (hbT : BsF Nobody w0 (.slice q3 tck.length c3) tck) : Calls Try.prog 17 #[.agg ([.int .i64 8] ++ hcells rnd ++ hcells shr ++ [.string name, .slice q1 ptl.length c1, .slice q2 prm.length c2, .slice q3 tck.length c3] ++ hcells bnd ++ [.bool ea, .bool ag] ++ hcells mrk ++ [.int .i64 li] : List Value).toArray] w0 fun e w' => ∃ (b' c' : Nat) (k' : List Value), e = .returned (.slice (some ⟨b', 0, none⟩) (bodyB 8 rnd shr name ptl prm tck bnd ea ag mrk li).length c') ∧ w0.heap.size ≤ b' ∧ w'.heap[b']? = some (.cells k'.toArray 5 (0, 0)) ∧ BB c' k' (bodyB 8 rnd shr name ptl prm tck bnd ea ag mrk li) ∧ Ext w0 w' := by
  refine enter Try.func17 rfl rfl rfl ?_
  intro a hS
  have hH := Hp.start w0 (Nobody)
  subst hea
  obtain ⟨sp, rfl⟩ := List.length_eq_one_iff.1 hpl1
  obtain ⟨hsp1, hsp2⟩ : 1 ≤ sp.size ∧ sp.size ≤ 255 := oddN_zero (l := [sp]) (k := 0) (by simp) hod
  have hspl : sp.data.toList.length = sp.size := by rw [Array.length_toList]; rfl
  obtain ⟨ba, bo, hpq, _⟩ := hpt.cell (k := 0) (by show 0 < 1; decide)
  subst hpq
  obtain ⟨r0, r1, r2, r3, r4, r5, r6, r7, r8, r9, ra, rb, rc, rd, re, rf, rfl⟩ := len16 hrnd
  obtain ⟨s0, s1, s2, s3, s4, s5, s6, s7, s8, s9, sa, sb, sc, sd, se, sf, rfl⟩ := len16 hshr
  obtain ⟨n0, n1, n2, n3, n4, n5, n6, n7, n8, n9, na, nb, nc, nd, ne, nf, rfl⟩ := len16 hbnd
  obtain ⟨m0, m1, m2, m3, m4, m5, m6, m7, m8, m9, ma, mb, mc, md, me, mf, rfl⟩ := len16 hmrk
  have hnl : name.data.toList.length = name.size := by rw [Array.length_toList]; rfl
  refine c_seq ?_
  refine reg_plain w0 (Nobody) ?_
  refine r_box hS hH (by repeat (first | exact Sub.nil | refine Sub.cons ?_ ?_ | exact In.here | refine In.there ?_)) rfl rfl rfl ?_
  clear hS hH; intro a w b1 hb1 hwb1 hS hH
  refine r_assign hS hH.kp0 rfl rfl ?_; clear hS; intro a hS
  refine Sq.nil ?_
  refine then_n ?_
  refine c_seq ?_
  refine reg_plain w0 (Nobody) ?_
  refine r_assign hS hH.kp0 rfl rfl ?_; clear hS; intro a hS
  refine Sq.nil ?_
  refine then_n ?_
  refine c_seq ?_
  refine c_seq ?_
  refine reg_plain w0 (Nobody) ?_
  refine r_fieldAddr hS hH.kp0 rfl Fc.fo34_0 rfl ?_; clear hS; intro a hS
  refine r_load_sc hS hH (by repeat (first | exact Sub.nil | refine Sub.cons ?_ ?_ | exact In.here | refine In.there ?_)) rfl (by repeat (first | exact In.here | refine In.there ?_)) Fc.sc3 (by rfl) rfl ?_; clear hS; intro a hS
  refine Sq.nil ?_
  refine then_n ?_
  refine wp_block ?_
  refine c_seq ?_
  refine reg_plain w0 (Nobody) ?_
  refine r_eql hS hH.kp0 rfl rfl rfl ?_; clear hS; intro a hS
  refine r_assign hS hH.kp0 rfl rfl ?_; clear hS; intro a hS
  refine Sq.nil ?_
  refine then_n ?_
  refine c_condF hS rfl rfl ?_
  refine c_seq ?_
  refine reg_plain w0 (Nobody) ?_
  refine r_eql hS hH.kp0 rfl rfl rfl ?_; clear hS; intro a hS
  refine r_assign hS hH.kp0 rfl rfl ?_; clear hS; intro a hS
  refine Sq.nil ?_
  refine then_n ?_
  refine c_condF hS rfl rfl ?_
  refine c_seq ?_
  refine reg_plain w0 (Nobody) ?_
  refine r_eql hS hH.kp0 rfl rfl rfl ?_; clear hS; intro a hS
  refine r_assign hS hH.kp0 rfl rfl ?_; clear hS; intro a hS
  refine Sq.nil ?_
  refine then_n ?_
  refine c_condF hS rfl rfl ?_
  refine c_seq ?_
  refine reg_plain w0 (Nobody) ?_
  refine r_eql hS hH.kp0 rfl rfl rfl ?_; clear hS; intro a hS
  refine r_assign hS hH.kp0 rfl rfl ?_; clear hS; intro a hS
  refine Sq.nil ?_
  refine then_n ?_
  refine c_condT hS rfl rfl ?_
  refine reg_draw [(true, 0, []), (true, 1, []), (true, 2, []), (true, 3, []), (true, 4, []), (true, 6, []), (true, 7, []), (true, 9, []), (true, 10, []), (false, 5, []), (false, 8, []), (false, 11, []), (true, 12, [])] Fc.mixed (by kernel_rfl) (by kernel_rfl) (by kernel_rfl) (by kernel_rfl) (by kernel_rfl) (by repeat (first | with_reducible exact steady_body | with_reducible apply steady_block | with_reducible apply steady_then | with_reducible apply steady_scope | exact steady_body)) hH ?_
  replace hH := hH.drew
  refine r_move hS trivial rfl rfl ?_; clear hS; intro a hS
  refine r_fieldAddr hS trivial rfl Fc.fo34_4 rfl ?_; clear hS; intro a hS
  refine r_load_scS hS rfl (by repeat (first | exact In.here | refine In.there ?_)) Fc.sc24 (by rfl) rfl ?_; clear hS; intro a hS
  refine r_indexAddrS (j := 0) hS trivial rfl rfl Fc.slb24 rfl (by show 0 < 1; decide) rfl ?_; clear hS; intro a hS
  refine r_load_cellS (v := .string sp) hS rfl (fun w9 hw9 => by obtain ⟨b9, o9, h9, h8⟩ := (hpt.ext hw9.2).cell (k := 0) (by show 0 < 1; decide); cases h9; exact h8) Fc.sc9 rfl ?_; clear hS; intro a hS
  refine r_fieldAddr hS trivial rfl Fc.fo34_5 rfl ?_; clear hS; intro a hS
  refine r_load_scS hS rfl (by repeat (first | exact In.here | refine In.there ?_)) Fc.sc25 (by rfl) rfl ?_; clear hS; intro a hS
  refine r_fieldAddr hS trivial rfl Fc.fo34_8 rfl ?_; clear hS; intro a hS
  refine r_load_scS hS rfl (by repeat (first | exact In.here | refine In.there ?_)) Fc.sc4 (by rfl) rfl ?_; clear hS; intro a hS
  refine r_call (l := [.tmp 104, .tmp 108]) hS rfl rfl Fc.fn23 rfl ?_
  refine Calls.mono ((short_nil sp (by omega) _).mono (fun e w1 hP => hP)) ?_
  rintro e w1 hP
  obtain ⟨by1, cy1, ky1, rfl, hry1, hky1, hBy1, hmy1⟩ := hP
  have hBy1 : BB cy1 ky1 ([UInt8.ofNat sp.size] ++ sp.data.toList) := hBy1
  have hoby1 : Nobody by1 ∨ w0.heap.size ≤ by1 := .inr (Nat.le_trans hH.mod.size hry1)
  replace hH := hH.knowN hmy1 hry1 hky1
  refine ⟨_, rfl, hH.kp (by repeat (first | exact Sub.nil | refine Sub.cons ?_ ?_ | exact In.here | refine In.there ?_)), ?_⟩
  clear hS; intro a hS
  refine r_call (l := [.tmp 109, .tmp 111]) hS rfl rfl Fc.fn25 rfl ?_
  refine Calls.mono ((long_some by1 cy1 ky1 ([UInt8.ofNat sp.size] ++ sp.data.toList) q2 c2 prm (by first | omega | (simp only [List.length_append, List.length_cons, List.length_nil, beB_len]; omega)) (by omega) _ (hH.get (b := by1) (by repeat (first | exact In.here | refine In.there ?_))) hBy1 (hbP.go hH.mod (fun x hx => .inr (by subst hx; exact hoby1.resolve_left (fun h => h))))).mono (fun e w1 hP => hP)) ?_
  rintro e w1 hP
  obtain ⟨by2, cy2, ky2, rfl, hry2, hky2, hBy2, hmy2⟩ := hP
  have hBy2 : BB cy2 ky2 ([UInt8.ofNat sp.size] ++ sp.data.toList ++ [UInt8.ofNat (prm.length / 256), UInt8.ofNat prm.length] ++ prm) := hBy2
  have hoby2 : Nobody by2 ∨ w0.heap.size ≤ by2 := hry2.elim (fun h => by rw [h]; exact hoby1) (fun h => .inr (Nat.le_trans hH.mod.size h))
  replace hH := hH.modNew hmy2 (by repeat (first | exact .here | apply In.there | apply Put.there | apply Del.there)) hoby1 hry2 hky2
  refine ⟨_, rfl, hH.kp (by repeat (first | exact Sub.nil | refine Sub.cons ?_ ?_ | exact In.here | refine In.there ?_)), ?_⟩
  clear hS; intro a hS
  refine r_call (l := [.tmp 112, .tmp 114, .const (.bool false)]) hS rfl rfl Fc.fn24 rfl ?_
  refine Calls.mono ((flag_ff by2 cy2 ky2 ([UInt8.ofNat sp.size] ++ sp.data.toList ++ [UInt8.ofNat (prm.length / 256), UInt8.ofNat prm.length] ++ prm) (by first | omega | (simp only [List.length_append, List.length_cons, List.length_nil, beB_len]; omega)) _ (hH.get (b := by2) (by repeat (first | exact In.here | refine In.there ?_))) hBy2).mono (fun e w1 hP => hP)) ?_
  rintro e w1 hP
  obtain ⟨by3, cy3, ky3, rfl, hry3, hky3, hBy3, hmy3⟩ := hP
  have hBy3 : BB cy3 ky3 ([UInt8.ofNat sp.size] ++ sp.data.toList ++ [UInt8.ofNat (prm.length / 256), UInt8.ofNat prm.length] ++ prm ++ [0]) := hBy3
  have hoby3 : Nobody by3 ∨ w0.heap.size ≤ by3 := hry3.elim (fun h => by rw [h]; exact hoby2) (fun h => .inr (Nat.le_trans hH.mod.size h))
  replace hH := hH.modNew hmy3 (by repeat (first | exact .here | apply In.there | apply Put.there | apply Del.there)) hoby2 hry3 hky3
  refine ⟨_, rfl, hH.kp (by repeat (first | exact Sub.nil | refine Sub.cons ?_ ?_ | exact In.here | refine In.there ?_)), ?_⟩
  clear hS; intro a hS
  refine r_assign hS trivial rfl rfl ?_; clear hS; intro a hS
  refine Sq.nil ?_
  refine blk_n ?_
  refine then_n ?_
  refine c_seq ?_
  refine reg_plain w0 (Nobody) ?_
  refine r_move hS hH.kp0 rfl rfl ?_; clear hS; intro a hS
  refine r_assign hS hH.kp0 rfl rfl ?_; clear hS; intro a hS
  refine Sq.nil ?_
  refine then_n ?_
  refine wp_ret ?_
  have hfin : [UInt8.ofNat sp.size] ++ sp.data.toList ++ [UInt8.ofNat (prm.length / 256), UInt8.ofNat prm.length] ++ prm ++ [0] = bodyB 8 [r0, r1, r2, r3, r4, r5, r6, r7, r8, r9, ra, rb, rc, rd, re, rf] [s0, s1, s2, s3, s4, s5, s6, s7, s8, s9, sa, sb, sc, sd, se, sf] name [sp] prm tck [n0, n1, n2, n3, n4, n5, n6, n7, n8, n9, na, nb, nc, nd, ne, nf] false ag [m0, m1, m2, m3, m4, m5, m6, m7, m8, m9, ma, mb, mc, md, me, mf] li := by unfold bodyB; rw [if_neg (by decide)]; rw [if_neg (by decide)]; rw [if_neg (by decide)]; rw [if_pos rfl]; simp [beB1, beB2, prsB, List.append_assoc]
  rw [hfin] at hS hBy3
  exact leave (.inl rfl) hS rfl (Res.tmp rfl Res.nil) ⟨by3, cy3, ky3, rfl, hoby3.resolve_left (fun h => h), hH.get (b := by3) (by repeat (first | exact In.here | refine In.there ?_)), hBy3, hH.mod⟩

set_option maxRecDepth 100000 in
set_option maxHeartbeats 4000000 in
theorem dbody_4t (q1 q2 q3 : Option Addr) (c1 c2 c3 : Nat) (rnd shr bnd mrk : List UInt8) (name : ByteArray) (ptl : List ByteArray) (prm tck : List UInt8) (ea ag : Bool) (li : Int) (hrnd : rnd.length = 16) (hshr : shr.length = 16) (hbnd : bnd.length = 16) (hmrk : mrk.length = 16) (hli : 0 ≤ li ∧ li ≤ 4294967295) (htk : tck.length ≤ 512) (hea : ea = true) (w0 : World) (hpl : ptl.length ≤ 1048576) (hpt : SsA w0 q1 c1 ptl) (hbP : BsF Nobody w0 (.slice q2 prm.length c2) prm) (hbT : BsF Nobody w0 (.slice q3 tck.length c3) tck) : Calls Try.prog 17 #[.agg ([.int .i64 4] ++ hcells rnd ++ hcells shr ++ [.string name, .slice q1 ptl.length c1, .slice q2 prm.length c2, .slice q3 tck.length c3] ++ hcells bnd ++ [.bool ea, .bool ag] ++ hcells mrk ++ [.int .i64 li] : List Value).toArray] w0 fun e w' => ∃ (b' c' : Nat) (k' : List Value), e = .returned (.slice (some ⟨b', 0, none⟩) (bodyB 4 rnd shr name ptl prm tck bnd ea ag mrk li).length c') ∧ w0.heap.size ≤ b' ∧ w'.heap[b']? = some (.cells k'.toArray 5 (0, 0)) ∧ BB c' k' (bodyB 4 rnd shr name ptl prm tck bnd ea ag mrk li) ∧ Ext w0 w' := by
  refine enter Try.func17 rfl rfl rfl ?_
  intro a hS
  have hH := Hp.start w0 (Nobody)
  subst hea
  obtain ⟨hli0, hli1⟩ := hli
  obtain ⟨ln, rfl⟩ := Int.eq_ofNat_of_zero_le hli0
  obtain ⟨r0, r1, r2, r3, r4, r5, r6, r7, r8, r9, ra, rb, rc, rd, re, rf, rfl⟩ := len16 hrnd
  obtain ⟨s0, s1, s2, s3, s4, s5, s6, s7, s8, s9, sa, sb, sc, sd, se, sf, rfl⟩ := len16 hshr
  obtain ⟨n0, n1, n2, n3, n4, n5, n6, n7, n8, n9, na, nb, nc, nd, ne, nf, rfl⟩ := len16 hbnd
  obtain ⟨m0, m1, m2, m3, m4, m5, m6, m7, m8, m9, ma, mb, mc, md, me, mf, rfl⟩ := len16 hmrk
  have hnl : name.data.toList.length = name.size := by rw [Array.length_toList]; rfl
  refine c_seq ?_
  refine reg_plain w0 (Nobody) ?_
  refine r_box hS hH (by repeat (first | exact Sub.nil | refine Sub.cons ?_ ?_ | exact In.here | refine In.there ?_)) rfl rfl rfl ?_
  clear hS hH; intro a w b1 hb1 hwb1 hS hH
  refine r_assign hS hH.kp0 rfl rfl ?_; clear hS; intro a hS
  refine Sq.nil ?_
  refine then_n ?_
  refine c_seq ?_
  refine reg_plain w0 (Nobody) ?_
  refine r_assign hS hH.kp0 rfl rfl ?_; clear hS; intro a hS
  refine Sq.nil ?_
  refine then_n ?_
  refine c_seq ?_
  refine c_seq ?_
  refine reg_plain w0 (Nobody) ?_
  refine r_fieldAddr hS hH.kp0 rfl Fc.fo34_0 rfl ?_; clear hS; intro a hS
  refine r_load_sc hS hH (by repeat (first | exact Sub.nil | refine Sub.cons ?_ ?_ | exact In.here | refine In.there ?_)) rfl (by repeat (first | exact In.here | refine In.there ?_)) Fc.sc3 (by rfl) rfl ?_; clear hS; intro a hS
  refine Sq.nil ?_
  refine then_n ?_
  refine wp_block ?_
  refine c_seq ?_
  refine reg_plain w0 (Nobody) ?_
  refine r_eql hS hH.kp0 rfl rfl rfl ?_; clear hS; intro a hS
  refine r_assign hS hH.kp0 rfl rfl ?_; clear hS; intro a hS
  refine Sq.nil ?_
  refine then_n ?_
  refine c_condF hS rfl rfl ?_
  refine c_seq ?_
  refine reg_plain w0 (Nobody) ?_
  refine r_eql hS hH.kp0 rfl rfl rfl ?_; clear hS; intro a hS
  refine r_assign hS hH.kp0 rfl rfl ?_; clear hS; intro a hS
  refine Sq.nil ?_
  refine then_n ?_
  refine c_condF hS rfl rfl ?_
  refine c_seq ?_
  refine reg_plain w0 (Nobody) ?_
  refine r_eql hS hH.kp0 rfl rfl rfl ?_; clear hS; intro a hS
  refine r_assign hS hH.kp0 rfl rfl ?_; clear hS; intro a hS
  refine Sq.nil ?_
  refine then_n ?_
  refine c_condT hS rfl rfl ?_
  refine c_seq ?_
  refine reg_plain w0 (Nobody) ?_
  refine r_move hS hH.kp0 rfl rfl ?_; clear hS; intro a hS
  refine r_fieldAddr hS hH.kp0 rfl Fc.fo34_11 rfl ?_; clear hS; intro a hS
  refine r_load_sc hS hH (by repeat (first | exact Sub.nil | refine Sub.cons ?_ ?_ | exact In.here | refine In.there ?_)) rfl (by repeat (first | exact In.here | refine In.there ?_)) Fc.sc3 (by rfl) rfl ?_; clear hS; intro a hS
  refine r_shrI ln 24 hS hH.kp0 rfl rfl rfl rfl (by decide) ?_; clear hS; intro a hS
  refine r_toU8 (q := (ln / 16777216)) (UInt8.ofNat ((ln / 16777216))) hS hH.kp0 rfl Fc.ui5 Fc.us3 rfl rfl ?_; clear hS; intro a hS
  refine r_fieldAddr hS hH.kp0 rfl Fc.fo34_11 rfl ?_; clear hS; intro a hS
  refine r_load_sc hS hH (by repeat (first | exact Sub.nil | refine Sub.cons ?_ ?_ | exact In.here | refine In.there ?_)) rfl (by repeat (first | exact In.here | refine In.there ?_)) Fc.sc3 (by rfl) rfl ?_; clear hS; intro a hS
  refine r_shrI ln 16 hS hH.kp0 rfl rfl rfl rfl (by decide) ?_; clear hS; intro a hS
  refine r_toU8 (q := (ln / 65536)) (UInt8.ofNat ((ln / 65536))) hS hH.kp0 rfl Fc.ui5 Fc.us3 rfl rfl ?_; clear hS; intro a hS
  refine r_fieldAddr hS hH.kp0 rfl Fc.fo34_11 rfl ?_; clear hS; intro a hS
  refine r_load_sc hS hH (by repeat (first | exact Sub.nil | refine Sub.cons ?_ ?_ | exact In.here | refine In.there ?_)) rfl (by repeat (first | exact In.here | refine In.there ?_)) Fc.sc3 (by rfl) rfl ?_; clear hS; intro a hS
  refine r_shrI ln 8 hS hH.kp0 rfl rfl rfl rfl (by decide) ?_; clear hS; intro a hS
  refine r_toU8 (q := (ln / 256)) (UInt8.ofNat ((ln / 256))) hS hH.kp0 rfl Fc.ui5 Fc.us3 rfl rfl ?_; clear hS; intro a hS
  refine r_fieldAddr hS hH.kp0 rfl Fc.fo34_11 rfl ?_; clear hS; intro a hS
  refine r_load_sc hS hH (by repeat (first | exact Sub.nil | refine Sub.cons ?_ ?_ | exact In.here | refine In.there ?_)) rfl (by repeat (first | exact In.here | refine In.there ?_)) Fc.sc3 (by rfl) rfl ?_; clear hS; intro a hS
  refine r_toU8 (q := ln) (UInt8.ofNat (ln)) hS hH.kp0 rfl Fc.ui5 Fc.us3 rfl rfl ?_; clear hS; intro a hS
  refine r_buildSlice (parts := [(0, .tmp 81), (1, .tmp 85), (2, .tmp 89), (3, .tmp 92)]) hS hH (by repeat (first | exact Sub.nil | refine Sub.cons ?_ ?_ | exact In.here | refine In.there ?_)) rfl Fc.bsl25_4 (by rfl) rfl ?_
  clear hS hH; intro a w b93 hb93 hwb93 hS hH
  refine r_append_nil hS hH (by repeat (first | exact Sub.nil | refine Sub.cons ?_ ?_ | exact In.here | refine In.there ?_)) rfl rfl Fc.el25 Fc.ni25 (((BB.lit [UInt8.ofNat (ln / 16777216), UInt8.ofNat (ln / 65536), UInt8.ofNat (ln / 256), UInt8.ofNat ln] rfl rfl).bs (hH.get (b := b93) (by repeat (first | exact In.here | refine In.there ?_))))).src (by simp) (by simp) rfl ?_
  clear hS hH; intro a w by1 cy1 ky1 hwy1 hwwy1 hly1 hmy1 htky1 hExy1 hS hH
  have hBy1 : BB cy1 ky1 ([UInt8.ofNat (ln / 16777216), UInt8.ofNat (ln / 65536), UInt8.ofNat (ln / 256), UInt8.ofNat ln]) := ⟨by rw [hly1, Nat.mul_one], hmy1, by rw [Nat.mul_one] at htky1; exact htky1⟩
  rw [show ([UInt8.ofNat (ln / 16777216), UInt8.ofNat (ln / 65536), UInt8.ofNat (ln / 256), UInt8.ofNat ln] : List UInt8).length = ([UInt8.ofNat (ln / 16777216), UInt8.ofNat (ln / 65536), UInt8.ofNat (ln / 256), UInt8.ofNat ln]).length from by simp] at hS
  have hoby1 : Nobody by1 ∨ w0.heap.size ≤ by1 := .inr hwy1
  refine r_assign hS hH.kp0 rfl rfl ?_; clear hS; intro a hS
  refine Sq.nil ?_
  refine then_n ?_
  refine reg_draw [(true, 0, [0]), (true, 1, [0]), (true, 2, [0]), (true, 4, [0]), (true, 5, [0]), (false, 3, [0]), (false, 6, [0]), (true, 7, [0])] Fc.mixed (by kernel_rfl) (by kernel_rfl) (by kernel_rfl) (by kernel_rfl) (by kernel_rfl) (by repeat (first | with_reducible exact steady_body | with_reducible apply steady_block | with_reducible apply steady_then | with_reducible apply steady_scope | exact steady_body)) hH ?_
  replace hH := hH.drew
  refine r_move hS trivial rfl rfl ?_; clear hS; intro a hS
  refine r_fieldAddr hS trivial rfl Fc.fo34_6 rfl ?_; clear hS; intro a hS
  refine r_load_scS hS rfl (by repeat (first | exact In.here | refine In.there ?_)) Fc.sc25 (by rfl) rfl ?_; clear hS; intro a hS
  refine r_fieldAddr hS trivial rfl Fc.fo34_8 rfl ?_; clear hS; intro a hS
  refine r_load_scS hS rfl (by repeat (first | exact In.here | refine In.there ?_)) Fc.sc4 (by rfl) rfl ?_; clear hS; intro a hS
  refine r_call (l := [.tmp 95, .tmp 97]) hS rfl rfl Fc.fn25 rfl ?_
  refine Calls.mono ((long_some by1 cy1 ky1 ([UInt8.ofNat (ln / 16777216), UInt8.ofNat (ln / 65536), UInt8.ofNat (ln / 256), UInt8.ofNat ln]) q3 c3 tck (by first | omega | (simp only [List.length_append, List.length_cons, List.length_nil, beB_len]; omega)) (by omega) _ (hH.get (b := by1) (by repeat (first | exact In.here | refine In.there ?_))) hBy1 (hbT.go hH.mod (fun x hx => .inr (by subst hx; exact hoby1.resolve_left (fun h => h))))).mono (fun e w1 hP => hP)) ?_
  rintro e w1 hP
  obtain ⟨by2, cy2, ky2, rfl, hry2, hky2, hBy2, hmy2⟩ := hP
  have hBy2 : BB cy2 ky2 ([UInt8.ofNat (ln / 16777216), UInt8.ofNat (ln / 65536), UInt8.ofNat (ln / 256), UInt8.ofNat ln] ++ [UInt8.ofNat (tck.length / 256), UInt8.ofNat tck.length] ++ tck) := hBy2
  have hoby2 : Nobody by2 ∨ w0.heap.size ≤ by2 := hry2.elim (fun h => by rw [h]; exact hoby1) (fun h => .inr (Nat.le_trans hH.mod.size h))
  replace hH := hH.modNew hmy2 (by repeat (first | exact .here | apply In.there | apply Put.there | apply Del.there)) hoby1 hry2 hky2
  refine ⟨_, rfl, hH.kp (by repeat (first | exact Sub.nil | refine Sub.cons ?_ ?_ | exact In.here | refine In.there ?_)), ?_⟩
  clear hS; intro a hS
  refine r_call (l := [.tmp 98, .tmp 100, .const (.bool false)]) hS rfl rfl Fc.fn24 rfl ?_
  refine Calls.mono ((flag_tf by2 cy2 ky2 ([UInt8.ofNat (ln / 16777216), UInt8.ofNat (ln / 65536), UInt8.ofNat (ln / 256), UInt8.ofNat ln] ++ [UInt8.ofNat (tck.length / 256), UInt8.ofNat tck.length] ++ tck) (by first | omega | (simp only [List.length_append, List.length_cons, List.length_nil, beB_len]; omega)) _ (hH.get (b := by2) (by repeat (first | exact In.here | refine In.there ?_))) hBy2).mono (fun e w1 hP => hP)) ?_
  rintro e w1 hP
  obtain ⟨by3, cy3, ky3, rfl, hry3, hky3, hBy3, hmy3⟩ := hP
  have hBy3 : BB cy3 ky3 ([UInt8.ofNat (ln / 16777216), UInt8.ofNat (ln / 65536), UInt8.ofNat (ln / 256), UInt8.ofNat ln] ++ [UInt8.ofNat (tck.length / 256), UInt8.ofNat tck.length] ++ tck ++ [1]) := hBy3
  have hoby3 : Nobody by3 ∨ w0.heap.size ≤ by3 := hry3.elim (fun h => by rw [h]; exact hoby2) (fun h => .inr (Nat.le_trans hH.mod.size h))
  replace hH := hH.modNew hmy3 (by repeat (first | exact .here | apply In.there | apply Put.there | apply Del.there)) hoby2 hry3 hky3
  refine ⟨_, rfl, hH.kp (by repeat (first | exact Sub.nil | refine Sub.cons ?_ ?_ | exact In.here | refine In.there ?_)), ?_⟩
  clear hS; intro a hS
  refine r_assign hS trivial rfl rfl ?_; clear hS; intro a hS
  refine Sq.nil ?_
  refine blk_n ?_
  refine then_n ?_
  refine c_seq ?_
  refine reg_plain w0 (Nobody) ?_
  refine r_move hS hH.kp0 rfl rfl ?_; clear hS; intro a hS
  refine r_assign hS hH.kp0 rfl rfl ?_; clear hS; intro a hS
  refine Sq.nil ?_
  refine then_n ?_
  refine wp_ret ?_
  have hfin : [UInt8.ofNat (ln / 16777216), UInt8.ofNat (ln / 65536), UInt8.ofNat (ln / 256), UInt8.ofNat ln] ++ [UInt8.ofNat (tck.length / 256), UInt8.ofNat tck.length] ++ tck ++ [1] = bodyB 4 [r0, r1, r2, r3, r4, r5, r6, r7, r8, r9, ra, rb, rc, rd, re, rf] [s0, s1, s2, s3, s4, s5, s6, s7, s8, s9, sa, sb, sc, sd, se, sf] name ptl prm tck [n0, n1, n2, n3, n4, n5, n6, n7, n8, n9, na, nb, nc, nd, ne, nf] true ag [m0, m1, m2, m3, m4, m5, m6, m7, m8, m9, ma, mb, mc, md, me, mf] (ln : Int) := by unfold bodyB; rw [if_neg (by decide)]; rw [if_neg (by decide)]; rw [if_pos rfl]; simp [beB2, beB4, List.append_assoc]
  rw [hfin] at hS hBy3
  exact leave (.inl rfl) hS rfl (Res.tmp rfl Res.nil) ⟨by3, cy3, ky3, rfl, hoby3.resolve_left (fun h => h), hH.get (b := by3) (by repeat (first | exact In.here | refine In.there ?_)), hBy3, hH.mod⟩

set_option maxRecDepth 100000 in
set_option maxHeartbeats 4000000 in
theorem dbody_8t (q1 q2 q3 : Option Addr) (c1 c2 c3 : Nat) (rnd shr bnd mrk : List UInt8) (name : ByteArray) (ptl : List ByteArray) (prm tck : List UInt8) (ea ag : Bool) (li : Int) (hrnd : rnd.length = 16) (hshr : shr.length = 16) (hbnd : bnd.length = 16) (hmrk : mrk.length = 16) (hpl1 : ptl.length = 1) (hod : oddN ptl = 0) (hpr : prm.length ≤ 4096) (hea : ea = true) (w0 : World) (hpl : ptl.length ≤ 1048576) (hpt : SsA w0 q1 c1 ptl) (hbP : BsF Nobody w0 (.slice q2 prm.length c2) prm) (hbT : BsF Nobody w0 (.slice q3 tck.length c3) tck) : Calls Try.prog 17 #[.agg ([.int .i64 8] ++ hcells rnd ++ hcells shr ++ [.string name, .slice q1 ptl.length c1, .slice q2 prm.length c2, .slice q3 tck.length c3] ++ hcells bnd ++ [.bool ea, .bool ag] ++ hcells mrk ++ [.int .i64 li] : List Value).toArray] w0 fun e w' => ∃ (b' c' : Nat) (k' : List Value), e = .returned (.slice (some ⟨b', 0, none⟩) (bodyB 8 rnd shr name ptl prm tck bnd ea ag mrk li).length c') ∧ w0.heap.size ≤ b' ∧ w'.heap[b']? = some (.cells k'.toArray 5 (0, 0)) ∧ BB c' k' (bodyB 8 rnd shr name ptl prm tck bnd ea ag mrk li) ∧ Ext w0 w' := by
  refine enter Try.func17 rfl rfl rfl ?_
  intro a hS
  have hH := Hp.start w0 (Nobody)
  subst hea
  obtain ⟨sp, rfl⟩ := List.length_eq_one_iff.1 hpl1
  obtain ⟨hsp1, hsp2⟩ : 1 ≤ sp.size ∧ sp.size ≤ 255 := oddN_zero (l := [sp]) (k := 0) (by simp) hod
  have hspl : sp.data.toList.length = sp.size := by rw [Array.length_toList]; rfl
  obtain ⟨ba, bo, hpq, _⟩ := hpt.cell (k := 0) (by show 0 < 1; decide)
  subst hpq
  obtain ⟨r0, r1, r2, r3, r4, r5, r6, r7, r8, r9, ra, rb, rc, rd, re, rf, rfl⟩ := len16 hrnd
  obtain ⟨s0, s1, s2, s3, s4, s5, s6, s7, s8, s9, sa, sb, sc, sd, se, sf, rfl⟩ := len16 hshr
  obtain ⟨n0, n1, n2, n3, n4, n5, n6, n7, n8, n9, na, nb, nc, nd, ne, nf, rfl⟩ := len16 hbnd
  obtain ⟨m0, m1, m2, m3, m4, m5, m6, m7, m8, m9, ma, mb, mc, md, me, mf, rfl⟩ := len16 hmrk
  have hnl : name.data.toList.length = name.size := by rw [Array.length_toList]; rfl
  refine c_seq ?_
  refine reg_plain w0 (Nobody) ?_
  refine r_box hS hH (by repeat (first | exact Sub.nil | refine Sub.cons ?_ ?_ | exact In.here | refine In.there ?_)) rfl rfl rfl ?_
  clear hS hH; intro a w b1 hb1 hwb1 hS hH
  refine r_assign hS hH.kp0 rfl rfl ?_; clear hS; intro a hS
  refine Sq.nil ?_
  refine then_n ?_
  refine c_seq ?_
  refine reg_plain w0 (Nobody) ?_
  refine r_assign hS hH.kp0 rfl rfl ?_; clear hS; intro a hS
  refine Sq.nil ?_
  refine then_n ?_
  refine c_seq ?_
  refine c_seq ?_
  refine reg_plain w0 (Nobody) ?_
  refine r_fieldAddr hS hH.kp0 rfl Fc.fo34_0 rfl ?_; clear hS; intro a hS
  refine r_load_sc hS hH (by repeat (first | exact Sub.nil | refine Sub.cons ?_ ?_ | exact In.here | refine In.there ?_)) rfl (by repeat (first | exact In.here | refine In.there ?_)) Fc.sc3 (by rfl) rfl ?_; clear hS; intro a hS
  refine Sq.nil ?_
  refine then_n ?_
  refine wp_block ?_
  refine c_seq ?_
  refine reg_plain w0 (Nobody) ?_
  refine r_eql hS hH.kp0 rfl rfl rfl ?_; clear hS; intro a hS
  refine r_assign hS hH.kp0 rfl rfl ?_; clear hS; intro a hS
  refine Sq.nil ?_
  refine then_n ?_
  refine c_condF hS rfl rfl ?_
  refine c_seq ?_
  refine reg_plain w0 (Nobody) ?_
  refine r_eql hS hH.kp0 rfl rfl rfl ?_; clear hS; intro a hS
  refine r_assign hS hH.kp0 rfl rfl ?_; clear hS; intro a hS
  refine Sq.nil ?_
  refine then_n ?_
  refine c_condF hS rfl rfl ?_
  refine c_seq ?_
  refine reg_plain w0 (Nobody) ?_
  refine r_eql hS hH.kp0 rfl rfl rfl ?_; clear hS; intro a hS
  refine r_assign hS hH.kp0 rfl rfl ?_; clear hS; intro a hS
  refine Sq.nil ?_
  refine then_n ?_
  refine c_condF hS rfl rfl ?_
  refine c_seq ?_
  refine reg_plain w0 (Nobody) ?_
  refine r_eql hS hH.kp0 rfl rfl rfl ?_; clear hS; intro a hS
  refine r_assign hS hH.kp0 rfl rfl ?_; clear hS; intro a hS
  refine Sq.nil ?_
  refine then_n ?_
  refine c_condT hS rfl rfl ?_
  refine reg_draw [(true, 0, []), (true, 1, []), (true, 2, []), (true, 3, []), (true, 4, []), (true, 6, []), (true, 7, []), (true, 9, []), (true, 10, []), (false, 5, []), (false, 8, []), (false, 11, []), (true, 12, [])] Fc.mixed (by kernel_rfl) (by kernel_rfl) (by kernel_rfl) (by kernel_rfl) (by kernel_rfl) (by repeat (first | with_reducible exact steady_body | with_reducible apply steady_block | with_reducible apply steady_then | with_reducible apply steady_scope | exact steady_body)) hH ?_
  replace hH := hH.drew
  refine r_move hS trivial rfl rfl ?_; clear hS; intro a hS
  refine r_fieldAddr hS trivial rfl Fc.fo34_4 rfl ?_; clear hS; intro a hS
  refine r_load_scS hS rfl (by repeat (first | exact In.here | refine In.there ?_)) Fc.sc24 (by rfl) rfl ?_; clear hS; intro a hS
  refine r_indexAddrS (j := 0) hS trivial rfl rfl Fc.slb24 rfl (by show 0 < 1; decide) rfl ?_; clear hS; intro a hS
  refine r_load_cellS (v := .string sp) hS rfl (fun w9 hw9 => by obtain ⟨b9, o9, h9, h8⟩ := (hpt.ext hw9.2).cell (k := 0) (by show 0 < 1; decide); cases h9; exact h8) Fc.sc9 rfl ?_; clear hS; intro a hS
  refine r_fieldAddr hS trivial rfl Fc.fo34_5 rfl ?_; clear hS; intro a hS
  refine r_load_scS hS rfl (by repeat (first | exact In.here | refine In.there ?_)) Fc.sc25 (by rfl) rfl ?_; clear hS; intro a hS
  refine r_fieldAddr hS trivial rfl Fc.fo34_8 rfl ?_; clear hS; intro a hS
  refine r_load_scS hS rfl (by repeat (first | exact In.here | refine In.there ?_)) Fc.sc4 (by rfl) rfl ?_; clear hS; intro a hS
  refine r_call (l := [.tmp 104, .tmp 108]) hS rfl rfl Fc.fn23 rfl ?_
  refine Calls.mono ((short_nil sp (by omega) _).mono (fun e w1 hP => hP)) ?_
  rintro e w1 hP
  obtain ⟨by1, cy1, ky1, rfl, hry1, hky1, hBy1, hmy1⟩ := hP
  have hBy1 : BB cy1 ky1 ([UInt8.ofNat sp.size] ++ sp.data.toList) := hBy1
  have hoby1 : Nobody by1 ∨ w0.heap.size ≤ by1 := .inr (Nat.le_trans hH.mod.size hry1)
  replace hH := hH.knowN hmy1 hry1 hky1
  refine ⟨_, rfl, hH.kp (by repeat (first | exact Sub.nil | refine Sub.cons ?_ ?_ | exact In.here | refine In.there ?_)), ?_⟩
  clear hS; intro a hS
  refine r_call (l := [.tmp 109, .tmp 111]) hS rfl rfl Fc.fn25 rfl ?_
  refine Calls.mono ((long_some by1 cy1 ky1 ([UInt8.ofNat sp.size] ++ sp.data.toList) q2 c2 prm (by first | omega | (simp only [List.length_append, List.length_cons, List.length_nil, beB_len]; omega)) (by omega) _ (hH.get (b := by1) (by repeat (first | exact In.here | refine In.there ?_))) hBy1 (hbP.go hH.mod (fun x hx => .inr (by subst hx; exact hoby1.resolve_left (fun h => h))))).mono (fun e w1 hP => hP)) ?_
  rintro e w1 hP
  obtain ⟨by2, cy2, ky2, rfl, hry2, hky2, hBy2, hmy2⟩ := hP
  have hBy2 : BB cy2 ky2 ([UInt8.ofNat sp.size] ++ sp.data.toList ++ [UInt8.ofNat (prm.length / 256), UInt8.ofNat prm.length] ++ prm) := hBy2
  have hoby2 : Nobody by2 ∨ w0.heap.size ≤ by2 := hry2.elim (fun h => by rw [h]; exact hoby1) (fun h => .inr (Nat.le_trans hH.mod.size h))
  replace hH := hH.modNew hmy2 (by repeat (first | exact .here | apply In.there | apply Put.there | apply Del.there)) hoby1 hry2 hky2
  refine ⟨_, rfl, hH.kp (by repeat (first | exact Sub.nil | refine Sub.cons ?_ ?_ | exact In.here | refine In.there ?_)), ?_⟩
  clear hS; intro a hS
  refine r_call (l := [.tmp 112, .tmp 114, .const (.bool false)]) hS rfl rfl Fc.fn24 rfl ?_
  refine Calls.mono ((flag_tf by2 cy2 ky2 ([UInt8.ofNat sp.size] ++ sp.data.toList ++ [UInt8.ofNat (prm.length / 256), UInt8.ofNat prm.length] ++ prm) (by first | omega | (simp only [List.length_append, List.length_cons, List.length_nil, beB_len]; omega)) _ (hH.get (b := by2) (by repeat (first | exact In.here | refine In.there ?_))) hBy2).mono (fun e w1 hP => hP)) ?_
  rintro e w1 hP
  obtain ⟨by3, cy3, ky3, rfl, hry3, hky3, hBy3, hmy3⟩ := hP
  have hBy3 : BB cy3 ky3 ([UInt8.ofNat sp.size] ++ sp.data.toList ++ [UInt8.ofNat (prm.length / 256), UInt8.ofNat prm.length] ++ prm ++ [1]) := hBy3
  have hoby3 : Nobody by3 ∨ w0.heap.size ≤ by3 := hry3.elim (fun h => by rw [h]; exact hoby2) (fun h => .inr (Nat.le_trans hH.mod.size h))
  replace hH := hH.modNew hmy3 (by repeat (first | exact .here | apply In.there | apply Put.there | apply Del.there)) hoby2 hry3 hky3
  refine ⟨_, rfl, hH.kp (by repeat (first | exact Sub.nil | refine Sub.cons ?_ ?_ | exact In.here | refine In.there ?_)), ?_⟩
  clear hS; intro a hS
  refine r_assign hS trivial rfl rfl ?_; clear hS; intro a hS
  refine Sq.nil ?_
  refine blk_n ?_
  refine then_n ?_
  refine c_seq ?_
  refine reg_plain w0 (Nobody) ?_
  refine r_move hS hH.kp0 rfl rfl ?_; clear hS; intro a hS
  refine r_assign hS hH.kp0 rfl rfl ?_; clear hS; intro a hS
  refine Sq.nil ?_
  refine then_n ?_
  refine wp_ret ?_
  have hfin : [UInt8.ofNat sp.size] ++ sp.data.toList ++ [UInt8.ofNat (prm.length / 256), UInt8.ofNat prm.length] ++ prm ++ [1] = bodyB 8 [r0, r1, r2, r3, r4, r5, r6, r7, r8, r9, ra, rb, rc, rd, re, rf] [s0, s1, s2, s3, s4, s5, s6, s7, s8, s9, sa, sb, sc, sd, se, sf] name [sp] prm tck [n0, n1, n2, n3, n4, n5, n6, n7, n8, n9, na, nb, nc, nd, ne, nf] true ag [m0, m1, m2, m3, m4, m5, m6, m7, m8, m9, ma, mb, mc, md, me, mf] li := by unfold bodyB; rw [if_neg (by decide)]; rw [if_neg (by decide)]; rw [if_neg (by decide)]; rw [if_pos rfl]; simp [beB1, beB2, prsB, List.append_assoc]
  rw [hfin] at hS hBy3
  exact leave (.inl rfl) hS rfl (Res.tmp rfl Res.nil) ⟨by3, cy3, ky3, rfl, hoby3.resolve_left (fun h => h), hH.get (b := by3) (by repeat (first | exact In.here | refine In.there ?_)), hBy3, hH.mod⟩

set_option maxRecDepth 100000 in
set_option maxHeartbeats 4000000 in
theorem dbody_11 (q1 q2 q3 : Option Addr) (c1 c2 c3 : Nat) (rnd shr bnd mrk : List UInt8) (name : ByteArray) (ptl : List ByteArray) (prm tck : List UInt8) (ea ag : Bool) (li : Int) (hrnd : rnd.length = 16) (hshr : shr.length = 16) (hbnd : bnd.length = 16) (hmrk : mrk.length = 16) (hnm : name.size ≤ 255) (w0 : World) (hpl : ptl.length ≤ 1048576) (hpt : SsA w0 q1 c1 ptl) (hbP : BsF Nobody w0 (.slice q2 prm.length c2) prm) (hbT : BsF Nobody w0 (.slice q3 tck.length c3) tck) : Calls Try.prog 17 #[.agg ([.int .i64 11] ++ hcells rnd ++ hcells shr ++ [.string name, .slice q1 ptl.length c1, .slice q2 prm.length c2, .slice q3 tck.length c3] ++ hcells bnd ++ [.bool ea, .bool ag] ++ hcells mrk ++ [.int .i64 li] : List Value).toArray] w0 fun e w' => ∃ (b' c' : Nat) (k' : List Value), e = .returned (.slice (some ⟨b', 0, none⟩) (bodyB 11 rnd shr name ptl prm tck bnd ea ag mrk li).length c') ∧ w0.heap.size ≤ b' ∧ w'.heap[b']? = some (.cells k'.toArray 5 (0, 0)) ∧ BB c' k' (bodyB 11 rnd shr name ptl prm tck bnd ea ag mrk li) ∧ Ext w0 w' := by
  refine enter Try.func17 rfl rfl rfl ?_
  intro a hS
  have hH := Hp.start w0 (Nobody)
  obtain ⟨r0, r1, r2, r3, r4, r5, r6, r7, r8, r9, ra, rb, rc, rd, re, rf, rfl⟩ := len16 hrnd
  obtain ⟨s0, s1, s2, s3, s4, s5, s6, s7, s8, s9, sa, sb, sc, sd, se, sf, rfl⟩ := len16 hshr
  obtain ⟨n0, n1, n2, n3, n4, n5, n6, n7, n8, n9, na, nb, nc, nd, ne, nf, rfl⟩ := len16 hbnd
  obtain ⟨m0, m1, m2, m3, m4, m5, m6, m7, m8, m9, ma, mb, mc, md, me, mf, rfl⟩ := len16 hmrk
  have hnl : name.data.toList.length = name.size := by rw [Array.length_toList]; rfl
  refine c_seq ?_
  refine reg_plain w0 (Nobody) ?_
  refine r_box hS hH (by repeat (first | exact Sub.nil | refine Sub.cons ?_ ?_ | exact In.here | refine In.there ?_)) rfl rfl rfl ?_
  clear hS hH; intro a w b1 hb1 hwb1 hS hH
  refine r_assign hS hH.kp0 rfl rfl ?_; clear hS; intro a hS
  refine Sq.nil ?_
  refine then_n ?_
  refine c_seq ?_
  refine reg_plain w0 (Nobody) ?_
  refine r_assign hS hH.kp0 rfl rfl ?_; clear hS; intro a hS
  refine Sq.nil ?_
  refine then_n ?_
  refine c_seq ?_
  refine c_seq ?_
  refine reg_plain w0 (Nobody) ?_
  refine r_fieldAddr hS hH.kp0 rfl Fc.fo34_0 rfl ?_; clear hS; intro a hS
  refine r_load_sc hS hH (by repeat (first | exact Sub.nil | refine Sub.cons ?_ ?_ | exact In.here | refine In.there ?_)) rfl (by repeat (first | exact In.here | refine In.there ?_)) Fc.sc3 (by rfl) rfl ?_; clear hS; intro a hS
  refine Sq.nil ?_
  refine then_n ?_
  refine wp_block ?_
  refine c_seq ?_
  refine reg_plain w0 (Nobody) ?_
  refine r_eql hS hH.kp0 rfl rfl rfl ?_; clear hS; intro a hS
  refine r_assign hS hH.kp0 rfl rfl ?_; clear hS; intro a hS
  refine Sq.nil ?_
  refine then_n ?_
  refine c_condF hS rfl rfl ?_
  refine c_seq ?_
  refine reg_plain w0 (Nobody) ?_
  refine r_eql hS hH.kp0 rfl rfl rfl ?_; clear hS; intro a hS
  refine r_assign hS hH.kp0 rfl rfl ?_; clear hS; intro a hS
  refine Sq.nil ?_
  refine then_n ?_
  refine c_condF hS rfl rfl ?_
  refine c_seq ?_
  refine reg_plain w0 (Nobody) ?_
  refine r_eql hS hH.kp0 rfl rfl rfl ?_; clear hS; intro a hS
  refine r_assign hS hH.kp0 rfl rfl ?_; clear hS; intro a hS
  refine Sq.nil ?_
  refine then_n ?_
  refine c_condF hS rfl rfl ?_
  refine c_seq ?_
  refine reg_plain w0 (Nobody) ?_
  refine r_eql hS hH.kp0 rfl rfl rfl ?_; clear hS; intro a hS
  refine r_assign hS hH.kp0 rfl rfl ?_; clear hS; intro a hS
  refine Sq.nil ?_
  refine then_n ?_
  refine c_condF hS rfl rfl ?_
  refine c_seq ?_
  refine reg_plain w0 (Nobody) ?_
  refine r_eql hS hH.kp0 rfl rfl rfl ?_; clear hS; intro a hS
  refine r_assign hS hH.kp0 rfl rfl ?_; clear hS; intro a hS
  refine Sq.nil ?_
  refine then_n ?_
  refine c_condT hS rfl rfl ?_
  refine reg_draw [(true, 0, []), (true, 1, []), (true, 2, []), (true, 4, []), (true, 5, []), (false, 3, []), (false, 6, []), (true, 7, [])] Fc.mixed (by kernel_rfl) (by kernel_rfl) (by kernel_rfl) (by kernel_rfl) (by kernel_rfl) (by repeat (first | with_reducible exact steady_body | with_reducible apply steady_block | with_reducible apply steady_then | with_reducible apply steady_scope | exact steady_body)) hH ?_
  replace hH := hH.drew
  refine r_move hS trivial rfl rfl ?_; clear hS; intro a hS
  refine r_fieldAddr hS trivial rfl Fc.fo34_3 rfl ?_; clear hS; intro a hS
  refine r_load_scS hS rfl (by repeat (first | exact In.here | refine In.there ?_)) Fc.sc9 (by rfl) rfl ?_; clear hS; intro a hS
  refine r_fieldAddr hS trivial rfl Fc.fo34_10 rfl ?_; clear hS; intro a hS
  refine r_slArr hS trivial rfl Fc.ar22 rfl ?_; clear hS; intro a hS
  refine r_call (l := [.tmp 118, .tmp 120]) hS rfl rfl Fc.fn23 rfl ?_
  refine Calls.mono ((short_nil name (by omega) _).mono (fun e w1 hP => hP)) ?_
  rintro e w1 hP
  obtain ⟨by1, cy1, ky1, rfl, hry1, hky1, hBy1, hmy1⟩ := hP
  have hBy1 : BB cy1 ky1 ([UInt8.ofNat name.size] ++ name.data.toList) := hBy1
  have hoby1 : Nobody by1 ∨ w0.heap.size ≤ by1 := .inr (Nat.le_trans hH.mod.size hry1)
  replace hH := hH.knowN hmy1 hry1 hky1
  refine ⟨_, rfl, hH.kp (by repeat (first | exact Sub.nil | refine Sub.cons ?_ ?_ | exact In.here | refine In.there ?_)), ?_⟩
  clear hS; intro a hS
  refine r_append_own hS hH rfl rfl (by repeat (first | exact .here | apply In.there | apply Put.there | apply Del.there)) (by repeat (first | exact Sub.nil | refine Sub.cons ?_ ?_ | exact In.here | refine In.there ?_)) Fc.el25 Fc.ni25 (by rw [hBy1.len, Nat.mul_one]) hBy1.le (Bs.row (o := 0 + 55) (u := [m0, m1, m2, m3, m4, m5, m6, m7, m8, m9, ma, mb, mc, md, me, mf]) (cap := 16) (hH.get (b := b1) (by repeat (first | exact In.here | refine In.there ?_))) rfl (Nat.le_refl 16)).src (by first | omega | (simp only [List.length_append, List.length_cons, List.length_nil, beB_len]; omega)) hoby1 rfl ?_
  clear hS hH; intro a w by2 cy2 ky2 hoby2 hly2 hcy2 hty2 hmy2 hS hH
  have hey2 : ([UInt8.ofNat name.size] ++ name.data.toList).length + ([m0, m1, m2, m3, m4, m5, m6, m7, m8, m9, ma, mb, mc, md, me, mf]).length = ([UInt8.ofNat name.size] ++ name.data.toList ++ [m0, m1, m2, m3, m4, m5, m6, m7, m8, m9, ma, mb, mc, md, me, mf]).length := (show ([UInt8.ofNat name.size] ++ name.data.toList).length + ([m0, m1, m2, m3, m4, m5, m6, m7, m8, m9, ma, mb, mc, md, me, mf]).length = ([UInt8.ofNat name.size] ++ name.data.toList ++ [m0, m1, m2, m3, m4, m5, m6, m7, m8, m9, ma, mb, mc, md, me, mf]).length from List.length_append.symm)
  have hBy2 : BB cy2 ky2 ([UInt8.ofNat name.size] ++ name.data.toList ++ [m0, m1, m2, m3, m4, m5, m6, m7, m8, m9, ma, mb, mc, md, me, mf]) := ⟨by rw [hly2, Nat.mul_one], by rw [← hey2]; exact hcy2, by rw [← hey2]; rw [Nat.mul_one, Nat.mul_one] at hty2; rw [hty2, hBy1.take]; exact List.map_append.symm⟩
  rw [hey2] at hS
  refine r_assign hS trivial rfl rfl ?_; clear hS; intro a hS
  refine Sq.nil ?_
  refine blk_n ?_
  refine then_n ?_
  refine c_seq ?_
  refine reg_plain w0 (Nobody) ?_
  refine r_move hS hH.kp0 rfl rfl ?_; clear hS; intro a hS
  refine r_assign hS hH.kp0 rfl rfl ?_; clear hS; intro a hS
  refine Sq.nil ?_
  refine then_n ?_
  refine wp_ret ?_
  have hfin : [UInt8.ofNat name.size] ++ name.data.toList ++ [m0, m1, m2, m3, m4, m5, m6, m7, m8, m9, ma, mb, mc, md, me, mf] = bodyB 11 [r0, r1, r2, r3, r4, r5, r6, r7, r8, r9, ra, rb, rc, rd, re, rf] [s0, s1, s2, s3, s4, s5, s6, s7, s8, s9, sa, sb, sc, sd, se, sf] name ptl prm tck [n0, n1, n2, n3, n4, n5, n6, n7, n8, n9, na, nb, nc, nd, ne, nf] ea ag [m0, m1, m2, m3, m4, m5, m6, m7, m8, m9, ma, mb, mc, md, me, mf] li := by unfold bodyB; rw [if_neg (by decide)]; rw [if_neg (by decide)]; rw [if_neg (by decide)]; rw [if_neg (by decide)]; rw [if_pos rfl]; simp [beB1]
  rw [hfin] at hS hBy2
  exact leave (.inl rfl) hS rfl (Res.tmp rfl Res.nil) ⟨by2, cy2, ky2, rfl, hoby2.resolve_left (fun h => h), hH.get (b := by2) (by repeat (first | exact In.here | refine In.there ?_)), hBy2, hH.mod⟩

set_option maxRecDepth 100000 in
set_option maxHeartbeats 4000000 in
theorem dbody_15 (q1 q2 q3 : Option Addr) (c1 c2 c3 : Nat) (rnd shr bnd mrk : List UInt8) (name : ByteArray) (ptl : List ByteArray) (prm tck : List UInt8) (ea ag : Bool) (li : Int) (hrnd : rnd.length = 16) (hshr : shr.length = 16) (hbnd : bnd.length = 16) (hmrk : mrk.length = 16) (w0 : World) (hpl : ptl.length ≤ 1048576) (hpt : SsA w0 q1 c1 ptl) (hbP : BsF Nobody w0 (.slice q2 prm.length c2) prm) (hbT : BsF Nobody w0 (.slice q3 tck.length c3) tck) : Calls Try.prog 17 #[.agg ([.int .i64 15] ++ hcells rnd ++ hcells shr ++ [.string name, .slice q1 ptl.length c1, .slice q2 prm.length c2, .slice q3 tck.length c3] ++ hcells bnd ++ [.bool ea, .bool ag] ++ hcells mrk ++ [.int .i64 li] : List Value).toArray] w0 fun e w' => ∃ (b' c' : Nat) (k' : List Value), e = .returned (.slice (some ⟨b', 0, none⟩) (bodyB 15 rnd shr name ptl prm tck bnd ea ag mrk li).length c') ∧ w0.heap.size ≤ b' ∧ w'.heap[b']? = some (.cells k'.toArray 5 (0, 0)) ∧ BB c' k' (bodyB 15 rnd shr name ptl prm tck bnd ea ag mrk li) ∧ Ext w0 w' := by
  refine enter Try.func17 rfl rfl rfl ?_
  intro a hS
  have hH := Hp.start w0 (Nobody)
  obtain ⟨r0, r1, r2, r3, r4, r5, r6, r7, r8, r9, ra, rb, rc, rd, re, rf, rfl⟩ := len16 hrnd
  obtain ⟨s0, s1, s2, s3, s4, s5, s6, s7, s8, s9, sa, sb, sc, sd, se, sf, rfl⟩ := len16 hshr
  obtain ⟨n0, n1, n2, n3, n4, n5, n6, n7, n8, n9, na, nb, nc, nd, ne, nf, rfl⟩ := len16 hbnd
  obtain ⟨m0, m1, m2, m3, m4, m5, m6, m7, m8, m9, ma, mb, mc, md, me, mf, rfl⟩ := len16 hmrk
  have hnl : name.data.toList.length = name.size := by rw [Array.length_toList]; rfl
  refine c_seq ?_
  refine reg_plain w0 (Nobody) ?_
  refine r_box hS hH (by repeat (first | exact Sub.nil | refine Sub.cons ?_ ?_ | exact In.here | refine In.there ?_)) rfl rfl rfl ?_
  clear hS hH; intro a w b1 hb1 hwb1 hS hH
  refine r_assign hS hH.kp0 rfl rfl ?_; clear hS; intro a hS
  refine Sq.nil ?_
  refine then_n ?_
  refine c_seq ?_
  refine reg_plain w0 (Nobody) ?_
  refine r_assign hS hH.kp0 rfl rfl ?_; clear hS; intro a hS
  refine Sq.nil ?_
  refine then_n ?_
  refine c_seq ?_
  refine c_seq ?_
  refine reg_plain w0 (Nobody) ?_
  refine r_fieldAddr hS hH.kp0 rfl Fc.fo34_0 rfl ?_; clear hS; intro a hS
  refine r_load_sc hS hH (by repeat (first | exact Sub.nil | refine Sub.cons ?_ ?_ | exact In.here | refine In.there ?_)) rfl (by repeat (first | exact In.here | refine In.there ?_)) Fc.sc3 (by rfl) rfl ?_; clear hS; intro a hS
  refine Sq.nil ?_
  refine then_n ?_
  refine wp_block ?_
  refine c_seq ?_
  refine reg_plain w0 (Nobody) ?_
  refine r_eql hS hH.kp0 rfl rfl rfl ?_; clear hS; intro a hS
  refine r_assign hS hH.kp0 rfl rfl ?_; clear hS; intro a hS
  refine Sq.nil ?_
  refine then_n ?_
  refine c_condF hS rfl rfl ?_
  refine c_seq ?_
  refine reg_plain w0 (Nobody) ?_
  refine r_eql hS hH.kp0 rfl rfl rfl ?_; clear hS; intro a hS
  refine r_assign hS hH.kp0 rfl rfl ?_; clear hS; intro a hS
  refine Sq.nil ?_
  refine then_n ?_
  refine c_condF hS rfl rfl ?_
  refine c_seq ?_
  refine reg_plain w0 (Nobody) ?_
  refine r_eql hS hH.kp0 rfl rfl rfl ?_; clear hS; intro a hS
  refine r_assign hS hH.kp0 rfl rfl ?_; clear hS; intro a hS
  refine Sq.nil ?_
  refine then_n ?_
  refine c_condF hS rfl rfl ?_
  refine c_seq ?_
  refine reg_plain w0 (Nobody) ?_
  refine r_eql hS hH.kp0 rfl rfl rfl ?_; clear hS; intro a hS
  refine r_assign hS hH.kp0 rfl rfl ?_; clear hS; intro a hS
  refine Sq.nil ?_
  refine then_n ?_
  refine c_condF hS rfl rfl ?_
  refine c_seq ?_
  refine reg_plain w0 (Nobody) ?_
  refine r_eql hS hH.kp0 rfl rfl rfl ?_; clear hS; intro a hS
  refine r_assign hS hH.kp0 rfl rfl ?_; clear hS; intro a hS
  refine Sq.nil ?_
  refine then_n ?_
  refine c_condF hS rfl rfl ?_
  refine c_seq ?_
  refine c_seq ?_
  refine reg_plain w0 (Nobody) ?_
  refine r_eql hS hH.kp0 rfl rfl rfl ?_; clear hS; intro a hS
  refine r_assign hS hH.kp0 rfl rfl ?_; clear hS; intro a hS
  refine Sq.nil ?_
  refine then_n ?_
  refine c_condT hS rfl rfl ?_
  refine wp_skip ?_
  refine then_n ?_
  refine c_condT hS rfl rfl ?_
  refine reg_plain w0 (Nobody) ?_
  refine r_move hS hH.kp0 rfl rfl ?_; clear hS; intro a hS
  refine r_fieldAddr hS hH.kp0 rfl Fc.fo34_10 rfl ?_; clear hS; intro a hS
  refine r_slArr hS hH.kp0 rfl Fc.ar22 rfl ?_; clear hS; intro a hS
  refine r_append_nil hS hH (by repeat (first | exact Sub.nil | refine Sub.cons ?_ ?_ | exact In.here | refine In.there ?_)) rfl rfl Fc.el25 Fc.ni25 ((Bs.row (o := 0 + 55) (u := [m0, m1, m2, m3, m4, m5, m6, m7, m8, m9, ma, mb, mc, md, me, mf]) (cap := 16) (hH.get (b := b1) (by repeat (first | exact In.here | refine In.there ?_))) rfl (Nat.le_refl 16))).src (by simp) (by simp) rfl ?_
  clear hS hH; intro a w by1 cy1 ky1 hwy1 hwwy1 hly1 hmy1 htky1 hExy1 hS hH
  have hBy1 : BB cy1 ky1 ([m0, m1, m2, m3, m4, m5, m6, m7, m8, m9, ma, mb, mc, md, me, mf]) := ⟨by rw [hly1, Nat.mul_one], hmy1, by rw [Nat.mul_one] at htky1; exact htky1⟩
  rw [show ([m0, m1, m2, m3, m4, m5, m6, m7, m8, m9, ma, mb, mc, md, me, mf] : List UInt8).length = ([m0, m1, m2, m3, m4, m5, m6, m7, m8, m9, ma, mb, mc, md, me, mf]).length from by simp] at hS
  have hoby1 : Nobody by1 ∨ w0.heap.size ≤ by1 := .inr hwy1
  refine r_assign hS hH.kp0 rfl rfl ?_; clear hS; intro a hS
  refine Sq.nil ?_
  refine blk_n ?_
  refine then_n ?_
  refine c_seq ?_
  refine reg_plain w0 (Nobody) ?_
  refine r_move hS hH.kp0 rfl rfl ?_; clear hS; intro a hS
  refine r_assign hS hH.kp0 rfl rfl ?_; clear hS; intro a hS
  refine Sq.nil ?_
  refine then_n ?_
  refine wp_ret ?_
  have hfin : [m0, m1, m2, m3, m4, m5, m6, m7, m8, m9, ma, mb, mc, md, me, mf] = bodyB 15 [r0, r1, r2, r3, r4, r5, r6, r7, r8, r9, ra, rb, rc, rd, re, rf] [s0, s1, s2, s3, s4, s5, s6, s7, s8, s9, sa, sb, sc, sd, se, sf] name ptl prm tck [n0, n1, n2, n3, n4, n5, n6, n7, n8, n9, na, nb, nc, nd, ne, nf] ea ag [m0, m1, m2, m3, m4, m5, m6, m7, m8, m9, ma, mb, mc, md, me, mf] li := by unfold bodyB; rw [if_neg (by decide)]; rw [if_neg (by decide)]; rw [if_neg (by decide)]; rw [if_neg (by decide)]; rw [if_neg (by decide)]
  rw [hfin] at hS hBy1
  exact leave (.inl rfl) hS rfl (Res.tmp rfl Res.nil) ⟨by1, cy1, ky1, rfl, hoby1.resolve_left (fun h => h), hH.get (b := by1) (by repeat (first | exact In.here | refine In.there ?_)), hBy1, hH.mod⟩

set_option maxRecDepth 100000 in
set_option maxHeartbeats 4000000 in
theorem dbody_20 (q1 q2 q3 : Option Addr) (c1 c2 c3 : Nat) (rnd shr bnd mrk : List UInt8) (name : ByteArray) (ptl : List ByteArray) (prm tck : List UInt8) (ea ag : Bool) (li : Int) (hrnd : rnd.length = 16) (hshr : shr.length = 16) (hbnd : bnd.length = 16) (hmrk : mrk.length = 16) (w0 : World) (hpl : ptl.length ≤ 1048576) (hpt : SsA w0 q1 c1 ptl) (hbP : BsF Nobody w0 (.slice q2 prm.length c2) prm) (hbT : BsF Nobody w0 (.slice q3 tck.length c3) tck) : Calls Try.prog 17 #[.agg ([.int .i64 20] ++ hcells rnd ++ hcells shr ++ [.string name, .slice q1 ptl.length c1, .slice q2 prm.length c2, .slice q3 tck.length c3] ++ hcells bnd ++ [.bool ea, .bool ag] ++ hcells mrk ++ [.int .i64 li] : List Value).toArray] w0 fun e w' => ∃ (b' c' : Nat) (k' : List Value), e = .returned (.slice (some ⟨b', 0, none⟩) (bodyB 20 rnd shr name ptl prm tck bnd ea ag mrk li).length c') ∧ w0.heap.size ≤ b' ∧ w'.heap[b']? = some (.cells k'.toArray 5 (0, 0)) ∧ BB c' k' (bodyB 20 rnd shr name ptl prm tck bnd ea ag mrk li) ∧ Ext w0 w' := by
  refine enter Try.func17 rfl rfl rfl ?_
  intro a hS
  have hH := Hp.start w0 (Nobody)
  obtain ⟨r0, r1, r2, r3, r4, r5, r6, r7, r8, r9, ra, rb, rc, rd, re, rf, rfl⟩ := len16 hrnd
  obtain ⟨s0, s1, s2, s3, s4, s5, s6, s7, s8, s9, sa, sb, sc, sd, se, sf, rfl⟩ := len16 hshr
  obtain ⟨n0, n1, n2, n3, n4, n5, n6, n7, n8, n9, na, nb, nc, nd, ne, nf, rfl⟩ := len16 hbnd
  obtain ⟨m0, m1, m2, m3, m4, m5, m6, m7, m8, m9, ma, mb, mc, md, me, mf, rfl⟩ := len16 hmrk
  have hnl : name.data.toList.length = name.size := by rw [Array.length_toList]; rfl
  refine c_seq ?_
  refine reg_plain w0 (Nobody) ?_
  refine r_box hS hH (by repeat (first | exact Sub.nil | refine Sub.cons ?_ ?_ | exact In.here | refine In.there ?_)) rfl rfl rfl ?_
  clear hS hH; intro a w b1 hb1 hwb1 hS hH
  refine r_assign hS hH.kp0 rfl rfl ?_; clear hS; intro a hS
  refine Sq.nil ?_
  refine then_n ?_
  refine c_seq ?_
  refine reg_plain w0 (Nobody) ?_
  refine r_assign hS hH.kp0 rfl rfl ?_; clear hS; intro a hS
  refine Sq.nil ?_
  refine then_n ?_
  refine c_seq ?_
  refine c_seq ?_
  refine reg_plain w0 (Nobody) ?_
  refine r_fieldAddr hS hH.kp0 rfl Fc.fo34_0 rfl ?_; clear hS; intro a hS
  refine r_load_sc hS hH (by repeat (first | exact Sub.nil | refine Sub.cons ?_ ?_ | exact In.here | refine In.there ?_)) rfl (by repeat (first | exact In.here | refine In.there ?_)) Fc.sc3 (by rfl) rfl ?_; clear hS; intro a hS
  refine Sq.nil ?_
  refine then_n ?_
  refine wp_block ?_
  refine c_seq ?_
  refine reg_plain w0 (Nobody) ?_
  refine r_eql hS hH.kp0 rfl rfl rfl ?_; clear hS; intro a hS
  refine r_assign hS hH.kp0 rfl rfl ?_; clear hS; intro a hS
  refine Sq.nil ?_
  refine then_n ?_
  refine c_condF hS rfl rfl ?_
  refine c_seq ?_
  refine reg_plain w0 (Nobody) ?_
  refine r_eql hS hH.kp0 rfl rfl rfl ?_; clear hS; intro a hS
  refine r_assign hS hH.kp0 rfl rfl ?_; clear hS; intro a hS
  refine Sq.nil ?_
  refine then_n ?_
  refine c_condF hS rfl rfl ?_
  refine c_seq ?_
  refine reg_plain w0 (Nobody) ?_
  refine r_eql hS hH.kp0 rfl rfl rfl ?_; clear hS; intro a hS
  refine r_assign hS hH.kp0 rfl rfl ?_; clear hS; intro a hS
  refine Sq.nil ?_
  refine then_n ?_
  refine c_condF hS rfl rfl ?_
  refine c_seq ?_
  refine reg_plain w0 (Nobody) ?_
  refine r_eql hS hH.kp0 rfl rfl rfl ?_; clear hS; intro a hS
  refine r_assign hS hH.kp0 rfl rfl ?_; clear hS; intro a hS
  refine Sq.nil ?_
  refine then_n ?_
  refine c_condF hS rfl rfl ?_
  refine c_seq ?_
  refine reg_plain w0 (Nobody) ?_
  refine r_eql hS hH.kp0 rfl rfl rfl ?_; clear hS; intro a hS
  refine r_assign hS hH.kp0 rfl rfl ?_; clear hS; intro a hS
  refine Sq.nil ?_
  refine then_n ?_
  refine c_condF hS rfl rfl ?_
  refine c_seq ?_
  refine c_seq ?_
  refine reg_plain w0 (Nobody) ?_
  refine r_eql hS hH.kp0 rfl rfl rfl ?_; clear hS; intro a hS
  refine r_assign hS hH.kp0 rfl rfl ?_; clear hS; intro a hS
  refine Sq.nil ?_
  refine then_n ?_
  refine c_condF hS rfl rfl ?_
  refine reg_plain w0 (Nobody) ?_
  refine r_eql hS hH.kp0 rfl rfl rfl ?_; clear hS; intro a hS
  refine r_assign hS hH.kp0 rfl rfl ?_; clear hS; intro a hS
  refine Sq.nil ?_
  refine then_n ?_
  refine c_condT hS rfl rfl ?_
  refine reg_plain w0 (Nobody) ?_
  refine r_move hS hH.kp0 rfl rfl ?_; clear hS; intro a hS
  refine r_fieldAddr hS hH.kp0 rfl Fc.fo34_10 rfl ?_; clear hS; intro a hS
  refine r_slArr hS hH.kp0 rfl Fc.ar22 rfl ?_; clear hS; intro a hS
  refine r_append_nil hS hH (by repeat (first | exact Sub.nil | refine Sub.cons ?_ ?_ | exact In.here | refine In.there ?_)) rfl rfl Fc.el25 Fc.ni25 ((Bs.row (o := 0 + 55) (u := [m0, m1, m2, m3, m4, m5, m6, m7, m8, m9, ma, mb, mc, md, me, mf]) (cap := 16) (hH.get (b := b1) (by repeat (first | exact In.here | refine In.there ?_))) rfl (Nat.le_refl 16))).src (by simp) (by simp) rfl ?_
  clear hS hH; intro a w by1 cy1 ky1 hwy1 hwwy1 hly1 hmy1 htky1 hExy1 hS hH
  have hBy1 : BB cy1 ky1 ([m0, m1, m2, m3, m4, m5, m6, m7, m8, m9, ma, mb, mc, md, me, mf]) := ⟨by rw [hly1, Nat.mul_one], hmy1, by rw [Nat.mul_one] at htky1; exact htky1⟩
  rw [show ([m0, m1, m2, m3, m4, m5, m6, m7, m8, m9, ma, mb, mc, md, me, mf] : List UInt8).length = ([m0, m1, m2, m3, m4, m5, m6, m7, m8, m9, ma, mb, mc, md, me, mf]).length from by simp] at hS
  have hoby1 : Nobody by1 ∨ w0.heap.size ≤ by1 := .inr hwy1
  refine r_assign hS hH.kp0 rfl rfl ?_; clear hS; intro a hS
  refine Sq.nil ?_
  refine blk_n ?_
  refine then_n ?_
  refine c_seq ?_
  refine reg_plain w0 (Nobody) ?_
  refine r_move hS hH.kp0 rfl rfl ?_; clear hS; intro a hS
  refine r_assign hS hH.kp0 rfl rfl ?_; clear hS; intro a hS
  refine Sq.nil ?_
  refine then_n ?_
  refine wp_ret ?_
  have hfin : [m0, m1, m2, m3, m4, m5, m6, m7, m8, m9, ma, mb, mc, md, me, mf] = bodyB 20 [r0, r1, r2, r3, r4, r5, r6, r7, r8, r9, ra, rb, rc, rd, re, rf] [s0, s1, s2, s3, s4, s5, s6, s7, s8, s9, sa, sb, sc, sd, se, sf] name ptl prm tck [n0, n1, n2, n3, n4, n5, n6, n7, n8, n9, na, nb, nc, nd, ne, nf] ea ag [m0, m1, m2, m3, m4, m5, m6, m7, m8, m9, ma, mb, mc, md, me, mf] li := by unfold bodyB; rw [if_neg (by decide)]; rw [if_neg (by decide)]; rw [if_neg (by decide)]; rw [if_neg (by decide)]; rw [if_neg (by decide)]
  rw [hfin] at hS hBy1
  exact leave (.inl rfl) hS rfl (Res.tmp rfl Res.nil) ⟨by1, cy1, ky1, rfl, hoby1.resolve_left (fun h => h), hH.get (b := by1) (by repeat (first | exact In.here | refine In.there ?_)), hBy1, hH.mod⟩


theorem dbody_c (kd : Int) (q1 q2 q3 : Option Addr) (c1 c2 c3 : Nat) (rnd shr bnd mrk : List UInt8) (name : ByteArray) (ptl : List ByteArray) (prm tck : List UInt8) (ea ag : Bool) (li : Int) (hrnd : rnd.length = 16) (hshr : shr.length = 16) (hbnd : bnd.length = 16) (hmrk : mrk.length = 16) (hkn : kd = 1 ∨ kd = 2 ∨ kd = 4 ∨ kd = 8 ∨ kd = 11 ∨ kd = 15 ∨ kd = 20) (hmay : mayM kd name.size ptl.length prm.length tck.length (bzN ea bnd) (oddN ptl) li) (w0 : World) (hpl : ptl.length ≤ 1048576) (hpt : SsA w0 q1 c1 ptl) (hbP : BsF Nobody w0 (.slice q2 prm.length c2) prm) (hbT : BsF Nobody w0 (.slice q3 tck.length c3) tck) : Calls Try.prog 17 #[.agg ([.int .i64 kd] ++ hcells rnd ++ hcells shr ++ [.string name, .slice q1 ptl.length c1, .slice q2 prm.length c2, .slice q3 tck.length c3] ++ hcells bnd ++ [.bool ea, .bool ag] ++ hcells mrk ++ [.int .i64 li] : List Value).toArray] w0 fun e w' => ∃ (b' c' : Nat) (k' : List Value), e = .returned (.slice (some ⟨b', 0, none⟩) (bodyB kd rnd shr name ptl prm tck bnd ea ag mrk li).length c') ∧ w0.heap.size ≤ b' ∧ w'.heap[b']? = some (.cells k'.toArray 5 (0, 0)) ∧ BB c' k' (bodyB kd rnd shr name ptl prm tck bnd ea ag mrk li) ∧ Ext w0 w' := by
  obtain ⟨m1, m4, m8, m11⟩ := hmay
  rcases hkn with rfl | rfl | rfl | rfl | rfl | rfl | rfl
  · obtain ⟨_, hp1, hp2, hp3, hp4, hp5, hp6⟩ := m1 rfl
    rcases (by omega : tck.length = 0 ∨ 1 ≤ tck.length) with ht | ht
    · cases ea
      · exact dbody_1ff q1 q2 q3 c1 c2 c3 rnd shr bnd mrk name ptl prm tck false ag li hrnd hshr hbnd hmrk hp5 hp2 hp3 hp4 hp6 ht rfl w0 hpl hpt hbP hbT
      · exact dbody_1ft q1 q2 q3 c1 c2 c3 rnd shr bnd mrk name ptl prm tck true ag li hrnd hshr hbnd hmrk hp5 hp2 hp3 hp4 hp6 ht rfl w0 hpl hpt hbP hbT
    · cases ea
      · exact dbody_1tf q1 q2 q3 c1 c2 c3 rnd shr bnd mrk name ptl prm tck false ag li hrnd hshr hbnd hmrk hp5 hp2 hp3 hp4 hp6 ht rfl w0 hpl hpt hbP hbT
      · exact dbody_1tt q1 q2 q3 c1 c2 c3 rnd shr bnd mrk name ptl prm tck true ag li hrnd hshr hbnd hmrk hp5 hp2 hp3 hp4 hp6 ht rfl w0 hpl hpt hbP hbT
  · cases ag
    · exact dbody_2f q1 q2 q3 c1 c2 c3 rnd shr bnd mrk name ptl prm tck ea false li hrnd hshr hbnd hmrk rfl w0 hpl hpt hbP hbT
    · exact dbody_2t q1 q2 q3 c1 c2 c3 rnd shr bnd mrk name ptl prm tck ea true li hrnd hshr hbnd hmrk rfl w0 hpl hpt hbP hbT
  · obtain ⟨hq1, hq2, _, hq3⟩ := m4 rfl
    cases ea
    · exact dbody_4f q1 q2 q3 c1 c2 c3 rnd shr bnd mrk name ptl prm tck false ag li hrnd hshr hbnd hmrk ⟨hq1, hq2⟩ hq3 rfl w0 hpl hpt hbP hbT
    · exact dbody_4t q1 q2 q3 c1 c2 c3 rnd shr bnd mrk name ptl prm tck true ag li hrnd hshr hbnd hmrk ⟨hq1, hq2⟩ hq3 rfl w0 hpl hpt hbP hbT
  · obtain ⟨hq1, hq2, hq3, hq4⟩ := m8 rfl
    cases ea
    · exact dbody_8f q1 q2 q3 c1 c2 c3 rnd shr bnd mrk name ptl prm tck false ag li hrnd hshr hbnd hmrk (by omega) hq3 hq4 rfl w0 hpl hpt hbP hbT
    · exact dbody_8t q1 q2 q3 c1 c2 c3 rnd shr bnd mrk name ptl prm tck true ag li hrnd hshr hbnd hmrk (by omega) hq3 hq4 rfl w0 hpl hpt hbP hbT
  · exact dbody_11 q1 q2 q3 c1 c2 c3 rnd shr bnd mrk name ptl prm tck ea ag li hrnd hshr hbnd hmrk (m11 rfl) w0 hpl hpt hbP hbT
  · exact dbody_15 q1 q2 q3 c1 c2 c3 rnd shr bnd mrk name ptl prm tck ea ag li hrnd hshr hbnd hmrk w0 hpl hpt hbP hbT
  · exact dbody_20 q1 q2 q3 c1 c2 c3 rnd shr bnd mrk name ptl prm tck ea ag li hrnd hshr hbnd hmrk w0 hpl hpt hbP hbT

end Go.Proofs.Ytcenionnedgadaa

namespace Go.Proofs.Ytcenionnedgadaa
open Go.Sym

theorem Fc.ag34 : agB Try.prog 34 = some 72 := by kernel_rfl
theorem Fc.fn15 : isFn Try.prog 15 = true := by kernel_rfl
theorem Fc.fn16 : isFn Try.prog 16 = true := by kernel_rfl
theorem Fc.fn17 : isFn Try.prog 17 = true := by kernel_rfl
theorem Fc.fn6 : isFn Try.prog 6 = true := by kernel_rfl
set_option maxRecDepth 100000 in
set_option maxHeartbeats 2000000 in
theorem dPut_no (kd : Int) (q1 q2 q3 : Option Addr) (c1 c2 c3 : Nat) (rnd shr bnd mrk : List UInt8) (name : ByteArray) (ptl : List ByteArray) (prm tck : List UInt8) (ea ag : Bool) (li : Int) (hrnd : rnd.length = 16) (hshr : shr.length = 16) (hbnd : bnd.length = 16) (hmrk : mrk.length = 16) (hkn : ¬ (kd = 1 ∨ kd = 2 ∨ kd = 4 ∨ kd = 8 ∨ kd = 11 ∨ kd = 15 ∨ kd = 20)) (w0 : World) (hpl : ptl.length ≤ 1048576) (hpt : SsA w0 q1 c1 ptl) (hbP : BsF Nobody w0 (.slice q2 prm.length c2) prm) (hbT : BsF Nobody w0 (.slice q3 tck.length c3) tck) : Calls Try.prog 6 #[.agg ([.int .i64 kd] ++ hcells rnd ++ hcells shr ++ [.string name, .slice q1 ptl.length c1, .slice q2 prm.length c2, .slice q3 tck.length c3] ++ hcells bnd ++ [.bool ea, .bool ag] ++ hcells mrk ++ [.int .i64 li] : List Value).toArray] w0 fun e w' => e = .returned (.tuple #[.slice none 0 0, .int .i64 12]) ∧ Ext w0 w' := by
  refine enter Try.func6 rfl rfl rfl ?_
  intro a hS
  have hH := Hp.start w0 (Nobody)
  obtain ⟨r0, r1, r2, r3, r4, r5, r6, r7, r8, r9, ra, rb, rc, rd, re, rf, rfl⟩ := len16 hrnd
  obtain ⟨s0, s1, s2, s3, s4, s5, s6, s7, s8, s9, sa, sb, sc, sd, se, sf, rfl⟩ := len16 hshr
  obtain ⟨n0, n1, n2, n3, n4, n5, n6, n7, n8, n9, na, nb, nc, nd, ne, nf, rfl⟩ := len16 hbnd
  obtain ⟨m0, m1, m2, m3, m4, m5, m6, m7, m8, m9, ma, mb, mc, md, me, mf, rfl⟩ := len16 hmrk
  refine c_seq ?_
  refine reg_plain w0 (Nobody) ?_
  refine r_box hS hH (by repeat (first | exact Sub.nil | refine Sub.cons ?_ ?_ | exact In.here | refine In.there ?_)) rfl rfl rfl ?_
  clear hS hH; intro a w b1 hb1 hwb1 hS hH
  refine r_assign hS hH.kp0 rfl rfl ?_; clear hS; intro a hS
  refine r_assign hS hH.kp0 rfl rfl ?_; clear hS; intro a hS
  refine Sq.nil ?_
  refine then_n ?_
  refine c_seq ?_
  refine c_seq ?_
  refine reg_plain w0 (Nobody) ?_
  refine r_fieldAddr hS hH.kp0 rfl Fc.fo34_0 rfl ?_; clear hS; intro a hS
  refine r_load_sc hS hH (by repeat (first | exact Sub.nil | refine Sub.cons ?_ ?_ | exact In.here | refine In.there ?_)) rfl (by repeat (first | exact In.here | refine In.there ?_)) Fc.sc3 (by rfl) rfl ?_; clear hS; intro a hS
  refine r_call (l := [.tmp 7]) hS rfl rfl Fc.fn15 rfl ?_
  refine Calls.mono (known_c _ _) ?_
  rintro e w1 ⟨rfl, hE⟩
  replace hH := hH.ext hE
  refine ⟨_, rfl, hH.kp0, ?_⟩
  clear hS; intro a hS
  refine r_not hS hH.kp0 rfl rfl ?_; clear hS; intro a hS
  refine Sq.nil ?_
  refine then_n ?_
  refine c_condT hS rfl (by rw [DF hkn]; rfl) ?_
  refine c_seq ?_
  refine reg_plain w0 (Nobody) ?_
  refine r_assign hS hH.kp0 rfl rfl ?_; clear hS; intro a hS
  refine r_assign hS hH.kp0 rfl rfl ?_; clear hS; intro a hS
  refine Sq.nil ?_
  refine then_n ?_
  refine wp_ret ?_
  refine then_r ?_
  exact leave (.inl rfl) hS rfl (Res.tmp rfl (Res.tmp rfl Res.nil)) ⟨rfl, hH.mod⟩

set_option maxRecDepth 100000 in
set_option maxHeartbeats 2000000 in
theorem dPut_bad (kd : Int) (q1 q2 q3 : Option Addr) (c1 c2 c3 : Nat) (rnd shr bnd mrk : List UInt8) (name : ByteArray) (ptl : List ByteArray) (prm tck : List UInt8) (ea ag : Bool) (li : Int) (hrnd : rnd.length = 16) (hshr : shr.length = 16) (hbnd : bnd.length = 16) (hmrk : mrk.length = 16) (hkn : kd = 1 ∨ kd = 2 ∨ kd = 4 ∨ kd = 8 ∨ kd = 11 ∨ kd = 15 ∨ kd = 20) (hmay : ¬ (mayM kd name.size ptl.length prm.length tck.length (bzN ea bnd) (oddN ptl) li)) (w0 : World) (hpl : ptl.length ≤ 1048576) (hpt : SsA w0 q1 c1 ptl) (hbP : BsF Nobody w0 (.slice q2 prm.length c2) prm) (hbT : BsF Nobody w0 (.slice q3 tck.length c3) tck) : Calls Try.prog 6 #[.agg ([.int .i64 kd] ++ hcells rnd ++ hcells shr ++ [.string name, .slice q1 ptl.length c1, .slice q2 prm.length c2, .slice q3 tck.length c3] ++ hcells bnd ++ [.bool ea, .bool ag] ++ hcells mrk ++ [.int .i64 li] : List Value).toArray] w0 fun e w' => e = .returned (.tuple #[.slice none 0 0, .int .i64 2]) ∧ Ext w0 w' := by
  refine enter Try.func6 rfl rfl rfl ?_
  intro a hS
  have hH := Hp.start w0 (Nobody)
  obtain ⟨r0, r1, r2, r3, r4, r5, r6, r7, r8, r9, ra, rb, rc, rd, re, rf, rfl⟩ := len16 hrnd
  obtain ⟨s0, s1, s2, s3, s4, s5, s6, s7, s8, s9, sa, sb, sc, sd, se, sf, rfl⟩ := len16 hshr
  obtain ⟨n0, n1, n2, n3, n4, n5, n6, n7, n8, n9, na, nb, nc, nd, ne, nf, rfl⟩ := len16 hbnd
  obtain ⟨m0, m1, m2, m3, m4, m5, m6, m7, m8, m9, ma, mb, mc, md, me, mf, rfl⟩ := len16 hmrk
  refine c_seq ?_
  refine reg_plain w0 (Nobody) ?_
  refine r_box hS hH (by repeat (first | exact Sub.nil | refine Sub.cons ?_ ?_ | exact In.here | refine In.there ?_)) rfl rfl rfl ?_
  clear hS hH; intro a w b1 hb1 hwb1 hS hH
  refine r_assign hS hH.kp0 rfl rfl ?_; clear hS; intro a hS
  refine r_assign hS hH.kp0 rfl rfl ?_; clear hS; intro a hS
  refine Sq.nil ?_
  refine then_n ?_
  refine c_seq ?_
  refine c_seq ?_
  refine reg_plain w0 (Nobody) ?_
  refine r_fieldAddr hS hH.kp0 rfl Fc.fo34_0 rfl ?_; clear hS; intro a hS
  refine r_load_sc hS hH (by repeat (first | exact Sub.nil | refine Sub.cons ?_ ?_ | exact In.here | refine In.there ?_)) rfl (by repeat (first | exact In.here | refine In.there ?_)) Fc.sc3 (by rfl) rfl ?_; clear hS; intro a hS
  refine r_call (l := [.tmp 7]) hS rfl rfl Fc.fn15 rfl ?_
  refine Calls.mono (known_c _ _) ?_
  rintro e w1 ⟨rfl, hE⟩
  replace hH := hH.ext hE
  refine ⟨_, rfl, hH.kp0, ?_⟩
  clear hS; intro a hS
  refine r_not hS hH.kp0 rfl rfl ?_; clear hS; intro a hS
  refine Sq.nil ?_
  refine then_n ?_
  refine c_condF hS rfl (by rw [DT hkn]; rfl) ?_
  refine wp_skip ?_
  refine then_n ?_
  refine c_seq ?_
  refine c_seq ?_
  refine reg_plain w0 (Nobody) ?_
  refine r_load_row hS hH (by repeat (first | exact Sub.nil | refine Sub.cons ?_ ?_ | exact In.here | refine In.there ?_)) rfl (by repeat (first | exact In.here | refine In.there ?_)) Fc.ag34 (by rfl) rfl ?_; clear hS; intro a hS
  refine r_call (l := [.tmp 10]) hS rfl rfl Fc.fn16 rfl ?_
  refine Calls.mono (may_c kd q1 q2 q3 c1 c2 c3 _ _ _ _ name ptl prm tck ea ag li hrnd hshr hbnd hmrk _ hpl (hpt.ext hH.mod)) ?_
  rintro e w1 ⟨rfl, hE⟩
  replace hH := hH.ext hE
  refine ⟨_, rfl, hH.kp0, ?_⟩
  clear hS; intro a hS
  refine r_not hS hH.kp0 rfl rfl ?_; clear hS; intro a hS
  refine Sq.nil ?_
  refine then_n ?_
  refine c_condT hS rfl (by rw [DF hmay]; rfl) ?_
  refine c_seq ?_
  refine reg_plain w0 (Nobody) ?_
  refine r_assign hS hH.kp0 rfl rfl ?_; clear hS; intro a hS
  refine r_assign hS hH.kp0 rfl rfl ?_; clear hS; intro a hS
  refine Sq.nil ?_
  refine then_n ?_
  refine wp_ret ?_
  refine then_r ?_
  exact leave (.inl rfl) hS rfl (Res.tmp rfl (Res.tmp rfl Res.nil)) ⟨rfl, hH.mod⟩

set_option maxRecDepth 100000 in
set_option maxHeartbeats 4000000 in
theorem dPut_ok (kd : Int) (q1 q2 q3 : Option Addr) (c1 c2 c3 : Nat) (rnd shr bnd mrk : List UInt8) (name : ByteArray) (ptl : List ByteArray) (prm tck : List UInt8) (ea ag : Bool) (li : Int) (hrnd : rnd.length = 16) (hshr : shr.length = 16) (hbnd : bnd.length = 16) (hmrk : mrk.length = 16) (hkn : kd = 1 ∨ kd = 2 ∨ kd = 4 ∨ kd = 8 ∨ kd = 11 ∨ kd = 15 ∨ kd = 20) (hmay : mayM kd name.size ptl.length prm.length tck.length (bzN ea bnd) (oddN ptl) li) (w0 : World) (hpl : ptl.length ≤ 1048576) (hpt : SsA w0 q1 c1 ptl) (hbP : BsF Nobody w0 (.slice q2 prm.length c2) prm) (hbT : BsF Nobody w0 (.slice q3 tck.length c3) tck) : Calls Try.prog 6 #[.agg ([.int .i64 kd] ++ hcells rnd ++ hcells shr ++ [.string name, .slice q1 ptl.length c1, .slice q2 prm.length c2, .slice q3 tck.length c3] ++ hcells bnd ++ [.bool ea, .bool ag] ++ hcells mrk ++ [.int .i64 li] : List Value).toArray] w0 fun e w' => ∃ (b' c' : Nat) (k' : List Value), e = .returned (.tuple #[.slice (some ⟨b', 0, none⟩) ((msgB kd (bodyB kd rnd shr name ptl prm tck bnd ea ag mrk li)).length) c', .int .i64 0]) ∧ w0.heap.size ≤ b' ∧ w'.heap[b']? = some (.cells k'.toArray 5 (0, 0)) ∧ BB c' k' (msgB kd (bodyB kd rnd shr name ptl prm tck bnd ea ag mrk li)) ∧ Ext w0 w' := by
  refine enter Try.func6 rfl rfl rfl ?_
  intro a hS
  have hH := Hp.start w0 (Nobody)
  obtain ⟨kn, hkne⟩ : ∃ kn : Nat, kd = (kn : Int) := ⟨kd.toNat, by omega⟩
  subst hkne
  obtain ⟨r0, r1, r2, r3, r4, r5, r6, r7, r8, r9, ra, rb, rc, rd, re, rf, rfl⟩ := len16 hrnd
  obtain ⟨s0, s1, s2, s3, s4, s5, s6, s7, s8, s9, sa, sb, sc, sd, se, sf, rfl⟩ := len16 hshr
  obtain ⟨n0, n1, n2, n3, n4, n5, n6, n7, n8, n9, na, nb, nc, nd, ne, nf, rfl⟩ := len16 hbnd
  obtain ⟨m0, m1, m2, m3, m4, m5, m6, m7, m8, m9, ma, mb, mc, md, me, mf, rfl⟩ := len16 hmrk
  refine c_seq ?_
  refine reg_plain w0 (Nobody) ?_
  refine r_box hS hH (by repeat (first | exact Sub.nil | refine Sub.cons ?_ ?_ | exact In.here | refine In.there ?_)) rfl rfl rfl ?_
  clear hS hH; intro a w b1 hb1 hwb1 hS hH
  refine r_assign hS hH.kp0 rfl rfl ?_; clear hS; intro a hS
  refine r_assign hS hH.kp0 rfl rfl ?_; clear hS; intro a hS
  refine Sq.nil ?_
  refine then_n ?_
  refine c_seq ?_
  refine c_seq ?_
  refine reg_plain w0 (Nobody) ?_
  refine r_fieldAddr hS hH.kp0 rfl Fc.fo34_0 rfl ?_; clear hS; intro a hS
  refine r_load_sc hS hH (by repeat (first | exact Sub.nil | refine Sub.cons ?_ ?_ | exact In.here | refine In.there ?_)) rfl (by repeat (first | exact In.here | refine In.there ?_)) Fc.sc3 (by rfl) rfl ?_; clear hS; intro a hS
  refine r_call (l := [.tmp 7]) hS rfl rfl Fc.fn15 rfl ?_
  refine Calls.mono (known_c _ _) ?_
  rintro e w1 ⟨rfl, hE⟩
  replace hH := hH.ext hE
  refine ⟨_, rfl, hH.kp0, ?_⟩
  clear hS; intro a hS
  refine r_not hS hH.kp0 rfl rfl ?_; clear hS; intro a hS
  refine Sq.nil ?_
  refine then_n ?_
  refine c_condF hS rfl (by rw [DT hkn]; rfl) ?_
  refine wp_skip ?_
  refine then_n ?_
  refine c_seq ?_
  refine c_seq ?_
  refine reg_plain w0 (Nobody) ?_
  refine r_load_row hS hH (by repeat (first | exact Sub.nil | refine Sub.cons ?_ ?_ | exact In.here | refine In.there ?_)) rfl (by repeat (first | exact In.here | refine In.there ?_)) Fc.ag34 (by rfl) rfl ?_; clear hS; intro a hS
  refine r_call (l := [.tmp 10]) hS rfl rfl Fc.fn16 rfl ?_
  refine Calls.mono (may_c (kn : Int) q1 q2 q3 c1 c2 c3 _ _ _ _ name ptl prm tck ea ag li hrnd hshr hbnd hmrk _ hpl (hpt.ext hH.mod)) ?_
  rintro e w1 ⟨rfl, hE⟩
  replace hH := hH.ext hE
  refine ⟨_, rfl, hH.kp0, ?_⟩
  clear hS; intro a hS
  refine r_not hS hH.kp0 rfl rfl ?_; clear hS; intro a hS
  refine Sq.nil ?_
  refine then_n ?_
  refine c_condF hS rfl (by rw [DT hmay]; rfl) ?_
  refine wp_skip ?_
  refine then_n ?_
  refine c_seq ?_
  refine reg_plain w0 (Nobody) ?_
  refine r_load_row hS hH (by repeat (first | exact Sub.nil | refine Sub.cons ?_ ?_ | exact In.here | refine In.there ?_)) rfl (by repeat (first | exact In.here | refine In.there ?_)) Fc.ag34 (by rfl) rfl ?_; clear hS; intro a hS
  refine r_call (l := [.tmp 13]) hS rfl rfl Fc.fn17 rfl ?_
  refine Calls.mono (dbody_c (kn : Int) q1 q2 q3 c1 c2 c3 _ _ _ _ name ptl prm tck ea ag li hrnd hshr hbnd hmrk hkn hmay _ hpl (hpt.ext hH.mod) (hbP.go hH.mod (fun _ h => h.elim)) (hbT.go hH.mod (fun _ h => h.elim))) ?_
  rintro e w1 ⟨bB, cB, kB, rfl, hrB, hkB, hBB, hE⟩
  obtain ⟨B, hBe⟩ : ∃ B, B = bodyB (kn : Int) [r0, r1, r2, r3, r4, r5, r6, r7, r8, r9, ra, rb, rc, rd, re, rf] [s0, s1, s2, s3, s4, s5, s6, s7, s8, s9, sa, sb, sc, sd, se, sf] name ptl prm tck [n0, n1, n2, n3, n4, n5, n6, n7, n8, n9, na, nb, nc, nd, ne, nf] ea ag [m0, m1, m2, m3, m4, m5, m6, m7, m8, m9, ma, mb, mc, md, me, mf] li := ⟨_, rfl⟩
  have hBl : B.length ≤ 100000 := by rw [hBe]; exact bodyB_len hmay rfl rfl rfl rfl
  rw [← hBe] at hBB ⊢
  replace hH := hH.knowN hE hrB hkB
  refine ⟨_, rfl, hH.kp0, ?_⟩
  clear hS; intro a hS
  refine r_assign hS hH.kp0 rfl rfl ?_; clear hS; intro a hS
  refine Sq.nil ?_
  refine then_n ?_
  refine c_seq ?_
  refine reg_plain w0 (Nobody) ?_
  refine r_move hS hH.kp0 rfl rfl ?_; clear hS; intro a hS
  refine r_lenSl hS hH.kp0 rfl Fc.isSlice25 rfl ?_; clear hS; intro a hS
  refine r_assign hS hH.kp0 rfl rfl ?_; clear hS; intro a hS
  refine Sq.nil ?_
  refine then_n ?_
  refine c_seq ?_
  refine reg_plain w0 (Nobody) ?_
  refine r_fieldAddr hS hH.kp0 rfl Fc.fo34_0 rfl ?_; clear hS; intro a hS
  refine r_load_sc hS hH (by repeat (first | exact Sub.nil | refine Sub.cons ?_ ?_ | exact In.here | refine In.there ?_)) rfl (by repeat (first | exact In.here | refine In.there ?_)) Fc.sc3 (by rfl) rfl ?_; clear hS; intro a hS
  refine r_toU8 (q := kn) (UInt8.ofNat (kn)) hS hH.kp0 rfl Fc.ui5 Fc.us3 rfl rfl ?_; clear hS; intro a hS
  refine r_move hS hH.kp0 rfl rfl ?_; clear hS; intro a hS
  refine r_shrI B.length 16 hS hH.kp0 rfl rfl rfl rfl (by decide) ?_; clear hS; intro a hS
  refine r_toU8 (q := (B.length / 65536)) (UInt8.ofNat ((B.length / 65536))) hS hH.kp0 rfl Fc.ui5 Fc.us3 rfl rfl ?_; clear hS; intro a hS
  refine r_move hS hH.kp0 rfl rfl ?_; clear hS; intro a hS
  refine r_shrI B.length 8 hS hH.kp0 rfl rfl rfl rfl (by decide) ?_; clear hS; intro a hS
  refine r_toU8 (q := (B.length / 256)) (UInt8.ofNat ((B.length / 256))) hS hH.kp0 rfl Fc.ui5 Fc.us3 rfl rfl ?_; clear hS; intro a hS
  refine r_move hS hH.kp0 rfl rfl ?_; clear hS; intro a hS
  refine r_toU8 (q := B.length) (UInt8.ofNat (B.length)) hS hH.kp0 rfl Fc.ui5 Fc.us3 rfl rfl ?_; clear hS; intro a hS
  refine r_buildSlice (parts := [(0, .tmp 19), (1, .tmp 22), (2, .tmp 25), (3, .tmp 27)]) hS hH (by repeat (first | exact Sub.nil | refine Sub.cons ?_ ?_ | exact In.here | refine In.there ?_)) rfl Fc.bsl25_4 (by rfl) rfl ?_
  clear hS hH; intro a w b28 hb28 hwb28 hS hH
  refine r_move hS hH.kp0 rfl rfl ?_; clear hS; intro a hS
  refine r_append_own (m := 4) (cap := 4) hS hH rfl rfl (by repeat (first | exact .here | apply In.there | apply Put.there | apply Del.there)) (by repeat (first | exact Sub.nil | refine Sub.cons ?_ ?_ | exact In.here | refine In.there ?_)) Fc.el25 Fc.ni25 rfl (Nat.le_refl 4) (hBB.bs (hH.get (b := bB) (by repeat (first | exact In.here | refine In.there ?_)))).src (by omega) (.inr hb28) rfl ?_
  clear hS hH; intro a w bz cz kz hobz hlz hcz htz hmz hS hH
  have e4 : ([UInt8.ofNat kn, UInt8.ofNat (B.length / 65536), UInt8.ofNat (B.length / 256), UInt8.ofNat B.length] ++ B).length = 4 + B.length := by rw [List.length_append]; rfl
  have hBz : BB cz kz ([UInt8.ofNat kn, UInt8.ofNat (B.length / 65536), UInt8.ofNat (B.length / 256), UInt8.ofNat B.length] ++ B) := ⟨by rw [hlz, Nat.mul_one], by rw [e4]; exact hcz, by rw [e4]; rw [Nat.mul_one] at htz; rw [htz, List.map_append]; rfl⟩
  have hMe : msgB (kn : Int) B = [UInt8.ofNat kn, UInt8.ofNat (B.length / 65536), UInt8.ofNat (B.length / 256), UInt8.ofNat B.length] ++ B := by rw [msgB, beB1, beB3]; rfl
  have hMl : 4 + B.length = (msgB (kn : Int) B).length := (msgB_len _ _).symm
  rw [← hMe] at hBz
  rw [hMl] at hS
  refine r_assign hS hH.kp0 rfl rfl ?_; clear hS; intro a hS
  refine r_assign hS hH.kp0 rfl rfl ?_; clear hS; intro a hS
  refine Sq.nil ?_
  refine then_n ?_
  refine wp_ret ?_
  exact leave (.inl rfl) hS rfl (Res.tmp rfl (Res.tmp rfl Res.nil)) ⟨bz, cz, kz, rfl, hobz.resolve_left (fun h => h), hH.get (b := bz) (by repeat (first | exact In.here | refine In.there ?_)), hBz, hH.mod⟩

set_option maxRecDepth 100000 in
set_option maxHeartbeats 2000000 in
theorem dBare_no (kd : Int) (q1 q2 q3 : Option Addr) (c1 c2 c3 : Nat) (rnd shr bnd mrk : List UInt8) (name : ByteArray) (ptl : List ByteArray) (prm tck : List UInt8) (ea ag : Bool) (li : Int) (hrnd : rnd.length = 16) (hshr : shr.length = 16) (hbnd : bnd.length = 16) (hmrk : mrk.length = 16) (hno : kd ≠ 1 ∨ tck.length = 0) (w0 : World) (hpl : ptl.length ≤ 1048576) (hpt : SsA w0 q1 c1 ptl) (hbP : BsF Nobody w0 (.slice q2 prm.length c2) prm) (hbT : BsF Nobody w0 (.slice q3 tck.length c3) tck) : Calls Try.prog 8 #[.agg ([.int .i64 kd] ++ hcells rnd ++ hcells shr ++ [.string name, .slice q1 ptl.length c1, .slice q2 prm.length c2, .slice q3 tck.length c3] ++ hcells bnd ++ [.bool ea, .bool ag] ++ hcells mrk ++ [.int .i64 li] : List Value).toArray] w0 fun e w' => e = .returned (.tuple #[.slice none 0 0, .int .i64 2]) ∧ Ext w0 w' := by
  refine enter Try.func8 rfl rfl rfl ?_
  intro a hS
  have hH := Hp.start w0 (Nobody)
  obtain ⟨r0, r1, r2, r3, r4, r5, r6, r7, r8, r9, ra, rb, rc, rd, re, rf, rfl⟩ := len16 hrnd
  obtain ⟨s0, s1, s2, s3, s4, s5, s6, s7, s8, s9, sa, sb, sc, sd, se, sf, rfl⟩ := len16 hshr
  obtain ⟨n0, n1, n2, n3, n4, n5, n6, n7, n8, n9, na, nb, nc, nd, ne, nf, rfl⟩ := len16 hbnd
  obtain ⟨m0, m1, m2, m3, m4, m5, m6, m7, m8, m9, ma, mb, mc, md, me, mf, rfl⟩ := len16 hmrk
  refine c_seq ?_
  refine reg_plain w0 (Nobody) ?_
  refine r_box hS hH (by repeat (first | exact Sub.nil | refine Sub.cons ?_ ?_ | exact In.here | refine In.there ?_)) rfl rfl rfl ?_
  clear hS hH; intro a w b1 hb1 hwb1 hS hH
  refine r_assign hS hH.kp0 rfl rfl ?_; clear hS; intro a hS
  refine r_assign hS hH.kp0 rfl rfl ?_; clear hS; intro a hS
  refine Sq.nil ?_
  refine then_n ?_
  refine c_seq ?_
  refine c_seq ?_
  refine reg_plain w0 (Nobody) ?_
  refine r_fieldAddr hS hH.kp0 rfl Fc.fo34_0 rfl ?_; clear hS; intro a hS
  refine r_load_sc hS hH (by repeat (first | exact Sub.nil | refine Sub.cons ?_ ?_ | exact In.here | refine In.there ?_)) rfl (by repeat (first | exact In.here | refine In.there ?_)) Fc.sc3 (by rfl) rfl ?_; clear hS; intro a hS
  rcases (by omega : kd ≠ 1 ∨ (kd = 1 ∧ tck.length = 0)) with hx | ⟨hx, hx2⟩
  · refine r_neq hS hH.kp0 rfl rfl rfl ?_; clear hS; intro a hS
    refine r_move hS hH.kp0 rfl rfl ?_; clear hS; intro a hS
    refine Sq.guardNo hS rfl rfl (bne_iff_ne.2 (by omega)) hH.kp0 rfl ?_; clear hS; intro a hS
    refine Sq.guardNo hS rfl rfl (bne_iff_ne.2 (by omega)) hH.kp0 rfl ?_; clear hS; intro a hS
    refine Sq.guardNo hS rfl rfl (bne_iff_ne.2 (by omega)) hH.kp0 rfl ?_; clear hS; intro a hS
    refine Sq.guardNo hS rfl rfl (bne_iff_ne.2 (by omega)) hH.kp0 rfl ?_; clear hS; intro a hS
    refine r_pickT hS hH.kp0 rfl (bne_iff_ne.2 (by omega)) rfl rfl ?_; clear hS; intro a hS
    refine Sq.nil ?_
    refine then_n ?_
    refine c_condT hS rfl rfl ?_
    refine c_seq ?_
    refine reg_plain w0 (Nobody) ?_
    refine r_assign hS hH.kp0 rfl rfl ?_; clear hS; intro a hS
    refine r_assign hS hH.kp0 rfl rfl ?_; clear hS; intro a hS
    refine Sq.nil ?_
    refine then_n ?_
    refine wp_ret ?_
    refine then_r ?_
    exact leave (.inl rfl) hS rfl (Res.tmp rfl (Res.tmp rfl Res.nil)) ⟨rfl, hH.mod⟩
  · refine r_neq hS hH.kp0 rfl rfl rfl ?_; clear hS; intro a hS
    refine r_move hS hH.kp0 rfl rfl ?_; clear hS; intro a hS
    refine Sq.guardYes hS rfl rfl (bne_eq_false_iff_eq.2 (by omega)) ?_; refine r_fieldAddr hS hH.kp0 rfl Fc.fo34_6 rfl ?_; clear hS; intro a hS
    refine Sq.guardYes hS rfl rfl (bne_eq_false_iff_eq.2 (by omega)) ?_; refine r_load_sc hS hH (by repeat (first | exact Sub.nil | refine Sub.cons ?_ ?_ | exact In.here | refine In.there ?_)) rfl (by repeat (first | exact In.here | refine In.there ?_)) Fc.sc25 (by rfl) rfl ?_; clear hS; intro a hS
    refine Sq.guardYes hS rfl rfl (bne_eq_false_iff_eq.2 (by omega)) ?_; refine r_lenSl hS hH.kp0 rfl Fc.isSlice25 rfl ?_; clear hS; intro a hS
    refine Sq.guardYes hS rfl rfl (bne_eq_false_iff_eq.2 (by omega)) ?_; refine r_eql hS hH.kp0 rfl rfl rfl ?_; clear hS; intro a hS
    refine r_pickF hS hH.kp0 rfl (bne_eq_false_iff_eq.2 (by omega)) rfl rfl ?_; clear hS; intro a hS
    refine Sq.nil ?_
    refine then_n ?_
    refine c_condT hS rfl (DT (by omega)) ?_
    refine c_seq ?_
    refine reg_plain w0 (Nobody) ?_
    refine r_assign hS hH.kp0 rfl rfl ?_; clear hS; intro a hS
    refine r_assign hS hH.kp0 rfl rfl ?_; clear hS; intro a hS
    refine Sq.nil ?_
    refine then_n ?_
    refine wp_ret ?_
    refine then_r ?_
    exact leave (.inl rfl) hS rfl (Res.tmp rfl (Res.tmp rfl Res.nil)) ⟨rfl, hH.mod⟩

set_option maxRecDepth 100000 in
set_option maxHeartbeats 2000000 in
theorem dBare_bad (kd : Int) (q1 q2 q3 : Option Addr) (c1 c2 c3 : Nat) (rnd shr bnd mrk : List UInt8) (name : ByteArray) (ptl : List ByteArray) (prm tck : List UInt8) (ea ag : Bool) (li : Int) (hrnd : rnd.length = 16) (hshr : shr.length = 16) (hbnd : bnd.length = 16) (hmrk : mrk.length = 16) (hyes : kd = 1 ∧ tck.length ≠ 0) (hmay : ¬ (mayM kd name.size ptl.length prm.length tck.length (bzN ea bnd) (oddN ptl) li)) (w0 : World) (hpl : ptl.length ≤ 1048576) (hpt : SsA w0 q1 c1 ptl) (hbP : BsF Nobody w0 (.slice q2 prm.length c2) prm) (hbT : BsF Nobody w0 (.slice q3 tck.length c3) tck) : Calls Try.prog 8 #[.agg ([.int .i64 kd] ++ hcells rnd ++ hcells shr ++ [.string name, .slice q1 ptl.length c1, .slice q2 prm.length c2, .slice q3 tck.length c3] ++ hcells bnd ++ [.bool ea, .bool ag] ++ hcells mrk ++ [.int .i64 li] : List Value).toArray] w0 fun e w' => e = .returned (.tuple #[.slice none 0 0, .int .i64 2]) ∧ Ext w0 w' := by
  refine enter Try.func8 rfl rfl rfl ?_
  intro a hS
  have hH := Hp.start w0 (Nobody)
  obtain ⟨hy1, hy2⟩ := hyes
  have hyes : kd = 1 ∧ tck.length ≠ 0 := ⟨hy1, hy2⟩
  obtain ⟨r0, r1, r2, r3, r4, r5, r6, r7, r8, r9, ra, rb, rc, rd, re, rf, rfl⟩ := len16 hrnd
  obtain ⟨s0, s1, s2, s3, s4, s5, s6, s7, s8, s9, sa, sb, sc, sd, se, sf, rfl⟩ := len16 hshr
  obtain ⟨n0, n1, n2, n3, n4, n5, n6, n7, n8, n9, na, nb, nc, nd, ne, nf, rfl⟩ := len16 hbnd
  obtain ⟨m0, m1, m2, m3, m4, m5, m6, m7, m8, m9, ma, mb, mc, md, me, mf, rfl⟩ := len16 hmrk
  refine c_seq ?_
  refine reg_plain w0 (Nobody) ?_
  refine r_box hS hH (by repeat (first | exact Sub.nil | refine Sub.cons ?_ ?_ | exact In.here | refine In.there ?_)) rfl rfl rfl ?_
  clear hS hH; intro a w b1 hb1 hwb1 hS hH
  refine r_assign hS hH.kp0 rfl rfl ?_; clear hS; intro a hS
  refine r_assign hS hH.kp0 rfl rfl ?_; clear hS; intro a hS
  refine Sq.nil ?_
  refine then_n ?_
  refine c_seq ?_
  refine c_seq ?_
  refine reg_plain w0 (Nobody) ?_
  refine r_fieldAddr hS hH.kp0 rfl Fc.fo34_0 rfl ?_; clear hS; intro a hS
  refine r_load_sc hS hH (by repeat (first | exact Sub.nil | refine Sub.cons ?_ ?_ | exact In.here | refine In.there ?_)) rfl (by repeat (first | exact In.here | refine In.there ?_)) Fc.sc3 (by rfl) rfl ?_; clear hS; intro a hS
  refine r_neq hS hH.kp0 rfl rfl rfl ?_; clear hS; intro a hS
  refine r_move hS hH.kp0 rfl rfl ?_; clear hS; intro a hS
  refine Sq.guardYes hS rfl rfl (bne_eq_false_iff_eq.2 (by omega)) ?_; refine r_fieldAddr hS hH.kp0 rfl Fc.fo34_6 rfl ?_; clear hS; intro a hS
  refine Sq.guardYes hS rfl rfl (bne_eq_false_iff_eq.2 (by omega)) ?_; refine r_load_sc hS hH (by repeat (first | exact Sub.nil | refine Sub.cons ?_ ?_ | exact In.here | refine In.there ?_)) rfl (by repeat (first | exact In.here | refine In.there ?_)) Fc.sc25 (by rfl) rfl ?_; clear hS; intro a hS
  refine Sq.guardYes hS rfl rfl (bne_eq_false_iff_eq.2 (by omega)) ?_; refine r_lenSl hS hH.kp0 rfl Fc.isSlice25 rfl ?_; clear hS; intro a hS
  refine Sq.guardYes hS rfl rfl (bne_eq_false_iff_eq.2 (by omega)) ?_; refine r_eql hS hH.kp0 rfl rfl rfl ?_; clear hS; intro a hS
  refine r_pickF hS hH.kp0 rfl (bne_eq_false_iff_eq.2 (by omega)) rfl rfl ?_; clear hS; intro a hS
  refine Sq.nil ?_
  refine then_n ?_
  refine c_condF hS rfl (DF (by omega)) ?_
  refine wp_skip ?_
  refine then_n ?_
  refine c_seq ?_
  refine reg_plain w0 (Nobody) ?_
  refine r_load_row hS hH (by repeat (first | exact Sub.nil | refine Sub.cons ?_ ?_ | exact In.here | refine In.there ?_)) rfl (by repeat (first | exact In.here | refine In.there ?_)) Fc.ag34 (by rfl) rfl ?_; clear hS; intro a hS
  refine r_call (l := [.tmp 16]) hS rfl rfl Fc.fn6 rfl ?_
  refine Calls.mono (dPut_bad kd q1 q2 q3 c1 c2 c3 _ _ _ _ name ptl prm tck ea ag li hrnd hshr hbnd hmrk (.inl hyes.1) hmay  _ hpl (hpt.ext hH.mod) (hbP.go hH.mod (fun _ h => h.elim)) (hbT.go hH.mod (fun _ h => h.elim))) ?_
  rintro e w1 ⟨rfl, hE⟩
  replace hH := hH.ext hE
  refine ⟨_, rfl, hH.kp0, ?_⟩
  clear hS; intro a hS
  refine r_move hS hH.kp0 rfl rfl ?_; clear hS; intro a hS
  refine r_extract hS hH.kp0 rfl rfl rfl ?_; clear hS; intro a hS
  refine r_extract hS hH.kp0 rfl rfl rfl ?_; clear hS; intro a hS
  refine r_assign hS hH.kp0 rfl rfl ?_; clear hS; intro a hS
  refine r_assign hS hH.kp0 rfl rfl ?_; clear hS; intro a hS
  refine Sq.nil ?_
  refine then_n ?_
  refine c_seq ?_
  refine c_seq ?_
  refine reg_plain w0 (Nobody) ?_
  refine r_move hS hH.kp0 rfl rfl ?_; clear hS; intro a hS
  refine r_neq hS hH.kp0 rfl rfl rfl ?_; clear hS; intro a hS
  refine Sq.nil ?_
  refine then_n ?_
  refine c_condT hS rfl rfl ?_
  refine c_seq ?_
  refine reg_plain w0 (Nobody) ?_
  refine r_move hS hH.kp0 rfl rfl ?_; clear hS; intro a hS
  refine r_assign hS hH.kp0 rfl rfl ?_; clear hS; intro a hS
  refine r_assign hS hH.kp0 rfl rfl ?_; clear hS; intro a hS
  refine Sq.nil ?_
  refine then_n ?_
  refine wp_ret ?_
  refine then_r ?_
  exact leave (.inl rfl) hS rfl (Res.tmp rfl (Res.tmp rfl Res.nil)) ⟨rfl, hH.mod⟩

set_option maxRecDepth 100000 in
set_option maxHeartbeats 2000000 in
theorem dBare_ok (kd : Int) (q1 q2 q3 : Option Addr) (c1 c2 c3 : Nat) (rnd shr bnd mrk : List UInt8) (name : ByteArray) (ptl : List ByteArray) (prm tck : List UInt8) (ea ag : Bool) (li : Int) (hrnd : rnd.length = 16) (hshr : shr.length = 16) (hbnd : bnd.length = 16) (hmrk : mrk.length = 16) (hyes : kd = 1 ∧ tck.length ≠ 0) (hmay : mayM kd name.size ptl.length prm.length tck.length (bzN ea bnd) (oddN ptl) li) (h20 : 16 ≤ (msgB kd (bodyB kd rnd shr name ptl prm tck bnd ea ag mrk li)).length) (w0 : World) (hpl : ptl.length ≤ 1048576) (hpt : SsA w0 q1 c1 ptl) (hbP : BsF Nobody w0 (.slice q2 prm.length c2) prm) (hbT : BsF Nobody w0 (.slice q3 tck.length c3) tck) : Calls Try.prog 8 #[.agg ([.int .i64 kd] ++ hcells rnd ++ hcells shr ++ [.string name, .slice q1 ptl.length c1, .slice q2 prm.length c2, .slice q3 tck.length c3] ++ hcells bnd ++ [.bool ea, .bool ag] ++ hcells mrk ++ [.int .i64 li] : List Value).toArray] w0 fun e w' => ∃ (b' c' : Nat) (k' : List Value), e = .returned (.tuple #[.slice (some ⟨b', 0, none⟩) (((msgB kd (bodyB kd rnd shr name ptl prm tck bnd ea ag mrk li)).length - 16)) c', .int .i64 0]) ∧ w0.heap.size ≤ b' ∧ w'.heap[b']? = some (.cells k'.toArray 5 (0, 0)) ∧ BB c' k' (msgB kd (bodyB kd rnd shr name ptl prm tck bnd ea ag mrk li)) ∧ Ext w0 w' := by
  refine enter Try.func8 rfl rfl rfl ?_
  intro a hS
  have hH := Hp.start w0 (Nobody)
  obtain ⟨hy1, hy2⟩ := hyes
  have hyes : kd = 1 ∧ tck.length ≠ 0 := ⟨hy1, hy2⟩
  obtain ⟨r0, r1, r2, r3, r4, r5, r6, r7, r8, r9, ra, rb, rc, rd, re, rf, rfl⟩ := len16 hrnd
  obtain ⟨s0, s1, s2, s3, s4, s5, s6, s7, s8, s9, sa, sb, sc, sd, se, sf, rfl⟩ := len16 hshr
  obtain ⟨n0, n1, n2, n3, n4, n5, n6, n7, n8, n9, na, nb, nc, nd, ne, nf, rfl⟩ := len16 hbnd
  obtain ⟨m0, m1, m2, m3, m4, m5, m6, m7, m8, m9, ma, mb, mc, md, me, mf, rfl⟩ := len16 hmrk
  refine c_seq ?_
  refine reg_plain w0 (Nobody) ?_
  refine r_box hS hH (by repeat (first | exact Sub.nil | refine Sub.cons ?_ ?_ | exact In.here | refine In.there ?_)) rfl rfl rfl ?_
  clear hS hH; intro a w b1 hb1 hwb1 hS hH
  refine r_assign hS hH.kp0 rfl rfl ?_; clear hS; intro a hS
  refine r_assign hS hH.kp0 rfl rfl ?_; clear hS; intro a hS
  refine Sq.nil ?_
  refine then_n ?_
  refine c_seq ?_
  refine c_seq ?_
  refine reg_plain w0 (Nobody) ?_
  refine r_fieldAddr hS hH.kp0 rfl Fc.fo34_0 rfl ?_; clear hS; intro a hS
  refine r_load_sc hS hH (by repeat (first | exact Sub.nil | refine Sub.cons ?_ ?_ | exact In.here | refine In.there ?_)) rfl (by repeat (first | exact In.here | refine In.there ?_)) Fc.sc3 (by rfl) rfl ?_; clear hS; intro a hS
  refine r_neq hS hH.kp0 rfl rfl rfl ?_; clear hS; intro a hS
  refine r_move hS hH.kp0 rfl rfl ?_; clear hS; intro a hS
  refine Sq.guardYes hS rfl rfl (bne_eq_false_iff_eq.2 (by omega)) ?_; refine r_fieldAddr hS hH.kp0 rfl Fc.fo34_6 rfl ?_; clear hS; intro a hS
  refine Sq.guardYes hS rfl rfl (bne_eq_false_iff_eq.2 (by omega)) ?_; refine r_load_sc hS hH (by repeat (first | exact Sub.nil | refine Sub.cons ?_ ?_ | exact In.here | refine In.there ?_)) rfl (by repeat (first | exact In.here | refine In.there ?_)) Fc.sc25 (by rfl) rfl ?_; clear hS; intro a hS
  refine Sq.guardYes hS rfl rfl (bne_eq_false_iff_eq.2 (by omega)) ?_; refine r_lenSl hS hH.kp0 rfl Fc.isSlice25 rfl ?_; clear hS; intro a hS
  refine Sq.guardYes hS rfl rfl (bne_eq_false_iff_eq.2 (by omega)) ?_; refine r_eql hS hH.kp0 rfl rfl rfl ?_; clear hS; intro a hS
  refine r_pickF hS hH.kp0 rfl (bne_eq_false_iff_eq.2 (by omega)) rfl rfl ?_; clear hS; intro a hS
  refine Sq.nil ?_
  refine then_n ?_
  refine c_condF hS rfl (DF (by omega)) ?_
  refine wp_skip ?_
  refine then_n ?_
  refine c_seq ?_
  refine reg_plain w0 (Nobody) ?_
  refine r_load_row hS hH (by repeat (first | exact Sub.nil | refine Sub.cons ?_ ?_ | exact In.here | refine In.there ?_)) rfl (by repeat (first | exact In.here | refine In.there ?_)) Fc.ag34 (by rfl) rfl ?_; clear hS; intro a hS
  refine r_call (l := [.tmp 16]) hS rfl rfl Fc.fn6 rfl ?_
  refine Calls.mono (dPut_ok kd q1 q2 q3 c1 c2 c3 _ _ _ _ name ptl prm tck ea ag li hrnd hshr hbnd hmrk (.inl hyes.1) hmay  _ hpl (hpt.ext hH.mod) (hbP.go hH.mod (fun _ h => h.elim)) (hbT.go hH.mod (fun _ h => h.elim))) ?_
  rintro e w1 ⟨bz, cz, kz, rfl, hrz, hkz, hBz, hE⟩
  have hwz := Nat.le_trans hH.mod.size hrz
  have hml : (msgB kd (bodyB kd [r0, r1, r2, r3, r4, r5, r6, r7, r8, r9, ra, rb, rc, rd, re, rf] [s0, s1, s2, s3, s4, s5, s6, s7, s8, s9, sa, sb, sc, sd, se, sf] name ptl prm tck [n0, n1, n2, n3, n4, n5, n6, n7, n8, n9, na, nb, nc, nd, ne, nf] ea ag [m0, m1, m2, m3, m4, m5, m6, m7, m8, m9, ma, mb, mc, md, me, mf] li)).length ≤ 200000 := by rw [msgB_len]; have := bodyB_len (ag := ag) hmay (show ([r0, r1, r2, r3, r4, r5, r6, r7, r8, r9, ra, rb, rc, rd, re, rf] : List UInt8).length = 16 from rfl) (show ([s0, s1, s2, s3, s4, s5, s6, s7, s8, s9, sa, sb, sc, sd, se, sf] : List UInt8).length = 16 from rfl) rfl (show ([m0, m1, m2, m3, m4, m5, m6, m7, m8, m9, ma, mb, mc, md, me, mf] : List UInt8).length = 16 from rfl); omega
  replace hH := hH.knowN hE hrz hkz
  refine ⟨_, rfl, hH.kp0, ?_⟩
  clear hS; intro a hS
  refine r_move hS hH.kp0 rfl rfl ?_; clear hS; intro a hS
  refine r_extract hS hH.kp0 rfl rfl rfl ?_; clear hS; intro a hS
  refine r_extract hS hH.kp0 rfl rfl rfl ?_; clear hS; intro a hS
  refine r_assign hS hH.kp0 rfl rfl ?_; clear hS; intro a hS
  refine r_assign hS hH.kp0 rfl rfl ?_; clear hS; intro a hS
  refine Sq.nil ?_
  refine then_n ?_
  refine c_seq ?_
  refine c_seq ?_
  refine reg_plain w0 (Nobody) ?_
  refine r_move hS hH.kp0 rfl rfl ?_; clear hS; intro a hS
  refine r_neq hS hH.kp0 rfl rfl rfl ?_; clear hS; intro a hS
  refine Sq.nil ?_
  refine then_n ?_
  refine c_condF hS rfl rfl ?_
  refine wp_skip ?_
  refine then_n ?_
  refine c_seq ?_
  refine reg_plain w0 (Nobody) ?_
  refine r_move hS hH.kp0 rfl rfl ?_; clear hS; intro a hS
  refine r_move hS hH.kp0 rfl rfl ?_; clear hS; intro a hS
  refine r_lenSl hS hH.kp0 rfl Fc.isSlice25 rfl ?_; clear hS; intro a hS
  (first | refine r_sub hS hH.kp0 rfl rfl rfl (by omega) ?_ | refine r_subw hS hH.kp0 rfl rfl rfl ?_)
  clear hS; intro a hS
  refine r_slHi (hh := (msgB kd (bodyB kd [r0, r1, r2, r3, r4, r5, r6, r7, r8, r9, ra, rb, rc, rd, re, rf] [s0, s1, s2, s3, s4, s5, s6, s7, s8, s9, sa, sb, sc, sd, se, sf] name ptl prm tck [n0, n1, n2, n3, n4, n5, n6, n7, n8, n9, na, nb, nc, nd, ne, nf] ea ag [m0, m1, m2, m3, m4, m5, m6, m7, m8, m9, ma, mb, mc, md, me, mf] li)).length - 16) hS hH.kp0 rfl rfl Fc.slb25 (by omega) (by have := hBz.le; omega) (fun q hq => by cases hq; rfl) rfl ?_; clear hS; intro a hS
  refine r_assign hS hH.kp0 rfl rfl ?_; clear hS; intro a hS
  refine r_assign hS hH.kp0 rfl rfl ?_; clear hS; intro a hS
  refine Sq.nil ?_
  refine then_n ?_
  refine wp_ret ?_
  exact leave (.inl rfl) hS rfl (Res.tmp rfl (Res.tmp rfl Res.nil)) ⟨bz, cz, kz, rfl, hwz, hH.get (b := bz) (by repeat (first | exact In.here | refine In.there ?_)), hBz, hH.mod⟩

end Go.Proofs.Ytcenionnedgadaa

namespace Go.Proofs.Ytcenionnedgadaa
open Go.Sym

theorem Fc.fn5 : isFn Try.prog 5 = true := by kernel_rfl
theorem Fc.fn7 : isFn Try.prog 7 = true := by kernel_rfl
theorem Fc.fn8 : isFn Try.prog 8 = true := by kernel_rfl
theorem Fc.fn9 : isFn Try.prog 9 = true := by kernel_rfl
theorem Fc.pl34 : placesB Try.prog 34 = some [(0, 1), (1, 16), (17, 16), (33, 1), (34, 1), (35, 1), (36, 1), (37, 16), (53, 1), (54, 1), (55, 16), (71, 1)] := by kernel_rfl
theorem Fc.sc5 : scB Try.prog 5 = true := by kernel_rfl
theorem Fc.sz34 : sizeB Try.prog 34 72 = true := by kernel_rfl
theorem Fc.sz5 : sizeB Try.prog 5 1 = true := by kernel_rfl
theorem Fc.zc34 : zcB Try.prog 34 = some [.int .i64 0, .int .u8 0, .int .u8 0, .int .u8 0, .int .u8 0, .int .u8 0, .int .u8 0, .int .u8 0, .int .u8 0, .int .u8 0, .int .u8 0, .int .u8 0, .int .u8 0, .int .u8 0, .int .u8 0, .int .u8 0, .int .u8 0, .int .u8 0, .int .u8 0, .int .u8 0, .int .u8 0, .int .u8 0, .int .u8 0, .int .u8 0, .int .u8 0, .int .u8 0, .int .u8 0, .int .u8 0, .int .u8 0, .int .u8 0, .int .u8 0, .int .u8 0, .int .u8 0, .string .empty, .slice none 0 0, .slice none 0 0, .slice none 0 0, .int .u8 0, .int .u8 0, .int .u8 0, .int .u8 0, .int .u8 0, .int .u8 0, .int .u8 0, .int .u8 0, .int .u8 0, .int .u8 0, .int .u8 0, .int .u8 0, .int .u8 0, .int .u8 0, .int .u8 0, .int .u8 0, .bool false, .bool false, .int .u8 0, .int .u8 0, .int .u8 0, .int .u8 0, .int .u8 0, .int .u8 0, .int .u8 0, .int .u8 0, .int .u8 0, .int .u8 0, .int .u8 0, .int .u8 0, .int .u8 0, .int .u8 0, .int .u8 0, .int .u8 0, .int .i64 0] := by kernel_rfl
set_option maxRecDepth 100000 in
set_option maxHeartbeats 4000000 in
theorem Refs_c (kd : Int) (q1 q2 q3 : Option Addr) (c1 c2 c3 : Nat) (rnd shr bnd mrk : List UInt8) (name : ByteArray) (ptl : List ByteArray) (prm tck : List UInt8) (ea ag : Bool) (li : Int) (hrnd : rnd.length = 16) (hshr : shr.length = 16) (hbnd : bnd.length = 16) (hmrk : mrk.length = 16) (w0 : World) : Calls Try.prog 7 #[.agg ([.int .i64 kd] ++ hcells rnd ++ hcells shr ++ [.string name, .slice q1 ptl.length c1, .slice q2 prm.length c2, .slice q3 tck.length c3] ++ hcells bnd ++ [.bool ea, .bool ag] ++ hcells mrk ++ [.int .i64 li] : List Value).toArray] w0 fun e w' => e = .returned (.agg ([.int .i64 kd] ++ hcells rnd ++ hcells shr ++ [.string name, .slice q1 ptl.length c1, .slice q2 prm.length c2, .slice q3 tck.length c3] ++ hcells bnd ++ [.bool ea, .bool ag] ++ hcells mrk ++ [.int .i64 li] : List Value).toArray) ∧ Ext w0 w' := by
  refine enter Try.func7 rfl rfl rfl ?_
  intro a hS
  have hH := Hp.start w0 (Nobody)
  obtain ⟨r0, r1, r2, r3, r4, r5, r6, r7, r8, r9, ra, rb, rc, rd, re, rf, rfl⟩ := len16 hrnd
  obtain ⟨s0, s1, s2, s3, s4, s5, s6, s7, s8, s9, sa, sb, sc, sd, se, sf, rfl⟩ := len16 hshr
  obtain ⟨n0, n1, n2, n3, n4, n5, n6, n7, n8, n9, na, nb, nc, nd, ne, nf, rfl⟩ := len16 hbnd
  obtain ⟨m0, m1, m2, m3, m4, m5, m6, m7, m8, m9, ma, mb, mc, md, me, mf, rfl⟩ := len16 hmrk
  refine c_seq ?_
  refine reg_plain w0 (Nobody) ?_
  refine r_box hS hH (by repeat (first | exact Sub.nil | refine Sub.cons ?_ ?_ | exact In.here | refine In.there ?_)) rfl rfl rfl ?_
  clear hS hH; intro a w b1 hb1 hwb1 hS hH
  refine r_alloc hS hH (by repeat (first | exact Sub.nil | refine Sub.cons ?_ ?_ | exact In.here | refine In.there ?_)) Fc.zc34 rfl ?_
  clear hS hH; intro a w b2 hb2 hwb2 hS hH
  refine Sq.nil ?_
  refine then_n ?_
  refine c_seq ?_
  refine reg_plain w0 (Nobody) ?_
  refine r_fieldAddr hS hH.kp0 rfl Fc.fo27_0 rfl ?_; clear hS; intro a hS
  refine r_load_sc hS hH (by repeat (first | exact Sub.nil | refine Sub.cons ?_ ?_ | exact In.here | refine In.there ?_)) rfl (by repeat (first | exact In.here | refine In.there ?_)) Fc.sc3 (by rfl) rfl ?_; clear hS; intro a hS
  refine r_fieldAddr hS hH.kp0 rfl Fc.fo27_1 rfl ?_; clear hS; intro a hS
  refine r_load_ag hS hH (by repeat (first | exact Sub.nil | refine Sub.cons ?_ ?_ | exact In.here | refine In.there ?_)) rfl (by repeat (first | exact In.here | refine In.there ?_)) Fc.ag23 (of_decide_eq_true rfl) rfl ?_; clear hS; intro a hS
  refine r_fieldAddr hS hH.kp0 rfl Fc.fo27_2 rfl ?_; clear hS; intro a hS
  refine r_load_ag hS hH (by repeat (first | exact Sub.nil | refine Sub.cons ?_ ?_ | exact In.here | refine In.there ?_)) rfl (by repeat (first | exact In.here | refine In.there ?_)) Fc.ag23 (of_decide_eq_true rfl) rfl ?_; clear hS; intro a hS
  refine r_fieldAddr hS hH.kp0 rfl Fc.fo27_3 rfl ?_; clear hS; intro a hS
  refine r_load_sc hS hH (by repeat (first | exact Sub.nil | refine Sub.cons ?_ ?_ | exact In.here | refine In.there ?_)) rfl (by repeat (first | exact In.here | refine In.there ?_)) Fc.sc9 (by rfl) rfl ?_; clear hS; intro a hS
  refine r_fieldAddr hS hH.kp0 rfl Fc.fo27_4 rfl ?_; clear hS; intro a hS
  refine r_load_sc hS hH (by repeat (first | exact Sub.nil | refine Sub.cons ?_ ?_ | exact In.here | refine In.there ?_)) rfl (by repeat (first | exact In.here | refine In.there ?_)) Fc.sc24 (by rfl) rfl ?_; clear hS; intro a hS
  refine r_fieldAddr hS hH.kp0 rfl Fc.fo27_5 rfl ?_; clear hS; intro a hS
  refine r_load_sc hS hH (by repeat (first | exact Sub.nil | refine Sub.cons ?_ ?_ | exact In.here | refine In.there ?_)) rfl (by repeat (first | exact In.here | refine In.there ?_)) Fc.sc25 (by rfl) rfl ?_; clear hS; intro a hS
  refine r_fieldAddr hS hH.kp0 rfl Fc.fo27_6 rfl ?_; clear hS; intro a hS
  refine r_load_sc hS hH (by repeat (first | exact Sub.nil | refine Sub.cons ?_ ?_ | exact In.here | refine In.there ?_)) rfl (by repeat (first | exact In.here | refine In.there ?_)) Fc.sc25 (by rfl) rfl ?_; clear hS; intro a hS
  refine r_fieldAddr hS hH.kp0 rfl Fc.fo27_7 rfl ?_; clear hS; intro a hS
  refine r_load_ag hS hH (by repeat (first | exact Sub.nil | refine Sub.cons ?_ ?_ | exact In.here | refine In.there ?_)) rfl (by repeat (first | exact In.here | refine In.there ?_)) Fc.ag23 (of_decide_eq_true rfl) rfl ?_; clear hS; intro a hS
  refine r_fieldAddr hS hH.kp0 rfl Fc.fo27_8 rfl ?_; clear hS; intro a hS
  refine r_load_sc hS hH (by repeat (first | exact Sub.nil | refine Sub.cons ?_ ?_ | exact In.here | refine In.there ?_)) rfl (by repeat (first | exact In.here | refine In.there ?_)) Fc.sc4 (by rfl) rfl ?_; clear hS; intro a hS
  refine r_fieldAddr hS hH.kp0 rfl Fc.fo27_9 rfl ?_; clear hS; intro a hS
  refine r_load_sc hS hH (by repeat (first | exact Sub.nil | refine Sub.cons ?_ ?_ | exact In.here | refine In.there ?_)) rfl (by repeat (first | exact In.here | refine In.there ?_)) Fc.sc4 (by rfl) rfl ?_; clear hS; intro a hS
  refine r_fieldAddr hS hH.kp0 rfl Fc.fo27_10 rfl ?_; clear hS; intro a hS
  refine r_load_ag hS hH (by repeat (first | exact Sub.nil | refine Sub.cons ?_ ?_ | exact In.here | refine In.there ?_)) rfl (by repeat (first | exact In.here | refine In.there ?_)) Fc.ag23 (of_decide_eq_true rfl) rfl ?_; clear hS; intro a hS
  refine r_fieldAddr hS hH.kp0 rfl Fc.fo27_11 rfl ?_; clear hS; intro a hS
  refine r_load_sc hS hH (by repeat (first | exact Sub.nil | refine Sub.cons ?_ ?_ | exact In.here | refine In.there ?_)) rfl (by repeat (first | exact In.here | refine In.there ?_)) Fc.sc3 (by rfl) rfl ?_; clear hS; intro a hS
  refine r_buildS (parts := [(0, .tmp 4), (1, .tmp 6), (2, .tmp 8), (3, .tmp 10), (4, .tmp 12), (5, .tmp 14), (6, .tmp 16), (7, .tmp 18), (8, .tmp 20), (9, .tmp 22), (10, .tmp 24), (11, .tmp 26)]) hS hH.kp0 rfl rfl Fc.zc34 Fc.pl34 (by rfl) ?_; clear hS; intro a hS
  refine r_store_row hS hH rfl rfl (by repeat (first | exact .here | apply In.there | apply Put.there | apply Del.there)) (by repeat (first | exact Sub.nil | refine Sub.cons ?_ ?_ | exact In.here | refine In.there ?_)) Fc.sz34 (by first | exact hcells_one _ | exact of_decide_eq_true rfl) (by rfl) (by first | exact .inr (by assumption) | exact .inl (by first | assumption | rfl)) ?_
  clear hH; intro w hH
  refine Sq.nil ?_
  refine then_n ?_
  refine wp_ret ?_
  exact leave (.inl rfl) hS rfl (Res.cell rfl (hH.get (by repeat (first | exact In.here | refine In.there ?_))) Fc.ag34 (by rfl) rfl Res.nil) ⟨rfl, hH.mod⟩

set_option maxRecDepth 100000 in
set_option maxHeartbeats 400000 in
theorem names_c (w0 : World) : Calls Try.prog 9 #[] w0 fun e w' => e = .returned (.bool true) ∧ Ext w0 w' := by
  refine enter Try.func9 rfl rfl rfl ?_
  intro a hS
  have hH := Hp.start w0 (Nobody)
  refine c_seq ?_
  refine reg_plain w0 (Nobody) ?_
  refine r_assign hS hH.kp0 rfl rfl ?_; clear hS; intro a hS
  refine Sq.nil ?_
  refine then_n ?_
  refine c_seq ?_
  refine reg_plain w0 (Nobody) ?_
  refine r_assign hS hH.kp0 rfl rfl ?_; clear hS; intro a hS
  refine Sq.nil ?_
  refine then_n ?_
  refine wp_ret ?_
  exact leave (.inl rfl) hS rfl (Res.tmp rfl Res.nil) ⟨rfl, hH.mod⟩


theorem Put_err (kd : Int) (q1 q2 q3 : Option Addr) (c1 c2 c3 : Nat) (rnd shr bnd mrk : List UInt8) (name : ByteArray) (ptl : List ByteArray) (prm tck : List UInt8) (ea ag : Bool) (li : Int) (hrnd : rnd.length = 16) (hshr : shr.length = 16) (hbnd : bnd.length = 16) (hmrk : mrk.length = 16) (er : Int) (her : (¬ (kd = 1 ∨ kd = 2 ∨ kd = 4 ∨ kd = 8 ∨ kd = 11 ∨ kd = 15 ∨ kd = 20) ∧ er = 12) ∨ ((kd = 1 ∨ kd = 2 ∨ kd = 4 ∨ kd = 8 ∨ kd = 11 ∨ kd = 15 ∨ kd = 20) ∧ ¬ mayM kd name.size ptl.length prm.length tck.length (bzN ea bnd) (oddN ptl) li ∧ er = 2)) (w0 : World) (hpl : ptl.length ≤ 1048576) (hpt : SsA w0 q1 c1 ptl) (hbP : BsF Nobody w0 (.slice q2 prm.length c2) prm) (hbT : BsF Nobody w0 (.slice q3 tck.length c3) tck) : Calls Try.prog 4 #[.agg ([.int .i64 kd] ++ hcells rnd ++ hcells shr ++ [.string name, .slice q1 ptl.length c1, .slice q2 prm.length c2, .slice q3 tck.length c3] ++ hcells bnd ++ [.bool ea, .bool ag] ++ hcells mrk ++ [.int .i64 li] : List Value).toArray] w0 fun e w' => e = .returned (.tuple #[.slice none 0 0, .int .i64 er]) ∧ Ext w0 w' := by
  rcases her with ⟨h1, rfl⟩ | ⟨h1, h2, rfl⟩
  · exact Put_no kd q1 q2 q3 c1 c2 c3 _ _ _ _ name ptl prm tck ea ag li hrnd hshr hbnd hmrk h1 _ hpl hpt hbP hbT
  · exact Put_bad kd q1 q2 q3 c1 c2 c3 _ _ _ _ name ptl prm tck ea ag li hrnd hshr hbnd hmrk h1 h2 _ hpl hpt hbP hbT
theorem Bare_err (kd : Int) (q1 q2 q3 : Option Addr) (c1 c2 c3 : Nat) (rnd shr bnd mrk : List UInt8) (name : ByteArray) (ptl : List ByteArray) (prm tck : List UInt8) (ea ag : Bool) (li : Int) (hrnd : rnd.length = 16) (hshr : shr.length = 16) (hbnd : bnd.length = 16) (hmrk : mrk.length = 16) (her : ¬ (kd = 1 ∨ kd = 2 ∨ kd = 4 ∨ kd = 8 ∨ kd = 11 ∨ kd = 15 ∨ kd = 20) ∨ ¬ mayM kd name.size ptl.length prm.length tck.length (bzN ea bnd) (oddN ptl) li) (w0 : World) (hpl : ptl.length ≤ 1048576) (hpt : SsA w0 q1 c1 ptl) (hbP : BsF Nobody w0 (.slice q2 prm.length c2) prm) (hbT : BsF Nobody w0 (.slice q3 tck.length c3) tck) : Calls Try.prog 5 #[.agg ([.int .i64 kd] ++ hcells rnd ++ hcells shr ++ [.string name, .slice q1 ptl.length c1, .slice q2 prm.length c2, .slice q3 tck.length c3] ++ hcells bnd ++ [.bool ea, .bool ag] ++ hcells mrk ++ [.int .i64 li] : List Value).toArray] w0 fun e w' => e = .returned (.tuple #[.slice none 0 0, .int .i64 2]) ∧ Ext w0 w' := by
  by_cases h : kd = 1 ∧ tck.length ≠ 0
  · exact Bare_bad kd q1 q2 q3 c1 c2 c3 _ _ _ _ name ptl prm tck ea ag li hrnd hshr hbnd hmrk h (her.resolve_left (fun h9 => h9 (.inl h.1))) _ hpl hpt hbP hbT
  · exact Bare_no kd q1 q2 q3 c1 c2 c3 _ _ _ _ name ptl prm tck ea ag li hrnd hshr hbnd hmrk (by omega) _ hpl hpt hbP hbT


theorem dPut_err (kd : Int) (q1 q2 q3 : Option Addr) (c1 c2 c3 : Nat) (rnd shr bnd mrk : List UInt8) (name : ByteArray) (ptl : List ByteArray) (prm tck : List UInt8) (ea ag : Bool) (li : Int) (hrnd : rnd.length = 16) (hshr : shr.length = 16) (hbnd : bnd.length = 16) (hmrk : mrk.length = 16) (er : Int) (her : (¬ (kd = 1 ∨ kd = 2 ∨ kd = 4 ∨ kd = 8 ∨ kd = 11 ∨ kd = 15 ∨ kd = 20) ∧ er = 12) ∨ ((kd = 1 ∨ kd = 2 ∨ kd = 4 ∨ kd = 8 ∨ kd = 11 ∨ kd = 15 ∨ kd = 20) ∧ ¬ mayM kd name.size ptl.length prm.length tck.length (bzN ea bnd) (oddN ptl) li ∧ er = 2)) (w0 : World) (hpl : ptl.length ≤ 1048576) (hpt : SsA w0 q1 c1 ptl) (hbP : BsF Nobody w0 (.slice q2 prm.length c2) prm) (hbT : BsF Nobody w0 (.slice q3 tck.length c3) tck) : Calls Try.prog 6 #[.agg ([.int .i64 kd] ++ hcells rnd ++ hcells shr ++ [.string name, .slice q1 ptl.length c1, .slice q2 prm.length c2, .slice q3 tck.length c3] ++ hcells bnd ++ [.bool ea, .bool ag] ++ hcells mrk ++ [.int .i64 li] : List Value).toArray] w0 fun e w' => e = .returned (.tuple #[.slice none 0 0, .int .i64 er]) ∧ Ext w0 w' := by
  rcases her with ⟨h1, rfl⟩ | ⟨h1, h2, rfl⟩
  · exact dPut_no kd q1 q2 q3 c1 c2 c3 _ _ _ _ name ptl prm tck ea ag li hrnd hshr hbnd hmrk h1 _ hpl hpt hbP hbT
  · exact dPut_bad kd q1 q2 q3 c1 c2 c3 _ _ _ _ name ptl prm tck ea ag li hrnd hshr hbnd hmrk h1 h2 _ hpl hpt hbP hbT
theorem dBare_err (kd : Int) (q1 q2 q3 : Option Addr) (c1 c2 c3 : Nat) (rnd shr bnd mrk : List UInt8) (name : ByteArray) (ptl : List ByteArray) (prm tck : List UInt8) (ea ag : Bool) (li : Int) (hrnd : rnd.length = 16) (hshr : shr.length = 16) (hbnd : bnd.length = 16) (hmrk : mrk.length = 16) (her : ¬ (kd = 1 ∨ kd = 2 ∨ kd = 4 ∨ kd = 8 ∨ kd = 11 ∨ kd = 15 ∨ kd = 20) ∨ ¬ mayM kd name.size ptl.length prm.length tck.length (bzN ea bnd) (oddN ptl) li) (w0 : World) (hpl : ptl.length ≤ 1048576) (hpt : SsA w0 q1 c1 ptl) (hbP : BsF Nobody w0 (.slice q2 prm.length c2) prm) (hbT : BsF Nobody w0 (.slice q3 tck.length c3) tck) : Calls Try.prog 8 #[.agg ([.int .i64 kd] ++ hcells rnd ++ hcells shr ++ [.string name, .slice q1 ptl.length c1, .slice q2 prm.length c2, .slice q3 tck.length c3] ++ hcells bnd ++ [.bool ea, .bool ag] ++ hcells mrk ++ [.int .i64 li] : List Value).toArray] w0 fun e w' => e = .returned (.tuple #[.slice none 0 0, .int .i64 2]) ∧ Ext w0 w' := by
  by_cases h : kd = 1 ∧ tck.length ≠ 0
  · exact dBare_bad kd q1 q2 q3 c1 c2 c3 _ _ _ _ name ptl prm tck ea ag li hrnd hshr hbnd hmrk h (her.resolve_left (fun h9 => h9 (.inl h.1))) _ hpl hpt hbP hbT
  · exact dBare_no kd q1 q2 q3 c1 c2 c3 _ _ _ _ name ptl prm tck ea ag li hrnd hshr hbnd hmrk (by omega) _ hpl hpt hbP hbT

set_option maxRecDepth 100000 in
set_option maxHeartbeats 4000000 in
theorem law_err (kd : Int) (q1 q2 q3 : Option Addr) (c1 c2 c3 : Nat) (rnd shr bnd mrk : List UInt8) (name : ByteArray) (ptl : List ByteArray) (prm tck : List UInt8) (ea ag : Bool) (li : Int) (hrnd : rnd.length = 16) (hshr : shr.length = 16) (hbnd : bnd.length = 16) (hmrk : mrk.length = 16) (er : Int) (her : (¬ (kd = 1 ∨ kd = 2 ∨ kd = 4 ∨ kd = 8 ∨ kd = 11 ∨ kd = 15 ∨ kd = 20) ∧ er = 12) ∨ ((kd = 1 ∨ kd = 2 ∨ kd = 4 ∨ kd = 8 ∨ kd = 11 ∨ kd = 15 ∨ kd = 20) ∧ ¬ mayM kd name.size ptl.length prm.length tck.length (bzN ea bnd) (oddN ptl) li ∧ er = 2)) (w0 : World) (hpl : ptl.length ≤ 1048576) (hpt : SsA w0 q1 c1 ptl) (hbP : BsF Nobody w0 (.slice q2 prm.length c2) prm) (hbT : BsF Nobody w0 (.slice q3 tck.length c3) tck) : Calls Try.prog 3 #[.agg ([.int .i64 kd] ++ hcells rnd ++ hcells shr ++ [.string name, .slice q1 ptl.length c1, .slice q2 prm.length c2, .slice q3 tck.length c3] ++ hcells bnd ++ [.bool ea, .bool ag] ++ hcells mrk ++ [.int .i64 li] : List Value).toArray] w0 fun e w' => e = .returned (.bool true) ∧ Ext w0 w' := by
  refine enter Try.func3 rfl rfl rfl ?_
  intro a hS
  have hH := Hp.start w0 (Nobody)
  obtain ⟨r0, r1, r2, r3, r4, r5, r6, r7, r8, r9, ra, rb, rc, rd, re, rf, rfl⟩ := len16 hrnd
  obtain ⟨s0, s1, s2, s3, s4, s5, s6, s7, s8, s9, sa, sb, sc, sd, se, sf, rfl⟩ := len16 hshr
  obtain ⟨n0, n1, n2, n3, n4, n5, n6, n7, n8, n9, na, nb, nc, nd, ne, nf, rfl⟩ := len16 hbnd
  obtain ⟨m0, m1, m2, m3, m4, m5, m6, m7, m8, m9, ma, mb, mc, md, me, mf, rfl⟩ := len16 hmrk
  refine c_seq ?_
  refine reg_plain w0 (Nobody) ?_
  refine r_box hS hH (by repeat (first | exact Sub.nil | refine Sub.cons ?_ ?_ | exact In.here | refine In.there ?_)) rfl rfl rfl ?_
  clear hS hH; intro a w b1 hb1 hwb1 hS hH
  refine r_assign hS hH.kp0 rfl rfl ?_; clear hS; intro a hS
  refine Sq.nil ?_
  refine then_n ?_
  refine c_seq ?_
  refine reg_plain w0 (Nobody) ?_
  refine r_load_row hS hH (by repeat (first | exact Sub.nil | refine Sub.cons ?_ ?_ | exact In.here | refine In.there ?_)) rfl (by repeat (first | exact In.here | refine In.there ?_)) Fc.ag27 (by rfl) rfl ?_; clear hS; intro a hS
  refine r_call (l := [.tmp 15]) hS rfl rfl Fc.fn4 rfl ?_
  refine Calls.mono (Put_err kd q1 q2 q3 c1 c2 c3 _ _ _ _ name ptl prm tck ea ag li hrnd hshr hbnd hmrk er her _ hpl (hpt.ext hH.mod) (hbP.go hH.mod (fun _ h => h.elim)) (hbT.go hH.mod (fun _ h => h.elim))) ?_
  rintro e w1 ⟨rfl, hE⟩
  replace hH := hH.ext hE
  refine ⟨_, rfl, hH.kp0, ?_⟩
  clear hS; intro a hS
  refine r_move hS hH.kp0 rfl rfl ?_; clear hS; intro a hS
  refine r_extract hS hH.kp0 rfl rfl rfl ?_; clear hS; intro a hS
  refine r_extract hS hH.kp0 rfl rfl rfl ?_; clear hS; intro a hS
  refine r_assign hS hH.kp0 rfl rfl ?_; clear hS; intro a hS
  refine r_assign hS hH.kp0 rfl rfl ?_; clear hS; intro a hS
  refine Sq.nil ?_
  refine then_n ?_
  refine c_seq ?_
  refine reg_plain w0 (Nobody) ?_
  refine r_load_row hS hH (by repeat (first | exact Sub.nil | refine Sub.cons ?_ ?_ | exact In.here | refine In.there ?_)) rfl (by repeat (first | exact In.here | refine In.there ?_)) Fc.ag27 (by rfl) rfl ?_; clear hS; intro a hS
  refine r_call (l := [.tmp 20]) hS rfl rfl Fc.fn5 rfl ?_
  refine Calls.mono (Bare_err kd q1 q2 q3 c1 c2 c3 _ _ _ _ name ptl prm tck ea ag li hrnd hshr hbnd hmrk (her.elim (fun h => .inl h.1) (fun h => .inr h.2.1)) _ hpl (hpt.ext hH.mod) (hbP.go hH.mod (fun _ h => h.elim)) (hbT.go hH.mod (fun _ h => h.elim))) ?_
  rintro e w1 ⟨rfl, hE⟩
  replace hH := hH.ext hE
  refine ⟨_, rfl, hH.kp0, ?_⟩
  clear hS; intro a hS
  refine r_move hS hH.kp0 rfl rfl ?_; clear hS; intro a hS
  refine r_extract hS hH.kp0 rfl rfl rfl ?_; clear hS; intro a hS
  refine r_extract hS hH.kp0 rfl rfl rfl ?_; clear hS; intro a hS
  refine r_assign hS hH.kp0 rfl rfl ?_; clear hS; intro a hS
  refine r_assign hS hH.kp0 rfl rfl ?_; clear hS; intro a hS
  refine Sq.nil ?_
  refine then_n ?_
  refine c_seq ?_
  refine reg_plain w0 (Nobody) ?_
  refine r_load_row hS hH (by repeat (first | exact Sub.nil | refine Sub.cons ?_ ?_ | exact In.here | refine In.there ?_)) rfl (by repeat (first | exact In.here | refine In.there ?_)) Fc.ag27 (by rfl) rfl ?_; clear hS; intro a hS
  refine r_call (l := [.tmp 25]) hS rfl rfl Fc.fn7 rfl ?_
  refine Calls.mono (Refs_c kd q1 q2 q3 c1 c2 c3 _ _ _ _ name ptl prm tck ea ag li hrnd hshr hbnd hmrk _) ?_
  rintro e w1 ⟨rfl, hE⟩
  replace hH := hH.ext hE
  refine ⟨_, rfl, hH.kp0, ?_⟩
  clear hS; intro a hS
  refine r_call (l := [.tmp 26]) hS rfl rfl Fc.fn6 rfl ?_
  refine Calls.mono (dPut_err kd q1 q2 q3 c1 c2 c3 _ _ _ _ name ptl prm tck ea ag li hrnd hshr hbnd hmrk er her _ hpl (hpt.ext hH.mod) (hbP.go hH.mod (fun _ h => h.elim)) (hbT.go hH.mod (fun _ h => h.elim))) ?_
  rintro e w1 ⟨rfl, hE⟩
  replace hH := hH.ext hE
  refine ⟨_, rfl, hH.kp0, ?_⟩
  clear hS; intro a hS
  refine r_move hS hH.kp0 rfl rfl ?_; clear hS; intro a hS
  refine r_extract hS hH.kp0 rfl rfl rfl ?_; clear hS; intro a hS
  refine r_extract hS hH.kp0 rfl rfl rfl ?_; clear hS; intro a hS
  refine r_assign hS hH.kp0 rfl rfl ?_; clear hS; intro a hS
  refine r_assign hS hH.kp0 rfl rfl ?_; clear hS; intro a hS
  refine Sq.nil ?_
  refine then_n ?_
  refine c_seq ?_
  refine reg_plain w0 (Nobody) ?_
  refine r_load_row hS hH (by repeat (first | exact Sub.nil | refine Sub.cons ?_ ?_ | exact In.here | refine In.there ?_)) rfl (by repeat (first | exact In.here | refine In.there ?_)) Fc.ag27 (by rfl) rfl ?_; clear hS; intro a hS
  refine r_call (l := [.tmp 31]) hS rfl rfl Fc.fn7 rfl ?_
  refine Calls.mono (Refs_c kd q1 q2 q3 c1 c2 c3 _ _ _ _ name ptl prm tck ea ag li hrnd hshr hbnd hmrk _) ?_
  rintro e w1 ⟨rfl, hE⟩
  replace hH := hH.ext hE
  refine ⟨_, rfl, hH.kp0, ?_⟩
  clear hS; intro a hS
  refine r_call (l := [.tmp 32]) hS rfl rfl Fc.fn8 rfl ?_
  refine Calls.mono (dBare_err kd q1 q2 q3 c1 c2 c3 _ _ _ _ name ptl prm tck ea ag li hrnd hshr hbnd hmrk (her.elim (fun h => .inl h.1) (fun h => .inr h.2.1)) _ hpl (hpt.ext hH.mod) (hbP.go hH.mod (fun _ h => h.elim)) (hbT.go hH.mod (fun _ h => h.elim))) ?_
  rintro e w1 ⟨rfl, hE⟩
  replace hH := hH.ext hE
  refine ⟨_, rfl, hH.kp0, ?_⟩
  clear hS; intro a hS
  refine r_move hS hH.kp0 rfl rfl ?_; clear hS; intro a hS
  refine r_extract hS hH.kp0 rfl rfl rfl ?_; clear hS; intro a hS
  refine r_extract hS hH.kp0 rfl rfl rfl ?_; clear hS; intro a hS
  refine r_assign hS hH.kp0 rfl rfl ?_; clear hS; intro a hS
  refine r_assign hS hH.kp0 rfl rfl ?_; clear hS; intro a hS
  refine Sq.nil ?_
  refine then_n ?_
  refine c_seq ?_
  refine c_seq ?_
  refine reg_plain w0 (Nobody) ?_
  refine r_move hS hH.kp0 rfl rfl ?_; clear hS; intro a hS
  refine r_bytesStr hS hH.kp0 rfl ((Bs.nil _)) Fc.u8s25 Fc.isStr9 rfl ?_; clear hS; intro a hS
  refine r_move hS hH.kp0 rfl rfl ?_; clear hS; intro a hS
  refine r_bytesStr hS hH.kp0 rfl ((Bs.nil _)) Fc.u8s25 Fc.isStr9 rfl ?_; clear hS; intro a hS
  refine r_strNeq hS hH.kp0 rfl rfl rfl ?_; clear hS; intro a hS
  refine r_move hS hH.kp0 rfl rfl ?_; clear hS; intro a hS
  refine Sq.guardYes hS rfl rfl (congrArg not (beq_self_eq_true _)) ?_; refine r_move hS hH.kp0 rfl rfl ?_; clear hS; intro a hS
  refine Sq.guardYes hS rfl rfl (congrArg not (beq_self_eq_true _)) ?_; refine r_move hS hH.kp0 rfl rfl ?_; clear hS; intro a hS
  refine Sq.guardYes hS rfl rfl (congrArg not (beq_self_eq_true _)) ?_; refine r_neq hS hH.kp0 rfl rfl rfl ?_; clear hS; intro a hS
  refine r_pickF hS hH.kp0 rfl (congrArg not (beq_self_eq_true _)) rfl rfl ?_; clear hS; intro a hS
  refine r_move hS hH.kp0 rfl rfl ?_; clear hS; intro a hS
  refine Sq.guardYes hS rfl rfl (bne_eq_false_iff_eq.2 (by omega)) ?_; refine r_move hS hH.kp0 rfl rfl ?_; clear hS; intro a hS
  refine Sq.guardYes hS rfl rfl (bne_eq_false_iff_eq.2 (by omega)) ?_; refine r_bytesStr hS hH.kp0 rfl ((Bs.nil _)) Fc.u8s25 Fc.isStr9 rfl ?_; clear hS; intro a hS
  refine Sq.guardYes hS rfl rfl (bne_eq_false_iff_eq.2 (by omega)) ?_; refine r_move hS hH.kp0 rfl rfl ?_; clear hS; intro a hS
  refine Sq.guardYes hS rfl rfl (bne_eq_false_iff_eq.2 (by omega)) ?_; refine r_bytesStr hS hH.kp0 rfl ((Bs.nil _)) Fc.u8s25 Fc.isStr9 rfl ?_; clear hS; intro a hS
  refine Sq.guardYes hS rfl rfl (bne_eq_false_iff_eq.2 (by omega)) ?_; refine r_strNeq hS hH.kp0 rfl rfl rfl ?_; clear hS; intro a hS
  refine r_pickF hS hH.kp0 rfl (bne_eq_false_iff_eq.2 (by omega)) rfl rfl ?_; clear hS; intro a hS
  refine r_move hS hH.kp0 rfl rfl ?_; clear hS; intro a hS
  refine Sq.guardYes hS rfl rfl (congrArg not (beq_self_eq_true _)) ?_; refine r_move hS hH.kp0 rfl rfl ?_; clear hS; intro a hS
  refine Sq.guardYes hS rfl rfl (congrArg not (beq_self_eq_true _)) ?_; refine r_move hS hH.kp0 rfl rfl ?_; clear hS; intro a hS
  refine Sq.guardYes hS rfl rfl (congrArg not (beq_self_eq_true _)) ?_; refine r_neq hS hH.kp0 rfl rfl rfl ?_; clear hS; intro a hS
  refine r_pickF hS hH.kp0 rfl (congrArg not (beq_self_eq_true _)) rfl rfl ?_; clear hS; intro a hS
  refine Sq.nil ?_
  refine then_n ?_
  refine c_condF hS rfl rfl ?_
  refine wp_skip ?_
  refine then_n ?_
  refine c_seq ?_
  refine c_seq ?_
  refine reg_plain w0 (Nobody) ?_
  refine r_assign hS hH.kp0 rfl rfl ?_; clear hS; intro a hS
  refine Sq.nil ?_
  refine then_n ?_
  refine wp_block ?_
  refine wp_loop_rounds 1 ?_
  refine rnd ?_
  refine c_seq ?_
  refine c_seq ?_
  refine reg_plain w0 (Nobody) ?_
  refine r_move hS hH.kp0 rfl rfl ?_; clear hS; intro a hS
  refine r_move hS hH.kp0 rfl rfl ?_; clear hS; intro a hS
  refine r_lenSl hS hH.kp0 rfl Fc.isSlice25 rfl ?_; clear hS; intro a hS
  refine r_lss hS hH.kp0 rfl rfl rfl ?_; clear hS; intro a hS
  refine Sq.nil ?_
  refine then_n ?_
  refine c_condF hS rfl rfl ?_
  refine wp_exit ?_
  refine then_e ?_
  refine then_e ?_
  refine blk_hit ?_
  refine then_n ?_
  refine c_seq ?_
  refine reg_plain w0 (Nobody) ?_
  refine r_load_row hS hH (by repeat (first | exact Sub.nil | refine Sub.cons ?_ ?_ | exact In.here | refine In.there ?_)) rfl (by repeat (first | exact In.here | refine In.there ?_)) Fc.ag27 (by rfl) rfl ?_; clear hS; intro a hS
  refine r_call (l := [.tmp 73]) hS rfl rfl Fc.fn4 rfl ?_
  refine Calls.mono (Put_err kd q1 q2 q3 c1 c2 c3 _ _ _ _ name ptl prm tck ea ag li hrnd hshr hbnd hmrk er her _ hpl (hpt.ext hH.mod) (hbP.go hH.mod (fun _ h => h.elim)) (hbT.go hH.mod (fun _ h => h.elim))) ?_
  rintro e w1 ⟨rfl, hE⟩
  replace hH := hH.ext hE
  refine ⟨_, rfl, hH.kp0, ?_⟩
  clear hS; intro a hS
  refine r_move hS hH.kp0 rfl rfl ?_; clear hS; intro a hS
  refine r_extract hS hH.kp0 rfl rfl rfl ?_; clear hS; intro a hS
  refine r_extract hS hH.kp0 rfl rfl rfl ?_; clear hS; intro a hS
  refine r_assign hS hH.kp0 rfl rfl ?_; clear hS; intro a hS
  refine r_assign hS hH.kp0 rfl rfl ?_; clear hS; intro a hS
  refine Sq.nil ?_
  refine then_n ?_
  refine c_seq ?_
  refine reg_plain w0 (Nobody) ?_
  refine r_move hS hH.kp0 rfl rfl ?_; clear hS; intro a hS
  refine r_bytesStr hS hH.kp0 rfl ((Bs.nil _)) Fc.u8s25 Fc.isStr9 rfl ?_; clear hS; intro a hS
  refine r_move hS hH.kp0 rfl rfl ?_; clear hS; intro a hS
  refine r_bytesStr hS hH.kp0 rfl ((Bs.nil _)) Fc.u8s25 Fc.isStr9 rfl ?_; clear hS; intro a hS
  refine r_strEql hS hH.kp0 rfl rfl rfl ?_; clear hS; intro a hS
  refine r_move hS hH.kp0 rfl rfl ?_; clear hS; intro a hS
  refine Sq.guardYes hS rfl rfl (beq_self_eq_true _) ?_; refine r_call (l := []) hS rfl rfl Fc.fn9 rfl ?_; refine Calls.mono (names_c _) ?_; rintro e w1 ⟨rfl, hE⟩; replace hH := hH.ext hE; refine ⟨_, rfl, hH.kp0, ?_⟩; clear hS; intro a hS
  refine r_pickT hS hH.kp0 rfl (beq_self_eq_true _) rfl rfl ?_; clear hS; intro a hS
  refine r_assign hS hH.kp0 rfl rfl ?_; clear hS; intro a hS
  refine Sq.nil ?_
  refine then_n ?_
  refine wp_ret ?_
  exact leave (.inl rfl) hS rfl (Res.tmp rfl Res.nil) ⟨rfl, hH.mod⟩

set_option maxRecDepth 100000 in
set_option maxHeartbeats 8000000 in
theorem law_ok1 (kd : Int) (q1 q2 q3 : Option Addr) (c1 c2 c3 : Nat) (rnd shr bnd mrk : List UInt8) (name : ByteArray) (ptl : List ByteArray) (prm tck : List UInt8) (ea ag : Bool) (li : Int) (hrnd : rnd.length = 16) (hshr : shr.length = 16) (hbnd : bnd.length = 16) (hmrk : mrk.length = 16) (hkn : kd = 1 ∨ kd = 2 ∨ kd = 4 ∨ kd = 8 ∨ kd = 11 ∨ kd = 15 ∨ kd = 20) (hmay : mayM kd name.size ptl.length prm.length tck.length (bzN ea bnd) (oddN ptl) li) (hyes : kd = 1 ∧ tck.length ≠ 0) (h20 : 16 ≤ (msgB kd (bodyB kd rnd shr name ptl prm tck bnd ea ag mrk li)).length) (w0 : World) (hpl : ptl.length ≤ 1048576) (hpt : SsA w0 q1 c1 ptl) (hbP : BsF Nobody w0 (.slice q2 prm.length c2) prm) (hbT : BsF Nobody w0 (.slice q3 tck.length c3) tck) : Calls Try.prog 3 #[.agg ([.int .i64 kd] ++ hcells rnd ++ hcells shr ++ [.string name, .slice q1 ptl.length c1, .slice q2 prm.length c2, .slice q3 tck.length c3] ++ hcells bnd ++ [.bool ea, .bool ag] ++ hcells mrk ++ [.int .i64 li] : List Value).toArray] w0 fun e w' => e = .returned (.bool true) ∧ Ext w0 w' := by
  refine enter Try.func3 rfl rfl rfl ?_
  intro a hS
  have hH := Hp.start w0 (Nobody)
  obtain ⟨r0, r1, r2, r3, r4, r5, r6, r7, r8, r9, ra, rb, rc, rd, re, rf, rfl⟩ := len16 hrnd
  obtain ⟨s0, s1, s2, s3, s4, s5, s6, s7, s8, s9, sa, sb, sc, sd, se, sf, rfl⟩ := len16 hshr
  obtain ⟨n0, n1, n2, n3, n4, n5, n6, n7, n8, n9, na, nb, nc, nd, ne, nf, rfl⟩ := len16 hbnd
  obtain ⟨m0, m1, m2, m3, m4, m5, m6, m7, m8, m9, ma, mb, mc, md, me, mf, rfl⟩ := len16 hmrk
  obtain ⟨M, hMe⟩ : ∃ M, M = msgB kd (bodyB kd [r0, r1, r2, r3, r4, r5, r6, r7, r8, r9, ra, rb, rc, rd, re, rf] [s0, s1, s2, s3, s4, s5, s6, s7, s8, s9, sa, sb, sc, sd, se, sf] name ptl prm tck [n0, n1, n2, n3, n4, n5, n6, n7, n8, n9, na, nb, nc, nd, ne, nf] ea ag [m0, m1, m2, m3, m4, m5, m6, m7, m8, m9, ma, mb, mc, md, me, mf] li) := ⟨_, rfl⟩
  have hml : M.length ≤ 200000 := by rw [hMe, msgB_len]; have := bodyB_len (ag := ag) hmay (show ([r0, r1, r2, r3, r4, r5, r6, r7, r8, r9, ra, rb, rc, rd, re, rf] : List UInt8).length = 16 from rfl) (show ([s0, s1, s2, s3, s4, s5, s6, s7, s8, s9, sa, sb, sc, sd, se, sf] : List UInt8).length = 16 from rfl) rfl (show ([m0, m1, m2, m3, m4, m5, m6, m7, m8, m9, ma, mb, mc, md, me, mf] : List UInt8).length = 16 from rfl); omega
  refine c_seq ?_
  refine reg_plain w0 (Nobody) ?_
  refine r_box hS hH (by repeat (first | exact Sub.nil | refine Sub.cons ?_ ?_ | exact In.here | refine In.there ?_)) rfl rfl rfl ?_
  clear hS hH; intro a w b1 hb1 hwb1 hS hH
  refine r_assign hS hH.kp0 rfl rfl ?_; clear hS; intro a hS
  refine Sq.nil ?_
  refine then_n ?_
  refine c_seq ?_
  refine reg_plain w0 (Nobody) ?_
  refine r_load_row hS hH (by repeat (first | exact Sub.nil | refine Sub.cons ?_ ?_ | exact In.here | refine In.there ?_)) rfl (by repeat (first | exact In.here | refine In.there ?_)) Fc.ag27 (by rfl) rfl ?_; clear hS; intro a hS
  refine r_call (l := [.tmp 15]) hS rfl rfl Fc.fn4 rfl ?_
  refine Calls.mono (Put_ok kd q1 q2 q3 c1 c2 c3 _ _ _ _ name ptl prm tck ea ag li hrnd hshr hbnd hmrk hkn hmay _ hpl (hpt.ext hH.mod) (hbP.go hH.mod (fun _ h => h.elim)) (hbT.go hH.mod (fun _ h => h.elim))) ?_
  rintro e w1 ⟨bx, cx, kx, rfl, hrx, hkx, hBx, hE⟩
  rw [← hMe] at hBx ⊢
  have hwx := Nat.le_trans hH.mod.size hrx
  replace hH := hH.knowN hE hrx hkx
  refine ⟨_, rfl, hH.kp0, ?_⟩
  clear hS; intro a hS
  refine r_move hS hH.kp0 rfl rfl ?_; clear hS; intro a hS
  refine r_extract hS hH.kp0 rfl rfl rfl ?_; clear hS; intro a hS
  refine r_extract hS hH.kp0 rfl rfl rfl ?_; clear hS; intro a hS
  refine r_assign hS hH.kp0 rfl rfl ?_; clear hS; intro a hS
  refine r_assign hS hH.kp0 rfl rfl ?_; clear hS; intro a hS
  refine Sq.nil ?_
  refine then_n ?_
  refine c_seq ?_
  refine reg_plain w0 (Nobody) ?_
  refine r_load_row hS hH (by repeat (first | exact Sub.nil | refine Sub.cons ?_ ?_ | exact In.here | refine In.there ?_)) rfl (by repeat (first | exact In.here | refine In.there ?_)) Fc.ag27 (by rfl) rfl ?_; clear hS; intro a hS
  refine r_call (l := [.tmp 20]) hS rfl rfl Fc.fn5 rfl ?_
  refine Calls.mono (Bare_ok kd q1 q2 q3 c1 c2 c3 _ _ _ _ name ptl prm tck ea ag li hrnd hshr hbnd hmrk hyes hmay h20 _ hpl (hpt.ext hH.mod) (hbP.go hH.mod (fun _ h => h.elim)) (hbT.go hH.mod (fun _ h => h.elim))) ?_
  rintro e w1 ⟨bg, cg, kg, rfl, hrg, hkg, hBg, hE⟩
  rw [← hMe] at hBg ⊢
  have hwg := Nat.le_trans hH.mod.size hrg
  replace hH := hH.knowN hE hrg hkg
  refine ⟨_, rfl, hH.kp0, ?_⟩
  clear hS; intro a hS
  refine r_move hS hH.kp0 rfl rfl ?_; clear hS; intro a hS
  refine r_extract hS hH.kp0 rfl rfl rfl ?_; clear hS; intro a hS
  refine r_extract hS hH.kp0 rfl rfl rfl ?_; clear hS; intro a hS
  refine r_assign hS hH.kp0 rfl rfl ?_; clear hS; intro a hS
  refine r_assign hS hH.kp0 rfl rfl ?_; clear hS; intro a hS
  refine Sq.nil ?_
  refine then_n ?_
  refine c_seq ?_
  refine reg_plain w0 (Nobody) ?_
  refine r_load_row hS hH (by repeat (first | exact Sub.nil | refine Sub.cons ?_ ?_ | exact In.here | refine In.there ?_)) rfl (by repeat (first | exact In.here | refine In.there ?_)) Fc.ag27 (by rfl) rfl ?_; clear hS; intro a hS
  refine r_call (l := [.tmp 25]) hS rfl rfl Fc.fn7 rfl ?_
  refine Calls.mono (Refs_c kd q1 q2 q3 c1 c2 c3 _ _ _ _ name ptl prm tck ea ag li hrnd hshr hbnd hmrk _) ?_
  rintro e w1 ⟨rfl, hE⟩
  replace hH := hH.ext hE
  refine ⟨_, rfl, hH.kp0, ?_⟩
  clear hS; intro a hS
  refine r_call (l := [.tmp 26]) hS rfl rfl Fc.fn6 rfl ?_
  refine Calls.mono (dPut_ok kd q1 q2 q3 c1 c2 c3 _ _ _ _ name ptl prm tck ea ag li hrnd hshr hbnd hmrk hkn hmay _ hpl (hpt.ext hH.mod) (hbP.go hH.mod (fun _ h => h.elim)) (hbT.go hH.mod (fun _ h => h.elim))) ?_
  rintro e w1 ⟨bq, cq, kq, rfl, hrq, hkq, hBq, hE⟩
  rw [← hMe] at hBq ⊢
  have hwq := Nat.le_trans hH.mod.size hrq
  replace hH := hH.knowN hE hrq hkq
  refine ⟨_, rfl, hH.kp0, ?_⟩
  clear hS; intro a hS
  refine r_move hS hH.kp0 rfl rfl ?_; clear hS; intro a hS
  refine r_extract hS hH.kp0 rfl rfl rfl ?_; clear hS; intro a hS
  refine r_extract hS hH.kp0 rfl rfl rfl ?_; clear hS; intro a hS
  refine r_assign hS hH.kp0 rfl rfl ?_; clear hS; intro a hS
  refine r_assign hS hH.kp0 rfl rfl ?_; clear hS; intro a hS
  refine Sq.nil ?_
  refine then_n ?_
  refine c_seq ?_
  refine reg_plain w0 (Nobody) ?_
  refine r_load_row hS hH (by repeat (first | exact Sub.nil | refine Sub.cons ?_ ?_ | exact In.here | refine In.there ?_)) rfl (by repeat (first | exact In.here | refine In.there ?_)) Fc.ag27 (by rfl) rfl ?_; clear hS; intro a hS
  refine r_call (l := [.tmp 31]) hS rfl rfl Fc.fn7 rfl ?_
  refine Calls.mono (Refs_c kd q1 q2 q3 c1 c2 c3 _ _ _ _ name ptl prm tck ea ag li hrnd hshr hbnd hmrk _) ?_
  rintro e w1 ⟨rfl, hE⟩
  replace hH := hH.ext hE
  refine ⟨_, rfl, hH.kp0, ?_⟩
  clear hS; intro a hS
  refine r_call (l := [.tmp 32]) hS rfl rfl Fc.fn8 rfl ?_
  refine Calls.mono (dBare_ok kd q1 q2 q3 c1 c2 c3 _ _ _ _ name ptl prm tck ea ag li hrnd hshr hbnd hmrk hyes hmay h20 _ hpl (hpt.ext hH.mod) (hbP.go hH.mod (fun _ h => h.elim)) (hbT.go hH.mod (fun _ h => h.elim))) ?_
  rintro e w1 ⟨bp, cp, kp, rfl, hrp, hkp, hBp, hE⟩
  rw [← hMe] at hBp ⊢
  have hwp := Nat.le_trans hH.mod.size hrp
  replace hH := hH.knowN hE hrp hkp
  refine ⟨_, rfl, hH.kp0, ?_⟩
  clear hS; intro a hS
  refine r_move hS hH.kp0 rfl rfl ?_; clear hS; intro a hS
  refine r_extract hS hH.kp0 rfl rfl rfl ?_; clear hS; intro a hS
  refine r_extract hS hH.kp0 rfl rfl rfl ?_; clear hS; intro a hS
  refine r_assign hS hH.kp0 rfl rfl ?_; clear hS; intro a hS
  refine r_assign hS hH.kp0 rfl rfl ?_; clear hS; intro a hS
  refine Sq.nil ?_
  refine then_n ?_
  refine c_seq ?_
  refine c_seq ?_
  refine reg_plain w0 (Nobody) ?_
  refine r_move hS hH.kp0 rfl rfl ?_; clear hS; intro a hS
  refine r_bytesStr hS hH.kp0 rfl (hBx.bs (hH.get (b := bx) (by repeat (first | exact In.here | refine In.there ?_)))) Fc.u8s25 Fc.isStr9 rfl ?_; clear hS; intro a hS
  refine r_move hS hH.kp0 rfl rfl ?_; clear hS; intro a hS
  refine r_bytesStr hS hH.kp0 rfl (hBq.bs (hH.get (b := bq) (by repeat (first | exact In.here | refine In.there ?_)))) Fc.u8s25 Fc.isStr9 rfl ?_; clear hS; intro a hS
  refine r_strNeq hS hH.kp0 rfl rfl rfl ?_; clear hS; intro a hS
  refine r_move hS hH.kp0 rfl rfl ?_; clear hS; intro a hS
  refine Sq.guardYes hS rfl rfl (congrArg not (beq_self_eq_true _)) ?_; refine r_move hS hH.kp0 rfl rfl ?_; clear hS; intro a hS
  refine Sq.guardYes hS rfl rfl (congrArg not (beq_self_eq_true _)) ?_; refine r_move hS hH.kp0 rfl rfl ?_; clear hS; intro a hS
  refine Sq.guardYes hS rfl rfl (congrArg not (beq_self_eq_true _)) ?_; refine r_neq hS hH.kp0 rfl rfl rfl ?_; clear hS; intro a hS
  refine r_pickF hS hH.kp0 rfl (congrArg not (beq_self_eq_true _)) rfl rfl ?_; clear hS; intro a hS
  refine r_move hS hH.kp0 rfl rfl ?_; clear hS; intro a hS
  refine Sq.guardYes hS rfl rfl rfl ?_; refine r_move hS hH.kp0 rfl rfl ?_; clear hS; intro a hS
  refine Sq.guardYes hS rfl rfl rfl ?_; refine r_bytesStr hS hH.kp0 rfl (hBg.preBs (Nat.sub_le _ _) (hH.get (b := bg) (by repeat (first | exact In.here | refine In.there ?_)))) Fc.u8s25 Fc.isStr9 rfl ?_; clear hS; intro a hS
  refine Sq.guardYes hS rfl rfl rfl ?_; refine r_move hS hH.kp0 rfl rfl ?_; clear hS; intro a hS
  refine Sq.guardYes hS rfl rfl rfl ?_; refine r_bytesStr hS hH.kp0 rfl (hBp.preBs (Nat.sub_le _ _) (hH.get (b := bp) (by repeat (first | exact In.here | refine In.there ?_)))) Fc.u8s25 Fc.isStr9 rfl ?_; clear hS; intro a hS
  refine Sq.guardYes hS rfl rfl rfl ?_; refine r_strNeq hS hH.kp0 rfl rfl rfl ?_; clear hS; intro a hS
  refine r_pickF hS hH.kp0 rfl rfl rfl rfl ?_; clear hS; intro a hS
  refine r_move hS hH.kp0 rfl rfl ?_; clear hS; intro a hS
  refine Sq.guardYes hS rfl rfl (congrArg not (beq_self_eq_true _)) ?_; refine r_move hS hH.kp0 rfl rfl ?_; clear hS; intro a hS
  refine Sq.guardYes hS rfl rfl (congrArg not (beq_self_eq_true _)) ?_; refine r_move hS hH.kp0 rfl rfl ?_; clear hS; intro a hS
  refine Sq.guardYes hS rfl rfl (congrArg not (beq_self_eq_true _)) ?_; refine r_neq hS hH.kp0 rfl rfl rfl ?_; clear hS; intro a hS
  refine r_pickF hS hH.kp0 rfl (congrArg not (beq_self_eq_true _)) rfl rfl ?_; clear hS; intro a hS
  refine Sq.nil ?_
  refine then_n ?_
  refine c_condF hS rfl rfl ?_
  refine wp_skip ?_
  refine then_n ?_
  refine c_seq ?_
  refine c_seq ?_
  refine reg_plain w0 (Nobody) ?_
  refine r_assign hS hH.kp0 rfl rfl ?_; clear hS; intro a hS
  refine Sq.nil ?_
  refine then_n ?_
  refine wp_block ?_
  refine c_loop (fun m a w => ∃ (j : Nat) (i : Int) (kj : List Value) (u : List UInt8), m + j = M.length ∧ i = j ∧ u.length = M.length ∧ BB cx kj u ∧ St 85 (lv [(1, .pointer (some ⟨b1, 0, none⟩)), (3, .slice (some ⟨bx, 0, none⟩) M.length cx), (7, .slice (some ⟨bq, 0, none⟩) M.length cq), (11, .int .i64 i)]) a ∧ Hp w0 Nobody [(bx, .cells kj.toArray 5 (0, 0)), (bq, .cells kq.toArray 5 (0, 0)), (b1, .cells ([.int .i64 kd] ++ hcells [r0, r1, r2, r3, r4, r5, r6, r7, r8, r9, ra, rb, rc, rd, re, rf] ++ hcells [s0, s1, s2, s3, s4, s5, s6, s7, s8, s9, sa, sb, sc, sd, se, sf] ++ [.string name, .slice q1 ptl.length c1, .slice q2 prm.length c2, .slice q3 tck.length c3] ++ hcells [n0, n1, n2, n3, n4, n5, n6, n7, n8, n9, na, nb, nc, nd, ne, nf] ++ [.bool ea, .bool ag] ++ hcells [m0, m1, m2, m3, m4, m5, m6, m7, m8, m9, ma, mb, mc, md, me, mf] ++ [.int .i64 li] : List Value).toArray 27 (0, 0))] w) (M.length) ?_ ?_
  · exact ⟨0, _, kx, M, by omega, rfl, rfl, hBx, hS.live ⟨rfl, rfl, rfl, rfl, trivial⟩, hH.sub (by repeat (first | exact Sub.nil | refine Sub.cons ?_ ?_ | exact In.here | refine In.there ?_)) (by have nd := hH.nd; simp only [List.map_cons, List.map_nil, List.nodup_cons, List.mem_cons, List.not_mem_nil, or_false, not_or, List.nodup_nil, and_true, not_false_iff] at nd ⊢; omega)⟩
  clear hS hH; intro m a w hI; obtain ⟨j, i, kj, u, hmj, hi, hul, hBj, hS, hH⟩ := hI
  refine c_seq ?_
  refine c_seq ?_
  refine reg_plain w0 (Nobody) ?_
  refine r_move hS hH.kp0 rfl rfl ?_; clear hS; intro a hS
  refine r_move hS hH.kp0 rfl rfl ?_; clear hS; intro a hS
  refine r_lenSl hS hH.kp0 rfl Fc.isSlice25 rfl ?_; clear hS; intro a hS
  refine r_lss hS hH.kp0 rfl rfl rfl ?_; clear hS; intro a hS
  refine Sq.nil ?_
  refine then_n ?_
  refine c_cond hS rfl (fun hc1 => ?_) (fun hc1 => ?_)
  · have hk : j < M.length := by have := of_decide_eq_true hc1; omega
    obtain ⟨y, hy⟩ : ∃ y, u[j]? = some y := ⟨_, List.getElem?_eq_getElem (by omega)⟩
    refine wp_skip ?_
    refine then_n ?_
    refine c_seq ?_
    refine wp_block ?_
    refine reg_plain w0 (Nobody) ?_
    refine r_move hS hH.kp0 rfl rfl ?_; clear hS; intro a hS
    refine r_move hS hH.kp0 rfl rfl ?_; clear hS; intro a hS
    refine r_move hS hH.kp0 rfl rfl ?_; clear hS; intro a hS
    refine r_move hS hH.kp0 rfl rfl ?_; clear hS; intro a hS
    refine r_indexAddrS (j := j) hS hH.kp0 rfl rfl Fc.slb25 hi hk rfl ?_; clear hS; intro a hS
    refine r_load_sc hS hH (by repeat (first | exact Sub.nil | refine Sub.cons ?_ ?_ | exact In.here | refine In.there ?_)) rfl (by repeat (first | exact In.here | refine In.there ?_)) Fc.sc5 (v := byteV y) (by rw [nthV_eq, Nat.zero_add, Nat.mul_one]; exact hBj.at hy) rfl ?_; clear hS; intro a hS
    refine r_addB y 1 hS hH.kp0 rfl rfl rfl ?_; clear hS; intro a hS
    refine r_indexAddrS (j := j) hS hH.kp0 rfl rfl Fc.slb25 hi hk rfl ?_; clear hS; intro a hS
    refine r_store1 hS hH rfl rfl rfl (by repeat (first | exact .here | apply In.there | apply Put.there | apply Del.there)) (by repeat (first | exact Sub.nil | refine Sub.cons ?_ ?_ | exact In.here | refine In.there ?_)) Fc.sz5 (by rw [hBj.len]; have := hBj.le; omega) (.inr hwx) ?_; clear hH; intro w hH
    refine Sq.nil ?_
    refine blk_n ?_
    refine then_n ?_
    refine reg_plain w0 (Nobody) ?_
    refine r_move hS hH.kp0 rfl rfl ?_; clear hS; intro a hS
    (first | refine r_add hS hH.kp0 rfl rfl rfl (by omega) ?_ | refine r_addw hS hH.kp0 rfl rfl rfl ?_)
    clear hS; intro a hS
    refine r_assign hS hH.kp0 rfl rfl ?_; clear hS; intro a hS
    refine Sq.nil ?_
    refine then_n ?_
    refine ⟨m - 1, by omega, j + 1, _, _, u.set j (y + 1), by omega, ?_, by rw [List.length_set]; exact hul, hBj.setAt (by omega), hS.live ⟨rfl, rfl, rfl, rfl, trivial⟩, hH⟩
    omega
  · refine wp_exit ?_
    refine then_e ?_
    refine then_e ?_
    refine blk_hit ?_
    refine then_n ?_
    refine c_seq ?_
    refine reg_plain w0 (Nobody) ?_
    refine r_load_row hS hH (by repeat (first | exact Sub.nil | refine Sub.cons ?_ ?_ | exact In.here | refine In.there ?_)) rfl (by repeat (first | exact In.here | refine In.there ?_)) Fc.ag27 (by rfl) rfl ?_; clear hS; intro a hS
    refine r_call (l := [.tmp 73]) hS rfl rfl Fc.fn4 rfl ?_
    refine Calls.mono (Put_ok kd q1 q2 q3 c1 c2 c3 _ _ _ _ name ptl prm tck ea ag li hrnd hshr hbnd hmrk hkn hmay _ hpl (hpt.ext hH.mod) (hbP.go hH.mod (fun _ h => h.elim)) (hbT.go hH.mod (fun _ h => h.elim))) ?_
    rintro e w1 ⟨bz, cz, kz, rfl, hrz, hkz, hBz, hE⟩
    rw [← hMe] at hBz ⊢
    have hwz := Nat.le_trans hH.mod.size hrz
    replace hH := hH.knowN hE hrz hkz
    refine ⟨_, rfl, hH.kp0, ?_⟩
    clear hS; intro a hS
    refine r_move hS hH.kp0 rfl rfl ?_; clear hS; intro a hS
    refine r_extract hS hH.kp0 rfl rfl rfl ?_; clear hS; intro a hS
    refine r_extract hS hH.kp0 rfl rfl rfl ?_; clear hS; intro a hS
    refine r_assign hS hH.kp0 rfl rfl ?_; clear hS; intro a hS
    refine r_assign hS hH.kp0 rfl rfl ?_; clear hS; intro a hS
    refine Sq.nil ?_
    refine then_n ?_
    refine c_seq ?_
    refine reg_plain w0 (Nobody) ?_
    refine r_move hS hH.kp0 rfl rfl ?_; clear hS; intro a hS
    refine r_bytesStr hS hH.kp0 rfl (hBz.bs (hH.get (b := bz) (by repeat (first | exact In.here | refine In.there ?_)))) Fc.u8s25 Fc.isStr9 rfl ?_; clear hS; intro a hS
    refine r_move hS hH.kp0 rfl rfl ?_; clear hS; intro a hS
    refine r_bytesStr hS hH.kp0 rfl (hBq.bs (hH.get (b := bq) (by repeat (first | exact In.here | refine In.there ?_)))) Fc.u8s25 Fc.isStr9 rfl ?_; clear hS; intro a hS
    refine r_strEql hS hH.kp0 rfl rfl rfl ?_; clear hS; intro a hS
    refine r_move hS hH.kp0 rfl rfl ?_; clear hS; intro a hS
    refine Sq.guardYes hS rfl rfl (beq_self_eq_true _) ?_; refine r_call (l := []) hS rfl rfl Fc.fn9 rfl ?_; refine Calls.mono (names_c _) ?_; rintro e w1 ⟨rfl, hE⟩; replace hH := hH.ext hE; refine ⟨_, rfl, hH.kp0, ?_⟩; clear hS; intro a hS
    refine r_pickT hS hH.kp0 rfl (beq_self_eq_true _) rfl rfl ?_; clear hS; intro a hS
    refine r_assign hS hH.kp0 rfl rfl ?_; clear hS; intro a hS
    refine Sq.nil ?_
    refine then_n ?_
    refine wp_ret ?_
    exact leave (.inl rfl) hS rfl (Res.tmp rfl Res.nil) ⟨rfl, hH.mod⟩

set_option maxRecDepth 100000 in
set_option maxHeartbeats 8000000 in
theorem law_ok2 (kd : Int) (q1 q2 q3 : Option Addr) (c1 c2 c3 : Nat) (rnd shr bnd mrk : List UInt8) (name : ByteArray) (ptl : List ByteArray) (prm tck : List UInt8) (ea ag : Bool) (li : Int) (hrnd : rnd.length = 16) (hshr : shr.length = 16) (hbnd : bnd.length = 16) (hmrk : mrk.length = 16) (hkn : kd = 1 ∨ kd = 2 ∨ kd = 4 ∨ kd = 8 ∨ kd = 11 ∨ kd = 15 ∨ kd = 20) (hmay : mayM kd name.size ptl.length prm.length tck.length (bzN ea bnd) (oddN ptl) li) (hno : kd ≠ 1 ∨ tck.length = 0) (w0 : World) (hpl : ptl.length ≤ 1048576) (hpt : SsA w0 q1 c1 ptl) (hbP : BsF Nobody w0 (.slice q2 prm.length c2) prm) (hbT : BsF Nobody w0 (.slice q3 tck.length c3) tck) : Calls Try.prog 3 #[.agg ([.int .i64 kd] ++ hcells rnd ++ hcells shr ++ [.string name, .slice q1 ptl.length c1, .slice q2 prm.length c2, .slice q3 tck.length c3] ++ hcells bnd ++ [.bool ea, .bool ag] ++ hcells mrk ++ [.int .i64 li] : List Value).toArray] w0 fun e w' => e = .returned (.bool true) ∧ Ext w0 w' := by
  refine enter Try.func3 rfl rfl rfl ?_
  intro a hS
  have hH := Hp.start w0 (Nobody)
  obtain ⟨r0, r1, r2, r3, r4, r5, r6, r7, r8, r9, ra, rb, rc, rd, re, rf, rfl⟩ := len16 hrnd
  obtain ⟨s0, s1, s2, s3, s4, s5, s6, s7, s8, s9, sa, sb, sc, sd, se, sf, rfl⟩ := len16 hshr
  obtain ⟨n0, n1, n2, n3, n4, n5, n6, n7, n8, n9, na, nb, nc, nd, ne, nf, rfl⟩ := len16 hbnd
  obtain ⟨m0, m1, m2, m3, m4, m5, m6, m7, m8, m9, ma, mb, mc, md, me, mf, rfl⟩ := len16 hmrk
  obtain ⟨M, hMe⟩ : ∃ M, M = msgB kd (bodyB kd [r0, r1, r2, r3, r4, r5, r6, r7, r8, r9, ra, rb, rc, rd, re, rf] [s0, s1, s2, s3, s4, s5, s6, s7, s8, s9, sa, sb, sc, sd, se, sf] name ptl prm tck [n0, n1, n2, n3, n4, n5, n6, n7, n8, n9, na, nb, nc, nd, ne, nf] ea ag [m0, m1, m2, m3, m4, m5, m6, m7, m8, m9, ma, mb, mc, md, me, mf] li) := ⟨_, rfl⟩
  have hml : M.length ≤ 200000 := by rw [hMe, msgB_len]; have := bodyB_len (ag := ag) hmay (show ([r0, r1, r2, r3, r4, r5, r6, r7, r8, r9, ra, rb, rc, rd, re, rf] : List UInt8).length = 16 from rfl) (show ([s0, s1, s2, s3, s4, s5, s6, s7, s8, s9, sa, sb, sc, sd, se, sf] : List UInt8).length = 16 from rfl) rfl (show ([m0, m1, m2, m3, m4, m5, m6, m7, m8, m9, ma, mb, mc, md, me, mf] : List UInt8).length = 16 from rfl); omega
  refine c_seq ?_
  refine reg_plain w0 (Nobody) ?_
  refine r_box hS hH (by repeat (first | exact Sub.nil | refine Sub.cons ?_ ?_ | exact In.here | refine In.there ?_)) rfl rfl rfl ?_
  clear hS hH; intro a w b1 hb1 hwb1 hS hH
  refine r_assign hS hH.kp0 rfl rfl ?_; clear hS; intro a hS
  refine Sq.nil ?_
  refine then_n ?_
  refine c_seq ?_
  refine reg_plain w0 (Nobody) ?_
  refine r_load_row hS hH (by repeat (first | exact Sub.nil | refine Sub.cons ?_ ?_ | exact In.here | refine In.there ?_)) rfl (by repeat (first | exact In.here | refine In.there ?_)) Fc.ag27 (by rfl) rfl ?_; clear hS; intro a hS
  refine r_call (l := [.tmp 15]) hS rfl rfl Fc.fn4 rfl ?_
  refine Calls.mono (Put_ok kd q1 q2 q3 c1 c2 c3 _ _ _ _ name ptl prm tck ea ag li hrnd hshr hbnd hmrk hkn hmay _ hpl (hpt.ext hH.mod) (hbP.go hH.mod (fun _ h => h.elim)) (hbT.go hH.mod (fun _ h => h.elim))) ?_
  rintro e w1 ⟨bx, cx, kx, rfl, hrx, hkx, hBx, hE⟩
  rw [← hMe] at hBx ⊢
  have hwx := Nat.le_trans hH.mod.size hrx
  replace hH := hH.knowN hE hrx hkx
  refine ⟨_, rfl, hH.kp0, ?_⟩
  clear hS; intro a hS
  refine r_move hS hH.kp0 rfl rfl ?_; clear hS; intro a hS
  refine r_extract hS hH.kp0 rfl rfl rfl ?_; clear hS; intro a hS
  refine r_extract hS hH.kp0 rfl rfl rfl ?_; clear hS; intro a hS
  refine r_assign hS hH.kp0 rfl rfl ?_; clear hS; intro a hS
  refine r_assign hS hH.kp0 rfl rfl ?_; clear hS; intro a hS
  refine Sq.nil ?_
  refine then_n ?_
  refine c_seq ?_
  refine reg_plain w0 (Nobody) ?_
  refine r_load_row hS hH (by repeat (first | exact Sub.nil | refine Sub.cons ?_ ?_ | exact In.here | refine In.there ?_)) rfl (by repeat (first | exact In.here | refine In.there ?_)) Fc.ag27 (by rfl) rfl ?_; clear hS; intro a hS
  refine r_call (l := [.tmp 20]) hS rfl rfl Fc.fn5 rfl ?_
  refine Calls.mono (Bare_no kd q1 q2 q3 c1 c2 c3 _ _ _ _ name ptl prm tck ea ag li hrnd hshr hbnd hmrk hno _ hpl (hpt.ext hH.mod) (hbP.go hH.mod (fun _ h => h.elim)) (hbT.go hH.mod (fun _ h => h.elim))) ?_
  rintro e w1 ⟨rfl, hE⟩
  replace hH := hH.ext hE
  refine ⟨_, rfl, hH.kp0, ?_⟩
  clear hS; intro a hS
  refine r_move hS hH.kp0 rfl rfl ?_; clear hS; intro a hS
  refine r_extract hS hH.kp0 rfl rfl rfl ?_; clear hS; intro a hS
  refine r_extract hS hH.kp0 rfl rfl rfl ?_; clear hS; intro a hS
  refine r_assign hS hH.kp0 rfl rfl ?_; clear hS; intro a hS
  refine r_assign hS hH.kp0 rfl rfl ?_; clear hS; intro a hS
  refine Sq.nil ?_
  refine then_n ?_
  refine c_seq ?_
  refine reg_plain w0 (Nobody) ?_
  refine r_load_row hS hH (by repeat (first | exact Sub.nil | refine Sub.cons ?_ ?_ | exact In.here | refine In.there ?_)) rfl (by repeat (first | exact In.here | refine In.there ?_)) Fc.ag27 (by rfl) rfl ?_; clear hS; intro a hS
  refine r_call (l := [.tmp 25]) hS rfl rfl Fc.fn7 rfl ?_
  refine Calls.mono (Refs_c kd q1 q2 q3 c1 c2 c3 _ _ _ _ name ptl prm tck ea ag li hrnd hshr hbnd hmrk _) ?_
  rintro e w1 ⟨rfl, hE⟩
  replace hH := hH.ext hE
  refine ⟨_, rfl, hH.kp0, ?_⟩
  clear hS; intro a hS
  refine r_call (l := [.tmp 26]) hS rfl rfl Fc.fn6 rfl ?_
  refine Calls.mono (dPut_ok kd q1 q2 q3 c1 c2 c3 _ _ _ _ name ptl prm tck ea ag li hrnd hshr hbnd hmrk hkn hmay _ hpl (hpt.ext hH.mod) (hbP.go hH.mod (fun _ h => h.elim)) (hbT.go hH.mod (fun _ h => h.elim))) ?_
  rintro e w1 ⟨bq, cq, kq, rfl, hrq, hkq, hBq, hE⟩
  rw [← hMe] at hBq ⊢
  have hwq := Nat.le_trans hH.mod.size hrq
  replace hH := hH.knowN hE hrq hkq
  refine ⟨_, rfl, hH.kp0, ?_⟩
  clear hS; intro a hS
  refine r_move hS hH.kp0 rfl rfl ?_; clear hS; intro a hS
  refine r_extract hS hH.kp0 rfl rfl rfl ?_; clear hS; intro a hS
  refine r_extract hS hH.kp0 rfl rfl rfl ?_; clear hS; intro a hS
  refine r_assign hS hH.kp0 rfl rfl ?_; clear hS; intro a hS
  refine r_assign hS hH.kp0 rfl rfl ?_; clear hS; intro a hS
  refine Sq.nil ?_
  refine then_n ?_
  refine c_seq ?_
  refine reg_plain w0 (Nobody) ?_
  refine r_load_row hS hH (by repeat (first | exact Sub.nil | refine Sub.cons ?_ ?_ | exact In.here | refine In.there ?_)) rfl (by repeat (first | exact In.here | refine In.there ?_)) Fc.ag27 (by rfl) rfl ?_; clear hS; intro a hS
  refine r_call (l := [.tmp 31]) hS rfl rfl Fc.fn7 rfl ?_
  refine Calls.mono (Refs_c kd q1 q2 q3 c1 c2 c3 _ _ _ _ name ptl prm tck ea ag li hrnd hshr hbnd hmrk _) ?_
  rintro e w1 ⟨rfl, hE⟩
  replace hH := hH.ext hE
  refine ⟨_, rfl, hH.kp0, ?_⟩
  clear hS; intro a hS
  refine r_call (l := [.tmp 32]) hS rfl rfl Fc.fn8 rfl ?_
  refine Calls.mono (dBare_no kd q1 q2 q3 c1 c2 c3 _ _ _ _ name ptl prm tck ea ag li hrnd hshr hbnd hmrk hno _ hpl (hpt.ext hH.mod) (hbP.go hH.mod (fun _ h => h.elim)) (hbT.go hH.mod (fun _ h => h.elim))) ?_
  rintro e w1 ⟨rfl, hE⟩
  replace hH := hH.ext hE
  refine ⟨_, rfl, hH.kp0, ?_⟩
  clear hS; intro a hS
  refine r_move hS hH.kp0 rfl rfl ?_; clear hS; intro a hS
  refine r_extract hS hH.kp0 rfl rfl rfl ?_; clear hS; intro a hS
  refine r_extract hS hH.kp0 rfl rfl rfl ?_; clear hS; intro a hS
  refine r_assign hS hH.kp0 rfl rfl ?_; clear hS; intro a hS
  refine r_assign hS hH.kp0 rfl rfl ?_; clear hS; intro a hS
  refine Sq.nil ?_
  refine then_n ?_
  refine c_seq ?_
  refine c_seq ?_
  refine reg_plain w0 (Nobody) ?_
  refine r_move hS hH.kp0 rfl rfl ?_; clear hS; intro a hS
  refine r_bytesStr hS hH.kp0 rfl (hBx.bs (hH.get (b := bx) (by repeat (first | exact In.here | refine In.there ?_)))) Fc.u8s25 Fc.isStr9 rfl ?_; clear hS; intro a hS
  refine r_move hS hH.kp0 rfl rfl ?_; clear hS; intro a hS
  refine r_bytesStr hS hH.kp0 rfl (hBq.bs (hH.get (b := bq) (by repeat (first | exact In.here | refine In.there ?_)))) Fc.u8s25 Fc.isStr9 rfl ?_; clear hS; intro a hS
  refine r_strNeq hS hH.kp0 rfl rfl rfl ?_; clear hS; intro a hS
  refine r_move hS hH.kp0 rfl rfl ?_; clear hS; intro a hS
  refine Sq.guardYes hS rfl rfl (congrArg not (beq_self_eq_true _)) ?_; refine r_move hS hH.kp0 rfl rfl ?_; clear hS; intro a hS
  refine Sq.guardYes hS rfl rfl (congrArg not (beq_self_eq_true _)) ?_; refine r_move hS hH.kp0 rfl rfl ?_; clear hS; intro a hS
  refine Sq.guardYes hS rfl rfl (congrArg not (beq_self_eq_true _)) ?_; refine r_neq hS hH.kp0 rfl rfl rfl ?_; clear hS; intro a hS
  refine r_pickF hS hH.kp0 rfl (congrArg not (beq_self_eq_true _)) rfl rfl ?_; clear hS; intro a hS
  refine r_move hS hH.kp0 rfl rfl ?_; clear hS; intro a hS
  refine Sq.guardYes hS rfl rfl rfl ?_; refine r_move hS hH.kp0 rfl rfl ?_; clear hS; intro a hS
  refine Sq.guardYes hS rfl rfl rfl ?_; refine r_bytesStr hS hH.kp0 rfl ((Bs.nil _)) Fc.u8s25 Fc.isStr9 rfl ?_; clear hS; intro a hS
  refine Sq.guardYes hS rfl rfl rfl ?_; refine r_move hS hH.kp0 rfl rfl ?_; clear hS; intro a hS
  refine Sq.guardYes hS rfl rfl rfl ?_; refine r_bytesStr hS hH.kp0 rfl ((Bs.nil _)) Fc.u8s25 Fc.isStr9 rfl ?_; clear hS; intro a hS
  refine Sq.guardYes hS rfl rfl rfl ?_; refine r_strNeq hS hH.kp0 rfl rfl rfl ?_; clear hS; intro a hS
  refine r_pickF hS hH.kp0 rfl rfl rfl rfl ?_; clear hS; intro a hS
  refine r_move hS hH.kp0 rfl rfl ?_; clear hS; intro a hS
  refine Sq.guardYes hS rfl rfl (congrArg not (beq_self_eq_true _)) ?_; refine r_move hS hH.kp0 rfl rfl ?_; clear hS; intro a hS
  refine Sq.guardYes hS rfl rfl (congrArg not (beq_self_eq_true _)) ?_; refine r_move hS hH.kp0 rfl rfl ?_; clear hS; intro a hS
  refine Sq.guardYes hS rfl rfl (congrArg not (beq_self_eq_true _)) ?_; refine r_neq hS hH.kp0 rfl rfl rfl ?_; clear hS; intro a hS
  refine r_pickF hS hH.kp0 rfl (congrArg not (beq_self_eq_true _)) rfl rfl ?_; clear hS; intro a hS
  refine Sq.nil ?_
  refine then_n ?_
  refine c_condF hS rfl rfl ?_
  refine wp_skip ?_
  refine then_n ?_
  refine c_seq ?_
  refine c_seq ?_
  refine reg_plain w0 (Nobody) ?_
  refine r_assign hS hH.kp0 rfl rfl ?_; clear hS; intro a hS
  refine Sq.nil ?_
  refine then_n ?_
  refine wp_block ?_
  refine c_loop (fun m a w => ∃ (j : Nat) (i : Int) (kj : List Value) (u : List UInt8), m + j = M.length ∧ i = j ∧ u.length = M.length ∧ BB cx kj u ∧ St 85 (lv [(1, .pointer (some ⟨b1, 0, none⟩)), (3, .slice (some ⟨bx, 0, none⟩) M.length cx), (7, .slice (some ⟨bq, 0, none⟩) M.length cq), (11, .int .i64 i)]) a ∧ Hp w0 Nobody [(bx, .cells kj.toArray 5 (0, 0)), (bq, .cells kq.toArray 5 (0, 0)), (b1, .cells ([.int .i64 kd] ++ hcells [r0, r1, r2, r3, r4, r5, r6, r7, r8, r9, ra, rb, rc, rd, re, rf] ++ hcells [s0, s1, s2, s3, s4, s5, s6, s7, s8, s9, sa, sb, sc, sd, se, sf] ++ [.string name, .slice q1 ptl.length c1, .slice q2 prm.length c2, .slice q3 tck.length c3] ++ hcells [n0, n1, n2, n3, n4, n5, n6, n7, n8, n9, na, nb, nc, nd, ne, nf] ++ [.bool ea, .bool ag] ++ hcells [m0, m1, m2, m3, m4, m5, m6, m7, m8, m9, ma, mb, mc, md, me, mf] ++ [.int .i64 li] : List Value).toArray 27 (0, 0))] w) (M.length) ?_ ?_
  · exact ⟨0, _, kx, M, by omega, rfl, rfl, hBx, hS.live ⟨rfl, rfl, rfl, rfl, trivial⟩, hH.sub (by repeat (first | exact Sub.nil | refine Sub.cons ?_ ?_ | exact In.here | refine In.there ?_)) (by have nd := hH.nd; simp only [List.map_cons, List.map_nil, List.nodup_cons, List.mem_cons, List.not_mem_nil, or_false, not_or, List.nodup_nil, and_true, not_false_iff] at nd ⊢; omega)⟩
  clear hS hH; intro m a w hI; obtain ⟨j, i, kj, u, hmj, hi, hul, hBj, hS, hH⟩ := hI
  refine c_seq ?_
  refine c_seq ?_
  refine reg_plain w0 (Nobody) ?_
  refine r_move hS hH.kp0 rfl rfl ?_; clear hS; intro a hS
  refine r_move hS hH.kp0 rfl rfl ?_; clear hS; intro a hS
  refine r_lenSl hS hH.kp0 rfl Fc.isSlice25 rfl ?_; clear hS; intro a hS
  refine r_lss hS hH.kp0 rfl rfl rfl ?_; clear hS; intro a hS
  refine Sq.nil ?_
  refine then_n ?_
  refine c_cond hS rfl (fun hc1 => ?_) (fun hc1 => ?_)
  · have hk : j < M.length := by have := of_decide_eq_true hc1; omega
    obtain ⟨y, hy⟩ : ∃ y, u[j]? = some y := ⟨_, List.getElem?_eq_getElem (by omega)⟩
    refine wp_skip ?_
    refine then_n ?_
    refine c_seq ?_
    refine wp_block ?_
    refine reg_plain w0 (Nobody) ?_
    refine r_move hS hH.kp0 rfl rfl ?_; clear hS; intro a hS
    refine r_move hS hH.kp0 rfl rfl ?_; clear hS; intro a hS
    refine r_move hS hH.kp0 rfl rfl ?_; clear hS; intro a hS
    refine r_move hS hH.kp0 rfl rfl ?_; clear hS; intro a hS
    refine r_indexAddrS (j := j) hS hH.kp0 rfl rfl Fc.slb25 hi hk rfl ?_; clear hS; intro a hS
    refine r_load_sc hS hH (by repeat (first | exact Sub.nil | refine Sub.cons ?_ ?_ | exact In.here | refine In.there ?_)) rfl (by repeat (first | exact In.here | refine In.there ?_)) Fc.sc5 (v := byteV y) (by rw [nthV_eq, Nat.zero_add, Nat.mul_one]; exact hBj.at hy) rfl ?_; clear hS; intro a hS
    refine r_addB y 1 hS hH.kp0 rfl rfl rfl ?_; clear hS; intro a hS
    refine r_indexAddrS (j := j) hS hH.kp0 rfl rfl Fc.slb25 hi hk rfl ?_; clear hS; intro a hS
    refine r_store1 hS hH rfl rfl rfl (by repeat (first | exact .here | apply In.there | apply Put.there | apply Del.there)) (by repeat (first | exact Sub.nil | refine Sub.cons ?_ ?_ | exact In.here | refine In.there ?_)) Fc.sz5 (by rw [hBj.len]; have := hBj.le; omega) (.inr hwx) ?_; clear hH; intro w hH
    refine Sq.nil ?_
    refine blk_n ?_
    refine then_n ?_
    refine reg_plain w0 (Nobody) ?_
    refine r_move hS hH.kp0 rfl rfl ?_; clear hS; intro a hS
    (first | refine r_add hS hH.kp0 rfl rfl rfl (by omega) ?_ | refine r_addw hS hH.kp0 rfl rfl rfl ?_)
    clear hS; intro a hS
    refine r_assign hS hH.kp0 rfl rfl ?_; clear hS; intro a hS
    refine Sq.nil ?_
    refine then_n ?_
    refine ⟨m - 1, by omega, j + 1, _, _, u.set j (y + 1), by omega, ?_, by rw [List.length_set]; exact hul, hBj.setAt (by omega), hS.live ⟨rfl, rfl, rfl, rfl, trivial⟩, hH⟩
    omega
  · refine wp_exit ?_
    refine then_e ?_
    refine then_e ?_
    refine blk_hit ?_
    refine then_n ?_
    refine c_seq ?_
    refine reg_plain w0 (Nobody) ?_
    refine r_load_row hS hH (by repeat (first | exact Sub.nil | refine Sub.cons ?_ ?_ | exact In.here | refine In.there ?_)) rfl (by repeat (first | exact In.here | refine In.there ?_)) Fc.ag27 (by rfl) rfl ?_; clear hS; intro a hS
    refine r_call (l := [.tmp 73]) hS rfl rfl Fc.fn4 rfl ?_
    refine Calls.mono (Put_ok kd q1 q2 q3 c1 c2 c3 _ _ _ _ name ptl prm tck ea ag li hrnd hshr hbnd hmrk hkn hmay _ hpl (hpt.ext hH.mod) (hbP.go hH.mod (fun _ h => h.elim)) (hbT.go hH.mod (fun _ h => h.elim))) ?_
    rintro e w1 ⟨bz, cz, kz, rfl, hrz, hkz, hBz, hE⟩
    rw [← hMe] at hBz ⊢
    have hwz := Nat.le_trans hH.mod.size hrz
    replace hH := hH.knowN hE hrz hkz
    refine ⟨_, rfl, hH.kp0, ?_⟩
    clear hS; intro a hS
    refine r_move hS hH.kp0 rfl rfl ?_; clear hS; intro a hS
    refine r_extract hS hH.kp0 rfl rfl rfl ?_; clear hS; intro a hS
    refine r_extract hS hH.kp0 rfl rfl rfl ?_; clear hS; intro a hS
    refine r_assign hS hH.kp0 rfl rfl ?_; clear hS; intro a hS
    refine r_assign hS hH.kp0 rfl rfl ?_; clear hS; intro a hS
    refine Sq.nil ?_
    refine then_n ?_
    refine c_seq ?_
    refine reg_plain w0 (Nobody) ?_
    refine r_move hS hH.kp0 rfl rfl ?_; clear hS; intro a hS
    refine r_bytesStr hS hH.kp0 rfl (hBz.bs (hH.get (b := bz) (by repeat (first | exact In.here | refine In.there ?_)))) Fc.u8s25 Fc.isStr9 rfl ?_; clear hS; intro a hS
    refine r_move hS hH.kp0 rfl rfl ?_; clear hS; intro a hS
    refine r_bytesStr hS hH.kp0 rfl (hBq.bs (hH.get (b := bq) (by repeat (first | exact In.here | refine In.there ?_)))) Fc.u8s25 Fc.isStr9 rfl ?_; clear hS; intro a hS
    refine r_strEql hS hH.kp0 rfl rfl rfl ?_; clear hS; intro a hS
    refine r_move hS hH.kp0 rfl rfl ?_; clear hS; intro a hS
    refine Sq.guardYes hS rfl rfl (beq_self_eq_true _) ?_; refine r_call (l := []) hS rfl rfl Fc.fn9 rfl ?_; refine Calls.mono (names_c _) ?_; rintro e w1 ⟨rfl, hE⟩; replace hH := hH.ext hE; refine ⟨_, rfl, hH.kp0, ?_⟩; clear hS; intro a hS
    refine r_pickT hS hH.kp0 rfl (beq_self_eq_true _) rfl rfl ?_; clear hS; intro a hS
    refine r_assign hS hH.kp0 rfl rfl ?_; clear hS; intro a hS
    refine Sq.nil ?_
    refine then_n ?_
    refine wp_ret ?_
    exact leave (.inl rfl) hS rfl (Res.tmp rfl Res.nil) ⟨rfl, hH.mod⟩


theorem puts_law (kd : Int) (q1 q2 q3 : Option Addr) (c1 c2 c3 : Nat) (rnd shr bnd mrk : List UInt8) (name : ByteArray) (ptl : List ByteArray) (prm tck : List UInt8) (ea ag : Bool) (li : Int) (hrnd : rnd.length = 16) (hshr : shr.length = 16) (hbnd : bnd.length = 16) (hmrk : mrk.length = 16) (w0 : World) (hpl : ptl.length ≤ 1048576) (hpt : SsA w0 q1 c1 ptl) (hbP : BsF Nobody w0 (.slice q2 prm.length c2) prm) (hbT : BsF Nobody w0 (.slice q3 tck.length c3) tck) : Calls Try.prog 3 #[.agg ([.int .i64 kd] ++ hcells rnd ++ hcells shr ++ [.string name, .slice q1 ptl.length c1, .slice q2 prm.length c2, .slice q3 tck.length c3] ++ hcells bnd ++ [.bool ea, .bool ag] ++ hcells mrk ++ [.int .i64 li] : List Value).toArray] w0 fun e w' => e = .returned (.bool true) ∧ Ext w0 w' := by
  by_cases hkn : kd = 1 ∨ kd = 2 ∨ kd = 4 ∨ kd = 8 ∨ kd = 11 ∨ kd = 15 ∨ kd = 20
  · by_cases hmay : mayM kd name.size ptl.length prm.length tck.length (bzN ea bnd) (oddN ptl) li
    · by_cases hy : kd = 1 ∧ tck.length ≠ 0
      · exact law_ok1 kd q1 q2 q3 c1 c2 c3 _ _ _ _ name ptl prm tck ea ag li hrnd hshr hbnd hmrk hkn hmay hy (by rw [msgB_len, hy.1]; unfold bodyB; rw [if_pos rfl]; simp only [List.length_append, hrnd, hshr]; omega) _ hpl hpt hbP hbT
      · exact law_ok2 kd q1 q2 q3 c1 c2 c3 _ _ _ _ name ptl prm tck ea ag li hrnd hshr hbnd hmrk hkn hmay (by omega) _ hpl hpt hbP hbT
    · exact law_err kd q1 q2 q3 c1 c2 c3 _ _ _ _ name ptl prm tck ea ag li hrnd hshr hbnd hmrk 2 (.inr ⟨hkn, hmay, rfl⟩) _ hpl hpt hbP hbT
  · exact law_err kd q1 q2 q3 c1 c2 c3 _ _ _ _ name ptl prm tck ea ag li hrnd hshr hbnd hmrk 12 (.inl ⟨hkn, rfl⟩) _ hpl hpt hbP hbT

end Go.Proofs.Ytcenionnedgadaa
