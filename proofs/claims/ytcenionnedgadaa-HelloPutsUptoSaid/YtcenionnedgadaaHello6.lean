/- For every input of bulk at most 1048576 the law HelloPuts returns true and the input reads as it did. Part Hello6: walks and lemmas of the proof. -/
import Derived.Test.YtcenionnedgadaaHello3
import Derived.Test.YtcenionnedgadaaSymMsg2
namespace Go.Proofs.Ytcenionnedgadaa
open Go.Sym

theorem Fc.fn10 : isFn Try.prog 10 = true := by kernel_rfl
theorem Fc.fn11 : isFn Try.prog 11 = true := by kernel_rfl
theorem Fc.fn12 : isFn Try.prog 12 = true := by kernel_rfl
theorem Fc.fn4 : isFn Try.prog 4 = true := by kernel_rfl
theorem Fc.pl42 : placesB Try.prog 42 = some [(0, 1)] := by kernel_rfl
theorem Fc.zc42 : zcB Try.prog 42 = some [.slice none 0 0] := by kernel_rfl
set_option maxRecDepth 100000 in
set_option maxHeartbeats 2000000 in
theorem Put_no (kd : Int) (q1 q2 q3 : Option Addr) (c1 c2 c3 : Nat) (rnd shr bnd mrk : List UInt8) (name : ByteArray) (ptl : List ByteArray) (prm tck : List UInt8) (ea ag : Bool) (li : Int) (hrnd : rnd.length = 16) (hshr : shr.length = 16) (hbnd : bnd.length = 16) (hmrk : mrk.length = 16) (hkn : ¬ (kd = 1 ∨ kd = 2 ∨ kd = 4 ∨ kd = 8 ∨ kd = 11 ∨ kd = 15 ∨ kd = 20)) (w0 : World) (hpl : ptl.length ≤ 1048576) (hpt : SsA w0 q1 c1 ptl) (hbP : BsF Nobody w0 (.slice q2 prm.length c2) prm) (hbT : BsF Nobody w0 (.slice q3 tck.length c3) tck) : Calls Try.prog 4 #[.agg ([.int .i64 kd] ++ hcells rnd ++ hcells shr ++ [.string name, .slice q1 ptl.length c1, .slice q2 prm.length c2, .slice q3 tck.length c3] ++ hcells bnd ++ [.bool ea, .bool ag] ++ hcells mrk ++ [.int .i64 li] : List Value).toArray] w0 fun e w' => e = .returned (.tuple #[.slice none 0 0, .int .i64 12]) ∧ Ext w0 w' := by
  refine enter Try.func4 rfl rfl rfl ?_
  intro a hS
  have hH := Hp.start w0 (Nobody)
  obtain ⟨r0, r1, r2, r3, r4, r5, r6, r7, r8, r9, ra, rb, rc, rd, re, rf, rfl⟩ := len16 hrnd
  obtain ⟨s0, s1, s2, s3, s4, s5, s6, s7, s8, s9, sa, sb, sc, sd, se, sf, rfl⟩ := len16 hshr
  obtain ⟨n0, n1, n2, n3, n4, n5, n6, n7, n8, n9, na, nb, nc, nd, ne, nf, rfl⟩ := len16 hbnd
  obtain ⟨m0, m1, m2, m3, m4, m5, m6, m7, m8, m9, ma, mb, mc, md, me, mf, rfl⟩ := len16 hmrk
  refine c_seq ?_
  refine reg_plain w0 (Nobody) ?_
  refine r_box hS hH (by repeat (first | exact Sub.nil | refine Sub.cons ?_ ?_ | exact In.here | refine In.there ?_)) rfl rfl rfl ?_
  clear hS hH; intro a w b1 hb1 hwb1 hS hH
  refine r_assign hS hH.kp0 rfl rfl ?_; clear hS; intro a hS
  refine r_assign hS hH.kp0 rfl rfl ?_; clear hS; intro a hS
  refine Sq.nil ?_
  refine then_n ?_
  refine c_seq ?_
  refine wp_block ?_
  refine c_seq ?_
  refine reg_draw [(true, 1, []), (true, 2, []), (false, 0, []), (false, 3, []), (true, 4, []), (true, 5, [])] Fc.mixed (by kernel_rfl) (by kernel_rfl) (by kernel_rfl) (by kernel_rfl) (by kernel_rfl) (by repeat (first | with_reducible exact steady_body | with_reducible apply steady_block | with_reducible apply steady_then | with_reducible apply steady_scope | exact steady_body)) hH ?_
  replace hH := hH.drew
  refine r_fieldAddr hS trivial rfl Fc.fo27_0 rfl ?_; clear hS; intro a hS
  refine r_load_scS hS rfl (by repeat (first | exact In.here | refine In.there ?_)) Fc.sc3 (by rfl) rfl ?_; clear hS; intro a hS
  refine r_call (l := []) hS rfl rfl Fc.fn10 rfl ?_
  refine Calls.mono (kinds_c _) ?_
  rintro e w1 ⟨bm, rfl, hbm, hkm, hE⟩
  replace hH := hH.knowN hE hbm hkm
  refine ⟨_, rfl, hH.kp (by repeat (first | exact Sub.nil | refine Sub.cons ?_ ?_ | exact In.here | refine In.there ?_)), ?_⟩
  clear hS; intro a hS
  refine r_kindAt kindL Fc.kmap hS hH (by repeat (first | exact Sub.nil | refine Sub.cons ?_ ?_ | exact In.here | refine In.there ?_)) rfl rfl (by repeat (first | exact .here | apply In.there | apply Put.there | apply Del.there)) rfl ?_; clear hS; intro a hS
  refine r_not hS trivial rfl rfl ?_; clear hS; intro a hS
  refine r_assign hS trivial rfl rfl ?_; clear hS; intro a hS
  refine Sq.nil ?_
  refine then_n ?_
  refine c_condT hS rfl (by rw [DF (fun h => hkn ((kindL_mem _).1 h))]; rfl) ?_
  refine c_seq ?_
  refine reg_plain w0 (Nobody) ?_
  refine r_assign hS hH.kp0 rfl rfl ?_; clear hS; intro a hS
  refine r_assign hS hH.kp0 rfl rfl ?_; clear hS; intro a hS
  refine Sq.nil ?_
  refine then_n ?_
  refine wp_ret ?_
  refine blk_r ?_
  refine then_r ?_
  exact leave (.inl rfl) hS rfl (Res.tmp rfl (Res.tmp rfl Res.nil)) ⟨rfl, hH.mod⟩

set_option maxRecDepth 100000 in
set_option maxHeartbeats 2000000 in
theorem Put_bad (kd : Int) (q1 q2 q3 : Option Addr) (c1 c2 c3 : Nat) (rnd shr bnd mrk : List UInt8) (name : ByteArray) (ptl : List ByteArray) (prm tck : List UInt8) (ea ag : Bool) (li : Int) (hrnd : rnd.length = 16) (hshr : shr.length = 16) (hbnd : bnd.length = 16) (hmrk : mrk.length = 16) (hkn : kd = 1 ∨ kd = 2 ∨ kd = 4 ∨ kd = 8 ∨ kd = 11 ∨ kd = 15 ∨ kd = 20) (hmay : ¬ (mayM kd name.size ptl.length prm.length tck.length (bzN ea bnd) (oddN ptl) li)) (w0 : World) (hpl : ptl.length ≤ 1048576) (hpt : SsA w0 q1 c1 ptl) (hbP : BsF Nobody w0 (.slice q2 prm.length c2) prm) (hbT : BsF Nobody w0 (.slice q3 tck.length c3) tck) : Calls Try.prog 4 #[.agg ([.int .i64 kd] ++ hcells rnd ++ hcells shr ++ [.string name, .slice q1 ptl.length c1, .slice q2 prm.length c2, .slice q3 tck.length c3] ++ hcells bnd ++ [.bool ea, .bool ag] ++ hcells mrk ++ [.int .i64 li] : List Value).toArray] w0 fun e w' => e = .returned (.tuple #[.slice none 0 0, .int .i64 2]) ∧ Ext w0 w' := by
  refine enter Try.func4 rfl rfl rfl ?_
  intro a hS
  have hH := Hp.start w0 (Nobody)
  obtain ⟨r0, r1, r2, r3, r4, r5, r6, r7, r8, r9, ra, rb, rc, rd, re, rf, rfl⟩ := len16 hrnd
  obtain ⟨s0, s1, s2, s3, s4, s5, s6, s7, s8, s9, sa, sb, sc, sd, se, sf, rfl⟩ := len16 hshr
  obtain ⟨n0, n1, n2, n3, n4, n5, n6, n7, n8, n9, na, nb, nc, nd, ne, nf, rfl⟩ := len16 hbnd
  obtain ⟨m0, m1, m2, m3, m4, m5, m6, m7, m8, m9, ma, mb, mc, md, me, mf, rfl⟩ := len16 hmrk
  refine c_seq ?_
  refine reg_plain w0 (Nobody) ?_
  refine r_box hS hH (by repeat (first | exact Sub.nil | refine Sub.cons ?_ ?_ | exact In.here | refine In.there ?_)) rfl rfl rfl ?_
  clear hS hH; intro a w b1 hb1 hwb1 hS hH
  refine r_assign hS hH.kp0 rfl rfl ?_; clear hS; intro a hS
  refine r_assign hS hH.kp0 rfl rfl ?_; clear hS; intro a hS
  refine Sq.nil ?_
  refine then_n ?_
  refine c_seq ?_
  refine wp_block ?_
  refine c_seq ?_
  refine reg_draw [(true, 1, []), (true, 2, []), (false, 0, []), (false, 3, []), (true, 4, []), (true, 5, [])] Fc.mixed (by kernel_rfl) (by kernel_rfl) (by kernel_rfl) (by kernel_rfl) (by kernel_rfl) (by repeat (first | with_reducible exact steady_body | with_reducible apply steady_block | with_reducible apply steady_then | with_reducible apply steady_scope | exact steady_body)) hH ?_
  replace hH := hH.drew
  refine r_fieldAddr hS trivial rfl Fc.fo27_0 rfl ?_; clear hS; intro a hS
  refine r_load_scS hS rfl (by repeat (first | exact In.here | refine In.there ?_)) Fc.sc3 (by rfl) rfl ?_; clear hS; intro a hS
  refine r_call (l := []) hS rfl rfl Fc.fn10 rfl ?_
  refine Calls.mono (kinds_c _) ?_
  rintro e w1 ⟨bm, rfl, hbm, hkm, hE⟩
  replace hH := hH.knowN hE hbm hkm
  refine ⟨_, rfl, hH.kp (by repeat (first | exact Sub.nil | refine Sub.cons ?_ ?_ | exact In.here | refine In.there ?_)), ?_⟩
  clear hS; intro a hS
  refine r_kindAt kindL Fc.kmap hS hH (by repeat (first | exact Sub.nil | refine Sub.cons ?_ ?_ | exact In.here | refine In.there ?_)) rfl rfl (by repeat (first | exact .here | apply In.there | apply Put.there | apply Del.there)) rfl ?_; clear hS; intro a hS
  refine r_not hS trivial rfl rfl ?_; clear hS; intro a hS
  refine r_assign hS trivial rfl rfl ?_; clear hS; intro a hS
  refine Sq.nil ?_
  refine then_n ?_
  refine c_condF hS rfl (by rw [DT ((kindL_mem _).2 hkn)]; rfl) ?_
  refine c_seq ?_
  refine reg_plain w0 (Nobody) ?_
  refine r_load_row hS hH (by repeat (first | exact Sub.nil | refine Sub.cons ?_ ?_ | exact In.here | refine In.there ?_)) rfl (by repeat (first | exact In.here | refine In.there ?_)) Fc.ag27 (by rfl) rfl ?_; clear hS; intro a hS
  refine r_call (l := [.tmp 13]) hS rfl rfl Fc.fn11 rfl ?_
  refine Calls.mono (right_c kd q1 q2 q3 c1 c2 c3 _ _ _ _ name ptl prm tck ea ag li hrnd hshr hbnd hmrk _ hpl (hpt.ext hH.mod)) ?_
  rintro e w1 ⟨rfl, hE⟩
  replace hH := hH.ext hE
  refine ⟨_, rfl, hH.kp0, ?_⟩
  clear hS; intro a hS
  refine r_not hS hH.kp0 rfl rfl ?_; clear hS; intro a hS
  refine r_assign hS hH.kp0 rfl rfl ?_; clear hS; intro a hS
  refine Sq.nil ?_
  refine then_n ?_
  refine c_condT hS rfl (by rw [DF hmay]; rfl) ?_
  refine c_seq ?_
  refine reg_plain w0 (Nobody) ?_
  refine r_assign hS hH.kp0 rfl rfl ?_; clear hS; intro a hS
  refine r_assign hS hH.kp0 rfl rfl ?_; clear hS; intro a hS
  refine Sq.nil ?_
  refine then_n ?_
  refine wp_ret ?_
  refine blk_r ?_
  refine then_r ?_
  exact leave (.inl rfl) hS rfl (Res.tmp rfl (Res.tmp rfl Res.nil)) ⟨rfl, hH.mod⟩

set_option maxRecDepth 100000 in
set_option maxHeartbeats 4000000 in
theorem Put_ok (kd : Int) (q1 q2 q3 : Option Addr) (c1 c2 c3 : Nat) (rnd shr bnd mrk : List UInt8) (name : ByteArray) (ptl : List ByteArray) (prm tck : List UInt8) (ea ag : Bool) (li : Int) (hrnd : rnd.length = 16) (hshr : shr.length = 16) (hbnd : bnd.length = 16) (hmrk : mrk.length = 16) (hkn : kd = 1 ∨ kd = 2 ∨ kd = 4 ∨ kd = 8 ∨ kd = 11 ∨ kd = 15 ∨ kd = 20) (hmay : mayM kd name.size ptl.length prm.length tck.length (bzN ea bnd) (oddN ptl) li) (w0 : World) (hpl : ptl.length ≤ 1048576) (hpt : SsA w0 q1 c1 ptl) (hbP : BsF Nobody w0 (.slice q2 prm.length c2) prm) (hbT : BsF Nobody w0 (.slice q3 tck.length c3) tck) : Calls Try.prog 4 #[.agg ([.int .i64 kd] ++ hcells rnd ++ hcells shr ++ [.string name, .slice q1 ptl.length c1, .slice q2 prm.length c2, .slice q3 tck.length c3] ++ hcells bnd ++ [.bool ea, .bool ag] ++ hcells mrk ++ [.int .i64 li] : List Value).toArray] w0 fun e w' => ∃ (b' c' : Nat) (k' : List Value), e = .returned (.tuple #[.slice (some ⟨b', 0, none⟩) ((msgB kd (bodyB kd rnd shr name ptl prm tck bnd ea ag mrk li)).length) c', .int .i64 0]) ∧ w0.heap.size ≤ b' ∧ w'.heap[b']? = some (.cells k'.toArray 5 (0, 0)) ∧ BB c' k' (msgB kd (bodyB kd rnd shr name ptl prm tck bnd ea ag mrk li)) ∧ Ext w0 w' := by
  refine enter Try.func4 rfl rfl rfl ?_
  intro a hS
  have hH := Hp.start w0 (Nobody)
  obtain ⟨kn, hkne⟩ : ∃ kn : Nat, kd = (kn : Int) := ⟨kd.toNat, by omega⟩
  subst hkne
  obtain ⟨r0, r1, r2, r3, r4, r5, r6, r7, r8, r9, ra, rb, rc, rd, re, rf, rfl⟩ := len16 hrnd
  obtain ⟨s0, s1, s2, s3, s4, s5, s6, s7, s8, s9, sa, sb, sc, sd, se, sf, rfl⟩ := len16 hshr
  obtain ⟨n0, n1, n2, n3, n4, n5, n6, n7, n8, n9, na, nb, nc, nd, ne, nf, rfl⟩ := len16 hbnd
  obtain ⟨m0, m1, m2, m3, m4, m5, m6, m7, m8, m9, ma, mb, mc, md, me, mf, rfl⟩ := len16 hmrk
  refine c_seq ?_
  refine reg_plain w0 (Nobody) ?_
  refine r_box hS hH (by repeat (first | exact Sub.nil | refine Sub.cons ?_ ?_ | exact In.here | refine In.there ?_)) rfl rfl rfl ?_
  clear hS hH; intro a w b1 hb1 hwb1 hS hH
  refine r_assign hS hH.kp0 rfl rfl ?_; clear hS; intro a hS
  refine r_assign hS hH.kp0 rfl rfl ?_; clear hS; intro a hS
  refine Sq.nil ?_
  refine then_n ?_
  refine c_seq ?_
  refine wp_block ?_
  refine c_seq ?_
  refine reg_draw [(true, 1, []), (true, 2, []), (false, 0, []), (false, 3, []), (true, 4, []), (true, 5, [])] Fc.mixed (by kernel_rfl) (by kernel_rfl) (by kernel_rfl) (by kernel_rfl) (by kernel_rfl) (by repeat (first | with_reducible exact steady_body | with_reducible apply steady_block | with_reducible apply steady_then | with_reducible apply steady_scope | exact steady_body)) hH ?_
  replace hH := hH.drew
  refine r_fieldAddr hS trivial rfl Fc.fo27_0 rfl ?_; clear hS; intro a hS
  refine r_load_scS hS rfl (by repeat (first | exact In.here | refine In.there ?_)) Fc.sc3 (by rfl) rfl ?_; clear hS; intro a hS
  refine r_call (l := []) hS rfl rfl Fc.fn10 rfl ?_
  refine Calls.mono (kinds_c _) ?_
  rintro e w1 ⟨bm, rfl, hbm, hkm, hE⟩
  replace hH := hH.knowN hE hbm hkm
  refine ⟨_, rfl, hH.kp (by repeat (first | exact Sub.nil | refine Sub.cons ?_ ?_ | exact In.here | refine In.there ?_)), ?_⟩
  clear hS; intro a hS
  refine r_kindAt kindL Fc.kmap hS hH (by repeat (first | exact Sub.nil | refine Sub.cons ?_ ?_ | exact In.here | refine In.there ?_)) rfl rfl (by repeat (first | exact .here | apply In.there | apply Put.there | apply Del.there)) rfl ?_; clear hS; intro a hS
  refine r_not hS trivial rfl rfl ?_; clear hS; intro a hS
  refine r_assign hS trivial rfl rfl ?_; clear hS; intro a hS
  refine Sq.nil ?_
  refine then_n ?_
  refine c_condF hS rfl (by rw [DT ((kindL_mem _).2 hkn)]; rfl) ?_
  refine c_seq ?_
  refine reg_plain w0 (Nobody) ?_
  refine r_load_row hS hH (by repeat (first | exact Sub.nil | refine Sub.cons ?_ ?_ | exact In.here | refine In.there ?_)) rfl (by repeat (first | exact In.here | refine In.there ?_)) Fc.ag27 (by rfl) rfl ?_; clear hS; intro a hS
  refine r_call (l := [.tmp 13]) hS rfl rfl Fc.fn11 rfl ?_
  refine Calls.mono (right_c (kn : Int) q1 q2 q3 c1 c2 c3 _ _ _ _ name ptl prm tck ea ag li hrnd hshr hbnd hmrk _ hpl (hpt.ext hH.mod)) ?_
  rintro e w1 ⟨rfl, hE⟩
  replace hH := hH.ext hE
  refine ⟨_, rfl, hH.kp0, ?_⟩
  clear hS; intro a hS
  refine r_not hS hH.kp0 rfl rfl ?_; clear hS; intro a hS
  refine r_assign hS hH.kp0 rfl rfl ?_; clear hS; intro a hS
  refine Sq.nil ?_
  refine then_n ?_
  refine c_condF hS rfl (by rw [DT hmay]; rfl) ?_
  refine wp_skip ?_
  refine blk_n ?_
  refine then_n ?_
  refine c_seq ?_
  refine reg_plain w0 (Nobody) ?_
  refine r_buildS (parts := []) hS hH.kp0 rfl rfl Fc.zc42 Fc.pl42 (by rfl) ?_; clear hS; intro a hS
  refine r_box hS hH (by repeat (first | exact Sub.nil | refine Sub.cons ?_ ?_ | exact In.here | refine In.there ?_)) rfl rfl rfl ?_
  clear hS hH; intro a w bi hbi hwbi hS hH
  refine r_buildS (parts := []) hS hH.kp0 rfl rfl Fc.zc42 Fc.pl42 (by rfl) ?_; clear hS; intro a hS
  refine r_box hS hH (by repeat (first | exact Sub.nil | refine Sub.cons ?_ ?_ | exact In.here | refine In.there ?_)) rfl rfl rfl ?_
  clear hS hH; intro a w bo hbo hwbo hS hH
  refine r_assign hS hH.kp0 rfl rfl ?_; clear hS; intro a hS
  refine r_assign hS hH.kp0 rfl rfl ?_; clear hS; intro a hS
  refine Sq.nil ?_
  refine then_n ?_
  refine c_seq ?_
  refine reg_plain w0 (Nobody) ?_
  refine r_move hS hH.kp0 rfl rfl ?_; clear hS; intro a hS
  refine r_load_row hS hH (by repeat (first | exact Sub.nil | refine Sub.cons ?_ ?_ | exact In.here | refine In.there ?_)) rfl (by repeat (first | exact In.here | refine In.there ?_)) Fc.ag27 (by rfl) rfl ?_; clear hS; intro a hS
  refine r_call (l := [.tmp 20, .tmp 21]) hS rfl rfl Fc.fn12 rfl ?_
  refine Calls.mono (body_c (kn : Int) q1 q2 q3 c1 c2 c3 _ _ _ _ name ptl prm tck ea ag li hrnd hshr hbnd hmrk hkn hmay bi _ (hH.get (b := bi) (by repeat (first | exact In.here | refine In.there ?_))) (fun w' k' => hpt.ext (hH.mod.go k' (fun x hx => .inr (by subst hx; exact hbi)))) (hbP.go hH.mod (fun x hx => .inr (by subst hx; exact hbi))) (hbT.go hH.mod (fun x hx => .inr (by subst hx; exact hbi)))) ?_
  rintro e w1 ⟨bB, cB, kB, rfl, hrB, hpB, hkB, hBB, hmB⟩
  obtain ⟨B, hBe⟩ : ∃ B, B = bodyB (kn : Int) [r0, r1, r2, r3, r4, r5, r6, r7, r8, r9, ra, rb, rc, rd, re, rf] [s0, s1, s2, s3, s4, s5, s6, s7, s8, s9, sa, sb, sc, sd, se, sf] name ptl prm tck [n0, n1, n2, n3, n4, n5, n6, n7, n8, n9, na, nb, nc, nd, ne, nf] ea ag [m0, m1, m2, m3, m4, m5, m6, m7, m8, m9, ma, mb, mc, md, me, mf] li := ⟨_, rfl⟩
  have hBl : B.length ≤ 100000 := by rw [hBe]; exact bodyB_len hmay rfl rfl rfl rfl
  rw [← hBe] at hBB hpB
  replace hH := hH.modPutN hmB hpB (by repeat (first | exact .here | apply In.there | apply Put.there | apply Del.there)) (.inr hbi) hrB hkB
  refine ⟨_, rfl, hH.kp0, ?_⟩
  clear hS; intro a hS
  refine Sq.nil ?_
  refine then_n ?_
  refine c_seq ?_
  refine reg_plain w0 (Nobody) ?_
  refine r_move hS hH.kp0 rfl rfl ?_; clear hS; intro a hS
  refine r_fieldAddr hS hH.kp0 rfl Fc.fo27_0 rfl ?_; clear hS; intro a hS
  refine r_load_sc hS hH (by repeat (first | exact Sub.nil | refine Sub.cons ?_ ?_ | exact In.here | refine In.there ?_)) rfl (by repeat (first | exact In.here | refine In.there ?_)) Fc.sc3 (by rfl) rfl ?_; clear hS; intro a hS
  refine r_call (l := [.tmp 23, .tmp 25, .const (.int .i64 1)]) hS rfl rfl Fc.fn13 rfl ?_
  refine Calls.mono ((number_nil bo kn 1 (by omega) (by decide) (by decide) _ (hH.get (b := bo) (by repeat (first | exact In.here | refine In.there ?_)))).mono (fun e w1 hP => hP)) ?_
  rintro e w1 hP
  obtain ⟨by1, cy1, ky1, rfl, hry1, hpy1, hky1, hBy1, hmy1⟩ := hP
  have hBy1 : BB cy1 ky1 (beB kn 1) := hBy1
  have hpy1 : w1.heap[bo]? = some (.cells [Value.slice (some ⟨by1, 0, none⟩) ((beB kn 1)).length cy1].toArray 42 (0, 0)) := hpy1
  have hny1 : by1 ≠ bo := fun e => by have h9 := lt_of_block (hH.get (b := bo) (by repeat (first | exact .here | apply In.there | apply Put.there | apply Del.there))); omega
  have hwy1 := Nat.le_trans hH.mod.size hry1
  replace hH := hH.modPutN hmy1 hpy1 (by repeat (first | exact .here | apply In.there | apply Put.there | apply Del.there)) (.inr hbo) hry1 hky1
  refine ⟨_, rfl, hH.kp0, ?_⟩
  clear hS; intro a hS
  refine Sq.nil ?_
  refine then_n ?_
  refine c_seq ?_
  refine reg_plain w0 (Nobody) ?_
  refine r_move hS hH.kp0 rfl rfl ?_; clear hS; intro a hS
  refine r_move hS hH.kp0 rfl rfl ?_; clear hS; intro a hS
  refine r_nilCheck hS hH.kp0 rfl rfl ?_; clear hS; intro a hS
  refine r_fieldAddr hS hH.kp0 rfl Fc.fo42_0 rfl ?_; clear hS; intro a hS
  refine r_load_sc hS hH (by repeat (first | exact Sub.nil | refine Sub.cons ?_ ?_ | exact In.here | refine In.there ?_)) rfl (by repeat (first | exact In.here | refine In.there ?_)) Fc.sc25 (by rfl) rfl ?_; clear hS; intro a hS
  refine r_bytesStr hS hH.kp0 rfl (hBB.bs (hH.get (b := bB) (by repeat (first | exact In.here | refine In.there ?_)))) Fc.u8s25 Fc.isStr9 rfl ?_; clear hS; intro a hS
  refine r_call (l := [.tmp 27, .tmp 32, .const (.int .i64 3)]) hS rfl rfl Fc.fn14 rfl ?_
  refine Calls.mono ((text_some bo by1 cy1 ky1 (beB kn 1) (strOf B) 3 (by show B.length ≤ _; omega) (by decide) (by decide) (by rw [beB_len]; omega) _ (hH.get (b := bo) (by repeat (first | exact In.here | refine In.there ?_))) (hH.get (b := by1) (by repeat (first | exact In.here | refine In.there ?_))) hBy1 hny1).mono (fun e w1 hP => hP)) ?_
  rintro e w1 hP
  obtain ⟨by2, cy2, ky2, rfl, hry2, hpy2, hky2, hBy2, hmy2⟩ := hP
  have hBy2 : BB cy2 ky2 (beB kn 1 ++ beB B.length 3 ++ B) := hBy2
  have hpy2 : w1.heap[bo]? = some (.cells [Value.slice (some ⟨by2, 0, none⟩) ((beB kn 1 ++ beB B.length 3 ++ B)).length cy2].toArray 42 (0, 0)) := hpy2
  have hny2 : by2 ≠ bo := fun e => by have h9 := lt_of_block (hH.get (b := bo) (by repeat (first | exact .here | apply In.there | apply Put.there | apply Del.there))); omega
  have hwy2 := Nat.le_trans hH.mod.size hry2
  replace hH := hH.modPutN hmy2 hpy2 (by repeat (first | exact .here | apply In.there | apply Put.there | apply Del.there)) (.inr hbo) hry2 hky2
  refine ⟨_, rfl, hH.kp0, ?_⟩
  clear hS; intro a hS
  refine Sq.nil ?_
  refine then_n ?_
  refine c_seq ?_
  refine reg_plain w0 (Nobody) ?_
  refine r_move hS hH.kp0 rfl rfl ?_; clear hS; intro a hS
  refine r_nilCheck hS hH.kp0 rfl rfl ?_; clear hS; intro a hS
  refine r_fieldAddr hS hH.kp0 rfl Fc.fo42_0 rfl ?_; clear hS; intro a hS
  refine r_load_sc hS hH (by repeat (first | exact Sub.nil | refine Sub.cons ?_ ?_ | exact In.here | refine In.there ?_)) rfl (by repeat (first | exact In.here | refine In.there ?_)) Fc.sc25 (by rfl) rfl ?_; clear hS; intro a hS
  refine r_assign hS hH.kp0 rfl rfl ?_; clear hS; intro a hS
  refine r_assign hS hH.kp0 rfl rfl ?_; clear hS; intro a hS
  refine Sq.nil ?_
  refine then_n ?_
  refine wp_ret ?_
  have hfin : msgB (kn : Int) (bodyB (kn : Int) [r0, r1, r2, r3, r4, r5, r6, r7, r8, r9, ra, rb, rc, rd, re, rf] [s0, s1, s2, s3, s4, s5, s6, s7, s8, s9, sa, sb, sc, sd, se, sf] name ptl prm tck [n0, n1, n2, n3, n4, n5, n6, n7, n8, n9, na, nb, nc, nd, ne, nf] ea ag [m0, m1, m2, m3, m4, m5, m6, m7, m8, m9, ma, mb, mc, md, me, mf] li) = beB kn 1 ++ beB B.length 3 ++ B := by rw [← hBe]; rfl
  rw [← hfin] at hS hH hBy2
  exact leave (.inl rfl) hS rfl (Res.tmp rfl (Res.tmp rfl Res.nil)) ⟨by2, cy2, ky2, rfl, hwy2, hH.get (b := by2) (by repeat (first | exact In.here | refine In.there ?_)), hBy2, hH.mod⟩

set_option maxRecDepth 100000 in
set_option maxHeartbeats 2000000 in
theorem Bare_no (kd : Int) (q1 q2 q3 : Option Addr) (c1 c2 c3 : Nat) (rnd shr bnd mrk : List UInt8) (name : ByteArray) (ptl : List ByteArray) (prm tck : List UInt8) (ea ag : Bool) (li : Int) (hrnd : rnd.length = 16) (hshr : shr.length = 16) (hbnd : bnd.length = 16) (hmrk : mrk.length = 16) (hno : kd ≠ 1 ∨ tck.length = 0) (w0 : World) (hpl : ptl.length ≤ 1048576) (hpt : SsA w0 q1 c1 ptl) (hbP : BsF Nobody w0 (.slice q2 prm.length c2) prm) (hbT : BsF Nobody w0 (.slice q3 tck.length c3) tck) : Calls Try.prog 5 #[.agg ([.int .i64 kd] ++ hcells rnd ++ hcells shr ++ [.string name, .slice q1 ptl.length c1, .slice q2 prm.length c2, .slice q3 tck.length c3] ++ hcells bnd ++ [.bool ea, .bool ag] ++ hcells mrk ++ [.int .i64 li] : List Value).toArray] w0 fun e w' => e = .returned (.tuple #[.slice none 0 0, .int .i64 2]) ∧ Ext w0 w' := by
  refine enter Try.func5 rfl rfl rfl ?_
  intro a hS
  have hH := Hp.start w0 (Nobody)
  obtain ⟨r0, r1, r2, r3, r4, r5, r6, r7, r8, r9, ra, rb, rc, rd, re, rf, rfl⟩ := len16 hrnd
  obtain ⟨s0, s1, s2, s3, s4, s5, s6, s7, s8, s9, sa, sb, sc, sd, se, sf, rfl⟩ := len16 hshr
  obtain ⟨n0, n1, n2, n3, n4, n5, n6, n7, n8, n9, na, nb, nc, nd, ne, nf, rfl⟩ := len16 hbnd
  obtain ⟨m0, m1, m2, m3, m4, m5, m6, m7, m8, m9, ma, mb, mc, md, me, mf, rfl⟩ := len16 hmrk
  refine c_seq ?_
  refine reg_plain w0 (Nobody) ?_
  refine r_box hS hH (by repeat (first | exact Sub.nil | refine Sub.cons ?_ ?_ | exact In.here | refine In.there ?_)) rfl rfl rfl ?_
  clear hS hH; intro a w b1 hb1 hwb1 hS hH
  refine r_assign hS hH.kp0 rfl rfl ?_; clear hS; intro a hS
  refine r_assign hS hH.kp0 rfl rfl ?_; clear hS; intro a hS
  refine Sq.nil ?_
  refine then_n ?_
  refine c_seq ?_
  refine c_seq ?_
  refine reg_plain w0 (Nobody) ?_
  refine r_fieldAddr hS hH.kp0 rfl Fc.fo27_0 rfl ?_; clear hS; intro a hS
  refine r_load_sc hS hH (by repeat (first | exact Sub.nil | refine Sub.cons ?_ ?_ | exact In.here | refine In.there ?_)) rfl (by repeat (first | exact In.here | refine In.there ?_)) Fc.sc3 (by rfl) rfl ?_; clear hS; intro a hS
  rcases (by omega : kd ≠ 1 ∨ (kd = 1 ∧ tck.length = 0)) with hx | ⟨hx, hx2⟩
  · refine r_neq hS hH.kp0 rfl rfl rfl ?_; clear hS; intro a hS
    refine r_move hS hH.kp0 rfl rfl ?_; clear hS; intro a hS
    refine Sq.guardNo hS rfl rfl (bne_iff_ne.2 (by omega)) hH.kp0 rfl ?_; clear hS; intro a hS
    refine Sq.guardNo hS rfl rfl (bne_iff_ne.2 (by omega)) hH.kp0 rfl ?_; clear hS; intro a hS
    refine Sq.guardNo hS rfl rfl (bne_iff_ne.2 (by omega)) hH.kp0 rfl ?_; clear hS; intro a hS
    refine Sq.guardNo hS rfl rfl (bne_iff_ne.2 (by omega)) hH.kp0 rfl ?_; clear hS; intro a hS
    refine r_pickT hS hH.kp0 rfl (bne_iff_ne.2 (by omega)) rfl rfl ?_; clear hS; intro a hS
    refine Sq.nil ?_
    refine then_n ?_
    refine c_condT hS rfl rfl ?_
    refine c_seq ?_
    refine reg_plain w0 (Nobody) ?_
    refine r_assign hS hH.kp0 rfl rfl ?_; clear hS; intro a hS
    refine r_assign hS hH.kp0 rfl rfl ?_; clear hS; intro a hS
    refine Sq.nil ?_
    refine then_n ?_
    refine wp_ret ?_
    refine then_r ?_
    exact leave (.inl rfl) hS rfl (Res.tmp rfl (Res.tmp rfl Res.nil)) ⟨rfl, hH.mod⟩
  · refine r_neq hS hH.kp0 rfl rfl rfl ?_; clear hS; intro a hS
    refine r_move hS hH.kp0 rfl rfl ?_; clear hS; intro a hS
    refine Sq.guardYes hS rfl rfl (bne_eq_false_iff_eq.2 (by omega)) ?_; refine r_fieldAddr hS hH.kp0 rfl Fc.fo27_6 rfl ?_; clear hS; intro a hS
    refine Sq.guardYes hS rfl rfl (bne_eq_false_iff_eq.2 (by omega)) ?_; refine r_load_sc hS hH (by repeat (first | exact Sub.nil | refine Sub.cons ?_ ?_ | exact In.here | refine In.there ?_)) rfl (by repeat (first | exact In.here | refine In.there ?_)) Fc.sc25 (by rfl) rfl ?_; clear hS; intro a hS
    refine Sq.guardYes hS rfl rfl (bne_eq_false_iff_eq.2 (by omega)) ?_; refine r_lenSl hS hH.kp0 rfl Fc.isSlice25 rfl ?_; clear hS; intro a hS
    refine Sq.guardYes hS rfl rfl (bne_eq_false_iff_eq.2 (by omega)) ?_; refine r_eql hS hH.kp0 rfl rfl rfl ?_; clear hS; intro a hS
    refine r_pickF hS hH.kp0 rfl (bne_eq_false_iff_eq.2 (by omega)) rfl rfl ?_; clear hS; intro a hS
    refine Sq.nil ?_
    refine then_n ?_
    refine c_condT hS rfl (DT (by omega)) ?_
    refine c_seq ?_
    refine reg_plain w0 (Nobody) ?_
    refine r_assign hS hH.kp0 rfl rfl ?_; clear hS; intro a hS
    refine r_assign hS hH.kp0 rfl rfl ?_; clear hS; intro a hS
    refine Sq.nil ?_
    refine then_n ?_
    refine wp_ret ?_
    refine then_r ?_
    exact leave (.inl rfl) hS rfl (Res.tmp rfl (Res.tmp rfl Res.nil)) ⟨rfl, hH.mod⟩

set_option maxRecDepth 100000 in
set_option maxHeartbeats 2000000 in
theorem Bare_bad (kd : Int) (q1 q2 q3 : Option Addr) (c1 c2 c3 : Nat) (rnd shr bnd mrk : List UInt8) (name : ByteArray) (ptl : List ByteArray) (prm tck : List UInt8) (ea ag : Bool) (li : Int) (hrnd : rnd.length = 16) (hshr : shr.length = 16) (hbnd : bnd.length = 16) (hmrk : mrk.length = 16) (hyes : kd = 1 ∧ tck.length ≠ 0) (hmay : ¬ (mayM kd name.size ptl.length prm.length tck.length (bzN ea bnd) (oddN ptl) li)) (w0 : World) (hpl : ptl.length ≤ 1048576) (hpt : SsA w0 q1 c1 ptl) (hbP : BsF Nobody w0 (.slice q2 prm.length c2) prm) (hbT : BsF Nobody w0 (.slice q3 tck.length c3) tck) : Calls Try.prog 5 #[.agg ([.int .i64 kd] ++ hcells rnd ++ hcells shr ++ [.string name, .slice q1 ptl.length c1, .slice q2 prm.length c2, .slice q3 tck.length c3] ++ hcells bnd ++ [.bool ea, .bool ag] ++ hcells mrk ++ [.int .i64 li] : List Value).toArray] w0 fun e w' => e = .returned (.tuple #[.slice none 0 0, .int .i64 2]) ∧ Ext w0 w' := by
  refine enter Try.func5 rfl rfl rfl ?_
  intro a hS
  have hH := Hp.start w0 (Nobody)
  obtain ⟨hy1, hy2⟩ := hyes
  have hyes : kd = 1 ∧ tck.length ≠ 0 := ⟨hy1, hy2⟩
  obtain ⟨r0, r1, r2, r3, r4, r5, r6, r7, r8, r9, ra, rb, rc, rd, re, rf, rfl⟩ := len16 hrnd
  obtain ⟨s0, s1, s2, s3, s4, s5, s6, s7, s8, s9, sa, sb, sc, sd, se, sf, rfl⟩ := len16 hshr
  obtain ⟨n0, n1, n2, n3, n4, n5, n6, n7, n8, n9, na, nb, nc, nd, ne, nf, rfl⟩ := len16 hbnd
  obtain ⟨m0, m1, m2, m3, m4, m5, m6, m7, m8, m9, ma, mb, mc, md, me, mf, rfl⟩ := len16 hmrk
  refine c_seq ?_
  refine reg_plain w0 (Nobody) ?_
  refine r_box hS hH (by repeat (first | exact Sub.nil | refine Sub.cons ?_ ?_ | exact In.here | refine In.there ?_)) rfl rfl rfl ?_
  clear hS hH; intro a w b1 hb1 hwb1 hS hH
  refine r_assign hS hH.kp0 rfl rfl ?_; clear hS; intro a hS
  refine r_assign hS hH.kp0 rfl rfl ?_; clear hS; intro a hS
  refine Sq.nil ?_
  refine then_n ?_
  refine c_seq ?_
  refine c_seq ?_
  refine reg_plain w0 (Nobody) ?_
  refine r_fieldAddr hS hH.kp0 rfl Fc.fo27_0 rfl ?_; clear hS; intro a hS
  refine r_load_sc hS hH (by repeat (first | exact Sub.nil | refine Sub.cons ?_ ?_ | exact In.here | refine In.there ?_)) rfl (by repeat (first | exact In.here | refine In.there ?_)) Fc.sc3 (by rfl) rfl ?_; clear hS; intro a hS
  refine r_neq hS hH.kp0 rfl rfl rfl ?_; clear hS; intro a hS
  refine r_move hS hH.kp0 rfl rfl ?_; clear hS; intro a hS
  refine Sq.guardYes hS rfl rfl (bne_eq_false_iff_eq.2 (by omega)) ?_; refine r_fieldAddr hS hH.kp0 rfl Fc.fo27_6 rfl ?_; clear hS; intro a hS
  refine Sq.guardYes hS rfl rfl (bne_eq_false_iff_eq.2 (by omega)) ?_; refine r_load_sc hS hH (by repeat (first | exact Sub.nil | refine Sub.cons ?_ ?_ | exact In.here | refine In.there ?_)) rfl (by repeat (first | exact In.here | refine In.there ?_)) Fc.sc25 (by rfl) rfl ?_; clear hS; intro a hS
  refine Sq.guardYes hS rfl rfl (bne_eq_false_iff_eq.2 (by omega)) ?_; refine r_lenSl hS hH.kp0 rfl Fc.isSlice25 rfl ?_; clear hS; intro a hS
  refine Sq.guardYes hS rfl rfl (bne_eq_false_iff_eq.2 (by omega)) ?_; refine r_eql hS hH.kp0 rfl rfl rfl ?_; clear hS; intro a hS
  refine r_pickF hS hH.kp0 rfl (bne_eq_false_iff_eq.2 (by omega)) rfl rfl ?_; clear hS; intro a hS
  refine Sq.nil ?_
  refine then_n ?_
  refine c_condF hS rfl (DF (by omega)) ?_
  refine wp_skip ?_
  refine then_n ?_
  refine c_seq ?_
  refine reg_plain w0 (Nobody) ?_
  refine r_load_row hS hH (by repeat (first | exact Sub.nil | refine Sub.cons ?_ ?_ | exact In.here | refine In.there ?_)) rfl (by repeat (first | exact In.here | refine In.there ?_)) Fc.ag27 (by rfl) rfl ?_; clear hS; intro a hS
  refine r_call (l := [.tmp 16]) hS rfl rfl Fc.fn4 rfl ?_
  refine Calls.mono (Put_bad kd q1 q2 q3 c1 c2 c3 _ _ _ _ name ptl prm tck ea ag li hrnd hshr hbnd hmrk (.inl hyes.1) hmay  _ hpl (hpt.ext hH.mod) (hbP.go hH.mod (fun _ h => h.elim)) (hbT.go hH.mod (fun _ h => h.elim))) ?_
  rintro e w1 ⟨rfl, hE⟩
  replace hH := hH.ext hE
  refine ⟨_, rfl, hH.kp0, ?_⟩
  clear hS; intro a hS
  refine r_move hS hH.kp0 rfl rfl ?_; clear hS; intro a hS
  refine r_extract hS hH.kp0 rfl rfl rfl ?_; clear hS; intro a hS
  refine r_extract hS hH.kp0 rfl rfl rfl ?_; clear hS; intro a hS
  refine r_assign hS hH.kp0 rfl rfl ?_; clear hS; intro a hS
  refine r_assign hS hH.kp0 rfl rfl ?_; clear hS; intro a hS
  refine Sq.nil ?_
  refine then_n ?_
  refine c_seq ?_
  refine c_seq ?_
  refine reg_plain w0 (Nobody) ?_
  refine r_move hS hH.kp0 rfl rfl ?_; clear hS; intro a hS
  refine r_neq hS hH.kp0 rfl rfl rfl ?_; clear hS; intro a hS
  refine Sq.nil ?_
  refine then_n ?_
  refine c_condT hS rfl rfl ?_
  refine c_seq ?_
  refine reg_plain w0 (Nobody) ?_
  refine r_move hS hH.kp0 rfl rfl ?_; clear hS; intro a hS
  refine r_assign hS hH.kp0 rfl rfl ?_; clear hS; intro a hS
  refine r_assign hS hH.kp0 rfl rfl ?_; clear hS; intro a hS
  refine Sq.nil ?_
  refine then_n ?_
  refine wp_ret ?_
  refine then_r ?_
  exact leave (.inl rfl) hS rfl (Res.tmp rfl (Res.tmp rfl Res.nil)) ⟨rfl, hH.mod⟩

set_option maxRecDepth 100000 in
set_option maxHeartbeats 2000000 in
theorem Bare_ok (kd : Int) (q1 q2 q3 : Option Addr) (c1 c2 c3 : Nat) (rnd shr bnd mrk : List UInt8) (name : ByteArray) (ptl : List ByteArray) (prm tck : List UInt8) (ea ag : Bool) (li : Int) (hrnd : rnd.length = 16) (hshr : shr.length = 16) (hbnd : bnd.length = 16) (hmrk : mrk.length = 16) (hyes : kd = 1 ∧ tck.length ≠ 0) (hmay : mayM kd name.size ptl.length prm.length tck.length (bzN ea bnd) (oddN ptl) li) (h20 : 16 ≤ (msgB kd (bodyB kd rnd shr name ptl prm tck bnd ea ag mrk li)).length) (w0 : World) (hpl : ptl.length ≤ 1048576) (hpt : SsA w0 q1 c1 ptl) (hbP : BsF Nobody w0 (.slice q2 prm.length c2) prm) (hbT : BsF Nobody w0 (.slice q3 tck.length c3) tck) : Calls Try.prog 5 #[.agg ([.int .i64 kd] ++ hcells rnd ++ hcells shr ++ [.string name, .slice q1 ptl.length c1, .slice q2 prm.length c2, .slice q3 tck.length c3] ++ hcells bnd ++ [.bool ea, .bool ag] ++ hcells mrk ++ [.int .i64 li] : List Value).toArray] w0 fun e w' => ∃ (b' c' : Nat) (k' : List Value), e = .returned (.tuple #[.slice (some ⟨b', 0, none⟩) (((msgB kd (bodyB kd rnd shr name ptl prm tck bnd ea ag mrk li)).length - 16)) c', .int .i64 0]) ∧ w0.heap.size ≤ b' ∧ w'.heap[b']? = some (.cells k'.toArray 5 (0, 0)) ∧ BB c' k' (msgB kd (bodyB kd rnd shr name ptl prm tck bnd ea ag mrk li)) ∧ Ext w0 w' := by
  refine enter Try.func5 rfl rfl rfl ?_
  intro a hS
  have hH := Hp.start w0 (Nobody)
  obtain ⟨hy1, hy2⟩ := hyes
  have hyes : kd = 1 ∧ tck.length ≠ 0 := ⟨hy1, hy2⟩
  obtain ⟨r0, r1, r2, r3, r4, r5, r6, r7, r8, r9, ra, rb, rc, rd, re, rf, rfl⟩ := len16 hrnd
  obtain ⟨s0, s1, s2, s3, s4, s5, s6, s7, s8, s9, sa, sb, sc, sd, se, sf, rfl⟩ := len16 hshr
  obtain ⟨n0, n1, n2, n3, n4, n5, n6, n7, n8, n9, na, nb, nc, nd, ne, nf, rfl⟩ := len16 hbnd
  obtain ⟨m0, m1, m2, m3, m4, m5, m6, m7, m8, m9, ma, mb, mc, md, me, mf, rfl⟩ := len16 hmrk
  refine c_seq ?_
  refine reg_plain w0 (Nobody) ?_
  refine r_box hS hH (by repeat (first | exact Sub.nil | refine Sub.cons ?_ ?_ | exact In.here | refine In.there ?_)) rfl rfl rfl ?_
  clear hS hH; intro a w b1 hb1 hwb1 hS hH
  refine r_assign hS hH.kp0 rfl rfl ?_; clear hS; intro a hS
  refine r_assign hS hH.kp0 rfl rfl ?_; clear hS; intro a hS
  refine Sq.nil ?_
  refine then_n ?_
  refine c_seq ?_
  refine c_seq ?_
  refine reg_plain w0 (Nobody) ?_
  refine r_fieldAddr hS hH.kp0 rfl Fc.fo27_0 rfl ?_; clear hS; intro a hS
  refine r_load_sc hS hH (by repeat (first | exact Sub.nil | refine Sub.cons ?_ ?_ | exact In.here | refine In.there ?_)) rfl (by repeat (first | exact In.here | refine In.there ?_)) Fc.sc3 (by rfl) rfl ?_; clear hS; intro a hS
  refine r_neq hS hH.kp0 rfl rfl rfl ?_; clear hS; intro a hS
  refine r_move hS hH.kp0 rfl rfl ?_; clear hS; intro a hS
  refine Sq.guardYes hS rfl rfl (bne_eq_false_iff_eq.2 (by omega)) ?_; refine r_fieldAddr hS hH.kp0 rfl Fc.fo27_6 rfl ?_; clear hS; intro a hS
  refine Sq.guardYes hS rfl rfl (bne_eq_false_iff_eq.2 (by omega)) ?_; refine r_load_sc hS hH (by repeat (first | exact Sub.nil | refine Sub.cons ?_ ?_ | exact In.here | refine In.there ?_)) rfl (by repeat (first | exact In.here | refine In.there ?_)) Fc.sc25 (by rfl) rfl ?_; clear hS; intro a hS
  refine Sq.guardYes hS rfl rfl (bne_eq_false_iff_eq.2 (by omega)) ?_; refine r_lenSl hS hH.kp0 rfl Fc.isSlice25 rfl ?_; clear hS; intro a hS
  refine Sq.guardYes hS rfl rfl (bne_eq_false_iff_eq.2 (by omega)) ?_; refine r_eql hS hH.kp0 rfl rfl rfl ?_; clear hS; intro a hS
  refine r_pickF hS hH.kp0 rfl (bne_eq_false_iff_eq.2 (by omega)) rfl rfl ?_; clear hS; intro a hS
  refine Sq.nil ?_
  refine then_n ?_
  refine c_condF hS rfl (DF (by omega)) ?_
  refine wp_skip ?_
  refine then_n ?_
  refine c_seq ?_
  refine reg_plain w0 (Nobody) ?_
  refine r_load_row hS hH (by repeat (first | exact Sub.nil | refine Sub.cons ?_ ?_ | exact In.here | refine In.there ?_)) rfl (by repeat (first | exact In.here | refine In.there ?_)) Fc.ag27 (by rfl) rfl ?_; clear hS; intro a hS
  refine r_call (l := [.tmp 16]) hS rfl rfl Fc.fn4 rfl ?_
  refine Calls.mono (Put_ok kd q1 q2 q3 c1 c2 c3 _ _ _ _ name ptl prm tck ea ag li hrnd hshr hbnd hmrk (.inl hyes.1) hmay  _ hpl (hpt.ext hH.mod) (hbP.go hH.mod (fun _ h => h.elim)) (hbT.go hH.mod (fun _ h => h.elim))) ?_
  rintro e w1 ⟨bz, cz, kz, rfl, hrz, hkz, hBz, hE⟩
  have hwz := Nat.le_trans hH.mod.size hrz
  have hml : (msgB kd (bodyB kd [r0, r1, r2, r3, r4, r5, r6, r7, r8, r9, ra, rb, rc, rd, re, rf] [s0, s1, s2, s3, s4, s5, s6, s7, s8, s9, sa, sb, sc, sd, se, sf] name ptl prm tck [n0, n1, n2, n3, n4, n5, n6, n7, n8, n9, na, nb, nc, nd, ne, nf] ea ag [m0, m1, m2, m3, m4, m5, m6, m7, m8, m9, ma, mb, mc, md, me, mf] li)).length ≤ 200000 := by rw [msgB_len]; have := bodyB_len (ag := ag) hmay (show ([r0, r1, r2, r3, r4, r5, r6, r7, r8, r9, ra, rb, rc, rd, re, rf] : List UInt8).length = 16 from rfl) (show ([s0, s1, s2, s3, s4, s5, s6, s7, s8, s9, sa, sb, sc, sd, se, sf] : List UInt8).length = 16 from rfl) rfl (show ([m0, m1, m2, m3, m4, m5, m6, m7, m8, m9, ma, mb, mc, md, me, mf] : List UInt8).length = 16 from rfl); omega
  replace hH := hH.knowN hE hrz hkz
  refine ⟨_, rfl, hH.kp0, ?_⟩
  clear hS; intro a hS
  refine r_move hS hH.kp0 rfl rfl ?_; clear hS; intro a hS
  refine r_extract hS hH.kp0 rfl rfl rfl ?_; clear hS; intro a hS
  refine r_extract hS hH.kp0 rfl rfl rfl ?_; clear hS; intro a hS
  refine r_assign hS hH.kp0 rfl rfl ?_; clear hS; intro a hS
  refine r_assign hS hH.kp0 rfl rfl ?_; clear hS; intro a hS
  refine Sq.nil ?_
  refine then_n ?_
  refine c_seq ?_
  refine c_seq ?_
  refine reg_plain w0 (Nobody) ?_
  refine r_move hS hH.kp0 rfl rfl ?_; clear hS; intro a hS
  refine r_neq hS hH.kp0 rfl rfl rfl ?_; clear hS; intro a hS
  refine Sq.nil ?_
  refine then_n ?_
  refine c_condF hS rfl rfl ?_
  refine wp_skip ?_
  refine then_n ?_
  refine c_seq ?_
  refine reg_plain w0 (Nobody) ?_
  refine r_move hS hH.kp0 rfl rfl ?_; clear hS; intro a hS
  refine r_move hS hH.kp0 rfl rfl ?_; clear hS; intro a hS
  refine r_lenSl hS hH.kp0 rfl Fc.isSlice25 rfl ?_; clear hS; intro a hS
  (first | refine r_sub hS hH.kp0 rfl rfl rfl (by omega) ?_ | refine r_subw hS hH.kp0 rfl rfl rfl ?_)
  clear hS; intro a hS
  refine r_slHi (hh := (msgB kd (bodyB kd [r0, r1, r2, r3, r4, r5, r6, r7, r8, r9, ra, rb, rc, rd, re, rf] [s0, s1, s2, s3, s4, s5, s6, s7, s8, s9, sa, sb, sc, sd, se, sf] name ptl prm tck [n0, n1, n2, n3, n4, n5, n6, n7, n8, n9, na, nb, nc, nd, ne, nf] ea ag [m0, m1, m2, m3, m4, m5, m6, m7, m8, m9, ma, mb, mc, md, me, mf] li)).length - 16) hS hH.kp0 rfl rfl Fc.slb25 (by omega) (by have := hBz.le; omega) (fun q hq => by cases hq; rfl) rfl ?_; clear hS; intro a hS
  refine r_assign hS hH.kp0 rfl rfl ?_; clear hS; intro a hS
  refine r_assign hS hH.kp0 rfl rfl ?_; clear hS; intro a hS
  refine Sq.nil ?_
  refine then_n ?_
  refine wp_ret ?_
  exact leave (.inl rfl) hS rfl (Res.tmp rfl (Res.tmp rfl Res.nil)) ⟨bz, cz, kz, rfl, hwz, hH.get (b := bz) (by repeat (first | exact In.here | refine In.there ?_)), hBz, hH.mod⟩

end Go.Proofs.Ytcenionnedgadaa
