/- For every input of bulk at most 1048576 the law HelloPuts returns true and the input reads as it did. Part Hello2: walks and lemmas of the proof. -/
import Derived.Test.YtcenionnedgadaaHello1
namespace Go.Proofs.Ytcenionnedgadaa
open Go.Sym
theorem Fc.arrR : ByteArr Try.prog 22 16 := byteArr_mk Fc.laid (of_decide_eq_true (by kernel_rfl)) (by kernel_rfl) (by kernel_rfl) (by kernel_rfl) (by kernel_rfl) (by kernel_rfl)

theorem Fc.ag22 : agB Try.prog 22 = some 16 := by kernel_rfl
theorem Fc.ar22 : arrB Try.prog 22 = some (16, 1) := by kernel_rfl
theorem Fc.fn22 : isFn Try.prog 22 = true := by kernel_rfl
theorem Fc.fo34_0 : foff Try.prog 34 0 = some 0 := by kernel_rfl
theorem Fc.fo34_11 : foff Try.prog 34 11 = some 71 := by kernel_rfl
theorem Fc.fo34_3 : foff Try.prog 34 3 = some 33 := by kernel_rfl
theorem Fc.fo34_4 : foff Try.prog 34 4 = some 34 := by kernel_rfl
theorem Fc.fo34_5 : foff Try.prog 34 5 = some 35 := by kernel_rfl
theorem Fc.fo34_6 : foff Try.prog 34 6 = some 36 := by kernel_rfl
theorem Fc.fo34_7 : foff Try.prog 34 7 = some 37 := by kernel_rfl
theorem Fc.fo34_8 : foff Try.prog 34 8 = some 53 := by kernel_rfl
theorem Fc.zc22 : zcB Try.prog 22 = some [.int .u8 0, .int .u8 0, .int .u8 0, .int .u8 0, .int .u8 0, .int .u8 0, .int .u8 0, .int .u8 0, .int .u8 0, .int .u8 0, .int .u8 0, .int .u8 0, .int .u8 0, .int .u8 0, .int .u8 0, .int .u8 0] := by kernel_rfl
set_option maxRecDepth 100000 in
set_option maxHeartbeats 400000 in
theorem protos_c (q : Option Addr) (qc : Nat) (l : List ByteArray) (most : Int) (hl : l.length ≤ 1099511627776) (w0 : World) (hb : SsA w0 q qc l) : Calls Try.prog 22 #[.slice q l.length qc, .int .i64 most] w0 fun e w' => e = .returned (.bool (decide (1 ≤ l.length ∧ (l.length : Int) ≤ most ∧ oddN l = 0))) ∧ Ext w0 w' := by
  refine enter Try.func22 rfl rfl rfl ?_
  intro a hS
  have hH := Hp.start w0 (Nobody)
  refine c_seq ?_
  refine reg_plain w0 (Nobody) ?_
  refine r_assign hS hH.kp0 rfl rfl ?_; clear hS; intro a hS
  refine Sq.nil ?_
  refine then_n ?_
  refine c_seq ?_
  refine c_seq ?_
  refine reg_plain w0 (Nobody) ?_
  refine r_assign hS hH.kp0 rfl rfl ?_; clear hS; intro a hS
  refine Sq.nil ?_
  refine then_n ?_
  refine wp_block ?_
  refine c_loop (fun m a w => ∃ (k : Nat) (i : Int), m + k = l.length ∧ i = k ∧ oddN (l.take k) = 0 ∧ St 35 (lv [(0, .slice q l.length qc), (1, .int .i64 most), (5, .int .i64 i)]) a ∧ Hp w0 Nobody [] w) (l.length) ?_ ?_
  · exact ⟨0, _, by omega, rfl, rfl, hS.live ⟨rfl, rfl, rfl, trivial⟩, hH⟩
  clear hS hH; intro m a w hI; obtain ⟨k, i, hmk, hi, h0, hS, hH⟩ := hI
  refine c_seq ?_
  refine c_seq ?_
  refine reg_plain w0 (Nobody) ?_
  refine r_move hS hH.kp0 rfl rfl ?_; clear hS; intro a hS
  refine r_move hS hH.kp0 rfl rfl ?_; clear hS; intro a hS
  refine r_lenSl hS hH.kp0 rfl Fc.isSlice24 rfl ?_; clear hS; intro a hS
  refine r_lss hS hH.kp0 rfl rfl rfl ?_; clear hS; intro a hS
  refine Sq.nil ?_
  refine then_n ?_
  refine c_cond hS rfl (fun hc0 => ?_) (fun hc0 => ?_)
  · have hk : k < l.length := by have := of_decide_eq_true hc0; omega
    obtain ⟨ba, bo, hp, hcell⟩ := (hb.ext hH.mod).cell hk
    subst hp
    refine wp_skip ?_
    refine then_n ?_
    refine c_seq ?_
    refine wp_block ?_
    refine c_seq ?_
    refine reg_plain w0 (Nobody) ?_
    refine r_move hS hH.kp0 rfl rfl ?_; clear hS; intro a hS
    refine r_move hS hH.kp0 rfl rfl ?_; clear hS; intro a hS
    refine r_indexAddrS (j := k) hS hH.kp0 rfl rfl Fc.slb24 hi hk rfl ?_; clear hS; intro a hS
    refine r_load_cell hS hH.kp0 rfl hcell Fc.sc9 rfl ?_; clear hS; intro a hS
    refine r_lenStr hS hH.kp0 rfl Fc.isStr9 rfl ?_; clear hS; intro a hS
    refine r_lss hS hH.kp0 rfl rfl rfl ?_; clear hS; intro a hS
    rcases (by omega : l[k].size < 1 ∨ (1 ≤ l[k].size ∧ 255 < l[k].size) ∨ (1 ≤ l[k].size ∧ l[k].size ≤ 255)) with hv | ⟨hv, hv2⟩ | ⟨hv, hv2⟩
    · refine r_move hS hH.kp0 rfl rfl ?_; clear hS; intro a hS
      refine Sq.guardNo hS rfl rfl (DT (by omega)) hH.kp0 rfl ?_; clear hS; intro a hS
      refine Sq.guardNo hS rfl rfl (DT (by omega)) hH.kp0 rfl ?_; clear hS; intro a hS
      refine Sq.guardNo hS rfl rfl (DT (by omega)) hH.kp0 rfl ?_; clear hS; intro a hS
      refine Sq.guardNo hS rfl rfl (DT (by omega)) hH.kp0 rfl ?_; clear hS; intro a hS
      refine Sq.guardNo hS rfl rfl (DT (by omega)) hH.kp0 rfl ?_; clear hS; intro a hS
      refine Sq.guardNo hS rfl rfl (DT (by omega)) hH.kp0 rfl ?_; clear hS; intro a hS
      refine r_pickT hS hH.kp0 rfl (DT (by omega)) rfl rfl ?_; clear hS; intro a hS
      refine Sq.nil ?_
      refine then_n ?_
      refine c_condT hS rfl rfl ?_
      refine c_seq ?_
      refine reg_plain w0 (Nobody) ?_
      refine r_assign hS hH.kp0 rfl rfl ?_; clear hS; intro a hS
      refine Sq.nil ?_
      refine then_n ?_
      refine wp_ret ?_
      refine blk_r ?_
      refine then_r ?_
      refine then_r ?_
      refine blk_r ?_
      refine then_r ?_
      refine leave (.inl rfl) hS rfl (Res.tmp rfl Res.nil) ⟨congrArg (fun z => Ending.returned (Value.bool z)) ?_, hH.mod⟩
      have hbn := oddN_at hk (show odd1 _ = true from DT (by omega))
      first | exact (DF (by omega)).symm | exact (DT (by omega)).symm | exact decide_eq_decide.2 (by omega)
    · refine r_move hS hH.kp0 rfl rfl ?_; clear hS; intro a hS
      refine Sq.guardYes hS rfl rfl (DF (by omega)) ?_; refine r_move hS hH.kp0 rfl rfl ?_; clear hS; intro a hS
      refine Sq.guardYes hS rfl rfl (DF (by omega)) ?_; refine r_move hS hH.kp0 rfl rfl ?_; clear hS; intro a hS
      refine Sq.guardYes hS rfl rfl (DF (by omega)) ?_; refine r_indexAddrS (j := k) hS hH.kp0 rfl rfl Fc.slb24 hi hk rfl ?_; clear hS; intro a hS
      refine Sq.guardYes hS rfl rfl (DF (by omega)) ?_; refine r_load_cell hS hH.kp0 rfl hcell Fc.sc9 rfl ?_; clear hS; intro a hS
      refine Sq.guardYes hS rfl rfl (DF (by omega)) ?_; refine r_lenStr hS hH.kp0 rfl Fc.isStr9 rfl ?_; clear hS; intro a hS
      refine Sq.guardYes hS rfl rfl (DF (by omega)) ?_; refine r_gtr hS hH.kp0 rfl rfl rfl ?_; clear hS; intro a hS
      refine r_pickF hS hH.kp0 rfl (DF (by omega)) rfl rfl ?_; clear hS; intro a hS
      refine Sq.nil ?_
      refine then_n ?_
      refine c_condT hS rfl (DT (by omega)) ?_
      refine c_seq ?_
      refine reg_plain w0 (Nobody) ?_
      refine r_assign hS hH.kp0 rfl rfl ?_; clear hS; intro a hS
      refine Sq.nil ?_
      refine then_n ?_
      refine wp_ret ?_
      refine blk_r ?_
      refine then_r ?_
      refine then_r ?_
      refine blk_r ?_
      refine then_r ?_
      refine leave (.inl rfl) hS rfl (Res.tmp rfl Res.nil) ⟨congrArg (fun z => Ending.returned (Value.bool z)) ?_, hH.mod⟩
      have hbn := oddN_at hk (show odd1 _ = true from DT (by omega))
      first | exact (DF (by omega)).symm | exact (DT (by omega)).symm | exact decide_eq_decide.2 (by omega)
    · refine r_move hS hH.kp0 rfl rfl ?_; clear hS; intro a hS
      refine Sq.guardYes hS rfl rfl (DF (by omega)) ?_; refine r_move hS hH.kp0 rfl rfl ?_; clear hS; intro a hS
      refine Sq.guardYes hS rfl rfl (DF (by omega)) ?_; refine r_move hS hH.kp0 rfl rfl ?_; clear hS; intro a hS
      refine Sq.guardYes hS rfl rfl (DF (by omega)) ?_; refine r_indexAddrS (j := k) hS hH.kp0 rfl rfl Fc.slb24 hi hk rfl ?_; clear hS; intro a hS
      refine Sq.guardYes hS rfl rfl (DF (by omega)) ?_; refine r_load_cell hS hH.kp0 rfl hcell Fc.sc9 rfl ?_; clear hS; intro a hS
      refine Sq.guardYes hS rfl rfl (DF (by omega)) ?_; refine r_lenStr hS hH.kp0 rfl Fc.isStr9 rfl ?_; clear hS; intro a hS
      refine Sq.guardYes hS rfl rfl (DF (by omega)) ?_; refine r_gtr hS hH.kp0 rfl rfl rfl ?_; clear hS; intro a hS
      refine r_pickF hS hH.kp0 rfl (DF (by omega)) rfl rfl ?_; clear hS; intro a hS
      refine Sq.nil ?_
      refine then_n ?_
      refine c_condF hS rfl (DF (by omega)) ?_
      refine wp_skip ?_
      refine blk_n ?_
      refine then_n ?_
      refine reg_plain w0 (Nobody) ?_
      refine r_move hS hH.kp0 rfl rfl ?_; clear hS; intro a hS
      (first | refine r_add hS hH.kp0 rfl rfl rfl (by omega) ?_ | refine r_addw hS hH.kp0 rfl rfl rfl ?_)
      clear hS; intro a hS
      refine r_assign hS hH.kp0 rfl rfl ?_; clear hS; intro a hS
      refine Sq.nil ?_
      refine then_n ?_
      refine ⟨m - 1, by omega, k + 1, _, by omega, ?_, oddN_succ hk (by unfold odd1; exact DF (by omega)) h0, hS.live ⟨rfl, rfl, rfl, trivial⟩, hH⟩
      omega
  · have hke : k = l.length := by have := of_decide_eq_false hc0; omega
    subst hke
    rw [List.take_of_length_le (Nat.le_refl _)] at h0
    refine wp_exit ?_
    refine then_e ?_
    refine then_e ?_
    refine blk_hit ?_
    refine then_n ?_
    refine c_seq ?_
    refine reg_plain w0 (Nobody) ?_
    refine r_move hS hH.kp0 rfl rfl ?_; clear hS; intro a hS
    refine r_lenSl hS hH.kp0 rfl Fc.isSlice24 rfl ?_; clear hS; intro a hS
    refine r_geq hS hH.kp0 rfl rfl rfl ?_; clear hS; intro a hS
    rcases (by omega : l.length < 1 ∨ 1 ≤ l.length) with hv | hv
    · refine r_move hS hH.kp0 rfl rfl ?_; clear hS; intro a hS
      refine Sq.guardNo hS rfl rfl (DF (by omega)) hH.kp0 rfl ?_; clear hS; intro a hS
      refine Sq.guardNo hS rfl rfl (DF (by omega)) hH.kp0 rfl ?_; clear hS; intro a hS
      refine Sq.guardNo hS rfl rfl (DF (by omega)) hH.kp0 rfl ?_; clear hS; intro a hS
      refine Sq.guardNo hS rfl rfl (DF (by omega)) hH.kp0 rfl ?_; clear hS; intro a hS
      refine r_pickF hS hH.kp0 rfl (DF (by omega)) rfl rfl ?_; clear hS; intro a hS
      refine r_assign hS hH.kp0 rfl rfl ?_; clear hS; intro a hS
      refine Sq.nil ?_
      refine then_n ?_
      refine wp_ret ?_
      refine leave (.inl rfl) hS rfl (Res.tmp rfl Res.nil) ⟨congrArg (fun z => Ending.returned (Value.bool z)) ?_, hH.mod⟩
      first | exact (DF (by omega)).symm | exact (DT (by omega)).symm | exact decide_eq_decide.2 (by omega)
    · refine r_move hS hH.kp0 rfl rfl ?_; clear hS; intro a hS
      refine Sq.guardYes hS rfl rfl (DT (by omega)) ?_; refine r_move hS hH.kp0 rfl rfl ?_; clear hS; intro a hS
      refine Sq.guardYes hS rfl rfl (DT (by omega)) ?_; refine r_lenSl hS hH.kp0 rfl Fc.isSlice24 rfl ?_; clear hS; intro a hS
      refine Sq.guardYes hS rfl rfl (DT (by omega)) ?_; refine r_move hS hH.kp0 rfl rfl ?_; clear hS; intro a hS
      refine Sq.guardYes hS rfl rfl (DT (by omega)) ?_; refine r_leq hS hH.kp0 rfl rfl rfl ?_; clear hS; intro a hS
      refine r_pickT hS hH.kp0 rfl (DT (by omega)) rfl rfl ?_; clear hS; intro a hS
      refine r_assign hS hH.kp0 rfl rfl ?_; clear hS; intro a hS
      refine Sq.nil ?_
      refine then_n ?_
      refine wp_ret ?_
      refine leave (.inl rfl) hS rfl (Res.tmp rfl Res.nil) ⟨congrArg (fun z => Ending.returned (Value.bool z)) ?_, hH.mod⟩
      first | exact (DF (by omega)).symm | exact (DT (by omega)).symm | exact decide_eq_decide.2 (by omega)

set_option maxRecDepth 100000 in
set_option maxHeartbeats 2000000 in
theorem may_1 (q1 q2 q3 : Option Addr) (c1 c2 c3 : Nat) (rnd shr bnd mrk : List UInt8) (name : ByteArray) (ptl : List ByteArray) (prm tck : List UInt8) (ea ag : Bool) (li : Int) (hrnd : rnd.length = 16) (hshr : shr.length = 16) (hbnd : bnd.length = 16) (hmrk : mrk.length = 16) (w0 : World) (hpl : ptl.length ≤ 1048576) (hpt : SsA w0 q1 c1 ptl) : Calls Try.prog 16 #[.agg ([.int .i64 1] ++ hcells rnd ++ hcells shr ++ [.string name, .slice q1 ptl.length c1, .slice q2 prm.length c2, .slice q3 tck.length c3] ++ hcells bnd ++ [.bool ea, .bool ag] ++ hcells mrk ++ [.int .i64 li] : List Value).toArray] w0 fun e w' => e = .returned (.bool (decide (mayM 1 name.size ptl.length prm.length tck.length (bzN ea bnd) (oddN ptl) li))) ∧ Ext w0 w' := by
  refine enter Try.func16 rfl rfl rfl ?_
  intro a hS
  have hH := Hp.start w0 (Nobody)
  obtain ⟨r0, r1, r2, r3, r4, r5, r6, r7, r8, r9, ra, rb, rc, rd, re, rf, rfl⟩ := len16 hrnd
  obtain ⟨s0, s1, s2, s3, s4, s5, s6, s7, s8, s9, sa, sb, sc, sd, se, sf, rfl⟩ := len16 hshr
  obtain ⟨n0, n1, n2, n3, n4, n5, n6, n7, n8, n9, na, nb, nc, nd, ne, nf, rfl⟩ := len16 hbnd
  obtain ⟨m0, m1, m2, m3, m4, m5, m6, m7, m8, m9, ma, mb, mc, md, me, mf, rfl⟩ := len16 hmrk
  refine c_seq ?_
  refine reg_plain w0 (Nobody) ?_
  refine r_box hS hH (by repeat (first | exact Sub.nil | refine Sub.cons ?_ ?_ | exact In.here | refine In.there ?_)) rfl rfl rfl ?_
  clear hS hH; intro a w b1 hb1 hwb1 hS hH
  refine r_assign hS hH.kp0 rfl rfl ?_; clear hS; intro a hS
  refine Sq.nil ?_
  refine then_n ?_
  refine c_seq ?_
  refine c_seq ?_
  refine reg_plain w0 (Nobody) ?_
  refine r_fieldAddr hS hH.kp0 rfl Fc.fo34_0 rfl ?_; clear hS; intro a hS
  refine r_load_sc hS hH (by repeat (first | exact Sub.nil | refine Sub.cons ?_ ?_ | exact In.here | refine In.there ?_)) rfl (by repeat (first | exact In.here | refine In.there ?_)) Fc.sc3 (by rfl) rfl ?_; clear hS; intro a hS
  refine Sq.nil ?_
  refine then_n ?_
  refine wp_block ?_
  refine c_seq ?_
  refine reg_plain w0 (Nobody) ?_
  refine r_eql hS hH.kp0 rfl rfl rfl ?_; clear hS; intro a hS
  refine r_assign hS hH.kp0 rfl rfl ?_; clear hS; intro a hS
  refine Sq.nil ?_
  refine then_n ?_
  refine c_condT hS rfl rfl ?_
  refine c_seq ?_
  refine reg_plain w0 (Nobody) ?_
  refine r_fieldAddr hS hH.kp0 rfl Fc.fo34_6 rfl ?_; clear hS; intro a hS
  refine r_load_sc hS hH (by repeat (first | exact Sub.nil | refine Sub.cons ?_ ?_ | exact In.here | refine In.there ?_)) rfl (by repeat (first | exact In.here | refine In.there ?_)) Fc.sc25 (by rfl) rfl ?_; clear hS; intro a hS
  refine r_lenSl hS hH.kp0 rfl Fc.isSlice25 rfl ?_; clear hS; intro a hS
  refine r_gtr hS hH.kp0 rfl rfl rfl ?_; clear hS; intro a hS
  rcases (by omega : 1 ≤ tck.length ∨ tck.length = 0) with ht | ht
  · refine r_move hS hH.kp0 rfl rfl ?_; clear hS; intro a hS
    refine Sq.guardNo hS rfl rfl (DT (by omega)) hH.kp0 rfl ?_; clear hS; intro a hS
    refine Sq.guardNo hS rfl rfl (DT (by omega)) hH.kp0 rfl ?_; clear hS; intro a hS
    refine Sq.guardNo hS rfl rfl (DT (by omega)) hH.kp0 rfl ?_; clear hS; intro a hS
    refine Sq.guardNo hS rfl rfl (DT (by omega)) hH.kp0 rfl ?_; clear hS; intro a hS
    refine Sq.guardOff hS rfl rfl hH.kp0 rfl ?_; clear hS; intro a hS
    refine Sq.guardOff hS rfl rfl hH.kp0 rfl ?_; clear hS; intro a hS
    refine Sq.guardOff hS rfl rfl hH.kp0 rfl ?_; clear hS; intro a hS
    refine Sq.guardOff hS rfl rfl hH.kp0 rfl ?_; clear hS; intro a hS
    refine Sq.guardNo hS rfl rfl (DT (by omega)) hH.kp0 rfl ?_; clear hS; intro a hS
    refine r_pickT hS hH.kp0 rfl (DT (by omega)) rfl rfl ?_; clear hS; intro a hS
    refine r_assign hS hH.kp0 rfl rfl ?_; clear hS; intro a hS
    refine Sq.nil ?_
    refine then_n ?_
    refine c_seq ?_
    refine reg_plain w0 (Nobody) ?_
    refine r_fieldAddr hS hH.kp0 rfl Fc.fo34_3 rfl ?_; clear hS; intro a hS
    refine r_load_sc hS hH (by repeat (first | exact Sub.nil | refine Sub.cons ?_ ?_ | exact In.here | refine In.there ?_)) rfl (by repeat (first | exact In.here | refine In.there ?_)) Fc.sc9 (by rfl) rfl ?_; clear hS; intro a hS
    refine r_lenStr hS hH.kp0 rfl Fc.isStr9 rfl ?_; clear hS; intro a hS
    refine r_leq hS hH.kp0 rfl rfl rfl ?_; clear hS; intro a hS
    rcases (by omega : 255 < name.size ∨ name.size ≤ 255) with hn | hn
    · refine r_move hS hH.kp0 rfl rfl ?_; clear hS; intro a hS
      refine Sq.guardNo hS rfl rfl (DF (by omega)) hH.kp0 rfl ?_; clear hS; intro a hS
      refine Sq.guardNo hS rfl rfl (DF (by omega)) hH.kp0 rfl ?_; clear hS; intro a hS
      refine Sq.guardNo hS rfl rfl (DF (by omega)) hH.kp0 rfl ?_; clear hS; intro a hS
      refine r_pickF hS hH.kp0 rfl (DF (by omega)) rfl rfl ?_; clear hS; intro a hS
      refine r_move hS hH.kp0 rfl rfl ?_; clear hS; intro a hS
      refine Sq.guardNo hS rfl rfl rfl hH.kp0 rfl ?_; clear hS; intro a hS
      refine Sq.guardNo hS rfl rfl rfl hH.kp0 rfl ?_; clear hS; intro a hS
      refine Sq.guardNo hS rfl rfl rfl hH.kp0 rfl ?_; clear hS; intro a hS
      refine Sq.guardNo hS rfl rfl rfl hH.kp0 rfl ?_; clear hS; intro a hS
      refine r_pickF hS hH.kp0 rfl rfl rfl rfl ?_; clear hS; intro a hS
      refine r_move hS hH.kp0 rfl rfl ?_; clear hS; intro a hS
      refine Sq.guardNo hS rfl rfl rfl hH.kp0 rfl ?_; clear hS; intro a hS
      refine Sq.guardNo hS rfl rfl rfl hH.kp0 rfl ?_; clear hS; intro a hS
      refine Sq.guardNo hS rfl rfl rfl hH.kp0 rfl ?_; clear hS; intro a hS
      refine Sq.guardNo hS rfl rfl rfl hH.kp0 rfl ?_; clear hS; intro a hS
      refine r_pickF hS hH.kp0 rfl rfl rfl rfl ?_; clear hS; intro a hS
      refine r_move hS hH.kp0 rfl rfl ?_; clear hS; intro a hS
      refine Sq.guardNo hS rfl rfl rfl hH.kp0 rfl ?_; clear hS; intro a hS
      refine r_pickF hS hH.kp0 rfl rfl rfl rfl ?_; clear hS; intro a hS
      refine r_assign hS hH.kp0 rfl rfl ?_; clear hS; intro a hS
      refine Sq.nil ?_
      refine then_n ?_
      refine wp_ret ?_
      refine blk_r ?_
      refine then_r ?_
      refine leave (.inl rfl) hS rfl (Res.tmp rfl Res.nil) ⟨congrArg (fun z => Ending.returned (Value.bool z)) ?_, hH.mod⟩
      first | exact (DF (by unfold mayM; omega)).symm | exact (DT (by unfold mayM; omega)).symm | exact decide_eq_decide.2 (by unfold mayM; omega)
    · refine r_move hS hH.kp0 rfl rfl ?_; clear hS; intro a hS
      refine Sq.guardYes hS rfl rfl (DT (by omega)) ?_; refine r_fieldAddr hS hH.kp0 rfl Fc.fo34_4 rfl ?_; clear hS; intro a hS
      refine Sq.guardYes hS rfl rfl (DT (by omega)) ?_; refine r_load_sc hS hH (by repeat (first | exact Sub.nil | refine Sub.cons ?_ ?_ | exact In.here | refine In.there ?_)) rfl (by repeat (first | exact In.here | refine In.there ?_)) Fc.sc24 (by rfl) rfl ?_; clear hS; intro a hS
      refine Sq.guardYes hS rfl rfl (DT (by omega)) ?_; refine r_call (l := [.tmp 29, .const (.int .i64 8)]) hS rfl rfl Fc.fn22 rfl ?_; refine Calls.mono (protos_c q1 c1 ptl 8 (by omega) _ (hpt.ext hH.mod)) ?_; rintro e w1 ⟨rfl, hE⟩; replace hH := hH.ext hE; refine ⟨_, rfl, hH.kp0, ?_⟩; clear hS; intro a hS
      refine r_pickT hS hH.kp0 rfl (DT (by omega)) rfl rfl ?_; clear hS; intro a hS
      rcases (by omega : ¬ (1 ≤ ptl.length ∧ ptl.length ≤ 8 ∧ oddN ptl = 0) ∨ ((1 ≤ ptl.length ∧ ptl.length ≤ 8 ∧ oddN ptl = 0) ∧ 4096 < prm.length) ∨ ((1 ≤ ptl.length ∧ ptl.length ≤ 8 ∧ oddN ptl = 0) ∧ prm.length ≤ 4096)) with hN | ⟨hN, hpr⟩ | ⟨hN, hpr⟩
      · refine r_move hS hH.kp0 rfl rfl ?_; clear hS; intro a hS
        refine Sq.guardNo hS rfl rfl (DF (by omega)) hH.kp0 rfl ?_; clear hS; intro a hS
        refine Sq.guardNo hS rfl rfl (DF (by omega)) hH.kp0 rfl ?_; clear hS; intro a hS
        refine Sq.guardNo hS rfl rfl (DF (by omega)) hH.kp0 rfl ?_; clear hS; intro a hS
        refine Sq.guardNo hS rfl rfl (DF (by omega)) hH.kp0 rfl ?_; clear hS; intro a hS
        refine r_pickF hS hH.kp0 rfl (DF (by omega)) rfl rfl ?_; clear hS; intro a hS
        refine r_move hS hH.kp0 rfl rfl ?_; clear hS; intro a hS
        refine Sq.guardNo hS rfl rfl rfl hH.kp0 rfl ?_; clear hS; intro a hS
        refine Sq.guardNo hS rfl rfl rfl hH.kp0 rfl ?_; clear hS; intro a hS
        refine Sq.guardNo hS rfl rfl rfl hH.kp0 rfl ?_; clear hS; intro a hS
        refine Sq.guardNo hS rfl rfl rfl hH.kp0 rfl ?_; clear hS; intro a hS
        refine r_pickF hS hH.kp0 rfl rfl rfl rfl ?_; clear hS; intro a hS
        refine r_move hS hH.kp0 rfl rfl ?_; clear hS; intro a hS
        refine Sq.guardNo hS rfl rfl rfl hH.kp0 rfl ?_; clear hS; intro a hS
        refine r_pickF hS hH.kp0 rfl rfl rfl rfl ?_; clear hS; intro a hS
        refine r_assign hS hH.kp0 rfl rfl ?_; clear hS; intro a hS
        refine Sq.nil ?_
        refine then_n ?_
        refine wp_ret ?_
        refine blk_r ?_
        refine then_r ?_
        refine leave (.inl rfl) hS rfl (Res.tmp rfl Res.nil) ⟨congrArg (fun z => Ending.returned (Value.bool z)) ?_, hH.mod⟩
        first | exact (DF (by unfold mayM; omega)).symm | exact (DT (by unfold mayM; omega)).symm | exact decide_eq_decide.2 (by unfold mayM; omega)
      · refine r_move hS hH.kp0 rfl rfl ?_; clear hS; intro a hS
        refine Sq.guardYes hS rfl rfl (DT (by omega)) ?_; refine r_fieldAddr hS hH.kp0 rfl Fc.fo34_5 rfl ?_; clear hS; intro a hS
        refine Sq.guardYes hS rfl rfl (DT (by omega)) ?_; refine r_load_sc hS hH (by repeat (first | exact Sub.nil | refine Sub.cons ?_ ?_ | exact In.here | refine In.there ?_)) rfl (by repeat (first | exact In.here | refine In.there ?_)) Fc.sc25 (by rfl) rfl ?_; clear hS; intro a hS
        refine Sq.guardYes hS rfl rfl (DT (by omega)) ?_; refine r_lenSl hS hH.kp0 rfl Fc.isSlice25 rfl ?_; clear hS; intro a hS
        refine Sq.guardYes hS rfl rfl (DT (by omega)) ?_; refine r_leq hS hH.kp0 rfl rfl rfl ?_; clear hS; intro a hS
        refine r_pickT hS hH.kp0 rfl (DT (by omega)) rfl rfl ?_; clear hS; intro a hS
        refine r_move hS hH.kp0 rfl rfl ?_; clear hS; intro a hS
        refine Sq.guardNo hS rfl rfl (DF (by omega)) hH.kp0 rfl ?_; clear hS; intro a hS
        refine Sq.guardNo hS rfl rfl (DF (by omega)) hH.kp0 rfl ?_; clear hS; intro a hS
        refine Sq.guardNo hS rfl rfl (DF (by omega)) hH.kp0 rfl ?_; clear hS; intro a hS
        refine Sq.guardNo hS rfl rfl (DF (by omega)) hH.kp0 rfl ?_; clear hS; intro a hS
        refine r_pickF hS hH.kp0 rfl (DF (by omega)) rfl rfl ?_; clear hS; intro a hS
        refine r_move hS hH.kp0 rfl rfl ?_; clear hS; intro a hS
        refine Sq.guardNo hS rfl rfl rfl hH.kp0 rfl ?_; clear hS; intro a hS
        refine r_pickF hS hH.kp0 rfl rfl rfl rfl ?_; clear hS; intro a hS
        refine r_assign hS hH.kp0 rfl rfl ?_; clear hS; intro a hS
        refine Sq.nil ?_
        refine then_n ?_
        refine wp_ret ?_
        refine blk_r ?_
        refine then_r ?_
        refine leave (.inl rfl) hS rfl (Res.tmp rfl Res.nil) ⟨congrArg (fun z => Ending.returned (Value.bool z)) ?_, hH.mod⟩
        first | exact (DF (by unfold mayM; omega)).symm | exact (DT (by unfold mayM; omega)).symm | exact decide_eq_decide.2 (by unfold mayM; omega)
      · refine r_move hS hH.kp0 rfl rfl ?_; clear hS; intro a hS
        refine Sq.guardYes hS rfl rfl (DT (by omega)) ?_; refine r_fieldAddr hS hH.kp0 rfl Fc.fo34_5 rfl ?_; clear hS; intro a hS
        refine Sq.guardYes hS rfl rfl (DT (by omega)) ?_; refine r_load_sc hS hH (by repeat (first | exact Sub.nil | refine Sub.cons ?_ ?_ | exact In.here | refine In.there ?_)) rfl (by repeat (first | exact In.here | refine In.there ?_)) Fc.sc25 (by rfl) rfl ?_; clear hS; intro a hS
        refine Sq.guardYes hS rfl rfl (DT (by omega)) ?_; refine r_lenSl hS hH.kp0 rfl Fc.isSlice25 rfl ?_; clear hS; intro a hS
        refine Sq.guardYes hS rfl rfl (DT (by omega)) ?_; refine r_leq hS hH.kp0 rfl rfl rfl ?_; clear hS; intro a hS
        refine r_pickT hS hH.kp0 rfl (DT (by omega)) rfl rfl ?_; clear hS; intro a hS
        refine r_move hS hH.kp0 rfl rfl ?_; clear hS; intro a hS
        refine Sq.guardYes hS rfl rfl (DT (by omega)) ?_; refine r_fieldAddr hS hH.kp0 rfl Fc.fo34_6 rfl ?_; clear hS; intro a hS
        refine Sq.guardYes hS rfl rfl (DT (by omega)) ?_; refine r_load_sc hS hH (by repeat (first | exact Sub.nil | refine Sub.cons ?_ ?_ | exact In.here | refine In.there ?_)) rfl (by repeat (first | exact In.here | refine In.there ?_)) Fc.sc25 (by rfl) rfl ?_; clear hS; intro a hS
        refine Sq.guardYes hS rfl rfl (DT (by omega)) ?_; refine r_lenSl hS hH.kp0 rfl Fc.isSlice25 rfl ?_; clear hS; intro a hS
        refine Sq.guardYes hS rfl rfl (DT (by omega)) ?_; refine r_leq hS hH.kp0 rfl rfl rfl ?_; clear hS; intro a hS
        refine r_pickT hS hH.kp0 rfl (DT (by omega)) rfl rfl ?_; clear hS; intro a hS
        rcases (by omega : 512 < tck.length ∨ tck.length ≤ 512) with htk | htk
        · refine r_move hS hH.kp0 rfl rfl ?_; clear hS; intro a hS
          refine Sq.guardNo hS rfl rfl (DF (by omega)) hH.kp0 rfl ?_; clear hS; intro a hS
          refine r_pickF hS hH.kp0 rfl (DF (by omega)) rfl rfl ?_; clear hS; intro a hS
          refine r_assign hS hH.kp0 rfl rfl ?_; clear hS; intro a hS
          refine Sq.nil ?_
          refine then_n ?_
          refine wp_ret ?_
          refine blk_r ?_
          refine then_r ?_
          refine leave (.inl rfl) hS rfl (Res.tmp rfl Res.nil) ⟨congrArg (fun z => Ending.returned (Value.bool z)) ?_, hH.mod⟩
          first | exact (DF (by unfold mayM; omega)).symm | exact (DT (by unfold mayM; omega)).symm | exact decide_eq_decide.2 (by unfold mayM; omega)
        · refine r_move hS hH.kp0 rfl rfl ?_; clear hS; intro a hS
          refine Sq.guardYes hS rfl rfl (DT (by omega)) ?_; refine r_move hS hH.kp0 rfl rfl ?_; clear hS; intro a hS
          refine r_pickT hS hH.kp0 rfl (DT (by omega)) rfl rfl ?_; clear hS; intro a hS
          refine r_assign hS hH.kp0 rfl rfl ?_; clear hS; intro a hS
          refine Sq.nil ?_
          refine then_n ?_
          refine wp_ret ?_
          refine blk_r ?_
          refine then_r ?_
          refine leave (.inl rfl) hS rfl (Res.tmp rfl Res.nil) ⟨congrArg (fun z => Ending.returned (Value.bool z)) ?_, hH.mod⟩
          first | exact (DF (by unfold mayM; omega)).symm | exact (DT (by unfold mayM; omega)).symm | exact decide_eq_decide.2 (by unfold mayM; omega)
  · refine r_move hS hH.kp0 rfl rfl ?_; clear hS; intro a hS
    refine Sq.guardYes hS rfl rfl (DF (by omega)) ?_; refine r_fieldAddr hS hH.kp0 rfl Fc.fo34_8 rfl ?_; clear hS; intro a hS
    refine Sq.guardYes hS rfl rfl (DF (by omega)) ?_; refine r_load_sc hS hH (by repeat (first | exact Sub.nil | refine Sub.cons ?_ ?_ | exact In.here | refine In.there ?_)) rfl (by repeat (first | exact In.here | refine In.there ?_)) Fc.sc4 (by rfl) rfl ?_; clear hS; intro a hS
    refine Sq.guardYes hS rfl rfl (DF (by omega)) ?_; refine r_not hS hH.kp0 rfl rfl ?_; clear hS; intro a hS
    cases ea
    · refine Sq.guardYes hS rfl rfl (DF (by omega)) ?_; refine r_move hS hH.kp0 rfl rfl ?_; clear hS; intro a hS
      refine Sq.guardYes hS rfl rfl rfl ?_; refine r_fieldAddr hS hH.kp0 rfl Fc.fo34_7 rfl ?_; clear hS; intro a hS
      refine Sq.guardYes hS rfl rfl rfl ?_; refine r_load_ag hS hH (by repeat (first | exact Sub.nil | refine Sub.cons ?_ ?_ | exact In.here | refine In.there ?_)) rfl (by repeat (first | exact In.here | refine In.there ?_)) Fc.ag22 (of_decide_eq_true rfl) rfl ?_; clear hS; intro a hS
      refine Sq.guardYes hS rfl rfl rfl ?_; refine r_buildA (parts := []) hS hH.kp0 rfl rfl Fc.zc22 Fc.ar22 (by rfl) ?_; clear hS; intro a hS
      refine Sq.guardYes hS rfl rfl rfl ?_; refine r_arrEql (h := [n0, n1, n2, n3, n4, n5, n6, n7, n8, n9, na, nb, nc, nd, ne, nf]) (g := z16) Fc.arrR hS hH.kp0 rfl rfl rfl rfl rfl ?_; clear hS; intro a hS
      by_cases hbz : [n0, n1, n2, n3, n4, n5, n6, n7, n8, n9, na, nb, nc, nd, ne, nf] = z16
      · have hbq : bzN false [n0, n1, n2, n3, n4, n5, n6, n7, n8, n9, na, nb, nc, nd, ne, nf] = 0 := if_neg (by simp [hbz])
        rw [show decide ([n0, n1, n2, n3, n4, n5, n6, n7, n8, n9, na, nb, nc, nd, ne, nf] = z16) = true from DT hbz] at hS
        refine Sq.guardYes hS rfl rfl (DF (by omega)) ?_; refine r_pickT hS hH.kp0 rfl rfl rfl rfl ?_; clear hS; intro a hS
        refine r_pickF hS hH.kp0 rfl (DF (by omega)) rfl rfl ?_; clear hS; intro a hS
        refine r_assign hS hH.kp0 rfl rfl ?_; clear hS; intro a hS
        refine Sq.nil ?_
        refine then_n ?_
        refine c_seq ?_
        refine reg_plain w0 (Nobody) ?_
        refine r_fieldAddr hS hH.kp0 rfl Fc.fo34_3 rfl ?_; clear hS; intro a hS
        refine r_load_sc hS hH (by repeat (first | exact Sub.nil | refine Sub.cons ?_ ?_ | exact In.here | refine In.there ?_)) rfl (by repeat (first | exact In.here | refine In.there ?_)) Fc.sc9 (by rfl) rfl ?_; clear hS; intro a hS
        refine r_lenStr hS hH.kp0 rfl Fc.isStr9 rfl ?_; clear hS; intro a hS
        refine r_leq hS hH.kp0 rfl rfl rfl ?_; clear hS; intro a hS
        rcases (by omega : 255 < name.size ∨ name.size ≤ 255) with hn | hn
        · refine r_move hS hH.kp0 rfl rfl ?_; clear hS; intro a hS
          refine Sq.guardNo hS rfl rfl (DF (by omega)) hH.kp0 rfl ?_; clear hS; intro a hS
          refine Sq.guardNo hS rfl rfl (DF (by omega)) hH.kp0 rfl ?_; clear hS; intro a hS
          refine Sq.guardNo hS rfl rfl (DF (by omega)) hH.kp0 rfl ?_; clear hS; intro a hS
          refine r_pickF hS hH.kp0 rfl (DF (by omega)) rfl rfl ?_; clear hS; intro a hS
          refine r_move hS hH.kp0 rfl rfl ?_; clear hS; intro a hS
          refine Sq.guardNo hS rfl rfl rfl hH.kp0 rfl ?_; clear hS; intro a hS
          refine Sq.guardNo hS rfl rfl rfl hH.kp0 rfl ?_; clear hS; intro a hS
          refine Sq.guardNo hS rfl rfl rfl hH.kp0 rfl ?_; clear hS; intro a hS
          refine Sq.guardNo hS rfl rfl rfl hH.kp0 rfl ?_; clear hS; intro a hS
          refine r_pickF hS hH.kp0 rfl rfl rfl rfl ?_; clear hS; intro a hS
          refine r_move hS hH.kp0 rfl rfl ?_; clear hS; intro a hS
          refine Sq.guardNo hS rfl rfl rfl hH.kp0 rfl ?_; clear hS; intro a hS
          refine Sq.guardNo hS rfl rfl rfl hH.kp0 rfl ?_; clear hS; intro a hS
          refine Sq.guardNo hS rfl rfl rfl hH.kp0 rfl ?_; clear hS; intro a hS
          refine Sq.guardNo hS rfl rfl rfl hH.kp0 rfl ?_; clear hS; intro a hS
          refine r_pickF hS hH.kp0 rfl rfl rfl rfl ?_; clear hS; intro a hS
          refine r_move hS hH.kp0 rfl rfl ?_; clear hS; intro a hS
          refine Sq.guardNo hS rfl rfl rfl hH.kp0 rfl ?_; clear hS; intro a hS
          refine r_pickF hS hH.kp0 rfl rfl rfl rfl ?_; clear hS; intro a hS
          refine r_assign hS hH.kp0 rfl rfl ?_; clear hS; intro a hS
          refine Sq.nil ?_
          refine then_n ?_
          refine wp_ret ?_
          refine blk_r ?_
          refine then_r ?_
          refine leave (.inl rfl) hS rfl (Res.tmp rfl Res.nil) ⟨congrArg (fun z => Ending.returned (Value.bool z)) ?_, hH.mod⟩
          first | exact (DF (by unfold mayM; omega)).symm | exact (DT (by unfold mayM; omega)).symm | exact decide_eq_decide.2 (by unfold mayM; omega)
        · refine r_move hS hH.kp0 rfl rfl ?_; clear hS; intro a hS
          refine Sq.guardYes hS rfl rfl (DT (by omega)) ?_; refine r_fieldAddr hS hH.kp0 rfl Fc.fo34_4 rfl ?_; clear hS; intro a hS
          refine Sq.guardYes hS rfl rfl (DT (by omega)) ?_; refine r_load_sc hS hH (by repeat (first | exact Sub.nil | refine Sub.cons ?_ ?_ | exact In.here | refine In.there ?_)) rfl (by repeat (first | exact In.here | refine In.there ?_)) Fc.sc24 (by rfl) rfl ?_; clear hS; intro a hS
          refine Sq.guardYes hS rfl rfl (DT (by omega)) ?_; refine r_call (l := [.tmp 29, .const (.int .i64 8)]) hS rfl rfl Fc.fn22 rfl ?_; refine Calls.mono (protos_c q1 c1 ptl 8 (by omega) _ (hpt.ext hH.mod)) ?_; rintro e w1 ⟨rfl, hE⟩; replace hH := hH.ext hE; refine ⟨_, rfl, hH.kp0, ?_⟩; clear hS; intro a hS
          refine r_pickT hS hH.kp0 rfl (DT (by omega)) rfl rfl ?_; clear hS; intro a hS
          rcases (by omega : ¬ (1 ≤ ptl.length ∧ ptl.length ≤ 8 ∧ oddN ptl = 0) ∨ ((1 ≤ ptl.length ∧ ptl.length ≤ 8 ∧ oddN ptl = 0) ∧ 4096 < prm.length) ∨ ((1 ≤ ptl.length ∧ ptl.length ≤ 8 ∧ oddN ptl = 0) ∧ prm.length ≤ 4096)) with hN | ⟨hN, hpr⟩ | ⟨hN, hpr⟩
          · refine r_move hS hH.kp0 rfl rfl ?_; clear hS; intro a hS
            refine Sq.guardNo hS rfl rfl (DF (by omega)) hH.kp0 rfl ?_; clear hS; intro a hS
            refine Sq.guardNo hS rfl rfl (DF (by omega)) hH.kp0 rfl ?_; clear hS; intro a hS
            refine Sq.guardNo hS rfl rfl (DF (by omega)) hH.kp0 rfl ?_; clear hS; intro a hS
            refine Sq.guardNo hS rfl rfl (DF (by omega)) hH.kp0 rfl ?_; clear hS; intro a hS
            refine r_pickF hS hH.kp0 rfl (DF (by omega)) rfl rfl ?_; clear hS; intro a hS
            refine r_move hS hH.kp0 rfl rfl ?_; clear hS; intro a hS
            refine Sq.guardNo hS rfl rfl rfl hH.kp0 rfl ?_; clear hS; intro a hS
            refine Sq.guardNo hS rfl rfl rfl hH.kp0 rfl ?_; clear hS; intro a hS
            refine Sq.guardNo hS rfl rfl rfl hH.kp0 rfl ?_; clear hS; intro a hS
            refine Sq.guardNo hS rfl rfl rfl hH.kp0 rfl ?_; clear hS; intro a hS
            refine r_pickF hS hH.kp0 rfl rfl rfl rfl ?_; clear hS; intro a hS
            refine r_move hS hH.kp0 rfl rfl ?_; clear hS; intro a hS
            refine Sq.guardNo hS rfl rfl rfl hH.kp0 rfl ?_; clear hS; intro a hS
            refine r_pickF hS hH.kp0 rfl rfl rfl rfl ?_; clear hS; intro a hS
            refine r_assign hS hH.kp0 rfl rfl ?_; clear hS; intro a hS
            refine Sq.nil ?_
            refine then_n ?_
            refine wp_ret ?_
            refine blk_r ?_
            refine then_r ?_
            refine leave (.inl rfl) hS rfl (Res.tmp rfl Res.nil) ⟨congrArg (fun z => Ending.returned (Value.bool z)) ?_, hH.mod⟩
            first | exact (DF (by unfold mayM; omega)).symm | exact (DT (by unfold mayM; omega)).symm | exact decide_eq_decide.2 (by unfold mayM; omega)
          · refine r_move hS hH.kp0 rfl rfl ?_; clear hS; intro a hS
            refine Sq.guardYes hS rfl rfl (DT (by omega)) ?_; refine r_fieldAddr hS hH.kp0 rfl Fc.fo34_5 rfl ?_; clear hS; intro a hS
            refine Sq.guardYes hS rfl rfl (DT (by omega)) ?_; refine r_load_sc hS hH (by repeat (first | exact Sub.nil | refine Sub.cons ?_ ?_ | exact In.here | refine In.there ?_)) rfl (by repeat (first | exact In.here | refine In.there ?_)) Fc.sc25 (by rfl) rfl ?_; clear hS; intro a hS
            refine Sq.guardYes hS rfl rfl (DT (by omega)) ?_; refine r_lenSl hS hH.kp0 rfl Fc.isSlice25 rfl ?_; clear hS; intro a hS
            refine Sq.guardYes hS rfl rfl (DT (by omega)) ?_; refine r_leq hS hH.kp0 rfl rfl rfl ?_; clear hS; intro a hS
            refine r_pickT hS hH.kp0 rfl (DT (by omega)) rfl rfl ?_; clear hS; intro a hS
            refine r_move hS hH.kp0 rfl rfl ?_; clear hS; intro a hS
            refine Sq.guardNo hS rfl rfl (DF (by omega)) hH.kp0 rfl ?_; clear hS; intro a hS
            refine Sq.guardNo hS rfl rfl (DF (by omega)) hH.kp0 rfl ?_; clear hS; intro a hS
            refine Sq.guardNo hS rfl rfl (DF (by omega)) hH.kp0 rfl ?_; clear hS; intro a hS
            refine Sq.guardNo hS rfl rfl (DF (by omega)) hH.kp0 rfl ?_; clear hS; intro a hS
            refine r_pickF hS hH.kp0 rfl (DF (by omega)) rfl rfl ?_; clear hS; intro a hS
            refine r_move hS hH.kp0 rfl rfl ?_; clear hS; intro a hS
            refine Sq.guardNo hS rfl rfl rfl hH.kp0 rfl ?_; clear hS; intro a hS
            refine r_pickF hS hH.kp0 rfl rfl rfl rfl ?_; clear hS; intro a hS
            refine r_assign hS hH.kp0 rfl rfl ?_; clear hS; intro a hS
            refine Sq.nil ?_
            refine then_n ?_
            refine wp_ret ?_
            refine blk_r ?_
            refine then_r ?_
            refine leave (.inl rfl) hS rfl (Res.tmp rfl Res.nil) ⟨congrArg (fun z => Ending.returned (Value.bool z)) ?_, hH.mod⟩
            first | exact (DF (by unfold mayM; omega)).symm | exact (DT (by unfold mayM; omega)).symm | exact decide_eq_decide.2 (by unfold mayM; omega)
          · refine r_move hS hH.kp0 rfl rfl ?_; clear hS; intro a hS
            refine Sq.guardYes hS rfl rfl (DT (by omega)) ?_; refine r_fieldAddr hS hH.kp0 rfl Fc.fo34_5 rfl ?_; clear hS; intro a hS
            refine Sq.guardYes hS rfl rfl (DT (by omega)) ?_; refine r_load_sc hS hH (by repeat (first | exact Sub.nil | refine Sub.cons ?_ ?_ | exact In.here | refine In.there ?_)) rfl (by repeat (first | exact In.here | refine In.there ?_)) Fc.sc25 (by rfl) rfl ?_; clear hS; intro a hS
            refine Sq.guardYes hS rfl rfl (DT (by omega)) ?_; refine r_lenSl hS hH.kp0 rfl Fc.isSlice25 rfl ?_; clear hS; intro a hS
            refine Sq.guardYes hS rfl rfl (DT (by omega)) ?_; refine r_leq hS hH.kp0 rfl rfl rfl ?_; clear hS; intro a hS
            refine r_pickT hS hH.kp0 rfl (DT (by omega)) rfl rfl ?_; clear hS; intro a hS
            refine r_move hS hH.kp0 rfl rfl ?_; clear hS; intro a hS
            refine Sq.guardYes hS rfl rfl (DT (by omega)) ?_; refine r_fieldAddr hS hH.kp0 rfl Fc.fo34_6 rfl ?_; clear hS; intro a hS
            refine Sq.guardYes hS rfl rfl (DT (by omega)) ?_; refine r_load_sc hS hH (by repeat (first | exact Sub.nil | refine Sub.cons ?_ ?_ | exact In.here | refine In.there ?_)) rfl (by repeat (first | exact In.here | refine In.there ?_)) Fc.sc25 (by rfl) rfl ?_; clear hS; intro a hS
            refine Sq.guardYes hS rfl rfl (DT (by omega)) ?_; refine r_lenSl hS hH.kp0 rfl Fc.isSlice25 rfl ?_; clear hS; intro a hS
            refine Sq.guardYes hS rfl rfl (DT (by omega)) ?_; refine r_leq hS hH.kp0 rfl rfl rfl ?_; clear hS; intro a hS
            refine r_pickT hS hH.kp0 rfl (DT (by omega)) rfl rfl ?_; clear hS; intro a hS
            rcases (by omega : 512 < tck.length ∨ tck.length ≤ 512) with htk | htk
            · refine r_move hS hH.kp0 rfl rfl ?_; clear hS; intro a hS
              refine Sq.guardYes hS rfl rfl (DT (by omega)) ?_; refine r_move hS hH.kp0 rfl rfl ?_; clear hS; intro a hS
              refine r_pickT hS hH.kp0 rfl (DT (by omega)) rfl rfl ?_; clear hS; intro a hS
              refine r_assign hS hH.kp0 rfl rfl ?_; clear hS; intro a hS
              refine Sq.nil ?_
              refine then_n ?_
              refine wp_ret ?_
              refine blk_r ?_
              refine then_r ?_
              refine leave (.inl rfl) hS rfl (Res.tmp rfl Res.nil) ⟨congrArg (fun z => Ending.returned (Value.bool z)) ?_, hH.mod⟩
              first | exact (DF (by unfold mayM; omega)).symm | exact (DT (by unfold mayM; omega)).symm | exact decide_eq_decide.2 (by unfold mayM; omega)
            · refine r_move hS hH.kp0 rfl rfl ?_; clear hS; intro a hS
              refine Sq.guardYes hS rfl rfl (DT (by omega)) ?_; refine r_move hS hH.kp0 rfl rfl ?_; clear hS; intro a hS
              refine r_pickT hS hH.kp0 rfl (DT (by omega)) rfl rfl ?_; clear hS; intro a hS
              refine r_assign hS hH.kp0 rfl rfl ?_; clear hS; intro a hS
              refine Sq.nil ?_
              refine then_n ?_
              refine wp_ret ?_
              refine blk_r ?_
              refine then_r ?_
              refine leave (.inl rfl) hS rfl (Res.tmp rfl Res.nil) ⟨congrArg (fun z => Ending.returned (Value.bool z)) ?_, hH.mod⟩
              first | exact (DF (by unfold mayM; omega)).symm | exact (DT (by unfold mayM; omega)).symm | exact decide_eq_decide.2 (by unfold mayM; omega)
      · have hbq : bzN false [n0, n1, n2, n3, n4, n5, n6, n7, n8, n9, na, nb, nc, nd, ne, nf] = 1 := if_pos (.inr hbz)
        rw [show decide ([n0, n1, n2, n3, n4, n5, n6, n7, n8, n9, na, nb, nc, nd, ne, nf] = z16) = false from DF hbz] at hS
        refine Sq.guardYes hS rfl rfl (DF (by omega)) ?_; refine r_pickT hS hH.kp0 rfl rfl rfl rfl ?_; clear hS; intro a hS
        refine r_pickF hS hH.kp0 rfl (DF (by omega)) rfl rfl ?_; clear hS; intro a hS
        refine r_assign hS hH.kp0 rfl rfl ?_; clear hS; intro a hS
        refine Sq.nil ?_
        refine then_n ?_
        refine c_seq ?_
        refine reg_plain w0 (Nobody) ?_
        refine r_fieldAddr hS hH.kp0 rfl Fc.fo34_3 rfl ?_; clear hS; intro a hS
        refine r_load_sc hS hH (by repeat (first | exact Sub.nil | refine Sub.cons ?_ ?_ | exact In.here | refine In.there ?_)) rfl (by repeat (first | exact In.here | refine In.there ?_)) Fc.sc9 (by rfl) rfl ?_; clear hS; intro a hS
        refine r_lenStr hS hH.kp0 rfl Fc.isStr9 rfl ?_; clear hS; intro a hS
        refine r_leq hS hH.kp0 rfl rfl rfl ?_; clear hS; intro a hS
        rcases (by omega : 255 < name.size ∨ name.size ≤ 255) with hn | hn
        · refine r_move hS hH.kp0 rfl rfl ?_; clear hS; intro a hS
          refine Sq.guardNo hS rfl rfl (DF (by omega)) hH.kp0 rfl ?_; clear hS; intro a hS
          refine Sq.guardNo hS rfl rfl (DF (by omega)) hH.kp0 rfl ?_; clear hS; intro a hS
          refine Sq.guardNo hS rfl rfl (DF (by omega)) hH.kp0 rfl ?_; clear hS; intro a hS
          refine r_pickF hS hH.kp0 rfl (DF (by omega)) rfl rfl ?_; clear hS; intro a hS
          refine r_move hS hH.kp0 rfl rfl ?_; clear hS; intro a hS
          refine Sq.guardNo hS rfl rfl rfl hH.kp0 rfl ?_; clear hS; intro a hS
          refine Sq.guardNo hS rfl rfl rfl hH.kp0 rfl ?_; clear hS; intro a hS
          refine Sq.guardNo hS rfl rfl rfl hH.kp0 rfl ?_; clear hS; intro a hS
          refine Sq.guardNo hS rfl rfl rfl hH.kp0 rfl ?_; clear hS; intro a hS
          refine r_pickF hS hH.kp0 rfl rfl rfl rfl ?_; clear hS; intro a hS
          refine r_move hS hH.kp0 rfl rfl ?_; clear hS; intro a hS
          refine Sq.guardNo hS rfl rfl rfl hH.kp0 rfl ?_; clear hS; intro a hS
          refine Sq.guardNo hS rfl rfl rfl hH.kp0 rfl ?_; clear hS; intro a hS
          refine Sq.guardNo hS rfl rfl rfl hH.kp0 rfl ?_; clear hS; intro a hS
          refine Sq.guardNo hS rfl rfl rfl hH.kp0 rfl ?_; clear hS; intro a hS
          refine r_pickF hS hH.kp0 rfl rfl rfl rfl ?_; clear hS; intro a hS
          refine r_move hS hH.kp0 rfl rfl ?_; clear hS; intro a hS
          refine Sq.guardNo hS rfl rfl rfl hH.kp0 rfl ?_; clear hS; intro a hS
          refine r_pickF hS hH.kp0 rfl rfl rfl rfl ?_; clear hS; intro a hS
          refine r_assign hS hH.kp0 rfl rfl ?_; clear hS; intro a hS
          refine Sq.nil ?_
          refine then_n ?_
          refine wp_ret ?_
          refine blk_r ?_
          refine then_r ?_
          refine leave (.inl rfl) hS rfl (Res.tmp rfl Res.nil) ⟨congrArg (fun z => Ending.returned (Value.bool z)) ?_, hH.mod⟩
          first | exact (DF (by unfold mayM; omega)).symm | exact (DT (by unfold mayM; omega)).symm | exact decide_eq_decide.2 (by unfold mayM; omega)
        · refine r_move hS hH.kp0 rfl rfl ?_; clear hS; intro a hS
          refine Sq.guardYes hS rfl rfl (DT (by omega)) ?_; refine r_fieldAddr hS hH.kp0 rfl Fc.fo34_4 rfl ?_; clear hS; intro a hS
          refine Sq.guardYes hS rfl rfl (DT (by omega)) ?_; refine r_load_sc hS hH (by repeat (first | exact Sub.nil | refine Sub.cons ?_ ?_ | exact In.here | refine In.there ?_)) rfl (by repeat (first | exact In.here | refine In.there ?_)) Fc.sc24 (by rfl) rfl ?_; clear hS; intro a hS
          refine Sq.guardYes hS rfl rfl (DT (by omega)) ?_; refine r_call (l := [.tmp 29, .const (.int .i64 8)]) hS rfl rfl Fc.fn22 rfl ?_; refine Calls.mono (protos_c q1 c1 ptl 8 (by omega) _ (hpt.ext hH.mod)) ?_; rintro e w1 ⟨rfl, hE⟩; replace hH := hH.ext hE; refine ⟨_, rfl, hH.kp0, ?_⟩; clear hS; intro a hS
          refine r_pickT hS hH.kp0 rfl (DT (by omega)) rfl rfl ?_; clear hS; intro a hS
          rcases (by omega : ¬ (1 ≤ ptl.length ∧ ptl.length ≤ 8 ∧ oddN ptl = 0) ∨ ((1 ≤ ptl.length ∧ ptl.length ≤ 8 ∧ oddN ptl = 0) ∧ 4096 < prm.length) ∨ ((1 ≤ ptl.length ∧ ptl.length ≤ 8 ∧ oddN ptl = 0) ∧ prm.length ≤ 4096)) with hN | ⟨hN, hpr⟩ | ⟨hN, hpr⟩
          · refine r_move hS hH.kp0 rfl rfl ?_; clear hS; intro a hS
            refine Sq.guardNo hS rfl rfl (DF (by omega)) hH.kp0 rfl ?_; clear hS; intro a hS
            refine Sq.guardNo hS rfl rfl (DF (by omega)) hH.kp0 rfl ?_; clear hS; intro a hS
            refine Sq.guardNo hS rfl rfl (DF (by omega)) hH.kp0 rfl ?_; clear hS; intro a hS
            refine Sq.guardNo hS rfl rfl (DF (by omega)) hH.kp0 rfl ?_; clear hS; intro a hS
            refine r_pickF hS hH.kp0 rfl (DF (by omega)) rfl rfl ?_; clear hS; intro a hS
            refine r_move hS hH.kp0 rfl rfl ?_; clear hS; intro a hS
            refine Sq.guardNo hS rfl rfl rfl hH.kp0 rfl ?_; clear hS; intro a hS
            refine Sq.guardNo hS rfl rfl rfl hH.kp0 rfl ?_; clear hS; intro a hS
            refine Sq.guardNo hS rfl rfl rfl hH.kp0 rfl ?_; clear hS; intro a hS
            refine Sq.guardNo hS rfl rfl rfl hH.kp0 rfl ?_; clear hS; intro a hS
            refine r_pickF hS hH.kp0 rfl rfl rfl rfl ?_; clear hS; intro a hS
            refine r_move hS hH.kp0 rfl rfl ?_; clear hS; intro a hS
            refine Sq.guardNo hS rfl rfl rfl hH.kp0 rfl ?_; clear hS; intro a hS
            refine r_pickF hS hH.kp0 rfl rfl rfl rfl ?_; clear hS; intro a hS
            refine r_assign hS hH.kp0 rfl rfl ?_; clear hS; intro a hS
            refine Sq.nil ?_
            refine then_n ?_
            refine wp_ret ?_
            refine blk_r ?_
            refine then_r ?_
            refine leave (.inl rfl) hS rfl (Res.tmp rfl Res.nil) ⟨congrArg (fun z => Ending.returned (Value.bool z)) ?_, hH.mod⟩
            first | exact (DF (by unfold mayM; omega)).symm | exact (DT (by unfold mayM; omega)).symm | exact decide_eq_decide.2 (by unfold mayM; omega)
          · refine r_move hS hH.kp0 rfl rfl ?_; clear hS; intro a hS
            refine Sq.guardYes hS rfl rfl (DT (by omega)) ?_; refine r_fieldAddr hS hH.kp0 rfl Fc.fo34_5 rfl ?_; clear hS; intro a hS
            refine Sq.guardYes hS rfl rfl (DT (by omega)) ?_; refine r_load_sc hS hH (by repeat (first | exact Sub.nil | refine Sub.cons ?_ ?_ | exact In.here | refine In.there ?_)) rfl (by repeat (first | exact In.here | refine In.there ?_)) Fc.sc25 (by rfl) rfl ?_; clear hS; intro a hS
            refine Sq.guardYes hS rfl rfl (DT (by omega)) ?_; refine r_lenSl hS hH.kp0 rfl Fc.isSlice25 rfl ?_; clear hS; intro a hS
            refine Sq.guardYes hS rfl rfl (DT (by omega)) ?_; refine r_leq hS hH.kp0 rfl rfl rfl ?_; clear hS; intro a hS
            refine r_pickT hS hH.kp0 rfl (DT (by omega)) rfl rfl ?_; clear hS; intro a hS
            refine r_move hS hH.kp0 rfl rfl ?_; clear hS; intro a hS
            refine Sq.guardNo hS rfl rfl (DF (by omega)) hH.kp0 rfl ?_; clear hS; intro a hS
            refine Sq.guardNo hS rfl rfl (DF (by omega)) hH.kp0 rfl ?_; clear hS; intro a hS
            refine Sq.guardNo hS rfl rfl (DF (by omega)) hH.kp0 rfl ?_; clear hS; intro a hS
            refine Sq.guardNo hS rfl rfl (DF (by omega)) hH.kp0 rfl ?_; clear hS; intro a hS
            refine r_pickF hS hH.kp0 rfl (DF (by omega)) rfl rfl ?_; clear hS; intro a hS
            refine r_move hS hH.kp0 rfl rfl ?_; clear hS; intro a hS
            refine Sq.guardNo hS rfl rfl rfl hH.kp0 rfl ?_; clear hS; intro a hS
            refine r_pickF hS hH.kp0 rfl rfl rfl rfl ?_; clear hS; intro a hS
            refine r_assign hS hH.kp0 rfl rfl ?_; clear hS; intro a hS
            refine Sq.nil ?_
            refine then_n ?_
            refine wp_ret ?_
            refine blk_r ?_
            refine then_r ?_
            refine leave (.inl rfl) hS rfl (Res.tmp rfl Res.nil) ⟨congrArg (fun z => Ending.returned (Value.bool z)) ?_, hH.mod⟩
            first | exact (DF (by unfold mayM; omega)).symm | exact (DT (by unfold mayM; omega)).symm | exact decide_eq_decide.2 (by unfold mayM; omega)
          · refine r_move hS hH.kp0 rfl rfl ?_; clear hS; intro a hS
            refine Sq.guardYes hS rfl rfl (DT (by omega)) ?_; refine r_fieldAddr hS hH.kp0 rfl Fc.fo34_5 rfl ?_; clear hS; intro a hS
            refine Sq.guardYes hS rfl rfl (DT (by omega)) ?_; refine r_load_sc hS hH (by repeat (first | exact Sub.nil | refine Sub.cons ?_ ?_ | exact In.here | refine In.there ?_)) rfl (by repeat (first | exact In.here | refine In.there ?_)) Fc.sc25 (by rfl) rfl ?_; clear hS; intro a hS
            refine Sq.guardYes hS rfl rfl (DT (by omega)) ?_; refine r_lenSl hS hH.kp0 rfl Fc.isSlice25 rfl ?_; clear hS; intro a hS
            refine Sq.guardYes hS rfl rfl (DT (by omega)) ?_; refine r_leq hS hH.kp0 rfl rfl rfl ?_; clear hS; intro a hS
            refine r_pickT hS hH.kp0 rfl (DT (by omega)) rfl rfl ?_; clear hS; intro a hS
            refine r_move hS hH.kp0 rfl rfl ?_; clear hS; intro a hS
            refine Sq.guardYes hS rfl rfl (DT (by omega)) ?_; refine r_fieldAddr hS hH.kp0 rfl Fc.fo34_6 rfl ?_; clear hS; intro a hS
            refine Sq.guardYes hS rfl rfl (DT (by omega)) ?_; refine r_load_sc hS hH (by repeat (first | exact Sub.nil | refine Sub.cons ?_ ?_ | exact In.here | refine In.there ?_)) rfl (by repeat (first | exact In.here | refine In.there ?_)) Fc.sc25 (by rfl) rfl ?_; clear hS; intro a hS
            refine Sq.guardYes hS rfl rfl (DT (by omega)) ?_; refine r_lenSl hS hH.kp0 rfl Fc.isSlice25 rfl ?_; clear hS; intro a hS
            refine Sq.guardYes hS rfl rfl (DT (by omega)) ?_; refine r_leq hS hH.kp0 rfl rfl rfl ?_; clear hS; intro a hS
            refine r_pickT hS hH.kp0 rfl (DT (by omega)) rfl rfl ?_; clear hS; intro a hS
            rcases (by omega : 512 < tck.length ∨ tck.length ≤ 512) with htk | htk
            · refine r_move hS hH.kp0 rfl rfl ?_; clear hS; intro a hS
              refine Sq.guardYes hS rfl rfl (DT (by omega)) ?_; refine r_move hS hH.kp0 rfl rfl ?_; clear hS; intro a hS
              refine r_pickT hS hH.kp0 rfl (DT (by omega)) rfl rfl ?_; clear hS; intro a hS
              refine r_assign hS hH.kp0 rfl rfl ?_; clear hS; intro a hS
              refine Sq.nil ?_
              refine then_n ?_
              refine wp_ret ?_
              refine blk_r ?_
              refine then_r ?_
              refine leave (.inl rfl) hS rfl (Res.tmp rfl Res.nil) ⟨congrArg (fun z => Ending.returned (Value.bool z)) ?_, hH.mod⟩
              first | exact (DF (by unfold mayM; omega)).symm | exact (DT (by unfold mayM; omega)).symm | exact decide_eq_decide.2 (by unfold mayM; omega)
            · refine r_move hS hH.kp0 rfl rfl ?_; clear hS; intro a hS
              refine Sq.guardYes hS rfl rfl (DT (by omega)) ?_; refine r_move hS hH.kp0 rfl rfl ?_; clear hS; intro a hS
              refine r_pickT hS hH.kp0 rfl (DT (by omega)) rfl rfl ?_; clear hS; intro a hS
              refine r_assign hS hH.kp0 rfl rfl ?_; clear hS; intro a hS
              refine Sq.nil ?_
              refine then_n ?_
              refine wp_ret ?_
              refine blk_r ?_
              refine then_r ?_
              refine leave (.inl rfl) hS rfl (Res.tmp rfl Res.nil) ⟨congrArg (fun z => Ending.returned (Value.bool z)) ?_, hH.mod⟩
              first | exact (DF (by unfold mayM; omega)).symm | exact (DT (by unfold mayM; omega)).symm | exact decide_eq_decide.2 (by unfold mayM; omega)
    · have hbq : bzN true [n0, n1, n2, n3, n4, n5, n6, n7, n8, n9, na, nb, nc, nd, ne, nf] = 1 := if_pos (.inl rfl)
      refine Sq.guardYes hS rfl rfl (DF (by omega)) ?_; refine r_move hS hH.kp0 rfl rfl ?_; clear hS; intro a hS
      refine Sq.guardNo hS rfl rfl rfl hH.kp0 rfl ?_; clear hS; intro a hS
      refine Sq.guardNo hS rfl rfl rfl hH.kp0 rfl ?_; clear hS; intro a hS
      refine Sq.guardNo hS rfl rfl rfl hH.kp0 rfl ?_; clear hS; intro a hS
      refine Sq.guardNo hS rfl rfl rfl hH.kp0 rfl ?_; clear hS; intro a hS
      refine Sq.guardYes hS rfl rfl (DF (by omega)) ?_; refine r_pickF hS hH.kp0 rfl rfl rfl rfl ?_; clear hS; intro a hS
      refine r_pickF hS hH.kp0 rfl (DF (by omega)) rfl rfl ?_; clear hS; intro a hS
      refine r_assign hS hH.kp0 rfl rfl ?_; clear hS; intro a hS
      refine Sq.nil ?_
      refine then_n ?_
      refine c_seq ?_
      refine reg_plain w0 (Nobody) ?_
      refine r_fieldAddr hS hH.kp0 rfl Fc.fo34_3 rfl ?_; clear hS; intro a hS
      refine r_load_sc hS hH (by repeat (first | exact Sub.nil | refine Sub.cons ?_ ?_ | exact In.here | refine In.there ?_)) rfl (by repeat (first | exact In.here | refine In.there ?_)) Fc.sc9 (by rfl) rfl ?_; clear hS; intro a hS
      refine r_lenStr hS hH.kp0 rfl Fc.isStr9 rfl ?_; clear hS; intro a hS
      refine r_leq hS hH.kp0 rfl rfl rfl ?_; clear hS; intro a hS
      rcases (by omega : 255 < name.size ∨ name.size ≤ 255) with hn | hn
      · refine r_move hS hH.kp0 rfl rfl ?_; clear hS; intro a hS
        refine Sq.guardNo hS rfl rfl (DF (by omega)) hH.kp0 rfl ?_; clear hS; intro a hS
        refine Sq.guardNo hS rfl rfl (DF (by omega)) hH.kp0 rfl ?_; clear hS; intro a hS
        refine Sq.guardNo hS rfl rfl (DF (by omega)) hH.kp0 rfl ?_; clear hS; intro a hS
        refine r_pickF hS hH.kp0 rfl (DF (by omega)) rfl rfl ?_; clear hS; intro a hS
        refine r_move hS hH.kp0 rfl rfl ?_; clear hS; intro a hS
        refine Sq.guardNo hS rfl rfl rfl hH.kp0 rfl ?_; clear hS; intro a hS
        refine Sq.guardNo hS rfl rfl rfl hH.kp0 rfl ?_; clear hS; intro a hS
        refine Sq.guardNo hS rfl rfl rfl hH.kp0 rfl ?_; clear hS; intro a hS
        refine Sq.guardNo hS rfl rfl rfl hH.kp0 rfl ?_; clear hS; intro a hS
        refine r_pickF hS hH.kp0 rfl rfl rfl rfl ?_; clear hS; intro a hS
        refine r_move hS hH.kp0 rfl rfl ?_; clear hS; intro a hS
        refine Sq.guardNo hS rfl rfl rfl hH.kp0 rfl ?_; clear hS; intro a hS
        refine Sq.guardNo hS rfl rfl rfl hH.kp0 rfl ?_; clear hS; intro a hS
        refine Sq.guardNo hS rfl rfl rfl hH.kp0 rfl ?_; clear hS; intro a hS
        refine Sq.guardNo hS rfl rfl rfl hH.kp0 rfl ?_; clear hS; intro a hS
        refine r_pickF hS hH.kp0 rfl rfl rfl rfl ?_; clear hS; intro a hS
        refine r_move hS hH.kp0 rfl rfl ?_; clear hS; intro a hS
        refine Sq.guardNo hS rfl rfl rfl hH.kp0 rfl ?_; clear hS; intro a hS
        refine r_pickF hS hH.kp0 rfl rfl rfl rfl ?_; clear hS; intro a hS
        refine r_assign hS hH.kp0 rfl rfl ?_; clear hS; intro a hS
        refine Sq.nil ?_
        refine then_n ?_
        refine wp_ret ?_
        refine blk_r ?_
        refine then_r ?_
        refine leave (.inl rfl) hS rfl (Res.tmp rfl Res.nil) ⟨congrArg (fun z => Ending.returned (Value.bool z)) ?_, hH.mod⟩
        first | exact (DF (by unfold mayM; omega)).symm | exact (DT (by unfold mayM; omega)).symm | exact decide_eq_decide.2 (by unfold mayM; omega)
      · refine r_move hS hH.kp0 rfl rfl ?_; clear hS; intro a hS
        refine Sq.guardYes hS rfl rfl (DT (by omega)) ?_; refine r_fieldAddr hS hH.kp0 rfl Fc.fo34_4 rfl ?_; clear hS; intro a hS
        refine Sq.guardYes hS rfl rfl (DT (by omega)) ?_; refine r_load_sc hS hH (by repeat (first | exact Sub.nil | refine Sub.cons ?_ ?_ | exact In.here | refine In.there ?_)) rfl (by repeat (first | exact In.here | refine In.there ?_)) Fc.sc24 (by rfl) rfl ?_; clear hS; intro a hS
        refine Sq.guardYes hS rfl rfl (DT (by omega)) ?_; refine r_call (l := [.tmp 29, .const (.int .i64 8)]) hS rfl rfl Fc.fn22 rfl ?_; refine Calls.mono (protos_c q1 c1 ptl 8 (by omega) _ (hpt.ext hH.mod)) ?_; rintro e w1 ⟨rfl, hE⟩; replace hH := hH.ext hE; refine ⟨_, rfl, hH.kp0, ?_⟩; clear hS; intro a hS
        refine r_pickT hS hH.kp0 rfl (DT (by omega)) rfl rfl ?_; clear hS; intro a hS
        rcases (by omega : ¬ (1 ≤ ptl.length ∧ ptl.length ≤ 8 ∧ oddN ptl = 0) ∨ ((1 ≤ ptl.length ∧ ptl.length ≤ 8 ∧ oddN ptl = 0) ∧ 4096 < prm.length) ∨ ((1 ≤ ptl.length ∧ ptl.length ≤ 8 ∧ oddN ptl = 0) ∧ prm.length ≤ 4096)) with hN | ⟨hN, hpr⟩ | ⟨hN, hpr⟩
        · refine r_move hS hH.kp0 rfl rfl ?_; clear hS; intro a hS
          refine Sq.guardNo hS rfl rfl (DF (by omega)) hH.kp0 rfl ?_; clear hS; intro a hS
          refine Sq.guardNo hS rfl rfl (DF (by omega)) hH.kp0 rfl ?_; clear hS; intro a hS
          refine Sq.guardNo hS rfl rfl (DF (by omega)) hH.kp0 rfl ?_; clear hS; intro a hS
          refine Sq.guardNo hS rfl rfl (DF (by omega)) hH.kp0 rfl ?_; clear hS; intro a hS
          refine r_pickF hS hH.kp0 rfl (DF (by omega)) rfl rfl ?_; clear hS; intro a hS
          refine r_move hS hH.kp0 rfl rfl ?_; clear hS; intro a hS
          refine Sq.guardNo hS rfl rfl rfl hH.kp0 rfl ?_; clear hS; intro a hS
          refine Sq.guardNo hS rfl rfl rfl hH.kp0 rfl ?_; clear hS; intro a hS
          refine Sq.guardNo hS rfl rfl rfl hH.kp0 rfl ?_; clear hS; intro a hS
          refine Sq.guardNo hS rfl rfl rfl hH.kp0 rfl ?_; clear hS; intro a hS
          refine r_pickF hS hH.kp0 rfl rfl rfl rfl ?_; clear hS; intro a hS
          refine r_move hS hH.kp0 rfl rfl ?_; clear hS; intro a hS
          refine Sq.guardNo hS rfl rfl rfl hH.kp0 rfl ?_; clear hS; intro a hS
          refine r_pickF hS hH.kp0 rfl rfl rfl rfl ?_; clear hS; intro a hS
          refine r_assign hS hH.kp0 rfl rfl ?_; clear hS; intro a hS
          refine Sq.nil ?_
          refine then_n ?_
          refine wp_ret ?_
          refine blk_r ?_
          refine then_r ?_
          refine leave (.inl rfl) hS rfl (Res.tmp rfl Res.nil) ⟨congrArg (fun z => Ending.returned (Value.bool z)) ?_, hH.mod⟩
          first | exact (DF (by unfold mayM; omega)).symm | exact (DT (by unfold mayM; omega)).symm | exact decide_eq_decide.2 (by unfold mayM; omega)
        · refine r_move hS hH.kp0 rfl rfl ?_; clear hS; intro a hS
          refine Sq.guardYes hS rfl rfl (DT (by omega)) ?_; refine r_fieldAddr hS hH.kp0 rfl Fc.fo34_5 rfl ?_; clear hS; intro a hS
          refine Sq.guardYes hS rfl rfl (DT (by omega)) ?_; refine r_load_sc hS hH (by repeat (first | exact Sub.nil | refine Sub.cons ?_ ?_ | exact In.here | refine In.there ?_)) rfl (by repeat (first | exact In.here | refine In.there ?_)) Fc.sc25 (by rfl) rfl ?_; clear hS; intro a hS
          refine Sq.guardYes hS rfl rfl (DT (by omega)) ?_; refine r_lenSl hS hH.kp0 rfl Fc.isSlice25 rfl ?_; clear hS; intro a hS
          refine Sq.guardYes hS rfl rfl (DT (by omega)) ?_; refine r_leq hS hH.kp0 rfl rfl rfl ?_; clear hS; intro a hS
          refine r_pickT hS hH.kp0 rfl (DT (by omega)) rfl rfl ?_; clear hS; intro a hS
          refine r_move hS hH.kp0 rfl rfl ?_; clear hS; intro a hS
          refine Sq.guardNo hS rfl rfl (DF (by omega)) hH.kp0 rfl ?_; clear hS; intro a hS
          refine Sq.guardNo hS rfl rfl (DF (by omega)) hH.kp0 rfl ?_; clear hS; intro a hS
          refine Sq.guardNo hS rfl rfl (DF (by omega)) hH.kp0 rfl ?_; clear hS; intro a hS
          refine Sq.guardNo hS rfl rfl (DF (by omega)) hH.kp0 rfl ?_; clear hS; intro a hS
          refine r_pickF hS hH.kp0 rfl (DF (by omega)) rfl rfl ?_; clear hS; intro a hS
          refine r_move hS hH.kp0 rfl rfl ?_; clear hS; intro a hS
          refine Sq.guardNo hS rfl rfl rfl hH.kp0 rfl ?_; clear hS; intro a hS
          refine r_pickF hS hH.kp0 rfl rfl rfl rfl ?_; clear hS; intro a hS
          refine r_assign hS hH.kp0 rfl rfl ?_; clear hS; intro a hS
          refine Sq.nil ?_
          refine then_n ?_
          refine wp_ret ?_
          refine blk_r ?_
          refine then_r ?_
          refine leave (.inl rfl) hS rfl (Res.tmp rfl Res.nil) ⟨congrArg (fun z => Ending.returned (Value.bool z)) ?_, hH.mod⟩
          first | exact (DF (by unfold mayM; omega)).symm | exact (DT (by unfold mayM; omega)).symm | exact decide_eq_decide.2 (by unfold mayM; omega)
        · refine r_move hS hH.kp0 rfl rfl ?_; clear hS; intro a hS
          refine Sq.guardYes hS rfl rfl (DT (by omega)) ?_; refine r_fieldAddr hS hH.kp0 rfl Fc.fo34_5 rfl ?_; clear hS; intro a hS
          refine Sq.guardYes hS rfl rfl (DT (by omega)) ?_; refine r_load_sc hS hH (by repeat (first | exact Sub.nil | refine Sub.cons ?_ ?_ | exact In.here | refine In.there ?_)) rfl (by repeat (first | exact In.here | refine In.there ?_)) Fc.sc25 (by rfl) rfl ?_; clear hS; intro a hS
          refine Sq.guardYes hS rfl rfl (DT (by omega)) ?_; refine r_lenSl hS hH.kp0 rfl Fc.isSlice25 rfl ?_; clear hS; intro a hS
          refine Sq.guardYes hS rfl rfl (DT (by omega)) ?_; refine r_leq hS hH.kp0 rfl rfl rfl ?_; clear hS; intro a hS
          refine r_pickT hS hH.kp0 rfl (DT (by omega)) rfl rfl ?_; clear hS; intro a hS
          refine r_move hS hH.kp0 rfl rfl ?_; clear hS; intro a hS
          refine Sq.guardYes hS rfl rfl (DT (by omega)) ?_; refine r_fieldAddr hS hH.kp0 rfl Fc.fo34_6 rfl ?_; clear hS; intro a hS
          refine Sq.guardYes hS rfl rfl (DT (by omega)) ?_; refine r_load_sc hS hH (by repeat (first | exact Sub.nil | refine Sub.cons ?_ ?_ | exact In.here | refine In.there ?_)) rfl (by repeat (first | exact In.here | refine In.there ?_)) Fc.sc25 (by rfl) rfl ?_; clear hS; intro a hS
          refine Sq.guardYes hS rfl rfl (DT (by omega)) ?_; refine r_lenSl hS hH.kp0 rfl Fc.isSlice25 rfl ?_; clear hS; intro a hS
          refine Sq.guardYes hS rfl rfl (DT (by omega)) ?_; refine r_leq hS hH.kp0 rfl rfl rfl ?_; clear hS; intro a hS
          refine r_pickT hS hH.kp0 rfl (DT (by omega)) rfl rfl ?_; clear hS; intro a hS
          rcases (by omega : 512 < tck.length ∨ tck.length ≤ 512) with htk | htk
          · refine r_move hS hH.kp0 rfl rfl ?_; clear hS; intro a hS
            refine Sq.guardYes hS rfl rfl (DT (by omega)) ?_; refine r_move hS hH.kp0 rfl rfl ?_; clear hS; intro a hS
            refine r_pickT hS hH.kp0 rfl (DT (by omega)) rfl rfl ?_; clear hS; intro a hS
            refine r_assign hS hH.kp0 rfl rfl ?_; clear hS; intro a hS
            refine Sq.nil ?_
            refine then_n ?_
            refine wp_ret ?_
            refine blk_r ?_
            refine then_r ?_
            refine leave (.inl rfl) hS rfl (Res.tmp rfl Res.nil) ⟨congrArg (fun z => Ending.returned (Value.bool z)) ?_, hH.mod⟩
            first | exact (DF (by unfold mayM; omega)).symm | exact (DT (by unfold mayM; omega)).symm | exact decide_eq_decide.2 (by unfold mayM; omega)
          · refine r_move hS hH.kp0 rfl rfl ?_; clear hS; intro a hS
            refine Sq.guardYes hS rfl rfl (DT (by omega)) ?_; refine r_move hS hH.kp0 rfl rfl ?_; clear hS; intro a hS
            refine r_pickT hS hH.kp0 rfl (DT (by omega)) rfl rfl ?_; clear hS; intro a hS
            refine r_assign hS hH.kp0 rfl rfl ?_; clear hS; intro a hS
            refine Sq.nil ?_
            refine then_n ?_
            refine wp_ret ?_
            refine blk_r ?_
            refine then_r ?_
            refine leave (.inl rfl) hS rfl (Res.tmp rfl Res.nil) ⟨congrArg (fun z => Ending.returned (Value.bool z)) ?_, hH.mod⟩
            first | exact (DF (by unfold mayM; omega)).symm | exact (DT (by unfold mayM; omega)).symm | exact decide_eq_decide.2 (by unfold mayM; omega)

set_option maxRecDepth 100000 in
set_option maxHeartbeats 2000000 in
theorem may_4 (q1 q2 q3 : Option Addr) (c1 c2 c3 : Nat) (rnd shr bnd mrk : List UInt8) (name : ByteArray) (ptl : List ByteArray) (prm tck : List UInt8) (ea ag : Bool) (li : Int) (hrnd : rnd.length = 16) (hshr : shr.length = 16) (hbnd : bnd.length = 16) (hmrk : mrk.length = 16) (w0 : World) (hpl : ptl.length ≤ 1048576) (hpt : SsA w0 q1 c1 ptl) : Calls Try.prog 16 #[.agg ([.int .i64 4] ++ hcells rnd ++ hcells shr ++ [.string name, .slice q1 ptl.length c1, .slice q2 prm.length c2, .slice q3 tck.length c3] ++ hcells bnd ++ [.bool ea, .bool ag] ++ hcells mrk ++ [.int .i64 li] : List Value).toArray] w0 fun e w' => e = .returned (.bool (decide (mayM 4 name.size ptl.length prm.length tck.length (bzN ea bnd) (oddN ptl) li))) ∧ Ext w0 w' := by
  refine enter Try.func16 rfl rfl rfl ?_
  intro a hS
  have hH := Hp.start w0 (Nobody)
  obtain ⟨r0, r1, r2, r3, r4, r5, r6, r7, r8, r9, ra, rb, rc, rd, re, rf, rfl⟩ := len16 hrnd
  obtain ⟨s0, s1, s2, s3, s4, s5, s6, s7, s8, s9, sa, sb, sc, sd, se, sf, rfl⟩ := len16 hshr
  obtain ⟨n0, n1, n2, n3, n4, n5, n6, n7, n8, n9, na, nb, nc, nd, ne, nf, rfl⟩ := len16 hbnd
  obtain ⟨m0, m1, m2, m3, m4, m5, m6, m7, m8, m9, ma, mb, mc, md, me, mf, rfl⟩ := len16 hmrk
  refine c_seq ?_
  refine reg_plain w0 (Nobody) ?_
  refine r_box hS hH (by repeat (first | exact Sub.nil | refine Sub.cons ?_ ?_ | exact In.here | refine In.there ?_)) rfl rfl rfl ?_
  clear hS hH; intro a w b1 hb1 hwb1 hS hH
  refine r_assign hS hH.kp0 rfl rfl ?_; clear hS; intro a hS
  refine Sq.nil ?_
  refine then_n ?_
  refine c_seq ?_
  refine c_seq ?_
  refine reg_plain w0 (Nobody) ?_
  refine r_fieldAddr hS hH.kp0 rfl Fc.fo34_0 rfl ?_; clear hS; intro a hS
  refine r_load_sc hS hH (by repeat (first | exact Sub.nil | refine Sub.cons ?_ ?_ | exact In.here | refine In.there ?_)) rfl (by repeat (first | exact In.here | refine In.there ?_)) Fc.sc3 (by rfl) rfl ?_; clear hS; intro a hS
  refine Sq.nil ?_
  refine then_n ?_
  refine wp_block ?_
  refine c_seq ?_
  refine reg_plain w0 (Nobody) ?_
  refine r_eql hS hH.kp0 rfl rfl rfl ?_; clear hS; intro a hS
  refine r_assign hS hH.kp0 rfl rfl ?_; clear hS; intro a hS
  refine Sq.nil ?_
  refine then_n ?_
  refine c_condF hS rfl rfl ?_
  refine c_seq ?_
  refine reg_plain w0 (Nobody) ?_
  refine r_eql hS hH.kp0 rfl rfl rfl ?_; clear hS; intro a hS
  refine r_assign hS hH.kp0 rfl rfl ?_; clear hS; intro a hS
  refine Sq.nil ?_
  refine then_n ?_
  refine c_condT hS rfl rfl ?_
  refine c_seq ?_
  refine reg_plain w0 (Nobody) ?_
  refine r_fieldAddr hS hH.kp0 rfl Fc.fo34_11 rfl ?_; clear hS; intro a hS
  refine r_load_sc hS hH (by repeat (first | exact Sub.nil | refine Sub.cons ?_ ?_ | exact In.here | refine In.there ?_)) rfl (by repeat (first | exact In.here | refine In.there ?_)) Fc.sc3 (by rfl) rfl ?_; clear hS; intro a hS
  refine r_geq hS hH.kp0 rfl rfl rfl ?_; clear hS; intro a hS
  rcases (by omega : li < 0 ∨ (0 ≤ li ∧ 4294967295 < li) ∨ (0 ≤ li ∧ li ≤ 4294967295)) with hl | ⟨hl, hl2⟩ | ⟨hl, hl2⟩
  · refine r_move hS hH.kp0 rfl rfl ?_; clear hS; intro a hS
    refine Sq.guardNo hS rfl rfl (DF (by omega)) hH.kp0 rfl ?_; clear hS; intro a hS
    refine Sq.guardNo hS rfl rfl (DF (by omega)) hH.kp0 rfl ?_; clear hS; intro a hS
    refine Sq.guardNo hS rfl rfl (DF (by omega)) hH.kp0 rfl ?_; clear hS; intro a hS
    refine r_pickF hS hH.kp0 rfl (DF (by omega)) rfl rfl ?_; clear hS; intro a hS
    refine r_move hS hH.kp0 rfl rfl ?_; clear hS; intro a hS
    refine Sq.guardNo hS rfl rfl rfl hH.kp0 rfl ?_; clear hS; intro a hS
    refine Sq.guardNo hS rfl rfl rfl hH.kp0 rfl ?_; clear hS; intro a hS
    refine Sq.guardNo hS rfl rfl rfl hH.kp0 rfl ?_; clear hS; intro a hS
    refine Sq.guardNo hS rfl rfl rfl hH.kp0 rfl ?_; clear hS; intro a hS
    refine r_pickF hS hH.kp0 rfl rfl rfl rfl ?_; clear hS; intro a hS
    refine r_move hS hH.kp0 rfl rfl ?_; clear hS; intro a hS
    refine Sq.guardNo hS rfl rfl rfl hH.kp0 rfl ?_; clear hS; intro a hS
    refine Sq.guardNo hS rfl rfl rfl hH.kp0 rfl ?_; clear hS; intro a hS
    refine Sq.guardNo hS rfl rfl rfl hH.kp0 rfl ?_; clear hS; intro a hS
    refine Sq.guardNo hS rfl rfl rfl hH.kp0 rfl ?_; clear hS; intro a hS
    refine r_pickF hS hH.kp0 rfl rfl rfl rfl ?_; clear hS; intro a hS
    refine r_assign hS hH.kp0 rfl rfl ?_; clear hS; intro a hS
    refine Sq.nil ?_
    refine then_n ?_
    refine wp_ret ?_
    refine blk_r ?_
    refine then_r ?_
    refine leave (.inl rfl) hS rfl (Res.tmp rfl Res.nil) ⟨congrArg (fun z => Ending.returned (Value.bool z)) ?_, hH.mod⟩
    first | exact (DF (by unfold mayM; omega)).symm | exact (DT (by unfold mayM; omega)).symm | exact decide_eq_decide.2 (by unfold mayM; omega)
  · refine r_move hS hH.kp0 rfl rfl ?_; clear hS; intro a hS
    refine Sq.guardYes hS rfl rfl (DT (by omega)) ?_; refine r_fieldAddr hS hH.kp0 rfl Fc.fo34_11 rfl ?_; clear hS; intro a hS
    refine Sq.guardYes hS rfl rfl (DT (by omega)) ?_; refine r_load_sc hS hH (by repeat (first | exact Sub.nil | refine Sub.cons ?_ ?_ | exact In.here | refine In.there ?_)) rfl (by repeat (first | exact In.here | refine In.there ?_)) Fc.sc3 (by rfl) rfl ?_; clear hS; intro a hS
    refine Sq.guardYes hS rfl rfl (DT (by omega)) ?_; refine r_leq hS hH.kp0 rfl rfl rfl ?_; clear hS; intro a hS
    refine r_pickT hS hH.kp0 rfl (DT (by omega)) rfl rfl ?_; clear hS; intro a hS
    refine r_move hS hH.kp0 rfl rfl ?_; clear hS; intro a hS
    refine Sq.guardNo hS rfl rfl (DF (by omega)) hH.kp0 rfl ?_; clear hS; intro a hS
    refine Sq.guardNo hS rfl rfl (DF (by omega)) hH.kp0 rfl ?_; clear hS; intro a hS
    refine Sq.guardNo hS rfl rfl (DF (by omega)) hH.kp0 rfl ?_; clear hS; intro a hS
    refine Sq.guardNo hS rfl rfl (DF (by omega)) hH.kp0 rfl ?_; clear hS; intro a hS
    refine r_pickF hS hH.kp0 rfl (DF (by omega)) rfl rfl ?_; clear hS; intro a hS
    refine r_move hS hH.kp0 rfl rfl ?_; clear hS; intro a hS
    refine Sq.guardNo hS rfl rfl rfl hH.kp0 rfl ?_; clear hS; intro a hS
    refine Sq.guardNo hS rfl rfl rfl hH.kp0 rfl ?_; clear hS; intro a hS
    refine Sq.guardNo hS rfl rfl rfl hH.kp0 rfl ?_; clear hS; intro a hS
    refine Sq.guardNo hS rfl rfl rfl hH.kp0 rfl ?_; clear hS; intro a hS
    refine r_pickF hS hH.kp0 rfl rfl rfl rfl ?_; clear hS; intro a hS
    refine r_assign hS hH.kp0 rfl rfl ?_; clear hS; intro a hS
    refine Sq.nil ?_
    refine then_n ?_
    refine wp_ret ?_
    refine blk_r ?_
    refine then_r ?_
    refine leave (.inl rfl) hS rfl (Res.tmp rfl Res.nil) ⟨congrArg (fun z => Ending.returned (Value.bool z)) ?_, hH.mod⟩
    first | exact (DF (by unfold mayM; omega)).symm | exact (DT (by unfold mayM; omega)).symm | exact decide_eq_decide.2 (by unfold mayM; omega)
  · refine r_move hS hH.kp0 rfl rfl ?_; clear hS; intro a hS
    refine Sq.guardYes hS rfl rfl (DT (by omega)) ?_; refine r_fieldAddr hS hH.kp0 rfl Fc.fo34_11 rfl ?_; clear hS; intro a hS
    refine Sq.guardYes hS rfl rfl (DT (by omega)) ?_; refine r_load_sc hS hH (by repeat (first | exact Sub.nil | refine Sub.cons ?_ ?_ | exact In.here | refine In.there ?_)) rfl (by repeat (first | exact In.here | refine In.there ?_)) Fc.sc3 (by rfl) rfl ?_; clear hS; intro a hS
    refine Sq.guardYes hS rfl rfl (DT (by omega)) ?_; refine r_leq hS hH.kp0 rfl rfl rfl ?_; clear hS; intro a hS
    refine r_pickT hS hH.kp0 rfl (DT (by omega)) rfl rfl ?_; clear hS; intro a hS
    refine r_move hS hH.kp0 rfl rfl ?_; clear hS; intro a hS
    refine Sq.guardYes hS rfl rfl (DT (by omega)) ?_; refine r_fieldAddr hS hH.kp0 rfl Fc.fo34_6 rfl ?_; clear hS; intro a hS
    refine Sq.guardYes hS rfl rfl (DT (by omega)) ?_; refine r_load_sc hS hH (by repeat (first | exact Sub.nil | refine Sub.cons ?_ ?_ | exact In.here | refine In.there ?_)) rfl (by repeat (first | exact In.here | refine In.there ?_)) Fc.sc25 (by rfl) rfl ?_; clear hS; intro a hS
    refine Sq.guardYes hS rfl rfl (DT (by omega)) ?_; refine r_lenSl hS hH.kp0 rfl Fc.isSlice25 rfl ?_; clear hS; intro a hS
    refine Sq.guardYes hS rfl rfl (DT (by omega)) ?_; refine r_geq hS hH.kp0 rfl rfl rfl ?_; clear hS; intro a hS
    refine r_pickT hS hH.kp0 rfl (DT (by omega)) rfl rfl ?_; clear hS; intro a hS
    rcases (by omega : tck.length < 1 ∨ 1 ≤ tck.length) with ht | ht
    · refine r_move hS hH.kp0 rfl rfl ?_; clear hS; intro a hS
      refine Sq.guardNo hS rfl rfl (DF (by omega)) hH.kp0 rfl ?_; clear hS; intro a hS
      refine Sq.guardNo hS rfl rfl (DF (by omega)) hH.kp0 rfl ?_; clear hS; intro a hS
      refine Sq.guardNo hS rfl rfl (DF (by omega)) hH.kp0 rfl ?_; clear hS; intro a hS
      refine Sq.guardNo hS rfl rfl (DF (by omega)) hH.kp0 rfl ?_; clear hS; intro a hS
      refine r_pickF hS hH.kp0 rfl (DF (by omega)) rfl rfl ?_; clear hS; intro a hS
      refine r_assign hS hH.kp0 rfl rfl ?_; clear hS; intro a hS
      refine Sq.nil ?_
      refine then_n ?_
      refine wp_ret ?_
      refine blk_r ?_
      refine then_r ?_
      refine leave (.inl rfl) hS rfl (Res.tmp rfl Res.nil) ⟨congrArg (fun z => Ending.returned (Value.bool z)) ?_, hH.mod⟩
      first | exact (DF (by unfold mayM; omega)).symm | exact (DT (by unfold mayM; omega)).symm | exact decide_eq_decide.2 (by unfold mayM; omega)
    · refine r_move hS hH.kp0 rfl rfl ?_; clear hS; intro a hS
      refine Sq.guardYes hS rfl rfl (DT (by omega)) ?_; refine r_fieldAddr hS hH.kp0 rfl Fc.fo34_6 rfl ?_; clear hS; intro a hS
      refine Sq.guardYes hS rfl rfl (DT (by omega)) ?_; refine r_load_sc hS hH (by repeat (first | exact Sub.nil | refine Sub.cons ?_ ?_ | exact In.here | refine In.there ?_)) rfl (by repeat (first | exact In.here | refine In.there ?_)) Fc.sc25 (by rfl) rfl ?_; clear hS; intro a hS
      refine Sq.guardYes hS rfl rfl (DT (by omega)) ?_; refine r_lenSl hS hH.kp0 rfl Fc.isSlice25 rfl ?_; clear hS; intro a hS
      refine Sq.guardYes hS rfl rfl (DT (by omega)) ?_; refine r_leq hS hH.kp0 rfl rfl rfl ?_; clear hS; intro a hS
      refine r_pickT hS hH.kp0 rfl (DT (by omega)) rfl rfl ?_; clear hS; intro a hS
      refine r_assign hS hH.kp0 rfl rfl ?_; clear hS; intro a hS
      refine Sq.nil ?_
      refine then_n ?_
      refine wp_ret ?_
      refine blk_r ?_
      refine then_r ?_
      refine leave (.inl rfl) hS rfl (Res.tmp rfl Res.nil) ⟨congrArg (fun z => Ending.returned (Value.bool z)) ?_, hH.mod⟩
      first | exact (DF (by unfold mayM; omega)).symm | exact (DT (by unfold mayM; omega)).symm | exact decide_eq_decide.2 (by unfold mayM; omega)

set_option maxRecDepth 100000 in
set_option maxHeartbeats 2000000 in
theorem may_8 (q1 q2 q3 : Option Addr) (c1 c2 c3 : Nat) (rnd shr bnd mrk : List UInt8) (name : ByteArray) (ptl : List ByteArray) (prm tck : List UInt8) (ea ag : Bool) (li : Int) (hrnd : rnd.length = 16) (hshr : shr.length = 16) (hbnd : bnd.length = 16) (hmrk : mrk.length = 16) (w0 : World) (hpl : ptl.length ≤ 1048576) (hpt : SsA w0 q1 c1 ptl) : Calls Try.prog 16 #[.agg ([.int .i64 8] ++ hcells rnd ++ hcells shr ++ [.string name, .slice q1 ptl.length c1, .slice q2 prm.length c2, .slice q3 tck.length c3] ++ hcells bnd ++ [.bool ea, .bool ag] ++ hcells mrk ++ [.int .i64 li] : List Value).toArray] w0 fun e w' => e = .returned (.bool (decide (mayM 8 name.size ptl.length prm.length tck.length (bzN ea bnd) (oddN ptl) li))) ∧ Ext w0 w' := by
  refine enter Try.func16 rfl rfl rfl ?_
  intro a hS
  have hH := Hp.start w0 (Nobody)
  obtain ⟨r0, r1, r2, r3, r4, r5, r6, r7, r8, r9, ra, rb, rc, rd, re, rf, rfl⟩ := len16 hrnd
  obtain ⟨s0, s1, s2, s3, s4, s5, s6, s7, s8, s9, sa, sb, sc, sd, se, sf, rfl⟩ := len16 hshr
  obtain ⟨n0, n1, n2, n3, n4, n5, n6, n7, n8, n9, na, nb, nc, nd, ne, nf, rfl⟩ := len16 hbnd
  obtain ⟨m0, m1, m2, m3, m4, m5, m6, m7, m8, m9, ma, mb, mc, md, me, mf, rfl⟩ := len16 hmrk
  refine c_seq ?_
  refine reg_plain w0 (Nobody) ?_
  refine r_box hS hH (by repeat (first | exact Sub.nil | refine Sub.cons ?_ ?_ | exact In.here | refine In.there ?_)) rfl rfl rfl ?_
  clear hS hH; intro a w b1 hb1 hwb1 hS hH
  refine r_assign hS hH.kp0 rfl rfl ?_; clear hS; intro a hS
  refine Sq.nil ?_
  refine then_n ?_
  refine c_seq ?_
  refine c_seq ?_
  refine reg_plain w0 (Nobody) ?_
  refine r_fieldAddr hS hH.kp0 rfl Fc.fo34_0 rfl ?_; clear hS; intro a hS
  refine r_load_sc hS hH (by repeat (first | exact Sub.nil | refine Sub.cons ?_ ?_ | exact In.here | refine In.there ?_)) rfl (by repeat (first | exact In.here | refine In.there ?_)) Fc.sc3 (by rfl) rfl ?_; clear hS; intro a hS
  refine Sq.nil ?_
  refine then_n ?_
  refine wp_block ?_
  refine c_seq ?_
  refine reg_plain w0 (Nobody) ?_
  refine r_eql hS hH.kp0 rfl rfl rfl ?_; clear hS; intro a hS
  refine r_assign hS hH.kp0 rfl rfl ?_; clear hS; intro a hS
  refine Sq.nil ?_
  refine then_n ?_
  refine c_condF hS rfl rfl ?_
  refine c_seq ?_
  refine reg_plain w0 (Nobody) ?_
  refine r_eql hS hH.kp0 rfl rfl rfl ?_; clear hS; intro a hS
  refine r_assign hS hH.kp0 rfl rfl ?_; clear hS; intro a hS
  refine Sq.nil ?_
  refine then_n ?_
  refine c_condF hS rfl rfl ?_
  refine c_seq ?_
  refine reg_plain w0 (Nobody) ?_
  refine r_eql hS hH.kp0 rfl rfl rfl ?_; clear hS; intro a hS
  refine r_assign hS hH.kp0 rfl rfl ?_; clear hS; intro a hS
  refine Sq.nil ?_
  refine then_n ?_
  refine c_condT hS rfl rfl ?_
  refine c_seq ?_
  refine reg_plain w0 (Nobody) ?_
  refine r_fieldAddr hS hH.kp0 rfl Fc.fo34_4 rfl ?_; clear hS; intro a hS
  refine r_load_sc hS hH (by repeat (first | exact Sub.nil | refine Sub.cons ?_ ?_ | exact In.here | refine In.there ?_)) rfl (by repeat (first | exact In.here | refine In.there ?_)) Fc.sc24 (by rfl) rfl ?_; clear hS; intro a hS
  refine r_call (l := [.tmp 72, .const (.int .i64 1)]) hS rfl rfl Fc.fn22 rfl ?_
  refine Calls.mono (protos_c q1 c1 ptl 1 (by omega) _ (hpt.ext hH.mod)) ?_
  rintro e w1 ⟨rfl, hE⟩
  replace hH := hH.ext hE
  refine ⟨_, rfl, hH.kp0, ?_⟩
  clear hS; intro a hS
  rcases (by omega : ¬ (1 ≤ ptl.length ∧ ptl.length ≤ 1 ∧ oddN ptl = 0) ∨ (1 ≤ ptl.length ∧ ptl.length ≤ 1 ∧ oddN ptl = 0)) with hN | hN
  · refine r_move hS hH.kp0 rfl rfl ?_; clear hS; intro a hS
    refine Sq.guardNo hS rfl rfl (DF (by omega)) hH.kp0 rfl ?_; clear hS; intro a hS
    refine Sq.guardNo hS rfl rfl (DF (by omega)) hH.kp0 rfl ?_; clear hS; intro a hS
    refine Sq.guardNo hS rfl rfl (DF (by omega)) hH.kp0 rfl ?_; clear hS; intro a hS
    refine Sq.guardNo hS rfl rfl (DF (by omega)) hH.kp0 rfl ?_; clear hS; intro a hS
    refine r_pickF hS hH.kp0 rfl (DF (by omega)) rfl rfl ?_; clear hS; intro a hS
    refine r_assign hS hH.kp0 rfl rfl ?_; clear hS; intro a hS
    refine Sq.nil ?_
    refine then_n ?_
    refine wp_ret ?_
    refine blk_r ?_
    refine then_r ?_
    refine leave (.inl rfl) hS rfl (Res.tmp rfl Res.nil) ⟨congrArg (fun z => Ending.returned (Value.bool z)) ?_, hH.mod⟩
    first | exact (DF (by unfold mayM; omega)).symm | exact (DT (by unfold mayM; omega)).symm | exact decide_eq_decide.2 (by unfold mayM; omega)
  · refine r_move hS hH.kp0 rfl rfl ?_; clear hS; intro a hS
    refine Sq.guardYes hS rfl rfl (DT (by omega)) ?_; refine r_fieldAddr hS hH.kp0 rfl Fc.fo34_5 rfl ?_; clear hS; intro a hS
    refine Sq.guardYes hS rfl rfl (DT (by omega)) ?_; refine r_load_sc hS hH (by repeat (first | exact Sub.nil | refine Sub.cons ?_ ?_ | exact In.here | refine In.there ?_)) rfl (by repeat (first | exact In.here | refine In.there ?_)) Fc.sc25 (by rfl) rfl ?_; clear hS; intro a hS
    refine Sq.guardYes hS rfl rfl (DT (by omega)) ?_; refine r_lenSl hS hH.kp0 rfl Fc.isSlice25 rfl ?_; clear hS; intro a hS
    refine Sq.guardYes hS rfl rfl (DT (by omega)) ?_; refine r_leq hS hH.kp0 rfl rfl rfl ?_; clear hS; intro a hS
    refine r_pickT hS hH.kp0 rfl (DT (by omega)) rfl rfl ?_; clear hS; intro a hS
    refine r_assign hS hH.kp0 rfl rfl ?_; clear hS; intro a hS
    refine Sq.nil ?_
    refine then_n ?_
    refine wp_ret ?_
    refine blk_r ?_
    refine then_r ?_
    refine leave (.inl rfl) hS rfl (Res.tmp rfl Res.nil) ⟨congrArg (fun z => Ending.returned (Value.bool z)) ?_, hH.mod⟩
    first | exact (DF (by unfold mayM; omega)).symm | exact (DT (by unfold mayM; omega)).symm | exact decide_eq_decide.2 (by unfold mayM; omega)

set_option maxRecDepth 100000 in
set_option maxHeartbeats 2000000 in
theorem may_11 (q1 q2 q3 : Option Addr) (c1 c2 c3 : Nat) (rnd shr bnd mrk : List UInt8) (name : ByteArray) (ptl : List ByteArray) (prm tck : List UInt8) (ea ag : Bool) (li : Int) (hrnd : rnd.length = 16) (hshr : shr.length = 16) (hbnd : bnd.length = 16) (hmrk : mrk.length = 16) (w0 : World) (hpl : ptl.length ≤ 1048576) (hpt : SsA w0 q1 c1 ptl) : Calls Try.prog 16 #[.agg ([.int .i64 11] ++ hcells rnd ++ hcells shr ++ [.string name, .slice q1 ptl.length c1, .slice q2 prm.length c2, .slice q3 tck.length c3] ++ hcells bnd ++ [.bool ea, .bool ag] ++ hcells mrk ++ [.int .i64 li] : List Value).toArray] w0 fun e w' => e = .returned (.bool (decide (mayM 11 name.size ptl.length prm.length tck.length (bzN ea bnd) (oddN ptl) li))) ∧ Ext w0 w' := by
  refine enter Try.func16 rfl rfl rfl ?_
  intro a hS
  have hH := Hp.start w0 (Nobody)
  obtain ⟨r0, r1, r2, r3, r4, r5, r6, r7, r8, r9, ra, rb, rc, rd, re, rf, rfl⟩ := len16 hrnd
  obtain ⟨s0, s1, s2, s3, s4, s5, s6, s7, s8, s9, sa, sb, sc, sd, se, sf, rfl⟩ := len16 hshr
  obtain ⟨n0, n1, n2, n3, n4, n5, n6, n7, n8, n9, na, nb, nc, nd, ne, nf, rfl⟩ := len16 hbnd
  obtain ⟨m0, m1, m2, m3, m4, m5, m6, m7, m8, m9, ma, mb, mc, md, me, mf, rfl⟩ := len16 hmrk
  refine c_seq ?_
  refine reg_plain w0 (Nobody) ?_
  refine r_box hS hH (by repeat (first | exact Sub.nil | refine Sub.cons ?_ ?_ | exact In.here | refine In.there ?_)) rfl rfl rfl ?_
  clear hS hH; intro a w b1 hb1 hwb1 hS hH
  refine r_assign hS hH.kp0 rfl rfl ?_; clear hS; intro a hS
  refine Sq.nil ?_
  refine then_n ?_
  refine c_seq ?_
  refine c_seq ?_
  refine reg_plain w0 (Nobody) ?_
  refine r_fieldAddr hS hH.kp0 rfl Fc.fo34_0 rfl ?_; clear hS; intro a hS
  refine r_load_sc hS hH (by repeat (first | exact Sub.nil | refine Sub.cons ?_ ?_ | exact In.here | refine In.there ?_)) rfl (by repeat (first | exact In.here | refine In.there ?_)) Fc.sc3 (by rfl) rfl ?_; clear hS; intro a hS
  refine Sq.nil ?_
  refine then_n ?_
  refine wp_block ?_
  refine c_seq ?_
  refine reg_plain w0 (Nobody) ?_
  refine r_eql hS hH.kp0 rfl rfl rfl ?_; clear hS; intro a hS
  refine r_assign hS hH.kp0 rfl rfl ?_; clear hS; intro a hS
  refine Sq.nil ?_
  refine then_n ?_
  refine c_condF hS rfl rfl ?_
  refine c_seq ?_
  refine reg_plain w0 (Nobody) ?_
  refine r_eql hS hH.kp0 rfl rfl rfl ?_; clear hS; intro a hS
  refine r_assign hS hH.kp0 rfl rfl ?_; clear hS; intro a hS
  refine Sq.nil ?_
  refine then_n ?_
  refine c_condF hS rfl rfl ?_
  refine c_seq ?_
  refine reg_plain w0 (Nobody) ?_
  refine r_eql hS hH.kp0 rfl rfl rfl ?_; clear hS; intro a hS
  refine r_assign hS hH.kp0 rfl rfl ?_; clear hS; intro a hS
  refine Sq.nil ?_
  refine then_n ?_
  refine c_condF hS rfl rfl ?_
  refine c_seq ?_
  refine reg_plain w0 (Nobody) ?_
  refine r_eql hS hH.kp0 rfl rfl rfl ?_; clear hS; intro a hS
  refine r_assign hS hH.kp0 rfl rfl ?_; clear hS; intro a hS
  refine Sq.nil ?_
  refine then_n ?_
  refine c_condT hS rfl rfl ?_
  refine c_seq ?_
  refine reg_plain w0 (Nobody) ?_
  refine r_fieldAddr hS hH.kp0 rfl Fc.fo34_3 rfl ?_; clear hS; intro a hS
  refine r_load_sc hS hH (by repeat (first | exact Sub.nil | refine Sub.cons ?_ ?_ | exact In.here | refine In.there ?_)) rfl (by repeat (first | exact In.here | refine In.there ?_)) Fc.sc9 (by rfl) rfl ?_; clear hS; intro a hS
  refine r_lenStr hS hH.kp0 rfl Fc.isStr9 rfl ?_; clear hS; intro a hS
  refine r_leq hS hH.kp0 rfl rfl rfl ?_; clear hS; intro a hS
  refine r_assign hS hH.kp0 rfl rfl ?_; clear hS; intro a hS
  refine Sq.nil ?_
  refine then_n ?_
  refine wp_ret ?_
  refine blk_r ?_
  refine then_r ?_
  refine leave (.inl rfl) hS rfl (Res.tmp rfl Res.nil) ⟨congrArg (fun z => Ending.returned (Value.bool z)) ?_, hH.mod⟩
  first | exact (DF (by unfold mayM; omega)).symm | exact (DT (by unfold mayM; omega)).symm | exact decide_eq_decide.2 (by unfold mayM; omega)

set_option maxRecDepth 100000 in
set_option maxHeartbeats 2000000 in
theorem may_x (kd : Int) (q1 q2 q3 : Option Addr) (c1 c2 c3 : Nat) (rnd shr bnd mrk : List UInt8) (name : ByteArray) (ptl : List ByteArray) (prm tck : List UInt8) (ea ag : Bool) (li : Int) (hrnd : rnd.length = 16) (hshr : shr.length = 16) (hbnd : bnd.length = 16) (hmrk : mrk.length = 16) (hk : kd ≠ 1 ∧ kd ≠ 4 ∧ kd ≠ 8 ∧ kd ≠ 11) (w0 : World) (hpl : ptl.length ≤ 1048576) (hpt : SsA w0 q1 c1 ptl) : Calls Try.prog 16 #[.agg ([.int .i64 kd] ++ hcells rnd ++ hcells shr ++ [.string name, .slice q1 ptl.length c1, .slice q2 prm.length c2, .slice q3 tck.length c3] ++ hcells bnd ++ [.bool ea, .bool ag] ++ hcells mrk ++ [.int .i64 li] : List Value).toArray] w0 fun e w' => e = .returned (.bool (decide (mayM kd name.size ptl.length prm.length tck.length (bzN ea bnd) (oddN ptl) li))) ∧ Ext w0 w' := by
  refine enter Try.func16 rfl rfl rfl ?_
  intro a hS
  have hH := Hp.start w0 (Nobody)
  obtain ⟨r0, r1, r2, r3, r4, r5, r6, r7, r8, r9, ra, rb, rc, rd, re, rf, rfl⟩ := len16 hrnd
  obtain ⟨s0, s1, s2, s3, s4, s5, s6, s7, s8, s9, sa, sb, sc, sd, se, sf, rfl⟩ := len16 hshr
  obtain ⟨n0, n1, n2, n3, n4, n5, n6, n7, n8, n9, na, nb, nc, nd, ne, nf, rfl⟩ := len16 hbnd
  obtain ⟨m0, m1, m2, m3, m4, m5, m6, m7, m8, m9, ma, mb, mc, md, me, mf, rfl⟩ := len16 hmrk
  refine c_seq ?_
  refine reg_plain w0 (Nobody) ?_
  refine r_box hS hH (by repeat (first | exact Sub.nil | refine Sub.cons ?_ ?_ | exact In.here | refine In.there ?_)) rfl rfl rfl ?_
  clear hS hH; intro a w b1 hb1 hwb1 hS hH
  refine r_assign hS hH.kp0 rfl rfl ?_; clear hS; intro a hS
  refine Sq.nil ?_
  refine then_n ?_
  refine c_seq ?_
  refine c_seq ?_
  refine reg_plain w0 (Nobody) ?_
  refine r_fieldAddr hS hH.kp0 rfl Fc.fo34_0 rfl ?_; clear hS; intro a hS
  refine r_load_sc hS hH (by repeat (first | exact Sub.nil | refine Sub.cons ?_ ?_ | exact In.here | refine In.there ?_)) rfl (by repeat (first | exact In.here | refine In.there ?_)) Fc.sc3 (by rfl) rfl ?_; clear hS; intro a hS
  refine Sq.nil ?_
  refine then_n ?_
  refine wp_block ?_
  refine c_seq ?_
  refine reg_plain w0 (Nobody) ?_
  refine r_eql hS hH.kp0 rfl rfl rfl ?_; clear hS; intro a hS
  refine r_assign hS hH.kp0 rfl rfl ?_; clear hS; intro a hS
  refine Sq.nil ?_
  refine then_n ?_
  refine c_condF hS rfl (DF (by omega)) ?_
  refine c_seq ?_
  refine reg_plain w0 (Nobody) ?_
  refine r_eql hS hH.kp0 rfl rfl rfl ?_; clear hS; intro a hS
  refine r_assign hS hH.kp0 rfl rfl ?_; clear hS; intro a hS
  refine Sq.nil ?_
  refine then_n ?_
  refine c_condF hS rfl (DF (by omega)) ?_
  refine c_seq ?_
  refine reg_plain w0 (Nobody) ?_
  refine r_eql hS hH.kp0 rfl rfl rfl ?_; clear hS; intro a hS
  refine r_assign hS hH.kp0 rfl rfl ?_; clear hS; intro a hS
  refine Sq.nil ?_
  refine then_n ?_
  refine c_condF hS rfl (DF (by omega)) ?_
  refine c_seq ?_
  refine reg_plain w0 (Nobody) ?_
  refine r_eql hS hH.kp0 rfl rfl rfl ?_; clear hS; intro a hS
  refine r_assign hS hH.kp0 rfl rfl ?_; clear hS; intro a hS
  refine Sq.nil ?_
  refine then_n ?_
  refine c_condF hS rfl (DF (by omega)) ?_
  refine wp_skip ?_
  refine blk_n ?_
  refine then_n ?_
  refine c_seq ?_
  refine reg_plain w0 (Nobody) ?_
  refine r_assign hS hH.kp0 rfl rfl ?_; clear hS; intro a hS
  refine Sq.nil ?_
  refine then_n ?_
  refine wp_ret ?_
  refine leave (.inl rfl) hS rfl (Res.tmp rfl Res.nil) ⟨congrArg (fun z => Ending.returned (Value.bool z)) ?_, hH.mod⟩
  first | exact (DF (by unfold mayM; omega)).symm | exact (DT (by unfold mayM; omega)).symm | exact decide_eq_decide.2 (by unfold mayM; omega)


theorem may_c (kd : Int) (q1 q2 q3 : Option Addr) (c1 c2 c3 : Nat) (rnd shr bnd mrk : List UInt8) (name : ByteArray) (ptl : List ByteArray) (prm tck : List UInt8) (ea ag : Bool) (li : Int) (hrnd : rnd.length = 16) (hshr : shr.length = 16) (hbnd : bnd.length = 16) (hmrk : mrk.length = 16) (w0 : World) (hpl : ptl.length ≤ 1048576) (hpt : SsA w0 q1 c1 ptl) : Calls Try.prog 16 #[.agg ([.int .i64 kd] ++ hcells rnd ++ hcells shr ++ [.string name, .slice q1 ptl.length c1, .slice q2 prm.length c2, .slice q3 tck.length c3] ++ hcells bnd ++ [.bool ea, .bool ag] ++ hcells mrk ++ [.int .i64 li] : List Value).toArray] w0 fun e w' => e = .returned (.bool (decide (mayM kd name.size ptl.length prm.length tck.length (bzN ea bnd) (oddN ptl) li))) ∧ Ext w0 w' := by
  rcases (by omega : kd = 1 ∨ kd = 4 ∨ kd = 8 ∨ kd = 11 ∨ (kd ≠ 1 ∧ kd ≠ 4 ∧ kd ≠ 8 ∧ kd ≠ 11)) with rfl | rfl | rfl | rfl | hk
  · exact may_1 q1 q2 q3 c1 c2 c3 rnd shr bnd mrk name ptl prm tck ea ag li hrnd hshr hbnd hmrk w0 hpl hpt
  · exact may_4 q1 q2 q3 c1 c2 c3 rnd shr bnd mrk name ptl prm tck ea ag li hrnd hshr hbnd hmrk w0 hpl hpt
  · exact may_8 q1 q2 q3 c1 c2 c3 rnd shr bnd mrk name ptl prm tck ea ag li hrnd hshr hbnd hmrk w0 hpl hpt
  · exact may_11 q1 q2 q3 c1 c2 c3 rnd shr bnd mrk name ptl prm tck ea ag li hrnd hshr hbnd hmrk w0 hpl hpt
  · exact may_x kd q1 q2 q3 c1 c2 c3 rnd shr bnd mrk name ptl prm tck ea ag li hrnd hshr hbnd hmrk hk w0 hpl hpt

set_option maxRecDepth 100000 in
set_option maxHeartbeats 2000000 in
theorem known_c (kd : Int) (w0 : World) : Calls Try.prog 15 #[.int .i64 kd] w0 fun e w' => e = .returned (.bool (decide (kd = 1 ∨ kd = 2 ∨ kd = 4 ∨ kd = 8 ∨ kd = 11 ∨ kd = 15 ∨ kd = 20))) ∧ Ext w0 w' := by
  refine enter Try.func15 rfl rfl rfl ?_
  intro a hS
  have hH := Hp.start w0 (Nobody)
  refine c_seq ?_
  refine reg_plain w0 (Nobody) ?_
  refine r_assign hS hH.kp0 rfl rfl ?_; clear hS; intro a hS
  refine Sq.nil ?_
  refine then_n ?_
  refine c_seq ?_
  refine reg_plain w0 (Nobody) ?_
  refine r_move hS hH.kp0 rfl rfl ?_; clear hS; intro a hS
  refine r_eql hS hH.kp0 rfl rfl rfl ?_; clear hS; intro a hS
  rcases (by omega : kd = 1 ∨ kd = 2 ∨ kd = 4 ∨ kd = 8 ∨ kd = 11 ∨ kd = 15 ∨ kd = 20 ∨ (kd ≠ 1 ∧ kd ≠ 2 ∧ kd ≠ 4 ∧ kd ≠ 8 ∧ kd ≠ 11 ∧ kd ≠ 15 ∧ kd ≠ 20)) with h | h | h | h | h | h | h | h
  · refine r_move hS hH.kp0 rfl rfl ?_; clear hS; intro a hS
    refine Sq.guardNo hS rfl rfl (DT (by omega)) hH.kp0 rfl ?_; clear hS; intro a hS
    refine Sq.guardNo hS rfl rfl (DT (by omega)) hH.kp0 rfl ?_; clear hS; intro a hS
    refine r_pickT hS hH.kp0 rfl (DT (by omega)) rfl rfl ?_; clear hS; intro a hS
    refine r_move hS hH.kp0 rfl rfl ?_; clear hS; intro a hS
    refine Sq.guardNo hS rfl rfl rfl hH.kp0 rfl ?_; clear hS; intro a hS
    refine Sq.guardNo hS rfl rfl rfl hH.kp0 rfl ?_; clear hS; intro a hS
    refine r_pickT hS hH.kp0 rfl rfl rfl rfl ?_; clear hS; intro a hS
    refine r_move hS hH.kp0 rfl rfl ?_; clear hS; intro a hS
    refine Sq.guardNo hS rfl rfl rfl hH.kp0 rfl ?_; clear hS; intro a hS
    refine Sq.guardNo hS rfl rfl rfl hH.kp0 rfl ?_; clear hS; intro a hS
    refine r_pickT hS hH.kp0 rfl rfl rfl rfl ?_; clear hS; intro a hS
    refine r_move hS hH.kp0 rfl rfl ?_; clear hS; intro a hS
    refine Sq.guardNo hS rfl rfl rfl hH.kp0 rfl ?_; clear hS; intro a hS
    refine Sq.guardNo hS rfl rfl rfl hH.kp0 rfl ?_; clear hS; intro a hS
    refine r_pickT hS hH.kp0 rfl rfl rfl rfl ?_; clear hS; intro a hS
    refine r_move hS hH.kp0 rfl rfl ?_; clear hS; intro a hS
    refine Sq.guardNo hS rfl rfl rfl hH.kp0 rfl ?_; clear hS; intro a hS
    refine Sq.guardNo hS rfl rfl rfl hH.kp0 rfl ?_; clear hS; intro a hS
    refine r_pickT hS hH.kp0 rfl rfl rfl rfl ?_; clear hS; intro a hS
    refine r_move hS hH.kp0 rfl rfl ?_; clear hS; intro a hS
    refine Sq.guardNo hS rfl rfl rfl hH.kp0 rfl ?_; clear hS; intro a hS
    refine Sq.guardNo hS rfl rfl rfl hH.kp0 rfl ?_; clear hS; intro a hS
    refine r_pickT hS hH.kp0 rfl rfl rfl rfl ?_; clear hS; intro a hS
    refine r_assign hS hH.kp0 rfl rfl ?_; clear hS; intro a hS
    refine Sq.nil ?_
    refine then_n ?_
    refine wp_ret ?_
    refine leave (.inl rfl) hS rfl (Res.tmp rfl Res.nil) ⟨congrArg (fun z => Ending.returned (Value.bool z)) ?_, hH.mod⟩
    first | exact (DT (by omega)).symm | exact (beq_iff_eq.2 (by omega)).trans (DT (by omega)).symm | exact (beq_false_of_ne (by omega)).trans (DF (by omega)).symm | exact (DF (by omega)).symm
  · refine r_move hS hH.kp0 rfl rfl ?_; clear hS; intro a hS
    refine Sq.guardYes hS rfl rfl (DF (by omega)) ?_; refine r_move hS hH.kp0 rfl rfl ?_; clear hS; intro a hS
    refine Sq.guardYes hS rfl rfl (DF (by omega)) ?_; refine r_eql hS hH.kp0 rfl rfl rfl ?_; clear hS; intro a hS
    refine r_pickF hS hH.kp0 rfl (DF (by omega)) rfl rfl ?_; clear hS; intro a hS
    refine r_move hS hH.kp0 rfl rfl ?_; clear hS; intro a hS
    refine Sq.guardNo hS rfl rfl (DT (by omega)) hH.kp0 rfl ?_; clear hS; intro a hS
    refine Sq.guardNo hS rfl rfl (DT (by omega)) hH.kp0 rfl ?_; clear hS; intro a hS
    refine r_pickT hS hH.kp0 rfl (DT (by omega)) rfl rfl ?_; clear hS; intro a hS
    refine r_move hS hH.kp0 rfl rfl ?_; clear hS; intro a hS
    refine Sq.guardNo hS rfl rfl rfl hH.kp0 rfl ?_; clear hS; intro a hS
    refine Sq.guardNo hS rfl rfl rfl hH.kp0 rfl ?_; clear hS; intro a hS
    refine r_pickT hS hH.kp0 rfl rfl rfl rfl ?_; clear hS; intro a hS
    refine r_move hS hH.kp0 rfl rfl ?_; clear hS; intro a hS
    refine Sq.guardNo hS rfl rfl rfl hH.kp0 rfl ?_; clear hS; intro a hS
    refine Sq.guardNo hS rfl rfl rfl hH.kp0 rfl ?_; clear hS; intro a hS
    refine r_pickT hS hH.kp0 rfl rfl rfl rfl ?_; clear hS; intro a hS
    refine r_move hS hH.kp0 rfl rfl ?_; clear hS; intro a hS
    refine Sq.guardNo hS rfl rfl rfl hH.kp0 rfl ?_; clear hS; intro a hS
    refine Sq.guardNo hS rfl rfl rfl hH.kp0 rfl ?_; clear hS; intro a hS
    refine r_pickT hS hH.kp0 rfl rfl rfl rfl ?_; clear hS; intro a hS
    refine r_move hS hH.kp0 rfl rfl ?_; clear hS; intro a hS
    refine Sq.guardNo hS rfl rfl rfl hH.kp0 rfl ?_; clear hS; intro a hS
    refine Sq.guardNo hS rfl rfl rfl hH.kp0 rfl ?_; clear hS; intro a hS
    refine r_pickT hS hH.kp0 rfl rfl rfl rfl ?_; clear hS; intro a hS
    refine r_assign hS hH.kp0 rfl rfl ?_; clear hS; intro a hS
    refine Sq.nil ?_
    refine then_n ?_
    refine wp_ret ?_
    refine leave (.inl rfl) hS rfl (Res.tmp rfl Res.nil) ⟨congrArg (fun z => Ending.returned (Value.bool z)) ?_, hH.mod⟩
    first | exact (DT (by omega)).symm | exact (beq_iff_eq.2 (by omega)).trans (DT (by omega)).symm | exact (beq_false_of_ne (by omega)).trans (DF (by omega)).symm | exact (DF (by omega)).symm
  · refine r_move hS hH.kp0 rfl rfl ?_; clear hS; intro a hS
    refine Sq.guardYes hS rfl rfl (DF (by omega)) ?_; refine r_move hS hH.kp0 rfl rfl ?_; clear hS; intro a hS
    refine Sq.guardYes hS rfl rfl (DF (by omega)) ?_; refine r_eql hS hH.kp0 rfl rfl rfl ?_; clear hS; intro a hS
    refine r_pickF hS hH.kp0 rfl (DF (by omega)) rfl rfl ?_; clear hS; intro a hS
    refine r_move hS hH.kp0 rfl rfl ?_; clear hS; intro a hS
    refine Sq.guardYes hS rfl rfl (DF (by omega)) ?_; refine r_move hS hH.kp0 rfl rfl ?_; clear hS; intro a hS
    refine Sq.guardYes hS rfl rfl (DF (by omega)) ?_; refine r_eql hS hH.kp0 rfl rfl rfl ?_; clear hS; intro a hS
    refine r_pickF hS hH.kp0 rfl (DF (by omega)) rfl rfl ?_; clear hS; intro a hS
    refine r_move hS hH.kp0 rfl rfl ?_; clear hS; intro a hS
    refine Sq.guardNo hS rfl rfl (DT (by omega)) hH.kp0 rfl ?_; clear hS; intro a hS
    refine Sq.guardNo hS rfl rfl (DT (by omega)) hH.kp0 rfl ?_; clear hS; intro a hS
    refine r_pickT hS hH.kp0 rfl (DT (by omega)) rfl rfl ?_; clear hS; intro a hS
    refine r_move hS hH.kp0 rfl rfl ?_; clear hS; intro a hS
    refine Sq.guardNo hS rfl rfl rfl hH.kp0 rfl ?_; clear hS; intro a hS
    refine Sq.guardNo hS rfl rfl rfl hH.kp0 rfl ?_; clear hS; intro a hS
    refine r_pickT hS hH.kp0 rfl rfl rfl rfl ?_; clear hS; intro a hS
    refine r_move hS hH.kp0 rfl rfl ?_; clear hS; intro a hS
    refine Sq.guardNo hS rfl rfl rfl hH.kp0 rfl ?_; clear hS; intro a hS
    refine Sq.guardNo hS rfl rfl rfl hH.kp0 rfl ?_; clear hS; intro a hS
    refine r_pickT hS hH.kp0 rfl rfl rfl rfl ?_; clear hS; intro a hS
    refine r_move hS hH.kp0 rfl rfl ?_; clear hS; intro a hS
    refine Sq.guardNo hS rfl rfl rfl hH.kp0 rfl ?_; clear hS; intro a hS
    refine Sq.guardNo hS rfl rfl rfl hH.kp0 rfl ?_; clear hS; intro a hS
    refine r_pickT hS hH.kp0 rfl rfl rfl rfl ?_; clear hS; intro a hS
    refine r_assign hS hH.kp0 rfl rfl ?_; clear hS; intro a hS
    refine Sq.nil ?_
    refine then_n ?_
    refine wp_ret ?_
    refine leave (.inl rfl) hS rfl (Res.tmp rfl Res.nil) ⟨congrArg (fun z => Ending.returned (Value.bool z)) ?_, hH.mod⟩
    first | exact (DT (by omega)).symm | exact (beq_iff_eq.2 (by omega)).trans (DT (by omega)).symm | exact (beq_false_of_ne (by omega)).trans (DF (by omega)).symm | exact (DF (by omega)).symm
  · refine r_move hS hH.kp0 rfl rfl ?_; clear hS; intro a hS
    refine Sq.guardYes hS rfl rfl (DF (by omega)) ?_; refine r_move hS hH.kp0 rfl rfl ?_; clear hS; intro a hS
    refine Sq.guardYes hS rfl rfl (DF (by omega)) ?_; refine r_eql hS hH.kp0 rfl rfl rfl ?_; clear hS; intro a hS
    refine r_pickF hS hH.kp0 rfl (DF (by omega)) rfl rfl ?_; clear hS; intro a hS
    refine r_move hS hH.kp0 rfl rfl ?_; clear hS; intro a hS
    refine Sq.guardYes hS rfl rfl (DF (by omega)) ?_; refine r_move hS hH.kp0 rfl rfl ?_; clear hS; intro a hS
    refine Sq.guardYes hS rfl rfl (DF (by omega)) ?_; refine r_eql hS hH.kp0 rfl rfl rfl ?_; clear hS; intro a hS
    refine r_pickF hS hH.kp0 rfl (DF (by omega)) rfl rfl ?_; clear hS; intro a hS
    refine r_move hS hH.kp0 rfl rfl ?_; clear hS; intro a hS
    refine Sq.guardYes hS rfl rfl (DF (by omega)) ?_; refine r_move hS hH.kp0 rfl rfl ?_; clear hS; intro a hS
    refine Sq.guardYes hS rfl rfl (DF (by omega)) ?_; refine r_eql hS hH.kp0 rfl rfl rfl ?_; clear hS; intro a hS
    refine r_pickF hS hH.kp0 rfl (DF (by omega)) rfl rfl ?_; clear hS; intro a hS
    refine r_move hS hH.kp0 rfl rfl ?_; clear hS; intro a hS
    refine Sq.guardNo hS rfl rfl (DT (by omega)) hH.kp0 rfl ?_; clear hS; intro a hS
    refine Sq.guardNo hS rfl rfl (DT (by omega)) hH.kp0 rfl ?_; clear hS; intro a hS
    refine r_pickT hS hH.kp0 rfl (DT (by omega)) rfl rfl ?_; clear hS; intro a hS
    refine r_move hS hH.kp0 rfl rfl ?_; clear hS; intro a hS
    refine Sq.guardNo hS rfl rfl rfl hH.kp0 rfl ?_; clear hS; intro a hS
    refine Sq.guardNo hS rfl rfl rfl hH.kp0 rfl ?_; clear hS; intro a hS
    refine r_pickT hS hH.kp0 rfl rfl rfl rfl ?_; clear hS; intro a hS
    refine r_move hS hH.kp0 rfl rfl ?_; clear hS; intro a hS
    refine Sq.guardNo hS rfl rfl rfl hH.kp0 rfl ?_; clear hS; intro a hS
    refine Sq.guardNo hS rfl rfl rfl hH.kp0 rfl ?_; clear hS; intro a hS
    refine r_pickT hS hH.kp0 rfl rfl rfl rfl ?_; clear hS; intro a hS
    refine r_assign hS hH.kp0 rfl rfl ?_; clear hS; intro a hS
    refine Sq.nil ?_
    refine then_n ?_
    refine wp_ret ?_
    refine leave (.inl rfl) hS rfl (Res.tmp rfl Res.nil) ⟨congrArg (fun z => Ending.returned (Value.bool z)) ?_, hH.mod⟩
    first | exact (DT (by omega)).symm | exact (beq_iff_eq.2 (by omega)).trans (DT (by omega)).symm | exact (beq_false_of_ne (by omega)).trans (DF (by omega)).symm | exact (DF (by omega)).symm
  · refine r_move hS hH.kp0 rfl rfl ?_; clear hS; intro a hS
    refine Sq.guardYes hS rfl rfl (DF (by omega)) ?_; refine r_move hS hH.kp0 rfl rfl ?_; clear hS; intro a hS
    refine Sq.guardYes hS rfl rfl (DF (by omega)) ?_; refine r_eql hS hH.kp0 rfl rfl rfl ?_; clear hS; intro a hS
    refine r_pickF hS hH.kp0 rfl (DF (by omega)) rfl rfl ?_; clear hS; intro a hS
    refine r_move hS hH.kp0 rfl rfl ?_; clear hS; intro a hS
    refine Sq.guardYes hS rfl rfl (DF (by omega)) ?_; refine r_move hS hH.kp0 rfl rfl ?_; clear hS; intro a hS
    refine Sq.guardYes hS rfl rfl (DF (by omega)) ?_; refine r_eql hS hH.kp0 rfl rfl rfl ?_; clear hS; intro a hS
    refine r_pickF hS hH.kp0 rfl (DF (by omega)) rfl rfl ?_; clear hS; intro a hS
    refine r_move hS hH.kp0 rfl rfl ?_; clear hS; intro a hS
    refine Sq.guardYes hS rfl rfl (DF (by omega)) ?_; refine r_move hS hH.kp0 rfl rfl ?_; clear hS; intro a hS
    refine Sq.guardYes hS rfl rfl (DF (by omega)) ?_; refine r_eql hS hH.kp0 rfl rfl rfl ?_; clear hS; intro a hS
    refine r_pickF hS hH.kp0 rfl (DF (by omega)) rfl rfl ?_; clear hS; intro a hS
    refine r_move hS hH.kp0 rfl rfl ?_; clear hS; intro a hS
    refine Sq.guardYes hS rfl rfl (DF (by omega)) ?_; refine r_move hS hH.kp0 rfl rfl ?_; clear hS; intro a hS
    refine Sq.guardYes hS rfl rfl (DF (by omega)) ?_; refine r_eql hS hH.kp0 rfl rfl rfl ?_; clear hS; intro a hS
    refine r_pickF hS hH.kp0 rfl (DF (by omega)) rfl rfl ?_; clear hS; intro a hS
    refine r_move hS hH.kp0 rfl rfl ?_; clear hS; intro a hS
    refine Sq.guardNo hS rfl rfl (DT (by omega)) hH.kp0 rfl ?_; clear hS; intro a hS
    refine Sq.guardNo hS rfl rfl (DT (by omega)) hH.kp0 rfl ?_; clear hS; intro a hS
    refine r_pickT hS hH.kp0 rfl (DT (by omega)) rfl rfl ?_; clear hS; intro a hS
    refine r_move hS hH.kp0 rfl rfl ?_; clear hS; intro a hS
    refine Sq.guardNo hS rfl rfl rfl hH.kp0 rfl ?_; clear hS; intro a hS
    refine Sq.guardNo hS rfl rfl rfl hH.kp0 rfl ?_; clear hS; intro a hS
    refine r_pickT hS hH.kp0 rfl rfl rfl rfl ?_; clear hS; intro a hS
    refine r_assign hS hH.kp0 rfl rfl ?_; clear hS; intro a hS
    refine Sq.nil ?_
    refine then_n ?_
    refine wp_ret ?_
    refine leave (.inl rfl) hS rfl (Res.tmp rfl Res.nil) ⟨congrArg (fun z => Ending.returned (Value.bool z)) ?_, hH.mod⟩
    first | exact (DT (by omega)).symm | exact (beq_iff_eq.2 (by omega)).trans (DT (by omega)).symm | exact (beq_false_of_ne (by omega)).trans (DF (by omega)).symm | exact (DF (by omega)).symm
  · refine r_move hS hH.kp0 rfl rfl ?_; clear hS; intro a hS
    refine Sq.guardYes hS rfl rfl (DF (by omega)) ?_; refine r_move hS hH.kp0 rfl rfl ?_; clear hS; intro a hS
    refine Sq.guardYes hS rfl rfl (DF (by omega)) ?_; refine r_eql hS hH.kp0 rfl rfl rfl ?_; clear hS; intro a hS
    refine r_pickF hS hH.kp0 rfl (DF (by omega)) rfl rfl ?_; clear hS; intro a hS
    refine r_move hS hH.kp0 rfl rfl ?_; clear hS; intro a hS
    refine Sq.guardYes hS rfl rfl (DF (by omega)) ?_; refine r_move hS hH.kp0 rfl rfl ?_; clear hS; intro a hS
    refine Sq.guardYes hS rfl rfl (DF (by omega)) ?_; refine r_eql hS hH.kp0 rfl rfl rfl ?_; clear hS; intro a hS
    refine r_pickF hS hH.kp0 rfl (DF (by omega)) rfl rfl ?_; clear hS; intro a hS
    refine r_move hS hH.kp0 rfl rfl ?_; clear hS; intro a hS
    refine Sq.guardYes hS rfl rfl (DF (by omega)) ?_; refine r_move hS hH.kp0 rfl rfl ?_; clear hS; intro a hS
    refine Sq.guardYes hS rfl rfl (DF (by omega)) ?_; refine r_eql hS hH.kp0 rfl rfl rfl ?_; clear hS; intro a hS
    refine r_pickF hS hH.kp0 rfl (DF (by omega)) rfl rfl ?_; clear hS; intro a hS
    refine r_move hS hH.kp0 rfl rfl ?_; clear hS; intro a hS
    refine Sq.guardYes hS rfl rfl (DF (by omega)) ?_; refine r_move hS hH.kp0 rfl rfl ?_; clear hS; intro a hS
    refine Sq.guardYes hS rfl rfl (DF (by omega)) ?_; refine r_eql hS hH.kp0 rfl rfl rfl ?_; clear hS; intro a hS
    refine r_pickF hS hH.kp0 rfl (DF (by omega)) rfl rfl ?_; clear hS; intro a hS
    refine r_move hS hH.kp0 rfl rfl ?_; clear hS; intro a hS
    refine Sq.guardYes hS rfl rfl (DF (by omega)) ?_; refine r_move hS hH.kp0 rfl rfl ?_; clear hS; intro a hS
    refine Sq.guardYes hS rfl rfl (DF (by omega)) ?_; refine r_eql hS hH.kp0 rfl rfl rfl ?_; clear hS; intro a hS
    refine r_pickF hS hH.kp0 rfl (DF (by omega)) rfl rfl ?_; clear hS; intro a hS
    refine r_move hS hH.kp0 rfl rfl ?_; clear hS; intro a hS
    refine Sq.guardNo hS rfl rfl (DT (by omega)) hH.kp0 rfl ?_; clear hS; intro a hS
    refine Sq.guardNo hS rfl rfl (DT (by omega)) hH.kp0 rfl ?_; clear hS; intro a hS
    refine r_pickT hS hH.kp0 rfl (DT (by omega)) rfl rfl ?_; clear hS; intro a hS
    refine r_assign hS hH.kp0 rfl rfl ?_; clear hS; intro a hS
    refine Sq.nil ?_
    refine then_n ?_
    refine wp_ret ?_
    refine leave (.inl rfl) hS rfl (Res.tmp rfl Res.nil) ⟨congrArg (fun z => Ending.returned (Value.bool z)) ?_, hH.mod⟩
    first | exact (DT (by omega)).symm | exact (beq_iff_eq.2 (by omega)).trans (DT (by omega)).symm | exact (beq_false_of_ne (by omega)).trans (DF (by omega)).symm | exact (DF (by omega)).symm
  · refine r_move hS hH.kp0 rfl rfl ?_; clear hS; intro a hS
    refine Sq.guardYes hS rfl rfl (DF (by omega)) ?_; refine r_move hS hH.kp0 rfl rfl ?_; clear hS; intro a hS
    refine Sq.guardYes hS rfl rfl (DF (by omega)) ?_; refine r_eql hS hH.kp0 rfl rfl rfl ?_; clear hS; intro a hS
    refine r_pickF hS hH.kp0 rfl (DF (by omega)) rfl rfl ?_; clear hS; intro a hS
    refine r_move hS hH.kp0 rfl rfl ?_; clear hS; intro a hS
    refine Sq.guardYes hS rfl rfl (DF (by omega)) ?_; refine r_move hS hH.kp0 rfl rfl ?_; clear hS; intro a hS
    refine Sq.guardYes hS rfl rfl (DF (by omega)) ?_; refine r_eql hS hH.kp0 rfl rfl rfl ?_; clear hS; intro a hS
    refine r_pickF hS hH.kp0 rfl (DF (by omega)) rfl rfl ?_; clear hS; intro a hS
    refine r_move hS hH.kp0 rfl rfl ?_; clear hS; intro a hS
    refine Sq.guardYes hS rfl rfl (DF (by omega)) ?_; refine r_move hS hH.kp0 rfl rfl ?_; clear hS; intro a hS
    refine Sq.guardYes hS rfl rfl (DF (by omega)) ?_; refine r_eql hS hH.kp0 rfl rfl rfl ?_; clear hS; intro a hS
    refine r_pickF hS hH.kp0 rfl (DF (by omega)) rfl rfl ?_; clear hS; intro a hS
    refine r_move hS hH.kp0 rfl rfl ?_; clear hS; intro a hS
    refine Sq.guardYes hS rfl rfl (DF (by omega)) ?_; refine r_move hS hH.kp0 rfl rfl ?_; clear hS; intro a hS
    refine Sq.guardYes hS rfl rfl (DF (by omega)) ?_; refine r_eql hS hH.kp0 rfl rfl rfl ?_; clear hS; intro a hS
    refine r_pickF hS hH.kp0 rfl (DF (by omega)) rfl rfl ?_; clear hS; intro a hS
    refine r_move hS hH.kp0 rfl rfl ?_; clear hS; intro a hS
    refine Sq.guardYes hS rfl rfl (DF (by omega)) ?_; refine r_move hS hH.kp0 rfl rfl ?_; clear hS; intro a hS
    refine Sq.guardYes hS rfl rfl (DF (by omega)) ?_; refine r_eql hS hH.kp0 rfl rfl rfl ?_; clear hS; intro a hS
    refine r_pickF hS hH.kp0 rfl (DF (by omega)) rfl rfl ?_; clear hS; intro a hS
    refine r_move hS hH.kp0 rfl rfl ?_; clear hS; intro a hS
    refine Sq.guardYes hS rfl rfl (DF (by omega)) ?_; refine r_move hS hH.kp0 rfl rfl ?_; clear hS; intro a hS
    refine Sq.guardYes hS rfl rfl (DF (by omega)) ?_; refine r_eql hS hH.kp0 rfl rfl rfl ?_; clear hS; intro a hS
    refine r_pickF hS hH.kp0 rfl (DF (by omega)) rfl rfl ?_; clear hS; intro a hS
    refine r_assign hS hH.kp0 rfl rfl ?_; clear hS; intro a hS
    refine Sq.nil ?_
    refine then_n ?_
    refine wp_ret ?_
    refine leave (.inl rfl) hS rfl (Res.tmp rfl Res.nil) ⟨congrArg (fun z => Ending.returned (Value.bool z)) ?_, hH.mod⟩
    first | exact (DT (by omega)).symm | exact (beq_iff_eq.2 (by omega)).trans (DT (by omega)).symm | exact (beq_false_of_ne (by omega)).trans (DF (by omega)).symm | exact (DF (by omega)).symm
  · refine r_move hS hH.kp0 rfl rfl ?_; clear hS; intro a hS
    refine Sq.guardYes hS rfl rfl (DF (by omega)) ?_; refine r_move hS hH.kp0 rfl rfl ?_; clear hS; intro a hS
    refine Sq.guardYes hS rfl rfl (DF (by omega)) ?_; refine r_eql hS hH.kp0 rfl rfl rfl ?_; clear hS; intro a hS
    refine r_pickF hS hH.kp0 rfl (DF (by omega)) rfl rfl ?_; clear hS; intro a hS
    refine r_move hS hH.kp0 rfl rfl ?_; clear hS; intro a hS
    refine Sq.guardYes hS rfl rfl (DF (by omega)) ?_; refine r_move hS hH.kp0 rfl rfl ?_; clear hS; intro a hS
    refine Sq.guardYes hS rfl rfl (DF (by omega)) ?_; refine r_eql hS hH.kp0 rfl rfl rfl ?_; clear hS; intro a hS
    refine r_pickF hS hH.kp0 rfl (DF (by omega)) rfl rfl ?_; clear hS; intro a hS
    refine r_move hS hH.kp0 rfl rfl ?_; clear hS; intro a hS
    refine Sq.guardYes hS rfl rfl (DF (by omega)) ?_; refine r_move hS hH.kp0 rfl rfl ?_; clear hS; intro a hS
    refine Sq.guardYes hS rfl rfl (DF (by omega)) ?_; refine r_eql hS hH.kp0 rfl rfl rfl ?_; clear hS; intro a hS
    refine r_pickF hS hH.kp0 rfl (DF (by omega)) rfl rfl ?_; clear hS; intro a hS
    refine r_move hS hH.kp0 rfl rfl ?_; clear hS; intro a hS
    refine Sq.guardYes hS rfl rfl (DF (by omega)) ?_; refine r_move hS hH.kp0 rfl rfl ?_; clear hS; intro a hS
    refine Sq.guardYes hS rfl rfl (DF (by omega)) ?_; refine r_eql hS hH.kp0 rfl rfl rfl ?_; clear hS; intro a hS
    refine r_pickF hS hH.kp0 rfl (DF (by omega)) rfl rfl ?_; clear hS; intro a hS
    refine r_move hS hH.kp0 rfl rfl ?_; clear hS; intro a hS
    refine Sq.guardYes hS rfl rfl (DF (by omega)) ?_; refine r_move hS hH.kp0 rfl rfl ?_; clear hS; intro a hS
    refine Sq.guardYes hS rfl rfl (DF (by omega)) ?_; refine r_eql hS hH.kp0 rfl rfl rfl ?_; clear hS; intro a hS
    refine r_pickF hS hH.kp0 rfl (DF (by omega)) rfl rfl ?_; clear hS; intro a hS
    refine r_move hS hH.kp0 rfl rfl ?_; clear hS; intro a hS
    refine Sq.guardYes hS rfl rfl (DF (by omega)) ?_; refine r_move hS hH.kp0 rfl rfl ?_; clear hS; intro a hS
    refine Sq.guardYes hS rfl rfl (DF (by omega)) ?_; refine r_eql hS hH.kp0 rfl rfl rfl ?_; clear hS; intro a hS
    refine r_pickF hS hH.kp0 rfl (DF (by omega)) rfl rfl ?_; clear hS; intro a hS
    refine r_assign hS hH.kp0 rfl rfl ?_; clear hS; intro a hS
    refine Sq.nil ?_
    refine then_n ?_
    refine wp_ret ?_
    refine leave (.inl rfl) hS rfl (Res.tmp rfl Res.nil) ⟨congrArg (fun z => Ending.returned (Value.bool z)) ?_, hH.mod⟩
    first | exact (DT (by omega)).symm | exact (beq_iff_eq.2 (by omega)).trans (DT (by omega)).symm | exact (beq_false_of_ne (by omega)).trans (DF (by omega)).symm | exact (DF (by omega)).symm

end Go.Proofs.Ytcenionnedgadaa

namespace Go.Proofs.Ytcenionnedgadaa
open Go.Sym


set_option maxRecDepth 100000 in
set_option maxHeartbeats 400000 in
theorem short_some (b cb : Nat) (k : List Value) (u : List UInt8) (s : ByteArray) (hl : u.length ≤ 1099511627700) (hs : s.size ≤ 1099511627776) (w0 : World) (h2 : w0.heap[b]? = some (.cells k.toArray 5 (0, 0))) (hB : BB cb k u) : Calls Try.prog 23 #[.slice (some ⟨b, 0, none⟩) u.length cb, .string s] w0 fun e w' => ∃ (b' c' : Nat) (k' : List Value), e = .returned (.slice (some ⟨b', 0, none⟩) (u ++ [UInt8.ofNat s.size] ++ s.data.toList).length c') ∧ (b' = b ∨ w0.heap.size ≤ b') ∧ w'.heap[b']? = some (.cells k'.toArray 5 (0, 0)) ∧ BB c' k' (u ++ [UInt8.ofNat s.size] ++ s.data.toList) ∧ Mod (fun x => x = b) w0 w' := by
  refine enter Try.func23 rfl rfl rfl ?_
  intro a hS
  have hH := Hp.start w0 (fun x => x = b)
  replace hH := hH.know h2 (fun p hp => by simp at hp)
  refine c_seq ?_
  refine reg_plain w0 (fun x => x = b) ?_
  refine r_assign hS hH.kp0 rfl rfl ?_; clear hS; intro a hS
  refine Sq.nil ?_
  refine then_n ?_
  refine c_seq ?_
  refine reg_plain w0 (fun x => x = b) ?_
  refine r_move hS hH.kp0 rfl rfl ?_; clear hS; intro a hS
  refine r_move hS hH.kp0 rfl rfl ?_; clear hS; intro a hS
  refine r_lenStr hS hH.kp0 rfl Fc.isStr9 rfl ?_; clear hS; intro a hS
  refine r_toU8 (q := s.size) (UInt8.ofNat (s.size)) hS hH.kp0 rfl Fc.ui5 Fc.us3 rfl rfl ?_; clear hS; intro a hS
  refine r_buildSlice (parts := [(0, .tmp 8)]) hS hH (by repeat (first | exact Sub.nil | refine Sub.cons ?_ ?_ | exact In.here | refine In.there ?_)) rfl Fc.bsl25_1 (by rfl) rfl ?_
  clear hS hH; intro a w b9 hb9 hwb9 hS hH
  refine r_append_own hS hH rfl rfl (by first | exact .here | exact .there .here | exact .there (.there .here) | exact .there (.there (.there .here)) | exact .there (.there (.there (.there .here))) | exact .there (.there (.there (.there (.there .here)))) | exact .there (.there (.there (.there (.there (.there .here))))) | exact .there (.there (.there (.there (.there (.there (.there .here)))))) | exact .there (.there (.there (.there (.there (.there (.there (.there .here))))))) | exact .there (.there (.there (.there (.there (.there (.there (.there (.there .here)))))))) | exact .there (.there (.there (.there (.there (.there (.there (.there (.there (.there .here))))))))) | exact .there (.there (.there (.there (.there (.there (.there (.there (.there (.there (.there .here)))))))))) | exact .there (.there (.there (.there (.there (.there (.there (.there (.there (.there (.there (.there .here))))))))))) | exact .there (.there (.there (.there (.there (.there (.there (.there (.there (.there (.there (.there (.there .here)))))))))))) | exact .there (.there (.there (.there (.there (.there (.there (.there (.there (.there (.there (.there (.there (.there .here))))))))))))) | exact .there (.there (.there (.there (.there (.there (.there (.there (.there (.there (.there (.there (.there (.there (.there .here))))))))))))))) (by repeat (first | exact Sub.nil | refine Sub.cons ?_ ?_ | exact In.here | refine In.there ?_)) Fc.el25 Fc.ni25 (by rw [hB.len, Nat.mul_one]) hB.le ((BB.lit [UInt8.ofNat s.size] rfl rfl).bs (hH.get (b := b9) (by repeat (first | exact In.here | refine In.there ?_)))).src (by simp only [List.length_append, List.length_cons, List.length_nil]; omega) (.inl rfl) rfl ?_
  clear hS hH; intro a w bp cp kp hobp hlp hcp htp hmp hS hH
  have hep : (u).length + ([UInt8.ofNat s.size]).length = (u ++ [UInt8.ofNat s.size]).length := (show (u).length + ([UInt8.ofNat s.size]).length = (u ++ [UInt8.ofNat s.size]).length from List.length_append.symm)
  have hBp : BB cp kp (u ++ [UInt8.ofNat s.size]) := ⟨by rw [hlp, Nat.mul_one], by rw [← hep]; exact hcp, by rw [← hep]; rw [Nat.mul_one, Nat.mul_one] at htp; rw [htp, hB.take]; exact List.map_append.symm⟩
  rw [hep] at hS
  refine r_move hS hH.kp0 rfl rfl ?_; clear hS; intro a hS
  refine r_append_own hS hH rfl rfl (by first | exact .here | exact .there .here | exact .there (.there .here) | exact .there (.there (.there .here)) | exact .there (.there (.there (.there .here))) | exact .there (.there (.there (.there (.there .here)))) | exact .there (.there (.there (.there (.there (.there .here))))) | exact .there (.there (.there (.there (.there (.there (.there .here)))))) | exact .there (.there (.there (.there (.there (.there (.there (.there .here))))))) | exact .there (.there (.there (.there (.there (.there (.there (.there (.there .here)))))))) | exact .there (.there (.there (.there (.there (.there (.there (.there (.there (.there .here))))))))) | exact .there (.there (.there (.there (.there (.there (.there (.there (.there (.there (.there .here)))))))))) | exact .there (.there (.there (.there (.there (.there (.there (.there (.there (.there (.there (.there .here))))))))))) | exact .there (.there (.there (.there (.there (.there (.there (.there (.there (.there (.there (.there (.there .here)))))))))))) | exact .there (.there (.there (.there (.there (.there (.there (.there (.there (.there (.there (.there (.there (.there .here))))))))))))) | exact .there (.there (.there (.there (.there (.there (.there (.there (.there (.there (.there (.there (.there (.there (.there .here))))))))))))))) (by repeat (first | exact Sub.nil | refine Sub.cons ?_ ?_ | exact In.here | refine In.there ?_)) Fc.el25 Fc.ni9 (by rw [hBp.len, Nat.mul_one]) hBp.le (src_string s) (by simp only [List.length_append, List.length_cons, List.length_nil]; omega) hobp rfl ?_
  clear hS hH; intro a w bz cz kz hobz hlz hcz htz hmz hS hH
  have hez : (u ++ [UInt8.ofNat s.size]).length + s.size = (u ++ [UInt8.ofNat s.size] ++ s.data.toList).length := (show (u ++ [UInt8.ofNat s.size]).length + (s.data.toList).length = (u ++ [UInt8.ofNat s.size] ++ s.data.toList).length from List.length_append.symm)
  have hBz : BB cz kz (u ++ [UInt8.ofNat s.size] ++ s.data.toList) := ⟨by rw [hlz, Nat.mul_one], by rw [← hez]; exact hcz, by rw [← hez]; rw [Nat.mul_one, Nat.mul_one] at htz; rw [htz, hBp.take]; exact List.map_append.symm⟩
  rw [hez] at hS
  refine r_assign hS hH.kp0 rfl rfl ?_; clear hS; intro a hS
  refine Sq.nil ?_
  refine then_n ?_
  refine wp_ret ?_
  exact leave (.inl rfl) hS rfl (Res.tmp rfl Res.nil) ⟨bz, cz, kz, rfl, hobz, hH.get (b := bz) (by repeat (first | exact In.here | refine In.there ?_)), hBz, hH.mod⟩

set_option maxRecDepth 100000 in
set_option maxHeartbeats 400000 in
theorem flag_ff (b cb : Nat) (k : List Value) (u : List UInt8) (hl : u.length ≤ 1099511627700) (w0 : World) (h2 : w0.heap[b]? = some (.cells k.toArray 5 (0, 0))) (hB : BB cb k u) : Calls Try.prog 24 #[.slice (some ⟨b, 0, none⟩) u.length cb, .bool false, .bool false] w0 fun e w' => ∃ (b' c' : Nat) (k' : List Value), e = .returned (.slice (some ⟨b', 0, none⟩) (u ++ [0]).length c') ∧ (b' = b ∨ w0.heap.size ≤ b') ∧ w'.heap[b']? = some (.cells k'.toArray 5 (0, 0)) ∧ BB c' k' (u ++ [0]) ∧ Mod (fun x => x = b) w0 w' := by
  refine enter Try.func24 rfl rfl rfl ?_
  intro a hS
  have hH := Hp.start w0 (fun x => x = b)
  replace hH := hH.know h2 (fun p hp => by simp at hp)
  refine c_seq ?_
  refine reg_plain w0 (fun x => x = b) ?_
  refine r_assign hS hH.kp0 rfl rfl ?_; clear hS; intro a hS
  refine Sq.nil ?_
  refine then_n ?_
  refine c_seq ?_
  refine reg_plain w0 (fun x => x = b) ?_
  refine r_assign hS hH.kp0 rfl rfl ?_; clear hS; intro a hS
  refine Sq.nil ?_
  refine then_n ?_
  refine c_seq ?_
  refine c_seq ?_
  refine reg_plain w0 (fun x => x = b) ?_
  refine r_move hS hH.kp0 rfl rfl ?_; clear hS; intro a hS
  refine Sq.nil ?_
  refine then_n ?_
  refine c_condF hS rfl rfl ?_
  refine wp_skip ?_
  refine then_n ?_
  refine c_seq ?_
  refine c_seq ?_
  refine reg_plain w0 (fun x => x = b) ?_
  refine r_move hS hH.kp0 rfl rfl ?_; clear hS; intro a hS
  refine Sq.nil ?_
  refine then_n ?_
  refine c_condF hS rfl rfl ?_
  refine wp_skip ?_
  refine then_n ?_
  refine c_seq ?_
  refine reg_plain w0 (fun x => x = b) ?_
  refine r_move hS hH.kp0 rfl rfl ?_; clear hS; intro a hS
  refine r_move hS hH.kp0 rfl rfl ?_; clear hS; intro a hS
  refine r_buildSlice (parts := [(0, .tmp 15)]) hS hH (by repeat (first | exact Sub.nil | refine Sub.cons ?_ ?_ | exact In.here | refine In.there ?_)) rfl Fc.bsl25_1 (by rfl) rfl ?_
  clear hS hH; intro a w b16 hb16 hwb16 hS hH
  refine r_append_own hS hH rfl rfl (by first | exact .here | exact .there .here | exact .there (.there .here) | exact .there (.there (.there .here)) | exact .there (.there (.there (.there .here))) | exact .there (.there (.there (.there (.there .here)))) | exact .there (.there (.there (.there (.there (.there .here))))) | exact .there (.there (.there (.there (.there (.there (.there .here)))))) | exact .there (.there (.there (.there (.there (.there (.there (.there .here))))))) | exact .there (.there (.there (.there (.there (.there (.there (.there (.there .here)))))))) | exact .there (.there (.there (.there (.there (.there (.there (.there (.there (.there .here))))))))) | exact .there (.there (.there (.there (.there (.there (.there (.there (.there (.there (.there .here)))))))))) | exact .there (.there (.there (.there (.there (.there (.there (.there (.there (.there (.there (.there .here))))))))))) | exact .there (.there (.there (.there (.there (.there (.there (.there (.there (.there (.there (.there (.there .here)))))))))))) | exact .there (.there (.there (.there (.there (.there (.there (.there (.there (.there (.there (.there (.there (.there .here))))))))))))) | exact .there (.there (.there (.there (.there (.there (.there (.there (.there (.there (.there (.there (.there (.there (.there .here))))))))))))))) (by repeat (first | exact Sub.nil | refine Sub.cons ?_ ?_ | exact In.here | refine In.there ?_)) Fc.el25 Fc.ni25 (by rw [hB.len, Nat.mul_one]) hB.le ((BB.lit [(0 : UInt8)] rfl rfl).bs (hH.get (b := b16) (by repeat (first | exact In.here | refine In.there ?_)))).src (by simp only [List.length_append, List.length_cons, List.length_nil]; omega) (.inl rfl) rfl ?_
  clear hS hH; intro a w bz cz kz hobz hlz hcz htz hmz hS hH
  have hez : (u).length + ([(0 : UInt8)]).length = (u ++ [(0 : UInt8)]).length := (show (u).length + ([(0 : UInt8)]).length = (u ++ [(0 : UInt8)]).length from List.length_append.symm)
  have hBz : BB cz kz (u ++ [(0 : UInt8)]) := ⟨by rw [hlz, Nat.mul_one], by rw [← hez]; exact hcz, by rw [← hez]; rw [Nat.mul_one, Nat.mul_one] at htz; rw [htz, hB.take]; exact List.map_append.symm⟩
  rw [hez] at hS
  refine r_assign hS hH.kp0 rfl rfl ?_; clear hS; intro a hS
  refine Sq.nil ?_
  refine then_n ?_
  refine wp_ret ?_
  exact leave (.inl rfl) hS rfl (Res.tmp rfl Res.nil) ⟨bz, cz, kz, rfl, hobz, hH.get (b := bz) (by repeat (first | exact In.here | refine In.there ?_)), hBz, hH.mod⟩

set_option maxRecDepth 100000 in
set_option maxHeartbeats 400000 in
theorem flag_ft (b cb : Nat) (k : List Value) (u : List UInt8) (hl : u.length ≤ 1099511627700) (w0 : World) (h2 : w0.heap[b]? = some (.cells k.toArray 5 (0, 0))) (hB : BB cb k u) : Calls Try.prog 24 #[.slice (some ⟨b, 0, none⟩) u.length cb, .bool false, .bool true] w0 fun e w' => ∃ (b' c' : Nat) (k' : List Value), e = .returned (.slice (some ⟨b', 0, none⟩) (u ++ [2]).length c') ∧ (b' = b ∨ w0.heap.size ≤ b') ∧ w'.heap[b']? = some (.cells k'.toArray 5 (0, 0)) ∧ BB c' k' (u ++ [2]) ∧ Mod (fun x => x = b) w0 w' := by
  refine enter Try.func24 rfl rfl rfl ?_
  intro a hS
  have hH := Hp.start w0 (fun x => x = b)
  replace hH := hH.know h2 (fun p hp => by simp at hp)
  refine c_seq ?_
  refine reg_plain w0 (fun x => x = b) ?_
  refine r_assign hS hH.kp0 rfl rfl ?_; clear hS; intro a hS
  refine Sq.nil ?_
  refine then_n ?_
  refine c_seq ?_
  refine reg_plain w0 (fun x => x = b) ?_
  refine r_assign hS hH.kp0 rfl rfl ?_; clear hS; intro a hS
  refine Sq.nil ?_
  refine then_n ?_
  refine c_seq ?_
  refine c_seq ?_
  refine reg_plain w0 (fun x => x = b) ?_
  refine r_move hS hH.kp0 rfl rfl ?_; clear hS; intro a hS
  refine Sq.nil ?_
  refine then_n ?_
  refine c_condF hS rfl rfl ?_
  refine wp_skip ?_
  refine then_n ?_
  refine c_seq ?_
  refine c_seq ?_
  refine reg_plain w0 (fun x => x = b) ?_
  refine r_move hS hH.kp0 rfl rfl ?_; clear hS; intro a hS
  refine Sq.nil ?_
  refine then_n ?_
  refine c_condT hS rfl rfl ?_
  refine reg_plain w0 (fun x => x = b) ?_
  refine r_move hS hH.kp0 rfl rfl ?_; clear hS; intro a hS
  refine r_addw hS hH.kp0 rfl rfl rfl ?_; clear hS; intro a hS
  refine r_assign hS hH.kp0 rfl rfl ?_; clear hS; intro a hS
  refine Sq.nil ?_
  refine then_n ?_
  refine c_seq ?_
  refine reg_plain w0 (fun x => x = b) ?_
  refine r_move hS hH.kp0 rfl rfl ?_; clear hS; intro a hS
  refine r_move hS hH.kp0 rfl rfl ?_; clear hS; intro a hS
  refine r_buildSlice (parts := [(0, .tmp 15)]) hS hH (by repeat (first | exact Sub.nil | refine Sub.cons ?_ ?_ | exact In.here | refine In.there ?_)) rfl Fc.bsl25_1 (by rfl) rfl ?_
  clear hS hH; intro a w b16 hb16 hwb16 hS hH
  refine r_append_own hS hH rfl rfl (by first | exact .here | exact .there .here | exact .there (.there .here) | exact .there (.there (.there .here)) | exact .there (.there (.there (.there .here))) | exact .there (.there (.there (.there (.there .here)))) | exact .there (.there (.there (.there (.there (.there .here))))) | exact .there (.there (.there (.there (.there (.there (.there .here)))))) | exact .there (.there (.there (.there (.there (.there (.there (.there .here))))))) | exact .there (.there (.there (.there (.there (.there (.there (.there (.there .here)))))))) | exact .there (.there (.there (.there (.there (.there (.there (.there (.there (.there .here))))))))) | exact .there (.there (.there (.there (.there (.there (.there (.there (.there (.there (.there .here)))))))))) | exact .there (.there (.there (.there (.there (.there (.there (.there (.there (.there (.there (.there .here))))))))))) | exact .there (.there (.there (.there (.there (.there (.there (.there (.there (.there (.there (.there (.there .here)))))))))))) | exact .there (.there (.there (.there (.there (.there (.there (.there (.there (.there (.there (.there (.there (.there .here))))))))))))) | exact .there (.there (.there (.there (.there (.there (.there (.there (.there (.there (.there (.there (.there (.there (.there .here))))))))))))))) (by repeat (first | exact Sub.nil | refine Sub.cons ?_ ?_ | exact In.here | refine In.there ?_)) Fc.el25 Fc.ni25 (by rw [hB.len, Nat.mul_one]) hB.le ((BB.lit [(2 : UInt8)] rfl rfl).bs (hH.get (b := b16) (by repeat (first | exact In.here | refine In.there ?_)))).src (by simp only [List.length_append, List.length_cons, List.length_nil]; omega) (.inl rfl) rfl ?_
  clear hS hH; intro a w bz cz kz hobz hlz hcz htz hmz hS hH
  have hez : (u).length + ([(2 : UInt8)]).length = (u ++ [(2 : UInt8)]).length := (show (u).length + ([(2 : UInt8)]).length = (u ++ [(2 : UInt8)]).length from List.length_append.symm)
  have hBz : BB cz kz (u ++ [(2 : UInt8)]) := ⟨by rw [hlz, Nat.mul_one], by rw [← hez]; exact hcz, by rw [← hez]; rw [Nat.mul_one, Nat.mul_one] at htz; rw [htz, hB.take]; exact List.map_append.symm⟩
  rw [hez] at hS
  refine r_assign hS hH.kp0 rfl rfl ?_; clear hS; intro a hS
  refine Sq.nil ?_
  refine then_n ?_
  refine wp_ret ?_
  exact leave (.inl rfl) hS rfl (Res.tmp rfl Res.nil) ⟨bz, cz, kz, rfl, hobz, hH.get (b := bz) (by repeat (first | exact In.here | refine In.there ?_)), hBz, hH.mod⟩

set_option maxRecDepth 100000 in
set_option maxHeartbeats 400000 in
theorem flag_tf (b cb : Nat) (k : List Value) (u : List UInt8) (hl : u.length ≤ 1099511627700) (w0 : World) (h2 : w0.heap[b]? = some (.cells k.toArray 5 (0, 0))) (hB : BB cb k u) : Calls Try.prog 24 #[.slice (some ⟨b, 0, none⟩) u.length cb, .bool true, .bool false] w0 fun e w' => ∃ (b' c' : Nat) (k' : List Value), e = .returned (.slice (some ⟨b', 0, none⟩) (u ++ [1]).length c') ∧ (b' = b ∨ w0.heap.size ≤ b') ∧ w'.heap[b']? = some (.cells k'.toArray 5 (0, 0)) ∧ BB c' k' (u ++ [1]) ∧ Mod (fun x => x = b) w0 w' := by
  refine enter Try.func24 rfl rfl rfl ?_
  intro a hS
  have hH := Hp.start w0 (fun x => x = b)
  replace hH := hH.know h2 (fun p hp => by simp at hp)
  refine c_seq ?_
  refine reg_plain w0 (fun x => x = b) ?_
  refine r_assign hS hH.kp0 rfl rfl ?_; clear hS; intro a hS
  refine Sq.nil ?_
  refine then_n ?_
  refine c_seq ?_
  refine reg_plain w0 (fun x => x = b) ?_
  refine r_assign hS hH.kp0 rfl rfl ?_; clear hS; intro a hS
  refine Sq.nil ?_
  refine then_n ?_
  refine c_seq ?_
  refine c_seq ?_
  refine reg_plain w0 (fun x => x = b) ?_
  refine r_move hS hH.kp0 rfl rfl ?_; clear hS; intro a hS
  refine Sq.nil ?_
  refine then_n ?_
  refine c_condT hS rfl rfl ?_
  refine reg_plain w0 (fun x => x = b) ?_
  refine r_move hS hH.kp0 rfl rfl ?_; clear hS; intro a hS
  refine r_addw hS hH.kp0 rfl rfl rfl ?_; clear hS; intro a hS
  refine r_assign hS hH.kp0 rfl rfl ?_; clear hS; intro a hS
  refine Sq.nil ?_
  refine then_n ?_
  refine c_seq ?_
  refine c_seq ?_
  refine reg_plain w0 (fun x => x = b) ?_
  refine r_move hS hH.kp0 rfl rfl ?_; clear hS; intro a hS
  refine Sq.nil ?_
  refine then_n ?_
  refine c_condF hS rfl rfl ?_
  refine wp_skip ?_
  refine then_n ?_
  refine c_seq ?_
  refine reg_plain w0 (fun x => x = b) ?_
  refine r_move hS hH.kp0 rfl rfl ?_; clear hS; intro a hS
  refine r_move hS hH.kp0 rfl rfl ?_; clear hS; intro a hS
  refine r_buildSlice (parts := [(0, .tmp 15)]) hS hH (by repeat (first | exact Sub.nil | refine Sub.cons ?_ ?_ | exact In.here | refine In.there ?_)) rfl Fc.bsl25_1 (by rfl) rfl ?_
  clear hS hH; intro a w b16 hb16 hwb16 hS hH
  refine r_append_own hS hH rfl rfl (by first | exact .here | exact .there .here | exact .there (.there .here) | exact .there (.there (.there .here)) | exact .there (.there (.there (.there .here))) | exact .there (.there (.there (.there (.there .here)))) | exact .there (.there (.there (.there (.there (.there .here))))) | exact .there (.there (.there (.there (.there (.there (.there .here)))))) | exact .there (.there (.there (.there (.there (.there (.there (.there .here))))))) | exact .there (.there (.there (.there (.there (.there (.there (.there (.there .here)))))))) | exact .there (.there (.there (.there (.there (.there (.there (.there (.there (.there .here))))))))) | exact .there (.there (.there (.there (.there (.there (.there (.there (.there (.there (.there .here)))))))))) | exact .there (.there (.there (.there (.there (.there (.there (.there (.there (.there (.there (.there .here))))))))))) | exact .there (.there (.there (.there (.there (.there (.there (.there (.there (.there (.there (.there (.there .here)))))))))))) | exact .there (.there (.there (.there (.there (.there (.there (.there (.there (.there (.there (.there (.there (.there .here))))))))))))) | exact .there (.there (.there (.there (.there (.there (.there (.there (.there (.there (.there (.there (.there (.there (.there .here))))))))))))))) (by repeat (first | exact Sub.nil | refine Sub.cons ?_ ?_ | exact In.here | refine In.there ?_)) Fc.el25 Fc.ni25 (by rw [hB.len, Nat.mul_one]) hB.le ((BB.lit [(1 : UInt8)] rfl rfl).bs (hH.get (b := b16) (by repeat (first | exact In.here | refine In.there ?_)))).src (by simp only [List.length_append, List.length_cons, List.length_nil]; omega) (.inl rfl) rfl ?_
  clear hS hH; intro a w bz cz kz hobz hlz hcz htz hmz hS hH
  have hez : (u).length + ([(1 : UInt8)]).length = (u ++ [(1 : UInt8)]).length := (show (u).length + ([(1 : UInt8)]).length = (u ++ [(1 : UInt8)]).length from List.length_append.symm)
  have hBz : BB cz kz (u ++ [(1 : UInt8)]) := ⟨by rw [hlz, Nat.mul_one], by rw [← hez]; exact hcz, by rw [← hez]; rw [Nat.mul_one, Nat.mul_one] at htz; rw [htz, hB.take]; exact List.map_append.symm⟩
  rw [hez] at hS
  refine r_assign hS hH.kp0 rfl rfl ?_; clear hS; intro a hS
  refine Sq.nil ?_
  refine then_n ?_
  refine wp_ret ?_
  exact leave (.inl rfl) hS rfl (Res.tmp rfl Res.nil) ⟨bz, cz, kz, rfl, hobz, hH.get (b := bz) (by repeat (first | exact In.here | refine In.there ?_)), hBz, hH.mod⟩

set_option maxRecDepth 100000 in
set_option maxHeartbeats 400000 in
theorem flag_tt (b cb : Nat) (k : List Value) (u : List UInt8) (hl : u.length ≤ 1099511627700) (w0 : World) (h2 : w0.heap[b]? = some (.cells k.toArray 5 (0, 0))) (hB : BB cb k u) : Calls Try.prog 24 #[.slice (some ⟨b, 0, none⟩) u.length cb, .bool true, .bool true] w0 fun e w' => ∃ (b' c' : Nat) (k' : List Value), e = .returned (.slice (some ⟨b', 0, none⟩) (u ++ [3]).length c') ∧ (b' = b ∨ w0.heap.size ≤ b') ∧ w'.heap[b']? = some (.cells k'.toArray 5 (0, 0)) ∧ BB c' k' (u ++ [3]) ∧ Mod (fun x => x = b) w0 w' := by
  refine enter Try.func24 rfl rfl rfl ?_
  intro a hS
  have hH := Hp.start w0 (fun x => x = b)
  replace hH := hH.know h2 (fun p hp => by simp at hp)
  refine c_seq ?_
  refine reg_plain w0 (fun x => x = b) ?_
  refine r_assign hS hH.kp0 rfl rfl ?_; clear hS; intro a hS
  refine Sq.nil ?_
  refine then_n ?_
  refine c_seq ?_
  refine reg_plain w0 (fun x => x = b) ?_
  refine r_assign hS hH.kp0 rfl rfl ?_; clear hS; intro a hS
  refine Sq.nil ?_
  refine then_n ?_
  refine c_seq ?_
  refine c_seq ?_
  refine reg_plain w0 (fun x => x = b) ?_
  refine r_move hS hH.kp0 rfl rfl ?_; clear hS; intro a hS
  refine Sq.nil ?_
  refine then_n ?_
  refine c_condT hS rfl rfl ?_
  refine reg_plain w0 (fun x => x = b) ?_
  refine r_move hS hH.kp0 rfl rfl ?_; clear hS; intro a hS
  refine r_addw hS hH.kp0 rfl rfl rfl ?_; clear hS; intro a hS
  refine r_assign hS hH.kp0 rfl rfl ?_; clear hS; intro a hS
  refine Sq.nil ?_
  refine then_n ?_
  refine c_seq ?_
  refine c_seq ?_
  refine reg_plain w0 (fun x => x = b) ?_
  refine r_move hS hH.kp0 rfl rfl ?_; clear hS; intro a hS
  refine Sq.nil ?_
  refine then_n ?_
  refine c_condT hS rfl rfl ?_
  refine reg_plain w0 (fun x => x = b) ?_
  refine r_move hS hH.kp0 rfl rfl ?_; clear hS; intro a hS
  refine r_addw hS hH.kp0 rfl rfl rfl ?_; clear hS; intro a hS
  refine r_assign hS hH.kp0 rfl rfl ?_; clear hS; intro a hS
  refine Sq.nil ?_
  refine then_n ?_
  refine c_seq ?_
  refine reg_plain w0 (fun x => x = b) ?_
  refine r_move hS hH.kp0 rfl rfl ?_; clear hS; intro a hS
  refine r_move hS hH.kp0 rfl rfl ?_; clear hS; intro a hS
  refine r_buildSlice (parts := [(0, .tmp 15)]) hS hH (by repeat (first | exact Sub.nil | refine Sub.cons ?_ ?_ | exact In.here | refine In.there ?_)) rfl Fc.bsl25_1 (by rfl) rfl ?_
  clear hS hH; intro a w b16 hb16 hwb16 hS hH
  refine r_append_own hS hH rfl rfl (by first | exact .here | exact .there .here | exact .there (.there .here) | exact .there (.there (.there .here)) | exact .there (.there (.there (.there .here))) | exact .there (.there (.there (.there (.there .here)))) | exact .there (.there (.there (.there (.there (.there .here))))) | exact .there (.there (.there (.there (.there (.there (.there .here)))))) | exact .there (.there (.there (.there (.there (.there (.there (.there .here))))))) | exact .there (.there (.there (.there (.there (.there (.there (.there (.there .here)))))))) | exact .there (.there (.there (.there (.there (.there (.there (.there (.there (.there .here))))))))) | exact .there (.there (.there (.there (.there (.there (.there (.there (.there (.there (.there .here)))))))))) | exact .there (.there (.there (.there (.there (.there (.there (.there (.there (.there (.there (.there .here))))))))))) | exact .there (.there (.there (.there (.there (.there (.there (.there (.there (.there (.there (.there (.there .here)))))))))))) | exact .there (.there (.there (.there (.there (.there (.there (.there (.there (.there (.there (.there (.there (.there .here))))))))))))) | exact .there (.there (.there (.there (.there (.there (.there (.there (.there (.there (.there (.there (.there (.there (.there .here))))))))))))))) (by repeat (first | exact Sub.nil | refine Sub.cons ?_ ?_ | exact In.here | refine In.there ?_)) Fc.el25 Fc.ni25 (by rw [hB.len, Nat.mul_one]) hB.le ((BB.lit [(3 : UInt8)] rfl rfl).bs (hH.get (b := b16) (by repeat (first | exact In.here | refine In.there ?_)))).src (by simp only [List.length_append, List.length_cons, List.length_nil]; omega) (.inl rfl) rfl ?_
  clear hS hH; intro a w bz cz kz hobz hlz hcz htz hmz hS hH
  have hez : (u).length + ([(3 : UInt8)]).length = (u ++ [(3 : UInt8)]).length := (show (u).length + ([(3 : UInt8)]).length = (u ++ [(3 : UInt8)]).length from List.length_append.symm)
  have hBz : BB cz kz (u ++ [(3 : UInt8)]) := ⟨by rw [hlz, Nat.mul_one], by rw [← hez]; exact hcz, by rw [← hez]; rw [Nat.mul_one, Nat.mul_one] at htz; rw [htz, hB.take]; exact List.map_append.symm⟩
  rw [hez] at hS
  refine r_assign hS hH.kp0 rfl rfl ?_; clear hS; intro a hS
  refine Sq.nil ?_
  refine then_n ?_
  refine wp_ret ?_
  exact leave (.inl rfl) hS rfl (Res.tmp rfl Res.nil) ⟨bz, cz, kz, rfl, hobz, hH.get (b := bz) (by repeat (first | exact In.here | refine In.there ?_)), hBz, hH.mod⟩

end Go.Proofs.Ytcenionnedgadaa

namespace Go.Proofs.Ytcenionnedgadaa
open Go.Sym
theorem quo256 {n : Nat} (h : n ≤ 65535) : IntKind.i64.wrap (Int.tdiv (n : Int) 256) = ((n / 256 : Nat) : Int) := by
  have h1 : Int.tdiv (n : Int) 256 = ((n / 256 : Nat) : Int) := tdiv_nat _ _
  rw [h1]; exact wrap_i64 ⟨by omega, by omega⟩

theorem Fc.bsl25_2 : bslB Try.prog 25 2 = some (5, 1, [.int .u8 0, .int .u8 0]) := by kernel_rfl
set_option maxRecDepth 100000 in
set_option maxHeartbeats 400000 in
theorem long_some (b cb : Nat) (k : List Value) (u : List UInt8) (q : Option Addr) (qc : Nat) (s : List UInt8) (hl : u.length ≤ 1099511627700) (hs : s.length ≤ 65535) (w0 : World) (h2 : w0.heap[b]? = some (.cells k.toArray 5 (0, 0))) (hB : BB cb k u) (hb : BsF (fun x => x = b) w0 (.slice q s.length qc) s) : Calls Try.prog 25 #[.slice (some ⟨b, 0, none⟩) u.length cb, .slice q s.length qc] w0 fun e w' => ∃ (b' c' : Nat) (k' : List Value), e = .returned (.slice (some ⟨b', 0, none⟩) (u ++ [UInt8.ofNat (s.length / 256), UInt8.ofNat s.length] ++ s).length c') ∧ (b' = b ∨ w0.heap.size ≤ b') ∧ w'.heap[b']? = some (.cells k'.toArray 5 (0, 0)) ∧ BB c' k' (u ++ [UInt8.ofNat (s.length / 256), UInt8.ofNat s.length] ++ s) ∧ Mod (fun x => x = b) w0 w' := by
  refine enter Try.func25 rfl rfl rfl ?_
  intro a hS
  have hH := Hp.start w0 (fun x => x = b)
  replace hH := hH.know h2 (fun p hp => by simp at hp)
  refine c_seq ?_
  refine reg_plain w0 (fun x => x = b) ?_
  refine r_assign hS hH.kp0 rfl rfl ?_; clear hS; intro a hS
  refine Sq.nil ?_
  refine then_n ?_
  refine c_seq ?_
  refine reg_plain w0 (fun x => x = b) ?_
  refine r_move hS hH.kp0 rfl rfl ?_; clear hS; intro a hS
  refine r_move hS hH.kp0 rfl rfl ?_; clear hS; intro a hS
  refine r_lenSl hS hH.kp0 rfl Fc.isSlice25 rfl ?_; clear hS; intro a hS
  refine r_quo hS hH.kp0 rfl rfl rfl (by first | decide | omega) ?_; clear hS; intro a hS
  refine r_toU8' (s.length / 256) (UInt8.ofNat (s.length / 256)) hS hH.kp0 rfl Fc.ui5 Fc.us3 rfl (quo256 hs) rfl ?_; clear hS; intro a hS
  refine r_move hS hH.kp0 rfl rfl ?_; clear hS; intro a hS
  refine r_lenSl hS hH.kp0 rfl Fc.isSlice25 rfl ?_; clear hS; intro a hS
  refine r_toU8 (q := s.length) (UInt8.ofNat (s.length)) hS hH.kp0 rfl Fc.ui5 Fc.us3 rfl rfl ?_; clear hS; intro a hS
  refine r_buildSlice (parts := [(0, .tmp 9), (1, .tmp 12)]) hS hH (by repeat (first | exact Sub.nil | refine Sub.cons ?_ ?_ | exact In.here | refine In.there ?_)) rfl Fc.bsl25_2 (by rfl) rfl ?_
  clear hS hH; intro a w b13 hb13 hwb13 hS hH
  refine r_append_own hS hH rfl rfl (by first | exact .here | exact .there .here | exact .there (.there .here) | exact .there (.there (.there .here)) | exact .there (.there (.there (.there .here))) | exact .there (.there (.there (.there (.there .here)))) | exact .there (.there (.there (.there (.there (.there .here))))) | exact .there (.there (.there (.there (.there (.there (.there .here)))))) | exact .there (.there (.there (.there (.there (.there (.there (.there .here))))))) | exact .there (.there (.there (.there (.there (.there (.there (.there (.there .here)))))))) | exact .there (.there (.there (.there (.there (.there (.there (.there (.there (.there .here))))))))) | exact .there (.there (.there (.there (.there (.there (.there (.there (.there (.there (.there .here)))))))))) | exact .there (.there (.there (.there (.there (.there (.there (.there (.there (.there (.there (.there .here))))))))))) | exact .there (.there (.there (.there (.there (.there (.there (.there (.there (.there (.there (.there (.there .here)))))))))))) | exact .there (.there (.there (.there (.there (.there (.there (.there (.there (.there (.there (.there (.there (.there .here))))))))))))) | exact .there (.there (.there (.there (.there (.there (.there (.there (.there (.there (.there (.there (.there (.there (.there .here))))))))))))))) (by repeat (first | exact Sub.nil | refine Sub.cons ?_ ?_ | exact In.here | refine In.there ?_)) Fc.el25 Fc.ni25 (by rw [hB.len, Nat.mul_one]) hB.le ((BB.lit [UInt8.ofNat (s.length / 256), UInt8.ofNat s.length] rfl rfl).bs (hH.get (b := b13) (by repeat (first | exact In.here | refine In.there ?_)))).src (by simp only [List.length_append, List.length_cons, List.length_nil]; omega) (.inl rfl) rfl ?_
  clear hS hH; intro a w bp cp kp hobp hlp hcp htp hmp hS hH
  have hep : (u).length + ([UInt8.ofNat (s.length / 256), UInt8.ofNat s.length]).length = (u ++ [UInt8.ofNat (s.length / 256), UInt8.ofNat s.length]).length := (show (u).length + ([UInt8.ofNat (s.length / 256), UInt8.ofNat s.length]).length = (u ++ [UInt8.ofNat (s.length / 256), UInt8.ofNat s.length]).length from List.length_append.symm)
  have hBp : BB cp kp (u ++ [UInt8.ofNat (s.length / 256), UInt8.ofNat s.length]) := ⟨by rw [hlp, Nat.mul_one], by rw [← hep]; exact hcp, by rw [← hep]; rw [Nat.mul_one, Nat.mul_one] at htp; rw [htp, hB.take]; exact List.map_append.symm⟩
  rw [hep] at hS
  refine r_move hS hH.kp0 rfl rfl ?_; clear hS; intro a hS
  refine r_append_own hS hH rfl rfl (by first | exact .here | exact .there .here | exact .there (.there .here) | exact .there (.there (.there .here)) | exact .there (.there (.there (.there .here))) | exact .there (.there (.there (.there (.there .here)))) | exact .there (.there (.there (.there (.there (.there .here))))) | exact .there (.there (.there (.there (.there (.there (.there .here)))))) | exact .there (.there (.there (.there (.there (.there (.there (.there .here))))))) | exact .there (.there (.there (.there (.there (.there (.there (.there (.there .here)))))))) | exact .there (.there (.there (.there (.there (.there (.there (.there (.there (.there .here))))))))) | exact .there (.there (.there (.there (.there (.there (.there (.there (.there (.there (.there .here)))))))))) | exact .there (.there (.there (.there (.there (.there (.there (.there (.there (.there (.there (.there .here))))))))))) | exact .there (.there (.there (.there (.there (.there (.there (.there (.there (.there (.there (.there (.there .here)))))))))))) | exact .there (.there (.there (.there (.there (.there (.there (.there (.there (.there (.there (.there (.there (.there .here))))))))))))) | exact .there (.there (.there (.there (.there (.there (.there (.there (.there (.there (.there (.there (.there (.there (.there .here))))))))))))))) (by repeat (first | exact Sub.nil | refine Sub.cons ?_ ?_ | exact In.here | refine In.there ?_)) Fc.el25 Fc.ni25 (by rw [hBp.len, Nat.mul_one]) hBp.le (hb _ hH.mod).src (by simp only [List.length_append, List.length_cons, List.length_nil]; omega) hobp rfl ?_
  clear hS hH; intro a w bz cz kz hobz hlz hcz htz hmz hS hH
  have hez : (u ++ [UInt8.ofNat (s.length / 256), UInt8.ofNat s.length]).length + (s).length = (u ++ [UInt8.ofNat (s.length / 256), UInt8.ofNat s.length] ++ s).length := (show (u ++ [UInt8.ofNat (s.length / 256), UInt8.ofNat s.length]).length + (s).length = (u ++ [UInt8.ofNat (s.length / 256), UInt8.ofNat s.length] ++ s).length from List.length_append.symm)
  have hBz : BB cz kz (u ++ [UInt8.ofNat (s.length / 256), UInt8.ofNat s.length] ++ s) := ⟨by rw [hlz, Nat.mul_one], by rw [← hez]; exact hcz, by rw [← hez]; rw [Nat.mul_one, Nat.mul_one] at htz; rw [htz, hBp.take]; exact List.map_append.symm⟩
  rw [hez] at hS
  refine r_assign hS hH.kp0 rfl rfl ?_; clear hS; intro a hS
  refine Sq.nil ?_
  refine then_n ?_
  refine wp_ret ?_
  exact leave (.inl rfl) hS rfl (Res.tmp rfl Res.nil) ⟨bz, cz, kz, rfl, hobz, hH.get (b := bz) (by repeat (first | exact In.here | refine In.there ?_)), hBz, hH.mod⟩

end Go.Proofs.Ytcenionnedgadaa
