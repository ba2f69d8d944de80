/- HeaderSplits: any datagram is cut into the packets that the document says. Conditions: those of the given row (arguments of at most 1048576 values and letters; the listed variables hold what the text lays). Part Ref2: walks and lemmas of the proof. -/
import Derived.Test.YtcenionnedgadaaDoorRef1
namespace Go.Proofs.YtcenionnedgadaaDoor
open Go.Sym

def IdRes (B : Nat) (w : World) (v : Value) (x y : Int) (r : Int ⊕ (List UInt8 × Nat)) : Prop := match r with
  | .inl b => v = .slice none 0 0 ∧ x = 0 ∧ y = b ∧ b ≠ 0
  | .inr (u, p) => ∃ (rb cap : Nat) (l2 : List Value), v = .slice (some ⟨rb, 0, none⟩) u.length cap ∧ B ≤ rb ∧ w.heap[rb]? = some (.cells l2.toArray 5 (0, 0)) ∧ BB cap l2 u ∧ x = p ∧ y = 0

theorem Fc.fn40 : isFn Tryd.prog 40 = true := by kernel_rfl
theorem Fc.ui30 : Tryd.prog.underlying 30 = some (.int .u64) := by kernel_rfl
set_option maxRecDepth 100000 in
set_option maxHeartbeats 2000000 in
theorem spoilt_c (xb o cap : Nat) (l2 : List Value) (u : List UInt8) (v : Value) (hl : u.length ≤ 1099511627776) (hu : (l2.drop o).take u.length = u.map byteV) (hol : o + u.length ≤ l2.length) (hcap : u.length ≤ cap) (w0 : World) (h : w0.heap[xb]? = some (.cells l2.toArray 5 (0, 0))) (hz : Bs w0 v u) : Calls Tryd.prog 11 #[.slice (some ⟨xb, o, none⟩) u.length cap, v] w0 fun e w' => ∃ l3 : List Value, e = .returned (.bool true) ∧ w'.heap[xb]? = some (.cells l3.toArray 5 (0, 0)) ∧ l3.length = l2.length ∧ (∀ j, j < o ∨ o + u.length ≤ j → l3[j]? = l2[j]?) ∧ Mod (fun x => x = xb) w0 w' := by
  refine enter Tryd.func11 rfl rfl rfl ?_
  intro a hS
  have hH := Hp.start w0 (fun x => x = xb)
  replace hH := hH.know h (fun p hp => by simp at hp)
  have hx0 : Bs w0 (.slice (some ⟨xb, o, none⟩) u.length cap) u := Bs.row h hu hcap
  have hz0 := hz
  refine c_seq ?_
  refine reg_plain w0 (fun x => x = xb) ?_
  refine r_assign hS hH.kp0 rfl rfl ?_; clear hS; intro a hS
  refine Sq.nil ?_
  refine then_n ?_
  refine c_seq ?_
  refine c_seq ?_
  refine reg_plain w0 (fun x => x = xb) ?_
  refine r_move hS hH.kp0 rfl rfl ?_; clear hS; intro a hS
  refine r_bytesStr (l := u) hS hH.kp0 rfl hx0 Fc.u8s22 Fc.isStr9 rfl ?_; clear hS; intro a hS
  refine r_move hS hH.kp0 rfl rfl ?_; clear hS; intro a hS
  refine r_bytesStr (l := u) hS hH.kp0 rfl hz0 Fc.u8s22 Fc.isStr9 rfl ?_; clear hS; intro a hS
  refine r_strNeq hS hH.kp0 rfl rfl rfl ?_; clear hS; intro a hS
  refine Sq.nil ?_
  rw [show (!((strOf u).toList == (strOf u).toList)) = false from by simp] at hS
  refine then_n ?_
  refine c_condF hS rfl rfl ?_
  refine wp_skip ?_
  refine then_n ?_
  refine c_seq ?_
  refine c_seq ?_
  refine reg_plain w0 (fun x => x = xb) ?_
  refine r_assign hS hH.kp0 rfl rfl ?_; clear hS; intro a hS
  refine Sq.nil ?_
  refine then_n ?_
  refine wp_block ?_
  refine c_loop (fun m a w => ∃ (k : Nat) (i : Int) (l3 : List Value), m + k = u.length ∧ i = k ∧ l3.length = l2.length ∧ (∀ j, j < o ∨ o + k ≤ j → l3[j]? = l2[j]?) ∧ St 25 (lv [(0, .slice (some ⟨xb, o, none⟩) u.length cap), (5, .int .i64 i)]) a ∧ Hp w0 (fun x => x = xb) [(xb, .cells l3.toArray 5 (0, 0))] w) (u.length) ?_ ?_
  · exact ⟨0, _, l2, rfl, rfl, rfl, fun _ _ => rfl, hS.live ⟨rfl, rfl, trivial⟩, hH⟩
  clear hS hH; intro m a w hI; obtain ⟨k, i, l3, hmk, hi, hl3, hsame, hS, hH⟩ := hI
  refine c_seq ?_
  refine c_seq ?_
  refine reg_plain w0 (fun x => x = xb) ?_
  refine r_move hS hH.kp0 rfl rfl ?_; clear hS; intro a hS
  refine r_move hS hH.kp0 rfl rfl ?_; clear hS; intro a hS
  refine r_lenSl hS hH.kp0 rfl Fc.isSlice22 rfl ?_; clear hS; intro a hS
  refine r_lss hS hH.kp0 rfl rfl rfl ?_; clear hS; intro a hS
  refine Sq.nil ?_
  refine then_n ?_
  refine c_cond hS rfl (fun hc1 => ?_) (fun hc1 => ?_)
  · have hlt := of_decide_eq_true hc1
    have hk : k < u.length := by omega
    obtain ⟨y, hy⟩ : ∃ y, u[k]? = some y := ⟨_, List.getElem?_eq_getElem hk⟩
    have hcell : l3[o + k]? = some (byteV y) := by rw [hsame _ (.inr (Nat.le_refl _))]; exact get_part hu hy
    refine wp_skip ?_
    refine then_n ?_
    refine c_seq ?_
    refine wp_block ?_
    refine reg_plain w0 (fun x => x = xb) ?_
    refine r_move hS hH.kp0 rfl rfl ?_; clear hS; intro a hS
    refine r_move hS hH.kp0 rfl rfl ?_; clear hS; intro a hS
    refine r_move hS hH.kp0 rfl rfl ?_; clear hS; intro a hS
    refine r_move hS hH.kp0 rfl rfl ?_; clear hS; intro a hS
    refine r_indexAddrS (j := k) hS hH.kp0 rfl rfl Fc.slb22 hi (by omega) rfl ?_; clear hS; intro a hS
    refine r_load_sc (v := byteV y) hS hH (by repeat (first | exact Sub.nil | refine Sub.cons ?_ ?_ | exact In.here | refine In.there ?_)) rfl (by repeat (first | exact In.here | refine In.there ?_)) Fc.sc5 (by rw [Nat.mul_one, nthV_eq]; exact hcell) rfl ?_; clear hS; intro a hS
    refine r_addw hS hH.kp0 rfl rfl rfl ?_; clear hS; intro a hS
    refine r_indexAddrS (j := k) hS hH.kp0 rfl rfl Fc.slb22 hi (by omega) rfl ?_; clear hS; intro a hS
    refine r_store1 hS hH rfl rfl rfl (by first | exact .here | exact .there .here | exact .there (.there .here) | exact .there (.there (.there .here)) | exact .there (.there (.there (.there .here))) | exact .there (.there (.there (.there (.there .here)))) | exact .there (.there (.there (.there (.there (.there .here))))) | exact .there (.there (.there (.there (.there (.there (.there .here)))))) | exact .there (.there (.there (.there (.there (.there (.there (.there .here))))))) | exact .there (.there (.there (.there (.there (.there (.there (.there (.there .here)))))))) | exact .there (.there (.there (.there (.there (.there (.there (.there (.there (.there .here))))))))) | exact .there (.there (.there (.there (.there (.there (.there (.there (.there (.there (.there .here)))))))))) | exact .there (.there (.there (.there (.there (.there (.there (.there (.there (.there (.there (.there .here))))))))))) | exact .there (.there (.there (.there (.there (.there (.there (.there (.there (.there (.there (.there (.there .here)))))))))))) | exact .there (.there (.there (.there (.there (.there (.there (.there (.there (.there (.there (.there (.there (.there .here))))))))))))) | exact .there (.there (.there (.there (.there (.there (.there (.there (.there (.there (.there (.there (.there (.there (.there .here))))))))))))))) (by repeat (first | exact Sub.nil | refine Sub.cons ?_ ?_ | exact In.here | refine In.there ?_)) Fc.sz5 (by omega) (.inl rfl) ?_; clear hH; intro w hH
    refine Sq.nil ?_
    refine blk_n ?_
    refine then_n ?_
    refine reg_plain w0 (fun x => x = xb) ?_
    refine r_move hS hH.kp0 rfl rfl ?_; clear hS; intro a hS
    first | refine r_add hS hH.kp0 rfl rfl rfl (by omega) ?_ | refine r_addw hS hH.kp0 rfl rfl rfl ?_
    clear hS; intro a hS
    refine r_assign hS hH.kp0 rfl rfl ?_; clear hS; intro a hS
    refine Sq.nil ?_
    refine then_n ?_
    refine ⟨m - 1, by omega, k + 1, _, spl l3 (o + k * 1) [.int .u8 (IntKind.u8.wrap ((y.toNat : Int) + 1))], by omega, ?_, ?_, ?_, hS.live ⟨rfl, rfl, trivial⟩, hH⟩
    · omega
    · rw [spl1_len (by omega), hl3]
    · intro j hj; rw [spl1_get (by omega) (by omega)]; exact hsame j (by omega)
  · have hge := of_decide_eq_false hc1
    have hke : k = u.length := by omega
    subst hke
    refine wp_exit ?_
    refine then_e ?_
    refine then_e ?_
    refine blk_hit ?_
    refine then_n ?_
    refine c_seq ?_
    refine reg_plain w0 (fun x => x = xb) ?_
    refine r_assign hS hH.kp0 rfl rfl ?_; clear hS; intro a hS
    refine Sq.nil ?_
    refine then_n ?_
    refine wp_ret ?_
    exact leave (.inl rfl) hS rfl (Res.tmp rfl Res.nil) ⟨l3, rfl, hH.get (by repeat (first | exact In.here | refine In.there ?_)), hl3, hsame, hH.mod⟩

set_option maxRecDepth 100000 in
set_option maxHeartbeats 400000 in
theorem spoilt_nil (q : Option Addr) (qc : Nat) (v : Value) (w0 : World) (hx : Bs w0 (.slice q 0 qc) []) (hz : Bs w0 v []) : Calls Tryd.prog 11 #[.slice q 0 qc, v] w0 fun e w' => e = .returned (.bool true) ∧ Ext w0 w' := by
  refine enter Tryd.func11 rfl rfl rfl ?_
  intro a hS
  have hH := Hp.start w0 (Nobody)
  refine c_seq ?_
  refine reg_plain w0 (Nobody) ?_
  refine r_assign hS hH.kp0 rfl rfl ?_; clear hS; intro a hS
  refine Sq.nil ?_
  refine then_n ?_
  refine c_seq ?_
  refine c_seq ?_
  refine reg_plain w0 (Nobody) ?_
  refine r_move hS hH.kp0 rfl rfl ?_; clear hS; intro a hS
  refine r_bytesStr (l := []) hS hH.kp0 rfl (hx.ext hH.mod) Fc.u8s22 Fc.isStr9 rfl ?_; clear hS; intro a hS
  refine r_move hS hH.kp0 rfl rfl ?_; clear hS; intro a hS
  refine r_bytesStr (l := []) hS hH.kp0 rfl (hz.ext hH.mod) Fc.u8s22 Fc.isStr9 rfl ?_; clear hS; intro a hS
  refine r_strNeq hS hH.kp0 rfl rfl rfl ?_; clear hS; intro a hS
  refine Sq.nil ?_
  rw [show (!((strOf []).toList == (strOf []).toList)) = false from by simp] at hS
  refine then_n ?_
  refine c_condF hS rfl rfl ?_
  refine wp_skip ?_
  refine then_n ?_
  refine c_seq ?_
  refine c_seq ?_
  refine reg_plain w0 (Nobody) ?_
  refine r_assign hS hH.kp0 rfl rfl ?_; clear hS; intro a hS
  refine Sq.nil ?_
  refine then_n ?_
  refine wp_block ?_
  refine wp_loop_rounds 1 ?_
  refine rnd ?_
  refine c_seq ?_
  refine c_seq ?_
  refine reg_plain w0 (Nobody) ?_
  refine r_move hS hH.kp0 rfl rfl ?_; clear hS; intro a hS
  refine r_move hS hH.kp0 rfl rfl ?_; clear hS; intro a hS
  refine r_lenSl hS hH.kp0 rfl Fc.isSlice22 rfl ?_; clear hS; intro a hS
  refine r_lss hS hH.kp0 rfl rfl rfl ?_; clear hS; intro a hS
  refine Sq.nil ?_
  refine then_n ?_
  refine c_condF hS rfl rfl ?_
  refine wp_exit ?_
  refine then_e ?_
  refine then_e ?_
  refine blk_hit ?_
  refine then_n ?_
  refine c_seq ?_
  refine reg_plain w0 (Nobody) ?_
  refine r_assign hS hH.kp0 rfl rfl ?_; clear hS; intro a hS
  refine Sq.nil ?_
  refine then_n ?_
  refine wp_ret ?_
  exact leave (.inl rfl) hS rfl (Res.tmp rfl Res.nil) ⟨rfl, hH.mod⟩

set_option maxRecDepth 100000 in
set_option maxHeartbeats 400000 in
theorem Number_c (v : Value) (l : List UInt8) (hl : l.length ≤ 8) (w0 : World) (hb : Bs w0 v l) : Calls Tryd.prog 40 #[v] w0 fun e w' => e = .returned (.int .u64 (beN l : Int)) ∧ Ext w0 w' := by
  refine enter Tryd.func40 rfl rfl rfl ?_
  intro a hS
  have hH := Hp.start w0 (Nobody)
  obtain ⟨q, qc, hsl⟩ := hb
  have hv9 := hsl.val
  subst hv9
  have hb : Bs w0 (.slice q l.length qc) l := ⟨q, qc, hsl⟩
  refine c_seq ?_
  refine reg_plain w0 (Nobody) ?_
  refine r_assign hS hH.kp0 rfl rfl ?_; clear hS; intro a hS
  refine Sq.nil ?_
  refine then_n ?_
  refine c_seq ?_
  refine reg_plain w0 (Nobody) ?_
  refine r_assign hS hH.kp0 rfl rfl ?_; clear hS; intro a hS
  refine Sq.nil ?_
  refine then_n ?_
  refine c_seq ?_
  refine c_seq ?_
  refine reg_plain w0 (Nobody) ?_
  refine r_assign hS hH.kp0 rfl rfl ?_; clear hS; intro a hS
  refine Sq.nil ?_
  refine then_n ?_
  refine wp_block ?_
  refine c_loop (fun m a w => ∃ (k : Nat) (i : Int), m + k = l.length ∧ i = k ∧ St 20 (lv [(0, .slice q l.length qc), (3, .int .u64 (beN (l.take k) : Int)), (4, .int .i64 i)]) a ∧ Hp w0 Nobody [] w) (l.length) ?_ ?_
  · exact ⟨0, _, rfl, rfl, hS.live ⟨rfl, rfl, rfl, trivial⟩, hH⟩
  clear hS hH; intro m a w hI; obtain ⟨k, i, hmk, hi, hS, hH⟩ := hI
  refine c_seq ?_
  refine c_seq ?_
  refine reg_plain w0 (Nobody) ?_
  refine r_move hS hH.kp0 rfl rfl ?_; clear hS; intro a hS
  refine r_move hS hH.kp0 rfl rfl ?_; clear hS; intro a hS
  refine r_lenSl hS hH.kp0 rfl Fc.isSlice22 rfl ?_; clear hS; intro a hS
  refine r_lss hS hH.kp0 rfl rfl rfl ?_; clear hS; intro a hS
  refine Sq.nil ?_
  refine then_n ?_
  refine c_cond hS rfl (fun hc0 => ?_) (fun hc0 => ?_)
  · have hlt := of_decide_eq_true hc0
    have hk : k < l.length := by omega
    obtain ⟨x, hx⟩ : ∃ x, l[k]? = some x := ⟨_, List.getElem?_eq_getElem hk⟩
    obtain ⟨ba, bo, hq⟩ := hb.f.addr (by omega)
    subst hq
    have hcell := hb.f.byte hH.mod hx
    have hbd := beN_bound (l := l) (k := k) (by omega) (by omega)
    have hxl := x.toNat_lt
    refine wp_skip ?_
    refine then_n ?_
    refine c_seq ?_
    refine wp_block ?_
    refine reg_plain w0 (Nobody) ?_
    refine r_move hS hH.kp0 rfl rfl ?_; clear hS; intro a hS
    refine r_mulN (m := beN (l.take k)) (m' := 256) (beN (l.take k) * 256) hS hH.kp0 rfl rfl rfl (by omega) ?_; clear hS; intro a hS
    refine r_move hS hH.kp0 rfl rfl ?_; clear hS; intro a hS
    refine r_move hS hH.kp0 rfl rfl ?_; clear hS; intro a hS
    refine r_indexAddrS (j := k) hS hH.kp0 rfl rfl Fc.slb22 hi (by omega) rfl ?_; clear hS; intro a hS
    refine r_load_cell (v := byteV x) hS hH.kp0 rfl (by rw [Nat.mul_one]; exact hcell) Fc.sc5 rfl ?_; clear hS; intro a hS
    refine r_toU64 x.toNat hS hH.kp0 rfl Fc.ui36 Fc.us5 rfl rfl (by omega) ?_; clear hS; intro a hS
    refine r_addN (m := beN (l.take k) * 256) (m' := x.toNat) (beN (l.take (k + 1))) hS hH.kp0 rfl rfl rfl (by rw [beN_succ hx]; omega) ?_; clear hS; intro a hS
    refine r_assign hS hH.kp0 rfl rfl ?_; clear hS; intro a hS
    refine Sq.nil ?_
    refine blk_n ?_
    refine then_n ?_
    refine reg_plain w0 (Nobody) ?_
    refine r_move hS hH.kp0 rfl rfl ?_; clear hS; intro a hS
    first | refine r_add hS hH.kp0 rfl rfl rfl (by omega) ?_ | refine r_addw hS hH.kp0 rfl rfl rfl ?_
    clear hS; intro a hS
    refine r_assign hS hH.kp0 rfl rfl ?_; clear hS; intro a hS
    refine Sq.nil ?_
    refine then_n ?_
    refine ⟨m - 1, by omega, k + 1, _, by omega, ?_, hS.live ⟨rfl, rfl, rfl, trivial⟩, hH⟩
    omega
  · have hge := of_decide_eq_false hc0
    have hk : k = l.length := by omega
    subst hk
    rw [List.take_of_length_le (Nat.le_refl _)] at hS
    refine wp_exit ?_
    refine then_e ?_
    refine then_e ?_
    refine blk_hit ?_
    refine then_n ?_
    refine c_seq ?_
    refine reg_plain w0 (Nobody) ?_
    refine r_move hS hH.kp0 rfl rfl ?_; clear hS; intro a hS
    refine r_assign hS hH.kp0 rfl rfl ?_; clear hS; intro a hS
    refine Sq.nil ?_
    refine then_n ?_
    refine wp_ret ?_
    exact leave (.inl rfl) hS rfl (Res.tmp rfl Res.nil) ⟨rfl, hH.mod⟩

set_option maxRecDepth 100000 in
set_option maxHeartbeats 400000 in
theorem GetR_c (q : Option Addr) (qc : Nat) (l : List UInt8) (p n : Nat) (hp : p ≤ l.length) (hn : 1 ≤ n ∧ n ≤ 8) (hl : l.length ≤ 1099511627776) (w0 : World) (hb : Bs w0 (.slice q l.length qc) l) : Calls Tryd.prog 38 #[.slice q l.length qc, .int .i64 (p : Int), .int .i64 (n : Int)] w0 fun e w' => ∃ (x : Nat) (y z : Int), e = .returned (.tuple #[.int .u64 (x : Int), .int .i64 y, .int .i64 z]) ∧ GetR l p n x y z ∧ Ext w0 w' := by
  refine enter Tryd.func38 rfl rfl rfl ?_
  intro a hS
  have hH := Hp.start w0 (Nobody)
  refine c_seq ?_
  refine reg_plain w0 (Nobody) ?_
  refine r_assign hS hH.kp0 rfl rfl ?_; clear hS; intro a hS
  refine r_assign hS hH.kp0 rfl rfl ?_; clear hS; intro a hS
  refine r_assign hS hH.kp0 rfl rfl ?_; clear hS; intro a hS
  refine Sq.nil ?_
  refine then_n ?_
  refine c_seq ?_
  refine c_seq ?_
  refine reg_plain w0 (Nobody) ?_
  refine r_move hS hH.kp0 rfl rfl ?_; clear hS; intro a hS
  refine r_lss hS hH.kp0 rfl rfl rfl ?_; clear hS; intro a hS
  refine r_move hS hH.kp0 rfl rfl ?_; clear hS; intro a hS
  refine Sq.guardYes hS rfl rfl (DF (by omega)) ?_
  refine r_move hS hH.kp0 rfl rfl ?_; clear hS; intro a hS
  refine Sq.guardYes hS rfl rfl (DF (by omega)) ?_
  refine r_gtr hS hH.kp0 rfl rfl rfl ?_; clear hS; intro a hS
  refine r_pickF hS hH.kp0 rfl (DF (by omega)) rfl rfl ?_; clear hS; intro a hS
  refine r_move hS hH.kp0 rfl rfl ?_; clear hS; intro a hS
  refine Sq.guardYes hS rfl rfl (DF (by omega)) ?_
  refine r_move hS hH.kp0 rfl rfl ?_; clear hS; intro a hS
  refine Sq.guardYes hS rfl rfl (DF (by omega)) ?_
  refine r_lss hS hH.kp0 rfl rfl rfl ?_; clear hS; intro a hS
  refine r_pickF hS hH.kp0 rfl (DF (by omega)) rfl rfl ?_; clear hS; intro a hS
  refine r_move hS hH.kp0 rfl rfl ?_; clear hS; intro a hS
  refine Sq.guardYes hS rfl rfl (DF (by omega)) ?_
  refine r_move hS hH.kp0 rfl rfl ?_; clear hS; intro a hS
  refine Sq.guardYes hS rfl rfl (DF (by omega)) ?_
  refine r_move hS hH.kp0 rfl rfl ?_; clear hS; intro a hS
  refine Sq.guardYes hS rfl rfl (DF (by omega)) ?_
  refine r_lenSl hS hH.kp0 rfl Fc.isSlice22 rfl ?_; clear hS; intro a hS
  refine Sq.guardYes hS rfl rfl (DF (by omega)) ?_
  refine r_gtr hS hH.kp0 rfl rfl rfl ?_; clear hS; intro a hS
  refine r_pickF hS hH.kp0 rfl (DF (by omega)) rfl rfl ?_; clear hS; intro a hS
  refine Sq.nil ?_
  refine then_n ?_
  refine c_condF hS rfl (DF (by omega)) ?_
  refine wp_skip ?_
  refine then_n ?_
  refine c_seq ?_
  refine c_seq ?_
  refine reg_plain w0 (Nobody) ?_
  refine r_move hS hH.kp0 rfl rfl ?_; clear hS; intro a hS
  refine r_lenSl hS hH.kp0 rfl Fc.isSlice22 rfl ?_; clear hS; intro a hS
  refine r_move hS hH.kp0 rfl rfl ?_; clear hS; intro a hS
  first | refine r_sub hS hH.kp0 rfl rfl rfl (by omega) ?_ | refine r_subw hS hH.kp0 rfl rfl rfl ?_
  clear hS; intro a hS
  refine r_move hS hH.kp0 rfl rfl ?_; clear hS; intro a hS
  refine r_lss hS hH.kp0 rfl rfl rfl ?_; clear hS; intro a hS
  refine Sq.nil ?_
  refine then_n ?_
  refine c_cond hS rfl (fun hc1 => ?_) (fun hc1 => ?_)
  · have hlt := of_decide_eq_true hc1
    refine c_seq ?_
    refine reg_plain w0 (Nobody) ?_
    refine r_assign hS hH.kp0 rfl rfl ?_; clear hS; intro a hS
    refine r_assign hS hH.kp0 rfl rfl ?_; clear hS; intro a hS
    refine r_assign hS hH.kp0 rfl rfl ?_; clear hS; intro a hS
    refine Sq.nil ?_
    refine then_n ?_
    refine wp_ret ?_
    refine then_r ?_
    exact leave (.inl rfl) hS rfl (Res.tmp rfl (Res.tmp rfl (Res.tmp rfl Res.nil))) ⟨0, 0, 10, rfl, .inr ⟨by omega, rfl⟩, hH.mod⟩
  · have hge := of_decide_eq_false hc1
    have hpn : p + n ≤ l.length := by omega
    have hfl := (hb.f).len
    obtain ⟨ba, bo, hq⟩ := hb.f.addr (by omega)
    subst hq
    refine wp_skip ?_
    refine then_n ?_
    refine c_seq ?_
    refine reg_plain w0 (Nobody) ?_
    refine r_move hS hH.kp0 rfl rfl ?_; clear hS; intro a hS
    refine r_move hS hH.kp0 rfl rfl ?_; clear hS; intro a hS
    refine r_move hS hH.kp0 rfl rfl ?_; clear hS; intro a hS
    refine r_move hS hH.kp0 rfl rfl ?_; clear hS; intro a hS
    first | refine r_add hS hH.kp0 rfl rfl rfl (by omega) ?_ | refine r_addw hS hH.kp0 rfl rfl rfl ?_
    clear hS; intro a hS
    refine r_slLoHi (ll := p) (hh := p + n) hS hH.kp0 rfl rfl rfl Fc.slb22 rfl (by omega) (by omega) (by omega) rfl ?_; clear hS; intro a hS
    refine r_call (l := [.tmp 36]) hS rfl rfl Fc.fn40 rfl ?_
    refine Calls.mono (Number_c _ ((l.drop p).take n) (by simp; omega) _ (by have h := (hb.ext hH.mod).f.part (ll := p) (hh := p + n) (by omega) hpn; rw [Nat.add_sub_cancel_left] at h; rw [Nat.add_sub_cancel_left]; exact h.bs)) ?_
    rintro e w1 ⟨rfl, hE⟩
    replace hH := hH.ext hE
    refine ⟨_, rfl, hH.kp0, ?_⟩
    clear hS; intro a hS
    refine r_move hS hH.kp0 rfl rfl ?_; clear hS; intro a hS
    refine r_move hS hH.kp0 rfl rfl ?_; clear hS; intro a hS
    first | refine r_add hS hH.kp0 rfl rfl rfl (by omega) ?_ | refine r_addw hS hH.kp0 rfl rfl rfl ?_
    clear hS; intro a hS
    refine r_assign hS hH.kp0 rfl rfl ?_; clear hS; intro a hS
    refine r_assign hS hH.kp0 rfl rfl ?_; clear hS; intro a hS
    refine r_assign hS hH.kp0 rfl rfl ?_; clear hS; intro a hS
    refine Sq.nil ?_
    refine then_n ?_
    refine wp_ret ?_
    exact leave (.inl rfl) hS rfl (Res.tmp rfl (Res.tmp rfl (Res.tmp rfl Res.nil))) ⟨_, _, _, rfl, .inl ⟨hpn, rfl, by omega, rfl⟩, hH.mod⟩

set_option maxRecDepth 100000 in
set_option maxHeartbeats 1000000 in
theorem idR_c (q : Option Addr) (qc : Nat) (l : List UInt8) (p : Nat) (hl : l.length ≤ 1099511627776) (w0 : World) (hb : Bs w0 (.slice q l.length qc) l) : Calls Tryd.prog 39 #[.slice q l.length qc, .int .i64 (p : Int)] w0 fun e w' => ∃ (v : Value) (x y : Int), e = .returned (.tuple #[v, .int .i64 x, .int .i64 y]) ∧ IdRes w0.heap.size w' v x y (idQ l p) ∧ Ext w0 w' := by
  refine enter Tryd.func39 rfl rfl rfl ?_
  intro a hS
  have hH := Hp.start w0 (Nobody)
  refine c_seq ?_
  refine reg_plain w0 (Nobody) ?_
  refine r_assign hS hH.kp0 rfl rfl ?_; clear hS; intro a hS
  refine r_assign hS hH.kp0 rfl rfl ?_; clear hS; intro a hS
  refine r_assign hS hH.kp0 rfl rfl ?_; clear hS; intro a hS
  refine Sq.nil ?_
  refine then_n ?_
  refine c_seq ?_
  refine c_seq ?_
  refine reg_plain w0 (Nobody) ?_
  refine r_move hS hH.kp0 rfl rfl ?_; clear hS; intro a hS
  refine r_move hS hH.kp0 rfl rfl ?_; clear hS; intro a hS
  refine r_lenSl hS hH.kp0 rfl Fc.isSlice22 rfl ?_; clear hS; intro a hS
  refine r_geq hS hH.kp0 rfl rfl rfl ?_; clear hS; intro a hS
  refine Sq.nil ?_
  refine then_n ?_
  refine c_cond hS rfl (fun hc0 => ?_) (fun hc0 => ?_)
  · have hge := of_decide_eq_true hc0
    have hq0 : idQ l p = .inl 10 := by unfold idQ; rw [List.getElem?_eq_none (by omega)]
    refine c_seq ?_
    refine reg_plain w0 (Nobody) ?_
    refine r_assign hS hH.kp0 rfl rfl ?_; clear hS; intro a hS
    refine r_assign hS hH.kp0 rfl rfl ?_; clear hS; intro a hS
    refine r_assign hS hH.kp0 rfl rfl ?_; clear hS; intro a hS
    refine Sq.nil ?_
    refine then_n ?_
    refine wp_ret ?_
    refine then_r ?_
    refine leave (.inl rfl) hS rfl (Res.tmp rfl (Res.tmp rfl (Res.tmp rfl Res.nil))) ⟨_, _, _, rfl, ?_, hH.mod⟩
    rw [hq0]; exact ⟨rfl, rfl, rfl, by decide⟩
  · have hlt := of_decide_eq_false hc0
    have hk : p < l.length := by omega
    obtain ⟨x, hx⟩ : ∃ x, l[p]? = some x := ⟨_, List.getElem?_eq_getElem hk⟩
    have hxl := x.toNat_lt
    have hfl := (hb.f).len
    obtain ⟨ba, bo, hq⟩ := hb.f.addr (by omega)
    subst hq
    have hcell := hb.f.byte hH.mod hx
    refine wp_skip ?_
    refine then_n ?_
    refine c_seq ?_
    refine reg_plain w0 (Nobody) ?_
    refine r_move hS hH.kp0 rfl rfl ?_; clear hS; intro a hS
    refine r_move hS hH.kp0 rfl rfl ?_; clear hS; intro a hS
    refine r_indexAddrS (j := p) hS hH.kp0 rfl rfl Fc.slb22 rfl (by omega) rfl ?_; clear hS; intro a hS
    refine r_load_cell (v := byteV x) hS hH.kp0 rfl (by rw [Nat.mul_one]; exact hcell) Fc.sc5 rfl ?_; clear hS; intro a hS
    refine r_toI64 x.toNat hS hH.kp0 rfl Fc.ui3 Fc.us5 rfl rfl (by omega) ?_; clear hS; intro a hS
    refine r_assign hS hH.kp0 rfl rfl ?_; clear hS; intro a hS
    refine Sq.nil ?_
    refine then_n ?_
    refine c_seq ?_
    refine c_seq ?_
    refine reg_plain w0 (Nobody) ?_
    refine r_move hS hH.kp0 rfl rfl ?_; clear hS; intro a hS
    refine r_gtr hS hH.kp0 rfl rfl rfl ?_; clear hS; intro a hS
    refine Sq.nil ?_
    refine then_n ?_
    refine c_cond hS rfl (fun hc1 => ?_) (fun hc1 => ?_)
    · have hgt := of_decide_eq_true hc1
      have hq0 : idQ l p = .inl 11 := by unfold idQ; rw [hx]; exact if_pos (by omega)
      refine c_seq ?_
      refine reg_plain w0 (Nobody) ?_
      refine r_assign hS hH.kp0 rfl rfl ?_; clear hS; intro a hS
      refine r_assign hS hH.kp0 rfl rfl ?_; clear hS; intro a hS
      refine r_assign hS hH.kp0 rfl rfl ?_; clear hS; intro a hS
      refine Sq.nil ?_
      refine then_n ?_
      refine wp_ret ?_
      refine then_r ?_
      refine leave (.inl rfl) hS rfl (Res.tmp rfl (Res.tmp rfl (Res.tmp rfl Res.nil))) ⟨_, _, _, rfl, ?_, hH.mod⟩
      rw [hq0]; exact ⟨rfl, rfl, rfl, by decide⟩
    · have hle := of_decide_eq_false hc1
      refine wp_skip ?_
      refine then_n ?_
      refine c_seq ?_
      refine c_seq ?_
      refine reg_plain w0 (Nobody) ?_
      refine r_move hS hH.kp0 rfl rfl ?_; clear hS; intro a hS
      refine r_lenSl hS hH.kp0 rfl Fc.isSlice22 rfl ?_; clear hS; intro a hS
      refine r_move hS hH.kp0 rfl rfl ?_; clear hS; intro a hS
      first | refine r_sub hS hH.kp0 rfl rfl rfl (by omega) ?_ | refine r_subw hS hH.kp0 rfl rfl rfl ?_
      clear hS; intro a hS
      first | refine r_sub hS hH.kp0 rfl rfl rfl (by omega) ?_ | refine r_subw hS hH.kp0 rfl rfl rfl ?_
      clear hS; intro a hS
      refine r_move hS hH.kp0 rfl rfl ?_; clear hS; intro a hS
      refine r_lss hS hH.kp0 rfl rfl rfl ?_; clear hS; intro a hS
      refine Sq.nil ?_
      refine then_n ?_
      refine c_cond hS rfl (fun hc2 => ?_) (fun hc2 => ?_)
      · have hlt2 := of_decide_eq_true hc2
        have hq0 : idQ l p = .inl 10 := by unfold idQ; rw [hx]; simp only; rw [if_neg (by omega), if_pos (by omega)]
        refine c_seq ?_
        refine reg_plain w0 (Nobody) ?_
        refine r_assign hS hH.kp0 rfl rfl ?_; clear hS; intro a hS
        refine r_assign hS hH.kp0 rfl rfl ?_; clear hS; intro a hS
        refine r_assign hS hH.kp0 rfl rfl ?_; clear hS; intro a hS
        refine Sq.nil ?_
        refine then_n ?_
        refine wp_ret ?_
        refine then_r ?_
        refine leave (.inl rfl) hS rfl (Res.tmp rfl (Res.tmp rfl (Res.tmp rfl Res.nil))) ⟨_, _, _, rfl, ?_, hH.mod⟩
        rw [hq0]; exact ⟨rfl, rfl, rfl, by decide⟩
      · have hge2 := of_decide_eq_false hc2
        have hpn : p + 1 + x.toNat ≤ l.length := by omega
        have hq0 : idQ l p = .inr ((l.drop (p + 1)).take x.toNat, p + 1 + x.toNat) := by unfold idQ; rw [hx]; simp only; rw [if_neg (by omega), if_neg (by omega)]
        refine wp_skip ?_
        refine then_n ?_
        refine c_seq ?_
        refine reg_plain w0 (Nobody) ?_
        refine r_buildSlice0 hS hH (by repeat (first | exact Sub.nil | refine Sub.cons ?_ ?_ | exact In.here | refine In.there ?_)) Fc.uls22 Fc.inf5 rfl ?_
        clear hS hH; intro a w bz hbz hwbz hS hH
        refine r_move hS hH.kp0 rfl rfl ?_; clear hS; intro a hS
        refine r_move hS hH.kp0 rfl rfl ?_; clear hS; intro a hS
        first | refine r_add hS hH.kp0 rfl rfl rfl (by omega) ?_ | refine r_addw hS hH.kp0 rfl rfl rfl ?_
        clear hS; intro a hS
        refine r_move hS hH.kp0 rfl rfl ?_; clear hS; intro a hS
        first | refine r_add hS hH.kp0 rfl rfl rfl (by omega) ?_ | refine r_addw hS hH.kp0 rfl rfl rfl ?_
        clear hS; intro a hS
        refine r_move hS hH.kp0 rfl rfl ?_; clear hS; intro a hS
        first | refine r_add hS hH.kp0 rfl rfl rfl (by omega) ?_ | refine r_addw hS hH.kp0 rfl rfl rfl ?_
        clear hS; intro a hS
        refine r_slLoHi (ll := p + 1) (hh := p + 1 + x.toNat) hS hH.kp0 rfl rfl rfl Fc.slb22 (by omega) (by omega) (by omega) (by omega) rfl ?_; clear hS; intro a hS
        refine r_appB (l := []) ([]) ((l.drop (p + 1)).take (p + 1 + x.toNat - (p + 1))) hS hH rfl rfl (by first | exact .here | exact .there .here | exact .there (.there .here) | exact .there (.there (.there .here)) | exact .there (.there (.there (.there .here))) | exact .there (.there (.there (.there (.there .here)))) | exact .there (.there (.there (.there (.there (.there .here))))) | exact .there (.there (.there (.there (.there (.there (.there .here)))))) | exact .there (.there (.there (.there (.there (.there (.there (.there .here))))))) | exact .there (.there (.there (.there (.there (.there (.there (.there (.there .here)))))))) | exact .there (.there (.there (.there (.there (.there (.there (.there (.there (.there .here))))))))) | exact .there (.there (.there (.there (.there (.there (.there (.there (.there (.there (.there .here)))))))))) | exact .there (.there (.there (.there (.there (.there (.there (.there (.there (.there (.there (.there .here))))))))))) | exact .there (.there (.there (.there (.there (.there (.there (.there (.there (.there (.there (.there (.there .here)))))))))))) | exact .there (.there (.there (.there (.there (.there (.there (.there (.there (.there (.there (.there (.there (.there .here))))))))))))) | exact .there (.there (.there (.there (.there (.there (.there (.there (.there (.there (.there (.there (.there (.there (.there .here))))))))))))))) (by repeat (first | exact Sub.nil | refine Sub.cons ?_ ?_ | exact In.here | refine In.there ?_)) Fc.el22 Fc.ni22 BB.nil ((hb.ext hH.mod).f.part (ll := p + 1) (hh := p + 1 + x.toNat) (by omega) hpn).bs (by first | omega | (simp only [List.length_append, List.length_nil, List.length_take, List.length_drop]; omega)) (by assumption) rfl ?_
        clear hS hH; intro a w b1 c1 k1 hw1 hB1 hS hH
        refine r_move hS hH.kp0 rfl rfl ?_; clear hS; intro a hS
        first | refine r_add hS hH.kp0 rfl rfl rfl (by omega) ?_ | refine r_addw hS hH.kp0 rfl rfl rfl ?_
        clear hS; intro a hS
        refine r_move hS hH.kp0 rfl rfl ?_; clear hS; intro a hS
        first | refine r_add hS hH.kp0 rfl rfl rfl (by omega) ?_ | refine r_addw hS hH.kp0 rfl rfl rfl ?_
        clear hS; intro a hS
        refine r_assign hS hH.kp0 rfl rfl ?_; clear hS; intro a hS
        refine r_assign hS hH.kp0 rfl rfl ?_; clear hS; intro a hS
        refine r_assign hS hH.kp0 rfl rfl ?_; clear hS; intro a hS
        refine Sq.nil ?_
        refine then_n ?_
        refine wp_ret ?_
        refine leave (.inl rfl) hS rfl (Res.tmp rfl (Res.tmp rfl (Res.tmp rfl Res.nil))) ⟨_, _, _, rfl, ?_, hH.mod⟩
        rw [hq0]; rw [List.nil_append, show p + 1 + x.toNat - (p + 1) = x.toNat from by omega] at hB1; refine ⟨b1, c1, k1, ?_, hw1, hH.get (b := b1) (by repeat (first | exact In.here | refine In.there ?_)), hB1, by omega, rfl⟩
        rw [List.nil_append, show p + 1 + x.toNat - (p + 1) = x.toNat from by omega]

set_option maxRecDepth 100000 in
set_option maxHeartbeats 2000000 in
theorem ReadV_c (q : Option Addr) (qc : Nat) (l : List UInt8) (p : Nat) (hp : p ≤ l.length) (hl : l.length ≤ 1099511627776) (w0 : World) (hb : Bs w0 (.slice q l.length qc) l) : Calls Tryd.prog 53 #[.slice q l.length qc, .int .i64 (p : Int)] w0 fun e w' => ∃ (x y z : Int), e = .returned (.tuple #[.int .i64 x, .int .i64 y, .int .i64 z]) ∧ VarR l p x y z ∧ Ext w0 w' := by
  refine enter Tryd.func53 rfl rfl rfl ?_
  intro a hS
  have hH := Hp.start w0 (Nobody)
  refine c_seq ?_
  refine reg_plain w0 (Nobody) ?_
  refine r_assign hS hH.kp0 rfl rfl ?_; clear hS; intro a hS
  refine r_assign hS hH.kp0 rfl rfl ?_; clear hS; intro a hS
  refine r_assign hS hH.kp0 rfl rfl ?_; clear hS; intro a hS
  refine Sq.nil ?_
  refine then_n ?_
  refine c_seq ?_
  refine c_seq ?_
  refine reg_plain w0 (Nobody) ?_
  refine r_move hS hH.kp0 rfl rfl ?_; clear hS; intro a hS
  refine r_lss hS hH.kp0 rfl rfl rfl ?_; clear hS; intro a hS
  refine r_move hS hH.kp0 rfl rfl ?_; clear hS; intro a hS
  refine Sq.guardYes hS rfl rfl (DF (by omega)) ?_
  refine r_move hS hH.kp0 rfl rfl ?_; clear hS; intro a hS
  refine Sq.guardYes hS rfl rfl (DF (by omega)) ?_
  refine r_move hS hH.kp0 rfl rfl ?_; clear hS; intro a hS
  refine Sq.guardYes hS rfl rfl (DF (by omega)) ?_
  refine r_lenSl hS hH.kp0 rfl Fc.isSlice22 rfl ?_; clear hS; intro a hS
  refine Sq.guardYes hS rfl rfl (DF (by omega)) ?_
  refine r_gtr hS hH.kp0 rfl rfl rfl ?_; clear hS; intro a hS
  refine r_pickF hS hH.kp0 rfl (DF (by omega)) rfl rfl ?_; clear hS; intro a hS
  refine Sq.nil ?_
  refine then_n ?_
  refine c_condF hS rfl (DF (by omega)) ?_
  refine wp_skip ?_
  refine then_n ?_
  refine c_seq ?_
  refine c_seq ?_
  refine reg_plain w0 (Nobody) ?_
  refine r_move hS hH.kp0 rfl rfl ?_; clear hS; intro a hS
  refine r_move hS hH.kp0 rfl rfl ?_; clear hS; intro a hS
  refine r_lenSl hS hH.kp0 rfl Fc.isSlice22 rfl ?_; clear hS; intro a hS
  refine r_eql hS hH.kp0 rfl rfl rfl ?_; clear hS; intro a hS
  refine Sq.nil ?_
  refine then_n ?_
  refine c_cond hS rfl (fun hc1 => ?_) (fun hc1 => ?_)
  · have hpe := beq_iff_eq.1 hc1
    have hn0 : varN l p = none := varN_none (List.drop_of_length_le (by omega))
    refine c_seq ?_
    refine reg_plain w0 (Nobody) ?_
    refine r_assign hS hH.kp0 rfl rfl ?_; clear hS; intro a hS
    refine r_assign hS hH.kp0 rfl rfl ?_; clear hS; intro a hS
    refine r_assign hS hH.kp0 rfl rfl ?_; clear hS; intro a hS
    refine Sq.nil ?_
    refine then_n ?_
    refine wp_ret ?_
    refine then_r ?_
    exact leave (.inl rfl) hS rfl (Res.tmp rfl (Res.tmp rfl (Res.tmp rfl Res.nil))) ⟨_, _, _, rfl, .inr ⟨hn0, rfl⟩, hH.mod⟩
  · have hpe := ne_of_beq_false hc1
    have hk : p < l.length := by omega
    obtain ⟨x, hx⟩ : ∃ x, l[p]? = some x := ⟨_, List.getElem?_eq_getElem hk⟩
    have hxl := x.toNat_lt
    have hfl := (hb.f).len
    obtain ⟨ba, bo, hq⟩ := hb.f.addr (by omega)
    subst hq
    have hcell := hb.f.byte hH.mod hx
    obtain ⟨k, hk4⟩ : ∃ k, x.toNat / 64 = k := ⟨_, rfl⟩
    have hx3 : k ≤ 3 := by omega
    obtain ⟨hz8, hz1⟩ := pow3 hx3
    have hx9 : (l.drop p)[0]? = some x := by rw [List.getElem?_drop]; exact hx
    have hdl : (l.drop p).length = l.length - p := by simp
    refine wp_skip ?_
    refine then_n ?_
    refine c_seq ?_
    refine reg_plain w0 (Nobody) ?_
    refine r_move hS hH.kp0 rfl rfl ?_; clear hS; intro a hS
    refine r_move hS hH.kp0 rfl rfl ?_; clear hS; intro a hS
    refine r_indexAddrS (j := p) hS hH.kp0 rfl rfl Fc.slb22 rfl (by omega) rfl ?_; clear hS; intro a hS
    refine r_load_cell (v := byteV x) hS hH.kp0 rfl (by rw [Nat.mul_one]; exact hcell) Fc.sc5 rfl ?_; clear hS; intro a hS
    refine r_quoB x.toNat 64 hS hH.kp0 rfl rfl rfl rfl (by decide) hxl ?_; clear hS; intro a hS
    rw [hk4] at hS
    refine r_toU64 k hS hH.kp0 rfl Fc.ui30 Fc.us5 rfl rfl (by omega) ?_; clear hS; intro a hS
    refine r_shlI k hS hH.kp0 rfl rfl rfl rfl (by omega) ?_; clear hS; intro a hS
    refine r_assign hS hH.kp0 rfl rfl ?_; clear hS; intro a hS
    refine Sq.nil ?_
    refine then_n ?_
    refine c_seq ?_
    refine c_seq ?_
    refine reg_plain w0 (Nobody) ?_
    refine r_move hS hH.kp0 rfl rfl ?_; clear hS; intro a hS
    refine r_lenSl hS hH.kp0 rfl Fc.isSlice22 rfl ?_; clear hS; intro a hS
    refine r_move hS hH.kp0 rfl rfl ?_; clear hS; intro a hS
    first | refine r_sub hS hH.kp0 rfl rfl rfl (by omega) ?_ | refine r_subw hS hH.kp0 rfl rfl rfl ?_
    clear hS; intro a hS
    refine r_move hS hH.kp0 rfl rfl ?_; clear hS; intro a hS
    refine r_lss hS hH.kp0 rfl rfl rfl ?_; clear hS; intro a hS
    refine Sq.nil ?_
    refine then_n ?_
    refine c_cond hS rfl (fun hc2 => ?_) (fun hc2 => ?_)
    · have hsh := of_decide_eq_true hc2
      have hn0 : varN l p = none := varN_short rfl hx9 (by rw [hk4]; omega)
      refine c_seq ?_
      refine reg_plain w0 (Nobody) ?_
      refine r_assign hS hH.kp0 rfl rfl ?_; clear hS; intro a hS
      refine r_assign hS hH.kp0 rfl rfl ?_; clear hS; intro a hS
      refine r_assign hS hH.kp0 rfl rfl ?_; clear hS; intro a hS
      refine Sq.nil ?_
      refine then_n ?_
      refine wp_ret ?_
      refine then_r ?_
      exact leave (.inl rfl) hS rfl (Res.tmp rfl (Res.tmp rfl (Res.tmp rfl Res.nil))) ⟨_, _, _, rfl, .inr ⟨hn0, rfl⟩, hH.mod⟩
    · have hsh := of_decide_eq_false hc2
      have hpn : p + 2 ^ k ≤ l.length := by omega
      have hvs := varN_some rfl hx9 (by rw [hk4]; omega)
      rw [hk4] at hvs
      obtain ⟨t, ht⟩ : ∃ t, (l.drop p).take (2 ^ k) = x :: t := by (cases hd : l.drop p with | nil => (rw [hd] at hx9; cases hx9) | cons y r => (rw [hd] at hx9; simp at hx9; subst hx9; exact ⟨r.take (2 ^ k - 1), by rw [show 2 ^ k = (2 ^ k - 1) + 1 by omega, List.take_succ_cons]; rfl⟩))
      have htl : (x :: t).length = 2 ^ k := by rw [← ht]; simp; omega
      have htl2 : t.length + 1 = 2 ^ k := htl
      have hw63 : 2 ^ (8 * 2 ^ k - 2) ≤ 4611686018427387904 := Nat.le_trans (Nat.pow_le_pow_right (n := 2) (by omega) (show 8 * 2 ^ k - 2 ≤ 62 by omega)) (by decide)
      refine wp_skip ?_
      refine then_n ?_
      refine c_seq ?_
      refine reg_plain w0 (Nobody) ?_
      refine r_buildSlice0 hS hH (by repeat (first | exact Sub.nil | refine Sub.cons ?_ ?_ | exact In.here | refine In.there ?_)) Fc.uls22 Fc.inf5 rfl ?_
      clear hS hH; intro a w bz hbz hwbz hS hH
      refine r_move hS hH.kp0 rfl rfl ?_; clear hS; intro a hS
      refine r_move hS hH.kp0 rfl rfl ?_; clear hS; intro a hS
      refine r_move hS hH.kp0 rfl rfl ?_; clear hS; intro a hS
      refine r_move hS hH.kp0 rfl rfl ?_; clear hS; intro a hS
      first | refine r_add hS hH.kp0 rfl rfl rfl (by omega) ?_ | refine r_addw hS hH.kp0 rfl rfl rfl ?_
      clear hS; intro a hS
      refine r_slLoHi (ll := p) (hh := p + 2 ^ k) hS hH.kp0 rfl rfl rfl Fc.slb22 rfl (by omega) (by omega) (by omega) rfl ?_; clear hS; intro a hS
      refine r_appB (l := []) ([]) ((l.drop p).take (p + 2 ^ k - p)) hS hH rfl rfl (by first | exact .here | exact .there .here | exact .there (.there .here) | exact .there (.there (.there .here)) | exact .there (.there (.there (.there .here))) | exact .there (.there (.there (.there (.there .here)))) | exact .there (.there (.there (.there (.there (.there .here))))) | exact .there (.there (.there (.there (.there (.there (.there .here)))))) | exact .there (.there (.there (.there (.there (.there (.there (.there .here))))))) | exact .there (.there (.there (.there (.there (.there (.there (.there (.there .here)))))))) | exact .there (.there (.there (.there (.there (.there (.there (.there (.there (.there .here))))))))) | exact .there (.there (.there (.there (.there (.there (.there (.there (.there (.there (.there .here)))))))))) | exact .there (.there (.there (.there (.there (.there (.there (.there (.there (.there (.there (.there .here))))))))))) | exact .there (.there (.there (.there (.there (.there (.there (.there (.there (.there (.there (.there (.there .here)))))))))))) | exact .there (.there (.there (.there (.there (.there (.there (.there (.there (.there (.there (.there (.there (.there .here))))))))))))) | exact .there (.there (.there (.there (.there (.there (.there (.there (.there (.there (.there (.there (.there (.there (.there .here))))))))))))))) (by repeat (first | exact Sub.nil | refine Sub.cons ?_ ?_ | exact In.here | refine In.there ?_)) Fc.el22 Fc.ni22 BB.nil ((hb.ext hH.mod).f.part (ll := p) (hh := p + 2 ^ k) (by omega) hpn).bs (by first | omega | (simp only [List.length_append, List.length_nil, List.length_take, List.length_drop]; omega)) (by assumption) rfl ?_
      clear hS hH; intro a w b1 c1 k1 hw1 hB1 hS hH
      rw [List.nil_append, Nat.add_sub_cancel_left, ht] at hB1 hS
      have h0v : nthV k1 (0 + 0 * 1) = some (byteV x) := by rw [nthV_eq]; exact hB1.at (k := 0) rfl
      have hk1l : 0 < k1.length := by have h1 := hB1.len; have h2 := hB1.le; rw [htl] at h2; omega
      obtain ⟨y, hy⟩ : ∃ y : UInt8, y.toNat = x.toNat % 64 := ⟨UInt8.ofNat (x.toNat % 64), by rw [UInt8.toNat_ofNat']; omega⟩
      refine r_assign hS hH.kp0 rfl rfl ?_; clear hS; intro a hS
      refine Sq.nil ?_
      refine then_n ?_
      refine c_seq ?_
      refine reg_plain w0 (Nobody) ?_
      refine r_move hS hH.kp0 rfl rfl ?_; clear hS; intro a hS
      refine r_move hS hH.kp0 rfl rfl ?_; clear hS; intro a hS
      refine r_indexAddrS (j := 0) hS hH.kp0 rfl rfl Fc.slb22 rfl (by rw [htl]; omega) rfl ?_; clear hS; intro a hS
      refine r_load_sc (v := byteV x) hS hH (by repeat (first | exact Sub.nil | refine Sub.cons ?_ ?_ | exact In.here | refine In.there ?_)) rfl (by repeat (first | exact In.here | refine In.there ?_)) Fc.sc5 h0v rfl ?_; clear hS; intro a hS
      refine r_remB x.toNat 64 hS hH.kp0 rfl rfl rfl rfl (by decide) ?_; clear hS; intro a hS
      rw [← hy] at hS
      refine r_indexAddrS (j := 0) hS hH.kp0 rfl rfl Fc.slb22 rfl (by rw [htl]; omega) rfl ?_; clear hS; intro a hS
      refine r_store1 (v := byteV y) hS hH rfl rfl rfl (by first | exact .here | exact .there .here | exact .there (.there .here) | exact .there (.there (.there .here)) | exact .there (.there (.there (.there .here))) | exact .there (.there (.there (.there (.there .here)))) | exact .there (.there (.there (.there (.there (.there .here))))) | exact .there (.there (.there (.there (.there (.there (.there .here)))))) | exact .there (.there (.there (.there (.there (.there (.there (.there .here))))))) | exact .there (.there (.there (.there (.there (.there (.there (.there (.there .here)))))))) | exact .there (.there (.there (.there (.there (.there (.there (.there (.there (.there .here))))))))) | exact .there (.there (.there (.there (.there (.there (.there (.there (.there (.there (.there .here)))))))))) | exact .there (.there (.there (.there (.there (.there (.there (.there (.there (.there (.there (.there .here))))))))))) | exact .there (.there (.there (.there (.there (.there (.there (.there (.there (.there (.there (.there (.there .here)))))))))))) | exact .there (.there (.there (.there (.there (.there (.there (.there (.there (.there (.there (.there (.there (.there .here))))))))))))) | exact .there (.there (.there (.there (.there (.there (.there (.there (.there (.there (.there (.there (.there (.there (.there .here))))))))))))))) (by repeat (first | exact Sub.nil | refine Sub.cons ?_ ?_ | exact In.here | refine In.there ?_)) Fc.sz5 (by omega) (.inr (by assumption)) ?_; clear hH; intro w hH
      have hB2 : BB c1 (spl k1 (0 + 0 * 1) [byteV y]) (y :: t) := ⟨by rw [spl1_len hk1l]; exact hB1.len, hB1.le, by rw [spl1_eq hk1l]; show (k1.set 0 (byteV y)).take (t.length + 1) = _; rw [List.take_set]; have h9 := hB1.take; rw [show (x :: t).length = t.length + 1 from rfl] at h9; rw [h9]; rfl⟩
      refine Sq.nil ?_
      refine then_n ?_
      refine c_seq ?_
      refine reg_plain w0 (Nobody) ?_
      refine r_move hS hH.kp0 rfl rfl ?_; clear hS; intro a hS
      refine r_call (l := [.tmp 48]) hS rfl rfl Fc.fn40 rfl ?_
      refine Calls.mono (Number_c _ (y :: t) (by rw [show (y :: t).length = 2 ^ k from htl]; exact hz8) _ (hB2.bs (hH.get (b := b1) (by repeat (first | exact In.here | refine In.there ?_))))) ?_
      rintro e w1 ⟨rfl, hE⟩
      replace hH := hH.ext hE
      refine ⟨_, rfl, hH.kp0, ?_⟩
      clear hS; intro a hS
      refine r_toI64 (beN (y :: t)) hS hH.kp0 rfl Fc.ui3 Fc.us36 rfl rfl (by rw [beN_low htl2 hy]; have := Nat.mod_lt (beN (x :: t)) (Nat.two_pow_pos (8 * 2 ^ k - 2)); omega) ?_; clear hS; intro a hS
      refine r_move hS hH.kp0 rfl rfl ?_; clear hS; intro a hS
      refine r_move hS hH.kp0 rfl rfl ?_; clear hS; intro a hS
      refine r_add hS hH.kp0 rfl rfl rfl (by omega) ?_; clear hS; intro a hS
      refine r_assign hS hH.kp0 rfl rfl ?_; clear hS; intro a hS
      refine r_assign hS hH.kp0 rfl rfl ?_; clear hS; intro a hS
      refine r_assign hS hH.kp0 rfl rfl ?_; clear hS; intro a hS
      refine Sq.nil ?_
      refine then_n ?_
      refine wp_ret ?_
      rw [ht, ← beN_low htl2 hy] at hvs
      exact leave (.inl rfl) hS rfl (Res.tmp rfl (Res.tmp rfl (Res.tmp rfl Res.nil))) ⟨_, _, _, rfl, .inl ⟨_, _, hvs, rfl, by omega, rfl⟩, hH.mod⟩

end Go.Proofs.YtcenionnedgadaaDoor
