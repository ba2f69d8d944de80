/- HeaderBack: a header that is put is read again, with the place and the lowest bytes of the number. Conditions: those of the given row (arguments of at most 1048576 values and letters; the listed variables hold what the text lays). Part Header2: walks and lemmas of the proof. -/
import Derived.Test.YtcenionnedgadaaDoorHeader1
namespace Go.Proofs.YtcenionnedgadaaDoor
open Go.Sym

theorem wid_get {k : Nat} (h : k ≤ 3) : nthV [.int .i64 6, .int .i64 14, .int .i64 30, .int .i64 62] k = some (.int .i64 ((8 * 2 ^ k - 2 : Nat) : Int)) := by
  match k, h with
  | 0, _ => rfl
  | 1, _ => rfl
  | 2, _ => rfl
  | 3, _ => rfl

theorem Fc.ar92 : arrB Tryd.prog 92 = some (4, 1) := by kernel_rfl
theorem Fc.fn18 : isFn Tryd.prog 18 = true := by kernel_rfl
theorem Fc.fn20 : isFn Tryd.prog 20 = true := by kernel_rfl
theorem Fc.fn52 : isFn Tryd.prog 52 = true := by kernel_rfl
set_option maxRecDepth 100000 in
set_option maxHeartbeats 1000000 in
theorem id_c (cb p qc : Nat) (q : Option Addr) (l : List UInt8) (bad : Int) (hp : p ≤ l.length) (hl : l.length ≤ 1099511627776) (h1 : 0 < l.length) (w0 : World) (h : w0.heap[cb]? = some (.cells [.slice q l.length qc, .int .i64 (p : Int), .int .i64 bad].toArray 50 (0, 0))) (hb : BsF (· = cb) w0 (.slice q l.length qc) l) : Calls Tryd.prog 21 #[.pointer (some ⟨cb, 0, none⟩)] w0 fun e w' => ∃ r, e = .returned r ∧ GotB w0.heap.size 5 w' r (idC l ⟨p, bad⟩).1 (idC l ⟨p, bad⟩).2 ∧ w'.heap[cb]? = some (.cells [.slice q l.length qc, .int .i64 ((idC l ⟨p, bad⟩).2.p : Int), .int .i64 (idC l ⟨p, bad⟩).2.bad].toArray 50 (0, 0)) ∧ Mod (· = cb) w0 w' := by
  refine enter Tryd.func21 rfl rfl rfl ?_
  intro a hS
  have hH := Hp.start w0 (fun x => x = cb)
  replace hH := hH.know h (fun p hp => by simp at hp)
  refine c_seq ?_
  refine reg_plain w0 (fun x => x = cb) ?_
  refine r_assign hS hH.kp0 rfl rfl ?_; clear hS; intro a hS
  refine Sq.nil ?_
  refine then_n ?_
  refine c_seq ?_
  refine reg_plain w0 (fun x => x = cb) ?_
  refine r_move hS hH.kp0 rfl rfl ?_; clear hS; intro a hS
  refine r_call (l := [.tmp 4, .const (.int .i64 1)]) hS rfl rfl Fc.fn18 rfl ?_
  refine Calls.mono (number_c cb p qc q l bad 1 hp hl (by omega) _ (hH.get (by repeat (first | exact In.here | refine In.there ?_))) (hb.go hH.mod (fun x hx => .inl hx))) ?_
  rintro e w1 ⟨rfl, hcb1, hm1⟩
  have hlt1 := num_lt (l := l) (n := 1) (c := ⟨p, bad⟩)
  have hle1 := num_le (l := l) (n := 1) (c := ⟨p, bad⟩) hp
  generalize hN : numC l 1 ⟨p, bad⟩ = rr at hlt1 hle1 hcb1 ⊢
  obtain ⟨n1, p1, b1⟩ := rr
  simp only at hlt1 hle1 hcb1 ⊢
  replace hH := hH.modPut hm1 hcb1 (by first | exact .here | exact .there .here | exact .there (.there .here) | exact .there (.there (.there .here)) | exact .there (.there (.there (.there .here))) | exact .there (.there (.there (.there (.there .here)))) | exact .there (.there (.there (.there (.there (.there .here))))) | exact .there (.there (.there (.there (.there (.there (.there .here)))))) | exact .there (.there (.there (.there (.there (.there (.there (.there .here))))))) | exact .there (.there (.there (.there (.there (.there (.there (.there (.there .here)))))))) | exact .there (.there (.there (.there (.there (.there (.there (.there (.there (.there .here))))))))) | exact .there (.there (.there (.there (.there (.there (.there (.there (.there (.there (.there .here)))))))))) | exact .there (.there (.there (.there (.there (.there (.there (.there (.there (.there (.there (.there .here))))))))))) | exact .there (.there (.there (.there (.there (.there (.there (.there (.there (.there (.there (.there (.there .here)))))))))))) | exact .there (.there (.there (.there (.there (.there (.there (.there (.there (.there (.there (.there (.there (.there .here))))))))))))) | exact .there (.there (.there (.there (.there (.there (.there (.there (.there (.there (.there (.there (.there (.there (.there .here))))))))))))))) (.inl rfl)
  refine ⟨_, rfl, hH.kp0, ?_⟩
  clear hS; intro a hS
  refine r_assign hS hH.kp0 rfl rfl ?_; clear hS; intro a hS
  refine Sq.nil ?_
  refine then_n ?_
  refine c_seq ?_
  refine c_seq ?_
  refine reg_plain w0 (fun x => x = cb) ?_
  refine r_move hS hH.kp0 rfl rfl ?_; clear hS; intro a hS
  refine r_move hS hH.kp0 rfl rfl ?_; clear hS; intro a hS
  refine r_leq hS hH.kp0 rfl rfl rfl ?_; clear hS; intro a hS
  refine r_call (l := [.tmp 6, .tmp 8, .const (.int .i64 11)]) hS rfl rfl Fc.fn19 rfl ?_
  refine Calls.mono (ok_c cb _ _ b1 11 (decide ((n1 : Int) ≤ 20)) p1 rfl _ (hH.get (by repeat (first | exact In.here | refine In.there ?_)))) ?_
  rintro e w1 ⟨rfl, hcb2, hm2⟩
  replace hH := hH.modPut hm2 hcb2 (by first | exact .here | exact .there .here | exact .there (.there .here) | exact .there (.there (.there .here)) | exact .there (.there (.there (.there .here))) | exact .there (.there (.there (.there (.there .here)))) | exact .there (.there (.there (.there (.there (.there .here))))) | exact .there (.there (.there (.there (.there (.there (.there .here)))))) | exact .there (.there (.there (.there (.there (.there (.there (.there .here))))))) | exact .there (.there (.there (.there (.there (.there (.there (.there (.there .here)))))))) | exact .there (.there (.there (.there (.there (.there (.there (.there (.there (.there .here))))))))) | exact .there (.there (.there (.there (.there (.there (.there (.there (.there (.there (.there .here)))))))))) | exact .there (.there (.there (.there (.there (.there (.there (.there (.there (.there (.there (.there .here))))))))))) | exact .there (.there (.there (.there (.there (.there (.there (.there (.there (.there (.there (.there (.there .here)))))))))))) | exact .there (.there (.there (.there (.there (.there (.there (.there (.there (.there (.there (.there (.there (.there .here))))))))))))) | exact .there (.there (.there (.there (.there (.there (.there (.there (.there (.there (.there (.there (.there (.there (.there .here))))))))))))))) (.inl rfl)
  refine ⟨_, rfl, hH.kp0, ?_⟩
  clear hS; intro a hS
  refine r_not hS hH.kp0 rfl rfl ?_; clear hS; intro a hS
  refine Sq.nil ?_
  refine then_n ?_
  refine c_cond hS rfl (fun hc0 => ?_) (fun hc0 => ?_)
  · refine c_seq ?_
    refine reg_plain w0 (fun x => x = cb) ?_
    refine r_assign hS hH.kp0 rfl rfl ?_; clear hS; intro a hS
    refine Sq.nil ?_
    refine then_n ?_
    refine wp_ret ?_
    refine then_r ?_
    rw [id_no hN hc0]
    refine leave (.inl rfl) hS rfl (Res.tmp rfl Res.nil) ⟨_, rfl, .inl ⟨?_, rfl, rfl⟩, hH.get (by repeat (first | exact In.here | refine In.there ?_)), hH.mod⟩
    simpa using hc0
  · obtain ⟨hok, hb1, hn1, hid⟩ := id_yes hN hc0
    rw [hok] at hH
    refine wp_skip ?_
    refine then_n ?_
    refine c_seq ?_
    refine reg_plain w0 (fun x => x = cb) ?_
    refine r_move hS hH.kp0 rfl rfl ?_; clear hS; intro a hS
    refine r_move hS hH.kp0 rfl rfl ?_; clear hS; intro a hS
    refine r_call (l := [.tmp 11, .tmp 12]) hS rfl rfl Fc.fn20 rfl ?_
    refine Calls.mono (bytes_c cb p1 qc q l 0 n1 _ rfl hle1 hl h1 (by omega) _ (hH.get (by repeat (first | exact In.here | refine In.there ?_))) (hb.go hH.mod (fun x hx => .inl hx))) ?_
    rintro e w1 ⟨r, rfl, hr, hcb3, hm3⟩
    have hsz := hH.mod.size
    replace hH := hH.modPut hm3 hcb3 (by first | exact .here | exact .there .here | exact .there (.there .here) | exact .there (.there (.there .here)) | exact .there (.there (.there (.there .here))) | exact .there (.there (.there (.there (.there .here)))) | exact .there (.there (.there (.there (.there (.there .here))))) | exact .there (.there (.there (.there (.there (.there (.there .here)))))) | exact .there (.there (.there (.there (.there (.there (.there (.there .here))))))) | exact .there (.there (.there (.there (.there (.there (.there (.there (.there .here)))))))) | exact .there (.there (.there (.there (.there (.there (.there (.there (.there (.there .here))))))))) | exact .there (.there (.there (.there (.there (.there (.there (.there (.there (.there (.there .here)))))))))) | exact .there (.there (.there (.there (.there (.there (.there (.there (.there (.there (.there (.there .here))))))))))) | exact .there (.there (.there (.there (.there (.there (.there (.there (.there (.there (.there (.there (.there .here)))))))))))) | exact .there (.there (.there (.there (.there (.there (.there (.there (.there (.there (.there (.there (.there (.there .here))))))))))))) | exact .there (.there (.there (.there (.there (.there (.there (.there (.there (.there (.there (.there (.there (.there (.there .here))))))))))))))) (.inl rfl)
    refine ⟨_, rfl, hH.kp0, ?_⟩
    clear hS; intro a hS
    refine r_assign hS hH.kp0 rfl rfl ?_; clear hS; intro a hS
    refine Sq.nil ?_
    refine then_n ?_
    refine wp_ret ?_
    rw [hid]
    exact leave (.inl rfl) hS rfl (Res.tmp rfl Res.nil) ⟨r, rfl, hr.mono hsz, hH.get (by repeat (first | exact In.here | refine In.there ?_)), hH.mod⟩

set_option maxRecDepth 100000 in
set_option maxHeartbeats 4000000 in
theorem Var_c (q : Option Addr) (qc : Nat) (l : List UInt8) (p : Nat) (hp : p ≤ l.length) (h1 : 0 < l.length) (hl : l.length ≤ 1099511627776) (w0 : World) (WT : TypeId) (WF : Nat × Nat) (hw0 : w0.heap[0]? = some (.cells [.int .i64 6, .int .i64 14, .int .i64 30, .int .i64 62].toArray WT WF)) (hb : Bs w0 (.slice q l.length qc) l) : Calls Tryd.prog 52 #[.slice q l.length qc, .int .i64 (p : Int)] w0 fun e w' => ∃ (x y z : Int), e = .returned (.tuple #[.int .i64 x, .int .i64 y, .int .i64 z]) ∧ VarR l p x y z ∧ Ext w0 w' := by
  refine enter Tryd.func52 rfl rfl rfl ?_
  intro a hS
  have hH := Hp.start w0 (Nobody)
  have hbw := hb.f.len
  obtain ⟨ba, bo, hq⟩ := hb.f.addr h1
  subst hq
  replace hH := hH.know hw0 (fun p hp => by simp at hp)
  refine c_seq ?_
  refine reg_plain w0 (Nobody) ?_
  refine r_assign hS hH.kp0 rfl rfl ?_; clear hS; intro a hS
  refine r_assign hS hH.kp0 rfl rfl ?_; clear hS; intro a hS
  refine r_assign hS hH.kp0 rfl rfl ?_; clear hS; intro a hS
  refine Sq.nil ?_
  refine then_n ?_
  refine c_seq ?_
  refine c_seq ?_
  refine reg_plain w0 (Nobody) ?_
  refine r_move hS hH.kp0 rfl rfl ?_; clear hS; intro a hS
  refine r_lss hS hH.kp0 rfl rfl rfl ?_; clear hS; intro a hS
  refine r_move hS hH.kp0 rfl rfl ?_; clear hS; intro a hS
  refine Sq.guardYes hS rfl rfl (DF (by omega)) ?_
  refine r_move hS hH.kp0 rfl rfl ?_; clear hS; intro a hS
  refine Sq.guardYes hS rfl rfl (DF (by omega)) ?_
  refine r_move hS hH.kp0 rfl rfl ?_; clear hS; intro a hS
  refine Sq.guardYes hS rfl rfl (DF (by omega)) ?_
  refine r_lenSl hS hH.kp0 rfl Fc.isSlice22 rfl ?_; clear hS; intro a hS
  refine Sq.guardYes hS rfl rfl (DF (by omega)) ?_
  refine r_gtr hS hH.kp0 rfl rfl rfl ?_; clear hS; intro a hS
  refine r_pickF hS hH.kp0 rfl (DF (by omega)) rfl rfl ?_; clear hS; intro a hS
  refine Sq.nil ?_
  refine then_n ?_
  refine c_condF hS rfl (DF (by omega)) ?_
  refine wp_skip ?_
  refine then_n ?_
  refine c_seq ?_
  refine reg_plain w0 (Nobody) ?_
  refine r_move hS hH.kp0 rfl rfl ?_; clear hS; intro a hS
  refine r_move hS hH.kp0 rfl rfl ?_; clear hS; intro a hS
  refine r_slLo (ll := p) hS hH.kp0 rfl rfl Fc.slb22 rfl hp rfl ?_; clear hS; intro a hS
  refine r_assign hS hH.kp0 rfl rfl ?_; clear hS; intro a hS
  refine Sq.nil ?_
  refine then_n ?_
  refine c_seq ?_
  refine c_seq ?_
  have hlow := hb.f.low (ll := p) rfl hp
  have hbw := hb.f.len
  obtain ⟨r, hr⟩ : ∃ r, l.drop p = r := ⟨_, rfl⟩
  have hrl : l.length - p = r.length := by rw [← hr]; simp
  rw [hr, hrl] at hlow
  rw [hrl] at hS
  obtain ⟨ra, hra⟩ : ∃ z : Addr, (if qc = p then (⟨ba, bo, none⟩ : Addr) else ⟨ba, bo + p * 1, none⟩) = z := ⟨_, rfl⟩
  rw [hra] at hS hlow
  obtain ⟨rc, hrc⟩ : ∃ z, qc - p = z := ⟨_, rfl⟩
  rw [hrc] at hS hlow
  have hfl := hlow.len
  refine reg_plain w0 (Nobody) ?_
  refine r_move hS hH.kp0 rfl rfl ?_; clear hS; intro a hS
  refine r_lenSl hS hH.kp0 rfl Fc.isSlice22 rfl ?_; clear hS; intro a hS
  refine r_eql hS hH.kp0 rfl rfl rfl ?_; clear hS; intro a hS
  by_cases hr0 : (r.length : Int) = 0
  · refine r_move hS hH.kp0 rfl rfl ?_; clear hS; intro a hS
    refine Sq.guardNo hS rfl rfl (DT hr0) hH.kp0 rfl ?_; clear hS; intro a hS
    refine Sq.guardNo hS rfl rfl (DT hr0) hH.kp0 rfl ?_; clear hS; intro a hS
    refine Sq.guardNo hS rfl rfl (DT hr0) hH.kp0 rfl ?_; clear hS; intro a hS
    refine Sq.guardNo hS rfl rfl (DT hr0) hH.kp0 rfl ?_; clear hS; intro a hS
    refine Sq.guardNo hS rfl rfl (DT hr0) hH.kp0 rfl ?_; clear hS; intro a hS
    refine Sq.guardNo hS rfl rfl (DT hr0) hH.kp0 rfl ?_; clear hS; intro a hS
    refine Sq.guardNo hS rfl rfl (DT hr0) hH.kp0 rfl ?_; clear hS; intro a hS
    refine Sq.guardNo hS rfl rfl (DT hr0) hH.kp0 rfl ?_; clear hS; intro a hS
    refine r_pickT hS hH.kp0 rfl (DT hr0) rfl rfl ?_; clear hS; intro a hS
    refine Sq.nil ?_
    refine then_n ?_
    refine c_condT hS rfl rfl ?_
    refine c_seq ?_
    refine reg_plain w0 (Nobody) ?_
    refine r_assign hS hH.kp0 rfl rfl ?_; clear hS; intro a hS
    refine r_assign hS hH.kp0 rfl rfl ?_; clear hS; intro a hS
    refine r_assign hS hH.kp0 rfl rfl ?_; clear hS; intro a hS
    refine Sq.nil ?_
    refine then_n ?_
    refine wp_ret ?_
    refine then_r ?_
    have hr00 : r = [] := List.eq_nil_of_length_eq_zero (by omega)
    exact leave (.inl rfl) hS rfl (Res.tmp rfl (Res.tmp rfl (Res.tmp rfl Res.nil))) ⟨_, _, _, rfl, .inr ⟨varN_none (hr.trans hr00), rfl⟩, hH.mod⟩
  · obtain ⟨ba2, bo2, hra2⟩ := hlow.addr (by omega)
    cases hra2
    obtain ⟨x, hx⟩ : ∃ x, r[0]? = some x := ⟨_, List.getElem?_eq_getElem (by omega)⟩
    have hcell := fun w (hw : Mod Nobody w0 w) => hlow.byte hw hx
    have hxl := x.toNat_lt
    obtain ⟨k, hk⟩ : ∃ k, x.toNat / 64 = k := ⟨_, rfl⟩
    have hx3 : k ≤ 3 := by omega
    obtain ⟨hz8, hz1⟩ := pow3 hx3
    have hw62 : 2 ^ (8 * 2 ^ (k) - 2) < 18446744073709551616 := Nat.lt_of_le_of_lt (Nat.pow_le_pow_right (n := 2) (by omega) (show 8 * 2 ^ (k) - 2 ≤ 62 by omega)) (by decide)
    have hw1 := Nat.two_pow_pos (8 * 2 ^ (k) - 2)
    have hw63 : 2 ^ (8 * 2 ^ (k) - 2) ≤ 4611686018427387904 := Nat.le_trans (Nat.pow_le_pow_right (n := 2) (by omega) (show 8 * 2 ^ (k) - 2 ≤ 62 by omega)) (by decide)
    refine r_move hS hH.kp0 rfl rfl ?_; clear hS; intro a hS
    refine Sq.guardYes hS rfl rfl (DF hr0) ?_
    refine r_move hS hH.kp0 rfl rfl ?_; clear hS; intro a hS
    refine Sq.guardYes hS rfl rfl (DF hr0) ?_
    refine r_lenSl hS hH.kp0 rfl Fc.isSlice22 rfl ?_; clear hS; intro a hS
    refine Sq.guardYes hS rfl rfl (DF hr0) ?_
    refine r_move hS hH.kp0 rfl rfl ?_; clear hS; intro a hS
    refine Sq.guardYes hS rfl rfl (DF hr0) ?_
    refine r_indexAddrS (j := 0) hS hH.kp0 rfl rfl Fc.slb22 rfl (by omega) rfl ?_; clear hS; intro a hS
    refine Sq.guardYes hS rfl rfl (DF hr0) ?_
    refine r_load_cell (v := byteV x) hS hH.kp0 rfl (by rw [Nat.zero_mul]; exact hcell _ hH.mod) Fc.sc5 rfl ?_; clear hS; intro a hS
    refine Sq.guardYes hS rfl rfl (DF hr0) ?_
    refine r_shrB x.toNat 6 hS hH.kp0 rfl rfl rfl rfl (by decide) ?_; clear hS; intro a hS
    rw [show x.toNat / 2 ^ 6 = k from hk] at hS
    refine Sq.guardYes hS rfl rfl (DF hr0) ?_
    refine r_shlI (k) hS hH.kp0 rfl rfl rfl rfl (by omega) ?_; clear hS; intro a hS
    refine Sq.guardYes hS rfl rfl (DF hr0) ?_
    refine r_lss hS hH.kp0 rfl rfl rfl ?_; clear hS; intro a hS
    refine r_pickF hS hH.kp0 rfl (DF hr0) rfl rfl ?_; clear hS; intro a hS
    refine Sq.nil ?_
    refine then_n ?_
    refine c_cond hS rfl (fun hc1 => ?_) (fun hc1 => ?_)
    · have hsh := of_decide_eq_true hc1
      refine c_seq ?_
      refine reg_plain w0 (Nobody) ?_
      refine r_assign hS hH.kp0 rfl rfl ?_; clear hS; intro a hS
      refine r_assign hS hH.kp0 rfl rfl ?_; clear hS; intro a hS
      refine r_assign hS hH.kp0 rfl rfl ?_; clear hS; intro a hS
      refine Sq.nil ?_
      refine then_n ?_
      refine wp_ret ?_
      refine then_r ?_
      exact leave (.inl rfl) hS rfl (Res.tmp rfl (Res.tmp rfl (Res.tmp rfl Res.nil))) ⟨_, _, _, rfl, .inr ⟨varN_short hr hx (by rw [hk]; omega), rfl⟩, hH.mod⟩
    · have hsh := of_decide_eq_false hc1
      have hns : ¬ r.length < 2 ^ k := by omega
      refine wp_skip ?_
      refine then_n ?_
      refine c_seq ?_
      refine reg_plain w0 (Nobody) ?_
      refine r_move hS hH.kp0 rfl rfl ?_; clear hS; intro a hS
      refine r_indexAddrS (j := 0) hS hH.kp0 rfl rfl Fc.slb22 rfl (by omega) rfl ?_; clear hS; intro a hS
      refine r_load_cell (v := byteV x) hS hH.kp0 rfl (by rw [Nat.zero_mul]; exact hcell _ hH.mod) Fc.sc5 rfl ?_; clear hS; intro a hS
      refine r_shrB x.toNat 6 hS hH.kp0 rfl rfl rfl rfl (by decide) ?_; clear hS; intro a hS
      rw [show x.toNat / 2 ^ 6 = k from hk] at hS
      refine r_assign hS hH.kp0 rfl rfl ?_; clear hS; intro a hS
      refine Sq.nil ?_
      refine then_n ?_
      refine c_seq ?_
      refine reg_plain w0 (Nobody) ?_
      refine r_move hS hH.kp0 rfl rfl ?_; clear hS; intro a hS
      refine r_shlI (k) hS hH.kp0 rfl rfl rfl rfl (by omega) ?_; clear hS; intro a hS
      refine r_assign hS hH.kp0 rfl rfl ?_; clear hS; intro a hS
      refine Sq.nil ?_
      refine then_n ?_
      refine c_seq ?_
      refine reg_draw [(true, 0, []), (true, 1, []), (true, 2, []), (true, 4, []), (true, 5, []), (true, 6, []), (true, 7, []), (true, 8, []), (true, 11, []), (true, 12, []), (true, 13, []), (false, 3, []), (true, 9, []), (false, 10, []), (true, 14, []), (true, 15, []), (true, 16, [])] Fc.mixed (by kernel_rfl) (by kernel_rfl) (by kernel_rfl) (by kernel_rfl) (by kernel_rfl) (by repeat (first | with_reducible exact steady_body | with_reducible apply steady_block | with_reducible apply steady_then | with_reducible apply steady_scope | exact steady_body)) hH ?_
      replace hH := hH.drew
      refine r_move hS trivial rfl rfl ?_; clear hS; intro a hS
      refine r_move hS trivial rfl rfl ?_; clear hS; intro a hS
      refine r_slHi (hh := 2 ^ (k)) hS trivial rfl rfl Fc.slb22 rfl (by omega) (by intro q h; cases h; rfl) rfl ?_; clear hS; intro a hS
      refine r_move hS trivial rfl rfl ?_; clear hS; intro a hS
      refine r_indexAddrA (j := k) hS trivial rfl rfl Fc.ar92 rfl (by omega) rfl ?_; clear hS; intro a hS
      refine r_load_scS (v := .int .i64 ((8 * 2 ^ (k) - 2 : Nat) : Int)) hS rfl (by repeat (first | exact In.here | refine In.there ?_)) Fc.sc3 (by rw [Nat.zero_add, Nat.mul_one]; exact wid_get hx3) rfl ?_; clear hS; intro a hS
      refine r_shlN (m := 1) (8 * 2 ^ (k) - 2) (2 ^ (8 * 2 ^ (k) - 2)) hS trivial rfl rfl rfl rfl (by omega) (by rw [Nat.one_mul]; exact Nat.mod_eq_of_lt hw62) ?_; clear hS; intro a hS
      refine r_subN (m := 2 ^ (8 * 2 ^ (k) - 2)) (m' := 1) (2 ^ (8 * 2 ^ (k) - 2) - 1) hS trivial rfl rfl rfl (by decide) (by omega) ?_; clear hS; intro a hS
      refine r_move hS trivial rfl rfl ?_; clear hS; intro a hS
      refine r_move hS trivial rfl rfl ?_; clear hS; intro a hS
      refine r_add hS trivial rfl rfl rfl (by omega) ?_; clear hS; intro a hS
      refine r_call (l := [.tmp 42]) hS rfl rfl Fc.fn51 rfl ?_
      refine Calls.mono (read_c _ (r.take (2 ^ (k))) (by simp; omega) _ (by have h := (hlow.go hH.mod (F' := Nobody) (fun x hx => hx.elim)).part (ll := 0) (hh := 2 ^ (k)) (by omega) (by omega); rw [List.drop_zero, Nat.sub_zero, Nat.sub_zero] at h; have hrc0 : ¬ rc = 0 := (by omega); rw [if_neg hrc0, Nat.zero_mul, Nat.add_zero] at h; exact h.bs)) ?_
      rintro e w1 ⟨rfl, hE⟩
      have hread : beN (r.take (2 ^ (k))) < 18446744073709551616 := by have h1 := beN_take r (2 ^ (k)) (by omega); have h2 : 256 ^ (2 ^ (k)) ≤ 256 ^ 8 := Nat.pow_le_pow_right (by omega) hz8; have h3 : (256 : Nat) ^ 8 = 18446744073709551616 := (by decide); omega
      replace hH := hH.ext hE
      refine ⟨_, rfl, hH.kp (by repeat (first | exact Sub.nil | refine Sub.cons ?_ ?_ | exact In.here | refine In.there ?_)), ?_⟩
      clear hS; intro a hS
      refine r_maskN (beN (r.take (2 ^ (k)))) (8 * 2 ^ (k) - 2) hS trivial rfl rfl rfl rfl (by omega) hread ?_; clear hS; intro a hS
      refine r_toI64 (beN (r.take (2 ^ (k))) % 2 ^ (8 * 2 ^ (k) - 2)) hS (hH.kp (by repeat (first | exact Sub.nil | refine Sub.cons ?_ ?_ | exact In.here | refine In.there ?_))) rfl Fc.ui3 Fc.us36 rfl rfl (by have := Nat.mod_lt (beN (r.take (2 ^ (k)))) (Nat.two_pow_pos (8 * 2 ^ (k) - 2)); omega) ?_; clear hS; intro a hS
      refine r_assign hS trivial rfl rfl ?_; clear hS; intro a hS
      refine r_assign hS trivial rfl rfl ?_; clear hS; intro a hS
      refine r_assign hS trivial rfl rfl ?_; clear hS; intro a hS
      refine Sq.nil ?_
      refine then_n ?_
      refine wp_ret ?_
      have hvs := varN_some hr hx (by rw [hk]; omega)
      rw [hk] at hvs
      exact leave (.inl rfl) hS rfl (Res.tmp rfl (Res.tmp rfl (Res.tmp rfl Res.nil))) ⟨_, _, _, rfl, .inl ⟨_, _, hvs, rfl, by omega, rfl⟩, hH.mod⟩

set_option maxRecDepth 100000 in
set_option maxHeartbeats 400000 in
theorem long_c (cb p qc : Nat) (q : Option Addr) (l : List UInt8) (bad : Int) (hp : p ≤ l.length) (hl : l.length ≤ 1099511627776) (h1 : 0 < l.length) (hcz : cb ≠ 0) (w0 : World) (WT : TypeId) (WF : Nat × Nat) (hw0 : w0.heap[0]? = some (.cells [.int .i64 6, .int .i64 14, .int .i64 30, .int .i64 62].toArray WT WF)) (h : w0.heap[cb]? = some (.cells [.slice q l.length qc, .int .i64 (p : Int), .int .i64 bad].toArray 50 (0, 0))) (hb : BsF (· = cb) w0 (.slice q l.length qc) l) : Calls Tryd.prog 37 #[.pointer (some ⟨cb, 0, none⟩)] w0 fun e w' => e = .returned (.int .i64 ((longC l ⟨p, bad⟩).1 : Int)) ∧ w'.heap[cb]? = some (.cells [.slice q l.length qc, .int .i64 ((longC l ⟨p, bad⟩).2.p : Int), .int .i64 (longC l ⟨p, bad⟩).2.bad].toArray 50 (0, 0)) ∧ Mod (· = cb) w0 w' := by
  refine enter Tryd.func37 rfl rfl rfl ?_
  intro a hS
  have hH := Hp.start w0 (fun x => x = cb)
  replace hH := hH.know hw0 (fun p hp => by simp at hp)
  replace hH := hH.know h (fun p hp => by simp at hp; subst hp; exact Ne.symm hcz)
  refine c_seq ?_
  refine reg_plain w0 (fun x => x = cb) ?_
  refine r_assign hS hH.kp0 rfl rfl ?_; clear hS; intro a hS
  refine Sq.nil ?_
  refine then_n ?_
  refine c_seq ?_
  refine reg_draw [(true, 0, []), (true, 1, []), (true, 2, []), (true, 3, []), (true, 4, []), (true, 5, []), (true, 6, []), (true, 7, []), (false, 8, []), (true, 9, []), (true, 10, []), (true, 11, []), (true, 12, []), (true, 13, []), (true, 14, []), (true, 15, [])] Fc.mixed (by kernel_rfl) (by kernel_rfl) (by kernel_rfl) (by kernel_rfl) (by kernel_rfl) (by repeat (first | with_reducible exact steady_body | with_reducible apply steady_block | with_reducible apply steady_then | with_reducible apply steady_scope | exact steady_body)) hH ?_
  replace hH := hH.drew
  refine r_move hS trivial rfl rfl ?_; clear hS; intro a hS
  refine r_nilCheck hS trivial rfl rfl ?_; clear hS; intro a hS
  refine r_fieldAddr hS trivial rfl Fc.fo50_0 rfl ?_; clear hS; intro a hS
  refine r_load_scS hS rfl (by repeat (first | exact In.here | refine In.there ?_)) Fc.sc22 (by rfl) rfl ?_; clear hS; intro a hS
  refine r_move hS trivial rfl rfl ?_; clear hS; intro a hS
  refine r_nilCheck hS trivial rfl rfl ?_; clear hS; intro a hS
  refine r_fieldAddr hS trivial rfl Fc.fo50_1 rfl ?_; clear hS; intro a hS
  refine r_load_scS hS rfl (by repeat (first | exact In.here | refine In.there ?_)) Fc.sc3 (by rfl) rfl ?_; clear hS; intro a hS
  refine r_call (l := [.tmp 10, .tmp 14]) hS rfl rfl Fc.fn52 rfl ?_
  refine Calls.mono (Var_c q qc l p hp h1 hl _ WT WF (hH.get (b := 0) (by repeat (first | exact In.here | refine In.there ?_))) (hb _ hH.mod)) ?_
  rintro e w1 ⟨x, y, z, rfl, hg, hE⟩
  replace hH := hH.ext hE
  refine ⟨_, rfl, hH.kp (by repeat (first | exact Sub.nil | refine Sub.cons ?_ ?_ | exact In.here | refine In.there ?_)), ?_⟩
  clear hS; intro a hS
  refine r_move hS trivial rfl rfl ?_; clear hS; intro a hS
  refine r_extract hS trivial rfl rfl rfl ?_; clear hS; intro a hS
  refine r_extract hS trivial rfl rfl rfl ?_; clear hS; intro a hS
  refine r_extract hS trivial rfl rfl rfl ?_; clear hS; intro a hS
  refine r_assign hS trivial rfl rfl ?_; clear hS; intro a hS
  refine r_assign hS trivial rfl rfl ?_; clear hS; intro a hS
  refine r_assign hS trivial rfl rfl ?_; clear hS; intro a hS
  refine Sq.nil ?_
  refine then_n ?_
  refine c_seq ?_
  refine c_seq ?_
  refine reg_plain w0 (fun x => x = cb) ?_
  refine r_move hS hH.kp0 rfl rfl ?_; clear hS; intro a hS
  refine r_move hS hH.kp0 rfl rfl ?_; clear hS; intro a hS
  refine r_eql hS hH.kp0 rfl rfl rfl ?_; clear hS; intro a hS
  refine r_call (l := [.tmp 19, .tmp 21, .const (.int .i64 10)]) hS rfl rfl Fc.fn19 rfl ?_
  refine Calls.mono (ok_c cb _ _ bad 10 (decide (z = 0)) p rfl _ (hH.get (by repeat (first | exact In.here | refine In.there ?_)))) ?_
  rintro e w1 ⟨rfl, hcb2, hm2⟩
  replace hH := hH.modPut hm2 hcb2 (by first | exact .here | exact .there .here | exact .there (.there .here) | exact .there (.there (.there .here)) | exact .there (.there (.there (.there .here))) | exact .there (.there (.there (.there (.there .here)))) | exact .there (.there (.there (.there (.there (.there .here))))) | exact .there (.there (.there (.there (.there (.there (.there .here)))))) | exact .there (.there (.there (.there (.there (.there (.there (.there .here))))))) | exact .there (.there (.there (.there (.there (.there (.there (.there (.there .here)))))))) | exact .there (.there (.there (.there (.there (.there (.there (.there (.there (.there .here))))))))) | exact .there (.there (.there (.there (.there (.there (.there (.there (.there (.there (.there .here)))))))))) | exact .there (.there (.there (.there (.there (.there (.there (.there (.there (.there (.there (.there .here))))))))))) | exact .there (.there (.there (.there (.there (.there (.there (.there (.there (.there (.there (.there (.there .here)))))))))))) | exact .there (.there (.there (.there (.there (.there (.there (.there (.there (.there (.there (.there (.there (.there .here))))))))))))) | exact .there (.there (.there (.there (.there (.there (.there (.there (.there (.there (.there (.there (.there (.there (.there .here))))))))))))))) (.inl rfl)
  refine ⟨_, rfl, hH.kp0, ?_⟩
  clear hS; intro a hS
  refine r_not hS hH.kp0 rfl rfl ?_; clear hS; intro a hS
  refine Sq.nil ?_
  refine then_n ?_
  refine c_cond hS rfl (fun hc0 => ?_) (fun hc0 => ?_)
  · refine c_seq ?_
    refine reg_plain w0 (fun x => x = cb) ?_
    refine r_assign hS hH.kp0 rfl rfl ?_; clear hS; intro a hS
    refine Sq.nil ?_
    refine then_n ?_
    refine wp_ret ?_
    refine then_r ?_
    rw [lon_no hg hc0]
    exact leave (.inl rfl) hS rfl (Res.tmp rfl Res.nil) ⟨rfl, hH.get (by repeat (first | exact In.here | refine In.there ?_)), hH.mod⟩
  · obtain ⟨v1, p1, hx, hy, hok, hlon⟩ := lon_yes hg hc0
    subst hx hy
    refine wp_skip ?_
    refine then_n ?_
    refine c_seq ?_
    refine reg_plain w0 (fun x => x = cb) ?_
    refine r_move hS hH.kp0 rfl rfl ?_; clear hS; intro a hS
    refine r_move hS hH.kp0 rfl rfl ?_; clear hS; intro a hS
    refine r_nilCheck hS hH.kp0 rfl rfl ?_; clear hS; intro a hS
    refine r_fieldAddr hS hH.kp0 rfl Fc.fo50_1 rfl ?_; clear hS; intro a hS
    refine r_store1 hS hH rfl rfl rfl (by first | exact .here | exact .there .here | exact .there (.there .here) | exact .there (.there (.there .here)) | exact .there (.there (.there (.there .here))) | exact .there (.there (.there (.there (.there .here)))) | exact .there (.there (.there (.there (.there (.there .here))))) | exact .there (.there (.there (.there (.there (.there (.there .here)))))) | exact .there (.there (.there (.there (.there (.there (.there (.there .here))))))) | exact .there (.there (.there (.there (.there (.there (.there (.there (.there .here)))))))) | exact .there (.there (.there (.there (.there (.there (.there (.there (.there (.there .here))))))))) | exact .there (.there (.there (.there (.there (.there (.there (.there (.there (.there (.there .here)))))))))) | exact .there (.there (.there (.there (.there (.there (.there (.there (.there (.there (.there (.there .here))))))))))) | exact .there (.there (.there (.there (.there (.there (.there (.there (.there (.there (.there (.there (.there .here)))))))))))) | exact .there (.there (.there (.there (.there (.there (.there (.there (.there (.there (.there (.there (.there (.there .here))))))))))))) | exact .there (.there (.there (.there (.there (.there (.there (.there (.there (.there (.there (.there (.there (.there (.there .here))))))))))))))) (by repeat (first | exact Sub.nil | refine Sub.cons ?_ ?_ | exact In.here | refine In.there ?_)) Fc.sz3 (of_decide_eq_true rfl) (.inl rfl) ?_
    clear hH; intro w hH
    refine Sq.nil ?_
    refine then_n ?_
    refine c_seq ?_
    refine reg_plain w0 (fun x => x = cb) ?_
    refine r_move hS hH.kp0 rfl rfl ?_; clear hS; intro a hS
    refine r_assign hS hH.kp0 rfl rfl ?_; clear hS; intro a hS
    refine Sq.nil ?_
    refine then_n ?_
    refine wp_ret ?_
    rw [hlon]
    rw [hok] at hH
    exact leave (.inl rfl) hS rfl (Res.tmp rfl Res.nil) ⟨rfl, hH.get (by repeat (first | exact In.here | refine In.there ?_)), hH.mod⟩

end Go.Proofs.YtcenionnedgadaaDoor
